/- The walk of ClockSums: it answers true and writes nothing that was there. -/
import Derived.Test.YtcgkbnifommgdaaClock
namespace Go.Proofs.Ytcgkbnifommgdaa
open Go.RowKit
set_option linter.unusedSimpArgs false
set_option linter.unusedVariables false
attribute [local go_sem] max2_of min2_of max_of min_of

set_option maxHeartbeats 1000000 in
theorem sums_walk (a b : Int) (w : World) (a0 : -9223372036854775808 ≤ a ∧ a ≤ 9223372036854775807) (b0 : -9223372036854775808 ≤ b ∧ b ≤ 9223372036854775807) :
    Calls Try.prog 5 #[.int .i64 a, .int .i64 b] w fun e w' => e = .returned (.bool true) ∧ Kp Non w w' := by
  go_enter Try.func5, Try.ntmps5
  go_wp2_with fail
  refine (shown_calls _).mono ?_
  rintro e w1 ⟨rfl, k1⟩
  go_wp2_with fail
  refine (new_calls _).mono ?_
  rintro e w2 ⟨c, rfl, hc2, bc2, k2⟩
  go_wp2_with fail
  refine (new_calls _).mono ?_
  rintro e w3 ⟨d, rfl, hd3, bd3, k3⟩
  have bc3 : Clk w3 c 0 := bc2.keep k3
  have hcw : w.heap.size ≤ c := by have := k1.size; omega
  have hdw : w.heap.size ≤ d := by have := k1.size; have := k2.size; omega
  have hcd : c < d := by have := bc2.lt; omega
  have K3 : Kp Non w w3 := (k1.seq k2).seq k3
  clear k1 k2 k3
  go_wp2_with fail
  refine (tick_calls c 0 a _ bc3 (by omega) (by omega)).mono ?_
  rintro e w4 ⟨rfl, bc4, k4⟩
  have bd4 : Clk w4 d 0 := bd3.kp k4 (fun h => by have : d = c := h; omega)
  have K4 : Kp Non w w4 := K3.trans k4 (fun i hi => .inr (by have : i = c := hi; omega))
  have va := aft_bd (t := 0) a (by omega) (by omega)
  have ca := bc4.cell 0
  simp at ca
  go_wp2_with fail
  refine (now_calls _ _).mono ?_
  rintro e w5 ⟨rfl, k5⟩
  have bc5 : Clk w5 c (aft 0 a) := bc4.keep k5
  have bd5 : Clk w5 d 0 := bd4.keep k5
  have K5 := K4.seq k5
  clear K3 K4 ca
  go_wp2_with fail
  refine (tick_calls c (aft 0 a) b _ bc5 va.1 va.2).mono ?_
  rintro e w6 ⟨rfl, bc6, k6⟩
  have bd6 : Clk w6 d 0 := bd5.kp k6 (fun h => by have : d = c := h; omega)
  have K6 : Kp Non w w6 := K5.trans k6 (fun i hi => .inr (by have : i = c := hi; omega))
  go_wp2_with fail
  refine (tick_calls d 0 b _ bd6 (by omega) (by omega)).mono ?_
  rintro e w7 ⟨rfl, bd7, k7⟩
  have bc7 : Clk w7 c (aft (aft 0 a) b) := bc6.kp k7 (fun h => by have : c = d := h; omega)
  have K7 : Kp Non w w7 := K6.trans k7 (fun i hi => .inr (by have : i = d := hi; omega))
  have vb := aft_bd (t := 0) b (by omega) (by omega)
  go_wp2_with fail
  refine (tick_calls d (aft 0 b) a _ bd7 vb.1 vb.2).mono ?_
  rintro e w8 ⟨rfl, bd8, k8⟩
  have bc8 : Clk w8 c (aft (aft 0 a) b) := bc7.kp k8 (fun h => by have : c = d := h; omega)
  have K8 : Kp Non w w8 := K7.trans k8 (fun i hi => .inr (by have : i = d := hi; omega))
  clear K5 K6 K7 k4 k5 k6 k7 k8
  have e1 : aft 0 a = min (max a 0) 9223372036854775806 := by unfold aft; omega
  by_cases c0 : max a 0 < 9223372036854775806 - min (max b 0) 9223372036854775806
  · have e2 : aft (aft 0 a) b = max a 0 + max b 0 := by unfold aft; omega
    have e3 : aft (aft 0 b) a = max a 0 + max b 0 := by unfold aft; omega
    rw [e2] at bc8
    rw [e3] at bd8
    rw [e1]
    clear e1 e2 e3 va vb bc4 bc5 bc6 bc7 bd7 bc2 bc3 bd3 bd4 bd5 bd6
    have cc := bc8.cell 0
    simp at cc
    go_wp2_with fail
    refine (now_calls _ _).mono ?_
    rintro e w9 ⟨rfl, k9⟩
    have bd9 := bd8.keep k9
    have cd := bd9.cell 0
    simp at cd
    go_wp2_with fail
    refine (now_calls _ _).mono ?_
    rintro e w10 ⟨rfl, k10⟩
    go_wp2
    go_ret
    exact ⟨rfl, (K8.seq k9).seq k10⟩
  · have e2 : aft (aft 0 a) b = 9223372036854775806 := by unfold aft; omega
    have e3 : aft (aft 0 b) a = 9223372036854775806 := by unfold aft; omega
    rw [e2] at bc8
    rw [e3] at bd8
    rw [e1]
    clear e1 e2 e3 va vb bc4 bc5 bc6 bc7 bd7 bc2 bc3 bd3 bd4 bd5 bd6
    have cc := bc8.cell 0
    simp at cc
    go_wp2_with fail
    refine (now_calls _ _).mono ?_
    rintro e w9 ⟨rfl, k9⟩
    have bd9 := bd8.keep k9
    have cd := bd9.cell 0
    simp at cd
    go_wp2_with fail
    refine (now_calls _ _).mono ?_
    rintro e w10 ⟨rfl, k10⟩
    go_wp2
    go_ret
    exact ⟨rfl, (K8.seq k9).seq k10⟩

end Go.Proofs.Ytcgkbnifommgdaa

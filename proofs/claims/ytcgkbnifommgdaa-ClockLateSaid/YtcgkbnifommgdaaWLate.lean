/- The walk of ClockLate: it answers true and writes nothing that was there. -/
import Derived.Test.YtcgkbnifommgdaaClock
namespace Go.Proofs.Ytcgkbnifommgdaa
open Go.RowKit
set_option linter.unusedSimpArgs false
set_option linter.unusedVariables false
attribute [local go_sem] max2_of min2_of max_of min_of

set_option maxHeartbeats 1000000 in
theorem late_walk (ahead d cut : Int) (w : World) (a0 : -9223372036854775808 ≤ ahead ∧ ahead ≤ 9223372036854775807) (b0 : -9223372036854775808 ≤ d ∧ d ≤ 9223372036854775807) (c0 : -9223372036854775808 ≤ cut ∧ cut ≤ 9223372036854775807) :
    Calls Try.prog 4 #[.int .i64 ahead, .int .i64 d, .int .i64 cut] w fun e w' => e = .returned (.bool true) ∧ Kp Non w w' := by
  go_enter Try.func4, Try.ntmps4
  go_wp2_with fail
  refine (shown_calls _).mono ?_
  rintro e w1 ⟨rfl, k1⟩
  go_wp2_with fail
  refine (new_calls _).mono ?_
  rintro e w2 ⟨g, rfl, hg2, hb2, k2⟩
  go_wp2_with fail
  refine (tick_calls g 0 ahead _ hb2 (by omega) (by omega)).mono ?_
  rintro e w3 ⟨rfl, hb3, k3⟩
  go_wp2_with fail
  have et : aft 0 ahead = max (min ahead 9223372036854775806) 0 := by unfold aft; omega
  rw [et] at hb3
  have t0 : 0 ≤ max (min ahead 9223372036854775806) 0 := by omega
  have t1 : max (min ahead 9223372036854775806) 0 ≤ 9223372036854775806 := by omega
  clear et
  generalize max (min ahead 9223372036854775806) 0 = t at hb3 t0 t1 ⊢
  have K3 : Kp Non w w3 := ((k1.seq k2).trans k3 (fun i hi => .inr (by have : i = g := hi; have := k1.size; omega)))
  have hgw : w.heap.size ≤ g := by have := k1.size; omega
  clear k1 k2 k3
  refine (due_calls g t d _ hb3 t0 t1).mono ?_
  rintro e w4 ⟨rfl, k4⟩
  have hb4 : Clk w4 g t := hb3.keep k4
  have K4 := K3.seq k4
  by_cases c : d < 1 ∨ 9223372036854775806 - t < d
  · have e1 : dueF t d = 9223372036854775807 := by unfold dueF; rw [if_pos c]
    rw [e1]
    have e2 : ∀ n, lateF t n 9223372036854775807 = false := fun n => late_no (.inl rfl)
    by_cases c1 : d < 1
    all_goals
      go_wp2_with fail
      refine (late_calls g t _ _ _ hb4 t0 t1).mono ?_
      rintro e w5 ⟨rfl, k5⟩
      rw [e2]
      have hb5 : Clk w5 g t := hb4.keep k5
      go_wp2_with fail
      refine (late_calls g t _ _ _ hb5 t0 t1).mono ?_
      rintro e w6 ⟨rfl, k6⟩
      rw [e2]
      go_wp2
      go_ret
      exact ⟨rfl, ((K4.seq k5).seq k6)⟩
  · have c1 : ¬ d < 1 := fun h => c (.inl h)
    have c2 : ¬ 9223372036854775806 - t < d := fun h => c (.inr h)
    clear c
    have e1 : dueF t d = t + d := by unfold dueF; rw [if_neg (by omega)]
    rw [e1]
    clear e1
    go_wp2_with fail
    refine (late_calls g t _ _ _ hb4 t0 t1).mono ?_
    rintro e w5 ⟨rfl, k5⟩
    rw [show lateF t (d - 1) (t + d) = false from late_no (.inr (by omega))]
    have hb5 : Clk w5 g t := hb4.keep k5
    go_wp2_with fail
    refine (late_calls g t _ _ _ hb5 t0 t1).mono ?_
    rintro e w6 ⟨rfl, k6⟩
    rw [show lateF t d (t + d) = true from late_yes (by omega) (by omega)]
    have hb6 : Clk w6 g t := hb5.keep k6
    go_wp2_with fail
    have f0 : 0 ≤ min (max cut 0) (d - 1) := by omega
    have f1 : min (max cut 0) (d - 1) ≤ d - 1 := by omega
    generalize min (max cut 0) (d - 1) = f at f0 f1 ⊢
    refine (tick_calls g t f _ hb6 t0 t1).mono ?_
    rintro e w7 ⟨rfl, hb7, k7⟩
    have e7 : aft t f = t + f := by unfold aft; omega
    rw [e7] at hb7
    clear e7
    have K7 : Kp Non w w7 := (((K4.seq k5).seq k6).trans k7 (fun i hi => .inr (by have : i = g := hi; omega)))
    go_wp2_with fail
    refine (late_calls g (t + f) _ _ _ hb7 (by omega) (by omega)).mono ?_
    rintro e w8 ⟨rfl, k8⟩
    rw [show lateF (t + f) (d - f - 1) (t + d) = false from late_no (.inr (by omega))]
    have hb8 : Clk w8 g (t + f) := hb7.keep k8
    go_wp2_with fail
    refine (late_calls g (t + f) _ _ _ hb8 (by omega) (by omega)).mono ?_
    rintro e w9 ⟨rfl, k9⟩
    rw [show lateF (t + f) (d - f) (t + d) = true from late_yes (by omega) (by omega)]
    have hb9 : Clk w9 g (t + f) := hb8.keep k9
    go_wp2_with fail
    refine (tick_calls g (t + f) _ _ hb9 (by omega) (by omega)).mono ?_
    rintro e w10 ⟨rfl, hb10, k10⟩
    have e10 : aft (t + f) (d - f) = t + d := by unfold aft; omega
    rw [e10] at hb10
    clear e10
    have K10 : Kp Non w w10 := (((K7.seq k8).seq k9).trans k10 (fun i hi => .inr (by have : i = g := hi; omega)))
    have hc10 := hb10.cell 0
    simp at hc10
    go_wp2_with fail
    refine (now_calls (t + d) _).mono ?_
    rintro e w11 ⟨rfl, k11⟩
    have hb11 : Clk w11 g (t + d) := hb10.keep k11
    go_wp2_with fail
    refine (late_calls g (t + d) _ _ _ hb11 (by omega) (by omega)).mono ?_
    rintro e w12 ⟨rfl, k12⟩
    rw [show lateF (t + d) 0 (t + d) = true from late_yes (by omega) (by omega)]
    have hb12 : Clk w12 g (t + d) := hb11.keep k12
    go_wp2_with fail
    refine (late_calls g (t + d) _ _ _ hb12 (by omega) (by omega)).mono ?_
    rintro e w13 ⟨rfl, k13⟩
    rw [show lateF (t + d) (-5) (t + d) = true from late_yes (by omega) (by omega)]
    go_wp2
    go_ret
    exact ⟨rfl, (((K10.seq k11).seq k12).seq k13)⟩

end Go.Proofs.Ytcgkbnifommgdaa

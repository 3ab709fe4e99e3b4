/- The walk of ClockPlays: it answers true and writes nothing that was there. -/
import Derived.Test.YtcgkbnifommgdaaClockRef
namespace Go.Proofs.Ytcgkbnifommgdaa
open Go.RowKit
set_option linter.unusedSimpArgs false
set_option linter.unusedVariables false
attribute [local go_sem] max2_of min2_of max_of min_of

/-- What holds at the head of ClockPlays' rounds. -/
def PlaysInv (w : World) (g : Nat) (n : Nat) (now i : Value) (wr : World) : Prop :=
  ∃ (k : Nat) (t : Int), i = .int .i64 k ∧ now = .int .i64 t ∧ k ≤ n + 1 ∧ k ≤ 40 ∧ 0 ≤ t ∧ t ≤ 9223372036854775806 ∧ Clk wr g t ∧ Kp Non w wr

set_option maxHeartbeats 1000000 in
theorem plays_walk (w : World) (v : Value) (row : Option Nat) (l : List Int) (hr : Rd w v row (l.map (Value.int .i64))) (hq : ∀ n ∈ l, (Lit.int .i64 n).wf = true) (d due : Int) (bd : -9223372036854775808 ≤ d ∧ d ≤ 9223372036854775807) (be : -9223372036854775808 ≤ due ∧ due ≤ 9223372036854775807) :
    Calls Try.prog 3 #[v, .int .i64 d, .int .i64 due] w fun e w' => e = .returned (.bool true) ∧ Kp Non w w' := by
  obtain ⟨A, c, rfl, hlc, hcm, hcell⟩ := hr
  rw [List.length_map] at hlc ⊢
  unfold maxLen at hcm
  have H := hid hcell
  clear hcell hq
  go_enter Try.func3, Try.ntmps3
  go_wp2_with fail
  refine (shown_calls _).mono ?_
  rintro e w1 ⟨rfl, k1⟩
  go_wp2_with fail
  refine (new_calls _).mono ?_
  rintro e w2 ⟨g, rfl, hg2, hb2, k2⟩
  have hgw : w.heap.size ≤ g := by have := k1.size; omega
  have K2 : Kp Non w w2 := k1.seq k2
  clear k1 k2
  go_wp2_with fail
  go_loopw [9, 10] (fun now i wr => PlaysInv w g l.length now i wr) (fun _ i _ => 41 - (intOf i).toNat)
  case atStart => exact ⟨0, 0, rfl, rfl, by omega, by omega, by omega, by omega, hb2, K2⟩
  case round =>
    clear hb2 K2 hg2
    obtain ⟨k, t, rfl, rfl, hk1, hk2, t0, t1, hb, K⟩ := hrel
    by_cases hend : k ≤ l.length ∧ k < 40
    · obtain ⟨he1, he2⟩ := hend
      have hc := hb.cell 0
      simp at hc
      go_wp2_with fail
      refine (now_calls t _).mono ?_
      rintro e w3 ⟨rfl, k3⟩
      have hb3 : Clk w3 g t := hb.keep k3
      go_wp2_with fail
      refine (due_calls g t d _ hb3 t0 t1).mono ?_
      rintro e w4 ⟨rfl, k4⟩
      have hb4 : Clk w4 g t := hb3.keep k4
      go_wp2_with fail
      refine (refdue_calls t d _ t0 t1).mono ?_
      rintro e w5 ⟨rfl, k5⟩
      have hb5 : Clk w5 g t := hb4.keep k5
      go_wp2_with fail
      refine (late_calls g t d due _ hb5 t0 t1).mono ?_
      rintro e w6 ⟨rfl, k6⟩
      have hb6 : Clk w6 g t := hb5.keep k6
      go_wp2_with fail
      refine (reflate_calls t d due _ t0 t1).mono ?_
      rintro e w7 ⟨rfl, k7⟩
      have hb7 : Clk w7 g t := hb6.keep k7
      have K7 : Kp Non w w7 := ((((K.seq k3).seq k4).seq k5).seq k6).seq k7
      clear K k3 k4 k5 k6 k7 hb hb3 hb4 hb5 hb6 hc
      by_cases hlt : k < l.length
      · obtain ⟨b, off, rfl, hcell⟩ : ∃ b off, A = some ⟨b, off, none⟩ ∧ w.cell? ⟨b, off + k, none⟩ = some (.int .i64 l[k]) := by
          rcases H.out with h | ⟨b, off, hA, _, h⟩
          · rw [List.map_eq_nil_iff] at h; subst h; simp at hlt
          · exact ⟨b, off, hA, h k _ (by simp [hlt])⟩
        have hcell7 := K7.cell hcell (fun x => x)
        generalize l[k] = x at hcell7
        go_wp2_with fail
        refine (tick_calls g t x _ hb7 t0 t1).mono ?_
        rintro e w8 ⟨rfl, hb8, k8⟩
        have K8 : Kp Non w w8 := K7.trans k8 (fun i hi => .inr (by have : i = g := hi; omega))
        have hcell8 := k8.cell hcell7 (fun h => by have h2 : b = g := h; have := World.block_lt_of_cell? w _ hcell; simp at this; omega)
        go_wp2_with fail
        refine (refafter_calls t x _ t0 t1).mono ?_
        rintro e w9 ⟨rfl, k9⟩
        have hb9 : Clk w9 g (aft t x) := hb8.keep k9
        go_wp2_with fail
        go_roundw
        case rel => exact ⟨k + 1, aft t x, by go_num, rfl, by omega, by omega, (aft_bd x t0 t1).1, (aft_bd x t0 t1).2, hb9, K8.seq k9⟩
        case measure => simp [intOf]; omega
      · go_wp2_with fail
        go_roundw
        case rel => exact ⟨k + 1, t, by go_num, rfl, by omega, by omega, t0, t1, hb7, K7⟩
        case measure => simp [intOf]; omega
    · by_cases he1 : k ≤ l.length
      · have he2 : ¬ k < 40 := fun h => hend ⟨he1, h⟩
        go_wp2_with fail
        go_ret
        exact ⟨rfl, K⟩
      · go_wp2_with fail
        go_ret
        exact ⟨rfl, K⟩

end Go.Proofs.Ytcgkbnifommgdaa

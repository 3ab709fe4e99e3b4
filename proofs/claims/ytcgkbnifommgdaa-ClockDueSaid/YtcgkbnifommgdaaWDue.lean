/- The walk of ClockDue: it answers true and writes nothing that was there. -/
import Derived.Test.YtcgkbnifommgdaaClock
namespace Go.Proofs.Ytcgkbnifommgdaa
open Go.RowKit
set_option linter.unusedSimpArgs false
set_option linter.unusedVariables false

theorem i64_and30 (n : Int) : bits .and .i64 n 1073741823 = n % 1073741824 := by
  have h127 : (BitVec.ofInt 64 1073741823).toNat = 2 ^ 30 - 1 := by decide
  have key : (BitVec.ofInt 64 n &&& BitVec.ofInt 64 1073741823).toNat = (n % ((2 ^ 64 : Nat) : Int)).toNat % 2 ^ 30 := by
    rw [BitVec.toNat_and, BitVec.toNat_ofInt, h127, Nat.and_two_pow_sub_one_eq_mod]
  show IntKind.i64.wrap ((BitVec.ofInt 64 n &&& BitVec.ofInt 64 1073741823).toNat : Nat) = n % 1073741824
  rw [key, IntKind.wrap_i64]
  omega
attribute [local go_sem] i64_and30

/-- What holds at the head of ClockDue's rounds. -/
def DueInv (w : World) (g : Nat) (n : Nat) (now i : Value) (wr : World) : Prop :=
  ∃ (k : Nat) (t : Int), i = .int .i64 k ∧ now = .int .i64 t ∧ k ≤ n ∧ k ≤ 20 ∧ 0 ≤ t ∧ t ≤ k * 1073741824 ∧ Clk wr g t ∧ Kp Non w wr

set_option maxHeartbeats 1000000 in
theorem due_walk (w : World) (v : Value) (row : Option Nat) (l : List Int) (hr : Rd w v row (l.map (Value.int .i64))) (hq : ∀ n ∈ l, (Lit.int .i64 n).wf = true) (d : Int) (bd : -9223372036854775808 ≤ d ∧ d ≤ 9223372036854775807) :
    Calls Try.prog 6 #[v, .int .i64 d] w fun e w' => e = .returned (.bool true) ∧ Kp Non w w' := by
  obtain ⟨A, c, rfl, hlc, hcm, hcell⟩ := hr
  rw [List.length_map] at hlc ⊢
  unfold maxLen at hcm
  have H := hid hcell
  clear hcell hq
  go_enter Try.func6, Try.ntmps6
  go_wp2_with fail
  refine (shown_calls _).mono ?_
  rintro e w1 ⟨rfl, k1⟩
  go_wp2_with fail
  refine (new_calls _).mono ?_
  rintro e w2 ⟨g, rfl, hg2, hb2, k2⟩
  have hgw : w.heap.size ≤ g := by have := k1.size; omega
  have K2 : Kp Non w w2 := k1.seq k2
  clear k1 k2
  have p0 : 0 ≤ d % 1073741824 := by omega
  have p1 : d % 1073741824 ≤ 1073741823 := by omega
  go_wp2_with fail
  generalize d % 1073741824 = q at p0 p1 ⊢
  go_loopw [7, 9] (fun now i wr => DueInv w g l.length now i wr) (fun _ i _ => 41 - (intOf i).toNat)
  case atStart => exact ⟨0, 0, rfl, rfl, by omega, by omega, by omega, by omega, hb2, K2⟩
  case round =>
    clear hb2 K2 hg2
    obtain ⟨k, t, rfl, rfl, hk1, hk2, t0, t1, hb, K⟩ := hrel
    by_cases hend : k < l.length ∧ k < 20
    · obtain ⟨hlt, he2⟩ := hend
      obtain ⟨b, off, rfl, hcell⟩ : ∃ b off, A = some ⟨b, off, none⟩ ∧ w.cell? ⟨b, off + k, none⟩ = some (.int .i64 l[k]) := by
        rcases H.out with h | ⟨b, off, hA, _, h⟩
        · rw [List.map_eq_nil_iff] at h; subst h; simp at hlt
        · exact ⟨b, off, hA, h k _ (by simp [hlt])⟩
      have hcell0 := K.cell hcell (fun x => x)
      generalize l[k] = x at hcell0
      have x0 : 0 ≤ x % 1073741824 := by omega
      have x1 : x % 1073741824 ≤ 1073741823 := by omega
      go_wp2_with fail
      generalize x % 1073741824 = n at x0 x1 ⊢
      refine (due_calls g t _ _ hb (by omega) (by omega)).mono ?_
      rintro e w3 ⟨rfl, k3⟩
      have hb3 : Clk w3 g t := hb.keep k3
      have e1 : dueF t (1 + q) = t + (1 + q) := by unfold dueF; rw [if_neg (by omega)]
      rw [e1]
      clear e1
      go_wp2_with fail
      refine (late_calls g t n _ _ hb3 (by omega) (by omega)).mono ?_
      rintro e w4 ⟨rfl, k4⟩
      have hb4 : Clk w4 g t := hb3.keep k4
      have e2 : lateF t n (t + (1 + q)) = decide (1 + q ≤ n) := by
        by_cases c : 1 + q ≤ n
        · rw [late_yes (by omega) (by omega), decide_eq_true c]
        · rw [late_no (.inr (by omega)), decide_eq_false c]
      rw [e2]
      clear e2
      go_wp2_with fail
      refine (late_calls g t n _ _ hb4 (by omega) (by omega)).mono ?_
      rintro e w5 ⟨rfl, k5⟩
      have hb5 : Clk w5 g t := hb4.keep k5
      have e3 : lateF t n (t + (1 + q) + 1) = decide (1 + q < n) := by
        by_cases c : 1 + q < n
        · rw [late_yes (by omega) (by omega), decide_eq_true c]
        · rw [late_no (.inr (by omega)), decide_eq_false c]
      rw [e3]
      clear e3
      go_wp2_with fail
      refine (tick_calls g t n _ hb5 (by omega) (by omega)).mono ?_
      rintro e w6 ⟨rfl, hb6, k6⟩
      have e4 : aft t n = t + n := by unfold aft; omega
      rw [e4] at hb6
      clear e4
      have K6 : Kp Non w w6 := (((K.seq k3).seq k4).seq k5).trans k6 (fun i hi => .inr (by have : i = g := hi; omega))
      go_wp2_with fail
      go_roundw
      case rel => exact ⟨k + 1, t + n, by go_num, rfl, by omega, by omega, by omega, by push_cast; omega, hb6, K6⟩
      case measure => simp [intOf]; omega
    · have hb' := hb.cell 0
      simp at hb'
      by_cases he1 : k < l.length
      all_goals
        have he2 : k < l.length → ¬ k < 20 := fun h1 h2 => hend ⟨h1, h2⟩
        go_wp2_with fail
        refine (now_calls t _).mono ?_
        rintro e w3 ⟨rfl, k3⟩
        have hb3 : Clk w3 g t := hb.keep k3
        go_wp2_with fail
        refine (late_calls g t _ _ _ hb3 (by omega) (by omega)).mono ?_
        rintro e w4 ⟨rfl, k4⟩
        have e2 : lateF t (1 + q) 9223372036854775807 = false := late_no (.inl rfl)
        rw [e2]
        go_wp2
        go_ret
        exact ⟨rfl, (K.seq k3).seq k4⟩

end Go.Proofs.Ytcgkbnifommgdaa

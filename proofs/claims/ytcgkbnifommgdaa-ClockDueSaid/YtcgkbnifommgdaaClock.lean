/- The contracts of the clock's functions, and of the reference's: what each answers and what it leaves of memory. -/
import Derived.Test.YtcgkbnifommgdaaRows
import Derived.Test.YtcgkbnifommgdaaKit
namespace Go.Proofs.Ytcgkbnifommgdaa
open Go.RowKit
set_option linter.unusedSimpArgs false
set_option linter.unusedVariables false
attribute [local go_sem] max2_of min2_of max_of min_of

/-- The time, n ticks on. -/
def aft (t n : Int) : Int := t + min (max n 0) (9223372036854775806 - t)
theorem aft_bd {t : Int} (n : Int) (h0 : 0 ≤ t) (h1 : t ≤ 9223372036854775806) : 0 ≤ aft t n ∧ aft t n ≤ 9223372036854775806 := by unfold aft; omega
def dueF (t d : Int) : Int := if d < 1 ∨ 9223372036854775806 - t < d then 9223372036854775807 else t + d
def lateF (t n due : Int) : Bool := decide (due ≠ 9223372036854775807 ∧ due ≤ aft t n)

theorem late_no {t n due : Int} (h : due = 9223372036854775807 ∨ t + min (max n 0) (9223372036854775806 - t) < due) : lateF t n due = false := by
  unfold lateF aft
  rw [decide_eq_false_iff_not]
  rintro ⟨h1, h2⟩
  rcases h with h | h
  · exact h1 h
  · omega
theorem late_yes {t n due : Int} (h : due < 9223372036854775807) (h2 : due ≤ t + min (max n 0) (9223372036854775806 - t)) : lateF t n due = true := by
  unfold lateF aft
  rw [decide_eq_true_eq]
  exact ⟨by omega, h2⟩

def Clk (w : World) (g : Nat) (t : Int) : Prop := Blk w g #[.int .i64 t] 30

theorem new_calls (w : World) :
    Calls Try.prog 8 #[] w fun e w' => ∃ g, e = .returned (.pointer (some ⟨g, 0, none⟩)) ∧ w.heap.size ≤ g ∧ Clk w' g 0 ∧ Kp Non w w' := by
  go_enter Try.func8, Try.ntmps8
  go_wp2
  go_ret
  exact ⟨_, rfl, Nat.le_refl _, Blk.new _ _ _, (Kp.refl _ _).alloc _⟩

theorem after_calls (t n : Int) (w : World) (h0 : 0 ≤ t) (h1 : t ≤ 9223372036854775806) :
    Calls Try.prog 16 #[.agg #[.int .i64 t], .int .i64 n] w fun e w' => e = .returned (.int .i64 (aft t n)) ∧ Kp Non w w' := by
  go_enter Try.func16, Try.ntmps16
  go_wp2
  go_ret
  exact ⟨rfl, (Kp.refl _ _).alloc _⟩

theorem now_calls (t : Int) (w : World) :
    Calls Try.prog 9 #[.agg #[.int .i64 t]] w fun e w' => e = .returned (.int .i64 t) ∧ Kp Non w w' := by
  go_enter Try.func9, Try.ntmps9
  go_wp2
  go_ret
  exact ⟨rfl, (Kp.refl _ _).alloc _⟩

theorem tick_calls (g : Nat) (t n : Int) (w : World) (h : Clk w g t) (h0 : 0 ≤ t) (h1 : t ≤ 9223372036854775806) :
    Calls Try.prog 14 #[.pointer (some ⟨g, 0, none⟩), .int .i64 n] w fun e w' => e = .returned (.tuple #[]) ∧ Clk w' g (aft t n) ∧ Kp (One g) w w' := by
  have hc := h.cell 0
  simp at hc
  go_enter Try.func14, Try.ntmps14
  go_wp2_with fail
  refine (after_calls t n _ h0 h1).mono ?_
  rintro e w1 ⟨rfl, k1⟩
  have hb := h.keep k1
  have hc1 := hb.cell 0
  have hf1 := hb.frozen 0
  simp at hc1
  go_wp2
  go_end0
  exact ⟨rfl, hb.set 0 _, (k1.any).setOne 0 _⟩

theorem due_calls (g : Nat) (t d : Int) (w : World) (h : Clk w g t) (h0 : 0 ≤ t) (h1 : t ≤ 9223372036854775806) :
    Calls Try.prog 10 #[.pointer (some ⟨g, 0, none⟩), .int .i64 d] w fun e w' => e = .returned (.int .i64 (dueF t d)) ∧ Kp Non w w' := by
  have hc := h.cell 0
  simp at hc
  unfold dueF
  by_cases c1 : d < 1
  · rw [if_pos (.inl c1)]
    go_enter Try.func10, Try.ntmps10
    go_wp2
    go_ret
    exact ⟨rfl, Kp.refl _ _⟩
  · by_cases c2 : 9223372036854775806 - t < d
    · rw [if_pos (.inr c2)]
      go_enter Try.func10, Try.ntmps10
      go_wp2
      go_ret
      exact ⟨rfl, Kp.refl _ _⟩
    · rw [if_neg (by omega)]
      go_enter Try.func10, Try.ntmps10
      go_wp2
      go_ret
      exact ⟨rfl, Kp.refl _ _⟩

theorem late_calls (g : Nat) (t n due : Int) (w : World) (h : Clk w g t) (h0 : 0 ≤ t) (h1 : t ≤ 9223372036854775806) :
    Calls Try.prog 12 #[.pointer (some ⟨g, 0, none⟩), .int .i64 n, .int .i64 due] w fun e w' => e = .returned (.bool (lateF t n due)) ∧ Kp Non w w' := by
  have hc := h.cell 0
  simp at hc
  by_cases c : due = 9223372036854775807
  · subst c
    go_enter Try.func12, Try.ntmps12
    go_wp2
    go_ret
    exact ⟨by simp [lateF], Kp.refl _ _⟩
  · have c1 : (due == 9223372036854775807) = false := by simpa using c
    have c2 : (due != 9223372036854775807) = true := by simpa using c
    go_enter Try.func12, Try.ntmps12
    go_wp2_with fail
    refine (after_calls t n _ h0 h1).mono ?_
    rintro e w1 ⟨rfl, k1⟩
    go_wp2
    go_ret
    exact ⟨by simp [lateF, c], k1⟩

theorem shown_calls (w : World) :
    Calls Try.prog 7 #[] w fun e w' => e = .returned (.bool true) ∧ Kp Non w w' := by
  go_enter Try.func7, Try.ntmps7
  go_wp2_with fail
  refine (new_calls _).mono ?_
  rintro e w1 ⟨g, rfl, hg, hb1, k1⟩
  go_wp2_with fail
  refine (due_calls g 0 5 _ hb1 (by omega) (by omega)).mono ?_
  rintro e w2 ⟨rfl, k2⟩
  have hb2 := hb1.keep k2
  have e1 : dueF 0 5 = 5 := by decide
  rw [e1]
  go_wp2_with fail
  refine (late_calls g 0 4 5 _ hb2 (by omega) (by omega)).mono ?_
  rintro e w3 ⟨rfl, k3⟩
  have hb3 : Clk w3 g 0 := hb2.keep k3
  have e2 : lateF 0 4 5 = false := by decide
  rw [e2]
  go_wp2_with fail
  refine (late_calls g 0 5 5 _ hb3 (by omega) (by omega)).mono ?_
  rintro e w4 ⟨rfl, k4⟩
  have hb4 : Clk w4 g 0 := hb3.keep k4
  have e3 : lateF 0 5 5 = true := by decide
  rw [e3]
  have hc4 := hb4.cell 0
  simp at hc4
  go_wp2_with fail
  refine (now_calls 0 _).mono ?_
  rintro e w5 ⟨rfl, k5⟩
  go_wp2
  go_ret
  exact ⟨rfl, ((((k1.seq k2).seq k3).seq k4).seq k5)⟩

end Go.Proofs.Ytcgkbnifommgdaa

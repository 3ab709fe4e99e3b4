/- The contracts of the clock's reference: what each answers. -/
import Derived.Test.YtcgkbnifommgdaaClock
namespace Go.Proofs.Ytcgkbnifommgdaa
open Go.RowKit
set_option linter.unusedSimpArgs false
set_option linter.unusedVariables false

theorem refafter_calls (t n : Int) (w : World) (h0 : 0 ≤ t) (h1 : t ≤ 9223372036854775806) :
    Calls Try.prog 15 #[.int .i64 t, .int .i64 n] w fun e w' => e = .returned (.int .i64 (aft t n)) ∧ Kp Non w w' := by
  by_cases c1 : n < 1
  · have e : aft t n = t := by unfold aft; omega
    rw [e]
    clear e
    go_enter Try.func15, Try.ntmps15
    go_wp2
    go_ret
    exact ⟨rfl, Kp.refl _ _⟩
  · by_cases c2 : 9223372036854775806 - t < n
    · have e : aft t n = 9223372036854775806 := by unfold aft; omega
      rw [e]
      clear e
      go_enter Try.func15, Try.ntmps15
      go_wp2
      go_ret
      exact ⟨rfl, Kp.refl _ _⟩
    · have e : aft t n = t + n := by unfold aft; omega
      rw [e]
      clear e
      go_enter Try.func15, Try.ntmps15
      go_wp2
      go_ret
      exact ⟨rfl, Kp.refl _ _⟩

theorem refdue_calls (t d : Int) (w : World) (h0 : 0 ≤ t) (h1 : t ≤ 9223372036854775806) :
    Calls Try.prog 11 #[.int .i64 t, .int .i64 d] w fun e w' => e = .returned (.int .i64 (dueF t d)) ∧ Kp Non w w' := by
  by_cases c1 : d < 1
  · have e : dueF t d = 9223372036854775807 := by unfold dueF; rw [if_pos (.inl c1)]
    rw [e]
    clear e
    go_enter Try.func11, Try.ntmps11
    go_wp2
    go_ret
    exact ⟨rfl, Kp.refl _ _⟩
  · by_cases c2 : 9223372036854775807 - t ≤ d
    · have e : dueF t d = 9223372036854775807 := by unfold dueF; rw [if_pos (.inr (by omega))]
      rw [e]
      clear e
      go_enter Try.func11, Try.ntmps11
      go_wp2
      go_ret
      exact ⟨rfl, Kp.refl _ _⟩
    · have e : dueF t d = t + d := by unfold dueF; rw [if_neg (by omega)]
      rw [e]
      clear e
      go_enter Try.func11, Try.ntmps11
      go_wp2
      go_ret
      exact ⟨rfl, Kp.refl _ _⟩

theorem reflate_calls (t n due : Int) (w : World) (h0 : 0 ≤ t) (h1 : t ≤ 9223372036854775806) :
    Calls Try.prog 13 #[.int .i64 t, .int .i64 n, .int .i64 due] w fun e w' => e = .returned (.bool (lateF t n due)) ∧ Kp Non w w' := by
  by_cases c : due = 9223372036854775807
  · subst c
    go_enter Try.func13, Try.ntmps13
    go_wp2
    go_ret
    exact ⟨by simp [lateF], Kp.refl _ _⟩
  · have c1 : (due == 9223372036854775807) = false := by simpa using c
    have c2 : (due != 9223372036854775807) = true := by simpa using c
    go_enter Try.func13, Try.ntmps13
    go_wp2_with fail
    refine (refafter_calls t n _ h0 h1).mono ?_
    rintro e w1 ⟨rfl, k1⟩
    go_wp2
    go_ret
    exact ⟨by simp [lateF, c], k1⟩
end Go.Proofs.Ytcgkbnifommgdaa

/- What the laws of the queue share: short, the example, Total. -/
import Derived.Test.YthkhdkjebgemeaaQueue
namespace Go.Proofs.Ythkhdkjebgemeaa
open Go.RowKit
set_option linter.unusedSimpArgs false
set_option linter.unusedVariables false

theorem total_calls (g : Nat) (r : Option Nat) (b : List UInt8) (a : Nat) (m : Int) (w : World) (h : Que w g r b a m) :
    Calls Try.prog 15 #[.pointer (some ⟨g, 0, none⟩)] w fun e w' => e = .returned (.int .i64 b.length) ∧ Kp Non w w' := by
  obtain ⟨v, h1, h2, h3, h4, h5⟩ := h
  obtain ⟨A, c, rfl, hc1, hc2⟩ := h2.form
  have c0 := h1.cell 0
  simp at c0
  go_enter Try.func15, Try.ntmps15
  go_wp2
  go_ret
  exact ⟨rfl, Kp.refl _ _⟩

theorem short_calls (v : Value) (r : Option Nat) (l : List UInt8) (w : World) (h : Rd w v r (byv l)) :
    Calls Try.prog 10 #[v] w fun e w' => ∃ V, e = .returned V ∧ Rd w' V r (byv (l.take 60)) ∧ Kp Non w w' := by
  by_cases c : 60 < l.length
  · obtain ⟨V, hV, hVr⟩ := h.slice_h Try.underlying23 size8 60 60 rfl (by rw [byv_length]; omega)
    rw [byv_take] at hVr
    obtain ⟨A, d, rfl, h1, h2, h3⟩ := h
    clear h3
    rw [byv_length] at h1 hV ⊢
    go_enter Try.func10, Try.ntmps10
    go_wp2
    go_ret
    exact ⟨V, rfl, hVr, Kp.refl _ _⟩
  · have e : l.take 60 = l := List.take_of_length_le (by omega)
    rw [e]
    have h0 := h
    obtain ⟨A, d, rfl, h1, h2, h3⟩ := h
    clear h3
    rw [byv_length] at h1 h0 ⊢
    go_enter Try.func10, Try.ntmps10
    go_wp2
    go_ret
    exact ⟨_, rfl, h0, Kp.refl _ _⟩

theorem shown_calls (w : World) :
    Calls Try.prog 8 #[] w fun e w' => e = .returned (.bool true) ∧ Kp Non w w' := by
  have kc := fun (w : World) (C : Array Value) (n c : Nat) => Lib.run_convert_bytes_const (P := Try.prog) w 23 5 C n c Try.underlying23 Try.underlying5
  go_enter Try.func8, Try.ntmps8
  go_wp2_with fail
  refine (qnew_calls 3 _ (by omega)).mono ?_
  rintro e w1 ⟨g, rfl, hg, q1, k1⟩
  go_wp2_with fail
  refine (put_yes g none [] 0 3 _ _ [97, 98] _ (q1.keep ((Kp.refl _ _).alloc _)) (Rd.const w1 5 (2, 3) [97, 98] _ 2 rfl rfl (by decide)) (by decide) (by decide)).mono ?_
  rintro e w2 ⟨r2, rfl, q2, n2, k2⟩
  go_wp2_with fail
  refine (put_no g r2 [97, 98] 0 3 _ _ [99, 100] _ (q2.keep ((Kp.refl _ _).alloc _)) (Rd.const w2 5 (2, 3) [99, 100] _ 2 rfl rfl (by decide)) (by decide) (by decide)).mono ?_
  rintro e w3 ⟨rfl, k3⟩
  have q3 := q2.keep (((Kp.refl Non w2).alloc _).seq k3)
  go_wp2_with fail
  refine (take_calls g r2 [97, 98] 0 3 9 _ q3 (by decide)).mono ?_
  rintro e w4 ⟨v4, r4, rfl, q4, o4, n4, k4⟩
  have hs := o4.rd.str 23 5 9 Try.underlying23 Try.underlying5 Try.underlying9
  have e4 : strOf (List.take (tk [97, 98] 0 9) (List.drop 0 [97, 98])) = { data := #[97, 98] } := rfl
  rw [e4] at hs
  go_wp2
  go_ret
  refine ⟨rfl, ((((k1.alloc _).trans k2 (fun i hi => .inr ?_)).alloc _).seq k3).trans k4 (fun i hi => .inr ?_)⟩
  · rcases hi with hi | hi
    · rw [hi]; exact hg
    · cases hi
  · rw [show i = g from hi]; exact hg

end Go.Proofs.Ythkhdkjebgemeaa

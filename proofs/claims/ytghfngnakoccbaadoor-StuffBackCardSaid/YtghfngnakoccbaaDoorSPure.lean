/- Plain facts on payloads with dots. -/
import Derived.Test.YtghfngnakoccbaaDoorStuff6
namespace Go.Proofs.YtghfngnakoccbaaDoor
open Go.RowKit
set_option linter.unusedSimpArgs false
set_option linter.unusedVariables false

/-- Byte by byte: whether a line begins here, whether a CR is ahead. -/
def stf : Bool → Bool → List UInt8 → List UInt8
  | _, _, [] => []
  | bg, cr, c :: t => (if bg && c == 46 then [46, c] else [c]) ++ stf (cr && c == 10) (c == 13) t
def dotB (bg : Bool) (p : List UInt8) : List UInt8 := (if bg && pre [46] p then [46] else []) ++ p

theorem pre46 (c : UInt8) (t : List UInt8) : pre [46] (c :: t) = (c == 46) := by
  by_cases h : c = 46
  · subst h; simp [pre]
  · have h1 : (c == 46) = false := by simpa using h
    rw [h1]
    simp [pre, h]
theorem pre46_nil : pre [46] [] = false := by simp [pre]

theorem index_cons (c : UInt8) (t : List UInt8) : Lib.index (c :: t) crlf = if c = 13 ∧ t.head? = some 10 then 0 else if Lib.index t crlf = -1 then -1 else Lib.index t crlf + 1 := by
  have hp : crlf.isPrefixOf (c :: t) = decide (c = 13 ∧ t.head? = some 10) := by
    cases t with
    | nil => simp [crlf, List.isPrefixOf]
    | cons d t =>
      simp only [crlf, List.isPrefixOf, List.head?_cons, Option.some.injEq]
      by_cases h1 : c = 13
      · by_cases h2 : d = 10
        · subst h1 h2; rfl
        · have : (10 == d) = false := by simpa using Ne.symm h2
          simp [h2, this]
      · have : (13 == c) = false := by simpa using Ne.symm h1
        simp [h1, this]
  rw [Lib.index, hp]
  by_cases h : c = 13 ∧ t.head? = some 10
  · simp [h]
  · simp [h]

theorem stf_none : ∀ (l : List UInt8) (bg cr : Bool), Lib.index l crlf = -1 → (cr = true → l.head? ≠ some 10) → stf bg cr l = dotB bg l := by
  intro l
  induction l with
  | nil => intro bg cr _ _; cases bg <;> simp [stf, dotB, pre46_nil]
  | cons c t ih =>
    intro bg cr hi hc
    rw [index_cons] at hi
    have h1 : ¬ (c = 13 ∧ t.head? = some 10) := fun h => by rw [if_pos h] at hi; cases hi
    rw [if_neg h1] at hi
    have h2 : Lib.index t crlf = -1 := by
      by_cases h : Lib.index t crlf = -1
      · exact h
      · rw [if_neg h] at hi; have := Lib.index_ge t crlf; omega
    have h3 : (cr && c == 10) = false := by
      cases cr with
      | false => rfl
      | true => simpa using hc rfl
    rw [stf, h3, ih false (c == 13) h2 (fun hh h => h1 ⟨by simpa using hh, h⟩)]
    simp only [dotB, pre46, Bool.false_and, Bool.false_eq_true, if_false, List.nil_append]
    split <;> rfl

theorem stf_some : ∀ (l : List UInt8) (bg cr : Bool) (i : Nat), Lib.index l crlf = i → (cr = true → l.head? ≠ some 10) → stf bg cr l = dotB bg (l.take (i + 2)) ++ stf true false (l.drop (i + 2)) := by
  intro l
  induction l with
  | nil => intro bg cr i hi _; exact absurd hi (by rw [show Lib.index [] crlf = -1 by decide]; omega)
  | cons c t ih =>
    intro bg cr i hi hc
    rw [index_cons] at hi
    have h3 : (cr && c == 10) = false := by
      cases cr with
      | false => rfl
      | true => simpa using hc rfl
    by_cases h1 : c = 13 ∧ t.head? = some 10
    · rw [if_pos h1] at hi
      obtain rfl : i = 0 := by omega
      obtain ⟨rfl, h1⟩ := h1
      cases t with
      | nil => cases h1
      | cons d t =>
        simp only [List.head?_cons, Option.some.injEq] at h1
        subst h1
        cases bg <;> simp [stf, dotB, pre46]
    · rw [if_neg h1] at hi
      have h2 : ¬ Lib.index t crlf = -1 := fun h => by rw [if_pos h] at hi; omega
      rw [if_neg h2] at hi
      have hg := Lib.index_ge t crlf
      obtain ⟨j, rfl⟩ : ∃ j, i = j + 1 := ⟨i - 1, by omega⟩
      rw [stf, h3, ih false (c == 13) j (by omega) (fun hh h => h1 ⟨by simpa using hh, h⟩)]
      simp only [List.take_succ_cons, List.drop_succ_cons, dotB, pre46, Bool.false_and, Bool.false_eq_true, if_false, List.nil_append, show j + 1 + 2 = (j + 2) + 1 by omega]
      split <;> simp

theorem dotB_true (p : List UInt8) : dotB true p = dotF p := by simp [dotB, dotF]

theorem pieces_stf : ∀ (n : Nat) (l : List UInt8), l.length ≤ n → ((piecesF l).map dotF).flatten = stf true false l := by
  intro n
  induction n with
  | zero =>
    intro l hl
    rcases pieces_rec l with ⟨h1, h2, h3⟩ | ⟨i, h1, h2, _⟩
    · rw [h2, stf_none l true false h1 (fun h => by cases h), dotB_true]; simp
    · omega
  | succ n ih =>
    intro l hl
    rcases pieces_rec l with ⟨h1, h2, h3⟩ | ⟨i, h1, h2, h3, h4⟩
    · rw [h2, stf_none l true false h1 (fun h => by cases h), dotB_true]; simp
    · rw [h3, stf_some l true false i h1 (fun h => by cases h), dotB_true, List.map_cons, List.flatten_cons, ih _ (by rw [List.length_drop]; omega)]

theorem putF_eq (l : List UInt8) : putF l = stf true false (wholeF l) ++ [46, 13, 10] := by
  unfold putF
  rw [pieces_stf _ _ (Nat.le_refl _)]

end Go.Proofs.YtghfngnakoccbaaDoor

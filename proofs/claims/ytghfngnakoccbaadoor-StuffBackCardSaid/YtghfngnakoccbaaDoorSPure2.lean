/- Plain facts: the dots taken off again. -/
import Derived.Test.YtghfngnakoccbaaDoorSLaw
namespace Go.Proofs.YtghfngnakoccbaaDoor
open Go.RowKit
set_option linter.unusedSimpArgs false
set_option linter.unusedVariables false

def uns : Bool → Bool → List UInt8 → List UInt8
  | _, _, [] => []
  | bg, cr, c :: t => (if bg && c == 46 then [] else [c]) ++ uns (cr && c == 10) (c == 13) t
def okd : Bool → Bool → List UInt8 → Prop
  | _, _, [] => True
  | bg, cr, c :: t => ((bg && c == 46) = true → t.head? = some 46) ∧ okd (cr && c == 10) (c == 13) t

theorem uns_stf : ∀ (l : List UInt8) (bg cr : Bool), uns bg cr (stf bg cr l) = l ∧ okd bg cr (stf bg cr l) := by
  intro l
  induction l with
  | nil => intro bg cr; exact ⟨rfl, trivial⟩
  | cons c t ih =>
    intro bg cr
    by_cases h : (bg && c == 46) = true
    · have hc : c = 46 := by simp at h; exact h.2
      subst hc
      have hb : bg = true := by simpa using h
      subst hb
      have e : stf true cr (46 :: t) = 46 :: 46 :: stf false false t := by simp [stf]
      rw [e]
      obtain ⟨h1, h2⟩ := ih false false
      exact ⟨by simp [uns, h1], by simp [okd, h2]⟩
    · have hf : (bg && c == 46) = false := by simpa using h
      have e : stf bg cr (c :: t) = c :: stf (cr && c == 10) (c == 13) t := by simp [stf, hf]
      rw [e]
      obtain ⟨h1, h2⟩ := ih (cr && c == 10) (c == 13)
      refine ⟨?_, ?_⟩
      · rw [uns, hf, h1]; rfl
      · exact ⟨fun h => (by rw [hf] at h; cases h), h2⟩

/-- Whether a line begins behind what was read; whether a CR was the last of it. -/
def bgP (P : List UInt8) : Bool := decide (P = []) || suf [13, 10] P
def crP (P : List UInt8) : Bool := decide (P.getLast? = some 13)
theorem suf_snoc (P : List UInt8) (c : UInt8) : suf [13, 10] (P ++ [c]) = (crP P && c == 10) := by
  rcases List.eq_nil_or_concat P with rfl | ⟨Q, d, rfl⟩
  · simp [suf, crP]
  · rw [List.concat_eq_append]
    have hl : (Q ++ [d] ++ [c]).length = Q.length + 2 := by simp
    have hd : (Q ++ [d] ++ [c]).drop (Q.length + 2 - 2) = [d, c] := by
      rw [List.append_assoc]
      simp
    unfold suf crP
    rw [hl, show ([13, 10] : List UInt8).length = 2 from rfl, hd, List.getLast?_append]
    by_cases h1 : d = 13
    · by_cases h2 : c = 10
      · subst h1 h2; simp
      · simp [h1, h2]
    · simp [h1]
theorem bgP_snoc (P : List UInt8) (c : UInt8) : bgP (P ++ [c]) = (crP P && c == 10) := by
  unfold bgP
  rw [suf_snoc]
  simp
theorem crP_snoc (P : List UInt8) (c : UInt8) : crP (P ++ [c]) = (c == 13) := by
  unfold crP
  rw [List.getLast?_append]
  by_cases h : c = 13 <;> simp [h]

theorem stf_len : ∀ (l : List UInt8) (bg cr : Bool), (stf bg cr l).length ≤ 2 * l.length := by
  intro l
  induction l with
  | nil => intro bg cr; simp [stf]
  | cons c t ih =>
    intro bg cr
    have := ih (cr && c == 10) (c == 13)
    rw [stf, List.length_append, List.length_cons]
    split <;> simp <;> omega
theorem stf_nil {l : List UInt8} {bg cr : Bool} : stf bg cr l = [] ↔ l = [] := by
  cases l with
  | nil => simp [stf]
  | cons c t => simp [stf]; split <;> simp
theorem wholeF_nil {l : List UInt8} : wholeF l = [] ↔ l = [] := by
  unfold wholeF
  split
  · exact Iff.rfl
  · rename_i h
    constructor
    · intro e; exact absurd (congrArg List.length e) (by simp)
    · intro e; exact absurd (.inl e) h
theorem wholeF_le (l : List UInt8) : (wholeF l).length ≤ l.length + 2 := by
  unfold wholeF
  split
  · omega
  · rw [List.length_append]; simp

end Go.Proofs.YtghfngnakoccbaaDoor

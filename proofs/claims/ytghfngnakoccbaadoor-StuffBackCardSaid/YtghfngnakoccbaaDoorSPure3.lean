/- Plain facts: what stands for two payloads, the first of which ends by a line's end. -/
import Derived.Test.YtghfngnakoccbaaDoorSPure2
namespace Go.Proofs.YtghfngnakoccbaaDoor
open Go.RowKit
set_option linter.unusedSimpArgs false
set_option linter.unusedVariables false

def stE : Bool → Bool → List UInt8 → Bool × Bool
  | bg, cr, [] => (bg, cr)
  | _, cr, c :: t => stE (cr && c == 10) (c == 13) t
theorem stE_app : ∀ (A C : List UInt8) (bg cr : Bool), stE bg cr (A ++ C) = stE (stE bg cr A).1 (stE bg cr A).2 C
  | [], _, _, _ => rfl
  | c :: t, C, bg, cr => stE_app t C (cr && c == 10) (c == 13)
theorem stf_app : ∀ (A C : List UInt8) (bg cr : Bool), stf bg cr (A ++ C) = stf bg cr A ++ stf (stE bg cr A).1 (stE bg cr A).2 C
  | [], _, _, _ => rfl
  | c :: t, C, bg, cr => by
    show stf bg cr (c :: (t ++ C)) = _
    rw [stf, stf_app t C (cr && c == 10) (c == 13), stf, List.append_assoc]
    rfl
theorem suf_split {A : List UInt8} (h : suf [13, 10] A = true) : ∃ Q, A = Q ++ [13, 10] := by
  unfold suf at h
  simp only [Bool.and_eq_true, decide_eq_true_eq, beq_iff_eq] at h
  exact ⟨A.take (A.length - 2), (List.take_append_drop (A.length - 2) A).symm.trans (congrArg _ h.2)⟩
theorem stE_end (Q : List UInt8) (bg cr : Bool) : stE bg cr (Q ++ [13, 10]) = (true, false) := by
  rw [stE_app]
  cases h : stE bg cr Q with
  | mk a b => simp [stE]
theorem suf_end (Q : List UInt8) : suf [13, 10] (Q ++ [13, 10]) = true := by
  unfold suf
  simp

/-- It ends by a line's end, or it is none. -/
def Whl (A : List UInt8) : Prop := A = [] ∨ suf [13, 10] A = true
theorem Whl.whole {A : List UInt8} (h : Whl A) : wholeF A = A := if_pos h
theorem whole_whl (l : List UInt8) : Whl (wholeF l) := by
  unfold wholeF
  split
  · assumption
  · exact .inr (suf_end l)
theorem Whl.stf {A : List UInt8} (h : Whl A) (C : List UInt8) : stf true false (A ++ C) = stf true false A ++ stf true false C := by
  rcases h with rfl | h
  · rfl
  · obtain ⟨Q, rfl⟩ := suf_split h
    rw [stf_app, stE_end]
theorem Whl.app {A : List UInt8} (h : Whl A) (B : List UInt8) : wholeF (A ++ B) = A ++ wholeF B := by
  rcases h with rfl | h
  · simp
  · by_cases hB : B = []
    · subst hB
      rw [List.append_nil, show wholeF [] = [] from rfl, List.append_nil]
      exact Whl.whole (.inr h)
    · obtain ⟨Q, rfl⟩ := suf_split h
      have e : suf [13, 10] (Q ++ [13, 10] ++ B) = suf [13, 10] B := by
        rcases List.eq_nil_or_concat B with rfl | ⟨B', c, rfl⟩
        · exact absurd rfl hB
        · rw [List.concat_eq_append, ← List.append_assoc, suf_snoc, suf_snoc]
          congr 1
          unfold crP
          rw [List.getLast?_append]
          rcases List.eq_nil_or_concat B' with rfl | ⟨B'', d, rfl⟩
          · simp
          · simp
      have hne : ¬ (Q ++ [13, 10] ++ B = []) := by simp
      unfold wholeF
      rw [e]
      by_cases hs : suf [13, 10] B = true
      · rw [if_pos (.inr hs), if_pos (.inr hs)]
      · rw [if_neg (by rintro (h | h); exact hne h; exact hs h), if_neg (by rintro (h | h); exact hB h; exact hs h), List.append_assoc]
theorem put_join {A : List UInt8} (h : Whl A) (B : List UInt8) : putF (A ++ B) = stf true false A ++ putF B := by
  rw [putF_eq, putF_eq, h.app, h.stf, List.append_assoc]

end Go.Proofs.YtghfngnakoccbaaDoor

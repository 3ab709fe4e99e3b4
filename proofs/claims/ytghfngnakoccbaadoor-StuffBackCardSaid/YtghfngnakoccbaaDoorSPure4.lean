/- Plain facts: a payload cut into lines, framed, and put together again. -/
import Derived.Test.YtghfngnakoccbaaDoorSPure3
namespace Go.Proofs.YtghfngnakoccbaaDoor
open Go.RowKit
set_option linter.unusedSimpArgs false
set_option linter.unusedVariables false

/-- What the law makes of bytes: each CR or LF is a line's end. -/
def pF (b : List UInt8) : List UInt8 := (b.map fun c => if c = 13 ∨ c = 10 then [13, 10] else [c]).flatten
/-- Its lines. -/
def sg : List UInt8 → List UInt8 → List (List UInt8)
  | cur, [] => if cur = [] then [] else [cur]
  | cur, c :: t => if c = 13 ∨ c = 10 then cur :: sg [] t else sg (cur ++ [c]) t
def Plain (x : List UInt8) : Prop := ∀ c ∈ x, c ≠ 13 ∧ c ≠ 10
def ends (ls : List (List UInt8)) : List UInt8 := (ls.map fun x => x ++ [13, 10]).flatten

theorem Plain.snoc {x : List UInt8} {c : UInt8} (h : Plain x) (hc : ¬ (c = 13 ∨ c = 10)) : Plain (x ++ [c]) := by
  intro d hd
  rcases List.mem_append.1 hd with hd | hd
  · exact h d hd
  · simp at hd; subst hd; exact ⟨fun e => hc (.inl e), fun e => hc (.inr e)⟩
theorem sg_plain : ∀ (b cur : List UInt8), Plain cur → ∀ x ∈ sg cur b, Plain x := by
  intro b
  induction b with
  | nil =>
    intro cur h x hx
    rw [sg] at hx
    split at hx
    · cases hx
    · simp at hx; subst hx; exact h
  | cons c t ih =>
    intro cur h x hx
    rw [sg] at hx
    split at hx
    · rcases List.mem_cons.1 hx with rfl | hx
      · exact h
      · exact ih [] (fun _ h => by cases h) x hx
    · rename_i hc
      exact ih _ (h.snoc hc) x hx
theorem plain_suf {x : List UInt8} (h : Plain x) : suf [13, 10] x = false := by
  rcases List.eq_nil_or_concat x with rfl | ⟨Q, d, rfl⟩
  · simp [suf]
  · rw [List.concat_eq_append, suf_snoc]
    have : d ≠ 10 := (h d (by rw [List.concat_eq_append]; simp)).2
    simp [this]
theorem whole_sg : ∀ (b cur P : List UInt8), Whl P → Plain cur → wholeF (P ++ (cur ++ pF b)) = P ++ ends (sg cur b) := by
  intro b
  induction b with
  | nil =>
    intro cur P hP hc
    rw [show pF [] = [] from rfl, List.append_nil, sg, hP.app]
    congr 1
    by_cases h : cur = []
    · subst h; rfl
    · rw [if_neg h]
      unfold wholeF ends
      rw [if_neg (by rintro (e | e); exact h e; rw [plain_suf hc] at e; cases e)]
      simp
  | cons c t ih =>
    intro cur P hP hc
    rw [sg]
    by_cases h : c = 13 ∨ c = 10
    · rw [if_pos h]
      have e : P ++ (cur ++ pF (c :: t)) = (P ++ cur ++ [13, 10]) ++ ([] ++ pF t) := by simp [pF, h]
      rw [e, ih [] _ (.inr (suf_end _)) (fun _ h => by cases h)]
      simp [ends]
    · rw [if_neg h]
      have e : P ++ (cur ++ pF (c :: t)) = P ++ ((cur ++ [c]) ++ pF t) := by simp [pF, h]
      rw [e, ih _ P hP (hc.snoc h)]
theorem whole_lines (b : List UInt8) : wholeF (pF b) = ends (sg [] b) := by
  have := whole_sg b [] [] (.inl rfl) (fun _ h => by cases h)
  simpa using this
theorem pF_le (b : List UInt8) : (pF b).length ≤ 2 * b.length := by
  induction b with
  | nil => simp [pF]
  | cons c t ih =>
    have e : pF (c :: t) = (if c = 13 ∨ c = 10 then [13, 10] else [c]) ++ pF t := by simp [pF]
    rw [e, List.length_append, List.length_cons]
    split <;> simp <;> omega

theorem stf_plain : ∀ (x : List UInt8) (bg cr : Bool), Plain x → stf bg cr (x ++ [13, 10]) = (if bg && pre [46] x then [46] else []) ++ x ++ [13, 10] := by
  intro x
  induction x with
  | nil => intro bg cr _; simp [stf, pre46_nil]
  | cons c t ih =>
    intro bg cr h
    have hc := h c (by simp)
    have h1 : (cr && c == 10) = false := by simp [hc.2]
    show stf bg cr (c :: (t ++ [13, 10])) = _
    rw [stf, h1, ih false (c == 13) (fun d hd => h d (by simp [hd])), pre46]
    simp only [Bool.false_and, Bool.false_eq_true, if_false, List.nil_append]
    split <;> simp
theorem stf_ends : ∀ (ls : List (List UInt8)), (∀ x ∈ ls, Plain x) → stf true false (ends ls) = ends (ls.map dotF) := by
  intro ls
  induction ls with
  | nil => intro _; rfl
  | cons x t ih =>
    intro h
    have e : ends (x :: t) = (x ++ [13, 10]) ++ ends t := by simp [ends]
    rw [e, Whl.stf (.inr (suf_end x)), ih (fun y hy => h y (by simp [hy])), stf_plain x true false (h x (by simp))]
    simp [ends, dotF]
theorem ends_snoc (ls : List (List UInt8)) (x : List UInt8) : ends (ls ++ [x]) = ends ls ++ (x ++ [13, 10]) := by simp [ends]
/-- What stands for it is its lines, each with a dot where it begins by one, and a dot alone. -/
theorem put_lines (b : List UInt8) : putF (pF b) = ends ((sg [] b).map dotF ++ [[46]]) := by
  rw [putF_eq, whole_lines, stf_ends _ (sg_plain b [] (fun _ h => by cases h)), ends_snoc]
  rfl

/-- What a framer makes of what comes, where nothing is wrong. -/
def good : List UInt8 → Bool → List UInt8 → List (List UInt8) → Prop
  | cur, cr, [], out => cur = [] ∧ cr = false ∧ out = []
  | cur, true, c :: t, out => c = 10 ∧ ∃ o, out = cur :: o ∧ good [] false t o
  | cur, false, c :: t, out => if c = 13 then good cur true t out else c ≠ 10 ∧ cur.length < 2000 ∧ good (cur ++ [c]) false t out
theorem good_line : ∀ (f cur rest : List UInt8) (o : List (List UInt8)), Plain f → cur.length + f.length ≤ 2000 → good [] false rest o → good cur false (f ++ ([13, 10] ++ rest)) ((cur ++ f) :: o) := by
  intro f
  induction f with
  | nil =>
    intro cur rest o _ _ h
    show good cur false (13 :: 10 :: rest) _
    rw [good, if_pos rfl]
    exact ⟨rfl, o, by simp, h⟩
  | cons c t ih =>
    intro cur rest o hp hl h
    have hc := hp c (by simp)
    show good cur false (c :: (t ++ ([13, 10] ++ rest))) _
    rw [good, if_neg hc.1]
    simp only [List.length_cons] at hl
    have := ih (cur ++ [c]) rest o (fun d hd => hp d (by simp [hd])) (by simp; omega) h
    exact ⟨hc.2, by omega, by simpa using this⟩
theorem good_all : ∀ (fs : List (List UInt8)), (∀ f ∈ fs, Plain f ∧ f.length ≤ 2000) → good [] false (ends fs) fs := by
  intro fs
  induction fs with
  | nil => intro _; exact ⟨rfl, rfl, rfl⟩
  | cons f t ih =>
    intro h
    have e : ends (f :: t) = f ++ ([13, 10] ++ ends t) := by simp [ends]
    rw [e]
    have := good_line f [] (ends t) t (h f (by simp)).1 (by simpa using (h f (by simp)).2) (ih fun g hg => h g (by simp [hg]))
    simpa using this

theorem dotF_plain {x : List UInt8} (h : Plain x) : Plain (dotF x) := by
  unfold dotF
  intro c hc
  rcases List.mem_append.1 hc with hc | hc
  · split at hc
    · simp at hc; subst hc; exact ⟨by decide, by decide⟩
    · cases hc
  · exact h c hc
theorem trim_dot (x : List UInt8) : trimF (dotF x) = x := by
  unfold dotF
  by_cases h : pre [46] x = true
  · rw [if_pos h]
    unfold trimF
    rw [show ([46] ++ x) = 46 :: x from rfl, pre46]; rfl
  · rw [if_neg h]
    unfold trimF
    rw [List.nil_append, if_neg h]
theorem dot_not (x : List UInt8) : dotF x ≠ [46] := by
  unfold dotF
  cases x with
  | nil => simp [pre46_nil]
  | cons c t =>
    rw [pre46]
    by_cases h : c = 46
    · subst h; simp
    · have : (c == 46) = false := by simpa using h
      rw [this]
      simp [h]
theorem ends_len : ∀ (ls : List (List UInt8)), ∀ x ∈ ls, x.length + 2 ≤ (ends ls).length := by
  intro ls x hx
  induction ls with
  | nil => cases hx
  | cons y t ih =>
    have e : ends (y :: t) = (y ++ [13, 10]) ++ ends t := by simp [ends]
    rw [e, List.length_append, List.length_append]
    rcases List.mem_cons.1 hx with rfl | hx
    · simp only [List.length_cons, List.length_nil]; omega
    · have := ih hx; simp only [List.length_cons, List.length_nil]; omega
theorem ends_count (ls : List (List UInt8)) : 2 * ls.length ≤ (ends ls).length := by
  induction ls with
  | nil => simp [ends]
  | cons y t ih =>
    have e : ends (y :: t) = (y ++ [13, 10]) ++ ends t := by simp [ends]
    rw [e, List.length_append, List.length_append]
    simp only [List.length_cons, List.length_nil]; omega
theorem ends_app (A B : List (List UInt8)) : ends (A ++ B) = ends A ++ ends B := by simp [ends]
theorem ends_take (ls : List (List UInt8)) (j : Nat) : (ends (ls.take j)).length ≤ (ends ls).length := by
  have h := ends_app (ls.take j) (ls.drop j)
  rw [List.take_append_drop] at h
  rw [h, List.length_append]; omega

end Go.Proofs.YtghfngnakoccbaaDoor

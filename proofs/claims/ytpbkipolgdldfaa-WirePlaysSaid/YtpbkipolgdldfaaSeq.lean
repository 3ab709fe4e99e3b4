/- A region whose order is open, walked in one order: an operation that only yields a value, the same in every world that keeps what is there, may be taken first; the others come one by one. -/
import Derived.Test.YtpbkipolgdldfaaKit
import Derived.OrdersHeld
import Derived.KernelRfl
namespace Go.Proofs.Ytpbkipolgdldfaa
open Go.RowKit
set_option linter.unusedSimpArgs false
set_option linter.unusedVariables false

section
variable {P : Program} {ops : Array Oper} {Q : Exit → Act → World → Prop} {md : Region.Mode} {S : World → Prop} {t : Nat}

/-- What is listed has all that it waits for listed. -/
def Shut' (md : Region.Mode) (ops : Array Oper) (L : Array Bool) : Prop :=
  ∀ j o, ops[j]? = some o → L.getD j false = true → ∀ e ∈ o.after, Region.binds md e = true → L.getD e.on false = true

/-- Operation j waits for i, over at most n steps. -/
def waits (md : Region.Mode) (ops : Array Oper) : Nat → Nat → Nat → Bool
  | 0, _, _ => false
  | n + 1, j, i => match ops[j]? with
    | some o => o.after.any fun e => Region.binds md e && (e.on == i || waits md ops n e.on i)
    | none => false

theorem waits_listed {L : Array Bool} (hc : Shut' md ops L) : ∀ (n j i : Nat), (∀ o, ops[j]? = some o → ∀ e ∈ o.after, Region.binds md e = true → L.getD e.on false = true) → waits md ops n j i = true → L.getD i false = true
  | 0, _, _, _, h => by cases h
  | n + 1, j, i, hj, h => by
    unfold waits at h
    split at h
    · rename_i o ho
      obtain ⟨e, he, hb⟩ := Array.any_eq_true'.1 h
      simp only [Bool.and_eq_true, Bool.or_eq_true, beq_iff_eq] at hb
      have h1 := hj o ho e he hb.1
      rcases hb.2 with rfl | h2
      · exact h1
      · exact waits_listed hc n e.on i (fun o' ho' e' he' hb' => hc e.on o' ho' h1 e' he' hb') h2
    · cases h

theorem Shut'.set {L : Array Bool} {i : Nat} (hc : Shut' md ops L) (hi : i ∈ Region.ready md ops L) : Shut' md ops (L.setIfInBounds i true) := by
  obtain ⟨_, oi, hoi, hall⟩ := mem_ready.1 hi
  intro j o hj hl e he hb
  by_cases hij : i = j
  · subst hij
    obtain rfl : o = oi := Option.some.inj (hj.symm.trans hoi)
    exact getD_set_true (hall e he hb)
  · rw [getD_set_ne false hij] at hl
    exact getD_set_true (hc j o hj hl e he hb)

theorem Shut'.none (md : Region.Mode) (ops : Array Oper) (n : Nat) : Shut' md ops (Array.replicate n false) := by
  intro j o _ hl
  simp only [Array.getD_eq_getD_getElem?, Array.getElem?_replicate] at hl
  split at hl <;> simp at hl

/-- Whatever order is picked from here on, and S holds behind each operation but t, the last. -/
def wpAnyE (P : Program) (md : Region.Mode) (ops : Array Oper) (Q : Exit → Act → World → Prop) (t : Nat) (S : World → Prop) : Nat → Array Bool → Act → World → Prop
  | 0, L, a, w => Region.ready md ops L = [] ∧ Q .normal a w
  | f + 1, L, a, w => (Region.ready md ops L = [] → Q .normal a w) ∧
    ∀ i ∈ Region.ready md ops L, wpOp P ops Q i (fun a' w' => (S w' ∨ i = t) ∧ wpAnyE P md ops Q t S f (L.setIfInBounds i true) a' w') a w

theorem wpAny_of_E : ∀ (f : Nat) (L : Array Bool) (a : Act) (w : World), wpAnyE P md ops Q t S f L a w → wpAny P md ops Q f L a w
  | 0, _, _, _, h => h
  | f + 1, _, _, _, h => ⟨h.1, fun i hi => wpOp_mono (fun a' w' h' => wpAny_of_E f _ a' w' h'.2) (h.2 i hi)⟩

theorem wpAnyE_mono {S' : World → Prop} (hS : ∀ w, S' w → S w) : ∀ (f : Nat) (L : Array Bool) (a : Act) (w : World), wpAnyE P md ops Q t S' f L a w → wpAnyE P md ops Q t S f L a w
  | 0, _, _, _, h => h
  | f + 1, _, _, _, h => ⟨h.1, fun i hi => wpOp_mono (fun a' w' h' => ⟨h'.1.imp (hS _) id, wpAnyE_mono hS f _ a' w' h'.2⟩) (h.2 i hi)⟩

theorem wpAnyE_done {L : Array Bool} {a : Act} {w : World} (hr : Region.ready md ops L = []) (h : Q .normal a w) : ∀ f, wpAnyE P md ops Q t S f L a w
  | 0 => ⟨hr, h⟩
  | _ + 1 => ⟨fun _ => h, by rw [hr]; simp⟩

/-- t waits for all the others. -/
def lastOk (md : Region.Mode) (ops : Array Oper) (t : Nat) : Bool := (List.range ops.size).all fun i => i == t || decide (ops.size ≤ t) || waits md ops ops.size t i

theorem wpAnyE_first {i : Nat} {oi : Oper} {v : Value} (hi : ops[i]? = some oi) (hsel : ∀ (j : Nat) (o : Oper) cs b, ops[j]? = some o → o.op ≠ .select cs b) (hit : i ≠ t)
    (ht : lastOk md ops t = true) (hQ : ∀ c a w, Q (.panic c) (a.put oi.dst v) w → Q (.panic c) a w) :
    ∀ (f : Nat) (L : Array Bool) (a : Act) (w : World),
      (∀ j oj, ops[j]? = some oj → j ≠ i → L.getD j true = false → (∀ e ∈ oj.after, Region.binds md e = true → e.on ≠ i) → oi.apart ops oj = true) →
      Shut' md ops L → i ∈ Region.ready md ops L → YieldsIf P ops S oi v a → S w →
      wpAnyE P md ops Q t S f (L.setIfInBounds i true) (a.put oi.dst v) w → wpAnyE P md ops Q t S (f + 1) L a w := by
  intro f
  induction f with
  | zero =>
    intro L a w _ _ hr hy hS H
    refine ⟨fun h => (by rw [h] at hr; cases hr), fun j hj => ?_⟩
    by_cases hji : j = i
    · subst hji; exact hy.wpOp hi hS ⟨.inl hS, H⟩
    · have := ready_mono hj hji
      rw [H.1] at this
      cases this
  | succ f ih =>
    intro L a w hfree hc hr hy hS H
    refine ⟨fun h => (by rw [h] at hr; cases hr), fun j hj => ?_⟩
    by_cases hji : j = i
    · subst hji; exact hy.wpOp hi hS ⟨.inl hS, H⟩
    · have h1 := H.2 j (ready_mono hj hji)
      obtain ⟨hjun, oj, hoj, hall⟩ := mem_ready.1 hj
      have hiun := (mem_ready.1 hr).1
      have hun : L.getD i false = false := by
        rcases Nat.lt_or_ge i L.size with h' | h'
        · simp [h'] at hiun ⊢; exact hiun
        · simp [Array.getElem?_eq_none h']
      have hjt : j ≠ t := by
        rintro rfl
        have hil := (Array.getElem?_eq_some_iff.1 hi).1
        have hjl := (Array.getElem?_eq_some_iff.1 hoj).1
        have h2 := List.all_eq_true.1 ht i (List.mem_range.2 hil)
        simp only [Bool.or_eq_true, beq_iff_eq, decide_eq_true_eq] at h2
        rcases h2 with (h2 | h2) | h2
        · exact hji h2.symm
        · omega
        · have := waits_listed hc _ j i (fun o ho e he hb => by
            obtain rfl : o = oj := Option.some.inj (ho.symm.trans hoj)
            exact hall e he hb) h2
          rw [hun] at this
          cases this
      have hnot : ∀ e ∈ oj.after, Region.binds md e = true → e.on ≠ i := fun e he hb heq => by
        have h3 := hall e he hb
        rw [heq, hun] at h3
        cases h3
      have h2 := wpOp_putIf hoj (hfree j oj hoj hji hjun hnot) (fun cs b => hsel i oi cs b hi) (fun cs b => hsel j oj cs b hoj) hQ hy h1
      have hfree' : ∀ k ok, ops[k]? = some ok → k ≠ i → (L.setIfInBounds j true).getD k true = false →
          (∀ e ∈ ok.after, Region.binds md e = true → e.on ≠ i) → oi.apart ops ok = true := fun k ok hk hki hun hno => by
        refine hfree k ok hk hki ?_ hno
        by_cases hjk : j = k
        · subst hjk; exact hjun
        · rw [getD_set_ne true hjk] at hun; exact hun
      refine wpOp_mono (fun a' w' h3 => ?_) h2
      have hS' : S w' := h3.2.1.resolve_right hjt
      refine ⟨.inl hS', ih (L.setIfInBounds j true) a' w' hfree' (hc.set hj) (ready_mono hr (Ne.symm hji)) h3.1 hS' ?_⟩
      rw [Array.setIfInBounds_comm _ _ hji]
      exact h3.2.2

/-- One order: 'true': it only yields a value, whatever else is kept; 'false': it is carried out now. -/
def wpSeq (P : Program) (ops : Array Oper) (Q : Exit → Act → World → Prop) (t : Nat) (S0 : Nat → Prop) : List (Nat × Bool) → Act → World → Prop
  | [], a, w => Q .normal a w
  | (i, true) :: rest, a, w => ∃ o v, ops[i]? = some o ∧ YieldsIf P ops (Kp S0 w) o v a ∧ wpSeq P ops Q t S0 rest (a.put o.dst v) w
  | (i, false) :: rest, a, w => wpOp P ops Q i (fun a' w' => (Kp S0 w w' ∨ i = t) ∧ wpSeq P ops Q t S0 rest a' w') a w

/-- Is it an order that stands for all? -/
def seqOk (md : Region.Mode) (ops : Array Oper) (t : Nat) : List (Nat × Bool) → Array Bool → Bool
  | [], L => (Region.ready md ops L).isEmpty
  | (i, true) :: rest, L => Region.free md ops L i && (Region.ready md ops L).contains i && i != t && seqOk md ops t rest (L.setIfInBounds i true)
  | (i, false) :: rest, L => Region.ready md ops L == [i] && (i != t || rest.isEmpty) && seqOk md ops t rest (L.setIfInBounds i true)

theorem wpAnyE_of_seq {S0 : Nat → Prop} (hsel : Region.noSelect ops = true) (ht : lastOk md ops t = true) (hQ : ∀ c (a : Act) d v w, Q (.panic c) (a.put d v) w → Q (.panic c) a w) :
    ∀ (l : List (Nat × Bool)) (f : Nat) (L : Array Bool) (a : Act) (w : World), l.length ≤ f → Shut' md ops L → seqOk md ops t l L = true → wpSeq P ops Q t S0 l a w → wpAnyE P md ops Q t (Kp S0 w) f L a w
  | [], f, L, a, w, _, _, hk, h => wpAnyE_done (by simpa [seqOk] using hk) h f
  | (i, true) :: rest, 0, L, a, w, hf, _, _, _ => by simp at hf
  | (i, true) :: rest, f + 1, L, a, w, hf, hc, hk, h => by
    obtain ⟨o, v, ho, hy, h⟩ := h
    simp only [seqOk, Bool.and_eq_true, bne_iff_ne] at hk
    have hr : i ∈ Region.ready md ops L := by simpa using hk.1.1.2
    exact wpAnyE_first ho (Region.noSelect_spec hsel) hk.1.2 ht (fun c a w => hQ c a _ _ w) f L a w (Region.free_spec ho hk.1.1.1) hc hr hy (Kp.refl _ _)
      (wpAnyE_of_seq hsel ht hQ rest f _ _ w (by simpa using hf) (hc.set hr) hk.2 h)
  | (i, false) :: rest, 0, L, a, w, hf, _, _, _ => by simp at hf
  | (i, false) :: rest, f + 1, L, a, w, hf, hc, hk, h => by
    simp only [seqOk, Bool.and_eq_true, beq_iff_eq, Bool.or_eq_true, bne_iff_ne] at hk
    have hr : Region.ready md ops L = [i] := hk.1.1
    refine ⟨fun h0 => absurd h0 (by rw [hr]; simp), fun j hj => ?_⟩
    obtain rfl : j = i := by rw [hr] at hj; simpa using hj
    refine wpOp_mono (fun a' w' h' => ?_) h
    refine ⟨h'.1, ?_⟩
    rcases h'.1 with hkp | hjt
    · exact wpAnyE_mono (fun w'' h'' => hkp.trans h'' (fun _ x => .inl x)) f _ a' w' (wpAnyE_of_seq hsel ht hQ rest f _ a' w' (by simpa using hf) (hc.set hj) hk.2 h'.2)
    · have hnil : rest = [] := by
        rcases hk.1.2 with h0 | h0
        · exact absurd hjt h0
        · simpa using h0
      subst hnil
      exact wpAnyE_done (by simpa [seqOk] using hk.2) h'.2 f

/-- The beginning: t is the last operation, if it may write what was there; else a number beyond all. -/
theorem wp_region_seq {id : Nat} {a : Act} {w : World} (l : List (Nat × Bool)) (t : Nat) (S0 : Nat → Prop) (hm : P.follows .mixedOrders = true)
    (hk : (Region.noSelect ops && lastOk .any ops t && seqOk .any ops t l (Array.replicate ops.size false) && decide (l.length ≤ ops.size)) = true)
    (hQ' : ∀ c (a : Act) (d : Tmp) v w, Q (.panic c) (a.put (some d) v) w → Q (.panic c) a w) (h : wpSeq P ops Q t S0 l a w.drew) : (Code.region id ops true).wp P Q a w := by
  have hQ : ∀ c (a : Act) d v w, Q (.panic c) (a.put d v) w → Q (.panic c) a w := fun c a d v w h => by
    cases d with
    | none => exact h
    | some d => exact hQ' c a d v w h
  simp only [Bool.and_eq_true, decide_eq_true_eq] at hk
  exact wp_region_any hm (wpAny_of_E _ _ _ _ (wpAnyE_of_seq hk.1.1.1 hk.1.1.2 hQ l ops.size _ a w.drew hk.2 (Shut'.none _ _ _) hk.1.2 h))

variable {S0 : Nat → Prop} {i : Nat} {o : Oper} {rest : List (Nat × Bool)} {a : Act} {w : World} {v : Value}
theorem seq_nil (h : Q .normal a w) : wpSeq P ops Q t S0 [] a w := h
theorem seq_still (ho : ops[i]? = some o) (hw : Region.wanted o (yielded ops a.tmps) = true) (hv : ∀ w', Kp S0 w w' → (execOp a.eval o).run P w' = .ok (.value v) w')
    (h : wpSeq P ops Q t S0 rest (a.put o.dst v) w) : wpSeq P ops Q t S0 ((i, true) :: rest) a w := ⟨o, v, ho, .inl ⟨hw, hv⟩, h⟩
theorem seq_skip (ho : ops[i]? = some o) (hw : Region.wanted o (yielded ops a.tmps) = false) (h : wpSeq P ops Q t S0 rest (a.put o.dst undef) w) : wpSeq P ops Q t S0 ((i, true) :: rest) a w :=
  ⟨o, undef, ho, .inr ⟨hw, rfl⟩, h⟩
theorem seq_step (ho : ops[i]? = some o) (hw : Region.wanted o (yielded ops a.tmps) = true)
    (h : ∀ K : Act → World → Prop, Hid (∀ a' w', Kp S0 w w' → wpSeq P ops Q t S0 rest a' w' → K a' w') → Oper.wp P o a w K Q) : wpSeq P ops Q t S0 ((i, false) :: rest) a w := by
  unfold wpSeq wpOp
  simp only [ho, hw, if_true]
  exact .inl (h _ (fun a' w' hk hr => ⟨.inl hk, hr⟩))
theorem seq_last (ho : ops[t]? = some o) (hw : Region.wanted o (yielded ops a.tmps) = true)
    (h : ∀ K : Act → World → Prop, Hid (∀ a' w', wpSeq P ops Q t S0 rest a' w' → K a' w') → Oper.wp P o a w K Q) : wpSeq P ops Q t S0 ((t, false) :: rest) a w := by
  unfold wpSeq wpOp
  simp only [ho, hw, if_true]
  exact .inl (h _ (fun a' w' hr => ⟨by simp, hr⟩))
theorem seq_step_skip (ho : ops[i]? = some o) (hw : Region.wanted o (yielded ops a.tmps) = false) (h : wpSeq P ops Q t S0 rest (a.put o.dst undef) w) : wpSeq P ops Q t S0 ((i, false) :: rest) a w := by
  unfold wpSeq wpOp
  simp only [ho, hw]
  exact ⟨.inl (Kp.refl _ _), h⟩
end
end Go.Proofs.Ytpbkipolgdldfaa

/- A region whose order is open, walked as a tree: where two operations are ready and neither only yields a value, each of them first. -/
import Derived.Test.YtpldhdomanikiaaSeq
namespace Go.Proofs.Ytpldhdomanikiaa
open Go.RowKit
set_option linter.unusedSimpArgs false
set_option linter.unusedVariables false

/-- A tree of orders. -/
inductive Tr
  | nil
  | still (i : Nat) (r : Tr)
  | step (i : Nat) (r : Tr)
  | fork (i : Nat) (r : Tr) (j : Nat) (s : Tr)
def Tr.high : Tr → Nat
  | .nil => 0
  | .still _ r => r.high + 1
  | .step _ r => r.high + 1
  | .fork _ r _ s => max r.high s.high + 1
def Tr.none : Tr → Bool
  | .nil => true
  | _ => false

section
variable {P : Program} {ops : Array Oper} {Q : Exit → Act → World → Prop} {md : Region.Mode} {t : Nat}

def wpTr (P : Program) (ops : Array Oper) (Q : Exit → Act → World → Prop) (t : Nat) (S0 : Nat → Prop) : Tr → Act → World → Prop
  | .nil, a, w => Q .normal a w
  | .still i r, a, w => ∃ o v, ops[i]? = some o ∧ YieldsIf P ops (Kp S0 w) o v a ∧ wpTr P ops Q t S0 r (a.put o.dst v) w
  | .step i r, a, w => wpOp P ops Q i (fun a' w' => (Kp S0 w w' ∨ i = t) ∧ wpTr P ops Q t S0 r a' w') a w
  | .fork i r j s, a, w => wpOp P ops Q i (fun a' w' => Kp S0 w w' ∧ wpTr P ops Q t S0 r a' w') a w ∧ wpOp P ops Q j (fun a' w' => Kp S0 w w' ∧ wpTr P ops Q t S0 s a' w') a w

def trOk (md : Region.Mode) (ops : Array Oper) (t : Nat) : Tr → Array Bool → Bool
  | .nil, L => (Region.ready md ops L).isEmpty
  | .still i r, L => Region.free md ops L i && (Region.ready md ops L).contains i && i != t && trOk md ops t r (L.setIfInBounds i true)
  | .step i r, L => Region.ready md ops L == [i] && (i != t || r.none) && trOk md ops t r (L.setIfInBounds i true)
  | .fork i r j s, L => Region.ready md ops L == [i, j] && trOk md ops t r (L.setIfInBounds i true) && trOk md ops t s (L.setIfInBounds j true)

theorem wpAnyE_of_tr {S0 : Nat → Prop} (hsel : Region.noSelect ops = true) (ht : lastOk md ops t = true) (hQ : ∀ c (a : Act) d v w, Q (.panic c) (a.put d v) w → Q (.panic c) a w) :
    ∀ (l : Tr) (f : Nat) (L : Array Bool) (a : Act) (w : World), l.high ≤ f → Shut' md ops L → trOk md ops t l L = true → wpTr P ops Q t S0 l a w → wpAnyE P md ops Q t (Kp S0 w) f L a w
  | .nil, f, L, a, w, _, _, hk, h => wpAnyE_done (by simpa [trOk] using hk) h f
  | .still i rest, 0, L, a, w, hf, _, _, _ => by simp [Tr.high] at hf
  | .still i rest, f + 1, L, a, w, hf, hc, hk, h => by
    obtain ⟨o, v, ho, hy, h⟩ := h
    simp only [trOk, Bool.and_eq_true, bne_iff_ne] at hk
    have hr : i ∈ Region.ready md ops L := by simpa using hk.1.1.2
    exact wpAnyE_first ho (Region.noSelect_spec hsel) hk.1.2 ht (fun c a w => hQ c a _ _ w) f L a w (Region.free_spec ho hk.1.1.1) hc hr hy (Kp.refl _ _)
      (wpAnyE_of_tr hsel ht hQ rest f _ _ w (by simpa [Tr.high] using hf) (hc.set hr) hk.2 h)
  | .step i rest, 0, L, a, w, hf, _, _, _ => by simp [Tr.high] at hf
  | .step i rest, f + 1, L, a, w, hf, hc, hk, h => by
    simp only [trOk, Bool.and_eq_true, beq_iff_eq, Bool.or_eq_true, bne_iff_ne] at hk
    have hr : Region.ready md ops L = [i] := hk.1.1
    refine ⟨fun h0 => absurd h0 (by rw [hr]; simp), fun j hj => ?_⟩
    obtain rfl : j = i := by rw [hr] at hj; simpa using hj
    refine wpOp_mono (fun a' w' h' => ?_) h
    refine ⟨h'.1, ?_⟩
    rcases h'.1 with hkp | hjt
    · exact wpAnyE_mono (fun w'' h'' => hkp.trans h'' (fun _ x => .inl x)) f _ a' w' (wpAnyE_of_tr hsel ht hQ rest f _ a' w' (by simpa [Tr.high] using hf) (hc.set hj) hk.2 h'.2)
    · have hnil : rest = .nil := by
        rcases hk.1.2 with h0 | h0
        · exact absurd hjt h0
        · cases rest <;> simp [Tr.none] at h0 ⊢
      subst hnil
      exact wpAnyE_done (by simpa [trOk] using hk.2) h'.2 f
  | .fork i r j s, 0, L, a, w, hf, _, _, _ => by simp [Tr.high] at hf
  | .fork i r j s, f + 1, L, a, w, hf, hc, hk, h => by
    simp only [trOk, Bool.and_eq_true, beq_iff_eq] at hk
    have hr : Region.ready md ops L = [i, j] := hk.1.1
    have hf2 : max r.high s.high ≤ f := by simpa [Tr.high] using hf
    refine ⟨fun h0 => absurd h0 (by rw [hr]; simp), fun q hq => ?_⟩
    have hq2 : q = i ∨ q = j := by rw [hr] at hq; simpa using hq
    rcases hq2 with rfl | rfl
    · refine wpOp_mono (fun a' w' h' => ⟨.inl h'.1, ?_⟩) h.1
      exact wpAnyE_mono (fun w'' h'' => h'.1.trans h'' (fun _ x => .inl x)) f _ a' w' (wpAnyE_of_tr hsel ht hQ r f _ a' w' (by omega) (hc.set hq) hk.1.2 h'.2)
    · refine wpOp_mono (fun a' w' h' => ⟨.inl h'.1, ?_⟩) h.2
      exact wpAnyE_mono (fun w'' h'' => h'.1.trans h'' (fun _ x => .inl x)) f _ a' w' (wpAnyE_of_tr hsel ht hQ s f _ a' w' (by omega) (hc.set hq) hk.2 h'.2)

theorem wp_region_tr {id : Nat} {a : Act} {w : World} (l : Tr) (t : Nat) (S0 : Nat → Prop) (hm : P.follows .mixedOrders = true)
    (hk : (Region.noSelect ops && lastOk .any ops t && trOk .any ops t l (Array.replicate ops.size false) && decide (l.high ≤ ops.size)) = true)
    (hQ' : ∀ c (a : Act) (d : Tmp) v w, Q (.panic c) (a.put (some d) v) w → Q (.panic c) a w) (h : wpTr P ops Q t S0 l a w.drew) : (Code.region id ops true).wp P Q a w := by
  have hQ : ∀ c (a : Act) d v w, Q (.panic c) (a.put d v) w → Q (.panic c) a w := fun c a d v w h => by
    cases d with
    | none => exact h
    | some d => exact hQ' c a d v w h
  simp only [Bool.and_eq_true, decide_eq_true_eq] at hk
  exact wp_region_any hm (wpAny_of_E _ _ _ _ (wpAnyE_of_tr hk.1.1.1 hk.1.1.2 hQ l ops.size _ a w.drew hk.2 (Shut'.none _ _ _) hk.1.2 h))

variable {S0 : Nat → Prop} {i j : Nat} {o o' : Oper} {r s : Tr} {a : Act} {w : World} {v : Value}
theorem tr_nil (h : Q .normal a w) : wpTr P ops Q t S0 .nil a w := h
theorem tr_still (ho : ops[i]? = some o) (hw : Region.wanted o (yielded ops a.tmps) = true) (hv : ∀ w', Kp S0 w w' → (execOp a.eval o).run P w' = .ok (.value v) w')
    (h : wpTr P ops Q t S0 r (a.put o.dst v) w) : wpTr P ops Q t S0 (.still i r) a w := ⟨o, v, ho, .inl ⟨hw, hv⟩, h⟩
theorem tr_step (ho : ops[i]? = some o) (hw : Region.wanted o (yielded ops a.tmps) = true)
    (h : ∀ K : Act → World → Prop, Hid (∀ a' w', Kp S0 w w' → wpTr P ops Q t S0 r a' w' → K a' w') → Oper.wp P o a w K Q) : wpTr P ops Q t S0 (.step i r) a w := by
  unfold wpTr wpOp
  simp only [ho, hw, if_true]
  exact .inl (h _ (fun a' w' hk hr => ⟨.inl hk, hr⟩))
theorem tr_last (ho : ops[t]? = some o) (hw : Region.wanted o (yielded ops a.tmps) = true)
    (h : ∀ K : Act → World → Prop, Hid (∀ a' w', wpTr P ops Q t S0 r a' w' → K a' w') → Oper.wp P o a w K Q) : wpTr P ops Q t S0 (.step t r) a w := by
  unfold wpTr wpOp
  simp only [ho, hw, if_true]
  exact .inl (h _ (fun a' w' hr => ⟨by simp, hr⟩))
theorem tr_fork (ho : ops[i]? = some o) (ho' : ops[j]? = some o') (hw : Region.wanted o (yielded ops a.tmps) = true) (hw' : Region.wanted o' (yielded ops a.tmps) = true)
    (h : ∀ K : Act → World → Prop, Hid (∀ a' w', Kp S0 w w' → wpTr P ops Q t S0 r a' w' → K a' w') → Oper.wp P o a w K Q)
    (h' : ∀ K : Act → World → Prop, Hid (∀ a' w', Kp S0 w w' → wpTr P ops Q t S0 s a' w' → K a' w') → Oper.wp P o' a w K Q) : wpTr P ops Q t S0 (.fork i r j s) a w := by
  unfold wpTr wpOp
  simp only [ho, hw, ho', hw', if_true]
  exact ⟨.inl (h _ (fun a' w' hk hr => ⟨hk, hr⟩)), .inl (h' _ (fun a' w' hk hr => ⟨hk, hr⟩))⟩
end
end Go.Proofs.Ytpldhdomanikiaa

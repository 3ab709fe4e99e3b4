/- Arguments that came in, opened: what a slice of whole numbers, of bytes, of strings, of slices, of structs holds, cell by cell. -/
import Derived.ProofKit
import Derived.OpenShut
import Derived.Deep.Slices
import Derived.Test.YtpbkipolgdldfaaKit
namespace Go.Proofs.Ytpbkipolgdldfaa
open Go.ChangeShapes Go.WideShapes Go.RowKit
set_option linter.unusedSimpArgs false
set_option linter.unusedVariables false

/-- A slice whose elements are of sz cells each: the elements' cells. -/
def RdS (w : World) (v : Value) (sz : Nat) (CS : List (List Value)) : Prop :=
  ∃ A c, v = .slice A CS.length c ∧ CS.length ≤ c ∧ c ≤ maxLen ∧ (∀ cs ∈ CS, cs.length = sz) ∧
    (CS = [] ∨ ∃ b off, A = some ⟨b, off, none⟩ ∧ ∀ i cs, CS[i]? = some cs → ∀ j u, cs[j]? = some u → w.cell? ⟨b, off + (i * sz + j), none⟩ = some u)

theorem RdS.keep {w w' : World} {v : Value} {sz : Nat} {CS : List (List Value)} (h : RdS w v sz CS) (k : Kp Non w w') : RdS w' v sz CS := by
  obtain ⟨A, c, h1, h2, h3, h4, h5⟩ := h
  refine ⟨A, c, h1, h2, h3, h4, ?_⟩
  rcases h5 with h5 | ⟨b, off, hA, hc⟩
  · exact .inl h5
  · exact .inr ⟨b, off, hA, fun i cs hi j u hu => k.cell (hc i cs hi j u hu) (fun x => x)⟩

section
variable {H : Type} {enc : TypeId × Value → H} {P : Program} {w : World} {base : Nat} {spare : Nat → Bool} {held : Bool}

theorem sees_slice {t e : TypeId} {fuel : Nat} {cs : List Value} {x : DataW H × List MemPlace} (ht : P.underlying t = some (.slice e)) (hpos : 0 < P.cellsOf e) (h : DataW.trod enc P w base spare held fuel t cs = some x) :
    ∃ v CS, cs = [v] ∧ RdS w v (P.cellsOf e) CS ∧ ∀ c ∈ CS, ∃ n y, DataW.trod enc P w base spare held n e c = some y := by
  rcases Go.Deep.open_slice ht h with ⟨rfl, _⟩ | ⟨a, len, cap, m, n, D, Pl, rfl, _, hl, hm, hmm, _, hx⟩
  · exact ⟨_, [], rfl, ⟨none, 0, rfl, by simp, by simp [maxLen], by simp, .inl rfl⟩, by simp⟩
  · have hlm : len ≤ m := by rw [hmm]; split <;> omega
    obtain ⟨F, hF⟩ := Go.Deep.choose_lt (α := List Value) (n := len) (p := fun i c => w.cells? base (a.add (i * P.cellsOf e)) (P.cellsOf e) = some c ∧ DataW.trod enc P w base spare held n e c = some (D i, Pl i)) (fun i hi => hx i (by omega))
    refine ⟨_, (List.range len).map F, rfl, ⟨some a, cap, by simp, by simpa using hl, hm, ?_, ?_⟩, ?_⟩
    · intro c hc
      obtain ⟨i, hi, rfl⟩ := List.mem_map.1 hc
      exact (World.cells?_some (hF i (by simpa using hi)).1).2.1
    · by_cases h0 : len = 0
      · exact .inl (by simp [h0])
      · right
        obtain ⟨b, off, spot⟩ := a
        have h1 := World.cells?_some (hF 0 (by omega)).1
        have h2 := h1.2.2 0 hpos
        have hsp : spot = none := by
          have h3 : (F 0)[0]? = some ((F 0)[0]'(by omega)) := List.getElem?_eq_getElem _
          rw [h3] at h2
          have := World.cell?_spot h2
          simpa [Addr.add] using this
        subst hsp
        refine ⟨b, off, rfl, fun i cs hi j u hu => ?_⟩
        have hil : i < len := by
          rcases Nat.lt_or_ge i len with h | h
          · exact h
          · simp [List.getElem?_eq_none (show ((List.range len).map F).length ≤ i by simpa using h)] at hi
        have hi' : F i = cs := by simpa [hil] using hi
        subst hi'
        have h3 := World.cells?_some (hF i hil).1
        have hj : j < (F i).length := (List.getElem?_eq_some_iff.1 hu).1
        have h4 := h3.2.2 j (by omega)
        rw [addr_add, addr_add, Nat.add_assoc] at h4
        rw [h4, hu]
    · intro c hc
      obtain ⟨i, hi, rfl⟩ := List.mem_map.1 hc
      exact ⟨n, _, (hF i (by simpa using hi)).2⟩
end

/-- Elements of one cell. -/
theorem RdS.one {w : World} {v : Value} {CS : List (List Value)} (h : RdS w v 1 CS) {l : List Value} (hl : CS = l.map fun u => [u]) : ∃ r, Rd w v r l := by
  obtain ⟨A, c, h1, h2, h3, _, h5⟩ := h
  have hlen : CS.length = l.length := by rw [hl]; simp
  refine ⟨A.map (·.block), A, c, by rw [h1, hlen], by omega, h3, ?_⟩
  rcases h5 with h5 | ⟨b, off, rfl, hc⟩
  · left
    rw [h5] at hl
    exact List.map_eq_nil_iff.1 hl.symm
  · refine .inr ⟨b, off, rfl, rfl, fun j u hu => ?_⟩
    have := hc j [u] (by rw [hl]; simp [hu]) 0 u rfl
    simpa using this

/-- From each element's form to one list. -/
theorem list_of {α β : Type} {p : β → α → Prop} : ∀ {l : List α}, (∀ c ∈ l, ∃ y, p y c) → ∃ ys : List β, ys.length = l.length ∧ ∀ (i : Nat) (c : α), l[i]? = some c → ∃ y : β, ys[i]? = some y ∧ p y c
  | [], _ => ⟨[], rfl, fun i c h => by simp at h⟩
  | c :: l, h => by
    obtain ⟨y, hy⟩ := h c (by simp)
    obtain ⟨ys, h1, h2⟩ := list_of (l := l) (fun c hc => h c (by simp [hc]))
    refine ⟨y :: ys, by simp [h1], fun i c' hi => ?_⟩
    cases i with
    | zero => simp at hi; subst hi; exact ⟨y, rfl, hy⟩
    | succ i => simpa using h2 i c' (by simpa using hi)

theorem list_map_of {α β : Type} {f : β → α} {q : β → Prop} : ∀ {l : List α}, (∀ c ∈ l, ∃ y, c = f y ∧ q y) → ∃ ys : List β, l = ys.map f ∧ ∀ y ∈ ys, q y
  | [], _ => ⟨[], rfl, by simp⟩
  | c :: l, h => by
    obtain ⟨y, rfl, hq⟩ := h c (by simp)
    obtain ⟨ys, rfl, h2⟩ := list_map_of (l := l) (fun c hc => h c (by simp [hc]))
    exact ⟨y :: ys, rfl, by simpa using ⟨hq, h2⟩⟩

section
variable {H : Type} {enc : TypeId × Value → H} {P : Program} {w : World} {base : Nat} {spare : Nat → Bool} {held : Bool}

/-- []int and its like. -/
theorem sees_ints {t e : TypeId} {k : IntKind} {fuel : Nat} {cs : List Value} {x : DataW H × List MemPlace} (ht : P.underlying t = some (.slice e)) (he : P.underlying e = some (.int k)) (hc : P.cellsOf e = 1) (h : DataW.trod enc P w base spare held fuel t cs = some x) :
    ∃ (v : Value) (r : Option Nat) (l : List Int), cs = [v] ∧ Rd w v r (l.map (Value.int k)) ∧ ∀ n ∈ l, (Lit.int k n).wf = true := by
  obtain ⟨v, CS, hv, hR, hel⟩ := sees_slice ht (by omega) h
  rw [hc] at hR
  obtain ⟨l, hl, hq⟩ := list_map_of (f := fun n : Int => [Value.int k n]) (q := fun n => (Lit.int k n).wf = true) (l := CS) (fun c hcm => by
    obtain ⟨n, y, hy⟩ := hel c hcm
    obtain ⟨a, rfl, _, hw⟩ := DataW.trod_int he hy
    exact ⟨a, rfl, hw⟩)
  obtain ⟨r, hr⟩ := hR.one (l := l.map (Value.int k)) (by rw [hl, List.map_map]; rfl)
  exact ⟨v, r, l, hv, hr, hq⟩

/-- []byte. -/
theorem sees_bytes {t e : TypeId} {fuel : Nat} {cs : List Value} {x : DataW H × List MemPlace} (ht : P.underlying t = some (.slice e)) (he : P.underlying e = some (.int .u8)) (hc : P.cellsOf e = 1) (h : DataW.trod enc P w base spare held fuel t cs = some x) :
    ∃ (v : Value) (r : Option Nat) (l : List UInt8), cs = [v] ∧ Rd w v r (byv l) := by
  obtain ⟨v, r, l, hv, hr, hq⟩ := sees_ints ht he hc h
  refine ⟨v, r, l.map fun n => UInt8.ofNat n.toNat, hv, ?_⟩
  have : byv (l.map fun n => UInt8.ofNat n.toNat) = l.map (Value.int .u8) := by
    unfold byv
    rw [List.map_map]
    refine List.map_congr_left fun n hn => ?_
    have hb := bounds_u8 (hq n hn)
    simp only [Function.comp]
    congr 1
    simp [UInt8.toNat_ofNat]
    omega
  rw [this]
  exact hr
end

/-- [][]byte. -/
def Rows2 (w : World) (v : Value) (ls : List (List UInt8)) : Prop :=
  ∃ r vs, Rd w v r vs ∧ vs.length = ls.length ∧ ∀ (i : Nat) (l : List UInt8), ls[i]? = some l → ∃ u ri, vs[i]? = some u ∧ Rd w u ri (byv l)

section
variable {H : Type} {enc : TypeId × Value → H} {P : Program} {w : World} {base : Nat} {spare : Nat → Bool} {held : Bool}
theorem sees_bytess {t e f : TypeId} {fuel : Nat} {cs : List Value} {x : DataW H × List MemPlace} (ht : P.underlying t = some (.slice e)) (he : P.underlying e = some (.slice f)) (hf : P.underlying f = some (.int .u8)) (hc : P.cellsOf e = 1) (hd : P.cellsOf f = 1)
    (h : DataW.trod enc P w base spare held fuel t cs = some x) : ∃ (v : Value) (ls : List (List UInt8)), cs = [v] ∧ Rows2 w v ls := by
  obtain ⟨v, CS, hv, hR, hel⟩ := sees_slice ht (by omega) h
  rw [hc] at hR
  obtain ⟨ps, hps, hq⟩ := list_map_of (f := fun p : Value × List UInt8 => [p.1]) (q := fun p => ∃ r, Rd w p.1 r (byv p.2)) (l := CS) (fun c hcm => by
    obtain ⟨n, y, hy⟩ := hel c hcm
    obtain ⟨u, r, l, hu, hr⟩ := sees_bytes he hf hd hy
    exact ⟨(u, l), hu, r, hr⟩)
  obtain ⟨r, hr⟩ := hR.one (l := ps.map (·.1)) (by rw [hps, List.map_map]; rfl)
  refine ⟨v, ps.map (·.2), hv, r, ps.map (·.1), hr, by simp, fun i l hi => ?_⟩
  rw [List.getElem?_map] at hi
  obtain ⟨p, hp, rfl⟩ := Option.map_eq_some_iff.1 hi
  obtain ⟨ri, hri⟩ := hq p (List.mem_of_getElem? hp)
  exact ⟨p.1, ri, by rw [List.getElem?_map, hp]; rfl, hri⟩
end

end Go.Proofs.Ytpbkipolgdldfaa

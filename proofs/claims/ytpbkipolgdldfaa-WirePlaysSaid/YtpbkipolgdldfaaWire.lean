/- A wire in memory, and the contracts of its functions: what each answers and what it leaves of memory. -/
import Derived.Test.YtpbkipolgdldfaaWire0
namespace Go.Proofs.Ytpbkipolgdldfaa
open Go.RowKit
set_option linter.unusedSimpArgs false
set_option linter.unusedVariables false
attribute [local go_sem] max2_of min2_of max_of min_of

/-- A connection: how it stands, how many bytes came, whether it is finished; what was put and how many of it were taken; what went out, and was written, ahead. -/
structure Cn where
  st : Int
  got : Nat
  done : Bool
  b : List UInt8
  a : Nat
  old : List UInt8
  wrote : List UInt8
def Cn.sent (X : Cn) : List UInt8 := X.old ++ X.b.take X.a
def Cn.written (X : Cn) : List UInt8 := X.wrote ++ X.b
def outF (st : Int) : Bool := decide (st = 2 ∨ st = 3)

/-- Its six cells, from o on, and what they lead to: what may be written lies in F, what is only read in R. -/
def CnC (w : World) (cs : Array Value) (o : Nat) (X : Cn) (q : Nat) (r : Option Nat) (F R : Nat → Prop) : Prop :=
  ∃ vo vw ro rw, cs[o]? = some (.int .i64 X.st) ∧ cs[o + 1]? = some (.int .i64 X.got) ∧ cs[o + 2]? = some (.bool X.done) ∧ cs[o + 3]? = some (.pointer (some ⟨q, 0, none⟩)) ∧ cs[o + 4]? = some vo ∧ cs[o + 5]? = some vw ∧
    Que w q r X.b X.a 4000 ∧ Rd w vo ro (byv X.old) ∧ Rd w vw rw (byv X.wrote) ∧ F q ∧ (∀ k, r = some k → F k) ∧ (∀ k, ro = some k → R k) ∧ (∀ k, rw = some k → R k) ∧ X.got ≤ 4000

def Wir (w : World) (g : Nat) (S : Nat → Cn) (F R : Nat → Prop) : Prop :=
  ∃ (cs : Array Value) (q : Nat → Nat) (r : Nat → Option Nat), Blk w g cs 52 ∧ cs.size = 12 ∧ F g ∧ (∀ i, i < 2 → CnC w cs (i * 6) (S i) (q i) (r i) F R) ∧
    (∀ i j, i < 2 → j < 2 → i ≠ j → q i ≠ q j ∧ ∀ k, r i = some k → r j ≠ some k) ∧ (∀ k, F k → k < w.heap.size ∧ ¬ R k) ∧ (∀ k, R k → k < w.heap.size)

section
variable {w w' : World} {g : Nat} {S : Nat → Cn} {F R Z : Nat → Prop}
theorem CnC.kp {cs : Array Value} {o : Nat} {X : Cn} {q : Nat} {r : Option Nat} (h : CnC w cs o X q r F R) (k : Kp Z w w') (hz : ∀ i, Z i → ¬ F i ∧ ¬ R i) : CnC w' cs o X q r F R := by
  obtain ⟨vo, vw, ro, rw', c0, c1, c2, c3, c4, c5, hq, ho, hw, f1, f2, f3, f4, f5⟩ := h
  exact ⟨vo, vw, ro, rw', c0, c1, c2, c3, c4, c5, hq.kp k (fun h => (hz _ h).1 f1) (fun i hi h => (hz _ h).1 (f2 i hi)), ho.kp k (fun i hi h => (hz _ h).2 (f3 i hi)), hw.kp k (fun i hi h => (hz _ h).2 (f4 i hi)), f1, f2, f3, f4, f5⟩
theorem Wir.kp (h : Wir w g S F R) (k : Kp Z w w') (hz : ∀ i, Z i → ¬ F i ∧ ¬ R i) : Wir w' g S F R := by
  obtain ⟨cs, q, r, h1, h2, h3, h4, h5, h6, h7⟩ := h
  exact ⟨cs, q, r, h1.kp k (fun h => (hz _ h).1 h3), h2, h3, fun i hi => (h4 i hi).kp k hz, h5, fun i hi => ⟨Nat.lt_of_lt_of_le (h6 i hi).1 k.size, (h6 i hi).2⟩, fun i hi => Nat.lt_of_lt_of_le (h7 i hi) k.size⟩
theorem Wir.keep (h : Wir w g S F R) (k : Kp Non w w') : Wir w' g S F R := h.kp k (fun _ x => x.elim)
end

/-- F, and what is new. -/
def Grown (w : World) (F : Nat → Prop) (w' : World) : Nat → Prop := fun k => F k ∨ (w.heap.size ≤ k ∧ k < w'.heap.size)
def upd (S : Nat → Cn) (i : Nat) (X : Cn) : Nat → Cn := fun j => if j = i then X else S j
theorem upd_same (S : Nat → Cn) (i : Nat) (X : Cn) : upd S i X i = X := by simp [upd]
theorem upd_self (S : Nat → Cn) (i : Nat) : upd S i (S i) = S := by funext j; unfold upd; split <;> simp_all

/-- The queue of one has changed. -/
theorem Wir.setQ {w w' : World} {g : Nat} {S : Nat → Cn} {F R : Nat → Prop} {cs : Array Value} {q : Nat → Nat} {r : Nat → Option Nat} (h1 : Blk w g cs 52) (h2 : cs.size = 12) (h3 : F g)
    (h4 : ∀ i, i < 2 → CnC w cs (i * 6) (S i) (q i) (r i) F R) (h5 : ∀ i j, i < 2 → j < 2 → i ≠ j → q i ≠ q j ∧ ∀ k, r i = some k → r j ≠ some k) (h6 : ∀ k, F k → k < w.heap.size ∧ ¬ R k) (h7 : ∀ k, R k → k < w.heap.size)
    (i : Nat) (hi : i < 2) (b' : List UInt8) (a' : Nat) (r' : Option Nat) (hq : Que w' (q i) r' b' a' 4000) (hn : New w (r i) r') (k : Kp (Two (q i) (r i)) w w') :
    Wir w' g (upd S i { S i with b := b', a := a' }) (Grown w F w') R := by
  have hgq : ∀ j, j < 2 → g ≠ q j ∧ r j ≠ some g := fun j hj => by
    obtain ⟨vo, vw, ro, rw', _, _, _, _, _, _, hq, _⟩ := h4 j hj
    obtain ⟨v, hb, ho, _⟩ := hq
    refine ⟨?_, ho.ne_blk h1 (by decide)⟩
    rintro rfl
    exact absurd (h1.inj hb).2 (by decide)
  have hqr : ∀ j l, j < 2 → l < 2 → r l ≠ some (q j) := fun j l hj hl => by
    obtain ⟨vo, vw, ro, rw', _, _, _, _, _, _, hq, _⟩ := h4 j hj
    obtain ⟨v, hb, _⟩ := hq
    obtain ⟨vo, vw, ro, rw', _, _, _, _, _, _, hq', _⟩ := h4 l hl
    obtain ⟨v', _, ho, _⟩ := hq'
    exact ho.ne_blk hb (by decide)
  have hG : ∀ k, F k → Grown w F w' k := fun k h => .inl h
  have hr'lt := hq.row_lt
  refine ⟨cs, q, fun j => if j = i then r' else r j, h1.kp k (fun h => h.elim (hgq i hi).1 (hgq i hi).2), h2, .inl h3, fun j hj => ?_, ?_, ?_, fun l hl => Nat.lt_of_lt_of_le (h7 l hl) k.size⟩
  · obtain ⟨vo, vw, ro, rw', c0, c1, c2, c3, c4, c5, hq', ho, hw, f1, f2, f3, f4, f5⟩ := h4 j hj
    obtain ⟨_, _, _, _, _, _, _, _, _, _, _, _, _, fi1, fi2, _⟩ := h4 i hi
    have hS : ∀ l, Two (q i) (r i) l → F l := fun l hl => by
      rcases hl with hl | hl
      · rw [hl]; exact fi1
      · exact fi2 l hl
    have ho' := ho.kp k (fun l hl h => (h6 l (hS l h)).2 (f3 l hl))
    have hw' := hw.kp k (fun l hl h => (h6 l (hS l h)).2 (f4 l hl))
    by_cases hji : j = i
    · subst hji
      simp only [upd, if_true]
      refine ⟨vo, vw, ro, rw', c0, c1, c2, c3, c4, c5, hq, ho', hw', .inl f1, fun l hl => ?_, f3, f4, f5⟩
      rcases hn l hl with h | h
      · exact .inl (f2 l h)
      · exact .inr ⟨h, hr'lt l hl⟩
    · simp only [upd, if_neg hji]
      refine ⟨vo, vw, ro, rw', c0, c1, c2, c3, c4, c5, hq'.kp k ?_ ?_, ho', hw', .inl f1, fun l hl => .inl (f2 l hl), f3, f4, f5⟩
      · intro h
        rcases h with h | h
        · exact (h5 j i hj hi hji).1 h
        · exact hqr j i hj hi h
      · intro l hl h
        rcases h with h | h
        · exact hqr i j hi hj (by rw [hl, h])
        · exact (h5 j i hj hi hji).2 l hl h
  · intro j l hj hl hjl
    refine ⟨(h5 j l hj hl hjl).1, fun k' hk' => ?_⟩
    simp only at hk' ⊢
    have hold : ∀ m, m < 2 → ∀ k2, r m = some k2 → k2 < w.heap.size := fun m hm k2 hk2 => by
      obtain ⟨_, _, _, _, _, _, _, _, _, _, hq', _⟩ := h4 m hm
      exact hq'.row_lt k2 hk2
    by_cases hji : j = i
    · subst hji
      rw [if_pos rfl] at hk'
      rw [if_neg (Ne.symm hjl)]
      intro h
      rcases hn k' hk' with h' | h'
      · exact (h5 j l hj hl hjl).2 k' h' h
      · have := hold l hl k' h; omega
    · rw [if_neg hji] at hk'
      by_cases hli : l = i
      · subst hli
        rw [if_pos rfl]
        intro h
        rcases hn k' h with h' | h'
        · exact (h5 j l hj hl hjl).2 k' hk' h'
        · have := hold j hj k' hk'; omega
      · rw [if_neg hli]
        exact (h5 j l hj hl hjl).2 k' hk'
  · intro l hl
    rcases hl with hl | hl
    · exact ⟨Nat.lt_of_lt_of_le (h6 l hl).1 k.size, (h6 l hl).2⟩
    · exact ⟨hl.2, fun h => by have := h7 l h; omega⟩

end Go.Proofs.Ytpbkipolgdldfaa

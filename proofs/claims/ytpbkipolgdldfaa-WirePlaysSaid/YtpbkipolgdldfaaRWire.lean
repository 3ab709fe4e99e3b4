/- The reference's wire in memory. -/
import Derived.Test.YtpbkipolgdldfaaWireS
import Derived.Test.YtpbkipolgdldfaaQRef
namespace Go.Proofs.Ytpbkipolgdldfaa
open Go.RowKit
set_option linter.unusedSimpArgs false
set_option linter.unusedVariables false
attribute [local go_sem] max2_of min2_of max_of min_of

theorem RQue.len_le {w : World} {g a : Nat} {r : Option Nat} {b : List UInt8} {m : Int} (h : RQue w g r b a m) : (b.length : Int) ≤ m := by
  obtain ⟨v, _, _, _, h4, _⟩ := h
  exact h4

/-- Its six cells, from o on, and what they lead to: what may be written lies in F, what is only read in R. -/
def RCnC (w : World) (cs : Array Value) (o : Nat) (X : Cn) (q : Nat) (r : Option Nat) (F R : Nat → Prop) : Prop :=
  ∃ vo vw ro rw, cs[o]? = some (.int .i64 X.st) ∧ cs[o + 1]? = some (.int .i64 X.got) ∧ cs[o + 2]? = some (.bool X.done) ∧ cs[o + 3]? = some (.pointer (some ⟨q, 0, none⟩)) ∧ cs[o + 4]? = some vo ∧ cs[o + 5]? = some vw ∧
    RQue w q r X.b X.a 4000 ∧ Rd w vo ro (byv X.old) ∧ Rd w vw rw (byv X.wrote) ∧ F q ∧ (∀ k, r = some k → F k) ∧ (∀ k, ro = some k → R k) ∧ (∀ k, rw = some k → R k) ∧ X.got ≤ 4000

def RWir (w : World) (g : Nat) (S : Nat → Cn) (F R : Nat → Prop) : Prop :=
  ∃ (cs : Array Value) (q : Nat → Nat) (r : Nat → Option Nat), Blk w g cs 66 ∧ cs.size = 12 ∧ F g ∧ (∀ i, i < 2 → RCnC w cs (i * 6) (S i) (q i) (r i) F R) ∧
    (∀ i j, i < 2 → j < 2 → i ≠ j → q i ≠ q j ∧ ∀ k, r i = some k → r j ≠ some k) ∧ (∀ k, F k → k < w.heap.size ∧ ¬ R k) ∧ (∀ k, R k → k < w.heap.size)

section
variable {w w' : World} {g : Nat} {S : Nat → Cn} {F R Z : Nat → Prop}
theorem RCnC.kp {cs : Array Value} {o : Nat} {X : Cn} {q : Nat} {r : Option Nat} (h : RCnC w cs o X q r F R) (k : Kp Z w w') (hz : ∀ i, Z i → ¬ F i ∧ ¬ R i) : RCnC w' cs o X q r F R := by
  obtain ⟨vo, vw, ro, rw', c0, c1, c2, c3, c4, c5, hq, ho, hw, f1, f2, f3, f4, f5⟩ := h
  exact ⟨vo, vw, ro, rw', c0, c1, c2, c3, c4, c5, hq.kp k (fun h => (hz _ h).1 f1) (fun i hi h => (hz _ h).1 (f2 i hi)), ho.kp k (fun i hi h => (hz _ h).2 (f3 i hi)), hw.kp k (fun i hi h => (hz _ h).2 (f4 i hi)), f1, f2, f3, f4, f5⟩
theorem RWir.kp (h : RWir w g S F R) (k : Kp Z w w') (hz : ∀ i, Z i → ¬ F i ∧ ¬ R i) : RWir w' g S F R := by
  obtain ⟨cs, q, r, h1, h2, h3, h4, h5, h6, h7⟩ := h
  exact ⟨cs, q, r, h1.kp k (fun h => (hz _ h).1 h3), h2, h3, fun i hi => (h4 i hi).kp k hz, h5, fun i hi => ⟨Nat.lt_of_lt_of_le (h6 i hi).1 k.size, (h6 i hi).2⟩, fun i hi => Nat.lt_of_lt_of_le (h7 i hi) k.size⟩
theorem RWir.keep (h : RWir w g S F R) (k : Kp Non w w') : RWir w' g S F R := h.kp k (fun _ x => x.elim)
end

/-- The queue of one has changed. -/
theorem RWir.setQ {w w' : World} {g : Nat} {S : Nat → Cn} {F R : Nat → Prop} {cs : Array Value} {q : Nat → Nat} {r : Nat → Option Nat} (h1 : Blk w g cs 66) (h2 : cs.size = 12) (h3 : F g)
    (h4 : ∀ i, i < 2 → RCnC w cs (i * 6) (S i) (q i) (r i) F R) (h5 : ∀ i j, i < 2 → j < 2 → i ≠ j → q i ≠ q j ∧ ∀ k, r i = some k → r j ≠ some k) (h6 : ∀ k, F k → k < w.heap.size ∧ ¬ R k) (h7 : ∀ k, R k → k < w.heap.size)
    (i : Nat) (hi : i < 2) (b' : List UInt8) (a' : Nat) (r' : Option Nat) (hq : RQue w' (q i) r' b' a' 4000) (hn : New w (r i) r') (k : Kp (Two (q i) (r i)) w w') :
    RWir w' g (upd S i { S i with b := b', a := a' }) (Grown w F w') R := by
  have hgq : ∀ j, j < 2 → g ≠ q j ∧ r j ≠ some g := fun j hj => by
    obtain ⟨vo, vw, ro, rw', _, _, _, _, _, _, hq, _⟩ := h4 j hj
    obtain ⟨v, hb, ho, _⟩ := hq
    refine ⟨?_, ho.ne_blk h1 (by decide)⟩
    rintro rfl
    exact absurd (h1.inj hb).2 (by decide)
  have hqr : ∀ j l, j < 2 → l < 2 → r l ≠ some (q j) := fun j l hj hl => by
    obtain ⟨vo, vw, ro, rw', _, _, _, _, _, _, hq, _⟩ := h4 j hj
    obtain ⟨v, hb, _⟩ := hq
    obtain ⟨vo, vw, ro, rw', _, _, _, _, _, _, hq', _⟩ := h4 l hl
    obtain ⟨v', _, ho, _⟩ := hq'
    exact ho.ne_blk hb (by decide)
  have hG : ∀ k, F k → Grown w F w' k := fun k h => .inl h
  have hr'lt := hq.row_lt
  refine ⟨cs, q, fun j => if j = i then r' else r j, h1.kp k (fun h => h.elim (hgq i hi).1 (hgq i hi).2), h2, .inl h3, fun j hj => ?_, ?_, ?_, fun l hl => Nat.lt_of_lt_of_le (h7 l hl) k.size⟩
  · obtain ⟨vo, vw, ro, rw', c0, c1, c2, c3, c4, c5, hq', ho, hw, f1, f2, f3, f4, f5⟩ := h4 j hj
    obtain ⟨_, _, _, _, _, _, _, _, _, _, _, _, _, fi1, fi2, _⟩ := h4 i hi
    have hS : ∀ l, Two (q i) (r i) l → F l := fun l hl => by
      rcases hl with hl | hl
      · rw [hl]; exact fi1
      · exact fi2 l hl
    have ho' := ho.kp k (fun l hl h => (h6 l (hS l h)).2 (f3 l hl))
    have hw' := hw.kp k (fun l hl h => (h6 l (hS l h)).2 (f4 l hl))
    by_cases hji : j = i
    · subst hji
      simp only [upd, if_true]
      refine ⟨vo, vw, ro, rw', c0, c1, c2, c3, c4, c5, hq, ho', hw', .inl f1, fun l hl => ?_, f3, f4, f5⟩
      rcases hn l hl with h | h
      · exact .inl (f2 l h)
      · exact .inr ⟨h, hr'lt l hl⟩
    · simp only [upd, if_neg hji]
      refine ⟨vo, vw, ro, rw', c0, c1, c2, c3, c4, c5, hq'.kp k ?_ ?_, ho', hw', .inl f1, fun l hl => .inl (f2 l hl), f3, f4, f5⟩
      · intro h
        rcases h with h | h
        · exact (h5 j i hj hi hji).1 h
        · exact hqr j i hj hi h
      · intro l hl h
        rcases h with h | h
        · exact hqr i j hi hj (by rw [hl, h])
        · exact (h5 j i hj hi hji).2 l hl h
  · intro j l hj hl hjl
    refine ⟨(h5 j l hj hl hjl).1, fun k' hk' => ?_⟩
    simp only at hk' ⊢
    have hold : ∀ m, m < 2 → ∀ k2, r m = some k2 → k2 < w.heap.size := fun m hm k2 hk2 => by
      obtain ⟨_, _, _, _, _, _, _, _, _, _, hq', _⟩ := h4 m hm
      exact hq'.row_lt k2 hk2
    by_cases hji : j = i
    · subst hji
      rw [if_pos rfl] at hk'
      rw [if_neg (Ne.symm hjl)]
      intro h
      rcases hn k' hk' with h' | h'
      · exact (h5 j l hj hl hjl).2 k' h' h
      · have := hold l hl k' h; omega
    · rw [if_neg hji] at hk'
      by_cases hli : l = i
      · subst hli
        rw [if_pos rfl]
        intro h
        rcases hn k' h with h' | h'
        · exact (h5 j l hj hl hjl).2 k' hk' h'
        · have := hold j hj k' hk'; omega
      · rw [if_neg hli]
        exact (h5 j l hj hl hjl).2 k' hk'
  · intro l hl
    rcases hl with hl | hl
    · exact ⟨Nat.lt_of_lt_of_le (h6 l hl).1 k.size, (h6 l hl).2⟩
    · exact ⟨hl.2, fun h => by have := h7 l h; omega⟩

theorem RWir.cells {w : World} {g : Nat} {S : Nat → Cn} {F R : Nat → Prop} (h : RWir w g S F R) (i : Nat) (hi : i < 2) : ∃ q r vo vw ro rw,
    w.cell? ⟨g, i * 6, none⟩ = some (.int .i64 (S i).st) ∧ w.cell? ⟨g, i * 6 + 1, none⟩ = some (.int .i64 (S i).got) ∧ w.cell? ⟨g, i * 6 + 2, none⟩ = some (.bool (S i).done) ∧ w.cell? ⟨g, i * 6 + 3, none⟩ = some (.pointer (some ⟨q, 0, none⟩)) ∧
    w.cell? ⟨g, i * 6 + 4, none⟩ = some vo ∧ w.cell? ⟨g, i * 6 + 5, none⟩ = some vw ∧ RQue w q r (S i).b (S i).a 4000 ∧ Rd w vo ro (byv (S i).old) ∧ Rd w vw rw (byv (S i).wrote) ∧ (∀ o, w.frozen? ⟨g, o, none⟩ = false) ∧ (S i).got ≤ 4000 := by
  obtain ⟨cs, q, r, h1, h2, h3, h4, _⟩ := h
  obtain ⟨vo, vw, ro, rw', c0, c1, c2, c3, c4, c5, hq, ho, hw, _, _, _, _, f5⟩ := h4 i hi
  exact ⟨q i, r i, vo, vw, ro, rw', (h1.cell _).trans c0, (h1.cell _).trans c1, (h1.cell _).trans c2, (h1.cell _).trans c3, (h1.cell _).trans c4, (h1.cell _).trans c5, hq, ho, hw, h1.frozen, f5⟩

/-- A number or a flag of one is set. -/
theorem RWir.setC {w : World} {g : Nat} {S : Nat → Cn} {F R : Nat → Prop} (h : RWir w g S F R) (i : Nat) (hi : i < 2) (d : Nat) (hd : d < 3) (u : Value) (X : Cn)
    (h0 : (if d = 0 then u else .int .i64 (S i).st) = .int .i64 X.st) (h1 : (if d = 1 then u else .int .i64 (S i).got) = .int .i64 X.got) (h2 : (if d = 2 then u else .bool (S i).done) = .bool X.done)
    (hb : X.b = (S i).b) (ha : X.a = (S i).a) (ho : X.old = (S i).old) (hw : X.wrote = (S i).wrote) (hg4 : X.got ≤ 4000) : RWir (w.setCell ⟨g, i * 6 + d, none⟩ u) g (upd S i X) F R := by
  obtain ⟨cs, q, r, b1, b2, b3, b4, b5, b6, b7⟩ := h
  have hk := (Kp.refl (One g) w).setOne (i * 6 + d) u
  have hgq : ∀ j, j < 2 → q j ≠ g ∧ r j ≠ some g := fun j hj => by
    obtain ⟨vo, vw, ro, rw', _, _, _, _, _, _, hq, _⟩ := b4 j hj
    obtain ⟨v, hb, ho, _⟩ := hq
    refine ⟨?_, ho.ne_blk b1 (by decide)⟩
    intro hgq
    rw [hgq] at hb
    exact absurd (b1.inj hb).2 (by decide)
  have hRg : ¬ R g := (b6 g b3).2
  refine ⟨_, q, r, b1.set (i * 6 + d) u, by simp [b2], b3, fun j hj => ?_, b5, fun k hk' => ⟨Nat.lt_of_lt_of_le (b6 k hk').1 hk.size, (b6 k hk').2⟩, fun k hk' => Nat.lt_of_lt_of_le (b7 k hk') hk.size⟩
  obtain ⟨vo, vw, ro, rw', c0, c1, c2, c3, c4, c5, hq, ho', hw', f1, f2, f3, f4, f5⟩ := b4 j hj
  have hq2 := hq.kp hk (fun h => (hgq j hj).1 h) (fun k hk' h => (hgq j hj).2 (by rw [hk', show k = g from h]))
  have ho2 := ho'.kp hk (fun k hk' h => hRg (by rw [← show k = g from h]; exact f3 k hk'))
  have hw2 := hw'.kp hk (fun k hk' h => hRg (by rw [← show k = g from h]; exact f4 k hk'))
  have hget : ∀ e, e < 6 → (cs.setIfInBounds (i * 6 + d) u)[j * 6 + e]? = if j = i ∧ e = d then some u else cs[j * 6 + e]? := fun e he => by
    simp only [Array.getElem?_setIfInBounds]
    by_cases hji : j = i ∧ e = d
    · obtain ⟨rfl, rfl⟩ := hji
      have : j * 6 + e < cs.size := by omega
      simp [this]
    · rw [if_neg (by omega), if_neg hji]
  have g0 := hget 0 (by omega)
  have g1 := hget 1 (by omega)
  have g2 := hget 2 (by omega)
  have g3 := hget 3 (by omega)
  have g4 := hget 4 (by omega)
  have g5 := hget 5 (by omega)
  rw [Nat.add_zero] at g0
  rw [if_neg (by omega), c3] at g3
  rw [if_neg (by omega), c4] at g4
  rw [if_neg (by omega), c5] at g5
  rw [c0] at g0
  rw [c1] at g1
  rw [c2] at g2
  by_cases hji : j = i
  · subst hji
    simp only [upd, if_true]
    refine ⟨vo, vw, ro, rw', ?_, ?_, ?_, g3, g4, g5, by rw [hb, ha]; exact hq2, by rw [ho]; exact ho2, by rw [hw]; exact hw2, f1, f2, f3, f4, hg4⟩
    · rw [g0, ← h0]; by_cases hd0 : d = 0 <;> simp [hd0, eq_comm]
    · rw [g1, ← h1]; by_cases hd1 : d = 1 <;> simp [hd1, eq_comm]
    · rw [g2, ← h2]; by_cases hd2 : d = 2 <;> simp [hd2, eq_comm]
  · simp only [upd, if_neg hji]
    rw [if_neg (fun h => hji h.1)] at g0 g1 g2
    exact ⟨vo, vw, ro, rw', g0, g1, g2, g3, g4, g5, hq2, ho2, hw2, f1, f2, f3, f4, f5⟩

end Go.Proofs.Ytpbkipolgdldfaa

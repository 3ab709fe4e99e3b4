/- Small words on the world that the walks of this seat share: a block known whole (Blk), what a call keeps (Kp), a row of the call's own (Own), a row that is read (Rd), append of whatever source, bytes as strings, max and min of whole numbers. -/
import Derived.WalkKit
import Derived.WalkSpells
import Derived.Deep.Draws
import Derived.Deep.AppendSrc
import Derived.Laws.BytesArg
import Derived.Lib.SlBytesConst
namespace Go.Proofs.Ytpbkipolgdldfaa
open Go.RowKit
set_option linter.unusedSimpArgs false
set_option linter.unusedVariables false

/-- A fact that the walk's simp does not look into. -/
theorem hid {p : Prop} (h : p) : Hid p := h

/-- Block g holds just these cells, of elements T; none of them is frozen. -/
def Blk (w : World) (g : Nat) (cs : Array Value) (T : Nat) : Prop := w.heap[g]? = some (.cells cs T (0, 0))

/-- What a call keeps: every old block but those of S. -/
structure Kp (S : Nat → Prop) (w w' : World) : Prop where
  os : w'.os = w.os
  tape : w'.tape = w.tape
  output : w'.output = w.output
  size : w.heap.size ≤ w'.heap.size
  block : ∀ k, k < w.heap.size → ¬ S k → w'.heap[k]? = w.heap[k]?

/-- Nothing. -/
def Non : Nat → Prop := fun _ => False
/-- One block. -/
def One (g : Nat) : Nat → Prop := fun k => k = g
/-- A row's block, if it has one. -/
def Row (r : Option Nat) : Nat → Prop := fun k => r = some k
/-- An object's block and its row's. -/
def Two (g : Nat) (r : Option Nat) : Nat → Prop := fun k => k = g ∨ r = some k
/-- A row is the old one, or lies in new memory. -/
def New (w : World) (r r' : Option Nat) : Prop := ∀ k, r' = some k → r = some k ∨ w.heap.size ≤ k

section
variable {S S' : Nat → Prop} {a b w w' : World}
theorem Kp.refl (S : Nat → Prop) (w : World) : Kp S w w := ⟨rfl, rfl, rfl, Nat.le_refl _, fun _ _ _ => rfl⟩
theorem Kp.trans (h : Kp S a b) (k : Kp S' b w) (hs : ∀ i, S' i → S i ∨ a.heap.size ≤ i) : Kp S a w :=
  ⟨k.os.trans h.os, k.tape.trans h.tape, k.output.trans h.output, Nat.le_trans h.size k.size,
   fun i hi hn => (k.block i (Nat.lt_of_lt_of_le hi h.size) (fun h2 => (hs i h2).elim hn (fun h3 => by omega))).trans (h.block i hi hn)⟩
theorem Kp.mono (h : Kp S a b) (hs : ∀ i, S i → S' i) : Kp S' a b := ⟨h.os, h.tape, h.output, h.size, fun i hi hn => h.block i hi (fun x => hn (hs i x))⟩
theorem Kp.any (h : Kp Non a b) : Kp S a b := h.mono (fun _ x => x.elim)
theorem Kp.of_below (h : Below w.heap.size w w') (S : Nat → Prop) : Kp S w w' := ⟨h.os, h.tape, h.output, h.size, fun i hi _ => h.block i hi⟩
theorem Kp.below (h : Kp Non w w') : Below w.heap.size w w' := ⟨h.os, h.tape, h.output, h.size, fun i hi => h.block i hi (fun x => x)⟩
theorem Kp.drew (h : Kp S a w) : Kp S a w.drew := ⟨h.os, h.tape, h.output, h.size, h.block⟩
theorem Kp.drewN (h : Kp S a w) (n : Nat) : Kp S a (w.drewN n) := ⟨h.os, h.tape, h.output, h.size, h.block⟩
theorem Kp.alloc (h : Kp S a w) (o : Obj) : Kp S a (w.alloc o) := h.trans (Kp.of_below ((Below.refl _ _).alloc (Nat.le_refl _) o) Non) (fun _ x => x.elim)
theorem Kp.setCell (h : Kp S a w) {p : Addr} (hp : S p.block ∨ a.heap.size ≤ p.block) (u : Value) : Kp S a (w.setCell p u) :=
  h.trans (S' := One p.block) ⟨rfl, rfl, rfl, by simp [World.setCell], fun i _ hn => Below.heap_setCell w p u i hn⟩ (fun i hi => by rw [show i = p.block from hi]; exact hp)
theorem Kp.setOne {g : Nat} (h : Kp (One g) a w) (o : Nat) (u : Value) : Kp (One g) a (w.setCell ⟨g, o, none⟩ u) := h.setCell (p := ⟨g, o, none⟩) (.inl rfl) u
/-- What follows a call that keeps all. -/
theorem Kp.seq (h : Kp S a b) (k : Kp Non b w) : Kp S a w := h.trans k (fun _ x => x.elim)
/-- What was written is new. -/
theorem Kp.seqNew (h : Kp S a b) (k : Kp S' b w) (hs : ∀ i, S' i → a.heap.size ≤ i) : Kp S a w := h.trans k (fun i hi => .inr (hs i hi))
theorem Kp.frozen (h : Kp Non w w') {p : Addr} (hp : p.block < w.heap.size) : w'.frozen? p = w.frozen? p := World.frozen?_of_block (w := w) (h.block _ hp (fun x => x))
theorem Kp.cell (h : Kp S w w') {p : Addr} {v : Value} (hc : w.cell? p = some v) (hn : ¬ S p.block) : w'.cell? p = some v :=
  (World.cell?_of_block (h.block p.block (World.block_lt_of_cell? w p hc) hn)).trans hc

theorem New.refl (w : World) (r : Option Nat) : New w r r := fun _ h => .inl h
theorem New.none (w : World) (r : Option Nat) : New w r none := fun _ h => by cases h
theorem New.trans {r r' r'' : Option Nat} (h : New a r r') (k : New b r' r'') (hs : a.heap.size ≤ b.heap.size) : New a r r'' := fun i hi =>
  (k i hi).elim (h i) (fun x => .inr (by omega))
theorem New.lt_ne {r r' : Option Nat} {g : Nat} (h : New w r r') (hg : g < w.heap.size) (hr : r ≠ some g) : r' ≠ some g := fun e =>
  (h g e).elim hr (fun x => by omega)

variable {g o T : Nat} {cs : Array Value} {v : Value}
theorem Blk.lt (h : Blk w g cs T) : g < w.heap.size := (Array.getElem?_eq_some_iff.1 h).1
theorem Blk.cell (h : Blk w g cs T) (o : Nat) : w.cell? ⟨g, o, none⟩ = cs[o]? := by unfold Blk at h; simp [World.cell?, h]
theorem Blk.frozen (h : Blk w g cs T) (o : Nat) : w.frozen? ⟨g, o, none⟩ = false := by unfold Blk at h; simp [World.frozen?, h]
theorem Blk.kp (h : Blk w g cs T) (k : Kp S w w') (hn : ¬ S g) : Blk w' g cs T := (k.block g h.lt hn).trans h
theorem Blk.keep (h : Blk w g cs T) (k : Kp Non w w') : Blk w' g cs T := h.kp k (fun x => x)
theorem Blk.old (h : Blk w g cs T) (ob : Obj) : Blk (w.alloc ob) g cs T := (Below.heap_alloc w ob g h.lt).trans h
theorem Blk.drew (h : Blk w g cs T) : Blk w.drew g cs T := h
theorem Blk.drewN (h : Blk w g cs T) (n : Nat) : Blk (w.drewN n) g cs T := h
theorem Blk.new (w : World) (cs : Array Value) (T : Nat) : Blk (w.alloc (.cells cs T)) w.heap.size cs T := by
  show (w.heap.push _)[w.heap.size]? = _
  simp
theorem Blk.far (h : Blk w g cs T) {p : Addr} (hn : g ≠ p.block) (u : Value) : Blk (w.setCell p u) g cs T := (Below.heap_setCell w p u g hn).trans h
theorem Blk.set (h : Blk w g cs T) (o : Nat) (u : Value) : Blk (w.setCell ⟨g, o, none⟩ u) g (cs.setIfInBounds o u) T := by
  unfold Blk at h ⊢
  simp [World.setCell, Array.getElem?_modify, h]
theorem Blk.inj {cs' : Array Value} {T' : Nat} (h : Blk w g cs T) (h' : Blk w g cs' T') : cs = cs' ∧ T = T' := by
  unfold Blk at h h'; rw [h] at h'; simp at h'; exact h'
end

/-! ### max and min -/
theorem max2_of (k k' : IntKind) (x y : Int) : Builtin.max2 (.int k x) (.int k' y) = pure (.int k (max x y)) := by
  simp only [Builtin.max2]
  rw [show (if y > x then y else x) = max x y by split <;> omega]
theorem min2_of (k k' : IntKind) (x y : Int) : Builtin.min2 (.int k x) (.int k' y) = pure (.int k (min x y)) := by
  simp only [Builtin.min2]
  rw [show (if y < x then y else x) = min x y by split <;> omega]
theorem max_of (ats : Array TypeId) (ty : TypeId) (a b : Value) : Builtin.max_ ats ty #[a, b] = (Builtin.max2 a b >>= fun s => pure s) := by simp only [Builtin.max_, List.foldlM_cons, List.foldlM_nil]
theorem min_of (ats : Array TypeId) (ty : TypeId) (a b : Value) : Builtin.min_ ats ty #[a, b] = (Builtin.min2 a b >>= fun s => pure s) := by simp only [Builtin.min_, List.foldlM_cons, List.foldlM_nil]

/-! ### A row of the call's own: nothing at all, or a block's head -/
def Own (w : World) (e size : Nat) (v : Value) (r : Option Nat) (n : Nat) (l : List Value) : Prop :=
  l.length = n * size ∧
  ((r = none ∧ n = 0 ∧ ∃ a, v = .slice a 0 0) ∨
   ∃ g cap cur, r = some g ∧ v = .slice (some ⟨g, 0, none⟩) n cap ∧ Blk w g cur e ∧ n ≤ cap ∧ cap ≤ maxLen ∧ cur.size = cap * size ∧ cur.toList.take (n * size) = l)

section
variable {w w' : World} {e size n : Nat} {v : Value} {r : Option Nat} {l : List Value} {S : Nat → Prop}
theorem Own.len (h : Own w e size v r n l) : l.length = n * size := h.1
theorem Own.form (h : Own w e size v r n l) : ∃ a c, v = .slice a n c ∧ n ≤ c ∧ c ≤ maxLen := by
  rcases h.2 with ⟨_, rfl, a, rfl⟩ | ⟨g, cap, cur, _, rfl, _, h1, h2, _⟩
  · exact ⟨a, 0, rfl, Nat.le_refl _, by simp [maxLen]⟩
  · exact ⟨_, cap, rfl, h1, h2⟩
theorem Own.lt (h : Own w e size v r n l) : ∀ k, r = some k → k < w.heap.size := by
  intro k hk
  rcases h.2 with ⟨rfl, _⟩ | ⟨g, cap, cur, rfl, _, hb, _⟩
  · cases hk
  · cases hk; exact hb.lt
theorem Own.kp (h : Own w e size v r n l) (k : Kp S w w') (hn : ∀ k, r = some k → ¬ S k) : Own w' e size v r n l := by
  refine ⟨h.1, ?_⟩
  rcases h.2 with h2 | ⟨g, cap, cur, hr, hv, hb, rest⟩
  · exact .inl h2
  · exact .inr ⟨g, cap, cur, hr, hv, hb.kp k (hn g hr), rest⟩
theorem Own.keep (h : Own w e size v r n l) (k : Kp Non w w') : Own w' e size v r n l := h.kp k (fun _ _ x => x)
/-- A block of other elements is not the row's. -/
theorem Own.ne_blk (h : Own w e size v r n l) {g T : Nat} {cs : Array Value} (hb : Blk w g cs T) (hT : T ≠ e) : r ≠ some g := by
  rintro rfl
  rcases h.2 with ⟨hr, _⟩ | ⟨g', cap, cur, hr, _, hb', _⟩
  · cases hr
  · cases hr; exact hT (hb.inj hb').2
theorem Own.nil (w : World) (e size : Nat) (a : Option Addr) : Own w e size (.slice a 0 0) none 0 [] := ⟨by simp, .inl ⟨rfl, rfl, a, rfl⟩⟩
theorem Own.lit (w : World) (e size : Nat) (cs : Array Value) (n : Nat) (hs : cs.size = n * size) (hm : n ≤ maxLen) : Own (w.alloc (.cells cs e)) e size (.slice (some ⟨w.heap.size, 0, none⟩) n n) (some w.heap.size) n cs.toList :=
  ⟨by simpa using hs, .inr ⟨w.heap.size, n, cs, rfl, rfl, Blk.new w cs e, Nat.le_refl _, hm, hs, by rw [← hs]; exact List.take_of_length_le (by simp)⟩⟩
end

/-- A store into it. -/
theorem Own.store {w : World} {e n c : Nat} {A : Option Addr} {r : Option Nat} {l : List Value} (h : Own w e 1 (.slice A n c) r n l) {j : Nat} (hj : j < n) :
    ∃ g x, A = some ⟨g, 0, none⟩ ∧ r = some g ∧ w.cell? ⟨g, j, none⟩ = some x ∧ w.frozen? ⟨g, j, none⟩ = false ∧ ∀ u, Own (w.setCell ⟨g, j, none⟩ u) e 1 (.slice A n c) r n (l.set j u) := by
  obtain ⟨h0, h⟩ := h
  rcases h with ⟨rfl, rfl, a, hv⟩ | ⟨g, cap, cur, rfl, hv, hb, h1, h2, h3, h4⟩
  · omega
  · injection hv with hA _ hc
    subst hA hc
    have hjc : j < cur.size := by omega
    refine ⟨g, cur[j], rfl, rfl, by rw [hb.cell, Array.getElem?_eq_getElem hjc], hb.frozen j, fun u => ⟨by simpa using h0, .inr ⟨g, c, _, rfl, rfl, hb.set j u, h1, h2, by simpa using h3, ?_⟩⟩⟩
    rw [Array.toList_setIfInBounds, ← h4]
    simp only [Nat.mul_one]
    rw [List.take_set]

/-! ### A row of elements of one cell that is read -/
def Rd (w : World) (v : Value) (r : Option Nat) (l : List Value) : Prop :=
  ∃ A c, v = .slice A l.length c ∧ l.length ≤ c ∧ c ≤ maxLen ∧ (l = [] ∨ ∃ b off, A = some ⟨b, off, none⟩ ∧ r = some b ∧ ∀ j u, l[j]? = some u → w.cell? ⟨b, off + j, none⟩ = some u)

section
variable {w w' : World} {e n : Nat} {v : Value} {r : Option Nat} {l : List Value} {S : Nat → Prop}
theorem addr_add (b off j : Nat) : (⟨b, off, none⟩ : Addr).add j = ⟨b, off + j, none⟩ := by unfold Addr.add; split <;> simp_all
theorem Own.rd (h : Own w e 1 v r n l) : Rd w v r l := by
  have hl : l.length = n := by have := h.1; omega
  rcases h.2 with ⟨rfl, rfl, a, rfl⟩ | ⟨g, cap, cur, rfl, rfl, hb, h1, h2, h3, h4⟩
  · obtain rfl : l = [] := List.eq_nil_of_length_eq_zero hl
    exact ⟨a, 0, rfl, by simp, by simp [maxLen], .inl rfl⟩
  · subst hl
    refine ⟨_, cap, rfl, h1, h2, .inr ⟨g, 0, rfl, rfl, fun j u hu => ?_⟩⟩
    rw [hb.cell]
    rw [← h4, List.getElem?_take] at hu
    split at hu
    · simpa using hu
    · cases hu
theorem Rd.kp (h : Rd w v r l) (k : Kp S w w') (hn : ∀ k, r = some k → ¬ S k) : Rd w' v r l := by
  obtain ⟨A, c, hv, h1, h2, h3⟩ := h
  refine ⟨A, c, hv, h1, h2, ?_⟩
  rcases h3 with h3 | ⟨b, off, hA, hr, hc⟩
  · exact .inl h3
  · exact .inr ⟨b, off, hA, hr, fun j u hu => k.cell (hc j u hu) (hn b hr)⟩
theorem Rd.keep (h : Rd w v r l) (k : Kp Non w w') : Rd w' v r l := h.kp k (fun _ _ x => x)
/-- The row, where there is an element, is there. -/
theorem Rd.bound (h : Rd w v r l) : ∃ r', Rd w v r' l ∧ ∀ k, r' = some k → k < w.heap.size := by
  obtain ⟨A, c, hv, h1, h2, h3⟩ := h
  rcases h3 with h3 | ⟨b, off, hA, hr, hc⟩
  · exact ⟨none, ⟨A, c, hv, h1, h2, .inl h3⟩, fun k hk => by cases hk⟩
  · cases hl : l with
    | nil => subst hl; exact ⟨none, ⟨A, c, hv, h1, h2, .inl rfl⟩, fun k hk => by cases hk⟩
    | cons u us =>
      rw [← hl]
      refine ⟨some b, ⟨A, c, hv, h1, h2, .inr ⟨b, off, hA, rfl, hc⟩⟩, fun k hk => ?_⟩
      cases hk
      exact World.block_lt_of_cell? w _ (hc 0 u (by rw [hl]; rfl))
/-- What is read of old memory was there before. -/
theorem Rd.back (h : Rd w' v r l) (k : Kp Non w w') (hb : ∀ k, r = some k → k < w.heap.size) : Rd w v r l := by
  obtain ⟨A, c, hv, h1, h2, h3⟩ := h
  refine ⟨A, c, hv, h1, h2, ?_⟩
  rcases h3 with h3 | ⟨b, off, hA, hr, hc⟩
  · exact .inl h3
  · refine .inr ⟨b, off, hA, hr, fun j u hu => ?_⟩
    rw [← hc j u hu]
    exact (World.cell?_of_block (k.block b (hb b hr) (fun x => x))).symm
theorem Rd.len (h : Rd w v r l) : l.length ≤ maxLen := by
  obtain ⟨A, c, _, h1, h2, _⟩ := h
  omega
theorem Rd.src {P : Program} {tx e' : TypeId} (hk : P.underlying tx = some (.slice e')) (h : Rd w v r l) (h1 : ∀ u ∈ l, u.oneCell' = true) : Src P 1 tx v l.length l w := by
  obtain ⟨A, c, rfl, _, _, h3⟩ := h
  rcases A with _ | a
  · rcases h3 with rfl | ⟨b, off, hA, _⟩
    · exact Src.ofNil w hk c
    · cases hA
  · refine Src.ofSlice w hk a l.length c l (by omega) ?_ h1
    intro j u hu
    rcases h3 with rfl | ⟨b, off, hA, _, hc⟩
    · simp at hu
    · cases hA; rw [addr_add]; exact hc j u hu
/-- A part of it. -/
theorem Rd.cut (h : Rd w v r l) (lo hi : Nat) (h1 : lo ≤ hi) (h2 : hi ≤ l.length) : ∃ A c, v = .slice A l.length c ∧ l.length ≤ c ∧ c ≤ maxLen ∧
    ∀ m, hi ≤ m → m ≤ c → Rd w (.slice (if m = lo then A else A.map (·.add lo)) (hi - lo) (m - lo)) r ((l.take hi).drop lo) := by
  obtain ⟨A, c, rfl, h3, h4, h5⟩ := h
  refine ⟨A, c, rfl, h3, h4, fun m hm hc => ?_⟩
  have hl : ((l.take hi).drop lo).length = hi - lo := by simp; omega
  refine ⟨if m = lo then A else A.map (·.add lo), m - lo, by rw [hl], by omega, by omega, ?_⟩
  by_cases he : hi = lo
  · exact .inl (List.eq_nil_of_length_eq_zero (by omega))
  · have hne : ¬ m = lo := by omega
    rcases h5 with rfl | ⟨b, off, rfl, hr, hcell⟩
    · exact .inl (by simp)
    · refine .inr ⟨b, off + lo, by simp [hne, addr_add], hr, fun j u hu => ?_⟩
      rw [List.getElem?_drop, List.getElem?_take] at hu
      split at hu
      · have := hcell _ _ hu
        rwa [Nat.add_assoc]
      · cases hu
theorem Rd.nil (w : World) (a : Option Addr) (c : Nat) (hc : c ≤ maxLen) (r : Option Nat) : Rd w (.slice a 0 c) r [] := ⟨a, c, rfl, by simp, hc, .inl rfl⟩
end

/-! ### A part of a row that is read: what the slice expression comes to -/
section
variable {P : Program} {w : World} {t e : TypeId} {v : Value} {r : Option Nat} {l : List Value} {i : TypeInfo}
theorem Rd.slice_lhm (h : Rd w v r l) (ht : P.underlying t = some (.slice e)) (hi : (P.info? e).map (·.size) = some 1) (a b m : Int) (lo hi' mx : Nat) (ea : a = lo) (eb : b = hi') (em : m = mx) (h1 : lo ≤ hi') (h2 : hi' ≤ mx) (h3 : mx ≤ l.length) :
    ∃ V, (∀ w', (Instr.slice t v (some (.int .i64 a)) (some (.int .i64 b)) (some (.int .i64 m))).run P w' = .ok V w') ∧ Rd w V r ((l.take hi').drop lo) := by
  obtain ⟨A, c, rfl, h4, h5, h6⟩ := h.cut lo hi' h1 (by omega)
  refine ⟨_, fun w' => ?_, h6 mx h2 (by omega)⟩
  obtain ⟨i, hi1, hi2⟩ := Option.map_eq_some_iff.1 hi
  subst ea eb em
  simp [Instr.slice, run_underlying ht, Instr.sliceBounds, run_sliceBound, sizeOf, typeInfo, hi1, hi2, h1, h2, show mx ≤ c by omega]
theorem Rd.slice_lh (h : Rd w v r l) (ht : P.underlying t = some (.slice e)) (hi : (P.info? e).map (·.size) = some 1) (a b : Int) (lo hi' : Nat) (ea : a = lo) (eb : b = hi') (h1 : lo ≤ hi') (h2 : hi' ≤ l.length) :
    ∃ V, (∀ w', (Instr.slice t v (some (.int .i64 a)) (some (.int .i64 b)) none).run P w' = .ok V w') ∧ Rd w V r ((l.take hi').drop lo) := by
  obtain ⟨A, c, rfl, h4, h5, h6⟩ := h.cut lo hi' h1 (by omega)
  refine ⟨_, fun w' => ?_, h6 c (by omega) (by omega)⟩
  obtain ⟨i, hi1, hi2⟩ := Option.map_eq_some_iff.1 hi
  subst ea eb
  simp [Instr.slice, run_underlying ht, Instr.sliceBounds, run_sliceBound, sizeOf, typeInfo, hi1, hi2, h1, show hi' ≤ c by omega]
theorem Rd.slice_h (h : Rd w v r l) (ht : P.underlying t = some (.slice e)) (hi : (P.info? e).map (·.size) = some 1) (b : Int) (hi' : Nat) (eb : b = hi') (h2 : hi' ≤ l.length) :
    ∃ V, (∀ w', (Instr.slice t v none (some (.int .i64 b)) none).run P w' = .ok V w') ∧ Rd w V r (l.take hi') := by
  obtain ⟨A, c, rfl, h4, h5, h6⟩ := h.cut 0 hi' (by omega) (by omega)
  rw [List.drop_zero] at h6
  refine ⟨_, fun w' => ?_, h6 c (by omega) (by omega)⟩
  obtain ⟨i, hi1, hi2⟩ := Option.map_eq_some_iff.1 hi
  subst eb
  simp [Instr.slice, run_underlying ht, Instr.sliceBounds, run_sliceBound, sizeOf, typeInfo, hi1, hi2, show hi' ≤ c by omega]
theorem Rd.slice_l (h : Rd w v r l) (ht : P.underlying t = some (.slice e)) (hi : (P.info? e).map (·.size) = some 1) (a : Int) (lo : Nat) (ea : a = lo) (h2 : lo ≤ l.length) :
    ∃ V, (∀ w', (Instr.slice t v (some (.int .i64 a)) none none).run P w' = .ok V w') ∧ Rd w V r (l.drop lo) := by
  obtain ⟨A, c, rfl, h4, h5, h6⟩ := h.cut lo l.length (by omega) (by omega)
  rw [List.take_length] at h6
  refine ⟨_, fun w' => ?_, h6 c (by omega) (by omega)⟩
  obtain ⟨i, hi1, hi2⟩ := Option.map_eq_some_iff.1 hi
  subst ea
  simp [Instr.slice, run_underlying ht, Instr.sliceBounds, run_sliceBound, sizeOf, typeInfo, hi1, hi2, h2]
end

/-! ### append of whatever source -/
section
variable {P : Program} {w : World}
theorem run_append_any (t tx ty e : TypeId) (z : Value) (size bytes : Nat) (ht : P.underlying t = some (.slice e)) (hinfo : (P.info? e).map (fun i => (i.zero, i.size, i.bytes)) = some (some z, size, bytes)) (hz : z.cells.size = size)
    (v : Value) (r : Option Nat) (n : Nat) (l : List Value) (ho : Own w e size v r n l) (x : Value) (m : Nat) (news : List Value) (hx : Src P size tx x m news w) (hl : (n + m) * bytes ≤ 140737488355328) (h63 : n + m ≤ 140737488355328) :
    ∃ v1 r1 w1, (Builtin.append_ #[t, tx] ty #[v, x]).run P w = .ok v1 w1 ∧ Own w1 e size v1 r1 (n + m) (l ++ news) ∧ Kp (Row r) w w1 ∧ New w r r1 ∧ (∀ k, r = some k → r1 = none → False) := by
  obtain ⟨i, hi, hzz⟩ := Option.map_eq_some_iff.1 hinfo
  simp only [Prod.mk.injEq] at hzz
  obtain ⟨hz0, rfl, rfl⟩ := hzz
  have hlen : (l ++ news).length = (n + m) * i.size := by rw [List.length_append, ho.1, hx.newsLen, Nat.add_mul]
  have hmx : n + m ≤ maxLen := by simp only [maxLen]; omega
  have grow : ∀ (base : Option Addr) (sCap : Nat), v = .slice base n sCap → sCap < n + m → (Builtin.firstCells i.size n (.slice base n sCap)).run P w.drew = .ok l.toArray w.drew →
      ∃ v1 r1 w1, (Builtin.append_ #[t, tx] ty #[v, x]).run P w = .ok v1 w1 ∧ Own w1 e i.size v1 r1 (n + m) (l ++ news) ∧ Kp (Row r) w w1 ∧ New w r r1 ∧ (∀ k, r = some k → r1 = none → False) := by
    rintro base sCap rfl hg hold
    have hr := run_append_grow_src w t tx ty e i z ht hi hz0 base n sCap l hold x m news hx hg (by omega) (growslice_fits (by omega) (by simpa using hl))
    refine ⟨_, some w.heap.size, _, hr, ⟨hlen, .inr ⟨w.heap.size, _, _, rfl, rfl, Blk.new w.drew _ e, grownCap_ge w (n + m) sCap e, grownCap_le_maxLen w (n + m) sCap e hmx, ?_, ?_⟩⟩,
      ((Kp.refl _ w).drew).alloc _, fun k hk => ?_, fun k _ hc => by cases hc⟩
    · have := grownCap_ge w (n + m) sCap e
      simp only [Array.size_append, List.size_toArray, size_zeroCells, hz, hlen, ← Nat.add_mul]
      congr 1; omega
    · rw [Array.toList_append, ← hlen]
      exact List.take_left
    · cases hk; exact .inr (Nat.le_refl _)
  rcases ho.2 with ⟨rfl, rfl, a, rfl⟩ | ⟨g, cap, cur, rfl, rfl, hb, h1, h2, h3, h4⟩
  · have hl0 : l = [] := List.eq_nil_of_length_eq_zero (by have := ho.1; omega)
    subst hl0
    by_cases hm : m = 0
    · subst hm
      have hn0 : news = [] := List.eq_nil_of_length_eq_zero (by have := hx.newsLen; omega)
      subst hn0
      refine ⟨.slice a 0 0, none, w, ?_, Own.nil w e i.size a, Kp.refl _ w, New.none _ _, fun k hk => by cases hk⟩
      rcases hx.kind with ⟨e', hk⟩ | hk <;> cases a <;> simp [Builtin.append_, run_underlying ht, run_underlying hk, sizeOf, typeInfo, hi, hx.len, hx.cells, storeCells]
    · exact grow a 0 rfl (by omega) (by cases a <;> simp [Builtin.firstCells, loadCells, loadCellsFrom])
  · by_cases hroom : n + m ≤ cap
    · have hmul : (n + m) * i.size ≤ cap * i.size := Nat.mul_le_mul_right _ hroom
      have hfit : n * i.size + news.length ≤ cur.size := by have := hx.newsLen; rw [h3]; rw [Nat.add_mul] at hmul; omega
      have hst := run_storeCells_at P g (n * i.size) e news 0 cur w hb (by simpa using hfit) hx.one
      simp only [Nat.add_zero] at hst
      have hr : (Builtin.append_ #[t, tx] ty #[.slice (some ⟨g, 0, none⟩) n cap, x]).run P w =
          .ok (.slice (some ⟨g, 0, none⟩) (n + m) cap) (w.setRow g (cur.toList.take (n * i.size) ++ news ++ cur.toList.drop (n * i.size + news.length)).toArray) := by
        rcases hx.kind with ⟨e', hk⟩ | hk <;> simp [Builtin.append_, run_underlying ht, run_underlying hk, sizeOf, typeInfo, hi, hx.len, hroom, hx.cells, Addr.add_lit, hst]
      refine ⟨_, some g, _, hr, ⟨hlen, .inr ⟨g, cap, _, rfl, rfl, setRow_heap w g cur _ e _ hb, hroom, h2, ?_, ?_⟩⟩,
        ⟨rfl, rfl, rfl, by simp, fun k _ hk => setRow_other w g k _ (fun e => hk (by rw [e]; rfl))⟩, New.refl _ _, fun k _ hc => by cases hc⟩
      · simp only [List.size_toArray, List.length_append, List.length_take, List.length_drop, Array.length_toList]
        omega
      · rw [h4, ← hlen]
        exact List.take_left
    · have holds : (Builtin.firstCells i.size n (.slice (some ⟨g, 0, none⟩) n cap)).run P w.drew = .ok l.toArray w.drew := by
        refine run_firstCells_some w.drew i.size n ⟨g, 0, none⟩ n cap l ho.1 (fun j u hu => ?_)
        rw [addr_add]
        show w.cell? _ = _
        rw [hb.cell]
        rw [← h4, List.getElem?_take] at hu
        split at hu
        · simpa using hu
        · cases hu
      exact grow _ cap rfl (by omega) holds

/-- The same at the operation, for the walk. -/
theorem wpList_append_any {ops : Array Oper} {rest : List Oper} {o : Oper} {a : Act} {Q : Exit → Act → World → Prop} (hgd : o.guard = none) (s x : Operand) (t tx : TypeId)
    (ho : o.op = .call { callee := .builtin .append, args := #[s, x], argTypes := #[t, tx] })
    (e : TypeId) (z : Value) (size bytes : Nat) (ht : P.underlying t = some (.slice e)) (hinfo : (P.info? e).map (fun i => (i.zero, i.size, i.bytes)) = some (some z, size, bytes)) (hz : z.cells.size = size)
    (v : Value) (r : Option Nat) (n : Nat) (l : List Value) (hs : a.eval s = v) (hown : Own w e size v r n l) (xv : Value) (m : Nat) (news : List Value) (hx : a.eval x = xv) (hsrc : Src P size tx xv m news w)
    (hl : (n + m) * bytes ≤ 140737488355328) (h63 : n + m ≤ 140737488355328)
    (h : ∀ v1 r1 w1, Own w1 e size v1 r1 (n + m) (l ++ news) → Kp (Row r) w w1 → New w r r1 → wpList P ops Q rest (a.put o.dst v1) w1) : wpList P ops Q (o :: rest) a w := by
  refine wpList_plain hgd fun K hK => ?_
  obtain ⟨v1, r1, w1, hr, h2, h3, h4, _⟩ := run_append_any t tx o.type e z size bytes ht hinfo hz v r n l hown xv m news hsrc hl h63
  unfold Oper.wp execOp
  simp only [ho, resolve, invoke, builtin, Sem.run_bind, Sem.run_pure, Result.andThen_ok, List.map_toArray, List.map_cons, List.map_nil, hs, hx, hr]
  exact hK _ _ (h v1 r1 w1 h2 h3 h4)
theorem wp_append_any {o : Oper} {a : Act} {K : Act → World → Prop} {Q : Exit → Act → World → Prop} (s x : Operand) (t tx : TypeId)
    (ho : o.op = .call { callee := .builtin .append, args := #[s, x], argTypes := #[t, tx] })
    (e : TypeId) (z : Value) (size bytes : Nat) (ht : P.underlying t = some (.slice e)) (hinfo : (P.info? e).map (fun i => (i.zero, i.size, i.bytes)) = some (some z, size, bytes)) (hz : z.cells.size = size)
    (v : Value) (r : Option Nat) (n : Nat) (l : List Value) (hs : a.eval s = v) (hown : Own w e size v r n l) (xv : Value) (m : Nat) (news : List Value) (hx : a.eval x = xv) (hsrc : Src P size tx xv m news w)
    (hl : (n + m) * bytes ≤ 140737488355328) (h63 : n + m ≤ 140737488355328)
    (h : ∀ v1 r1 w1, Own w1 e size v1 r1 (n + m) (l ++ news) → Kp (Row r) w w1 → New w r r1 → K (a.put o.dst v1) w1) : o.wp P a w K Q := by
  obtain ⟨v1, r1, w1, hr, h2, h3, h4, _⟩ := run_append_any t tx o.type e z size bytes ht hinfo hz v r n l hown xv m news hsrc hl h63
  unfold Oper.wp execOp
  simp only [ho, resolve, invoke, builtin, Sem.run_bind, Sem.run_pure, Result.andThen_ok, List.map_toArray, List.map_cons, List.map_nil, hs, hx, hr]
  exact h v1 r1 w1 h2 h3 h4
end

/-! ### Bytes -/
/-- Bytes as cells; as a string. -/
def byv (l : List UInt8) : List Value := l.map fun b => Value.int .u8 b.toNat
def strOf (l : List UInt8) : ByteArray := ⟨l.toArray⟩
theorem byv_length (l : List UInt8) : (byv l).length = l.length := by simp [byv]
theorem byv_append (l m : List UInt8) : byv (l ++ m) = byv l ++ byv m := by simp [byv]
theorem byv_nil : byv [] = [] := rfl
theorem byv_take (l : List UInt8) (n : Nat) : (byv l).take n = byv (l.take n) := by simp [byv, List.map_take]
theorem byv_drop (l : List UInt8) (n : Nat) : (byv l).drop n = byv (l.drop n) := by simp [byv, List.map_drop]
theorem byv_one (l : List UInt8) : ∀ u ∈ byv l, u.oneCell' = true := by
  intro u hu
  obtain ⟨b, _, rfl⟩ := List.mem_map.1 hu
  rfl
theorem byv_get (l : List UInt8) (j : Nat) : (byv l)[j]? = l[j]?.map fun b => Value.int .u8 b.toNat := by simp [byv]
theorem strOf_toList (l : List UInt8) : (strOf l).data.toList = l := rfl
theorem strOf_size (l : List UInt8) : (strOf l).size = l.length := by simp [strOf, ByteArray.size]
theorem strOf_append (l m : List UInt8) : strOf l ++ strOf m = strOf (l ++ m) := by
  apply ByteArray.ext
  simp [strOf]
theorem strOf_inj {l m : List UInt8} (h : strOf l = strOf m) : l = m := by simpa [strOf] using h
theorem byteCells_byv (s : ByteArray) : byteCells s = byv s.data.toList := rfl
section
variable {P : Program} {w : World}
/-- string(bytes). -/
theorem Rd.str {v : Value} {r : Option Nat} {l : List UInt8} (h : Rd w v r (byv l)) (src e dst : TypeId) (hs : P.underlying src = some (.slice e)) (he : P.underlying e = some (.int .u8)) (hd : P.underlying dst = some .string) :
    (convert src dst v).run P w = .ok (.string (strOf l)) w := by
  obtain ⟨A, c, rfl, h1, h2, h3⟩ := h
  have hnum : strOfNums (l.map fun b => (b.toNat : Int)) = strOf l := by
    unfold strOfNums strOf
    congr 2
    rw [List.map_map]
    conv => rhs; rw [← List.map_id l]
    refine List.map_congr_left fun b _ => ?_
    simp [Function.comp]
  rcases h3 with h3 | ⟨b, off, rfl, hr, hc⟩
  · obtain rfl : l = [] := by simpa [byv] using h3
    rcases A with _ | a
    · rw [run_convert_bytes_nil w src e hs he _ _ dst hd]; rfl
    · have := run_convert_bytes_string (P := P) w src dst e (some a) 0 c hs he hd
      simp only [byv, List.map_nil, List.length_nil]
      rw [this]
      simp [Conv.bytesToString, loadCells, loadCellsFrom]
      rfl
  · rw [← hnum]
    refine run_convert_bytes_arg w src e hs he b off _ c _ (by simp [byv]) (fun i hi => ?_) dst hd
    rw [byv_length] at hi
    have := hc i (.int .u8 ((l[i]'hi).toNat)) (by simp [byv, List.getElem?_eq_getElem hi])
    rw [this]
    simp [List.getD, List.getElem?_eq_getElem hi]
/-- The same in every world that keeps what is there. -/
theorem Rd.strs {v : Value} {r : Option Nat} {l : List UInt8} (h : Rd w v r (byv l)) (src e dst : TypeId) (hs : P.underlying src = some (.slice e)) (he : P.underlying e = some (.int .u8)) (hd : P.underlying dst = some .string) :
    ∀ w', Kp Non w w' → (convert src dst v).run P w' = .ok (.string (strOf l)) w' := fun w' k => (h.keep k).str src e dst hs he hd
theorem Rd.strsS {S0 : Nat → Prop} {v : Value} {r : Option Nat} {l : List UInt8} (h : Rd w v r (byv l)) (hr : ∀ k, r = some k → ¬ S0 k) (src e dst : TypeId) (hs : P.underlying src = some (.slice e)) (he : P.underlying e = some (.int .u8)) (hd : P.underlying dst = some .string) :
    ∀ w', Kp S0 w w' → (convert src dst v).run P w' = .ok (.string (strOf l)) w' := fun w' k => (h.kp k hr).str src e dst hs he hd
end

/-- A constant's bytes, in a new block with the run-time's mark. -/
theorem Rd.const (w : World) (e : Nat) (fr : Nat × Nat) (bs : List UInt8) (C : Array Value) (n : Nat) (hC : C.toList = byv bs) (hn : n = bs.length) (hm : n ≤ maxLen) :
    Rd (w.alloc (.cells C e fr)) (.slice (some ⟨w.heap.size, 0, none⟩) n n) (some w.heap.size) (byv bs) := by
  subst hn
  refine ⟨_, bs.length, by rw [byv_length], by rw [byv_length]; exact Nat.le_refl _, hm, .inr ⟨w.heap.size, 0, rfl, rfl, fun j u hu => ?_⟩⟩
  rw [World.cell?_alloc_mark, Nat.zero_add, ← hu, ← hC]
  simp

end Go.Proofs.Ytpbkipolgdldfaa

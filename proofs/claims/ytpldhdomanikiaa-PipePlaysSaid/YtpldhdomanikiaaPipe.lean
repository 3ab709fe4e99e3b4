/- The contracts of the pipe's functions: what each answers and what it leaves of memory. -/
import Derived.Test.YtpldhdomanikiaaRows
import Derived.Test.YtpldhdomanikiaaSeq
namespace Go.Proofs.Ytpldhdomanikiaa
open Go.RowKit
set_option linter.unusedSimpArgs false
set_option linter.unusedVariables false
attribute [local go_sem] max2_of min2_of max_of min_of

theorem wide : Try.prog.follows .mixedOrders = true := by kernel_rfl

/-- One who waits. -/
structure Wn where
  t : ByteArray
  c : ByteArray
  b : Bool
  d : Int
def Wn.no : Wn := ⟨⟨#[]⟩, ⟨#[]⟩, false, 0⟩
/-- Its value. -/
def Wn.val (x : Wn) : Value := .agg #[.string x.t, .string x.c, .bool x.b, .int .i64 x.d]

theorem at_calls (g f i : Nat) (w : World) (hc : w.cell? ⟨g, 32, none⟩ = some (.int .i64 f)) (hf : f < 8) (hi : i ≤ 8) :
    Calls Try.prog 20 #[.pointer (some ⟨g, 0, none⟩), .int .i64 i] w fun e w' => e = .returned (.pointer (some ⟨g, (f + i) % 8 * 4, none⟩)) ∧ Kp Non w w' := by
  have e0 : ∀ w', Kp Non w.drew w' → w'.cell? ⟨g, 32, none⟩ = some (.int .i64 f) := fun w' hk => hk.cell hc (fun x => x)
  have hwr : IntKind.i64.wrap ((f : Int) + i) = ((f + i : Nat) : Int) := by rw [IntWalk.i64_in _ (by omega)]; omega
  have hm : ((f : Int) + i).tmod 8 = (((f + i) % 8 : Nat) : Int) := by rw [Int.tmod_eq_emod_of_nonneg (by omega)]; omega
  have hlt : (((f + i) % 8 : Nat) : Int) < 8 := by omega
  generalize (f + i) % 8 = m at hm hlt ⊢
  go_enter Try.func20, Try.ntmps20
  go_wp2
  refine wp_region_seq [(0, true), (1, true), (2, true), (3, true), (4, true), (5, true), (6, true), (7, true), (8, true), (9, true), (10, true), (11, true)] 12 Non wide (by kernel_rfl) (fun _ _ _ _ _ h => h) ?_; (try simp only [List.append_eq, List.cons_append, List.nil_append])
  repeat (refine seq_still (v := ?_) rfl rfl (fun wq hq => ?_) ?_; rotate_left; (focus ((simp only [List.getElem_toArray, List.getElem_cons_zero, List.getElem_cons_succ]; go_simp; try with_reducible rfl); done)); simp only [List.getElem_toArray, List.getElem_cons_zero, List.getElem_cons_succ, Act.put, List.setIfInBounds_toArray, List.set_cons_zero, List.set_cons_succ])
  refine seq_nil ?_
  go_wp2
  go_ret
  exact ⟨rfl, (Kp.refl _ _).drew⟩

/-- A pipe at block g: who waits, in order. -/
def Pip (w : World) (g : Nat) (l : List Wn) : Prop :=
  ∃ (cs : Array Value) (R : Nat → Wn) (f : Nat), Blk w g cs 52 ∧ cs.size = 34 ∧ f < 8 ∧ l.length ≤ 8 ∧ cs[32]? = some (.int .i64 f) ∧ cs[33]? = some (.int .i64 l.length) ∧
    (∀ i, i < 8 → cs[i * 4]? = some (.string (R i).t) ∧ cs[i * 4 + 1]? = some (.string (R i).c) ∧ cs[i * 4 + 2]? = some (.bool (R i).b) ∧ cs[i * 4 + 3]? = some (.int .i64 (R i).d)) ∧
    ∀ i x, l[i]? = some x → R ((f + i) % 8) = x

section
variable {w w' : World} {g : Nat} {l : List Wn} {S : Nat → Prop}
theorem Pip.kp (h : Pip w g l) (k : Kp S w w') (hg : ¬ S g) : Pip w' g l := by
  obtain ⟨cs, R, f, h1, h2⟩ := h
  exact ⟨cs, R, f, h1.kp k hg, h2⟩
theorem Pip.keep (h : Pip w g l) (k : Kp Non w w') : Pip w' g l := h.kp k (fun x => x)
theorem Pip.lt (h : Pip w g l) : g < w.heap.size := by
  obtain ⟨cs, R, f, h1, h2⟩ := h
  exact h1.lt
theorem Pip.len (h : Pip w g l) : l.length ≤ 8 := by
  obtain ⟨cs, R, f, h1, h2, h3, h4, _⟩ := h
  exact h4
end

theorem new_calls (w : World) : Calls Try.prog 8 #[] w fun e w' => ∃ g, e = .returned (.pointer (some ⟨g, 0, none⟩)) ∧ w.heap.size ≤ g ∧ Pip w' g [] ∧ Kp Non w w' := by
  go_enter Try.func8, Try.ntmps8
  go_wp2
  go_ret
  refine ⟨_, rfl, Nat.le_refl _, ⟨_, fun _ => Wn.no, 0, Blk.new _ _ _, rfl, by omega, by simp, rfl, rfl, fun i hi => ?_, by simp⟩, (Kp.refl _ _).alloc _⟩
  rcases i with _ | _ | _ | _ | _ | _ | _ | _ | i
  all_goals first | (exact ⟨rfl, rfl, rfl, rfl⟩) | omega

theorem len_calls (g : Nat) (l : List Wn) (w : World) (h : Pip w g l) :
    Calls Try.prog 11 #[.pointer (some ⟨g, 0, none⟩)] w fun e w' => e = .returned (.int .i64 l.length) ∧ Kp Non w w' := by
  obtain ⟨cs, R, f, h1, h2, h3, h4, h5, h6, h7, h8⟩ := h
  have c0 := (h1.cell 33).trans h6
  clear h7 h8
  go_enter Try.func11, Try.ntmps11
  go_wp2
  go_ret
  exact ⟨rfl, Kp.refl _ _⟩

/-- How many may wait. -/
def winF (p a : Int) (b : Bool) : Int := if p = 3 ∨ b = false then 1 else min (max a 1) 8
theorem window_calls (p a : Int) (b : Bool) (w : World) :
    Calls Try.prog 12 #[.int .i64 p, .int .i64 a, .bool b] w fun e w' => e = .returned (.int .i64 (winF p a b)) ∧ Kp Non w w' := by
  by_cases hp : p = 3
  · subst hp
    go_enter Try.func12, Try.ntmps12
    go_wp2
    go_ret
    exact ⟨by simp [winF], Kp.refl _ _⟩
  · have hp' : (p == 3) = false := by simpa using hp
    cases b
    all_goals
      go_enter Try.func12, Try.ntmps12
      go_wp2
      go_ret
      exact ⟨by simp [winF, hp], Kp.refl _ _⟩

/-- A want in memory, from cell o on. -/
def WnAt (w : World) (g o : Nat) (x : Wn) : Prop :=
  w.cell? ⟨g, o, none⟩ = some (.string x.t) ∧ w.cell? ⟨g, o + 1, none⟩ = some (.string x.c) ∧ w.cell? ⟨g, o + 2, none⟩ = some (.bool x.b) ∧ w.cell? ⟨g, o + 3, none⟩ = some (.int .i64 x.d)
theorem WnAt.keep {w w' : World} {g o : Nat} {x : Wn} (h : WnAt w g o x) (k : Kp Non w w') : WnAt w' g o x :=
  ⟨k.cell h.1 (fun x => x), k.cell h.2.1 (fun x => x), k.cell h.2.2.1 (fun x => x), k.cell h.2.2.2 (fun x => x)⟩
/-- A variable of it. -/
def WnBlk (w : World) (g : Nat) (x : Wn) : Prop := Blk w g #[.string x.t, .string x.c, .bool x.b, .int .i64 x.d] 28
theorem WnBlk.at {w : World} {g : Nat} {x : Wn} (h : WnBlk w g x) : WnAt w g 0 x := by
  refine ⟨?_, ?_, ?_, ?_⟩ <;> rw [Blk.cell h] <;> rfl
theorem WnBlk.set {w : World} {g : Nat} {x : Wn} (h : WnBlk w g x) (y : Wn) :
    WnBlk ((((w.setCell ⟨g, 0, none⟩ (.string y.t)).setCell ⟨g, 1, none⟩ (.string y.c)).setCell ⟨g, 2, none⟩ (.bool y.b)).setCell ⟨g, 3, none⟩ (.int .i64 y.d)) g y := by
  have := (((Blk.set h 0 (.string y.t)).set 1 (.string y.c)).set 2 (.bool y.b)).set 3 (.int .i64 y.d)
  simpa [WnBlk] using this

theorem Kp.wn {S : Nat → Prop} {a w : World} (h : Kp S a w) {g : Nat} (hg : S g ∨ a.heap.size ≤ g) (o : Nat) (x : Wn) :
    Kp S a ((((w.setCell ⟨g, o, none⟩ (.string x.t)).setCell ⟨g, o + 1, none⟩ (.string x.c)).setCell ⟨g, o + 2, none⟩ (.bool x.b)).setCell ⟨g, o + 3, none⟩ (.int .i64 x.d)) :=
  (((h.setCell (p := ⟨g, o, none⟩) hg _).setCell (p := ⟨g, o + 1, none⟩) hg _).setCell (p := ⟨g, o + 2, none⟩) hg _).setCell (p := ⟨g, o + 3, none⟩) hg _

theorem Pip.head {w : World} {g : Nat} {l : List Wn} {cs : Array Value} {R : Nat → Wn} {f : Nat} (h1 : Blk w g cs 52) (h3 : f < 8)
    (h7 : ∀ i, i < 8 → cs[i * 4]? = some (.string (R i).t) ∧ cs[i * 4 + 1]? = some (.string (R i).c) ∧ cs[i * 4 + 2]? = some (.bool (R i).b) ∧ cs[i * 4 + 3]? = some (.int .i64 (R i).d))
    (h8 : ∀ i x, l[i]? = some x → R ((f + i) % 8) = x) (i : Nat) (x : Wn) (hx : l[i]? = some x) : WnAt w g ((f + i) % 8 * 4) x := by
  obtain ⟨a, b, c, d⟩ := h7 ((f + i) % 8) (Nat.mod_lt _ (by omega))
  have hR := h8 i x hx
  rw [hR] at a b c d
  exact ⟨(h1.cell _).trans a, (h1.cell _).trans b, (h1.cell _).trans c, (h1.cell _).trans d⟩

theorem head_calls (g : Nat) (l : List Wn) (w : World) (h : Pip w g l) :
    Calls Try.prog 16 #[.pointer (some ⟨g, 0, none⟩)] w fun e w' => e = .returned (.tuple #[(l.headD Wn.no).val, .bool (decide (l ≠ []))]) ∧ Kp Non w w' := by
  obtain ⟨cs, R, f, h1, h2, h3, h4, h5, h6, h7, h8⟩ := h
  have hA := (Kp.refl Non w).alloc (.cells #[.string ⟨#[]⟩, .string ⟨#[]⟩, .bool false, .int .i64 0] 28)
  have c1 := ((h1.keep hA).cell 33).trans h6
  cases l with
  | nil =>
    simp at c1
    clear h7 h8
    go_enter Try.func16, Try.ntmps16
    go_wp2
    exact bodyPost_ret (v := .tuple #[Wn.no.val, .bool false]) (by simp [results, Try.results16, go_sem, Wn.no, Wn.val]) rfl ⟨rfl, hA⟩
  | cons x l =>
    simp at c1
    have hne : ((l.length : Int) + 1 == 0) = false := by simp; omega
    have c0 := ((h1.keep hA).cell 32).trans h5
    have hx := Pip.head h1 h3 h7 h8 0 x rfl
    have hB : WnBlk _ w.heap.size Wn.no := Blk.new w #[.string ⟨#[]⟩, .string ⟨#[]⟩, .bool false, .int .i64 0] 28
    clear h7 h8
    go_enter Try.func16, Try.ntmps16
    go_wp2_with fail
    refine (at_calls g f 0 _ c0 h3 (by omega)).mono ?_
    rintro e w1 ⟨rfl, k1⟩
    obtain ⟨x0, x1, x2, x3⟩ := (hx.keep hA).keep k1
    have hB1 : WnBlk w1 w.heap.size Wn.no := Blk.keep hB k1
    obtain ⟨b0, b1, b2, b3⟩ := hB1.at
    have f0 := Blk.frozen hB1
    generalize (f + 0) % 8 * 4 = o at x0 x1 x2 x3 ⊢
    go_wp2
    have hB2 := hB1.set x
    have K2 := (hA.seq k1).wn (.inr (Nat.le_refl _)) 0 x
    generalize (((w1.setCell ⟨w.heap.size, 0, none⟩ (.string x.t)).setCell ⟨w.heap.size, 1, none⟩ (.string x.c)).setCell ⟨w.heap.size, 2, none⟩ (.bool x.b)).setCell ⟨w.heap.size, 3, none⟩ (.int .i64 x.d) = w2 at hB2 K2 ⊢
    obtain ⟨y0, y1, y2, y3⟩ := hB2.at
    simp only [Nat.zero_add] at y1 y2 y3
    exact bodyPost_ret (v := .tuple #[x.val, .bool true]) (by simp [results, Try.results16, go_sem, y0, y1, y2, y3, Wn.val]) rfl ⟨by simp, K2⟩

/-! ### Push -/
/-- Who waits then. -/
def pushF (l : List Wn) (x : Wn) : List Wn := if l.length < 8 then l ++ [x] else l

theorem push_calls (g : Nat) (l : List Wn) (x : Wn) (w : World) (h : Pip w g l) :
    Calls Try.prog 9 #[.pointer (some ⟨g, 0, none⟩), x.val] w fun e w' => e = .returned (.bool (decide (l.length < 8))) ∧ Pip w' g (pushF l x) ∧ Kp (One g) w w' := by
  have h0 := h
  obtain ⟨cs, R, f, h1, h2, h3, h4, h5, h6, h7, h8⟩ := h
  unfold Wn.val
  have hA := (Kp.refl Non w).alloc (.cells #[.string x.t, .string x.c, .bool x.b, .int .i64 x.d] 28)
  have c1 := ((h1.keep hA).cell 33).trans h6
  by_cases hl : l.length < 8
  · have hne : ((l.length : Int) == 8) = false := by simp; omega
    rw [show pushF l x = l ++ [x] by simp [pushF, hl], decide_eq_true hl]
    have c0 := ((h1.keep hA).cell 32).trans h5
    have hB : WnBlk _ w.heap.size x := Blk.new w #[.string x.t, .string x.c, .bool x.b, .int .i64 x.d] 28
    obtain ⟨b0, b1, b2, b3⟩ := hB.at
    simp only [Nat.zero_add] at b1 b2 b3
    have H7 := hid h7
    have H8 := hid h8
    clear h7 h8 hB
    go_enter Try.func9, Try.ntmps9
    go_wp2
    have hg := h1.keep hA
    generalize w.alloc (.cells #[.string x.t, .string x.c, .bool x.b, .int .i64 x.d] 28) = wa at hA hg c0 c1 b0 b1 b2 b3 ⊢
    have hd := (Kp.refl Non wa).drew
    have e1 : ∀ w', Kp Non wa.drew w' → w'.cell? ⟨g, 33, none⟩ = some (.int .i64 l.length) := fun w' hk => (hd.seq hk).cell c1 (fun x => x)
    have q0 : ∀ w', Kp Non wa.drew w' → w'.cell? ⟨w.heap.size, 0, none⟩ = some (.string x.t) := fun w' hk => (hd.seq hk).cell b0 (fun x => x)
    have q1 : ∀ w', Kp Non wa.drew w' → w'.cell? ⟨w.heap.size, 1, none⟩ = some (.string x.c) := fun w' hk => (hd.seq hk).cell b1 (fun x => x)
    have q2 : ∀ w', Kp Non wa.drew w' → w'.cell? ⟨w.heap.size, 2, none⟩ = some (.bool x.b) := fun w' hk => (hd.seq hk).cell b2 (fun x => x)
    have q3 : ∀ w', Kp Non wa.drew w' → w'.cell? ⟨w.heap.size, 3, none⟩ = some (.int .i64 x.d) := fun w' hk => (hd.seq hk).cell b3 (fun x => x)
    refine wp_region_seq [(0, true), (1, true), (2, true), (3, true), (4, true), (6, true), (5, false), (7, true), (8, false)] 8 Non wide (by kernel_rfl) (fun _ _ _ _ _ h => h) ?_; (try simp only [List.append_eq, List.cons_append, List.nil_append])
    repeat (refine seq_still (v := ?_) rfl rfl (fun wq hq => ?_) ?_; rotate_left; (focus ((simp only [List.getElem_toArray, List.getElem_cons_zero, List.getElem_cons_succ]; go_simp; try with_reducible rfl); done)); simp only [List.getElem_toArray, List.getElem_cons_zero, List.getElem_cons_succ, Act.put, List.setIfInBounds_toArray, List.set_cons_zero, List.set_cons_succ])
    refine seq_step rfl rfl (fun K hK => ?_); simp only [List.getElem_toArray, List.getElem_cons_zero, List.getElem_cons_succ]; go_simp
    refine (at_calls g f l.length _ (hd.cell c0 (fun x => x)) h3 (by omega)).mono ?_
    rintro e w1 ⟨rfl, k1⟩
    refine hK.out _ _ (k1) ?_; clear hK; (try simp only [Act.put, List.setIfInBounds_toArray, List.set_cons_zero, List.set_cons_succ])
    have hm8 : (f + l.length) % 8 < 8 := Nat.mod_lt _ (by omega)
    have hg1 : Blk w1 g cs _ := hg.keep (hd.seq k1)
    have K1 := hA.seq (hd.seq k1)
    have x1 := fun w' (h : Kp Non w1 w') => k1.seq h
    generalize hm : (f + l.length) % 8 = m at hm8 ⊢
    obtain ⟨a0, a1, a2, a3⟩ := H7.out m hm8
    have a0 := (hg1.cell _).trans a0
    have a1 := (hg1.cell _).trans a1
    have a2 := (hg1.cell _).trans a2
    have a3 := (hg1.cell _).trans a3
    have fz := hg1.frozen
    repeat (refine seq_still (v := ?_) rfl rfl (fun wq hq => ?_) ?_; rotate_left; (focus ((simp only [List.getElem_toArray, List.getElem_cons_zero, List.getElem_cons_succ]; go_simp; try with_reducible rfl); done)); simp only [List.getElem_toArray, List.getElem_cons_zero, List.getElem_cons_succ, Act.put, List.setIfInBounds_toArray, List.set_cons_zero, List.set_cons_succ])
    refine seq_last rfl rfl (fun K hK => ?_); simp only [List.getElem_toArray, List.getElem_cons_zero, List.getElem_cons_succ]; go_simp
    refine hK.out _ _ ?_; clear hK; (try simp only [Act.put, List.setIfInBounds_toArray, List.set_cons_zero, List.set_cons_succ])
    refine seq_nil ?_
    have hg2 := (((hg1.set (m * 4) (.string x.t)).set (m * 4 + 1) (.string x.c)).set (m * 4 + 2) (.bool x.b)).set (m * 4 + 3) (.int .i64 x.d)
    have K2 := (K1.any (S := One g)).wn (.inl rfl) (m * 4) x
    generalize (((w1.setCell ⟨g, m * 4, none⟩ (.string x.t)).setCell ⟨g, m * 4 + 1, none⟩ (.string x.c)).setCell ⟨g, m * 4 + 2, none⟩ (.bool x.b)).setCell ⟨g, m * 4 + 3, none⟩ (.int .i64 x.d) = w2 at hg2 K2 ⊢
    clear a0 a1 a2 a3 fz q0 q1 q2 q3 e1 b0 b1 b2 b3
    have c33 := hg2.cell 33
    have f33 := hg2.frozen 33
    have n0 : m * 4 ≠ 33 := by omega
    have n1 : m * 4 + 1 ≠ 33 := by omega
    have n2 : m * 4 + 2 ≠ 33 := by omega
    have n3 : m * 4 + 3 ≠ 33 := by omega
    simp only [Array.getElem?_setIfInBounds, n0, n1, n2, n3, if_false, h6] at c33
    have hwr : IntKind.i64.wrap ((l.length : Int) + 1) = (l.length : Int) + 1 := IntWalk.i64_in _ (by omega)
    go_wp2
    go_ret
    refine ⟨rfl, ⟨_, fun j => if j = m then x else R j, f, hg2.set 33 _, by simp [h2], h3, by simp; omega, ?_, ?_, ?_, ?_⟩, K2.setOne 33 _⟩
    · have n0 : m * 4 ≠ 32 := by omega
      have n1 : m * 4 + 1 ≠ 32 := by omega
      have n2 : m * 4 + 2 ≠ 32 := by omega
      have n3 : m * 4 + 3 ≠ 32 := by omega
      simp [Array.getElem?_setIfInBounds, n0, n1, n2, n3, h5]
    · simp [Array.getElem?_setIfInBounds, h2]
    · intro i hi
      have q : ∀ o, o < 32 → ((((cs.setIfInBounds (m * 4) (.string x.t)).setIfInBounds (m * 4 + 1) (.string x.c)).setIfInBounds (m * 4 + 2) (.bool x.b)).setIfInBounds (m * 4 + 3) (.int .i64 x.d) |>.setIfInBounds 33 (.int .i64 ((l.length : Int) + 1)))[o]? =
          if o = m * 4 + 3 then some (.int .i64 x.d) else if o = m * 4 + 2 then some (.bool x.b) else if o = m * 4 + 1 then some (.string x.c) else if o = m * 4 then some (.string x.t) else cs[o]? := by
        intro o ho
        simp only [Array.getElem?_setIfInBounds, Array.size_setIfInBounds, h2]
        have : ¬ 33 = o := by omega
        simp only [this, if_false]
        by_cases o3 : o = m * 4 + 3
        · subst o3; simp; omega
        · by_cases o2 : o = m * 4 + 2
          · subst o2; simp; omega
          · by_cases o1 : o = m * 4 + 1
            · subst o1; simp; omega
            · by_cases o0 : o = m * 4
              · subst o0; simp; omega
              · simp [o0, o1, o2, o3, Ne.symm o0, Ne.symm o1, Ne.symm o2, Ne.symm o3]
      rw [q _ (by omega), q _ (by omega), q _ (by omega), q _ (by omega)]
      by_cases him : i = m
      · subst him
        simp
      · obtain ⟨r0, r1, r2, r3⟩ := H7.out i hi
        simp only [him, if_false]
        refine ⟨?_, ?_, ?_, ?_⟩
        all_goals
          rw [if_neg (by omega), if_neg (by omega), if_neg (by omega), if_neg (by omega)]
          assumption
    · intro i y hy
      by_cases hi : i < l.length
      · rw [List.getElem?_append_left hi] at hy
        have : (f + i) % 8 ≠ m := by omega
        simp only [this, if_false]
        exact H8.out i y hy
      · have hi2 : i < (l ++ [x]).length := (List.getElem?_eq_some_iff.1 hy).1
        have : i = l.length := by simp at hi2; omega
        subst this
        simp at hy
        rw [hm]
        simp [hy]
  · have hl8 : l.length = 8 := by omega
    rw [show pushF l x = l by simp [pushF, hl], decide_eq_false hl]
    rw [hl8] at c1
    clear h7 h8
    go_enter Try.func9, Try.ntmps9
    go_wp2
    go_ret
    exact ⟨rfl, h0.keep hA, hA.any⟩

/-! ### HasPrefix, at "1" -/
def ahd (c : ByteArray) : Bool := (c.extract 0 1).toList == [49]
theorem ahd_none {c : ByteArray} (h : c.size = 0) : ahd c = false := by
  have hd : c = ⟨#[]⟩ := by
    cases c with | mk a => simp [ByteArray.size] at h; rw [h]
  subst hd
  unfold ahd
  rw [ByteArray.toList_eq]
  rfl
theorem pre1_calls (c : ByteArray) (w : World) :
    Calls Try.prog 22 #[.string c, .string ⟨#[49]⟩] w fun e w' => e = .returned (.bool (ahd c)) ∧ Kp Non w w' := by
  by_cases h : c.size = 0
  · have h1 : decide (((c.size : Nat) : Int) < 1) = true := by simp [h]
    go_enter Try.func22, Try.ntmps22
    go_wp2
    go_ret
    exact ⟨by rw [ahd_none h]; rfl, Kp.refl _ _⟩
  · have h1 : decide (((c.size : Nat) : Int) < 1) = false := by simp; omega
    go_enter Try.func22, Try.ntmps22
    go_wp2
    go_ret
    exact ⟨rfl, Kp.refl _ _⟩
theorem prefix1_calls (c : ByteArray) (w : World) :
    Calls Try.prog 21 #[.string c, .string ⟨#[49]⟩] w fun e w' => e = .returned (.bool (ahd c)) ∧ Kp Non w w' := by
  go_enter Try.func21, Try.ntmps21
  go_wp2_with fail
  refine (pre1_calls c _).mono ?_
  rintro e w1 ⟨rfl, k1⟩
  go_wp2
  go_ret
  exact ⟨rfl, k1⟩

/-! ### Due -/
def dueF (l : List Wn) : Int := l.foldl (fun d x => min d x.d) 9223372036854775807
theorem dueF_take (l : List Wn) (k : Nat) (h : k < l.length) : dueF (l.take (k + 1)) = min (dueF (l.take k)) l[k].d := by
  unfold dueF
  rw [List.take_succ_eq_append_getElem h, List.foldl_append]
  rfl
def PDueInv (w : World) (l : List Wn) (d i : Value) (wr : World) : Prop :=
  ∃ k : Nat, i = .int .i64 k ∧ k ≤ l.length ∧ d = .int .i64 (dueF (l.take k)) ∧ Kp Non w wr

theorem due_calls (g : Nat) (l : List Wn) (w : World) (h : Pip w g l) :
    Calls Try.prog 13 #[.pointer (some ⟨g, 0, none⟩)] w fun e w' => e = .returned (.int .i64 (dueF l)) ∧ Kp Non w w' := by
  obtain ⟨cs, R, f, h1, h2, h3, h4, h5, h6, h7, h8⟩ := h
  have c0 := (h1.cell 32).trans h5
  have c1 := (h1.cell 33).trans h6
  have hx := hid (Pip.head h1 h3 h7 h8)
  clear h7 h8 h6
  go_enter Try.func13, Try.ntmps13
  go_wp2_with fail
  go_loopw [3, 4, 9] (fun d _ i wr => PDueInv w l d i wr) (fun _ _ i _ => 41 - (intOf i).toNat)
  case atStart => exact ⟨0, rfl, by omega, by simp [dueF], Kp.refl _ _⟩
  case round =>
    obtain ⟨k, rfl, hk, rfl, K⟩ := hrel
    by_cases hlt : k < l.length
    · go_wp2_with fail
      refine (at_calls g f k _ (K.cell c0 (fun x => x)) h3 (by omega)).mono ?_
      rintro e w1 ⟨rfl, k1⟩
      have K1 := K.seq k1
      obtain ⟨_, _, _, a3⟩ := (hx.out k l[k] (List.getElem?_eq_getElem hlt)).keep K1
      have hd := dueF_take l k hlt
      generalize l[k] = x at a3 hd
      generalize (f + k) % 8 * 4 = o at a3 ⊢
      generalize dueF (l.take k) = d0 at hd ⊢
      go_wp2_with fail
      go_roundw
      case rel => exact ⟨k + 1, by go_num, by omega, by rw [hd], K1⟩
      case measure => simp [intOf]; omega
    · have : k = l.length := by omega
      subst this
      rw [List.take_length]
      go_wp2_with fail
      go_ret
      exact ⟨rfl, K⟩

end Go.Proofs.Ytpldhdomanikiaa

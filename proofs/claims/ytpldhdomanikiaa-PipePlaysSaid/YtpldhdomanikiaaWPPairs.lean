/- The walk of PipePairs: it answers true and writes nothing that was there. -/
import Derived.Test.YtpldhdomanikiaaPLaw
import Derived.Test.YtpldhdomanikiaaPOps
import Derived.Deep.DeepCutAuto
import Derived.Deep.CutBlock
namespace Go.Proofs.Ytpldhdomanikiaa
open Go.RowKit
set_option linter.unusedSimpArgs false
set_option linter.unusedVariables false
attribute [local go_sem] max2_of min2_of max_of min_of

theorem infoW : (Try.prog.info? 28).map (fun i => (i.zero, i.size, i.bytes)) = some (some Wn.no.val, 4, 48) := by kernel_rfl

def wcells (l : List Wn) : List Value := l.flatMap fun x => [.string x.t, .string x.c, .bool x.b, .int .i64 x.d]
theorem wcells_length (l : List Wn) : (wcells l).length = l.length * 4 := by
  induction l with
  | nil => rfl
  | cons x l ih => simp only [wcells, List.flatMap_cons, List.length_append, List.length_cons, List.length_nil] at ih ⊢; omega
theorem wcells_append (l m : List Wn) : wcells (l ++ m) = wcells l ++ wcells m := by simp [wcells]
theorem wcells_one (l : List Wn) : ∀ u ∈ wcells l, u.oneCell' = true := by
  intro u hu
  obtain ⟨x, _, hx⟩ := List.mem_flatMap.1 hu
  simp at hx
  rcases hx with rfl | rfl | rfl | rfl <;> rfl
theorem wcells_get (l : List Wn) : ∀ (i : Nat) (x : Wn), l[i]? = some x → (wcells l)[i * 4]? = some (.string x.t) ∧ (wcells l)[i * 4 + 1]? = some (.string x.c) ∧ (wcells l)[i * 4 + 2]? = some (.bool x.b) ∧ (wcells l)[i * 4 + 3]? = some (.int .i64 x.d) := by
  induction l with
  | nil => intro i x h; simp at h
  | cons y l ih =>
    intro i x h
    cases i with
    | zero => simp at h; subst h; exact ⟨rfl, rfl, rfl, rfl⟩
    | succ i =>
      have := ih i x (by simpa using h)
      have e : wcells (y :: l) = [.string y.t, .string y.c, .bool y.b, .int .i64 y.d] ++ wcells l := rfl
      rw [e]
      refine ⟨?_, ?_, ?_, ?_⟩
      · rw [List.getElem?_append_right (by simp; omega), show (i + 1) * 4 - [Value.string y.t, .string y.c, .bool y.b, .int .i64 y.d].length = i * 4 by simp; omega]; exact this.1
      · rw [List.getElem?_append_right (by simp; omega), show (i + 1) * 4 + 1 - [Value.string y.t, .string y.c, .bool y.b, .int .i64 y.d].length = i * 4 + 1 by simp; omega]; exact this.2.1
      · rw [List.getElem?_append_right (by simp; omega), show (i + 1) * 4 + 2 - [Value.string y.t, .string y.c, .bool y.b, .int .i64 y.d].length = i * 4 + 2 by simp; omega]; exact this.2.2.1
      · rw [List.getElem?_append_right (by simp; omega), show (i + 1) * 4 + 3 - [Value.string y.t, .string y.c, .bool y.b, .int .i64 y.d].length = i * 4 + 3 by simp; omega]; exact this.2.2.2

/-- One want of a row of the call's own. -/
theorem Own.wn {w : World} {e n : Nat} {v : Value} {r : Option Nat} {l : List Wn} (h : Own w e 4 v r n (wcells l)) : ∃ A c, v = .slice A n c ∧ n ≤ c ∧ c ≤ maxLen ∧ ∀ i x, l[i]? = some x → ∃ g, A = some ⟨g, 0, none⟩ ∧ r = some g ∧ WnAt w g (i * 4) x := by
  have hl := h.1
  rw [wcells_length] at hl
  rcases h.2 with ⟨rfl, rfl, a, rfl⟩ | ⟨g, cap, cur, rfl, rfl, hb, h1, h2, h3, h4⟩
  · exact ⟨a, 0, rfl, by omega, by simp [maxLen], fun i x hx => by have := (List.getElem?_eq_some_iff.1 hx).1; omega⟩
  · refine ⟨_, cap, rfl, h1, h2, fun i x hx => ⟨g, rfl, rfl, ?_⟩⟩
    have hi := (List.getElem?_eq_some_iff.1 hx).1
    have q : ∀ o u, (wcells l)[o]? = some u → w.cell? ⟨g, o, none⟩ = some u := by
      intro o u hu
      rw [hb.cell]
      rw [← h4, List.getElem?_take] at hu
      split at hu
      · simpa using hu
      · cases hu
    obtain ⟨a, b, c, d⟩ := wcells_get l i x hx
    exact ⟨q _ _ a, q _ _ b, q _ _ c, q _ _ d⟩

theorem ahd_get (c : ByteArray) (h : 0 < c.size) : (((c[0]'h).toNat : Int) == 49) = ahd c := by
  obtain ⟨⟨l⟩⟩ := c
  cases l with
  | nil => simp [ByteArray.size] at h
  | cons b l =>
    have e : (((ByteArray.mk ⟨b :: l⟩)[0]'h).toNat : Int) = (b.toNat : Int) := rfl
    rw [e]
    unfold ahd
    rw [ByteArray.extract_mk]
    simp only [List.drop_zero, Nat.sub_zero, List.take_succ_cons, List.take_zero, ByteArray.toList_mk]
    by_cases hb : b = 49
    · subst hb; rfl
    · have h1 : ¬ b.toNat = 49 := fun h => hb (UInt8.toNat_inj.1 h)
      have e1 : ((b.toNat : Int) == 49) = false := by simp; omega
      rw [e1]
      symm
      rw [beq_eq_false_iff_ne]
      intro h2
      simp at h2
      exact hb h2

theorem pip_ne {w : World} {g : Nat} {l : List Wn} {v : Value} {r : Option Nat} {n : Nat} {cs : List Value} (h : Pip w g l) (o : Own w 28 4 v r n cs) : r ≠ some g := by
  obtain ⟨cs', R, f, h1, _⟩ := h
  exact o.ne_blk h1 (by decide)

def PPInv (w : World) (g n : Nat) (all k i : Value) (wr : World) : Prop :=
  ∃ (j m : Nat) (l : List Wn) (r : Option Nat), i = .int .i64 j ∧ k = .int .i64 m ∧ j ≤ n ∧ j ≤ 60 ∧ m ≤ l.length ∧ l.length ≤ j ∧ Own wr 28 4 all r l.length (wcells l) ∧ (∀ q, r = some q → w.heap.size ≤ q) ∧ Pip wr g (l.drop m) ∧ Kp Non w wr

set_option maxRecDepth 100000 in
set_option maxHeartbeats 4000000 in
theorem ppairs_walk (w : World) (p : Int) (v : Value) (CS : List (List Value)) (hv : OpsP w v CS) (bd : -9223372036854775808 ≤ p ∧ p ≤ 9223372036854775807) :
    Calls Try.prog 3 #[.int .i64 p, v] w fun e w' => e = .returned (.bool true) ∧ Kp Non w w' := by
  obtain ⟨⟨A, c, rfl, hlc, hcm, hcs, hx⟩, hel⟩ := hv
  have Hel := hid hel
  have Hc := hid hx
  clear hel hx hcs
  unfold maxLen at hcm
  go_enter Try.func3, Try.ntmps3
  go_wp2_with fail
  refine (shown_calls _).mono ?_
  rintro e w1 ⟨rfl, k1⟩
  go_wp2_with fail
  refine (new_calls _).mono ?_
  rintro e w2 ⟨g, rfl, hg, p2, k2⟩
  have hgw : w.heap.size ≤ g := by have := k1.size; omega
  have K2 := k1.seq k2
  clear k1 k2 hg
  go_wp2_with fail
  go_loopw [7, 8, 9] (fun all k i wr => PPInv w g CS.length all k i wr) (fun _ _ i _ => 61 - (intOf i).toNat)
  case atStart => exact ⟨0, 0, [], none, rfl, rfl, by omega, by omega, by simp, by simp, Own.nil _ _ _ _, (fun q hq => by cases hq), p2.keep ((Kp.refl Non w2).alloc _), K2.alloc _⟩
  case round =>
    clear p2 K2
    obtain ⟨j, m, l, r, rfl, rfl, hj1, hj2, hm, hl, o3, hr3, p3, K3⟩ := hrel
    by_cases hend : j < CS.length ∧ j < 60
    · obtain ⟨he1, he2⟩ := hend
      obtain ⟨kd, x, code, hcs, hkd0, hkd1⟩ := Hel.out CS[j] (List.getElem_mem he1)
      obtain ⟨bb, off, rfl, hcells⟩ : ∃ bb off, A = some ⟨bb, off, none⟩ ∧ ∀ i u, [Value.int .u8 kd, .string x.t, .string x.c, .bool x.b, .int .i64 x.d, .string code][i]? = some u → w.cell? ⟨bb, off + (j * 6 + i), none⟩ = some u := by
        rcases Hc.out with h | ⟨bb, off, hA, h⟩
        · subst h; simp at he1
        · exact ⟨bb, off, hA, fun i u hu => h j _ (List.getElem?_eq_getElem he1) i u (by rw [hcs]; exact hu)⟩
      have c0 := K3.cell (hcells 0 _ rfl) (fun x => x)
      have c1 := K3.cell (hcells 1 _ rfl) (fun x => x)
      have c2 := K3.cell (hcells 2 _ rfl) (fun x => x)
      have c3 := K3.cell (hcells 3 _ rfl) (fun x => x)
      have c4 := K3.cell (hcells 4 _ rfl) (fun x => x)
      have c5 := K3.cell (hcells 5 _ rfl) (fun x => x)
      simp only [Nat.add_zero, ← Nat.add_assoc] at c0 c1 c2 c3 c4 c5
      clear hcells hcs Hc
      obtain ⟨AA, ca, rfl, hca, hcam, hget⟩ := o3.wn
      have HO := hid o3
      have HG := hid hget
      clear o3 hget
      have hpl := p3.len
      rw [List.length_drop] at hpl
      by_cases t0 : kd % 8 < 3
      · have tt : decide (kd % 8 < 3) = true := decide_eq_true t0
        have hne := pip_ne p3 HO.out
        have hA := (Kp.refl Non wr).alloc (.cells #[.int .u8 kd, .string x.t, .string x.c, .bool x.b, .int .i64 x.d, .string code] 30)
        have hO := Blk.new wr #[.int .u8 kd, .string x.t, .string x.c, .bool x.b, .int .i64 x.d, .string code] 30
        have hglt := p3.lt
        go_wp2_with fail
        refine (push_calls g _ x _ (p3.keep hA)).mono ?_
        rintro e w4 ⟨rfl, p4, k4⟩
        have hO4 := hO.kp k4 (fun h => by have : wr.heap.size = g := h; omega)
        have O4 := HO.out.kp (hA.any.trans k4 (fun q hq => .inl hq)) (fun q hq hqg => hne (by rw [hq]; congr 1))
        have K4 : Kp Non w w4 := (K3.seq hA).seqNew k4 (fun q hq => by rw [show q = g from hq]; exact hgw)
        clear hA hO k4 K3 HO c0 c1 c2 c3 c4 c5 hne
        have o1 := hO4.cell 1
        have o2 := hO4.cell 2
        have o3 := hO4.cell 3
        have o4 := hO4.cell 4
        simp at o1 o2 o3 o4
        have HO4 := hid O4
        clear O4
        rw [List.length_drop]
        by_cases t1 : l.length - m < 8
        · rw [decide_eq_true t1]
          have t2 : decide ((l.length : Int) - m < 8) = true := by simp; omega
          have hwr : IntKind.i64.wrap ((l.length : Int) - m) = (l.length : Int) - m := IntWalk.i64_in _ (by omega)
          go_wp2_with (at_builtin; go_must (refine wpList_append_any rfl _ _ _ _ rfl 28 Wn.no.val 4 48 Try.underlying26 infoW rfl _ r l.length (wcells l) rfl ?ho _ 1 (wcells [x]) rfl ?hs (by omega) (by omega) ?_))
          case ho => exact HO4.out.keep ((Kp.refl Non w4).alloc _)
          case hs =>
            refine Src.ofSlice _ Try.underlying26 _ 1 _ (wcells [x]) rfl (fun i u hu => ?_) (wcells_one _)
            rw [addr_add, (Blk.new w4 #[.string x.t, .string x.c, .bool x.b, .int .i64 x.d] 28).cell]
            simpa [wcells] using hu
          intro v5 r5 w5 o5 k5 n5
          go_wp2_with fail
          have hd4 := (Kp.refl Non w4).alloc (.cells #[.string x.t, .string x.c, .bool x.b, .int .i64 x.d] 28)
          have K5 := hd4.any.trans k5 (fun q hq => .inl hq)
          have hne5 := pip_ne p4 HO4.out
          go_roundw
          case rel =>
            refine ⟨j + 1, m, l ++ [x], r5, by go_num, rfl, by omega, by omega, by simp; omega, by simp; omega, ?_, ?_, ?_, K4.trans K5 (fun q hq => .inr (hr3 q hq))⟩
            · rw [wcells_append, List.length_append]; exact o5
            · intro q hq
              rcases n5 q hq with h | h
              · exact hr3 q h
              · have := K4.size; have := hd4.size; omega
            · have := p4.kp K5 (fun h => hne5 h)
              rw [List.drop_append_of_le_length hm]
              simpa [pushF, List.length_drop, t1] using this
          case measure => simp [intOf]; omega
        · rw [decide_eq_false t1]
          have t2 : decide ((l.length : Int) - m < 8) = false := by simp; omega
          have hwr : IntKind.i64.wrap ((l.length : Int) - m) = (l.length : Int) - m := IntWalk.i64_in _ (by omega)
          go_wp2_with fail
          go_roundw
          case rel =>
            refine ⟨j + 1, m, l, r, by go_num, rfl, by omega, by omega, hm, by omega, HO4.out, hr3, ?_, K4⟩
            simpa [pushF, List.length_drop, t1] using p4
          case measure => simp [intOf]; omega
      · have tt : decide (kd % 8 < 3) = false := decide_eq_false t0
        have hne := pip_ne p3 HO.out
        have hA := (Kp.refl Non wr).alloc (.cells #[.int .u8 kd, .string x.t, .string x.c, .bool x.b, .int .i64 x.d, .string code] 30)
        have hO := Blk.new wr #[.int .u8 kd, .string x.t, .string x.c, .bool x.b, .int .i64 x.d, .string code] 30
        have hglt := p3.lt
        go_wp2_with fail
        refine (reply_calls g _ p code _ (p3.keep hA)).mono ?_
        rintro e w4 ⟨rfl, p4, k4⟩
        have hO4 := hO.kp k4 (fun h => by have : wr.heap.size = g := h; omega)
        have O4 := HO.out.kp (hA.any.trans k4 (fun q hq => .inl hq)) (fun q hq hqg => hne (by rw [hq]; congr 1))
        have K4 : Kp Non w w4 := (K3.seq hA).seqNew k4 (fun q hq => by rw [show q = g from hq]; exact hgw)
        clear hA hO k4 K3 HO c0 c1 c2 c3 c4 c5 hne HG
        have o5 := hO4.cell 5
        simp at o5
        obtain ⟨_, _, hAA, _, _, hget⟩ := O4.wn
        injection hAA with hAA _ hca'
        subst hAA hca'
        have HG := hid hget
        have HO4 := hid O4
        clear O4 hget hO4
        by_cases t1 : m < l.length
        · obtain ⟨gr, rfl, hrr, hyy⟩ := HG.out m l[m] (List.getElem?_eq_getElem t1)
          have hdrop : l.drop m = l[m] :: l.drop (m + 1) := (List.drop_eq_getElem_cons t1)
          rw [hdrop] at p4 ⊢
          generalize l[m] = y at hyy p4 hdrop ⊢
          simp only [List.headD_cons, ne_eq, reduceCtorEq, not_false_eq_true, decide_true, Bool.true_and] at p4 ⊢
          simp only [Wn.val]
          have hB := Blk.new w4 #[.string y.t, .string y.c, .bool y.b, .int .i64 y.d] 28
          have hB2 : WnBlk _ w4.heap.size y := hB.old (.cells #[.string ⟨#[]⟩, .string ⟨#[]⟩, .bool false, .int .i64 0] 28)
          have hA2 := ((Kp.refl Non w4).alloc (.cells #[.string y.t, .string y.c, .bool y.b, .int .i64 y.d] 28)).alloc (.cells #[.string ⟨#[]⟩, .string ⟨#[]⟩, .bool false, .int .i64 0] 28)
          have hy2 := hyy.keep hA2
          have o52 := hA2.cell o5 (fun x => x)
          have tl : decide ((m : Int) < l.length) = true := by simp; omega
          go_upto_block 2 with fail
          generalize (w4.alloc (.cells #[.string y.t, .string y.c, .bool y.b, .int .i64 y.d] 28)).alloc (.cells #[.string ⟨#[]⟩, .string ⟨#[]⟩, .bool false, .int .i64 0] 28) = wb at hB2 hA2 hy2 o52 ⊢
          have hd := (Kp.refl Non wb).drew
          obtain ⟨y0, y1, y2, y3⟩ := hy2
          obtain ⟨z0, z1, z2, z3⟩ := hB2.at
          simp only [Nat.zero_add] at z1 z2 z3
          have e0 : ∀ w', Kp Non wb.drew w' → w'.cell? ⟨gr, m * 4, none⟩ = some (.string y.t) := fun w' hk => (hd.seq hk).cell y0 (fun x => x)
          have e1 : ∀ w', Kp Non wb.drew w' → w'.cell? ⟨gr, m * 4 + 1, none⟩ = some (.string y.c) := fun w' hk => (hd.seq hk).cell y1 (fun x => x)
          have e2 : ∀ w', Kp Non wb.drew w' → w'.cell? ⟨gr, m * 4 + 2, none⟩ = some (.bool y.b) := fun w' hk => (hd.seq hk).cell y2 (fun x => x)
          have e3 : ∀ w', Kp Non wb.drew w' → w'.cell? ⟨gr, m * 4 + 3, none⟩ = some (.int .i64 y.d) := fun w' hk => (hd.seq hk).cell y3 (fun x => x)
          have d0 : ∀ w', Kp Non wb.drew w' → w'.cell? ⟨w4.heap.size, 0, none⟩ = some (.string y.t) := fun w' hk => (hd.seq hk).cell z0 (fun x => x)
          have d1 : ∀ w', Kp Non wb.drew w' → w'.cell? ⟨w4.heap.size, 1, none⟩ = some (.string y.c) := fun w' hk => (hd.seq hk).cell z1 (fun x => x)
          have d2 : ∀ w', Kp Non wb.drew w' → w'.cell? ⟨w4.heap.size, 2, none⟩ = some (.bool y.b) := fun w' hk => (hd.seq hk).cell z2 (fun x => x)
          have d3 : ∀ w', Kp Non wb.drew w' → w'.cell? ⟨w4.heap.size, 3, none⟩ = some (.int .i64 y.d) := fun w' hk => (hd.seq hk).cell z3 (fun x => x)
          have tm : ((m : Nat) : Int) < l.length := by omega
          refine wp_region_seq [(0, true), (1, true), (2, true), (3, true), (4, true), (5, true), (6, true), (7, true), (8, true), (9, true), (10, true), (11, true), (12, true), (13, true), (14, true)] 15 Non wide (by kernel_rfl) (fun _ _ _ _ _ h => h) ?_; (try simp only [List.append_eq, List.cons_append, List.nil_append])
          repeat (refine seq_still (v := ?_) rfl rfl (fun wq hq => ?_) ?_; rotate_left; (focus ((simp only [List.getElem_toArray, List.getElem_cons_zero, List.getElem_cons_succ]; go_simp; try with_reducible rfl); done)); simp only [List.getElem_toArray, List.getElem_cons_zero, List.getElem_cons_succ, Act.put, List.setIfInBounds_toArray, List.set_cons_zero, List.set_cons_succ])
          refine seq_nil ?_
          clear e0 e1 e2 e3 d0 d1 d2 d3 y0 y1 y2 y3 z0 z1 z2 z3 hB2
          have Kb := K4.seq (hA2.seq hd)
          have pb := p4.keep (hA2.seq hd)
          have Ob := hid (HO4.out.keep (hA2.seq hd))
          have ob := hd.cell o52 (fun x => x)
          generalize wb.drew = wc at Kb pb Ob ob ⊢
          clear hd hA2 HO4 o52 o5 p4 K4 HG
          by_cases hp3 : p = 3
          · subst hp3
            by_cases hs : code.size = 0
            · have hah : ahF 3 code = false := by simp [ahF, ahd_none hs]
              rw [hah]
              have hs0 : decide ((0 : Int) < code.size) = false := by simp [hs]
              have pf : replyF 3 code (y :: l.drop (m + 1)) = l.drop (m + 1) := by simp [replyF, hah]
              rw [pf] at pb
              have hwr1 : IntKind.i64.wrap ((m : Int) + 1) = (m : Int) + 1 := IntWalk.i64_in _ (by omega)
              have hwr2 : IntKind.i64.wrap ((l.length : Int) - ((m : Int) + 1)) = (l.length : Int) - ((m : Int) + 1) := IntWalk.i64_in _ (by omega)
              have hsub : (((l.drop (m + 1)).length : Nat) : Int) = (l.length : Int) - ((m : Int) + 1) := by rw [List.length_drop]; omega
              go_wp2_with fail
              refine (len_calls g _ _ pb).mono ?_
              rintro e w7 ⟨rfl, k7⟩
              rw [hsub]
              go_wp2_with fail
              go_roundw
              case rel => exact ⟨j + 1, m + 1, l, r, by go_num, by go_num, by omega, by omega, by omega, by omega, Ob.out.keep k7, hr3, pb.keep k7, Kb.seq k7⟩
              case measure => simp [intOf]; omega
            · have hs0 : decide ((0 : Int) < code.size) = true := by simp; omega
              have hs1 : (0 : Int) < code.size := by omega
              have hx := ahd_get code
              cases hb : ahd code with
              | false =>
                rw [hb] at hx
                have hah : ahF 3 code = false := by simp [ahF, hb]
                rw [hah]
                have pf : replyF 3 code (y :: l.drop (m + 1)) = l.drop (m + 1) := by simp [replyF, hah]
                rw [pf] at pb
                have hwr1 : IntKind.i64.wrap ((m : Int) + 1) = (m : Int) + 1 := IntWalk.i64_in _ (by omega)
                have hwr2 : IntKind.i64.wrap ((l.length : Int) - ((m : Int) + 1)) = (l.length : Int) - ((m : Int) + 1) := IntWalk.i64_in _ (by omega)
                have hsub : (((l.drop (m + 1)).length : Nat) : Int) = (l.length : Int) - ((m : Int) + 1) := by rw [List.length_drop]; omega
                go_wp2_with fail
                refine (len_calls g _ _ pb).mono ?_
                rintro e w7 ⟨rfl, k7⟩
                rw [hsub]
                go_wp2_with fail
                go_roundw
                case rel => exact ⟨j + 1, m + 1, l, r, by go_num, by go_num, by omega, by omega, by omega, by omega, Ob.out.keep k7, hr3, pb.keep k7, Kb.seq k7⟩
                case measure => simp [intOf]; omega
              | true =>
                rw [hb] at hx
                have hah : ahF 3 code = true := by simp [ahF, hb]
                rw [hah]
                have pf : replyF 3 code (y :: l.drop (m + 1)) = l.drop m := by simp only [replyF, hah, if_true]; exact hdrop.symm
                rw [pf] at pb
                have hwr2 : IntKind.i64.wrap ((l.length : Int) - (m : Int)) = (l.length : Int) - (m : Int) := IntWalk.i64_in _ (by omega)
                have hsub : (((l.drop m).length : Nat) : Int) = (l.length : Int) - (m : Int) := by rw [List.length_drop]; omega
                go_wp2_with fail
                refine (len_calls g _ _ pb).mono ?_
                rintro e w7 ⟨rfl, k7⟩
                rw [hsub]
                go_wp2_with fail
                go_roundw
                case rel => exact ⟨j + 1, m, l, r, by go_num, rfl, by omega, by omega, by omega, by omega, Ob.out.keep k7, hr3, pb.keep k7, Kb.seq k7⟩
                case measure => simp [intOf]; omega
          · have hp3' : (p == 3) = false := by simpa using hp3
            have hah : ahF p code = false := by simp [ahF, hp3]
            rw [hah]
            have pf : replyF p code (y :: l.drop (m + 1)) = l.drop (m + 1) := by simp [replyF, hah]
            rw [pf] at pb
            have hwr1 : IntKind.i64.wrap ((m : Int) + 1) = (m : Int) + 1 := IntWalk.i64_in _ (by omega)
            have hwr2 : IntKind.i64.wrap ((l.length : Int) - ((m : Int) + 1)) = (l.length : Int) - ((m : Int) + 1) := IntWalk.i64_in _ (by omega)
            have hsub : (((l.drop (m + 1)).length : Nat) : Int) = (l.length : Int) - ((m : Int) + 1) := by rw [List.length_drop]; omega
            go_wp2_with fail
            refine (len_calls g _ _ pb).mono ?_
            rintro e w7 ⟨rfl, k7⟩
            rw [hsub]
            go_wp2_with fail
            go_roundw
            case rel => exact ⟨j + 1, m + 1, l, r, by go_num, by go_num, by omega, by omega, by omega, by omega, Ob.out.keep k7, hr3, pb.keep k7, Kb.seq k7⟩
            case measure => simp [intOf]; omega
        · obtain rfl : m = l.length := by omega
          rw [List.drop_length] at p4 ⊢
          simp only [List.headD_nil, ne_eq, not_true_eq_false, decide_false, Bool.false_and] at p4 ⊢
          have pf : replyF p code [] = [] := by simp [replyF]
          rw [pf] at p4
          simp only [Wn.val, Wn.no]
          have hA2 := ((Kp.refl Non w4).alloc (.cells #[.string ⟨#[]⟩, .string ⟨#[]⟩, .bool false, .int .i64 0] 28)).alloc (.cells #[.string ⟨#[]⟩, .string ⟨#[]⟩, .bool false, .int .i64 0] 28)
          have o52 := hA2.cell o5 (fun x => x)
          go_upto_block 2 with fail
          generalize (w4.alloc (.cells #[.string ⟨#[]⟩, .string ⟨#[]⟩, .bool false, .int .i64 0] 28)).alloc (.cells #[.string ⟨#[]⟩, .string ⟨#[]⟩, .bool false, .int .i64 0] 28) = wb at hA2 o52 ⊢
          have hd := (Kp.refl Non wb).drew
          refine wp_region_seq [(0, true), (1, true), (2, true), (3, true), (4, true), (5, true), (6, true), (7, true), (8, true), (9, true), (10, true), (11, true), (12, true), (13, true), (14, true)] 15 Non wide (by kernel_rfl) (fun _ _ _ _ _ h => h) ?_; (try simp only [List.append_eq, List.cons_append, List.nil_append])
          repeat (refine seq_still (v := ?_) rfl rfl (fun wq hq => ?_) ?_; rotate_left; (focus ((simp only [List.getElem_toArray, List.getElem_cons_zero, List.getElem_cons_succ]; go_simp; try with_reducible rfl); done)); simp only [List.getElem_toArray, List.getElem_cons_zero, List.getElem_cons_succ, Act.put, List.setIfInBounds_toArray, List.set_cons_zero, List.set_cons_succ])
          repeat (refine seq_skip rfl rfl ?_; simp only [List.getElem_toArray, List.getElem_cons_zero, List.getElem_cons_succ, Act.put, List.setIfInBounds_toArray, List.set_cons_zero, List.set_cons_succ])
          repeat (refine seq_still (v := ?_) rfl rfl (fun wq hq => ?_) ?_; rotate_left; (focus ((simp only [List.getElem_toArray, List.getElem_cons_zero, List.getElem_cons_succ]; go_simp; try with_reducible rfl); done)); simp only [List.getElem_toArray, List.getElem_cons_zero, List.getElem_cons_succ, Act.put, List.setIfInBounds_toArray, List.set_cons_zero, List.set_cons_succ])
          repeat (refine seq_skip rfl rfl ?_; simp only [List.getElem_toArray, List.getElem_cons_zero, List.getElem_cons_succ, Act.put, List.setIfInBounds_toArray, List.set_cons_zero, List.set_cons_succ])
          repeat (refine seq_still (v := ?_) rfl rfl (fun wq hq => ?_) ?_; rotate_left; (focus ((simp only [List.getElem_toArray, List.getElem_cons_zero, List.getElem_cons_succ]; go_simp; try with_reducible rfl); done)); simp only [List.getElem_toArray, List.getElem_cons_zero, List.getElem_cons_succ, Act.put, List.setIfInBounds_toArray, List.set_cons_zero, List.set_cons_succ])
          refine seq_nil ?_
          have Kb := K4.seq (hA2.seq hd)
          have pb := p4.keep (hA2.seq hd)
          have Ob := hid (HO4.out.keep (hA2.seq hd))
          have ob := hd.cell o52 (fun x => x)
          generalize wb.drew = wc at Kb pb Ob ob ⊢
          clear hd hA2 HO4 o52 o5 p4 K4 HG
          have hwr2 : IntKind.i64.wrap ((l.length : Int) - (l.length : Int)) = 0 := by rw [Int.sub_self]; rfl
          have hsub : ((([] : List Wn).length : Nat) : Int) = 0 := rfl
          by_cases hp3 : p = 3
          · subst hp3
            by_cases hs : code.size = 0
            · have hs0 : decide ((0 : Int) < code.size) = false := by simp [hs]
              go_wp2_with fail
              refine (len_calls g _ _ pb).mono ?_
              rintro e w7 ⟨rfl, k7⟩
              rw [hsub]
              go_wp2_with fail
              go_roundw
              case rel => exact ⟨j + 1, l.length, l, r, by go_num, rfl, by omega, by omega, by omega, by omega, Ob.out.keep k7, hr3, by rw [List.drop_length]; exact pb.keep k7, Kb.seq k7⟩
              case measure => simp [intOf]; omega
            · have hs0 : decide ((0 : Int) < code.size) = true := by simp; omega
              have hs1 : (0 : Int) < code.size := by omega
              go_wp2_with fail
              refine (len_calls g _ _ pb).mono ?_
              rintro e w7 ⟨rfl, k7⟩
              rw [hsub]
              go_wp2_with fail
              go_roundw
              case rel => exact ⟨j + 1, l.length, l, r, by go_num, rfl, by omega, by omega, by omega, by omega, Ob.out.keep k7, hr3, by rw [List.drop_length]; exact pb.keep k7, Kb.seq k7⟩
              case measure => simp [intOf]; omega
          · have hp3' : (p == 3) = false := by simpa using hp3
            go_wp2_with fail
            refine (len_calls g _ _ pb).mono ?_
            rintro e w7 ⟨rfl, k7⟩
            rw [hsub]
            go_wp2_with fail
            go_roundw
            case rel => exact ⟨j + 1, l.length, l, r, by go_num, rfl, by omega, by omega, by omega, by omega, Ob.out.keep k7, hr3, by rw [List.drop_length]; exact pb.keep k7, Kb.seq k7⟩
            case measure => simp [intOf]; omega
    · by_cases he1 : j < CS.length
      all_goals
        have he2 : j < CS.length → ¬ j < 60 := fun h1 h2 => hend ⟨h1, h2⟩
        go_wp2_with fail
        go_ret
        exact ⟨rfl, K3⟩

end Go.Proofs.Ytpldhdomanikiaa

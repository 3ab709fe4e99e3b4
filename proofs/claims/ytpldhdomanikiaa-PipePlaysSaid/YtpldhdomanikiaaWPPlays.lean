/- The walk of PipePlays: it answers true and writes nothing that was there. -/
import Derived.Test.YtpldhdomanikiaaPRefR
namespace Go.Proofs.Ytpldhdomanikiaa
open Go.RowKit
set_option linter.unusedSimpArgs false
set_option linter.unusedVariables false
attribute [local go_sem] max2_of min2_of max_of min_of

/-- Both pipes, of the same who wait, apart. -/
def PBoth (w wr : World) (g gy : Nat) (l : List Wn) : Prop :=
  ∃ r, Pip wr g l ∧ RPip wr gy r l ∧ w.heap.size ≤ g ∧ w.heap.size ≤ gy ∧ (∀ i, r = some i → w.heap.size ≤ i) ∧ g ≠ gy ∧ r ≠ some g ∧ r ≠ some gy ∧ Kp Non w wr
section
variable {w wr w' : World} {g gy : Nat} {l : List Wn}
theorem PBoth.keep (h : PBoth w wr g gy l) (k : Kp Non wr w') : PBoth w w' g gy l := by
  obtain ⟨r, h1, h2, h3, h4, h5, h6, h7, h8, h9⟩ := h
  exact ⟨r, h1.keep k, h2.keep k, h3, h4, h5, h6, h7, h8, h9.seq k⟩
theorem PBoth.kp (h : PBoth w wr g gy l) : Kp Non w wr := by
  obtain ⟨r, h1, h2, h3, h4, h5, h6, h7, h8, h9⟩ := h
  exact h9
theorem PBoth.of {r : Option Nat} (h1 : Pip wr g l) (h2 : RPip wr gy r l) (h3 : w.heap.size ≤ g) (h4 : w.heap.size ≤ gy) (h5 : ∀ i, r = some i → w.heap.size ≤ i) (K : Kp Non w wr) : PBoth w wr g gy l := by
  have hne : g ≠ gy := by
    rintro rfl
    obtain ⟨cs, R, f, b1, _⟩ := h1
    obtain ⟨v, b2, _⟩ := h2
    exact absurd (b1.inj b2).2 (by decide)
  refine ⟨r, h1, h2, h3, h4, h5, hne, ?_, ?_, K⟩
  · obtain ⟨cs, R, f, b1, _⟩ := h1
    obtain ⟨v, b2, o, _⟩ := h2
    exact o.ne_blk b1 (by decide)
  · obtain ⟨v, b2, o, _⟩ := h2
    exact o.ne_blk b2 (by decide)
end

def PPlInv (w : World) (g gy n : Nat) (i : Value) (wr : World) : Prop :=
  ∃ (j : Nat) (l : List Wn), i = .int .i64 j ∧ j ≤ n ∧ j ≤ 60 ∧ PBoth w wr g gy l

set_option maxRecDepth 100000 in
set_option maxHeartbeats 4000000 in
theorem pplays_walk (w : World) (p : Int) (v : Value) (CS : List (List Value)) (hv : OpsP w v CS) (a : Int) (bd : -9223372036854775808 ≤ p ∧ p ≤ 9223372036854775807) (ba : -9223372036854775808 ≤ a ∧ a ≤ 9223372036854775807) :
    Calls Try.prog 6 #[.int .i64 p, v, .int .i64 a] w fun e w' => e = .returned (.bool true) ∧ Kp Non w w' := by
  obtain ⟨⟨A, c, rfl, hlc, hcm, hcs, hx⟩, hel⟩ := hv
  have Hel := hid hel
  have Hc := hid hx
  clear hel hx hcs
  unfold maxLen at hcm
  go_enter Try.func6, Try.ntmps6
  go_wp2_with fail
  refine (shown_calls _).mono ?_
  rintro e w1 ⟨rfl, k1⟩
  go_wp2_with fail
  refine (new_calls _).mono ?_
  rintro e w2 ⟨g, rfl, hg, p2, k2⟩
  have K2 := k1.seq k2
  have hgw : w.heap.size ≤ g := by have := k1.size; omega
  have hB : PBoth w (w2.alloc (.cells #[.slice none 0 0] 46)) g w2.heap.size [] :=
    PBoth.of (p2.keep ((Kp.refl Non w2).alloc _)) ⟨_, Blk.new _ _ _, Own.nil _ _ _ _, by simp⟩ hgw (K2.size) (fun i hi => by cases hi) (K2.alloc _)
  clear k1 k2 hg p2
  go_wp2_with fail
  generalize w2.alloc (.cells #[.slice none 0 0] 46) = w3 at hB ⊢
  generalize w2.heap.size = gy at hB ⊢
  go_loopw [10] (fun i wr => PPlInv w g gy CS.length i wr) (fun i _ => 61 - (intOf i).toNat)
  case atStart => exact ⟨0, [], rfl, by omega, by omega, hB⟩
  case round =>
    clear hB K2
    obtain ⟨j, l, rfl, hj1, hj2, hB⟩ := hrel
    by_cases hend : j < CS.length ∧ j < 60
    · obtain ⟨he1, he2⟩ := hend
      obtain ⟨kd, x, code, hcs, hkd0, hkd1⟩ := Hel.out CS[j] (List.getElem_mem he1)
      obtain ⟨bb, off, rfl, hcells⟩ : ∃ bb off, A = some ⟨bb, off, none⟩ ∧ ∀ i u, [Value.int .u8 kd, .string x.t, .string x.c, .bool x.b, .int .i64 x.d, .string code][i]? = some u → w.cell? ⟨bb, off + (j * 6 + i), none⟩ = some u := by
        rcases Hc.out with h | ⟨bb, off, hA, h⟩
        · subst h; simp at he1
        · exact ⟨bb, off, hA, fun i u hu => h j _ (List.getElem?_eq_getElem he1) i u (by rw [hcs]; exact hu)⟩
      have K3 := hB.kp
      have c0 := K3.cell (hcells 0 _ rfl) (fun x => x)
      have c1 := K3.cell (hcells 1 _ rfl) (fun x => x)
      have c2 := K3.cell (hcells 2 _ rfl) (fun x => x)
      have c3 := K3.cell (hcells 3 _ rfl) (fun x => x)
      have c4 := K3.cell (hcells 4 _ rfl) (fun x => x)
      have c5 := K3.cell (hcells 5 _ rfl) (fun x => x)
      simp only [Nat.add_zero, ← Nat.add_assoc] at c0 c1 c2 c3 c4 c5
      clear hcells hcs Hc K3
      go_upto_if 51 with fail
      have hA := (Kp.refl Non wr).alloc (.cells #[.int .u8 kd, .string x.t, .string x.c, .bool x.b, .int .i64 x.d, .string code] 30)
      have hO := Blk.new wr #[.int .u8 kd, .string x.t, .string x.c, .bool x.b, .int .i64 x.d, .string code] 30
      have hB4 := hB.keep hA
      generalize wr.alloc (.cells #[.int .u8 kd, .string x.t, .string x.c, .bool x.b, .int .i64 x.d, .string code] 30) = w4 at hA hO hB4 ⊢
      clear hB c0 c1 c2 c3 c4 c5
      have o1 := hO.cell 1
      have o2 := hO.cell 2
      have o3 := hO.cell 3
      have o4 := hO.cell 4
      have o5 := hO.cell 5
      simp at o1 o2 o3 o4 o5
      go_cut [12] (fun _ wc => ∃ l, PBoth w wc g gy l)
      case first =>
        obtain ⟨r, p4, y4, hgg, hgy, hr, ne1, ne2, ne3, K4⟩ := hB4
        have hbw := K4.size
        have hne0 : g ≠ wr.heap.size ∧ gy ≠ wr.heap.size := by
          constructor
          · rintro rfl
            obtain ⟨cs, R, f, b1, _⟩ := p4
            exact absurd (b1.inj hO).2 (by decide)
          · rintro rfl
            obtain ⟨v, b1, _⟩ := y4
            exact absurd (b1.inj hO).2 (by decide)
        by_cases t0 : kd % 8 < 3
        · have tt : decide (kd % 8 < 3) = true := decide_eq_true t0
          go_wp2_with fail
          refine (push_calls g l x _ p4).mono ?_
          rintro e w5 ⟨rfl, p5, k5⟩
          have hO5 := hO.kp k5 (fun h => hne0.1 h.symm)
          have y5 := y4.kp k5 (fun h => ne1 h.symm) (fun i hi h => ne2 (by rw [hi, show i = g from h]))
          have K5 := K4.seqNew k5 (fun i hi => by rw [show i = g from hi]; exact hgg)
          have o1 := hO5.cell 1
          have o2 := hO5.cell 2
          have o3 := hO5.cell 3
          have o4 := hO5.cell 4
          simp at o1 o2 o3 o4
          go_wp2_with fail
          refine (rpush_calls gy r l x _ y5).mono ?_
          rintro e w6 ⟨r6, rfl, y6, n6, k6⟩
          have p6 := p5.kp k6 (fun h => ne1 h)
          have K6 := K5.seqNew k6 (fun i hi => by rw [show i = gy from hi]; exact hgy)
          have hr6 : ∀ i, r6 = some i → w.heap.size ≤ i := fun i hi => by
            rcases n6 i hi with h | h
            · exact hr i h
            · have := K5.size; omega
          go_wp2_with fail
          go_meet
          case rel => exact ⟨_, PBoth.of p6 y6 hgg hgy hr6 K6⟩
        · have tt : decide (kd % 8 < 3) = false := decide_eq_false t0
          go_wp2_with fail
          refine (reply_calls g l p code _ p4).mono ?_
          rintro e w5 ⟨rfl, p5, k5⟩
          have hO5 := hO.kp k5 (fun h => hne0.1 h.symm)
          have y5 := y4.kp k5 (fun h => ne1 h.symm) (fun i hi h => ne2 (by rw [hi, show i = g from h]))
          have K5 := K4.seqNew k5 (fun i hi => by rw [show i = g from hi]; exact hgg)
          generalize hbf : (decide (l ≠ []) && !ahF p code) = bf
          generalize hbo : decide (l ≠ []) = bo
          generalize hx : l.headD Wn.no = xh
          unfold Wn.val
          have k6 := (Kp.refl Non w5).alloc (.cells #[.string xh.t, .string xh.c, .bool xh.b, .int .i64 xh.d] 28)
          have p6 := p5.keep k6
          have y6 := y5.keep k6
          have K6 := K5.seq k6
          have hW6 : WnBlk _ w5.heap.size xh := Blk.new w5 #[.string xh.t, .string xh.c, .bool xh.b, .int .i64 xh.d] 28
          have o5 := (hO5.keep k6).cell 5
          have o5' := hO5.cell 5
          simp at o5 o5'
          have hgy5 := y5.lt
          go_wp2_with fail
          refine (rreply_calls gy r l p code _ y6).mono ?_
          rintro e w7 ⟨r7, rfl, y7, n7, k7⟩
          have p7 := p6.kp k7 (fun h => ne1 h)
          have K7 := K6.seqNew k7 (fun i hi => by rw [show i = gy from hi]; exact hgy)
          have hr7 : ∀ i, r7 = some i → w.heap.size ≤ i := fun i hi => by
            rcases n7 i hi with h | h
            · exact hr i h
            · have := K6.size; omega
          have hW7 : WnBlk w7 w5.heap.size xh := Blk.kp hW6 k7 (fun h => by have : w5.heap.size = gy := h; omega)
          obtain ⟨z0, z1, z2, z3⟩ := hW7.at
          simp only [Nat.zero_add] at z1 z2 z3
          rw [hbf, hbo, hx]
          unfold Wn.val
          have hlt5 := hW7.lt
          have hn1 : ¬ w7.heap.size = w5.heap.size := by omega
          have hn2 : ¬ w5.heap.size = w7.heap.size := by omega
          have k8 := (Kp.refl Non w7).alloc (.cells #[.string xh.t, .string xh.c, .bool xh.b, .int .i64 xh.d] 28)
          have p8 := p7.keep k8
          have y8 := y7.keep k8
          have K8 := K7.seq k8
          have zz0 := k8.cell z0 (fun x => x)
          have zz1 := k8.cell z1 (fun x => x)
          have zz2 := k8.cell z2 (fun x => x)
          have zz3 := k8.cell z3 (fun x => x)
          go_wp2_with fail
          go_meet
          case rel => exact ⟨_, PBoth.of p8 y8 hgg hgy hr7 K8⟩
      case rest =>
        obtain ⟨l, r, p4, y4, hgg, hgy, hr, ne1, ne2, ne3, K4⟩ := hcut
        clear hA hO hB4 o1 o2 o3 o4 o5
        go_wp2_with fail
        refine (head_calls g l _ p4).mono ?_
        rintro e w5 ⟨rfl, k5⟩
        have p5 := p4.keep k5
        have y5 := y4.keep k5
        have K5 := K4.seq k5
        generalize hbo : decide (l ≠ []) = bo
        generalize hx : l.headD Wn.no = xh
        unfold Wn.val
        have k6 := (Kp.refl Non w5).alloc (.cells #[.string xh.t, .string xh.c, .bool xh.b, .int .i64 xh.d] 28)
        have p6 := p5.keep k6
        have y6 := y5.keep k6
        have K6 := K5.seq k6
        have hW6 : WnBlk _ w5.heap.size xh := Blk.new w5 #[.string xh.t, .string xh.c, .bool xh.b, .int .i64 xh.d] 28
        go_wp2_with fail
        refine (rhead_calls gy r l _ y6).mono ?_
        rintro e w7 ⟨rfl, k7⟩
        rw [hbo, hx]
        unfold Wn.val
        have k8 := (Kp.refl Non w7).alloc (.cells #[.string xh.t, .string xh.c, .bool xh.b, .int .i64 xh.d] 28)
        have hW8 : WnBlk _ w5.heap.size xh := Blk.keep (Blk.keep hW6 k7) k8
        have hV8 : WnBlk _ w7.heap.size xh := Blk.new w7 #[.string xh.t, .string xh.c, .bool xh.b, .int .i64 xh.d] 28
        have p8 := (p6.keep k7).keep k8
        have y8 := (y6.keep k7).keep k8
        have K8 := (K6.seq k7).seq k8
        clear k5 k6 k7 p4 p5 p6 y4 y5 y6 K4 K5 K6 hW6
        go_upto_region 21 with fail
        generalize w7.alloc (.cells #[.string xh.t, .string xh.c, .bool xh.b, .int .i64 xh.d] 28) = wb at k8 hW8 hV8 p8 y8 K8 ⊢
        have hd := (Kp.refl Non wb).drew
        obtain ⟨z0, z1, z2, z3⟩ := hW8.at
        obtain ⟨y0, y1, y2, y3⟩ := hV8.at
        simp only [Nat.zero_add] at z1 z2 z3 y1 y2 y3
        have d0 : ∀ w', Kp Non wb.drew w' → w'.cell? ⟨w5.heap.size, 0, none⟩ = some (.string xh.t) := fun w' hk => (hd.seq hk).cell z0 (fun x => x)
        have d1 : ∀ w', Kp Non wb.drew w' → w'.cell? ⟨w5.heap.size, 1, none⟩ = some (.string xh.c) := fun w' hk => (hd.seq hk).cell z1 (fun x => x)
        have d2 : ∀ w', Kp Non wb.drew w' → w'.cell? ⟨w5.heap.size, 2, none⟩ = some (.bool xh.b) := fun w' hk => (hd.seq hk).cell z2 (fun x => x)
        have d3 : ∀ w', Kp Non wb.drew w' → w'.cell? ⟨w5.heap.size, 3, none⟩ = some (.int .i64 xh.d) := fun w' hk => (hd.seq hk).cell z3 (fun x => x)
        have e0 : ∀ w', Kp Non wb.drew w' → w'.cell? ⟨w7.heap.size, 0, none⟩ = some (.string xh.t) := fun w' hk => (hd.seq hk).cell y0 (fun x => x)
        have e1 : ∀ w', Kp Non wb.drew w' → w'.cell? ⟨w7.heap.size, 1, none⟩ = some (.string xh.c) := fun w' hk => (hd.seq hk).cell y1 (fun x => x)
        have e2 : ∀ w', Kp Non wb.drew w' → w'.cell? ⟨w7.heap.size, 2, none⟩ = some (.bool xh.b) := fun w' hk => (hd.seq hk).cell y2 (fun x => x)
        have e3 : ∀ w', Kp Non wb.drew w' → w'.cell? ⟨w7.heap.size, 3, none⟩ = some (.int .i64 xh.d) := fun w' hk => (hd.seq hk).cell y3 (fun x => x)
        have pd := p8.keep hd
        have yd := y8.keep hd
        have yd' := yd
        obtain ⟨vY, hby, oY, _⟩ := yd'
        obtain ⟨AY, cY, rfl, _, _⟩ := oY.form
        have cy := hby.cell 0
        simp at cy
        have f0 : ∀ w', Kp Non wb.drew w' → w'.cell? ⟨gy, 0, none⟩ = some (.slice AY l.length cY) := fun w' hk => hk.cell cy (fun x => x)
        clear hby oY cy
        refine wp_region_seq [(0, true), (1, true), (2, true), (3, true), (4, true), (5, true), (6, true), (7, true), (8, true), (9, true), (11, true), (12, true), (13, true), (14, true), (15, true), (10, false), (16, true), (17, true), (18, true), (19, true), (21, true), (20, false), (22, false), (23, true), (24, true)] 25 Non wide (by kernel_rfl) (fun _ _ _ _ _ h => h) ?_; (try simp only [List.append_eq, List.cons_append, List.nil_append])
        repeat (refine seq_still (v := ?_) rfl rfl (fun wq hq => ?_) ?_; rotate_left; (focus ((simp only [List.getElem_toArray, List.getElem_cons_zero, List.getElem_cons_succ]; go_simp; try with_reducible rfl); done)); simp only [List.getElem_toArray, List.getElem_cons_zero, List.getElem_cons_succ, Act.put, List.setIfInBounds_toArray, List.set_cons_zero, List.set_cons_succ])
        refine seq_step rfl rfl (fun K hK => ?_); simp only [List.getElem_toArray, List.getElem_cons_zero, List.getElem_cons_succ]; go_simp
        refine (len_calls g l _ pd).mono ?_
        rintro e wA ⟨rfl, kA⟩
        refine hK.out _ _ (kA) ?_; clear hK; (try simp only [Act.put, List.setIfInBounds_toArray, List.set_cons_zero, List.set_cons_succ])
        have xA := fun w' (h : Kp Non wA w') => kA.seq h
        repeat (refine seq_still (v := ?_) rfl rfl (fun wq hq => ?_) ?_; rotate_left; (focus ((simp only [List.getElem_toArray, List.getElem_cons_zero, List.getElem_cons_succ]; go_simp; try with_reducible rfl); done)); simp only [List.getElem_toArray, List.getElem_cons_zero, List.getElem_cons_succ, Act.put, List.setIfInBounds_toArray, List.set_cons_zero, List.set_cons_succ])
        refine seq_step rfl rfl (fun K hK => ?_); simp only [List.getElem_toArray, List.getElem_cons_zero, List.getElem_cons_succ]; go_simp
        refine (due_calls g l _ (pd.keep kA)).mono ?_
        rintro e wB ⟨rfl, kB⟩
        refine hK.out _ _ (kB) ?_; clear hK; (try simp only [Act.put, List.setIfInBounds_toArray, List.set_cons_zero, List.set_cons_succ])
        have KB := kA.seq kB
        repeat (refine seq_still (v := ?_) rfl rfl (fun wq hq => ?_) ?_; rotate_left; (focus ((simp only [List.getElem_toArray, List.getElem_cons_zero, List.getElem_cons_succ]; go_simp; try with_reducible rfl); done)); simp only [List.getElem_toArray, List.getElem_cons_zero, List.getElem_cons_succ, Act.put, List.setIfInBounds_toArray, List.set_cons_zero, List.set_cons_succ])
        refine seq_step rfl rfl (fun K hK => ?_); simp only [List.getElem_toArray, List.getElem_cons_zero, List.getElem_cons_succ]; go_simp
        refine (rdue_calls gy r l _ (yd.keep KB)).mono ?_
        rintro e wC ⟨rfl, kC⟩
        refine hK.out _ _ (kC) ?_; clear hK; (try simp only [Act.put, List.setIfInBounds_toArray, List.set_cons_zero, List.set_cons_succ])
        have KC := KB.seq kC
        repeat (refine seq_still (v := ?_) rfl rfl (fun wq hq => ?_) ?_; rotate_left; (focus ((simp only [List.getElem_toArray, List.getElem_cons_zero, List.getElem_cons_succ]; go_simp; try with_reducible rfl); done)); simp only [List.getElem_toArray, List.getElem_cons_zero, List.getElem_cons_succ, Act.put, List.setIfInBounds_toArray, List.set_cons_zero, List.set_cons_succ])
        refine seq_nil ?_
        clear d0 d1 d2 d3 e0 e1 e2 e3 f0 xA
        go_wp2_with fail
        go_roundw
        case rel => exact ⟨j + 1, l, by go_num, by omega, by omega, PBoth.of (pd.keep KC) (yd.keep KC) hgg hgy hr ((K8.seq hd).seq KC)⟩
        case measure => simp [intOf]; omega
    · by_cases he1 : j < CS.length
      all_goals
        have he2 : j < CS.length → ¬ j < 60 := fun h1 h2 => hend ⟨h1, h2⟩
        go_wp2_with fail
        refine (window_calls p a true _).mono ?_
        rintro e w4 ⟨rfl, k4⟩
        go_wp2_with fail
        refine (rwindow_calls p a true _).mono ?_
        rintro e w5 ⟨rfl, k5⟩
        go_wp2_with fail
        refine (window_calls p a false _).mono ?_
        rintro e w6 ⟨rfl, k6⟩
        have e1 : winF p a false = 1 := by simp [winF]
        rw [e1]
        go_wp2_with fail
        go_ret
        exact ⟨rfl, ((hB.kp.seq k4).seq k5).seq k6⟩

end Go.Proofs.Ytpldhdomanikiaa

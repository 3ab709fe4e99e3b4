/- The framer. -/
import Derived.Test.YtghfngnakoccbaaDoorSLaw
import Derived.Test.YtghfngnakoccbaaDoorSPure4
import Derived.Scope
import Derived.WalkMore
import Derived.ScopeJumps
namespace Go.Proofs.YtghfngnakoccbaaDoor
open Go.RowKit
set_option linter.unusedSimpArgs false
set_option linter.unusedVariables false
attribute [local go_sem] max2_of min2_of max_of min_of
attribute [local go_sem] strOf_size strOf_list

theorem infoS : (Tryd.prog.info? 9).map (fun i => (i.zero, i.size, i.bytes)) = some (some (.string { data := #[] }), 1, 16) := by kernel_rfl
def strv (L : List (List UInt8)) : List Value := L.map fun s => Value.string (strOf s)

/-- The frame at the label. -/
def frm (g : Nat) (v lv : Value) (j : Nat) (U : Nat → Value) : Act := { tmps := #[.pointer (some ⟨g, 0, none⟩), v, U 2, U 3, U 4, U 5, lv, .int .i64 j, U 8, U 9, U 10, U 11, U 12, U 13, U 14, U 15, U 16, U 17, U 18, U 19, U 20, U 21, U 22, U 23, U 24, U 25, U 26, U 27, U 28, U 29, U 30, U 31, U 32, U 33, U 34, U 35, U 36, U 37, U 38, U 39, U 40, U 41, U 42, U 43, U 44, U 45, U 46, U 47, U 48, U 49, U 50, U 51, U 52, U 53, U 54, U 55, U 56, U 57, U 58, U 59, U 60, U 61, U 62, U 63, U 64, U 65, U 66, U 67, U 68, U 69, U 70, U 71, U 72, U 73, U 74, U 75, U 76, U 77, U 78, U 79, U 80, U 81, U 82, U 83, U 84, U 85, U 86, U 87, U 88, U 89, U 90, U 91, U 92, U 93, U 94, U 95, U 96, U 97, U 98, U 99, U 100], defers := [] }
def FrJ (w : World) (g : Nat) (v : Value) (T : List UInt8) (ALL : List (List UInt8)) (a' : Act) (w' : World) : Prop :=
  ∃ (lv : Value) (j : Nat) (L out : List (List UInt8)) (cur : List UInt8) (cr : Bool) (rl rc : Option Nat) (cv : Value), a' = frm g v lv j (fun i => a'.tmps.getD i undef) ∧ j ≤ T.length ∧ L ++ out = ALL ∧ good cur cr (T.drop j) out ∧
    Own w' 9 1 lv rl L.length (strv L) ∧ Blk w' g #[cv, .bool cr, .int .i64 2000, .int .i64 0] 49 ∧ Own w' 5 1 cv rc cur.length (byv cur) ∧
    (∀ k, rl = some k → w.heap.size ≤ k) ∧ (∀ k, rc = some k → w.heap.size ≤ k) ∧ L.length ≤ j ∧ cur.length ≤ j ∧ Kp (One g) w w'
def μJ (T : List UInt8) (a' : Act) : Nat := T.length + 1 - (intOf (a'.tmps.getD 7 undef)).toNat

/-- What comes out. -/
def FrP (w : World) (g : Nat) (ALL : List (List UInt8)) (e : Ending) (w' : World) : Prop :=
  ∃ lv rl cv, e = .returned (.tuple #[lv, .int .i64 0]) ∧ Own w' 9 1 lv rl ALL.length (strv ALL) ∧ Blk w' g #[cv, .bool false, .int .i64 2000, .int .i64 0] 49 ∧ (∃ rc, Own w' 5 1 cv rc 0 []) ∧ (∀ k, rl = some k → w.heap.size ≤ k) ∧ Kp (One g) w w'

theorem wp_back {P : Program} {Q : Exit → Act → World → Prop} {a : Act} {w : World} {c X : Code} (l : Nat) (J : Act → World → Prop) (μ : Act → World → Nat) (hf : findLabel c l = some (Code.skip.seq X))
    (first : (∀ a w, J a w → X.wp P (Exit.jump l J Q) a w) → c.wp P (Exit.jump l J Q) a w)
    (key : ∀ a w, J a w → X.wp P (Exit.jump l (fun a' w' => J a' w' ∧ μ a' w' < μ a w) Q) a w) : (Code.scope c).wp P Q a w :=
  wp_scope_jumps l J μ hf (first fun a w hJ => Code.wp_mono (fun e a w h => by cases e <;> first | exact h | exact ⟨h.1, h.2.1⟩) (key a w hJ)) (fun a w hJ => wp_seq (wp_skip (key a w hJ)))

theorem own_apart {w : World} {e1 e2 n1 n2 : Nat} {v1 v2 : Value} {r1 r2 : Option Nat} {l1 l2 : List Value} (h1 : Own w e1 1 v1 r1 n1 l1) (h2 : Own w e2 1 v2 r2 n2 l2) (he : e2 ≠ e1) : ∀ k, r1 = some k → r2 ≠ some k := by
  intro k hk
  rcases h1.2 with ⟨rfl, _⟩ | ⟨g, cap, cur, rfl, _, hb, _⟩
  · cases hk
  · cases hk
    exact h2.ne_blk hb (Ne.symm he)

set_option maxRecDepth 100000 in
set_option maxHeartbeats 8000000 in
theorem fput_calls (g : Nat) (v : Value) (rv : Option Nat) (T : List UInt8) (ALL : List (List UInt8)) (w : World) (h : Blk w g #[.slice none 0 0, .bool false, .int .i64 2000, .int .i64 0] 49) (hv : Rd w v rv (byv T)) (hvg : ∀ k, rv = some k → k ≠ g) (hT : T.length ≤ 1000000) (hgood : good [] false T ALL) :
    Calls Tryd.prog 15 #[.pointer (some ⟨g, 0, none⟩), v] w (FrP w g ALL) := by
  go_enter Tryd.func15, Tryd.ntmps15
  go_wp2
  refine wp_back 0 (FrJ w g v T ALL) (fun a' _ => μJ T a') rfl ?first ?pass
  case first =>
    intro hpass
    go_wp2_with fail
    go_step3
    rename_i hK
    refine hK _ _ (hpass _ _ ?_)
    exact ⟨.slice none 0 0, 0, [], ALL, [], false, none, none, .slice none 0 0, by kernel_rfl, by omega, rfl, by rw [List.drop_zero]; exact hgood, Own.nil _ _ _ _, h, Own.nil _ _ _ _, (fun k hk => by cases hk), (fun k hk => by cases hk), by simp, by simp, Kp.refl _ _⟩
  case pass =>
    rintro a' w' ⟨lv, j, L, out, cur, cr, rl, rc, cv, hfr, hj, hLo, hgd, oL, hB, oC, hrl, hrc, hLj, hcj, hK⟩
    generalize (fun i => a'.tmps.getD i undef) = U at hfr
    subst hfr
    have hme : μJ T (frm g v lv j U) = T.length + 1 - j := by simp [μJ, frm, intOf]
    unfold frm
    clear hme
    have hgl := hB.lt
    have a1 := own_apart oL oC (by decide)
    have hlr := oL.lt
    have hcr := oC.lt
    have hlg : rl ≠ some g := oL.ne_blk hB (by decide)
    have hcg : rc ≠ some g := oC.ne_blk hB (by decide)
    have d0 := hB.cell 0
    have d1 := hB.cell 1
    have d2 := hB.cell 2
    have d3 := hB.cell 3
    have f0 := hB.frozen 0
    have f1 := hB.frozen 1
    simp at d0 d1 d2 d3
    obtain ⟨VA, vc, rfl, _, _, hvx⟩ := hv
    rw [byv_length]
    have hvx := hid hvx
    have HL := hid oL
    have HC := hid oC
    obtain ⟨LA, lc, rfl, _, _⟩ := oL.form
    obtain ⟨CA, cc, rfl, _, _⟩ := oC.form
    have HR := hid (And.intro hLo (And.intro hgd (And.intro hrl (And.intro hrc hK))))
    clear oL oC hLo hgd hrl hrc
    by_cases hje : j = T.length
    · subst hje
      obtain ⟨hLo, hgd, hrl, hrc, hK⟩ := HR.out
      rw [List.drop_length] at hgd
      obtain ⟨rfl, rfl, rfl⟩ : cur = [] ∧ cr = false ∧ out = [] := by cases cr <;> exact hgd
      rw [List.append_nil] at hLo
      have hLo' := hid hLo
      clear hLo hgd hrl hrc hK d1 d2 f0 f1
      go_wp2_with fail
      simp only [Exit.jump]
      go_ret2
      obtain ⟨_, _, hrl, hrc, hK⟩ := HR.out
      have e := hLo'.out
      subst e
      exact ⟨_, rl, _, rfl, HL.out, hB, ⟨rc, HC.out⟩, hrl, hK⟩
    · have hjl : j < T.length := by omega
      have hne : ((j : Int) == (T.length : Int)) = false := by simp; omega
      have htj : (byv T)[j]? = some (.int .u8 (T[j]).toNat) := by rw [byv_get, List.getElem?_eq_getElem hjl]; rfl
      obtain ⟨bk, off, rfl, hcell⟩ : ∃ bk off, VA = some ⟨bk, off, none⟩ ∧ w'.cell? ⟨bk, off + j, none⟩ = some (.int .u8 (T[j]).toNat) := by
        rcases hvx.out with hx | ⟨bk, off, hA, hr, hx⟩
        · rw [hx] at htj; cases htj
        · exact ⟨bk, off, hA, HR.out.2.2.2.2.cell (hx j _ htj) (fun e => hvg _ hr e)⟩
      have hdr : T.drop j = T[j] :: T.drop (j + 1) := List.drop_eq_getElem_cons hjl
      have hgd := HR.out.2.1
      rw [hdr] at hgd
      clear hdr htj
      generalize T[j] = c at hcell hgd
      have hwj : IntKind.i64.wrap ((j : Int) + 1) = (j : Int) + 1 := IntWalk.i64_in _ (by omega)
      cases cr with
      | true =>
        obtain ⟨rfl, o, rfl, hgd⟩ := hgd
        have e10 : (((10 : UInt8).toNat : Int) == 10) = true := rfl
        have sC := HC.out.rd.str 29 5 9 Tryd.underlying29 Tryd.underlying5 Tryd.underlying9
        have kA := hid ((Kp.refl Non w').alloc (.cells #[.string (strOf cur)] 9))
        have oA := hid ((Own.lit w' 9 1 #[.string (strOf cur)] 1 rfl (by simp [maxLen])).rd.src Tryd.underlying22 (by simp [Value.oneCell']))
        have HG := hid hgd
        clear hgd
        go_wp2_with (at_builtin; go_must (refine wpList_append_any rfl _ _ _ _ rfl 9 (.string { data := #[] }) 1 16 Tryd.underlying22 infoS rfl _ rl L.length (strv L) rfl (HL.out.keep kA.out) _ 1 [.string (strOf cur)] rfl oA.out (by omega) (by omega) ?_))
        intro v2 r2 w2 o2 k2 n2
        have hB2 := (hB.keep kA.out).kp k2 hlg
        have g0 := hB2.frozen 0
        have g1 := hB2.frozen 1
        have q0 := hB2.cell 0
        have q1 := hB2.cell 1
        simp at q0 q1
        have H2 := hid (And.intro o2 (And.intro k2 n2))
        obtain ⟨A2, c2, rfl, _, _⟩ := o2.form
        clear o2 k2 n2 sC d0 d1 d2 d3 f0 f1
        go_wp2_with fail
        go_step3
        obtain ⟨hLo, _, hrl, hrc, hK⟩ := HR.out
        obtain ⟨o2, k2, n2⟩ := H2.out
        have hr2 : ∀ k, r2 = some k → w.heap.size ≤ k := fun k hk => (n2 k hk).elim (hrl k) (fun h => by have := kA.out.size; have := hK.size; omega)
        have hgr2 : r2 ≠ some g := o2.ne_blk hB2 (by decide)
        refine ⟨rfl, ⟨.slice A2 (L.length + 1) c2, j + 1, L ++ [cur], o, [], false, r2, none, .slice none 0 0, by kernel_rfl, by omega, by rw [← hLo]; simp, HG.out, ?_, (hB2.set 0 _).set 1 _, Own.nil _ _ _ _, hr2, (fun k hk => by cases hk), by simp; omega, by simp, ?_⟩, ?_⟩
        · have : Own w2 9 1 (.slice A2 (L.length + 1) c2) r2 (L ++ [cur]).length (strv (L ++ [cur])) := by simpa [strv] using o2
          exact this.kp (((Kp.refl (One g) w2).setOne 0 _).setOne 1 _) (fun i hi e => hgr2 (by rw [hi]; cases e; rfl))
        · exact (((hK.seq kA.out).trans k2 (fun i hi => .inr (hrl i hi))).setOne 0 _).setOne 1 _
        · show μJ T _ < μJ T _
          simp [μJ, intOf]
          omega
      | false =>
        by_cases h13 : c = 13
        · subst h13
          have hgd' : good cur true (T.drop (j + 1)) out := by rw [good, if_pos rfl] at hgd; exact hgd
          have e1 : (((13 : UInt8).toNat : Int) == 10) = false := rfl
          have e2 : (((13 : UInt8).toNat : Int) == 13) = true := rfl
          have HG := hid hgd'
          clear hgd hgd'
          go_wp2_with fail
          go_step3
          obtain ⟨hLo, _, hrl, hrc, hK⟩ := HR.out
          refine ⟨rfl, ⟨_, j + 1, L, out, cur, true, rl, rc, _, by kernel_rfl, by omega, hLo, HG.out, HL.out.kp ((Kp.refl (One g) w').setOne 1 _) (fun i hi e => hlg (by rw [hi]; cases e; rfl)), hB.set 1 _, HC.out.kp ((Kp.refl (One g) w').setOne 1 _) (fun i hi e => hcg (by rw [hi]; cases e; rfl)), hrl, hrc, by omega, by omega, hK.setOne 1 _⟩, ?_⟩
          show μJ T _ < μJ T _
          simp [μJ, intOf]
          omega
        · rw [good, if_neg h13] at hgd
          obtain ⟨h10, hlen, hgd⟩ := hgd
          have e1 : ((c.toNat : Int) == 10) = false := by
            have : ¬ c.toNat = 10 := fun h => h10 (UInt8.toNat_inj.1 h)
            simp; omega
          have e2 : ((c.toNat : Int) == 13) = false := by
            have : ¬ c.toNat = 13 := fun h => h13 (UInt8.toNat_inj.1 h)
            simp; omega
          have HG := hid hgd
          have q0 : ∀ wq, Kp Non w'.drew wq → wq.cell? ⟨g, 0, none⟩ = some (.slice CA cur.length cc) := fun wq hk => hk.cell d0 (fun x => x)
          have q2 : ∀ wq, Kp Non w'.drew wq → wq.cell? ⟨g, 2, none⟩ = some (.int .i64 2000) := fun wq hk => hk.cell d2 (fun x => x)
          have hno : decide ((2000 : Int) ≤ cur.length) = false := by simp; omega
          clear hgd h10 h13
          go_wp2_with fail
          refine wp_region_seq [(0, true), (1, true), (2, true), (3, true), (4, true), (5, true), (6, true), (7, true), (8, true), (9, true), (10, true)] 11 Non wide (by kernel_rfl) (fun _ _ _ _ _ h => h) ?_; (try simp only [List.append_eq, List.cons_append, List.nil_append])
          repeat (refine seq_still (v := ?_) rfl rfl (fun wq hq => ?_) ?_; rotate_left; (focus ((simp only [List.getElem_toArray, List.getElem_cons_zero, List.getElem_cons_succ]; go_simp; try with_reducible rfl); done)); simp only [List.getElem_toArray, List.getElem_cons_zero, List.getElem_cons_succ, Act.put, List.setIfInBounds_toArray, List.set_cons_zero, List.set_cons_succ])
          refine seq_nil ?_
          clear q0 q2
          have kA := hid (((Kp.refl Non w').alloc (.cells #[.int .u8 c.toNat] 5)).drew)
          have oA := hid (((Own.lit w' 5 1 #[.int .u8 c.toNat] 1 rfl (by simp [maxLen])).keep (Kp.refl Non _).drew).rd.src Tryd.underlying29 (by simp [Value.oneCell']))
          go_wp2_with (at_builtin; go_must (refine wpList_append_any rfl _ _ _ _ rfl 5 (.int .u8 0) 1 1 Tryd.underlying29 info8 rfl _ rc cur.length (byv cur) rfl (HC.out.keep kA.out) _ 1 (byv [c]) rfl oA.out (by omega) (by omega) ?_))
          intro v2 r2 w2 o2 k2 n2
          have hB2 := (hB.keep kA.out).kp k2 hcg
          have g0 := hB2.frozen 0
          have p0 := hB2.cell 0
          simp at p0
          have H2 := hid (And.intro o2 (And.intro k2 n2))
          obtain ⟨A2, c2, rfl, _, _⟩ := o2.form
          clear o2 k2 n2 d0 d1 d2 d3 f0 f1
          go_wp2_with fail
          go_step3
          obtain ⟨hLo, _, hrl, hrc, hK⟩ := HR.out
          obtain ⟨o2, k2, n2⟩ := H2.out
          have hr2 : ∀ k, r2 = some k → w.heap.size ≤ k := fun k hk => (n2 k hk).elim (hrc k) (fun h => by have := kA.out.size; have := hK.size; omega)
          have hgr2 : r2 ≠ some g := o2.ne_blk hB2 (by decide)
          have oL2 := ((HL.out.keep kA.out).kp k2 (fun i hi e => a1 i hi e))
          refine ⟨rfl, ⟨_, j + 1, L, out, cur ++ [c], false, rl, r2, .slice A2 (cur.length + 1) c2, by kernel_rfl, by omega, hLo, HG.out, oL2.kp ((Kp.refl (One g) w2).setOne 0 _) (fun i hi e => hlg (by rw [hi]; cases e; rfl)), hB2.set 0 _, ?_, hrl, hr2, by omega, by simp; omega, ?_⟩, ?_⟩
          · have : Own w2 5 1 (.slice A2 (cur.length + 1) c2) r2 (cur ++ [c]).length (byv (cur ++ [c])) := by rw [List.length_append, byv_append]; exact o2
            exact this.kp ((Kp.refl (One g) w2).setOne 0 _) (fun i hi e => hgr2 (by rw [hi]; cases e; rfl))
          · exact ((hK.seq kA.out).trans k2 (fun i hi => .inr (hrc i hi))).setOne 0 _
          · show μJ T _ < μJ T _
            simp [μJ, intOf]
            omega

end Go.Proofs.YtghfngnakoccbaaDoor

/- The document's body: a line that it is given. -/
import Derived.Test.YtghfngnakoccbaaDoorSRef2
namespace Go.Proofs.YtghfngnakoccbaaDoor
open Go.RowKit
set_option linter.unusedSimpArgs false
set_option linter.unusedVariables false
attribute [local go_sem] max2_of min2_of max_of min_of
attribute [local go_sem] strOf_size strOf_list

theorem rline_end (g : Nat) (s : List UInt8) (w : World) (hs : s = [46]) :
    Calls Tryd.prog 22 #[.pointer (some ⟨g, 0, none⟩), .string (strOf s)] w fun e w' => e = .returned (.tuple #[.bool true, .int .i64 0]) ∧ Kp Non w w' := by
  have h1 : (s == [46]) = true := by rw [hs]; rfl
  clear hs
  go_enter Tryd.func22, Tryd.ntmps22
  go_wp2
  go_ret2
  exact ⟨rfl, Kp.refl _ _⟩

set_option maxHeartbeats 1000000 in
theorem rline_full (g : Nat) (r : Option Nat) (b : List UInt8) (n : Nat) (m : Int) (s : List UInt8) (w : World) (h : Bod w g r b n m 43) (hs : s ≠ [46]) (hl : s.length ≤ 70368744177000) (hb : b.length ≤ 70368744177000) (hn : n ≤ 70368744177000) (hm : ¬ ((lineF s).length : Int) ≤ m - b.length) :
    Calls Tryd.prog 22 #[.pointer (some ⟨g, 0, none⟩), .string (strOf s)] w fun e w' => e = .returned (.tuple #[.bool false, .int .i64 72]) ∧ Kp Non w w' := by
  have hs1 : (s == [46]) = false := by simpa using hs
  have hne := h.row_ne (by decide)
  clear hs
  obtain ⟨u, h1, h2, h3, h4⟩ := h
  obtain ⟨A, c, rfl, hc1, hc2⟩ := h2.form
  have H2 := hid h2
  have HNE := hid hne
  clear h2 hne
  have c0 := h1.cell 0
  have c1 := h1.cell 1
  have c2 := h1.cell 2
  have f0 := h1.frozen 0
  simp at c0 c1 c2
  have ht := trimF_le s
  have hll := lineF_length s
  go_enter Tryd.func22, Tryd.ntmps22
  go_upto_region 3 with fail
  go_cut [15] (fun cv wc => cv = .bool (pre [46] s) ∧ wc = w)
  case first =>
    cases s with
    | nil =>
      go_wp2_with fail
      go_meet
      case rel => exact ⟨rfl, rfl⟩
    | cons d t =>
      have hix : ∀ h, ((strOf (d :: t))[0]'h).toNat = d.toNat := fun h => rfl
      have hl1 : (0 : Int) < (t.length : Int) + 1 := by omega
      by_cases hd : d = 46
      · subst hd
        have e46 : (((46 : UInt8).toNat : Int) == 46) = true := rfl
        go_wp2_with fail
        go_meet
        case rel => exact ⟨by rw [pre46]; rfl, rfl⟩
      · have e46 : ((d.toNat : Int) == 46) = false := by
          have : ¬ d.toNat = 46 := fun h => hd (UInt8.toNat_inj.1 h)
          simp; omega
        have hd' : (d == 46) = false := by simpa using hd
        have HD := hid hd'
        clear hd hd'
        go_wp2_with fail
        go_meet
        case rel => exact ⟨by rw [pre46, HD.out], rfl⟩
  case rest =>
   obtain ⟨rfl, rfl⟩ := hcut
   have htr : trimF s = if pre [46] s = true then s.tail else s := rfl
   generalize hP : pre [46] s = P at htr ⊢
   go_upto_if 15 with fail
   go_cut [1] (fun sv wd => sv = .string (strOf (trimF s)) ∧ wd = wc)
   case first =>
     cases P with
     | true =>
       have hlen : 1 ≤ s.length := by
         cases s with
         | nil => rw [pre46_nil] at hP; cases hP
         | cons d t => simp
       have hx : (strOf s).extract 1 s.length = strOf s.tail := by rw [strOf_extract, List.take_length, List.drop_one]
       have hl1 : (1 : Int) ≤ s.length := by omega
       have hT := hid htr
       clear htr hP
       go_wp2_with fail
       go_meet
       case rel => exact ⟨by rw [hT.out]; first | rfl | simp, rfl⟩
     | false =>
       have hT := hid htr
       clear htr hP
       go_wp2_with fail
       go_meet
       case rel => exact ⟨by rw [hT.out]; first | rfl | simp, rfl⟩
   case rest =>
    obtain ⟨rfl, rfl⟩ := hcut
    clear htr hP
    have hcr := strOf_crlf s
    have e0 : ∀ w', Kp Non wc.drew w' → w'.cell? ⟨g, 0, none⟩ = some (.slice A b.length c) := fun w' hk => hk.cell c0 (fun x => x)
    have e2 : ∀ w', Kp Non wc.drew w' → w'.cell? ⟨g, 2, none⟩ = some (.int .i64 m) := fun w' hk => hk.cell c2 (fun x => x)
    have hwr : IntKind.i64.wrap (m - (b.length : Int)) = m - (b.length : Int) := IntWalk.i64_in _ (by omega)
    have hwr2 : IntKind.i64.wrap (((trimF s).length : Int) + 2) = ((trimF s).length : Int) + 2 := IntWalk.i64_in _ (by omega)
    have hno : decide (m - (b.length : Int) < ((trimF s).length : Int) + 2) = true := by simp; omega
    have hwn : IntKind.i64.wrap ((n : Int) + 1) = (n : Int) + 1 := IntWalk.i64_in _ (by omega)
    have hcat : ¬ (9223372036854775807 < (trimF s).length + 2) := by omega
    go_wp2
    refine wp_region_seq [(0, true), (1, true), (2, true), (3, true), (4, true), (5, true), (6, true), (7, true), (8, true), (9, true), (10, true), (11, true), (12, true), (13, true)] 14 Non wide (by kernel_rfl) (fun _ _ _ _ _ h => h) ?_; (try simp only [List.append_eq, List.cons_append, List.nil_append])
    repeat (refine seq_still (v := ?_) rfl rfl (fun wq hq => ?_) ?_; rotate_left; (focus ((simp only [List.getElem_toArray, List.getElem_cons_zero, List.getElem_cons_succ]; go_simp; try with_reducible rfl); done)); simp only [List.getElem_toArray, List.getElem_cons_zero, List.getElem_cons_succ, Act.put, List.setIfInBounds_toArray, List.set_cons_zero, List.set_cons_succ])
    refine seq_nil ?_
    clear e0 e2 hwr hwr2 hno
    go_wp2
    go_ret2
    exact ⟨rfl, (Kp.refl _ _).drew⟩

set_option maxHeartbeats 1000000 in
theorem rline_ok (g : Nat) (r : Option Nat) (b : List UInt8) (n : Nat) (m : Int) (s : List UInt8) (w : World) (h : Bod w g r b n m 43) (hs : s ≠ [46]) (hl : s.length ≤ 70368744177000) (hb : b.length ≤ 70368744177000) (hn : n ≤ 70368744177000) (hm : ((lineF s).length : Int) ≤ m - b.length) :
    Calls Tryd.prog 22 #[.pointer (some ⟨g, 0, none⟩), .string (strOf s)] w fun e w' => ∃ r', e = .returned (.tuple #[.bool false, .int .i64 0]) ∧ Bod w' g r' (b ++ lineF s) (n + 1) m 43 ∧ (∀ k, r' = some k → w.heap.size ≤ k) ∧ Kp (One g) w w' := by
  have hs1 : (s == [46]) = false := by simpa using hs
  have hne := h.row_ne (by decide)
  clear hs
  obtain ⟨u, h1, h2, h3, h4⟩ := h
  obtain ⟨A, c, rfl, hc1, hc2⟩ := h2.form
  have H2 := hid h2
  have HNE := hid hne
  clear h2 hne
  have c0 := h1.cell 0
  have c1 := h1.cell 1
  have c2 := h1.cell 2
  have f0 := h1.frozen 0
  simp at c0 c1 c2
  have ht := trimF_le s
  have hll := lineF_length s
  go_enter Tryd.func22, Tryd.ntmps22
  go_upto_region 3 with fail
  go_cut [15] (fun cv wc => cv = .bool (pre [46] s) ∧ wc = w)
  case first =>
    cases s with
    | nil =>
      go_wp2_with fail
      go_meet
      case rel => exact ⟨rfl, rfl⟩
    | cons d t =>
      have hix : ∀ h, ((strOf (d :: t))[0]'h).toNat = d.toNat := fun h => rfl
      have hl1 : (0 : Int) < (t.length : Int) + 1 := by omega
      by_cases hd : d = 46
      · subst hd
        have e46 : (((46 : UInt8).toNat : Int) == 46) = true := rfl
        go_wp2_with fail
        go_meet
        case rel => exact ⟨by rw [pre46]; rfl, rfl⟩
      · have e46 : ((d.toNat : Int) == 46) = false := by
          have : ¬ d.toNat = 46 := fun h => hd (UInt8.toNat_inj.1 h)
          simp; omega
        have hd' : (d == 46) = false := by simpa using hd
        have HD := hid hd'
        clear hd hd'
        go_wp2_with fail
        go_meet
        case rel => exact ⟨by rw [pre46, HD.out], rfl⟩
  case rest =>
   obtain ⟨rfl, rfl⟩ := hcut
   have htr : trimF s = if pre [46] s = true then s.tail else s := rfl
   generalize hP : pre [46] s = P at htr ⊢
   go_upto_if 15 with fail
   go_cut [1] (fun sv wd => sv = .string (strOf (trimF s)) ∧ wd = wc)
   case first =>
     cases P with
     | true =>
       have hlen : 1 ≤ s.length := by
         cases s with
         | nil => rw [pre46_nil] at hP; cases hP
         | cons d t => simp
       have hx : (strOf s).extract 1 s.length = strOf s.tail := by rw [strOf_extract, List.take_length, List.drop_one]
       have hl1 : (1 : Int) ≤ s.length := by omega
       have hT := hid htr
       clear htr hP
       go_wp2_with fail
       go_meet
       case rel => exact ⟨by rw [hT.out]; first | rfl | simp, rfl⟩
     | false =>
       have hT := hid htr
       clear htr hP
       go_wp2_with fail
       go_meet
       case rel => exact ⟨by rw [hT.out]; first | rfl | simp, rfl⟩
   case rest =>
    obtain ⟨rfl, rfl⟩ := hcut
    clear htr hP
    have hcr := strOf_crlf s
    have e0 : ∀ w', Kp Non wc.drew w' → w'.cell? ⟨g, 0, none⟩ = some (.slice A b.length c) := fun w' hk => hk.cell c0 (fun x => x)
    have e2 : ∀ w', Kp Non wc.drew w' → w'.cell? ⟨g, 2, none⟩ = some (.int .i64 m) := fun w' hk => hk.cell c2 (fun x => x)
    have hwr : IntKind.i64.wrap (m - (b.length : Int)) = m - (b.length : Int) := IntWalk.i64_in _ (by omega)
    have hwr2 : IntKind.i64.wrap (((trimF s).length : Int) + 2) = ((trimF s).length : Int) + 2 := IntWalk.i64_in _ (by omega)
    have hno : decide (m - (b.length : Int) < ((trimF s).length : Int) + 2) = false := by simp; omega
    have hwn : IntKind.i64.wrap ((n : Int) + 1) = (n : Int) + 1 := IntWalk.i64_in _ (by omega)
    have hcat : ¬ (9223372036854775807 < (trimF s).length + 2) := by omega
    go_wp2
    refine wp_region_seq [(0, true), (1, true), (2, true), (3, true), (4, true), (5, true), (6, true), (7, true), (8, true), (9, true), (10, true), (11, true), (12, true), (13, true)] 14 Non wide (by kernel_rfl) (fun _ _ _ _ _ h => h) ?_; (try simp only [List.append_eq, List.cons_append, List.nil_append])
    repeat (refine seq_still (v := ?_) rfl rfl (fun wq hq => ?_) ?_; rotate_left; (focus ((simp only [List.getElem_toArray, List.getElem_cons_zero, List.getElem_cons_succ]; go_simp; try with_reducible rfl); done)); simp only [List.getElem_toArray, List.getElem_cons_zero, List.getElem_cons_succ, Act.put, List.setIfInBounds_toArray, List.set_cons_zero, List.set_cons_succ])
    refine seq_nil ?_
    clear e0 e2 hwr hwr2 hno
    have kA := hid (((Kp.refl Non wc).alloc (.cells #[] 5)).drew)
    have oA := hid ((Own.lit wc 5 1 #[] 0 rfl (by simp [maxLen])).keep (Kp.refl Non _).drew)
    have d0 : (wc.alloc (.cells #[] 5)).cell? ⟨g, 0, none⟩ = some (.slice A b.length c) := kA.out.cell c0 (fun x => x)
    have hS := (H2.out.keep kA.out).rd.src Tryd.underlying29 (byv_one _)
    rw [byv_length] at hS
    have HSS := hid hS
    clear hS
    go_wp2_with (at_builtin; go_must (refine wpList_append_any rfl _ _ _ _ rfl 5 (.int .u8 0) 1 1 Tryd.underlying29 info8 rfl _ (some wc.heap.size) 0 [] rfl oA.out _ b.length (byv b) rfl HSS.out (by omega) (by omega) ?_))
    intro v1 r1 w1 o1 k1 n1
    have o1' : Own w1 5 1 v1 r1 b.length (byv b) := by simpa using o1
    have hn1 : ∀ k, r1 = some k → wc.heap.size ≤ k := fun k hk => (n1 k hk).elim (fun h => by cases h; exact Nat.le_refl _) (fun h => by have := kA.out.size; omega)
    have K1 : Kp Non wc w1 := kA.out.trans k1 (fun i hi => .inr (by cases hi; exact Nat.le_refl _))
    have HO1 := hid o1'
    obtain ⟨A1, d1, rfl, _, _⟩ := o1'.form
    have HN1 := hid hn1
    have HK1 := hid K1
    clear o1 o1' k1 n1 hn1 K1 d0
    have hsrc := hid (Src.ofString (P := Tryd.prog) w1 Tryd.underlying9 (strOf (lineF s)))
    go_wp2_with (at_builtin; go_must (refine wpList_append_any rfl _ _ _ _ rfl 5 (.int .u8 0) 1 1 Tryd.underlying29 info8 rfl _ r1 b.length (byv b) rfl ?ho _ (lineF s).length (byv (lineF s)) rfl ?hs (by omega) (by omega) ?_))
    case ho => exact HO1.out
    case hs => exact hsrc.out
    intro v2 r2 w2 o2 k2 n2
    have hgr : r1 ≠ some g := fun e => by have := HN1.out g e; have := h1.lt; omega
    have hg2 : Blk w2 g _ _ := (h1.keep HK1.out).kp k2 hgr
    have c3 := hg2.cell 0
    have c4 := hg2.cell 1
    have f3 := hg2.frozen 0
    have f4 := hg2.frozen 1
    simp at c3 c4
    obtain ⟨A2, d2, rfl, _, _⟩ := o2.form
    have HO2 := hid (And.intro o2 (And.intro k2 n2))
    clear o2 k2 n2 hsrc
    go_wp2_with fail
    go_ret2
    obtain ⟨o2, k2, n2⟩ := HO2.out
    have hr2 : ∀ k, r2 = some k → wc.heap.size ≤ k := fun k hk => (n2 k hk).elim (HN1.out k) (fun h => Nat.le_trans HK1.out.size h)
    refine ⟨r2, rfl, ⟨_, (hg2.set 0 _).set 1 _, ?_, h3, h4⟩, hr2, ?_⟩
    · rw [byv_append, List.length_append, hll]
      exact o2.kp (((Kp.refl (One g) w2).setOne 0 _).setOne 1 _) (fun i hi hig => by cases hig; have := hr2 _ hi; have := h1.lt; omega)
    · exact ((((HK1.out.any).trans k2 (fun i hi => .inr (HN1.out i hi))).setOne 0 _).setOne 1 _)

theorem rbo_new {w0 : World} (most : Int) (w : World) (hm : most ≤ 9223372036854775807) (K : Kp Non w0 w) :
    Calls Tryd.prog 19 #[.int .i64 most] w fun e w' => ∃ g, e = .returned (.pointer (some ⟨g, 0, none⟩)) ∧ w.heap.size ≤ g ∧ Bo 43 w0 w' g [] 0 (max most 0) := by
  refine (rbnew_calls most w hm).mono ?_
  rintro e w1 ⟨rfl, h, k⟩
  exact ⟨_, rfl, Nat.le_refl _, none, h, K.size, (fun i hi => by cases hi), K.seq k⟩
/-- Both bodies, apart in memory. -/
def Two2 (w0 w : World) (g h : Nat) (b : List UInt8) (n : Nat) (m : Int) : Prop :=
  ∃ r s, Bod w g r b n m 46 ∧ Bod w h s b n m 43 ∧ w0.heap.size ≤ g ∧ w0.heap.size ≤ h ∧ (∀ i, r = some i → w0.heap.size ≤ i) ∧ (∀ i, s = some i → w0.heap.size ≤ i) ∧ (∀ i, r = some i → s ≠ some i) ∧ Kp Non w0 w

theorem two_ne {w : World} {g h : Nat} {b : List UInt8} {n : Nat} {m : Int} {r s : Option Nat} (h1 : Bod w g r b n m 46) (h2 : Bod w h s b n m 43) : g ≠ h ∧ r ≠ some h ∧ s ≠ some g ∧ r ≠ some g ∧ s ≠ some h := by
  have e1 := h1.row_ne (by decide)
  have e2 := h2.row_ne (by decide)
  obtain ⟨u, b1, o1, _⟩ := h1
  obtain ⟨v, b2, o2, _⟩ := h2
  refine ⟨?_, o1.ne_blk b2 (by decide), o2.ne_blk b1 (by decide), e1, e2⟩
  rintro rfl
  exact absurd (b1.inj b2).2 (by decide)

theorem two_line {w0 : World} {g h n : Nat} {b : List UInt8} {m : Int} (s : List UInt8) (w : World) (hT : Two2 w0 w g h b n m) (hs : s.length ≤ 35184372088832) (hb : b.length ≤ 35184372088832) (hn : n ≤ 35184372088832) :
    Calls Tryd.prog 10 #[.pointer (some ⟨g, 0, none⟩), .string (strOf s)] w fun e w' => e = .returned (.tuple #[.bool (lnEnd s), .int .i64 (lnE b s m)]) ∧
      Calls Tryd.prog 22 #[.pointer (some ⟨h, 0, none⟩), .string (strOf s)] w' fun e w2 => e = .returned (.tuple #[.bool (lnEnd s), .int .i64 (lnE b s m)]) ∧ Two2 w0 w2 g h (lnB b s m) (lnN b s m n) m := by
  obtain ⟨r, q, h1, h2, h3, h4, h5, h6, h7, h8⟩ := hT
  obtain ⟨n1, n2, n3, n4, n5⟩ := two_ne h1 h2
  have hrl := h1.row_lt
  have hql := h2.row_lt
  unfold lnE lnB lnN
  by_cases he : s = [46]
  · rw [show lnEnd s = true by simp [lnEnd, he]]
    refine (bline_end g s w he).mono ?_
    rintro e w1 ⟨rfl, k⟩
    refine ⟨rfl, (rline_end h s w1 he).mono ?_⟩
    rintro e w2 ⟨rfl, k2⟩
    exact ⟨rfl, r, q, (h1.keep k).keep k2, (h2.keep k).keep k2, h3, h4, h5, h6, h7, (h8.seq k).seq k2⟩
  · rw [show lnEnd s = false by simp [lnEnd, he]]
    by_cases hf : ((lineF s).length : Int) ≤ m - b.length
    · rw [show lnFits b s m = true by simp [lnFits, hf]]
      refine (bline_ok g r b n m s w h1 he (by omega) (by omega) (by omega) hf).mono ?_
      rintro e w1 ⟨r1, rfl, b1, c1, k1⟩
      have h2' : Bod w1 h q b n m 43 := h2.kp k1 (fun hh => by
        rcases hh with hh | hh
        · exact n1 hh.symm
        · exact n2 hh) (fun i hi hh => by
        rcases hh with hh | hh
        · cases hh; exact n3 hi
        · exact h7 i hh hi)
      refine ⟨rfl, (rline_ok h q b n m s w1 h2' he (by omega) (by omega) (by omega) hf).mono ?_⟩
      rintro e w2 ⟨q2, rfl, b2, c2, k2⟩
      have hr1l := b1.row_lt
      obtain ⟨_, hr1h, _⟩ : True ∧ r1 ≠ some h ∧ True := by
        obtain ⟨_, _, o1, _⟩ := b1
        obtain ⟨_, bb, _⟩ := h2'
        exact ⟨trivial, o1.ne_blk bb (by decide), trivial⟩
      refine ⟨rfl, r1, q2, b1.kp k2 (fun hh => n1 hh) (fun i hi hh => by cases hh; exact hr1h hi), b2, h3, h4, ?_, ?_, ?_, ?_⟩
      · exact fun i hi => (c1 i hi).elim (h5 i) (fun hh => Nat.le_trans h8.size hh)
      · exact fun i hi => Nat.le_trans (Nat.le_trans h8.size k1.size) (c2 i hi)
      · intro i hi hq
        have := c2 i hq
        have := hr1l i hi
        omega
      · exact (h8.trans k1 (fun i hi => .inr (by
          rcases hi with hi | hi
          · cases hi; exact h3
          · exact h5 i hi))).trans k2 (fun i hi => .inr (by cases hi; exact h4))
    · rw [show lnFits b s m = false by simp [lnFits, hf]]
      refine (bline_full g r b n m s w h1 he (by omega) (by omega) hf).mono ?_
      rintro e w1 ⟨rfl, k⟩
      refine ⟨rfl, (rline_full h q b n m s w1 (h2.keep k) he (by omega) (by omega) (by omega) hf).mono ?_⟩
      rintro e w2 ⟨rfl, k2⟩
      exact ⟨rfl, r, q, (h1.keep k).keep k2, (h2.keep k).keep k2, h3, h4, h5, h6, h7, (h8.seq k).seq k2⟩

end Go.Proofs.YtghfngnakoccbaaDoor

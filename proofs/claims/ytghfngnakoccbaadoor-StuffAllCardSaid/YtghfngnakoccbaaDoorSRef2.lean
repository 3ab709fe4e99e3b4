/- The document's Put. -/
import Derived.Test.YtghfngnakoccbaaDoorSRef
namespace Go.Proofs.YtghfngnakoccbaaDoor
open Go.RowKit
set_option linter.unusedSimpArgs false
set_option linter.unusedVariables false
attribute [local go_sem] max2_of min2_of max_of min_of
attribute [local go_sem] strOf_size strOf_list

def RPInv (w2 : World) (W : List UInt8) (ov iv : Value) (wr : World) : Prop :=
  ∃ (j : Nat) (O : List UInt8) (ro : Option Nat), iv = .int .i64 j ∧ j ≤ W.length ∧ O.length ≤ 2 * j ∧ Own wr 5 1 ov ro O.length (byv O) ∧ O ++ stf (bgP (W.take j)) (crP (W.take j)) (W.drop j) = stf true false W ∧ (∀ k, ro = some k → w2.heap.size ≤ k) ∧ Kp Non w2 wr

set_option maxRecDepth 100000 in
set_option maxHeartbeats 1000000 in
theorem rput_calls (v : Value) (r : Option Nat) (l : List UInt8) (w : World) (h : Rd w v r (byv l)) (hl : l.length ≤ 1000000) :
    Calls Tryd.prog 20 #[v] w fun e w' => ∃ v1 r1, e = .returned v1 ∧ Own w' 5 1 v1 r1 (putF l).length (byv (putF l)) ∧ (∀ k, r1 = some k → w.heap.size ≤ k) ∧ Kp Non w w' := by
  go_enter Tryd.func20, Tryd.ntmps20
  go_wp2_with fail
  refine (rwhole_calls v r l w h (by omega)).mono ?_
  rintro e w1 ⟨v1, r1, rfl, o1, n1, k1⟩
  have hput := putF_eq l
  have hlW := wholeF_le l
  generalize wholeF l = W at o1 hput hlW
  have HP := hid hput
  clear hput
  have HO := hid o1
  obtain ⟨c1, d1, rfl, _, _⟩ := o1.form
  have hx := o1.rd
  obtain ⟨A', c', he, _, _, hx⟩ := hx
  simp only [Value.slice.injEq] at he
  obtain ⟨rfl, hbl, rfl⟩ := he
  clear hbl
  have Hx := hid hx
  clear o1 hx
  have hE := (Kp.refl Non w1).alloc (.cells #[] 5)
  have oE := Own.lit w1 5 1 #[] 0 rfl (by simp [maxLen])
  have HE := hid oE
  have K1 := k1
  clear oE
  go_wp2_with fail
  go_loopw [4, 5] (fun ov iv wr => RPInv w1 W ov iv wr) (fun _ iv _ => W.length - (intOf iv).toNat)
  case atStart => exact ⟨0, [], some w1.heap.size, rfl, by omega, by simp, HE.out, by rw [List.drop_zero]; rfl, (fun k hk => by cases hk; exact Nat.le_refl _), hE⟩
  case round =>
    rename_i wr _
    obtain ⟨j, O, ro, rfl, hj, hO, hown, heq, hro, hK⟩ := hrel
    by_cases hlt : j < W.length
    · have htj : (byv W)[j]? = some (.int .u8 (W[j]).toNat) := by rw [byv_get, List.getElem?_eq_getElem hlt]; rfl
      obtain ⟨bk, off, rfl, hcell⟩ : ∃ bk off, c1 = some ⟨bk, off, none⟩ ∧ w1.cell? ⟨bk, off + j, none⟩ = some (.int .u8 (W[j]).toNat) := by
        rcases Hx.out with hx | ⟨bk, off, hA, _, hx⟩
        · rw [hx] at htj; cases htj
        · exact ⟨bk, off, hA, hx j _ htj⟩
      obtain ⟨V, hV, hVr⟩ := ((HO.out.keep hK).rd).slice_h Tryd.underlying29 size8 (j : Int) j rfl (by rw [byv_length]; omega)
      rw [byv_take] at hVr
      have hdr : W.drop j = W[j] :: W.drop (j + 1) := List.drop_eq_getElem_cons hlt
      have htk : W.take (j + 1) = W.take j ++ [W[j]] := by rw [List.take_add_one, List.getElem?_eq_getElem hlt]; rfl
      have hb1 := bgP_snoc (W.take j) W[j]
      have hc1 := crP_snoc (W.take j) W[j]
      rw [← htk] at hb1 hc1
      rw [hdr, stf, ← hb1, ← hc1] at heq
      clear hb1 hc1 hdr htk htj
      have hbg : bgP (W.take j) = (decide (j = 0) || suf [13, 10] (W.take j)) := by
        unfold bgP
        congr 1
        by_cases h0 : j = 0
        · subst h0; rfl
        · rw [decide_eq_false h0]
          refine decide_eq_false fun e => ?_
          have := congrArg List.length e
          rw [List.length_take, List.length_nil] at this
          omega
      have HH := hid (And.intro hcell (And.intro hown (And.intro heq (And.intro hro (And.intro hK hbg)))))
      clear hcell hown heq hro hK hbg
      have HVr := hid hVr
      clear hVr
      go_wp2_with fail
      refine (ends_calls V r1 (W.take j) _ HVr.out).mono ?_
      rintro e w3 ⟨rfl, k3⟩
      obtain ⟨hcell, hown, heq, hro, hK, hbg⟩ := HH.out
      have hK3 := hK.seq k3
      have hcell3 := hK3.cell hcell (fun x => x)
      have hown3 := hown.keep k3
      obtain ⟨cO, dO, rfl, _, _⟩ := hown3.form
      have HO3 := hid hown3
      have HR := hid (And.intro hro (And.intro hK3 hcell))
      have HQ := hid heq
      clear hV hcell hown hK hown3 HH hro hK3 k3 heq
      generalize hcd : W[j] = c at hcell3 HQ HR
      clear hcd
      have hz : ((j : Int) == 0) = decide (j = 0) := by by_cases h : j = 0 <;> simp [h]
      generalize suf [13, 10] (W.take j) = sf at hbg ⊢
      generalize hD : (bgP (W.take j) && c == 46) = D at HQ
      go_upto_region 7 with fail
      go_cut [31] (fun cv wc => cv = .bool D ∧ wc = w3)
      case first =>
        by_cases hc : c = 46
        · subst hc
          have e46 : (((46 : UInt8).toNat : Int) == 46) = true := rfl
          have hD' : D = (decide (j = 0) || sf) := by rw [← hD, hbg]; simp
          clear hD hbg
          by_cases h0 : j = 0
          · rw [decide_eq_true h0] at hz hD'
            have HD := hid hD'
            clear hD' h0
            go_wp2_with fail
            go_meet
            case rel => exact ⟨by rw [HD.out]; simp, rfl⟩
          · rw [decide_eq_false h0] at hz hD'
            have HD := hid hD'
            clear hD' h0
            go_wp2_with fail
            go_meet
            case rel => exact ⟨by rw [HD.out]; simp, rfl⟩
        · have hc' : (c == 46) = false := by simpa using hc
          have hD' : D = false := by rw [← hD, hc']; simp
          have e46 : ((c.toNat : Int) == 46) = false := by
            have : ¬ c.toNat = 46 := fun h => hc (UInt8.toNat_inj.1 h)
            simp; omega
          have HD := hid hD'
          clear hD hbg hc hc' hD'
          go_wp2_with fail
          go_meet
          case rel => exact ⟨by rw [HD.out], rfl⟩
      case rest =>
       obtain ⟨rfl, rfl⟩ := hcut
       have kA := hid ((Kp.refl Non wc).alloc (.cells #[.int .u8 46] 5))
       have oA := hid (Own.lit wc 5 1 #[.int .u8 46] 1 rfl (by simp [maxLen]))
       clear hz hbg hD
       go_upto_if 31 with fail
       go_cut [4] (fun ov wd => ∃ (O' : List UInt8) (r' : Option Nat), O' = O ++ (if D = true then [46] else []) ∧ Own wd 5 1 ov r' O'.length (byv O') ∧ (∀ k, r' = some k → w1.heap.size ≤ k) ∧ Kp Non w1 wd)
       case first =>
         cases D with
         | true =>
           go_wp2_with (at_builtin; go_must (refine wpList_append_any rfl _ _ _ _ rfl 5 (.int .u8 0) 1 1 Tryd.underlying29 info8 rfl _ ro O.length (byv O) rfl (HO3.out.keep kA.out) _ 1 (byv [46]) rfl (oA.out.rd.src Tryd.underlying29 (by simp [Value.oneCell'])) (by omega) (by omega) ?_))
           intro v4 r4 w4 o4 k4 n4
           have H4 := hid (And.intro o4 (And.intro k4 n4))
           clear o4 k4 n4
           go_wp2_with fail
           go_meet
           case rel =>
             obtain ⟨o4, k4, n4⟩ := H4.out
             obtain ⟨hro, hK3, _⟩ := HR.out
             exact ⟨O ++ [46], r4, rfl, by rw [List.length_append, byv_append]; exact o4, fun k hk => (n4 k hk).elim (hro k) (fun h => by have := kA.out.size; have := hK3.size; omega), (hK3.seq kA.out).trans k4 (fun i hi => .inr (hro i hi))⟩
         | false =>
           go_wp2_with fail
           go_meet
           case rel => exact ⟨O, ro, by simp, HO3.out, HR.out.1, HR.out.2.1⟩
       case rest =>
         obtain ⟨O', r', hO', o4, hr', hK4⟩ := hcut
         have hl4 : O'.length ≤ 2 * j + 1 := by
           rw [hO', List.length_append]
           split <;> simp <;> omega
         have hc4 := hK4.cell HR.out.2.2 (fun x => x)
         have H4 := hid (And.intro o4 (And.intro hr' hK4))
         have HO' := hid hO'
         obtain ⟨c4, d4, rfl, _, _⟩ := o4.form
         have kA := hid ((Kp.refl Non wc).alloc (.cells #[.int .u8 c.toNat] 5))
         have oA := hid (Own.lit wc 5 1 #[.int .u8 c.toNat] 1 rfl (by simp [maxLen]))
         clear o4 hr' hK4 hcell3 hO'
         go_wp2_with (at_builtin; go_must (refine wpList_append_any rfl _ _ _ _ rfl 5 (.int .u8 0) 1 1 Tryd.underlying29 info8 rfl _ r' O'.length (byv O') rfl (H4.out.1.keep kA.out) _ 1 (byv [c]) rfl (oA.out.rd.src Tryd.underlying29 (by simp [Value.oneCell'])) (by omega) (by omega) ?_))
         intro v5 r5 w5 o5 k5 n5
         have H5 := hid (And.intro o5 (And.intro k5 n5))
         clear o5 k5 n5
         go_wp2_with fail
         go_roundw
         case rel =>
           obtain ⟨o4, hr', hK4⟩ := H4.out
           obtain ⟨o5, k5, n5⟩ := H5.out
           refine ⟨j + 1, O' ++ [c], r5, by go_num, by omega, by simp; omega, by rw [List.length_append, byv_append]; exact o5, ?_, fun k hk => (n5 k hk).elim (hr' k) (fun h => by have := kA.out.size; have := hK4.size; omega), (hK4.seq kA.out).trans k5 (fun i hi => .inr (hr' i hi))⟩
           rw [← HQ.out, HO'.out]
           split <;> simp
         case measure => simp [intOf]; omega
    · obtain rfl : j = W.length := by omega
      rw [List.drop_length] at heq
      have hOW : O = stf true false W := by simpa [stf] using heq
      have HH := hid (And.intro hown (And.intro hro hK))
      obtain ⟨cO, dO, rfl, _, _⟩ := hown.form
      have kA := hid ((Kp.refl Non wr).alloc (.cells #[.int .u8 46, .int .u8 13, .int .u8 10] 5))
      have oA := hid (Own.lit wr 5 1 #[.int .u8 46, .int .u8 13, .int .u8 10] 3 rfl (by simp [maxLen]))
      have HOW := hid hOW
      clear hown hro hK heq hOW
      go_wp2_with (at_builtin; go_must (refine wpList_append_any rfl _ _ _ _ rfl 5 (.int .u8 0) 1 1 Tryd.underlying29 info8 rfl _ ro O.length (byv O) rfl (HH.out.1.keep kA.out) _ 3 (byv [46, 13, 10]) rfl (oA.out.rd.src Tryd.underlying29 (by simp [Value.oneCell'])) (by omega) (by omega) ?_))
      intro v5 r5 w5 o5 k5 n5
      have H5 := hid (And.intro o5 (And.intro k5 n5))
      obtain ⟨c5, d5, rfl, _, _⟩ := o5.form
      clear o5 k5 n5
      go_wp2_with fail
      go_ret
      obtain ⟨hown, hro, hK⟩ := HH.out
      obtain ⟨o5, k5, n5⟩ := H5.out
      refine ⟨_, r5, rfl, ?_, fun k hk => (n5 k hk).elim (fun h => Nat.le_trans K1.size (hro k h)) (fun h => by have := kA.out.size; have := hK.size; have := K1.size; omega), ((K1.seq hK).seq kA.out).trans k5 (fun i hi => .inr (Nat.le_trans K1.size (hro i hi)))⟩
      rw [HP.out, ← HOW.out, List.length_append, byv_append]
      exact o5

end Go.Proofs.YtghfngnakoccbaaDoor

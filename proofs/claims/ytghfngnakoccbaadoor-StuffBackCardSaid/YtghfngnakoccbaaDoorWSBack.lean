/- The walk of StuffBack: it answers true and writes nothing that was there. -/
import Derived.Test.YtghfngnakoccbaaDoorStuff7
namespace Go.Proofs.YtghfngnakoccbaaDoor
open Go.RowKit
set_option linter.unusedSimpArgs false
set_option linter.unusedVariables false
attribute [local go_sem] max2_of min2_of max_of min_of
attribute [local go_sem] strOf_size strOf_list

theorem fnew_calls (w : World) :
    Calls Tryd.prog 14 #[.int .i64 2000] w fun e w' => e = .returned (.pointer (some ⟨w.heap.size, 0, none⟩)) ∧ Blk w' w.heap.size #[.slice none 0 0, .bool false, .int .i64 2000, .int .i64 0] 49 ∧ Kp Non w w' := by
  go_enter Tryd.func14, Tryd.ntmps14
  go_wp2
  go_ret
  exact ⟨rfl, Blk.new w _ _, (Kp.refl Non w).alloc _⟩
theorem frest_calls (g : Nat) (cv : Value) (rc : Option Nat) (w : World) (h : Blk w g #[cv, .bool false, .int .i64 2000, .int .i64 0] 49) (hc : Own w 5 1 cv rc 0 []) :
    Calls Tryd.prog 17 #[.pointer (some ⟨g, 0, none⟩)] w fun e w' => e = .returned (.int .i64 0) ∧ Kp Non w w' := by
  obtain ⟨A, c, rfl, _, _⟩ := hc.form
  have c0 := h.cell 0
  have c1 := h.cell 1
  simp at c0 c1
  go_enter Tryd.func17, Tryd.ntmps17
  go_wp2
  go_ret
  exact ⟨rfl, Kp.refl _ _⟩

theorem pF_snoc (b : List UInt8) (c : UInt8) : pF (b ++ [c]) = pF b ++ (if c = 13 ∨ c = 10 then [13, 10] else [c]) := by simp [pF]

def BkInv (w1 : World) (b : List UInt8) (pv iv : Value) (wr : World) : Prop :=
  ∃ (j : Nat) (r : Option Nat), iv = .int .i64 j ∧ j ≤ b.length ∧ Own wr 5 1 pv r (pF (b.take j)).length (byv (pF (b.take j))) ∧ (∀ k, r = some k → w1.heap.size ≤ k) ∧ Kp Non w1 wr
def BkInv2 (wL : World) (x : Nat) (ls : List (List UInt8)) (iv : Value) (wr : World) : Prop :=
  ∃ (j : Nat) (r : Option Nat), iv = .int .i64 j ∧ j ≤ ls.length + 1 ∧ Bod wr x r (ends (ls.take j)) (min j ls.length) 2000 46 ∧ (∀ k, r = some k → wL.heap.size ≤ k) ∧ Kp (One x) wL wr

set_option maxRecDepth 100000 in
set_option maxHeartbeats 4000000 in
theorem sback_walk (v : Value) (r : Option Nat) (l0 : List UInt8) (mx : Int) (w : World) (hv : Rd w v r (byv l0)) (hm : w.cell? ⟨1, 0, none⟩ = some (.int .i64 mx)) :
    Calls Tryd.prog 4 #[v] w fun e w' => e = .returned (.bool true) ∧ Kp Non w w' := by
  go_enter Tryd.func4, Tryd.ntmps4
  go_wp2_with fail
  refine (shown_calls mx _ hm).mono ?_
  rintro e w1 ⟨rfl, k1⟩
  go_wp2_with fail
  refine (short_calls v r l0 _ (hv.keep k1)).mono ?_
  rintro e w2 ⟨V, rfl, hV, k2⟩
  have hl6 : (l0.take 600).length ≤ 600 := by simp; omega
  generalize l0.take 600 = b at hV hl6
  have K2 := k1.seq k2
  clear k1 k2 hv
  obtain ⟨VA, vc, rfl, _, _, hvx⟩ := hV
  rw [byv_length]
  have Hvx := hid hvx
  clear hvx
  have hE := (Kp.refl Non w2).alloc (.cells #[] 5)
  have oE := hid (Own.lit w2 5 1 #[] 0 rfl (by simp [maxLen]))
  go_wp2_with fail
  go_loopw [4, 5] (fun pv iv wr => BkInv w2 b pv iv wr) (fun _ iv _ => b.length - (intOf iv).toNat)
  case atStart => exact ⟨0, some w2.heap.size, rfl, by omega, oE.out, (fun k hk => by cases hk; exact Nat.le_refl _), hE⟩
  case round =>
    clear hE oE
    rename_i wr _
    obtain ⟨j, rp, rfl, hj, hown, hrp, hK⟩ := hrel
    have hpl := pF_le (b.take j)
    rw [List.length_take, Nat.min_eq_left hj] at hpl
    by_cases hlt : j < b.length
    · have htj : (byv b)[j]? = some (.int .u8 (b[j]).toNat) := by rw [byv_get, List.getElem?_eq_getElem hlt]; rfl
      obtain ⟨bk, off, rfl, hcell⟩ : ∃ bk off, VA = some ⟨bk, off, none⟩ ∧ wr.cell? ⟨bk, off + j, none⟩ = some (.int .u8 (b[j]).toNat) := by
        rcases Hvx.out with hx | ⟨bk, off, hA, _, hx⟩
        · rw [hx] at htj; cases htj
        · exact ⟨bk, off, hA, hK.cell (hx j _ htj) (fun x => x)⟩
      have htk : b.take (j + 1) = b.take j ++ [b[j]] := by rw [List.take_add_one, List.getElem?_eq_getElem hlt]; rfl
      have hps : pF (b.take (j + 1)) = pF (b.take j) ++ (if b[j] = 13 ∨ b[j] = 10 then [13, 10] else [b[j]]) := by rw [htk, pF_snoc]
      have HP := hid hps
      clear htk hps htj
      generalize b[j] = c at hcell HP
      generalize pF (b.take j) = P at hown hpl HP
      have HO := hid hown
      obtain ⟨PA, pc, rfl, _, _⟩ := hown.form
      have HR := hid (And.intro hrp hK)
      clear hown hrp hK
      by_cases hc : c = 13 ∨ c = 10
      · have kA := hid ((Kp.refl Non wr).alloc (.cells #[.int .u8 13, .int .u8 10] 5))
        have oA := hid ((Own.lit wr 5 1 #[.int .u8 13, .int .u8 10] 2 rfl (by simp [maxLen])).rd.src Tryd.underlying29 (by simp [Value.oneCell']))
        have hc' : c = 13 ∨ (¬ c = 13 ∧ c = 10) := by
          by_cases h : c = 13
          · exact .inl h
          · exact .inr ⟨h, hc.resolve_left h⟩
        have HC := hid hc
        clear hc
        rcases hc' with rfl | ⟨h13, rfl⟩
        · have e1 : (((13 : UInt8).toNat : Int) == 13) = true := rfl
          go_wp2_with (at_builtin; go_must (refine wpList_append_any rfl _ _ _ _ rfl 5 (.int .u8 0) 1 1 Tryd.underlying29 info8 rfl _ rp P.length (byv P) rfl (HO.out.keep kA.out) _ 2 (byv [13, 10]) rfl oA.out (by omega) (by omega) ?_))
          intro v3 r3 w3 o3 k3 n3
          have H3 := hid (And.intro o3 (And.intro k3 n3))
          clear o3 k3 n3
          go_wp2_with fail
          go_roundw
          case rel =>
            obtain ⟨hrp, hK⟩ := HR.out
            obtain ⟨o3, k3, n3⟩ := H3.out
            refine ⟨j + 1, r3, by go_num, by omega, ?_, fun k hk => (n3 k hk).elim (hrp k) (fun h => by have := kA.out.size; have := hK.size; omega), (hK.seq kA.out).trans k3 (fun i hi => .inr (hrp i hi))⟩
            rw [HP.out, if_pos HC.out, List.length_append, byv_append]
            exact o3
          case measure => simp [intOf]; omega
        · have e1 : (((10 : UInt8).toNat : Int) == 13) = false := rfl
          have e2 : (((10 : UInt8).toNat : Int) == 10) = true := rfl
          clear h13
          go_wp2_with (at_builtin; go_must (refine wpList_append_any rfl _ _ _ _ rfl 5 (.int .u8 0) 1 1 Tryd.underlying29 info8 rfl _ rp P.length (byv P) rfl (HO.out.keep kA.out) _ 2 (byv [13, 10]) rfl oA.out (by omega) (by omega) ?_))
          intro v3 r3 w3 o3 k3 n3
          have H3 := hid (And.intro o3 (And.intro k3 n3))
          clear o3 k3 n3
          go_wp2_with fail
          go_roundw
          case rel =>
            obtain ⟨hrp, hK⟩ := HR.out
            obtain ⟨o3, k3, n3⟩ := H3.out
            refine ⟨j + 1, r3, by go_num, by omega, ?_, fun k hk => (n3 k hk).elim (hrp k) (fun h => by have := kA.out.size; have := hK.size; omega), (hK.seq kA.out).trans k3 (fun i hi => .inr (hrp i hi))⟩
            rw [HP.out, if_pos HC.out, List.length_append, byv_append]
            exact o3
          case measure => simp [intOf]; omega
      · have e1 : ((c.toNat : Int) == 13) = false := by
          have : ¬ c.toNat = 13 := fun h => hc (.inl (UInt8.toNat_inj.1 h))
          simp; omega
        have e2 : ((c.toNat : Int) == 10) = false := by
          have : ¬ c.toNat = 10 := fun h => hc (.inr (UInt8.toNat_inj.1 h))
          simp; omega
        have kA := hid ((Kp.refl Non wr).alloc (.cells #[.int .u8 c.toNat] 5))
        have oA := hid ((Own.lit wr 5 1 #[.int .u8 c.toNat] 1 rfl (by simp [maxLen])).rd.src Tryd.underlying29 (by simp [Value.oneCell']))
        have HC := hid hc
        clear hc
        go_wp2_with (at_builtin; go_must (refine wpList_append_any rfl _ _ _ _ rfl 5 (.int .u8 0) 1 1 Tryd.underlying29 info8 rfl _ rp P.length (byv P) rfl (HO.out.keep kA.out) _ 1 (byv [c]) rfl oA.out (by omega) (by omega) ?_))
        intro v3 r3 w3 o3 k3 n3
        have H3 := hid (And.intro o3 (And.intro k3 n3))
        clear o3 k3 n3
        go_wp2_with fail
        go_roundw
        case rel =>
          obtain ⟨hrp, hK⟩ := HR.out
          obtain ⟨o3, k3, n3⟩ := H3.out
          refine ⟨j + 1, r3, by go_num, by omega, ?_, fun k hk => (n3 k hk).elim (hrp k) (fun h => by have := kA.out.size; have := hK.size; omega), (hK.seq kA.out).trans k3 (fun i hi => .inr (hrp i hi))⟩
          rw [HP.out, if_neg HC.out, List.length_append, byv_append]
          exact o3
        case measure => simp [intOf]; omega
    · obtain rfl : j = b.length := by omega
      rw [List.take_length] at hown hpl
      have hwl := whole_lines b
      have hpt := put_lines b
      have hpn := sg_plain b [] (fun _ h => by cases h)
      generalize sg [] b = ls at hwl hpt hpn
      have hw2 := wholeF_le (pF b)
      have hst := stf_len (wholeF (pF b)) true false
      have hpe := putF_eq (pF b)
      generalize pF b = Q at hown hpl hwl hpt hw2 hst hpe
      have hel : (ends ls).length ≤ 1202 := by rw [← hwl]; omega
      have hTl : (putF Q).length ≤ 1000000 := by rw [hpe, List.length_append]; simp; omega
      have hgood : good [] false (putF Q) (ls.map dotF ++ [[46]]) := by
        rw [hpt]
        refine good_all _ fun f hf => ?_
        rcases List.mem_append.1 hf with hf | hf
        · obtain ⟨x, hx, rfl⟩ := List.mem_map.1 hf
          have h1 := ends_len ls x hx
          have h2 := dotF_length x
          exact ⟨dotF_plain (hpn x hx), by omega⟩
        · simp at hf
          subst hf
          exact ⟨fun c hc => by simp at hc; subst hc; exact ⟨by decide, by decide⟩, by simp⟩
      have hlc := ends_count ls
      have hAl : (ls.map dotF ++ [[46]]).length = ls.length + 1 := by simp
      have HW := hid hwl
      have HGD := hid (And.intro hTl hgood)
      clear hpe hst hpt hw2 hwl hTl hgood
      have HO := hid hown
      obtain ⟨PA, pc, rfl, _, _⟩ := hown.form
      have KW := hid (K2.seq hK)
      have hmm := hid ((K2.seq hK).cell hm (fun x => x))
      clear hown hrp hK hm K2 Hvx
      go_wp2_with fail
      refine (fnew_calls _).mono ?_
      rintro e w3 ⟨rfl, f3, k3⟩
      have hg3 := f3.lt
      have hgw := KW.out.size
      generalize wr.heap.size = g at f3 hg3 hgw ⊢
      go_wp2_with fail
      refine (bnew_calls 2000 _ (by omega)).mono ?_
      rintro e w4 ⟨rfl, b4, k4⟩
      have hx4 := b4.lt
      have hgx : g < w3.heap.size := hg3
      generalize w3.heap.size = x at b4 hx4 hgx ⊢
      rw [show max (2000 : Int) 0 = 2000 by rfl] at b4
      have HF := hid (f3.keep k4)
      have HB := hid b4
      have HP4 := hid ((HO.out.keep k3).keep k4)
      have K4 := hid ((KW.out.seq k3).seq k4)
      have hm4 := hid ((k3.seq k4).cell hmm.out (fun x => x))
      clear f3 b4 k3 k4 HO KW hmm hg3
      go_wp2_with fail
      refine (put_calls _ rp Q mx _ HP4.out.rd (by omega) hm4.out).mono ?_
      rintro e w5 ⟨vq, rq, rfl, oq, nq, k5⟩
      have HQ := hid (And.intro oq (And.intro nq k5))
      clear oq nq k5
      go_wp2_with fail
      refine (fput_calls g vq rq (putF Q) (ls.map dotF ++ [[46]]) _ (HF.out.keep HQ.out.2.2) HQ.out.1.rd (fun k hk e => by have := HQ.out.2.1 k hk; omega) HGD.out.1 HGD.out.2).mono ?_
      rintro e w6 ⟨lv, rl, cv, rfl, oL, f6, ⟨rc, oc⟩, hrl, k6⟩
      have k5 := HQ.out.2.2
      have HB6 := hid ((HB.out.keep k5).kp k6 (fun e => by cases e; omega) (fun i hi => by cases hi))
      have HP6 := hid ((HP4.out.keep k5).kp k6 (fun i hi e => HP4.out.ne_blk HF.out (by decide) (by rw [hi]; cases e; rfl)))
      have K6 := hid ((K4.out.seq k5).trans k6 (fun i hi => .inr (by cases hi; omega)))
      have HL6 := hid oL
      have H6 := hid (And.intro f6 oc)
      obtain ⟨LA, lc, rfl, _, _⟩ := oL.form
      clear oL f6 oc hrl k6 k5 HQ HF HB HP4 K4 hm4
      rw [hAl] at *
      go_wp2_with fail
      refine (frest_calls g cv rc _ H6.out.1 H6.out.2).mono ?_
      rintro e w7 ⟨rfl, k7⟩
      have HB7 := hid (HB6.out.keep k7)
      have HP7 := hid (HP6.out.keep k7)
      have HL7 := hid (HL6.out.keep k7)
      have K7 := hid (K6.out.seq k7)
      clear k7 HB6 HP6 HL6 K6 H6
      have hz : ((ls.length : Int) + 1 == 0) = false := by simp; omega
      go_wp2_with fail
      go_loopw [10] (fun iv wr => BkInv2 w7 x ls iv wr) (fun iv _ => ls.length + 1 - (intOf iv).toNat)
      case atStart => exact ⟨0, none, rfl, by omega, by simpa [ends] using HB7.out, (fun k hk => by cases hk), Kp.refl _ _⟩
      case round =>
        obtain ⟨j, r2, rfl, hj, hbod, hr2, hk2⟩ := hrel
        have hlx : rl ≠ some x := by
          obtain ⟨_, bb, _⟩ := HB7.out
          exact HL7.out.ne_blk bb (by decide)
        have hTk := ends_take ls j
        by_cases hlt : j < ls.length + 1
        · have hcl : ∀ s, (ls.map dotF ++ [[46]])[j]? = some s → ∃ bk off, LA = some ⟨bk, off, none⟩ ∧ wr.cell? ⟨bk, off + j, none⟩ = some (.string (strOf s)) := by
            intro s hs
            obtain ⟨A', c', he, _, _, hx⟩ := HL7.out.rd
            simp only [Value.slice.injEq] at he
            obtain ⟨rfl, _, rfl⟩ := he
            have hsj : (strv (ls.map dotF ++ [[46]]))[j]? = some (.string (strOf s)) := by unfold strv; rw [List.getElem?_map, hs]; rfl
            rcases hx with hx | ⟨bk, off, hA, hr, hx⟩
            · rw [hx] at hsj; cases hsj
            · exact ⟨bk, off, hA, hk2.cell (hx j _ hsj) (fun e => hlx (by rw [hr]; cases e; rfl))⟩
          by_cases hjl : j < ls.length
          · obtain ⟨bk, off, rfl, hcell⟩ := hcl (dotF ls[j]) (by rw [List.getElem?_append_left (by simpa using hjl), List.getElem?_map, List.getElem?_eq_getElem hjl]; rfl)
            have hxl := ends_len ls ls[j] (List.getElem_mem hjl)
            have hdl := dotF_length ls[j]
            have hlf : lineF (dotF ls[j]) = ls[j] ++ [13, 10] := by unfold lineF; rw [trim_dot]
            have hts : ends (ls.take (j + 1)) = ends (ls.take j) ++ lineF (dotF ls[j]) := by rw [hlf, List.take_add_one, List.getElem?_eq_getElem hjl]; exact ends_snoc _ _
            have hT1 := ends_take ls (j + 1)
            rw [hts, List.length_append] at hT1
            have hmn : min j ls.length = j := by omega
            have hne := dot_not ls[j]
            have HTS := hid hts
            rw [hmn] at hbod
            have HBD := hid (And.intro hbod (And.intro hr2 hk2))
            clear hcl hlf hts hbod hr2 hk2
            generalize dotF ls[j] = s at hcell hdl hT1 hne HTS
            have HNE := hid hne
            clear hne
            have hje : ((j : Int) == (ls.length : Int)) = false := by simp; omega
            have hw1 : IntKind.i64.wrap ((ls.length : Int) + 1 - 1) = ls.length := by rw [IntWalk.i64_in _ (by omega)]; omega
            have hw2 : IntKind.i64.wrap (ls.length : Int) = ls.length := IntWalk.i64_in _ (by omega)
            go_wp2_with fail
            refine (bline_ok x r2 (ends (ls.take j)) j 2000 s _ HBD.out.1 HNE.out (by omega) (by omega) (by omega) (by omega)).mono ?_
            rintro e w8 ⟨r8, rfl, b8, n8, k8⟩
            have H8 := hid (And.intro b8 (And.intro n8 k8))
            clear b8 n8 k8
            go_wp2_with fail
            go_roundw
            case rel =>
              obtain ⟨b8, n8, k8⟩ := H8.out
              obtain ⟨_, hr2, hk2⟩ := HBD.out
              refine ⟨j + 1, r8, by go_num, by omega, by rw [HTS.out, show min (j + 1) ls.length = j + 1 by omega]; exact b8, fun k hk => (n8 k hk).elim (hr2 k) (fun h => Nat.le_trans hk2.size h), hk2.trans k8 (fun i hi => ?_)⟩
              rcases hi with hi | hi
              · exact .inl hi
              · exact .inr (hr2 i hi)
            case measure => simp [intOf]; omega
          · obtain rfl : j = ls.length := by omega
            obtain ⟨bk, off, rfl, hcell⟩ := hcl [46] (by rw [List.getElem?_append_right (by simp)]; simp)
            have hs46 : strOf [46] = ({ data := #[46] } : ByteArray) := rfl
            rw [Nat.min_self, List.take_length] at hbod
            have HBD := hid (And.intro hbod (And.intro hr2 hk2))
            clear hcl hbod hr2 hk2 hs46
            have hw1 : IntKind.i64.wrap ((ls.length : Int) + 1 - 1) = ls.length := by rw [IntWalk.i64_in _ (by omega)]; omega
            have hw2 : IntKind.i64.wrap (ls.length : Int) = ls.length := IntWalk.i64_in _ (by omega)
            go_wp2_with fail
            refine (bline_end x [46] _ rfl).mono ?_
            rintro e w8 ⟨rfl, k8⟩
            go_wp2_with fail
            go_roundw
            case rel =>
              obtain ⟨hbod, hr2, hk2⟩ := HBD.out
              exact ⟨ls.length + 1, r2, by go_num, by omega, by rw [List.take_of_length_le (by omega), show min (ls.length + 1) ls.length = ls.length by omega]; exact hbod.keep k8, hr2, hk2.seq k8⟩
            case measure => simp [intOf]
        · obtain rfl : j = ls.length + 1 := by omega
          rw [List.take_of_length_le (by omega), show min (ls.length + 1) ls.length = ls.length by omega] at hbod
          have hpx : rp ≠ some x := by
            obtain ⟨_, bb, _⟩ := HB7.out
            exact HP7.out.ne_blk bb (by decide)
          have hK9 : Kp Non w wr := K7.out.trans hk2 (fun i hi => .inr (by cases hi; omega))
          have hd := (Kp.refl Non wr).drew
          have HBr := hid (hbod.keep hd)
          have HPr := hid ((HP7.out.kp hk2 (fun i hi e => hpx (by rw [hi]; cases e; rfl))).keep hd).rd
          have hw1 : IntKind.i64.wrap ((ls.length : Int) + 1 - 1) = ls.length := by rw [IntWalk.i64_in _ (by omega)]; omega
          have hw2 : IntKind.i64.wrap (ls.length : Int) = ls.length := IntWalk.i64_in _ (by omega)
          clear hbod hr2 hk2 hTk
          go_wp2_with fail
          refine wp_region_seq [(0, true), (3, true), (1, false), (2, true), (4, false), (5, true), (6, true), (7, true), (8, true), (10, true), (11, true), (12, true), (9, false), (13, true), (14, true), (15, true)] 16 Non wide (by kernel_rfl) (fun _ _ _ _ _ h => h) ?_; (try simp only [List.append_eq, List.cons_append, List.nil_append])
          repeat (refine seq_still (v := ?_) rfl rfl (fun wq hq => ?_) ?_; rotate_left; (focus ((simp only [List.getElem_toArray, List.getElem_cons_zero, List.getElem_cons_succ]; go_simp; try with_reducible rfl); done)); simp only [List.getElem_toArray, List.getElem_cons_zero, List.getElem_cons_succ, Act.put, List.setIfInBounds_toArray, List.set_cons_zero, List.set_cons_succ])
          refine seq_step rfl rfl (fun K hK => ?_); simp only [List.getElem_toArray, List.getElem_cons_zero, List.getElem_cons_succ]; go_simp
          refine (bbytes_calls x r2 (ends ls) ls.length 2000 _ HBr.out (by omega)).mono ?_
          rintro e w8 ⟨v8, r8, rfl, o8, n8, k8⟩
          refine hK.out _ _ (k8) ?_; clear hK; (try simp only [Act.put, List.setIfInBounds_toArray, List.set_cons_zero, List.set_cons_succ])
          have s8 := o8.rd.strs 29 5 9 Tryd.underlying29 Tryd.underlying5 Tryd.underlying9
          repeat (refine seq_still (v := ?_) rfl rfl (fun wq hq => ?_) ?_; rotate_left; (focus ((simp only [List.getElem_toArray, List.getElem_cons_zero, List.getElem_cons_succ]; go_simp; try with_reducible rfl); done)); simp only [List.getElem_toArray, List.getElem_cons_zero, List.getElem_cons_succ, Act.put, List.setIfInBounds_toArray, List.set_cons_zero, List.set_cons_succ])
          refine seq_step rfl rfl (fun K hK => ?_); simp only [List.getElem_toArray, List.getElem_cons_zero, List.getElem_cons_succ]; go_simp
          refine (whole_calls _ rp Q _ (HPr.out.keep k8) (by omega)).mono ?_
          rintro e w9 ⟨v9, r9, rfl, o9, n9, k9⟩
          rw [HW.out] at o9
          refine hK.out _ _ (k9) ?_; clear hK; (try simp only [Act.put, List.setIfInBounds_toArray, List.set_cons_zero, List.set_cons_succ])
          have s9 := o9.rd.strs 29 5 9 Tryd.underlying29 Tryd.underlying5 Tryd.underlying9
          clear s8
          repeat (refine seq_still (v := ?_) rfl rfl (fun wq hq => ?_) ?_; rotate_left; (focus ((simp only [List.getElem_toArray, List.getElem_cons_zero, List.getElem_cons_succ]; go_simp; try with_reducible rfl); done)); simp only [List.getElem_toArray, List.getElem_cons_zero, List.getElem_cons_succ, Act.put, List.setIfInBounds_toArray, List.set_cons_zero, List.set_cons_succ])
          refine seq_step rfl rfl (fun K hK => ?_); simp only [List.getElem_toArray, List.getElem_cons_zero, List.getElem_cons_succ]; go_simp
          refine (blines_calls x r2 (ends ls) ls.length 2000 _ ((HBr.out.keep k8).keep k9)).mono ?_
          rintro e w10 ⟨rfl, k10⟩
          refine hK.out _ _ (k10) ?_; clear hK; (try simp only [Act.put, List.setIfInBounds_toArray, List.set_cons_zero, List.set_cons_succ])
          clear s9
          repeat (refine seq_still (v := ?_) rfl rfl (fun wq hq => ?_) ?_; rotate_left; (focus ((simp only [List.getElem_toArray, List.getElem_cons_zero, List.getElem_cons_succ]; go_simp; try with_reducible rfl); done)); simp only [List.getElem_toArray, List.getElem_cons_zero, List.getElem_cons_succ, Act.put, List.setIfInBounds_toArray, List.set_cons_zero, List.set_cons_succ])
          refine seq_nil ?_
          go_wp2
          go_ret
          exact ⟨rfl, (((hK9.seq hd).seq k8).seq k9).seq k10⟩

end Go.Proofs.YtghfngnakoccbaaDoor

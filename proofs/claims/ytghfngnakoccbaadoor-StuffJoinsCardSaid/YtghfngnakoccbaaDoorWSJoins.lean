/- The walk of StuffJoins: it answers true and writes nothing that was there. -/
import Derived.Test.YtghfngnakoccbaaDoorSPure3
namespace Go.Proofs.YtghfngnakoccbaaDoor
open Go.RowKit
set_option linter.unusedSimpArgs false
set_option linter.unusedVariables false
attribute [local go_sem] max2_of min2_of max_of min_of
attribute [local go_sem] strOf_size strOf_list

set_option maxRecDepth 100000 in
set_option maxHeartbeats 8000000 in
theorem sjoins_walk (v : Value) (r : Option Nat) (l0 : List UInt8) (v' : Value) (r' : Option Nat) (l0' : List UInt8) (mx : Int) (w : World) (hv : Rd w v r (byv l0)) (hv' : Rd w v' r' (byv l0')) (hm : w.cell? ⟨1, 0, none⟩ = some (.int .i64 mx)) :
    Calls Tryd.prog 6 #[v, v'] w fun e w' => e = .returned (.bool true) ∧ Kp Non w w' := by
  go_enter Tryd.func6, Tryd.ntmps6
  go_wp2_with fail
  refine (shown_calls mx _ hm).mono ?_
  rintro e w1 ⟨rfl, k1⟩
  go_wp2_with fail
  refine (short_calls v r l0 _ (hv.keep k1)).mono ?_
  rintro e w2 ⟨V, rfl, hV, k2⟩
  have hl6 : (l0.take 600).length ≤ 600 := by simp; omega
  generalize l0.take 600 = a at hV hl6
  have K2 := k1.seq k2
  go_wp2_with fail
  refine (whole_calls V r a _ hV (by omega)).mono ?_
  rintro e w3 ⟨vA, rA, rfl, oA, nA, k3⟩
  have hwA := whole_whl a
  have hlA := wholeF_le a
  generalize wholeF a = A at oA hwA hlA
  have K3 := K2.seq k3
  clear hV nA k1 k2 k3 K2
  go_wp2_with fail
  refine (short_calls v' r' l0' _ (hv'.keep K3)).mono ?_
  rintro e w4 ⟨V', rfl, hV', k4⟩
  have hlB : (l0'.take 600).length ≤ 600 := by simp; omega
  generalize l0'.take 600 = B at hV' hlB
  have K4 := K3.seq k4
  have oA4 := oA.keep k4
  clear oA k4 K3 hv hv'
  have hE := (Kp.refl Non w4).alloc (.cells #[] 5)
  have oE := Own.lit w4 5 1 #[] 0 rfl (by simp [maxLen])
  have HA := hid (oA4.keep hE)
  have HB := hid (hV'.keep hE)
  have HoA := hid oA4
  have HoB := hid hV'
  obtain ⟨cA, dA, rfl, _, _⟩ := oA4.form
  obtain ⟨cB, dB, rfl, _, _, _⟩ := hV'
  simp only [byv_length] at HB HoB ⊢
  clear oA4
  go_wp2_with (at_builtin; go_must (refine wpList_append_any rfl _ _ _ _ rfl 5 (.int .u8 0) 1 1 Tryd.underlying29 info8 rfl _ (some w4.heap.size) 0 [] rfl oE _ A.length (byv A) rfl ?hs (by omega) (by omega) ?_))
  case hs => have := HA.out.rd.src Tryd.underlying29 (byv_one _); rw [byv_length] at this; exact this
  intro v5 r5 w5 o5 k5 n5
  have hn5 : ∀ k, r5 = some k → w4.heap.size ≤ k := fun k hk => (n5 k hk).elim (fun h => by cases h; exact Nat.le_refl _) (fun h => by have := hE.size; omega)
  have K5 : Kp Non w4 w5 := hE.trans k5 (fun i hi => .inr (by cases hi; exact Nat.le_refl _))
  have HO5 := hid o5
  obtain ⟨c5, d5, rfl, _, _⟩ := o5.form
  clear o5 oE n5 k5
  go_wp2_with (at_builtin; go_must (refine wpList_append_any rfl _ _ _ _ rfl 5 (.int .u8 0) 1 1 Tryd.underlying29 info8 rfl _ r5 A.length (byv A) rfl ?ho _ B.length (byv B) rfl ?hs (by omega) (by omega) ?_))
  case ho => exact HO5.out
  case hs => have := (HoB.out.keep K5).src Tryd.underlying29 (byv_one _); rw [byv_length] at this; exact this
  intro v6 r6 w6 o6 k6 n6
  have K6 : Kp Non w4 w6 := K5.trans k6 (fun i hi => .inr (hn5 i hi))
  have o6' : Own w6 5 1 v6 r6 (A ++ B).length (byv (A ++ B)) := by rw [List.length_append, byv_append]; exact o6
  have HO6 := hid o6'
  have oA6 := HoA.out.keep K6
  have oB6 := HoB.out.keep K6
  have KK6 := K4.seq K6
  clear o6 o6' k6 n6 K5 K6 hE HO5 hn5
  have HA6 := hid oA6
  have HB6 := hid oB6
  clear oA6 oB6 HA HB
  go_wp2_with fail
  refine (put_calls _ rA A mx _ HA6.out.rd (by omega) (KK6.cell hm (fun x => x))).mono ?_
  rintro e w7 ⟨v7, r7, rfl, o7, n7, k7⟩
  have s7 := o7.rd.str 29 5 9 Tryd.underlying29 Tryd.underlying5 Tryd.underlying9
  have pA : putF A = stf true false A ++ [46, 13, 10] := by rw [putF_eq, hwA.whole]
  have hj := put_join hwA B
  have hl1 := stf_len A true false
  rw [pA] at s7
  have KK7 := KK6.seq k7
  clear o7 n7 pA
  generalize stf true false A = SA at s7 hj hl1
  go_wp2_with fail
  refine (put_calls _ r' B mx _ (HB6.out.keep k7) (by omega) (KK7.cell hm (fun x => x))).mono ?_
  rintro e w8 ⟨v8, r8, rfl, o8, n8, k8⟩
  have s8 := o8.rd.str 29 5 9 Tryd.underlying29 Tryd.underlying5 Tryd.underlying9
  have hl2 : (putF B).length ≤ 2000 := by
    have h1 := stf_len (wholeF B) true false
    have h2 := wholeF_le B
    rw [putF_eq, List.length_append]
    simp; omega
  have KK8 := KK7.seq k8
  have HBP := hid hj
  clear o8 n8 hj s7
  generalize putF B = PB at s8 hl2 HBP
  have hlen : (SA ++ [46, 13, 10]).length = SA.length + 3 := by simp
  have hwr3 : IntKind.i64.wrap (SA.length : Int) = SA.length := IntWalk.i64_in _ (by omega)
  have hx2 : (strOf (SA ++ [46, 13, 10])).extract 0 SA.length = strOf SA := by
    rw [strOf_extract, List.take_left]; rfl
  have hcat : ¬ (9223372036854775807 < SA.length + PB.length) := by omega
  have hj1 : ¬ (SA.length : Int) + 3 < 3 := by omega
  have hj2 : (SA.length : Int) ≤ (SA.length : Int) + 3 := by omega
  have happ : strOf SA ++ strOf PB = strOf (SA ++ PB) := strOf_append _ _
  have hO9 := hid ((HO6.out.keep k7).keep k8)
  have hB9 := hid ((HB6.out.keep k7).keep k8)
  clear HO6 HB6 HA6
  obtain ⟨c9, d9, rfl, _, _⟩ := hO9.out.form
  go_wp2_with fail
  have hd := (Kp.refl Non w8).drew
  have KK9 := KK8.seq hd
  have hOr0 := (hO9.out.keep hd).rd
  rw [List.length_append] at hOr0
  have hOr := hid hOr0
  clear hOr0
  have hBr := hid (hB9.out.keep hd)
  have hcB := hBr.out
  obtain ⟨cB', dB', heB, _, _, _⟩ := hcB
  clear heB
  have hmm := hid (KK9.cell hm (fun x => x))
  clear hO9 hB9 s8 hm hd
  refine wp_region_seq [(0, true), (1, true), (2, true), (5, true), (6, true), (7, true), (8, true), (9, true), (10, true), (11, true), (3, false), (4, true), (12, true), (13, true), (14, true), (15, true), (19, true), (16, false), (17, false), (18, true), (20, false), (21, true), (22, true), (23, true), (24, true)] 25 Non wide (by kernel_rfl) (fun _ _ _ _ _ h => h) ?_; (try simp only [List.append_eq, List.cons_append, List.nil_append])
  repeat (refine seq_still (v := ?_) rfl rfl (fun wq hq => ?_) ?_; rotate_left; (focus ((simp only [List.getElem_toArray, List.getElem_cons_zero, List.getElem_cons_succ]; go_simp; try with_reducible rfl); done)); simp only [List.getElem_toArray, List.getElem_cons_zero, List.getElem_cons_succ, Act.put, List.setIfInBounds_toArray, List.set_cons_zero, List.set_cons_succ])
  refine seq_step rfl rfl (fun K hK => ?_); simp only [List.getElem_toArray, List.getElem_cons_zero, List.getElem_cons_succ]; go_simp
  refine (put_calls _ r6 (A ++ B) mx _ hOr.out (by rw [List.length_append]; omega) hmm.out).mono ?_
  rintro e w9 ⟨v9, r9, rfl, o9, n9, k9⟩
  rw [HBP.out] at o9
  refine hK.out _ _ (k9) ?_; clear hK; (try simp only [Act.put, List.setIfInBounds_toArray, List.set_cons_zero, List.set_cons_succ])
  have s9 := o9.rd.strs 29 5 9 Tryd.underlying29 Tryd.underlying5 Tryd.underlying9
  repeat (refine seq_still (v := ?_) rfl rfl (fun wq hq => ?_) ?_; rotate_left; (focus ((simp only [List.getElem_toArray, List.getElem_cons_zero, List.getElem_cons_succ]; go_simp; try with_reducible rfl); done)); simp only [List.getElem_toArray, List.getElem_cons_zero, List.getElem_cons_succ, Act.put, List.setIfInBounds_toArray, List.set_cons_zero, List.set_cons_succ])
  refine seq_step rfl rfl (fun K hK => ?_); simp only [List.getElem_toArray, List.getElem_cons_zero, List.getElem_cons_succ]; go_simp
  refine (whole_calls _ r' B _ (hBr.out.keep k9) (by omega)).mono ?_
  rintro e w10 ⟨v10, r10, rfl, o10, n10, k10⟩
  refine hK.out _ _ (k10) ?_; clear hK; (try simp only [Act.put, List.setIfInBounds_toArray, List.set_cons_zero, List.set_cons_succ])
  refine seq_step rfl rfl (fun K hK => ?_); simp only [List.getElem_toArray, List.getElem_cons_zero, List.getElem_cons_succ]; go_simp
  refine (whole_calls _ r10 (wholeF B) _ o10.rd (by have := wholeF_le B; omega)).mono ?_
  rintro e w11 ⟨v11, r11, rfl, o11, n11, k11⟩
  rw [(whole_whl B).whole] at o11
  refine hK.out _ _ (k11) ?_; clear hK; (try simp only [Act.put, List.setIfInBounds_toArray, List.set_cons_zero, List.set_cons_succ])
  have s11 := o11.rd.strs 29 5 9 Tryd.underlying29 Tryd.underlying5 Tryd.underlying9
  clear s9
  repeat (refine seq_still (v := ?_) rfl rfl (fun wq hq => ?_) ?_; rotate_left; (focus ((simp only [List.getElem_toArray, List.getElem_cons_zero, List.getElem_cons_succ]; go_simp; try with_reducible rfl); done)); simp only [List.getElem_toArray, List.getElem_cons_zero, List.getElem_cons_succ, Act.put, List.setIfInBounds_toArray, List.set_cons_zero, List.set_cons_succ])
  refine seq_step rfl rfl (fun K hK => ?_); simp only [List.getElem_toArray, List.getElem_cons_zero, List.getElem_cons_succ]; go_simp
  refine (whole_calls _ r' B _ (((hBr.out.keep k9).keep k10).keep k11) (by omega)).mono ?_
  rintro e w12 ⟨v12, r12, rfl, o12, n12, k12⟩
  refine hK.out _ _ (k12) ?_; clear hK; (try simp only [Act.put, List.setIfInBounds_toArray, List.set_cons_zero, List.set_cons_succ])
  have s12 := o12.rd.strs 29 5 9 Tryd.underlying29 Tryd.underlying5 Tryd.underlying9
  clear s11
  repeat (refine seq_still (v := ?_) rfl rfl (fun wq hq => ?_) ?_; rotate_left; (focus ((simp only [List.getElem_toArray, List.getElem_cons_zero, List.getElem_cons_succ]; go_simp; try with_reducible rfl); done)); simp only [List.getElem_toArray, List.getElem_cons_zero, List.getElem_cons_succ, Act.put, List.setIfInBounds_toArray, List.set_cons_zero, List.set_cons_succ])
  refine seq_nil ?_
  clear s12
  go_wp2
  go_ret
  exact ⟨rfl, (((KK9.seq k9).seq k10).seq k11).seq k12⟩

end Go.Proofs.YtghfngnakoccbaaDoor

/- The walk of StuffAll: it answers true and writes nothing that was there. -/
import Derived.Test.YtghfngnakoccbaaDoorSRef3
import Derived.Test.YtghfngnakoccbaaDoorSOpen
import Derived.Lib.ConvBytes
import Derived.Lib.AtoiErrMem
namespace Go.Proofs.YtghfngnakoccbaaDoor
open Go.RowKit
set_option linter.unusedSimpArgs false
set_option linter.unusedVariables false
attribute [local go_sem] max2_of min2_of max_of min_of
attribute [local go_sem] strOf_size strOf_list

theorem conv_rd (w : World) (l : List UInt8) (hl : l.length ≤ maxLen) : Rd (Lib.bytesWorld w 5 (strOf l)) (.slice (some ⟨w.heap.size, 0, none⟩) l.length (grownCap w l.length 0 5)) (some w.heap.size) (byv l) := by
  refine ⟨_, _, by rw [byv_length], by rw [byv_length]; exact grownCap_ge _ _ _ _, grownCap_le_maxLen _ _ _ _ hl, .inr ⟨w.heap.size, 0, rfl, rfl, fun j u hu => ?_⟩⟩
  rw [byv_get] at hu
  obtain ⟨b, hb, rfl⟩ := Option.map_eq_some_iff.1 hu
  have hj : j < l.length := (List.getElem?_eq_some_iff.1 hb).1
  rw [Nat.zero_add, Lib.bytesWorld_cell _ _ _ _ (by rw [strOf_size]; exact hj)]
  simp [strOf, List.getD, hb]

def WSInv (w : World) (g h n : Nat) (m : Int) (iv : Value) (wr : World) : Prop :=
  ∃ (j k : Nat) (b : List UInt8), iv = .int .i64 j ∧ j ≤ n ∧ j ≤ 30 ∧ k ≤ j ∧ b.length ≤ 700 * j ∧ Two2 w wr g h b k m

set_option maxRecDepth 100000 in
set_option maxHeartbeats 4000000 in
theorem sall_walk (v : Value) (r : Option Nat) (l0 : List UInt8) (lv : Value) (ls : List (List UInt8)) (most : Int) (hmost : -9223372036854775808 ≤ most ∧ most ≤ 9223372036854775807) (mx : Int) (w : World) (hv : Rd w v r (byv l0)) (hls : Strs w lv ls) (hm : w.cell? ⟨1, 0, none⟩ = some (.int .i64 mx)) :
    Calls Tryd.prog 7 #[v, lv, .int .i64 most] w fun e w' => e = .returned (.bool true) ∧ Kp Non w w' := by
  obtain ⟨row, ⟨A, c, rfl, hlc, hcm, hc⟩, hmax⟩ := hls
  have Hc := hid hc
  have Hmax := hid hmax
  clear hc hmax
  unfold maxLen at hcm
  rw [List.length_map] at hlc ⊢
  go_enter Tryd.func7, Tryd.ntmps7
  go_wp2_with fail
  refine (shown_calls mx _ hm).mono ?_
  rintro e w1 ⟨rfl, k1⟩
  go_wp2_with fail
  refine (short_calls v r l0 _ (hv.keep k1)).mono ?_
  rintro e w2 ⟨V, rfl, hV, k2⟩
  have hl6 : (l0.take 600).length ≤ 600 := by simp; omega
  generalize l0.take 600 = b0 at hV hl6
  have K2 := k1.seq k2
  go_wp2_with fail
  refine (bnew_calls most _ (by omega)).mono ?_
  rintro e w3 ⟨rfl, b3, k3⟩
  have K3 := K2.seq k3
  have hg3 := K2.size
  generalize w2.heap.size = g at b3 hg3 ⊢
  go_wp2_with fail
  refine (rbnew_calls most _ (by omega)).mono ?_
  rintro e w4 ⟨rfl, b4, k4⟩
  have hh4 := K3.size
  have hT : Two2 w w4 g w3.heap.size [] 0 (max most 0) := ⟨none, none, b3.keep k4, b4, hg3, hh4, (fun i hi => by cases hi), (fun i hi => by cases hi), (fun i hi => by cases hi), K3.seq k4⟩
  have hV4 := (hV.keep k3).keep k4
  generalize w3.heap.size = h at hT ⊢
  have hm0 : 0 ≤ max most 0 := by omega
  have hm1 : max most 0 ≤ 9223372036854775807 := by omega
  clear b3 b4 hg3 hh4 k1 k2 k3 k4 K2 K3 hV
  generalize max most 0 = m at hT hm0 hm1 ⊢
  have KK4 : Kp Non w w4 := by obtain ⟨_, _, _, _, _, _, _, _, _, k⟩ := hT; exact k
  have hmm := hid (KK4.cell hm (fun x => x))
  have hd := (Kp.refl Non w4).drew
  have HV := hid (hV4.keep hd)
  have HT := hid hT
  obtain ⟨c9, d9, rfl, _, _, _⟩ := hV4
  clear hm hT
  go_wp2_with fail
  refine wp_region_seq [(0, true), (1, true), (2, true), (3, true), (4, true), (5, true), (6, true), (7, true), (10, true), (8, false), (9, true), (11, false), (12, true), (13, true), (14, true), (15, true), (16, true), (19, true), (17, false), (18, true), (20, false), (21, true), (22, true), (23, true)] 24 Non wide (by kernel_rfl) (fun _ _ _ _ _ h => h) ?_; (try simp only [List.append_eq, List.cons_append, List.nil_append])
  repeat (refine seq_still (v := ?_) rfl rfl (fun wq hq => ?_) ?_; rotate_left; (focus ((simp only [List.getElem_toArray, List.getElem_cons_zero, List.getElem_cons_succ]; go_simp; try with_reducible rfl); done)); simp only [List.getElem_toArray, List.getElem_cons_zero, List.getElem_cons_succ, Act.put, List.setIfInBounds_toArray, List.set_cons_zero, List.set_cons_succ])
  refine seq_step rfl rfl (fun K hK => ?_); simp only [List.getElem_toArray, List.getElem_cons_zero, List.getElem_cons_succ]; go_simp
  refine (put_calls _ r b0 mx _ HV.out (by omega) hmm.out).mono ?_
  rintro e w5 ⟨v5, r5, rfl, o5, n5, k5⟩
  refine hK.out _ _ (k5) ?_; clear hK; (try simp only [Act.put, List.setIfInBounds_toArray, List.set_cons_zero, List.set_cons_succ])
  have s5 := o5.rd.strs 29 5 9 Tryd.underlying29 Tryd.underlying5 Tryd.underlying9
  repeat (refine seq_still (v := ?_) rfl rfl (fun wq hq => ?_) ?_; rotate_left; (focus ((simp only [List.getElem_toArray, List.getElem_cons_zero, List.getElem_cons_succ]; go_simp; try with_reducible rfl); done)); simp only [List.getElem_toArray, List.getElem_cons_zero, List.getElem_cons_succ, Act.put, List.setIfInBounds_toArray, List.set_cons_zero, List.set_cons_succ])
  refine seq_step rfl rfl (fun K hK => ?_); simp only [List.getElem_toArray, List.getElem_cons_zero, List.getElem_cons_succ]; go_simp
  refine (rput_calls _ r b0 _ (HV.out.keep k5) (by omega)).mono ?_
  rintro e w6 ⟨v6, r6, rfl, o6, n6, k6⟩
  refine hK.out _ _ (k6) ?_; clear hK; (try simp only [Act.put, List.setIfInBounds_toArray, List.set_cons_zero, List.set_cons_succ])
  have s6 := o6.rd.strs 29 5 9 Tryd.underlying29 Tryd.underlying5 Tryd.underlying9
  clear s5
  repeat (refine seq_still (v := ?_) rfl rfl (fun wq hq => ?_) ?_; rotate_left; (focus ((simp only [List.getElem_toArray, List.getElem_cons_zero, List.getElem_cons_succ]; go_simp; try with_reducible rfl); done)); simp only [List.getElem_toArray, List.getElem_cons_zero, List.getElem_cons_succ, Act.put, List.setIfInBounds_toArray, List.set_cons_zero, List.set_cons_succ])
  refine seq_step rfl rfl (fun K hK => ?_); simp only [List.getElem_toArray, List.getElem_cons_zero, List.getElem_cons_succ]; go_simp
  refine (whole_calls _ r b0 _ ((HV.out.keep k5).keep k6) (by omega)).mono ?_
  rintro e w7 ⟨v7, r7, rfl, o7, n7, k7⟩
  refine hK.out _ _ (k7) ?_; clear hK; (try simp only [Act.put, List.setIfInBounds_toArray, List.set_cons_zero, List.set_cons_succ])
  have s7 := o7.rd.strs 29 5 9 Tryd.underlying29 Tryd.underlying5 Tryd.underlying9
  clear s6
  repeat (refine seq_still (v := ?_) rfl rfl (fun wq hq => ?_) ?_; rotate_left; (focus ((simp only [List.getElem_toArray, List.getElem_cons_zero, List.getElem_cons_succ]; go_simp; try with_reducible rfl); done)); simp only [List.getElem_toArray, List.getElem_cons_zero, List.getElem_cons_succ, Act.put, List.setIfInBounds_toArray, List.set_cons_zero, List.set_cons_succ])
  refine seq_step rfl rfl (fun K hK => ?_); simp only [List.getElem_toArray, List.getElem_cons_zero, List.getElem_cons_succ]; go_simp
  refine (rwhole_calls _ r b0 _ (((HV.out.keep k5).keep k6).keep k7) (by omega)).mono ?_
  rintro e w8 ⟨v8, r8, rfl, o8, n8, k8⟩
  refine hK.out _ _ (k8) ?_; clear hK; (try simp only [Act.put, List.setIfInBounds_toArray, List.set_cons_zero, List.set_cons_succ])
  have s8 := o8.rd.strs 29 5 9 Tryd.underlying29 Tryd.underlying5 Tryd.underlying9
  clear s7
  repeat (refine seq_still (v := ?_) rfl rfl (fun wq hq => ?_) ?_; rotate_left; (focus ((simp only [List.getElem_toArray, List.getElem_cons_zero, List.getElem_cons_succ]; go_simp; try with_reducible rfl); done)); simp only [List.getElem_toArray, List.getElem_cons_zero, List.getElem_cons_succ, Act.put, List.setIfInBounds_toArray, List.set_cons_zero, List.set_cons_succ])
  refine seq_nil ?_
  clear s8
  have K8 : Kp Non w4 w8 := (((hd.seq k5).seq k6).seq k7).seq k8
  have hT8 : Two2 w w8 g h [] 0 m := by
    obtain ⟨r, s, h1, h2, h3, h4, h5, h6, h7, h8⟩ := HT.out
    exact ⟨r, s, h1.keep K8, h2.keep K8, h3, h4, h5, h6, h7, h8.seq K8⟩
  clear o5 o6 o7 o8 n5 n6 n7 n8 k5 k6 k7 k8 hd HV HT K8 KK4 hmm
  go_wp2_with fail
  go_loopw [10] (fun iv wr => WSInv w g h ls.length m iv wr) (fun iv _ => 31 - (intOf iv).toNat)
  case atStart => exact ⟨0, 0, [], rfl, by omega, by omega, by omega, by simp, hT8⟩
  case round =>
    clear hT8
    rename_i wr _
    obtain ⟨j, k, b, rfl, hj1, hj2, hk, hb, hT⟩ := hrel
    have hK : Kp Non w wr := by obtain ⟨_, _, _, _, _, _, _, _, _, k⟩ := hT; exact k
    by_cases hend : j < ls.length ∧ j < 30
    · obtain ⟨he1, he2⟩ := hend
      obtain ⟨bb, off, rfl, hcell⟩ : ∃ bb off, A = some ⟨bb, off, none⟩ ∧ w.cell? ⟨bb, off + j, none⟩ = some (.string (strOf ls[j])) := by
        rcases Hc.out with h | ⟨bb, off, hA, _, h⟩
        · rw [List.map_eq_nil_iff] at h; subst h; simp at he1
        · exact ⟨bb, off, hA, h j _ (by rw [List.getElem?_map, List.getElem?_eq_getElem he1]; rfl)⟩
      have hlj := Hmax.out ls[j] (List.getElem_mem he1)
      have hcell3 := hK.cell hcell (fun x => x)
      generalize ls[j] = l at hcell3 hlj
      clear hcell Hc Hmax
      have hcv := Lib.run_convert_string_bytes (P := Tryd.prog) wr 9 29 5 (strOf l) Tryd.underlying9 Tryd.underlying29 Tryd.underlying5
      rw [strOf_size] at hcv
      have hcr := hid (conv_rd wr l hlj)
      have kcv : Kp Non wr (Lib.bytesWorld wr 5 (strOf l)) := Kp.of_below (Lib.bytesWorld_below _ _ _) Non
      have HT := hid hT
      have KC := hid kcv
      clear hT kcv
      go_wp2_with fail
      refine (short_calls _ _ l _ hcr.out).mono ?_
      rintro e w5 ⟨V5, rfl, hV5, k5⟩
      have s5 := hV5.str 29 5 9 Tryd.underlying29 Tryd.underlying5 Tryd.underlying9
      have hl5 : (l.take 600).length ≤ 600 := by simp; omega
      generalize l.take 600 = s at s5 hl5
      have hT5 : Two2 w w5 g h b k m := by
        obtain ⟨r, s, h1, h2, h3, h4, h5, h6, h7, h8⟩ := HT.out
        have K := KC.out.seq k5
        exact ⟨r, s, h1.keep K, h2.keep K, h3, h4, h5, h6, h7, h8.seq K⟩
      clear hV5 k5 hcell3 hcv hcr HT KC hK
      go_wp2_with fail
      refine (two_line s _ hT5 (by omega) (by omega) (by omega)).mono ?_
      rintro e w6 ⟨rfl, hnext⟩
      have HN := hid hnext
      clear hnext hT5 s5
      go_wp2_with fail
      refine HN.out.mono ?_
      rintro e w7 ⟨rfl, hT7⟩
      clear HN
      have hlB := lnB_le b s m
      have hlN := lnN_le b s m k
      generalize lnB b s m = b' at hT7 hlB
      generalize lnN b s m k = k' at hT7 hlN
      generalize lnE b s m = E
      generalize lnEnd s = N
      have HT7 := hid hT7
      obtain ⟨rg, rh, h1, h2, _, _, _, _, _, _⟩ := hT7
      have B1 := hid h1
      obtain ⟨u, y1, y2, _, _⟩ := h2
      obtain ⟨Ay, cy, rfl, _, _⟩ := y2.form
      have c0 := y1.cell 0
      have c1 := y1.cell 1
      simp at c0 c1
      have e0 : ∀ w', Kp Non w7.drew w' → w'.cell? ⟨h, 0, none⟩ = some (.slice Ay b'.length cy) := fun w' hk => hk.cell c0 (fun x => x)
      have e1 : ∀ w', Kp Non w7.drew w' → w'.cell? ⟨h, 1, none⟩ = some (.int .i64 k') := fun w' hk => hk.cell c1 (fun x => x)
      have sy := (y2.keep (Kp.refl Non w7).drew).rd.strs 29 5 9 Tryd.underlying29 Tryd.underlying5 Tryd.underlying9
      clear h1 y1 y2 c0 c1
      have hEE : (E != E) = false := by simp
      have hNN : (N != N) = false := by simp
      go_wp2_with fail
      refine wp_region_seq [(0, true), (1, true), (2, true), (3, true), (4, true), (5, true), (6, true), (7, true), (8, true), (9, true), (12, true), (13, true), (14, true), (15, true), (16, true), (10, false), (11, true), (17, true), (18, true), (19, true), (20, true), (22, true), (23, true), (24, true), (25, true), (21, false), (26, true), (27, true)] 28 Non wide (by kernel_rfl) (fun _ _ _ _ _ h => h) ?_; (try simp only [List.append_eq, List.cons_append, List.nil_append])
      repeat (refine seq_still (v := ?_) rfl rfl (fun wq hq => ?_) ?_; rotate_left; (focus ((simp only [List.getElem_toArray, List.getElem_cons_zero, List.getElem_cons_succ]; go_simp; try with_reducible rfl); done)); simp only [List.getElem_toArray, List.getElem_cons_zero, List.getElem_cons_succ, Act.put, List.setIfInBounds_toArray, List.set_cons_zero, List.set_cons_succ])
      refine seq_step rfl rfl (fun K hK => ?_); simp only [List.getElem_toArray, List.getElem_cons_zero, List.getElem_cons_succ]; go_simp
      refine (bbytes_calls g rg b' k' m _ (B1.out.keep (Kp.refl Non w7).drew) (by omega)).mono ?_
      rintro e w8 ⟨v8, r8, rfl, o8, n8, k8⟩
      refine hK.out _ _ (k8) ?_; clear hK; (try simp only [Act.put, List.setIfInBounds_toArray, List.set_cons_zero, List.set_cons_succ])
      have s8 := o8.rd.strs 29 5 9 Tryd.underlying29 Tryd.underlying5 Tryd.underlying9
      have e0' := fun w' (hk : Kp Non w8 w') => e0 w' (k8.seq hk)
      have e1' := fun w' (hk : Kp Non w8 w') => e1 w' (k8.seq hk)
      clear e0 e1 sy
      repeat (refine seq_still (v := ?_) rfl rfl (fun wq hq => ?_) ?_; rotate_left; (focus ((simp only [List.getElem_toArray, List.getElem_cons_zero, List.getElem_cons_succ]; go_simp; try with_reducible rfl); done)); simp only [List.getElem_toArray, List.getElem_cons_zero, List.getElem_cons_succ, Act.put, List.setIfInBounds_toArray, List.set_cons_zero, List.set_cons_succ])
      refine seq_step rfl rfl (fun K hK => ?_); simp only [List.getElem_toArray, List.getElem_cons_zero, List.getElem_cons_succ]; go_simp
      refine (blines_calls g rg b' k' m _ ((B1.out.keep (Kp.refl Non w7).drew).keep k8)).mono ?_
      rintro e w9 ⟨rfl, k9⟩
      refine hK.out _ _ (k9) ?_; clear hK; (try simp only [Act.put, List.setIfInBounds_toArray, List.set_cons_zero, List.set_cons_succ])
      clear s8 e0' e1'
      repeat (refine seq_still (v := ?_) rfl rfl (fun wq hq => ?_) ?_; rotate_left; (focus ((simp only [List.getElem_toArray, List.getElem_cons_zero, List.getElem_cons_succ]; go_simp; try with_reducible rfl); done)); simp only [List.getElem_toArray, List.getElem_cons_zero, List.getElem_cons_succ, Act.put, List.setIfInBounds_toArray, List.set_cons_zero, List.set_cons_succ])
      refine seq_nil ?_
      have K9 : Kp Non w7 w9 := (((Kp.refl Non w7).drew).seq k8).seq k9
      clear o8 n8 k8 k9 B1
      go_wp2_with fail
      go_roundw
      case rel =>
        refine ⟨j + 1, k', b', by go_num, by omega, by omega, by omega, by omega, ?_⟩
        obtain ⟨r, s, h1, h2, h3, h4, h5, h6, h7, h8⟩ := HT7.out
        exact ⟨r, s, h1.keep K9, h2.keep K9, h3, h4, h5, h6, h7, h8.seq K9⟩
      case measure => simp [intOf]; omega
    · by_cases he1 : j < ls.length
      all_goals
        have he2 : j < ls.length → ¬ j < 30 := fun h1 h2 => hend ⟨h1, h2⟩
        go_wp2_with fail
        go_ret
        exact ⟨rfl, hK⟩

end Go.Proofs.YtghfngnakoccbaaDoor

/- The walk of QueueClones: it answers true and writes nothing that was there. -/
import Derived.Test.YthkhdkjebgemeaaQLaw
namespace Go.Proofs.Ythkhdkjebgemeaa
open Go.RowKit
set_option linter.unusedSimpArgs false
set_option linter.unusedVariables false
attribute [local go_sem] max2_of min2_of max_of min_of
attribute [local go_sem] strOf_size strOf_append

set_option maxHeartbeats 2000000 in
theorem clones_walk (w : World) (v : Value) (rb : Option Nat) (b : List UInt8) (hb : Rd w v rb (byv b)) (n m : Int) (bn : 0 ≤ n ∧ n ≤ 255) (bm : 0 ≤ m ∧ m ≤ 255) :
    Calls Try.prog 6 #[v, .int .u8 n, .int .u8 m] w fun e w' => e = .returned (.bool true) ∧ Kp Non w w' := by
  obtain ⟨rb', hb1, hrb⟩ := hb.bound
  clear hb
  obtain ⟨n0, n1⟩ := bn
  obtain ⟨m0, m1⟩ := bm
  have kc := fun (w : World) (C : Array Value) (n c : Nat) => Lib.run_convert_bytes_const (P := Try.prog) w 23 5 C n c Try.underlying23 Try.underlying5
  go_enter Try.func6, Try.ntmps6
  go_wp2_with fail
  refine (shown_calls _).mono ?_
  rintro e w1 ⟨rfl, k1⟩
  go_wp2_with fail
  refine (qnew_calls 200 _ (by omega)).mono ?_
  rintro e w2 ⟨g, rfl, hg, q2, k2⟩
  have hgw : w.heap.size ≤ g := by have := k1.size; omega
  have K2 := k1.seq k2
  go_wp2_with fail
  refine (short_calls v rb' b _ (hb1.keep K2)).mono ?_
  rintro e w3 ⟨V, rfl, hB3, k3⟩
  have K3 := K2.seq k3
  have hB0 := hB3.back K3 hrb
  have hb60 : (b.take 60).length ≤ 60 := by simp; omega
  generalize b.take 60 = b' at hB3 hB0 hb60
  have q3 := q2.keep k3
  clear hb1 hB3 k1 k2 k3 K2 q2
  have hB1 := hB0
  obtain ⟨AB, cb, rfl, hcb, hcbm, hx2⟩ := hB0
  clear hx2
  simp only [byv_length] at hcb hB1 ⊢
  go_wp2_with fail
  refine (put_yes g none [] 0 _ _ _ b' _ q3 (hB1.keep K3) (by simp; omega) (by simp; omega)).mono ?_
  rintro e w4 ⟨r, rfl, q4, n4, k4⟩
  rw [List.nil_append] at q4
  have hrn : ∀ i, r = some i → w.heap.size ≤ i := fun i hi => by
    rcases n4 i hi with h | h
    · cases h
    · have := K3.size; omega
  have K4 : Kp Non w w4 := K3.trans k4 (fun i hi => .inr (by
    rcases hi with hi | hi
    · rw [hi]; exact hgw
    · cases hi))
  clear n4 k4 q3 K3
  go_wp2_with fail
  refine (take_calls g r b' 0 _ n _ q4 (by omega)).mono ?_
  rintro e w5 ⟨v5, r5, rfl, q5, o5, n5, k5⟩
  have K5 : Kp Non w w5 := K4.trans k5 (fun i hi => .inr (by rw [show i = g from hi]; exact hgw))
  obtain ⟨t1, t2⟩ := tk_le b' 0 n (by omega)
  have et : (tk b' 0 n : Int) = min n b'.length := by omega
  generalize tk b' 0 n = k at q5 o5 t1 et
  clear t2
  rw [Nat.zero_add] at q5 t1
  rw [List.drop_zero] at o5
  have s5 := o5.rd.str 23 5 9 Try.underlying23 Try.underlying5 Try.underlying9
  clear q4 K4 k5
  go_wp2_with fail
  clear s5 o5 n5
  refine (qclone_calls g r b' k _ _ q5 (by omega)).mono ?_
  rintro e w6 ⟨g6, r6, rfl, hg6, q6, n6, k6⟩
  have K6 := K5.seq k6
  have hg6w : w.heap.size ≤ g6 := by have := K5.size; omega
  have hgg : g < g6 := by have := q5.lt; omega
  have hr6w : ∀ i, r6 = some i → w.heap.size ≤ i := fun i hi => by have := n6 i hi; have := K5.size; omega
  have hrr : ∀ i, r = some i → i < w5.heap.size := q5.row_lt
  have o6 := q5.keep k6
  have hrg : ∀ i, r = some i → i < g6 := fun i hi => by have := hrr i hi; omega
  have hr6g : ∀ i, r6 = some i → g < i := fun i hi => by have := n6 i hi; have := q5.lt; omega
  have hr6r : ∀ i j, r = some i → r6 = some j → i < j := fun i j hi hj => by have := hrr i hi; have := n6 j hj; omega
  clear q5 K5 k6 n6 hg6 hrr
  go_wp2_with fail
  refine (take_calls g6 r6 b' k _ m _ q6 (by omega)).mono ?_
  rintro e w7 ⟨v7, r7, rfl, q7, o7, n7, k7⟩
  have K7 : Kp Non w w7 := K6.trans k7 (fun i hi => .inr (by rw [show i = g6 from hi]; exact hg6w))
  have p7 := o6.kp k7 (fun hi => by have : g = g6 := hi; omega) (fun i hi hj => by have : i = g6 := hj; have := hrg i hi; omega)
  obtain ⟨t3, t4⟩ := tk_le b' k m t1
  have ej : (tk b' k m : Int) = min m (b'.length - k) := by omega
  generalize tk b' k m = j at q7 o7 t3 ej
  clear t4 o6 q6 K6 k7
  have s7 := o7.rd.str 23 5 9 Try.underlying23 Try.underlying5 Try.underlying9
  go_wp2_with fail
  clear s7 o7 n7
  refine (put_yes g6 r6 b' (k + j) _ _ _ [109, 111, 114, 101] _ (q7.keep ((Kp.refl _ _).alloc _)) (Rd.const w7 5 (4, 5) [109, 111, 114, 101] _ 4 rfl rfl (by decide)) (by simp; omega) (by simp; omega)).mono ?_
  rintro e w8 ⟨r8, rfl, q8, n8, k8⟩
  have hk7 := (Kp.refl Non w7).alloc (.cells #[.int .u8 109, .int .u8 111, .int .u8 114, .int .u8 101] 5 (4, 5))
  have p8 := (p7.keep hk7).kp k8 (fun hi => by
    rcases hi with hi | hi
    · omega
    · have := hr6g _ hi; omega) (fun i hi hj => by
    rcases hj with hj | hj
    · have := hrg i hi; omega
    · have := hr6r i i hi hj; omega)
  have K8 : Kp Non w w8 := (K7.seq hk7).trans k8 (fun i hi => .inr (by
    rcases hi with hi | hi
    · omega
    · exact hr6w i hi))
  clear k8 hk7 q7 p7 K7
  go_wp2_with fail
  rw [← et, ← ej]
  have hd8 : Kp Non w8 w8.drew := (Kp.refl Non w8).drew
  have hB8 := (hB1.keep K8).keep hd8
  have hBg : ∀ i, rb' = some i → ¬ One g i := fun i hi hj => by have : i = g := hj; have := hrb i hi; omega
  obtain ⟨V1, hV1, hr1⟩ := hB8.slice_h Try.underlying23 size8 (k : Int) k rfl (by rw [byv_length]; omega)
  obtain ⟨V2, hV2, hr2⟩ := hB8.slice_lh Try.underlying23 size8 (k : Int) ((k : Int) + j) k (k + j) rfl (by simp) (by omega) (by rw [byv_length]; omega)
  obtain ⟨V3, hV3, hr3⟩ := hB8.slice_l Try.underlying23 size8 (k : Int) k rfl (by rw [byv_length]; omega)
  rw [byv_take] at hr1
  rw [byv_take, byv_drop, List.drop_take, show k + j - k = j by omega] at hr2
  rw [byv_drop] at hr3
  have s0 := hB8.strsS hBg 23 5 9 Try.underlying23 Try.underlying5 Try.underlying9
  have s1 := hr1.strsS hBg 23 5 9 Try.underlying23 Try.underlying5 Try.underlying9
  have s2 := hr2.strsS hBg 23 5 9 Try.underlying23 Try.underlying5 Try.underlying9
  have s3 := hr3.strsS hBg 23 5 9 Try.underlying23 Try.underlying5 Try.underlying9
  clear hr1 hr2 hr3 hB8 hB1 kc
  have wr1 : IntKind.i64.wrap ((k : Int) + j) = (k : Int) + j := IntWalk.i64_in _ (by omega)
  have wr2 : IntKind.i64.wrap ((b'.length : Int) - k) = (b'.length : Int) - k := IntWalk.i64_in _ (by omega)
  have wr3 : IntKind.i64.wrap ((b'.length : Int) - k - j) = (b'.length : Int) - k - j := IntWalk.i64_in _ (by omega)
  have wr4 : IntKind.i64.wrap ((b'.length : Int) - k - j + 4) = (b'.length : Int) - k - j + 4 := IntWalk.i64_in _ (by omega)
  have hcat : ¬ (9223372036854775807 < b'.length + 4) := by omega
  have hmore : strOf b' ++ { data := #[109, 111, 114, 101] } = strOf (b' ++ [109, 111, 114, 101]) := strOf_append b' [109, 111, 114, 101]
  have p9 := p8.keep hd8
  have q9 := q8.keep hd8
  clear et ej p8 q8 n8
  refine wp_region_seq [(0, true), (1, true), (2, true), (3, true), (4, true), (5, true), (6, true), (7, true), (8, true), (9, true), (10, true), (11, true), (12, true), (13, true), (14, true), (15, true), (16, true), (17, true), (18, true), (20, true), (21, true), (22, true), (23, true), (19, false), (24, true), (25, true), (26, true), (27, true), (29, true), (30, true), (31, true), (32, true), (33, true), (34, true), (35, true), (28, false), (36, true), (37, true), (38, true), (39, true), (42, true), (43, true), (40, false), (41, true), (44, true), (45, true), (46, true), (47, true), (50, true), (51, true), (52, true), (48, false), (49, true), (53, true), (54, true), (55, true), (56, true), (59, true), (60, true), (61, true), (62, true), (57, false), (58, true), (63, true), (64, true), (65, true)] 66 (One g) wide (by kernel_rfl) (fun _ _ _ _ _ h => h) ?_; (try simp only [List.append_eq, List.cons_append, List.nil_append])
  repeat (refine seq_still (v := ?_) rfl rfl (fun wq hq => ?_) ?_; rotate_left; (focus ((simp only [List.getElem_toArray, List.getElem_cons_zero, List.getElem_cons_succ]; go_simp; try with_reducible rfl); done)); simp only [List.getElem_toArray, List.getElem_cons_zero, List.getElem_cons_succ, Act.put, List.setIfInBounds_toArray, List.set_cons_zero, List.set_cons_succ])
  refine seq_step rfl rfl (fun K hK => ?_); simp only [List.getElem_toArray, List.getElem_cons_zero, List.getElem_cons_succ]; go_simp
  refine (len_calls g r b' k _ _ p9).mono ?_
  rintro e wA ⟨rfl, kA⟩
  refine hK.out _ _ (kA.any) ?_; clear hK; (try simp only [Act.put, List.setIfInBounds_toArray, List.set_cons_zero, List.set_cons_succ])
  have xA := fun w' (h : Kp (One g) wA w') => (kA.any (S := One g)).trans h (fun _ x => .inl x)
  have pA := p9.keep kA
  have qA := q9.keep kA
  clear p9 q9
  repeat (refine seq_still (v := ?_) rfl rfl (fun wq hq => ?_) ?_; rotate_left; (focus ((simp only [List.getElem_toArray, List.getElem_cons_zero, List.getElem_cons_succ]; go_simp; try with_reducible rfl); done)); simp only [List.getElem_toArray, List.getElem_cons_zero, List.getElem_cons_succ, Act.put, List.setIfInBounds_toArray, List.set_cons_zero, List.set_cons_succ])
  refine seq_step rfl rfl (fun K hK => ?_); simp only [List.getElem_toArray, List.getElem_cons_zero, List.getElem_cons_succ]; go_simp
  refine (len_calls g6 r8 _ (k + j) _ _ qA).mono ?_
  rintro e wB ⟨rfl, kB⟩
  have eL : ((b' ++ [109, 111, 114, 101] : List UInt8).length : Int) - ((k + j : Nat) : Int) = (b'.length : Int) - k - j + 4 := by simp; omega
  rw [eL]
  clear eL
  refine hK.out _ _ (kB.any) ?_; clear hK; (try simp only [Act.put, List.setIfInBounds_toArray, List.set_cons_zero, List.set_cons_succ])
  have xB := fun w' (h : Kp (One g) wB w') => xA w' ((kB.any (S := One g)).trans h (fun _ x => .inl x))
  have pB := pA.keep kB
  have qB := qA.keep kB
  clear pA qA
  repeat (refine seq_still (v := ?_) rfl rfl (fun wq hq => ?_) ?_; rotate_left; (focus ((simp only [List.getElem_toArray, List.getElem_cons_zero, List.getElem_cons_succ]; go_simp; try with_reducible rfl); done)); simp only [List.getElem_toArray, List.getElem_cons_zero, List.getElem_cons_succ, Act.put, List.setIfInBounds_toArray, List.set_cons_zero, List.set_cons_succ])
  refine seq_step rfl rfl (fun K hK => ?_); simp only [List.getElem_toArray, List.getElem_cons_zero, List.getElem_cons_succ]; go_simp
  refine (all_calls g r b' k _ _ pB (by omega)).mono ?_
  rintro e wC ⟨vC, rC, rfl, oC, nC, kC⟩
  refine hK.out _ _ (kC.any) ?_; clear hK; (try simp only [Act.put, List.setIfInBounds_toArray, List.set_cons_zero, List.set_cons_succ])
  have xC := fun w' (h : Kp (One g) wC w') => xB w' ((kC.any (S := One g)).trans h (fun _ x => .inl x))
  have sC := oC.rd.strsS (S0 := One g) (fun i hi hj => by have h1 := nC i hi; have h2 : i = g := hj; have h3 := pB.lt; omega) 23 5 9 Try.underlying23 Try.underlying5 Try.underlying9
  have pC := pB.keep kC
  have qC := qB.keep kC
  clear pB qB oC nC
  repeat (refine seq_still (v := ?_) rfl rfl (fun wq hq => ?_) ?_; rotate_left; (focus ((simp only [List.getElem_toArray, List.getElem_cons_zero, List.getElem_cons_succ]; go_simp; try with_reducible rfl); done)); simp only [List.getElem_toArray, List.getElem_cons_zero, List.getElem_cons_succ, Act.put, List.setIfInBounds_toArray, List.set_cons_zero, List.set_cons_succ])
  refine seq_step rfl rfl (fun K hK => ?_); simp only [List.getElem_toArray, List.getElem_cons_zero, List.getElem_cons_succ]; go_simp
  refine (all_calls g6 r8 _ (k + j) _ _ qC (by simp; omega)).mono ?_
  rintro e wD ⟨vD, rD, rfl, oD, nD, kD⟩
  refine hK.out _ _ (kD.any) ?_; clear hK; (try simp only [Act.put, List.setIfInBounds_toArray, List.set_cons_zero, List.set_cons_succ])
  have xD := fun w' (h : Kp (One g) wD w') => xC w' ((kD.any (S := One g)).trans h (fun _ x => .inl x))
  have sD := oD.rd.strsS (S0 := One g) (fun i hi hj => by have h1 := nD i hi; have h2 : i = g := hj; have h3 := pC.lt; omega) 23 5 9 Try.underlying23 Try.underlying5 Try.underlying9
  have pD := pC.keep kD
  clear pC qC oD nD sC
  repeat (refine seq_still (v := ?_) rfl rfl (fun wq hq => ?_) ?_; rotate_left; (focus ((simp only [List.getElem_toArray, List.getElem_cons_zero, List.getElem_cons_succ]; go_simp; try with_reducible rfl); done)); simp only [List.getElem_toArray, List.getElem_cons_zero, List.getElem_cons_succ, Act.put, List.setIfInBounds_toArray, List.set_cons_zero, List.set_cons_succ])
  refine seq_step rfl rfl (fun K hK => ?_); simp only [List.getElem_toArray, List.getElem_cons_zero, List.getElem_cons_succ]; go_simp
  refine (take_calls g r b' k _ 100 _ pD (by omega)).mono ?_
  rintro e wE ⟨vE, rE, rfl, qE, oE, nE, kE⟩
  have et : (b'.drop k).take (tk b' k 100) = b'.drop k := List.take_of_length_le (by rw [List.length_drop]; unfold tk; omega)
  rw [et] at oE
  refine hK.out _ _ (kE) ?_; clear hK; (try simp only [Act.put, List.setIfInBounds_toArray, List.set_cons_zero, List.set_cons_succ])
  have xE := fun w' (h : Kp (One g) wE w') => xD w' (kE.trans h (fun _ x => .inl x))
  have sE := oE.rd.strsS (S0 := One g) (fun i hi hj => by have h1 := nE i hi; have h2 : i = g := hj; have h3 := pD.lt; omega) 23 5 9 Try.underlying23 Try.underlying5 Try.underlying9
  repeat (refine seq_still (v := ?_) rfl rfl (fun wq hq => ?_) ?_; rotate_left; (focus ((simp only [List.getElem_toArray, List.getElem_cons_zero, List.getElem_cons_succ]; go_simp; try with_reducible rfl); done)); simp only [List.getElem_toArray, List.getElem_cons_zero, List.getElem_cons_succ, Act.put, List.setIfInBounds_toArray, List.set_cons_zero, List.set_cons_succ])
  refine seq_nil ?_
  go_wp2
  go_ret
  exact ⟨rfl, (((((K8.seq hd8).seq kA).seq kB).seq kC).seq kD).trans kE (fun i hi => .inr (by rw [show i = g from hi]; exact hgw))⟩

end Go.Proofs.Ythkhdkjebgemeaa

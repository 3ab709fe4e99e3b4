/- The walk of QueueFull: it answers true and writes nothing that was there. -/
import Derived.Test.YthkhdkjebgemeaaQLaw
namespace Go.Proofs.Ythkhdkjebgemeaa
open Go.RowKit
set_option linter.unusedSimpArgs false
set_option linter.unusedVariables false
attribute [local go_sem] max2_of min2_of max_of min_of
attribute [local go_sem] strOf_size strOf_append

set_option maxHeartbeats 2000000 in
theorem full_walk (w : World) (most : Int) (v : Value) (ra : Option Nat) (a : List UInt8) (ha : Rd w v ra (byv a)) (v2 : Value) (rb : Option Nat) (b : List UInt8) (hb : Rd w v2 rb (byv b)) (bd : 0 ≤ most ∧ most ≤ 255) :
    Calls Try.prog 5 #[.int .u8 most, v, v2] w fun e w' => e = .returned (.bool true) ∧ Kp Non w w' := by
  obtain ⟨ra', ha1, hra⟩ := ha.bound
  obtain ⟨rb', hb1, hrb⟩ := hb.bound
  clear ha hb
  obtain ⟨m0, m1⟩ := bd
  go_enter Try.func5, Try.ntmps5
  go_wp2_with fail
  refine (shown_calls _).mono ?_
  rintro e w1 ⟨rfl, k1⟩
  go_wp2_with fail
  refine (qnew_calls most _ (by omega)).mono ?_
  rintro e w2 ⟨g, rfl, hg, q2, k2⟩
  rw [show max most 0 = most by omega] at q2
  have hgw : w.heap.size ≤ g := by have := k1.size; omega
  have K2 := k1.seq k2
  go_wp2_with fail
  refine (short_calls v ra' a _ (ha1.keep K2)).mono ?_
  rintro e w3 ⟨VA, rfl, hA3, k3⟩
  have hA0 := hA3.back (K2.seq k3) hra
  have ha60 : (a.take 60).length ≤ 60 := by simp; omega
  generalize a.take 60 = a' at hA3 hA0 ha60
  go_wp2_with fail
  refine (short_calls v2 rb' b _ (hb1.keep (K2.seq k3))).mono ?_
  rintro e w4 ⟨VB, rfl, hB4, k4⟩
  have K4 := (K2.seq k3).seq k4
  have hB0 := hB4.back K4 hrb
  have hb60 : (b.take 60).length ≤ 60 := by simp; omega
  generalize b.take 60 = b' at hB4 hB0 hb60
  have q4 := (q2.keep k3).keep k4
  clear ha1 hb1 hA3 hB4 k1 k2 k3 k4 K2 q2
  have hA1 := hA0
  have hB1 := hB0
  obtain ⟨AA, ca, rfl, hca, hcam, hx1⟩ := hA0
  obtain ⟨AB, cb, rfl, hcb, hcbm, hx2⟩ := hB0
  clear hx1 hx2
  simp only [byv_length] at hca hcb hA1 hB1 ⊢
  by_cases c1 : (a'.length : Int) ≤ most
  · go_wp2_with fail
    refine (put_yes g none [] 0 most _ _ a' _ q4 (hA1.keep K4) (by simp; omega) (by simp; omega)).mono ?_
    rintro e w5 ⟨r, rfl, q5, n5, k5⟩
    rw [List.nil_append] at q5
    have c2 : decide ((a'.length : Int) ≤ most) = true := by simpa using c1
    have hrn : ∀ i, r = some i → w.heap.size ≤ i := fun i hi => by
      rcases n5 i hi with h | h
      · cases h
      · have := K4.size; omega
    have K5 : Kp Non w w5 := K4.trans k5 (fun i hi => .inr (by
      rcases hi with hi | hi
      · rw [hi]; exact hgw
      · cases hi))
    clear n5 k5 q4 K4
    go_wp2_with fail
    refine (take_calls g r a' 0 most a'.length _ q5 (by omega)).mono ?_
    rintro e w6 ⟨v6, r6, rfl, q6, o6, n6, k6⟩
    have et : tk a' 0 a'.length = a'.length := by unfold tk; omega
    rw [et, Nat.zero_add] at q6
    have K6 : Kp Non w w6 := K5.trans k6 (fun i hi => .inr (by rw [show i = g from hi]; exact hgw))
    clear et o6 n6 k6 q5 K5
    have hB6 := hB1.keep K6
    by_cases c3 : (b'.length : Int) ≤ most - a'.length
    · go_wp2_with fail
      refine (put_yes g r a' a'.length most _ _ b' _ q6 hB6 (by omega) c3).mono ?_
      rintro e w7 ⟨r7, rfl, q7, n7, k7⟩
      have K7 : Kp Non w w7 := K6.trans k7 (fun i hi => .inr (by
        rcases hi with hi | hi
        · rw [hi]; exact hgw
        · exact hrn i hi))
      clear n7 k7 q6 K6 hB6
      have hd7 : Kp Non w7 w7.drew := (Kp.refl Non w7).drew
      have sa0 := (hA1.keep K7).str 23 5 9 Try.underlying23 Try.underlying5 Try.underlying9
      have sb0 := (hB1.keep K7).str 23 5 9 Try.underlying23 Try.underlying5 Try.underlying9
      have sa := ((hA1.keep K7).keep hd7).strs 23 5 9 Try.underlying23 Try.underlying5 Try.underlying9
      have c4 : decide ((a'.length : Int) + b'.length ≤ most) = true := by simp; omega
      go_wp2
      have hT : Hid ((a' ++ b').take a'.length = a') := hid (List.take_left)
      have hT1 : (a' ++ b').length ≤ 120 := by simp; omega
      have hT2 : a'.length ≤ (a' ++ b').length := by simp
      clear sa0 sb0
      generalize a' ++ b' = T at q7 hT hT1 hT2 ⊢
      have hwr : IntKind.i64.wrap ((T.length : Int) - (a'.length : Int)) = (T.length : Int) - (a'.length : Int) := IntWalk.i64_in _ (by omega)
      have hwr2 : IntKind.i64.wrap ((a'.length : Int) + (b'.length : Int)) = (a'.length : Int) + (b'.length : Int) := IntWalk.i64_in _ (by omega)
      have hwr3 : IntKind.i64.wrap most = most := IntWalk.i64_in _ (by omega)
      have q8 := q7.keep hd7
      refine wp_region_seq [(0, true), (1, true), (2, true), (3, true), (4, true), (5, true), (6, true), (7, true), (8, true), (9, true), (10, true), (11, true), (14, true), (12, false), (13, true), (15, true), (16, true), (17, true), (18, true), (21, true), (22, true), (19, false), (20, true), (23, true), (24, true), (25, true), (26, true), (28, true), (29, true), (30, true), (31, true), (32, true), (27, false), (33, true), (34, true), (35, true)] 36 Non wide (by kernel_rfl) (fun _ _ _ _ _ h => h) ?_; (try simp only [List.append_eq, List.cons_append, List.nil_append])
      repeat (refine seq_still (v := ?_) rfl rfl (fun wq hq => ?_) ?_; rotate_left; (focus ((simp only [List.getElem_toArray, List.getElem_cons_zero, List.getElem_cons_succ]; go_simp; try with_reducible rfl); done)); simp only [List.getElem_toArray, List.getElem_cons_zero, List.getElem_cons_succ, Act.put, List.setIfInBounds_toArray, List.set_cons_zero, List.set_cons_succ])
      refine seq_step rfl rfl (fun K hK => ?_); simp only [List.getElem_toArray, List.getElem_cons_zero, List.getElem_cons_succ]; go_simp
      refine (all_calls g r7 T a'.length most _ q8 (by omega)).mono ?_
      rintro e w8 ⟨v8, r8, rfl, o8, n8, k8⟩
      refine hK.out _ _ (k8) ?_; clear hK; (try simp only [Act.put, List.setIfInBounds_toArray, List.set_cons_zero, List.set_cons_succ])
      have hx8 := fun w' (h : Kp Non w8 w') => k8.seq h
      have s8 := o8.rd.strs 23 5 9 Try.underlying23 Try.underlying5 Try.underlying9
      repeat (refine seq_still (v := ?_) rfl rfl (fun wq hq => ?_) ?_; rotate_left; (focus ((simp only [List.getElem_toArray, List.getElem_cons_zero, List.getElem_cons_succ]; go_simp; try with_reducible rfl); done)); simp only [List.getElem_toArray, List.getElem_cons_zero, List.getElem_cons_succ, Act.put, List.setIfInBounds_toArray, List.set_cons_zero, List.set_cons_succ])
      refine seq_step rfl rfl (fun K hK => ?_); simp only [List.getElem_toArray, List.getElem_cons_zero, List.getElem_cons_succ]; go_simp
      refine (taken_calls g r7 T a'.length most _ (q8.keep k8) (by omega)).mono ?_
      rintro e w9 ⟨v9, r9, rfl, o9, n9, k9⟩
      rw [hT.out] at o9
      refine hK.out _ _ (k9) ?_; clear hK; (try simp only [Act.put, List.setIfInBounds_toArray, List.set_cons_zero, List.set_cons_succ])
      have hx9 := fun w' (h : Kp Non w9 w') => hx8 w' (k9.seq h)
      have s9 := o9.rd.strs 23 5 9 Try.underlying23 Try.underlying5 Try.underlying9
      repeat (refine seq_still (v := ?_) rfl rfl (fun wq hq => ?_) ?_; rotate_left; (focus ((simp only [List.getElem_toArray, List.getElem_cons_zero, List.getElem_cons_succ]; go_simp; try with_reducible rfl); done)); simp only [List.getElem_toArray, List.getElem_cons_zero, List.getElem_cons_succ, Act.put, List.setIfInBounds_toArray, List.set_cons_zero, List.set_cons_succ])
      refine seq_step rfl rfl (fun K hK => ?_); simp only [List.getElem_toArray, List.getElem_cons_zero, List.getElem_cons_succ]; go_simp
      refine (len_calls g r7 T a'.length most _ ((q8.keep k8).keep k9)).mono ?_
      rintro e w10 ⟨rfl, k10⟩
      refine hK.out _ _ (k10) ?_; clear hK; (try simp only [Act.put, List.setIfInBounds_toArray, List.set_cons_zero, List.set_cons_succ])
      repeat (refine seq_still (v := ?_) rfl rfl (fun wq hq => ?_) ?_; rotate_left; (focus ((simp only [List.getElem_toArray, List.getElem_cons_zero, List.getElem_cons_succ]; go_simp; try with_reducible rfl); done)); simp only [List.getElem_toArray, List.getElem_cons_zero, List.getElem_cons_succ, Act.put, List.setIfInBounds_toArray, List.set_cons_zero, List.set_cons_succ])
      refine seq_nil ?_
      go_wp2
      go_ret
      exact ⟨rfl, (((K7.seq hd7).seq k8).seq k9).seq k10⟩
    · go_wp2_with fail
      refine (put_no g r a' a'.length most _ _ b' _ q6 hB6 (by omega) (by omega)).mono ?_
      rintro e w7 ⟨rfl, k7⟩
      have q7 := q6.keep k7
      have K7 := K6.seq k7
      clear k7 q6 K6 hB6
      have hd7 : Kp Non w7 w7.drew := (Kp.refl Non w7).drew
      have sa0 := (hA1.keep K7).str 23 5 9 Try.underlying23 Try.underlying5 Try.underlying9
      have sa := ((hA1.keep K7).keep hd7).strs 23 5 9 Try.underlying23 Try.underlying5 Try.underlying9
      have c4 : decide ((a'.length : Int) + b'.length ≤ most) = false := by simp; omega
      go_wp2
      have hT : Hid (a'.take a'.length = a') := hid (List.take_length)
      clear sa0
      have hwr : IntKind.i64.wrap 0 = 0 := IntWalk.i64_in _ (by omega)
      have hwr2 : IntKind.i64.wrap ((a'.length : Int) + (b'.length : Int)) = (a'.length : Int) + (b'.length : Int) := IntWalk.i64_in _ (by omega)
      have hwr3 : IntKind.i64.wrap most = most := IntWalk.i64_in _ (by omega)
      have q8 := q7.keep hd7
      refine wp_region_seq [(0, true), (1, true), (2, true), (3, true), (4, true), (5, true), (6, true), (7, true), (8, true), (9, true), (10, true), (11, true), (14, true), (12, false), (13, true), (15, true), (16, true), (17, true), (18, true), (21, true), (22, true), (19, false), (20, true), (23, true), (24, true), (25, true), (26, true), (28, true), (29, true), (30, true), (31, true), (32, true), (27, false), (33, true), (34, true), (35, true)] 36 Non wide (by kernel_rfl) (fun _ _ _ _ _ h => h) ?_; (try simp only [List.append_eq, List.cons_append, List.nil_append])
      repeat (refine seq_still (v := ?_) rfl rfl (fun wq hq => ?_) ?_; rotate_left; (focus ((simp only [List.getElem_toArray, List.getElem_cons_zero, List.getElem_cons_succ]; go_simp; try with_reducible rfl); done)); simp only [List.getElem_toArray, List.getElem_cons_zero, List.getElem_cons_succ, Act.put, List.setIfInBounds_toArray, List.set_cons_zero, List.set_cons_succ])
      refine seq_step rfl rfl (fun K hK => ?_); simp only [List.getElem_toArray, List.getElem_cons_zero, List.getElem_cons_succ]; go_simp
      refine (all_calls g r a' a'.length most _ q8 (by omega)).mono ?_
      rintro e w8 ⟨v8, r8, rfl, o8, n8, k8⟩
      refine hK.out _ _ (k8) ?_; clear hK; (try simp only [Act.put, List.setIfInBounds_toArray, List.set_cons_zero, List.set_cons_succ])
      have hx8 := fun w' (h : Kp Non w8 w') => k8.seq h
      have s8 := o8.rd.strs 23 5 9 Try.underlying23 Try.underlying5 Try.underlying9
      repeat (refine seq_still (v := ?_) rfl rfl (fun wq hq => ?_) ?_; rotate_left; (focus ((simp only [List.getElem_toArray, List.getElem_cons_zero, List.getElem_cons_succ]; go_simp; try with_reducible rfl); done)); simp only [List.getElem_toArray, List.getElem_cons_zero, List.getElem_cons_succ, Act.put, List.setIfInBounds_toArray, List.set_cons_zero, List.set_cons_succ])
      refine seq_step rfl rfl (fun K hK => ?_); simp only [List.getElem_toArray, List.getElem_cons_zero, List.getElem_cons_succ]; go_simp
      refine (taken_calls g r a' a'.length most _ (q8.keep k8) (by omega)).mono ?_
      rintro e w9 ⟨v9, r9, rfl, o9, n9, k9⟩
      rw [hT.out] at o9
      refine hK.out _ _ (k9) ?_; clear hK; (try simp only [Act.put, List.setIfInBounds_toArray, List.set_cons_zero, List.set_cons_succ])
      have hx9 := fun w' (h : Kp Non w9 w') => hx8 w' (k9.seq h)
      have s9 := o9.rd.strs 23 5 9 Try.underlying23 Try.underlying5 Try.underlying9
      repeat (refine seq_still (v := ?_) rfl rfl (fun wq hq => ?_) ?_; rotate_left; (focus ((simp only [List.getElem_toArray, List.getElem_cons_zero, List.getElem_cons_succ]; go_simp; try with_reducible rfl); done)); simp only [List.getElem_toArray, List.getElem_cons_zero, List.getElem_cons_succ, Act.put, List.setIfInBounds_toArray, List.set_cons_zero, List.set_cons_succ])
      refine seq_step rfl rfl (fun K hK => ?_); simp only [List.getElem_toArray, List.getElem_cons_zero, List.getElem_cons_succ]; go_simp
      refine (len_calls g r a' a'.length most _ ((q8.keep k8).keep k9)).mono ?_
      rintro e w10 ⟨rfl, k10⟩
      refine hK.out _ _ (k10) ?_; clear hK; (try simp only [Act.put, List.setIfInBounds_toArray, List.set_cons_zero, List.set_cons_succ])
      repeat (refine seq_still (v := ?_) rfl rfl (fun wq hq => ?_) ?_; rotate_left; (focus ((simp only [List.getElem_toArray, List.getElem_cons_zero, List.getElem_cons_succ]; go_simp; try with_reducible rfl); done)); simp only [List.getElem_toArray, List.getElem_cons_zero, List.getElem_cons_succ, Act.put, List.setIfInBounds_toArray, List.set_cons_zero, List.set_cons_succ])
      refine seq_nil ?_
      go_wp2
      go_ret
      exact ⟨rfl, (((K7.seq hd7).seq k8).seq k9).seq k10⟩
  · go_wp2_with fail
    refine (put_no g none [] 0 most _ _ a' _ q4 (hA1.keep K4) (by omega) (by simp; omega)).mono ?_
    rintro e w5 ⟨rfl, k5⟩
    have q5 := q4.keep k5
    have c2 : decide ((a'.length : Int) ≤ most) = false := by simp; omega
    go_wp2_with fail
    refine (len_calls g none [] 0 most _ q5).mono ?_
    rintro e w6 ⟨rfl, k6⟩
    go_wp2_with fail
    refine (total_calls g none [] 0 most _ (q5.keep k6)).mono ?_
    rintro e w7 ⟨rfl, k7⟩
    go_wp2_with fail
    refine (all_calls g none [] 0 most _ ((q5.keep k6).keep k7) (by decide)).mono ?_
    rintro e w8 ⟨v8, r8, rfl, o8, n8, k8⟩
    obtain ⟨A8, c8, rfl, _, _⟩ := o8.form
    go_wp2
    go_ret
    exact ⟨rfl, (((K4.seq k5).seq k6).seq k7).seq k8⟩

end Go.Proofs.Ythkhdkjebgemeaa

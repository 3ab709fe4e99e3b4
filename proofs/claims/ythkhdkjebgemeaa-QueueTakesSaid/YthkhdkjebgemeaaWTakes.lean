/- The walk of QueueTakes: it answers true and writes nothing that was there. -/
import Derived.Test.YthkhdkjebgemeaaQLaw
namespace Go.Proofs.Ythkhdkjebgemeaa
open Go.RowKit
set_option linter.unusedSimpArgs false
set_option linter.unusedVariables false
attribute [local go_sem] max2_of min2_of max_of min_of

/-- What holds at the head of QueueTakes' rounds. -/
def TakesInv (w : World) (g : Nat) (r : Option Nat) (b : List UInt8) (n : Nat) (at_ i : Value) (wr : World) : Prop :=
  ∃ (k a : Nat), i = .int .i64 k ∧ at_ = .int .i64 a ∧ k ≤ n ∧ k ≤ 10 ∧ a ≤ b.length ∧ Que wr g r b a 100 ∧ Kp Non w wr

set_option maxHeartbeats 1000000 in
theorem takes_walk (w : World) (v : Value) (rv : Option Nat) (b : List UInt8) (hb : Rd w v rv (byv b)) (v2 : Value) (row : Option Nat) (l : List Int) (hr : Rd w v2 row (l.map (Value.int .i64))) (hq : ∀ n ∈ l, (Lit.int .i64 n).wf = true) :
    Calls Try.prog 4 #[v, v2] w fun e w' => e = .returned (.bool true) ∧ Kp Non w w' := by
  obtain ⟨rw, hb1, hrw⟩ := hb.bound
  clear hb
  obtain ⟨A, c, rfl, hlc, hcm, hcell⟩ := hr
  rw [List.length_map] at hlc ⊢
  unfold maxLen at hcm
  have H := hid hcell
  clear hcell hq
  go_enter Try.func4, Try.ntmps4
  go_wp2_with fail
  refine (shown_calls _).mono ?_
  rintro e w1 ⟨rfl, k1⟩
  go_wp2_with fail
  refine (qnew_calls 100 _ (by omega)).mono ?_
  rintro e w2 ⟨g, rfl, hg, q2, k2⟩
  have hgw : w.heap.size ≤ g := by have := k1.size; omega
  go_wp2_with fail
  refine (short_calls v rw b _ (hb1.keep (k1.seq k2))).mono ?_
  rintro e w3 ⟨V, rfl, hV3, k3⟩
  have q3 := q2.keep k3
  have hb60 : (b.take 60).length ≤ 60 := by simp; omega
  generalize b.take 60 = b' at hV3 hb60
  have hV0 := hV3.back ((k1.seq k2).seq k3) hrw
  clear hb1 b
  go_wp2_with fail
  refine (put_yes g none [] 0 _ _ _ b' _ q3 hV3 (by simp; omega) (by simp; omega)).mono ?_
  rintro e w4 ⟨r, rfl, q4, n4, k4⟩
  rw [List.nil_append] at q4
  have hrn : ∀ i, r = some i → w.heap.size ≤ i := fun i hi => by
    rcases n4 i hi with h | h
    · cases h
    · have := (k1.seq k2).seq k3; have := this.size; omega
  have K4 : Kp Non w w4 := ((k1.seq k2).seq k3).trans k4 (fun i hi => .inr (by
    rcases hi with hi | hi
    · rw [hi]; exact hgw
    · cases hi))
  clear k1 k2 k3 k4 q2 q3 n4 hV3
  go_wp2_with fail
  go_loopw [7, 8] (fun at_ i wr => TakesInv w g r b' l.length at_ i wr) (fun _ i _ => 11 - (intOf i).toNat)
  case atStart => exact ⟨0, 0, rfl, rfl, by omega, by omega, by omega, q4, K4⟩
  case round =>
    obtain ⟨k, a, rfl, rfl, hk1, hk2, ha, q5, K5⟩ := hrel
    have hV5 := hV0.keep K5
    by_cases hend : k < l.length ∧ k < 10
    · obtain ⟨he1, he2⟩ := hend
      obtain ⟨bb, off, rfl, hcell⟩ : ∃ bb off, A = some ⟨bb, off, none⟩ ∧ w.cell? ⟨bb, off + k, none⟩ = some (.int .i64 l[k]) := by
        rcases H.out with h | ⟨bb, off, hA, _, h⟩
        · rw [List.map_eq_nil_iff] at h; subst h; simp at he1
        · exact ⟨bb, off, hA, h k _ (by simp [he1])⟩
      have hcell5 := K5.cell hcell (fun x => x)
      generalize l[k] = x at hcell5
      obtain ⟨t1, t2⟩ := tk_le b' a x ha
      have hV1 := hV0
      obtain ⟨VA, vc, rfl, hvl, hvm, _⟩ := hV0
      rw [byv_length] at hvl hV1 ⊢
      have hb5 : b'.length ≤ 140737488355328 := by omega
      go_wp2_with fail
      rw [← t2]
      refine (take_calls g r b' a 100 x _ q5 hb5).mono ?_
      rintro e w6 ⟨v1, r1, rfl, q6, o6, n6, k6⟩
      generalize tk b' a x = t at t1 q6 o6 ⊢
      clear t2
      have K6 : Kp Non w w6 := K5.trans k6 (fun i hi => .inr (by rw [show i = g from hi]; exact hgw))
      clear hcell5 q5 k6
      have hd6 : Kp Non w6 w6.drew := (Kp.refl Non w6).drew
      have s1 := (o6.rd.keep hd6).strs 23 5 9 Try.underlying23 Try.underlying5 Try.underlying9
      obtain ⟨V2, hV2, hr2⟩ := ((hV1.keep K6).keep hd6).slice_lh Try.underlying23 size8 (a : Int) ((a : Int) + t) a (a + t) rfl (by simp) (by omega) (by rw [byv_length]; omega)
      rw [byv_take, byv_drop, List.drop_take, show a + t - a = t by omega] at hr2
      have s2 := hr2.strs 23 5 9 Try.underlying23 Try.underlying5 Try.underlying9
      have hwr : IntKind.i64.wrap ((a : Int) + t) = (a : Int) + t := IntWalk.i64_in _ (by omega)
      go_wp2
      refine wp_region_seq [(0, true), (1, true), (2, true), (3, true), (4, true), (5, true), (6, true), (7, true), (8, true), (9, true)] 10 Non wide (by kernel_rfl) (fun _ _ _ _ _ h => h) ?_; (try simp only [List.append_eq, List.cons_append, List.nil_append])
      repeat (refine seq_still (v := ?_) rfl rfl (fun wq hq => ?_) ?_; rotate_left; (focus ((simp only [List.getElem_toArray, List.getElem_cons_zero, List.getElem_cons_succ]; go_simp; try with_reducible rfl); done)); simp only [List.getElem_toArray, List.getElem_cons_zero, List.getElem_cons_succ, Act.put, List.setIfInBounds_toArray, List.set_cons_zero, List.set_cons_succ])
      refine seq_nil ?_
      clear s1 s2 hV2 hr2 hwr
      have K7 := K6.seq hd6
      have q7 := q6.keep hd6
      clear hd6 K6 q6 o6 n6
      generalize w6.drew = w7 at K7 q7 ⊢
      go_wp2
      have hd7 : Kp Non w7 w7.drew := (Kp.refl Non w7).drew
      obtain ⟨V3, hV3, hr3⟩ := ((hV1.keep K7).keep hd7).slice_h Try.underlying23 size8 ((a : Int) + t) (a + t) (by simp) (by rw [byv_length]; omega)
      rw [byv_take] at hr3
      have s3 := hr3.strs 23 5 9 Try.underlying23 Try.underlying5 Try.underlying9
      have hwr : IntKind.i64.wrap ((b'.length : Int) - ((a : Int) + t)) = (b'.length : Int) - ((a : Int) + t) := IntWalk.i64_in _ (by omega)
      have q8 := q7.keep hd7
      refine wp_region_seq [(0, true), (2, true), (3, true), (4, true), (5, true), (1, false), (6, true), (7, true), (8, true), (11, true), (12, true), (13, true), (14, true), (9, false), (10, true), (15, true), (16, true), (17, true), (18, true), (20, true), (21, true), (19, false), (22, true), (23, true)] 24 Non wide (by kernel_rfl) (fun _ _ _ _ _ h => h) ?_; (try simp only [List.append_eq, List.cons_append, List.nil_append])
      repeat (refine seq_still (v := ?_) rfl rfl (fun wq hq => ?_) ?_; rotate_left; (focus ((simp only [List.getElem_toArray, List.getElem_cons_zero, List.getElem_cons_succ]; go_simp; try with_reducible rfl); done)); simp only [List.getElem_toArray, List.getElem_cons_zero, List.getElem_cons_succ, Act.put, List.setIfInBounds_toArray, List.set_cons_zero, List.set_cons_succ])
      refine seq_step rfl rfl (fun K hK => ?_); simp only [List.getElem_toArray, List.getElem_cons_zero, List.getElem_cons_succ]; go_simp
      refine (len_calls g r b' (a + t) 100 _ q8).mono ?_
      rintro e w8 ⟨rfl, k8⟩
      refine hK.out _ _ (k8) ?_; clear hK; (try simp only [Act.put, List.setIfInBounds_toArray, List.set_cons_zero, List.set_cons_succ])
      have hx8 := fun w' (h : Kp Non w8 w') => k8.seq h
      repeat (refine seq_still (v := ?_) rfl rfl (fun wq hq => ?_) ?_; rotate_left; (focus ((simp only [List.getElem_toArray, List.getElem_cons_zero, List.getElem_cons_succ]; go_simp; try with_reducible rfl); done)); simp only [List.getElem_toArray, List.getElem_cons_zero, List.getElem_cons_succ, Act.put, List.setIfInBounds_toArray, List.set_cons_zero, List.set_cons_succ])
      refine seq_step rfl rfl (fun K hK => ?_); simp only [List.getElem_toArray, List.getElem_cons_zero, List.getElem_cons_succ]; go_simp
      refine (taken_calls g r b' (a + t) 100 _ (q8.keep k8) hb5).mono ?_
      rintro e w9 ⟨v9, r9, rfl, o9, n9, k9⟩
      refine hK.out _ _ (k9) ?_; clear hK; (try simp only [Act.put, List.setIfInBounds_toArray, List.set_cons_zero, List.set_cons_succ])
      have s9 := o9.rd.strs 23 5 9 Try.underlying23 Try.underlying5 Try.underlying9
      repeat (refine seq_still (v := ?_) rfl rfl (fun wq hq => ?_) ?_; rotate_left; (focus ((simp only [List.getElem_toArray, List.getElem_cons_zero, List.getElem_cons_succ]; go_simp; try with_reducible rfl); done)); simp only [List.getElem_toArray, List.getElem_cons_zero, List.getElem_cons_succ, Act.put, List.setIfInBounds_toArray, List.set_cons_zero, List.set_cons_succ])
      refine seq_step rfl rfl (fun K hK => ?_); simp only [List.getElem_toArray, List.getElem_cons_zero, List.getElem_cons_succ]; go_simp
      refine (total_calls g r b' (a + t) 100 _ ((q8.keep k8).keep k9)).mono ?_
      rintro e w10 ⟨rfl, k10⟩
      refine hK.out _ _ (k10) ?_; clear hK; (try simp only [Act.put, List.setIfInBounds_toArray, List.set_cons_zero, List.set_cons_succ])
      repeat (refine seq_still (v := ?_) rfl rfl (fun wq hq => ?_) ?_; rotate_left; (focus ((simp only [List.getElem_toArray, List.getElem_cons_zero, List.getElem_cons_succ]; go_simp; try with_reducible rfl); done)); simp only [List.getElem_toArray, List.getElem_cons_zero, List.getElem_cons_succ, Act.put, List.setIfInBounds_toArray, List.set_cons_zero, List.set_cons_succ])
      refine seq_nil ?_
      have q10 := ((q8.keep k8).keep k9).keep k10
      have K10 := (((K7.seq hd7).seq k8).seq k9).seq k10
      clear s3 s9 hwr hx8 hV3 hr3 o9 n9 q8 q7 k8 k9 k10 hd7
      go_wp2
      go_roundw
      case rel => exact ⟨k + 1, a + t, by go_num, by go_num, by omega, by omega, by omega, q10, K10⟩
      case measure => simp [intOf]; omega
    · by_cases he1 : k < l.length
      all_goals
        have he2 : k < l.length → ¬ k < 10 := fun h1 h2 => hend ⟨h1, h2⟩
        go_wp2_with fail
        go_ret
        exact ⟨rfl, K5⟩

end Go.Proofs.Ythkhdkjebgemeaa

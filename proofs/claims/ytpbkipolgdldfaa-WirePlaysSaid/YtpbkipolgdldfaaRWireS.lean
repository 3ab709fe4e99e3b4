/- The contracts of the reference's wire: Sent, Written, Write, Finish. -/
import Derived.Test.YtpbkipolgdldfaaRWireC
namespace Go.Proofs.Ytpbkipolgdldfaa
open Go.RowKit
set_option linter.unusedSimpArgs false
set_option linter.unusedVariables false
attribute [local go_sem] max2_of min2_of max_of min_of
variable {g : Nat} {S : Nat → Cn} {F R : Nat → Prop}

set_option maxHeartbeats 1000000 in
theorem rsent_calls (conn : Int) (w : World) (h : RWir w g S F R) (hb : Bd S) :
    Calls Try.prog 29 #[.pointer (some ⟨g, 0, none⟩), .int .i64 conn] w fun e w' => ∃ v r1, e = .returned v ∧ Own w' 5 1 v r1 (gt S conn Cn.sent []).length (byv (gt S conn Cn.sent [])) ∧ (∀ k, r1 = some k → w.heap.size ≤ k) ∧ Kp Non w w' := by
  rcases conn_cases conn with ⟨i, rfl, hi⟩ | hc
  · rw [gt_in S _ _ _ i rfl hi]
    have h1 : (i : Int) < 2 := by omega
    go_enter Try.func29, Try.ntmps29
    go_wp2_with fail
    refine (known_in i _ hi).mono ?_
    rintro e w1 ⟨rfl, k1⟩
    obtain ⟨q, r, vo, _, ro, _, _, _, _, c3, c4, _, hq, ho, _⟩ := (h.keep k1).cells i hi
    have hob := (hb i hi).1
    have hlb := hq.len_le
    have hla := hq.at_le
    have hd := (Kp.refl Non w1).drew
    have HO := hid ho
    obtain ⟨A, c, rfl, _, _, _⟩ := ho
    rw [byv_length] at c4 HO
    have hgl : g < w1.heap.size := by obtain ⟨_, _, _, b, _⟩ := h.keep k1; exact b.lt
    have e3 : ∀ w', Kp (fun k => w1.heap.size ≤ k) w1.drew w' → w'.cell? ⟨g, i * 6 + 3, none⟩ = some (.pointer (some ⟨q, 0, none⟩)) := fun w' hk => hk.cell (hd.cell c3 (fun x => x)) (fun x : w1.heap.size ≤ g => by omega)
    have e4 : ∀ w', Kp (fun k => w1.heap.size ≤ k) w1.drew w' → w'.cell? ⟨g, i * 6 + 4, none⟩ = some (.slice A (S i).old.length c) := fun w' hk => hk.cell (hd.cell c4 (fun x => x)) (fun x : w1.heap.size ≤ g => by omega)
    go_wp2
    refine wp_region_seq [(1, true), (2, true), (3, true), (4, true), (5, true), (6, true), (7, true), (9, true), (10, true), (11, true), (12, true), (13, true), (14, true), (15, true), (0, false), (8, false), (16, false), (17, false), (18, true)] 19 (fun k => w1.heap.size ≤ k) wide (by kernel_rfl) (fun _ _ _ _ _ h => h) ?_; (try simp only [List.append_eq, List.cons_append, List.nil_append])
    repeat (refine seq_still (v := ?_) rfl rfl (fun wq hq => ?_) ?_; rotate_left; (focus ((simp only [List.getElem_toArray, List.getElem_cons_zero, List.getElem_cons_succ]; go_simp; try with_reducible rfl); done)); simp only [List.getElem_toArray, List.getElem_cons_zero, List.getElem_cons_succ, Act.put, List.setIfInBounds_toArray, List.set_cons_zero, List.set_cons_succ])
    refine seq_step rfl rfl (fun K hK => ?_); simp only [List.getElem_toArray, List.getElem_cons_zero, List.getElem_cons_succ]; go_simp
    refine hK.out _ _ (((Kp.refl Non _).alloc _).any) ?_; clear hK; (try simp only [Act.put, List.setIfInBounds_toArray, List.set_cons_zero, List.set_cons_succ])
    have ka := hd.alloc (.cells #[] 5)
    refine seq_step rfl rfl (fun K hK => ?_); simp only [List.getElem_toArray, List.getElem_cons_zero, List.getElem_cons_succ]
    refine wp_append_any _ _ _ _ rfl 5 (.int .u8 0) 1 1 Try.underlying26 info8 rfl _ none 0 [] rfl (Own.nil _ _ _ _) _ (S i).old.length (byv (S i).old) rfl ?hs (by omega) (by omega) ?_
    case hs => have := (HO.out.keep ka).src Try.underlying26 (byv_one _); rw [byv_length] at this; exact this
    intro v2 r2 w2 o2 k2 n2
    have o2' : Own w2 5 1 v2 r2 (S i).old.length (byv (S i).old) := by simpa using o2
    refine hK.out _ _ ((k2.mono (fun _ h => by cases h))) ?_; clear hK; (try simp only [Act.put, List.setIfInBounds_toArray, List.set_cons_zero, List.set_cons_succ])
    have K2 : Kp Non w1 w2 := ka.trans k2 (fun _ h => by cases h)
    refine seq_step rfl rfl (fun K hK => ?_); simp only [List.getElem_toArray, List.getElem_cons_zero, List.getElem_cons_succ]; go_simp
    refine (rtaken_calls q r (S i).b (S i).a 4000 _ (hq.keep K2) (by omega)).mono ?_
    rintro e w3 ⟨v3, r3, rfl, o3, n3, k3⟩
    refine hK.out _ _ (k3.any) ?_; clear hK; (try simp only [Act.put, List.setIfInBounds_toArray, List.set_cons_zero, List.set_cons_succ])
    obtain ⟨A3, c3', rfl, _, _⟩ := o3.form
    refine seq_step rfl rfl (fun K hK => ?_); simp only [List.getElem_toArray, List.getElem_cons_zero, List.getElem_cons_succ]
    refine wp_append_any _ _ _ _ rfl 5 (.int .u8 0) 1 1 Try.underlying26 info8 rfl _ r2 (S i).old.length (byv (S i).old) rfl (o2'.keep k3) _ (S i).a (byv ((S i).b.take (S i).a)) rfl ?hs2 (by omega) (by omega) ?_
    case hs2 => have := o3.rd.src Try.underlying26 (byv_one _); rw [byv_length, List.length_take, Nat.min_eq_left hla] at this; exact this
    intro v4 r4 w4 o4 k4 n4
    have hr2 : ∀ k, r2 = some k → w1.heap.size ≤ k := fun k hk => by
      rcases n2 k hk with x | x
      · cases x
      · simp at x; omega
    have K4 : Kp Non w1 w4 := (K2.seq k3).trans k4 (fun k hk => .inr (hr2 k hk))
    refine hK.out _ _ (k4.mono hr2) ?_; clear hK; (try simp only [Act.put, List.setIfInBounds_toArray, List.set_cons_zero, List.set_cons_succ])
    repeat (refine seq_still (v := ?_) rfl rfl (fun wq hq => ?_) ?_; rotate_left; (focus ((simp only [List.getElem_toArray, List.getElem_cons_zero, List.getElem_cons_succ]; go_simp; try with_reducible rfl); done)); simp only [List.getElem_toArray, List.getElem_cons_zero, List.getElem_cons_succ, Act.put, List.setIfInBounds_toArray, List.set_cons_zero, List.set_cons_succ])
    refine seq_nil ?_
    go_wp2
    go_ret
    refine ⟨v4, r4, rfl, ?_, fun k hk => ?_, k1.seq K4⟩
    · rw [← byv_append] at o4
      have hl : ((S i).old ++ (S i).b.take (S i).a).length = (S i).old.length + (S i).a := by simp [hla]
      rw [show (S i).sent = (S i).old ++ (S i).b.take (S i).a from rfl, hl]
      exact o4
    · have s1 := k1.size
      have s2 := K2.size
      have s3 := k3.size
      rcases n4 k hk with x | x
      · have := hr2 k x; omega
      · omega
  · rw [gt_out S conn _ _ hc]
    go_enter Try.func29, Try.ntmps29
    go_wp2_with fail
    refine (known_out conn _ hc).mono ?_
    rintro e w1 ⟨rfl, k1⟩
    go_wp2
    go_ret
    exact ⟨_, none, rfl, Own.nil _ _ _ _, (fun k hk => by cases hk), k1⟩

set_option maxHeartbeats 1000000 in
theorem rwritten_calls (conn : Int) (w : World) (h : RWir w g S F R) (hb : Bd S) :
    Calls Try.prog 30 #[.pointer (some ⟨g, 0, none⟩), .int .i64 conn] w fun e w' => ∃ v r1, e = .returned v ∧ Own w' 5 1 v r1 (gt S conn Cn.written []).length (byv (gt S conn Cn.written [])) ∧ (∀ k, r1 = some k → w.heap.size ≤ k) ∧ Kp Non w w' := by
  rcases conn_cases conn with ⟨i, rfl, hi⟩ | hc
  · rw [gt_in S _ _ _ i rfl hi]
    have h1 : (i : Int) < 2 := by omega
    go_enter Try.func30, Try.ntmps30
    go_wp2_with fail
    refine (known_in i _ hi).mono ?_
    rintro e w1 ⟨rfl, k1⟩
    obtain ⟨q, r, _, vo, _, ro, _, _, _, c3, _, c4, hq, _, ho, _⟩ := (h.keep k1).cells i hi
    have hob := (hb i hi).2
    have hlb := hq.len_le
    have hla := hq.at_le
    have hd := (Kp.refl Non w1).drew
    obtain ⟨u, hqb, hqo, _, _, _⟩ := hq
    have d2 := hqb.cell 2
    have hql := hqb.lt
    simp at d2
    have HQ := hid hqo
    obtain ⟨A3, c3', rfl, _, _⟩ := hqo.form
    clear hqo
    have e2 : ∀ w', Kp (fun k => w1.heap.size ≤ k) w1.drew w' → w'.cell? ⟨q, 2, none⟩ = some (.slice A3 (S i).b.length c3') := fun w' hk => hk.cell (hd.cell d2 (fun x => x)) (fun x : w1.heap.size ≤ q => by omega)
    have HO := hid ho
    obtain ⟨A, c, rfl, _, _, _⟩ := ho
    rw [byv_length] at c4 HO
    have hgl : g < w1.heap.size := by obtain ⟨_, _, _, b, _⟩ := h.keep k1; exact b.lt
    have e3 : ∀ w', Kp (fun k => w1.heap.size ≤ k) w1.drew w' → w'.cell? ⟨g, i * 6 + 3, none⟩ = some (.pointer (some ⟨q, 0, none⟩)) := fun w' hk => hk.cell (hd.cell c3 (fun x => x)) (fun x : w1.heap.size ≤ g => by omega)
    have e4 : ∀ w', Kp (fun k => w1.heap.size ≤ k) w1.drew w' → w'.cell? ⟨g, i * 6 + 5, none⟩ = some (.slice A (S i).wrote.length c) := fun w' hk => hk.cell (hd.cell c4 (fun x => x)) (fun x : w1.heap.size ≤ g => by omega)
    go_wp2
    refine wp_region_seq [(1, true), (2, true), (3, true), (4, true), (5, true), (6, true), (7, true), (9, true), (10, true), (11, true), (12, true), (13, true), (14, true), (15, true), (16, true), (17, true), (18, true), (0, false), (8, false), (19, false), (20, true)] 21 (fun k => w1.heap.size ≤ k) wide (by kernel_rfl) (fun _ _ _ _ _ h => h) ?_; (try simp only [List.append_eq, List.cons_append, List.nil_append])
    repeat (refine seq_still (v := ?_) rfl rfl (fun wq hq => ?_) ?_; rotate_left; (focus ((simp only [List.getElem_toArray, List.getElem_cons_zero, List.getElem_cons_succ]; go_simp; try with_reducible rfl); done)); simp only [List.getElem_toArray, List.getElem_cons_zero, List.getElem_cons_succ, Act.put, List.setIfInBounds_toArray, List.set_cons_zero, List.set_cons_succ])
    refine seq_step rfl rfl (fun K hK => ?_); simp only [List.getElem_toArray, List.getElem_cons_zero, List.getElem_cons_succ]; go_simp
    refine hK.out _ _ (((Kp.refl Non _).alloc _).any) ?_; clear hK; (try simp only [Act.put, List.setIfInBounds_toArray, List.set_cons_zero, List.set_cons_succ])
    have ka := hd.alloc (.cells #[] 5)
    refine seq_step rfl rfl (fun K hK => ?_); simp only [List.getElem_toArray, List.getElem_cons_zero, List.getElem_cons_succ]
    refine wp_append_any _ _ _ _ rfl 5 (.int .u8 0) 1 1 Try.underlying26 info8 rfl _ none 0 [] rfl (Own.nil _ _ _ _) _ (S i).wrote.length (byv (S i).wrote) rfl ?hs (by omega) (by omega) ?_
    case hs => have := (HO.out.keep ka).src Try.underlying26 (byv_one _); rw [byv_length] at this; exact this
    intro v2 r2 w2 o2 k2 n2
    have o2' : Own w2 5 1 v2 r2 (S i).wrote.length (byv (S i).wrote) := by simpa using o2
    refine hK.out _ _ ((k2.mono (fun _ h => by cases h))) ?_; clear hK; (try simp only [Act.put, List.setIfInBounds_toArray, List.set_cons_zero, List.set_cons_succ])
    have K2 : Kp Non w1 w2 := ka.trans k2 (fun _ h => by cases h)
    refine seq_step rfl rfl (fun K hK => ?_); simp only [List.getElem_toArray, List.getElem_cons_zero, List.getElem_cons_succ]
    refine wp_append_any _ _ _ _ rfl 5 (.int .u8 0) 1 1 Try.underlying26 info8 rfl _ r2 (S i).wrote.length (byv (S i).wrote) rfl o2' _ (S i).b.length (byv (S i).b) rfl ?hs2 (by omega) (by omega) ?_
    case hs2 => have := (HQ.out.keep K2).rd.src Try.underlying26 (byv_one _); rw [byv_length] at this; exact this
    intro v4 r4 w4 o4 k4 n4
    have hr2 : ∀ k, r2 = some k → w1.heap.size ≤ k := fun k hk => by
      rcases n2 k hk with x | x
      · cases x
      · simp at x; omega
    have K4 : Kp Non w1 w4 := K2.trans k4 (fun k hk => .inr (hr2 k hk))
    refine hK.out _ _ (k4.mono hr2) ?_; clear hK; (try simp only [Act.put, List.setIfInBounds_toArray, List.set_cons_zero, List.set_cons_succ])
    repeat (refine seq_still (v := ?_) rfl rfl (fun wq hq => ?_) ?_; rotate_left; (focus ((simp only [List.getElem_toArray, List.getElem_cons_zero, List.getElem_cons_succ]; go_simp; try with_reducible rfl); done)); simp only [List.getElem_toArray, List.getElem_cons_zero, List.getElem_cons_succ, Act.put, List.setIfInBounds_toArray, List.set_cons_zero, List.set_cons_succ])
    refine seq_nil ?_
    go_wp2
    go_ret
    refine ⟨v4, r4, rfl, ?_, fun k hk => ?_, k1.seq K4⟩
    · rw [← byv_append] at o4
      have hl : ((S i).wrote ++ (S i).b).length = (S i).wrote.length + (S i).b.length := by simp
      rw [show (S i).written = (S i).wrote ++ (S i).b from rfl, hl]
      exact o4
    · have s1 := k1.size
      have s2 := K2.size
      rcases n4 k hk with x | x
      · have := hr2 k x; omega
      · omega
  · rw [gt_out S conn _ _ hc]
    go_enter Try.func30, Try.ntmps30
    go_wp2_with fail
    refine (known_out conn _ hc).mono ?_
    rintro e w1 ⟨rfl, k1⟩
    go_wp2
    go_ret
    exact ⟨_, none, rfl, Own.nil _ _ _ _, (fun k hk => by cases hk), k1⟩

end Go.Proofs.Ytpbkipolgdldfaa

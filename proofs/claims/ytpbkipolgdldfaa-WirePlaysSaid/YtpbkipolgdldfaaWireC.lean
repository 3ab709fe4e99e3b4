/- The contracts of the wire's small functions. -/
import Derived.Test.YtpbkipolgdldfaaWire
namespace Go.Proofs.Ytpbkipolgdldfaa
open Go.RowKit
set_option linter.unusedSimpArgs false
set_option linter.unusedVariables false
attribute [local go_sem] max2_of min2_of max_of min_of

theorem at_in (g : Nat) (conn : Int) (i : Nat) (w : World) (hc : conn = i) (hi : i < 2) :
    Calls Try.prog 33 #[.pointer (some ⟨g, 0, none⟩), .int .i64 conn] w fun e w' => e = .returned (.pointer (some ⟨g, i * 6, none⟩)) ∧ Kp Non w w' := by
  subst hc
  have h1 : (i : Int) < 2 := by omega
  have h2 : decide ((i : Int) < 0) = false := by simp
  have h3 : decide ((2 : Int) ≤ (i : Int)) = false := by simp; omega
  go_enter Try.func33, Try.ntmps33
  go_wp2
  go_ret
  exact ⟨rfl, Kp.refl _ _⟩

theorem at_out (g : Nat) (conn : Int) (w : World) (hc : conn < 0 ∨ 2 ≤ conn) :
    Calls Try.prog 33 #[.pointer (some ⟨g, 0, none⟩), .int .i64 conn] w fun e w' => e = .returned (.pointer none) ∧ Kp Non w w' := by
  by_cases h : conn < 0
  · go_enter Try.func33, Try.ntmps33
    go_wp2
    go_ret
    exact ⟨rfl, Kp.refl _ _⟩
  · have h2 : decide (conn < 0) = false := by simp; omega
    have h3 : decide ((2 : Int) ≤ conn) = true := by simp; omega
    go_enter Try.func33, Try.ntmps33
    go_wp2
    go_ret
    exact ⟨rfl, Kp.refl _ _⟩

theorem out_none (w : World) : Calls Try.prog 39 #[.pointer none] w fun e w' => e = .returned (.bool false) ∧ Kp Non w w' := by
  go_enter Try.func39, Try.ntmps39
  go_wp2
  go_ret
  exact ⟨rfl, Kp.refl _ _⟩

theorem out_some (g o : Nat) (st : Int) (w : World) (c0 : w.cell? ⟨g, o, none⟩ = some (.int .i64 st)) :
    Calls Try.prog 39 #[.pointer (some ⟨g, o, none⟩)] w fun e w' => e = .returned (.bool (outF st)) ∧ Kp Non w w' := by
  by_cases h2 : st = 2
  · subst h2
    go_enter Try.func39, Try.ntmps39
    go_wp2
    go_ret
    exact ⟨rfl, Kp.refl _ _⟩
  · have e2 : (st == 2) = false := by simpa using h2
    by_cases h3 : st = 3
    · subst h3
      go_enter Try.func39, Try.ntmps39
      go_wp2
      go_ret
      exact ⟨rfl, Kp.refl _ _⟩
    · have e3 : (st == 3) = false := by simpa using h3
      go_enter Try.func39, Try.ntmps39
      go_wp2
      go_ret
      exact ⟨by simp [outF, h2, h3], Kp.refl _ _⟩

theorem sent1_calls (g o q : Nat) (r : Option Nat) (b : List UInt8) (a : Nat) (vo : Value) (ro : Option Nat) (old : List UInt8) (w : World) (c3 : w.cell? ⟨g, o + 3, none⟩ = some (.pointer (some ⟨q, 0, none⟩))) (c4 : w.cell? ⟨g, o + 4, none⟩ = some vo)
    (hq : Que w q r b a 4000) (ho : Rd w vo ro (byv old)) (hl : old.length ≤ 35184372088832) :
    Calls Try.prog 34 #[.pointer (some ⟨g, o, none⟩)] w fun e w' => ∃ v r1, e = .returned v ∧ Own w' 5 1 v r1 (old ++ b.take a).length (byv (old ++ b.take a)) ∧ (∀ k, r1 = some k → w.heap.size ≤ k) ∧ Kp Non w w' := by
  have hb := hq.len_le
  have ha := hq.at_le
  have hd := (Kp.refl Non w).drew
  have HO := hid ho
  obtain ⟨A, c, rfl, _, _, _⟩ := ho
  rw [byv_length] at c4 HO
  have e3 : ∀ w', Kp Non w.drew w' → w'.cell? ⟨g, o + 3, none⟩ = some (.pointer (some ⟨q, 0, none⟩)) := fun w' hk => (hd.seq hk).cell c3 (fun x => x)
  have e4 : ∀ w', Kp Non w.drew w' → w'.cell? ⟨g, o + 4, none⟩ = some (.slice A old.length c) := fun w' hk => (hd.seq hk).cell c4 (fun x => x)
  go_enter Try.func34, Try.ntmps34
  go_wp2
  refine wp_region_seq [(0, true), (1, true), (2, true), (3, true), (4, true), (5, true), (6, true), (7, true), (8, false), (9, false), (10, false), (11, true)] 12 Non wide (by kernel_rfl) (fun _ _ _ _ _ h => h) ?_; (try simp only [List.append_eq, List.cons_append, List.nil_append])
  repeat (refine seq_still (v := ?_) rfl rfl (fun wq hq => ?_) ?_; rotate_left; (focus ((simp only [List.getElem_toArray, List.getElem_cons_zero, List.getElem_cons_succ]; go_simp; try with_reducible rfl); done)); simp only [List.getElem_toArray, List.getElem_cons_zero, List.getElem_cons_succ, Act.put, List.setIfInBounds_toArray, List.set_cons_zero, List.set_cons_succ])
  refine seq_step rfl rfl (fun K hK => ?_); simp only [List.getElem_toArray, List.getElem_cons_zero, List.getElem_cons_succ]; go_simp
  refine (taken_calls q r b a 4000 _ (hq.keep hd) (by omega)).mono ?_
  rintro e w1 ⟨v1, r1, rfl, o1, n1, k1⟩
  refine hK.out _ _ (k1) ?_; clear hK; (try simp only [Act.put, List.setIfInBounds_toArray, List.set_cons_zero, List.set_cons_succ])
  have K1 := hd.seq k1
  obtain ⟨A1, c1, rfl, _, _⟩ := o1.form
  have hB := Blk.new w1 #[.slice A old.length c, .slice A1 a c1] 26
  have k2 := (Kp.refl Non w1).alloc (.cells #[.slice A old.length c, .slice A1 a c1] 26)
  refine seq_step rfl rfl (fun K hK => ?_); simp only [List.getElem_toArray, List.getElem_cons_zero, List.getElem_cons_succ]; go_simp
  refine hK.out _ _ (((Kp.refl _ _).alloc _)) ?_; clear hK; (try simp only [Act.put, List.setIfInBounds_toArray, List.set_cons_zero, List.set_cons_succ])
  generalize w1.alloc (.cells #[.slice A old.length c, .slice A1 a c1] 26) = w2 at hB k2 ⊢
  refine seq_step rfl rfl (fun K hK => ?_); simp only [List.getElem_toArray, List.getElem_cons_zero, List.getElem_cons_succ]; go_simp
  refine (concat_calls w1.heap.size _ _ _ _ old (b.take a) _ hB ((HO.out.keep K1).keep k2) ((o1.keep k2).rd) (by simp; omega)).mono ?_
  rintro e w3 ⟨v3, r3, rfl, o3, n3, k3⟩
  refine hK.out _ _ (k3) ?_; clear hK; (try simp only [Act.put, List.setIfInBounds_toArray, List.set_cons_zero, List.set_cons_succ])
  repeat (refine seq_still (v := ?_) rfl rfl (fun wq hq => ?_) ?_; rotate_left; (focus ((simp only [List.getElem_toArray, List.getElem_cons_zero, List.getElem_cons_succ]; go_simp; try with_reducible rfl); done)); simp only [List.getElem_toArray, List.getElem_cons_zero, List.getElem_cons_succ, Act.put, List.setIfInBounds_toArray, List.set_cons_zero, List.set_cons_succ])
  refine seq_nil ?_
  go_wp2
  go_ret
  exact ⟨v3, r3, rfl, o3, fun k hk => by have := n3 k hk; have := (K1.seq k2).size; omega, (K1.seq k2).seq k3⟩

theorem written1_calls (g o q : Nat) (r : Option Nat) (b : List UInt8) (a : Nat) (vo : Value) (ro : Option Nat) (old : List UInt8) (w : World) (c3 : w.cell? ⟨g, o + 3, none⟩ = some (.pointer (some ⟨q, 0, none⟩))) (c4 : w.cell? ⟨g, o + 5, none⟩ = some vo)
    (hq : Que w q r b a 4000) (ho : Rd w vo ro (byv old)) (hl : old.length ≤ 35184372088832) :
    Calls Try.prog 35 #[.pointer (some ⟨g, o, none⟩)] w fun e w' => ∃ v r1, e = .returned v ∧ Own w' 5 1 v r1 (old ++ b).length (byv (old ++ b)) ∧ (∀ k, r1 = some k → w.heap.size ≤ k) ∧ Kp Non w w' := by
  have hb := hq.len_le
  have hd := (Kp.refl Non w).drew
  have HO := hid ho
  obtain ⟨A, c, rfl, _, _, _⟩ := ho
  rw [byv_length] at c4 HO
  have e3 : ∀ w', Kp Non w.drew w' → w'.cell? ⟨g, o + 3, none⟩ = some (.pointer (some ⟨q, 0, none⟩)) := fun w' hk => (hd.seq hk).cell c3 (fun x => x)
  have e4 : ∀ w', Kp Non w.drew w' → w'.cell? ⟨g, o + 5, none⟩ = some (.slice A old.length c) := fun w' hk => (hd.seq hk).cell c4 (fun x => x)
  go_enter Try.func35, Try.ntmps35
  go_wp2
  refine wp_region_seq [(0, true), (1, true), (2, true), (3, true), (4, true), (5, true), (6, true), (7, true), (8, false), (9, false), (10, false), (11, true)] 12 Non wide (by kernel_rfl) (fun _ _ _ _ _ h => h) ?_; (try simp only [List.append_eq, List.cons_append, List.nil_append])
  repeat (refine seq_still (v := ?_) rfl rfl (fun wq hq => ?_) ?_; rotate_left; (focus ((simp only [List.getElem_toArray, List.getElem_cons_zero, List.getElem_cons_succ]; go_simp; try with_reducible rfl); done)); simp only [List.getElem_toArray, List.getElem_cons_zero, List.getElem_cons_succ, Act.put, List.setIfInBounds_toArray, List.set_cons_zero, List.set_cons_succ])
  refine seq_step rfl rfl (fun K hK => ?_); simp only [List.getElem_toArray, List.getElem_cons_zero, List.getElem_cons_succ]; go_simp
  refine (all_calls q r b a 4000 _ (hq.keep hd) (by omega)).mono ?_
  rintro e w1 ⟨v1, r1, rfl, o1, n1, k1⟩
  refine hK.out _ _ (k1) ?_; clear hK; (try simp only [Act.put, List.setIfInBounds_toArray, List.set_cons_zero, List.set_cons_succ])
  have K1 := hd.seq k1
  obtain ⟨A1, c1, rfl, _, _⟩ := o1.form
  have hB := Blk.new w1 #[.slice A old.length c, .slice A1 b.length c1] 26
  have k2 := (Kp.refl Non w1).alloc (.cells #[.slice A old.length c, .slice A1 b.length c1] 26)
  refine seq_step rfl rfl (fun K hK => ?_); simp only [List.getElem_toArray, List.getElem_cons_zero, List.getElem_cons_succ]; go_simp
  refine hK.out _ _ (((Kp.refl _ _).alloc _)) ?_; clear hK; (try simp only [Act.put, List.setIfInBounds_toArray, List.set_cons_zero, List.set_cons_succ])
  generalize w1.alloc (.cells #[.slice A old.length c, .slice A1 b.length c1] 26) = w2 at hB k2 ⊢
  refine seq_step rfl rfl (fun K hK => ?_); simp only [List.getElem_toArray, List.getElem_cons_zero, List.getElem_cons_succ]; go_simp
  refine (concat_calls w1.heap.size _ _ _ _ old b _ hB ((HO.out.keep K1).keep k2) ((o1.keep k2).rd) (by omega)).mono ?_
  rintro e w3 ⟨v3, r3, rfl, o3, n3, k3⟩
  refine hK.out _ _ (k3) ?_; clear hK; (try simp only [Act.put, List.setIfInBounds_toArray, List.set_cons_zero, List.set_cons_succ])
  repeat (refine seq_still (v := ?_) rfl rfl (fun wq hq => ?_) ?_; rotate_left; (focus ((simp only [List.getElem_toArray, List.getElem_cons_zero, List.getElem_cons_succ]; go_simp; try with_reducible rfl); done)); simp only [List.getElem_toArray, List.getElem_cons_zero, List.getElem_cons_succ, Act.put, List.setIfInBounds_toArray, List.set_cons_zero, List.set_cons_succ])
  refine seq_nil ?_
  go_wp2
  go_ret
  exact ⟨v3, r3, rfl, o3, fun k hk => by have := n3 k hk; have := (K1.seq k2).size; omega, (K1.seq k2).seq k3⟩

end Go.Proofs.Ytpbkipolgdldfaa

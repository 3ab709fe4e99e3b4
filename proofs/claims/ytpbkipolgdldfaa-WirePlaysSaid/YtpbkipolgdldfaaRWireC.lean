/- The contracts of the reference's wire: what it tells. -/
import Derived.Test.YtpbkipolgdldfaaRWire
namespace Go.Proofs.Ytpbkipolgdldfaa
open Go.RowKit
set_option linter.unusedSimpArgs false
set_option linter.unusedVariables false
attribute [local go_sem] max2_of min2_of max_of min_of

theorem known_calls (conn : Int) (w : World) :
    Calls Try.prog 46 #[.int .i64 conn] w fun e w' => e = .returned (.bool (decide (0 ≤ conn ∧ conn < 2))) ∧ Kp Non w w' := by
  by_cases h0 : conn = 0
  · subst h0
    go_enter Try.func46, Try.ntmps46
    go_wp2
    go_ret
    exact ⟨rfl, Kp.refl _ _⟩
  · have e0 : (conn == 0) = false := by simpa using h0
    by_cases h1 : conn = 1
    · subst h1
      go_enter Try.func46, Try.ntmps46
      go_wp2
      go_ret
      exact ⟨rfl, Kp.refl _ _⟩
    · have e1 : (conn == 1) = false := by simpa using h1
      have hd : ¬ (0 ≤ conn ∧ conn < 2) := by omega
      go_enter Try.func46, Try.ntmps46
      go_wp2
      go_ret
      exact ⟨by simp [hd], Kp.refl _ _⟩

theorem known_in (i : Nat) (w : World) (hi : i < 2) :
    Calls Try.prog 46 #[.int .i64 i] w fun e w' => e = .returned (.bool true) ∧ Kp Non w w' := by
  refine (known_calls i w).mono ?_
  rintro e w1 ⟨rfl, k⟩
  have : (0 : Int) ≤ i ∧ (i : Int) < 2 := by omega
  exact ⟨by simp [this], k⟩
theorem known_out (conn : Int) (w : World) (hc : conn < 0 ∨ 2 ≤ conn) :
    Calls Try.prog 46 #[.int .i64 conn] w fun e w' => e = .returned (.bool false) ∧ Kp Non w w' := by
  refine (known_calls conn w).mono ?_
  rintro e w1 ⟨rfl, k⟩
  have : ¬ ((0 : Int) ≤ conn ∧ conn < 2) := by omega
  exact ⟨by simp only [this, decide_false], k⟩

variable {g : Nat} {S : Nat → Cn} {F R : Nat → Prop}

theorem rstate_calls (conn : Int) (w : World) (h : RWir w g S F R) :
    Calls Try.prog 27 #[.pointer (some ⟨g, 0, none⟩), .int .i64 conn] w fun e w' => e = .returned (.int .i64 (gt S conn Cn.st 0)) ∧ Kp Non w w' := by
  rcases conn_cases conn with ⟨i, rfl, hi⟩ | hc
  · rw [gt_in S _ _ _ i rfl hi]
    have h1 : (i : Int) < 2 := by omega
    go_enter Try.func27, Try.ntmps27
    go_wp2_with fail
    refine (known_in i _ hi).mono ?_
    rintro e w1 ⟨rfl, k1⟩
    obtain ⟨_, _, _, _, _, _, c0, _⟩ := (h.keep k1).cells i hi
    go_wp2
    go_ret
    exact ⟨rfl, k1⟩
  · rw [gt_out S conn _ _ hc]
    go_enter Try.func27, Try.ntmps27
    go_wp2_with fail
    refine (known_out conn _ hc).mono ?_
    rintro e w1 ⟨rfl, k1⟩
    go_wp2
    go_ret
    exact ⟨rfl, k1⟩

theorem ropen_calls (conn : Int) (w : World) (h : RWir w g S F R) :
    Calls Try.prog 43 #[.pointer (some ⟨g, 0, none⟩), .int .i64 conn] w fun e w' => e = .returned (.bool (gt S conn (fun X => outF X.st) false)) ∧ Kp Non w w' := by
  rcases conn_cases conn with ⟨i, rfl, hi⟩ | hc
  · rw [gt_in S _ _ _ i rfl hi]
    go_enter Try.func43, Try.ntmps43
    go_wp2_with fail
    refine (rstate_calls i _ h).mono ?_
    rintro e w1 ⟨rfl, k1⟩
    rw [gt_in S _ _ _ i rfl hi]
    generalize hst : (S i).st = st
    have HS := hid hst
    clear hst
    by_cases h2 : st = 2
    · subst h2
      go_wp2_with fail
      refine (known_in i _ hi).mono ?_
      rintro e w2 ⟨rfl, k2⟩
      go_wp2
      go_ret
      exact ⟨by simp [outF, HS.out], k1.seq k2⟩
    · have e2 : (st == 2) = false := by simpa using h2
      by_cases h3 : st = 3
      · subst h3
        go_wp2_with fail
        refine (known_in i _ hi).mono ?_
        rintro e w2 ⟨rfl, k2⟩
        go_wp2
        go_ret
        exact ⟨by simp [outF, HS.out], k1.seq k2⟩
      · have e3 : (st == 3) = false := by simpa using h3
        go_wp2_with fail
        refine (known_in i _ hi).mono ?_
        rintro e w2 ⟨rfl, k2⟩
        go_wp2
        go_ret
        exact ⟨by simp [outF, HS.out, h2, h3], k1.seq k2⟩
  · rw [gt_out S conn _ _ hc]
    go_enter Try.func43, Try.ntmps43
    go_wp2_with fail
    refine (rstate_calls conn _ h).mono ?_
    rintro e w1 ⟨rfl, k1⟩
    go_wp2_with fail
    refine (known_out conn _ hc).mono ?_
    rintro e w2 ⟨rfl, k2⟩
    go_wp2
    go_ret
    exact ⟨rfl, k1.seq k2⟩

theorem rfinished_calls (conn : Int) (w : World) (h : RWir w g S F R) :
    Calls Try.prog 31 #[.pointer (some ⟨g, 0, none⟩), .int .i64 conn] w fun e w' => e = .returned (.bool (gt S conn Cn.done false)) ∧ Kp Non w w' := by
  rcases conn_cases conn with ⟨i, rfl, hi⟩ | hc
  · rw [gt_in S _ _ _ i rfl hi]
    have h1 : (i : Int) < 2 := by omega
    go_enter Try.func31, Try.ntmps31
    go_wp2_with fail
    refine (known_in i _ hi).mono ?_
    rintro e w1 ⟨rfl, k1⟩
    obtain ⟨_, _, _, _, _, _, _, _, c2, _⟩ := (h.keep k1).cells i hi
    go_wp2
    go_ret
    exact ⟨rfl, k1⟩
  · rw [gt_out S conn _ _ hc]
    go_enter Try.func31, Try.ntmps31
    go_wp2_with fail
    refine (known_out conn _ hc).mono ?_
    rintro e w1 ⟨rfl, k1⟩
    go_wp2
    go_ret
    exact ⟨rfl, k1⟩

theorem rwaits_calls (conn : Int) (w : World) (h : RWir w g S F R) :
    Calls Try.prog 28 #[.pointer (some ⟨g, 0, none⟩), .int .i64 conn] w fun e w' => e = .returned (.int .i64 (gt S conn Cn.waits 0)) ∧ Kp Non w w' := by
  rcases conn_cases conn with ⟨i, rfl, hi⟩ | hc
  · rw [gt_in S _ _ _ i rfl hi]
    have h1 : (i : Int) < 2 := by omega
    go_enter Try.func28, Try.ntmps28
    go_wp2_with fail
    refine (ropen_calls i _ h).mono ?_
    rintro e w1 ⟨rfl, k1⟩
    rw [gt_in S _ _ _ i rfl hi]
    cases hof : outF (S i).st with
    | false =>
      go_wp2_with fail
      go_ret
      exact ⟨by simp [Cn.waits, hof], k1⟩
    | true =>
      obtain ⟨q, r, _, _, _, _, _, _, _, c3, _, _, hq, _⟩ := (h.keep k1).cells i hi
      have hb := hq.len_le
      have ha := hq.at_le
      obtain ⟨u, h1', h2, _, _, _⟩ := hq
      obtain ⟨A, c, rfl, _, _⟩ := h2.form
      have d1 := h1'.cell 1
      have d2 := h1'.cell 2
      simp at d1 d2
      have e3 : ∀ w', Kp Non w1.drew w' → w'.cell? ⟨g, i * 6 + 3, none⟩ = some (.pointer (some ⟨q, 0, none⟩)) := fun w' hk => (((Kp.refl Non w1).drew).seq hk).cell c3 (fun x => x)
      have e1 : ∀ w', Kp Non w1.drew w' → w'.cell? ⟨q, 1, none⟩ = some (.int .i64 (S i).a) := fun w' hk => (((Kp.refl Non w1).drew).seq hk).cell d1 (fun x => x)
      have e2 : ∀ w', Kp Non w1.drew w' → w'.cell? ⟨q, 2, none⟩ = some (.slice A (S i).b.length c) := fun w' hk => (((Kp.refl Non w1).drew).seq hk).cell d2 (fun x => x)
      have hwr : IntKind.i64.wrap (((S i).b.length : Int) - (S i).a) = ((S i).b.length : Int) - (S i).a := IntWalk.i64_in _ (by omega)
      go_wp2
      refine wp_region_seq [(0, true), (1, true), (2, true), (3, true), (4, true), (5, true), (6, true), (7, true), (8, true), (9, true), (10, true), (11, true), (12, true), (13, true), (14, true), (15, true), (16, true), (17, true), (18, true), (19, true), (20, true), (21, true), (22, true)] 23 Non wide (by kernel_rfl) (fun _ _ _ _ _ h => h) ?_; (try simp only [List.append_eq, List.cons_append, List.nil_append])
      repeat (refine seq_still (v := ?_) rfl rfl (fun wq hq => ?_) ?_; rotate_left; (focus ((simp only [List.getElem_toArray, List.getElem_cons_zero, List.getElem_cons_succ]; go_simp; try with_reducible rfl); done)); simp only [List.getElem_toArray, List.getElem_cons_zero, List.getElem_cons_succ, Act.put, List.setIfInBounds_toArray, List.set_cons_zero, List.set_cons_succ])
      refine seq_nil ?_
      go_wp2
      go_ret
      exact ⟨by simp [Cn.waits, hof], k1.seq ((Kp.refl Non w1).drew)⟩
  · rw [gt_out S conn _ _ hc]
    go_enter Try.func28, Try.ntmps28
    go_wp2_with fail
    refine (ropen_calls conn _ h).mono ?_
    rintro e w1 ⟨rfl, k1⟩
    rw [gt_out S conn _ _ hc]
    go_wp2
    go_ret
    exact ⟨rfl, k1⟩

end Go.Proofs.Ytpbkipolgdldfaa

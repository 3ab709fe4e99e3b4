/- The reference's wire: Ask. -/
import Derived.Test.YtpbkipolgdldfaaRWireW
namespace Go.Proofs.Ytpbkipolgdldfaa
open Go.RowKit
set_option linter.unusedSimpArgs false
set_option linter.unusedVariables false
attribute [local go_sem] max2_of min2_of max_of min_of

set_option maxHeartbeats 2000000 in
theorem rask_calls (g : Nat) (S : Nat → Cn) (F R : Nat → Prop) (w : World) (h : RWir w g S F R) (hbd : Bd S) :
    Calls Try.prog 24 #[.pointer (some ⟨g, 0, none⟩)] w fun e w' => ∃ F' R', e = .returned (.bool (decide ((S 1).st ≠ 1))) ∧ RWir w' g (askS S) F' R' ∧ (∀ k, F' k → F k ∨ w.heap.size ≤ k) ∧ (∀ k, R' k → R k ∨ w.heap.size ≤ k) ∧ Kp F w w' := by
  have HH : Hid (RWir w g S F R) := hid h
  obtain ⟨cs, q, r, b1, b2, b3, b4, b5, b6, b7⟩ := h
  obtain ⟨vo, vw, ro, rw', d0, d1, d2, d3, d4, d5, hq, ho, hw, f1, f2, f3, f4, f5⟩ := b4 1 (by omega)
  simp only [Nat.one_mul] at d0 d1 d2 d3 d4 d5
  have HO := hid ho
  have HW := hid hw
  obtain ⟨Ao0, co0, rfl, _, _, _⟩ := ho
  obtain ⟨Aw0, cw0, rfl, _, _, _⟩ := hw
  have y0 := (b1.cell 6).trans d0
  have y1 := (b1.cell 7).trans d1
  have y2 := (b1.cell 8).trans d2
  have y3 := (b1.cell 9).trans d3
  have y4 := (b1.cell 10).trans d4
  have y5 := (b1.cell 11).trans d5
  rw [byv_length] at d4 d5 y4 y5
  have k1 := (Kp.refl Non w).alloc (.cells #[.int .i64 (S 1).st, .int .i64 (S 1).got, .bool (S 1).done, .pointer (some ⟨q 1, 0, none⟩), .slice Ao0 (S 1).old.length co0, .slice Aw0 (S 1).wrote.length cw0] 63)
  have hn1 := Blk.new w #[.int .i64 (S 1).st, .int .i64 (S 1).got, .bool (S 1).done, .pointer (some ⟨q 1, 0, none⟩), .slice Ao0 (S 1).old.length co0, .slice Aw0 (S 1).wrote.length cw0] 63
  have B4 := hid b4
  have B5 := hid b5
  have B6 := hid b6
  have B7 := hid b7
  have F2 := hid f2
  have F3 := hid f3
  have F4 := hid f4
  clear b4 b5 b6 b7 f2 f3 f4
  have hbd1 := hbd 1 (by omega)
  by_cases hst : (S 1).st = 1
  · have hst0 := hid hst
    rw [hst] at y0 k1 hn1
    clear hst
    go_enter Try.func24, Try.ntmps24
    go_wp2_with fail
    go_ret
    have hst2 : (S 1).st = 1 := hst0.out
    exact ⟨F, R, by simp [hst2], by simpa [askS, hst2] using HH.out.keep k1, fun k hk => .inl hk, fun k hk => .inl hk, k1.any⟩
  · have hst' : ((S 1).st == 1) = false := by simpa using hst
    go_enter Try.func24, Try.ntmps24
    go_wp2
    generalize w.alloc (.cells #[.int .i64 (S 1).st, .int .i64 (S 1).got, .bool (S 1).done, .pointer (some ⟨q 1, 0, none⟩), .slice Ao0 (S 1).old.length co0, .slice Aw0 (S 1).wrote.length cw0] 63) = w1 at k1 hn1 ⊢
    clear y0 y1 y2 y3 y4 y5 hn1
    have hd := (Kp.refl Non w1).drew
    have kd := k1.seq hd
    refine wp_region_seq [(0, true), (2, true), (4, true), (7, true), (8, true), (1, false), (3, false), (5, false), (6, true), (9, true), (10, false)] 10 Non wide (by kernel_rfl) (fun _ _ _ _ _ h => h) ?_; (try simp only [List.append_eq, List.cons_append, List.nil_append])
    repeat (refine seq_still (v := ?_) rfl rfl (fun wq hq => ?_) ?_; rotate_left; (focus ((simp only [List.getElem_toArray, List.getElem_cons_zero, List.getElem_cons_succ]; go_simp; try with_reducible rfl); done)); simp only [List.getElem_toArray, List.getElem_cons_zero, List.getElem_cons_succ, Act.put, List.setIfInBounds_toArray, List.set_cons_zero, List.set_cons_succ])
    refine seq_step rfl rfl (fun K hK => ?_); simp only [List.getElem_toArray, List.getElem_cons_zero, List.getElem_cons_succ]; go_simp
    refine (rnew_calls 4000 _ (by omega)).mono ?_
    rintro e w2 ⟨qn, rfl, hqn, q2, k2⟩
    refine hK.out _ _ (k2) ?_; clear hK; (try simp only [Act.put, List.setIfInBounds_toArray, List.set_cons_zero, List.set_cons_succ])
    repeat (refine seq_still (v := ?_) rfl rfl (fun wq hq => ?_) ?_; rotate_left; (focus ((simp only [List.getElem_toArray, List.getElem_cons_zero, List.getElem_cons_succ]; go_simp; try with_reducible rfl); done)); simp only [List.getElem_toArray, List.getElem_cons_zero, List.getElem_cons_succ, Act.put, List.setIfInBounds_toArray, List.set_cons_zero, List.set_cons_succ])
    refine seq_step rfl rfl (fun K hK => ?_); simp only [List.getElem_toArray, List.getElem_cons_zero, List.getElem_cons_succ]; go_simp
    have K2 := kd.seq k2
    refine (rsent_calls (g := g) (S := S) (F := F) (R := R) 1 _ (HH.out.keep K2) hbd).mono ?_
    rintro e w3 ⟨v3, r3, rfl, o3, n3, k3⟩
    refine hK.out _ _ (k3) ?_; clear hK; (try simp only [Act.put, List.setIfInBounds_toArray, List.set_cons_zero, List.set_cons_succ])
    have K3 := K2.seq k3
    rw [gt_in S 1 _ _ 1 rfl (by omega)] at o3
    obtain ⟨A3, c3, rfl, _, _⟩ := o3.form
    repeat (refine seq_still (v := ?_) rfl rfl (fun wq hq => ?_) ?_; rotate_left; (focus ((simp only [List.getElem_toArray, List.getElem_cons_zero, List.getElem_cons_succ]; go_simp; try with_reducible rfl); done)); simp only [List.getElem_toArray, List.getElem_cons_zero, List.getElem_cons_succ, Act.put, List.setIfInBounds_toArray, List.set_cons_zero, List.set_cons_succ])
    refine seq_step rfl rfl (fun K hK => ?_); simp only [List.getElem_toArray, List.getElem_cons_zero, List.getElem_cons_succ]; go_simp
    refine (rwritten_calls (g := g) (S := S) (F := F) (R := R) 1 _ (HH.out.keep K3) hbd).mono ?_
    rintro e w4 ⟨v4, r4, rfl, o4, n4, k4⟩
    refine hK.out _ _ (k4) ?_; clear hK; (try simp only [Act.put, List.setIfInBounds_toArray, List.set_cons_zero, List.set_cons_succ])
    rw [gt_in S 1 _ _ 1 rfl (by omega)] at o4
    obtain ⟨A4, c4, rfl, _, _⟩ := o4.form
    have K4 := K3.seq k4
    have bg := b1.keep K4
    have x0 := (bg.cell 6).trans d0
    have x1 := (bg.cell 7).trans d1
    have x2 := (bg.cell 8).trans d2
    have x3 := (bg.cell 9).trans d3
    have x4 := (bg.cell 10).trans d4
    have x5 := (bg.cell 11).trans d5
    have fz := bg.frozen
    have O3 := hid (o3.keep k4)
    have O4 := hid o4
    clear o3 o4
    repeat (refine seq_still (v := ?_) rfl rfl (fun wq hq => ?_) ?_; rotate_left; (focus ((simp only [List.getElem_toArray, List.getElem_cons_zero, List.getElem_cons_succ]; go_simp; try with_reducible rfl); done)); simp only [List.getElem_toArray, List.getElem_cons_zero, List.getElem_cons_succ, Act.put, List.setIfInBounds_toArray, List.set_cons_zero, List.set_cons_succ])
    refine seq_last rfl rfl (fun K hK => ?_); simp only [List.getElem_toArray, List.getElem_cons_zero, List.getElem_cons_succ]; go_simp
    refine hK.out _ _ ?_; clear hK; (try simp only [Act.put, List.setIfInBounds_toArray, List.set_cons_zero, List.set_cons_succ])
    refine seq_nil ?_
    go_wp2_with fail
    go_ret
    have hK := ((((((Kp.refl (One g) w4).setOne 6 (.int .i64 1)).setOne 7 (.int .i64 0)).setOne 8 (.bool false)).setOne 9 (.pointer (some ⟨qn, 0, none⟩))).setOne 10 (.slice A3 (S 1).sent.length c3)).setOne 11 (.slice A4 (S 1).written.length c4)
    have hW := (((((bg.set 6 (.int .i64 1)).set 7 (.int .i64 0)).set 8 (.bool false)).set 9 (.pointer (some ⟨qn, 0, none⟩))).set 10 (.slice A3 (S 1).sent.length c3)).set 11 (.slice A4 (S 1).written.length c4)
    have s1 := kd.size
    have s2 := k2.size
    have s3 := k3.size
    have s4 := k4.size
    have hgl := b1.lt
    have hql := q2.lt
    have hsz := hK.size
    have hne : ∀ qq rr b a, RQue w qq rr b a 4000 → qq ≠ g ∧ rr ≠ some g := fun qq rr b a hq => by
      obtain ⟨v, hb, ho, _⟩ := hq
      refine ⟨?_, ho.ne_blk b1 (by decide)⟩
      intro hgq
      rw [hgq] at hb
      exact absurd (b1.inj hb).2 (by decide)
    have hRg : ¬ R g := (B6.out g b3).2
    generalize World.setCell _ ⟨g, 11, none⟩ _ = W at hK hW hsz ⊢
    refine ⟨fun k => F k ∨ k = qn, fun k => R k ∨ r3 = some k ∨ r4 = some k, by simp [hst], ?_, fun k hk => ?_, fun k hk => ?_, (K4.any (S := F)).trans hK (fun k hk => .inl (by rw [show k = g from hk]; exact b3))⟩
    · rw [askS, if_neg hst]
      refine ⟨_, fun j => if j = 1 then qn else q j, fun j => if j = 1 then none else r j, hW, by simp [b2], .inl b3, fun j hj => ?_, fun i j hi hj hij => ?_, fun k hk => ?_, fun k hk => ?_⟩
      · have hj01 : j = 0 ∨ j = 1 := by omega
        rcases hj01 with rfl | rfl
        · obtain ⟨uo, uw, so, sw, e0, e1, e2, e3, e4, e5, hq0, ho0, hw0, g1, g2, g3, g4, g5⟩ := B4.out 0 (by omega)
          have hn0 := hne _ _ _ _ hq0
          simp only [Nat.zero_mul, Nat.zero_add] at e0 e1 e2 e3 e4 e5
          simp only [upd, Nat.zero_ne_one, if_false]
          refine ⟨uo, uw, so, sw, ?_, ?_, ?_, ?_, ?_, ?_, (hq0.keep K4).kp hK (fun h => hn0.1 h) (fun k hk h => hn0.2 (by rw [hk, show k = g from h])), (ho0.keep K4).kp hK (fun k hk h => hRg (by rw [← show k = g from h]; exact g3 k hk)), (hw0.keep K4).kp hK (fun k hk h => hRg (by rw [← show k = g from h]; exact g4 k hk)), .inl g1, fun k hk => .inl (g2 k hk), fun k hk => .inl (g3 k hk), fun k hk => .inl (g4 k hk), g5⟩
          all_goals
            simp only [Array.getElem?_setIfInBounds, Nat.zero_mul, Nat.zero_add]
            simp
            assumption
        · simp only [upd, if_true]
          have hnn : ¬ qn = g := by omega
          refine ⟨(.slice A3 (S 1).sent.length c3), (.slice A4 (S 1).written.length c4), r3, r4, ?_, ?_, ?_, ?_, ?_, ?_, ((q2.keep k3).keep k4).kp hK (fun h => hnn h) (fun k hk => by cases hk), O3.out.rd.kp hK (fun k hk h => by have := n3 k hk; have : k = g := h; omega), O4.out.rd.kp hK (fun k hk h => by have := n4 k hk; have : k = g := h; omega), .inr rfl, (fun k hk => by cases hk), fun k hk => .inr (.inl hk), fun k hk => .inr (.inr hk), by simp⟩
          all_goals
            simp [Array.getElem?_setIfInBounds, b2]
      · have hc : (i = 0 ∧ j = 1) ∨ (i = 1 ∧ j = 0) := by omega
        obtain ⟨_, _, _, _, _, _, _, _, _, _, hq0, _, _, g1, _⟩ := B4.out 0 (by omega)
        have hlt := hq0.lt
        rcases hc with ⟨rfl, rfl⟩ | ⟨rfl, rfl⟩
        · exact ⟨by simp; omega, fun k hk h => by simp at h⟩
        · exact ⟨by simp; omega, fun k hk => by simp at hk⟩
      · rcases hk with hk | rfl
        · have hkl := (B6.out k hk).1
          refine ⟨by omega, fun h => ?_⟩
          rcases h with h | h | h
          · exact (B6.out k hk).2 h
          · have := n3 k h; omega
          · have := n4 k h; omega
        · refine ⟨by omega, fun h => ?_⟩
          rcases h with h | h | h
          · have := B7.out _ h; omega
          · have := n3 _ h; omega
          · have := n4 _ h; omega
      · rcases hk with hk | hk | hk
        · have := B7.out k hk; omega
        · have := (O3.out.lt k hk); omega
        · have := (O4.out.lt k hk); omega
    · rcases hk with hk | hk
      · exact .inl hk
      · exact .inr (by omega)
    · rcases hk with hk | hk | hk
      · exact .inl hk
      · have := n3 k hk; exact .inr (by omega)
      · have := n4 k hk; exact .inr (by omega)

end Go.Proofs.Ytpbkipolgdldfaa

/- The wire's Ask. -/
import Derived.Test.YtpbkipolgdldfaaWireE3
namespace Go.Proofs.Ytpbkipolgdldfaa
open Go.RowKit
set_option linter.unusedSimpArgs false
set_option linter.unusedVariables false
attribute [local go_sem] max2_of min2_of max_of min_of

def askS (S : Nat → Cn) : Nat → Cn := if (S 1).st = 1 then S else upd S 1 ⟨1, 0, false, [], 0, (S 1).sent, (S 1).written⟩

set_option maxHeartbeats 2000000 in
theorem ask_calls (g : Nat) (S : Nat → Cn) (F R : Nat → Prop) (w : World) (h : Wir w g S F R) (hbd : Bd S) :
    Calls Try.prog 11 #[.pointer (some ⟨g, 0, none⟩)] w fun e w' => ∃ F' R', e = .returned (.bool (decide ((S 1).st ≠ 1))) ∧ Wir w' g (askS S) F' R' ∧ (∀ k, F' k → F k ∨ w.heap.size ≤ k) ∧ (∀ k, R' k → R k ∨ w.heap.size ≤ k) ∧ Kp F w w' := by
  go_enter Try.func11, Try.ntmps11
  go_wp2_with fail
  refine (at_in g 1 1 _ rfl (by omega)).mono ?_
  rintro e w1 ⟨rfl, k1⟩
  have h1 := h.keep k1
  by_cases hst : (S 1).st = 1
  · obtain ⟨_, _, _, _, _, _, c0, _⟩ := h1.cells 1 (by omega)
    rw [hst] at c0
    simp only [Nat.one_mul] at c0
    go_wp2_with fail
    go_ret
    have hst2 : (S 1).st = 1 := hst
    exact ⟨F, R, by simp [hst2], by simpa [askS, hst2] using h1, fun k hk => .inl hk, fun k hk => .inl hk, k1.any⟩
  · have hst' : ((S 1).st == 1) = false := by simpa using hst
    obtain ⟨cs, q, r, b1, b2, b3, b4, b5, b6, b7⟩ := h1
    obtain ⟨vo, vw, ro, rw', d0, d1, d2, d3, d4, d5, hq, ho, hw, f1, f2, f3, f4, f5⟩ := b4 1 (by omega)
    simp only [Nat.one_mul] at d0 d1 d2 d3 d4 d5
    have c0 := (b1.cell 6).trans d0
    have B4 := hid b4
    have B5 := hid b5
    have B6 := hid b6
    have B7 := hid b7
    have F2 := hid f2
    have F3 := hid f3
    have F4 := hid f4
    clear b4 b5 b6 b7 f2 f3 f4
    have hbd1 := hbd 1 (by omega)
    go_wp2_with fail
    refine (qnew_calls 4000 _ (by omega)).mono ?_
    rintro e w2 ⟨qn, rfl, hqn, q2, k2⟩
    have K2 := k1.seq k2
    go_wp2_with fail
    refine (sent1_calls g 6 (q 1) (r 1) (S 1).b (S 1).a vo ro (S 1).old _ (((b1.keep k2).cell 9).trans d3) (((b1.keep k2).cell 10).trans d4) (hq.keep k2) (ho.keep k2) hbd1.1).mono ?_
    rintro e w3 ⟨v3, r3, rfl, o3, n3, k3⟩
    have K3 := k2.seq k3
    go_wp2_with fail
    refine (written1_calls g 6 (q 1) (r 1) (S 1).b (S 1).a vw rw' (S 1).wrote _ (((b1.keep K3).cell 9).trans d3) (((b1.keep K3).cell 11).trans d5) (hq.keep K3) (hw.keep K3) hbd1.2).mono ?_
    rintro e w4 ⟨v4, r4, rfl, o4, n4, k4⟩
    have K4 := K3.seq k4
    obtain ⟨A3, c3, rfl, _, _⟩ := o3.form
    obtain ⟨A4, c4, rfl, _, _⟩ := o4.form
    have bg := b1.keep K4
    have x0 := (bg.cell 6).trans d0
    have x1 := (bg.cell 7).trans d1
    have x2 := (bg.cell 8).trans d2
    have x3 := (bg.cell 9).trans d3
    have x4 := (bg.cell 10).trans d4
    have x5 := (bg.cell 11).trans d5
    have fz := bg.frozen
    have O3 := hid (o3.keep k4)
    have O4 := hid o4
    have HO := hid (ho.keep K4)
    have HW := hid (hw.keep K4)
    obtain ⟨Ao, co, rfl, _, _, _⟩ := ho
    obtain ⟨Aw, cw, rfl, _, _, _⟩ := hw
    clear o3 o4
    go_wp2_with fail
    go_ret
    have R3 : Rd w4 (.slice A3 ((S 1).old.length + min (S 1).a (S 1).b.length) c3) r3 (byv (S 1).sent) := by have := O3.out.rd; simpa [Cn.sent] using this
    have R4 : Rd w4 (.slice A4 ((S 1).wrote.length + (S 1).b.length) c4) r4 (byv (S 1).written) := by have := O4.out.rd; simpa [Cn.written] using this
    have hK := ((((((Kp.refl (One g) w4).setOne 6 (.int .i64 1)).setOne 7 (.int .i64 0)).setOne 8 (.bool false)).setOne 9 (.pointer (some ⟨qn, 0, none⟩))).setOne 10 (.slice A3 ((S 1).old.length + min (S 1).a (S 1).b.length) c3)).setOne 11 (.slice A4 ((S 1).wrote.length + (S 1).b.length) c4)
    have hW := (((((bg.set 6 (.int .i64 1)).set 7 (.int .i64 0)).set 8 (.bool false)).set 9 (.pointer (some ⟨qn, 0, none⟩))).set 10 (.slice A3 ((S 1).old.length + min (S 1).a (S 1).b.length) c3)).set 11 (.slice A4 ((S 1).wrote.length + (S 1).b.length) c4)
    have s1 := k1.size
    have s2 := k2.size
    have s3 := k3.size
    have s4 := k4.size
    have hgl := b1.lt
    have hql := q2.lt
    have hsz := hK.size
    have hne : ∀ qq rr b a, Que w1 qq rr b a 4000 → qq ≠ g ∧ rr ≠ some g := fun qq rr b a hq => by
      obtain ⟨v, hb, ho, _⟩ := hq
      refine ⟨?_, ho.ne_blk b1 (by decide)⟩
      intro hgq
      rw [hgq] at hb
      exact absurd (b1.inj hb).2 (by decide)
    have hRg : ¬ R g := (B6.out g b3).2
    generalize World.setCell _ ⟨g, 11, none⟩ _ = W at hK hW hsz ⊢
    refine ⟨fun k => F k ∨ k = qn, fun k => R k ∨ r3 = some k ∨ r4 = some k, by simp [hst], ?_, fun k hk => ?_, fun k hk => ?_, ((k1.seq K4).any (S := F)).trans hK (fun k hk => .inl (by rw [show k = g from hk]; exact b3))⟩
    · rw [askS, if_neg hst]
      refine ⟨_, fun j => if j = 1 then qn else q j, fun j => if j = 1 then none else r j, hW, by simp [b2], .inl b3, fun j hj => ?_, fun i j hi hj hij => ?_, fun k hk => ?_, fun k hk => ?_⟩
      · have hj01 : j = 0 ∨ j = 1 := by omega
        rcases hj01 with rfl | rfl
        · obtain ⟨uo, uw, so, sw, e0, e1, e2, e3, e4, e5, hq0, ho0, hw0, g1, g2, g3, g4, g5⟩ := B4.out 0 (by omega)
          have hn0 := hne _ _ _ _ hq0
          simp only [Nat.zero_mul, Nat.zero_add] at e0 e1 e2 e3 e4 e5
          simp only [upd, Nat.zero_ne_one, if_false]
          refine ⟨uo, uw, so, sw, ?_, ?_, ?_, ?_, ?_, ?_, (hq0.keep K4).kp hK (fun h => hn0.1 h) (fun k hk h => hn0.2 (by rw [hk, show k = g from h])), (ho0.keep K4).kp hK (fun k hk h => hRg (by rw [← show k = g from h]; exact g3 k hk)), (hw0.keep K4).kp hK (fun k hk h => hRg (by rw [← show k = g from h]; exact g4 k hk)), .inl g1, fun k hk => .inl (g2 k hk), fun k hk => .inl (g3 k hk), fun k hk => .inl (g4 k hk), g5⟩
          all_goals
            simp only [Array.getElem?_setIfInBounds, Nat.zero_mul, Nat.zero_add]
            simp
            assumption
        · simp only [upd, if_true]
          have hnn : ¬ qn = g := by omega
          refine ⟨(.slice A3 ((S 1).old.length + min (S 1).a (S 1).b.length) c3), (.slice A4 ((S 1).wrote.length + (S 1).b.length) c4), r3, r4, ?_, ?_, ?_, ?_, ?_, ?_, ((q2.keep k3).keep k4).kp hK (fun h => hnn h) (fun k hk => by cases hk), R3.kp hK (fun k hk h => by have := n3 k hk; have : k = g := h; omega), R4.kp hK (fun k hk h => by have := n4 k hk; have : k = g := h; omega), .inr rfl, (fun k hk => by cases hk), fun k hk => .inr (.inl hk), fun k hk => .inr (.inr hk), by simp⟩
          all_goals
            simp [Array.getElem?_setIfInBounds, b2]
      · have hc : (i = 0 ∧ j = 1) ∨ (i = 1 ∧ j = 0) := by omega
        obtain ⟨_, _, _, _, _, _, _, _, _, _, hq0, _, _, g1, _⟩ := B4.out 0 (by omega)
        have hlt := hq0.lt
        rcases hc with ⟨rfl, rfl⟩ | ⟨rfl, rfl⟩
        · exact ⟨by simp; omega, fun k hk h => by simp at h⟩
        · exact ⟨by simp; omega, fun k hk => by simp at hk⟩
      · rcases hk with hk | rfl
        · have hkl := (B6.out k hk).1
          refine ⟨by omega, fun h => ?_⟩
          rcases h with h | h | h
          · exact (B6.out k hk).2 h
          · have := n3 k h; omega
          · have := n4 k h; omega
        · refine ⟨by omega, fun h => ?_⟩
          rcases h with h | h | h
          · have := B7.out _ h; omega
          · have := n3 _ h; omega
          · have := n4 _ h; omega
      · rcases hk with hk | hk | hk
        · have := B7.out k hk; omega
        · have := (O3.out.lt k hk); omega
        · have := (O4.out.lt k hk); omega
    · rcases hk with hk | hk
      · exact .inl hk
      · exact .inr (by omega)
    · rcases hk with hk | hk | hk
      · exact .inl hk
      · have := n3 k hk; exact .inr (by omega)
      · have := n4 k hk; exact .inr (by omega)

end Go.Proofs.Ytpbkipolgdldfaa

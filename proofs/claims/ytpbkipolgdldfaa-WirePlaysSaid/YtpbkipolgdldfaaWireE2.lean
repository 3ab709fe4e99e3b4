/- The wire's Happen: bytes that go out, and a connection that is made. -/
import Derived.Test.YtpbkipolgdldfaaWireE
namespace Go.Proofs.Ytpbkipolgdldfaa
open Go.RowKit
set_option linter.unusedSimpArgs false
set_option linter.unusedVariables false
attribute [local go_sem] max2_of min2_of max_of min_of
variable {g : Nat} {S : Nat → Cn} {F R : Nat → Prop}

set_option maxHeartbeats 1000000 in
theorem hap2 (conn n : Int) (v : Value) (rv : Option Nat) (l : List UInt8) (w : World) (h : Wir w g S F R) (hv : Rd w v rv (byv l)) :
    Calls Try.prog 12 #[.pointer (some ⟨g, 0, none⟩), evt 2 conn n v] w (HaP w g S F R 2 conn n l) := by
  unfold evt
  obtain ⟨A, c, rfl, _⟩ := hv
  simp only [byv_length]
  have hA := (Kp.refl Non w).alloc (.cells #[.int .i64 2, .int .i64 conn, .int .i64 n, .slice A l.length c] 28)
  have hB := Blk.new w #[.int .i64 2, .int .i64 conn, .int .i64 n, .slice A l.length c] 28
  have hFg : F g := by obtain ⟨_, _, _, _, _, h3, _⟩ := h; exact h3
  go_enter Try.func12, Try.ntmps12
  go_wp2_with fail
  rcases conn_cases conn with ⟨i, rfl, hi⟩ | hc
  · refine (at_in g _ i _ rfl hi).mono ?_
    rintro e w1 ⟨rfl, k1⟩
    have hB1 := hB.keep k1
    have e0 := hB1.cell 0
    have ec := hB1.cell 1
    have en := hB1.cell 2
    simp at e0 ec en
    have K1 := hA.seq k1
    have h1 := h.keep K1
    obtain ⟨c0, fz, hg4⟩ : w1.cell? ⟨g, i * 6, none⟩ = some (.int .i64 (S i).st) ∧ (∀ o, w1.frozen? ⟨g, o, none⟩ = false) ∧ (S i).got ≤ 4000 := by
      obtain ⟨_, _, _, _, _, _, c0, c1, _, _, _, _, _, _, _, fz, hg4⟩ := h1.cells i hi
      exact ⟨c0, fz, hg4⟩
    by_cases hn : 0 < n
    · have t1 : decide (0 < n) = true := by simp; omega
      go_wp2_with fail
      refine (waits_calls g S F R i _ h1).mono ?_
      rintro e w2 ⟨rfl, k2⟩
      have K2 := K1.seq k2
      have h2 := h.keep K2
      rw [gt_in S _ _ _ i rfl hi]
      have en2 := k2.cell en (fun x => x)
      clear c0 fz
      by_cases hw : 0 < (S i).waits
      · have t2 : decide (0 < (S i).waits) = true := by simp; omega
        have hd := (Kp.refl Non w2).drew
        have h2d := h2.keep hd
        obtain ⟨cs, q, r, b1, b2, b3, b4, b5, b6, b7⟩ := h2d
        obtain ⟨vo, vw, ro, rw', d0, d1, d2, d3, d4, d5, hq, ho, hw', f1, f2, _⟩ := b4 i hi
        have c3 := (b1.cell _).trans d3
        have hgq : ¬ One (q i) g := fun h => by
          obtain ⟨v, hb, _⟩ := hq
          rw [← show g = q i from h] at hb
          exact absurd (b1.inj hb).2 (by decide)
        have heq : ¬ One (q i) w.heap.size := fun h => by
          obtain ⟨v, hb, _⟩ := hq
          rw [← show w.heap.size = q i from h] at hb
          exact absurd ((((hB1.keep k2).keep hd).inj hb)).2 (by decide)
        have x3 : ∀ w', Kp (One (q i)) w2.drew w' → w'.cell? ⟨g, i * 6 + 3, none⟩ = some (.pointer (some ⟨q i, 0, none⟩)) := fun w' hk => hk.cell c3 hgq
        have xn : ∀ w', Kp (One (q i)) w2.drew w' → w'.cell? ⟨w.heap.size, 2, none⟩ = some (.int .i64 n) := fun w' hk => hk.cell (hd.cell en2 (fun x => x)) heq
        have B4 := hid b4
        have B5 := hid b5
        have B6 := hid b6
        have B7 := hid b7
        clear b4 b5 b6 b7
        have hbl : (S i).b.length ≤ 140737488355328 := by have := hq.len_le; omega
        go_wp2_with fail
        refine wp_region_seq [(0, true), (1, true), (2, true), (3, true), (4, true), (5, true), (6, false)] 7 (One (q i)) wide (by kernel_rfl) (fun _ _ _ _ _ h => h) ?_; (try simp only [List.append_eq, List.cons_append, List.nil_append])
        repeat (refine seq_still (v := ?_) rfl rfl (fun wq hq => ?_) ?_; rotate_left; (focus ((simp only [List.getElem_toArray, List.getElem_cons_zero, List.getElem_cons_succ]; go_simp; try with_reducible rfl); done)); simp only [List.getElem_toArray, List.getElem_cons_zero, List.getElem_cons_succ, Act.put, List.setIfInBounds_toArray, List.set_cons_zero, List.set_cons_succ])
        refine seq_step rfl rfl (fun K hK => ?_); simp only [List.getElem_toArray, List.getElem_cons_zero, List.getElem_cons_succ]; go_simp
        refine (take_calls (q i) (r i) (S i).b (S i).a 4000 n _ hq hbl).mono ?_
        rintro e w3 ⟨v3, r3, rfl, q3, o3, n3, k3⟩
        refine hK.out _ _ (k3) ?_; clear hK; (try simp only [Act.put, List.setIfInBounds_toArray, List.set_cons_zero, List.set_cons_succ])
        repeat (refine seq_still (v := ?_) rfl rfl (fun wq hq => ?_) ?_; rotate_left; (focus ((simp only [List.getElem_toArray, List.getElem_cons_zero, List.getElem_cons_succ]; go_simp; try with_reducible rfl); done)); simp only [List.getElem_toArray, List.getElem_cons_zero, List.getElem_cons_succ, Act.put, List.setIfInBounds_toArray, List.set_cons_zero, List.set_cons_succ])
        refine seq_nil ?_
        go_wp2_with fail
        go_ret2
        have hE : hapE S 2 i n l = 0 := by rw [hapE2, if_pos ⟨hn, by rw [gt_in S _ _ _ i rfl hi]; exact hw⟩]
        refine ⟨_, none, Grown w2.drew F w3, by rw [hE]; rfl, by simp only [hapB]; rw [if_neg (by omega)]; exact Own.nil _ _ _ _, (fun k hk => by cases hk), ?_, fun k hk => ?_, ((K2.seq hd).any (S := F)).trans k3 (fun k hk => .inl (by rw [show k = q i from hk]; exact f1))⟩
        · have := Wir.setQ b1 b2 b3 B4.out B5.out B6.out B7.out i hi _ _ (r i) q3 (New.refl _ _) (k3.mono (fun k hk => .inl hk))
          simpa [hapS, hE] using this
        · rcases hk with hk | hk
          · exact .inl hk
          · have := (K2.seq hd).size
            exact .inr (by omega)
      · have t2 : decide (0 < (S i).waits) = false := by simp; omega
        go_wp2_with fail
        go_ret2
        exact HaP.no (by rw [hapE2, if_neg (by rw [gt_in S _ _ _ i rfl hi]; omega)]) h K2
    · have t1 : decide (0 < n) = false := by simp; omega
      go_wp2_with fail
      go_ret2
      exact HaP.no (by rw [hapE2, if_neg (by omega)]) h K1
  · refine (at_out g conn _ hc).mono ?_
    rintro e w1 ⟨rfl, k1⟩
    have hB1 := hB.keep k1
    have e0 := hB1.cell 0
    have ec := hB1.cell 1
    have en := hB1.cell 2
    simp at e0 ec en
    have K1 := hA.seq k1
    by_cases hn : 0 < n
    · have t1 : decide (0 < n) = true := by simp; omega
      go_wp2_with fail
      refine (waits_calls g S F R conn _ (h.keep K1)).mono ?_
      rintro e w2 ⟨rfl, k2⟩
      rw [gt_out S _ _ _ hc]
      go_wp2_with fail
      go_ret2
      exact HaP.no (by rw [hapE2, if_neg (by rw [gt_out S _ _ _ hc]; omega)]) h (K1.seq k2)
    · have t1 : decide (0 < n) = false := by simp; omega
      go_wp2_with fail
      go_ret2
      exact HaP.no (by rw [hapE2, if_neg (by omega)]) h K1

end Go.Proofs.Ytpbkipolgdldfaa

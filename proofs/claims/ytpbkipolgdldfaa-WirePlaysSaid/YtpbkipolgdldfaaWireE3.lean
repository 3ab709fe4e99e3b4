/- The wire's Happen: a connection that is made, other events, and all in one. -/
import Derived.Test.YtpbkipolgdldfaaWireE2
namespace Go.Proofs.Ytpbkipolgdldfaa
open Go.RowKit
set_option linter.unusedSimpArgs false
set_option linter.unusedVariables false
attribute [local go_sem] max2_of min2_of max_of min_of
variable {g : Nat} {S : Nat → Cn} {F R : Nat → Prop}

set_option maxHeartbeats 1000000 in
theorem hap5 (conn n : Int) (v : Value) (rv : Option Nat) (l : List UInt8) (w : World) (h : Wir w g S F R) (hv : Rd w v rv (byv l)) :
    Calls Try.prog 12 #[.pointer (some ⟨g, 0, none⟩), evt 5 conn n v] w (HaP w g S F R 5 conn n l) := by
  unfold evt
  obtain ⟨A, c, rfl, _⟩ := hv
  simp only [byv_length]
  have hA := (Kp.refl Non w).alloc (.cells #[.int .i64 5, .int .i64 conn, .int .i64 n, .slice A l.length c] 28)
  have hB := Blk.new w #[.int .i64 5, .int .i64 conn, .int .i64 n, .slice A l.length c] 28
  have hFg : F g := by obtain ⟨_, _, _, _, _, h3, _⟩ := h; exact h3
  go_enter Try.func12, Try.ntmps12
  go_wp2_with fail
  rcases conn_cases conn with ⟨i, rfl, hi⟩ | hc
  · refine (at_in g _ i _ rfl hi).mono ?_
    rintro e w1 ⟨rfl, k1⟩
    have hB1 := hB.keep k1
    have e0 := hB1.cell 0
    have ec := hB1.cell 1
    have en := hB1.cell 2
    simp at e0 ec en
    have K1 := hA.seq k1
    have h1 := h.keep K1
    obtain ⟨c0, fz, hg4⟩ : w1.cell? ⟨g, i * 6, none⟩ = some (.int .i64 (S i).st) ∧ (∀ o, w1.frozen? ⟨g, o, none⟩ = false) ∧ (S i).got ≤ 4000 := by
      obtain ⟨_, _, _, _, _, _, c0, c1, _, _, _, _, _, _, _, fz, hg4⟩ := h1.cells i hi
      exact ⟨c0, fz, hg4⟩
    by_cases hcc : i = 1 ∧ (S 1).st = 1
    · obtain ⟨rfl, hst⟩ := hcc
      rw [hst] at c0
      simp only [Nat.one_mul] at c0
      by_cases hn : n = 1
      · subst hn
        go_wp2_with fail
        refine (becomes_yes g 6 _ 2 _ c0 (fz _)).mono ?_
        rintro e w3 ⟨rfl, rfl⟩
        go_wp2_with fail
        go_ret2
        have hE : hapE S 5 (1 : Nat) 1 l = 0 := by rw [hapE5, if_pos ⟨rfl, hst⟩]
        refine ⟨_, none, F, by rw [hE]; rfl, by simp only [hapB]; rw [if_neg (by omega)]; exact Own.nil _ _ _ _, (fun k hk => by cases hk), ?_, fun k hk => .inl hk, (K1.any).setCell (p := ⟨g, 6, none⟩) (.inl hFg) _⟩
        have := h1.setC 1 hi 0 (by omega) (.int .i64 2) { S 1 with st := 2 } rfl rfl rfl rfl rfl rfl rfl hg4
        have hE1 : hapE S 5 1 1 l = 0 := hE
        simpa [hapS, hE1] using this
      · have tn : (n == 1) = false := by simpa using hn
        go_wp2_with fail
        refine (becomes_yes g 6 _ 5 _ c0 (fz _)).mono ?_
        rintro e w3 ⟨rfl, rfl⟩
        go_wp2_with fail
        go_ret2
        have hE : hapE S 5 (1 : Nat) n l = 0 := by rw [hapE5, if_pos ⟨rfl, hst⟩]
        refine ⟨_, none, F, by rw [hE]; rfl, by simp only [hapB]; rw [if_neg (by omega)]; exact Own.nil _ _ _ _, (fun k hk => by cases hk), ?_, fun k hk => .inl hk, (K1.any).setCell (p := ⟨g, 6, none⟩) (.inl hFg) _⟩
        have := h1.setC 1 hi 0 (by omega) (.int .i64 5) { S 1 with st := 5 } rfl rfl rfl rfl rfl rfl rfl hg4
        have hE1 : hapE S 5 1 n l = 0 := hE
        simpa [hapS, hE1, hn] using this
    · have hE : hapE S 5 i n l = 1 := by rw [hapE5, if_neg (by omega)]
      have hi01 : i = 0 ∨ i = 1 := by omega
      rcases hi01 with rfl | rfl
      · by_cases hn : n = 1
        · subst hn
          go_wp2_with fail
          refine (becomes_no _ 2 _).mono ?_
          rintro e w2 ⟨rfl, k2⟩
          go_wp2_with fail
          go_ret2
          exact HaP.no hE h (K1.seq k2)
        · have tn : (n == 1) = false := by simpa using hn
          go_wp2_with fail
          refine (becomes_no _ 5 _).mono ?_
          rintro e w2 ⟨rfl, k2⟩
          go_wp2_with fail
          go_ret2
          exact HaP.no hE h (K1.seq k2)
      · have hst : ¬ (S 1).st = 1 := fun h => hcc ⟨rfl, h⟩
        have ts : ((S 1).st == 1) = false := by simpa using hst
        simp only [Nat.one_mul] at c0
        by_cases hn : n = 1
        · subst hn
          go_wp2_with fail
          refine (becomes_no _ 2 _).mono ?_
          rintro e w2 ⟨rfl, k2⟩
          go_wp2_with fail
          go_ret2
          exact HaP.no hE h (K1.seq k2)
        · have tn : (n == 1) = false := by simpa using hn
          go_wp2_with fail
          refine (becomes_no _ 5 _).mono ?_
          rintro e w2 ⟨rfl, k2⟩
          go_wp2_with fail
          go_ret2
          exact HaP.no hE h (K1.seq k2)
  · refine (at_out g conn _ hc).mono ?_
    rintro e w1 ⟨rfl, k1⟩
    have hB1 := hB.keep k1
    have e0 := hB1.cell 0
    have ec := hB1.cell 1
    have en := hB1.cell 2
    simp at e0 ec en
    have K1 := hA.seq k1
    have hE : hapE S 5 conn n l = 1 := by rw [hapE5, if_neg (by omega)]
    have tc : (conn == 1) = false := by simp; omega
    by_cases hn : n = 1
    · subst hn
      go_wp2_with fail
      refine (becomes_no _ 2 _).mono ?_
      rintro e w2 ⟨rfl, k2⟩
      go_wp2_with fail
      go_ret2
      exact HaP.no hE h (K1.seq k2)
    · have tn : (n == 1) = false := by simpa using hn
      go_wp2_with fail
      refine (becomes_no _ 5 _).mono ?_
      rintro e w2 ⟨rfl, k2⟩
      go_wp2_with fail
      go_ret2
      exact HaP.no hE h (K1.seq k2)

set_option maxHeartbeats 1000000 in
theorem hap0 (kd conn n : Int) (hk : ¬ kd = 1 ∧ ¬ kd = 2 ∧ ¬ kd = 3 ∧ ¬ kd = 4 ∧ ¬ kd = 5 ∧ ¬ kd = 6) (v : Value) (rv : Option Nat) (l : List UInt8) (w : World) (h : Wir w g S F R) (hv : Rd w v rv (byv l)) :
    Calls Try.prog 12 #[.pointer (some ⟨g, 0, none⟩), evt kd conn n v] w (HaP w g S F R kd conn n l) := by
  unfold evt
  obtain ⟨A, c, rfl, _⟩ := hv
  simp only [byv_length]
  have hA := (Kp.refl Non w).alloc (.cells #[.int .i64 kd, .int .i64 conn, .int .i64 n, .slice A l.length c] 28)
  have hB := Blk.new w #[.int .i64 kd, .int .i64 conn, .int .i64 n, .slice A l.length c] 28
  have hE : hapE S kd conn n l = 1 := by
    unfold hapE
    rw [if_neg hk.1, if_neg hk.2.1, if_neg hk.2.2.1, if_neg hk.2.2.2.1, if_neg hk.2.2.2.2.1, if_neg hk.2.2.2.2.2]
  have t1 : (kd == 1) = false := by simpa using hk.1
  have t2 : (kd == 2) = false := by simpa using hk.2.1
  have t3 : (kd == 3) = false := by simpa using hk.2.2.1
  have t4 : (kd == 4) = false := by simpa using hk.2.2.2.1
  have t5 : (kd == 5) = false := by simpa using hk.2.2.2.2.1
  have t6 : (kd == 6) = false := by simpa using hk.2.2.2.2.2
  clear hk
  go_enter Try.func12, Try.ntmps12
  go_wp2_with fail
  rcases conn_cases conn with ⟨i, rfl, hi⟩ | hc
  · refine (at_in g _ i _ rfl hi).mono ?_
    rintro e w1 ⟨rfl, k1⟩
    have e0 := (hB.keep k1).cell 0
    simp at e0
    go_wp2_with fail
    go_ret2
    exact HaP.no hE h (hA.seq k1)
  · refine (at_out g conn _ hc).mono ?_
    rintro e w1 ⟨rfl, k1⟩
    have e0 := (hB.keep k1).cell 0
    simp at e0
    go_wp2_with fail
    go_ret2
    exact HaP.no hE h (hA.seq k1)

theorem happen_calls (kd conn n : Int) (v : Value) (rv : Option Nat) (l : List UInt8) (w : World) (h : Wir w g S F R) (hv : Rd w v rv (byv l)) (hvF : ∀ k, rv = some k → ¬ F k) (hl : l.length ≤ 140737488300000) :
    Calls Try.prog 12 #[.pointer (some ⟨g, 0, none⟩), evt kd conn n v] w (HaP w g S F R kd conn n l) := by
  by_cases h1 : kd = 1
  · subst h1; exact hap1 conn n v rv l w h hv hvF hl
  by_cases h2 : kd = 2
  · subst h2; exact hap2 conn n v rv l w h hv
  by_cases h3 : kd = 3
  · subst h3; exact hap3 conn n v rv l w h hv
  by_cases h4 : kd = 4
  · subst h4; exact hap4 conn n v rv l w h hv
  by_cases h5 : kd = 5
  · subst h5; exact hap5 conn n v rv l w h hv
  by_cases h6 : kd = 6
  · subst h6; exact hap6 conn n v rv l w h hv
  exact hap0 kd conn n ⟨h1, h2, h3, h4, h5, h6⟩ v rv l w h hv

end Go.Proofs.Ytpbkipolgdldfaa

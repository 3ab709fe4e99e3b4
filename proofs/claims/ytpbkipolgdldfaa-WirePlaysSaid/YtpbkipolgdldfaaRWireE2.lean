/- The reference's wire: Happen, bytes that go out, a connection made, other events, and all in one. -/
import Derived.Test.YtpbkipolgdldfaaRWireE
namespace Go.Proofs.Ytpbkipolgdldfaa
open Go.RowKit
set_option linter.unusedSimpArgs false
set_option linter.unusedVariables false
attribute [local go_sem] max2_of min2_of max_of min_of
variable {g : Nat} {S : Nat → Cn} {F R : Nat → Prop}

set_option maxHeartbeats 1000000 in
set_option maxRecDepth 20000 in
theorem rhap2 (conn n : Int) (v : Value) (rv : Option Nat) (l : List UInt8) (w : World) (h : RWir w g S F R) (hv : Rd w v rv (byv l)) (hvF : ∀ k, rv = some k → ¬ F k) (hl : l.length ≤ 140737488300000) :
    Calls Try.prog 26 #[.pointer (some ⟨g, 0, none⟩), evt 2 conn n v] w (RHaP w g S F R 2 conn n l) := by
  unfold evt
  have HV := hid hv
  obtain ⟨A, c, rfl, _⟩ := hv
  simp only [byv_length] at HV ⊢
  have hA := (Kp.refl Non w).alloc (.cells #[.int .i64 2, .int .i64 conn, .int .i64 n, .slice A l.length c] 28)
  have hB := Blk.new w #[.int .i64 2, .int .i64 conn, .int .i64 n, .slice A l.length c] 28
  have hFg : F g := by obtain ⟨_, _, _, _, _, h3, _⟩ := h; exact h3
  have hgl : g < w.heap.size := by obtain ⟨_, _, _, b, _⟩ := h; exact b.lt
  have hge : ¬ w.heap.size = g := by omega
  go_enter Try.func26, Try.ntmps26
  go_wp2_with fail
  refine (rstate_calls (g := g) (S := S) (F := F) (R := R) conn _ (h.keep hA)).mono ?_
  rintro e w1 ⟨rfl, k1⟩
  have hB1 := hB.keep k1
  have e0 := hB1.cell 0
  have ec := hB1.cell 1
  have en := hB1.cell 2
  have eb := hB1.cell 3
  simp at e0 ec en eb
  have K1 := hA.seq k1
  have h1 := h.keep K1
  rcases conn_cases conn with ⟨i, rfl, hi⟩ | hc
  · have hi1 : (i : Int) < 2 := by omega
    have hE1 : hapE S 2 i n l = if 0 < n ∧ 0 < (S i).waits then 0 else 1 := by rw [hapE2, gt_in S _ _ _ i rfl hi]
    have HE1 := hid hE1
    clear hE1
    go_wp2_with fail
    refine (rwaits_calls (g := g) (S := S) (F := F) (R := R) i _ h1).mono ?_
    rintro e w2 ⟨rfl, k2⟩
    rw [gt_in S _ _ _ i rfl hi]
    have K2 := K1.seq k2
    have h2 := h.keep K2
    have en2 := k2.cell en (fun x => x)
    have ec2 := k2.cell ec (fun x => x)
    by_cases hn : 0 < n
    · have t1 : decide (n < 1) = false := by simp; omega
      by_cases hw : 0 < (S i).waits
      · have t2 : ((S i).waits == 0) = false := by simp; omega
        have hd := (Kp.refl Non w2).drew
        have h2d := h2.keep hd
        obtain ⟨cs, q, r, b1, b2, b3, b4, b5, b6, b7⟩ := h2d
        obtain ⟨vo, vw, ro, rw', d0, d1, d2, d3, d4, d5, hq, ho, hw', f1, f2, _⟩ := b4 i hi
        have c3 := (b1.cell _).trans d3
        have xc : ∀ w', Kp Non w2.drew w' → w'.cell? ⟨w.heap.size, 1, none⟩ = some (.int .i64 i) := fun w' hk => (hd.seq hk).cell ec2 (fun x => x)
        have xn : ∀ w', Kp Non w2.drew w' → w'.cell? ⟨w.heap.size, 2, none⟩ = some (.int .i64 n) := fun w' hk => (hd.seq hk).cell en2 (fun x => x)
        have x3 : ∀ w', Kp Non w2.drew w' → w'.cell? ⟨g, i * 6 + 3, none⟩ = some (.pointer (some ⟨q i, 0, none⟩)) := fun w' hk => hk.cell c3 (fun x => x)
        have B4 := hid b4
        have B5 := hid b5
        have B6 := hid b6
        have B7 := hid b7
        have HQ := hid hq
        clear b4 b5 b6 b7
        have hbl : (S i).b.length ≤ 140737488355328 := by have := hq.len_le; omega
        go_wp2
        refine wp_region_seq [(0, true), (1, true), (2, true), (3, true), (4, true), (5, true), (6, true), (7, true), (8, true), (9, true), (10, false)] 10 Non wide (by kernel_rfl) (fun _ _ _ _ _ h => h) ?_; (try simp only [List.append_eq, List.cons_append, List.nil_append])
        repeat (refine seq_still (v := ?_) rfl rfl (fun wq hq => ?_) ?_; rotate_left; (focus ((simp only [List.getElem_toArray, List.getElem_cons_zero, List.getElem_cons_succ]; go_simp; try with_reducible rfl); done)); simp only [List.getElem_toArray, List.getElem_cons_zero, List.getElem_cons_succ, Act.put, List.setIfInBounds_toArray, List.set_cons_zero, List.set_cons_succ])
        refine seq_last rfl rfl (fun K hK => ?_); simp only [List.getElem_toArray, List.getElem_cons_zero, List.getElem_cons_succ]; go_simp
        refine (rtake_calls (q i) (r i) (S i).b (S i).a 4000 n _ HQ.out hbl).mono ?_
        rintro e w3 ⟨v3, r3, rfl, q3, o3, n3, k3⟩
        refine hK.out _ _ ?_; clear hK; (try simp only [Act.put, List.setIfInBounds_toArray, List.set_cons_zero, List.set_cons_succ])
        refine seq_nil ?_
        go_wp2_with fail
        go_ret2
        have hE : hapE S 2 i n l = 0 := by rw [HE1.out, if_pos ⟨hn, hw⟩]
        refine ⟨_, none, Grown w2.drew F w3, by rw [hE]; rfl, by simp only [hapB]; rw [if_neg (by omega)]; exact Own.nil _ _ _ _, (fun k hk => by cases hk), ?_, fun k hk => ?_, ((K2.seq hd).any (S := F)).trans k3 (fun k hk => .inl (by rw [show k = q i from hk]; exact f1))⟩
        · have := RWir.setQ b1 b2 b3 B4.out B5.out B6.out B7.out i hi _ _ (r i) q3 (New.refl _ _) (k3.mono (fun k hk => .inl hk))
          simpa [hapS, hE] using this
        · rcases hk with hk | hk
          · exact .inl hk
          · have := (K2.seq hd).size
            exact .inr (by omega)
      · have t2 : ((S i).waits == 0) = true := by
          have : 0 ≤ (S i).waits := by
            obtain ⟨_, _, _, _, _, _, _, _, _, _, _, _, hq, _⟩ := h2.cells i hi
            have := hq.at_le
            unfold Cn.waits
            split <;> omega
          simp; omega
        go_wp2_with fail
        go_ret2
        exact RHaP.no (by rw [HE1.out, if_neg (by omega)]) h K2
    · have t1 : decide (n < 1) = true := by simp; omega
      go_wp2_with fail
      go_ret2
      exact RHaP.no (by rw [HE1.out, if_neg (by omega)]) h K2
  · go_wp2_with fail
    refine (rwaits_calls (g := g) (S := S) (F := F) (R := R) conn _ h1).mono ?_
    rintro e w2 ⟨rfl, k2⟩
    rw [gt_out S _ _ _ hc]
    have K2 := K1.seq k2
    have en2 := k2.cell en (fun x => x)
    by_cases hn : 0 < n
    · have t1 : decide (n < 1) = false := by simp; omega
      go_wp2_with fail
      go_ret2
      exact RHaP.no (by rw [hapE2, if_neg (by rw [gt_out S _ _ _ hc]; omega)]) h K2
    · have t1 : decide (n < 1) = true := by simp; omega
      go_wp2_with fail
      go_ret2
      exact RHaP.no (by rw [hapE2, if_neg (by omega)]) h K2

set_option maxHeartbeats 1000000 in
set_option maxRecDepth 20000 in
theorem rhap5 (conn n : Int) (v : Value) (rv : Option Nat) (l : List UInt8) (w : World) (h : RWir w g S F R) (hv : Rd w v rv (byv l)) (hvF : ∀ k, rv = some k → ¬ F k) (hl : l.length ≤ 140737488300000) :
    Calls Try.prog 26 #[.pointer (some ⟨g, 0, none⟩), evt 5 conn n v] w (RHaP w g S F R 5 conn n l) := by
  unfold evt
  have HV := hid hv
  obtain ⟨A, c, rfl, _⟩ := hv
  simp only [byv_length] at HV ⊢
  have hA := (Kp.refl Non w).alloc (.cells #[.int .i64 5, .int .i64 conn, .int .i64 n, .slice A l.length c] 28)
  have hB := Blk.new w #[.int .i64 5, .int .i64 conn, .int .i64 n, .slice A l.length c] 28
  have hFg : F g := by obtain ⟨_, _, _, _, _, h3, _⟩ := h; exact h3
  have hgl : g < w.heap.size := by obtain ⟨_, _, _, b, _⟩ := h; exact b.lt
  have hge : ¬ w.heap.size = g := by omega
  go_enter Try.func26, Try.ntmps26
  go_wp2_with fail
  refine (rstate_calls (g := g) (S := S) (F := F) (R := R) conn _ (h.keep hA)).mono ?_
  rintro e w1 ⟨rfl, k1⟩
  have hB1 := hB.keep k1
  have e0 := hB1.cell 0
  have ec := hB1.cell 1
  have en := hB1.cell 2
  have eb := hB1.cell 3
  simp at e0 ec en eb
  have K1 := hA.seq k1
  have h1 := h.keep K1
  have K1' := hid K1
  by_cases hcc : conn = 1 ∧ (S 1).st = 1
  · obtain ⟨rfl, hst⟩ := hcc
    have hg1 : gt S 1 Cn.st 0 = 1 := by rw [gt_in S 1 _ _ 1 rfl (by omega), hst]
    rw [hg1]
    clear hg1
    have HS := hid hst
    obtain ⟨c0, fz, hg4⟩ : w1.cell? ⟨g, 6, none⟩ = some (.int .i64 (S 1).st) ∧ (∀ o, w1.frozen? ⟨g, o, none⟩ = false) ∧ (S 1).got ≤ 4000 := by
      obtain ⟨_, _, _, _, _, _, c0, c1, _, _, _, _, _, _, _, fz, hg4⟩ := h1.cells 1 (by omega)
      exact ⟨c0, fz, hg4⟩
    have hW5 := h1.setC 1 (by omega) 0 (by omega) (.int .i64 5) { S 1 with st := 5 } rfl rfl rfl rfl rfl rfl rfl hg4
    have hK5 := ((K1.any (S := F))).setCell (p := ⟨g, 6, none⟩) (.inl hFg) (.int .i64 5)
    rw [show 1 * 6 + 0 = 6 from rfl] at hW5
    have hB5 := hB1.kp ((Kp.refl (One g) w1).setOne 6 (.int .i64 5)) (fun h => hge h)
    clear hst
    by_cases hn : n = 1
    · subst hn
      have en5 := hB5.cell 2
      simp at en5
      go_wp2_with fail
      go_ret2
      have hE : hapE S 5 1 1 l = 0 := by rw [hapE5, if_pos ⟨rfl, HS.out⟩]
      have hW2 := hW5.setC 1 (by omega) 0 (by omega) (.int .i64 2) { S 1 with st := 2 } rfl rfl rfl rfl rfl rfl rfl hg4
      rw [show 1 * 6 + 0 = 6 from rfl] at hW2
      have hK2 := hK5.setCell (p := ⟨g, 6, none⟩) (.inl hFg) (.int .i64 2)
      have hup : upd (upd S 1 { S 1 with st := 5 }) 1 { S 1 with st := 2 } = upd S 1 { S 1 with st := 2 } := by
        funext j
        simp only [upd]
        split <;> rfl
      rw [hup] at hW2
      refine ⟨_, none, F, by rw [hE]; rfl, by simp only [hapB]; rw [if_neg (by omega)]; exact Own.nil _ _ _ _, (fun k hk => by cases hk), ?_, fun k hk => .inl hk, hK2⟩
      simpa [hapS, hE] using hW2
    · have tn : (n == 1) = false := by simpa using hn
      have en5 := hB5.cell 2
      simp at en5
      go_wp2_with fail
      go_ret2
      have hE : hapE S 5 1 n l = 0 := by rw [hapE5, if_pos ⟨rfl, HS.out⟩]
      refine ⟨_, none, F, by rw [hE]; rfl, by simp only [hapB]; rw [if_neg (by omega)]; exact Own.nil _ _ _ _, (fun k hk => by cases hk), ?_, fun k hk => .inl hk, hK5⟩
      simpa [hapS, hE, hn] using hW5
  · have hE : hapE S 5 conn n l = 1 := by rw [hapE5, if_neg hcc]
    by_cases hc1 : conn = 1
    · subst hc1
      have hst : ¬ (S 1).st = 1 := fun h => hcc ⟨rfl, h⟩
      have ts : ((S 1).st != 1) = true := by simpa using hst
      rw [gt_in S 1 _ _ 1 rfl (by omega)]
      have HE := hid hE
      clear hE
      go_wp2_with fail
      go_ret2
      exact RHaP.no HE.out h K1'.out
    · have tc : (conn != 1) = true := by simpa using hc1
      generalize gt S conn Cn.st 0 = st
      have HE := hid hE
      clear hE
      go_wp2_with fail
      go_ret2
      exact RHaP.no HE.out h K1'.out

set_option maxHeartbeats 1000000 in
set_option maxRecDepth 20000 in
theorem rhap6 (conn n : Int) (v : Value) (rv : Option Nat) (l : List UInt8) (w : World) (h : RWir w g S F R) (hv : Rd w v rv (byv l)) (hvF : ∀ k, rv = some k → ¬ F k) (hl : l.length ≤ 140737488300000) :
    Calls Try.prog 26 #[.pointer (some ⟨g, 0, none⟩), evt 6 conn n v] w (RHaP w g S F R 6 conn n l) := by
  unfold evt
  have HV := hid hv
  obtain ⟨A, c, rfl, _⟩ := hv
  simp only [byv_length] at HV ⊢
  have hA := (Kp.refl Non w).alloc (.cells #[.int .i64 6, .int .i64 conn, .int .i64 n, .slice A l.length c] 28)
  have hB := Blk.new w #[.int .i64 6, .int .i64 conn, .int .i64 n, .slice A l.length c] 28
  have hFg : F g := by obtain ⟨_, _, _, _, _, h3, _⟩ := h; exact h3
  have hgl : g < w.heap.size := by obtain ⟨_, _, _, b, _⟩ := h; exact b.lt
  have hge : ¬ w.heap.size = g := by omega
  go_enter Try.func26, Try.ntmps26
  go_wp2_with fail
  refine (rstate_calls (g := g) (S := S) (F := F) (R := R) conn _ (h.keep hA)).mono ?_
  rintro e w1 ⟨rfl, k1⟩
  have hB1 := hB.keep k1
  have e0 := hB1.cell 0
  have ec := hB1.cell 1
  have en := hB1.cell 2
  have eb := hB1.cell 3
  simp at e0 ec en eb
  have K1 := hA.seq k1
  have h1 := h.keep K1
  generalize gt S conn Cn.st 0 = st
  by_cases hn : 0 < n ∧ n ≤ 1073741824
  · have t1 : decide (1 ≤ n) = true := by simp; omega
    have t2 : decide (n ≤ 1073741824) = true := by simp; omega
    go_wp2_with fail
    go_ret2
    have hE : hapE S 6 conn n l = 0 := by rw [hapE6, if_pos hn]
    exact ⟨_, none, F, by rw [hE]; rfl, by simp only [hapB]; rw [if_neg (by omega)]; exact Own.nil _ _ _ _, (fun k hk => by cases hk), by simpa [hapS, hE] using h1, fun k hk => .inl hk, K1.any⟩
  · by_cases hn1 : 0 < n
    · have t1 : decide (1 ≤ n) = true := by simp; omega
      have t2 : decide (n ≤ 1073741824) = false := by simp; omega
      go_wp2_with fail
      go_ret2
      exact RHaP.no (by rw [hapE6, if_neg hn]) h K1
    · have t1 : decide (1 ≤ n) = false := by simp; omega
      go_wp2_with fail
      go_ret2
      exact RHaP.no (by rw [hapE6, if_neg hn]) h K1

set_option maxHeartbeats 1000000 in
set_option maxRecDepth 20000 in
theorem rhap0 (kd conn n : Int) (hk : ¬ kd = 1 ∧ ¬ kd = 2 ∧ ¬ kd = 3 ∧ ¬ kd = 4 ∧ ¬ kd = 5 ∧ ¬ kd = 6) (v : Value) (rv : Option Nat) (l : List UInt8) (w : World) (h : RWir w g S F R) (hv : Rd w v rv (byv l)) :
    Calls Try.prog 26 #[.pointer (some ⟨g, 0, none⟩), evt kd conn n v] w (RHaP w g S F R kd conn n l) := by
  have hE : hapE S kd conn n l = 1 := by
    unfold hapE
    rw [if_neg hk.1, if_neg hk.2.1, if_neg hk.2.2.1, if_neg hk.2.2.2.1, if_neg hk.2.2.2.2.1, if_neg hk.2.2.2.2.2]
  have HE := hid hE
  clear hE
  have t1 : (kd == 1) = false := by simpa using hk.1
  have t2 : (kd == 2) = false := by simpa using hk.2.1
  have t3 : (kd == 3) = false := by simpa using hk.2.2.1
  have t4 : (kd == 4) = false := by simpa using hk.2.2.2.1
  have t5 : (kd == 5) = false := by simpa using hk.2.2.2.2.1
  have t6 : (kd == 6) = false := by simpa using hk.2.2.2.2.2
  clear hk
  unfold evt
  have HV := hid hv
  obtain ⟨A, c, rfl, _⟩ := hv
  simp only [byv_length] at HV ⊢
  have hA := (Kp.refl Non w).alloc (.cells #[.int .i64 kd, .int .i64 conn, .int .i64 n, .slice A l.length c] 28)
  have hB := Blk.new w #[.int .i64 kd, .int .i64 conn, .int .i64 n, .slice A l.length c] 28
  have hFg : F g := by obtain ⟨_, _, _, _, _, h3, _⟩ := h; exact h3
  have hgl : g < w.heap.size := by obtain ⟨_, _, _, b, _⟩ := h; exact b.lt
  have hge : ¬ w.heap.size = g := by omega
  go_enter Try.func26, Try.ntmps26
  go_wp2_with fail
  refine (rstate_calls (g := g) (S := S) (F := F) (R := R) conn _ (h.keep hA)).mono ?_
  rintro e w1 ⟨rfl, k1⟩
  have hB1 := hB.keep k1
  have e0 := hB1.cell 0
  have ec := hB1.cell 1
  have en := hB1.cell 2
  have eb := hB1.cell 3
  simp at e0 ec en eb
  have K1 := hA.seq k1
  have h1 := h.keep K1
  generalize gt S conn Cn.st 0 = st
  go_wp2_with fail
  go_ret2
  exact RHaP.no HE.out h K1

theorem rhappen_calls (kd conn n : Int) (v : Value) (rv : Option Nat) (l : List UInt8) (w : World) (h : RWir w g S F R) (hv : Rd w v rv (byv l)) (hvF : ∀ k, rv = some k → ¬ F k) (hl : l.length ≤ 140737488300000) :
    Calls Try.prog 26 #[.pointer (some ⟨g, 0, none⟩), evt kd conn n v] w (RHaP w g S F R kd conn n l) := by
  by_cases h1 : kd = 1
  · subst h1; exact rhap1 conn n v rv l w h hv hvF hl
  by_cases h2 : kd = 2
  · subst h2; exact rhap2 conn n v rv l w h hv hvF hl
  by_cases h3 : kd = 3
  · subst h3; exact rhap3 conn n v rv l w h hv hvF hl
  by_cases h4 : kd = 4
  · subst h4; exact rhap4 conn n v rv l w h hv hvF hl
  by_cases h5 : kd = 5
  · subst h5; exact rhap5 conn n v rv l w h hv hvF hl
  by_cases h6 : kd = 6
  · subst h6; exact rhap6 conn n v rv l w h hv hvF hl
  exact rhap0 kd conn n ⟨h1, h2, h3, h4, h5, h6⟩ v rv l w h hv

end Go.Proofs.Ytpbkipolgdldfaa

/- The reference's wire: New, Write, Finish. -/
import Derived.Test.YtpbkipolgdldfaaRWireS
import Derived.Test.YtpbkipolgdldfaaWireA
namespace Go.Proofs.Ytpbkipolgdldfaa
open Go.RowKit
set_option linter.unusedSimpArgs false
set_option linter.unusedVariables false
attribute [local go_sem] max2_of min2_of max_of min_of

def RNewInv (w : World) (g : Nat) (i : Value) (wr : World) : Prop :=
  ∃ (k : Nat) (p0 p1 : Value), i = .int .i64 k ∧ k ≤ 2 ∧
    Blk wr g #[.int .i64 0, .int .i64 0, .bool false, p0, .slice none 0 0, .slice none 0 0, .int .i64 0, .int .i64 0, .bool false, p1, .slice none 0 0, .slice none 0 0] 66 ∧
    (1 ≤ k → ∃ q, p0 = .pointer (some ⟨q, 0, none⟩) ∧ RQue wr q none [] 0 4000 ∧ w.heap.size ≤ q ∧ q < wr.heap.size) ∧ (2 ≤ k → ∃ q, p1 = .pointer (some ⟨q, 0, none⟩) ∧ RQue wr q none [] 0 4000 ∧ w.heap.size ≤ q) ∧ (2 ≤ k → p0 ≠ p1) ∧ (k = 0 → p0 = .pointer none) ∧ (k ≤ 1 → p1 = .pointer none) ∧ w.heap.size ≤ g ∧ Kp Non w wr

set_option maxHeartbeats 1000000 in
theorem rnewW_calls (w : World) :
    Calls Try.prog 21 #[] w fun e w' => ∃ g F, e = .returned (.pointer (some ⟨g, 0, none⟩)) ∧ RWir w' g S0 F (fun _ => False) ∧ (∀ k, F k → w.heap.size ≤ k) ∧ Kp Non w w' := by
  go_enter Try.func21, Try.ntmps21
  go_wp2_with fail
  go_loopw [2] (fun i wr => RNewInv w w.heap.size i wr) (fun i _ => 3 - (intOf i).toNat)
  case atStart => exact ⟨0, .pointer none, .pointer none, rfl, by omega, Blk.new _ _ _, by omega, by omega, by omega, fun _ => rfl, fun _ => rfl, Nat.le_refl _, (Kp.refl _ _).alloc _⟩
  case round =>
    obtain ⟨k, p0, p1, rfl, hk, hb, h0, h1, hne, hz0, hz1, hg, KK⟩ := hrel
    have hk3 : k = 0 ∨ k = 1 ∨ k = 2 := by omega
    rcases hk3 with rfl | rfl | rfl
    · obtain rfl := hz0 rfl
      obtain rfl := hz1 (by omega)
      clear h0 h1 hne hz0 hz1
      have hd := (Kp.refl Non wr).drew
      go_wp2_with fail
      refine wp_region_seq [(0, true), (1, true), (4, true), (5, true), (2, false), (3, true), (6, true), (7, false)] 7 Non wide (by kernel_rfl) (fun _ _ _ _ _ h => h) ?_; (try simp only [List.append_eq, List.cons_append, List.nil_append])
      repeat (refine seq_still (v := ?_) rfl rfl (fun wq hq => ?_) ?_; rotate_left; (focus ((simp only [List.getElem_toArray, List.getElem_cons_zero, List.getElem_cons_succ]; go_simp; try with_reducible rfl); done)); simp only [List.getElem_toArray, List.getElem_cons_zero, List.getElem_cons_succ, Act.put, List.setIfInBounds_toArray, List.set_cons_zero, List.set_cons_succ])
      refine seq_step rfl rfl (fun K hK => ?_); simp only [List.getElem_toArray, List.getElem_cons_zero, List.getElem_cons_succ]; go_simp
      refine (rnew_calls 4000 _ (by omega)).mono ?_
      rintro e w1 ⟨q, rfl, hq, q1, k1⟩
      refine hK.out _ _ (k1) ?_; clear hK; (try simp only [Act.put, List.setIfInBounds_toArray, List.set_cons_zero, List.set_cons_succ])
      have hb1 := hb.keep (hd.seq k1)
      have c0 := hb1.cell 0
      have c1 := hb1.cell 1
      have c2 := hb1.cell 2
      have c3 := hb1.cell 3
      have c4 := hb1.cell 4
      have c5 := hb1.cell 5
      have fz := hb1.frozen
      simp at c0 c1 c2 c3 c4 c5
      repeat (refine seq_still (v := ?_) rfl rfl (fun wq hq => ?_) ?_; rotate_left; (focus ((simp only [List.getElem_toArray, List.getElem_cons_zero, List.getElem_cons_succ]; go_simp; try with_reducible rfl); done)); simp only [List.getElem_toArray, List.getElem_cons_zero, List.getElem_cons_succ, Act.put, List.setIfInBounds_toArray, List.set_cons_zero, List.set_cons_succ])
      refine seq_last rfl rfl (fun K hK => ?_); simp only [List.getElem_toArray, List.getElem_cons_zero, List.getElem_cons_succ]; go_simp
      refine hK.out _ _ ?_; clear hK; (try simp only [Act.put, List.setIfInBounds_toArray, List.set_cons_zero, List.set_cons_succ])
      refine seq_nil ?_
      have hqw : w.heap.size ≤ q := by have := KK.size; have := hd.size; omega
      have hgl := hb.lt
      have hs := (hd.seq k1).size
      have kg := (((((((Kp.refl (One w.heap.size) w1).setOne 0 (.int .i64 0)).setOne 1 (.int .i64 0)).setOne 2 (.bool false)).setOne 3 (.pointer (some ⟨q, 0, none⟩))).setOne 4 (.slice none 0 0)).setOne 5 (.slice none 0 0))
      have hqg : ¬ q = w.heap.size := by have := hd.size; omega
      have q2 := q1.kp kg (fun h => hqg h) (fun i hi => by cases hi)
      go_wp2_with fail
      go_roundw
      case rel => exact ⟨1, _, _, by go_num, by omega, ((((((hb1.set 0 (.int .i64 0)).set 1 (.int .i64 0)).set 2 (.bool false)).set 3 (.pointer (some ⟨q, 0, none⟩))).set 4 (.slice none 0 0)).set 5 (.slice none 0 0)), fun _ => ⟨q, rfl, q2, hqw, q2.lt⟩, by omega, by omega, by omega, fun _ => rfl, Nat.le_refl _, (KK.seq (hd.seq k1)).trans kg (fun i hi => .inr (by have : i = w.heap.size := hi; omega))⟩
      case measure => simp [intOf]
    · obtain ⟨qa, rfl, hqa, hqaw, hqal⟩ := h0 (by omega)
      obtain rfl := hz1 (by omega)
      clear h0 h1 hne hz0 hz1
      have hd := (Kp.refl Non wr).drew
      go_wp2_with fail
      refine wp_region_seq [(0, true), (1, true), (4, true), (5, true), (2, false), (3, true), (6, true), (7, false)] 7 Non wide (by kernel_rfl) (fun _ _ _ _ _ h => h) ?_; (try simp only [List.append_eq, List.cons_append, List.nil_append])
      repeat (refine seq_still (v := ?_) rfl rfl (fun wq hq => ?_) ?_; rotate_left; (focus ((simp only [List.getElem_toArray, List.getElem_cons_zero, List.getElem_cons_succ]; go_simp; try with_reducible rfl); done)); simp only [List.getElem_toArray, List.getElem_cons_zero, List.getElem_cons_succ, Act.put, List.setIfInBounds_toArray, List.set_cons_zero, List.set_cons_succ])
      refine seq_step rfl rfl (fun K hK => ?_); simp only [List.getElem_toArray, List.getElem_cons_zero, List.getElem_cons_succ]; go_simp
      refine (rnew_calls 4000 _ (by omega)).mono ?_
      rintro e w1 ⟨q, rfl, hq, q1, k1⟩
      refine hK.out _ _ (k1) ?_; clear hK; (try simp only [Act.put, List.setIfInBounds_toArray, List.set_cons_zero, List.set_cons_succ])
      have hb1 := hb.keep (hd.seq k1)
      have c6 := hb1.cell 6
      have c7 := hb1.cell 7
      have c8 := hb1.cell 8
      have c9 := hb1.cell 9
      have c10 := hb1.cell 10
      have c11 := hb1.cell 11
      have fz := hb1.frozen
      simp at c6 c7 c8 c9 c10 c11
      repeat (refine seq_still (v := ?_) rfl rfl (fun wq hq => ?_) ?_; rotate_left; (focus ((simp only [List.getElem_toArray, List.getElem_cons_zero, List.getElem_cons_succ]; go_simp; try with_reducible rfl); done)); simp only [List.getElem_toArray, List.getElem_cons_zero, List.getElem_cons_succ, Act.put, List.setIfInBounds_toArray, List.set_cons_zero, List.set_cons_succ])
      refine seq_last rfl rfl (fun K hK => ?_); simp only [List.getElem_toArray, List.getElem_cons_zero, List.getElem_cons_succ]; go_simp
      refine hK.out _ _ ?_; clear hK; (try simp only [Act.put, List.setIfInBounds_toArray, List.set_cons_zero, List.set_cons_succ])
      refine seq_nil ?_
      have hds := hd.size
      have hqw : w.heap.size ≤ q := by have := KK.size; omega
      have hgl := hb.lt
      have hs := (hd.seq k1).size
      have kg := (((((((Kp.refl (One w.heap.size) w1).setOne 6 (.int .i64 0)).setOne 7 (.int .i64 0)).setOne 8 (.bool false)).setOne 9 (.pointer (some ⟨q, 0, none⟩))).setOne 10 (.slice none 0 0)).setOne 11 (.slice none 0 0))
      have hqg : ¬ q = w.heap.size := by omega
      have hqga : ¬ qa = w.heap.size := by
        rintro rfl
        obtain ⟨v, b2, _⟩ := hqa
        exact absurd (hb.inj b2).2 (by decide)
      have q2 := q1.kp kg (fun h => hqg h) (fun i hi => by cases hi)
      have qa2 := (hqa.keep (hd.seq k1)).kp kg (fun h => hqga h) (fun i hi => by cases hi)
      go_wp2_with fail
      go_roundw
      case rel => exact ⟨2, _, _, by go_num, by omega, ((((((hb1.set 6 (.int .i64 0)).set 7 (.int .i64 0)).set 8 (.bool false)).set 9 (.pointer (some ⟨q, 0, none⟩))).set 10 (.slice none 0 0)).set 11 (.slice none 0 0)), fun _ => ⟨qa, rfl, qa2, hqaw, qa2.lt⟩, fun _ => ⟨q, rfl, q2, hqw⟩, fun _ h => by injection h with h; injection h with h; injection h with h; omega, by omega, by omega, Nat.le_refl _, (KK.seq (hd.seq k1)).trans kg (fun i hi => .inr (by have : i = w.heap.size := hi; omega))⟩
      case measure => simp [intOf]
    · obtain ⟨qa, rfl, hqa, hqaw, hqal⟩ := h0 (by omega)
      obtain ⟨qb, rfl, hqb, hqbw⟩ := h1 (by omega)
      have hab : qa ≠ qb := fun h => hne (by omega) (by rw [h])
      clear h0 h1 hne hz0 hz1
      have c0 := hb.cell 0
      have f0 := hb.frozen 0
      simp at c0
      go_wp2_with fail
      go_ret
      have hne' : ∀ q, RQue wr q none [] 0 4000 → ¬ q = w.heap.size := by
        rintro q hq rfl
        obtain ⟨v, b2, _⟩ := hq
        exact absurd (hb.inj b2).2 (by decide)
      have kg := (Kp.refl (One w.heap.size) wr).setOne 0 (.int .i64 2)
      have qa2 := hqa.kp kg (fun h => hne' qa hqa h) (fun i hi => by cases hi)
      have qb2 := hqb.kp kg (fun h => hne' qb hqb h) (fun i hi => by cases hi)
      refine ⟨w.heap.size, fun k => k = w.heap.size ∨ k = qa ∨ k = qb, rfl, ⟨_, fun i => if i = 0 then qa else qb, fun _ => none, hb.set 0 _, rfl, .inl rfl, fun i hi => ?_, fun i j hi hj hij => ?_, fun k hk' => ⟨?_, fun h => h⟩, fun k h => h.elim⟩, fun k hk' => ?_, KK.trans kg (fun i hi => .inr (by have : i = w.heap.size := hi; omega))⟩
      · have : i = 0 ∨ i = 1 := by omega
        rcases this with rfl | rfl
        · exact ⟨_, _, none, none, rfl, rfl, rfl, rfl, rfl, rfl, qa2, Rd.nil _ _ _ (by simp [maxLen]) _, Rd.nil _ _ _ (by simp [maxLen]) _, .inr (.inl rfl), (fun k h => by cases h), (fun k h => by cases h), (fun k h => by cases h), by simp [S0]⟩
        · exact ⟨_, _, none, none, rfl, rfl, rfl, rfl, rfl, rfl, qb2, Rd.nil _ _ _ (by simp [maxLen]) _, Rd.nil _ _ _ (by simp [maxLen]) _, .inr (.inr rfl), (fun k h => by cases h), (fun k h => by cases h), (fun k h => by cases h), by simp [S0]⟩
      · refine ⟨?_, fun k h => by cases h⟩
        have : (i = 0 ∧ j = 1) ∨ (i = 1 ∧ j = 0) := by omega
        rcases this with ⟨rfl, rfl⟩ | ⟨rfl, rfl⟩
        · simpa using hab
        · simpa using fun h => hab h.symm
      · have := kg.size
        rcases hk' with rfl | rfl | rfl
        · exact Nat.lt_of_lt_of_le hb.lt this
        · exact qa2.lt
        · exact qb2.lt
      · rcases hk' with rfl | rfl | rfl
        · exact Nat.le_refl _
        · exact hqaw
        · exact hqbw

set_option maxHeartbeats 1000000 in
theorem rwrite_calls (g : Nat) (S : Nat → Cn) (F R : Nat → Prop) (conn : Int) (v : Value) (rv : Option Nat) (l : List UInt8) (w : World) (h : RWir w g S F R) (hv : Rd w v rv (byv l)) (hl : l.length ≤ 140737488300000) :
    Calls Try.prog 22 #[.pointer (some ⟨g, 0, none⟩), .int .i64 conn, v] w fun e w' => ∃ F', e = .returned (.int .i64 (writeE S conn l)) ∧ RWir w' g (writeS S conn l) F' R ∧ (∀ k, F' k → F k ∨ w.heap.size ≤ k) ∧ Kp F w w' := by
  rcases conn_cases conn with ⟨i, rfl, hi⟩ | hc
  · have hE : writeE S i l = if outF (S i).st = false ∨ (S i).done = true then 65 else if (S i).b.length + l.length ≤ 4000 then 0 else 72 := gt_in S _ _ _ i rfl hi
    have h1 : (i : Int) < 2 := by omega
    go_enter Try.func22, Try.ntmps22
    go_wp2_with fail
    refine (ropen_calls i _ h).mono ?_
    rintro e w2 ⟨rfl, K2⟩
    rw [gt_in S _ _ _ i rfl hi]
    have h2 := h.keep K2
    cases hof : outF (S i).st with
    | false =>
      have hE2 : writeE S i l = 65 := by rw [hE, if_pos (.inl hof)]
      have HE := hid hE2
      clear hE2 hE
      go_wp2_with fail
      go_ret
      exact ⟨F, by rw [HE.out]; rfl, by simpa [writeS, HE.out] using h2, fun k hk => .inl hk, K2.any⟩
    | true =>
      have c2 : w2.cell? ⟨g, i * 6 + 2, none⟩ = some (.bool (S i).done) := by
        obtain ⟨_, _, _, _, _, _, _, _, c2, _⟩ := h2.cells i hi
        exact c2
      cases hdn : (S i).done with
      | true =>
        have hE2 : writeE S i l = 65 := by rw [hE, if_pos (.inr hdn)]
        have HE := hid hE2
        clear hE2 hE
        rw [hdn] at c2
        go_wp2_with fail
        go_ret
        exact ⟨F, by rw [HE.out]; rfl, by simpa [writeS, HE.out] using h2, fun k hk => .inl hk, K2.any⟩
      | false =>
        rw [hdn] at c2
        obtain ⟨cs, q, r, b1, b2, b3, b4, b5, b6, b7⟩ := h2
        obtain ⟨vo, vw, ro, rw', d0, d1, d2, d3, d4, d5, hq, ho, hw, f1, f2, _⟩ := b4 i hi
        have c3 := (b1.cell _).trans d3
        by_cases hlen : (S i).b.length + l.length ≤ 4000
        · have hE2 : writeE S i l = 0 := by rw [hE, if_neg (by simp [hof, hdn]), if_pos hlen]
          have HE := hid hE2
          clear hE2 hE
          go_wp2_with fail
          refine (rput_yes (q i) (r i) (S i).b (S i).a 4000 v rv l _ hq (hv.keep K2) (by omega) (by omega)).mono ?_
          rintro e w3 ⟨r3, rfl, q3, n3, k3⟩
          go_wp2_with fail
          go_ret
          have hs := K2.size
          refine ⟨Grown w2 F w3, by rw [HE.out]; rfl, ?_, fun k hk => ?_, ((Kp.any (S := F) K2).trans k3 (fun k hk => .inl ?_))⟩
          · have := RWir.setQ b1 b2 b3 b4 b5 b6 b7 i hi _ _ r3 q3 (fun k hk => .inr (n3 k hk)) (k3.mono fun k hk => .inl hk)
            simpa [writeS, HE.out] using this
          · rcases hk with hk | hk
            · exact .inl hk
            · exact .inr (by omega)
          · rw [show k = q i from hk]; exact f1
        · have hE2 : writeE S i l = 72 := by rw [hE, if_neg (by simp [hof, hdn]), if_neg hlen]
          have HE := hid hE2
          clear hE2 hE
          go_wp2_with fail
          refine (rput_no (q i) (r i) (S i).b (S i).a 4000 v rv l _ hq (hv.keep K2) (by omega) (by omega)).mono ?_
          rintro e w3 ⟨rfl, k3⟩
          go_wp2_with fail
          go_ret
          exact ⟨F, by rw [HE.out]; rfl, by simpa [writeS, HE.out] using (h.keep K2).keep k3, fun k hk => .inl hk, (K2.seq k3).any⟩
  · have hE2 : writeE S conn l = 65 := gt_out S _ _ _ hc
    have HE := hid hE2
    clear hE2
    go_enter Try.func22, Try.ntmps22
    go_wp2_with fail
    refine (ropen_calls conn _ h).mono ?_
    rintro e w2 ⟨rfl, K2⟩
    rw [gt_out S _ _ _ hc]
    go_wp2_with fail
    go_ret
    exact ⟨F, by rw [HE.out]; rfl, by simpa [writeS, HE.out] using h.keep K2, fun k hk => .inl hk, K2.any⟩

set_option maxHeartbeats 1000000 in
theorem rfinish_calls (g : Nat) (S : Nat → Cn) (F R : Nat → Prop) (conn : Int) (w : World) (h : RWir w g S F R) :
    Calls Try.prog 23 #[.pointer (some ⟨g, 0, none⟩), .int .i64 conn] w fun e w' => e = .returned (.tuple #[]) ∧ RWir w' g (finS S conn) F R ∧ Kp F w w' := by
  have hFg : F g := by obtain ⟨_, _, _, _, _, h3, _⟩ := h; exact h3
  rcases conn_cases conn with ⟨i, rfl, hi⟩ | hc
  · have hE : gt S (i : Int) (fun X => outF X.st) false = outF (S i).st := gt_in S _ _ _ i rfl hi
    have h1 : (i : Int) < 2 := by omega
    have HE := hid hE
    clear hE
    go_enter Try.func23, Try.ntmps23
    go_wp2_with fail
    refine (ropen_calls i _ h).mono ?_
    rintro e w2 ⟨rfl, K2⟩
    rw [gt_in S _ _ _ i rfl hi]
    have h2 := h.keep K2
    obtain ⟨_, _, _, _, _, _, _, _, c2, _, _, _, _, _, _, fz, hg4⟩ := h2.cells i hi
    cases hof : outF (S i).st with
    | false =>
      go_wp2_with fail
      go_end0
      exact ⟨rfl, by simpa [finS, HE.out, hof] using h2, K2.any⟩
    | true =>
      go_wp2_with fail
      go_end0
      refine ⟨rfl, ?_, (K2.any).setCell (p := ⟨g, i * 6 + 2, none⟩) (.inl hFg) _⟩
      have := h2.setC i hi 2 (by omega) (.bool true) { S i with done := true } rfl rfl rfl rfl rfl rfl rfl hg4
      simpa [finS, HE.out, hof] using this
  · have hE : gt S conn (fun X => outF X.st) false = false := gt_out S _ _ _ hc
    go_enter Try.func23, Try.ntmps23
    go_wp2_with fail
    refine (ropen_calls conn _ h).mono ?_
    rintro e w2 ⟨rfl, K2⟩
    rw [hE]
    go_wp2_with fail
    go_end0
    exact ⟨rfl, by simpa [finS, hE] using h.keep K2, K2.any⟩

end Go.Proofs.Ytpbkipolgdldfaa

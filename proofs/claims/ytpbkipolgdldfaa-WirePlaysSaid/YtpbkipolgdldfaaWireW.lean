/- The wire's New, Write, Finish. -/
import Derived.Test.YtpbkipolgdldfaaWireS
namespace Go.Proofs.Ytpbkipolgdldfaa
open Go.RowKit
set_option linter.unusedSimpArgs false
set_option linter.unusedVariables false
attribute [local go_sem] max2_of min2_of max_of min_of

/-- A number or a flag of one is set. -/
theorem Wir.setC {w : World} {g : Nat} {S : Nat → Cn} {F R : Nat → Prop} (h : Wir w g S F R) (i : Nat) (hi : i < 2) (d : Nat) (hd : d < 3) (u : Value) (X : Cn)
    (h0 : (if d = 0 then u else .int .i64 (S i).st) = .int .i64 X.st) (h1 : (if d = 1 then u else .int .i64 (S i).got) = .int .i64 X.got) (h2 : (if d = 2 then u else .bool (S i).done) = .bool X.done)
    (hb : X.b = (S i).b) (ha : X.a = (S i).a) (ho : X.old = (S i).old) (hw : X.wrote = (S i).wrote) (hg4 : X.got ≤ 4000) : Wir (w.setCell ⟨g, i * 6 + d, none⟩ u) g (upd S i X) F R := by
  obtain ⟨cs, q, r, b1, b2, b3, b4, b5, b6, b7⟩ := h
  have hk := (Kp.refl (One g) w).setOne (i * 6 + d) u
  have hgq : ∀ j, j < 2 → q j ≠ g ∧ r j ≠ some g := fun j hj => by
    obtain ⟨vo, vw, ro, rw', _, _, _, _, _, _, hq, _⟩ := b4 j hj
    obtain ⟨v, hb, ho, _⟩ := hq
    refine ⟨?_, ho.ne_blk b1 (by decide)⟩
    intro hgq
    rw [hgq] at hb
    exact absurd (b1.inj hb).2 (by decide)
  have hRg : ¬ R g := (b6 g b3).2
  refine ⟨_, q, r, b1.set (i * 6 + d) u, by simp [b2], b3, fun j hj => ?_, b5, fun k hk' => ⟨Nat.lt_of_lt_of_le (b6 k hk').1 hk.size, (b6 k hk').2⟩, fun k hk' => Nat.lt_of_lt_of_le (b7 k hk') hk.size⟩
  obtain ⟨vo, vw, ro, rw', c0, c1, c2, c3, c4, c5, hq, ho', hw', f1, f2, f3, f4, f5⟩ := b4 j hj
  have hq2 := hq.kp hk (fun h => (hgq j hj).1 h) (fun k hk' h => (hgq j hj).2 (by rw [hk', show k = g from h]))
  have ho2 := ho'.kp hk (fun k hk' h => hRg (by rw [← show k = g from h]; exact f3 k hk'))
  have hw2 := hw'.kp hk (fun k hk' h => hRg (by rw [← show k = g from h]; exact f4 k hk'))
  have hget : ∀ e, e < 6 → (cs.setIfInBounds (i * 6 + d) u)[j * 6 + e]? = if j = i ∧ e = d then some u else cs[j * 6 + e]? := fun e he => by
    simp only [Array.getElem?_setIfInBounds]
    by_cases hji : j = i ∧ e = d
    · obtain ⟨rfl, rfl⟩ := hji
      have : j * 6 + e < cs.size := by omega
      simp [this]
    · rw [if_neg (by omega), if_neg hji]
  have g0 := hget 0 (by omega)
  have g1 := hget 1 (by omega)
  have g2 := hget 2 (by omega)
  have g3 := hget 3 (by omega)
  have g4 := hget 4 (by omega)
  have g5 := hget 5 (by omega)
  rw [Nat.add_zero] at g0
  rw [if_neg (by omega), c3] at g3
  rw [if_neg (by omega), c4] at g4
  rw [if_neg (by omega), c5] at g5
  rw [c0] at g0
  rw [c1] at g1
  rw [c2] at g2
  by_cases hji : j = i
  · subst hji
    simp only [upd, if_true]
    refine ⟨vo, vw, ro, rw', ?_, ?_, ?_, g3, g4, g5, by rw [hb, ha]; exact hq2, by rw [ho]; exact ho2, by rw [hw]; exact hw2, f1, f2, f3, f4, hg4⟩
    · rw [g0, ← h0]; by_cases hd0 : d = 0 <;> simp [hd0, eq_comm]
    · rw [g1, ← h1]; by_cases hd1 : d = 1 <;> simp [hd1, eq_comm]
    · rw [g2, ← h2]; by_cases hd2 : d = 2 <;> simp [hd2, eq_comm]
  · simp only [upd, if_neg hji]
    rw [if_neg (fun h => hji h.1)] at g0 g1 g2
    exact ⟨vo, vw, ro, rw', g0, g1, g2, g3, g4, g5, hq2, ho2, hw2, f1, f2, f3, f4, f5⟩

def S0 : Nat → Cn := fun i => ⟨if i = 0 then 2 else 0, 0, false, [], 0, [], []⟩
def NewInv (w : World) (g : Nat) (i : Value) (wr : World) : Prop :=
  ∃ (k : Nat) (p0 p1 : Value), i = .int .i64 k ∧ k ≤ 2 ∧
    Blk wr g #[.int .i64 0, .int .i64 0, .bool false, p0, .slice none 0 0, .slice none 0 0, .int .i64 0, .int .i64 0, .bool false, p1, .slice none 0 0, .slice none 0 0] 52 ∧
    (1 ≤ k → ∃ q, p0 = .pointer (some ⟨q, 0, none⟩) ∧ Que wr q none [] 0 4000 ∧ w.heap.size ≤ q ∧ q < wr.heap.size) ∧ (2 ≤ k → ∃ q, p1 = .pointer (some ⟨q, 0, none⟩) ∧ Que wr q none [] 0 4000 ∧ w.heap.size ≤ q) ∧ (2 ≤ k → p0 ≠ p1) ∧ (k = 0 → p0 = .pointer none) ∧ (k ≤ 1 → p1 = .pointer none) ∧ w.heap.size ≤ g ∧ Kp Non w wr

theorem new_calls (w : World) :
    Calls Try.prog 9 #[] w fun e w' => ∃ g F, e = .returned (.pointer (some ⟨g, 0, none⟩)) ∧ Wir w' g S0 F (fun _ => False) ∧ (∀ k, F k → w.heap.size ≤ k) ∧ Kp Non w w' := by
  go_enter Try.func9, Try.ntmps9
  go_wp2_with fail
  go_loopw [2, 5] (fun _ i wr => NewInv w w.heap.size i wr) (fun _ i _ => 3 - (intOf i).toNat)
  case atStart => exact ⟨0, .pointer none, .pointer none, rfl, by omega, Blk.new _ _ _, by omega, by omega, by omega, fun _ => rfl, fun _ => rfl, Nat.le_refl _, (Kp.refl _ _).alloc _⟩
  case round =>
    obtain ⟨k, p0, p1, rfl, hk, hb, h0, h1, hne, hz0, hz1, hg, KK⟩ := hrel
    have hk3 : k = 0 ∨ k = 1 ∨ k = 2 := by omega
    rcases hk3 with rfl | rfl | rfl
    · obtain rfl := hz0 rfl
      obtain rfl := hz1 (by omega)
      clear h0 h1 hne hz0 hz1
      have hd := (Kp.refl Non wr).drew
      go_wp2_with fail
      refine wp_region_seq [(0, true), (1, true), (3, true), (4, true), (2, false), (5, true), (6, true), (7, false)] 7 Non wide (by kernel_rfl) (fun _ _ _ _ _ h => h) ?_; (try simp only [List.append_eq, List.cons_append, List.nil_append])
      repeat (refine seq_still (v := ?_) rfl rfl (fun wq hq => ?_) ?_; rotate_left; (focus ((simp only [List.getElem_toArray, List.getElem_cons_zero, List.getElem_cons_succ]; go_simp; try with_reducible rfl); done)); simp only [List.getElem_toArray, List.getElem_cons_zero, List.getElem_cons_succ, Act.put, List.setIfInBounds_toArray, List.set_cons_zero, List.set_cons_succ])
      refine seq_step rfl rfl (fun K hK => ?_); simp only [List.getElem_toArray, List.getElem_cons_zero, List.getElem_cons_succ]; go_simp
      refine (qnew_calls 4000 _ (by omega)).mono ?_
      rintro e w1 ⟨q, rfl, hq, q1, k1⟩
      refine hK.out _ _ (k1) ?_; clear hK; (try simp only [Act.put, List.setIfInBounds_toArray, List.set_cons_zero, List.set_cons_succ])
      have hb1 := hb.keep (hd.seq k1)
      have c3 := hb1.cell 3
      have f3 := hb1.frozen 3
      simp at c3
      repeat (refine seq_still (v := ?_) rfl rfl (fun wq hq => ?_) ?_; rotate_left; (focus ((simp only [List.getElem_toArray, List.getElem_cons_zero, List.getElem_cons_succ]; go_simp; try with_reducible rfl); done)); simp only [List.getElem_toArray, List.getElem_cons_zero, List.getElem_cons_succ, Act.put, List.setIfInBounds_toArray, List.set_cons_zero, List.set_cons_succ])
      refine seq_last rfl rfl (fun K hK => ?_); simp only [List.getElem_toArray, List.getElem_cons_zero, List.getElem_cons_succ]; go_simp
      refine hK.out _ _ ?_; clear hK; (try simp only [Act.put, List.setIfInBounds_toArray, List.set_cons_zero, List.set_cons_succ])
      refine seq_nil ?_
      have hqw : w.heap.size ≤ q := by have := KK.size; have := hd.size; omega
      have hgl := hb.lt
      have hs := (hd.seq k1).size
      have kg := (Kp.refl (One w.heap.size) w1).setOne 3 (.pointer (some ⟨q, 0, none⟩))
      have hqg : ¬ q = w.heap.size := by have := hd.size; omega
      have q2 := q1.kp kg (fun h => hqg h) (fun i hi => by cases hi)
      go_wp2_with fail
      go_roundw
      case rel => exact ⟨1, _, _, by go_num, by omega, hb1.set 3 _, fun _ => ⟨q, rfl, q2, hqw, q2.lt⟩, by omega, by omega, by omega, fun _ => rfl, Nat.le_refl _, (KK.seq (hd.seq k1)).trans kg (fun i hi => .inr (by have : i = w.heap.size := hi; omega))⟩
      case measure => simp [intOf]
    · obtain ⟨qa, rfl, hqa, hqaw, hqal⟩ := h0 (by omega)
      obtain rfl := hz1 (by omega)
      clear h0 h1 hne hz0 hz1
      have hd := (Kp.refl Non wr).drew
      go_wp2_with fail
      refine wp_region_seq [(0, true), (1, true), (3, true), (4, true), (2, false), (5, true), (6, true), (7, false)] 7 Non wide (by kernel_rfl) (fun _ _ _ _ _ h => h) ?_; (try simp only [List.append_eq, List.cons_append, List.nil_append])
      repeat (refine seq_still (v := ?_) rfl rfl (fun wq hq => ?_) ?_; rotate_left; (focus ((simp only [List.getElem_toArray, List.getElem_cons_zero, List.getElem_cons_succ]; go_simp; try with_reducible rfl); done)); simp only [List.getElem_toArray, List.getElem_cons_zero, List.getElem_cons_succ, Act.put, List.setIfInBounds_toArray, List.set_cons_zero, List.set_cons_succ])
      refine seq_step rfl rfl (fun K hK => ?_); simp only [List.getElem_toArray, List.getElem_cons_zero, List.getElem_cons_succ]; go_simp
      refine (qnew_calls 4000 _ (by omega)).mono ?_
      rintro e w1 ⟨q, rfl, hq, q1, k1⟩
      refine hK.out _ _ (k1) ?_; clear hK; (try simp only [Act.put, List.setIfInBounds_toArray, List.set_cons_zero, List.set_cons_succ])
      have hb1 := hb.keep (hd.seq k1)
      have c9 := hb1.cell 9
      have f9 := hb1.frozen 9
      simp at c9
      repeat (refine seq_still (v := ?_) rfl rfl (fun wq hq => ?_) ?_; rotate_left; (focus ((simp only [List.getElem_toArray, List.getElem_cons_zero, List.getElem_cons_succ]; go_simp; try with_reducible rfl); done)); simp only [List.getElem_toArray, List.getElem_cons_zero, List.getElem_cons_succ, Act.put, List.setIfInBounds_toArray, List.set_cons_zero, List.set_cons_succ])
      refine seq_last rfl rfl (fun K hK => ?_); simp only [List.getElem_toArray, List.getElem_cons_zero, List.getElem_cons_succ]; go_simp
      refine hK.out _ _ ?_; clear hK; (try simp only [Act.put, List.setIfInBounds_toArray, List.set_cons_zero, List.set_cons_succ])
      refine seq_nil ?_
      have hds := hd.size
      have hqw : w.heap.size ≤ q := by have := KK.size; omega
      have hgl := hb.lt
      have hs := (hd.seq k1).size
      have kg := (Kp.refl (One w.heap.size) w1).setOne 9 (.pointer (some ⟨q, 0, none⟩))
      have hqg : ¬ q = w.heap.size := by omega
      have hqga : ¬ qa = w.heap.size := by
        rintro rfl
        obtain ⟨v, b2, _⟩ := hqa
        exact absurd (hb.inj b2).2 (by decide)
      have q2 := q1.kp kg (fun h => hqg h) (fun i hi => by cases hi)
      have qa2 := (hqa.keep (hd.seq k1)).kp kg (fun h => hqga h) (fun i hi => by cases hi)
      go_wp2_with fail
      go_roundw
      case rel => exact ⟨2, _, _, by go_num, by omega, hb1.set 9 _, fun _ => ⟨qa, rfl, qa2, hqaw, qa2.lt⟩, fun _ => ⟨q, rfl, q2, hqw⟩, fun _ h => by injection h with h; injection h with h; injection h with h; omega, by omega, by omega, Nat.le_refl _, (KK.seq (hd.seq k1)).trans kg (fun i hi => .inr (by have : i = w.heap.size := hi; omega))⟩
      case measure => simp [intOf]
    · obtain ⟨qa, rfl, hqa, hqaw, hqal⟩ := h0 (by omega)
      obtain ⟨qb, rfl, hqb, hqbw⟩ := h1 (by omega)
      have hab : qa ≠ qb := fun h => hne (by omega) (by rw [h])
      clear h0 h1 hne hz0 hz1
      have c0 := hb.cell 0
      have f0 := hb.frozen 0
      simp at c0
      go_wp2_with fail
      go_ret
      have hne' : ∀ q, Que wr q none [] 0 4000 → ¬ q = w.heap.size := by
        rintro q hq rfl
        obtain ⟨v, b2, _⟩ := hq
        exact absurd (hb.inj b2).2 (by decide)
      have kg := (Kp.refl (One w.heap.size) wr).setOne 0 (.int .i64 2)
      have qa2 := hqa.kp kg (fun h => hne' qa hqa h) (fun i hi => by cases hi)
      have qb2 := hqb.kp kg (fun h => hne' qb hqb h) (fun i hi => by cases hi)
      refine ⟨w.heap.size, fun k => k = w.heap.size ∨ k = qa ∨ k = qb, rfl, ⟨_, fun i => if i = 0 then qa else qb, fun _ => none, hb.set 0 _, rfl, .inl rfl, fun i hi => ?_, fun i j hi hj hij => ?_, fun k hk' => ⟨?_, fun h => h⟩, fun k h => h.elim⟩, fun k hk' => ?_, KK.trans kg (fun i hi => .inr (by have : i = w.heap.size := hi; omega))⟩
      · have : i = 0 ∨ i = 1 := by omega
        rcases this with rfl | rfl
        · exact ⟨_, _, none, none, rfl, rfl, rfl, rfl, rfl, rfl, qa2, Rd.nil _ _ _ (by simp [maxLen]) _, Rd.nil _ _ _ (by simp [maxLen]) _, .inr (.inl rfl), (fun k h => by cases h), (fun k h => by cases h), (fun k h => by cases h), by simp [S0]⟩
        · exact ⟨_, _, none, none, rfl, rfl, rfl, rfl, rfl, rfl, qb2, Rd.nil _ _ _ (by simp [maxLen]) _, Rd.nil _ _ _ (by simp [maxLen]) _, .inr (.inr rfl), (fun k h => by cases h), (fun k h => by cases h), (fun k h => by cases h), by simp [S0]⟩
      · refine ⟨?_, fun k h => by cases h⟩
        have : (i = 0 ∧ j = 1) ∨ (i = 1 ∧ j = 0) := by omega
        rcases this with ⟨rfl, rfl⟩ | ⟨rfl, rfl⟩
        · simpa using hab
        · simpa using fun h => hab h.symm
      · have := kg.size
        rcases hk' with rfl | rfl | rfl
        · exact Nat.lt_of_lt_of_le hb.lt this
        · exact qa2.lt
        · exact qb2.lt
      · rcases hk' with rfl | rfl | rfl
        · exact Nat.le_refl _
        · exact hqaw
        · exact hqbw

/-! ### Write, Finish -/
/-- What a write answers, and what stands then. -/
def writeE (S : Nat → Cn) (conn : Int) (l : List UInt8) : Int := gt S conn (fun X => if outF X.st = false ∨ X.done = true then 65 else if X.b.length + l.length ≤ 4000 then 0 else 72) 65
def writeS (S : Nat → Cn) (conn : Int) (l : List UInt8) : Nat → Cn := if writeE S conn l = 0 then upd S conn.toNat { S conn.toNat with b := (S conn.toNat).b ++ l } else S

set_option maxHeartbeats 1000000 in
theorem write_calls (g : Nat) (S : Nat → Cn) (F R : Nat → Prop) (conn : Int) (v : Value) (rv : Option Nat) (l : List UInt8) (w : World) (h : Wir w g S F R) (hv : Rd w v rv (byv l)) (hl : l.length ≤ 140737488300000) :
    Calls Try.prog 16 #[.pointer (some ⟨g, 0, none⟩), .int .i64 conn, v] w fun e w' => ∃ F', e = .returned (.int .i64 (writeE S conn l)) ∧ Wir w' g (writeS S conn l) F' R ∧ (∀ k, F' k → F k ∨ w.heap.size ≤ k) ∧ Kp F w w' := by
  rcases conn_cases conn with ⟨i, rfl, hi⟩ | hc
  · have hE : writeE S i l = if outF (S i).st = false ∨ (S i).done = true then 65 else if (S i).b.length + l.length ≤ 4000 then 0 else 72 := gt_in S _ _ _ i rfl hi
    go_enter Try.func16, Try.ntmps16
    go_wp2_with fail
    refine (at_in g _ i _ rfl hi).mono ?_
    rintro e w1 ⟨rfl, k1⟩
    obtain ⟨_, _, _, _, _, _, c0, _⟩ := (h.keep k1).cells i hi
    go_wp2_with fail
    refine (out_some g (i * 6) (S i).st _ c0).mono ?_
    rintro e w2 ⟨rfl, k2⟩
    have K2 := k1.seq k2
    have h2 := h.keep K2
    have c2 : w2.cell? ⟨g, i * 6 + 2, none⟩ = some (.bool (S i).done) := by
      obtain ⟨_, _, _, _, _, _, _, _, c2, _⟩ := h2.cells i hi
      exact c2
    clear c0
    cases hof : outF (S i).st with
    | false =>
      have hE2 : writeE S i l = 65 := by rw [hE, if_pos (.inl hof)]
      go_wp2_with fail
      go_ret
      exact ⟨F, by rw [hE2]; rfl, by simpa [writeS, hE2] using h2, fun k hk => .inl hk, K2.any⟩
    | true =>
      cases hdn : (S i).done with
      | true =>
        have hE2 : writeE S i l = 65 := by rw [hE, if_pos (.inr hdn)]
        rw [hdn] at c2
        go_wp2_with fail
        go_ret
        exact ⟨F, by rw [hE2]; rfl, by simpa [writeS, hE2] using h2, fun k hk => .inl hk, K2.any⟩
      | false =>
        rw [hdn] at c2
        obtain ⟨cs, q, r, b1, b2, b3, b4, b5, b6, b7⟩ := h2
        obtain ⟨vo, vw, ro, rw', d0, d1, d2, d3, d4, d5, hq, ho, hw, f1, f2, _⟩ := b4 i hi
        have c3 := (b1.cell _).trans d3
        by_cases hlen : (S i).b.length + l.length ≤ 4000
        · have hE2 : writeE S i l = 0 := by rw [hE, if_neg (by simp [hof, hdn]), if_pos hlen]
          go_wp2_with fail
          refine (put_yes (q i) (r i) (S i).b (S i).a 4000 v rv l _ hq (hv.keep K2) (by omega) (by omega)).mono ?_
          rintro e w3 ⟨r3, rfl, q3, n3, k3⟩
          go_wp2_with fail
          go_ret
          have hs := K2.size
          refine ⟨Grown w2 F w3, by rw [hE2]; rfl, ?_, fun k hk => ?_, ((Kp.any (S := F) K2).trans k3 (fun k hk => .inl ?_))⟩
          · have := Wir.setQ b1 b2 b3 b4 b5 b6 b7 i hi _ _ r3 q3 n3 k3
            simpa [writeS, hE2] using this
          · rcases hk with hk | hk
            · exact .inl hk
            · exact .inr (by omega)
          · rcases hk with hk | hk
            · rw [hk]; exact f1
            · exact f2 k hk
        · have hE2 : writeE S i l = 72 := by rw [hE, if_neg (by simp [hof, hdn]), if_neg hlen]
          go_wp2_with fail
          refine (put_no (q i) (r i) (S i).b (S i).a 4000 v rv l _ hq (hv.keep K2) (by omega) (by omega)).mono ?_
          rintro e w3 ⟨rfl, k3⟩
          go_wp2_with fail
          go_ret
          exact ⟨F, by rw [hE2]; rfl, by simpa [writeS, hE2] using (h.keep K2).keep k3, fun k hk => .inl hk, (K2.seq k3).any⟩
  · have hE2 : writeE S conn l = 65 := gt_out S _ _ _ hc
    go_enter Try.func16, Try.ntmps16
    go_wp2_with fail
    refine (at_out g conn _ hc).mono ?_
    rintro e w1 ⟨rfl, k1⟩
    go_wp2_with fail
    refine (out_none _).mono ?_
    rintro e w2 ⟨rfl, k2⟩
    go_wp2_with fail
    go_ret
    exact ⟨F, by rw [hE2]; rfl, by simpa [writeS, hE2] using (h.keep k1).keep k2, fun k hk => .inl hk, (k1.seq k2).any⟩

def finS (S : Nat → Cn) (conn : Int) : Nat → Cn := if gt S conn (fun X => outF X.st) false then upd S conn.toNat { S conn.toNat with done := true } else S
set_option maxHeartbeats 1000000 in
theorem finish_calls (g : Nat) (S : Nat → Cn) (F R : Nat → Prop) (conn : Int) (w : World) (h : Wir w g S F R) :
    Calls Try.prog 18 #[.pointer (some ⟨g, 0, none⟩), .int .i64 conn] w fun e w' => e = .returned (.tuple #[]) ∧ Wir w' g (finS S conn) F R ∧ Kp F w w' := by
  have hFg : F g := by obtain ⟨_, _, _, _, _, h3, _⟩ := h; exact h3
  rcases conn_cases conn with ⟨i, rfl, hi⟩ | hc
  · have hE : gt S (i : Int) (fun X => outF X.st) false = outF (S i).st := gt_in S _ _ _ i rfl hi
    go_enter Try.func18, Try.ntmps18
    go_wp2_with fail
    refine (at_in g _ i _ rfl hi).mono ?_
    rintro e w1 ⟨rfl, k1⟩
    obtain ⟨_, _, _, _, _, _, c0, _⟩ := (h.keep k1).cells i hi
    go_wp2_with fail
    refine (out_some g (i * 6) (S i).st _ c0).mono ?_
    rintro e w2 ⟨rfl, k2⟩
    have K2 := k1.seq k2
    have h2 := h.keep K2
    obtain ⟨_, _, _, _, _, _, _, _, c2, _, _, _, _, _, _, fz, hg4⟩ := h2.cells i hi
    clear c0
    cases hof : outF (S i).st with
    | false =>
      go_wp2_with fail
      go_end0
      exact ⟨rfl, by simpa [finS, hE, hof] using h2, K2.any⟩
    | true =>
      go_wp2_with fail
      go_end0
      refine ⟨rfl, ?_, (K2.any).setCell (p := ⟨g, i * 6 + 2, none⟩) (.inl hFg) _⟩
      have := h2.setC i hi 2 (by omega) (.bool true) { S i with done := true } rfl rfl rfl rfl rfl rfl rfl hg4
      simpa [finS, hE, hof] using this
  · have hE : gt S conn (fun X => outF X.st) false = false := gt_out S _ _ _ hc
    go_enter Try.func18, Try.ntmps18
    go_wp2_with fail
    refine (at_out g conn _ hc).mono ?_
    rintro e w1 ⟨rfl, k1⟩
    go_wp2_with fail
    refine (out_none _).mono ?_
    rintro e w2 ⟨rfl, k2⟩
    go_wp2_with fail
    go_end0
    exact ⟨rfl, by simpa [finS, hE] using (h.keep k1).keep k2, (k1.seq k2).any⟩

end Go.Proofs.Ytpbkipolgdldfaa

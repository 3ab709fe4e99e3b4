/- The wire's Happen: each kind of event. -/
import Derived.Test.YtpbkipolgdldfaaWireH
namespace Go.Proofs.Ytpbkipolgdldfaa
open Go.RowKit
set_option linter.unusedSimpArgs false
set_option linter.unusedVariables false
attribute [local go_sem] max2_of min2_of max_of min_of

/-- An event. -/
def evt (kd conn n : Int) (vb : Value) : Value := .agg #[.int .i64 kd, .int .i64 conn, .int .i64 n, vb]
/-- What an event answers. -/
def hapE (S : Nat → Cn) (kd conn n : Int) (l : List UInt8) : Int :=
  if kd = 1 then gt S conn (fun X => X.chunkE l) 1
  else if kd = 2 then if 0 < n ∧ 0 < gt S conn Cn.waits 0 then 0 else 1
  else if kd = 3 then gt S conn (fun X => if X.st = 2 then 0 else 1) 1
  else if kd = 4 then gt S conn (fun X => if outF X.st then 0 else 1) 1
  else if kd = 5 then if conn = 1 ∧ (S 1).st = 1 then 0 else 1
  else if kd = 6 then if 0 < n ∧ n ≤ 1073741824 then 0 else 1
  else 1
/-- What it tells. -/
def hapB (S : Nat → Cn) (kd conn n : Int) (l : List UInt8) : List UInt8 := if kd = 1 ∧ hapE S kd conn n l = 0 then l else []
/-- What stands then. -/
def hapS (S : Nat → Cn) (kd conn n : Int) (l : List UInt8) : Nat → Cn :=
  if hapE S kd conn n l = 0 then
    let X := S conn.toNat
    if kd = 1 then upd S conn.toNat { X with got := X.got + l.length }
    else if kd = 2 then upd S conn.toNat { X with a := X.a + tk X.b X.a n }
    else if kd = 3 then upd S conn.toNat { X with st := 3 }
    else if kd = 4 then upd S conn.toNat { X with st := 4 }
    else if kd = 5 then upd S conn.toNat { X with st := if n = 1 then 2 else 5 }
    else S
  else S
def HaP (w : World) (g : Nat) (S : Nat → Cn) (F R : Nat → Prop) (kd conn n : Int) (l : List UInt8) (e : Ending) (w' : World) : Prop :=
  ∃ v1 r1, ∃ F', e = .returned (.tuple #[v1, .int .i64 (hapE S kd conn n l)]) ∧ Own w' 5 1 v1 r1 (hapB S kd conn n l).length (byv (hapB S kd conn n l)) ∧ (∀ k, r1 = some k → w.heap.size ≤ k) ∧
    Wir w' g (hapS S kd conn n l) F' R ∧ (∀ k, F' k → F k ∨ w.heap.size ≤ k) ∧ Kp F w w'

section
variable (S : Nat → Cn) (conn n : Int) (l : List UInt8)
theorem hapE2 : hapE S 2 conn n l = if 0 < n ∧ 0 < gt S conn Cn.waits 0 then 0 else 1 := rfl
theorem hapE3 : hapE S 3 conn n l = gt S conn (fun X => if X.st = 2 then 0 else 1) 1 := rfl
theorem hapE4 : hapE S 4 conn n l = gt S conn (fun X => if outF X.st then 0 else 1) 1 := rfl
theorem hapE5 : hapE S 5 conn n l = if conn = 1 ∧ (S 1).st = 1 then 0 else 1 := rfl
theorem hapE6 : hapE S 6 conn n l = if 0 < n ∧ n ≤ 1073741824 then 0 else 1 := rfl
end

theorem HaP.no {w w' : World} {g : Nat} {S : Nat → Cn} {F R : Nat → Prop} {kd conn n : Int} {l : List UInt8} (hE : hapE S kd conn n l = 1) (h : Wir w g S F R) (k : Kp Non w w') : HaP w g S F R kd conn n l (.returned (.tuple #[.slice none 0 0, .int .i64 1])) w' := by
  have hB : hapB S kd conn n l = [] := by simp [hapB, hE]
  have hS : hapS S kd conn n l = S := by simp [hapS, hE]
  exact ⟨_, none, F, by rw [hE], by rw [hB]; exact Own.nil _ _ _ _, (fun k hk => by cases hk), by rw [hS]; exact h.keep k, fun k hk => .inl hk, k.any⟩

variable {g : Nat} {S : Nat → Cn} {F R : Nat → Prop}

set_option maxHeartbeats 1000000 in
theorem hap1 (conn n : Int) (v : Value) (rv : Option Nat) (l : List UInt8) (w : World) (h : Wir w g S F R) (hv : Rd w v rv (byv l)) (hvF : ∀ k, rv = some k → ¬ F k) (hl : l.length ≤ 140737488300000) :
    Calls Try.prog 12 #[.pointer (some ⟨g, 0, none⟩), evt 1 conn n v] w (HaP w g S F R 1 conn n l) := by
  unfold evt
  have HV := hid hv
  obtain ⟨A, c, rfl, _⟩ := hv
  simp only [byv_length] at HV ⊢
  have hA := (Kp.refl Non w).alloc (.cells #[.int .i64 1, .int .i64 conn, .int .i64 n, .slice A l.length c] 28)
  have hB := Blk.new w #[.int .i64 1, .int .i64 conn, .int .i64 n, .slice A l.length c] 28
  go_enter Try.func12, Try.ntmps12
  go_wp2_with fail
  rcases conn_cases conn with ⟨i, rfl, hi⟩ | hc
  · refine (at_in g _ i _ rfl hi).mono ?_
    rintro e w1 ⟨rfl, k1⟩
    have hB1 := hB.keep k1
    have e0 := hB1.cell 0
    have e3 := hB1.cell 3
    simp at e0 e3
    have K1 := hA.seq k1
    go_wp2_with fail
    refine (chunk_some g S F R i _ rv l _ (h.keep K1) hi (HV.out.keep K1) hvF hl).mono ?_
    rintro e w2 ⟨v2, r2, rfl, o2, n2, h2, k2⟩
    go_wp2_with fail
    go_ret2
    have hE : hapE S 1 i n l = (S i).chunkE l := by simp only [hapE, if_true]; exact gt_in S _ _ _ i rfl hi
    refine ⟨v2, r2, F, by rw [hE]; rfl, ?_, fun k hk => by have := n2 k hk; have := K1.size; omega, ?_, fun k hk => .inl hk, (K1.any (S := F)).trans k2 (fun _ h => .inl h)⟩
    · simp only [hapB, hE, true_and]; exact o2
    · simp only [hapS, hE, if_true, Int.toNat_natCast]; exact h2
  · refine (at_out g conn _ hc).mono ?_
    rintro e w1 ⟨rfl, k1⟩
    have hB1 := hB.keep k1
    have e0 := hB1.cell 0
    have e3 := hB1.cell 3
    simp at e0 e3
    have K1 := hA.seq k1
    go_wp2_with fail
    refine (chunk_none _ _).mono ?_
    rintro e w2 ⟨rfl, k2⟩
    go_wp2_with fail
    go_ret2
    exact HaP.no (by simp only [hapE, if_true]; exact gt_out S _ _ _ hc) h (K1.seq k2)

set_option maxHeartbeats 1000000 in
theorem hap3 (conn n : Int) (v : Value) (rv : Option Nat) (l : List UInt8) (w : World) (h : Wir w g S F R) (hv : Rd w v rv (byv l)) :
    Calls Try.prog 12 #[.pointer (some ⟨g, 0, none⟩), evt 3 conn n v] w (HaP w g S F R 3 conn n l) := by
  unfold evt
  obtain ⟨A, c, rfl, _⟩ := hv
  simp only [byv_length]
  have hA := (Kp.refl Non w).alloc (.cells #[.int .i64 3, .int .i64 conn, .int .i64 n, .slice A l.length c] 28)
  have hB := Blk.new w #[.int .i64 3, .int .i64 conn, .int .i64 n, .slice A l.length c] 28
  have hFg : F g := by obtain ⟨_, _, _, _, _, h3, _⟩ := h; exact h3
  go_enter Try.func12, Try.ntmps12
  go_wp2_with fail
  rcases conn_cases conn with ⟨i, rfl, hi⟩ | hc
  · refine (at_in g _ i _ rfl hi).mono ?_
    rintro e w1 ⟨rfl, k1⟩
    have hB1 := hB.keep k1
    have e0 := hB1.cell 0
    simp at e0
    have K1 := hA.seq k1
    have h1 := h.keep K1
    obtain ⟨c0, fz, hg4⟩ : w1.cell? ⟨g, i * 6, none⟩ = some (.int .i64 (S i).st) ∧ (∀ o, w1.frozen? ⟨g, o, none⟩ = false) ∧ (S i).got ≤ 4000 := by
      obtain ⟨_, _, _, _, _, _, c0, c1, _, _, _, _, _, _, _, fz, hg4⟩ := h1.cells i hi
      exact ⟨c0, fz, hg4⟩
    by_cases h2 : (S i).st = 2
    · have c0' := c0
      rw [h2] at c0
      go_wp2_with fail
      refine (becomes_yes g (i * 6) 2 3 _ c0 (fz _)).mono ?_
      rintro e w2 ⟨rfl, rfl⟩
      go_wp2_with fail
      go_ret2
      have hE : hapE S 3 i n l = 0 := by rw [hapE3, gt_in S _ _ _ i rfl hi, if_pos h2]
      refine ⟨_, none, F, by rw [hE]; rfl, by simp only [hapB]; rw [if_neg (by omega)]; exact Own.nil _ _ _ _, (fun k hk => by cases hk), ?_, fun k hk => .inl hk, (K1.any).setCell (p := ⟨g, i * 6, none⟩) (.inl hFg) _⟩
      have := h1.setC i hi 0 (by omega) (.int .i64 3) { S i with st := 3 } rfl rfl rfl rfl rfl rfl rfl hg4
      simpa [hapS, hE] using this
    · have e2 : ((S i).st == 2) = false := by simpa using h2
      go_wp2_with fail
      refine (becomes_no _ 3 _).mono ?_
      rintro e w2 ⟨rfl, k2⟩
      go_wp2_with fail
      go_ret2
      exact HaP.no (by rw [hapE3, gt_in S _ _ _ i rfl hi, if_neg h2]) h (K1.seq k2)
  · refine (at_out g conn _ hc).mono ?_
    rintro e w1 ⟨rfl, k1⟩
    have hB1 := hB.keep k1
    have e0 := hB1.cell 0
    simp at e0
    have K1 := hA.seq k1
    go_wp2_with fail
    refine (becomes_no _ 3 _).mono ?_
    rintro e w2 ⟨rfl, k2⟩
    go_wp2_with fail
    go_ret2
    exact HaP.no (by rw [hapE3, gt_out S _ _ _ hc]) h (K1.seq k2)

set_option maxHeartbeats 1000000 in
theorem hap4 (conn n : Int) (v : Value) (rv : Option Nat) (l : List UInt8) (w : World) (h : Wir w g S F R) (hv : Rd w v rv (byv l)) :
    Calls Try.prog 12 #[.pointer (some ⟨g, 0, none⟩), evt 4 conn n v] w (HaP w g S F R 4 conn n l) := by
  unfold evt
  obtain ⟨A, c, rfl, _⟩ := hv
  simp only [byv_length]
  have hA := (Kp.refl Non w).alloc (.cells #[.int .i64 4, .int .i64 conn, .int .i64 n, .slice A l.length c] 28)
  have hB := Blk.new w #[.int .i64 4, .int .i64 conn, .int .i64 n, .slice A l.length c] 28
  have hFg : F g := by obtain ⟨_, _, _, _, _, h3, _⟩ := h; exact h3
  go_enter Try.func12, Try.ntmps12
  go_wp2_with fail
  rcases conn_cases conn with ⟨i, rfl, hi⟩ | hc
  · refine (at_in g _ i _ rfl hi).mono ?_
    rintro e w1 ⟨rfl, k1⟩
    have hB1 := hB.keep k1
    have e0 := hB1.cell 0
    have ec := hB1.cell 1
    have en := hB1.cell 2
    simp at e0 ec en
    have K1 := hA.seq k1
    have h1 := h.keep K1
    obtain ⟨c0, fz, hg4⟩ : w1.cell? ⟨g, i * 6, none⟩ = some (.int .i64 (S i).st) ∧ (∀ o, w1.frozen? ⟨g, o, none⟩ = false) ∧ (S i).got ≤ 4000 := by
      obtain ⟨_, _, _, _, _, _, c0, c1, _, _, _, _, _, _, _, fz, hg4⟩ := h1.cells i hi
      exact ⟨c0, fz, hg4⟩
    go_wp2_with fail
    refine (out_some g (i * 6) (S i).st _ c0).mono ?_
    rintro e w2 ⟨rfl, k2⟩
    have K2 := K1.seq k2
    have h2 := h.keep K2
    have c02 := k2.cell c0 (fun x => x)
    have fz2 : ∀ o, w2.frozen? ⟨g, o, none⟩ = false := by
      obtain ⟨_, _, _, _, _, _, _, _, _, _, _, _, _, _, _, fz, _⟩ := h2.cells i hi
      exact fz
    clear c0 fz
    cases hof : outF (S i).st with
    | true =>
      go_wp2_with fail
      refine (becomes_yes g (i * 6) _ 4 _ c02 (fz2 _)).mono ?_
      rintro e w3 ⟨rfl, rfl⟩
      go_wp2_with fail
      go_ret2
      have hE : hapE S 4 i n l = 0 := by rw [hapE4, gt_in S _ _ _ i rfl hi, if_pos hof]
      refine ⟨_, none, F, by rw [hE]; rfl, by simp only [hapB]; rw [if_neg (by omega)]; exact Own.nil _ _ _ _, (fun k hk => by cases hk), ?_, fun k hk => .inl hk, (K2.any).setCell (p := ⟨g, i * 6, none⟩) (.inl hFg) _⟩
      have := h2.setC i hi 0 (by omega) (.int .i64 4) { S i with st := 4 } rfl rfl rfl rfl rfl rfl rfl hg4
      simpa [hapS, hE] using this
    | false =>
      go_wp2_with fail
      refine (becomes_no _ 4 _).mono ?_
      rintro e w3 ⟨rfl, k3⟩
      go_wp2_with fail
      go_ret2
      exact HaP.no (by rw [hapE4, gt_in S _ _ _ i rfl hi, if_neg (by simp [hof])]) h (K2.seq k3)
  · refine (at_out g conn _ hc).mono ?_
    rintro e w1 ⟨rfl, k1⟩
    have hB1 := hB.keep k1
    have e0 := hB1.cell 0
    have ec := hB1.cell 1
    have en := hB1.cell 2
    simp at e0 ec en
    have K1 := hA.seq k1
    go_wp2_with fail
    refine (out_none _).mono ?_
    rintro e w2 ⟨rfl, k2⟩
    go_wp2_with fail
    refine (becomes_no _ 4 _).mono ?_
    rintro e w3 ⟨rfl, k3⟩
    go_wp2_with fail
    go_ret2
    exact HaP.no (by rw [hapE4, gt_out S _ _ _ hc]) h ((K1.seq k2).seq k3)

set_option maxHeartbeats 1000000 in
theorem hap6 (conn n : Int) (v : Value) (rv : Option Nat) (l : List UInt8) (w : World) (h : Wir w g S F R) (hv : Rd w v rv (byv l)) :
    Calls Try.prog 12 #[.pointer (some ⟨g, 0, none⟩), evt 6 conn n v] w (HaP w g S F R 6 conn n l) := by
  unfold evt
  obtain ⟨A, c, rfl, _⟩ := hv
  simp only [byv_length]
  have hA := (Kp.refl Non w).alloc (.cells #[.int .i64 6, .int .i64 conn, .int .i64 n, .slice A l.length c] 28)
  have hB := Blk.new w #[.int .i64 6, .int .i64 conn, .int .i64 n, .slice A l.length c] 28
  have hFg : F g := by obtain ⟨_, _, _, _, _, h3, _⟩ := h; exact h3
  go_enter Try.func12, Try.ntmps12
  go_wp2_with fail
  rcases conn_cases conn with ⟨i, rfl, hi⟩ | hc
  · refine (at_in g _ i _ rfl hi).mono ?_
    rintro e w1 ⟨rfl, k1⟩
    have hB1 := hB.keep k1
    have e0 := hB1.cell 0
    have ec := hB1.cell 1
    have en := hB1.cell 2
    simp at e0 ec en
    have K1 := hA.seq k1
    have h1 := h.keep K1
    obtain ⟨c0, fz, hg4⟩ : w1.cell? ⟨g, i * 6, none⟩ = some (.int .i64 (S i).st) ∧ (∀ o, w1.frozen? ⟨g, o, none⟩ = false) ∧ (S i).got ≤ 4000 := by
      obtain ⟨_, _, _, _, _, _, c0, c1, _, _, _, _, _, _, _, fz, hg4⟩ := h1.cells i hi
      exact ⟨c0, fz, hg4⟩
    by_cases hn : 0 < n ∧ n ≤ 1073741824
    · have t1 : decide (0 < n) = true := by simp; omega
      have t2 : decide (n ≤ 1073741824) = true := by simp; omega
      go_wp2_with fail
      go_ret2
      have hE : hapE S 6 i n l = 0 := by rw [hapE6, if_pos hn]
      exact ⟨_, none, F, by rw [hE]; rfl, by simp only [hapB]; rw [if_neg (by omega)]; exact Own.nil _ _ _ _, (fun k hk => by cases hk), by simpa [hapS, hE] using h1, fun k hk => .inl hk, K1.any⟩
    · by_cases hn1 : 0 < n
      all_goals
        have hn2 : 0 < n → ¬ n ≤ 1073741824 := fun h1 h2 => hn ⟨h1, h2⟩
        go_wp2_with fail
        go_ret2
        exact HaP.no (by rw [hapE6, if_neg hn]) h K1
  · refine (at_out g conn _ hc).mono ?_
    rintro e w1 ⟨rfl, k1⟩
    have hB1 := hB.keep k1
    have e0 := hB1.cell 0
    have ec := hB1.cell 1
    have en := hB1.cell 2
    simp at e0 ec en
    have K1 := hA.seq k1
    by_cases hn : 0 < n ∧ n ≤ 1073741824
    · have t1 : decide (0 < n) = true := by simp; omega
      have t2 : decide (n ≤ 1073741824) = true := by simp; omega
      go_wp2_with fail
      go_ret2
      have hE : hapE S 6 conn n l = 0 := by rw [hapE6, if_pos hn]
      exact ⟨_, none, F, by rw [hE]; rfl, by simp only [hapB]; rw [if_neg (by omega)]; exact Own.nil _ _ _ _, (fun k hk => by cases hk), by simpa [hapS, hE] using h.keep K1, fun k hk => .inl hk, K1.any⟩
    · by_cases hn1 : 0 < n
      all_goals
        have hn2 : 0 < n → ¬ n ≤ 1073741824 := fun h1 h2 => hn ⟨h1, h2⟩
        go_wp2_with fail
        go_ret2
        exact HaP.no (by rw [hapE6, if_neg hn]) h K1

end Go.Proofs.Ytpbkipolgdldfaa

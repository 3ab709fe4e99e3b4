/- What a wire tells of a connection. -/
import Derived.Test.YtpbkipolgdldfaaWireC
namespace Go.Proofs.Ytpbkipolgdldfaa
open Go.RowKit
set_option linter.unusedSimpArgs false
set_option linter.unusedVariables false
attribute [local go_sem] max2_of min2_of max_of min_of

/-- What holds of one of the two, or else d. -/
def gt {α : Type} (S : Nat → Cn) (conn : Int) (f : Cn → α) (d : α) : α := if conn = 0 then f (S 0) else if conn = 1 then f (S 1) else d
theorem gt_in {α : Type} (S : Nat → Cn) (conn : Int) (f : Cn → α) (d : α) (i : Nat) (hc : conn = i) (hi : i < 2) : gt S conn f d = f (S i) := by
  subst hc
  have : i = 0 ∨ i = 1 := by omega
  rcases this with rfl | rfl <;> rfl
theorem gt_out {α : Type} (S : Nat → Cn) (conn : Int) (f : Cn → α) (d : α) (hc : conn < 0 ∨ 2 ≤ conn) : gt S conn f d = d := by
  unfold gt
  rw [if_neg (by omega), if_neg (by omega)]
theorem conn_cases (conn : Int) : (∃ i : Nat, conn = i ∧ i < 2) ∨ (conn < 0 ∨ 2 ≤ conn) := by
  by_cases h : 0 ≤ conn ∧ conn < 2
  · exact .inl ⟨conn.toNat, by omega, by omega⟩
  · exact .inr (by omega)
/-- What went ahead is not too long. -/
def Bd (S : Nat → Cn) : Prop := ∀ i, i < 2 → (S i).old.length ≤ 35184372088832 ∧ (S i).wrote.length ≤ 35184372088832
def Cn.waits (X : Cn) : Int := if outF X.st then (X.b.length : Int) - X.a else 0

theorem Wir.cells {w : World} {g : Nat} {S : Nat → Cn} {F R : Nat → Prop} (h : Wir w g S F R) (i : Nat) (hi : i < 2) : ∃ q r vo vw ro rw,
    w.cell? ⟨g, i * 6, none⟩ = some (.int .i64 (S i).st) ∧ w.cell? ⟨g, i * 6 + 1, none⟩ = some (.int .i64 (S i).got) ∧ w.cell? ⟨g, i * 6 + 2, none⟩ = some (.bool (S i).done) ∧ w.cell? ⟨g, i * 6 + 3, none⟩ = some (.pointer (some ⟨q, 0, none⟩)) ∧
    w.cell? ⟨g, i * 6 + 4, none⟩ = some vo ∧ w.cell? ⟨g, i * 6 + 5, none⟩ = some vw ∧ Que w q r (S i).b (S i).a 4000 ∧ Rd w vo ro (byv (S i).old) ∧ Rd w vw rw (byv (S i).wrote) ∧ (∀ o, w.frozen? ⟨g, o, none⟩ = false) ∧ (S i).got ≤ 4000 := by
  obtain ⟨cs, q, r, h1, h2, h3, h4, _⟩ := h
  obtain ⟨vo, vw, ro, rw', c0, c1, c2, c3, c4, c5, hq, ho, hw, _, _, _, _, f5⟩ := h4 i hi
  exact ⟨q i, r i, vo, vw, ro, rw', (h1.cell _).trans c0, (h1.cell _).trans c1, (h1.cell _).trans c2, (h1.cell _).trans c3, (h1.cell _).trans c4, (h1.cell _).trans c5, hq, ho, hw, h1.frozen, f5⟩

theorem state_calls (g : Nat) (S : Nat → Cn) (F R : Nat → Prop) (conn : Int) (w : World) (h : Wir w g S F R) :
    Calls Try.prog 10 #[.pointer (some ⟨g, 0, none⟩), .int .i64 conn] w fun e w' => e = .returned (.int .i64 (gt S conn Cn.st 0)) ∧ Kp Non w w' := by
  rcases conn_cases conn with ⟨i, rfl, hi⟩ | hc
  · rw [gt_in S _ _ _ i rfl hi]
    go_enter Try.func10, Try.ntmps10
    go_wp2_with fail
    refine (at_in g _ i _ rfl hi).mono ?_
    rintro e w1 ⟨rfl, k1⟩
    obtain ⟨_, _, _, _, _, _, c0, _⟩ := (h.keep k1).cells i hi
    go_wp2
    go_ret
    exact ⟨rfl, k1⟩
  · rw [gt_out S conn _ _ hc]
    go_enter Try.func10, Try.ntmps10
    go_wp2_with fail
    refine (at_out g conn _ hc).mono ?_
    rintro e w1 ⟨rfl, k1⟩
    go_wp2
    go_ret
    exact ⟨rfl, k1⟩

theorem finished_calls (g : Nat) (S : Nat → Cn) (F R : Nat → Prop) (conn : Int) (w : World) (h : Wir w g S F R) :
    Calls Try.prog 17 #[.pointer (some ⟨g, 0, none⟩), .int .i64 conn] w fun e w' => e = .returned (.bool (gt S conn Cn.done false)) ∧ Kp Non w w' := by
  rcases conn_cases conn with ⟨i, rfl, hi⟩ | hc
  · rw [gt_in S _ _ _ i rfl hi]
    go_enter Try.func17, Try.ntmps17
    go_wp2_with fail
    refine (at_in g _ i _ rfl hi).mono ?_
    rintro e w1 ⟨rfl, k1⟩
    obtain ⟨_, _, _, _, _, _, _, _, c2, _⟩ := (h.keep k1).cells i hi
    go_wp2
    go_ret
    exact ⟨rfl, k1⟩
  · rw [gt_out S conn _ _ hc]
    go_enter Try.func17, Try.ntmps17
    go_wp2_with fail
    refine (at_out g conn _ hc).mono ?_
    rintro e w1 ⟨rfl, k1⟩
    go_wp2
    go_ret
    exact ⟨rfl, k1⟩

theorem waits_calls (g : Nat) (S : Nat → Cn) (F R : Nat → Prop) (conn : Int) (w : World) (h : Wir w g S F R) :
    Calls Try.prog 20 #[.pointer (some ⟨g, 0, none⟩), .int .i64 conn] w fun e w' => e = .returned (.int .i64 (gt S conn Cn.waits 0)) ∧ Kp Non w w' := by
  rcases conn_cases conn with ⟨i, rfl, hi⟩ | hc
  · rw [gt_in S _ _ _ i rfl hi]
    go_enter Try.func20, Try.ntmps20
    go_wp2_with fail
    refine (at_in g _ i _ rfl hi).mono ?_
    rintro e w1 ⟨rfl, k1⟩
    obtain ⟨q, r, _, _, _, _, c0, _⟩ := (h.keep k1).cells i hi
    go_wp2_with fail
    refine (out_some g (i * 6) (S i).st _ c0).mono ?_
    rintro e w2 ⟨rfl, k2⟩
    obtain ⟨q, r, _, _, _, _, c0, _, _, c3, _, _, hq, _⟩ := ((h.keep k1).keep k2).cells i hi
    cases hof : outF (S i).st with
    | false =>
      go_wp2_with fail
      go_ret
      exact ⟨by simp [Cn.waits, hof], k1.seq k2⟩
    | true =>
      go_wp2_with fail
      refine (len_calls q r (S i).b (S i).a 4000 _ hq).mono ?_
      rintro e w3 ⟨rfl, k3⟩
      go_wp2_with fail
      go_ret
      exact ⟨by simp [Cn.waits, hof], (k1.seq k2).seq k3⟩
  · rw [gt_out S conn _ _ hc]
    go_enter Try.func20, Try.ntmps20
    go_wp2_with fail
    refine (at_out g conn _ hc).mono ?_
    rintro e w1 ⟨rfl, k1⟩
    go_wp2_with fail
    refine (out_none _).mono ?_
    rintro e w2 ⟨rfl, k2⟩
    go_wp2
    go_ret
    exact ⟨rfl, k1.seq k2⟩

theorem sent_calls (g : Nat) (S : Nat → Cn) (F R : Nat → Prop) (conn : Int) (w : World) (h : Wir w g S F R) (hb : Bd S) :
    Calls Try.prog 15 #[.pointer (some ⟨g, 0, none⟩), .int .i64 conn] w fun e w' => ∃ v r1, e = .returned v ∧ Own w' 5 1 v r1 (gt S conn Cn.sent []).length (byv (gt S conn Cn.sent [])) ∧ (∀ k, r1 = some k → w.heap.size ≤ k) ∧ Kp Non w w' := by
  rcases conn_cases conn with ⟨i, rfl, hi⟩ | hc
  · rw [gt_in S _ _ _ i rfl hi]
    go_enter Try.func15, Try.ntmps15
    go_wp2_with fail
    refine (at_in g _ i _ rfl hi).mono ?_
    rintro e w1 ⟨rfl, k1⟩
    obtain ⟨q, r, vo, _, ro, _, _, _, _, c3, c4, _, hq, ho, _⟩ := (h.keep k1).cells i hi
    go_wp2_with fail
    refine (sent1_calls g (i * 6) q r (S i).b (S i).a vo ro (S i).old _ c3 c4 hq ho (hb i hi).1).mono ?_
    rintro e w2 ⟨v2, r2, rfl, o2, n2, k2⟩
    go_wp2
    go_ret
    exact ⟨v2, r2, rfl, o2, fun k hk => by have := n2 k hk; have := k1.size; omega, k1.seq k2⟩
  · rw [gt_out S conn _ _ hc]
    go_enter Try.func15, Try.ntmps15
    go_wp2_with fail
    refine (at_out g conn _ hc).mono ?_
    rintro e w1 ⟨rfl, k1⟩
    go_wp2
    go_ret
    exact ⟨_, none, rfl, Own.nil _ _ _ _, (fun k hk => by cases hk), k1⟩

theorem written_calls (g : Nat) (S : Nat → Cn) (F R : Nat → Prop) (conn : Int) (w : World) (h : Wir w g S F R) (hb : Bd S) :
    Calls Try.prog 19 #[.pointer (some ⟨g, 0, none⟩), .int .i64 conn] w fun e w' => ∃ v r1, e = .returned v ∧ Own w' 5 1 v r1 (gt S conn Cn.written []).length (byv (gt S conn Cn.written [])) ∧ (∀ k, r1 = some k → w.heap.size ≤ k) ∧ Kp Non w w' := by
  rcases conn_cases conn with ⟨i, rfl, hi⟩ | hc
  · rw [gt_in S _ _ _ i rfl hi]
    go_enter Try.func19, Try.ntmps19
    go_wp2_with fail
    refine (at_in g _ i _ rfl hi).mono ?_
    rintro e w1 ⟨rfl, k1⟩
    obtain ⟨q, r, _, vw, _, rw', _, _, _, c3, _, c5, hq, _, hw, _⟩ := (h.keep k1).cells i hi
    go_wp2_with fail
    refine (written1_calls g (i * 6) q r (S i).b (S i).a vw rw' (S i).wrote _ c3 c5 hq hw (hb i hi).2).mono ?_
    rintro e w2 ⟨v2, r2, rfl, o2, n2, k2⟩
    go_wp2
    go_ret
    exact ⟨v2, r2, rfl, o2, fun k hk => by have := n2 k hk; have := k1.size; omega, k1.seq k2⟩
  · rw [gt_out S conn _ _ hc]
    go_enter Try.func19, Try.ntmps19
    go_wp2_with fail
    refine (at_out g conn _ hc).mono ?_
    rintro e w1 ⟨rfl, k1⟩
    go_wp2
    go_ret
    exact ⟨_, none, rfl, Own.nil _ _ _ _, (fun k hk => by cases hk), k1⟩

end Go.Proofs.Ytpbkipolgdldfaa

/- Plain facts on what a wire's functions make of its two connections. -/
import Derived.Test.YtpbkipolgdldfaaWLaw
namespace Go.Proofs.Ytpbkipolgdldfaa
open Go.RowKit
set_option linter.unusedSimpArgs false
set_option linter.unusedVariables false

/-- What went ahead is at most N long. -/
def BdN (N : Nat) (S : Nat → Cn) : Prop := ∀ i, i < 2 → (S i).old.length ≤ N ∧ (S i).wrote.length ≤ N
theorem BdN.bd {N : Nat} {S : Nat → Cn} (h : BdN N S) (hN : N ≤ 35184372088832) : Bd S := fun i hi => ⟨Nat.le_trans (h i hi).1 hN, Nat.le_trans (h i hi).2 hN⟩
theorem BdN.mono {N M : Nat} {S : Nat → Cn} (h : BdN N S) (hN : N ≤ M) : BdN M S := fun i hi => ⟨Nat.le_trans (h i hi).1 hN, Nat.le_trans (h i hi).2 hN⟩
theorem BdN.upd {N : Nat} {S : Nat → Cn} (h : BdN N S) (i : Nat) (X : Cn) (hX : X.old = (S i).old ∧ X.wrote = (S i).wrote) : BdN N (upd S i X) := fun j hj => by
  unfold Go.Proofs.Ytpbkipolgdldfaa.upd
  split
  · rename_i hji; rw [hX.1, hX.2, ← hji]; exact h j hj
  · exact h j hj
theorem BdN.hap {N : Nat} {S : Nat → Cn} (h : BdN N S) (kd conn n : Int) (l : List UInt8) : BdN N (hapS S kd conn n l) := by
  unfold hapS
  repeat' split
  all_goals first | exact h | exact h.upd _ _ ⟨rfl, rfl⟩
theorem BdN.write {N : Nat} {S : Nat → Cn} (h : BdN N S) (conn : Int) (l : List UInt8) : BdN N (writeS S conn l) := by
  unfold writeS
  split
  · exact h.upd _ _ ⟨rfl, rfl⟩
  · exact h
theorem BdN.fin {N : Nat} {S : Nat → Cn} (h : BdN N S) (conn : Int) : BdN N (finS S conn) := by
  unfold finS
  split
  · exact h.upd _ _ ⟨rfl, rfl⟩
  · exact h
theorem BdN.ask {N : Nat} {S : Nat → Cn} (h : BdN N S) (hb : (S 1).b.length ≤ 4000) : BdN (N + 4000) (askS S) := by
  unfold askS
  split
  · exact h.mono (by omega)
  · intro j hj
    unfold Go.Proofs.Ytpbkipolgdldfaa.upd
    split
    · have := h 1 (by omega)
      simp only [Cn.sent, Cn.written, List.length_append, List.length_take]
      omega
    · have := h j hj
      omega
theorem Wr.blen {w0 w : World} {g : Nat} {S : Nat → Cn} (h : Wr w0 w g S) (i : Nat) (hi : i < 2) : (S i).b.length ≤ 4000 := by
  obtain ⟨F, R, h1, _⟩ := h
  obtain ⟨_, _, _, _, _, _, _, _, _, _, _, _, hq, _⟩ := h1.cells i hi
  have := hq.len_le
  omega
theorem S0_bd (N : Nat) : BdN N S0 := fun i hi => by simp [S0]

/-- An event that is refused changes nothing. -/
theorem hapS_no {S : Nat → Cn} {kd conn n : Int} {l : List UInt8} (h : hapE S kd conn n l ≠ 0) : hapS S kd conn n l = S := by
  unfold hapS
  rw [if_neg h]

/-- How a connection may stand behind an event. -/
theorem hap_st (S : Nat → Cn) (kd conn n : Int) (l : List UInt8) (i : Nat) (hi : i < 2) :
    (hapS S kd conn n l i).st = (S i).st ∨ ((S i).st = 2 ∧ (hapS S kd conn n l i).st = 3) ∨ (((S i).st = 2 ∨ (S i).st = 3) ∧ (hapS S kd conn n l i).st = 4) ∨ (i = 1 ∧ (S i).st = 1 ∧ ((hapS S kd conn n l i).st = 2 ∨ (hapS S kd conn n l i).st = 5)) := by
  by_cases hE : hapE S kd conn n l = 0
  · have hup : ∀ X : Cn, (upd S conn.toNat X i).st = if i = conn.toNat then X.st else (S i).st := fun X => by unfold upd; split <;> rfl
    by_cases k1 : kd = 1
    · left
      subst k1
      simp only [hapS, hE, if_true]
      rw [hup]
      split
      · rename_i h; rw [h]
      · rfl
    by_cases k2 : kd = 2
    · left
      subst k2
      simp only [hapS, hE, if_true]
      rw [if_neg (by omega), hup]
      split
      · rename_i h; rw [h]
      · rfl
    by_cases k3 : kd = 3
    · subst k3
      have hS : hapS S 3 conn n l = upd S conn.toNat { S conn.toNat with st := 3 } := by simp [hapS, hE]
      rw [hS, hup]
      rw [hapE3] at hE
      rcases conn_cases conn with ⟨j, rfl, hj⟩ | hc
      · rw [gt_in S _ _ _ j rfl hj] at hE
        rw [Int.toNat_natCast]
        split
        · rename_i h
          subst h
          right; left
          refine ⟨?_, rfl⟩
          by_cases h2 : (S i).st = 2
          · exact h2
          · rw [if_neg h2] at hE; omega
        · exact .inl rfl
      · rw [gt_out S _ _ _ hc] at hE; omega
    by_cases k4 : kd = 4
    · subst k4
      have hS : hapS S 4 conn n l = upd S conn.toNat { S conn.toNat with st := 4 } := by simp [hapS, hE]
      rw [hS, hup]
      rw [hapE4] at hE
      rcases conn_cases conn with ⟨j, rfl, hj⟩ | hc
      · rw [gt_in S _ _ _ j rfl hj] at hE
        rw [Int.toNat_natCast]
        split
        · rename_i h
          subst h
          right; right; left
          refine ⟨?_, rfl⟩
          by_cases h2 : outF (S i).st = true
          · simpa [outF] using h2
          · rw [if_neg h2] at hE; omega
        · exact .inl rfl
      · rw [gt_out S _ _ _ hc] at hE; omega
    by_cases k5 : kd = 5
    · subst k5
      have hS : hapS S 5 conn n l = upd S conn.toNat { S conn.toNat with st := if n = 1 then 2 else 5 } := by simp [hapS, hE]
      rw [hS, hup]
      rw [hapE5] at hE
      by_cases hc : conn = 1 ∧ (S 1).st = 1
      · obtain ⟨rfl, hst⟩ := hc
        split
        · rename_i h
          have h1 : i = 1 := h
          subst h1
          right; right; right
          refine ⟨rfl, hst, ?_⟩
          by_cases hn : n = 1
          · left; simp [hn]
          · right; simp [hn]
        · exact .inl rfl
      · rw [if_neg hc] at hE; omega
    · left
      simp only [hapS, hE, if_true]
      rw [if_neg k1, if_neg k2, if_neg k3, if_neg k4, if_neg k5]
  · left
    rw [hapS_no hE]

end Go.Proofs.Ytpbkipolgdldfaa

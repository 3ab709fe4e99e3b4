/- The wire's Happen. -/
import Derived.Test.YtpbkipolgdldfaaWireW
namespace Go.Proofs.Ytpbkipolgdldfaa
open Go.RowKit
set_option linter.unusedSimpArgs false
set_option linter.unusedVariables false
attribute [local go_sem] max2_of min2_of max_of min_of

theorem becomes_no (p : Option Addr) (st : Int) (w : World) : Calls Try.prog 38 #[.pointer p, .bool false, .int .i64 st] w fun e w' => e = .returned (.int .i64 1) ∧ Kp Non w w' := by
  go_enter Try.func38, Try.ntmps38
  go_wp2
  go_ret
  exact ⟨rfl, Kp.refl _ _⟩
theorem becomes_yes (g o : Nat) (st0 st : Int) (w : World) (c0 : w.cell? ⟨g, o, none⟩ = some (.int .i64 st0)) (f0 : w.frozen? ⟨g, o, none⟩ = false) :
    Calls Try.prog 38 #[.pointer (some ⟨g, o, none⟩), .bool true, .int .i64 st] w fun e w' => e = .returned (.int .i64 0) ∧ w' = w.setCell ⟨g, o, none⟩ (.int .i64 st) := by
  go_enter Try.func38, Try.ntmps38
  go_wp2
  go_ret
  exact ⟨rfl, rfl⟩

theorem chunk_none (v : Value) (w : World) : Calls Try.prog 36 #[.pointer none, v] w fun e w' => e = .returned (.tuple #[.slice none 0 0, .int .i64 1]) ∧ Kp Non w w' := by
  go_enter Try.func36, Try.ntmps36
  go_wp2
  go_ret2
  exact ⟨rfl, Kp.refl _ _⟩

def Cn.chunkE (X : Cn) (l : List UInt8) : Int := if X.st = 2 then if X.got + l.length ≤ 4000 then 0 else 72 else 1
/-- What a piece that comes brings about. -/
def ChP (w : World) (g : Nat) (S : Nat → Cn) (F R : Nat → Prop) (i : Nat) (l : List UInt8) (e : Ending) (w' : World) : Prop :=
  ∃ v1 r1, e = .returned (.tuple #[v1, .int .i64 ((S i).chunkE l)]) ∧
      Own w' 5 1 v1 r1 (if (S i).chunkE l = 0 then l else []).length (byv (if (S i).chunkE l = 0 then l else [])) ∧ (∀ k, r1 = some k → w.heap.size ≤ k) ∧
      Wir w' g (if (S i).chunkE l = 0 then upd S i { S i with got := (S i).got + l.length } else S) F R ∧ Kp F w w'
set_option maxHeartbeats 1000000 in
theorem chunk_some (g : Nat) (S : Nat → Cn) (F R : Nat → Prop) (i : Nat) (v : Value) (rv : Option Nat) (l : List UInt8) (w : World) (h : Wir w g S F R) (hi : i < 2) (hv : Rd w v rv (byv l)) (hvF : ∀ k, rv = some k → ¬ F k) (hl : l.length ≤ 140737488300000) :
    Calls Try.prog 36 #[.pointer (some ⟨g, i * 6, none⟩), v] w (ChP w g S F R i l) := by
  have hFg : F g := by obtain ⟨_, _, _, _, _, h3, _⟩ := h; exact h3
  have hgl : g < w.heap.size := by obtain ⟨_, _, _, b, _⟩ := h; exact b.lt
  obtain ⟨c0, c1, fz, hg4⟩ : w.cell? ⟨g, i * 6, none⟩ = some (.int .i64 (S i).st) ∧ w.cell? ⟨g, i * 6 + 1, none⟩ = some (.int .i64 (S i).got) ∧ (∀ o, w.frozen? ⟨g, o, none⟩ = false) ∧ (S i).got ≤ 4000 := by
    obtain ⟨_, _, _, _, _, _, c0, c1, _, _, _, _, _, _, _, fz, hg4⟩ := h.cells i hi
    exact ⟨c0, c1, fz, hg4⟩
  have HV := hid hv
  obtain ⟨A, c, rfl, _⟩ := hv
  simp only [byv_length] at HV ⊢
  have hwr1 : IntKind.i64.wrap (4000 - ((S i).got : Int)) = 4000 - ((S i).got : Int) := IntWalk.i64_in _ (by omega)
  by_cases h2 : (S i).st = 2
  · have e2 : ((S i).st != 2) = false := by simp [h2]
    rw [h2] at c0
    by_cases hlen : (S i).got + l.length ≤ 4000
    · have hE : (S i).chunkE l = 0 := by simp [Cn.chunkE, h2, hlen]
      have hW := h.setC i hi 1 (by omega) (.int .i64 ((S i).got + l.length : Nat)) { S i with got := (S i).got + l.length } rfl rfl rfl rfl rfl rfl rfl hlen
      have hK := (Kp.refl F w).setCell (p := ⟨g, i * 6 + 1, none⟩) (.inl hFg) (.int .i64 ((S i).got + l.length : Nat))
      have hR := HV.out.kp hK hvF
      have hlt : decide ((4000 : Int) - (S i).got < l.length) = false := by simp; omega
      have hwr2 : IntKind.i64.wrap (((S i).got : Int) + l.length) = (((S i).got + l.length : Nat) : Int) := by rw [IntWalk.i64_in _ (by omega)]; omega
      clear hE
      go_enter Try.func36, Try.ntmps36
      go_wp2_with fail
      generalize hw1 : World.setCell _ _ _ = w1
      have hW1 : Wir w1 g (upd S i { S i with got := (S i).got + l.length }) F R := by rw [← hw1]; exact hW
      have hK1 : Kp F w w1 := by rw [← hw1]; exact hK
      have hR1 : Rd w1 (.slice A l.length c) rv (byv l) := by rw [← hw1]; exact hR
      clear hW hK hR hw1
      refine (clone_calls _ rv l _ hR1 (by omega)).mono ?_
      rintro e w2 ⟨v2, r2, rfl, o2, n2, k2⟩
      go_wp2_with fail
      go_ret2
      have hE : (S i).chunkE l = 0 := by simp [Cn.chunkE, h2, hlen]
      refine ⟨v2, r2, by rw [hE]; rfl, by rw [if_pos hE]; exact o2, fun k hk => by have := n2 k hk; have := hK1.size; omega, by rw [if_pos hE]; exact hW1.keep k2, hK1.trans k2 (fun _ h => h.elim)⟩
    · have hlt : decide ((4000 : Int) - (S i).got < l.length) = true := by simp; omega
      go_enter Try.func36, Try.ntmps36
      go_wp2
      go_ret2
      have hE : (S i).chunkE l = 72 := by simp [Cn.chunkE, h2, hlen]
      have hE0 : ¬ (S i).chunkE l = 0 := by omega
      exact ⟨_, none, by rw [hE]; rfl, by rw [if_neg hE0]; exact Own.nil _ _ _ _, (fun k hk => by cases hk), by rw [if_neg hE0]; exact h, Kp.refl _ _⟩
  · have e2 : ((S i).st != 2) = true := by simpa using h2
    go_enter Try.func36, Try.ntmps36
    go_wp2
    go_ret2
    have hE : (S i).chunkE l = 1 := by simp [Cn.chunkE, h2]
    have hE0 : ¬ (S i).chunkE l = 0 := by omega
    exact ⟨_, none, by rw [hE]; rfl, by rw [if_neg hE0]; exact Own.nil _ _ _ _, (fun k hk => by cases hk), by rw [if_neg hE0]; exact h, Kp.refl _ _⟩

end Go.Proofs.Ytpbkipolgdldfaa

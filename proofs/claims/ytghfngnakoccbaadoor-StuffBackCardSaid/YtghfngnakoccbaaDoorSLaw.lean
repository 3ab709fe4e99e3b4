/- The document's example; a body of the law's own, the given one and the document's. -/
import Derived.Test.YtghfngnakoccbaaDoorStuff2
import Derived.Test.YtghfngnakoccbaaDoorSPure
import Derived.Deep.DeepCutAuto
import Derived.Deep.CutBlock
namespace Go.Proofs.YtghfngnakoccbaaDoor
open Go.RowKit
set_option linter.unusedSimpArgs false
set_option linter.unusedVariables false
attribute [local go_sem] max2_of min2_of max_of min_of
attribute [local go_sem] strOf_size strOf_list

theorem shown_calls (m : Int) (w : World) (hm : w.cell? ⟨1, 0, none⟩ = some (.int .i64 m)) :
    Calls Tryd.prog 8 #[] w fun e w' => e = .returned (.bool true) ∧ Kp Non w w' := by
  have kc := fun (w : World) (C : Array Value) (n c : Nat) => Lib.run_convert_bytes_const (P := Tryd.prog) w 29 5 C n c Tryd.underlying29 Tryd.underlying5
  have hA := (Kp.refl Non w).alloc (.cells #[.int .u8 46, .int .u8 97] 5 (2, 3))
  go_enter Tryd.func8, Tryd.ntmps8
  go_wp2_with fail
  refine (put_calls _ _ [46, 97] m _ (Rd.const w 5 (2, 3) [46, 97] _ 2 rfl rfl (by decide)) (by decide) (hA.cell hm (fun x => x))).mono ?_
  rintro e w1 ⟨v1, r1, rfl, o1, n1, k1⟩
  rw [show putF [46, 97] = [46, 46, 97, 13, 10, 46, 13, 10] by decide] at o1
  have hs := o1.rd.str 29 5 9 Tryd.underlying29 Tryd.underlying5 Tryd.underlying9
  rw [show strOf [46, 46, 97, 13, 10, 46, 13, 10] = { data := #[46, 46, 97, 13, 10, 46, 13, 10] } from rfl] at hs
  go_wp2
  go_ret
  exact ⟨rfl, hA.seq k1⟩

/-- What a line brings about. -/
def lnEnd (s : List UInt8) : Bool := decide (s = [46])
def lnFits (b s : List UInt8) (m : Int) : Bool := decide (((lineF s).length : Int) ≤ m - b.length)
def lnE (b s : List UInt8) (m : Int) : Int := if lnEnd s then 0 else if lnFits b s m then 0 else 72
def lnB (b s : List UInt8) (m : Int) : List UInt8 := if lnEnd s then b else if lnFits b s m then b ++ lineF s else b
def lnN (b s : List UInt8) (m : Int) (n : Nat) : Nat := if lnEnd s then n else if lnFits b s m then n + 1 else n

/-- A body of the law's own. -/
def Bo (T : Nat) (w0 w : World) (g : Nat) (b : List UInt8) (n : Nat) (m : Int) : Prop := ∃ r, Bod w g r b n m T ∧ w0.heap.size ≤ g ∧ (∀ i, r = some i → w0.heap.size ≤ i) ∧ Kp Non w0 w
section
variable {T : Nat} {w0 w w' : World} {g n : Nat} {b : List UInt8} {m : Int}
theorem Bo.keep (h : Bo T w0 w g b n m) (k : Kp Non w w') : Bo T w0 w' g b n m := by
  obtain ⟨r, h1, h2, h3, h4⟩ := h
  exact ⟨r, h1.keep k, h2, h3, h4.seq k⟩
theorem Bo.kp (h : Bo T w0 w g b n m) : Kp Non w0 w := by
  obtain ⟨r, h1, h2, h3, h4⟩ := h
  exact h4
end
theorem bo_new {w0 : World} (most : Int) (w : World) (hm : most ≤ 9223372036854775807) (K : Kp Non w0 w) :
    Calls Tryd.prog 9 #[.int .i64 most] w fun e w' => ∃ g, e = .returned (.pointer (some ⟨g, 0, none⟩)) ∧ Bo 46 w0 w' g [] 0 (max most 0) := by
  refine (bnew_calls most w hm).mono ?_
  rintro e w1 ⟨rfl, h, k⟩
  exact ⟨_, rfl, none, h, K.size, (fun i hi => by cases hi), K.seq k⟩
theorem bo_line {w0 : World} {g n : Nat} {b : List UInt8} {m : Int} (s : List UInt8) (w : World) (h : Bo 46 w0 w g b n m) (hs : s.length ≤ 35184372088832) (hb : b.length ≤ 35184372088832) (hn : n ≤ 35184372088832) :
    Calls Tryd.prog 10 #[.pointer (some ⟨g, 0, none⟩), .string (strOf s)] w fun e w' => e = .returned (.tuple #[.bool (lnEnd s), .int .i64 (lnE b s m)]) ∧ Bo 46 w0 w' g (lnB b s m) (lnN b s m n) m := by
  obtain ⟨r, h1, h2, h3, h4⟩ := h
  unfold lnE lnB lnN
  by_cases he : s = [46]
  · rw [show lnEnd s = true by simp [lnEnd, he]]
    refine (bline_end g s w he).mono ?_
    rintro e w1 ⟨rfl, k⟩
    exact ⟨rfl, r, h1.keep k, h2, h3, h4.seq k⟩
  · rw [show lnEnd s = false by simp [lnEnd, he]]
    by_cases hf : ((lineF s).length : Int) ≤ m - b.length
    · rw [show lnFits b s m = true by simp [lnFits, hf]]
      refine (bline_ok g r b n m s w h1 he (by omega) (by omega) (by omega) hf).mono ?_
      rintro e w1 ⟨r1, rfl, h5, n5, k5⟩
      exact ⟨rfl, r1, h5, h2, fun i hi => (n5 i hi).elim (h3 i) (fun h => Nat.le_trans h4.size h), h4.trans k5 (fun i hi => .inr (by
        rcases hi with rfl | hi
        · exact h2
        · exact h3 i hi))⟩
    · rw [show lnFits b s m = false by simp [lnFits, hf]]
      refine (bline_full g r b n m s w h1 he (by omega) (by omega) hf).mono ?_
      rintro e w1 ⟨rfl, k⟩
      exact ⟨rfl, r, h1.keep k, h2, h3, h4.seq k⟩
theorem bo_bytes {w0 : World} {g n : Nat} {b : List UInt8} {m : Int} (w : World) (h : Bo 46 w0 w g b n m) (hb : b.length ≤ 35184372088832) :
    Calls Tryd.prog 11 #[.pointer (some ⟨g, 0, none⟩)] w fun e w' => ∃ v1 r1, e = .returned v1 ∧ Own w' 5 1 v1 r1 b.length (byv b) ∧ (∀ k, r1 = some k → w.heap.size ≤ k) ∧ Kp Non w w' := by
  obtain ⟨r, h1, h2, h3, h4⟩ := h
  exact bbytes_calls g r b n m w h1 (by omega)
theorem bo_lines {w0 : World} {g n : Nat} {b : List UInt8} {m : Int} (w : World) (h : Bo 46 w0 w g b n m) :
    Calls Tryd.prog 12 #[.pointer (some ⟨g, 0, none⟩)] w fun e w' => e = .returned (.int .i64 n) ∧ Kp Non w w' := by
  obtain ⟨r, h1, h2, h3, h4⟩ := h
  exact blines_calls g r b n m w h1

theorem lnB_le (b s : List UInt8) (m : Int) : (lnB b s m).length ≤ b.length + s.length + 2 := by
  have := lineF_length s
  have := trimF_le s
  unfold lnB
  split
  · omega
  · split
    · rw [List.length_append]; omega
    · omega
theorem lnN_le (b s : List UInt8) (m : Int) (n : Nat) : lnN b s m n ≤ n + 1 := by
  unfold lnN
  split
  · omega
  · split <;> omega

end Go.Proofs.YtghfngnakoccbaaDoor

/- slices.Grow and slices.Concat at []byte, of two slices. -/
import Derived.Test.YtpbkipolgdldfaaQueue
import Derived.Lib.AppendZerosOnto
import Derived.Lib.AppendZeros
import Derived.Lib.SliceRun
namespace Go.Proofs.Ytpbkipolgdldfaa
open Go.RowKit
set_option linter.unusedSimpArgs false
set_option linter.unusedVariables false
attribute [local go_sem] max2_of min2_of max_of min_of

theorem grow_calls (n : Nat) (w : World) (hn : n ≤ 140737488355328) :
    Calls Try.prog 53 #[.slice none 0 0, .int .i64 n] w fun e w' => ∃ v r, e = .returned v ∧ Own w' 5 1 v r 0 [] ∧ (∀ k, r = some k → w.heap.size ≤ k) ∧ Kp Non w w' := by
  by_cases h0 : n = 0
  · subst h0
    go_enter Try.func53, Try.ntmps53
    go_wp2
    go_ret
    exact ⟨_, none, rfl, Own.nil _ _ _ _, (fun k hk => by cases hk), Kp.refl _ _⟩
  · obtain ⟨i, hi, hzz⟩ := Option.map_eq_some_iff.1 info8
    simp only [Prod.mk.injEq] at hzz
    obtain ⟨hz0, hs1, hb1⟩ := hzz
    have hr := fun ty => Lib.run_append_grow_zeros w 26 3 ty 5 i (.int .u8 0) .i64 .i64 Try.underlying26 Try.underlying3 hi hz0 none 0 0 []
      (by rw [hs1]; exact run_firstCells_none w.drew 1 0 0 0) n (by omega) (by omega) (by omega) (by omega) (by rw [hb1]; omega) (by rw [hb1]; exact growslice_fits (by omega) (by omega))
    simp only [Nat.zero_add] at hr
    have hG := grownCap_ge w n 0 5
    have hG2 := grownCap_le_maxLen w n 0 5 (by simp only [maxLen]; omega)
    generalize grownCap w n 0 5 = G at hr hG hG2
    have hG3 := hG2
    unfold maxLen at hG3
    have hpos : (0 : Int) < n := by omega
    have hsz : ([].toArray ++ Builtin.zeroCells (Value.int .u8 0).cells n ++ Builtin.zeroCells (Value.int .u8 0).cells (G - n)).size = G * 1 := by
      simp [size_zeroCells, Value.cells]; omega
    clear hi hz0 hs1 hb1
    have hr1 := fun ty => hr ty
    generalize ([].toArray ++ Builtin.zeroCells (Value.int .u8 0).cells n ++ Builtin.zeroCells (Value.int .u8 0).cells (G - n)) = C at hr hr1 hsz
    go_enter Try.func53, Try.ntmps53
    go_wp2_with (at_builtin; refine Lib.wpList_append_run _ rfl _ _ _ _ rfl _ _ rfl rfl _ _ (hr _) ?_)
    go_ret
    exact ⟨_, some w.heap.size, rfl, ⟨by simp, .inr ⟨w.heap.size, G, C, rfl, rfl, Blk.new w.drew C _, by omega, hG2, hsz, by simp⟩⟩, (fun k hk => by cases hk; exact Nat.le_refl _), ((Kp.refl Non w).drew).alloc _⟩

/-! ### Concat, of two -/
def CcInv1 (w : World) (n m : Nat) (s i : Value) (wr : World) : Prop :=
  ∃ k : Nat, i = .int .i64 k ∧ k ≤ 2 ∧ s = .int .i64 ((if k = 0 then 0 else if k = 1 then n else n + m : Nat) : Int) ∧ wr = w
def CcInv2 (w0 : World) (l1 l2 : List UInt8) (v i : Value) (wr : World) : Prop :=
  ∃ (k : Nat) (r : Option Nat), i = .int .i64 k ∧ k ≤ 2 ∧ (let l := (if k = 0 then [] else if k = 1 then l1 else l1 ++ l2); Own wr 5 1 v r l.length (byv l)) ∧ (∀ q, r = some q → w0.heap.size ≤ q) ∧ Kp Non w0 wr

theorem concat_calls (g : Nat) (v1 v2 : Value) (r1 r2 : Option Nat) (l1 l2 : List UInt8) (w : World) (hb : Blk w g #[v1, v2] 26) (h1 : Rd w v1 r1 (byv l1)) (h2 : Rd w v2 r2 (byv l2)) (hl : l1.length + l2.length ≤ 70368744177664) :
    Calls Try.prog 49 #[.slice (some ⟨g, 0, none⟩) 2 2] w fun e w' => ∃ v r, e = .returned v ∧ Own w' 5 1 v r (l1 ++ l2).length (byv (l1 ++ l2)) ∧ (∀ k, r = some k → w.heap.size ≤ k) ∧ Kp Non w w' := by
  have h1' := h1
  have h2' := h2
  obtain ⟨A1, c1, rfl, _, _, _⟩ := h1
  obtain ⟨A2, c2, rfl, _, _, _⟩ := h2
  simp only [byv_length] at *
  have g0 := hb.cell 0
  have g1 := hb.cell 1
  simp at g0 g1
  have H1 := hid h1'
  have H2 := hid h2'
  clear h1' h2'
  go_enter Try.func49, Try.ntmps49
  go_wp2_with fail
  go_loopw [3, 11] (fun s i wr => CcInv1 w l1.length l2.length s i wr) (fun _ i _ => 3 - (intOf i).toNat)
  case atStart => exact ⟨0, rfl, by omega, rfl, rfl⟩
  case round =>
    obtain ⟨k, rfl, hk, rfl, rfl⟩ := hrel
    have hk3 : k = 0 ∨ k = 1 ∨ k = 2 := by omega
    rcases hk3 with rfl | rfl | rfl
    · have hwr : IntKind.i64.wrap (l1.length : Int) = (l1.length : Int) := IntWalk.i64_in _ (by omega)
      rw [show (((if (0 : Nat) = 0 then 0 else if (0 : Nat) = 1 then l1.length else l1.length + l2.length : Nat)) : Int) = 0 from rfl]
      go_wp2_with fail
      go_roundw
      case rel => exact ⟨1, by go_num, by omega, by go_num, rfl⟩
      case measure => simp [intOf]
    · have hwr : IntKind.i64.wrap ((l1.length : Int) + l2.length) = (l1.length : Int) + l2.length := IntWalk.i64_in _ (by omega)
      simp only [if_true, Nat.one_ne_zero, if_false]
      go_wp2_with fail
      go_roundw
      case rel => exact ⟨2, by go_num, by omega, by go_num, rfl⟩
      case measure => simp [intOf]
    · simp only [show (2 : Nat) ≠ 0 by omega, show (2 : Nat) ≠ 1 by omega, if_false]
      go_wp2_with fail
      refine (grow_calls (l1.length + l2.length) _ (by omega)).mono ?_
      rintro e w4 ⟨v4, r4, rfl, o4, n4, k4⟩
      go_wp2_with fail
      go_loopw [6, 27] (fun v i wq => CcInv2 wr l1 l2 v i wq) (fun _ i _ => 3 - (intOf i).toNat)
      case atStart => exact ⟨0, r4, rfl, by omega, o4, n4, k4⟩
      case round =>
        clear o4 n4 k4
        rename_i wq _
        obtain ⟨k, r, rfl, hk, o, hrn, K⟩ := hrel
        have G0 := K.cell g0 (fun x => x)
        have G1 := K.cell g1 (fun x => x)
        have hk3 : k = 0 ∨ k = 1 ∨ k = 2 := by omega
        rcases hk3 with rfl | rfl | rfl
        · simp only [if_true] at o
          have HO := hid o
          obtain ⟨A, c, rfl, hc, hcm⟩ := o.form
          clear o
          go_wp2_with (at_builtin; go_must (refine wpList_append_any rfl _ _ _ _ rfl 5 (.int .u8 0) 1 1 Try.underlying26 info8 rfl _ r 0 (byv []) rfl HO.out _ l1.length (byv l1) rfl ?hs (by omega) (by omega) ?_))
          case hs => have := ((H1.out).keep K).src Try.underlying26 (byv_one _); rw [byv_length] at this; exact this
          intro v5 r5 w5 o5 k5 n5
          go_wp2_with fail
          go_roundw
          case rel => exact ⟨1, r5, by go_num, by omega, by simpa [byv_append, byv_nil] using o5, fun q hq => (n5 q hq).elim (hrn q) (fun h => by have := K.size; omega), K.trans k5 (fun q hq => .inr (hrn q hq))⟩
          case measure => simp [intOf]
        · simp only [if_true, Nat.one_ne_zero, if_false] at o
          have HO := hid o
          obtain ⟨A, c, rfl, hc, hcm⟩ := o.form
          clear o
          go_wp2_with (at_builtin; go_must (refine wpList_append_any rfl _ _ _ _ rfl 5 (.int .u8 0) 1 1 Try.underlying26 info8 rfl _ r l1.length (byv l1) rfl HO.out _ l2.length (byv l2) rfl ?hs (by omega) (by omega) ?_))
          case hs => have := ((H2.out).keep K).src Try.underlying26 (byv_one _); rw [byv_length] at this; exact this
          intro v5 r5 w5 o5 k5 n5
          go_wp2_with fail
          go_roundw
          case rel => exact ⟨2, r5, by go_num, by omega, by simpa [byv_append, byv_nil] using o5, fun q hq => (n5 q hq).elim (hrn q) (fun h => by have := K.size; omega), K.trans k5 (fun q hq => .inr (hrn q hq))⟩
          case measure => simp [intOf]
        · simp only [show (2 : Nat) ≠ 0 by omega, show (2 : Nat) ≠ 1 by omega, if_false] at o
          have HO := hid o
          obtain ⟨A, c, rfl, hc, hcm⟩ := o.form
          clear o
          go_wp2_with fail
          go_ret
          exact ⟨_, r, rfl, HO.out, hrn, K⟩

end Go.Proofs.Ytpbkipolgdldfaa

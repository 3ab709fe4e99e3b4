/- The wire's Clone. -/
import Derived.Test.YtpbkipolgdldfaaRWireE2
namespace Go.Proofs.Ytpbkipolgdldfaa
open Go.RowKit
set_option linter.unusedSimpArgs false
set_option linter.unusedVariables false
attribute [local go_sem] max2_of min2_of max_of min_of

/-- The twelve cells. -/
def WCells (X Y : Cn) (p vo vw q uo uw : Value) : Array Value := #[.int .i64 X.st, .int .i64 X.got, .bool X.done, p, vo, vw, .int .i64 Y.st, .int .i64 Y.got, .bool Y.done, q, uo, uw]
def PQ (w wr : World) (v : Value) (b : List UInt8) (a : Nat) (q : Nat) (r : Option Nat) : Prop :=
  v = .pointer (some ⟨q, 0, none⟩) ∧ Que wr q r b a 4000 ∧ w.heap.size < q ∧ (∀ k, r = some k → w.heap.size < k)
theorem PQ.kp {w wr wr' : World} {v : Value} {b : List UInt8} {a q : Nat} {r : Option Nat} (h : PQ w wr v b a q r) (k : Kp (One w.heap.size) wr wr') : PQ w wr' v b a q r := by
  obtain ⟨h1, h2, h3, h4⟩ := h
  exact ⟨h1, h2.kp k (fun h => by have : q = w.heap.size := h; omega) (fun i hi h => by have := h4 i hi; have : i = w.heap.size := h; omega), h3, h4⟩
theorem PQ.keep {w wr wr' : World} {v : Value} {b : List UInt8} {a q : Nat} {r : Option Nat} (h : PQ w wr v b a q r) (k : Kp Non wr wr') : PQ w wr' v b a q r := h.kp k.any
def CloneInv (w : World) (S : Nat → Cn) (p q vo vw uo uw : Value) (i : Value) (wr : World) : Prop :=
  ∃ (k : Nat) (a b : Value), i = .int .i64 k ∧ k ≤ 2 ∧ Blk wr w.heap.size (WCells (S 0) (S 1) a vo vw b uo uw) 52 ∧
    (k = 0 → a = p ∧ b = q) ∧ (k = 1 → (∃ x r, PQ w wr a (S 0).b (S 0).a x r) ∧ b = q) ∧
    (k = 2 → ∃ x y r s, PQ w wr a (S 0).b (S 0).a x r ∧ PQ w wr b (S 1).b (S 1).a y s ∧ x ≠ y ∧ ∀ k, r = some k → s ≠ some k) ∧ Kp Non w wr

set_option maxHeartbeats 2000000 in
theorem wclone_calls (g : Nat) (S : Nat → Cn) (F R : Nat → Prop) (w : World) (h : Wir w g S F R) :
    Calls Try.prog 25 #[.pointer (some ⟨g, 0, none⟩)] w fun e w' => ∃ n F', e = .returned (.pointer (some ⟨n, 0, none⟩)) ∧ Wir w' n S F' R ∧ (∀ k, F' k → w.heap.size ≤ k) ∧ Kp Non w w' := by
  have HH : Hid (Wir w g S F R) := hid h
  obtain ⟨cs, qq, rr, b1, b2, b3, b4, b5, b6, b7⟩ := h
  obtain ⟨vo, vw, ro, rw', d0, d1, d2, d3, d4, d5, hq, ho, hw, f1, f2, f3, f4, f5⟩ := b4 0 (by omega)
  obtain ⟨uo, uw, so, sw, e0, e1, e2, e3, e4, e5, hq1, ho1, hw1, g1, g2, g3, g4, g5⟩ := b4 1 (by omega)
  simp only [Nat.zero_mul, Nat.one_mul, Nat.zero_add] at d0 d1 d2 d3 d4 d5 e0 e1 e2 e3 e4 e5
  obtain ⟨Ao, co, rfl, _⟩ := hid ho |>.out
  obtain ⟨Aw, cw, rfl, _⟩ := hid hw |>.out
  obtain ⟨Bo, dd, rfl, _⟩ := hid ho1 |>.out
  obtain ⟨Bw, dw, rfl, _⟩ := hid hw1 |>.out
  have y0 := (b1.cell 0).trans d0
  have y1 := (b1.cell 1).trans d1
  have y2 := (b1.cell 2).trans d2
  have y3 := (b1.cell 3).trans d3
  have y4 := (b1.cell 4).trans d4
  have y5 := (b1.cell 5).trans d5
  have z0 := (b1.cell 6).trans e0
  have z1 := (b1.cell 7).trans e1
  have z2 := (b1.cell 8).trans e2
  have z3 := (b1.cell 9).trans e3
  have z4 := (b1.cell 10).trans e4
  have z5 := (b1.cell 11).trans e5
  have k1 := (Kp.refl Non w).alloc (.cells (WCells (S 0) (S 1) (.pointer (some ⟨qq 0, 0, none⟩)) (.slice Ao (byv (S 0).old).length co) (.slice Aw (byv (S 0).wrote).length cw) (.pointer (some ⟨qq 1, 0, none⟩)) (.slice Bo (byv (S 1).old).length dd) (.slice Bw (byv (S 1).wrote).length dw)) 52)
  have n1 := Blk.new w (WCells (S 0) (S 1) (.pointer (some ⟨qq 0, 0, none⟩)) (.slice Ao (byv (S 0).old).length co) (.slice Aw (byv (S 0).wrote).length cw) (.pointer (some ⟨qq 1, 0, none⟩)) (.slice Bo (byv (S 1).old).length dd) (.slice Bw (byv (S 1).wrote).length dw)) 52
  have hws : w.heap.size < (w.alloc (.cells (WCells (S 0) (S 1) (.pointer (some ⟨qq 0, 0, none⟩)) (.slice Ao (byv (S 0).old).length co) (.slice Aw (byv (S 0).wrote).length cw) (.pointer (some ⟨qq 1, 0, none⟩)) (.slice Bo (byv (S 1).old).length dd) (.slice Bw (byv (S 1).wrote).length dw)) 52)).heap.size := n1.lt
  have Z3 := hid z3
  have Y3 := hid y3
  have HA := hid (And.intro hq hq1)
  have HB := hid (And.intro ho (And.intro hw (And.intro ho1 hw1)))
  have HR := hid (And.intro f3 (And.intro f4 (And.intro g3 g4)))
  have HG := hid (And.intro f5 g5)
  have B7 := hid b7
  clear b4 b5 b6 b7 hq hq1 ho hw ho1 hw1 f2 f3 f4 g2 g3 g4 d0 d1 d2 d3 d4 d5 e0 e1 e2 e3 e4 e5
  go_enter Try.func25, Try.ntmps25
  go_wp2_with fail
  go_loopw [4, 8] (fun _ i wr => CloneInv w S (.pointer (some ⟨qq 0, 0, none⟩)) (.pointer (some ⟨qq 1, 0, none⟩)) (.slice Ao (byv (S 0).old).length co) (.slice Aw (byv (S 0).wrote).length cw) (.slice Bo (byv (S 1).old).length dd) (.slice Bw (byv (S 1).wrote).length dw) i wr) (fun _ i _ => 3 - (intOf i).toNat)
  case atStart => exact ⟨0, _, _, rfl, by omega, n1, fun _ => ⟨rfl, rfl⟩, by omega, by omega, k1⟩
  case round =>
    clear y0 y1 y2 y3 y4 y5 z0 z1 z2 z3 z4 z5 n1 k1
    obtain ⟨k, a, b, rfl, hk, hb, h0, h1, h2, KK⟩ := hrel
    have hk3 : k = 0 ∨ k = 1 ∨ k = 2 := by omega
    rcases hk3 with rfl | rfl | rfl
    · obtain ⟨rfl, rfl⟩ := h0 rfl
      clear h0 h1 h2
      have c3 := KK.cell Y3.out (fun x => x)
      go_wp2_with fail
      refine (qclone_calls (qq 0) (rr 0) (S 0).b (S 0).a 4000 _ (HA.out.1.keep KK) (by have := HA.out.1.len_le; omega)).mono ?_
      rintro e w2 ⟨x, r, rfl, hx, hQ, hr, k2⟩
      have hb2 := hb.keep k2
      have x3 := hb2.cell 3
      have fx := hb2.frozen
      simp [WCells] at x3
      have kg := (Kp.refl (One w.heap.size) w2).setOne 3 (.pointer (some ⟨x, 0, none⟩))
      have hbl := hb.lt
      have hPQ : PQ w w2 (.pointer (some ⟨x, 0, none⟩)) (S 0).b (S 0).a x r := ⟨rfl, hQ, by omega, fun k hk => by have := hr k hk; omega⟩
      go_wp2_with fail
      go_roundw
      case rel => exact ⟨1, _, _, by go_num, by omega, hb2.set 3 _, by omega, fun _ => ⟨⟨x, r, hPQ.kp kg⟩, rfl⟩, by omega, (KK.seq k2).trans kg (fun i hi => .inr (by have : i = w.heap.size := hi; omega))⟩
      case measure => simp [intOf]
    · obtain ⟨⟨x0, r0, hP0⟩, rfl⟩ := h1 rfl
      clear h0 h1 h2
      have c9 := KK.cell Z3.out (fun x => x)
      have hx0 := hP0.2.1.lt
      have hr0 := hP0.2.1.row_lt
      go_wp2_with fail
      refine (qclone_calls (qq 1) (rr 1) (S 1).b (S 1).a 4000 _ (HA.out.2.keep KK) (by have := HA.out.2.len_le; omega)).mono ?_
      rintro e w2 ⟨x, r, rfl, hx, hQ, hr, k2⟩
      have hb2 := hb.keep k2
      have x9 := hb2.cell 9
      have fx := hb2.frozen
      simp [WCells] at x9
      have kg := (Kp.refl (One w.heap.size) w2).setOne 9 (.pointer (some ⟨x, 0, none⟩))
      have hbl := hb.lt
      have hPQ : PQ w w2 (.pointer (some ⟨x, 0, none⟩)) (S 1).b (S 1).a x r := ⟨rfl, hQ, by omega, fun k hk => by have := hr k hk; omega⟩
      go_wp2_with fail
      go_roundw
      case rel => exact ⟨2, _, _, by go_num, by omega, hb2.set 9 _, by omega, by omega, fun _ => ⟨x0, x, r0, r, (hP0.keep k2).kp kg, hPQ.kp kg, by omega, fun k hk h => by have := hr0 k hk; have := hr k h; omega⟩, (KK.seq k2).trans kg (fun i hi => .inr (by have : i = w.heap.size := hi; omega))⟩
      case measure => simp [intOf]
    · obtain ⟨x, y, r, s, hP, hQ, hxy, hrs⟩ := h2 rfl
      clear h0 h1 h2
      go_wp2_with fail
      go_ret
      obtain ⟨rfl, q1, q2, q3⟩ := hP
      obtain ⟨rfl, p1, p2, p3⟩ := hQ
      obtain ⟨f5, g5⟩ := HG.out
      obtain ⟨f3, f4, g3, g4⟩ := HR.out
      obtain ⟨ho, hw, ho1, hw1⟩ := HB.out
      refine ⟨w.heap.size, fun k => k = w.heap.size ∨ k = x ∨ k = y ∨ r = some k ∨ s = some k, rfl, ⟨_, fun i => if i = 0 then x else y, fun i => if i = 0 then r else s, hb, rfl, .inl rfl, fun i hi => ?_, fun i j hi hj hij => ?_, fun k hk => ⟨?_, fun hR => ?_⟩, fun k hk => Nat.lt_of_lt_of_le (B7.out k hk) KK.size⟩, fun k hk => ?_, KK⟩
      · have : i = 0 ∨ i = 1 := by omega
        rcases this with rfl | rfl
        · exact ⟨_, _, ro, rw', rfl, rfl, rfl, rfl, rfl, rfl, q1, ho.keep KK, hw.keep KK, .inr (.inl rfl), fun k hk => .inr (.inr (.inr (.inl hk))), f3, f4, f5⟩
        · exact ⟨_, _, so, sw, rfl, rfl, rfl, rfl, rfl, rfl, p1, ho1.keep KK, hw1.keep KK, .inr (.inr (.inl rfl)), fun k hk => .inr (.inr (.inr (.inr hk))), g3, g4, g5⟩
      · have : (i = 0 ∧ j = 1) ∨ (i = 1 ∧ j = 0) := by omega
        rcases this with ⟨rfl, rfl⟩ | ⟨rfl, rfl⟩
        · exact ⟨hxy, fun k hk => hrs k hk⟩
        · exact ⟨fun h => hxy h.symm, fun k hk h => hrs k h hk⟩
      · rcases hk with rfl | rfl | rfl | hk | hk
        · exact hb.lt
        · exact q1.lt
        · exact p1.lt
        · exact q1.row_lt k hk
        · exact p1.row_lt k hk
      · have := B7.out k hR
        rcases hk with rfl | rfl | rfl | hk | hk
        · omega
        · omega
        · omega
        · have := q3 k hk; omega
        · have := p3 k hk; omega
      · rcases hk with rfl | rfl | rfl | hk | hk
        · omega
        · omega
        · omega
        · have := q3 k hk; omega
        · have := p3 k hk; omega

end Go.Proofs.Ytpbkipolgdldfaa

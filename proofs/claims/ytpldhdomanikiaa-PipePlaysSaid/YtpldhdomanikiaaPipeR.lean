/- The contract of the pipe's Reply. -/
import Derived.Test.YtpldhdomanikiaaPipe
namespace Go.Proofs.Ytpldhdomanikiaa
open Go.RowKit
set_option linter.unusedSimpArgs false
set_option linter.unusedVariables false

/-! ### Reply -/
/-- A reply of a code alone. -/
def rpl (c : ByteArray) : Value := .agg #[.string c, .slice none 0 0, .slice none 0 0]
/-- Does it only go ahead? -/
def ahF (p : Int) (c : ByteArray) : Bool := decide (p = 3) && ahd c
def replyF (p : Int) (c : ByteArray) (l : List Wn) : List Wn := if ahF p c then l else l.tail

theorem Pip.pop {w : World} {g : Nat} {x : Wn} {l : List Wn} {cs : Array Value} {R : Nat → Wn} {f : Nat} (h1 : Blk w g cs 52) (h2 : cs.size = 34) (h4 : (x :: l).length ≤ 8)
    (h7 : ∀ i, i < 8 → cs[i * 4]? = some (.string (R i).t) ∧ cs[i * 4 + 1]? = some (.string (R i).c) ∧ cs[i * 4 + 2]? = some (.bool (R i).b) ∧ cs[i * 4 + 3]? = some (.int .i64 (R i).d))
    (h8 : ∀ i y, (x :: l)[i]? = some y → R ((f + i) % 8) = y) :
    Pip ((w.setCell ⟨g, 32, none⟩ (.int .i64 (((f : Int) + 1) % 8))).setCell ⟨g, 33, none⟩ (.int .i64 l.length)) g l := by
  refine ⟨_, R, (f + 1) % 8, (h1.set 32 _).set 33 _, by simp [h2], Nat.mod_lt _ (by omega), by simp at h4; omega, ?_, ?_, ?_, ?_⟩
  · simp [Array.getElem?_setIfInBounds, h2]
  · simp [Array.getElem?_setIfInBounds, h2]
  · intro i hi
    obtain ⟨a, b, c, d⟩ := h7 i hi
    have n0 : ∀ o, o < 32 → ((cs.setIfInBounds 32 (.int .i64 (((f : Int) + 1) % 8))).setIfInBounds 33 (.int .i64 l.length))[o]? = cs[o]? := by
      intro o ho
      simp only [Array.getElem?_setIfInBounds]
      rw [if_neg (by omega), if_neg (by omega)]
    exact ⟨(n0 _ (by omega)).trans a, (n0 _ (by omega)).trans b, (n0 _ (by omega)).trans c, (n0 _ (by omega)).trans d⟩
  · intro i y hy
    have := h8 (i + 1) y (by simpa using hy)
    rw [show ((f + 1) % 8 + i) % 8 = (f + (i + 1)) % 8 by omega]
    exact this

set_option maxHeartbeats 1000000 in
theorem reply_calls (g : Nat) (l : List Wn) (p : Int) (c : ByteArray) (w : World) (h : Pip w g l) :
    Calls Try.prog 10 #[.pointer (some ⟨g, 0, none⟩), .int .i64 p, rpl c] w fun e w' =>
      e = .returned (.tuple #[(l.headD Wn.no).val, .bool (decide (l ≠ []) && !ahF p c), .bool (decide (l ≠ []))]) ∧ Pip w' g (replyF p c l) ∧ Kp (One g) w w' := by
  unfold rpl
  have hA := ((Kp.refl Non w).alloc (.cells #[.string c, .slice none 0 0, .slice none 0 0] 37)).alloc (.cells #[.string ⟨#[]⟩, .string ⟨#[]⟩, .bool false, .int .i64 0] 28)
  have hR := (Blk.new w #[.string c, .slice none 0 0, .slice none 0 0] 37).old (.cells #[.string ⟨#[]⟩, .string ⟨#[]⟩, .bool false, .int .i64 0] 28)
  have hB : WnBlk _ (w.alloc (.cells #[.string c, .slice none 0 0, .slice none 0 0] 37)).heap.size Wn.no := Blk.new _ #[.string ⟨#[]⟩, .string ⟨#[]⟩, .bool false, .int .i64 0] 28
  have hs : (w.alloc (.cells #[.string c, .slice none 0 0, .slice none 0 0] 37)).heap.size = w.heap.size + 1 := by simp
  rw [hs] at hB
  have h0 := h
  have hgl := h.lt
  obtain ⟨cs, R, f, h1, h2, h3, h4, h5, h6, h7, h8⟩ := h
  have H7 := hid h7
  have H8 := hid h8
  clear h7 h8
  by_cases hp : p = 3
  · subst hp
    go_enter Try.func10, Try.ntmps10
    go_wp2_with fail
    refine (head_calls g l _ (h0.keep hA)).mono ?_
    rintro e w1 ⟨rfl, k1⟩
    have hB1 : WnBlk w1 (w.heap.size + 1) Wn.no := Blk.keep hB k1
    have hR1 := hR.keep k1
    have K1 := hA.seq k1
    clear hB hR hA hs k1
    obtain ⟨b0, b1, b2, b3⟩ := hB1.at
    simp only [Nat.zero_add] at b1 b2 b3
    have f0 := Blk.frozen hB1
    have r0 := hR1.cell 0
    simp at r0
    generalize hx : l.headD Wn.no = x
    unfold Wn.val
    have hB2 := hB1.set x
    have K2 := K1.wn (g := w.heap.size + 1) (.inr (by omega)) 0 x
    cases l with
    | nil =>
      simp only [List.headD_nil] at hx
      subst hx
      go_wp2_with fail
      have hB3 := hB2.set Wn.no
      have K3 := K2.wn (g := w.heap.size + 1) (.inr (by omega)) 0 Wn.no
      simp only [Nat.zero_add] at K3
      generalize World.setCell _ ⟨w.heap.size + 1, 3, none⟩ _ = w3 at hB3 K3 ⊢
      obtain ⟨y0, y1, y2, y3⟩ := hB3.at
      simp only [Nat.zero_add] at y1 y2 y3
      exact bodyPost_ret (v := .tuple #[Wn.no.val, .bool false, .bool false]) (by simp [results, Try.results10, go_sem, y0, y1, y2, y3, Wn.val]) rfl ⟨by simp, by simpa [replyF] using h0.keep K3, K3.any⟩
    | cons x' l =>
      simp only [List.headD_cons] at hx
      subst hx
      go_wp2_with fail
      refine (prefix1_calls c _).mono ?_
      rintro e w2 ⟨rfl, k2⟩
      have hB3 : WnBlk w2 (w.heap.size + 1) x' := Blk.keep hB2 k2
      have K3 := K2.seq k2
      clear hB2 K2 b0 b1 b2 b3 f0 r0 hB1 hR1 K1 k2
      obtain ⟨b0, b1, b2, b3⟩ := hB3.at
      simp only [Nat.zero_add] at b1 b2 b3
      have f0 := Blk.frozen hB3
      have hB4 := hB3.set x'
      cases ha : ahd c with
      | true =>
        have K4 := K3.wn (g := w.heap.size + 1) (.inr (by omega)) 0 x'
        go_wp2_with fail
        simp only [Nat.zero_add] at K4
        generalize World.setCell _ ⟨w.heap.size + 1, 3, none⟩ _ = w4 at hB4 K4 ⊢
        obtain ⟨y0, y1, y2, y3⟩ := hB4.at
        simp only [Nat.zero_add] at y1 y2 y3
        exact bodyPost_ret (v := .tuple #[x'.val, .bool false, .bool true]) (by simp [results, Try.results10, go_sem, y0, y1, y2, y3, Wn.val]) rfl ⟨by simp [ahF, ha], by simpa [replyF, ahF, ha] using h0.keep K4, K4.any⟩
      | false =>
        clear hB4
        have cg := h1.keep K3
        have c32 := (cg.cell 32).trans h5
        have c33 := (cg.cell 33).trans h6
        have f32 := cg.frozen
        simp only [List.length_cons] at c33 h4
        have hwr1 : IntKind.i64.wrap ((f : Int) + 1) = ((f + 1 : Nat) : Int) := by rw [IntWalk.i64_in _ (by omega)]; omega
        have hm : ((f : Int) + 1).tmod 8 = (((f + 1) % 8 : Nat) : Int) := by rw [Int.tmod_eq_emod_of_nonneg (by omega)]; omega
        have hwr2 : IntKind.i64.wrap (((l.length + 1 : Nat) : Int) - 1) = (l.length : Int) := by rw [IntWalk.i64_in _ (by omega)]; omega
        have hn1 : ¬ g = w.heap.size + 1 := by omega
        have hn2 : ¬ w.heap.size + 1 = g := by omega
        go_wp2_with fail
        have hP := Pip.pop cg h2 h4 H7.out H8.out
        have KP := ((K3.any (S := One g)).setOne 32 (.int .i64 (((f : Int) + 1) % 8))).setOne 33 (.int .i64 l.length)
        have hB5 := WnBlk.set (x := x') ((Blk.far hB3 (p := ⟨g, 32, none⟩) (by simp; omega) (.int .i64 (((f : Int) + 1) % 8))).far (p := ⟨g, 33, none⟩) (by simp; omega) (.int .i64 l.length)) x'
        have K5 := KP.wn (g := w.heap.size + 1) (.inr (by omega)) 0 x'
        have K6 := (Kp.refl (One (w.heap.size + 1)) _).wn (g := w.heap.size + 1) (a := ((w2).setCell ⟨g, 32, none⟩ (.int .i64 (((f : Int) + 1) % 8))).setCell ⟨g, 33, none⟩ (.int .i64 l.length)) (.inl rfl) 0 x'
        have hP2 := hP.kp K6 (fun h => by have : g = w.heap.size + 1 := h; omega)
        simp only [Nat.zero_add] at K5 hP2
        clear K6
        generalize World.setCell _ ⟨w.heap.size + 1, 3, none⟩ _ = w4 at hB5 K5 hP2 ⊢
        obtain ⟨y0, y1, y2, y3⟩ := hB5.at
        simp only [Nat.zero_add] at y1 y2 y3
        exact bodyPost_ret (v := .tuple #[x'.val, .bool true, .bool true]) (by simp [results, Try.results10, go_sem, y0, y1, y2, y3, Wn.val]) rfl ⟨by simp [ahF, ha], by simpa [replyF, ahF, ha] using hP2, K5⟩
  · have hp' : (p == 3) = false := by simpa using hp
    go_enter Try.func10, Try.ntmps10
    go_wp2_with fail
    refine (head_calls g l _ (h0.keep hA)).mono ?_
    rintro e w1 ⟨rfl, k1⟩
    have hB1 : WnBlk w1 (w.heap.size + 1) Wn.no := Blk.keep hB k1
    have K1 := hA.seq k1
    clear hB hR hA hs k1
    obtain ⟨b0, b1, b2, b3⟩ := hB1.at
    simp only [Nat.zero_add] at b1 b2 b3
    have f0 := Blk.frozen hB1
    generalize hx : l.headD Wn.no = x
    unfold Wn.val
    have hB2 := hB1.set x
    have K2 := K1.wn (g := w.heap.size + 1) (.inr (by omega)) 0 x
    cases l with
    | nil =>
      simp only [List.headD_nil] at hx
      subst hx
      go_wp2_with fail
      have hB3 := hB2.set Wn.no
      have K3 := K2.wn (g := w.heap.size + 1) (.inr (by omega)) 0 Wn.no
      simp only [Nat.zero_add] at K3
      generalize World.setCell _ ⟨w.heap.size + 1, 3, none⟩ _ = w3 at hB3 K3 ⊢
      obtain ⟨y0, y1, y2, y3⟩ := hB3.at
      simp only [Nat.zero_add] at y1 y2 y3
      exact bodyPost_ret (v := .tuple #[Wn.no.val, .bool false, .bool false]) (by simp [results, Try.results10, go_sem, y0, y1, y2, y3, Wn.val]) rfl ⟨by simp, by simpa [replyF] using h0.keep K3, K3.any⟩
    | cons x' l =>
      simp only [List.headD_cons] at hx
      subst hx
      simp only [Nat.zero_add] at K2
      have cg := h1.keep K1
      have c32 := (cg.cell 32).trans h5
      have c33 := (cg.cell 33).trans h6
      have f32 := cg.frozen
      simp only [List.length_cons] at c33 h4
      have hwr1 : IntKind.i64.wrap ((f : Int) + 1) = ((f + 1 : Nat) : Int) := by rw [IntWalk.i64_in _ (by omega)]; omega
      have hm : ((f : Int) + 1).tmod 8 = (((f + 1) % 8 : Nat) : Int) := by rw [Int.tmod_eq_emod_of_nonneg (by omega)]; omega
      have hwr2 : IntKind.i64.wrap (((l.length + 1 : Nat) : Int) - 1) = (l.length : Int) := by rw [IntWalk.i64_in _ (by omega)]; omega
      have hn1 : ¬ g = w.heap.size + 1 := by omega
      have hn2 : ¬ w.heap.size + 1 = g := by omega
      clear cg
      have cg := h1.keep K2
      go_wp2_with fail
      have hP := Pip.pop cg h2 h4 H7.out H8.out
      have KP := ((K2.any (S := One g)).setOne 32 (.int .i64 (((f : Int) + 1) % 8))).setOne 33 (.int .i64 l.length)
      have hB5 := WnBlk.set (x := x') ((Blk.far hB2 (p := ⟨g, 32, none⟩) (by simp; omega) (.int .i64 (((f : Int) + 1) % 8))).far (p := ⟨g, 33, none⟩) (by simp; omega) (.int .i64 l.length)) x'
      have K5 := KP.wn (g := w.heap.size + 1) (.inr (by omega)) 0 x'
      have K6 := (Kp.refl (One (w.heap.size + 1)) _).wn (g := w.heap.size + 1) (a := (((((w1.setCell ⟨w.heap.size + 1, 0, none⟩ (.string x'.t)).setCell ⟨w.heap.size + 1, 1, none⟩ (.string x'.c)).setCell ⟨w.heap.size + 1, 2, none⟩ (.bool x'.b)).setCell ⟨w.heap.size + 1, 3, none⟩ (.int .i64 x'.d)).setCell ⟨g, 32, none⟩ (.int .i64 (((f : Int) + 1) % 8))).setCell ⟨g, 33, none⟩ (.int .i64 l.length)) (.inl rfl) 0 x'
      have hP2 := hP.kp K6 (fun h => by have : g = w.heap.size + 1 := h; omega)
      simp only [Nat.zero_add] at K5 hP2
      clear K6
      generalize World.setCell _ ⟨w.heap.size + 1, 3, none⟩ _ = w4 at hB5 K5 hP2 ⊢
      obtain ⟨y0, y1, y2, y3⟩ := hB5.at
      simp only [Nat.zero_add] at y1 y2 y3
      exact bodyPost_ret (v := .tuple #[x'.val, .bool true, .bool true]) (by simp [results, Try.results10, go_sem, y0, y1, y2, y3, Wn.val]) rfl ⟨by simp [ahF, hp], by simpa [replyF, ahF, hp] using hP2, K5⟩

end Go.Proofs.Ytpldhdomanikiaa

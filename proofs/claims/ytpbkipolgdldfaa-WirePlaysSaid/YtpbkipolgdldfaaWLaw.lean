/- What the laws of the wire share: a wire of the law's own (Wr), short, event, the example. -/
import Derived.Test.YtpbkipolgdldfaaWireA
namespace Go.Proofs.Ytpbkipolgdldfaa
open Go.RowKit
set_option linter.unusedSimpArgs false
set_option linter.unusedVariables false

/-- A wire of the law's own. -/
def Wr (w0 w : World) (g : Nat) (S : Nat → Cn) : Prop := ∃ F R, Wir w g S F R ∧ (∀ k, F k → w0.heap.size ≤ k) ∧ Kp Non w0 w
section
variable {w0 w w' : World} {g : Nat} {S : Nat → Cn}
theorem Wr.keep (h : Wr w0 w g S) (k : Kp Non w w') : Wr w0 w' g S := by
  obtain ⟨F, R, h1, h2, h3⟩ := h
  exact ⟨F, R, h1.keep k, h2, h3.seq k⟩
theorem Wr.kp (h : Wr w0 w g S) : Kp Non w0 w := by
  obtain ⟨F, R, h1, h2, h3⟩ := h
  exact h3
theorem Wr.lt (h : Wr w0 w g S) : g < w.heap.size := by
  obtain ⟨F, R, ⟨_, _, _, b, _⟩, _⟩ := h
  exact b.lt
end
variable {w0 : World}

theorem wnew (w : World) (K : Kp Non w0 w) :
    Calls Try.prog 9 #[] w fun e w' => ∃ g, e = .returned (.pointer (some ⟨g, 0, none⟩)) ∧ Wr w0 w' g S0 := by
  refine (new_calls w).mono ?_
  rintro e w1 ⟨g, F, rfl, h1, h2, k1⟩
  exact ⟨g, rfl, F, _, h1, fun k hk => by have := h2 k hk; have := K.size; omega, K.seq k1⟩

variable {g : Nat} {S : Nat → Cn}
theorem whappen (kd conn n : Int) (v : Value) (rv : Option Nat) (l : List UInt8) (w : World) (h : Wr w0 w g S) (hv : Rd w v rv (byv l)) (hr : ∀ k, rv = some k → k < w0.heap.size) (hl : l.length ≤ 140737488300000) :
    Calls Try.prog 12 #[.pointer (some ⟨g, 0, none⟩), evt kd conn n v] w fun e w' => ∃ v1 r1, e = .returned (.tuple #[v1, .int .i64 (hapE S kd conn n l)]) ∧
      Own w' 5 1 v1 r1 (hapB S kd conn n l).length (byv (hapB S kd conn n l)) ∧ (∀ k, r1 = some k → w.heap.size ≤ k) ∧ Wr w0 w' g (hapS S kd conn n l) := by
  obtain ⟨F, R, h1, h2, h3⟩ := h
  refine (happen_calls kd conn n v rv l w h1 hv (fun k hk hF => by have := hr k hk; have := h2 k hF; omega) hl).mono ?_
  rintro e w1 ⟨v1, r1, F', rfl, o1, n1, h4, h5, k1⟩
  exact ⟨v1, r1, rfl, o1, n1, F', R, h4, fun k hk => (h5 k hk).elim (h2 k) (fun h => by have := h3.size; omega), h3.trans k1 (fun k hk => .inr (h2 k hk))⟩
theorem wask (w : World) (h : Wr w0 w g S) (hb : Bd S) :
    Calls Try.prog 11 #[.pointer (some ⟨g, 0, none⟩)] w fun e w' => e = .returned (.bool (decide ((S 1).st ≠ 1))) ∧ Wr w0 w' g (askS S) := by
  obtain ⟨F, R, h1, h2, h3⟩ := h
  refine (ask_calls g S F R w h1 hb).mono ?_
  rintro e w1 ⟨F', R', rfl, h4, h5, h6, k1⟩
  exact ⟨rfl, F', R', h4, fun k hk => (h5 k hk).elim (h2 k) (fun h => by have := h3.size; omega), h3.trans k1 (fun k hk => .inr (h2 k hk))⟩
theorem wwrite (conn : Int) (v : Value) (rv : Option Nat) (l : List UInt8) (w : World) (h : Wr w0 w g S) (hv : Rd w v rv (byv l)) (hl : l.length ≤ 140737488300000) :
    Calls Try.prog 16 #[.pointer (some ⟨g, 0, none⟩), .int .i64 conn, v] w fun e w' => e = .returned (.int .i64 (writeE S conn l)) ∧ Wr w0 w' g (writeS S conn l) := by
  obtain ⟨F, R, h1, h2, h3⟩ := h
  refine (write_calls g S F R conn v rv l w h1 hv hl).mono ?_
  rintro e w1 ⟨F', rfl, h4, h5, k1⟩
  exact ⟨rfl, F', R, h4, fun k hk => (h5 k hk).elim (h2 k) (fun h => by have := h3.size; omega), h3.trans k1 (fun k hk => .inr (h2 k hk))⟩
theorem wfinish (conn : Int) (w : World) (h : Wr w0 w g S) :
    Calls Try.prog 18 #[.pointer (some ⟨g, 0, none⟩), .int .i64 conn] w fun e w' => e = .returned (.tuple #[]) ∧ Wr w0 w' g (finS S conn) := by
  obtain ⟨F, R, h1, h2, h3⟩ := h
  refine (finish_calls g S F R conn w h1).mono ?_
  rintro e w1 ⟨rfl, h4, k1⟩
  exact ⟨rfl, F, R, h4, h2, h3.trans k1 (fun k hk => .inr (h2 k hk))⟩
theorem wstate (conn : Int) (w : World) (h : Wr w0 w g S) :
    Calls Try.prog 10 #[.pointer (some ⟨g, 0, none⟩), .int .i64 conn] w fun e w' => e = .returned (.int .i64 (gt S conn Cn.st 0)) ∧ Kp Non w w' := by
  obtain ⟨F, R, h1, h2, h3⟩ := h
  exact state_calls g S F R conn w h1
theorem wfinished (conn : Int) (w : World) (h : Wr w0 w g S) :
    Calls Try.prog 17 #[.pointer (some ⟨g, 0, none⟩), .int .i64 conn] w fun e w' => e = .returned (.bool (gt S conn Cn.done false)) ∧ Kp Non w w' := by
  obtain ⟨F, R, h1, h2, h3⟩ := h
  exact finished_calls g S F R conn w h1
theorem wwaits (conn : Int) (w : World) (h : Wr w0 w g S) :
    Calls Try.prog 20 #[.pointer (some ⟨g, 0, none⟩), .int .i64 conn] w fun e w' => e = .returned (.int .i64 (gt S conn Cn.waits 0)) ∧ Kp Non w w' := by
  obtain ⟨F, R, h1, h2, h3⟩ := h
  exact waits_calls g S F R conn w h1
theorem wsent (conn : Int) (w : World) (h : Wr w0 w g S) (hb : Bd S) :
    Calls Try.prog 15 #[.pointer (some ⟨g, 0, none⟩), .int .i64 conn] w fun e w' => ∃ v r1, e = .returned v ∧ Own w' 5 1 v r1 (gt S conn Cn.sent []).length (byv (gt S conn Cn.sent [])) ∧ (∀ k, r1 = some k → w.heap.size ≤ k) ∧ Kp Non w w' := by
  obtain ⟨F, R, h1, h2, h3⟩ := h
  exact sent_calls g S F R conn w h1 hb
theorem wwritten (conn : Int) (w : World) (h : Wr w0 w g S) (hb : Bd S) :
    Calls Try.prog 19 #[.pointer (some ⟨g, 0, none⟩), .int .i64 conn] w fun e w' => ∃ v r1, e = .returned v ∧ Own w' 5 1 v r1 (gt S conn Cn.written []).length (byv (gt S conn Cn.written [])) ∧ (∀ k, r1 = some k → w.heap.size ≤ k) ∧ Kp Non w w' := by
  obtain ⟨F, R, h1, h2, h3⟩ := h
  exact written_calls g S F R conn w h1 hb

theorem short_calls (v : Value) (r : Option Nat) (l : List UInt8) (w : World) (h : Rd w v r (byv l)) :
    Calls Try.prog 14 #[v] w fun e w' => ∃ V, e = .returned V ∧ Rd w' V r (byv (l.take 1500)) ∧ Kp Non w w' := by
  by_cases c : 1500 < l.length
  · obtain ⟨V, hV, hVr⟩ := h.slice_h Try.underlying26 size8 1500 1500 rfl (by rw [byv_length]; omega)
    rw [byv_take] at hVr
    obtain ⟨A, d, rfl, h1, h2, h3⟩ := h
    clear h3
    rw [byv_length] at h1 hV ⊢
    go_enter Try.func14, Try.ntmps14
    go_wp2
    go_ret
    exact ⟨V, rfl, hVr, Kp.refl _ _⟩
  · have e : l.take 1500 = l := List.take_of_length_le (by omega)
    rw [e]
    have h0 := h
    obtain ⟨A, d, rfl, h1, h2, h3⟩ := h
    clear h3
    rw [byv_length] at h1 h0 ⊢
    go_enter Try.func14, Try.ntmps14
    go_wp2
    go_ret
    exact ⟨_, rfl, h0, Kp.refl _ _⟩

theorem event_calls (kd conn n : Int) (v : Value) (r : Option Nat) (l : List UInt8) (w : World) (h : Rd w v r (byv l)) (hr : ∀ k, r = some k → k < w.heap.size) :
    Calls Try.prog 13 #[evt kd conn n v] w fun e w' => ∃ V, e = .returned (evt kd conn n V) ∧ Rd w' V r (byv (l.take 1500)) ∧ Kp Non w w' := by
  unfold evt
  have HV := hid h
  obtain ⟨A, c, rfl, _⟩ := h
  simp only [byv_length] at HV ⊢
  have hA := (Kp.refl Non w).alloc (.cells #[.int .i64 kd, .int .i64 conn, .int .i64 n, .slice A l.length c] 28)
  have hB := Blk.new w #[.int .i64 kd, .int .i64 conn, .int .i64 n, .slice A l.length c] 28
  have hA2 := hA.alloc (.cells #[.int .i64 0, .int .i64 0, .int .i64 0, .slice none 0 0] 28)
  have hB2 := hB.old (.cells #[.int .i64 0, .int .i64 0, .int .i64 0, .slice none 0 0] 28)
  have hC := Blk.new (w.alloc (.cells #[.int .i64 kd, .int .i64 conn, .int .i64 n, .slice A l.length c] 28)) #[.int .i64 0, .int .i64 0, .int .i64 0, .slice none 0 0] 28
  have hs : (w.alloc (.cells #[.int .i64 kd, .int .i64 conn, .int .i64 n, .slice A l.length c] 28)).heap.size = w.heap.size + 1 := by simp
  rw [hs] at hC
  go_enter Try.func13, Try.ntmps13
  go_wp2_with fail
  refine (short_calls _ r l _ (HV.out.keep hA2)).mono ?_
  rintro e w1 ⟨V, rfl, hV, k1⟩
  have K1 := hA2.seq k1
  have HV1 := hid hV
  obtain ⟨A1, c1, rfl, _⟩ := hV
  simp only [byv_length] at HV1 ⊢
  have b1 := hB2.keep k1
  have b2 := hC.keep k1
  have x0 := b1.cell 0
  have x1 := b1.cell 1
  have x2 := b1.cell 2
  have x3 := b1.cell 3
  have fx := b1.frozen
  have y0 := b2.cell 0
  have y1 := b2.cell 1
  have y2 := b2.cell 2
  have y3 := b2.cell 3
  have fy := b2.frozen
  simp at x0 x1 x2 x3 y0 y1 y2 y3
  clear hA hB hA2 hB2 hC
  go_wp2_with fail
  have b3 := (((((b2.far (p := ⟨w.heap.size, 3, none⟩) (by simp) (.slice A1 (min 1500 l.length) c1)).set 0 (.int .i64 kd)).set 1 (.int .i64 conn)).set 2 (.int .i64 n)).set 3 (.slice A1 (min 1500 l.length) c1))
  have KW : Kp Non w _ := ((((K1.setCell (p := ⟨w.heap.size, 3, none⟩) (.inr (Nat.le_refl _)) (.slice A1 (min 1500 l.length) c1)).setCell (p := ⟨w.heap.size + 1, 0, none⟩) (.inr (by simp)) (.int .i64 kd)).setCell (p := ⟨w.heap.size + 1, 1, none⟩) (.inr (by simp)) (.int .i64 conn)).setCell (p := ⟨w.heap.size + 1, 2, none⟩) (.inr (by simp)) (.int .i64 n)).setCell (p := ⟨w.heap.size + 1, 3, none⟩) (.inr (by simp)) (.slice A1 (min 1500 l.length) c1)
  have kW : Kp (fun k => w.heap.size ≤ k) w1 _ := (((((Kp.refl (fun k => w.heap.size ≤ k) w1).setCell (p := ⟨w.heap.size, 3, none⟩) (.inl (Nat.le_refl _)) (.slice A1 (min 1500 l.length) c1)).setCell (p := ⟨w.heap.size + 1, 0, none⟩) (.inl (by simp)) (.int .i64 kd)).setCell (p := ⟨w.heap.size + 1, 1, none⟩) (.inl (by simp)) (.int .i64 conn)).setCell (p := ⟨w.heap.size + 1, 2, none⟩) (.inl (by simp)) (.int .i64 n)).setCell (p := ⟨w.heap.size + 1, 3, none⟩) (.inl (by simp)) (.slice A1 (min 1500 l.length) c1)
  generalize World.setCell _ ⟨w.heap.size + 1, 3, none⟩ _ = W at b3 KW kW ⊢
  have z0 := b3.cell 0
  have z1 := b3.cell 1
  have z2 := b3.cell 2
  have z3 := b3.cell 3
  simp at z0 z1 z2 z3
  refine bodyPost_ret (v := .agg #[.int .i64 kd, .int .i64 conn, .int .i64 n, .slice A1 (min 1500 l.length) c1]) (by simp [results, Try.results13, go_sem, z0, z1, z2, z3]) rfl ⟨_, rfl, ?_, KW⟩
  have := HV1.out.kp kW (fun k hk h => by have := hr k hk; omega)
  simpa using this

theorem shown_calls (w : World) :
    Calls Try.prog 8 #[] w fun e w' => e = .returned (.bool true) ∧ Kp Non w w' := by
  have kc := fun (w : World) (C : Array Value) (n c : Nat) => Lib.run_convert_bytes_const (P := Try.prog) w 26 5 C n c Try.underlying26 Try.underlying5
  go_enter Try.func8, Try.ntmps8
  go_wp2_with fail
  refine (wnew (w0 := w) _ (Kp.refl _ _)).mono ?_
  rintro e w1 ⟨g, rfl, h1⟩
  go_wp2_with fail
  refine (wwrite 0 _ _ [97, 98] _ (h1.keep ((Kp.refl _ _).alloc _)) (Rd.const w1 5 (2, 3) [97, 98] _ 2 rfl rfl (by decide)) (by decide)).mono ?_
  rintro e w2 ⟨rfl, h2⟩
  have e2 : writeE S0 0 [97, 98] = 0 := by decide
  rw [e2]
  go_wp2_with fail
  refine (whappen 2 0 1 _ none [] _ h2 (Rd.nil _ none 0 (by simp [maxLen]) none) (fun k hk => by cases hk) (by decide)).mono ?_
  rintro e w3 ⟨v3, r3, rfl, o3, n3, h3⟩
  have e3 : hapE (writeS S0 0 [97, 98]) 2 0 1 [] = 0 := by decide
  rw [e3]
  go_wp2_with fail
  have hb3 : Bd (hapS (writeS S0 0 [97, 98]) 2 0 1 []) := fun i hi => by
    have : i = 0 ∨ i = 1 := by omega
    rcases this with rfl | rfl <;> decide
  have g3 : gt (hapS (writeS S0 0 [97, 98]) 2 0 1 []) 0 Cn.sent [] = [97] := by decide
  have g4 : gt (hapS (writeS S0 0 [97, 98]) 2 0 1 []) 0 Cn.st 0 = 2 := by decide
  generalize hapS (writeS S0 0 [97, 98]) 2 0 1 [] = S at h3 hb3 g3 g4
  refine (wsent 0 _ h3 hb3).mono ?_
  rintro e w4 ⟨v4, r4, rfl, o4, n4, k4⟩
  rw [g3] at o4
  have hs := o4.rd.str 26 5 9 Try.underlying26 Try.underlying5 Try.underlying9
  rw [show strOf [97] = { data := #[97] } from rfl] at hs
  go_wp2_with fail
  refine (wstate 0 _ (h3.keep k4)).mono ?_
  rintro e w5 ⟨rfl, k5⟩
  rw [g4]
  go_wp2
  go_ret
  exact ⟨rfl, (h3.kp.seq k4).seq k5⟩

end Go.Proofs.Ytpbkipolgdldfaa

/- Prefixes, suffixes, what a payload is with its end; a body in memory and the contracts of its functions. -/
import Derived.Test.YtghfngnakoccbaaDoorStuff0
namespace Go.Proofs.YtghfngnakoccbaaDoor
open Go.RowKit
set_option linter.unusedSimpArgs false
set_option linter.unusedVariables false
attribute [local go_sem] max2_of min2_of max_of min_of

theorem strOf_list (l : List UInt8) : (strOf l).toList = l := by
  unfold strOf
  rw [ByteArray.toList_mk]
theorem strOf_beq (a b : List UInt8) : ((strOf a).toList == (strOf b).toList) = (a == b) := by rw [strOf_list, strOf_list]
theorem strOf_extract (l : List UInt8) (i j : Nat) : (strOf l).extract i j = strOf ((l.take j).drop i) := by
  unfold strOf
  rw [ByteArray.extract_mk]
  simp [List.drop_take]

attribute [local go_sem] strOf_size strOf_list

def pre (p l : List UInt8) : Bool := decide (p.length ≤ l.length) && (l.take p.length == p)
def suf (p l : List UInt8) : Bool := decide (p.length ≤ l.length) && (l.drop (l.length - p.length) == p)

theorem equal_calls (v1 v2 : Value) (r1 r2 : Option Nat) (l1 l2 : List UInt8) (w : World) (h1 : Rd w v1 r1 (byv l1)) (h2 : Rd w v2 r2 (byv l2)) :
    Calls Tryd.prog 36 #[v1, v2] w fun e w' => e = .returned (.bool (l1 == l2)) ∧ Kp Non w w' := by
  have s1 := h1.str 29 5 9 Tryd.underlying29 Tryd.underlying5 Tryd.underlying9
  have s2 := h2.str 29 5 9 Tryd.underlying29 Tryd.underlying5 Tryd.underlying9
  go_enter Tryd.func36, Tryd.ntmps36
  go_wp2
  go_ret
  exact ⟨rfl, Kp.refl _ _⟩

theorem hasPrefix_calls (v1 v2 : Value) (r1 r2 : Option Nat) (l p : List UInt8) (w : World) (h1 : Rd w v1 r1 (byv l)) (h2 : Rd w v2 r2 (byv p)) :
    Calls Tryd.prog 27 #[v1, v2] w fun e w' => e = .returned (.bool (pre p l)) ∧ Kp Non w w' := by
  have H1 := hid h1
  have H2 := hid h2
  by_cases hlt : p.length ≤ l.length
  · obtain ⟨V, hV, hVr⟩ := h1.slice_h Tryd.underlying29 size8 (p.length : Int) p.length rfl (by rw [byv_length]; omega)
    rw [byv_take] at hVr
    have HV := hid hVr
    have hp : pre p l = (l.take p.length == p) := by simp [pre, hlt]
    rw [hp]
    clear hp hVr
    obtain ⟨A1, c1, rfl, _⟩ := h1
    obtain ⟨A2, c2, rfl, _⟩ := h2
    simp only [byv_length] at *
    go_enter Tryd.func27, Tryd.ntmps27
    go_wp2_with fail
    refine (equal_calls V _ r1 r2 _ p _ HV.out H2.out).mono ?_
    rintro e w1 ⟨rfl, k1⟩
    go_wp2
    go_ret
    exact ⟨rfl, k1⟩
  · have hp : pre p l = false := by simp [pre, hlt]
    rw [hp]
    clear hp
    obtain ⟨A1, c1, rfl, _⟩ := h1
    obtain ⟨A2, c2, rfl, _⟩ := h2
    simp only [byv_length] at *
    go_enter Tryd.func27, Tryd.ntmps27
    go_wp2
    go_ret
    exact ⟨rfl, Kp.refl _ _⟩

theorem hasSuffix_calls (v1 v2 : Value) (r1 r2 : Option Nat) (l p : List UInt8) (w : World) (h1 : Rd w v1 r1 (byv l)) (h2 : Rd w v2 r2 (byv p)) :
    Calls Tryd.prog 31 #[v1, v2] w fun e w' => e = .returned (.bool (suf p l)) ∧ Kp Non w w' := by
  have H1 := hid h1
  have H2 := hid h2
  by_cases hlt : p.length ≤ l.length
  · have hmax := h1.len
    rw [byv_length] at hmax
    unfold maxLen at hmax
    have hwr : IntKind.i64.wrap ((l.length : Int) - p.length) = ((l.length - p.length : Nat) : Int) := by rw [IntWalk.i64_in _ (by omega)]; omega
    obtain ⟨V, hV, hVr⟩ := h1.slice_l Tryd.underlying29 size8 ((l.length - p.length : Nat) : Int) (l.length - p.length) rfl (by rw [byv_length]; omega)
    rw [byv_drop] at hVr
    have HV := hid hVr
    have hp : suf p l = (l.drop (l.length - p.length) == p) := by simp [suf, hlt]
    rw [hp]
    clear hp hVr
    obtain ⟨A1, c1, rfl, _⟩ := h1
    obtain ⟨A2, c2, rfl, _⟩ := h2
    simp only [byv_length] at *
    go_enter Tryd.func31, Tryd.ntmps31
    go_wp2_with fail
    refine (equal_calls V _ r1 r2 _ p _ HV.out H2.out).mono ?_
    rintro e w1 ⟨rfl, k1⟩
    go_wp2
    go_ret
    exact ⟨rfl, k1⟩
  · have hp : suf p l = false := by simp [suf, hlt]
    rw [hp]
    clear hp
    obtain ⟨A1, c1, rfl, _⟩ := h1
    obtain ⟨A2, c2, rfl, _⟩ := h2
    simp only [byv_length] at *
    go_enter Tryd.func31, Tryd.ntmps31
    go_wp2
    go_ret
    exact ⟨rfl, Kp.refl _ _⟩

/-- A payload with its end. -/
def wholeF (l : List UInt8) : List UInt8 := if l = [] ∨ suf [13, 10] l = true then l else l ++ [13, 10]

theorem whole_calls (v : Value) (r : Option Nat) (l : List UInt8) (w : World) (h : Rd w v r (byv l)) (hl : l.length ≤ 70368744177000) :
    Calls Tryd.prog 18 #[v] w fun e w' => ∃ v1 r1, e = .returned v1 ∧ Own w' 5 1 v1 r1 (wholeF l).length (byv (wholeF l)) ∧ (∀ k, r1 = some k → w.heap.size ≤ k) ∧ Kp Non w w' := by
  have kc := fun (w : World) (C : Array Value) (n c : Nat) => Lib.run_convert_bytes_const (P := Tryd.prog) w 29 5 C n c Tryd.underlying29 Tryd.underlying5
  have H := hid h
  obtain ⟨A, c, rfl, _⟩ := h
  simp only [byv_length] at *
  by_cases h0 : l = []
  · subst h0
    go_enter Tryd.func18, Tryd.ntmps18
    go_wp2_with fail
    refine (clone_calls _ r [] _ H.out (by simp)).mono ?_
    rintro e w1 ⟨v1, r1, rfl, o1, n1, k1⟩
    go_wp2
    go_ret
    exact ⟨v1, r1, rfl, o1, n1, k1⟩
  · have hl0 : ((l.length : Int) == 0) = false := by simpa using h0
    have hl1 : ¬ l.length = 0 := by simpa using h0
    go_enter Tryd.func18, Tryd.ntmps18
    go_wp2_with fail
    have hA := (Kp.refl Non w).alloc (.cells #[.int .u8 13, .int .u8 10] 5 (2, 3))
    refine (hasSuffix_calls _ _ r _ l [13, 10] _ (H.out.keep hA) (Rd.const w 5 (2, 3) [13, 10] _ 2 rfl rfl (by decide))).mono ?_
    rintro e w1 ⟨rfl, k1⟩
    have K1 := hA.seq k1
    clear hA k1
    by_cases hs : suf [13, 10] l = true
    · rw [hs]
      have hw : wholeF l = l := by unfold wholeF; rw [if_pos (.inr hs)]
      go_wp2_with fail
      refine (clone_calls _ r l _ (H.out.keep K1) (by omega)).mono ?_
      rintro e w2 ⟨v2, r2, rfl, o2, n2, k2⟩
      go_wp2
      go_ret
      exact ⟨v2, r2, rfl, by rw [hw]; exact o2, fun k hk => by have := n2 k hk; have := K1.size; omega, K1.seq k2⟩
    · have hs' : suf [13, 10] l = false := by simpa using hs
      rw [hs']
      have hw : wholeF l = l ++ [13, 10] := by unfold wholeF; rw [if_neg (by rintro (h | h); exact h0 h; exact hs h)]
      go_wp2_with fail
      have hb := Blk.new (w1.alloc (.cells #[.int .u8 13, .int .u8 10] 5 (2, 3))) #[.slice A l.length c, .slice (some ⟨w1.heap.size, 0, none⟩) 2 2] 29
      rw [show (w1.alloc (.cells #[.int .u8 13, .int .u8 10] 5 (2, 3))).heap.size = w1.heap.size + 1 by simp] at hb
      have hA1 := (Kp.refl Non w1).alloc (.cells #[.int .u8 13, .int .u8 10] 5 (2, 3))
      have hA2 := (Kp.refl Non (w1.alloc (.cells #[.int .u8 13, .int .u8 10] 5 (2, 3)))).alloc (.cells #[.slice A l.length c, .slice (some ⟨w1.heap.size, 0, none⟩) 2 2] 29)
      refine (concat_calls (w1.heap.size + 1) _ _ r _ l [13, 10] _ hb (H.out.keep (K1.seq (hA1.seq hA2))) ((Rd.const w1 5 (2, 3) [13, 10] _ 2 rfl rfl (by decide)).keep hA2) (by simp; omega)).mono ?_
      rintro e w2 ⟨v2, r2, rfl, o2, n2, k2⟩
      go_wp2
      go_ret
      exact ⟨v2, r2, rfl, by rw [hw]; exact o2, fun k hk => by have := n2 k hk; have := K1.size; have := hA1.size; have := hA2.size; omega, ((K1.seq hA1).seq hA2).seq k2⟩


/-! ### short -/
theorem short_calls (v : Value) (r : Option Nat) (l : List UInt8) (w : World) (h : Rd w v r (byv l)) :
    Calls Tryd.prog 13 #[v] w fun e w' => ∃ V, e = .returned V ∧ Rd w' V r (byv (l.take 600)) ∧ Kp Non w w' := by
  by_cases c : 600 < l.length
  · obtain ⟨V, hV, hVr⟩ := h.slice_h Tryd.underlying29 size8 600 600 rfl (by rw [byv_length]; omega)
    rw [byv_take] at hVr
    obtain ⟨A, d, rfl, h1, h2, h3⟩ := h
    clear h3
    rw [byv_length] at h1 hV ⊢
    go_enter Tryd.func13, Tryd.ntmps13
    go_wp2
    go_ret
    exact ⟨V, rfl, hVr, Kp.refl _ _⟩
  · have e : l.take 600 = l := List.take_of_length_le (by omega)
    rw [e]
    have h0 := h
    obtain ⟨A, d, rfl, h1, h2, h3⟩ := h
    clear h3
    rw [byv_length] at h1 h0 ⊢
    go_enter Tryd.func13, Tryd.ntmps13
    go_wp2
    go_ret
    exact ⟨_, rfl, h0, Kp.refl _ _⟩

/-! ### A body -/
def Bod (w : World) (g : Nat) (r : Option Nat) (b : List UInt8) (n : Nat) (m : Int) (T : Nat) : Prop :=
  ∃ v, Blk w g #[v, .int .i64 n, .int .i64 m] T ∧ Own w 5 1 v r b.length (byv b) ∧ 0 ≤ m ∧ m ≤ 9223372036854775807
section
variable {w w' : World} {g n T : Nat} {r : Option Nat} {b : List UInt8} {m : Int} {S : Nat → Prop}
theorem Bod.kp (h : Bod w g r b n m T) (k : Kp S w w') (hg : ¬ S g) (hr : ∀ i, r = some i → ¬ S i) : Bod w' g r b n m T := by
  obtain ⟨v, h1, h2, h3⟩ := h
  exact ⟨v, h1.kp k hg, h2.kp k hr, h3⟩
theorem Bod.keep (h : Bod w g r b n m T) (k : Kp Non w w') : Bod w' g r b n m T := h.kp k (fun x => x) (fun _ _ x => x)
theorem Bod.lt (h : Bod w g r b n m T) : g < w.heap.size := by
  obtain ⟨v, h1, _⟩ := h
  exact h1.lt
theorem Bod.row_lt (h : Bod w g r b n m T) : ∀ i, r = some i → i < w.heap.size := by
  obtain ⟨v, _, h2, _⟩ := h
  exact h2.lt
theorem Bod.row_ne (h : Bod w g r b n m T) (hT : T ≠ 5) : r ≠ some g := by
  obtain ⟨v, h1, h2, _⟩ := h
  exact h2.ne_blk h1 hT
end

theorem bnew_calls (most : Int) (w : World) (hm : most ≤ 9223372036854775807) :
    Calls Tryd.prog 9 #[.int .i64 most] w fun e w' => e = .returned (.pointer (some ⟨w.heap.size, 0, none⟩)) ∧ Bod w' w.heap.size none [] 0 (max most 0) 46 ∧ Kp Non w w' := by
  go_enter Tryd.func9, Tryd.ntmps9
  go_wp2
  go_ret
  exact ⟨rfl, ⟨_, Blk.new w _ _, Own.nil _ _ _ _, by omega, by omega⟩, (Kp.refl Non w).alloc _⟩
theorem rbnew_calls (most : Int) (w : World) (hm : most ≤ 9223372036854775807) :
    Calls Tryd.prog 19 #[.int .i64 most] w fun e w' => e = .returned (.pointer (some ⟨w.heap.size, 0, none⟩)) ∧ Bod w' w.heap.size none [] 0 (max most 0) 43 ∧ Kp Non w w' := by
  go_enter Tryd.func19, Tryd.ntmps19
  go_wp2
  go_ret
  exact ⟨rfl, ⟨_, Blk.new w _ _, Own.nil _ _ _ _, by omega, by omega⟩, (Kp.refl Non w).alloc _⟩

theorem bbytes_calls (g : Nat) (r : Option Nat) (b : List UInt8) (n : Nat) (m : Int) (w : World) (h : Bod w g r b n m 46) (hb : b.length ≤ 140737488355328) :
    Calls Tryd.prog 11 #[.pointer (some ⟨g, 0, none⟩)] w fun e w' => ∃ v1 r1, e = .returned v1 ∧ Own w' 5 1 v1 r1 b.length (byv b) ∧ (∀ k, r1 = some k → w.heap.size ≤ k) ∧ Kp Non w w' := by
  obtain ⟨v, h1, h2, _⟩ := h
  have c0 := h1.cell 0
  simp at c0
  go_enter Tryd.func11, Tryd.ntmps11
  go_wp2_with fail
  refine (clone_calls v r b _ h2.rd hb).mono ?_
  rintro e w1 ⟨v1, r1, rfl, o1, n1, k1⟩
  go_wp2
  go_ret
  exact ⟨v1, r1, rfl, o1, n1, k1⟩
theorem blines_calls (g : Nat) (r : Option Nat) (b : List UInt8) (n : Nat) (m : Int) (w : World) (h : Bod w g r b n m 46) :
    Calls Tryd.prog 12 #[.pointer (some ⟨g, 0, none⟩)] w fun e w' => e = .returned (.int .i64 n) ∧ Kp Non w w' := by
  obtain ⟨v, h1, h2, _⟩ := h
  have c1 := h1.cell 1
  simp at c1
  go_enter Tryd.func12, Tryd.ntmps12
  go_wp2
  go_ret
  exact ⟨rfl, Kp.refl _ _⟩

/-! ### A line -/
def trimF (s : List UInt8) : List UInt8 := if pre [46] s = true then s.tail else s
theorem trim_calls (s : List UInt8) (w : World) :
    Calls Tryd.prog 23 #[.string (strOf s), .string { data := #[46] }] w fun e w' => e = .returned (.string (strOf (trimF s))) ∧ w' = w := by
  have hsz : ({ data := #[46] } : ByteArray).size = 1 := rfl
  have he : (strOf s).extract 0 1 = strOf (s.take 1) := by rw [strOf_extract]; rfl
  have hd : (strOf s).extract 1 s.length = strOf (s.drop 1) := by rw [strOf_extract, List.take_length]
  by_cases h1 : 1 ≤ s.length
  · have hl : (1 : Int) ≤ s.length := by omega
    by_cases hp : s.take 1 = [46]
    · have ht : trimF s = s.tail := by unfold trimF; rw [if_pos (by simp [pre, h1]; exact hp)]
      have hq : (s.take 1 == [46]) = true := by rw [hp]; rfl
      clear hp
      rw [ht]
      clear ht
      go_enter Tryd.func23, Tryd.ntmps23
      go_wp2
      go_ret
      exact ⟨rfl, rfl⟩
    · have ht : trimF s = s := by unfold trimF; rw [if_neg (by simp [pre, h1]; exact hp)]
      have hq : (s.take 1 == [46]) = false := by simpa using hp
      clear hp
      rw [ht]
      clear ht
      go_enter Tryd.func23, Tryd.ntmps23
      go_wp2
      go_ret
      exact ⟨rfl, rfl⟩
  · have hl : ¬ (1 : Int) ≤ s.length := by omega
    have ht : trimF s = s := by unfold trimF; rw [if_neg (by simp [pre, h1])]
    rw [ht]
    clear ht
    go_enter Tryd.func23, Tryd.ntmps23
    go_wp2
    go_ret
    exact ⟨rfl, rfl⟩

end Go.Proofs.YtghfngnakoccbaaDoor

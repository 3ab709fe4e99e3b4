/- The document's payloads with dots: ends, Whole, Put. -/
import Derived.Test.YtghfngnakoccbaaDoorSPure3
namespace Go.Proofs.YtghfngnakoccbaaDoor
open Go.RowKit
set_option linter.unusedSimpArgs false
set_option linter.unusedVariables false
attribute [local go_sem] max2_of min2_of max_of min_of
attribute [local go_sem] strOf_size strOf_list

theorem ends_calls (v : Value) (r : Option Nat) (l : List UInt8) (w : World) (h : Rd w v r (byv l)) :
    Calls Tryd.prog 33 #[v] w fun e w' => e = .returned (.bool (suf [13, 10] l)) ∧ Kp Non w w' := by
  have hmax := h.len
  rw [byv_length] at hmax
  unfold maxLen at hmax
  obtain ⟨A, c, rfl, _, _, hx⟩ := h
  rw [byv_length]
  have short : ∀ l : List UInt8, l.length < 2 → suf [13, 10] l = false := fun l h => by
    unfold suf
    rw [decide_eq_false (by simp; omega)]; rfl
  rcases List.eq_nil_or_concat l with rfl | ⟨P, d, rfl⟩
  · rw [short [] (by simp)]
    go_enter Tryd.func33, Tryd.ntmps33
    go_wp2
    go_ret
    exact ⟨rfl, Kp.refl _ _⟩
  · rw [List.concat_eq_append] at *
    rcases List.eq_nil_or_concat P with rfl | ⟨Q, b, rfl⟩
    · rw [short _ (by simp)]
      simp only [List.nil_append, List.length_cons, List.length_nil] at *
      go_enter Tryd.func33, Tryd.ntmps33
      go_wp2
      go_ret
      exact ⟨rfl, Kp.refl _ _⟩
    · rw [List.concat_eq_append] at *
      have hl : (Q ++ [b] ++ [d]).length = Q.length + 2 := by simp
      have hs : suf [13, 10] (Q ++ [b] ++ [d]) = (b == 13 && d == 10) := by
        rw [suf_snoc]
        congr 1
        exact crP_snoc Q b
      rw [hs]
      obtain ⟨bk, off, rfl, hc⟩ : ∃ bk off, A = some ⟨bk, off, none⟩ ∧ ∀ (j : Nat) (u : Value), (byv (Q ++ [b] ++ [d]))[j]? = some u → w.cell? ⟨bk, off + j, none⟩ = some u := by
        rcases hx with hx | ⟨bk, off, hA, _, hx⟩
        · exact absurd (congrArg List.length hx) (by rw [byv_length, hl]; simp)
        · exact ⟨bk, off, hA, hx⟩
      have c1 := hc Q.length (.int .u8 b.toNat) (by rw [byv_get, List.append_assoc]; simp)
      have c2 := hc (Q.length + 1) (.int .u8 d.toNat) (by rw [byv_get, List.append_assoc]; simp)
      rw [hl] at hmax ⊢
      have hw1 : IntKind.i64.wrap ((Q.length : Int) + 2 - 2) = Q.length := by rw [IntWalk.i64_in _ (by omega)]; omega
      have hw1' : IntKind.i64.wrap (Q.length : Int) = Q.length := IntWalk.i64_in _ (by omega)
      have hw2 : IntKind.i64.wrap ((Q.length : Int) + 2 - 1) = ((Q.length + 1 : Nat) : Int) := by rw [IntWalk.i64_in _ (by omega)]; omega
      have h2 : (2 : Int) ≤ (Q.length : Int) + 2 := by omega
      have hl2 : ((Q.length + 2 : Nat) : Int) = (Q.length : Int) + 2 := by omega
      clear hc hs hx hl short
      by_cases hb : b = 13
      · subst hb
        by_cases hd : d = 10
        · subst hd
          go_enter Tryd.func33, Tryd.ntmps33
          go_wp2
          go_ret
          exact ⟨rfl, Kp.refl _ _⟩
        · have e2 : ((d.toNat : Int) == 10) = false := by
            have : ¬ d.toNat = 10 := fun h => hd (UInt8.toNat_inj.1 h)
            simp; omega
          have e3 : (d == 10) = false := by simpa using hd
          go_enter Tryd.func33, Tryd.ntmps33
          go_wp2
          go_ret
          exact ⟨by first | rfl | simp [e3], Kp.refl _ _⟩
      · have e2 : ((b.toNat : Int) == 13) = false := by
          have : ¬ b.toNat = 13 := fun h => hb (UInt8.toNat_inj.1 h)
          simp; omega
        have e3 : (b == 13) = false := by simpa using hb
        go_enter Tryd.func33, Tryd.ntmps33
        go_wp2
        go_ret
        exact ⟨by first | rfl | simp [e3], Kp.refl _ _⟩

theorem rwhole_calls (v : Value) (r : Option Nat) (l : List UInt8) (w : World) (h : Rd w v r (byv l)) (hl : l.length ≤ 70368744177000) :
    Calls Tryd.prog 21 #[v] w fun e w' => ∃ v1 r1, e = .returned v1 ∧ Own w' 5 1 v1 r1 (wholeF l).length (byv (wholeF l)) ∧ (∀ k, r1 = some k → w.heap.size ≤ k) ∧ Kp Non w w' := by
  have hE := (Kp.refl Non w).alloc (.cells #[] 5)
  have oE := Own.lit w 5 1 #[] 0 rfl (by simp [maxLen])
  have HS := hid ((h.keep hE).src Tryd.underlying29 (byv_one l))
  have h0 := h
  obtain ⟨A, c, rfl, _, _, _⟩ := h
  simp only [byv_length] at HS ⊢
  clear h0
  go_enter Tryd.func21, Tryd.ntmps21
  go_wp2_with (at_builtin; go_must (refine wpList_append_any rfl _ _ _ _ rfl 5 (.int .u8 0) 1 1 Tryd.underlying29 info8 rfl _ (some w.heap.size) 0 [] rfl oE _ l.length (byv l) rfl ?hs (by omega) (by omega) ?_))
  case hs => exact HS.out
  intro v1 r1 w1 o1 k1 n1
  have hn1 : ∀ k, r1 = some k → w.heap.size ≤ k := fun k hk => (n1 k hk).elim (fun h => by cases h; exact Nat.le_refl _) (fun h => by have := hE.size; omega)
  have K1 : Kp Non w w1 := hE.trans k1 (fun i hi => .inr (by cases hi; exact Nat.le_refl _))
  have o1' : Own w1 5 1 v1 r1 l.length (byv l) := by simpa using o1
  have HO1 := hid o1'
  obtain ⟨c1, d1, rfl, _, _⟩ := o1'.form
  clear o1 o1' oE n1 k1 hE
  go_wp2_with fail
  refine (ends_calls _ r1 l _ HO1.out.rd).mono ?_
  rintro e w2 ⟨rfl, k2⟩
  by_cases hw : l = [] ∨ suf [13, 10] l = true
  · have hwf : wholeF l = l := if_pos hw
    have HWF := hid hwf
    clear hwf
    by_cases hl0 : l = []
    · subst hl0
      go_wp2_with fail
      go_ret
      exact ⟨_, r1, rfl, by rw [HWF.out]; exact HO1.out.keep k2, hn1, K1.seq k2⟩
    · have hs : suf [13, 10] l = true := hw.resolve_left hl0
      have hl1 : (0 : Int) < l.length := by have := List.length_pos_iff.2 hl0; omega
      rw [hs]
      clear hs hw hl0
      go_wp2_with fail
      go_ret
      exact ⟨_, r1, rfl, by rw [HWF.out]; exact HO1.out.keep k2, hn1, K1.seq k2⟩
  · have hwf : wholeF l = l ++ [13, 10] := if_neg hw
    have hl0 : ¬ l = [] := fun h => hw (.inl h)
    have hs : suf [13, 10] l = false := by simpa using fun h => hw (.inr h)
    have hl1 : (0 : Int) < l.length := by have := List.length_pos_iff.2 hl0; omega
    have HWF := hid hwf
    rw [hs]
    clear hs hw hl0 hwf
    have hA := (Kp.refl Non w2).alloc (.cells #[.int .u8 13, .int .u8 10] 5)
    have oA := Own.lit w2 5 1 #[.int .u8 13, .int .u8 10] 2 rfl (by simp [maxLen])
    have HS2 := hid (oA.rd.src Tryd.underlying29 (by simp [Value.oneCell']))
    have HO2 := hid ((HO1.out.keep k2).keep hA)
    clear oA
    go_wp2_with (at_builtin; go_must (refine wpList_append_any rfl _ _ _ _ rfl 5 (.int .u8 0) 1 1 Tryd.underlying29 info8 rfl _ r1 l.length (byv l) rfl ?ho _ 2 (byv [13, 10]) rfl ?hs (by omega) (by omega) ?_))
    case ho => exact HO2.out
    case hs => exact HS2.out
    intro v3 r3 w3 o3 k3 n3
    have HO3 := hid o3
    obtain ⟨c3, d3, rfl, _, _⟩ := o3.form
    have hn3 : ∀ k, r3 = some k → w.heap.size ≤ k := fun k hk => (n3 k hk).elim (hn1 k) (fun h => by have := hA.size; have := k2.size; have := K1.size; omega)
    have K3 : Kp Non w w3 := ((K1.seq k2).seq hA).trans k3 (fun i hi => .inr (hn1 i hi))
    clear o3 n3 k3
    go_wp2_with fail
    go_ret
    exact ⟨_, r3, rfl, by rw [HWF.out, List.length_append, byv_append]; exact HO3.out, hn3, K3⟩

end Go.Proofs.YtghfngnakoccbaaDoor

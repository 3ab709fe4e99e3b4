/- The buffer's Bytes; a payload split behind each end of a line; what is done with each line; Put. -/
import Derived.Test.YtghfngnakoccbaaDoorStuff4
import Derived.Lib.SlSplitV
namespace Go.Proofs.YtghfngnakoccbaaDoor
open Go.RowKit
set_option linter.unusedSimpArgs false
set_option linter.unusedVariables false
attribute [local go_sem] max2_of min2_of max_of min_of
attribute [local go_sem] strOf_size strOf_list

theorem bufbytes_calls (b : Nat) (r : Option Nat) (l : List UInt8) (w : World) (h : Buf w b r l) :
    Calls Tryd.prog 30 #[.pointer (some ⟨b, 0, none⟩)] w fun e w' => ∃ v, e = .returned v ∧ Own w' 5 1 v r l.length (byv l) ∧ Kp Non w w' := by
  rcases h with ⟨rfl, rfl, lr, hb⟩ | ⟨g, cap, cur, lr, rfl, hb, ht⟩
  · have c0 := hb.cell 0
    have c1 := hb.cell 1
    simp at c0 c1
    have e0 : ∀ w', Kp Non w.drew w' → w'.cell? ⟨b, 0, none⟩ = some (.slice none 0 0) := fun w' hk => hk.cell c0 (fun x => x)
    have e1 : ∀ w', Kp Non w.drew w' → w'.cell? ⟨b, 1, none⟩ = some (.int .i64 0) := fun w' hk => hk.cell c1 (fun x => x)
    go_enter Tryd.func30, Tryd.ntmps30
    go_wp2
    refine wp_region_seq [(0, true), (1, true), (2, true), (3, true), (4, true), (5, true), (6, true), (7, true), (8, true), (9, true)] 10 Non wide (by kernel_rfl) (fun _ _ _ _ _ h => h) ?_; (try simp only [List.append_eq, List.cons_append, List.nil_append])
    repeat (refine seq_still (v := ?_) rfl rfl (fun wq hq => ?_) ?_; rotate_left; (focus ((simp only [List.getElem_toArray, List.getElem_cons_zero, List.getElem_cons_succ]; go_simp; try with_reducible rfl); done)); simp only [List.getElem_toArray, List.getElem_cons_zero, List.getElem_cons_succ, Act.put, List.setIfInBounds_toArray, List.set_cons_zero, List.set_cons_succ])
    refine seq_nil ?_
    clear e0 e1
    go_wp2
    go_ret
    exact ⟨_, rfl, Own.nil _ _ _ _, (Kp.refl _ _).drew⟩
  · have hcm := hb.2.2.2.1
    have hlc := hb.2.2.2.2
    have hcm' := hcm
    unfold maxLen at hcm'
    have c0 := hb.1.cell 0
    have c1 := hb.1.cell 1
    simp at c0 c1
    have e0 : ∀ w', Kp Non w.drew w' → w'.cell? ⟨b, 0, none⟩ = some (.slice (some ⟨g, 0, none⟩) l.length cap) := fun w' hk => hk.cell c0 (fun x => x)
    have e1 : ∀ w', Kp Non w.drew w' → w'.cell? ⟨b, 1, none⟩ = some (.int .i64 0) := fun w' hk => hk.cell c1 (fun x => x)
    go_enter Tryd.func30, Tryd.ntmps30
    go_wp2
    refine wp_region_seq [(0, true), (1, true), (2, true), (3, true), (4, true), (5, true), (6, true), (7, true), (8, true), (9, true)] 10 Non wide (by kernel_rfl) (fun _ _ _ _ _ h => h) ?_; (try simp only [List.append_eq, List.cons_append, List.nil_append])
    repeat (refine seq_still (v := ?_) rfl rfl (fun wq hq => ?_) ?_; rotate_left; (focus ((simp only [List.getElem_toArray, List.getElem_cons_zero, List.getElem_cons_succ]; go_simp; try with_reducible rfl); done)); simp only [List.getElem_toArray, List.getElem_cons_zero, List.getElem_cons_succ, Act.put, List.setIfInBounds_toArray, List.set_cons_zero, List.set_cons_succ])
    refine seq_nil ?_
    clear e0 e1
    go_wp2
    go_ret
    refine ⟨_, rfl, ⟨by simp [byv_length], .inr ⟨g, cap, cur, rfl, rfl, hb.2.1.drew, hlc, hcm, by rw [hb.2.2.1]; omega, ?_⟩⟩, (Kp.refl _ _).drew⟩
    rw [Nat.mul_one]; exact ht

/-! ### Split behind each end -/
def crlf : List UInt8 := [13, 10]
def piecesF (l : List UInt8) : List (List UInt8) := Lib.splitK crlf 2 (Lib.count l crlf) l

theorem pieces_rec (l : List UInt8) : (Lib.index l crlf = -1 ∧ piecesF l = [l] ∧ Lib.count l crlf = 0) ∨
    ∃ i : Nat, Lib.index l crlf = i ∧ i + 2 ≤ l.length ∧ piecesF l = l.take (i + 2) :: piecesF (l.drop (i + 2)) ∧ Lib.count l crlf = 1 + Lib.count (l.drop (i + 2)) crlf := by
  have hge := Lib.index_ge l crlf
  by_cases h : Lib.index l crlf = -1
  · left
    have hc := Lib.count_miss h
    refine ⟨h, ?_, hc⟩
    unfold piecesF
    rw [hc]; rfl
  · right
    have hroom := Lib.index_room l crlf (by omega)
    obtain ⟨i, hi⟩ : ∃ i : Nat, Lib.index l crlf = i := ⟨(Lib.index l crlf).toNat, by omega⟩
    have hc := Lib.count_hit (s := l) (sub := crlf) (by decide) hi
    have hlen : crlf.length = 2 := rfl
    rw [hlen] at hc
    refine ⟨i, hi, by rw [hi, hlen] at hroom; omega, ?_, hc⟩
    unfold piecesF
    rw [hc, Nat.add_comm 1, Lib.splitK, if_neg (fun e => h (beq_iff_eq.1 e)), hi, hlen]
    rfl
theorem pieces_length : ∀ (n : Nat) (l : List UInt8), l.length ≤ n → (piecesF l).length = Lib.count l crlf + 1 := by
  intro n
  induction n with
  | zero =>
    intro l hl
    rcases pieces_rec l with ⟨_, h2, h3⟩ | ⟨i, h1, h2, _⟩
    · rw [h2, h3]; rfl
    · omega
  | succ n ih =>
    intro l hl
    rcases pieces_rec l with ⟨_, h2, h3⟩ | ⟨i, h1, h2, h3, h4⟩
    · rw [h2, h3]; rfl
    · rw [h3, h4, List.length_cons, ih _ (by rw [List.length_drop]; omega)]; omega

theorem bytesOf_nums (l : List UInt8) : Lib.bytesOf (l.map fun b => (b.toNat : Int)) = l := by
  unfold Lib.bytesOf
  rw [List.map_map]
  conv => rhs; rw [← List.map_id l]
  exact List.map_congr_left fun b _ => by simp
theorem splitV_cap (sep : List UInt8) (hsep : 2 ≤ sep.length) : ∀ (k : Nat) (a : Addr) (cap : Nat) (l : List UInt8), l.length ≤ cap → ∀ v ∈ Lib.splitV sep 2 k a cap l, ∃ a' n c, v = .slice a' n c ∧ c ≤ cap := by
  intro k
  induction k with
  | zero =>
    intro a cap l hl v hv
    simp only [Lib.splitV, List.mem_singleton] at hv
    exact ⟨_, _, _, hv, Nat.le_refl _⟩
  | succ k ih =>
    intro a cap l hl v hv
    unfold Lib.splitV at hv
    split at hv
    · simp only [List.mem_singleton] at hv
      exact ⟨_, _, _, hv, Nat.le_refl _⟩
    · rename_i hm
      have hne : Lib.index l sep ≠ -1 := fun e => hm (beq_iff_eq.2 e)
      have hge := Lib.index_ge l sep
      have hroom := Lib.index_room l sep (by omega)
      rcases List.mem_cons.1 hv with rfl | hv
      · exact ⟨_, _, _, rfl, by omega⟩
      · obtain ⟨a', n, c, e, hc⟩ := ih _ _ _ (by rw [List.length_drop]; omega) v hv
        exact ⟨a', n, c, e, by omega⟩

theorem split_calls (v : Value) (r : Option Nat) (l : List UInt8) (v2 : Value) (r2 : Option Nat) (m : Int) (w : World) (h : Own w 5 1 v r l.length (byv l)) (h2 : Rd w v2 r2 (byv crlf)) (hl : l.length < 4294967281) (hm : w.cell? ⟨1, 0, none⟩ = some (.int .i64 m)) :
    Calls Tryd.prog 25 #[v, v2] w fun e w' => ∃ vs : List Value, e = .returned (.slice (some ⟨w.heap.size, 0, none⟩) vs.length vs.length) ∧ Blk w' w.heap.size vs.toArray 29 ∧ vs.length = (piecesF l).length ∧
      (∀ (j : Nat) (u : Value) (p : List UInt8), vs[j]? = some u → (piecesF l)[j]? = some p → Rd w u r (byv p)) ∧ Kp Non w w' := by
  obtain ⟨A2, c2, rfl, _, hc2, hx2⟩ := h2
  obtain ⟨b2, o2, rfl, hy2⟩ : ∃ b2 o2, A2 = some ⟨b2, o2, none⟩ ∧ ∀ (j : Nat) (u : Value), (byv crlf)[j]? = some u → w.cell? ⟨b2, o2 + j, none⟩ = some u := by
    rcases hx2 with hx2 | ⟨b2, o2, hA, _, hx⟩
    · cases hx2
    · exact ⟨b2, o2, hA, hx⟩
  clear hx2
  have hrd := h.rd
  rcases h.2 with ⟨rfl, h0, A, rfl⟩ | ⟨g, cap, cur, rfl, rfl, hb, h3, h4, h5, h6⟩
  · obtain rfl : l = [] := List.eq_nil_of_length_eq_zero h0
    have hp : piecesF [] = [[]] := by
      unfold piecesF
      rw [Lib.count_miss (by decide)]; rfl
    rcases A with _ | a
    · refine (Tryd.bytes_SplitAfter_nil (some ⟨b2, o2, none⟩) 2 c2 w (by omega) (by omega) (fun h => by omega)).mono ?_
      rintro e w1 ⟨rfl, rfl⟩
      refine ⟨[.slice none 0 0], rfl, Blk.new w _ _, by rw [hp]; rfl, fun j u p hj hq => ?_, (Kp.refl Non w).alloc _⟩
      rw [hp] at hq
      cases j with
      | zero => simp at hj hq; subst hj hq; exact Rd.nil _ _ _ (by simp [maxLen]) _
      | succ j => simp at hj
    · refine (Tryd.bytes_SplitAfter a ⟨b2, o2, none⟩ 0 0 2 c2 [] (crlf.map fun b => (b.toNat : Int)) m w rfl rfl (by simp) (by decide) (fun i hi => by omega) (fun i hi => ?_) (by omega) (by omega) (by omega) (by omega) (by omega) hm).mono ?_
      · rw [addr_add]
        have : i = 0 ∨ i = 1 := by omega
        rcases this with rfl | rfl
        · exact hy2 0 _ rfl
        · exact hy2 1 _ rfl
      rintro e w1 ⟨rfl, q, rfl⟩
      rw [bytesOf_nums, show Lib.bytesOf ([] : List Int) = [] from rfl, Lib.count_miss (show Lib.index [] crlf = -1 by decide)]
      refine ⟨[.slice (some a) 0 0], rfl, (Blk.new w _ _).drewN q, by rw [hp]; rfl, fun j u p hj hq => ?_, ((Kp.refl Non w).alloc _).drewN q⟩
      rw [hp] at hq
      cases j with
      | zero => simp at hj hq; subst hj hq; exact Rd.nil _ _ _ (by simp [maxLen]) _
      | succ j => simp at hj
  · have hcell : ∀ i, i < l.length → w.cell? ((⟨g, 0, none⟩ : Addr).add i) = some (.int .u8 ((l.map fun b => (b.toNat : Int)).getD i 0)) := fun i hi => by
      rw [addr_add, hb.cell, Nat.zero_add]
      have : (cur.toList.take (l.length * 1))[i]? = (byv l)[i]? := by rw [h6]
      rw [List.getElem?_take, if_pos (by omega), byv_get] at this
      rw [← Array.getElem?_toList, this]
      simp [List.getD, List.getElem?_eq_getElem hi]
    refine (Tryd.bytes_SplitAfter ⟨g, 0, none⟩ ⟨b2, o2, none⟩ l.length cap 2 c2 (l.map fun b => (b.toNat : Int)) (crlf.map fun b => (b.toNat : Int)) m w (by simp) rfl ?_ (by decide) hcell (fun i hi => ?_) h3 hl (by omega) (by unfold maxLen at h4; omega) (by omega) hm).mono ?_
    · intro x hx
      obtain ⟨b, _, rfl⟩ := List.mem_map.1 hx
      have := UInt8.toNat_lt b
      omega
    · rw [addr_add]
      have : i = 0 ∨ i = 1 := by omega
      rcases this with rfl | rfl
      · exact hy2 0 _ rfl
      · exact hy2 1 _ rfl
    rintro e w1 ⟨rfl, q, rfl⟩
    rw [bytesOf_nums, bytesOf_nums]
    have hlen := Lib.splitV_length crlf 2 (Lib.count l crlf) ⟨g, 0, none⟩ cap l
    have hcl : (Lib.splitV crlf 2 (Lib.count l crlf) ⟨g, 0, none⟩ cap l).length = Lib.count l crlf + 1 := by
      rw [hlen]
      exact pieces_length l.length l (Nat.le_refl _)
    refine ⟨Lib.splitV crlf 2 (Lib.count l crlf) ⟨g, 0, none⟩ cap l, by rw [hcl], (Blk.new w _ _).drewN q, hlen, fun j u p hj hq => ?_, ((Kp.refl Non w).alloc _).drewN q⟩
    obtain ⟨a', off, len, cp, rfl, e1, e2, e3, e4⟩ := Lib.splitV_spec crlf 2 (by decide) (by decide) (Lib.count l crlf) ⟨g, 0, none⟩ cap l h3 j u hj
    obtain ⟨a2, n2, cc, e5, e6⟩ := splitV_cap crlf (by decide) _ _ cap l h3 _ (List.mem_of_getElem? hj)
    cases e5
    unfold piecesF at hq
    rw [e3] at hq
    simp only [Option.some.injEq] at hq
    subst hq
    have hpl : ((l.drop off).take len).length = len := by rw [List.length_take, List.length_drop]; omega
    refine ⟨some a', cp, by rw [byv_length, hpl], by rw [byv_length, hpl]; exact e1, by omega, ?_⟩
    by_cases h0 : len = 0
    · left
      subst h0
      simp [byv]
    · right
      have ha : a' = ⟨g, off, none⟩ := by
        have := e4 0 (by omega)
        rw [addr_add] at this
        simpa [Addr.add] using this
      refine ⟨g, off, by rw [ha], rfl, fun j u hj => ?_⟩
      rw [← byv_take, ← byv_drop, List.getElem?_take] at hj
      split at hj
      · rw [List.getElem?_drop] at hj
        obtain ⟨A3, c3, e7, _, _, hx⟩ := hrd
        rcases hx with hx | ⟨bk, o3, e8, _, hx⟩
        · rw [hx] at hj; simp at hj
        · simp only [Value.slice.injEq] at e7
          obtain ⟨rfl, _, _⟩ := e7
          cases e8
          have := hx _ _ hj
          rwa [Nat.zero_add] at this
      · cases hj

end Go.Proofs.YtghfngnakoccbaaDoor

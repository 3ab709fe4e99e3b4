/- Put. -/
import Derived.Test.YtghfngnakoccbaaDoorStuff5
namespace Go.Proofs.YtghfngnakoccbaaDoor
open Go.RowKit
set_option linter.unusedSimpArgs false
set_option linter.unusedVariables false
attribute [local go_sem] max2_of min2_of max_of min_of
attribute [local go_sem] strOf_size strOf_list

/-- A line, with a dot ahead of it where it begins by one. -/
def dotF (p : List UInt8) : List UInt8 := (if pre [46] p = true then [46] else []) ++ p
def putF (l : List UInt8) : List UInt8 := ((piecesF (wholeF l)).map dotF).flatten ++ [46, 13, 10]

theorem dotF_length (p : List UInt8) : (dotF p).length ≤ p.length + 1 := by
  unfold dotF
  split
  · simp
  · simp
theorem dotF_yes {p : List UInt8} (h : pre [46] p = true) : dotF p = [46] ++ p := by unfold dotF; rw [if_pos h]
theorem dotF_no {p : List UInt8} (h : pre [46] p = false) : dotF p = p := by unfold dotF; rw [if_neg (by rw [h]; simp)]; rfl

set_option maxHeartbeats 1000000 in
theorem each_calls (b : Nat) (r : Option Nat) (l : List UInt8) (v : Value) (rv : Option Nat) (p : List UInt8) (w : World) (h : Buf w b r l) (hv : Rd w v rv (byv p)) (hvb : ∀ k, rv = some k → k ≠ b ∧ r ≠ some k ∧ k < w.heap.size) (hl : l.length + p.length ≤ 70368744170000) :
    Calls Tryd.prog 26 #[v, .pointer (some ⟨b, 0, none⟩)] w fun e w' => e = .returned (.tuple #[]) ∧ ∃ r', Buf w' b r' (l ++ dotF p) ∧ New w r r' ∧ Kp (Two b r) w w' := by
  have kc := fun (w : World) (C : Array Value) (n c : Nat) => Lib.run_convert_bytes_const (P := Tryd.prog) w 29 5 C n c Tryd.underlying29 Tryd.underlying5
  have hA := (Kp.refl Non w).alloc (.cells #[.int .u8 46] 5 (1, 2))
  have HV := hid hv
  have HB := hid h
  obtain ⟨A, c, rfl, _⟩ := hv
  simp only [byv_length] at HV ⊢
  go_enter Tryd.func26, Tryd.ntmps26
  go_wp2_with fail
  refine (hasPrefix_calls _ _ rv _ p [46] _ (HV.out.keep hA) (Rd.const w 5 (1, 2) [46] _ 1 rfl rfl (by decide))).mono ?_
  rintro e w1 ⟨rfl, k1⟩
  have K1 := hA.seq k1
  clear hA k1
  have HB1 := hid (HB.out.keep K1)
  by_cases hp : pre [46] p = true
  · rw [hp]
    have HPP := hid hp
    clear hp
    go_wp2_with fail
    refine (bwrites_calls b r l [46] _ HB1.out (by simp; omega)).mono ?_
    rintro e w2 ⟨rfl, r2, hB2, n2, k2⟩
    have hv2 := (HV.out.keep K1).kp k2 (fun k hk h => by
      rcases h with h | h
      · exact (hvb k hk).1 h
      · exact (hvb k hk).2.1 h)
    have HB2 := hid (And.intro hB2 (And.intro n2 k2))
    clear hB2 n2 k2
    go_wp2_with fail
    refine (bwrite_calls b r2 (l ++ [46]) A c rv p _ HB2.out.1 hv2 (fun k hk => (hvb k hk).1) (by simp; omega)).mono ?_
    rintro e w3 ⟨rfl, r3, hB3, n3, k3⟩
    obtain ⟨_, n2, k2⟩ := HB2.out
    have HB3 := hid (And.intro hB3 (And.intro n3 k3))
    clear hB3 n3 k3
    go_wp2_with fail
    go_end0
    obtain ⟨hB3, n3, k3⟩ := HB3.out
    refine ⟨rfl, r3, by rw [dotF_yes HPP.out, ← List.append_assoc]; exact hB3, fun k hk => ?_, ?_⟩
    · rcases n3 k hk with h | h
      · rcases n2 k h with h | h
        · exact .inl h
        · exact .inr (Nat.le_trans K1.size h)
      · exact .inr (Nat.le_trans (Nat.le_trans K1.size k2.size) h)
    · refine (K1.any.trans k2 (fun i hi => .inl hi)).trans k3 (fun i hi => ?_)
      rcases hi with hi | hi
      · exact .inl (.inl hi)
      · rcases n2 i hi with h | h
        · exact .inl (.inr h)
        · exact .inr (Nat.le_trans K1.size h)
  · have hp' : pre [46] p = false := by simpa using hp
    rw [hp']
    have HPP := hid hp'
    clear hp hp'
    go_wp2_with fail
    refine (bwrite_calls b r l A c rv p _ HB1.out (HV.out.keep K1) (fun k hk => (hvb k hk).1) (by omega)).mono ?_
    rintro e w3 ⟨rfl, r3, hB3, n3, k3⟩
    have HB3 := hid (And.intro hB3 (And.intro n3 k3))
    clear hB3 n3 k3
    go_wp2_with fail
    go_end0
    obtain ⟨hB3, n3, k3⟩ := HB3.out
    exact ⟨rfl, r3, by rw [dotF_no HPP.out]; exact hB3, fun k hk => (n3 k hk).imp id (fun h => Nat.le_trans K1.size h), K1.any.trans k3 (fun i hi => .inl hi)⟩

theorem pieces_le : ∀ (n : Nat) (l : List UInt8), l.length ≤ n → ∀ j, (((piecesF l).take j).map dotF).flatten.length ≤ 2 * l.length + 1 ∧ ∀ p ∈ piecesF l, p.length ≤ l.length := by
  intro n
  induction n with
  | zero =>
    intro l hl j
    obtain rfl : l = [] := List.eq_nil_of_length_eq_zero (by omega)
    rw [show piecesF [] = [[]] by unfold piecesF; rw [Lib.count_miss (by decide)]; rfl]
    cases j with
    | zero => simp
    | succ j => simp [dotF, pre]
  | succ n ih =>
    intro l hl j
    rcases pieces_rec l with ⟨_, h2, h3⟩ | ⟨i, h1, h2, h3, h4⟩
    · rw [h2]
      have := dotF_length l
      cases j with
      | zero => simp
      | succ j => simp; omega
    · rw [h3]
      have hd : (l.drop (i + 2)).length = l.length - (i + 2) := List.length_drop
      have ht : (l.take (i + 2)).length = i + 2 := by rw [List.length_take]; omega
      have h5 := fun j => ih (l.drop (i + 2)) (by omega) j
      have := dotF_length (l.take (i + 2))
      cases j with
      | zero =>
        refine ⟨by simp, fun p hp => ?_⟩
        rcases List.mem_cons.1 hp with rfl | hp
        · omega
        · have := (h5 0).2 p hp; omega
      | succ j =>
        refine ⟨?_, fun p hp => ?_⟩
        · have := (h5 j).1
          simp only [List.take_succ_cons, List.map_cons, List.flatten_cons, List.length_append]
          omega
        · rcases List.mem_cons.1 hp with rfl | hp
          · omega
          · have := (h5 0).2 p hp; omega

def PInv (w2 : World) (b n : Nat) (ps : List (List UInt8)) (iv : Value) (wr : World) : Prop :=
  ∃ (j : Nat) (r' : Option Nat), iv = .int .i64 j ∧ j ≤ n ∧ Buf wr b r' ((ps.take j).map dotF).flatten ∧ (∀ k, r' = some k → w2.heap.size ≤ k) ∧ Kp (One b) w2 wr

theorem put_calls (v : Value) (r : Option Nat) (l : List UInt8) (m : Int) (w : World) (h : Rd w v r (byv l)) (hl : l.length ≤ 1000000) (hm : w.cell? ⟨1, 0, none⟩ = some (.int .i64 m)) :
    Calls Tryd.prog 16 #[v] w fun e w' => ∃ v1 r1, e = .returned v1 ∧ Own w' 5 1 v1 r1 (putF l).length (byv (putF l)) ∧ (∀ k, r1 = some k → w.heap.size ≤ k) ∧ Kp Non w w' := by
  have kc := fun (w : World) (C : Array Value) (n c : Nat) => Lib.run_convert_bytes_const (P := Tryd.prog) w 29 5 C n c Tryd.underlying29 Tryd.underlying5
  have hA := (Kp.refl Non w).alloc (.cells #[.slice none 0 0, .int .i64 0, .int .i8 0] 53)
  have hB := Buf.fresh w
  go_enter Tryd.func16, Tryd.ntmps16
  go_wp2_with fail
  refine (whole_calls v r l _ (h.keep hA) (by omega)).mono ?_
  rintro e w1 ⟨v1, r1, rfl, o1, n1, k1⟩
  have hB1 := hB.keep k1
  have K1 := hA.seq k1
  go_wp2_with fail
  have hA2 := (Kp.refl Non w1).alloc (.cells #[.int .u8 13, .int .u8 10] 5 (2, 3))
  have hwl : (wholeF l).length ≤ 1000002 := by
    unfold wholeF
    split
    · omega
    · rw [List.length_append, List.length_cons, List.length_cons, List.length_nil]; omega
  refine (split_calls v1 r1 (wholeF l) _ _ m _ (o1.keep hA2) (Rd.const w1 5 (2, 3) [13, 10] _ 2 rfl rfl (by decide)) (by omega) (hA2.cell (K1.cell hm (fun x => x)) (fun x => x))).mono ?_
  rintro e w2 ⟨vs, rfl, hvs, hvl, hvr, k2⟩
  have hB2 := (hB1.keep hA2).keep k2
  have K2 := (K1.seq hA2).seq k2
  have hbB : w.heap.size ≠ (w1.alloc (.cells #[.int .u8 13, .int .u8 10] 5 (2, 3))).heap.size := by
    have := K1.size; have := hA2.size; have := hB1.lt
    omega
  generalize (w1.alloc (.cells #[.int .u8 13, .int .u8 10] 5 (2, 3))).heap.size = B2 at hvs hbB ⊢
  have Hvr := hid hvr
  have Hm := hid hm
  have HO := hid o1
  clear hvr hm o1 h
  have hvn : vs.length ≤ 1000010 := by
    rw [hvl, pieces_length _ _ (Nat.le_refl _)]
    have := Lib.count_le (wholeF l) crlf
    omega
  have hput : putF l = ((piecesF (wholeF l)).map dotF).flatten ++ [46, 13, 10] := rfl
  have hple := fun j => pieces_le (wholeF l).length (wholeF l) (Nat.le_refl _) j
  have Hrlt := hid (fun k (hk : r1 = some k) => And.intro (n1 k hk) (HO.out.lt k hk))
  clear n1
  generalize piecesF (wholeF l) = ps at hvl Hvr hput hple
  have HP := hid (And.intro hput hple)
  have HVL := hid hvl
  clear hput hple hvl
  go_wp2_with fail
  go_loopw [16] (fun iv wr => PInv w2 w.heap.size vs.length ps iv wr) (fun iv _ => vs.length - (intOf iv).toNat)
  case atStart => exact ⟨0, none, rfl, by omega, hB2, (fun k hk => by cases hk), Kp.refl _ _⟩
  case round =>
    obtain ⟨j, r', rfl, hj, hbuf, hr', kr⟩ := hrel
    by_cases hlt : j < vs.length
    · have c0 := (hvs.kp kr (fun e => hbB e.symm)).cell j
      rw [List.getElem?_toArray, List.getElem?_eq_getElem hlt] at c0
      go_wp2_with fail
      have hjp : j < ps.length := by rw [← HVL.out]; exact hlt
      obtain ⟨rp, hrp, hrpl⟩ : ∃ rp, Rd (w1.alloc (.cells #[.int .u8 13, .int .u8 10] 5 (2, 3))) vs[j] rp (byv ps[j]) ∧ ∀ k, rp = some k → (w.heap.size + 1 ≤ k ∧ k < w1.heap.size) :=
        ⟨r1, Hvr.out j _ _ (List.getElem?_eq_getElem hlt) (List.getElem?_eq_getElem hjp), fun k hk => by have := Hrlt.out k hk; simp at this; omega⟩
      have hs1 := hA2.size
      have hs2 := k2.size
      have hs3 := kr.size
      have hle := HP.out.2 j
      have hlen := hle.2 ps[j] (List.getElem_mem hjp)
      refine (each_calls w.heap.size r' _ _ rp ps[j] _ hbuf ((hrp.keep k2).kp kr (fun k hk h => by have := hrpl k hk; cases h; omega)) (fun k hk => ⟨by have := hrpl k hk; omega, fun h => by have := hr' k h; have := hrpl k hk; omega, by have := hrpl k hk; omega⟩) (by have := hle.1; omega)).mono ?_
      rintro e w4 ⟨rfl, r4, hB4, n4, k4⟩
      have HH := hid (And.intro hB4 (And.intro n4 k4))
      clear hB4 n4 k4 hle hlen
      go_wp2_with fail
      go_roundw
      case rel =>
        obtain ⟨hB4, n4, k4⟩ := HH.out
        refine ⟨j + 1, r4, by go_num, by omega, ?_, fun k hk => (n4 k hk).elim (hr' k) (fun h => by omega), kr.trans k4 (fun i hi => hi.elim .inl (fun h => .inr (hr' i h)))⟩
        rw [List.take_add_one, List.getElem?_eq_getElem hjp, List.map_append, List.flatten_append]
        simpa using hB4
      case measure => simp [intOf]; omega
    · have hje : j = vs.length := by omega
      have hall : ps.take j = ps := List.take_of_length_le (by rw [hje, HVL.out]; exact Nat.le_refl _)
      rw [hall] at hbuf
      have hle := (HP.out.2 ps.length).1
      rw [List.take_length] at hle
      have hs1 := hA2.size
      have hs2 := k2.size
      clear hall
      go_wp2_with fail
      refine (bwrites_calls w.heap.size r' _ [46, 13, 10] _ hbuf (by simp only [List.length_cons, List.length_nil]; omega)).mono ?_
      rintro e w4 ⟨rfl, r4, hB4, n4, k4⟩
      rw [← HP.out.1] at hB4
      have HH := hid (And.intro n4 k4)
      clear n4 k4 hle
      go_wp2_with fail
      refine (bufbytes_calls w.heap.size r4 _ _ hB4).mono ?_
      rintro e w5 ⟨v5, rfl, o5, k5⟩
      have HO5 := hid o5
      clear o5 hB4
      go_wp2_with fail
      go_ret
      obtain ⟨n4, k4⟩ := HH.out
      have hs4 := K2.size
      refine ⟨v5, r4, rfl, HO5.out, fun k hk => (n4 k hk).elim (fun h => by have := hr' k h; omega) (fun h => by have := kr.size; omega), ?_⟩
      refine ((K2.trans kr (fun i hi => .inr (by cases hi; exact Nat.le_refl _))).trans k4 (fun i hi => .inr ?_)).seq k5
      rcases hi with hi | hi
      · cases hi; exact Nat.le_refl _
      · have := hr' i hi; omega

end Go.Proofs.YtghfngnakoccbaaDoor

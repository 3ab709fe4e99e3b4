/- The walk of StuffLines: it answers true and writes nothing that was there. -/
import Derived.Test.YtghfngnakoccbaaDoorSPure2
namespace Go.Proofs.YtghfngnakoccbaaDoor
open Go.RowKit
set_option linter.unusedSimpArgs false
set_option linter.unusedVariables false
attribute [local go_sem] max2_of min2_of max_of min_of
attribute [local go_sem] strOf_size strOf_list

def WLInv (w : World) (S W : List UInt8) (av iv : Value) (wr : World) : Prop :=
  ∃ (j : Nat) (B : List UInt8), av = .string (strOf B) ∧ iv = .int .i64 j ∧ j ≤ S.length ∧ B.length ≤ j ∧ B ++ uns (bgP (S.take j)) (crP (S.take j)) (S.drop j) = W ∧ okd (bgP (S.take j)) (crP (S.take j)) (S.drop j) ∧ Kp Non w wr

set_option maxRecDepth 100000 in
set_option maxHeartbeats 8000000 in
theorem slines_walk (v : Value) (r : Option Nat) (l0 : List UInt8) (mx : Int) (w : World) (hv : Rd w v r (byv l0)) (hm : w.cell? ⟨1, 0, none⟩ = some (.int .i64 mx)) :
    Calls Tryd.prog 5 #[v] w fun e w' => e = .returned (.bool true) ∧ Kp Non w w' := by
  obtain ⟨r, hv, hrlt⟩ := hv.bound
  go_enter Tryd.func5, Tryd.ntmps5
  go_wp2_with fail
  refine (shown_calls mx _ hm).mono ?_
  rintro e w1 ⟨rfl, k1⟩
  go_wp2_with fail
  refine (short_calls v r l0 _ (hv.keep k1)).mono ?_
  rintro e w2 ⟨V, rfl, hV, k2⟩
  have hl6 : (l0.take 600).length ≤ 600 := by simp; omega
  generalize l0.take 600 = l at hV hl6
  have K2 := k1.seq k2
  have hm2 := K2.cell hm (fun x => x)
  have HV := hid hV
  have s1 := hV.str 29 5 9 Tryd.underlying29 Tryd.underlying5 Tryd.underlying9
  obtain ⟨A, c, rfl, _, _, _⟩ := hV
  simp only [byv_length] at HV s1 ⊢
  clear hv k1 k2 hm
  go_wp2_with fail
  refine (put_calls _ r l mx _ HV.out (by omega) hm2).mono ?_
  rintro e w3 ⟨v3, r3, rfl, o3, n3, k3⟩
  have s3 := o3.rd.str 29 5 9 Tryd.underlying29 Tryd.underlying5 Tryd.underlying9
  have s4 := (HV.out.keep k3).str 29 5 9 Tryd.underlying29 Tryd.underlying5 Tryd.underlying9
  have HV3 := hid (HV.out.keep k3)
  have K3 := K2.seq k3
  clear o3 n3 hm2 K2 k3 HV s1
  have hput := putF_eq l
  obtain ⟨hu, ho⟩ := uns_stf (wholeF l) true false
  have hn1 := wholeF_le l
  have hn2 := stf_len (wholeF l) true false
  have hnil : stf true false (wholeF l) = [] ↔ l = [] := stf_nil.trans wholeF_nil
  have HW := hid (Eq.refl (wholeF l))
  generalize hW : wholeF l = W at hput hu ho hn1 hn2 hnil
  have HWW := hid hW
  clear hW HW
  generalize stf true false W = S at hput hu ho hn2 hnil
  rw [hput] at s3
  have Hu := hid (And.intro hu (And.intro ho hnil))
  clear hput hu ho hnil
  have hlen : (S ++ [46, 13, 10]).length = S.length + 3 := by simp
  have hwr3 : IntKind.i64.wrap ((S.length : Int) + 3 - 3) = S.length := by rw [IntWalk.i64_in _ (by omega)]; omega
  have hx1 : (strOf (S ++ [46, 13, 10])).extract S.length (S.length + 3) = { data := #[46, 13, 10] } := by
    rw [strOf_extract, List.take_of_length_le (by rw [hlen]; exact Nat.le_refl _), List.drop_left]; rfl
  have hx2 : (strOf (S ++ [46, 13, 10])).extract 0 S.length = strOf S := by
    rw [strOf_extract, List.take_left]; rfl
  go_wp2_with fail
  go_loopw [7, 8] (fun av iv wr => WLInv w S W av iv wr) (fun _ iv _ => S.length - (intOf iv).toNat)
  case atStart => exact ⟨0, [], rfl, rfl, by omega, by simp, by rw [List.nil_append, List.drop_zero]; exact Hu.out.1, by rw [List.drop_zero]; exact Hu.out.2.1, K3⟩
  case round =>
    rename_i wr _
    obtain ⟨j, B, rfl, rfl, hj, hB, hun, hok, hK⟩ := hrel
    have HB := hid (And.intro hun (And.intro hok hK))
    by_cases hlt : j < S.length
    · clear hun hok hK hx1 hx2 hlen s3 s4
      go_upto_region 12 with fail
      go_cut [9] (fun fv wc => fv = .bool (bgP (S.take j)) ∧ wc = wr)
      case first =>
        by_cases h0 : j = 0
        · subst h0
          go_wp2_with fail
          go_meet
          case rel => exact ⟨rfl, rfl⟩
        · have h0' : ((j : Int) == 0) = false := by simpa using h0
          have hne : ¬ S.take j = [] := fun e => by have := congrArg List.length e; rw [List.length_take, List.length_nil] at this; omega
          by_cases h1 : 2 ≤ j
          · have hwr : IntKind.i64.wrap ((j : Int) - 2) = ((j - 2 : Nat) : Int) := by rw [IntWalk.i64_in _ (by omega)]; omega
            have hx : (strOf S).extract (j - 2) j = strOf ((S.take j).drop (j - 2)) := strOf_extract _ _ _
            have hb : bgP (S.take j) = ((S.take j).drop (j - 2) == [13, 10]) := by
              unfold bgP suf
              rw [decide_eq_false hne, List.length_take, Nat.min_eq_left (by omega)]
              simp [h1]
            have hq1 : (0 : Int) ≤ ((j - 2 : Nat) : Int) := by omega
            have hq2 : ((j - 2 : Nat) : Int) ≤ (j : Int) := by omega
            have hq3 : j - 2 ≤ j := by omega
            have hq4 : j ≤ S.length := by omega
            go_wp2_with fail
            go_meet
            case rel => exact ⟨by rw [hb], rfl⟩
          · have hb : bgP (S.take j) = false := by
              unfold bgP suf
              rw [decide_eq_false hne, List.length_take, Nat.min_eq_left (by omega)]
              simp [h1]
            go_wp2_with fail
            go_meet
            case rel => exact ⟨by rw [hb], rfl⟩
      case rest =>
        obtain ⟨rfl, rfl⟩ := hcut
        obtain ⟨hun, hok, hK⟩ := HB.out
        have hdr : S.drop j = S[j] :: S.drop (j + 1) := List.drop_eq_getElem_cons hlt
        rw [hdr] at hun hok
        have htk : S.take (j + 1) = S.take j ++ [S[j]] := by rw [List.take_add_one, List.getElem?_eq_getElem hlt]; rfl
        have hb1 := bgP_snoc (S.take j) S[j]
        have hc1 := crP_snoc (S.take j) S[j]
        rw [← htk] at hb1 hc1
        rw [uns, ← hb1, ← hc1] at hun
        rw [okd, ← hb1, ← hc1] at hok
        have hge : ∀ h, ((strOf S)[j]'h).toNat = S[j].toNat := fun h => rfl
        clear htk hb1 hc1
        generalize hbg : bgP (S.take j) = bg at hun hok ⊢
        have HH := hid (And.intro hun (And.intro hok hK))
        clear hun hok hK hbg
        have hx : (strOf S).extract j (j + 1) = strOf [S[j]] := by
          rw [strOf_extract, List.take_add_one, List.getElem?_eq_getElem hlt, List.drop_append]
          rw [List.drop_of_length_le (by rw [List.length_take]; omega), List.length_take, Nat.min_eq_left (by omega)]
          simp
        have hcat : ¬ (9223372036854775807 < B.length + 1) := by omega
        have happ : strOf B ++ strOf [S[j]] = strOf (B ++ [S[j]]) := strOf_append _ _
        by_cases hb : bg = true ∧ S[j] = 46
        · obtain ⟨rfl, hc⟩ := hb
          have hA : ((S[j].toNat : Int) == 46) = true := by rw [hc]; rfl
          have hhd := HH.out.2.1.1 (by rw [hc]; rfl)
          have hj1 : j + 1 < S.length := by
            rcases Nat.lt_or_ge (j + 1) S.length with h | h
            · exact h
            · rw [List.drop_of_length_le h] at hhd; cases hhd
          have hge1 : ∀ h, ((strOf S)[j + 1]'h).toNat = 46 := fun h => by
            rw [List.head?_drop, List.getElem?_eq_getElem hj1] at hhd
            simp only [Option.some.injEq] at hhd
            exact congrArg UInt8.toNat hhd
          have hj2 : (j : Int) + 1 < S.length := by omega
          have hj3 : (0 : Int) ≤ (j : Int) + 1 := by omega
          have hj4 : ¬ (S.length : Int) ≤ (j : Int) + 1 := by omega
          clear hx hcat happ hdr hhd
          have HC := hid hc
          clear hc
          go_wp2_with fail
          go_roundw
          case rel =>
            obtain ⟨h1, h2, h3⟩ := HH.out
            refine ⟨j + 1, B, rfl, by go_num, by omega, by omega, ?_, h2.2, h3⟩
            rw [HC.out] at h1
            simpa using h1
          case measure => simp [intOf]; omega
        · have hnb : (bg && S[j] == 46) = false := by
            cases bg with
            | false => rfl
            | true => simpa using hb
          have HN := hid hnb
          clear hnb hdr
          cases bg with
          | false =>
            go_wp2_with fail
            go_roundw
            case rel =>
              obtain ⟨h1, h2, h3⟩ := HH.out
              rw [HN.out] at h1
              exact ⟨j + 1, B ++ [S[j]], by first | rfl | rw [happ], by go_num, by omega, by simp; omega, by simpa using h1, h2.2, h3⟩
            case measure => simp [intOf]; omega
          | true =>
            have hc : ¬ S[j] = 46 := fun h => hb ⟨rfl, h⟩
            have hA : ((S[j].toNat : Int) == 46) = false := by
              have : ¬ S[j].toNat = 46 := fun h => hc (UInt8.toNat_inj.1 h)
              simp; omega
            clear hc hb
            go_wp2_with fail
            go_roundw
            case rel =>
              obtain ⟨h1, h2, h3⟩ := HH.out
              rw [HN.out] at h1
              exact ⟨j + 1, B ++ [S[j]], by first | rfl | rw [happ], by go_num, by omega, by simp; omega, by simpa using h1, h2.2, h3⟩
            case measure => simp [intOf]; omega
    · obtain rfl : j = S.length := by omega
      rw [List.drop_length] at hun
      have hBW : B = W := by simpa [uns] using hun
      subst hBW
      clear hun hok hx1 hx2 hlen s3 s4 HB
      obtain ⟨_, _, hnil⟩ := Hu.out
      have HVw := hid ((HV3.out.back K3 hrlt).keep hK)
      by_cases hl : l = []
      · have hS : S = [] := hnil.2 hl
        subst hl hS
        clear hnil
        go_wp2_with fail
        refine (whole_calls _ r [] _ HVw.out (by simp)).mono ?_
        rintro e w5 ⟨v5, r5, rfl, o5, n5, k5⟩
        rw [HWW.out] at o5
        have s5 := o5.rd.str 29 5 9 Tryd.underlying29 Tryd.underlying5 Tryd.underlying9
        clear o5 n5
        go_wp2_with fail
        go_ret
        exact ⟨rfl, hK.seq k5⟩
      · have hS : ¬ S = [] := fun h => hl (hnil.1 h)
        have hS0 : (S == []) = false := by simpa using hS
        have hS1 : S.isEmpty = false := by simpa using hS
        have hl0 : ((l.length : Int) == 0) = false := by simpa using hl
        have hS2 := hid hS
        have hl2 := hid hl
        clear hnil hS hl
        go_wp2_with fail
        refine (whole_calls _ r l _ HVw.out (by omega)).mono ?_
        rintro e w5 ⟨v5, r5, rfl, o5, n5, k5⟩
        rw [HWW.out] at o5
        have s5 := o5.rd.str 29 5 9 Tryd.underlying29 Tryd.underlying5 Tryd.underlying9
        clear o5 n5
        go_wp2_with fail
        go_ret
        exact ⟨rfl, hK.seq k5⟩

end Go.Proofs.YtghfngnakoccbaaDoor

/- The walk of StuffFull: it answers true and writes nothing that was there. -/
import Derived.Test.YtghfngnakoccbaaDoorSLaw
import Derived.Test.YtghfngnakoccbaaDoorSOpen
namespace Go.Proofs.YtghfngnakoccbaaDoor
open Go.RowKit
set_option linter.unusedSimpArgs false
set_option linter.unusedVariables false
attribute [local go_sem] max2_of min2_of max_of min_of
attribute [local go_sem] strOf_size strOf_list

def WFInv (w : World) (g n : Nat) (m : Int) (av kv iv : Value) (wr : World) : Prop :=
  ∃ (j k : Nat) (b : List UInt8), av = .string (strOf b) ∧ kv = .int .i64 k ∧ iv = .int .i64 j ∧ j ≤ n ∧ j ≤ 30 ∧ k ≤ j ∧ (b.length : Int) ≤ m ∧ Bo 46 w wr g b k m

set_option maxRecDepth 100000 in
set_option maxHeartbeats 8000000 in
theorem sfull_walk (most : Int) (hmost : 0 ≤ most ∧ most ≤ 255) (v : Value) (ls : List (List UInt8)) (mx : Int) (w : World) (hv : Strs w v ls) (hm : w.cell? ⟨1, 0, none⟩ = some (.int .i64 mx)) :
    Calls Tryd.prog 3 #[.int .u8 most, v] w fun e w' => e = .returned (.bool true) ∧ Kp Non w w' := by
  obtain ⟨row, ⟨A, c, rfl, hlc, hcm, hc⟩, hmax⟩ := hv
  have Hc := hid hc
  have Hmax := hid hmax
  clear hc hmax
  unfold maxLen at hcm
  rw [List.length_map] at hlc ⊢
  have hwm : IntKind.i64.wrap most = most := IntWalk.i64_in _ (by omega)
  go_enter Tryd.func3, Tryd.ntmps3
  go_wp2_with fail
  refine (shown_calls mx _ hm).mono ?_
  rintro e w1 ⟨rfl, k1⟩
  go_wp2_with fail
  refine (bo_new (w0 := w) most _ (by omega) k1).mono ?_
  rintro e w2 ⟨g, rfl, h2⟩
  rw [show max most 0 = most by omega] at h2
  clear k1 hm
  go_wp2_with fail
  go_loopw [7, 8, 9] (fun av kv iv wr => WFInv w g ls.length most av kv iv wr) (fun _ _ iv _ => 31 - (intOf iv).toNat)
  case atStart => exact ⟨0, 0, [], rfl, rfl, rfl, by omega, by omega, by omega, by simp; omega, h2⟩
  case round =>
    clear h2
    obtain ⟨j, k, b, rfl, rfl, rfl, hj1, hj2, hk, hb, h3⟩ := hrel
    by_cases hend : j < ls.length ∧ j < 30
    · obtain ⟨he1, he2⟩ := hend
      obtain ⟨bb, off, rfl, hcell⟩ : ∃ bb off, A = some ⟨bb, off, none⟩ ∧ w.cell? ⟨bb, off + j, none⟩ = some (.string (strOf ls[j])) := by
        rcases Hc.out with h | ⟨bb, off, hA, _, h⟩
        · rw [List.map_eq_nil_iff] at h; subst h; simp at he1
        · exact ⟨bb, off, hA, h j _ (by rw [List.getElem?_map, List.getElem?_eq_getElem he1]; rfl)⟩
      have hlj := Hmax.out ls[j] (List.getElem_mem he1)
      unfold maxLen at hlj
      have hcell3 := h3.kp.cell hcell (fun x => x)
      generalize ls[j] = l at hcell3 hlj
      clear hcell Hc Hmax
      go_upto_if 40 with fail
      go_cut [10] (fun sv wc => wc = wr ∧ sv = .string (strOf (l.take 100)))
      case first =>
        have hex : (strOf l).extract 0 100 = strOf (l.take 100) := by rw [strOf_extract]; rfl
        by_cases hl : 100 < l.length
        · go_wp2_with fail
          go_meet
          case rel => exact ⟨rfl, rfl⟩
        · have e : l.take 100 = l := List.take_of_length_le (by omega)
          go_wp2_with fail
          go_meet
          case rel => exact ⟨rfl, by rw [e]⟩
      case rest =>
        obtain ⟨rfl, rfl⟩ := hcut
        clear hcell3
        have hl1 : (l.take 100).length ≤ 100 := by simp; omega
        generalize l.take 100 = s at hl1
        have hcat : ¬ (9223372036854775807 < 1 + s.length) := by omega
        have hcc : { data := #[46] } ++ strOf s = strOf (46 :: s) := strOf_append [46] s
        have hsz : ({ data := #[46] } : ByteArray).size = 1 := rfl
        have htr : trimF (46 :: s) = s := by unfold trimF; rw [if_pos (by rw [pre46]; rfl)]; rfl
        have hlf : lineF (46 :: s) = s ++ [13, 10] := by unfold lineF; rw [htr]
        have hle : lnEnd (46 :: s) = decide (s = []) := by unfold lnEnd; congr 1; simp
        have hll : (lineF (46 :: s)).length = s.length + 2 := by rw [hlf]; simp
        have hfit : lnFits b (46 :: s) most = decide ((b.length : Int) + s.length + 2 ≤ most) := by
          unfold lnFits
          rw [hll]
          congr 1
          apply propext
          constructor <;> intro h <;> omega
        have HL := hid (And.intro hlf (And.intro hle hfit))
        clear htr hlf hle hll hfit
        go_wp2_with fail
        refine (bo_line (46 :: s) _ h3 (by simp; omega) (by omega) (by omega)).mono ?_
        rintro e w4 ⟨rfl, h4⟩
        clear hcc hcat hsz
        obtain ⟨hlf, hle, hfit⟩ := HL.out
        by_cases hs : s = []
        · subst hs
          have e1 : lnEnd [46] = true := by rw [hle]; rfl
          have e2 : lnE b [46] most = 0 := by unfold lnE; rw [e1]; rfl
          have e3 : lnB b [46] most = b := by unfold lnB; rw [e1]; rfl
          have e4 : lnN b [46] most k = k := by unfold lnN; rw [e1]; rfl
          rw [e3, e4] at h4
          rw [e1, e2]
          clear e1 e2 e3 e4 hlf hle hfit
          go_wp2_with fail
          go_roundw
          case rel => exact ⟨j + 1, k, b, rfl, rfl, by go_num, by omega, by omega, by omega, hb, h4⟩
          case measure => simp [intOf]; omega
        · have e1 : lnEnd (46 :: s) = false := by rw [hle, decide_eq_false hs]
          have hs0 : (s == []) = false := by simpa using hs
          have hwr1 : IntKind.i64.wrap ((b.length : Int) + s.length) = (b.length : Int) + s.length := IntWalk.i64_in _ (by omega)
          have hwr2 : IntKind.i64.wrap ((b.length : Int) + s.length + 2) = (b.length : Int) + s.length + 2 := IntWalk.i64_in _ (by omega)
          have HB4 := hid h4
          by_cases hf : (b.length : Int) + s.length + 2 ≤ most
          · have e0 : lnFits b (46 :: s) most = true := by rw [hfit, decide_eq_true hf]
            have e2 : lnE b (46 :: s) most = 0 := by unfold lnE; rw [e1, e0]; rfl
            have e3 : lnB b (46 :: s) most = b ++ (s ++ [13, 10]) := by unfold lnB; rw [e1, e0, hlf]; rfl
            have e4 : lnN b (46 :: s) most k = k + 1 := by unfold lnN; rw [e1, e0]; rfl
            rw [e3, e4] at h4
            rw [e1, e2]
            have hB := hid h4
            clear e0 e1 e2 e3 e4 hlf hle hfit HB4 h4
            have hf' : decide ((b.length : Int) + s.length + 2 ≤ most) = true := decide_eq_true hf
            have hc1 : ¬ (9223372036854775807 < b.length + s.length) := by omega
            have hc2 : ¬ (9223372036854775807 < b.length + s.length + 2) := by omega
            have hc3 : strOf b ++ strOf s ++ { data := #[13, 10] } = strOf (b ++ (s ++ [13, 10])) := by
              rw [strOf_append]
              have := strOf_append (b ++ s) [13, 10]
              rw [List.append_assoc] at this
              exact this
            have hwk : IntKind.i64.wrap ((k : Int) + 1) = (k : Int) + 1 := IntWalk.i64_in _ (by omega)
            have hsz2 : ({ data := #[13, 10] } : ByteArray).size = 2 := rfl
            have hlB : (b ++ (s ++ [13, 10])).length ≤ 300 := by simp; omega
            have hlB2 : ((b ++ (s ++ [13, 10])).length : Int) ≤ most := by simp; omega
            have HB2 := hid hlB2
            clear hlB2
            go_wp2_with fail
            refine (bo_bytes _ hB.out (by omega)).mono ?_
            rintro e w5 ⟨v5, r5, rfl, o5, n5, k5⟩
            have s5 := o5.rd.str 29 5 9 Tryd.underlying29 Tryd.underlying5 Tryd.underlying9
            have HB5 := hid (hB.out.keep k5)
            clear o5 n5 k5 hc1 hc2
            go_wp2_with fail
            refine (bo_lines _ HB5.out).mono ?_
            rintro e w6 ⟨rfl, k6⟩
            go_wp2_with fail
            go_roundw
            case rel => exact ⟨j + 1, k + 1, _, by first | rfl | rw [hc3], by go_num, by go_num, by omega, by omega, by omega, HB2.out, HB5.out.keep k6⟩
            case measure => simp [intOf]; omega
          · have e0 : lnFits b (46 :: s) most = false := by rw [hfit, decide_eq_false hf]
            have e2 : lnE b (46 :: s) most = 72 := by unfold lnE; rw [e1, e0]; rfl
            have e3 : lnB b (46 :: s) most = b := by unfold lnB; rw [e1, e0]; rfl
            have e4 : lnN b (46 :: s) most k = k := by unfold lnN; rw [e1, e0]; rfl
            rw [e3, e4] at h4
            rw [e1, e2]
            have hB := hid h4
            clear e0 e1 e2 e3 e4 hlf hle hfit HB4 h4
            have hf' : decide ((b.length : Int) + s.length + 2 ≤ most) = false := decide_eq_false hf
            go_wp2_with fail
            refine (bo_bytes _ hB.out (by omega)).mono ?_
            rintro e w5 ⟨v5, r5, rfl, o5, n5, k5⟩
            have s5 := o5.rd.str 29 5 9 Tryd.underlying29 Tryd.underlying5 Tryd.underlying9
            have HB5 := hid (hB.out.keep k5)
            clear o5 n5 k5
            go_wp2_with fail
            refine (bo_lines _ HB5.out).mono ?_
            rintro e w6 ⟨rfl, k6⟩
            go_wp2_with fail
            go_roundw
            case rel => exact ⟨j + 1, k, b, rfl, rfl, by go_num, by omega, by omega, by omega, hb, HB5.out.keep k6⟩
            case measure => simp [intOf]; omega
    · by_cases he1 : j < ls.length
      all_goals
        have he2 : j < ls.length → ¬ j < 30 := fun h1 h2 => hend ⟨h1, h2⟩
        go_wp2_with fail
        go_ret
        exact ⟨rfl, h3.kp⟩

end Go.Proofs.YtghfngnakoccbaaDoor

/- The walk of WireBytes: it answers true and writes nothing that was there. -/
import Derived.Test.YtpbkipolgdldfaaWLaw
import Derived.Test.YtpbkipolgdldfaaOpen
import Derived.Deep.DeepCutAuto
import Derived.Deep.CutBlock
namespace Go.Proofs.Ytpbkipolgdldfaa
open Go.RowKit
set_option linter.unusedSimpArgs false
set_option linter.unusedVariables false
attribute [local go_sem] max2_of min2_of max_of min_of

theorem bd_of {S : Nat → Cn} (h : ((S 0).old.length ≤ 35184372088832 ∧ (S 0).wrote.length ≤ 35184372088832) ∧ ((S 1).old.length ≤ 35184372088832 ∧ (S 1).wrote.length ≤ 35184372088832)) : Bd S := fun i hi => by
  have : i = 0 ∨ i = 1 := by omega
  rcases this with rfl | rfl
  · exact h.1
  · exact h.2

def WBInv (w : World) (g i n : Nat) (gv iv : Value) (wr : World) : Prop :=
  ∃ (j got : Nat) (S : Nat → Cn), iv = .int .i64 j ∧ gv = .int .i64 got ∧ j ≤ n ∧ j ≤ 10 ∧ (S i).st = 2 ∧ (S i).got = got ∧ got ≤ 4000 ∧ Wr w wr g S

set_option maxRecDepth 100000 in
set_option maxHeartbeats 4000000 in
theorem wbytes_walk (w : World) (v : Value) (ls : List (List UInt8)) (hv : Rows2 w v ls) (second : Bool) :
    Calls Try.prog 4 #[v, .bool second] w fun e w' => e = .returned (.bool true) ∧ Kp Non w w' := by
  obtain ⟨row, vs, ⟨A, c, rfl, hlc, hcm, hc⟩, hlen, hel⟩ := hv
  have Hel := hid hel
  have Hc := hid hc
  clear hel hc
  unfold maxLen at hcm
  rw [hlen] at hlc ⊢
  have Hlen := hid hlen
  clear hlen
  go_enter Try.func4, Try.ntmps4
  go_wp2_with fail
  refine (shown_calls _).mono ?_
  rintro e w1 ⟨rfl, k1⟩
  go_wp2_with fail
  refine (wnew (w0 := w) _ k1).mono ?_
  rintro e w2 ⟨g, rfl, h2⟩
  clear k1
  go_upto_if 31 with fail
  go_cut [7] (fun kv wc => ∃ (i : Nat) (S : Nat → Cn), kv = .int .i64 i ∧ i < 2 ∧ (S i).st = 2 ∧ (S i).got = 0 ∧ Wr w wc g S)
  case first =>
    cases second with
    | false =>
      go_wp2_with fail
      go_meet
      case rel => exact ⟨0, S0, rfl, by omega, rfl, rfl, h2⟩
    | true =>
      go_wp2_with fail
      refine (whappen 1 1 0 _ none [] _ h2 (Rd.nil _ none 0 (by simp [maxLen]) none) (fun k hk => by cases hk) (by decide)).mono ?_
      rintro e w3 ⟨v3, r3, rfl, o3, n3, h3⟩
      rw [show hapE S0 1 1 0 [] = 1 by decide]
      obtain ⟨A3, c3, rfl, _, _⟩ := o3.form
      clear o3
      go_wp2_with fail
      refine (wask _ h3 (bd_of (by decide))).mono ?_
      rintro e w4 ⟨rfl, h4⟩
      go_wp2_with fail
      refine (whappen 1 1 0 _ none [] _ h4 (Rd.nil _ none 0 (by simp [maxLen]) none) (fun k hk => by cases hk) (by decide)).mono ?_
      rintro e w5 ⟨v5, r5, rfl, o5, n5, h5⟩
      rw [show hapE (askS (hapS S0 1 1 0 [])) 1 1 0 [] = 1 by decide]
      obtain ⟨A5, c5, rfl, _, _⟩ := o5.form
      clear o5
      go_wp2_with fail
      refine (whappen 5 1 1 _ none [] _ h5 (Rd.nil _ none 0 (by simp [maxLen]) none) (fun k hk => by cases hk) (by decide)).mono ?_
      rintro e w6 ⟨v6, r6, rfl, o6, n6, h6⟩
      obtain ⟨A6, c6, rfl, _, _⟩ := o6.form
      clear o6
      go_wp2_with fail
      go_meet
      case rel => exact ⟨1, _, rfl, by omega, by decide, by decide, h6⟩
  case rest =>
    obtain ⟨i, S, rfl, hi, hst, hgot, h3⟩ := hcut
    clear h2
    go_wp2_with fail
    go_loopw [12, 13] (fun gv iv wr => WBInv w g i ls.length gv iv wr) (fun _ iv _ => 11 - (intOf iv).toNat)
    case atStart => exact ⟨0, 0, S, rfl, rfl, by omega, by omega, hst, hgot, by omega, h3⟩
    case round =>
      clear h3 hst hgot
      obtain ⟨j, got, S, rfl, rfl, hj1, hj2, hst, hgot, hg4, h3⟩ := hrel
      by_cases hend : j < ls.length ∧ j < 10
      · obtain ⟨he1, he2⟩ := hend
        obtain ⟨u, ri, hu, hru⟩ := Hel.out j _ (List.getElem?_eq_getElem he1)
        obtain ⟨bb, off, rfl, hcell⟩ : ∃ bb off, A = some ⟨bb, off, none⟩ ∧ w.cell? ⟨bb, off + j, none⟩ = some u := by
          rcases Hc.out with h | ⟨bb, off, hA, _, h⟩
          · rw [h] at hu; simp at hu
          · exact ⟨bb, off, hA, h j u hu⟩
        obtain ⟨rb, hrb, hrlt⟩ := hru.bound
        have hcell3 := h3.kp.cell hcell (fun x => x)
        generalize ls[j] = l at hrb hru
        go_wp2_with fail
        refine (short_calls u rb l _ (hrb.keep h3.kp)).mono ?_
        rintro e w4 ⟨V, rfl, hV4, k4⟩
        have hl60 : (l.take 1500).length ≤ 1500 := by simp; omega
        generalize l.take 1500 = b at hV4 hl60
        clear hcell3 hcell hu hru hrb Hel Hc
        have HV4 := hid hV4
        obtain ⟨AV, cV, rfl, _, _, _⟩ := hV4
        rw [byv_length] at HV4 ⊢
        have hE : hapE S 1 i 0 b = if got + b.length ≤ 4000 then 0 else 72 := by
          show gt S i (fun X => X.chunkE b) 1 = _
          rw [gt_in S _ _ _ i rfl hi, Cn.chunkE, if_pos hst, hgot]
        go_wp2_with fail
        refine (whappen 1 i 0 _ rb b _ (h3.keep k4) HV4.out hrlt (by omega)).mono ?_
        rintro e w5 ⟨v5, r5, rfl, o5, n5, h5⟩
        have hVw := (HV4.out.back (h3.kp.seq k4) hrlt).keep h5.kp
        have sV := hVw.str 26 5 9 Try.underlying26 Try.underlying5 Try.underlying9
        have hwr : IntKind.i64.wrap ((got : Int) + b.length) = ((got + b.length : Nat) : Int) := by rw [IntWalk.i64_in _ (by omega)]; omega
        clear HV4 hVw h3 k4
        by_cases hle : got + b.length ≤ 4000
        · rw [if_pos hle] at hE
          have hB : hapB S 1 i 0 b = b := by simp [hapB, hE]
          have hS : hapS S 1 i 0 b = upd S i { S i with got := (S i).got + b.length } := by simp [hapS, hE]
          rw [hE]
          rw [hB] at o5
          rw [hS] at h5
          have s5 := o5.rd.str 26 5 9 Try.underlying26 Try.underlying5 Try.underlying9
          obtain ⟨A5, c5, rfl, _, _⟩ := o5.form
          clear o5 hB hS hE
          have tl : decide (((got + b.length : Nat) : Int) ≤ 4000) = true := by simp; omega
          go_wp2_with fail
          go_roundw
          case rel => exact ⟨j + 1, got + b.length, _, by go_num, by go_num, by omega, by omega, by rw [upd_same]; exact hst, by rw [upd_same]; show (S i).got + b.length = _; rw [hgot], hle, h5⟩
          case measure => simp [intOf]; omega
        · rw [if_neg hle] at hE
          have hB : hapB S 1 i 0 b = [] := by simp [hapB, hE]
          have hS : hapS S 1 i 0 b = S := by simp [hapS, hE]
          rw [hE]
          rw [hB] at o5
          rw [hS] at h5
          obtain ⟨A5, c5, rfl, _, _⟩ := o5.form
          clear o5 hB hS hE
          have tl : decide (((got + b.length : Nat) : Int) ≤ 4000) = false := by simp; omega
          go_wp2_with fail
          go_roundw
          case rel => exact ⟨j + 1, got, S, by go_num, rfl, by omega, by omega, hst, hgot, hg4, h5⟩
          case measure => simp [intOf]; omega
      · by_cases he1 : j < ls.length
        all_goals
          have he2 : j < ls.length → ¬ j < 10 := fun h1 h2 => hend ⟨h1, h2⟩
          have hE1 : hapE S 3 i 0 [] = 0 := by rw [hapE3, gt_in S _ _ _ i rfl hi, if_pos hst]
          have hS1 : hapS S 3 i 0 [] = upd S i { S i with st := 3 } := by simp [hapS, hE1]
          go_wp2_with fail
          refine (whappen 3 i 0 _ none [] _ h3 (Rd.nil _ none 0 (by simp [maxLen]) none) (fun k hk => by cases hk) (by decide)).mono ?_
          rintro e w4 ⟨v4, r4, rfl, o4, n4, h4⟩
          rw [hS1] at h4
          rw [hE1]
          obtain ⟨A4, c4, rfl, _, _⟩ := o4.form
          clear o4
          generalize hT : upd S i { S i with st := 3 } = T at h4
          have hTi : (T i).st = 3 := by rw [← hT, upd_same]
          have hE2 : hapE T 1 i 0 [] = 1 := by
            show gt T i (fun X => X.chunkE []) 1 = _
            rw [gt_in T _ _ _ i rfl hi, Cn.chunkE, if_neg (by omega)]
          have hS2 : hapS T 1 i 0 [] = T := by simp [hapS, hE2]
          have hE3 : hapE T 3 i 0 [] = 1 := by rw [hapE3, gt_in T _ _ _ i rfl hi, if_neg (by omega)]
          have hS3 : hapS T 3 i 0 [] = T := by simp [hapS, hE3]
          have hT0 : gt T i Cn.st 0 = 3 := by rw [gt_in T _ _ _ i rfl hi, hTi]
          clear hT hTi
          go_wp2_with fail
          refine (whappen 1 i 0 _ none [] _ h4 (Rd.nil _ none 0 (by simp [maxLen]) none) (fun k hk => by cases hk) (by decide)).mono ?_
          rintro e w5 ⟨v5, r5, rfl, o5, n5, h5⟩
          rw [hS2] at h5
          rw [hE2]
          obtain ⟨A5, c5, rfl, _, _⟩ := o5.form
          clear o5
          go_wp2_with fail
          refine (whappen 3 i 0 _ none [] _ h5 (Rd.nil _ none 0 (by simp [maxLen]) none) (fun k hk => by cases hk) (by decide)).mono ?_
          rintro e w6 ⟨v6, r6, rfl, o6, n6, h6⟩
          rw [hS3] at h6
          rw [hE3]
          obtain ⟨A6, c6, rfl, _, _⟩ := o6.form
          clear o6
          go_wp2_with fail
          refine (wstate i _ h6).mono ?_
          rintro e w7 ⟨rfl, k7⟩
          rw [hT0]
          go_wp2_with fail
          go_ret
          exact ⟨rfl, h6.kp.seq k7⟩

end Go.Proofs.Ytpbkipolgdldfaa

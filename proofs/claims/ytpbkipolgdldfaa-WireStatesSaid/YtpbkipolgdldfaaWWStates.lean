/- The walk of WireStates: it answers true and writes nothing that was there. -/
import Derived.Test.YtpbkipolgdldfaaWPure
import Derived.Test.YtpbkipolgdldfaaWOps
import Derived.Deep.DeepCutAuto
import Derived.Deep.CutBlock
namespace Go.Proofs.Ytpbkipolgdldfaa
open Go.RowKit
set_option linter.unusedSimpArgs false
set_option linter.unusedVariables false
attribute [local go_sem] max2_of min2_of max_of min_of

def Fst (a x : Int) : Prop := x = a ∨ (a = 2 ∧ x = 3) ∨ ((a = 2 ∨ a = 3) ∧ x = 4)
def Snd (b y : Int) : Prop := y = b ∨ (b = 2 ∧ y = 3) ∨ ((b = 2 ∨ b = 3) ∧ y = 4) ∨ (b = 1 ∧ (y = 2 ∨ y = 5))
def WSInv (w : World) (g n : Nat) (iv : Value) (wr : World) : Prop :=
  ∃ (j : Nat) (S : Nat → Cn), iv = .int .i64 j ∧ j ≤ n ∧ j ≤ 60 ∧ BdN (4000 * j) S ∧ Wr w wr g S

/-- Ask, and what it leaves of blocks that are younger than the wire. -/
theorem wask_fr {w0 wb : World} {g : Nat} {S : Nat → Cn} (w : World) (h : Wr w0 wb g S) (kb : Kp Non wb w) (hb : Bd S) :
    Calls Try.prog 11 #[.pointer (some ⟨g, 0, none⟩)] w fun e w' => e = .returned (.bool (decide ((S 1).st ≠ 1))) ∧ Wr w0 w' g (askS S) ∧ ∃ Z, Kp Z w w' ∧ ∀ k, Z k → k < wb.heap.size := by
  obtain ⟨F, R, h1, h2, h3⟩ := h
  have hF : ∀ k, F k → k < wb.heap.size := by
    obtain ⟨_, _, _, _, _, _, _, _, h6, _⟩ := h1
    exact fun k hk => (h6 k hk).1
  refine (ask_calls g S F R w (h1.keep kb) hb).mono ?_
  rintro e w1 ⟨F', R', rfl, h4, h5, h6, k1⟩
  exact ⟨rfl, ⟨F', R', h4, fun k hk => (h5 k hk).elim (h2 k) (fun h => by have := h3.size; have := kb.size; omega), (h3.seq kb).trans k1 (fun k hk => .inr (h2 k hk))⟩, F, k1, hF⟩

set_option maxRecDepth 100000 in
set_option maxHeartbeats 40000000 in
theorem wstates_walk (w : World) (v : Value) (CS : List (List Value)) (hv : OpsW w v CS) :
    Calls Try.prog 3 #[v] w fun e w' => e = .returned (.bool true) ∧ Kp Non w w' := by
  obtain ⟨⟨A, c, rfl, hlc, hcm, hcs, hx⟩, hel⟩ := hv
  have Hel := hid hel
  have Hc := hid hx
  clear hel hx hcs
  unfold maxLen at hcm
  go_enter Try.func3, Try.ntmps3
  go_wp2_with fail
  refine (shown_calls _).mono ?_
  rintro e w1 ⟨rfl, k1⟩
  go_wp2_with fail
  refine (wnew (w0 := w) _ k1).mono ?_
  rintro e w2 ⟨g, rfl, h2⟩
  clear k1
  go_wp2_with fail
  go_loopw [5] (fun iv wr => WSInv w g CS.length iv wr) (fun iv _ => 61 - (intOf iv).toNat)
  case atStart => exact ⟨0, S0, rfl, by omega, by omega, S0_bd _, h2⟩
  case round =>
    clear h2
    obtain ⟨j, S, rfl, hj1, hj2, hbd, h3⟩ := hrel
    by_cases hend : j < CS.length ∧ j < 60
    · obtain ⟨he1, he2⟩ := hend
      obtain ⟨kd, conn, ek, ec, en, vb, ve, rb, re, lb, le, hcs, hkd0, hkd1, hrb, hre⟩ := Hel.out CS[j] (List.getElem_mem he1)
      obtain ⟨bb, off, rfl, hcells⟩ : ∃ bb off, A = some ⟨bb, off, none⟩ ∧ ∀ i u, [Value.int .u8 kd, .int .i64 conn, vb, .int .i64 ek, .int .i64 ec, .int .i64 en, ve][i]? = some u → w.cell? ⟨bb, off + (j * 7 + i), none⟩ = some u := by
        rcases Hc.out with h | ⟨bb, off, hA, h⟩
        · subst h; simp at he1
        · exact ⟨bb, off, hA, fun i u hu => h j _ (List.getElem?_eq_getElem he1) i u (by rw [hcs]; exact hu)⟩
      obtain ⟨rE, hE, hrE⟩ := hre.bound
      have HE := hid hE
      obtain ⟨VB, cb, rfl, _, _, _⟩ := hrb
      obtain ⟨VE, ce, rfl, _, _, _⟩ := hE
      simp only [byv_length] at HE hcells
      have c0 := h3.kp.cell (hcells 0 _ rfl) (fun x => x)
      have c1 := h3.kp.cell (hcells 1 _ rfl) (fun x => x)
      have c2 := h3.kp.cell (hcells 2 _ rfl) (fun x => x)
      have c3 := h3.kp.cell (hcells 3 _ rfl) (fun x => x)
      have c4 := h3.kp.cell (hcells 4 _ rfl) (fun x => x)
      have c5 := h3.kp.cell (hcells 5 _ rfl) (fun x => x)
      have c6 := h3.kp.cell (hcells 6 _ rfl) (fun x => x)
      simp only [Nat.add_zero, ← Nat.add_assoc] at c0 c1 c2 c3 c4 c5 c6
      clear hcells hcs Hc hre Hel
      have hO := Blk.new wr #[.int .u8 kd, .int .i64 conn, .slice VB lb.length cb, .int .i64 ek, .int .i64 ec, .int .i64 en, .slice VE le.length ce] 30
      have hA := (Kp.refl Non wr).alloc (.cells #[.int .u8 kd, .int .i64 conn, .slice VB lb.length cb, .int .i64 ek, .int .i64 ec, .int .i64 en, .slice VE le.length ce] 30)
      have h4 := h3.keep hA
      go_wp2_with fail
      refine (wstate 0 _ h4).mono ?_
      rintro e w5 ⟨rfl, k5⟩
      go_wp2_with fail
      refine (wstate 1 _ (h4.keep k5)).mono ?_
      rintro e w6 ⟨rfl, k6⟩
      have h6 := (h4.keep k5).keep k6
      have hO6 := (hO.keep k5).keep k6
      rw [show gt S 0 Cn.st 0 = (S 0).st from rfl, show gt S 1 Cn.st 0 = (S 1).st from rfl]
      have kA := (hA.seq k5).seq k6
      have H3 := hid h3
      clear c0 c1 c2 c3 c4 c5 c6 hA h4 k5 k6 h3 hO
      have o0 := hO6.cell 0
      have o3 := hO6.cell 3
      have o4 := hO6.cell 4
      have o5 := hO6.cell 5
      have o6 := hO6.cell 6
      simp at o0 o3 o4 o5 o6
      go_upto_if 44 with fail
      go_cut [8, 9] (fun bv ev wc => ∃ (T : Nat → Cn) (b e : Int), bv = .int .i64 b ∧ ev = .int .i64 e ∧ Fst (S 0).st (T 0).st ∧ Snd b (T 1).st ∧ (e ≠ 0 → (T 0).st = (S 0).st ∧ (T 1).st = b) ∧ BdN (4000 * (j + 1)) T ∧ Wr w wc g T)
      case first =>
        by_cases t5 : kd % 8 = 5
        · have z5 : (kd % 8 == 5) = true := by simpa using t5
          go_wp2_with fail
          refine (wask_fr _ H3.out kA (hbd.bd (by omega))).mono ?_
          rintro e w7 ⟨rfl, h7, Z, k7, hZ⟩
          have hb7 := hbd.ask (h6.blen 1 (by omega))
          have z3 : decide (kd % 8 < 3) = false := by simp; omega
          have hO7 := hO6.kp k7 (fun h => by have := hZ _ h; omega)
          have P0 := hO7.cell 0
          simp at P0
          have hS0 : (askS S 0).st = (S 0).st := by unfold askS; split <;> rfl
          by_cases hst : (S 1).st = 1
          · have hT1 : gt (askS S) 1 Cn.st 0 = 1 := by show (askS S 1).st = 1; simp [askS, hst]
            rw [hst]
            go_wp2_with fail
            refine (wstate 1 _ h7).mono ?_
            rintro e w8 ⟨rfl, k8⟩
            have P8 := k8.cell P0 (fun x => x)
            rw [hT1]
            go_wp2_with fail
            go_meet
            case rel => exact ⟨askS S, 1, 0, rfl, rfl, .inl hS0, .inl hT1, fun h => absurd rfl h, by rw [show 4000 * (j + 1) = 4000 * j + 4000 by omega]; exact hb7, h7.keep k8⟩
          · have hT1 : gt (askS S) 1 Cn.st 0 = 1 := by show (askS S 1).st = 1; simp [askS, hst, upd]
            have e1 : ((S 1).st == 1) = false := by simpa using hst
            rw [decide_eq_true hst]
            go_wp2_with fail
            refine (wstate 1 _ h7).mono ?_
            rintro e w8 ⟨rfl, k8⟩
            rw [hT1]
            go_wp2_with fail
            refine (wstate 1 _ (h7.keep k8)).mono ?_
            rintro e w9 ⟨rfl, k9⟩
            have P9 := (k8.seq k9).cell P0 (fun x => x)
            rw [hT1]
            go_wp2_with fail
            go_meet
            case rel => exact ⟨askS S, 1, 0, rfl, rfl, .inl hS0, .inl hT1, fun h => absurd rfl h, by rw [show 4000 * (j + 1) = 4000 * j + 4000 by omega]; exact hb7, (h7.keep k8).keep k9⟩
        · have z5 : (kd % 8 == 5) = false := by simpa using t5
          by_cases t3 : kd % 8 < 3
          · have z3 : decide (kd % 8 < 3) = true := decide_eq_true t3
            go_wp2_with fail
            refine (event_calls ek ec en _ rE le _ (HE.out.keep h6.kp) (fun k hk => by have := hrE k hk; have := h6.kp.size; omega)).mono ?_
            rintro e w7 ⟨V, rfl, hV, k7⟩
            have hl15 : (le.take 1500).length ≤ 1500 := by simp; omega
            go_wp2_with fail
            refine (whappen ek ec en _ rE (le.take 1500) _ (h6.keep k7) hV hrE (by omega)).mono ?_
            rintro e w8 ⟨v8, r8, rfl, o8, n8, h8⟩
            have hf := hap_st S ek ec en (le.take 1500) 0 (by omega)
            have hs := hap_st S ek ec en (le.take 1500) 1 (by omega)
            have hno : hapE S ek ec en (le.take 1500) ≠ 0 → hapS S ek ec en (le.take 1500) = S := hapS_no
            have hb8 := hbd.hap ek ec en (le.take 1500)
            generalize hapE S ek ec en (le.take 1500) = E at hno ⊢
            generalize hapS S ek ec en (le.take 1500) = T at hf hs hno hb8 h8
            have HH := hid (And.intro hf (And.intro hs hno))
            clear hf hs hno o0 o3 o4 o5 o6
            go_wp2_with fail
            go_meet
            case rel =>
              obtain ⟨hf, hs, hno⟩ := HH.out
              refine ⟨T, _, E, rfl, rfl, ?_, ?_, fun h => by rw [hno h]; exact ⟨rfl, rfl⟩, hb8.mono (by omega), h8⟩
              · rcases hf with h | h | h | h
                · exact .inl h
                · exact .inr (.inl h)
                · exact .inr (.inr h)
                · omega
              · rcases hs with h | h | h | h
                · exact .inl h
                · exact .inr (.inl h)
                · exact .inr (.inr (.inl h))
                · exact .inr (.inr (.inr ⟨h.2.1, h.2.2⟩))
          · have z3 : decide (kd % 8 < 3) = false := decide_eq_false t3
            go_wp2_with fail
            go_meet
            case rel => exact ⟨S, _, 0, rfl, rfl, .inl rfl, .inl rfl, fun h => absurd rfl h, hbd.mono (by omega), h6⟩
      case rest =>
        obtain ⟨T, b, e, rfl, rfl, hF, hS, hEE, hbT, hT⟩ := hcut
        clear h6 hO6 o0 o3 o4 o5 o6 kA H3 hbd
        generalize (S 0).st = a at hF hEE ⊢
        go_wp2_with fail
        refine (wstate 0 _ hT).mono ?_
        rintro e' w8 ⟨rfl, k8⟩
        go_wp2_with fail
        refine (wstate 1 _ (hT.keep k8)).mono ?_
        rintro e' w9 ⟨rfl, k9⟩
        have h9 := (hT.keep k8).keep k9
        rw [show gt T 0 Cn.st 0 = (T 0).st from rfl, show gt T 1 Cn.st 0 = (T 1).st from rfl]
        have HT := hid (And.intro hbT h9)
        clear hbT hT k8 k9 h9
        generalize (T 0).st = x at hF hEE ⊢
        generalize (T 1).st = y at hS hEE ⊢
        have he : e = 0 ∨ (e ≠ 0 ∧ x = a ∧ y = b) := by
          by_cases he : e = 0
          · exact .inl he
          · exact .inr ⟨he, hEE he⟩
        clear hEE
        go_upto_region 21 with fail
        go_cut [13] (fun f wc => f = .bool true ∧ wc = w9)
        case first =>
          rcases hF with rfl | ⟨rfl, rfl⟩ | ⟨rfl | rfl, rfl⟩
          all_goals
            go_wp2_with fail
            go_meet
            case rel => exact ⟨rfl, rfl⟩
        case rest =>
          obtain ⟨rfl, rfl⟩ := hcut
          go_upto_region 22 with fail
          go_cut [14] (fun f wd => f = .bool true ∧ wd = wc)
          case first =>
            rcases hS with rfl | ⟨rfl, rfl⟩ | ⟨rfl | rfl, rfl⟩ | ⟨rfl, rfl | rfl⟩
            all_goals
              go_wp2_with fail
              go_meet
              case rel => exact ⟨rfl, rfl⟩
          case rest =>
            obtain ⟨rfl, rfl⟩ := hcut
            rcases he with rfl | ⟨he, rfl, rfl⟩
            · go_wp2_with fail
              go_roundw
              case rel => exact ⟨j + 1, T, by go_num, by omega, by omega, HT.out.1, HT.out.2⟩
              case measure => simp [intOf]; omega
            · have e0 : (e != 0) = true := by simpa using he
              go_wp2_with fail
              go_roundw
              case rel => exact ⟨j + 1, T, by go_num, by omega, by omega, HT.out.1, HT.out.2⟩
              case measure => simp [intOf]; omega
    · by_cases he1 : j < CS.length
      all_goals
        have he2 : j < CS.length → ¬ j < 60 := fun h1 h2 => hend ⟨h1, h2⟩
        go_wp2_with fail
        go_ret
        exact ⟨rfl, h3.kp⟩

end Go.Proofs.Ytpbkipolgdldfaa

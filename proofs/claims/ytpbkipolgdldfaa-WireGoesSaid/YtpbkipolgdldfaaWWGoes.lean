/- The walk of WireGoes: it answers true and writes nothing that was there. -/
import Derived.Test.YtpbkipolgdldfaaWPure
import Derived.Test.YtpbkipolgdldfaaWOps
import Derived.Deep.DeepCutAuto
import Derived.Deep.CutBlock
namespace Go.Proofs.Ytpbkipolgdldfaa
open Go.RowKit
set_option linter.unusedSimpArgs false
set_option linter.unusedVariables false
attribute [local go_sem] max2_of min2_of max_of min_of
attribute [local go_sem] strOf_size

theorem strOf_extract (l : List UInt8) (i j : Nat) : (strOf l).extract i j = strOf ((l.take j).drop i) := by
  unfold strOf
  rw [ByteArray.extract_mk]
  congr 1
  simp [List.drop_take]

theorem Wr.ale {w0 w : World} {g : Nat} {S : Nat → Cn} (h : Wr w0 w g S) (i : Nat) (hi : i < 2) : (S i).a ≤ (S i).b.length := by
  obtain ⟨F, R, h1, _⟩ := h
  obtain ⟨_, _, _, _, _, _, _, _, _, _, _, _, hq, _⟩ := h1.cells i hi
  obtain ⟨_, _, _, h, _⟩ := hq
  exact h

/-- Write, and what it leaves of blocks that are younger than the wire. -/
theorem wwrite_fr {w0 wb : World} {g : Nat} {S : Nat → Cn} (conn : Int) (v : Value) (rv : Option Nat) (l : List UInt8) (w : World) (h : Wr w0 wb g S) (kb : Kp Non wb w) (hv : Rd w v rv (byv l)) (hl : l.length ≤ 140737488300000) :
    Calls Try.prog 16 #[.pointer (some ⟨g, 0, none⟩), .int .i64 conn, v] w fun e w' => e = .returned (.int .i64 (writeE S conn l)) ∧ Wr w0 w' g (writeS S conn l) ∧ ∃ Z, Kp Z w w' ∧ ∀ k, Z k → k < wb.heap.size ∧ w0.heap.size ≤ k := by
  obtain ⟨F, R, h1, h2, h3⟩ := h
  have hF : ∀ k, F k → k < wb.heap.size := by
    obtain ⟨_, _, _, _, _, _, _, _, h6, _⟩ := h1
    exact fun k hk => (h6 k hk).1
  refine (write_calls g S F R conn v rv l w (h1.keep kb) hv hl).mono ?_
  rintro e w1 ⟨F', rfl, h4, h5, k1⟩
  exact ⟨rfl, ⟨F', R, h4, fun k hk => (h5 k hk).elim (h2 k) (fun h => by have := h3.size; have := kb.size; omega), (h3.seq kb).trans k1 (fun k hk => .inr (h2 k hk))⟩, F, k1, fun k hk => ⟨hF k hk, h2 k hk⟩⟩

def Stt (a : Int) : Prop := a = 2 ∨ a = 3 ∨ a = 4
theorem Stt.out {a : Int} (h : Stt a) (hg : a ≠ 4) : outF a = true := by
  rcases h with rfl | rfl | rfl
  · rfl
  · rfl
  · exact absurd rfl hg

theorem hap_b (S : Nat → Cn) (kd conn n : Int) (l : List UInt8) (i : Nat) : (hapS S kd conn n l i).b = (S i).b := by
  have hup : ∀ X : Cn, X.b = (S conn.toNat).b → (upd S conn.toNat X i).b = (S i).b := fun X hX => by
    unfold upd
    split
    · rename_i h; rw [h, hX]
    · rfl
  unfold hapS
  repeat' split
  all_goals first | rfl | exact hup _ rfl

theorem hap_gone (S : Nat → Cn) (kd conn n : Int) (l : List UInt8) (i : Nat) (hi : i < 2) (h4 : (S i).st = 4) : (hapS S kd conn n l i).a = (S i).a := by
  have hup : ∀ X : Cn, X.a = (S conn.toNat).a → (upd S conn.toNat X i).a = (S i).a := fun X hX => by
    unfold upd
    split
    · rename_i h; rw [h, hX]
    · rfl
  by_cases hE : hapE S kd conn n l = 0
  · by_cases k2 : kd = 2
    · subst k2
      rw [hapE2] at hE
      have hw : 0 < n ∧ 0 < gt S conn Cn.waits 0 := by
        by_cases h : 0 < n ∧ 0 < gt S conn Cn.waits 0
        · exact h
        · rw [if_neg h] at hE; omega
      have hE' : hapE S 2 conn n l = 0 := by rw [hapE2, if_pos hw]
      unfold hapS
      rw [if_pos hE']
      simp only [if_true]
      rw [if_neg (by omega)]
      unfold upd
      split
      · rename_i h
        rcases conn_cases conn with ⟨j, rfl, hj⟩ | hc
        · exfalso
          have hij : i = j := by simpa using h
          subst hij
          rw [gt_in S _ _ _ i rfl hi, Cn.waits, h4] at hw
          simp [outF] at hw
        · rw [gt_out S _ _ _ hc] at hw; omega
      · rfl
    · unfold hapS
      repeat' split
      all_goals first | rfl | exact absurd (by assumption) k2 | exact hup _ rfl
  · rw [hapS_no hE]

theorem fin_same (S : Nat → Cn) (conn : Int) (i : Nat) : (finS S conn i).b = (S i).b ∧ (finS S conn i).a = (S i).a ∧ (finS S conn i).st = (S i).st := by
  unfold finS
  split
  · unfold upd
    split
    · rename_i h; rw [h]; exact ⟨rfl, rfl, rfl⟩
    · exact ⟨rfl, rfl, rfl⟩
  · exact ⟨rfl, rfl, rfl⟩

def WGInv (w : World) (g n : Nat) (av iv : Value) (wr : World) : Prop :=
  ∃ (j : Nat) (S : Nat → Cn), av = .string (strOf (S 0).b) ∧ iv = .int .i64 j ∧ j ≤ n ∧ j ≤ 60 ∧ Stt (S 0).st ∧ BdN 0 S ∧ Wr w wr g S
def WGCut (w : World) (g : Nat) (S : Nat → Cn) (av gv : Value) (wc : World) : Prop :=
  ∃ (T : Nat → Cn) (G : Bool), av = .string (strOf (T 0).b) ∧ gv = .bool G ∧ (G = true → (S 0).b.take (S 0).a = (T 0).b.take (T 0).a) ∧ Stt (T 0).st ∧ BdN 0 T ∧ Wr w wc g T

set_option maxRecDepth 100000 in
set_option maxHeartbeats 40000000 in
theorem wgoes_walk (w : World) (v : Value) (CS : List (List Value)) (hv : OpsW w v CS) :
    Calls Try.prog 5 #[v] w fun e w' => e = .returned (.bool true) ∧ Kp Non w w' := by
  obtain ⟨⟨A, c, rfl, hlc, hcm, hcs, hx⟩, hel⟩ := hv
  have Hel := hid hel
  have Hc := hid hx
  clear hel hx hcs
  unfold maxLen at hcm
  go_enter Try.func5, Try.ntmps5
  go_wp2_with fail
  refine (shown_calls _).mono ?_
  rintro e w1 ⟨rfl, k1⟩
  go_wp2_with fail
  refine (wnew (w0 := w) _ k1).mono ?_
  rintro e w2 ⟨g, rfl, h2⟩
  clear k1
  go_wp2_with fail
  go_loopw [5, 6] (fun av iv wr => WGInv w g CS.length av iv wr) (fun _ iv _ => 61 - (intOf iv).toNat)
  case atStart => exact ⟨0, S0, rfl, rfl, by omega, by omega, .inl rfl, S0_bd _, h2⟩
  case round =>
    clear h2
    obtain ⟨j, S, rfl, rfl, hj1, hj2, hst, hbd, h3⟩ := hrel
    by_cases hend : j < CS.length ∧ j < 60
    · obtain ⟨he1, he2⟩ := hend
      obtain ⟨kd, conn, ek, ec, en, vb, ve, rb, re, lb, le, hcs, hkd0, hkd1, hrb, hre⟩ := Hel.out CS[j] (List.getElem_mem he1)
      obtain ⟨bb, off, rfl, hcells⟩ : ∃ bb off, A = some ⟨bb, off, none⟩ ∧ ∀ i u, [Value.int .u8 kd, .int .i64 conn, vb, .int .i64 ek, .int .i64 ec, .int .i64 en, ve][i]? = some u → w.cell? ⟨bb, off + (j * 7 + i), none⟩ = some u := by
        rcases Hc.out with h | ⟨bb, off, hA, h⟩
        · subst h; simp at he1
        · exact ⟨bb, off, hA, fun i u hu => h j _ (List.getElem?_eq_getElem he1) i u (by rw [hcs]; exact hu)⟩
      obtain ⟨rE, hE, hrE⟩ := hre.bound
      obtain ⟨rB, hB, hrB⟩ := hrb.bound
      have HE := hid hE
      have HB := hid hB
      have HrB := hid hrB
      have HrE := hid hrE
      clear hrb hre hrB hrE
      obtain ⟨VB, cb, rfl, _, _, _⟩ := hB
      obtain ⟨VE, ce, rfl, _, _, _⟩ := hE
      simp only [byv_length] at HE HB hcells
      have c0 := h3.kp.cell (hcells 0 _ rfl) (fun x => x)
      have c1 := h3.kp.cell (hcells 1 _ rfl) (fun x => x)
      have c2 := h3.kp.cell (hcells 2 _ rfl) (fun x => x)
      have c3 := h3.kp.cell (hcells 3 _ rfl) (fun x => x)
      have c4 := h3.kp.cell (hcells 4 _ rfl) (fun x => x)
      have c5 := h3.kp.cell (hcells 5 _ rfl) (fun x => x)
      have c6 := h3.kp.cell (hcells 6 _ rfl) (fun x => x)
      simp only [Nat.add_zero, ← Nat.add_assoc] at c0 c1 c2 c3 c4 c5 c6
      clear hcells hcs Hc Hel
      have hO := Blk.new wr #[.int .u8 kd, .int .i64 conn, .slice VB lb.length cb, .int .i64 ek, .int .i64 ec, .int .i64 en, .slice VE le.length ce] 30
      have hA := (Kp.refl Non wr).alloc (.cells #[.int .u8 kd, .int .i64 conn, .slice VB lb.length cb, .int .i64 ek, .int .i64 ec, .int .i64 en, .slice VE le.length ce] 30)
      have h4 := h3.keep hA
      go_wp2_with fail
      refine (wsent 0 _ h4 (hbd.bd (by omega))).mono ?_
      rintro e w5 ⟨v5, r5, rfl, o5, n5, k5⟩
      have hsent : gt S 0 Cn.sent [] = (S 0).b.take (S 0).a := by
        show (S 0).old ++ _ = _
        rw [List.eq_nil_of_length_eq_zero (Nat.le_zero.1 (hbd 0 (by omega)).1)]; rfl
      rw [hsent] at o5
      have s5 := o5.rd.str 26 5 9 Try.underlying26 Try.underlying5 Try.underlying9
      clear o5 n5 hsent
      go_wp2_with fail
      refine (wstate 0 _ (h4.keep k5)).mono ?_
      rintro e w6 ⟨rfl, k6⟩
      have h6 := (h4.keep k5).keep k6
      have hO6 := (hO.keep k5).keep k6
      rw [show gt S 0 Cn.st 0 = (S 0).st from rfl]
      have kA := (hA.seq k5).seq k6
      have H3 := hid h3
      have hbl := h3.blen 0 (by omega)
      have hal := h3.ale 0 (by omega)
      clear c0 c1 c2 c3 c4 c5 c6 hA h4 k5 k6 h3 hO s5
      have o0 := hO6.cell 0
      have o1 := hO6.cell 1
      have o2 := hO6.cell 2
      have o3 := hO6.cell 3
      have o4 := hO6.cell 4
      have o5 := hO6.cell 5
      have o6 := hO6.cell 6
      simp at o0 o1 o2 o3 o4 o5 o6
      go_upto_if 44 with fail
      go_cut [5, 9] (fun av gv wc => WGCut w g S av gv wc)
      case first =>
        by_cases t3 : kd % 8 = 3
        · have z3 : (kd % 8 == 3) = true := by simpa using t3
          go_wp2_with fail
          refine (short_calls _ rB lb _ (HB.out.keep h6.kp)).mono ?_
          rintro e w7 ⟨V7, rfl, hV7, k7⟩
          have hl15 : (lb.take 1500).length ≤ 1500 := by simp; omega
          go_wp2_with fail
          refine (wwrite_fr 0 _ rB (lb.take 1500) _ H3.out (kA.seq k7) hV7 (by omega)).mono ?_
          rintro e w8 ⟨rfl, h8, Z, k8, hZ⟩
          have hO8 := (hO6.keep k7).kp k8 (fun h => by have := hZ _ h; omega)
          have P2 := hO8.cell 2
          simp at P2
          have HB8 := hid ((HB.out.keep h6.kp).keep k7 |>.kp k8 (fun k hk h => by have := HrB.out k hk; have := hZ _ h; omega))
          have hW : writeE S 0 (lb.take 1500) = if outF (S 0).st = false ∨ (S 0).done = true then 65 else if (S 0).b.length + (lb.take 1500).length ≤ 4000 then 0 else 72 := rfl
          have hWS : writeS S 0 (lb.take 1500) = if writeE S 0 (lb.take 1500) = 0 then upd S 0 { S 0 with b := (S 0).b ++ lb.take 1500 } else S := rfl
          have hdone : ∀ T : Nat → Cn, gt T 0 Cn.done false = (T 0).done := fun T => rfl
          clear o0 o1 o2 o3 o4 o5 o6 z3
          by_cases hg : (S 0).st = 4
          · have e65 : writeE S 0 (lb.take 1500) = 65 := by rw [hW, if_pos (.inl (by rw [hg]; rfl))]
            have eS : writeS S 0 (lb.take 1500) = S := by rw [hWS, e65]; rfl
            rw [eS] at h8
            rw [e65, hg]
            clear hW hWS e65 eS
            have l0 : ¬ (4000 < (S 0).b.length) := by omega
            go_wp2_with fail
            go_meet
            case rel => exact ⟨S, _, rfl, rfl, fun _ => rfl, hst, hbd, h8⟩
          · have hg' : ((S 0).st == 4) = false := by simpa using hg
            have hof := hst.out hg
            by_cases hd : (S 0).done = true
            · have e65 : writeE S 0 (lb.take 1500) = 65 := by rw [hW, if_pos (.inr hd)]
              have eS : writeS S 0 (lb.take 1500) = S := by rw [hWS, e65]; rfl
              rw [eS] at h8
              rw [e65]
              clear hW hWS e65 eS
              have l0 : ¬ (4000 < (S 0).b.length) := by omega
              go_wp2_with fail
              refine (wfinished 0 _ h8).mono ?_
              rintro e w9 ⟨rfl, k9⟩
              rw [hdone, hd]
              go_wp2_with fail
              go_meet
              case rel => exact ⟨S, _, rfl, rfl, fun _ => rfl, hst, hbd, h8.keep k9⟩
            · have hd' : (S 0).done = false := by simpa using hd
              by_cases hle : (S 0).b.length + (lb.take 1500).length ≤ 4000
              · have e0 : writeE S 0 (lb.take 1500) = 0 := by rw [hW, if_neg (by rw [hof, hd']; simp), if_pos hle]
                have eS : writeS S 0 (lb.take 1500) = upd S 0 { S 0 with b := (S 0).b ++ lb.take 1500 } := by rw [hWS, e0]; rfl
                rw [eS] at h8
                rw [e0]
                clear hW hWS e0 eS
                go_wp2_with fail
                refine (short_calls _ rB lb _ HB8.out).mono ?_
                rintro e w9 ⟨V9, rfl, hV9, k9⟩
                have s9 := hV9.str 26 5 9 Try.underlying26 Try.underlying5 Try.underlying9
                have hcat : ¬ (9223372036854775807 < (S 0).b.length + (lb.take 1500).length) := by omega
                have h9 := h8.keep k9
                have P9 := k9.cell P2 (fun x => x)
                have hb9 : BdN 0 (upd S 0 { S 0 with b := (S 0).b ++ lb.take 1500 }) := hbd.upd _ _ ⟨rfl, rfl⟩
                have hT : (upd S 0 { S 0 with b := (S 0).b ++ lb.take 1500 }) 0 = { S 0 with b := (S 0).b ++ lb.take 1500 } := upd_same _ _ _
                have hTd : (upd S 0 { S 0 with b := (S 0).b ++ lb.take 1500 } 0).done = false := by rw [hT]; exact hd'
                have hTb : (S 0).b ++ lb.take 1500 = (upd S 0 { S 0 with b := (S 0).b ++ lb.take 1500 } 0).b := by rw [hT]
                have hTs : Stt (upd S 0 { S 0 with b := (S 0).b ++ lb.take 1500 } 0).st := by rw [hT]; exact hst
                have hcc : strOf (S 0).b ++ strOf (lb.take 1500) = strOf (upd S 0 { S 0 with b := (S 0).b ++ lb.take 1500 } 0).b := by rw [strOf_append]; exact congrArg strOf hTb
                have hTl : ¬ (4000 < (upd S 0 { S 0 with b := (S 0).b ++ lb.take 1500 } 0).b.length) := by rw [← hTb, List.length_append]; omega
                clear hT hTb P2 h8
                generalize upd S 0 { S 0 with b := (S 0).b ++ lb.take 1500 } = T at h9 hb9 hTd hTs hcc hTl
                generalize lb.take 1500 = l15 at hcat s9 hcc hle hl15 hV9
                clear hV9
                go_wp2_with fail
                refine (wfinished 0 _ h9).mono ?_
                rintro e w10 ⟨rfl, k10⟩
                rw [hdone, hTd]
                go_wp2_with fail
                go_meet
                case rel => exact ⟨T, _, by rw [← hcc], rfl, fun h => by simp at h, hTs, hb9, h9.keep k10⟩
              · have e72 : writeE S 0 (lb.take 1500) = 72 := by rw [hW, if_neg (by rw [hof, hd']; simp), if_neg hle]
                have eS : writeS S 0 (lb.take 1500) = S := by rw [hWS, e72]; rfl
                rw [eS] at h8
                rw [e72]
                clear hW hWS e72 eS
                have l0 : ¬ (4000 < (S 0).b.length) := by omega
                go_wp2_with fail
                refine (wfinished 0 _ h8).mono ?_
                rintro e w9 ⟨rfl, k9⟩
                have P9 := k9.cell P2 (fun x => x)
                rw [hdone, hd']
                go_wp2_with fail
                refine (short_calls _ rB lb _ (HB8.out.keep k9)).mono ?_
                rintro e w10 ⟨V10, rfl, hV10, k10⟩
                generalize lb.take 1500 = l15 at hV10 hle hl15
                obtain ⟨A10, c10, rfl, _, _, _⟩ := hV10
                rw [byv_length]
                have hwr : IntKind.i64.wrap (((S 0).b.length : Int) + l15.length) = (((S 0).b.length + l15.length : Nat) : Int) := by rw [IntWalk.i64_in _ (by omega)]; omega
                have tl : decide ((((S 0).b.length + l15.length : Nat) : Int) ≤ 4000) = false := by simp; omega
                go_wp2_with fail
                go_meet
                case rel => exact ⟨S, _, rfl, rfl, fun _ => rfl, hst, hbd, (h8.keep k9).keep k10⟩
        · have z3 : (kd % 8 == 3) = false := by simpa using t3
          by_cases t4 : kd % 8 = 4
          · have z4 : (kd % 8 == 4) = true := by simpa using t4
            go_wp2_with fail
            refine (wfinish conn _ h6).mono ?_
            rintro e w7 ⟨rfl, h7⟩
            obtain ⟨f1, f2, f3⟩ := fin_same S conn 0
            have hb7 := hbd.fin conn
            go_wp2_with fail
            go_meet
            case rel => exact ⟨finS S conn, _, by rw [f1], rfl, fun _ => by rw [f1, f2], by rw [f3]; exact hst, hb7, h7⟩
          · have z4 : (kd % 8 == 4) = false := by simpa using t4
            by_cases tl : kd % 8 < 3
            · have zl : decide (kd % 8 < 3) = true := decide_eq_true tl
              go_wp2_with fail
              refine (event_calls ek ec en _ rE le _ (HE.out.keep h6.kp) (fun k hk => by have := HrE.out k hk; have := h6.kp.size; omega)).mono ?_
              rintro e w7 ⟨V, rfl, hV, k7⟩
              have hl15 : (le.take 1500).length ≤ 1500 := by simp; omega
              go_wp2_with fail
              refine (whappen ek ec en _ rE (le.take 1500) _ (h6.keep k7) hV HrE.out (by omega)).mono ?_
              rintro e w8 ⟨v8, r8, rfl, o8, n8, h8⟩
              have hf := hap_st S ek ec en (le.take 1500) 0 (by omega)
              have hb8 := hbd.hap ek ec en (le.take 1500)
              have f1 := hap_b S ek ec en (le.take 1500) 0
              have f2 := fun h => hap_gone S ek ec en (le.take 1500) 0 (by omega) h
              generalize hapE S ek ec en (le.take 1500) = E at ⊢
              generalize hapS S ek ec en (le.take 1500) = T at hf hb8 h8 f1 f2
              have HH := hid (And.intro hf (And.intro f1 f2))
              clear hf f1 f2 o0 o1 o2 o3 o4 o5 o6
              go_wp2_with fail
              go_meet
              case rel =>
                obtain ⟨hf, f1, f2⟩ := HH.out
                refine ⟨T, _, by rw [f1], rfl, fun h => by rw [f1, f2 (by simpa using h)], ?_, hb8, h8⟩
                rcases hf with h | h | h | h
                · rw [h]; exact hst
                · exact .inr (.inl h.2)
                · exact .inr (.inr h.2)
                · omega
            · have zl : decide (kd % 8 < 3) = false := decide_eq_false tl
              go_wp2_with fail
              go_meet
              case rel => exact ⟨S, _, rfl, rfl, fun _ => rfl, hst, hbd, h6⟩
      case rest =>
        obtain ⟨T, G, rfl, rfl, hG, hS, hbT, hT⟩ := hcut
        clear h6 hO6 o0 o1 o2 o3 o4 o5 o6 kA H3 hbd hbl hal hst
        generalize (S 0).b.take (S 0).a = was at hG ⊢
        go_wp2_with fail
        refine (wsent 0 _ hT (hbT.bd (by omega))).mono ?_
        rintro e' w8 ⟨v8, r8, rfl, o8, n8, k8⟩
        have hsent : gt T 0 Cn.sent [] = (T 0).b.take (T 0).a := by
          show (T 0).old ++ _ = _
          rw [List.eq_nil_of_length_eq_zero (Nat.le_zero.1 (hbT 0 (by omega)).1)]; rfl
        rw [hsent] at o8
        have s8 := o8.rd.str 26 5 9 Try.underlying26 Try.underlying5 Try.underlying9
        clear o8 n8 hsent
        have h8 := hT.keep k8
        go_wp2_with fail
        refine (wwritten 0 _ h8 (hbT.bd (by omega))).mono ?_
        rintro e' w9 ⟨v9, r9, rfl, o9, n9, k9⟩
        have hwrt : gt T 0 Cn.written [] = (T 0).b := by
          show (T 0).wrote ++ _ = _
          rw [List.eq_nil_of_length_eq_zero (Nat.le_zero.1 (hbT 0 (by omega)).2)]; rfl
        rw [hwrt] at o9
        have s9 := o9.rd.str 26 5 9 Try.underlying26 Try.underlying5 Try.underlying9
        have h9 := h8.keep k9
        clear o9 n9 hwrt s8 hT h8 k8 k9
        have hbl := h9.blen 0 (by omega)
        have hal := h9.ale 0 (by omega)
        have HH := hid (And.intro hS (And.intro hbT h9))
        have hwt : gt T 0 Cn.waits 0 = if outF (T 0).st then ((T 0).b.length : Int) - (T 0).a else 0 := rfl
        have hst : gt T 0 Cn.st 0 = (T 0).st := rfl
        have hex : (strOf (T 0).b).extract 0 (T 0).a = strOf ((T 0).b.take (T 0).a) := by rw [strOf_extract]; rfl
        have hln : ((T 0).b.take (T 0).a).length = (T 0).a := by rw [List.length_take]; omega
        have hl1 : ¬ ((T 0).b.length < (T 0).a) := by omega
        have hl2 : (T 0).a ≤ (T 0).b.length := hal
        have hwr : IntKind.i64.wrap (((T 0).b.length : Int) - (T 0).a) = ((T 0).b.length : Int) - (T 0).a := IntWalk.i64_in _ (by omega)
        have hh : (G = true ∧ was = (T 0).b.take (T 0).a) ∨ G = false := by
          cases G
          · exact .inr rfl
          · exact .inl ⟨rfl, hG rfl⟩
        clear hG hbT
        rcases hh with ⟨rfl, rfl⟩ | rfl
        all_goals
          by_cases h4 : (T 0).st = 4
          · rw [h4] at hwt hst
            have hwt0 : gt T 0 Cn.waits 0 = 0 := hwt
            clear hwt h4
            go_wp2_with fail
            refine (wstate 0 _ h9).mono ?_
            rintro e' w10 ⟨rfl, k10⟩
            rw [hst]
            go_wp2_with fail
            refine (wstate 0 _ (h9.keep k10)).mono ?_
            rintro e' w11 ⟨rfl, k11⟩
            rw [hst]
            go_wp2_with fail
            refine (wwaits 0 _ ((h9.keep k10).keep k11)).mono ?_
            rintro e' w12 ⟨rfl, k12⟩
            rw [hwt0]
            go_wp2_with fail
            go_roundw
            case rel => exact ⟨j + 1, T, rfl, by go_num, by omega, by omega, HH.out.1, HH.out.2.1, ((h9.keep k10).keep k11).keep k12⟩
            case measure => simp [intOf]; omega
          · have hof := hS.out h4
            rw [if_pos hof] at hwt
            have hne : ((T 0).st != 4) = true := by simpa using h4
            have heq : ((T 0).st == 4) = false := by simpa using h4
            clear h4
            go_wp2_with fail
            refine (wstate 0 _ h9).mono ?_
            rintro e' w10 ⟨rfl, k10⟩
            rw [hst]
            go_wp2_with fail
            refine (wwaits 0 _ (h9.keep k10)).mono ?_
            rintro e' w11 ⟨rfl, k11⟩
            rw [hwt]
            go_wp2_with fail
            refine (wstate 0 _ ((h9.keep k10).keep k11)).mono ?_
            rintro e' w12 ⟨rfl, k12⟩
            rw [hst]
            go_wp2_with fail
            go_roundw
            case rel => exact ⟨j + 1, T, rfl, by go_num, by omega, by omega, HH.out.1, HH.out.2.1, ((h9.keep k10).keep k11).keep k12⟩
            case measure => simp [intOf]; omega
    · by_cases he1 : j < CS.length
      all_goals
        have he2 : j < CS.length → ¬ j < 60 := fun h1 h2 => hend ⟨h1, h2⟩
        go_wp2_with fail
        go_ret
        exact ⟨rfl, h3.kp⟩

end Go.Proofs.Ytpbkipolgdldfaa

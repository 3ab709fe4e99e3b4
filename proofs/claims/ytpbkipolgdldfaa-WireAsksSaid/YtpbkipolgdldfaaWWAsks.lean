/- The walk of WireAsks: it answers true and writes nothing that was there. -/
import Derived.Test.YtpbkipolgdldfaaWPure
import Derived.Test.YtpbkipolgdldfaaOpen
import Derived.Deep.DeepCutAuto
import Derived.Deep.CutBlock
namespace Go.Proofs.Ytpbkipolgdldfaa
open Go.RowKit
set_option linter.unusedSimpArgs false
set_option linter.unusedVariables false
attribute [local go_sem] max2_of min2_of max_of min_of
attribute [local go_sem] strOf_size

section
variable (S : Nat → Cn) (l : List UInt8)
theorem wr_no (h : outF (S 1).st = false ∨ (S 1).done = true) : writeE S 1 l = 65 ∧ writeS S 1 l = S := by
  have hE : writeE S 1 l = 65 := by
    show (if outF (S 1).st = false ∨ (S 1).done = true then (65 : Int) else _) = _
    rw [if_pos h]
  refine ⟨hE, ?_⟩
  unfold writeS
  rw [hE]; rfl
theorem wr_yes (h : outF (S 1).st = true) (hd : (S 1).done = false) (hl : (S 1).b.length + l.length ≤ 4000) : writeE S 1 l = 0 ∧ writeS S 1 l 1 = { S 1 with b := (S 1).b ++ l } ∧ writeS S 1 l 0 = S 0 := by
  have hE : writeE S 1 l = 0 := by
    show (if outF (S 1).st = false ∨ (S 1).done = true then (65 : Int) else if (S 1).b.length + l.length ≤ 4000 then 0 else 72) = _
    rw [if_neg (by rw [h, hd]; simp), if_pos hl]
  unfold writeS
  rw [hE]
  exact ⟨rfl, rfl, rfl⟩
theorem ask_yes (h : (S 1).st ≠ 1) : askS S 1 = ⟨1, 0, false, [], 0, (S 1).sent, (S 1).written⟩ ∧ askS S 0 = S 0 := by
  unfold askS
  rw [if_neg h]
  exact ⟨rfl, rfl⟩
theorem ask_no (h : (S 1).st = 1) : askS S = S := by
  unfold askS
  rw [if_pos h]
theorem hap_conn (h : (S 1).st = 1) : hapE S 5 1 1 [] = 0 ∧ hapS S 5 1 1 [] 1 = { S 1 with st := 2 } ∧ hapS S 5 1 1 [] 0 = S 0 := by
  have hE : hapE S 5 1 1 [] = 0 := by rw [hapE5, if_pos ⟨rfl, h⟩]
  unfold hapS
  rw [hE]
  exact ⟨rfl, rfl, rfl⟩
theorem hap_take (n : Int) (hst : (S 1).st = 2) (ha : (S 1).a = 0) (hn : 0 ≤ n) :
    ∃ E, hapE S 2 1 n [] = E ∧ hapS S 2 1 n [] 1 = { S 1 with a := (min n (S 1).b.length).toNat } ∧ hapS S 2 1 n [] 0 = S 0 := by
  refine ⟨_, rfl, ?_⟩
  have hw : gt S 1 Cn.waits 0 = ((S 1).b.length : Int) := by
    show Cn.waits (S 1) = _
    unfold Cn.waits
    rw [hst, ha]; simp [outF]
  have htk : (S 1).a + tk (S 1).b (S 1).a n = (min n (S 1).b.length).toNat := by
    unfold tk
    rw [ha]; omega
  by_cases h : 0 < n ∧ 0 < (S 1).b.length
  · have hE : hapE S 2 1 n [] = 0 := by rw [hapE2, hw, if_pos ⟨h.1, by omega⟩]
    unfold hapS
    rw [hE]
    refine ⟨?_, rfl⟩
    show ({ S 1 with a := (S 1).a + tk (S 1).b (S 1).a n } : Cn) = _
    rw [htk]
  · have hE : hapE S 2 1 n [] = 1 := by rw [hapE2, hw, if_neg (by omega)]
    have h0 : (min n (S 1).b.length).toNat = (S 1).a := by rw [ha]; omega
    rw [hapS_no (by omega), h0]
    exact ⟨rfl, rfl⟩
theorem fin_1 (h : outF (S 1).st = true) : finS S 1 1 = { S 1 with done := true } ∧ finS S 1 0 = S 0 := by
  have : gt S 1 (fun X => outF X.st) false = true := h
  unfold finS
  rw [if_pos this]
  exact ⟨rfl, rfl⟩
end

def WAInv (w : World) (g n : Nat) (av sv iv : Value) (wr : World) : Prop :=
  ∃ (j : Nat) (S : Nat → Cn), av = .string (strOf (S 1).written) ∧ sv = .string (strOf (S 1).sent) ∧ iv = .int .i64 j ∧ j ≤ n ∧ j ≤ 5 ∧
    (outF (S 1).st = false ∨ (S 1).done = true) ∧ (S 1).st ≠ 1 ∧ S 0 = ⟨2, 0, false, [], 0, [], []⟩ ∧ (S 1).sent.length ≤ 500 * j ∧ (S 1).written.length ≤ 500 * j ∧ Wr w wr g S

theorem bd_one {S : Nat → Cn} {N : Nat} (h0 : S 0 = ⟨2, 0, false, [], 0, [], []⟩) (h1 : (S 1).old.length ≤ N ∧ (S 1).wrote.length ≤ N) : BdN N S := fun i hi => by
  have : i = 0 ∨ i = 1 := by omega
  rcases this with rfl | rfl
  · rw [h0]; exact ⟨Nat.zero_le _, Nat.zero_le _⟩
  · exact h1

set_option maxRecDepth 100000 in
set_option maxHeartbeats 40000000 in
theorem wasks_walk (w : World) (v : Value) (ls : List (List UInt8)) (hv : Rows2 w v ls) (tv : Value) (tr : Option Nat) (tl : List UInt8) (ht : Rd w tv tr (byv tl)) :
    Calls Try.prog 6 #[v, tv] w fun e w' => e = .returned (.bool true) ∧ Kp Non w w' := by
  obtain ⟨row, vs, ⟨A, c, rfl, hlc, hcm, hc⟩, hlen, hel⟩ := hv
  have Hel := hid hel
  have Hc := hid hc
  clear hel hc
  unfold maxLen at hcm
  rw [hlen] at hlc ⊢
  have Hlen := hid hlen
  clear hlen
  obtain ⟨tr', ht', _⟩ := ht.bound
  obtain ⟨TA, tc, rfl, _, htm, htx⟩ := ht'
  have HT := hid htx
  have htm := hid htm
  clear ht htx
  rw [byv_length] at *
  go_enter Try.func6, Try.ntmps6
  go_wp2_with fail
  refine (shown_calls _).mono ?_
  rintro e w1 ⟨rfl, k1⟩
  go_wp2_with fail
  refine (wnew (w0 := w) _ k1).mono ?_
  rintro e w2 ⟨g, rfl, h2⟩
  clear k1
  go_wp2_with fail
  go_loopw [7, 8, 9] (fun av sv iv wr => WAInv w g ls.length av sv iv wr) (fun _ _ iv _ => 6 - (intOf iv).toNat)
  case atStart => exact ⟨0, S0, rfl, rfl, rfl, by omega, by omega, .inl rfl, by decide, rfl, by decide, by decide, h2⟩
  case round =>
    clear h2
    obtain ⟨j, S, rfl, rfl, rfl, hj1, hj2, hcl, hst, hz, hls, hlw, h3⟩ := hrel
    by_cases hend : j < ls.length ∧ j < 5
    · obtain ⟨he1, he2⟩ := hend
      obtain ⟨u, ri, hu, hru⟩ := Hel.out j _ (List.getElem?_eq_getElem he1)
      obtain ⟨bb, off, rfl, hcell⟩ : ∃ bb off, A = some ⟨bb, off, none⟩ ∧ w.cell? ⟨bb, off + j, none⟩ = some u := by
        rcases Hc.out with h | ⟨bb, off, hA, _, h⟩
        · rw [h] at hu; simp at hu
        · exact ⟨bb, off, hA, h j u hu⟩
      obtain ⟨rb, hrb, hrlt⟩ := hru.bound
      have hcell3 := h3.kp.cell hcell (fun x => x)
      generalize ls[j] = l at hrb hru
      have HS := hid (And.intro hcl (And.intro hst (And.intro hz (And.intro hls (And.intro hlw h3)))))
      clear hu hru hcell Hel Hc hcl hst hz hls hlw
      have HB := hid hrb
      obtain ⟨VB, cb, rfl, hcb1, hcb2, _⟩ := hrb
      rw [byv_length] at HB hcb1 hcell3
      unfold maxLen at hcb2
      go_upto_if 40 with fail
      go_cut [10] (fun bv wc => wc = wr ∧ Rd w bv rb (byv (l.take 500)))
      case first =>
        by_cases hl : 500 < l.length
        · obtain ⟨V, hV, hVr⟩ := HB.out.slice_h Try.underlying26 size8 500 500 rfl (by rw [byv_length]; omega)
          rw [byv_take] at hVr
          go_wp2_with fail
          go_meet
          case rel => exact ⟨rfl, hVr⟩
        · have e : l.take 500 = l := List.take_of_length_le (by omega)
          go_wp2_with fail
          go_meet
          case rel => exact ⟨rfl, by rw [e]; exact HB.out⟩
      case rest =>
        obtain ⟨rfl, hb⟩ := hcut
        clear HB hcb1 hcb2 hcell3 h3
        have hl5 : (l.take 500).length ≤ 500 := by simp; omega
        generalize l.take 500 = b at hb hl5
        have HB := hid hb
        obtain ⟨VB', cb', rfl, _, hcb, _⟩ := hb
        rw [byv_length] at HB ⊢
        obtain ⟨hcl, hst, hz, hls, hlw, h3⟩ := HS.out
        obtain ⟨e1, s1⟩ := wr_no S b hcl
        go_wp2_with fail
        refine (wwrite 1 _ rb b _ h3 (HB.out.keep h3.kp) (by omega)).mono ?_
        rintro e w3 ⟨rfl, h4⟩
        rw [s1] at h4
        rw [e1]
        clear h3
        have hbd : BdN 20000 S := bd_one hz ⟨by have := hls; simp only [Cn.sent, List.length_append] at this; omega, by have := hlw; simp only [Cn.written, List.length_append] at this; omega⟩
        obtain ⟨a1, a0⟩ := ask_yes S hst
        go_wp2_with fail
        refine (wask _ h4 (hbd.bd (by omega))).mono ?_
        rintro e w4 ⟨rfl, h5⟩
        rw [decide_eq_true hst]
        rw [hz] at a0
        generalize askS S = S1 at a1 a0 h5
        have hbd1 : BdN 20000 S1 := bd_one a0 (by rw [a1]; exact ⟨by show (S 1).sent.length ≤ _; omega, by show (S 1).written.length ≤ _; omega⟩)
        have hst1 : (S1 1).st = 1 := by rw [a1]
        clear h4
        go_wp2_with fail
        refine (wask _ h5 (hbd1.bd (by omega))).mono ?_
        rintro e w5 ⟨rfl, h6⟩
        rw [ask_no S1 hst1] at h6
        rw [decide_eq_false (show ¬ (S1 1).st ≠ 1 by rw [hst1]; simp)]
        clear h5
        obtain ⟨e2, s2⟩ := wr_no S1 b (.inl (by rw [hst1]; rfl))
        go_wp2_with fail
        refine (wwrite 1 _ rb b _ h6 (HB.out.keep h6.kp) (by omega)).mono ?_
        rintro e w6 ⟨rfl, h7⟩
        rw [s2] at h7
        rw [e2]
        clear h6
        obtain ⟨e3, s31, s30⟩ := hap_conn S1 hst1
        go_wp2_with fail
        refine (whappen 5 1 1 _ none [] _ h7 (Rd.nil _ none 0 (by simp [maxLen]) none) (fun k hk => by cases hk) (by decide)).mono ?_
        rintro e w7 ⟨v7, r7, rfl, o7, n7, h8⟩
        obtain ⟨A7, c7, rfl, _, _⟩ := o7.form
        rw [a1] at s31
        rw [a0] at s30
        generalize hapS S1 5 1 1 [] = S2 at s31 s30 h8
        generalize hapE S1 5 1 1 [] = E2
        clear o7 n7 e3 h7
        have HX := hid (And.intro s31 s30)
        clear s31 s30 a1 a0 hst1 hbd hbd1 e1 s1 e2 s2 hcl hst hz
        go_upto_if 72 with fail
        go_cut [15] (fun nv wc => ∃ n : Int, nv = .int .i64 n ∧ 0 ≤ n ∧ n ≤ 255 ∧ Wr w wc g S2)
        case first =>
          by_cases hj : j < tl.length
          · have htj : (byv tl)[j]? = some (.int .u8 (tl[j]).toNat) := by rw [byv_get, List.getElem?_eq_getElem hj]; rfl
            have h255 : (tl[j]).toNat < 256 := UInt8.toNat_lt _
            obtain ⟨tb, toff, rfl, htc⟩ : ∃ tb toff, TA = some ⟨tb, toff, none⟩ ∧ w.cell? ⟨tb, toff + j, none⟩ = some (.int .u8 (tl[j]).toNat) := by
              rcases HT.out with h | ⟨tb, toff, hA, _, h⟩
              · rw [h] at htj; simp at htj
              · exact ⟨tb, toff, hA, h j _ htj⟩
            have htc8 := h8.kp.cell htc (fun x => x)
            clear htj htc
            generalize (tl[j]).toNat = t at h255 htc8
            have hwr : IntKind.i64.wrap (t : Int) = t := IntWalk.i64_in _ (by omega)
            go_wp2_with fail
            go_meet
            case rel => exact ⟨t, rfl, by omega, by omega, h8⟩
          · go_wp2_with fail
            go_meet
            case rel => exact ⟨0, rfl, by omega, by omega, h8⟩
        case rest =>
          obtain ⟨n, rfl, hn0, hn1, h9⟩ := hcut
          clear h8
          obtain ⟨s31, s30⟩ := HX.out
          obtain ⟨e4, s41, s40⟩ := wr_yes S2 b (by rw [s31]; rfl) (by rw [s31]) (by rw [s31]; show 0 + _ ≤ _; omega)
          rw [s31] at s41
          rw [s30] at s40
          clear s31 s30
          go_wp2_with fail
          refine (wwrite 1 _ rb b _ h9 (HB.out.keep h9.kp) (by omega)).mono ?_
          rintro e w10 ⟨rfl, h10⟩
          rw [e4]
          clear e4 h9
          generalize writeS S2 1 b = S3 at s41 s40 h10
          have hb10 := HB.out.keep h10.kp
          have sb := hb10.str 26 5 9 Try.underlying26 Try.underlying5 Try.underlying9
          have hcat : ¬ (9223372036854775807 < (S 1).written.length + b.length) := by omega
          clear hb10
          obtain ⟨E5, e5, s51, s50⟩ := hap_take S3 n (by rw [s41]) (by rw [s41]) hn0
          have HY := hid (And.intro s41 (And.intro s40 (And.intro s51 (And.intro s50 h10))))
          clear s41 s40 s51 s50
          go_wp2_with fail
          refine (whappen 2 1 n _ none [] _ h10 (Rd.nil _ none 0 (by simp [maxLen]) none) (fun k hk => by cases hk) (by decide)).mono ?_
          rintro e w11 ⟨v11, r11, rfl, o11, n11, h11⟩
          obtain ⟨A11, c11, rfl, _, _⟩ := o11.form
          obtain ⟨s41, s40, s51, s50, _⟩ := HY.out
          generalize hapE S3 2 1 n [] = E6 at e5 ⊢
          clear o11 n11 e5 h10 HY sb hcat
          generalize hapS S3 2 1 n [] = S4 at s51 s50 h11
          rw [s41] at s51
          rw [s40] at s50
          clear s41 s40
          obtain ⟨M, hM⟩ : ∃ M : Nat, min n (b.length : Int) = M := ⟨(min n (b.length : Int)).toNat, by omega⟩
          have hMl : M ≤ b.length := by omega
          have hb11 := HB.out.keep h11.kp
          obtain ⟨V, hV, hVr⟩ := hb11.slice_h Try.underlying26 size8 (M : Int) M rfl (by rw [byv_length]; omega)
          rw [byv_take] at hVr
          have sV := hVr.str 26 5 9 Try.underlying26 Try.underlying5 Try.underlying9
          clear hVr hb11
          have htl : (b.take M).length = M := by rw [List.length_take]; omega
          have hcat : ¬ (9223372036854775807 < (S 1).sent.length + (b.take M).length) := by rw [htl]; omega
          have s51' : S4 1 = ⟨2, 0, false, b, M, (S 1).sent, (S 1).written⟩ := by
            rw [s51]
            have : (min n (([] ++ b : List UInt8).length : Int)).toNat = M := by rw [List.nil_append, hM]; rfl
            simp only [List.nil_append] at this ⊢
            rw [this]
          have hbd4 : BdN 20000 S4 := bd_one s50 (by rw [s51']; exact ⟨by show (S 1).sent.length ≤ _; omega, by show (S 1).written.length ≤ _; omega⟩)
          have hwrt : gt S4 1 Cn.written [] = (S 1).written ++ b := by show (S4 1).written = _; rw [s51']; rfl
          have hsnt : gt S4 1 Cn.sent [] = (S 1).sent ++ b.take M := by show (S4 1).sent = _; rw [s51']; rfl
          have hwt : gt S4 1 Cn.waits 0 = (b.length : Int) - M := by show (S4 1).waits = _; rw [s51']; rfl
          have HZ := hid (And.intro s51' s50)
          clear s51 s51' s50
          have hwr : IntKind.i64.wrap ((b.length : Int) - M) = (b.length : Int) - M := IntWalk.i64_in _ (by omega)
          have hc1 : strOf (S 1).written ++ strOf b = strOf ((S 1).written ++ b) := strOf_append _ _
          have hc2 : strOf (S 1).sent ++ strOf (b.take M) = strOf ((S 1).sent ++ b.take M) := strOf_append _ _
          have hlw' : ((S 1).written ++ b).length ≤ 500 * (j + 1) := by rw [List.length_append]; omega
          have hls' : ((S 1).sent ++ b.take M).length ≤ 500 * (j + 1) := by rw [List.length_append, htl]; omega
          generalize (S 1).written = LW at *
          generalize (S 1).sent = LS at *
          have hl5' := hl5
          go_wp2_with fail
          refine (wwritten 1 _ h11 (hbd4.bd (by omega))).mono ?_
          rintro e w12 ⟨v12, r12, rfl, o12, n12, k12⟩
          rw [hwrt] at o12
          have s12 := o12.rd.str 26 5 9 Try.underlying26 Try.underlying5 Try.underlying9
          clear o12 n12 hwrt
          go_wp2_with fail
          refine (wsent 1 _ (h11.keep k12) (hbd4.bd (by omega))).mono ?_
          rintro e w13 ⟨v13, r13, rfl, o13, n13, k13⟩
          rw [hsnt] at o13
          have s13 := o13.rd.str 26 5 9 Try.underlying26 Try.underlying5 Try.underlying9
          have h13 := (h11.keep k12).keep k13
          clear o13 n13 hsnt s12 k12 k13 h11
          go_wp2_with fail
          refine (wwaits 1 _ h13).mono ?_
          rintro e w14 ⟨rfl, k14⟩
          rw [hwt]
          have h14 := h13.keep k14
          clear h13 s13
          go_wp2_with fail
          refine (wfinish 1 _ h14).mono ?_
          rintro e w15 ⟨rfl, h15⟩
          obtain ⟨s51, s50⟩ := HZ.out
          obtain ⟨f1, f0⟩ := fin_1 S4 (by rw [s51]; rfl)
          rw [s51] at f1
          rw [s50] at f0
          generalize finS S4 1 = S5 at f1 f0 h15
          clear s51 s50 h14
          obtain ⟨e6, s6⟩ := wr_no S5 b (.inr (by rw [f1]))
          have HF := hid (And.intro f1 f0)
          clear f1 f0
          go_wp2_with fail
          refine (wwrite 1 _ rb b _ h15 (HB.out.keep h15.kp) (by omega)).mono ?_
          rintro e w16 ⟨rfl, h16⟩
          rw [s6] at h16
          rw [e6]
          clear h15 e6 s6
          go_wp2_with fail
          refine (wfinished 1 _ h16).mono ?_
          rintro e w17 ⟨rfl, k17⟩
          rw [show gt S5 1 Cn.done false = true by show (S5 1).done = true; rw [HF.out.1]]
          go_wp2_with fail
          go_roundw
          case rel =>
            obtain ⟨f1, f0⟩ := HF.out
            have x1 : (S5 1).written = LW ++ b := by rw [f1]; rfl
            have x2 : (S5 1).sent = LS ++ b.take M := by rw [f1]; rfl
            exact ⟨j + 1, S5, by rw [x1], by rw [x2], by go_num, by omega, by omega, .inr (by rw [f1]), by rw [f1]; show (2 : Int) ≠ 1; decide, f0, by rw [x2]; exact hls', by rw [x1]; exact hlw', h16.keep k17⟩
          case measure => simp [intOf]; omega
    · by_cases he1 : j < ls.length
      all_goals
        have he2 : j < ls.length → ¬ j < 5 := fun h1 h2 => hend ⟨h1, h2⟩
        go_wp2_with fail
        refine (wstate 0 _ h3).mono ?_
        rintro e w4 ⟨rfl, k4⟩
        rw [show gt S 0 Cn.st 0 = 2 by show (S 0).st = 2; rw [hz]]
        go_wp2_with fail
        refine (wwritten 0 _ (h3.keep k4) ((bd_one hz ⟨by have := hls; simp only [Cn.sent, List.length_append] at this; omega, by have := hlw; simp only [Cn.written, List.length_append] at this; omega⟩ : BdN 20000 S).bd (by omega))).mono ?_
        rintro e w5 ⟨v5, r5, rfl, o5, n5, k5⟩
        rw [show gt S 0 Cn.written [] = [] by show (S 0).written = []; rw [hz]; rfl] at o5
        obtain ⟨A5, c5, rfl, _, _⟩ := o5.form
        go_wp2_with fail
        go_ret
        exact ⟨rfl, (h3.kp.seq k4).seq k5⟩

end Go.Proofs.Ytpbkipolgdldfaa

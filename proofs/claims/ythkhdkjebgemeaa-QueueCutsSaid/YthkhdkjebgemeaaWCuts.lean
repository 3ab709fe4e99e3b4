/- The walk of QueueCuts: it answers true and writes nothing that was there. -/
import Derived.Test.YthkhdkjebgemeaaQLaw
import Derived.Test.YthkhdkjebgemeaaOpen
namespace Go.Proofs.Ythkhdkjebgemeaa
open Go.RowKit
set_option linter.unusedSimpArgs false
set_option linter.unusedVariables false
attribute [local go_sem] max2_of min2_of max_of min_of
attribute [local go_sem] strOf_size strOf_append

/-- What holds at the head of QueueCuts' rounds. -/
def CutsInv (w : World) (g : Nat) (n : Nat) (want got i : Value) (wr : World) : Prop :=
  ∃ (k a : Nat) (W : List UInt8) (r : Option Nat), i = .int .i64 k ∧ want = .string (strOf W) ∧ got = .string (strOf (W.take a)) ∧ k ≤ n ∧ k ≤ 20 ∧ W.length ≤ 60 * k ∧ Que wr g r W a 5000 ∧ (∀ i, r = some i → w.heap.size ≤ i) ∧ Kp Non w wr

/-- .. and of the rounds within. -/
def CutsIn (w0 : World) (e : Nat) (A : Option Addr) (n c : Nat) (r : Option Nat) (i : Value) (wr : World) : Prop :=
  ∃ (j : Nat) (l : List Value), i = .int .i64 j ∧ j ≤ n ∧ Own wr e 1 (.slice A n c) r n l ∧ Kp (Row r) w0 wr

set_option maxHeartbeats 2000000 in
theorem cuts_walk (w : World) (v : Value) (ls : List (List UInt8)) (hl : Rows2 w v ls) (v2 : Value) (rt : Option Nat) (tb : List UInt8) (ht : Rd w v2 rt (byv tb)) :
    Calls Try.prog 3 #[v, v2] w fun e w' => e = .returned (.bool true) ∧ Kp Non w w' := by
  obtain ⟨rl, vs, hv, hlen, hel⟩ := hl
  have Hel := hid hel
  obtain ⟨A, c, rfl, hlc, hcm, hx⟩ := hv
  have Hc := hid hx
  obtain ⟨T, ct, rfl, htc, htm, hy⟩ := ht
  have Ht := hid hy
  rw [byv_length] at htc ⊢
  unfold maxLen at hcm htm
  clear hel hx hy
  rw [hlen] at hlc ⊢
  have Hlen := hid hlen
  clear hlen
  go_enter Try.func3, Try.ntmps3
  go_wp2_with fail
  refine (shown_calls _).mono ?_
  rintro e w1 ⟨rfl, k1⟩
  go_wp2_with fail
  refine (qnew_calls 5000 _ (by omega)).mono ?_
  rintro e w2 ⟨g, rfl, hg, q2, k2⟩
  have hgw : w.heap.size ≤ g := by have := k1.size; omega
  have K2 := k1.seq k2
  clear k1 k2 hg
  go_wp2_with fail
  go_loopw [7, 8, 9] (fun want got i wr => CutsInv w g ls.length want got i wr) (fun _ _ i _ => 21 - (intOf i).toNat)
  case atStart => exact ⟨0, 0, [], none, rfl, rfl, rfl, by omega, by omega, by simp, q2, (fun i hi => by cases hi), K2⟩
  case round =>
    clear q2 K2
    obtain ⟨k, a, W, r, rfl, rfl, rfl, hk1, hk2, hW, q3, hrn, K3⟩ := hrel
    have ha3 := q3.at_le
    by_cases hend : k < ls.length ∧ k < 20
    · obtain ⟨he1, he2⟩ := hend
      obtain ⟨G, hG⟩ : ∃ G, G = W.take a := ⟨_, rfl⟩
      have hGl : G.length ≤ 1200 := by rw [hG]; simp; omega
      rw [← hG]
      have HG := hid hG
      clear hG
      obtain ⟨u, ri, hu, hru⟩ := Hel.out k _ (List.getElem?_eq_getElem he1)
      obtain ⟨bb, off, rfl, hcell⟩ : ∃ bb off, A = some ⟨bb, off, none⟩ ∧ w.cell? ⟨bb, off + k, none⟩ = some u := by
        rcases Hc.out with h | ⟨bb, off, hA, _, h⟩
        · rw [h] at hu; simp at hu
        · exact ⟨bb, off, hA, h k u hu⟩
      have hcell3 := (K3.alloc (.cells #[] 5)).cell hcell (fun x => x)
      generalize ls[k] = l at hru
      go_wp2_with fail
      refine (short_calls u ri l _ (hru.keep (K3.alloc _))).mono ?_
      rintro e w4 ⟨V, rfl, hV4, k4⟩
      have hl60 : (l.take 60).length ≤ 60 := by simp; omega
      generalize l.take 60 = l' at hV4 hl60
      have hs := hV4.src Try.underlying23 (byv_one l')
      rw [byv_length] at hs
      have HS := hid hs
      have ka := (Kp.refl Non wr).alloc (.cells #[] 5)
      have q4 := (q3.keep ka).keep k4
      have K4 := (K3.alloc (.cells #[] 5)).seq k4
      clear hs hru hcell3 hcell hu q3 K3 ka k4
      go_wp2_with (at_builtin; go_must (refine wpList_append_any rfl _ _ _ _ rfl 5 (.int .u8 0) 1 1 Try.underlying23 info8 rfl _ none 0 [] rfl (Own.nil _ _ _ _) _ l'.length (byv l') rfl ?hs (by omega) (by omega) ?_))
      case hs => exact HS.out
      intro v5 r5 w5 o5 k5 n5
      have o5' : Own w5 5 1 v5 r5 l'.length (byv l') := by simpa using o5
      have q5 := q4.kp k5 (fun h => by cases h) (fun _ _ h => by cases h)
      have K5 : Kp Non w w5 := K4.trans k5 (fun _ h => by cases h)
      have hn5 : ∀ i, r5 = some i → g < i ∧ w.heap.size ≤ i ∧ r ≠ some i := fun i hi => by
        rcases n5 i hi with h | h
        · cases h
        · have h1 := q4.lt
          refine ⟨by omega, by omega, fun h2 => by have := q4.row_lt i h2; omega⟩
      clear o5 k5 n5 q4 K4 HS hV4
      have s5 := o5'.rd.str 23 5 9 Try.underlying23 Try.underlying5 Try.underlying9
      obtain ⟨AB, cb, rfl, hcb, hcbm⟩ := o5'.form
      unfold maxLen at hcbm
      have hcat : ¬ (9223372036854775807 < W.length + l'.length) := by omega
      go_wp2_with fail
      clear s5 hcat
      refine (put_yes g r W a 5000 _ _ l' _ q5 o5'.rd (by omega) (by omega)).mono ?_
      rintro e w6 ⟨r6, rfl, q6, n6, k6⟩
      have o6 := o5'.kp k6 (fun i hi hj => by
        have h1 := hn5 i hi
        rcases hj with hj | hj
        · omega
        · exact h1.2.2 hj)
      have hn6 : ∀ i, r5 = some i → r6 ≠ some i := fun i hi h6 => by
        rcases n6 i h6 with h | h
        · exact (hn5 i hi).2.2 h
        · have := o5'.lt i hi; omega
      have hr6 : ∀ i, r6 = some i → w.heap.size ≤ i := fun i hi => by
        rcases n6 i hi with h | h
        · exact hrn i h
        · have := K5.size; omega
      have K6 : Kp Non w w6 := K5.trans k6 (fun i hi => .inr (by
        rcases hi with hi | hi
        · omega
        · exact hrn i hi))
      clear q5 k6 n6 o5' K5
      go_wp2_with fail
      go_loopw [11] (fun i wr => CutsIn w6 5 AB l'.length cb r5 i wr) (fun i _ => l'.length - (intOf i).toNat)
      case atStart => exact ⟨0, _, rfl, by omega, o6, Kp.refl _ _⟩
      case round =>
        clear o6
        obtain ⟨j, lj, rfl, hj, o7, k7⟩ := hrel
        by_cases hlt : j < l'.length
        · obtain ⟨gb, x, rfl, hr5, hcx, hfx, hst⟩ := o7.store hlt
          have Hst := hid hst
          clear hst
          go_wp2_with fail
          go_roundw
          case rel => exact ⟨j + 1, _, by go_num, by omega, Hst.out _, k7.setCell (p := ⟨gb, j, none⟩) (.inl hr5) _⟩
          case measure => simp [intOf]; omega
        · have q7 := q6.kp k7 (fun h => by have := (hn5 _ h).1; omega) (fun i hi h => hn6 i h hi)
          have K7 : Kp Non w wr := K6.trans k7 (fun i hi => .inr (hn5 i hi).2.1)
          clear o7 k7 q6 K6
          by_cases hta : k < tb.length
          · obtain ⟨tb0, toff, rfl, hct⟩ : ∃ bb off, T = some ⟨bb, off, none⟩ ∧ w.cell? ⟨bb, off + k, none⟩ = some (.int .u8 tb[k].toNat) := by
              rcases Ht.out with h | ⟨bb, off, hA, _, h⟩
              · have : tb = [] := by simpa [byv] using h
                subst this; simp at hta
              · exact ⟨bb, off, hA, h k _ (by simp [byv_get, hta])⟩
            have hct7 := K7.cell hct (fun x => x)
            have ht255 : ((tb[k].toNat : Nat) : Int) ≤ 255 := by have := tb[k].toNat_lt; omega
            have ht0 : 0 ≤ ((tb[k].toNat : Nat) : Int) := by omega
            generalize ((tb[k].toNat : Nat) : Int) = tn at hct7 ht255 ht0
            go_wp2_with fail
            refine (take_calls g r6 (W ++ l') a 5000 tn _ q7 (by simp; omega)).mono ?_
            rintro e w8 ⟨v8, r8, rfl, q8, o8, n8, k8⟩
            have K8 : Kp Non w w8 := K7.trans k8 (fun i hi => .inr (by rw [show i = g from hi]; exact hgw))
            have ha7 := q7.at_le
            have s8 := o8.rd.str 23 5 9 Try.underlying23 Try.underlying5 Try.underlying9
            obtain ⟨t1, t2⟩ := tk_le (W ++ l') a tn ha7
            clear t2
            generalize tk (W ++ l') a tn = t at s8 q8 t1
            obtain ⟨D, hD⟩ : ∃ D, D = ((W ++ l').drop a).take t := ⟨_, rfl⟩
            rw [← hD] at s8
            have eg : Hid (G ++ D = (W ++ l').take (a + t)) := hid (by rw [HG.out, hD, List.take_add, List.take_append_of_le_length ha3])
            have hDl : D.length ≤ 1300 := by rw [hD]; simp; omega
            clear hD o8 n8 k8 q7 K7 hct7
            have hcat2 : ¬ (9223372036854775807 < G.length + D.length) := by omega
            go_wp2_with fail
            go_roundw
            case rel => exact ⟨k + 1, a + t, W ++ l', r6, by go_num, rfl, by rw [eg.out], by omega, by omega, by simp; omega, q8, hr6, K8⟩
            case measure => simp [intOf]; omega
          · have eg : Hid (G = (W ++ l').take a) := hid (by rw [HG.out, List.take_append_of_le_length ha3])
            go_wp2_with fail
            go_roundw
            case rel => exact ⟨k + 1, a, W ++ l', r6, by go_num, rfl, by rw [← eg.out], by omega, by omega, by simp; omega, q7, hr6, K7⟩
            case measure => simp [intOf]; omega
    · have hW2 : W.length ≤ 1200 := by omega
      obtain ⟨G, R, rfl, rfl⟩ : ∃ G R, W = G ++ R ∧ a = G.length := ⟨W.take a, W.drop a, (List.take_append_drop a W).symm, by simp; omega⟩
      rw [List.take_left]
      have et : (G ++ R).take G.length = G := List.take_left
      have eL : ((G ++ R : List UInt8).length : Int) - (G.length : Int) = R.length := by rw [List.length_append]; omega
      have ek : tk (G ++ R) G.length R.length = R.length := by unfold tk; rw [eL]; omega
      have ed : ((G ++ R).drop G.length).take R.length = R := by simp
      have ez : ((G ++ R : List UInt8).length : Int) - ((G.length + R.length : Nat) : Int) = 0 := by rw [List.length_append]; omega
      have ek3 : tk (G ++ R) (G.length + R.length) 3 = 0 := by unfold tk; rw [ez]; omega
      have Et := hid et
      have EL := hid eL
      have Ek := hid ek
      have Ed := hid ed
      have Ez := hid ez
      have Ek3 := hid ek3
      have hGR : G.length + R.length ≤ 1200 := by simpa using hW2
      have hcat : ¬ (9223372036854775807 < G.length + R.length) := by omega
      have hb : (G ++ R).length ≤ 140737488355328 := by omega
      clear et eL ek ed ez ek3 hW2 hW ha3
      by_cases he1 : k < ls.length
      all_goals
        have he2 : k < ls.length → ¬ k < 20 := fun h1 h2 => hend ⟨h1, h2⟩
        go_wp2_with fail
        refine (taken_calls g r (G ++ R) G.length 5000 _ q3 hb).mono ?_
        rintro e w4 ⟨v4, r4, rfl, o4, n4, k4⟩
        rw [Et.out] at o4
        have s4 := o4.rd.str 23 5 9 Try.underlying23 Try.underlying5 Try.underlying9
        go_wp2_with fail
        clear s4 o4 n4
        refine (len_calls g r (G ++ R) G.length 5000 _ (q3.keep k4)).mono ?_
        rintro e w5 ⟨rfl, k5⟩
        rw [EL.out]
        go_wp2_with fail
        refine (take_calls g r (G ++ R) G.length 5000 R.length _ ((q3.keep k4).keep k5) hb).mono ?_
        rintro e w6 ⟨v6, r6, rfl, q6, o6, n6, k6⟩
        rw [Ek.out] at q6 o6
        rw [Ed.out] at o6
        have s6 := o6.rd.str 23 5 9 Try.underlying23 Try.underlying5 Try.underlying9
        go_wp2_with fail
        clear s6 o6 n6
        refine (len_calls g r (G ++ R) _ 5000 _ q6).mono ?_
        rintro e w7 ⟨rfl, k7⟩
        rw [Ez.out]
        go_wp2_with fail
        refine (total_calls g r (G ++ R) _ 5000 _ (q6.keep k7)).mono ?_
        rintro e w8 ⟨rfl, k8⟩
        go_wp2_with fail
        refine (take_calls g r (G ++ R) _ 5000 3 _ ((q6.keep k7).keep k8) hb).mono ?_
        rintro e w9 ⟨v9, r9, rfl, q9, o9, n9, k9⟩
        rw [Ek3.out] at o9
        obtain ⟨A9, c9, rfl, _, _⟩ := o9.form
        go_wp2
        go_ret
        exact ⟨rfl, (((((K3.seq k4).seq k5).trans k6 (fun i hi => .inr (by rw [show i = g from hi]; exact hgw))).seq k7).seq k8).trans k9 (fun i hi => .inr (by rw [show i = g from hi]; exact hgw))⟩

end Go.Proofs.Ythkhdkjebgemeaa

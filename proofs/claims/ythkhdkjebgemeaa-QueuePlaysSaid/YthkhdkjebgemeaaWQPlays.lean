/- The walk of QueuePlays: it answers true and writes nothing that was there. -/
import Derived.Test.YthkhdkjebgemeaaQLaw
import Derived.Test.YthkhdkjebgemeaaQRef
import Derived.Test.YthkhdkjebgemeaaQOps
import Derived.Deep.DeepCutAuto
import Derived.Deep.CutBlock
namespace Go.Proofs.Ythkhdkjebgemeaa
open Go.RowKit
set_option linter.unusedSimpArgs false
set_option linter.unusedVariables false
attribute [local go_sem] max2_of min2_of max_of min_of
attribute [local go_sem] strOf_size strOf_append

/-- Both queues, of the same bytes, apart. -/
def Both (w wr : World) (g gy : Nat) (b : List UInt8) (a : Nat) (m : Int) : Prop :=
  ∃ r rr, Que wr g r b a m ∧ RQue wr gy rr b a m ∧ w.heap.size ≤ g ∧ w.heap.size ≤ gy ∧ (∀ i, r = some i → w.heap.size ≤ i) ∧ (∀ i, rr = some i → w.heap.size ≤ i) ∧ (∀ i, r = some i → rr ≠ some i) ∧ Kp Non w wr

theorem que_ne {w : World} {g gy : Nat} {r rr : Option Nat} {b b' : List UInt8} {a a' : Nat} {m m' : Int} (h : Que w g r b a m) (h' : RQue w gy rr b' a' m') : g ≠ gy ∧ r ≠ some gy ∧ rr ≠ some g := by
  obtain ⟨v, h1, h2, _⟩ := h
  obtain ⟨v', h1', h2', _⟩ := h'
  refine ⟨?_, h2.ne_blk h1' (by decide), h2'.ne_blk h1 (by decide)⟩
  rintro rfl
  exact absurd (h1.inj h1').2 (by decide)

/-- .. of the rounds within. -/
def QPIn (w0 : World) (e : Nat) (A : Option Addr) (n c : Nat) (r : Option Nat) (i : Value) (wr : World) : Prop :=
  ∃ (j : Nat) (l : List Value), i = .int .i64 j ∧ j ≤ n ∧ Own wr e 1 (.slice A n c) r n l ∧ Kp (Row r) w0 wr

/-- What holds at the head of QueuePlays' rounds. -/
def QPInv (w : World) (gy : Nat) (m : Int) (n : Nat) (q i : Value) (wr : World) : Prop :=
  ∃ (k g : Nat) (b : List UInt8) (a : Nat), i = .int .i64 k ∧ q = .pointer (some ⟨g, 0, none⟩) ∧ k ≤ n ∧ k ≤ 60 ∧ b.length ≤ 60 * k ∧ Both w wr g gy b a m

set_option maxRecDepth 100000 in
set_option maxHeartbeats 4000000 in
theorem qplays_walk (w : World) (most : Int) (v : Value) (CS : List (List Value)) (hv : OpsQ w v CS) (bd : -9223372036854775808 ≤ most ∧ most ≤ 9223372036854775807) :
    Calls Try.prog 7 #[.int .i64 most, v] w fun e w' => e = .returned (.bool true) ∧ Kp Non w w' := by
  obtain ⟨⟨A, c, rfl, hlc, hcm, hcs, hx⟩, hel⟩ := hv
  have Hel := hid hel
  have Hc := hid hx
  clear hel hx hcs
  unfold maxLen at hcm
  go_enter Try.func7, Try.ntmps7
  go_wp2_with fail
  refine (shown_calls _).mono ?_
  rintro e w1 ⟨rfl, k1⟩
  go_wp2_with fail
  refine (qnew_calls most _ (by omega)).mono ?_
  rintro e w2 ⟨g, rfl, hg, q2, k2⟩
  have K2 := k1.seq k2
  go_wp2_with fail
  refine (rnew_calls most _ (by omega)).mono ?_
  rintro e w3 ⟨gy, rfl, hgy, y3, k3⟩
  have hB : Both w w3 g gy [] 0 (max most 0) := ⟨none, none, q2.keep k3, y3, by have := k1.size; omega, by have := K2.size; omega, (fun i hi => by cases hi), (fun i hi => by cases hi), (fun i hi => by cases hi), K2.seq k3⟩
  have hm0 : max most 0 ≤ 9223372036854775807 := by omega
  clear q2 y3 k1 k2 k3 K2 hg hgy
  generalize max most 0 = m at hB hm0
  go_wp2_with fail
  go_loopw [6, 8] (fun q i wr => QPInv w gy m CS.length q i wr) (fun _ i _ => 61 - (intOf i).toNat)
  case atStart => exact ⟨0, g, [], 0, rfl, rfl, by omega, by omega, by simp, hB⟩
  case round =>
    clear hB
    obtain ⟨k, g, b, a, rfl, rfl, hk1, hk2, hb, hB⟩ := hrel
    by_cases hend : k < CS.length ∧ k < 60
    · obtain ⟨he1, he2⟩ := hend
      obtain ⟨kd, nn, vb, rb, lb, hcs, hkd0, hkd1, hrb⟩ := Hel.out CS[k] (List.getElem_mem he1)
      obtain ⟨bb, off, rfl, hcells⟩ : ∃ bb off, A = some ⟨bb, off, none⟩ ∧ ∀ j u, [Value.int .u8 kd, .int .i64 nn, vb][j]? = some u → w.cell? ⟨bb, off + (k * 3 + j), none⟩ = some u := by
        rcases Hc.out with h | ⟨bb, off, hA, h⟩
        · subst h; simp at he1
        · exact ⟨bb, off, hA, fun j u hu => h k _ (List.getElem?_eq_getElem he1) j u (by rw [hcs]; exact hu)⟩
      have hK : Kp Non w wr := by obtain ⟨_, _, _, _, _, _, _, _, _, K⟩ := hB; exact K
      have c0 := hK.cell (hcells 0 _ rfl) (fun x => x)
      have c1 := hK.cell (hcells 1 _ rfl) (fun x => x)
      have c2 := hK.cell (hcells 2 _ rfl) (fun x => x)
      simp only [Nat.add_zero, ← Nat.add_assoc] at c0 c1 c2
      clear hcells hcs Hc
      have hrb' := hrb
      obtain ⟨VB, cb, rfl, hcb, hcbm, hzz⟩ := hrb
      clear hzz
      simp only [byv_length] at hrb' hcb c2
      go_upto_block 2 with fail
      have hnew := Blk.new wr #[.int .u8 kd, .int .i64 nn, .slice VB lb.length cb] 42
      have hk5 := (Kp.refl Non wr).alloc (.cells #[.int .u8 kd, .int .i64 nn, .slice VB lb.length cb] 42)
      have hB5 : Both w (wr.alloc (.cells #[.int .u8 kd, .int .i64 nn, .slice VB lb.length cb] 42)) g gy b a m := by
        obtain ⟨r, rr, h1, h2, h3, h4, h5, h6, h7, h8⟩ := hB
        exact ⟨r, rr, h1.keep hk5, h2.keep hk5, h3, h4, h5, h6, h7, h8.seq hk5⟩
      have hgo : g < wr.heap.size ∧ gy < wr.heap.size ∧ w.heap.size ≤ wr.heap.size := by
        obtain ⟨r, rr, h1, h2, h3, h4, h5, h6, h7, h8⟩ := hB
        exact ⟨h1.lt, h2.lt, h8.size⟩
      generalize wr.alloc (.cells #[.int .u8 kd, .int .i64 nn, .slice VB lb.length cb] 42) = w5 at hnew hB5 ⊢
      clear c0 c1 c2 hK hB hk5
      go_cut [6] (fun q wc => ∃ (g : Nat) (b : List UInt8) (a : Nat), q = .pointer (some ⟨g, 0, none⟩) ∧ b.length ≤ 60 * (k + 1) ∧ Both w wc g gy b a m)
      case first =>
        obtain ⟨r, rr, q5, y5, hg, hgy, hr, hrr, hne, K5⟩ := hB5
        obtain ⟨ne1, ne2, ne3⟩ := que_ne q5 y5
        have hrl := q5.row_lt
        have hrrl := y5.row_lt
        have hrgo : r ≠ some wr.heap.size := by obtain ⟨v, _, h2, _⟩ := q5; exact h2.ne_blk hnew (by decide)
        have hb5 : b.length ≤ 140737488355328 := by omega
        have o0 := hnew.cell 0
        have o1 := hnew.cell 1
        have o2 := hnew.cell 2
        simp at o0 o1 o2
        by_cases t0 : kd % 3 = 0
        · have z0 : (kd % 3 == 0) = true := by simpa using t0
          clear t0
          have hrb5 := hrb'.keep K5
          go_wp2_with fail
          refine (short_calls _ rb lb _ hrb5).mono ?_
          rintro e w6 ⟨V6, rfl, h6, k6⟩
          have hl60 : (lb.take 60).length ≤ 60 := by simp; omega
          have K6 := K5.seq k6
          have hnew6 := hnew.keep k6
          have o26 := hnew6.cell 2
          simp at o26
          by_cases hc : ((lb.take 60).length : Int) ≤ m - b.length
          · go_wp2_with fail
            refine (put_yes g r b a m _ _ (lb.take 60) _ (q5.keep k6) h6 (by omega) hc).mono ?_
            rintro e w7 ⟨r7, rfl, q7, n7, k7⟩
            have y7 := (y5.keep k6).kp k7 (fun h => by
              rcases h with h | h
              · exact ne1 h.symm
              · exact ne2 h) (fun i hi h => by
              rcases h with h | h
              · exact ne3 (by rw [hi, h])
              · exact hne i h hi)
            have hr7 : ∀ i, r7 = some i → w.heap.size ≤ i := fun i hi => by
              rcases n7 i hi with h | h
              · exact hr i h
              · have := K6.size; omega
            have hne7 : ∀ i, r7 = some i → rr ≠ some i := fun i hi h2 => by
              rcases n7 i hi with h | h
              · exact hne i h h2
              · have := hrrl i h2; have := k6.size; omega
            have K7 : Kp Non w w7 := K6.trans k7 (fun i hi => .inr (by
              rcases hi with hi | hi
              · omega
              · exact hr i hi))
            have hnew7 := hnew6.kp k7 (fun h => by
              rcases h with h | h
              · omega
              · exact hrgo h)
            have o27 := hnew7.cell 2
            simp at o27
            go_wp2_with fail
            refine (short_calls _ rb lb _ (hrb'.keep K7)).mono ?_
            rintro e w8 ⟨V8, rfl, h8, k8⟩
            go_wp2_with fail
            refine (rput_yes gy rr b a m _ _ (lb.take 60) _ (y7.keep k8) h8 (by omega) hc).mono ?_
            rintro e w9 ⟨rr9, rfl, y9, n9, k9⟩
            have q9 := (q7.keep k8).kp k9 (fun h => ne1 h) (fun i hi h => by
              have h1 : i = gy := h
              rw [h1] at hi
              rcases n7 gy hi with h | h
              · exact ne2 h
              · have := y5.lt; have := k6.size; omega)
            go_wp2_with fail
            go_meet
            case rel =>
              have s8 := (K7.seq k8).size
              refine ⟨g, b ++ lb.take 60, a, rfl, by simp; omega, r7, rr9, q9, y9, hg, hgy, hr7, fun i hi => by have := n9 i hi; omega, fun i hi h => ?_, (K7.seq k8).trans k9 (fun i hi => .inr (by rw [show i = gy from hi]; exact hgy))⟩
              have h1 := n9 i h
              have h2 := (q7.keep k8).row_lt i hi
              omega
          · go_wp2_with fail
            refine (put_no g r b a m _ _ (lb.take 60) _ (q5.keep k6) h6 (by omega) (by omega)).mono ?_
            rintro e w7 ⟨rfl, k7⟩
            have K7 := K6.seq k7
            have o27 := (hnew6.keep k7).cell 2
            simp at o27
            go_wp2_with fail
            refine (short_calls _ rb lb _ (hrb'.keep K7)).mono ?_
            rintro e w8 ⟨V8, rfl, h8, k8⟩
            have K58 := (k6.seq k7).seq k8
            go_wp2_with fail
            refine (rput_no gy rr b a m _ _ (lb.take 60) _ (y5.keep K58) h8 (by omega) (by omega)).mono ?_
            rintro e w9 ⟨rfl, k9⟩
            go_wp2_with fail
            go_meet
            case rel => exact ⟨g, b, a, rfl, by omega, r, rr, q5.keep (K58.seq k9), y5.keep (K58.seq k9), hg, hgy, hr, hrr, hne, K5.seq (K58.seq k9)⟩
        · have z0 : (kd % 3 == 0) = false := by simpa using t0
          by_cases t1 : kd % 3 = 1
          · have z1 : (kd % 3 == 1) = true := by simpa using t1
            clear t0 t1
            go_wp2_with fail
            refine (take_calls g r b a m nn _ q5 hb5).mono ?_
            rintro e w6 ⟨v6, r6, rfl, q6, o6, n6, k6⟩
            have y6 := y5.kp k6 (fun h => ne1 h.symm) (fun i hi h => ne3 (by rw [hi, show i = g from h]))
            have K6 : Kp Non w w6 := K5.trans k6 (fun i hi => .inr (by rw [show i = g from hi]; exact hg))
            have o16 := (hnew.kp k6 (fun h => by have : wr.heap.size = g := h; omega)).cell 1
            simp at o16
            go_wp2_with fail
            refine (rtake_calls gy rr b a m nn _ y6 hb5).mono ?_
            rintro e w7 ⟨v7, r7, rfl, y7, o7, n7, k7⟩
            have K7 : Kp Non w w7 := K6.trans k7 (fun i hi => .inr (by rw [show i = gy from hi]; exact hgy))
            have q7 := q6.kp k7 (fun h => ne1 h) (fun i hi h => ne2 (by rw [hi, show i = gy from h]))
            have hr6 : ∀ i, r6 = some i → g < i ∧ gy < i ∧ w.heap.size ≤ i ∧ r ≠ some i ∧ rr ≠ some i := fun i hi => by
              have h1 := n6 i hi
              refine ⟨by have := q5.lt; omega, by have := y5.lt; omega, by have := K5.size; omega, fun h => by have := hrl i h; omega, fun h => by have := hrrl i h; omega⟩
            have o6' := o6.kp k7 (fun i hi h => by have := (hr6 i hi).2.1; have : i = gy := h; omega)
            have tl := (tk_le b a nn q5.at_le).1
            generalize tk b a nn = t at q7 y7 o6' o7 tl
            have s6 := o6'.rd.str 23 5 9 Try.underlying23 Try.underlying5 Try.underlying9
            have s7 := o7.rd.str 23 5 9 Try.underlying23 Try.underlying5 Try.underlying9
            obtain ⟨AB, cb', rfl, hcb', hcbm'⟩ := o6'.form
            unfold maxLen at hcbm'
            clear o6 q6 y6 o16 k6 k7 n6 n7
            go_wp2_with fail
            clear s6 s7 o7
            go_loopw [14] (fun i wr => QPIn w7 5 AB t cb' r6 i wr) (fun i _ => t - (intOf i).toNat)
            case atStart => exact ⟨0, _, rfl, by omega, o6', Kp.refl _ _⟩
            case round =>
              clear o6'
              obtain ⟨j, lj, rfl, hj, o8, k8⟩ := hrel
              by_cases hlt : j < t
              · obtain ⟨gb, x, rfl, hr5, hcx, hfx, hst⟩ := o8.store hlt
                have Hst := hid hst
                clear hst
                go_wp2_with fail
                go_roundw
                case rel => exact ⟨j + 1, _, by go_num, by omega, Hst.out _, k8.setCell (p := ⟨gb, j, none⟩) (.inl hr5) _⟩
                case measure => simp [intOf]; omega
              · go_wp2_with fail
                go_meet
                case rel => exact ⟨g, b, a + t, rfl, by omega, r, rr, q7.kp k8 (fun h => by have := (hr6 _ h).1; omega) (fun i hi h => (hr6 i h).2.2.2.1 hi), y7.kp k8 (fun h => by have := (hr6 _ h).2.1; omega) (fun i hi h => (hr6 i h).2.2.2.2 hi), hg, hgy, hr, hrr, hne, K7.trans k8 (fun i hi => .inr (hr6 i hi).2.2.1)⟩
          · have z1 : (kd % 3 == 1) = false := by simpa using t1
            have z2 : (kd % 3 == 2) = true := by simp; omega
            clear t0 t1
            have kc := fun (w : World) (C : Array Value) (n c : Nat) => Lib.run_convert_bytes_const (P := Try.prog) w 23 5 C n c Try.underlying23 Try.underlying5
            go_wp2_with fail
            refine (qclone_calls g r b a m _ q5 hb5).mono ?_
            rintro e w6 ⟨g1, r1, rfl, hg1, q6, n1, k6⟩
            have K6 := K5.seq k6
            have p6 := q5.keep k6
            have y6 := y5.keep k6
            have s5 := K5.size
            have hgl := q5.lt
            have hgyl := y5.lt
            have hrl' : ∀ i, r = some i → i < w5.heap.size := hrl
            have ha := (Kp.refl Non w6).alloc (.cells #[.int .u8 122, .int .u8 122] 5 (2, 3))
            go_wp2_with fail
            by_cases hc : (2 : Int) ≤ m - b.length
            · refine (put_yes g r b a m _ _ [122, 122] _ (p6.keep ha) (Rd.const w6 5 (2, 3) [122, 122] _ 2 rfl rfl (by decide)) (by simp; omega) (by simpa using hc)).mono ?_
              rintro e w7 ⟨r7, rfl, p7, n7, k7⟩
              go_wp2_with fail
              refine (take_calls g r7 _ a m 5 _ p7 (by simp; omega)).mono ?_
              rintro e w8 ⟨v8, r8, rfl, p8, o8, n8, k8⟩
              have k68 : Kp (Two g r) w6 w8 := (ha.any.trans k7 (fun _ h => .inl h)).trans k8 (fun i hi => .inl (.inl hi))
              go_wp2_with fail
              go_meet
              case rel =>
                refine ⟨g1, b, a, rfl, by omega, r1, rr, q6.kp k68 (fun h => ?_) (fun i hi h => ?_), y6.kp k68 (fun h => ?_) (fun i hi h => ?_), by omega, hgy, fun i hi => by have := n1 i hi; omega, hrr, fun i hi h => by have := n1 i hi; have := hrrl i h; omega, K6.trans k68 (fun i hi => .inr ?_)⟩
                · rcases h with h | h
                  · omega
                  · have := hrl _ h; omega
                · have := n1 i hi
                  rcases h with h | h
                  · omega
                  · have := hrl _ h; omega
                · rcases h with h | h
                  · exact ne1 h.symm
                  · exact ne2 h
                · rcases h with h | h
                  · exact ne3 (by rw [hi, h])
                  · exact hne i h hi
                · rcases hi with hi | hi
                  · omega
                  · exact hr i hi
            · refine (put_no g r b a m _ _ [122, 122] _ (p6.keep ha) (Rd.const w6 5 (2, 3) [122, 122] _ 2 rfl rfl (by decide)) (by simp) (by simpa using hc)).mono ?_
              rintro e w7 ⟨rfl, k7⟩
              go_wp2_with fail
              refine (take_calls g r b a m 5 _ ((p6.keep ha).keep k7) hb5).mono ?_
              rintro e w8 ⟨v8, r8, rfl, p8, o8, n8, k8⟩
              have k68 : Kp (One g) w6 w8 := ((ha.seq k7).any).trans k8 (fun _ h => .inl h)
              go_wp2_with fail
              go_meet
              case rel =>
                refine ⟨g1, b, a, rfl, by omega, r1, rr, q6.kp k68 (fun h => ?_) (fun i hi h => ?_), y6.kp k68 (fun h => ne1 h.symm) (fun i hi h => ne3 (by rw [hi, show i = g from h])), by omega, hgy, fun i hi => by have := n1 i hi; omega, hrr, fun i hi h => by have := n1 i hi; have := hrrl i h; omega, K6.trans k68 (fun i hi => .inr (by rw [show i = g from hi]; exact hg))⟩
                · have : g1 = g := h; omega
                · have := n1 i hi; have : i = g := h; omega
      case rest =>
        obtain ⟨g, b, a, rfl, hb, r, rr, q, y, hg, hgy, hr, hrr, hne, Kc⟩ := hcut
        have hb5 : b.length ≤ 140737488355328 := by omega
        have hd : Kp Non wc wc.drew := (Kp.refl Non wc).drew
        have hy := y
        have hal := y.at_le
        obtain ⟨vY, y1, y2, y3, y4, y5⟩ := hy
        obtain ⟨AY, cY, rfl, hcY, hcYm⟩ := y2.form
        have cy1 := y1.cell 1
        have cy2 := y1.cell 2
        simp at cy1 cy2
        have e1 : ∀ w', Kp Non wc.drew w' → w'.cell? ⟨gy, 1, none⟩ = some (.int .i64 a) := fun w' hk => (hd.seq hk).cell cy1 (fun x => x)
        have e2 : ∀ w', Kp Non wc.drew w' → w'.cell? ⟨gy, 2, none⟩ = some (.slice AY b.length cY) := fun w' hk => (hd.seq hk).cell cy2 (fun x => x)
        have sY := (y2.keep hd).rd.strs 23 5 9 Try.underlying23 Try.underlying5 Try.underlying9
        have hwr : IntKind.i64.wrap ((b.length : Int) - a) = (b.length : Int) - a := IntWalk.i64_in _ (by omega)
        clear y1 y2 y3 y4 y5 cy1 cy2
        go_wp2_with fail
        refine wp_region_seq [(0, true), (2, true), (3, true), (4, true), (5, true), (6, true), (7, true), (8, true), (9, true), (10, true), (11, true), (1, false), (12, true), (13, true), (14, true), (16, true), (17, true), (18, true), (19, true), (20, true), (15, false), (21, true), (22, true), (23, true), (24, true), (27, true), (25, false), (26, true), (28, false), (29, true), (30, true), (31, true), (32, true), (33, true), (36, true), (37, true), (38, true), (39, true), (40, true), (34, false), (35, true), (41, true), (42, true)] 43 Non wide (by kernel_rfl) (fun _ _ _ _ _ h => h) ?_; (try simp only [List.append_eq, List.cons_append, List.nil_append])
        repeat (refine seq_still (v := ?_) rfl rfl (fun wq hq => ?_) ?_; rotate_left; (focus ((simp only [List.getElem_toArray, List.getElem_cons_zero, List.getElem_cons_succ]; go_simp; try with_reducible rfl); done)); simp only [List.getElem_toArray, List.getElem_cons_zero, List.getElem_cons_succ, Act.put, List.setIfInBounds_toArray, List.set_cons_zero, List.set_cons_succ])
        refine seq_step rfl rfl (fun K hK => ?_); simp only [List.getElem_toArray, List.getElem_cons_zero, List.getElem_cons_succ]; go_simp
        refine (len_calls g r b a m _ (q.keep hd)).mono ?_
        rintro e wA ⟨rfl, kA⟩
        refine hK.out _ _ (kA) ?_; clear hK; (try simp only [Act.put, List.setIfInBounds_toArray, List.set_cons_zero, List.set_cons_succ])
        have xA := fun w' (h : Kp Non wA w') => kA.seq h
        repeat (refine seq_still (v := ?_) rfl rfl (fun wq hq => ?_) ?_; rotate_left; (focus ((simp only [List.getElem_toArray, List.getElem_cons_zero, List.getElem_cons_succ]; go_simp; try with_reducible rfl); done)); simp only [List.getElem_toArray, List.getElem_cons_zero, List.getElem_cons_succ, Act.put, List.setIfInBounds_toArray, List.set_cons_zero, List.set_cons_succ])
        refine seq_step rfl rfl (fun K hK => ?_); simp only [List.getElem_toArray, List.getElem_cons_zero, List.getElem_cons_succ]; go_simp
        refine (total_calls g r b a m _ ((q.keep hd).keep kA)).mono ?_
        rintro e wB ⟨rfl, kB⟩
        refine hK.out _ _ (kB) ?_; clear hK; (try simp only [Act.put, List.setIfInBounds_toArray, List.set_cons_zero, List.set_cons_succ])
        have KB := kA.seq kB
        have xB := fun w' (h : Kp Non wB w') => KB.seq h
        repeat (refine seq_still (v := ?_) rfl rfl (fun wq hq => ?_) ?_; rotate_left; (focus ((simp only [List.getElem_toArray, List.getElem_cons_zero, List.getElem_cons_succ]; go_simp; try with_reducible rfl); done)); simp only [List.getElem_toArray, List.getElem_cons_zero, List.getElem_cons_succ, Act.put, List.setIfInBounds_toArray, List.set_cons_zero, List.set_cons_succ])
        refine seq_step rfl rfl (fun K hK => ?_); simp only [List.getElem_toArray, List.getElem_cons_zero, List.getElem_cons_succ]; go_simp
        refine (taken_calls g r b a m _ ((q.keep hd).keep KB) hb5).mono ?_
        rintro e wC ⟨vC, rC, rfl, oC, nC, kC⟩
        refine hK.out _ _ (kC) ?_; clear hK; (try simp only [Act.put, List.setIfInBounds_toArray, List.set_cons_zero, List.set_cons_succ])
        have KC := KB.seq kC
        have xC := fun w' (h : Kp Non wC w') => KC.seq h
        have sC := oC.rd.strs 23 5 9 Try.underlying23 Try.underlying5 Try.underlying9
        repeat (refine seq_still (v := ?_) rfl rfl (fun wq hq => ?_) ?_; rotate_left; (focus ((simp only [List.getElem_toArray, List.getElem_cons_zero, List.getElem_cons_succ]; go_simp; try with_reducible rfl); done)); simp only [List.getElem_toArray, List.getElem_cons_zero, List.getElem_cons_succ, Act.put, List.setIfInBounds_toArray, List.set_cons_zero, List.set_cons_succ])
        refine seq_step rfl rfl (fun K hK => ?_); simp only [List.getElem_toArray, List.getElem_cons_zero, List.getElem_cons_succ]; go_simp
        refine (rtaken_calls gy rr b a m _ ((y.keep hd).keep KC) hb5).mono ?_
        rintro e wD ⟨vD, rD, rfl, oD, nD, kD⟩
        refine hK.out _ _ (kD) ?_; clear hK; (try simp only [Act.put, List.setIfInBounds_toArray, List.set_cons_zero, List.set_cons_succ])
        have KD := KC.seq kD
        have xD := fun w' (h : Kp Non wD w') => KD.seq h
        have sD := oD.rd.strs 23 5 9 Try.underlying23 Try.underlying5 Try.underlying9
        repeat (refine seq_still (v := ?_) rfl rfl (fun wq hq => ?_) ?_; rotate_left; (focus ((simp only [List.getElem_toArray, List.getElem_cons_zero, List.getElem_cons_succ]; go_simp; try with_reducible rfl); done)); simp only [List.getElem_toArray, List.getElem_cons_zero, List.getElem_cons_succ, Act.put, List.setIfInBounds_toArray, List.set_cons_zero, List.set_cons_succ])
        refine seq_step rfl rfl (fun K hK => ?_); simp only [List.getElem_toArray, List.getElem_cons_zero, List.getElem_cons_succ]; go_simp
        refine (all_calls g r b a m _ ((q.keep hd).keep KD) hb5).mono ?_
        rintro e wE ⟨vE, rE, rfl, oE, nE, kE⟩
        refine hK.out _ _ (kE) ?_; clear hK; (try simp only [Act.put, List.setIfInBounds_toArray, List.set_cons_zero, List.set_cons_succ])
        have KE := KD.seq kE
        have xE := fun w' (h : Kp Non wE w') => KE.seq h
        have sE := oE.rd.strs 23 5 9 Try.underlying23 Try.underlying5 Try.underlying9
        repeat (refine seq_still (v := ?_) rfl rfl (fun wq hq => ?_) ?_; rotate_left; (focus ((simp only [List.getElem_toArray, List.getElem_cons_zero, List.getElem_cons_succ]; go_simp; try with_reducible rfl); done)); simp only [List.getElem_toArray, List.getElem_cons_zero, List.getElem_cons_succ, Act.put, List.setIfInBounds_toArray, List.set_cons_zero, List.set_cons_succ])
        refine seq_nil ?_
        have qE := (q.keep hd).keep KE
        have yE := (y.keep hd).keep KE
        have KE' := (Kc.seq hd).seq KE
        clear e1 e2 sY hwr xA xB xC xD xE sC sD sE oC nC oD nD oE nE kA kB kC kD kE KB KC KD KE q y Kc hd
        go_wp2
        go_roundw
        case rel => exact ⟨k + 1, g, b, a, by go_num, rfl, by omega, by omega, by omega, r, rr, qE, yE, hg, hgy, hr, hrr, hne, KE'⟩
        case measure => simp [intOf]; omega
    · by_cases he1 : k < CS.length
      all_goals
        have he2 : k < CS.length → ¬ k < 60 := fun h1 h2 => hend ⟨h1, h2⟩
        go_wp2_with fail
        go_ret
        exact ⟨rfl, by obtain ⟨_, _, _, _, _, _, _, _, _, K⟩ := hB; exact K⟩

end Go.Proofs.Ythkhdkjebgemeaa

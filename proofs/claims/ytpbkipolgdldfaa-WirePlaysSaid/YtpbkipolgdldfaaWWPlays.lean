/- The walk of WirePlays: it answers true and writes nothing that was there. -/
import Derived.Test.YtpbkipolgdldfaaRPair
import Derived.Test.YtpbkipolgdldfaaWOps
import Derived.Deep.DeepCutAuto
import Derived.Deep.CutBlock
namespace Go.Proofs.Ytpbkipolgdldfaa
open Go.RowKit
set_option linter.unusedSimpArgs false
set_option linter.unusedVariables false
attribute [local go_sem] max2_of min2_of max_of min_of

def WPInv (w : World) (y n : Nat) (wv iv : Value) (wr : World) : Prop :=
  ∃ (j g : Nat) (S : Nat → Cn), wv = .pointer (some ⟨g, 0, none⟩) ∧ iv = .int .i64 j ∧ j ≤ n ∧ j ≤ 60 ∧ BdN (4000 * j) S ∧ Pr w wr g y S S
def WPCut (w : World) (y n : Nat) (wv : Value) (wc : World) : Prop :=
  ∃ (g : Nat) (S : Nat → Cn), wv = .pointer (some ⟨g, 0, none⟩) ∧ BdN n S ∧ Pr w wc g y S S
def WPIn (w : World) (g y : Nat) (S : Nat → Cn) (kv : Value) (wr : World) : Prop :=
  ∃ k : Int, kv = .int .i64 k ∧ -1 ≤ k ∧ k ≤ 3 ∧ Pr w wr g y S S

set_option maxRecDepth 100000 in
set_option maxHeartbeats 40000000 in
theorem wplays_walk (w : World) (v : Value) (CS : List (List Value)) (hv : OpsW w v CS) :
    Calls Try.prog 7 #[v] w fun e w' => e = .returned (.bool true) ∧ Kp Non w w' := by
  obtain ⟨⟨A, c, rfl, hlc, hcm, hcs, hx⟩, hel⟩ := hv
  have Hel := hid hel
  have Hc := hid hx
  clear hel hx hcs
  unfold maxLen at hcm
  have kc := fun (w : World) (C : Array Value) (n c : Nat) => Lib.run_convert_bytes_const (P := Try.prog) w 26 5 C n c Try.underlying26 Try.underlying5
  have KC := hid kc
  clear kc
  go_enter Try.func7, Try.ntmps7
  go_wp2_with fail
  refine (shown_calls _).mono ?_
  rintro e w1 ⟨rfl, k1⟩
  go_wp2_with fail
  refine (pnew (w0 := w) _ k1).mono ?_
  rintro e w2 ⟨g0, F0, rfl, i1, i2, i3⟩
  go_wp2_with fail
  refine (pnew2 (w0 := w) _ i1 i2 i3).mono ?_
  rintro e w3 ⟨y, rfl, hP0⟩
  clear k1 i1 i2 i3
  go_wp2_with fail
  go_loopw [4, 6] (fun wv iv wr => WPInv w y CS.length wv iv wr) (fun _ iv _ => 61 - (intOf iv).toNat)
  case atStart => exact ⟨0, g0, S0, rfl, rfl, by omega, by omega, S0_bd _, hP0⟩
  case round =>
    clear hP0
    obtain ⟨j, g, S, rfl, rfl, hj1, hj2, hbd, h3⟩ := hrel
    by_cases hend : j < CS.length ∧ j < 60
    · obtain ⟨he1, he2⟩ := hend
      obtain ⟨kd, conn, ek, ec, en, vb, ve, rb, re, lb, le, hcs, hkd0, hkd1, hrb, hre⟩ := Hel.out CS[j] (List.getElem_mem he1)
      obtain ⟨bb, off, rfl, hcells⟩ : ∃ bb off, A = some ⟨bb, off, none⟩ ∧ ∀ i u, [Value.int .u8 kd, .int .i64 conn, vb, .int .i64 ek, .int .i64 ec, .int .i64 en, ve][i]? = some u → w.cell? ⟨bb, off + (j * 7 + i), none⟩ = some u := by
        rcases Hc.out with h | ⟨bb, off, hA, h⟩
        · subst h; simp at he1
        · exact ⟨bb, off, hA, fun i u hu => h j _ (List.getElem?_eq_getElem he1) i u (by rw [hcs]; exact hu)⟩
      obtain ⟨rE, hE, hrE⟩ := hre.bound
      obtain ⟨rB, hB, hrB⟩ := hrb.bound
      have HE := hid hE
      have HB := hid hB
      have HrE := hid hrE
      clear hrb hre hrB hrE
      obtain ⟨VB, cb, rfl, _, _, _⟩ := hB
      obtain ⟨VE, ce, rfl, _, _, _⟩ := hE
      simp only [byv_length] at HE HB hcells
      have c0 := h3.kp.cell (hcells 0 _ rfl) (fun x => x)
      have c1 := h3.kp.cell (hcells 1 _ rfl) (fun x => x)
      have c2 := h3.kp.cell (hcells 2 _ rfl) (fun x => x)
      have c3 := h3.kp.cell (hcells 3 _ rfl) (fun x => x)
      have c4 := h3.kp.cell (hcells 4 _ rfl) (fun x => x)
      have c5 := h3.kp.cell (hcells 5 _ rfl) (fun x => x)
      have c6 := h3.kp.cell (hcells 6 _ rfl) (fun x => x)
      simp only [Nat.add_zero, ← Nat.add_assoc] at c0 c1 c2 c3 c4 c5 c6
      clear hcells hcs Hc Hel
      have hO := Blk.new wr #[.int .u8 kd, .int .i64 conn, .slice VB lb.length cb, .int .i64 ek, .int .i64 ec, .int .i64 en, .slice VE le.length ce] 30
      have hA := (Kp.refl Non wr).alloc (.cells #[.int .u8 kd, .int .i64 conn, .slice VB lb.length cb, .int .i64 ek, .int .i64 ec, .int .i64 en, .slice VE le.length ce] 30)
      go_upto_block 2 with fail
      generalize wr.alloc (.cells #[.int .u8 kd, .int .i64 conn, .slice VB lb.length cb, .int .i64 ek, .int .i64 ec, .int .i64 en, .slice VE le.length ce] 30) = w5 at hA hO ⊢
      have h5 := h3.keep hA
      have hbl := h3.blen 1 (by omega)
      obtain ⟨G, hG3⟩ := h3.named
      have hGl := hG3.lt
      have hs0 := hG3.kp.size
      clear h3 c0 c1 c2 c3 c4 c5 c6
      have o1 := hO.cell 1
      have o2 := hO.cell 2
      have o3 := hO.cell 3
      have o4 := hO.cell 4
      have o5 := hO.cell 5
      have o6 := hO.cell 6
      simp at o1 o2 o3 o4 o5 o6
      have hl15 : (le.take 1500).length ≤ 1500 := by simp; omega
      have hb15 : (lb.take 1500).length ≤ 1500 := by simp; omega
      go_cut [4] (fun wv wc => WPCut w y (4000 * (j + 1)) wv wc)
      case first =>
        by_cases t3 : kd % 8 = 3
        · have z3 : (kd % 8 == 3) = true := by simpa using t3
          clear t3
          have hd := (Kp.refl Non w5).drew
          have x1 : ∀ w', Kp (fun k => w.heap.size ≤ k ∧ k < wr.heap.size) w5.drew w' → w'.cell? ⟨wr.heap.size, 1, none⟩ = some (.int .i64 conn) := fun w' hk => hk.cell (hd.cell o1 (fun x => x)) (fun h => Nat.lt_irrefl _ h.2)
          have x2 : ∀ w', Kp (fun k => w.heap.size ≤ k ∧ k < wr.heap.size) w5.drew w' → w'.cell? ⟨wr.heap.size, 2, none⟩ = some (.slice VB lb.length cb) := fun w' hk => hk.cell (hd.cell o2 (fun x => x)) (fun h => Nat.lt_irrefl _ h.2)
          clear o1 o2 o3 o4 o5 o6
          go_wp2
          refine wp_region_seq [(0, true), (1, true), (2, true), (3, true), (4, true), (5, false), (6, false), (7, true)] 8 (fun k => w.heap.size ≤ k ∧ k < wr.heap.size) wide (by kernel_rfl) (fun _ _ _ _ _ h => h) ?_; (try simp only [List.append_eq, List.cons_append, List.nil_append])
          repeat (refine seq_still (v := ?_) rfl rfl (fun wq hq => ?_) ?_; rotate_left; (focus ((simp only [List.getElem_toArray, List.getElem_cons_zero, List.getElem_cons_succ]; go_simp; try with_reducible rfl); done)); simp only [List.getElem_toArray, List.getElem_cons_zero, List.getElem_cons_succ, Act.put, List.setIfInBounds_toArray, List.set_cons_zero, List.set_cons_succ])
          refine seq_step rfl rfl (fun K hK => ?_); simp only [List.getElem_toArray, List.getElem_cons_zero, List.getElem_cons_succ]; go_simp
          refine (short_calls _ rB lb _ (HB.out.keep ((h5.keep hd).kp))).mono ?_
          rintro e w6 ⟨V6, rfl, hV6, k6⟩
          refine hK.out _ _ (k6.any) ?_; clear hK; (try simp only [Act.put, List.setIfInBounds_toArray, List.set_cons_zero, List.set_cons_succ])
          clear x1 x2
          refine seq_step rfl rfl (fun K hK => ?_); simp only [List.getElem_toArray, List.getElem_cons_zero, List.getElem_cons_succ]; go_simp
          refine (pwrite conn _ rB (lb.take 1500) _ hG3 ((hA.seq hd).seq k6) hV6 (by omega)).mono ?_
          rintro e w7 ⟨rfl, hG7, Z, k7, hZ⟩
          refine hK.out _ _ (k7.mono hZ) ?_; clear hK; (try simp only [Act.put, List.setIfInBounds_toArray, List.set_cons_zero, List.set_cons_succ])
          repeat (refine seq_still (v := ?_) rfl rfl (fun wq hq => ?_) ?_; rotate_left; (focus ((simp only [List.getElem_toArray, List.getElem_cons_zero, List.getElem_cons_succ]; go_simp; try with_reducible rfl); done)); simp only [List.getElem_toArray, List.getElem_cons_zero, List.getElem_cons_succ, Act.put, List.setIfInBounds_toArray, List.set_cons_zero, List.set_cons_succ])
          refine seq_nil ?_
          have hO7 := ((hO.keep hd).keep k6).kp k7 (fun h => by have := hZ _ h; omega)
          have p1 := hO7.cell 1
          have p2 := hO7.cell 2
          simp at p1 p2
          have hd7 := (Kp.refl Non w7).drew
          have x1 : ∀ w', Kp G w7.drew w' → w'.cell? ⟨wr.heap.size, 1, none⟩ = some (.int .i64 conn) := fun w' hk => hk.cell (hd7.cell p1 (fun x => x)) (fun h => Nat.lt_irrefl _ (hGl _ h).2)
          have x2 : ∀ w', Kp G w7.drew w' → w'.cell? ⟨wr.heap.size, 2, none⟩ = some (.slice VB lb.length cb) := fun w' hk => hk.cell (hd7.cell p2 (fun x => x)) (fun h => Nat.lt_irrefl _ (hGl _ h).2)
          clear p1 p2
          have hbw := hbd.write conn (lb.take 1500)
          go_wp2
          refine wp_region_seq [(0, true), (1, true), (2, true), (3, true), (4, true), (5, false), (6, false), (7, true)] 8 (G) wide (by kernel_rfl) (fun _ _ _ _ _ h => h) ?_; (try simp only [List.append_eq, List.cons_append, List.nil_append])
          repeat (refine seq_still (v := ?_) rfl rfl (fun wq hq => ?_) ?_; rotate_left; (focus ((simp only [List.getElem_toArray, List.getElem_cons_zero, List.getElem_cons_succ]; go_simp; try with_reducible rfl); done)); simp only [List.getElem_toArray, List.getElem_cons_zero, List.getElem_cons_succ, Act.put, List.setIfInBounds_toArray, List.set_cons_zero, List.set_cons_succ])
          refine seq_step rfl rfl (fun K hK => ?_); simp only [List.getElem_toArray, List.getElem_cons_zero, List.getElem_cons_succ]; go_simp
          refine (short_calls _ rB lb _ (HB.out.keep (hG7.kp.seq hd7))).mono ?_
          rintro e w8 ⟨V8, rfl, hV8, k8⟩
          refine hK.out _ _ (k8.any) ?_; clear hK; (try simp only [Act.put, List.setIfInBounds_toArray, List.set_cons_zero, List.set_cons_succ])
          clear x1 x2
          refine seq_step rfl rfl (fun K hK => ?_); simp only [List.getElem_toArray, List.getElem_cons_zero, List.getElem_cons_succ]; go_simp
          refine (pwrite2 conn _ rB (lb.take 1500) _ ((hG7.keep hd7).keep k8) hV8 (by omega)).mono ?_
          rintro e w9 ⟨rfl, h9, k9⟩
          refine hK.out _ _ (k9) ?_; clear hK; (try simp only [Act.put, List.setIfInBounds_toArray, List.set_cons_zero, List.set_cons_succ])
          repeat (refine seq_still (v := ?_) rfl rfl (fun wq hq => ?_) ?_; rotate_left; (focus ((simp only [List.getElem_toArray, List.getElem_cons_zero, List.getElem_cons_succ]; go_simp; try with_reducible rfl); done)); simp only [List.getElem_toArray, List.getElem_cons_zero, List.getElem_cons_succ, Act.put, List.setIfInBounds_toArray, List.set_cons_zero, List.set_cons_succ])
          refine seq_nil ?_
          generalize writeE S conn (lb.take 1500) = E
          go_wp2_with fail
          go_meet
          case rel => exact ⟨g, _, rfl, hbw.mono (by omega), h9⟩
        · have z3 : (kd % 8 == 3) = false := by simpa using t3
          by_cases t4 : kd % 8 = 4
          · have z4 : (kd % 8 == 4) = true := by simpa using t4
            clear t3 t4
            go_wp2_with fail
            refine (pfinish conn _ hG3 hA).mono ?_
            rintro e w7 ⟨rfl, hG7, Z, k7, hZ⟩
            have hO7 := hO.kp k7 (fun h => by have := hZ _ h; omega)
            clear o1 o2 o3 o4 o5 o6
            have p1 := hO7.cell 1
            simp at p1
            go_wp2_with fail
            refine (pfinish2 conn _ hG7.pr).mono ?_
            rintro e w8 ⟨rfl, h8⟩
            have hb8 := hbd.fin conn
            go_wp2_with fail
            go_meet
            case rel => exact ⟨g, _, rfl, hb8.mono (by omega), h8⟩
          · have z4 : (kd % 8 == 4) = false := by simpa using t4
            by_cases t5 : kd % 8 = 5
            · have z5 : (kd % 8 == 5) = true := by simpa using t5
              clear t3 t4 t5
              go_wp2_with fail
              refine (pask _ h5 (hbd.bd (by omega))).mono ?_
              rintro e w7 ⟨rfl, h7⟩
              clear o1 o2 o3 o4 o5 o6
              generalize hD : decide ((S 1).st ≠ 1) = D
              have HD := hid hD
              clear hD
              go_wp2_with fail
              refine (pask2 _ h7 (hbd.bd (by omega))).mono ?_
              rintro e w8 ⟨rfl, h8⟩
              have hb8 := hbd.ask hbl
              rw [HD.out]
              go_wp2_with fail
              go_meet
              case rel => exact ⟨g, _, rfl, by rw [show 4000 * (j + 1) = 4000 * j + 4000 by omega]; exact hb8, h8⟩
            · have z5 : (kd % 8 == 5) = false := by simpa using t5
              by_cases t6 : kd % 8 = 6
              · have z6 : (kd % 8 == 6) = true := by simpa using t6
                clear t3 t4 t5 t6
                go_wp2_with fail
                refine (pclone _ h5).mono ?_
                rintro e w7 ⟨n, rfl, h7⟩
                clear o1 o2 o3 o4 o5 o6
                have kc := KC.out
                go_wp2_with fail
                refine (twrite 0 _ _ [122, 122] _ (h7.keep ((Kp.refl _ _).alloc _)) (Rd.const w7 5 (2, 3) [122, 122] _ 2 rfl rfl (by decide)) (by decide)).mono ?_
                rintro e w8 ⟨rfl, h8⟩
                clear kc
                go_wp2_with fail
                refine (thappen 4 0 0 _ [] _ h8 (Rd.nil _ none 0 (by simp [maxLen]) none) (by decide)).mono ?_
                rintro e w9 ⟨v9, rfl, h9⟩
                have hb9 := ((hbd.write 0 [122, 122]).hap 4 0 0 []).bd (by omega)
                go_wp2_with fail
                refine (task _ h9 hb9).mono ?_
                rintro e w10 ⟨v10, rfl, h10⟩
                go_wp2_with fail
                go_meet
                case rel => exact ⟨n, S, rfl, hbd.mono (by omega), h10⟩
              · have z6 : (kd % 8 == 6) = false := by simpa using t6
                clear t3 t4 t5 t6
                go_wp2_with fail
                refine (event_calls ek ec en _ rE le _ (HE.out.keep h5.kp) (fun k hk => by have := HrE.out k hk; have := h5.kp.size; omega)).mono ?_
                rintro e w7 ⟨V, rfl, hV, k7⟩
                go_wp2_with fail
                refine (phappen ek ec en _ rE (le.take 1500) _ hG3 (hA.seq k7) hV HrE.out (by omega)).mono ?_
                rintro e w8 ⟨v8, r8, rfl, q8, hG8, n8, Z, k8, hZ⟩
                have hO8 := (hO.keep k7).kp k8 (fun h => by have := hZ _ h; omega)
                clear o1 o2 o3 o4 o5 o6
                have p3 := hO8.cell 3
                have p4 := hO8.cell 4
                have p5 := hO8.cell 5
                have p6 := hO8.cell 6
                simp at p3 p4 p5 p6
                go_wp2_with fail
                refine (event_calls ek ec en _ rE le _ (HE.out.keep hG8.kp) (fun k hk => by have := HrE.out k hk; have := hG8.kp.size; omega)).mono ?_
                rintro e w9 ⟨V9, rfl, hV9, k9⟩
                clear p3 p4 p5 p6
                go_wp2_with fail
                refine (phappen2 ek ec en _ rE (le.take 1500) _ (hG8.keep k9) hV9 HrE.out (by omega)).mono ?_
                rintro e w10 ⟨v10, r10, rfl, q10, h10, k10⟩
                have hb10 := hbd.hap ek ec en (le.take 1500)
                have hs7 := (hA.seq k7).size
                have qq8 := (q8.keep k9).kp k10 (fun k hk h => by have := n8 k hk; have := hGl k h; omega)
                have s8 := qq8.rd.str 26 5 9 Try.underlying26 Try.underlying5 Try.underlying9
                have s10 := q10.rd.str 26 5 9 Try.underlying26 Try.underlying5 Try.underlying9
                clear q8 qq8 q10 hO8 n8
                generalize hapE S ek ec en (le.take 1500) = E
                generalize hapB S ek ec en (le.take 1500) = B at s8 s10
                generalize hapS S ek ec en (le.take 1500) = T at hb10 h10
                go_wp2_with fail
                go_meet
                case rel => exact ⟨g, T, rfl, hb10.mono (by omega), h10⟩
      case rest =>
        obtain ⟨g', T, rfl, hbT, hP⟩ := hcut
        clear h5 hG3 hGl hA hO o1 o2 o3 o4 o5 o6 hbd
        have hbT' : Bd T := hbT.bd (by omega)
        go_wp2_with fail
        go_loopw [17] (fun kv wr => WPIn w g' y T kv wr) (fun kv _ => (3 - intOf kv).toNat)
        case atStart => exact ⟨-1, rfl, by omega, by omega, hP⟩
        case round =>
          clear hP
          obtain ⟨k, rfl, hk1, hk2, hP⟩ := hrel
          by_cases hk : k ≤ 2
          · have hwr : IntKind.i64.wrap (k + 1) = k + 1 := IntWalk.i64_in _ (by omega)
            have hPd := hP.keep ((Kp.refl Non _).drew)
            go_wp2
            refine wp_region_seq [(0, true), (1, true), (3, true), (4, true), (2, false), (5, false), (6, true), (7, true), (8, true), (9, true), (11, true), (12, true), (10, false), (13, false), (14, true), (15, true), (16, true), (17, true), (18, true), (21, true), (22, true), (19, false), (20, true), (23, false), (24, true), (25, true), (26, true), (27, true), (28, true), (29, true), (32, true), (33, true), (30, false), (31, true), (34, false), (35, true), (36, true), (37, true), (38, true), (39, true), (40, true), (42, true), (43, true), (41, false), (44, false), (45, true), (46, true)] 47 Non wide (by kernel_rfl) (fun _ _ _ _ _ h => h) ?_; (try simp only [List.append_eq, List.cons_append, List.nil_append])
            repeat (refine seq_still (v := ?_) rfl rfl (fun wq hq => ?_) ?_; rotate_left; (focus ((simp only [List.getElem_toArray, List.getElem_cons_zero, List.getElem_cons_succ]; go_simp; try with_reducible rfl); done)); simp only [List.getElem_toArray, List.getElem_cons_zero, List.getElem_cons_succ, Act.put, List.setIfInBounds_toArray, List.set_cons_zero, List.set_cons_succ])
            refine seq_step rfl rfl (fun K hK => ?_); simp only [List.getElem_toArray, List.getElem_cons_zero, List.getElem_cons_succ]; go_simp
            refine (pstate k _ hPd).mono ?_
            rintro e wA ⟨rfl, kA⟩
            refine hK.out _ _ (kA) ?_; clear hK; (try simp only [Act.put, List.setIfInBounds_toArray, List.set_cons_zero, List.set_cons_succ])
            have KA := kA
            repeat (refine seq_still (v := ?_) rfl rfl (fun wq hq => ?_) ?_; rotate_left; (focus ((simp only [List.getElem_toArray, List.getElem_cons_zero, List.getElem_cons_succ]; go_simp; try with_reducible rfl); done)); simp only [List.getElem_toArray, List.getElem_cons_zero, List.getElem_cons_succ, Act.put, List.setIfInBounds_toArray, List.set_cons_zero, List.set_cons_succ])
            refine seq_step rfl rfl (fun K hK => ?_); simp only [List.getElem_toArray, List.getElem_cons_zero, List.getElem_cons_succ]; go_simp
            refine (pstate2 k _ (hPd.keep KA)).mono ?_
            rintro e wB ⟨rfl, kB⟩
            refine hK.out _ _ (kB) ?_; clear hK; (try simp only [Act.put, List.setIfInBounds_toArray, List.set_cons_zero, List.set_cons_succ])
            have KB := KA.seq kB
            repeat (refine seq_still (v := ?_) rfl rfl (fun wq hq => ?_) ?_; rotate_left; (focus ((simp only [List.getElem_toArray, List.getElem_cons_zero, List.getElem_cons_succ]; go_simp; try with_reducible rfl); done)); simp only [List.getElem_toArray, List.getElem_cons_zero, List.getElem_cons_succ, Act.put, List.setIfInBounds_toArray, List.set_cons_zero, List.set_cons_succ])
            refine seq_step rfl rfl (fun K hK => ?_); simp only [List.getElem_toArray, List.getElem_cons_zero, List.getElem_cons_succ]; go_simp
            refine (pwaits k _ (hPd.keep KB)).mono ?_
            rintro e wC ⟨rfl, kC⟩
            refine hK.out _ _ (kC) ?_; clear hK; (try simp only [Act.put, List.setIfInBounds_toArray, List.set_cons_zero, List.set_cons_succ])
            have KC := KB.seq kC
            repeat (refine seq_still (v := ?_) rfl rfl (fun wq hq => ?_) ?_; rotate_left; (focus ((simp only [List.getElem_toArray, List.getElem_cons_zero, List.getElem_cons_succ]; go_simp; try with_reducible rfl); done)); simp only [List.getElem_toArray, List.getElem_cons_zero, List.getElem_cons_succ, Act.put, List.setIfInBounds_toArray, List.set_cons_zero, List.set_cons_succ])
            refine seq_step rfl rfl (fun K hK => ?_); simp only [List.getElem_toArray, List.getElem_cons_zero, List.getElem_cons_succ]; go_simp
            refine (pwaits2 k _ (hPd.keep KC)).mono ?_
            rintro e wD ⟨rfl, kD⟩
            refine hK.out _ _ (kD) ?_; clear hK; (try simp only [Act.put, List.setIfInBounds_toArray, List.set_cons_zero, List.set_cons_succ])
            have KD := KC.seq kD
            repeat (refine seq_still (v := ?_) rfl rfl (fun wq hq => ?_) ?_; rotate_left; (focus ((simp only [List.getElem_toArray, List.getElem_cons_zero, List.getElem_cons_succ]; go_simp; try with_reducible rfl); done)); simp only [List.getElem_toArray, List.getElem_cons_zero, List.getElem_cons_succ, Act.put, List.setIfInBounds_toArray, List.set_cons_zero, List.set_cons_succ])
            refine seq_step rfl rfl (fun K hK => ?_); simp only [List.getElem_toArray, List.getElem_cons_zero, List.getElem_cons_succ]; go_simp
            refine (psent k _ (hPd.keep KD) hbT').mono ?_
            rintro e wE ⟨vE, rE, rfl, oE, nE, kE⟩
            refine hK.out _ _ (kE) ?_; clear hK; (try simp only [Act.put, List.setIfInBounds_toArray, List.set_cons_zero, List.set_cons_succ])
            have KE := KD.seq kE
            have sE := oE.rd.strs 26 5 9 Try.underlying26 Try.underlying5 Try.underlying9
            repeat (refine seq_still (v := ?_) rfl rfl (fun wq hq => ?_) ?_; rotate_left; (focus ((simp only [List.getElem_toArray, List.getElem_cons_zero, List.getElem_cons_succ]; go_simp; try with_reducible rfl); done)); simp only [List.getElem_toArray, List.getElem_cons_zero, List.getElem_cons_succ, Act.put, List.setIfInBounds_toArray, List.set_cons_zero, List.set_cons_succ])
            refine seq_step rfl rfl (fun K hK => ?_); simp only [List.getElem_toArray, List.getElem_cons_zero, List.getElem_cons_succ]; go_simp
            refine (psent2 k _ (hPd.keep KE) hbT').mono ?_
            rintro e wF ⟨vF, rF, rfl, oF, nF, kF⟩
            refine hK.out _ _ (kF) ?_; clear hK; (try simp only [Act.put, List.setIfInBounds_toArray, List.set_cons_zero, List.set_cons_succ])
            have KF := KE.seq kF
            have sF := oF.rd.strs 26 5 9 Try.underlying26 Try.underlying5 Try.underlying9
            repeat (refine seq_still (v := ?_) rfl rfl (fun wq hq => ?_) ?_; rotate_left; (focus ((simp only [List.getElem_toArray, List.getElem_cons_zero, List.getElem_cons_succ]; go_simp; try with_reducible rfl); done)); simp only [List.getElem_toArray, List.getElem_cons_zero, List.getElem_cons_succ, Act.put, List.setIfInBounds_toArray, List.set_cons_zero, List.set_cons_succ])
            refine seq_step rfl rfl (fun K hK => ?_); simp only [List.getElem_toArray, List.getElem_cons_zero, List.getElem_cons_succ]; go_simp
            refine (pwritten k _ (hPd.keep KF) hbT').mono ?_
            rintro e wG ⟨vG, rG, rfl, oG, nG, kG⟩
            refine hK.out _ _ (kG) ?_; clear hK; (try simp only [Act.put, List.setIfInBounds_toArray, List.set_cons_zero, List.set_cons_succ])
            have KG := KF.seq kG
            have sG := oG.rd.strs 26 5 9 Try.underlying26 Try.underlying5 Try.underlying9
            repeat (refine seq_still (v := ?_) rfl rfl (fun wq hq => ?_) ?_; rotate_left; (focus ((simp only [List.getElem_toArray, List.getElem_cons_zero, List.getElem_cons_succ]; go_simp; try with_reducible rfl); done)); simp only [List.getElem_toArray, List.getElem_cons_zero, List.getElem_cons_succ, Act.put, List.setIfInBounds_toArray, List.set_cons_zero, List.set_cons_succ])
            refine seq_step rfl rfl (fun K hK => ?_); simp only [List.getElem_toArray, List.getElem_cons_zero, List.getElem_cons_succ]; go_simp
            refine (pwritten2 k _ (hPd.keep KG) hbT').mono ?_
            rintro e wH ⟨vH, rH, rfl, oH, nH, kH⟩
            refine hK.out _ _ (kH) ?_; clear hK; (try simp only [Act.put, List.setIfInBounds_toArray, List.set_cons_zero, List.set_cons_succ])
            have KH := KG.seq kH
            have sH := oH.rd.strs 26 5 9 Try.underlying26 Try.underlying5 Try.underlying9
            repeat (refine seq_still (v := ?_) rfl rfl (fun wq hq => ?_) ?_; rotate_left; (focus ((simp only [List.getElem_toArray, List.getElem_cons_zero, List.getElem_cons_succ]; go_simp; try with_reducible rfl); done)); simp only [List.getElem_toArray, List.getElem_cons_zero, List.getElem_cons_succ, Act.put, List.setIfInBounds_toArray, List.set_cons_zero, List.set_cons_succ])
            refine seq_step rfl rfl (fun K hK => ?_); simp only [List.getElem_toArray, List.getElem_cons_zero, List.getElem_cons_succ]; go_simp
            refine (pfinished k _ (hPd.keep KH)).mono ?_
            rintro e wI ⟨rfl, kI⟩
            refine hK.out _ _ (kI) ?_; clear hK; (try simp only [Act.put, List.setIfInBounds_toArray, List.set_cons_zero, List.set_cons_succ])
            have KI := KH.seq kI
            repeat (refine seq_still (v := ?_) rfl rfl (fun wq hq => ?_) ?_; rotate_left; (focus ((simp only [List.getElem_toArray, List.getElem_cons_zero, List.getElem_cons_succ]; go_simp; try with_reducible rfl); done)); simp only [List.getElem_toArray, List.getElem_cons_zero, List.getElem_cons_succ, Act.put, List.setIfInBounds_toArray, List.set_cons_zero, List.set_cons_succ])
            refine seq_step rfl rfl (fun K hK => ?_); simp only [List.getElem_toArray, List.getElem_cons_zero, List.getElem_cons_succ]; go_simp
            refine (pfinished2 k _ (hPd.keep KI)).mono ?_
            rintro e wJ ⟨rfl, kJ⟩
            refine hK.out _ _ (kJ) ?_; clear hK; (try simp only [Act.put, List.setIfInBounds_toArray, List.set_cons_zero, List.set_cons_succ])
            have KJ := KI.seq kJ
            repeat (refine seq_still (v := ?_) rfl rfl (fun wq hq => ?_) ?_; rotate_left; (focus ((simp only [List.getElem_toArray, List.getElem_cons_zero, List.getElem_cons_succ]; go_simp; try with_reducible rfl); done)); simp only [List.getElem_toArray, List.getElem_cons_zero, List.getElem_cons_succ, Act.put, List.setIfInBounds_toArray, List.set_cons_zero, List.set_cons_succ])
            refine seq_nil ?_
            have hE := hPd.keep KJ
            clear sE sF sG sH oE oF oG oH nE nF nG nH
            go_wp2_with fail
            go_roundw
            case rel => exact ⟨k + 1, by go_num, by omega, by omega, hE⟩
            case measure => simp [intOf]; omega
          · go_wp2_with fail
            go_roundw
            case rel => exact ⟨j + 1, g', T, rfl, by go_num, by omega, by omega, hbT, hP⟩
            case measure => simp [intOf]; omega
    · by_cases he1 : j < CS.length
      all_goals
        have he2 : j < CS.length → ¬ j < 60 := fun h1 h2 => hend ⟨h1, h2⟩
        go_wp2_with fail
        go_ret
        exact ⟨rfl, h3.kp⟩

end Go.Proofs.Ytpbkipolgdldfaa

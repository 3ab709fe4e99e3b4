/- The reference's wire: Happen, bytes that come, and an end. -/
import Derived.Test.YtpbkipolgdldfaaRWireA
namespace Go.Proofs.Ytpbkipolgdldfaa
open Go.RowKit
set_option linter.unusedSimpArgs false
set_option linter.unusedVariables false
attribute [local go_sem] max2_of min2_of max_of min_of
variable {g : Nat} {S : Nat → Cn} {F R : Nat → Prop}

/-- What the reference's Happen brings about. -/
def RHaP (w : World) (g : Nat) (S : Nat → Cn) (F R : Nat → Prop) (kd conn n : Int) (l : List UInt8) (e : Ending) (w' : World) : Prop :=
  ∃ v1 r1, ∃ F', e = .returned (.tuple #[v1, .int .i64 (hapE S kd conn n l)]) ∧ Own w' 5 1 v1 r1 (hapB S kd conn n l).length (byv (hapB S kd conn n l)) ∧ (∀ k, r1 = some k → w.heap.size ≤ k) ∧
    RWir w' g (hapS S kd conn n l) F' R ∧ (∀ k, F' k → F k ∨ w.heap.size ≤ k) ∧ Kp F w w'

theorem RHaP.no {w w' : World} {g : Nat} {S : Nat → Cn} {F R : Nat → Prop} {kd conn n : Int} {l : List UInt8} (hE : hapE S kd conn n l = 1) (h : RWir w g S F R) (k : Kp Non w w') : RHaP w g S F R kd conn n l (.returned (.tuple #[.slice none 0 0, .int .i64 1])) w' := by
  have hB : hapB S kd conn n l = [] := by simp [hapB, hE]
  have hS : hapS S kd conn n l = S := by simp [hapS, hE]
  exact ⟨_, none, F, by rw [hE], by rw [hB]; exact Own.nil _ _ _ _, (fun k hk => by cases hk), by rw [hS]; exact h.keep k, fun k hk => .inl hk, k.any⟩

set_option maxHeartbeats 1000000 in
set_option maxRecDepth 20000 in
theorem rhap1 (conn n : Int) (v : Value) (rv : Option Nat) (l : List UInt8) (w : World) (h : RWir w g S F R) (hv : Rd w v rv (byv l)) (hvF : ∀ k, rv = some k → ¬ F k) (hl : l.length ≤ 140737488300000) :
    Calls Try.prog 26 #[.pointer (some ⟨g, 0, none⟩), evt 1 conn n v] w (RHaP w g S F R 1 conn n l) := by
  unfold evt
  have HV := hid hv
  obtain ⟨A, c, rfl, _⟩ := hv
  simp only [byv_length] at HV ⊢
  have hA := (Kp.refl Non w).alloc (.cells #[.int .i64 1, .int .i64 conn, .int .i64 n, .slice A l.length c] 28)
  have hB := Blk.new w #[.int .i64 1, .int .i64 conn, .int .i64 n, .slice A l.length c] 28
  have hFg : F g := by obtain ⟨_, _, _, _, _, h3, _⟩ := h; exact h3
  have hgl : g < w.heap.size := by obtain ⟨_, _, _, b, _⟩ := h; exact b.lt
  have hge : ¬ w.heap.size = g := by omega
  go_enter Try.func26, Try.ntmps26
  go_wp2_with fail
  refine (rstate_calls (g := g) (S := S) (F := F) (R := R) conn _ (h.keep hA)).mono ?_
  rintro e w1 ⟨rfl, k1⟩
  have hB1 := hB.keep k1
  have e0 := hB1.cell 0
  have ec := hB1.cell 1
  have en := hB1.cell 2
  have eb := hB1.cell 3
  simp at e0 ec en eb
  have K1 := hA.seq k1
  have h1 := h.keep K1
  rcases conn_cases conn with ⟨i, rfl, hi⟩ | hc
  · rw [gt_in S _ _ _ i rfl hi]
    have hi1 : (i : Int) < 2 := by omega
    have hE1 : hapE S 1 i n l = (S i).chunkE l := by simp only [hapE, if_true]; exact gt_in S _ _ _ i rfl hi
    have HE1 := hid hE1
    clear hE1
    by_cases h2 : (S i).st = 2
    · have HS := hid h2
      rw [h2]
      clear h2
      go_wp2_with fail
      refine (known_in i _ hi).mono ?_
      rintro e w2 ⟨rfl, k2⟩
      have K2 := K1.seq k2
      have h2 := h.keep K2
      have ec2 := k2.cell ec (fun x => x)
      have en2 := k2.cell en (fun x => x)
      have eb2 := k2.cell eb (fun x => x)
      obtain ⟨c1, fz, hg4⟩ : w2.cell? ⟨g, i * 6 + 1, none⟩ = some (.int .i64 (S i).got) ∧ (∀ o, w2.frozen? ⟨g, o, none⟩ = false) ∧ (S i).got ≤ 4000 := by
        obtain ⟨_, _, _, _, _, _, c0, c1, _, _, _, _, _, _, _, fz, hg4⟩ := h2.cells i hi
        exact ⟨c1, fz, hg4⟩
      have x1 : ∀ w', Kp Non w2.drew w' → w'.cell? ⟨g, i * 6 + 1, none⟩ = some (.int .i64 (S i).got) := fun w' hk => (((Kp.refl Non w2).drew).seq hk).cell c1 (fun x => x)
      have xc : ∀ w', Kp Non w2.drew w' → w'.cell? ⟨w.heap.size, 1, none⟩ = some (.int .i64 i) := fun w' hk => (((Kp.refl Non w2).drew).seq hk).cell ec2 (fun x => x)
      have xb : ∀ w', Kp Non w2.drew w' → w'.cell? ⟨w.heap.size, 3, none⟩ = some (.slice A l.length c) := fun w' hk => (((Kp.refl Non w2).drew).seq hk).cell eb2 (fun x => x)
      have hwr1 : IntKind.i64.wrap (4000 - ((S i).got : Int)) = 4000 - ((S i).got : Int) := IntWalk.i64_in _ (by omega)
      by_cases hlen : (S i).got + l.length ≤ 4000
      · have hE : (S i).chunkE l = 0 := by simp [Cn.chunkE, HS.out, hlen]
        have HE := hid hE
        clear hE
        have hlt : decide ((4000 : Int) - (S i).got < l.length) = false := by simp; omega
        have hwr2 : IntKind.i64.wrap (((S i).got : Int) + l.length) = (((S i).got + l.length : Nat) : Int) := by rw [IntWalk.i64_in _ (by omega)]; omega
        go_wp2
        refine wp_region_seq [(0, true), (1, true), (2, true), (3, true), (4, true), (5, true), (6, true), (7, true), (8, true), (9, true), (10, true), (11, true), (12, true)] 13 Non wide (by kernel_rfl) (fun _ _ _ _ _ h => h) ?_; (try simp only [List.append_eq, List.cons_append, List.nil_append])
        repeat (refine seq_still (v := ?_) rfl rfl (fun wq hq => ?_) ?_; rotate_left; (focus ((simp only [List.getElem_toArray, List.getElem_cons_zero, List.getElem_cons_succ]; go_simp; try with_reducible rfl); done)); simp only [List.getElem_toArray, List.getElem_cons_zero, List.getElem_cons_succ, Act.put, List.setIfInBounds_toArray, List.set_cons_zero, List.set_cons_succ])
        refine seq_nil ?_
        clear xc xb x1 hwr1
        have hd := (Kp.refl Non w2).drew
        have KD := K2.seq hd
        have hBd := (hB1.keep k2).keep hd
        generalize w2.drew = w3 at hd KD hBd ⊢
        have h3 := h.keep KD
        obtain ⟨c13, fz3⟩ : w3.cell? ⟨g, i * 6 + 1, none⟩ = some (.int .i64 (S i).got) ∧ (∀ o, w3.frozen? ⟨g, o, none⟩ = false) := by
          obtain ⟨_, _, _, _, _, _, c0, c1, _, _, _, _, _, _, _, fz, hg4⟩ := h3.cells i hi
          exact ⟨c1, fz⟩
        clear c1 fz
        have hd3 := (Kp.refl Non w3).drew
        have ec3 := hBd.cell 1
        have eb3 := hBd.cell 3
        simp at ec3 eb3
        have x1 : ∀ w', Kp Non w3.drew w' → w'.cell? ⟨g, i * 6 + 1, none⟩ = some (.int .i64 (S i).got) := fun w' hk => (hd3.seq hk).cell c13 (fun x => x)
        have xc : ∀ w', Kp Non w3.drew w' → w'.cell? ⟨w.heap.size, 1, none⟩ = some (.int .i64 i) := fun w' hk => (hd3.seq hk).cell ec3 (fun x => x)
        have xb : ∀ w', Kp Non w3.drew w' → w'.cell? ⟨w.heap.size, 3, none⟩ = some (.slice A l.length c) := fun w' hk => (hd3.seq hk).cell eb3 (fun x => x)
        have c14 : w3.drew.cell? ⟨g, i * 6 + 1, none⟩ = some (.int .i64 (S i).got) := x1 _ (Kp.refl _ _)
        have fz4 : ∀ o, w3.drew.frozen? ⟨g, o, none⟩ = false := fun o => by rw [World.frozen?_drew]; exact fz3 o
        go_wp2
        refine wp_region_seq [(0, true), (1, true), (2, true), (3, true), (4, true), (5, true), (6, true), (7, true), (8, true), (9, true), (10, true), (11, true), (12, true), (13, true), (14, true), (15, true), (16, true), (17, true), (18, true), (19, false)] 19 Non wide (by kernel_rfl) (fun _ _ _ _ _ h => h) ?_; (try simp only [List.append_eq, List.cons_append, List.nil_append])
        generalize w3.drew = wd at hd3 x1 xc xb c14 fz4 ⊢
        repeat (refine seq_still (v := ?_) rfl rfl (fun wq hq => ?_) ?_; rotate_left; (focus ((simp only [List.getElem_toArray, List.getElem_cons_zero, List.getElem_cons_succ]; go_simp; try with_reducible rfl); done)); simp only [List.getElem_toArray, List.getElem_cons_zero, List.getElem_cons_succ, Act.put, List.setIfInBounds_toArray, List.set_cons_zero, List.set_cons_succ])
        have hW := (h3.keep hd3).setC i hi 1 (by omega) (.int .i64 (((S i).got : Int) + (l.length : Int))) { S i with got := (S i).got + l.length } rfl rfl rfl rfl rfl rfl rfl hlen
        have hK := (((KD.seq hd3).any (S := F))).setCell (p := ⟨g, i * 6 + 1, none⟩) (.inl hFg) (.int .i64 (((S i).got : Int) + (l.length : Int)))
        have hBk := (hBd.keep hd3).kp ((Kp.refl (One g) wd).setOne (i * 6 + 1) (.int .i64 (((S i).got : Int) + (l.length : Int)))) (fun h => hge h)
        refine seq_last rfl rfl (fun K hK => ?_); simp only [List.getElem_toArray, List.getElem_cons_zero, List.getElem_cons_succ]; go_simp
        refine hK.out _ _ ?_; clear hK; (try simp only [Act.put, List.setIfInBounds_toArray, List.set_cons_zero, List.set_cons_succ])
        refine seq_nil ?_
        generalize wd.setCell ⟨g, i * 6 + 1, none⟩ (.int .i64 (((S i).got : Int) + (l.length : Int))) = W at hW hK hBk ⊢
        have ebw := (hBk.old (.cells #[] 5)).cell 3
        simp at ebw
        have HR := hid (HV.out.kp hK hvF)
        have ka := (Kp.refl Non W).alloc (.cells #[] 5)
        go_wp2_with (at_builtin; go_must (refine wpList_append_any rfl _ _ _ _ rfl 5 (.int .u8 0) 1 1 Try.underlying26 info8 rfl _ none 0 [] rfl (Own.nil _ _ _ _) _ l.length (byv l) rfl ?hs (by omega) (by omega) ?_))
        case hs => have := (HR.out.keep ka).src Try.underlying26 (byv_one l); rw [byv_length] at this; exact this
        intro v5 r5 w5 o5 k5 n5
        go_wp2_with fail
        go_ret2
        have hE0 : hapE S 1 i n l = 0 := by rw [HE1.out, HE.out]
        have hBn : hapB S 1 i n l = l := by simp [hapB, hE0]
        have hSn : hapS S 1 i n l = upd S i { S i with got := (S i).got + l.length } := by simp [hapS, hE0]
        have K5 : Kp Non W w5 := ka.trans k5 (fun _ h => by cases h)
        refine ⟨v5, r5, F, by rw [HE1.out, HE.out]; rfl, by rw [hBn]; simpa using o5, fun k hk => ?_, by rw [hSn]; exact hW.keep K5, fun k hk => .inl hk, hK.trans K5 (fun _ h => h.elim)⟩
        rcases n5 k hk with x | x
        · cases x
        · have := hK.size; simp at x; omega
      · have hlt : decide ((4000 : Int) - (S i).got < l.length) = true := by simp; omega
        have hE : (S i).chunkE l = 72 := by simp [Cn.chunkE, HS.out, hlen]
        have HE := hid hE
        clear hE
        go_wp2
        refine wp_region_seq [(0, true), (1, true), (2, true), (3, true), (4, true), (5, true), (6, true), (7, true), (8, true), (9, true), (10, true), (11, true), (12, true)] 13 Non wide (by kernel_rfl) (fun _ _ _ _ _ h => h) ?_; (try simp only [List.append_eq, List.cons_append, List.nil_append])
        repeat (refine seq_still (v := ?_) rfl rfl (fun wq hq => ?_) ?_; rotate_left; (focus ((simp only [List.getElem_toArray, List.getElem_cons_zero, List.getElem_cons_succ]; go_simp; try with_reducible rfl); done)); simp only [List.getElem_toArray, List.getElem_cons_zero, List.getElem_cons_succ, Act.put, List.setIfInBounds_toArray, List.set_cons_zero, List.set_cons_succ])
        refine seq_nil ?_
        go_wp2
        go_ret2
        have hE0 : ¬ hapE S 1 i n l = 0 := by rw [HE1.out, HE.out]; omega
        have hBn : hapB S 1 i n l = [] := by simp [hapB, hE0]
        have hSn : hapS S 1 i n l = S := by simp [hapS, hE0]
        exact ⟨_, none, F, by rw [HE1.out, HE.out]; rfl, by rw [hBn]; exact Own.nil _ _ _ _, (fun k hk => by cases hk), by rw [hSn]; exact h.keep (K2.seq ((Kp.refl Non w2).drew)), fun k hk => .inl hk, (K2.seq ((Kp.refl Non w2).drew)).any⟩
    · have e2 : ((S i).st != 2) = true := by simpa using h2
      go_wp2_with fail
      refine (known_in i _ hi).mono ?_
      rintro e w2 ⟨rfl, k2⟩
      go_wp2_with fail
      go_ret2
      exact RHaP.no (by rw [HE1.out]; simp [Cn.chunkE, h2]) h (K1.seq k2)
  · rw [gt_out S _ _ _ hc]
    go_wp2_with fail
    refine (known_out conn _ hc).mono ?_
    rintro e w2 ⟨rfl, k2⟩
    go_wp2_with fail
    go_ret2
    exact RHaP.no (by simp only [hapE, if_true]; exact gt_out S _ _ _ hc) h (K1.seq k2)

set_option maxHeartbeats 1000000 in
set_option maxRecDepth 20000 in
theorem rhap3 (conn n : Int) (v : Value) (rv : Option Nat) (l : List UInt8) (w : World) (h : RWir w g S F R) (hv : Rd w v rv (byv l)) (hvF : ∀ k, rv = some k → ¬ F k) (hl : l.length ≤ 140737488300000) :
    Calls Try.prog 26 #[.pointer (some ⟨g, 0, none⟩), evt 3 conn n v] w (RHaP w g S F R 3 conn n l) := by
  unfold evt
  have HV := hid hv
  obtain ⟨A, c, rfl, _⟩ := hv
  simp only [byv_length] at HV ⊢
  have hA := (Kp.refl Non w).alloc (.cells #[.int .i64 3, .int .i64 conn, .int .i64 n, .slice A l.length c] 28)
  have hB := Blk.new w #[.int .i64 3, .int .i64 conn, .int .i64 n, .slice A l.length c] 28
  have hFg : F g := by obtain ⟨_, _, _, _, _, h3, _⟩ := h; exact h3
  have hgl : g < w.heap.size := by obtain ⟨_, _, _, b, _⟩ := h; exact b.lt
  have hge : ¬ w.heap.size = g := by omega
  go_enter Try.func26, Try.ntmps26
  go_wp2_with fail
  refine (rstate_calls (g := g) (S := S) (F := F) (R := R) conn _ (h.keep hA)).mono ?_
  rintro e w1 ⟨rfl, k1⟩
  have hB1 := hB.keep k1
  have e0 := hB1.cell 0
  have ec := hB1.cell 1
  have en := hB1.cell 2
  have eb := hB1.cell 3
  simp at e0 ec en eb
  have K1 := hA.seq k1
  have h1 := h.keep K1
  rcases conn_cases conn with ⟨i, rfl, hi⟩ | hc
  · rw [gt_in S _ _ _ i rfl hi]
    have hi1 : (i : Int) < 2 := by omega
    have hE1 : hapE S 3 i n l = if (S i).st = 2 then 0 else 1 := by rw [hapE3, gt_in S _ _ _ i rfl hi]
    have HE1 := hid hE1
    clear hE1
    by_cases h2 : (S i).st = 2
    · have HS := hid h2
      rw [h2]
      clear h2
      go_wp2_with fail
      refine (known_in i _ hi).mono ?_
      rintro e w2 ⟨rfl, k2⟩
      have K2 := K1.seq k2
      have h2 := h.keep K2
      have ec2 := k2.cell ec (fun x => x)
      have en2 := k2.cell en (fun x => x)
      have eb2 := k2.cell eb (fun x => x)
      obtain ⟨c0, fz, hg4⟩ : w2.cell? ⟨g, i * 6, none⟩ = some (.int .i64 (S i).st) ∧ (∀ o, w2.frozen? ⟨g, o, none⟩ = false) ∧ (S i).got ≤ 4000 := by
        obtain ⟨_, _, _, _, _, _, c0, c1, _, _, _, _, _, _, _, fz, hg4⟩ := h2.cells i hi
        exact ⟨c0, fz, hg4⟩
      have hd := (Kp.refl Non w2).drew
      have x0 : w2.drew.cell? ⟨g, i * 6, none⟩ = some (.int .i64 (S i).st) := hd.cell c0 (fun x => x)
      have fz4 : ∀ o, w2.drew.frozen? ⟨g, o, none⟩ = false := fun o => by rw [World.frozen?_drew]; exact fz o
      have xc : ∀ w', Kp Non w2.drew w' → w'.cell? ⟨w.heap.size, 1, none⟩ = some (.int .i64 i) := fun w' hk => (hd.seq hk).cell ec2 (fun x => x)
      have hW := (h2.keep hd).setC i hi 0 (by omega) (.int .i64 3) { S i with st := 3 } rfl rfl rfl rfl rfl rfl rfl hg4
      rw [Nat.add_zero] at hW
      have hK := (((K2.seq hd).any (S := F))).setCell (p := ⟨g, i * 6, none⟩) (.inl hFg) (.int .i64 3)
      clear c0
      go_wp2
      refine wp_region_seq [(0, true), (1, true), (2, true), (3, true), (4, true), (5, true), (6, true), (7, false)] 7 Non wide (by kernel_rfl) (fun _ _ _ _ _ h => h) ?_; (try simp only [List.append_eq, List.cons_append, List.nil_append])
      generalize w2.drew = wd at hd hW hK x0 fz4 xc ⊢
      repeat (refine seq_still (v := ?_) rfl rfl (fun wq hq => ?_) ?_; rotate_left; (focus ((simp only [List.getElem_toArray, List.getElem_cons_zero, List.getElem_cons_succ]; go_simp; try with_reducible rfl); done)); simp only [List.getElem_toArray, List.getElem_cons_zero, List.getElem_cons_succ, Act.put, List.setIfInBounds_toArray, List.set_cons_zero, List.set_cons_succ])
      refine seq_last rfl rfl (fun K hK => ?_); simp only [List.getElem_toArray, List.getElem_cons_zero, List.getElem_cons_succ]; go_simp
      refine hK.out _ _ ?_; clear hK; (try simp only [Act.put, List.setIfInBounds_toArray, List.set_cons_zero, List.set_cons_succ])
      refine seq_nil ?_
      generalize wd.setCell ⟨g, i * 6, none⟩ (.int .i64 3) = W at hW hK ⊢
      go_wp2_with fail
      go_ret2
      have hE : hapE S 3 i n l = 0 := by rw [HE1.out, if_pos HS.out]
      refine ⟨_, none, F, by rw [hE]; rfl, by simp only [hapB]; rw [if_neg (by omega)]; exact Own.nil _ _ _ _, (fun k hk => by cases hk), ?_, fun k hk => .inl hk, hK⟩
      simpa [hapS, hE] using hW
    · have e2 : ((S i).st != 2) = true := by simpa using h2
      go_wp2_with fail
      refine (known_in i _ hi).mono ?_
      rintro e w2 ⟨rfl, k2⟩
      go_wp2_with fail
      go_ret2
      exact RHaP.no (by rw [HE1.out, if_neg h2]) h (K1.seq k2)
  · rw [gt_out S _ _ _ hc]
    go_wp2_with fail
    refine (known_out conn _ hc).mono ?_
    rintro e w2 ⟨rfl, k2⟩
    go_wp2_with fail
    go_ret2
    exact RHaP.no (by rw [hapE3, gt_out S _ _ _ hc]) h (K1.seq k2)

set_option maxHeartbeats 1000000 in
set_option maxRecDepth 20000 in
theorem rhap4 (conn n : Int) (v : Value) (rv : Option Nat) (l : List UInt8) (w : World) (h : RWir w g S F R) (hv : Rd w v rv (byv l)) (hvF : ∀ k, rv = some k → ¬ F k) (hl : l.length ≤ 140737488300000) :
    Calls Try.prog 26 #[.pointer (some ⟨g, 0, none⟩), evt 4 conn n v] w (RHaP w g S F R 4 conn n l) := by
  unfold evt
  have HV := hid hv
  obtain ⟨A, c, rfl, _⟩ := hv
  simp only [byv_length] at HV ⊢
  have hA := (Kp.refl Non w).alloc (.cells #[.int .i64 4, .int .i64 conn, .int .i64 n, .slice A l.length c] 28)
  have hB := Blk.new w #[.int .i64 4, .int .i64 conn, .int .i64 n, .slice A l.length c] 28
  have hFg : F g := by obtain ⟨_, _, _, _, _, h3, _⟩ := h; exact h3
  have hgl : g < w.heap.size := by obtain ⟨_, _, _, b, _⟩ := h; exact b.lt
  have hge : ¬ w.heap.size = g := by omega
  go_enter Try.func26, Try.ntmps26
  go_wp2_with fail
  refine (rstate_calls (g := g) (S := S) (F := F) (R := R) conn _ (h.keep hA)).mono ?_
  rintro e w1 ⟨rfl, k1⟩
  have hB1 := hB.keep k1
  have e0 := hB1.cell 0
  have ec := hB1.cell 1
  have en := hB1.cell 2
  have eb := hB1.cell 3
  simp at e0 ec en eb
  have K1 := hA.seq k1
  have h1 := h.keep K1
  rcases conn_cases conn with ⟨i, rfl, hi⟩ | hc
  · have hi1 : (i : Int) < 2 := by omega
    have hE1 : hapE S 4 i n l = if outF (S i).st then 0 else 1 := by rw [hapE4, gt_in S _ _ _ i rfl hi]
    have HE1 := hid hE1
    clear hE1
    cases hof : outF (S i).st with
    | true =>
      have HS := hid hof
      go_wp2_with fail
      refine (ropen_calls (g := g) (S := S) (F := F) (R := R) i _ h1).mono ?_
      rintro e w2 ⟨rfl, k2⟩
      rw [gt_in S (i : Int) (fun X => outF X.st) _ i rfl hi]
      have K2 := K1.seq k2
      have h2 := h.keep K2
      have ec2 := k2.cell ec (fun x => x)
      have en2 := k2.cell en (fun x => x)
      have eb2 := k2.cell eb (fun x => x)
      obtain ⟨c0, fz, hg4⟩ : w2.cell? ⟨g, i * 6, none⟩ = some (.int .i64 (S i).st) ∧ (∀ o, w2.frozen? ⟨g, o, none⟩ = false) ∧ (S i).got ≤ 4000 := by
        obtain ⟨_, _, _, _, _, _, c0, c1, _, _, _, _, _, _, _, fz, hg4⟩ := h2.cells i hi
        exact ⟨c0, fz, hg4⟩
      have hd := (Kp.refl Non w2).drew
      have x0 : w2.drew.cell? ⟨g, i * 6, none⟩ = some (.int .i64 (S i).st) := hd.cell c0 (fun x => x)
      have fz4 : ∀ o, w2.drew.frozen? ⟨g, o, none⟩ = false := fun o => by rw [World.frozen?_drew]; exact fz o
      have xc : ∀ w', Kp Non w2.drew w' → w'.cell? ⟨w.heap.size, 1, none⟩ = some (.int .i64 i) := fun w' hk => (hd.seq hk).cell ec2 (fun x => x)
      have hW := (h2.keep hd).setC i hi 0 (by omega) (.int .i64 4) { S i with st := 4 } rfl rfl rfl rfl rfl rfl rfl hg4
      rw [Nat.add_zero] at hW
      have hK := (((K2.seq hd).any (S := F))).setCell (p := ⟨g, i * 6, none⟩) (.inl hFg) (.int .i64 4)
      clear c0
      go_wp2
      refine wp_region_seq [(0, true), (1, true), (2, true), (3, true), (4, true), (5, true), (6, true), (7, false)] 7 Non wide (by kernel_rfl) (fun _ _ _ _ _ h => h) ?_; (try simp only [List.append_eq, List.cons_append, List.nil_append])
      generalize w2.drew = wd at hd hW hK x0 fz4 xc ⊢
      repeat (refine seq_still (v := ?_) rfl rfl (fun wq hq => ?_) ?_; rotate_left; (focus ((simp only [List.getElem_toArray, List.getElem_cons_zero, List.getElem_cons_succ]; go_simp; try with_reducible rfl); done)); simp only [List.getElem_toArray, List.getElem_cons_zero, List.getElem_cons_succ, Act.put, List.setIfInBounds_toArray, List.set_cons_zero, List.set_cons_succ])
      refine seq_last rfl rfl (fun K hK => ?_); simp only [List.getElem_toArray, List.getElem_cons_zero, List.getElem_cons_succ]; go_simp
      refine hK.out _ _ ?_; clear hK; (try simp only [Act.put, List.setIfInBounds_toArray, List.set_cons_zero, List.set_cons_succ])
      refine seq_nil ?_
      generalize wd.setCell ⟨g, i * 6, none⟩ (.int .i64 4) = W at hW hK ⊢
      go_wp2_with fail
      go_ret2
      have hE : hapE S 4 i n l = 0 := by rw [HE1.out, HS.out]; rfl
      refine ⟨_, none, F, by rw [hE]; rfl, by simp only [hapB]; rw [if_neg (by omega)]; exact Own.nil _ _ _ _, (fun k hk => by cases hk), ?_, fun k hk => .inl hk, hK⟩
      simpa [hapS, hE] using hW
    | false =>
      go_wp2_with fail
      refine (ropen_calls (g := g) (S := S) (F := F) (R := R) i _ h1).mono ?_
      rintro e w2 ⟨rfl, k2⟩
      rw [gt_in S (i : Int) (fun X => outF X.st) _ i rfl hi]
      go_wp2_with fail
      go_ret2
      exact RHaP.no (by rw [HE1.out, hof]; rfl) h (K1.seq k2)
  · go_wp2_with fail
    refine (ropen_calls (g := g) (S := S) (F := F) (R := R) conn _ h1).mono ?_
    rintro e w2 ⟨rfl, k2⟩
    rw [gt_out S conn (fun X => outF X.st) _ hc]
    go_wp2_with fail
    go_ret2
    exact RHaP.no (by rw [hapE4, gt_out S _ _ _ hc]) h (K1.seq k2)

end Go.Proofs.Ytpbkipolgdldfaa

/- A buffer of the call's own in memory: Len, grow. -/
import Derived.Test.YtghfngnakoccbaaDoorStuff1
import Derived.Test.YtghfngnakoccbaaDoorShelf
import Derived.Laws.MakeOwn
import Derived.Laws.CopyRow
import Derived.Laws.IdiomCopy
import Derived.Lib.BufferMore
import Derived.Lib.BufferWrite
namespace Go.Proofs.YtghfngnakoccbaaDoor
open Go.RowKit
set_option linter.unusedSimpArgs false
set_option linter.unusedVariables false
attribute [local go_sem] max2_of min2_of max_of min_of
attribute [local go_sem] strOf_size strOf_list

theorem ul : Tryd.prog.underlying 29 = some (.slice 5) := Tryd.underlying29

theorem blen_calls (b l : Nat) (A : Option Addr) (c : Nat) (lr : Int) (w : World) (h : Blk w b #[.slice A l c, .int .i64 0, .int .i8 lr] 53) (hl : l ≤ 70368744177664) :
    Calls Tryd.prog 44 #[.pointer (some ⟨b, 0, none⟩)] w fun e w' => e = .returned (.int .i64 l) ∧ Kp Non w w' := by
  have c0 := h.cell 0
  have c1 := h.cell 1
  simp at c0 c1
  have e0 : ∀ w', Kp Non w.drew w' → w'.cell? ⟨b, 0, none⟩ = some (.slice A l c) := fun w' hk => hk.cell c0 (fun x => x)
  have e1 : ∀ w', Kp Non w.drew w' → w'.cell? ⟨b, 1, none⟩ = some (.int .i64 0) := fun w' hk => hk.cell c1 (fun x => x)
  have hwr : IntKind.i64.wrap (l : Int) = l := IntWalk.i64_in _ (by omega)
  go_enter Tryd.func44, Tryd.ntmps44
  go_wp2
  refine wp_region_seq [(0, true), (1, true), (2, true), (3, true), (4, true), (5, true), (6, true), (7, true), (8, true), (9, true), (10, true)] 11 Non wide (by kernel_rfl) (fun _ _ _ _ _ h => h) ?_; (try simp only [List.append_eq, List.cons_append, List.nil_append])
  repeat (refine seq_still (v := ?_) rfl rfl (fun wq hq => ?_) ?_; rotate_left; (focus ((simp only [List.getElem_toArray, List.getElem_cons_zero, List.getElem_cons_succ]; go_simp; try with_reducible rfl); done)); simp only [List.getElem_toArray, List.getElem_cons_zero, List.getElem_cons_succ, Act.put, List.setIfInBounds_toArray, List.set_cons_zero, List.set_cons_succ])
  refine seq_nil ?_
  clear e0 e1
  go_wp2
  go_ret
  exact ⟨rfl, (Kp.refl _ _).drew⟩

/-- The buffer has a row of its own. -/
def BRow (w : World) (b g l cap : Nat) (cur : Array Value) (lr : Int) : Prop :=
  Blk w b #[.slice (some ⟨g, 0, none⟩) l cap, .int .i64 0, .int .i8 lr] 53 ∧ Blk w g cur 5 ∧ cur.size = cap ∧ cap ≤ maxLen ∧ l ≤ cap
/-- It has grown by n. -/
def Grew (w : World) (b l n : Nat) (bs : List Value) (w' : World) : Prop :=
  ∃ g cap cur lr, BRow w' b g (l + n) cap cur lr ∧ cur.toList.take l = bs ∧ w.heap.size ≤ g ∧ Kp (One b) w w'

theorem grow_small (b n : Nat) (lr : Int) (w : World) (h : Blk w b #[.slice none 0 0, .int .i64 0, .int .i8 lr] 53) (hn : 1 ≤ n) (h64 : n ≤ 64) :
    Calls Tryd.prog 38 #[.pointer (some ⟨b, 0, none⟩), .int .i64 n] w fun e w' => e = .returned (.int .i64 0) ∧ Grew w b 0 n [] w' := by
  obtain ⟨i0, hi, hzz⟩ := Option.map_eq_some_iff.1 info8
  simp only [Prod.mk.injEq] at hzz
  obtain ⟨hz0, hz1, hz2⟩ := hzz
  obtain ⟨M, hM⟩ : ∃ M, M = madeCells (Value.int .u8 0).cells ((64 : Int).toNat * i0.size) := ⟨_, rfl⟩
  have hMs : M.size = 64 := by rw [hM, size_madeCells, hz1]; rfl
  have hmk : ∀ W : World, (Instr.makeSlice 29 (.int .i64 (n : Int)) (.int .i64 64)).run Tryd.prog W = .ok (.slice (some ⟨W.heap.size, 0, none⟩) n 64) (W.alloc (.cells M 5)) := fun W => by
    have h := run_makeSlice (P := Tryd.prog) W 29 5 i0 (.int .u8 0) ul hi hz0 .i64 .i64 (n : Int) 64 (by omega) (by omega) (by rw [hz1]; decide) (by rw [hz2]; decide) (by decide)
    rw [← hM] at h
    simpa using h
  clear hM hi hz0 hz1 hz2
  have hnil : ∀ W, (binOp .eql 29 (.slice none 0 0) (.slice none 0 0)).run Tryd.prog W = .ok (.bool true) W := fun W => Lib.run_eql_slice_nil_nil W _ _ ul
  have hB := hid h
  go_enter Tryd.func38, Tryd.ntmps38
  go_wp2_with fail
  refine (blen_calls b 0 none 0 lr _ h (by omega)).mono ?_
  rintro e w1 ⟨rfl, k1⟩
  have hb1 := h.keep k1
  have c0 := hb1.cell 0
  have c1 := hb1.cell 1
  have f0 := hb1.frozen 0
  simp at c0 c1
  go_wp2_with fail
  refine (Tryd.Buffer_tryGrow_none b none 0 0 n _ c0 (by omega) (by simp [maxLen]) (by omega)).mono ?_
  rintro e w2 ⟨rfl, rfl⟩
  have hA := hb1.old (.cells M 5)
  have d0 := hA.cell 0
  have g0 := hA.frozen 0
  simp at d0
  have hM1 := Blk.new w2 M 5
  have kA := (Kp.refl (One b) w2).alloc (.cells M 5)
  have hlt := hB.out.lt
  go_wp2_with fail
  go_ret
  refine ⟨rfl, w2.heap.size, 64, M, lr, ⟨?_, ?_, hMs, by simp [maxLen], by omega⟩, by simp, k1.size, ?_⟩
  · rw [Nat.zero_add]; exact hA.set 0 _
  · exact hM1.far (p := ⟨b, 0, none⟩) (fun e => by have := hb1.lt; simp at e; omega) _
  · exact ((k1.any).trans (kA.setOne 0 _) (fun i hi => .inl hi))

theorem grow_big (b n : Nat) (lr : Int) (w : World) (h : Blk w b #[.slice none 0 0, .int .i64 0, .int .i8 lr] 53) (h64 : 64 < n) (hlim : n ≤ 140737488355328) :
    Calls Tryd.prog 38 #[.pointer (some ⟨b, 0, none⟩), .int .i64 n] w fun e w' => e = .returned (.int .i64 0) ∧ Grew w b 0 n [] w' := by
  have hnil : ∀ W, (binOp .eql 29 (.slice none 0 0) (.slice none 0 0)).run Tryd.prog W = .ok (.bool true) W := fun W => Lib.run_eql_slice_nil_nil W _ _ ul
  have hB := hid h
  have hn1 : ¬ n ≤ 64 := by omega
  have hn2 : ¬ (n : Int) ≤ 64 := by omega
  have hn3 : ¬ (n : Int) ≤ 0 := by omega
  go_enter Tryd.func38, Tryd.ntmps38
  go_wp2_with fail
  refine (blen_calls b 0 none 0 lr _ h (by omega)).mono ?_
  rintro e w1 ⟨rfl, k1⟩
  have hb1 := h.keep k1
  have c0 := hb1.cell 0
  have c1 := hb1.cell 1
  have f0 := hb1.frozen 0
  simp at c0 c1
  go_wp2_with fail
  refine (Tryd.Buffer_tryGrow_none b none 0 0 n _ c0 (by omega) (by simp [maxLen]) (by omega)).mono ?_
  rintro e w2 ⟨rfl, rfl⟩
  have e0 : ∀ w', Kp Non w2.drew w' → w'.cell? ⟨b, 0, none⟩ = some (.slice none 0 0) := fun w' hk => hk.cell c0 (fun x => x)
  have e1 : ∀ w', Kp Non w2.drew w' → w'.cell? ⟨b, 1, none⟩ = some (.int .i64 0) := fun w' hk => hk.cell c1 (fun x => x)
  have hwr : IntKind.i64.wrap (n : Int) = n := IntWalk.i64_in _ (by omega)
  go_wp2_with fail
  refine wp_region_seq [(0, true), (1, true), (2, true), (3, true), (4, true), (5, true), (6, true), (7, true), (8, true), (9, true), (10, true), (11, true), (12, true), (13, true), (14, true), (15, true), (16, false), (17, true), (18, true), (19, false)] 19 Non wide (by kernel_rfl) (fun _ _ _ _ _ h => h) ?_; (try simp only [List.append_eq, List.cons_append, List.nil_append])
  repeat (refine seq_still (v := ?_) rfl rfl (fun wq hq => ?_) ?_; rotate_left; (focus ((simp only [List.getElem_toArray, List.getElem_cons_zero, List.getElem_cons_succ]; go_simp; try with_reducible rfl); done)); simp only [List.getElem_toArray, List.getElem_cons_zero, List.getElem_cons_succ, Act.put, List.setIfInBounds_toArray, List.set_cons_zero, List.set_cons_succ])
  refine seq_step rfl rfl (fun K hK => ?_); simp only [List.getElem_toArray, List.getElem_cons_zero, List.getElem_cons_succ]; go_simp
  refine (Tryd.bytes_growSlice_nil n _ (by omega) hlim).mono ?_
  rintro e w3 ⟨cap2, cells, rfl, hN, hcs, hcap, hcm, hbel⟩
  have k3 : Kp Non w2.drew w3 := Kp.of_below hbel Non
  refine hK.out _ _ (k3) ?_; clear hK; (try simp only [Act.put, List.setIfInBounds_toArray, List.set_cons_zero, List.set_cons_succ])
  repeat (refine seq_still (v := ?_) rfl rfl (fun wq hq => ?_) ?_; rotate_left; (focus ((simp only [List.getElem_toArray, List.getElem_cons_zero, List.getElem_cons_succ]; go_simp; try with_reducible rfl); done)); simp only [List.getElem_toArray, List.getElem_cons_zero, List.getElem_cons_succ, Act.put, List.setIfInBounds_toArray, List.set_cons_zero, List.set_cons_succ])
  have hb3 := (hb1.drew).keep k3
  have d0 := hb3.cell 0
  have d1 := hb3.cell 1
  have g0 := hb3.frozen 0
  have g1 := hb3.frozen 1
  simp at d0 d1
  have hNb : Blk w3 w2.heap.size cells 5 := hN
  refine seq_last rfl rfl (fun K hK => ?_); simp only [List.getElem_toArray, List.getElem_cons_zero, List.getElem_cons_succ]; go_simp
  refine hK.out _ _ ?_; clear hK; (try simp only [Act.put, List.setIfInBounds_toArray, List.set_cons_zero, List.set_cons_succ])
  refine seq_nil ?_
  clear e0 e1
  have hcm' := hcm
  unfold maxLen at hcm'
  have hlc : (n : Int) ≤ cap2 := by omega
  go_wp2_with fail
  go_ret
  have hlt := hb1.lt
  refine ⟨rfl, w2.heap.size, cap2, cells, lr, ⟨?_, ?_, hcs, hcm, by omega⟩, by simp, k1.size, ?_⟩
  · rw [Nat.zero_add]; exact ((hb3.set 0 _).set 1 _).set 0 _
  · exact ((hNb.far (p := ⟨b, 0, none⟩) (fun e => by simp at e; omega) _).far (p := ⟨b, 1, none⟩) (fun e => by simp at e; omega) _).far (p := ⟨b, 0, none⟩) (fun e => by simp at e; omega) _
  · exact (k1.any).trans ((((((Kp.refl (One b) w2).drew).seq k3).setOne 0 _).setOne 1 _).setOne 0 _) (fun i hi => .inl hi)

theorem grow_row (b g l cap n : Nat) (cur : Array Value) (bs : List Value) (lr : Int) (w : World) (h : BRow w b g l cap cur lr) (hbs : cur.toList.take l = bs) (h1 : ∀ v ∈ bs, v.oneCell' = true) (hn : 1 ≤ n) (hroom : cap - l < n) (hlim : l + n ≤ 70368744177664) :
    Calls Tryd.prog 38 #[.pointer (some ⟨b, 0, none⟩), .int .i64 n] w fun e w' => e = .returned (.int .i64 l) ∧ Grew w b l n bs w' := by
  obtain ⟨hB, hG, hcs0, hcm0, hlc0⟩ := h
  have hnil : ∀ W, (binOp .eql 29 (.slice (some ⟨g, 0, none⟩) l cap) (.slice none 0 0)).run Tryd.prog W = .ok (.bool false) W := fun W => Lib.run_eql_slice_some_nil W _ _ _ ul
  have h1' : ∀ v ∈ cur.toList.take l, v.oneCell' = true := by rw [hbs]; exact h1
  have hbs' := hid hbs
  clear hbs h1
  have hcm0' := hcm0
  unfold maxLen at hcm0'
  go_enter Tryd.func38, Tryd.ntmps38
  go_wp2_with fail
  refine (blen_calls b l _ cap lr _ hB (by omega)).mono ?_
  rintro e w1 ⟨rfl, k1⟩
  have hb1 := hB.keep k1
  have hg1 := hG.keep k1
  have c0 := hb1.cell 0
  have c1 := hb1.cell 1
  have f0 := hb1.frozen 0
  simp at c0 c1
  have hz : ((l : Int) == 0) = decide (l = 0) := by by_cases h : l = 0 <;> simp [h]
  have hgl := hG.lt
  have hwr : IntKind.i64.wrap (n : Int) = n := IntWalk.i64_in _ (by omega)
  by_cases hl0 : l = 0
  · subst hl0
    go_wp2_with fail
    refine (Tryd.Buffer_tryGrow_none b (some ⟨g, 0, none⟩) 0 cap n _ c0 hlc0 hcm0 hroom).mono ?_
    rintro e w2 ⟨rfl, rfl⟩
    have e0 : ∀ w', Kp Non w2.drew w' → w'.cell? ⟨b, 0, none⟩ = some (.slice (some ⟨g, 0, none⟩) 0 cap) := fun w' hk => hk.cell c0 (fun x => x)
    have e1 : ∀ w', Kp Non w2.drew w' → w'.cell? ⟨b, 1, none⟩ = some (.int .i64 0) := fun w' hk => hk.cell c1 (fun x => x)
    go_wp2_with fail
    refine wp_region_seq [(0, true), (1, true), (2, true), (3, true), (4, true), (5, true), (6, true), (7, true), (8, true), (9, true), (10, true), (11, true), (12, true), (13, true), (14, true), (15, true), (16, false), (17, true), (18, true), (19, false)] 19 Non wide (by kernel_rfl) (fun _ _ _ _ _ h => h) ?_; (try simp only [List.append_eq, List.cons_append, List.nil_append])
    repeat (refine seq_still (v := ?_) rfl rfl (fun wq hq => ?_) ?_; rotate_left; (focus ((simp only [List.getElem_toArray, List.getElem_cons_zero, List.getElem_cons_succ]; go_simp; try with_reducible rfl); done)); simp only [List.getElem_toArray, List.getElem_cons_zero, List.getElem_cons_succ, Act.put, List.setIfInBounds_toArray, List.set_cons_zero, List.set_cons_succ])
    refine seq_step rfl rfl (fun K hK => ?_); simp only [List.getElem_toArray, List.getElem_cons_zero, List.getElem_cons_succ]; go_simp
    refine (Tryd.bytes_growSlice_row g 0 cap n cur _ ?hg hcs0 hlc0 hn (by omega) (by omega) h1').mono ?_
    case hg => exact hg1.drew
    rintro e w3 ⟨cap2, cells, rfl, hN, hcs, htk, hcap, hcm, hbel⟩
    have k3 : Kp Non w2.drew w3 := Kp.of_below hbel Non
    refine hK.out _ _ (k3) ?_; clear hK; (try simp only [Act.put, List.setIfInBounds_toArray, List.set_cons_zero, List.set_cons_succ])
    repeat (refine seq_still (v := ?_) rfl rfl (fun wq hq => ?_) ?_; rotate_left; (focus ((simp only [List.getElem_toArray, List.getElem_cons_zero, List.getElem_cons_succ]; go_simp; try with_reducible rfl); done)); simp only [List.getElem_toArray, List.getElem_cons_zero, List.getElem_cons_succ, Act.put, List.setIfInBounds_toArray, List.set_cons_zero, List.set_cons_succ])
    have hb3 := (hb1.drew).keep k3
    have d0 := hb3.cell 0
    have d1 := hb3.cell 1
    have g0 := hb3.frozen 0
    have g1 := hb3.frozen 1
    simp at d0 d1
    have hNb : Blk w3 w2.heap.size cells 5 := hN
    refine seq_last rfl rfl (fun K hK => ?_); simp only [List.getElem_toArray, List.getElem_cons_zero, List.getElem_cons_succ]; go_simp
    refine hK.out _ _ ?_; clear hK; (try simp only [Act.put, List.setIfInBounds_toArray, List.set_cons_zero, List.set_cons_succ])
    refine seq_nil ?_
    clear e0 e1
    have hcm' := hcm
    unfold maxLen at hcm'
    have hlc : (n : Int) ≤ cap2 := by omega
    go_wp2_with fail
    go_ret
    have hlt := hb1.lt
    refine ⟨rfl, w2.heap.size, cap2, cells, lr, ⟨?_, ?_, hcs, hcm, by omega⟩, by rw [htk]; exact hbs'.out, k1.size, ?_⟩
    · rw [Nat.zero_add]; exact ((hb3.set 0 _).set 1 _).set 0 _
    · exact ((hNb.far (p := ⟨b, 0, none⟩) (fun e => by simp at e; omega) _).far (p := ⟨b, 1, none⟩) (fun e => by simp at e; omega) _).far (p := ⟨b, 0, none⟩) (fun e => by simp at e; omega) _
    · exact (k1.any).trans ((((((Kp.refl (One b) w2).drew).seq k3).setOne 0 _).setOne 1 _).setOne 0 _) (fun i hi => .inl hi)
  · rw [decide_eq_false hl0] at hz
    go_wp2_with fail
    refine (Tryd.Buffer_tryGrow_none b (some ⟨g, 0, none⟩) l cap n _ c0 hlc0 hcm0 hroom).mono ?_
    rintro e w2 ⟨rfl, rfl⟩
    have e0 : ∀ w', Kp Non w2.drew w' → w'.cell? ⟨b, 0, none⟩ = some (.slice (some ⟨g, 0, none⟩) l cap) := fun w' hk => hk.cell c0 (fun x => x)
    have e1 : ∀ w', Kp Non w2.drew w' → w'.cell? ⟨b, 1, none⟩ = some (.int .i64 0) := fun w' hk => hk.cell c1 (fun x => x)
    go_wp2_with fail
    refine wp_region_seq [(0, true), (1, true), (2, true), (3, true), (4, true), (5, true), (6, true), (7, true), (8, true), (9, true), (10, true), (11, true), (12, true), (13, true), (14, true), (15, true), (16, false), (17, true), (18, true), (19, false)] 19 Non wide (by kernel_rfl) (fun _ _ _ _ _ h => h) ?_; (try simp only [List.append_eq, List.cons_append, List.nil_append])
    repeat (refine seq_still (v := ?_) rfl rfl (fun wq hq => ?_) ?_; rotate_left; (focus ((simp only [List.getElem_toArray, List.getElem_cons_zero, List.getElem_cons_succ]; go_simp; try with_reducible rfl); done)); simp only [List.getElem_toArray, List.getElem_cons_zero, List.getElem_cons_succ, Act.put, List.setIfInBounds_toArray, List.set_cons_zero, List.set_cons_succ])
    refine seq_step rfl rfl (fun K hK => ?_); simp only [List.getElem_toArray, List.getElem_cons_zero, List.getElem_cons_succ]; go_simp
    refine (Tryd.bytes_growSlice_row g l cap n cur _ ?hg hcs0 hlc0 hn (by omega) (by omega) h1').mono ?_
    case hg => exact hg1.drew
    rintro e w3 ⟨cap2, cells, rfl, hN, hcs, htk, hcap, hcm, hbel⟩
    have k3 : Kp Non w2.drew w3 := Kp.of_below hbel Non
    refine hK.out _ _ (k3) ?_; clear hK; (try simp only [Act.put, List.setIfInBounds_toArray, List.set_cons_zero, List.set_cons_succ])
    repeat (refine seq_still (v := ?_) rfl rfl (fun wq hq => ?_) ?_; rotate_left; (focus ((simp only [List.getElem_toArray, List.getElem_cons_zero, List.getElem_cons_succ]; go_simp; try with_reducible rfl); done)); simp only [List.getElem_toArray, List.getElem_cons_zero, List.getElem_cons_succ, Act.put, List.setIfInBounds_toArray, List.set_cons_zero, List.set_cons_succ])
    have hb3 := (hb1.drew).keep k3
    have d0 := hb3.cell 0
    have d1 := hb3.cell 1
    have g0 := hb3.frozen 0
    have g1 := hb3.frozen 1
    simp at d0 d1
    have hNb : Blk w3 w2.heap.size cells 5 := hN
    refine seq_last rfl rfl (fun K hK => ?_); simp only [List.getElem_toArray, List.getElem_cons_zero, List.getElem_cons_succ]; go_simp
    refine hK.out _ _ ?_; clear hK; (try simp only [Act.put, List.setIfInBounds_toArray, List.set_cons_zero, List.set_cons_succ])
    refine seq_nil ?_
    clear e0 e1
    have hcm' := hcm
    unfold maxLen at hcm'
    have hlc : (l : Int) + n ≤ cap2 := by omega
    have hw2 : IntKind.i64.wrap ((l : Int) + n) = (l : Int) + n := IntWalk.i64_in _ (by omega)
    go_wp2_with fail
    go_ret
    have hlt := hb1.lt
    refine ⟨rfl, w2.heap.size, cap2, cells, lr, ⟨?_, ?_, hcs, hcm, by omega⟩, by rw [htk]; exact hbs'.out, k1.size, ?_⟩
    · exact ((hb3.set 0 _).set 1 _).set 0 _
    · exact ((hNb.far (p := ⟨b, 0, none⟩) (fun e => by simp at e; omega) _).far (p := ⟨b, 1, none⟩) (fun e => by simp at e; omega) _).far (p := ⟨b, 0, none⟩) (fun e => by simp at e; omega) _
    · exact (k1.any).trans ((((((Kp.refl (One b) w2).drew).seq k3).setOne 0 _).setOne 1 _).setOne 0 _) (fun i hi => .inl hi)

end Go.Proofs.YtghfngnakoccbaaDoor

/- A buffer of the call's own: Write, WriteString, Bytes. -/
import Derived.Test.YtghfngnakoccbaaDoorStuff3
namespace Go.Proofs.YtghfngnakoccbaaDoor
open Go.RowKit
set_option linter.unusedSimpArgs false
set_option linter.unusedVariables false
attribute [local go_sem] max2_of min2_of max_of min_of
attribute [local go_sem] strOf_size strOf_list

/-- A buffer at block b that holds the bytes l, in row r or in none yet. -/
def Buf (w : World) (b : Nat) (r : Option Nat) (l : List UInt8) : Prop :=
  (r = none ∧ l = [] ∧ ∃ lr, Blk w b #[.slice none 0 0, .int .i64 0, .int .i8 lr] 53) ∨
  ∃ g cap cur lr, r = some g ∧ BRow w b g l.length cap cur lr ∧ cur.toList.take l.length = byv l

theorem BRow.ne {w : World} {b g l cap : Nat} {cur : Array Value} {lr : Int} (h : BRow w b g l cap cur lr) : g ≠ b := by
  rintro rfl
  exact absurd (h.1.inj h.2.1).2 (by decide)
theorem BRow.kp {w w' : World} {b g l cap : Nat} {cur : Array Value} {lr : Int} {S : Nat → Prop} (h : BRow w b g l cap cur lr) (k : Kp S w w') (hb : ¬ S b) (hg : ¬ S g) : BRow w' b g l cap cur lr :=
  ⟨h.1.kp k hb, h.2.1.kp k hg, h.2.2⟩
theorem Buf.kp {w w' : World} {b : Nat} {r : Option Nat} {l : List UInt8} {S : Nat → Prop} (h : Buf w b r l) (k : Kp S w w') (hb : ¬ S b) (hr : ∀ i, r = some i → ¬ S i) : Buf w' b r l := by
  rcases h with ⟨h1, h2, lr, h3⟩ | ⟨g, cap, cur, lr, h1, h2, h3⟩
  · exact .inl ⟨h1, h2, lr, h3.kp k hb⟩
  · exact .inr ⟨g, cap, cur, lr, h1, h2.kp k hb (hr g h1), h3⟩
theorem Buf.keep {w w' : World} {b : Nat} {r : Option Nat} {l : List UInt8} (h : Buf w b r l) (k : Kp Non w w') : Buf w' b r l := h.kp k (fun x => x) (fun _ _ x => x)
theorem Buf.lt {w : World} {b : Nat} {r : Option Nat} {l : List UInt8} (h : Buf w b r l) : b < w.heap.size := by
  rcases h with ⟨h1, h2, lr, h3⟩ | ⟨g, cap, cur, lr, h1, h2, h3⟩
  · exact h3.lt
  · exact h2.1.lt
theorem Buf.row_lt {w : World} {b : Nat} {r : Option Nat} {l : List UInt8} (h : Buf w b r l) : ∀ i, r = some i → i < w.heap.size := by
  intro i hi
  rcases h with ⟨h1, h2, lr, h3⟩ | ⟨g, cap, cur, lr, h1, h2, h3⟩
  · rw [h1] at hi; cases hi
  · rw [h1] at hi; cases hi; exact h2.2.1.lt
theorem Buf.row_ne {w : World} {b : Nat} {r : Option Nat} {l : List UInt8} (h : Buf w b r l) : r ≠ some b := by
  intro hi
  rcases h with ⟨h1, h2, lr, h3⟩ | ⟨g, cap, cur, lr, h1, h2, h3⟩
  · rw [h1] at hi; cases hi
  · rw [h1] at hi; cases hi; exact h2.ne rfl
theorem Buf.fresh (w : World) : Buf (w.alloc (.cells #[.slice none 0 0, .int .i64 0, .int .i8 0] 53)) w.heap.size none [] := .inl ⟨rfl, rfl, 0, Blk.new w _ _⟩

/-- grow, whatever it held. -/
theorem grow_any (b n : Nat) (r : Option Nat) (l : List UInt8) (w : World) (h : Buf w b r l) (hn : 1 ≤ n) (hroom : ∀ ao l0 cap, w.cell? ⟨b, 0, none⟩ = some (.slice ao l0 cap) → cap - l0 < n) (hlim : l.length + n ≤ 70368744177664) :
    Calls Tryd.prog 38 #[.pointer (some ⟨b, 0, none⟩), .int .i64 n] w fun e w' => e = .returned (.int .i64 l.length) ∧ Grew w b l.length n (byv l) w' := by
  rcases h with ⟨rfl, rfl, lr, hb⟩ | ⟨g, cap, cur, lr, rfl, hb, ht⟩
  · by_cases h64 : n ≤ 64
    · exact grow_small b n lr w hb hn h64
    · exact grow_big b n lr w hb (by omega) (by simp at hlim; omega)
  · have c0 := hb.1.cell 0
    simp at c0
    exact grow_row b g l.length cap n cur (byv l) lr w hb ht (byv_one l) hn (hroom _ _ _ c0) hlim

/-- What copy leaves. -/
theorem copy_end {w : World} {b g cap : Nat} {cur : Array Value} {lr : Int} {l p : List UInt8} (h : BRow w b g (l.length + p.length) cap cur lr) (ht : cur.toList.take l.length = byv l) :
    Buf (w.setRow g (cur.toList.take l.length ++ (byv p ++ cur.toList.drop (l.length + p.length))).toArray) b (some g) (l ++ p) ∧ Kp (Row (some g)) w (w.setRow g (cur.toList.take l.length ++ (byv p ++ cur.toList.drop (l.length + p.length))).toArray) := by
  rw [← List.append_assoc]
  obtain ⟨h1, h2, h3, h4, h5⟩ := h
  have hne := BRow.ne ⟨h1, h2, h3, h4, h5⟩
  refine ⟨.inr ⟨g, cap, _, lr, rfl, ⟨?_, setRow_heap w g cur _ _ (0, 0) h2, ?_, h4, ?_⟩, ?_⟩, ⟨rfl, rfl, rfl, by simp [World.setRow], fun k _ hk => setRow_other w g k _ (fun e => hk (by rw [e]; rfl))⟩⟩
  · rw [List.length_append]; exact (setRow_other w g b _ (Ne.symm hne)).trans h1
  · simp only [List.size_toArray, List.length_append, List.length_take, List.length_drop, Array.length_toList, byv_length]; omega
  · rw [List.length_append]; exact h5
  · rw [ht, List.length_append, byv_append]
    exact List.take_left' (by rw [List.length_append, byv_length, byv_length])

set_option maxHeartbeats 2000000 in
theorem bwrite_calls (b : Nat) (r : Option Nat) (l : List UInt8) (A : Option Addr) (cA : Nat) (rv : Option Nat) (p : List UInt8) (w : World) (h : Buf w b r l) (hv : Rd w (.slice A p.length cA) rv (byv p)) (hvb : ∀ k, rv = some k → k ≠ b) (hl : l.length + p.length ≤ 70368744177664) :
    Calls Tryd.prog 29 #[.pointer (some ⟨b, 0, none⟩), .slice A p.length cA] w fun e w' => e = .returned (.tuple #[.int .i64 p.length, .nilIface]) ∧ ∃ r', Buf w' b r' (l ++ p) ∧ New w r r' ∧ Kp (Two b r) w w' := by
  have hrne := h.row_ne
  have hinfo : (Tryd.prog.info? 5).map (·.size) = some 1 := size8
  obtain ⟨v0, lr, hB⟩ : ∃ v0 lr, Blk w b #[v0, .int .i64 0, .int .i8 lr] 53 := by
    rcases h with ⟨h1, h2, lr, h3⟩ | ⟨g, cap, cur, lr, h1, h2, h3⟩
    · exact ⟨_, lr, h3⟩
    · exact ⟨_, lr, h2.1⟩
  have c2 := hB.cell 2
  have f2 := hB.frozen 2
  simp at c2
  have hK0 := (Kp.refl (One b) w).setOne 2 (.int .i8 0)
  have h0 : Buf (w.setCell ⟨b, 2, none⟩ (.int .i8 0)) b r l := by
    rcases h with ⟨h1, h2, lr, h3⟩ | ⟨g, cap, cur, lr, h1, h2, h3⟩
    · exact .inl ⟨h1, h2, 0, h3.set 2 _⟩
    · exact .inr ⟨g, cap, cur, 0, h1, ⟨h2.1.set 2 _, h2.2.1.far (p := ⟨b, 2, none⟩) (h2.ne) _, h2.2.2⟩, h3⟩
  have hsrc := hv.kp hK0 (fun k hk h => hvb k hk h)
  go_enter Tryd.func29, Tryd.ntmps29
  go_wp2_with fail
  generalize hw0 : World.setCell _ _ _ = w0
  rw [hw0] at h0 hK0 hsrc
  clear hw0
  by_cases hp : p.length = 0
  · obtain rfl : p = [] := List.eq_nil_of_length_eq_zero hp
    clear hp
    rcases h0 with ⟨rfl, rfl, lr0, hb0⟩ | ⟨g, cap, cur, lr0, rfl, hb0, ht0⟩
    · have c0 := hb0.cell 0
      have f0 := hb0.frozen 0
      simp at c0
      refine (Tryd.Buffer_tryGrow_room b none 0 0 0 _ c0 f0 (by omega) (by simp [maxLen]) (by omega)).mono ?_
      rintro e w1 ⟨rfl, rfl⟩
      have hb1 := hb0.set 0 (.slice none 0 0)
      have kk : Kp (One b) w0 _ := (Kp.refl (One b) w0).setOne 0 (.slice none 0 0)
      simp only [Nat.add_zero]
      generalize World.setCell _ _ _ = w1 at hb1 kk ⊢
      have d0 := hb1.cell 0
      simp at d0
      have hce : ∀ d dLen dCap W, (Builtin.copy_ #[29, 29] 3 #[.slice d dLen dCap, .slice A 0 cA]).run Tryd.prog W = .ok (goInt 0) W := fun d dLen dCap W => run_copy_none W 29 29 3 5 d A dLen dCap 0 cA ul hinfo (by simp)
      go_wp2_with fail
      go_ret2
      exact ⟨rfl, none, .inl ⟨rfl, rfl, lr0, hb1⟩, (fun k hk => by cases hk), (hK0.trans kk (fun i hi => .inl hi)).mono (fun i hi => .inl hi)⟩
    · have c0 := hb0.1.cell 0
      have f0 := hb0.1.frozen 0
      simp at c0
      have hlc := hb0.2.2.2.2
      have hcm := hb0.2.2.2.1
      refine (Tryd.Buffer_tryGrow_room b (some ⟨g, 0, none⟩) l.length cap 0 _ c0 f0 hlc hcm (by omega)).mono ?_
      rintro e w1 ⟨rfl, rfl⟩
      have hb1 := hb0.1.set 0 (.slice (some ⟨g, 0, none⟩) (l.length + 0) cap)
      have hg1 := hb0.2.1.far (p := ⟨b, 0, none⟩) hb0.ne (.slice (some ⟨g, 0, none⟩) (l.length + 0) cap)
      have kk : Kp (One b) w0 _ := (Kp.refl (One b) w0).setOne 0 (.slice (some ⟨g, 0, none⟩) (l.length + 0) cap)
      generalize World.setCell _ _ _ = w1 at hb1 hg1 kk ⊢
      have d0 := hb1.cell 0
      simp at d0
      have hcm' := hcm
      unfold maxLen at hcm'
      have hce : ∀ d dLen dCap W, (Builtin.copy_ #[29, 29] 3 #[.slice d dLen dCap, .slice A 0 cA]).run Tryd.prog W = .ok (goInt 0) W := fun d dLen dCap W => run_copy_none W 29 29 3 5 d A dLen dCap 0 cA ul hinfo (by simp)
      have hB1 : Buf w1 b (some g) l := .inr ⟨g, cap, cur, lr0, rfl, ⟨hb1, hg1, hb0.2.2⟩, ht0⟩
      clear ht0 hb0
      go_wp2_with fail
      all_goals
        go_ret2
        exact ⟨rfl, some g, hB1, New.refl _ _, (hK0.trans kk (fun i hi => .inl hi)).mono (fun i hi => .inl hi)⟩
  · -- W1: the buffer has grown by as many
    have fin : ∀ (g cap : Nat) (cur : Array Value) (lr1 : Int) (w1 : World), BRow w1 b g (l.length + p.length) cap cur lr1 → cur.toList.take l.length = byv l → Rd w1 (.slice A p.length cA) rv (byv p) → (w1.cell? ⟨b, 0, none⟩ = some (.slice (some ⟨g, 0, none⟩) (l.length + p.length) cap) ∧
        (Builtin.copy_ #[29, 29] 3 #[.slice (some ⟨g, l.length, none⟩) p.length (cap - l.length), .slice A p.length cA]).run Tryd.prog w1 = .ok (goInt p.length) (w1.setRow g (cur.toList.take l.length ++ (byv p ++ cur.toList.drop (l.length + p.length))).toArray)) := by
      intro g cap cur lr1 w1 hb ht hw
      have d0 := hb.1.cell 0
      simp at d0
      refine ⟨d0, ?_⟩
      obtain ⟨A', c', he, _, _, hx⟩ := hw
      simp only [Value.slice.injEq] at he
      obtain ⟨rfl, _, rfl⟩ := he
      rcases hx with hx | ⟨bk, off, rfl, _, hx⟩
      · exact absurd (by simpa [byv] using hx) (fun e : p = [] => hp (by rw [e]; rfl))
      · have hcp := run_copy_row (P := Tryd.prog) w1 29 29 3 5 g l.length p.length (cap - l.length) ⟨bk, off, none⟩ p.length cA cur 5 (byv p) ul hinfo hb.2.1 (by rw [byv_length]; exact (Nat.min_self _).symm) (fun j v hj => by rw [addr_add]; exact hx j v hj) (by rw [byv_length, hb.2.2.1]; exact hb.2.2.2.2) (byv_one p)
        rw [byv_length, List.append_assoc] at hcp
        exact hcp
    by_cases hroom : ∃ g cap, r = some g ∧ w0.cell? ⟨b, 0, none⟩ = some (.slice (some ⟨g, 0, none⟩) l.length cap) ∧ p.length ≤ cap - l.length
    · obtain ⟨g, cap, rfl, c0, hpc⟩ := hroom
      rcases h0 with ⟨h0, _⟩ | ⟨g', cap', cur, lr0, hrg, hb0, ht0⟩
      · cases h0
      · cases hrg
        have c0' := hb0.1.cell 0
        simp at c0'
        rw [c0] at c0'
        simp only [Option.some.injEq, Value.slice.injEq, true_and] at c0'
        subst c0'
        have f0 := hb0.1.frozen 0
        have hlc := hb0.2.2.2.2
        have hcm := hb0.2.2.2.1
        refine (Tryd.Buffer_tryGrow_room b (some ⟨g, 0, none⟩) l.length cap p.length _ c0 f0 hlc hcm hpc).mono ?_
        rintro e w1 ⟨rfl, rfl⟩
        have hb1 : BRow (w0.setCell ⟨b, 0, none⟩ (.slice (some ⟨g, 0, none⟩) (l.length + p.length) cap)) b g (l.length + p.length) cap cur lr0 :=
          ⟨hb0.1.set 0 _, hb0.2.1.far (p := ⟨b, 0, none⟩) hb0.ne _, hb0.2.2.1, hcm, by omega⟩
        have kk : Kp (One b) w0 _ := (Kp.refl (One b) w0).setOne 0 (.slice (some ⟨g, 0, none⟩) (l.length + p.length) cap)
        generalize World.setCell _ _ _ = w1 at hb1 kk ⊢
        obtain ⟨d0, hcp⟩ := fin g cap cur lr0 w1 hb1 ht0 (hsrc.kp kk (fun k hk h => hvb k hk h))
        have hend := hid (copy_end hb1 ht0)
        have hcm' := hcm
        unfold maxLen at hcm'
        have hne : ¬ cap = l.length := by omega
        clear fin ht0 hb0 c0 f0 hb1
        go_wp2_with fail
        go_ret2
        exact ⟨rfl, some g, hend.out.1, New.refl _ _, (((hK0.trans kk (fun i hi => .inl hi)).mono (S' := Two b (some g)) (fun i hi => .inl hi)).trans hend.out.2 (fun i hi => .inl (.inr hi)))⟩
    · have c0 : ∃ ao l0 cap, w0.cell? ⟨b, 0, none⟩ = some (.slice ao l0 cap) ∧ l0 ≤ cap ∧ cap ≤ maxLen ∧ cap - l0 < p.length := by
        rcases h0 with ⟨h1, h2, lr, h3⟩ | ⟨g, cap, cur, lr, h1, h2, h3⟩
        · have := h3.cell 0
          simp at this
          exact ⟨_, _, _, this, by omega, by simp [maxLen], by omega⟩
        · have := h2.1.cell 0
          simp at this
          refine ⟨_, _, _, this, h2.2.2.2.2, h2.2.2.2.1, ?_⟩
          rcases Nat.lt_or_ge (cap - l.length) p.length with hh | hh
          · exact hh
          · exact absurd ⟨g, cap, h1, this, hh⟩ hroom
      obtain ⟨ao, l0, cap0, c0, q1, q2, q3⟩ := c0
      clear hroom
      refine (Tryd.Buffer_tryGrow_none b ao l0 cap0 p.length _ c0 q1 q2 q3).mono ?_
      rintro e w1 ⟨rfl, rfl⟩
      go_wp2_with fail
      refine (grow_any b p.length r l _ h0 (by omega) (fun ao' l0' cap' hc => by rw [c0] at hc; cases hc; exact q3) (by omega)).mono ?_
      rintro e w2 ⟨rfl, g, cap, cur, lr1, hb1, ht1, hg, kk⟩
      obtain ⟨d0, hcp⟩ := fin g cap cur lr1 w2 hb1 ht1 (hsrc.kp kk (fun k hk h => hvb k hk h))
      have hend := hid (copy_end hb1 ht1)
      have hcm := hb1.2.2.2.1
      have hlc := hb1.2.2.2.2
      have hcm' := hcm
      unfold maxLen at hcm'
      have hne : ¬ cap = l.length := by omega
      clear fin ht1 h0 c0 hb1
      go_wp2_with fail
      go_ret2
      exact ⟨rfl, some g, hend.out.1, (fun k hk => by cases hk; exact .inr (Nat.le_trans hK0.size hg)), (((hK0.trans kk (fun i hi => .inl hi)).mono (S' := Two b r) (fun i hi => .inl hi)).trans hend.out.2 (fun i hi => .inr (by cases hi; exact Nat.le_trans hK0.size hg)))⟩

set_option maxHeartbeats 2000000 in
theorem bwrites_calls (b : Nat) (r : Option Nat) (l : List UInt8)  (p : List UInt8) (w : World) (h : Buf w b r l)  (hl : l.length + p.length ≤ 70368744177664) :
    Calls Tryd.prog 28 #[.pointer (some ⟨b, 0, none⟩), .string (strOf p)] w fun e w' => e = .returned (.tuple #[.int .i64 p.length, .nilIface]) ∧ ∃ r', Buf w' b r' (l ++ p) ∧ New w r r' ∧ Kp (Two b r) w w' := by
  have hrne := h.row_ne
  have hinfo : (Tryd.prog.info? 5).map (·.size) = some 1 := size8
  obtain ⟨v0, lr, hB⟩ : ∃ v0 lr, Blk w b #[v0, .int .i64 0, .int .i8 lr] 53 := by
    rcases h with ⟨h1, h2, lr, h3⟩ | ⟨g, cap, cur, lr, h1, h2, h3⟩
    · exact ⟨_, lr, h3⟩
    · exact ⟨_, lr, h2.1⟩
  have c2 := hB.cell 2
  have f2 := hB.frozen 2
  simp at c2
  have hK0 := (Kp.refl (One b) w).setOne 2 (.int .i8 0)
  have h0 : Buf (w.setCell ⟨b, 2, none⟩ (.int .i8 0)) b r l := by
    rcases h with ⟨h1, h2, lr, h3⟩ | ⟨g, cap, cur, lr, h1, h2, h3⟩
    · exact .inl ⟨h1, h2, 0, h3.set 2 _⟩
    · exact .inr ⟨g, cap, cur, 0, h1, ⟨h2.1.set 2 _, h2.2.1.far (p := ⟨b, 2, none⟩) (h2.ne) _, h2.2.2⟩, h3⟩
  go_enter Tryd.func28, Tryd.ntmps28
  go_wp2_with fail
  generalize hw0 : World.setCell _ _ _ = w0
  rw [hw0] at h0 hK0
  clear hw0
  by_cases hp : p.length = 0
  · obtain rfl : p = [] := List.eq_nil_of_length_eq_zero hp
    clear hp
    rcases h0 with ⟨rfl, rfl, lr0, hb0⟩ | ⟨g, cap, cur, lr0, rfl, hb0, ht0⟩
    · have c0 := hb0.cell 0
      have f0 := hb0.frozen 0
      simp at c0
      refine (Tryd.Buffer_tryGrow_room b none 0 0 0 _ c0 f0 (by omega) (by simp [maxLen]) (by omega)).mono ?_
      rintro e w1 ⟨rfl, rfl⟩
      have hb1 := hb0.set 0 (.slice none 0 0)
      have kk : Kp (One b) w0 _ := (Kp.refl (One b) w0).setOne 0 (.slice none 0 0)
      simp only [Nat.add_zero]
      generalize World.setCell _ _ _ = w1 at hb1 kk ⊢
      have d0 := hb1.cell 0
      simp at d0
      have hce : ∀ d dLen dCap W, (Builtin.copy_ #[29, 9] 3 #[.slice d dLen dCap, .string (strOf [])]).run Tryd.prog W = .ok (goInt 0) W := fun d dLen dCap W => Lib.run_copy_empty_string W 29 9 3 5 d dLen dCap (strOf []) ul (by rw [hinfo]; rfl) rfl
      go_wp2_with fail
      go_ret2
      exact ⟨rfl, none, .inl ⟨rfl, rfl, lr0, hb1⟩, (fun k hk => by cases hk), (hK0.trans kk (fun i hi => .inl hi)).mono (fun i hi => .inl hi)⟩
    · have c0 := hb0.1.cell 0
      have f0 := hb0.1.frozen 0
      simp at c0
      have hlc := hb0.2.2.2.2
      have hcm := hb0.2.2.2.1
      refine (Tryd.Buffer_tryGrow_room b (some ⟨g, 0, none⟩) l.length cap 0 _ c0 f0 hlc hcm (by omega)).mono ?_
      rintro e w1 ⟨rfl, rfl⟩
      have hb1 := hb0.1.set 0 (.slice (some ⟨g, 0, none⟩) (l.length + 0) cap)
      have hg1 := hb0.2.1.far (p := ⟨b, 0, none⟩) hb0.ne (.slice (some ⟨g, 0, none⟩) (l.length + 0) cap)
      have kk : Kp (One b) w0 _ := (Kp.refl (One b) w0).setOne 0 (.slice (some ⟨g, 0, none⟩) (l.length + 0) cap)
      generalize World.setCell _ _ _ = w1 at hb1 hg1 kk ⊢
      have d0 := hb1.cell 0
      simp at d0
      have hcm' := hcm
      unfold maxLen at hcm'
      have hce : ∀ d dLen dCap W, (Builtin.copy_ #[29, 9] 3 #[.slice d dLen dCap, .string (strOf [])]).run Tryd.prog W = .ok (goInt 0) W := fun d dLen dCap W => Lib.run_copy_empty_string W 29 9 3 5 d dLen dCap (strOf []) ul (by rw [hinfo]; rfl) rfl
      have hB1 : Buf w1 b (some g) l := .inr ⟨g, cap, cur, lr0, rfl, ⟨hb1, hg1, hb0.2.2⟩, ht0⟩
      clear ht0 hb0
      go_wp2_with fail
      all_goals
        go_ret2
        exact ⟨rfl, some g, hB1, New.refl _ _, (hK0.trans kk (fun i hi => .inl hi)).mono (fun i hi => .inl hi)⟩
  · -- W1: the buffer has grown by as many
    have fin : ∀ (g cap : Nat) (cur : Array Value) (lr1 : Int) (w1 : World), BRow w1 b g (l.length + p.length) cap cur lr1 → cur.toList.take l.length = byv l → True → (w1.cell? ⟨b, 0, none⟩ = some (.slice (some ⟨g, 0, none⟩) (l.length + p.length) cap) ∧
        (Builtin.copy_ #[29, 9] 3 #[.slice (some ⟨g, l.length, none⟩) p.length (cap - l.length), .string (strOf p)]).run Tryd.prog w1 = .ok (goInt p.length) (w1.setRow g (cur.toList.take l.length ++ (byv p ++ cur.toList.drop (l.length + p.length))).toArray)) := by
      intro g cap cur lr1 w1 hb ht hw
      have d0 := hb.1.cell 0
      simp at d0
      refine ⟨d0, ?_⟩
      have hcp := Lib.run_copy_row_string (P := Tryd.prog) w1 29 9 3 5 g l.length p.length (cap - l.length) (strOf p) cur 5 ul hinfo hb.2.1 (by rw [strOf_size]; omega) (by rw [strOf_size, hb.2.2.1]; exact hb.2.2.2.2)
      rw [strOf_size, List.append_assoc] at hcp
      exact hcp
    by_cases hroom : ∃ g cap, r = some g ∧ w0.cell? ⟨b, 0, none⟩ = some (.slice (some ⟨g, 0, none⟩) l.length cap) ∧ p.length ≤ cap - l.length
    · obtain ⟨g, cap, rfl, c0, hpc⟩ := hroom
      rcases h0 with ⟨h0, _⟩ | ⟨g', cap', cur, lr0, hrg, hb0, ht0⟩
      · cases h0
      · cases hrg
        have c0' := hb0.1.cell 0
        simp at c0'
        rw [c0] at c0'
        simp only [Option.some.injEq, Value.slice.injEq, true_and] at c0'
        subst c0'
        have f0 := hb0.1.frozen 0
        have hlc := hb0.2.2.2.2
        have hcm := hb0.2.2.2.1
        refine (Tryd.Buffer_tryGrow_room b (some ⟨g, 0, none⟩) l.length cap p.length _ c0 f0 hlc hcm hpc).mono ?_
        rintro e w1 ⟨rfl, rfl⟩
        have hb1 : BRow (w0.setCell ⟨b, 0, none⟩ (.slice (some ⟨g, 0, none⟩) (l.length + p.length) cap)) b g (l.length + p.length) cap cur lr0 :=
          ⟨hb0.1.set 0 _, hb0.2.1.far (p := ⟨b, 0, none⟩) hb0.ne _, hb0.2.2.1, hcm, by omega⟩
        have kk : Kp (One b) w0 _ := (Kp.refl (One b) w0).setOne 0 (.slice (some ⟨g, 0, none⟩) (l.length + p.length) cap)
        generalize World.setCell _ _ _ = w1 at hb1 kk ⊢
        obtain ⟨d0, hcp⟩ := fin g cap cur lr0 w1 hb1 ht0 trivial
        have hend := hid (copy_end hb1 ht0)
        have hcm' := hcm
        unfold maxLen at hcm'
        have hne : ¬ cap = l.length := by omega
        clear fin ht0 hb0 c0 f0 hb1
        go_wp2_with fail
        go_ret2
        exact ⟨rfl, some g, hend.out.1, New.refl _ _, (((hK0.trans kk (fun i hi => .inl hi)).mono (S' := Two b (some g)) (fun i hi => .inl hi)).trans hend.out.2 (fun i hi => .inl (.inr hi)))⟩
    · have c0 : ∃ ao l0 cap, w0.cell? ⟨b, 0, none⟩ = some (.slice ao l0 cap) ∧ l0 ≤ cap ∧ cap ≤ maxLen ∧ cap - l0 < p.length := by
        rcases h0 with ⟨h1, h2, lr, h3⟩ | ⟨g, cap, cur, lr, h1, h2, h3⟩
        · have := h3.cell 0
          simp at this
          exact ⟨_, _, _, this, by omega, by simp [maxLen], by omega⟩
        · have := h2.1.cell 0
          simp at this
          refine ⟨_, _, _, this, h2.2.2.2.2, h2.2.2.2.1, ?_⟩
          rcases Nat.lt_or_ge (cap - l.length) p.length with hh | hh
          · exact hh
          · exact absurd ⟨g, cap, h1, this, hh⟩ hroom
      obtain ⟨ao, l0, cap0, c0, q1, q2, q3⟩ := c0
      clear hroom
      refine (Tryd.Buffer_tryGrow_none b ao l0 cap0 p.length _ c0 q1 q2 q3).mono ?_
      rintro e w1 ⟨rfl, rfl⟩
      go_wp2_with fail
      refine (grow_any b p.length r l _ h0 (by omega) (fun ao' l0' cap' hc => by rw [c0] at hc; cases hc; exact q3) (by omega)).mono ?_
      rintro e w2 ⟨rfl, g, cap, cur, lr1, hb1, ht1, hg, kk⟩
      obtain ⟨d0, hcp⟩ := fin g cap cur lr1 w2 hb1 ht1 trivial
      have hend := hid (copy_end hb1 ht1)
      have hcm := hb1.2.2.2.1
      have hlc := hb1.2.2.2.2
      have hcm' := hcm
      unfold maxLen at hcm'
      have hne : ¬ cap = l.length := by omega
      clear fin ht1 h0 c0 hb1
      go_wp2_with fail
      go_ret2
      exact ⟨rfl, some g, hend.out.1, (fun k hk => by cases hk; exact .inr (Nat.le_trans hK0.size hg)), (((hK0.trans kk (fun i hi => .inl hi)).mono (S' := Two b r) (fun i hi => .inl hi)).trans hend.out.2 (fun i hi => .inr (by cases hi; exact Nat.le_trans hK0.size hg)))⟩

end Go.Proofs.YtghfngnakoccbaaDoor

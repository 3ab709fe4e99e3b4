/- The contracts of the queue's functions: what each answers and what it leaves of memory. -/
import Derived.Test.YtpbkipolgdldfaaRows
import Derived.Test.YtpbkipolgdldfaaSeq
namespace Go.Proofs.Ytpbkipolgdldfaa
open Go.RowKit
set_option linter.unusedSimpArgs false
set_option linter.unusedVariables false
attribute [local go_sem] max2_of min2_of max_of min_of

theorem wide : Try.prog.follows .mixedOrders = true := by kernel_rfl
theorem info8 : (Try.prog.info? 5).map (fun i => (i.zero, i.size, i.bytes)) = some (some (.int .u8 0), 1, 1) := by kernel_rfl

theorem size8 : (Try.prog.info? 5).map (·.size) = some 1 := by kernel_rfl

/-- A queue at block g, its bytes at row r: all that was put, how many of them were taken, how many there may be. -/
def Que (w : World) (g : Nat) (r : Option Nat) (b : List UInt8) (a : Nat) (m : Int) : Prop :=
  ∃ v, Blk w g #[v, .int .i64 a, .int .i64 m] 72 ∧ Own w 5 1 v r b.length (byv b) ∧ a ≤ b.length ∧ (b.length : Int) ≤ m ∧ m ≤ 9223372036854775807

section
variable {w w' : World} {g a : Nat} {r : Option Nat} {b : List UInt8} {m : Int} {S : Nat → Prop}
theorem Que.kp (h : Que w g r b a m) (k : Kp S w w') (hg : ¬ S g) (hr : ∀ i, r = some i → ¬ S i) : Que w' g r b a m := by
  obtain ⟨v, h1, h2, h3⟩ := h
  exact ⟨v, h1.kp k hg, h2.kp k hr, h3⟩
theorem Que.keep (h : Que w g r b a m) (k : Kp Non w w') : Que w' g r b a m := h.kp k (fun x => x) (fun _ _ x => x)
theorem Que.lt (h : Que w g r b a m) : g < w.heap.size := by
  obtain ⟨v, h1, _⟩ := h
  exact h1.lt
theorem Que.row_lt (h : Que w g r b a m) : ∀ i, r = some i → i < w.heap.size := by
  obtain ⟨v, _, h2, _⟩ := h
  exact h2.lt
theorem Que.row_ne (h : Que w g r b a m) : r ≠ some g := by
  obtain ⟨v, h1, h2, _⟩ := h
  exact h2.ne_blk h1 (by decide)
theorem Que.at_le (h : Que w g r b a m) : a ≤ b.length := by
  obtain ⟨v, _, _, h3, _⟩ := h
  exact h3
theorem Que.len_le (h : Que w g r b a m) : (b.length : Int) ≤ m := by
  obtain ⟨v, _, _, _, h3, _⟩ := h
  exact h3
end

/-! ### slices.Clone -/
theorem clone_calls (v : Value) (r : Option Nat) (l : List UInt8) (w : World) (h : Rd w v r (byv l)) (hl : l.length ≤ 140737488355328) :
    Calls Try.prog 52 #[v] w fun e w' => ∃ v1 r1, e = .returned v1 ∧ Own w' 5 1 v1 r1 l.length (byv l) ∧ (∀ k, r1 = some k → w.heap.size ≤ k) ∧ Kp Non w w' := by
  have h0 := h
  obtain ⟨A, c, rfl, h1, h2, h3⟩ := h
  have hn := fun w => Lib.run_eql_slice_nil (P := Try.prog) w 26 5 A (byv l).length c 0 0 Try.underlying26
  rw [byv_length] at h1 hn ⊢
  rcases A with _ | A
  · have hl0 : l = [] := by
      rcases h3 with h3 | ⟨b, off, hA, _⟩
      · simpa [byv] using h3
      · cases hA
    subst hl0
    simp only [List.length_nil] at hn
    go_enter Try.func52, Try.ntmps52
    go_wp2
    go_ret
    exact ⟨_, none, rfl, Own.nil _ _ _ _, (fun k hk => by cases hk), Kp.refl _ _⟩
  · have hs := (h0.keep ((Kp.refl Non w).alloc (.cells #[] 5))).src Try.underlying26 (byv_one l)
    rw [byv_length] at hs
    have HS := hid hs
    clear hs h3 h0
    go_enter Try.func52, Try.ntmps52
    go_wp2_with (at_builtin; go_must (refine wpList_append_any rfl _ _ _ _ rfl 5 (.int .u8 0) 1 1 Try.underlying26 info8 rfl _ none 0 [] rfl (Own.nil _ _ _ _) _ l.length (byv l) rfl ?hs (by omega) (by omega) ?_))
    case hs => exact HS.out
    intro v1 r1 w2 hown hk hnew
    go_wp2
    go_ret
    refine ⟨v1, r1, rfl, hown, fun k hr => ?_, ((Kp.refl Non w).alloc _).trans hk (fun i hi => by cases hi)⟩
    have := hnew k hr
    simp at this
    omega

theorem len_calls (g : Nat) (r : Option Nat) (b : List UInt8) (a : Nat) (m : Int) (w : World) (h : Que w g r b a m) :
    Calls Try.prog 41 #[.pointer (some ⟨g, 0, none⟩)] w fun e w' => e = .returned (.int .i64 ((b.length : Int) - a)) ∧ Kp Non w w' := by
  obtain ⟨v, h1, h2, h3, h4, h5⟩ := h
  obtain ⟨A, c, rfl, hc1, hc2⟩ := h2.form
  have c0 := h1.cell 0
  have c1 := h1.cell 1
  simp at c0 c1
  have e0 : ∀ w', Kp Non w.drew w' → w'.cell? ⟨g, 0, none⟩ = some (.slice A b.length c) := fun w' hk => hk.cell c0 (fun x => x)
  have e1 : ∀ w', Kp Non w.drew w' → w'.cell? ⟨g, 1, none⟩ = some (.int .i64 a) := fun w' hk => hk.cell c1 (fun x => x)
  have hwr : IntKind.i64.wrap ((b.length : Int) - a) = (b.length : Int) - a := IntWalk.i64_in _ (by omega)
  go_enter Try.func41, Try.ntmps41
  go_wp2
  refine wp_region_seq [(0, true), (1, true), (2, true), (3, true), (4, true), (5, true), (6, true), (7, true), (8, true), (9, true), (10, true)] 11 Non wide (by kernel_rfl) (fun _ _ _ _ _ h => h) ?_; (try simp only [List.append_eq, List.cons_append, List.nil_append])
  repeat (refine seq_still (v := ?_) rfl rfl (fun wq hq => ?_) ?_; rotate_left; (focus ((simp only [List.getElem_toArray, List.getElem_cons_zero, List.getElem_cons_succ]; go_simp; try with_reducible rfl); done)); simp only [List.getElem_toArray, List.getElem_cons_zero, List.getElem_cons_succ, Act.put, List.setIfInBounds_toArray, List.set_cons_zero, List.set_cons_succ])
  refine seq_nil ?_
  go_wp2
  go_ret
  exact ⟨rfl, (Kp.refl _ _).drew⟩

/-! ### New -/
theorem qnew_calls (n : Int) (w : World) (hn : n ≤ 9223372036854775807) :
    Calls Try.prog 32 #[.int .i64 n] w fun e w' => ∃ g, e = .returned (.pointer (some ⟨g, 0, none⟩)) ∧ w.heap.size ≤ g ∧ Que w' g none [] 0 (max n 0) ∧ Kp Non w w' := by
  go_enter Try.func32, Try.ntmps32
  go_wp2
  go_ret
  exact ⟨_, rfl, Nat.le_refl _, ⟨_, Blk.new _ _ _, Own.nil _ _ _ _, by simp, by simp; omega, by omega⟩, (Kp.refl _ _).alloc _⟩

/-! ### Put -/
theorem put_yes (g : Nat) (r : Option Nat) (b : List UInt8) (a : Nat) (m : Int) (v : Value) (rv : Option Nat) (l : List UInt8) (w : World) (h : Que w g r b a m) (hv : Rd w v rv (byv l))
    (hl : b.length + l.length ≤ 140737488355328) (hm : (l.length : Int) ≤ m - b.length) :
    Calls Try.prog 40 #[.pointer (some ⟨g, 0, none⟩), v] w fun e w' => ∃ r', e = .returned (.bool true) ∧ Que w' g r' (b ++ l) a m ∧ New w r r' ∧ Kp (Two g r) w w' := by
  have hne := h.row_ne
  obtain ⟨u, h1, h2, h3, h4, h5⟩ := h
  obtain ⟨A, c, rfl, hc1, hc2⟩ := h2.form
  have hs := (hv.keep ((Kp.refl Non w).drew)).src Try.underlying26 (byv_one l)
  obtain ⟨B, d, rfl, hd1, hd2, hd3⟩ := hv
  rw [byv_length] at hs hd1 ⊢
  have HS := hid hs
  have H2 := hid h2
  have HNE := hid hne
  clear hs hd3 h2 hne
  have c0 := h1.cell 0
  have c1 := h1.cell 1
  have c2 := h1.cell 2
  have f0 := h1.frozen 0
  simp at c0 c1 c2
  have e0 : ∀ w', Kp Non w.drew w' → w'.cell? ⟨g, 0, none⟩ = some (.slice A b.length c) := fun w' hk => hk.cell c0 (fun x => x)
  have e2 : ∀ w', Kp Non w.drew w' → w'.cell? ⟨g, 2, none⟩ = some (.int .i64 m) := fun w' hk => hk.cell c2 (fun x => x)
  have hwr : IntKind.i64.wrap (m - (b.length : Int)) = m - (b.length : Int) := IntWalk.i64_in _ (by omega)
  have hno : decide (m - (b.length : Int) < (l.length : Int)) = false := by simp; omega
  go_enter Try.func40, Try.ntmps40
  go_wp2
  refine wp_region_seq [(0, true), (1, true), (2, true), (3, true), (4, true), (5, true), (6, true), (7, true), (8, true), (9, true), (10, true), (11, true), (12, true)] 13 Non wide (by kernel_rfl) (fun _ _ _ _ _ h => h) ?_; (try simp only [List.append_eq, List.cons_append, List.nil_append])
  repeat (refine seq_still (v := ?_) rfl rfl (fun wq hq => ?_) ?_; rotate_left; (focus ((simp only [List.getElem_toArray, List.getElem_cons_zero, List.getElem_cons_succ]; go_simp; try with_reducible rfl); done)); simp only [List.getElem_toArray, List.getElem_cons_zero, List.getElem_cons_succ, Act.put, List.setIfInBounds_toArray, List.set_cons_zero, List.set_cons_succ])
  refine seq_nil ?_
  clear e0 e2 hwr hno
  go_wp2_with (at_builtin; go_must (refine wpList_append_any rfl _ _ _ _ rfl 5 (.int .u8 0) 1 1 Try.underlying26 info8 rfl _ r b.length (byv b) rfl ?ho _ l.length (byv l) rfl ?hs (by omega) (by omega) ?_))
  case ho => exact H2.out.keep ((Kp.refl Non w).drew)
  case hs => exact HS.out
  intro v1 r1 w2 hown hk hnew
  have hg2 : Blk w2 g _ _ := (h1.drew).kp hk HNE.out
  have c3 := hg2.cell 0
  have f3 := hg2.frozen 0
  simp at c3
  obtain ⟨A1, d1, rfl, hd3, hd4⟩ := hown.form
  go_wp2
  go_ret
  refine ⟨r1, rfl, ⟨_, hg2.set 0 _, ?_, ?_, ?_, h5⟩, hnew, ?_⟩
  · rw [byv_append, List.length_append]
    exact hown.kp ((Kp.refl (One g) w2).setOne 0 _) (fun i hi hig => (hnew.lt_ne (g := g) h1.lt HNE.out) (by rw [hi]; congr 1))
  · simp; omega
  · simp; omega
  · exact (((Kp.refl (Two g r) w).drew).trans hk (fun i hi => .inl (.inr hi))).setCell (.inl (.inl rfl)) _

theorem put_no (g : Nat) (r : Option Nat) (b : List UInt8) (a : Nat) (m : Int) (v : Value) (rv : Option Nat) (l : List UInt8) (w : World) (h : Que w g r b a m) (hv : Rd w v rv (byv l))
    (hl : l.length ≤ 140737488355328) (hm : ¬ (l.length : Int) ≤ m - b.length) :
    Calls Try.prog 40 #[.pointer (some ⟨g, 0, none⟩), v] w fun e w' => e = .returned (.bool false) ∧ Kp Non w w' := by
  obtain ⟨u, h1, h2, h3, h4, h5⟩ := h
  obtain ⟨A, c, rfl, hc1, hc2⟩ := h2.form
  obtain ⟨B, d, rfl, hd1, hd2, hd3⟩ := hv
  rw [byv_length] at hd1 ⊢
  clear hd3 h2
  have c0 := h1.cell 0
  have c2 := h1.cell 2
  simp at c0 c2
  have e0 : ∀ w', Kp Non w.drew w' → w'.cell? ⟨g, 0, none⟩ = some (.slice A b.length c) := fun w' hk => hk.cell c0 (fun x => x)
  have e2 : ∀ w', Kp Non w.drew w' → w'.cell? ⟨g, 2, none⟩ = some (.int .i64 m) := fun w' hk => hk.cell c2 (fun x => x)
  have hwr : IntKind.i64.wrap (m - (b.length : Int)) = m - (b.length : Int) := IntWalk.i64_in _ (by omega)
  have hno : decide (m - (b.length : Int) < (l.length : Int)) = true := by simp; omega
  go_enter Try.func40, Try.ntmps40
  go_wp2
  refine wp_region_seq [(0, true), (1, true), (2, true), (3, true), (4, true), (5, true), (6, true), (7, true), (8, true), (9, true), (10, true), (11, true), (12, true)] 13 Non wide (by kernel_rfl) (fun _ _ _ _ _ h => h) ?_; (try simp only [List.append_eq, List.cons_append, List.nil_append])
  repeat (refine seq_still (v := ?_) rfl rfl (fun wq hq => ?_) ?_; rotate_left; (focus ((simp only [List.getElem_toArray, List.getElem_cons_zero, List.getElem_cons_succ]; go_simp; try with_reducible rfl); done)); simp only [List.getElem_toArray, List.getElem_cons_zero, List.getElem_cons_succ, Act.put, List.setIfInBounds_toArray, List.set_cons_zero, List.set_cons_succ])
  refine seq_nil ?_
  clear e0 e2 hwr hno
  go_wp2
  go_ret
  exact ⟨rfl, (Kp.refl _ _).drew⟩

/-! ### Take -/
/-- How many are taken. -/
def tk (b : List UInt8) (a : Nat) (n : Int) : Nat := (min (max n 0) ((b.length : Int) - a)).toNat
theorem tk_le (b : List UInt8) (a : Nat) (n : Int) (h : a ≤ b.length) : a + tk b a n ≤ b.length ∧ (tk b a n : Int) = min (max n 0) ((b.length : Int) - a) := by unfold tk; omega

theorem take_calls (g : Nat) (r : Option Nat) (b : List UInt8) (a : Nat) (m : Int) (n : Int) (w : World) (h : Que w g r b a m) (hb : b.length ≤ 140737488355328) :
    Calls Try.prog 37 #[.pointer (some ⟨g, 0, none⟩), .int .i64 n] w fun e w' => ∃ v1 r1, e = .returned v1 ∧ Que w' g r b (a + tk b a n) m ∧
      Own w' 5 1 v1 r1 (tk b a n) (byv ((b.drop a).take (tk b a n))) ∧ (∀ k, r1 = some k → w.heap.size ≤ k) ∧ Kp (One g) w w' := by
  have h0 := h
  have hne := h.row_ne
  obtain ⟨k1, k2⟩ := tk_le b a n h.at_le
  have Hk := hid k2
  obtain ⟨u, h1, h2, h3, h4, h5⟩ := h
  obtain ⟨A, c, rfl, hc1, hc2⟩ := h2.form
  have c0 := h1.cell 0
  have c1 := h1.cell 1
  simp at c0 c1
  have e0 : ∀ w', Kp Non w.drew w' → w'.cell? ⟨g, 0, none⟩ = some (.slice A b.length c) := fun w' hk => hk.cell c0 (fun x => x)
  have e1 : ∀ w', Kp Non w.drew w' → w'.cell? ⟨g, 1, none⟩ = some (.int .i64 a) := fun w' hk => hk.cell c1 (fun x => x)
  have hkk : ∀ w1, Kp Non w.drew w1 → ∀ w', Kp Non w1 w' → Kp Non w.drew w' := fun w1 x w' y => x.seq y
  generalize tk b a n = t at k1 k2 Hk ⊢
  have hwr : IntKind.i64.wrap ((a : Int) + min (max n 0) ((b.length : Int) - a)) = (a : Int) + t := by rw [← k2]; exact IntWalk.i64_in _ (by omega)
  clear k2
  go_enter Try.func37, Try.ntmps37
  go_wp2
  refine wp_region_seq [(0, true), (1, true), (2, true), (3, true), (4, true), (5, true), (6, true), (7, false), (8, true), (9, true), (10, true), (11, true), (12, false)] 12 Non wide (by kernel_rfl) (fun _ _ _ _ _ h => h) ?_; (try simp only [List.append_eq, List.cons_append, List.nil_append])
  repeat (refine seq_still (v := ?_) rfl rfl (fun wq hq => ?_) ?_; rotate_left; (focus ((simp only [List.getElem_toArray, List.getElem_cons_zero, List.getElem_cons_succ]; go_simp; try with_reducible rfl); done)); simp only [List.getElem_toArray, List.getElem_cons_zero, List.getElem_cons_succ, Act.put, List.setIfInBounds_toArray, List.set_cons_zero, List.set_cons_succ])
  refine seq_step rfl rfl (fun K hK => ?_); simp only [List.getElem_toArray, List.getElem_cons_zero, List.getElem_cons_succ]; go_simp
  refine (len_calls g r b a m _ (h0.keep ((Kp.refl Non w).drew))).mono ?_
  rintro e w1 ⟨rfl, k3⟩
  refine hK.out _ _ (k3) ?_; clear hK; (try simp only [Act.put, List.setIfInBounds_toArray, List.set_cons_zero, List.set_cons_succ])
  have hx := hkk w1 k3
  repeat (refine seq_still (v := ?_) rfl rfl (fun wq hq => ?_) ?_; rotate_left; (focus ((simp only [List.getElem_toArray, List.getElem_cons_zero, List.getElem_cons_succ]; go_simp; try with_reducible rfl); done)); simp only [List.getElem_toArray, List.getElem_cons_zero, List.getElem_cons_succ, Act.put, List.setIfInBounds_toArray, List.set_cons_zero, List.set_cons_succ])
  have hg1 : Blk w1 g _ _ := h1.keep (((Kp.refl Non w).drew).seq k3)
  have c3 := hg1.cell 1
  have f3 := hg1.frozen 1
  simp at c3
  refine seq_last rfl rfl (fun K hK => ?_); simp only [List.getElem_toArray, List.getElem_cons_zero, List.getElem_cons_succ]; go_simp
  refine hK.out _ _ ?_; clear hK; (try simp only [Act.put, List.setIfInBounds_toArray, List.set_cons_zero, List.set_cons_succ])
  refine seq_nil ?_
  have hk2 : Kp (One g) w (w1.setCell ⟨g, 1, none⟩ (.int .i64 ((a : Int) + t))) := ((((Kp.refl Non w).drew).seq k3).any).setOne 1 _
  have hg2 := hg1.set 1 (.int .i64 ((a : Int) + t))
  have h2' := h2.kp hk2 (fun i hi hig => hne (by rw [hi]; congr 1))
  generalize w1.setCell ⟨g, 1, none⟩ (.int .i64 ((a : Int) + t)) = w2 at hk2 hg2 h2' ⊢
  clear c3 f3 hg1 e0 e1 hkk hx k3 hwr c0 c1
  have c0 := hg2.cell 0
  have c1 := hg2.cell 1
  simp at c0 c1
  have e0 : ∀ w', Kp Non w2.drew w' → w'.cell? ⟨g, 0, none⟩ = some (.slice A b.length c) := fun w' hk => hk.cell c0 (fun x => x)
  have e1 : ∀ w', Kp Non w2.drew w' → w'.cell? ⟨g, 1, none⟩ = some (.int .i64 ((a : Int) + t)) := fun w' hk => hk.cell c1 (fun x => x)
  obtain ⟨V, hV, hVr⟩ := ((h2'.keep ((Kp.refl Non w2).drew)).rd).slice_lhm Try.underlying26 size8 (a : Int) ((a : Int) + t) ((a : Int) + t) a (a + t) (a + t) rfl (by simp) (by simp) (by omega) (by omega) (by rw [byv_length]; omega)
  rw [byv_take, byv_drop, List.drop_take, show a + t - a = t by omega] at hVr
  go_wp2
  refine wp_region_seq [(0, true), (1, true), (2, true), (3, true), (4, true), (5, true), (6, true), (7, true), (8, true), (9, true), (10, true), (11, true), (12, true), (13, true), (14, false), (15, true)] 16 Non wide (by kernel_rfl) (fun _ _ _ _ _ h => h) ?_; (try simp only [List.append_eq, List.cons_append, List.nil_append])
  repeat (refine seq_still (v := ?_) rfl rfl (fun wq hq => ?_) ?_; rotate_left; (focus ((simp only [List.getElem_toArray, List.getElem_cons_zero, List.getElem_cons_succ]; go_simp; try with_reducible rfl); done)); simp only [List.getElem_toArray, List.getElem_cons_zero, List.getElem_cons_succ, Act.put, List.setIfInBounds_toArray, List.set_cons_zero, List.set_cons_succ])
  refine seq_step rfl rfl (fun K hK => ?_); simp only [List.getElem_toArray, List.getElem_cons_zero, List.getElem_cons_succ]; go_simp
  refine (clone_calls V r _ _ hVr (by simp; omega)).mono ?_
  rintro e w3 ⟨v1, r1, rfl, ho, hn, k3⟩
  refine hK.out _ _ (k3) ?_; clear hK; (try simp only [Act.put, List.setIfInBounds_toArray, List.set_cons_zero, List.set_cons_succ])
  repeat (refine seq_still (v := ?_) rfl rfl (fun wq hq => ?_) ?_; rotate_left; (focus ((simp only [List.getElem_toArray, List.getElem_cons_zero, List.getElem_cons_succ]; go_simp; try with_reducible rfl); done)); simp only [List.getElem_toArray, List.getElem_cons_zero, List.getElem_cons_succ, Act.put, List.setIfInBounds_toArray, List.set_cons_zero, List.set_cons_succ])
  refine seq_nil ?_
  go_wp2
  go_ret
  have hl : ((b.drop a).take t).length = t := by simp; omega
  rw [hl] at ho
  have hs2 := hk2.size
  have K3 : Kp Non w2 w3 := ((Kp.refl Non w2).drew).seq k3
  refine ⟨v1, r1, rfl, ⟨_, hg2.keep K3, h2'.keep K3, k1, h4, h5⟩, ho, fun i hi => ?_, hk2.seq K3⟩
  have := hn i hi
  simp at this
  omega

/-! ### Taken, All -/
theorem taken_calls (g : Nat) (r : Option Nat) (b : List UInt8) (a : Nat) (m : Int) (w : World) (h : Que w g r b a m) (hb : b.length ≤ 140737488355328) :
    Calls Try.prog 50 #[.pointer (some ⟨g, 0, none⟩)] w fun e w' => ∃ v1 r1, e = .returned v1 ∧
      Own w' 5 1 v1 r1 a (byv (b.take a)) ∧ (∀ k, r1 = some k → w.heap.size ≤ k) ∧ Kp Non w w' := by
  obtain ⟨u, h1, h2, h3, h4, h5⟩ := h
  obtain ⟨A, c, rfl, hc1, hc2⟩ := h2.form
  have c0 := h1.cell 0
  have c1 := h1.cell 1
  simp at c0 c1
  have e0 : ∀ w', Kp Non w.drew w' → w'.cell? ⟨g, 0, none⟩ = some (.slice A b.length c) := fun w' hk => hk.cell c0 (fun x => x)
  have e1 : ∀ w', Kp Non w.drew w' → w'.cell? ⟨g, 1, none⟩ = some (.int .i64 a) := fun w' hk => hk.cell c1 (fun x => x)
  obtain ⟨V, hV, hVr⟩ := ((h2.keep ((Kp.refl Non w).drew)).rd).slice_h Try.underlying26 size8 (a : Int) a rfl (by rw [byv_length]; omega)
  rw [byv_take] at hVr
  go_enter Try.func50, Try.ntmps50
  go_wp2
  refine wp_region_seq [(0, true), (1, true), (2, true), (3, true), (4, true), (5, true), (6, true), (7, true), (8, true), (9, false), (10, true)] 11 Non wide (by kernel_rfl) (fun _ _ _ _ _ h => h) ?_; (try simp only [List.append_eq, List.cons_append, List.nil_append])
  repeat (refine seq_still (v := ?_) rfl rfl (fun wq hq => ?_) ?_; rotate_left; (focus ((simp only [List.getElem_toArray, List.getElem_cons_zero, List.getElem_cons_succ]; go_simp; try with_reducible rfl); done)); simp only [List.getElem_toArray, List.getElem_cons_zero, List.getElem_cons_succ, Act.put, List.setIfInBounds_toArray, List.set_cons_zero, List.set_cons_succ])
  refine seq_step rfl rfl (fun K hK => ?_); simp only [List.getElem_toArray, List.getElem_cons_zero, List.getElem_cons_succ]; go_simp
  refine (clone_calls V r _ _ hVr (by simp; omega)).mono ?_
  rintro e w3 ⟨v1, r1, rfl, ho, hn, k3⟩
  refine hK.out _ _ (k3) ?_; clear hK; (try simp only [Act.put, List.setIfInBounds_toArray, List.set_cons_zero, List.set_cons_succ])
  repeat (refine seq_still (v := ?_) rfl rfl (fun wq hq => ?_) ?_; rotate_left; (focus ((simp only [List.getElem_toArray, List.getElem_cons_zero, List.getElem_cons_succ]; go_simp; try with_reducible rfl); done)); simp only [List.getElem_toArray, List.getElem_cons_zero, List.getElem_cons_succ, Act.put, List.setIfInBounds_toArray, List.set_cons_zero, List.set_cons_succ])
  refine seq_nil ?_
  go_wp2
  go_ret
  have hl : (b.take a).length = a := by simp; omega
  rw [hl] at ho
  refine ⟨v1, r1, rfl, ho, fun i hi => ?_, ((Kp.refl Non w).drew).seq k3⟩
  have := hn i hi
  simpa using this

theorem all_calls (g : Nat) (r : Option Nat) (b : List UInt8) (a : Nat) (m : Int) (w : World) (h : Que w g r b a m) (hb : b.length ≤ 140737488355328) :
    Calls Try.prog 51 #[.pointer (some ⟨g, 0, none⟩)] w fun e w' => ∃ v1 r1, e = .returned v1 ∧
      Own w' 5 1 v1 r1 b.length (byv b) ∧ (∀ k, r1 = some k → w.heap.size ≤ k) ∧ Kp Non w w' := by
  obtain ⟨u, h1, h2, h3, h4, h5⟩ := h
  have c0 := h1.cell 0
  simp at c0
  go_enter Try.func51, Try.ntmps51
  go_wp2_with fail
  refine (clone_calls u r b _ h2.rd hb).mono ?_
  rintro e w3 ⟨v1, r1, rfl, ho, hn, k3⟩
  go_wp2
  go_ret
  exact ⟨v1, r1, rfl, ho, hn, k3⟩

/-! ### Clone -/
theorem qclone_calls (g : Nat) (r : Option Nat) (b : List UInt8) (a : Nat) (m : Int) (w : World) (h : Que w g r b a m) (hb : b.length ≤ 140737488355328) :
    Calls Try.prog 45 #[.pointer (some ⟨g, 0, none⟩)] w fun e w' => ∃ g1 r1, e = .returned (.pointer (some ⟨g1, 0, none⟩)) ∧
      w.heap.size ≤ g1 ∧ Que w' g1 r1 b a m ∧ (∀ k, r1 = some k → w.heap.size ≤ k) ∧ Kp Non w w' := by
  obtain ⟨u, h1, h2, h3, h4, h5⟩ := h
  obtain ⟨A, c, rfl, hc1, hc2⟩ := h2.form
  have c0 := h1.cell 0
  have c1 := h1.cell 1
  have c2 := h1.cell 2
  simp at c0 c1 c2
  have g1 := (h1.old (.cells #[.slice A b.length c, .int .i64 a, .int .i64 m] 72)).cell 0
  simp at g1
  have hnew := Blk.new w #[.slice A b.length c, .int .i64 a, .int .i64 m] 72
  have hk1 := (Kp.refl Non w).alloc (.cells #[.slice A b.length c, .int .i64 a, .int .i64 m] 72)
  go_enter Try.func45, Try.ntmps45
  go_wp2_with fail
  generalize w.alloc (.cells #[.slice A b.length c, .int .i64 a, .int .i64 m] 72) = w1 at g1 hnew hk1 ⊢
  refine (clone_calls _ r b _ (h2.keep hk1).rd hb).mono ?_
  rintro e w2 ⟨v1, r1, rfl, ho, hn, k2⟩
  have hb2 := hnew.keep k2
  have c3 := hb2.cell 0
  have f3 := hb2.frozen 0
  simp at c3
  obtain ⟨A1, d1, rfl, hd3, hd4⟩ := ho.form
  go_wp2
  go_ret
  have hs1 := hk1.size
  have hgw := h1.lt
  refine ⟨w.heap.size, r1, rfl, Nat.le_refl _, ⟨_, hb2.set 0 _, ho.kp ((Kp.refl (One w.heap.size) w2).setOne 0 _) (fun i hi hig => ?_), h3, h4, h5⟩, fun i hi => ?_, ((hk1.seq k2).setCell (.inr (Nat.le_refl _)) _)⟩
  · have h6 := hn i hi
    have h7 : i = w.heap.size := hig
    have h8 := hnew.lt
    omega
  · have h6 := hn i hi
    omega

end Go.Proofs.Ytpbkipolgdldfaa

/- The contracts of the queue's reference: what each answers and what it leaves of memory. -/
import Derived.Test.YtpbkipolgdldfaaQueue
namespace Go.Proofs.Ytpbkipolgdldfaa
open Go.RowKit
set_option linter.unusedSimpArgs false
set_option linter.unusedVariables false
attribute [local go_sem] max2_of min2_of max_of min_of

/-- The reference's queue at block g, its bytes at row r. -/
def RQue (w : World) (g : Nat) (r : Option Nat) (b : List UInt8) (a : Nat) (m : Int) : Prop :=
  ∃ v, Blk w g #[.int .i64 m, .int .i64 a, v] 70 ∧ Own w 5 1 v r b.length (byv b) ∧ a ≤ b.length ∧ (b.length : Int) ≤ m ∧ m ≤ 9223372036854775807

section
variable {w w' : World} {g a : Nat} {r : Option Nat} {b : List UInt8} {m : Int} {S : Nat → Prop}
theorem RQue.kp (h : RQue w g r b a m) (k : Kp S w w') (hg : ¬ S g) (hr : ∀ i, r = some i → ¬ S i) : RQue w' g r b a m := by
  obtain ⟨v, h1, h2, h3⟩ := h
  exact ⟨v, h1.kp k hg, h2.kp k hr, h3⟩
theorem RQue.keep (h : RQue w g r b a m) (k : Kp Non w w') : RQue w' g r b a m := h.kp k (fun x => x) (fun _ _ x => x)
theorem RQue.lt (h : RQue w g r b a m) : g < w.heap.size := by
  obtain ⟨v, h1, _⟩ := h
  exact h1.lt
theorem RQue.row_lt (h : RQue w g r b a m) : ∀ i, r = some i → i < w.heap.size := by
  obtain ⟨v, _, h2, _⟩ := h
  exact h2.lt
theorem RQue.row_ne (h : RQue w g r b a m) : r ≠ some g := by
  obtain ⟨v, h1, h2, _⟩ := h
  exact h2.ne_blk h1 (by decide)
theorem RQue.at_le (h : RQue w g r b a m) : a ≤ b.length := by
  obtain ⟨v, _, _, h3, _⟩ := h
  exact h3
end

theorem rnew_calls (n : Int) (w : World) (hn : n ≤ 9223372036854775807) :
    Calls Try.prog 42 #[.int .i64 n] w fun e w' => ∃ g, e = .returned (.pointer (some ⟨g, 0, none⟩)) ∧ w.heap.size ≤ g ∧ RQue w' g none [] 0 (max n 0) ∧ Kp Non w w' := by
  go_enter Try.func42, Try.ntmps42
  go_wp2
  go_ret
  exact ⟨_, rfl, Nat.le_refl _, ⟨_, Blk.new _ _ _, Own.nil _ _ _ _, by simp, by simp; omega, by omega⟩, (Kp.refl _ _).alloc _⟩

theorem rput_yes (g : Nat) (r : Option Nat) (b : List UInt8) (a : Nat) (m : Int) (v : Value) (rv : Option Nat) (l : List UInt8) (w : World) (h : RQue w g r b a m) (hv : Rd w v rv (byv l))
    (hl : b.length + l.length ≤ 140737488355328) (hm : (l.length : Int) ≤ m - b.length) :
    Calls Try.prog 44 #[.pointer (some ⟨g, 0, none⟩), v] w fun e w' => ∃ r', e = .returned (.bool true) ∧ RQue w' g r' (b ++ l) a m ∧ (∀ k, r' = some k → w.heap.size ≤ k) ∧ Kp (One g) w w' := by
  obtain ⟨u, h1, h2, h3, h4, h5⟩ := h
  obtain ⟨A, c, rfl, hc1, hc2⟩ := h2.form
  have H2 := hid h2
  have HV := hid hv
  obtain ⟨B, d, rfl, hd1, hd2, hd3⟩ := hv
  rw [byv_length] at HV hd1 ⊢
  clear hd3 h2
  have c0 := h1.cell 0
  have c2 := h1.cell 2
  simp at c0 c2
  have e0 : ∀ w', Kp Non w.drew w' → w'.cell? ⟨g, 0, none⟩ = some (.int .i64 m) := fun w' hk => hk.cell c0 (fun x => x)
  have e2 : ∀ w', Kp Non w.drew w' → w'.cell? ⟨g, 2, none⟩ = some (.slice A b.length c) := fun w' hk => hk.cell c2 (fun x => x)
  have hwr : IntKind.i64.wrap (m - (b.length : Int)) = m - (b.length : Int) := IntWalk.i64_in _ (by omega)
  have hno : decide (m - (b.length : Int) < (l.length : Int)) = false := by simp; omega
  go_enter Try.func44, Try.ntmps44
  go_wp2
  refine wp_region_seq [(0, true), (1, true), (2, true), (3, true), (4, true), (5, true), (6, true), (7, true), (8, true), (9, true), (10, true), (11, true), (12, true)] 13 Non wide (by kernel_rfl) (fun _ _ _ _ _ h => h) ?_; (try simp only [List.append_eq, List.cons_append, List.nil_append])
  repeat (refine seq_still (v := ?_) rfl rfl (fun wq hq => ?_) ?_; rotate_left; (focus ((simp only [List.getElem_toArray, List.getElem_cons_zero, List.getElem_cons_succ]; go_simp; try with_reducible rfl); done)); simp only [List.getElem_toArray, List.getElem_cons_zero, List.getElem_cons_succ, Act.put, List.setIfInBounds_toArray, List.set_cons_zero, List.set_cons_succ])
  refine seq_nil ?_
  clear e0 e2 hwr hno
  have hd := (Kp.refl Non w).drew
  generalize w.drew = wd at hd ⊢
  have ka := hd.alloc (.cells #[] 5)
  have c3 := ka.cell c2 (fun x => x)
  go_wp2_with (at_builtin; go_must (refine wpList_append_any rfl _ _ _ _ rfl 5 (.int .u8 0) 1 1 Try.underlying26 info8 rfl _ none 0 [] rfl (Own.nil _ _ _ _) _ b.length (byv b) rfl ?hs (by omega) (by omega) ?_))
  case hs => have := (H2.out.keep ka).rd.src Try.underlying26 (byv_one b); rw [byv_length] at this; exact this
  intro v1 r1 w1 o1 k1 n1
  have o1' : Own w1 5 1 v1 r1 b.length (byv b) := by simpa using o1
  have K1 : Kp Non w w1 := ka.trans k1 (fun _ h => by cases h)
  have hr1 : ∀ i, r1 = some i → w.heap.size ≤ i := fun i hi => by
    rcases n1 i hi with h | h
    · cases h
    · have := ka.size; omega
  have O1 := hid o1'
  have HN := hid hr1
  clear o1 k1 n1 c3 ka o1' hr1
  go_wp2_with (at_builtin; go_must (refine wpList_append_any rfl _ _ _ _ rfl 5 (.int .u8 0) 1 1 Try.underlying26 info8 rfl _ r1 b.length (byv b) rfl O1.out _ l.length (byv l) rfl ?hs (by omega) (by omega) ?_))
  case hs => have := (HV.out.keep K1).src Try.underlying26 (byv_one l); rw [byv_length] at this; exact this
  intro v2 r2 w2 o2 k2 n2
  have K2 : Kp Non w w2 := K1.trans k2 (fun i hi => .inr (HN.out i hi))
  have hr2 : ∀ i, r2 = some i → w.heap.size ≤ i := fun i hi => by
    rcases n2 i hi with h | h
    · exact HN.out i h
    · have := K1.size; omega
  have hg2 : Blk w2 g _ _ := h1.keep K2
  have c4 := hg2.cell 2
  have f4 := hg2.frozen 2
  simp at c4
  obtain ⟨A1, d1, rfl, hd3, hd4⟩ := o2.form
  go_wp2
  go_ret
  have hgl := h1.lt
  refine ⟨r2, rfl, ⟨_, hg2.set 2 _, ?_, ?_, ?_, h5⟩, hr2, (K2.any).setOne 2 _⟩
  · rw [byv_append, List.length_append]
    exact o2.kp ((Kp.refl (One g) w2).setOne 2 _) (fun i hi hig => by have := hr2 i hi; have : i = g := hig; omega)
  · simp; omega
  · simp; omega

theorem rput_no (g : Nat) (r : Option Nat) (b : List UInt8) (a : Nat) (m : Int) (v : Value) (rv : Option Nat) (l : List UInt8) (w : World) (h : RQue w g r b a m) (hv : Rd w v rv (byv l))
    (hl : l.length ≤ 140737488355328) (hm : ¬ (l.length : Int) ≤ m - b.length) :
    Calls Try.prog 44 #[.pointer (some ⟨g, 0, none⟩), v] w fun e w' => e = .returned (.bool false) ∧ Kp Non w w' := by
  obtain ⟨u, h1, h2, h3, h4, h5⟩ := h
  obtain ⟨A, c, rfl, hc1, hc2⟩ := h2.form
  obtain ⟨B, d, rfl, hd1, hd2, hd3⟩ := hv
  rw [byv_length] at hd1 ⊢
  clear hd3 h2
  have c0 := h1.cell 0
  have c2 := h1.cell 2
  simp at c0 c2
  have e0 : ∀ w', Kp Non w.drew w' → w'.cell? ⟨g, 0, none⟩ = some (.int .i64 m) := fun w' hk => hk.cell c0 (fun x => x)
  have e2 : ∀ w', Kp Non w.drew w' → w'.cell? ⟨g, 2, none⟩ = some (.slice A b.length c) := fun w' hk => hk.cell c2 (fun x => x)
  have hwr : IntKind.i64.wrap (m - (b.length : Int)) = m - (b.length : Int) := IntWalk.i64_in _ (by omega)
  have hno : decide (m - (b.length : Int) < (l.length : Int)) = true := by simp; omega
  go_enter Try.func44, Try.ntmps44
  go_wp2
  refine wp_region_seq [(0, true), (1, true), (2, true), (3, true), (4, true), (5, true), (6, true), (7, true), (8, true), (9, true), (10, true), (11, true), (12, true)] 13 Non wide (by kernel_rfl) (fun _ _ _ _ _ h => h) ?_; (try simp only [List.append_eq, List.cons_append, List.nil_append])
  repeat (refine seq_still (v := ?_) rfl rfl (fun wq hq => ?_) ?_; rotate_left; (focus ((simp only [List.getElem_toArray, List.getElem_cons_zero, List.getElem_cons_succ]; go_simp; try with_reducible rfl); done)); simp only [List.getElem_toArray, List.getElem_cons_zero, List.getElem_cons_succ, Act.put, List.setIfInBounds_toArray, List.set_cons_zero, List.set_cons_succ])
  refine seq_nil ?_
  clear e0 e2 hwr hno
  go_wp2
  go_ret
  exact ⟨rfl, (Kp.refl _ _).drew⟩

theorem rtake_calls (g : Nat) (r : Option Nat) (b : List UInt8) (a : Nat) (m : Int) (n : Int) (w : World) (h : RQue w g r b a m) (hb : b.length ≤ 140737488355328) :
    Calls Try.prog 47 #[.pointer (some ⟨g, 0, none⟩), .int .i64 n] w fun e w' => ∃ v1 r1, e = .returned v1 ∧ RQue w' g r b (a + tk b a n) m ∧
      Own w' 5 1 v1 r1 (tk b a n) (byv ((b.drop a).take (tk b a n))) ∧ (∀ k, r1 = some k → w.heap.size ≤ k) ∧ Kp (One g) w w' := by
  have hne := hid h.row_ne
  obtain ⟨k1, k2⟩ := tk_le b a n h.at_le
  obtain ⟨u, h1, h2, h3, h4, h5⟩ := h
  obtain ⟨A, c, rfl, hc1, hc2⟩ := h2.form
  have c1 := h1.cell 1
  have c2 := h1.cell 2
  simp at c1 c2
  have e1 : ∀ w', Kp Non w.drew w' → w'.cell? ⟨g, 1, none⟩ = some (.int .i64 a) := fun w' hk => hk.cell c1 (fun x => x)
  have e2 : ∀ w', Kp Non w.drew w' → w'.cell? ⟨g, 2, none⟩ = some (.slice A b.length c) := fun w' hk => hk.cell c2 (fun x => x)
  have hwr : IntKind.i64.wrap ((b.length : Int) - a) = (b.length : Int) - a := IntWalk.i64_in _ (by omega)
  generalize tk b a n = t at k1 k2 ⊢
  go_enter Try.func47, Try.ntmps47
  go_wp2
  refine wp_region_seq [(0, true), (1, true), (2, true), (3, true), (4, true), (5, true), (6, true), (7, true), (8, true), (9, true), (10, true), (11, true), (12, true), (13, true)] 14 Non wide (by kernel_rfl) (fun _ _ _ _ _ h => h) ?_; (try simp only [List.append_eq, List.cons_append, List.nil_append])
  repeat (refine seq_still (v := ?_) rfl rfl (fun wq hq => ?_) ?_; rotate_left; (focus ((simp only [List.getElem_toArray, List.getElem_cons_zero, List.getElem_cons_succ]; go_simp; try with_reducible rfl); done)); simp only [List.getElem_toArray, List.getElem_cons_zero, List.getElem_cons_succ, Act.put, List.setIfInBounds_toArray, List.set_cons_zero, List.set_cons_succ])
  refine seq_nil ?_
  rw [← k2]
  clear e1 e2 hwr k2
  have hd := (Kp.refl Non w).drew
  generalize w.drew = wd at hd ⊢
  have hd2 : Kp Non wd wd.drew := (Kp.refl Non wd).drew
  have e1 : ∀ w', Kp Non wd.drew w' → w'.cell? ⟨g, 1, none⟩ = some (.int .i64 a) := fun w' hk => ((hd.seq hd2).seq hk).cell c1 (fun x => x)
  have e2 : ∀ w', Kp Non wd.drew w' → w'.cell? ⟨g, 2, none⟩ = some (.slice A b.length c) := fun w' hk => ((hd.seq hd2).seq hk).cell c2 (fun x => x)
  have hwr : IntKind.i64.wrap ((a : Int) + t) = (a : Int) + t := IntWalk.i64_in _ (by omega)
  obtain ⟨V, hV, hVr⟩ := ((h2.keep (hd.seq hd2)).rd).slice_lh Try.underlying26 size8 (a : Int) ((a : Int) + t) a (a + t) rfl (by simp) (by omega) (by rw [byv_length]; omega)
  rw [byv_take, byv_drop, List.drop_take, show a + t - a = t by omega] at hVr
  have hl : ((b.drop a).take t).length = t := by simp; omega
  go_wp2
  refine wp_region_seq [(1, true), (2, true), (3, true), (4, true), (5, true), (6, true), (7, true), (8, true), (9, true), (10, true), (11, true), (12, true), (13, true), (14, true), (15, true), (0, false), (16, false), (17, true)] 18 Non wide (by kernel_rfl) (fun _ _ _ _ _ h => h) ?_; (try simp only [List.append_eq, List.cons_append, List.nil_append])
  repeat (refine seq_still (v := ?_) rfl rfl (fun wq hq => ?_) ?_; rotate_left; (focus ((simp only [List.getElem_toArray, List.getElem_cons_zero, List.getElem_cons_succ]; go_simp; try with_reducible rfl); done)); simp only [List.getElem_toArray, List.getElem_cons_zero, List.getElem_cons_succ, Act.put, List.setIfInBounds_toArray, List.set_cons_zero, List.set_cons_succ])
  refine seq_step rfl rfl (fun K hK => ?_); simp only [List.getElem_toArray, List.getElem_cons_zero, List.getElem_cons_succ]; go_simp
  refine hK.out _ _ ((Kp.refl Non _).alloc _) ?_; clear hK; (try simp only [Act.put, List.setIfInBounds_toArray, List.set_cons_zero, List.set_cons_succ])
  refine seq_step rfl rfl (fun K hK => ?_); simp only [List.getElem_toArray, List.getElem_cons_zero, List.getElem_cons_succ]
  refine wp_append_any _ _ _ _ rfl 5 (.int .u8 0) 1 1 Try.underlying26 info8 rfl _ none 0 [] rfl (Own.nil _ _ _ _) V t (byv ((b.drop a).take t)) rfl ?hs (by omega) (by omega) ?_
  case hs => have := (hVr.keep ((Kp.refl Non _).alloc (.cells #[] 5))).src Try.underlying26 (byv_one _); rw [byv_length, hl] at this; exact this
  intro v1 r1 w1 o1 k3 n1
  have o1' : Own w1 5 1 v1 r1 t (byv ((b.drop a).take t)) := by simpa using o1
  refine hK.out _ _ ((k3.mono (fun _ h => by cases h))) ?_; clear hK; (try simp only [Act.put, List.setIfInBounds_toArray, List.set_cons_zero, List.set_cons_succ])
  repeat (refine seq_still (v := ?_) rfl rfl (fun wq hq => ?_) ?_; rotate_left; (focus ((simp only [List.getElem_toArray, List.getElem_cons_zero, List.getElem_cons_succ]; go_simp; try with_reducible rfl); done)); simp only [List.getElem_toArray, List.getElem_cons_zero, List.getElem_cons_succ, Act.put, List.setIfInBounds_toArray, List.set_cons_zero, List.set_cons_succ])
  refine seq_nil ?_
  have K1 : Kp Non w w1 := ((hd.seq hd2).alloc (.cells #[] 5)).trans k3 (fun _ h => by cases h)
  have hr1 : ∀ i, r1 = some i → w.heap.size ≤ i := fun i hi => by
    rcases n1 i hi with h | h
    · cases h
    · have := hd.size; simp at h; omega
  clear hV hVr e1 e2 o1 k3 n1 hwr
  have hg1 : Blk w1 g _ _ := h1.keep K1
  have c3 := hg1.cell 1
  have f3 := hg1.frozen 1
  simp at c3
  go_wp2
  go_ret
  have hgl := h1.lt
  refine ⟨v1, r1, rfl, ⟨_, ?_, h2.kp (S := One g) ((K1.any).setOne 1 _) (fun i hi hj => hne.out (by rw [hi]; congr 1)), k1, h4, h5⟩, o1'.kp ((Kp.refl (One g) w1).setOne 1 _) (fun i hi hj => by have := hr1 i hi; have : i = g := hj; omega), hr1, (K1.any).setOne 1 _⟩
  have := hg1.set 1 (.int .i64 ((a : Int) + t))
  simpa using this

theorem rtaken_calls (g : Nat) (r : Option Nat) (b : List UInt8) (a : Nat) (m : Int) (w : World) (h : RQue w g r b a m) (hb : b.length ≤ 140737488355328) :
    Calls Try.prog 48 #[.pointer (some ⟨g, 0, none⟩)] w fun e w' => ∃ v1 r1, e = .returned v1 ∧
      Own w' 5 1 v1 r1 a (byv (b.take a)) ∧ (∀ k, r1 = some k → w.heap.size ≤ k) ∧ Kp Non w w' := by
  obtain ⟨u, h1, h2, h3, h4, h5⟩ := h
  obtain ⟨A, c, rfl, hc1, hc2⟩ := h2.form
  have c1 := h1.cell 1
  have c2 := h1.cell 2
  simp at c1 c2
  have hd := (Kp.refl Non w).drew
  have e1 : ∀ w', Kp Non w.drew w' → w'.cell? ⟨g, 1, none⟩ = some (.int .i64 a) := fun w' hk => hk.cell c1 (fun x => x)
  have e2 : ∀ w', Kp Non w.drew w' → w'.cell? ⟨g, 2, none⟩ = some (.slice A b.length c) := fun w' hk => hk.cell c2 (fun x => x)
  obtain ⟨V, hV, hVr⟩ := ((h2.keep hd).rd).slice_h Try.underlying26 size8 (a : Int) a rfl (by rw [byv_length]; omega)
  rw [byv_take] at hVr
  have hl : (b.take a).length = a := by simp; omega
  go_enter Try.func48, Try.ntmps48
  go_wp2
  refine wp_region_seq [(1, true), (2, true), (3, true), (4, true), (5, true), (6, true), (7, true), (8, true), (9, true), (0, false), (10, false), (11, true)] 12 Non wide (by kernel_rfl) (fun _ _ _ _ _ h => h) ?_; (try simp only [List.append_eq, List.cons_append, List.nil_append])
  repeat (refine seq_still (v := ?_) rfl rfl (fun wq hq => ?_) ?_; rotate_left; (focus ((simp only [List.getElem_toArray, List.getElem_cons_zero, List.getElem_cons_succ]; go_simp; try with_reducible rfl); done)); simp only [List.getElem_toArray, List.getElem_cons_zero, List.getElem_cons_succ, Act.put, List.setIfInBounds_toArray, List.set_cons_zero, List.set_cons_succ])
  refine seq_step rfl rfl (fun K hK => ?_); simp only [List.getElem_toArray, List.getElem_cons_zero, List.getElem_cons_succ]; go_simp
  refine hK.out _ _ ((Kp.refl Non _).alloc _) ?_; clear hK; (try simp only [Act.put, List.setIfInBounds_toArray, List.set_cons_zero, List.set_cons_succ])
  refine seq_step rfl rfl (fun K hK => ?_); simp only [List.getElem_toArray, List.getElem_cons_zero, List.getElem_cons_succ]
  refine wp_append_any _ _ _ _ rfl 5 (.int .u8 0) 1 1 Try.underlying26 info8 rfl _ none 0 [] rfl (Own.nil _ _ _ _) V a (byv (b.take a)) rfl ?hs (by omega) (by omega) ?_
  case hs => have := (hVr.keep ((Kp.refl Non _).alloc (.cells #[] 5))).src Try.underlying26 (byv_one _); rw [byv_length, hl] at this; exact this
  intro v1 r1 w1 o1 k3 n1
  have o1' : Own w1 5 1 v1 r1 a (byv (b.take a)) := by simpa using o1
  refine hK.out _ _ ((k3.mono (fun _ h => by cases h))) ?_; clear hK; (try simp only [Act.put, List.setIfInBounds_toArray, List.set_cons_zero, List.set_cons_succ])
  repeat (refine seq_still (v := ?_) rfl rfl (fun wq hq => ?_) ?_; rotate_left; (focus ((simp only [List.getElem_toArray, List.getElem_cons_zero, List.getElem_cons_succ]; go_simp; try with_reducible rfl); done)); simp only [List.getElem_toArray, List.getElem_cons_zero, List.getElem_cons_succ, Act.put, List.setIfInBounds_toArray, List.set_cons_zero, List.set_cons_succ])
  refine seq_nil ?_
  go_wp2
  go_ret
  refine ⟨v1, r1, rfl, o1', fun i hi => ?_, (hd.alloc (.cells #[] 5)).trans k3 (fun _ h => by cases h)⟩
  rcases n1 i hi with h | h
  · cases h
  · simp at h; omega

end Go.Proofs.Ytpbkipolgdldfaa

/- A line that a body is given: the given body's and the document's. -/
import Derived.Test.YtghfngnakoccbaaDoorStuff1
namespace Go.Proofs.YtghfngnakoccbaaDoor
open Go.RowKit
set_option linter.unusedSimpArgs false
set_option linter.unusedVariables false
attribute [local go_sem] max2_of min2_of max_of min_of
attribute [local go_sem] strOf_size strOf_list

/-- What a line is in a body. -/
def lineF (s : List UInt8) : List UInt8 := trimF s ++ [13, 10]
theorem lineF_length (s : List UInt8) : (lineF s).length = (trimF s).length + 2 := by simp [lineF]
theorem trimF_le (s : List UInt8) : (trimF s).length ≤ s.length := by
  unfold trimF
  split
  · simp
  · omega
theorem strOf_crlf (s : List UInt8) : strOf (trimF s) ++ { data := #[13, 10] } = strOf (lineF s) := strOf_append (trimF s) [13, 10]
theorem dot_eq (s : List UInt8) : (s == [46]) = decide (s = [46]) := by
  by_cases h : s = [46]
  · rw [h]; rfl
  · rw [decide_eq_false h]; simpa using h

theorem bline_end (g : Nat) (s : List UInt8) (w : World) (hs : s = [46]) :
    Calls Tryd.prog 10 #[.pointer (some ⟨g, 0, none⟩), .string (strOf s)] w fun e w' => e = .returned (.tuple #[.bool true, .int .i64 0]) ∧ Kp Non w w' := by
  have h1 : (s == [46]) = true := by rw [hs]; rfl
  clear hs
  go_enter Tryd.func10, Tryd.ntmps10
  go_wp2
  go_ret2
  exact ⟨rfl, Kp.refl _ _⟩

theorem bline_full (g : Nat) (r : Option Nat) (b : List UInt8) (n : Nat) (m : Int) (s : List UInt8) (w : World) (h : Bod w g r b n m 46) (hs : s ≠ [46]) (hl : s.length ≤ 140737488355328) (hb : b.length ≤ 140737488355328) (hm : ¬ ((lineF s).length : Int) ≤ m - b.length) :
    Calls Tryd.prog 10 #[.pointer (some ⟨g, 0, none⟩), .string (strOf s)] w fun e w' => e = .returned (.tuple #[.bool false, .int .i64 72]) ∧ Kp Non w w' := by
  have h1 : (s == [46]) = false := by simpa using hs
  clear hs
  obtain ⟨u, h1, h2, h3, h4⟩ := h
  obtain ⟨A, c, rfl, hc1, hc2⟩ := h2.form
  clear h2
  have c0 := h1.cell 0
  have c2 := h1.cell 2
  simp at c0 c2
  have ht := trimF_le s
  have hll := lineF_length s
  have hcat : ¬ (9223372036854775807 < (trimF s).length + 2) := by omega
  have hcr := strOf_crlf s
  have e0 : ∀ w', Kp Non w.drew w' → w'.cell? ⟨g, 0, none⟩ = some (.slice A b.length c) := fun w' hk => hk.cell c0 (fun x => x)
  have e2 : ∀ w', Kp Non w.drew w' → w'.cell? ⟨g, 2, none⟩ = some (.int .i64 m) := fun w' hk => hk.cell c2 (fun x => x)
  have hwr : IntKind.i64.wrap (m - (b.length : Int)) = m - (b.length : Int) := IntWalk.i64_in _ (by omega)
  have hno : decide (m - (b.length : Int) < ((lineF s).length : Int)) = true := by simp; omega
  clear hll
  go_enter Tryd.func10, Tryd.ntmps10
  go_wp2_with fail
  refine (trim_calls s _).mono ?_
  rintro e w1 ⟨rfl, rfl⟩
  go_wp2
  refine wp_region_seq [(0, true), (1, true), (2, true), (3, true), (4, true), (5, true), (6, true), (7, true), (8, true), (9, true), (10, true), (11, true), (12, true)] 13 Non wide (by kernel_rfl) (fun _ _ _ _ _ h => h) ?_; (try simp only [List.append_eq, List.cons_append, List.nil_append])
  repeat (refine seq_still (v := ?_) rfl rfl (fun wq hq => ?_) ?_; rotate_left; (focus ((simp only [List.getElem_toArray, List.getElem_cons_zero, List.getElem_cons_succ]; go_simp; try with_reducible rfl); done)); simp only [List.getElem_toArray, List.getElem_cons_zero, List.getElem_cons_succ, Act.put, List.setIfInBounds_toArray, List.set_cons_zero, List.set_cons_succ])
  refine seq_nil ?_
  clear e0 e2 hwr hno
  go_wp2
  go_ret2
  exact ⟨rfl, (Kp.refl _ _).drew⟩

theorem bline_ok (g : Nat) (r : Option Nat) (b : List UInt8) (n : Nat) (m : Int) (s : List UInt8) (w : World) (h : Bod w g r b n m 46) (hs : s ≠ [46]) (hl : s.length ≤ 70368744177000) (hb : b.length ≤ 70368744177000) (hn : n ≤ 70368744177000) (hm : ((lineF s).length : Int) ≤ m - b.length) :
    Calls Tryd.prog 10 #[.pointer (some ⟨g, 0, none⟩), .string (strOf s)] w fun e w' => ∃ r', e = .returned (.tuple #[.bool false, .int .i64 0]) ∧ Bod w' g r' (b ++ lineF s) (n + 1) m 46 ∧ New w r r' ∧ Kp (Two g r) w w' := by
  have hs1 : (s == [46]) = false := by simpa using hs
  have hne := h.row_ne (by decide)
  clear hs
  obtain ⟨u, h1, h2, h3, h4⟩ := h
  obtain ⟨A, c, rfl, hc1, hc2⟩ := h2.form
  have H2 := hid h2
  have HNE := hid hne
  clear h2 hne
  have c0 := h1.cell 0
  have c1 := h1.cell 1
  have c2 := h1.cell 2
  have f0 := h1.frozen 0
  simp at c0 c1 c2
  have ht := trimF_le s
  have hll := lineF_length s
  have hcat : ¬ (9223372036854775807 < (trimF s).length + 2) := by omega
  have hcr := strOf_crlf s
  have e0 : ∀ w', Kp Non w.drew w' → w'.cell? ⟨g, 0, none⟩ = some (.slice A b.length c) := fun w' hk => hk.cell c0 (fun x => x)
  have e2 : ∀ w', Kp Non w.drew w' → w'.cell? ⟨g, 2, none⟩ = some (.int .i64 m) := fun w' hk => hk.cell c2 (fun x => x)
  have hwr : IntKind.i64.wrap (m - (b.length : Int)) = m - (b.length : Int) := IntWalk.i64_in _ (by omega)
  have hno : decide (m - (b.length : Int) < ((lineF s).length : Int)) = false := by simp; omega
  have hwn : IntKind.i64.wrap ((n : Int) + 1) = (n : Int) + 1 := IntWalk.i64_in _ (by omega)
  have hlb : b.length + (lineF s).length ≤ 140737488355328 := by omega
  clear hll
  go_enter Tryd.func10, Tryd.ntmps10
  go_wp2_with fail
  refine (trim_calls s _).mono ?_
  rintro e w1 ⟨rfl, rfl⟩
  go_wp2
  refine wp_region_seq [(0, true), (1, true), (2, true), (3, true), (4, true), (5, true), (6, true), (7, true), (8, true), (9, true), (10, true), (11, true), (12, true)] 13 Non wide (by kernel_rfl) (fun _ _ _ _ _ h => h) ?_; (try simp only [List.append_eq, List.cons_append, List.nil_append])
  repeat (refine seq_still (v := ?_) rfl rfl (fun wq hq => ?_) ?_; rotate_left; (focus ((simp only [List.getElem_toArray, List.getElem_cons_zero, List.getElem_cons_succ]; go_simp; try with_reducible rfl); done)); simp only [List.getElem_toArray, List.getElem_cons_zero, List.getElem_cons_succ, Act.put, List.setIfInBounds_toArray, List.set_cons_zero, List.set_cons_succ])
  refine seq_nil ?_
  clear e0 e2 hwr hno hcr
  have hsrc := hid (Src.ofString (P := Tryd.prog) w1.drew Tryd.underlying9 (strOf (lineF s)))
  go_wp2_with (at_builtin; go_must (refine wpList_append_any rfl _ _ _ _ rfl 5 (.int .u8 0) 1 1 Tryd.underlying29 info8 rfl _ r b.length (byv b) rfl ?ho _ (lineF s).length (byv (lineF s)) rfl ?hs (by omega) (by omega) ?_))
  case ho => exact H2.out.keep ((Kp.refl Non w1).drew)
  case hs => exact hsrc.out
  intro v1 r1 w2 hown hk hnew
  have hg2 : Blk w2 g _ _ := (h1.drew).kp hk HNE.out
  have c3 := hg2.cell 0
  have c4 := hg2.cell 1
  have f3 := hg2.frozen 0
  have f4 := hg2.frozen 1
  simp at c3 c4
  obtain ⟨A1, d1, rfl, hd3, hd4⟩ := hown.form
  clear hsrc
  go_wp2_with fail
  go_ret2
  refine ⟨r1, rfl, ⟨_, (hg2.set 0 _).set 1 _, ?_, h3, h4⟩, hnew, ?_⟩
  · rw [byv_append, List.length_append]
    exact hown.kp (((Kp.refl (One g) w2).setOne 0 _).setOne 1 _) (fun i hi hig => (hnew.lt_ne (g := g) h1.lt HNE.out) (by rw [hi]; congr 1))
  · exact ((((Kp.refl (Two g r) w1).drew).trans hk (fun i hi => .inl (.inr hi))).setCell (p := ⟨g, 0, none⟩) (.inl (.inl rfl)) _).setCell (p := ⟨g, 1, none⟩) (.inl (.inl rfl)) _

end Go.Proofs.YtghfngnakoccbaaDoor

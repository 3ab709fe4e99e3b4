/- The contracts of the pipe's reference: what each answers and what it leaves of memory. -/
import Derived.Test.YtpldhdomanikiaaWPPairs
import Derived.Test.YtpldhdomanikiaaFork
namespace Go.Proofs.Ytpldhdomanikiaa
open Go.RowKit
set_option linter.unusedSimpArgs false
set_option linter.unusedVariables false
attribute [local go_sem] max2_of min2_of max_of min_of

theorem Own.srcN {P : Program} {w : World} {e size n : Nat} {v : Value} {r : Option Nat} {l : List Value} {tx e' : TypeId} (h : Own w e size v r n l) (hk : P.underlying tx = some (.slice e')) (h1 : ∀ u ∈ l, u.oneCell' = true) : Src P size tx v n l w := by
  obtain ⟨h0, h⟩ := h
  rcases h with ⟨rfl, rfl, a, rfl⟩ | ⟨g, cap, cur, rfl, rfl, hb, h2, h3, h4, h5⟩
  · obtain rfl : l = [] := List.eq_nil_of_length_eq_zero (by omega)
    rcases a with _ | a
    · exact Src.ofNil w hk 0
    · exact Src.ofSlice w hk a 0 0 [] (by simp) (by simp) (by simp)
  · refine Src.ofSlice w hk _ n cap l h0 (fun j u hu => ?_) h1
    rw [addr_add, hb.cell]
    rw [← h5, List.getElem?_take] at hu
    split at hu
    · simpa using hu
    · cases hu

theorem Own.tail4 {P : Program} {w : World} {e n : Nat} {v : Value} {r : Option Nat} {l : List Value} {tx e' : TypeId} (h : Own w e 4 v r n l) (hk : P.underlying tx = some (.slice e')) (hi : (P.info? e').map (·.size) = some 4) (h1 : ∀ u ∈ l, u.oneCell' = true) (hn : 1 ≤ n) :
    ∃ V, (∀ w', (Instr.slice tx v (some (.int .i64 1)) none none).run P w' = .ok V w') ∧ (∀ w', Kp Non w w' → Src P 4 tx V (n - 1) (l.drop 4) w') := by
  obtain ⟨h0, h⟩ := h
  obtain ⟨i, hi1, hi2⟩ := Option.map_eq_some_iff.1 hi
  rcases h with ⟨rfl, rfl, a, rfl⟩ | ⟨g, cap, cur, rfl, rfl, hb, h2, h3, h4, h5⟩
  · omega
  · refine ⟨.slice (if cap = 1 then some ⟨g, 0, none⟩ else some ⟨g, 4, none⟩) (n - 1) (cap - 1), fun w' => ?_, fun w' k => ?_⟩
    · have key : ∀ lo : Nat, lo ≤ n → (Instr.slice tx (.slice (some ⟨g, 0, none⟩) n cap) (some (.int .i64 (lo : Int))) none none).run P w' =
          .ok (.slice (if cap = lo then some ⟨g, 0, none⟩ else some ⟨g, lo * 4, none⟩) (n - lo) (cap - lo)) w' := by
        intro lo hlo
        simp [Instr.slice, run_underlying hk, Instr.sliceBounds, run_sliceBound, sizeOf, typeInfo, hi1, hi2, hlo, h2]
        simp [addr_add]
      exact key 1 hn
    · have hl : (l.drop 4).length = (n - 1) * 4 := by rw [List.length_drop]; omega
      by_cases hc : cap = 1
      · obtain rfl : n = 1 := by omega
        have : l.drop 4 = [] := List.eq_nil_of_length_eq_zero (by omega)
        rw [if_pos hc, this]
        exact Src.ofSlice w' hk _ 0 _ [] (by simp) (by simp) (by simp)
      · rw [if_neg hc]
        refine Src.ofSlice w' hk _ _ _ _ hl (fun j u hu => ?_) (fun u hu => h1 u (List.mem_of_mem_drop hu))
        rw [addr_add, (hb.keep k).cell]
        rw [List.getElem?_drop, ← h5, List.getElem?_take] at hu
        split at hu
        · simpa using hu
        · cases hu

def RPip (w : World) (g : Nat) (r : Option Nat) (l : List Wn) : Prop :=
  ∃ v, Blk w g #[v] 46 ∧ Own w 28 4 v r l.length (wcells l) ∧ l.length ≤ 8
section
variable {w w' : World} {g : Nat} {r : Option Nat} {l : List Wn} {S : Nat → Prop}
theorem RPip.kp (h : RPip w g r l) (k : Kp S w w') (hg : ¬ S g) (hr : ∀ i, r = some i → ¬ S i) : RPip w' g r l := by
  obtain ⟨v, h1, h2, h3⟩ := h
  exact ⟨v, h1.kp k hg, h2.kp k hr, h3⟩
theorem RPip.keep (h : RPip w g r l) (k : Kp Non w w') : RPip w' g r l := h.kp k (fun x => x) (fun _ _ x => x)
theorem RPip.lt (h : RPip w g r l) : g < w.heap.size := by
  obtain ⟨v, h1, _⟩ := h
  exact h1.lt
end

theorem rhead_calls (g : Nat) (r : Option Nat) (l : List Wn) (w : World) (h : RPip w g r l) :
    Calls Try.prog 17 #[.pointer (some ⟨g, 0, none⟩)] w fun e w' => e = .returned (.tuple #[(l.headD Wn.no).val, .bool (decide (l ≠ []))]) ∧ Kp Non w w' := by
  obtain ⟨v, h1, h2, h3⟩ := h
  obtain ⟨A, c, rfl, hc1, hc2, hget⟩ := h2.wn
  have hA := (Kp.refl Non w).alloc (.cells #[.string ⟨#[]⟩, .string ⟨#[]⟩, .bool false, .int .i64 0] 28)
  have c0 := (h1.keep hA).cell 0
  simp at c0
  have HG := hid hget
  clear hget h2
  cases l with
  | nil =>
    simp only [List.length_nil] at c0
    go_enter Try.func17, Try.ntmps17
    go_wp2
    exact bodyPost_ret (v := .tuple #[Wn.no.val, .bool false]) (by simp [results, Try.results17, go_sem, Wn.no, Wn.val]) rfl ⟨rfl, hA⟩
  | cons x l =>
    obtain ⟨gr, rfl, hr, hx⟩ := HG.out 0 x rfl
    obtain ⟨x0, x1, x2, x3⟩ := hx.keep hA
    simp only [Nat.zero_mul, Nat.zero_add] at x0 x1 x2 x3
    simp only [List.length_cons] at c0
    have hne : (((l.length + 1 : Nat) : Int) == 0) = false := by simp; omega
    have hpos : (0 : Int) < ((l.length + 1 : Nat) : Int) := by omega
    go_enter Try.func17, Try.ntmps17
    go_wp2
    have hB : WnBlk _ w.heap.size x := Blk.new w #[.string x.t, .string x.c, .bool x.b, .int .i64 x.d] 28
    obtain ⟨y0, y1, y2, y3⟩ := hB.at
    simp only [Nat.zero_add] at y1 y2 y3
    have hK := (Kp.refl Non w).alloc (.cells #[.string x.t, .string x.c, .bool x.b, .int .i64 x.d] 28)
    generalize w.alloc (.cells #[.string x.t, .string x.c, .bool x.b, .int .i64 x.d] 28) = w2 at hK y0 y1 y2 y3 ⊢
    exact bodyPost_ret (v := .tuple #[x.val, .bool true]) (by simp [results, Try.results17, go_sem, y0, y1, y2, y3, Wn.val]) rfl ⟨by simp, hK⟩

/-! ### Due, Window -/
def RDueInv (w : World) (l : List Wn) (d i : Value) (wr : World) : Prop :=
  ∃ k : Nat, i = .int .i64 k ∧ k ≤ l.length ∧ d = .int .i64 (dueF (l.take k)) ∧ Kp Non w wr
theorem rdue_calls (g : Nat) (r : Option Nat) (l : List Wn) (w : World) (h : RPip w g r l) :
    Calls Try.prog 18 #[.pointer (some ⟨g, 0, none⟩)] w fun e w' => e = .returned (.int .i64 (dueF l)) ∧ Kp Non w w' := by
  obtain ⟨v, h1, h2, h3⟩ := h
  obtain ⟨A, c, rfl, hc1, hc2, hget⟩ := h2.wn
  have c0 := h1.cell 0
  simp at c0
  have HG := hid hget
  clear hget h2
  go_enter Try.func18, Try.ntmps18
  go_wp2_with fail
  go_loopw [3, 4] (fun d i wr => RDueInv w l d i wr) (fun _ i _ => 41 - (intOf i).toNat)
  case atStart => exact ⟨0, rfl, by omega, by simp [dueF], Kp.refl _ _⟩
  case round =>
    obtain ⟨k, rfl, hk, rfl, K⟩ := hrel
    have ck := K.cell c0 (fun x => x)
    by_cases hlt : k < l.length
    · obtain ⟨gr, rfl, hr, hx⟩ := HG.out k l[k] (List.getElem?_eq_getElem hlt)
      obtain ⟨_, _, _, a3⟩ := hx.keep K
      have hd := dueF_take l k hlt
      generalize l[k] = x at a3 hd
      generalize dueF (l.take k) = d0 at hd ⊢
      go_wp2_with fail
      go_roundw
      case rel => exact ⟨k + 1, by go_num, by omega, by rw [hd], K⟩
      case measure => simp [intOf]; omega
    · have : k = l.length := by omega
      subst this
      rw [List.take_length]
      go_wp2_with fail
      go_ret
      exact ⟨rfl, K⟩

theorem rwindow_calls (p a : Int) (b : Bool) (w : World) :
    Calls Try.prog 19 #[.int .i64 p, .int .i64 a, .bool b] w fun e w' => e = .returned (.int .i64 (winF p a b)) ∧ Kp Non w w' := by
  by_cases hp : p = 3
  · subst hp
    go_enter Try.func19, Try.ntmps19
    go_wp2
    go_ret
    exact ⟨by simp [winF], Kp.refl _ _⟩
  · have hp' : (p == 3) = false := by simpa using hp
    cases b
    all_goals
      go_enter Try.func19, Try.ntmps19
      go_wp2
      go_ret
      exact ⟨by simp [winF, hp], Kp.refl _ _⟩

/-! ### Push -/
theorem rpush_calls (g : Nat) (r : Option Nat) (l : List Wn) (x : Wn) (w : World) (h : RPip w g r l) :
    Calls Try.prog 14 #[.pointer (some ⟨g, 0, none⟩), x.val] w fun e w' => ∃ r', e = .returned (.bool (decide (l.length < 8))) ∧ RPip w' g r' (pushF l x) ∧ New w r r' ∧ Kp (One g) w w' := by
  have h0 := h
  obtain ⟨v, h1, h2, h3⟩ := h
  obtain ⟨A, c, rfl, hc1, hc2, _⟩ := h2.wn
  unfold Wn.val
  have hA := (Kp.refl Non w).alloc (.cells #[.string x.t, .string x.c, .bool x.b, .int .i64 x.d] 28)
  have hB : WnBlk _ w.heap.size x := Blk.new w #[.string x.t, .string x.c, .bool x.b, .int .i64 x.d] 28
  have h1A := h1.keep hA
  have h2A := h2.keep hA
  have hgl := h1.lt
  have hs := hA.size
  have hne := h2.ne_blk h1 (by decide)
  have hrl := h2.lt
  by_cases hl : l.length < 8
  · rw [show pushF l x = l ++ [x] by simp [pushF, hl], decide_eq_true hl]
    have c0 := h1A.cell 0
    simp at c0
    obtain ⟨b0, b1, b2, b3⟩ := hB.at
    simp only [Nat.zero_add] at b1 b2 b3
    have hge : decide ((8 : Int) ≤ (l.length : Int)) = false := by simp; omega
    go_enter Try.func14, Try.ntmps14
    go_wp2
    generalize w.alloc (.cells #[.string x.t, .string x.c, .bool x.b, .int .i64 x.d] 28) = wa at hA hB h1A h2A hs c0 b0 b1 b2 b3 ⊢
    have hd := (Kp.refl Non wa).drew
    have hS := Kp.refl (fun k => wa.heap.size ≤ k) wa.drew
    have hNr : ∀ i, r = some i → ¬ wa.heap.size ≤ i := fun i hi => by have := hrl i hi; omega
    have hNg : ¬ wa.heap.size ≤ g := by omega
    have hbl := hB.lt
    have hNb : ¬ wa.heap.size ≤ w.heap.size := by omega
    have e0 : ∀ w', Kp (fun k => wa.heap.size ≤ k) wa.drew w' → w'.cell? ⟨g, 0, none⟩ = some (.slice A l.length c) := fun w' hk => hk.cell (hd.cell c0 (fun x => x)) hNg
    have q0 : ∀ w', Kp (fun k => wa.heap.size ≤ k) wa.drew w' → w'.cell? ⟨w.heap.size, 0, none⟩ = some (.string x.t) := fun w' hk => hk.cell (hd.cell b0 (fun x => x)) hNb
    have q1 : ∀ w', Kp (fun k => wa.heap.size ≤ k) wa.drew w' → w'.cell? ⟨w.heap.size, 1, none⟩ = some (.string x.c) := fun w' hk => hk.cell (hd.cell b1 (fun x => x)) hNb
    have q2 : ∀ w', Kp (fun k => wa.heap.size ≤ k) wa.drew w' → w'.cell? ⟨w.heap.size, 2, none⟩ = some (.bool x.b) := fun w' hk => hk.cell (hd.cell b2 (fun x => x)) hNb
    have q3 : ∀ w', Kp (fun k => wa.heap.size ≤ k) wa.drew w' → w'.cell? ⟨w.heap.size, 3, none⟩ = some (.int .i64 x.d) := fun w' hk => hk.cell (hd.cell b3 (fun x => x)) hNb
    refine wp_region_tr (.still 0 <| .still 2 <| .still 3 <| .still 4 <| .still 5 <| .still 7 <| .fork 1 (.fork 6 (.step 8 <| .step 9 <| .still 10 <| .still 11 <| .step 12 .nil) 8 (.step 6 <| .step 9 <| .still 10 <| .still 11 <| .step 12 .nil)) 8 (.step 1 <| .step 6 <| .step 9 <| .still 10 <| .still 11 <| .step 12 .nil)) 12 (fun k => wa.heap.size ≤ k) wide (by kernel_rfl) (fun _ _ _ _ _ h => h) ?_
    generalize wa.drew = wd at hd hS e0 q0 q1 q2 q3 ⊢
    repeat (refine tr_still (v := ?_) rfl rfl (fun wq hq => ?_) ?_; rotate_left; (focus ((simp only [List.getElem_toArray, List.getElem_cons_zero, List.getElem_cons_succ]; go_simp; try with_reducible rfl); done)); simp only [List.getElem_toArray, List.getElem_cons_zero, List.getElem_cons_succ, Act.put, List.setIfInBounds_toArray, List.set_cons_zero, List.set_cons_succ])
    clear e0 q0 q1 q2 q3 b0 b1 b2 b3 c0
    refine tr_fork rfl rfl rfl rfl (fun K hK => ?_) (fun K hK => ?_)
    · have K1 := hS.alloc (.cells #[] 28)
      simp only [List.getElem_toArray, List.getElem_cons_zero, List.getElem_cons_succ]; go_simp
      refine hK.out _ _ (((Kp.refl _ _).alloc _)) ?_; clear hK; (try simp only [Act.put, List.setIfInBounds_toArray, List.set_cons_zero, List.set_cons_succ])
      generalize World.alloc wd (.cells #[] 28) = w1 at K1 ⊢
      refine tr_fork rfl rfl rfl rfl (fun K hK => ?_) (fun K hK => ?_)
      · simp only [List.getElem_toArray, List.getElem_cons_zero, List.getElem_cons_succ]
        refine wp_append_any _ _ _ _ rfl 28 Wn.no.val 4 48 Try.underlying26 infoW rfl _ none 0 [] rfl (Own.nil _ _ _ _) _ l.length (wcells l) rfl ?hs (by omega) (by omega) ?_
        case hs => exact ((h2A.keep hd).kp K1 hNr).srcN Try.underlying26 (wcells_one _)
        intro v6 r6 w6 o6 k6 n6
        refine hK.out _ _ ((k6.mono (fun _ h => by cases h))) ?_; clear hK; (try simp only [Act.put, List.setIfInBounds_toArray, List.set_cons_zero, List.set_cons_succ])
        have K6 := K1.trans k6 (fun _ h => by cases h)
        have O6 : Own w6 28 4 v6 r6 l.length (wcells l) := by simpa using o6
        have hn6 : ∀ i, r6 = some i → wa.heap.size ≤ i := fun i hi => by
          rcases n6 i hi with h | h
          · cases h
          · have := K1.size; have := hd.size; omega
        clear o6 n6 k6
        have O6a := O6.keep ((Kp.refl Non w6).alloc (.cells #[.string x.t, .string x.c, .bool x.b, .int .i64 x.d] 28))
        have K8 := K6.alloc (.cells #[.string x.t, .string x.c, .bool x.b, .int .i64 x.d] 28)
        have B8 := Blk.new w6 #[.string x.t, .string x.c, .bool x.b, .int .i64 x.d] 28
        refine tr_step rfl rfl (fun K hK => ?_); simp only [List.getElem_toArray, List.getElem_cons_zero, List.getElem_cons_succ]; go_simp
        refine hK.out _ _ (((Kp.refl _ _).alloc _)) ?_; clear hK; (try simp only [Act.put, List.setIfInBounds_toArray, List.set_cons_zero, List.set_cons_succ])
        generalize World.alloc w6 (.cells #[.string x.t, .string x.c, .bool x.b, .int .i64 x.d] 28) = w8 at K8 B8 O6a ⊢
        refine tr_step rfl rfl (fun K hK => ?_); simp only [List.getElem_toArray, List.getElem_cons_zero, List.getElem_cons_succ]
        refine wp_append_any _ _ _ _ rfl 28 Wn.no.val 4 48 Try.underlying26 infoW rfl _ r6 l.length (wcells l) rfl O6a _ 1 (wcells [x]) rfl ?hs (by omega) (by omega) ?_
        case hs =>
          refine Src.ofSlice _ Try.underlying26 _ 1 _ (wcells [x]) rfl (fun i u hu => ?_) (wcells_one _)
          rw [addr_add, B8.cell]
          simpa [wcells] using hu
        intro v9 r9 w9 o9 k9 n9
        refine hK.out _ _ ((k9.mono hn6)) ?_; clear hK; (try simp only [Act.put, List.setIfInBounds_toArray, List.set_cons_zero, List.set_cons_succ])
        have K9 := K8.trans k9 (fun i hi => .inl (hn6 i hi))
        have hn9 : ∀ i, r9 = some i → wa.heap.size ≤ i := fun i hi => by
          rcases n9 i hi with h | h
          · exact hn6 i h
          · have := K8.size; have := hd.size; omega
        clear n9 k9
        obtain ⟨A9, c9, rfl, hc9, hcm9⟩ := o9.form
        have hg9 : Blk w9 g _ _ := (h1A.keep hd).kp K9 hNg
        have g0 := hg9.cell 0
        have f0 := hg9.frozen 0
        simp at g0
        repeat (refine tr_still (v := ?_) rfl rfl (fun wq hq => ?_) ?_; rotate_left; (focus ((simp only [List.getElem_toArray, List.getElem_cons_zero, List.getElem_cons_succ]; go_simp; try with_reducible rfl); done)); simp only [List.getElem_toArray, List.getElem_cons_zero, List.getElem_cons_succ, Act.put, List.setIfInBounds_toArray, List.set_cons_zero, List.set_cons_succ])
        refine tr_last rfl rfl (fun K hK => ?_); simp only [List.getElem_toArray, List.getElem_cons_zero, List.getElem_cons_succ]; go_simp
        refine hK.out _ _ ?_; clear hK; (try simp only [Act.put, List.setIfInBounds_toArray, List.set_cons_zero, List.set_cons_succ])
        refine tr_nil ?_
        go_wp2
        go_ret
        have KK : Kp (One g) w (w9.setCell ⟨g, 0, none⟩ (.slice A9 (l.length + 1) c9)) :=
          ((hA.seq hd).any.trans K9 (fun i hi => .inr (by have : wa.heap.size ≤ i := hi; omega))).setOne 0 _
        refine ⟨r9, rfl, ⟨_, hg9.set 0 _, ?_, by simp; omega⟩, fun i hi => .inr (by have := hn9 i hi; omega), KK⟩
        rw [wcells_append, List.length_append]
        exact o9.kp ((Kp.refl (One g) w9).setOne 0 _) (fun i hi hig => by have := hn9 i hi; have : i = g := hig; omega)
      · have K8 := K1.alloc (.cells #[.string x.t, .string x.c, .bool x.b, .int .i64 x.d] 28)
        have B8 := Blk.new w1 #[.string x.t, .string x.c, .bool x.b, .int .i64 x.d] 28
        simp only [List.getElem_toArray, List.getElem_cons_zero, List.getElem_cons_succ]; go_simp
        refine hK.out _ _ (((Kp.refl _ _).alloc _)) ?_; clear hK; (try simp only [Act.put, List.setIfInBounds_toArray, List.set_cons_zero, List.set_cons_succ])
        generalize World.alloc w1 (.cells #[.string x.t, .string x.c, .bool x.b, .int .i64 x.d] 28) = w8 at K8 B8 ⊢
        refine tr_step rfl rfl (fun K hK => ?_); simp only [List.getElem_toArray, List.getElem_cons_zero, List.getElem_cons_succ]
        refine wp_append_any _ _ _ _ rfl 28 Wn.no.val 4 48 Try.underlying26 infoW rfl _ none 0 [] rfl (Own.nil _ _ _ _) _ l.length (wcells l) rfl ?hs (by omega) (by omega) ?_
        case hs => exact ((h2A.keep hd).kp K8 hNr).srcN Try.underlying26 (wcells_one _)
        intro v6 r6 w6 o6 k6 n6
        refine hK.out _ _ ((k6.mono (fun _ h => by cases h))) ?_; clear hK; (try simp only [Act.put, List.setIfInBounds_toArray, List.set_cons_zero, List.set_cons_succ])
        have K6 := K8.trans k6 (fun _ h => by cases h)
        have O6 : Own w6 28 4 v6 r6 l.length (wcells l) := by simpa using o6
        have hn6 : ∀ i, r6 = some i → wa.heap.size ≤ i := fun i hi => by
          rcases n6 i hi with h | h
          · cases h
          · have := K8.size; have := hd.size; omega
        have B8 := B8.kp k6 (fun h => by cases h)
        clear o6 n6 k6
        refine tr_step rfl rfl (fun K hK => ?_); simp only [List.getElem_toArray, List.getElem_cons_zero, List.getElem_cons_succ]
        refine wp_append_any _ _ _ _ rfl 28 Wn.no.val 4 48 Try.underlying26 infoW rfl _ r6 l.length (wcells l) rfl O6 _ 1 (wcells [x]) rfl ?hs (by omega) (by omega) ?_
        case hs =>
          refine Src.ofSlice _ Try.underlying26 _ 1 _ (wcells [x]) rfl (fun i u hu => ?_) (wcells_one _)
          rw [addr_add, B8.cell]
          simpa [wcells] using hu
        intro v9 r9 w9 o9 k9 n9
        refine hK.out _ _ ((k9.mono hn6)) ?_; clear hK; (try simp only [Act.put, List.setIfInBounds_toArray, List.set_cons_zero, List.set_cons_succ])
        have K9 := K6.trans k9 (fun i hi => .inl (hn6 i hi))
        have hn9 : ∀ i, r9 = some i → wa.heap.size ≤ i := fun i hi => by
          rcases n9 i hi with h | h
          · exact hn6 i h
          · have := K6.size; have := hd.size; omega
        clear n9 k9
        obtain ⟨A9, c9, rfl, hc9, hcm9⟩ := o9.form
        have hg9 : Blk w9 g _ _ := (h1A.keep hd).kp K9 hNg
        have g0 := hg9.cell 0
        have f0 := hg9.frozen 0
        simp at g0
        repeat (refine tr_still (v := ?_) rfl rfl (fun wq hq => ?_) ?_; rotate_left; (focus ((simp only [List.getElem_toArray, List.getElem_cons_zero, List.getElem_cons_succ]; go_simp; try with_reducible rfl); done)); simp only [List.getElem_toArray, List.getElem_cons_zero, List.getElem_cons_succ, Act.put, List.setIfInBounds_toArray, List.set_cons_zero, List.set_cons_succ])
        refine tr_last rfl rfl (fun K hK => ?_); simp only [List.getElem_toArray, List.getElem_cons_zero, List.getElem_cons_succ]; go_simp
        refine hK.out _ _ ?_; clear hK; (try simp only [Act.put, List.setIfInBounds_toArray, List.set_cons_zero, List.set_cons_succ])
        refine tr_nil ?_
        go_wp2
        go_ret
        have KK : Kp (One g) w (w9.setCell ⟨g, 0, none⟩ (.slice A9 (l.length + 1) c9)) :=
          ((hA.seq hd).any.trans K9 (fun i hi => .inr (by have : wa.heap.size ≤ i := hi; omega))).setOne 0 _
        refine ⟨r9, rfl, ⟨_, hg9.set 0 _, ?_, by simp; omega⟩, fun i hi => .inr (by have := hn9 i hi; omega), KK⟩
        rw [wcells_append, List.length_append]
        exact o9.kp ((Kp.refl (One g) w9).setOne 0 _) (fun i hi hig => by have := hn9 i hi; have : i = g := hig; omega)
    · have K8 := hS.alloc (.cells #[.string x.t, .string x.c, .bool x.b, .int .i64 x.d] 28)
      have B8 := Blk.new wd #[.string x.t, .string x.c, .bool x.b, .int .i64 x.d] 28
      simp only [List.getElem_toArray, List.getElem_cons_zero, List.getElem_cons_succ]; go_simp
      refine hK.out _ _ (((Kp.refl _ _).alloc _)) ?_; clear hK; (try simp only [Act.put, List.setIfInBounds_toArray, List.set_cons_zero, List.set_cons_succ])
      generalize World.alloc wd (.cells #[.string x.t, .string x.c, .bool x.b, .int .i64 x.d] 28) = w8 at K8 B8 ⊢
      have K1 := K8.alloc (.cells #[] 28)
      refine tr_step rfl rfl (fun K hK => ?_); simp only [List.getElem_toArray, List.getElem_cons_zero, List.getElem_cons_succ]; go_simp
      refine hK.out _ _ (((Kp.refl _ _).alloc _)) ?_; clear hK; (try simp only [Act.put, List.setIfInBounds_toArray, List.set_cons_zero, List.set_cons_succ])
      have B8 := B8.keep ((Kp.refl Non w8).alloc (.cells #[] 28))
      generalize World.alloc w8 (.cells #[] 28) = w1 at K1 B8 ⊢
      refine tr_step rfl rfl (fun K hK => ?_); simp only [List.getElem_toArray, List.getElem_cons_zero, List.getElem_cons_succ]
      refine wp_append_any _ _ _ _ rfl 28 Wn.no.val 4 48 Try.underlying26 infoW rfl _ none 0 [] rfl (Own.nil _ _ _ _) _ l.length (wcells l) rfl ?hs (by omega) (by omega) ?_
      case hs => exact ((h2A.keep hd).kp K1 hNr).srcN Try.underlying26 (wcells_one _)
      intro v6 r6 w6 o6 k6 n6
      refine hK.out _ _ ((k6.mono (fun _ h => by cases h))) ?_; clear hK; (try simp only [Act.put, List.setIfInBounds_toArray, List.set_cons_zero, List.set_cons_succ])
      have K6 := K1.trans k6 (fun _ h => by cases h)
      have O6 : Own w6 28 4 v6 r6 l.length (wcells l) := by simpa using o6
      have hn6 : ∀ i, r6 = some i → wa.heap.size ≤ i := fun i hi => by
        rcases n6 i hi with h | h
        · cases h
        · have := K1.size; have := hd.size; omega
      have B8 := B8.kp k6 (fun h => by cases h)
      clear o6 n6 k6
      refine tr_step rfl rfl (fun K hK => ?_); simp only [List.getElem_toArray, List.getElem_cons_zero, List.getElem_cons_succ]
      refine wp_append_any _ _ _ _ rfl 28 Wn.no.val 4 48 Try.underlying26 infoW rfl _ r6 l.length (wcells l) rfl O6 _ 1 (wcells [x]) rfl ?hs (by omega) (by omega) ?_
      case hs =>
        refine Src.ofSlice _ Try.underlying26 _ 1 _ (wcells [x]) rfl (fun i u hu => ?_) (wcells_one _)
        rw [addr_add, B8.cell]
        simpa [wcells] using hu
      intro v9 r9 w9 o9 k9 n9
      refine hK.out _ _ ((k9.mono hn6)) ?_; clear hK; (try simp only [Act.put, List.setIfInBounds_toArray, List.set_cons_zero, List.set_cons_succ])
      have K9 := K6.trans k9 (fun i hi => .inl (hn6 i hi))
      have hn9 : ∀ i, r9 = some i → wa.heap.size ≤ i := fun i hi => by
        rcases n9 i hi with h | h
        · exact hn6 i h
        · have := K6.size; have := hd.size; omega
      clear n9 k9
      obtain ⟨A9, c9, rfl, hc9, hcm9⟩ := o9.form
      have hg9 : Blk w9 g _ _ := (h1A.keep hd).kp K9 hNg
      have g0 := hg9.cell 0
      have f0 := hg9.frozen 0
      simp at g0
      repeat (refine tr_still (v := ?_) rfl rfl (fun wq hq => ?_) ?_; rotate_left; (focus ((simp only [List.getElem_toArray, List.getElem_cons_zero, List.getElem_cons_succ]; go_simp; try with_reducible rfl); done)); simp only [List.getElem_toArray, List.getElem_cons_zero, List.getElem_cons_succ, Act.put, List.setIfInBounds_toArray, List.set_cons_zero, List.set_cons_succ])
      refine tr_last rfl rfl (fun K hK => ?_); simp only [List.getElem_toArray, List.getElem_cons_zero, List.getElem_cons_succ]; go_simp
      refine hK.out _ _ ?_; clear hK; (try simp only [Act.put, List.setIfInBounds_toArray, List.set_cons_zero, List.set_cons_succ])
      refine tr_nil ?_
      go_wp2
      go_ret
      have KK : Kp (One g) w (w9.setCell ⟨g, 0, none⟩ (.slice A9 (l.length + 1) c9)) :=
        ((hA.seq hd).any.trans K9 (fun i hi => .inr (by have : wa.heap.size ≤ i := hi; omega))).setOne 0 _
      refine ⟨r9, rfl, ⟨_, hg9.set 0 _, ?_, by simp; omega⟩, fun i hi => .inr (by have := hn9 i hi; omega), KK⟩
      rw [wcells_append, List.length_append]
      exact o9.kp ((Kp.refl (One g) w9).setOne 0 _) (fun i hi hig => by have := hn9 i hi; have : i = g := hig; omega)
  · have hl8 : l.length = 8 := by omega
    rw [show pushF l x = l by simp [pushF, hl], decide_eq_false hl]
    have c0 := h1A.cell 0
    simp at c0
    rw [hl8] at c0
    go_enter Try.func14, Try.ntmps14
    go_wp2
    go_ret
    exact ⟨r, rfl, h0.keep hA, New.refl _ _, hA.any⟩

end Go.Proofs.Ytpldhdomanikiaa

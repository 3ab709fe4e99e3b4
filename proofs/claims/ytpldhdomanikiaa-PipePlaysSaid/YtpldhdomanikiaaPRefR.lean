/- The contract of the reference's Reply. -/
import Derived.Test.YtpldhdomanikiaaPRef
namespace Go.Proofs.Ytpldhdomanikiaa
open Go.RowKit
set_option linter.unusedSimpArgs false
set_option linter.unusedVariables false

theorem size28 : (Try.prog.info? 28).map (·.size) = some 4 := by kernel_rfl

set_option maxHeartbeats 4000000 in
theorem rreply_calls (g : Nat) (r : Option Nat) (l : List Wn) (p : Int) (c : ByteArray) (w : World) (h : RPip w g r l) :
    Calls Try.prog 15 #[.pointer (some ⟨g, 0, none⟩), .int .i64 p, rpl c] w fun e w' =>
      ∃ r', e = .returned (.tuple #[(l.headD Wn.no).val, .bool (decide (l ≠ []) && !ahF p c), .bool (decide (l ≠ []))]) ∧ RPip w' g r' (replyF p c l) ∧ New w r r' ∧ Kp (One g) w w' := by
  unfold rpl
  have hA := ((Kp.refl Non w).alloc (.cells #[.string c, .slice none 0 0, .slice none 0 0] 37)).alloc (.cells #[.string ⟨#[]⟩, .string ⟨#[]⟩, .bool false, .int .i64 0] 28)
  have hR := (Blk.new w #[.string c, .slice none 0 0, .slice none 0 0] 37).old (.cells #[.string ⟨#[]⟩, .string ⟨#[]⟩, .bool false, .int .i64 0] 28)
  have hB : WnBlk _ (w.alloc (.cells #[.string c, .slice none 0 0, .slice none 0 0] 37)).heap.size Wn.no := Blk.new _ #[.string ⟨#[]⟩, .string ⟨#[]⟩, .bool false, .int .i64 0] 28
  have hs : (w.alloc (.cells #[.string c, .slice none 0 0, .slice none 0 0] 37)).heap.size = w.heap.size + 1 := by simp
  rw [hs] at hB
  have h0 := h
  have hgl := h.lt
  go_enter Try.func15, Try.ntmps15
  go_wp2_with fail
  refine (rhead_calls g r l _ (h0.keep hA)).mono ?_
  rintro e w1 ⟨rfl, k1⟩
  have hB1 : WnBlk w1 (w.heap.size + 1) Wn.no := Blk.keep hB k1
  have hR1 := hR.keep k1
  have K1 := hA.seq k1
  clear hB hR hA hs k1
  have s1 := K1.size
  have hlt1 := hB1.lt
  obtain ⟨d0, d1, d2, d3⟩ := hB1.at
  simp only [Nat.zero_add] at d1 d2 d3
  have fd := Blk.frozen hB1
  have rd := hR1.cell 0
  simp at rd
  have hn1 : ¬ w1.heap.size = w.heap.size + 1 := by omega
  have hn2 : ¬ w.heap.size + 1 = w1.heap.size := by omega
  have hn3 : ¬ w1.heap.size = w.heap.size := by omega
  have hn4 : ¬ w.heap.size = w1.heap.size := by omega
  generalize hx : l.headD Wn.no = xh
  unfold Wn.val
  have hX : WnBlk _ w1.heap.size xh := Blk.new w1 #[.string xh.t, .string xh.c, .bool xh.b, .int .i64 xh.d] 28
  have ka := (Kp.refl Non w1).alloc (.cells #[.string xh.t, .string xh.c, .bool xh.b, .int .i64 xh.d] 28)
  have K2 := K1.seq ka
  have hB2 : WnBlk _ (w.heap.size + 1) Wn.no := Blk.keep hB1 ka
  have r0 := (hR1.keep ka).cell 0
  simp at r0
  obtain ⟨b0, b1, b2, b3⟩ := hB2.at
  simp only [Nat.zero_add] at b1 b2 b3
  have f0 := Blk.frozen hB2
  obtain ⟨x0, x1, x2, x3⟩ := hX.at
  simp only [Nat.zero_add] at x1 x2 x3
  clear hR1
  cases l with
  | nil =>
    simp only [List.headD_nil] at hx
    subst hx
    have K3 := ((K1.wn (g := w.heap.size + 1) (.inr (by omega)) 0 Wn.no).alloc (.cells #[.string Wn.no.t, .string Wn.no.c, .bool Wn.no.b, .int .i64 Wn.no.d] 28))
    have hB3 := Blk.old (hB1.set Wn.no) (.cells #[.string Wn.no.t, .string Wn.no.c, .bool Wn.no.b, .int .i64 Wn.no.d] 28)
    simp only [Nat.zero_add] at K3
    go_wp2
    generalize hw3 : World.alloc _ _ = w3
    have K3' : Kp Non w w3 := by rw [← hw3]; exact K3
    have hB3' : WnBlk w3 (w.heap.size + 1) Wn.no := by rw [← hw3]; exact hB3
    obtain ⟨y0, y1, y2, y3⟩ := hB3'.at
    simp only [Nat.zero_add] at y1 y2 y3
    exact bodyPost_ret (v := .tuple #[Wn.no.val, .bool false, .bool false]) (by simp [results, Try.results15, go_sem, y0, y1, y2, y3, Wn.val]) rfl ⟨r, by simp, by simpa [replyF] using h0.keep K3', New.refl _ _, K3'.any⟩
  | cons x l =>
    simp only [List.headD_cons] at hx
    subst hx
    have h00 := h0
    obtain ⟨v, h1, h2, h3⟩ := h0
    obtain ⟨A, ca, rfl, hca, hcam, _⟩ := h2.wn
    obtain ⟨V, hV, hVs⟩ := h2.tail4 (P := Try.prog) Try.underlying26 size28 (wcells_one _) (by simp)
    have hVs' : ∀ w', Kp Non (w1.alloc (.cells #[.string x.t, .string x.c, .bool x.b, .int .i64 x.d] 28)) w' → Src Try.prog 4 26 V l.length (wcells l) w' := fun w' k => by
      have := hVs w' (K2.seq k)
      simpa [wcells] using this
    have HS := hid hVs'
    clear hVs hVs'
    have cg := (h1.keep K1).cell 0
    have ch := (h1.keep K2).cell 0
    have ci := (h1.keep (K2.alloc (.cells #[] 28))).cell 0
    simp at cg ch ci
    simp only [List.length_cons] at hV
    have hl8 : l.length + 1 ≤ 8 := h3
    by_cases hp : p = 3
    · subst hp
      by_cases hs : c.size = 0
      · have hah : ahF 3 c = false := by simp [ahF, ahd_none hs]
        have hs0 : decide ((0 : Int) < c.size) = false := by simp [hs]
        have pf : replyF 3 c (x :: l) = l := by simp [replyF, hah]
        go_wp2_with (at_builtin; go_must (refine wpList_append_any rfl _ _ _ _ rfl 28 Wn.no.val 4 48 Try.underlying26 infoW rfl _ none 0 [] rfl (Own.nil _ _ _ _) _ l.length (wcells l) rfl ?hs (by omega) (by omega) ?_))
        case hs => exact HS.out _ ((Kp.refl Non _).alloc _)
        intro v6 r6 w6 o6 k6 n6
        have k26 : Kp Non (w1.alloc (.cells #[.string x.t, .string x.c, .bool x.b, .int .i64 x.d] 28)) w6 := ((Kp.refl Non _).alloc (.cells #[] 28)).trans k6 (fun _ h => by cases h)
        have O6 : Own w6 28 4 v6 r6 l.length (wcells l) := by simpa using o6
        have hn6 : ∀ i, r6 = some i → w.heap.size ≤ i := fun i hi => by
          rcases n6 i hi with h | h
          · cases h
          · have : (w1.alloc (.cells #[.string x.t, .string x.c, .bool x.b, .int .i64 x.d] 28)).heap.size = w1.heap.size + 1 := by simp
            have := ((Kp.refl Non (w1.alloc (.cells #[.string x.t, .string x.c, .bool x.b, .int .i64 x.d] 28))).alloc (.cells #[] 28)).size
            omega
        have hr6 : ∀ i, r6 = some i → i ≠ w.heap.size + 1 := fun i hi => by
          rcases n6 i hi with h | h
          · cases h
          · have : (w1.alloc (.cells #[.string x.t, .string x.c, .bool x.b, .int .i64 x.d] 28)).heap.size = w1.heap.size + 1 := by simp
            have := ((Kp.refl Non (w1.alloc (.cells #[.string x.t, .string x.c, .bool x.b, .int .i64 x.d] 28))).alloc (.cells #[] 28)).size
            omega
        have K6 := K2.seq k26
        have hB6 : WnBlk w6 (w.heap.size + 1) Wn.no := Blk.keep hB2 k26
        have hX6 : WnBlk w6 w1.heap.size x := Blk.keep hX k26
        have hg6 : Blk w6 g _ _ := h1.keep K6
        obtain ⟨A6, d6, rfl, hc6, hcm6⟩ := O6.form
        clear o6 n6 k6 k26 b0 b1 b2 b3 f0 x0 x1 x2 x3 d0 d1 d2 d3 fd rd r0 cg ch ci hB2 hX K2 ka HS hV
        obtain ⟨b0, b1, b2, b3⟩ := hB6.at
        simp only [Nat.zero_add] at b1 b2 b3
        have f0 := Blk.frozen hB6
        obtain ⟨x0, x1, x2, x3⟩ := hX6.at
        simp only [Nat.zero_add] at x1 x2 x3
        have cg := hg6.cell 0
        have fg := hg6.frozen 0
        simp at cg
        go_wp2
        have KG := (K6.any (S := One g)).setOne 0 (.slice A6 l.length d6)
        have hG := hg6.set 0 (.slice A6 l.length d6)
        have oG := O6.kp ((Kp.refl (One g) w6).setOne 0 (.slice A6 l.length d6)) (fun i hi hig => by have := hn6 i hi; have : i = g := hig; omega)
        have hB7 : WnBlk _ (w.heap.size + 1) x := WnBlk.set (Blk.far hB6 (p := ⟨g, 0, none⟩) (by simp; omega) (.slice A6 l.length d6)) x
        have K7 := KG.wn (g := w.heap.size + 1) (.inr (by omega)) 0 x
        have k7 := (Kp.refl (One (w.heap.size + 1)) (w6.setCell ⟨g, 0, none⟩ (.slice A6 l.length d6))).wn (g := w.heap.size + 1) (.inl rfl) 0 x
        have hP : RPip _ g r6 l := ⟨_, hG.kp k7 (fun h => by have : g = w.heap.size + 1 := h; omega), oG.kp k7 (fun i hi h => hr6 i hi h), by simp at h3; omega⟩
        simp only [Nat.zero_add] at K7 hP
        clear k7
        generalize World.setCell _ ⟨w.heap.size + 1, 3, none⟩ _ = w7 at hB7 K7 hP ⊢
        obtain ⟨y0, y1, y2, y3⟩ := hB7.at
        simp only [Nat.zero_add] at y1 y2 y3
        exact bodyPost_ret (v := .tuple #[x.val, .bool true, .bool true]) (by simp [results, Try.results15, go_sem, y0, y1, y2, y3, Wn.val]) rfl ⟨r6, by simp [hah], by rw [pf]; exact hP, fun i hi => .inr (hn6 i hi), K7⟩
      · have hs0 : decide ((0 : Int) < c.size) = true := by simp; omega
        have hs1 : (0 : Int) < c.size := by omega
        have hxx := ahd_get c
        cases hb : ahd c with
        | false =>
          rw [hb] at hxx
          have hah : ahF 3 c = false := by simp [ahF, hb]
          have pf : replyF 3 c (x :: l) = l := by simp [replyF, hah]
          go_wp2_with (at_builtin; go_must (refine wpList_append_any rfl _ _ _ _ rfl 28 Wn.no.val 4 48 Try.underlying26 infoW rfl _ none 0 [] rfl (Own.nil _ _ _ _) _ l.length (wcells l) rfl ?hs (by omega) (by omega) ?_))
          case hs => exact HS.out _ ((Kp.refl Non _).alloc _)
          intro v6 r6 w6 o6 k6 n6
          have k26 : Kp Non (w1.alloc (.cells #[.string x.t, .string x.c, .bool x.b, .int .i64 x.d] 28)) w6 := ((Kp.refl Non _).alloc (.cells #[] 28)).trans k6 (fun _ h => by cases h)
          have O6 : Own w6 28 4 v6 r6 l.length (wcells l) := by simpa using o6
          have hn6 : ∀ i, r6 = some i → w.heap.size ≤ i := fun i hi => by
            rcases n6 i hi with h | h
            · cases h
            · have : (w1.alloc (.cells #[.string x.t, .string x.c, .bool x.b, .int .i64 x.d] 28)).heap.size = w1.heap.size + 1 := by simp
              have := ((Kp.refl Non (w1.alloc (.cells #[.string x.t, .string x.c, .bool x.b, .int .i64 x.d] 28))).alloc (.cells #[] 28)).size
              omega
          have hr6 : ∀ i, r6 = some i → i ≠ w.heap.size + 1 := fun i hi => by
            rcases n6 i hi with h | h
            · cases h
            · have : (w1.alloc (.cells #[.string x.t, .string x.c, .bool x.b, .int .i64 x.d] 28)).heap.size = w1.heap.size + 1 := by simp
              have := ((Kp.refl Non (w1.alloc (.cells #[.string x.t, .string x.c, .bool x.b, .int .i64 x.d] 28))).alloc (.cells #[] 28)).size
              omega
          have K6 := K2.seq k26
          have hB6 : WnBlk w6 (w.heap.size + 1) Wn.no := Blk.keep hB2 k26
          have hX6 : WnBlk w6 w1.heap.size x := Blk.keep hX k26
          have hg6 : Blk w6 g _ _ := h1.keep K6
          obtain ⟨A6, d6, rfl, hc6, hcm6⟩ := O6.form
          clear o6 n6 k6 k26 b0 b1 b2 b3 f0 x0 x1 x2 x3 d0 d1 d2 d3 fd rd r0 cg ch ci hB2 hX K2 ka HS hV
          obtain ⟨b0, b1, b2, b3⟩ := hB6.at
          simp only [Nat.zero_add] at b1 b2 b3
          have f0 := Blk.frozen hB6
          obtain ⟨x0, x1, x2, x3⟩ := hX6.at
          simp only [Nat.zero_add] at x1 x2 x3
          have cg := hg6.cell 0
          have fg := hg6.frozen 0
          simp at cg
          go_wp2
          have KG := (K6.any (S := One g)).setOne 0 (.slice A6 l.length d6)
          have hG := hg6.set 0 (.slice A6 l.length d6)
          have oG := O6.kp ((Kp.refl (One g) w6).setOne 0 (.slice A6 l.length d6)) (fun i hi hig => by have := hn6 i hi; have : i = g := hig; omega)
          have hB7 : WnBlk _ (w.heap.size + 1) x := WnBlk.set (Blk.far hB6 (p := ⟨g, 0, none⟩) (by simp; omega) (.slice A6 l.length d6)) x
          have K7 := KG.wn (g := w.heap.size + 1) (.inr (by omega)) 0 x
          have k7 := (Kp.refl (One (w.heap.size + 1)) (w6.setCell ⟨g, 0, none⟩ (.slice A6 l.length d6))).wn (g := w.heap.size + 1) (.inl rfl) 0 x
          have hP : RPip _ g r6 l := ⟨_, hG.kp k7 (fun h => by have : g = w.heap.size + 1 := h; omega), oG.kp k7 (fun i hi h => hr6 i hi h), by simp at h3; omega⟩
          simp only [Nat.zero_add] at K7 hP
          clear k7
          generalize World.setCell _ ⟨w.heap.size + 1, 3, none⟩ _ = w7 at hB7 K7 hP ⊢
          obtain ⟨y0, y1, y2, y3⟩ := hB7.at
          simp only [Nat.zero_add] at y1 y2 y3
          exact bodyPost_ret (v := .tuple #[x.val, .bool true, .bool true]) (by simp [results, Try.results15, go_sem, y0, y1, y2, y3, Wn.val]) rfl ⟨r6, by simp [hah], by rw [pf]; exact hP, fun i hi => .inr (hn6 i hi), K7⟩
        | true =>
          rw [hb] at hxx
          have hah : ahF 3 c = true := by simp [ahF, hb]
          have pf : replyF 3 c (x :: l) = x :: l := by simp [replyF, hah]
          have K3 := ((K1.wn (g := w.heap.size + 1) (.inr (by omega)) 0 x).alloc (.cells #[.string x.t, .string x.c, .bool x.b, .int .i64 x.d] 28))
          have hB3 := Blk.old (hB1.set x) (.cells #[.string x.t, .string x.c, .bool x.b, .int .i64 x.d] 28)
          simp only [Nat.zero_add] at K3
          go_wp2
          generalize hw3 : World.alloc _ _ = w3
          have K3' : Kp Non w w3 := by rw [← hw3]; exact K3
          have hB3' : WnBlk w3 (w.heap.size + 1) x := by rw [← hw3]; exact hB3
          obtain ⟨y0, y1, y2, y3⟩ := hB3'.at
          simp only [Nat.zero_add] at y1 y2 y3
          exact bodyPost_ret (v := .tuple #[x.val, .bool false, .bool true]) (by simp [results, Try.results15, go_sem, y0, y1, y2, y3, Wn.val]) rfl ⟨r, by simp [hah], by rw [pf]; exact h00.keep K3', New.refl _ _, K3'.any⟩
    · have hp' : (p == 3) = false := by simpa using hp
      have hah : ahF p c = false := by simp [ahF, hp]
      have pf : replyF p c (x :: l) = l := by simp [replyF, hah]
      go_wp2_with (at_builtin; go_must (refine wpList_append_any rfl _ _ _ _ rfl 28 Wn.no.val 4 48 Try.underlying26 infoW rfl _ none 0 [] rfl (Own.nil _ _ _ _) _ l.length (wcells l) rfl ?hs (by omega) (by omega) ?_))
      case hs => exact HS.out _ ((Kp.refl Non _).alloc _)
      intro v6 r6 w6 o6 k6 n6
      have k26 : Kp Non (w1.alloc (.cells #[.string x.t, .string x.c, .bool x.b, .int .i64 x.d] 28)) w6 := ((Kp.refl Non _).alloc (.cells #[] 28)).trans k6 (fun _ h => by cases h)
      have O6 : Own w6 28 4 v6 r6 l.length (wcells l) := by simpa using o6
      have hn6 : ∀ i, r6 = some i → w.heap.size ≤ i := fun i hi => by
        rcases n6 i hi with h | h
        · cases h
        · have : (w1.alloc (.cells #[.string x.t, .string x.c, .bool x.b, .int .i64 x.d] 28)).heap.size = w1.heap.size + 1 := by simp
          have := ((Kp.refl Non (w1.alloc (.cells #[.string x.t, .string x.c, .bool x.b, .int .i64 x.d] 28))).alloc (.cells #[] 28)).size
          omega
      have hr6 : ∀ i, r6 = some i → i ≠ w.heap.size + 1 := fun i hi => by
        rcases n6 i hi with h | h
        · cases h
        · have : (w1.alloc (.cells #[.string x.t, .string x.c, .bool x.b, .int .i64 x.d] 28)).heap.size = w1.heap.size + 1 := by simp
          have := ((Kp.refl Non (w1.alloc (.cells #[.string x.t, .string x.c, .bool x.b, .int .i64 x.d] 28))).alloc (.cells #[] 28)).size
          omega
      have K6 := K2.seq k26
      have hB6 : WnBlk w6 (w.heap.size + 1) Wn.no := Blk.keep hB2 k26
      have hX6 : WnBlk w6 w1.heap.size x := Blk.keep hX k26
      have hg6 : Blk w6 g _ _ := h1.keep K6
      obtain ⟨A6, d6, rfl, hc6, hcm6⟩ := O6.form
      clear o6 n6 k6 k26 b0 b1 b2 b3 f0 x0 x1 x2 x3 d0 d1 d2 d3 fd rd r0 cg ch ci hB2 hX K2 ka HS hV
      obtain ⟨b0, b1, b2, b3⟩ := hB6.at
      simp only [Nat.zero_add] at b1 b2 b3
      have f0 := Blk.frozen hB6
      obtain ⟨x0, x1, x2, x3⟩ := hX6.at
      simp only [Nat.zero_add] at x1 x2 x3
      have cg := hg6.cell 0
      have fg := hg6.frozen 0
      simp at cg
      go_wp2
      have KG := (K6.any (S := One g)).setOne 0 (.slice A6 l.length d6)
      have hG := hg6.set 0 (.slice A6 l.length d6)
      have oG := O6.kp ((Kp.refl (One g) w6).setOne 0 (.slice A6 l.length d6)) (fun i hi hig => by have := hn6 i hi; have : i = g := hig; omega)
      have hB7 : WnBlk _ (w.heap.size + 1) x := WnBlk.set (Blk.far hB6 (p := ⟨g, 0, none⟩) (by simp; omega) (.slice A6 l.length d6)) x
      have K7 := KG.wn (g := w.heap.size + 1) (.inr (by omega)) 0 x
      have k7 := (Kp.refl (One (w.heap.size + 1)) (w6.setCell ⟨g, 0, none⟩ (.slice A6 l.length d6))).wn (g := w.heap.size + 1) (.inl rfl) 0 x
      have hP : RPip _ g r6 l := ⟨_, hG.kp k7 (fun h => by have : g = w.heap.size + 1 := h; omega), oG.kp k7 (fun i hi h => hr6 i hi h), by simp at h3; omega⟩
      simp only [Nat.zero_add] at K7 hP
      clear k7
      generalize World.setCell _ ⟨w.heap.size + 1, 3, none⟩ _ = w7 at hB7 K7 hP ⊢
      obtain ⟨y0, y1, y2, y3⟩ := hB7.at
      simp only [Nat.zero_add] at y1 y2 y3
      exact bodyPost_ret (v := .tuple #[x.val, .bool true, .bool true]) (by simp [results, Try.results15, go_sem, y0, y1, y2, y3, Wn.val]) rfl ⟨r6, by simp [hah], by rw [pf]; exact hP, fun i hi => .inr (hn6 i hi), K7⟩

end Go.Proofs.Ytpldhdomanikiaa

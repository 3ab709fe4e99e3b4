/- The walk of PipeDue: it answers true and writes nothing that was there. -/
import Derived.Test.YtpldhdomanikiaaPLaw
import Derived.ProofKit
import Derived.OpenShut
namespace Go.Proofs.Ytpldhdomanikiaa
open Go.RowKit Go.ChangeShapes Go.WideShapes Go.ChangeAt
set_option linter.unusedSimpArgs false
set_option linter.unusedVariables false
attribute [local go_sem] max2_of min2_of max_of min_of

def mk (d : Int) : Wn := ⟨⟨#[]⟩, ⟨#[]⟩, false, d⟩
theorem foldl_min (l : List Wn) (m : Int) : l.foldl (fun d x => min d x.d) m ≤ m ∧ (∀ x ∈ l, l.foldl (fun d x => min d x.d) m ≤ x.d) ∧ (l.foldl (fun d x => min d x.d) m = m ∨ ∃ x ∈ l, x.d = l.foldl (fun d x => min d x.d) m) := by
  induction l generalizing m with
  | nil => simp
  | cons y l ih =>
    obtain ⟨h1, h2, h3⟩ := ih (min m y.d)
    simp only [List.foldl_cons, List.mem_cons, forall_eq_or_imp, exists_eq_or_imp]
    refine ⟨by omega, ⟨by omega, h2⟩, ?_⟩
    rcases h3 with h3 | h3
    · by_cases h : y.d ≤ m
      · exact .inr (.inl (by omega))
      · exact .inl (by omega)
    · exact .inr (.inr h3)
theorem dueF_le (l : List Int) (x : Int) (h : x ∈ l) : dueF (l.map mk) ≤ x := (foldl_min (l.map mk) _).2.1 (mk x) (List.mem_map_of_mem h)
theorem dueF_mem (l : List Int) (h : l ≠ []) (hb : ∀ x ∈ l, x ≤ 9223372036854775807) : ∃ x ∈ l, x = dueF (l.map mk) := by
  obtain ⟨h1, h2, h3⟩ := foldl_min (l.map mk) 9223372036854775807
  rcases h3 with h3 | ⟨x, hx, he⟩
  · cases l with
    | nil => exact absurd rfl h
    | cons y l =>
      refine ⟨y, by simp, ?_⟩
      have := h2 (mk y) (by simp)
      have h4 := hb y (by simp)
      unfold dueF
      rw [h3] at this ⊢
      simp [mk] at this
      omega
  · obtain ⟨y, hy, rfl⟩ := List.mem_map.1 hx
    exact ⟨y, hy, he⟩

def PD1 (w : World) (g n : Nat) (L : List Int) (i : Value) (wr : World) : Prop :=
  ∃ k : Nat, i = .int .i64 k ∧ k ≤ n ∧ Pip wr g ((L.take k).map mk) ∧ Kp Non w wr
def PD2 (w : World) (g n m : Nat) (L : List Int) (i : Value) (wr : World) : Prop :=
  ∃ k : Nat, i = .int .i64 k ∧ k ≤ m ∧ Pip wr g (((L.take n).drop k).map mk) ∧ Kp Non w wr
def PD3 (w : World) (g n m : Nat) (L : List Int) (D : Int) (S : List Wn) (fd i : Value) (wr : World) : Prop :=
  ∃ (k : Nat) (b : Bool), i = .int .i64 k ∧ fd = .bool b ∧ m ≤ k ∧ k ≤ n ∧ Pip wr g S ∧ Kp Non w wr ∧ (b = true ↔ (m = n ∨ ∃ j, m ≤ j ∧ j < k ∧ L[j]? = some D))

set_option maxHeartbeats 1000000 in
set_option maxRecDepth 100000 in
theorem pdue_walk (w : World) (v : Value) (row : Option Nat) (L : List Int) (hr : Rd w v row (L.map (Value.int .i64))) (hq : ∀ n ∈ L, (Lit.int .i64 n).wf = true) (a : Int) (ba : 0 ≤ a ∧ a ≤ 255) :
    Calls Try.prog 5 #[v, .int .u8 a] w fun e w' => e = .returned (.bool true) ∧ Kp Non w w' := by
  obtain ⟨A, c, rfl, hlc, hcm, hcell⟩ := hr
  rw [List.length_map] at hlc ⊢
  unfold maxLen at hcm
  have H := hid hcell
  have HL : Hid (∀ k (h : k < L.length), ∃ b off, A = some ⟨b, off, none⟩ ∧ w.cell? ⟨b, off + k, none⟩ = some (.int .i64 L[k])) := hid (fun k hlt => by
    rcases H.out with h | ⟨b, off, hA, _, h⟩
    · rw [List.map_eq_nil_iff] at h; subst h; simp at hlt
    · exact ⟨b, off, hA, h k _ (by simp [hlt])⟩)
  have HB : Hid (∀ x ∈ L, x ≤ 9223372036854775807) := hid (fun x hx => (bounds_i64 (hq x hx)).2)
  clear hcell hq H
  obtain ⟨n, hn⟩ : ∃ n : Nat, (min (L.length : Int) 8) = n := ⟨min L.length 8, by omega⟩
  obtain ⟨m, hm⟩ : ∃ m : Nat, min (a % 9) (n : Int) = m := ⟨min (a % 9).toNat n, by omega⟩
  have hmn : m ≤ n := by omega
  have hnl : n ≤ L.length := by omega
  have hn8 : n ≤ 8 := by omega
  have hwa : IntKind.i64.wrap a = a := IntWalk.i64_in _ (by omega)
  have hlenT : (L.take n).length = n := by simp; omega
  go_enter Try.func5, Try.ntmps5
  go_wp2_with fail
  refine (shown_calls _).mono ?_
  rintro e w1 ⟨rfl, k1⟩
  go_wp2_with fail
  refine (new_calls _).mono ?_
  rintro e w2 ⟨g, rfl, hg, p2, k2⟩
  have hgw : w.heap.size ≤ g := by have := k1.size; omega
  have K2 := k1.seq k2
  clear k1 k2 hg
  go_wp2_with fail
  refine (due_calls g _ _ p2).mono ?_
  rintro e w3 ⟨rfl, k3⟩
  have p3 := p2.keep k3
  have K3 := K2.seq k3
  rw [show dueF [] = 9223372036854775807 from rfl]
  clear p2 k3 K2
  go_wp2_with fail
  go_loopw [8] (fun i wr => PD1 w g n L i wr) (fun i _ => 41 - (intOf i).toNat)
  case atStart => exact ⟨0, rfl, by omega, by simpa using p3, K3⟩
  case round =>
    clear p3 K3
    obtain ⟨k, rfl, hk, p4, K4⟩ := hrel
    by_cases hlt : k < n
    · obtain ⟨b, off, rfl, hcell⟩ := HL.out k (by omega)
      have hcell0 := K4.cell hcell (fun x => x)
      have hk9 : k < L.length := by omega
      have hT : L.take (k + 1) = L.take k ++ [L[k]] := List.take_succ_eq_append_getElem hk9
      generalize L[k] = x at hcell0 hT
      go_wp2_with fail
      refine (push_calls g _ (mk x) _ p4).mono ?_
      rintro e w5 ⟨rfl, p5, k5⟩
      have K5 : Kp Non w w5 := K4.seqNew k5 (fun i hi => by rw [show i = g from hi]; exact hgw)
      go_wp2_with fail
      go_roundw
      case rel =>
        refine ⟨k + 1, by go_num, by omega, ?_, K5⟩
        rw [hT, List.map_append]
        simpa [pushF, show min k L.length = k by omega, show k < 8 by omega] using p5
      case measure => simp [intOf]; omega
    · obtain rfl : k = n := by omega
      go_wp2_with fail
      go_loopw [10] (fun i wr => PD2 w g k m L i wr) (fun i _ => 41 - (intOf i).toNat)
      case atStart => exact ⟨0, rfl, by omega, by simpa using p4, K4⟩
      case round =>
        clear p4 K4 hlt
        obtain ⟨j, rfl, hj, p5, K5⟩ := hrel
        by_cases hlt : j < m
        · go_wp2_with fail
          refine (reply_calls g _ 2 ⟨#[49]⟩ _ p5).mono ?_
          rintro e w6 ⟨rfl, p6, k6⟩
          have K6 : Kp Non w w6 := K5.seqNew k6 (fun i hi => by rw [show i = g from hi]; exact hgw)
          go_wp2_with fail
          go_roundw
          case rel =>
            refine ⟨j + 1, by go_num, by omega, ?_, K6⟩
            have : ∀ l : List Wn, replyF 2 ⟨#[49]⟩ l = l.tail := fun l => rfl
            rw [this, ← List.map_tail, List.tail_drop] at p6
            exact p6
          case measure => simp [intOf]; omega
        · obtain rfl : j = m := by omega
          clear hlt
          have hS : ((L.take k).drop j).length = k - j := by simp; omega
          have hle : ∀ i (h : i < L.length), j ≤ i → i < k → dueF (((L.take k).drop j).map mk) ≤ L[i] := fun i h h1 h2 =>
            dueF_le _ _ (List.mem_iff_getElem?.2 ⟨i - j, by simp [show j + (i - j) = i by omega, h2, h]⟩)
          have hex : j < k → ∃ i, j ≤ i ∧ i < k ∧ L[i]? = some (dueF (((L.take k).drop j).map mk)) := fun hjk => by
            obtain ⟨x, hx, he⟩ := dueF_mem ((L.take k).drop j) (fun h0 => by rw [h0] at hS; simp at hS; omega) (fun x hx => HB.out x (List.mem_of_mem_take (List.mem_of_mem_drop hx)))
            obtain ⟨i, hi⟩ := List.mem_iff_getElem?.1 hx
            rw [List.getElem?_drop, List.getElem?_take] at hi
            split at hi
            · rename_i h1
              exact ⟨j + i, by omega, h1, by rw [hi, he]⟩
            · cases hi
          have hmax : j = k → dueF (((L.take k).drop j).map mk) = 9223372036854775807 := fun h0 => by
            rw [show (L.take k).drop j = [] from List.eq_nil_of_length_eq_zero (by rw [hS]; omega)]; rfl
          generalize hSS : ((L.take k).drop j).map mk = S at p5 hle hex hmax
          have hSl : S.length = k - j := by rw [← hSS]; simpa using hS
          generalize hD : dueF S = D at hle hex hmax
          have HX := hid hex
          have HE := hid hle
          clear hSS hS hex hle
          go_wp2_with fail
          go_loopw [11, 12] (fun fd i wr => PD3 w g k j L D S fd i wr) (fun _ i _ => 41 - (intOf i).toNat)
          case atStart => exact ⟨j, _, rfl, rfl, by omega, by omega, p5, K5, by simp; omega⟩
          case round =>
            clear p5 K5
            obtain ⟨i, fb, rfl, rfl, hi1, hi2, p6, K6, hfb⟩ := hrel
            have FB := hid hfb
            clear hfb
            by_cases hlt : i < k
            · have hiL : i < L.length := by omega
              obtain ⟨b, off, rfl, hcell⟩ := HL.out i hiL
              have hcell6 := K6.cell hcell (fun x => x)
              have hge := HE.out i hiL hi1 hlt
              obtain ⟨x, hx⟩ : ∃ x, L[i] = x := ⟨_, rfl⟩
              rw [hx] at hcell6 hge
              have HXX := hid hx
              clear hx hcell
              have hno : decide (x < D) = false := by simp; omega
              have hd := (Kp.refl Non wr).drew
              have e0 : ∀ w', Kp Non wr.drew w' → w'.cell? ⟨b, off + i, none⟩ = some (.int .i64 x) := fun w' hk => (hd.seq hk).cell hcell6 (fun x => x)
              go_wp2_with fail
              refine wp_region_seq [(0, true), (1, true), (2, true), (3, true), (4, true), (5, false), (6, true)] 7 Non wide (by kernel_rfl) (fun _ _ _ _ _ h => h) ?_; (try simp only [List.append_eq, List.cons_append, List.nil_append])
              repeat (refine seq_still (v := ?_) rfl rfl (fun wq hq => ?_) ?_; rotate_left; (focus ((simp only [List.getElem_toArray, List.getElem_cons_zero, List.getElem_cons_succ]; go_simp; try with_reducible rfl); done)); simp only [List.getElem_toArray, List.getElem_cons_zero, List.getElem_cons_succ, Act.put, List.setIfInBounds_toArray, List.set_cons_zero, List.set_cons_succ])
              refine seq_step rfl rfl (fun K hK => ?_); simp only [List.getElem_toArray, List.getElem_cons_zero, List.getElem_cons_succ]; go_simp
              refine (due_calls g _ _ (p6.keep hd)).mono ?_
              rintro e w7 ⟨rfl, k7⟩
              rw [hD]
              refine hK.out _ _ (k7) ?_; clear hK; (try simp only [Act.put, List.setIfInBounds_toArray, List.set_cons_zero, List.set_cons_succ])
              repeat (refine seq_still (v := ?_) rfl rfl (fun wq hq => ?_) ?_; rotate_left; (focus ((simp only [List.getElem_toArray, List.getElem_cons_zero, List.getElem_cons_succ]; go_simp; try with_reducible rfl); done)); simp only [List.getElem_toArray, List.getElem_cons_zero, List.getElem_cons_succ, Act.put, List.setIfInBounds_toArray, List.set_cons_zero, List.set_cons_succ])
              refine seq_nil ?_
              clear e0
              have p7 := (p6.keep hd).keep k7
              have K7 := (K6.seq hd).seq k7
              have hcell7 := (hd.seq k7).cell hcell6 (fun x => x)
              clear p6 K6 k7 hd hcell6
              have hd := (Kp.refl Non w7).drew
              have e0 : ∀ w', Kp Non w7.drew w' → w'.cell? ⟨b, off + i, none⟩ = some (.int .i64 x) := fun w' hk => (hd.seq hk).cell hcell7 (fun x => x)
              cases fb with
              | true =>
                go_wp2_with fail
                refine wp_region_seq [(0, true), (1, true), (2, true), (3, true), (4, true), (5, true), (6, true), (7, false), (8, true), (9, true), (10, true)] 11 Non wide (by kernel_rfl) (fun _ _ _ _ _ h => h) ?_; (try simp only [List.append_eq, List.cons_append, List.nil_append])
                repeat (refine seq_still (v := ?_) rfl rfl (fun wq hq => ?_) ?_; rotate_left; (focus ((simp only [List.getElem_toArray, List.getElem_cons_zero, List.getElem_cons_succ]; go_simp; try with_reducible rfl); done)); simp only [List.getElem_toArray, List.getElem_cons_zero, List.getElem_cons_succ, Act.put, List.setIfInBounds_toArray, List.set_cons_zero, List.set_cons_succ])
                repeat (refine seq_skip rfl rfl ?_; simp only [List.getElem_toArray, List.getElem_cons_zero, List.getElem_cons_succ, Act.put, List.setIfInBounds_toArray, List.set_cons_zero, List.set_cons_succ])
                refine seq_step_skip rfl rfl ?_
                simp only [List.getElem_toArray, List.getElem_cons_zero, List.getElem_cons_succ, Act.put, List.setIfInBounds_toArray, List.set_cons_zero, List.set_cons_succ]
                repeat (refine seq_skip rfl rfl ?_; simp only [List.getElem_toArray, List.getElem_cons_zero, List.getElem_cons_succ, Act.put, List.setIfInBounds_toArray, List.set_cons_zero, List.set_cons_succ])
                repeat (refine seq_still (v := ?_) rfl rfl (fun wq hq => ?_) ?_; rotate_left; (focus ((simp only [List.getElem_toArray, List.getElem_cons_zero, List.getElem_cons_succ]; go_simp; try with_reducible rfl); done)); simp only [List.getElem_toArray, List.getElem_cons_zero, List.getElem_cons_succ, Act.put, List.setIfInBounds_toArray, List.set_cons_zero, List.set_cons_succ])
                refine seq_nil ?_
                go_wp2_with fail
                go_roundw
                case rel =>
                  refine ⟨i + 1, true, by go_num, rfl, by omega, by omega, p7.keep hd, K7.seq hd, iff_of_true rfl ?_⟩
                  rcases FB.out.1 trivial with h | ⟨jj, h1, h2, h3⟩
                  · exact .inl h
                  · exact .inr ⟨jj, h1, by omega, h3⟩
                case measure => simp [intOf]; omega
              | false =>
                go_wp2_with fail
                refine wp_region_seq [(0, true), (1, true), (2, true), (3, true), (4, true), (5, true), (6, true), (7, false), (8, true), (9, true), (10, true)] 11 Non wide (by kernel_rfl) (fun _ _ _ _ _ h => h) ?_; (try simp only [List.append_eq, List.cons_append, List.nil_append])
                repeat (refine seq_still (v := ?_) rfl rfl (fun wq hq => ?_) ?_; rotate_left; (focus ((simp only [List.getElem_toArray, List.getElem_cons_zero, List.getElem_cons_succ]; go_simp; try with_reducible rfl); done)); simp only [List.getElem_toArray, List.getElem_cons_zero, List.getElem_cons_succ, Act.put, List.setIfInBounds_toArray, List.set_cons_zero, List.set_cons_succ])
                refine seq_step rfl rfl (fun K hK => ?_); simp only [List.getElem_toArray, List.getElem_cons_zero, List.getElem_cons_succ]; go_simp
                refine (due_calls g _ _ (p7.keep hd)).mono ?_
                rintro e w8 ⟨rfl, k8⟩
                rw [hD]
                refine hK.out _ _ (k8) ?_; clear hK; (try simp only [Act.put, List.setIfInBounds_toArray, List.set_cons_zero, List.set_cons_succ])
                repeat (refine seq_still (v := ?_) rfl rfl (fun wq hq => ?_) ?_; rotate_left; (focus ((simp only [List.getElem_toArray, List.getElem_cons_zero, List.getElem_cons_succ]; go_simp; try with_reducible rfl); done)); simp only [List.getElem_toArray, List.getElem_cons_zero, List.getElem_cons_succ, Act.put, List.setIfInBounds_toArray, List.set_cons_zero, List.set_cons_succ])
                refine seq_nil ?_
                go_wp2_with fail
                go_roundw
                case rel =>
                  refine ⟨i + 1, x == D, by go_num, rfl, by omega, by omega, (p7.keep hd).keep k8, (K7.seq hd).seq k8, ?_⟩
                  have hF := FB.out
                  simp only [Bool.false_eq_true, false_iff, not_or, not_exists, not_and] at hF
                  rw [beq_iff_eq]
                  constructor
                  · intro he
                    exact .inr ⟨i, hi1, by omega, by rw [List.getElem?_eq_getElem hiL, HXX.out, he]⟩
                  · rintro (h | ⟨jj, h1, h2, h3⟩)
                    · exact absurd h hF.1
                    · by_cases hji : jj = i
                      · subst hji
                        rw [List.getElem?_eq_getElem hiL, HXX.out] at h3
                        exact Option.some.inj h3
                      · exact absurd h3 (hF.2 jj h1 (by omega))
                case measure => simp [intOf]; omega
            · obtain rfl : i = k := by omega
              have : fb = true := FB.out.2 (by
                by_cases hji : j = i
                · exact .inl hji
                · obtain ⟨q, h1, h2, h3⟩ := HX.out (by omega)
                  exact .inr ⟨q, h1, h2, h3⟩)
              subst this
              have hsub : (S.length : Int) = (i : Int) - j := by omega
              by_cases hji : j < i
              · go_wp2_with fail
                refine (len_calls g _ _ p6).mono ?_
                rintro e w7 ⟨rfl, k7⟩
                rw [hsub]
                go_wp2_with fail
                go_ret
                exact ⟨rfl, K6.seq k7⟩
              · obtain rfl : j = i := by omega
                go_wp2_with fail
                refine (len_calls g _ _ p6).mono ?_
                rintro e w7 ⟨rfl, k7⟩
                rw [hsub]
                go_wp2_with fail
                refine (due_calls g _ _ (p6.keep k7)).mono ?_
                rintro e w8 ⟨rfl, k8⟩
                rw [hD, hmax trivial]
                go_wp2_with fail
                go_ret
                exact ⟨rfl, (K6.seq k7).seq k8⟩

end Go.Proofs.Ytpldhdomanikiaa

/- Two wires side by side: the law's own (or its copy) and the reference's; and both with the one that was copied. -/
import Derived.Test.YtpbkipolgdldfaaWPure
import Derived.Test.YtpbkipolgdldfaaRClone
namespace Go.Proofs.Ytpbkipolgdldfaa
open Go.RowKit
set_option linter.unusedSimpArgs false
set_option linter.unusedVariables false

/-- The two, which stand as S and T tell, and have no block in common that either may write. -/
def Pr (w0 w : World) (g y : Nat) (S T : Nat → Cn) : Prop :=
  ∃ F R F' R', Wir w g S F R ∧ RWir w y T F' R' ∧ (∀ k, F k → w0.heap.size ≤ k ∧ ¬ F' k ∧ ¬ R' k) ∧ (∀ k, F' k → w0.heap.size ≤ k ∧ ¬ R k) ∧ Kp Non w0 w
/-- With the blocks of the second that may be written named. -/
def PrG (G : Nat → Prop) (w0 w : World) (g y : Nat) (S T : Nat → Cn) : Prop :=
  ∃ F R R', Wir w g S F R ∧ RWir w y T G R' ∧ (∀ k, F k → w0.heap.size ≤ k ∧ ¬ G k ∧ ¬ R' k) ∧ (∀ k, G k → w0.heap.size ≤ k ∧ ¬ R k) ∧ Kp Non w0 w
theorem Pr.named {w0 w : World} {g y : Nat} {S T : Nat → Cn} (h : Pr w0 w g y S T) : ∃ G, PrG G w0 w g y S T := by
  obtain ⟨F, R, F', R', h⟩ := h
  exact ⟨F', F, R, R', h⟩
theorem PrG.pr {G : Nat → Prop} {w0 w : World} {g y : Nat} {S T : Nat → Cn} (h : PrG G w0 w g y S T) : Pr w0 w g y S T := by
  obtain ⟨F, R, R', h⟩ := h
  exact ⟨F, R, G, R', h⟩
/-- And a third, which is older. -/
def Tri (w0 w : World) (o g y : Nat) (A S T : Nat → Cn) : Prop :=
  ∃ E Q F R F' R', Wir w o A E Q ∧ Wir w g S F R ∧ RWir w y T F' R' ∧ (∀ k, E k → w0.heap.size ≤ k ∧ ¬ F k ∧ ¬ R k ∧ ¬ F' k ∧ ¬ R' k) ∧ (∀ k, F k → w0.heap.size ≤ k ∧ ¬ F' k ∧ ¬ R' k) ∧ (∀ k, F' k → w0.heap.size ≤ k ∧ ¬ R k) ∧ Kp Non w0 w

section
variable {w0 w w' : World} {o g y : Nat} {A S T : Nat → Cn} {F R F' R' F1 R1 : Nat → Prop}
theorem Wir.flt (h : Wir w g S F R) : (∀ k, F k → k < w.heap.size ∧ ¬ R k) ∧ ∀ k, R k → k < w.heap.size := by
  obtain ⟨_, _, _, _, _, _, _, _, h6, h7⟩ := h
  exact ⟨h6, h7⟩
theorem RWir.flt (h : RWir w g S F R) : (∀ k, F k → k < w.heap.size ∧ ¬ R k) ∧ ∀ k, R k → k < w.heap.size := by
  obtain ⟨_, _, _, _, _, _, _, _, h6, h7⟩ := h
  exact ⟨h6, h7⟩
theorem Pr.keep (h : Pr w0 w g y S T) (k : Kp Non w w') : Pr w0 w' g y S T := by
  obtain ⟨F, R, F', R', h1, h2, h3, h4, h5⟩ := h
  exact ⟨F, R, F', R', h1.keep k, h2.keep k, h3, h4, h5.seq k⟩
theorem Pr.kp (h : Pr w0 w g y S T) : Kp Non w0 w := by
  obtain ⟨_, _, _, _, _, _, _, _, h5⟩ := h
  exact h5
theorem Pr.blen (h : Pr w0 w g y S T) (i : Nat) (hi : i < 2) : (S i).b.length ≤ 4000 := by
  obtain ⟨F, R, _, _, h1, _⟩ := h
  obtain ⟨_, _, _, _, _, _, _, _, _, _, _, _, hq, _⟩ := h1.cells i hi
  have := hq.len_le
  omega
/-- The first of the two has changed. -/
theorem pr_first (h1 : Wir w g S F R) (h2 : RWir w y T F' R') (h3 : ∀ k, F k → w0.heap.size ≤ k ∧ ¬ F' k ∧ ¬ R' k) (h4 : ∀ k, F' k → w0.heap.size ≤ k ∧ ¬ R k) (h5 : Kp Non w0 w) {S1 : Nat → Cn}
    (g1 : Wir w' g S1 F1 R1) (g2 : ∀ k, F1 k → F k ∨ w.heap.size ≤ k) (g3 : ∀ k, R1 k → R k ∨ w.heap.size ≤ k) (k : Kp F w w') : PrG F' w0 w' g y S1 T := by
  have hs := h5.size
  refine ⟨F1, R1, R', g1, h2.kp k (fun i hi => (h3 i hi).2), fun k hk => ?_, fun k hk => ⟨(h4 k hk).1, fun hR => ?_⟩, h5.trans k (fun i hi => .inr (h3 i hi).1)⟩
  · rcases g2 k hk with h | h
    · exact h3 k h
    · exact ⟨by omega, fun x => by have := (h2.flt.1 k x).1; omega, fun x => by have := h2.flt.2 k x; omega⟩
  · rcases g3 k hR with h | h
    · exact (h4 k hk).2 h
    · have := (h2.flt.1 k hk).1; omega
theorem PrG.keep {G : Nat → Prop} (h : PrG G w0 w g y S T) (k : Kp Non w w') : PrG G w0 w' g y S T := by
  obtain ⟨F, R, R', h1, h2, h3, h4, h5⟩ := h
  exact ⟨F, R, R', h1.keep k, h2.keep k, h3, h4, h5.seq k⟩
theorem PrG.kp {G : Nat → Prop} (h : PrG G w0 w g y S T) : Kp Non w0 w := by
  obtain ⟨_, _, _, _, _, _, _, h5⟩ := h
  exact h5
theorem PrG.lt {G : Nat → Prop} (h : PrG G w0 w g y S T) : ∀ k, G k → w0.heap.size ≤ k ∧ k < w.heap.size := by
  obtain ⟨_, _, _, _, h2, _, h4, _⟩ := h
  exact fun k hk => ⟨(h4 k hk).1, (h2.flt.1 k hk).1⟩
/-- The second has. -/
theorem pr_second (h1 : Wir w g S F R) (h2 : RWir w y T F' R') (h3 : ∀ k, F k → w0.heap.size ≤ k ∧ ¬ F' k ∧ ¬ R' k) (h4 : ∀ k, F' k → w0.heap.size ≤ k ∧ ¬ R k) (h5 : Kp Non w0 w) {T1 : Nat → Cn}
    (g1 : RWir w' y T1 F1 R1) (g2 : ∀ k, F1 k → F' k ∨ w.heap.size ≤ k) (g3 : ∀ k, R1 k → R' k ∨ w.heap.size ≤ k) (k : Kp F' w w') : Pr w0 w' g y S T1 := by
  have hs := h5.size
  refine ⟨F, R, F1, R1, h1.kp k (fun i hi => ⟨fun x => (h3 i x).2.1 hi, (h4 i hi).2⟩), g1, fun k hk => ⟨(h3 k hk).1, fun x => ?_, fun x => ?_⟩, fun k hk => ?_, h5.trans k (fun i hi => .inr (h4 i hi).1)⟩
  · rcases g2 k x with h | h
    · exact (h3 k hk).2.1 h
    · have := (h1.flt.1 k hk).1; omega
  · rcases g3 k x with h | h
    · exact (h3 k hk).2.2 h
    · have := (h1.flt.1 k hk).1; omega
  · rcases g2 k hk with h | h
    · exact h4 k h
    · exact ⟨by omega, fun x => by have := h1.flt.2 k x; omega⟩
/-- The third has. -/
theorem Tri.third {E Q E1 Q1 : Nat → Prop} {A1 : Nat → Cn} (h0 : Wir w o A E Q) (h1 : Wir w g S F R) (h2 : RWir w y T F' R') (hE : ∀ k, E k → w0.heap.size ≤ k ∧ ¬ F k ∧ ¬ R k ∧ ¬ F' k ∧ ¬ R' k) (h3 : ∀ k, F k → w0.heap.size ≤ k ∧ ¬ F' k ∧ ¬ R' k) (h4 : ∀ k, F' k → w0.heap.size ≤ k ∧ ¬ R k) (h5 : Kp Non w0 w)
    (g1 : Wir w' o A1 E1 Q1) (g2 : ∀ k, E1 k → E k ∨ w.heap.size ≤ k) (k : Kp E w w') : Tri w0 w' o g y A1 S T := by
  have hs := h5.size
  refine ⟨E1, Q1, F, R, F', R', g1, h1.kp k (fun i hi => ⟨(hE i hi).2.1, (hE i hi).2.2.1⟩), h2.kp k (fun i hi => (hE i hi).2.2.2), fun k hk => ?_, h3, h4, h5.trans k (fun i hi => .inr (hE i hi).1)⟩
  rcases g2 k hk with h | h
  · exact hE k h
  · exact ⟨by omega, fun x => by have := (h1.flt.1 k x).1; omega, fun x => by have := h1.flt.2 k x; omega, fun x => by have := (h2.flt.1 k x).1; omega, fun x => by have := h2.flt.2 k x; omega⟩
theorem Tri.pr (h : Tri w0 w o g y A S T) : Pr w0 w g y S T := by
  obtain ⟨E, Q, F, R, F', R', h0, h1, h2, hE, h3, h4, h5⟩ := h
  exact ⟨F, R, F', R', h1, h2, h3, h4, h5⟩
theorem Tri.keep (h : Tri w0 w o g y A S T) (k : Kp Non w w') : Tri w0 w' o g y A S T := by
  obtain ⟨E, Q, F, R, F', R', h0, h1, h2, hE, h3, h4, h5⟩ := h
  exact ⟨E, Q, F, R, F', R', h0.keep k, h1.keep k, h2.keep k, hE, h3, h4, h5.seq k⟩
end

section
variable {w0 : World} {o g y : Nat} {A S T : Nat → Cn}
theorem pnew (w : World) (K : Kp Non w0 w) :
    Calls Try.prog 9 #[] w fun e w' => ∃ g F, e = .returned (.pointer (some ⟨g, 0, none⟩)) ∧ Wir w' g S0 F (fun _ => False) ∧ (∀ k, F k → w0.heap.size ≤ k) ∧ Kp Non w0 w' := by
  refine (new_calls w).mono ?_
  rintro e w1 ⟨g, F, rfl, h1, h2, k1⟩
  exact ⟨g, F, rfl, h1, fun k hk => by have := h2 k hk; have := K.size; omega, K.seq k1⟩
theorem pnew2 {F : Nat → Prop} (w : World) (h1 : Wir w g S0 F (fun _ => False)) (h2 : ∀ k, F k → w0.heap.size ≤ k) (K : Kp Non w0 w) :
    Calls Try.prog 21 #[] w fun e w' => ∃ y, e = .returned (.pointer (some ⟨y, 0, none⟩)) ∧ Pr w0 w' g y S0 S0 := by
  refine (rnewW_calls w).mono ?_
  rintro e w1 ⟨y, F', rfl, h3, h4, k1⟩
  have hs := K.size
  exact ⟨y, rfl, F, _, F', _, h1.keep k1, h3, fun k hk => ⟨h2 k hk, fun x => by have := (h1.flt.1 k hk).1; have := h4 k x; omega, fun x => x⟩, fun k hk => ⟨by have := h4 k hk; omega, fun x => x⟩, K.seq k1⟩

theorem phappen {G : Nat → Prop} {wb : World} (kd conn n : Int) (v : Value) (rv : Option Nat) (l : List UInt8) (w : World) (h : PrG G w0 wb g y S T) (kb : Kp Non wb w) (hv : Rd w v rv (byv l)) (hr : ∀ k, rv = some k → k < w0.heap.size) (hl : l.length ≤ 140737488300000) :
    Calls Try.prog 12 #[.pointer (some ⟨g, 0, none⟩), evt kd conn n v] w fun e w' => ∃ v1 r1, e = .returned (.tuple #[v1, .int .i64 (hapE S kd conn n l)]) ∧
      Own w' 5 1 v1 r1 (hapB S kd conn n l).length (byv (hapB S kd conn n l)) ∧ PrG G w0 w' g y (hapS S kd conn n l) T ∧ (∀ k, r1 = some k → w.heap.size ≤ k) ∧ ∃ Z, Kp Z w w' ∧ ∀ k, Z k → w0.heap.size ≤ k ∧ k < wb.heap.size := by
  have hZ : ∀ (F R : Nat → Prop), Wir wb g S F R → ∀ k, F k → k < wb.heap.size := fun F R h k hk => (h.flt.1 k hk).1
  obtain ⟨F, R, R', h1, h2, h3, h4, h5⟩ := h
  refine (happen_calls kd conn n v rv l w (h1.keep kb) hv (fun k hk hF => by have := hr k hk; have := (h3 k hF).1; omega) hl).mono ?_
  rintro e w1 ⟨v1, r1, F1, rfl, o1, n1, g1, g2, k1⟩
  exact ⟨v1, r1, rfl, o1, pr_first (h1.keep kb) (h2.keep kb) h3 h4 (h5.seq kb) g1 g2 (fun k hk => .inl hk) k1, n1, F, k1, fun k hk => ⟨(h3 k hk).1, hZ F R h1 k hk⟩⟩
theorem phappen2 {G : Nat → Prop} (kd conn n : Int) (v : Value) (rv : Option Nat) (l : List UInt8) (w : World) (h : PrG G w0 w g y S T) (hv : Rd w v rv (byv l)) (hr : ∀ k, rv = some k → k < w0.heap.size) (hl : l.length ≤ 140737488300000) :
    Calls Try.prog 26 #[.pointer (some ⟨y, 0, none⟩), evt kd conn n v] w fun e w' => ∃ v1 r1, e = .returned (.tuple #[v1, .int .i64 (hapE T kd conn n l)]) ∧
      Own w' 5 1 v1 r1 (hapB T kd conn n l).length (byv (hapB T kd conn n l)) ∧ Pr w0 w' g y S (hapS T kd conn n l) ∧ Kp G w w' := by
  obtain ⟨F, R, R', h1, h2, h3, h4, h5⟩ := h
  refine (rhappen_calls kd conn n v rv l w h2 hv (fun k hk hF => by have := hr k hk; have := (h4 k hF).1; omega) hl).mono ?_
  rintro e w1 ⟨v1, r1, F1, rfl, o1, n1, g1, g2, k1⟩
  exact ⟨v1, r1, rfl, o1, pr_second h1 h2 h3 h4 h5 g1 g2 (fun k hk => .inl hk) k1, k1⟩
theorem pask (w : World) (h : Pr w0 w g y S T) (hb : Bd S) :
    Calls Try.prog 11 #[.pointer (some ⟨g, 0, none⟩)] w fun e w' => e = .returned (.bool (decide ((S 1).st ≠ 1))) ∧ Pr w0 w' g y (askS S) T := by
  obtain ⟨F, R, F', R', h1, h2, h3, h4, h5⟩ := h
  refine (ask_calls g S F R w h1 hb).mono ?_
  rintro e w1 ⟨F1, R1, rfl, g1, g2, g3, k1⟩
  exact ⟨rfl, (pr_first h1 h2 h3 h4 h5 g1 g2 g3 k1).pr⟩
theorem pask2 (w : World) (h : Pr w0 w g y S T) (hb : Bd T) :
    Calls Try.prog 24 #[.pointer (some ⟨y, 0, none⟩)] w fun e w' => e = .returned (.bool (decide ((T 1).st ≠ 1))) ∧ Pr w0 w' g y S (askS T) := by
  obtain ⟨F, R, F', R', h1, h2, h3, h4, h5⟩ := h
  refine (rask_calls y T F' R' w h2 hb).mono ?_
  rintro e w1 ⟨F1, R1, rfl, g1, g2, g3, k1⟩
  exact ⟨rfl, pr_second h1 h2 h3 h4 h5 g1 g2 g3 k1⟩
theorem pwrite {G : Nat → Prop} {wb : World} (conn : Int) (v : Value) (rv : Option Nat) (l : List UInt8) (w : World) (h : PrG G w0 wb g y S T) (kb : Kp Non wb w) (hv : Rd w v rv (byv l)) (hl : l.length ≤ 140737488300000) :
    Calls Try.prog 16 #[.pointer (some ⟨g, 0, none⟩), .int .i64 conn, v] w fun e w' => e = .returned (.int .i64 (writeE S conn l)) ∧ PrG G w0 w' g y (writeS S conn l) T ∧ ∃ Z, Kp Z w w' ∧ ∀ k, Z k → w0.heap.size ≤ k ∧ k < wb.heap.size := by
  have hZ : ∀ (F R : Nat → Prop), Wir wb g S F R → ∀ k, F k → k < wb.heap.size := fun F R h k hk => (h.flt.1 k hk).1
  obtain ⟨F, R, R', h1, h2, h3, h4, h5⟩ := h
  refine (write_calls g S F R conn v rv l w (h1.keep kb) hv hl).mono ?_
  rintro e w1 ⟨F1, rfl, g1, g2, k1⟩
  exact ⟨rfl, pr_first (h1.keep kb) (h2.keep kb) h3 h4 (h5.seq kb) g1 g2 (fun k hk => .inl hk) k1, F, k1, fun k hk => ⟨(h3 k hk).1, hZ F R h1 k hk⟩⟩
theorem pwrite2 {G : Nat → Prop} (conn : Int) (v : Value) (rv : Option Nat) (l : List UInt8) (w : World) (h : PrG G w0 w g y S T) (hv : Rd w v rv (byv l)) (hl : l.length ≤ 140737488300000) :
    Calls Try.prog 22 #[.pointer (some ⟨y, 0, none⟩), .int .i64 conn, v] w fun e w' => e = .returned (.int .i64 (writeE T conn l)) ∧ Pr w0 w' g y S (writeS T conn l) ∧ Kp G w w' := by
  obtain ⟨F, R, R', h1, h2, h3, h4, h5⟩ := h
  refine (rwrite_calls y T G R' conn v rv l w h2 hv hl).mono ?_
  rintro e w1 ⟨F1, rfl, g1, g2, k1⟩
  exact ⟨rfl, pr_second h1 h2 h3 h4 h5 g1 g2 (fun k hk => .inl hk) k1, k1⟩
theorem pfinish {G : Nat → Prop} {wb : World} (conn : Int) (w : World) (h : PrG G w0 wb g y S T) (kb : Kp Non wb w) :
    Calls Try.prog 18 #[.pointer (some ⟨g, 0, none⟩), .int .i64 conn] w fun e w' => e = .returned (.tuple #[]) ∧ PrG G w0 w' g y (finS S conn) T ∧ ∃ Z, Kp Z w w' ∧ ∀ k, Z k → w0.heap.size ≤ k ∧ k < wb.heap.size := by
  have hZ : ∀ (F R : Nat → Prop), Wir wb g S F R → ∀ k, F k → k < wb.heap.size := fun F R h k hk => (h.flt.1 k hk).1
  obtain ⟨F, R, R', h1, h2, h3, h4, h5⟩ := h
  refine (finish_calls g S F R conn w (h1.keep kb)).mono ?_
  rintro e w1 ⟨rfl, g1, k1⟩
  exact ⟨rfl, pr_first (h1.keep kb) (h2.keep kb) h3 h4 (h5.seq kb) g1 (fun k hk => .inl hk) (fun k hk => .inl hk) k1, F, k1, fun k hk => ⟨(h3 k hk).1, hZ F R h1 k hk⟩⟩
theorem pfinish2 (conn : Int) (w : World) (h : Pr w0 w g y S T) :
    Calls Try.prog 23 #[.pointer (some ⟨y, 0, none⟩), .int .i64 conn] w fun e w' => e = .returned (.tuple #[]) ∧ Pr w0 w' g y S (finS T conn) := by
  obtain ⟨F, R, F', R', h1, h2, h3, h4, h5⟩ := h
  refine (rfinish_calls y T F' R' conn w h2).mono ?_
  rintro e w1 ⟨rfl, g1, k1⟩
  exact ⟨rfl, pr_second h1 h2 h3 h4 h5 g1 (fun k hk => .inl hk) (fun k hk => .inl hk) k1⟩
theorem pclone (w : World) (h : Pr w0 w g y S T) :
    Calls Try.prog 25 #[.pointer (some ⟨g, 0, none⟩)] w fun e w' => ∃ n, e = .returned (.pointer (some ⟨n, 0, none⟩)) ∧ Tri w0 w' g n y S S T := by
  obtain ⟨F, R, F', R', h1, h2, h3, h4, h5⟩ := h
  refine (wclone_calls g S F R w h1).mono ?_
  rintro e w1 ⟨n, F1, rfl, g1, g2, k1⟩
  have hs := h5.size
  refine ⟨n, rfl, F, R, F1, R, F', R', h1.keep k1, g1, h2.keep k1, fun k hk => ⟨(h3 k hk).1, fun x => by have := g2 k x; have := (h1.flt.1 k hk).1; omega, (h1.flt.1 k hk).2, (h3 k hk).2⟩, fun k hk => ⟨by have := g2 k hk; omega, fun x => by have := g2 k hk; have := (h2.flt.1 k x).1; omega, fun x => by have := g2 k hk; have := h2.flt.2 k x; omega⟩, h4, h5.seq k1⟩
theorem twrite (conn : Int) (v : Value) (rv : Option Nat) (l : List UInt8) (w : World) (h : Tri w0 w o g y A S T) (hv : Rd w v rv (byv l)) (hl : l.length ≤ 140737488300000) :
    Calls Try.prog 16 #[.pointer (some ⟨o, 0, none⟩), .int .i64 conn, v] w fun e w' => e = .returned (.int .i64 (writeE A conn l)) ∧ Tri w0 w' o g y (writeS A conn l) S T := by
  obtain ⟨E, Q, F, R, F', R', h0, h1, h2, hE, h3, h4, h5⟩ := h
  refine (write_calls o A E Q conn v rv l w h0 hv hl).mono ?_
  rintro e w1 ⟨F1, rfl, g1, g2, k1⟩
  exact ⟨rfl, Tri.third h0 h1 h2 hE h3 h4 h5 g1 g2 k1⟩
theorem thappen (kd conn n : Int) (v : Value) (l : List UInt8) (w : World) (h : Tri w0 w o g y A S T) (hv : Rd w v none (byv l)) (hl : l.length ≤ 140737488300000) :
    Calls Try.prog 12 #[.pointer (some ⟨o, 0, none⟩), evt kd conn n v] w fun e w' => ∃ v1, e = .returned v1 ∧ Tri w0 w' o g y (hapS A kd conn n l) S T := by
  obtain ⟨E, Q, F, R, F', R', h0, h1, h2, hE, h3, h4, h5⟩ := h
  refine (happen_calls kd conn n v none l w h0 hv (fun k hk => by cases hk) hl).mono ?_
  rintro e w1 ⟨v1, r1, F1, rfl, o1, n1, g1, g2, k1⟩
  exact ⟨_, rfl, Tri.third h0 h1 h2 hE h3 h4 h5 g1 g2 k1⟩
theorem task (w : World) (h : Tri w0 w o g y A S T) (hb : Bd A) :
    Calls Try.prog 11 #[.pointer (some ⟨o, 0, none⟩)] w fun e w' => ∃ v1, e = .returned v1 ∧ Pr w0 w' g y S T := by
  obtain ⟨E, Q, F, R, F', R', h0, h1, h2, hE, h3, h4, h5⟩ := h
  refine (ask_calls o A E Q w h0 hb).mono ?_
  rintro e w1 ⟨F1, R1, rfl, g1, g2, g3, k1⟩
  exact ⟨_, rfl, (Tri.third h0 h1 h2 hE h3 h4 h5 g1 g2 k1).pr⟩
/-- What they tell: the first's, the second's. -/
theorem pstate (conn : Int) (w : World) (h : Pr w0 w g y S T) :
    Calls Try.prog 10 #[.pointer (some ⟨g, 0, none⟩), .int .i64 conn] w fun e w' => e = .returned (.int .i64 (gt S conn Cn.st 0)) ∧ Kp Non w w' := by
  obtain ⟨F, R, F', R', h1, h2, h3, h4, h5⟩ := h
  exact state_calls g S F R conn w h1
theorem pstate2 (conn : Int) (w : World) (h : Pr w0 w g y S T) :
    Calls Try.prog 27 #[.pointer (some ⟨y, 0, none⟩), .int .i64 conn] w fun e w' => e = .returned (.int .i64 (gt T conn Cn.st 0)) ∧ Kp Non w w' := by
  obtain ⟨F, R, F', R', h1, h2, h3, h4, h5⟩ := h
  exact rstate_calls conn w h2
theorem pfinished (conn : Int) (w : World) (h : Pr w0 w g y S T) :
    Calls Try.prog 17 #[.pointer (some ⟨g, 0, none⟩), .int .i64 conn] w fun e w' => e = .returned (.bool (gt S conn Cn.done false)) ∧ Kp Non w w' := by
  obtain ⟨F, R, F', R', h1, h2, h3, h4, h5⟩ := h
  exact finished_calls g S F R conn w h1
theorem pfinished2 (conn : Int) (w : World) (h : Pr w0 w g y S T) :
    Calls Try.prog 31 #[.pointer (some ⟨y, 0, none⟩), .int .i64 conn] w fun e w' => e = .returned (.bool (gt T conn Cn.done false)) ∧ Kp Non w w' := by
  obtain ⟨F, R, F', R', h1, h2, h3, h4, h5⟩ := h
  exact rfinished_calls conn w h2
theorem pwaits (conn : Int) (w : World) (h : Pr w0 w g y S T) :
    Calls Try.prog 20 #[.pointer (some ⟨g, 0, none⟩), .int .i64 conn] w fun e w' => e = .returned (.int .i64 (gt S conn Cn.waits 0)) ∧ Kp Non w w' := by
  obtain ⟨F, R, F', R', h1, h2, h3, h4, h5⟩ := h
  exact waits_calls g S F R conn w h1
theorem pwaits2 (conn : Int) (w : World) (h : Pr w0 w g y S T) :
    Calls Try.prog 28 #[.pointer (some ⟨y, 0, none⟩), .int .i64 conn] w fun e w' => e = .returned (.int .i64 (gt T conn Cn.waits 0)) ∧ Kp Non w w' := by
  obtain ⟨F, R, F', R', h1, h2, h3, h4, h5⟩ := h
  exact rwaits_calls conn w h2
theorem psent (conn : Int) (w : World) (h : Pr w0 w g y S T) (hb : Bd S) :
    Calls Try.prog 15 #[.pointer (some ⟨g, 0, none⟩), .int .i64 conn] w fun e w' => ∃ v r1, e = .returned v ∧ Own w' 5 1 v r1 (gt S conn Cn.sent []).length (byv (gt S conn Cn.sent [])) ∧ (∀ k, r1 = some k → w.heap.size ≤ k) ∧ Kp Non w w' := by
  obtain ⟨F, R, F', R', h1, h2, h3, h4, h5⟩ := h
  exact sent_calls g S F R conn w h1 hb
theorem psent2 (conn : Int) (w : World) (h : Pr w0 w g y S T) (hb : Bd T) :
    Calls Try.prog 29 #[.pointer (some ⟨y, 0, none⟩), .int .i64 conn] w fun e w' => ∃ v r1, e = .returned v ∧ Own w' 5 1 v r1 (gt T conn Cn.sent []).length (byv (gt T conn Cn.sent [])) ∧ (∀ k, r1 = some k → w.heap.size ≤ k) ∧ Kp Non w w' := by
  obtain ⟨F, R, F', R', h1, h2, h3, h4, h5⟩ := h
  exact rsent_calls conn w h2 hb
theorem pwritten (conn : Int) (w : World) (h : Pr w0 w g y S T) (hb : Bd S) :
    Calls Try.prog 19 #[.pointer (some ⟨g, 0, none⟩), .int .i64 conn] w fun e w' => ∃ v r1, e = .returned v ∧ Own w' 5 1 v r1 (gt S conn Cn.written []).length (byv (gt S conn Cn.written [])) ∧ (∀ k, r1 = some k → w.heap.size ≤ k) ∧ Kp Non w w' := by
  obtain ⟨F, R, F', R', h1, h2, h3, h4, h5⟩ := h
  exact written_calls g S F R conn w h1 hb
theorem pwritten2 (conn : Int) (w : World) (h : Pr w0 w g y S T) (hb : Bd T) :
    Calls Try.prog 30 #[.pointer (some ⟨y, 0, none⟩), .int .i64 conn] w fun e w' => ∃ v r1, e = .returned v ∧ Own w' 5 1 v r1 (gt T conn Cn.written []).length (byv (gt T conn Cn.written [])) ∧ (∀ k, r1 = some k → w.heap.size ≤ k) ∧ Kp Non w w' := by
  obtain ⟨F, R, F', R', h1, h2, h3, h4, h5⟩ := h
  exact rwritten_calls conn w h2 hb
end

end Go.Proofs.Ytpbkipolgdldfaa

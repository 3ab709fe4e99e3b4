/- The things that are done, opened: a slice of structs of a kind, a number and bytes. -/
import Derived.Test.YthkhdkjebgemeaaRows
import Derived.Test.YthkhdkjebgemeaaOpen
import Derived.Deep.Strs
namespace Go.Proofs.Ythkhdkjebgemeaa
open Go.ChangeShapes Go.WideShapes Go.RowKit
set_option linter.unusedSimpArgs false
set_option linter.unusedVariables false

/-- The ops: each element's three cells. -/
def OpsQ (w : World) (v : Value) (CS : List (List Value)) : Prop :=
  RdS w v 3 CS ∧ ∀ cs ∈ CS, ∃ (kd n : Int) (vb : Value) (rb : Option Nat) (lb : List UInt8), cs = [.int .u8 kd, .int .i64 n, vb] ∧ 0 ≤ kd ∧ kd ≤ 255 ∧ Rd w vb rb (byv lb)

theorem sees_ops {H : Type} {enc : TypeId × Value → H} {w : World} {base : Nat} {spare : Nat → Bool} {held : Bool} {fuel : Nat} {cs : List Value} {x : DataW H × List MemPlace}
    (h : DataW.trod enc Try.prog w base spare held fuel 38 cs = some x) : ∃ (v : Value) (CS : List (List Value)), cs = [v] ∧ OpsQ w v CS := by
  have hc : Try.prog.cellsOf 42 = 3 := by kernel_rfl
  have h5 : Try.prog.cellsOf 5 = 1 := by kernel_rfl
  have h3 : Try.prog.cellsOf 3 = 1 := by kernel_rfl
  have h23 : Try.prog.cellsOf 23 = 1 := by kernel_rfl
  obtain ⟨v, CS, hv, hR, hel⟩ := sees_slice Try.underlying38 (by omega) h
  rw [hc] at hR
  refine ⟨v, CS, hv, hR, fun c hcm => ?_⟩
  obtain ⟨n, y, hy⟩ := hel c hcm
  have hlen : c.length = 3 := hR.choose_spec.choose_spec.2.2.2.1 c hcm
  obtain ⟨y0, y1, y2, n', _, _, h0, h1, h2⟩ := Go.Deep.trod_struct3 Try.underlying42 hy
  match c, hlen with
  | [c0, c1, c2], _ =>
    simp only [h5, h3, h23, List.drop_zero, List.drop_succ_cons, List.take_succ_cons, List.take_zero] at h0 h1 h2
    obtain ⟨kd, e0, _, w0⟩ := DataW.trod_int Try.underlying5 h0
    obtain ⟨nn, e1, _, w1⟩ := DataW.trod_int Try.underlying3 h1
    obtain ⟨vb, rb, lb, e2, hb⟩ := sees_bytes Try.underlying23 Try.underlying5 h5 h2
    simp only [List.cons.injEq, and_true] at e0 e1 e2
    subst e0 e1 e2
    have := bounds_u8 w0
    exact ⟨kd, nn, c2, rb, lb, rfl, this.1, this.2, hb⟩

end Go.Proofs.Ythkhdkjebgemeaa

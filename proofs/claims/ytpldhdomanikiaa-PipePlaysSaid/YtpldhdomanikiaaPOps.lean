/- The things that are done, opened: a slice of structs of a kind, a want and a code. -/
import Derived.Test.YtpldhdomanikiaaRows
import Derived.Test.YtpldhdomanikiaaOpen
import Derived.Deep.Strs
import Derived.Lib.SmallJoins
import Derived.Test.YtpldhdomanikiaaPipe
namespace Go.Proofs.Ytpldhdomanikiaa
open Go.ChangeShapes Go.WideShapes Go.RowKit
set_option linter.unusedSimpArgs false
set_option linter.unusedVariables false

/-- The ops: each element's six cells. -/
def OpsP (w : World) (v : Value) (CS : List (List Value)) : Prop :=
  RdS w v 6 CS ∧ ∀ cs ∈ CS, ∃ (kd : Int) (x : Wn) (c : ByteArray), cs = [.int .u8 kd, .string x.t, .string x.c, .bool x.b, .int .i64 x.d, .string c] ∧ 0 ≤ kd ∧ kd ≤ 255

theorem sees_pops {H : Type} {enc : TypeId × Value → H} {w : World} {base : Nat} {spare : Nat → Bool} {held : Bool} {fuel : Nat} {cs : List Value} {x : DataW H × List MemPlace}
    (h : DataW.trod enc Try.prog w base spare held fuel 22 cs = some x) : ∃ (v : Value) (CS : List (List Value)), cs = [v] ∧ OpsP w v CS := by
  have hc : Try.prog.cellsOf 30 = 6 := by kernel_rfl
  have h5 : Try.prog.cellsOf 5 = 1 := by kernel_rfl
  have h3 : Try.prog.cellsOf 3 = 1 := by kernel_rfl
  have h4 : Try.prog.cellsOf 4 = 1 := by kernel_rfl
  have h9 : Try.prog.cellsOf 9 = 1 := by kernel_rfl
  have h28 : Try.prog.cellsOf 28 = 4 := by kernel_rfl
  obtain ⟨v, CS, hv, hR, hel⟩ := sees_slice Try.underlying22 (by omega) h
  rw [hc] at hR
  refine ⟨v, CS, hv, hR, fun c hcm => ?_⟩
  obtain ⟨n, y, hy⟩ := hel c hcm
  have hlen : c.length = 6 := hR.choose_spec.choose_spec.2.2.2.1 c hcm
  obtain ⟨y0, y1, y2, n', _, _, e0, e1, e2⟩ := Go.Deep.trod_struct3 Try.underlying30 hy
  match c, hlen with
  | [c0, c1, c2, c3, c4, c5], _ =>
    simp only [h5, h28, h9, List.drop_zero, List.drop_succ_cons, List.take_succ_cons, List.take_zero] at e0 e1 e2
    obtain ⟨z0, z1, z2, z3, n2, _, _, d0, d1, d2, d3⟩ := Go.Joins.trod_struct4 Try.underlying28 e1
    simp only [h9, h3, h4, List.drop_zero, List.drop_succ_cons, List.take_succ_cons, List.take_zero] at d0 d1 d2 d3
    obtain ⟨kd, e0, _, w0⟩ := DataW.trod_int Try.underlying5 e0
    obtain ⟨t, d0, _, _⟩ := DataW.trod_string Try.underlying9 d0
    obtain ⟨cc, d1, _, _⟩ := DataW.trod_string Try.underlying9 d1
    obtain ⟨b, d2, _⟩ := DataW.trod_bool Try.underlying4 d2
    obtain ⟨d, d3, _, _⟩ := DataW.trod_int Try.underlying3 d3
    obtain ⟨co, e2, _, _⟩ := DataW.trod_string Try.underlying9 e2
    simp only [List.cons.injEq, and_true] at e0 d0 d1 d2 d3 e2
    subst e0 d0 d1 d2 d3 e2
    have := bounds_u8 w0
    exact ⟨kd, ⟨t, cc, b, d⟩, co, rfl, this.1, this.2⟩

end Go.Proofs.Ytpldhdomanikiaa

/- The things that are done, opened: a slice of structs of a kind, a connection, bytes and an event. -/
import Derived.Test.YtpbkipolgdldfaaRows
import Derived.Test.YtpbkipolgdldfaaOpen
import Derived.Deep.Strs
import Derived.Lib.SmallJoins
namespace Go.Proofs.Ytpbkipolgdldfaa
open Go.ChangeShapes Go.WideShapes Go.RowKit
set_option linter.unusedSimpArgs false
set_option linter.unusedVariables false

/-- The ops: each element's seven cells. -/
def OpsW (w : World) (v : Value) (CS : List (List Value)) : Prop :=
  RdS w v 7 CS ∧ ∀ cs ∈ CS, ∃ (kd conn ek ec en : Int) (vb ve : Value) (rb re : Option Nat) (lb le : List UInt8), cs = [.int .u8 kd, .int .i64 conn, vb, .int .i64 ek, .int .i64 ec, .int .i64 en, ve] ∧ 0 ≤ kd ∧ kd ≤ 255 ∧ Rd w vb rb (byv lb) ∧ Rd w ve re (byv le)

theorem sees_wops {H : Type} {enc : TypeId × Value → H} {w : World} {base : Nat} {spare : Nat → Bool} {held : Bool} {fuel : Nat} {cs : List Value} {x : DataW H × List MemPlace}
    (h : DataW.trod enc Try.prog w base spare held fuel 22 cs = some x) : ∃ (v : Value) (CS : List (List Value)), cs = [v] ∧ OpsW w v CS := by
  have hc : Try.prog.cellsOf 30 = 7 := by kernel_rfl
  have h5 : Try.prog.cellsOf 5 = 1 := by kernel_rfl
  have h3 : Try.prog.cellsOf 3 = 1 := by kernel_rfl
  have h26 : Try.prog.cellsOf 26 = 1 := by kernel_rfl
  have h28 : Try.prog.cellsOf 28 = 4 := by kernel_rfl
  obtain ⟨v, CS, hv, hR, hel⟩ := sees_slice Try.underlying22 (by omega) h
  rw [hc] at hR
  refine ⟨v, CS, hv, hR, fun c hcm => ?_⟩
  obtain ⟨n, y, hy⟩ := hel c hcm
  have hlen : c.length = 7 := hR.choose_spec.choose_spec.2.2.2.1 c hcm
  obtain ⟨y0, y1, y2, y3, n', _, _, e0, e1, e2, e3⟩ := Go.Joins.trod_struct4 Try.underlying30 hy
  match c, hlen with
  | [c0, c1, c2, c3, c4, c5, c6], _ =>
    simp only [h5, h3, h26, h28, List.drop_zero, List.drop_succ_cons, List.take_succ_cons, List.take_zero] at e0 e1 e2 e3
    obtain ⟨z0, z1, z2, z3, n2, _, _, d0, d1, d2, d3⟩ := Go.Joins.trod_struct4 Try.underlying28 e3
    simp only [h3, h26, List.drop_zero, List.drop_succ_cons, List.take_succ_cons, List.take_zero] at d0 d1 d2 d3
    obtain ⟨kd, e0, _, w0⟩ := DataW.trod_int Try.underlying5 e0
    obtain ⟨conn, e1, _, _⟩ := DataW.trod_int Try.underlying3 e1
    obtain ⟨vb, rb, lb, e2, hb⟩ := sees_bytes Try.underlying26 Try.underlying5 h5 e2
    obtain ⟨ek, d0, _, _⟩ := DataW.trod_int Try.underlying3 d0
    obtain ⟨ec, d1, _, _⟩ := DataW.trod_int Try.underlying3 d1
    obtain ⟨en, d2, _, _⟩ := DataW.trod_int Try.underlying3 d2
    obtain ⟨ve, re, le, d3, he⟩ := sees_bytes Try.underlying26 Try.underlying5 h5 d3
    simp only [List.cons.injEq, and_true] at e0 e1 e2 d0 d1 d2 d3
    subst e0 e1 e2 d0 d1 d2 d3
    have := bounds_u8 w0
    exact ⟨kd, conn, ek, ec, en, c2, c6, rb, re, lb, le, rfl, this.1, this.2, hb, he⟩

end Go.Proofs.Ytpbkipolgdldfaa

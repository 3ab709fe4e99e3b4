/- A slice of strings that came in, opened. -/
import Derived.Test.YtghfngnakoccbaaDoorOpen
namespace Go.Proofs.YtghfngnakoccbaaDoor
open Go.ChangeShapes Go.WideShapes Go.RowKit
set_option linter.unusedSimpArgs false
set_option linter.unusedVariables false

theorem strOf_data (s : ByteArray) : strOf s.data.toList = s := by
  apply ByteArray.ext
  simp [strOf]

/-- []string. -/
def Strs (w : World) (v : Value) (ls : List (List UInt8)) : Prop :=
  ∃ r, Rd w v r (ls.map fun s => Value.string (strOf s)) ∧ ∀ s ∈ ls, s.length ≤ maxLen
theorem Strs.keep {w w' : World} {v : Value} {ls : List (List UInt8)} (h : Strs w v ls) (k : Kp Non w w') : Strs w' v ls := by
  obtain ⟨r, h1, h2⟩ := h
  exact ⟨r, h1.keep k, h2⟩
section
variable {H : Type} {enc : TypeId × Value → H} {P : Program} {w : World} {base : Nat} {spare : Nat → Bool} {held : Bool}
theorem sees_strings {t e : TypeId} {fuel : Nat} {cs : List Value} {x : DataW H × List MemPlace} (ht : P.underlying t = some (.slice e)) (he : P.underlying e = some .string) (hc : P.cellsOf e = 1)
    (h : DataW.trod enc P w base spare held fuel t cs = some x) : ∃ (v : Value) (ls : List (List UInt8)), cs = [v] ∧ Strs w v ls := by
  obtain ⟨v, CS, hv, hR, hel⟩ := sees_slice ht (by omega) h
  rw [hc] at hR
  obtain ⟨l, hl, hq⟩ := list_map_of (f := fun s : List UInt8 => [Value.string (strOf s)]) (q := fun s => s.length ≤ maxLen) (l := CS) (fun c hcm => by
    obtain ⟨n, y, hy⟩ := hel c hcm
    obtain ⟨s, rfl, _, hs⟩ := DataW.trod_string he hy
    exact ⟨s.data.toList, by rw [strOf_data], by rw [Array.length_toList]; exact hs⟩)
  obtain ⟨r, hr⟩ := hR.one (l := l.map fun s => Value.string (strOf s)) (by rw [hl, List.map_map]; rfl)
  exact ⟨v, l, hv, r, hr, hq⟩
end

end Go.Proofs.YtghfngnakoccbaaDoor

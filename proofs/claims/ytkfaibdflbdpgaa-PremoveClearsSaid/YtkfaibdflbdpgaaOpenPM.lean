/- Announced moves that came in. -/
import Derived.Test.YtkfaibdflbdpgaaOpenV
import Derived.Test.YtkfaibdflbdpgaaPrem1
namespace Go.Proofs.Ytkfaibdflbdpgaa
open Go.ChangeShapes Go.WideShapes Go.ChangeAt Go.RowKit Go.Deep
set_option linter.unusedVariables false
section
variable {H : Type} {enc : TypeId × Value → H} {w : World}
set_option maxRecDepth 100000 in
theorem open_prem (fuel : Nat) (cs : List Value) (y : DataW H × List MemPlace) (h : DataW.trod enc Try.prog w 0 (fun _ => true) true fuel 121 cs = some y) : ∃ x, premEl.E w x cs := by
  obtain ⟨xs, n, _, _, hlen, hxl, hf⟩ := DataW.trod_struct Try.underlying121 h
  obtain ⟨a, b, c, d, rfl⟩ := four_cells (hlen.trans (by kernel_rfl))
  have f0 := fld hf 0 0 1 3 (by kernel_rfl) (by kernel_rfl)
  have f1 := fld hf 1 1 3 42 (by kernel_rfl) (by kernel_rfl)
  have hx : xs.length = 2 := hxl
  obtain ⟨y0, y1, rfl⟩ : ∃ a b, xs = [a, b] := by
    match xs, hx with
    | [a, b], _ => exact ⟨a, b, rfl⟩
  obtain ⟨n0, e0, -, -⟩ := DataW.trod_int Try.underlying3 f0
  obtain ⟨m, hm⟩ := open_move (enc := enc) (w := w) _ _ _ f1
  simp only [moveEl] at hm
  simp at e0 hm
  obtain ⟨rfl, rfl, rfl⟩ := hm
  subst e0
  exact ⟨⟨n0, m⟩, rfl⟩
set_option maxRecDepth 100000 in
theorem open_prems {r : Reach} {base : Nat} {v : Value} {d : DataW H} {p : List MemPlace} (hv : Value.okWide Try.prog w r base 62 v) (h : DataW.Trod enc Try.prog w 0 (fun _ => true) true 62 v d p) : ∃ xs, RdL premEl w v xs :=
  open_listV premEl Try.underlying62 (by kernel_rfl) (by decide) (open_prem (enc := enc) (w := w)) hv h
end
end Go.Proofs.Ytkfaibdflbdpgaa

/- A pattern that came in. -/
import Derived.Test.YtkfaibdflbdpgaaOpenR
namespace Go.Proofs.Ytkfaibdflbdpgaa
open Go.ChangeShapes Go.WideShapes Go.ChangeAt Go.RowKit Go.Deep
set_option linter.unusedVariables false
section
variable {H : Type} {enc : TypeId × Value → H} {w : World}
set_option maxRecDepth 100000 in
theorem open_X {r : Reach} {base : Nat} {v : Value} {d : DataW H} {p : List MemPlace} (hv : Value.okWide Try.prog w r base 78 v) (h : DataW.Trod enc Try.prog w 0 (fun _ => true) true 78 v d p) :
    ∃ (W H T : Int) (vx : Value) (cells : List Int), v = .agg #[.int .i64 W, .int .i64 H, vx, .int .i64 T] ∧ RdI w vx cells := by
  obtain ⟨cs, rfl, hl, hcell⟩ := okWide_cells (ts := [3, 3, 23, 3]) Try.underlying78 (by kernel_rfl) (by kernel_rfl) hv
  obtain ⟨fuel, hf⟩ := h
  simp only [Value.cells] at hf
  obtain ⟨xs, n, _, hxl, hf⟩ := trod_flat Try.underlying78 (by kernel_rfl) hf
  obtain ⟨a, b, c, d, rfl⟩ := four_cells hl
  have hx : xs.length = 4 := hxl
  obtain ⟨y0, y1, y2, y3, rfl⟩ : ∃ a b c d, xs = [a, b, c, d] := by
    match xs, hx with
    | [a, b, c, d], _ => exact ⟨a, b, c, d, rfl⟩
  have f0 := hf 0 _ rfl
  have f1 := hf 1 _ rfl
  have f2 := hf 2 _ rfl
  have f3 := hf 3 _ rfl
  obtain ⟨n0, e0, -, -⟩ := DataW.trod_int Try.underlying3 f0
  obtain ⟨n1, e1, -, -⟩ := DataW.trod_int Try.underlying3 f1
  obtain ⟨n3, e3, -, -⟩ := DataW.trod_int Try.underlying3 f3
  simp at e0 e1 e3
  subst e0 e1 e3
  obtain ⟨u, hu, hc2⟩ := hcell 2 c rfl
  simp at hu
  subst hu
  obtain ⟨zs, hz⟩ := open_ints_cell Try.underlying23 Try.underlying3 (by kernel_rfl) hc2 (by simpa using f2)
  exact ⟨n0, n1, n3, c, zs, rfl, hz⟩
end
end Go.Proofs.Ytkfaibdflbdpgaa

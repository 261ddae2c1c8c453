/- A record that came in. -/
import Derived.Test.YthklhndcdijneaaGreatDoorC36
import Derived.Test.YthklhndcdijneaaGreatDoorC19
namespace Go.Proofs.YthklhndcdijneaaGreatDoor
open Go.ChangeShapes Go.WideShapes Go.ChangeAt Go.RowKit Go.Deep
set_option linter.unusedVariables false
set_option maxRecDepth 100000
section
variable {H : Type} {enc : TypeId × Value → H} {w : World}
theorem five_cells {cs : List Value} (h : cs.length = 5) : ∃ a b c d e, cs = [a, b, c, d, e] := by
 match cs, h with
 | [a, b, c, d, e], _ => exact ⟨a, b, c, d, e, rfl⟩
theorem two_cells {cs : List Value} (h : cs.length = 2) : ∃ a b, cs = [a, b] := by
 match cs, h with
 | [a, b], _ => exact ⟨a, b, rfl⟩
theorem open_node (fuel : Nat) (cs : List Value) (y : DataW H × List MemPlace) (h : DataW.trod enc Tryz.prog w 0 (fun _ => true) true fuel 46 cs = some y) : ∃ x, nodeEl.E w x cs := by
 obtain ⟨xs, n, _, _, hlen, hxl, hf⟩ := DataW.trod_struct Tryz.underlying46 h
 obtain ⟨a, b, c, d, e, rfl⟩ := five_cells (hlen.trans (by kernel_rfl))
 have f0 := fld hf 0 0 1 3 (by kernel_rfl) (by kernel_rfl)
 have f1 := fld hf 1 1 3 44 (by kernel_rfl) (by kernel_rfl)
 have f2 := fld hf 2 4 1 9 (by kernel_rfl) (by kernel_rfl)
 have hx : xs.length = 3 := hxl
 obtain ⟨y0, y1, y2, rfl⟩ : ∃ a b c, xs = [a, b, c] := by
  match xs, hx with
  | [a, b, c], _ => exact ⟨a, b, c, rfl⟩
 obtain ⟨n0, e0, -, -⟩ := DataW.trod_int Tryz.underlying3 f0
 obtain ⟨m, hm⟩ := open_move (enc := enc) (w := w) _ _ _ f1
 obtain ⟨s, e2, -, hs⟩ := DataW.trod_string Tryz.underlying9 f2
 simp only [moveEl] at hm
 simp at e0 hm e2
 obtain ⟨rfl, rfl, rfl⟩ := hm
 subst e0 e2
 exact ⟨⟨n0, m, s⟩, rfl, hs⟩
theorem open_tag (fuel : Nat) (cs : List Value) (y : DataW H × List MemPlace) (h : DataW.trod enc Tryz.prog w 0 (fun _ => true) true fuel 58 cs = some y) : ∃ x, tagEl.E w x cs := by
 obtain ⟨xs, n, hlen, hxl, hf⟩ := trod_flat Tryz.underlying58 (by kernel_rfl) h
 obtain ⟨a, b, rfl⟩ := two_cells (hlen.trans (by kernel_rfl))
 have hx : xs.length = 2 := hxl
 obtain ⟨y0, y1, rfl⟩ : ∃ a b, xs = [a, b] := by
  match xs, hx with
  | [a, b], _ => exact ⟨a, b, rfl⟩
 have f0 := hf 0 _ rfl
 have f1 := hf 1 _ rfl
 obtain ⟨s0, e0, -, hs0⟩ := DataW.trod_string Tryz.underlying9 f0
 obtain ⟨s1, e1, -, hs1⟩ := DataW.trod_string Tryz.underlying9 f1
 simp at e0 e1
 subst e0 e1
 exact ⟨⟨s0, s1⟩, rfl, hs0, hs1⟩
theorem open_Rec {r : Reach} {base : Nat} {v : Value} {d : DataW H} {p : List MemPlace} (hv : Value.okWide Tryz.prog w r base 30 v) (h : DataW.Trod enc Tryz.prog w 0 (fun _ => true) true 30 v d p) :
  ∃ (X : RecZ) (vt vn : Value), v = recV X vt vn ∧ RdX w X vt vn := by
 obtain ⟨cs, rfl, hl, hcell⟩ := okWide_cells (ts := [27, 9, 28, 3]) Tryz.underlying30 (by kernel_rfl) (by kernel_rfl) hv
 obtain ⟨fuel, hf⟩ := h
 simp only [Value.cells] at hf
 obtain ⟨xs, n, _, hxl, hf⟩ := trod_flat Tryz.underlying30 (by kernel_rfl) hf
 obtain ⟨a, b, c, d, rfl⟩ := four_cells hl
 have hx : xs.length = 4 := hxl
 obtain ⟨y0, y1, y2, y3, rfl⟩ : ∃ a b c d, xs = [a, b, c, d] := by
  match xs, hx with
  | [a, b, c, d], _ => exact ⟨a, b, c, d, rfl⟩
 have f0 := hf 0 _ rfl
 have f1 := hf 1 _ rfl
 have f2 := hf 2 _ rfl
 have f3 := hf 3 _ rfl
 obtain ⟨v0, ts, e0, h0⟩ := open_list tagEl Tryz.underlying27 (by kernel_rfl) (by decide) (open_tag (enc := enc) (w := w)) f0
 obtain ⟨s1, e1, -, hs1⟩ := DataW.trod_string Tryz.underlying9 f1
 obtain ⟨v2, ns, e2, h2⟩ := open_list nodeEl Tryz.underlying28 (by kernel_rfl) (by decide) (open_node (enc := enc) (w := w)) f2
 obtain ⟨n3, e3, -, -⟩ := DataW.trod_int Tryz.underlying3 f3
 simp at e0 e1 e2 e3
 subst e0 e1 e2 e3
 exact ⟨⟨ts, s1, ns, n3⟩, a, c, rfl, h0, h2, hs1⟩
end
end Go.Proofs.YthklhndcdijneaaGreatDoor

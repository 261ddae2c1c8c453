/- A slice that is read: its cells as a list, the nil slice among them. -/
import Derived.Below
import Derived.Laws.AppendOwn
import Derived.Laws.OwnMore
import Derived.OpenShut
namespace Go.Proofs.Ytjgnjahnfglbaaa
open Go.RowKit

/-- v is a slice of n elements of sz cells each, whose cells are xs. -/
def Rd (w : World) (sz n : Nat) (v : Value) (xs : List Value) : Prop :=
  xs.length = n * sz ∧ (((∃ a c, v = .slice a 0 c ∧ c ≤ maxLen) ∧ n = 0) ∨ ∃ g o c, v = .slice (some ⟨g, o, none⟩) n c ∧ n ≤ c ∧ c ≤ maxLen ∧ ∀ i, i < n * sz → w.cell? ⟨g, o + i, none⟩ = xs[i]?)

theorem Rd.below {w w' : World} {sz n : Nat} {v : Value} {xs : List Value} {B : Nat} (h : Rd w sz n v xs) (hb : Below B w w') (hB : w.heap.size ≤ B) : Rd w' sz n v xs := by
  refine ⟨h.1, ?_⟩
  rcases h.2 with h0 | ⟨g, o, c, hv, h1, h2, hc⟩
  · exact .inl h0
  · refine .inr ⟨g, o, c, hv, h1, h2, fun i hi => ?_⟩
    have hx := hc i hi
    rw [List.getElem?_eq_getElem (by rw [h.1]; exact hi)] at hx
    have hlt := World.block_lt_of_cell? w _ hx
    rw [hb.cell (p := ⟨g, o + i, none⟩) (Nat.lt_of_lt_of_le hlt hB)]
    exact hc i hi

/-- other blocks than the one that is written. -/
theorem Rd.grown {w w' : World} {sz n : Nat} {v : Value} {xs : List Value} {row : Option Nat} (h : Rd w sz n v xs) (hg : w.grownBy w' row) (hne : v.ownBlock = none ∨ v.ownBlock ≠ row) : Rd w' sz n v xs := by
  refine ⟨h.1, ?_⟩
  rcases h.2 with h0 | ⟨g, o, c, hv, h1, h2, hc⟩
  · exact .inl h0
  · refine .inr ⟨g, o, c, hv, h1, h2, fun i hi => ?_⟩
    have hx := hc i hi
    have hlen : i < xs.length := by rw [h.1]; exact hi
    rw [List.getElem?_eq_getElem hlen] at hx ⊢
    refine hg.cell hx ?_
    subst hv
    rcases hne with h | h
    · cases h
    · exact h

theorem Rd.of_own {w : World} {base : Nat} {e : TypeId} {sz n : Nat} {v : Value} {xs : List Value} (h : w.ownsRow base e sz v n xs) : Rd w sz n v xs := by
  refine ⟨h.1, ?_⟩
  rcases h.2 with ⟨h0, h1⟩ | ⟨g, cap, cur, rfl, _, hg, hn, hm, hs, ht⟩
  · exact .inl ⟨⟨none, 0, h0, by unfold maxLen; omega⟩, h1⟩
  · refine .inr ⟨g, 0, cap, rfl, hn, hm, fun i hi => ?_⟩
    have := h.cellAt i hi
    rw [Nat.zero_add]
    exact this

theorem Rd.nil (w : World) (sz : Nat) : Rd w sz 0 (.slice none 0 0) [] := ⟨by simp, .inl ⟨⟨none, 0, rfl, by unfold maxLen; omega⟩, rfl⟩⟩
end Go.Proofs.Ytjgnjahnfglbaaa

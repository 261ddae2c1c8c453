/- slices.Sort at []int, at a slice that the call owns. -/
import Derived.Test.YthddenadehhbdaaSortD
import Derived.Test.YthddenadehhbdaaShelf
import Derived.Sort.OwnSortedInts
namespace Go.Proofs.Ythddenadehhbdaa
open Go.ChangeShapes Go.WideShapes Go.ChangeAt Go.RowKit
set_option linter.unusedVariables false

theorem Sort_own (b : Nat) (v : Value) (zs : List Int) (w : World) (h : w.ownsRow b 3 1 v zs.length (ints zs)) (hl : zs.length ≤ 1000000) :
    Calls Try.prog 53 #[v] w (SortPost b v zs w) := by
  rcases h.2 with ⟨rfl, hz⟩ | ⟨g, cap, cur, rfl, hg, hb, hn, hm, hs, ht⟩
  · obtain rfl : zs = [] := List.length_eq_zero_iff.1 hz
    refine (Try.slices_Sort_int_none none 0 w).mono ?_
    rintro e w' ⟨rfl, rfl⟩
    exact ⟨rfl, by simpa using h, ⟨rfl, rfl, rfl, Nat.le_refl _, fun _ _ _ => rfl⟩⟩
  · have hlt : g < w.heap.size := (Array.getElem?_eq_some_iff.1 hb).1
    have hH : Sort.Holds (Value.int .i64) w g 0 zs.toArray := holds_of_blockI hb (by simpa [ints] using ht)
    refine (Try.slices_Sort_int g 0 cap zs w hH hlt (by omega)).mono ?_
    rintro e w' ⟨rfl, n, os, rfl⟩
    exact ⟨rfl, ownsRow_sortedI (by rw [List.length_mergeSort]) hg hb hn hm hs, grownBy_sortedI _⟩
theorem sort_said : SortSaid := fun b v zs w h hl => Sort_own b v zs w h hl
end Go.Proofs.Ythddenadehhbdaa

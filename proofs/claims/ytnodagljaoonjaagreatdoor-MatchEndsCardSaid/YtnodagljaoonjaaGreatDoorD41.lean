/- The shelf's contracts, as the walks take them; the table of powers of ten out of the row's condition. -/
import Derived.Test.YtnodagljaoonjaaGreatDoorD38
import Derived.Test.YtnodagljaoonjaaGreatDoorRows
import Derived.Test.YtnodagljaoonjaaGreatDoorD40
import Derived.LaidMore
namespace Go.Proofs.YtnodagljaoonjaaGreatDoor
open Go.ChangeShapes Go.WideShapes Go.ChangeAt Go.RowKit
set_option linter.unusedVariables false
theorem laid3 {W : World} (h : laidMetH Tryz.prog Rows.matchRefusesRow.laid W) : laidMet Tryz.prog [("internal/strconv.uint64pow10", Rows.laid_internal_strconv_uint64pow10)] W := by
 have h' : laidMetH Tryz.prog [("math/bits.deBruijn32tab", Rows.laid_math_bits_deBruijn32tab), ("math/bits.deBruijn64tab", Rows.laid_math_bits_deBruijn64tab), ("internal/strconv.uint64pow10", Rows.laid_internal_strconv_uint64pow10)] W := h
 rw [MakeChecks.laidMetH_plain _ _ _ (by kernel_rfl)] at h'
 exact h'.tail.tail
theorem tab_of_laid {W : World} (h : laidMet Tryz.prog [("internal/strconv.uint64pow10", Rows.laid_internal_strconv_uint64pow10)] W) : Tab W.heap.size W := by
 have hg : Tryz.prog.globalNamed "internal/strconv.uint64pow10" = some 0 := by kernel_rfl
 have ht : Lib.TabIs Tryz.prog W "internal/strconv.uint64pow10" .u64 Lib.pow10Tab :=
  Lib.tabIs_of_head (rest := []) hg (t := 215) (e := 88) (n := 20) (by kernel_rfl) (by kernel_rfl) (by kernel_rfl) (by kernel_rfl) (by kernel_rfl) h
 refine ⟨ht, fun g hg' => ?_⟩
 obtain rfl := Option.some.inj (hg.symm.trans hg')
 exact World.block_lt_of_cell? W ⟨0, 0, none⟩ (ht.cell hg 0 (by decide))
theorem itoa_holds : ItoaSaid := fun n w h0 h1 ht => (Tryz.strconv_Itoa n h0 h1 w ht).mono fun e w2 ⟨he, k, os, hw⟩ => ⟨he, by rw [hw]; exact ⟨rfl, rfl, rfl, by simp [Sort.grow, World.drewN], fun j hj => by simp [Sort.grow, World.drewN, Array.getElem?_append, hj]⟩⟩
theorem join_le (sep : List UInt8) (hs : sep.length ≤ 1000) : ∀ (xs : List (List UInt8)), (∀ x ∈ xs, x.length ≤ 1000000) → (Lib.join xs sep).length ≤ 1001000 * xs.length
 | [], _ => by simp [Lib.join, List.intercalate]
 | [x], h => by have := h x (by simp); simp [Lib.join, List.intercalate]; omega
 | x :: y :: t, h => by
  have ih := join_le sep hs (y :: t) (fun z hz => h z (by simp only [List.mem_cons] at hz ⊢; exact .inr hz))
  have := h x (by simp)
  have e : Lib.join (x :: y :: t) sep = x ++ (sep ++ Lib.join (y :: t) sep) := by simp [Lib.join, List.intercalate]
  rw [e, List.length_append, List.length_append]
  simp only [List.length_cons] at ih ⊢
  omega
theorem join_holds : JoinSaidM := by
 intro base v xs sep w ho hl hx hs
 cases xs with
 | nil =>
  obtain ⟨a, c, rfl⟩ := own_form2 ho
  exact (Tryz.strings_Join_none a c sep w).mono fun e w' ⟨he, hw⟩ => ⟨he, hw ▸ Below.refl _ _⟩
 | cons x t =>
  have hrd := Rd.of_own ho
  obtain ⟨g, c, rfl⟩ := own_some ho (by simp)
  have hcap : (x :: t).length ≤ c := by
   obtain ⟨-, h⟩ := hrd
   rcases h with ⟨h, -⟩ | ⟨g', o', c', h1, h2, -⟩
   ·simp at h
   ·simp only [Value.slice.injEq] at h1
    omega
  have hsz := join_le sep.data.toList (by rw [Array.length_toList]; exact hs) ((x :: t).map (·.data.toList)) (fun z hz => by
   obtain ⟨y, hy, rfl⟩ := List.mem_map.1 hz
   rw [Array.length_toList]
   exact hx y hy)
  rw [List.length_map] at hsz
  refine (Tryz.strings_Join g 0 c (x :: t) sep w ?_ (ho.lt g rfl).2 (by omega) hcap (by omega)).mono fun e w' ⟨he, hb⟩ => ⟨he, hb⟩
  intro j y hj
  have hjl : j < (x :: t).length := (List.getElem?_eq_some_iff.1 hj).1
  have := ho.cellAt j (by omega)
  rw [Nat.zero_add, this]
  unfold strsM
  rw [List.getElem?_map, hj]; rfl
end Go.Proofs.YtnodagljaoonjaaGreatDoor

/- strings.Join: what the walk takes from the kit. -/
import Derived.Test.YtkfaibdflbdpgaaMq2
import Derived.Test.YtkfaibdflbdpgaaJoin
namespace Go.Proofs.Ytkfaibdflbdpgaa
open Go.ChangeShapes Go.WideShapes Go.ChangeAt Go.RowKit
set_option linter.unusedVariables false
theorem join_eq (sep : ByteArray) : ∀ xs : List ByteArray, Lib.join (xs.map (·.data.toList)) sep.data.toList = (joinT sep xs).data.toList
  | [] => rfl
  | [x] => by simp [Lib.join, joinT, List.intercalate]
  | x :: y :: t => by
    have ih := join_eq sep (y :: t)
    rw [show joinT sep (x :: y :: t) = x ++ sep ++ joinT sep (y :: t) by rfl]
    rw [ByteArray.data_append, ByteArray.data_append, Array.toList_append, Array.toList_append, ← ih]
    simp [Lib.join, List.intercalate]
theorem joinT_le (sep : ByteArray) (hs : sep.size ≤ 1000) : ∀ (xs : List ByteArray), (∀ x ∈ xs, x.size ≤ 1000000) → (joinT sep xs).size ≤ 1001000 * xs.length
  | [], _ => by simp [joinT]
  | [x], h => by have := h x (by simp); unfold joinT; simp; omega
  | x :: y :: t, h => by
    have ih := joinT_le sep hs (y :: t) (fun z hz => h z (by simp only [List.mem_cons] at hz ⊢; exact .inr hz))
    have := h x (by simp)
    unfold joinT
    rw [ByteArray.size_append, ByteArray.size_append]
    simp only [List.length_cons] at ih ⊢
    omega
theorem join_holds : JoinSaid := by
  intro base v xs sep w ho hl hx hs
  cases xs with
  | nil =>
    obtain ⟨a, c, rfl⟩ := own_form2 ho
    exact (Try.strings_Join_none a c sep w).mono fun e w' ⟨he, hw⟩ => ⟨he, hw ▸ Below.refl _ _⟩
  | cons x t =>
    have hrd := Rd.of_own ho
    obtain ⟨g, c, rfl⟩ := own_some ho (by simp)
    have hcap : (x :: t).length ≤ c := by
      obtain ⟨-, h⟩ := hrd
      rcases h with ⟨h, -⟩ | ⟨g', o', c', h1, h2, -⟩
      · simp at h
      · simp only [Value.slice.injEq] at h1
        omega
    have hsz := joinT_le sep hs (x :: t) hx
    refine (Try.strings_Join g 0 c (x :: t) sep w ?_ (ho.lt g rfl).2 (by omega) hcap ?_).mono fun e w' ⟨he, hb⟩ => ⟨?_, hb⟩
    · intro j y hj
      have hjl : j < (x :: t).length := (List.getElem?_eq_some_iff.1 hj).1
      have := ho.cellAt j (by omega)
      rw [Nat.zero_add, this]
      unfold strs
      rw [List.getElem?_map, hj]; rfl
    · rw [join_eq, Array.length_toList]
      have : (joinT sep (x :: t)).data.size = (joinT sep (x :: t)).size := rfl
      rw [this]
      omega
    · rw [he, join_eq, Array.toArray_toList]
end Go.Proofs.Ytkfaibdflbdpgaa

/- slices.Index at []int (alone: for seats without Contains). -/
import Derived.Test.YtkngpbnildhdpaaIntsB
namespace Go.Proofs.Ytkngpbnildhdpaa
open Go.ChangeShapes Go.WideShapes Go.ChangeAt Go.RowKit
set_option linter.unusedVariables false

def idxE (x : Int) : List Int → Int → Int
  | [], _ => -1
  | z :: t, k => if (x == z) = true then k else idxE x t (k + 1)
theorem idxE_any (x : Int) : ∀ (l : List Int) (k : Int), 0 ≤ k → (decide (0 ≤ idxE x l k) = l.any (fun z => x == z))
  | [], k, _ => by simp [idxE]
  | z :: t, k, hk => by
    have ih := idxE_any x t (k + 1) (by omega)
    unfold idxE
    cases h : (x == z)
    · simpa [h] using ih
    · simp [h, hk]
theorem idxE_step (x : Int) (zs : List Int) (k : Nat) (h : k < zs.length) : idxE x (zs.drop k) k = if (x == zs.getD k 0) = true then (k : Int) else idxE x (zs.drop (k + 1)) ((k + 1 : Nat) : Int) := by
  rw [List.drop_eq_getElem_cons h, idxE]
  simp [List.getD, List.getElem?_eq_getElem h]
theorem Index_any (v : Value) (zs : List Int) (x : Int) (w : World) (h : RdI w v zs) :
    Calls Try.prog 22 #[v, .int .i64 x] w fun e w' => e = .returned (.int .i64 (idxE x zs 0)) ∧ w = w' := by
  obtain ⟨a, c, rfl, h1, h2⟩ := h.form
  unfold maxLen at h2
  have HR := Lib.hid h
  clear h
  go_enter Try.func22, Try.ntmps22
  go_wp2_with fail
  go_loop [8] (fun i => ∃ k : Nat, k ≤ zs.length ∧ i = .int .i64 k ∧ Hid (idxE x zs 0 = idxE x (zs.drop k) k)) (fun i => zs.length - (intOf i).toNat)
  case atStart => exact ⟨0, Nat.zero_le _, rfl, Lib.hid rfl⟩
  case round =>
    obtain ⟨k, hk, rfl, HK⟩ := hrel
    by_cases hlt : k < zs.length
    · obtain ⟨g, o, c', he, _, _, _, hcell⟩ := HR.out.some (by omega)
      simp only [Value.slice.injEq] at he
      obtain ⟨rfl, _, rfl⟩ := he
      have ck := hcell k hlt
      have HS := Lib.hid (idxE_step x zs k hlt)
      clear hcell
      generalize zs.getD k 0 = z at *
      cases hp : (x == z)
      · go_wp2_with fail
        go_round
        case rel => exact ⟨k + 1, by omega, by go_num, Lib.hid (by rw [HK.out, HS.out, if_neg (by simp [hp])])⟩
        case measure => simp [intOf]; omega
      · go_wp2_with fail
        go_ret
        exact ⟨by rw [HK.out, HS.out, if_pos hp]; rfl, rfl⟩
    · obtain rfl : k = zs.length := by omega
      go_wp2_with fail
      go_ret
      exact ⟨by rw [HK.out]; simp [idxE], rfl⟩
end Go.Proofs.Ytkngpbnildhdpaa

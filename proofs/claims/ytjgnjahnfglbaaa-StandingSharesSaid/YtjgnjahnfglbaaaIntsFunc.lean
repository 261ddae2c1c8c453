/- slices.IndexFunc and ContainsFunc at []int. -/
import Derived.Test.YtjgnjahnfglbaaaIntsB
namespace Go.Proofs.Ytjgnjahnfglbaaa
open Go.ChangeShapes Go.WideShapes Go.ChangeAt Go.RowKit
set_option linter.unusedVariables false

/-! ### slices.IndexFunc, slices.ContainsFunc: the predicate is a function value whose calls leave the world alone -/
def idxI (p : Int → Bool) : List Int → Int → Int
  | [], _ => -1
  | z :: t, k => if p z = true then k else idxI p t (k + 1)
theorem idxI_any (p : Int → Bool) : ∀ (l : List Int) (k : Int), 0 ≤ k → (decide (0 ≤ idxI p l k) = l.any p)
  | [], k, _ => by simp [idxI]
  | z :: t, k, hk => by
    have ih := idxI_any p t (k + 1) (by omega)
    unfold idxI
    cases h : p z
    · simpa [h] using ih
    · simp [h, hk]
theorem idxI_step (p : Int → Bool) (zs : List Int) (k : Nat) (h : k < zs.length) : idxI p (zs.drop k) k = if p (zs.getD k 0) = true then (k : Int) else idxI p (zs.drop (k + 1)) ((k + 1 : Nat) : Int) := by
  rw [List.drop_eq_getElem_cons h, idxI]
  simp [List.getD, List.getElem?_eq_getElem h]
theorem IndexFunc_any (v : Value) (zs : List Int) (p : Int → Bool) (f : FuncId) (caps : Array Value) (w : World) (h : RdI w v zs) (hf : ∀ (args : Array Value) (w : World), (callFunc f args).run Try.prog w = .ok (.enter f args) w)
    (hc : ∀ z ∈ zs, Calls Try.prog f (#[.int .i64 z] ++ caps) w fun e w' => e = .returned (.bool (p z)) ∧ w = w') :
    Calls Try.prog 20 #[v, .func (.func f) #[] caps] w fun e w' => e = .returned (.int .i64 (idxI p zs 0)) ∧ w = w' := by
  obtain ⟨a, c, rfl, h1, h2⟩ := h.form
  unfold maxLen at h2
  have HR := Lib.hid h
  have HC := Lib.hid hc
  clear h hc
  go_enter Try.func20, Try.ntmps20
  go_wp2_with fail
  go_loop [8] (fun i => ∃ k : Nat, k ≤ zs.length ∧ i = .int .i64 k ∧ Hid (idxI p zs 0 = idxI p (zs.drop k) k)) (fun i => zs.length - (intOf i).toNat)
  case atStart => exact ⟨0, Nat.zero_le _, rfl, Lib.hid rfl⟩
  case round =>
    obtain ⟨k, hk, rfl, HK⟩ := hrel
    by_cases hlt : k < zs.length
    · obtain ⟨g, o, c', he, _, _, _, hcell⟩ := HR.out.some (by omega)
      simp only [Value.slice.injEq] at he
      obtain ⟨rfl, _, rfl⟩ := he
      have ck := hcell k hlt
      have HS := Lib.hid (idxI_step p zs k hlt)
      have HCk := Lib.hid (HC.out (zs.getD k 0) (by rw [List.getD_eq_getElem?_getD, List.getElem?_eq_getElem hlt]; exact List.getElem_mem hlt))
      clear hcell
      generalize zs.getD k 0 = z at *
      go_wp2_with fail
      refine HCk.out.mono ?_
      rintro e w' ⟨rfl, rfl⟩
      cases hp : p z
      · go_wp2_with fail
        go_round
        case rel => exact ⟨k + 1, by omega, by go_num, Lib.hid (by rw [HK.out, HS.out, if_neg (by simp [hp])])⟩
        case measure => simp [intOf]; omega
      · go_wp2_with fail
        go_ret
        exact ⟨by rw [HK.out, HS.out, if_pos hp]; rfl, rfl⟩
    · obtain rfl : k = zs.length := by omega
      go_wp2_with fail
      go_ret
      exact ⟨by rw [HK.out]; simp [idxI], rfl⟩

theorem ContainsFunc_any (v : Value) (zs : List Int) (p : Int → Bool) (f : FuncId) (caps : Array Value) (w : World) (h : RdI w v zs) (hf : ∀ (args : Array Value) (w : World), (callFunc f args).run Try.prog w = .ok (.enter f args) w)
    (hc : ∀ z ∈ zs, Calls Try.prog f (#[.int .i64 z] ++ caps) w fun e w' => e = .returned (.bool (p z)) ∧ w = w') :
    Calls Try.prog 13 #[v, .func (.func f) #[] caps] w fun e w' => e = .returned (.bool (zs.any p)) ∧ w = w' := by
  have HI := Lib.hid (IndexFunc_any v zs p f caps w h hf hc)
  have HA := Lib.hid (idxI_any p zs 0 (by omega))
  clear h hc hf
  go_enter Try.func13, Try.ntmps13
  go_wp2_with fail
  refine HI.out.mono ?_
  rintro e w' ⟨rfl, rfl⟩
  go_wp2_with fail
  go_ret
  exact ⟨by rw [← HA.out]; rfl, rfl⟩
end Go.Proofs.Ytjgnjahnfglbaaa

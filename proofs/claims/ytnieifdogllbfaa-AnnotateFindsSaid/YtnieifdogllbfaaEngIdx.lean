/- Looking through a slice of structs; the contracts of slices.IndexFunc, ContainsFunc at []RulePiece. -/
import Derived.Test.YtnieifdogllbfaaEngChkA
import Derived.Deep.QuietTactic
import Derived.Test.YtnieifdogllbfaaOwn
namespace Go.Proofs.Ytnieifdogllbfaa
open Go.ChangeShapes Go.WideShapes Go.ChangeAt Go.RowKit
set_option linter.unusedVariables false

theorem below_trans {w w1 w2 : World} {B : Nat} (h1 : Below B w w1) (h2 : Below w1.heap.size w1 w2) (hB : B ≤ w1.heap.size) : Below B w w2 := h1.trans (h2.mono hB)
def idxL {α : Type} (p : α → Bool) : List α → Int → Int
  | [], _ => -1
  | z :: t, k => if p z = true then k else idxL p t (k + 1)
theorem idxL_any {α : Type} (p : α → Bool) : ∀ (l : List α) (k : Int), 0 ≤ k → (decide (0 ≤ idxL p l k) = l.any p)
  | [], k, _ => by simp [idxL]
  | z :: t, k, hk => by
    have ih := idxL_any p t (k + 1) (by omega)
    unfold idxL
    cases h : p z
    · simpa [h] using ih
    · simp [h, hk]
theorem idxL_step {α : Type} (p : α → Bool) (zs : List α) (k : Nat) (h : k < zs.length) : idxL p (zs.drop k) k = if p zs[k] = true then (k : Int) else idxL p (zs.drop (k + 1)) ((k + 1 : Nat) : Int) := by
  rw [List.drop_eq_getElem_cons h, idxL]
  simp

theorem IndexFunc_pc (v : Value) (xs : List PieceZ) (p : PieceZ → Bool) (f : FuncId) (caps : Array Value) (w : World) (h : RdL pieceEl w v xs) (hf : ∀ (args : Array Value) (w : World), (callFunc f args).run Try.prog w = .ok (.enter f args) w)
    (hc : ∀ (W : World) (x : PieceZ) (cs : List Value), x ∈ xs → pieceEl.E W x cs → Below w.heap.size w W → Calls Try.prog f (#[.agg cs.toArray] ++ caps) W fun e w' => e = .returned (.bool (p x)) ∧ Below W.heap.size W w') :
    Calls Try.prog 70 #[v, .func (.func f) #[] caps] w fun e w' => e = .returned (.int .i64 (idxL p xs 0)) ∧ Below w.heap.size w w' := by
  obtain ⟨a, c, rfl, h1, h2⟩ := h.form
  unfold maxLen at h2
  have HR := Lib.hid h
  have HC := Lib.hid hc
  clear h hc
  go_enter Try.func70, Try.ntmps70
  go_wp2_with fail
  go_loopw [8] (fun i wr => ∃ k : Nat, k ≤ xs.length ∧ i = .int .i64 k ∧ Hid (idxL p xs 0 = idxL p (xs.drop k) k) ∧ Below w.heap.size w wr) (fun i _ => xs.length - (intOf i).toNat)
  case atStart => exact ⟨0, Nat.zero_le _, rfl, Lib.hid rfl, Below.refl _ _⟩
  case round =>
    obtain ⟨k, hk, rfl, HK, hbl⟩ := hrel
    by_cases hlt : k < xs.length
    · obtain ⟨g, o, rfl, hg, hcc⟩ := (HR.out.below hbl (Nat.le_refl _)).some (by omega)
      obtain ⟨cs, hE, hcell⟩ := hcc k hlt
      have hcl := pieceEl.len hE
      simp only [pieceEl] at hcl
      obtain ⟨c0, c1, c2, c3, rfl⟩ : ∃ c0 c1 c2 c3, cs = [c0, c1, c2, c3] := by
        match cs, hcl with
        | [c0, c1, c2, c3], _ => exact ⟨_, _, _, _, rfl⟩
      have q0 := hcell 0 (by decide)
      have q1 := hcell 1 (by decide)
      have q2 := hcell 2 (by decide)
      have q3 := hcell 3 (by decide)
      simp only [pieceEl, List.getElem?_cons_zero, List.getElem?_cons_succ, Nat.add_zero] at q0 q1 q2 q3
      have HS := Lib.hid (idxL_step p xs k hlt)
      have HCk := Lib.hid (HC.out wr xs[k] [c0, c1, c2, c3] (List.getElem_mem hlt) hE hbl)
      have HB := Lib.hid hbl
      clear hcell hcc hE hcl hbl
      generalize xs[k] = x at *
      go_wp2_with fail
      refine HCk.out.mono ?_
      rintro e w1 ⟨rfl, hb1⟩
      have HB1 := Lib.hid (below_trans HB.out hb1 HB.out.size)
      clear hb1
      cases hpx : p x
      · go_wp2_with fail
        go_roundw
        case rel => exact ⟨k + 1, by omega, by go_num, Lib.hid (by rw [HK.out, HS.out, if_neg (by simp [hpx])]), HB1.out⟩
        case measure => simp [intOf]; omega
      · go_wp2_with fail
        go_ret
        exact ⟨by rw [HK.out, HS.out, if_pos hpx]; rfl, HB1.out⟩
    · obtain rfl : k = xs.length := by omega
      go_wp2_with fail
      go_ret
      exact ⟨by rw [HK.out]; simp [idxL], hbl⟩

theorem ContainsFunc_pc (v : Value) (xs : List PieceZ) (p : PieceZ → Bool) (f : FuncId) (caps : Array Value) (w : World) (h : RdL pieceEl w v xs) (hf : ∀ (args : Array Value) (w : World), (callFunc f args).run Try.prog w = .ok (.enter f args) w)
    (hc : ∀ (W : World) (x : PieceZ) (cs : List Value), x ∈ xs → pieceEl.E W x cs → Below w.heap.size w W → Calls Try.prog f (#[.agg cs.toArray] ++ caps) W fun e w' => e = .returned (.bool (p x)) ∧ Below W.heap.size W w') :
    Calls Try.prog 47 #[v, .func (.func f) #[] caps] w fun e w' => e = .returned (.bool (xs.any p)) ∧ Below w.heap.size w w' := by
  have HI := Lib.hid (IndexFunc_pc v xs p f caps w h hf hc)
  have HA := Lib.hid (idxL_any p xs 0 (by omega))
  clear h hc hf
  go_enter Try.func47, Try.ntmps47
  go_wp2_with fail
  refine HI.out.mono ?_
  rintro e w' ⟨rfl, hb⟩
  go_wp2_with fail
  go_ret
  exact ⟨by rw [← HA.out]; rfl, hb⟩

end Go.Proofs.Ytnieifdogllbfaa

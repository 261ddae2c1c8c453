/- slices.Clone at []int. -/
import Derived.Test.YtnieifdogllbfaaIntsB
namespace Go.Proofs.Ytnieifdogllbfaa
open Go.ChangeShapes Go.WideShapes Go.ChangeAt Go.RowKit
set_option linter.unusedVariables false

/-! ### slices.Clone -/
def ClonePost (zs : List Int) (w : World) (e : Ending) (w' : World) : Prop := ∃ v', e = .returned v' ∧ w'.ownsRow w.heap.size 3 1 v' zs.length (ints zs) ∧ Below w.heap.size w w'

theorem Clone_any (v : Value) (zs : List Int) (w : World) (h : RdI w v zs) (hl : zs.length ≤ 1000000) :
    Calls Try.prog 53 #[v] w (ClonePost zs w) := by
  obtain ⟨i0, hi, hz0, hz1, hz2⟩ := info_parts info3
  have hform : (∃ c, v = .slice none 0 c ∧ zs = []) ∨ ∃ (ad : Addr) (c : Nat), v = .slice (some ad) zs.length c ∧ zs.length ≤ c ∧ c ≤ maxLen ∧
      ∀ j u, (ints zs)[j]? = some u → (w.alloc (.cells #[] 3)).cell? (ad.add j) = some u := by
    rcases h.2 with ⟨⟨a, c, rfl, hm⟩, hz⟩ | ⟨g, o, c, rfl, h1, h2, hc⟩
    · obtain rfl : zs = [] := List.length_eq_zero_iff.1 hz
      cases a with
      | none => exact .inl ⟨c, rfl, rfl⟩
      | some ad => exact .inr ⟨ad, c, rfl, by simp, hm, fun j u hu => by simp [ints] at hu⟩
    · refine .inr ⟨⟨g, o, none⟩, c, rfl, h1, h2, fun j u hu => ?_⟩
      have hj : j < zs.length := by
        have := (List.getElem?_eq_some_iff.1 hu).1
        rwa [ints_len] at this
      have hcell := hc j (by omega)
      rw [hu] at hcell
      have hlt := World.block_lt_of_cell? w _ hcell
      have e : (⟨g, o, none⟩ : Addr).add j = ⟨g, o + j, none⟩ := by unfold Addr.add; split <;> simp_all
      rw [e, World.cell?_of_block (w := w) (a := ⟨g, o + j, none⟩) (Below.heap_alloc w _ g hlt)]
      exact hcell
  rcases hform with ⟨c, rfl, rfl⟩ | ⟨ad, c, rfl, h1, h2, hnews⟩
  · have hq := fun (w : World) (a : Option Addr) (n c : Nat) => Lib.run_eql_slice_nil (P := Try.prog) w 23 3 a n c 0 0 Try.underlying23
    clear h hl
    go_enter Try.func53, Try.ntmps53
    go_wp2
    go_ret
    exact ⟨_, rfl, World.ownsRow_nil _ _ _ _, Below.refl _ _⟩
  · have hq := fun (w : World) (a : Option Addr) (n c : Nat) => Lib.run_eql_slice_nil (P := Try.prog) w 23 3 a n c 0 0 Try.underlying23
    have hown0 : (w.alloc (.cells #[] 3)).ownsRow w.heap.size 3 1 (.slice (some ⟨w.heap.size, 0, none⟩) 0 0) 0 [] := World.ownsRow_made w #[] 0 (Nat.le_refl _) (by unfold maxLen; omega) rfl
    have Hown0 := Lib.hid hown0
    have Hnews := Lib.hid hnews
    have Hil := Lib.hid (show (ints zs).length = zs.length * 1 by rw [ints_len]; omega)
    clear hown0 hnews h
    go_enter Try.func53, Try.ntmps53
    go_wp2_with (at_builtin; refine wpList_append_own _ rfl _ _ 23 rfl w.heap.size 3 i0 (.int .i64 0) 1 8 Try.underlying23 hi hz0 hz1 hz2 rfl (by decide) _ 0 [] rfl Hown0.out ad zs.length c (ints zs) rfl Hil.out Hnews.out (ints_cell1 zs) ?c3 ?c4 ?c5 ?_)
    case c3 => unfold maxLen; omega
    case c4 => omega
    case c5 => simp
    intro v' w2 hown' hgrow _
    try simp only [Nat.zero_add, List.nil_append] at hown'
    have hb : Below w.heap.size w w2 := Below.grown ((Below.refl _ w).alloc (Nat.le_refl _) _) hgrow (by simp) (fun q hq => by simp [Value.ownBlock] at hq; omega)
    have HO := Lib.hid hown'
    clear hown' hgrow
    go_wp2
    go_ret
    exact ⟨v', rfl, HO.out, hb⟩

end Go.Proofs.Ytnieifdogllbfaa

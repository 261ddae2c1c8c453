/- slices.Clone of players. -/
import Derived.Test.YtkngpbnildhdpaaSwK
import Derived.Test.YtkngpbnildhdpaaSwF
namespace Go.Proofs.Ytkngpbnildhdpaa
open Go.ChangeShapes Go.WideShapes Go.ChangeAt Go.RowKit
set_option linter.unusedVariables false

theorem flat4_len (F : Nat → List Value) (hF : ∀ i, (F i).length = 4) : ∀ n, ((List.range n).flatMap F).length = n * 4
  | 0 => rfl
  | n + 1 => by rw [List.range_succ, List.flatMap_append, List.length_append, flat4_len F hF n, List.flatMap_singleton, hF]; omega
theorem flat4_at (F : Nat → List Value) (hF : ∀ i, (F i).length = 4) (j : Nat) (hj : j < 4) : ∀ n i, i < n → ((List.range n).flatMap F)[i * 4 + j]? = (F i)[j]?
  | 0, i, hi => absurd hi (Nat.not_lt_zero _)
  | n + 1, i, hi => by
    rw [List.range_succ, List.flatMap_append, List.flatMap_singleton]
    by_cases e : i = n
    · subst e
      rw [List.getElem?_append_right (by rw [flat4_len F hF]; omega), flat4_len F hF]
      congr 1; omega
    · rw [List.getElem?_append_left (by rw [flat4_len F hF]; omega)]
      exact flat4_at F hF j hj n i (by omega)
/-- a player's cells. -/
def celF (f : Nat → SwP) (v : Nat → Value) (i : Nat) : List Value := [.int .i64 (f i).score, v i, .int .i64 (f i).colour, .bool (f i).bye]
theorem rdS_all {w : World} {a : Option Addr} {n c : Nat} {ps : List SwP} (h : RdS w (.slice a n c) ps) (hn : 0 < ps.length) : ∃ g o, ∃ vo : Nat → Value, a = some ⟨g, o, none⟩ ∧ g < w.heap.size ∧
    (∀ i, i < ps.length → RdI w (vo i) (plAt ps i).opp) ∧ ∀ i, i < ps.length → ∀ j, j < 4 → w.cell? ⟨g, o + i * 4 + j, none⟩ = (celF (plAt ps) vo i)[j]? := by
  obtain ⟨g, o, ha, hg, hc⟩ := RdS.some h hn
  have hch : ∀ i, ∃ v, i < ps.length → w.cell? ⟨g, o + i * 4, none⟩ = some (.int .i64 (plAt ps i).score) ∧ w.cell? ⟨g, o + i * 4 + 1, none⟩ = some v ∧ w.cell? ⟨g, o + i * 4 + 2, none⟩ = some (.int .i64 (plAt ps i).colour) ∧
      w.cell? ⟨g, o + i * 4 + 3, none⟩ = some (.bool (plAt ps i).bye) ∧ RdI w v (plAt ps i).opp := fun i => by
    by_cases hi : i < ps.length
    · obtain ⟨v, hv⟩ := hc i hi
      exact ⟨v, fun _ => hv⟩
    · exact ⟨.bool false, fun h => absurd h hi⟩
  refine ⟨g, o, fun i => Classical.choose (hch i), ha, hg, fun i hi => (Classical.choose_spec (hch i) hi).2.2.2.2, fun i hi j hj => ?_⟩
  obtain ⟨h0, h1, h2, h3, -⟩ := Classical.choose_spec (hch i) hi
  match j, hj with
  | 0, _ => exact h0
  | 1, _ => exact h1
  | 2, _ => exact h2
  | 3, _ => exact h3
set_option maxRecDepth 100000 in
set_option maxHeartbeats 2000000 in
theorem CloneP_any (s : Value) (ps : List SwP) (w : World) (h : RdS w s ps) (hn : 2 ≤ ps.length) (h8 : ps.length ≤ 8) :
    Calls Try.prog 16 #[s] w fun e w' => ∃ ob c vo, e = .returned (.slice (some ⟨ob, 0, none⟩) ps.length c) ∧ ps.length ≤ c ∧ c ≤ maxLen ∧ w.heap.size ≤ ob ∧ Below w.heap.size w w' ∧
      Cells w' ob ps.length (plAt ps) vo ∧ ∀ i, i < ps.length → RdI w (vo i) (plAt ps i).opp := by
  obtain ⟨i0, hi, hz0, hz1, hz2⟩ := info_parts info_swp
  obtain ⟨sa, sc, rfl, hs1, hs2⟩ := h.form
  obtain ⟨g, o, vo, rfl, hg, hv, hcell⟩ := rdS_all h (by omega)
  have hq := fun (w : World) (a : Option Addr) (n c : Nat) => Lib.run_eql_slice_nil (P := Try.prog) w 22 32 a n c 0 0 Try.underlying22
  have hF : ∀ i, (celF (plAt ps) vo i).length = 4 := fun _ => rfl
  have hown0 : (w.alloc (.cells #[] 32)).ownsRow w.heap.size 32 4 (.slice (some ⟨w.heap.size, 0, none⟩) 0 0) 0 [] := World.ownsRow_made w #[] 0 (Nat.le_refl _) (by unfold maxLen; omega) rfl
  have hnews : ∀ j u, ((List.range ps.length).flatMap (celF (plAt ps) vo))[j]? = some u → (w.alloc (.cells #[] 32)).cell? ((⟨g, o, none⟩ : Addr).add j) = some u := by
    intro j u hu
    have hj : j < ps.length * 4 := by
      have := (List.getElem?_eq_some_iff.1 hu).1
      rwa [flat4_len _ hF] at this
    have e : (⟨g, o, none⟩ : Addr).add j = ⟨g, o + j, none⟩ := by unfold Addr.add; split <;> simp_all
    have e2 : j = j / 4 * 4 + j % 4 := by omega
    rw [e, World.cell?_of_block (w := w) (a := ⟨g, o + j, none⟩) (Below.heap_alloc w _ g hg)]
    rw [e2, flat4_at _ hF _ (by omega) _ _ (by omega)] at hu
    have := hcell (j / 4) (by omega) (j % 4) (by omega)
    rw [hu, show o + j / 4 * 4 + j % 4 = o + j by omega] at this
    exact this
  have h1c : ∀ u ∈ (List.range ps.length).flatMap (celF (plAt ps) vo), u.oneCell' = true := by
    intro u hu
    obtain ⟨i, hi, hu⟩ := List.mem_flatMap.1 hu
    obtain ⟨a, c, hva, -, -⟩ := (hv i (by simpa using hi)).form
    unfold celF at hu
    rw [hva] at hu
    simp at hu
    rcases hu with rfl | rfl | rfl | rfl <;> rfl
  have Hown0 := Lib.hid hown0
  have Hnews := Lib.hid hnews
  have H1c := Lib.hid h1c
  have HV := Lib.hid hv
  have Hil := Lib.hid (show ((List.range ps.length).flatMap (celF (plAt ps) vo)).length = ps.length * 4 by rw [flat4_len _ hF])
  clear hown0 hnews h1c hcell h hv
  have HFl : Hid (∀ i j, i < ps.length → j < 4 → ((List.range ps.length).flatMap (celF (plAt ps) vo))[i * 4 + j]? = (celF (plAt ps) vo i)[j]?) := Lib.hid (fun i j hi hj => flat4_at _ hF j hj _ i hi)
  generalize (List.range ps.length).flatMap (celF (plAt ps) vo) = xs at *
  clear hF
  go_enter Try.func16, Try.ntmps16
  go_wp2_with (at_builtin; refine wpList_append_own _ rfl _ _ 22 rfl w.heap.size 32 i0 (.agg #[.int .i64 0, .slice none 0 0, .int .i64 0, .bool false]) 4 48 Try.underlying22 hi hz0 hz1 hz2 rfl (by decide) _ 0 [] rfl Hown0.out ⟨g, o, none⟩ ps.length sc xs rfl Hil.out Hnews.out H1c.out ?c3 ?c4 ?c5 ?_)
  case c3 => unfold maxLen; omega
  case c4 => omega
  case c5 => simp
  intro v' w2 hown' hgrow _
  try simp only [Nat.zero_add, List.nil_append] at hown'
  have hb : Below w.heap.size w w2 := Below.grown ((Below.refl _ w).alloc (Nat.le_refl _) _) hgrow (by simp) (fun q hq => by simp [Value.ownBlock] at hq; omega)
  obtain ⟨ob, oc, rfl⟩ := own_some hown' (by omega)
  have HO := Lib.hid hown'
  clear hown' hgrow
  go_wp2
  go_ret
  have hcap : ps.length ≤ oc ∧ oc ≤ maxLen := by
    rcases HO.out.2 with ⟨e, -⟩ | ⟨g', c', cur, e, -, -, h1, h2, -⟩
    · cases e
    · simp only [Value.slice.injEq, Option.some.injEq, Addr.mk.injEq, true_and] at e
      obtain ⟨-, rfl⟩ := e
      exact ⟨h1, h2⟩
  have hat : ∀ i j u, i < ps.length → j < 4 → (celF (plAt ps) vo i)[j]? = some u → w2.cell? ⟨ob, i * 4 + j, none⟩ = some u := fun i j u hi hj hu =>
    ((HO.out.cellAt (i * 4 + j) (by omega)).trans (HFl.out i j hi hj)).trans hu
  exact ⟨ob, oc, vo, rfl, hcap.1, hcap.2, (HO.out.lt ob rfl).1, hb, ⟨fun i hi => hat i 0 _ hi (by decide) rfl, fun i hi => hat i 1 _ hi (by decide) rfl, fun i hi => hat i 2 _ hi (by decide) rfl, fun i hi => hat i 3 _ hi (by decide) rfl,
    fun j => HO.out.frozenAt j, (HO.out.lt ob rfl).2⟩, HV.out⟩
end Go.Proofs.Ytkngpbnildhdpaa

/- What is true of the moves of a valid position. -/
import Derived.Test.YtnieifdogllbfaaMvL
import Derived.Test.YtnieifdogllbfaaMakeA
namespace Go.Proofs.Ytnieifdogllbfaa
set_option linter.unusedVariables false

theorem compact_mem (m : MoveZ) : ∀ l : List MoveZ, m ∈ compactZ l ↔ m ∈ l
  | [] => by simp [compactZ]
  | [x] => by simp [compactZ]
  | x :: y :: t => by
    have ih := compact_mem m (y :: t)
    by_cases h : x = y
    · simp only [compactZ, if_pos h, ih]
      subst h
      simp
    · simp only [compactZ, if_neg h, List.mem_cons] at ih ⊢
      rw [ih]
theorem list_mem {R : RulesZ} {p : PosZ} {m : MoveZ} : m ∈ listZ R p ↔ m ∈ rawZ R p := by
  unfold listZ sortZ
  rw [compact_mem, List.mem_mergeSort]
theorem puts_mem {R : RulesZ} {p : PosZ} {m : MoveZ} (h : m ∈ putsZ R p) : ∃ s k : Nat, s < p.cells.length ∧ p.cells.getD s 0 = 0 ∧ k < (p.hand p.turn).length ∧ 0 < (p.hand p.turn).getD k 0 ∧ m = ⟨-1, s, k⟩ := by
  unfold putsZ at h
  obtain ⟨s, hs, h⟩ := List.mem_flatMap.1 h
  unfold putsAt at h
  split at h
  · cases h
  · rename_i hn
    obtain ⟨k, hk, h⟩ := List.mem_filterMap.1 h
    split at h
    · simp only [Option.some.injEq] at h
      exact ⟨s, k, by simpa using hs, by
        by_cases e : p.cells.getD s 0 = 0
        · exact e
        · exact absurd (.inl e) hn, by simpa using hk, by assumption, h.symm⟩
    · cases h
theorem steps_mem {R : RulesZ} {p : PosZ} {m : MoveZ} (h : m ∈ (List.range p.cells.length).flatMap (stepsAt R p)) : ∃ s : Nat, s < p.cells.length ∧ 0 ≠ p.cells.getD s 0 ∧ (p.cells.getD s 0 - 1) % 2 = p.turn ∧
    ∃ x ∈ (R.pieces.getD ((p.cells.getD s 0 - 1) / 2).toNat default).ways, ∃ t ∈ wayZ R p s x, m = moveTo R p s ((p.cells.getD s 0 - 1) / 2) t := by
  obtain ⟨s, hs, h⟩ := List.mem_flatMap.1 h
  unfold stepsAt at h
  split at h
  · cases h
  · rename_i hn
    obtain ⟨x, hx, h⟩ := List.mem_flatMap.1 h
    obtain ⟨t, ht, h⟩ := List.mem_map.1 h
    exact ⟨s, by simpa using hs, fun e => hn (.inl e.symm), by
      by_cases e : (p.cells.getD s 0 - 1) % 2 = p.turn
      · exact e
      · exact absurd (.inr e) hn, x, hx, t, ht, h.symm⟩
theorem fits_of {R : RulesZ} {p : PosZ} {m : MoveZ} (K : POk R p) (h : m ∈ listZ R p) : Fits R p m := by
  rw [list_mem] at h
  unfold rawZ at h
  have hnp := K.r.np
  rcases List.mem_append.1 h with h | h
  · obtain ⟨s, k, hs, -, hk, -, rfl⟩ := puts_mem h
    have := hand_len K
    exact ⟨⟨by simp, by simpa using hs⟩, ⟨by simp, by simp; omega⟩, ⟨by simp, by simp; omega⟩⟩
  · obtain ⟨s, hs, hn, -, x, -, t, ht, rfl⟩ := steps_mem h
    have htm := wayZ_mem ht
    have hc := K.cell s
    have hcl := K.cl
    have hkz : 0 ≤ (p.cells.getD s 0 - 1) / 2 ∧ (p.cells.getD s 0 - 1) / 2 < R.pieces.length := by omega
    generalize (p.cells.getD s 0 - 1) / 2 = kz at *
    have hpr := (K.r.pc kz.toNat (by omega)).2.1
    unfold moveTo
    refine ⟨⟨htm.1, by show t < _; omega⟩, ⟨by show -1 ≤ (s : Int); omega, by show (s : Int) < _; omega⟩, ?_⟩
    dsimp only
    split
    · rename_i hh; omega
    · exact hkz
theorem mem_set {l : List Int} {k : Nat} {z c : Int} (h : c ∈ l.set k z) : c = z ∨ c ∈ l := (List.mem_or_eq_of_mem_set h).symm
/-- the position after a legal move is valid. -/
theorem make_ok {R : RulesZ} {p : PosZ} {m : MoveZ} (K : POk R p) (h : m ∈ listZ R p) : POk R (makeZ R p m) := by
  have F := fits_of K h
  obtain ⟨hd1, hd2⟩ := F.d
  obtain ⟨hs1, hs2⟩ := F.s
  obtain ⟨hk1, hk2⟩ := F.k
  have htu := K.tu
  have hq := K.qu
  have hnp := K.r.np
  have hhl := hand_len K
  have hhb : ∀ c ∈ p.hand p.turn, 0 ≤ c ∧ c ≤ 1000 := by unfold PosZ.hand; split; exact K.b0; exact K.b1
  have hput : m.src < 0 → 0 < (p.hand p.turn).getD m.piece.toNat 0 := by
    intro hs
    rw [list_mem] at h
    unfold rawZ at h
    rcases List.mem_append.1 h with h | h
    · obtain ⟨s, k, _, -, hk, hp, rfl⟩ := puts_mem h
      simpa using hp
    · obtain ⟨s, _, hn, -, x, -, t, ht, rfl⟩ := steps_mem h
      simp [moveTo] at hs
      omega
  have hget : ∀ i, 0 ≤ (p.hand p.turn).getD i 0 ∧ (p.hand p.turn).getD i 0 ≤ 1000 := fun i => by
    by_cases hi : i < (p.hand p.turn).length
    · rw [List.getD_eq_getElem?_getD, List.getElem?_eq_getElem hi]; exact hhb _ (List.getElem_mem hi)
    · rw [List.getD_eq_getElem?_getD, List.getElem?_eq_none (by omega)]; simp
  have hl1 : (if 0 ≤ m.src then p.hand p.turn else (p.hand p.turn).set m.piece.toNat ((p.hand p.turn).getD m.piece.toNat 0 - 1)).length = R.pieces.length := by split <;> simp [hhl]
  have hb1 : ∀ c ∈ (if 0 ≤ m.src then p.hand p.turn else (p.hand p.turn).set m.piece.toNat ((p.hand p.turn).getD m.piece.toNat 0 - 1)), 0 ≤ c ∧ c ≤ 1000 := by
    intro c hc
    split at hc
    · exact hhb c hc
    · rename_i hs
      rcases mem_set hc with rfl | hc
      · have := hput (by omega); have := hget m.piece.toNat; omega
      · exact hhb c hc
  have hH : (makeHand R p m).length = R.pieces.length ∧ ∀ c ∈ makeHand R p m, 0 ≤ c ∧ c ≤ 1000 := by
    unfold makeHand
    generalize (if 0 ≤ m.src then p.hand p.turn else (p.hand p.turn).set m.piece.toNat ((p.hand p.turn).getD m.piece.toNat 0 - 1)) = l at *
    have hg : ∀ i, 0 ≤ l.getD i 0 := fun i => by
      by_cases hi : i < l.length
      · rw [List.getD_eq_getElem?_getD, List.getElem?_eq_getElem hi]; exact (hb1 _ (List.getElem_mem hi)).1
      · rw [List.getD_eq_getElem?_getD, List.getElem?_eq_none (by omega)]; simp
    simp only
    split
    · refine ⟨by simp [hl1], fun c hc => ?_⟩
      rcases mem_set hc with rfl | hc
      · have := hg ((p.cells.getD m.dst.toNat 0 - 1) / 2).toNat
        split <;> omega
      · exact hb1 c hc
    · exact ⟨hl1, hb1⟩
  refine ⟨K.r, ?_, ?_, ?_, ?_, ?_, ?_, ?_, ?_⟩
  · show ((makeCells p m).length : Int) = _
    unfold makeCells
    split <;> simp [K.cl]
  · show (if p.turn = 0 then makeHand R p m else p.h0).length = _
    split
    · exact hH.1
    · exact K.l0
  · show (if p.turn = 0 then p.h1 else makeHand R p m).length = _
    split
    · exact K.l1
    · exact hH.1
  · intro c hc
    have hc : c ∈ makeCells p m := hc
    unfold makeCells at hc
    rcases mem_set hc with rfl | hc
    · omega
    · split at hc
      · rcases mem_set hc with rfl | hc
        · omega
        · exact K.cb c hc
      · exact K.cb c hc
  · show ∀ c ∈ (if p.turn = 0 then makeHand R p m else p.h0), _
    split
    · exact hH.2
    · exact K.b0
  · show ∀ c ∈ (if p.turn = 0 then p.h1 else makeHand R p m), _
    split
    · exact K.b1
    · exact hH.2
  · show 1 - p.turn = 0 ∨ 1 - p.turn = 1
    omega
  · unfold makeZ
    dsimp only
    split
    · omega
    · split <;> omega
end Go.Proofs.Ytnieifdogllbfaa

/- The list of moves: sorted, no move twice. -/
import Derived.Test.YtaacfoeleblfbaaMvLaw
namespace Go.Proofs.Ytaacfoeleblfbaa
set_option linter.unusedVariables false
theorem ordL_lt (a b : MoveZ) : ordM a b < 0 ↔ a.src < b.src ∨ (a.src = b.src ∧ (a.dst < b.dst ∨ (a.dst = b.dst ∧ a.piece < b.piece))) := by
  obtain ⟨a1, a2, a3⟩ := a
  obtain ⟨b1, b2, b3⟩ := b
  unfold ordM cmpZ
  simp only [orZ]
  by_cases h1 : a1 < b1 <;> by_cases h2 : b1 < a1 <;> by_cases h3 : a2 < b2 <;> by_cases h4 : b2 < a2 <;> by_cases h5 : a3 < b3 <;> by_cases h6 : b3 < a3 <;> simp [h1, h2, h3, h4, h5, h6] <;> omega
theorem leM_iff (a b : MoveZ) : leM a b = true ↔ ¬ (b.src < a.src ∨ (b.src = a.src ∧ (b.dst < a.dst ∨ (b.dst = a.dst ∧ b.piece < a.piece)))) := by
  unfold leM
  rw [← ordL_lt]
  simp
theorem leM_trans (a b c : MoveZ) (h1 : leM a b = true) (h2 : leM b c = true) : leM a c = true := by
  rw [leM_iff] at *
  omega
theorem leM_total (a b : MoveZ) : (leM a b || leM b a) = true := by
  rw [Bool.or_eq_true, leM_iff, leM_iff]
  omega
theorem leM_anti {a b : MoveZ} (h1 : leM a b = true) (h2 : leM b a = true) : a = b := by
  rw [leM_iff] at *
  obtain ⟨a1, a2, a3⟩ := a
  obtain ⟨b1, b2, b3⟩ := b
  simp only [MoveZ.mk.injEq] at *
  omega
theorem sort_sorted (l : List MoveZ) : (sortZ l).Pairwise (fun a b => leM a b = true) := by
  unfold sortZ
  exact List.pairwise_mergeSort leM_trans leM_total l
theorem compact_lt : ∀ l : List MoveZ, l.Pairwise (fun a b => leM a b = true) → (compactZ l).Pairwise (fun a b => leM a b = true ∧ a ≠ b)
  | [], _ => by simp [compactZ]
  | [x], _ => by simp [compactZ]
  | x :: y :: t, h => by
    have h' := List.pairwise_cons.1 h
    have ih := compact_lt (y :: t) h'.2
    unfold compactZ
    split
    · exact ih
    · rename_i hne
      refine List.pairwise_cons.2 ⟨fun z hz => ?_, ih⟩
      have hz' := (compact_mem z (y :: t)).1 hz
      have hxz := h'.1 z hz'
      refine ⟨hxz, fun e => hne ?_⟩
      subst e
      have hxy := h'.1 y (by simp)
      have h2 := List.pairwise_cons.1 h'.2
      rcases List.mem_cons.1 hz' with e | e
      · exact e
      · exact leM_anti hxy (h2.1 x e)
theorem list_nodup (R : RulesZ) (p : PosZ) : (listZ R p).Nodup := by
  have := compact_lt _ (sort_sorted (rawZ R p))
  exact this.imp fun h => h.2
end Go.Proofs.Ytaacfoeleblfbaa

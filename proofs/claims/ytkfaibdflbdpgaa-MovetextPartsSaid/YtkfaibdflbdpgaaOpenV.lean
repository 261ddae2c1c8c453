/- Slices and moves that came in as arguments of their own. -/
import Derived.Test.YtkfaibdflbdpgaaOpenM
import Derived.Test.YtkfaibdflbdpgaaOpenP
namespace Go.Proofs.Ytkfaibdflbdpgaa
open Go.ChangeShapes Go.WideShapes Go.ChangeAt Go.RowKit Go.Deep
set_option linter.unusedVariables false
section
variable {H : Type} {enc : TypeId × Value → H} {w : World}
theorem okWide_spot2 {P : Program} {r : Reach} {base : Nat} {t e : TypeId} {v : Value} (hu : P.underlying t = some (.slice e)) (hv : Value.okWide P w r base t v) : (∃ c, v = .slice none 0 0 ∧ c = 0) ∨ ∃ g o len cap, v = .slice (some ⟨g, o, none⟩) len cap := by
  simp only [Value.okWide, hu, Cell.okWide, Cell.ok] at hv
  split at hv <;> simp_all
  rename_i a len cap _
  obtain ⟨g, o, s⟩ := a
  have := hv.2.2.2.1
  simp at this
  subst this
  exact ⟨g, o, rfl⟩
theorem open_listV {α : Type} (el : El α) {P : Program} {r : Reach} {base : Nat} {t e : TypeId} {v : Value} {d : DataW H} {p : List MemPlace} (hu : P.underlying t = some (.slice e)) (hC : P.cellsOf e = el.k) (hk : 0 < el.k)
    (hel : ∀ fuel cs y, DataW.trod enc P w 0 (fun _ => true) true fuel e cs = some y → ∃ x, el.E w x cs) (hv : Value.okWide P w r base t v) (h : DataW.Trod enc P w 0 (fun _ => true) true t v d p) : ∃ xs, RdL el w v xs := by
  obtain ⟨fuel, hf⟩ := h
  rcases okWide_spot2 hu hv with ⟨_, rfl, _⟩ | ⟨g, o, len, cap, rfl⟩
  · exact ⟨[], RdL.nil _ _⟩
  · obtain ⟨v', xs, hc, hr⟩ := open_list el hu hC hk hel hf
    simp [Value.cells] at hc
    subst hc
    exact ⟨xs, hr⟩
set_option maxRecDepth 100000 in
theorem open_moves {r : Reach} {base : Nat} {v : Value} {d : DataW H} {p : List MemPlace} (hv : Value.okWide Try.prog w r base 32 v) (h : DataW.Trod enc Try.prog w 0 (fun _ => true) true 32 v d p) : ∃ xs, RdL moveEl w v xs :=
  open_listV moveEl Try.underlying32 (by kernel_rfl) (by decide) (open_move (enc := enc) (w := w)) hv h
set_option maxRecDepth 100000 in
theorem open_mvV {r : Reach} {base : Nat} {v : Value} {d : DataW H} {p : List MemPlace} (hv : Value.okWide Try.prog w r base 42 v) (h : DataW.Trod enc Try.prog w 0 (fun _ => true) true 42 v d p) : ∃ m : MoveZ, v = .agg #[.int .i64 m.src, .int .i64 m.dst, .int .i64 m.piece] := by
  obtain ⟨cs, rfl, hl, hcell⟩ := okWide_cells (ts := [3, 3, 3]) Try.underlying42 (by kernel_rfl) (by kernel_rfl) hv
  obtain ⟨fuel, hf⟩ := h
  simp only [Value.cells] at hf
  obtain ⟨m, hm⟩ := open_move (enc := enc) (w := w) _ _ _ hf
  simp only [moveEl] at hm
  exact ⟨m, by rw [← hm]⟩
end
end Go.Proofs.Ytkfaibdflbdpgaa

/- Players that came in, opened to plain data. -/
import Derived.Test.YtkngpbnildhdpaaSwA
import Derived.Deep.Slices
import Derived.Deep.Fields
import Derived.ChangeSlices
namespace Go.Proofs.Ytkngpbnildhdpaa
open Go.ChangeShapes Go.WideShapes Go.ChangeAt Go.RowKit Go.Deep
set_option linter.unusedVariables false

section
variable {H : Type} {enc : TypeId × Value → H} {P : Program} {w : World}
theorem block_lt' {w : World} {p : Addr} {v : Value} (h : w.cell? p = some v) : p.block < w.heap.size := by
  rcases Nat.lt_or_ge p.block w.heap.size with hlt | hge
  · exact hlt
  · simp [World.cell?, Array.getElem?_eq_none hge] at h
theorem add_none' (b off n : Nat) : (⟨b, off, none⟩ : Addr).add n = ⟨b, off + n, none⟩ := by
  unfold Addr.add; split
  · rename_i h; subst h; rfl
  · rfl

/-- a slice whose elements are opened by hel. -/
theorem open_list {α : Type} (el : El α) {t e : TypeId} (hu : P.underlying t = some (.slice e)) (hC : P.cellsOf e = el.k) (hk : 0 < el.k)
    (hel : ∀ fuel cs y, DataW.trod enc P w 0 (fun _ => true) true fuel e cs = some y → ∃ x, el.E w x cs)
    {fuel : Nat} {cs : List Value} {y : DataW H × List MemPlace} (h : DataW.trod enc P w 0 (fun _ => true) true fuel t cs = some y) : ∃ v xs, cs = [v] ∧ RdL el w v xs := by
  rcases open_slice hu h with ⟨rfl, _⟩ | ⟨a, len, cap, m, n, D, Pl, rfl, hb, hl, hm, hmm, hx, hi⟩
  · exact ⟨_, [], rfl, RdL.nil el w⟩
  · simp only [if_true] at hmm
    obtain rfl : cap = m := hmm.symm
    by_cases h0 : len = 0
    · subst h0
      exact ⟨_, [], rfl, .inl ⟨_, _, rfl, hm, rfl⟩⟩
    · have hall : ∀ i : Fin len, ∃ x : α, ∃ cs', w.cells? 0 (a.add (i.1 * el.k)) el.k = some cs' ∧ el.E w x cs' := fun i => by
        obtain ⟨cs', h1, h2⟩ := hi i.1 (by omega)
        rw [hC] at h1
        obtain ⟨x, hx⟩ := hel _ _ _ h2
        exact ⟨x, cs', h1, hx⟩
      have hspot : a.spot = none ∧ a.block < w.heap.size := by
        obtain ⟨x, cs', h1, h2⟩ := hall ⟨0, by omega⟩
        have h3 := (World.cells?_some h1).2.2 0 hk
        have hl' := el.len h2
        rw [List.getElem?_eq_getElem (by omega)] at h3
        have h4 : w.cell? a = some cs'[0] := by simpa [Addr.add] using h3
        exact ⟨World.cell?_spot h4, block_lt' h4⟩
      obtain ⟨g, o, s⟩ := a
      obtain ⟨rfl, hg⟩ := hspot
      simp only at hg
      refine ⟨_, List.ofFn fun i => Classical.choose (hall i), rfl, .inr ⟨g, o, cap, by simp, by simpa using hl, hm, hg, fun i hi' => ?_⟩⟩
      have hi2 : i < len := by simpa using hi'
      obtain ⟨cs', h1, h2⟩ := Classical.choose_spec (hall ⟨i, hi2⟩)
      refine ⟨cs', by simpa using h2, fun j hj => ?_⟩
      have := (World.cells?_some h1).2.2 j hj
      rw [add_none', add_none'] at this
      exact this

theorem trod_flat {base : Nat} {spare : Nat → Bool} {held : Bool} {t : TypeId} {fs : Array Field} {fuel : Nat} {cs : List Value} {x : DataW H × List MemPlace} (ht : P.underlying t = some (.struct fs)) (h1 : oneCellFields P fs = true)
    (h : DataW.trod enc P w base spare held fuel t cs = some x) : ∃ (xs : List (DataW H × List MemPlace)) (n : Nat), cs.length = P.cellsOf t ∧ xs.length = fs.size ∧ ∀ (i : Nat) (f : Field), fs[i]? = some f → DataW.trod enc P w base spare held n f.type ((cs.drop i).take 1) = xs[i]? := by
  obtain ⟨xs, n, _, _, hl, hx, hf⟩ := DataW.trod_struct ht h
  refine ⟨xs, n, hl, hx, fun i f hi => ?_⟩
  obtain ⟨o, q⟩ := hone_of h1 i f hi
  have := hf i f hi
  rw [o, q] at this
  exact this
theorem four_cells {cs : List Value} (h : cs.length = 4) : ∃ a b c d, cs = [a, b, c, d] := by
  match cs, h with
  | [a, b, c, d], _ => exact ⟨a, b, c, d, rfl⟩
theorem three_cells {cs : List Value} (h : cs.length = 3) : ∃ a b c, cs = [a, b, c] := by
  match cs, h with
  | [a, b, c], _ => exact ⟨a, b, c, rfl⟩

/-- integers. -/
def intEl : El Int where
  k := 1
  E := fun w x cs => cs = [.int .i64 x]
  mono := fun h _ _ => h
  len := fun h => by subst h; rfl
theorem RdI.of_list {w : World} {v : Value} {zs : List Int} (h : RdL intEl w v zs) : RdI w v zs := by
  rcases h with ⟨a, c, rfl, hm, hz⟩ | ⟨g, o, c, rfl, h1, h2, h3, h4⟩
  · obtain rfl : zs = [] := List.length_eq_zero_iff.1 hz
    exact ⟨rfl, .inl ⟨⟨a, c, rfl, hm⟩, rfl⟩⟩
  · refine ⟨by rw [ints_len, Nat.mul_one], .inr ⟨g, o, c, rfl, h1, h2, fun i hi => ?_⟩⟩
    rw [Nat.mul_one] at hi
    obtain ⟨cs, rfl, hj⟩ := h4 i hi
    have := hj 0 (by decide)
    have e : o + i * intEl.k + 0 = o + i := by show o + i * 1 + 0 = o + i; omega
    rw [e] at this
    rw [this, ints_get _ _ hi, List.getD_eq_getElem?_getD, List.getElem?_eq_getElem hi]
    rfl

set_option maxRecDepth 100000 in
theorem open_int1 (fuel : Nat) (cs : List Value) (y : DataW H × List MemPlace) (h : DataW.trod enc Try.prog w 0 (fun _ => true) true fuel 3 cs = some y) : ∃ x, intEl.E w x cs := by
  obtain ⟨n0, e0, -, -⟩ := DataW.trod_int Try.underlying3 h
  exact ⟨n0, e0⟩

set_option maxRecDepth 100000 in
theorem open_player (fuel : Nat) (cs : List Value) (y : DataW H × List MemPlace) (h : DataW.trod enc Try.prog w 0 (fun _ => true) true fuel 32 cs = some y) : ∃ x, swEl.E w x cs := by
  obtain ⟨xs, n, hlen, hxl, hf⟩ := trod_flat Try.underlying32 (by kernel_rfl) h
  obtain ⟨a, b, c, d, rfl⟩ := four_cells (hlen.trans (by kernel_rfl))
  have hx : xs.length = 4 := hxl
  obtain ⟨y0, y1, y2, y3, rfl⟩ : ∃ a b c d, xs = [a, b, c, d] := by
    match xs, hx with
    | [a, b, c, d], _ => exact ⟨a, b, c, d, rfl⟩
  have f0 := hf 0 _ rfl
  have f1 := hf 1 _ rfl
  have f2 := hf 2 _ rfl
  have f3 := hf 3 _ rfl
  obtain ⟨n0, e0, -, -⟩ := DataW.trod_int Try.underlying3 f0
  obtain ⟨v, ws, e1, hr⟩ := open_list intEl Try.underlying28 (by kernel_rfl) (by decide) (open_int1 (enc := enc) (w := w)) f1
  obtain ⟨n2, e2, -, -⟩ := DataW.trod_int Try.underlying3 f2
  obtain ⟨n3, e3, -⟩ := DataW.trod_bool Try.underlying4 f3
  simp at e0 e1 e2 e3
  subst e0 e1 e2 e3
  exact ⟨⟨n0, ws, n2, n3⟩, b, rfl, RdI.of_list hr⟩

theorem okWide_spot2 {P : Program} {r : Reach} {base : Nat} {t e : TypeId} {v : Value} (hu : P.underlying t = some (.slice e)) (hv : Value.okWide P w r base t v) : (∃ c, v = .slice none 0 0 ∧ c = 0) ∨ ∃ g o len cap, v = .slice (some ⟨g, o, none⟩) len cap := by
  simp only [Value.okWide, hu, Cell.okWide, Cell.ok] at hv
  split at hv <;> simp_all
  rename_i a len cap _
  obtain ⟨g, o, s⟩ := a
  have := hv.2.2.2.1
  simp at this
  subst this
  exact ⟨g, o, rfl⟩
theorem open_listV {α : Type} (el : El α) {P : Program} {r : Reach} {base : Nat} {t e : TypeId} {v : Value} {d : DataW H} {p : List MemPlace} (hu : P.underlying t = some (.slice e)) (hC : P.cellsOf e = el.k) (hk : 0 < el.k)
    (hel : ∀ fuel cs y, DataW.trod enc P w 0 (fun _ => true) true fuel e cs = some y → ∃ x, el.E w x cs) (hv : Value.okWide P w r base t v) (h : DataW.Trod enc P w 0 (fun _ => true) true t v d p) : ∃ xs, RdL el w v xs := by
  obtain ⟨fuel, hf⟩ := h
  rcases okWide_spot2 hu hv with ⟨_, rfl, _⟩ | ⟨g, o, len, cap, rfl⟩
  · exact ⟨[], RdL.nil _ _⟩
  · obtain ⟨v', xs, hc, hr⟩ := open_list el hu hC hk hel hf
    simp [Value.cells] at hc
    subst hc
    exact ⟨xs, hr⟩
theorem open_players {r : Reach} {base : Nat} {v : Value} {d : DataW H} {p : List MemPlace} (hv : Value.okWide Try.prog w r base 22 v)
    (h : DataW.Trod enc Try.prog w 0 (fun _ => true) true 22 v d p) : ∃ ps, RdS w v ps :=
  open_listV swEl Try.underlying22 (by kernel_rfl) (by decide) (open_player (enc := enc) (w := w)) hv h
theorem open_intsV {r : Reach} {base : Nat} {v : Value} {d : DataW H} {p : List MemPlace} (hv : Value.okWide Try.prog w r base 28 v)
    (h : DataW.Trod enc Try.prog w 0 (fun _ => true) true 28 v d p) : ∃ zs, RdI w v zs := by
  obtain ⟨zs, hz⟩ := open_listV intEl Try.underlying28 (by kernel_rfl) (by decide) (open_int1 (enc := enc) (w := w)) hv h
  exact ⟨zs, RdI.of_list hz⟩
end
end Go.Proofs.Ytkngpbnildhdpaa

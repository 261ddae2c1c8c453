/- slices.Clone at slices of structs. -/
import Derived.Test.YtaacfoeleblfbaaEng
import Derived.Test.YtaacfoeleblfbaaOwn
import Derived.Test.YtaacfoeleblfbaaBox2
namespace Go.Proofs.Ytaacfoeleblfbaa
open Go.ChangeShapes Go.WideShapes Go.ChangeAt Go.RowKit
set_option linter.unusedVariables false

def ClonedPost {α : Type} (el : El α) (t : TypeId) (xs : List α) (w : World) (e : Ending) (w' : World) : Prop :=
  ∃ (v : Value) (vs : List Value), e = .returned v ∧ w'.ownsRow w.heap.size t el.k v xs.length vs ∧ (∀ i (h : i < xs.length), el.E w' xs[i] ((vs.drop (i * el.k)).take el.k)) ∧ Below w.heap.size w w'
theorem ClonedPost.rd {α : Type} {el : El α} {t : TypeId} {w : World} {v : Value} {xs : List α} {vs : List Value} {b : Nat} (h : w.ownsRow b t el.k v xs.length vs) (hE : ∀ i (h : i < xs.length), el.E w xs[i] ((vs.drop (i * el.k)).take el.k)) : RdL el w v xs := RdL.of_own h hE
theorem info_of {P : Program} {e : TypeId} {z : Value} {k b : Nat} (h : (P.info? e).map (fun i => (i.zero, i.size, i.bytes)) = some (some z, k, b)) : ∃ i, P.info? e = some i ∧ i.zero = some z ∧ i.size = k ∧ i.bytes = b := by
  cases hh : P.info? e with
  | none => rw [hh] at h; cases h
  | some i =>
    rw [hh] at h
    simp only [Option.map_some, Option.some.injEq, Prod.mk.injEq] at h
    exact ⟨i, rfl, h.1, h.2.1, h.2.2⟩
theorem flat_parts {k : Nat} : ∀ (css : List (List Value)), (∀ cs ∈ css, cs.length = k) → css.flatten.length = css.length * k ∧ ∀ i (h : i < css.length), (css.flatten.drop (i * k)).take k = css[i]
  | [], _ => ⟨by simp, fun i h => by cases h⟩
  | cs :: t, hall => by
    have hc := hall cs (by simp)
    obtain ⟨h1, h2⟩ := flat_parts t (fun c h => hall c (by simp [h]))
    refine ⟨by rw [List.flatten_cons, List.length_append, h1, hc, List.length_cons, Nat.add_mul, Nat.one_mul, Nat.add_comm], fun i hi => ?_⟩
    cases i with
    | zero => simp [hc]
    | succ i =>
      have := h2 i (by simpa using hi)
      rw [List.flatten_cons, Nat.add_mul, Nat.one_mul, Nat.add_comm, ← hc, ← List.drop_drop, List.drop_left, hc, this]
      rfl
/-- a slice's cells as one list. -/
theorem rdl_cells {α : Type} {el : El α} (h1 : ∀ (w : World) (x : α) (cs : List Value), el.E w x cs → ∀ u ∈ cs, u.oneCell' = true) {w : World} {v : Value} {xs : List α} (h : RdL el w v xs) :
    ∃ (a : Option Addr) (n c : Nat) (vs : List Value), v = .slice a n c ∧ n = xs.length ∧ vs.length = n * el.k ∧ (∀ u ∈ vs, u.oneCell' = true) ∧ (∀ i (h : i < xs.length), el.E w xs[i] ((vs.drop (i * el.k)).take el.k)) ∧
      ((a = none → n = 0) ∧ ∀ ad, a = some ad → ∀ j u, vs[j]? = some u → w.cell? (ad.add j) = some u) := by
  rcases h with ⟨a, c, rfl, _, hz⟩ | ⟨g, o, c, rfl, h2, h3, h4, h5⟩
  · exact ⟨a, 0, c, [], rfl, hz.symm, by simp, by simp, fun i hi => by omega, fun _ => rfl, fun ad _ j u hu => by simp at hu⟩
  · have hch : ∀ i : Fin xs.length, ∃ cs, el.E w xs[i] cs ∧ ∀ j, j < el.k → w.cell? ⟨g, o + i * el.k + j, none⟩ = cs[j]? := fun i => h5 i i.2
    let css := List.ofFn fun i => Classical.choose (hch i)
    have hlen : css.length = xs.length := by simp [css]
    have hsp : ∀ i (hi : i < css.length), el.E w xs[i] css[i] ∧ ∀ j, j < el.k → w.cell? ⟨g, o + i * el.k + j, none⟩ = css[i][j]? := fun i hi => by
      have := Classical.choose_spec (hch ⟨i, by omega⟩)
      simpa [css] using this
    have hk : ∀ cs ∈ css, cs.length = el.k := fun cs hcs => by
      obtain ⟨i, hi, rfl⟩ := List.mem_iff_getElem.1 hcs
      exact el.len (hsp i hi).1
    obtain ⟨f1, f2⟩ := flat_parts css hk
    refine ⟨_, xs.length, c, css.flatten, rfl, rfl, by rw [f1, hlen], fun u hu => ?_, fun i hi => by rw [f2 i (by omega)]; exact (hsp i (by omega)).1, (fun e => by cases e), fun ad had j u hu => ?_⟩
    · obtain ⟨cs, hcs, hu⟩ := List.mem_flatten.1 hu
      obtain ⟨i, hi, rfl⟩ := List.mem_iff_getElem.1 hcs
      exact h1 w _ _ (hsp i hi).1 u hu
    · simp only [Option.some.injEq] at had
      subst had
      have hj := (List.getElem?_eq_some_iff.1 hu).1
      rw [f1] at hj
      have hk0 : 0 < el.k := by
        rcases Nat.eq_zero_or_pos el.k with e | e
        · rw [e] at hj; omega
        · exact e
      have hi : j / el.k < css.length := Nat.div_lt_of_lt_mul (by rw [Nat.mul_comm]; exact hj)
      have hm : j % el.k < el.k := Nat.mod_lt _ hk0
      have e := (hsp (j / el.k) hi).2 (j % el.k) hm
      have e2 : o + j / el.k * el.k + j % el.k = o + j := by have := Nat.div_add_mod j el.k; rw [Nat.mul_comm] at this; omega
      rw [e2] at e
      have e3 : (⟨g, o, none⟩ : Addr).add j = ⟨g, o + j, none⟩ := by unfold Addr.add; split <;> simp_all
      rw [e3, e, ← hu]
      rw [← f2 _ hi, List.getElem?_take_of_lt hm, List.getElem?_drop]
      congr 1
      have := Nat.div_add_mod j el.k
      rw [Nat.mul_comm] at this
      exact this

theorem info_way : (Try.prog.info? 79).map (fun i => (i.zero, i.size, i.bytes)) = some (some (.agg #[.int .i64 0, .int .i64 0, .int .i64 0, .int .i64 0]), 4, 32) := by kernel_rfl
theorem Clone_way {α : Type} (el : El α) (hk : el.k = 4) (h1 : ∀ (w : World) (x : α) (cs : List Value), el.E w x cs → ∀ u ∈ cs, u.oneCell' = true) (v : Value) (xs : List α) (w : World) (h : RdL el w v xs) (hl : xs.length ≤ 1000000) :
    Calls Try.prog 43 #[v] w (ClonedPost el 79 xs w) := by
  obtain ⟨i0, hi, hz0, hz1, hz2⟩ := info_of info_way
  have hq := fun (w : World) (a : Option Addr) (n c : Nat) => Lib.run_eql_slice_nil (P := Try.prog) w 48 79 a n c 0 0 Try.underlying48
  have hown0 : (w.alloc (.cells #[] 79)).ownsRow w.heap.size 79 4 (.slice (some ⟨w.heap.size, 0, none⟩) 0 0) 0 [] := World.ownsRow_made w #[] 0 (Nat.le_refl _) (by unfold maxLen; omega) rfl
  obtain ⟨a, n, c, vs, rfl, hn, hvl, hone, hE, hcell⟩ := rdl_cells h1 h
  rw [hk] at hvl
  have HR := Lib.hid hE
  cases a with
  | none =>
    have hn0 : n = 0 := hcell.1 rfl
    subst hn0
    obtain rfl : xs = [] := List.length_eq_zero_iff.1 hn.symm
    clear h hl hE hcell hown0 hn hvl hone HR hi hz0 hz1 hz2
    go_enter Try.func43, Try.ntmps43
    go_wp2
    go_ret
    exact ⟨_, [], rfl, World.ownsRow_nil _ _ _ _, (fun i hi => by cases hi), Below.refl _ _⟩
  | some ad =>
    have hnews : ∀ j u, vs[j]? = some u → (w.alloc (.cells #[] 79)).cell? (ad.add j) = some u := fun j u hu => by
      have hc := hcell.2 ad rfl j u hu
      rw [World.cell?_of_block (w := w) (a := ad.add j) (Below.heap_alloc w _ _ (World.block_lt_of_cell? w _ hc))]
      exact hc
    have Hown0 := Lib.hid hown0
    have Hnews := Lib.hid hnews
    have Hil := Lib.hid hvl
    have Hone := Lib.hid hone
    have hnl : n ≤ 1000000 := by omega
    have HN := Lib.hid hn
    clear hown0 hnews hcell h hE hvl hone hl hn
    go_enter Try.func43, Try.ntmps43
    go_wp2_with (at_builtin; refine wpList_append_own _ rfl _ _ 48 rfl w.heap.size 79 i0 (.agg #[.int .i64 0, .int .i64 0, .int .i64 0, .int .i64 0]) 4 32 Try.underlying48 hi hz0 hz1 hz2 rfl (by decide) _ 0 [] rfl Hown0.out ad n c vs rfl Hil.out Hnews.out Hone.out ?c3 ?c4 ?c5 ?_)
    case c3 => unfold maxLen; omega
    case c4 => omega
    case c5 => simp
    intro v' w2 hown' hgrow _
    try simp only [Nat.zero_add, List.nil_append] at hown'
    have hb : Below w.heap.size w w2 := Below.grown ((Below.refl _ w).alloc (Nat.le_refl _) _) hgrow (by simp) (fun q hq => by simp [Value.ownBlock] at hq; omega)
    have HO := Lib.hid hown'
    have HB := Lib.hid hb
    clear hown' hgrow hb
    go_wp2
    go_ret
    exact ⟨v', vs, rfl, by rw [← HN.out, hk]; exact HO.out, fun i hi => el.mono (HR.out i hi) HB.out (Nat.le_refl _), HB.out⟩


theorem info_end : (Try.prog.info? 52).map (fun i => (i.zero, i.size, i.bytes)) = some (some (.agg #[.int .i64 0, .int .i64 0, .int .i64 0, .bool false]), 4, 32) := by kernel_rfl
theorem Clone_end {α : Type} (el : El α) (hk : el.k = 4) (h1 : ∀ (w : World) (x : α) (cs : List Value), el.E w x cs → ∀ u ∈ cs, u.oneCell' = true) (v : Value) (xs : List α) (w : World) (h : RdL el w v xs) (hl : xs.length ≤ 1000000) :
    Calls Try.prog 44 #[v] w (ClonedPost el 52 xs w) := by
  obtain ⟨i0, hi, hz0, hz1, hz2⟩ := info_of info_end
  have hq := fun (w : World) (a : Option Addr) (n c : Nat) => Lib.run_eql_slice_nil (P := Try.prog) w 24 52 a n c 0 0 Try.underlying24
  have hown0 : (w.alloc (.cells #[] 52)).ownsRow w.heap.size 52 4 (.slice (some ⟨w.heap.size, 0, none⟩) 0 0) 0 [] := World.ownsRow_made w #[] 0 (Nat.le_refl _) (by unfold maxLen; omega) rfl
  obtain ⟨a, n, c, vs, rfl, hn, hvl, hone, hE, hcell⟩ := rdl_cells h1 h
  rw [hk] at hvl
  have HR := Lib.hid hE
  cases a with
  | none =>
    have hn0 : n = 0 := hcell.1 rfl
    subst hn0
    obtain rfl : xs = [] := List.length_eq_zero_iff.1 hn.symm
    clear h hl hE hcell hown0 hn hvl hone HR hi hz0 hz1 hz2
    go_enter Try.func44, Try.ntmps44
    go_wp2
    go_ret
    exact ⟨_, [], rfl, World.ownsRow_nil _ _ _ _, (fun i hi => by cases hi), Below.refl _ _⟩
  | some ad =>
    have hnews : ∀ j u, vs[j]? = some u → (w.alloc (.cells #[] 52)).cell? (ad.add j) = some u := fun j u hu => by
      have hc := hcell.2 ad rfl j u hu
      rw [World.cell?_of_block (w := w) (a := ad.add j) (Below.heap_alloc w _ _ (World.block_lt_of_cell? w _ hc))]
      exact hc
    have Hown0 := Lib.hid hown0
    have Hnews := Lib.hid hnews
    have Hil := Lib.hid hvl
    have Hone := Lib.hid hone
    have hnl : n ≤ 1000000 := by omega
    have HN := Lib.hid hn
    clear hown0 hnews hcell h hE hvl hone hl hn
    go_enter Try.func44, Try.ntmps44
    go_wp2_with (at_builtin; refine wpList_append_own _ rfl _ _ 24 rfl w.heap.size 52 i0 (.agg #[.int .i64 0, .int .i64 0, .int .i64 0, .bool false]) 4 32 Try.underlying24 hi hz0 hz1 hz2 rfl (by decide) _ 0 [] rfl Hown0.out ad n c vs rfl Hil.out Hnews.out Hone.out ?c3 ?c4 ?c5 ?_)
    case c3 => unfold maxLen; omega
    case c4 => omega
    case c5 => simp
    intro v' w2 hown' hgrow _
    try simp only [Nat.zero_add, List.nil_append] at hown'
    have hb : Below w.heap.size w w2 := Below.grown ((Below.refl _ w).alloc (Nat.le_refl _) _) hgrow (by simp) (fun q hq => by simp [Value.ownBlock] at hq; omega)
    have HO := Lib.hid hown'
    have HB := Lib.hid hb
    clear hown' hgrow hb
    go_wp2
    go_ret
    exact ⟨v', vs, rfl, by rw [← HN.out, hk]; exact HO.out, fun i hi => el.mono (HR.out i hi) HB.out (Nat.le_refl _), HB.out⟩

end Go.Proofs.Ytaacfoeleblfbaa

/- Rows of announced moves as lists of cells; slices.Clone at PremoveMove. -/
import Derived.Test.YtkfaibdflbdpgaaPrem2
import Derived.Test.YtkfaibdflbdpgaaClone
import Derived.Test.YtkfaibdflbdpgaaMvK
namespace Go.Proofs.Ytkfaibdflbdpgaa
open Go.ChangeShapes Go.WideShapes Go.ChangeAt Go.RowKit
set_option linter.unusedVariables false


theorem info_pm : (Try.prog.info? 121).map (fun i => (i.zero, i.size, i.bytes)) = some (some (.agg #[.int .i64 0, .int .i64 0, .int .i64 0, .int .i64 0]), 4, 32) := by kernel_rfl
theorem Clone_pm {α : Type} (el : El α) (hk : el.k = 4) (h1 : ∀ (w : World) (x : α) (cs : List Value), el.E w x cs → ∀ u ∈ cs, u.oneCell' = true) (v : Value) (xs : List α) (w : World) (h : RdL el w v xs) (hl : xs.length ≤ 1000000) :
    Calls Try.prog 79 #[v] w (ClonedPost el 121 xs w) := by
  obtain ⟨i0, hi, hz0, hz1, hz2⟩ := info_of info_pm
  have hq := fun (w : World) (a : Option Addr) (n c : Nat) => Lib.run_eql_slice_nil (P := Try.prog) w 62 121 a n c 0 0 Try.underlying62
  have hown0 : (w.alloc (.cells #[] 121)).ownsRow w.heap.size 121 4 (.slice (some ⟨w.heap.size, 0, none⟩) 0 0) 0 [] := World.ownsRow_made w #[] 0 (Nat.le_refl _) (by unfold maxLen; omega) rfl
  obtain ⟨a, n, c, vs, rfl, hn, hvl, hone, hE, hcell⟩ := rdl_cells h1 h
  rw [hk] at hvl
  have HR := Lib.hid hE
  cases a with
  | none =>
    have hn0 : n = 0 := hcell.1 rfl
    subst hn0
    obtain rfl : xs = [] := List.length_eq_zero_iff.1 hn.symm
    clear h hl hE hcell hown0 hn hvl hone HR hi hz0 hz1 hz2
    go_enter Try.func79, Try.ntmps79
    go_wp2
    go_ret
    exact ⟨_, [], rfl, World.ownsRow_nil _ _ _ _, (fun i hi => by cases hi), Below.refl _ _⟩
  | some ad =>
    have hnews : ∀ j u, vs[j]? = some u → (w.alloc (.cells #[] 121)).cell? (ad.add j) = some u := fun j u hu => by
      have hc := hcell.2 ad rfl j u hu
      rw [World.cell?_of_block (w := w) (a := ad.add j) (Below.heap_alloc w _ _ (World.block_lt_of_cell? w _ hc))]
      exact hc
    have Hown0 := Lib.hid hown0
    have Hnews := Lib.hid hnews
    have Hil := Lib.hid hvl
    have Hone := Lib.hid hone
    have hnl : n ≤ 1000000 := by omega
    have HN := Lib.hid hn
    clear hown0 hnews hcell h hE hvl hone hl hn
    go_enter Try.func79, Try.ntmps79
    go_wp2_with (at_builtin; refine wpList_append_own _ rfl _ _ 62 rfl w.heap.size 121 i0 (.agg #[.int .i64 0, .int .i64 0, .int .i64 0, .int .i64 0]) 4 32 Try.underlying62 hi hz0 hz1 hz2 rfl (by decide) _ 0 [] rfl Hown0.out ad n c vs rfl Hil.out Hnews.out Hone.out ?c3 ?c4 ?c5 ?_)
    case c3 => unfold maxLen; omega
    case c4 => omega
    case c5 => simp
    intro v' w2 hown' hgrow _
    try simp only [Nat.zero_add, List.nil_append] at hown'
    have hb : Below w.heap.size w w2 := Below.grown ((Below.refl _ w).alloc (Nat.le_refl _) _) hgrow (by simp) (fun q hq => by simp [Value.ownBlock] at hq; omega)
    have HO := Lib.hid hown'
    have HB := Lib.hid hb
    clear hown' hgrow hb
    go_wp2
    go_ret
    exact ⟨v', vs, rfl, by rw [← HN.out, hk]; exact HO.out, fun i hi => el.mono (HR.out i hi) HB.out (Nat.le_refl _), HB.out⟩

theorem prem_one (w : World) (x : PremZ) (cs : List Value) (h : premEl.E w x cs) : ∀ u ∈ cs, u.oneCell' = true := by
  simp only [premEl] at h
  subst h
  intro u hu
  simp at hu
  rcases hu with rfl | rfl | rfl | rfl <;> rfl
def flatP (l : List PremZ) : List Value := l.flatMap fun m => [.int .i64 m.player, .int .i64 m.move.src, .int .i64 m.move.dst, .int .i64 m.move.piece]
theorem flatP_cons (m : PremZ) (t : List PremZ) : flatP (m :: t) = .int .i64 m.player :: .int .i64 m.move.src :: .int .i64 m.move.dst :: .int .i64 m.move.piece :: flatP t := rfl
theorem flatP_append (l : List PremZ) (m : PremZ) : flatP l ++ [.int .i64 m.player, .int .i64 m.move.src, .int .i64 m.move.dst, .int .i64 m.move.piece] = flatP (l ++ [m]) := by simp [flatP]
theorem flatP_len (l : List PremZ) : (flatP l).length = l.length * 4 := by
  induction l with
  | nil => rfl
  | cons m t ih => rw [flatP_cons]; simp only [List.length_cons, ih]; omega
theorem flatP_at (l : List PremZ) (i : Nat) (h : i < l.length) : (flatP l)[i * 4]? = some (.int .i64 (l.getD i default).player) ∧ (flatP l)[i * 4 + 1]? = some (.int .i64 (l.getD i default).move.src) ∧ (flatP l)[i * 4 + 2]? = some (.int .i64 (l.getD i default).move.dst) ∧
    (flatP l)[i * 4 + 3]? = some (.int .i64 (l.getD i default).move.piece) := by
  induction l generalizing i with
  | nil => simp at h
  | cons m t ih =>
    rw [flatP_cons]
    cases i with
    | zero => simp
    | succ i =>
      obtain ⟨a, b, c, d⟩ := ih i (by simpa using h)
      rw [show (i + 1) * 4 = i * 4 + 1 + 1 + 1 + 1 by omega, show i * 4 + 1 + 1 + 1 + 1 + 1 = i * 4 + 1 + 1 + 1 + 1 + 1 by rfl, show i * 4 + 1 + 1 + 1 + 1 + 2 = i * 4 + 2 + 1 + 1 + 1 + 1 by omega, show i * 4 + 1 + 1 + 1 + 1 + 3 = i * 4 + 3 + 1 + 1 + 1 + 1 by omega]
      simp only [List.getElem?_cons_succ, List.getD_cons_succ]
      exact ⟨a, b, c, d⟩
theorem flatP_take (l : List PremZ) (k : Nat) : (flatP l).take (k * 4) = flatP (l.take k) := by
  induction l generalizing k with
  | nil => simp [flatP]
  | cons m t ih =>
    cases k with
    | zero => simp [flatP]
    | succ k =>
      rw [List.take_succ_cons, flatP_cons, flatP_cons, ← ih k, show (k + 1) * 4 = k * 4 + 1 + 1 + 1 + 1 by omega]
      simp only [List.take_succ_cons]
theorem flatP_put (l : List PremZ) (i : Nat) (z : PremZ) : putAt (flatP l) (i * 4) [.int .i64 z.player, .int .i64 z.move.src, .int .i64 z.move.dst, .int .i64 z.move.piece] = flatP (l.set i z) := by
  simp only [putAt]
  induction l generalizing i with
  | nil => simp [flatP]
  | cons m t ih =>
    cases i with
    | zero => simp [flatP_cons]
    | succ i =>
      rw [List.set_cons_succ, flatP_cons, flatP_cons, ← ih i, show (i + 1) * 4 = i * 4 + 1 + 1 + 1 + 1 by omega]
      simp [List.set_cons_succ]
theorem flatP_of {w : World} : ∀ (xs : List PremZ) (vs : List Value), vs.length = xs.length * 4 → (∀ i (h : i < xs.length), premEl.E w xs[i] ((vs.drop (i * 4)).take 4)) → vs = flatP xs
  | [], vs, hl, _ => by
    have : vs.length = 0 := by simpa using hl
    rw [List.length_eq_zero_iff.1 this]; rfl
  | x :: t, vs, hl, h => by
    have h0 : vs.take 4 = [.int .i64 x.player, .int .i64 x.move.src, .int .i64 x.move.dst, .int .i64 x.move.piece] := h 0 (by simp)
    have ih := flatP_of (w := w) t (vs.drop 4) (by simp at hl ⊢; omega) (fun i hi => by
      have := h (i + 1) (by simpa using hi)
      rw [show (i + 1) * 4 = 4 + i * 4 by omega] at this
      rw [List.drop_drop]
      exact this)
    rw [flatP_cons, ← ih, ← List.take_append_drop 4 vs, h0]
    simp
theorem rdP_of_own {w : World} {b : Nat} {v : Value} {xs : List PremZ} (h : w.ownsRow b 121 4 v xs.length (flatP xs)) : RdL premEl w v xs := by
  refine RdL.of_own (el := premEl) h fun i hi => ?_
  obtain ⟨c0, c1, c2, c3⟩ := flatP_at xs i hi
  have e : xs.getD i default = xs[i] := by rw [List.getD_eq_getElem?_getD, List.getElem?_eq_getElem hi]; rfl
  rw [e] at c0 c1 c2 c3
  show ((flatP xs).drop (i * 4)).take 4 = _
  have hlen := flatP_len xs
  apply List.ext_getElem?
  intro j
  by_cases hj : j < 4
  · rw [List.getElem?_take, if_pos hj, List.getElem?_drop]
    match j, hj with
    | 0, _ => exact c0
    | 1, _ => exact c1
    | 2, _ => exact c2
    | 3, _ => exact c3
  · rw [List.getElem?_eq_none (by simp; omega), List.getElem?_eq_none (by simp; omega)]
theorem clone_pm (v : Value) (xs : List PremZ) (w : World) (h : RdL premEl w v xs) (hl : xs.length ≤ 1000000) :
    Calls Try.prog 79 #[v] w fun e w' => ∃ v', e = .returned v' ∧ w'.ownsRow w.heap.size 121 4 v' xs.length (flatP xs) ∧ Below w.heap.size w w' := by
  refine (Clone_pm premEl rfl prem_one v xs w h hl).mono ?_
  rintro e w' ⟨v', vs, rfl, ho, hE, hb⟩
  have e1 := flatP_of xs vs ho.1 hE
  subst e1
  exact ⟨v', rfl, ho, hb⟩
theorem zero4 (n : Nat) : (Builtin.zeroCells (Value.cells (.agg #[.int .i64 0, .int .i64 0, .int .i64 0, .int .i64 0])) n).toList = List.replicate (n * 4) (.int .i64 0) := by
  apply List.ext_getElem
  · simp [Builtin.zeroCells, Value.cells]
  · intro i h1 h2
    simp only [Builtin.zeroCells, Value.cells, Array.toList_map, Array.toList_range, List.getElem_map, List.getElem_range, List.getElem_replicate]
    have h3 : i % 4 = 0 ∨ i % 4 = 1 ∨ i % 4 = 2 ∨ i % 4 = 3 := by omega
    rcases h3 with h3 | h3 | h3 | h3 <;> simp [h3]
theorem run_clear4 (w : World) (ty : TypeId) (b o n c : Nat) (hn : 0 < n) (hc : ∀ j, j < n * 4 → (w.cell? ⟨b, o + j, none⟩).isSome = true) (hf : ∀ j, j < n * 4 → w.frozen? ⟨b, o + j, none⟩ = false) :
    (Builtin.clear_ #[62] ty #[.slice (some ⟨b, o, none⟩) n c]).run Try.prog w = .ok (.tuple #[]) (w.setCells b o (List.replicate (n * 4) (.int .i64 0))) := by
  have hv : ∀ w, (zeroValue 121).run Try.prog w = .ok (.agg #[.int .i64 0, .int .i64 0, .int .i64 0, .int .i64 0]) w := fun w => by kernel_rfl
  have hst := run_storeCells_cells (P := Try.prog) b o (List.replicate (n * 4) (.int .i64 0)) 0 w (by simpa using hc) (by simpa using hf) (by intro v hv'; rw [List.eq_of_mem_replicate hv']; rfl)
  simp only [Nat.add_zero] at hst
  obtain ⟨m, rfl⟩ : ∃ m, n = m + 1 := ⟨n - 1, by omega⟩
  simp [Builtin.clear_, run_underlying Try.underlying62, hv, zero4, hst]
theorem idxL_none {α : Type} (p : α → Bool) : ∀ (xs : List α) (k : Int), 0 ≤ k → idxL p xs k = -1 → xs.filter (fun x => !p x) = xs
  | [], _, _, _ => rfl
  | x :: t, k, hk, h => by
    unfold idxL at h
    cases hx : p x
    · rw [hx] at h
      rw [List.filter_cons, hx]
      simp only [Bool.not_false, if_true]
      rw [idxL_none p t (k + 1) (by omega) (by simpa using h)]
    · rw [hx] at h
      simp at h
      omega
theorem idxL_found {α : Type} [Inhabited α] (p : α → Bool) : ∀ (xs : List α) (k : Int), 0 ≤ k → idxL p xs k ≠ -1 → ∃ j : Nat, idxL p xs k = k + j ∧ j < xs.length ∧ p (xs.getD j default) = true ∧ (xs.take j).filter (fun x => !p x) = xs.take j
  | [], _, _, h => by simp [idxL] at h
  | x :: t, k, hk, h => by
    unfold idxL at h ⊢
    cases hx : p x
    · rw [hx] at h
      simp only [Bool.false_eq_true, if_false] at h ⊢
      obtain ⟨j, h1, h2, h3, h4⟩ := idxL_found p t (k + 1) (by omega) h
      refine ⟨j + 1, by rw [h1]; omega, by simp; omega, by simpa using h3, ?_⟩
      rw [List.take_succ_cons, List.filter_cons, hx]
      simp only [Bool.not_false, if_true]
      rw [h4]
    · exact ⟨0, by simp, by simp, by simpa using hx, by simp⟩
theorem filter_snoc {α : Type} [Inhabited α] (q : α → Bool) (xs : List α) (m : Nat) (h : m < xs.length) : (xs.take (m + 1)).filter q = (xs.take m).filter q ++ if q (xs.getD m default) = true then [xs.getD m default] else [] := by
  rw [List.take_succ_eq_append_getElem h, List.filter_append, List.getD_eq_getElem?_getD, List.getElem?_eq_getElem h]
  congr 1
  by_cases e : q xs[m] = true <;> simp [e]
theorem drop_moreP {α : Type} {xs ys : List α} {o : Nat} (h : ys.drop o = xs.drop o) (i : Nat) : ys.drop (o + i) = xs.drop (o + i) := by
  rw [← List.drop_drop, ← List.drop_drop, h]
theorem drop_putP {α : Type} {xs ys : List α} {o : Nat} (h : ys.drop o = xs.drop o) (k : Nat) (z : α) (hk : k < o + 1) : (ys.set k z).drop (o + 1) = xs.drop (o + 1) := by
  rw [List.drop_set_of_lt hk]
  exact drop_moreP h 1
theorem take_putP {α : Type} (l : List α) (k : Nat) (z : α) (h : k < l.length) : (l.set k z).take (k + 1) = l.take k ++ [z] := by
  rw [List.take_succ_eq_append_getElem (by simpa using h), List.take_set_of_le (Nat.le_refl _), List.getElem_set_self]
theorem getD_dropP {α : Type} [Inhabited α] {xs ys : List α} {o : Nat} (h : ys.drop o = xs.drop o) : ys.getD o default = xs.getD o default := by
  have := congrArg (fun l => l.getD 0 default) h
  simpa [List.getD_eq_getElem?_getD, List.getElem?_drop] using this
theorem grown_new {B : Nat} {w w1 w2 : World} {row : Option Nat} (h : w.grownBy w1 row) (hb : Below w1.heap.size w1 w2) : w.grownBy w2 row :=
  ⟨hb.os.trans h.os, hb.tape.trans h.tape, hb.output.trans h.output, Nat.le_trans h.size hb.size, fun k hk hn => (hb.block k (Nat.lt_of_lt_of_le hk h.size)).trans (h.block k hk hn)⟩

end Go.Proofs.Ytkfaibdflbdpgaa

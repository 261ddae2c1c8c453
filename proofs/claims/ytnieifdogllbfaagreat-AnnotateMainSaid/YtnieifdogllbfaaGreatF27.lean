/- slices.Insert of one branch at the head of a row that has room. -/
import Derived.Test.YtnieifdogllbfaaGreatF26
import Derived.Test.YtnieifdogllbfaaGreatF06
import Derived.Lib.Overlaps
import Derived.Laws.IdiomCopy
import Derived.Laws.Externs
import Derived.BigQuiet
import Derived.Deep.Cut
import Derived.Deep.CutRange
import Derived.Deep.QuietTactic
namespace Go.Proofs.YtnieifdogllbfaaGreat
open Go.ChangeShapes Go.WideShapes Go.ChangeAt Go.RowKit
set_option linter.unusedVariables false
theorem putAt_all : ∀ (xs l : List Value) (o : Nat), o + xs.length = l.length → putAt l o xs = l.take o ++ xs
 | [], l, o, h => by rw [putAt, List.append_nil, List.take_of_length_le (by simpa using Nat.le_of_eq h.symm)]
 | x :: t, l, o, h => by
  have ho : o < l.length := by simp at h; omega
  rw [putAt, putAt_all t _ (o + 1) (by simp at h ⊢; omega)]
  rw [List.take_succ_eq_append_getElem (by simpa using ho), List.getElem_set_self, List.take_set_of_le (Nat.le_refl o), List.append_assoc]
  rfl
theorem own_more {w : World} {b g n c : Nat} {e : TypeId} {xs : List Value} (h : w.ownsRow b e 1 (.slice (some ⟨g, 0, none⟩) n c) n xs) (hc : n + 1 ≤ c) : ∃ x, w.ownsRow b e 1 (.slice (some ⟨g, 0, none⟩) (n + 1) c) (n + 1) (xs ++ [x]) := by
 rcases h.2 with ⟨h0, -⟩ | ⟨g', c', cur, hv, hg, hb, h1, h2, h3, h4⟩
 ·cases h0
 ·simp only [Value.slice.injEq, Option.some.injEq, Addr.mk.injEq, and_true, true_and] at hv
  obtain ⟨rfl, rfl⟩ := hv
  rw [Nat.mul_one] at h3 h4
  have hl : n < cur.toList.length := by simp; omega
  refine ⟨cur.toList[n], by have := h.1; simp; omega, .inr ⟨g, c, cur, rfl, hg, hb, hc, h2, by rw [Nat.mul_one]; exact h3, ?_⟩⟩
  rw [Nat.mul_one, List.take_succ_eq_append_getElem hl, h4]
theorem shape_box {w : World} {b : Nat} {cs : List Value} {t : TypeId} (h : Box w b cs t) : w.shape? b = some (t, cs.length) := by
 unfold World.shape?
 rw [show w.heap[b]? = _ from h]
 simp
theorem wpList_copy_r {P : Program} (w : World) {ops : Array Oper} {rest : List Oper} {o : Oper} {a : Act} {Q : Exit → Act → World → Prop} (hgd : o.guard = none) (d s : Operand) (t t' : TypeId)
  (ho : o.op = .call { callee := .builtin .copy, args := #[d, s], argTypes := #[t, t'] }) (v u : Value) (hd : a.eval d = v) (hs : a.eval s = u) {v' : Value} {w' : World}
  (hr : (Builtin.copy_ #[t, t'] o.type #[v, u]).run P w = .ok v' w') (h : wpList P ops Q rest (a.put o.dst v') w') : wpList P ops Q (o :: rest) a w := by
 refine wpList_plain hgd fun K hK => ?_
 unfold Oper.wp execOp
 simp only [ho, resolve, invoke, builtin, Sem.run_bind, Sem.run_pure, Result.andThen_ok, List.map_toArray, List.map_cons, List.map_nil, hd, hs, hr]
 exact hK _ _ h
theorem wp_copy_r {P : Program} (w : World) {o : Oper} {a : Act} {K : Act → World → Prop} {Q : Exit → Act → World → Prop} (d s : Operand) (t t' : TypeId)
  (ho : o.op = .call { callee := .builtin .copy, args := #[d, s], argTypes := #[t, t'] }) (v u : Value) (hd : a.eval d = v) (hs : a.eval s = u) {v' : Value} {w' : World}
  (hr : (Builtin.copy_ #[t, t'] o.type #[v, u]).run P w = .ok v' w') (h : K (a.put o.dst v') w') : o.wp P a w K Q := by
 unfold Oper.wp execOp
 simp only [ho, resolve, invoke, builtin, Sem.run_bind, Sem.run_pure, Result.andThen_ok, List.map_toArray, List.map_cons, List.map_nil, hd, hs, hr]
 exact h
def InsPost (b n c g : Nat) (x : Value) (xs : List Value) (w : World) (e : Ending) (w' : World) : Prop := e = .returned (.slice (some ⟨g, 0, none⟩) (n + 1) c) ∧ w'.ownsRow b tPt 1 (.slice (some ⟨g, 0, none⟩) (n + 1) c) (n + 1) (x :: xs) ∧ w.grownBy w' (some g)
set_option maxRecDepth 100000
set_option maxHeartbeats 8000000
theorem InsertP_any (b n c g nb : Nat) (x : Value) (xs : List Value) (w : World) (h : w.ownsRow b tPt 1 (.slice (some ⟨g, 0, none⟩) n c) n xs) (hc : n + 1 ≤ c) (hn : n ≤ 1000000) (h1 : ∀ u ∈ xs, u.oneCell' = true) (hx : x.oneCell' = true) (hnb : Box w nb [x] tPt) (hne : nb ≠ g) :
  Calls Tryz.prog 36 #[.slice (some ⟨g, 0, none⟩) n c, .int .i64 0, .slice (some ⟨nb, 0, none⟩) 1 1] w (InsPost b n c g x xs w) := by
 have hcm : c ≤ 9223372036854775807 := by
  rcases h.2 with ⟨h0, -⟩ | ⟨g', c', cur, hv, -, -, -, h3, -⟩
  ·cases h0
  ·cases hv; unfold maxLen at h3; exact h3
 obtain ⟨i0, hi0, hz0, hz1, hz2⟩ := info_parts infoBr
 have HO := Lib.hid h
 have HNB := Lib.hid hnb
 have hxl : xs.length = n := by have := h.1; omega
 have HXL := Lib.hid hxl
 obtain ⟨y, hy⟩ := own_more h hc
 have HY := Lib.hid hy
 obtain ⟨cur, hcu, hcl⟩ := box_of_row h
 have HCU := Lib.hid hcu
 have hxo : ∀ u ∈ [x], u.oneCell' = true := fun u hu => by rw [List.mem_singleton] at hu; subst hu; exact hx
 have HXO := Lib.hid hxo
 have H1 := Lib.hid h1
 have hsz : (Tryz.prog.info? 75).map (·.size) = some 1 := by rw [hi0]; simp [hz1]
 by_cases h0 : n = 0
 ·subst h0
  have hxs : xs = [] := List.length_eq_zero_iff.1 hxl
  subst hxs
  have hnw : ∀ j u, ([x] : List Value)[j]? = some u → w.cell? ((⟨nb, 0, none⟩ : Addr).add j) = some u := fun j u hu => by
   rw [add_off, Nat.zero_add]; exact hnb.cell j hu
  have HNW := Lib.hid hnw
  clear h hnb hxl hy hcu hcl hxo h1 hx hnw
  go_enter Tryz.func36, Tryz.ntmps36
  go_wp2_with (at_builtin; refine wpList_append_fits (P := Tryz.prog) w rfl _ _ 59 rfl b 75 i0 1 Tryz.underlying59 hi0 hz1 g 0 c [] rfl HO.out ⟨nb, 0, none⟩ 1 1 [x] rfl rfl HNW.out HXO.out (by omega) ?_; intro w1 ho1 hg1; have HO1 := Lib.hid ho1; have HG1 := Lib.hid hg1; clear ho1 hg1)
  go_ret
  exact ⟨rfl, HO1.out, HG1.out⟩
 ·have hsa := shape_box hnb
  have hsb := shape_box hcu
  have hfa : w.frozen? (⟨nb, 0, none⟩ : Addr) = false := hnb.frozen 0
  have hfe : w.frozen? (⟨nb, 1, none⟩ : Addr) = false := hnb.frozen 1
  have hov : ∀ lb cb, (callFunc 59 #[.slice (some ⟨nb, 0, none⟩) 1 1, .slice (some ⟨g, 1, none⟩) lb cb]).run Tryz.prog w = .ok (.value (.bool false)) w := fun lb cb => by
   rw [run_callFunc_extern Tryz.func59 (by kernel_rfl) (by kernel_rfl) (by kernel_rfl) (e := Extern.SlicesOverlaps.overlaps #[59, 59] #[4]) (by kernel_rfl),
    Lib.run_overlaps_apart w 59 4 75 Tryz.underlying59 1 (fun _ => by kernel_rfl) ⟨nb, 0, none⟩ ⟨g, 1, none⟩ 1 1 lb cb hne tPt tPt 1 c hsa (by rw [← hcl]; exact hsb) (by omega) hfa hfe]
   rfl
  have hcp1 : ∀ ty dc sc, (Builtin.copy_ #[59, 59] ty #[.slice (some ⟨g, 1, none⟩) n dc, .slice (some ⟨g, 0, none⟩) (n + 1) sc]).run Tryz.prog w.drew = .ok (goInt xs.length) (w.drew.setCells g 1 xs) := fun ty dc sc =>
   run_copy_cells w.drew _ _ ty 75 g 1 n dc ⟨g, 0, none⟩ (n + 1) sc xs Tryz.underlying59 hsz (by rw [hxl]; simp only [Nat.min_def]; split <;> omega)
    (fun j v hj => by rw [add_off, Nat.zero_add]; exact (h.cellAt j (by have := (List.getElem?_eq_some_iff.1 hj).1; omega)).trans hj)
    (fun j hj => by rw [show w.drew.cell? _ = w.cell? _ from rfl, hcu.cell (1 + j) (List.getElem?_eq_getElem (by omega))]; rfl) (fun j hj => hcu.frozen _) h1
  obtain ⟨W1, hW1⟩ : ∃ W1, W1 = w.drew.setCells g 1 xs := ⟨_, rfl⟩
  have hB1 : Box W1 nb [x] tPt := by rw [hW1]; exact (heap_setCells g xs 1 w.drew nb hne).trans hnb
  have hY1 := own_put xs (xs ++ [y]) 1 w.drew hy.drew
  rw [← hW1] at hY1 hcp1
  obtain ⟨cur1, hcu1, hcl1⟩ := box_of_row hY1.1
  have hcp2 : ∀ ty dc, (Builtin.copy_ #[59, 59] ty #[.slice (some ⟨g, 0, none⟩) (n + 1) dc, .slice (some ⟨nb, 0, none⟩) 1 1]).run Tryz.prog W1 = .ok (goInt [x].length) (W1.setCells g 0 [x]) := fun ty dc =>
   run_copy_cells W1 _ _ ty 75 g 0 (n + 1) dc ⟨nb, 0, none⟩ 1 1 [x] Tryz.underlying59 hsz (by simp only [List.length_singleton, Nat.min_def]; split <;> omega)
    (fun j v hj => by rw [add_off, Nat.zero_add]; exact hB1.cell j hj)
    (fun j hj => by rw [hcu1.cell (0 + j) (List.getElem?_eq_getElem (by simp at hj; omega))]; rfl) (fun j hj => hcu1.frozen _) hxo
  have HY1 := Lib.hid hY1
  have hY2 := own_put [x] _ 0 W1 hY1.1
  have HY2 := Lib.hid hY2
  have HW1 := Lib.hid hW1
  have hz1 : ¬ ((0 : Int) = (n : Int)) := by omega
  have hw1 : IntKind.i64.wrap 1 = 1 := by rw [IntKind.wrap_i64]; omega
  have hs0 : ∀ w : World, (Instr.slice 59 (.slice (some ⟨g, 0, none⟩) (n + 1) c) (some (.int .i64 0)) none none).run Tryz.prog w = .ok (.slice (some ⟨g, 0, none⟩) (n + 1) c) w := fun w => by
   have h := run_drop (P := Tryz.prog) (s := 1) Tryz.underlying59 (fun _ => by kernel_rfl) (some ⟨g, 0, none⟩) (n + 1) c 0 (by omega) w
   unfold subAddr at h
   rw [if_neg (by omega)] at h
   exact h
  have hs1 : ∀ w : World, (Instr.slice 59 (.slice (some ⟨g, 0, none⟩) (n + 1) c) (some (.int .i64 1)) none none).run Tryz.prog w = .ok (.slice (some ⟨g, 1, none⟩) n (c - 1)) w := fun w => by
   have h := run_drop (P := Tryz.prog) (s := 1) Tryz.underlying59 (fun _ => by kernel_rfl) (some ⟨g, 0, none⟩) (n + 1) c 1 (by omega) w
   unfold subAddr at h
   rw [if_neg (by omega)] at h
   exact h
  have hz2' : ((n : Int) == 0) = false := by simp; omega
  clear h hnb hy hcu hcl hxo h1 hx hsa hsb hfa hfe hB1 hY1 hW1 hcu1 hcl1 hY2 hxl
  go_enter Tryz.func36, Tryz.ntmps36
  go_wp2_with (simp only [hov])
  refine wp_region_noPanic ?_
  refine beginL (S := (fun _ => True)) (L := []) (by kernel_rfl) True.intro (fun hHeld => ?_)
  refine tkW 0 ?_
  refine tkW 1 ?_
  refine tkW 2 ?_
  refine tkW 5 ?_
  refine tkW 6 ?_
  refine tkW 3 ?_
  refine tkW 7 ?_
  refine tkW 4 ?_
  refine cnL 8 fun K hK => ?_
  rw [if_pos (by rfl)]
  refine wp_copy_r _ _ _ 59 59 rfl _ _ rfl rfl (hcp1 _ _ _) ?_
  refine hK.out _ _ True.intro (fun hHeld => ?_)
  clear hK K
  refine dnN ?_
  clear hHeld
  have HG2 := HY2
  go_wp2_with (at_builtin; refine wpList_copy_r _ rfl _ _ 59 TB rfl _ _ rfl rfl (hcp2 _ _) ?_)
  go_ret
  have e1 : putAt (putAt (xs ++ [y]) 1 xs) 0 [x] = x :: xs := by
   have hl := HXL.out
   rw [putAt_all xs _ 1 (by simp; omega)]
   have hne : ∃ a l, xs = a :: l := by
    cases xs with
    | nil => simp at hl; omega
    | cons a l => exact ⟨a, l, rfl⟩
   obtain ⟨a, l, rfl⟩ := hne
   rfl
  refine ⟨rfl, ?_, grown_trans (grown_trans (grown_below (Below.refl w.heap.size w).drew) HY1.out.2) HY2.out.2⟩
  have h := HY2.out.1
  rw [e1] at h
  exact h
end Go.Proofs.YtnieifdogllbfaaGreat

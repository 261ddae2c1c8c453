/- MvRev, RecB, RecL, AnP, AnQ. -/
import Derived.Test.YthklhndcdijneaaGreatDoorC01
import Derived.Test.YthklhndcdijneaaGreatDoorC05
import Derived.Test.YthklhndcdijneaaGreatDoorC09
import Derived.Test.YthklhndcdijneaaGreatDoorC04
import Derived.Test.YthklhndcdijneaaGreatDoorC07
import Derived.BigQuiet
import Derived.Deep.Cut
import Derived.Test.YthklhndcdijneaaGreatDoorC18
import Derived.Test.YthklhndcdijneaaGreatDoorC14
import Derived.Deep.QuietTactic
namespace Go.Proofs.YthklhndcdijneaaGreatDoor
open Go.ChangeShapes Go.WideShapes Go.ChangeAt Go.RowKit
set_option linter.unusedVariables false
theorem flatM_set : ∀ (l : List MoveZ) (i : Nat) (m : MoveZ), i < l.length → (((flatM l).set (i * 3) (.int .i64 m.src)).set (i * 3 + 1) (.int .i64 m.dst)).set (i * 3 + 2) (.int .i64 m.piece) = flatM (l.set i m)
 | [], i, m, h => absurd h (Nat.not_lt_zero _)
 | x :: t, 0, m, h => by simp [flatM]
 | x :: t, i + 1, m, h => by
  have ih := flatM_set t i m (by simpa using h)
  have e : flatM (x :: t) = [.int .i64 x.src, .int .i64 x.dst, .int .i64 x.piece] ++ flatM t := by simp [flatM]
  have e2 : flatM (x :: t.set i m) = [.int .i64 x.src, .int .i64 x.dst, .int .i64 x.piece] ++ flatM (t.set i m) := by simp [flatM]
  rw [List.set_cons_succ, e2, ← ih, e, show (i + 1) * 3 = i * 3 + 3 by omega]
  simp [List.set_append]
theorem flatM_at3 : ∀ (l : List MoveZ) (i : Nat), i < l.length → (flatM l)[i * 3]? = some (.int .i64 (l.getD i default).src) ∧ (flatM l)[i * 3 + 1]? = some (.int .i64 (l.getD i default).dst) ∧ (flatM l)[i * 3 + 2]? = some (.int .i64 (l.getD i default).piece)
 | [], i, h => absurd h (Nat.not_lt_zero _)
 | x :: t, 0, h => by simp [flatM]
 | x :: t, i + 1, h => by
  have ih := flatM_at3 t i (by simpa using h)
  rw [show (i + 1) * 3 = i * 3 + 3 by omega]
  simpa [flatM] using ih
theorem own_atM {w : World} {base G n c : Nat} {ms : List MoveZ} (h : w.ownsRow base 44 3 (.slice (some ⟨G, 0, none⟩) n c) n (flatM ms)) (i : Nat) (hi : i < ms.length) :
  w.cell? ⟨G, i * 3, none⟩ = some (.int .i64 (ms.getD i default).src) ∧ w.cell? ⟨G, i * 3 + 1, none⟩ = some (.int .i64 (ms.getD i default).dst) ∧ w.cell? ⟨G, i * 3 + 2, none⟩ = some (.int .i64 (ms.getD i default).piece) := by
 have hl := h.1
 rw [flatM_len] at hl
 obtain ⟨a, b, d⟩ := flatM_at3 ms i hi
 exact ⟨(h.cellAt _ (by omega)).trans a, (h.cellAt _ (by omega)).trans b, (h.cellAt _ (by omega)).trans d⟩
theorem own_setM {w : World} {base G n c : Nat} {ms : List MoveZ} (h : w.ownsRow base 44 3 (.slice (some ⟨G, 0, none⟩) n c) n (flatM ms)) (i : Nat) (m : MoveZ) (hi : i < ms.length) :
  (((w.setCell ⟨G, i * 3, none⟩ (.int .i64 m.src)).setCell ⟨G, i * 3 + 1, none⟩ (.int .i64 m.dst)).setCell ⟨G, i * 3 + 2, none⟩ (.int .i64 m.piece)).ownsRow base 44 3 (.slice (some ⟨G, 0, none⟩) n c) n (flatM (ms.set i m)) := by
 have h1 := (((h.stored (i * 3) (.int .i64 m.src)).1.stored (i * 3 + 1) (.int .i64 m.dst)).1.stored (i * 3 + 2) (.int .i64 m.piece)).1
 rw [flatM_set ms i m hi] at h1
 exact h1
theorem below_setM {base G : Nat} {w0 w : World} (h : Below base w0 w) (hG : base ≤ G) (i : Nat) (m : MoveZ) :
  Below base w0 (((w.setCell ⟨G, i * 3, none⟩ (.int .i64 m.src)).setCell ⟨G, i * 3 + 1, none⟩ (.int .i64 m.dst)).setCell ⟨G, i * 3 + 2, none⟩ (.int .i64 m.piece)) :=
 ((h.setCell (p := ⟨G, i * 3, none⟩) hG _).setCell (p := ⟨G, i * 3 + 1, none⟩) hG _).setCell (p := ⟨G, i * 3 + 2, none⟩) hG _
/-- the first k and the last k of n exchanged. -/
def rvAt (n k j : Nat) : Nat := if j < k ∨ n - 1 - j < k then n - 1 - j else j
theorem setM_getD (l : List MoveZ) (i j : Nat) (m : MoveZ) (hi : i < l.length) : (l.set i m).getD j default = if j = i then m else l.getD j default := by
 simp only [List.getD_eq_getElem?_getD, List.getElem?_set]
 by_cases e : i = j
 ·subst e; simp [hi]
 ·rw [if_neg e, if_neg (fun h => e h.symm)]
theorem rv_step (zs ys : List MoveZ) (n k : Nat) (hk : k + k + 1 < n) (hn : zs.length = n) (hl : ys.length = n) (h : ∀ j, j < n → ys.getD j default = zs.getD (rvAt n k j) default) :
  ∀ j, j < n → ((ys.set k (ys.getD (n - 1 - k) default)).set (n - 1 - k) (ys.getD k default)).getD j default = zs.getD (rvAt n (k + 1) j) default := by
 intro j hj
 rw [setM_getD _ _ _ _ (by rw [List.length_set]; omega), setM_getD _ _ _ _ (by omega)]
 by_cases e1 : j = n - 1 - k
 ·rw [if_pos e1, h k (by omega)]
  congr 1
  unfold rvAt
  rw [if_neg (by omega), if_pos (by omega)]
  omega
 ·rw [if_neg e1]
  by_cases e2 : j = k
  ·rw [if_pos e2, h (n - 1 - k) (by omega)]
   congr 1
   unfold rvAt
   rw [if_neg (by omega), if_pos (by omega)]
   omega
  ·rw [if_neg e2, h j hj]
   congr 1
   unfold rvAt
   by_cases e3 : j < k ∨ n - 1 - j < k
   ·rw [if_pos e3, if_pos (by omega)]
   ·rw [if_neg e3, if_neg (by omega)]
theorem rv_end (zs ys : List MoveZ) (n k : Nat) (hk : ¬ k + k + 1 < n) (hn : zs.length = n) (hl : ys.length = n) (h : ∀ j, j < n → ys.getD j default = zs.getD (rvAt n k j) default) : ys = zs.reverse := by
 apply List.ext_getElem (by rw [List.length_reverse, hl, hn])
 intro j h1 h2
 have := h j (by omega)
 have e : rvAt n k j = n - 1 - j := by
  unfold rvAt
  by_cases e3 : j < k ∨ n - 1 - j < k
  ·rw [if_pos e3]
  ·rw [if_neg e3]; omega
 rw [e, List.getD_eq_getElem?_getD, List.getD_eq_getElem?_getD, List.getElem?_eq_getElem h1, List.getElem?_eq_getElem (by omega)] at this
 rw [List.getElem_reverse]
 simp only [Option.getD_some] at this
 rw [this]
 congr 1
 omega
set_option maxRecDepth 100000 in
set_option maxHeartbeats 4000000 in
theorem ReverseM_any (zs : List MoveZ) (G n c base : Nat) (w0 w : World) (h : w.ownsRow base 44 3 (.slice (some ⟨G, 0, none⟩) n c) n (flatM zs)) (hb : Below base w0 w) (hn : n ≤ 1000000) :
  Calls Tryz.prog 68 #[.slice (some ⟨G, 0, none⟩) n c] w fun e w' => e = .returned (.tuple #[]) ∧ w'.ownsRow base 44 3 (.slice (some ⟨G, 0, none⟩) n c) n (flatM zs.reverse) ∧ Below base w0 w' := by
 have HO := Lib.hid h
 have HB := Lib.hid hb
 have HZ : Hid (zs.length = n) := Lib.hid (by have := h.1; rw [flatM_len] at this; omega)
 have hgb : base ≤ G := (h.lt G rfl).1
 have hgl := (h.lt G rfl).2
 clear h hb
 go_enter Tryz.func68, Tryz.ntmps68
 go_wp2_with fail
 go_loopw [2, 3] (fun i j wr => ∃ (k : Nat) (ys : List MoveZ), k + k ≤ n + 1 ∧ i = .int .i64 k ∧ j = .int .i64 ((n : Int) - 1 - k) ∧ Hid (ys.length = n) ∧ Hid (∀ j, j < n → ys.getD j default = zs.getD (rvAt n k j) default) ∧ Hid (wr.ownsRow base 44 3 (.slice (some ⟨G, 0, none⟩) n c) n (flatM ys)) ∧ Hid (Below base w0 wr)) (fun i _ _ => n - (intOf i).toNat)
 case atStart => exact ⟨0, zs, by omega, rfl, (by congr 1; try omega), HZ, Lib.hid (fun j hj => by unfold rvAt; rw [if_neg (by omega)]), HO, HB⟩
 case round =>
  obtain ⟨k, ys, hk, rfl, rfl, HL, HY, HOr, HBr⟩ := hrel
  by_cases hlt : k + k + 1 < n
  ·have HSW := Lib.hid (rv_step zs ys n k hlt HZ.out HL.out HY.out)
   obtain ⟨dy0, dy1, dy2⟩ := own_atM HOr.out k (by rw [HL.out]; omega)
   obtain ⟨dz0, dz1, dz2⟩ := own_atM HOr.out (n - 1 - k) (by rw [HL.out]; omega)
   have hG := (HOr.out.lt G rfl).2
   generalize ys.getD k default = y at *
   generalize ys.getD (n - 1 - k) default = z at *
   have b1 : (0 : Int) ≤ (k : Int) := by omega
   have b2 : (k : Int) < (n : Int) := by omega
   have b3 : (0 : Int) ≤ (n : Int) - 1 - (k : Int) := by omega
   have b4 : (n : Int) - 1 - (k : Int) < (n : Int) := by omega
   have b5 : ((n : Int) - 1 - (k : Int)).toNat = n - 1 - k := by omega
   have b6 : (k : Int) < (n : Int) - 1 - (k : Int) := by omega
   have b7 : (k : Int) ≤ (n : Int) - 1 := by omega
   go_wp2_with fail
   refine wp_region_noPanic ?_
   refine beginL (S := (fun w' => w'.cell? ⟨G, k * 3, none⟩ = some (.int .i64 y.src) ∧ w'.cell? ⟨G, k * 3 + 1, none⟩ = some (.int .i64 y.dst) ∧ w'.cell? ⟨G, k * 3 + 2, none⟩ = some (.int .i64 y.piece) ∧ w'.cell? ⟨G, (n - 1 - k) * 3, none⟩ = some (.int .i64 z.src) ∧ w'.cell? ⟨G, (n - 1 - k) * 3 + 1, none⟩ = some (.int .i64 z.dst) ∧ w'.cell? ⟨G, (n - 1 - k) * 3 + 2, none⟩ = some (.int .i64 z.piece))) (L := [13, 15]) (by kernel_rfl) ⟨dy0, dy1, dy2, dz0, dz1, dz2⟩ (fun hHeld => ?_)
   refine tkW 0 ?_
   refine tkW 1 ?_
   refine tkW 2 ?_
   refine tkW 3 ?_
   refine tkW 4 ?_
   refine tkW 5 ?_
   refine tkW 8 ?_
   refine tkW 9 ?_
   refine tkW 6 ?_
   refine tkW 10 ?_
   refine tkL 7 ?_
   refine tkL 11 ?_
   refine tkW 12 ?_
   refine ltL 13 fun K hK => ?_
   obtain ⟨d1, d2, d3, -⟩ := hHeld
   have f0 : wr.frozen? ⟨G, k * 3, none⟩ = false := HOr.out.frozenAt (k * 3)
   have f1 : wr.frozen? ⟨G, k * 3 + 1, none⟩ = false := HOr.out.frozenAt (k * 3 + 1)
   have f2 : wr.frozen? ⟨G, k * 3 + 2, none⟩ = false := HOr.out.frozenAt (k * 3 + 2)
   go_simp
   refine K_world ?_
   intro w13 e13
   have O13 : w13.ownsRow base 44 3 (.slice (some ⟨G, 0, none⟩) n c) n (flatM (ys.set k z)) := by
    rw [e13]
    exact own_setM (HOr.out) k z (by rw [HL.out]; omega)
   have B13 : Below base w0 w13 := by rw [e13]; exact below_drewN (below_setM HBr.out hgb k z) 1
   clear e13 d1 d2 d3 f0 f1 f2
   refine hK.out _ _ ?_
   clear hK K
   refine tkW 14 ?_
   refine ltL 15 fun K hK => ?_
   have hz := own_atM O13 (n - 1 - k) (by rw [List.length_set, HL.out]; omega)
   obtain ⟨d1, d2, d3⟩ := hz
   have f0 : w13.frozen? ⟨G, (n - 1 - k) * 3, none⟩ = false := O13.frozenAt ((n - 1 - k) * 3)
   have f1 : w13.frozen? ⟨G, (n - 1 - k) * 3 + 1, none⟩ = false := O13.frozenAt ((n - 1 - k) * 3 + 1)
   have f2 : w13.frozen? ⟨G, (n - 1 - k) * 3 + 2, none⟩ = false := O13.frozenAt ((n - 1 - k) * 3 + 2)
   go_simp
   refine K_world ?_
   intro w15 e15
   have O15 : w15.ownsRow base 44 3 (.slice (some ⟨G, 0, none⟩) n c) n (flatM ((ys.set k z).set (n - 1 - k) y)) := by
    rw [e15]
    exact own_setM O13 (n - 1 - k) y (by rw [List.length_set, HL.out]; omega)
   have B15 : Below base w0 w15 := by rw [e15]; exact below_setM B13 hgb (n - 1 - k) y
   clear e15 d1 d2 d3 f0 f1 f2 O13 B13
   refine hK.out _ _ ?_
   clear hK K
   refine dnN ?_
   go_wp2_with fail
   go_roundw
   case rel => exact ⟨k + 1, (ys.set k z).set (n - 1 - k) y, by omega, by go_num, by congr 1; omega, Lib.hid (by rw [List.length_set, List.length_set]; exact HL.out), Lib.hid HSW.out, Lib.hid O15, Lib.hid B15⟩
   case measure => simp [intOf]; omega
  ·have HE := Lib.hid (rv_end zs ys n k hlt HZ.out HL.out HY.out)
   have b6 : ¬ (k : Int) < (n : Int) - 1 - (k : Int) := by omega
   go_wp2_with fail
   go_end0
   exact ⟨rfl, by rw [← HE.out]; exact HOr.out, HBr.out⟩
end Go.Proofs.YthklhndcdijneaaGreatDoor
namespace Go.Proofs.YthklhndcdijneaaGreatDoor
open Go.ChangeShapes Go.WideShapes Go.ChangeAt Go.RowKit
set_option linter.unusedVariables false
structure NodeZ where
 parent : Int
 m : MoveZ
 comment : ByteArray
deriving Inhabited
structure TagZ where
 key : ByteArray
 value : ByteArray
deriving Inhabited
structure RecZ where
 tags : List TagZ
 comment : ByteArray
 nodes : List NodeZ
 result : Int
deriving Inhabited
def tagE (l : List TagZ) (i : Nat) : Int :=
 if nameOk (l.getD i default).key = false then 6 else if 40 < (l.getD i default).value.size then 2 else if printB (l.getD i default).value quote = false then 3 else
  if (l.take i).any (fun u => u.key.toList == (l.getD i default).key.toList) = true then 7 else 0
def tagsE (l : List TagZ) : Int := scanE (tagE l) 0 l.length
def ndAt (ns : List NodeZ) (i : Nat) : NodeZ := ns.getD i default
/-- the way up from a node. -/
def upZ (ns : List NodeZ) : Nat → Int → List Nat
 | 0, _ => []
 | f + 1, n => if n < 0 then [] else n.toNat :: upZ ns f (ndAt ns n.toNat).parent
def upL (ns : List NodeZ) (n : Int) : List Nat := upZ ns (n.toNat + 1) n
/-- the parents of the first i nodes lie before them. -/
def Back (ns : List NodeZ) (i : Nat) : Prop := ∀ k, k < i → (ndAt ns k).parent < k
theorem upZ_neg (ns : List NodeZ) (n : Int) (h : n < 0) : ∀ f, upZ ns f n = []
 | 0 => rfl
 | f + 1 => by unfold upZ; rw [if_pos h]
theorem up_fuel {ns : List NodeZ} {i : Nat} (h : Back ns i) : ∀ (f : Nat) (n : Int), n < i → n.toNat < f → upZ ns f n = upL ns n
 | 0, _, _, hf => absurd hf (Nat.not_lt_zero _)
 | f + 1, n, hn, hf => by
  unfold upL upZ
  by_cases h0 : n < 0
  ·rw [if_pos h0, if_pos h0]
  ·rw [if_neg h0, if_neg h0]
   have hp := h n.toNat (by omega)
   congr 1
   by_cases hz : (ndAt ns n.toNat).parent < 0
   ·rw [upZ_neg ns _ hz, upZ_neg ns _ hz]
   ·rw [up_fuel h f (ndAt ns n.toNat).parent (by omega) (by omega)]
    unfold upL
    rw [← upL]
    exact (up_fuel h n.toNat (ndAt ns n.toNat).parent (by omega) (by omega)).symm
theorem up_neg (ns : List NodeZ) (n : Int) (h : n < 0) : upL ns n = [] := by unfold upL upZ; rw [if_pos h]
theorem up_cons {ns : List NodeZ} {i : Nat} (h : Back ns i) (n : Nat) (hn : n < i) : upL ns (n : Int) = n :: upL ns (ndAt ns n).parent := by
 have hp := h n hn
 unfold upL
 rw [upZ, if_neg (by omega), Int.toNat_natCast]
 congr 1
 by_cases hz : (ndAt ns n).parent < 0
 ·rw [← upL, up_neg ns _ hz]
  cases n with
  | zero => rfl
  | succ m => rw [upZ, if_pos hz]
 ·exact up_fuel h n _ (by omega) (by omega)
def onB (ns : List NodeZ) (node last : Int) : Bool := (upL ns last).any (fun (k : Nat) => (k : Int) == node) || node == -1
def wayI (ns : List NodeZ) (n : Int) : List MoveZ := ((upL ns n).map fun k => (ndAt ns k).m).reverse
theorem way_neg (ns : List NodeZ) (n : Int) (h : n < 0) : wayI ns n = [] := by unfold wayI; rw [up_neg ns n h]; rfl
theorem way_snoc {ns : List NodeZ} {i : Nat} (h : Back ns i) (n : Nat) (hn : n < i) : wayI ns (n : Int) = wayI ns (ndAt ns n).parent ++ [(ndAt ns n).m] := by
 unfold wayI; rw [up_cons h n hn, List.map_cons, List.reverse_cons]
def twinB (ns : List NodeZ) (i : Nat) : Bool := (ns.take i).any fun y => y.parent == (ndAt ns i).parent && y.m == (ndAt ns i).m
def sibB (ns : List NodeZ) (i : Nat) : Bool := (ns.take i).any fun y => y.parent == (ndAt ns i).parent
def depE (ns : List NodeZ) (ds : List Int) (i : Nat) : Int := (if 0 ≤ (ndAt ns i).parent then ds.getD (ndAt ns i).parent.toNat 0 else ds.getD i 0) + (if sibB ns i = true then 1 else 0)
def nodeEl : El NodeZ where
 k := 5
 E := fun w x cs => cs = [.int .i64 x.parent, .int .i64 x.m.src, .int .i64 x.m.dst, .int .i64 x.m.piece, .string x.comment] ∧ x.comment.size ≤ maxLen
 mono := fun h _ _ => h
 len := fun h => by rw [h.1]; rfl
def tagEl : El TagZ where
 k := 2
 E := fun w x cs => cs = [.string x.key, .string x.value] ∧ x.key.size ≤ maxLen ∧ x.value.size ≤ maxLen
 mono := fun h _ _ => h
 len := fun h => by rw [h.1]; rfl
/-- a record that is read. -/
def RdX (w : World) (X : RecZ) (vt vn : Value) : Prop := RdL tagEl w vt X.tags ∧ RdL nodeEl w vn X.nodes ∧ X.comment.size ≤ maxLen
def recV (X : RecZ) (vt vn : Value) : Value := .agg #[vt, .string X.comment, vn, .int .i64 X.result]
theorem RdX.below {w w' : World} {X : RecZ} {vt vn : Value} {B : Nat} (h : RdX w X vt vn) (hb : Below B w w') (hB : w.heap.size ≤ B) : RdX w' X vt vn := ⟨h.1.below hb hB, h.2.1.below hb hB, h.2.2⟩
theorem nodes_some {w : World} {a : Option Addr} {n c : Nat} {ns : List NodeZ} (h : RdL nodeEl w (.slice a n c) ns) (hn : 0 < ns.length) : ∃ g o, a = some ⟨g, o, none⟩ ∧ g < w.heap.size ∧
  ∀ i, i < ns.length → w.cell? ⟨g, o + i * 5, none⟩ = some (.int .i64 (ndAt ns i).parent) ∧ w.cell? ⟨g, o + i * 5 + 1, none⟩ = some (.int .i64 (ndAt ns i).m.src) ∧
   w.cell? ⟨g, o + i * 5 + 2, none⟩ = some (.int .i64 (ndAt ns i).m.dst) ∧ w.cell? ⟨g, o + i * 5 + 3, none⟩ = some (.int .i64 (ndAt ns i).m.piece) ∧ w.cell? ⟨g, o + i * 5 + 4, none⟩ = some (.string (ndAt ns i).comment) ∧ (ndAt ns i).comment.size ≤ maxLen := by
 obtain ⟨g, o, ha, hg, hc⟩ := RdL.some h hn
 refine ⟨g, o, ha, hg, fun i hi => ?_⟩
 obtain ⟨cs, ⟨rfl, hs⟩, hj⟩ := hc i hi
 have e : ndAt ns i = ns[i] := by unfold ndAt; rw [List.getD_eq_getElem?_getD, List.getElem?_eq_getElem hi]; rfl
 rw [e]
 exact ⟨hj 0 (by decide), hj 1 (by decide), hj 2 (by decide), hj 3 (by decide), hj 4 (by decide), hs⟩
theorem tags_some {w : World} {a : Option Addr} {n c : Nat} {ts : List TagZ} (h : RdL tagEl w (.slice a n c) ts) (hn : 0 < ts.length) : ∃ g o, a = some ⟨g, o, none⟩ ∧ g < w.heap.size ∧
  ∀ i, i < ts.length → w.cell? ⟨g, o + i * 2, none⟩ = some (.string (ts.getD i default).key) ∧ w.cell? ⟨g, o + i * 2 + 1, none⟩ = some (.string (ts.getD i default).value) ∧ (ts.getD i default).key.size ≤ maxLen ∧ (ts.getD i default).value.size ≤ maxLen := by
 obtain ⟨g, o, ha, hg, hc⟩ := RdL.some h hn
 refine ⟨g, o, ha, hg, fun i hi => ?_⟩
 obtain ⟨cs, ⟨rfl, hs⟩, hj⟩ := hc i hi
 have e : ts.getD i default = ts[i] := by rw [List.getD_eq_getElem?_getD, List.getElem?_eq_getElem hi]; rfl
 rw [e]
 exact ⟨hj 0 (by decide), hj 1 (by decide), hs⟩
/-! ### slices.Equal of moves -/
/-! ### record.on -/
set_option maxRecDepth 100000 in
set_option maxHeartbeats 2000000 in
theorem on_any (X : RecZ) (vt vn : Value) (nd last : Int) (i : Nat) (w : World) (h : RdX w X vt vn) (hb : Back X.nodes i) (hi : i ≤ X.nodes.length) (hl : last < i) :
  Calls Tryz.prog 37 #[recV X vt vn, .int .i64 nd, .int .i64 last] w fun e w' => e = .returned (.bool (onB X.nodes nd last)) ∧ Below w.heap.size w w' := by
 obtain ⟨na, nc, rfl, h1, h2⟩ := h.2.1.form
 unfold maxLen at h2
 have HR := Lib.hid h.2.1
 have HO : Hid (onB X.nodes nd last = ((upL X.nodes last).any (fun (k : Nat) => (k : Int) == nd) || nd == -1)) := Lib.hid rfl
 have HK := Lib.hid hb
 clear h hb
 unfold recV
 go_enter Tryz.func37, Tryz.ntmps37
 go_upto_region 1 with (fail)
 refine opn1 fun w0 hb0 yb_ hs_ => ?_
 have HB := Lib.hid yb_
 clear hs_ yb_
 have q2 := hb0.cell 2 rfl
 have hw0 := hb0.lt
 have HRw := Lib.hid (RdL.below HR.out HB.out (Nat.le_refl _))
 clear hb0 HR
 go_wp2_with fail
 go_loop [7] (fun v7 => ∃ n : Int, v7 = .int .i64 n ∧ n < i ∧ Hid ((upL X.nodes last).any (fun (k : Nat) => (k : Int) == nd) = (upL X.nodes n).any (fun (k : Nat) => (k : Int) == nd))) (fun v => (intOf v + 1).toNat)
 case atStart => exact ⟨last, rfl, hl, Lib.hid rfl⟩
 case round =>
  obtain ⟨n, rfl, hn, HU⟩ := hrel
  by_cases h0 : 0 ≤ n
  ·obtain ⟨m, rfl⟩ : ∃ m : Nat, n = (m : Int) := ⟨n.toNat, by omega⟩
   obtain ⟨g, o, rfl, hg, hc⟩ := nodes_some HRw.out (by omega)
   obtain ⟨c0, -⟩ := hc m (by omega)
   have HC := Lib.hid (up_cons HK.out m (by omega))
   have hpm := HK.out m (by omega)
   clear hc
   generalize (ndAt X.nodes m).parent = p at *
   by_cases hmn : (m : Int) = nd
   ·subst hmn
    go_wp2_with fail
    go_ret
    exact ⟨by rw [HO.out, HU.out, HC.out]; simp, HB.out⟩
   ·have hmb : ((m : Int) == nd) = false := by simp; omega
    have hml : (m : Int) < (X.nodes.length : Int) := by omega
    have HU2 : Hid ((upL X.nodes last).any (fun (k : Nat) => (k : Int) == nd) = (upL X.nodes p).any (fun (k : Nat) => (k : Int) == nd)) := Lib.hid (by rw [HU.out, HC.out, List.any_cons, hmb, Bool.false_or])
    go_wp2_with fail
    go_round
    case rel => exact ⟨p, rfl, by omega, HU2⟩
    case measure => simp [intOf]; omega
  ·have HU2 : Hid (onB X.nodes nd last = (nd == -1)) := Lib.hid (by rw [HO.out, HU.out, up_neg X.nodes n (by omega)]; rfl)
   go_wp2_with fail
   go_ret
   exact ⟨by rw [HU2.out]; rfl, HB.out⟩
end Go.Proofs.YthklhndcdijneaaGreatDoor
namespace Go.Proofs.YthklhndcdijneaaGreatDoor
open Go.ChangeShapes Go.WideShapes Go.ChangeAt Go.RowKit
set_option linter.unusedVariables false
def nodeE (R : RulesZ) (ns : List NodeZ) (ds : List Int) (i : Nat) : Int :=
 if cmtErr (ndAt ns i).comment ≠ 0 then cmtErr (ndAt ns i).comment else if (i : Int) ≤ (ndAt ns i).parent ∨ onB ns (ndAt ns i).parent ((i : Int) - 1) = false then 3 else
  if twinB ns i = true then 7 else if runErr R (wayI ns i) ≠ 0 then runErr R (wayI ns i) else if 20 < depE ns ds i then 2 else 0
def nodesE (R : RulesZ) (ns : List NodeZ) : Nat → Nat → List Int → Int
 | 0, _, _ => 0
 | m + 1, i, ds => if nodeE R ns ds i ≠ 0 then nodeE R ns ds i else nodesE R ns m (i + 1) (ds.set i (depE ns ds i))
def recErr (R : RulesZ) (X : RecZ) : Int :=
 if rulesErr R ≠ 0 then rulesErr R else if 10 < X.tags.length ∨ 200 < X.nodes.length then 2 else if tagsE X.tags ≠ 0 then tagsE X.tags else
  if X.result < 0 ∨ 3 < X.result then 4 else if cmtErr X.comment ≠ 0 then cmtErr X.comment else nodesE R X.nodes X.nodes.length 0 (List.replicate X.nodes.length 0)
/-- what a record's nodes are. -/
structure NodesOK (R : RulesZ) (ns : List NodeZ) (i : Nat) : Prop where
 back : Back ns i
 low : ∀ k, k < i → -1 ≤ (ndAt ns k).parent
 twin : ∀ k j, j < k → k < i → (ndAt ns j).parent = (ndAt ns k).parent → (ndAt ns j).m ≠ (ndAt ns k).m
 run : ∀ k : Nat, k < i → runErr R (wayI ns k) = 0
theorem nodeE_zero {R : RulesZ} {ns : List NodeZ} {ds : List Int} {i : Nat} (hi : i < ns.length) (h : NodesOK R ns i) (e : nodeE R ns ds i = 0) : NodesOK R ns (i + 1) := by
 unfold nodeE at e
 by_cases h1 : cmtErr (ndAt ns i).comment ≠ 0
 ·rw [if_pos h1] at e; exact absurd e h1
 rw [if_neg h1] at e
 by_cases h2 : (i : Int) ≤ (ndAt ns i).parent ∨ onB ns (ndAt ns i).parent ((i : Int) - 1) = false
 ·rw [if_pos h2] at e; cases e
 rw [if_neg h2] at e
 by_cases h3 : twinB ns i = true
 ·rw [if_pos h3] at e; cases e
 rw [if_neg h3] at e
 by_cases h4 : runErr R (wayI ns i) ≠ 0
 ·rw [if_pos h4] at e; exact absurd e h4
 have hlow : -1 ≤ (ndAt ns i).parent := by
  have ho : onB ns (ndAt ns i).parent ((i : Int) - 1) = true := by
   cases hb : onB ns (ndAt ns i).parent ((i : Int) - 1)
   ·exact absurd (.inr hb) h2
   ·rfl
  unfold onB at ho
  rw [Bool.or_eq_true, List.any_eq_true] at ho
  rcases ho with ⟨k, -, hk⟩ | hk
  ·simp only [beq_iff_eq] at hk; omega
  ·simp only [beq_iff_eq] at hk; omega
 refine ⟨fun k hk => ?_, fun k hk => ?_, fun k j hj hk hp => ?_, fun k hk => ?_⟩
 ·by_cases ek : k = i
  ·subst ek; omega
  ·exact h.back k (by omega)
 ·by_cases ek : k = i
  ·subst ek; exact hlow
  ·exact h.low k (by omega)
 ·by_cases ek : k = i
  ·subst ek
   intro hm
   apply h3
   unfold twinB
   rw [List.any_eq_true]
   have hjl : j < ns.length := by omega
   refine ⟨ns[j], ?_, ?_⟩
   ·rw [List.mem_take_iff_getElem]
    exact ⟨j, by omega, rfl⟩
   ·have e1 : ndAt ns j = ns[j] := by unfold ndAt; rw [List.getD_eq_getElem?_getD, List.getElem?_eq_getElem hjl]; rfl
    rw [← e1, hp, hm]
    simp
  ·exact h.twin k j hj (by omega) hp
 ·by_cases ek : k = i
  ·subst ek
   cases Classical.em (runErr R (wayI ns (k : Int)) = 0) with
   | inl h => exact h
   | inr h => exact absurd h h4
  ·exact h.run k (by omega)
theorem nodesE_zero {R : RulesZ} {ns : List NodeZ} : ∀ (m i : Nat) (ds : List Int), i + m = ns.length → NodesOK R ns i → nodesE R ns m i ds = 0 → NodesOK R ns ns.length
 | 0, i, ds, hm, h, _ => by rw [← hm]; exact h
 | m + 1, i, ds, hm, h, e => by
  rw [nodesE] at e
  by_cases h1 : nodeE R ns ds i ≠ 0
  ·rw [if_pos h1] at e; exact absurd e h1
  ·rw [if_neg h1] at e
   have h0 : nodeE R ns ds i = 0 := by
    cases Classical.em (nodeE R ns ds i = 0) with
    | inl h => exact h
    | inr h => exact absurd h h1
   exact nodesE_zero m (i + 1) _ (by omega) (nodeE_zero (by omega) h h0) e
theorem rec_nodes {R : RulesZ} {X : RecZ} (h : recErr R X = 0) : rulesErr R = 0 ∧ NodesOK R X.nodes X.nodes.length ∧ X.nodes.length ≤ 200 := by
 unfold recErr at h
 by_cases h1 : rulesErr R ≠ 0
 ·rw [if_pos h1] at h; exact absurd h h1
 rw [if_neg h1] at h
 have h1 : rulesErr R = 0 := by
  cases Classical.em (rulesErr R = 0) with
  | inl h => exact h
  | inr h => exact absurd h h1
 by_cases h2 : 10 < X.tags.length ∨ 200 < X.nodes.length
 ·rw [if_pos h2] at h; cases h
 rw [if_neg h2] at h
 by_cases h3 : tagsE X.tags ≠ 0
 ·rw [if_pos h3] at h; exact absurd h h3
 rw [if_neg h3] at h
 by_cases h4 : X.result < 0 ∨ 3 < X.result
 ·rw [if_pos h4] at h; cases h
 rw [if_neg h4] at h
 by_cases h5 : cmtErr X.comment ≠ 0
 ·rw [if_pos h5] at h; exact absurd h h5
 rw [if_neg h5] at h
 exact ⟨h1, nodesE_zero _ 0 _ (by omega) ⟨fun k hk => absurd hk (Nat.not_lt_zero _), fun k hk => absurd hk (Nat.not_lt_zero _), fun k _ _ hk => absurd hk (Nat.not_lt_zero _), fun k hk => absurd hk (Nat.not_lt_zero _)⟩ h, by omega⟩
end Go.Proofs.YthklhndcdijneaaGreatDoor
namespace Go.Proofs.YthklhndcdijneaaGreatDoor
open Go.ChangeShapes Go.WideShapes Go.ChangeAt Go.RowKit
set_option linter.unusedVariables false
/-- a move with what comes after it. -/
inductive BrZ where
 | mk (m : MoveZ) (c : ByteArray) (kids : List BrZ)
/-- record.Kids. -/
def kidsZ (ns : List NodeZ) (p : Int) : List Nat := (List.range ns.length).filter fun k => (ndAt ns k).parent == p
def treeF (ns : List NodeZ) : Nat → Int → List BrZ
 | 0, _ => []
 | f + 1, p => (kidsZ ns p).map fun k => .mk (ndAt ns k).m (ndAt ns k).comment (treeF ns f (k : Int))
mutual
def flatB : BrZ → Int → List NodeZ → List NodeZ
 | .mk m c ks, p, out => flatL ks (out.length : Int) (out ++ [⟨p, m, c⟩])
def flatL : List BrZ → Int → List NodeZ → List NodeZ
 | [], _, out => out
 | b :: l, p, out => flatL l p (flatB b p out)
end
/-- the nodes from a on, ahead of b, are all that comes after p. -/
inductive Forest (ns : List NodeZ) : Int → Nat → Nat → Prop where
 | nil (p : Int) (a : Nat) : Forest ns p a a
 | cons (p : Int) (a e b : Nat) (hp : (ndAt ns a).parent = p) (h1 : Forest ns (a : Int) (a + 1) e) (h2 : Forest ns p e b) : Forest ns p a b
theorem Forest.le {ns : List NodeZ} {p : Int} {a b : Nat} (h : Forest ns p a b) : a ≤ b := by
 induction h with
 | nil => exact Nat.le_refl _
 | cons p a e b hp h1 h2 i1 i2 => omega
/-- each node's parent lies in it, or is p. -/
theorem Forest.par {ns : List NodeZ} {p : Int} {a b : Nat} (h : Forest ns p a b) (k : Nat) (hk : a ≤ k ∧ k < b) : (ndAt ns k).parent = p ∨ ((a : Int) ≤ (ndAt ns k).parent ∧ (ndAt ns k).parent < k) := by
 induction h with
 | nil => omega
 | cons p a e b hp h1 h2 i1 i2 =>
  have l1 := h1.le
  by_cases e0 : k = a
  ·subst e0; exact .inl hp
  by_cases e1 : k < e
  ·rcases i1 ⟨by omega, e1⟩ with h | h
   ·exact .inr (by omega)
   ·exact .inr (by omega)
  ·rcases i2 ⟨by omega, hk.2⟩ with h | h
   ·exact .inl h
   ·exact .inr (by omega)
/-- the way up from k, as a relation. -/
inductive Up (ns : List NodeZ) : Int → Int → Prop where
 | here (k : Int) : Up ns k k
 | step (k : Nat) (q : Int) (h : Up ns (ndAt ns k).parent q) : Up ns (k : Int) q
/-- who is above a node of a forest is in it, or p, or above p. -/
theorem up_in {ns : List NodeZ} {p : Int} {a b : Nat} (h : Forest ns p a b) {k q : Int} (hu : Up ns k q) : (a : Int) ≤ k → k < b → ((a : Int) ≤ q ∧ q < b) ∨ Up ns p q := by
 induction hu with
 | here k => intro h1 h2; exact .inl ⟨h1, h2⟩
 | step k q hs ih =>
  intro h1 h2
  rcases h.par k ⟨by omega, by omega⟩ with e | ⟨e1, e2⟩
  ·rw [e] at hs; exact .inr hs
  ·exact ih e1 (by omega)
theorem up_le {ns : List NodeZ} {n : Nat} (hb : Back ns n) {k q : Int} (hu : Up ns k q) : k < n → q ≤ k := by
 induction hu with
 | here k => intro _; exact Int.le_refl _
 | step k q hs ih =>
  intro hk
  have h1 := hb k (by omega)
  have := ih (by omega)
  omega
/-- a node more, below the last one's way up. -/
theorem Forest.snoc {ns : List NodeZ} {n : Nat} (hb : Back ns n) {p : Int} {a b : Nat} (h : Forest ns p a b) (hbn : b ≤ n) (hpa : p < a) (hq : (ndAt ns b).parent = p ∨ (a < b ∧ (a : Int) ≤ (ndAt ns b).parent ∧ Up ns ((b : Int) - 1) (ndAt ns b).parent)) : Forest ns p a (b + 1) := by
 induction h with
 | nil p a =>
  rcases hq with hq | hq
  ·exact .cons p a (a + 1) (a + 1) hq (.nil _ _) (.nil _ _)
  ·omega
 | cons p a e b hp h1 h2 i1 i2 =>
  have l1 := h1.le
  have l2 := h2.le
  by_cases hqp : (ndAt ns b).parent = p
  ·exact .cons p a e (b + 1) hp h1 (i2 hbn (by omega) (.inl hqp))
  rcases hq with hq | ⟨q1, q2, q3⟩
  ·exact absurd hq hqp
  by_cases eb : e < b
  ·refine .cons p a e (b + 1) hp h1 (i2 hbn (by omega) (.inr ⟨eb, ?_, q3⟩))
   rcases up_in h2 q3 (by omega) (by omega) with hh | hh
   ·exact hh.1
   ·have := up_le hb hh (by omega)
    omega
  ·have ee : e = b := by omega
   subst ee
   refine .cons p a (e + 1) (e + 1) hp (i1 hbn (by omega) ?_) (.nil _ _)
   by_cases ha : (ndAt ns e).parent = (a : Int)
   ·exact .inl ha
   ·refine .inr ⟨?_, by omega, q3⟩
    rcases Nat.lt_or_ge (a + 1) e with h | h
    ·exact h
    ·have he : e = a + 1 := by omega
     subst he
     have := up_le hb q3 (by omega)
     omega
/-- the way up as a list tells the relation. -/
theorem up_of_list {ns : List NodeZ} : ∀ (f : Nat) (n : Int) (k : Nat), k ∈ upZ ns f n → Up ns n (k : Int)
 | 0, _, _, h => by cases h
 | f + 1, n, k, h => by
  unfold upZ at h
  split at h
  ·cases h
  ·rename_i hn
   rcases List.mem_cons.1 h with rfl | h
   ·rw [Int.toNat_of_nonneg (by omega)]; exact .here _
   ·have := up_of_list f _ k h
    have hs := Up.step n.toNat _ this
    rwa [Int.toNat_of_nonneg (by omega)] at hs
theorem on_up {ns : List NodeZ} {q last : Int} (h : onB ns q last = true) : q = -1 ∨ (0 ≤ q ∧ Up ns last q) := by
 unfold onB at h
 rw [Bool.or_eq_true, List.any_eq_true] at h
 rcases h with ⟨k, hk, hq⟩ | h
 ·simp only [beq_iff_eq] at hq
  subst hq
  exact .inr ⟨by omega, up_of_list _ _ _ hk⟩
 ·simp only [beq_iff_eq] at h
  exact .inl h
theorem nodesE_all {R : RulesZ} {ns : List NodeZ} : ∀ (m i : Nat) (ds : List Int), nodesE R ns m i ds = 0 → ∀ j, i ≤ j → j < i + m → ∃ ds', nodeE R ns ds' j = 0
 | 0, i, ds, _, j, h1, h2 => by omega
 | m + 1, i, ds, e, j, h1, h2 => by
  rw [nodesE] at e
  by_cases h0 : nodeE R ns ds i ≠ 0
  ·rw [if_pos h0] at e; exact absurd e h0
  ·rw [if_neg h0] at e
   by_cases ej : j = i
   ·subst ej; exact ⟨ds, Decidable.byContradiction h0⟩
   ·exact nodesE_all m (i + 1) _ e j (by omega) (by omega)
theorem node_on {R : RulesZ} {ns : List NodeZ} {ds : List Int} {i : Nat} (e : nodeE R ns ds i = 0) : onB ns (ndAt ns i).parent ((i : Int) - 1) = true := by
 unfold nodeE at e
 by_cases h1 : cmtErr (ndAt ns i).comment ≠ 0
 ·rw [if_pos h1] at e; exact absurd e h1
 rw [if_neg h1] at e
 by_cases h2 : (i : Int) ≤ (ndAt ns i).parent ∨ onB ns (ndAt ns i).parent ((i : Int) - 1) = false
 ·rw [if_pos h2] at e; cases e
 cases hb : onB ns (ndAt ns i).parent ((i : Int) - 1)
 ·exact absurd (.inr hb) h2
 ·rfl
theorem rec_on {R : RulesZ} {X : RecZ} (h : recErr R X = 0) : ∀ i, i < X.nodes.length → onB X.nodes (ndAt X.nodes i).parent ((i : Int) - 1) = true := by
 obtain ⟨h1, -, h2⟩ := rec_nodes h
 unfold recErr at h
 rw [if_neg (by simp [h1])] at h
 split at h
 ·cases h
 split at h
 ·rename_i hc; exact absurd h hc
 split at h
 ·cases h
 split at h
 ·rename_i hc; exact absurd h hc
 intro i hi
 obtain ⟨ds, hd⟩ := nodesE_all _ 0 _ h i (Nat.zero_le _) (by omega)
 exact node_on hd
/-- the nodes of a record are a forest in their order. -/
theorem forest_of {ns : List NodeZ} (hb : Back ns ns.length) (ho : ∀ i, i < ns.length → onB ns (ndAt ns i).parent ((i : Int) - 1) = true) : ∀ n, n ≤ ns.length → Forest ns (-1) 0 n
 | 0, _ => .nil _ _
 | n + 1, h => by
  have ih := forest_of hb ho n (by omega)
  refine ih.snoc (n := n) (fun k hk => hb k (by omega)) (Nat.le_refl _) (by decide) ?_
  rcases on_up (ho n (by omega)) with e | ⟨e1, e2⟩
  ·exact .inl e
  ·by_cases h0 : n = 0
   ·subst h0
    have := hb 0 (by omega)
    omega
   ·exact .inr ⟨by omega, by omega, e2⟩
/-- those after p among a, .., b - 1. -/
def kidsIn (ns : List NodeZ) (p : Int) (a b : Nat) : List Nat := (List.range' a (b - a)).filter fun k => (ndAt ns k).parent == p
theorem kidsIn_nil (ns : List NodeZ) (p : Int) (a : Nat) : kidsIn ns p a a = [] := by unfold kidsIn; rw [Nat.sub_self]; rfl
theorem range'_split (a b c : Nat) (h1 : a ≤ b) (h2 : b ≤ c) : List.range' a (c - a) = List.range' a (b - a) ++ List.range' b (c - b) := by
 have : c - a = (b - a) + (c - b) := by omega
 rw [this, ← List.range'_append_1, show a + (b - a) = b by omega]
theorem kidsIn_split (ns : List NodeZ) (p : Int) (a b c : Nat) (h1 : a ≤ b) (h2 : b ≤ c) : kidsIn ns p a c = kidsIn ns p a b ++ kidsIn ns p b c := by
 unfold kidsIn; rw [range'_split a b c h1 h2, List.filter_append]
theorem kidsIn_none (ns : List NodeZ) (p : Int) (a b : Nat) (h : ∀ k, a ≤ k → k < b → (ndAt ns k).parent ≠ p) : kidsIn ns p a b = [] := by
 unfold kidsIn
 rw [List.filter_eq_nil_iff]
 intro k hk
 rw [List.mem_range'_1] at hk
 simpa using h k hk.1 (by omega)
theorem kidsIn_one (ns : List NodeZ) (p : Int) (a : Nat) (h : (ndAt ns a).parent = p) : kidsIn ns p a (a + 1) = [a] := by
 unfold kidsIn
 rw [show a + 1 - a = 1 by omega]
 simp [List.range'_one, h]
theorem kidsZ_in (ns : List NodeZ) (p : Int) (a b : Nat) (h1 : a ≤ b) (h2 : b ≤ ns.length) (h : ∀ k, k < ns.length → (ndAt ns k).parent = p → a ≤ k ∧ k < b) : kidsZ ns p = kidsIn ns p a b := by
 have e : kidsZ ns p = kidsIn ns p 0 ns.length := by unfold kidsZ kidsIn; rw [List.range_eq_range', Nat.sub_zero]
 rw [e, kidsIn_split ns p 0 a ns.length (Nat.zero_le _) (by omega), kidsIn_split ns p a b ns.length h1 h2]
 rw [kidsIn_none ns p 0 a (fun k _ hk he => by have := h k (by omega) he; omega), kidsIn_none ns p b ns.length (fun k hk hl he => by have := h k hl he; omega)]
 simp
theorem Forest.kids {ns : List NodeZ} {p : Int} {a e b : Nat} (hp : (ndAt ns a).parent = p) (h1 : Forest ns (a : Int) (a + 1) e) (h2 : Forest ns p e b) (hpa : p < a) : kidsIn ns p a b = a :: kidsIn ns p e b := by
 have l1 := h1.le
 have l2 := h2.le
 rw [kidsIn_split ns p a (a + 1) b (by omega) (by omega), kidsIn_split ns p (a + 1) e b l1 l2, kidsIn_one ns p a hp, kidsIn_none ns p (a + 1) e (fun k k1 k2 he => by
  rcases h1.par k ⟨k1, k2⟩ with h | h
  ·omega
  ·omega)]
 rfl
def brOf (ns : List NodeZ) (f : Nat) (k : Nat) : BrZ := .mk (ndAt ns k).m (ndAt ns k).comment (treeF ns f (k : Int))
theorem take_node (ns : List NodeZ) (a : Nat) (h : a < ns.length) : ns.take a ++ [⟨(ndAt ns a).parent, (ndAt ns a).m, (ndAt ns a).comment⟩] = ns.take (a + 1) := by
 have e : ndAt ns a = ns[a] := by unfold ndAt; rw [List.getD_eq_getElem?_getD, List.getElem?_eq_getElem h]; rfl
 rw [List.take_succ_eq_append_getElem h, e]
/-- the trees of a forest, laid flat, are its nodes. -/
theorem flat_forest {ns : List NodeZ} (hb : Back ns ns.length) {p : Int} {a b : Nat} (h : Forest ns p a b) : b ≤ ns.length → p < a → (∀ k, k < ns.length → (a : Int) ≤ (ndAt ns k).parent → (ndAt ns k).parent < b → k < b) → ∀ f, b - a ≤ f → flatL ((kidsIn ns p a b).map (brOf ns f)) p (ns.take a) = ns.take b := by
 induction h with
 | nil p a => intro _ _ _ f _; rw [kidsIn_nil]; rfl
 | cons p a e b hp h1 h2 i1 i2 =>
  intro hbn hpa hsep f hf
  have l1 := h1.le
  have l2 := h2.le
  rw [Forest.kids hp h1 h2 hpa, List.map_cons, flatL]
  obtain ⟨g, rfl⟩ : ∃ g, f = g + 1 := ⟨f - 1, by omega⟩
  have hk : kidsZ ns (a : Int) = kidsIn ns (a : Int) (a + 1) e := kidsZ_in ns _ _ _ l1 (by omega) (fun k hk he => by
   have h3 := hb k hk
   have h4 := hsep k hk (by omega) (by omega)
   refine ⟨by omega, ?_⟩
   rcases Nat.lt_or_ge k e with h | h
   ·exact h
   ·rcases h2.par k ⟨h, h4⟩ with h5 | h5 <;> omega)
  have hB : flatB (brOf ns (g + 1) a) p (ns.take a) = ns.take e := by
   unfold brOf
   rw [flatB, treeF, hk]
   have hl : (ns.take a).length = a := by rw [List.length_take]; omega
   rw [hl, ← hp, take_node ns a (by omega)]
   refine i1 (by omega) (by omega) (fun k hk q1 q2 => ?_) g (by omega)
   have h4 := hsep k hk (by omega) (by omega)
   rcases Nat.lt_or_ge k e with h | h
   ·exact h
   ·rcases h2.par k ⟨h, h4⟩ with h5 | h5 <;> omega
  rw [hB]
  exact i2 hbn (by omega) (fun k hk q1 q2 => hsep k hk (by omega) q2) (g + 1) (by omega)
/-- a record's nodes are its trees, laid flat. -/
theorem flat_rec {R : RulesZ} {X : RecZ} (h : recErr R X = 0) : flatL (treeF X.nodes (X.nodes.length + 1) (-1)) (-1) [] = X.nodes := by
 have hb := (rec_nodes h).2.1.back
 have hlow := (rec_nodes h).2.1.low
 have hf := forest_of hb (rec_on h) X.nodes.length (Nat.le_refl _)
 have := flat_forest hb hf (Nat.le_refl _) (by decide) (fun k hk _ _ => hk) X.nodes.length (by omega)
 rw [List.take_zero, List.take_of_length_le (Nat.le_refl _)] at this
 rw [treeF, kidsZ_in X.nodes (-1) 0 X.nodes.length (Nat.zero_le _) (Nat.le_refl _) (fun k hk _ => ⟨Nat.zero_le _, hk⟩)]
 exact this
end Go.Proofs.YthklhndcdijneaaGreatDoor
namespace Go.Proofs.YthklhndcdijneaaGreatDoor
open Go.ChangeShapes Go.WideShapes Go.ChangeAt Go.RowKit
set_option linter.unusedVariables false
def BrZ.mv : BrZ → MoveZ
 | .mk m _ _ => m
def BrZ.cm : BrZ → ByteArray
 | .mk _ c _ => c
def BrZ.ks : BrZ → List BrZ
 | .mk _ _ ks => ks
/-- the first tree with the move is changed, or the tree comes last. -/
def putW (m : MoveZ) (y : BrZ) (f : BrZ → BrZ) : List BrZ → List BrZ
 | [] => [y]
 | x :: l => if x.mv = m then f x :: l else x :: putW m y f l
mutual
def mergeB : BrZ → BrZ → BrZ
 | x, .mk _ c ks => .mk x.mv (if x.cm.size = 0 then c else x.cm) (mergeL x.ks ks)
def mergeL : List BrZ → List BrZ → List BrZ
 | a, [] => a
 | a, y :: l => mergeL (putW y.mv y (fun x => mergeB x y) a) l
end
mutual
def distB : BrZ → Prop
 | .mk _ _ ks => distL ks
def distL : List BrZ → Prop
 | [] => True
 | b :: l => (∀ x ∈ l, x.mv ≠ b.mv) ∧ distB b ∧ distL l
end
theorem putW_hit (m : MoveZ) (y : BrZ) (f : BrZ → BrZ) (x : BrZ) (hx : x.mv = m) : ∀ (p l : List BrZ), (∀ z ∈ p, z.mv ≠ m) → putW m y f (p ++ x :: l) = p ++ f x :: l
 | [], l, _ => by show putW m y f (x :: l) = _; rw [putW, if_pos hx]; rfl
 | z :: p, l, h => by
  show putW m y f (z :: (p ++ x :: l)) = _
  rw [putW, if_neg (h z (List.mem_cons_self ..)), putW_hit m y f x hx p l (fun u hu => h u (List.mem_cons_of_mem _ hu))]; rfl
theorem putW_miss (m : MoveZ) (y : BrZ) (f : BrZ → BrZ) : ∀ (p : List BrZ), (∀ z ∈ p, z.mv ≠ m) → putW m y f p = p ++ [y]
 | [], _ => rfl
 | z :: p, h => by rw [putW, if_neg (h z (List.mem_cons_self ..)), putW_miss m y f p (fun u hu => h u (List.mem_cons_of_mem _ hu))]; rfl
theorem distL_app : ∀ (p l : List BrZ), distL (p ++ l) ↔ distL p ∧ distL l ∧ ∀ z ∈ p, ∀ x ∈ l, x.mv ≠ z.mv
 | [], l => by simp [distL]
 | z :: p, l => by
  show distL (z :: (p ++ l)) ↔ _
  rw [distL, distL, distL_app p l]
  constructor
  ·rintro ⟨h1, h2, h3, h4, h5⟩
   refine ⟨⟨fun x hx => h1 x (List.mem_append_left _ hx), h2, h3⟩, h4, fun u hu x hx => ?_⟩
   rcases List.mem_cons.1 hu with rfl | hu
   ·exact h1 x (List.mem_append_right _ hx)
   ·exact h5 u hu x hx
  ·rintro ⟨⟨h1, h2, h3⟩, h4, h5⟩
   refine ⟨fun x hx => ?_, h2, h3, h4, fun u hu x hx => h5 u (List.mem_cons_of_mem _ hu) x hx⟩
   rcases List.mem_append.1 hx with hx | hx
   ·exact h1 x hx
   ·exact h5 z (List.mem_cons_self ..) x hx
/-! ### ways -/
mutual
def waysB : List MoveZ → BrZ → List (List MoveZ)
 | pre, .mk m _ ks => (pre ++ [m]) :: waysL (pre ++ [m]) ks
def waysL : List MoveZ → List BrZ → List (List MoveZ)
 | _, [] => []
 | pre, b :: l => waysB pre b ++ waysL pre l
end
theorem waysB_eq (pre : List MoveZ) (b : BrZ) : waysB pre b = (pre ++ [b.mv]) :: waysL (pre ++ [b.mv]) b.ks := by cases b; rw [waysB]; rfl
theorem waysL_app (pre : List MoveZ) : ∀ (p l : List BrZ), waysL pre (p ++ l) = waysL pre p ++ waysL pre l
 | [], l => by rw [waysL]; rfl
 | z :: p, l => by show waysL pre (z :: (p ++ l)) = _; rw [waysL, waysL, waysL_app pre p l, List.append_assoc]
mutual
theorem flatTB_len : ∀ (b : BrZ) (pre : List MoveZ) (p : Int) (out : List NodeZ), (flatB b p out).length = out.length + (waysB pre b).length
 | .mk m c ks, pre, p, out => by
  rw [flatB, flatT_len ks (pre ++ [m]), waysB]
  simp only [List.length_append, List.length_cons, List.length_nil]
  omega
theorem flatT_len : ∀ (l : List BrZ) (pre : List MoveZ) (p : Int) (out : List NodeZ), (flatL l p out).length = out.length + (waysL pre l).length
 | [], pre, p, out => by rw [flatL, waysL]; rfl
 | b :: l, pre, p, out => by
  rw [flatL, flatT_len l pre, flatTB_len b pre, waysL, List.length_append]
  omega
end
/-- either the move is there, or not. -/
theorem put_split (m : MoveZ) (a : List BrZ) : (∀ z ∈ a, z.mv ≠ m) ∨ ∃ p x l, a = p ++ x :: l ∧ x.mv = m ∧ ∀ z ∈ p, z.mv ≠ m := by
 induction a with
 | nil => exact .inl (fun z hz => by cases hz)
 | cons z a ih =>
  by_cases hz : z.mv = m
  ·exact .inr ⟨[], z, a, rfl, hz, fun u hu => by cases hu⟩
  ·rcases ih with h | ⟨p, x, l, rfl, hx, hp⟩
   ·exact .inl (fun u hu => by rcases List.mem_cons.1 hu with rfl | hu; exact hz; exact h u hu)
   ·exact .inr ⟨z :: p, x, l, rfl, hx, fun u hu => by rcases List.mem_cons.1 hu with rfl | hu; exact hz; exact hp u hu⟩
mutual
theorem ways_mergeB : ∀ (y x : BrZ) (pre w : List MoveZ), x.mv = y.mv → (w ∈ waysB pre (mergeB x y) ↔ w ∈ waysB pre x ∨ w ∈ waysB pre y)
 | .mk m c ks, x, pre, w, hx => by
  have hm : x.mv = m := hx
  rw [mergeB, waysB, waysB_eq pre x, waysB, List.mem_cons, List.mem_cons, List.mem_cons, ways_mergeL ks x.ks (pre ++ [x.mv]) w, hm]
  constructor
  ·rintro (h | h | h)
   ·exact .inl (.inl h)
   ·exact .inl (.inr h)
   ·exact .inr (.inr h)
  ·rintro ((h | h) | (h | h))
   ·exact .inl h
   ·exact .inr (.inl h)
   ·exact .inl h
   ·exact .inr (.inr h)
theorem ways_mergeL : ∀ (b a : List BrZ) (pre w : List MoveZ), (w ∈ waysL pre (mergeL a b) ↔ w ∈ waysL pre a ∨ w ∈ waysL pre b)
 | [], a, pre, w => by rw [mergeL, waysL]; simp
 | y :: l, a, pre, w => by
  rw [mergeL, ways_mergeL l _ pre w, waysL, List.mem_append]
  rcases put_split y.mv a with h | ⟨p, x, r, rfl, hx, hp⟩
  ·rw [putW_miss y.mv y _ a h, waysL_app, waysL, waysL, List.append_nil, List.mem_append, or_assoc]
  ·rw [putW_hit y.mv y _ x hx p r hp, waysL_app, waysL_app, waysL, waysL, List.mem_append, List.mem_append, List.mem_append, List.mem_append, ways_mergeB y x pre w hx]
   constructor
   ·rintro ((h | (h | h) | h) | h)
    ·exact .inl (.inl h)
    ·exact .inl (.inr (.inl h))
    ·exact .inr (.inl h)
    ·exact .inl (.inr (.inr h))
    ·exact .inr (.inr h)
   ·rintro ((h | h | h) | h | h)
    ·exact .inl (.inl h)
    ·exact .inl (.inr (.inl (.inl h)))
    ·exact .inl (.inr (.inr h))
    ·exact .inl (.inr (.inl (.inr h)))
    ·exact .inr h
end
mutual
theorem dist_mergeB : ∀ (y x : BrZ), distB x → distB y → distB (mergeB x y)
 | .mk m c ks, x, hx, hy => by
  rw [mergeB, distB]
  rw [distB] at hy
  exact dist_mergeL ks x.ks (by cases x; rwa [distB] at hx) hy
theorem dist_mergeL : ∀ (b a : List BrZ), distL a → distL b → distL (mergeL a b)
 | [], a, ha, _ => by rw [mergeL]; exact ha
 | y :: l, a, ha, hb => by
  rw [distL] at hb
  rw [mergeL]
  refine dist_mergeL l _ ?_ hb.2.2
  rcases put_split y.mv a with h | ⟨p, x, r, rfl, hx, hp⟩
  ·rw [putW_miss y.mv y _ a h, distL_app]
   refine ⟨ha, ⟨fun z hz => (by cases hz), hb.2.1, by rw [distL]; trivial⟩, fun z hz u hu => ?_⟩
   simp only [List.mem_singleton] at hu
   subst hu
   exact fun e => h z hz e.symm
  ·rw [putW_hit y.mv y _ x hx p r hp]
   obtain ⟨h1, h2, h3⟩ := (distL_app p (x :: r)).1 ha
   rw [distL] at h2
   have hmv : (mergeB x y).mv = x.mv := by cases y; rw [mergeB]; rfl
   refine (distL_app p _).2 ⟨h1, ⟨fun z hz => by rw [hmv]; exact h2.1 z hz, dist_mergeB y x h2.2.1 hb.2.1, h2.2.2⟩, fun z hz u hu => ?_⟩
   rcases List.mem_cons.1 hu with rfl | hu
   ·rw [hmv]; exact h3 z hz x (List.mem_cons_self ..)
   ·exact h3 z hz u (List.mem_cons_of_mem _ hu)
end
end Go.Proofs.YthklhndcdijneaaGreatDoor

/- MakeA, MvLaw, End1. -/
import Derived.Test.YthklhndcdijneaaGreatDoorC12
import Derived.StillTailTactics
import Derived.Test.YthklhndcdijneaaGreatDoorC04
import Derived.Test.YthklhndcdijneaaGreatDoorC09
import Derived.Test.YthklhndcdijneaaGreatDoorC01
namespace Go.Proofs.YthklhndcdijneaaGreatDoor
open Go.ChangeShapes Go.WideShapes Go.ChangeAt Go.RowKit
set_option linter.unusedVariables false
def makeHand (R : RulesZ) (p : PosZ) (m : MoveZ) : List Int :=
 let h1 := if 0 ≤ m.src then p.hand p.turn else (p.hand p.turn).set m.piece.toNat ((p.hand p.turn).getD m.piece.toNat 0 - 1)
 let took := p.cells.getD m.dst.toNat 0
 if 0 < took ∧ R.keeps = true then h1.set ((took - 1) / 2).toNat (if 1000 < h1.getD ((took - 1) / 2).toNat 0 + 1 then 1000 else h1.getD ((took - 1) / 2).toNat 0 + 1) else h1
def makeCells (p : PosZ) (m : MoveZ) : List Int := (if 0 ≤ m.src then p.cells.set m.src.toNat 0 else p.cells).set m.dst.toNat (2 * m.piece + p.turn + 1)
def makeZ (R : RulesZ) (p : PosZ) (m : MoveZ) : PosZ :=
 ⟨makeCells p m, if p.turn = 0 then makeHand R p m else p.h0, if p.turn = 0 then p.h1 else makeHand R p m, 1 - p.turn,
  if 0 < p.cells.getD m.dst.toNat 0 ∨ m.src < 0 then 0 else if 200 < p.quiet + 1 then 200 else p.quiet + 1⟩
/-- rows c, h0, h1 in memory, apart, and the box that names them. -/
structure Hold (base : Nat) (w : World) (b : Nat) (cs l0 l1 : List Int) (vc v0 v1 : Value) (tu qu : Int) : Prop where
 box : Box w b [vc, v0, v1, .int .i64 tu, .int .i64 qu] 66
 oc : w.ownsRow base 3 1 vc cs.length (ints cs)
 o0 : w.ownsRow base 3 1 v0 l0.length (ints l0)
 o1 : w.ownsRow base 3 1 v1 l1.length (ints l1)
 c0 : vc.ownBlock = none ∨ vc.ownBlock ≠ v0.ownBlock
 c1 : vc.ownBlock = none ∨ vc.ownBlock ≠ v1.ownBlock
 d01 : v0.ownBlock = none ∨ v0.ownBlock ≠ v1.ownBlock
 bb : ∀ k, (vc.ownBlock = some k ∨ v0.ownBlock = some k ∨ v1.ownBlock = some k) → k ≠ b
section
variable {base b : Nat} {w : World} {cs l0 l1 : List Int} {vc v0 v1 : Value} {tu qu : Int}
theorem row_set {v : Value} {xs : List Int} {g c : Nat} (h : w.ownsRow base 3 1 v xs.length (ints xs)) (hv : v = .slice (some ⟨g, 0, none⟩) xs.length c) (i : Nat) (z : Int) :
  (w.setCell ⟨g, i, none⟩ (.int .i64 z)).ownsRow base 3 1 v (xs.set i z).length (ints (xs.set i z)) := by
 subst hv
 have := (h.stored i (.int .i64 z)).1
 rw [ints_set] at this
 rw [List.length_set]
 exact this
theorem row_far {v : Value} {xs : List Int} {n : Nat} (h : w.ownsRow base 3 1 v n (ints xs)) {p : Addr} (hne : v.ownBlock = none ∨ v.ownBlock ≠ some p.block) (u : Value) : (w.setCell p u).ownsRow base 3 1 v n (ints xs) :=
 h.kept (setG w p u) hne
theorem Hold.setC {g c : Nat} (h : Hold base w b cs l0 l1 vc v0 v1 tu qu) (hv : vc = .slice (some ⟨g, 0, none⟩) cs.length c) (i : Nat) (z : Int) : Hold base (w.setCell ⟨g, i, none⟩ (.int .i64 z)) b (cs.set i z) l0 l1 vc v0 v1 tu qu :=
 have e : vc.ownBlock = some g := by rw [hv]; rfl
 ⟨h.box.far _ _ (fun q => h.bb g (.inl e) q.symm), row_set h.oc hv i z, row_far h.o0 (by have := apart_swap h.c0; rw [e] at this; exact this) _, row_far h.o1 (by have := apart_swap h.c1; rw [e] at this; exact this) _, h.c0, h.c1, h.d01, h.bb⟩
theorem Hold.set0 {g c : Nat} (h : Hold base w b cs l0 l1 vc v0 v1 tu qu) (hv : v0 = .slice (some ⟨g, 0, none⟩) l0.length c) (i : Nat) (z : Int) : Hold base (w.setCell ⟨g, i, none⟩ (.int .i64 z)) b cs (l0.set i z) l1 vc v0 v1 tu qu :=
 have e : v0.ownBlock = some g := by rw [hv]; rfl
 ⟨h.box.far _ _ (fun q => h.bb g (.inr (.inl e)) q.symm), row_far h.oc (by have := h.c0; rw [e] at this; exact this) _, row_set h.o0 hv i z, row_far h.o1 (by have := apart_swap h.d01; rw [e] at this; exact this) _, h.c0, h.c1, h.d01, h.bb⟩
theorem Hold.set1 {g c : Nat} (h : Hold base w b cs l0 l1 vc v0 v1 tu qu) (hv : v1 = .slice (some ⟨g, 0, none⟩) l1.length c) (i : Nat) (z : Int) : Hold base (w.setCell ⟨g, i, none⟩ (.int .i64 z)) b cs l0 (l1.set i z) vc v0 v1 tu qu :=
 have e : v1.ownBlock = some g := by rw [hv]; rfl
 ⟨h.box.far _ _ (fun q => h.bb g (.inr (.inr e)) q.symm), row_far h.oc (by have := h.c1; rw [e] at this; exact this) _, row_far h.o0 (by have := h.d01; rw [e] at this; exact this) _, row_set h.o1 hv i z, h.c0, h.c1, h.d01, h.bb⟩
theorem Hold.setT (h : Hold base w b cs l0 l1 vc v0 v1 tu qu) (z : Int) : Hold base (w.setCell ⟨b, 3, none⟩ (.int .i64 z)) b cs l0 l1 vc v0 v1 z qu :=
 have f : ∀ v : Value, (∀ k, v.ownBlock = some k → k ≠ b) → v.ownBlock = none ∨ v.ownBlock ≠ some b := fun v hv => by
  cases q : v.ownBlock with
  | none => exact .inl rfl
  | some k => exact .inr (fun e => hv k q (by simpa using e))
 ⟨h.box.set 3 _, row_far h.oc (f _ fun k q => h.bb k (.inl q)) _, row_far h.o0 (f _ fun k q => h.bb k (.inr (.inl q))) _, row_far h.o1 (f _ fun k q => h.bb k (.inr (.inr q))) _, h.c0, h.c1, h.d01, h.bb⟩
theorem Hold.setQ (h : Hold base w b cs l0 l1 vc v0 v1 tu qu) (z : Int) : Hold base (w.setCell ⟨b, 4, none⟩ (.int .i64 z)) b cs l0 l1 vc v0 v1 tu z :=
 have f : ∀ v : Value, (∀ k, v.ownBlock = some k → k ≠ b) → v.ownBlock = none ∨ v.ownBlock ≠ some b := fun v hv => by
  cases q : v.ownBlock with
  | none => exact .inl rfl
  | some k => exact .inr (fun e => hv k q (by simpa using e))
 ⟨h.box.set 4 _, row_far h.oc (f _ fun k q => h.bb k (.inl q)) _, row_far h.o0 (f _ fun k q => h.bb k (.inr (.inl q))) _, row_far h.o1 (f _ fun k q => h.bb k (.inr (.inr q))) _, h.c0, h.c1, h.d01, h.bb⟩
theorem Hold.drew (h : Hold base w b cs l0 l1 vc v0 v1 tu qu) : Hold base w.drew b cs l0 l1 vc v0 v1 tu qu := ⟨h.box, h.oc, h.o0, h.o1, h.c0, h.c1, h.d01, h.bb⟩
theorem row_at {v : Value} {xs : List Int} (h : w.ownsRow base 3 1 v xs.length (ints xs)) (hn : 0 < xs.length) : ∃ g c, v = .slice (some ⟨g, 0, none⟩) xs.length c ∧ g < w.heap.size ∧ base ≤ g ∧
  (∀ i, i < xs.length → w.cell? ⟨g, i, none⟩ = some (.int .i64 (xs.getD i 0))) ∧ (∀ i, w.frozen? ⟨g, i, none⟩ = false) := by
 obtain ⟨g, c, rfl⟩ := own_some h hn
 exact ⟨g, c, rfl, (h.lt g rfl).2, (h.lt g rfl).1, fun i hi => (h.cellAt i (by omega)).trans (ints_get _ _ hi), fun i => h.frozenAt i⟩
end
def L0 (t : Int) (l a : List Int) : List Int := if t = 0 then l else a
def L1 (t : Int) (l c : List Int) : List Int := if t = 0 then c else l
theorem Hold.setH {base b : Nat} {w : World} {cs l a c : List Int} {vc v0 v1 : Value} {tu qu t : Int} {g cp : Nat} (h : Hold base w b cs (L0 t l a) (L1 t l c) vc v0 v1 tu qu) (hv : (if t = 0 then v0 else v1) = .slice (some ⟨g, 0, none⟩) l.length cp) (i : Nat) (z : Int) :
  Hold base (w.setCell ⟨g, i, none⟩ (.int .i64 z)) b cs (L0 t (l.set i z) a) (L1 t (l.set i z) c) vc v0 v1 tu qu := by
 unfold L0 L1 at *
 by_cases e : t = 0
 ·simp only [if_pos e] at *
  exact h.set0 hv i z
 ·simp only [if_neg e] at *
  exact h.set1 hv i z
theorem Hold.oh {base b : Nat} {w : World} {cs l a c : List Int} {vc v0 v1 : Value} {tu qu t : Int} (h : Hold base w b cs (L0 t l a) (L1 t l c) vc v0 v1 tu qu) : w.ownsRow base 3 1 (if t = 0 then v0 else v1) l.length (ints l) := by
 by_cases e : t = 0
 ·have := h.o0; unfold L0 at this; rw [if_pos e] at *; exact this
 ·have := h.o1; unfold L1 at this; rw [if_neg e] at *; exact this
theorem Hold.ch {base b : Nat} {w : World} {cs l0 l1 : List Int} {vc v0 v1 : Value} {tu qu t : Int} (h : Hold base w b cs l0 l1 vc v0 v1 tu qu) (h0 : 0 ≤ t) (h1 : t ≤ 1) : w.cell? ⟨b, 1 + t.toNat, none⟩ = some (if t = 0 then v0 else v1) := by
 by_cases e : t = 0
 ·rw [if_pos e, e]; exact h.box.cell 1 rfl
 ·have e1 : t = 1 := by omega
  rw [if_neg e, e1]; exact h.box.cell 2 rfl
def MakePost (R : RulesZ) (p : PosZ) (m : MoveZ) (w : World) (e : Ending) (w' : World) : Prop := ∃ vc v0 v1, e = .returned (posV (makeZ R p m) vc v0 v1) ∧ OwnP w.heap.size w' (makeZ R p m) vc v0 v1 ∧ Below w.heap.size w w'
theorem OwnP.setCells {base b : Nat} {w : World} {p : PosZ} {vc v0 v1 : Value} (h : OwnP base w p vc v0 v1) (hb : b < base) (o : Nat) (vs : List Value) : OwnP base (w.setCells b o vs) p vc v0 v1 :=
 ⟨own_setCells h.1 hb o vs, own_setCells h.2.1 hb o vs, own_setCells h.2.2.1 hb o vs, h.2.2.2⟩
/-- a move within the board and the types. -/
structure Fits (R : RulesZ) (p : PosZ) (m : MoveZ) : Prop where
 d : 0 ≤ m.dst ∧ m.dst < p.cells.length
 s : -1 ≤ m.src ∧ m.src < p.cells.length
 k : 0 ≤ m.piece ∧ m.piece < R.pieces.length
end Go.Proofs.YthklhndcdijneaaGreatDoor
namespace Go.Proofs.YthklhndcdijneaaGreatDoor
set_option linter.unusedVariables false
theorem compact_mem (m : MoveZ) : ∀ l : List MoveZ, m ∈ compactZ l ↔ m ∈ l
 | [] => by simp [compactZ]
 | [x] => by simp [compactZ]
 | x :: y :: t => by
  have ih := compact_mem m (y :: t)
  by_cases h : x = y
  ·simp only [compactZ, if_pos h, ih]
   subst h
   simp
  ·simp only [compactZ, if_neg h, List.mem_cons] at ih ⊢
   rw [ih]
theorem list_mem {R : RulesZ} {p : PosZ} {m : MoveZ} : m ∈ listZ R p ↔ m ∈ rawZ R p := by
 unfold listZ sortZ
 rw [compact_mem, List.mem_mergeSort]
theorem puts_mem {R : RulesZ} {p : PosZ} {m : MoveZ} (h : m ∈ putsZ R p) : ∃ s k : Nat, s < p.cells.length ∧ p.cells.getD s 0 = 0 ∧ k < (p.hand p.turn).length ∧ 0 < (p.hand p.turn).getD k 0 ∧ m = ⟨-1, s, k⟩ := by
 unfold putsZ at h
 obtain ⟨s, hs, h⟩ := List.mem_flatMap.1 h
 unfold putsAt at h
 split at h
 ·cases h
 ·rename_i hn
  obtain ⟨k, hk, h⟩ := List.mem_filterMap.1 h
  split at h
  ·simp only [Option.some.injEq] at h
   exact ⟨s, k, by simpa using hs, by
    by_cases e : p.cells.getD s 0 = 0
    ·exact e
    ·exact absurd (.inl e) hn, by simpa using hk, by assumption, h.symm⟩
  ·cases h
theorem steps_mem {R : RulesZ} {p : PosZ} {m : MoveZ} (h : m ∈ (List.range p.cells.length).flatMap (stepsAt R p)) : ∃ s : Nat, s < p.cells.length ∧ 0 ≠ p.cells.getD s 0 ∧ (p.cells.getD s 0 - 1) % 2 = p.turn ∧
  ∃ x ∈ (R.pieces.getD ((p.cells.getD s 0 - 1) / 2).toNat default).ways, ∃ t ∈ wayZ R p s x, m = moveTo R p s ((p.cells.getD s 0 - 1) / 2) t := by
 obtain ⟨s, hs, h⟩ := List.mem_flatMap.1 h
 unfold stepsAt at h
 split at h
 ·cases h
 ·rename_i hn
  obtain ⟨x, hx, h⟩ := List.mem_flatMap.1 h
  obtain ⟨t, ht, h⟩ := List.mem_map.1 h
  exact ⟨s, by simpa using hs, fun e => hn (.inl e.symm), by
   by_cases e : (p.cells.getD s 0 - 1) % 2 = p.turn
   ·exact e
   ·exact absurd (.inr e) hn, x, hx, t, ht, h.symm⟩
theorem fits_of {R : RulesZ} {p : PosZ} {m : MoveZ} (K : POk R p) (h : m ∈ listZ R p) : Fits R p m := by
 rw [list_mem] at h
 unfold rawZ at h
 have hnp := K.r.np
 rcases List.mem_append.1 h with h | h
 ·obtain ⟨s, k, hs, -, hk, -, rfl⟩ := puts_mem h
  have := hand_len K
  exact ⟨⟨by simp, by simpa using hs⟩, ⟨by simp, by simp; omega⟩, ⟨by simp, by simp; omega⟩⟩
 ·obtain ⟨s, hs, hn, -, x, -, t, ht, rfl⟩ := steps_mem h
  have htm := wayZ_mem ht
  have hc := K.cell s
  have hcl := K.cl
  have hkz : 0 ≤ (p.cells.getD s 0 - 1) / 2 ∧ (p.cells.getD s 0 - 1) / 2 < R.pieces.length := by omega
  generalize (p.cells.getD s 0 - 1) / 2 = kz at *
  have hpr := (K.r.pc kz.toNat (by omega)).2.1
  unfold moveTo
  refine ⟨⟨htm.1, by show t < _; omega⟩, ⟨by show -1 ≤ (s : Int); omega, by show (s : Int) < _; omega⟩, ?_⟩
  dsimp only
  split
  ·rename_i hh; omega
  ·exact hkz
theorem mem_set {l : List Int} {k : Nat} {z c : Int} (h : c ∈ l.set k z) : c = z ∨ c ∈ l := (List.mem_or_eq_of_mem_set h).symm
/-- the position after a legal move is valid. -/
theorem make_ok {R : RulesZ} {p : PosZ} {m : MoveZ} (K : POk R p) (h : m ∈ listZ R p) : POk R (makeZ R p m) := by
 have F := fits_of K h
 obtain ⟨hd1, hd2⟩ := F.d
 obtain ⟨hs1, hs2⟩ := F.s
 obtain ⟨hk1, hk2⟩ := F.k
 have htu := K.tu
 have hq := K.qu
 have hnp := K.r.np
 have hhl := hand_len K
 have hhb : ∀ c ∈ p.hand p.turn, 0 ≤ c ∧ c ≤ 1000 := by unfold PosZ.hand; split; exact K.b0; exact K.b1
 have hput : m.src < 0 → 0 < (p.hand p.turn).getD m.piece.toNat 0 := by
  intro hs
  rw [list_mem] at h
  unfold rawZ at h
  rcases List.mem_append.1 h with h | h
  ·obtain ⟨s, k, _, -, hk, hp, rfl⟩ := puts_mem h
   simpa using hp
  ·obtain ⟨s, _, hn, -, x, -, t, ht, rfl⟩ := steps_mem h
   simp [moveTo] at hs
   omega
 have hget : ∀ i, 0 ≤ (p.hand p.turn).getD i 0 ∧ (p.hand p.turn).getD i 0 ≤ 1000 := fun i => by
  by_cases hi : i < (p.hand p.turn).length
  ·rw [List.getD_eq_getElem?_getD, List.getElem?_eq_getElem hi]; exact hhb _ (List.getElem_mem hi)
  ·rw [List.getD_eq_getElem?_getD, List.getElem?_eq_none (by omega)]; simp
 have hl1 : (if 0 ≤ m.src then p.hand p.turn else (p.hand p.turn).set m.piece.toNat ((p.hand p.turn).getD m.piece.toNat 0 - 1)).length = R.pieces.length := by split <;> simp [hhl]
 have hb1 : ∀ c ∈ (if 0 ≤ m.src then p.hand p.turn else (p.hand p.turn).set m.piece.toNat ((p.hand p.turn).getD m.piece.toNat 0 - 1)), 0 ≤ c ∧ c ≤ 1000 := by
  intro c hc
  split at hc
  ·exact hhb c hc
  ·rename_i hs
   rcases mem_set hc with rfl | hc
   ·have := hput (by omega); have := hget m.piece.toNat; omega
   ·exact hhb c hc
 have hH : (makeHand R p m).length = R.pieces.length ∧ ∀ c ∈ makeHand R p m, 0 ≤ c ∧ c ≤ 1000 := by
  unfold makeHand
  generalize (if 0 ≤ m.src then p.hand p.turn else (p.hand p.turn).set m.piece.toNat ((p.hand p.turn).getD m.piece.toNat 0 - 1)) = l at *
  have hg : ∀ i, 0 ≤ l.getD i 0 := fun i => by
   by_cases hi : i < l.length
   ·rw [List.getD_eq_getElem?_getD, List.getElem?_eq_getElem hi]; exact (hb1 _ (List.getElem_mem hi)).1
   ·rw [List.getD_eq_getElem?_getD, List.getElem?_eq_none (by omega)]; simp
  simp only
  split
  ·refine ⟨by simp [hl1], fun c hc => ?_⟩
   rcases mem_set hc with rfl | hc
   ·have := hg ((p.cells.getD m.dst.toNat 0 - 1) / 2).toNat
    split <;> omega
   ·exact hb1 c hc
  ·exact ⟨hl1, hb1⟩
 refine ⟨K.r, ?_, ?_, ?_, ?_, ?_, ?_, ?_, ?_⟩
 ·show ((makeCells p m).length : Int) = _
  unfold makeCells
  split <;> simp [K.cl]
 ·show (if p.turn = 0 then makeHand R p m else p.h0).length = _
  split
  ·exact hH.1
  ·exact K.l0
 ·show (if p.turn = 0 then p.h1 else makeHand R p m).length = _
  split
  ·exact K.l1
  ·exact hH.1
 ·intro c hc
  have hc : c ∈ makeCells p m := hc
  unfold makeCells at hc
  rcases mem_set hc with rfl | hc
  ·omega
  ·split at hc
   ·rcases mem_set hc with rfl | hc
    ·omega
    ·exact K.cb c hc
   ·exact K.cb c hc
 ·show ∀ c ∈ (if p.turn = 0 then makeHand R p m else p.h0), _
  split
  ·exact hH.2
  ·exact K.b0
 ·show ∀ c ∈ (if p.turn = 0 then p.h1 else makeHand R p m), _
  split
  ·exact K.b1
  ·exact hH.2
 ·show 1 - p.turn = 0 ∨ 1 - p.turn = 1
  omega
 ·unfold makeZ
  dsimp only
  split
  ·omega
  ·split <;> omega
end Go.Proofs.YthklhndcdijneaaGreatDoor
namespace Go.Proofs.YthklhndcdijneaaGreatDoor
open Go.ChangeShapes Go.WideShapes Go.ChangeAt Go.RowKit
set_option linter.unusedVariables false
set_option maxHeartbeats 4000000
set_option maxRecDepth 100000
/-- a piece of the player stands there. -/
def ownZ (R : RulesZ) (p : PosZ) (pl x y : Int) : Bool :=
  if x < 0 ∨ R.width ≤ x ∨ y < 0 ∨ R.height ≤ y then false
  else decide (0 < p.cells.getD (y * R.width + x).toNat 0) && ((p.cells.getD (y * R.width + x).toNat 0 - 1) % 2 == pl)
def dxZ (j : Int) : Int := if j = 1 then 0 else 1
def dyZ (j : Int) : Int := if j = 0 then 0 else if j = 3 then -1 else 1
def lineAt (R : RulesZ) (p : PosZ) (pl : Int) (cnt : Nat) (s : Nat) (j : Int) : Bool :=
  (List.range cnt).all fun i => ownZ R p pl ((s : Int) % R.width + i * dxZ j) ((s : Int) / R.width + i * dyZ j)
def lineZ (R : RulesZ) (p : PosZ) (pl : Int) (cnt : Nat) : Bool := (List.range p.cells.length).any fun s => (List.range 4).any fun j => lineAt R p pl cnt s j
theorem lineZ_true {R : RulesZ} {p : PosZ} {pl : Int} {cnt s : Nat} {j : Int} (hs : s < p.cells.length) (h0 : 0 ≤ j) (h4 : j < 4) (h : lineAt R p pl cnt s j = true) : lineZ R p pl cnt = true := by
  unfold lineZ
  rw [List.any_eq_true]
  refine ⟨s, by simpa using hs, ?_⟩
  rw [List.any_eq_true]
  exact ⟨j.toNat, by simp; omega, by rw [Int.toNat_of_nonneg h0]; exact h⟩
theorem lineZ_false {R : RulesZ} {p : PosZ} {pl : Int} {cnt : Nat} (h : ∀ s, s < p.cells.length → ∀ j : Int, 0 ≤ j → j < 4 → lineAt R p pl cnt s j = false) : lineZ R p pl cnt = false := by
  unfold lineZ
  rw [List.any_eq_false]
  intro s hs
  rw [Bool.not_eq_true, List.any_eq_false]
  intro j hj
  rw [h s (by simpa using hs) j (by omega) (by simp at hj; omega)]
  simp
theorem all_upto {f : Nat → Bool} {n k : Nat} (h : ∀ i, i < k → f i = true) (hk : k = n) : (List.range n).all f = true := by
  subst hk
  rw [List.all_eq_true]
  intro i hi
  exact h i (by simpa using hi)
theorem all_not {f : Nat → Bool} {n k : Nat} (hk : k < n) (h : f k = false) : (List.range n).all f = false := by
  rw [List.all_eq_false]
  exact ⟨k, by simpa using hk, by simp [h]⟩
theorem inside2 {W H x y : Int} (h1 : 0 ≤ x) (h2 : x < W) (h3 : 0 ≤ y) (h4 : y < H) : 0 ≤ y * W + x ∧ y * W + x < W * H := by
  have a := Int.mul_nonneg h3 (show 0 ≤ W by omega)
  have b : (y + 1) * W ≤ H * W := Int.mul_le_mul_of_nonneg_right (by omega) (by omega)
  rw [Int.add_mul, Int.one_mul, Int.mul_comm H W] at b
  omega
theorem row_in2 {len s : Nat} {W H : Int} (hl : (len : Int) = W * H) (hW : 0 < W) (hs : s < len) : (s : Int) / W < H := Int.ediv_lt_of_lt_mul hW (by rw [Int.mul_comm]; omega)
theorem own_any (R : RulesZ) (vp vs ve : Value) (p : PosZ) (ac : Option Addr) (cc : Nat) (v0 v1 : Value) (pl x y : Int) (b0 b1 b2 : Nat) (w : World) (B0 : Box w b0 [.string R.name, .int .i64 R.width, .int .i64 R.height, vp, vs, .bool R.falls, .bool R.keeps, ve, .int .i64 R.blocked, .int .i64 R.quiet, .int .i64 R.rept] 26) (B1 : Box w b1 [.slice ac p.cells.length cc, v0, v1, .int .i64 p.turn, .int .i64 p.quiet] 66) (B2 : Box w b2 [.int .i64 pl] 3)
    (hp : RdI w (.slice ac p.cells.length cc) p.cells) (K : POk R p) (hx1 : -100 ≤ x) (hx2 : x ≤ 100) (hy1 : -100 ≤ y) (hy2 : y ≤ 100) :
    Calls Tryz.prog 152 (#[.int .i64 x, .int .i64 y] ++ #[.pointer (some ⟨b0, 0, none⟩), .pointer (some ⟨b1, 0, none⟩), .pointer (some ⟨b2, 0, none⟩)]) w fun e w' => e = .returned (.bool (ownZ R p pl x y)) ∧ w = w' := by
  show Calls Tryz.prog 152 #[.int .i64 x, .int .i64 y, .pointer (some ⟨b0, 0, none⟩), .pointer (some ⟨b1, 0, none⟩), .pointer (some ⟨b2, 0, none⟩)] w _
  have HD : Hid (ownZ R p pl x y = if x < 0 ∨ R.width ≤ x ∨ y < 0 ∨ R.height ≤ y then false else decide (0 < p.cells.getD (y * R.width + x).toNat 0) && ((p.cells.getD (y * R.width + x).toNat 0 - 1) % 2 == pl)) := Lib.hid rfl
  have HCL := Lib.hid K.cl
  have HCB := Lib.hid K.cell
  have hlen := K.len
  obtain ⟨hw1, hw2⟩ := K.r.w
  obtain ⟨hh1, hh2⟩ := K.r.h
  have hnp := K.r.np.2
  have r1 := B0.cell 1 rfl
  have r2 := B0.cell 2 rfl
  have e0 := B1.cell 0 rfl
  have z0 := B2.cell 0 rfl
  have HP := Lib.hid hp
  obtain ⟨a', c', hv, hc1, hc2⟩ := hp.form
  unfold maxLen at hc2
  clear B0 B1 B2 hp
  by_cases o1 : x < 0
  · have HE : Hid (ownZ R p pl x y = false) := Lib.hid (by rw [HD.out, if_pos (.inl o1)])
    go_enter Tryz.func152, Tryz.ntmps152
    go_wp2
    go_ret
    exact ⟨by rw [HE.out]; rfl, rfl⟩
  by_cases o2 : R.width ≤ x
  · have HE : Hid (ownZ R p pl x y = false) := Lib.hid (by rw [HD.out, if_pos (.inr (.inl o2))])
    go_enter Tryz.func152, Tryz.ntmps152
    go_wp2
    go_ret
    exact ⟨by rw [HE.out]; rfl, rfl⟩
  by_cases o3 : y < 0
  · have HE : Hid (ownZ R p pl x y = false) := Lib.hid (by rw [HD.out, if_pos (.inr (.inr (.inl o3)))])
    go_enter Tryz.func152, Tryz.ntmps152
    go_wp2
    go_ret
    exact ⟨by rw [HE.out]; rfl, rfl⟩
  by_cases o4 : R.height ≤ y
  · have HE : Hid (ownZ R p pl x y = false) := Lib.hid (by rw [HD.out, if_pos (.inr (.inr (.inr o4)))])
    go_enter Tryz.func152, Tryz.ntmps152
    go_wp2
    go_ret
    exact ⟨by rw [HE.out]; rfl, rfl⟩
  have HD2 : Hid (ownZ R p pl x y = (decide (0 < p.cells.getD (y * R.width + x).toNat 0) && ((p.cells.getD (y * R.width + x).toNat 0 - 1) % 2 == pl))) := Lib.hid (by rw [HD.out, if_neg (by omega)])
  obtain ⟨i1, i2⟩ := inside2 (show 0 ≤ x by omega) (show x < R.width by omega) (show 0 ≤ y by omega) (show y < R.height by omega)
  rw [← HCL.out] at i2
  have m1 : 0 ≤ y * R.width := Int.mul_nonneg (by omega) (by omega)
  have m2 : y * R.width ≤ 64 := by omega
  obtain ⟨g, o, rfl, hcell⟩ := cells_rd HP.out (by omega)
  have hce := hcell (y * R.width + x).toNat (by omega)
  obtain ⟨b1', b2'⟩ := HCB.out (y * R.width + x).toNat
  clear hcell HD hv
  generalize p.cells.getD (y * R.width + x).toNat 0 = c at *
  by_cases hc0 : 0 < c
  · have HE : Hid (ownZ R p pl x y = ((c - 1) % 2 == pl)) := Lib.hid (by rw [HD2.out]; simp [hc0])
    go_enter Tryz.func152, Tryz.ntmps152
    go_wp2
    go_ret
    exact ⟨by rw [HE.out]; rfl, rfl⟩
  · have HE : Hid (ownZ R p pl x y = false) := Lib.hid (by rw [HD2.out]; simp [hc0])
    go_enter Tryz.func152, Tryz.ntmps152
    go_wp2
    go_ret
    exact ⟨by rw [HE.out]; rfl, rfl⟩
theorem callOwn (args : Array Value) (w : World) : (callFunc 152 args).run Tryz.prog w = .ok (.enter 152 args) w := by kernel_rfl
theorem own_in {R : RulesZ} {p : PosZ} {pl x y : Int} (h : ownZ R p pl x y = true) : 0 ≤ x ∧ x < R.width ∧ 0 ≤ y ∧ y < R.height := by
  unfold ownZ at h
  by_cases e : x < 0 ∨ R.width ≤ x ∨ y < 0 ∨ R.height ≤ y
  · rw [if_pos e] at h; cases h
  · omega
theorem dx_step (n : Nat) (d : Int) : ((n + 1 : Nat) : Int) * d = (n : Int) * d + d := by rw [Int.natCast_succ, Int.add_mul, Int.one_mul]
theorem line_any (R : RulesZ) (vp vs ve : Value) (p : PosZ) (vc v0 v1 : Value) (pl : Int) (cnt : Nat) (w : World) (hp : RdI w vc p.cells) (K : POk R p) (hcnt : cnt ≤ 64) :
    Calls Tryz.prog 137 #[(.agg #[.string R.name, .int .i64 R.width, .int .i64 R.height, vp, vs, .bool R.falls, .bool R.keeps, ve, .int .i64 R.blocked, .int .i64 R.quiet, .int .i64 R.rept]), (.agg #[vc, v0, v1, .int .i64 p.turn, .int .i64 p.quiet]), .int .i64 pl, .int .i64 cnt] w fun e w' => e = .returned (.bool (lineZ R p pl cnt)) ∧ Below w.heap.size w w' := by
  have HC := Lib.hid hp
  obtain ⟨ac, cc, rfl, hc1, hc2⟩ := hp.form
  unfold maxLen at hc2
  have hlen := K.len
  obtain ⟨hw1, hw2⟩ := K.r.w
  obtain ⟨hh1, hh2⟩ := K.r.h
  have HCL := Lib.hid K.cl
  clear hp
  go_enter Tryz.func137, Tryz.ntmps137
  go_upto_region 1 with (fail)
  refine opn3 fun w0 B0 B1 B2 yb_ hs_ => ?_
  have HB := Lib.hid yb_
  have hz0 : w.heap.size + 1 + 1 < w0.heap.size := by omega
  clear hs_ yb_
  have HCw := Lib.hid (HC.out.below HB.out (Nat.le_refl _))
  have HB0 := Lib.hid B0
  have HB1 := Lib.hid B1
  have HB2 := Lib.hid B2
  have e0 := B1.cell 0 rfl
  clear B0 B1 B2
  go_wp2_with fail
  clear e0
  go_loopw [20] (fun i wr => ∃ k : Nat, k ≤ p.cells.length ∧ i = .int .i64 k ∧ Hid (∀ s, s < k → ∀ j : Int, 0 ≤ j → j < 4 → lineAt R p pl cnt s j = false) ∧ Hid (Below w0.heap.size w0 wr)) (fun i _ => p.cells.length - (intOf i).toNat)
  case atStart => exact ⟨0, Nat.zero_le _, rfl, Lib.hid (fun s hs => absurd hs (Nat.not_lt_zero _)), Lib.hid (Below.refl _ _)⟩
  case round =>
    obtain ⟨k, hk, rfl, HF1, HBr⟩ := hrel
    by_cases hlt : k < p.cells.length
    · have hw0 : ¬ R.width = 0 := by omega
      have q3 := Int.emod_nonneg (k : Int) (show R.width ≠ 0 by omega)
      have q4 := Int.emod_lt_of_pos (k : Int) (show 0 < R.width by omega)
      have q5 : 0 ≤ (k : Int) / R.width := Int.ediv_nonneg (by omega) (by omega)
      have q6 := row_in2 HCL.out (by omega) hlt
      go_wp2_with fail
      go_loopw [28] (fun i wr => ∃ j : Int, 0 ≤ j ∧ j ≤ 4 ∧ i = .int .i64 j ∧ Hid (∀ i : Int, 0 ≤ i → i < j → lineAt R p pl cnt k i = false) ∧ Hid (Below w0.heap.size w0 wr)) (fun i _ => (4 - intOf i).toNat)
      case atStart => exact ⟨0, by omega, by omega, rfl, Lib.hid (fun i h0 h1 => by omega), HBr⟩
      case round =>
       obtain ⟨j, hj0, hj4, rfl, HJ, HBr⟩ := hrel
       have hsz := HBr.out.size
       have hj : j = 0 ∨ j = 1 ∨ j = 2 ∨ j = 3 ∨ j = 4 := by omega
       clear hj0 hj4
       rcases hj with rfl | rfl | rfl | rfl | rfl
       · obtain ⟨wB, rfl⟩ : ∃ wB : World, wB = wr := ⟨_, rfl⟩
         have hix : ∀ w' : World, (Instr.index 210 (.agg #[.int .i64 1, .int .i64 0, .int .i64 0, .int .i64 1, .int .i64 1, .int .i64 1, .int .i64 1, .int .i64 (-1)]) (.int .i64 0)).run Tryz.prog w' = .ok (.agg #[.int .i64 (1), .int .i64 (0)]) w' := fun w' => by kernel_rfl
         go_wp2_with fail
         have hbd := (Box.new' wB wB.heap.size [.int .i64 (1), .int .i64 (0)] 209 rfl)
         have HBn := Lib.hid (HBr.out.alloc hsz (.cells #[.int .i64 (1), .int .i64 (0)] 209))
         generalize (wB.alloc (.cells #[.int .i64 (1), .int .i64 (0)] 209)) = wn at *
         have hzn := hbd.lt
         have r1 := (HB0.out.below HBn.out (by omega)).cell 1 rfl
         have HBd := Lib.hid hbd
         clear hbd
         go_quiet (fail)
         go_wp2_with fail
         clear r1
         go_loopw [13, 14, 15] (fun vx vy vn wr => ∃ (n : Nat) (X Y : Int), n ≤ cnt ∧ vn = .int .i64 n ∧ vx = .int .i64 X ∧ vy = .int .i64 Y ∧ Hid (X = (k : Int) % R.width + n * dxZ 0) ∧ Hid (Y = (k : Int) / R.width + n * dyZ 0) ∧ -1 ≤ X ∧ X ≤ 9 ∧ -1 ≤ Y ∧ Y ≤ 9 ∧ Hid (∀ i, i < n → ownZ R p pl ((k : Int) % R.width + i * dxZ 0) ((k : Int) / R.width + i * dyZ 0) = true) ∧ Hid (Below wn.heap.size wn wr)) (fun _ _ n _ => cnt - (intOf n).toNat)
         case atStart => exact ⟨0, _, _, Nat.zero_le _, rfl, rfl, rfl, Lib.hid (by simp), Lib.hid (by simp), by omega, by omega, by omega, by omega, Lib.hid (fun i hi => absurd hi (Nat.not_lt_zero _)), Lib.hid (below_drewN (Below.refl _ _) _)⟩
         case round =>
           obtain ⟨n, X, Y, hn, rfl, rfl, rfl, HX, HY, hX1, hX2, hY1, hY2, HA, HBq⟩ := hrel
           have hszq := HBq.out.size
           have HB3 := Lib.hid (below_trans HBn.out HBq.out HBn.out.size)
           by_cases hnc : n < cnt
           · have hnci : (n : Int) < (cnt : Int) := by omega
             have hcf := callOwn
             have HOW := Lib.hid (own_any R vp vs ve p ac cc v0 v1 pl X Y _ _ _ wr (HB0.out.below HB3.out (by omega)) (HB1.out.below HB3.out (by omega)) (HB2.out.below HB3.out (by omega)) (HCw.out.below HB3.out (Nat.le_refl _)) K (by omega) (by omega) (by omega) (by omega))
             go_wp2_with fail
             refine HOW.out.mono ?_
             rintro e w' ⟨rfl, rfl⟩
             cases how : ownZ R p pl X Y
             · have HF : Hid (lineAt R p pl cnt k 0 = false) := Lib.hid (by unfold lineAt; exact all_not hnc (by rw [← HX.out, ← HY.out]; exact how))
               have hne : ((n : Int) == (cnt : Int)) = false := by simp; omega
               clear how
               go_wp2_with fail
               go_roundw
               case rel => exact ⟨1, by omega, by omega, rfl, Lib.hid (fun i h0 h1 => by
                 by_cases e : i = 0
                 · subst e; exact HF.out
                 · exact HJ.out i h0 (by omega)), HB3⟩
               case measure => simp [intOf]
             · have HIN : Hid (0 ≤ X ∧ X < R.width ∧ 0 ≤ Y ∧ Y < R.height) := Lib.hid (own_in how)
               have hin := HIN.out
               have HA2 : Hid (∀ i, i < n + 1 → ownZ R p pl ((k : Int) % R.width + i * dxZ 0) ((k : Int) / R.width + i * dyZ 0) = true) := Lib.hid (fun i hi => by
                 by_cases e : i = n
                 · subst e; rw [← HX.out, ← HY.out]; exact how
                 · exact HA.out i (by omega))
               have d0 := (HBd.out.stays HBq.out).cell 0 rfl
               have d1 := (HBd.out.stays HBq.out).cell 1 rfl
               clear how
               go_wp2_with fail
               go_quiet (fail)
               go_wp2_with fail
               go_roundw
               case rel => exact ⟨n + 1, _, _, by omega, by go_num, rfl, rfl, Lib.hid (by rw [HX.out, dx_step]; simp [dxZ]; try omega), Lib.hid (by rw [HY.out, dx_step]; simp [dyZ]; try omega), by omega, by omega, by omega, by omega, HA2, Lib.hid (below_drewN HBq.out _)⟩
               case measure => simp [intOf]; omega
           · obtain rfl : n = cnt := by omega
             have HT : Hid (lineZ R p pl n = true) := Lib.hid (lineZ_true hlt (by decide) (by decide) (show lineAt R p pl n k 0 = true from by unfold lineAt; exact all_upto HA.out rfl))
             go_wp2_with fail
             go_ret
             exact ⟨by rw [HT.out]; rfl, below_trans HB.out HB3.out HB.out.size⟩
       · obtain ⟨wB, rfl⟩ : ∃ wB : World, wB = wr := ⟨_, rfl⟩
         have hix : ∀ w' : World, (Instr.index 210 (.agg #[.int .i64 1, .int .i64 0, .int .i64 0, .int .i64 1, .int .i64 1, .int .i64 1, .int .i64 1, .int .i64 (-1)]) (.int .i64 1)).run Tryz.prog w' = .ok (.agg #[.int .i64 (0), .int .i64 (1)]) w' := fun w' => by kernel_rfl
         go_wp2_with fail
         have hbd := (Box.new' wB wB.heap.size [.int .i64 (0), .int .i64 (1)] 209 rfl)
         have HBn := Lib.hid (HBr.out.alloc hsz (.cells #[.int .i64 (0), .int .i64 (1)] 209))
         generalize (wB.alloc (.cells #[.int .i64 (0), .int .i64 (1)] 209)) = wn at *
         have hzn := hbd.lt
         have r1 := (HB0.out.below HBn.out (by omega)).cell 1 rfl
         have HBd := Lib.hid hbd
         clear hbd
         go_quiet (fail)
         go_wp2_with fail
         clear r1
         go_loopw [13, 14, 15] (fun vx vy vn wr => ∃ (n : Nat) (X Y : Int), n ≤ cnt ∧ vn = .int .i64 n ∧ vx = .int .i64 X ∧ vy = .int .i64 Y ∧ Hid (X = (k : Int) % R.width + n * dxZ 1) ∧ Hid (Y = (k : Int) / R.width + n * dyZ 1) ∧ -1 ≤ X ∧ X ≤ 9 ∧ -1 ≤ Y ∧ Y ≤ 9 ∧ Hid (∀ i, i < n → ownZ R p pl ((k : Int) % R.width + i * dxZ 1) ((k : Int) / R.width + i * dyZ 1) = true) ∧ Hid (Below wn.heap.size wn wr)) (fun _ _ n _ => cnt - (intOf n).toNat)
         case atStart => exact ⟨0, _, _, Nat.zero_le _, rfl, rfl, rfl, Lib.hid (by simp), Lib.hid (by simp), by omega, by omega, by omega, by omega, Lib.hid (fun i hi => absurd hi (Nat.not_lt_zero _)), Lib.hid (below_drewN (Below.refl _ _) _)⟩
         case round =>
           obtain ⟨n, X, Y, hn, rfl, rfl, rfl, HX, HY, hX1, hX2, hY1, hY2, HA, HBq⟩ := hrel
           have hszq := HBq.out.size
           have HB3 := Lib.hid (below_trans HBn.out HBq.out HBn.out.size)
           by_cases hnc : n < cnt
           · have hnci : (n : Int) < (cnt : Int) := by omega
             have hcf := callOwn
             have HOW := Lib.hid (own_any R vp vs ve p ac cc v0 v1 pl X Y _ _ _ wr (HB0.out.below HB3.out (by omega)) (HB1.out.below HB3.out (by omega)) (HB2.out.below HB3.out (by omega)) (HCw.out.below HB3.out (Nat.le_refl _)) K (by omega) (by omega) (by omega) (by omega))
             go_wp2_with fail
             refine HOW.out.mono ?_
             rintro e w' ⟨rfl, rfl⟩
             cases how : ownZ R p pl X Y
             · have HF : Hid (lineAt R p pl cnt k 1 = false) := Lib.hid (by unfold lineAt; exact all_not hnc (by rw [← HX.out, ← HY.out]; exact how))
               have hne : ((n : Int) == (cnt : Int)) = false := by simp; omega
               clear how
               go_wp2_with fail
               go_roundw
               case rel => exact ⟨2, by omega, by omega, rfl, Lib.hid (fun i h0 h1 => by
                 by_cases e : i = 1
                 · subst e; exact HF.out
                 · exact HJ.out i h0 (by omega)), HB3⟩
               case measure => simp [intOf]
             · have HIN : Hid (0 ≤ X ∧ X < R.width ∧ 0 ≤ Y ∧ Y < R.height) := Lib.hid (own_in how)
               have hin := HIN.out
               have HA2 : Hid (∀ i, i < n + 1 → ownZ R p pl ((k : Int) % R.width + i * dxZ 1) ((k : Int) / R.width + i * dyZ 1) = true) := Lib.hid (fun i hi => by
                 by_cases e : i = n
                 · subst e; rw [← HX.out, ← HY.out]; exact how
                 · exact HA.out i (by omega))
               have d0 := (HBd.out.stays HBq.out).cell 0 rfl
               have d1 := (HBd.out.stays HBq.out).cell 1 rfl
               clear how
               go_wp2_with fail
               go_quiet (fail)
               go_wp2_with fail
               go_roundw
               case rel => exact ⟨n + 1, _, _, by omega, by go_num, rfl, rfl, Lib.hid (by rw [HX.out, dx_step]; simp [dxZ]; try omega), Lib.hid (by rw [HY.out, dx_step]; simp [dyZ]; try omega), by omega, by omega, by omega, by omega, HA2, Lib.hid (below_drewN HBq.out _)⟩
               case measure => simp [intOf]; omega
           · obtain rfl : n = cnt := by omega
             have HT : Hid (lineZ R p pl n = true) := Lib.hid (lineZ_true hlt (by decide) (by decide) (show lineAt R p pl n k 1 = true from by unfold lineAt; exact all_upto HA.out rfl))
             go_wp2_with fail
             go_ret
             exact ⟨by rw [HT.out]; rfl, below_trans HB.out HB3.out HB.out.size⟩
       · obtain ⟨wB, rfl⟩ : ∃ wB : World, wB = wr := ⟨_, rfl⟩
         have hix : ∀ w' : World, (Instr.index 210 (.agg #[.int .i64 1, .int .i64 0, .int .i64 0, .int .i64 1, .int .i64 1, .int .i64 1, .int .i64 1, .int .i64 (-1)]) (.int .i64 2)).run Tryz.prog w' = .ok (.agg #[.int .i64 (1), .int .i64 (1)]) w' := fun w' => by kernel_rfl
         go_wp2_with fail
         have hbd := (Box.new' wB wB.heap.size [.int .i64 (1), .int .i64 (1)] 209 rfl)
         have HBn := Lib.hid (HBr.out.alloc hsz (.cells #[.int .i64 (1), .int .i64 (1)] 209))
         generalize (wB.alloc (.cells #[.int .i64 (1), .int .i64 (1)] 209)) = wn at *
         have hzn := hbd.lt
         have r1 := (HB0.out.below HBn.out (by omega)).cell 1 rfl
         have HBd := Lib.hid hbd
         clear hbd
         go_quiet (fail)
         go_wp2_with fail
         clear r1
         go_loopw [13, 14, 15] (fun vx vy vn wr => ∃ (n : Nat) (X Y : Int), n ≤ cnt ∧ vn = .int .i64 n ∧ vx = .int .i64 X ∧ vy = .int .i64 Y ∧ Hid (X = (k : Int) % R.width + n * dxZ 2) ∧ Hid (Y = (k : Int) / R.width + n * dyZ 2) ∧ -1 ≤ X ∧ X ≤ 9 ∧ -1 ≤ Y ∧ Y ≤ 9 ∧ Hid (∀ i, i < n → ownZ R p pl ((k : Int) % R.width + i * dxZ 2) ((k : Int) / R.width + i * dyZ 2) = true) ∧ Hid (Below wn.heap.size wn wr)) (fun _ _ n _ => cnt - (intOf n).toNat)
         case atStart => exact ⟨0, _, _, Nat.zero_le _, rfl, rfl, rfl, Lib.hid (by simp), Lib.hid (by simp), by omega, by omega, by omega, by omega, Lib.hid (fun i hi => absurd hi (Nat.not_lt_zero _)), Lib.hid (below_drewN (Below.refl _ _) _)⟩
         case round =>
           obtain ⟨n, X, Y, hn, rfl, rfl, rfl, HX, HY, hX1, hX2, hY1, hY2, HA, HBq⟩ := hrel
           have hszq := HBq.out.size
           have HB3 := Lib.hid (below_trans HBn.out HBq.out HBn.out.size)
           by_cases hnc : n < cnt
           · have hnci : (n : Int) < (cnt : Int) := by omega
             have hcf := callOwn
             have HOW := Lib.hid (own_any R vp vs ve p ac cc v0 v1 pl X Y _ _ _ wr (HB0.out.below HB3.out (by omega)) (HB1.out.below HB3.out (by omega)) (HB2.out.below HB3.out (by omega)) (HCw.out.below HB3.out (Nat.le_refl _)) K (by omega) (by omega) (by omega) (by omega))
             go_wp2_with fail
             refine HOW.out.mono ?_
             rintro e w' ⟨rfl, rfl⟩
             cases how : ownZ R p pl X Y
             · have HF : Hid (lineAt R p pl cnt k 2 = false) := Lib.hid (by unfold lineAt; exact all_not hnc (by rw [← HX.out, ← HY.out]; exact how))
               have hne : ((n : Int) == (cnt : Int)) = false := by simp; omega
               clear how
               go_wp2_with fail
               go_roundw
               case rel => exact ⟨3, by omega, by omega, rfl, Lib.hid (fun i h0 h1 => by
                 by_cases e : i = 2
                 · subst e; exact HF.out
                 · exact HJ.out i h0 (by omega)), HB3⟩
               case measure => simp [intOf]
             · have HIN : Hid (0 ≤ X ∧ X < R.width ∧ 0 ≤ Y ∧ Y < R.height) := Lib.hid (own_in how)
               have hin := HIN.out
               have HA2 : Hid (∀ i, i < n + 1 → ownZ R p pl ((k : Int) % R.width + i * dxZ 2) ((k : Int) / R.width + i * dyZ 2) = true) := Lib.hid (fun i hi => by
                 by_cases e : i = n
                 · subst e; rw [← HX.out, ← HY.out]; exact how
                 · exact HA.out i (by omega))
               have d0 := (HBd.out.stays HBq.out).cell 0 rfl
               have d1 := (HBd.out.stays HBq.out).cell 1 rfl
               clear how
               go_wp2_with fail
               go_quiet (fail)
               go_wp2_with fail
               go_roundw
               case rel => exact ⟨n + 1, _, _, by omega, by go_num, rfl, rfl, Lib.hid (by rw [HX.out, dx_step]; simp [dxZ]; try omega), Lib.hid (by rw [HY.out, dx_step]; simp [dyZ]; try omega), by omega, by omega, by omega, by omega, HA2, Lib.hid (below_drewN HBq.out _)⟩
               case measure => simp [intOf]; omega
           · obtain rfl : n = cnt := by omega
             have HT : Hid (lineZ R p pl n = true) := Lib.hid (lineZ_true hlt (by decide) (by decide) (show lineAt R p pl n k 2 = true from by unfold lineAt; exact all_upto HA.out rfl))
             go_wp2_with fail
             go_ret
             exact ⟨by rw [HT.out]; rfl, below_trans HB.out HB3.out HB.out.size⟩
       · obtain ⟨wB, rfl⟩ : ∃ wB : World, wB = wr := ⟨_, rfl⟩
         have hix : ∀ w' : World, (Instr.index 210 (.agg #[.int .i64 1, .int .i64 0, .int .i64 0, .int .i64 1, .int .i64 1, .int .i64 1, .int .i64 1, .int .i64 (-1)]) (.int .i64 3)).run Tryz.prog w' = .ok (.agg #[.int .i64 (1), .int .i64 (-1)]) w' := fun w' => by kernel_rfl
         go_wp2_with fail
         have hbd := (Box.new' wB wB.heap.size [.int .i64 (1), .int .i64 (-1)] 209 rfl)
         have HBn := Lib.hid (HBr.out.alloc hsz (.cells #[.int .i64 (1), .int .i64 (-1)] 209))
         generalize (wB.alloc (.cells #[.int .i64 (1), .int .i64 (-1)] 209)) = wn at *
         have hzn := hbd.lt
         have r1 := (HB0.out.below HBn.out (by omega)).cell 1 rfl
         have HBd := Lib.hid hbd
         clear hbd
         go_quiet (fail)
         go_wp2_with fail
         clear r1
         go_loopw [13, 14, 15] (fun vx vy vn wr => ∃ (n : Nat) (X Y : Int), n ≤ cnt ∧ vn = .int .i64 n ∧ vx = .int .i64 X ∧ vy = .int .i64 Y ∧ Hid (X = (k : Int) % R.width + n * dxZ 3) ∧ Hid (Y = (k : Int) / R.width + n * dyZ 3) ∧ -1 ≤ X ∧ X ≤ 9 ∧ -1 ≤ Y ∧ Y ≤ 9 ∧ Hid (∀ i, i < n → ownZ R p pl ((k : Int) % R.width + i * dxZ 3) ((k : Int) / R.width + i * dyZ 3) = true) ∧ Hid (Below wn.heap.size wn wr)) (fun _ _ n _ => cnt - (intOf n).toNat)
         case atStart => exact ⟨0, _, _, Nat.zero_le _, rfl, rfl, rfl, Lib.hid (by simp), Lib.hid (by simp), by omega, by omega, by omega, by omega, Lib.hid (fun i hi => absurd hi (Nat.not_lt_zero _)), Lib.hid (below_drewN (Below.refl _ _) _)⟩
         case round =>
           obtain ⟨n, X, Y, hn, rfl, rfl, rfl, HX, HY, hX1, hX2, hY1, hY2, HA, HBq⟩ := hrel
           have hszq := HBq.out.size
           have HB3 := Lib.hid (below_trans HBn.out HBq.out HBn.out.size)
           by_cases hnc : n < cnt
           · have hnci : (n : Int) < (cnt : Int) := by omega
             have hcf := callOwn
             have HOW := Lib.hid (own_any R vp vs ve p ac cc v0 v1 pl X Y _ _ _ wr (HB0.out.below HB3.out (by omega)) (HB1.out.below HB3.out (by omega)) (HB2.out.below HB3.out (by omega)) (HCw.out.below HB3.out (Nat.le_refl _)) K (by omega) (by omega) (by omega) (by omega))
             go_wp2_with fail
             refine HOW.out.mono ?_
             rintro e w' ⟨rfl, rfl⟩
             cases how : ownZ R p pl X Y
             · have HF : Hid (lineAt R p pl cnt k 3 = false) := Lib.hid (by unfold lineAt; exact all_not hnc (by rw [← HX.out, ← HY.out]; exact how))
               have hne : ((n : Int) == (cnt : Int)) = false := by simp; omega
               clear how
               go_wp2_with fail
               go_roundw
               case rel => exact ⟨4, by omega, by omega, rfl, Lib.hid (fun i h0 h1 => by
                 by_cases e : i = 3
                 · subst e; exact HF.out
                 · exact HJ.out i h0 (by omega)), HB3⟩
               case measure => simp [intOf]
             · have HIN : Hid (0 ≤ X ∧ X < R.width ∧ 0 ≤ Y ∧ Y < R.height) := Lib.hid (own_in how)
               have hin := HIN.out
               have HA2 : Hid (∀ i, i < n + 1 → ownZ R p pl ((k : Int) % R.width + i * dxZ 3) ((k : Int) / R.width + i * dyZ 3) = true) := Lib.hid (fun i hi => by
                 by_cases e : i = n
                 · subst e; rw [← HX.out, ← HY.out]; exact how
                 · exact HA.out i (by omega))
               have d0 := (HBd.out.stays HBq.out).cell 0 rfl
               have d1 := (HBd.out.stays HBq.out).cell 1 rfl
               clear how
               go_wp2_with fail
               go_quiet (fail)
               go_wp2_with fail
               go_roundw
               case rel => exact ⟨n + 1, _, _, by omega, by go_num, rfl, rfl, Lib.hid (by rw [HX.out, dx_step]; simp [dxZ]; try omega), Lib.hid (by rw [HY.out, dx_step]; simp [dyZ]; try omega), by omega, by omega, by omega, by omega, HA2, Lib.hid (below_drewN HBq.out _)⟩
               case measure => simp [intOf]; omega
           · obtain rfl : n = cnt := by omega
             have HT : Hid (lineZ R p pl n = true) := Lib.hid (lineZ_true hlt (by decide) (by decide) (show lineAt R p pl n k 3 = true from by unfold lineAt; exact all_upto HA.out rfl))
             go_wp2_with fail
             go_ret
             exact ⟨by rw [HT.out]; rfl, below_trans HB.out HB3.out HB.out.size⟩
       · go_wp2_with fail
         go_roundw
         case rel => exact ⟨k + 1, by omega, by go_num, Lib.hid (fun s hs i h0 h1 => by
          by_cases e : s = k
          · subst e; exact HJ.out i h0 h1
          · exact HF1.out s (by omega) i h0 h1), HBr⟩
         case measure => simp [intOf]; omega
    · have HE : Hid (lineZ R p pl cnt = false) := Lib.hid (lineZ_false (fun s hs => HF1.out s (by omega)))
      go_wp2_with fail
      go_ret
      exact ⟨by rw [HE.out]; rfl, below_trans HB.out HBr.out HB.out.size⟩
end Go.Proofs.YthklhndcdijneaaGreatDoor

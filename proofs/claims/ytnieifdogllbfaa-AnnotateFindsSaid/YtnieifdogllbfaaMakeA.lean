/- The contract of moves.Make. -/
import Derived.Test.YtnieifdogllbfaaCopy
import Derived.StillTailTactics
import Derived.Test.YtnieifdogllbfaaHeldL
namespace Go.Proofs.Ytnieifdogllbfaa
open Go.ChangeShapes Go.WideShapes Go.ChangeAt Go.RowKit
set_option linter.unusedVariables false

/-- the position after a move. -/
def PosZ.setHand (p : PosZ) (l : List Int) : PosZ := if p.turn = 0 then { p with h0 := l } else { p with h1 := l }
def makeHand (R : RulesZ) (p : PosZ) (m : MoveZ) : List Int :=
  let h1 := if 0 ≤ m.src then p.hand p.turn else (p.hand p.turn).set m.piece.toNat ((p.hand p.turn).getD m.piece.toNat 0 - 1)
  let took := p.cells.getD m.dst.toNat 0
  if 0 < took ∧ R.keeps = true then h1.set ((took - 1) / 2).toNat (if 1000 < h1.getD ((took - 1) / 2).toNat 0 + 1 then 1000 else h1.getD ((took - 1) / 2).toNat 0 + 1) else h1
def makeCells (p : PosZ) (m : MoveZ) : List Int := (if 0 ≤ m.src then p.cells.set m.src.toNat 0 else p.cells).set m.dst.toNat (2 * m.piece + p.turn + 1)
def makeZ (R : RulesZ) (p : PosZ) (m : MoveZ) : PosZ :=
  ⟨makeCells p m, if p.turn = 0 then makeHand R p m else p.h0, if p.turn = 0 then p.h1 else makeHand R p m, 1 - p.turn,
    if 0 < p.cells.getD m.dst.toNat 0 ∨ m.src < 0 then 0 else if 200 < p.quiet + 1 then 200 else p.quiet + 1⟩
/-- rows c, h0, h1 in memory, apart, and the box that names them. -/
structure Hold (base : Nat) (w : World) (b : Nat) (cs l0 l1 : List Int) (vc v0 v1 : Value) (tu qu : Int) : Prop where
  box : Box w b [vc, v0, v1, .int .i64 tu, .int .i64 qu] 43
  oc : w.ownsRow base 3 1 vc cs.length (ints cs)
  o0 : w.ownsRow base 3 1 v0 l0.length (ints l0)
  o1 : w.ownsRow base 3 1 v1 l1.length (ints l1)
  c0 : vc.ownBlock = none ∨ vc.ownBlock ≠ v0.ownBlock
  c1 : vc.ownBlock = none ∨ vc.ownBlock ≠ v1.ownBlock
  d01 : v0.ownBlock = none ∨ v0.ownBlock ≠ v1.ownBlock
  bb : ∀ k, (vc.ownBlock = some k ∨ v0.ownBlock = some k ∨ v1.ownBlock = some k) → k ≠ b
section
variable {base b : Nat} {w : World} {cs l0 l1 : List Int} {vc v0 v1 : Value} {tu qu : Int}
theorem row_set {v : Value} {xs : List Int} {g c : Nat} (h : w.ownsRow base 3 1 v xs.length (ints xs)) (hv : v = .slice (some ⟨g, 0, none⟩) xs.length c) (i : Nat) (z : Int) :
    (w.setCell ⟨g, i, none⟩ (.int .i64 z)).ownsRow base 3 1 v (xs.set i z).length (ints (xs.set i z)) := by
  subst hv
  have := (h.stored i (.int .i64 z)).1
  rw [ints_set] at this
  rw [List.length_set]
  exact this
theorem row_far {v : Value} {xs : List Int} {n : Nat} (h : w.ownsRow base 3 1 v n (ints xs)) {p : Addr} (hne : v.ownBlock = none ∨ v.ownBlock ≠ some p.block) (u : Value) : (w.setCell p u).ownsRow base 3 1 v n (ints xs) :=
  h.kept (setG w p u) hne
theorem Hold.setC {g c : Nat} (h : Hold base w b cs l0 l1 vc v0 v1 tu qu) (hv : vc = .slice (some ⟨g, 0, none⟩) cs.length c) (i : Nat) (z : Int) : Hold base (w.setCell ⟨g, i, none⟩ (.int .i64 z)) b (cs.set i z) l0 l1 vc v0 v1 tu qu :=
  have e : vc.ownBlock = some g := by rw [hv]; rfl
  ⟨h.box.far _ _ (fun q => h.bb g (.inl e) q.symm), row_set h.oc hv i z, row_far h.o0 (by have := apart_swap h.c0; rw [e] at this; exact this) _, row_far h.o1 (by have := apart_swap h.c1; rw [e] at this; exact this) _, h.c0, h.c1, h.d01, h.bb⟩
theorem Hold.set0 {g c : Nat} (h : Hold base w b cs l0 l1 vc v0 v1 tu qu) (hv : v0 = .slice (some ⟨g, 0, none⟩) l0.length c) (i : Nat) (z : Int) : Hold base (w.setCell ⟨g, i, none⟩ (.int .i64 z)) b cs (l0.set i z) l1 vc v0 v1 tu qu :=
  have e : v0.ownBlock = some g := by rw [hv]; rfl
  ⟨h.box.far _ _ (fun q => h.bb g (.inr (.inl e)) q.symm), row_far h.oc (by have := h.c0; rw [e] at this; exact this) _, row_set h.o0 hv i z, row_far h.o1 (by have := apart_swap h.d01; rw [e] at this; exact this) _, h.c0, h.c1, h.d01, h.bb⟩
theorem Hold.set1 {g c : Nat} (h : Hold base w b cs l0 l1 vc v0 v1 tu qu) (hv : v1 = .slice (some ⟨g, 0, none⟩) l1.length c) (i : Nat) (z : Int) : Hold base (w.setCell ⟨g, i, none⟩ (.int .i64 z)) b cs l0 (l1.set i z) vc v0 v1 tu qu :=
  have e : v1.ownBlock = some g := by rw [hv]; rfl
  ⟨h.box.far _ _ (fun q => h.bb g (.inr (.inr e)) q.symm), row_far h.oc (by have := h.c1; rw [e] at this; exact this) _, row_far h.o0 (by have := h.d01; rw [e] at this; exact this) _, row_set h.o1 hv i z, h.c0, h.c1, h.d01, h.bb⟩
theorem Hold.setT (h : Hold base w b cs l0 l1 vc v0 v1 tu qu) (z : Int) : Hold base (w.setCell ⟨b, 3, none⟩ (.int .i64 z)) b cs l0 l1 vc v0 v1 z qu :=
  have f : ∀ v : Value, (∀ k, v.ownBlock = some k → k ≠ b) → v.ownBlock = none ∨ v.ownBlock ≠ some b := fun v hv => by
    cases q : v.ownBlock with
    | none => exact .inl rfl
    | some k => exact .inr (fun e => hv k q (by simpa using e))
  ⟨h.box.set 3 _, row_far h.oc (f _ fun k q => h.bb k (.inl q)) _, row_far h.o0 (f _ fun k q => h.bb k (.inr (.inl q))) _, row_far h.o1 (f _ fun k q => h.bb k (.inr (.inr q))) _, h.c0, h.c1, h.d01, h.bb⟩
theorem Hold.setQ (h : Hold base w b cs l0 l1 vc v0 v1 tu qu) (z : Int) : Hold base (w.setCell ⟨b, 4, none⟩ (.int .i64 z)) b cs l0 l1 vc v0 v1 tu z :=
  have f : ∀ v : Value, (∀ k, v.ownBlock = some k → k ≠ b) → v.ownBlock = none ∨ v.ownBlock ≠ some b := fun v hv => by
    cases q : v.ownBlock with
    | none => exact .inl rfl
    | some k => exact .inr (fun e => hv k q (by simpa using e))
  ⟨h.box.set 4 _, row_far h.oc (f _ fun k q => h.bb k (.inl q)) _, row_far h.o0 (f _ fun k q => h.bb k (.inr (.inl q))) _, row_far h.o1 (f _ fun k q => h.bb k (.inr (.inr q))) _, h.c0, h.c1, h.d01, h.bb⟩
theorem Hold.drew (h : Hold base w b cs l0 l1 vc v0 v1 tu qu) : Hold base w.drew b cs l0 l1 vc v0 v1 tu qu := ⟨h.box, h.oc, h.o0, h.o1, h.c0, h.c1, h.d01, h.bb⟩
theorem row_at {v : Value} {xs : List Int} (h : w.ownsRow base 3 1 v xs.length (ints xs)) (hn : 0 < xs.length) : ∃ g c, v = .slice (some ⟨g, 0, none⟩) xs.length c ∧ g < w.heap.size ∧ base ≤ g ∧
    (∀ i, i < xs.length → w.cell? ⟨g, i, none⟩ = some (.int .i64 (xs.getD i 0))) ∧ (∀ i, w.frozen? ⟨g, i, none⟩ = false) := by
  obtain ⟨g, c, rfl⟩ := own_some h hn
  exact ⟨g, c, rfl, (h.lt g rfl).2, (h.lt g rfl).1, fun i hi => (h.cellAt i (by omega)).trans (ints_get _ _ hi), fun i => h.frozenAt i⟩
end
def L0 (t : Int) (l a : List Int) : List Int := if t = 0 then l else a
def L1 (t : Int) (l c : List Int) : List Int := if t = 0 then c else l
theorem Hold.setH {base b : Nat} {w : World} {cs l a c : List Int} {vc v0 v1 : Value} {tu qu t : Int} {g cp : Nat} (h : Hold base w b cs (L0 t l a) (L1 t l c) vc v0 v1 tu qu) (hv : (if t = 0 then v0 else v1) = .slice (some ⟨g, 0, none⟩) l.length cp) (i : Nat) (z : Int) :
    Hold base (w.setCell ⟨g, i, none⟩ (.int .i64 z)) b cs (L0 t (l.set i z) a) (L1 t (l.set i z) c) vc v0 v1 tu qu := by
  unfold L0 L1 at *
  by_cases e : t = 0
  · simp only [if_pos e] at *
    exact h.set0 hv i z
  · simp only [if_neg e] at *
    exact h.set1 hv i z
theorem Hold.oh {base b : Nat} {w : World} {cs l a c : List Int} {vc v0 v1 : Value} {tu qu t : Int} (h : Hold base w b cs (L0 t l a) (L1 t l c) vc v0 v1 tu qu) : w.ownsRow base 3 1 (if t = 0 then v0 else v1) l.length (ints l) := by
  by_cases e : t = 0
  · have := h.o0; unfold L0 at this; rw [if_pos e] at *; exact this
  · have := h.o1; unfold L1 at this; rw [if_neg e] at *; exact this
theorem Hold.ch {base b : Nat} {w : World} {cs l0 l1 : List Int} {vc v0 v1 : Value} {tu qu t : Int} (h : Hold base w b cs l0 l1 vc v0 v1 tu qu) (h0 : 0 ≤ t) (h1 : t ≤ 1) : w.cell? ⟨b, 1 + t.toNat, none⟩ = some (if t = 0 then v0 else v1) := by
  by_cases e : t = 0
  · rw [if_pos e, e]; exact h.box.cell 1 rfl
  · have e1 : t = 1 := by omega
    rw [if_neg e, e1]; exact h.box.cell 2 rfl
def MakePost (R : RulesZ) (p : PosZ) (m : MoveZ) (w : World) (e : Ending) (w' : World) : Prop := ∃ vc v0 v1, e = .returned (posV (makeZ R p m) vc v0 v1) ∧ OwnP w.heap.size w' (makeZ R p m) vc v0 v1 ∧ Below w.heap.size w w'
theorem OwnP.setCells {base b : Nat} {w : World} {p : PosZ} {vc v0 v1 : Value} (h : OwnP base w p vc v0 v1) (hb : b < base) (o : Nat) (vs : List Value) : OwnP base (w.setCells b o vs) p vc v0 v1 :=
  ⟨own_setCells h.1 hb o vs, own_setCells h.2.1 hb o vs, own_setCells h.2.2.1 hb o vs, h.2.2.2⟩
/-- a move within the board and the types. -/
structure Fits (R : RulesZ) (p : PosZ) (m : MoveZ) : Prop where
  d : 0 ≤ m.dst ∧ m.dst < p.cells.length
  s : -1 ≤ m.src ∧ m.src < p.cells.length
  k : 0 ≤ m.piece ∧ m.piece < R.pieces.length

end Go.Proofs.Ytnieifdogllbfaa

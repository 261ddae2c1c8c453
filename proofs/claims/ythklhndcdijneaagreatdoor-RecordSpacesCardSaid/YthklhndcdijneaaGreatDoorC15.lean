/- GmA: Play, Priv, GameA, GameN, Clone, GameP, in one text. -/
import Derived.Test.YthklhndcdijneaaGreatDoorC13
import Derived.Test.YthklhndcdijneaaGreatDoorC05
import Derived.Test.YthklhndcdijneaaGreatDoorC09
import Derived.Test.YthklhndcdijneaaGreatDoorC12
import Derived.Test.YthklhndcdijneaaGreatDoorC14
import Derived.Test.YthklhndcdijneaaGreatDoorC11
import Derived.Test.YthklhndcdijneaaGreatDoorC04
import Derived.Test.YthklhndcdijneaaGreatDoorC01
/- Moves one after the other, as plain data. -/
namespace Go.Proofs.YthklhndcdijneaaGreatDoor
set_option linter.unusedVariables false
set_option maxHeartbeats 4000000
set_option maxRecDepth 100000
def posAt (R : RulesZ) (p : PosZ) (ms : List MoveZ) : PosZ := ms.foldl (makeZ R) p
theorem posAt_snoc (R : RulesZ) (p : PosZ) (ms : List MoveZ) (m : MoveZ) : posAt R p (ms ++ [m]) = makeZ R (posAt R p ms) m := by simp [posAt]
theorem posAt_take (R : RulesZ) (p : PosZ) (ms : List MoveZ) (k : Nat) (h : k < ms.length) : posAt R p (ms.take (k + 1)) = makeZ R (posAt R p (ms.take k)) (ms.getD k default) := by
 rw [List.take_succ_eq_append_getElem h, posAt_snoc, List.getD_eq_getElem?_getD, List.getElem?_eq_getElem h]; rfl
def LegalAll (R : RulesZ) (p : PosZ) (ms : List MoveZ) : Prop := ∀ k, k < ms.length → ms.getD k default ∈ listZ R (posAt R p (ms.take k))
theorem LegalAll.nil (R : RulesZ) (p : PosZ) : LegalAll R p [] := fun k h => by simp at h
theorem LegalAll.snoc {R : RulesZ} {p : PosZ} {ms : List MoveZ} {m : MoveZ} (h : LegalAll R p ms) (hm : m ∈ listZ R (posAt R p ms)) : LegalAll R p (ms ++ [m]) := by
 intro k hk
 simp at hk
 rcases Nat.lt_or_ge k ms.length with e | e
 ·rw [List.take_append_of_le_length (by omega), show (ms ++ [m]).getD k default = ms.getD k default by simp [List.getD_eq_getElem?_getD, List.getElem?_append_left e]]
  exact h k e
 ·obtain rfl : k = ms.length := by omega
  rw [List.take_left, show (ms ++ [m]).getD ms.length default = m by simp [List.getD_eq_getElem?_getD]]
  exact hm
theorem posAt_ok {R : RulesZ} {p : PosZ} {ms : List MoveZ} (K : POk R p) (h : LegalAll R p ms) (k : Nat) (hk : k ≤ ms.length) : POk R (posAt R p (ms.take k)) := by
 induction k with
 | zero => exact K
 | succ k ih =>
  rw [posAt_take R p ms k (by omega)]
  exact make_ok (ih (by omega)) (h k (by omega))
end Go.Proofs.YthklhndcdijneaaGreatDoor
/- Objects that live behind a pointer: the blocks that they may write (Priv), and what stays as it was. -/
namespace Go.Proofs.YthklhndcdijneaaGreatDoor
open Go.ChangeShapes Go.WideShapes Go.ChangeAt Go.RowKit
set_option linter.unusedVariables false
set_option maxHeartbeats 4000000
set_option maxRecDepth 100000
/-- all blocks but the private ones are as they were. -/
structure Fr (S : Nat → Prop) (w w' : World) : Prop where
 os : w'.os = w.os
 tape : w'.tape = w.tape
 output : w'.output = w.output
 size : w.heap.size ≤ w'.heap.size
 block : ∀ k, k < w.heap.size → ¬ S k → w'.heap[k]? = w.heap[k]?
theorem Fr.refl (S : Nat → Prop) (w : World) : Fr S w w := ⟨rfl, rfl, rfl, Nat.le_refl _, fun _ _ _ => rfl⟩
/-- what S' has more than S is new. -/
def Shr (w : World) (S S' : Nat → Prop) : Prop := ∀ k, k < w.heap.size → S' k → S k
theorem Shr.refl (w : World) (S : Nat → Prop) : Shr w S S := fun _ _ h => h
theorem Shr.trans {w w' : World} {S S' S'' : Nat → Prop} (h : Shr w S S') (h' : Shr w' S' S'') (hs : w.heap.size ≤ w'.heap.size) : Shr w S S'' := fun k hk h2 => h k hk (h' k (by omega) h2)
theorem Fr.trans {S S' : Nat → Prop} {a b c : World} (h : Fr S a b) (k : Fr S' b c) (hs : Shr a S S') : Fr S a c :=
 ⟨k.os.trans h.os, k.tape.trans h.tape, k.output.trans h.output, Nat.le_trans h.size k.size, fun i hi hn => (k.block i (Nat.lt_of_lt_of_le hi h.size) (fun e => hn (hs i hi e))).trans (h.block i hi hn)⟩
theorem Fr.mono {S S' : Nat → Prop} {w w' : World} (h : Fr S w w') (hs : ∀ k, k < w.heap.size → S k → S' k) : Fr S' w w' := ⟨h.os, h.tape, h.output, h.size, fun k hk hn => h.block k hk (fun e => hn (hs k hk e))⟩
theorem Fr.of_below {S : Nat → Prop} {B : Nat} {w w' : World} (h : Below B w w') (hS : ∀ k, k < w.heap.size → B ≤ k → S k) : Fr S w w' :=
 ⟨h.os, h.tape, h.output, h.size, fun k hk hn => h.block k (by rcases Nat.lt_or_ge k B with e | e; exact e; exact absurd (hS k hk e) hn)⟩
theorem Fr.of_new {S : Nat → Prop} {w w' : World} (h : Below w.heap.size w w') : Fr S w w' := Fr.of_below h (fun k hk hb => by omega)
theorem Fr.below {S : Nat → Prop} {B : Nat} {w w' : World} (h : Fr S w w') (hS : ∀ k, S k → B ≤ k) (hB : B ≤ w.heap.size) : Below B w w' :=
 ⟨h.os, h.tape, h.output, h.size, fun k hk => h.block k (by omega) (fun e => by have := hS k e; omega)⟩
theorem Fr.drew {S : Nat → Prop} {w w' : World} (h : Fr S w w') : Fr S w w'.drew := ⟨h.os, h.tape, h.output, h.size, h.block⟩
theorem Fr.drewN {S : Nat → Prop} {w w' : World} (h : Fr S w w') (n : Nat) : Fr S w (w'.drewN n) := ⟨h.os, h.tape, h.output, h.size, h.block⟩
theorem Fr.alloc {S : Nat → Prop} {w w' : World} (h : Fr S w w') (o : Obj) : Fr S w (w'.alloc o) :=
 h.trans (S' := S) (Fr.of_new ((Below.refl _ _).alloc (Nat.le_refl _) o)) (Shr.refl _ _)
theorem Fr.grown {S : Nat → Prop} {a w w' : World} {row : Option Nat} (h : Fr S a w) (hg : w.grownBy w' row) (hr : ∀ k, row = some k → k < a.heap.size → S k) : Fr S a w' :=
 ⟨hg.os.trans h.os, hg.tape.trans h.tape, hg.output.trans h.output, Nat.le_trans h.size hg.size, fun k hk hn =>
  (hg.block k (Nat.lt_of_lt_of_le hk h.size) (fun e => hn (hr k e.symm hk))).trans (h.block k hk hn)⟩
theorem Fr.setCell {S : Nat → Prop} {a w : World} (h : Fr S a w) {p : Addr} (hp : S p.block) (u : Value) : Fr S a (w.setCell p u) :=
 ⟨h.os, h.tape, h.output, by simpa [World.setCell] using h.size, fun k hk hn => (Below.heap_setCell _ _ _ _ (fun e => hn (by rw [e]; exact hp))).trans (h.block k hk hn)⟩
theorem Fr.setCells {S : Nat → Prop} {a w : World} (h : Fr S a w) {b : Nat} (hp : S b) (o : Nat) (vs : List Value) : Fr S a (w.setCells b o vs) :=
 ⟨(rest_setCells b vs o w).1.trans h.os, (rest_setCells b vs o w).2.1.trans h.tape, (rest_setCells b vs o w).2.2.trans h.output, by rw [size_setCells]; exact h.size,
  fun k hk hn => (heap_setCells b vs o w k (fun e => hn (by rw [e]; exact hp))).trans (h.block k hk hn)⟩
/-- what holds now and whatever is written into the private blocks. -/
def Held (S : Nat → Prop) (w : World) (D : World → Prop) : Prop := ∀ w', Fr S w w' → D w'
theorem Held.now {S : Nat → Prop} {w : World} {D : World → Prop} (h : Held S w D) : D w := h w (Fr.refl _ _)
theorem Held.step {S S' : Nat → Prop} {w w1 : World} {D : World → Prop} (h : Held S w D) (hf : Fr S w w1) (hs : Shr w S S') : Held S' w1 D := fun w' hw => h w' (hf.trans hw hs)
theorem Held.imp {S : Nat → Prop} {w : World} {D D' : World → Prop} (h : Held S w D) (hd : ∀ w', D w' → D' w') : Held S w D' := fun w' hw => hd w' (h w' hw)
theorem Held.old {S : Nat → Prop} {B : Nat} {w : World} {D : World → Prop} (h : ∀ w', Below B w w' → D w') (hS : ∀ k, S k → B ≤ k) (hB : B ≤ w.heap.size) : Held S w D := fun w' hw => h w' (hw.below hS hB)
/-- a row that is not private. -/
theorem own_held {S : Nat → Prop} {w w' : World} {base : Nat} {e : TypeId} {sz n : Nat} {v : Value} {xs : List Value} (h : w.ownsRow base e sz v n xs) (hf : Fr S w w') (hS : ∀ k, v.ownBlock = some k → ¬ S k) : w'.ownsRow base e sz v n xs := by
 refine ⟨h.1, ?_⟩
 rcases h.2 with h0 | ⟨g, cap, cur, rfl, hb, hg, r⟩
 ·exact .inl h0
 ·have hlt : g < w.heap.size := by
   by_cases hh : g < w.heap.size
   ·exact hh
   ·rw [Array.getElem?_eq_none (by omega)] at hg
    cases hg
  exact .inr ⟨g, cap, cur, rfl, hb, (hf.block g hlt (hS g rfl)).trans hg, r⟩
theorem own_new {S : Nat → Prop} {w : World} {base : Nat} {e : TypeId} {sz n : Nat} {v : Value} {xs : List Value} (h : w.ownsRow base e sz v n xs) (hS : ∀ k, base ≤ k → k < w.heap.size → ¬ S k) : Held S w fun w' => w'.ownsRow base e sz v n xs :=
 fun w' hw => own_held h hw (fun k hk => hS k (h.lt k hk).1 (h.lt k hk).2)
theorem ownP_held {S : Nat → Prop} {w : World} {base : Nat} {p : PosZ} {vc v0 v1 : Value} (h : OwnP base w p vc v0 v1) (hS : ∀ k, base ≤ k → k < w.heap.size → ¬ S k) : Held S w fun w' => OwnP base w' p vc v0 v1 :=
 fun w' hw => ⟨own_new h.1 hS w' hw, own_new h.2.1 hS w' hw, own_new h.2.2.1 hS w' hw, h.2.2.2⟩
theorem Box.held {S : Nat → Prop} {w w' : World} {b : Nat} {cs : List Value} {t : TypeId} (h : Box w b cs t) (hf : Fr S w w') (hS : ¬ S b) : Box w' b cs t := (hf.block b h.lt hS).trans h
end Go.Proofs.YthklhndcdijneaaGreatDoor
/- A game of plain, in memory. -/
namespace Go.Proofs.YthklhndcdijneaaGreatDoor
open Go.ChangeShapes Go.WideShapes Go.ChangeAt Go.RowKit
set_option linter.unusedVariables false
set_option maxHeartbeats 4000000
set_option maxRecDepth 100000
structure PosV where
 p : PosZ
 vc : Value
 v0 : Value
 v1 : Value
deriving Inhabited
def flatV (l : List PosV) : List Value := l.flatMap fun r => [r.vc, r.v0, r.v1, .int .i64 r.p.turn, .int .i64 r.p.quiet]
theorem flatV_cons (r : PosV) (t : List PosV) : flatV (r :: t) = r.vc :: r.v0 :: r.v1 :: .int .i64 r.p.turn :: .int .i64 r.p.quiet :: flatV t := rfl
theorem flatV_append (l : List PosV) (r : PosV) : flatV l ++ [r.vc, r.v0, r.v1, .int .i64 r.p.turn, .int .i64 r.p.quiet] = flatV (l ++ [r]) := by simp [flatV]
theorem flatV_at : ∀ (l : List PosV) (i : Nat) (h : i < l.length), (flatV l)[i * 5]? = some (l.getD i default).vc ∧ (flatV l)[i * 5 + 1]? = some (l.getD i default).v0 ∧ (flatV l)[i * 5 + 2]? = some (l.getD i default).v1 ∧
  (flatV l)[i * 5 + 3]? = some (.int .i64 (l.getD i default).p.turn) ∧ (flatV l)[i * 5 + 4]? = some (.int .i64 (l.getD i default).p.quiet)
 | r :: t, 0, _ => by rw [flatV_cons]; simp
 | r :: t, i + 1, h => by
  obtain ⟨a, b, c, d, e⟩ := flatV_at t i (by simpa using h)
  rw [flatV_cons, show (i + 1) * 5 = i * 5 + 1 + 1 + 1 + 1 + 1 by omega, show i * 5 + 1 + 1 + 1 + 1 + 1 + 2 = i * 5 + 2 + 1 + 1 + 1 + 1 + 1 by omega, show i * 5 + 1 + 1 + 1 + 1 + 1 + 3 = i * 5 + 3 + 1 + 1 + 1 + 1 + 1 by omega, show i * 5 + 1 + 1 + 1 + 1 + 1 + 4 = i * 5 + 4 + 1 + 1 + 1 + 1 + 1 by omega]
  simp only [List.getElem?_cons_succ, List.getD_cons_succ]
  exact ⟨a, b, c, d, e⟩
/-- the positions of a game. -/
def psOf (R : RulesZ) (ms : List MoveZ) : List PosZ := (List.range (ms.length + 1)).map fun k => posAt R (beginZ R) (ms.take k)
def nowZ (R : RulesZ) (ms : List MoveZ) : PosZ := posAt R (beginZ R) ms
theorem psOf_len (R : RulesZ) (ms : List MoveZ) : (psOf R ms).length = ms.length + 1 := by simp [psOf]
theorem psOf_get (R : RulesZ) (ms : List MoveZ) (k : Nat) (h : k ≤ ms.length) : (psOf R ms).getD k default = posAt R (beginZ R) (ms.take k) := by
 rw [List.getD_eq_getElem?_getD, List.getElem?_eq_getElem (by rw [psOf_len]; omega)]
 simp [psOf]
theorem psOf_snoc (R : RulesZ) (ms : List MoveZ) (m : MoveZ) : psOf R (ms ++ [m]) = psOf R ms ++ [makeZ R (nowZ R ms) m] := by
 unfold psOf nowZ
 rw [List.length_append, List.length_singleton, List.range_succ, List.map_append]
 congr 1
 ·apply List.map_congr_left
  intro k hk
  rw [List.take_append_of_le_length (by simpa [Nat.lt_succ_iff] using hk)]
 ·rw [List.map_singleton, List.take_of_length_le (by simp), posAt_snoc]
theorem begin_ok {R : RulesZ} (h : rulesErr R = 0) : POk R (beginZ R) := by
 have hr := rok_of h
 have hh : ∀ c ∈ R.pieces.map (·.hand), 0 ≤ c ∧ c ≤ 1000 := fun c hc => by
  obtain ⟨x, hx, rfl⟩ := List.mem_map.1 hc
  obtain ⟨i, hi, rfl⟩ := List.mem_iff_getElem.1 hx
  have := (hr.pc i hi).1
  rw [List.getD_eq_getElem?_getD, List.getElem?_eq_getElem hi] at this
  simp only [Option.getD_some] at this
  omega
 exact ⟨hr, hr.sl, by simp [beginZ], by simp [beginZ], hr.sc, hh, hh, .inl rfl, by simp [beginZ]⟩
def countZ (R : RulesZ) (ms : List MoveZ) : Nat := ((psOf R ms).filter fun p => sameZ p (nowZ R ms)).length
def gameRes (R : RulesZ) (ms : List MoveZ) : Int := if resultZ R (nowZ R ms) = 0 ∧ R.rept ≠ 0 ∧ R.rept ≤ (countZ R ms : Int) then 3 else resultZ R (nowZ R ms)
def playErr (R : RulesZ) (ms : List MoveZ) (m : MoveZ) : Int := if gameRes R ms ≠ 0 then 14 else if m ∉ listZ R (nowZ R ms) then 13 else if ms.length = 400 then 9 else 0
/-- a game in block b; it writes the blocks S alone, which lie from base on. -/
structure GameAt (S : Nat → Prop) (base : Nat) (w : World) (b : Nat) (R : RulesZ) (ms : List MoveZ) (vp vs ve vl vm : Value) (rows : List PosV) : Prop where
 box : Box w b [.string R.name, .int .i64 R.width, .int .i64 R.height, vp, vs, .bool R.falls, .bool R.keeps, ve, .int .i64 R.blocked, .int .i64 R.quiet, .int .i64 R.rept, vl, vm] 150
 sb : S b
 lo : ∀ k, S k → base ≤ k ∧ k < w.heap.size
 rd : Held S w fun w' => RdR w' R vp vs ve
 ol : w.ownsRow base 66 5 vl (ms.length + 1) (flatV rows)
 mp : rows.map (·.p) = psOf R ms
 rw : ∀ r ∈ rows, Held S w fun w' => RdP w' r.p r.vc r.v0 r.v1
 om : w.ownsRow base 44 3 vm ms.length (flatM ms)
 sl : ∀ k, vl.ownBlock = some k → S k ∧ k ≠ b
 sm : ∀ k, vm.ownBlock = some k → S k ∧ k ≠ b
 ap : vl.ownBlock = none ∨ vl.ownBlock ≠ vm.ownBlock
 lt : ms.length ≤ 400
 la : LegalAll R (beginZ R) ms
 re : rulesErr R = 0
theorem GameAt.below {S : Nat → Prop} {base : Nat} {w w' : World} {b : Nat} {R : RulesZ} {ms : List MoveZ} {vp vs ve vl vm : Value} {rows : List PosV} (h : GameAt S base w b R ms vp vs ve vl vm rows) (hb : Below w.heap.size w w') : GameAt S base w' b R ms vp vs ve vl vm rows :=
 ⟨h.box.stays hb, h.sb, fun k hk => ⟨(h.lo k hk).1, Nat.lt_of_lt_of_le (h.lo k hk).2 hb.size⟩, h.rd.step (Fr.of_new (S := S) hb) (Shr.refl _ _), own_stays h.ol hb, h.mp, fun r hr => (h.rw r hr).step (Fr.of_new (S := S) hb) (Shr.refl _ _), own_stays h.om hb, h.sl, h.sm, h.ap, h.lt, h.la, h.re⟩
theorem GameAt.rlen {S : Nat → Prop} {base : Nat} {w : World} {b : Nat} {R : RulesZ} {ms : List MoveZ} {vp vs ve vl vm : Value} {rows : List PosV} (h : GameAt S base w b R ms vp vs ve vl vm rows) : rows.length = ms.length + 1 := by
 rw [← psOf_len R ms, ← h.mp, List.length_map]
theorem GameAt.row {S : Nat → Prop} {base : Nat} {w : World} {b : Nat} {R : RulesZ} {ms : List MoveZ} {vp vs ve vl vm : Value} {rows : List PosV} (h : GameAt S base w b R ms vp vs ve vl vm rows) (k : Nat) (hk : k ≤ ms.length) :
  (rows.getD k default).p = posAt R (beginZ R) (ms.take k) ∧ Held S w fun w' => RdP w' (posAt R (beginZ R) (ms.take k)) (rows.getD k default).vc (rows.getD k default).v0 (rows.getD k default).v1 := by
 have hl := h.rlen
 have e : (rows.getD k default).p = posAt R (beginZ R) (ms.take k) := by
  rw [← psOf_get R ms k hk, ← h.mp, List.getD_eq_getElem?_getD, List.getD_eq_getElem?_getD, List.getElem?_eq_getElem (by omega), List.getElem?_eq_getElem (by simp; omega)]
  simp
 refine ⟨e, ?_⟩
 rw [← e]
 refine h.rw _ ?_
 rw [List.getD_eq_getElem?_getD, List.getElem?_eq_getElem (by omega)]
 exact List.getElem_mem _
theorem GameAt.pok {S : Nat → Prop} {base : Nat} {w : World} {b : Nat} {R : RulesZ} {ms : List MoveZ} {vp vs ve vl vm : Value} {rows : List PosV} (h : GameAt S base w b R ms vp vs ve vl vm rows) (k : Nat) (hk : k ≤ ms.length) : POk R (posAt R (beginZ R) (ms.take k)) := posAt_ok (begin_ok h.re) h.la k hk
theorem GameAt.nok {S : Nat → Prop} {base : Nat} {w : World} {b : Nat} {R : RulesZ} {ms : List MoveZ} {vp vs ve vl vm : Value} {rows : List PosV} (h : GameAt S base w b R ms vp vs ve vl vm rows) : POk R (nowZ R ms) := by
 have := h.pok ms.length (Nat.le_refl _)
 rwa [List.take_of_length_le (Nat.le_refl _)] at this
theorem GameAt.frame {S : Nat → Prop} {base : Nat} {w : World} {b : Nat} {R : RulesZ} {ms : List MoveZ} {vp vs ve vl vm : Value} {rows : List PosV} (h : GameAt S base w b R ms vp vs ve vl vm rows) {w' : World} (hf : Fr S w w') (hb : base ≤ w.heap.size) : Below base w w' := hf.below (fun k hk => (h.lo k hk).1) hb
end Go.Proofs.YthklhndcdijneaaGreatDoor
/- The contracts of plain's methods that only read. -/
namespace Go.Proofs.YthklhndcdijneaaGreatDoor
open Go.ChangeShapes Go.WideShapes Go.ChangeAt Go.RowKit
set_option linter.unusedVariables false
set_option maxHeartbeats 4000000
set_option maxRecDepth 100000
def NowPost (S : Nat → Prop) (R : RulesZ) (ms : List MoveZ) (w : World) (e : Ending) (w' : World) : Prop :=
 ∃ vc v0 v1, e = .returned (.agg #[vc, v0, v1, .int .i64 (nowZ R ms).turn, .int .i64 (nowZ R ms).quiet]) ∧ (Held S w' fun w' => RdP w' (nowZ R ms) vc v0 v1) ∧ Below w.heap.size w w'
theorem now_any {S : Nat → Prop} {base b : Nat} {R : RulesZ} {ms : List MoveZ} {vp vs ve vl vm : Value} {rows : List PosV} (w : World) (h : GameAt S base w b R ms vp vs ve vl vm rows) : Calls Tryz.prog 85 #[.pointer (some ⟨b, 0, none⟩)] w (NowPost S R ms w) := by
 obtain ⟨g, c, hv⟩ := own_some h.ol (by omega)
 subst hv
 have hlt := (h.ol.lt g rfl).2
 have hb := h.box.lt
 have hrl := h.rlen
 have hms := h.lt
 obtain ⟨e0, e1⟩ := h.row ms.length (Nat.le_refl _)
 obtain ⟨c0, c1, c2, c3, c4⟩ := flatV_at rows ms.length (by omega)
 rw [e0] at c3 c4
 have q0 := (h.ol.cellAt (ms.length * 5) (by omega)).trans c0
 have q1 := (h.ol.cellAt (ms.length * 5 + 1) (by omega)).trans c1
 have q2 := (h.ol.cellAt (ms.length * 5 + 2) (by omega)).trans c2
 have q3 := (h.ol.cellAt (ms.length * 5 + 3) (by omega)).trans c3
 have q4 := (h.ol.cellAt (ms.length * 5 + 4) (by omega)).trans c4
 have hbx := h.box.cell 11 rfl
 have eN : posAt R (beginZ R) (ms.take ms.length) = nowZ R ms := by rw [List.take_of_length_le (Nat.le_refl _)]; rfl
 rw [eN] at e1 q3 q4
 generalize hN : nowZ R ms = N at *
 have HNN := Lib.hid hN
 obtain ⟨xa, xn, f0, -, -⟩ := e1.now.1.form
 obtain ⟨xa0, xn0, f1, -, -⟩ := e1.now.2.1.form
 obtain ⟨xa1, xn1, f2, -, -⟩ := e1.now.2.2.form
 rw [f0] at e1 q0
 rw [f1] at e1 q1
 rw [f2] at e1 q2
 obtain ⟨n, hn⟩ : ∃ n, n = ms.length := ⟨_, rfl⟩
 rw [← hn] at q0 q1 q2 q3 q4 hbx hms
 have hD := e1
 clear e0 c0 c1 c2 c3 c4 h hrl eN f0 f1 f2 hn e1 hN
 have hw1 : IntKind.i64.wrap ((n : Int) + 1 - 1) = (n : Int) := by rw [Int.add_sub_cancel]; exact IntWalk.i64_in _ (by omega)
 have hw2 : IntKind.i64.wrap (n : Int) = (n : Int) := IntWalk.i64_in _ (by omega)
 have hn1l : (n : Int) < (n : Int) + 1 := by omega
 have hcast : ((n + 1 : Nat) : Int) = (n : Int) + 1 := by omega
 go_enter Tryz.func85, Tryz.ntmps85
 go_upto_region 1 with (fail)
 have HK := Lib.hid (And.intro (cell_alloc hbx (.cells #[.slice none 0 0, .slice none 0 0, .slice none 0 0, .int .i64 0, .int .i64 0] 66)) (And.intro (cell_alloc q0 (.cells #[.slice none 0 0, .slice none 0 0, .slice none 0 0, .int .i64 0, .int .i64 0] 66)) (And.intro (cell_alloc q1 (.cells #[.slice none 0 0, .slice none 0 0, .slice none 0 0, .int .i64 0, .int .i64 0] 66)) (And.intro (cell_alloc q2 (.cells #[.slice none 0 0, .slice none 0 0, .slice none 0 0, .int .i64 0, .int .i64 0] 66)) (And.intro (cell_alloc q3 (.cells #[.slice none 0 0, .slice none 0 0, .slice none 0 0, .int .i64 0, .int .i64 0] 66)) (cell_alloc q4 (.cells #[.slice none 0 0, .slice none 0 0, .slice none 0 0, .int .i64 0, .int .i64 0] 66)))))))
 have HBn := Lib.hid (Box.new w [.slice none 0 0, .slice none 0 0, .slice none 0 0, .int .i64 0, .int .i64 0] 66)
 have HLn := Lib.hid ((Below.refl w.heap.size w).alloc (Nat.le_refl _) (.cells #[.slice none 0 0, .slice none 0 0, .slice none 0 0, .int .i64 0, .int .i64 0] 66))
 have HD := Lib.hid hD
 clear hbx q0 q1 q2 q3 q4 hD
 generalize (w.alloc (.cells #[.slice none 0 0, .slice none 0 0, .slice none 0 0, .int .i64 0, .int .i64 0] 66)) = wq at *
 have By : Box wq w.heap.size [.slice none 0 0, .slice none 0 0, .slice none 0 0, .int .i64 0, .int .i64 0] 66 := HBn.out
 have Bz := HBn.out.drew
 have Lz : Below w.heap.size w wq.drew := below_drew' HLn.out
 obtain ⟨kb, k0, k1, k2, k3, k4⟩ : wq.drew.cell? ⟨b, 11, none⟩ = _ ∧ wq.drew.cell? ⟨g, n * 5, none⟩ = _ ∧ wq.drew.cell? ⟨g, n * 5 + 1, none⟩ = _ ∧ wq.drew.cell? ⟨g, n * 5 + 2, none⟩ = _ ∧ wq.drew.cell? ⟨g, n * 5 + 3, none⟩ = _ ∧ wq.drew.cell? ⟨g, n * 5 + 4, none⟩ = _ := HK.out
 clear HK HBn HLn
 refine wp_region_noPanic ?_
 refine beginL (S := (fun w' => w'.cell? ⟨b, 11, none⟩ = some (.slice (some ⟨g, 0, none⟩) (n + 1) c) ∧ w'.cell? ⟨g, n * 5, none⟩ = some (.slice xa N.cells.length xn) ∧ w'.cell? ⟨g, n * 5 + 1, none⟩ = some (.slice xa0 N.h0.length xn0) ∧ w'.cell? ⟨g, n * 5 + 2, none⟩ = some (.slice xa1 N.h1.length xn1) ∧ w'.cell? ⟨g, n * 5 + 3, none⟩ = some (.int .i64 N.turn) ∧ w'.cell? ⟨g, n * 5 + 4, none⟩ = some (.int .i64 N.quiet))) (L := [12]) (by kernel_rfl) ⟨kb, k0, k1, k2, k3, k4⟩ (fun hHeld => ?_)
 refine tkW 0 ?_
 refine tkW 4 ?_
 refine tkW 1 ?_
 refine tkW 5 ?_
 refine tkW 2 ?_
 refine tkW 6 ?_
 refine tkL 3 ?_
 refine tkL 7 ?_
 refine tkW 8 ?_
 refine tkW 9 ?_
 refine tkW 10 ?_
 refine tkL 11 ?_
 refine ltL 12 fun K hK => ?_
 have z0 := By.cell 0 rfl
 have z1 := By.cell 1 rfl
 have z2 := By.cell 2 rfl
 have z3 := By.cell 3 rfl
 have z4 := By.cell 4 rfl
 have zf0 := By.frozen 0
 have zf1 := By.frozen 1
 have zf2 := By.frozen 2
 have zf3 := By.frozen 3
 have zf4 := By.frozen 4
 go_simp
 refine K_world ?_
 intro w9 e9
 have E9 : w9 = wq.drew.setCells w.heap.size 0 [.slice xa N.cells.length xn, .slice xa0 N.h0.length xn0, .slice xa1 N.h1.length xn1, .int .i64 N.turn, .int .i64 N.quiet] := e9
 clear e9 z0 zf0 z1 zf1 z2 zf2 z3 zf3 z4 zf4
 refine hK.out _ _ ?_
 clear hK K
 refine dnN ?_
 have B9 := Bz.store (vs := [.slice xa N.cells.length xn, .slice xa0 N.h0.length xn0, .slice xa1 N.h1.length xn1, .int .i64 N.turn, .int .i64 N.quiet]) rfl
 have L9 := below_setCells Lz (Nat.le_refl w.heap.size) 0 [.slice xa N.cells.length xn, .slice xa0 N.h0.length xn0, .slice xa1 N.h1.length xn1, .int .i64 N.turn, .int .i64 N.quiet]
 rw [← E9] at B9 L9
 have HB9 := Lib.hid B9
 have HL9 := Lib.hid L9
 clear B9 L9 E9 Bz Lz By hHeld
 go_wp2_with fail
 exact bodyPost_ret (results_one rfl (by rfl) HB9.out Tryz.underlying66 (by rfl) (by kernel_rfl)) rfl (by unfold NowPost; rw [HNN.out]; exact ⟨_, _, _, rfl, HD.out.step (Fr.of_new (S := S) HL9.out) (Shr.refl _ _), HL9.out⟩)
end Go.Proofs.YthklhndcdijneaaGreatDoor
/- slices.Clone at slices of structs. -/
namespace Go.Proofs.YthklhndcdijneaaGreatDoor
open Go.ChangeShapes Go.WideShapes Go.ChangeAt Go.RowKit
set_option linter.unusedVariables false
set_option maxHeartbeats 4000000
set_option maxRecDepth 100000
def ClonedPost {α : Type} (el : El α) (t : TypeId) (xs : List α) (w : World) (e : Ending) (w' : World) : Prop :=
 ∃ (v : Value) (vs : List Value), e = .returned v ∧ w'.ownsRow w.heap.size t el.k v xs.length vs ∧ (∀ i (h : i < xs.length), el.E w' xs[i] ((vs.drop (i * el.k)).take el.k)) ∧ Below w.heap.size w w'
theorem ClonedPost.rd {α : Type} {el : El α} {t : TypeId} {w : World} {v : Value} {xs : List α} {vs : List Value} {b : Nat} (h : w.ownsRow b t el.k v xs.length vs) (hE : ∀ i (h : i < xs.length), el.E w xs[i] ((vs.drop (i * el.k)).take el.k)) : RdL el w v xs := RdL.of_own h hE
theorem info_of {P : Program} {e : TypeId} {z : Value} {k b : Nat} (h : (P.info? e).map (fun i => (i.zero, i.size, i.bytes)) = some (some z, k, b)) : ∃ i, P.info? e = some i ∧ i.zero = some z ∧ i.size = k ∧ i.bytes = b := by
 cases hh : P.info? e with
 | none => rw [hh] at h; cases h
 | some i =>
  rw [hh] at h
  simp only [Option.map_some, Option.some.injEq, Prod.mk.injEq] at h
  exact ⟨i, rfl, h.1, h.2.1, h.2.2⟩
theorem flat_parts {k : Nat} : ∀ (css : List (List Value)), (∀ cs ∈ css, cs.length = k) → css.flatten.length = css.length * k ∧ ∀ i (h : i < css.length), (css.flatten.drop (i * k)).take k = css[i]
 | [], _ => ⟨by simp, fun i h => by cases h⟩
 | cs :: t, hall => by
  have hc := hall cs (by simp)
  obtain ⟨h1, h2⟩ := flat_parts t (fun c h => hall c (by simp [h]))
  refine ⟨by rw [List.flatten_cons, List.length_append, h1, hc, List.length_cons, Nat.add_mul, Nat.one_mul, Nat.add_comm], fun i hi => ?_⟩
  cases i with
  | zero => simp [hc]
  | succ i =>
   have := h2 i (by simpa using hi)
   rw [List.flatten_cons, Nat.add_mul, Nat.one_mul, Nat.add_comm, ← hc, ← List.drop_drop, List.drop_left, hc, this]
   rfl
/-- a slice's cells as one list. -/
theorem rdl_cells {α : Type} {el : El α} (h1 : ∀ (w : World) (x : α) (cs : List Value), el.E w x cs → ∀ u ∈ cs, u.oneCell' = true) {w : World} {v : Value} {xs : List α} (h : RdL el w v xs) :
  ∃ (a : Option Addr) (n c : Nat) (vs : List Value), v = .slice a n c ∧ n = xs.length ∧ vs.length = n * el.k ∧ (∀ u ∈ vs, u.oneCell' = true) ∧ (∀ i (h : i < xs.length), el.E w xs[i] ((vs.drop (i * el.k)).take el.k)) ∧
   ((a = none → n = 0) ∧ ∀ ad, a = some ad → ∀ j u, vs[j]? = some u → w.cell? (ad.add j) = some u) := by
 rcases h with ⟨a, c, rfl, _, hz⟩ | ⟨g, o, c, rfl, h2, h3, h4, h5⟩
 ·exact ⟨a, 0, c, [], rfl, hz.symm, by simp, by simp, fun i hi => by omega, fun _ => rfl, fun ad _ j u hu => by simp at hu⟩
 ·have hch : ∀ i : Fin xs.length, ∃ cs, el.E w xs[i] cs ∧ ∀ j, j < el.k → w.cell? ⟨g, o + i * el.k + j, none⟩ = cs[j]? := fun i => h5 i i.2
  let css := List.ofFn fun i => Classical.choose (hch i)
  have hlen : css.length = xs.length := by simp [css]
  have hsp : ∀ i (hi : i < css.length), el.E w xs[i] css[i] ∧ ∀ j, j < el.k → w.cell? ⟨g, o + i * el.k + j, none⟩ = css[i][j]? := fun i hi => by
   have := Classical.choose_spec (hch ⟨i, by omega⟩)
   simpa [css] using this
  have hk : ∀ cs ∈ css, cs.length = el.k := fun cs hcs => by
   obtain ⟨i, hi, rfl⟩ := List.mem_iff_getElem.1 hcs
   exact el.len (hsp i hi).1
  obtain ⟨f1, f2⟩ := flat_parts css hk
  refine ⟨_, xs.length, c, css.flatten, rfl, rfl, by rw [f1, hlen], fun u hu => ?_, fun i hi => by rw [f2 i (by omega)]; exact (hsp i (by omega)).1, (fun e => by cases e), fun ad had j u hu => ?_⟩
  ·obtain ⟨cs, hcs, hu⟩ := List.mem_flatten.1 hu
   obtain ⟨i, hi, rfl⟩ := List.mem_iff_getElem.1 hcs
   exact h1 w _ _ (hsp i hi).1 u hu
  ·simp only [Option.some.injEq] at had
   subst had
   have hj := (List.getElem?_eq_some_iff.1 hu).1
   rw [f1] at hj
   have hk0 : 0 < el.k := by
    rcases Nat.eq_zero_or_pos el.k with e | e
    ·rw [e] at hj; omega
    ·exact e
   have hi : j / el.k < css.length := Nat.div_lt_of_lt_mul (by rw [Nat.mul_comm]; exact hj)
   have hm : j % el.k < el.k := Nat.mod_lt _ hk0
   have e := (hsp (j / el.k) hi).2 (j % el.k) hm
   have e2 : o + j / el.k * el.k + j % el.k = o + j := by have := Nat.div_add_mod j el.k; rw [Nat.mul_comm] at this; omega
   rw [e2] at e
   have e3 : (⟨g, o, none⟩ : Addr).add j = ⟨g, o + j, none⟩ := by unfold Addr.add; split <;> simp_all
   rw [e3, e, ← hu]
   rw [← f2 _ hi, List.getElem?_take_of_lt hm, List.getElem?_drop]
   congr 1
   have := Nat.div_add_mod j el.k
   rw [Nat.mul_comm] at this
   exact this
theorem info_way : (Tryz.prog.info? 120).map (fun i => (i.zero, i.size, i.bytes)) = some (some (.agg #[.int .i64 0, .int .i64 0, .int .i64 0, .int .i64 0]), 4, 32) := by kernel_rfl
theorem Clone_way {α : Type} (el : El α) (hk : el.k = 4) (h1 : ∀ (w : World) (x : α) (cs : List Value), el.E w x cs → ∀ u ∈ cs, u.oneCell' = true) (v : Value) (xs : List α) (w : World) (h : RdL el w v xs) (hl : xs.length ≤ 1000000) :
  Calls Tryz.prog 111 #[v] w (ClonedPost el 120 xs w) := by
 obtain ⟨i0, hi, hz0, hz1, hz2⟩ := info_of info_way
 have hq := fun (w : World) (a : Option Addr) (n c : Nat) => Lib.run_eql_slice_nil (P := Tryz.prog) w 82 120 a n c 0 0 Tryz.underlying82
 have hown0 : (w.alloc (.cells #[] 120)).ownsRow w.heap.size 120 4 (.slice (some ⟨w.heap.size, 0, none⟩) 0 0) 0 [] := World.ownsRow_made w #[] 0 (Nat.le_refl _) (by unfold maxLen; omega) rfl
 obtain ⟨a, n, c, vs, rfl, hn, hvl, hone, hE, hcell⟩ := rdl_cells h1 h
 rw [hk] at hvl
 have HR := Lib.hid hE
 cases a with
 | none =>
  have hn0 : n = 0 := hcell.1 rfl
  subst hn0
  obtain rfl : xs = [] := List.length_eq_zero_iff.1 hn.symm
  clear h hl hE hcell hown0 hn hvl hone HR hi hz0 hz1 hz2
  go_enter Tryz.func111, Tryz.ntmps111
  go_wp2
  go_ret
  exact ⟨_, [], rfl, World.ownsRow_nil _ _ _ _, (fun i hi => by cases hi), Below.refl _ _⟩
 | some ad =>
  have hnews : ∀ j u, vs[j]? = some u → (w.alloc (.cells #[] 120)).cell? (ad.add j) = some u := fun j u hu => by
   have hc := hcell.2 ad rfl j u hu
   rw [World.cell?_of_block (w := w) (a := ad.add j) (Below.heap_alloc w _ _ (World.block_lt_of_cell? w _ hc))]
   exact hc
  have Hown0 := Lib.hid hown0
  have Hnews := Lib.hid hnews
  have Hil := Lib.hid hvl
  have Hone := Lib.hid hone
  have hnl : n ≤ 1000000 := by omega
  have HN := Lib.hid hn
  clear hown0 hnews hcell h hE hvl hone hl hn
  go_enter Tryz.func111, Tryz.ntmps111
  go_wp2_with (at_builtin; refine wpList_append_own _ rfl _ _ 82 rfl w.heap.size 120 i0 (.agg #[.int .i64 0, .int .i64 0, .int .i64 0, .int .i64 0]) 4 32 Tryz.underlying82 hi hz0 hz1 hz2 rfl (by decide) _ 0 [] rfl Hown0.out ad n c vs rfl Hil.out Hnews.out Hone.out ?c3 ?c4 ?c5 ?_)
  case c3 => unfold maxLen; omega
  case c4 => omega
  case c5 => simp
  intro v' w2 hown' hgrow _
  try simp only [Nat.zero_add, List.nil_append] at hown'
  have hb : Below w.heap.size w w2 := Below.grown ((Below.refl _ w).alloc (Nat.le_refl _) _) hgrow (by simp) (fun q hq => by simp [Value.ownBlock] at hq; omega)
  have HO := Lib.hid hown'
  have HB := Lib.hid hb
  clear hown' hgrow hb
  go_wp2
  go_ret
  exact ⟨v', vs, rfl, by rw [← HN.out, hk]; exact HO.out, fun i hi => el.mono (HR.out i hi) HB.out (Nat.le_refl _), HB.out⟩
theorem info_end : (Tryz.prog.info? 86).map (fun i => (i.zero, i.size, i.bytes)) = some (some (.agg #[.int .i64 0, .int .i64 0, .int .i64 0, .bool false]), 4, 32) := by kernel_rfl
theorem Clone_end {α : Type} (el : El α) (hk : el.k = 4) (h1 : ∀ (w : World) (x : α) (cs : List Value), el.E w x cs → ∀ u ∈ cs, u.oneCell' = true) (v : Value) (xs : List α) (w : World) (h : RdL el w v xs) (hl : xs.length ≤ 1000000) :
  Calls Tryz.prog 112 #[v] w (ClonedPost el 86 xs w) := by
 obtain ⟨i0, hi, hz0, hz1, hz2⟩ := info_of info_end
 have hq := fun (w : World) (a : Option Addr) (n c : Nat) => Lib.run_eql_slice_nil (P := Tryz.prog) w 24 86 a n c 0 0 Tryz.underlying24
 have hown0 : (w.alloc (.cells #[] 86)).ownsRow w.heap.size 86 4 (.slice (some ⟨w.heap.size, 0, none⟩) 0 0) 0 [] := World.ownsRow_made w #[] 0 (Nat.le_refl _) (by unfold maxLen; omega) rfl
 obtain ⟨a, n, c, vs, rfl, hn, hvl, hone, hE, hcell⟩ := rdl_cells h1 h
 rw [hk] at hvl
 have HR := Lib.hid hE
 cases a with
 | none =>
  have hn0 : n = 0 := hcell.1 rfl
  subst hn0
  obtain rfl : xs = [] := List.length_eq_zero_iff.1 hn.symm
  clear h hl hE hcell hown0 hn hvl hone HR hi hz0 hz1 hz2
  go_enter Tryz.func112, Tryz.ntmps112
  go_wp2
  go_ret
  exact ⟨_, [], rfl, World.ownsRow_nil _ _ _ _, (fun i hi => by cases hi), Below.refl _ _⟩
 | some ad =>
  have hnews : ∀ j u, vs[j]? = some u → (w.alloc (.cells #[] 86)).cell? (ad.add j) = some u := fun j u hu => by
   have hc := hcell.2 ad rfl j u hu
   rw [World.cell?_of_block (w := w) (a := ad.add j) (Below.heap_alloc w _ _ (World.block_lt_of_cell? w _ hc))]
   exact hc
  have Hown0 := Lib.hid hown0
  have Hnews := Lib.hid hnews
  have Hil := Lib.hid hvl
  have Hone := Lib.hid hone
  have hnl : n ≤ 1000000 := by omega
  have HN := Lib.hid hn
  clear hown0 hnews hcell h hE hvl hone hl hn
  go_enter Tryz.func112, Tryz.ntmps112
  go_wp2_with (at_builtin; refine wpList_append_own _ rfl _ _ 24 rfl w.heap.size 86 i0 (.agg #[.int .i64 0, .int .i64 0, .int .i64 0, .bool false]) 4 32 Tryz.underlying24 hi hz0 hz1 hz2 rfl (by decide) _ 0 [] rfl Hown0.out ad n c vs rfl Hil.out Hnews.out Hone.out ?c3 ?c4 ?c5 ?_)
  case c3 => unfold maxLen; omega
  case c4 => omega
  case c5 => simp
  intro v' w2 hown' hgrow _
  try simp only [Nat.zero_add, List.nil_append] at hown'
  have hb : Below w.heap.size w w2 := Below.grown ((Below.refl _ w).alloc (Nat.le_refl _) _) hgrow (by simp) (fun q hq => by simp [Value.ownBlock] at hq; omega)
  have HO := Lib.hid hown'
  have HB := Lib.hid hb
  clear hown' hgrow hb
  go_wp2
  go_ret
  exact ⟨v', vs, rfl, by rw [← HN.out, hk]; exact HO.out, fun i hi => el.mono (HR.out i hi) HB.out (Nat.le_refl _), HB.out⟩
end Go.Proofs.YthklhndcdijneaaGreatDoor
/- The contracts of plain's Position, Moves, Count, Result. -/
namespace Go.Proofs.YthklhndcdijneaaGreatDoor
open Go.ChangeShapes Go.WideShapes Go.ChangeAt Go.RowKit
set_option linter.unusedVariables false
set_option maxHeartbeats 4000000
set_option maxRecDepth 100000
theorem pos_small {R : RulesZ} {p : PosZ} (K : POk R p) : p.cells.length ≤ 1000 ∧ p.h0.length ≤ 1000 ∧ p.h1.length ≤ 1000 := by
 have := K.len; have := K.l0; have := K.l1; have := K.r.np; omega
theorem gamePos_any {S : Nat → Prop} {base b : Nat} {R : RulesZ} {ms : List MoveZ} {vp vs ve vl vm : Value} {rows : List PosV} (w : World) (h : GameAt S base w b R ms vp vs ve vl vm rows) : Calls Tryz.prog 66 #[.pointer (some ⟨b, 0, none⟩)] w fun e w' => ∃ vc v0 v1, e = .returned (.agg #[vc, v0, v1, .int .i64 (nowZ R ms).turn, .int .i64 (nowZ R ms).quiet]) ∧ OwnP w.heap.size w' (nowZ R ms) vc v0 v1 ∧ Below w.heap.size w w' := by
 have hsm := pos_small h.nok
 have HG0 := Lib.hid (h.below ((Below.refl _ w).alloc (Nat.le_refl _) (.cells #[.slice none 0 0, .slice none 0 0, .slice none 0 0, .int .i64 0, .int .i64 0] 66)))
 have HBn := Lib.hid (Box.new w [.slice none 0 0, .slice none 0 0, .slice none 0 0, .int .i64 0, .int .i64 0] 66)
 have HLn := Lib.hid ((Below.refl w.heap.size w).alloc (Nat.le_refl _) (.cells #[.slice none 0 0, .slice none 0 0, .slice none 0 0, .int .i64 0, .int .i64 0] 66))
 clear h
 go_enter Tryz.func66, Tryz.ntmps66
 go_upto_region 1 with (fail)
 generalize (w.alloc (.cells #[.slice none 0 0, .slice none 0 0, .slice none 0 0, .int .i64 0, .int .i64 0] 66)) = w0 at *
 go_wp2_with fail
 refine (now_any w0 HG0.out).mono ?_
 rintro e w1 ⟨nc, n0, n1, rfl, hn1, hb1⟩
 have HN1 := Lib.hid hn1.now
 have HB1 := Lib.hid (HBn.out.stays hb1)
 have HL1 := Lib.hid (below_trans HLn.out hb1 HLn.out.size)
 clear hn1 hb1
 go_wp2_with fail
 refine (Copy_any (nowZ R ms) nc n0 n1 w1 HN1.out (by omega) (by omega) (by omega)).mono ?_
 rintro e w2 ⟨c, c0, c1, rfl, ho2, hb2⟩
 obtain ⟨pa, pn, rfl⟩ := own_form2 ho2.1
 obtain ⟨pa0, pn0, rfl⟩ := own_form2 ho2.2.1
 obtain ⟨pa1, pn1, rfl⟩ := own_form2 ho2.2.2.1
 have HB2 := Lib.hid (HB1.out.stays hb2)
 have HL2 := Lib.hid (below_trans HL1.out hb2 HL1.out.size)
 have hz := HB1.out.lt
 have HO2 := Lib.hid ho2
 clear hb2 ho2
 unfold posV
 go_wp2_with (refine wpList_store_box (vs := [.slice pa (nowZ R ms).cells.length pn, .slice pa0 (nowZ R ms).h0.length pn0, .slice pa1 (nowZ R ms).h1.length pn1, .int .i64 (nowZ R ms).turn, .int .i64 (nowZ R ms).quiet]) (by rfl) 66 (.tmp 2) (.tmp 5) (by rfl) (w.heap.size) (by rfl) (by rfl) HB2.out rfl (by kernel_rfl) (by rfl) ?_)
 exact bodyPost_ret (results_one rfl (by rfl) (HB2.out.store rfl) Tryz.underlying66 (by rfl) (by kernel_rfl)) rfl ⟨_, _, _, rfl, (HO2.out.setCells hz 0 _).base (by have := HL1.out.size; omega), below_setCells HL2.out (Nat.le_refl _) 0 _⟩
def cntTo (R : RulesZ) (ms : List MoveZ) (k : Nat) : Nat := (((psOf R ms).take k).filter fun p => sameZ p (nowZ R ms)).length
theorem cntTo_succ (R : RulesZ) (ms : List MoveZ) (k : Nat) (h : k ≤ ms.length) : cntTo R ms (k + 1) = cntTo R ms k + if sameZ (posAt R (beginZ R) (ms.take k)) (nowZ R ms) = true then 1 else 0 := by
 unfold cntTo
 have hl := psOf_len R ms
 rw [List.take_succ_eq_append_getElem (by omega), List.filter_append, List.length_append]
 have e := psOf_get R ms k h
 rw [List.getD_eq_getElem?_getD, List.getElem?_eq_getElem (by omega)] at e
 simp only [Option.getD_some] at e
 rw [e]
 congr 1
 by_cases hs : sameZ (posAt R (beginZ R) (ms.take k)) (nowZ R ms) = true <;> simp [hs]
theorem count_any {S : Nat → Prop} {base b : Nat} {R : RulesZ} {ms : List MoveZ} {vp vs ve vl vm : Value} {rows : List PosV} (w : World) (h : GameAt S base w b R ms vp vs ve vl vm rows) : Calls Tryz.prog 87 #[.pointer (some ⟨b, 0, none⟩)] w fun e w' => e = .returned (.int .i64 (countZ R ms)) ∧ Below w.heap.size w w' := by
 have hms := h.lt
 obtain ⟨g, c, hv⟩ := own_some h.ol (by omega)
 subst hv
 have HG := Lib.hid h
 have hc := h.box.cell 11 rfl
 have hlt := h.box.lt
 clear h
 have hcast : ((ms.length + 1 : Nat) : Int) = (ms.length : Int) + 1 := by omega
 go_enter Tryz.func87, Tryz.ntmps87
 go_wp2_with fail
 clear hc hlt
 go_loopw [11, 3, 5] (fun vi vn vp' wr => ∃ (k cnt : Nat), k ≤ ms.length + 1 ∧ cnt ≤ k ∧ vi = .int .i64 k ∧ vn = .int .i64 cnt ∧ Hid (cntTo R ms k = cnt) ∧ Hid (GameAt S base wr b R ms vp vs ve (.slice (some ⟨g, 0, none⟩) (ms.length + 1) c) vm rows) ∧ Hid (Below w.heap.size w wr)) (fun i _ _ _ => ms.length + 1 - (intOf i).toNat)
 case atStart => exact ⟨0, 0, Nat.zero_le _, Nat.zero_le _, rfl, rfl, Lib.hid rfl, HG, Lib.hid (Below.refl _ _)⟩
 case round =>
  obtain ⟨k, cnt, hk, hcn, rfl, rfl, HCn, HGr, HBr⟩ := hrel
  have hkI : (k : Int) ≤ (ms.length : Int) + 1 := by omega
  by_cases hlt : k < ms.length + 1
  ·have hltI : (k : Int) < (ms.length : Int) + 1 := by omega
   have hgl := (HGr.out.ol.lt g rfl).2
   obtain ⟨e0, e1⟩ := HGr.out.row k (by omega)
   obtain ⟨c0, c1, c2, c3, c4⟩ := flatV_at rows k (by have := HGr.out.rlen; omega)
   rw [e0] at c3 c4
   have q0 := (HGr.out.ol.cellAt (k * 5) (by omega)).trans c0
   have q1 := (HGr.out.ol.cellAt (k * 5 + 1) (by omega)).trans c1
   have q2 := (HGr.out.ol.cellAt (k * 5 + 2) (by omega)).trans c2
   have q3 := (HGr.out.ol.cellAt (k * 5 + 3) (by omega)).trans c3
   have q4 := (HGr.out.ol.cellAt (k * 5 + 4) (by omega)).trans c4
   have HCS := Lib.hid (cntTo_succ R ms k (by omega))
   generalize posAt R (beginZ R) (ms.take k) = Pk at *
   obtain ⟨xa, xn, f0, -, -⟩ := e1.now.1.form
   obtain ⟨xa0, xn0, f1, -, -⟩ := e1.now.2.1.form
   obtain ⟨xa1, xn1, f2, -, -⟩ := e1.now.2.2.form
   rw [f0] at e1 q0
   rw [f1] at e1 q1
   rw [f2] at e1 q2
   have HP := Lib.hid e1.now
   clear e0 c0 c1 c2 c3 c4 f0 f1 f2 e1
   go_upto_region 5 with (fail)
   have hBn : Box (wr.alloc (.cells #[.slice xa Pk.cells.length xn, .slice xa0 Pk.h0.length xn0, .slice xa1 Pk.h1.length xn1, .int .i64 Pk.turn, .int .i64 Pk.quiet] 66)) wr.heap.size [.slice xa Pk.cells.length xn, .slice xa0 Pk.h0.length xn0, .slice xa1 Pk.h1.length xn1, .int .i64 Pk.turn, .int .i64 Pk.quiet] 66 := Box.new wr _ _
   have hLn := HBr.out.alloc HBr.out.size (.cells #[.slice xa Pk.cells.length xn, .slice xa0 Pk.h0.length xn0, .slice xa1 Pk.h1.length xn1, .int .i64 Pk.turn, .int .i64 Pk.quiet] 66)
   have hGn := HGr.out.below ((Below.refl _ wr).alloc (Nat.le_refl _) (.cells #[.slice xa Pk.cells.length xn, .slice xa0 Pk.h0.length xn0, .slice xa1 Pk.h1.length xn1, .int .i64 Pk.turn, .int .i64 Pk.quiet] 66))
   have hPn := HP.out.below ((Below.refl _ wr).alloc (Nat.le_refl _) (.cells #[.slice xa Pk.cells.length xn, .slice xa0 Pk.h0.length xn0, .slice xa1 Pk.h1.length xn1, .int .i64 Pk.turn, .int .i64 Pk.quiet] 66)) (Nat.le_refl _)
   clear q0 q1 q2 q3 q4 hgl
   generalize (wr.alloc (.cells #[.slice xa Pk.cells.length xn, .slice xa0 Pk.h0.length xn0, .slice xa1 Pk.h1.length xn1, .int .i64 Pk.turn, .int .i64 Pk.quiet] 66)) = wq at *
   have Bz : Box wq.drew wr.heap.size [.slice xa Pk.cells.length xn, .slice xa0 Pk.h0.length xn0, .slice xa1 Pk.h1.length xn1, .int .i64 Pk.turn, .int .i64 Pk.quiet] 66 := hBn
   have Lz : Below w.heap.size w wq.drew := below_drew' hLn
   have Gz : GameAt S base wq.drew b R ms vp vs ve (.slice (some ⟨g, 0, none⟩) (ms.length + 1) c) vm rows := hGn.below (below_drew' (Below.refl _ _))
   have Pz : RdP wq.drew Pk (.slice xa Pk.cells.length xn) (.slice xa0 Pk.h0.length xn0) (.slice xa1 Pk.h1.length xn1) := hPn.below (below_drew' (Below.refl _ _)) (Nat.le_refl _)
   clear hBn hLn hGn hPn
   refine wp_region_noPanic ?_
   refine beginL (S := (fun w' => w'.cell? ⟨wr.heap.size, 0, none⟩ = some (.slice xa Pk.cells.length xn) ∧ w'.cell? ⟨wr.heap.size, 1, none⟩ = some (.slice xa0 Pk.h0.length xn0) ∧ w'.cell? ⟨wr.heap.size, 2, none⟩ = some (.slice xa1 Pk.h1.length xn1) ∧ w'.cell? ⟨wr.heap.size, 3, none⟩ = some (.int .i64 Pk.turn) ∧ w'.cell? ⟨wr.heap.size, 4, none⟩ = some (.int .i64 Pk.quiet))) (L := []) (by kernel_rfl) (by and_intros <;> exact Bz.cell _ rfl) (fun hHeld => ?_)
   refine tkL 0 ?_
   refine tkW 1 ?_
   refine cnL 2 fun K hK => ?_
   go_simp
   refine (now_any _ Gz).mono ?_
   rintro e w5 ⟨nc, n0, n1, rfl, hn5, hb5⟩
   have G5 := Gz.below hb5
   have B5 := Bz.stays hb5
   have L5 := below_trans Lz hb5 Lz.size
   have P5 := Pz.below hb5 (Nat.le_refl _)
   have N5 := hn5.now
   clear hb5 hn5
   refine hK.out _ _ (by and_intros <;> exact B5.cell _ rfl) (fun hHeld => ?_)
   clear hK K
   refine cnL 3 fun K hK => ?_
   go_simp
   refine (Same_any Pk (nowZ R ms) _ _ _ nc n0 n1 _ P5 N5).mono ?_
   rintro e w6 ⟨rfl, hb6⟩
   have G6 := G5.below hb6
   have B6 := B5.stays hb6
   have L6 := below_trans L5 hb6 L5.size
   clear hb6
   refine hK.out _ _ (by and_intros <;> exact B6.cell _ rfl) (fun hHeld => ?_)
   clear hK K
   refine dnN ?_
   have HG6 := Lib.hid G6
   have HL6 := Lib.hid L6
   clear G6 L6 B6 G5 B5 L5 P5 N5 hHeld Gz Bz Lz Pz
   cases hsm : sameZ Pk (nowZ R ms)
   ·go_wp2_with fail
    go_roundw
    case rel => exact ⟨k + 1, cnt, by omega, by omega, by go_num, rfl, Lib.hid (by rw [HCS.out, HCn.out, hsm]; simp), HG6, HL6⟩
    case measure => simp [intOf]; omega
   ·go_wp2_with fail
    go_roundw
    case rel => exact ⟨k + 1, cnt + 1, by omega, by omega, by go_num, by go_num, Lib.hid (by rw [HCS.out, HCn.out, hsm]; simp), HG6, HL6⟩
    case measure => simp [intOf]; omega
  ·obtain rfl : k = ms.length + 1 := by omega
   have HE : Hid (countZ R ms = cnt) := Lib.hid (by rw [← HCn.out]; unfold countZ cntTo; rw [List.take_of_length_le (by rw [psOf_len]; omega)])
   have hlt' : ¬ ((ms.length : Int) + 1 < (ms.length : Int) + 1) := by omega
   go_wp2_with fail
   go_ret
   exact ⟨by rw [HE.out]; rfl, HBr.out⟩
theorem gameRes_any (HS : SortMvSaid) {S : Nat → Prop} {base b : Nat} {R : RulesZ} {ms : List MoveZ} {vp vs ve vl vm : Value} {rows : List PosV} (w : World) (h : GameAt S base w b R ms vp vs ve vl vm rows) : Calls Tryz.prog 67 #[.pointer (some ⟨b, 0, none⟩)] w fun e w' => e = .returned (.int .i64 (gameRes R ms)) ∧ Below w.heap.size w w' := by
 have HSh := Lib.hid HS
 have HK := Lib.hid h.nok
 have HG := Lib.hid h
 clear h HS
 go_enter Tryz.func67, Tryz.ntmps67
 go_upto_region 1 with (fail)
 have Gz : GameAt S base w.drew b R ms vp vs ve vl vm rows := HG.out.below (below_drew' (Below.refl _ _))
 have Lz : Below w.heap.size w w.drew := below_drew' (Below.refl _ _)
 clear HG
 refine wp_region_noPanic ?_
 refine beginL (S := (fun w' => w'.cell? ⟨b, 0, none⟩ = some (.string R.name) ∧ w'.cell? ⟨b, 1, none⟩ = some (.int .i64 R.width) ∧ w'.cell? ⟨b, 2, none⟩ = some (.int .i64 R.height) ∧ w'.cell? ⟨b, 3, none⟩ = some vp ∧ w'.cell? ⟨b, 4, none⟩ = some vs ∧ w'.cell? ⟨b, 5, none⟩ = some (.bool R.falls) ∧ w'.cell? ⟨b, 6, none⟩ = some (.bool R.keeps) ∧ w'.cell? ⟨b, 7, none⟩ = some ve ∧ w'.cell? ⟨b, 8, none⟩ = some (.int .i64 R.blocked) ∧ w'.cell? ⟨b, 9, none⟩ = some (.int .i64 R.quiet) ∧ w'.cell? ⟨b, 10, none⟩ = some (.int .i64 R.rept))) (L := []) (by kernel_rfl) (by and_intros <;> exact Gz.box.cell _ rfl) (fun hHeld => ?_)
 refine tkW 0 ?_
 refine tkW 4 ?_
 refine tkW 1 ?_
 refine tkW 2 ?_
 refine tkL 3 ?_
 refine cnL 5 fun K hK => ?_
 go_simp
 refine (now_any _ Gz).mono ?_
 rintro e w5 ⟨nc, n0, n1, rfl, hn5, hb5⟩
 have G5 := Gz.below hb5
 have L5 := below_trans Lz hb5 Lz.size
 have N5 := hn5.now
 clear hb5 hn5
 refine hK.out _ _ (by and_intros <;> exact G5.box.cell _ rfl) (fun hHeld => ?_)
 clear hK K
 refine cnL 6 fun K hK => ?_
 go_simp
 refine (Result_any HSh.out R vp vs ve (nowZ R ms) nc n0 n1 _ G5.rd.now N5 HK.out).mono ?_
 rintro e w6 ⟨rfl, hb6⟩
 have G6 := G5.below hb6
 have L6 := below_trans L5 hb6 L5.size
 clear hb6
 refine hK.out _ _ (by and_intros <;> exact G6.box.cell _ rfl) (fun hHeld => ?_)
 clear hK K
 refine tkW 7 ?_
 refine dnN ?_
 have HG6 := Lib.hid G6
 have HL6 := Lib.hid L6
 clear G6 L6 G5 L5 N5 hHeld Gz Lz
 go_upto_region 2 with (fail)
 have Gy : GameAt S base w6.drew b R ms vp vs ve vl vm rows := HG6.out.below (below_drew' (Below.refl _ _))
 have Ly : Below w.heap.size w w6.drew := below_drew' HL6.out
 clear HG6 HL6
 generalize hx : resultZ R (nowZ R ms) = x at *
 by_cases hx0 : x = 0
 rotate_left
 ·have hxb : (x == 0) = false := by simpa using hx0
  have HE : Hid (gameRes R ms = x) := Lib.hid (by unfold gameRes; rw [hx, if_neg (by simp [hx0])])
  clear hx hx0
  refine wp_region_noPanic ?_
  refine beginL (S := (fun w' => w'.cell? ⟨b, 10, none⟩ = some (.int .i64 R.rept))) (L := []) (by kernel_rfl) (Gy.box.cell 10 rfl) (fun hHeld => ?_)
  refine tkW 0 ?_
  refine tkW 1 ?_
  refine tkW 2 ?_
  refine skW 3 ?_
  refine skW 4 ?_
  refine skW 5 ?_
  refine skW 6 ?_
  refine skW 7 ?_
  refine skW 8 ?_
  refine tkW 9 ?_
  refine tkW 10 ?_
  refine skW 11 ?_
  refine skW 13 ?_
  refine skW 12 ?_
  refine skW 14 ?_
  refine skW 15 ?_
  refine skW 16 ?_
  refine skW 17 ?_
  refine skW 18 ?_
  refine tkW 19 ?_
  refine dnN ?_
  have HL8 := Lib.hid Ly
  go_wp2_with fail
  go_ret
  exact ⟨by rw [HE.out]; rfl, HL8.out⟩
 subst hx0
 by_cases hr0 : R.rept = 0
 ·have hrb : (R.rept != 0) = false := by simpa using hr0
  have HE : Hid (gameRes R ms = 0) := Lib.hid (by unfold gameRes; rw [hx, if_neg (by simp [hr0])])
  clear hx hr0
  refine wp_region_noPanic ?_
  refine beginL (S := (fun w' => w'.cell? ⟨b, 10, none⟩ = some (.int .i64 R.rept))) (L := []) (by kernel_rfl) (Gy.box.cell 10 rfl) (fun hHeld => ?_)
  refine tkW 0 ?_
  refine tkW 1 ?_
  refine tkW 2 ?_
  refine tkW 3 ?_
  refine tkW 4 ?_
  refine tkW 5 ?_
  refine tkW 6 ?_
  refine tkL 7 ?_
  refine tkW 8 ?_
  refine tkW 9 ?_
  refine tkW 10 ?_
  refine skW 11 ?_
  refine skW 13 ?_
  refine skW 12 ?_
  refine skW 14 ?_
  refine skW 15 ?_
  refine skW 16 ?_
  refine skW 17 ?_
  refine skW 18 ?_
  refine tkW 19 ?_
  refine dnN ?_
  have HL8 := Lib.hid Ly
  go_wp2_with fail
  go_ret
  exact ⟨by rw [HE.out]; rfl, HL8.out⟩
 have hrb : (R.rept != 0) = true := by simpa using hr0
 by_cases hc : R.rept ≤ (countZ R ms : Int)
 ·have HE : Hid (gameRes R ms = 3) := Lib.hid (by unfold gameRes; rw [hx, if_pos ⟨rfl, hr0, hc⟩])
  clear hx hr0
  refine wp_region_noPanic ?_
  refine beginL (S := (fun w' => w'.cell? ⟨b, 10, none⟩ = some (.int .i64 R.rept))) (L := []) (by kernel_rfl) (Gy.box.cell 10 rfl) (fun hHeld => ?_)
  refine tkW 0 ?_
  refine tkW 1 ?_
  refine tkW 2 ?_
  refine tkW 3 ?_
  refine tkW 4 ?_
  refine tkW 5 ?_
  refine tkW 6 ?_
  refine tkL 7 ?_
  refine tkW 8 ?_
  refine tkW 9 ?_
  refine tkW 10 ?_
  refine tkW 11 ?_
  refine tkW 13 ?_
  refine tkW 14 ?_
  refine tkW 15 ?_
  refine tkW 16 ?_
  refine tkL 17 ?_
  refine cnL 12 fun K hK => ?_
  go_simp
  refine (count_any _ Gy).mono ?_
  rintro e w7 ⟨rfl, hb7⟩
  have G7 := Gy.below hb7
  have L7 := below_trans Ly hb7 Ly.size
  clear hb7
  refine hK.out _ _ (G7.box.cell 10 rfl) (fun hHeld => ?_)
  clear hK K
  refine tkW 18 ?_
  refine tkW 19 ?_
  refine dnN ?_
  have HL8 := Lib.hid L7
  go_wp2_with fail
  go_ret
  exact ⟨by rw [HE.out]; rfl, HL8.out⟩
 ·have HE : Hid (gameRes R ms = 0) := Lib.hid (by unfold gameRes; rw [hx, if_neg (by simp [hc])])
  clear hx hr0
  refine wp_region_noPanic ?_
  refine beginL (S := (fun w' => w'.cell? ⟨b, 10, none⟩ = some (.int .i64 R.rept))) (L := []) (by kernel_rfl) (Gy.box.cell 10 rfl) (fun hHeld => ?_)
  refine tkW 0 ?_
  refine tkW 1 ?_
  refine tkW 2 ?_
  refine tkW 3 ?_
  refine tkW 4 ?_
  refine tkW 5 ?_
  refine tkW 6 ?_
  refine tkL 7 ?_
  refine tkW 8 ?_
  refine tkW 9 ?_
  refine tkW 10 ?_
  refine tkW 11 ?_
  refine tkW 13 ?_
  refine tkW 14 ?_
  refine tkW 15 ?_
  refine tkW 16 ?_
  refine tkL 17 ?_
  refine cnL 12 fun K hK => ?_
  go_simp
  refine (count_any _ Gy).mono ?_
  rintro e w7 ⟨rfl, hb7⟩
  have G7 := Gy.below hb7
  have L7 := below_trans Ly hb7 Ly.size
  clear hb7
  refine hK.out _ _ (G7.box.cell 10 rfl) (fun hHeld => ?_)
  clear hK K
  refine tkW 18 ?_
  refine tkW 19 ?_
  refine dnN ?_
  have HL8 := Lib.hid L7
  go_wp2_with fail
  go_ret
  exact ⟨by rw [HE.out]; rfl, HL8.out⟩
end Go.Proofs.YthklhndcdijneaaGreatDoor

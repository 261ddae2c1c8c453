/- Rules and positions as plain data, and how they lie in memory. -/
import Derived.Test.YtnieifdogllbfaaRdL
namespace Go.Proofs.Ytnieifdogllbfaa
open Go.ChangeShapes Go.WideShapes Go.ChangeAt Go.RowKit
set_option linter.unusedVariables false

structure WayZ where
  dx : Int
  dy : Int
  most : Int
  take : Int
deriving Inhabited, DecidableEq
structure PieceZ where
  letter : Int
  hand : Int
  promote : Int
  ways : List WayZ
deriving Inhabited, DecidableEq
structure EndZ where
  kind : Int
  piece : Int
  count : Int
  loses : Bool
deriving Inhabited, DecidableEq
structure RulesZ where
  name : ByteArray
  width : Int
  height : Int
  pieces : List PieceZ
  start : List Int
  falls : Bool
  keeps : Bool
  ends : List EndZ
  blocked : Int
  quiet : Int
  rept : Int
deriving Inhabited
structure PosZ where
  cells : List Int
  h0 : List Int
  h1 : List Int
  turn : Int
  quiet : Int
deriving Inhabited, DecidableEq
structure MoveZ where
  src : Int
  dst : Int
  piece : Int
deriving Inhabited, DecidableEq

/-! ### in memory -/
def wayEl : El WayZ where
  k := 4
  E := fun _ x cs => cs = [.int .i64 x.dx, .int .i64 x.dy, .int .i64 x.most, .int .i64 x.take]
  mono := fun h _ _ => h
  len := fun h => by subst h; rfl
def pieceEl : El PieceZ where
  k := 4
  E := fun w x cs => ∃ v, cs = [.int .u8 x.letter, .int .i64 x.hand, .int .i64 x.promote, v] ∧ RdL wayEl w v x.ways
  mono := fun ⟨v, h, hr⟩ hb hB => ⟨v, h, hr.below hb hB⟩
  len := fun ⟨v, h, _⟩ => by subst h; rfl
def endEl : El EndZ where
  k := 4
  E := fun _ x cs => cs = [.int .i64 x.kind, .int .i64 x.piece, .int .i64 x.count, .bool x.loses]
  mono := fun h _ _ => h
  len := fun h => by subst h; rfl
def moveEl : El MoveZ where
  k := 3
  E := fun _ x cs => cs = [.int .i64 x.src, .int .i64 x.dst, .int .i64 x.piece]
  mono := fun h _ _ => h
  len := fun h => by subst h; rfl

def rulesV (R : RulesZ) (vp vs ve : Value) : Value :=
  .agg #[.string R.name, .int .i64 R.width, .int .i64 R.height, vp, vs, .bool R.falls, .bool R.keeps, ve, .int .i64 R.blocked, .int .i64 R.quiet, .int .i64 R.rept]
/-- the slices of rules are read. -/
def RdR (w : World) (R : RulesZ) (vp vs ve : Value) : Prop := RdL pieceEl w vp R.pieces ∧ RdI w vs R.start ∧ RdL endEl w ve R.ends
theorem RdR.below {w w' : World} {R : RulesZ} {vp vs ve : Value} {B : Nat} (h : RdR w R vp vs ve) (hb : Below B w w') (hB : w.heap.size ≤ B) : RdR w' R vp vs ve :=
  ⟨h.1.below hb hB, h.2.1.below hb hB, h.2.2.below hb hB⟩
def posV (p : PosZ) (vc v0 v1 : Value) : Value := .agg #[vc, v0, v1, .int .i64 p.turn, .int .i64 p.quiet]
def RdP (w : World) (p : PosZ) (vc v0 v1 : Value) : Prop := RdI w vc p.cells ∧ RdI w v0 p.h0 ∧ RdI w v1 p.h1
theorem RdP.below {w w' : World} {p : PosZ} {vc v0 v1 : Value} {B : Nat} (h : RdP w p vc v0 v1) (hb : Below B w w') (hB : w.heap.size ≤ B) : RdP w' p vc v0 v1 :=
  ⟨h.1.below hb hB, h.2.1.below hb hB, h.2.2.below hb hB⟩

theorem ways_some {w : World} {a : Option Addr} {n c : Nat} {xs : List WayZ} (h : RdL wayEl w (.slice a n c) xs) (hn : 0 < xs.length) : ∃ g o, a = some ⟨g, o, none⟩ ∧ g < w.heap.size ∧
    ∀ i, i < xs.length → w.cell? ⟨g, o + i * 4, none⟩ = some (.int .i64 (xs.getD i default).dx) ∧ w.cell? ⟨g, o + i * 4 + 1, none⟩ = some (.int .i64 (xs.getD i default).dy) ∧
      w.cell? ⟨g, o + i * 4 + 2, none⟩ = some (.int .i64 (xs.getD i default).most) ∧ w.cell? ⟨g, o + i * 4 + 3, none⟩ = some (.int .i64 (xs.getD i default).take) := by
  obtain ⟨g, o, ha, hg, hc⟩ := h.some hn
  refine ⟨g, o, ha, hg, fun i hi => ?_⟩
  obtain ⟨cs, he, hx⟩ := hc i hi
  simp only [wayEl] at he hx
  subst he
  rw [List.getD_eq_getElem?_getD, List.getElem?_eq_getElem hi]
  exact ⟨hx 0 (by omega), hx 1 (by omega), hx 2 (by omega), hx 3 (by omega)⟩
theorem ends_some {w : World} {a : Option Addr} {n c : Nat} {xs : List EndZ} (h : RdL endEl w (.slice a n c) xs) (hn : 0 < xs.length) : ∃ g o, a = some ⟨g, o, none⟩ ∧ g < w.heap.size ∧
    ∀ i, i < xs.length → w.cell? ⟨g, o + i * 4, none⟩ = some (.int .i64 (xs.getD i default).kind) ∧ w.cell? ⟨g, o + i * 4 + 1, none⟩ = some (.int .i64 (xs.getD i default).piece) ∧
      w.cell? ⟨g, o + i * 4 + 2, none⟩ = some (.int .i64 (xs.getD i default).count) ∧ w.cell? ⟨g, o + i * 4 + 3, none⟩ = some (.bool (xs.getD i default).loses) := by
  obtain ⟨g, o, ha, hg, hc⟩ := h.some hn
  refine ⟨g, o, ha, hg, fun i hi => ?_⟩
  obtain ⟨cs, he, hx⟩ := hc i hi
  simp only [endEl] at he hx
  subst he
  rw [List.getD_eq_getElem?_getD, List.getElem?_eq_getElem hi]
  exact ⟨hx 0 (by omega), hx 1 (by omega), hx 2 (by omega), hx 3 (by omega)⟩
theorem moves_some {w : World} {a : Option Addr} {n c : Nat} {xs : List MoveZ} (h : RdL moveEl w (.slice a n c) xs) (hn : 0 < xs.length) : ∃ g o, a = some ⟨g, o, none⟩ ∧ g < w.heap.size ∧
    ∀ i, i < xs.length → w.cell? ⟨g, o + i * 3, none⟩ = some (.int .i64 (xs.getD i default).src) ∧ w.cell? ⟨g, o + i * 3 + 1, none⟩ = some (.int .i64 (xs.getD i default).dst) ∧
      w.cell? ⟨g, o + i * 3 + 2, none⟩ = some (.int .i64 (xs.getD i default).piece) := by
  obtain ⟨g, o, ha, hg, hc⟩ := h.some hn
  refine ⟨g, o, ha, hg, fun i hi => ?_⟩
  obtain ⟨cs, he, hx⟩ := hc i hi
  simp only [moveEl] at he hx
  subst he
  rw [List.getD_eq_getElem?_getD, List.getElem?_eq_getElem hi]
  exact ⟨hx 0 (by omega), hx 1 (by omega), hx 2 (by omega)⟩
theorem pieces_some {w : World} {a : Option Addr} {n c : Nat} {xs : List PieceZ} (h : RdL pieceEl w (.slice a n c) xs) (hn : 0 < xs.length) : ∃ g o, a = some ⟨g, o, none⟩ ∧ g < w.heap.size ∧
    ∀ i, i < xs.length → ∃ v, w.cell? ⟨g, o + i * 4, none⟩ = some (.int .u8 (xs.getD i default).letter) ∧ w.cell? ⟨g, o + i * 4 + 1, none⟩ = some (.int .i64 (xs.getD i default).hand) ∧
      w.cell? ⟨g, o + i * 4 + 2, none⟩ = some (.int .i64 (xs.getD i default).promote) ∧ w.cell? ⟨g, o + i * 4 + 3, none⟩ = some v ∧ RdL wayEl w v (xs.getD i default).ways := by
  obtain ⟨g, o, ha, hg, hc⟩ := h.some hn
  refine ⟨g, o, ha, hg, fun i hi => ?_⟩
  obtain ⟨cs, ⟨v, he, hr⟩, hx⟩ := hc i hi
  simp only [pieceEl] at hx
  subst he
  rw [List.getD_eq_getElem?_getD, List.getElem?_eq_getElem hi]
  exact ⟨v, hx 0 (by omega), hx 1 (by omega), hx 2 (by omega), hx 3 (by omega), hr⟩

/-! ### what rules.Check says -/
def wb (n lo hi : Int) : Bool := decide (lo ≤ n) && decide (n ≤ hi)
theorem wb_iff (n lo hi : Int) : wb n lo hi = true ↔ lo ≤ n ∧ n ≤ hi := by simp [wb]
def nameCh (i : Nat) (c : Nat) : Bool := (decide (65 ≤ c) && decide (c ≤ 90)) || (decide (i ≠ 0) && decide (48 ≤ c) && decide (c ≤ 57))
def nameFrom (s : List UInt8) (k : Nat) : Nat → Bool
  | 0 => true
  | m + 1 => nameCh k (s.getD k 0).toNat && nameFrom s (k + 1) m
def nameOk (s : ByteArray) : Bool := nameFrom s.data.toList 0 s.size && decide (0 < s.size) && decide (s.size ≤ 8)
def wayOk (x : WayZ) : Bool := wb x.dx (-7) 7 && wb x.dy (-7) 7 && !(x.dx == 0 && x.dy == 0) && wb x.most 1 7 && wb x.take 0 2
def pieceErr (ps : List PieceZ) (i : Nat) : Int :=
  if (ps.getD i default).letter < 65 ∨ 90 < (ps.getD i default).letter then 6
  else if (ps.take i).any (fun q => q.letter == (ps.getD i default).letter) = true then 7
  else if wb (ps.getD i default).hand 0 64 = false ∨ wb (ps.getD i default).promote 0 ps.length = false then 4
  else if 16 < (ps.getD i default).ways.length then 2
  else if (ps.getD i default).ways.all wayOk = true then 0 else 4
def piecesErr (ps : List PieceZ) : Int := if ps.length = 0 then 8 else if 6 < ps.length then 2 else scanE (pieceErr ps) 0 ps.length
def endErr (np : Nat) (x : EndZ) : Int :=
  if (x.kind == 0) = true then (if (wb x.count 1 64 && x.piece == 0) = true then 0 else 4)
  else if (x.kind == 1) = true then (if (x.count == 0 && wb x.piece 0 ((np : Int) - 1)) = true then 0 else 4)
  else if (x.kind == 2) = true then (if (wb x.count 1 64 && wb x.piece 0 ((np : Int) - 1)) = true then 0 else 4)
  else 1
def condErr (R : RulesZ) : Int := if 6 < R.ends.length then 2 else scanE (fun i => endErr R.pieces.length (R.ends.getD i default)) 0 R.ends.length
def rulesErr (R : RulesZ) : Int :=
  if nameOk R.name = false then 6
  else if wb R.width 1 8 = false ∨ wb R.height 1 8 = false then 4
  else if piecesErr R.pieces ≠ 0 then piecesErr R.pieces
  else if (R.start.length : Int) ≠ R.width * R.height then 3
  else if R.start.any (fun c => !wb c 0 (2 * (R.pieces.length : Int))) = true then 4
  else if condErr R ≠ 0 then condErr R
  else if wb R.blocked 0 2 = false ∨ wb R.quiet 0 200 = false ∨ (R.rept ≠ 0 ∧ wb R.rept 2 5 = false) then 4
  else 0
end Go.Proofs.Ytnieifdogllbfaa

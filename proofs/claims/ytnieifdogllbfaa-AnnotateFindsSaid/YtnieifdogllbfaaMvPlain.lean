/- What valid rules and positions are; moves as plain data. -/
import Derived.Test.YtnieifdogllbfaaEngBegin
namespace Go.Proofs.Ytnieifdogllbfaa
set_option linter.unusedVariables false

structure ROk (R : RulesZ) : Prop where
  w : 1 ≤ R.width ∧ R.width ≤ 8
  h : 1 ≤ R.height ∧ R.height ≤ 8
  np : 1 ≤ R.pieces.length ∧ R.pieces.length ≤ 6
  pc : ∀ i, i < R.pieces.length → (0 ≤ (R.pieces.getD i default).hand ∧ (R.pieces.getD i default).hand ≤ 64) ∧ (0 ≤ (R.pieces.getD i default).promote ∧ (R.pieces.getD i default).promote ≤ R.pieces.length) ∧
    (R.pieces.getD i default).ways.length ≤ 16 ∧ ∀ j, j < (R.pieces.getD i default).ways.length → wayOk ((R.pieces.getD i default).ways.getD j default) = true
  sl : (R.start.length : Int) = R.width * R.height
  sc : ∀ c ∈ R.start, 0 ≤ c ∧ c ≤ 2 * (R.pieces.length : Int)
  en : R.ends.length ≤ 6
  ee : ∀ i, i < R.ends.length → endErr R.pieces.length (R.ends.getD i default) = 0
  bl : 0 ≤ R.blocked ∧ R.blocked ≤ 2
  qu : 0 ≤ R.quiet ∧ R.quiet ≤ 200
  re : R.rept = 0 ∨ (2 ≤ R.rept ∧ R.rept ≤ 5)

theorem wb_not {n lo hi : Int} (h : ¬ wb n lo hi = false) : lo ≤ n ∧ n ≤ hi := (wb_iff _ _ _).1 (by cases hb : wb n lo hi <;> simp_all)
theorem pieceErr_ok {ps : List PieceZ} {i : Nat} (h : pieceErr ps i = 0) : (0 ≤ (ps.getD i default).hand ∧ (ps.getD i default).hand ≤ 64) ∧ (0 ≤ (ps.getD i default).promote ∧ (ps.getD i default).promote ≤ ps.length) ∧
    (ps.getD i default).ways.length ≤ 16 ∧ ∀ j, j < (ps.getD i default).ways.length → wayOk ((ps.getD i default).ways.getD j default) = true := by
  unfold pieceErr at h
  generalize ps.getD i default = x at *
  by_cases e1 : x.letter < 65 ∨ 90 < x.letter
  · rw [if_pos e1] at h; cases h
  rw [if_neg e1] at h
  by_cases e2 : (ps.take i).any (fun q => q.letter == x.letter) = true
  · rw [if_pos e2] at h; cases h
  rw [if_neg e2] at h
  by_cases e3 : wb x.hand 0 64 = false ∨ wb x.promote 0 ps.length = false
  · rw [if_pos e3] at h; cases h
  rw [if_neg e3] at h
  by_cases e4 : 16 < x.ways.length
  · rw [if_pos e4] at h; cases h
  rw [if_neg e4] at h
  by_cases e5 : x.ways.all wayOk = true
  · refine ⟨wb_not (fun e => e3 (.inl e)), wb_not (fun e => e3 (.inr e)), by omega, fun j hj => ?_⟩
    rw [List.all_eq_true] at e5
    rw [List.getD_eq_getElem?_getD, List.getElem?_eq_getElem hj]
    exact e5 _ (List.getElem_mem hj)
  · rw [if_neg e5] at h; cases h

theorem rok_of {R : RulesZ} (h : rulesErr R = 0) : ROk R := by
  obtain ⟨hw, hh, hn⟩ := rulesOk h
  unfold rulesErr at h
  by_cases e1 : nameOk R.name = false
  · rw [if_pos e1] at h; cases h
  rw [if_neg e1] at h
  by_cases e2 : wb R.width 1 8 = false ∨ wb R.height 1 8 = false
  · rw [if_pos e2] at h; cases h
  rw [if_neg e2] at h
  by_cases e3 : piecesErr R.pieces ≠ 0
  · rw [if_pos e3] at h; exact absurd h e3
  rw [if_neg e3] at h
  by_cases e4 : (R.start.length : Int) ≠ R.width * R.height
  · rw [if_pos e4] at h; cases h
  rw [if_neg e4] at h
  by_cases e5 : R.start.any (fun c => !wb c 0 (2 * (R.pieces.length : Int))) = true
  · rw [if_pos e5] at h; cases h
  rw [if_neg e5] at h
  by_cases e6 : condErr R ≠ 0
  · rw [if_pos e6] at h; exact absurd h e6
  rw [if_neg e6] at h
  by_cases e7 : wb R.blocked 0 2 = false ∨ wb R.quiet 0 200 = false ∨ (R.rept ≠ 0 ∧ wb R.rept 2 5 = false)
  · rw [if_pos e7] at h; cases h
  have e3' : piecesErr R.pieces = 0 := by simpa using e3
  have e6' : condErr R = 0 := by simpa using e6
  refine ⟨hw, hh, hn, fun i hi => ?_, by omega, fun c hc => ?_, ?_, fun i hi => ?_, wb_not (fun e => e7 (.inl e)), wb_not (fun e => e7 (.inr (.inl e))), ?_⟩
  · unfold piecesErr at e3'
    rw [if_neg (by omega), if_neg (by omega)] at e3'
    exact pieceErr_ok ((scanE_zero _ _ _).1 e3' i (Nat.zero_le _) (by omega))
  · have : ¬ wb c 0 (2 * (R.pieces.length : Int)) = false := fun e => e5 (List.any_eq_true.2 ⟨c, hc, by simp [e]⟩)
    exact wb_not this
  · unfold condErr at e6'
    by_cases f : 6 < R.ends.length
    · rw [if_pos f] at e6'; cases e6'
    · omega
  · unfold condErr at e6'
    by_cases f : 6 < R.ends.length
    · rw [if_pos f] at e6'; cases e6'
    · rw [if_neg f] at e6'
      exact (scanE_zero _ _ _).1 e6' i (Nat.zero_le _) (by omega)
  · by_cases f : R.rept = 0
    · exact .inl f
    · exact .inr (wb_not (fun e => e7 (.inr (.inr ⟨f, e⟩))))

structure POk (R : RulesZ) (p : PosZ) : Prop where
  r : ROk R
  cl : (p.cells.length : Int) = R.width * R.height
  l0 : p.h0.length = R.pieces.length
  l1 : p.h1.length = R.pieces.length
  cb : ∀ c ∈ p.cells, 0 ≤ c ∧ c ≤ 2 * (R.pieces.length : Int)
  b0 : ∀ c ∈ p.h0, 0 ≤ c ∧ c ≤ 1000
  b1 : ∀ c ∈ p.h1, 0 ≤ c ∧ c ≤ 1000
  tu : p.turn = 0 ∨ p.turn = 1
  qu : 0 ≤ p.quiet ∧ p.quiet ≤ 200

theorem pok_of {R : RulesZ} {p : PosZ} (h : posErr R p = 0) : POk R p := by
  unfold posErr at h
  by_cases e1 : rulesErr R ≠ 0
  · rw [if_pos e1] at h; exact absurd h e1
  rw [if_neg e1] at h
  have hr : rulesErr R = 0 := by simpa using e1
  unfold soundErr at h
  by_cases e2 : (p.cells.length : Int) ≠ R.width * R.height ∨ p.h0.length ≠ R.pieces.length ∨ p.h1.length ≠ R.pieces.length
  · rw [if_pos e2] at h; cases h
  rw [if_neg e2] at h
  by_cases e3 : p.cells.any (fun z => !wb z 0 (2 * (R.pieces.length : Int))) = true ∨ (p.h0 ++ p.h1).any (fun z => !wb z 0 1000) = true ∨ (p.turn ≠ 0 ∧ p.turn ≠ 1) ∨ p.quiet < 0 ∨ 200 < p.quiet
  · rw [if_pos e3] at h; cases h
  refine ⟨rok_of hr, by omega, by omega, by omega, fun c hc => ?_, fun c hc => ?_, fun c hc => ?_, by omega, by omega⟩
  · exact wb_not fun e => e3 (.inl (List.any_eq_true.2 ⟨c, hc, by simp [e]⟩))
  · exact wb_not fun e => e3 (.inr (.inl (List.any_eq_true.2 ⟨c, List.mem_append_left _ hc, by simp [e]⟩)))
  · exact wb_not fun e => e3 (.inr (.inl (List.any_eq_true.2 ⟨c, List.mem_append_right _ hc, by simp [e]⟩)))
theorem pos_of {R : RulesZ} {p : PosZ} (hr : rulesErr R = 0) (h : POk R p) : posErr R p = 0 := by
  unfold posErr
  rw [if_neg (by simpa using hr)]
  unfold soundErr
  rw [if_neg (by have := h.cl; have := h.l0; have := h.l1; omega), if_neg]
  intro e
  rcases e with e | e | e | e | e
  · obtain ⟨c, hc, e⟩ := List.any_eq_true.1 e
    rw [(wb_iff _ _ _).2 (h.cb c hc)] at e
    cases e
  · obtain ⟨c, hc, e⟩ := List.any_eq_true.1 e
    rw [(wb_iff _ _ _).2 (by rcases List.mem_append.1 hc with hc | hc; exact h.b0 c hc; exact h.b1 c hc)] at e
    cases e
  · have := h.tu; omega
  · have := h.qu; omega
  · have := h.qu; omega
theorem POk.len {R : RulesZ} {p : PosZ} (h : POk R p) : p.cells.length ≤ 64 := by
  have h1 := mul_in R.width R.height 8 8 h.r.w.1 h.r.w.2 h.r.h.1 h.r.h.2
  have h2 := h.cl
  omega
theorem POk.cell {R : RulesZ} {p : PosZ} (h : POk R p) (i : Nat) : 0 ≤ p.cells.getD i 0 ∧ p.cells.getD i 0 ≤ 2 * (R.pieces.length : Int) := by
  by_cases hi : i < p.cells.length
  · rw [List.getD_eq_getElem?_getD, List.getElem?_eq_getElem hi]
    exact h.cb _ (List.getElem_mem hi)
  · rw [List.getD_eq_getElem?_getD, List.getElem?_eq_none (by omega)]
    simp; omega

/-! ### moves -/
/-- the hand of a player. -/
def PosZ.hand (p : PosZ) (t : Int) : List Int := if t = 0 then p.h0 else p.h1
/-- all squares below are occupied. -/
def filledZ (W : Nat) (cells : List Int) (s : Nat) : Bool := (List.range (s / W)).all fun k => cells.getD (s - (k + 1) * W) 0 != 0
def putsAt (R : RulesZ) (p : PosZ) (s : Nat) : List MoveZ :=
  if p.cells.getD s 0 ≠ 0 ∨ (R.falls = true ∧ R.width ≤ s ∧ filledZ R.width.toNat p.cells s = false) then []
  else (List.range (p.hand p.turn).length).filterMap fun k => if 0 < (p.hand p.turn).getD k 0 then some ⟨-1, s, k⟩ else none
def putsZ (R : RulesZ) (p : PosZ) : List MoveZ := (List.range p.cells.length).flatMap (putsAt R p)
def otherZ (c turn : Int) : Bool := decide (0 < c) && !((c - 1) % 2 == turn)
def takesZ (take c turn : Int) : Bool := (take == 0 && c == 0) || (take == 1 && (c == 0 || otherZ c turn)) || (take == 2 && otherZ c turn)
def wayFrom (R : RulesZ) (p : PosZ) (x : WayZ) (dy : Int) : Nat → Int → Int → List Int
  | 0, _, _ => []
  | n + 1, a, b =>
    if a + x.dx < 0 ∨ R.width ≤ a + x.dx ∨ b + dy < 0 ∨ R.height ≤ b + dy then []
    else (if takesZ x.take (p.cells.getD ((b + dy) * R.width + (a + x.dx)).toNat 0) p.turn = true then [(b + dy) * R.width + (a + x.dx)] else []) ++
      if p.cells.getD ((b + dy) * R.width + (a + x.dx)).toNat 0 ≠ 0 then [] else wayFrom R p x dy n (a + x.dx) (b + dy)
def wayZ (R : RulesZ) (p : PosZ) (s : Int) (x : WayZ) : List Int := wayFrom R p x (if p.turn = 1 then -x.dy else x.dy) x.most.toNat (s % R.width) (s / R.width)
def lastZ (R : RulesZ) (player s : Int) : Bool := if player = 0 then s / R.width == R.height - 1 else s / R.width == 0
def moveTo (R : RulesZ) (p : PosZ) (s k t : Int) : MoveZ :=
  ⟨s, t, if 0 < (R.pieces.getD k.toNat default).promote ∧ lastZ R p.turn t = true then (R.pieces.getD k.toNat default).promote - 1 else k⟩
def stepsAt (R : RulesZ) (p : PosZ) (s : Nat) : List MoveZ :=
  if p.cells.getD s 0 = 0 ∨ (p.cells.getD s 0 - 1) % 2 ≠ p.turn then []
  else (R.pieces.getD ((p.cells.getD s 0 - 1) / 2).toNat default).ways.flatMap fun x => (wayZ R p s x).map (moveTo R p s ((p.cells.getD s 0 - 1) / 2))
def rawZ (R : RulesZ) (p : PosZ) : List MoveZ := putsZ R p ++ (List.range p.cells.length).flatMap (stepsAt R p)
end Go.Proofs.Ytnieifdogllbfaa

/- Plainly: the schedule of robin.All is accepted, and one with an exchanged player is not. -/
import Derived.Test.YtdmidjcjmkcopaaRobChk
namespace Go.Proofs.Ytdmidjcjmkcopaa
set_option linter.unusedVariables false

def allZ (n : Nat) (tw : Bool) : List (List (Int × Int)) := (List.range (roundsZ n tw).toNat).map fun r : Nat => gamesZ n r

/-- all codes differ: a mask of those that have come. -/
def goM (code : Int × Int → Nat) : List (Int × Int) → Nat → Option Nat
  | [], m => some m
  | g :: t, m => if m.testBit (code g) = true then none else goM code t (m ||| 1 <<< code g)
theorem goM_sound (code : Int × Int → Nat) : ∀ (gs : List (Int × Int)) (m m' : Nat), goM code gs m = some m' → ∀ c, gs.countP (fun g => code g == c) + (if m.testBit c = true then 1 else 0) = if m'.testBit c = true then 1 else 0 := by
  intro gs
  induction gs with
  | nil => intro m m' h c; simp [goM] at h; subst h; simp
  | cons g t ih =>
    intro m m' h c
    unfold goM at h
    split at h
    · cases h
    · rename_i hm
      have := ih _ _ h c
      rw [← this, List.countP_cons]
      have hb : (m ||| 1 <<< code g).testBit c = (m.testBit c || (code g == c)) := by
        rw [Nat.testBit_or, Nat.one_shiftLeft, Nat.testBit_two_pow]
        rfl
      rw [hb]
      by_cases hc : code g = c
      · subst hc
        simp [hm]
      · simp [hc]
def codeS (g : Int × Int) : Nat := if g.1 < g.2 then g.2.toNat * 32 + g.1.toNat else g.1.toNat * 32 + g.2.toNat
def codeT (g : Int × Int) : Nat := g.1.toNat * 32 + g.2.toNat
def fullM (n : Nat) (tw : Bool) (m : Nat) : Bool := (List.range n).all fun a => (List.range a).all fun b => m.testBit (a * 32 + b) && (!tw || m.testBit (b * 32 + a))
def wholeB (n : Nat) (tw : Bool) : Bool := rowsE n (allZ n tw) == 0 && match goM (if tw = true then codeT else codeS) (allZ n tw).flatten 0 with | some m => fullM n tw m | none => false

theorem cnt_countP (gs : List (Int × Int)) (p : Int × Int) : cnt gs p = ((gs.countP fun g => g == p : Nat) : Int) := by
  unfold cnt; rw [List.countP_eq_length_filter]
theorem pairs_of_mask (n : Nat) (tw : Bool) (gs : List (Int × Int)) (hn : n ≤ 32) (hg : ∀ g ∈ gs, 0 ≤ g.1 ∧ g.1 < n ∧ 0 ≤ g.2 ∧ g.2 < n ∧ g.1 ≠ g.2) (m : Nat) (h : goM (if tw = true then codeT else codeS) gs 0 = some m) (hf : fullM n tw m = true) : pairsOk n tw gs = true := by
  unfold pairsOk
  rw [List.all_eq_true]
  intro a ha
  rw [List.all_eq_true]
  intro b hb
  have ha' := List.mem_range.1 ha
  have hb' := List.mem_range.1 hb
  have hbit := List.all_eq_true.1 (List.all_eq_true.1 hf a ha) b hb
  have hs := goM_sound _ gs 0 m h
  cases tw
  · simp only [Bool.false_eq_true, if_false] at hs
    have h1 := hs (a * 32 + b)
    simp at hbit h1
    rw [hbit] at h1
    simp only [if_true] at h1
    unfold okPair
    rw [if_neg (by simp), cnt_countP, cnt_countP]
    have key : ∀ l : List (Int × Int), (∀ g ∈ l, 0 ≤ g.1 ∧ g.1 < n ∧ 0 ≤ g.2 ∧ g.2 < n ∧ g.1 ≠ g.2) → l.countP (fun g => codeS g == a * 32 + b) = l.countP (fun g => g == ((a : Int), (b : Int))) + l.countP (fun g => g == ((b : Int), (a : Int))) := by
      intro l
      induction l with
      | nil => intro _; rfl
      | cons g t ih =>
        intro hl
        have hg' := hl g (by simp)
        rw [List.countP_cons, List.countP_cons, List.countP_cons, ih (fun x hx => hl x (by simp [hx]))]
        obtain ⟨x, y⟩ := g
        simp only at hg'
        have e1 : (codeS (x, y) == a * 32 + b) = ((x, y) == ((a : Int), (b : Int)) || (x, y) == ((b : Int), (a : Int))) := by
          rw [Bool.eq_iff_iff]
          simp only [beq_iff_eq, Bool.or_eq_true, Prod.mk.injEq, codeS]
          split <;> omega
        have e2 : ¬ (((x, y) == ((a : Int), (b : Int))) = true ∧ ((x, y) == ((b : Int), (a : Int))) = true) := by
          simp only [beq_iff_eq, Prod.mk.injEq]; omega
        rw [e1]
        cases hx : ((x, y) == ((a : Int), (b : Int))) <;> cases hy : ((x, y) == ((b : Int), (a : Int))) <;> simp [hx, hy] at e2 ⊢ <;> omega
    have := key gs hg
    simp
    omega
  · simp only [if_true] at hs
    have key : ∀ (p q : Nat), p < 32 → q < 32 → gs.countP (fun g => codeT g == p * 32 + q) = gs.countP (fun g => g == ((p : Int), (q : Int))) := by
      intro p q hp hq
      apply List.countP_congr
      intro g hg1
      have := hg g hg1
      obtain ⟨x, y⟩ := g
      simp only [beq_iff_eq, Prod.mk.injEq, codeT] at this ⊢
      omega
    simp at hbit
    have h1 := hs (a * 32 + b)
    have h2 := hs (b * 32 + a)
    rw [hbit.1] at h1
    rw [hbit.2] at h2
    rw [key a b (by omega) (by omega)] at h1
    rw [key b a (by omega) (by omega)] at h2
    simp at h1 h2
    unfold okPair
    rw [if_pos rfl, cnt_countP, cnt_countP]
    simp
    omega

theorem allZ_ok (n : Nat) (tw : Bool) (h0 : 2 ≤ n) (h1 : n ≤ 32) : ∀ g ∈ (allZ n tw).flatten, 0 ≤ g.1 ∧ g.1 < n ∧ 0 ≤ g.2 ∧ g.2 < n ∧ g.1 ≠ g.2 := by
  intro g hg
  obtain ⟨l, hl, hgl⟩ := List.mem_flatten.1 hg
  obtain ⟨r, hr, rfl⟩ := List.mem_map.1 hl
  have hr' := List.mem_range.1 hr
  have : roundsZ n tw ≤ 62 := by unfold roundsZ halfZ; split <;> omega
  exact games_ok n r h0 h1 (by omega) g hgl
theorem allZ_len (n : Nat) (tw : Bool) (h0 : 2 ≤ n) (h1 : n ≤ 32) : ((allZ n tw).length : Int) = roundsZ n tw := by
  have : 1 ≤ roundsZ n tw := by unfold roundsZ halfZ; split <;> omega
  unfold allZ; simp; omega
theorem whole_of (n : Nat) (tw : Bool) (h0 : 2 ≤ n) (h1 : n ≤ 32) (h : wholeB n tw = true) : checkZ n tw (allZ n tw) = 0 ∧ pairsOk n tw (allZ n tw).flatten = true := by
  unfold wholeB at h
  rw [Bool.and_eq_true, beq_iff_eq] at h
  obtain ⟨ha, hb⟩ := h
  have hp : pairsOk n tw (allZ n tw).flatten = true := by
    split at hb
    · rename_i m hm
      exact pairs_of_mask n tw _ h1 (allZ_ok n tw h0 h1) m hm hb
    · cases hb
  refine ⟨?_, hp⟩
  unfold checkZ
  rw [if_neg (by simpa using allZ_len n tw h0 h1), if_neg (by simpa using ha), if_pos hp]
theorem whole_all : ((List.range 33).all fun n => decide (n < 2) || (wholeB n true && wholeB n false)) = true := by decide +kernel
theorem whole (n : Nat) (tw : Bool) (h0 : 2 ≤ n) (h1 : n ≤ 32) : checkZ n tw (allZ n tw) = 0 ∧ pairsOk n tw (allZ n tw).flatten = true := by
  have h := List.all_eq_true.1 whole_all n (List.mem_range.2 (by omega))
  rw [Bool.or_eq_true, decide_eq_true_eq] at h
  have h3 := h.resolve_left (by omega)
  rw [Bool.and_eq_true] at h3
  refine whole_of n tw h0 h1 ?_
  cases tw
  · exact h3.2
  · exact h3.1
end Go.Proofs.Ytdmidjcjmkcopaa

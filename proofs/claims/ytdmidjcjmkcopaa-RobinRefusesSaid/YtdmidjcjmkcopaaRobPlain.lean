/- Plain facts on the games of a schedule: by the kernel, over all numbers of players and all rounds. -/
import Derived.Test.YtdmidjcjmkcopaaRobGames
namespace Go.Proofs.Ytdmidjcjmkcopaa
set_option linter.unusedVariables false

/-- both players are among n and differ. -/
def gameOk (n : Int) (g : Int × Int) : Bool := decide (0 ≤ g.1) && decide (g.1 < n) && decide (0 ≤ g.2) && decide (g.2 < n) && !(g.1 == g.2)
def allOk : Bool := (List.range 33).all fun n => (List.range 62).all fun r => decide (n < 2) || (gamesZ n r).all (gameOk n)
theorem allOk_true : allOk = true := by decide +kernel
theorem games_ok (n round : Nat) (h0 : 2 ≤ n) (h1 : n ≤ 32) (hr : round < 62) : ∀ g ∈ gamesZ n round, (0 ≤ g.1 ∧ g.1 < n ∧ 0 ≤ g.2 ∧ g.2 < n ∧ g.1 ≠ g.2) := by
  have h := List.all_eq_true.1 allOk_true n (List.mem_range.2 (by omega))
  have h2 := List.all_eq_true.1 h round (List.mem_range.2 (by omega))
  rw [Bool.or_eq_true, decide_eq_true_eq] at h2
  have h3 := h2.resolve_left (by omega)
  intro g hg
  have h4 := List.all_eq_true.1 h3 g hg
  simp only [gameOk, Bool.and_eq_true, decide_eq_true_eq, Bool.not_eq_true', beq_eq_false_iff_ne] at h4
  omega
theorem games_len (n round : Int) (h0 : 2 ≤ n) (h1 : n ≤ 32) : (gamesZ n round).length ≤ 17 := by
  have := gTo_len n (halfZ n) (round % halfZ n) (decide (halfZ n ≤ round)) ((halfZ n + 1) / 2 - 1).toNat
  unfold gamesZ halfZ at *; omega

/-- how often each player moves first less how often second. -/
def addAt (l : List Int) (i : Nat) (d : Int) : List Int := l.set i (l.getD i 0 + d)
def col1 (l : List Int) (g : Int × Int) : List Int := addAt (addAt l g.1.toNat 1) g.2.toNat (-1)
def colR (l : List Int) (gs : List (Int × Int)) : List Int := gs.foldl col1 l
def colTo (n : Nat) (r : Nat) : List Int := (List.range r).foldl (fun l (j : Nat) => colR l (gamesZ n j)) (List.replicate n 0)
theorem colTo_succ (n r : Nat) : colTo n (r + 1) = colR (colTo n r) (gamesZ n r) := by
  unfold colTo; rw [List.range_succ, List.foldl_append]; rfl
theorem addAt_len (l : List Int) (i : Nat) (d : Int) : (addAt l i d).length = l.length := by unfold addAt; simp
theorem col1_len (l : List Int) (g : Int × Int) : (col1 l g).length = l.length := by unfold col1; rw [addAt_len, addAt_len]
theorem colR_len (gs : List (Int × Int)) : ∀ l : List Int, (colR l gs).length = l.length := by
  induction gs with
  | nil => intro l; rfl
  | cons g t ih => intro l; show (colR (col1 l g) t).length = _; rw [ih, col1_len]
theorem colTo_len (n r : Nat) : (colTo n r).length = n := by
  induction r with
  | zero => simp [colTo]
  | succ r ih => rw [colTo_succ, colR_len, ih]
/-- all entries lie within m. -/
def In (m : Int) (l : List Int) : Prop := ∀ i : Nat, -m ≤ l.getD i 0 ∧ l.getD i 0 ≤ m
theorem In_addAt {m : Int} {l : List Int} (h : In m l) (hm : 0 ≤ m) (i : Nat) (d : Int) (hd : -1 ≤ d ∧ d ≤ 1) : In (m + 1) (addAt l i d) := by
  intro j
  have hi := h i
  have hj := h j
  unfold addAt
  rw [List.getD_eq_getElem?_getD, List.getElem?_set]
  rw [List.getD_eq_getElem?_getD] at hj
  by_cases e : i = j
  · rw [if_pos e]
    by_cases e2 : i < l.length
    · rw [if_pos e2]; simp only [Option.getD_some]; omega
    · rw [if_neg e2]; simp; omega
  · rw [if_neg e]; omega
theorem In_col1 {m : Int} {l : List Int} (h : In m l) (hm : 0 ≤ m) (g : Int × Int) : In (m + 2) (col1 l g) := by
  have := In_addAt (In_addAt h hm g.1.toNat 1 (by omega)) (by omega) g.2.toNat (-1) (by omega)
  unfold col1
  have e : m + 1 + 1 = m + 2 := by omega
  rw [e] at this
  exact this
theorem In_colR (gs : List (Int × Int)) : ∀ {m : Int} {l : List Int}, In m l → 0 ≤ m → In (m + 2 * gs.length) (colR l gs) := by
  induction gs with
  | nil => intro m l h hm; simpa [colR] using h
  | cons g t ih =>
    intro m l h hm
    have := ih (In_col1 h hm g) (by omega)
    have e : m + 2 + 2 * (t.length : Int) = m + 2 * ((g :: t).length : Nat) := by simp; omega
    rw [e] at this
    exact this
theorem In_colTo (n r : Nat) (h0 : 2 ≤ n) (h1 : n ≤ 32) : In (34 * r) (colTo n r) := by
  induction r with
  | zero => intro i; simp [colTo, List.getD]; by_cases h : i < n <;> simp [h]
  | succ r ih =>
    rw [colTo_succ]
    have := In_colR (gamesZ n r) ih (by omega)
    have hl := games_len n r (by omega) (by omega)
    intro i
    have := this i
    omega
theorem In_take (gs : List (Int × Int)) {l : List Int} (h : In 3000 l) (hl : gs.length ≤ 17) (k : Nat) : In 3100 (colR l (gs.take k)) := by
  have := In_colR (gs.take k) h (by omega)
  have h2 : (gs.take k).length ≤ gs.length := List.length_take_le' k gs
  intro i
  have := this i
  omega
theorem colR_snoc (l : List Int) (gs : List (Int × Int)) (g : Int × Int) : colR l (gs ++ [g]) = col1 (colR l gs) g := by
  unfold colR; rw [List.foldl_append]; rfl

/-- RobinFair, plainly: the rounds are gone through one after the other; each row is looked at, so that the kernel reckons it at once. -/
def runB (n : Nat) (Q : List Int → Bool) : Nat → Nat → List Int → Bool
  | 0, _, l => Q l
  | f + 1, r, l => (colR l (gamesZ n r)).all (fun x => decide (x ≤ 5000)) && runB n Q f (r + 1) (colR l (gamesZ n r))
theorem runB_sound (n : Nat) (Q : List Int → Bool) : ∀ (f r : Nat), runB n Q f r (colTo n r) = true → Q (colTo n (r + f)) = true := by
  intro f
  induction f with
  | zero => intro r h; exact h
  | succ f ih =>
    intro r h
    unfold runB at h
    rw [Bool.and_eq_true, ← colTo_succ] at h
    have := ih (r + 1) h.2
    have e : r + 1 + f = r + (f + 1) := by omega
    rw [e] at this
    exact this
def fairD (n : Nat) (tw : Bool) (d : Int) : Bool := !((tw && d != 0) || decide (d < -1) || decide (1 < d) || ((n % 2 == 1) && d != 0))
def fairOk (n : Nat) (tw : Bool) : Bool := runB n (fun l => l.all (fairD n tw)) (roundsZ n tw).toNat 0 (List.replicate n 0)
def allFair : Bool := (List.range 33).all fun n => decide (n < 2) || (fairOk n true && fairOk n false)
theorem allFair_true : allFair = true := by decide +kernel
theorem fair (n : Nat) (tw : Bool) (h0 : 2 ≤ n) (h1 : n ≤ 32) : ∀ d ∈ colTo n (roundsZ n tw).toNat, fairD n tw d = true := by
  have h := List.all_eq_true.1 allFair_true n (List.mem_range.2 (by omega))
  rw [Bool.or_eq_true, decide_eq_true_eq] at h
  have h3 := h.resolve_left (by omega)
  rw [Bool.and_eq_true] at h3
  have h4 : fairOk n tw = true := by cases tw; exact h3.2; exact h3.1
  have h5 := runB_sound n _ _ 0 h4
  rw [Nat.zero_add] at h5
  exact fun d hd => List.all_eq_true.1 h5 d hd
end Go.Proofs.Ytdmidjcjmkcopaa

/- What RobinRest leans on: robin.check, Round, Bye; the counts of games, plainly. -/
import Derived.Test.YtdmidjcjmkcopaaRobCol
import Derived.Test.YtdmidjcjmkcopaaRobinFair
namespace Go.Proofs.Ytdmidjcjmkcopaa.robinRest
open Go.ChangeShapes Go.WideShapes Go.ChangeAt Go.RowKit Go.Proofs.Ytdmidjcjmkcopaa.robinFair
set_option linter.unusedVariables false

def RoundOk (n : Int) (tw : Bool) (round : Int) : Prop := (2 ≤ n ∧ n ≤ 32) ∧ 0 ≤ round ∧ round < roundsZ n tw

theorem check_ok (n : Int) (tw : Bool) (round : Int) (w : World) (h : RoundOk n tw round) :
    Calls Try.prog 16 #[.int .i64 n, .bool tw, .int .i64 round] w fun e w' => e = .returned (.int .i64 0) ∧ w = w' := by
  obtain ⟨⟨h0, h1⟩, h2, h3⟩ := h
  go_enter Try.func16, Try.ntmps16
  go_wp2_with (go_at_call 8; refine (Rounds_ok _ _ _ (by omega) (by omega)).mono ?_; rintro e w' ⟨rfl, rfl⟩)
  go_ret
  exact ⟨rfl, rfl⟩
theorem check_no (n : Int) (tw : Bool) (round : Int) (h : ¬ RoundOk n tw round) : ∃ c : Int, c ≠ 0 ∧ ∀ w : World,
    Calls Try.prog 16 #[.int .i64 n, .bool tw, .int .i64 round] w fun e w' => e = .returned (.int .i64 c) ∧ w = w' := by
  by_cases hn : n < 2 ∨ 32 < n
  · refine ⟨4, by omega, fun w => ?_⟩
    have H := Lib.hid hn
    clear h hn
    go_enter Try.func16, Try.ntmps16
    go_wp2_with (go_at_call 8; refine (Rounds_no _ _ _ H.out).mono ?_; rintro e w' ⟨rfl, rfl⟩)
    go_ret
    exact ⟨rfl, rfl⟩
  · refine ⟨1, by omega, fun w => ?_⟩
    have h' : round < 0 ∨ (0 ≤ round ∧ roundsZ n tw ≤ round) := by
      unfold RoundOk at h
      by_cases hr : round < 0
      · exact .inl hr
      · refine .inr ⟨by omega, ?_⟩
        rcases Int.lt_or_le round (roundsZ n tw) with hl | hl
        · exact absurd ⟨⟨by omega, by omega⟩, by omega, hl⟩ h
        · exact hl
    clear h
    rcases h' with h' | ⟨h', h2⟩
    all_goals
      go_enter Try.func16, Try.ntmps16
      go_wp2_with (go_at_call 8; refine (Rounds_ok _ _ _ (by omega) (by omega)).mono ?_; rintro e w' ⟨rfl, rfl⟩)
      go_ret
      exact ⟨rfl, rfl⟩

theorem Round_ok (n : Int) (tw : Bool) (round : Int) (w : World) (h : RoundOk n tw round) :
    Calls Try.prog 10 #[.int .i64 n, .bool tw, .int .i64 round] w fun e w' => ∃ v, e = .returned (.tuple #[v, .int .i64 0]) ∧ w'.ownsRow (w.heap.size + 2) 35 2 v (gamesZ n round).length (flat (gamesZ n round)) ∧ Below w.heap.size w w' := by
  have H := Lib.hid h
  have hb : roundsZ n tw ≤ 62 := by have := h.1; unfold roundsZ halfZ; split <;> omega
  obtain ⟨⟨h0, h1⟩, h2, h3⟩ := h
  go_enter Try.func10, Try.ntmps10
  go_wp2_with fail
  refine (check_ok n tw round _ H.out).mono ?_
  rintro e w' ⟨rfl, rfl⟩
  go_wp2_with fail
  refine (games_any n round _ (by omega) (by omega) (by omega) (by omega)).mono ?_
  rintro e w1 ⟨v, rfl, hown, hb⟩
  have HO := Lib.hid hown
  clear hown
  go_wp2
  go_ret2
  exact ⟨v, rfl, HO.out, hb⟩
theorem Bye_even (n : Int) (tw : Bool) (round : Int) (w : World) (h : RoundOk n tw round) (he : (n % 2 == 0) = true) :
    Calls Try.prog 11 #[.int .i64 n, .bool tw, .int .i64 round] w fun e w' => e = .returned (.tuple #[.int .i64 (-1), .int .i64 0]) ∧ w = w' := by
  have H := Lib.hid h
  obtain ⟨⟨h0, h1⟩, h2, h3⟩ := h
  go_enter Try.func11, Try.ntmps11
  go_wp2_with fail
  refine (check_ok n tw round _ H.out).mono ?_
  rintro e w' ⟨rfl, rfl⟩
  go_wp2
  go_ret2
  exact ⟨rfl, rfl⟩
theorem Bye_odd (n : Int) (tw : Bool) (round : Int) (w : World) (h : RoundOk n tw round) (he : (n % 2 == 0) = false) :
    Calls Try.prog 11 #[.int .i64 n, .bool tw, .int .i64 round] w fun e w' => e = .returned (.tuple #[.int .i64 (round % halfZ n), .int .i64 0]) ∧ w = w' := by
  have H := Lib.hid h
  obtain ⟨⟨h0, h1⟩, h2, h3⟩ := h
  have hh : 1 ≤ halfZ n ∧ halfZ n ≤ 31 := by unfold halfZ; omega
  go_enter Try.func11, Try.ntmps11
  go_wp2_with fail
  refine (check_ok n tw round _ H.out).mono ?_
  rintro e w' ⟨rfl, rfl⟩
  go_wp2_with fail
  refine (half_any _ _ (by omega) (by omega)).mono ?_
  rintro e w' ⟨rfl, rfl⟩
  have hz : (halfZ n == 0) = false := by simp; omega
  go_wp2
  go_ret2
  exact ⟨rfl, rfl⟩

set_option maxHeartbeats 1000000 in
theorem walk_no (n : Int) (tw : Bool) (round : Int) (w : World) (h : ¬ RoundOk n tw round) :
    Calls Try.prog 4 #[.int .i64 n, .bool tw, .int .i64 round] w fun e w' => e = .returned (.bool true) ∧ Below w.heap.size w w' := by
  obtain ⟨c, hc, C⟩ := check_no n tw round h
  have HC := Lib.hid C
  clear C h
  have h1 : (c != 0) = true := by simpa using hc
  clear hc
  have R : Hid (∀ w : World, Calls Try.prog 10 #[.int .i64 n, .bool tw, .int .i64 round] w fun e w' => e = .returned (.tuple #[.slice none 0 0, .int .i64 c]) ∧ w = w') := Lib.hid (fun w => by
    go_enter Try.func10, Try.ntmps10
    go_wp2_with fail
    refine (HC.out _).mono ?_
    rintro e w' ⟨rfl, rfl⟩
    go_wp2
    go_ret2
    exact ⟨rfl, rfl⟩)
  have Y : Hid (∀ w : World, Calls Try.prog 11 #[.int .i64 n, .bool tw, .int .i64 round] w fun e w' => e = .returned (.tuple #[.int .i64 0, .int .i64 c]) ∧ w = w') := Lib.hid (fun w => by
    go_enter Try.func11, Try.ntmps11
    go_wp2_with fail
    refine (HC.out _).mono ?_
    rintro e w' ⟨rfl, rfl⟩
    go_wp2
    go_ret2
    exact ⟨rfl, rfl⟩)
  go_enter Try.func4, Try.ntmps4
  go_wp2_with fail
  refine (roundsOwn _).mono ?_
  rintro e w' ⟨rfl, rfl⟩
  go_wp2_with fail
  refine (R.out _).mono ?_
  rintro e w' ⟨rfl, rfl⟩
  go_wp2_with fail
  refine (Y.out _).mono ?_
  rintro e w' ⟨rfl, rfl⟩
  go_wp2
  go_ret
  exact ⟨rfl, Below.refl _ _⟩

/-! ### how many games each player has -/
def bus1 (l : List Int) (g : Int × Int) : List Int := addAt (addAt l g.1.toNat 1) g.2.toNat 1
def busR (l : List Int) (gs : List (Int × Int)) : List Int := gs.foldl bus1 l
theorem busR_snoc (l : List Int) (gs : List (Int × Int)) (g : Int × Int) : busR l (gs ++ [g]) = bus1 (busR l gs) g := by
  unfold busR; rw [List.foldl_append]; rfl
theorem bus1_len (l : List Int) (g : Int × Int) : (bus1 l g).length = l.length := by unfold bus1; rw [addAt_len, addAt_len]
theorem busR_len (gs : List (Int × Int)) : ∀ l : List Int, (busR l gs).length = l.length := by
  induction gs with
  | nil => intro l; rfl
  | cons g t ih => intro l; show (busR (bus1 l g) t).length = _; rw [ih, bus1_len]
theorem In_bus (gs : List (Int × Int)) : ∀ {m : Int} {l : List Int}, In m l → 0 ≤ m → In (m + 2 * gs.length) (busR l gs) := by
  induction gs with
  | nil => intro m l h hm; simpa [busR] using h
  | cons g t ih =>
    intro m l h hm
    have h1 : In (m + 2) (bus1 l g) := by
      have := In_addAt (In_addAt h hm g.1.toNat 1 (by omega)) (by omega) g.2.toNat 1 (by omega)
      have e : m + 1 + 1 = m + 2 := by omega
      rw [e] at this
      exact this
    have := ih h1 (by omega)
    have e : m + 2 + 2 * (t.length : Int) = m + 2 * ((g :: t).length : Nat) := by simp; omega
    rw [e] at this
    exact this
theorem In_zero (n : Nat) : In 0 (List.replicate n 0) := by
  intro i; simp [List.getD]; by_cases h : i < n <;> simp [h]
theorem bus_step {w : World} {base n G : Nat} {l : List Int} {a b : Nat} {xa xb : Int} (o : Obj) (hown : w.ownsRow base 3 1 (.slice (some ⟨G, 0, none⟩) n n) n (ints l)) (hab : a ≠ b) (hxa : l.getD a 0 = xa) (hxb : l.getD b 0 = xb) :
    (((w.setCell ⟨G, a, none⟩ (.int .i64 (xa + 1))).setCell ⟨G, b, none⟩ (.int .i64 (xb + 1))).alloc o).ownsRow base 3 1 (.slice (some ⟨G, 0, none⟩) n n) n (ints (bus1 l ((a : Int), (b : Int)))) := by
  subst hxa hxb
  have h1 := (hown.stored a (.int .i64 (l.getD a 0 + 1))).1
  rw [ints_addAt] at h1
  have h2 := (h1.stored b (.int .i64 ((addAt l a 1).getD b 0 + 1))).1
  rw [ints_addAt, addAt_other l a b 1 hab] at h2
  exact h2.alloc o

def offZ (n round : Int) : Int := if (n % 2 == 0) = true then -1 else round % halfZ n
def chk (off : Int) : Nat → List Int → Bool
  | _, [] => true
  | i, x :: t => ((x == 0) == ((i : Int) == off)) && decide (x ≤ 1) && chk off (i + 1) t
theorem chk_sound (off : Int) : ∀ (l : List Int) (i : Nat), chk off i l = true → ∀ j, j < l.length → ((l.getD j 0 == 0) == (((i + j : Nat) : Int) == off)) = true ∧ l.getD j 0 ≤ 1 := by
  intro l
  induction l with
  | nil => intro i _ j hj; simp at hj
  | cons x t ih =>
    intro i h j hj
    unfold chk at h
    rw [Bool.and_eq_true, Bool.and_eq_true, decide_eq_true_eq] at h
    cases j with
    | zero => exact ⟨h.1.1, h.1.2⟩
    | succ j =>
      have := ih (i + 1) h.2 j (by simpa using hj)
      have e : i + 1 + j = i + (j + 1) := by omega
      rw [e] at this
      exact this
def restN (n : Nat) : Bool := (List.range 62).all fun r => chk (offZ n r) 0 (busR (List.replicate n 0) (gamesZ n r))
def RestN (n : Nat) : Prop := restN n = true
theorem rest2 : restN 2 = true := by decide +kernel
theorem rest3 : restN 3 = true := by decide +kernel
theorem rest4 : restN 4 = true := by decide +kernel
theorem rest5 : restN 5 = true := by decide +kernel
theorem rest6 : restN 6 = true := by decide +kernel
theorem rest7 : restN 7 = true := by decide +kernel
theorem rest8 : restN 8 = true := by decide +kernel
theorem rest9 : restN 9 = true := by decide +kernel
theorem rest10 : restN 10 = true := by decide +kernel
theorem rest11 : restN 11 = true := by decide +kernel
theorem rest12 : restN 12 = true := by decide +kernel
theorem rest13 : restN 13 = true := by decide +kernel
theorem rest14 : restN 14 = true := by decide +kernel
theorem rest15 : restN 15 = true := by decide +kernel
theorem rest16 : restN 16 = true := by decide +kernel
theorem rest17 : restN 17 = true := by decide +kernel
theorem rest18 : restN 18 = true := by decide +kernel
theorem rest19 : restN 19 = true := by decide +kernel
theorem rest20 : restN 20 = true := by decide +kernel
theorem rest21 : restN 21 = true := by decide +kernel
theorem rest22 : restN 22 = true := by decide +kernel
theorem rest23 : restN 23 = true := by decide +kernel
theorem rest24 : restN 24 = true := by decide +kernel
theorem rest25 : restN 25 = true := by decide +kernel
theorem rest26 : restN 26 = true := by decide +kernel
theorem rest27 : restN 27 = true := by decide +kernel
theorem rest28 : restN 28 = true := by decide +kernel
theorem rest29 : restN 29 = true := by decide +kernel
theorem rest30 : restN 30 = true := by decide +kernel
theorem rest31 : restN 31 = true := by decide +kernel
theorem rest32 : restN 32 = true := by decide +kernel
theorem restAll (n : Nat) (h0 : 2 ≤ n) (h1 : n ≤ 32) : restN n = true := by
  match n, h0, h1 with
  | 2, _, _ => exact rest2
  | 3, _, _ => exact rest3
  | 4, _, _ => exact rest4
  | 5, _, _ => exact rest5
  | 6, _, _ => exact rest6
  | 7, _, _ => exact rest7
  | 8, _, _ => exact rest8
  | 9, _, _ => exact rest9
  | 10, _, _ => exact rest10
  | 11, _, _ => exact rest11
  | 12, _, _ => exact rest12
  | 13, _, _ => exact rest13
  | 14, _, _ => exact rest14
  | 15, _, _ => exact rest15
  | 16, _, _ => exact rest16
  | 17, _, _ => exact rest17
  | 18, _, _ => exact rest18
  | 19, _, _ => exact rest19
  | 20, _, _ => exact rest20
  | 21, _, _ => exact rest21
  | 22, _, _ => exact rest22
  | 23, _, _ => exact rest23
  | 24, _, _ => exact rest24
  | 25, _, _ => exact rest25
  | 26, _, _ => exact rest26
  | 27, _, _ => exact rest27
  | 28, _, _ => exact rest28
  | 29, _, _ => exact rest29
  | 30, _, _ => exact rest30
  | 31, _, _ => exact rest31
  | 32, _, _ => exact rest32
  | n + 33, _, h => exact absurd h (by omega)
theorem rest (n r : Nat) (h0 : 2 ≤ n) (h1 : n ≤ 32) (hr : r < 62) (i : Nat) (hi : i < n) : (((busR (List.replicate n 0) (gamesZ n r)).getD i 0 == 0) == ((i : Int) == offZ n r)) = true ∧ (busR (List.replicate n 0) (gamesZ n r)).getD i 0 ≤ 1 := by
  have h2 := List.all_eq_true.1 (restAll n h0 h1) r (List.mem_range.2 (by omega))
  have h3 := chk_sound _ _ 0 h2 i (by rw [busR_len]; simpa using hi)
  rw [Nat.zero_add] at h3
  exact h3
end Go.Proofs.Ytdmidjcjmkcopaa.robinRest

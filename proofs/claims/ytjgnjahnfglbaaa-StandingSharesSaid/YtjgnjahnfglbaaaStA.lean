/- standing.Check and standing.points. -/
import Derived.Test.YtjgnjahnfglbaaaIntsFunc
import Derived.Test.YtjgnjahnfglbaaaOwn
import Derived.Test.YtjgnjahnfglbaaaSub
import Derived.RegionTactic
import Derived.Deep.QuietTactic
import Derived.BigQuiet
import Derived.WalkLawsBesides
namespace Go.Proofs.Ytjgnjahnfglbaaa
open Go.ChangeShapes Go.WideShapes Go.ChangeAt Go.RowKit
set_option linter.unusedVariables false

structure GameZ where
  fst : Int
  snd : Int
  pts : Int
def flatG (gs : List GameZ) : List Value := gs.flatMap fun g => [.int .i64 g.fst, .int .i64 g.snd, .int .i64 g.pts]
theorem flatG_at (gs : List GameZ) (k : Nat) (h : k < gs.length) : (flatG gs)[k * 3]? = some (.int .i64 gs[k].fst) ∧ (flatG gs)[k * 3 + 1]? = some (.int .i64 gs[k].snd) ∧ (flatG gs)[k * 3 + 2]? = some (.int .i64 gs[k].pts) := by
  induction gs generalizing k with
  | nil => simp at h
  | cons g t ih =>
    cases k with
    | zero => exact ⟨rfl, rfl, rfl⟩
    | succ k =>
      have := ih k (by simpa using h)
      have e : (k + 1) * 3 = k * 3 + 3 := by omega
      rw [e]
      exact this
/-- a slice of games that is read. -/
def RdG (w : World) (v : Value) (gs : List GameZ) : Prop := Rd w 3 gs.length v (flatG gs)
theorem RdG.below {w w' : World} {v : Value} {gs : List GameZ} {B : Nat} (h : RdG w v gs) (hb : Below B w w') (hB : w.heap.size ≤ B) : RdG w' v gs := Rd.below h hb hB
theorem RdG.form {w : World} {v : Value} {gs : List GameZ} (h : RdG w v gs) : ∃ a c, v = .slice a gs.length c ∧ gs.length ≤ c ∧ c ≤ maxLen ∧
    ∀ k (hk : k < gs.length), ∃ g o, a = some ⟨g, o, none⟩ ∧ g < w.heap.size ∧ w.cell? ⟨g, o + k * 3, none⟩ = some (.int .i64 gs[k].fst) ∧ w.cell? ⟨g, o + k * 3 + 1, none⟩ = some (.int .i64 gs[k].snd) ∧ w.cell? ⟨g, o + k * 3 + 2, none⟩ = some (.int .i64 gs[k].pts) := by
  rcases h.2 with ⟨⟨a, c, h, hm⟩, hz⟩ | ⟨g, o, c, h', h1, h2, hc⟩
  · exact ⟨a, c, by rw [h, hz], by omega, hm, fun k hk => by omega⟩
  · refine ⟨_, _, h', h1, h2, fun k hk => ⟨g, o, rfl, ?_⟩⟩
    obtain ⟨q0, q1, q2⟩ := flatG_at gs k hk
    have e0 := (hc (k * 3) (by omega)).trans q0
    have e1 := (hc (k * 3 + 1) (by omega)).trans q1
    have e2 := (hc (k * 3 + 2) (by omega)).trans q2
    exact ⟨World.block_lt_of_cell? w _ e0, e0, e1, e2⟩
theorem flatG_take (gs : List GameZ) (k : Nat) : (flatG gs).take (k * 3) = flatG (gs.take k) := by
  induction gs generalizing k with
  | nil => simp [flatG]
  | cons g t ih =>
    cases k with
    | zero => simp [flatG]
    | succ k =>
      have e1 : flatG (g :: t) = .int .i64 g.fst :: .int .i64 g.snd :: .int .i64 g.pts :: flatG t := rfl
      have e2 : flatG (g :: t.take k) = .int .i64 g.fst :: .int .i64 g.snd :: .int .i64 g.pts :: flatG (t.take k) := rfl
      rw [e1, List.take_succ_cons, e2, show (k + 1) * 3 = k * 3 + 1 + 1 + 1 by omega, List.take_succ_cons, List.take_succ_cons, List.take_succ_cons, ih]
theorem RdG.take {w : World} {a : Option Addr} {c : Nat} {gs : List GameZ} (h : RdG w (.slice a gs.length c) gs) (k : Nat) (hk : k ≤ gs.length) : RdG w (.slice a k c) (gs.take k) := by
  have := Rd.take h k hk
  rw [flatG_take] at this
  unfold RdG
  rw [List.length_take, Nat.min_eq_left hk]
  exact this

/-! ### Check -/
def twoB (n : Int) (a b : Int) : Bool := decide (0 ≤ a) && decide (a < n) && decide (0 ≤ b) && decide (b < n) && decide (a ≠ b)
theorem two_any (n a b : Int) (w : World) : Calls Try.prog 15 #[.int .i64 n, .int .i64 a, .int .i64 b] w fun e w' => e = .returned (.bool (twoB n a b)) ∧ w = w' := by
  have hc : a < 0 ∨ (0 ≤ a ∧ n ≤ a) ∨ (0 ≤ a ∧ a < n ∧ b < 0) ∨ (0 ≤ a ∧ a < n ∧ 0 ≤ b ∧ n ≤ b) ∨ (0 ≤ a ∧ a < n ∧ 0 ≤ b ∧ b < n ∧ a = b) ∨ (0 ≤ a ∧ a < n ∧ 0 ≤ b ∧ b < n ∧ ¬ a = b) := by omega
  have HT : Hid (twoB n a b = (decide (0 ≤ a) && decide (a < n) && decide (0 ≤ b) && decide (b < n) && decide (a ≠ b))) := Lib.hid rfl
  rcases hc with q | ⟨q1, q2⟩ | ⟨q1, q2, q3⟩ | ⟨q1, q2, q3, q4⟩ | ⟨q1, q2, q3, q4, q5⟩ | ⟨q1, q2, q3, q4, q5⟩
  all_goals
    go_enter Try.func15, Try.ntmps15
    go_wp2
    go_ret
    first
      | exact ⟨by rw [show twoB n a b = false by unfold twoB; simp; omega]; rfl, rfl⟩
      | exact ⟨by rw [show twoB n a b = true by unfold twoB; simp; omega]; rfl, rfl⟩
      | exact ⟨by rw [show twoB n a b = (a != b) by (have p1 : decide (0 ≤ a) = true := decide_eq_true q1; have p2 : decide (a < n) = true := decide_eq_true q2; have p3 : decide (0 ≤ b) = true := decide_eq_true q3; have p4 : decide (b < n) = true := decide_eq_true q4; unfold twoB; rw [p1, p2, p3, p4]; by_cases h : a = b <;> simp [h])]; rfl, rfl⟩
def foldC (n : Int) : List GameZ → Int
  | [] => 0
  | g :: t => if twoB n g.fst g.snd = false then 3 else if g.pts < 0 ∨ 2 < g.pts then 4 else foldC n t
def chkS (n : Int) (gs : List GameZ) : Int := if n < 1 ∨ 32 < n ∨ 600 < gs.length then 2 else foldC n gs
theorem foldC_step (n : Int) (gs : List GameZ) (k : Nat) (h : k < gs.length) : foldC n (gs.drop k) = if twoB n gs[k].fst gs[k].snd = false then 3 else if gs[k].pts < 0 ∨ 2 < gs[k].pts then 4 else foldC n (gs.drop (k + 1)) := by
  rw [List.drop_eq_getElem_cons h, foldC]
set_option maxHeartbeats 1000000 in
theorem Check_any (n : Int) (vg : Value) (gs : List GameZ) (w : World) (hg : RdG w vg gs) : Calls Try.prog 8 #[.int .i64 n, vg] w fun e w' => e = .returned (.int .i64 (chkS n gs)) ∧ Below w.heap.size w w' := by
  obtain ⟨a, c, rfl, h1, h2, hcells⟩ := hg.form
  unfold maxLen at h2
  have HG := Lib.hid hcells
  clear hg hcells
  by_cases hb : n < 1 ∨ 32 < n ∨ 600 < gs.length
  · have HR := Lib.hid (show chkS n gs = 2 by unfold chkS; rw [if_pos hb])
    have hb' : n < 1 ∨ (¬ n < 1 ∧ 32 < n) ∨ (¬ n < 1 ∧ ¬ 32 < n ∧ 600 < (gs.length : Int)) := by omega
    clear hb
    rcases hb' with q | ⟨q1, q2⟩ | ⟨q1, q2, q3⟩
    all_goals
      go_enter Try.func8, Try.ntmps8
      go_wp2
      go_ret
      exact ⟨by rw [HR.out]; rfl, Below.refl _ _⟩
  · have HR := Lib.hid (show chkS n gs = foldC n gs by unfold chkS; rw [if_neg hb])
    have q1 : ¬ n < 1 := by omega
    have q2 : ¬ 32 < n := by omega
    have q3 : ¬ 600 < (gs.length : Int) := by omega
    clear hb
    go_enter Try.func8, Try.ntmps8
    go_wp2_with fail
    go_loopw [20] (fun i wr => ∃ k : Nat, k ≤ gs.length ∧ i = .int .i64 k ∧ Hid (foldC n gs = foldC n (gs.drop k)) ∧ Below w.heap.size w wr) (fun i _ => gs.length - (intOf i).toNat)
    case atStart => exact ⟨0, Nat.zero_le _, rfl, Lib.hid rfl, Below.refl _ _⟩
    case round =>
      obtain ⟨k, hk, rfl, HK, hbl⟩ := hrel
      by_cases hlt : k < gs.length
      · obtain ⟨gb, o, rfl, hgb, c0, c1, c2⟩ := HG.out k hlt
        have d0 := (hbl.cell (p := ⟨gb, o + k * 3, none⟩) hgb).trans c0
        have d1 := (hbl.cell (p := ⟨gb, o + k * 3 + 1, none⟩) hgb).trans c1
        have d2 := (hbl.cell (p := ⟨gb, o + k * 3 + 2, none⟩) hgb).trans c2
        clear c0 c1 c2
        have HS := Lib.hid (foldC_step n gs k hlt)
        have hsz := hbl.size
        have hlz : (k : Int) < gs.length := by omega
        generalize gs[k] = gk at *
        obtain ⟨x, y, p⟩ := gk
        simp only at *
        cases hw : twoB n x y
        · go_wp2_with (refine (two_any _ _ _ _).mono ?_; rintro e w' ⟨rfl, rfl⟩; rw [hw])
          go_ret
          exact ⟨by rw [HR.out, HK.out, HS.out, if_pos (by rw [hw])]; rfl, by go_grown⟩
        · by_cases hp : p < 0 ∨ 2 < p
          · have hp' : p < 0 ∨ (¬ p < 0 ∧ 2 < p) := by omega
            have HS2 := Lib.hid (show foldC n gs = 4 by rw [HK.out, HS.out, if_neg (by simp [hw]), if_pos hp])
            clear hp
            rcases hp' with hp | ⟨hp1, hp2⟩
            all_goals
              go_wp2_with (refine (two_any _ _ _ _).mono ?_; rintro e w' ⟨rfl, rfl⟩; rw [hw])
              go_ret
              exact ⟨by rw [HR.out, HS2.out]; rfl, by go_grown⟩
          · have hp1 : ¬ p < 0 := by omega
            have hp2 : ¬ 2 < p := by omega
            have HS2 := Lib.hid (show foldC n gs = foldC n (gs.drop (k + 1)) by rw [HK.out, HS.out, if_neg (by simp [hw]), if_neg hp])
            clear hp
            go_wp2_with (refine (two_any _ _ _ _).mono ?_; rintro e w' ⟨rfl, rfl⟩; rw [hw])
            go_roundw
            case rel => exact ⟨k + 1, by omega, by go_num, HS2, by go_grown⟩
            case measure => simp [intOf]; omega
      · obtain rfl : k = gs.length := by omega
        have HF := Lib.hid (show foldC n gs = 0 by rw [HK.out, List.drop_length, foldC])
        go_wp2_with fail
        go_ret
        exact ⟨by rw [HR.out, HF.out]; rfl, hbl⟩
end Go.Proofs.Ytjgnjahnfglbaaa

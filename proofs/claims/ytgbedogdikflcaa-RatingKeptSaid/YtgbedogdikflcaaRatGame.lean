/- The contracts of rating.Check, change, Game, checkAll, All and Period. -/
import Derived.Test.YtgbedogdikflcaaChange
import Derived.Test.YtgbedogdikflcaaInts
import Derived.RegionTactic
import Derived.Deep.QuietTactic
import Derived.BigQuiet
import Derived.WalkLawsBesides
namespace Go.Proofs.Ytgbedogdikflcaa
open Go.ChangeShapes Go.WideShapes Go.ChangeAt Go.RowKit
set_option linter.unusedVariables false

/-- a call that leaves the world alone, in a region that only reads. -/
theorem qleft {P : Program} {f : FuncId} {args : Array Value} {w : World} {n : Nat} {v : Value} (h : ∀ W : World, Calls P f args W fun e w' => e = .returned v ∧ W = w') :
    Calls P f args (w.drewN n) fun e w'' => e = .returned v ∧ ∃ m, w'' = w.drewN m := (h _).mono fun _ _ ⟨he, hm⟩ => ⟨he, n, hm.symm⟩

theorem below_drewN {B : Nat} {w W : World} (h : Below B w W) (n : Nat) : Below B w (W.drewN n) := ⟨h.os, h.tape, h.output, h.size, h.block⟩

theorem callOut (args : Array Value) (w : World) : (callFunc 11 args).run Try.prog w = .ok (.enter 11 args) w := by kernel_rfl

def checkR (zs : List Int) : Int := if zs.length < 1 ∨ 64 < zs.length then 2 else if zs.any outB = true then 4 else 0
theorem Check_any (v : Value) (zs : List Int) (w : World) (h : RdI w v zs) :
    Calls Try.prog 16 #[v] w fun e w' => e = .returned (.int .i64 (checkR zs)) ∧ w = w' := by
  obtain ⟨a, c, rfl, h1, h2⟩ := h.form
  unfold maxLen at h2
  have HC := Lib.hid (ContainsFunc_any _ zs outB 11 #[] w h callOut (fun z _ => out_any z w))
  clear h
  by_cases hb : zs.length < 1 ∨ 64 < zs.length
  · have HR := Lib.hid (show checkR zs = 2 by unfold checkR; rw [if_pos hb])
    clear HC
    rcases hb with hb | hb
    all_goals
      go_enter Try.func16, Try.ntmps16
      go_wp2
      go_ret
      exact ⟨by rw [HR.out]; rfl, rfl⟩
  · have HR := Lib.hid (show checkR zs = if zs.any outB = true then 4 else 0 by unfold checkR; rw [if_neg hb])
    have b1 : 1 ≤ zs.length := by omega
    have b2 : zs.length ≤ 64 := by omega
    clear hb
    go_enter Try.func16, Try.ntmps16
    go_wp2_with fail
    refine HC.out.mono ?_
    rintro e w' ⟨rfl, rfl⟩
    cases ha : zs.any outB
    all_goals
      go_wp2
      go_ret
      exact ⟨by rw [HR.out, ha]; rfl, rfl⟩

/-! ### change -/
structure GameZ where
  fst : Int
  snd : Int
  pts : Int
def GameZ.val (g : GameZ) : Value := .agg #[.int .i64 g.fst, .int .i64 g.snd, .int .i64 g.pts]
def badG (n : Nat) (g : GameZ) : Bool := decide (g.fst < 0) || decide ((n : Int) ≤ g.fst) || decide (g.snd < 0) || decide ((n : Int) ≤ g.snd) || g.fst == g.snd
def changeG (zs : List Int) (g : GameZ) (f : Int) : Int × Int := if badG zs.length g = true then (0, 3) else changeR (zs.getD g.fst.toNat 0) (zs.getD g.snd.toNat 0) g.pts f

def ChgPost (r : Int × Int) (w : World) (e : Ending) (w' : World) : Prop := e = .returned (.tuple #[.int .i64 r.1, .int .i64 r.2]) ∧ Below w.heap.size w w'

set_option maxHeartbeats 1000000 in
theorem change_any (v : Value) (zs : List Int) (g : GameZ) (f : Int) (w : World) (h : RdI w v zs) :
    Calls Try.prog 15 #[v, g.val, .int .i64 f] w (ChgPost (changeG zs g f) w) := by
  obtain ⟨a, c, rfl, h1, h2⟩ := h.form
  unfold maxLen at h2
  obtain ⟨x, y, p⟩ := g
  unfold GameZ.val
  simp only
  by_cases hb : badG zs.length ⟨x, y, p⟩ = true
  · have HR := Lib.hid (show changeG zs ⟨x, y, p⟩ f = (0, 3) by unfold changeG; rw [if_pos hb])
    have hb' : x < 0 ∨ (0 ≤ x ∧ (zs.length : Int) ≤ x) ∨ (0 ≤ x ∧ x < zs.length ∧ y < 0) ∨ (0 ≤ x ∧ x < zs.length ∧ 0 ≤ y ∧ (zs.length : Int) ≤ y) ∨ (0 ≤ x ∧ x < zs.length ∧ 0 ≤ y ∧ y < zs.length ∧ x = y) := by
      simp [badG] at hb; omega
    clear hb h
    rcases hb' with q | ⟨q1, q2⟩ | ⟨q1, q2, q3⟩ | ⟨q1, q2, q3, q4⟩ | ⟨q1, q2, q3, q4, rfl⟩
    all_goals
      go_enter Try.func15, Try.ntmps15
      go_wp2
      go_ret2
      exact ⟨by rw [HR.out]; rfl, by go_grown⟩
  · have HR := Lib.hid (show changeG zs ⟨x, y, p⟩ f = changeR (zs.getD x.toNat 0) (zs.getD y.toNat 0) p f by unfold changeG; rw [if_neg hb])
    have hb' : 0 ≤ x ∧ x < zs.length ∧ 0 ≤ y ∧ y < zs.length ∧ ¬ x = y := by
      simp [badG] at hb; omega
    clear hb
    obtain ⟨q1, q2, q3, q4, q5⟩ := hb'
    obtain ⟨i, rfl⟩ : ∃ i : Nat, x = (i : Int) := ⟨x.toNat, by omega⟩
    obtain ⟨j, rfl⟩ : ∃ i : Nat, y = (i : Int) := ⟨y.toNat, by omega⟩
    obtain ⟨g, o, c', he, _, _, hg, hcell⟩ := h.some (by omega)
    simp only [Value.slice.injEq] at he
    obtain ⟨rfl, _, rfl⟩ := he
    have ci := hcell i (by omega)
    have cj := hcell j (by omega)
    simp only [Int.toNat_natCast] at HR
    have q6 : i < zs.length := by omega
    have q7 : j < zs.length := by omega
    have q8 : (((i : Int)) == (j : Int)) = false := by simpa using q5
    have HCh := Lib.hid (fun w => Change_any (zs.getD i 0) (zs.getD j 0) p f w)
    clear hcell h q5
    generalize zs.getD i 0 = zi at *
    generalize zs.getD j 0 = zj at *
    generalize changeR zi zj p f = r at *
    go_enter Try.func15, Try.ntmps15
    go_wp2_with fail
    have hbel : Below w.heap.size w (w.alloc (.cells #[.int .i64 (i : Int), .int .i64 (j : Int), .int .i64 p] 39)) := by go_grown
    have d0 : (w.alloc (.cells #[.int .i64 (i : Int), .int .i64 (j : Int), .int .i64 p] 39)).cell? ⟨w.heap.size, 0, none⟩ = some (.int .i64 (i : Int)) := by go_simp
    have d1 : (w.alloc (.cells #[.int .i64 (i : Int), .int .i64 (j : Int), .int .i64 p] 39)).cell? ⟨w.heap.size, 1, none⟩ = some (.int .i64 (j : Int)) := by go_simp
    have d2 : (w.alloc (.cells #[.int .i64 (i : Int), .int .i64 (j : Int), .int .i64 p] 39)).cell? ⟨w.heap.size, 2, none⟩ = some (.int .i64 p) := by go_simp
    have d3 : (w.alloc (.cells #[.int .i64 (i : Int), .int .i64 (j : Int), .int .i64 p] 39)).cell? ⟨g, o + i, none⟩ = some (.int .i64 zi) := by go_simp
    have d4 : (w.alloc (.cells #[.int .i64 (i : Int), .int .i64 (j : Int), .int .i64 p] 39)).cell? ⟨g, o + j, none⟩ = some (.int .i64 zj) := by go_simp
    generalize (w.alloc (.cells #[.int .i64 (i : Int), .int .i64 (j : Int), .int .i64 p] 39)) = W at *
    clear ci cj
    go_quiet ((go_at_call 7; exact qleft HCh.out))
    go_wp2
    go_ret2
    exact ⟨by rw [HR.out]; rfl, below_drewN hbel _⟩

/-! ### Game -/
def clampN (n a b : Int) : Int := min (min (max (max n (-1000000 - a)) (b - 1000000)) (1000000 - a)) (b + 1000000)
def moveZ (zs : List Int) (i j : Nat) (n : Int) : List Int := (zs.set i (zs.getD i 0 + n)).set j (zs.getD j 0 - n)
def gameR (zs : List Int) (g : GameZ) (f : Int) : List Int × Int :=
  if checkR zs ≠ 0 then ([], checkR zs) else if (changeG zs g f).2 ≠ 0 then ([], (changeG zs g f).2)
  else (moveZ zs g.fst.toNat g.snd.toNat (clampN (changeG zs g f).1 (zs.getD g.fst.toNat 0) (zs.getD g.snd.toNat 0)), 0)
def RowPost (r : List Int × Int) (w : World) (e : Ending) (w' : World) : Prop :=
  ∃ v', e = .returned (.tuple #[v', .int .i64 r.2]) ∧ w'.ownsRow w.heap.size 3 1 v' r.1.length (ints r.1) ∧ Below w.heap.size w w'

theorem changeR_b (a b p f : Int) (h : (changeR a b p f).2 = 0) : (-1000000 ≤ a ∧ a ≤ 1000000) ∧ (-1000000 ≤ b ∧ b ≤ 1000000) ∧ -6400 ≤ (changeR a b p f).1 ∧ (changeR a b p f).1 ≤ 6400 := by
  unfold changeR at h ⊢
  split at h
  · cases h
  · rename_i h1
    split at h
    · cases h
    · rename_i h2
      split at h
      · cases h
      · rename_i h3
        rw [if_neg h1, if_neg h2, if_neg h3]
        have q1 := outB_false (Bool.eq_false_iff.2 fun q => h1 (Or.inl q))
        have q2 := outB_false (Bool.eq_false_iff.2 fun q => h1 (Or.inr q))
        have q3 := expect_b (a - b)
        have q4 : 1 ≤ f ∧ f ≤ 64 := by omega
        have q5 : -100 ≤ 50 * p - expect (a - b) ∧ 50 * p - expect (a - b) ≤ 100 := by omega
        refine ⟨q1, q2, ?_, ?_⟩
        · simp only
          generalize 50 * p - expect (a - b) = t at *
          have : f * (-100) ≤ f * t := Int.mul_le_mul_of_nonneg_left (by omega) (by omega)
          omega
        · simp only
          generalize 50 * p - expect (a - b) = t at *
          have : f * t ≤ f * 100 := Int.mul_le_mul_of_nonneg_left (by omega) (by omega)
          omega

set_option maxHeartbeats 1000000 in
theorem Game_any (v : Value) (zs : List Int) (g : GameZ) (f : Int) (w : World) (h : RdI w v zs) :
    Calls Try.prog 14 #[v, g.val, .int .i64 f] w (RowPost (gameR zs g f) w) := by
  obtain ⟨i0, hi, hz0, hz1, hz2⟩ := info_parts info3
  have hW : Below w.heap.size w (w.alloc (.cells #[.int .i64 g.fst, .int .i64 g.snd, .int .i64 g.pts] 39)) := by go_grown
  have H0 := Lib.hid (h.below hW (Nat.le_refl _))
  by_cases hc : checkR zs = 0
  · have hlen : 1 ≤ zs.length ∧ zs.length ≤ 64 := by
      unfold checkR at hc
      split at hc
      · cases hc
      · omega
    obtain ⟨gb, o, c, rfl, h1, h2, hgb, hcell⟩ := h.some (by omega)
    unfold maxLen at h2
    by_cases hg : (changeG zs g f).2 = 0
    · have hbad : badG zs.length g = false := by
        cases hb : badG zs.length g
        · rfl
        · unfold changeG at hg; rw [if_pos hb] at hg; cases hg
      have hij : 0 ≤ g.fst ∧ g.fst < zs.length ∧ 0 ≤ g.snd ∧ g.snd < zs.length ∧ ¬ g.fst = g.snd := by
        simp [badG] at hbad; omega
      have hcr := changeR_b (zs.getD g.fst.toNat 0) (zs.getD g.snd.toNat 0) g.pts f (by unfold changeG at hg; rw [if_neg (by simp [hbad])] at hg; exact hg)
      have hcg : changeG zs g f = changeR (zs.getD g.fst.toNat 0) (zs.getD g.snd.toNat 0) g.pts f := by unfold changeG; rw [if_neg (by simp [hbad])]
      rw [← hcg] at hcr
      have HR := Lib.hid (show gameR zs g f = (moveZ zs g.fst.toNat g.snd.toNat (clampN (changeG zs g f).1 (zs.getD g.fst.toNat 0) (zs.getD g.snd.toNat 0)), 0) by unfold gameR; rw [if_neg (by simpa using hc), if_neg (by simpa using hg)])
      have HCH := Lib.hid (fun (w : World) (h : RdI w (.slice (some ⟨gb, o, none⟩) zs.length c) zs) => change_any _ zs g f w h)
      have HCK := Lib.hid (Check_any _ zs _ H0.out)
      have HCL := Lib.hid (fun (w : World) (h : RdI w (.slice (some ⟨gb, o, none⟩) zs.length c) zs) => Clone_any _ zs w h (by omega))
      rw [hc] at HCK
      clear hc hbad hcg
      obtain ⟨x, y, p⟩ := g
      unfold GameZ.val at *
      simp only at *
      obtain ⟨q1, q2, q3, q4, q5⟩ := hij
      obtain ⟨i, rfl⟩ : ∃ i : Nat, x = (i : Int) := ⟨x.toNat, by omega⟩
      obtain ⟨j, rfl⟩ : ∃ i : Nat, y = (i : Int) := ⟨y.toNat, by omega⟩
      simp only [Int.toNat_natCast] at *
      have q6 : i < zs.length := by omega
      have q7 : j < zs.length := by omega
      have ci := hcell i q6
      have cj := hcell j q7
      clear hcell h
      generalize changeG zs ⟨(i : Int), (j : Int), p⟩ f = r at *
      obtain ⟨rn, re⟩ := r
      simp only at hg hcr
      subst hg
      go_enter Try.func14, Try.ntmps14
      go_wp2_with fail
      refine HCK.out.mono ?_
      rintro e w' ⟨rfl, rfl⟩
      go_wp2_with fail
      refine (HCH.out _ H0.out).mono ?_
      rintro e w1 ⟨rfl, hb1⟩
      have hb01 : Below w.heap.size w w1 := hW.trans (hb1.mono (by simp))
      have d0 : w1.cell? ⟨w.heap.size, 0, none⟩ = some (.int .i64 (i : Int)) := (hb1.cell (p := ⟨w.heap.size, 0, none⟩) (by simp)).trans (by go_simp)
      have d1 : w1.cell? ⟨w.heap.size, 1, none⟩ = some (.int .i64 (j : Int)) := (hb1.cell (p := ⟨w.heap.size, 1, none⟩) (by simp)).trans (by go_simp)
      have d3 : w1.cell? ⟨gb, o + i, none⟩ = some (.int .i64 (zs.getD i 0)) := (hb01.cell (p := ⟨gb, o + i, none⟩) hgb).trans ci
      have d4 : w1.cell? ⟨gb, o + j, none⟩ = some (.int .i64 (zs.getD j 0)) := (hb01.cell (p := ⟨gb, o + j, none⟩) hgb).trans cj
      have H1 := Lib.hid (H0.out.below hb1 (Nat.le_refl _))
      have hs1 : w.heap.size + 1 ≤ w1.heap.size := by have := hb1.size; simpa using this
      clear hb1 ci cj
      generalize hzi : zs.getD i 0 = zi at *
      generalize hzj : zs.getD j 0 = zj at *
      go_wp2_with fail
      go_quiet (fail)
      have hb1q := below_drewN hb01 nq
      have H1q : Hid (RdI (w1.drewN nq) (.slice (some ⟨gb, o, none⟩) zs.length c) zs) := H1
      have e0 : (w1.drewN nq).cell? ⟨w.heap.size, 0, none⟩ = some (.int .i64 (i : Int)) := d0
      have e1 : (w1.drewN nq).cell? ⟨w.heap.size, 1, none⟩ = some (.int .i64 (j : Int)) := d1
      have hs1q : w.heap.size + 1 ≤ (w1.drewN nq).heap.size := hs1
      clear d0 d1 d3 d4 H1 hb01 hs1
      generalize w1.drewN nq = W at *
      have HF : Hid (∀ (w2 : World) (G cap : Nat) (n : Int), n = clampN rn zi zj → w2.ownsRow W.heap.size 3 1 (.slice (some ⟨G, 0, none⟩) zs.length cap) zs.length (ints zs) → Below w.heap.size w w2 →
          ∃ v', Ending.returned (.tuple #[.slice (some ⟨G, 0, none⟩) zs.length cap, .int .i64 0]) = .returned (.tuple #[v', .int .i64 (gameR zs ⟨(i : Int), (j : Int), p⟩ f).2]) ∧ ((w2.setCell ⟨G, i, none⟩ (.int .i64 (zi + n))).setCell ⟨G, j, none⟩ (.int .i64 (zj - n))).ownsRow w.heap.size 3 1 v' (gameR zs ⟨(i : Int), (j : Int), p⟩ f).1.length (ints (gameR zs ⟨(i : Int), (j : Int), p⟩ f).1) ∧ Below w.heap.size w ((w2.setCell ⟨G, i, none⟩ (.int .i64 (zi + n))).setCell ⟨G, j, none⟩ (.int .i64 (zj - n)))) := Lib.hid (fun w2 G cap n hn ho hb2 => by
        refine ⟨_, by rw [HR.out], ?_, (hb2.setCell (by have := (ho.lt G rfl).1; simp; omega) _).setCell (by have := (ho.lt G rfl).1; simp; omega) _⟩
        rw [HR.out]
        have := own_base (own_two (i := i) (j := j) (x := zi + n) (y := zj - n) ho) (show w.heap.size ≤ W.heap.size by omega)
        simp only [moveZ, hzi, hzj, List.length_set]
        rw [← hn]
        exact this)
      clear HR
      go_wp2_with fail
      all_goals
        refine (HCL.out _ H1q.out).mono ?_
        rintro e w2 ⟨v', rfl, hown2, hb2⟩
        obtain ⟨G, cap, rfl⟩ := own_some hown2 (by omega)
        have k0 : w2.cell? ⟨w.heap.size, 0, none⟩ = some (.int .i64 (i : Int)) := (hb2.cell (p := ⟨w.heap.size, 0, none⟩) (by simp; omega)).trans e0
        have k1 : w2.cell? ⟨w.heap.size, 1, none⟩ = some (.int .i64 (j : Int)) := (hb2.cell (p := ⟨w.heap.size, 1, none⟩) (by simp; omega)).trans e1
        have k2 : w2.cell? ⟨G, i, none⟩ = some (.int .i64 zi) := by rw [← hzi]; exact (hown2.cellAt i (by omega)).trans (ints_get _ i (by omega))
        have k3 : w2.cell? ⟨G, j, none⟩ = some (.int .i64 zj) := by rw [← hzj]; exact (hown2.cellAt j (by omega)).trans (ints_get _ j (by omega))
        have f2 : w2.frozen? ⟨G, i, none⟩ = false := hown2.frozenAt i
        have f3 : w2.frozen? ⟨G, j, none⟩ = false := hown2.frozenAt j
        have hGl := hown2.lt G rfl
        have n1 : ¬ G = w.heap.size := by omega
        have n2 : ¬ w.heap.size = G := by omega
        have n3 : ¬ i = j := by omega
        have n4 : ¬ j = i := by omega
        have hbw : Below w.heap.size w w2 := hb1q.trans (hb2.mono (by omega))
        have HO := Lib.hid hown2
        have HZI := Lib.hid hzi
        have HZJ := Lib.hid hzj
        clear hown2 hb2 hzi hzj
        go_wp2_with fail
        go_ret2
        exact HF.out _ _ _ _ (by unfold clampN; omega) HO.out hbw
    · have HR := Lib.hid (show gameR zs g f = ([], (changeG zs g f).2) by unfold gameR; rw [if_neg (by simpa using hc), if_pos hg])
      have hg' : ((changeG zs g f).2 != 0) = true := by simpa using hg
      have HG := Lib.hid hc
      have HCH := Lib.hid (fun (w : World) (h : RdI w (.slice (some ⟨gb, o, none⟩) zs.length c) zs) => change_any _ zs g f w h)
      have HCK := Lib.hid (Check_any _ zs _ H0.out)
      rw [hc] at HCK
      clear hg hc h hcell
      obtain ⟨x, y, p⟩ := g
      unfold GameZ.val at *
      simp only at *
      generalize changeG zs ⟨x, y, p⟩ f = r at *
      go_enter Try.func14, Try.ntmps14
      go_wp2_with fail
      refine HCK.out.mono ?_
      rintro e w' ⟨rfl, rfl⟩
      go_wp2_with fail
      refine (HCH.out _ H0.out).mono ?_
      rintro e w1 ⟨rfl, hb1⟩
      go_wp2_with fail
      go_ret2
      exact ⟨_, by rw [HR.out]; rfl, by rw [HR.out]; exact World.ownsRow_nil _ _ _ _, hW.trans (hb1.mono (by simp))⟩
  · have HR := Lib.hid (show gameR zs g f = ([], checkR zs) by unfold gameR; rw [if_pos hc])
    have hc' : (checkR zs != 0) = true := by simpa using hc
    have HCK := Lib.hid (Check_any _ zs _ H0.out)
    clear hc h
    obtain ⟨x, y, p⟩ := g
    unfold GameZ.val at *
    simp only at *
    generalize checkR zs = r at *
    go_enter Try.func14, Try.ntmps14
    go_wp2_with fail
    refine HCK.out.mono ?_
    rintro e w' ⟨rfl, rfl⟩
    go_wp2_with fail
    go_ret2
    exact ⟨_, by rw [HR.out]; rfl, by rw [HR.out]; exact World.ownsRow_nil _ _ _ _, hW⟩
end Go.Proofs.Ytgbedogdikflcaa

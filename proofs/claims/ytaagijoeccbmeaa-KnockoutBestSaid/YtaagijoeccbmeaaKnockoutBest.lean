/- KnockoutBest: if the better player always wins, player 0 wins, and meets nobody before the last round who is better than others that are still in. For every input, no condition. -/
import Derived.Test.YtaagijoeccbmeaaKnBase
import Derived.Test.YtaagijoeccbmeaaKnBestP
namespace Go.Proofs.Ytaagijoeccbmeaa.knockoutBest
open Go.ChangeShapes Go.WideShapes Go.ChangeAt Go.RowKit
set_option linter.unusedVariables false

theorem flatK_at (gs : List KG) (k : Nat) (h : k < gs.length) : (flatK gs)[k * 3]? = some (.int .i64 gs[k].1) ∧ (flatK gs)[k * 3 + 1]? = some (.int .i64 gs[k].2.1) ∧ (flatK gs)[k * 3 + 2]? = some (.int .i64 gs[k].2.2) := by
  induction gs generalizing k with
  | nil => simp at h
  | cons g t ih =>
    cases k with
    | zero => exact ⟨rfl, rfl, rfl⟩
    | succ k =>
      have := ih k (by simpa using h)
      have e : (k + 1) * 3 = k * 3 + 3 := by omega
      rw [e]
      exact this

set_option maxHeartbeats 1000000 in
theorem paired_ok (n : Int) (K B ga gc : Nat) (a : Option Addr) (out : List KG) (w : World) (hK : K ≤ 5) (ho : w.ownsRow B 29 3 (.slice a out.length gc) out.length (flatK out)) (hp : pairedB K out = true) (hol : out.length ≤ 1000) :
    Calls Try.prog 8 #[.int .i64 n, .int .i64 K, .slice a out.length gc] w fun e w' => e = .returned (.bool true) ∧ Below w.heap.size w w' := by
  unfold pairedB at hp
  rw [Bool.and_eq_true] at hp
  obtain ⟨hp1, hp2⟩ := hp
  have HP := Lib.hid (fun (k : Nat) (hk : k < out.length) => List.all_eq_true.1 hp1 _ (List.getElem_mem hk))
  have HL := Lib.hid (beq_iff_eq.1 hp2)
  have HO := Lib.hid ho
  clear hp1 hp2 ho
  go_enter Try.func8, Try.ntmps8
  go_wp2_with fail
  go_loopw [11] (fun i wr => ∃ j : Nat, j ≤ out.length ∧ i = .int .i64 j ∧ Below w.heap.size w wr) (fun i _ => out.length - (intOf i).toNat)
  case atStart => exact ⟨0, Nat.zero_le _, rfl, Below.refl _ _⟩
  case round =>
    obtain ⟨j, hj, rfl, hbl⟩ := hrel
    have hsz := hbl.size
    by_cases hlt : j < out.length
    · have HO' := Lib.hid (own_stays HO.out hbl)
      obtain ⟨gb, gc', hgv⟩ := own_some HO'.out (by omega)
      simp only [Value.slice.injEq, true_and] at hgv
      obtain ⟨rfl, rfl⟩ := hgv
      obtain ⟨q0, q1, q2⟩ := flatK_at out j hlt
      have d0 : wr.cell? ⟨gb, j * 3, none⟩ = some (.int .i64 out[j].1) := (HO'.out.cellAt _ (by omega)).trans q0
      have d1 : wr.cell? ⟨gb, j * 3 + 1, none⟩ = some (.int .i64 out[j].2.1) := (HO'.out.cellAt _ (by omega)).trans q1
      have d2 : wr.cell? ⟨gb, j * 3 + 2, none⟩ = some (.int .i64 out[j].2.2) := (HO'.out.cellAt _ (by omega)).trans q2
      have hpj := HP.out j hlt
      clear q0 q1 q2
      generalize hgj : out[j] = gj at *
      clear hgj
      obtain ⟨rd, x, y⟩ := gj
      simp only at d0 d1 d2
      have hb1 : Below w.heap.size w (wr.alloc (.cells #[.int .i64 rd, .int .i64 x, .int .i64 y] 29)) := by go_grown
      have e0 : (wr.alloc (.cells #[.int .i64 rd, .int .i64 x, .int .i64 y] 29)).cell? ⟨wr.heap.size, 0, none⟩ = some (.int .i64 rd) := by go_simp
      have e1 : (wr.alloc (.cells #[.int .i64 rd, .int .i64 x, .int .i64 y] 29)).cell? ⟨wr.heap.size, 1, none⟩ = some (.int .i64 x) := by go_simp
      have e2 : (wr.alloc (.cells #[.int .i64 rd, .int .i64 x, .int .i64 y] 29)).cell? ⟨wr.heap.size, 2, none⟩ = some (.int .i64 y) := by go_simp
      go_wp2_with fail
      generalize (wr.alloc (.cells #[.int .i64 rd, .int .i64 x, .int .i64 y] 29)) = W at *
      clear d0 d1 d2
      by_cases hx : 0 ≤ x
      · by_cases hy : 0 ≤ y
        · have hq : (0 ≤ rd ∧ rd ≤ K) ∧ x ≤ 31 ∧ y ≤ 31 ∧ x + y = 2 ^ (K - rd.toNat) - 1 := by
            simp only [pairG, Bool.or_eq_true, Bool.and_eq_true, decide_eq_true_eq, beq_iff_eq] at hpj
            rcases hpj with hc | hc
            · omega
            · exact ⟨⟨hc.1.1.1.1, hc.1.1.1.2⟩, hc.1.1.2, hc.1.2, hc.2⟩
          obtain ⟨⟨hr0, hr1⟩, hx1, hy1, hsum⟩ := hq
          obtain ⟨rn, rfl⟩ : ∃ m : Nat, rd = (m : Int) := ⟨rd.toNat, by omega⟩
          simp only [Int.toNat_natCast] at hsum
          obtain ⟨s, hs⟩ : ∃ s : Nat, K - rn = s := ⟨_, rfl⟩
          rw [hs] at hsum
          have hs5 : s = 0 ∨ s = 1 ∨ s = 2 ∨ s = 3 ∨ s = 4 ∨ s = 5 := by omega
          clear hpj
          rcases hs5 with rfl | rfl | rfl | rfl | rfl | rfl
          · have hsr : (K : Int) - (rn : Int) = 0 := by omega
            have hsum' : x + y = 0 := by simpa using hsum
            have hne : (x + y != 0) = false := by simpa using hsum'
            have hwx : IntKind.i64.wrap (x + y) = x + y := IntWalk.i64_in _ (by omega)
            have hws : IntKind.i64.wrap ((K : Int) - (rn : Int)) = 0 := by rw [hsr]; rfl
            clear hsum hsum' hsr hs
            go_quiet (fail)
            have hb2 := below_drewN hb1 nq
            clear e0 e1 e2 hwx hws
            generalize W.drewN nq = W2 at *
            go_wp2_with fail
            go_roundw
            case rel => exact ⟨j + 1, by omega, by go_num, hb2⟩
            case measure => simp [intOf]; omega
          · have hsr : (K : Int) - (rn : Int) = 1 := by omega
            have hsum' : x + y = 1 := by simpa using hsum
            have hne : (x + y != 1) = false := by simpa using hsum'
            have hwx : IntKind.i64.wrap (x + y) = x + y := IntWalk.i64_in _ (by omega)
            have hws : IntKind.i64.wrap ((K : Int) - (rn : Int)) = 1 := by rw [hsr]; rfl
            clear hsum hsum' hsr hs
            go_quiet (fail)
            have hb2 := below_drewN hb1 nq
            clear e0 e1 e2 hwx hws
            generalize W.drewN nq = W2 at *
            go_wp2_with fail
            go_roundw
            case rel => exact ⟨j + 1, by omega, by go_num, hb2⟩
            case measure => simp [intOf]; omega
          · have hsr : (K : Int) - (rn : Int) = 2 := by omega
            have hsum' : x + y = 3 := by simpa using hsum
            have hne : (x + y != 3) = false := by simpa using hsum'
            have hwx : IntKind.i64.wrap (x + y) = x + y := IntWalk.i64_in _ (by omega)
            have hws : IntKind.i64.wrap ((K : Int) - (rn : Int)) = 2 := by rw [hsr]; rfl
            clear hsum hsum' hsr hs
            go_quiet (fail)
            have hb2 := below_drewN hb1 nq
            clear e0 e1 e2 hwx hws
            generalize W.drewN nq = W2 at *
            go_wp2_with fail
            go_roundw
            case rel => exact ⟨j + 1, by omega, by go_num, hb2⟩
            case measure => simp [intOf]; omega
          · have hsr : (K : Int) - (rn : Int) = 3 := by omega
            have hsum' : x + y = 7 := by simpa using hsum
            have hne : (x + y != 7) = false := by simpa using hsum'
            have hwx : IntKind.i64.wrap (x + y) = x + y := IntWalk.i64_in _ (by omega)
            have hws : IntKind.i64.wrap ((K : Int) - (rn : Int)) = 3 := by rw [hsr]; rfl
            clear hsum hsum' hsr hs
            go_quiet (fail)
            have hb2 := below_drewN hb1 nq
            clear e0 e1 e2 hwx hws
            generalize W.drewN nq = W2 at *
            go_wp2_with fail
            go_roundw
            case rel => exact ⟨j + 1, by omega, by go_num, hb2⟩
            case measure => simp [intOf]; omega
          · have hsr : (K : Int) - (rn : Int) = 4 := by omega
            have hsum' : x + y = 15 := by simpa using hsum
            have hne : (x + y != 15) = false := by simpa using hsum'
            have hwx : IntKind.i64.wrap (x + y) = x + y := IntWalk.i64_in _ (by omega)
            have hws : IntKind.i64.wrap ((K : Int) - (rn : Int)) = 4 := by rw [hsr]; rfl
            clear hsum hsum' hsr hs
            go_quiet (fail)
            have hb2 := below_drewN hb1 nq
            clear e0 e1 e2 hwx hws
            generalize W.drewN nq = W2 at *
            go_wp2_with fail
            go_roundw
            case rel => exact ⟨j + 1, by omega, by go_num, hb2⟩
            case measure => simp [intOf]; omega
          · have hsr : (K : Int) - (rn : Int) = 5 := by omega
            have hsum' : x + y = 31 := by simpa using hsum
            have hne : (x + y != 31) = false := by simpa using hsum'
            have hwx : IntKind.i64.wrap (x + y) = x + y := IntWalk.i64_in _ (by omega)
            have hws : IntKind.i64.wrap ((K : Int) - (rn : Int)) = 5 := by rw [hsr]; rfl
            clear hsum hsum' hsr hs
            go_quiet (fail)
            have hb2 := below_drewN hb1 nq
            clear e0 e1 e2 hwx hws
            generalize W.drewN nq = W2 at *
            go_wp2_with fail
            go_roundw
            case rel => exact ⟨j + 1, by omega, by go_num, hb2⟩
            case measure => simp [intOf]; omega
        · have g2 : decide (0 ≤ y) = false := by simpa using hy
          clear hpj hy
          go_quiet (fail)
          have hb2 := below_drewN hb1 nq
          clear e0 e1 e2
          generalize W.drewN nq = W2 at *
          go_wp2_with fail
          go_roundw
          case rel => exact ⟨j + 1, by omega, by go_num, hb2⟩
          case measure => simp [intOf]; omega
      · have g1 : decide (0 ≤ x) = false := by simpa using hx
        clear hpj hx
        go_quiet (fail)
        have hb2 := below_drewN hb1 nq
        clear e0 e1 e2
        generalize W.drewN nq = W2 at *
        go_wp2_with fail
        go_roundw
        case rel => exact ⟨j + 1, by omega, by go_num, hb2⟩
        case measure => simp [intOf]; omega
    · obtain rfl : j = out.length := by omega
      have hl := HL.out
      clear HP HO HL
      have hK5 : K = 0 ∨ K = 1 ∨ K = 2 ∨ K = 3 ∨ K = 4 ∨ K = 5 := by omega
      generalize out.length = ol at *
      rcases hK5 with rfl | rfl | rfl | rfl | rfl | rfl
      all_goals
        simp at hl
        obtain rfl : ol = _ := by omega
        go_wp2_with fail
        go_ret
        exact ⟨rfl, hbl⟩

theorem walk_no (n : Int) (w : World) (h : n < 2 ∨ 32 < n) :
    Calls Try.prog 4 #[.int .i64 n] w fun e w' => e = .returned (.bool true) ∧ Below w.heap.size w w' := by
  have H := Lib.hid (fun w => Rounds_no n w h)
  clear h
  go_enter Try.func4, Try.ntmps4
  go_wp2_with fail
  refine (brackets_any _).mono ?_
  rintro e w0 ⟨rfl, hb0⟩
  go_wp2_with fail
  refine (H.out _).mono ?_
  rintro e w' ⟨rfl, rfl⟩
  go_wp2
  go_ret
  exact ⟨rfl, hb0⟩

theorem nth_step (out : List KG) (j m : Nat) (h : j < out.length) : nthReal (out.drop j) m = if (decide (out[j].2.1 < 0) || decide (out[j].2.2 < 0)) = true then nthReal (out.drop (j + 1)) m else match m with | 0 => some (out[j].2.1, out[j].2.2) | m + 1 => nthReal (out.drop (j + 1)) m := by
  rw [List.drop_eq_getElem_cons h]
  cases m <;> rfl

theorem play_out (n : Nat) (rs : List Int) : (playR n rs).1.length ≤ 64 := by
  have hpl : ∀ (j round : Nat) (l : List Int) (out : List KG) (rs : List Int), (playL j round l out rs).2.1.length ≤ out.length + 2 ^ j := by
    intro j
    induction j with
    | zero => intro round l out rs; simp [playL]
    | succ j ih =>
      intro round l out rs
      rw [playL]
      split
      · simp
      · have q := roundTo_lens round l ⟨out, [], rs⟩ (2 ^ j)
        have := ih (round + 1) (roundTo round l ⟨out, [], rs⟩ (2 ^ j)).next (roundTo round l ⟨out, [], rs⟩ (2 ^ j)).out (roundTo round l ⟨out, [], rs⟩ (2 ^ j)).rs
        rw [q.1] at this
        simp only at this
        rw [Nat.pow_succ]
        omega
  have hk5 : kOf n ≤ 5 := by unfold kOf; split <;> (try split) <;> (try split) <;> (try split) <;> omega
  have hp32 : 2 ^ kOf n ≤ 32 := Nat.le_trans (Nat.pow_le_pow_right (by omega) hk5) (by decide)
  have := hpl (kOf n) 0 (seedsZ n) [] rs
  unfold playR
  split
  · simp
  · unfold endPlay
    split
    · simp
    · split <;> simp at this ⊢ <;> omega

set_option maxHeartbeats 2000000 in
theorem walk_ok (n : Nat) (w : World) (h0 : 2 ≤ n) (h1 : n ≤ 32) :
    Calls Try.prog 4 #[.int .i64 n] w fun e w' => e = .returned (.bool true) ∧ Below w.heap.size w w' := by
  obtain ⟨i0, hi, hz0, hz1, hz2⟩ := info_parts info3
  have HB := Lib.hid (best n h0 h1)
  have hk5 : kOf n ≤ 5 := by unfold kOf; split <;> (try split) <;> (try split) <;> (try split) <;> omega
  go_enter Try.func4, Try.ntmps4
  go_wp2_with fail
  refine (brackets_any _).mono ?_
  rintro e w0 ⟨rfl, hb0⟩
  go_wp2_with fail
  refine (Rounds_ok n _ h0 h1).mono ?_
  rintro e w' ⟨rfl, rfl⟩
  have hbs := hb0.size
  go_wp2_with fail
  go_loopw [5, 24] (fun vr i wr => ∃ (t : Nat) (rs : List Int), t ≤ 64 ∧ i = .int .i64 t ∧ rs.length ≤ t ∧ Hid (wr.ownsRow w0.heap.size 3 1 vr rs.length (ints rs)) ∧ Hid (goBest n (64 - t) rs = true) ∧ w0.heap.size ≤ wr.heap.size ∧ Below w.heap.size w wr) (fun _ i _ => 64 - (intOf i).toNat)
  case atStart => exact ⟨0, [], by omega, rfl, by simp, Lib.hid (World.ownsRow_nil _ _ _ _), HB, Nat.le_refl _, hb0⟩
  case round =>
    obtain ⟨t, rs, ht, rfl, hrt, HR, HG, hw0, hbl⟩ := hrel
    by_cases hlt : t < 64
    · obtain ⟨f, hf⟩ : ∃ f, 64 - t = f + 1 := ⟨63 - t, by omega⟩
      have hg := HG.out
      rw [hf, goBest] at hg
      have hol := play_out n rs
      obtain ⟨ra, rc, hvr⟩ := own_form2 HR.out
      subst hvr
      have hbad : rs.any badB = false := by
        simp only [Bool.and_eq_true] at hg
        simpa using hg.1.2
      have HPl := Lib.hid (Play_ok n (.slice ra rs.length rc) rs wr h0 h1 (RdI.of_own HR.out) hbad)
      have HF : Hid (64 - (t + 1) = f) := Lib.hid (by omega)
      clear hbad HG hf HB
      generalize playR n rs = pr at *
      obtain ⟨out, wn, e⟩ := pr
      simp only [Bool.and_eq_true] at hg hol
      obtain ⟨⟨he, _⟩, hg⟩ := hg
      obtain rfl : e = 0 := by simpa using he
      clear he
      try simp only at HPl
      have HGG := Lib.hid hg
      clear hg
      go_wp2_with fail
      refine HPl.out.mono ?_
      rintro e w1 ⟨vg, rfl, hown1, hb1⟩
      try simp only at hown1
      try simp only
      have HR1 := Lib.hid (own_stays HR.out hb1)
      obtain ⟨ga, gc, rfl⟩ := own_form2 hown1
      have HO := Lib.hid hown1
      have hb01 := hbl.trans (hb1.mono hbl.size)
      have hsz01 := hb1.size
      clear hown1 hb1 HR hbl
      by_cases hwn : 0 ≤ wn
      · have hg := HGG.out
        rw [if_pos (by simpa using hwn), Bool.and_eq_true] at hg
        obtain ⟨hw0', hpb⟩ := hg
        obtain rfl : wn = 0 := by simpa using hw0'
        have HPB := Lib.hid hpb
        clear hpb hw0' HGG
        generalize kOf n = K at *
        go_wp2_with fail
        refine (paired_ok n K _ 0 gc ga out _ hk5 HO.out HPB.out (by omega)).mono ?_
        rintro e w2 ⟨rfl, hb2⟩
        go_wp2_with fail
        go_ret
        exact ⟨rfl, hb01.trans (hb2.mono hb01.size)⟩
      · have hg := HGG.out
        rw [if_neg (by simpa using hwn)] at hg
        obtain ⟨a0, b0, hnr⟩ : ∃ a b, nthReal out rs.length = some (a, b) := by
          cases hq : nthReal out rs.length with
          | none => rw [hq] at hg; cases hg
          | some p => exact ⟨p.1, p.2, rfl⟩
        rw [hnr] at hg
        have HGn := Lib.hid hg
        have HNR := Lib.hid hnr
        clear hg hnr HGG
        obtain ⟨wp, rfl⟩ : ∃ wp : World, wp = wr := ⟨_, rfl⟩
        go_wp2_with fail
        go_loopw [5, 9, 47] (fun v5 c i wr => ∃ (j m : Nat), v5 = .slice ra rs.length rc ∧ j ≤ out.length ∧ m ≤ rs.length ∧ i = .int .i64 j ∧ c = .int .i64 ((rs.length - m : Nat) : Int) ∧ Hid (nthReal (out.drop j) m = some (a0, b0)) ∧ Hid (wr.ownsRow w0.heap.size 3 1 (.slice ra rs.length rc) rs.length (ints rs)) ∧ Hid (wr.ownsRow wp.heap.size 29 3 (.slice ga out.length gc) out.length (flatK out)) ∧ w0.heap.size ≤ wr.heap.size ∧ Below w.heap.size w wr) (fun _ _ i _ => out.length - (intOf i).toNat)
        case atStart => exact ⟨0, rs.length, rfl, Nat.zero_le _, Nat.le_refl _, rfl, by simp, HNR, HR1, HO, by omega, hb01⟩
        case round =>
          obtain ⟨j, m, rfl, hj, hm, rfl, rfl, HN, HRr, HGr, hw0r, hbr⟩ := hrel
          have hszr := hbr.size
          by_cases hlj : j < out.length
          · obtain ⟨gb, gc', hgv⟩ := own_some HGr.out (by omega)
            simp only [Value.slice.injEq, true_and] at hgv
            obtain ⟨rfl, rfl⟩ := hgv
            have hgb1 := (HGr.out.lt gb rfl).2
            obtain ⟨q0, q1, q2⟩ := flatK_at out j hlj
            have d0 : wr.cell? ⟨gb, j * 3, none⟩ = some (.int .i64 out[j].1) := (HGr.out.cellAt _ (by omega)).trans q0
            have d1 : wr.cell? ⟨gb, j * 3 + 1, none⟩ = some (.int .i64 out[j].2.1) := (HGr.out.cellAt _ (by omega)).trans q1
            have d2 : wr.cell? ⟨gb, j * 3 + 2, none⟩ = some (.int .i64 out[j].2.2) := (HGr.out.cellAt _ (by omega)).trans q2
            have hst := nth_step out j m hlj
            rw [HN.out] at hst
            clear q0 q1 q2
            generalize hgj : out[j] = gj at *
            clear hgj
            obtain ⟨rd, x, y⟩ := gj
            simp only at d0 d1 d2 hst
            have hba : Below w.heap.size w (wr.alloc (.cells #[.int .i64 rd, .int .i64 x, .int .i64 y] 29)) := by go_grown
            by_cases hneg : x < 0 ∨ y < 0
            · rw [if_pos (by simpa using hneg)] at hst
              have HN' := Lib.hid hst.symm
              have hneg' : x < 0 ∨ (0 ≤ x ∧ y < 0) := by omega
              clear hneg hst
              rcases hneg' with hn | ⟨hn, hn'⟩
              all_goals
                go_wp2_with fail
                go_roundw
                case rel => exact ⟨j + 1, m, rfl, by omega, hm, by go_num, rfl, HN', Lib.hid (HRr.out.alloc _), Lib.hid (HGr.out.alloc _), by simp; omega, hba⟩
                case measure => simp [intOf]; omega
            · have hx : 0 ≤ x := by omega
              have hy : 0 ≤ y := by omega
              rw [if_neg (by simpa using hneg)] at hst
              clear hneg
              cases m with
              | succ m =>
                have HN' := Lib.hid hst.symm
                have hne : ((((rs.length - (m + 1) : Nat) : Int)) == (rs.length : Int)) = false := by simp; omega
                have hle : ((rs.length - (m + 1) : Nat) : Int) ≤ 100 := by omega
                have hle0 : 0 ≤ ((rs.length - (m + 1) : Nat) : Int) := by omega
                have HQ : Hid (((rs.length - m : Nat) : Int) = ((rs.length - (m + 1) : Nat) : Int) + 1) := Lib.hid (by omega)
                clear hst
                go_wp2_with fail
                go_roundw
                case rel => exact ⟨j + 1, m, rfl, by omega, by omega, by go_num, by rw [HQ.out], HN', Lib.hid (HRr.out.alloc _), Lib.hid (HGr.out.alloc _), by simp; omega, hba⟩
                case measure => simp [intOf]; omega
              | zero =>
                simp only [Option.some.injEq, Prod.mk.injEq] at hst
                obtain ⟨rfl, rfl⟩ := hst
                have hne : ((((rs.length - 0 : Nat) : Int)) == (rs.length : Int)) = true := by simp
                by_cases hlt2 : b0 < a0
                · have HGx : Hid (goBest n f (rs ++ [0]) = true) := Lib.hid (by have := HGn.out; simpa [hlt2] using this)
                  have HRa := Lib.hid ((HRr.out.alloc (.cells #[.int .i64 rd, .int .i64 a0, .int .i64 b0] 29)).alloc (.cells #[.int .i64 0] 3))
                  have S0 : Hid (0 < 1) := Lib.hid (by omega)
                  have S1 : Hid (∀ u ∈ [Value.int .i64 0], u.oneCell' = true) := Lib.hid (fun u hu => by simp at hu; rw [hu]; rfl)
                  have S2 : Hid (rs.length + 1 ≤ maxLen) := Lib.hid (by unfold maxLen; omega)
                  have S3 : Hid ((rs.length + 1) * 8 ≤ 140737488355328) := Lib.hid (by omega)
                  have S4 : Hid (w0.heap.size ≤ ((wr.alloc (.cells #[.int .i64 rd, .int .i64 a0, .int .i64 b0] 29)).alloc (.cells #[.int .i64 0] 3)).heap.size) := Lib.hid (by simp; omega)
                  have S5 : Hid (((wr.alloc (.cells #[.int .i64 rd, .int .i64 a0, .int .i64 b0] 29)).alloc (.cells #[.int .i64 0] 3)).heap.size = wr.heap.size + 1 + 1) := Lib.hid (by simp)
                  have HC1 : Hid (∀ j u, [Value.int .i64 0][j]? = some u → ((wr.alloc (.cells #[.int .i64 rd, .int .i64 a0, .int .i64 b0] 29)).alloc (.cells #[.int .i64 0] 3)).cell? ((⟨wr.heap.size + 1, 0, none⟩ : Addr).add j) = some u) := Lib.hid (by have := cell_one_new (wr.alloc (.cells #[.int .i64 rd, .int .i64 a0, .int .i64 b0] 29)) (.int .i64 0) 3; simpa using this)
                  go_wp2_with (at_builtin; refine wpList_append_lies _ rfl _ _ 22 rfl w0.heap.size 3 i0 (.int .i64 0) 1 8 Try.underlying22 hi hz0 hz1 hz2 rfl (by decide) _ rs.length (ints rs) rfl HRa.out ⟨wr.heap.size + 1, 0, none⟩ 1 1 [.int .i64 0] rfl rfl HC1.out S1.out S0.out S2.out S3.out S4.out (wr.heap.size + 1 + 1) S5.out ?_)
                  intro g3 cap3 w3 hown3 hgrow3 hat3 hlt3
                  have hb3 : Below w.heap.size w w3 := Below.grown (hba.alloc (by simp; omega) _) hgrow3 (by simp; omega) (fun q hq => by have := (HRa.out.lt q hq).1; omega)
                  have hw3 : w0.heap.size ≤ w3.heap.size := by have := hgrow3.size; simp at this; omega
                  have HO3 := Lib.hid hown3
                  clear hown3 hgrow3 hat3 hlt3 HRa HC1
                  go_wp2_with fail
                  go_roundw
                  case rel => exact ⟨t + 1, rs ++ [0], by omega, by go_num, by simp; omega, Lib.hid (by simpa [ints] using HO3.out), Lib.hid (by rw [HF.out]; exact HGx.out), hw3, hb3⟩
                  case measure => simp [intOf]; omega
                · have HGx : Hid (goBest n f (rs ++ [2]) = true) := Lib.hid (by have := HGn.out; simpa [hlt2] using this)
                  have HRa := Lib.hid ((HRr.out.alloc (.cells #[.int .i64 rd, .int .i64 a0, .int .i64 b0] 29)).alloc (.cells #[.int .i64 2] 3))
                  have S0 : Hid (0 < 1) := Lib.hid (by omega)
                  have S1 : Hid (∀ u ∈ [Value.int .i64 2], u.oneCell' = true) := Lib.hid (fun u hu => by simp at hu; rw [hu]; rfl)
                  have S2 : Hid (rs.length + 1 ≤ maxLen) := Lib.hid (by unfold maxLen; omega)
                  have S3 : Hid ((rs.length + 1) * 8 ≤ 140737488355328) := Lib.hid (by omega)
                  have S4 : Hid (w0.heap.size ≤ ((wr.alloc (.cells #[.int .i64 rd, .int .i64 a0, .int .i64 b0] 29)).alloc (.cells #[.int .i64 2] 3)).heap.size) := Lib.hid (by simp; omega)
                  have S5 : Hid (((wr.alloc (.cells #[.int .i64 rd, .int .i64 a0, .int .i64 b0] 29)).alloc (.cells #[.int .i64 2] 3)).heap.size = wr.heap.size + 1 + 1) := Lib.hid (by simp)
                  have HC1 : Hid (∀ j u, [Value.int .i64 2][j]? = some u → ((wr.alloc (.cells #[.int .i64 rd, .int .i64 a0, .int .i64 b0] 29)).alloc (.cells #[.int .i64 2] 3)).cell? ((⟨wr.heap.size + 1, 0, none⟩ : Addr).add j) = some u) := Lib.hid (by have := cell_one_new (wr.alloc (.cells #[.int .i64 rd, .int .i64 a0, .int .i64 b0] 29)) (.int .i64 2) 3; simpa using this)
                  go_wp2_with (at_builtin; refine wpList_append_lies _ rfl _ _ 22 rfl w0.heap.size 3 i0 (.int .i64 0) 1 8 Try.underlying22 hi hz0 hz1 hz2 rfl (by decide) _ rs.length (ints rs) rfl HRa.out ⟨wr.heap.size + 1, 0, none⟩ 1 1 [.int .i64 2] rfl rfl HC1.out S1.out S0.out S2.out S3.out S4.out (wr.heap.size + 1 + 1) S5.out ?_)
                  intro g3 cap3 w3 hown3 hgrow3 hat3 hlt3
                  have hb3 : Below w.heap.size w w3 := Below.grown (hba.alloc (by simp; omega) _) hgrow3 (by simp; omega) (fun q hq => by have := (HRa.out.lt q hq).1; omega)
                  have hw3 : w0.heap.size ≤ w3.heap.size := by have := hgrow3.size; simp at this; omega
                  have HO3 := Lib.hid hown3
                  clear hown3 hgrow3 hat3 hlt3 HRa HC1
                  go_wp2_with fail
                  go_roundw
                  case rel => exact ⟨t + 1, rs ++ [2], by omega, by go_num, by simp; omega, Lib.hid (by simpa [ints] using HO3.out), Lib.hid (by rw [HF.out]; exact HGx.out), hw3, hb3⟩
                  case measure => simp [intOf]; omega
          · obtain rfl : j = out.length := by omega
            have := HN.out
            rw [List.drop_length] at this
            cases this
    · obtain rfl : t = 64 := by omega
      have := HG.out
      rw [goBest] at this
      cases this

theorem walk (n : Int) (w : World) :
    Calls Try.prog 4 #[.int .i64 n] w fun e w' => e = .returned (.bool true) ∧ Below w.heap.size w w' := by
  by_cases h : n < 2 ∨ 32 < n
  · exact walk_no n w h
  · obtain ⟨m, rfl⟩ : ∃ m : Nat, n = (m : Int) := ⟨n.toNat, by omega⟩
    exact walk_ok m w (by omega) (by omega)

section
theorem own : ownKnob Try.prog.godebug = none := by kernel_rfl
theorem laidOut : laidOutB Try.prog = true := by kernel_rfl

set_option maxRecDepth 100000 in
theorem lifted (os : Os) (started : os.Started) (H : Type) (enc : TypeId × Value → H) :
    ReturnsInHanded {} Try.checked os 4 .any (Rows.knockoutBestSpec.pre6 enc Try.prog Try.f4 Rows.knockoutBestRow.domain false) (Rows.knockoutBestSpec.post enc Try.prog Try.f4 false true false false) := by
  refine returnsInHanded_of_change (C := Try.checked) own started (by kernel_rfl) Try.func4
    (ChangeSpec.witness6 (enc := enc) (C := Try.checked) false ⟨#[], #[.int .i64 0], []⟩ 8 (by kernel_rfl) (by kernel_rfl) (by kernel_rfl) (by kernel_rfl)) ?_
  intro W base args ds gs before hval0 hW hcnd _
  have hval : ∀ (j : Nat) t v, Try.f4.params[j]? = some t → args[j]? = some v → Value.okWide Try.prog W .any base t v := hval0
  have hW' := hW
  obtain ⟨p, q, hA0, hV, rfl, hfz, hnd⟩ := hW
  have hA : DataW.TrodAll enc Try.prog W 0 (fun _ => true) true Try.f4.params.toList args.toList ds p := hA0
  rw [Try.params4] at hA hval
  have hAll := hA
  obtain ⟨v0, vs0, d0, ds0, p0, q0, hargs, rfl, rfl, h0, r0⟩ := trodAll_cons hA
  obtain ⟨rfl, rfl, rfl⟩ := trodAll_nil r0
  obtain rfl : args = #[v0] := by cases args; simp_all
  obtain ⟨rfl, rfl⟩ := trodVars_none hV
  obtain ⟨a0, rfl, rfl, rfl, w0⟩ := open_int Try.underlying3 (hval 0 3 v0 rfl rfl) h0
  clear hA0 hval0
  refine (walk a0 W).mono fun e W' ⟨he, bel⟩ => ?_
  subst he
  exact ⟨_, rfl, _, _, _, [], _, [], hW', trodAll_mk1 (shut_bool Try.underlying4 _), trodAll_stays laidOut bel (by kernel_rfl) hAll, rfl, bel.frame _, fun h => by cases h⟩

theorem over : Rows.knockoutBestRow.holds Try.pinned (OpenSpec.ofChange Rows.knockoutBestSpec) :=
  OpenClaim.holds_of_wide 4 Try.f4 rfl rfl rfl rfl rfl rfl rfl ⟨rfl, rfl, rfl, rfl, rfl⟩ rfl rfl rfl rfl rfl (by kernel_rfl) Try.func4 (by kernel_rfl)
    (of_decide_eq_true (by kernel_rfl)) (by unfold Func.isWrapper; first | (rw [if_pos (by decide +kernel)]; kernel_rfl) | (rw [if_neg (by decide +kernel)]; exact ⟨rfl, rfl⟩))
    (fun os started H enc _ => lifted os started H enc)

theorem proved : Rows.KnockoutBestSaid := over
end
#print axioms proved
end Go.Proofs.Ytaagijoeccbmeaa.knockoutBest

/- The walk of knockout.Play. -/
import Derived.Test.YtaagijoeccbmeaaKnPlay
namespace Go.Proofs.Ytaagijoeccbmeaa
open Go.ChangeShapes Go.WideShapes Go.ChangeAt Go.RowKit
set_option linter.unusedVariables false

def PlayPost (r : List KG × Int × Int) (w : World) (e : Ending) (w' : World) : Prop :=
  ∃ v, e = .returned (.tuple #[v, .int .i64 r.2.1, .int .i64 r.2.2]) ∧ w'.ownsRow w.heap.size 29 3 v r.1.length (flatK r.1) ∧ Below w.heap.size w w'

theorem Play_no (n : Int) (v : Value) (w : World) (h : n < 2 ∨ 32 < n) :
    Calls Try.prog 6 #[.int .i64 n, v] w (PlayPost ([], 0, 4) w) := by
  have H := Lib.hid (Check_no n w h)
  clear h
  go_enter Try.func6, Try.ntmps6
  go_wp2_with fail
  refine H.out.mono ?_
  rintro e w' ⟨rfl, rfl⟩
  go_wp2
  go_ret3
  exact ⟨_, rfl, World.ownsRow_nil _ _ _ _, Below.refl _ _⟩

theorem Play_bad (n : Nat) (v : Value) (rs : List Int) (w : World) (h0 : 2 ≤ n) (h1 : n ≤ 32) (hr : RdI w v rs) (hb : rs.any badB = true) :
    Calls Try.prog 6 #[.int .i64 n, v] w (PlayPost (playR n rs) w) := by
  have HR := Lib.hid (show playR n rs = ([], 0, 4) by unfold playR; rw [if_pos hb])
  have HC := Lib.hid (ContainsFunc_any v rs badB 12 #[] w hr callBad (fun z _ => bad_any z w))
  rw [hb] at HC
  clear hb hr
  go_enter Try.func6, Try.ntmps6
  go_wp2_with fail
  refine (Check_ok n _ (by omega) (by omega)).mono ?_
  rintro e w' ⟨rfl, rfl⟩
  go_wp2_with fail
  refine HC.out.mono ?_
  rintro e w' ⟨rfl, rfl⟩
  go_wp2
  go_ret3
  exact ⟨_, by rw [HR.out]; rfl, by rw [HR.out]; exact World.ownsRow_nil _ _ _ _, Below.refl _ _⟩

set_option maxRecDepth 100000 in
set_option maxHeartbeats 2000000 in
theorem Play_ok (n : Nat) (v : Value) (rs0 : List Int) (w : World) (h0 : 2 ≤ n) (h1 : n ≤ 32) (hr : RdI w v rs0) (hb : rs0.any badB = false) :
    Calls Try.prog 6 #[.int .i64 n, v] w (PlayPost (playR n rs0) w) := by
  obtain ⟨i0, hi, hz0, hz1, hz2⟩ := info_parts info3
  obtain ⟨j0, ki, kz0, kz1, kz2⟩ := info_parts infoK
  have HR := Lib.hid (show playR n rs0 = endPlay (playL (kOf n) 0 (seedsZ n) [] rs0) by unfold playR; rw [if_neg (by simp [hb])])
  have HC := Lib.hid (ContainsFunc_any v rs0 badB 12 #[] w hr callBad (fun z _ => bad_any z w))
  rw [hb] at HC
  have HRS := Lib.hid hr
  have hk5 : kOf n ≤ 5 := by unfold kOf; split <;> (try split) <;> (try split) <;> (try split) <;> omega
  have HSL := Lib.hid (show (seedsZ n).length = 2 ^ kOf n by unfold seedsZ; rw [List.length_map, seedsTo_len])
  clear hb hr
  go_enter Try.func6, Try.ntmps6
  go_wp2_with fail
  refine (Check_ok n _ (by omega) (by omega)).mono ?_
  rintro e w' ⟨rfl, rfl⟩
  go_wp2_with fail
  refine HC.out.mono ?_
  rintro e w' ⟨rfl, rfl⟩
  go_wp2_with fail
  refine (seeds_any n _ h0 h1).mono ?_
  rintro e w1 ⟨vl, rfl, hown1, hb1⟩
  have HO1 := Lib.hid hown1
  clear hown1
  generalize seedsZ n = l0 at *
  generalize kOf n = K at *
  have hp32 : 2 ^ K ≤ 32 := Nat.le_trans (Nat.pow_le_pow_right (by omega) hk5) (by decide)
  go_wp2_with fail
  go_loopw [1, 8, 9, 10] (fun vr vo vl rd wr => ∃ (j round : Nat) (l : List Int) (out : List KG) (rs : List Int), rd = .int .i64 round ∧ round ≤ 100 - j ∧ j ≤ 5 ∧ lenV vl = 2 ^ j ∧ Hid (l.length = 2 ^ j) ∧ Hid (out.length + l.length ≤ 32) ∧ Hid (RdI w vr rs) ∧ Hid (wr.ownsRow w.heap.size 29 3 vo out.length (flatK out)) ∧ Hid (wr.ownsRow w.heap.size 3 1 vl l.length (ints l)) ∧ Hid (playL K 0 l0 [] rs0 = playL j round l out rs) ∧ Below w.heap.size w wr) (fun _ _ vl _ _ => lenV vl)
  case atStart => exact ⟨K, 0, l0, [], rs0, rfl, by omega, hk5, by obtain ⟨a, c, rfl⟩ := own_form2 HO1.out; rw [← HSL.out]; rfl, HSL, Lib.hid (by rw [HSL.out]; simpa using hp32), HRS, Lib.hid (World.ownsRow_nil _ _ _ _), HO1, Lib.hid rfl, hb1⟩
  case round =>
    obtain ⟨j, round, l, out, rs, rfl, hrd, hj5, hlv, HLL, HOL, HRr, HOo, HOl, HP, hbl⟩ := hrel
    obtain ⟨ra, rc, hvr, hrc1, hrc2⟩ := HRr.out.form
    subst hvr
    obtain ⟨la, lc, hvl⟩ := own_form2 HOl.out
    subst hvl
    unfold maxLen at hrc2
    clear hlv
    have hl32 : l.length ≤ 32 := by have := HOL.out; omega
    have ho32 : out.length ≤ 32 := by have := HOL.out; omega
    have HCt := Lib.hid (Contains_any (.slice la l.length lc) l (-2) wr (RdI.of_own HOl.out))
    cases j with
    | zero =>
      have hl1 : l.length = 1 := by rw [HLL.out]
      have HE : Hid (playR n rs0 = if rs ≠ [] then ([], 0, 2) else (out, (if l.getD 0 0 < -1 then -1 else l.getD 0 0), 0)) := Lib.hid (by rw [HR.out, HP.out, playL, endPlay]; simp only; rw [if_pos hl1])
      obtain ⟨g, c, hg⟩ := own_some HOl.out (by omega)
      simp only [Value.slice.injEq, true_and] at hg
      obtain ⟨rfl, rfl⟩ := hg
      have c0 : wr.cell? ⟨g, 0, none⟩ = some (.int .i64 (l.getD 0 0)) := (HOl.out.cellAt 0 (by omega)).trans (ints_get _ 0 (by omega))
      have HL1 := Lib.hid hl1
      rw [hl1]
      clear hl1 HCt
      cases rs with
      | nil =>
        generalize l.getD 0 0 = z at *
        by_cases hz : z < -1
        all_goals
          go_wp2_with fail
          go_region
          go_wp2_with fail
          go_ret3
          exact ⟨_, by rw [HE.out, if_neg (by simp)]; first | (rw [if_pos (by omega)]; rfl) | (rw [if_neg (by omega)]; rfl), by rw [HE.out, if_neg (by simp)]; exact HOo.out, hbl.drew⟩
      | cons r0 t =>
        have hlen : 0 < (r0 :: t).length := by simp
        generalize (r0 :: t).length = q at *
        go_wp2_with fail
        go_ret3
        exact ⟨_, by rw [HE.out]; rfl, by rw [HE.out]; exact World.ownsRow_nil _ _ _ _, hbl⟩
    | succ j =>
      have hl2 : 2 ≤ l.length := by rw [HLL.out, Nat.pow_succ]; have := Nat.pow_pos (n := j) (show 0 < 2 by omega); omega
      cases hop : hasOpen l
      · have HP2 : Hid (playL K 0 l0 [] rs0 = playL j (round + 1) (roundTo round l ⟨out, [], rs⟩ (2 ^ j)).next (roundTo round l ⟨out, [], rs⟩ (2 ^ j)).out (roundTo round l ⟨out, [], rs⟩ (2 ^ j)).rs) := Lib.hid (by rw [HP.out, playL, if_neg (by simp [hop])])
        have hop' : (l.any fun z => (-2 : Int) == z) = false := hop
        rw [hop'] at HCt
        clear hop hop' HP
        go_wp2_with fail
        refine HCt.out.mono ?_
        rintro e w' ⟨rfl, rfl⟩
        obtain ⟨g, c, hg⟩ := own_some HOl.out (by omega)
        simp only [Value.slice.injEq, true_and] at hg
        obtain ⟨rfl, rfl⟩ := hg
        have hgl := HOl.out.lt g rfl
        have hwo := hbl.size
        go_wp2_with fail
        obtain ⟨wo, rfl⟩ : ∃ wo : World, wo = wr := ⟨_, rfl⟩
        go_loopw [1, 8, 11, 12] (fun vr vo vn i wr => ∃ m : Nat, m ≤ 2 ^ j ∧ i = .int .i64 ((2 * m : Nat) : Int) ∧ Hid (RdI w vr (roundTo round l ⟨out, [], rs⟩ m).rs) ∧ Hid (wr.ownsRow w.heap.size 29 3 vo (out.length + m) (flatK (roundTo round l ⟨out, [], rs⟩ m).out)) ∧ Hid (wr.ownsRow wo.heap.size 3 1 vn m (ints (roundTo round l ⟨out, [], rs⟩ m).next)) ∧ Hid (wr.ownsRow w.heap.size 3 1 (.slice (some ⟨g, 0, none⟩) l.length lc) l.length (ints l)) ∧ wo.heap.size ≤ wr.heap.size ∧ Below w.heap.size w wr) (fun _ _ _ i _ => l.length - (intOf i).toNat)
        case atStart => exact ⟨0, Nat.zero_le _, rfl, HRr, HOo, Lib.hid (World.ownsRow_nil _ _ _ _), HOl, Nat.le_refl _, hbl⟩
        case round =>
          obtain ⟨m, hm, rfl, HRm, HOm, HNm, HLm, hwm, hbm⟩ := hrel
          obtain ⟨qa, qc, hvr, hqc1, hqc2⟩ := HRm.out.form
          subst hvr
          unfold maxLen at hqc2
          by_cases hlt : m < 2 ^ j
          · have hml : 2 * m + 1 < l.length := by rw [HLL.out, Nat.pow_succ]; omega
            have c0 : wr.cell? ⟨g, 2 * m, none⟩ = some (.int .i64 (l.getD (2 * m) 0)) := (HLm.out.cellAt (2 * m) (by omega)).trans (ints_get _ _ (by omega))
            have c1 : wr.cell? ⟨g, 2 * m + 1, none⟩ = some (.int .i64 (l.getD (2 * m + 1) 0)) := (HLm.out.cellAt (2 * m + 1) (by omega)).trans (ints_get _ _ (by omega))
            have HST : Hid (roundTo round l ⟨out, [], rs⟩ (m + 1) = stepK round (l.getD (2 * m) 0) (l.getD (2 * m + 1) 0) (roundTo round l ⟨out, [], rs⟩ m)) := Lib.hid rfl
            generalize hs : roundTo round l ⟨out, [], rs⟩ m = st at *
            clear hs
            obtain ⟨so, sn, sr⟩ := st
            simp only at *
            generalize l.getD (2 * m) 0 = a at *
            generalize l.getD (2 * m + 1) 0 = b at *
            have hszm := hbm.size
            go_wp2_with fail
            go_quiet (fail)
            have HRq := HRm
            have HOq : Hid ((wr.drewN nq).ownsRow w.heap.size 29 3 u8 (out.length + m) (flatK so)) := HOm
            have HNq : Hid ((wr.drewN nq).ownsRow wo.heap.size 3 1 u11 m (ints sn)) := HNm
            have HLq : Hid ((wr.drewN nq).ownsRow w.heap.size 3 1 (.slice (some ⟨g, 0, none⟩) l.length lc) l.length (ints l)) := HLm
            have hbq := below_drewN hbm nq
            have hwq : wo.heap.size ≤ (wr.drewN nq).heap.size := hwm
            clear c0 c1 HOm HNm HLm hbm hwm hszm
            generalize wr.drewN nq = W at *
            have hszW := hbq.size
            have HOa := Lib.hid (HOq.out.alloc (.cells #[.int .i64 (round : Int), .int .i64 a, .int .i64 b] 29))
            go_wp2_with (at_builtin; refine wpList_append_lies _ rfl _ _ 24 rfl w.heap.size 29 j0 (.agg #[.int .i64 0, .int .i64 0, .int .i64 0]) 3 24 Try.underlying24 ki kz0 kz1 kz2 rfl (by decide) _ (out.length + m) (flatK so) rfl HOa.out ⟨W.heap.size, 0, none⟩ 1 1 [.int .i64 (round : Int), .int .i64 a, .int .i64 b] rfl rfl (cell_three_new _ _ _ _ _) ?c2 ?c2b ?c3 ?c4 ?c5 (W.heap.size + 1) (by simp) ?_)
            case c2 => intro u hu; simp at hu; rcases hu with rfl | rfl | rfl <;> rfl
            case c2b => omega
            case c3 => unfold maxLen; omega
            case c4 => omega
            case c5 => simp; omega
            intro g1 cap1 w2 hown2 hgrow2 hat2 hlt2
            have HO2 := Lib.hid hown2
            have HN2 := Lib.hid ((HNq.out.alloc (.cells #[.int .i64 (round : Int), .int .i64 a, .int .i64 b] 29)).kept hgrow2 (own_ne (HNq.out.alloc _) HOa.out (by decide)))
            have HL2 := Lib.hid ((HLq.out.alloc (.cells #[.int .i64 (round : Int), .int .i64 a, .int .i64 b] 29)).kept hgrow2 (own_ne (HLq.out.alloc _) HOa.out (by decide)))
            have hb2 : Below w.heap.size w w2 := Below.grown (hbq.alloc hszW _) hgrow2 (by simp; omega) (fun q hq => (HOa.out.lt q hq).1)
            have hw2 : wo.heap.size ≤ w2.heap.size := by have := hgrow2.size; simp at this; omega
            clear hown2 hgrow2 hat2 hlt2 HOa HOq HNq HLq hbq hwq hszW
            have hsz2 := hb2.size
            have hge : ¬ (wo.heap.size ≤ g) := by omega
            by_cases hneg : a < 0 ∨ b < 0
            · obtain ⟨x, hx⟩ : ∃ x, (if a < b then b else a) = x := ⟨_, rfl⟩
              have HV : Hid (nextV a b sr = x) := Lib.hid (by unfold nextV; rw [if_pos hneg]; exact hx)
              have HV2 : Hid (nextR a b sr = sr) := Lib.hid (by unfold nextR; rw [if_pos hneg])
              have HNa := Lib.hid (HN2.out.alloc (.cells #[.int .i64 x] 3))
              have hneg' : a < 0 ∨ (0 ≤ a ∧ b < 0) := by omega
              clear hneg
              rcases hneg' with ha | ⟨ha, hb'⟩
              · have tok : True := trivial
                go_wp2_with (at_builtin; refine wpList_append_lies _ rfl _ _ 22 rfl wo.heap.size 3 i0 (.int .i64 0) 1 8 Try.underlying22 hi hz0 hz1 hz2 rfl (by decide) _ m (ints sn) rfl HNa.out ⟨w2.heap.size, 0, none⟩ 1 1 [.int .i64 x] rfl rfl (cell_one_new _ _ _) ?c2 ?c2b ?c3 ?c4 ?c5 (w2.heap.size + 1) (by simp) ?_)
                case c2 => intro u hu; simp at hu; rw [hu]; rfl
                case c2b => omega
                case c3 => unfold maxLen; omega
                case c4 => omega
                case c5 => simp; omega
                intro g3 cap3 w3 hown3 hgrow3 hat3 hlt3
                have HO3 := Lib.hid ((HO2.out.alloc (.cells #[.int .i64 x] 3)).kept hgrow3 (own_ne (HO2.out.alloc (.cells #[.int .i64 x] 3)) HNa.out (by decide)))
                have HL3 := Lib.hid ((HL2.out.alloc (.cells #[.int .i64 x] 3)).kept hgrow3 (own_apart (HL2.out.alloc (.cells #[.int .i64 x] 3)) (fun q hq => by simp [Value.ownBlock] at hq; omega) HNa.out (Nat.le_refl wo.heap.size)))
                have hb3 : Below w.heap.size w w3 := Below.grown (hb2.alloc hsz2 _) hgrow3 (by simp; omega) (fun q hq => by have := (HNa.out.lt q hq).1; omega)
                have hw3 : wo.heap.size ≤ w3.heap.size := by have := hgrow3.size; simp at this; omega
                have HN3 := Lib.hid hown3
                clear hown3 hgrow3 hat3 hlt3 HNa HO2 HL2 HN2 hb2 hw2 hsz2
                go_wp2_with fail
                go_roundw
                case rel => exact ⟨m + 1, by omega, by go_num, Lib.hid (by rw [HST.out]; show RdI w _ (nextR a b sr); rw [HV2.out]; exact HRq.out), Lib.hid (by rw [HST.out]; show World.ownsRow _ _ _ _ _ _ (flatK (so ++ [((round : Int), a, b)])); rw [flatK_snoc]; exact HO3.out), Lib.hid (by rw [HST.out]; show World.ownsRow _ _ _ _ _ _ (ints (sn ++ [nextV a b sr])); rw [HV.out]; simpa [ints] using HN3.out), HL3, hw3, hb3⟩
                case measure => simp [intOf]; omega
              · have hxa : a = x := by rw [← hx, if_neg (by omega)]
                subst hxa
                clear hx
                go_wp2_with (at_builtin; refine wpList_append_lies _ rfl _ _ 22 rfl wo.heap.size 3 i0 (.int .i64 0) 1 8 Try.underlying22 hi hz0 hz1 hz2 rfl (by decide) _ m (ints sn) rfl HNa.out ⟨w2.heap.size, 0, none⟩ 1 1 [.int .i64 a] rfl rfl (cell_one_new _ _ _) ?c2 ?c2b ?c3 ?c4 ?c5 (w2.heap.size + 1) (by simp) ?_)
                case c2 => intro u hu; simp at hu; rw [hu]; rfl
                case c2b => omega
                case c3 => unfold maxLen; omega
                case c4 => omega
                case c5 => simp; omega
                intro g3 cap3 w3 hown3 hgrow3 hat3 hlt3
                have HO3 := Lib.hid ((HO2.out.alloc (.cells #[.int .i64 a] 3)).kept hgrow3 (own_ne (HO2.out.alloc (.cells #[.int .i64 a] 3)) HNa.out (by decide)))
                have HL3 := Lib.hid ((HL2.out.alloc (.cells #[.int .i64 a] 3)).kept hgrow3 (own_apart (HL2.out.alloc (.cells #[.int .i64 a] 3)) (fun q hq => by simp [Value.ownBlock] at hq; omega) HNa.out (Nat.le_refl wo.heap.size)))
                have hb3 : Below w.heap.size w w3 := Below.grown (hb2.alloc hsz2 _) hgrow3 (by simp; omega) (fun q hq => by have := (HNa.out.lt q hq).1; omega)
                have hw3 : wo.heap.size ≤ w3.heap.size := by have := hgrow3.size; simp at this; omega
                have HN3 := Lib.hid hown3
                clear hown3 hgrow3 hat3 hlt3 HNa HO2 HL2 HN2 hb2 hw2 hsz2
                go_wp2_with fail
                go_roundw
                case rel => exact ⟨m + 1, by omega, by go_num, Lib.hid (by rw [HST.out]; show RdI w _ (nextR a b sr); rw [HV2.out]; exact HRq.out), Lib.hid (by rw [HST.out]; show World.ownsRow _ _ _ _ _ _ (flatK (so ++ [((round : Int), a, b)])); rw [flatK_snoc]; exact HO3.out), Lib.hid (by rw [HST.out]; show World.ownsRow _ _ _ _ _ _ (ints (sn ++ [nextV a b sr])); rw [HV.out]; simpa [ints] using HN3.out), HL3, hw3, hb3⟩
                case measure => simp [intOf]; omega
            · have ha : 0 ≤ a := by omega
              have hb' : 0 ≤ b := by omega
              cases sr with
              | nil =>
                have HV : Hid (nextV a b [] = -2) := Lib.hid (by unfold nextV; rw [if_neg hneg])
                have HV2 : Hid (nextR a b [] = []) := Lib.hid (by unfold nextR; rw [if_neg hneg]; rfl)
                have HNa := Lib.hid (HN2.out.alloc (.cells #[.int .i64 (-2)] 3))
                clear hneg
                go_wp2_with (at_builtin; refine wpList_append_lies _ rfl _ _ 22 rfl wo.heap.size 3 i0 (.int .i64 0) 1 8 Try.underlying22 hi hz0 hz1 hz2 rfl (by decide) _ m (ints sn) rfl HNa.out ⟨w2.heap.size, 0, none⟩ 1 1 [.int .i64 (-2)] rfl rfl (cell_one_new _ _ _) ?c2 ?c2b ?c3 ?c4 ?c5 (w2.heap.size + 1) (by simp) ?_)
                case c2 => intro u hu; simp at hu; rw [hu]; rfl
                case c2b => omega
                case c3 => unfold maxLen; omega
                case c4 => omega
                case c5 => simp; omega
                intro g3 cap3 w3 hown3 hgrow3 hat3 hlt3
                have HO3 := Lib.hid ((HO2.out.alloc (.cells #[.int .i64 (-2)] 3)).kept hgrow3 (own_ne (HO2.out.alloc (.cells #[.int .i64 (-2)] 3)) HNa.out (by decide)))
                have HL3 := Lib.hid ((HL2.out.alloc (.cells #[.int .i64 (-2)] 3)).kept hgrow3 (own_apart (HL2.out.alloc (.cells #[.int .i64 (-2)] 3)) (fun q hq => by simp [Value.ownBlock] at hq; omega) HNa.out (Nat.le_refl wo.heap.size)))
                have hb3 : Below w.heap.size w w3 := Below.grown (hb2.alloc hsz2 _) hgrow3 (by simp; omega) (fun q hq => by have := (HNa.out.lt q hq).1; omega)
                have hw3 : wo.heap.size ≤ w3.heap.size := by have := hgrow3.size; simp at this; omega
                have HN3 := Lib.hid hown3
                clear hown3 hgrow3 hat3 hlt3 HNa HO2 HL2 HN2 hb2 hw2 hsz2
                go_wp2_with fail
                go_roundw
                case rel => exact ⟨m + 1, by omega, by go_num, Lib.hid (by rw [HST.out]; show RdI w _ (nextR a b []); rw [HV2.out]; exact HRq.out), Lib.hid (by rw [HST.out]; show World.ownsRow _ _ _ _ _ _ (flatK (so ++ [((round : Int), a, b)])); rw [flatK_snoc]; exact HO3.out), Lib.hid (by rw [HST.out]; show World.ownsRow _ _ _ _ _ _ (ints (sn ++ [nextV a b []])); rw [HV.out]; simpa [ints] using HN3.out), HL3, hw3, hb3⟩
                case measure => simp [intOf]; omega
              | cons r0 t =>
                have HV2 : Hid (nextR a b (r0 :: t) = t) := Lib.hid (by unfold nextR; rw [if_neg hneg]; rfl)
                have HV : Hid (nextV a b (r0 :: t) = if r0 = 0 then b else a) := Lib.hid (by unfold nextV; rw [if_neg hneg])
                simp only [List.length_cons] at hqc1 HRq HRm
                clear HRm
                have HTl := Lib.hid (RdI.tail HRq.out)
                obtain ⟨rg, ro, rc', hrv, _, _, hrg, hrcell⟩ := HRq.out.some (by simp)
                simp only [Value.slice.injEq, List.length_cons] at hrv
                obtain ⟨rfl, _, rfl⟩ := hrv
                have cr0 := hrcell 0 (by simp)
                have cr : w2.cell? ⟨rg, ro, none⟩ = some (.int .i64 r0) := (hb2.cell (p := ⟨rg, ro, none⟩) hrg).trans cr0
                have hds : ∀ w : World, (Instr.sliceAt 22 (.slice (some ⟨rg, ro, none⟩) (t.length + 1) qc) (some (.int .i64 1)) none none).run Try.prog w = .ok (.slice (subAddr (some ⟨rg, ro, none⟩) qc 1 1) t.length (qc - 1)) w := fun w => run_dropAt elemI sizeI (some ⟨rg, ro, none⟩) (t.length + 1) qc 1 (by omega) w
                clear hrcell cr0 hneg
                have hq0 : (((t.length + 1 : Nat) : Int) == 0) = false := by simp; omega
                cases hr0 : (r0 == 0)
                · have HNa : Hid ((w2.alloc (.cells #[.int .i64 a] 3)).drew.ownsRow wo.heap.size 3 1 u11 m (ints sn)) := Lib.hid (HN2.out.alloc (.cells #[.int .i64 a] 3))
                  have HVx : Hid (nextV a b (r0 :: t) = a) := Lib.hid (by rw [HV.out]; simp at hr0; simp [hr0])
                  have s1 : ∀ u ∈ [Value.int .i64 a], u.oneCell' = true := fun u hu => by simp at hu; rw [hu]; rfl
                  have s2 : m + 1 ≤ maxLen := by unfold maxLen; omega
                  have s3 : (m + 1) * 8 ≤ 140737488355328 := by omega
                  have s4 : wo.heap.size ≤ (w2.alloc (.cells #[.int .i64 a] 3)).drew.heap.size := by simp; omega
                  have s5 : (w2.alloc (.cells #[.int .i64 a] 3)).drew.heap.size = w2.heap.size + 1 := by simp
                  have S5 := Lib.hid s5
                  have S1 := Lib.hid s1
                  have S2 := Lib.hid s2
                  have S4 := Lib.hid s4
                  clear s5 s1 s2 s4 HV
                  go_wp2_with fail
                  go_region_law ((refine step_append_lies _ (by rfl) _ _ 22 (by rfl) wo.heap.size 3 i0 (.int .i64 0) 1 8 Try.underlying22 hi hz0 hz1 hz2 rfl (by decide) u11 m (ints sn) (by rfl) HNa.out ⟨w2.heap.size, 0, none⟩ 1 1 [.int .i64 a] (by rfl) rfl (cell_one_new _ _ _) S1.out (by omega) S2.out s3 S4.out (w2.heap.size + 1) S5.out ?_; intro g3 cap3 w3 hown3 hgrow3 hat3 hlt3))
                  have HOd : (w2.alloc (.cells #[.int .i64 a] 3)).drew.ownsRow w.heap.size 29 3 (.slice (some ⟨g1, 0, none⟩) (out.length + m + 1) cap1) (out.length + m + 1) (flatK so ++ [.int .i64 (round : Int), .int .i64 a, .int .i64 b]) := HO2.out.alloc (.cells #[.int .i64 a] 3)
                  have HLd : (w2.alloc (.cells #[.int .i64 a] 3)).drew.ownsRow w.heap.size 3 1 (.slice (some ⟨g, 0, none⟩) l.length lc) l.length (ints l) := HL2.out.alloc (.cells #[.int .i64 a] 3)
                  have HO3 := Lib.hid (HOd.kept hgrow3 (own_ne HOd HNa.out (by decide)))
                  have HL3 := Lib.hid (HLd.kept hgrow3 (own_apart HLd (fun q hq => by simp [Value.ownBlock] at hq; omega) HNa.out (Nat.le_refl wo.heap.size)))
                  have hb3 : Below w.heap.size w w3 := Below.grown (hb2.alloc hsz2 _).drew hgrow3 (by simp; omega) (fun q hq => by have := (HNa.out.lt q hq).1; omega)
                  have hw3 : wo.heap.size ≤ w3.heap.size := by have := hgrow3.size; simp at this; omega
                  have HN3 := Lib.hid hown3
                  clear hown3 hgrow3 hat3 hlt3 HNa HO2 HL2 HN2 hb2 hw2 hsz2 hds HOd HLd
                  go_wp2_with fail
                  go_roundw
                  case rel => exact ⟨m + 1, by omega, by go_num, Lib.hid (by rw [HST.out]; show RdI w _ (nextR a b (r0 :: t)); rw [HV2.out]; exact HTl.out), Lib.hid (by rw [HST.out]; show World.ownsRow _ _ _ _ _ _ (flatK (so ++ [((round : Int), a, b)])); rw [flatK_snoc]; exact HO3.out), Lib.hid (by rw [HST.out]; show World.ownsRow _ _ _ _ _ _ (ints (sn ++ [nextV a b (r0 :: t)])); rw [HVx.out]; simpa [ints] using HN3.out), HL3, hw3, hb3⟩
                  case measure => simp [intOf]; omega
                · have HNa : Hid ((w2.alloc (.cells #[.int .i64 b] 3)).drew.ownsRow wo.heap.size 3 1 u11 m (ints sn)) := Lib.hid (HN2.out.alloc (.cells #[.int .i64 b] 3))
                  have HVx : Hid (nextV a b (r0 :: t) = b) := Lib.hid (by rw [HV.out]; simp at hr0; simp [hr0])
                  have s1 : ∀ u ∈ [Value.int .i64 b], u.oneCell' = true := fun u hu => by simp at hu; rw [hu]; rfl
                  have s2 : m + 1 ≤ maxLen := by unfold maxLen; omega
                  have s3 : (m + 1) * 8 ≤ 140737488355328 := by omega
                  have s4 : wo.heap.size ≤ (w2.alloc (.cells #[.int .i64 b] 3)).drew.heap.size := by simp; omega
                  have s5 : (w2.alloc (.cells #[.int .i64 b] 3)).drew.heap.size = w2.heap.size + 1 := by simp
                  have S5 := Lib.hid s5
                  have S1 := Lib.hid s1
                  have S2 := Lib.hid s2
                  have S4 := Lib.hid s4
                  clear s5 s1 s2 s4 HV
                  go_wp2_with fail
                  go_region_law ((refine step_append_lies _ (by rfl) _ _ 22 (by rfl) wo.heap.size 3 i0 (.int .i64 0) 1 8 Try.underlying22 hi hz0 hz1 hz2 rfl (by decide) u11 m (ints sn) (by rfl) HNa.out ⟨w2.heap.size, 0, none⟩ 1 1 [.int .i64 b] (by rfl) rfl (cell_one_new _ _ _) S1.out (by omega) S2.out s3 S4.out (w2.heap.size + 1) S5.out ?_; intro g3 cap3 w3 hown3 hgrow3 hat3 hlt3))
                  have HOd : (w2.alloc (.cells #[.int .i64 b] 3)).drew.ownsRow w.heap.size 29 3 (.slice (some ⟨g1, 0, none⟩) (out.length + m + 1) cap1) (out.length + m + 1) (flatK so ++ [.int .i64 (round : Int), .int .i64 a, .int .i64 b]) := HO2.out.alloc (.cells #[.int .i64 b] 3)
                  have HLd : (w2.alloc (.cells #[.int .i64 b] 3)).drew.ownsRow w.heap.size 3 1 (.slice (some ⟨g, 0, none⟩) l.length lc) l.length (ints l) := HL2.out.alloc (.cells #[.int .i64 b] 3)
                  have HO3 := Lib.hid (HOd.kept hgrow3 (own_ne HOd HNa.out (by decide)))
                  have HL3 := Lib.hid (HLd.kept hgrow3 (own_apart HLd (fun q hq => by simp [Value.ownBlock] at hq; omega) HNa.out (Nat.le_refl wo.heap.size)))
                  have hb3 : Below w.heap.size w w3 := Below.grown (hb2.alloc hsz2 _).drew hgrow3 (by simp; omega) (fun q hq => by have := (HNa.out.lt q hq).1; omega)
                  have hw3 : wo.heap.size ≤ w3.heap.size := by have := hgrow3.size; simp at this; omega
                  have HN3 := Lib.hid hown3
                  clear hown3 hgrow3 hat3 hlt3 HNa HO2 HL2 HN2 hb2 hw2 hsz2 hds HOd HLd
                  go_wp2_with fail
                  go_roundw
                  case rel => exact ⟨m + 1, by omega, by go_num, Lib.hid (by rw [HST.out]; show RdI w _ (nextR a b (r0 :: t)); rw [HV2.out]; exact HTl.out), Lib.hid (by rw [HST.out]; show World.ownsRow _ _ _ _ _ _ (flatK (so ++ [((round : Int), a, b)])); rw [flatK_snoc]; exact HO3.out), Lib.hid (by rw [HST.out]; show World.ownsRow _ _ _ _ _ _ (ints (sn ++ [nextV a b (r0 :: t)])); rw [HVx.out]; simpa [ints] using HN3.out), HL3, hw3, hb3⟩
                  case measure => simp [intOf]; omega
          · obtain rfl : m = 2 ^ j := by omega
            have hml : l.length = 2 * 2 ^ j := by rw [HLL.out, Nat.pow_succ]; omega
            have HLQ : Hid ((roundTo round l ⟨out, [], rs⟩ (2 ^ j)).next.length = 2 ^ j ∧ (roundTo round l ⟨out, [], rs⟩ (2 ^ j)).out.length = out.length + 2 ^ j) := Lib.hid (by have := roundTo_lens round l ⟨out, [], rs⟩ (2 ^ j); simp at this; omega)
            generalize roundTo round l ⟨out, [], rs⟩ (2 ^ j) = st at *
            obtain ⟨so, sn, sr⟩ := st
            simp only at *
            obtain ⟨na, nc, hvn⟩ := own_form2 HNm.out
            subst hvn
            have HOL2 := HOL.out
            have hlo : l.length ≤ 2 * 2 ^ j := by omega
            have hlo2 : 2 * 2 ^ j ≤ l.length := by omega
            have HQ1 : Hid (sn.length = 2 ^ j) := Lib.hid HLQ.out.1
            have HQ2 : Hid (so.length = out.length + 2 ^ j) := Lib.hid HLQ.out.2
            have hpj : 0 < 2 ^ j := Nat.pow_pos (by omega)
            clear hml HLL HLQ
            generalize hq : 2 ^ j = q at *
            have HQ := Lib.hid hq
            clear hq
            go_wp2_with fail
            go_roundw
            case rel => exact ⟨j, round + 1, sn, so, sr, by go_num, by omega, by omega, by rw [HQ.out]; rfl, Lib.hid (by rw [HQ.out]; exact HQ1.out), Lib.hid (by rw [HQ1.out, HQ2.out]; omega), HRm, Lib.hid (by rw [HQ2.out]; exact HOm.out), Lib.hid (by rw [HQ1.out]; exact own_base HNm.out (by omega)), HP2, hbm⟩
            case measure => simp [lenV]; omega
      · have hop' : (l.any fun z => (-2 : Int) == z) = true := hop
        have hl1 : ¬ l.length = 1 := by omega
        have HE : Hid (playR n rs0 = if rs ≠ [] then ([], 0, 2) else (out, -1, 0)) := Lib.hid (by rw [HR.out, HP.out, playL, if_pos hop, endPlay]; simp only; rw [if_neg hl1])
        rw [hop'] at HCt
        have hl1b : ((l.length : Int) == 1) = false := by simp; omega
        clear hop hop' HP hl1
        cases rs with
        | nil =>
          go_wp2_with fail
          refine HCt.out.mono ?_
          rintro e w' ⟨rfl, rfl⟩
          go_wp2_with fail
          go_ret3
          exact ⟨_, by rw [HE.out, if_neg (by simp)]; rfl, by rw [HE.out, if_neg (by simp)]; exact HOo.out, hbl⟩
        | cons r0 t =>
          have hlen : 0 < (r0 :: t).length := by simp
          generalize (r0 :: t).length = q at *
          go_wp2_with fail
          refine HCt.out.mono ?_
          rintro e w' ⟨rfl, rfl⟩
          go_wp2_with fail
          go_ret3
          exact ⟨_, by rw [HE.out]; rfl, by rw [HE.out]; exact World.ownsRow_nil _ _ _ _, hbl⟩
end Go.Proofs.Ytaagijoeccbmeaa

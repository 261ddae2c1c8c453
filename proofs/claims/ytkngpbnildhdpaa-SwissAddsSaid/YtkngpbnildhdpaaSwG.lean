/- swiss.checkGames of a whole pairing. -/
import Derived.Test.YtkngpbnildhdpaaSwD
import Derived.Test.YtkngpbnildhdpaaMaps
import Derived.Maps.RangeWalk
import Derived.WalkLawsBesides
import Derived.BigQuiet
import Derived.Deep.Cut
import Derived.Deep.QuietTactic
namespace Go.Proofs.Ytkngpbnildhdpaa
open Go.ChangeShapes Go.WideShapes Go.ChangeAt Go.RowKit Go.Maps
set_option linter.unusedVariables false

theorem keyI : Keyed Try.prog 3 := int_keyed Try.underlying3
theorem zeroI (w : World) : (zeroValue 3).run Try.prog w = .ok (.int .i64 0) w := by kernel_rfl
theorem keyI_of {a : Int} (h0 : 0 ≤ a) (h1 : a ≤ 1000) : ∃ kl, keyOf Try.prog 3 (.int .i64 a) = some kl := ⟨_, keyOf_int_mk Try.underlying3 (WalkArith.wf_i64 (by omega))⟩

/-- the counts of players, as the map has them. -/
def Busy (f : Value → Int) (l : List (Int × Int)) (off : Int) : Prop := ∀ z : Int, f (.int .i64 z) = (occ l z : Nat) + (if 0 ≤ off ∧ z = off then 1 else 0)
theorem busy_two {f : Value → Int} {l : List (Int × Int)} (h : Busy f l (-1)) (i j : Nat) (hij : i ≠ j) (x y : Int) (hx : x = (occ l (i : Int) : Nat)) (hy : y = (occ l (j : Int) : Nat)) :
    Busy (upd (upd f (.int .i64 (i : Int)) (x + 1)) (.int .i64 (j : Int)) (y + 1)) (l ++ [((i : Int), (j : Int))]) (-1) := by
  intro z
  have hz := h z
  have e : occ [((i : Int), (j : Int))] z = (if (i : Int) = z then 1 else 0) + (if (j : Int) = z then 1 else 0) := by rw [occ, occ, Nat.add_zero]
  rw [occ_append, e]
  by_cases e1 : (j : Int) = z
  · subst e1
    rw [upd_same, if_neg (by omega), if_pos rfl, if_neg (by omega)]
    omega
  · rw [upd_other _ _ (by simp; omega), if_neg e1]
    by_cases e2 : (i : Int) = z
    · subst e2
      rw [upd_same, if_pos rfl, if_neg (by omega)]
      omega
    · rw [upd_other _ _ (by simp; omega), if_neg e2, hz, if_neg (by omega)]
      omega
theorem busy_off {f : Value → Int} {l : List (Int × Int)} (h : Busy f l (-1)) (i : Nat) (x : Int) (hx : x = (occ l (i : Int) : Nat)) : Busy (upd f (.int .i64 (i : Int)) (x + 1)) l i := by
  intro z
  by_cases e2 : z = (i : Int)
  · subst e2
    rw [upd_same, if_pos ⟨by omega, rfl⟩]
    omega
  · rw [upd_other _ _ (by simp; omega), if_neg (fun h => e2 h.2), h z, if_neg (by omega)]
theorem occ_out_of {ps : List SwP} {W : List Int} (z : Int) (hz : z < 0 ∨ (ps.length : Int) ≤ z) : ∀ l : List (Int × Int), (∀ p ∈ l, GameOK ps W p) → occ l z = 0
  | [], _ => rfl
  | p :: t, h => by
    obtain ⟨i, j, rfl, hi, hj, -⟩ := h p (List.mem_cons_self ..)
    rw [occ, occ_out_of z hz t (fun q hq => h q (List.mem_cons_of_mem _ hq)), if_neg (by show ¬ (i : Int) = z; omega), if_neg (by show ¬ (j : Int) = z; omega)]
/-- nobody is counted twice. -/
theorem busy_le {ps : List SwP} {W : List Int} (h : Whole ps W) {f : Value → Int} (hf : Busy f (outZ ps W ps.length) (offZ ps.length W ps.length)) (z : Int) : f (.int .i64 z) ≤ 1 := by
  rw [hf z]
  rcases (by omega : (z < 0 ∨ (ps.length : Int) ≤ z) ∨ (0 ≤ z ∧ z < ps.length)) with hz | hz
  · rw [occ_out_of z hz _ (games_ok h _ (Nat.le_refl _))]
    split <;> omega
  · obtain ⟨k, rfl⟩ : ∃ k : Nat, z = (k : Int) := ⟨z.toNat, by omega⟩
    rw [occ_all h k (by omega)]
    rcases off_ok h with ⟨e, -, -⟩ | ⟨i, hi, e, -, -, hw, hu⟩
    · rw [e, if_neg (show ¬ (0 ≤ (-1 : Int) ∧ (k : Int) = -1) by omega)]
      by_cases hq : W.getD k 0 = ps.length
      · rw [if_pos hq]; omega
      · rw [if_neg hq]; omega
    · rw [e]
      by_cases ek : k = i
      · subst ek; rw [if_pos hw, if_pos ⟨by omega, rfl⟩]; omega
      · rw [if_neg (show ¬ (0 ≤ (i : Int) ∧ (k : Int) = i) by omega)]
        by_cases hq : W.getD k 0 = ps.length
        · rw [if_pos hq]; omega
        · rw [if_neg hq]; omega

set_option maxRecDepth 100000 in
set_option maxHeartbeats 8000000 in
theorem checkGames_ok (s vg vr : Value) (ps : List SwP) (W rs : List Int) (w : World) (hs : RdS w s ps) (hok : ChkOk ps) (hw : Whole ps W) (hg : RdL prEl w vg (outZ ps W ps.length)) (hr : RdI w vr rs)
    (hl : rs.length = (outZ ps W ps.length).length) (h2 : ∀ k, k < rs.length → 0 ≤ rs.getD k 0 ∧ rs.getD k 0 ≤ 2) :
    Calls Try.prog 15 #[s, vg, vr, .int .i64 (offZ ps.length W ps.length)] w fun e w' => e = .returned (.int .i64 0) ∧ Below w.heap.size w w' := by
  obtain ⟨sa, sc, rfl, hs1, hs2⟩ := hs.form
  obtain ⟨ga, gc, rfl, hg1, hg2⟩ := hg.form
  obtain ⟨ra, rc, rfl, hr1, hr2⟩ := hr.form
  unfold maxLen at hs2 hg2 hr2
  obtain ⟨hn2, hn8⟩ := hok.1
  have HBL : Hid (∀ f, Busy f (outZ ps W ps.length) (offZ ps.length W ps.length) → ∀ z, f (.int .i64 z) ≤ 1) := Lib.hid (fun f hf z => busy_le hw hf z)
  have HGs := Lib.hid (games_ok hw ps.length (Nat.le_refl _))
  have HOff := Lib.hid (off_ok hw)
  have HGL := Lib.hid (outZ_len ps W ps.length)
  have HS := Lib.hid hs
  have HG := Lib.hid hg
  have HR := Lib.hid hr
  have H2 := Lib.hid h2
  clear hs hg hr h2 hok
  generalize outZ ps W ps.length = G at *
  generalize offZ ps.length W ps.length = off at *
  rw [hl] at hr1 HR H2 ⊢
  have hle : G.length ≤ ps.length := HGL.out
  have hmm := @run_makeMap Try.prog
  go_enter Try.func15, Try.ntmps15
  go_upto_region 4 with (fail)
  obtain ⟨bm, hbm⟩ : ∃ bm, bm = w.heap.size := ⟨_, rfl⟩
  have HM0 : Hid (mapInts (w.alloc (.map #[] 0)) Try.prog 3 3 bm 0 (fun _ => 0)) := Lib.hid (by rw [hbm]; exact mapInts_made w Try.prog 3 3)
  have HB0 : Hid (Below bm w (w.alloc (.map #[] 0))) := Lib.hid (by rw [hbm]; exact (Below.refl _ w).alloc (Nat.le_refl _) _)
  have hb1 : bm ≤ w.heap.size := by omega
  have hb2 : w.heap.size ≤ bm := by omega
  rw [← hbm]
  clear hbm hmm
  generalize w.alloc (.map #[] 0) = wm at *
  go_wp2_with fail
  go_loopw [23, 10, 11] (fun v23 v10 v11 wr => ∃ (k : Nat) (o1 o2 : Value) (f : Value → Int), o1 = v10 ∧ o2 = v11 ∧ k ≤ G.length ∧ v23 = .int .i64 k ∧ Hid (mapInts wr Try.prog 3 3 bm (2 * k) f) ∧ Hid (Busy f (G.take k) (-1)) ∧ Hid (Below bm w wr)) (fun v _ _ _ => G.length - (intOf v).toNat)
  case atStart => exact ⟨0, _, _, fun _ => 0, rfl, rfl, Nat.zero_le _, rfl, HM0, Lib.hid (fun z => by rw [if_neg (by omega)]; rfl), HB0⟩
  case round =>
    obtain ⟨k, o1, o2, f, rfl, rfl, hk, rfl, HM, HF, HB⟩ := hrel
    have hsr := HB.out.size
    have hbr : bm < wr.heap.size := HM.out.lt
    by_cases hlt : k < G.length
    · obtain ⟨gg, og, rfl, hgg, hcl⟩ := RdL.some (RdL.below HG.out HB.out (by omega)) (by omega)
      obtain ⟨cs, hcs, hj⟩ := hcl k hlt
      obtain ⟨i, j, hij, hin, hjn, hne, -⟩ := HGs.out _ (List.getElem_mem hlt)
      have HT : Hid (G.take (k + 1) = G.take k ++ [((i : Int), (j : Int))]) := Lib.hid (by rw [List.take_add_one, List.getElem?_eq_getElem hlt, hij]; rfl)
      rw [hij] at hcs
      obtain rfl : cs = [.int .i64 (i : Int), .int .i64 (j : Int)] := hcs
      have c1 : wr.cell? ⟨gg, og + k * 2, none⟩ = some (.int .i64 (i : Int)) := hj 0 (by decide)
      have c2 : wr.cell? ⟨gg, og + k * 2 + 1, none⟩ = some (.int .i64 (j : Int)) := hj 1 (by decide)
      clear hcl hij hj
      obtain ⟨rg, ro, rc2, har, -, -, hrg, hrc⟩ := RdI.some (RdI.below HR.out HB.out (by omega)) (by omega)
      simp only [Value.slice.injEq] at har
      obtain ⟨rfl, -, rfl⟩ := har
      have cr := hrc k (by omega)
      obtain ⟨hr0, hr3⟩ := H2.out k hlt
      clear hrc
      generalize rs.getD k 0 = rk at *
      go_upto_region 7 with (fail)
      obtain ⟨pb, hpb⟩ : ∃ pb, pb = wr.heap.size := ⟨_, rfl⟩
      rw [← hpb]
      have hplt : pb < (wr.alloc (.cells #[.int .i64 (i : Int), .int .i64 (j : Int)] 30)).heap.size := by rw [World.size_alloc]; omega
      have HP := Lib.hid (Box.new' wr pb [.int .i64 (i : Int), .int .i64 (j : Int)] 30 hpb.symm)
      have HBp := Lib.hid (HB.out.alloc (by omega) (.cells #[.int .i64 (i : Int), .int .i64 (j : Int)] 30))
      have HMp := Lib.hid (HM.out.alloc (.cells #[.int .i64 (i : Int), .int .i64 (j : Int)] 30))
      have crp := cell_alloc cr (.cells #[.int .i64 (i : Int), .int .i64 (j : Int)] 30)
      have hbp : bm ≠ pb := by omega
      have hrgp : rg < (wr.alloc (.cells #[.int .i64 (i : Int), .int .i64 (j : Int)] 30)).heap.size := by rw [World.size_alloc]; omega
      clear HM HB cr c1 c2 hpb
      generalize wr.alloc (.cells #[.int .i64 (i : Int), .int .i64 (j : Int)] 30) = wp at *
      have q0 := HP.out.cell 0 rfl
      have q1 := HP.out.cell 1 rfl
      have hbw : bm < wp.heap.size := HMp.out.lt
      go_upto_region 9 with (go_at_call 13; refine (two_any _ ps.length _ (i : Int) (j : Int) _ (by omega)).mono ?_; rintro e w2 ⟨rfl, rfl⟩; rw [twoB_ok hin hjn hne])
      have kI := keyI_of (a := (i : Int)) (by omega) (by omega)
      have kJ := keyI_of (a := (j : Int)) (by omega) (by omega)
      have l1 := (HMp.out.look keyI Try.underlying57 Try.underlying3 (zeroI _) kI).1
      have hx0 := HF.out (i : Int)
      have hy0 := HF.out (j : Int)
      rw [if_neg (by omega), Int.add_zero] at hx0 hy0
      rw [hx0] at l1
      have hlx := occ_le (i : Int) (G.take k)
      have hly := occ_le (j : Int) (G.take k)
      rw [List.length_take] at hlx hly
      obtain ⟨wA, rA, mA, gA⟩ := HMp.out.store keyI Try.underlying57 Try.underlying3 (by unfold maxLen; omega) kI (v := (occ (G.take k) (i : Int) : Nat) + 1) (WalkArith.wf_i64 (by omega))
      have l2 := (mA.look keyI Try.underlying57 Try.underlying3 (zeroI _) kJ).1
      rw [upd_other _ _ (by simp; omega), hy0] at l2
      obtain ⟨wC, rC, mC, gC⟩ := mA.store keyI Try.underlying57 Try.underlying3 (by unfold maxLen; omega) kJ (v := (occ (G.take k) (j : Int) : Nat) + 1) (WalkArith.wf_i64 (by omega))
      have HMC := Lib.hid (mC.mono (show 2 * k + 1 + 1 ≤ 2 * (k + 1) by omega))
      have HFC := Lib.hid (busy_two HF.out i j hne _ _ rfl rfl)
      rw [← HT.out] at HFC
      have q1A := (HP.out.grown gA (by simp; omega)).cell 1 rfl
      have HBC : Hid (Below bm w wC) := Lib.hid ((HBp.out.grown gA (by omega) (fun j hj => by cases hj; omega)).grown gC (by have := gA.size; omega) (fun j hj => by cases hj; omega))
      have hsA : pb < wA.heap.size := by have := gA.size; omega
      clear mA mC gA gC HMp HBp HF hx0 hy0
      generalize occ (G.take k) (i : Int) = x at *
      generalize occ (G.take k) (j : Int) = y at *
      have W1 : IntKind.i64.wrap ((x : Int) + 1) = (x : Int) + 1 := IntWalk.i64_in _ (by omega)
      have W2 : IntKind.i64.wrap ((y : Int) + 1) = (y : Int) + 1 := IntWalk.i64_in _ (by omega)
      clear hlx hly
      go_wp2_with fail
      go_roundw
      case rel => exact ⟨k + 1, _, _, _, rfl, rfl, by omega, by go_num, HMC, HFC, HBC⟩
      case measure => simp [intOf]; omega
    · obtain rfl : k = G.length := by omega
      rw [List.take_length] at HF
      rcases HOff.out with ⟨rfl, -, -⟩ | ⟨i, hin, rfl, -, hbye, -, -⟩
      · have HBE := HB
        have HFE := HF
        obtain ⟨D, hown, ha⟩ := HM.out
        go_wp2_with (at_range; refine wpList_range_own _ rfl _ 57 rfl 3 3 keyI Try.underlying57 _ bm (2 * G.length) D rfl hown ?_; intro w0 hrg0 hg0 hs0)
        try go_frame
        have HRg := Lib.hid hrg0
        have HB3 := Lib.hid (Below.grown HBE.out hg0 (by have := HBE.out.size; omega) (fun q hq => by cases hq))
        have HLe := Lib.hid (HBL.out _ HFE.out)
        have HA := Lib.hid ha
        obtain ⟨r, hr⟩ : ∃ r, r = wr.heap.size := ⟨_, rfl⟩
        have hrb1 : bm < r := by rw [hr]; exact hown.lt
        rw [← hr] at HRg ⊢
        clear hrg0 hg0 hs0 hown ha hr
        go_loopw [12, 14] (fun v12 v14 wr => ∃ (left : Lit → Bool) (cnt : Nat) (o14 : Value), o14 = v14 ∧ v12 = .bool false ∧ Hid (wr.ranges Try.prog 3 (plainElem Try.prog 3) bm r (2 * G.length) D left cnt) ∧ Hid (Below bm w wr)) (fun _ _ wr => wr.rangeLeft bm r)
        case atStart => exact ⟨_, _, _, rfl, rfl, HRg, HB3⟩
        case round =>
          obtain ⟨left, cnt, o14, rfl, rfl, HRr, HBr⟩ := hrel
          have hrg := HRr.out
          go_wp2_with (at_next; refine wpList_next_ranges_ii _ rfl _ rfl 3 3 .i64 .i64 keyI Try.underlying3 Try.underlying3 bm r (2 * G.length) _ _ _ rfl hrg ?_ ?_)
          · intro _ _
            clear hrg
            go_wp2_with fail
            go_ret
            exact ⟨rfl, HBr.out.mono (by omega)⟩
          · intro x c w1 cnt1 hwx hwc hlx hat hrg1 hlt hg1 hs1 hen
            have hc1 : c ≤ 1 := by
              have h1 := hat (.lit (.int .i64 0))
              rw [HA.out (.int .i64 x) _ (keyOf_int_mk Try.underlying3 hwx)] at h1
              simp only [DataW.lit.injEq, Lit.int.injEq, true_and] at h1
              rw [← h1]
              exact HLe.out x
            have hRn := Lib.hid hrg1
            have HBn := Lib.hid (HBr.out.grown hg1 (by have := HBr.out.size; omega) (fun q hq => by cases hq; omega))
            have HLt := Lib.hid (show w1.rangeLeft bm r < wr.rangeLeft bm r by rw [hrg1.left_eq, hrg.left_eq]; exact hlt)
            clear hrg hrg1 hg1 hs1 hat hlt hlx hwx hwc
            go_wp2_with fail
            go_roundw
            case rel => exact ⟨_, _, _, rfl, by simp <;> omega, hRn, HBn⟩
            case measure => exact HLt.out
      · have kI := keyI_of (a := (i : Int)) (by omega) (by omega)
        have l1 := (HM.out.look keyI Try.underlying57 Try.underlying3 (zeroI _) kI).1
        have hx0 := HF.out (i : Int)
        rw [if_neg (by omega), Int.add_zero] at hx0
        rw [hx0] at l1
        have hlx := occ_le (i : Int) G
        obtain ⟨wA, rA, mA, gA⟩ := HM.out.store keyI Try.underlying57 Try.underlying3 (by unfold maxLen; omega) kI (v := (occ G (i : Int) : Nat) + 1) (WalkArith.wf_i64 (by omega))
        have HFE := Lib.hid (busy_off HF.out i _ rfl)
        have HBE := Lib.hid (HB.out.grown gA (by omega) (fun j hj => by cases hj; omega))
        obtain ⟨g2, o2, ha2, -, hpc⟩ := RdS.some (RdL.below HS.out HB.out (by omega)) (by omega)
        cases ha2
        obtain ⟨vo, -, -, -, cb, -⟩ := hpc i hin
        rw [hbye] at cb
        obtain ⟨D, hown, ha⟩ := mA
        clear hpc gA HM HF HB
        generalize hxx : occ G (i : Int) = x at *
        have W1 : IntKind.i64.wrap ((x : Int) + 1) = (x : Int) + 1 := IntWalk.i64_in _ (by omega)
        clear hxx
        have t1 : (i : Int) < (ps.length : Int) := by omega
        have t2 : ¬ ((i : Int) < -1) := by omega
        have t3 : 0 ≤ (i : Int) := by omega
        have t4 : ¬ ps.length ≤ i := by omega
        go_wp2_with (at_range; refine wpList_range_own _ rfl _ 57 rfl 3 3 keyI Try.underlying57 _ bm (2 * G.length + 1) D rfl hown ?_; intro w0 hrg0 hg0 hs0)
        try go_frame
        have HRg := Lib.hid hrg0
        have HB3 := Lib.hid (Below.grown HBE.out hg0 (by have := HBE.out.size; omega) (fun q hq => by cases hq))
        have HLe := Lib.hid (HBL.out _ HFE.out)
        have HA := Lib.hid ha
        obtain ⟨r, hr⟩ : ∃ r, r = wA.heap.size := ⟨_, rfl⟩
        have hrb1 : bm < r := by rw [hr]; exact hown.lt
        rw [← hr] at HRg ⊢
        clear hrg0 hg0 hs0 hown ha hr
        go_loopw [12, 14] (fun v12 v14 wr => ∃ (left : Lit → Bool) (cnt : Nat) (o14 : Value), o14 = v14 ∧ v12 = .bool false ∧ Hid (wr.ranges Try.prog 3 (plainElem Try.prog 3) bm r (2 * G.length + 1) D left cnt) ∧ Hid (Below bm w wr)) (fun _ _ wr => wr.rangeLeft bm r)
        case atStart => exact ⟨_, _, _, rfl, rfl, HRg, HB3⟩
        case round =>
          obtain ⟨left, cnt, o14, rfl, rfl, HRr, HBr⟩ := hrel
          have hrg := HRr.out
          go_wp2_with (at_next; refine wpList_next_ranges_ii _ rfl _ rfl 3 3 .i64 .i64 keyI Try.underlying3 Try.underlying3 bm r (2 * G.length + 1) _ _ _ rfl hrg ?_ ?_)
          · intro _ _
            clear hrg
            go_wp2_with fail
            go_ret
            exact ⟨rfl, HBr.out.mono (by omega)⟩
          · intro x c w1 cnt1 hwx hwc hlx hat hrg1 hlt hg1 hs1 hen
            have hc1 : c ≤ 1 := by
              have h1 := hat (.lit (.int .i64 0))
              rw [HA.out (.int .i64 x) _ (keyOf_int_mk Try.underlying3 hwx)] at h1
              simp only [DataW.lit.injEq, Lit.int.injEq, true_and] at h1
              rw [← h1]
              exact HLe.out x
            have hRn := Lib.hid hrg1
            have HBn := Lib.hid (HBr.out.grown hg1 (by have := HBr.out.size; omega) (fun q hq => by cases hq; omega))
            have HLt := Lib.hid (show w1.rangeLeft bm r < wr.rangeLeft bm r by rw [hrg1.left_eq, hrg.left_eq]; exact hlt)
            clear hrg hrg1 hg1 hs1 hat hlt hlx hwx hwc
            go_wp2_with fail
            go_roundw
            case rel => exact ⟨_, _, _, rfl, by simp <;> omega, hRn, HBn⟩
            case measure => exact HLt.out
end Go.Proofs.Ytkngpbnildhdpaa

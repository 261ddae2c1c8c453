/- The contract of rating.Period. -/
import Derived.Test.YtgbedogdikflcaaRatAll
namespace Go.Proofs.Ytgbedogdikflcaa
open Go.ChangeShapes Go.WideShapes Go.ChangeAt Go.RowKit
set_option linter.unusedVariables false

def foldP (f : Int) (zs : List Int) : List Int → List GameZ → List Int × Int
  | x, [] => (x, 0)
  | x, g :: t => if (changeG zs g f).2 ≠ 0 then ([], (changeG zs g f).2) else foldP f zs (moveZ x g.fst.toNat g.snd.toNat (changeG zs g f).1) t
def endP (r : List Int × Int) : List Int × Int := if r.2 ≠ 0 then ([], r.2) else if checkR r.1 ≠ 0 then ([], checkR r.1) else r
def periodR (zs : List Int) (gs : List GameZ) (f : Int) : List Int × Int := if chkAllR zs gs.length ≠ 0 then ([], chkAllR zs gs.length) else endP (foldP f zs zs gs)
theorem foldP_step (f : Int) (zs x : List Int) (gs : List GameZ) (k : Nat) (h : k < gs.length) : foldP f zs x (gs.drop k) = if (changeG zs gs[k] f).2 ≠ 0 then ([], (changeG zs gs[k] f).2) else foldP f zs (moveZ x gs[k].fst.toNat gs[k].snd.toNat (changeG zs gs[k] f).1) (gs.drop (k + 1)) := by
  rw [List.drop_eq_getElem_cons h, foldP]
def Within (m : Int) (l : List Int) : Prop := ∀ i : Nat, -m ≤ l.getD i 0 ∧ l.getD i 0 ≤ m
theorem set_get (l : List Int) (i j : Nat) (x : Int) : (l.set i x).getD j 0 = if i = j ∧ i < l.length then x else l.getD j 0 := by
  rw [List.getD_eq_getElem?_getD, List.getElem?_set, List.getD_eq_getElem?_getD]
  by_cases h : i = j
  · subst h
    by_cases h2 : i < l.length <;> simp [h2]
  · simp [h]
theorem Within_move {m n : Int} {l : List Int} (h : Within m l) (i j : Nat) (hn : -6400 ≤ n ∧ n ≤ 6400) (hm : 0 ≤ m) : Within (m + 6400) (moveZ l i j n) := by
  intro k
  have hi := h i
  have hj := h j
  have hk := h k
  unfold moveZ
  rw [set_get, set_get]
  split
  · omega
  · split <;> omega
theorem checkR_within {zs : List Int} (h : checkR zs = 0) : Within 1000000 zs := by
  intro i
  unfold checkR at h
  split at h
  · cases h
  · split at h
    · cases h
    · rename_i hh
      simp only [Bool.not_eq_true] at hh
      by_cases hi : i < zs.length
      · rw [List.getD_eq_getElem?_getD, List.getElem?_eq_getElem hi]
        exact outB_false (List.any_eq_false.1 hh _ (List.getElem_mem hi) |> fun q => by simpa using q)
      · rw [List.getD_eq_getElem?_getD, List.getElem?_eq_none (by omega)]; simp

set_option maxHeartbeats 1000000 in
theorem Period_any (v vg : Value) (zs : List Int) (gs : List GameZ) (f : Int) (w : World) (h : RdI w v zs) (hg : RdG w vg gs) :
    Calls Try.prog 10 #[v, vg, .int .i64 f] w (RowPost (periodR zs gs f) w) := by
  have HCA := Lib.hid (checkAll_any v vg zs gs w h hg)
  obtain ⟨a, c, rfl, h1, h2, hcells⟩ := hg.form
  unfold maxLen at h2
  have HG := Lib.hid hcells
  have HI := Lib.hid h
  by_cases hc : chkAllR zs gs.length = 0
  · have hck : checkR zs = 0 ∧ gs.length ≤ 256 := by
      unfold chkAllR at hc
      split at hc
      · contradiction
      · rename_i hh
        split at hc
        · cases hc
        · exact ⟨by simpa using hh, by omega⟩
    have hlen : 1 ≤ zs.length ∧ zs.length ≤ 64 := by
      have := hck.1
      unfold checkR at this
      split at this
      · cases this
      · omega
    have hg256 := hck.2
    have HW := Lib.hid (checkR_within hck.1)
    have HR := Lib.hid (show periodR zs gs f = endP (foldP f zs zs gs) by unfold periodR; rw [if_neg (by simpa using hc)])
    rw [hc] at HCA
    clear hc h hg hcells hck
    go_enter Try.func10, Try.ntmps10
    go_wp2_with fail
    refine HCA.out.mono ?_
    rintro e w' ⟨rfl, rfl⟩
    go_wp2_with fail
    refine (Clone_any v zs w HI.out (by omega)).mono ?_
    rintro e w1 ⟨v1, rfl, hown1, hb1⟩
    obtain ⟨G, cap, rfl⟩ := own_some hown1 (by omega)
    have hGl := hown1.lt G rfl
    have HO := Lib.hid hown1
    clear hown1
    go_wp2_with fail
    go_loopw [25] (fun i wr => ∃ k : Nat, k ≤ gs.length ∧ i = .int .i64 k ∧ Hid (∃ x, wr.ownsRow w.heap.size 3 1 (.slice (some ⟨G, 0, none⟩) zs.length cap) zs.length (ints x) ∧ x.length = zs.length ∧ foldP f zs zs gs = foldP f zs x (gs.drop k) ∧ Within (1000000 + 6400 * k) x) ∧ Below w.heap.size w wr) (fun i _ => gs.length - (intOf i).toNat)
    case atStart => exact ⟨0, Nat.zero_le _, rfl, Lib.hid ⟨zs, HO.out, rfl, rfl, fun i => by have := HW.out i; omega⟩, hb1⟩
    case round =>
      obtain ⟨k, hk, rfl, HK, hbl⟩ := hrel
      by_cases hlt : k < gs.length
      · obtain ⟨gb, o, rfl, hgb, c0, c1, c2⟩ := HG.out k hlt
        have d0 := (hbl.cell (p := ⟨gb, o + k * 3, none⟩) hgb).trans c0
        have d1 := (hbl.cell (p := ⟨gb, o + k * 3 + 1, none⟩) hgb).trans c1
        have d2 := (hbl.cell (p := ⟨gb, o + k * 3 + 2, none⟩) hgb).trans c2
        clear c0 c1 c2
        obtain ⟨x, hown, hxl, hfold, hwi⟩ := HK.out
        rw [foldP_step f zs x gs k hlt] at hfold
        have HF := Lib.hid hfold
        have HWI := Lib.hid hwi
        have HXL := Lib.hid hxl
        have HO2 := Lib.hid hown
        clear hown hfold HK HO hwi hxl
        have hsz := hbl.size
        have hGr := HO2.out.lt G rfl
        generalize gs[k] = gk at *
        have hba : Below w.heap.size w (wr.alloc (.cells #[.int .i64 gk.fst, .int .i64 gk.snd, .int .i64 gk.pts] 39)) := by go_grown
        have HCh := Lib.hid (change_any v zs gk f _ (RdI.below HI.out hba (Nat.le_refl _)))
        cases hr : ((changeG zs gk f).2 != 0)
        · have hg0 : (changeG zs gk f).2 = 0 := by simpa using hr
          have hbad : badG zs.length gk = false := by
            cases hb : badG zs.length gk
            · rfl
            · unfold changeG at hg0; rw [if_pos hb] at hg0; cases hg0
          have hij : 0 ≤ gk.fst ∧ gk.fst < zs.length ∧ 0 ≤ gk.snd ∧ gk.snd < zs.length ∧ ¬ gk.fst = gk.snd := by
            simp [badG] at hbad; omega
          have hcr := (changeR_b (zs.getD gk.fst.toNat 0) (zs.getD gk.snd.toNat 0) gk.pts f (by unfold changeG at hg0; rw [if_neg (by simp [hbad])] at hg0; exact hg0)).2.2
          have hcg : changeG zs gk f = changeR (zs.getD gk.fst.toNat 0) (zs.getD gk.snd.toNat 0) gk.pts f := by unfold changeG; rw [if_neg (by simp [hbad])]
          rw [← hcg] at hcr
          clear hcg hbad hr
          obtain ⟨xx, y, p⟩ := gk
          unfold GameZ.val at HCh
          simp only at *
          obtain ⟨q1, q2, q3, q4, q5⟩ := hij
          obtain ⟨i, rfl⟩ : ∃ i : Nat, xx = (i : Int) := ⟨xx.toNat, by omega⟩
          obtain ⟨j, rfl⟩ : ∃ i : Nat, y = (i : Int) := ⟨y.toNat, by omega⟩
          simp only [Int.toNat_natCast] at *
          have q6 : i < zs.length := by omega
          have q7 : j < zs.length := by omega
          have n3 : ¬ i = j := by omega
          have n4 : ¬ j = i := by omega
          generalize changeG zs ⟨(i : Int), (j : Int), p⟩ f = r at *
          obtain ⟨rn, re⟩ := r
          simp only at hg0 hcr
          subst hg0
          go_wp2_with fail
          refine HCh.out.mono ?_
          rintro e w2 ⟨rfl, hb2⟩
          have hbw : Below w.heap.size w w2 := hba.trans (hb2.mono (by simp; omega))
          have HO3 := Lib.hid (own_stays (HO2.out.alloc _) hb2)
          have e0 : w2.cell? ⟨wr.heap.size, 0, none⟩ = some (.int .i64 (i : Int)) := (hb2.cell (p := ⟨wr.heap.size, 0, none⟩) (by simp)).trans (by go_simp)
          have e1 : w2.cell? ⟨wr.heap.size, 1, none⟩ = some (.int .i64 (j : Int)) := (hb2.cell (p := ⟨wr.heap.size, 1, none⟩) (by simp)).trans (by go_simp)
          have k2 : w2.cell? ⟨G, i, none⟩ = some (.int .i64 (x.getD i 0)) := (HO3.out.cellAt i (by omega)).trans (ints_get _ i (by rw [HXL.out]; omega))
          have k3 : w2.cell? ⟨G, j, none⟩ = some (.int .i64 (x.getD j 0)) := (HO3.out.cellAt j (by omega)).trans (ints_get _ j (by rw [HXL.out]; omega))
          have f2 : w2.frozen? ⟨G, i, none⟩ = false := HO3.out.frozenAt i
          have f3 : w2.frozen? ⟨G, j, none⟩ = false := HO3.out.frozenAt j
          have hs2 : wr.heap.size + 1 ≤ w2.heap.size := by have := hb2.size; simpa using this
          have n1 : ¬ G = wr.heap.size := by omega
          have n2 : ¬ wr.heap.size = G := by omega
          have b1 := HWI.out i
          have b2 := HWI.out j
          have HWM := Lib.hid (Within_move HWI.out i j hcr (by omega))
          have HFin : Hid (((w2.setCell ⟨G, i, none⟩ (.int .i64 (x.getD i 0 + rn))).setCell ⟨G, j, none⟩ (.int .i64 (x.getD j 0 - rn))).ownsRow w.heap.size 3 1 (.slice (some ⟨G, 0, none⟩) zs.length cap) zs.length (ints (moveZ x i j rn))) := Lib.hid (by
            have := HO3.out
            rw [← HXL.out] at this ⊢
            exact own_two this)
          have HFb : Hid (Below w.heap.size w ((w2.setCell ⟨G, i, none⟩ (.int .i64 (x.getD i 0 + rn))).setCell ⟨G, j, none⟩ (.int .i64 (x.getD j 0 - rn)))) := Lib.hid ((hbw.setCell (by simp; omega) _).setCell (by simp; omega) _)
          have HML : Hid ((moveZ x i j rn).length = zs.length) := Lib.hid (by rw [← HXL.out]; simp [moveZ])
          clear hb2 HO2 HCh d0 d1 d2 HWI
          generalize moveZ x i j rn = x' at *
          generalize x.getD i 0 = xi at *
          generalize x.getD j 0 = xj at *
          go_wp2_with fail
          go_roundw
          case rel => exact ⟨k + 1, by omega, by go_num, Lib.hid ⟨x', HFin.out, HML.out, by rw [HF.out, if_neg (by simp)], fun q => by have := HWM.out q; omega⟩, HFb.out⟩
          case measure => simp [intOf]; omega
        · obtain ⟨xx, y, p⟩ := gk
          unfold GameZ.val at HCh
          simp only at *
          generalize changeG zs ⟨xx, y, p⟩ f = r at *
          go_wp2_with fail
          refine HCh.out.mono ?_
          rintro e w2 ⟨rfl, hb2⟩
          have hbw : Below w.heap.size w w2 := hba.trans (hb2.mono (by simp; omega))
          have hr' : ¬ r.2 = 0 := by simpa using hr
          have HE := Lib.hid (show periodR zs gs f = ([], r.2) by rw [HR.out, HF.out, if_pos hr']; simp [endP, hr'])
          clear hr'
          go_wp2_with fail
          go_ret2
          exact ⟨_, by rw [HE.out]; rfl, by rw [HE.out]; exact World.ownsRow_nil _ _ _ _, hbw⟩
      · obtain rfl : k = gs.length := by omega
        obtain ⟨x, hown, hxl, hfold, hwi⟩ := HK.out
        rw [List.drop_length, foldP] at hfold
        have HF := Lib.hid hfold
        have HO2 := Lib.hid hown
        have HXL := Lib.hid hxl
        have HCx := Lib.hid (Check_any (.slice (some ⟨G, 0, none⟩) zs.length cap) x wr (RdI.of_own (by rw [hxl]; exact hown)))
        clear hown hfold hwi hxl
        go_wp2_with fail
        refine HCx.out.mono ?_
        rintro e w' ⟨rfl, rfl⟩
        cases hr : (checkR x != 0)
        · have HE := Lib.hid (show periodR zs gs f = (x, 0) by rw [HR.out, HF.out]; simp at hr; simp [endP, hr])
          generalize checkR x = cx at *
          go_wp2_with fail
          go_ret2
          exact ⟨_, by rw [HE.out]; rfl, by rw [HE.out]; have := HO2.out; rw [← HXL.out] at this ⊢; exact this, hbl⟩
        · have HE := Lib.hid (show periodR zs gs f = ([], checkR x) by rw [HR.out, HF.out]; simp at hr; simp [endP, hr])
          generalize checkR x = cx at *
          go_wp2_with fail
          go_ret2
          exact ⟨_, by rw [HE.out]; rfl, by rw [HE.out]; exact World.ownsRow_nil _ _ _ _, hbl⟩
  · have HR := Lib.hid (show periodR zs gs f = ([], chkAllR zs gs.length) by unfold periodR; rw [if_pos hc])
    have hr : (chkAllR zs gs.length != 0) = true := by simpa using hc
    generalize chkAllR zs gs.length = r at *
    clear hc h hg hcells
    go_enter Try.func10, Try.ntmps10
    go_wp2_with fail
    refine HCA.out.mono ?_
    rintro e w' ⟨rfl, rfl⟩
    go_wp2_with fail
    go_ret2
    exact ⟨_, by rw [HR.out]; rfl, by rw [HR.out]; exact World.ownsRow_nil _ _ _ _, Below.refl _ _⟩
end Go.Proofs.Ytgbedogdikflcaa

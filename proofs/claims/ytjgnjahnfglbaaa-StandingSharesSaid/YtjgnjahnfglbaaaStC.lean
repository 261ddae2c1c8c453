/- standing.breaks. -/
import Derived.Test.YtjgnjahnfglbaaaStB
import Derived.Test.YtjgnjahnfglbaaaBox
import Derived.Deep.Cut
namespace Go.Proofs.Ytjgnjahnfglbaaa
open Go.ChangeShapes Go.WideShapes Go.ChangeAt Go.RowKit
set_option linter.unusedVariables false

def In4 (m : Int) (b0 b1 b2 b3 : Int) : Prop := 0 ≤ b0 ∧ b0 ≤ m ∧ 0 ≤ b1 ∧ b1 ≤ m ∧ 0 ≤ b2 ∧ b2 ≤ m ∧ 0 ≤ b3 ∧ b3 ≤ m
def four (b0 b1 b2 b3 : Int) : List Value := [.int .i64 b0, .int .i64 b1, .int .i64 b2, .int .i64 b3]
theorem mul_bnd {p x : Int} (h0 : 0 ≤ p) (h1 : p ≤ 2) (h2 : 0 ≤ x) (h3 : x ≤ 1200) : 0 ≤ p * x ∧ p * x ≤ 2400 := by
  have hp : p = 0 ∨ p = 1 ∨ p = 2 := by omega
  rcases hp with rfl | rfl | rfl <;> omega
def BreaksPost (w : World) (e : Ending) (w' : World) : Prop := ∃ b0 b1 b2 b3, e = .returned (.agg (four b0 b1 b2 b3).toArray) ∧ Below w.heap.size w w'
set_option maxHeartbeats 4000000 in
theorem breaks_any (n : Nat) (vg : Value) (gs : List GameZ) (pl : Int) (w : World) (hg : RdG w vg gs) (hgs : gs.length ≤ 600) (h0 : 1 ≤ n) (h32 : n ≤ 32) (hgood : ∀ k (hk : k < gs.length), GoodG n gs[k]) :
    Calls Try.prog 10 #[.int .i64 (n : Int), vg, .int .i64 pl] w (BreaksPost w) := by
  obtain ⟨a, c, rfl, h1, h2, hcells⟩ := hg.form
  unfold maxLen at h2
  have HG := Lib.hid hcells
  have HGood := Lib.hid hgood
  have HR := Lib.hid hg
  have HC := Lib.hid (fun w1 (h : RdG w1 (.slice a gs.length c) gs) => points_any n (.slice a gs.length c) gs w1 h hgs h0 h32 hgood)
  clear hg hcells hgood
  go_enter Try.func10, Try.ntmps10
  go_wp2_with fail
  have hx0 := Lib.hid (Box.new w (four 0 0 0 0) 28)
  have hb0 : Below w.heap.size w (w.alloc (.cells (four 0 0 0 0).toArray 28)) := (Below.refl _ w).alloc (Nat.le_refl _) _
  have HP := Lib.hid (HC.out _ (RdG.below HR.out hb0 (Nat.le_refl _)))
  go_wp2_with fail
  refine HP.out.mono ?_
  rintro e w1 ⟨v, z, rfl, hown, hz, hb1⟩
  obtain ⟨G, cap, rfl⟩ := own_some hown (by omega)
  have hGl := hown.lt G rfl
  simp only [World.size_alloc] at hGl
  have hbw1 : Below w.heap.size w w1 := hb0.trans (hb1.mono (by simp))
  have hx1 := Lib.hid (hx0.out.stays hb1)
  have HO := Lib.hid (hown.alloc (.cells (four 0 0 0 0).toArray 28))
  have hx2 := Lib.hid (Box.new w1 (four 0 0 0 0) 28)
  have hbw2 : Below w.heap.size w (w1.alloc (.cells (four 0 0 0 0).toArray 28)) := hbw1.alloc hbw1.size _
  have hx3 := Lib.hid (hx1.out.alloc (.cells (four 0 0 0 0).toArray 28))
  obtain ⟨bo, hbo⟩ : ∃ bo, bo = w1.heap.size := ⟨_, rfl⟩
  have hs2 : (w1.alloc (.cells (four 0 0 0 0).toArray 28)).heap.size = bo + 1 := by rw [hbo]; simp
  have HZ := Lib.hid hz
  have hzl := hz.len
  have HBox : Hid (Box (w1.alloc (.cells (four 0 0 0 0).toArray 28)) bo (four 0 0 0 0) 28) := Lib.hid (by rw [hbo]; exact hx2.out)
  have HSz : Hid ((w1.alloc (.cells (four 0 0 0 0).toArray 28)).heap.size = bo + 1) := Lib.hid hs2
  have HBo : Hid (bo = w1.heap.size) := Lib.hid hbo
  have HB2 := Lib.hid hbw2
  have hGb : G < bo := by rw [hbo]; omega
  have hwb : w.heap.size < bo := by rw [hbo]; omega
  clear hbo hs2 hbw2 hx0 hx1 hx2 hown hz
  go_wp2_with fail
  go_loopw [18] (fun i wr => ∃ k : Nat, k ≤ gs.length ∧ i = .int .i64 k ∧ Hid (∃ b0 b1 b2 b3, In4 (2400 * k) b0 b1 b2 b3 ∧ Box wr bo (four b0 b1 b2 b3) 28) ∧ Below bo (w1.alloc (.cells (four 0 0 0 0).toArray 28)) wr) (fun i _ => gs.length - (intOf i).toNat)
  case atStart => exact ⟨0, Nat.zero_le _, rfl, Lib.hid ⟨0, 0, 0, 0, by unfold In4; omega, HBox.out⟩, Below.refl _ _⟩
  case round =>
    obtain ⟨k, hk, rfl, HK, hbl⟩ := hrel
    rw [show w1.heap.size = bo from HBo.out.symm]
    by_cases hlt : k < gs.length
    · have hbl2 : Below (w1.alloc (.cells (four 0 0 0 0).toArray 28)).heap.size.pred.succ.pred (w1.alloc (.cells (four 0 0 0 0).toArray 28)) wr := by rw [HSz.out]; exact hbl
      have hbw : Below w.heap.size w wr := HB2.out.trans (hbl.mono (by omega))
      obtain ⟨gb, o, rfl, hgb, c0, c1, c2⟩ := HG.out k hlt
      have d0 := (hbw.cell (p := ⟨gb, o + k * 3, none⟩) hgb).trans c0
      have d1 := (hbw.cell (p := ⟨gb, o + k * 3 + 1, none⟩) hgb).trans c1
      have d2 := (hbw.cell (p := ⟨gb, o + k * 3 + 2, none⟩) hgb).trans c2
      clear c0 c1 c2 hbl2
      have hsz : bo + 1 ≤ wr.heap.size := by have := hbl.size; rw [HSz.out] at this; exact this
      have hlz : (k : Int) < gs.length := by omega
      obtain ⟨r1, r2, r3, r4, r5, r6, r7⟩ := HGood.out k hlt
      obtain ⟨b0, b1, b2, b3, hin, hbx⟩ := HK.out
      obtain ⟨i0, i0', i1, i1', i2, i2', i3, i3'⟩ := hin
      have HBX := Lib.hid hbx
      have e0 : wr.cell? ⟨bo, 0, none⟩ = some (.int .i64 b0) := hbx.cell 0 rfl
      have e1 : wr.cell? ⟨bo, 1, none⟩ = some (.int .i64 b1) := hbx.cell 1 rfl
      have e2 : wr.cell? ⟨bo, 2, none⟩ = some (.int .i64 b2) := hbx.cell 2 rfl
      have e3 : wr.cell? ⟨bo, 3, none⟩ = some (.int .i64 b3) := hbx.cell 3 rfl
      have f0 := hbx.frozen 0
      have f1 := hbx.frozen 1
      have f2 := hbx.frozen 2
      have f3 := hbx.frozen 3
      clear hbx HK
      generalize gs[k] = gk at *
      obtain ⟨x, y, p⟩ := gk
      simp only at *
      obtain ⟨i, rfl⟩ : ∃ i : Nat, x = (i : Int) := ⟨x.toNat, by omega⟩
      obtain ⟨j, rfl⟩ : ∃ i : Nat, y = (i : Int) := ⟨y.toNat, by omega⟩
      have q6 : i < n := by omega
      have q7 : j < n := by omega
      have n1 : ¬ bo = wr.heap.size := by omega
      have n2 : ¬ wr.heap.size = bo := by omega
      have n5 : ¬ bo = G := by omega
      have lb : bo < wr.heap.size := by omega
      have lG : G < wr.heap.size := by omega
      have lw : w.heap.size < wr.heap.size := by omega
      have n6 : ¬ G = bo := by omega
      have n7 : ¬ G = wr.heap.size := by omega
      have n8 : ¬ wr.heap.size = G := by omega
      have k2 : wr.cell? ⟨G, i, none⟩ = some (.int .i64 (z.getD i 0)) := (hbl.cell (p := ⟨G, i, none⟩) hGb).trans ((HO.out.cellAt i (by omega)).trans (ints_get _ i (by omega)))
      have k3 : wr.cell? ⟨G, j, none⟩ = some (.int .i64 (z.getD j 0)) := (hbl.cell (p := ⟨G, j, none⟩) hGb).trans ((HO.out.cellAt j (by omega)).trans (ints_get _ j (by omega)))
      obtain ⟨m1, m1'⟩ := HZ.out.bnd i
      obtain ⟨m2, m2'⟩ := HZ.out.bnd j
      generalize z.getD i 0 = zi at *
      generalize z.getD j 0 = zj at *
      have p1 := mul_bnd (p := p) (x := zj) r6 r7 m2 (by omega)
      have p2 := mul_bnd (p := 2 - p) (x := zi) (by omega) (by omega) m1 (by omega)
      by_cases ha : pl = i
      · subst ha
        have ne1 : ¬ (i : Int) = (j : Int) := by omega
        obtain ⟨mm, hmm⟩ : ∃ mm, p * zj = mm := ⟨_, rfl⟩
        rw [hmm] at p1
        by_cases hp : p = 2
        · skip
          go_wp2_with fail
          go_quiet (fail)
          go_wp2_with fail
          go_region
          go_wp2_with fail
          go_region
          go_wp2_with fail
          go_roundw
          case rel => exact ⟨k + 1, by omega, by go_num, Lib.hid ⟨b0 + zj, b1 + 2 * zj, b2 + 1, b3, by unfold In4; push_cast; omega, (((((HBX.out.alloc _).drewN _).set 0 _).set 1 _).set 2 _).drew⟩, (((((below_drewN (hbl.alloc (by omega) _) _)).setCell (Nat.le_refl _) _).setCell (Nat.le_refl _) _).setCell (Nat.le_refl _) _).drew⟩
          case measure => simp [intOf]; omega
        · skip
          go_wp2_with fail
          go_quiet (fail)
          go_wp2_with fail
          go_region
          go_wp2_with fail
          go_region
          go_wp2_with fail
          go_roundw
          case rel => exact ⟨k + 1, by omega, by go_num, Lib.hid ⟨b0 + zj, b1 + mm, b2, b3, by unfold In4; push_cast; omega, ((((HBX.out.alloc _).drewN _).set 0 _).set 1 _).drew⟩, ((((below_drewN (hbl.alloc (by omega) _) _)).setCell (Nat.le_refl _) _).setCell (Nat.le_refl _) _).drew⟩
          case measure => simp [intOf]; omega
      · by_cases hb : pl = j
        · subst hb
          have ne1 : ¬ (j : Int) = (i : Int) := by omega
          obtain ⟨mm, hmm⟩ : ∃ mm, (2 - p) * zi = mm := ⟨_, rfl⟩
          rw [hmm] at p2
          by_cases hp : 2 - p = 2
          · skip
            go_wp2_with fail
            go_quiet (fail)
            go_wp2_with fail
            go_quiet (fail)
            go_wp2_with fail
            go_region
            go_wp2_with fail
            go_region
            go_wp2_with fail
            go_roundw
            case rel => exact ⟨k + 1, by omega, by go_num, Lib.hid ⟨b0 + zi, b1 + 2 * zi, b2 + 1, b3 + 1, by unfold In4; push_cast; omega, ((((((HBX.out.alloc _).drewN _).set 3 _).set 0 _).set 1 _).set 2 _).drew.drew⟩, ((((((below_drewN (hbl.alloc (by omega) _) _)).setCell (Nat.le_refl _) _).setCell (Nat.le_refl _) _).setCell (Nat.le_refl _) _).setCell (Nat.le_refl _) _).drew.drew⟩
            case measure => simp [intOf]; omega
          · skip
            go_wp2_with fail
            go_quiet (fail)
            go_wp2_with fail
            go_quiet (fail)
            go_wp2_with fail
            go_region
            go_wp2_with fail
            go_region
            go_wp2_with fail
            go_roundw
            case rel => exact ⟨k + 1, by omega, by go_num, Lib.hid ⟨b0 + zi, b1 + mm, b2, b3 + 1, by unfold In4; push_cast; omega, (((((HBX.out.alloc _).drewN _).set 3 _).set 0 _).set 1 _).drew.drew⟩, (((((below_drewN (hbl.alloc (by omega) _) _)).setCell (Nat.le_refl _) _).setCell (Nat.le_refl _) _).setCell (Nat.le_refl _) _).drew.drew⟩
            case measure => simp [intOf]; omega
        · go_wp2_with fail
          go_quiet (fail)
          go_wp2_with fail
          go_roundw
          case rel => exact ⟨k + 1, by omega, by go_num, Lib.hid ⟨b0, b1, b2, b3, by unfold In4; push_cast; omega, (HBX.out.alloc _).drewN _⟩, (below_drewN (hbl.alloc (by omega) _) _)⟩
          case measure => simp [intOf]; omega
    · obtain rfl : k = gs.length := by omega
      obtain ⟨b0, b1, b2, b3, hin, hbx⟩ := HK.out
      have HBX := Lib.hid hbx
      have hbw : Below w.heap.size w wr := HB2.out.trans (hbl.mono (by omega))
      have hx9 := Lib.hid (hx3.out.below hbl hwb)
      clear hbx HK hin
      go_upto_region 17 with (fail)
      refine wp_region_lit ?_
      refine wpList_load_box (by rfl) 28 (.tmp 8) (by rfl) bo (by rfl) HBX.out Try.underlying28 (by rfl) (by kernel_rfl) ?_
      refine wpList_store_box (vs := four b0 b1 b2 b3) (by rfl) 28 (.tmp 6) (.tmp 68) (by rfl) w.heap.size (by rfl) (by rfl) hx9.out (by rfl) (by kernel_rfl) (by rfl) ?_
      have HS := Lib.hid (hx9.out.store (vs := four b0 b1 b2 b3) rfl)
      have HLf := Lib.hid (below_setCells hbw (Nat.le_refl _) 0 (four b0 b1 b2 b3))
      generalize wr.setCells w.heap.size 0 (four b0 b1 b2 b3) = wf at *
      go_wp2_with fail
      exact bodyPost_ret (results_one rfl (by rfl) HS.out Try.underlying28 (by rfl) (by kernel_rfl)) rfl ⟨_, _, _, _, rfl, HLf.out⟩
end Go.Proofs.Ytjgnjahnfglbaaa

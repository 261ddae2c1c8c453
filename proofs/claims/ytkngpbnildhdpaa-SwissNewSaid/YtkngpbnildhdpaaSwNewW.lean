/- SwissNew: the walk. -/
import Derived.Test.YtkngpbnildhdpaaSwN
import Derived.Test.YtkngpbnildhdpaaSwF
import Derived.BigQuiet
import Derived.Deep.Cut
import Derived.Deep.QuietTactic
namespace Go.Proofs.Ytkngpbnildhdpaa.swissNew
open Go.ChangeShapes Go.WideShapes Go.ChangeAt Go.RowKit
set_option linter.unusedVariables false

set_option maxRecDepth 100000 in
set_option maxHeartbeats 8000000 in
theorem walk (s : Value) (ps : List SwP) (w : World) (h : RdS w s ps) : Calls Try.prog 3 #[s] w fun e w' => e = .returned (.bool true) ∧ Below w.heap.size w w' := by
  obtain ⟨a, c, rfl, h1, h2⟩ := h.form
  unfold maxLen at h2
  have HRD := Lib.hid h
  obtain ⟨i0, hi, hz0, hz1, hz2⟩ := info_parts info3
  clear h
  go_enter Try.func3, Try.ntmps3
  go_upto_region 4 with (go_at_call 6; refine (swisses_any w).mono ?_; rintro e w1 ⟨rfl, hb⟩; have HB1 := Lib.hid hb; clear hb)
  refine (Pair_any _ ps _ (HRD.out.below HB1.out (Nat.le_refl _))).mono ?_
  rintro e w2 ⟨hb, hp⟩
  have HB2 := Lib.hid (HB1.out.trans (hb.mono HB1.out.size))
  clear hb
  rcases hp with ⟨c, hc, -, rfl⟩ | ⟨-, -, rfl⟩ | ⟨hok, W, v, hpz, hw, hr, rfl⟩
  · go_wp2_with fail
    go_ret
    exact ⟨rfl, HB2.out⟩
  · go_wp2_with fail
    go_ret
    exact ⟨rfl, HB2.out⟩
  · obtain ⟨hn2, hn8⟩ := hok.1
    have HG := Lib.hid (games_ok hw ps.length (Nat.le_refl _))
    have HOnce := Lib.hid (once_ok hw)
    have HGL := Lib.hid (outZ_len ps W ps.length)
    clear hpz hok
    generalize outZ ps W ps.length = G at *
    generalize offZ ps.length W ps.length = off at *
    obtain ⟨ga, gc, rfl, hg1, hg2⟩ := hr.form
    unfold maxLen at hg2
    have HGR := Lib.hid hr
    have hs2 := HB2.out.size
    clear hr hw
    obtain ⟨g, o, rfl, hgl, -⟩ := RdS.some HRD.out (by omega)
    have HR2 := Lib.hid (HRD.out.below HB2.out (Nat.le_refl _))
    go_upto_region 7 with (at_make; refine wpList_make_full _ rfl _ _ 28 rfl w2.heap.size 3 i0 (.int .i64 0) 1 Try.underlying28 hi hz0 hz1 .i64 .i64 ps.length ps.length ps.length rfl rfl rfl rfl (by rw [hz2]; omega) (by unfold maxLen; omega) (Nat.le_refl _) ?_; intro w3 hown hgrow; rw [made_ints, ← busyL_nil] at hown; have HO3 := Lib.hid hown; have HB3 := Lib.hid (Below.grown (Below.refl _ w2) hgrow (Nat.le_refl _) (fun q hq => by cases hq)); clear hown hgrow)
    have hb3 : w2.heap.size < w3.heap.size := (HO3.out.lt _ rfl).2
    obtain ⟨bb, hbb⟩ : ∃ bb, bb = w2.heap.size := ⟨_, rfl⟩
    rw [← hbb] at HO3 HB3 hb3
    try rw [← hbb]
    have hbb1 : bb ≤ w2.heap.size := by omega
    have hbb2 : w2.heap.size ≤ bb := by omega
    clear hbb
    go_wp2_with fail
    go_loopw [33, 9, 11] (fun v33 v9 v11 wr => ∃ (k : Nat) (o9 o11 : Value), o9 = v9 ∧ o11 = v11 ∧ k ≤ G.length ∧ v33 = .int .i64 k ∧ Hid (wr.ownsRow bb 3 1 (.slice (some ⟨bb, 0, none⟩) ps.length ps.length) ps.length (ints (busyL ps.length (G.take k)))) ∧ Hid (Below bb w2 wr)) (fun v _ _ _ => G.length - (intOf v).toNat)
    case atStart => exact ⟨0, _, _, rfl, rfl, Nat.zero_le _, rfl, HO3, HB3⟩
    case round =>
      obtain ⟨k, o9, o11, rfl, rfl, hk, rfl, HO, HB⟩ := hrel
      by_cases hlt : k < G.length
      · obtain ⟨gg, og, rfl, hgg, hcl⟩ := RdL.some (RdL.below HGR.out HB.out (by omega)) (by omega)
        obtain ⟨cs, hcs, hj⟩ := hcl k hlt
        obtain ⟨i, j, hij, hin, hjn, hne, -, -, hm, -⟩ := HG.out _ (List.getElem_mem hlt)
        have HT : Hid (G.take (k + 1) = G.take k ++ [((i : Int), (j : Int))]) := Lib.hid (by rw [List.take_add_one, List.getElem?_eq_getElem hlt, hij]; rfl)
        rw [hij] at hcs
        obtain rfl : cs = [.int .i64 (i : Int), .int .i64 (j : Int)] := hcs
        have c1 : wr.cell? ⟨gg, og + k * 2, none⟩ = some (.int .i64 (i : Int)) := hj 0 (by decide)
        have c2 : wr.cell? ⟨gg, og + k * 2 + 1, none⟩ = some (.int .i64 (j : Int)) := hj 1 (by decide)
        clear hcl hij hj
        obtain ⟨g2, o2, ha, -, hpc⟩ := RdS.some (RdL.below HR2.out HB.out (by omega)) (by omega)
        cases ha
        obtain ⟨vo, -, cvo, -, -, hvo⟩ := hpc i hin
        have HM := Lib.hid (metN_zero hm)
        clear hpc hm
        obtain ⟨oa, oc, rfl, ho1, ho2⟩ := hvo.form
        unfold maxLen at ho2
        have HOP := Lib.hid hvo
        clear hvo
        generalize (plAt ps i).opp = zs at *
        have hsr := HB.out.size
        have hbr : bb < wr.heap.size := (HO.out.lt _ rfl).2
        go_upto_region 10 with (fail)
        obtain ⟨pb, hpb⟩ : ∃ pb, pb = wr.heap.size := ⟨_, rfl⟩
        rw [← hpb]
        have hplt : pb < (wr.alloc (.cells #[.int .i64 (i : Int), .int .i64 (j : Int)] 30)).heap.size := by rw [World.size_alloc]; omega
        have HP := Lib.hid (Box.new' wr pb [.int .i64 (i : Int), .int .i64 (j : Int)] 30 hpb.symm)
        have HBp := Lib.hid (HB.out.alloc (by omega) (.cells #[.int .i64 (i : Int), .int .i64 (j : Int)] 30))
        have HOp := Lib.hid (HO.out.alloc (.cells #[.int .i64 (i : Int), .int .i64 (j : Int)] 30))
        have HOPp := Lib.hid (RdI.below HOP.out ((Below.refl wr.heap.size wr).alloc (Nat.le_refl _) (.cells #[.int .i64 (i : Int), .int .i64 (j : Int)] 30)) (Nat.le_refl _))
        have cvo2 := cell_alloc cvo (.cells #[.int .i64 (i : Int), .int .i64 (j : Int)] 30)
        have hbp : bb ≠ pb := by omega
        have hbp2 : bb < pb := by omega
        clear hpb
        clear HO HB HOP cvo c1 c2
        generalize wr.alloc (.cells #[.int .i64 (i : Int), .int .i64 (j : Int)] 30) = wp at *
        have q0 := HP.out.cell 0 rfl
        have q1 := HP.out.cell 1 rfl
        go_wp2_with fail
        go_loop [44, 11] (fun v44 v11 => ∃ (m : Nat) (o11 : Value), o11 = v11 ∧ m ≤ zs.length ∧ v44 = .int .i64 m) (fun v _ => zs.length - (intOf v).toNat)
        case atStart => exact ⟨0, _, rfl, Nat.zero_le _, rfl⟩
        case round =>
          obtain ⟨m, o11, rfl, hm, rfl⟩ := hrel
          by_cases hml : m < zs.length
          · obtain ⟨g', o', c'', he, _, _, _, hcell⟩ := HOPp.out.some (by omega)
            simp only [Value.slice.injEq] at he
            obtain ⟨rfl, _, rfl⟩ := he
            have cm := hcell m hml
            have hzm := HM.out m hml
            clear hcell
            generalize zs.getD m 0 = z at *
            go_wp2_with fail
            go_round
            case rel => exact ⟨m + 1, _, rfl, by omega, by go_num⟩
            case measure => simp [intOf]; omega
          · obtain rfl : m = zs.length := by omega
            have hl1 := occ_le (i : Int) (G.take k)
            have hl2 := occ_le (j : Int) (G.take k)
            have hl3 := HGL.out
            rw [List.length_take] at hl1 hl2
            have b1 : wp.cell? ⟨bb, i, none⟩ = some (.int .i64 ((occ (G.take k) (i : Int) : Nat) : Int)) := by
              have := HOp.out.cellAt i (by omega)
              rw [ints_get _ _ (by rw [busyL_len]; exact hin), busyL_getD _ _ _ hin] at this
              exact this
            have b2 : wp.cell? ⟨bb, j, none⟩ = some (.int .i64 ((occ (G.take k) (j : Int) : Nat) : Int)) := by
              have := HOp.out.cellAt j (by omega)
              rw [ints_get _ _ (by rw [busyL_len]; exact hjn), busyL_getD _ _ _ hjn] at this
              exact this
            have f1 : wp.frozen? ⟨bb, i, none⟩ = false := HOp.out.frozenAt i
            have f2 : wp.frozen? ⟨bb, j, none⟩ = false := HOp.out.frozenAt j
            have hbw : bb < wp.heap.size := by omega
            have HSt := Lib.hid (own_two (i := i) (j := j) (x := ((occ (G.take k) (i : Int) : Nat) : Int) + 1) (y := ((occ (G.take k) (j : Int) : Nat) : Int) + 1) (by rw [busyL_len]; exact HOp.out : wp.ownsRow bb 3 1 (.slice (some ⟨bb, 0, none⟩) (busyL ps.length (G.take k)).length ps.length) (busyL ps.length (G.take k)).length (ints (busyL ps.length (G.take k)))))
            rw [busy_step _ _ i j hin hjn hne, ← HT.out, busyL_len] at HSt
            have HBz : ∀ v1 v2, Below bb w2 ((wp.setCell ⟨bb, i, none⟩ v1).setCell ⟨bb, j, none⟩ v2) := fun v1 v2 => (HBp.out.setCell (p := ⟨bb, i, none⟩) (Nat.le_refl _) v1).setCell (p := ⟨bb, j, none⟩) (Nat.le_refl _) v2
            have HBZ := Lib.hid HBz
            generalize occ (G.take k) (i : Int) = x at *
            generalize occ (G.take k) (j : Int) = y at *
            have hji : ¬ j = i := fun e => hne e.symm
            clear HOp HOPp HBz HBp HM
            go_wp2_with fail
            go_roundw
            case rel => exact ⟨k + 1, _, _, rfl, rfl, by omega, by go_num, HSt, Lib.hid (HBZ.out _ _)⟩
            case measure => simp [intOf]; omega
      · obtain rfl : k = G.length := by omega
        rw [List.take_length] at HO
        have hbr : bb < wr.heap.size := (HO.out.lt _ rfl).2
        have HEnd : Hid (∀ (wz : World) (zb : Nat), wz.ownsRow bb 3 1 (.slice (some ⟨bb, 0, none⟩) ps.length ps.length) ps.length (ints (List.replicate ps.length 1)) → ∀ z, z < ps.length → wz.cell? ⟨bb, z, none⟩ = some (.int .i64 1)) := Lib.hid (fun wz zb hz z hzn => by
          have := hz.cellAt z (by omega)
          rw [ints_get _ _ (by simpa using hzn), List.getD_eq_getElem?_getD, List.getElem?_replicate, if_pos hzn] at this
          exact this)
        rcases HOnce.out with ⟨rfl, he, hb⟩ | ⟨i, hin, rfl, ho, hbye, hb⟩
        · rw [hb] at HO
          have hpar : ((ps.length : Int) % 2 == 0) = true := by simp; omega
          have HPar := Lib.hid hpar
          clear hpar hb
          go_wp2_with fail
          go_loop [78, 13] (fun v78 v13 => ∃ (m : Nat) (o13 : Value), o13 = v13 ∧ m ≤ ps.length ∧ v78 = .int .i64 m) (fun v _ => ps.length - (intOf v).toNat)
          case atStart => exact ⟨0, _, rfl, Nat.zero_le _, rfl⟩
          case round =>
            obtain ⟨m, o13, rfl, hm, rfl⟩ := hrel
            by_cases hml : m < ps.length
            · have cm := HEnd.out _ 0 HO.out m hml
              go_wp2_with fail
              go_round
              case rel => exact ⟨m + 1, _, rfl, by omega, by go_num⟩
              case measure => simp [intOf]; omega
            · obtain rfl : m = ps.length := by omega
              go_wp2_with fail
              all_goals first | go_ret | skip
              all_goals first | exact ⟨rfl, HB2.out.trans (HB.out.mono (by omega))⟩ | omega
        · have hl1 := occ_le (i : Int) G
          have hl3 := HGL.out
          have b1 : wr.cell? ⟨bb, i, none⟩ = some (.int .i64 ((occ G (i : Int) : Nat) : Int)) := by
            have := HO.out.cellAt i (by omega)
            rw [ints_get _ _ (by rw [busyL_len]; exact hin), busyL_getD _ _ _ hin] at this
            exact this
          have f1 : wr.frozen? ⟨bb, i, none⟩ = false := HO.out.frozenAt i
          have HS := Lib.hid ((HO.out.stored i (.int .i64 ((occ G (i : Int) : Nat) + 1))).1)
          rw [ints_set, hb] at HS
          have HBs := Lib.hid (HB.out.setCell (p := ⟨bb, i, none⟩) (Nat.le_refl _) (.int .i64 ((occ G (i : Int) : Nat) + 1)))
          have hbs : bb < (wr.setCell ⟨bb, i, none⟩ (.int .i64 ((occ G (i : Int) : Nat) + 1))).heap.size := (HS.out.lt _ rfl).2
          clear hb HO HB
          generalize occ G (i : Int) = x at *
          go_upto_region 21 with (fail)
          generalize wr.setCell ⟨bb, i, none⟩ (.int .i64 ((x : Nat) + 1)) = wz at *
          obtain ⟨g2, o2, ha, -, hpc⟩ := RdS.some (RdL.below HR2.out HBs.out (by omega)) (by omega)
          cases ha
          obtain ⟨vo, -, -, -, cb, -⟩ := hpc i hin
          rw [hbye] at cb
          clear hpc
          go_wp2_with fail
          go_loop [78, 13] (fun v78 v13 => ∃ (m : Nat) (o13 : Value), o13 = v13 ∧ m ≤ ps.length ∧ v78 = .int .i64 m) (fun v _ => ps.length - (intOf v).toNat)
          case atStart => exact ⟨0, _, rfl, Nat.zero_le _, rfl⟩
          case round =>
            obtain ⟨m, o13, rfl, hm, rfl⟩ := hrel
            by_cases hml : m < ps.length
            · have cm := HEnd.out _ 0 HS.out m hml
              go_wp2_with fail
              go_round
              case rel => exact ⟨m + 1, _, rfl, by omega, by go_num⟩
              case measure => simp [intOf]; omega
            · obtain rfl : m = ps.length := by omega
              go_wp2_with fail
              all_goals first | go_ret | skip
              all_goals first | exact ⟨rfl, HB2.out.trans (HBs.out.mono (by omega))⟩ | omega
end Go.Proofs.Ytkngpbnildhdpaa.swissNew

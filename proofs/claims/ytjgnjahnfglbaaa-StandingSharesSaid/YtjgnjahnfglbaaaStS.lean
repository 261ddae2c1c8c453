/- The walk of StandingShares. -/
import Derived.Test.YtjgnjahnfglbaaaStR
import Derived.Test.YtjgnjahnfglbaaaStN
namespace Go.Proofs.Ytjgnjahnfglbaaa
open Go.ChangeShapes Go.WideShapes Go.ChangeAt Go.RowKit
set_option linter.unusedVariables false

theorem elemI : Try.prog.underlying 32 = some (.slice (Try.prog.elem 32)) := by kernel_rfl
theorem sizeI (w : World) : (sizeOf (Try.prog.elem 32)).run Try.prog w = .ok 1 w := by kernel_rfl
theorem takeI {w : World} {a : Option Addr} {c : Nat} {zs : List Int} (h : RdI w (.slice a zs.length c) zs) (k : Nat) (hk : k ≤ zs.length) : RdI w (.slice a k c) (zs.take k) := by
  have := Rd.take h k hk
  rw [show (ints zs).take (k * 1) = ints (zs.take k) by unfold ints; rw [Nat.mul_one, List.map_take]] at this
  unfold RdI
  rw [List.length_take, Nat.min_eq_left hk]
  exact this
theorem shZ_bnd {n m : Nat} {rs : List RowZ} (h : TabOk n m rs) {zs : List Int} (hz : ∀ z ∈ zs, 0 ≤ z ∧ z ≤ 100000000) (hl : rs.length ≤ 32) (i : Nat) (hi : i < rs.length) : 0 ≤ shZ rs zs i ∧ shZ rs zs i ≤ 3300000000 := by
  have hs := sh_bnd h (fun z hzz => (hz z hzz).1) i hi
  have hb := pl_bnd h i hi
  have u := preP_bnd hz (plE rs i)
  have v := preP_bnd hz (plF rs i)
  have e : shS rs zs i = preP zs (plE rs i) - preP zs (plF rs i) := rfl
  have q0 : 0 ≤ shS rs zs i / shN rs i := Int.ediv_nonneg hs.2 (by omega)
  have q1 : shS rs zs i / shN rs i ≤ shS rs zs i := Int.ediv_le_self _ hs.2
  unfold shZ
  split <;> omega
theorem gotS_bnd {n m : Nat} {rs : List RowZ} (h : TabOk n m rs) {zs : List Int} (hz : ∀ z ∈ zs, 0 ≤ z ∧ z ≤ 100000000) (hl : rs.length ≤ 32) : ∀ k, k ≤ rs.length → 0 ≤ gotS rs zs k ∧ gotS rs zs k ≤ 3300000000 * k
  | 0, _ => by unfold gotS shL; simp
  | k + 1, hk => by
    have ih := gotS_bnd h hz hl k (by omega)
    have := shZ_bnd h hz hl k (by omega)
    rw [gotS_step]
    push_cast
    omega
set_option maxRecDepth 100000 in
set_option maxHeartbeats 8000000 in
theorem shares_walk (HS : SortRowsSaid) (n : Int) (vg vp : Value) (gs0 : List GameZ) (zs0 : List Int) (w : World) (hg : RdG w vg gs0) (hz : RdI w vp zs0) : Calls Try.prog 4 #[.int .i64 n, vg, vp] w fun e w' => e = .returned (.bool true) ∧ Below w.heap.size w w' := by
  obtain ⟨ga, gc, rfl, g1, g2, _⟩ := hg.form
  obtain ⟨za, zc, rfl, z1, z2⟩ := hz.form
  unfold maxLen at g2 z2
  obtain ⟨L, hL⟩ : ∃ L, L = min gs0.length 60 := ⟨_, rfl⟩
  obtain ⟨K, hK⟩ : ∃ K, K = min zs0.length 30 := ⟨_, rfl⟩
  have m1 : L ≤ gs0.length := by omega
  have m2 : L ≤ 60 := by omega
  have m3 : K ≤ zs0.length := by omega
  have m4 : K ≤ 30 := by omega
  have HL := Lib.hid (show min (gs0.length : Int) 60 = (L : Int) by omega)
  have HKk := Lib.hid (show min (zs0.length : Int) 30 = (K : Int) by omega)
  have t1 := fun w => run_takeAt elemI sizeI za zs0.length zc K (by omega) w
  have t2 := fun w => run_takeAt elemG sizeG ga gs0.length gc L (by omega) w
  have HG0 := Lib.hid (RdG.take hg L m1)
  have HZ0 := Lib.hid (takeI hz K m3)
  have HSo := Lib.hid HS
  have hgl : (gs0.take L).length = L := by rw [List.length_take]; omega
  have hzl : (zs0.take K).length = K := by rw [List.length_take]; omega
  clear hg hz HS hL hK
  generalize gs0.take L = gs at HG0 hgl
  generalize zs0.take K = zs at HZ0 hzl
  have hL := HL.out
  have hK := HKk.out
  go_enter Try.func4, Try.ntmps4
  go_wp2_with fail
  refine (tables_any HSo.out w).mono ?_
  rintro e w1 ⟨rfl, hb1⟩
  have HG1 := Lib.hid (RdG.below HG0.out hb1 (Nat.le_refl _))
  have HZ1 := Lib.hid (RdI.below HZ0.out hb1 (Nat.le_refl _))
  have HT := Lib.hid (fun w2 (h : RdG w2 (.slice ga L gc) gs) => Table_any HSo.out n _ gs w2 h)
  go_wp2_with fail
  go_region
  have HG2 : Hid (RdG w1.drew (.slice ga L gc) gs) := Lib.hid HG1.out
  have HZ2 : Hid (RdI w1.drew (.slice za K zc) zs) := Lib.hid HZ1.out
  have hbd : Below w.heap.size w w1.drew := hb1.drew
  clear hb1 hL hK t1 t2
  generalize w1.drew = wd at HG2 HZ2 hbd ⊢
  go_wp2_with fail
  refine (HT.out wd HG2.out).mono ?_
  rintro e w2 (⟨hc, rfl, hb2⟩ | ⟨hc, G, cap, rs, rfl, hown, hok, hb2⟩)
  · have hb02 : Below w.heap.size w w2 := hbd.trans (hb2.mono hbd.size)
    generalize chkS n gs = cc at *
    go_wp2_with fail
    go_ret
    exact ⟨rfl, hb02⟩
  · have hb02 : Below w.heap.size w w2 := hbd.trans (hb2.mono hbd.size)
    obtain ⟨⟨q1, q2, q3⟩, -⟩ := good_chk hc
    obtain ⟨N, rfl⟩ : ∃ N : Nat, n = (N : Int) := ⟨n.toNat, by omega⟩
    rw [Int.toNat_natCast, hgl] at hok
    obtain rfl : rs.length = N := hok.len
    have hr1 : 1 ≤ rs.length := by omega
    have hr32 : rs.length ≤ 32 := by omega
    have hZ3 := RdI.below HZ2.out hb2 (Nat.le_refl _)
    have HP := Lib.hid (Prizes_any rs (.slice za K zc) zs w2 hown hok hr1 hr32 hZ3 (by omega))
    have hG := hown.lt G rfl
    have HO := Lib.hid hown
    have HOk := Lib.hid hok
    have HZ3 := Lib.hid hZ3
    clear hc hown hok hbd HT q1 q2 q3 hZ3
    go_wp2_with fail
    refine HP.out.mono ?_
    rintro e w3 ⟨hb3, ⟨hbad, rfl⟩ | ⟨hgood, g', cap', rfl, hown3⟩⟩
    · have hb03 : Below w.heap.size w w3 := hb02.trans (hb3.mono hb02.size)
      clear hbad
      go_wp2_with fail
      go_ret
      exact ⟨rfl, hb03⟩
    · have hb03 : Below w.heap.size w w3 := hb02.trans (hb3.mono hb02.size)
      have HGd := Lib.hid (good_prizes hgood)
      have HO3 := Lib.hid hown3
      have HR3 := Lib.hid (own_stays HO.out hb3)
      have HZ4 := Lib.hid (RdI.below HZ3.out hb3 (Nat.le_refl _))
      have hg' := (hown3.lt g' rfl).2
      have hG3 : G < w3.heap.size := Nat.lt_of_lt_of_le hG.2 hb3.size
      have HEnd := Lib.hid (got_end HOk.out (fun z hz => (HGd.out z hz).1) hr1)
      have HShB := Lib.hid (fun i hi => shZ_bnd HOk.out HGd.out hr32 i hi)
      have HGtB := Lib.hid (fun k hk => gotS_bnd HOk.out HGd.out hr32 k hk)
      clear hgood hown3 hb3
      go_wp2_with fail
      go_loopw [55, 11, 12] (fun i s11 s12 wr => ∃ k : Nat, k ≤ rs.length ∧ i = .int .i64 k ∧ s11 = .int .i64 (preP zs k) ∧ s12 = .int .i64 (gotS rs zs k) ∧ Below w3.heap.size w3 wr) (fun i _ _ _ => rs.length - (intOf i).toNat)
      case atStart => exact ⟨0, Nat.zero_le _, rfl, rfl, rfl, Below.refl _ _⟩
      case round =>
        obtain ⟨k, hk, rfl, rfl, rfl, hbl⟩ := hrel
        by_cases hlt : k < rs.length
        · have hlz : (k : Int) < (rs.length : Int) := by omega
          obtain ⟨b1, b2⟩ := preP_bnd HGd.out k
          obtain ⟨b3, b4⟩ := HGtB.out k hk
          obtain ⟨b5, b6⟩ := HShB.out k hlt
          have hk32 : k ≤ 32 := by omega
          have b7 : preP zs k ≤ 3200000000 := by omega
          have b8 : gotS rs zs k ≤ 105600000000 := by omega
          have HGs := Lib.hid (gotS_step rs zs k)
          have hxr := own_stays HO3.out hbl
          have hrr := own_stays HR3.out hbl
          have x1 : wr.cell? ⟨g', k, none⟩ = some (.int .i64 (shZ rs zs k)) := by
            rw [hxr.cellAt k (by omega), ints_get _ k (by rw [shL_len]; exact hlt), shL_get rs zs _ k hlt]
          have y1 : wr.cell? ⟨G, k * 8 + 6, none⟩ = some (.int .i64 rs[k].fr) := row_cells hrr rfl k hlt rfl 6 (by omega) rfl
          have HBl := Lib.hid hbl
          have hwk : IntKind.i64.wrap (k : Int) = (k : Int) := by rw [IntKind.wrap_i64]; omega
          have HPre : Hid ((k < K → preP zs (k + 1) = preP zs k + zs.getD k 0 ∧ 0 ≤ zs.getD k 0 ∧ zs.getD k 0 ≤ 100000000 ∧ ∃ gz oz, za = some ⟨gz, oz, none⟩ ∧ wr.cell? ⟨gz, oz + k, none⟩ = some (.int .i64 (zs.getD k 0))) ∧ (¬ k < K → preP zs (k + 1) = preP zs k)) := Lib.hid (by
            refine ⟨fun hkK => ?_, fun hkK => ?_⟩
            · have hzr := RdI.below HZ4.out hbl (Nat.le_refl _)
              rw [← hzl] at hzr
              obtain ⟨gz, oz, cz, q, _, _, _, hcell⟩ := hzr.some (by omega)
              simp only [Value.slice.injEq] at q
              have v2 : 0 ≤ zs.getD k 0 ∧ zs.getD k 0 ≤ 100000000 := by
                rw [List.getD_eq_getElem?_getD, List.getElem?_eq_getElem (show k < zs.length by omega)]; exact HGd.out _ (List.getElem_mem _)
              exact ⟨preP_step zs k (by omega), v2.1, v2.2, gz, oz, q.1, hcell k (by omega)⟩
            · rw [preP_end zs (k + 1) (by omega), ← preP_end zs k (by omega)])
          rcases Nat.eq_zero_or_pos k with hk0 | hk0
          · subst hk0
            clear hxr hrr
            by_cases hkK : 0 < K
            · obtain ⟨w1', w2', w3', gz, oz, rfl, ck⟩ := HPre.out.1 hkK
              simp only [Nat.add_zero] at ck
              have hkz : (0 : Int) < (K : Int) := by omega
              have HW := Lib.hid w1'
              clear w1' HPre
              generalize zs.getD 0 0 = z at *
              go_wp2_with fail
              go_quiet (fail)
              go_wp2_with fail
              go_roundw
              case rel => exact ⟨1, by omega, rfl, by rw [HW.out], by rw [HGs.out], below_drewN HBl.out _⟩
              case measure => simp [intOf]; omega
            · have hkz : ¬ (0 : Int) < (K : Int) := by omega
              have HW := Lib.hid (HPre.out.2 hkK)
              clear HPre
              go_wp2_with fail
              go_quiet (fail)
              go_wp2_with fail
              go_roundw
              case rel => exact ⟨1, by omega, rfl, by rw [HW.out], by rw [HGs.out], below_drewN HBl.out _⟩
              case measure => simp [intOf]; omega
          · obtain ⟨p, rfl⟩ : ∃ p, k = p + 1 := ⟨k - 1, by omega⟩
            have hp0 : (0 : Int) < (p : Int) + 1 := by omega
            have hp1l : (p : Int) + 1 < (rs.length : Int) := by omega
            have i1 : ((p : Int) + 1).toNat = p + 1 := by omega
            have i2 : (0 : Int) ≤ (p : Int) + 1 := by omega
            have i3 : IntKind.i64.wrap ((p : Int) + 1) = (p : Int) + 1 := by rw [IntKind.wrap_i64]; omega
            have i4 : (0 : Int) ≤ (p : Int) := by omega
            clear hwk
            have hpl : (p : Int) < (rs.length : Int) := by omega
            have hwp : IntKind.i64.wrap (p : Int) = (p : Int) := by rw [IntKind.wrap_i64]; omega
            have x0 : wr.cell? ⟨g', p, none⟩ = some (.int .i64 (shZ rs zs p)) := by
              rw [hxr.cellAt p (by omega), ints_get _ p (by rw [shL_len]; omega), shL_get rs zs _ p (by omega)]
            have y0 : wr.cell? ⟨G, p * 8 + 6, none⟩ = some (.int .i64 rs[p].fr) := row_cells hrr rfl p (by omega) rfl 6 (by omega) rfl
            obtain ⟨b9, b10⟩ := HShB.out p (by omega)
            clear hxr hrr
            by_cases hfe : rs[p + 1].fr = rs[p].fr
            · obtain ⟨s1, s2⟩ := sh_next HOk.out zs p hlt hfe
              rw [hfe] at y1
              have n1 : ¬ shZ rs zs p < shZ rs zs (p + 1) := by omega
              have n2 : ¬ shZ rs zs (p + 1) < shZ rs zs p - 1 := by omega
              clear hfe s1 s2
              generalize rs[p].fr = fp at *
              by_cases hkK : p + 1 < K
              · obtain ⟨w1', w2', w3', gz, oz, rfl, ck⟩ := HPre.out.1 hkK
                have hkz : ((p + 1 : Nat) : Int) < (K : Int) := by omega
                have HW := Lib.hid w1'
                clear w1' HPre
                generalize zs.getD (p + 1) 0 = z at *
                go_upto_region 19 with (fail)
                try clear ck w2' w3' hkz
                clear b1 b2 b3 b4 b5 b6 b7 b8 i4 hk32 hr1 hgl hzl m1 m2 m3 m4
                generalize shZ rs zs p = xp at *
                generalize shZ rs zs (p + 1) = xk at *
                generalize preP zs (p + 1) = pk at *
                generalize gotS rs zs (p + 1) = gk at *
                go_quiet (fail)
                go_wp2_with fail
                go_roundw
                case rel => exact ⟨p + 1 + 1, by omega, by go_num, by rw [HW.out], by rw [HGs.out], below_drewN HBl.out _⟩
                case measure => simp [intOf]; omega
              · have hkz : ¬ ((p + 1 : Nat) : Int) < (K : Int) := by omega
                have HW := Lib.hid (HPre.out.2 hkK)
                clear HPre
                go_upto_region 19 with (fail)
                try clear ck w2' w3' hkz
                clear b1 b2 b3 b4 b5 b6 b7 b8 i4 hk32 hr1 hgl hzl m1 m2 m3 m4
                generalize shZ rs zs p = xp at *
                generalize shZ rs zs (p + 1) = xk at *
                generalize preP zs (p + 1) = pk at *
                generalize gotS rs zs (p + 1) = gk at *
                go_quiet (fail)
                go_wp2_with fail
                go_roundw
                case rel => exact ⟨p + 1 + 1, by omega, by go_num, by rw [HW.out], by rw [HGs.out], below_drewN HBl.out _⟩
                case measure => simp [intOf]; omega
            · generalize rs[p].fr = fp at *
              generalize rs[p + 1].fr = fk at *
              have hfb : (fk == fp) = false := by simpa using hfe
              clear hfe
              by_cases hkK : p + 1 < K
              · obtain ⟨w1', w2', w3', gz, oz, rfl, ck⟩ := HPre.out.1 hkK
                have hkz : ((p + 1 : Nat) : Int) < (K : Int) := by omega
                have HW := Lib.hid w1'
                clear w1' HPre
                generalize zs.getD (p + 1) 0 = z at *
                go_upto_region 19 with (fail)
                try clear ck w2' w3' hkz
                clear b1 b2 b3 b4 b5 b6 b7 b8 i4 hk32 hr1 hgl hzl m1 m2 m3 m4
                generalize shZ rs zs p = xp at *
                generalize shZ rs zs (p + 1) = xk at *
                generalize preP zs (p + 1) = pk at *
                generalize gotS rs zs (p + 1) = gk at *
                go_quiet (fail)
                go_wp2_with fail
                go_roundw
                case rel => exact ⟨p + 1 + 1, by omega, by go_num, by rw [HW.out], by rw [HGs.out], below_drewN HBl.out _⟩
                case measure => simp [intOf]; omega
              · have hkz : ¬ ((p + 1 : Nat) : Int) < (K : Int) := by omega
                have HW := Lib.hid (HPre.out.2 hkK)
                clear HPre
                go_upto_region 19 with (fail)
                try clear ck w2' w3' hkz
                clear b1 b2 b3 b4 b5 b6 b7 b8 i4 hk32 hr1 hgl hzl m1 m2 m3 m4
                generalize shZ rs zs p = xp at *
                generalize shZ rs zs (p + 1) = xk at *
                generalize preP zs (p + 1) = pk at *
                generalize gotS rs zs (p + 1) = gk at *
                go_quiet (fail)
                go_wp2_with fail
                go_roundw
                case rel => exact ⟨p + 1 + 1, by omega, by go_num, by rw [HW.out], by rw [HGs.out], below_drewN HBl.out _⟩
                case measure => simp [intOf]; omega
        · obtain rfl : k = rs.length := by omega
          have hF := HEnd.out
          have hb9 : Below w.heap.size w wr := hb03.trans (hbl.mono hb03.size)
          go_wp2_with fail
          go_ret
          exact ⟨rfl, hb9⟩
end Go.Proofs.Ytjgnjahnfglbaaa

/- BookDraws: the walk. -/
import Derived.Test.YtkfaibdflbdpgaaBkH
import Derived.Test.YtkfaibdflbdpgaaFrame
namespace Go.Proofs.Ytkfaibdflbdpgaa.bookDraws
open Go.ChangeShapes Go.WideShapes Go.ChangeAt Go.RowKit
set_option linter.unusedVariables false

theorem draw_first {E : List BkZ} (h : WtB E) (k : Nat) (hk : k < E.length) : pickB E (sumW (E.take k) % sumW E) = some (E.getD k default) := by
  have h1 := sumW_lt h k hk
  have hm : E.getD k default ∈ E := by rw [List.getD_eq_getElem?_getD, List.getElem?_eq_getElem hk]; exact List.getElem_mem _
  have hw := h _ hm
  rw [Int.emod_eq_of_lt h1.1 (by omega)]
  have := pick_at h k hk 0 (by omega) (by omega)
  rwa [Int.add_zero] at this
theorem draw_last {E : List BkZ} (h : WtB E) (k : Nat) (hk : k < E.length) : pickB E ((sumW (E.take k) + (E.getD k default).wt - 1) % sumW E) = some (E.getD k default) := by
  have h1 := sumW_lt h k hk
  have hm : E.getD k default ∈ E := by rw [List.getD_eq_getElem?_getD, List.getElem?_eq_getElem hk]; exact List.getElem_mem _
  have hw := h _ hm
  rw [Int.emod_eq_of_lt (by omega) (by omega)]
  have := pick_at h k hk ((E.getD k default).wt - 1) (by omega) (by omega)
  rwa [show sumW (E.take k) + ((E.getD k default).wt - 1) = sumW (E.take k) + (E.getD k default).wt - 1 by omega] at this
theorem draw_again {E : List BkZ} (h : WtB E) (hk : 0 < E.length) : pickB E (sumW E % sumW E) = some (E.getD 0 default) := by
  rw [Int.emod_self]
  exact pick_first h hk
set_option maxRecDepth 100000 in
set_option maxHeartbeats 16000000 in
theorem walk (HS : SortMvSaid) (R : RulesZ) (vp vs ve : Value) (p : PosZ) (vc v0 v1 : Value) (vb : Value) (l0 : List BkZ) (w : World) (hr : RdR w R vp vs ve) (hnm : R.name.size ≤ maxLen) (hp : RdP w p vc v0 v1) (hb : RdL bkEl w vb l0) :
    Calls Try.prog 14 #[(.agg #[.string R.name, .int .i64 R.width, .int .i64 R.height, vp, vs, .bool R.falls, .bool R.keeps, ve, .int .i64 R.blocked, .int .i64 R.quiet, .int .i64 R.rept]), (.agg #[vc, v0, v1, .int .i64 p.turn, .int .i64 p.quiet]), vb] w fun e w' => e = .returned (.bool true) ∧ Below w.heap.size w w' := by
  have HSh := Lib.hid HS
  have HR := Lib.hid hr
  have HN := Lib.hid hnm
  have HP := Lib.hid hp
  obtain ⟨a, c, rfl, h1, h2⟩ := hb.form
  unfold maxLen at h2
  obtain ⟨n, hn, hn1, hn2⟩ := minG l0.length 40 (by omega)
  obtain ⟨l, hl⟩ : ∃ l, l = l0.take n := ⟨_, rfl⟩
  have hll : l.length = n := by rw [hl, List.length_take]; omega
  have HL : Hid (RdL bkEl w (.slice a n c) l) := Lib.hid (by rw [hl]; exact hb.take n hn1)
  have hsl : ∀ w' : World, (Instr.slice 88 (.slice a l0.length c) none (some (.int .i64 (n : Int))) none).run Try.prog w' = .ok (.slice a n c) w' := fun w' =>
    run_take (P := Try.prog) (t := 88) (s := 5) Try.underlying88 (fun w => sz_bk w) a l0.length c n (by omega) w'
  clear hb hl HS hr hnm hp
  go_enter Try.func14, Try.ntmps14
  go_upto_region 1 with (fail)
  have B0 : Box ((w.alloc (.cells #[.string R.name, .int .i64 R.width, .int .i64 R.height, vp, vs, .bool R.falls, .bool R.keeps, ve, .int .i64 R.blocked, .int .i64 R.quiet, .int .i64 R.rept] 26)).alloc (.cells #[vc, v0, v1, .int .i64 p.turn, .int .i64 p.quiet] 37)) (w.heap.size) [.string R.name, .int .i64 R.width, .int .i64 R.height, vp, vs, .bool R.falls, .bool R.keeps, ve, .int .i64 R.blocked, .int .i64 R.quiet, .int .i64 R.rept] 26 := ((Box.new' w (w.heap.size) [.string R.name, .int .i64 R.width, .int .i64 R.height, vp, vs, .bool R.falls, .bool R.keeps, ve, .int .i64 R.blocked, .int .i64 R.quiet, .int .i64 R.rept] 26 (by simp <;> omega)).alloc _)
  have B1 : Box ((w.alloc (.cells #[.string R.name, .int .i64 R.width, .int .i64 R.height, vp, vs, .bool R.falls, .bool R.keeps, ve, .int .i64 R.blocked, .int .i64 R.quiet, .int .i64 R.rept] 26)).alloc (.cells #[vc, v0, v1, .int .i64 p.turn, .int .i64 p.quiet] 37)) (w.heap.size + 1) [vc, v0, v1, .int .i64 p.turn, .int .i64 p.quiet] 37 := (Box.new' (w.alloc (.cells #[.string R.name, .int .i64 R.width, .int .i64 R.height, vp, vs, .bool R.falls, .bool R.keeps, ve, .int .i64 R.blocked, .int .i64 R.quiet, .int .i64 R.rept] 26)) (w.heap.size + 1) [vc, v0, v1, .int .i64 p.turn, .int .i64 p.quiet] 37 (by simp <;> omega))
  have HB : Hid (Below w.heap.size w ((w.alloc (.cells #[.string R.name, .int .i64 R.width, .int .i64 R.height, vp, vs, .bool R.falls, .bool R.keeps, ve, .int .i64 R.blocked, .int .i64 R.quiet, .int .i64 R.rept] 26)).alloc (.cells #[vc, v0, v1, .int .i64 p.turn, .int .i64 p.quiet] 37))) := Lib.hid (((Below.refl w.heap.size w).alloc (Nat.le_refl _) _).alloc (by simp <;> omega) _)
  have hz0 : w.heap.size + 1 < ((w.alloc (.cells #[.string R.name, .int .i64 R.width, .int .i64 R.height, vp, vs, .bool R.falls, .bool R.keeps, ve, .int .i64 R.blocked, .int .i64 R.quiet, .int .i64 R.rept] 26)).alloc (.cells #[vc, v0, v1, .int .i64 p.turn, .int .i64 p.quiet] 37)).heap.size := by simp
  generalize ((w.alloc (.cells #[.string R.name, .int .i64 R.width, .int .i64 R.height, vp, vs, .bool R.falls, .bool R.keeps, ve, .int .i64 R.blocked, .int .i64 R.quiet, .int .i64 R.rept] 26)).alloc (.cells #[vc, v0, v1, .int .i64 p.turn, .int .i64 p.quiet] 37)) = w0 at *
  have HB0 := Lib.hid B0
  have HB1 := Lib.hid B1
  clear B0 B1
  go_wp2_with fail
  refine (books_any HSh.out w0).mono ?_
  rintro e w1 ⟨rfl, hb1⟩
  have HL1 := Lib.hid (below_trans HB.out hb1 HB.out.size)
  have HC0 := Lib.hid (HB0.out.stays hb1)
  have HC1 := Lib.hid (HB1.out.stays hb1)
  clear hb1 HB0 HB1
  go_upto_region 4 with (fail)
  clear hsl
  refine wp_region_lit ?_
  refine wpList_load_box (by rfl) 26 (.tmp 3) (by rfl) (w.heap.size) (by rfl) HC0.out Try.underlying26 (by rfl) (by kernel_rfl) ?_
  go_wp2_with fail
  refine (great_anyG R vp vs ve w1 (HR.out.2.1.below HL1.out (Nat.le_refl _))).mono ?_
  rintro e w3 ⟨rfl, hb3⟩
  have HL3 := Lib.hid (below_trans HL1.out hb3 HL1.out.size)
  have HD0 := Lib.hid (HC0.out.stays hb3)
  have HD1 := Lib.hid (HC1.out.stays hb3)
  clear hb3 HC0 HC1 HL1
  by_cases hgr : 20 < (R.start.length : Int)
  · have hd : decide (20 < (R.start.length : Int)) = true := by simpa using hgr
    rw [hd]
    clear hgr hd
    go_wp2_with fail
    go_ret
    exact ⟨rfl, HL3.out⟩
  have hd : decide (20 < (R.start.length : Int)) = false := by simpa using hgr
  rw [hd]
  clear hgr hd
  have q0 := HD0.out.cell 0 rfl
  have q1 := HD0.out.cell 1 rfl
  have q2 := HD0.out.cell 2 rfl
  have q3 := HD0.out.cell 3 rfl
  have q4 := HD0.out.cell 4 rfl
  have q5 := HD0.out.cell 5 rfl
  have q6 := HD0.out.cell 6 rfl
  have q7 := HD0.out.cell 7 rfl
  have q8 := HD0.out.cell 8 rfl
  have q9 := HD0.out.cell 9 rfl
  have q10 := HD0.out.cell 10 rfl
  have p0 := HD1.out.cell 0 rfl
  have p1 := HD1.out.cell 1 rfl
  have p2 := HD1.out.cell 2 rfl
  have p3 := HD1.out.cell 3 rfl
  have p4 := HD1.out.cell 4 rfl
  go_wp2_with fail
  refine (bkMoves_any HSh.out R vp vs ve (.slice a n c) l p vc v0 v1 w3 (HR.out.below HL3.out (Nat.le_refl _)) HN.out (HL.out.below HL3.out (Nat.le_refl _)) (HP.out.below HL3.out (Nat.le_refl _))).mono ?_
  rintro e w4 (⟨hbad, rfl, hb4⟩ | ⟨hbm, hpk, v, rfl, ho, hb4⟩)
  · have he' : (bmErr R l p != 0) = true := by simpa using hbad
    have HL4 := Lib.hid (below_trans HL3.out hb4 HL3.out.size)
    clear q0 q1 q2 q3 q4 q5 q6 q7 q8 q9 q10 p0 p1 p2 p3 p4
    clear hbad hb4
    go_wp2_with fail
    go_ret
    exact ⟨rfl, HL4.out⟩
  clear q0 q1 q2 q3 q4 q5 q6 q7 q8 q9 q10 p0 p1 p2 p3 p4
  have HBM := Lib.hid hbm
  have HWE := Lib.hid (ents_wt (key := keyZ p) (ms := listZ R p) (bookErr_ok (bm_book hbm)).2.2)
  have hel := Nat.le_trans (ents_len (keyZ p) (listZ R p) l) (bookErr_ok (bm_book hbm)).1
  have HL4 := Lib.hid (below_trans HL3.out hb4 HL3.out.size)
  have HE0 := Lib.hid (HD0.out.stays hb4)
  have HE1 := Lib.hid (HD1.out.stays hb4)
  have HM := Lib.hid (rdK_of_own ho)
  obtain ⟨E, hE⟩ : ∃ E, entsTo (keyZ p) (listZ R p) l = E := ⟨_, rfl⟩
  have HEE := Lib.hid hE
  rw [hE] at HWE hel HM ho
  clear hE hbm hpk hb4 HD0 HD1 HL3
  by_cases hz : E.length = 0
  · obtain ⟨ae, ce, rfl⟩ := own_form2 ho
    rw [hz]
    clear hz ho
    go_wp2_with fail
    go_ret
    exact ⟨rfl, HL4.out⟩
  obtain ⟨ge, ce, rfl⟩ := own_some ho (by omega)
  have hen : 0 < E.length := by omega
  have hws : w.heap.size + 1 < w4.heap.size := HE1.out.lt
  have hzI : ((E.length : Int) == 0) = false := by rw [beq_eq_false_iff_ne]; omega
  clear ho hz
  go_wp2_with fail
  go_loopw [46, 9, 11, 12, 13, 14, 15] (fun vi vn a1 a2 a3 a4 a5 wr => ∃ (k : Nat) (n : Int), k ≤ E.length ∧ vi = .int .i64 k ∧ vn = .int .i64 n ∧ Hid (n = sumW (E.take k)) ∧ 0 ≤ n ∧ n ≤ 1000000 * k ∧ Hid (Below w4.heap.size w4 wr)) (fun i _ _ _ _ _ _ _ => E.length - (intOf i).toNat)
  case atStart => exact ⟨0, 0, Nat.zero_le _, rfl, rfl, Lib.hid rfl, by omega, by omega, Lib.hid (Below.refl _ _)⟩
  case round =>
    obtain ⟨k, s, hk, rfl, rfl, HNK, hs0, hs1, HBr⟩ := hrel
    have hrs := HBr.out.size
    have HBw := Lib.hid (below_trans HL4.out HBr.out HL4.out.size)
    have HX0 := Lib.hid (HE0.out.stays HBr.out)
    have HX1 := Lib.hid (HE1.out.stays HBr.out)
    by_cases hkl : k < E.length
    · obtain ⟨g, ob, hga, hg, hcc⟩ := bks_some (HM.out.below HBr.out (Nat.le_refl _)) (by omega)
      simp only [Option.some.injEq, Addr.mk.injEq, and_true] at hga
      obtain ⟨rfl, rfl⟩ := hga
      obtain ⟨c0, c1, c2, c3, c4⟩ := hcc k hkl
      rw [Nat.zero_add] at c0 c1 c2 c3 c4
      have hwt : 1 ≤ (E.getD k default).wt ∧ (E.getD k default).wt ≤ 1000000 := HWE.out _ (by rw [List.getD_eq_getElem?_getD, List.getElem?_eq_getElem hkl]; exact List.getElem_mem _)
      have HST : Hid (sumW (E.take (k + 1)) = sumW (E.take k) + (E.getD k default).wt) := Lib.hid (sumW_take E k hkl)
      have HPF := Lib.hid (draw_first HWE.out k hkl)
      have HPL := Lib.hid (draw_last HWE.out k hkl)
      clear hcc
      generalize E.getD k default = y at *
      obtain ⟨hw0, hw1⟩ := hwt
      have HNE : Hid (s + y.wt = sumW (E.take (k + 1))) := Lib.hid (by rw [HST.out, HNK.out])
      rw [← HNK.out] at HPF HPL
      go_upto_region 13 with (fail)
      have HY := Lib.hid (Box.new wr [.int .u64 y.key, .int .i64 y.m.src, .int .i64 y.m.dst, .int .i64 y.m.piece, .int .i64 y.wt] 98)
      have HB2 := Lib.hid (HBr.out.alloc hrs (.cells #[.int .u64 y.key, .int .i64 y.m.src, .int .i64 y.m.dst, .int .i64 y.m.piece, .int .i64 y.wt] 98))
      have HX02 := Lib.hid (HX0.out.alloc (.cells #[.int .u64 y.key, .int .i64 y.m.src, .int .i64 y.m.dst, .int .i64 y.m.piece, .int .i64 y.wt] 98))
      have HX12 := Lib.hid (HX1.out.alloc (.cells #[.int .u64 y.key, .int .i64 y.m.src, .int .i64 y.m.dst, .int .i64 y.m.piece, .int .i64 y.wt] 98))
      obtain ⟨by', hby⟩ : ∃ by', by' = wr.heap.size := ⟨_, rfl⟩
      rw [← hby] at HY ⊢
      clear hby c0 c1 c2 c3 c4 hg HX0 HX1 HBw HST HNK
      generalize (wr.alloc (.cells #[.int .u64 y.key, .int .i64 y.m.src, .int .i64 y.m.dst, .int .i64 y.m.piece, .int .i64 y.wt] 98)) = x1 at *
      have HBw := Lib.hid (below_trans HL4.out HB2.out HL4.out.size)
      have q0 := HX02.out.cell 0 rfl
      have q1 := HX02.out.cell 1 rfl
      have q2 := HX02.out.cell 2 rfl
      have q3 := HX02.out.cell 3 rfl
      have q4 := HX02.out.cell 4 rfl
      have q5 := HX02.out.cell 5 rfl
      have q6 := HX02.out.cell 6 rfl
      have q7 := HX02.out.cell 7 rfl
      have q8 := HX02.out.cell 8 rfl
      have q9 := HX02.out.cell 9 rfl
      have q10 := HX02.out.cell 10 rfl
      have p0 := HX12.out.cell 0 rfl
      have p1 := HX12.out.cell 1 rfl
      have p2 := HX12.out.cell 2 rfl
      have p3 := HX12.out.cell 3 rfl
      have p4 := HX12.out.cell 4 rfl
      go_wp2_with fail
      refine (Choose_ok HSh.out R vp vs ve _ l p vc v0 v1 s y x1 (HR.out.below HBw.out (Nat.le_refl _)) HN.out (HL.out.below HBw.out (Nat.le_refl _)) (HP.out.below HBw.out (Nat.le_refl _)) HBM.out (by rw [HEE.out]; exact hen) hs0 (by omega) (by rw [HEE.out]; exact HPF.out)).mono ?_
      rintro e x2 ⟨rfl, hbx⟩
      clear q0 q1 q2 q3 q4 q5 q6 q7 q8 q9 q10 p0 p1 p2 p3 p4
      have HB3 := Lib.hid (below_trans HB2.out hbx HB2.out.size)
      have HX03 := Lib.hid (HX02.out.stays hbx)
      have HX13 := Lib.hid (HX12.out.stays hbx)
      have HY3 := Lib.hid (HY.out.stays hbx)
      clear hbx HB2 HX02 HX12 HY HBw
      go_upto_region 14 with (fail)
      have HZ := Lib.hid (Box.new x2 [.int .i64 y.m.src, .int .i64 y.m.dst, .int .i64 y.m.piece] 42)
      have HB4 := Lib.hid (HB3.out.alloc HB3.out.size (.cells #[.int .i64 y.m.src, .int .i64 y.m.dst, .int .i64 y.m.piece] 42))
      have HX04 := Lib.hid (HX03.out.alloc (.cells #[.int .i64 y.m.src, .int .i64 y.m.dst, .int .i64 y.m.piece] 42))
      have HX14 := Lib.hid (HX13.out.alloc (.cells #[.int .i64 y.m.src, .int .i64 y.m.dst, .int .i64 y.m.piece] 42))
      have HY4 := Lib.hid (HY3.out.alloc (.cells #[.int .i64 y.m.src, .int .i64 y.m.dst, .int .i64 y.m.piece] 42))
      obtain ⟨bz, hbz⟩ : ∃ bz, bz = x2.heap.size := ⟨_, rfl⟩
      rw [← hbz] at HZ ⊢
      clear hbz HB3 HX03 HX13 HY3
      generalize (x2.alloc (.cells #[.int .i64 y.m.src, .int .i64 y.m.dst, .int .i64 y.m.piece] 42)) = x3 at *
      have HBw := Lib.hid (below_trans HL4.out HB4.out HL4.out.size)
      have q0 := HX04.out.cell 0 rfl
      have q1 := HX04.out.cell 1 rfl
      have q2 := HX04.out.cell 2 rfl
      have q3 := HX04.out.cell 3 rfl
      have q4 := HX04.out.cell 4 rfl
      have q5 := HX04.out.cell 5 rfl
      have q6 := HX04.out.cell 6 rfl
      have q7 := HX04.out.cell 7 rfl
      have q8 := HX04.out.cell 8 rfl
      have q9 := HX04.out.cell 9 rfl
      have q10 := HX04.out.cell 10 rfl
      have p0 := HX14.out.cell 0 rfl
      have p1 := HX14.out.cell 1 rfl
      have p2 := HX14.out.cell 2 rfl
      have p3 := HX14.out.cell 3 rfl
      have p4 := HX14.out.cell 4 rfl
      have y4 := HY4.out.cell 4 rfl
      go_wp2_with fail
      refine (Choose_ok HSh.out R vp vs ve _ l p vc v0 v1 (s + y.wt - 1) y x3 (HR.out.below HBw.out (Nat.le_refl _)) HN.out (HL.out.below HBw.out (Nat.le_refl _)) (HP.out.below HBw.out (Nat.le_refl _)) HBM.out (by rw [HEE.out]; exact hen) (by omega) (by omega) (by rw [HEE.out]; exact HPL.out)).mono ?_
      rintro e x4 ⟨rfl, hbx⟩
      clear q0 q1 q2 q3 q4 q5 q6 q7 q8 q9 q10 p0 p1 p2 p3 p4
      have HB5 := Lib.hid (below_trans HB4.out hbx HB4.out.size)
      have HY5 := Lib.hid (HY4.out.stays hbx)
      have HZ5 := Lib.hid (HZ.out.stays hbx)
      clear hbx HB4 HX04 HX14 HY4 HZ HBw y4
      go_upto_region 15 with (fail)
      have HV := Lib.hid (Box.new x4 [.int .i64 y.m.src, .int .i64 y.m.dst, .int .i64 y.m.piece] 42)
      have HB6 := Lib.hid (HB5.out.alloc HB5.out.size (.cells #[.int .i64 y.m.src, .int .i64 y.m.dst, .int .i64 y.m.piece] 42))
      have HY6 := Lib.hid (HY5.out.alloc (.cells #[.int .i64 y.m.src, .int .i64 y.m.dst, .int .i64 y.m.piece] 42))
      have HZ6 := Lib.hid (HZ5.out.alloc (.cells #[.int .i64 y.m.src, .int .i64 y.m.dst, .int .i64 y.m.piece] 42))
      obtain ⟨bv, hbv⟩ : ∃ bv, bv = x4.heap.size := ⟨_, rfl⟩
      rw [← hbv] at HV ⊢
      clear hbv HB5 HY5 HZ5
      generalize (x4.alloc (.cells #[.int .i64 y.m.src, .int .i64 y.m.dst, .int .i64 y.m.piece] 42)) = x5 at *
      have y0 := HY6.out.cell 0 rfl
      have y1 := HY6.out.cell 1 rfl
      have y2 := HY6.out.cell 2 rfl
      have y3 := HY6.out.cell 3 rfl
      have y4 := HY6.out.cell 4 rfl
      have z0 := HZ6.out.cell 0 rfl
      have z1 := HZ6.out.cell 1 rfl
      have z2 := HZ6.out.cell 2 rfl
      have u0 := HV.out.cell 0 rfl
      have u1 := HV.out.cell 1 rfl
      have u2 := HV.out.cell 2 rfl
      have hneq := neqM y.m y.m
      rw [show decide (y.m = y.m) = true by simp] at hneq
      go_wp2_with fail
      go_roundw
      case rel => exact ⟨k + 1, s + y.wt, by omega, by go_num, rfl, HNE, by omega, by omega, HB6⟩
      case measure => simp [intOf]; omega
    · obtain rfl : k = E.length := by omega
      have HPA := Lib.hid (draw_again HWE.out hen)
      have HSE : Hid (s = sumW E) := Lib.hid (by rw [HNK.out, List.take_of_length_le (Nat.le_refl _)])
      rw [← HSE.out] at HPA
      obtain ⟨y, hy⟩ : ∃ y, E.getD 0 default = y := ⟨_, rfl⟩
      have HYE := Lib.hid hy
      rw [hy] at HPA
      clear hy
      have hs2 : 0 < s := by have := (sumW_bound E HWE.out).1; have := HSE.out; omega
      have q0 := HX0.out.cell 0 rfl
      have q1 := HX0.out.cell 1 rfl
      have q2 := HX0.out.cell 2 rfl
      have q3 := HX0.out.cell 3 rfl
      have q4 := HX0.out.cell 4 rfl
      have q5 := HX0.out.cell 5 rfl
      have q6 := HX0.out.cell 6 rfl
      have q7 := HX0.out.cell 7 rfl
      have q8 := HX0.out.cell 8 rfl
      have q9 := HX0.out.cell 9 rfl
      have q10 := HX0.out.cell 10 rfl
      have p0 := HX1.out.cell 0 rfl
      have p1 := HX1.out.cell 1 rfl
      have p2 := HX1.out.cell 2 rfl
      have p3 := HX1.out.cell 3 rfl
      have p4 := HX1.out.cell 4 rfl
      go_wp2_with fail
      refine (Choose_ok HSh.out R vp vs ve _ l p vc v0 v1 s y wr (HR.out.below HBw.out (Nat.le_refl _)) HN.out (HL.out.below HBw.out (Nat.le_refl _)) (HP.out.below HBw.out (Nat.le_refl _)) HBM.out (by rw [HEE.out]; exact hen) hs0 (by omega) (by rw [HEE.out, ← HSE.out]; exact HPA.out)).mono ?_
      rintro e x2 ⟨rfl, hbx⟩
      clear q0 q1 q2 q3 q4 q5 q6 q7 q8 q9 q10 p0 p1 p2 p3 p4
      have HB3 := Lib.hid (below_trans HBr.out hbx HBr.out.size)
      clear hbx HX0 HX1
      go_upto_region 20 with (fail)
      have HZ := Lib.hid (Box.new x2 [.int .i64 y.m.src, .int .i64 y.m.dst, .int .i64 y.m.piece] 42)
      have HB4 := Lib.hid (HB3.out.alloc HB3.out.size (.cells #[.int .i64 y.m.src, .int .i64 y.m.dst, .int .i64 y.m.piece] 42))
      obtain ⟨bz, hbz⟩ : ∃ bz, bz = x2.heap.size := ⟨_, rfl⟩
      rw [← hbz] at HZ ⊢
      clear hbz HB3
      generalize (x2.alloc (.cells #[.int .i64 y.m.src, .int .i64 y.m.dst, .int .i64 y.m.piece] 42)) = x3 at *
      obtain ⟨g, ob, hga, hg, hcc⟩ := bks_some (HM.out.below HB4.out (Nat.le_refl _)) (by omega)
      simp only [Option.some.injEq, Addr.mk.injEq, and_true] at hga
      obtain ⟨rfl, rfl⟩ := hga
      obtain ⟨c0, c1, c2, c3, c4⟩ := hcc 0 hen
      rw [HYE.out] at c0 c1 c2 c3 c4
      simp only [Nat.zero_add, Nat.zero_mul] at c0 c1 c2 c3 c4
      have z0 := HZ.out.cell 0 rfl
      have z1 := HZ.out.cell 1 rfl
      have z2 := HZ.out.cell 2 rfl
      clear hcc
      have HB5 := Lib.hid (below_trans HL4.out HB4.out HL4.out.size)
      have heql := eqlM y.m y.m
      rw [show decide (y.m = y.m) = true by simp] at heql
      go_quiet (fail)
      go_wp2_with fail
      go_ret
      exact ⟨rfl, below_drewN HB5.out _⟩

end Go.Proofs.Ytkfaibdflbdpgaa.bookDraws

/- AnnotateCutBackW, Frame, OpenR, OpenM, OpenP, OpenV, OpenRec. -/
import Derived.Test.YtnieifdogllbfaaGreatE27
import Derived.Test.YtnieifdogllbfaaGreatE28
import Derived.BigQuiet
import Derived.Deep.Cut
import Derived.Deep.CutRange
import Derived.Deep.QuietTactic
import Derived.WalkKit
import Derived.ProofKit
import Derived.OpenShut
import Derived.Carry
import Derived.Deep.Slices
import Derived.Test.YtnieifdogllbfaaGreatC01
import Derived.Deep.Fields
import Derived.Test.YtnieifdogllbfaaGreatE18
namespace Go.Proofs.YtnieifdogllbfaaGreat.annotateCutBack
open Go.ChangeShapes Go.WideShapes Go.ChangeAt Go.RowKit
set_option linter.unusedVariables false
theorem cut_merged {R : RulesZ} {X : RecZ} {nd : Nat} {w w' : World} {e : Ending} (hx : recErr R X = 0) (h : MergedPost R (withX X (cutT X nd)) X w e w') : Below w.heap.size w w' ∧ ∃ A vt vn E, e = .returned (.tuple #[recV A vt vn, .int .i64 E]) ∧ RdX w' A vt vn ∧ ((E = 0 ∧ A.nodes.length = X.nodes.length) ∨ E = 2) := by
 obtain ⟨-, c1, c2, c3, -⟩ := rec_cmt hx
 have hY : recErr R (withX X (cutT X nd)) = 0 ∨ recErr R (withX X (cutT X nd)) = 2 := rec_err (X := withX X (cutT X nd)) (cut_ok hx nd) (rec_nodes hx).1 c1 c2 c3 rfl
 obtain ⟨hb, h⟩ := h
 refine ⟨hb, ?_⟩
 rcases hY with hY | hY
 ·obtain ⟨-, A, vt, vn, E, h1, h2, h3⟩ := merged_one hY hx ⟨hb, h⟩
  refine ⟨A, vt, vn, E, h1, h2, ?_⟩
  rcases h3 with ⟨h3, rfl⟩ | h3
  ·exact .inl ⟨h3, cut_back (Y := withX X (cutT X nd)) hx nd hY rfl⟩
  ·exact .inr h3
 ·have hm : mergeE R (withX X (cutT X nd)) X = 2 := by unfold mergeE; rw [if_pos (by rw [hY]; decide)]; exact hY
  rcases h with ⟨E, hE, h0, rfl⟩ | ⟨hE, -⟩
  ·exact ⟨⟨[], ⟨#[]⟩, [], 0⟩, .slice none 0 0, .slice none 0 0, E, rfl, ⟨RdL.nil _ _, RdL.nil _ _, by decide⟩, .inr (hE.trans hm)⟩
  ·rw [hm] at hE; cases hE
set_option maxRecDepth 100000 in
set_option maxHeartbeats 8000000 in
theorem walk (HS : SortMvSaid) (R : RulesZ) (vp vs ve : Value) (X : RecZ) (vt vn : Value) (nd : Int) (w : World) (hr : RdR w R vp vs ve) (hnm : R.name.size ≤ maxLen) (hx : RdX w X vt vn) :
  Calls Tryz.prog 5 #[(.agg #[.string R.name, .int .i64 R.width, .int .i64 R.height, vp, vs, .bool R.falls, .bool R.keeps, ve, .int .i64 R.blocked, .int .i64 R.quiet, .int .i64 R.rept]), recV X vt vn, .int .i64 nd] w fun e w' => e = .returned (.bool true) ∧ Below w.heap.size w w' := by
 have HSh := Lib.hid HS
 have HR := Lib.hid hr
 have HN := Lib.hid hnm
 obtain ⟨na, nc, rfl, hn1, hn2⟩ := hx.2.1.form
 obtain ⟨ta, tc, rfl, ht1, ht2⟩ := hx.1.form
 unfold maxLen at hn2 ht2
 have HX := Lib.hid hx
 clear hx HS hr hnm
 unfold recV
 go_enter Tryz.func5, Tryz.ntmps5
 go_upto_region 1 with (fail)
 refine opn2 ?_
 intro w0 xbR xbX hB0 hS0
 have HB := Lib.hid hB0
 obtain ⟨bX, hbX⟩ : ∃ bX, bX = w.heap.size + 1 := ⟨_, rfl⟩
 rw [← hbX] at xbX ⊢
 obtain ⟨bR, hbR⟩ : ∃ bR, bR = w.heap.size := ⟨_, rfl⟩
 rw [← hbR] at xbR ⊢
 have hbR1 : w.heap.size ≤ bR := by omega
 have HbR := Lib.hid xbR
 have hbX1 : w.heap.size ≤ bX := by omega
 have hbRbX : bR < bX := by omega
 have HbX := Lib.hid xbX
 have hS : bX < w0.heap.size := by omega
 clear hB0 hS0 xbR hbR xbX hbX
 have HR0 := HbR
 have HY0 := HbX
 clear HbR HbX
 go_wp2_with fail
 refine (annotates_any HSh.out w0).mono ?_
 rintro e w1 ⟨rfl, hb1⟩
 have HB1 := Lib.hid (below_trans HB.out hb1 HB.out.size)
 have HR1 := Lib.hid (HR0.out.stays hb1)
 have HY1 := Lib.hid (HY0.out.stays hb1)
 clear hb1 HR0 HY0 HB hS
 go_upto_region 3 with (fail)
 refine wp_region_lit ?_
 refine wpList_load_box (by rfl) 30 (.tmp 4) (by rfl) bX (by rfl) HY1.out Tryz.underlying30 (by rfl) (by kernel_rfl) ?_
 go_wp2_with fail
 have HC := Lib.hid (short_any X (.slice ta X.tags.length tc) (.slice na X.nodes.length nc) w1 (HX.out.below HB1.out (Nat.le_refl _)))
 unfold recV at HC
 refine HC.out.mono ?_
 rintro e w2 ⟨hb2, a, n, c, Y, hYe, rfl, rfl, hY⟩
 have HB2 := Lib.hid (below_trans HB1.out hb2 HB1.out.size)
 have HR2 := Lib.hid (HR1.out.stays hb2)
 have HY2 := Lib.hid (HY1.out.stays hb2)
 have HY : Hid (RdX w Y (.slice ta Y.tags.length tc) (.slice a Y.nodes.length c)) := Lib.hid (by have := hY w HX.out; rw [hYe] at this ⊢; exact this)
 have hyt : X.tags.length = Y.tags.length := by rw [hYe]; rfl
 rw [hyt]
 have HYT := Lib.hid hyt
 have HYe := Lib.hid hYe
 have hz2 := HY2.out.lt
 clear hb2 HR1 HY1 HB1 HC hY hyt hYe
 go_upto_region 4 with (refine wpList_store_box (vs := [.slice ta Y.tags.length tc, .string Y.comment, .slice a Y.nodes.length c, .int .i64 Y.result]) (by rfl) 30 (.tmp 4) (.tmp 14) (by rfl) bX (by rfl) (by rfl) HY2.out rfl (by kernel_rfl) (by rfl) ?_)
 have HY3 := Lib.hid (HY2.out.store (vs := [.slice ta Y.tags.length tc, .string Y.comment, .slice a Y.nodes.length c, .int .i64 Y.result]) rfl)
 have HR3 := Lib.hid (HR2.out.farAll (b' := bX) (by omega) 0 [.slice ta Y.tags.length tc, .string Y.comment, .slice a Y.nodes.length c, .int .i64 Y.result])
 have HB3 := Lib.hid (below_setCells HB2.out (b := bX) hbX1 0 [.slice ta Y.tags.length tc, .string Y.comment, .slice a Y.nodes.length c, .int .i64 Y.result])
 generalize w2.setCells bX 0 [.slice ta Y.tags.length tc, .string Y.comment, .slice a Y.nodes.length c, .int .i64 Y.result] = w3 at *
 clear HY2 HR2 HB2 hz2
 obtain ⟨hy1, hy2⟩ : Y.nodes.length ≤ c ∧ c ≤ 9223372036854775807 := by obtain ⟨_, _, e, h1, h2⟩ := HY.out.2.1.form; unfold maxLen at h2; cases e; omega
 obtain ⟨hy3, hy4⟩ : Y.tags.length ≤ tc ∧ tc ≤ 9223372036854775807 := by obtain ⟨_, _, e, h1, h2⟩ := HY.out.1.form; unfold maxLen at h2; cases e; omega
 have q0 := HR3.out.cell 0 rfl; have q1 := HR3.out.cell 1 rfl; have q2 := HR3.out.cell 2 rfl; have q3 := HR3.out.cell 3 rfl; have q4 := HR3.out.cell 4 rfl; have q5 := HR3.out.cell 5 rfl; have q6 := HR3.out.cell 6 rfl; have q7 := HR3.out.cell 7 rfl; have q8 := HR3.out.cell 8 rfl; have q9 := HR3.out.cell 9 rfl; have q10 := HR3.out.cell 10 rfl
 go_wp2_with fail
 refine (great_anyG R vp vs ve w3 (HR.out.2.1.below HB3.out (Nat.le_refl _))).mono ?_
 rintro e w4 ⟨rfl, hb4⟩
 have HB4 := Lib.hid (below_trans HB3.out hb4 HB3.out.size)
 have HR4 := Lib.hid (HR3.out.stays hb4)
 have HY4 := Lib.hid (HY3.out.stays hb4)
 clear hb4 HR3 HY3 HB3 q0 q1 q2 q3 q4 q5 q6 q7 q8 q9 q10
 generalize decide (20 < (R.start.length : Int)) = gr at *
 cases gr
 rotate_left
 ·go_wp2_with fail
  go_ret
  exact ⟨rfl, HB4.out⟩
 have q0 := HR4.out.cell 0 rfl; have q1 := HR4.out.cell 1 rfl; have q2 := HR4.out.cell 2 rfl; have q3 := HR4.out.cell 3 rfl; have q4 := HR4.out.cell 4 rfl; have q5 := HR4.out.cell 5 rfl; have q6 := HR4.out.cell 6 rfl; have q7 := HR4.out.cell 7 rfl; have q8 := HR4.out.cell 8 rfl; have q9 := HR4.out.cell 9 rfl; have q10 := HR4.out.cell 10 rfl; have p0 := HY4.out.cell 0 rfl; have p1 := HY4.out.cell 1 rfl; have p2 := HY4.out.cell 2 rfl; have p3 := HY4.out.cell 3 rfl
 have HK := Lib.hid (recCheck_any HSh.out R vp vs ve Y (.slice ta Y.tags.length tc) (.slice a Y.nodes.length c) w4 (HR.out.below HB4.out (Nat.le_refl _)) HN.out (HY.out.below HB4.out (Nat.le_refl _)))
 unfold recV at HK
 go_wp2_with fail
 refine HK.out.mono ?_
 clear HK
 rintro e w5 ⟨rfl, hb5⟩
 have HB5 := Lib.hid (below_trans HB4.out hb5 HB4.out.size)
 have HR5 := Lib.hid (HR4.out.stays hb5)
 have HY5 := Lib.hid (HY4.out.stays hb5)
 clear hb5 HR4 HY4 HB4 q0 q1 q2 q3 q4 q5 q6 q7 q8 q9 q10 p0 p1 p2 p3
 by_cases he : recErr R Y = 0
 rotate_left
 ·have heb : (recErr R Y != 0) = true := by simpa using he
  clear he
  go_wp2_with fail
  go_ret
  exact ⟨rfl, HB5.out⟩
 have HE := Lib.hid he
 rw [he]
 clear he
 have p2 := HY5.out.cell 2 rfl
 by_cases hn : nd < 0
 ·go_wp2_with fail
  go_ret
  exact ⟨rfl, HB5.out⟩
 obtain ⟨k, rfl⟩ : ∃ k : Nat, nd = (k : Int) := ⟨nd.toNat, by omega⟩
 by_cases hk : (Y.nodes.length : Int) ≤ (k : Int)
 ·go_wp2_with fail
  go_ret
  exact ⟨rfl, HB5.out⟩
 have hkl : k < Y.nodes.length := by omega
 go_upto_region 6 with (fail)
 refine wp_region_lit ?_
 refine wpList_load_box (by rfl) 26 (.tmp 3) (by rfl) bR (by rfl) HR5.out Tryz.underlying26 (by rfl) (by kernel_rfl) ?_
 refine wpList_load_box (by rfl) 30 (.tmp 4) (by rfl) bX (by rfl) HY5.out Tryz.underlying30 (by rfl) (by kernel_rfl) ?_
 have HCu := Lib.hid (Cut_any HSh.out R vp vs ve Y (.slice ta Y.tags.length tc) (.slice a Y.nodes.length c) k w5 (HR.out.below HB5.out (Nat.le_refl _)) HN.out (HY.out.below HB5.out (Nat.le_refl _)) HE.out hkl)
 unfold recV at HCu
 clear p2
 go_wp2_with fail
 refine HCu.out.mono ?_
 clear HCu
 rintro e w6 ⟨hb6, vt6, vn6, rfl, hx6⟩
 have hcl := cut_less HE.out k hkl
 obtain ⟨C, hC⟩ : ∃ C, C = withX Y (cutT Y k) := ⟨_, rfl⟩
 have hcl2 : C.nodes.length < Y.nodes.length := by rw [hC]; exact hcl
 have hct : Y.tags.length = C.tags.length := by rw [hC]; rfl
 rw [← hC] at hx6 ⊢
 have HC := Lib.hid hC
 have HCT := Lib.hid hct
 clear hC hcl hct
 obtain ⟨tya, tyc, rfl, hty1, hty2⟩ := hx6.1.form
 obtain ⟨nya, nyc, rfl, hny1, hny2⟩ := hx6.2.1.form
 unfold maxLen at hty2 hny2
 have HX6 := Lib.hid hx6
 have HB6 := Lib.hid (below_trans HB5.out hb6 HB5.out.size)
 have HY6 := Lib.hid (HY5.out.stays hb6)
 have HR6 := Lib.hid (HR5.out.stays hb6)
 clear hb6 HR5 HY5 HB5 hx6
 rw [show recV C (.slice tya C.tags.length tyc) (.slice nya C.nodes.length nyc) = .agg #[.slice tya C.tags.length tyc, .string C.comment, .slice nya C.nodes.length nyc, .int .i64 C.result] from rfl]
 go_upto_region 7 with (fail)
 have hba : Below w6.heap.size w6 (w6.alloc (.cells #[.slice tya C.tags.length tyc, .string C.comment, .slice nya C.nodes.length nyc, .int .i64 C.result] 30)) := (Below.refl _ _).alloc (Nat.le_refl _) _
 have HZ7 := Lib.hid (Box.new w6 [.slice tya C.tags.length tyc, .string C.comment, .slice nya C.nodes.length nyc, .int .i64 C.result] 30)
 obtain ⟨bz, hbz⟩ : ∃ bz, bz = w6.heap.size := ⟨_, rfl⟩
 rw [← hbz] at HZ7 ⊢
 have HB7 := Lib.hid (below_trans HB6.out hba HB6.out.size)
 have HY7 := Lib.hid (HY6.out.stays hba)
 have HR7 := Lib.hid (HR6.out.stays hba)
 have HX7 := Lib.hid (HX6.out.below hba (Nat.le_refl _))
 generalize (w6.alloc (.cells #[.slice tya C.tags.length tyc, .string C.comment, .slice nya C.nodes.length nyc, .int .i64 C.result] 30)) = w7 at *
 clear hba hbz HB6 HY6 HX6 HR6
 refine wp_region_lit ?_
 refine wpList_load_box (by rfl) 26 (.tmp 3) (by rfl) bR (by rfl) HR7.out Tryz.underlying26 (by rfl) (by kernel_rfl) ?_
 refine wpList_load_box (by rfl) 30 (.tmp 7) (by rfl) bz (by rfl) HZ7.out Tryz.underlying30 (by rfl) (by kernel_rfl) ?_
 refine wpList_load_box (by rfl) 30 (.tmp 4) (by rfl) bX (by rfl) HY7.out Tryz.underlying30 (by rfl) (by kernel_rfl) ?_
 have HMg := Lib.hid (Merge_any HSh.out R vp vs ve C Y (.slice tya C.tags.length tyc) (.slice nya C.nodes.length nyc) (.slice ta Y.tags.length tc) (.slice a Y.nodes.length c) w7 (HR.out.below HB7.out (Nat.le_refl _)) HN.out HX7.out (HY.out.below HB7.out (Nat.le_refl _)) (fun t ht => by rw [HC.out]; exact List.any_eq_true.2 ⟨t, ht, by simp⟩))
 unfold recV at HMg
 go_wp2_with fail
 refine HMg.out.mono ?_
 clear HMg
 rintro e w8 hres
 rw [HC.out] at hres
 obtain ⟨hb8, A, vt8, vn8, E, rfl, hx8, hE8⟩ := cut_merged HE.out hres
 obtain ⟨tza, tzc, rfl, htz1, htz2⟩ := hx8.1.form
 obtain ⟨nza, nzc, rfl, hnz1, hnz2⟩ := hx8.2.1.form
 unfold maxLen at htz2 hnz2
 have HE8 := Lib.hid hE8
 have HB8 := Lib.hid (below_trans HB7.out hb8 HB7.out.size)
 have HY8 := Lib.hid (HY7.out.stays hb8)
 have HZ8 := Lib.hid (HZ7.out.stays hb8)
 clear hb8 hx8 hE8 hres HR7 HY7 HZ7 HB7 HX7
 rw [show recV A (.slice tza A.tags.length tzc) (.slice nza A.nodes.length nzc) = .agg #[.slice tza A.tags.length tzc, .string A.comment, .slice nza A.nodes.length nzc, .int .i64 A.result] from rfl]
 go_upto_region 8 with (fail)
 have hba : Below w8.heap.size w8 (w8.alloc (.cells #[.slice tza A.tags.length tzc, .string A.comment, .slice nza A.nodes.length nzc, .int .i64 A.result] 30)) := (Below.refl _ _).alloc (Nat.le_refl _) _
 have HA9 := Lib.hid (Box.new w8 [.slice tza A.tags.length tzc, .string A.comment, .slice nza A.nodes.length nzc, .int .i64 A.result] 30)
 obtain ⟨bv, hbv⟩ : ∃ bv, bv = w8.heap.size := ⟨_, rfl⟩
 rw [← hbv] at HA9 ⊢
 have HB9 := Lib.hid (below_trans HB8.out hba HB8.out.size)
 have HY9 := Lib.hid (HY8.out.stays hba)
 have HZ9 := Lib.hid (HZ8.out.stays hba)
 generalize (w8.alloc (.cells #[.slice tza A.tags.length tzc, .string A.comment, .slice nza A.nodes.length nzc, .int .i64 A.result] 30)) = w9 at *
 clear hba hbv HB8 HY8 HZ8
 have z2 := HZ9.out.cell 2 rfl
 have zl := HZ9.out.lt
 have y2 := HY9.out.cell 2 rfl
 have yl := HY9.out.lt
 have a2 := HA9.out.cell 2 rfl
 have al := HA9.out.lt
 have hci : ¬ ((Y.nodes.length : Int) ≤ (C.nodes.length : Int)) := by omega
 rcases HE8.out with ⟨rfl, hl⟩ | rfl
 ·rw [hl] at a2
  clear hl
  go_wp2_with fail
  all_goals go_ret
  all_goals exact ⟨rfl, HB9.out⟩
 ·go_wp2_with fail
  all_goals go_ret
  all_goals exact ⟨rfl, HB9.out⟩
end Go.Proofs.YtnieifdogllbfaaGreat.annotateCutBack
namespace Go.Proofs.YtnieifdogllbfaaGreat
open Go.ChangeShapes Go.WideShapes Go.ChangeAt Go.RowKit
section
variable {H : Type} {enc : TypeId × Value → H} {P : Program} {W W' : World}
theorem trodAll_stays (hl : laidOutB P = true) (hb : Below W.heap.size W W') : ∀ {ts : List TypeId} {vs : List Value} {ds : List (DataW H)} {ps : List MemPlace},
  (ts.all fun t => P.readableRec t && decide (t < P.types.size)) = true → DataW.TrodAll enc P W 0 (fun _ => true) true ts vs ds ps →
  DataW.TrodAll enc P W' 0 (fun b => decide (b < W.heap.size)) true ts vs ds ps
 | [], [], [], _, _, h => h
 | t :: ts, v :: vs, d :: ds, ps, ht, ⟨p, q, h1, h2, e⟩ => by
  simp only [List.all_cons, Bool.and_eq_true, decide_eq_true_eq] at ht
  exact ⟨p, q, Below.trod hl ht.1.1 ht.1.2 h1 hb (by obtain ⟨m, hm⟩ := h1; exact DataW.trod_lt m _ _ _ hm), trodAll_stays hl hb ht.2 h2, e⟩
variable {r : Reach} {base : Nat} {t u : TypeId} {v : Value} {w : World}
theorem cell_slice {e : TypeId} (hu : P.underlying u = some (.slice e)) (h : Cell.okWide P w r base u v) : ∃ a len cap, v = .slice a len cap := by
 cases v <;> simp_all [Cell.okWide, Cell.ok]
/-- a struct by value: its cells, each of its own type. -/
theorem okWide_cells {fs : Array Field} {ts : List TypeId} (hs : P.underlying t = some (.struct fs)) (hts : P.cellTypes P.depth t = some ts) (hn : P.cellsOf t = ts.length)
  (h : Value.okWide P w r base t v) : ∃ cs : List Value, v = .agg cs.toArray ∧ cs.length = ts.length ∧ ∀ (i : Nat) (x : Value), cs[i]? = some x → ∃ u, ts[i]? = some u ∧ Cell.okWide P w r base u x := by
 simp only [Value.okWide, hs] at h
 obtain ⟨cs, rfl, hsz, ts', hts', _, hc⟩ := h
 rw [hts] at hts'
 cases hts'
 refine ⟨cs.toList, by simp, by simpa [hn] using hsz, fun i x hi => ?_⟩
 have hi' : cs[i]? = some x := by simpa using hi
 obtain ⟨u, hu, hx⟩ := hc i x hi'
 have hlt : i < ts.length := by
  have := (Array.getElem?_eq_some_iff.1 hi').1
  omega
 rw [Nat.mod_eq_of_lt hlt] at hu
 exact ⟨u, hu, hx⟩
end
end Go.Proofs.YtnieifdogllbfaaGreat
namespace Go.Proofs.YtnieifdogllbfaaGreat
open Go.ChangeShapes Go.WideShapes Go.ChangeAt Go.RowKit Go.Deep
set_option linter.unusedVariables false
set_option maxRecDepth 100000
section
variable {H : Type} {enc : TypeId × Value → H} {P : Program} {w : World}
theorem block_lt' {w : World} {p : Addr} {v : Value} (h : w.cell? p = some v) : p.block < w.heap.size := by
 rcases Nat.lt_or_ge p.block w.heap.size with hlt | hge
 ·exact hlt
 ·simp [World.cell?, Array.getElem?_eq_none hge] at h
theorem add_none' (b off n : Nat) : (⟨b, off, none⟩ : Addr).add n = ⟨b, off + n, none⟩ := by
 unfold Addr.add; split
 ·rename_i h; subst h; rfl
 ·rfl
/-- a slice whose elements are opened by hel. -/
theorem open_list {α : Type} (el : El α) {t e : TypeId} (hu : P.underlying t = some (.slice e)) (hC : P.cellsOf e = el.k) (hk : 0 < el.k)
  (hel : ∀ fuel cs y, DataW.trod enc P w 0 (fun _ => true) true fuel e cs = some y → ∃ x, el.E w x cs)
  {fuel : Nat} {cs : List Value} {y : DataW H × List MemPlace} (h : DataW.trod enc P w 0 (fun _ => true) true fuel t cs = some y) : ∃ v xs, cs = [v] ∧ RdL el w v xs := by
 rcases open_slice hu h with ⟨rfl, _⟩ | ⟨a, len, cap, m, n, D, Pl, rfl, hb, hl, hm, hmm, hx, hi⟩
 ·exact ⟨_, [], rfl, RdL.nil el w⟩
 ·simp only [if_true] at hmm
  obtain rfl : cap = m := hmm.symm
  by_cases h0 : len = 0
  ·subst h0
   exact ⟨_, [], rfl, .inl ⟨_, _, rfl, hm, rfl⟩⟩
  ·have hall : ∀ i : Fin len, ∃ x : α, ∃ cs', w.cells? 0 (a.add (i.1 * el.k)) el.k = some cs' ∧ el.E w x cs' := fun i => by
    obtain ⟨cs', h1, h2⟩ := hi i.1 (by omega)
    rw [hC] at h1
    obtain ⟨x, hx⟩ := hel _ _ _ h2
    exact ⟨x, cs', h1, hx⟩
   have hspot : a.spot = none ∧ a.block < w.heap.size := by
    obtain ⟨x, cs', h1, h2⟩ := hall ⟨0, by omega⟩
    have h3 := (World.cells?_some h1).2.2 0 hk
    have hl' := el.len h2
    rw [List.getElem?_eq_getElem (by omega)] at h3
    have h4 : w.cell? a = some cs'[0] := by simpa [Addr.add] using h3
    exact ⟨World.cell?_spot h4, block_lt' h4⟩
   obtain ⟨g, o, s⟩ := a
   obtain ⟨rfl, hg⟩ := hspot
   simp only at hg
   refine ⟨_, List.ofFn fun i => Classical.choose (hall i), rfl, .inr ⟨g, o, cap, by simp, by simpa using hl, hm, hg, fun i hi' => ?_⟩⟩
   have hi2 : i < len := by simpa using hi'
   obtain ⟨cs', h1, h2⟩ := Classical.choose_spec (hall ⟨i, hi2⟩)
   refine ⟨cs', by simpa using h2, fun j hj => ?_⟩
   have := (World.cells?_some h1).2.2 j hj
   rw [add_none', add_none'] at this
   exact this
theorem trod_flat {base : Nat} {spare : Nat → Bool} {held : Bool} {t : TypeId} {fs : Array Field} {fuel : Nat} {cs : List Value} {x : DataW H × List MemPlace} (ht : P.underlying t = some (.struct fs)) (h1 : oneCellFields P fs = true)
  (h : DataW.trod enc P w base spare held fuel t cs = some x) : ∃ (xs : List (DataW H × List MemPlace)) (n : Nat), cs.length = P.cellsOf t ∧ xs.length = fs.size ∧ ∀ (i : Nat) (f : Field), fs[i]? = some f → DataW.trod enc P w base spare held n f.type ((cs.drop i).take 1) = xs[i]? := by
 obtain ⟨xs, n, _, _, hl, hx, hf⟩ := DataW.trod_struct ht h
 refine ⟨xs, n, hl, hx, fun i f hi => ?_⟩
 obtain ⟨o, q⟩ := hone_of h1 i f hi
 have := hf i f hi
 rw [o, q] at this
 exact this
theorem four_cells {cs : List Value} (h : cs.length = 4) : ∃ a b c d, cs = [a, b, c, d] := by
 match cs, h with
 | [a, b, c, d], _ => exact ⟨a, b, c, d, rfl⟩
theorem three_cells {cs : List Value} (h : cs.length = 3) : ∃ a b c, cs = [a, b, c] := by
 match cs, h with
 | [a, b, c], _ => exact ⟨a, b, c, rfl⟩
theorem open_way (fuel : Nat) (cs : List Value) (y : DataW H × List MemPlace) (h : DataW.trod enc Tryz.prog w 0 (fun _ => true) true fuel 113 cs = some y) : ∃ x, wayEl.E w x cs := by
 obtain ⟨xs, n, hlen, hxl, hf⟩ := trod_flat Tryz.underlying113 (by kernel_rfl) h
 obtain ⟨a, b, c, d, rfl⟩ := four_cells (hlen.trans (by kernel_rfl))
 have hx : xs.length = 4 := hxl
 obtain ⟨y0, y1, y2, y3, rfl⟩ : ∃ a b c d, xs = [a, b, c, d] := by
  match xs, hx with
  | [a, b, c, d], _ => exact ⟨a, b, c, d, rfl⟩
 have f0 := hf 0 _ rfl
 have f1 := hf 1 _ rfl
 have f2 := hf 2 _ rfl
 have f3 := hf 3 _ rfl
 obtain ⟨n0, e0, -, -⟩ := DataW.trod_int Tryz.underlying3 f0
 obtain ⟨n1, e1, -, -⟩ := DataW.trod_int Tryz.underlying3 f1
 obtain ⟨n2, e2, -, -⟩ := DataW.trod_int Tryz.underlying3 f2
 obtain ⟨n3, e3, -, -⟩ := DataW.trod_int Tryz.underlying3 f3
 simp at e0 e1 e2 e3
 subst e0 e1 e2 e3
 exact ⟨⟨n0, n1, n2, n3⟩, rfl⟩
theorem open_piece (fuel : Nat) (cs : List Value) (y : DataW H × List MemPlace) (h : DataW.trod enc Tryz.prog w 0 (fun _ => true) true fuel 84 cs = some y) : ∃ x, pieceEl.E w x cs := by
 obtain ⟨xs, n, hlen, hxl, hf⟩ := trod_flat Tryz.underlying84 (by kernel_rfl) h
 obtain ⟨a, b, c, d, rfl⟩ := four_cells (hlen.trans (by kernel_rfl))
 have hx : xs.length = 4 := hxl
 obtain ⟨y0, y1, y2, y3, rfl⟩ : ∃ a b c d, xs = [a, b, c, d] := by
  match xs, hx with
  | [a, b, c, d], _ => exact ⟨a, b, c, d, rfl⟩
 have f0 := hf 0 _ rfl
 have f1 := hf 1 _ rfl
 have f2 := hf 2 _ rfl
 have f3 := hf 3 _ rfl
 obtain ⟨n0, e0, -, -⟩ := DataW.trod_int Tryz.underlying5 f0
 obtain ⟨n1, e1, -, -⟩ := DataW.trod_int Tryz.underlying3 f1
 obtain ⟨n2, e2, -, -⟩ := DataW.trod_int Tryz.underlying3 f2
 obtain ⟨v, ws, e3, hr⟩ := open_list wayEl Tryz.underlying82 (by kernel_rfl) (by decide) (open_way (enc := enc) (w := w)) f3
 simp at e0 e1 e2 e3
 subst e0 e1 e2 e3
 exact ⟨⟨n0, n1, n2, ws⟩, d, rfl, hr⟩
theorem open_end (fuel : Nat) (cs : List Value) (y : DataW H × List MemPlace) (h : DataW.trod enc Tryz.prog w 0 (fun _ => true) true fuel 86 cs = some y) : ∃ x, endEl.E w x cs := by
 obtain ⟨xs, n, hlen, hxl, hf⟩ := trod_flat Tryz.underlying86 (by kernel_rfl) h
 obtain ⟨a, b, c, d, rfl⟩ := four_cells (hlen.trans (by kernel_rfl))
 have hx : xs.length = 4 := hxl
 obtain ⟨y0, y1, y2, y3, rfl⟩ : ∃ a b c d, xs = [a, b, c, d] := by
  match xs, hx with
  | [a, b, c, d], _ => exact ⟨a, b, c, d, rfl⟩
 have f0 := hf 0 _ rfl
 have f1 := hf 1 _ rfl
 have f2 := hf 2 _ rfl
 have f3 := hf 3 _ rfl
 obtain ⟨n0, e0, -, -⟩ := DataW.trod_int Tryz.underlying3 f0
 obtain ⟨n1, e1, -, -⟩ := DataW.trod_int Tryz.underlying3 f1
 obtain ⟨n2, e2, -, -⟩ := DataW.trod_int Tryz.underlying3 f2
 obtain ⟨n3, e3, -⟩ := DataW.trod_bool Tryz.underlying4 f3
 simp at e0 e1 e2 e3
 subst e0 e1 e2 e3
 exact ⟨⟨n0, n1, n2, n3⟩, rfl⟩
theorem cellOk_spot {r : Reach} {base : Nat} {t e : TypeId} {v : Value} (hu : P.underlying t = some (.slice e)) (hv : Cell.okWide P w r base t v) : (∃ len cap, v = .slice none len cap) ∨ ∃ g o len cap, v = .slice (some ⟨g, o, none⟩) len cap := by
 obtain ⟨a, len, cap, rfl⟩ := cell_slice hu hv
 cases a with
 | none => exact .inl ⟨_, _, rfl⟩
 | some a =>
  obtain ⟨g, o, s⟩ := a
  simp [Cell.okWide, Cell.ok, hu] at hv
  have := hv.2.2.2.1
  subst this
  exact .inr ⟨g, o, _, _, rfl⟩
/-- a slice of integers in a cell. -/
theorem open_ints_cell {r : Reach} {base : Nat} {t e : TypeId} {v : Value} {fuel : Nat} {y : DataW H × List MemPlace} (hu : P.underlying t = some (.slice e)) (he : P.underlying e = some (.int .i64)) (hc : P.cellsOf e = 1)
  (hv : Cell.okWide P w r base t v) (h : DataW.trod enc P w 0 (fun _ => true) true fuel t [v] = some y) : ∃ zs, RdI w v zs := by
 rcases cellOk_spot hu hv with ⟨len, cap, rfl⟩ | ⟨g, o, len, cap, rfl⟩
 ·rcases open_ints hu he hc h with ⟨hcs, _⟩ | ⟨a, len', cap', zs, hcs, _⟩
  ·simp at hcs
   obtain ⟨rfl, rfl⟩ := hcs
   exact ⟨[], Rd.nil _ _⟩
  ·simp at hcs
 ·rcases open_ints hu he hc h with ⟨hcs, _⟩ | ⟨a, len', cap', zs, hcs, _, hl, hm, hz, _, hcell, hwz⟩
  ·simp at hcs
  ·simp at hcs
   obtain ⟨rfl, rfl, rfl⟩ := hcs
   simp only [if_true] at hz
   refine ⟨zs.take len, by simp [ints], .inr ⟨g, o, cap, by simp [hz, hl], by simp [hz, hl], hm, fun i hi => ?_⟩⟩
   have hi' : i < len := by simp at hi; omega
   have := hcell i (by omega)
   rw [add_none'] at this
   rw [this, ints_get _ i (by simp; omega)]
   congr 2
   simp [List.getD, hi']
theorem open_R {r : Reach} {base : Nat} {v : Value} {d : DataW H} {p : List MemPlace} (hv : Value.okWide Tryz.prog w r base 26 v) (h : DataW.Trod enc Tryz.prog w 0 (fun _ => true) true 26 v d p) :
  ∃ (R : RulesZ) (vp vs ve : Value), v = rulesV R vp vs ve ∧ RdR w R vp vs ve ∧ R.name.size ≤ maxLen := by
 obtain ⟨cs, rfl, hl, hcell⟩ := okWide_cells (ts := [9, 3, 3, 22, 23, 4, 4, 24, 3, 3, 3]) Tryz.underlying26 (by kernel_rfl) (by kernel_rfl) hv
 obtain ⟨fuel, hf⟩ := h
 simp only [Value.cells] at hf
 obtain ⟨xs, n, _, hxl, hf⟩ := trod_flat Tryz.underlying26 (by kernel_rfl) hf
 obtain ⟨k0, k1, k2, k3, k4, k5, k6, k7, k8, k9, k10, rfl⟩ : ∃ k0 k1 k2 k3 k4 k5 k6 k7 k8 k9 k10, cs = [k0, k1, k2, k3, k4, k5, k6, k7, k8, k9, k10] := by
  match cs, hl with
  | [k0, k1, k2, k3, k4, k5, k6, k7, k8, k9, k10], _ => exact ⟨k0, k1, k2, k3, k4, k5, k6, k7, k8, k9, k10, rfl⟩
 have hx : xs.length = 11 := hxl
 obtain ⟨y0, y1, y2, y3, y4, y5, y6, y7, y8, y9, y10, rfl⟩ : ∃ k0 k1 k2 k3 k4 k5 k6 k7 k8 k9 k10, xs = [k0, k1, k2, k3, k4, k5, k6, k7, k8, k9, k10] := by
  match xs, hx with
  | [k0, k1, k2, k3, k4, k5, k6, k7, k8, k9, k10], _ => exact ⟨k0, k1, k2, k3, k4, k5, k6, k7, k8, k9, k10, rfl⟩
 have ci : Tryz.prog.cellsOf 3 = 1 := by kernel_rfl
 have f0 := hf 0 _ rfl
 have f1 := hf 1 _ rfl
 have f2 := hf 2 _ rfl
 have f3 := hf 3 _ rfl
 have f4 := hf 4 _ rfl
 have f5 := hf 5 _ rfl
 have f6 := hf 6 _ rfl
 have f7 := hf 7 _ rfl
 have f8 := hf 8 _ rfl
 have f9 := hf 9 _ rfl
 have f10 := hf 10 _ rfl
 obtain ⟨s, e0, -, hs⟩ := DataW.trod_string Tryz.underlying9 f0
 obtain ⟨n1, e1, -, -⟩ := DataW.trod_int Tryz.underlying3 f1
 obtain ⟨n2, e2, -, -⟩ := DataW.trod_int Tryz.underlying3 f2
 obtain ⟨v3, ps, e3, hp⟩ := open_list pieceEl Tryz.underlying22 (by kernel_rfl) (by decide) (open_piece (enc := enc) (w := w)) f3
 obtain ⟨b5, e5, -⟩ := DataW.trod_bool Tryz.underlying4 f5
 obtain ⟨b6, e6, -⟩ := DataW.trod_bool Tryz.underlying4 f6
 obtain ⟨v7, es, e7, he⟩ := open_list endEl Tryz.underlying24 (by kernel_rfl) (by decide) (open_end (enc := enc) (w := w)) f7
 obtain ⟨n8, e8, -, -⟩ := DataW.trod_int Tryz.underlying3 f8
 obtain ⟨n9, e9, -, -⟩ := DataW.trod_int Tryz.underlying3 f9
 obtain ⟨n10, e10, -, -⟩ := DataW.trod_int Tryz.underlying3 f10
 simp at e0 e1 e2 e3 e5 e6 e7 e8 e9 e10
 subst e0 e1 e2 e3 e5 e6 e7 e8 e9 e10
 obtain ⟨u, hu, hc4⟩ := hcell 4 k4 rfl
 simp at hu
 subst hu
 obtain ⟨zs, hz⟩ := open_ints_cell Tryz.underlying23 Tryz.underlying3 ci hc4 (by simpa using f4)
 exact ⟨⟨s, n1, n2, ps, zs, b5, b6, es, n8, n9, n10⟩, k3, k4, k7, rfl, ⟨hp, hz, he⟩, hs⟩
end
end Go.Proofs.YtnieifdogllbfaaGreat
namespace Go.Proofs.YtnieifdogllbfaaGreat
open Go.ChangeShapes Go.WideShapes Go.ChangeAt Go.RowKit Go.Deep
set_option linter.unusedVariables false
section
variable {H : Type} {enc : TypeId × Value → H} {w : World}
set_option maxRecDepth 100000 in
theorem open_move (fuel : Nat) (cs : List Value) (y : DataW H × List MemPlace) (h : DataW.trod enc Tryz.prog w 0 (fun _ => true) true fuel 68 cs = some y) : ∃ x, moveEl.E w x cs := by
 obtain ⟨xs, n, hlen, hxl, hf⟩ := trod_flat Tryz.underlying68 (by kernel_rfl) h
 obtain ⟨a, b, c, rfl⟩ := three_cells (hlen.trans (by kernel_rfl))
 have hx : xs.length = 3 := hxl
 obtain ⟨y0, y1, y2, rfl⟩ : ∃ a b c, xs = [a, b, c] := by
  match xs, hx with
  | [a, b, c], _ => exact ⟨a, b, c, rfl⟩
 have f0 := hf 0 _ rfl
 have f1 := hf 1 _ rfl
 have f2 := hf 2 _ rfl
 obtain ⟨n0, e0, -, -⟩ := DataW.trod_int Tryz.underlying3 f0
 obtain ⟨n1, e1, -, -⟩ := DataW.trod_int Tryz.underlying3 f1
 obtain ⟨n2, e2, -, -⟩ := DataW.trod_int Tryz.underlying3 f2
 simp at e0 e1 e2
 subst e0 e1 e2
 exact ⟨⟨n0, n1, n2⟩, rfl⟩
end
end Go.Proofs.YtnieifdogllbfaaGreat
namespace Go.Proofs.YtnieifdogllbfaaGreat
open Go.ChangeShapes Go.WideShapes Go.ChangeAt Go.RowKit Go.Deep
set_option linter.unusedVariables false
section
variable {H : Type} {enc : TypeId × Value → H} {w : World}
theorem fld {P : Program} {base : Nat} {spare : Nat → Bool} {held : Bool} {fs : Array Field} {n : Nat} {cs : List Value} {xs : List (DataW H × List MemPlace)}
  (hf : ∀ (i : Nat) (f : Field), fs[i]? = some f → DataW.trod enc P w base spare held n f.type ((cs.drop f.offset).take (P.cellsOf f.type)) = xs[i]?) (i o k : Nat) (ti : TypeId)
  (h : (fs[i]?.map fun f => (f.offset, f.type)) = some (o, ti)) (hk : P.cellsOf ti = k) : DataW.trod enc P w base spare held n ti ((cs.drop o).take k) = xs[i]? := by
 simp only [Option.map_eq_some_iff, Prod.mk.injEq] at h
 obtain ⟨f, hi, rfl, rfl⟩ := h
 have := hf i f hi
 rw [hk] at this
 exact this
end
end Go.Proofs.YtnieifdogllbfaaGreat
namespace Go.Proofs.YtnieifdogllbfaaGreat
open Go.ChangeShapes Go.WideShapes Go.ChangeAt Go.RowKit Go.Deep
set_option linter.unusedVariables false
section
variable {H : Type} {enc : TypeId × Value → H} {w : World}
end
end Go.Proofs.YtnieifdogllbfaaGreat
namespace Go.Proofs.YtnieifdogllbfaaGreat
open Go.ChangeShapes Go.WideShapes Go.ChangeAt Go.RowKit Go.Deep
set_option linter.unusedVariables false
set_option maxRecDepth 100000
section
variable {H : Type} {enc : TypeId × Value → H} {w : World}
theorem five_cells {cs : List Value} (h : cs.length = 5) : ∃ a b c d e, cs = [a, b, c, d, e] := by
 match cs, h with
 | [a, b, c, d, e], _ => exact ⟨a, b, c, d, e, rfl⟩
theorem two_cells {cs : List Value} (h : cs.length = 2) : ∃ a b, cs = [a, b] := by
 match cs, h with
 | [a, b], _ => exact ⟨a, b, rfl⟩
theorem open_node (fuel : Nat) (cs : List Value) (y : DataW H × List MemPlace) (h : DataW.trod enc Tryz.prog w 0 (fun _ => true) true fuel 70 cs = some y) : ∃ x, nodeEl.E w x cs := by
 obtain ⟨xs, n, _, _, hlen, hxl, hf⟩ := DataW.trod_struct Tryz.underlying70 h
 obtain ⟨a, b, c, d, e, rfl⟩ := five_cells (hlen.trans (by kernel_rfl))
 have f0 := fld hf 0 0 1 3 (by kernel_rfl) (by kernel_rfl)
 have f1 := fld hf 1 1 3 68 (by kernel_rfl) (by kernel_rfl)
 have f2 := fld hf 2 4 1 9 (by kernel_rfl) (by kernel_rfl)
 have hx : xs.length = 3 := hxl
 obtain ⟨y0, y1, y2, rfl⟩ : ∃ a b c, xs = [a, b, c] := by
  match xs, hx with
  | [a, b, c], _ => exact ⟨a, b, c, rfl⟩
 obtain ⟨n0, e0, -, -⟩ := DataW.trod_int Tryz.underlying3 f0
 obtain ⟨m, hm⟩ := open_move (enc := enc) (w := w) _ _ _ f1
 obtain ⟨s, e2, -, hs⟩ := DataW.trod_string Tryz.underlying9 f2
 simp only [moveEl] at hm
 simp at e0 hm e2
 obtain ⟨rfl, rfl, rfl⟩ := hm
 subst e0 e2
 exact ⟨⟨n0, m, s⟩, rfl, hs⟩
theorem open_tag (fuel : Nat) (cs : List Value) (y : DataW H × List MemPlace) (h : DataW.trod enc Tryz.prog w 0 (fun _ => true) true fuel 64 cs = some y) : ∃ x, tagEl.E w x cs := by
 obtain ⟨xs, n, hlen, hxl, hf⟩ := trod_flat Tryz.underlying64 (by kernel_rfl) h
 obtain ⟨a, b, rfl⟩ := two_cells (hlen.trans (by kernel_rfl))
 have hx : xs.length = 2 := hxl
 obtain ⟨y0, y1, rfl⟩ : ∃ a b, xs = [a, b] := by
  match xs, hx with
  | [a, b], _ => exact ⟨a, b, rfl⟩
 have f0 := hf 0 _ rfl
 have f1 := hf 1 _ rfl
 obtain ⟨s0, e0, -, hs0⟩ := DataW.trod_string Tryz.underlying9 f0
 obtain ⟨s1, e1, -, hs1⟩ := DataW.trod_string Tryz.underlying9 f1
 simp at e0 e1
 subst e0 e1
 exact ⟨⟨s0, s1⟩, rfl, hs0, hs1⟩
theorem open_Rec {r : Reach} {base : Nat} {v : Value} {d : DataW H} {p : List MemPlace} (hv : Value.okWide Tryz.prog w r base 30 v) (h : DataW.Trod enc Tryz.prog w 0 (fun _ => true) true 30 v d p) :
  ∃ (X : RecZ) (vt vn : Value), v = recV X vt vn ∧ RdX w X vt vn := by
 obtain ⟨cs, rfl, hl, hcell⟩ := okWide_cells (ts := [27, 9, 28, 3]) Tryz.underlying30 (by kernel_rfl) (by kernel_rfl) hv
 obtain ⟨fuel, hf⟩ := h
 simp only [Value.cells] at hf
 obtain ⟨xs, n, _, hxl, hf⟩ := trod_flat Tryz.underlying30 (by kernel_rfl) hf
 obtain ⟨a, b, c, d, rfl⟩ := four_cells hl
 have hx : xs.length = 4 := hxl
 obtain ⟨y0, y1, y2, y3, rfl⟩ : ∃ a b c d, xs = [a, b, c, d] := by
  match xs, hx with
  | [a, b, c, d], _ => exact ⟨a, b, c, d, rfl⟩
 have f0 := hf 0 _ rfl
 have f1 := hf 1 _ rfl
 have f2 := hf 2 _ rfl
 have f3 := hf 3 _ rfl
 obtain ⟨v0, ts, e0, h0⟩ := open_list tagEl Tryz.underlying27 (by kernel_rfl) (by decide) (open_tag (enc := enc) (w := w)) f0
 obtain ⟨s1, e1, -, hs1⟩ := DataW.trod_string Tryz.underlying9 f1
 obtain ⟨v2, ns, e2, h2⟩ := open_list nodeEl Tryz.underlying28 (by kernel_rfl) (by decide) (open_node (enc := enc) (w := w)) f2
 obtain ⟨n3, e3, -, -⟩ := DataW.trod_int Tryz.underlying3 f3
 simp at e0 e1 e2 e3
 subst e0 e1 e2 e3
 exact ⟨⟨ts, s1, ns, n3⟩, a, c, rfl, h0, h2, hs1⟩
end
end Go.Proofs.YtnieifdogllbfaaGreat

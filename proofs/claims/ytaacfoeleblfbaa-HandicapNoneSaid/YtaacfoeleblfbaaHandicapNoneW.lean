/- The walk of the law HandicapNone. -/
import Derived.Test.YtaacfoeleblfbaaHcC
namespace Go.Proofs.Ytaacfoeleblfbaa.handicapNone
open Go.ChangeShapes Go.WideShapes Go.ChangeAt Go.RowKit
set_option linter.unusedVariables false

theorem great_anyG (R : RulesZ) (vp vs ve : Value) (w : World) (h : RdI w vs R.start) : Calls Try.prog 12 #[(.agg #[.string R.name, .int .i64 R.width, .int .i64 R.height, vp, vs, .bool R.falls, .bool R.keeps, ve, .int .i64 R.blocked, .int .i64 R.quiet, .int .i64 R.rept])] w fun e w' => e = .returned (.bool (decide (20 < (R.start.length : Int)))) ∧ Below w.heap.size w w' := by
  obtain ⟨a, c, rfl, h1, h2⟩ := h.form
  unfold maxLen at h2
  clear h
  go_enter Try.func12, Try.ntmps12
  go_wp2
  go_ret
  exact ⟨rfl, (Below.refl _ _).alloc (Nat.le_refl _) _⟩

theorem minN (a : Nat) (b : Int) (hb : 0 ≤ b) : ∃ m : Nat, (if b < (a : Int) then b else (a : Int)) = (m : Int) ∧ m ≤ a ∧ (m : Int) ≤ b := by
  by_cases h : b < a
  · exact ⟨b.toNat, by rw [if_pos (by omega)]; omega, by omega, by omega⟩
  · exact ⟨a, by rw [if_neg (by omega)], by omega, by omega⟩

theorem woErr_head {R : RulesZ} {pl : Int} {sq : List Int} (h : woErr R pl [] ≠ 0) : woErr R pl sq = woErr R pl [] := by
  unfold woErr at h ⊢
  by_cases q : woHead R pl = 0
  · rw [if_neg (by simp [q])] at h; exact absurd rfl h
  · rw [if_pos q, if_pos q]

set_option maxRecDepth 100000 in
set_option maxHeartbeats 8000000 in
theorem walk (HS : SortMvSaid) (R : RulesZ) (vp vs ve : Value) (pl : Int) (vq : Value) (sq0 : List Int) (d : Int) (w : World) (hr : RdR w R vp vs ve) (hnm : R.name.size ≤ maxLen) (hq : RdI w vq sq0) :
    Calls Try.prog 4 #[(.agg #[.string R.name, .int .i64 R.width, .int .i64 R.height, vp, vs, .bool R.falls, .bool R.keeps, ve, .int .i64 R.blocked, .int .i64 R.quiet, .int .i64 R.rept]), .int .i64 pl, vq, .int .i64 d] w fun e w' => e = .returned (.bool true) ∧ Below w.heap.size w w' := by
  have HSh := Lib.hid HS
  have HR := Lib.hid hr
  have HN := Lib.hid hnm
  obtain ⟨qa, qn, rfl, hq1, hq2⟩ := hq.form
  unfold maxLen at hq2
  obtain ⟨m, hk, k1, k2⟩ := minN sq0.length 3 (by omega)
  obtain ⟨sq, hl⟩ : ∃ sq, sq = sq0.take m := ⟨_, rfl⟩
  have hll : sq.length = m := by rw [hl, List.length_take]; omega
  have HC : Hid (RdI w (.slice qa sq.length qn) sq) := Lib.hid (by rw [hll, hl]; exact RdI.take hq m k1)
  have hsl : ∀ w' : World, (Instr.slice 23 (.slice qa sq0.length qn) none (some (.int .i64 (m : Int))) none).run Try.prog w' = .ok (.slice qa m qn) w' := fun w' =>
    run_take (P := Try.prog) (t := 23) (s := 1) Try.underlying23 (fun w => by kernel_rfl) qa sq0.length qn m (by omega) w'
  subst hll
  clear hr hnm hq HS hl
  go_enter Try.func4, Try.ntmps4
  go_upto_region 1 with (fail)
  have B0 : Box (w.alloc (.cells #[.string R.name, .int .i64 R.width, .int .i64 R.height, vp, vs, .bool R.falls, .bool R.keeps, ve, .int .i64 R.blocked, .int .i64 R.quiet, .int .i64 R.rept] 26)) (w.heap.size) [.string R.name, .int .i64 R.width, .int .i64 R.height, vp, vs, .bool R.falls, .bool R.keeps, ve, .int .i64 R.blocked, .int .i64 R.quiet, .int .i64 R.rept] 26 := (Box.new' w (w.heap.size) [.string R.name, .int .i64 R.width, .int .i64 R.height, vp, vs, .bool R.falls, .bool R.keeps, ve, .int .i64 R.blocked, .int .i64 R.quiet, .int .i64 R.rept] 26 (by simp <;> omega))
  have HB : Hid (Below w.heap.size w (w.alloc (.cells #[.string R.name, .int .i64 R.width, .int .i64 R.height, vp, vs, .bool R.falls, .bool R.keeps, ve, .int .i64 R.blocked, .int .i64 R.quiet, .int .i64 R.rept] 26))) := Lib.hid ((Below.refl w.heap.size w).alloc (Nat.le_refl _) _)
  have hz0 : w.heap.size < (w.alloc (.cells #[.string R.name, .int .i64 R.width, .int .i64 R.height, vp, vs, .bool R.falls, .bool R.keeps, ve, .int .i64 R.blocked, .int .i64 R.quiet, .int .i64 R.rept] 26)).heap.size := by simp
  generalize (w.alloc (.cells #[.string R.name, .int .i64 R.width, .int .i64 R.height, vp, vs, .bool R.falls, .bool R.keeps, ve, .int .i64 R.blocked, .int .i64 R.quiet, .int .i64 R.rept] 26)) = w0 at *
  have HX := Lib.hid B0
  clear B0
  go_wp2_with fail
  refine (handicaps_any HSh.out w0).mono ?_
  rintro e w1 ⟨rfl, hb1⟩
  have HX1 := Lib.hid (HX.out.stays hb1)
  have HB1 := Lib.hid (below_trans HB.out hb1 HB.out.size)
  clear hb1 HX HB hz0
  go_upto_region 4 with (fail)
  refine wp_region_lit ?_
  refine wpList_load_box (by rfl) 26 (.tmp 4) (by rfl) (w.heap.size) (by rfl) HX1.out Try.underlying26 (by rfl) (by kernel_rfl) ?_
  go_wp2_with fail
  refine (great_anyG R vp vs ve w1 (HR.out.2.1.below HB1.out (Nat.le_refl _))).mono ?_
  rintro e w2 ⟨rfl, hb2⟩
  have HX2 := Lib.hid (HX1.out.stays hb2)
  have HB2 := Lib.hid (below_trans HB1.out hb2 HB1.out.size)
  clear hb2 HX1 HB1
  generalize decide (20 < (R.start.length : Int)) = gr at *
  cases gr
  rotate_left
  · go_wp2_with fail
    go_ret
    exact ⟨rfl, HB2.out⟩
  by_cases hd : 3 < d
  · have hdb : decide (3 < d) = true := by simpa using hd
    clear hd
    go_wp2_with fail
    go_ret
    exact ⟨rfl, HB2.out⟩
  have hdb : decide (3 < d) = false := by simpa using hd
  clear hd
  go_upto_region 6 with (fail)
  refine wp_region_lit ?_
  refine wpList_load_box (by rfl) 26 (.tmp 4) (by rfl) (w.heap.size) (by rfl) HX2.out Try.underlying26 (by rfl) (by kernel_rfl) ?_
  go_wp2_with fail
  refine (Without_one R vp vs ve pl _ [] w2 (HR.out.below HB2.out (Nat.le_refl _)) HN.out (Rd.nil w2 1)).mono ?_
  rintro e w3 ⟨Rx, pxa, sxa, exa, pxn, sxn, exn, he3, hs3, hn3, hz3, hb3⟩
  have HFG : Hid (woErr R pl [] = 0 → winsErr Rx d = winsErr R d ∧ winsZ Rx d = winsZ R d) := Lib.hid (fun h => by rw [hz3 h rfl]; exact ⟨rfl, rfl⟩)
  have HWH : Hid (woErr R pl [] ≠ 0 → woErr R pl sq = woErr R pl []) := Lib.hid (fun h => woErr_head h)
  have HWP : Hid (woErr R pl sq = 0 → pl = 0 ∨ pl = 1) := Lib.hid (fun h => woErr_pl h)
  generalize woErr R pl [] = e0 at *
  subst he3
  have hl3 := below_trans HB2.out hb3 HB2.out.size
  have HNx := Lib.hid hn3
  have HRx := Lib.hid (hs3.now.below ((Below.refl _ w3).alloc (Nat.le_refl _) (.cells #[.string Rx.name, .int .i64 Rx.width, .int .i64 Rx.height, .slice pxa Rx.pieces.length pxn, .slice sxa Rx.start.length sxn, .bool Rx.falls, .bool Rx.keeps, .slice exa Rx.ends.length exn, .int .i64 Rx.blocked, .int .i64 Rx.quiet, .int .i64 Rx.rept] 26)) (Nat.le_refl _))
  have HX3 := Lib.hid ((HX2.out.stays hb3).alloc (.cells #[.string Rx.name, .int .i64 Rx.width, .int .i64 Rx.height, .slice pxa Rx.pieces.length pxn, .slice sxa Rx.start.length sxn, .bool Rx.falls, .bool Rx.keeps, .slice exa Rx.ends.length exn, .int .i64 Rx.blocked, .int .i64 Rx.quiet, .int .i64 Rx.rept] 26))
  have HY3 := Lib.hid (Box.new w3 [.string Rx.name, .int .i64 Rx.width, .int .i64 Rx.height, .slice pxa Rx.pieces.length pxn, .slice sxa Rx.start.length sxn, .bool Rx.falls, .bool Rx.keeps, .slice exa Rx.ends.length exn, .int .i64 Rx.blocked, .int .i64 Rx.quiet, .int .i64 Rx.rept] 26)
  have HB3 := Lib.hid (hl3.alloc hl3.size (.cells #[.string Rx.name, .int .i64 Rx.width, .int .i64 Rx.height, .slice pxa Rx.pieces.length pxn, .slice sxa Rx.start.length sxn, .bool Rx.falls, .bool Rx.keeps, .slice exa Rx.ends.length exn, .int .i64 Rx.blocked, .int .i64 Rx.quiet, .int .i64 Rx.rept] 26))
  clear hs3 hn3 hz3 hb3 hl3 HX2 HB2
  go_upto_region 7 with (fail)
  generalize (w3.alloc (.cells #[.string Rx.name, .int .i64 Rx.width, .int .i64 Rx.height, .slice pxa Rx.pieces.length pxn, .slice sxa Rx.start.length sxn, .bool Rx.falls, .bool Rx.keeps, .slice exa Rx.ends.length exn, .int .i64 Rx.blocked, .int .i64 Rx.quiet, .int .i64 Rx.rept] 26)) = w4 at *
  refine wp_region_lit ?_
  refine wpList_load_box (by rfl) 26 (.tmp 4) (by rfl) (w.heap.size) (by rfl) HX3.out Try.underlying26 (by rfl) (by kernel_rfl) ?_
  go_wp2_with fail
  refine (Wins_any HSh.out R vp vs ve d w4 (HR.out.below HB3.out (Nat.le_refl _)) HN.out).mono ?_
  rintro e w5 ⟨he5, hb5⟩
  have HX5 := Lib.hid (HX3.out.stays hb5)
  have HY5 := Lib.hid (HY3.out.stays hb5)
  have HB5 := Lib.hid (below_trans HB3.out hb5 HB3.out.size)
  have HR5 := Lib.hid (HRx.out.below hb5 (Nat.le_refl _))
  have HLS : Hid (∀ n h, LeastSaid R pl sq d n h → (woErr R pl sq ≠ 0 → n = 0 ∧ h = woErr R pl sq) ∧ (woErr R pl sq = 0 → winsErr R d = 0 → (winsZ R d ≠ 1 + pl → n = 0 ∧ h = 0) ∧ (winsZ R d = 1 + pl → ¬ (n = 0 ∧ h = 0)))) := Lib.hid (fun _ _ h => h)
  generalize winsErr R d = f at *
  generalize winsZ R d = av at *
  subst he5
  clear hb5 HX3 HY3 HB3 HRx
  go_upto_region 8 with (fail)
  refine wp_region_lit ?_
  refine wpList_load_box (by rfl) 26 (.tmp 9) (by rfl) (w3.heap.size) (by rfl) HY5.out Try.underlying26 (by rfl) (by kernel_rfl) ?_
  go_wp2_with fail
  refine (Wins_any HSh.out Rx _ _ _ d w5 HR5.out HNx.out).mono ?_
  rintro e w6 ⟨he6, hb6⟩
  generalize winsErr Rx d = g at *
  generalize winsZ Rx d = bv at *
  subst he6
  have HX6 := Lib.hid (HX5.out.stays hb6)
  have HB6 := Lib.hid (below_trans HB5.out hb6 HB5.out.size)
  clear hb6 HX5 HY5 HB5 HR5
  go_upto_region 9 with (fail)
  refine wp_region_lit ?_
  refine wpList_load_box (by rfl) 26 (.tmp 4) (by rfl) (w.heap.size) (by rfl) HX6.out Try.underlying26 (by rfl) (by kernel_rfl) ?_
  go_wp2_with fail
  refine (Least_any HSh.out R vp vs ve pl _ sq d w6 (by omega) (HR.out.below HB6.out (Nat.le_refl _)) HN.out (HC.out.below HB6.out (Nat.le_refl _))).mono ?_
  rintro e w7 ⟨n, h, rfl, hls, hb7⟩
  have HLN := Lib.hid (HLS.out n h hls)
  have HX7 := Lib.hid (HX6.out.stays hb7)
  have HB7 := Lib.hid (below_trans HB6.out hb7 HB6.out.size)
  clear hb7 HX6 HB6 hls HLS
  by_cases he : e0 = 0
  rotate_left
  · have heb : (e0 != 0) = true := by simpa using he
    have hwe := HWH.out he
    obtain ⟨rfl, hh⟩ := HLN.out.1 (by rw [hwe]; exact he)
    obtain rfl : h = e0 := hh.trans hwe
    clear he hwe hh HWH HWP HLN HFG
    go_wp2_with fail
    go_ret
    exact ⟨by simp, HB7.out⟩
  obtain ⟨hg, hbv⟩ := HFG.out he
  subst hg hbv he
  clear HWH HFG
  go_upto_region 12 with (fail)
  refine wp_region_lit ?_
  refine wpList_load_box (by rfl) 26 (.tmp 4) (by rfl) (w.heap.size) (by rfl) HX7.out Try.underlying26 (by rfl) (by kernel_rfl) ?_
  go_wp2_with fail
  refine (Without_one R vp vs ve pl _ sq w7 (HR.out.below HB7.out (Nat.le_refl _)) HN.out (HC.out.below HB7.out (Nat.le_refl _))).mono ?_
  rintro e w8 ⟨Ry, pya, sya, eya, pyn, syn, eyn, he8, -, -, -, hb8⟩
  generalize woErr R pl sq = we at *
  subst he8
  have hl8 := below_trans HB7.out hb8 HB7.out.size
  have HB8 := Lib.hid (hl8.alloc hl8.size (.cells #[.string Ry.name, .int .i64 Ry.width, .int .i64 Ry.height, .slice pya Ry.pieces.length pyn, .slice sya Ry.start.length syn, .bool Ry.falls, .bool Ry.keeps, .slice eya Ry.ends.length eyn, .int .i64 Ry.blocked, .int .i64 Ry.quiet, .int .i64 Ry.rept] 26))
  clear hb8 hl8 HX7 HB7
  go_upto_region 13 with (fail)
  generalize (w8.alloc (.cells #[.string Ry.name, .int .i64 Ry.width, .int .i64 Ry.height, .slice pya Ry.pieces.length pyn, .slice sya Ry.start.length syn, .bool Ry.falls, .bool Ry.keeps, .slice eya Ry.ends.length eyn, .int .i64 Ry.blocked, .int .i64 Ry.quiet, .int .i64 Ry.rept] 26)) = w9 at *
  by_cases hw : we = 0
  rotate_left
  · have hwb : (we != 0) = true := by simpa using hw
    obtain ⟨rfl, hh⟩ := HLN.out.1 hw
    obtain rfl : h = we := hh
    clear hw HLN HWP
    go_wp2_with fail
    go_ret
    exact ⟨by simp, HB8.out⟩
  have hpl := HWP.out hw
  have hln := HLN.out.2 hw
  obtain ⟨pp, hpp⟩ : ∃ pp, 1 + pl = pp := ⟨_, rfl⟩
  have hwp : IntKind.i64.wrap (1 + pl) = pp := by rw [← hpp]; exact IntWalk.i64_in _ (by omega)
  rw [hpp] at hln
  subst hw
  clear hpl HLN HWP
  have HPP := Lib.hid hpp
  clear hpp
  by_cases hf : g = 0
  rotate_left
  · have hfb : (g != 0) = true := by simpa using hf
    clear hf hln
    go_wp2_with fail
    go_ret
    exact ⟨by simp, HB8.out⟩
  obtain ⟨hl1, hl2⟩ := hln hf
  subst hf
  clear hln
  by_cases ha : bv = pp
  rotate_left
  · obtain ⟨rfl, rfl⟩ := hl1 ha
    have hab : (bv != pp) = true := by simpa using ha
    clear ha hl1 hl2
    go_wp2_with fail
    go_ret
    exact ⟨by first | rfl | simp, HB8.out⟩
  have hab : (bv != pp) = false := by simpa using ha
  have hnn := hl2 ha
  clear ha hl1 hl2
  by_cases hh : h = 0
  · subst hh
    have hnb : (n == 0) = false := by simpa using hnn
    clear hnn
    go_wp2_with fail
    go_ret
    exact ⟨by first | rfl | simp, HB8.out⟩
  have hhb : (h == 0) = false := by simpa using hh
  have hhc : (h != 0) = true := by simpa using hh
  by_cases h8 : h = 8
  · have h8b : (h != 8) = false := by simpa using h8
    clear hnn hh h8
    go_wp2_with fail
    go_ret
    exact ⟨by first | rfl | simp, HB8.out⟩
  · have h8b : (h != 8) = true := by simpa using h8
    clear hnn hh h8
    go_wp2_with fail
    go_ret
    exact ⟨by first | rfl | simp, HB8.out⟩

end Go.Proofs.Ytaacfoeleblfbaa.handicapNone

/- RecordSpacesW, Frame, OpenR, OpenM, OpenP, OpenV, OpenRec. -/
import Derived.Test.YthklhndcdijneaaGreatDoorE36
import Derived.BigQuiet
import Derived.Deep.Cut
import Derived.Deep.CutRange
import Derived.Deep.QuietTactic
import Derived.WalkKit
import Derived.ProofKit
import Derived.OpenShut
import Derived.Carry
import Derived.Deep.Slices
import Derived.Test.YthklhndcdijneaaGreatDoorC01
import Derived.Deep.Fields
import Derived.Test.YthklhndcdijneaaGreatDoorC19
namespace Go.Proofs.YthklhndcdijneaaGreatDoor.recordSpaces
open Go.ChangeShapes Go.WideShapes Go.ChangeAt Go.RowKit
set_option linter.unusedVariables false
set_option maxRecDepth 100000 in
set_option maxHeartbeats 8000000 in
theorem walk (HS : SortMvSaid) (HW : WrSaid) (HD : RdSaid) (R : RulesZ) (vp vs ve : Value) (X : RecZ) (vt vn : Value) (w : World) (hr : RdR w R vp vs ve) (hnm : R.name.size ≤ maxLen) (hx : RdX w X vt vn) (hmx : Mx w.heap.size w) :
  Calls Tryz.prog 5 #[(.agg #[.string R.name, .int .i64 R.width, .int .i64 R.height, vp, vs, .bool R.falls, .bool R.keeps, ve, .int .i64 R.blocked, .int .i64 R.quiet, .int .i64 R.rept]), recV X vt vn] w fun e w' => e = .returned (.bool true) ∧ Below w.heap.size w w' := by
 have HSh := Lib.hid HS
 have HWh := Lib.hid HW
 have HDh := Lib.hid HD
 have HMx := Lib.hid hmx
 have HR := Lib.hid hr
 have HN := Lib.hid hnm
 obtain ⟨na, nc, rfl, hn1, hn2⟩ := hx.2.1.form
 obtain ⟨ta, tc, rfl, ht1, ht2⟩ := hx.1.form
 unfold maxLen at hn2 ht2
 have HX := Lib.hid hx
 clear hx HS HW HD hr hnm hmx
 unfold recV
 go_enter Tryz.func5, Tryz.ntmps5
 go_upto_region 1 with (fail)
 refine opn2 ?_
 intro w0 xbR xbX hB0 hS0
 have HB := Lib.hid hB0
 obtain ⟨bX, hbX⟩ : ∃ bX, bX = w.heap.size + 1 := ⟨_, rfl⟩
 rw [← hbX] at xbX ⊢
 obtain ⟨bR, hbR⟩ : ∃ bR, bR = w.heap.size := ⟨_, rfl⟩
 rw [← hbR] at xbR ⊢
 have hbR1 : w.heap.size ≤ bR := by omega
 have HbR := Lib.hid xbR
 have hbX1 : w.heap.size ≤ bX := by omega
 have hbRbX : bR < bX := by omega
 have HbX := Lib.hid xbX
 have hS : bX < w0.heap.size := by omega
 clear hB0 hS0 xbR hbR xbX hbX
 have HR0 := HbR
 have HY0 := HbX
 clear HbR HbX
 go_wp2_with fail
 refine (records_any HSh.out HWh.out w0).mono ?_
 rintro e w1 ⟨rfl, hb1⟩
 have HB1 := Lib.hid (below_trans HB.out hb1 HB.out.size)
 have HR1 := Lib.hid (HR0.out.stays hb1)
 have HY1 := Lib.hid (HY0.out.stays hb1)
 clear hb1 HR0 HY0 HB hS
 go_upto_region 3 with (fail)
 refine wp_region_lit ?_
 refine wpList_load_box (by rfl) 30 (.tmp 3) (by rfl) bX (by rfl) HY1.out Tryz.underlying30 (by rfl) (by kernel_rfl) ?_
 go_wp2_with fail
 have HC := Lib.hid (short_any X (.slice ta X.tags.length tc) (.slice na X.nodes.length nc) w1 (HX.out.below HB1.out (Nat.le_refl _)))
 unfold recV at HC
 refine HC.out.mono ?_
 rintro e w2 ⟨hb2, a, n, c, Y, hYe, rfl, rfl, hY⟩
 have HB2 := Lib.hid (below_trans HB1.out hb2 HB1.out.size)
 have HR2 := Lib.hid (HR1.out.stays hb2)
 have HY2 := Lib.hid (HY1.out.stays hb2)
 have HY : Hid (RdX w Y (.slice ta Y.tags.length tc) (.slice a Y.nodes.length c)) := Lib.hid (by have := hY w HX.out; rw [hYe] at this ⊢; exact this)
 have hyt : X.tags.length = Y.tags.length := by rw [hYe]; rfl
 rw [hyt]
 have HYT := Lib.hid hyt
 have HYe := Lib.hid hYe
 have hz2 := HY2.out.lt
 clear hb2 HR1 HY1 HB1 HC hY hyt hYe
 go_upto_region 4 with (refine wpList_store_box (vs := [.slice ta Y.tags.length tc, .string Y.comment, .slice a Y.nodes.length c, .int .i64 Y.result]) (by rfl) 30 (.tmp 3) (.tmp 15) (by rfl) bX (by rfl) (by rfl) HY2.out rfl (by kernel_rfl) (by rfl) ?_)
 have HY3 := Lib.hid (HY2.out.store (vs := [.slice ta Y.tags.length tc, .string Y.comment, .slice a Y.nodes.length c, .int .i64 Y.result]) rfl)
 have HR3 := Lib.hid (HR2.out.farAll (b' := bX) (by omega) 0 [.slice ta Y.tags.length tc, .string Y.comment, .slice a Y.nodes.length c, .int .i64 Y.result])
 have HB3 := Lib.hid (below_setCells HB2.out (b := bX) hbX1 0 [.slice ta Y.tags.length tc, .string Y.comment, .slice a Y.nodes.length c, .int .i64 Y.result])
 generalize w2.setCells bX 0 [.slice ta Y.tags.length tc, .string Y.comment, .slice a Y.nodes.length c, .int .i64 Y.result] = w3 at *
 clear HY2 HR2 HB2 hz2
 obtain ⟨hy1, hy2⟩ : Y.nodes.length ≤ c ∧ c ≤ 9223372036854775807 := by obtain ⟨_, _, e, h1, h2⟩ := HY.out.2.1.form; unfold maxLen at h2; cases e; omega
 obtain ⟨hy3, hy4⟩ : Y.tags.length ≤ tc ∧ tc ≤ 9223372036854775807 := by obtain ⟨_, _, e, h1, h2⟩ := HY.out.1.form; unfold maxLen at h2; cases e; omega
 have y0 := HY3.out.cell 0 rfl
 have y1 := HY3.out.cell 1 rfl
 have f0 := HY3.out.frozen 0
 have f1 := HY3.out.frozen 1
 have hbXl := HY3.out.lt
 go_upto_region 5 with (fail)
 have HY4 : Hid (Box ((w3.setCell ⟨bX, 0, none⟩ (.slice none 0 0)).setCell ⟨bX, 1, none⟩ (.string ⟨#[]⟩)) bX [.slice none 0 0, .string ⟨#[]⟩, .slice a Y.nodes.length c, .int .i64 Y.result] 30) := Lib.hid ((HY3.out.set 0 (.slice none 0 0)).set 1 (.string ⟨#[]⟩))
 have HR4 := Lib.hid ((HR3.out.far ⟨bX, 0, none⟩ (.slice none 0 0) (by show bR ≠ bX; omega)).far ⟨bX, 1, none⟩ (.string ⟨#[]⟩) (by show bR ≠ bX; omega))
 have HB4 : Hid (Below w.heap.size w ((w3.setCell ⟨bX, 0, none⟩ (.slice none 0 0)).setCell ⟨bX, 1, none⟩ (.string ⟨#[]⟩))) := Lib.hid (below_setCells HB3.out hbX1 0 [.slice none 0 0, .string ⟨#[]⟩])
 generalize (w3.setCell ⟨bX, 0, none⟩ (.slice none 0 0)).setCell ⟨bX, 1, none⟩ (.string ⟨#[]⟩) = w4 at *
 clear y0 y1 f0 f1 hbXl HY3 HR3 HB3
 obtain ⟨Z, hZ⟩ : ∃ Z : RecZ, Z = ⟨[], ⟨#[]⟩, Y.nodes, Y.result⟩ := ⟨_, rfl⟩
 have HZ1 : Hid (Z.tags.length = 0) := Lib.hid (by rw [hZ]; rfl)
 have HZ2 : Hid (Z.comment = ⟨#[]⟩) := Lib.hid (by rw [hZ])
 have HZ3 : Hid (Z.nodes.length = Y.nodes.length) := Lib.hid (by rw [hZ])
 have HZ4 : Hid (Z.result = Y.result) := Lib.hid (by rw [hZ])
 have HZ5 : Hid (Z.tags = [] ∧ Z.nodes = Y.nodes) := Lib.hid (by subst hZ; exact ⟨rfl, rfl⟩)
 have HZX : Hid (RdX w Z (.slice none 0 0) (.slice a Y.nodes.length c)) := Lib.hid (by rw [hZ]; exact ⟨RdL.nil _ _, HY.out.2.1, Nat.zero_le _⟩)
 clear hZ
 have p2 := HY4.out.cell 2 rfl
 go_wp2_with fail
 go_loopw [21, 5] (fun v21 v5 wr => ∃ (i : Nat) (o5 : Value), o5 = v5 ∧ i ≤ Y.nodes.length ∧ v21 = .int .i64 i ∧ wr = w4 ∧ Hid (∀ j, j < i → (ndAt Y.nodes j).comment.size = 0)) (fun v _ _ => Y.nodes.length - (intOf v).toNat)
 case atStart => exact ⟨0, _, rfl, Nat.zero_le _, rfl, rfl, Lib.hid (fun j hj => absurd hj (Nat.not_lt_zero _))⟩
 case round =>
  obtain ⟨i, o5, rfl, hi, rfl, rfl, HNo⟩ := hrel
  by_cases hlt : i < Y.nodes.length
  ·have hltI : (i : Int) < (Y.nodes.length : Int) := by omega
   obtain ⟨gn, on, rfl, hgn, hnd⟩ := nodes_some HY.out.2.1 (by omega)
   obtain ⟨-, -, -, -, n4, n5⟩ := hnd i hlt
   have c4 := (HB4.out.cell (p := ⟨gn, on + i * 5 + 4, none⟩) hgn).trans n4
   have HLT := Lib.hid hlt
   obtain ⟨cm, hcm⟩ : ∃ cm, cm = (ndAt Y.nodes i).comment := ⟨_, rfl⟩
   rw [← hcm] at c4
   have HCM := Lib.hid hcm
   clear hnd n4 n5 hcm hi
   by_cases hz : cm.size = 0
   ·have hem : cm.toList.isEmpty = true := by
     rw [Lib.toList_data]
     have : cm.data.toList = [] := List.length_eq_zero_iff.1 (by simpa using hz)
     rw [this]; rfl
    have HZ0 := Lib.hid hz
    clear hz
    go_wp2_with fail
    go_roundw
    case rel => exact ⟨i + 1, _, rfl, HLT.out, by go_num, by first | rfl | trivial, Lib.hid (fun j hj => by
     by_cases e : j < i
     ·exact HNo.out j e
     ·obtain rfl : j = i := by omega
      rw [← HCM.out]; exact HZ0.out)⟩
    case measure => have := HLT.out; simp [intOf]; omega
   ·have hem : cm.toList.isEmpty = false := by
     rw [Lib.toList_data]
     cases h : cm.data.toList with
     | nil => exact absurd (by have := congrArg List.length h; simpa using this) hz
     | cons _ _ => rfl
    clear hz
    go_wp2_with fail
    go_ret
    exact ⟨rfl, HB4.out⟩
  ·obtain rfl : i = Y.nodes.length := by omega
   have hltI : ¬ (Y.nodes.length : Int) < (Y.nodes.length : Int) := by omega
   have HNC : Hid (∀ x ∈ Z.nodes, x.comment.size = 0) := Lib.hid (by
    rw [HZ5.out.2]
    intro x hx
    obtain ⟨j, hj, e⟩ := List.mem_iff_getElem.1 hx
    have h1 := HNo.out j hj
    have e2 : ndAt Y.nodes j = x := by unfold ndAt; rw [List.getD_eq_getElem?_getD, List.getElem?_eq_getElem hj]; exact e
    rwa [e2] at h1)
   clear hlt hi HNo p2
   have q0 := HR4.out.cell 0 rfl; have q1 := HR4.out.cell 1 rfl; have q2 := HR4.out.cell 2 rfl; have q3 := HR4.out.cell 3 rfl; have q4 := HR4.out.cell 4 rfl; have q5 := HR4.out.cell 5 rfl; have q6 := HR4.out.cell 6 rfl; have q7 := HR4.out.cell 7 rfl; have q8 := HR4.out.cell 8 rfl; have q9 := HR4.out.cell 9 rfl; have q10 := HR4.out.cell 10 rfl
   go_wp2_with fail
   refine (great_anyG R vp vs ve wr (HR.out.2.1.below HB4.out (Nat.le_refl _))).mono ?_
   rintro e w5 ⟨rfl, hb5⟩
   have HB5 := Lib.hid (below_trans HB4.out hb5 HB4.out.size)
   have HR5 := Lib.hid (HR4.out.stays hb5)
   have HY5 := Lib.hid (HY4.out.stays hb5)
   clear hb5 HR4 HY4 HB4 q0 q1 q2 q3 q4 q5 q6 q7 q8 q9 q10
   generalize decide (20 < (R.start.length : Int)) = gr at *
   cases gr
   rotate_left
   ·go_wp2_with fail
    go_ret
    exact ⟨rfl, HB5.out⟩
   have q0 := HR5.out.cell 0 rfl; have q1 := HR5.out.cell 1 rfl; have q2 := HR5.out.cell 2 rfl; have q3 := HR5.out.cell 3 rfl; have q4 := HR5.out.cell 4 rfl; have q5 := HR5.out.cell 5 rfl; have q6 := HR5.out.cell 6 rfl; have q7 := HR5.out.cell 7 rfl; have q8 := HR5.out.cell 8 rfl; have q9 := HR5.out.cell 9 rfl; have q10 := HR5.out.cell 10 rfl; have p0 := HY5.out.cell 0 rfl; have p1 := HY5.out.cell 1 rfl; have p2 := HY5.out.cell 2 rfl; have p3 := HY5.out.cell 3 rfl
   have HK := Lib.hid (recCheck_any HSh.out R vp vs ve Z (.slice none 0 0) (.slice a Y.nodes.length c) w5 (HR.out.below HB5.out (Nat.le_refl _)) HN.out (HZX.out.below HB5.out (Nat.le_refl _)))
   unfold recV at HK
   simp only [HZ2.out, HZ4.out] at HK
   go_wp2_with fail
   refine HK.out.mono ?_
   clear HK q0 q1 q2 q3 q4 q5 q6 q7 q8 q9 q10 p0 p1 p2 p3
   rintro e w6 ⟨rfl, hb6⟩
   have HB6 := Lib.hid (below_trans HB5.out hb6 HB5.out.size)
   have HR6 := Lib.hid (HR5.out.stays hb6)
   have HY6 := Lib.hid (HY5.out.stays hb6)
   clear hb6 HR5 HY5 HB5
   by_cases he : recErr R Z = 0
   rotate_left
   ·have heb : (recErr R Z != 0) = true := by simpa using he
    clear he
    go_wp2_with fail
    go_ret
    exact ⟨rfl, HB6.out⟩
   have HE := Lib.hid he
   rw [he]
   clear he
   have q0 := HR6.out.cell 0 rfl; have q1 := HR6.out.cell 1 rfl; have q2 := HR6.out.cell 2 rfl; have q3 := HR6.out.cell 3 rfl; have q4 := HR6.out.cell 4 rfl; have q5 := HR6.out.cell 5 rfl; have q6 := HR6.out.cell 6 rfl; have q7 := HR6.out.cell 7 rfl; have q8 := HR6.out.cell 8 rfl; have q9 := HR6.out.cell 9 rfl; have q10 := HR6.out.cell 10 rfl; have p0 := HY6.out.cell 0 rfl; have p1 := HY6.out.cell 1 rfl; have p2 := HY6.out.cell 2 rfl; have p3 := HY6.out.cell 3 rfl
   have HTx := Lib.hid (wText_any HSh.out HWh.out.1 HWh.out.2.1 HWh.out.2.2.1 HWh.out.2.2.2 R vp vs ve Z none a 0 c w6 (HR.out.below HB6.out (Nat.le_refl _)) HN.out (by rw [HZ1.out, HZ3.out]; exact HZX.out.below HB6.out (Nat.le_refl _)))
   simp only [HZ1.out, HZ2.out, HZ3.out, HZ4.out] at HTx
   go_wp2_with fail
   refine HTx.out.mono ?_
   clear HTx q0 q1 q2 q3 q4 q5 q6 q7 q8 q9 q10 p0 p1 p2 p3
   rintro e w7 ⟨rfl, hb7⟩
   have HB7 := Lib.hid (below_trans HB6.out hb7 HB6.out.size)
   have HR7 := Lib.hid (HR6.out.stays hb7)
   have HY7 := Lib.hid (HY6.out.stays hb7)
   clear hb7 HR6 HY6 HB6
   have hcase := rtext_err HE.out
   generalize rtextErr R Z = E at hcase ⊢
   generalize rtextZ R Z = s at hcase ⊢
   have hsz : s.size ≤ 8192 := by
    rcases hcase with ⟨-, e2⟩ | ⟨-, e2, e3⟩
    ·rw [e2]; exact Nat.zero_le _
    ·rw [e2, bs_size]; exact e3
   have HCase := Lib.hid hcase
   have hsl : (bt s).length = s.size := bt_len s
   clear hcase
   go_wp2_with fail
   go_loopw [48, 8, 9] (fun v48 v8 v9 wr => ∃ (i : Nat) (o8 o9 : Value), o8 = v8 ∧ o9 = v9 ∧ i ≤ s.size ∧ v48 = .int .i64 i ∧ Hid (wr.ownsRow w7.heap.size 5 1 o8 (expL ((bt s).take i)).length (Lib.byteCells (expL ((bt s).take i)))) ∧ Hid (Below w7.heap.size w7 wr)) (fun v _ _ _ => s.size - (intOf v).toNat)
   case atStart => exact ⟨0, _, _, rfl, rfl, Nat.zero_le _, rfl, Lib.hid (World.ownsRow_nil _ _ _ _), Lib.hid (Below.refl _ _)⟩
   case round =>
    obtain ⟨i, o8, o9, rfl, rfl, hi, rfl, HR8, HLr⟩ := hrel
    by_cases hlt : i < s.size
    ·have hltI : (i : Int) < (s.size : Int) := by omega
     obtain ⟨ch, hch⟩ : ∃ ch, s[i]'hlt = ch := ⟨_, rfl⟩
     have htk : (bt s).take (i + 1) = (bt s).take i ++ [ch] := by
      rw [List.take_add_one]
      have := Lib.data_getElem? s i hlt
      unfold bt
      rw [this, hch]; rfl
     obtain ⟨lo, hlo⟩ : ∃ lo, lo = expL ((bt s).take i) := ⟨_, rfl⟩
     have HS2 : Hid (expL ((bt s).take (i + 1)) = lo ++ expB ch) := Lib.hid (by rw [htk, expL_app, expL_one, hlo])
     have hol : lo.length ≤ 24576 := by
      have h1 := expL_len ((bt s).take i)
      have h2 := List.length_take_le i (bt s)
      rw [hlo]; omega
     rw [← hlo] at HR8
     obtain ⟨oa, oc, rfl⟩ := own_form2 HR8.out
     have hwr : w7.heap.size ≤ wr.heap.size := HLr.out.size
     have HLT := Lib.hid hlt
     have HI := Lib.hid hi
     clear htk hlo hi
     by_cases k1 : ch = 32
     ·have e1 : ((ch.toNat : Int) == 32) = true := by rw [k1]; rfl
      have HEX : Hid (expB ch = [10, ch, 32]) := Lib.hid (by rw [k1]; rfl)
      clear k1
      go_wp2_with (at_builtin; refine app_bytes (by rfl) _ _ (by rfl) w7.heap.size _ lo (by rfl) HR8.out [10, ch, 32] [.int .u8 10, .int .u8 ch.toNat, .int .u8 32] (by rfl) 3 (by rfl) (by rfl) (by show lo.length + 3 ≤ _; omega) hwr ?_)
      intro v9' w9 ho9 hg9
      have HL9 := Lib.hid (Below.grown (HLr.out.alloc hwr (.cells #[.int .u8 10, .int .u8 ch.toNat, .int .u8 32] 5)) hg9 (by have := hwr; simp; omega) (fun j hj => (HR8.out.lt j hj).1))
      have HR9 : Hid (w9.ownsRow w7.heap.size 5 1 v9' (expL ((bt s).take (i + 1))).length (Lib.byteCells (expL ((bt s).take (i + 1))))) := Lib.hid (by rw [HS2.out, HEX.out, List.length_append]; exact ho9)
      clear ho9 hg9 HR8 HLr
      go_wp2_with fail
      go_roundw
      case rel => exact ⟨i + 1, _, _, rfl, rfl, HLT.out, by go_num, HR9, HL9⟩
      case measure => have := HLT.out; simp [intOf]; omega
     ·have e1 : ((ch.toNat : Int) == 32) = false := by
       rw [beq_eq_false_iff_ne]; intro h; exact k1 (UInt8.toNat_inj.1 (by show ch.toNat = 32; omega))
      by_cases k2 : ch = 40
      ·have e2 : ((ch.toNat : Int) == 40) = true := by rw [k2]; rfl
       have HEX : Hid (expB ch = [10, ch, 32]) := Lib.hid (by rw [k2]; rfl)
       clear k1 k2
       go_wp2_with (at_builtin; refine app_bytes (by rfl) _ _ (by rfl) w7.heap.size _ lo (by rfl) HR8.out [10, ch, 32] [.int .u8 10, .int .u8 ch.toNat, .int .u8 32] (by rfl) 3 (by rfl) (by rfl) (by show lo.length + 3 ≤ _; omega) hwr ?_)
       intro v9' w9 ho9 hg9
       have HL9 := Lib.hid (Below.grown (HLr.out.alloc hwr (.cells #[.int .u8 10, .int .u8 ch.toNat, .int .u8 32] 5)) hg9 (by have := hwr; simp; omega) (fun j hj => (HR8.out.lt j hj).1))
       have HR9 : Hid (w9.ownsRow w7.heap.size 5 1 v9' (expL ((bt s).take (i + 1))).length (Lib.byteCells (expL ((bt s).take (i + 1))))) := Lib.hid (by rw [HS2.out, HEX.out, List.length_append]; exact ho9)
       clear ho9 hg9 HR8 HLr
       go_wp2_with fail
       go_roundw
       case rel => exact ⟨i + 1, _, _, rfl, rfl, HLT.out, by go_num, HR9, HL9⟩
       case measure => have := HLT.out; simp [intOf]; omega
      ·have e2 : ((ch.toNat : Int) == 40) = false := by
        rw [beq_eq_false_iff_ne]; intro h; exact k2 (UInt8.toNat_inj.1 (by show ch.toNat = 40; omega))
       by_cases k3 : ch = 41
       ·have e3 : ((ch.toNat : Int) == 41) = true := by rw [k3]; rfl
        have HEX : Hid (expB ch = [10, ch, 32]) := Lib.hid (by rw [k3]; rfl)
        clear k1 k2 k3
        go_wp2_with (at_builtin; refine app_bytes (by rfl) _ _ (by rfl) w7.heap.size _ lo (by rfl) HR8.out [10, ch, 32] [.int .u8 10, .int .u8 ch.toNat, .int .u8 32] (by rfl) 3 (by rfl) (by rfl) (by show lo.length + 3 ≤ _; omega) hwr ?_)
        intro v9' w9 ho9 hg9
        have HL9 := Lib.hid (Below.grown (HLr.out.alloc hwr (.cells #[.int .u8 10, .int .u8 ch.toNat, .int .u8 32] 5)) hg9 (by have := hwr; simp; omega) (fun j hj => (HR8.out.lt j hj).1))
        have HR9 : Hid (w9.ownsRow w7.heap.size 5 1 v9' (expL ((bt s).take (i + 1))).length (Lib.byteCells (expL ((bt s).take (i + 1))))) := Lib.hid (by rw [HS2.out, HEX.out, List.length_append]; exact ho9)
        clear ho9 hg9 HR8 HLr
        go_wp2_with fail
        go_roundw
        case rel => exact ⟨i + 1, _, _, rfl, rfl, HLT.out, by go_num, HR9, HL9⟩
        case measure => have := HLT.out; simp [intOf]; omega
       ·have e3 : ((ch.toNat : Int) == 41) = false := by
         rw [beq_eq_false_iff_ne]; intro h; exact k3 (UInt8.toNat_inj.1 (by show ch.toNat = 41; omega))
        have HEX : Hid (expB ch = [ch]) := Lib.hid (by unfold expB; simp [k1, k2, k3])
        clear k1 k2 k3
        go_wp2_with (at_builtin; refine app_bytes (by rfl) _ _ (by rfl) w7.heap.size _ lo (by rfl) HR8.out [ch] [.int .u8 ch.toNat] (by rfl) 1 (by rfl) (by rfl) (by show lo.length + 1 ≤ _; omega) hwr ?_)
        intro v9' w9 ho9 hg9
        have HL9 := Lib.hid (Below.grown (HLr.out.alloc hwr (.cells #[.int .u8 ch.toNat] 5)) hg9 (by have := hwr; simp; omega) (fun j hj => (HR8.out.lt j hj).1))
        have HR9 : Hid (w9.ownsRow w7.heap.size 5 1 v9' (expL ((bt s).take (i + 1))).length (Lib.byteCells (expL ((bt s).take (i + 1))))) := Lib.hid (by rw [HS2.out, HEX.out, List.length_append]; exact ho9)
        clear ho9 hg9 HR8 HLr
        go_wp2_with fail
        go_roundw
        case rel => exact ⟨i + 1, _, _, rfl, rfl, HLT.out, by go_num, HR9, HL9⟩
        case measure => have := HLT.out; simp [intOf]; omega
    ·obtain rfl : i = s.size := by omega
     have hltI : ¬ (s.size : Int) < (s.size : Int) := by omega
     have HRe : Hid (wr.ownsRow w7.heap.size 5 1 o8 (expL (bt s)).length (Lib.byteCells (expL (bt s)))) := Lib.hid (by have := HR8.out; rwa [List.take_of_length_le (by omega)] at this)
     clear hlt hi HR8
     have HB8 := Lib.hid (below_trans HB7.out HLr.out HB7.out.size)
     have HR8 := Lib.hid (HR7.out.stays HLr.out)
     have HY8 := Lib.hid (HY7.out.stays HLr.out)
     clear HB7 HR7 HY7 HLr
     obtain ⟨lb, hlb⟩ : ∃ lb, lb = expL (bt s) := ⟨_, rfl⟩
     rw [← hlb] at HRe
     have HLB := Lib.hid hlb
     obtain ⟨oa, oc, rfl⟩ := own_form2 HRe.out
     clear hlb hsl
     rcases HCase.out with ⟨rfl, rfl⟩ | ⟨rfl, hse, hz⟩
     ·go_wp2_with fail
      go_ret
      exact ⟨rfl, HB8.out⟩
     by_cases hbig : 8192 < lb.length
     ·have hbI : (8192 : Int) < (lb.length : Int) := by omega
      clear hbig hse hz
      go_wp2_with fail
      go_ret
      exact ⟨rfl, HB8.out⟩
     have hbI : ¬ (8192 : Int) < (lb.length : Int) := by omega
     have HRd : Hid (readR R (bs lb) = .ok Z) := Lib.hid (by
      have e : lb = expL (textB R Z) := by rw [HLB.out, hse, bt_bs]
      rw [e]
      exact spaces_readR HE.out HZ5.out.1 (by rw [HZ2.out]; rfl) HNC.out (by rw [← e]; omega))
     have hcv := bytes_string HRe.out
     obtain ⟨sb, hsb⟩ : ∃ sb, sb = bs lb := ⟨_, rfl⟩
     rw [← hsb] at HRd hcv
     clear hbig hse hz hsb
     have q0 := HR8.out.cell 0 rfl; have q1 := HR8.out.cell 1 rfl; have q2 := HR8.out.cell 2 rfl; have q3 := HR8.out.cell 3 rfl; have q4 := HR8.out.cell 4 rfl; have q5 := HR8.out.cell 5 rfl; have q6 := HR8.out.cell 6 rfl; have q7 := HR8.out.cell 7 rfl; have q8 := HR8.out.cell 8 rfl; have q9 := HR8.out.cell 9 rfl; have q10 := HR8.out.cell 10 rfl
     have HRx := Lib.hid (recRead_any HSh.out HDh.out.1 HDh.out.2.1 HDh.out.2.2.1 HDh.out.2.2.2 sb wr (HR.out.below HB8.out (Nat.le_refl _)) HN.out ((HMx.out.below HB8.out).mono HB8.out.size))
     go_wp2_with fail
     refine HRx.out.mono ?_
     clear HRx q0 q1 q2 q3 q4 q5 q6 q7 q8 q9 q10 hcv
     intro e w9 hpost
     obtain ⟨hb9, ga, gc, fa, fc, rfl, hx9⟩ := rdPost_ok HE.out HRd.out hpost
     clear hpost
     obtain ⟨hg1, hg2⟩ : Z.tags.length ≤ gc ∧ gc ≤ 9223372036854775807 := by obtain ⟨_, _, e, h1, h2⟩ := hx9.1.form; unfold maxLen at h2; cases e; omega
     obtain ⟨hf1, hf2⟩ : Z.nodes.length ≤ fc ∧ fc ≤ 9223372036854775807 := by obtain ⟨_, _, e, h1, h2⟩ := hx9.2.1.form; unfold maxLen at h2; cases e; omega
     rw [HZ3.out] at hf1
     simp only [HZ1.out, HZ2.out, HZ3.out, HZ4.out]
     rw [HZ1.out, HZ3.out] at hx9
     clear hg1
     have HB9 := Lib.hid (below_trans HB8.out hb9 HB8.out.size)
     have HY9 := Lib.hid (HY8.out.stays hb9)
     have HX9 := Lib.hid hx9
     have HZr := Lib.hid (HZX.out.below HB9.out (Nat.le_refl _))
     have HN0 := Lib.hid (Box.new w9 [.slice none 0 0, .string ⟨#[]⟩, .slice none 0 0, .int .i64 0] 30)
     clear hb9 HR8 HY8 HB8 hx9
     go_upto_region 25 with (refine wpList_store_box (vs := [.slice ga 0 gc, .string ⟨#[]⟩, .slice fa Y.nodes.length fc, .int .i64 Y.result]) (by rfl) 30 (.tmp 10) (.tmp 98) w9.heap.size (by rfl) [.slice ga 0 gc, .string ⟨#[]⟩, .slice fa Y.nodes.length fc, .int .i64 Y.result] (by rfl) (by rfl) HN0.out rfl (by kernel_rfl) (by rfl) ?_)
     have hba : Below w9.heap.size w9 (w9.alloc (.cells #[.slice ga 0 gc, .string ⟨#[]⟩, .slice fa Y.nodes.length fc, .int .i64 Y.result] 30)) := (Below.refl _ _).alloc (Nat.le_refl _) _
     have HZ8 := Lib.hid (Box.new w9 [.slice ga 0 gc, .string ⟨#[]⟩, .slice fa Y.nodes.length fc, .int .i64 Y.result] 30)
     obtain ⟨bz, hbz⟩ : ∃ bz, bz = w9.heap.size := ⟨_, rfl⟩
     rw [← hbz] at HZ8 ⊢
     have HB10 := Lib.hid (below_trans HB9.out hba HB9.out.size)
     have HY10 := Lib.hid (HY9.out.stays hba)
     have HX10 := Lib.hid (HX9.out.below hba (Nat.le_refl _))
     have HZr10 := Lib.hid (HZr.out.below hba (Nat.le_refl _))
     generalize (w9.alloc (.cells #[.slice ga 0 gc, .string ⟨#[]⟩, .slice fa Y.nodes.length fc, .int .i64 Y.result] 30)) = w10 at *
     clear hba hbz HY9 HX9 HZr HN0
     have p0 := HY10.out.cell 0 rfl; have p1 := HY10.out.cell 1 rfl; have p2 := HY10.out.cell 2 rfl; have p3 := HY10.out.cell 3 rfl; have z0 := HZ8.out.cell 0 rfl; have z1 := HZ8.out.cell 1 rfl; have z2 := HZ8.out.cell 2 rfl; have z3 := HZ8.out.cell 3 rfl
     have HSm := Lib.hid (sameRec_any Z _ _ _ _ w10 HZr10.out HX10.out)
     unfold recV at HSm
     simp only [HZ2.out, HZ4.out] at HSm
     go_wp2_with fail
     refine HSm.out.mono ?_
     clear HSm
     rintro e w11 ⟨rfl, hb11⟩
     have HB11 := Lib.hid (below_trans HB10.out hb11 HB10.out.size)
     clear hb11 p0 p1 p2 p3 z0 z1 z2 z3
     go_wp2_with fail
     go_ret
     exact ⟨rfl, HB11.out⟩
end Go.Proofs.YthklhndcdijneaaGreatDoor.recordSpaces
namespace Go.Proofs.YthklhndcdijneaaGreatDoor
open Go.ChangeShapes Go.WideShapes Go.ChangeAt Go.RowKit
section
variable {H : Type} {enc : TypeId × Value → H} {P : Program} {W W' : World}
theorem trodAll_stays (hl : laidOutB P = true) (hb : Below W.heap.size W W') : ∀ {ts : List TypeId} {vs : List Value} {ds : List (DataW H)} {ps : List MemPlace},
  (ts.all fun t => P.readableRec t && decide (t < P.types.size)) = true → DataW.TrodAll enc P W 0 (fun _ => true) true ts vs ds ps →
  DataW.TrodAll enc P W' 0 (fun b => decide (b < W.heap.size)) true ts vs ds ps
 | [], [], [], _, _, h => h
 | t :: ts, v :: vs, d :: ds, ps, ht, ⟨p, q, h1, h2, e⟩ => by
  simp only [List.all_cons, Bool.and_eq_true, decide_eq_true_eq] at ht
  exact ⟨p, q, Below.trod hl ht.1.1 ht.1.2 h1 hb (by obtain ⟨m, hm⟩ := h1; exact DataW.trod_lt m _ _ _ hm), trodAll_stays hl hb ht.2 h2, e⟩
variable {r : Reach} {base : Nat} {t u : TypeId} {v : Value} {w : World}
theorem cell_slice {e : TypeId} (hu : P.underlying u = some (.slice e)) (h : Cell.okWide P w r base u v) : ∃ a len cap, v = .slice a len cap := by
 cases v <;> simp_all [Cell.okWide, Cell.ok]
/-- a struct by value: its cells, each of its own type. -/
theorem okWide_cells {fs : Array Field} {ts : List TypeId} (hs : P.underlying t = some (.struct fs)) (hts : P.cellTypes P.depth t = some ts) (hn : P.cellsOf t = ts.length)
  (h : Value.okWide P w r base t v) : ∃ cs : List Value, v = .agg cs.toArray ∧ cs.length = ts.length ∧ ∀ (i : Nat) (x : Value), cs[i]? = some x → ∃ u, ts[i]? = some u ∧ Cell.okWide P w r base u x := by
 simp only [Value.okWide, hs] at h
 obtain ⟨cs, rfl, hsz, ts', hts', _, hc⟩ := h
 rw [hts] at hts'
 cases hts'
 refine ⟨cs.toList, by simp, by simpa [hn] using hsz, fun i x hi => ?_⟩
 have hi' : cs[i]? = some x := by simpa using hi
 obtain ⟨u, hu, hx⟩ := hc i x hi'
 have hlt : i < ts.length := by
  have := (Array.getElem?_eq_some_iff.1 hi').1
  omega
 rw [Nat.mod_eq_of_lt hlt] at hu
 exact ⟨u, hu, hx⟩
end
end Go.Proofs.YthklhndcdijneaaGreatDoor
namespace Go.Proofs.YthklhndcdijneaaGreatDoor
open Go.ChangeShapes Go.WideShapes Go.ChangeAt Go.RowKit Go.Deep
set_option linter.unusedVariables false
set_option maxRecDepth 100000
section
variable {H : Type} {enc : TypeId × Value → H} {P : Program} {w : World}
theorem block_lt' {w : World} {p : Addr} {v : Value} (h : w.cell? p = some v) : p.block < w.heap.size := by
 rcases Nat.lt_or_ge p.block w.heap.size with hlt | hge
 ·exact hlt
 ·simp [World.cell?, Array.getElem?_eq_none hge] at h
theorem add_none' (b off n : Nat) : (⟨b, off, none⟩ : Addr).add n = ⟨b, off + n, none⟩ := by
 unfold Addr.add; split
 ·rename_i h; subst h; rfl
 ·rfl
/-- a slice whose elements are opened by hel. -/
theorem open_list {α : Type} (el : El α) {t e : TypeId} (hu : P.underlying t = some (.slice e)) (hC : P.cellsOf e = el.k) (hk : 0 < el.k)
  (hel : ∀ fuel cs y, DataW.trod enc P w 0 (fun _ => true) true fuel e cs = some y → ∃ x, el.E w x cs)
  {fuel : Nat} {cs : List Value} {y : DataW H × List MemPlace} (h : DataW.trod enc P w 0 (fun _ => true) true fuel t cs = some y) : ∃ v xs, cs = [v] ∧ RdL el w v xs := by
 rcases open_slice hu h with ⟨rfl, _⟩ | ⟨a, len, cap, m, n, D, Pl, rfl, hb, hl, hm, hmm, hx, hi⟩
 ·exact ⟨_, [], rfl, RdL.nil el w⟩
 ·simp only [if_true] at hmm
  obtain rfl : cap = m := hmm.symm
  by_cases h0 : len = 0
  ·subst h0
   exact ⟨_, [], rfl, .inl ⟨_, _, rfl, hm, rfl⟩⟩
  ·have hall : ∀ i : Fin len, ∃ x : α, ∃ cs', w.cells? 0 (a.add (i.1 * el.k)) el.k = some cs' ∧ el.E w x cs' := fun i => by
    obtain ⟨cs', h1, h2⟩ := hi i.1 (by omega)
    rw [hC] at h1
    obtain ⟨x, hx⟩ := hel _ _ _ h2
    exact ⟨x, cs', h1, hx⟩
   have hspot : a.spot = none ∧ a.block < w.heap.size := by
    obtain ⟨x, cs', h1, h2⟩ := hall ⟨0, by omega⟩
    have h3 := (World.cells?_some h1).2.2 0 hk
    have hl' := el.len h2
    rw [List.getElem?_eq_getElem (by omega)] at h3
    have h4 : w.cell? a = some cs'[0] := by simpa [Addr.add] using h3
    exact ⟨World.cell?_spot h4, block_lt' h4⟩
   obtain ⟨g, o, s⟩ := a
   obtain ⟨rfl, hg⟩ := hspot
   simp only at hg
   refine ⟨_, List.ofFn fun i => Classical.choose (hall i), rfl, .inr ⟨g, o, cap, by simp, by simpa using hl, hm, hg, fun i hi' => ?_⟩⟩
   have hi2 : i < len := by simpa using hi'
   obtain ⟨cs', h1, h2⟩ := Classical.choose_spec (hall ⟨i, hi2⟩)
   refine ⟨cs', by simpa using h2, fun j hj => ?_⟩
   have := (World.cells?_some h1).2.2 j hj
   rw [add_none', add_none'] at this
   exact this
theorem trod_flat {base : Nat} {spare : Nat → Bool} {held : Bool} {t : TypeId} {fs : Array Field} {fuel : Nat} {cs : List Value} {x : DataW H × List MemPlace} (ht : P.underlying t = some (.struct fs)) (h1 : oneCellFields P fs = true)
  (h : DataW.trod enc P w base spare held fuel t cs = some x) : ∃ (xs : List (DataW H × List MemPlace)) (n : Nat), cs.length = P.cellsOf t ∧ xs.length = fs.size ∧ ∀ (i : Nat) (f : Field), fs[i]? = some f → DataW.trod enc P w base spare held n f.type ((cs.drop i).take 1) = xs[i]? := by
 obtain ⟨xs, n, _, _, hl, hx, hf⟩ := DataW.trod_struct ht h
 refine ⟨xs, n, hl, hx, fun i f hi => ?_⟩
 obtain ⟨o, q⟩ := hone_of h1 i f hi
 have := hf i f hi
 rw [o, q] at this
 exact this
theorem four_cells {cs : List Value} (h : cs.length = 4) : ∃ a b c d, cs = [a, b, c, d] := by
 match cs, h with
 | [a, b, c, d], _ => exact ⟨a, b, c, d, rfl⟩
theorem three_cells {cs : List Value} (h : cs.length = 3) : ∃ a b c, cs = [a, b, c] := by
 match cs, h with
 | [a, b, c], _ => exact ⟨a, b, c, rfl⟩
theorem open_way (fuel : Nat) (cs : List Value) (y : DataW H × List MemPlace) (h : DataW.trod enc Tryz.prog w 0 (fun _ => true) true fuel 120 cs = some y) : ∃ x, wayEl.E w x cs := by
 obtain ⟨xs, n, hlen, hxl, hf⟩ := trod_flat Tryz.underlying120 (by kernel_rfl) h
 obtain ⟨a, b, c, d, rfl⟩ := four_cells (hlen.trans (by kernel_rfl))
 have hx : xs.length = 4 := hxl
 obtain ⟨y0, y1, y2, y3, rfl⟩ : ∃ a b c d, xs = [a, b, c, d] := by
  match xs, hx with
  | [a, b, c, d], _ => exact ⟨a, b, c, d, rfl⟩
 have f0 := hf 0 _ rfl
 have f1 := hf 1 _ rfl
 have f2 := hf 2 _ rfl
 have f3 := hf 3 _ rfl
 obtain ⟨n0, e0, -, -⟩ := DataW.trod_int Tryz.underlying3 f0
 obtain ⟨n1, e1, -, -⟩ := DataW.trod_int Tryz.underlying3 f1
 obtain ⟨n2, e2, -, -⟩ := DataW.trod_int Tryz.underlying3 f2
 obtain ⟨n3, e3, -, -⟩ := DataW.trod_int Tryz.underlying3 f3
 simp at e0 e1 e2 e3
 subst e0 e1 e2 e3
 exact ⟨⟨n0, n1, n2, n3⟩, rfl⟩
theorem open_piece (fuel : Nat) (cs : List Value) (y : DataW H × List MemPlace) (h : DataW.trod enc Tryz.prog w 0 (fun _ => true) true fuel 84 cs = some y) : ∃ x, pieceEl.E w x cs := by
 obtain ⟨xs, n, hlen, hxl, hf⟩ := trod_flat Tryz.underlying84 (by kernel_rfl) h
 obtain ⟨a, b, c, d, rfl⟩ := four_cells (hlen.trans (by kernel_rfl))
 have hx : xs.length = 4 := hxl
 obtain ⟨y0, y1, y2, y3, rfl⟩ : ∃ a b c d, xs = [a, b, c, d] := by
  match xs, hx with
  | [a, b, c, d], _ => exact ⟨a, b, c, d, rfl⟩
 have f0 := hf 0 _ rfl
 have f1 := hf 1 _ rfl
 have f2 := hf 2 _ rfl
 have f3 := hf 3 _ rfl
 obtain ⟨n0, e0, -, -⟩ := DataW.trod_int Tryz.underlying5 f0
 obtain ⟨n1, e1, -, -⟩ := DataW.trod_int Tryz.underlying3 f1
 obtain ⟨n2, e2, -, -⟩ := DataW.trod_int Tryz.underlying3 f2
 obtain ⟨v, ws, e3, hr⟩ := open_list wayEl Tryz.underlying82 (by kernel_rfl) (by decide) (open_way (enc := enc) (w := w)) f3
 simp at e0 e1 e2 e3
 subst e0 e1 e2 e3
 exact ⟨⟨n0, n1, n2, ws⟩, d, rfl, hr⟩
theorem open_end (fuel : Nat) (cs : List Value) (y : DataW H × List MemPlace) (h : DataW.trod enc Tryz.prog w 0 (fun _ => true) true fuel 86 cs = some y) : ∃ x, endEl.E w x cs := by
 obtain ⟨xs, n, hlen, hxl, hf⟩ := trod_flat Tryz.underlying86 (by kernel_rfl) h
 obtain ⟨a, b, c, d, rfl⟩ := four_cells (hlen.trans (by kernel_rfl))
 have hx : xs.length = 4 := hxl
 obtain ⟨y0, y1, y2, y3, rfl⟩ : ∃ a b c d, xs = [a, b, c, d] := by
  match xs, hx with
  | [a, b, c, d], _ => exact ⟨a, b, c, d, rfl⟩
 have f0 := hf 0 _ rfl
 have f1 := hf 1 _ rfl
 have f2 := hf 2 _ rfl
 have f3 := hf 3 _ rfl
 obtain ⟨n0, e0, -, -⟩ := DataW.trod_int Tryz.underlying3 f0
 obtain ⟨n1, e1, -, -⟩ := DataW.trod_int Tryz.underlying3 f1
 obtain ⟨n2, e2, -, -⟩ := DataW.trod_int Tryz.underlying3 f2
 obtain ⟨n3, e3, -⟩ := DataW.trod_bool Tryz.underlying4 f3
 simp at e0 e1 e2 e3
 subst e0 e1 e2 e3
 exact ⟨⟨n0, n1, n2, n3⟩, rfl⟩
theorem cellOk_spot {r : Reach} {base : Nat} {t e : TypeId} {v : Value} (hu : P.underlying t = some (.slice e)) (hv : Cell.okWide P w r base t v) : (∃ len cap, v = .slice none len cap) ∨ ∃ g o len cap, v = .slice (some ⟨g, o, none⟩) len cap := by
 obtain ⟨a, len, cap, rfl⟩ := cell_slice hu hv
 cases a with
 | none => exact .inl ⟨_, _, rfl⟩
 | some a =>
  obtain ⟨g, o, s⟩ := a
  simp [Cell.okWide, Cell.ok, hu] at hv
  have := hv.2.2.2.1
  subst this
  exact .inr ⟨g, o, _, _, rfl⟩
/-- a slice of integers in a cell. -/
theorem open_ints_cell {r : Reach} {base : Nat} {t e : TypeId} {v : Value} {fuel : Nat} {y : DataW H × List MemPlace} (hu : P.underlying t = some (.slice e)) (he : P.underlying e = some (.int .i64)) (hc : P.cellsOf e = 1)
  (hv : Cell.okWide P w r base t v) (h : DataW.trod enc P w 0 (fun _ => true) true fuel t [v] = some y) : ∃ zs, RdI w v zs := by
 rcases cellOk_spot hu hv with ⟨len, cap, rfl⟩ | ⟨g, o, len, cap, rfl⟩
 ·rcases open_ints hu he hc h with ⟨hcs, _⟩ | ⟨a, len', cap', zs, hcs, _⟩
  ·simp at hcs
   obtain ⟨rfl, rfl⟩ := hcs
   exact ⟨[], Rd.nil _ _⟩
  ·simp at hcs
 ·rcases open_ints hu he hc h with ⟨hcs, _⟩ | ⟨a, len', cap', zs, hcs, _, hl, hm, hz, _, hcell, hwz⟩
  ·simp at hcs
  ·simp at hcs
   obtain ⟨rfl, rfl, rfl⟩ := hcs
   simp only [if_true] at hz
   refine ⟨zs.take len, by simp [ints], .inr ⟨g, o, cap, by simp [hz, hl], by simp [hz, hl], hm, fun i hi => ?_⟩⟩
   have hi' : i < len := by simp at hi; omega
   have := hcell i (by omega)
   rw [add_none'] at this
   rw [this, ints_get _ i (by simp; omega)]
   congr 2
   simp [List.getD, hi']
theorem open_R {r : Reach} {base : Nat} {v : Value} {d : DataW H} {p : List MemPlace} (hv : Value.okWide Tryz.prog w r base 26 v) (h : DataW.Trod enc Tryz.prog w 0 (fun _ => true) true 26 v d p) :
  ∃ (R : RulesZ) (vp vs ve : Value), v = rulesV R vp vs ve ∧ RdR w R vp vs ve ∧ R.name.size ≤ maxLen := by
 obtain ⟨cs, rfl, hl, hcell⟩ := okWide_cells (ts := [9, 3, 3, 22, 23, 4, 4, 24, 3, 3, 3]) Tryz.underlying26 (by kernel_rfl) (by kernel_rfl) hv
 obtain ⟨fuel, hf⟩ := h
 simp only [Value.cells] at hf
 obtain ⟨xs, n, _, hxl, hf⟩ := trod_flat Tryz.underlying26 (by kernel_rfl) hf
 obtain ⟨k0, k1, k2, k3, k4, k5, k6, k7, k8, k9, k10, rfl⟩ : ∃ k0 k1 k2 k3 k4 k5 k6 k7 k8 k9 k10, cs = [k0, k1, k2, k3, k4, k5, k6, k7, k8, k9, k10] := by
  match cs, hl with
  | [k0, k1, k2, k3, k4, k5, k6, k7, k8, k9, k10], _ => exact ⟨k0, k1, k2, k3, k4, k5, k6, k7, k8, k9, k10, rfl⟩
 have hx : xs.length = 11 := hxl
 obtain ⟨y0, y1, y2, y3, y4, y5, y6, y7, y8, y9, y10, rfl⟩ : ∃ k0 k1 k2 k3 k4 k5 k6 k7 k8 k9 k10, xs = [k0, k1, k2, k3, k4, k5, k6, k7, k8, k9, k10] := by
  match xs, hx with
  | [k0, k1, k2, k3, k4, k5, k6, k7, k8, k9, k10], _ => exact ⟨k0, k1, k2, k3, k4, k5, k6, k7, k8, k9, k10, rfl⟩
 have ci : Tryz.prog.cellsOf 3 = 1 := by kernel_rfl
 have f0 := hf 0 _ rfl
 have f1 := hf 1 _ rfl
 have f2 := hf 2 _ rfl
 have f3 := hf 3 _ rfl
 have f4 := hf 4 _ rfl
 have f5 := hf 5 _ rfl
 have f6 := hf 6 _ rfl
 have f7 := hf 7 _ rfl
 have f8 := hf 8 _ rfl
 have f9 := hf 9 _ rfl
 have f10 := hf 10 _ rfl
 obtain ⟨s, e0, -, hs⟩ := DataW.trod_string Tryz.underlying9 f0
 obtain ⟨n1, e1, -, -⟩ := DataW.trod_int Tryz.underlying3 f1
 obtain ⟨n2, e2, -, -⟩ := DataW.trod_int Tryz.underlying3 f2
 obtain ⟨v3, ps, e3, hp⟩ := open_list pieceEl Tryz.underlying22 (by kernel_rfl) (by decide) (open_piece (enc := enc) (w := w)) f3
 obtain ⟨b5, e5, -⟩ := DataW.trod_bool Tryz.underlying4 f5
 obtain ⟨b6, e6, -⟩ := DataW.trod_bool Tryz.underlying4 f6
 obtain ⟨v7, es, e7, he⟩ := open_list endEl Tryz.underlying24 (by kernel_rfl) (by decide) (open_end (enc := enc) (w := w)) f7
 obtain ⟨n8, e8, -, -⟩ := DataW.trod_int Tryz.underlying3 f8
 obtain ⟨n9, e9, -, -⟩ := DataW.trod_int Tryz.underlying3 f9
 obtain ⟨n10, e10, -, -⟩ := DataW.trod_int Tryz.underlying3 f10
 simp at e0 e1 e2 e3 e5 e6 e7 e8 e9 e10
 subst e0 e1 e2 e3 e5 e6 e7 e8 e9 e10
 obtain ⟨u, hu, hc4⟩ := hcell 4 k4 rfl
 simp at hu
 subst hu
 obtain ⟨zs, hz⟩ := open_ints_cell Tryz.underlying23 Tryz.underlying3 ci hc4 (by simpa using f4)
 exact ⟨⟨s, n1, n2, ps, zs, b5, b6, es, n8, n9, n10⟩, k3, k4, k7, rfl, ⟨hp, hz, he⟩, hs⟩
end
end Go.Proofs.YthklhndcdijneaaGreatDoor
namespace Go.Proofs.YthklhndcdijneaaGreatDoor
open Go.ChangeShapes Go.WideShapes Go.ChangeAt Go.RowKit Go.Deep
set_option linter.unusedVariables false
section
variable {H : Type} {enc : TypeId × Value → H} {w : World}
set_option maxRecDepth 100000 in
theorem open_move (fuel : Nat) (cs : List Value) (y : DataW H × List MemPlace) (h : DataW.trod enc Tryz.prog w 0 (fun _ => true) true fuel 44 cs = some y) : ∃ x, moveEl.E w x cs := by
 obtain ⟨xs, n, hlen, hxl, hf⟩ := trod_flat Tryz.underlying44 (by kernel_rfl) h
 obtain ⟨a, b, c, rfl⟩ := three_cells (hlen.trans (by kernel_rfl))
 have hx : xs.length = 3 := hxl
 obtain ⟨y0, y1, y2, rfl⟩ : ∃ a b c, xs = [a, b, c] := by
  match xs, hx with
  | [a, b, c], _ => exact ⟨a, b, c, rfl⟩
 have f0 := hf 0 _ rfl
 have f1 := hf 1 _ rfl
 have f2 := hf 2 _ rfl
 obtain ⟨n0, e0, -, -⟩ := DataW.trod_int Tryz.underlying3 f0
 obtain ⟨n1, e1, -, -⟩ := DataW.trod_int Tryz.underlying3 f1
 obtain ⟨n2, e2, -, -⟩ := DataW.trod_int Tryz.underlying3 f2
 simp at e0 e1 e2
 subst e0 e1 e2
 exact ⟨⟨n0, n1, n2⟩, rfl⟩
end
end Go.Proofs.YthklhndcdijneaaGreatDoor
namespace Go.Proofs.YthklhndcdijneaaGreatDoor
open Go.ChangeShapes Go.WideShapes Go.ChangeAt Go.RowKit Go.Deep
set_option linter.unusedVariables false
section
variable {H : Type} {enc : TypeId × Value → H} {w : World}
theorem fld {P : Program} {base : Nat} {spare : Nat → Bool} {held : Bool} {fs : Array Field} {n : Nat} {cs : List Value} {xs : List (DataW H × List MemPlace)}
  (hf : ∀ (i : Nat) (f : Field), fs[i]? = some f → DataW.trod enc P w base spare held n f.type ((cs.drop f.offset).take (P.cellsOf f.type)) = xs[i]?) (i o k : Nat) (ti : TypeId)
  (h : (fs[i]?.map fun f => (f.offset, f.type)) = some (o, ti)) (hk : P.cellsOf ti = k) : DataW.trod enc P w base spare held n ti ((cs.drop o).take k) = xs[i]? := by
 simp only [Option.map_eq_some_iff, Prod.mk.injEq] at h
 obtain ⟨f, hi, rfl, rfl⟩ := h
 have := hf i f hi
 rw [hk] at this
 exact this
end
end Go.Proofs.YthklhndcdijneaaGreatDoor
namespace Go.Proofs.YthklhndcdijneaaGreatDoor
open Go.ChangeShapes Go.WideShapes Go.ChangeAt Go.RowKit Go.Deep
set_option linter.unusedVariables false
section
variable {H : Type} {enc : TypeId × Value → H} {w : World}
end
end Go.Proofs.YthklhndcdijneaaGreatDoor
namespace Go.Proofs.YthklhndcdijneaaGreatDoor
open Go.ChangeShapes Go.WideShapes Go.ChangeAt Go.RowKit Go.Deep
set_option linter.unusedVariables false
set_option maxRecDepth 100000
section
variable {H : Type} {enc : TypeId × Value → H} {w : World}
theorem five_cells {cs : List Value} (h : cs.length = 5) : ∃ a b c d e, cs = [a, b, c, d, e] := by
 match cs, h with
 | [a, b, c, d, e], _ => exact ⟨a, b, c, d, e, rfl⟩
theorem two_cells {cs : List Value} (h : cs.length = 2) : ∃ a b, cs = [a, b] := by
 match cs, h with
 | [a, b], _ => exact ⟨a, b, rfl⟩
theorem open_node (fuel : Nat) (cs : List Value) (y : DataW H × List MemPlace) (h : DataW.trod enc Tryz.prog w 0 (fun _ => true) true fuel 46 cs = some y) : ∃ x, nodeEl.E w x cs := by
 obtain ⟨xs, n, _, _, hlen, hxl, hf⟩ := DataW.trod_struct Tryz.underlying46 h
 obtain ⟨a, b, c, d, e, rfl⟩ := five_cells (hlen.trans (by kernel_rfl))
 have f0 := fld hf 0 0 1 3 (by kernel_rfl) (by kernel_rfl)
 have f1 := fld hf 1 1 3 44 (by kernel_rfl) (by kernel_rfl)
 have f2 := fld hf 2 4 1 9 (by kernel_rfl) (by kernel_rfl)
 have hx : xs.length = 3 := hxl
 obtain ⟨y0, y1, y2, rfl⟩ : ∃ a b c, xs = [a, b, c] := by
  match xs, hx with
  | [a, b, c], _ => exact ⟨a, b, c, rfl⟩
 obtain ⟨n0, e0, -, -⟩ := DataW.trod_int Tryz.underlying3 f0
 obtain ⟨m, hm⟩ := open_move (enc := enc) (w := w) _ _ _ f1
 obtain ⟨s, e2, -, hs⟩ := DataW.trod_string Tryz.underlying9 f2
 simp only [moveEl] at hm
 simp at e0 hm e2
 obtain ⟨rfl, rfl, rfl⟩ := hm
 subst e0 e2
 exact ⟨⟨n0, m, s⟩, rfl, hs⟩
theorem open_tag (fuel : Nat) (cs : List Value) (y : DataW H × List MemPlace) (h : DataW.trod enc Tryz.prog w 0 (fun _ => true) true fuel 58 cs = some y) : ∃ x, tagEl.E w x cs := by
 obtain ⟨xs, n, hlen, hxl, hf⟩ := trod_flat Tryz.underlying58 (by kernel_rfl) h
 obtain ⟨a, b, rfl⟩ := two_cells (hlen.trans (by kernel_rfl))
 have hx : xs.length = 2 := hxl
 obtain ⟨y0, y1, rfl⟩ : ∃ a b, xs = [a, b] := by
  match xs, hx with
  | [a, b], _ => exact ⟨a, b, rfl⟩
 have f0 := hf 0 _ rfl
 have f1 := hf 1 _ rfl
 obtain ⟨s0, e0, -, hs0⟩ := DataW.trod_string Tryz.underlying9 f0
 obtain ⟨s1, e1, -, hs1⟩ := DataW.trod_string Tryz.underlying9 f1
 simp at e0 e1
 subst e0 e1
 exact ⟨⟨s0, s1⟩, rfl, hs0, hs1⟩
theorem open_Rec {r : Reach} {base : Nat} {v : Value} {d : DataW H} {p : List MemPlace} (hv : Value.okWide Tryz.prog w r base 30 v) (h : DataW.Trod enc Tryz.prog w 0 (fun _ => true) true 30 v d p) :
  ∃ (X : RecZ) (vt vn : Value), v = recV X vt vn ∧ RdX w X vt vn := by
 obtain ⟨cs, rfl, hl, hcell⟩ := okWide_cells (ts := [27, 9, 28, 3]) Tryz.underlying30 (by kernel_rfl) (by kernel_rfl) hv
 obtain ⟨fuel, hf⟩ := h
 simp only [Value.cells] at hf
 obtain ⟨xs, n, _, hxl, hf⟩ := trod_flat Tryz.underlying30 (by kernel_rfl) hf
 obtain ⟨a, b, c, d, rfl⟩ := four_cells hl
 have hx : xs.length = 4 := hxl
 obtain ⟨y0, y1, y2, y3, rfl⟩ : ∃ a b c d, xs = [a, b, c, d] := by
  match xs, hx with
  | [a, b, c, d], _ => exact ⟨a, b, c, d, rfl⟩
 have f0 := hf 0 _ rfl
 have f1 := hf 1 _ rfl
 have f2 := hf 2 _ rfl
 have f3 := hf 3 _ rfl
 obtain ⟨v0, ts, e0, h0⟩ := open_list tagEl Tryz.underlying27 (by kernel_rfl) (by decide) (open_tag (enc := enc) (w := w)) f0
 obtain ⟨s1, e1, -, hs1⟩ := DataW.trod_string Tryz.underlying9 f1
 obtain ⟨v2, ns, e2, h2⟩ := open_list nodeEl Tryz.underlying28 (by kernel_rfl) (by decide) (open_node (enc := enc) (w := w)) f2
 obtain ⟨n3, e3, -, -⟩ := DataW.trod_int Tryz.underlying3 f3
 simp at e0 e1 e2 e3
 subst e0 e1 e2 e3
 exact ⟨⟨ts, s1, ns, n3⟩, a, c, rfl, h0, h2, hs1⟩
end
end Go.Proofs.YthklhndcdijneaaGreatDoor

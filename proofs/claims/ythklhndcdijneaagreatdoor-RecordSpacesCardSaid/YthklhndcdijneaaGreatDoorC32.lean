/- RecK, RdI, RwA. -/
import Derived.Test.YthklhndcdijneaaGreatDoorC31
import Derived.BigQuiet
import Derived.Deep.Cut
import Derived.Deep.QuietTactic
import Derived.Test.YthklhndcdijneaaGreatDoorC30
import Derived.Test.YthklhndcdijneaaGreatDoorC05
import Derived.Test.YthklhndcdijneaaGreatDoorC27
import Derived.Test.YthklhndcdijneaaGreatDoorC03
import Derived.Deep.CutRange
import Derived.Test.YthklhndcdijneaaGreatDoorC26
namespace Go.Proofs.YthklhndcdijneaaGreatDoor
open Go.ChangeShapes Go.WideShapes Go.ChangeAt Go.RowKit
set_option linter.unusedVariables false
theorem depE_b {R : RulesZ} {ns : List NodeZ} {ds : List Int} {i : Nat} (hd : ∀ k, 0 ≤ ds.getD k 0 ∧ ds.getD k 0 ≤ 20) (h : nodeE R ns ds i = 0) : 0 ≤ depE ns ds i ∧ depE ns ds i ≤ 20 := by
 constructor
 ·unfold depE
  have := hd (ndAt ns i).parent.toNat
  have := hd i
  split <;> split <;> omega
 ·unfold nodeE at h
  by_cases h1 : cmtErr (ndAt ns i).comment ≠ 0
  ·rw [if_pos h1] at h; exact absurd h h1
  rw [if_neg h1] at h
  by_cases h2 : (i : Int) ≤ (ndAt ns i).parent ∨ onB ns (ndAt ns i).parent ((i : Int) - 1) = false
  ·rw [if_pos h2] at h; cases h
  rw [if_neg h2] at h
  by_cases h3 : twinB ns i = true
  ·rw [if_pos h3] at h; cases h
  rw [if_neg h3] at h
  by_cases h4 : runErr R (wayI ns i) ≠ 0
  ·rw [if_pos h4] at h; exact absurd h h4
  rw [if_neg h4] at h
  by_cases h5 : 20 < depE ns ds i
  ·rw [if_pos h5] at h; cases h
  ·omega
theorem set_b {ds : List Int} (hd : ∀ k, 0 ≤ ds.getD k 0 ∧ ds.getD k 0 ≤ 20) (i : Nat) (v : Int) (hv : 0 ≤ v ∧ v ≤ 20) (k : Nat) : 0 ≤ (ds.set i v).getD k 0 ∧ (ds.set i v).getD k 0 ≤ 20 := by
 rw [List.getD_eq_getElem?_getD, List.getElem?_set]
 by_cases e : i = k
 ·rw [if_pos e]
  split
  ·exact hv
  ·simp
 ·rw [if_neg e, ← List.getD_eq_getElem?_getD]; exact hd k
set_option maxRecDepth 100000 in
set_option maxHeartbeats 16000000 in
theorem recCheck_any (HS : SortMvSaid) (R : RulesZ) (vp vs ve : Value) (X : RecZ) (vt vn : Value) (w : World) (hr : RdR w R vp vs ve) (hnm : R.name.size ≤ maxLen) (hx : RdX w X vt vn) :
  Calls Tryz.prog 9 #[(.agg #[.string R.name, .int .i64 R.width, .int .i64 R.height, vp, vs, .bool R.falls, .bool R.keeps, ve, .int .i64 R.blocked, .int .i64 R.quiet, .int .i64 R.rept]), recV X vt vn] w fun e w' => e = .returned (.int .i64 (recErr R X)) ∧ Below w.heap.size w w' := by
 have HSh := Lib.hid HS
 have HR := Lib.hid hr
 have HN := Lib.hid hnm
 have HX := Lib.hid hx
 have HE : Hid (recErr R X = if rulesErr R ≠ 0 then rulesErr R else if 10 < X.tags.length ∨ 200 < X.nodes.length then 2 else if tagsE X.tags ≠ 0 then tagsE X.tags else
  if X.result < 0 ∨ 3 < X.result then 4 else if cmtErr X.comment ≠ 0 then cmtErr X.comment else nodesE R X.nodes X.nodes.length 0 (List.replicate X.nodes.length 0)) := Lib.hid rfl
 obtain ⟨na, nc, rfl, hn1, hn2⟩ := hx.2.1.form
 obtain ⟨ta, tc, rfl, ht1, ht2⟩ := hx.1.form
 obtain ⟨i0, hi, hz0, hz1, hz2⟩ := info_parts info3
 have hcs := hx.2.2
 unfold maxLen at hn2 ht2
 clear hr hnm hx HS
 unfold recV
 go_enter Tryz.func9, Tryz.ntmps9
 go_upto_region 1 with (fail)
 obtain ⟨bR, hbR⟩ : ∃ bR, bR = w.heap.size := ⟨_, rfl⟩
 obtain ⟨bX, hbX⟩ : ∃ bX, bX = w.heap.size + 1 := ⟨_, rfl⟩
 have HbR : Hid (Box ((w.alloc (.cells #[.string R.name, .int .i64 R.width, .int .i64 R.height, vp, vs, .bool R.falls, .bool R.keeps, ve, .int .i64 R.blocked, .int .i64 R.quiet, .int .i64 R.rept] 26)).alloc (.cells #[.slice ta X.tags.length tc, .string X.comment, .slice na X.nodes.length nc, .int .i64 X.result] 30)) bR [.string R.name, .int .i64 R.width, .int .i64 R.height, vp, vs, .bool R.falls, .bool R.keeps, ve, .int .i64 R.blocked, .int .i64 R.quiet, .int .i64 R.rept] 26) := Lib.hid ((Box.new' w bR [.string R.name, .int .i64 R.width, .int .i64 R.height, vp, vs, .bool R.falls, .bool R.keeps, ve, .int .i64 R.blocked, .int .i64 R.quiet, .int .i64 R.rept] 26 hbR.symm).alloc _)
 have HbX : Hid (Box ((w.alloc (.cells #[.string R.name, .int .i64 R.width, .int .i64 R.height, vp, vs, .bool R.falls, .bool R.keeps, ve, .int .i64 R.blocked, .int .i64 R.quiet, .int .i64 R.rept] 26)).alloc (.cells #[.slice ta X.tags.length tc, .string X.comment, .slice na X.nodes.length nc, .int .i64 X.result] 30)) bX [.slice ta X.tags.length tc, .string X.comment, .slice na X.nodes.length nc, .int .i64 X.result] 30) := Lib.hid (Box.new' (w.alloc (.cells #[.string R.name, .int .i64 R.width, .int .i64 R.height, vp, vs, .bool R.falls, .bool R.keeps, ve, .int .i64 R.blocked, .int .i64 R.quiet, .int .i64 R.rept] 26)) bX [.slice ta X.tags.length tc, .string X.comment, .slice na X.nodes.length nc, .int .i64 X.result] 30 (by rw [World.size_alloc, hbX]))
 have HB : Hid (Below w.heap.size w ((w.alloc (.cells #[.string R.name, .int .i64 R.width, .int .i64 R.height, vp, vs, .bool R.falls, .bool R.keeps, ve, .int .i64 R.blocked, .int .i64 R.quiet, .int .i64 R.rept] 26)).alloc (.cells #[.slice ta X.tags.length tc, .string X.comment, .slice na X.nodes.length nc, .int .i64 X.result] 30))) := Lib.hid (((Below.refl w.heap.size w).alloc (Nat.le_refl _) _).alloc (by rw [World.size_alloc]; omega) _)
 rw [← hbR, show bR + 1 = bX by omega]
 clear hbX hbR
 generalize ((w.alloc (.cells #[.string R.name, .int .i64 R.width, .int .i64 R.height, vp, vs, .bool R.falls, .bool R.keeps, ve, .int .i64 R.blocked, .int .i64 R.quiet, .int .i64 R.rept] 26)).alloc (.cells #[.slice ta X.tags.length tc, .string X.comment, .slice na X.nodes.length nc, .int .i64 X.result] 30)) = w0 at *
 refine wp_region_lit ?_
 refine wpList_load_box (by rfl) 26 (.tmp 2) (by rfl) bR (by rfl) HbR.out Tryz.underlying26 (by rfl) (by kernel_rfl) ?_
 go_wp2_with fail
 refine (rulesCheck_any R vp vs ve _ (HR.out.below HB.out (Nat.le_refl _)) HN.out).mono ?_
 rintro e w1 ⟨rfl, hb1⟩
 have HB1 := Lib.hid (HB.out.trans (hb1.mono HB.out.size))
 have HbR1 := Lib.hid (HbR.out.stays hb1)
 have HbX1 := Lib.hid (HbX.out.stays hb1)
 clear HB HbR HbX hb1
 by_cases hre : rulesErr R = 0
 rotate_left
 ·have HF : Hid (recErr R X = rulesErr R) := Lib.hid (by rw [HE.out, if_pos hre])
  generalize hrr : rulesErr R = re at *
  clear hrr
  go_wp2_with fail
  go_ret
  exact ⟨by rw [HF.out]; rfl, HB1.out⟩
 have HE1 : Hid (recErr R X = if 10 < X.tags.length ∨ 200 < X.nodes.length then 2 else if tagsE X.tags ≠ 0 then tagsE X.tags else
  if X.result < 0 ∨ 3 < X.result then 4 else if cmtErr X.comment ≠ 0 then cmtErr X.comment else nodesE R X.nodes X.nodes.length 0 (List.replicate X.nodes.length 0)) := Lib.hid (by rw [HE.out, if_neg (fun h => h hre)])
 rw [hre]
 clear hre HE
 have x0 := HbX1.out.cell 0 rfl
 have x2 := HbX1.out.cell 2 rfl
 have hxl := HbX1.out.lt
 by_cases ht10 : (10 : Int) < (X.tags.length : Int)
 ·have HF : Hid (recErr R X = 2) := Lib.hid (by rw [HE1.out, if_pos (.inl (by omega))])
  go_wp2_with fail
  go_ret
  exact ⟨by rw [HF.out]; rfl, HB1.out⟩
 by_cases hn200 : (200 : Int) < (X.nodes.length : Int)
 ·have HF : Hid (recErr R X = 2) := Lib.hid (by rw [HE1.out, if_pos (.inr (by omega))])
  go_wp2_with fail
  go_ret
  exact ⟨by rw [HF.out]; rfl, HB1.out⟩
 have HE2 : Hid (recErr R X = if tagsE X.tags ≠ 0 then tagsE X.tags else
  if X.result < 0 ∨ 3 < X.result then 4 else if cmtErr X.comment ≠ 0 then cmtErr X.comment else nodesE R X.nodes X.nodes.length 0 (List.replicate X.nodes.length 0)) := Lib.hid (by rw [HE1.out, if_neg (by omega)])
 clear HE1
 have HTg := fun w' hb => tags_any X (.slice ta X.tags.length tc) (.slice na X.nodes.length nc) w' (HX.out.below hb (Nat.le_refl _)) (by omega)
 have HTg := Lib.hid HTg
 go_upto_region 6 with (fail)
 refine wp_region_lit ?_
 refine wpList_load_box (by rfl) 30 (.tmp 3) (by rfl) bX (by rfl) HbX1.out Tryz.underlying30 (by rfl) (by kernel_rfl) ?_
 go_wp2_with fail
 refine (HTg.out _ HB1.out).mono ?_
 rintro e w2 ⟨rfl, hb2⟩
 have HB2 := Lib.hid (HB1.out.trans (hb2.mono HB1.out.size))
 have HbR2 := Lib.hid (HbR1.out.stays hb2)
 have HbX2 := Lib.hid (HbX1.out.stays hb2)
 clear HB1 HbR1 HbX1 hb2 x0 x2 HTg
 by_cases hte : tagsE X.tags = 0
 rotate_left
 ·have HF : Hid (recErr R X = tagsE X.tags) := Lib.hid (by rw [HE2.out, if_pos hte])
  generalize hrr : tagsE X.tags = re at *
  clear hrr
  go_wp2_with fail
  go_ret
  exact ⟨by rw [HF.out]; rfl, HB2.out⟩
 have HE3 : Hid (recErr R X = if X.result < 0 ∨ 3 < X.result then 4 else if cmtErr X.comment ≠ 0 then cmtErr X.comment else nodesE R X.nodes X.nodes.length 0 (List.replicate X.nodes.length 0)) := Lib.hid (by rw [HE2.out, if_neg (fun h => h hte)])
 rw [hte]
 clear hte HE2
 have x1 := HbX2.out.cell 1 rfl
 have x2 := HbX2.out.cell 2 rfl
 have x3 := HbX2.out.cell 3 rfl
 have hxl := HbX2.out.lt
 by_cases hr0 : X.result < 0
 ·have HF : Hid (recErr R X = 4) := Lib.hid (by rw [HE3.out, if_pos (.inl hr0)])
  go_wp2_with fail
  go_ret
  exact ⟨by rw [HF.out]; rfl, HB2.out⟩
 by_cases hr3 : 3 < X.result
 ·have HF : Hid (recErr R X = 4) := Lib.hid (by rw [HE3.out, if_pos (.inr hr3)])
  go_wp2_with fail
  go_ret
  exact ⟨by rw [HF.out]; rfl, HB2.out⟩
 have HE4 : Hid (recErr R X = if cmtErr X.comment ≠ 0 then cmtErr X.comment else nodesE R X.nodes X.nodes.length 0 (List.replicate X.nodes.length 0)) := Lib.hid (by rw [HE3.out, if_neg (by omega)])
 have HCm := Lib.hid (comment_any X.comment w2 hcs)
 clear HE3
 by_cases hce : cmtErr X.comment = 0
 rotate_left
 ·have HF : Hid (recErr R X = cmtErr X.comment) := Lib.hid (by rw [HE4.out, if_pos hce])
  generalize hrr : cmtErr X.comment = re at *
  clear hrr
  go_wp2_with (go_at_call 17; refine HCm.out.mono ?_; rintro e w5 ⟨rfl, rfl⟩)
  go_ret
  exact ⟨by rw [HF.out]; rfl, HB2.out⟩
 have HE5 : Hid (recErr R X = nodesE R X.nodes X.nodes.length 0 (List.replicate X.nodes.length 0)) := Lib.hid (by rw [HE4.out, if_neg (fun h => h hce)])
 rw [hce] at HCm
 clear hce HE4
 obtain ⟨bb, hbb⟩ : ∃ bb, bb = w2.heap.size := ⟨_, rfl⟩
 go_upto_region 15 with (first
  | (go_at_call 17; refine HCm.out.mono ?_; rintro e w5 ⟨rfl, rfl⟩)
  | (at_make; refine wpList_make_full _ rfl _ _ 23 rfl w2.heap.size 3 i0 (.int .i64 0) 1 Tryz.underlying23 hi hz0 hz1 .i64 .i64 X.nodes.length X.nodes.length X.nodes.length rfl rfl rfl rfl (by rw [hz2]; omega) (by unfold maxLen; omega) (Nat.le_refl _) ?_; intro w3 hown hgrow))
 rw [made_ints] at hown
 rw [← hbb] at hown ⊢
 have HO3 := Lib.hid hown
 have HB3 : Hid (Below bb w2 w3) := Lib.hid (by rw [hbb]; exact Below.grown (Below.refl _ w2) hgrow (Nat.le_refl _) (fun q hq => by cases hq))
 have hbRl : bR < bb := by rw [hbb]; exact HbR2.out.lt
 have hbXl : bX < bb := by rw [hbb]; exact HbX2.out.lt
 have hbb1 : w2.heap.size ≤ bb := by omega
 have hbb2 : bb ≤ w2.heap.size := by omega
 have hw2 := HB2.out.size
 have hb3l := (HO3.out.lt bb rfl).2
 have x23 := (HbX2.out.below HB3.out hbXl).cell 2 rfl
 clear hown hgrow hbb HCm x1 x2 x3
 have HD0 : Hid (∀ k, 0 ≤ (List.replicate X.nodes.length (0 : Int)).getD k 0 ∧ (List.replicate X.nodes.length (0 : Int)).getD k 0 ≤ 20) := Lib.hid (fun k => by
  have : (List.replicate X.nodes.length (0 : Int)).getD k 0 = 0 := by
   rw [List.getD_eq_getElem?_getD, List.getElem?_replicate]; split <;> rfl
  rw [this]; omega)
 go_wp2_with fail
 go_loopw [52, 9, 10] (fun v52 v9 v10 wr => ∃ (k : Nat) (o9 o10 : Value) (ds : List Int), o9 = v9 ∧ o10 = v10 ∧ k ≤ X.nodes.length ∧ v52 = .int .i64 k ∧ Hid (recErr R X = nodesE R X.nodes (X.nodes.length - k) k ds) ∧ Hid (NodesOK R X.nodes k) ∧ Hid (∀ j, 0 ≤ ds.getD j 0 ∧ ds.getD j 0 ≤ 20) ∧ Hid (wr.ownsRow bb 3 1 (.slice (some ⟨bb, 0, none⟩) X.nodes.length X.nodes.length) X.nodes.length (ints ds)) ∧ Hid (Below bb w2 wr)) (fun v _ _ _ => X.nodes.length - (intOf v).toNat)
 case atStart => exact ⟨0, _, _, List.replicate X.nodes.length 0, rfl, rfl, Nat.zero_le _, rfl, HE5, Lib.hid ⟨fun k hk => absurd hk (Nat.not_lt_zero _), fun k hk => absurd hk (Nat.not_lt_zero _), fun k _ _ hk => absurd hk (Nat.not_lt_zero _), fun k hk => absurd hk (Nat.not_lt_zero _)⟩, HD0, HO3, HB3⟩
 case round =>
  obtain ⟨k, o9, o10, ds, rfl, rfl, hk, rfl, HK, HNk, HDs, HO, HBr⟩ := hrel
  by_cases hlt : k < X.nodes.length
  ·have HNd := Lib.hid (node_any HSh.out R vp vs ve X (.slice ta X.tags.length tc) (.slice na X.nodes.length nc) ds bb bb X.nodes.length k w2 wr (HR.out.below HB2.out (Nat.le_refl _)) HN.out (HX.out.below HB2.out (Nat.le_refl _)) hbb1 HBr.out HO.out hlt (by omega) HNk.out.back HDs.out)
   have HbRr := Lib.hid (HbR2.out.below HBr.out hbRl)
   have HbXr := Lib.hid (HbX2.out.below HBr.out hbXl)
   have HKs : Hid (recErr R X = if nodeE R X.nodes ds k ≠ 0 then nodeE R X.nodes ds k else nodesE R X.nodes (X.nodes.length - (k + 1)) (k + 1) (ds.set k (depE X.nodes ds k))) := Lib.hid (by
    rw [HK.out, show X.nodes.length - k = (X.nodes.length - (k + 1)) + 1 by omega, nodesE])
   unfold recV at HNd
   have hkl : (k : Int) < (X.nodes.length : Int) := by omega
   clear HK
   go_upto_region 18 with (fail)
   refine wp_region_lit ?_
   refine wpList_load_box (by rfl) 26 (.tmp 2) (by rfl) bR (by rfl) HbRr.out Tryz.underlying26 (by rfl) (by kernel_rfl) ?_
   refine wpList_load_box (by rfl) 30 (.tmp 3) (by rfl) bX (by rfl) HbXr.out Tryz.underlying30 (by rfl) (by kernel_rfl) ?_
   go_wp2_with fail
   refine HNd.out.mono ?_
   rintro e w6 ⟨rfl, hb6, ho6⟩
   have HB6 := Lib.hid hb6
   clear hb6 HNd
   by_cases hne : nodeE R X.nodes ds k = 0
   ·have HO6 := Lib.hid (ho6 hne)
    have HK6 : Hid (recErr R X = nodesE R X.nodes (X.nodes.length - (k + 1)) (k + 1) (ds.set k (depE X.nodes ds k))) := Lib.hid (by rw [HKs.out, if_neg (fun h => h hne)])
    have HN6 := Lib.hid (nodeE_zero hlt HNk.out hne)
    have HD6 := Lib.hid (set_b HDs.out k _ (depE_b HDs.out hne))
    rw [hne]
    clear ho6 hne HKs
    go_wp2_with fail
    go_roundw
    case rel => exact ⟨k + 1, _, _, _, rfl, rfl, by omega, by go_num, HK6, HN6, HD6, HO6, HB6⟩
    case measure => simp [intOf]; omega
   ·have HF : Hid (recErr R X = nodeE R X.nodes ds k) := Lib.hid (by rw [HKs.out, if_pos hne])
    generalize hrr : nodeE R X.nodes ds k = re at *
    clear hrr ho6 HKs
    go_wp2_with fail
    go_ret
    exact ⟨by rw [HF.out]; rfl, HB2.out.trans (HB6.out.mono (by omega))⟩
  ·obtain rfl : k = X.nodes.length := by omega
   have HF : Hid (recErr R X = 0) := Lib.hid (by rw [HK.out, Nat.sub_self]; rfl)
   go_wp2_with fail
   go_ret
   exact ⟨by rw [HF.out]; rfl, HB2.out.trans (HBr.out.mono (by omega))⟩
end Go.Proofs.YthklhndcdijneaaGreatDoor
namespace Go.Proofs.YthklhndcdijneaaGreatDoor
open Go.ChangeShapes Go.WideShapes Go.ChangeAt Go.RowKit
set_option linter.unusedVariables false
/-- what Read says. -/
def readR (R : RulesZ) (s : ByteArray) : Except Int RecZ :=
 if rulesErr R ≠ 0 then .error (rulesErr R) else
 if 8192 < s.size then .error 2 else
 match rRead R (bt s) with
 | .error n => .error n
 | .ok X => if recErr R X ≠ 0 then .error (recErr R X) else .ok X
theorem rCmt_ne {l : Byt} {n : Int} (h : rCmt l = .error n) : n ≠ 0 := by
 unfold rCmt at h
 split at h
 ·cases h
 ·split at h
  ·cases h; simp
  ·split at h
   ·cases h; simp
   ·cases h
theorem rMove_ne {R : RulesZ} {p : PosZ} {l : Byt} {n : Int} (h : rMove R p l = .error n) : n ≠ 0 := by
 unfold rMove at h
 split at h
 ·cases h; simp
 ·split at h
  ·cases h; simp
  ·split at h
   ·rename_i h3
    cases h; exact h3
   ·split at h
    ·rename_i h4
     cases h; exact rCmt_ne h4
    ·cases h
theorem rest_ne (R : RulesZ) : ∀ f : Nat, (∀ p l n, rAfter R f p l = .error n → n ≠ 0) ∧ (∀ p l n, rVars R f p l = .error n → n ≠ 0) := by
 intro f
 induction f with
 | zero => exact ⟨fun p l n h => (by rw [rAfter] at h; cases h), fun p l n h => (by rw [rVars] at h; cases h)⟩
 | succ f ih =>
  refine ⟨fun p l n h => ?_, fun p l n h => ?_⟩
  ·rw [rAfter] at h
   split at h
   ·cases h
   ·split at h
    ·rename_i h1; cases h; exact rMove_ne h1
    ·split at h
     ·rename_i h1; cases h; exact ih.2 _ _ _ h1
     ·split at h
      ·rename_i h1; cases h; exact ih.1 _ _ _ h1
      ·cases h
  ·rw [rVars] at h
   split at h
   ·cases h
   ·split at h
    ·rename_i h1; cases h; exact rMove_ne h1
    ·split at h
     ·rename_i h1; cases h; exact ih.1 _ _ _ h1
     ·split at h
      ·cases h; simp
      ·split at h
       ·rename_i h1; cases h; exact ih.2 _ _ _ h1
       ·cases h
theorem rTags_ne : ∀ (f : Nat) (l : Byt) (n : Int), rTags f l = .error n → n ≠ 0
 | 0, l, n, h => by rw [rTags] at h; cases h
 | f + 1, l, n, h => by
  rw [rTags] at h
  split at h
  ·cases h
  ·split at h
   ·cases h; simp
   ·split at h
    ·cases h; simp
    ·split at h
     ·rename_i h1; cases h; exact rTags_ne f _ _ h1
     ·cases h
theorem rRead_ne {R : RulesZ} {l : Byt} {n : Int} (h : rRead R l = .error n) : n ≠ 0 := by
 unfold rRead at h
 split at h
 ·rename_i h1; cases h; exact rTags_ne _ _ _ h1
 ·split at h
  ·rename_i h1
   cases h
   unfold rBody at h1
   split at h1
   ·rename_i h2; cases h1; exact rCmt_ne h2
   ·split at h1
    ·rename_i h2; cases h1; exact (rest_ne R _).1 _ _ _ h2
    ·split at h1
     ·cases h1; simp
     ·split at h1
      ·cases h1; simp
      ·cases h1
  ·cases h
theorem rdTg_of_own {w : World} {b : Nat} {v : Value} {xs : List TagZ} (h : w.ownsRow b 58 2 v xs.length (flatTg xs)) (hs : ∀ x ∈ xs, x.key.size ≤ maxLen ∧ x.value.size ≤ maxLen) : RdL tagEl w v xs := by
 refine RdL.of_own (el := tagEl) h fun i hi => ?_
 have e : ∀ (l : List TagZ) (i : Nat) (h : i < l.length), ((flatTg l).drop (i * 2)).take 2 = [.string l[i].key, .string l[i].value] := by
  intro l
  induction l with
  | nil => intro i h; cases h
  | cons a l ih =>
   intro i h
   cases i with
   | zero => rfl
   | succ i =>
    have e : flatTg (a :: l) = [.string a.key, .string a.value] ++ flatTg l := rfl
    rw [e, show (i + 1) * 2 = i * 2 + 2 by omega, List.drop_append, List.drop_of_length_le (by simp)]
    exact ih i (by simpa using h)
 exact ⟨e xs i hi, hs _ (List.getElem_mem hi)⟩
def rdPost (R : RulesZ) (w : World) (o : Except Int RecZ) (e : Ending) (w' : World) : Prop :=
 Below w.heap.size w w' ∧ match o with
 | .error n => e = .returned (.tuple #[.agg #[.slice none 0 0, .string ⟨#[]⟩, .slice none 0 0, .int .i64 0], .int .i64 n])
 | .ok X => ∃ vt vn, e = .returned (.tuple #[recV X vt vn, .int .i64 0]) ∧ w'.ownsRow w.heap.size 58 2 vt X.tags.length (flatTg X.tags) ∧ w'.ownsRow w.heap.size tNd 5 vn X.nodes.length (flatN X.nodes)
set_option maxRecDepth 100000
set_option maxHeartbeats 8000000
variable {R : RulesZ} {vp vs ve : Value}
theorem recRead_any (HS : SortMvSaid) (HT : TrimSaid) (HA : AnySaid) (HC : CutSaid) (HCl : CloneSaid) (s : ByteArray) (w : World) (hr : RdR w R vp vs ve) (hnm : R.name.size ≤ maxLen) (hm : Mx w.heap.size w) :
  Calls Tryz.prog 11 #[(.agg #[.string R.name, .int .i64 R.width, .int .i64 R.height, vp, vs, .bool R.falls, .bool R.keeps, ve, .int .i64 R.blocked, .int .i64 R.quiet, .int .i64 R.rept]), .string s] w (rdPost R w (readR R s)) := by
 have HSh := Lib.hid HS
 have HR := Lib.hid hr
 have HNm := Lib.hid hnm
 have HM := Lib.hid hm
 obtain ⟨O, hO⟩ : ∃ O, O = readR R s := ⟨_, rfl⟩
 rw [← hO]
 unfold readR at hO
 have HO := Lib.hid hO
 clear hO hr hnm hm HS
 go_enter Tryz.func11, Tryz.ntmps11
 go_upto_region 1 with (fail)
 refine opn2 ?_
 intro w0 xbR xbO hB0 hS0
 have HB := Lib.hid hB0
 obtain ⟨bO, hbO⟩ : ∃ bO, bO = w.heap.size + 1 := ⟨_, rfl⟩
 rw [← hbO] at xbO ⊢
 obtain ⟨bR, hbR⟩ : ∃ bR, bR = w.heap.size := ⟨_, rfl⟩
 rw [← hbR] at xbR ⊢
 have hbR1 : w.heap.size ≤ bR := by omega
 have HbR := Lib.hid xbR
 have hbO1 : w.heap.size ≤ bO := by omega
 have hbRbO : bR < bO := by omega
 have HbO := Lib.hid xbO
 have hS : bO < w0.heap.size := by omega
 clear hB0 hS0 xbR hbR xbO hbO
 refine wp_region_lit ?_
 refine wpList_load_box (by rfl) 26 (.tmp 2) (by rfl) bR (by rfl) HbR.out Tryz.underlying26 (by rfl) (by kernel_rfl) ?_
 go_wp2_with fail
 refine (rulesCheck_any R vp vs ve w0 (HR.out.below HB.out (Nat.le_refl _)) HNm.out).mono ?_
 rintro e w1 ⟨rfl, hb1⟩
 have HB1 := Lib.hid (HB.out.trans (hb1.mono HB.out.size))
 have HbR1 := Lib.hid (HbR.out.stays hb1)
 have HbO1 := Lib.hid (HbO.out.stays hb1)
 clear hb1 HbR HbO HB
 obtain ⟨E, hE⟩ : ∃ E, E = rulesErr R := ⟨_, rfl⟩
 rw [← hE]
 have HE := Lib.hid hE
 have z0 := HbO1.out.cell 0 rfl
 have z1 := HbO1.out.cell 1 rfl
 have z2 := HbO1.out.cell 2 rfl
 have z3 := HbO1.out.cell 3 rfl
 have y0 := HbO1.out.frozen 0
 have y1 := HbO1.out.frozen 1
 have y2 := HbO1.out.frozen 2
 have y3 := HbO1.out.frozen 3
 by_cases h0 : E = 0
 ·have p0 : (E != 0) = false := by simpa using h0
  have H0 := Lib.hid h0
  clear hE h0
  by_cases hsz : (8192 : Int) < (s.size : Int)
  ·have HZ := Lib.hid hsz
   have zl := HbO1.out.lt
   go_wp2_with fail
   change bodyPost _ _ _ _ _ (w1.setCells bO 0 [.slice none 0 0, .string ⟨#[]⟩, .slice none 0 0, .int .i64 0])
   have HbO9 := Lib.hid (HbO1.out.store (vs := [.slice none 0 0, .string ⟨#[]⟩, .slice none 0 0, .int .i64 0]) rfl)
   have HB9 := Lib.hid (below_setCells HB1.out hbO1 0 [.slice none 0 0, .string ⟨#[]⟩, .slice none 0 0, .int .i64 0])
   exact bodyPost_ret (results_box rfl (by rfl) (by rfl) HbO9.out Tryz.underlying30 (by rfl) (by kernel_rfl)) rfl ⟨HB9.out, by rw [HO.out, if_neg (by rw [← HE.out, H0.out]; simp), if_pos (by have := HZ.out; omega)]; rfl⟩
  ·have HZ := Lib.hid hsz
   clear z0 z1 z2 z3 y0 y1 y2 y3
   have r0 := HbR1.out.cell 0 rfl
   have r1 := HbR1.out.cell 1 rfl
   have r2 := HbR1.out.cell 2 rfl
   have r3 := HbR1.out.cell 3 rfl
   have r4 := HbR1.out.cell 4 rfl
   have r5 := HbR1.out.cell 5 rfl
   have r6 := HbR1.out.cell 6 rfl
   have r7 := HbR1.out.cell 7 rfl
   have r8 := HbR1.out.cell 8 rfl
   have r9 := HbR1.out.cell 9 rfl
   have r10 := HbR1.out.cell 10 rfl
   go_wp2_with fail
   have HY := Lib.hid (Box.new w1 (rdC R vp vs ve s (.slice none 0 0) (.string ⟨#[]⟩) (.slice none 0 0) (.int .i64 0)) RdT)
   have HB2 := Lib.hid (HB1.out.alloc HB1.out.size (.cells (rdC R vp vs ve s (.slice none 0 0) (.string ⟨#[]⟩) (.slice none 0 0) (.int .i64 0)).toArray RdT))
   have HO2 := Lib.hid (HbO1.out.alloc (.cells (rdC R vp vs ve s (.slice none 0 0) (.string ⟨#[]⟩) (.slice none 0 0) (.int .i64 0)).toArray RdT))
   have HR2 := Lib.hid (HbR1.out.alloc (.cells (rdC R vp vs ve s (.slice none 0 0) (.string ⟨#[]⟩) (.slice none 0 0) (.int .i64 0)).toArray RdT))
   have hh : RdH w1.heap.size R vp vs ve (w1.alloc (.cells (rdC R vp vs ve s (.slice none 0 0) (.string ⟨#[]⟩) (.slice none 0 0) (.int .i64 0)).toArray RdT)) :=
    ⟨fun w' hf => HR.out.below (HB2.out.trans (hf.below (B := w.heap.size) (fun j (hj : j = w1.heap.size) => by have := HB1.out.size; omega) HB2.out.size)) (Nat.le_refl _), HNm.out, by rw [← HE.out]; exact H0.out, (HM.out.below HB2.out).mono HB1.out.size, by simp⟩
   have hrd := read_any HT HA HC HCl HSh.out w1.heap.size s _ HY.out (by have := HZ.out; omega) hh
   refine hrd.mono ?_
   clear r0 r1 r2 r3 r4 r5 r6 r7 r8 r9 r10 hrd hh
   have hOY : bO ≠ w1.heap.size := by have := HbO1.out.lt; omega
   have hRY : bR ≠ w1.heap.size := by have := HbR1.out.lt; omega
   have hwY : w.heap.size ≤ w1.heap.size := HB1.out.size
   clear HY HB1 HbR1 HbO1
   generalize (w1.alloc (.cells (rdC R vp vs ve s (.slice none 0 0) (.string ⟨#[]⟩) (.slice none 0 0) (.int .i64 0)).toArray RdT)) = w2 at *
   generalize w1.heap.size = bY at *
   cases hrr : rRead R (bt s) with
   | error n =>
    have hn := rRead_ne hrr
    have pn : (n != 0) = true := by simpa using hn
    have HRR := Lib.hid hrr
    clear hrr
    rintro e w3 ⟨hf3, rfl⟩
    have HO3 := Lib.hid (HO2.out.held hf3 hOY)
    have HB3 := Lib.hid (HB2.out.trans (hf3.below (B := w.heap.size) (fun j (hj : j = bY) => by omega) HB2.out.size))
    have z0 := HO3.out.cell 0 rfl
    have z1 := HO3.out.cell 1 rfl
    have z2 := HO3.out.cell 2 rfl
    have z3 := HO3.out.cell 3 rfl
    have y0 := HO3.out.frozen 0
    have y1 := HO3.out.frozen 1
    have y2 := HO3.out.frozen 2
    have y3 := HO3.out.frozen 3
    have zl := HO3.out.lt
    clear hf3
    go_wp2_with fail
    change bodyPost _ _ _ _ _ (w3.setCells bO 0 [.slice none 0 0, .string ⟨#[]⟩, .slice none 0 0, .int .i64 0])
    have HbO9 := Lib.hid (HO3.out.store (vs := [.slice none 0 0, .string ⟨#[]⟩, .slice none 0 0, .int .i64 0]) rfl)
    have HB9 := Lib.hid (below_setCells HB3.out hbO1 0 [.slice none 0 0, .string ⟨#[]⟩, .slice none 0 0, .int .i64 0])
    exact bodyPost_ret (results_box rfl (by rfl) (by rfl) HbO9.out Tryz.underlying30 (by rfl) (by kernel_rfl)) rfl ⟨HB9.out, by rw [HO.out, if_neg (by rw [← HE.out, H0.out]; simp), if_neg (by have := HZ.out; omega), HRR.out]; rfl⟩
   | ok X =>
    have HRR := Lib.hid hrr
    have HSZ := Lib.hid (read_sz (by rw [← HE.out]; exact H0.out) hrr)
    clear hrr
    rintro e w3 ⟨hf3, rfl, vt, vn, tx, D3, hT3, hN3⟩
    obtain ⟨ta, tc, rfl⟩ := own_form2 hT3
    obtain ⟨na, nc, rfl⟩ := own_form2 hN3
    have HO3 := Lib.hid (HO2.out.held hf3 hOY)
    have HR3 := Lib.hid (HR2.out.held hf3 hRY)
    have HD3 := Lib.hid D3
    have HB3 := Lib.hid (HB2.out.trans (hf3.below (B := w.heap.size) (fun j (hj : j = bY) => by omega) HB2.out.size))
    have HT3 := Lib.hid hT3
    have HN3 := Lib.hid hN3
    clear hf3 D3 hT3 hN3
    go_wp2_with fail
    obtain ⟨wq, rfl⟩ : ∃ wq : World, wq = w3 := ⟨_, rfl⟩
    have Rz := HR3.out.drew
    have Dz := HD3.out.drew
    have Lz : Below w.heap.size w wq.drew := HB3.out.drew
    refine wp_region_noPanic ?_
    refine beginL (S := (fun w' => w'.cell? ⟨bR, 0, none⟩ = some (.string R.name) ∧ w'.cell? ⟨bR, 1, none⟩ = some (.int .i64 R.width) ∧ w'.cell? ⟨bR, 2, none⟩ = some (.int .i64 R.height) ∧ w'.cell? ⟨bR, 3, none⟩ = some vp ∧ w'.cell? ⟨bR, 4, none⟩ = some vs ∧ w'.cell? ⟨bR, 5, none⟩ = some (.bool R.falls) ∧ w'.cell? ⟨bR, 6, none⟩ = some (.bool R.keeps) ∧ w'.cell? ⟨bR, 7, none⟩ = some ve ∧ w'.cell? ⟨bR, 8, none⟩ = some (.int .i64 R.blocked) ∧ w'.cell? ⟨bR, 9, none⟩ = some (.int .i64 R.quiet) ∧ w'.cell? ⟨bR, 10, none⟩ = some (.int .i64 R.rept) ∧ w'.cell? ⟨bY, 12, none⟩ = some (.slice ta X.tags.length tc) ∧ w'.cell? ⟨bY, 13, none⟩ = some (.string X.comment) ∧ w'.cell? ⟨bY, 14, none⟩ = some (.slice na X.nodes.length nc) ∧ w'.cell? ⟨bY, 15, none⟩ = some (.int .i64 X.result))) (L := []) (by kernel_rfl) (by and_intros <;> first | exact Rz.cell _ rfl | exact Dz.cell _ rfl) (fun hHeld => ?_)
    refine tkL 0 ?_
    refine tkW 1 ?_
    refine tkW 2 ?_
    refine tkW 3 ?_
    refine tkL 4 ?_
    refine cnL 5 fun K hK => ?_
    go_simp
    have hx : RdX wq.drew X (.slice ta X.tags.length tc) (.slice na X.nodes.length nc) := ⟨rdTg_of_own HT3.out.drew (fun t ht => by have := HSZ.out.2.1 t ht; have := HZ.out; have := bt_len s; unfold maxLen; omega), rdN_of_own HN3.out.drew (fun x hx => by have := HSZ.out.2.2.2.2 x hx; have := HZ.out; have := bt_len s; unfold maxLen; omega), by have := HSZ.out.2.2.1; have := HZ.out; have := bt_len s; unfold maxLen; omega⟩
    have hc := recCheck_any HSh.out R vp vs ve X (.slice ta X.tags.length tc) (.slice na X.nodes.length nc) wq.drew (HR.out.below Lz (Nat.le_refl _)) HNm.out hx
    unfold recV at hc
    refine hc.mono ?_
    clear hc hx
    rintro e w5 ⟨rfl, hb5⟩
    have R5 := Rz.stays hb5
    have D5 := Dz.stays hb5
    have L5 := below_trans Lz hb5 Lz.size
    refine hK.out _ _ (by and_intros <;> first | exact R5.cell _ rfl | exact D5.cell _ rfl) (fun hHeld => ?_)
    clear hK K
    refine tkW 6 ?_
    refine dnN ?_
    have HD5 := Lib.hid D5
    have HB5 := Lib.hid L5
    have HO5 := Lib.hid ((show Box wq.drew bO _ _ from HO3.out).stays hb5)
    have HT5 := Lib.hid (own_stays (show wq.drew.ownsRow _ _ _ _ _ _ from HT3.out.drew) hb5)
    have HN5 := Lib.hid (own_stays (show wq.drew.ownsRow _ _ _ _ _ _ from HN3.out.drew) hb5)
    obtain ⟨ce, hce⟩ : ∃ ce, ce = recErr R X := ⟨_, rfl⟩
    rw [← hce]
    have HCE := Lib.hid hce
    clear hce
    have z0 := HO5.out.cell 0 rfl
    have z1 := HO5.out.cell 1 rfl
    have z2 := HO5.out.cell 2 rfl
    have z3 := HO5.out.cell 3 rfl
    have y0 := HO5.out.frozen 0
    have y1 := HO5.out.frozen 1
    have y2 := HO5.out.frozen 2
    have y3 := HO5.out.frozen 3
    have zl := HO5.out.lt
    clear HT3 HN3 HO3 HR3 HD3 HB3 R5 D5 L5 Rz Dz Lz hHeld hb5
    by_cases h9 : ce = 0
    ·have p9 : (ce != 0) = false := by simpa using h9
     have H9 := Lib.hid h9
     clear h9
     have d0 := HD5.out.cell 12 rfl
     have d1 := HD5.out.cell 13 rfl
     have d2 := HD5.out.cell 14 rfl
     have d3 := HD5.out.cell 15 rfl
     go_wp2_with fail
     change bodyPost _ _ _ _ _ (w5.setCells bO 0 [.slice ta X.tags.length tc, .string X.comment, .slice na X.nodes.length nc, .int .i64 X.result])
     have HbO9 := Lib.hid (HO5.out.store (vs := [.slice ta X.tags.length tc, .string X.comment, .slice na X.nodes.length nc, .int .i64 X.result]) rfl)
     have HB9 := Lib.hid (below_setCells HB5.out hbO1 0 [.slice ta X.tags.length tc, .string X.comment, .slice na X.nodes.length nc, .int .i64 X.result])
     have hO2l := HO2.out.lt
     have hB2l := HB2.out.size
     have HT9 := Lib.hid (own_base (b' := w.heap.size) (own_setCells HT5.out hO2l 0 [.slice ta X.tags.length tc, .string X.comment, .slice na X.nodes.length nc, .int .i64 X.result]) hB2l)
     have HN9 := Lib.hid (own_base (b' := w.heap.size) (own_setCells HN5.out hO2l 0 [.slice ta X.tags.length tc, .string X.comment, .slice na X.nodes.length nc, .int .i64 X.result]) hB2l)
     exact bodyPost_ret (results_box rfl (by rfl) (by rfl) HbO9.out Tryz.underlying30 (by rfl) (by kernel_rfl)) rfl ⟨HB9.out, by rw [HO.out, if_neg (by rw [← HE.out, H0.out]; simp), if_neg (by have := HZ.out; omega), HRR.out]; dsimp only; rw [if_neg (by rw [← HCE.out, H9.out]; simp)]; exact ⟨_, _, by rw [H9.out]; rfl, HT9.out, HN9.out⟩⟩
    ·have p9 : (ce != 0) = true := by simpa using h9
     have H9 := Lib.hid h9
     clear h9
     go_wp2_with fail
     change bodyPost _ _ _ _ _ (w5.setCells bO 0 [.slice none 0 0, .string ⟨#[]⟩, .slice none 0 0, .int .i64 0])
     have HbO9 := Lib.hid (HO5.out.store (vs := [.slice none 0 0, .string ⟨#[]⟩, .slice none 0 0, .int .i64 0]) rfl)
     have HB9 := Lib.hid (below_setCells HB5.out hbO1 0 [.slice none 0 0, .string ⟨#[]⟩, .slice none 0 0, .int .i64 0])
     exact bodyPost_ret (results_box rfl (by rfl) (by rfl) HbO9.out Tryz.underlying30 (by rfl) (by kernel_rfl)) rfl ⟨HB9.out, by rw [HO.out, if_neg (by rw [← HE.out, H0.out]; simp), if_neg (by have := HZ.out; omega), HRR.out]; dsimp only; rw [if_pos (by rw [← HCE.out]; exact H9.out), HCE.out]; rfl⟩
 ·have p0 : (E != 0) = true := by simpa using h0
  have H0 := Lib.hid h0
  clear hE h0
  have zl := HbO1.out.lt
  go_wp2_with fail
  change bodyPost _ _ _ _ _ (w1.setCells bO 0 [.slice none 0 0, .string ⟨#[]⟩, .slice none 0 0, .int .i64 0])
  have HbO9 := Lib.hid (HbO1.out.store (vs := [.slice none 0 0, .string ⟨#[]⟩, .slice none 0 0, .int .i64 0]) rfl)
  have HB9 := Lib.hid (below_setCells HB1.out hbO1 0 [.slice none 0 0, .string ⟨#[]⟩, .slice none 0 0, .int .i64 0])
  exact bodyPost_ret (results_box rfl (by rfl) (by rfl) HbO9.out Tryz.underlying30 (by rfl) (by kernel_rfl)) rfl ⟨HB9.out, by rw [HO.out, if_pos (by rw [← HE.out]; exact H0.out), HE.out]; rfl⟩
end Go.Proofs.YthklhndcdijneaaGreatDoor
namespace Go.Proofs.YthklhndcdijneaaGreatDoor
open Go.ChangeShapes Go.WideShapes Go.ChangeAt Go.RowKit
set_option linter.unusedVariables false
abbrev WrT : TypeId := 71
set_option maxRecDepth 100000
set_option maxHeartbeats 8000000
variable {R : RulesZ} {vp vs ve : Value}
theorem infoStr : (Tryz.prog.info? 9).map (fun i => (i.zero, i.size, i.bytes)) = some (some (.string ⟨#[]⟩), 1, 16) := by kernel_rfl
theorem list_src {p : PosZ} (K : POk R p) : ∀ x ∈ listZ R p, x.src < p.cells.length := fun x hx => (fits_of K hx).s.2
def strsB (l : List Byt) : List Value := l.map fun x => .string (bs x)
theorem wone_any (HS : SortMvSaid) (X : RecZ) (ta : Option Addr) (tc gn on nc n b : Nat) (p : PosZ) (vc v0 v1 : Value) (w : World) (hb : Box w b [.string R.name, .int .i64 R.width, .int .i64 R.height, vp, vs, .bool R.falls, .bool R.keeps, ve, .int .i64 R.blocked, .int .i64 R.quiet, .int .i64 R.rept, .slice ta X.tags.length tc, .string X.comment, .slice (some ⟨gn, on, none⟩) X.nodes.length nc, .int .i64 X.result] WrT) (hr : RdR w R vp vs ve) (hp : RdP w p vc v0 v1) (K : POk R p) (L : LetOk R) (hll : (listZ R p).length ≤ 1000000)
  (hn : n < X.nodes.length) (hcs : (ndAt X.nodes n).comment.size ≤ 1000) (hO : OfOk R p (ndAt X.nodes n).m) (hgl : gn < w.heap.size) (hnd : ∀ i, i < X.nodes.length → w.cell? ⟨gn, on + i * 5, none⟩ = some (.int .i64 (ndAt X.nodes i).parent) ∧ w.cell? ⟨gn, on + i * 5 + 1, none⟩ = some (.int .i64 (ndAt X.nodes i).m.src) ∧
   w.cell? ⟨gn, on + i * 5 + 2, none⟩ = some (.int .i64 (ndAt X.nodes i).m.dst) ∧ w.cell? ⟨gn, on + i * 5 + 3, none⟩ = some (.int .i64 (ndAt X.nodes i).m.piece) ∧ w.cell? ⟨gn, on + i * 5 + 4, none⟩ = some (.string (ndAt X.nodes i).comment) ∧ (ndAt X.nodes i).comment.size ≤ maxLen) :
  Calls Tryz.prog 47 #[.pointer (some ⟨b, 0, none⟩), (.agg #[vc, v0, v1, .int .i64 p.turn, .int .i64 p.quiet]), .int .i64 n] w fun e w' => ∃ v, e = .returned v ∧ w'.ownsRow w.heap.size 9 1 v (oneT R p (ndAt X.nodes n).m (ndAt X.nodes n).comment).length (strsB (oneT R p (ndAt X.nodes n).m (ndAt X.nodes n).comment)) ∧ Below w.heap.size w w' := by
 have HSh := Lib.hid HS
 have HR := Lib.hid hr
 have HP := Lib.hid hp
 have HK := Lib.hid K
 have HLt := Lib.hid L
 have HOf := Lib.hid hO
 have HBr := Lib.hid hb
 obtain ⟨-, n1, n2, n3, n4, n5⟩ := hnd n hn
 obtain ⟨m, hm⟩ : ∃ m, m = (ndAt X.nodes n).m := ⟨_, rfl⟩
 obtain ⟨c, hc⟩ : ∃ c, c = (ndAt X.nodes n).comment := ⟨_, rfl⟩
 rw [← hm] at n1 n2 n3 HOf ⊢
 rw [← hc] at n4 n5 hcs ⊢
 have HN := Lib.hid (And.intro n1 (And.intro n2 (And.intro n3 n4)))
 have hbl := hb.lt
 clear hb hr hp K L hO hnd HS hm hc n1 n2 n3 n4
 have hn1 : (n : Int) < (X.nodes.length : Int) := by omega
 go_enter Tryz.func47, Tryz.ntmps47
 go_upto_region 1 with (fail)
 refine opn1 ?_
 intro w0 xbP hB0 hS0
 have HB := Lib.hid hB0
 obtain ⟨bP, hbP⟩ : ∃ bP, bP = w.heap.size := ⟨_, rfl⟩
 rw [← hbP] at xbP ⊢
 have hbP1 : w.heap.size ≤ bP := by omega
 have HbP := Lib.hid xbP
 have hS : bP < w0.heap.size := by omega
 clear hB0 hS0 xbP hbP
 obtain ⟨wq, rfl⟩ : ∃ wq : World, wq = w0 := ⟨_, rfl⟩
 have Dz : Box wq.drew b [.string R.name, .int .i64 R.width, .int .i64 R.height, vp, vs, .bool R.falls, .bool R.keeps, ve, .int .i64 R.blocked, .int .i64 R.quiet, .int .i64 R.rept, .slice ta X.tags.length tc, .string X.comment, .slice (some ⟨gn, on, none⟩) X.nodes.length nc, .int .i64 X.result] WrT := (HBr.out.stays HB.out : Box wq b [.string R.name, .int .i64 R.width, .int .i64 R.height, vp, vs, .bool R.falls, .bool R.keeps, ve, .int .i64 R.blocked, .int .i64 R.quiet, .int .i64 R.rept, .slice ta X.tags.length tc, .string X.comment, .slice (some ⟨gn, on, none⟩) X.nodes.length nc, .int .i64 X.result] WrT)
 have Ez := HbP.out.drew
 have Lz : Below w.heap.size w wq.drew := HB.out.drew
 have mz0 : wq.drew.cell? ⟨gn, on + n * 5 + 1, none⟩ = some (.int .i64 m.src) := (HB.out.cell (p := ⟨gn, on + n * 5 + 1, none⟩) hgl).trans HN.out.1
 have mz1 : wq.drew.cell? ⟨gn, on + n * 5 + 2, none⟩ = some (.int .i64 m.dst) := (HB.out.cell (p := ⟨gn, on + n * 5 + 2, none⟩) hgl).trans HN.out.2.1
 have mz2 : wq.drew.cell? ⟨gn, on + n * 5 + 3, none⟩ = some (.int .i64 m.piece) := (HB.out.cell (p := ⟨gn, on + n * 5 + 3, none⟩) hgl).trans HN.out.2.2.1
 have HRz := HR.out.below Lz (Nat.le_refl _)
 have HPz := HP.out.below Lz (Nat.le_refl _)
 refine wp_region_noPanic ?_
 refine beginL (S := (fun w' => w'.cell? ⟨b, 0, none⟩ = some (.string R.name) ∧ w'.cell? ⟨b, 1, none⟩ = some (.int .i64 R.width) ∧ w'.cell? ⟨b, 2, none⟩ = some (.int .i64 R.height) ∧ w'.cell? ⟨b, 3, none⟩ = some vp ∧ w'.cell? ⟨b, 4, none⟩ = some vs ∧ w'.cell? ⟨b, 5, none⟩ = some (.bool R.falls) ∧ w'.cell? ⟨b, 6, none⟩ = some (.bool R.keeps) ∧ w'.cell? ⟨b, 7, none⟩ = some ve ∧ w'.cell? ⟨b, 8, none⟩ = some (.int .i64 R.blocked) ∧ w'.cell? ⟨b, 9, none⟩ = some (.int .i64 R.quiet) ∧ w'.cell? ⟨b, 10, none⟩ = some (.int .i64 R.rept) ∧ w'.cell? ⟨b, 13, none⟩ = some (.slice (some ⟨gn, on, none⟩) X.nodes.length nc) ∧ w'.cell? ⟨bP, 0, none⟩ = some vc ∧ w'.cell? ⟨bP, 1, none⟩ = some v0 ∧ w'.cell? ⟨bP, 2, none⟩ = some v1 ∧ w'.cell? ⟨bP, 3, none⟩ = some (.int .i64 p.turn) ∧ w'.cell? ⟨bP, 4, none⟩ = some (.int .i64 p.quiet) ∧ w'.cell? ⟨gn, on + n * 5 + 1, none⟩ = some (.int .i64 m.src) ∧ w'.cell? ⟨gn, on + n * 5 + 2, none⟩ = some (.int .i64 m.dst) ∧ w'.cell? ⟨gn, on + n * 5 + 3, none⟩ = some (.int .i64 m.piece))) (L := []) (by kernel_rfl) ⟨Dz.cell 0 rfl, Dz.cell 1 rfl, Dz.cell 2 rfl, Dz.cell 3 rfl, Dz.cell 4 rfl, Dz.cell 5 rfl, Dz.cell 6 rfl, Dz.cell 7 rfl, Dz.cell 8 rfl, Dz.cell 9 rfl, Dz.cell 10 rfl, Dz.cell 13 rfl, Ez.cell 0 rfl, Ez.cell 1 rfl, Ez.cell 2 rfl, Ez.cell 3 rfl, Ez.cell 4 rfl, mz0, mz1, mz2⟩ (fun hHeld => ?_)
 refine tkW 0 ?_
 refine tkL 4 ?_
 refine tkW 5 ?_
 refine tkL 9 ?_
 refine tkW 11 ?_
 refine tkW 16 ?_
 refine tkW 1 ?_
 refine tkW 6 ?_
 refine tkW 12 ?_
 refine tkW 2 ?_
 refine tkW 7 ?_
 refine tkW 13 ?_
 refine tkL 3 ?_
 refine tkL 8 ?_
 refine tkW 14 ?_
 refine tkL 15 ?_
 refine tkW 17 ?_
 refine tkW 18 ?_
 refine tkL 19 ?_
 refine cnL 10 fun K hK => ?_
 go_simp
 refine (List_any HSh.out R vp vs ve p vc v0 v1 wq.drew HRz HPz HK.out).mono ?_
 rintro e w10 ⟨vx, rfl, ho10, hb10⟩
 obtain ⟨xa, xc, rfl⟩ := own_form2 ho10
 have D10 := Dz.stays hb10
 have E10 := Ez.stays hb10
 have L10 := below_trans Lz hb10 Lz.size
 have m100 := (hb10.cell (p := ⟨gn, on + n * 5 + 1, none⟩) (by show gn < _; have := Lz.size; omega)).trans mz0
 have m101 := (hb10.cell (p := ⟨gn, on + n * 5 + 2, none⟩) (by show gn < _; have := Lz.size; omega)).trans mz1
 have m102 := (hb10.cell (p := ⟨gn, on + n * 5 + 3, none⟩) (by show gn < _; have := Lz.size; omega)).trans mz2
 refine hK.out _ _ ⟨D10.cell 0 rfl, D10.cell 1 rfl, D10.cell 2 rfl, D10.cell 3 rfl, D10.cell 4 rfl, D10.cell 5 rfl, D10.cell 6 rfl, D10.cell 7 rfl, D10.cell 8 rfl, D10.cell 9 rfl, D10.cell 10 rfl, D10.cell 13 rfl, E10.cell 0 rfl, E10.cell 1 rfl, E10.cell 2 rfl, E10.cell 3 rfl, E10.cell 4 rfl, m100, m101, m102⟩ (fun hHeld => ?_)
 clear hK K
 refine cnL 20 fun K hK => ?_
 go_simp
 refine (Of_any R vp vs ve p vc v0 v1 m (.slice xa (listZ R p).length xc) (listZ R p) w10 (HR.out.below L10 (Nat.le_refl _)).1 (HP.out.below L10 (Nat.le_refl _)).1 (rdM_of_own ho10) HK.out HLt.out (list_src HK.out) hll HOf.out).mono ?_
 rintro e w20 ⟨rfl, hb20⟩
 have D20 := D10.stays hb20
 have E20 := E10.stays hb20
 have L20 := below_trans L10 hb20 L10.size
 have m200 := (hb20.cell (p := ⟨gn, on + n * 5 + 1, none⟩) (by show gn < _; have := L10.size; omega)).trans m100
 have m201 := (hb20.cell (p := ⟨gn, on + n * 5 + 2, none⟩) (by show gn < _; have := L10.size; omega)).trans m101
 have m202 := (hb20.cell (p := ⟨gn, on + n * 5 + 3, none⟩) (by show gn < _; have := L10.size; omega)).trans m102
 refine hK.out _ _ ⟨D20.cell 0 rfl, D20.cell 1 rfl, D20.cell 2 rfl, D20.cell 3 rfl, D20.cell 4 rfl, D20.cell 5 rfl, D20.cell 6 rfl, D20.cell 7 rfl, D20.cell 8 rfl, D20.cell 9 rfl, D20.cell 10 rfl, D20.cell 13 rfl, E20.cell 0 rfl, E20.cell 1 rfl, E20.cell 2 rfl, E20.cell 3 rfl, E20.cell 4 rfl, m200, m201, m202⟩ (fun hHeld => ?_)
 clear hK K
 refine cnL 21 fun K hK => ?_
 go_simp
 refine K_world ?_
 intro w21 e21
 have hb21 : Below w20.heap.size w20 w21 := by rw [e21]; exact (Below.refl _ _).alloc (Nat.le_refl _) _
 have X21 : Box w21 w20.heap.size [.string (ofT R p (listZ R p) m)] 9 := by rw [e21]; exact Box.new' _ _ _ _ rfl
 have D21 := D20.stays hb21
 have E21 := E20.stays hb21
 have L21 := below_trans L20 hb21 L20.size
 have m210 := (hb21.cell (p := ⟨gn, on + n * 5 + 1, none⟩) (by show gn < _; have := L20.size; omega)).trans m200
 have m211 := (hb21.cell (p := ⟨gn, on + n * 5 + 2, none⟩) (by show gn < _; have := L20.size; omega)).trans m201
 have m212 := (hb21.cell (p := ⟨gn, on + n * 5 + 3, none⟩) (by show gn < _; have := L20.size; omega)).trans m202
 clear e21
 refine hK.out _ _ ⟨D21.cell 0 rfl, D21.cell 1 rfl, D21.cell 2 rfl, D21.cell 3 rfl, D21.cell 4 rfl, D21.cell 5 rfl, D21.cell 6 rfl, D21.cell 7 rfl, D21.cell 8 rfl, D21.cell 9 rfl, D21.cell 10 rfl, D21.cell 13 rfl, E21.cell 0 rfl, E21.cell 1 rfl, E21.cell 2 rfl, E21.cell 3 rfl, E21.cell 4 rfl, m210, m211, m212⟩ (fun hHeld => ?_)
 clear hK K
 refine tkW 22 ?_
 refine dnN ?_
 have q4 : w21.cell? ⟨gn, on + n * 5 + 4, none⟩ = some (.string c) := (L21.cell (p := ⟨gn, on + n * 5 + 4, none⟩) hgl).trans HN.out.2.2.2
 have d13 := D21.cell 13 rfl
 have hX : w.heap.size ≤ w20.heap.size := L20.size
 generalize w20.heap.size = gX at X21 hX ⊢
 have HRow : Hid (w21.ownsRow w.heap.size 9 1 (.slice (some ⟨gX, 0, none⟩) 1 1) 1 [.string (ofT R p (listZ R p) m)]) := Lib.hid ⟨by simp, .inr ⟨gX, 1, #[.string (ofT R p (listZ R p) m)], rfl, hX, X21, Nat.le_refl _, by decide, rfl, rfl⟩⟩
 have HL21 := Lib.hid L21
 clear hHeld Dz Ez Lz D10 E10 L10 D20 E20 L20 D21 E21 L21 X21 hb10 hb20 hb21 ho10 mz0 mz1 mz2 m100 m101 m102 m200 m201 m202 m210 m211 m212 HRz HPz
 by_cases hc0 : c.size = 0
 ·have hemp : c.toList.isEmpty = true := by
   rw [Lib.toList_data]
   have : c.data.toList = [] := List.length_eq_zero_iff.1 (by simpa using hc0)
   rw [this]; rfl
  have HOT : Hid (oneT R p m c = [bt (ofT R p (listZ R p) m)]) := Lib.hid (by unfold oneT; rw [if_pos hc0]; rfl)
  clear hc0
  go_wp2_with fail
  go_ret
  exact ⟨_, rfl, by rw [HOT.out]; exact HRow.out, HL21.out⟩
 ·have hemp : c.toList.isEmpty = false := by
   rw [Lib.toList_data]
   cases h : c.data.toList with
   | nil => exact absurd (by have := congrArg List.length h; simpa using this) hc0
   | cons _ _ => rfl
  have HOT : Hid (oneT R p m c = [bt (ofT R p (listZ R p) m)] ++ [bt (⟨#[123]⟩ ++ c ++ ⟨#[125]⟩)]) := Lib.hid (by unfold oneT; rw [if_neg hc0]; simp [bt])
  clear hc0
  have hw21 : w.heap.size ≤ w21.heap.size := HL21.out.size
  have hs1 : ¬ 9223372036854775807 < 1 + c.size := by omega
  have hs2 : ¬ 9223372036854775807 < 1 + c.size + 1 := by omega
  obtain ⟨tx, htx⟩ : ∃ tx, tx = (⟨#[123]⟩ ++ c ++ ⟨#[125]⟩ : ByteArray) := ⟨_, rfl⟩
  have HTX := Lib.hid htx.symm
  rw [HTX.out] at HOT
  clear htx
  go_wp2_with (at_builtin; rw [HTX.out]; refine app_at 63 9 (.string ⟨#[]⟩) 1 16 infoStr Tryz.underlying63 rfl (by decide) (by rfl) _ _ (by rfl) w.heap.size _ 1 [.string (ofT R p (listZ R p) m)] [.string tx] w21 HRow.out hw21 rfl (by intro u hu; simp at hu; subst hu; rfl) (by omega) (by omega) (by rfl) (by rfl) ?_)
  intro g6 cap6 w7 hown6 hat6 hgr6
  have HL7 := Lib.hid (Below.grown (HL21.out.alloc hw21 (.cells #[.string tx] 9)) hgr6 (by have := hw21; simp; omega) (fun j hj => by have := (HRow.out.lt j hj).1; omega))
  have HO7 := Lib.hid hown6
  clear hown6 hat6 hgr6
  go_wp2_with fail
  go_ret
  exact ⟨_, rfl, by rw [HOT.out]; exact HO7.out, HL7.out⟩
end Go.Proofs.YthklhndcdijneaaGreatDoor

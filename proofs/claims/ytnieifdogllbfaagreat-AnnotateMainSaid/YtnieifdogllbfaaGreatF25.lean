/- RecK, An1, An2, AnEq, Tic, Raw, AnA. -/
import Derived.Test.YtnieifdogllbfaaGreatF24
import Derived.BigQuiet
import Derived.Deep.Cut
import Derived.Deep.QuietTactic
import Derived.Test.YtnieifdogllbfaaGreatF23
import Derived.Test.YtnieifdogllbfaaGreatF08
import Derived.Deep.CutRange
import Derived.Test.YtnieifdogllbfaaGreatF06
import Derived.Test.YtnieifdogllbfaaGreatF22
import Derived.Test.YtnieifdogllbfaaGreatF07
import Derived.Laws.MakeOwn
import Derived.Test.YtnieifdogllbfaaGreatF17
namespace Go.Proofs.YtnieifdogllbfaaGreat
open Go.ChangeShapes Go.WideShapes Go.ChangeAt Go.RowKit
set_option linter.unusedVariables false
theorem depE_b {R : RulesZ} {ns : List NodeZ} {ds : List Int} {i : Nat} (hd : ∀ k, 0 ≤ ds.getD k 0 ∧ ds.getD k 0 ≤ 20) (h : nodeE R ns ds i = 0) : 0 ≤ depE ns ds i ∧ depE ns ds i ≤ 20 := by
 constructor
 ·unfold depE
  have := hd (ndAt ns i).parent.toNat
  have := hd i
  split <;> split <;> omega
 ·unfold nodeE at h
  by_cases h1 : cmtErr (ndAt ns i).comment ≠ 0
  ·rw [if_pos h1] at h; exact absurd h h1
  rw [if_neg h1] at h
  by_cases h2 : (i : Int) ≤ (ndAt ns i).parent ∨ onB ns (ndAt ns i).parent ((i : Int) - 1) = false
  ·rw [if_pos h2] at h; cases h
  rw [if_neg h2] at h
  by_cases h3 : twinB ns i = true
  ·rw [if_pos h3] at h; cases h
  rw [if_neg h3] at h
  by_cases h4 : runErr R (wayI ns i) ≠ 0
  ·rw [if_pos h4] at h; exact absurd h h4
  rw [if_neg h4] at h
  by_cases h5 : 20 < depE ns ds i
  ·rw [if_pos h5] at h; cases h
  ·omega
theorem set_b {ds : List Int} (hd : ∀ k, 0 ≤ ds.getD k 0 ∧ ds.getD k 0 ≤ 20) (i : Nat) (v : Int) (hv : 0 ≤ v ∧ v ≤ 20) (k : Nat) : 0 ≤ (ds.set i v).getD k 0 ∧ (ds.set i v).getD k 0 ≤ 20 := by
 rw [List.getD_eq_getElem?_getD, List.getElem?_set]
 by_cases e : i = k
 ·rw [if_pos e]
  split
  ·exact hv
  ·simp
 ·rw [if_neg e, ← List.getD_eq_getElem?_getD]; exact hd k
set_option maxRecDepth 100000 in
set_option maxHeartbeats 16000000 in
theorem recCheck_any (HS : SortMvSaid) (R : RulesZ) (vp vs ve : Value) (X : RecZ) (vt vn : Value) (w : World) (hr : RdR w R vp vs ve) (hnm : R.name.size ≤ maxLen) (hx : RdX w X vt vn) :
  Calls Tryz.prog 10 #[(.agg #[.string R.name, .int .i64 R.width, .int .i64 R.height, vp, vs, .bool R.falls, .bool R.keeps, ve, .int .i64 R.blocked, .int .i64 R.quiet, .int .i64 R.rept]), recV X vt vn] w fun e w' => e = .returned (.int .i64 (recErr R X)) ∧ Below w.heap.size w w' := by
 have HSh := Lib.hid HS
 have HR := Lib.hid hr
 have HN := Lib.hid hnm
 have HX := Lib.hid hx
 have HE : Hid (recErr R X = if rulesErr R ≠ 0 then rulesErr R else if 10 < X.tags.length ∨ 200 < X.nodes.length then 2 else if tagsE X.tags ≠ 0 then tagsE X.tags else
  if X.result < 0 ∨ 3 < X.result then 4 else if cmtErr X.comment ≠ 0 then cmtErr X.comment else nodesE R X.nodes X.nodes.length 0 (List.replicate X.nodes.length 0)) := Lib.hid rfl
 obtain ⟨na, nc, rfl, hn1, hn2⟩ := hx.2.1.form
 obtain ⟨ta, tc, rfl, ht1, ht2⟩ := hx.1.form
 obtain ⟨i0, hi, hz0, hz1, hz2⟩ := info_parts info3
 have hcs := hx.2.2
 unfold maxLen at hn2 ht2
 clear hr hnm hx HS
 unfold recV
 go_enter Tryz.func10, Tryz.ntmps10
 go_upto_region 1 with (fail)
 obtain ⟨bR, hbR⟩ : ∃ bR, bR = w.heap.size := ⟨_, rfl⟩
 obtain ⟨bX, hbX⟩ : ∃ bX, bX = w.heap.size + 1 := ⟨_, rfl⟩
 have HbR : Hid (Box ((w.alloc (.cells #[.string R.name, .int .i64 R.width, .int .i64 R.height, vp, vs, .bool R.falls, .bool R.keeps, ve, .int .i64 R.blocked, .int .i64 R.quiet, .int .i64 R.rept] 26)).alloc (.cells #[.slice ta X.tags.length tc, .string X.comment, .slice na X.nodes.length nc, .int .i64 X.result] 30)) bR [.string R.name, .int .i64 R.width, .int .i64 R.height, vp, vs, .bool R.falls, .bool R.keeps, ve, .int .i64 R.blocked, .int .i64 R.quiet, .int .i64 R.rept] 26) := Lib.hid ((Box.new' w bR [.string R.name, .int .i64 R.width, .int .i64 R.height, vp, vs, .bool R.falls, .bool R.keeps, ve, .int .i64 R.blocked, .int .i64 R.quiet, .int .i64 R.rept] 26 hbR.symm).alloc _)
 have HbX : Hid (Box ((w.alloc (.cells #[.string R.name, .int .i64 R.width, .int .i64 R.height, vp, vs, .bool R.falls, .bool R.keeps, ve, .int .i64 R.blocked, .int .i64 R.quiet, .int .i64 R.rept] 26)).alloc (.cells #[.slice ta X.tags.length tc, .string X.comment, .slice na X.nodes.length nc, .int .i64 X.result] 30)) bX [.slice ta X.tags.length tc, .string X.comment, .slice na X.nodes.length nc, .int .i64 X.result] 30) := Lib.hid (Box.new' (w.alloc (.cells #[.string R.name, .int .i64 R.width, .int .i64 R.height, vp, vs, .bool R.falls, .bool R.keeps, ve, .int .i64 R.blocked, .int .i64 R.quiet, .int .i64 R.rept] 26)) bX [.slice ta X.tags.length tc, .string X.comment, .slice na X.nodes.length nc, .int .i64 X.result] 30 (by rw [World.size_alloc, hbX]))
 have HB : Hid (Below w.heap.size w ((w.alloc (.cells #[.string R.name, .int .i64 R.width, .int .i64 R.height, vp, vs, .bool R.falls, .bool R.keeps, ve, .int .i64 R.blocked, .int .i64 R.quiet, .int .i64 R.rept] 26)).alloc (.cells #[.slice ta X.tags.length tc, .string X.comment, .slice na X.nodes.length nc, .int .i64 X.result] 30))) := Lib.hid (((Below.refl w.heap.size w).alloc (Nat.le_refl _) _).alloc (by rw [World.size_alloc]; omega) _)
 rw [← hbR, show bR + 1 = bX by omega]
 clear hbX hbR
 generalize ((w.alloc (.cells #[.string R.name, .int .i64 R.width, .int .i64 R.height, vp, vs, .bool R.falls, .bool R.keeps, ve, .int .i64 R.blocked, .int .i64 R.quiet, .int .i64 R.rept] 26)).alloc (.cells #[.slice ta X.tags.length tc, .string X.comment, .slice na X.nodes.length nc, .int .i64 X.result] 30)) = w0 at *
 refine wp_region_lit ?_
 refine wpList_load_box (by rfl) 26 (.tmp 2) (by rfl) bR (by rfl) HbR.out Tryz.underlying26 (by rfl) (by kernel_rfl) ?_
 go_wp2_with fail
 refine (rulesCheck_any R vp vs ve _ (HR.out.below HB.out (Nat.le_refl _)) HN.out).mono ?_
 rintro e w1 ⟨rfl, hb1⟩
 have HB1 := Lib.hid (HB.out.trans (hb1.mono HB.out.size))
 have HbR1 := Lib.hid (HbR.out.stays hb1)
 have HbX1 := Lib.hid (HbX.out.stays hb1)
 clear HB HbR HbX hb1
 by_cases hre : rulesErr R = 0
 rotate_left
 ·have HF : Hid (recErr R X = rulesErr R) := Lib.hid (by rw [HE.out, if_pos hre])
  generalize hrr : rulesErr R = re at *
  clear hrr
  go_wp2_with fail
  go_ret
  exact ⟨by rw [HF.out]; rfl, HB1.out⟩
 have HE1 : Hid (recErr R X = if 10 < X.tags.length ∨ 200 < X.nodes.length then 2 else if tagsE X.tags ≠ 0 then tagsE X.tags else
  if X.result < 0 ∨ 3 < X.result then 4 else if cmtErr X.comment ≠ 0 then cmtErr X.comment else nodesE R X.nodes X.nodes.length 0 (List.replicate X.nodes.length 0)) := Lib.hid (by rw [HE.out, if_neg (fun h => h hre)])
 rw [hre]
 clear hre HE
 have x0 := HbX1.out.cell 0 rfl
 have x2 := HbX1.out.cell 2 rfl
 have hxl := HbX1.out.lt
 by_cases ht10 : (10 : Int) < (X.tags.length : Int)
 ·have HF : Hid (recErr R X = 2) := Lib.hid (by rw [HE1.out, if_pos (.inl (by omega))])
  go_wp2_with fail
  go_ret
  exact ⟨by rw [HF.out]; rfl, HB1.out⟩
 by_cases hn200 : (200 : Int) < (X.nodes.length : Int)
 ·have HF : Hid (recErr R X = 2) := Lib.hid (by rw [HE1.out, if_pos (.inr (by omega))])
  go_wp2_with fail
  go_ret
  exact ⟨by rw [HF.out]; rfl, HB1.out⟩
 have HE2 : Hid (recErr R X = if tagsE X.tags ≠ 0 then tagsE X.tags else
  if X.result < 0 ∨ 3 < X.result then 4 else if cmtErr X.comment ≠ 0 then cmtErr X.comment else nodesE R X.nodes X.nodes.length 0 (List.replicate X.nodes.length 0)) := Lib.hid (by rw [HE1.out, if_neg (by omega)])
 clear HE1
 have HTg := fun w' hb => tags_any X (.slice ta X.tags.length tc) (.slice na X.nodes.length nc) w' (HX.out.below hb (Nat.le_refl _)) (by omega)
 have HTg := Lib.hid HTg
 go_upto_region 6 with (fail)
 refine wp_region_lit ?_
 refine wpList_load_box (by rfl) 30 (.tmp 3) (by rfl) bX (by rfl) HbX1.out Tryz.underlying30 (by rfl) (by kernel_rfl) ?_
 go_wp2_with fail
 refine (HTg.out _ HB1.out).mono ?_
 rintro e w2 ⟨rfl, hb2⟩
 have HB2 := Lib.hid (HB1.out.trans (hb2.mono HB1.out.size))
 have HbR2 := Lib.hid (HbR1.out.stays hb2)
 have HbX2 := Lib.hid (HbX1.out.stays hb2)
 clear HB1 HbR1 HbX1 hb2 x0 x2 HTg
 by_cases hte : tagsE X.tags = 0
 rotate_left
 ·have HF : Hid (recErr R X = tagsE X.tags) := Lib.hid (by rw [HE2.out, if_pos hte])
  generalize hrr : tagsE X.tags = re at *
  clear hrr
  go_wp2_with fail
  go_ret
  exact ⟨by rw [HF.out]; rfl, HB2.out⟩
 have HE3 : Hid (recErr R X = if X.result < 0 ∨ 3 < X.result then 4 else if cmtErr X.comment ≠ 0 then cmtErr X.comment else nodesE R X.nodes X.nodes.length 0 (List.replicate X.nodes.length 0)) := Lib.hid (by rw [HE2.out, if_neg (fun h => h hte)])
 rw [hte]
 clear hte HE2
 have x1 := HbX2.out.cell 1 rfl
 have x2 := HbX2.out.cell 2 rfl
 have x3 := HbX2.out.cell 3 rfl
 have hxl := HbX2.out.lt
 by_cases hr0 : X.result < 0
 ·have HF : Hid (recErr R X = 4) := Lib.hid (by rw [HE3.out, if_pos (.inl hr0)])
  go_wp2_with fail
  go_ret
  exact ⟨by rw [HF.out]; rfl, HB2.out⟩
 by_cases hr3 : 3 < X.result
 ·have HF : Hid (recErr R X = 4) := Lib.hid (by rw [HE3.out, if_pos (.inr hr3)])
  go_wp2_with fail
  go_ret
  exact ⟨by rw [HF.out]; rfl, HB2.out⟩
 have HE4 : Hid (recErr R X = if cmtErr X.comment ≠ 0 then cmtErr X.comment else nodesE R X.nodes X.nodes.length 0 (List.replicate X.nodes.length 0)) := Lib.hid (by rw [HE3.out, if_neg (by omega)])
 have HCm := Lib.hid (comment_any X.comment w2 hcs)
 clear HE3
 by_cases hce : cmtErr X.comment = 0
 rotate_left
 ·have HF : Hid (recErr R X = cmtErr X.comment) := Lib.hid (by rw [HE4.out, if_pos hce])
  generalize hrr : cmtErr X.comment = re at *
  clear hrr
  go_wp2_with (go_at_call 24; refine HCm.out.mono ?_; rintro e w5 ⟨rfl, rfl⟩)
  go_ret
  exact ⟨by rw [HF.out]; rfl, HB2.out⟩
 have HE5 : Hid (recErr R X = nodesE R X.nodes X.nodes.length 0 (List.replicate X.nodes.length 0)) := Lib.hid (by rw [HE4.out, if_neg (fun h => h hce)])
 rw [hce] at HCm
 clear hce HE4
 obtain ⟨bb, hbb⟩ : ∃ bb, bb = w2.heap.size := ⟨_, rfl⟩
 go_upto_region 15 with (first
  | (go_at_call 24; refine HCm.out.mono ?_; rintro e w5 ⟨rfl, rfl⟩)
  | (at_make; refine wpList_make_full _ rfl _ _ 23 rfl w2.heap.size 3 i0 (.int .i64 0) 1 Tryz.underlying23 hi hz0 hz1 .i64 .i64 X.nodes.length X.nodes.length X.nodes.length rfl rfl rfl rfl (by rw [hz2]; omega) (by unfold maxLen; omega) (Nat.le_refl _) ?_; intro w3 hown hgrow))
 rw [made_ints] at hown
 rw [← hbb] at hown ⊢
 have HO3 := Lib.hid hown
 have HB3 : Hid (Below bb w2 w3) := Lib.hid (by rw [hbb]; exact Below.grown (Below.refl _ w2) hgrow (Nat.le_refl _) (fun q hq => by cases hq))
 have hbRl : bR < bb := by rw [hbb]; exact HbR2.out.lt
 have hbXl : bX < bb := by rw [hbb]; exact HbX2.out.lt
 have hbb1 : w2.heap.size ≤ bb := by omega
 have hbb2 : bb ≤ w2.heap.size := by omega
 have hw2 := HB2.out.size
 have hb3l := (HO3.out.lt bb rfl).2
 have x23 := (HbX2.out.below HB3.out hbXl).cell 2 rfl
 clear hown hgrow hbb HCm x1 x2 x3
 have HD0 : Hid (∀ k, 0 ≤ (List.replicate X.nodes.length (0 : Int)).getD k 0 ∧ (List.replicate X.nodes.length (0 : Int)).getD k 0 ≤ 20) := Lib.hid (fun k => by
  have : (List.replicate X.nodes.length (0 : Int)).getD k 0 = 0 := by
   rw [List.getD_eq_getElem?_getD, List.getElem?_replicate]; split <;> rfl
  rw [this]; omega)
 go_wp2_with fail
 go_loopw [52, 9, 10] (fun v52 v9 v10 wr => ∃ (k : Nat) (o9 o10 : Value) (ds : List Int), o9 = v9 ∧ o10 = v10 ∧ k ≤ X.nodes.length ∧ v52 = .int .i64 k ∧ Hid (recErr R X = nodesE R X.nodes (X.nodes.length - k) k ds) ∧ Hid (NodesOK R X.nodes k) ∧ Hid (∀ j, 0 ≤ ds.getD j 0 ∧ ds.getD j 0 ≤ 20) ∧ Hid (wr.ownsRow bb 3 1 (.slice (some ⟨bb, 0, none⟩) X.nodes.length X.nodes.length) X.nodes.length (ints ds)) ∧ Hid (Below bb w2 wr)) (fun v _ _ _ => X.nodes.length - (intOf v).toNat)
 case atStart => exact ⟨0, _, _, List.replicate X.nodes.length 0, rfl, rfl, Nat.zero_le _, rfl, HE5, Lib.hid ⟨fun k hk => absurd hk (Nat.not_lt_zero _), fun k hk => absurd hk (Nat.not_lt_zero _), fun k _ _ hk => absurd hk (Nat.not_lt_zero _), fun k hk => absurd hk (Nat.not_lt_zero _)⟩, HD0, HO3, HB3⟩
 case round =>
  obtain ⟨k, o9, o10, ds, rfl, rfl, hk, rfl, HK, HNk, HDs, HO, HBr⟩ := hrel
  by_cases hlt : k < X.nodes.length
  ·have HNd := Lib.hid (node_any HSh.out R vp vs ve X (.slice ta X.tags.length tc) (.slice na X.nodes.length nc) ds bb bb X.nodes.length k w2 wr (HR.out.below HB2.out (Nat.le_refl _)) HN.out (HX.out.below HB2.out (Nat.le_refl _)) hbb1 HBr.out HO.out hlt (by omega) HNk.out.back HDs.out)
   have HbRr := Lib.hid (HbR2.out.below HBr.out hbRl)
   have HbXr := Lib.hid (HbX2.out.below HBr.out hbXl)
   have HKs : Hid (recErr R X = if nodeE R X.nodes ds k ≠ 0 then nodeE R X.nodes ds k else nodesE R X.nodes (X.nodes.length - (k + 1)) (k + 1) (ds.set k (depE X.nodes ds k))) := Lib.hid (by
    rw [HK.out, show X.nodes.length - k = (X.nodes.length - (k + 1)) + 1 by omega, nodesE])
   unfold recV at HNd
   have hkl : (k : Int) < (X.nodes.length : Int) := by omega
   clear HK
   go_upto_region 18 with (fail)
   refine wp_region_lit ?_
   refine wpList_load_box (by rfl) 26 (.tmp 2) (by rfl) bR (by rfl) HbRr.out Tryz.underlying26 (by rfl) (by kernel_rfl) ?_
   refine wpList_load_box (by rfl) 30 (.tmp 3) (by rfl) bX (by rfl) HbXr.out Tryz.underlying30 (by rfl) (by kernel_rfl) ?_
   go_wp2_with fail
   refine HNd.out.mono ?_
   rintro e w6 ⟨rfl, hb6, ho6⟩
   have HB6 := Lib.hid hb6
   clear hb6 HNd
   by_cases hne : nodeE R X.nodes ds k = 0
   ·have HO6 := Lib.hid (ho6 hne)
    have HK6 : Hid (recErr R X = nodesE R X.nodes (X.nodes.length - (k + 1)) (k + 1) (ds.set k (depE X.nodes ds k))) := Lib.hid (by rw [HKs.out, if_neg (fun h => h hne)])
    have HN6 := Lib.hid (nodeE_zero hlt HNk.out hne)
    have HD6 := Lib.hid (set_b HDs.out k _ (depE_b HDs.out hne))
    rw [hne]
    clear ho6 hne HKs
    go_wp2_with fail
    go_roundw
    case rel => exact ⟨k + 1, _, _, _, rfl, rfl, by omega, by go_num, HK6, HN6, HD6, HO6, HB6⟩
    case measure => simp [intOf]; omega
   ·have HF : Hid (recErr R X = nodeE R X.nodes ds k) := Lib.hid (by rw [HKs.out, if_pos hne])
    generalize hrr : nodeE R X.nodes ds k = re at *
    clear hrr ho6 HKs
    go_wp2_with fail
    go_ret
    exact ⟨by rw [HF.out]; rfl, HB2.out.trans (HB6.out.mono (by omega))⟩
  ·obtain rfl : k = X.nodes.length := by omega
   have HF : Hid (recErr R X = 0) := Lib.hid (by rw [HK.out, Nat.sub_self]; rfl)
   go_wp2_with fail
   go_ret
   exact ⟨by rw [HF.out]; rfl, HB2.out.trans (HBr.out.mono (by omega))⟩
end Go.Proofs.YtnieifdogllbfaaGreat
namespace Go.Proofs.YtnieifdogllbfaaGreat
open Go.ChangeShapes Go.WideShapes Go.ChangeAt Go.RowKit
set_option linter.unusedVariables false
theorem box_of_own {w : World} {b g n : Nat} {e : TypeId} {xs : List Value} (h : w.ownsRow b e 1 (.slice (some ⟨g, 0, none⟩) n n) n xs) : Box w g xs e ∧ xs.length = n ∧ b ≤ g := by
 rcases h.2 with ⟨h0, -⟩ | ⟨g', c, cur, hv, hg, hb, h1, h2, h3, h4⟩
 ·cases h0
 ·simp only [Value.slice.injEq, Option.some.injEq, Addr.mk.injEq, and_true, true_and] at hv
  obtain ⟨rfl, rfl⟩ := hv
  rw [List.take_of_length_le (by simp; omega)] at h4
  subst h4
  exact ⟨by show w.heap[g]? = _; rw [hb], by simpa using h3, hg⟩
theorem below_made {w w' : World} (h : w.grownBy w' none) : Below w.heap.size w w' := ⟨h.os, h.tape, h.output, h.size, fun k hk => h.block k hk (by simp)⟩
def SizedPost (R : RulesZ) (X : RecZ) (vt vn : Value) (w : World) (e : Ending) (w' : World) : Prop :=
 Below w.heap.size w w' ∧ ((recErr R X = 0 ∧ e = .returned (.tuple #[recV X vt vn, .int .i64 0])) ∨ (recErr R X ≠ 0 ∧ e = .returned (.tuple #[.agg #[.slice none 0 0, .string ⟨#[]⟩, .slice none 0 0, .int .i64 0], .int .i64 (recErr R X)])))
set_option maxRecDepth 100000
set_option maxHeartbeats 8000000
theorem sized_any (HS : SortMvSaid) (R : RulesZ) (vp vs ve : Value) (X : RecZ) (vt vn : Value) (w : World) (hr : RdR w R vp vs ve) (hnm : R.name.size ≤ maxLen) (hx : RdX w X vt vn) :
  Calls Tryz.prog 31 #[(.agg #[.string R.name, .int .i64 R.width, .int .i64 R.height, vp, vs, .bool R.falls, .bool R.keeps, ve, .int .i64 R.blocked, .int .i64 R.quiet, .int .i64 R.rept]), recV X vt vn] w (SizedPost R X vt vn w) := by
 have HSh := Lib.hid HS
 have HR := Lib.hid hr
 have HN := Lib.hid hnm
 have HX := Lib.hid hx
 obtain ⟨na, nc, rfl, hn1, hn2⟩ := hx.2.1.form
 obtain ⟨ta, tc, rfl, ht1, ht2⟩ := hx.1.form
 unfold maxLen at hn2 ht2
 clear hr hnm hx HS
 unfold recV
 go_enter Tryz.func31, Tryz.ntmps31
 go_upto_region 1 with (fail)
 refine opn3 ?_
 intro w0 xbR xbX xbO hB0 hS0
 have HB := Lib.hid hB0
 obtain ⟨bO, hbO⟩ : ∃ bO, bO = w.heap.size + 1 + 1 := ⟨_, rfl⟩
 rw [← hbO] at xbO ⊢
 obtain ⟨bX, hbX⟩ : ∃ bX, bX = w.heap.size + 1 := ⟨_, rfl⟩
 rw [← hbX] at xbX ⊢
 obtain ⟨bR, hbR⟩ : ∃ bR, bR = w.heap.size := ⟨_, rfl⟩
 rw [← hbR] at xbR ⊢
 have hbR1 : w.heap.size ≤ bR := by omega
 have HbR := Lib.hid xbR
 have hbX1 : w.heap.size ≤ bX := by omega
 have hbRbX : bR < bX := by omega
 have HbX := Lib.hid xbX
 have hbO1 : w.heap.size ≤ bO := by omega
 have hbRbO : bR < bO := by omega
 have hbXbO : bX < bO := by omega
 have HbO := Lib.hid xbO
 have hS : bO < w0.heap.size := by omega
 clear hB0 hS0 xbR hbR xbX hbX xbO hbO
 refine wp_region_lit ?_
 refine wpList_load_box (by rfl) 26 (.tmp 2) (by rfl) bR (by rfl) HbR.out Tryz.underlying26 (by rfl) (by kernel_rfl) ?_
 refine wpList_load_box (by rfl) 30 (.tmp 3) (by rfl) bX (by rfl) HbX.out Tryz.underlying30 (by rfl) (by kernel_rfl) ?_
 have HC := Lib.hid (recCheck_any HSh.out R vp vs ve X (.slice ta X.tags.length tc) (.slice na X.nodes.length nc) w0 (HR.out.below HB.out (Nat.le_refl _)) HN.out (HX.out.below HB.out (Nat.le_refl _)))
 unfold recV at HC
 go_wp2_with fail
 refine HC.out.mono ?_
 rintro e w1 ⟨rfl, hb1⟩
 have HB1 := Lib.hid (HB.out.trans (hb1.mono HB.out.size))
 have HbX1 := Lib.hid (HbX.out.stays hb1)
 have HbO1 := Lib.hid (HbO.out.stays hb1)
 clear hb1 HC HbX HbO HbR HB
 obtain ⟨E, hE⟩ : ∃ E, E = recErr R X := ⟨_, rfl⟩
 rw [← hE]
 by_cases h0 : E = 0
 ·have p0 : (E != 0) = false := by simpa using h0
  have HE := Lib.hid (hE.symm.trans h0)
  clear hE h0
  go_upto_region 4 with (fail)
  refine wp_region_lit ?_
  refine wpList_load_box (by rfl) 30 (.tmp 3) (by rfl) bX (by rfl) HbX1.out Tryz.underlying30 (by rfl) (by kernel_rfl) ?_
  refine wpList_store_box (vs := [.slice ta X.tags.length tc, .string X.comment, .slice na X.nodes.length nc, .int .i64 X.result]) (by rfl) 30 (.tmp 4) (.tmp 14) (by rfl) bO (by rfl) (by rfl) HbO1.out rfl (by kernel_rfl) (by rfl) ?_
  have HbO2 := Lib.hid (HbO1.out.store (vs := [.slice ta X.tags.length tc, .string X.comment, .slice na X.nodes.length nc, .int .i64 X.result]) rfl)
  have HB2 := Lib.hid (below_setCells HB1.out hbO1 0 [.slice ta X.tags.length tc, .string X.comment, .slice na X.nodes.length nc, .int .i64 X.result])
  generalize w1.setCells bO 0 [.slice ta X.tags.length tc, .string X.comment, .slice na X.nodes.length nc, .int .i64 X.result] = w2 at *
  go_wp2_with fail
  exact bodyPost_ret (results_box rfl (by rfl) (by rfl) HbO2.out Tryz.underlying30 (by rfl) (by kernel_rfl)) rfl ⟨HB2.out, .inl ⟨HE.out, rfl⟩⟩
 ·have p0 : (E != 0) = true := by simpa using h0
  have HE := Lib.hid hE
  have HE0 := Lib.hid h0
  clear hE h0
  go_upto_region 3 with (fail)
  have z0 := HbO1.out.cell 0 rfl
  have z1 := HbO1.out.cell 1 rfl
  have z2 := HbO1.out.cell 2 rfl
  have z3 := HbO1.out.cell 3 rfl
  have f0 := HbO1.out.frozen 0
  have f1 := HbO1.out.frozen 1
  have f2 := HbO1.out.frozen 2
  have f3 := HbO1.out.frozen 3
  have zl := HbO1.out.lt
  go_wp2_with fail
  change bodyPost _ _ _ _ _ (w1.setCells bO 0 [.slice none 0 0, .string ⟨#[]⟩, .slice none 0 0, .int .i64 0])
  have HbO2 := Lib.hid (HbO1.out.store (vs := [.slice none 0 0, .string ⟨#[]⟩, .slice none 0 0, .int .i64 0]) rfl)
  have HB2 := Lib.hid (below_setCells HB1.out hbO1 0 [.slice none 0 0, .string ⟨#[]⟩, .slice none 0 0, .int .i64 0])
  exact bodyPost_ret (results_box rfl (by rfl) (by rfl) HbO2.out Tryz.underlying30 (by rfl) (by kernel_rfl)) rfl ⟨HB2.out, .inr ⟨by rw [← HE.out]; exact HE0.out, by rw [← HE.out]; rfl⟩⟩
end Go.Proofs.YtnieifdogllbfaaGreat
namespace Go.Proofs.YtnieifdogllbfaaGreat
open Go.ChangeShapes Go.WideShapes Go.ChangeAt Go.RowKit
set_option linter.unusedVariables false
theorem tree_below {w wm w' : World} {ns : List NodeZ} {ord : Int → List Nat} {bw : Nat} {Ws0 Ws : List Value} {S : Nat → Prop} {v : Value} {js : List Nat} (hm : w.grownBy wm none) (hb : bw = w.heap.size) (h : TS tBr tPt wm.heap.size wm w' ns ord bw Ws0 Ws S v js) : Below w.heap.size w w' :=
 ⟨h.grow.os.trans hm.os, h.grow.tape.trans hm.tape, h.grow.output.trans hm.output, Nat.le_trans hm.size h.grow.size, fun k hk => (h.grow.block k (Nat.lt_of_lt_of_le hk hm.size) (by simp; omega)).trans (hm.block k hk (by simp))⟩
theorem OwnX.mono {b b' : Nat} {w : World} {X : RecZ} {vt vn : Value} (h : OwnX b w X vt vn) (hb : b' ≤ b) : OwnX b' w X vt vn := by
 obtain ⟨ts, h1, h2⟩ := h.tags
 exact ⟨⟨ts, own_base h1 hb, h2⟩, own_base h.nodes hb, h.sz, h.cs⟩
def ErrPost (e : Ending) (E : Int) : Prop := E ≠ 0 ∧ e = .returned (.tuple #[.agg #[.slice none 0 0, .string ⟨#[]⟩, .slice none 0 0, .int .i64 0], .int .i64 E])
/-- the state behind with: the parameters' boxes and the record that is made. -/
structure MSt (cR cX cY : List Value) (bR bX bY bO bo : Nat) (w wx : World) (Z : RecZ) (vt vn : Value) : Prop where
 old : Below w.heap.size w wx
 hR : Box wx bR cR 26
 hX : Box wx bX cX 30
 hY : Box wx bY cY 30
 hO : Box wx bO [.slice none 0 0, .string ⟨#[]⟩, .slice none 0 0, .int .i64 0] 30
 ho : Box wx bo [vt, .string Z.comment, vn, .int .i64 Z.result] 30
 own : OwnX w.heap.size wx Z vt vn
 lo : w.heap.size ≤ bo ∧ bR ≠ bo ∧ bX ≠ bo ∧ bY ≠ bo ∧ bO ≠ bo
 ne : ∀ g, (vt.ownBlock = some g ∨ vn.ownBlock = some g) → g ≠ bo ∧ bO < g
section
variable {cR cX cY : List Value} {bR bX bY bO bo : Nat} {w wx wy : World} {Z : RecZ} {vt vn : Value}
theorem MSt.stays (h : MSt cR cX cY bR bX bY bO bo w wx Z vt vn) (hb : Below wx.heap.size wx wy) : MSt cR cX cY bR bX bY bO bo w wy Z vt vn :=
 ⟨below_trans h.old hb h.old.size, h.hR.stays hb, h.hX.stays hb, h.hY.stays hb, h.hO.stays hb, h.ho.stays hb, h.own.move (fun g hg _ => hb.block g hg), h.lo, h.ne⟩
end
set_option maxRecDepth 100000
set_option maxHeartbeats 16000000
end Go.Proofs.YtnieifdogllbfaaGreat
namespace Go.Proofs.YtnieifdogllbfaaGreat
open Go.ChangeShapes Go.WideShapes Go.ChangeAt Go.RowKit
set_option linter.unusedVariables false
end Go.Proofs.YtnieifdogllbfaaGreat
namespace Go.Proofs.YtnieifdogllbfaaGreat
open Go.ChangeShapes Go.WideShapes Go.ChangeAt Go.RowKit
set_option linter.unusedVariables false
def ticZ : RulesZ := ⟨⟨#[84, 73, 67]⟩, 3, 3, [⟨83, 5, 0, []⟩], List.replicate 9 0, false, false, [⟨0, 0, 3, false⟩], 2, 0, 0⟩
def TicPost (w : World) (e : Ending) (w' : World) : Prop := ∃ vp vs ve, e = .returned (rulesV ticZ vp vs ve) ∧ RdR w' ticZ vp vs ve ∧ Below w.heap.size w w'
set_option maxRecDepth 100000 in
set_option maxHeartbeats 4000000 in
theorem tic_any (w : World) : Calls Tryz.prog 20 #[] w (TicPost w) := by
 obtain ⟨i0, hi, hz0, hz1, hz2⟩ := info_parts info3
 have hmk : ∀ w' : World, (Instr.makeSlice 23 (.int .i64 9) (.int .i64 9)).run Tryz.prog w' = .ok (.slice (some ⟨w'.heap.size, 0, none⟩) 9 9) (w'.alloc (.cells #[.int .i64 0, .int .i64 0, .int .i64 0, .int .i64 0, .int .i64 0, .int .i64 0, .int .i64 0, .int .i64 0, .int .i64 0] 3)) := fun w' => by
  rw [run_make w' 23 3 i0 (.int .i64 0) Tryz.underlying23 hi hz0 .i64 .i64 9 9 (by decide) (by decide) (by rw [hz2]; decide) (by decide), hz1]
  kernel_rfl
 clear hi hz0 hz1 hz2
 go_enter Tryz.func20, Tryz.ntmps20
 go_wp2
 refine bodyPost_ret (v := rulesV ticZ (.slice (some ⟨w.heap.size + 1, 0, none⟩) 1 1) (.slice (some ⟨w.heap.size + 1 + 1, 0, none⟩) 9 9) (.slice (some ⟨w.heap.size + 1 + 1 + 1, 0, none⟩) 1 1)) (by simp [results, Tryz.results20, go_sem, rulesV, ticZ]) rfl ⟨_, _, _, rfl, ⟨?_, ?_, ?_⟩, by go_grown⟩
 ·refine .inr ⟨w.heap.size + 1, 0, 1, rfl, Nat.le_refl _, by unfold maxLen; decide, by simp, fun i h => ?_⟩
  obtain rfl : i = 0 := by simp [ticZ] at h; exact h
  refine ⟨[.int .u8 83, .int .i64 5, .int .i64 0, .slice none 0 0], ⟨.slice none 0 0, rfl, RdL.nil _ _⟩, fun j hj => ?_⟩
  simp only [pieceEl] at hj
  rcases j with _ | _ | _ | _ | j
  all_goals first | (simp [go_sem]; done) | omega
 ·refine ⟨rfl, .inr ⟨w.heap.size + 1 + 1, 0, 9, rfl, Nat.le_refl _, by unfold maxLen; decide, fun i hi => ?_⟩⟩
  have hi' : i < 9 := by simpa [ticZ] using hi
  rcases i with _ | _ | _ | _ | _ | _ | _ | _ | _ | i
  all_goals first | (simp [go_sem, ints, ticZ]; done) | omega
 ·refine .inr ⟨w.heap.size + 1 + 1 + 1, 0, 1, rfl, Nat.le_refl _, by unfold maxLen; decide, by simp, fun i h => ?_⟩
  obtain rfl : i = 0 := by simp [ticZ] at h; exact h
  refine ⟨[.int .i64 0, .int .i64 0, .int .i64 3, .bool false], rfl, fun j hj => ?_⟩
  simp only [endEl] at hj
  rcases j with _ | _ | _ | _ | j
  all_goals first | (simp [go_sem]; done) | omega
end Go.Proofs.YtnieifdogllbfaaGreat
namespace Go.Proofs.YtnieifdogllbfaaGreat
set_option linter.unusedVariables false
def resRaw (R : RulesZ) (p : PosZ) : Int :=
 if 0 ≤ idxL (fun x => holdsZ R p x (1 - p.turn)) R.ends 0 then
  (if (R.ends.getD (idxL (fun x => holdsZ R p x (1 - p.turn)) R.ends 0).toNat default).loses = true then 1 + p.turn else 1 + (1 - p.turn))
 else if R.quiet ≠ 0 ∧ R.quiet ≤ p.quiet then 3
 else if (rawZ R p).isEmpty = false then 0
 else if R.blocked = 0 then 1 + (1 - p.turn)
 else if R.blocked = 1 then 1 + p.turn else 3
theorem list_pos (R : RulesZ) (p : PosZ) : 0 < (listZ R p).length ↔ (rawZ R p).isEmpty = false := by
 rw [List.length_pos_iff_exists_mem, List.isEmpty_eq_false_iff_exists_mem]
 exact ⟨fun ⟨m, h⟩ => ⟨m, list_mem.1 h⟩, fun ⟨m, h⟩ => ⟨m, list_mem.2 h⟩⟩
theorem res_raw (R : RulesZ) (p : PosZ) : resultZ R p = resRaw R p := by
 unfold resultZ resRaw
 simp only [list_pos]
end Go.Proofs.YtnieifdogllbfaaGreat
namespace Go.Proofs.YtnieifdogllbfaaGreat
open Go.ChangeShapes Go.WideShapes Go.ChangeAt Go.RowKit
set_option linter.unusedVariables false
set_option maxHeartbeats 8000000
set_option maxRecDepth 100000
theorem checked_ok (HS : SortMvSaid) (R : RulesZ) (vp vs ve : Value) (X : RecZ) (vt vn : Value) (nd : Nat) (w : World) (hr : RdR w R vp vs ve) (hnm : R.name.size ≤ maxLen) (hx : RdX w X vt vn) (he : recErr R X = 0) (hnd : nd < X.nodes.length) :
  Calls Tryz.prog 32 #[(.agg #[.string R.name, .int .i64 R.width, .int .i64 R.height, vp, vs, .bool R.falls, .bool R.keeps, ve, .int .i64 R.blocked, .int .i64 R.quiet, .int .i64 R.rept]), recV X vt vn, .int .i64 nd] w fun e w' => e = .returned (.int .i64 0) ∧ Below w.heap.size w w' := by
 have HSh := Lib.hid HS
 have HR := Lib.hid hr
 have HN := Lib.hid hnm
 have HX := Lib.hid hx
 have HE := Lib.hid he
 obtain ⟨na, nc, rfl, hn1, hn2⟩ := hx.2.1.form
 obtain ⟨ta, tc, rfl, ht1, ht2⟩ := hx.1.form
 unfold maxLen at hn2 ht2
 have h200 := (rec_nodes he).2.2
 have HNo := Lib.hid (rec_nodes he).2.1
 clear hr hnm hx HS he
 unfold recV
 go_enter Tryz.func32, Tryz.ntmps32
 go_upto_region 1 with (fail)
 obtain ⟨bR, hbR⟩ : ∃ bR, bR = w.heap.size := ⟨_, rfl⟩
 obtain ⟨bX, hbX⟩ : ∃ bX, bX = w.heap.size + 1 := ⟨_, rfl⟩
 have HbR : Hid (Box ((w.alloc (.cells #[.string R.name, .int .i64 R.width, .int .i64 R.height, vp, vs, .bool R.falls, .bool R.keeps, ve, .int .i64 R.blocked, .int .i64 R.quiet, .int .i64 R.rept] 26)).alloc (.cells #[.slice ta X.tags.length tc, .string X.comment, .slice na X.nodes.length nc, .int .i64 X.result] 30)) bR [.string R.name, .int .i64 R.width, .int .i64 R.height, vp, vs, .bool R.falls, .bool R.keeps, ve, .int .i64 R.blocked, .int .i64 R.quiet, .int .i64 R.rept] 26) := Lib.hid ((Box.new' w bR [.string R.name, .int .i64 R.width, .int .i64 R.height, vp, vs, .bool R.falls, .bool R.keeps, ve, .int .i64 R.blocked, .int .i64 R.quiet, .int .i64 R.rept] 26 hbR.symm).alloc _)
 have HbX : Hid (Box ((w.alloc (.cells #[.string R.name, .int .i64 R.width, .int .i64 R.height, vp, vs, .bool R.falls, .bool R.keeps, ve, .int .i64 R.blocked, .int .i64 R.quiet, .int .i64 R.rept] 26)).alloc (.cells #[.slice ta X.tags.length tc, .string X.comment, .slice na X.nodes.length nc, .int .i64 X.result] 30)) bX [.slice ta X.tags.length tc, .string X.comment, .slice na X.nodes.length nc, .int .i64 X.result] 30) := Lib.hid (Box.new' (w.alloc (.cells #[.string R.name, .int .i64 R.width, .int .i64 R.height, vp, vs, .bool R.falls, .bool R.keeps, ve, .int .i64 R.blocked, .int .i64 R.quiet, .int .i64 R.rept] 26)) bX [.slice ta X.tags.length tc, .string X.comment, .slice na X.nodes.length nc, .int .i64 X.result] 30 (by rw [World.size_alloc, hbX]))
 have HB : Hid (Below w.heap.size w ((w.alloc (.cells #[.string R.name, .int .i64 R.width, .int .i64 R.height, vp, vs, .bool R.falls, .bool R.keeps, ve, .int .i64 R.blocked, .int .i64 R.quiet, .int .i64 R.rept] 26)).alloc (.cells #[.slice ta X.tags.length tc, .string X.comment, .slice na X.nodes.length nc, .int .i64 X.result] 30))) := Lib.hid (((Below.refl w.heap.size w).alloc (Nat.le_refl _) _).alloc (by rw [World.size_alloc]; omega) _)
 rw [← hbR, show bR + 1 = bX by omega]
 clear hbX hbR
 generalize ((w.alloc (.cells #[.string R.name, .int .i64 R.width, .int .i64 R.height, vp, vs, .bool R.falls, .bool R.keeps, ve, .int .i64 R.blocked, .int .i64 R.quiet, .int .i64 R.rept] 26)).alloc (.cells #[.slice ta X.tags.length tc, .string X.comment, .slice na X.nodes.length nc, .int .i64 X.result] 30)) = w0 at *
 refine wp_region_lit ?_
 refine wpList_load_box (by rfl) 26 (.tmp 3) (by rfl) bR (by rfl) HbR.out Tryz.underlying26 (by rfl) (by kernel_rfl) ?_
 refine wpList_load_box (by rfl) 30 (.tmp 4) (by rfl) bX (by rfl) HbX.out Tryz.underlying30 (by rfl) (by kernel_rfl) ?_
 go_wp2_with fail
 have HC := Lib.hid (recCheck_any HSh.out R vp vs ve X (.slice ta X.tags.length tc) (.slice na X.nodes.length nc) w0 (HR.out.below HB.out (Nat.le_refl _)) HN.out (HX.out.below HB.out (Nat.le_refl _)))
 unfold recV at HC
 rw [HE.out] at HC
 refine HC.out.mono ?_
 rintro e w1 ⟨rfl, hb1⟩
 have HB1 := Lib.hid (HB.out.trans (hb1.mono HB.out.size))
 have HbX1 := Lib.hid (HbX.out.stays hb1)
 have x2 := HbX1.out.cell 2 rfl
 have hxl := HbX1.out.lt
 have hnl : (nd : Int) < (X.nodes.length : Int) := by omega
 have hnl2 : ¬ X.nodes.length ≤ nd := by omega
 clear hb1 HC
 go_wp2_with fail
 go_ret
 exact ⟨rfl, HB1.out⟩
theorem Path_ok (HS : SortMvSaid) (R : RulesZ) (vp vs ve : Value) (X : RecZ) (vt vn : Value) (nd : Nat) (w : World) (hr : RdR w R vp vs ve) (hnm : R.name.size ≤ maxLen) (hx : RdX w X vt vn) (he : recErr R X = 0) (hnd : nd < X.nodes.length) :
  Calls Tryz.prog 14 #[(.agg #[.string R.name, .int .i64 R.width, .int .i64 R.height, vp, vs, .bool R.falls, .bool R.keeps, ve, .int .i64 R.blocked, .int .i64 R.quiet, .int .i64 R.rept]), recV X vt vn, .int .i64 nd] w fun e w' => (∃ a c, e = .returned (.tuple #[.slice a (wayI X.nodes nd).length c, .int .i64 0]) ∧ RdL moveEl w' (.slice a (wayI X.nodes nd).length c) (wayI X.nodes nd)) ∧ Below w.heap.size w w' := by
 have HSh := Lib.hid HS
 have HR := Lib.hid hr
 have HN := Lib.hid hnm
 have HX := Lib.hid hx
 have HE := Lib.hid he
 obtain ⟨na, nc, rfl, hn1, hn2⟩ := hx.2.1.form
 obtain ⟨ta, tc, rfl, ht1, ht2⟩ := hx.1.form
 unfold maxLen at hn2 ht2
 have h200 := (rec_nodes he).2.2
 have HNo := Lib.hid (rec_nodes he).2.1
 clear hr hnm hx HS he
 unfold recV
 go_enter Tryz.func14, Tryz.ntmps14
 go_upto_region 1 with (fail)
 obtain ⟨bR, hbR⟩ : ∃ bR, bR = w.heap.size := ⟨_, rfl⟩
 obtain ⟨bX, hbX⟩ : ∃ bX, bX = w.heap.size + 1 := ⟨_, rfl⟩
 have HbR : Hid (Box ((w.alloc (.cells #[.string R.name, .int .i64 R.width, .int .i64 R.height, vp, vs, .bool R.falls, .bool R.keeps, ve, .int .i64 R.blocked, .int .i64 R.quiet, .int .i64 R.rept] 26)).alloc (.cells #[.slice ta X.tags.length tc, .string X.comment, .slice na X.nodes.length nc, .int .i64 X.result] 30)) bR [.string R.name, .int .i64 R.width, .int .i64 R.height, vp, vs, .bool R.falls, .bool R.keeps, ve, .int .i64 R.blocked, .int .i64 R.quiet, .int .i64 R.rept] 26) := Lib.hid ((Box.new' w bR [.string R.name, .int .i64 R.width, .int .i64 R.height, vp, vs, .bool R.falls, .bool R.keeps, ve, .int .i64 R.blocked, .int .i64 R.quiet, .int .i64 R.rept] 26 hbR.symm).alloc _)
 have HbX : Hid (Box ((w.alloc (.cells #[.string R.name, .int .i64 R.width, .int .i64 R.height, vp, vs, .bool R.falls, .bool R.keeps, ve, .int .i64 R.blocked, .int .i64 R.quiet, .int .i64 R.rept] 26)).alloc (.cells #[.slice ta X.tags.length tc, .string X.comment, .slice na X.nodes.length nc, .int .i64 X.result] 30)) bX [.slice ta X.tags.length tc, .string X.comment, .slice na X.nodes.length nc, .int .i64 X.result] 30) := Lib.hid (Box.new' (w.alloc (.cells #[.string R.name, .int .i64 R.width, .int .i64 R.height, vp, vs, .bool R.falls, .bool R.keeps, ve, .int .i64 R.blocked, .int .i64 R.quiet, .int .i64 R.rept] 26)) bX [.slice ta X.tags.length tc, .string X.comment, .slice na X.nodes.length nc, .int .i64 X.result] 30 (by rw [World.size_alloc, hbX]))
 have HB : Hid (Below w.heap.size w ((w.alloc (.cells #[.string R.name, .int .i64 R.width, .int .i64 R.height, vp, vs, .bool R.falls, .bool R.keeps, ve, .int .i64 R.blocked, .int .i64 R.quiet, .int .i64 R.rept] 26)).alloc (.cells #[.slice ta X.tags.length tc, .string X.comment, .slice na X.nodes.length nc, .int .i64 X.result] 30))) := Lib.hid (((Below.refl w.heap.size w).alloc (Nat.le_refl _) _).alloc (by rw [World.size_alloc]; omega) _)
 rw [← hbR, show bR + 1 = bX by omega]
 clear hbX hbR
 generalize ((w.alloc (.cells #[.string R.name, .int .i64 R.width, .int .i64 R.height, vp, vs, .bool R.falls, .bool R.keeps, ve, .int .i64 R.blocked, .int .i64 R.quiet, .int .i64 R.rept] 26)).alloc (.cells #[.slice ta X.tags.length tc, .string X.comment, .slice na X.nodes.length nc, .int .i64 X.result] 30)) = w0 at *
 refine wp_region_lit ?_
 refine wpList_load_box (by rfl) 26 (.tmp 3) (by rfl) bR (by rfl) HbR.out Tryz.underlying26 (by rfl) (by kernel_rfl) ?_
 refine wpList_load_box (by rfl) 30 (.tmp 4) (by rfl) bX (by rfl) HbX.out Tryz.underlying30 (by rfl) (by kernel_rfl) ?_
 go_wp2_with fail
 have HC := Lib.hid (checked_ok HSh.out R vp vs ve X (.slice ta X.tags.length tc) (.slice na X.nodes.length nc) nd w0 (HR.out.below HB.out (Nat.le_refl _)) HN.out (HX.out.below HB.out (Nat.le_refl _)) HE.out hnd)
 unfold recV at HC
 refine HC.out.mono ?_
 rintro e w1 ⟨rfl, hb1⟩
 have HB1 := Lib.hid (HB.out.trans (hb1.mono HB.out.size))
 have HbX1 := Lib.hid (HbX.out.stays hb1)
 have HWy := Lib.hid (Way_any X (.slice ta X.tags.length tc) (.slice na X.nodes.length nc) nd X.nodes.length w1 (HX.out.below HB1.out (Nat.le_refl _)) HNo.out.back (Nat.le_refl _) hnd (by omega))
 unfold recV at HWy
 clear hb1 HC
 go_upto_region 4 with (fail)
 refine wp_region_lit ?_
 refine wpList_load_box (by rfl) 30 (.tmp 4) (by rfl) bX (by rfl) HbX1.out Tryz.underlying30 (by rfl) (by kernel_rfl) ?_
 go_wp2_with fail
 refine HWy.out.mono ?_
 rintro e w2 ⟨v', rfl, how, hb2⟩
 obtain ⟨wa, wc, rfl⟩ := own_form2 how
 have HB2 := Lib.hid (HB1.out.trans (hb2.mono HB1.out.size))
 have HM := Lib.hid (rdM_of_own how)
 clear how hb2
 go_wp2_with fail
 refine bodyPost_ret (v := .tuple #[.slice wa (wayI X.nodes nd).length wc, .int .i64 0]) (by simp [results, Tryz.results14, go_sem]) rfl ?_
 exact ⟨⟨_, _, rfl, HM.out⟩, HB2.out⟩
end Go.Proofs.YtnieifdogllbfaaGreat

/- RecK, An1. -/
import Derived.Test.YtnieifdogllbfaaGreatE24
import Derived.BigQuiet
import Derived.Deep.Cut
import Derived.Deep.QuietTactic
import Derived.Test.YtnieifdogllbfaaGreatE23
import Derived.Test.YtnieifdogllbfaaGreatC08
import Derived.Deep.CutRange
namespace Go.Proofs.YtnieifdogllbfaaGreat
open Go.ChangeShapes Go.WideShapes Go.ChangeAt Go.RowKit
set_option linter.unusedVariables false
theorem depE_b {R : RulesZ} {ns : List NodeZ} {ds : List Int} {i : Nat} (hd : ∀ k, 0 ≤ ds.getD k 0 ∧ ds.getD k 0 ≤ 20) (h : nodeE R ns ds i = 0) : 0 ≤ depE ns ds i ∧ depE ns ds i ≤ 20 := by
 constructor
 ·unfold depE
  have := hd (ndAt ns i).parent.toNat
  have := hd i
  split <;> split <;> omega
 ·unfold nodeE at h
  by_cases h1 : cmtErr (ndAt ns i).comment ≠ 0
  ·rw [if_pos h1] at h; exact absurd h h1
  rw [if_neg h1] at h
  by_cases h2 : (i : Int) ≤ (ndAt ns i).parent ∨ onB ns (ndAt ns i).parent ((i : Int) - 1) = false
  ·rw [if_pos h2] at h; cases h
  rw [if_neg h2] at h
  by_cases h3 : twinB ns i = true
  ·rw [if_pos h3] at h; cases h
  rw [if_neg h3] at h
  by_cases h4 : runErr R (wayI ns i) ≠ 0
  ·rw [if_pos h4] at h; exact absurd h h4
  rw [if_neg h4] at h
  by_cases h5 : 20 < depE ns ds i
  ·rw [if_pos h5] at h; cases h
  ·omega
theorem set_b {ds : List Int} (hd : ∀ k, 0 ≤ ds.getD k 0 ∧ ds.getD k 0 ≤ 20) (i : Nat) (v : Int) (hv : 0 ≤ v ∧ v ≤ 20) (k : Nat) : 0 ≤ (ds.set i v).getD k 0 ∧ (ds.set i v).getD k 0 ≤ 20 := by
 rw [List.getD_eq_getElem?_getD, List.getElem?_set]
 by_cases e : i = k
 ·rw [if_pos e]
  split
  ·exact hv
  ·simp
 ·rw [if_neg e, ← List.getD_eq_getElem?_getD]; exact hd k
set_option maxRecDepth 100000 in
set_option maxHeartbeats 16000000 in
theorem recCheck_any (HS : SortMvSaid) (R : RulesZ) (vp vs ve : Value) (X : RecZ) (vt vn : Value) (w : World) (hr : RdR w R vp vs ve) (hnm : R.name.size ≤ maxLen) (hx : RdX w X vt vn) :
  Calls Tryz.prog 10 #[(.agg #[.string R.name, .int .i64 R.width, .int .i64 R.height, vp, vs, .bool R.falls, .bool R.keeps, ve, .int .i64 R.blocked, .int .i64 R.quiet, .int .i64 R.rept]), recV X vt vn] w fun e w' => e = .returned (.int .i64 (recErr R X)) ∧ Below w.heap.size w w' := by
 have HSh := Lib.hid HS
 have HR := Lib.hid hr
 have HN := Lib.hid hnm
 have HX := Lib.hid hx
 have HE : Hid (recErr R X = if rulesErr R ≠ 0 then rulesErr R else if 10 < X.tags.length ∨ 200 < X.nodes.length then 2 else if tagsE X.tags ≠ 0 then tagsE X.tags else
  if X.result < 0 ∨ 3 < X.result then 4 else if cmtErr X.comment ≠ 0 then cmtErr X.comment else nodesE R X.nodes X.nodes.length 0 (List.replicate X.nodes.length 0)) := Lib.hid rfl
 obtain ⟨na, nc, rfl, hn1, hn2⟩ := hx.2.1.form
 obtain ⟨ta, tc, rfl, ht1, ht2⟩ := hx.1.form
 obtain ⟨i0, hi, hz0, hz1, hz2⟩ := info_parts info3
 have hcs := hx.2.2
 unfold maxLen at hn2 ht2
 clear hr hnm hx HS
 unfold recV
 go_enter Tryz.func10, Tryz.ntmps10
 go_upto_region 1 with (fail)
 obtain ⟨bR, hbR⟩ : ∃ bR, bR = w.heap.size := ⟨_, rfl⟩
 obtain ⟨bX, hbX⟩ : ∃ bX, bX = w.heap.size + 1 := ⟨_, rfl⟩
 have HbR : Hid (Box ((w.alloc (.cells #[.string R.name, .int .i64 R.width, .int .i64 R.height, vp, vs, .bool R.falls, .bool R.keeps, ve, .int .i64 R.blocked, .int .i64 R.quiet, .int .i64 R.rept] 26)).alloc (.cells #[.slice ta X.tags.length tc, .string X.comment, .slice na X.nodes.length nc, .int .i64 X.result] 30)) bR [.string R.name, .int .i64 R.width, .int .i64 R.height, vp, vs, .bool R.falls, .bool R.keeps, ve, .int .i64 R.blocked, .int .i64 R.quiet, .int .i64 R.rept] 26) := Lib.hid ((Box.new' w bR [.string R.name, .int .i64 R.width, .int .i64 R.height, vp, vs, .bool R.falls, .bool R.keeps, ve, .int .i64 R.blocked, .int .i64 R.quiet, .int .i64 R.rept] 26 hbR.symm).alloc _)
 have HbX : Hid (Box ((w.alloc (.cells #[.string R.name, .int .i64 R.width, .int .i64 R.height, vp, vs, .bool R.falls, .bool R.keeps, ve, .int .i64 R.blocked, .int .i64 R.quiet, .int .i64 R.rept] 26)).alloc (.cells #[.slice ta X.tags.length tc, .string X.comment, .slice na X.nodes.length nc, .int .i64 X.result] 30)) bX [.slice ta X.tags.length tc, .string X.comment, .slice na X.nodes.length nc, .int .i64 X.result] 30) := Lib.hid (Box.new' (w.alloc (.cells #[.string R.name, .int .i64 R.width, .int .i64 R.height, vp, vs, .bool R.falls, .bool R.keeps, ve, .int .i64 R.blocked, .int .i64 R.quiet, .int .i64 R.rept] 26)) bX [.slice ta X.tags.length tc, .string X.comment, .slice na X.nodes.length nc, .int .i64 X.result] 30 (by rw [World.size_alloc, hbX]))
 have HB : Hid (Below w.heap.size w ((w.alloc (.cells #[.string R.name, .int .i64 R.width, .int .i64 R.height, vp, vs, .bool R.falls, .bool R.keeps, ve, .int .i64 R.blocked, .int .i64 R.quiet, .int .i64 R.rept] 26)).alloc (.cells #[.slice ta X.tags.length tc, .string X.comment, .slice na X.nodes.length nc, .int .i64 X.result] 30))) := Lib.hid (((Below.refl w.heap.size w).alloc (Nat.le_refl _) _).alloc (by rw [World.size_alloc]; omega) _)
 rw [← hbR, show bR + 1 = bX by omega]
 clear hbX hbR
 generalize ((w.alloc (.cells #[.string R.name, .int .i64 R.width, .int .i64 R.height, vp, vs, .bool R.falls, .bool R.keeps, ve, .int .i64 R.blocked, .int .i64 R.quiet, .int .i64 R.rept] 26)).alloc (.cells #[.slice ta X.tags.length tc, .string X.comment, .slice na X.nodes.length nc, .int .i64 X.result] 30)) = w0 at *
 refine wp_region_lit ?_
 refine wpList_load_box (by rfl) 26 (.tmp 2) (by rfl) bR (by rfl) HbR.out Tryz.underlying26 (by rfl) (by kernel_rfl) ?_
 go_wp2_with fail
 refine (rulesCheck_any R vp vs ve _ (HR.out.below HB.out (Nat.le_refl _)) HN.out).mono ?_
 rintro e w1 ⟨rfl, hb1⟩
 have HB1 := Lib.hid (HB.out.trans (hb1.mono HB.out.size))
 have HbR1 := Lib.hid (HbR.out.stays hb1)
 have HbX1 := Lib.hid (HbX.out.stays hb1)
 clear HB HbR HbX hb1
 by_cases hre : rulesErr R = 0
 rotate_left
 ·have HF : Hid (recErr R X = rulesErr R) := Lib.hid (by rw [HE.out, if_pos hre])
  generalize hrr : rulesErr R = re at *
  clear hrr
  go_wp2_with fail
  go_ret
  exact ⟨by rw [HF.out]; rfl, HB1.out⟩
 have HE1 : Hid (recErr R X = if 10 < X.tags.length ∨ 200 < X.nodes.length then 2 else if tagsE X.tags ≠ 0 then tagsE X.tags else
  if X.result < 0 ∨ 3 < X.result then 4 else if cmtErr X.comment ≠ 0 then cmtErr X.comment else nodesE R X.nodes X.nodes.length 0 (List.replicate X.nodes.length 0)) := Lib.hid (by rw [HE.out, if_neg (fun h => h hre)])
 rw [hre]
 clear hre HE
 have x0 := HbX1.out.cell 0 rfl
 have x2 := HbX1.out.cell 2 rfl
 have hxl := HbX1.out.lt
 by_cases ht10 : (10 : Int) < (X.tags.length : Int)
 ·have HF : Hid (recErr R X = 2) := Lib.hid (by rw [HE1.out, if_pos (.inl (by omega))])
  go_wp2_with fail
  go_ret
  exact ⟨by rw [HF.out]; rfl, HB1.out⟩
 by_cases hn200 : (200 : Int) < (X.nodes.length : Int)
 ·have HF : Hid (recErr R X = 2) := Lib.hid (by rw [HE1.out, if_pos (.inr (by omega))])
  go_wp2_with fail
  go_ret
  exact ⟨by rw [HF.out]; rfl, HB1.out⟩
 have HE2 : Hid (recErr R X = if tagsE X.tags ≠ 0 then tagsE X.tags else
  if X.result < 0 ∨ 3 < X.result then 4 else if cmtErr X.comment ≠ 0 then cmtErr X.comment else nodesE R X.nodes X.nodes.length 0 (List.replicate X.nodes.length 0)) := Lib.hid (by rw [HE1.out, if_neg (by omega)])
 clear HE1
 have HTg := fun w' hb => tags_any X (.slice ta X.tags.length tc) (.slice na X.nodes.length nc) w' (HX.out.below hb (Nat.le_refl _)) (by omega)
 have HTg := Lib.hid HTg
 go_upto_region 6 with (fail)
 refine wp_region_lit ?_
 refine wpList_load_box (by rfl) 30 (.tmp 3) (by rfl) bX (by rfl) HbX1.out Tryz.underlying30 (by rfl) (by kernel_rfl) ?_
 go_wp2_with fail
 refine (HTg.out _ HB1.out).mono ?_
 rintro e w2 ⟨rfl, hb2⟩
 have HB2 := Lib.hid (HB1.out.trans (hb2.mono HB1.out.size))
 have HbR2 := Lib.hid (HbR1.out.stays hb2)
 have HbX2 := Lib.hid (HbX1.out.stays hb2)
 clear HB1 HbR1 HbX1 hb2 x0 x2 HTg
 by_cases hte : tagsE X.tags = 0
 rotate_left
 ·have HF : Hid (recErr R X = tagsE X.tags) := Lib.hid (by rw [HE2.out, if_pos hte])
  generalize hrr : tagsE X.tags = re at *
  clear hrr
  go_wp2_with fail
  go_ret
  exact ⟨by rw [HF.out]; rfl, HB2.out⟩
 have HE3 : Hid (recErr R X = if X.result < 0 ∨ 3 < X.result then 4 else if cmtErr X.comment ≠ 0 then cmtErr X.comment else nodesE R X.nodes X.nodes.length 0 (List.replicate X.nodes.length 0)) := Lib.hid (by rw [HE2.out, if_neg (fun h => h hte)])
 rw [hte]
 clear hte HE2
 have x1 := HbX2.out.cell 1 rfl
 have x2 := HbX2.out.cell 2 rfl
 have x3 := HbX2.out.cell 3 rfl
 have hxl := HbX2.out.lt
 by_cases hr0 : X.result < 0
 ·have HF : Hid (recErr R X = 4) := Lib.hid (by rw [HE3.out, if_pos (.inl hr0)])
  go_wp2_with fail
  go_ret
  exact ⟨by rw [HF.out]; rfl, HB2.out⟩
 by_cases hr3 : 3 < X.result
 ·have HF : Hid (recErr R X = 4) := Lib.hid (by rw [HE3.out, if_pos (.inr hr3)])
  go_wp2_with fail
  go_ret
  exact ⟨by rw [HF.out]; rfl, HB2.out⟩
 have HE4 : Hid (recErr R X = if cmtErr X.comment ≠ 0 then cmtErr X.comment else nodesE R X.nodes X.nodes.length 0 (List.replicate X.nodes.length 0)) := Lib.hid (by rw [HE3.out, if_neg (by omega)])
 have HCm := Lib.hid (comment_any X.comment w2 hcs)
 clear HE3
 by_cases hce : cmtErr X.comment = 0
 rotate_left
 ·have HF : Hid (recErr R X = cmtErr X.comment) := Lib.hid (by rw [HE4.out, if_pos hce])
  generalize hrr : cmtErr X.comment = re at *
  clear hrr
  go_wp2_with (go_at_call 24; refine HCm.out.mono ?_; rintro e w5 ⟨rfl, rfl⟩)
  go_ret
  exact ⟨by rw [HF.out]; rfl, HB2.out⟩
 have HE5 : Hid (recErr R X = nodesE R X.nodes X.nodes.length 0 (List.replicate X.nodes.length 0)) := Lib.hid (by rw [HE4.out, if_neg (fun h => h hce)])
 rw [hce] at HCm
 clear hce HE4
 obtain ⟨bb, hbb⟩ : ∃ bb, bb = w2.heap.size := ⟨_, rfl⟩
 go_upto_region 15 with (first
  | (go_at_call 24; refine HCm.out.mono ?_; rintro e w5 ⟨rfl, rfl⟩)
  | (at_make; refine wpList_make_full _ rfl _ _ 23 rfl w2.heap.size 3 i0 (.int .i64 0) 1 Tryz.underlying23 hi hz0 hz1 .i64 .i64 X.nodes.length X.nodes.length X.nodes.length rfl rfl rfl rfl (by rw [hz2]; omega) (by unfold maxLen; omega) (Nat.le_refl _) ?_; intro w3 hown hgrow))
 rw [made_ints] at hown
 rw [← hbb] at hown ⊢
 have HO3 := Lib.hid hown
 have HB3 : Hid (Below bb w2 w3) := Lib.hid (by rw [hbb]; exact Below.grown (Below.refl _ w2) hgrow (Nat.le_refl _) (fun q hq => by cases hq))
 have hbRl : bR < bb := by rw [hbb]; exact HbR2.out.lt
 have hbXl : bX < bb := by rw [hbb]; exact HbX2.out.lt
 have hbb1 : w2.heap.size ≤ bb := by omega
 have hbb2 : bb ≤ w2.heap.size := by omega
 have hw2 := HB2.out.size
 have hb3l := (HO3.out.lt bb rfl).2
 have x23 := (HbX2.out.below HB3.out hbXl).cell 2 rfl
 clear hown hgrow hbb HCm x1 x2 x3
 have HD0 : Hid (∀ k, 0 ≤ (List.replicate X.nodes.length (0 : Int)).getD k 0 ∧ (List.replicate X.nodes.length (0 : Int)).getD k 0 ≤ 20) := Lib.hid (fun k => by
  have : (List.replicate X.nodes.length (0 : Int)).getD k 0 = 0 := by
   rw [List.getD_eq_getElem?_getD, List.getElem?_replicate]; split <;> rfl
  rw [this]; omega)
 go_wp2_with fail
 go_loopw [52, 9, 10] (fun v52 v9 v10 wr => ∃ (k : Nat) (o9 o10 : Value) (ds : List Int), o9 = v9 ∧ o10 = v10 ∧ k ≤ X.nodes.length ∧ v52 = .int .i64 k ∧ Hid (recErr R X = nodesE R X.nodes (X.nodes.length - k) k ds) ∧ Hid (NodesOK R X.nodes k) ∧ Hid (∀ j, 0 ≤ ds.getD j 0 ∧ ds.getD j 0 ≤ 20) ∧ Hid (wr.ownsRow bb 3 1 (.slice (some ⟨bb, 0, none⟩) X.nodes.length X.nodes.length) X.nodes.length (ints ds)) ∧ Hid (Below bb w2 wr)) (fun v _ _ _ => X.nodes.length - (intOf v).toNat)
 case atStart => exact ⟨0, _, _, List.replicate X.nodes.length 0, rfl, rfl, Nat.zero_le _, rfl, HE5, Lib.hid ⟨fun k hk => absurd hk (Nat.not_lt_zero _), fun k hk => absurd hk (Nat.not_lt_zero _), fun k _ _ hk => absurd hk (Nat.not_lt_zero _), fun k hk => absurd hk (Nat.not_lt_zero _)⟩, HD0, HO3, HB3⟩
 case round =>
  obtain ⟨k, o9, o10, ds, rfl, rfl, hk, rfl, HK, HNk, HDs, HO, HBr⟩ := hrel
  by_cases hlt : k < X.nodes.length
  ·have HNd := Lib.hid (node_any HSh.out R vp vs ve X (.slice ta X.tags.length tc) (.slice na X.nodes.length nc) ds bb bb X.nodes.length k w2 wr (HR.out.below HB2.out (Nat.le_refl _)) HN.out (HX.out.below HB2.out (Nat.le_refl _)) hbb1 HBr.out HO.out hlt (by omega) HNk.out.back HDs.out)
   have HbRr := Lib.hid (HbR2.out.below HBr.out hbRl)
   have HbXr := Lib.hid (HbX2.out.below HBr.out hbXl)
   have HKs : Hid (recErr R X = if nodeE R X.nodes ds k ≠ 0 then nodeE R X.nodes ds k else nodesE R X.nodes (X.nodes.length - (k + 1)) (k + 1) (ds.set k (depE X.nodes ds k))) := Lib.hid (by
    rw [HK.out, show X.nodes.length - k = (X.nodes.length - (k + 1)) + 1 by omega, nodesE])
   unfold recV at HNd
   have hkl : (k : Int) < (X.nodes.length : Int) := by omega
   clear HK
   go_upto_region 18 with (fail)
   refine wp_region_lit ?_
   refine wpList_load_box (by rfl) 26 (.tmp 2) (by rfl) bR (by rfl) HbRr.out Tryz.underlying26 (by rfl) (by kernel_rfl) ?_
   refine wpList_load_box (by rfl) 30 (.tmp 3) (by rfl) bX (by rfl) HbXr.out Tryz.underlying30 (by rfl) (by kernel_rfl) ?_
   go_wp2_with fail
   refine HNd.out.mono ?_
   rintro e w6 ⟨rfl, hb6, ho6⟩
   have HB6 := Lib.hid hb6
   clear hb6 HNd
   by_cases hne : nodeE R X.nodes ds k = 0
   ·have HO6 := Lib.hid (ho6 hne)
    have HK6 : Hid (recErr R X = nodesE R X.nodes (X.nodes.length - (k + 1)) (k + 1) (ds.set k (depE X.nodes ds k))) := Lib.hid (by rw [HKs.out, if_neg (fun h => h hne)])
    have HN6 := Lib.hid (nodeE_zero hlt HNk.out hne)
    have HD6 := Lib.hid (set_b HDs.out k _ (depE_b HDs.out hne))
    rw [hne]
    clear ho6 hne HKs
    go_wp2_with fail
    go_roundw
    case rel => exact ⟨k + 1, _, _, _, rfl, rfl, by omega, by go_num, HK6, HN6, HD6, HO6, HB6⟩
    case measure => simp [intOf]; omega
   ·have HF : Hid (recErr R X = nodeE R X.nodes ds k) := Lib.hid (by rw [HKs.out, if_pos hne])
    generalize hrr : nodeE R X.nodes ds k = re at *
    clear hrr ho6 HKs
    go_wp2_with fail
    go_ret
    exact ⟨by rw [HF.out]; rfl, HB2.out.trans (HB6.out.mono (by omega))⟩
  ·obtain rfl : k = X.nodes.length := by omega
   have HF : Hid (recErr R X = 0) := Lib.hid (by rw [HK.out, Nat.sub_self]; rfl)
   go_wp2_with fail
   go_ret
   exact ⟨by rw [HF.out]; rfl, HB2.out.trans (HBr.out.mono (by omega))⟩
end Go.Proofs.YtnieifdogllbfaaGreat
namespace Go.Proofs.YtnieifdogllbfaaGreat
open Go.ChangeShapes Go.WideShapes Go.ChangeAt Go.RowKit
set_option linter.unusedVariables false
theorem wp_make_full {P : Program} (w : World) {o : Oper} {a : Act} {K : Act → World → Prop} {Q : Exit → Act → World → Prop}
  (l c : Operand) (t : TypeId) (hop : o.op = Op.makeSlice t l c)
  (base : Nat) (e : TypeId) (i : TypeInfo) (z : Value) (size : Nat) (h1 : P.underlying t = some (.slice e)) (h2 : P.info? e = some i) (h3 : i.zero = some z) (h4 : i.size = size)
  (kl kc : IntKind) (L C : Int) (n : Nat) (hl : a.eval l = .int kl L) (hc : a.eval c = .int kc C) (hL : L = (n : Int)) (hC : C = (n : Int)) (b2 : i.bytes * n ≤ 281474976710656) (b3 : n ≤ maxLen) (b4 : base ≤ w.heap.size)
  (hK : ∀ w', w'.ownsRow base e size (.slice (some ⟨w.heap.size, 0, none⟩) n n) n (madeCells z.cells (n * size)).toList → w.grownBy w' none → K (a.put o.dst (.slice (some ⟨w.heap.size, 0, none⟩) n n)) w') :
  o.wp P a w K Q := by
 obtain ⟨w', hrun, r1, r2⟩ := run_make_full (P := P) w base t e i z size h1 h2 h3 h4 kl kc n b2 b3 b4
 subst hL
 subst hC
 unfold Oper.wp
 simp [execOp, hop, hl, hc, hrun, Result.andThen]
 exact hK w' r1 r2
theorem box_of_own {w : World} {b g n : Nat} {e : TypeId} {xs : List Value} (h : w.ownsRow b e 1 (.slice (some ⟨g, 0, none⟩) n n) n xs) : Box w g xs e ∧ xs.length = n ∧ b ≤ g := by
 rcases h.2 with ⟨h0, -⟩ | ⟨g', c, cur, hv, hg, hb, h1, h2, h3, h4⟩
 ·cases h0
 ·simp only [Value.slice.injEq, Option.some.injEq, Addr.mk.injEq, and_true, true_and] at hv
  obtain ⟨rfl, rfl⟩ := hv
  rw [List.take_of_length_le (by simp; omega)] at h4
  subst h4
  exact ⟨by show w.heap[g]? = _; rw [hb], by simpa using h3, hg⟩
theorem below_made {w w' : World} (h : w.grownBy w' none) : Below w.heap.size w w' := ⟨h.os, h.tape, h.output, h.size, fun k hk => h.block k hk (by simp)⟩
def SizedPost (R : RulesZ) (X : RecZ) (vt vn : Value) (w : World) (e : Ending) (w' : World) : Prop :=
 Below w.heap.size w w' ∧ ((recErr R X = 0 ∧ e = .returned (.tuple #[recV X vt vn, .int .i64 0])) ∨ (recErr R X ≠ 0 ∧ e = .returned (.tuple #[.agg #[.slice none 0 0, .string ⟨#[]⟩, .slice none 0 0, .int .i64 0], .int .i64 (recErr R X)])))
set_option maxRecDepth 100000
set_option maxHeartbeats 8000000
theorem sized_any (HS : SortMvSaid) (R : RulesZ) (vp vs ve : Value) (X : RecZ) (vt vn : Value) (w : World) (hr : RdR w R vp vs ve) (hnm : R.name.size ≤ maxLen) (hx : RdX w X vt vn) :
  Calls Tryz.prog 31 #[(.agg #[.string R.name, .int .i64 R.width, .int .i64 R.height, vp, vs, .bool R.falls, .bool R.keeps, ve, .int .i64 R.blocked, .int .i64 R.quiet, .int .i64 R.rept]), recV X vt vn] w (SizedPost R X vt vn w) := by
 have HSh := Lib.hid HS
 have HR := Lib.hid hr
 have HN := Lib.hid hnm
 have HX := Lib.hid hx
 obtain ⟨na, nc, rfl, hn1, hn2⟩ := hx.2.1.form
 obtain ⟨ta, tc, rfl, ht1, ht2⟩ := hx.1.form
 unfold maxLen at hn2 ht2
 clear hr hnm hx HS
 unfold recV
 go_enter Tryz.func31, Tryz.ntmps31
 go_upto_region 1 with (fail)
 refine opn3 ?_
 intro w0 xbR xbX xbO hB0 hS0
 have HB := Lib.hid hB0
 obtain ⟨bO, hbO⟩ : ∃ bO, bO = w.heap.size + 1 + 1 := ⟨_, rfl⟩
 rw [← hbO] at xbO ⊢
 obtain ⟨bX, hbX⟩ : ∃ bX, bX = w.heap.size + 1 := ⟨_, rfl⟩
 rw [← hbX] at xbX ⊢
 obtain ⟨bR, hbR⟩ : ∃ bR, bR = w.heap.size := ⟨_, rfl⟩
 rw [← hbR] at xbR ⊢
 have hbR1 : w.heap.size ≤ bR := by omega
 have HbR := Lib.hid xbR
 have hbX1 : w.heap.size ≤ bX := by omega
 have hbRbX : bR < bX := by omega
 have HbX := Lib.hid xbX
 have hbO1 : w.heap.size ≤ bO := by omega
 have hbRbO : bR < bO := by omega
 have hbXbO : bX < bO := by omega
 have HbO := Lib.hid xbO
 have hS : bO < w0.heap.size := by omega
 clear hB0 hS0 xbR hbR xbX hbX xbO hbO
 refine wp_region_lit ?_
 refine wpList_load_box (by rfl) 26 (.tmp 2) (by rfl) bR (by rfl) HbR.out Tryz.underlying26 (by rfl) (by kernel_rfl) ?_
 refine wpList_load_box (by rfl) 30 (.tmp 3) (by rfl) bX (by rfl) HbX.out Tryz.underlying30 (by rfl) (by kernel_rfl) ?_
 have HC := Lib.hid (recCheck_any HSh.out R vp vs ve X (.slice ta X.tags.length tc) (.slice na X.nodes.length nc) w0 (HR.out.below HB.out (Nat.le_refl _)) HN.out (HX.out.below HB.out (Nat.le_refl _)))
 unfold recV at HC
 go_wp2_with fail
 refine HC.out.mono ?_
 rintro e w1 ⟨rfl, hb1⟩
 have HB1 := Lib.hid (HB.out.trans (hb1.mono HB.out.size))
 have HbX1 := Lib.hid (HbX.out.stays hb1)
 have HbO1 := Lib.hid (HbO.out.stays hb1)
 clear hb1 HC HbX HbO HbR HB
 obtain ⟨E, hE⟩ : ∃ E, E = recErr R X := ⟨_, rfl⟩
 rw [← hE]
 by_cases h0 : E = 0
 ·have p0 : (E != 0) = false := by simpa using h0
  have HE := Lib.hid (hE.symm.trans h0)
  clear hE h0
  go_upto_region 4 with (fail)
  refine wp_region_lit ?_
  refine wpList_load_box (by rfl) 30 (.tmp 3) (by rfl) bX (by rfl) HbX1.out Tryz.underlying30 (by rfl) (by kernel_rfl) ?_
  refine wpList_store_box (vs := [.slice ta X.tags.length tc, .string X.comment, .slice na X.nodes.length nc, .int .i64 X.result]) (by rfl) 30 (.tmp 4) (.tmp 14) (by rfl) bO (by rfl) (by rfl) HbO1.out rfl (by kernel_rfl) (by rfl) ?_
  have HbO2 := Lib.hid (HbO1.out.store (vs := [.slice ta X.tags.length tc, .string X.comment, .slice na X.nodes.length nc, .int .i64 X.result]) rfl)
  have HB2 := Lib.hid (below_setCells HB1.out hbO1 0 [.slice ta X.tags.length tc, .string X.comment, .slice na X.nodes.length nc, .int .i64 X.result])
  generalize w1.setCells bO 0 [.slice ta X.tags.length tc, .string X.comment, .slice na X.nodes.length nc, .int .i64 X.result] = w2 at *
  go_wp2_with fail
  exact bodyPost_ret (results_box rfl (by rfl) (by rfl) HbO2.out Tryz.underlying30 (by rfl) (by kernel_rfl)) rfl ⟨HB2.out, .inl ⟨HE.out, rfl⟩⟩
 ·have p0 : (E != 0) = true := by simpa using h0
  have HE := Lib.hid hE
  have HE0 := Lib.hid h0
  clear hE h0
  go_upto_region 3 with (fail)
  have z0 := HbO1.out.cell 0 rfl
  have z1 := HbO1.out.cell 1 rfl
  have z2 := HbO1.out.cell 2 rfl
  have z3 := HbO1.out.cell 3 rfl
  have f0 := HbO1.out.frozen 0
  have f1 := HbO1.out.frozen 1
  have f2 := HbO1.out.frozen 2
  have f3 := HbO1.out.frozen 3
  have zl := HbO1.out.lt
  go_wp2_with fail
  change bodyPost _ _ _ _ _ (w1.setCells bO 0 [.slice none 0 0, .string ⟨#[]⟩, .slice none 0 0, .int .i64 0])
  have HbO2 := Lib.hid (HbO1.out.store (vs := [.slice none 0 0, .string ⟨#[]⟩, .slice none 0 0, .int .i64 0]) rfl)
  have HB2 := Lib.hid (below_setCells HB1.out hbO1 0 [.slice none 0 0, .string ⟨#[]⟩, .slice none 0 0, .int .i64 0])
  exact bodyPost_ret (results_box rfl (by rfl) (by rfl) HbO2.out Tryz.underlying30 (by rfl) (by kernel_rfl)) rfl ⟨HB2.out, .inr ⟨by rw [← HE.out]; exact HE0.out, by rw [← HE.out]; rfl⟩⟩
end Go.Proofs.YtnieifdogllbfaaGreat

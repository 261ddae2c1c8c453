/- The walk of the law MovetextAlone. -/
import Derived.Test.YtkfaibdflbdpgaaMtE
import Derived.Test.YtkfaibdflbdpgaaLsP
namespace Go.Proofs.Ytkfaibdflbdpgaa.movetextAlone
open Go.ChangeShapes Go.WideShapes Go.ChangeAt Go.RowKit
set_option linter.unusedVariables false

theorem ba_beq {a b : ByteArray} : (a == b) = true ↔ a = b := by
  rw [beq_toListBytes, beq_iff_eq]
  refine ⟨fun h => ?_, fun h => by rw [h]⟩
  rw [ByteArray.toList_eq, ByteArray.toList_eq] at h
  exact ByteArray.ext (Array.toList_inj.1 h)
theorem idx_get {α : Type} [Inhabited α] (f : α → Bool) : ∀ (l : List α) (k : Int), 0 ≤ k → k ≤ idxL f l k → f (l.getD (idxL f l k - k).toNat default) = true
  | [], k, h0, h => by unfold idxL at h; omega
  | x :: t, k, h0, h => by
    unfold idxL at h ⊢
    split
    · rename_i q
      rw [show (k - k).toNat = 0 by omega]
      exact q
    · rename_i q
      rw [if_neg q] at h
      rcases idxL_range f t (k + 1) (by omega) with e | e
      · omega
      · have ih := idx_get f t (k + 1) (by omega) e.1
        rw [show (idxL f t (k + 1) - k).toNat = (idxL f t (k + 1) - (k + 1)).toNat + 1 by omega, List.getD_cons_succ]
        exact ih
/-- what the law says of the text with a number. -/
theorem alone_law {R : RulesZ} {p : PosZ} (he : posErr R p = 0) {i : Nat} (hi : i < (textsZ R p).length) :
    readErr R p ((textsZ R p).getD i ByteArray.empty) = 0 ∧ textErr R p (readZ R p ((textsZ R p).getD i ByteArray.empty)) = 0 ∧ textZ R p (readZ R p ((textsZ R p).getD i ByteArray.empty)) = (textsZ R p).getD i ByteArray.empty ∧
    ∀ j, j < i → (textsZ R p).getD j ByteArray.empty ≠ (textsZ R p).getD i ByteArray.empty := by
  have hr : rulesErr R = 0 := by unfold posErr at he; by_cases q : rulesErr R = 0; exact q; rw [if_pos q] at he; exact he
  have L := let_ok hr
  have K := pok_of he
  have ht : textsZ R p = (listZ R p).map (ofT R p (listZ R p)) := by unfold textsZ; rw [if_pos he]
  have hnd := list_nodup R p
  have hl : (textsZ R p).length = (listZ R p).length := by rw [ht, List.length_map]
  have hg : ∀ j (h : j < (listZ R p).length), (textsZ R p).getD j ByteArray.empty = ofT R p (listZ R p) ((listZ R p)[j]) := fun j h => by
    rw [ht, List.getD_eq_getElem?_getD, List.getElem?_map, List.getElem?_eq_getElem h]; rfl
  have hi' : i < (listZ R p).length := by omega
  generalize hs : (textsZ R p).getD i ByteArray.empty = s at *
  have hsi : s = ofT R p (listZ R p) ((listZ R p)[i]) := by rw [← hs, hg i hi']
  have hany := idxL_any (fun m => ofT R p (listZ R p) m == s) (listZ R p) 0 (by omega)
  have h1 : (listZ R p).any (fun m => ofT R p (listZ R p) m == s) = true := List.any_eq_true.2 ⟨_, List.getElem_mem hi', by rw [hsi]; exact ba_beq.2 rfl⟩
  rw [h1] at hany
  have h0 : 0 ≤ readI R p s := by simpa [readI] using hany
  have hre : readErr R p s = 0 := by unfold readErr; rw [if_neg (by simp [he]), if_neg (by omega)]
  have hrz : readZ R p s = (listZ R p).getD (readI R p s).toNat default := by unfold readZ; rw [if_pos hre]
  have hrg := idxL_range (fun m => ofT R p (listZ R p) m == s) (listZ R p) 0 (by omega)
  have hget := idx_get (fun m => ofT R p (listZ R p) m == s) (listZ R p) 0 (by omega) h0
  have hrl : (readI R p s).toNat < (listZ R p).length := by unfold readI at h0 ⊢; omega
  rw [Int.sub_zero] at hget
  have hmem : readZ R p s ∈ listZ R p := by
    rw [hrz, List.getD_eq_getElem?_getD, List.getElem?_eq_getElem hrl]; exact List.getElem_mem hrl
  have hte : textErr R p (readZ R p s) = 0 := by unfold textErr; rw [if_neg (by simp [he]), if_neg (by simpa using hmem)]
  refine ⟨hre, hte, ?_, fun j hj e => ?_⟩
  · unfold textZ
    rw [if_pos hte, hrz]
    exact ba_beq.1 hget
  · rw [hg j (by omega)] at e
    rw [hsi] at e
    have e2 := text_inj L K (List.getElem_mem _) (List.getElem_mem _) e
    exact List.pairwise_iff_getElem.1 hnd j i (by omega) hi' hj e2

set_option maxRecDepth 100000 in
set_option maxHeartbeats 8000000 in
theorem walk (HS : SortMvSaid) (R : RulesZ) (vp vs ve : Value) (p : PosZ) (vc v0 v1 : Value) (w : World) (hr : RdR w R vp vs ve) (hnm : R.name.size ≤ maxLen) (hp : RdP w p vc v0 v1) :
    Calls Try.prog 4 #[(.agg #[.string R.name, .int .i64 R.width, .int .i64 R.height, vp, vs, .bool R.falls, .bool R.keeps, ve, .int .i64 R.blocked, .int .i64 R.quiet, .int .i64 R.rept]), (.agg #[vc, v0, v1, .int .i64 p.turn, .int .i64 p.quiet])] w fun e w' => e = .returned (.bool true) ∧ Below w.heap.size w w' := by
  have HSh := Lib.hid HS
  have HR := Lib.hid hr
  have HN := Lib.hid hnm
  have HP := Lib.hid hp
  clear hp HS hr hnm
  go_enter Try.func4, Try.ntmps4
  go_upto_region 1 with (fail)
  have B0 : Box ((w.alloc (.cells #[.string R.name, .int .i64 R.width, .int .i64 R.height, vp, vs, .bool R.falls, .bool R.keeps, ve, .int .i64 R.blocked, .int .i64 R.quiet, .int .i64 R.rept] 26)).alloc (.cells #[vc, v0, v1, .int .i64 p.turn, .int .i64 p.quiet] 37)) (w.heap.size) [.string R.name, .int .i64 R.width, .int .i64 R.height, vp, vs, .bool R.falls, .bool R.keeps, ve, .int .i64 R.blocked, .int .i64 R.quiet, .int .i64 R.rept] 26 := ((Box.new' w (w.heap.size) [.string R.name, .int .i64 R.width, .int .i64 R.height, vp, vs, .bool R.falls, .bool R.keeps, ve, .int .i64 R.blocked, .int .i64 R.quiet, .int .i64 R.rept] 26 (by simp <;> omega)).alloc _)
  have B1 : Box ((w.alloc (.cells #[.string R.name, .int .i64 R.width, .int .i64 R.height, vp, vs, .bool R.falls, .bool R.keeps, ve, .int .i64 R.blocked, .int .i64 R.quiet, .int .i64 R.rept] 26)).alloc (.cells #[vc, v0, v1, .int .i64 p.turn, .int .i64 p.quiet] 37)) (w.heap.size + 1) [vc, v0, v1, .int .i64 p.turn, .int .i64 p.quiet] 37 := (Box.new' (w.alloc (.cells #[.string R.name, .int .i64 R.width, .int .i64 R.height, vp, vs, .bool R.falls, .bool R.keeps, ve, .int .i64 R.blocked, .int .i64 R.quiet, .int .i64 R.rept] 26)) (w.heap.size + 1) [vc, v0, v1, .int .i64 p.turn, .int .i64 p.quiet] 37 (by simp <;> omega))
  have HB : Hid (Below w.heap.size w ((w.alloc (.cells #[.string R.name, .int .i64 R.width, .int .i64 R.height, vp, vs, .bool R.falls, .bool R.keeps, ve, .int .i64 R.blocked, .int .i64 R.quiet, .int .i64 R.rept] 26)).alloc (.cells #[vc, v0, v1, .int .i64 p.turn, .int .i64 p.quiet] 37))) := Lib.hid (((Below.refl w.heap.size w).alloc (Nat.le_refl _) _).alloc (by simp <;> omega) _)
  have hz0 : w.heap.size + 1 < ((w.alloc (.cells #[.string R.name, .int .i64 R.width, .int .i64 R.height, vp, vs, .bool R.falls, .bool R.keeps, ve, .int .i64 R.blocked, .int .i64 R.quiet, .int .i64 R.rept] 26)).alloc (.cells #[vc, v0, v1, .int .i64 p.turn, .int .i64 p.quiet] 37)).heap.size := by simp
  generalize ((w.alloc (.cells #[.string R.name, .int .i64 R.width, .int .i64 R.height, vp, vs, .bool R.falls, .bool R.keeps, ve, .int .i64 R.blocked, .int .i64 R.quiet, .int .i64 R.rept] 26)).alloc (.cells #[vc, v0, v1, .int .i64 p.turn, .int .i64 p.quiet] 37)) = w0 at *
  have HX0 := Lib.hid B0
  have HY0 := Lib.hid B1
  clear B0 B1
  go_wp2_with fail
  refine (writes_any HSh.out w0).mono ?_
  rintro e w1 ⟨rfl, hb1⟩
  have HB1 := Lib.hid (below_trans HB.out hb1 HB.out.size)
  have HX1 := Lib.hid (HX0.out.stays hb1)
  have HY1 := Lib.hid (HY0.out.stays hb1)
  clear hb1 HX0 HY0 HB hz0
  go_upto_region 3 with (fail)
  refine wp_region_lit ?_
  refine wpList_load_box (by rfl) 26 (.tmp 2) (by rfl) (w.heap.size) (by rfl) HX1.out Try.underlying26 (by rfl) (by kernel_rfl) ?_
  go_wp2_with fail
  refine (great_anyG R vp vs ve w1 (HR.out.2.1.below HB1.out (Nat.le_refl _))).mono ?_
  rintro e w2 ⟨rfl, hb2⟩
  have HB2 := Lib.hid (below_trans HB1.out hb2 HB1.out.size)
  have HX2 := Lib.hid (HX1.out.stays hb2)
  have HY2 := Lib.hid (HY1.out.stays hb2)
  clear hb2 HX1 HY1 HB1
  generalize decide (20 < (R.start.length : Int)) = gr at *
  cases gr
  rotate_left
  · go_wp2_with fail
    go_ret
    exact ⟨rfl, HB2.out⟩
  have q0 := HX2.out.cell 0 rfl
  have q1 := HX2.out.cell 1 rfl
  have q2 := HX2.out.cell 2 rfl
  have q3 := HX2.out.cell 3 rfl
  have q4 := HX2.out.cell 4 rfl
  have q5 := HX2.out.cell 5 rfl
  have q6 := HX2.out.cell 6 rfl
  have q7 := HX2.out.cell 7 rfl
  have q8 := HX2.out.cell 8 rfl
  have q9 := HX2.out.cell 9 rfl
  have q10 := HX2.out.cell 10 rfl
  have p0 := HY2.out.cell 0 rfl
  have p1 := HY2.out.cell 1 rfl
  have p2 := HY2.out.cell 2 rfl
  have p3 := HY2.out.cell 3 rfl
  have p4 := HY2.out.cell 4 rfl
  go_wp2_with fail
  clear q0 q1 q2 q3 q4 q5 q6 q7 q8 q9 q10 p0 p1 p2 p3 p4
  refine (placeCheck_any R vp vs ve p vc v0 v1 w2 (HR.out.below HB2.out (Nat.le_refl _)) HN.out (HP.out.below HB2.out (Nat.le_refl _))).mono ?_
  rintro e w3 ⟨rfl, hb3⟩
  have HB3 := Lib.hid (below_trans HB2.out hb3 HB2.out.size)
  have HX3 := Lib.hid (HX2.out.stays hb3)
  have HY3 := Lib.hid (HY2.out.stays hb3)
  clear hb3 HX2 HY2 HB2
  by_cases he : posErr R p = 0
  rotate_left
  · have heb : (posErr R p != 0) = true := by simpa using he
    clear he
    go_wp2_with fail
    go_ret
    exact ⟨rfl, HB3.out⟩
  have HE := Lib.hid he
  rw [he]
  clear he
  go_upto_region 5 with (fail)
  refine wp_region_lit ?_
  refine wpList_load_box (by rfl) 26 (.tmp 2) (by rfl) (w.heap.size) (by rfl) HX3.out Try.underlying26 (by rfl) (by kernel_rfl) ?_
  refine wpList_load_box (by rfl) 37 (.tmp 3) (by rfl) (w.heap.size + 1) (by rfl) HY3.out Try.underlying37 (by rfl) (by kernel_rfl) ?_
  go_wp2_with fail
  refine (MList_any HSh.out R vp vs ve p vc v0 v1 w3 (HR.out.below HB3.out (Nat.le_refl _)) HN.out (HP.out.below HB3.out (Nat.le_refl _))).mono ?_
  rintro e w4 ⟨vt, rfl, ho4, hb4⟩
  have HT4 := Lib.hid (Rd.of_own ho4)
  obtain ⟨at4, ct4, rfl⟩ := own_form2 ho4
  have HB4 := Lib.hid (below_trans HB3.out hb4 HB3.out.size)
  have HX4 := Lib.hid (HX3.out.stays hb4)
  have HY4 := Lib.hid (HY3.out.stays hb4)
  clear ho4 hb4 HX3 HY3 HB3
  rw [HE.out]
  have HLAW := Lib.hid (fun i (h : i < (textsZ R p).length) => alone_law HE.out h)
  have HTN := Lib.hid (show (textsZ R p).length ≤ 10000 by unfold textsZ; rw [if_pos HE.out, List.length_map]; exact list_len' (pok_of HE.out))
  obtain ⟨n, hn⟩ : ∃ n, (textsZ R p).length = n := ⟨_, rfl⟩
  rw [hn] at HT4 HTN ⊢
  have HNL := Lib.hid hn
  have hn1 : n ≤ 10000 := HTN.out
  clear hn
  go_wp2_with fail
  go_loopw [33, 7, 8, 9, 10, 11, 12, 14] (fun vi a7 a8 a9 a10 a11 a12 a14 wr => ∃ k : Nat, k ≤ n ∧ vi = .int .i64 k ∧ Hid (Below w4.heap.size w4 wr)) (fun i _ _ _ _ _ _ _ _ => n - (intOf i).toNat)
  case atStart => exact ⟨0, Nat.zero_le _, rfl, Lib.hid (Below.refl _ _)⟩
  case round =>
    obtain ⟨k, hk, rfl, HBr⟩ := hrel
    have HBw := Lib.hid (below_trans HB4.out HBr.out HB4.out.size)
    by_cases hlt : k < n
    · obtain ⟨q1, q2, q3, q4⟩ := HLAW.out k (by rw [HNL.out]; exact hlt)
      have HTr := Lib.hid (HT4.out.below HBr.out (Nat.le_refl _))
      obtain ⟨gt, ot, rfl, hnc, hct⟩ : ∃ g o, at4 = some ⟨g, o, none⟩ ∧ n ≤ ct4 ∧ ∀ i, i < n → wr.cell? ⟨g, o + i, none⟩ = some (.string ((textsZ R p).getD i ByteArray.empty)) := by
        rcases HTr.out.2 with ⟨-, e⟩ | ⟨g, o, c', e, h1, h2, hc⟩
        · omega
        · simp only [Value.slice.injEq] at e
          refine ⟨g, o, e.1, by omega, fun i hi => ?_⟩
          rw [hc i (by omega)]
          unfold strs
          have := HNL.out
          rw [List.getElem?_map, List.getD_eq_getElem?_getD, List.getElem?_eq_getElem (by omega)]; rfl
      have HCT := Lib.hid hct
      have ck := hct k hlt
      have HXr := Lib.hid (HX4.out.stays HBr.out)
      have HYr := Lib.hid (HY4.out.stays HBr.out)
      have HQ1 := Lib.hid q1
      have HQ2 := Lib.hid q2
      have HQ3 := Lib.hid q3
      have HQ4 := Lib.hid q4
      obtain ⟨s, hs⟩ : ∃ s, (textsZ R p).getD k ByteArray.empty = s := ⟨_, rfl⟩
      rw [hs] at HQ1 HQ2 HQ3 HQ4 ck
      clear q1 q2 q3 q4 hct hs
      go_upto_region 9 with (fail)
      refine wp_region_lit ?_
      refine wpList_load_box (by rfl) 26 (.tmp 2) (by rfl) (w.heap.size) (by rfl) HXr.out Try.underlying26 (by rfl) (by kernel_rfl) ?_
      refine wpList_load_box (by rfl) 37 (.tmp 3) (by rfl) (w.heap.size + 1) (by rfl) HYr.out Try.underlying37 (by rfl) (by kernel_rfl) ?_
      go_wp2_with fail
      refine (Read_any HSh.out R vp vs ve p vc v0 v1 s wr (HR.out.below HBw.out (Nat.le_refl _)) HN.out (HP.out.below HBw.out (Nat.le_refl _))).mono ?_
      rintro e w5 ⟨he5, hb5⟩
      rw [HQ1.out] at he5
      obtain ⟨m, hm⟩ : ∃ m, readZ R p s = m := ⟨_, rfl⟩
      rw [hm] at he5 HQ2 HQ3
      subst he5
      have hal := ((Below.refl w5.heap.size w5).alloc (Nat.le_refl _) (.cells #[.int .i64 m.src, .int .i64 m.dst, .int .i64 m.piece] 42))
      have hl5 := below_trans HBw.out hb5 HBw.out.size
      have hr5 := below_trans HBr.out hb5 HBr.out.size
      have HB5 := Lib.hid (below_trans hl5 hal hl5.size)
      have HBr5 := Lib.hid (below_trans hr5 hal hr5.size)
      have HX5 := Lib.hid ((HXr.out.stays hb5).stays hal)
      have HY5 := Lib.hid ((HYr.out.stays hb5).stays hal)
      have HM5 := Lib.hid (Box.new w5 [.int .i64 m.src, .int .i64 m.dst, .int .i64 m.piece] 42)
      clear hm hb5 hal hl5 hr5 HXr HYr ck HBr HBw
      go_upto_region 10 with (fail)
      obtain ⟨bm, hbm⟩ : ∃ bm, bm = w5.heap.size := ⟨_, rfl⟩
      rw [← hbm] at HM5 ⊢
      clear hbm
      generalize (w5.alloc (.cells #[.int .i64 m.src, .int .i64 m.dst, .int .i64 m.piece] 42)) = w6 at *
      refine wp_region_lit ?_
      refine wpList_load_box (by rfl) 26 (.tmp 2) (by rfl) (w.heap.size) (by rfl) HX5.out Try.underlying26 (by rfl) (by kernel_rfl) ?_
      refine wpList_load_box (by rfl) 37 (.tmp 3) (by rfl) (w.heap.size + 1) (by rfl) HY5.out Try.underlying37 (by rfl) (by kernel_rfl) ?_
      refine wpList_load_box (by rfl) 42 (.tmp 9) (by rfl) (bm) (by rfl) HM5.out Try.underlying42 (by rfl) (by kernel_rfl) ?_
      go_wp2_with fail
      refine (Text_any HSh.out R vp vs ve p vc v0 v1 m w6 (HR.out.below HB5.out (Nat.le_refl _)) HN.out (HP.out.below HB5.out (Nat.le_refl _))).mono ?_
      rintro e w7 ⟨he7, hb7⟩
      rw [HQ2.out, HQ3.out] at he7
      subst he7
      have HB7 := Lib.hid (below_trans HBr5.out hb7 HBr5.out.size)
      clear hb7 HX5 HY5 HM5 HB5 HBr5
      have hsl : ∀ w' : World, (Instr.slice 50 (.slice (some ⟨gt, ot, none⟩) n ct4) none (some (.int .i64 (k : Int))) none).run Try.prog w' = .ok (.slice (some ⟨gt, ot, none⟩) k ct4) w' := fun w' =>
        run_take (P := Try.prog) (t := 50) (s := 1) Try.underlying50 (fun w => by kernel_rfl) (some ⟨gt, ot, none⟩) n ct4 k (by omega) w'
      have HTr7 := Lib.hid (HT4.out.below HB7.out (Nat.le_refl _))
      have HC7 : Hid (∀ i, i < n → w7.cell? ⟨gt, ot + i, none⟩ = some (.string ((textsZ R p).getD i ByteArray.empty))) := Lib.hid (by
        rcases HTr7.out.2 with ⟨-, e⟩ | ⟨g, o, c', e, h1, h2, hc⟩
        · omega
        · simp only [Value.slice.injEq, Option.some.injEq, Addr.mk.injEq, and_true] at e
          obtain ⟨⟨rfl, rfl⟩, -⟩ := e
          intro i hi
          rw [hc i (by omega)]
          unfold strs
          have := HNL.out
          rw [List.getElem?_map, List.getD_eq_getElem?_getD, List.getElem?_eq_getElem (by omega)]; rfl)
      clear HTr HTr7 HCT
      go_wp2_with fail
      clear hsl
      go_loop [67, 14] (fun vj a14 => ∃ j : Nat, j ≤ k ∧ vj = .int .i64 j) (fun j _ => k - (intOf j).toNat)
      case atStart => exact ⟨0, Nat.zero_le _, rfl⟩
      case round =>
        obtain ⟨j, hj, rfl⟩ := hrel
        by_cases hjk : j < k
        · have cj := HC7.out j (by omega)
          have hne := HQ4.out j hjk
          generalize (textsZ R p).getD j ByteArray.empty = tj at *
          have hnb : (tj.toList == s.toList) = false := by rw [← beq_toListBytes, Bool.eq_false_iff]; exact fun q => hne (ba_beq.1 q)
          clear hne
          go_wp2_with fail
          go_round
          case rel => exact ⟨j + 1, by omega, by go_num⟩
          case measure => simp [intOf]; omega
        · obtain rfl : j = k := by omega
          clear hjk HC7
          go_wp2_with fail
          go_roundw
          case rel => exact ⟨j + 1, by omega, by go_num, HB7⟩
          case measure => simp [intOf]; omega
    · obtain rfl : k = n := by omega
      go_wp2_with fail
      go_ret
      exact ⟨rfl, HBw.out⟩

end Go.Proofs.Ytkfaibdflbdpgaa.movetextAlone

/- BookFollows: the walk. -/
import Derived.Test.YtkfaibdflbdpgaaBkG
import Derived.Test.YtkfaibdflbdpgaaFrame
namespace Go.Proofs.Ytkfaibdflbdpgaa.bookFollows
open Go.ChangeShapes Go.WideShapes Go.ChangeAt Go.RowKit
set_option linter.unusedVariables false

theorem add_ok {R : RulesZ} {b : List BkZ} {l : List MoveZ} {plies wt : Int} (h : addErr R b l plies wt = 0) : bookErr b = 0 ∧ runErr R l = 0 ∧ (0 ≤ plies ∧ 1 ≤ wt ∧ wt ≤ 1000000) := by
  unfold addErr at h
  by_cases e1 : bookErr b = 0
  · rw [if_neg (fun q => q e1)] at h
    by_cases e2 : runErr R l = 0
    · rw [if_neg (fun q => q e2)] at h
      by_cases e3 : plies < 0 ∨ wt < 1 ∨ 1000000 < wt
      · rw [if_pos e3] at h; cases h
      · exact ⟨e1, e2, by omega, by omega, by omega⟩
    · rw [if_pos e2] at h; exact absurd h e2
  · rw [if_pos e1] at h; exact absurd h e1
theorem ply_len (plies : Int) (n : Nat) : plyN plies n ≤ n := by unfold plyN; omega
theorem added_len (R : RulesZ) (b : List BkZ) (l : List MoveZ) (plies wt : Int) : (addedB R b l plies wt).length ≤ b.length + l.length := by
  unfold addedB
  have h1 := (foldB_len b (gameB R l wt (plyN plies l.length))).2
  have h2 := ply_len plies l.length
  rw [gameB_len] at h1
  omega
theorem added_book {R : RulesZ} {l : List MoveZ} {plies wt : Int} (h : addErr R [] l plies wt = 0) (hl : l.length ≤ 40) : bookErr (addedB R [] l plies wt) = 0 := by
  have h3 := (add_ok h).2.2
  have hlen := added_len R [] l plies wt
  refine bookErr_of (by simp at hlen; omega) (foldB_sorted List.Pairwise.nil _) (foldB_wt (fun x hx => by cases hx) (fun y hy => by rw [gameB_wt R l wt _ y hy]; omega))
theorem follow_cov {R : RulesZ} {l : List MoveZ} {plies : Int} (h : addErr R [] l plies 1 = 0) (hl : l.length ≤ 40) : covR R (addedB R [] l plies 1) l = .tuple #[.int .i64 (covN R (addedB R [] l plies 1) l), .int .i64 0] := by
  have h1 : covErr R (addedB R [] l plies 1) l = 0 := by
    unfold covErr
    rw [if_neg (fun q => q (added_book h hl))]
    exact (add_ok h).2.1
  unfold covR
  rw [if_pos h1]
theorem follow_min (plies : Int) (n : Nat) (h : 0 ≤ plies) : ∃ m : Nat, (if (n : Int) < plies then (n : Int) else plies) = (m : Int) ∧ plyN plies n = m := by
  by_cases q : (n : Int) < plies
  · exact ⟨n, by rw [if_pos q], by unfold plyN; omega⟩
  · exact ⟨plies.toNat, by rw [if_neg q]; omega, by unfold plyN; omega⟩
theorem follow_le (R : RulesZ) (b : List BkZ) (l : List MoveZ) : covN R b l ≤ l.length := by
  have := covF_le (fun j => hitB b (entB R l 0 j)) (l.length - 0) 0
  unfold covN
  omega
theorem hit_wt (b : List BkZ) (x : BkZ) (wt : Int) : hitB b { x with wt := wt } = hitB b x := rfl
theorem follow_ge (R : RulesZ) (l : List MoveZ) (plies : Int) : plyN plies l.length ≤ covN R (addedB R [] l plies 1) l := by
  unfold covN
  refine covF_ge _ _ _ _ (by have := ply_len plies l.length; omega) fun j _ hj => ?_
  have hs : SortedB (addedB R [] l plies 1) := foldB_sorted List.Pairwise.nil _
  have hm : entB R l 1 j ∈ gameB R l 1 (plyN plies l.length) := List.mem_map.2 ⟨j, List.mem_range.2 hj, rfl⟩
  obtain ⟨v, hv⟩ := fold_found (a := []) List.Pairwise.nil hm
  have : hitB (addedB R [] l plies 1) (entB R l 0 j) = true := by
    rw [hitB_iff hs]
    show (getB (foldB [] (gameB R l 1 (plyN plies l.length))) (entB R l 1 j).key (entB R l 1 j).m).isSome = true
    rw [hv]; rfl
  exact this
set_option maxRecDepth 100000 in
set_option maxHeartbeats 8000000 in
theorem walk (HS : SortMvSaid) (R : RulesZ) (vp vs ve : Value) (v : Value) (l0 : List MoveZ) (plies : Int) (w : World) (hr : RdR w R vp vs ve) (hnm : R.name.size ≤ maxLen) (h : RdL moveEl w v l0) :
    Calls Try.prog 13 #[(.agg #[.string R.name, .int .i64 R.width, .int .i64 R.height, vp, vs, .bool R.falls, .bool R.keeps, ve, .int .i64 R.blocked, .int .i64 R.quiet, .int .i64 R.rept]), v, .int .i64 plies] w fun e w' => e = .returned (.bool true) ∧ Below w.heap.size w w' := by
  have HSh := Lib.hid HS
  have HR := Lib.hid hr
  have HN := Lib.hid hnm
  have HL := Lib.hid h
  clear h HS hr hnm
  go_enter Try.func13, Try.ntmps13
  go_upto_region 1 with (fail)
  have B0 : Box (w.alloc (.cells #[.string R.name, .int .i64 R.width, .int .i64 R.height, vp, vs, .bool R.falls, .bool R.keeps, ve, .int .i64 R.blocked, .int .i64 R.quiet, .int .i64 R.rept] 26)) (w.heap.size) [.string R.name, .int .i64 R.width, .int .i64 R.height, vp, vs, .bool R.falls, .bool R.keeps, ve, .int .i64 R.blocked, .int .i64 R.quiet, .int .i64 R.rept] 26 := (Box.new' w (w.heap.size) [.string R.name, .int .i64 R.width, .int .i64 R.height, vp, vs, .bool R.falls, .bool R.keeps, ve, .int .i64 R.blocked, .int .i64 R.quiet, .int .i64 R.rept] 26 (by simp <;> omega))
  have HB : Hid (Below w.heap.size w (w.alloc (.cells #[.string R.name, .int .i64 R.width, .int .i64 R.height, vp, vs, .bool R.falls, .bool R.keeps, ve, .int .i64 R.blocked, .int .i64 R.quiet, .int .i64 R.rept] 26))) := Lib.hid ((Below.refl w.heap.size w).alloc (Nat.le_refl _) _)
  have hz0 : w.heap.size < (w.alloc (.cells #[.string R.name, .int .i64 R.width, .int .i64 R.height, vp, vs, .bool R.falls, .bool R.keeps, ve, .int .i64 R.blocked, .int .i64 R.quiet, .int .i64 R.rept] 26)).heap.size := by simp
  generalize (w.alloc (.cells #[.string R.name, .int .i64 R.width, .int .i64 R.height, vp, vs, .bool R.falls, .bool R.keeps, ve, .int .i64 R.blocked, .int .i64 R.quiet, .int .i64 R.rept] 26)) = w0 at *
  have HB0 := Lib.hid B0
  clear B0
  go_wp2_with fail
  refine (books_any HSh.out w0).mono ?_
  rintro e w1 ⟨rfl, hb1⟩
  have HL1 := Lib.hid (below_trans HB.out hb1 HB.out.size)
  have HC0 := Lib.hid (HB0.out.stays hb1)
  clear hb1 HB0
  go_wp2_with fail
  refine (cut_any v l0 w1 (HL.out.below HL1.out (Nat.le_refl _))).mono ?_
  rintro e w2 ⟨rfl, v2, rfl, hl2⟩
  obtain ⟨l, hl⟩ : ∃ l, l = l0.take 40 := ⟨_, rfl⟩
  have hl40 : l.length ≤ 40 := by rw [hl, List.length_take]; omega
  rw [← hl] at hl2
  obtain ⟨a, c, rfl, h1, h2⟩ := hl2.form
  unfold maxLen at h2
  have HM2 := Lib.hid hl2
  clear hl hl2
  go_upto_region 4 with (fail)
  refine wp_region_lit ?_
  refine wpList_load_box (by rfl) 26 (.tmp 3) (by rfl) (w.heap.size) (by rfl) HC0.out Try.underlying26 (by rfl) (by kernel_rfl) ?_
  go_wp2_with fail
  refine (great_anyG R vp vs ve w2 (HR.out.2.1.below HL1.out (Nat.le_refl _))).mono ?_
  rintro e w3 ⟨rfl, hb3⟩
  have HL3 := Lib.hid (below_trans HL1.out hb3 HL1.out.size)
  have HD0 := Lib.hid (HC0.out.stays hb3)
  have HM3 := Lib.hid (HM2.out.below hb3 (Nat.le_refl _))
  clear hb3 HC0 HM2 HL1
  by_cases hgr : 20 < (R.start.length : Int)
  · have hd : decide (20 < (R.start.length : Int)) = true := by simpa using hgr
    rw [hd]
    clear hgr hd
    go_wp2_with fail
    go_ret
    exact ⟨rfl, HL3.out⟩
  have hd : decide (20 < (R.start.length : Int)) = false := by simpa using hgr
  rw [hd]
  clear hgr hd
  go_upto_region 6 with (fail)
  refine wp_region_lit ?_
  refine wpList_load_box (by rfl) 26 (.tmp 3) (by rfl) (w.heap.size) (by rfl) HD0.out Try.underlying26 (by rfl) (by kernel_rfl) ?_
  go_wp2_with fail
  refine (Add_any HSh.out R vp vs ve _ [] _ l plies 1 w3 (HR.out.below HL3.out (Nat.le_refl _)) HN.out (RdL.nil _ _) HM3.out).mono ?_
  rintro e w4 (⟨hbad, rfl, hb4⟩ | ⟨hok, va, rfl, hoa, hb4⟩)
  · have HL4 := Lib.hid (below_trans HL3.out hb4 HL3.out.size)
    have HM4 := Lib.hid (HM3.out.below hb4 (Nat.le_refl _))
    have HE0 := Lib.hid (HD0.out.stays hb4)
    have he' : (addErr R [] l plies 1 != 0) = true := by simpa using hbad
    clear hbad hb4 HD0 HM3 HL3
    go_upto_region 7 with (fail)
    refine wp_region_lit ?_
    refine wpList_load_box (by rfl) 26 (.tmp 3) (by rfl) (w.heap.size) (by rfl) HE0.out Try.underlying26 (by rfl) (by kernel_rfl) ?_
    go_wp2_with fail
    refine (Cover_any HSh.out R vp vs ve _ [] _ l w4 (HR.out.below HL4.out (Nat.le_refl _)) HN.out (RdL.nil _ _) HM4.out).mono ?_
    rintro e w5 ⟨rfl, hb5⟩
    have HL5 := Lib.hid (below_trans HL4.out hb5 HL4.out.size)
    clear hb5
    by_cases hce : covErr R [] l = 0
    · have HCV : covR R [] l = .tuple #[.int .i64 (covN R [] l), .int .i64 0] := by unfold covR; rw [if_pos hce]
      rw [HCV]
      clear HCV hce
      go_wp2_with fail
      go_ret
      exact ⟨rfl, HL5.out⟩
    · have HCV : covR R [] l = .tuple #[.int .i64 0, .int .i64 (covErr R [] l)] := by unfold covR; rw [if_neg hce]
      rw [HCV]
      clear HCV hce
      go_wp2_with fail
      go_ret
      exact ⟨rfl, HL5.out⟩
  have HOK := Lib.hid hok
  have HL4 := Lib.hid (below_trans HL3.out hb4 HL3.out.size)
  have HM4 := Lib.hid (HM3.out.below hb4 (Nat.le_refl _))
  have HE0 := Lib.hid (HD0.out.stays hb4)
  have HA4 := Lib.hid (rdK_of_own hoa)
  obtain ⟨aa, ca, rfl⟩ := own_form2 hoa
  have HCV : Hid (covR R (addedB R [] l plies 1) l = .tuple #[.int .i64 (covN R (addedB R [] l plies 1) l), .int .i64 0]) := Lib.hid (follow_cov hok hl40)
  obtain ⟨m, hm, hm2⟩ := follow_min plies l.length (add_ok hok).2.2.1
  have HF1 : m ≤ covN R (addedB R [] l plies 1) l := hm2 ▸ follow_ge R l plies
  have HF2 : covN R (addedB R [] l plies 1) l ≤ l.length := follow_le R _ l
  clear hok hb4 hoa HD0 HM3 HL3
  obtain ⟨A, hA⟩ : ∃ A, addedB R [] l plies 1 = A := ⟨_, rfl⟩
  rw [hA] at HA4 HCV HF1 HF2 ⊢
  clear hA
  go_upto_region 7 with (fail)
  refine wp_region_lit ?_
  refine wpList_load_box (by rfl) 26 (.tmp 3) (by rfl) (w.heap.size) (by rfl) HE0.out Try.underlying26 (by rfl) (by kernel_rfl) ?_
  go_wp2_with fail
  refine (Cover_any HSh.out R vp vs ve _ A _ l w4 (HR.out.below HL4.out (Nat.le_refl _)) HN.out HA4.out HM4.out).mono ?_
  rintro e w5 ⟨he, hb5⟩
  rw [HCV.out] at he
  subst he
  have HL5 := Lib.hid (below_trans HL4.out hb5 HL4.out.size)
  clear hb5
  generalize covN R A l = N at *
  have i1 : (m : Int) ≤ (N : Int) := by omega
  have i2 : (N : Int) ≤ (l.length : Int) := by omega
  clear hm2 HF1 HF2
  go_wp2_with fail
  go_ret
  exact ⟨rfl, HL5.out⟩

end Go.Proofs.Ytkfaibdflbdpgaa.bookFollows

/- PatternMore: a pattern with fewer conditions is found wherever the pattern is: the walk. -/
import Derived.Test.YtkfaibdflbdpgaaPmA
import Derived.Test.YtkfaibdflbdpgaaPatP
import Derived.Test.YtkfaibdflbdpgaaFrame
namespace Go.Proofs.Ytkfaibdflbdpgaa.patternMore
open Go.ChangeShapes Go.WideShapes Go.ChangeAt Go.RowKit
set_option linter.unusedVariables false

theorem eqlH (x y : MoveZ) (w : World) : (binOp .eql 84 (.agg #[.int .i64 x.src, .int .i64 x.dst, .int .i64 x.piece]) (.agg #[.int .i64 y.src, .int .i64 y.dst, .int .i64 y.piece])).run Try.prog w = .ok (.bool (decide (x = y))) w := by
  have u3 := Try.underlying3
  have a3 := Try.isAgg3
  have z3 := Try.sizeOf3
  have hS : Try.prog.underlying 84 = some (.struct (Try.prog.fieldsOf 84)) := by kernel_rfl
  have hp : Try.prog.stoodInHeld 84 = false := by kernel_rfl
  rw [run_eql_struct, show (10000 : Nat) = 9999 + 1 from rfl, run_equalIn_agg w 9999 84 _ _ hS hp]
  simp only [Program.fieldsOf, Try.underlying84]
  obtain ⟨x1, x2, x3⟩ := x
  obtain ⟨y1, y2, y3⟩ := y
  go_simp
  by_cases h1 : x1 = y1 <;> by_cases h2 : x2 = y2 <;> by_cases h3 : x3 = y3 <;> simp [h1, h2, h3]

theorem rdH_of_own {w : World} {b : Nat} {v : Value} {xs : List MoveZ} (h : w.ownsRow b 84 3 v xs.length (flatM xs)) : RdL moveEl w v xs := by
  refine RdL.of_own (el := moveEl) h fun i hi => ?_
  show ((flatM xs).drop (i * 3)).take 3 = _
  have hf := flatM_at xs i hi
  have e : xs.getD i default = xs[i] := by rw [List.getD_eq_getElem?_getD, List.getElem?_eq_getElem hi]; rfl
  rw [e] at hf
  obtain ⟨f0, f1, f2⟩ := hf
  apply List.ext_getElem?
  intro j
  by_cases hj : j < 3
  · rw [List.getElem?_take_of_lt hj, List.getElem?_drop]
    have h3 : j = 0 ∨ j = 1 ∨ j = 2 := by omega
    rcases h3 with rfl | rfl | rfl
    · rw [Nat.add_zero, f0]; rfl
    · rw [f1]; rfl
    · rw [f2]; rfl
  · rw [List.getElem?_take_eq_none (by omega), List.getElem?_eq_none (by simp; omega)]

theorem rdI_own {w : World} {base n : Nat} {v : Value} {xs : List Int} (h : w.ownsRow base 3 1 v n (ints xs)) (hn : xs.length = n) : RdI w v xs := by
  subst hn; exact RdI.of_own h
theorem play_mem {R : RulesZ} {ms : List MoveZ} {m : MoveZ} (h : playErr R ms m = 0) : m ∈ listZ R (nowZ R ms) := by
  unfold playErr at h
  split at h
  · cases h
  · split at h
    · cases h
    · rename_i _ h2; exact Decidable.not_not.1 h2
theorem run_all {R : RulesZ} {l : List MoveZ} (h : runErr R l = 0) : rulesErr R = 0 ∧ ∀ k, k < l.length → playErr R (l.take k) (l.getD k default) = 0 := by
  have hre : rulesErr R = 0 := by
    by_cases e : rulesErr R = 0
    · exact e
    · unfold runErr at h; rw [if_pos e] at h; exact absurd h e
  refine ⟨hre, ?_⟩
  have h0 : runFrom R [] l = 0 := by unfold runErr at h; rwa [if_neg (by simp [hre])] at h
  have hk : ∀ k, k ≤ l.length → runFrom R (l.take k) (l.drop k) = 0 := by
    intro k
    induction k with
    | zero => intro _; simpa using h0
    | succ k ih =>
      intro hk
      have h1 := ih (by omega)
      rw [runFrom_step R l k (by omega)] at h1
      by_cases e : playErr R (l.take k) (l.getD k default) = 0
      · rwa [if_neg (fun q => q e)] at h1
      · rw [if_pos e] at h1; exact absurd h1 e
  intro k hkl
  have h1 := hk k (by omega)
  rw [runFrom_step R l k hkl] at h1
  by_cases e : playErr R (l.take k) (l.getD k default) = 0
  · exact e
  · rw [if_pos e] at h1; exact absurd h1 e
theorem run_legal {R : RulesZ} {l : List MoveZ} (h : runErr R l = 0) : LegalAll R (beginZ R) l := fun k hk => play_mem ((run_all h).2 k hk)
theorem find_ok {R : RulesZ} {x : PatZ} {l : List MoveZ} (h : findErr R x l = 0) : patErr R x = 0 ∧ runErr R l = 0 := by
  unfold findErr at h
  by_cases e : patErr R x = 0
  · rw [if_neg (by simp [e])] at h
    by_cases e2 : runErr R l = 0
    · exact ⟨e, e2⟩
    · rw [if_pos e2] at h; exact absurd h e2
  · rw [if_pos e] at h; exact absurd h e
theorem find_more {R : RulesZ} {x : PatZ} {l : List MoveZ} (i : Int) (h : findErr R x l = 0) (hs : R.start.length ≤ 20) (hl : l.length ≤ 40) : findErr R (morePat x i) l = 0 := by
  obtain ⟨h1, h2⟩ := find_ok h
  have hb := find_bound (x := morePat x i) hs hl h2 (run_all h2).1 (run_legal h2)
  unfold findErr
  rw [if_neg (by simp [more_ok h1]), if_neg (by simp [h2]), if_neg (by omega)]

set_option maxRecDepth 100000 in
set_option maxHeartbeats 8000000 in
theorem walk (HS : SortMvSaid) (R : RulesZ) (vp vs ve : Value) (x : PatZ) (vx : Value) (v : Value) (l0 : List MoveZ) (at' : Int) (w : World) (hr : RdR w R vp vs ve) (hnm : R.name.size ≤ maxLen) (hx : RdI w vx x.cells) (h : RdL moveEl w v l0) :
    Calls Try.prog 9 #[(.agg #[.string R.name, .int .i64 R.width, .int .i64 R.height, vp, vs, .bool R.falls, .bool R.keeps, ve, .int .i64 R.blocked, .int .i64 R.quiet, .int .i64 R.rept]), .agg #[.int .i64 x.width, .int .i64 x.height, vx, .int .i64 x.turn], v, .int .i64 at'] w fun e w' => e = .returned (.bool true) ∧ Below w.heap.size w w' := by
  have HSh := Lib.hid HS
  have HR := Lib.hid hr
  have HN := Lib.hid hnm
  have HX := Lib.hid hx
  have HL := Lib.hid h
  obtain ⟨ax, cx, rfl, hx1, hx2⟩ := hx.form
  unfold maxLen at hx2
  clear h HS hr hnm hx
  go_enter Try.func9, Try.ntmps9
  go_upto_region 1 with (fail)
  have B0 : Box ((w.alloc (.cells #[.string R.name, .int .i64 R.width, .int .i64 R.height, vp, vs, .bool R.falls, .bool R.keeps, ve, .int .i64 R.blocked, .int .i64 R.quiet, .int .i64 R.rept] 26)).alloc (.cells #[.int .i64 x.width, .int .i64 x.height, .slice ax x.cells.length cx, .int .i64 x.turn] 78)) (w.heap.size) [.string R.name, .int .i64 R.width, .int .i64 R.height, vp, vs, .bool R.falls, .bool R.keeps, ve, .int .i64 R.blocked, .int .i64 R.quiet, .int .i64 R.rept] 26 := ((Box.new' w (w.heap.size) [.string R.name, .int .i64 R.width, .int .i64 R.height, vp, vs, .bool R.falls, .bool R.keeps, ve, .int .i64 R.blocked, .int .i64 R.quiet, .int .i64 R.rept] 26 (by simp <;> omega)).alloc _)
  have B1 : Box ((w.alloc (.cells #[.string R.name, .int .i64 R.width, .int .i64 R.height, vp, vs, .bool R.falls, .bool R.keeps, ve, .int .i64 R.blocked, .int .i64 R.quiet, .int .i64 R.rept] 26)).alloc (.cells #[.int .i64 x.width, .int .i64 x.height, .slice ax x.cells.length cx, .int .i64 x.turn] 78)) (w.heap.size + 1) [.int .i64 x.width, .int .i64 x.height, .slice ax x.cells.length cx, .int .i64 x.turn] 78 := (Box.new' (w.alloc (.cells #[.string R.name, .int .i64 R.width, .int .i64 R.height, vp, vs, .bool R.falls, .bool R.keeps, ve, .int .i64 R.blocked, .int .i64 R.quiet, .int .i64 R.rept] 26)) (w.heap.size + 1) [.int .i64 x.width, .int .i64 x.height, .slice ax x.cells.length cx, .int .i64 x.turn] 78 (by simp <;> omega))
  have HB : Hid (Below w.heap.size w ((w.alloc (.cells #[.string R.name, .int .i64 R.width, .int .i64 R.height, vp, vs, .bool R.falls, .bool R.keeps, ve, .int .i64 R.blocked, .int .i64 R.quiet, .int .i64 R.rept] 26)).alloc (.cells #[.int .i64 x.width, .int .i64 x.height, .slice ax x.cells.length cx, .int .i64 x.turn] 78))) := Lib.hid (((Below.refl w.heap.size w).alloc (Nat.le_refl _) _).alloc (by simp <;> omega) _)
  have hz0 : w.heap.size + 1 < ((w.alloc (.cells #[.string R.name, .int .i64 R.width, .int .i64 R.height, vp, vs, .bool R.falls, .bool R.keeps, ve, .int .i64 R.blocked, .int .i64 R.quiet, .int .i64 R.rept] 26)).alloc (.cells #[.int .i64 x.width, .int .i64 x.height, .slice ax x.cells.length cx, .int .i64 x.turn] 78)).heap.size := by simp
  generalize ((w.alloc (.cells #[.string R.name, .int .i64 R.width, .int .i64 R.height, vp, vs, .bool R.falls, .bool R.keeps, ve, .int .i64 R.blocked, .int .i64 R.quiet, .int .i64 R.rept] 26)).alloc (.cells #[.int .i64 x.width, .int .i64 x.height, .slice ax x.cells.length cx, .int .i64 x.turn] 78)) = w0 at *
  have HB0 := Lib.hid B0
  have HB1 := Lib.hid B1
  clear B0 B1
  go_wp2_with fail
  refine (patterns_any w0).mono ?_
  rintro e w1 ⟨rfl, hb1⟩
  have HL1 := Lib.hid (below_trans HB.out hb1 HB.out.size)
  have HC0 := Lib.hid (HB0.out.stays hb1)
  have HC1 := Lib.hid (HB1.out.stays hb1)
  clear hb1 HB0 HB1
  go_wp2_with fail
  refine (cut_any v l0 w1 (HL.out.below HL1.out (Nat.le_refl _))).mono ?_
  rintro e w2 ⟨rfl, v2, rfl, hl2⟩
  obtain ⟨l, hl⟩ : ∃ l, l = l0.take 40 := ⟨_, rfl⟩
  have hl40 : l.length ≤ 40 := by rw [hl, List.length_take]; omega
  rw [← hl] at hl2
  obtain ⟨a, c, rfl, h1, h2⟩ := hl2.form
  unfold maxLen at h2
  have HL2 := Lib.hid hl2
  clear hl hl2
  go_upto_region 4 with (fail)
  refine wp_region_lit ?_
  refine wpList_load_box (by rfl) 26 (.tmp 4) (by rfl) (w.heap.size) (by rfl) HC0.out Try.underlying26 (by rfl) (by kernel_rfl) ?_
  go_wp2_with fail
  refine (great_anyG R vp vs ve w2 (HR.out.2.1.below HL1.out (Nat.le_refl _))).mono ?_
  rintro e w3 ⟨rfl, hb3⟩
  have HL3 := Lib.hid (below_trans HL1.out hb3 HL1.out.size)
  have HD0 := Lib.hid (HC0.out.stays hb3)
  have HD1 := Lib.hid (HC1.out.stays hb3)
  have HM3 := Lib.hid (HL2.out.below hb3 (Nat.le_refl _))
  clear hb3 HC0 HC1 HL2 HL1
  by_cases hgr : 20 < (R.start.length : Int)
  · have hd : decide (20 < (R.start.length : Int)) = true := by simpa using hgr
    rw [hd]
    clear hgr hd
    go_wp2_with fail
    go_ret
    exact ⟨rfl, HL3.out⟩
  have hd : decide (20 < (R.start.length : Int)) = false := by simpa using hgr
  rw [hd]
  have HGR : Hid (R.start.length ≤ 20) := Lib.hid (by omega)
  clear hgr hd
  go_upto_region 6 with (fail)
  refine wp_region_lit ?_
  refine wpList_load_box (by rfl) 26 (.tmp 4) (by rfl) (w.heap.size) (by rfl) HD0.out Try.underlying26 (by rfl) (by kernel_rfl) ?_
  refine wpList_load_box (by rfl) 78 (.tmp 5) (by rfl) (w.heap.size + 1) (by rfl) HD1.out Try.underlying78 (by rfl) (by kernel_rfl) ?_
  go_wp2_with fail
  have HM4 := Lib.hid (HM3.out.below ((Below.refl w3.heap.size w3).alloc (Nat.le_refl _) (.cells #[.slice a l.length c] 32)) (Nat.le_refl _))
  have HG4 := Lib.hid (Box.new w3 [.slice a l.length c] 32)
  have HL4 := Lib.hid (HL3.out.alloc HL3.out.size (.cells #[.slice a l.length c] 32))
  have HE0 := Lib.hid (HD0.out.alloc (.cells #[.slice a l.length c] 32))
  have HE1 := Lib.hid (HD1.out.alloc (.cells #[.slice a l.length c] 32))
  generalize (w3.alloc (.cells #[.slice a l.length c] 32)) = w4 at *
  refine (Find_one HSh.out R vp vs ve x _ _ l w3.heap.size w4 (HR.out.below HL4.out (Nat.le_refl _)) HN.out (HX.out.below HL4.out (Nat.le_refl _)) HM4.out HG4.out).mono ?_
  rintro e w5 (⟨hbad, rfl, hb5⟩ | ⟨hok, va, rfl, hoa, hb5⟩)
  · have HB5 := Lib.hid (below_trans HL4.out hb5 HL4.out.size)
    have he' : (findErr R x l != 0) = true := by simpa using hbad
    clear hbad hb5
    go_wp2_with fail
    go_ret
    exact ⟨rfl, HB5.out⟩
  have HOK := Lib.hid hok
  have HL5 := Lib.hid (below_trans HL4.out hb5 HL4.out.size)
  have HM5 := Lib.hid (HM4.out.below hb5 (Nat.le_refl _))
  have HF0 := Lib.hid (HE0.out.stays hb5)
  have HF1 := Lib.hid (HE1.out.stays hb5)
  have HA5 := Lib.hid (rdH_of_own hoa)
  obtain ⟨aa, ca, rfl⟩ := own_form2 hoa
  have hAl : (hitsTo R x l (l.length + 1)).length ≤ 1000000 := by
    have := find_bound (x := x) HGR.out hl40 (find_ok hok).2 (run_all (find_ok hok).2).1 (run_legal (find_ok hok).2)
    omega
  have hc64 : 1 ≤ x.cells.length ∧ x.cells.length ≤ 64 := by
    obtain ⟨hre, hw, hh, hcl, -, -⟩ := patOk (find_ok hok).1
    obtain ⟨rw', rh', rn'⟩ := rulesOk hre
    have h1 := mul_in x.width x.height 8 8 hw.1 (by omega) hh.1 (by omega)
    omega
  clear hok hb5 hoa HE0 HE1 HM4 HG4 HL4 HM3 HL3 HD0 HD1
  have HSB : Hid ((hitsTo R x l (l.length + 1)).Sublist (hitsTo R (morePat x at') l (l.length + 1))) := Lib.hid (hits_more R x at' l _)
  obtain ⟨A, hA⟩ : ∃ A, hitsTo R x l (l.length + 1) = A := ⟨_, rfl⟩
  rw [hA] at HSB HA5 hAl ⊢
  clear hA
  go_upto_region 9 with (fail)
  refine wp_region_lit ?_
  refine wpList_load_box (by rfl) 78 (.tmp 5) (by rfl) (w.heap.size + 1) (by rfl) HF1.out Try.underlying78 (by rfl) (by kernel_rfl) ?_
  go_upto_region 10 with (fail)
  have HG1 := Lib.hid (HF1.out.alloc (.cells #[.int .i64 x.width, .int .i64 x.height, .slice ax x.cells.length cx, .int .i64 x.turn] 78))
  have HY6 := Lib.hid (Box.new w5 [.int .i64 x.width, .int .i64 x.height, .slice ax x.cells.length cx, .int .i64 x.turn] 78)
  have HV6 : Hid (Below w5.heap.size w5 (w5.alloc (.cells #[.int .i64 x.width, .int .i64 x.height, .slice ax x.cells.length cx, .int .i64 x.turn] 78))) := Lib.hid ((Below.refl _ _).alloc (Nat.le_refl _) _)
  obtain ⟨by', hby⟩ : ∃ by', by' = w5.heap.size := ⟨_, rfl⟩
  have hby6 : by' < (w5.alloc (.cells #[.int .i64 x.width, .int .i64 x.height, .slice ax x.cells.length cx, .int .i64 x.turn] 78)).heap.size := by rw [hby]; simp
  have hbw : w.heap.size + 1 < by' := by rw [hby]; exact HF1.out.lt
  have HBY := Lib.hid hby
  rw [← hby] at HY6 ⊢
  clear hby
  generalize (w5.alloc (.cells #[.int .i64 x.width, .int .i64 x.height, .slice ax x.cells.length cx, .int .i64 x.turn] 78)) = w6 at *
  obtain ⟨gx, ox, c1, e1, _, _, hxg, hcx⟩ := (HX.out.below (below_trans HL5.out HV6.out HL5.out.size) (Nat.le_refl _)).some (by omega)
  simp only [Value.slice.injEq] at e1
  obtain ⟨rfl, _, rfl⟩ := e1
  have d2 := HG1.out.cell 2 rfl
  have d2l := HG1.out.lt
  have Hown0 := Lib.hid (show (w6.alloc (.cells #[] 3)).ownsRow w6.heap.size 3 1 (.slice (some ⟨w6.heap.size, 0, none⟩) 0 0) 0 [] from World.ownsRow_made w6 #[] 0 (Nat.le_refl _) (by unfold maxLen; omega) rfl)
  have Hnews : Hid (∀ j u, (ints x.cells)[j]? = some u → (w6.alloc (.cells #[] 3)).cell? ((⟨gx, ox, none⟩ : Addr).add j) = some u) := Lib.hid (by
    intro j u hu
    have hj : j < x.cells.length := by
      have := (List.getElem?_eq_some_iff.1 hu).1
      rwa [ints_len] at this
    have hcell := hcx j hj
    have e : (⟨gx, ox, none⟩ : Addr).add j = ⟨gx, ox + j, none⟩ := add_off gx ox j
    rw [e, World.cell?_of_block (w := w6) (a := ⟨gx, ox + j, none⟩) (Below.heap_alloc w6 _ gx hxg), hcell, ← hu]
    unfold ints
    rw [List.getElem?_map, List.getElem?_eq_getElem hj, List.getD_eq_getElem?_getD, List.getElem?_eq_getElem hj]; rfl)
  have Hil := Lib.hid (show (ints x.cells).length = x.cells.length * 1 by rw [ints_len]; omega)
  have hzz : w6.heap.size < (w6.alloc (.cells #[] 3)).heap.size := by simp
  obtain ⟨j0, hj0, hj1, hj2, hj3⟩ := info_of info_int
  clear hcx
  go_wp2_with (at_builtin; refine wpList_append_lies _ rfl _ _ 23 rfl w6.heap.size 3 j0 (.int .i64 0) 1 8 Try.underlying23 hj0 hj1 hj2 hj3 rfl (by decide) _ 0 [] rfl Hown0.out ⟨gx, ox, none⟩ x.cells.length cx (ints x.cells) rfl Hil.out Hnews.out (ints_cell1 x.cells) (by omega) (by unfold maxLen; omega) (by omega) (by simp) _ rfl ?_)
  intro g3 cap3 w7 hown3 hg3 _ _
  have hbig : ∀ q, Value.ownBlock (.slice (some ⟨w6.heap.size, 0, none⟩) 0 0) = some q → w6.heap.size ≤ q := fun q hq => by simp [Value.ownBlock] at hq; omega
  have hb7 : Below w6.heap.size w6 w7 := Below.grown ((Below.refl _ w6).alloc (Nat.le_refl _) _) hg3 (by simp) hbig
  have HY7 := Lib.hid (HY6.out.stays hb7)
  have HV7 := Lib.hid (below_trans HV6.out hb7 HV6.out.size)
  try simp only [Nat.zero_add, List.nil_append] at hown3
  have HO7 := Lib.hid hown3
  have hg3b := (hown3.lt g3 rfl).1
  have hs7 := hb7.size
  have y2 := HY7.out.cell 2 rfl
  have yf := HY7.out.frozen 2
  have HMEQ := Lib.hid (morePat_eq x at')
  have HFM := Lib.hid (find_more at' HOK.out HGR.out hl40)
  clear hown3 hg3 hb7 hbig d2 d2l Hown0 Hnews Hil hzz hj0 hj1 hj2 hj3 HG1 HY6
  go_upto_region 11 with (fail)
  clear y2 yf
  have HY8 := Lib.hid (HY7.out.set 2 (.slice (some ⟨g3, 0, none⟩) x.cells.length cap3))
  have HV8 := Lib.hid (HV7.out.setCell (p := ⟨by', 2, none⟩) (by show w5.heap.size ≤ by'; exact Nat.le_of_eq HBY.out.symm) (.slice (some ⟨g3, 0, none⟩) x.cells.length cap3))
  have HO8 := Lib.hid (row_farW (p := ⟨by', 2, none⟩) HO7.out (fun e => by simp [Value.ownBlock] at e; omega) (.slice (some ⟨g3, 0, none⟩) x.cells.length cap3))
  have hz8 : g3 < (w7.setCell ⟨by', 2, none⟩ (.slice (some ⟨g3, 0, none⟩) x.cells.length cap3)).heap.size := (HO8.out.lt g3 rfl).2
  have hby8 := HY8.out.lt
  generalize (w7.setCell ⟨by', 2, none⟩ (.slice (some ⟨g3, 0, none⟩) x.cells.length cap3)) = w8 at *
  clear HY7 HV7 HO7 hs7
  have y2 := HY8.out.cell 2 rfl
  by_cases hin : 0 ≤ at' ∧ at' < (x.cells.length : Int)
  · have hin1 := hin.1
    have hin2 := hin.2
    obtain ⟨k, rfl⟩ : ∃ k : Nat, at' = (k : Int) := ⟨at'.toNat, by omega⟩
    have ck := HO8.out.cellAt k (by omega)
    have fk := HO8.out.frozenAt k
    have hik : k < x.cells.length := by omega
    rw [show (ints x.cells)[k]? = some (.int .i64 (x.cells.getD k 0)) by unfold ints; rw [List.getElem?_map, List.getElem?_eq_getElem hik, List.getD_eq_getElem?_getD, List.getElem?_eq_getElem hik]; rfl] at ck
    have hst := HO8.out.stored k (.int .i64 (-1))
    have HO9 : Hid ((w8.setCell ⟨g3, k, none⟩ (.int .i64 (-1))).ownsRow w6.heap.size 3 1 (.slice (some ⟨g3, 0, none⟩) x.cells.length cap3) x.cells.length (ints (x.cells.set k (-1)))) := Lib.hid (by
      have e : (ints x.cells).set k (.int .i64 (-1)) = ints (x.cells.set k (-1)) := by unfold ints; rw [List.map_set]
      rw [← e]; exact hst.1)
    have HYE : Hid (morePat x (k : Int) = ⟨x.width, x.height, x.cells.set k (-1), x.turn⟩) := Lib.hid (by unfold morePat; rw [if_pos hin]; simp)
    clear hst
    go_upto_region 13 with (fail)
    clear ck fk y2
    have HV9 := Lib.hid (HV8.out.setCell (p := ⟨g3, k, none⟩) (by show w5.heap.size ≤ g3; rw [← HBY.out]; omega) (.int .i64 (-1)))
    have HY9 := Lib.hid (HY8.out.far ⟨g3, k, none⟩ (.int .i64 (-1)) (fun e => by simp at e; omega))
    have HYL : Hid ((x.cells.set k (-1)).length = x.cells.length) := Lib.hid (by simp)
    generalize x.cells.set k (-1) = yc at *
    generalize (w8.setCell ⟨g3, k, none⟩ (.int .i64 (-1))) = w9 at *
    clear HV8 HY8 HO8 hin hin1 hin2 hz8 hby8
    generalize (k : Int) = at' at *
    refine wp_region_lit ?_
    refine wpList_load_box (by rfl) 26 (.tmp 4) (by rfl) (w.heap.size) (by rfl) (HF0.out.below HV9.out HF0.out.lt) Try.underlying26 (by rfl) (by kernel_rfl) ?_
    refine wpList_load_box (by rfl) 78 (.tmp 11) (by rfl) by' (by rfl) HY9.out Try.underlying78 (by rfl) (by kernel_rfl) ?_
    go_wp2_with fail
    have HVa := Lib.hid (HV9.out.alloc HV9.out.size (.cells #[.slice a l.length c] 32))
    have HGa := Lib.hid (Box.new w9 [.slice a l.length c] 32)
    have HOa := Lib.hid (rdI_own (HO9.out.alloc (.cells #[.slice a l.length c] 32)) (by first | exact HYL.out | rfl))
    generalize (w9.alloc (.cells #[.slice a l.length c] 32)) = wa at *
    have HLa := Lib.hid (below_trans HL5.out HVa.out HL5.out.size)
    refine (Find_one HSh.out R vp vs ve ⟨x.width, x.height, yc, x.turn⟩ (.slice (some ⟨g3, 0, none⟩) x.cells.length cap3) _ l w9.heap.size wa (HR.out.below HLa.out (Nat.le_refl _)) HN.out HOa.out (HM5.out.below HVa.out (Nat.le_refl _)) HGa.out).mono ?_
    rintro e wb (⟨hbad, -⟩ | ⟨-, vb, rfl, hob, hbb⟩)
    · exact absurd (by rw [← HYE.out]; exact HFM.out) hbad
    have HVb := Lib.hid (below_trans HVa.out hbb HVa.out.size)
    have HBb := Lib.hid (rdH_of_own hob)
    obtain ⟨ab, cb, rfl⟩ := own_form2 hob
    rw [← HYE.out] at HBb ⊢
    have hBl : (hitsTo R (morePat x at') l (l.length + 1)).length ≤ 1000000 := by
      have := find_bound (x := morePat x at') HGR.out hl40 (find_ok HOK.out).2 (run_all (find_ok HOK.out).2).1 (run_legal (find_ok HOK.out).2)
      omega
    obtain ⟨Bh, hB⟩ : ∃ Bh, hitsTo R (morePat x at') l (l.length + 1) = Bh := ⟨_, rfl⟩
    rw [hB] at HBb HSB hBl ⊢
    clear hB hob hbb HVa HGa HOa HLa HY9 HO9 HV9 HMEQ HFM HYE
    have heq := eqlH
    go_wp2_with fail
    go_loopw [65, 14, 16] (fun vi vk vh wr => ∃ j k : Nat, vi = .int .i64 j ∧ vk = .int .i64 k ∧ j ≤ Bh.length ∧ k ≤ A.length ∧ Hid ((A.drop k).Sublist (Bh.drop j)) ∧ Hid (Below wb.heap.size wb wr)) (fun i _ _ _ => Bh.length - (intOf i).toNat)
    case atStart => exact ⟨0, 0, rfl, rfl, Nat.zero_le _, Nat.zero_le _, HSB, Lib.hid (Below.refl _ _)⟩
    case round =>
      obtain ⟨j, k, rfl, rfl, hj, hk, HS, HBr⟩ := hrel
      have HVr := Lib.hid (below_trans HVb.out HBr.out HVb.out.size)
      by_cases hlt : j < Bh.length
      · obtain ⟨gb, ob, hab, hgb, hcc⟩ := moves_some (HBb.out.below HBr.out (Nat.le_refl _)) (by omega)
        subst hab
        obtain ⟨c0, c1, c2⟩ := hcc j hlt
        have HIN := Lib.hid (fun (q : k < A.length) => greedy_in HS.out q hlt)
        have HOUT := Lib.hid (fun (q : k < A.length) => greedy_out HS.out q hlt)
        clear hcc
        obtain ⟨z, hz⟩ : ∃ z, Bh.getD j default = z := ⟨_, rfl⟩
        rw [hz] at c0 c1 c2 HIN HOUT
        clear hz
        go_upto_region 18 with (fail)
        have HXh := Lib.hid (Box.new wr [.int .i64 z.src, .int .i64 z.dst, .int .i64 z.piece] 84)
        have HBh := Lib.hid (HBr.out.alloc HBr.out.size (.cells #[.int .i64 z.src, .int .i64 z.dst, .int .i64 z.piece] 84))
        clear c0 c1 c2
        generalize (wr.alloc (.cells #[.int .i64 z.src, .int .i64 z.dst, .int .i64 z.piece] 84)) = wh at *
        by_cases hka : k < A.length
        · have hkI : (k : Int) < (A.length : Int) := by omega
          have HIN2 := Lib.hid (HIN.out hka)
          have HOUT2 := Lib.hid (HOUT.out hka)
          obtain ⟨ga, oa, haa, hga, hca⟩ := moves_some (HA5.out.below (below_trans HVb.out HBh.out HVb.out.size) (Nat.le_refl _)) (by omega)
          subst haa
          obtain ⟨e0, e1, e2⟩ := hca k hka
          clear hca HIN HOUT
          generalize A.getD k default = y at *
          have x0 := HXh.out.cell 0 rfl
          have x1 := HXh.out.cell 1 rfl
          have x2 := HXh.out.cell 2 rfl
          by_cases hyz : y = z
          · subst hyz
            have HS2 := Lib.hid (HIN2.out rfl)
            clear HIN2 HOUT2
            go_quiet (fail)
            go_wp2_with fail
            go_roundw
            case rel => exact ⟨j + 1, k + 1, by go_num, by go_num, by omega, by omega, HS2, Lib.hid (below_drewN HBh.out _)⟩
            case measure => simp [intOf]; omega
          · have hd : decide (y = z) = false := by simpa using hyz
            have HS2 := Lib.hid (HOUT2.out hyz)
            clear HIN2 HOUT2 hyz
            go_quiet (fail)
            go_wp2_with fail
            go_roundw
            case rel => exact ⟨j + 1, k, by go_num, rfl, by omega, hk, HS2, Lib.hid (below_drewN HBh.out _)⟩
            case measure => simp [intOf]; omega
        · have hkI : ¬ (k : Int) < (A.length : Int) := by omega
          have HS2 : Hid ((A.drop k).Sublist (Bh.drop (j + 1))) := Lib.hid (greedy_end hka)
          clear HIN HOUT hka
          go_quiet (fail)
          go_wp2_with fail
          go_roundw
          case rel => exact ⟨j + 1, k, by go_num, rfl, by omega, hk, HS2, Lib.hid (below_drewN HBh.out _)⟩
          case measure => simp [intOf]; omega
      · obtain rfl : j = Bh.length := by omega
        obtain rfl : k = A.length := greedy_all HS.out hk
        go_wp2_with fail
        go_ret
        exact ⟨rfl, below_trans HL5.out HVr.out HL5.out.size⟩
  · have HO9 := HO8
    have HV9 := HV8
    have HY9 := HY8
    have HYE : Hid (morePat x at' = ⟨x.width, x.height, x.cells, x.turn⟩) := Lib.hid (by unfold morePat; rw [if_neg hin])
    have HYL : Hid (x.cells.length = x.cells.length) := Lib.hid rfl
    clear HV8 HY8 HO8 hz8 hby8
    generalize w8 = w9 at *
    by_cases hin1 : 0 ≤ at'
    · have hin2 : ¬ at' < (x.cells.length : Int) := fun q => hin ⟨hin1, q⟩
      clear hin
      go_upto_region 13 with (fail)
      clear hin1 hin2 y2
      refine wp_region_lit ?_
      refine wpList_load_box (by rfl) 26 (.tmp 4) (by rfl) (w.heap.size) (by rfl) (HF0.out.below HV9.out HF0.out.lt) Try.underlying26 (by rfl) (by kernel_rfl) ?_
      refine wpList_load_box (by rfl) 78 (.tmp 11) (by rfl) by' (by rfl) HY9.out Try.underlying78 (by rfl) (by kernel_rfl) ?_
      go_wp2_with fail
      have HVa := Lib.hid (HV9.out.alloc HV9.out.size (.cells #[.slice a l.length c] 32))
      have HGa := Lib.hid (Box.new w9 [.slice a l.length c] 32)
      have HOa := Lib.hid (rdI_own (HO9.out.alloc (.cells #[.slice a l.length c] 32)) (by first | exact HYL.out | rfl))
      generalize (w9.alloc (.cells #[.slice a l.length c] 32)) = wa at *
      have HLa := Lib.hid (below_trans HL5.out HVa.out HL5.out.size)
      refine (Find_one HSh.out R vp vs ve ⟨x.width, x.height, x.cells, x.turn⟩ (.slice (some ⟨g3, 0, none⟩) x.cells.length cap3) _ l w9.heap.size wa (HR.out.below HLa.out (Nat.le_refl _)) HN.out HOa.out (HM5.out.below HVa.out (Nat.le_refl _)) HGa.out).mono ?_
      rintro e wb (⟨hbad, -⟩ | ⟨-, vb, rfl, hob, hbb⟩)
      · exact absurd (by rw [← HYE.out]; exact HFM.out) hbad
      have HVb := Lib.hid (below_trans HVa.out hbb HVa.out.size)
      have HBb := Lib.hid (rdH_of_own hob)
      obtain ⟨ab, cb, rfl⟩ := own_form2 hob
      rw [← HYE.out] at HBb ⊢
      have hBl : (hitsTo R (morePat x at') l (l.length + 1)).length ≤ 1000000 := by
        have := find_bound (x := morePat x at') HGR.out hl40 (find_ok HOK.out).2 (run_all (find_ok HOK.out).2).1 (run_legal (find_ok HOK.out).2)
        omega
      obtain ⟨Bh, hB⟩ : ∃ Bh, hitsTo R (morePat x at') l (l.length + 1) = Bh := ⟨_, rfl⟩
      rw [hB] at HBb HSB hBl ⊢
      clear hB hob hbb HVa HGa HOa HLa HY9 HO9 HV9 HMEQ HFM HYE
      have heq := eqlH
      go_wp2_with fail
      go_loopw [65, 14, 16] (fun vi vk vh wr => ∃ j k : Nat, vi = .int .i64 j ∧ vk = .int .i64 k ∧ j ≤ Bh.length ∧ k ≤ A.length ∧ Hid ((A.drop k).Sublist (Bh.drop j)) ∧ Hid (Below wb.heap.size wb wr)) (fun i _ _ _ => Bh.length - (intOf i).toNat)
      case atStart => exact ⟨0, 0, rfl, rfl, Nat.zero_le _, Nat.zero_le _, HSB, Lib.hid (Below.refl _ _)⟩
      case round =>
        obtain ⟨j, k, rfl, rfl, hj, hk, HS, HBr⟩ := hrel
        have HVr := Lib.hid (below_trans HVb.out HBr.out HVb.out.size)
        by_cases hlt : j < Bh.length
        · obtain ⟨gb, ob, hab, hgb, hcc⟩ := moves_some (HBb.out.below HBr.out (Nat.le_refl _)) (by omega)
          subst hab
          obtain ⟨c0, c1, c2⟩ := hcc j hlt
          have HIN := Lib.hid (fun (q : k < A.length) => greedy_in HS.out q hlt)
          have HOUT := Lib.hid (fun (q : k < A.length) => greedy_out HS.out q hlt)
          clear hcc
          obtain ⟨z, hz⟩ : ∃ z, Bh.getD j default = z := ⟨_, rfl⟩
          rw [hz] at c0 c1 c2 HIN HOUT
          clear hz
          go_upto_region 18 with (fail)
          have HXh := Lib.hid (Box.new wr [.int .i64 z.src, .int .i64 z.dst, .int .i64 z.piece] 84)
          have HBh := Lib.hid (HBr.out.alloc HBr.out.size (.cells #[.int .i64 z.src, .int .i64 z.dst, .int .i64 z.piece] 84))
          clear c0 c1 c2
          generalize (wr.alloc (.cells #[.int .i64 z.src, .int .i64 z.dst, .int .i64 z.piece] 84)) = wh at *
          by_cases hka : k < A.length
          · have hkI : (k : Int) < (A.length : Int) := by omega
            have HIN2 := Lib.hid (HIN.out hka)
            have HOUT2 := Lib.hid (HOUT.out hka)
            obtain ⟨ga, oa, haa, hga, hca⟩ := moves_some (HA5.out.below (below_trans HVb.out HBh.out HVb.out.size) (Nat.le_refl _)) (by omega)
            subst haa
            obtain ⟨e0, e1, e2⟩ := hca k hka
            clear hca HIN HOUT
            generalize A.getD k default = y at *
            have x0 := HXh.out.cell 0 rfl
            have x1 := HXh.out.cell 1 rfl
            have x2 := HXh.out.cell 2 rfl
            by_cases hyz : y = z
            · subst hyz
              have HS2 := Lib.hid (HIN2.out rfl)
              clear HIN2 HOUT2
              go_quiet (fail)
              go_wp2_with fail
              go_roundw
              case rel => exact ⟨j + 1, k + 1, by go_num, by go_num, by omega, by omega, HS2, Lib.hid (below_drewN HBh.out _)⟩
              case measure => simp [intOf]; omega
            · have hd : decide (y = z) = false := by simpa using hyz
              have HS2 := Lib.hid (HOUT2.out hyz)
              clear HIN2 HOUT2 hyz
              go_quiet (fail)
              go_wp2_with fail
              go_roundw
              case rel => exact ⟨j + 1, k, by go_num, rfl, by omega, hk, HS2, Lib.hid (below_drewN HBh.out _)⟩
              case measure => simp [intOf]; omega
          · have hkI : ¬ (k : Int) < (A.length : Int) := by omega
            have HS2 : Hid ((A.drop k).Sublist (Bh.drop (j + 1))) := Lib.hid (greedy_end hka)
            clear HIN HOUT hka
            go_quiet (fail)
            go_wp2_with fail
            go_roundw
            case rel => exact ⟨j + 1, k, by go_num, rfl, by omega, hk, HS2, Lib.hid (below_drewN HBh.out _)⟩
            case measure => simp [intOf]; omega
        · obtain rfl : j = Bh.length := by omega
          obtain rfl : k = A.length := greedy_all HS.out hk
          go_wp2_with fail
          go_ret
          exact ⟨rfl, below_trans HL5.out HVr.out HL5.out.size⟩
    · clear hin
      go_upto_region 13 with (fail)
      clear hin1 y2
      refine wp_region_lit ?_
      refine wpList_load_box (by rfl) 26 (.tmp 4) (by rfl) (w.heap.size) (by rfl) (HF0.out.below HV9.out HF0.out.lt) Try.underlying26 (by rfl) (by kernel_rfl) ?_
      refine wpList_load_box (by rfl) 78 (.tmp 11) (by rfl) by' (by rfl) HY9.out Try.underlying78 (by rfl) (by kernel_rfl) ?_
      go_wp2_with fail
      have HVa := Lib.hid (HV9.out.alloc HV9.out.size (.cells #[.slice a l.length c] 32))
      have HGa := Lib.hid (Box.new w9 [.slice a l.length c] 32)
      have HOa := Lib.hid (rdI_own (HO9.out.alloc (.cells #[.slice a l.length c] 32)) (by first | exact HYL.out | rfl))
      generalize (w9.alloc (.cells #[.slice a l.length c] 32)) = wa at *
      have HLa := Lib.hid (below_trans HL5.out HVa.out HL5.out.size)
      refine (Find_one HSh.out R vp vs ve ⟨x.width, x.height, x.cells, x.turn⟩ (.slice (some ⟨g3, 0, none⟩) x.cells.length cap3) _ l w9.heap.size wa (HR.out.below HLa.out (Nat.le_refl _)) HN.out HOa.out (HM5.out.below HVa.out (Nat.le_refl _)) HGa.out).mono ?_
      rintro e wb (⟨hbad, -⟩ | ⟨-, vb, rfl, hob, hbb⟩)
      · exact absurd (by rw [← HYE.out]; exact HFM.out) hbad
      have HVb := Lib.hid (below_trans HVa.out hbb HVa.out.size)
      have HBb := Lib.hid (rdH_of_own hob)
      obtain ⟨ab, cb, rfl⟩ := own_form2 hob
      rw [← HYE.out] at HBb ⊢
      have hBl : (hitsTo R (morePat x at') l (l.length + 1)).length ≤ 1000000 := by
        have := find_bound (x := morePat x at') HGR.out hl40 (find_ok HOK.out).2 (run_all (find_ok HOK.out).2).1 (run_legal (find_ok HOK.out).2)
        omega
      obtain ⟨Bh, hB⟩ : ∃ Bh, hitsTo R (morePat x at') l (l.length + 1) = Bh := ⟨_, rfl⟩
      rw [hB] at HBb HSB hBl ⊢
      clear hB hob hbb HVa HGa HOa HLa HY9 HO9 HV9 HMEQ HFM HYE
      have heq := eqlH
      go_wp2_with fail
      go_loopw [65, 14, 16] (fun vi vk vh wr => ∃ j k : Nat, vi = .int .i64 j ∧ vk = .int .i64 k ∧ j ≤ Bh.length ∧ k ≤ A.length ∧ Hid ((A.drop k).Sublist (Bh.drop j)) ∧ Hid (Below wb.heap.size wb wr)) (fun i _ _ _ => Bh.length - (intOf i).toNat)
      case atStart => exact ⟨0, 0, rfl, rfl, Nat.zero_le _, Nat.zero_le _, HSB, Lib.hid (Below.refl _ _)⟩
      case round =>
        obtain ⟨j, k, rfl, rfl, hj, hk, HS, HBr⟩ := hrel
        have HVr := Lib.hid (below_trans HVb.out HBr.out HVb.out.size)
        by_cases hlt : j < Bh.length
        · obtain ⟨gb, ob, hab, hgb, hcc⟩ := moves_some (HBb.out.below HBr.out (Nat.le_refl _)) (by omega)
          subst hab
          obtain ⟨c0, c1, c2⟩ := hcc j hlt
          have HIN := Lib.hid (fun (q : k < A.length) => greedy_in HS.out q hlt)
          have HOUT := Lib.hid (fun (q : k < A.length) => greedy_out HS.out q hlt)
          clear hcc
          obtain ⟨z, hz⟩ : ∃ z, Bh.getD j default = z := ⟨_, rfl⟩
          rw [hz] at c0 c1 c2 HIN HOUT
          clear hz
          go_upto_region 18 with (fail)
          have HXh := Lib.hid (Box.new wr [.int .i64 z.src, .int .i64 z.dst, .int .i64 z.piece] 84)
          have HBh := Lib.hid (HBr.out.alloc HBr.out.size (.cells #[.int .i64 z.src, .int .i64 z.dst, .int .i64 z.piece] 84))
          clear c0 c1 c2
          generalize (wr.alloc (.cells #[.int .i64 z.src, .int .i64 z.dst, .int .i64 z.piece] 84)) = wh at *
          by_cases hka : k < A.length
          · have hkI : (k : Int) < (A.length : Int) := by omega
            have HIN2 := Lib.hid (HIN.out hka)
            have HOUT2 := Lib.hid (HOUT.out hka)
            obtain ⟨ga, oa, haa, hga, hca⟩ := moves_some (HA5.out.below (below_trans HVb.out HBh.out HVb.out.size) (Nat.le_refl _)) (by omega)
            subst haa
            obtain ⟨e0, e1, e2⟩ := hca k hka
            clear hca HIN HOUT
            generalize A.getD k default = y at *
            have x0 := HXh.out.cell 0 rfl
            have x1 := HXh.out.cell 1 rfl
            have x2 := HXh.out.cell 2 rfl
            by_cases hyz : y = z
            · subst hyz
              have HS2 := Lib.hid (HIN2.out rfl)
              clear HIN2 HOUT2
              go_quiet (fail)
              go_wp2_with fail
              go_roundw
              case rel => exact ⟨j + 1, k + 1, by go_num, by go_num, by omega, by omega, HS2, Lib.hid (below_drewN HBh.out _)⟩
              case measure => simp [intOf]; omega
            · have hd : decide (y = z) = false := by simpa using hyz
              have HS2 := Lib.hid (HOUT2.out hyz)
              clear HIN2 HOUT2 hyz
              go_quiet (fail)
              go_wp2_with fail
              go_roundw
              case rel => exact ⟨j + 1, k, by go_num, rfl, by omega, hk, HS2, Lib.hid (below_drewN HBh.out _)⟩
              case measure => simp [intOf]; omega
          · have hkI : ¬ (k : Int) < (A.length : Int) := by omega
            have HS2 : Hid ((A.drop k).Sublist (Bh.drop (j + 1))) := Lib.hid (greedy_end hka)
            clear HIN HOUT hka
            go_quiet (fail)
            go_wp2_with fail
            go_roundw
            case rel => exact ⟨j + 1, k, by go_num, rfl, by omega, hk, HS2, Lib.hid (below_drewN HBh.out _)⟩
            case measure => simp [intOf]; omega
        · obtain rfl : j = Bh.length := by omega
          obtain rfl : k = A.length := greedy_all HS.out hk
          go_wp2_with fail
          go_ret
          exact ⟨rfl, below_trans HL5.out HVr.out HL5.out.size⟩

end Go.Proofs.Ytkfaibdflbdpgaa.patternMore

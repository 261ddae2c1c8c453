/- The contracts of premove.check, Next; announces, sameLine. -/
import Derived.Test.YtkfaibdflbdpgaaPrem5
import Derived.Test.YtkfaibdflbdpgaaMvLaw
import Derived.Test.YtkfaibdflbdpgaaTic
namespace Go.Proofs.Ytkfaibdflbdpgaa
open Go.ChangeShapes Go.WideShapes Go.ChangeAt Go.RowKit
set_option linter.unusedVariables false

def pcheckErr (R : RulesZ) (p : PosZ) (l : List PremZ) : Int := if posErr R p ≠ 0 then posErr R p else premErr l
set_option maxRecDepth 100000 in
set_option maxHeartbeats 1000000 in
theorem pcheck_any (R : RulesZ) (vp vs ve : Value) (p : PosZ) (vc v0 v1 : Value) (v : Value) (l : List PremZ) (w : World) (hr : RdR w R vp vs ve) (hnm : R.name.size ≤ maxLen) (hp : RdP w p vc v0 v1) (hl : RdL premEl w v l) (hlen : l.length ≤ 100000) :
    Calls Try.prog 80 #[(.agg #[.string R.name, .int .i64 R.width, .int .i64 R.height, vp, vs, .bool R.falls, .bool R.keeps, ve, .int .i64 R.blocked, .int .i64 R.quiet, .int .i64 R.rept]), (.agg #[vc, v0, v1, .int .i64 p.turn, .int .i64 p.quiet]), v] w fun e w' => e = .returned (.int .i64 (pcheckErr R p l)) ∧ Below w.heap.size w w' := by
  have HR := Lib.hid hr
  have HN := Lib.hid hnm
  have HP := Lib.hid hp
  have HL := Lib.hid hl
  have HD : Hid (pcheckErr R p l = if posErr R p ≠ 0 then posErr R p else premErr l) := Lib.hid rfl
  obtain ⟨a, c, rfl, h1, h2⟩ := hl.form
  unfold maxLen at h2
  clear hr hp hl hnm
  go_enter Try.func80, Try.ntmps80
  go_upto_region 1 with (fail)
  have B0 : Box ((w.alloc (.cells #[.string R.name, .int .i64 R.width, .int .i64 R.height, vp, vs, .bool R.falls, .bool R.keeps, ve, .int .i64 R.blocked, .int .i64 R.quiet, .int .i64 R.rept] 26)).alloc (.cells #[vc, v0, v1, .int .i64 p.turn, .int .i64 p.quiet] 37)) (w.heap.size) [.string R.name, .int .i64 R.width, .int .i64 R.height, vp, vs, .bool R.falls, .bool R.keeps, ve, .int .i64 R.blocked, .int .i64 R.quiet, .int .i64 R.rept] 26 := ((Box.new' w (w.heap.size) [.string R.name, .int .i64 R.width, .int .i64 R.height, vp, vs, .bool R.falls, .bool R.keeps, ve, .int .i64 R.blocked, .int .i64 R.quiet, .int .i64 R.rept] 26 (by simp <;> omega)).alloc _)
  have B1 : Box ((w.alloc (.cells #[.string R.name, .int .i64 R.width, .int .i64 R.height, vp, vs, .bool R.falls, .bool R.keeps, ve, .int .i64 R.blocked, .int .i64 R.quiet, .int .i64 R.rept] 26)).alloc (.cells #[vc, v0, v1, .int .i64 p.turn, .int .i64 p.quiet] 37)) (w.heap.size + 1) [vc, v0, v1, .int .i64 p.turn, .int .i64 p.quiet] 37 := (Box.new' (w.alloc (.cells #[.string R.name, .int .i64 R.width, .int .i64 R.height, vp, vs, .bool R.falls, .bool R.keeps, ve, .int .i64 R.blocked, .int .i64 R.quiet, .int .i64 R.rept] 26)) (w.heap.size + 1) [vc, v0, v1, .int .i64 p.turn, .int .i64 p.quiet] 37 (by simp <;> omega))
  have HB : Hid (Below w.heap.size w ((w.alloc (.cells #[.string R.name, .int .i64 R.width, .int .i64 R.height, vp, vs, .bool R.falls, .bool R.keeps, ve, .int .i64 R.blocked, .int .i64 R.quiet, .int .i64 R.rept] 26)).alloc (.cells #[vc, v0, v1, .int .i64 p.turn, .int .i64 p.quiet] 37))) := Lib.hid (((Below.refl w.heap.size w).alloc (Nat.le_refl _) _).alloc (by simp <;> omega) _)
  have hz0 : w.heap.size + 1 < ((w.alloc (.cells #[.string R.name, .int .i64 R.width, .int .i64 R.height, vp, vs, .bool R.falls, .bool R.keeps, ve, .int .i64 R.blocked, .int .i64 R.quiet, .int .i64 R.rept] 26)).alloc (.cells #[vc, v0, v1, .int .i64 p.turn, .int .i64 p.quiet] 37)).heap.size := by simp
  generalize ((w.alloc (.cells #[.string R.name, .int .i64 R.width, .int .i64 R.height, vp, vs, .bool R.falls, .bool R.keeps, ve, .int .i64 R.blocked, .int .i64 R.quiet, .int .i64 R.rept] 26)).alloc (.cells #[vc, v0, v1, .int .i64 p.turn, .int .i64 p.quiet] 37)) = w0 at *
  have HRw := Lib.hid (HR.out.below HB.out (Nat.le_refl _))
  have HPw := Lib.hid (HP.out.below HB.out (Nat.le_refl _))
  have HLw := Lib.hid (HL.out.below HB.out (Nat.le_refl _))
  have HX0 := Lib.hid B0
  have HX1 := Lib.hid B1
  clear B0 B1
  refine wp_region_lit ?_
  refine wpList_load_box (by rfl) 26 (.tmp 3) (by rfl) (w.heap.size) (by rfl) HX0.out Try.underlying26 (by rfl) (by kernel_rfl) ?_
  refine wpList_load_box (by rfl) 37 (.tmp 4) (by rfl) (w.heap.size + 1) (by rfl) HX1.out Try.underlying37 (by rfl) (by kernel_rfl) ?_
  go_wp2_with fail
  refine (placeCheck_any R vp vs ve p vc v0 v1 w0 HRw.out HN.out HPw.out).mono ?_
  rintro e w1 ⟨rfl, hb1⟩
  have HB1 := Lib.hid (below_trans HB.out hb1 HB.out.size)
  clear hb1
  by_cases he : posErr R p = 0
  rotate_left
  · have HE : Hid (pcheckErr R p l = posErr R p) := Lib.hid (by rw [HD.out, if_pos he])
    have he' : (posErr R p != 0) = true := by simpa using he
    clear he HD
    go_wp2_with fail
    go_ret
    exact ⟨by rw [HE.out]; rfl, HB1.out⟩
  have HE : Hid (pcheckErr R p l = premErr l) := Lib.hid (by rw [HD.out, if_neg (by simp [he])])
  rw [he]
  clear he HD
  go_wp2_with fail
  refine (premCheck_any _ l w1 (HL.out.below HB1.out (Nat.le_refl _)) (by omega)).mono ?_
  rintro e w2 ⟨rfl, hb2⟩
  have HB2 := Lib.hid (below_trans HB1.out hb2 HB1.out.size)
  clear hb2
  go_wp2_with fail
  go_ret
  exact ⟨by rw [HE.out]; rfl, HB2.out⟩
def NextFull (R : RulesZ) (p : PosZ) (l : List PremZ) (w : World) (e : Ending) (w' : World) : Prop :=
  (pcheckErr R p l ≠ 0 ∧ e = .returned (.tuple #[.agg #[.int .i64 0, .int .i64 0, .int .i64 0], .bool false, .slice none 0 0, .int .i64 (pcheckErr R p l)]) ∧ Below w.heap.size w w') ∨
  (pcheckErr R p l = 0 ∧ ∃ v, e = .returned (.tuple #[.agg #[.int .i64 (nextMv R p l).src, .int .i64 (nextMv R p l).dst, .int .i64 (nextMv R p l).piece], .bool (nextOk R p l), v, .int .i64 0]) ∧ w'.ownsRow w.heap.size 121 4 v (nextRest R p l).length (flatP (nextRest R p l)) ∧ Below w.heap.size w w')
theorem pcheck_pos {R : RulesZ} {p : PosZ} {l : List PremZ} (h : pcheckErr R p l = 0) : posErr R p = 0 ∧ premErr l = 0 := by
  unfold pcheckErr at h
  by_cases e : posErr R p = 0
  · rw [if_neg (by simp [e])] at h; exact ⟨e, h⟩
  · rw [if_pos e] at h; exact absurd h e
set_option maxRecDepth 100000 in
set_option maxHeartbeats 1000000 in
theorem Next_any (HS : SortMvSaid) (R : RulesZ) (vp vs ve : Value) (p : PosZ) (vc v0 v1 : Value) (v : Value) (l : List PremZ) (w : World) (hr : RdR w R vp vs ve) (hnm : R.name.size ≤ maxLen) (hp : RdP w p vc v0 v1) (hl : RdL premEl w v l) (hlen : l.length ≤ 1000) :
    Calls Try.prog 76 #[(.agg #[.string R.name, .int .i64 R.width, .int .i64 R.height, vp, vs, .bool R.falls, .bool R.keeps, ve, .int .i64 R.blocked, .int .i64 R.quiet, .int .i64 R.rept]), (.agg #[vc, v0, v1, .int .i64 p.turn, .int .i64 p.quiet]), v] w (NextFull R p l w) := by
  have HSh := Lib.hid HS
  have HR := Lib.hid hr
  have HN := Lib.hid hnm
  have HP := Lib.hid hp
  have HL := Lib.hid hl
  obtain ⟨a, c, rfl, h1, h2⟩ := hl.form
  unfold maxLen at h2
  clear hr hp hl hnm HS
  go_enter Try.func76, Try.ntmps76
  go_upto_region 1 with (fail)
  have B0 : Box (((w.alloc (.cells #[.string R.name, .int .i64 R.width, .int .i64 R.height, vp, vs, .bool R.falls, .bool R.keeps, ve, .int .i64 R.blocked, .int .i64 R.quiet, .int .i64 R.rept] 26)).alloc (.cells #[vc, v0, v1, .int .i64 p.turn, .int .i64 p.quiet] 37)).alloc (.cells #[.int .i64 0, .int .i64 0, .int .i64 0] 42)) (w.heap.size) [.string R.name, .int .i64 R.width, .int .i64 R.height, vp, vs, .bool R.falls, .bool R.keeps, ve, .int .i64 R.blocked, .int .i64 R.quiet, .int .i64 R.rept] 26 := (((Box.new' w (w.heap.size) [.string R.name, .int .i64 R.width, .int .i64 R.height, vp, vs, .bool R.falls, .bool R.keeps, ve, .int .i64 R.blocked, .int .i64 R.quiet, .int .i64 R.rept] 26 (by simp <;> omega)).alloc _).alloc _)
  have B1 : Box (((w.alloc (.cells #[.string R.name, .int .i64 R.width, .int .i64 R.height, vp, vs, .bool R.falls, .bool R.keeps, ve, .int .i64 R.blocked, .int .i64 R.quiet, .int .i64 R.rept] 26)).alloc (.cells #[vc, v0, v1, .int .i64 p.turn, .int .i64 p.quiet] 37)).alloc (.cells #[.int .i64 0, .int .i64 0, .int .i64 0] 42)) (w.heap.size + 1) [vc, v0, v1, .int .i64 p.turn, .int .i64 p.quiet] 37 := ((Box.new' (w.alloc (.cells #[.string R.name, .int .i64 R.width, .int .i64 R.height, vp, vs, .bool R.falls, .bool R.keeps, ve, .int .i64 R.blocked, .int .i64 R.quiet, .int .i64 R.rept] 26)) (w.heap.size + 1) [vc, v0, v1, .int .i64 p.turn, .int .i64 p.quiet] 37 (by simp <;> omega)).alloc _)
  have B2 : Box (((w.alloc (.cells #[.string R.name, .int .i64 R.width, .int .i64 R.height, vp, vs, .bool R.falls, .bool R.keeps, ve, .int .i64 R.blocked, .int .i64 R.quiet, .int .i64 R.rept] 26)).alloc (.cells #[vc, v0, v1, .int .i64 p.turn, .int .i64 p.quiet] 37)).alloc (.cells #[.int .i64 0, .int .i64 0, .int .i64 0] 42)) (w.heap.size + 1 + 1) [.int .i64 0, .int .i64 0, .int .i64 0] 42 := (Box.new' ((w.alloc (.cells #[.string R.name, .int .i64 R.width, .int .i64 R.height, vp, vs, .bool R.falls, .bool R.keeps, ve, .int .i64 R.blocked, .int .i64 R.quiet, .int .i64 R.rept] 26)).alloc (.cells #[vc, v0, v1, .int .i64 p.turn, .int .i64 p.quiet] 37)) (w.heap.size + 1 + 1) [.int .i64 0, .int .i64 0, .int .i64 0] 42 (by simp <;> omega))
  have HB : Hid (Below w.heap.size w (((w.alloc (.cells #[.string R.name, .int .i64 R.width, .int .i64 R.height, vp, vs, .bool R.falls, .bool R.keeps, ve, .int .i64 R.blocked, .int .i64 R.quiet, .int .i64 R.rept] 26)).alloc (.cells #[vc, v0, v1, .int .i64 p.turn, .int .i64 p.quiet] 37)).alloc (.cells #[.int .i64 0, .int .i64 0, .int .i64 0] 42))) := Lib.hid ((((Below.refl w.heap.size w).alloc (Nat.le_refl _) _).alloc (by simp <;> omega) _).alloc (by simp <;> omega) _)
  have hz0 : w.heap.size + 1 + 1 < (((w.alloc (.cells #[.string R.name, .int .i64 R.width, .int .i64 R.height, vp, vs, .bool R.falls, .bool R.keeps, ve, .int .i64 R.blocked, .int .i64 R.quiet, .int .i64 R.rept] 26)).alloc (.cells #[vc, v0, v1, .int .i64 p.turn, .int .i64 p.quiet] 37)).alloc (.cells #[.int .i64 0, .int .i64 0, .int .i64 0] 42)).heap.size := by simp
  generalize (((w.alloc (.cells #[.string R.name, .int .i64 R.width, .int .i64 R.height, vp, vs, .bool R.falls, .bool R.keeps, ve, .int .i64 R.blocked, .int .i64 R.quiet, .int .i64 R.rept] 26)).alloc (.cells #[vc, v0, v1, .int .i64 p.turn, .int .i64 p.quiet] 37)).alloc (.cells #[.int .i64 0, .int .i64 0, .int .i64 0] 42)) = w0 at *
  have HRw := Lib.hid (HR.out.below HB.out (Nat.le_refl _))
  have HPw := Lib.hid (HP.out.below HB.out (Nat.le_refl _))
  have HLw := Lib.hid (HL.out.below HB.out (Nat.le_refl _))
  have HX0 := Lib.hid B0
  have HX1 := Lib.hid B1
  have HX2 := Lib.hid B2
  clear B0 B1 B2
  refine wp_region_lit ?_
  refine wpList_load_box (by rfl) 26 (.tmp 3) (by rfl) (w.heap.size) (by rfl) HX0.out Try.underlying26 (by rfl) (by kernel_rfl) ?_
  refine wpList_load_box (by rfl) 37 (.tmp 4) (by rfl) (w.heap.size + 1) (by rfl) HX1.out Try.underlying37 (by rfl) (by kernel_rfl) ?_
  go_wp2_with fail
  refine (pcheck_any R vp vs ve p vc v0 v1 _ l w0 HRw.out HN.out HPw.out HLw.out (by omega)).mono ?_
  rintro e w1 ⟨rfl, hb1⟩
  have HB1 := Lib.hid (below_trans HB.out hb1 HB.out.size)
  have HX01 := Lib.hid (HX0.out.stays hb1)
  have HX11 := Lib.hid (HX1.out.stays hb1)
  have HX21 := Lib.hid (HX2.out.stays hb1)
  clear hb1 HX0 HX1 HX2
  by_cases he : pcheckErr R p l = 0
  rotate_left
  · have HNE := Lib.hid he
    have he' : (pcheckErr R p l != 0) = true := by simpa using he
    clear he
    go_wp2_with (refine wpList_store_box (vs := [.int .i64 0, .int .i64 0, .int .i64 0]) (by rfl) 42 (.tmp 6) (.tmp 20) (by rfl) (w.heap.size + 1 + 1) (by rfl) (by rfl) HX21.out rfl (by kernel_rfl) (by rfl) ?_)
    exact bodyPost_ret (results_c3 rfl (by rfl) (by rfl) (by rfl) (by rfl) (HX21.out.store rfl) Try.underlying42 (by rfl) (by kernel_rfl)) rfl (.inl ⟨HNE.out, rfl, below_setCells HB1.out (by omega) 0 _⟩)
  have HNE := Lib.hid he
  have HK := Lib.hid (pok_of (pcheck_pos he).1)
  rw [he]
  clear he
  go_upto_region 4 with (fail)
  refine wp_region_lit ?_
  refine wpList_load_box (by rfl) 26 (.tmp 3) (by rfl) (w.heap.size) (by rfl) HX01.out Try.underlying26 (by rfl) (by kernel_rfl) ?_
  refine wpList_load_box (by rfl) 37 (.tmp 4) (by rfl) (w.heap.size + 1) (by rfl) HX11.out Try.underlying37 (by rfl) (by kernel_rfl) ?_
  go_wp2_with fail
  refine (next_any HSh.out R vp vs ve p vc v0 v1 _ l w1 (HR.out.below HB1.out (Nat.le_refl _)) (HP.out.below HB1.out (Nat.le_refl _)) (HL.out.below HB1.out (Nat.le_refl _)) HK.out hlen).mono ?_
  rintro e w2 ⟨v2, rfl, ho2, hb2⟩
  obtain ⟨a2, c2, rfl⟩ := own_form2 ho2
  have hs1 := hb2.size
  have HX22 := Lib.hid ((HX21.out.stays hb2).alloc (.cells #[.int .i64 (nextMv R p l).src, .int .i64 (nextMv R p l).dst, .int .i64 (nextMv R p l).piece] 42))
  have HZ1 := Lib.hid HX21.out.lt
  have HB2 := Lib.hid ((below_trans HB1.out hb2 HB1.out.size).alloc (below_trans HB1.out hb2 HB1.out.size).size (.cells #[.int .i64 (nextMv R p l).src, .int .i64 (nextMv R p l).dst, .int .i64 (nextMv R p l).piece] 42))
  have HO2 := Lib.hid (ho2.alloc (.cells #[.int .i64 (nextMv R p l).src, .int .i64 (nextMv R p l).dst, .int .i64 (nextMv R p l).piece] 42))
  have HXn := Lib.hid (Box.new w2 [.int .i64 (nextMv R p l).src, .int .i64 (nextMv R p l).dst, .int .i64 (nextMv R p l).piece] 42)
  clear hb2 ho2
  go_upto_region 5 with (fail)
  generalize (w2.alloc (.cells #[.int .i64 (nextMv R p l).src, .int .i64 (nextMv R p l).dst, .int .i64 (nextMv R p l).piece] 42)) = w3 at *
  refine wp_region_lit ?_
  refine wpList_load_box (by rfl) 42 (.tmp 11) (by rfl) w2.heap.size (by rfl) HXn.out Try.underlying42 (by rfl) (by kernel_rfl) ?_
  go_wp2_with (refine wpList_store_box (vs := [.int .i64 (nextMv R p l).src, .int .i64 (nextMv R p l).dst, .int .i64 (nextMv R p l).piece]) (by rfl) 42 (.tmp 6) (.tmp 30) (by rfl) (w.heap.size + 1 + 1) (by rfl) (by rfl) HX22.out rfl (by kernel_rfl) (by rfl) ?_)
  exact bodyPost_ret (results_c3 rfl (by rfl) (by rfl) (by rfl) (by rfl) (HX22.out.store rfl) Try.underlying42 (by rfl) (by kernel_rfl)) rfl (.inr ⟨HNE.out, _, rfl, own_base (own_setCells HO2.out HZ1.out 0 _) HB1.out.size, below_setCells HB2.out (by omega) 0 _⟩)
theorem drop_any (n : Int) (w : World) : Calls Try.prog 70 #[.int .i64 n] w fun e w' => e = .returned (.agg #[.int .i64 (-1), .int .i64 n, .int .i64 0]) ∧ Below w.heap.size w w' := by
  go_enter Try.func70, Try.ntmps70
  go_wp2
  exact bodyPost_ret (v := .agg #[.int .i64 (-1), .int .i64 n, .int .i64 0]) (by simp [results, Try.results70, go_sem]) rfl ⟨rfl, by go_grown⟩
theorem sameLine_any (v u : Value) (xs ys : List MoveZ) (w : World) (h : RdL moveEl w v xs) (h' : RdL moveEl w u ys) (hl : xs.length ≤ 1000000) :
    Calls Try.prog 40 #[v, u] w fun e w' => e = .returned (.bool (decide (xs = ys))) ∧ Below w.heap.size w w' := by
  have HR := Lib.hid h
  have HQ := Lib.hid h'
  obtain ⟨a, c, rfl, h1, h2⟩ := h.form
  obtain ⟨a', c', rfl, h1', h2'⟩ := h'.form
  unfold maxLen at h2 h2'
  clear h h'
  have hneq := neqM
  by_cases hle : xs.length = ys.length
  rotate_left
  · have HE : Hid (decide (xs = ys) = false) := Lib.hid (by simp; intro e; exact hle (by rw [e]))
    have hle' : ((xs.length : Int) != (ys.length : Int)) = true := by simp only [bne_iff_ne, ne_eq]; omega
    clear hle
    go_enter Try.func40, Try.ntmps40
    go_wp2_with fail
    go_ret
    exact ⟨by rw [HE.out]; rfl, Below.refl _ _⟩
  have hle' : ((xs.length : Int) != (ys.length : Int)) = false := by simp only [bne_eq_false_iff_eq]; omega
  have HLE := Lib.hid hle
  clear hle
  go_enter Try.func40, Try.ntmps40
  go_wp2_with fail
  go_loopw [5, 13] (fun vj vi wr => ∃ k : Nat, k ≤ xs.length ∧ vi = .int .i64 k ∧ Hid (xs.take k = ys.take k) ∧ Hid (Below w.heap.size w wr)) (fun _ i _ => xs.length - (intOf i).toNat)
  case atStart => exact ⟨0, Nat.zero_le _, rfl, Lib.hid rfl, Lib.hid (Below.refl _ _)⟩
  case round =>
    obtain ⟨k, hk, rfl, HT, HB⟩ := hrel
    by_cases hlt : k < xs.length
    · have hlt2 : k < ys.length := by have := HLE.out; omega
      obtain ⟨g, o, rfl, hg, hcc⟩ := moves_some (HR.out.below HB.out (Nat.le_refl _)) (by omega)
      obtain ⟨g', o', rfl, hg', hcc'⟩ := moves_some (HQ.out.below HB.out (Nat.le_refl _)) (by omega)
      obtain ⟨c0, c1, c2⟩ := hcc k hlt
      obtain ⟨d0, d1, d2⟩ := hcc' k hlt2
      have HS : Hid (xs.take (k + 1) = xs.take k ++ [xs.getD k default]) := Lib.hid (by rw [List.take_succ_eq_append_getElem hlt, List.getD_eq_getElem?_getD, List.getElem?_eq_getElem hlt]; rfl)
      have HS' : Hid (ys.take (k + 1) = ys.take k ++ [ys.getD k default]) := Lib.hid (by rw [List.take_succ_eq_append_getElem hlt2, List.getD_eq_getElem?_getD, List.getElem?_eq_getElem hlt2]; rfl)
      have HGd : Hid (xs = ys → xs.getD k default = ys.getD k default) := Lib.hid (fun e => by rw [e])
      clear hcc hcc'
      generalize xs.getD k default = x at *
      generalize ys.getD k default = y at *
      by_cases he : x = y
      · subst he
        go_wp2_with fail
        go_quiet (fail)
        go_wp2_with fail
        go_roundw
        case rel => exact ⟨k + 1, by omega, by go_num, Lib.hid (by rw [HS.out, HS'.out, HT.out]), Lib.hid (below_drewN HB.out _)⟩
        case measure => simp [intOf]; omega
      · have hd : decide (x = y) = false := by simpa using he
        have HE : Hid (decide (xs = ys) = false) := Lib.hid (by simp; exact fun e => he (HGd.out e))
        clear he
        go_wp2_with fail
        go_quiet (fail)
        go_wp2_with fail
        go_ret
        exact ⟨by rw [HE.out]; rfl, below_drewN HB.out _⟩
    · obtain rfl : k = xs.length := by omega
      have HE : Hid (decide (xs = ys) = true) := Lib.hid (by
        have := HT.out
        rw [List.take_of_length_le (Nat.le_refl _), List.take_of_length_le (by have := HLE.out; omega)] at this
        simpa using this)
      go_wp2_with fail
      go_ret
      exact ⟨by rw [HE.out]; rfl, HB.out⟩
theorem tic_pos : posErr ticZ (beginZ ticZ) = 0 := by decide +kernel
theorem tic_put : (⟨-1, 3, 0⟩ : MoveZ) ∈ movesZ ticZ (beginZ ticZ) := by
  have h : (⟨-1, 3, 0⟩ : MoveZ) ∈ listZ ticZ (beginZ ticZ) := list_mem.2 (by decide +kernel)
  have hl : 0 < (listZ ticZ (beginZ ticZ)).length := List.length_pos_of_mem h
  have hr : resultZ ticZ (beginZ ticZ) = 0 := by
    unfold resultZ
    rw [if_neg (by decide +kernel), if_neg (by decide +kernel), if_pos hl]
  unfold movesZ
  rw [if_pos hr]
  exact h
theorem tic_next : nextOk ticZ (beginZ ticZ) [⟨0, ⟨-1, 3, 0⟩⟩] = true ∧ nextMv ticZ (beginZ ticZ) [⟨0, ⟨-1, 3, 0⟩⟩] = ⟨-1, 3, 0⟩ ∧ nextRest ticZ (beginZ ticZ) [⟨0, ⟨-1, 3, 0⟩⟩] = [] := by
  have h1 : nextIx (beginZ ticZ) [⟨0, ⟨-1, 3, 0⟩⟩] = 0 := by decide +kernel
  have h2 : nextOk ticZ (beginZ ticZ) [⟨0, ⟨-1, 3, 0⟩⟩] = true := by
    unfold nextOk
    rw [h1]
    simp [tic_put]
  refine ⟨h2, ?_, ?_⟩
  · unfold nextMv; rw [if_pos h2, h1]; rfl
  · unfold nextRest; rw [if_pos h2, h1]; rfl
theorem tic_pcheck : pcheckErr ticZ (beginZ ticZ) [⟨0, ⟨-1, 3, 0⟩⟩] = 0 := by decide +kernel

theorem rd_prem1 {w w' : World} (h : w' = w.alloc (.cells #[.int .i64 0, .int .i64 (-1), .int .i64 3, .int .i64 0] 121)) : RdL premEl w' (.slice (some ⟨w.heap.size, 0, none⟩) 1 1) [⟨0, ⟨-1, 3, 0⟩⟩] := by
  subst h
  refine .inr ⟨w.heap.size, 0, 1, rfl, Nat.le_refl _, by unfold maxLen; decide, by simp, fun i hi => ?_⟩
  obtain rfl : i = 0 := by simp at hi; exact hi
  refine ⟨[.int .i64 0, .int .i64 (-1), .int .i64 3, .int .i64 0], rfl, fun j hj => ?_⟩
  have hb := Box.new w [.int .i64 0, .int .i64 (-1), .int .i64 3, .int .i64 0] 121
  simp only [premEl] at hj
  rcases j with _ | _ | _ | _ | j
  · exact hb.cell 0 rfl
  · exact hb.cell 1 rfl
  · exact hb.cell 2 rfl
  · exact hb.cell 3 rfl
  · omega
set_option maxRecDepth 100000 in
set_option maxHeartbeats 8000000 in
theorem announces_any (HS : SortMvSaid) (w : World) : Calls Try.prog 36 #[] w fun e w' => e = .returned (.bool true) ∧ Below w.heap.size w w' := by
  have HSh := Lib.hid HS
  have heqm := eqlM ⟨-1, 3, 0⟩ ⟨-1, 3, 0⟩
  clear HS
  go_enter Try.func36, Try.ntmps36
  go_wp2_with fail
  refine (tic_any _).mono ?_
  rintro e w0 ⟨vp, vs, ve, rfl, hr0, hb0⟩
  have HR0 := Lib.hid hr0
  have HB0 := Lib.hid hb0
  clear hr0 hb0
  unfold rulesV
  go_wp2_with fail
  refine (Begin_any ticZ vp vs ve _ HR0.out (by unfold maxLen; decide)).mono ?_
  rintro e w1 (⟨hbad, -⟩ | ⟨-, vc, v0, v1, rfl, hp1, hb1⟩)
  · exact absurd tic_rules hbad
  have HP1 := Lib.hid hp1
  have HB1 := Lib.hid (below_trans HB0.out hb1 HB0.out.size)
  clear hp1 hb1
  obtain ⟨ac, cc, rfl, _, _⟩ := HP1.out.1.form
  obtain ⟨a0, c0, rfl, _, _⟩ := HP1.out.2.1.form
  obtain ⟨a1, c1, rfl, _, _⟩ := HP1.out.2.2.form
  simp only [posV, show (beginZ ticZ).turn = 0 from rfl, show (beginZ ticZ).quiet = 0 from rfl]
  go_wp2_with fail
  have hbx := Box.new w1 [.slice ac (beginZ ticZ).cells.length cc, .slice a0 (beginZ ticZ).h0.length c0, .slice a1 (beginZ ticZ).h1.length c1, .int .i64 0, .int .i64 0] 37
  have hbl := HB1.out.alloc HB1.out.size (.cells #[.slice ac (beginZ ticZ).cells.length cc, .slice a0 (beginZ ticZ).h0.length c0, .slice a1 (beginZ ticZ).h1.length c1, .int .i64 0, .int .i64 0] 37)
  have hpp := HP1.out.alloc (.cells #[.slice ac (beginZ ticZ).cells.length cc, .slice a0 (beginZ ticZ).h0.length c0, .slice a1 (beginZ ticZ).h1.length c1, .int .i64 0, .int .i64 0] 37)
  have M0z : w.heap.size ≤ (w1.alloc (.cells #[.slice ac (beginZ ticZ).cells.length cc, .slice a0 (beginZ ticZ).h0.length c0, .slice a1 (beginZ ticZ).h1.length c1, .int .i64 0, .int .i64 0] 37)).drew.heap.size := hbl.size
  generalize (w1.alloc (.cells #[.slice ac (beginZ ticZ).cells.length cc, .slice a0 (beginZ ticZ).h0.length c0, .slice a1 (beginZ ticZ).h1.length c1, .int .i64 0, .int .i64 0] 37)) = w2 at *
  have Bxz : Box w2.drew w1.heap.size [.slice ac (beginZ ticZ).cells.length cc, .slice a0 (beginZ ticZ).h0.length c0, .slice a1 (beginZ ticZ).h1.length c1, .int .i64 0, .int .i64 0] 37 := hbx
  have Lz : Below w.heap.size w w2.drew := below_drew' hbl
  have Pz : RdP w2.drew (beginZ ticZ) (.slice ac (beginZ ticZ).cells.length cc) (.slice a0 (beginZ ticZ).h0.length c0) (.slice a1 (beginZ ticZ).h1.length c1) := hpp.below (below_drew' (Below.refl _ _)) (Nat.le_refl _)
  clear hbx hbl hpp
  refine wp_region_noPanic ?_
  refine beginL (S := (fun w' => w'.cell? ⟨w1.heap.size, 0, none⟩ = some (.slice ac (beginZ ticZ).cells.length cc) ∧ w'.cell? ⟨w1.heap.size, 1, none⟩ = some (.slice a0 (beginZ ticZ).h0.length c0) ∧ w'.cell? ⟨w1.heap.size, 2, none⟩ = some (.slice a1 (beginZ ticZ).h1.length c1) ∧ w'.cell? ⟨w1.heap.size, 3, none⟩ = some (.int .i64 0) ∧ w'.cell? ⟨w1.heap.size, 4, none⟩ = some (.int .i64 0))) (L := [12]) (by kernel_rfl) ⟨Bxz.cell 0 rfl, Bxz.cell 1 rfl, Bxz.cell 2 rfl, Bxz.cell 3 rfl, Bxz.cell 4 rfl⟩ (fun hHeld => ?_)
  refine takeL (i := 1) (oi := { dst := some 14, op := Op.load 37 (Operand.tmp 1), type := 37, pos := "play.go:100", after := #[], guard := none }) (v := ?va1) rfl (by kernel_rfl) (by kernel_rfl) (by kernel_rfl) (by kernel_rfl) rfl (by kernel_rfl) (by kernel_rfl) (fun _ _ _ h => h) (Or.inl ⟨by rfl, ?ya1⟩) (by assumption) ?ra1
  case ya1 => (intro w hSw; (try dsimp only at hSw); go_simp; first | done | (with_reducible rfl))
  try simp only [Act.put, List.setIfInBounds_toArray, List.set_cons_zero, List.set_cons_succ]
  refine readyL (rs := [0, 11]) (by kernel_rfl) (by simp) ?_
  refine (AllReadyL.cons (o := { dst := some 13, op := Op.call { callee := Callee.value (Operand.func 69), args := #[], argTypes := #[] }, type := 26, pos := "play.go:100", after := #[], guard := none }) rfl (fun K hK => ?_) (AllReadyL.cons (o := { dst := some 3, op := Op.alloc 42, type := 0, pos := "play.go:100", after := #[], guard := none }) rfl (fun K hK => ?_) AllReadyL.nil))
  · skip
    go_simp
    refine (tic_any _).mono ?_
    rintro e wa0 ⟨vp0, vs0, ve0, rfl, hr0, hb0⟩
    have Bx0 := Bxz.stays hb0
    have L0 := below_trans Lz hb0 Lz.size
    have P0 := Pz.below hb0 (Nat.le_refl _)
    have T0 := hr0
    clear hb0 hr0
    refine hK.out _ _ ⟨Bx0.cell 0 rfl, Bx0.cell 1 rfl, Bx0.cell 2 rfl, Bx0.cell 3 rfl, Bx0.cell 4 rfl⟩ (fun hHeld => ?_)
    clear hK K
    try simp only [Act.put, List.setIfInBounds_toArray, List.set_cons_zero, List.set_cons_succ]
    refine readyL (rs := [2, 11]) (by kernel_rfl) (by simp) ?_
    refine (AllReadyL.cons (o := { dst := some 15, op := Op.call { callee := Callee.value (Operand.func 70), args := #[Operand.const (Value.int IntKind.i64 3)], argTypes := #[3] }, type := 42, pos := "play.go:100", after := #[{ on := 0, ground := Ground.chain }], guard := none }) rfl (fun K hK => ?_) (AllReadyL.cons (o := { dst := some 3, op := Op.alloc 42, type := 0, pos := "play.go:100", after := #[], guard := none }) rfl (fun K hK => ?_) AllReadyL.nil))
    · skip
      go_simp
      refine (drop_any _ _).mono ?_
      rintro e wa2 ⟨rfl, hb2⟩
      have Bx2 := Bx0.stays hb2
      have L2 := below_trans L0 hb2 L0.size
      have P2 := P0.below hb2 (Nat.le_refl _)
      have T2 := T0.below hb2 (Nat.le_refl _)
      clear hb2
      refine hK.out _ _ ⟨Bx2.cell 0 rfl, Bx2.cell 1 rfl, Bx2.cell 2 rfl, Bx2.cell 3 rfl, Bx2.cell 4 rfl⟩ (fun hHeld => ?_)
      clear hK K
      try simp only [Act.put, List.setIfInBounds_toArray, List.set_cons_zero, List.set_cons_succ]
      refine takeW (i := 3) (oi := { dst := some 16, op := Op.build 121 #[(0, Operand.const (Value.int IntKind.i64 0)), (1, Operand.tmp 15)], type := 121, pos := "play.go:100", after := #[{ on := 2, ground := Ground.data }], guard := none }) (v := ?va2) rfl (by kernel_rfl) (by kernel_rfl) (by kernel_rfl) rfl (fun _ _ _ h => h) (Or.inl ⟨by rfl, ?ya2⟩) (fun _ => by assumption) ?ra2
      case ya2 => (intro w _; go_simp; first | done | (with_reducible rfl))
      try simp only [Act.put, List.setIfInBounds_toArray, List.set_cons_zero, List.set_cons_succ]
      refine readyL (rs := [4, 11]) (by kernel_rfl) (by simp) ?_
      refine (AllReadyL.cons (o := { dst := some 17, op := Op.buildSlice 62 1 #[(0, Operand.tmp 16)], type := 62, pos := "play.go:100", after := #[{ on := 3, ground := Ground.data }], guard := none }) rfl (fun K hK => ?_) (AllReadyL.cons (o := { dst := some 3, op := Op.alloc 42, type := 0, pos := "play.go:100", after := #[], guard := none }) rfl (fun K hK => ?_) AllReadyL.nil))
      · skip
        go_simp
        refine K_world ?_
        intro wa4 e4
        have hb4 : Below wa2.heap.size wa2 wa4 := by rw [e4]; exact (Below.refl _ _).alloc (Nat.le_refl _) _
        have X4 : RdL premEl wa4 (.slice (some ⟨wa2.heap.size, 0, none⟩) 1 1) [⟨0, ⟨-1, 3, 0⟩⟩] := rd_prem1 e4
        have Bx4 := Bx2.stays hb4
        have L4 := below_trans L2 hb4 L2.size
        have P4 := P2.below hb4 (Nat.le_refl _)
        have T4 := T2.below hb4 (Nat.le_refl _)
        clear hb4 e4
        refine hK.out _ _ ⟨Bx4.cell 0 rfl, Bx4.cell 1 rfl, Bx4.cell 2 rfl, Bx4.cell 3 rfl, Bx4.cell 4 rfl⟩ (fun hHeld => ?_)
        clear hK K
        try simp only [Act.put, List.setIfInBounds_toArray, List.set_cons_zero, List.set_cons_succ]
        refine readyL (rs := [5, 11]) (by kernel_rfl) (by simp) ?_
        refine (AllReadyL.cons (o := { dst := some 18, op := Op.call { callee := Callee.value (Operand.func 76), args := #[Operand.tmp 13, Operand.tmp 14, Operand.tmp 17], argTypes := #[26, 37, 62] }, type := 118, pos := "play.go:100", after := #[{ on := 0, ground := Ground.data }, { on := 1, ground := Ground.data }, { on := 4, ground := Ground.data }, { on := 2, ground := Ground.chain }], guard := none }) rfl (fun K hK => ?_) (AllReadyL.cons (o := { dst := some 3, op := Op.alloc 42, type := 0, pos := "play.go:100", after := #[], guard := none }) rfl (fun K hK => ?_) AllReadyL.nil))
        · skip
          go_simp
          refine (Next_any HSh.out ticZ vp0 vs0 ve0 (beginZ ticZ) _ _ _ _ [⟨0, ⟨-1, 3, 0⟩⟩] _ T4 (by unfold maxLen; decide) P4 X4 (by decide)).mono ?_
          rintro e wa5 (⟨hbad, -⟩ | ⟨-, v5, he5, ho5, hb5⟩)
          · exact absurd tic_pcheck hbad
          rw [tic_next.1, tic_next.2.1] at he5
          rw [tic_next.2.2] at ho5
          subst he5
          obtain ⟨a5, c5, rfl⟩ := own_form2 ho5
          have Bx5 := Bx4.stays hb5
          have L5 := below_trans L4 hb5 L4.size
          have P5 := P4.below hb5 (Nat.le_refl _)
          have T5 := T4.below hb5 (Nat.le_refl _)
          have X5 := X4.below hb5 (Nat.le_refl _)
          have O5 := ho5
          clear hb5 ho5
          refine hK.out _ _ ⟨Bx5.cell 0 rfl, Bx5.cell 1 rfl, Bx5.cell 2 rfl, Bx5.cell 3 rfl, Bx5.cell 4 rfl⟩ (fun hHeld => ?_)
          clear hK K
          try simp only [Act.put, List.setIfInBounds_toArray, List.set_cons_zero, List.set_cons_succ]
          refine takeW (i := 6) (oi := { dst := some 12, op := Op.move (Operand.tmp 18), type := 118, pos := "play.go:100", after := #[{ on := 5, ground := Ground.data }], guard := none }) (v := ?va3) rfl (by kernel_rfl) (by kernel_rfl) (by kernel_rfl) rfl (fun _ _ _ h => h) (Or.inl ⟨by rfl, ?ya3⟩) (fun _ => by assumption) ?ra3
          case ya3 => (intro w _; go_simp; first | done | (with_reducible rfl))
          try simp only [Act.put, List.setIfInBounds_toArray, List.set_cons_zero, List.set_cons_succ]
          refine takeW (i := 7) (oi := { dst := some 19, op := Op.extract (Operand.tmp 12) 0, type := 42, pos := "play.go:100", after := #[{ on := 6, ground := Ground.data }], guard := none }) (v := ?va4) rfl (by kernel_rfl) (by kernel_rfl) (by kernel_rfl) rfl (fun _ _ _ h => h) (Or.inl ⟨by rfl, ?ya4⟩) (fun _ => by assumption) ?ra4
          case ya4 => (intro w _; go_simp; first | done | (with_reducible rfl))
          try simp only [Act.put, List.setIfInBounds_toArray, List.set_cons_zero, List.set_cons_succ]
          refine takeW (i := 8) (oi := { dst := some 20, op := Op.extract (Operand.tmp 12) 1, type := 4, pos := "play.go:100", after := #[{ on := 6, ground := Ground.data }, { on := 12, ground := Ground.gcOnly Departure.lateStores }], guard := none }) (v := ?va5) rfl (by kernel_rfl) (by kernel_rfl) (by kernel_rfl) rfl (fun _ _ _ h => h) (Or.inl ⟨by rfl, ?ya5⟩) (fun _ => by assumption) ?ra5
          case ya5 => (intro w _; go_simp; first | done | (with_reducible rfl))
          try simp only [Act.put, List.setIfInBounds_toArray, List.set_cons_zero, List.set_cons_succ]
          refine takeW (i := 9) (oi := { dst := some 21, op := Op.extract (Operand.tmp 12) 2, type := 62, pos := "play.go:100", after := #[{ on := 6, ground := Ground.data }, { on := 13, ground := Ground.gcOnly Departure.lateStores }], guard := none }) (v := ?va6) rfl (by kernel_rfl) (by kernel_rfl) (by kernel_rfl) rfl (fun _ _ _ h => h) (Or.inl ⟨by rfl, ?ya6⟩) (fun _ => by assumption) ?ra6
          case ya6 => (intro w _; go_simp; first | done | (with_reducible rfl))
          try simp only [Act.put, List.setIfInBounds_toArray, List.set_cons_zero, List.set_cons_succ]
          refine takeW (i := 10) (oi := { dst := some 22, op := Op.extract (Operand.tmp 12) 3, type := 29, pos := "play.go:100", after := #[{ on := 6, ground := Ground.data }, { on := 14, ground := Ground.gcOnly Departure.lateStores }], guard := none }) (v := ?va7) rfl (by kernel_rfl) (by kernel_rfl) (by kernel_rfl) rfl (fun _ _ _ h => h) (Or.inl ⟨by rfl, ?ya7⟩) (fun _ => by assumption) ?ra7
          case ya7 => (intro w _; go_simp; first | done | (with_reducible rfl))
          try simp only [Act.put, List.setIfInBounds_toArray, List.set_cons_zero, List.set_cons_succ]
          refine readyL (rs := [11]) (by kernel_rfl) (by simp) ?_
          refine (AllReadyL.cons (o := { dst := some 3, op := Op.alloc 42, type := 0, pos := "play.go:100", after := #[], guard := none }) rfl (fun K hK => ?_) AllReadyL.nil)
          go_simp
          refine K_world ?_
          intro wa11 e11
          have hb11 : Below wa5.heap.size wa5 wa11 := by rw [e11]; exact (Below.refl _ _).alloc (Nat.le_refl _) _
          have M11 : Box wa11 wa5.heap.size [.int .i64 0, .int .i64 0, .int .i64 0] 42 := by rw [e11]; exact Box.new' _ _ _ _ rfl
          have Z11 : w.heap.size ≤ wa5.heap.size := L5.size
          have Bx11 := Bx5.stays hb11
          have L11 := below_trans L5 hb11 L5.size
          have P11 := P5.below hb11 (Nat.le_refl _)
          have T11 := T5.below hb11 (Nat.le_refl _)
          have X11 := X5.below hb11 (Nat.le_refl _)
          have O11 := own_stays O5 hb11
          clear hb11 e11
          refine hK.out _ _ ⟨Bx11.cell 0 rfl, Bx11.cell 1 rfl, Bx11.cell 2 rfl, Bx11.cell 3 rfl, Bx11.cell 4 rfl⟩ (fun hHeld => ?_)
          clear hK K
          try simp only [Act.put, List.setIfInBounds_toArray, List.set_cons_zero, List.set_cons_succ]
          refine readyL (rs := [12]) (by kernel_rfl) (by simp) ?_
          refine (AllReadyL.late (o := { dst := none, op := Op.store 42 (Operand.tmp 3) (Operand.tmp 19), type := 0, pos := "play.go:100", after := #[{ on := 11, ground := Ground.data }, { on := 7, ground := Ground.data }, { on := 5, ground := Ground.chain }, { on := 0, ground := Ground.phase }, { on := 1, ground := Ground.phase }, { on := 2, ground := Ground.phase }, { on := 3, ground := Ground.phase }, { on := 4, ground := Ground.phase }, { on := 5, ground := Ground.phase }, { on := 6, ground := Ground.phase }, { on := 7, ground := Ground.phase }, { on := 8, ground := Ground.textOnly Departure.lateStores }, { on := 9, ground := Ground.textOnly Departure.lateStores }, { on := 10, ground := Ground.textOnly Departure.lateStores }, { on := 11, ground := Ground.phase }], guard := none }) rfl (by kernel_rfl) (fun K hK => ?_) AllReadyL.nil)
          have d0 := M11.cell 0 rfl
          have d1 := M11.cell 1 rfl
          have d2 := M11.cell 2 rfl
          have d0f := M11.frozen 0
          have d1f := M11.frozen 1
          have d2f := M11.frozen 2
          go_simp
          refine K_world ?_
          intro wa12 e12
          have E12 : wa12 = wa11.setCells wa5.heap.size 0 [.int .i64 (-1), .int .i64 3, .int .i64 0] := e12
          have M12 : Box wa12 wa5.heap.size [.int .i64 (-1), .int .i64 3, .int .i64 0] 42 := by rw [E12]; exact M11.store rfl
          have L12 : Below w.heap.size w wa12 := by rw [E12]; exact below_setCells L11 Z11 0 _
          clear e12 E12 d0 d1 d2 d0f d1f d2f
          refine hK.out _ _ ?_
          clear hK K
          try simp only [Act.put, List.setIfInBounds_toArray, List.set_cons_zero, List.set_cons_succ]
          refine takeW (i := 13) (oi := { dst := some 4, op := Op.assign (Operand.tmp 20), type := 4, pos := "play.go:100", after := #[{ on := 8, ground := Ground.data }, { on := 12, ground := Ground.chain }, { on := 0, ground := Ground.phase }, { on := 1, ground := Ground.phase }, { on := 2, ground := Ground.phase }, { on := 3, ground := Ground.phase }, { on := 4, ground := Ground.phase }, { on := 5, ground := Ground.phase }, { on := 6, ground := Ground.phase }, { on := 7, ground := Ground.phase }, { on := 8, ground := Ground.phase }, { on := 9, ground := Ground.textOnly Departure.lateStores }, { on := 10, ground := Ground.textOnly Departure.lateStores }, { on := 11, ground := Ground.phase }, { on := 12, ground := Ground.phase }], guard := none }) (v := ?va8) rfl (by kernel_rfl) (by kernel_rfl) (by kernel_rfl) rfl (fun _ _ _ h => h) (Or.inl ⟨by rfl, ?ya8⟩) (fun he => by cases he) ?ra8
          case ya8 => (intro w _; go_simp; first | done | (with_reducible rfl))
          try simp only [Act.put, List.setIfInBounds_toArray, List.set_cons_zero, List.set_cons_succ]
          refine takeW (i := 14) (oi := { dst := some 5, op := Op.assign (Operand.tmp 21), type := 62, pos := "play.go:100", after := #[{ on := 9, ground := Ground.data }, { on := 13, ground := Ground.chain }, { on := 0, ground := Ground.phase }, { on := 1, ground := Ground.phase }, { on := 2, ground := Ground.phase }, { on := 3, ground := Ground.phase }, { on := 4, ground := Ground.phase }, { on := 5, ground := Ground.phase }, { on := 6, ground := Ground.phase }, { on := 7, ground := Ground.phase }, { on := 8, ground := Ground.phase }, { on := 9, ground := Ground.phase }, { on := 10, ground := Ground.textOnly Departure.lateStores }, { on := 11, ground := Ground.phase }, { on := 12, ground := Ground.phase }, { on := 13, ground := Ground.phase }], guard := none }) (v := ?va9) rfl (by kernel_rfl) (by kernel_rfl) (by kernel_rfl) rfl (fun _ _ _ h => h) (Or.inl ⟨by rfl, ?ya9⟩) (fun he => by cases he) ?ra9
          case ya9 => (intro w _; go_simp; first | done | (with_reducible rfl))
          try simp only [Act.put, List.setIfInBounds_toArray, List.set_cons_zero, List.set_cons_succ]
          refine takeW (i := 15) (oi := { dst := some 6, op := Op.assign (Operand.tmp 22), type := 29, pos := "play.go:100", after := #[{ on := 10, ground := Ground.data }, { on := 14, ground := Ground.chain }, { on := 0, ground := Ground.phase }, { on := 1, ground := Ground.phase }, { on := 2, ground := Ground.phase }, { on := 3, ground := Ground.phase }, { on := 4, ground := Ground.phase }, { on := 5, ground := Ground.phase }, { on := 6, ground := Ground.phase }, { on := 7, ground := Ground.phase }, { on := 8, ground := Ground.phase }, { on := 9, ground := Ground.phase }, { on := 10, ground := Ground.phase }, { on := 11, ground := Ground.phase }, { on := 12, ground := Ground.phase }, { on := 13, ground := Ground.phase }, { on := 14, ground := Ground.phase }], guard := none }) (v := ?va10) rfl (by kernel_rfl) (by kernel_rfl) (by kernel_rfl) rfl (fun _ _ _ h => h) (Or.inl ⟨by rfl, ?ya10⟩) (fun he => by cases he) ?ra10
          case ya10 => (intro w _; go_simp; first | done | (with_reducible rfl))
          try simp only [Act.put, List.setIfInBounds_toArray, List.set_cons_zero, List.set_cons_succ]
          refine doneL (by kernel_rfl) ?_ _
          refine NoPanic.normal ?_
          have HX12 := Lib.hid M12
          have HL12 := Lib.hid L12
          have hkk := True.intro
          clear M12 L12
          go_upto_region 3 with (fail)
          have M14 : Box wa12.drew wa5.heap.size [.int .i64 (-1), .int .i64 3, .int .i64 0] 42 := HX12.out
          have L14 : Below w.heap.size w wa12.drew := below_drew' HL12.out
          clear HX12 HL12
          refine wp_region_noPanic ?_
          refine beginL (S := (fun w' => w'.cell? ⟨wa5.heap.size, 0, none⟩ = some (.int .i64 (-1)) ∧ w'.cell? ⟨wa5.heap.size, 1, none⟩ = some (.int .i64 3) ∧ w'.cell? ⟨wa5.heap.size, 2, none⟩ = some (.int .i64 0))) (L := []) (by kernel_rfl) ⟨M14.cell 0 rfl, M14.cell 1 rfl, M14.cell 2 rfl⟩ (fun hHeld => ?_)
          refine takeW (i := 0) (oi := { dst := some 23, op := Op.move (Operand.tmp 2), type := 29, pos := "play.go:101", after := #[], guard := none }) (v := ?va61) rfl (by kernel_rfl) (by kernel_rfl) (by kernel_rfl) rfl (fun _ _ _ h => h) (Or.inl ⟨by rfl, ?ya61⟩) (fun _ => by assumption) ?ra61
          case ya61 => (intro w _; go_simp; first | done | (with_reducible rfl))
          try simp only [Act.put, List.setIfInBounds_toArray, List.set_cons_zero, List.set_cons_succ]
          refine takeW (i := 1) (oi := { dst := some 24, op := Op.binOp BinOp.eql 29 (Operand.tmp 23) (Operand.const (Value.int IntKind.i64 0)) 29, type := 4, pos := "play.go:101", after := #[{ on := 0, ground := Ground.data }], guard := none }) (v := ?va62) rfl (by kernel_rfl) (by kernel_rfl) (by kernel_rfl) rfl (fun _ _ _ h => h) (Or.inl ⟨by rfl, ?ya62⟩) (fun _ => by assumption) ?ra62
          case ya62 => (intro w _; go_simp; first | done | (with_reducible rfl))
          try simp only [Act.put, List.setIfInBounds_toArray, List.set_cons_zero, List.set_cons_succ]
          refine takeW (i := 2) (oi := { dst := some 25, op := Op.move (Operand.tmp 24), type := 4, pos := "play.go:101", after := #[{ on := 1, ground := Ground.data }], guard := none }) (v := ?va63) rfl (by kernel_rfl) (by kernel_rfl) (by kernel_rfl) rfl (fun _ _ _ h => h) (Or.inl ⟨by rfl, ?ya63⟩) (fun _ => by assumption) ?ra63
          case ya63 => (intro w _; go_simp; first | done | (with_reducible rfl))
          try simp only [Act.put, List.setIfInBounds_toArray, List.set_cons_zero, List.set_cons_succ]
          refine takeW (i := 3) (oi := { dst := some 26, op := Op.move (Operand.tmp 6), type := 29, pos := "play.go:101", after := #[{ on := 2, ground := Ground.guard }], guard := some (2, true) }) (v := ?va64) rfl (by kernel_rfl) (by kernel_rfl) (by kernel_rfl) rfl (fun _ _ _ h => h) (Or.inl ⟨by rfl, ?ya64⟩) (fun _ => by assumption) ?ra64
          case ya64 => (intro w _; go_simp; first | done | (with_reducible rfl))
          try simp only [Act.put, List.setIfInBounds_toArray, List.set_cons_zero, List.set_cons_succ]
          refine takeW (i := 4) (oi := { dst := some 27, op := Op.binOp BinOp.eql 29 (Operand.tmp 26) (Operand.const (Value.int IntKind.i64 0)) 29, type := 4, pos := "play.go:101", after := #[{ on := 3, ground := Ground.data }, { on := 2, ground := Ground.guard }], guard := some (2, true) }) (v := ?va65) rfl (by kernel_rfl) (by kernel_rfl) (by kernel_rfl) rfl (fun _ _ _ h => h) (Or.inl ⟨by rfl, ?ya65⟩) (fun _ => by assumption) ?ra65
          case ya65 => (intro w _; go_simp; first | done | (with_reducible rfl))
          try simp only [Act.put, List.setIfInBounds_toArray, List.set_cons_zero, List.set_cons_succ]
          refine takeW (i := 5) (oi := { dst := some 28, op := Op.pick (Operand.tmp 25) (Operand.tmp 27) (Operand.const (Value.bool false)), type := 4, pos := "play.go:101", after := #[{ on := 2, ground := Ground.data }, { on := 4, ground := Ground.data }], guard := none }) (v := ?va66) rfl (by kernel_rfl) (by kernel_rfl) (by kernel_rfl) rfl (fun _ _ _ h => h) (Or.inl ⟨by rfl, ?ya66⟩) (fun _ => by assumption) ?ra66
          case ya66 => (intro w _; go_simp; first | done | (with_reducible rfl))
          try simp only [Act.put, List.setIfInBounds_toArray, List.set_cons_zero, List.set_cons_succ]
          refine takeW (i := 6) (oi := { dst := some 29, op := Op.move (Operand.tmp 28), type := 4, pos := "play.go:101", after := #[{ on := 5, ground := Ground.data }, { on := 2, ground := Ground.chain }], guard := none }) (v := ?va67) rfl (by kernel_rfl) (by kernel_rfl) (by kernel_rfl) rfl (fun _ _ _ h => h) (Or.inl ⟨by rfl, ?ya67⟩) (fun _ => by assumption) ?ra67
          case ya67 => (intro w _; go_simp; first | done | (with_reducible rfl))
          try simp only [Act.put, List.setIfInBounds_toArray, List.set_cons_zero, List.set_cons_succ]
          refine takeW (i := 7) (oi := { dst := some 30, op := Op.move (Operand.tmp 4), type := 4, pos := "play.go:101", after := #[{ on := 6, ground := Ground.guard }], guard := some (6, true) }) (v := ?va68) rfl (by kernel_rfl) (by kernel_rfl) (by kernel_rfl) rfl (fun _ _ _ h => h) (Or.inl ⟨by rfl, ?ya68⟩) (fun _ => by assumption) ?ra68
          case ya68 => (intro w _; go_simp; first | done | (with_reducible rfl))
          try simp only [Act.put, List.setIfInBounds_toArray, List.set_cons_zero, List.set_cons_succ]
          refine takeW (i := 8) (oi := { dst := some 31, op := Op.pick (Operand.tmp 29) (Operand.tmp 30) (Operand.const (Value.bool false)), type := 4, pos := "play.go:101", after := #[{ on := 6, ground := Ground.data }, { on := 7, ground := Ground.data }], guard := none }) (v := ?va69) rfl (by kernel_rfl) (by kernel_rfl) (by kernel_rfl) rfl (fun _ _ _ h => h) (Or.inl ⟨by rfl, ?ya69⟩) (fun _ => by assumption) ?ra69
          case ya69 => (intro w _; go_simp; first | done | (with_reducible rfl))
          try simp only [Act.put, List.setIfInBounds_toArray, List.set_cons_zero, List.set_cons_succ]
          refine takeW (i := 9) (oi := { dst := some 32, op := Op.move (Operand.tmp 31), type := 4, pos := "play.go:101", after := #[{ on := 8, ground := Ground.data }, { on := 6, ground := Ground.chain }], guard := none }) (v := ?va70) rfl (by kernel_rfl) (by kernel_rfl) (by kernel_rfl) rfl (fun _ _ _ h => h) (Or.inl ⟨by rfl, ?ya70⟩) (fun _ => by assumption) ?ra70
          case ya70 => (intro w _; go_simp; first | done | (with_reducible rfl))
          try simp only [Act.put, List.setIfInBounds_toArray, List.set_cons_zero, List.set_cons_succ]
          refine takeL (i := 10) (oi := { dst := some 33, op := Op.load 42 (Operand.tmp 3), type := 42, pos := "play.go:101", after := #[{ on := 9, ground := Ground.guard }], guard := some (9, true) }) (v := ?va71) rfl (by kernel_rfl) (by kernel_rfl) (by kernel_rfl) (by kernel_rfl) rfl (by kernel_rfl) (by kernel_rfl) (fun _ _ _ h => h) (Or.inl ⟨by rfl, ?ya71⟩) (by assumption) ?ra71
          case ya71 => (intro w hSw; (try dsimp only at hSw); go_simp; first | done | (with_reducible rfl))
          try simp only [Act.put, List.setIfInBounds_toArray, List.set_cons_zero, List.set_cons_succ]
          refine readyL (rs := [11]) (by kernel_rfl) (by simp) ?_
          refine (AllReadyL.cons (o := { dst := some 34, op := Op.call { callee := Callee.value (Operand.func 70), args := #[Operand.const (Value.int IntKind.i64 3)], argTypes := #[3] }, type := 42, pos := "play.go:101", after := #[{ on := 9, ground := Ground.chain }, { on := 9, ground := Ground.guard }], guard := some (9, true) }) rfl (fun K hK => ?_) AllReadyL.nil)
          go_simp
          refine (drop_any _ _).mono ?_
          rintro e wd ⟨rfl, hbd⟩
          have M15 := M14.stays hbd
          have L15 := below_trans L14 hbd L14.size
          clear hbd
          refine hK.out _ _ ⟨M15.cell 0 rfl, M15.cell 1 rfl, M15.cell 2 rfl⟩ (fun hHeld => ?_)
          clear hK K
          try simp only [Act.put, List.setIfInBounds_toArray, List.set_cons_zero, List.set_cons_succ]
          refine takeW (i := 12) (oi := { dst := some 35, op := Op.binOp BinOp.eql 42 (Operand.tmp 33) (Operand.tmp 34) 42, type := 4, pos := "play.go:101", after := #[{ on := 10, ground := Ground.data }, { on := 11, ground := Ground.data }, { on := 9, ground := Ground.guard }], guard := some (9, true) }) (v := ?va72) rfl (by kernel_rfl) (by kernel_rfl) (by kernel_rfl) rfl (fun _ _ _ h => h) (Or.inl ⟨by rfl, ?ya72⟩) (fun _ => by assumption) ?ra72
          case ya72 => (intro w _; go_simp; first | done | (with_reducible rfl))
          try simp only [Act.put, List.setIfInBounds_toArray, List.set_cons_zero, List.set_cons_succ]
          refine takeW (i := 13) (oi := { dst := some 36, op := Op.pick (Operand.tmp 32) (Operand.tmp 35) (Operand.const (Value.bool false)), type := 4, pos := "play.go:101", after := #[{ on := 9, ground := Ground.data }, { on := 12, ground := Ground.data }], guard := none }) (v := ?va73) rfl (by kernel_rfl) (by kernel_rfl) (by kernel_rfl) rfl (fun _ _ _ h => h) (Or.inl ⟨by rfl, ?ya73⟩) (fun _ => by assumption) ?ra73
          case ya73 => (intro w _; go_simp; first | done | (with_reducible rfl))
          try simp only [Act.put, List.setIfInBounds_toArray, List.set_cons_zero, List.set_cons_succ]
          refine takeW (i := 14) (oi := { dst := some 37, op := Op.move (Operand.tmp 36), type := 4, pos := "play.go:101", after := #[{ on := 13, ground := Ground.data }, { on := 11, ground := Ground.chain }], guard := none }) (v := ?va74) rfl (by kernel_rfl) (by kernel_rfl) (by kernel_rfl) rfl (fun _ _ _ h => h) (Or.inl ⟨by rfl, ?ya74⟩) (fun _ => by assumption) ?ra74
          case ya74 => (intro w _; go_simp; first | done | (with_reducible rfl))
          try simp only [Act.put, List.setIfInBounds_toArray, List.set_cons_zero, List.set_cons_succ]
          refine takeW (i := 15) (oi := { dst := some 38, op := Op.move (Operand.tmp 5), type := 62, pos := "play.go:101", after := #[{ on := 14, ground := Ground.guard }], guard := some (14, true) }) (v := ?va75) rfl (by kernel_rfl) (by kernel_rfl) (by kernel_rfl) rfl (fun _ _ _ h => h) (Or.inl ⟨by rfl, ?ya75⟩) (fun _ => by assumption) ?ra75
          case ya75 => (intro w _; go_simp; first | done | (with_reducible rfl))
          try simp only [Act.put, List.setIfInBounds_toArray, List.set_cons_zero, List.set_cons_succ]
          refine takeW (i := 16) (oi := { dst := some 39, op := Op.call { callee := Callee.builtin Builtin.len, args := #[Operand.tmp 38], argTypes := #[62] }, type := 3, pos := "play.go:101", after := #[{ on := 15, ground := Ground.data }, { on := 14, ground := Ground.guard }], guard := some (14, true) }) (v := ?va76) rfl (by kernel_rfl) (by kernel_rfl) (by kernel_rfl) rfl (fun _ _ _ h => h) (Or.inl ⟨by rfl, ?ya76⟩) (fun _ => by assumption) ?ra76
          case ya76 => (intro w _; go_simp; first | done | (with_reducible rfl))
          try simp only [Act.put, List.setIfInBounds_toArray, List.set_cons_zero, List.set_cons_succ]
          refine takeW (i := 17) (oi := { dst := some 40, op := Op.binOp BinOp.eql 3 (Operand.tmp 39) (Operand.const (Value.int IntKind.i64 0)) 3, type := 4, pos := "play.go:101", after := #[{ on := 16, ground := Ground.data }, { on := 14, ground := Ground.guard }], guard := some (14, true) }) (v := ?va77) rfl (by kernel_rfl) (by kernel_rfl) (by kernel_rfl) rfl (fun _ _ _ h => h) (Or.inl ⟨by rfl, ?ya77⟩) (fun _ => by assumption) ?ra77
          case ya77 => (intro w _; go_simp; first | done | (with_reducible rfl))
          try simp only [Act.put, List.setIfInBounds_toArray, List.set_cons_zero, List.set_cons_succ]
          refine takeW (i := 18) (oi := { dst := some 41, op := Op.pick (Operand.tmp 37) (Operand.tmp 40) (Operand.const (Value.bool false)), type := 4, pos := "play.go:101", after := #[{ on := 14, ground := Ground.data }, { on := 17, ground := Ground.data }], guard := none }) (v := ?va78) rfl (by kernel_rfl) (by kernel_rfl) (by kernel_rfl) rfl (fun _ _ _ h => h) (Or.inl ⟨by rfl, ?ya78⟩) (fun _ => by assumption) ?ra78
          case ya78 => (intro w _; go_simp; first | done | (with_reducible rfl))
          try simp only [Act.put, List.setIfInBounds_toArray, List.set_cons_zero, List.set_cons_succ]
          refine takeW (i := 19) (oi := { dst := some 0, op := Op.assign (Operand.tmp 41), type := 4, pos := "play.go:101", after := #[{ on := 18, ground := Ground.data }, { on := 14, ground := Ground.chain }, { on := 0, ground := Ground.phase }, { on := 1, ground := Ground.phase }, { on := 2, ground := Ground.phase }, { on := 3, ground := Ground.phase }, { on := 4, ground := Ground.phase }, { on := 5, ground := Ground.phase }, { on := 6, ground := Ground.phase }, { on := 7, ground := Ground.phase }, { on := 8, ground := Ground.phase }, { on := 9, ground := Ground.phase }, { on := 10, ground := Ground.phase }, { on := 11, ground := Ground.phase }, { on := 12, ground := Ground.phase }, { on := 13, ground := Ground.phase }, { on := 14, ground := Ground.phase }, { on := 15, ground := Ground.phase }, { on := 16, ground := Ground.phase }, { on := 17, ground := Ground.phase }, { on := 18, ground := Ground.phase }], guard := none }) (v := ?va79) rfl (by kernel_rfl) (by kernel_rfl) (by kernel_rfl) rfl (fun _ _ _ h => h) (Or.inl ⟨by rfl, ?ya79⟩) (fun _ => by assumption) ?ra79
          case ya79 => (intro w _; go_simp; first | done | (with_reducible rfl))
          try simp only [Act.put, List.setIfInBounds_toArray, List.set_cons_zero, List.set_cons_succ]
          refine doneL (by kernel_rfl) ?_ _
          refine NoPanic.normal ?_
          have HL15 := Lib.hid L15
          go_wp2_with fail
          go_ret
          exact ⟨rfl, HL15.out⟩
        · skip
          go_simp
          refine K_world ?_
          intro wa11 e11
          have hb11 : Below wa4.heap.size wa4 wa11 := by rw [e11]; exact (Below.refl _ _).alloc (Nat.le_refl _) _
          have M11 : Box wa11 wa4.heap.size [.int .i64 0, .int .i64 0, .int .i64 0] 42 := by rw [e11]; exact Box.new' _ _ _ _ rfl
          have Z11 : w.heap.size ≤ wa4.heap.size := L4.size
          have Bx11 := Bx4.stays hb11
          have L11 := below_trans L4 hb11 L4.size
          have P11 := P4.below hb11 (Nat.le_refl _)
          have T11 := T4.below hb11 (Nat.le_refl _)
          have X11 := X4.below hb11 (Nat.le_refl _)
          clear hb11 e11
          refine hK.out _ _ ⟨Bx11.cell 0 rfl, Bx11.cell 1 rfl, Bx11.cell 2 rfl, Bx11.cell 3 rfl, Bx11.cell 4 rfl⟩ (fun hHeld => ?_)
          clear hK K
          try simp only [Act.put, List.setIfInBounds_toArray, List.set_cons_zero, List.set_cons_succ]
          refine readyL (rs := [5]) (by kernel_rfl) (by simp) ?_
          refine (AllReadyL.cons (o := { dst := some 18, op := Op.call { callee := Callee.value (Operand.func 76), args := #[Operand.tmp 13, Operand.tmp 14, Operand.tmp 17], argTypes := #[26, 37, 62] }, type := 118, pos := "play.go:100", after := #[{ on := 0, ground := Ground.data }, { on := 1, ground := Ground.data }, { on := 4, ground := Ground.data }, { on := 2, ground := Ground.chain }], guard := none }) rfl (fun K hK => ?_) AllReadyL.nil)
          go_simp
          refine (Next_any HSh.out ticZ vp0 vs0 ve0 (beginZ ticZ) _ _ _ _ [⟨0, ⟨-1, 3, 0⟩⟩] _ T11 (by unfold maxLen; decide) P11 X11 (by decide)).mono ?_
          rintro e wa5 (⟨hbad, -⟩ | ⟨-, v5, he5, ho5, hb5⟩)
          · exact absurd tic_pcheck hbad
          rw [tic_next.1, tic_next.2.1] at he5
          rw [tic_next.2.2] at ho5
          subst he5
          obtain ⟨a5, c5, rfl⟩ := own_form2 ho5
          have Bx5 := Bx11.stays hb5
          have L5 := below_trans L11 hb5 L11.size
          have P5 := P11.below hb5 (Nat.le_refl _)
          have T5 := T11.below hb5 (Nat.le_refl _)
          have X5 := X11.below hb5 (Nat.le_refl _)
          have M5 := M11.stays hb5
          have O5 := ho5
          clear hb5 ho5
          refine hK.out _ _ ⟨Bx5.cell 0 rfl, Bx5.cell 1 rfl, Bx5.cell 2 rfl, Bx5.cell 3 rfl, Bx5.cell 4 rfl⟩ (fun hHeld => ?_)
          clear hK K
          try simp only [Act.put, List.setIfInBounds_toArray, List.set_cons_zero, List.set_cons_succ]
          refine takeW (i := 6) (oi := { dst := some 12, op := Op.move (Operand.tmp 18), type := 118, pos := "play.go:100", after := #[{ on := 5, ground := Ground.data }], guard := none }) (v := ?va80) rfl (by kernel_rfl) (by kernel_rfl) (by kernel_rfl) rfl (fun _ _ _ h => h) (Or.inl ⟨by rfl, ?ya80⟩) (fun _ => by assumption) ?ra80
          case ya80 => (intro w _; go_simp; first | done | (with_reducible rfl))
          try simp only [Act.put, List.setIfInBounds_toArray, List.set_cons_zero, List.set_cons_succ]
          refine takeW (i := 7) (oi := { dst := some 19, op := Op.extract (Operand.tmp 12) 0, type := 42, pos := "play.go:100", after := #[{ on := 6, ground := Ground.data }], guard := none }) (v := ?va81) rfl (by kernel_rfl) (by kernel_rfl) (by kernel_rfl) rfl (fun _ _ _ h => h) (Or.inl ⟨by rfl, ?ya81⟩) (fun _ => by assumption) ?ra81
          case ya81 => (intro w _; go_simp; first | done | (with_reducible rfl))
          try simp only [Act.put, List.setIfInBounds_toArray, List.set_cons_zero, List.set_cons_succ]
          refine takeW (i := 8) (oi := { dst := some 20, op := Op.extract (Operand.tmp 12) 1, type := 4, pos := "play.go:100", after := #[{ on := 6, ground := Ground.data }, { on := 12, ground := Ground.gcOnly Departure.lateStores }], guard := none }) (v := ?va82) rfl (by kernel_rfl) (by kernel_rfl) (by kernel_rfl) rfl (fun _ _ _ h => h) (Or.inl ⟨by rfl, ?ya82⟩) (fun _ => by assumption) ?ra82
          case ya82 => (intro w _; go_simp; first | done | (with_reducible rfl))
          try simp only [Act.put, List.setIfInBounds_toArray, List.set_cons_zero, List.set_cons_succ]
          refine takeW (i := 9) (oi := { dst := some 21, op := Op.extract (Operand.tmp 12) 2, type := 62, pos := "play.go:100", after := #[{ on := 6, ground := Ground.data }, { on := 13, ground := Ground.gcOnly Departure.lateStores }], guard := none }) (v := ?va83) rfl (by kernel_rfl) (by kernel_rfl) (by kernel_rfl) rfl (fun _ _ _ h => h) (Or.inl ⟨by rfl, ?ya83⟩) (fun _ => by assumption) ?ra83
          case ya83 => (intro w _; go_simp; first | done | (with_reducible rfl))
          try simp only [Act.put, List.setIfInBounds_toArray, List.set_cons_zero, List.set_cons_succ]
          refine takeW (i := 10) (oi := { dst := some 22, op := Op.extract (Operand.tmp 12) 3, type := 29, pos := "play.go:100", after := #[{ on := 6, ground := Ground.data }, { on := 14, ground := Ground.gcOnly Departure.lateStores }], guard := none }) (v := ?va84) rfl (by kernel_rfl) (by kernel_rfl) (by kernel_rfl) rfl (fun _ _ _ h => h) (Or.inl ⟨by rfl, ?ya84⟩) (fun _ => by assumption) ?ra84
          case ya84 => (intro w _; go_simp; first | done | (with_reducible rfl))
          try simp only [Act.put, List.setIfInBounds_toArray, List.set_cons_zero, List.set_cons_succ]
          refine readyL (rs := [12]) (by kernel_rfl) (by simp) ?_
          refine (AllReadyL.late (o := { dst := none, op := Op.store 42 (Operand.tmp 3) (Operand.tmp 19), type := 0, pos := "play.go:100", after := #[{ on := 11, ground := Ground.data }, { on := 7, ground := Ground.data }, { on := 5, ground := Ground.chain }, { on := 0, ground := Ground.phase }, { on := 1, ground := Ground.phase }, { on := 2, ground := Ground.phase }, { on := 3, ground := Ground.phase }, { on := 4, ground := Ground.phase }, { on := 5, ground := Ground.phase }, { on := 6, ground := Ground.phase }, { on := 7, ground := Ground.phase }, { on := 8, ground := Ground.textOnly Departure.lateStores }, { on := 9, ground := Ground.textOnly Departure.lateStores }, { on := 10, ground := Ground.textOnly Departure.lateStores }, { on := 11, ground := Ground.phase }], guard := none }) rfl (by kernel_rfl) (fun K hK => ?_) AllReadyL.nil)
          have d0 := M5.cell 0 rfl
          have d1 := M5.cell 1 rfl
          have d2 := M5.cell 2 rfl
          have d0f := M5.frozen 0
          have d1f := M5.frozen 1
          have d2f := M5.frozen 2
          go_simp
          refine K_world ?_
          intro wa12 e12
          have E12 : wa12 = wa5.setCells wa4.heap.size 0 [.int .i64 (-1), .int .i64 3, .int .i64 0] := e12
          have M12 : Box wa12 wa4.heap.size [.int .i64 (-1), .int .i64 3, .int .i64 0] 42 := by rw [E12]; exact M5.store rfl
          have L12 : Below w.heap.size w wa12 := by rw [E12]; exact below_setCells L5 Z11 0 _
          clear e12 E12 d0 d1 d2 d0f d1f d2f
          refine hK.out _ _ ?_
          clear hK K
          try simp only [Act.put, List.setIfInBounds_toArray, List.set_cons_zero, List.set_cons_succ]
          refine takeW (i := 13) (oi := { dst := some 4, op := Op.assign (Operand.tmp 20), type := 4, pos := "play.go:100", after := #[{ on := 8, ground := Ground.data }, { on := 12, ground := Ground.chain }, { on := 0, ground := Ground.phase }, { on := 1, ground := Ground.phase }, { on := 2, ground := Ground.phase }, { on := 3, ground := Ground.phase }, { on := 4, ground := Ground.phase }, { on := 5, ground := Ground.phase }, { on := 6, ground := Ground.phase }, { on := 7, ground := Ground.phase }, { on := 8, ground := Ground.phase }, { on := 9, ground := Ground.textOnly Departure.lateStores }, { on := 10, ground := Ground.textOnly Departure.lateStores }, { on := 11, ground := Ground.phase }, { on := 12, ground := Ground.phase }], guard := none }) (v := ?va85) rfl (by kernel_rfl) (by kernel_rfl) (by kernel_rfl) rfl (fun _ _ _ h => h) (Or.inl ⟨by rfl, ?ya85⟩) (fun he => by cases he) ?ra85
          case ya85 => (intro w _; go_simp; first | done | (with_reducible rfl))
          try simp only [Act.put, List.setIfInBounds_toArray, List.set_cons_zero, List.set_cons_succ]
          refine takeW (i := 14) (oi := { dst := some 5, op := Op.assign (Operand.tmp 21), type := 62, pos := "play.go:100", after := #[{ on := 9, ground := Ground.data }, { on := 13, ground := Ground.chain }, { on := 0, ground := Ground.phase }, { on := 1, ground := Ground.phase }, { on := 2, ground := Ground.phase }, { on := 3, ground := Ground.phase }, { on := 4, ground := Ground.phase }, { on := 5, ground := Ground.phase }, { on := 6, ground := Ground.phase }, { on := 7, ground := Ground.phase }, { on := 8, ground := Ground.phase }, { on := 9, ground := Ground.phase }, { on := 10, ground := Ground.textOnly Departure.lateStores }, { on := 11, ground := Ground.phase }, { on := 12, ground := Ground.phase }, { on := 13, ground := Ground.phase }], guard := none }) (v := ?va86) rfl (by kernel_rfl) (by kernel_rfl) (by kernel_rfl) rfl (fun _ _ _ h => h) (Or.inl ⟨by rfl, ?ya86⟩) (fun he => by cases he) ?ra86
          case ya86 => (intro w _; go_simp; first | done | (with_reducible rfl))
          try simp only [Act.put, List.setIfInBounds_toArray, List.set_cons_zero, List.set_cons_succ]
          refine takeW (i := 15) (oi := { dst := some 6, op := Op.assign (Operand.tmp 22), type := 29, pos := "play.go:100", after := #[{ on := 10, ground := Ground.data }, { on := 14, ground := Ground.chain }, { on := 0, ground := Ground.phase }, { on := 1, ground := Ground.phase }, { on := 2, ground := Ground.phase }, { on := 3, ground := Ground.phase }, { on := 4, ground := Ground.phase }, { on := 5, ground := Ground.phase }, { on := 6, ground := Ground.phase }, { on := 7, ground := Ground.phase }, { on := 8, ground := Ground.phase }, { on := 9, ground := Ground.phase }, { on := 10, ground := Ground.phase }, { on := 11, ground := Ground.phase }, { on := 12, ground := Ground.phase }, { on := 13, ground := Ground.phase }, { on := 14, ground := Ground.phase }], guard := none }) (v := ?va87) rfl (by kernel_rfl) (by kernel_rfl) (by kernel_rfl) rfl (fun _ _ _ h => h) (Or.inl ⟨by rfl, ?ya87⟩) (fun he => by cases he) ?ra87
          case ya87 => (intro w _; go_simp; first | done | (with_reducible rfl))
          try simp only [Act.put, List.setIfInBounds_toArray, List.set_cons_zero, List.set_cons_succ]
          refine doneL (by kernel_rfl) ?_ _
          refine NoPanic.normal ?_
          have HX12 := Lib.hid M12
          have HL12 := Lib.hid L12
          have hkk := True.intro
          clear M12 L12
          go_upto_region 3 with (fail)
          have M14 : Box wa12.drew wa4.heap.size [.int .i64 (-1), .int .i64 3, .int .i64 0] 42 := HX12.out
          have L14 : Below w.heap.size w wa12.drew := below_drew' HL12.out
          clear HX12 HL12
          refine wp_region_noPanic ?_
          refine beginL (S := (fun w' => w'.cell? ⟨wa4.heap.size, 0, none⟩ = some (.int .i64 (-1)) ∧ w'.cell? ⟨wa4.heap.size, 1, none⟩ = some (.int .i64 3) ∧ w'.cell? ⟨wa4.heap.size, 2, none⟩ = some (.int .i64 0))) (L := []) (by kernel_rfl) ⟨M14.cell 0 rfl, M14.cell 1 rfl, M14.cell 2 rfl⟩ (fun hHeld => ?_)
          refine takeW (i := 0) (oi := { dst := some 23, op := Op.move (Operand.tmp 2), type := 29, pos := "play.go:101", after := #[], guard := none }) (v := ?va138) rfl (by kernel_rfl) (by kernel_rfl) (by kernel_rfl) rfl (fun _ _ _ h => h) (Or.inl ⟨by rfl, ?ya138⟩) (fun _ => by assumption) ?ra138
          case ya138 => (intro w _; go_simp; first | done | (with_reducible rfl))
          try simp only [Act.put, List.setIfInBounds_toArray, List.set_cons_zero, List.set_cons_succ]
          refine takeW (i := 1) (oi := { dst := some 24, op := Op.binOp BinOp.eql 29 (Operand.tmp 23) (Operand.const (Value.int IntKind.i64 0)) 29, type := 4, pos := "play.go:101", after := #[{ on := 0, ground := Ground.data }], guard := none }) (v := ?va139) rfl (by kernel_rfl) (by kernel_rfl) (by kernel_rfl) rfl (fun _ _ _ h => h) (Or.inl ⟨by rfl, ?ya139⟩) (fun _ => by assumption) ?ra139
          case ya139 => (intro w _; go_simp; first | done | (with_reducible rfl))
          try simp only [Act.put, List.setIfInBounds_toArray, List.set_cons_zero, List.set_cons_succ]
          refine takeW (i := 2) (oi := { dst := some 25, op := Op.move (Operand.tmp 24), type := 4, pos := "play.go:101", after := #[{ on := 1, ground := Ground.data }], guard := none }) (v := ?va140) rfl (by kernel_rfl) (by kernel_rfl) (by kernel_rfl) rfl (fun _ _ _ h => h) (Or.inl ⟨by rfl, ?ya140⟩) (fun _ => by assumption) ?ra140
          case ya140 => (intro w _; go_simp; first | done | (with_reducible rfl))
          try simp only [Act.put, List.setIfInBounds_toArray, List.set_cons_zero, List.set_cons_succ]
          refine takeW (i := 3) (oi := { dst := some 26, op := Op.move (Operand.tmp 6), type := 29, pos := "play.go:101", after := #[{ on := 2, ground := Ground.guard }], guard := some (2, true) }) (v := ?va141) rfl (by kernel_rfl) (by kernel_rfl) (by kernel_rfl) rfl (fun _ _ _ h => h) (Or.inl ⟨by rfl, ?ya141⟩) (fun _ => by assumption) ?ra141
          case ya141 => (intro w _; go_simp; first | done | (with_reducible rfl))
          try simp only [Act.put, List.setIfInBounds_toArray, List.set_cons_zero, List.set_cons_succ]
          refine takeW (i := 4) (oi := { dst := some 27, op := Op.binOp BinOp.eql 29 (Operand.tmp 26) (Operand.const (Value.int IntKind.i64 0)) 29, type := 4, pos := "play.go:101", after := #[{ on := 3, ground := Ground.data }, { on := 2, ground := Ground.guard }], guard := some (2, true) }) (v := ?va142) rfl (by kernel_rfl) (by kernel_rfl) (by kernel_rfl) rfl (fun _ _ _ h => h) (Or.inl ⟨by rfl, ?ya142⟩) (fun _ => by assumption) ?ra142
          case ya142 => (intro w _; go_simp; first | done | (with_reducible rfl))
          try simp only [Act.put, List.setIfInBounds_toArray, List.set_cons_zero, List.set_cons_succ]
          refine takeW (i := 5) (oi := { dst := some 28, op := Op.pick (Operand.tmp 25) (Operand.tmp 27) (Operand.const (Value.bool false)), type := 4, pos := "play.go:101", after := #[{ on := 2, ground := Ground.data }, { on := 4, ground := Ground.data }], guard := none }) (v := ?va143) rfl (by kernel_rfl) (by kernel_rfl) (by kernel_rfl) rfl (fun _ _ _ h => h) (Or.inl ⟨by rfl, ?ya143⟩) (fun _ => by assumption) ?ra143
          case ya143 => (intro w _; go_simp; first | done | (with_reducible rfl))
          try simp only [Act.put, List.setIfInBounds_toArray, List.set_cons_zero, List.set_cons_succ]
          refine takeW (i := 6) (oi := { dst := some 29, op := Op.move (Operand.tmp 28), type := 4, pos := "play.go:101", after := #[{ on := 5, ground := Ground.data }, { on := 2, ground := Ground.chain }], guard := none }) (v := ?va144) rfl (by kernel_rfl) (by kernel_rfl) (by kernel_rfl) rfl (fun _ _ _ h => h) (Or.inl ⟨by rfl, ?ya144⟩) (fun _ => by assumption) ?ra144
          case ya144 => (intro w _; go_simp; first | done | (with_reducible rfl))
          try simp only [Act.put, List.setIfInBounds_toArray, List.set_cons_zero, List.set_cons_succ]
          refine takeW (i := 7) (oi := { dst := some 30, op := Op.move (Operand.tmp 4), type := 4, pos := "play.go:101", after := #[{ on := 6, ground := Ground.guard }], guard := some (6, true) }) (v := ?va145) rfl (by kernel_rfl) (by kernel_rfl) (by kernel_rfl) rfl (fun _ _ _ h => h) (Or.inl ⟨by rfl, ?ya145⟩) (fun _ => by assumption) ?ra145
          case ya145 => (intro w _; go_simp; first | done | (with_reducible rfl))
          try simp only [Act.put, List.setIfInBounds_toArray, List.set_cons_zero, List.set_cons_succ]
          refine takeW (i := 8) (oi := { dst := some 31, op := Op.pick (Operand.tmp 29) (Operand.tmp 30) (Operand.const (Value.bool false)), type := 4, pos := "play.go:101", after := #[{ on := 6, ground := Ground.data }, { on := 7, ground := Ground.data }], guard := none }) (v := ?va146) rfl (by kernel_rfl) (by kernel_rfl) (by kernel_rfl) rfl (fun _ _ _ h => h) (Or.inl ⟨by rfl, ?ya146⟩) (fun _ => by assumption) ?ra146
          case ya146 => (intro w _; go_simp; first | done | (with_reducible rfl))
          try simp only [Act.put, List.setIfInBounds_toArray, List.set_cons_zero, List.set_cons_succ]
          refine takeW (i := 9) (oi := { dst := some 32, op := Op.move (Operand.tmp 31), type := 4, pos := "play.go:101", after := #[{ on := 8, ground := Ground.data }, { on := 6, ground := Ground.chain }], guard := none }) (v := ?va147) rfl (by kernel_rfl) (by kernel_rfl) (by kernel_rfl) rfl (fun _ _ _ h => h) (Or.inl ⟨by rfl, ?ya147⟩) (fun _ => by assumption) ?ra147
          case ya147 => (intro w _; go_simp; first | done | (with_reducible rfl))
          try simp only [Act.put, List.setIfInBounds_toArray, List.set_cons_zero, List.set_cons_succ]
          refine takeL (i := 10) (oi := { dst := some 33, op := Op.load 42 (Operand.tmp 3), type := 42, pos := "play.go:101", after := #[{ on := 9, ground := Ground.guard }], guard := some (9, true) }) (v := ?va148) rfl (by kernel_rfl) (by kernel_rfl) (by kernel_rfl) (by kernel_rfl) rfl (by kernel_rfl) (by kernel_rfl) (fun _ _ _ h => h) (Or.inl ⟨by rfl, ?ya148⟩) (by assumption) ?ra148
          case ya148 => (intro w hSw; (try dsimp only at hSw); go_simp; first | done | (with_reducible rfl))
          try simp only [Act.put, List.setIfInBounds_toArray, List.set_cons_zero, List.set_cons_succ]
          refine readyL (rs := [11]) (by kernel_rfl) (by simp) ?_
          refine (AllReadyL.cons (o := { dst := some 34, op := Op.call { callee := Callee.value (Operand.func 70), args := #[Operand.const (Value.int IntKind.i64 3)], argTypes := #[3] }, type := 42, pos := "play.go:101", after := #[{ on := 9, ground := Ground.chain }, { on := 9, ground := Ground.guard }], guard := some (9, true) }) rfl (fun K hK => ?_) AllReadyL.nil)
          go_simp
          refine (drop_any _ _).mono ?_
          rintro e wd ⟨rfl, hbd⟩
          have M15 := M14.stays hbd
          have L15 := below_trans L14 hbd L14.size
          clear hbd
          refine hK.out _ _ ⟨M15.cell 0 rfl, M15.cell 1 rfl, M15.cell 2 rfl⟩ (fun hHeld => ?_)
          clear hK K
          try simp only [Act.put, List.setIfInBounds_toArray, List.set_cons_zero, List.set_cons_succ]
          refine takeW (i := 12) (oi := { dst := some 35, op := Op.binOp BinOp.eql 42 (Operand.tmp 33) (Operand.tmp 34) 42, type := 4, pos := "play.go:101", after := #[{ on := 10, ground := Ground.data }, { on := 11, ground := Ground.data }, { on := 9, ground := Ground.guard }], guard := some (9, true) }) (v := ?va149) rfl (by kernel_rfl) (by kernel_rfl) (by kernel_rfl) rfl (fun _ _ _ h => h) (Or.inl ⟨by rfl, ?ya149⟩) (fun _ => by assumption) ?ra149
          case ya149 => (intro w _; go_simp; first | done | (with_reducible rfl))
          try simp only [Act.put, List.setIfInBounds_toArray, List.set_cons_zero, List.set_cons_succ]
          refine takeW (i := 13) (oi := { dst := some 36, op := Op.pick (Operand.tmp 32) (Operand.tmp 35) (Operand.const (Value.bool false)), type := 4, pos := "play.go:101", after := #[{ on := 9, ground := Ground.data }, { on := 12, ground := Ground.data }], guard := none }) (v := ?va150) rfl (by kernel_rfl) (by kernel_rfl) (by kernel_rfl) rfl (fun _ _ _ h => h) (Or.inl ⟨by rfl, ?ya150⟩) (fun _ => by assumption) ?ra150
          case ya150 => (intro w _; go_simp; first | done | (with_reducible rfl))
          try simp only [Act.put, List.setIfInBounds_toArray, List.set_cons_zero, List.set_cons_succ]
          refine takeW (i := 14) (oi := { dst := some 37, op := Op.move (Operand.tmp 36), type := 4, pos := "play.go:101", after := #[{ on := 13, ground := Ground.data }, { on := 11, ground := Ground.chain }], guard := none }) (v := ?va151) rfl (by kernel_rfl) (by kernel_rfl) (by kernel_rfl) rfl (fun _ _ _ h => h) (Or.inl ⟨by rfl, ?ya151⟩) (fun _ => by assumption) ?ra151
          case ya151 => (intro w _; go_simp; first | done | (with_reducible rfl))
          try simp only [Act.put, List.setIfInBounds_toArray, List.set_cons_zero, List.set_cons_succ]
          refine takeW (i := 15) (oi := { dst := some 38, op := Op.move (Operand.tmp 5), type := 62, pos := "play.go:101", after := #[{ on := 14, ground := Ground.guard }], guard := some (14, true) }) (v := ?va152) rfl (by kernel_rfl) (by kernel_rfl) (by kernel_rfl) rfl (fun _ _ _ h => h) (Or.inl ⟨by rfl, ?ya152⟩) (fun _ => by assumption) ?ra152
          case ya152 => (intro w _; go_simp; first | done | (with_reducible rfl))
          try simp only [Act.put, List.setIfInBounds_toArray, List.set_cons_zero, List.set_cons_succ]
          refine takeW (i := 16) (oi := { dst := some 39, op := Op.call { callee := Callee.builtin Builtin.len, args := #[Operand.tmp 38], argTypes := #[62] }, type := 3, pos := "play.go:101", after := #[{ on := 15, ground := Ground.data }, { on := 14, ground := Ground.guard }], guard := some (14, true) }) (v := ?va153) rfl (by kernel_rfl) (by kernel_rfl) (by kernel_rfl) rfl (fun _ _ _ h => h) (Or.inl ⟨by rfl, ?ya153⟩) (fun _ => by assumption) ?ra153
          case ya153 => (intro w _; go_simp; first | done | (with_reducible rfl))
          try simp only [Act.put, List.setIfInBounds_toArray, List.set_cons_zero, List.set_cons_succ]
          refine takeW (i := 17) (oi := { dst := some 40, op := Op.binOp BinOp.eql 3 (Operand.tmp 39) (Operand.const (Value.int IntKind.i64 0)) 3, type := 4, pos := "play.go:101", after := #[{ on := 16, ground := Ground.data }, { on := 14, ground := Ground.guard }], guard := some (14, true) }) (v := ?va154) rfl (by kernel_rfl) (by kernel_rfl) (by kernel_rfl) rfl (fun _ _ _ h => h) (Or.inl ⟨by rfl, ?ya154⟩) (fun _ => by assumption) ?ra154
          case ya154 => (intro w _; go_simp; first | done | (with_reducible rfl))
          try simp only [Act.put, List.setIfInBounds_toArray, List.set_cons_zero, List.set_cons_succ]
          refine takeW (i := 18) (oi := { dst := some 41, op := Op.pick (Operand.tmp 37) (Operand.tmp 40) (Operand.const (Value.bool false)), type := 4, pos := "play.go:101", after := #[{ on := 14, ground := Ground.data }, { on := 17, ground := Ground.data }], guard := none }) (v := ?va155) rfl (by kernel_rfl) (by kernel_rfl) (by kernel_rfl) rfl (fun _ _ _ h => h) (Or.inl ⟨by rfl, ?ya155⟩) (fun _ => by assumption) ?ra155
          case ya155 => (intro w _; go_simp; first | done | (with_reducible rfl))
          try simp only [Act.put, List.setIfInBounds_toArray, List.set_cons_zero, List.set_cons_succ]
          refine takeW (i := 19) (oi := { dst := some 0, op := Op.assign (Operand.tmp 41), type := 4, pos := "play.go:101", after := #[{ on := 18, ground := Ground.data }, { on := 14, ground := Ground.chain }, { on := 0, ground := Ground.phase }, { on := 1, ground := Ground.phase }, { on := 2, ground := Ground.phase }, { on := 3, ground := Ground.phase }, { on := 4, ground := Ground.phase }, { on := 5, ground := Ground.phase }, { on := 6, ground := Ground.phase }, { on := 7, ground := Ground.phase }, { on := 8, ground := Ground.phase }, { on := 9, ground := Ground.phase }, { on := 10, ground := Ground.phase }, { on := 11, ground := Ground.phase }, { on := 12, ground := Ground.phase }, { on := 13, ground := Ground.phase }, { on := 14, ground := Ground.phase }, { on := 15, ground := Ground.phase }, { on := 16, ground := Ground.phase }, { on := 17, ground := Ground.phase }, { on := 18, ground := Ground.phase }], guard := none }) (v := ?va156) rfl (by kernel_rfl) (by kernel_rfl) (by kernel_rfl) rfl (fun _ _ _ h => h) (Or.inl ⟨by rfl, ?ya156⟩) (fun _ => by assumption) ?ra156
          case ya156 => (intro w _; go_simp; first | done | (with_reducible rfl))
          try simp only [Act.put, List.setIfInBounds_toArray, List.set_cons_zero, List.set_cons_succ]
          refine doneL (by kernel_rfl) ?_ _
          refine NoPanic.normal ?_
          have HL15 := Lib.hid L15
          go_wp2_with fail
          go_ret
          exact ⟨rfl, HL15.out⟩
      · skip
        go_simp
        refine K_world ?_
        intro wa11 e11
        have hb11 : Below wa2.heap.size wa2 wa11 := by rw [e11]; exact (Below.refl _ _).alloc (Nat.le_refl _) _
        have M11 : Box wa11 wa2.heap.size [.int .i64 0, .int .i64 0, .int .i64 0] 42 := by rw [e11]; exact Box.new' _ _ _ _ rfl
        have Z11 : w.heap.size ≤ wa2.heap.size := L2.size
        have Bx11 := Bx2.stays hb11
        have L11 := below_trans L2 hb11 L2.size
        have P11 := P2.below hb11 (Nat.le_refl _)
        have T11 := T2.below hb11 (Nat.le_refl _)
        clear hb11 e11
        refine hK.out _ _ ⟨Bx11.cell 0 rfl, Bx11.cell 1 rfl, Bx11.cell 2 rfl, Bx11.cell 3 rfl, Bx11.cell 4 rfl⟩ (fun hHeld => ?_)
        clear hK K
        try simp only [Act.put, List.setIfInBounds_toArray, List.set_cons_zero, List.set_cons_succ]
        refine readyL (rs := [4]) (by kernel_rfl) (by simp) ?_
        refine (AllReadyL.cons (o := { dst := some 17, op := Op.buildSlice 62 1 #[(0, Operand.tmp 16)], type := 62, pos := "play.go:100", after := #[{ on := 3, ground := Ground.data }], guard := none }) rfl (fun K hK => ?_) AllReadyL.nil)
        go_simp
        refine K_world ?_
        intro wa4 e4
        have hb4 : Below wa11.heap.size wa11 wa4 := by rw [e4]; exact (Below.refl _ _).alloc (Nat.le_refl _) _
        have X4 : RdL premEl wa4 (.slice (some ⟨wa11.heap.size, 0, none⟩) 1 1) [⟨0, ⟨-1, 3, 0⟩⟩] := rd_prem1 e4
        have Bx4 := Bx11.stays hb4
        have L4 := below_trans L11 hb4 L11.size
        have P4 := P11.below hb4 (Nat.le_refl _)
        have T4 := T11.below hb4 (Nat.le_refl _)
        have M4 := M11.stays hb4
        clear hb4 e4
        refine hK.out _ _ ⟨Bx4.cell 0 rfl, Bx4.cell 1 rfl, Bx4.cell 2 rfl, Bx4.cell 3 rfl, Bx4.cell 4 rfl⟩ (fun hHeld => ?_)
        clear hK K
        try simp only [Act.put, List.setIfInBounds_toArray, List.set_cons_zero, List.set_cons_succ]
        refine readyL (rs := [5]) (by kernel_rfl) (by simp) ?_
        refine (AllReadyL.cons (o := { dst := some 18, op := Op.call { callee := Callee.value (Operand.func 76), args := #[Operand.tmp 13, Operand.tmp 14, Operand.tmp 17], argTypes := #[26, 37, 62] }, type := 118, pos := "play.go:100", after := #[{ on := 0, ground := Ground.data }, { on := 1, ground := Ground.data }, { on := 4, ground := Ground.data }, { on := 2, ground := Ground.chain }], guard := none }) rfl (fun K hK => ?_) AllReadyL.nil)
        go_simp
        refine (Next_any HSh.out ticZ vp0 vs0 ve0 (beginZ ticZ) _ _ _ _ [⟨0, ⟨-1, 3, 0⟩⟩] _ T4 (by unfold maxLen; decide) P4 X4 (by decide)).mono ?_
        rintro e wa5 (⟨hbad, -⟩ | ⟨-, v5, he5, ho5, hb5⟩)
        · exact absurd tic_pcheck hbad
        rw [tic_next.1, tic_next.2.1] at he5
        rw [tic_next.2.2] at ho5
        subst he5
        obtain ⟨a5, c5, rfl⟩ := own_form2 ho5
        have Bx5 := Bx4.stays hb5
        have L5 := below_trans L4 hb5 L4.size
        have P5 := P4.below hb5 (Nat.le_refl _)
        have T5 := T4.below hb5 (Nat.le_refl _)
        have X5 := X4.below hb5 (Nat.le_refl _)
        have M5 := M4.stays hb5
        have O5 := ho5
        clear hb5 ho5
        refine hK.out _ _ ⟨Bx5.cell 0 rfl, Bx5.cell 1 rfl, Bx5.cell 2 rfl, Bx5.cell 3 rfl, Bx5.cell 4 rfl⟩ (fun hHeld => ?_)
        clear hK K
        try simp only [Act.put, List.setIfInBounds_toArray, List.set_cons_zero, List.set_cons_succ]
        refine takeW (i := 6) (oi := { dst := some 12, op := Op.move (Operand.tmp 18), type := 118, pos := "play.go:100", after := #[{ on := 5, ground := Ground.data }], guard := none }) (v := ?va157) rfl (by kernel_rfl) (by kernel_rfl) (by kernel_rfl) rfl (fun _ _ _ h => h) (Or.inl ⟨by rfl, ?ya157⟩) (fun _ => by assumption) ?ra157
        case ya157 => (intro w _; go_simp; first | done | (with_reducible rfl))
        try simp only [Act.put, List.setIfInBounds_toArray, List.set_cons_zero, List.set_cons_succ]
        refine takeW (i := 7) (oi := { dst := some 19, op := Op.extract (Operand.tmp 12) 0, type := 42, pos := "play.go:100", after := #[{ on := 6, ground := Ground.data }], guard := none }) (v := ?va158) rfl (by kernel_rfl) (by kernel_rfl) (by kernel_rfl) rfl (fun _ _ _ h => h) (Or.inl ⟨by rfl, ?ya158⟩) (fun _ => by assumption) ?ra158
        case ya158 => (intro w _; go_simp; first | done | (with_reducible rfl))
        try simp only [Act.put, List.setIfInBounds_toArray, List.set_cons_zero, List.set_cons_succ]
        refine takeW (i := 8) (oi := { dst := some 20, op := Op.extract (Operand.tmp 12) 1, type := 4, pos := "play.go:100", after := #[{ on := 6, ground := Ground.data }, { on := 12, ground := Ground.gcOnly Departure.lateStores }], guard := none }) (v := ?va159) rfl (by kernel_rfl) (by kernel_rfl) (by kernel_rfl) rfl (fun _ _ _ h => h) (Or.inl ⟨by rfl, ?ya159⟩) (fun _ => by assumption) ?ra159
        case ya159 => (intro w _; go_simp; first | done | (with_reducible rfl))
        try simp only [Act.put, List.setIfInBounds_toArray, List.set_cons_zero, List.set_cons_succ]
        refine takeW (i := 9) (oi := { dst := some 21, op := Op.extract (Operand.tmp 12) 2, type := 62, pos := "play.go:100", after := #[{ on := 6, ground := Ground.data }, { on := 13, ground := Ground.gcOnly Departure.lateStores }], guard := none }) (v := ?va160) rfl (by kernel_rfl) (by kernel_rfl) (by kernel_rfl) rfl (fun _ _ _ h => h) (Or.inl ⟨by rfl, ?ya160⟩) (fun _ => by assumption) ?ra160
        case ya160 => (intro w _; go_simp; first | done | (with_reducible rfl))
        try simp only [Act.put, List.setIfInBounds_toArray, List.set_cons_zero, List.set_cons_succ]
        refine takeW (i := 10) (oi := { dst := some 22, op := Op.extract (Operand.tmp 12) 3, type := 29, pos := "play.go:100", after := #[{ on := 6, ground := Ground.data }, { on := 14, ground := Ground.gcOnly Departure.lateStores }], guard := none }) (v := ?va161) rfl (by kernel_rfl) (by kernel_rfl) (by kernel_rfl) rfl (fun _ _ _ h => h) (Or.inl ⟨by rfl, ?ya161⟩) (fun _ => by assumption) ?ra161
        case ya161 => (intro w _; go_simp; first | done | (with_reducible rfl))
        try simp only [Act.put, List.setIfInBounds_toArray, List.set_cons_zero, List.set_cons_succ]
        refine readyL (rs := [12]) (by kernel_rfl) (by simp) ?_
        refine (AllReadyL.late (o := { dst := none, op := Op.store 42 (Operand.tmp 3) (Operand.tmp 19), type := 0, pos := "play.go:100", after := #[{ on := 11, ground := Ground.data }, { on := 7, ground := Ground.data }, { on := 5, ground := Ground.chain }, { on := 0, ground := Ground.phase }, { on := 1, ground := Ground.phase }, { on := 2, ground := Ground.phase }, { on := 3, ground := Ground.phase }, { on := 4, ground := Ground.phase }, { on := 5, ground := Ground.phase }, { on := 6, ground := Ground.phase }, { on := 7, ground := Ground.phase }, { on := 8, ground := Ground.textOnly Departure.lateStores }, { on := 9, ground := Ground.textOnly Departure.lateStores }, { on := 10, ground := Ground.textOnly Departure.lateStores }, { on := 11, ground := Ground.phase }], guard := none }) rfl (by kernel_rfl) (fun K hK => ?_) AllReadyL.nil)
        have d0 := M5.cell 0 rfl
        have d1 := M5.cell 1 rfl
        have d2 := M5.cell 2 rfl
        have d0f := M5.frozen 0
        have d1f := M5.frozen 1
        have d2f := M5.frozen 2
        go_simp
        refine K_world ?_
        intro wa12 e12
        have E12 : wa12 = wa5.setCells wa2.heap.size 0 [.int .i64 (-1), .int .i64 3, .int .i64 0] := e12
        have M12 : Box wa12 wa2.heap.size [.int .i64 (-1), .int .i64 3, .int .i64 0] 42 := by rw [E12]; exact M5.store rfl
        have L12 : Below w.heap.size w wa12 := by rw [E12]; exact below_setCells L5 Z11 0 _
        clear e12 E12 d0 d1 d2 d0f d1f d2f
        refine hK.out _ _ ?_
        clear hK K
        try simp only [Act.put, List.setIfInBounds_toArray, List.set_cons_zero, List.set_cons_succ]
        refine takeW (i := 13) (oi := { dst := some 4, op := Op.assign (Operand.tmp 20), type := 4, pos := "play.go:100", after := #[{ on := 8, ground := Ground.data }, { on := 12, ground := Ground.chain }, { on := 0, ground := Ground.phase }, { on := 1, ground := Ground.phase }, { on := 2, ground := Ground.phase }, { on := 3, ground := Ground.phase }, { on := 4, ground := Ground.phase }, { on := 5, ground := Ground.phase }, { on := 6, ground := Ground.phase }, { on := 7, ground := Ground.phase }, { on := 8, ground := Ground.phase }, { on := 9, ground := Ground.textOnly Departure.lateStores }, { on := 10, ground := Ground.textOnly Departure.lateStores }, { on := 11, ground := Ground.phase }, { on := 12, ground := Ground.phase }], guard := none }) (v := ?va162) rfl (by kernel_rfl) (by kernel_rfl) (by kernel_rfl) rfl (fun _ _ _ h => h) (Or.inl ⟨by rfl, ?ya162⟩) (fun he => by cases he) ?ra162
        case ya162 => (intro w _; go_simp; first | done | (with_reducible rfl))
        try simp only [Act.put, List.setIfInBounds_toArray, List.set_cons_zero, List.set_cons_succ]
        refine takeW (i := 14) (oi := { dst := some 5, op := Op.assign (Operand.tmp 21), type := 62, pos := "play.go:100", after := #[{ on := 9, ground := Ground.data }, { on := 13, ground := Ground.chain }, { on := 0, ground := Ground.phase }, { on := 1, ground := Ground.phase }, { on := 2, ground := Ground.phase }, { on := 3, ground := Ground.phase }, { on := 4, ground := Ground.phase }, { on := 5, ground := Ground.phase }, { on := 6, ground := Ground.phase }, { on := 7, ground := Ground.phase }, { on := 8, ground := Ground.phase }, { on := 9, ground := Ground.phase }, { on := 10, ground := Ground.textOnly Departure.lateStores }, { on := 11, ground := Ground.phase }, { on := 12, ground := Ground.phase }, { on := 13, ground := Ground.phase }], guard := none }) (v := ?va163) rfl (by kernel_rfl) (by kernel_rfl) (by kernel_rfl) rfl (fun _ _ _ h => h) (Or.inl ⟨by rfl, ?ya163⟩) (fun he => by cases he) ?ra163
        case ya163 => (intro w _; go_simp; first | done | (with_reducible rfl))
        try simp only [Act.put, List.setIfInBounds_toArray, List.set_cons_zero, List.set_cons_succ]
        refine takeW (i := 15) (oi := { dst := some 6, op := Op.assign (Operand.tmp 22), type := 29, pos := "play.go:100", after := #[{ on := 10, ground := Ground.data }, { on := 14, ground := Ground.chain }, { on := 0, ground := Ground.phase }, { on := 1, ground := Ground.phase }, { on := 2, ground := Ground.phase }, { on := 3, ground := Ground.phase }, { on := 4, ground := Ground.phase }, { on := 5, ground := Ground.phase }, { on := 6, ground := Ground.phase }, { on := 7, ground := Ground.phase }, { on := 8, ground := Ground.phase }, { on := 9, ground := Ground.phase }, { on := 10, ground := Ground.phase }, { on := 11, ground := Ground.phase }, { on := 12, ground := Ground.phase }, { on := 13, ground := Ground.phase }, { on := 14, ground := Ground.phase }], guard := none }) (v := ?va164) rfl (by kernel_rfl) (by kernel_rfl) (by kernel_rfl) rfl (fun _ _ _ h => h) (Or.inl ⟨by rfl, ?ya164⟩) (fun he => by cases he) ?ra164
        case ya164 => (intro w _; go_simp; first | done | (with_reducible rfl))
        try simp only [Act.put, List.setIfInBounds_toArray, List.set_cons_zero, List.set_cons_succ]
        refine doneL (by kernel_rfl) ?_ _
        refine NoPanic.normal ?_
        have HX12 := Lib.hid M12
        have HL12 := Lib.hid L12
        have hkk := True.intro
        clear M12 L12
        go_upto_region 3 with (fail)
        have M14 : Box wa12.drew wa2.heap.size [.int .i64 (-1), .int .i64 3, .int .i64 0] 42 := HX12.out
        have L14 : Below w.heap.size w wa12.drew := below_drew' HL12.out
        clear HX12 HL12
        refine wp_region_noPanic ?_
        refine beginL (S := (fun w' => w'.cell? ⟨wa2.heap.size, 0, none⟩ = some (.int .i64 (-1)) ∧ w'.cell? ⟨wa2.heap.size, 1, none⟩ = some (.int .i64 3) ∧ w'.cell? ⟨wa2.heap.size, 2, none⟩ = some (.int .i64 0))) (L := []) (by kernel_rfl) ⟨M14.cell 0 rfl, M14.cell 1 rfl, M14.cell 2 rfl⟩ (fun hHeld => ?_)
        refine takeW (i := 0) (oi := { dst := some 23, op := Op.move (Operand.tmp 2), type := 29, pos := "play.go:101", after := #[], guard := none }) (v := ?va215) rfl (by kernel_rfl) (by kernel_rfl) (by kernel_rfl) rfl (fun _ _ _ h => h) (Or.inl ⟨by rfl, ?ya215⟩) (fun _ => by assumption) ?ra215
        case ya215 => (intro w _; go_simp; first | done | (with_reducible rfl))
        try simp only [Act.put, List.setIfInBounds_toArray, List.set_cons_zero, List.set_cons_succ]
        refine takeW (i := 1) (oi := { dst := some 24, op := Op.binOp BinOp.eql 29 (Operand.tmp 23) (Operand.const (Value.int IntKind.i64 0)) 29, type := 4, pos := "play.go:101", after := #[{ on := 0, ground := Ground.data }], guard := none }) (v := ?va216) rfl (by kernel_rfl) (by kernel_rfl) (by kernel_rfl) rfl (fun _ _ _ h => h) (Or.inl ⟨by rfl, ?ya216⟩) (fun _ => by assumption) ?ra216
        case ya216 => (intro w _; go_simp; first | done | (with_reducible rfl))
        try simp only [Act.put, List.setIfInBounds_toArray, List.set_cons_zero, List.set_cons_succ]
        refine takeW (i := 2) (oi := { dst := some 25, op := Op.move (Operand.tmp 24), type := 4, pos := "play.go:101", after := #[{ on := 1, ground := Ground.data }], guard := none }) (v := ?va217) rfl (by kernel_rfl) (by kernel_rfl) (by kernel_rfl) rfl (fun _ _ _ h => h) (Or.inl ⟨by rfl, ?ya217⟩) (fun _ => by assumption) ?ra217
        case ya217 => (intro w _; go_simp; first | done | (with_reducible rfl))
        try simp only [Act.put, List.setIfInBounds_toArray, List.set_cons_zero, List.set_cons_succ]
        refine takeW (i := 3) (oi := { dst := some 26, op := Op.move (Operand.tmp 6), type := 29, pos := "play.go:101", after := #[{ on := 2, ground := Ground.guard }], guard := some (2, true) }) (v := ?va218) rfl (by kernel_rfl) (by kernel_rfl) (by kernel_rfl) rfl (fun _ _ _ h => h) (Or.inl ⟨by rfl, ?ya218⟩) (fun _ => by assumption) ?ra218
        case ya218 => (intro w _; go_simp; first | done | (with_reducible rfl))
        try simp only [Act.put, List.setIfInBounds_toArray, List.set_cons_zero, List.set_cons_succ]
        refine takeW (i := 4) (oi := { dst := some 27, op := Op.binOp BinOp.eql 29 (Operand.tmp 26) (Operand.const (Value.int IntKind.i64 0)) 29, type := 4, pos := "play.go:101", after := #[{ on := 3, ground := Ground.data }, { on := 2, ground := Ground.guard }], guard := some (2, true) }) (v := ?va219) rfl (by kernel_rfl) (by kernel_rfl) (by kernel_rfl) rfl (fun _ _ _ h => h) (Or.inl ⟨by rfl, ?ya219⟩) (fun _ => by assumption) ?ra219
        case ya219 => (intro w _; go_simp; first | done | (with_reducible rfl))
        try simp only [Act.put, List.setIfInBounds_toArray, List.set_cons_zero, List.set_cons_succ]
        refine takeW (i := 5) (oi := { dst := some 28, op := Op.pick (Operand.tmp 25) (Operand.tmp 27) (Operand.const (Value.bool false)), type := 4, pos := "play.go:101", after := #[{ on := 2, ground := Ground.data }, { on := 4, ground := Ground.data }], guard := none }) (v := ?va220) rfl (by kernel_rfl) (by kernel_rfl) (by kernel_rfl) rfl (fun _ _ _ h => h) (Or.inl ⟨by rfl, ?ya220⟩) (fun _ => by assumption) ?ra220
        case ya220 => (intro w _; go_simp; first | done | (with_reducible rfl))
        try simp only [Act.put, List.setIfInBounds_toArray, List.set_cons_zero, List.set_cons_succ]
        refine takeW (i := 6) (oi := { dst := some 29, op := Op.move (Operand.tmp 28), type := 4, pos := "play.go:101", after := #[{ on := 5, ground := Ground.data }, { on := 2, ground := Ground.chain }], guard := none }) (v := ?va221) rfl (by kernel_rfl) (by kernel_rfl) (by kernel_rfl) rfl (fun _ _ _ h => h) (Or.inl ⟨by rfl, ?ya221⟩) (fun _ => by assumption) ?ra221
        case ya221 => (intro w _; go_simp; first | done | (with_reducible rfl))
        try simp only [Act.put, List.setIfInBounds_toArray, List.set_cons_zero, List.set_cons_succ]
        refine takeW (i := 7) (oi := { dst := some 30, op := Op.move (Operand.tmp 4), type := 4, pos := "play.go:101", after := #[{ on := 6, ground := Ground.guard }], guard := some (6, true) }) (v := ?va222) rfl (by kernel_rfl) (by kernel_rfl) (by kernel_rfl) rfl (fun _ _ _ h => h) (Or.inl ⟨by rfl, ?ya222⟩) (fun _ => by assumption) ?ra222
        case ya222 => (intro w _; go_simp; first | done | (with_reducible rfl))
        try simp only [Act.put, List.setIfInBounds_toArray, List.set_cons_zero, List.set_cons_succ]
        refine takeW (i := 8) (oi := { dst := some 31, op := Op.pick (Operand.tmp 29) (Operand.tmp 30) (Operand.const (Value.bool false)), type := 4, pos := "play.go:101", after := #[{ on := 6, ground := Ground.data }, { on := 7, ground := Ground.data }], guard := none }) (v := ?va223) rfl (by kernel_rfl) (by kernel_rfl) (by kernel_rfl) rfl (fun _ _ _ h => h) (Or.inl ⟨by rfl, ?ya223⟩) (fun _ => by assumption) ?ra223
        case ya223 => (intro w _; go_simp; first | done | (with_reducible rfl))
        try simp only [Act.put, List.setIfInBounds_toArray, List.set_cons_zero, List.set_cons_succ]
        refine takeW (i := 9) (oi := { dst := some 32, op := Op.move (Operand.tmp 31), type := 4, pos := "play.go:101", after := #[{ on := 8, ground := Ground.data }, { on := 6, ground := Ground.chain }], guard := none }) (v := ?va224) rfl (by kernel_rfl) (by kernel_rfl) (by kernel_rfl) rfl (fun _ _ _ h => h) (Or.inl ⟨by rfl, ?ya224⟩) (fun _ => by assumption) ?ra224
        case ya224 => (intro w _; go_simp; first | done | (with_reducible rfl))
        try simp only [Act.put, List.setIfInBounds_toArray, List.set_cons_zero, List.set_cons_succ]
        refine takeL (i := 10) (oi := { dst := some 33, op := Op.load 42 (Operand.tmp 3), type := 42, pos := "play.go:101", after := #[{ on := 9, ground := Ground.guard }], guard := some (9, true) }) (v := ?va225) rfl (by kernel_rfl) (by kernel_rfl) (by kernel_rfl) (by kernel_rfl) rfl (by kernel_rfl) (by kernel_rfl) (fun _ _ _ h => h) (Or.inl ⟨by rfl, ?ya225⟩) (by assumption) ?ra225
        case ya225 => (intro w hSw; (try dsimp only at hSw); go_simp; first | done | (with_reducible rfl))
        try simp only [Act.put, List.setIfInBounds_toArray, List.set_cons_zero, List.set_cons_succ]
        refine readyL (rs := [11]) (by kernel_rfl) (by simp) ?_
        refine (AllReadyL.cons (o := { dst := some 34, op := Op.call { callee := Callee.value (Operand.func 70), args := #[Operand.const (Value.int IntKind.i64 3)], argTypes := #[3] }, type := 42, pos := "play.go:101", after := #[{ on := 9, ground := Ground.chain }, { on := 9, ground := Ground.guard }], guard := some (9, true) }) rfl (fun K hK => ?_) AllReadyL.nil)
        go_simp
        refine (drop_any _ _).mono ?_
        rintro e wd ⟨rfl, hbd⟩
        have M15 := M14.stays hbd
        have L15 := below_trans L14 hbd L14.size
        clear hbd
        refine hK.out _ _ ⟨M15.cell 0 rfl, M15.cell 1 rfl, M15.cell 2 rfl⟩ (fun hHeld => ?_)
        clear hK K
        try simp only [Act.put, List.setIfInBounds_toArray, List.set_cons_zero, List.set_cons_succ]
        refine takeW (i := 12) (oi := { dst := some 35, op := Op.binOp BinOp.eql 42 (Operand.tmp 33) (Operand.tmp 34) 42, type := 4, pos := "play.go:101", after := #[{ on := 10, ground := Ground.data }, { on := 11, ground := Ground.data }, { on := 9, ground := Ground.guard }], guard := some (9, true) }) (v := ?va226) rfl (by kernel_rfl) (by kernel_rfl) (by kernel_rfl) rfl (fun _ _ _ h => h) (Or.inl ⟨by rfl, ?ya226⟩) (fun _ => by assumption) ?ra226
        case ya226 => (intro w _; go_simp; first | done | (with_reducible rfl))
        try simp only [Act.put, List.setIfInBounds_toArray, List.set_cons_zero, List.set_cons_succ]
        refine takeW (i := 13) (oi := { dst := some 36, op := Op.pick (Operand.tmp 32) (Operand.tmp 35) (Operand.const (Value.bool false)), type := 4, pos := "play.go:101", after := #[{ on := 9, ground := Ground.data }, { on := 12, ground := Ground.data }], guard := none }) (v := ?va227) rfl (by kernel_rfl) (by kernel_rfl) (by kernel_rfl) rfl (fun _ _ _ h => h) (Or.inl ⟨by rfl, ?ya227⟩) (fun _ => by assumption) ?ra227
        case ya227 => (intro w _; go_simp; first | done | (with_reducible rfl))
        try simp only [Act.put, List.setIfInBounds_toArray, List.set_cons_zero, List.set_cons_succ]
        refine takeW (i := 14) (oi := { dst := some 37, op := Op.move (Operand.tmp 36), type := 4, pos := "play.go:101", after := #[{ on := 13, ground := Ground.data }, { on := 11, ground := Ground.chain }], guard := none }) (v := ?va228) rfl (by kernel_rfl) (by kernel_rfl) (by kernel_rfl) rfl (fun _ _ _ h => h) (Or.inl ⟨by rfl, ?ya228⟩) (fun _ => by assumption) ?ra228
        case ya228 => (intro w _; go_simp; first | done | (with_reducible rfl))
        try simp only [Act.put, List.setIfInBounds_toArray, List.set_cons_zero, List.set_cons_succ]
        refine takeW (i := 15) (oi := { dst := some 38, op := Op.move (Operand.tmp 5), type := 62, pos := "play.go:101", after := #[{ on := 14, ground := Ground.guard }], guard := some (14, true) }) (v := ?va229) rfl (by kernel_rfl) (by kernel_rfl) (by kernel_rfl) rfl (fun _ _ _ h => h) (Or.inl ⟨by rfl, ?ya229⟩) (fun _ => by assumption) ?ra229
        case ya229 => (intro w _; go_simp; first | done | (with_reducible rfl))
        try simp only [Act.put, List.setIfInBounds_toArray, List.set_cons_zero, List.set_cons_succ]
        refine takeW (i := 16) (oi := { dst := some 39, op := Op.call { callee := Callee.builtin Builtin.len, args := #[Operand.tmp 38], argTypes := #[62] }, type := 3, pos := "play.go:101", after := #[{ on := 15, ground := Ground.data }, { on := 14, ground := Ground.guard }], guard := some (14, true) }) (v := ?va230) rfl (by kernel_rfl) (by kernel_rfl) (by kernel_rfl) rfl (fun _ _ _ h => h) (Or.inl ⟨by rfl, ?ya230⟩) (fun _ => by assumption) ?ra230
        case ya230 => (intro w _; go_simp; first | done | (with_reducible rfl))
        try simp only [Act.put, List.setIfInBounds_toArray, List.set_cons_zero, List.set_cons_succ]
        refine takeW (i := 17) (oi := { dst := some 40, op := Op.binOp BinOp.eql 3 (Operand.tmp 39) (Operand.const (Value.int IntKind.i64 0)) 3, type := 4, pos := "play.go:101", after := #[{ on := 16, ground := Ground.data }, { on := 14, ground := Ground.guard }], guard := some (14, true) }) (v := ?va231) rfl (by kernel_rfl) (by kernel_rfl) (by kernel_rfl) rfl (fun _ _ _ h => h) (Or.inl ⟨by rfl, ?ya231⟩) (fun _ => by assumption) ?ra231
        case ya231 => (intro w _; go_simp; first | done | (with_reducible rfl))
        try simp only [Act.put, List.setIfInBounds_toArray, List.set_cons_zero, List.set_cons_succ]
        refine takeW (i := 18) (oi := { dst := some 41, op := Op.pick (Operand.tmp 37) (Operand.tmp 40) (Operand.const (Value.bool false)), type := 4, pos := "play.go:101", after := #[{ on := 14, ground := Ground.data }, { on := 17, ground := Ground.data }], guard := none }) (v := ?va232) rfl (by kernel_rfl) (by kernel_rfl) (by kernel_rfl) rfl (fun _ _ _ h => h) (Or.inl ⟨by rfl, ?ya232⟩) (fun _ => by assumption) ?ra232
        case ya232 => (intro w _; go_simp; first | done | (with_reducible rfl))
        try simp only [Act.put, List.setIfInBounds_toArray, List.set_cons_zero, List.set_cons_succ]
        refine takeW (i := 19) (oi := { dst := some 0, op := Op.assign (Operand.tmp 41), type := 4, pos := "play.go:101", after := #[{ on := 18, ground := Ground.data }, { on := 14, ground := Ground.chain }, { on := 0, ground := Ground.phase }, { on := 1, ground := Ground.phase }, { on := 2, ground := Ground.phase }, { on := 3, ground := Ground.phase }, { on := 4, ground := Ground.phase }, { on := 5, ground := Ground.phase }, { on := 6, ground := Ground.phase }, { on := 7, ground := Ground.phase }, { on := 8, ground := Ground.phase }, { on := 9, ground := Ground.phase }, { on := 10, ground := Ground.phase }, { on := 11, ground := Ground.phase }, { on := 12, ground := Ground.phase }, { on := 13, ground := Ground.phase }, { on := 14, ground := Ground.phase }, { on := 15, ground := Ground.phase }, { on := 16, ground := Ground.phase }, { on := 17, ground := Ground.phase }, { on := 18, ground := Ground.phase }], guard := none }) (v := ?va233) rfl (by kernel_rfl) (by kernel_rfl) (by kernel_rfl) rfl (fun _ _ _ h => h) (Or.inl ⟨by rfl, ?ya233⟩) (fun _ => by assumption) ?ra233
        case ya233 => (intro w _; go_simp; first | done | (with_reducible rfl))
        try simp only [Act.put, List.setIfInBounds_toArray, List.set_cons_zero, List.set_cons_succ]
        refine doneL (by kernel_rfl) ?_ _
        refine NoPanic.normal ?_
        have HL15 := Lib.hid L15
        go_wp2_with fail
        go_ret
        exact ⟨rfl, HL15.out⟩
    · skip
      go_simp
      refine K_world ?_
      intro wa11 e11
      have hb11 : Below wa0.heap.size wa0 wa11 := by rw [e11]; exact (Below.refl _ _).alloc (Nat.le_refl _) _
      have M11 : Box wa11 wa0.heap.size [.int .i64 0, .int .i64 0, .int .i64 0] 42 := by rw [e11]; exact Box.new' _ _ _ _ rfl
      have Z11 : w.heap.size ≤ wa0.heap.size := L0.size
      have Bx11 := Bx0.stays hb11
      have L11 := below_trans L0 hb11 L0.size
      have P11 := P0.below hb11 (Nat.le_refl _)
      have T11 := T0.below hb11 (Nat.le_refl _)
      clear hb11 e11
      refine hK.out _ _ ⟨Bx11.cell 0 rfl, Bx11.cell 1 rfl, Bx11.cell 2 rfl, Bx11.cell 3 rfl, Bx11.cell 4 rfl⟩ (fun hHeld => ?_)
      clear hK K
      try simp only [Act.put, List.setIfInBounds_toArray, List.set_cons_zero, List.set_cons_succ]
      refine readyL (rs := [2]) (by kernel_rfl) (by simp) ?_
      refine (AllReadyL.cons (o := { dst := some 15, op := Op.call { callee := Callee.value (Operand.func 70), args := #[Operand.const (Value.int IntKind.i64 3)], argTypes := #[3] }, type := 42, pos := "play.go:100", after := #[{ on := 0, ground := Ground.chain }], guard := none }) rfl (fun K hK => ?_) AllReadyL.nil)
      go_simp
      refine (drop_any _ _).mono ?_
      rintro e wa2 ⟨rfl, hb2⟩
      have Bx2 := Bx11.stays hb2
      have L2 := below_trans L11 hb2 L11.size
      have P2 := P11.below hb2 (Nat.le_refl _)
      have T2 := T11.below hb2 (Nat.le_refl _)
      have M2 := M11.stays hb2
      clear hb2
      refine hK.out _ _ ⟨Bx2.cell 0 rfl, Bx2.cell 1 rfl, Bx2.cell 2 rfl, Bx2.cell 3 rfl, Bx2.cell 4 rfl⟩ (fun hHeld => ?_)
      clear hK K
      try simp only [Act.put, List.setIfInBounds_toArray, List.set_cons_zero, List.set_cons_succ]
      refine takeW (i := 3) (oi := { dst := some 16, op := Op.build 121 #[(0, Operand.const (Value.int IntKind.i64 0)), (1, Operand.tmp 15)], type := 121, pos := "play.go:100", after := #[{ on := 2, ground := Ground.data }], guard := none }) (v := ?va234) rfl (by kernel_rfl) (by kernel_rfl) (by kernel_rfl) rfl (fun _ _ _ h => h) (Or.inl ⟨by rfl, ?ya234⟩) (fun _ => by assumption) ?ra234
      case ya234 => (intro w _; go_simp; first | done | (with_reducible rfl))
      try simp only [Act.put, List.setIfInBounds_toArray, List.set_cons_zero, List.set_cons_succ]
      refine readyL (rs := [4]) (by kernel_rfl) (by simp) ?_
      refine (AllReadyL.cons (o := { dst := some 17, op := Op.buildSlice 62 1 #[(0, Operand.tmp 16)], type := 62, pos := "play.go:100", after := #[{ on := 3, ground := Ground.data }], guard := none }) rfl (fun K hK => ?_) AllReadyL.nil)
      go_simp
      refine K_world ?_
      intro wa4 e4
      have hb4 : Below wa2.heap.size wa2 wa4 := by rw [e4]; exact (Below.refl _ _).alloc (Nat.le_refl _) _
      have X4 : RdL premEl wa4 (.slice (some ⟨wa2.heap.size, 0, none⟩) 1 1) [⟨0, ⟨-1, 3, 0⟩⟩] := rd_prem1 e4
      have Bx4 := Bx2.stays hb4
      have L4 := below_trans L2 hb4 L2.size
      have P4 := P2.below hb4 (Nat.le_refl _)
      have T4 := T2.below hb4 (Nat.le_refl _)
      have M4 := M2.stays hb4
      clear hb4 e4
      refine hK.out _ _ ⟨Bx4.cell 0 rfl, Bx4.cell 1 rfl, Bx4.cell 2 rfl, Bx4.cell 3 rfl, Bx4.cell 4 rfl⟩ (fun hHeld => ?_)
      clear hK K
      try simp only [Act.put, List.setIfInBounds_toArray, List.set_cons_zero, List.set_cons_succ]
      refine readyL (rs := [5]) (by kernel_rfl) (by simp) ?_
      refine (AllReadyL.cons (o := { dst := some 18, op := Op.call { callee := Callee.value (Operand.func 76), args := #[Operand.tmp 13, Operand.tmp 14, Operand.tmp 17], argTypes := #[26, 37, 62] }, type := 118, pos := "play.go:100", after := #[{ on := 0, ground := Ground.data }, { on := 1, ground := Ground.data }, { on := 4, ground := Ground.data }, { on := 2, ground := Ground.chain }], guard := none }) rfl (fun K hK => ?_) AllReadyL.nil)
      go_simp
      refine (Next_any HSh.out ticZ vp0 vs0 ve0 (beginZ ticZ) _ _ _ _ [⟨0, ⟨-1, 3, 0⟩⟩] _ T4 (by unfold maxLen; decide) P4 X4 (by decide)).mono ?_
      rintro e wa5 (⟨hbad, -⟩ | ⟨-, v5, he5, ho5, hb5⟩)
      · exact absurd tic_pcheck hbad
      rw [tic_next.1, tic_next.2.1] at he5
      rw [tic_next.2.2] at ho5
      subst he5
      obtain ⟨a5, c5, rfl⟩ := own_form2 ho5
      have Bx5 := Bx4.stays hb5
      have L5 := below_trans L4 hb5 L4.size
      have P5 := P4.below hb5 (Nat.le_refl _)
      have T5 := T4.below hb5 (Nat.le_refl _)
      have X5 := X4.below hb5 (Nat.le_refl _)
      have M5 := M4.stays hb5
      have O5 := ho5
      clear hb5 ho5
      refine hK.out _ _ ⟨Bx5.cell 0 rfl, Bx5.cell 1 rfl, Bx5.cell 2 rfl, Bx5.cell 3 rfl, Bx5.cell 4 rfl⟩ (fun hHeld => ?_)
      clear hK K
      try simp only [Act.put, List.setIfInBounds_toArray, List.set_cons_zero, List.set_cons_succ]
      refine takeW (i := 6) (oi := { dst := some 12, op := Op.move (Operand.tmp 18), type := 118, pos := "play.go:100", after := #[{ on := 5, ground := Ground.data }], guard := none }) (v := ?va235) rfl (by kernel_rfl) (by kernel_rfl) (by kernel_rfl) rfl (fun _ _ _ h => h) (Or.inl ⟨by rfl, ?ya235⟩) (fun _ => by assumption) ?ra235
      case ya235 => (intro w _; go_simp; first | done | (with_reducible rfl))
      try simp only [Act.put, List.setIfInBounds_toArray, List.set_cons_zero, List.set_cons_succ]
      refine takeW (i := 7) (oi := { dst := some 19, op := Op.extract (Operand.tmp 12) 0, type := 42, pos := "play.go:100", after := #[{ on := 6, ground := Ground.data }], guard := none }) (v := ?va236) rfl (by kernel_rfl) (by kernel_rfl) (by kernel_rfl) rfl (fun _ _ _ h => h) (Or.inl ⟨by rfl, ?ya236⟩) (fun _ => by assumption) ?ra236
      case ya236 => (intro w _; go_simp; first | done | (with_reducible rfl))
      try simp only [Act.put, List.setIfInBounds_toArray, List.set_cons_zero, List.set_cons_succ]
      refine takeW (i := 8) (oi := { dst := some 20, op := Op.extract (Operand.tmp 12) 1, type := 4, pos := "play.go:100", after := #[{ on := 6, ground := Ground.data }, { on := 12, ground := Ground.gcOnly Departure.lateStores }], guard := none }) (v := ?va237) rfl (by kernel_rfl) (by kernel_rfl) (by kernel_rfl) rfl (fun _ _ _ h => h) (Or.inl ⟨by rfl, ?ya237⟩) (fun _ => by assumption) ?ra237
      case ya237 => (intro w _; go_simp; first | done | (with_reducible rfl))
      try simp only [Act.put, List.setIfInBounds_toArray, List.set_cons_zero, List.set_cons_succ]
      refine takeW (i := 9) (oi := { dst := some 21, op := Op.extract (Operand.tmp 12) 2, type := 62, pos := "play.go:100", after := #[{ on := 6, ground := Ground.data }, { on := 13, ground := Ground.gcOnly Departure.lateStores }], guard := none }) (v := ?va238) rfl (by kernel_rfl) (by kernel_rfl) (by kernel_rfl) rfl (fun _ _ _ h => h) (Or.inl ⟨by rfl, ?ya238⟩) (fun _ => by assumption) ?ra238
      case ya238 => (intro w _; go_simp; first | done | (with_reducible rfl))
      try simp only [Act.put, List.setIfInBounds_toArray, List.set_cons_zero, List.set_cons_succ]
      refine takeW (i := 10) (oi := { dst := some 22, op := Op.extract (Operand.tmp 12) 3, type := 29, pos := "play.go:100", after := #[{ on := 6, ground := Ground.data }, { on := 14, ground := Ground.gcOnly Departure.lateStores }], guard := none }) (v := ?va239) rfl (by kernel_rfl) (by kernel_rfl) (by kernel_rfl) rfl (fun _ _ _ h => h) (Or.inl ⟨by rfl, ?ya239⟩) (fun _ => by assumption) ?ra239
      case ya239 => (intro w _; go_simp; first | done | (with_reducible rfl))
      try simp only [Act.put, List.setIfInBounds_toArray, List.set_cons_zero, List.set_cons_succ]
      refine readyL (rs := [12]) (by kernel_rfl) (by simp) ?_
      refine (AllReadyL.late (o := { dst := none, op := Op.store 42 (Operand.tmp 3) (Operand.tmp 19), type := 0, pos := "play.go:100", after := #[{ on := 11, ground := Ground.data }, { on := 7, ground := Ground.data }, { on := 5, ground := Ground.chain }, { on := 0, ground := Ground.phase }, { on := 1, ground := Ground.phase }, { on := 2, ground := Ground.phase }, { on := 3, ground := Ground.phase }, { on := 4, ground := Ground.phase }, { on := 5, ground := Ground.phase }, { on := 6, ground := Ground.phase }, { on := 7, ground := Ground.phase }, { on := 8, ground := Ground.textOnly Departure.lateStores }, { on := 9, ground := Ground.textOnly Departure.lateStores }, { on := 10, ground := Ground.textOnly Departure.lateStores }, { on := 11, ground := Ground.phase }], guard := none }) rfl (by kernel_rfl) (fun K hK => ?_) AllReadyL.nil)
      have d0 := M5.cell 0 rfl
      have d1 := M5.cell 1 rfl
      have d2 := M5.cell 2 rfl
      have d0f := M5.frozen 0
      have d1f := M5.frozen 1
      have d2f := M5.frozen 2
      go_simp
      refine K_world ?_
      intro wa12 e12
      have E12 : wa12 = wa5.setCells wa0.heap.size 0 [.int .i64 (-1), .int .i64 3, .int .i64 0] := e12
      have M12 : Box wa12 wa0.heap.size [.int .i64 (-1), .int .i64 3, .int .i64 0] 42 := by rw [E12]; exact M5.store rfl
      have L12 : Below w.heap.size w wa12 := by rw [E12]; exact below_setCells L5 Z11 0 _
      clear e12 E12 d0 d1 d2 d0f d1f d2f
      refine hK.out _ _ ?_
      clear hK K
      try simp only [Act.put, List.setIfInBounds_toArray, List.set_cons_zero, List.set_cons_succ]
      refine takeW (i := 13) (oi := { dst := some 4, op := Op.assign (Operand.tmp 20), type := 4, pos := "play.go:100", after := #[{ on := 8, ground := Ground.data }, { on := 12, ground := Ground.chain }, { on := 0, ground := Ground.phase }, { on := 1, ground := Ground.phase }, { on := 2, ground := Ground.phase }, { on := 3, ground := Ground.phase }, { on := 4, ground := Ground.phase }, { on := 5, ground := Ground.phase }, { on := 6, ground := Ground.phase }, { on := 7, ground := Ground.phase }, { on := 8, ground := Ground.phase }, { on := 9, ground := Ground.textOnly Departure.lateStores }, { on := 10, ground := Ground.textOnly Departure.lateStores }, { on := 11, ground := Ground.phase }, { on := 12, ground := Ground.phase }], guard := none }) (v := ?va240) rfl (by kernel_rfl) (by kernel_rfl) (by kernel_rfl) rfl (fun _ _ _ h => h) (Or.inl ⟨by rfl, ?ya240⟩) (fun he => by cases he) ?ra240
      case ya240 => (intro w _; go_simp; first | done | (with_reducible rfl))
      try simp only [Act.put, List.setIfInBounds_toArray, List.set_cons_zero, List.set_cons_succ]
      refine takeW (i := 14) (oi := { dst := some 5, op := Op.assign (Operand.tmp 21), type := 62, pos := "play.go:100", after := #[{ on := 9, ground := Ground.data }, { on := 13, ground := Ground.chain }, { on := 0, ground := Ground.phase }, { on := 1, ground := Ground.phase }, { on := 2, ground := Ground.phase }, { on := 3, ground := Ground.phase }, { on := 4, ground := Ground.phase }, { on := 5, ground := Ground.phase }, { on := 6, ground := Ground.phase }, { on := 7, ground := Ground.phase }, { on := 8, ground := Ground.phase }, { on := 9, ground := Ground.phase }, { on := 10, ground := Ground.textOnly Departure.lateStores }, { on := 11, ground := Ground.phase }, { on := 12, ground := Ground.phase }, { on := 13, ground := Ground.phase }], guard := none }) (v := ?va241) rfl (by kernel_rfl) (by kernel_rfl) (by kernel_rfl) rfl (fun _ _ _ h => h) (Or.inl ⟨by rfl, ?ya241⟩) (fun he => by cases he) ?ra241
      case ya241 => (intro w _; go_simp; first | done | (with_reducible rfl))
      try simp only [Act.put, List.setIfInBounds_toArray, List.set_cons_zero, List.set_cons_succ]
      refine takeW (i := 15) (oi := { dst := some 6, op := Op.assign (Operand.tmp 22), type := 29, pos := "play.go:100", after := #[{ on := 10, ground := Ground.data }, { on := 14, ground := Ground.chain }, { on := 0, ground := Ground.phase }, { on := 1, ground := Ground.phase }, { on := 2, ground := Ground.phase }, { on := 3, ground := Ground.phase }, { on := 4, ground := Ground.phase }, { on := 5, ground := Ground.phase }, { on := 6, ground := Ground.phase }, { on := 7, ground := Ground.phase }, { on := 8, ground := Ground.phase }, { on := 9, ground := Ground.phase }, { on := 10, ground := Ground.phase }, { on := 11, ground := Ground.phase }, { on := 12, ground := Ground.phase }, { on := 13, ground := Ground.phase }, { on := 14, ground := Ground.phase }], guard := none }) (v := ?va242) rfl (by kernel_rfl) (by kernel_rfl) (by kernel_rfl) rfl (fun _ _ _ h => h) (Or.inl ⟨by rfl, ?ya242⟩) (fun he => by cases he) ?ra242
      case ya242 => (intro w _; go_simp; first | done | (with_reducible rfl))
      try simp only [Act.put, List.setIfInBounds_toArray, List.set_cons_zero, List.set_cons_succ]
      refine doneL (by kernel_rfl) ?_ _
      refine NoPanic.normal ?_
      have HX12 := Lib.hid M12
      have HL12 := Lib.hid L12
      have hkk := True.intro
      clear M12 L12
      go_upto_region 3 with (fail)
      have M14 : Box wa12.drew wa0.heap.size [.int .i64 (-1), .int .i64 3, .int .i64 0] 42 := HX12.out
      have L14 : Below w.heap.size w wa12.drew := below_drew' HL12.out
      clear HX12 HL12
      refine wp_region_noPanic ?_
      refine beginL (S := (fun w' => w'.cell? ⟨wa0.heap.size, 0, none⟩ = some (.int .i64 (-1)) ∧ w'.cell? ⟨wa0.heap.size, 1, none⟩ = some (.int .i64 3) ∧ w'.cell? ⟨wa0.heap.size, 2, none⟩ = some (.int .i64 0))) (L := []) (by kernel_rfl) ⟨M14.cell 0 rfl, M14.cell 1 rfl, M14.cell 2 rfl⟩ (fun hHeld => ?_)
      refine takeW (i := 0) (oi := { dst := some 23, op := Op.move (Operand.tmp 2), type := 29, pos := "play.go:101", after := #[], guard := none }) (v := ?va293) rfl (by kernel_rfl) (by kernel_rfl) (by kernel_rfl) rfl (fun _ _ _ h => h) (Or.inl ⟨by rfl, ?ya293⟩) (fun _ => by assumption) ?ra293
      case ya293 => (intro w _; go_simp; first | done | (with_reducible rfl))
      try simp only [Act.put, List.setIfInBounds_toArray, List.set_cons_zero, List.set_cons_succ]
      refine takeW (i := 1) (oi := { dst := some 24, op := Op.binOp BinOp.eql 29 (Operand.tmp 23) (Operand.const (Value.int IntKind.i64 0)) 29, type := 4, pos := "play.go:101", after := #[{ on := 0, ground := Ground.data }], guard := none }) (v := ?va294) rfl (by kernel_rfl) (by kernel_rfl) (by kernel_rfl) rfl (fun _ _ _ h => h) (Or.inl ⟨by rfl, ?ya294⟩) (fun _ => by assumption) ?ra294
      case ya294 => (intro w _; go_simp; first | done | (with_reducible rfl))
      try simp only [Act.put, List.setIfInBounds_toArray, List.set_cons_zero, List.set_cons_succ]
      refine takeW (i := 2) (oi := { dst := some 25, op := Op.move (Operand.tmp 24), type := 4, pos := "play.go:101", after := #[{ on := 1, ground := Ground.data }], guard := none }) (v := ?va295) rfl (by kernel_rfl) (by kernel_rfl) (by kernel_rfl) rfl (fun _ _ _ h => h) (Or.inl ⟨by rfl, ?ya295⟩) (fun _ => by assumption) ?ra295
      case ya295 => (intro w _; go_simp; first | done | (with_reducible rfl))
      try simp only [Act.put, List.setIfInBounds_toArray, List.set_cons_zero, List.set_cons_succ]
      refine takeW (i := 3) (oi := { dst := some 26, op := Op.move (Operand.tmp 6), type := 29, pos := "play.go:101", after := #[{ on := 2, ground := Ground.guard }], guard := some (2, true) }) (v := ?va296) rfl (by kernel_rfl) (by kernel_rfl) (by kernel_rfl) rfl (fun _ _ _ h => h) (Or.inl ⟨by rfl, ?ya296⟩) (fun _ => by assumption) ?ra296
      case ya296 => (intro w _; go_simp; first | done | (with_reducible rfl))
      try simp only [Act.put, List.setIfInBounds_toArray, List.set_cons_zero, List.set_cons_succ]
      refine takeW (i := 4) (oi := { dst := some 27, op := Op.binOp BinOp.eql 29 (Operand.tmp 26) (Operand.const (Value.int IntKind.i64 0)) 29, type := 4, pos := "play.go:101", after := #[{ on := 3, ground := Ground.data }, { on := 2, ground := Ground.guard }], guard := some (2, true) }) (v := ?va297) rfl (by kernel_rfl) (by kernel_rfl) (by kernel_rfl) rfl (fun _ _ _ h => h) (Or.inl ⟨by rfl, ?ya297⟩) (fun _ => by assumption) ?ra297
      case ya297 => (intro w _; go_simp; first | done | (with_reducible rfl))
      try simp only [Act.put, List.setIfInBounds_toArray, List.set_cons_zero, List.set_cons_succ]
      refine takeW (i := 5) (oi := { dst := some 28, op := Op.pick (Operand.tmp 25) (Operand.tmp 27) (Operand.const (Value.bool false)), type := 4, pos := "play.go:101", after := #[{ on := 2, ground := Ground.data }, { on := 4, ground := Ground.data }], guard := none }) (v := ?va298) rfl (by kernel_rfl) (by kernel_rfl) (by kernel_rfl) rfl (fun _ _ _ h => h) (Or.inl ⟨by rfl, ?ya298⟩) (fun _ => by assumption) ?ra298
      case ya298 => (intro w _; go_simp; first | done | (with_reducible rfl))
      try simp only [Act.put, List.setIfInBounds_toArray, List.set_cons_zero, List.set_cons_succ]
      refine takeW (i := 6) (oi := { dst := some 29, op := Op.move (Operand.tmp 28), type := 4, pos := "play.go:101", after := #[{ on := 5, ground := Ground.data }, { on := 2, ground := Ground.chain }], guard := none }) (v := ?va299) rfl (by kernel_rfl) (by kernel_rfl) (by kernel_rfl) rfl (fun _ _ _ h => h) (Or.inl ⟨by rfl, ?ya299⟩) (fun _ => by assumption) ?ra299
      case ya299 => (intro w _; go_simp; first | done | (with_reducible rfl))
      try simp only [Act.put, List.setIfInBounds_toArray, List.set_cons_zero, List.set_cons_succ]
      refine takeW (i := 7) (oi := { dst := some 30, op := Op.move (Operand.tmp 4), type := 4, pos := "play.go:101", after := #[{ on := 6, ground := Ground.guard }], guard := some (6, true) }) (v := ?va300) rfl (by kernel_rfl) (by kernel_rfl) (by kernel_rfl) rfl (fun _ _ _ h => h) (Or.inl ⟨by rfl, ?ya300⟩) (fun _ => by assumption) ?ra300
      case ya300 => (intro w _; go_simp; first | done | (with_reducible rfl))
      try simp only [Act.put, List.setIfInBounds_toArray, List.set_cons_zero, List.set_cons_succ]
      refine takeW (i := 8) (oi := { dst := some 31, op := Op.pick (Operand.tmp 29) (Operand.tmp 30) (Operand.const (Value.bool false)), type := 4, pos := "play.go:101", after := #[{ on := 6, ground := Ground.data }, { on := 7, ground := Ground.data }], guard := none }) (v := ?va301) rfl (by kernel_rfl) (by kernel_rfl) (by kernel_rfl) rfl (fun _ _ _ h => h) (Or.inl ⟨by rfl, ?ya301⟩) (fun _ => by assumption) ?ra301
      case ya301 => (intro w _; go_simp; first | done | (with_reducible rfl))
      try simp only [Act.put, List.setIfInBounds_toArray, List.set_cons_zero, List.set_cons_succ]
      refine takeW (i := 9) (oi := { dst := some 32, op := Op.move (Operand.tmp 31), type := 4, pos := "play.go:101", after := #[{ on := 8, ground := Ground.data }, { on := 6, ground := Ground.chain }], guard := none }) (v := ?va302) rfl (by kernel_rfl) (by kernel_rfl) (by kernel_rfl) rfl (fun _ _ _ h => h) (Or.inl ⟨by rfl, ?ya302⟩) (fun _ => by assumption) ?ra302
      case ya302 => (intro w _; go_simp; first | done | (with_reducible rfl))
      try simp only [Act.put, List.setIfInBounds_toArray, List.set_cons_zero, List.set_cons_succ]
      refine takeL (i := 10) (oi := { dst := some 33, op := Op.load 42 (Operand.tmp 3), type := 42, pos := "play.go:101", after := #[{ on := 9, ground := Ground.guard }], guard := some (9, true) }) (v := ?va303) rfl (by kernel_rfl) (by kernel_rfl) (by kernel_rfl) (by kernel_rfl) rfl (by kernel_rfl) (by kernel_rfl) (fun _ _ _ h => h) (Or.inl ⟨by rfl, ?ya303⟩) (by assumption) ?ra303
      case ya303 => (intro w hSw; (try dsimp only at hSw); go_simp; first | done | (with_reducible rfl))
      try simp only [Act.put, List.setIfInBounds_toArray, List.set_cons_zero, List.set_cons_succ]
      refine readyL (rs := [11]) (by kernel_rfl) (by simp) ?_
      refine (AllReadyL.cons (o := { dst := some 34, op := Op.call { callee := Callee.value (Operand.func 70), args := #[Operand.const (Value.int IntKind.i64 3)], argTypes := #[3] }, type := 42, pos := "play.go:101", after := #[{ on := 9, ground := Ground.chain }, { on := 9, ground := Ground.guard }], guard := some (9, true) }) rfl (fun K hK => ?_) AllReadyL.nil)
      go_simp
      refine (drop_any _ _).mono ?_
      rintro e wd ⟨rfl, hbd⟩
      have M15 := M14.stays hbd
      have L15 := below_trans L14 hbd L14.size
      clear hbd
      refine hK.out _ _ ⟨M15.cell 0 rfl, M15.cell 1 rfl, M15.cell 2 rfl⟩ (fun hHeld => ?_)
      clear hK K
      try simp only [Act.put, List.setIfInBounds_toArray, List.set_cons_zero, List.set_cons_succ]
      refine takeW (i := 12) (oi := { dst := some 35, op := Op.binOp BinOp.eql 42 (Operand.tmp 33) (Operand.tmp 34) 42, type := 4, pos := "play.go:101", after := #[{ on := 10, ground := Ground.data }, { on := 11, ground := Ground.data }, { on := 9, ground := Ground.guard }], guard := some (9, true) }) (v := ?va304) rfl (by kernel_rfl) (by kernel_rfl) (by kernel_rfl) rfl (fun _ _ _ h => h) (Or.inl ⟨by rfl, ?ya304⟩) (fun _ => by assumption) ?ra304
      case ya304 => (intro w _; go_simp; first | done | (with_reducible rfl))
      try simp only [Act.put, List.setIfInBounds_toArray, List.set_cons_zero, List.set_cons_succ]
      refine takeW (i := 13) (oi := { dst := some 36, op := Op.pick (Operand.tmp 32) (Operand.tmp 35) (Operand.const (Value.bool false)), type := 4, pos := "play.go:101", after := #[{ on := 9, ground := Ground.data }, { on := 12, ground := Ground.data }], guard := none }) (v := ?va305) rfl (by kernel_rfl) (by kernel_rfl) (by kernel_rfl) rfl (fun _ _ _ h => h) (Or.inl ⟨by rfl, ?ya305⟩) (fun _ => by assumption) ?ra305
      case ya305 => (intro w _; go_simp; first | done | (with_reducible rfl))
      try simp only [Act.put, List.setIfInBounds_toArray, List.set_cons_zero, List.set_cons_succ]
      refine takeW (i := 14) (oi := { dst := some 37, op := Op.move (Operand.tmp 36), type := 4, pos := "play.go:101", after := #[{ on := 13, ground := Ground.data }, { on := 11, ground := Ground.chain }], guard := none }) (v := ?va306) rfl (by kernel_rfl) (by kernel_rfl) (by kernel_rfl) rfl (fun _ _ _ h => h) (Or.inl ⟨by rfl, ?ya306⟩) (fun _ => by assumption) ?ra306
      case ya306 => (intro w _; go_simp; first | done | (with_reducible rfl))
      try simp only [Act.put, List.setIfInBounds_toArray, List.set_cons_zero, List.set_cons_succ]
      refine takeW (i := 15) (oi := { dst := some 38, op := Op.move (Operand.tmp 5), type := 62, pos := "play.go:101", after := #[{ on := 14, ground := Ground.guard }], guard := some (14, true) }) (v := ?va307) rfl (by kernel_rfl) (by kernel_rfl) (by kernel_rfl) rfl (fun _ _ _ h => h) (Or.inl ⟨by rfl, ?ya307⟩) (fun _ => by assumption) ?ra307
      case ya307 => (intro w _; go_simp; first | done | (with_reducible rfl))
      try simp only [Act.put, List.setIfInBounds_toArray, List.set_cons_zero, List.set_cons_succ]
      refine takeW (i := 16) (oi := { dst := some 39, op := Op.call { callee := Callee.builtin Builtin.len, args := #[Operand.tmp 38], argTypes := #[62] }, type := 3, pos := "play.go:101", after := #[{ on := 15, ground := Ground.data }, { on := 14, ground := Ground.guard }], guard := some (14, true) }) (v := ?va308) rfl (by kernel_rfl) (by kernel_rfl) (by kernel_rfl) rfl (fun _ _ _ h => h) (Or.inl ⟨by rfl, ?ya308⟩) (fun _ => by assumption) ?ra308
      case ya308 => (intro w _; go_simp; first | done | (with_reducible rfl))
      try simp only [Act.put, List.setIfInBounds_toArray, List.set_cons_zero, List.set_cons_succ]
      refine takeW (i := 17) (oi := { dst := some 40, op := Op.binOp BinOp.eql 3 (Operand.tmp 39) (Operand.const (Value.int IntKind.i64 0)) 3, type := 4, pos := "play.go:101", after := #[{ on := 16, ground := Ground.data }, { on := 14, ground := Ground.guard }], guard := some (14, true) }) (v := ?va309) rfl (by kernel_rfl) (by kernel_rfl) (by kernel_rfl) rfl (fun _ _ _ h => h) (Or.inl ⟨by rfl, ?ya309⟩) (fun _ => by assumption) ?ra309
      case ya309 => (intro w _; go_simp; first | done | (with_reducible rfl))
      try simp only [Act.put, List.setIfInBounds_toArray, List.set_cons_zero, List.set_cons_succ]
      refine takeW (i := 18) (oi := { dst := some 41, op := Op.pick (Operand.tmp 37) (Operand.tmp 40) (Operand.const (Value.bool false)), type := 4, pos := "play.go:101", after := #[{ on := 14, ground := Ground.data }, { on := 17, ground := Ground.data }], guard := none }) (v := ?va310) rfl (by kernel_rfl) (by kernel_rfl) (by kernel_rfl) rfl (fun _ _ _ h => h) (Or.inl ⟨by rfl, ?ya310⟩) (fun _ => by assumption) ?ra310
      case ya310 => (intro w _; go_simp; first | done | (with_reducible rfl))
      try simp only [Act.put, List.setIfInBounds_toArray, List.set_cons_zero, List.set_cons_succ]
      refine takeW (i := 19) (oi := { dst := some 0, op := Op.assign (Operand.tmp 41), type := 4, pos := "play.go:101", after := #[{ on := 18, ground := Ground.data }, { on := 14, ground := Ground.chain }, { on := 0, ground := Ground.phase }, { on := 1, ground := Ground.phase }, { on := 2, ground := Ground.phase }, { on := 3, ground := Ground.phase }, { on := 4, ground := Ground.phase }, { on := 5, ground := Ground.phase }, { on := 6, ground := Ground.phase }, { on := 7, ground := Ground.phase }, { on := 8, ground := Ground.phase }, { on := 9, ground := Ground.phase }, { on := 10, ground := Ground.phase }, { on := 11, ground := Ground.phase }, { on := 12, ground := Ground.phase }, { on := 13, ground := Ground.phase }, { on := 14, ground := Ground.phase }, { on := 15, ground := Ground.phase }, { on := 16, ground := Ground.phase }, { on := 17, ground := Ground.phase }, { on := 18, ground := Ground.phase }], guard := none }) (v := ?va311) rfl (by kernel_rfl) (by kernel_rfl) (by kernel_rfl) rfl (fun _ _ _ h => h) (Or.inl ⟨by rfl, ?ya311⟩) (fun _ => by assumption) ?ra311
      case ya311 => (intro w _; go_simp; first | done | (with_reducible rfl))
      try simp only [Act.put, List.setIfInBounds_toArray, List.set_cons_zero, List.set_cons_succ]
      refine doneL (by kernel_rfl) ?_ _
      refine NoPanic.normal ?_
      have HL15 := Lib.hid L15
      go_wp2_with fail
      go_ret
      exact ⟨rfl, HL15.out⟩
  · skip
    go_simp
    refine K_world ?_
    intro wa11 e11
    have hb11 : Below w2.drew.heap.size w2.drew wa11 := by rw [e11]; exact (Below.refl _ _).alloc (Nat.le_refl _) _
    have M11 : Box wa11 w2.heap.size [.int .i64 0, .int .i64 0, .int .i64 0] 42 := by rw [e11]; exact Box.new' _ _ _ _ rfl
    have Z11 : w.heap.size ≤ w2.heap.size := Lz.size
    have Bx11 := Bxz.stays hb11
    have L11 := below_trans Lz hb11 Lz.size
    have P11 := Pz.below hb11 (Nat.le_refl _)
    clear hb11 e11
    refine hK.out _ _ ⟨Bx11.cell 0 rfl, Bx11.cell 1 rfl, Bx11.cell 2 rfl, Bx11.cell 3 rfl, Bx11.cell 4 rfl⟩ (fun hHeld => ?_)
    clear hK K
    try simp only [Act.put, List.setIfInBounds_toArray, List.set_cons_zero, List.set_cons_succ]
    refine readyL (rs := [0]) (by kernel_rfl) (by simp) ?_
    refine (AllReadyL.cons (o := { dst := some 13, op := Op.call { callee := Callee.value (Operand.func 69), args := #[], argTypes := #[] }, type := 26, pos := "play.go:100", after := #[], guard := none }) rfl (fun K hK => ?_) AllReadyL.nil)
    go_simp
    refine (tic_any _).mono ?_
    rintro e wa0 ⟨vp0, vs0, ve0, rfl, hr0, hb0⟩
    have Bx0 := Bx11.stays hb0
    have L0 := below_trans L11 hb0 L11.size
    have P0 := P11.below hb0 (Nat.le_refl _)
    have M0 := M11.stays hb0
    have T0 := hr0
    clear hb0 hr0
    refine hK.out _ _ ⟨Bx0.cell 0 rfl, Bx0.cell 1 rfl, Bx0.cell 2 rfl, Bx0.cell 3 rfl, Bx0.cell 4 rfl⟩ (fun hHeld => ?_)
    clear hK K
    try simp only [Act.put, List.setIfInBounds_toArray, List.set_cons_zero, List.set_cons_succ]
    refine readyL (rs := [2]) (by kernel_rfl) (by simp) ?_
    refine (AllReadyL.cons (o := { dst := some 15, op := Op.call { callee := Callee.value (Operand.func 70), args := #[Operand.const (Value.int IntKind.i64 3)], argTypes := #[3] }, type := 42, pos := "play.go:100", after := #[{ on := 0, ground := Ground.chain }], guard := none }) rfl (fun K hK => ?_) AllReadyL.nil)
    go_simp
    refine (drop_any _ _).mono ?_
    rintro e wa2 ⟨rfl, hb2⟩
    have Bx2 := Bx0.stays hb2
    have L2 := below_trans L0 hb2 L0.size
    have P2 := P0.below hb2 (Nat.le_refl _)
    have T2 := T0.below hb2 (Nat.le_refl _)
    have M2 := M0.stays hb2
    clear hb2
    refine hK.out _ _ ⟨Bx2.cell 0 rfl, Bx2.cell 1 rfl, Bx2.cell 2 rfl, Bx2.cell 3 rfl, Bx2.cell 4 rfl⟩ (fun hHeld => ?_)
    clear hK K
    try simp only [Act.put, List.setIfInBounds_toArray, List.set_cons_zero, List.set_cons_succ]
    refine takeW (i := 3) (oi := { dst := some 16, op := Op.build 121 #[(0, Operand.const (Value.int IntKind.i64 0)), (1, Operand.tmp 15)], type := 121, pos := "play.go:100", after := #[{ on := 2, ground := Ground.data }], guard := none }) (v := ?va312) rfl (by kernel_rfl) (by kernel_rfl) (by kernel_rfl) rfl (fun _ _ _ h => h) (Or.inl ⟨by rfl, ?ya312⟩) (fun _ => by assumption) ?ra312
    case ya312 => (intro w _; go_simp; first | done | (with_reducible rfl))
    try simp only [Act.put, List.setIfInBounds_toArray, List.set_cons_zero, List.set_cons_succ]
    refine readyL (rs := [4]) (by kernel_rfl) (by simp) ?_
    refine (AllReadyL.cons (o := { dst := some 17, op := Op.buildSlice 62 1 #[(0, Operand.tmp 16)], type := 62, pos := "play.go:100", after := #[{ on := 3, ground := Ground.data }], guard := none }) rfl (fun K hK => ?_) AllReadyL.nil)
    go_simp
    refine K_world ?_
    intro wa4 e4
    have hb4 : Below wa2.heap.size wa2 wa4 := by rw [e4]; exact (Below.refl _ _).alloc (Nat.le_refl _) _
    have X4 : RdL premEl wa4 (.slice (some ⟨wa2.heap.size, 0, none⟩) 1 1) [⟨0, ⟨-1, 3, 0⟩⟩] := rd_prem1 e4
    have Bx4 := Bx2.stays hb4
    have L4 := below_trans L2 hb4 L2.size
    have P4 := P2.below hb4 (Nat.le_refl _)
    have T4 := T2.below hb4 (Nat.le_refl _)
    have M4 := M2.stays hb4
    clear hb4 e4
    refine hK.out _ _ ⟨Bx4.cell 0 rfl, Bx4.cell 1 rfl, Bx4.cell 2 rfl, Bx4.cell 3 rfl, Bx4.cell 4 rfl⟩ (fun hHeld => ?_)
    clear hK K
    try simp only [Act.put, List.setIfInBounds_toArray, List.set_cons_zero, List.set_cons_succ]
    refine readyL (rs := [5]) (by kernel_rfl) (by simp) ?_
    refine (AllReadyL.cons (o := { dst := some 18, op := Op.call { callee := Callee.value (Operand.func 76), args := #[Operand.tmp 13, Operand.tmp 14, Operand.tmp 17], argTypes := #[26, 37, 62] }, type := 118, pos := "play.go:100", after := #[{ on := 0, ground := Ground.data }, { on := 1, ground := Ground.data }, { on := 4, ground := Ground.data }, { on := 2, ground := Ground.chain }], guard := none }) rfl (fun K hK => ?_) AllReadyL.nil)
    go_simp
    refine (Next_any HSh.out ticZ vp0 vs0 ve0 (beginZ ticZ) _ _ _ _ [⟨0, ⟨-1, 3, 0⟩⟩] _ T4 (by unfold maxLen; decide) P4 X4 (by decide)).mono ?_
    rintro e wa5 (⟨hbad, -⟩ | ⟨-, v5, he5, ho5, hb5⟩)
    · exact absurd tic_pcheck hbad
    rw [tic_next.1, tic_next.2.1] at he5
    rw [tic_next.2.2] at ho5
    subst he5
    obtain ⟨a5, c5, rfl⟩ := own_form2 ho5
    have Bx5 := Bx4.stays hb5
    have L5 := below_trans L4 hb5 L4.size
    have P5 := P4.below hb5 (Nat.le_refl _)
    have T5 := T4.below hb5 (Nat.le_refl _)
    have X5 := X4.below hb5 (Nat.le_refl _)
    have M5 := M4.stays hb5
    have O5 := ho5
    clear hb5 ho5
    refine hK.out _ _ ⟨Bx5.cell 0 rfl, Bx5.cell 1 rfl, Bx5.cell 2 rfl, Bx5.cell 3 rfl, Bx5.cell 4 rfl⟩ (fun hHeld => ?_)
    clear hK K
    try simp only [Act.put, List.setIfInBounds_toArray, List.set_cons_zero, List.set_cons_succ]
    refine takeW (i := 6) (oi := { dst := some 12, op := Op.move (Operand.tmp 18), type := 118, pos := "play.go:100", after := #[{ on := 5, ground := Ground.data }], guard := none }) (v := ?va313) rfl (by kernel_rfl) (by kernel_rfl) (by kernel_rfl) rfl (fun _ _ _ h => h) (Or.inl ⟨by rfl, ?ya313⟩) (fun _ => by assumption) ?ra313
    case ya313 => (intro w _; go_simp; first | done | (with_reducible rfl))
    try simp only [Act.put, List.setIfInBounds_toArray, List.set_cons_zero, List.set_cons_succ]
    refine takeW (i := 7) (oi := { dst := some 19, op := Op.extract (Operand.tmp 12) 0, type := 42, pos := "play.go:100", after := #[{ on := 6, ground := Ground.data }], guard := none }) (v := ?va314) rfl (by kernel_rfl) (by kernel_rfl) (by kernel_rfl) rfl (fun _ _ _ h => h) (Or.inl ⟨by rfl, ?ya314⟩) (fun _ => by assumption) ?ra314
    case ya314 => (intro w _; go_simp; first | done | (with_reducible rfl))
    try simp only [Act.put, List.setIfInBounds_toArray, List.set_cons_zero, List.set_cons_succ]
    refine takeW (i := 8) (oi := { dst := some 20, op := Op.extract (Operand.tmp 12) 1, type := 4, pos := "play.go:100", after := #[{ on := 6, ground := Ground.data }, { on := 12, ground := Ground.gcOnly Departure.lateStores }], guard := none }) (v := ?va315) rfl (by kernel_rfl) (by kernel_rfl) (by kernel_rfl) rfl (fun _ _ _ h => h) (Or.inl ⟨by rfl, ?ya315⟩) (fun _ => by assumption) ?ra315
    case ya315 => (intro w _; go_simp; first | done | (with_reducible rfl))
    try simp only [Act.put, List.setIfInBounds_toArray, List.set_cons_zero, List.set_cons_succ]
    refine takeW (i := 9) (oi := { dst := some 21, op := Op.extract (Operand.tmp 12) 2, type := 62, pos := "play.go:100", after := #[{ on := 6, ground := Ground.data }, { on := 13, ground := Ground.gcOnly Departure.lateStores }], guard := none }) (v := ?va316) rfl (by kernel_rfl) (by kernel_rfl) (by kernel_rfl) rfl (fun _ _ _ h => h) (Or.inl ⟨by rfl, ?ya316⟩) (fun _ => by assumption) ?ra316
    case ya316 => (intro w _; go_simp; first | done | (with_reducible rfl))
    try simp only [Act.put, List.setIfInBounds_toArray, List.set_cons_zero, List.set_cons_succ]
    refine takeW (i := 10) (oi := { dst := some 22, op := Op.extract (Operand.tmp 12) 3, type := 29, pos := "play.go:100", after := #[{ on := 6, ground := Ground.data }, { on := 14, ground := Ground.gcOnly Departure.lateStores }], guard := none }) (v := ?va317) rfl (by kernel_rfl) (by kernel_rfl) (by kernel_rfl) rfl (fun _ _ _ h => h) (Or.inl ⟨by rfl, ?ya317⟩) (fun _ => by assumption) ?ra317
    case ya317 => (intro w _; go_simp; first | done | (with_reducible rfl))
    try simp only [Act.put, List.setIfInBounds_toArray, List.set_cons_zero, List.set_cons_succ]
    refine readyL (rs := [12]) (by kernel_rfl) (by simp) ?_
    refine (AllReadyL.late (o := { dst := none, op := Op.store 42 (Operand.tmp 3) (Operand.tmp 19), type := 0, pos := "play.go:100", after := #[{ on := 11, ground := Ground.data }, { on := 7, ground := Ground.data }, { on := 5, ground := Ground.chain }, { on := 0, ground := Ground.phase }, { on := 1, ground := Ground.phase }, { on := 2, ground := Ground.phase }, { on := 3, ground := Ground.phase }, { on := 4, ground := Ground.phase }, { on := 5, ground := Ground.phase }, { on := 6, ground := Ground.phase }, { on := 7, ground := Ground.phase }, { on := 8, ground := Ground.textOnly Departure.lateStores }, { on := 9, ground := Ground.textOnly Departure.lateStores }, { on := 10, ground := Ground.textOnly Departure.lateStores }, { on := 11, ground := Ground.phase }], guard := none }) rfl (by kernel_rfl) (fun K hK => ?_) AllReadyL.nil)
    have d0 := M5.cell 0 rfl
    have d1 := M5.cell 1 rfl
    have d2 := M5.cell 2 rfl
    have d0f := M5.frozen 0
    have d1f := M5.frozen 1
    have d2f := M5.frozen 2
    go_simp
    refine K_world ?_
    intro wa12 e12
    have E12 : wa12 = wa5.setCells w2.heap.size 0 [.int .i64 (-1), .int .i64 3, .int .i64 0] := e12
    have M12 : Box wa12 w2.heap.size [.int .i64 (-1), .int .i64 3, .int .i64 0] 42 := by rw [E12]; exact M5.store rfl
    have L12 : Below w.heap.size w wa12 := by rw [E12]; exact below_setCells L5 Z11 0 _
    clear e12 E12 d0 d1 d2 d0f d1f d2f
    refine hK.out _ _ ?_
    clear hK K
    try simp only [Act.put, List.setIfInBounds_toArray, List.set_cons_zero, List.set_cons_succ]
    refine takeW (i := 13) (oi := { dst := some 4, op := Op.assign (Operand.tmp 20), type := 4, pos := "play.go:100", after := #[{ on := 8, ground := Ground.data }, { on := 12, ground := Ground.chain }, { on := 0, ground := Ground.phase }, { on := 1, ground := Ground.phase }, { on := 2, ground := Ground.phase }, { on := 3, ground := Ground.phase }, { on := 4, ground := Ground.phase }, { on := 5, ground := Ground.phase }, { on := 6, ground := Ground.phase }, { on := 7, ground := Ground.phase }, { on := 8, ground := Ground.phase }, { on := 9, ground := Ground.textOnly Departure.lateStores }, { on := 10, ground := Ground.textOnly Departure.lateStores }, { on := 11, ground := Ground.phase }, { on := 12, ground := Ground.phase }], guard := none }) (v := ?va318) rfl (by kernel_rfl) (by kernel_rfl) (by kernel_rfl) rfl (fun _ _ _ h => h) (Or.inl ⟨by rfl, ?ya318⟩) (fun he => by cases he) ?ra318
    case ya318 => (intro w _; go_simp; first | done | (with_reducible rfl))
    try simp only [Act.put, List.setIfInBounds_toArray, List.set_cons_zero, List.set_cons_succ]
    refine takeW (i := 14) (oi := { dst := some 5, op := Op.assign (Operand.tmp 21), type := 62, pos := "play.go:100", after := #[{ on := 9, ground := Ground.data }, { on := 13, ground := Ground.chain }, { on := 0, ground := Ground.phase }, { on := 1, ground := Ground.phase }, { on := 2, ground := Ground.phase }, { on := 3, ground := Ground.phase }, { on := 4, ground := Ground.phase }, { on := 5, ground := Ground.phase }, { on := 6, ground := Ground.phase }, { on := 7, ground := Ground.phase }, { on := 8, ground := Ground.phase }, { on := 9, ground := Ground.phase }, { on := 10, ground := Ground.textOnly Departure.lateStores }, { on := 11, ground := Ground.phase }, { on := 12, ground := Ground.phase }, { on := 13, ground := Ground.phase }], guard := none }) (v := ?va319) rfl (by kernel_rfl) (by kernel_rfl) (by kernel_rfl) rfl (fun _ _ _ h => h) (Or.inl ⟨by rfl, ?ya319⟩) (fun he => by cases he) ?ra319
    case ya319 => (intro w _; go_simp; first | done | (with_reducible rfl))
    try simp only [Act.put, List.setIfInBounds_toArray, List.set_cons_zero, List.set_cons_succ]
    refine takeW (i := 15) (oi := { dst := some 6, op := Op.assign (Operand.tmp 22), type := 29, pos := "play.go:100", after := #[{ on := 10, ground := Ground.data }, { on := 14, ground := Ground.chain }, { on := 0, ground := Ground.phase }, { on := 1, ground := Ground.phase }, { on := 2, ground := Ground.phase }, { on := 3, ground := Ground.phase }, { on := 4, ground := Ground.phase }, { on := 5, ground := Ground.phase }, { on := 6, ground := Ground.phase }, { on := 7, ground := Ground.phase }, { on := 8, ground := Ground.phase }, { on := 9, ground := Ground.phase }, { on := 10, ground := Ground.phase }, { on := 11, ground := Ground.phase }, { on := 12, ground := Ground.phase }, { on := 13, ground := Ground.phase }, { on := 14, ground := Ground.phase }], guard := none }) (v := ?va320) rfl (by kernel_rfl) (by kernel_rfl) (by kernel_rfl) rfl (fun _ _ _ h => h) (Or.inl ⟨by rfl, ?ya320⟩) (fun he => by cases he) ?ra320
    case ya320 => (intro w _; go_simp; first | done | (with_reducible rfl))
    try simp only [Act.put, List.setIfInBounds_toArray, List.set_cons_zero, List.set_cons_succ]
    refine doneL (by kernel_rfl) ?_ _
    refine NoPanic.normal ?_
    have HX12 := Lib.hid M12
    have HL12 := Lib.hid L12
    have hkk := True.intro
    clear M12 L12
    go_upto_region 3 with (fail)
    have M14 : Box wa12.drew w2.heap.size [.int .i64 (-1), .int .i64 3, .int .i64 0] 42 := HX12.out
    have L14 : Below w.heap.size w wa12.drew := below_drew' HL12.out
    clear HX12 HL12
    refine wp_region_noPanic ?_
    refine beginL (S := (fun w' => w'.cell? ⟨w2.heap.size, 0, none⟩ = some (.int .i64 (-1)) ∧ w'.cell? ⟨w2.heap.size, 1, none⟩ = some (.int .i64 3) ∧ w'.cell? ⟨w2.heap.size, 2, none⟩ = some (.int .i64 0))) (L := []) (by kernel_rfl) ⟨M14.cell 0 rfl, M14.cell 1 rfl, M14.cell 2 rfl⟩ (fun hHeld => ?_)
    refine takeW (i := 0) (oi := { dst := some 23, op := Op.move (Operand.tmp 2), type := 29, pos := "play.go:101", after := #[], guard := none }) (v := ?va371) rfl (by kernel_rfl) (by kernel_rfl) (by kernel_rfl) rfl (fun _ _ _ h => h) (Or.inl ⟨by rfl, ?ya371⟩) (fun _ => by assumption) ?ra371
    case ya371 => (intro w _; go_simp; first | done | (with_reducible rfl))
    try simp only [Act.put, List.setIfInBounds_toArray, List.set_cons_zero, List.set_cons_succ]
    refine takeW (i := 1) (oi := { dst := some 24, op := Op.binOp BinOp.eql 29 (Operand.tmp 23) (Operand.const (Value.int IntKind.i64 0)) 29, type := 4, pos := "play.go:101", after := #[{ on := 0, ground := Ground.data }], guard := none }) (v := ?va372) rfl (by kernel_rfl) (by kernel_rfl) (by kernel_rfl) rfl (fun _ _ _ h => h) (Or.inl ⟨by rfl, ?ya372⟩) (fun _ => by assumption) ?ra372
    case ya372 => (intro w _; go_simp; first | done | (with_reducible rfl))
    try simp only [Act.put, List.setIfInBounds_toArray, List.set_cons_zero, List.set_cons_succ]
    refine takeW (i := 2) (oi := { dst := some 25, op := Op.move (Operand.tmp 24), type := 4, pos := "play.go:101", after := #[{ on := 1, ground := Ground.data }], guard := none }) (v := ?va373) rfl (by kernel_rfl) (by kernel_rfl) (by kernel_rfl) rfl (fun _ _ _ h => h) (Or.inl ⟨by rfl, ?ya373⟩) (fun _ => by assumption) ?ra373
    case ya373 => (intro w _; go_simp; first | done | (with_reducible rfl))
    try simp only [Act.put, List.setIfInBounds_toArray, List.set_cons_zero, List.set_cons_succ]
    refine takeW (i := 3) (oi := { dst := some 26, op := Op.move (Operand.tmp 6), type := 29, pos := "play.go:101", after := #[{ on := 2, ground := Ground.guard }], guard := some (2, true) }) (v := ?va374) rfl (by kernel_rfl) (by kernel_rfl) (by kernel_rfl) rfl (fun _ _ _ h => h) (Or.inl ⟨by rfl, ?ya374⟩) (fun _ => by assumption) ?ra374
    case ya374 => (intro w _; go_simp; first | done | (with_reducible rfl))
    try simp only [Act.put, List.setIfInBounds_toArray, List.set_cons_zero, List.set_cons_succ]
    refine takeW (i := 4) (oi := { dst := some 27, op := Op.binOp BinOp.eql 29 (Operand.tmp 26) (Operand.const (Value.int IntKind.i64 0)) 29, type := 4, pos := "play.go:101", after := #[{ on := 3, ground := Ground.data }, { on := 2, ground := Ground.guard }], guard := some (2, true) }) (v := ?va375) rfl (by kernel_rfl) (by kernel_rfl) (by kernel_rfl) rfl (fun _ _ _ h => h) (Or.inl ⟨by rfl, ?ya375⟩) (fun _ => by assumption) ?ra375
    case ya375 => (intro w _; go_simp; first | done | (with_reducible rfl))
    try simp only [Act.put, List.setIfInBounds_toArray, List.set_cons_zero, List.set_cons_succ]
    refine takeW (i := 5) (oi := { dst := some 28, op := Op.pick (Operand.tmp 25) (Operand.tmp 27) (Operand.const (Value.bool false)), type := 4, pos := "play.go:101", after := #[{ on := 2, ground := Ground.data }, { on := 4, ground := Ground.data }], guard := none }) (v := ?va376) rfl (by kernel_rfl) (by kernel_rfl) (by kernel_rfl) rfl (fun _ _ _ h => h) (Or.inl ⟨by rfl, ?ya376⟩) (fun _ => by assumption) ?ra376
    case ya376 => (intro w _; go_simp; first | done | (with_reducible rfl))
    try simp only [Act.put, List.setIfInBounds_toArray, List.set_cons_zero, List.set_cons_succ]
    refine takeW (i := 6) (oi := { dst := some 29, op := Op.move (Operand.tmp 28), type := 4, pos := "play.go:101", after := #[{ on := 5, ground := Ground.data }, { on := 2, ground := Ground.chain }], guard := none }) (v := ?va377) rfl (by kernel_rfl) (by kernel_rfl) (by kernel_rfl) rfl (fun _ _ _ h => h) (Or.inl ⟨by rfl, ?ya377⟩) (fun _ => by assumption) ?ra377
    case ya377 => (intro w _; go_simp; first | done | (with_reducible rfl))
    try simp only [Act.put, List.setIfInBounds_toArray, List.set_cons_zero, List.set_cons_succ]
    refine takeW (i := 7) (oi := { dst := some 30, op := Op.move (Operand.tmp 4), type := 4, pos := "play.go:101", after := #[{ on := 6, ground := Ground.guard }], guard := some (6, true) }) (v := ?va378) rfl (by kernel_rfl) (by kernel_rfl) (by kernel_rfl) rfl (fun _ _ _ h => h) (Or.inl ⟨by rfl, ?ya378⟩) (fun _ => by assumption) ?ra378
    case ya378 => (intro w _; go_simp; first | done | (with_reducible rfl))
    try simp only [Act.put, List.setIfInBounds_toArray, List.set_cons_zero, List.set_cons_succ]
    refine takeW (i := 8) (oi := { dst := some 31, op := Op.pick (Operand.tmp 29) (Operand.tmp 30) (Operand.const (Value.bool false)), type := 4, pos := "play.go:101", after := #[{ on := 6, ground := Ground.data }, { on := 7, ground := Ground.data }], guard := none }) (v := ?va379) rfl (by kernel_rfl) (by kernel_rfl) (by kernel_rfl) rfl (fun _ _ _ h => h) (Or.inl ⟨by rfl, ?ya379⟩) (fun _ => by assumption) ?ra379
    case ya379 => (intro w _; go_simp; first | done | (with_reducible rfl))
    try simp only [Act.put, List.setIfInBounds_toArray, List.set_cons_zero, List.set_cons_succ]
    refine takeW (i := 9) (oi := { dst := some 32, op := Op.move (Operand.tmp 31), type := 4, pos := "play.go:101", after := #[{ on := 8, ground := Ground.data }, { on := 6, ground := Ground.chain }], guard := none }) (v := ?va380) rfl (by kernel_rfl) (by kernel_rfl) (by kernel_rfl) rfl (fun _ _ _ h => h) (Or.inl ⟨by rfl, ?ya380⟩) (fun _ => by assumption) ?ra380
    case ya380 => (intro w _; go_simp; first | done | (with_reducible rfl))
    try simp only [Act.put, List.setIfInBounds_toArray, List.set_cons_zero, List.set_cons_succ]
    refine takeL (i := 10) (oi := { dst := some 33, op := Op.load 42 (Operand.tmp 3), type := 42, pos := "play.go:101", after := #[{ on := 9, ground := Ground.guard }], guard := some (9, true) }) (v := ?va381) rfl (by kernel_rfl) (by kernel_rfl) (by kernel_rfl) (by kernel_rfl) rfl (by kernel_rfl) (by kernel_rfl) (fun _ _ _ h => h) (Or.inl ⟨by rfl, ?ya381⟩) (by assumption) ?ra381
    case ya381 => (intro w hSw; (try dsimp only at hSw); go_simp; first | done | (with_reducible rfl))
    try simp only [Act.put, List.setIfInBounds_toArray, List.set_cons_zero, List.set_cons_succ]
    refine readyL (rs := [11]) (by kernel_rfl) (by simp) ?_
    refine (AllReadyL.cons (o := { dst := some 34, op := Op.call { callee := Callee.value (Operand.func 70), args := #[Operand.const (Value.int IntKind.i64 3)], argTypes := #[3] }, type := 42, pos := "play.go:101", after := #[{ on := 9, ground := Ground.chain }, { on := 9, ground := Ground.guard }], guard := some (9, true) }) rfl (fun K hK => ?_) AllReadyL.nil)
    go_simp
    refine (drop_any _ _).mono ?_
    rintro e wd ⟨rfl, hbd⟩
    have M15 := M14.stays hbd
    have L15 := below_trans L14 hbd L14.size
    clear hbd
    refine hK.out _ _ ⟨M15.cell 0 rfl, M15.cell 1 rfl, M15.cell 2 rfl⟩ (fun hHeld => ?_)
    clear hK K
    try simp only [Act.put, List.setIfInBounds_toArray, List.set_cons_zero, List.set_cons_succ]
    refine takeW (i := 12) (oi := { dst := some 35, op := Op.binOp BinOp.eql 42 (Operand.tmp 33) (Operand.tmp 34) 42, type := 4, pos := "play.go:101", after := #[{ on := 10, ground := Ground.data }, { on := 11, ground := Ground.data }, { on := 9, ground := Ground.guard }], guard := some (9, true) }) (v := ?va382) rfl (by kernel_rfl) (by kernel_rfl) (by kernel_rfl) rfl (fun _ _ _ h => h) (Or.inl ⟨by rfl, ?ya382⟩) (fun _ => by assumption) ?ra382
    case ya382 => (intro w _; go_simp; first | done | (with_reducible rfl))
    try simp only [Act.put, List.setIfInBounds_toArray, List.set_cons_zero, List.set_cons_succ]
    refine takeW (i := 13) (oi := { dst := some 36, op := Op.pick (Operand.tmp 32) (Operand.tmp 35) (Operand.const (Value.bool false)), type := 4, pos := "play.go:101", after := #[{ on := 9, ground := Ground.data }, { on := 12, ground := Ground.data }], guard := none }) (v := ?va383) rfl (by kernel_rfl) (by kernel_rfl) (by kernel_rfl) rfl (fun _ _ _ h => h) (Or.inl ⟨by rfl, ?ya383⟩) (fun _ => by assumption) ?ra383
    case ya383 => (intro w _; go_simp; first | done | (with_reducible rfl))
    try simp only [Act.put, List.setIfInBounds_toArray, List.set_cons_zero, List.set_cons_succ]
    refine takeW (i := 14) (oi := { dst := some 37, op := Op.move (Operand.tmp 36), type := 4, pos := "play.go:101", after := #[{ on := 13, ground := Ground.data }, { on := 11, ground := Ground.chain }], guard := none }) (v := ?va384) rfl (by kernel_rfl) (by kernel_rfl) (by kernel_rfl) rfl (fun _ _ _ h => h) (Or.inl ⟨by rfl, ?ya384⟩) (fun _ => by assumption) ?ra384
    case ya384 => (intro w _; go_simp; first | done | (with_reducible rfl))
    try simp only [Act.put, List.setIfInBounds_toArray, List.set_cons_zero, List.set_cons_succ]
    refine takeW (i := 15) (oi := { dst := some 38, op := Op.move (Operand.tmp 5), type := 62, pos := "play.go:101", after := #[{ on := 14, ground := Ground.guard }], guard := some (14, true) }) (v := ?va385) rfl (by kernel_rfl) (by kernel_rfl) (by kernel_rfl) rfl (fun _ _ _ h => h) (Or.inl ⟨by rfl, ?ya385⟩) (fun _ => by assumption) ?ra385
    case ya385 => (intro w _; go_simp; first | done | (with_reducible rfl))
    try simp only [Act.put, List.setIfInBounds_toArray, List.set_cons_zero, List.set_cons_succ]
    refine takeW (i := 16) (oi := { dst := some 39, op := Op.call { callee := Callee.builtin Builtin.len, args := #[Operand.tmp 38], argTypes := #[62] }, type := 3, pos := "play.go:101", after := #[{ on := 15, ground := Ground.data }, { on := 14, ground := Ground.guard }], guard := some (14, true) }) (v := ?va386) rfl (by kernel_rfl) (by kernel_rfl) (by kernel_rfl) rfl (fun _ _ _ h => h) (Or.inl ⟨by rfl, ?ya386⟩) (fun _ => by assumption) ?ra386
    case ya386 => (intro w _; go_simp; first | done | (with_reducible rfl))
    try simp only [Act.put, List.setIfInBounds_toArray, List.set_cons_zero, List.set_cons_succ]
    refine takeW (i := 17) (oi := { dst := some 40, op := Op.binOp BinOp.eql 3 (Operand.tmp 39) (Operand.const (Value.int IntKind.i64 0)) 3, type := 4, pos := "play.go:101", after := #[{ on := 16, ground := Ground.data }, { on := 14, ground := Ground.guard }], guard := some (14, true) }) (v := ?va387) rfl (by kernel_rfl) (by kernel_rfl) (by kernel_rfl) rfl (fun _ _ _ h => h) (Or.inl ⟨by rfl, ?ya387⟩) (fun _ => by assumption) ?ra387
    case ya387 => (intro w _; go_simp; first | done | (with_reducible rfl))
    try simp only [Act.put, List.setIfInBounds_toArray, List.set_cons_zero, List.set_cons_succ]
    refine takeW (i := 18) (oi := { dst := some 41, op := Op.pick (Operand.tmp 37) (Operand.tmp 40) (Operand.const (Value.bool false)), type := 4, pos := "play.go:101", after := #[{ on := 14, ground := Ground.data }, { on := 17, ground := Ground.data }], guard := none }) (v := ?va388) rfl (by kernel_rfl) (by kernel_rfl) (by kernel_rfl) rfl (fun _ _ _ h => h) (Or.inl ⟨by rfl, ?ya388⟩) (fun _ => by assumption) ?ra388
    case ya388 => (intro w _; go_simp; first | done | (with_reducible rfl))
    try simp only [Act.put, List.setIfInBounds_toArray, List.set_cons_zero, List.set_cons_succ]
    refine takeW (i := 19) (oi := { dst := some 0, op := Op.assign (Operand.tmp 41), type := 4, pos := "play.go:101", after := #[{ on := 18, ground := Ground.data }, { on := 14, ground := Ground.chain }, { on := 0, ground := Ground.phase }, { on := 1, ground := Ground.phase }, { on := 2, ground := Ground.phase }, { on := 3, ground := Ground.phase }, { on := 4, ground := Ground.phase }, { on := 5, ground := Ground.phase }, { on := 6, ground := Ground.phase }, { on := 7, ground := Ground.phase }, { on := 8, ground := Ground.phase }, { on := 9, ground := Ground.phase }, { on := 10, ground := Ground.phase }, { on := 11, ground := Ground.phase }, { on := 12, ground := Ground.phase }, { on := 13, ground := Ground.phase }, { on := 14, ground := Ground.phase }, { on := 15, ground := Ground.phase }, { on := 16, ground := Ground.phase }, { on := 17, ground := Ground.phase }, { on := 18, ground := Ground.phase }], guard := none }) (v := ?va389) rfl (by kernel_rfl) (by kernel_rfl) (by kernel_rfl) rfl (fun _ _ _ h => h) (Or.inl ⟨by rfl, ?ya389⟩) (fun _ => by assumption) ?ra389
    case ya389 => (intro w _; go_simp; first | done | (with_reducible rfl))
    try simp only [Act.put, List.setIfInBounds_toArray, List.set_cons_zero, List.set_cons_succ]
    refine doneL (by kernel_rfl) ?_ _
    refine NoPanic.normal ?_
    have HL15 := Lib.hid L15
    go_wp2_with fail
    go_ret
    exact ⟨rfl, HL15.out⟩

end Go.Proofs.Ytkfaibdflbdpgaa

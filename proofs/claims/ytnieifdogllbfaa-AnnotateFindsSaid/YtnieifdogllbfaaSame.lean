/- The contracts of slices.Equal at []int, place.Same. -/
import Derived.Test.YtnieifdogllbfaaMvPlain
import Derived.Test.YtnieifdogllbfaaBox2
import Derived.Test.YtnieifdogllbfaaOwn
namespace Go.Proofs.Ytnieifdogllbfaa
open Go.ChangeShapes Go.WideShapes Go.ChangeAt Go.RowKit
set_option linter.unusedVariables false

theorem eq_of_getD {xs ys : List Int} (hl : xs.length = ys.length) (h : ∀ i, i < xs.length → xs.getD i 0 = ys.getD i 0) : xs = ys := by
  refine List.ext_getElem hl fun i h1 h2 => ?_
  have := h i h1
  rw [List.getD_eq_getElem?_getD, List.getElem?_eq_getElem h1, List.getD_eq_getElem?_getD, List.getElem?_eq_getElem h2] at this
  simpa using this
set_option maxRecDepth 100000 in
theorem equal_any (v u : Value) (xs ys : List Int) (w : World) (h : RdI w v xs) (h' : RdI w u ys) :
    Calls Try.prog 77 #[v, u] w fun e w' => e = .returned (.bool (decide (xs = ys))) ∧ Below w.heap.size w w' := by
  have HX := Lib.hid h
  have HY := Lib.hid h'
  obtain ⟨a, c, rfl, h1, h2⟩ := h.form
  obtain ⟨b, d, rfl, h3, h4⟩ := h'.form
  unfold maxLen at h2 h4
  clear h h'
  by_cases hl : xs.length = ys.length
  rotate_left
  · have HE : Hid (decide (xs = ys) = false) := Lib.hid (by simp; intro e; exact hl (by rw [e]))
    have hl' : ((xs.length : Int) != (ys.length : Int)) = true := by simp; omega
    clear hl
    go_enter Try.func77, Try.ntmps77
    go_wp2_with fail
    go_ret
    exact ⟨by rw [HE.out]; rfl, Below.refl _ _⟩
  have HL := Lib.hid hl
  have hl' : ((xs.length : Int) != (ys.length : Int)) = false := by simp; omega
  clear hl
  go_enter Try.func77, Try.ntmps77
  go_wp2_with fail
  go_loopw [13] (fun i wr => ∃ k : Nat, k ≤ xs.length ∧ i = .int .i64 k ∧ Hid (∀ i, i < k → xs.getD i 0 = ys.getD i 0) ∧ Hid (Below w.heap.size w wr)) (fun i _ => xs.length - (intOf i).toNat)
  case atStart => exact ⟨0, Nat.zero_le _, rfl, Lib.hid (fun i hi => absurd hi (Nat.not_lt_zero _)), Lib.hid (Below.refl _ _)⟩
  case round =>
    obtain ⟨k, hk, rfl, HA, HB⟩ := hrel
    have hxy : ys.length = xs.length := HL.out.symm
    by_cases hlt : k < xs.length
    · obtain ⟨g, o, rfl, hcx⟩ := cells_rd (HX.out.below HB.out (Nat.le_refl _)) (by omega)
      obtain ⟨g2, o2, rfl, hcy⟩ := cells_rd (HY.out.below HB.out (Nat.le_refl _)) (by omega)
      have c1 := hcx k hlt
      have c2 := hcy k (by omega)
      have hky : (k : Int) < (ys.length : Int) := by omega
      clear hcx hcy
      have HEQ : Hid (xs.getD k 0 = ys.getD k 0 → ∀ i, i < k + 1 → xs.getD i 0 = ys.getD i 0) := Lib.hid (fun e i hi => by
        by_cases q : i = k
        · subst q; exact e
        · exact HA.out i (by omega))
      have HNE : Hid (xs.getD k 0 ≠ ys.getD k 0 → decide (xs = ys) = false) := Lib.hid (fun e => by simp; intro q; exact e (by rw [q]))
      clear hxy
      generalize xs.getD k 0 = x at *
      generalize ys.getD k 0 = y at *
      by_cases hxe : x = y
      · subst hxe
        have HA2 := Lib.hid (HEQ.out rfl)
        clear HEQ HNE
        go_wp2_with fail
        go_quiet (fail)
        go_wp2_with fail
        go_roundw
        case rel => exact ⟨k + 1, by omega, by go_num, HA2, Lib.hid (below_drewN HB.out _)⟩
        case measure => simp [intOf]; omega
      · have HF := Lib.hid (HNE.out hxe)
        have hne : (x != y) = true := by simpa using hxe
        clear HEQ HNE hxe
        go_wp2_with fail
        go_quiet (fail)
        go_wp2_with fail
        go_ret
        exact ⟨by rw [HF.out]; rfl, below_drewN HB.out _⟩
    · have HT : Hid (decide (xs = ys) = true) := Lib.hid (by simp; exact eq_of_getD HL.out (fun i hi => HA.out i (by omega)))
      clear hxy
      go_wp2_with fail
      go_ret
      exact ⟨by rw [HT.out]; rfl, HB.out⟩

def sameZ (p q : PosZ) : Bool := decide (p.cells = q.cells) && decide (p.h0 = q.h0) && decide (p.h1 = q.h1) && p.turn == q.turn
set_option maxRecDepth 100000 in
set_option maxHeartbeats 1000000 in
theorem Same_any (p q : PosZ) (vc v0 v1 uc u0 u1 : Value) (w : World) (hp : RdP w p vc v0 v1) (hq : RdP w q uc u0 u1) :
    Calls Try.prog 69 #[(.agg #[vc, v0, v1, .int .i64 p.turn, .int .i64 p.quiet]), (.agg #[uc, u0, u1, .int .i64 q.turn, .int .i64 q.quiet])] w fun e w' => e = .returned (.bool (sameZ p q)) ∧ Below w.heap.size w w' := by
  have HP := Lib.hid hp
  have HQ := Lib.hid hq
  have HD : Hid (sameZ p q = (decide (p.cells = q.cells) && decide (p.h0 = q.h0) && decide (p.h1 = q.h1) && p.turn == q.turn)) := Lib.hid rfl
  obtain ⟨ac, cc, rfl, _, _⟩ := hp.1.form
  obtain ⟨a0, c0, rfl, _, _⟩ := hp.2.1.form
  obtain ⟨a1, c1, rfl, _, _⟩ := hp.2.2.form
  obtain ⟨bc, dc, rfl, _, _⟩ := hq.1.form
  obtain ⟨b0, d0, rfl, _, _⟩ := hq.2.1.form
  obtain ⟨b1, d1, rfl, _, _⟩ := hq.2.2.form
  clear hp hq
  go_enter Try.func69, Try.ntmps69
  go_upto_region 1 with (fail)
  have B0 : Box ((w.alloc (.cells #[.slice ac p.cells.length cc, .slice a0 p.h0.length c0, .slice a1 p.h1.length c1, .int .i64 p.turn, .int .i64 p.quiet] 43)).alloc (.cells #[.slice bc q.cells.length dc, .slice b0 q.h0.length d0, .slice b1 q.h1.length d1, .int .i64 q.turn, .int .i64 q.quiet] 43)) (w.heap.size) [.slice ac p.cells.length cc, .slice a0 p.h0.length c0, .slice a1 p.h1.length c1, .int .i64 p.turn, .int .i64 p.quiet] 43 := ((Box.new' w (w.heap.size) [.slice ac p.cells.length cc, .slice a0 p.h0.length c0, .slice a1 p.h1.length c1, .int .i64 p.turn, .int .i64 p.quiet] 43 (by simp <;> omega)).alloc _)
  have B1 : Box ((w.alloc (.cells #[.slice ac p.cells.length cc, .slice a0 p.h0.length c0, .slice a1 p.h1.length c1, .int .i64 p.turn, .int .i64 p.quiet] 43)).alloc (.cells #[.slice bc q.cells.length dc, .slice b0 q.h0.length d0, .slice b1 q.h1.length d1, .int .i64 q.turn, .int .i64 q.quiet] 43)) (w.heap.size + 1) [.slice bc q.cells.length dc, .slice b0 q.h0.length d0, .slice b1 q.h1.length d1, .int .i64 q.turn, .int .i64 q.quiet] 43 := (Box.new' (w.alloc (.cells #[.slice ac p.cells.length cc, .slice a0 p.h0.length c0, .slice a1 p.h1.length c1, .int .i64 p.turn, .int .i64 p.quiet] 43)) (w.heap.size + 1) [.slice bc q.cells.length dc, .slice b0 q.h0.length d0, .slice b1 q.h1.length d1, .int .i64 q.turn, .int .i64 q.quiet] 43 (by simp <;> omega))
  have HB : Hid (Below w.heap.size w ((w.alloc (.cells #[.slice ac p.cells.length cc, .slice a0 p.h0.length c0, .slice a1 p.h1.length c1, .int .i64 p.turn, .int .i64 p.quiet] 43)).alloc (.cells #[.slice bc q.cells.length dc, .slice b0 q.h0.length d0, .slice b1 q.h1.length d1, .int .i64 q.turn, .int .i64 q.quiet] 43))) := Lib.hid (((Below.refl w.heap.size w).alloc (Nat.le_refl _) _).alloc (by simp <;> omega) _)
  have hz0 : w.heap.size + 1 < ((w.alloc (.cells #[.slice ac p.cells.length cc, .slice a0 p.h0.length c0, .slice a1 p.h1.length c1, .int .i64 p.turn, .int .i64 p.quiet] 43)).alloc (.cells #[.slice bc q.cells.length dc, .slice b0 q.h0.length d0, .slice b1 q.h1.length d1, .int .i64 q.turn, .int .i64 q.quiet] 43)).heap.size := by simp
  generalize ((w.alloc (.cells #[.slice ac p.cells.length cc, .slice a0 p.h0.length c0, .slice a1 p.h1.length c1, .int .i64 p.turn, .int .i64 p.quiet] 43)).alloc (.cells #[.slice bc q.cells.length dc, .slice b0 q.h0.length d0, .slice b1 q.h1.length d1, .int .i64 q.turn, .int .i64 q.quiet] 43)) = w0 at *
  have HPw := Lib.hid (HP.out.below HB.out (Nat.le_refl _))
  have HQw := Lib.hid (HQ.out.below HB.out (Nat.le_refl _))
  have HBx := Lib.hid B0
  have HBy := Lib.hid B1
  have HB00 : Hid (Below w0.heap.size w0 w0) := Lib.hid (Below.refl _ _)
  clear B0 B1
  have x0 := (HBx.out.below HB00.out (by omega)).cell 0 rfl
  have y0 := (HBy.out.below HB00.out (by omega)).cell 0 rfl
  go_wp2_with fail
  refine (equal_any _ _ p.cells q.cells w0 HPw.out.1 HQw.out.1).mono ?_
  rintro e w1 ⟨rfl, hb1⟩
  have HB1 := Lib.hid hb1
  clear hb1 x0 y0
  have hs1 := HB1.out.size
  have x1 := (HBx.out.below HB1.out (by omega)).cell 1 rfl
  have y1 := (HBy.out.below HB1.out (by omega)).cell 1 rfl
  cases h1 : decide (p.cells = q.cells)
  · have HE : Hid (sameZ p q = false) := Lib.hid (by rw [HD.out, h1]; rfl)
    clear h1
    go_wp2_with fail
    go_ret
    exact ⟨by rw [HE.out]; rfl, below_trans HB.out HB1.out HB.out.size⟩
  have HH1 := Lib.hid h1
  clear h1
  go_wp2_with fail
  refine (equal_any _ _ p.h0 q.h0 w1 (HPw.out.2.1.below HB1.out (Nat.le_refl _)) (HQw.out.2.1.below HB1.out (Nat.le_refl _))).mono ?_
  rintro e w2 ⟨rfl, hb2⟩
  have HB2 := Lib.hid (below_trans HB1.out hb2 HB1.out.size)
  clear hb2 x1 y1
  have hs2 := HB2.out.size
  have x2 := (HBx.out.below HB2.out (by omega)).cell 2 rfl
  have y2 := (HBy.out.below HB2.out (by omega)).cell 2 rfl
  cases h2 : decide (p.h0 = q.h0)
  · have HE : Hid (sameZ p q = false) := Lib.hid (by rw [HD.out, HH1.out, h2]; rfl)
    clear h2
    go_wp2_with fail
    go_ret
    exact ⟨by rw [HE.out]; rfl, below_trans HB.out HB2.out HB.out.size⟩
  have HH2 := Lib.hid h2
  clear h2
  go_wp2_with fail
  refine (equal_any _ _ p.h1 q.h1 w2 (HPw.out.2.2.below HB2.out (Nat.le_refl _)) (HQw.out.2.2.below HB2.out (Nat.le_refl _))).mono ?_
  rintro e w3 ⟨rfl, hb3⟩
  have HB3 := Lib.hid (below_trans HB2.out hb3 HB2.out.size)
  clear hb3 x2 y2
  have x3 := (HBx.out.below HB3.out (by omega)).cell 3 rfl
  have y3 := (HBy.out.below HB3.out (by omega)).cell 3 rfl
  cases h3 : decide (p.h1 = q.h1)
  · have HE : Hid (sameZ p q = false) := Lib.hid (by rw [HD.out, HH1.out, HH2.out, h3]; rfl)
    clear h3
    go_wp2_with fail
    go_ret
    exact ⟨by rw [HE.out]; rfl, below_trans HB.out HB3.out HB.out.size⟩
  · have HE : Hid (sameZ p q = (p.turn == q.turn)) := Lib.hid (by rw [HD.out, HH1.out, HH2.out, h3]; rfl)
    clear h3
    go_wp2_with fail
    go_ret
    exact ⟨by rw [HE.out]; rfl, below_trans HB.out HB3.out HB.out.size⟩

end Go.Proofs.Ytnieifdogllbfaa

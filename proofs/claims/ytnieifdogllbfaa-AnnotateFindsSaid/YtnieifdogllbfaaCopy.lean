/- The contracts of place.Copy, place.Same. -/
import Derived.Test.YtnieifdogllbfaaMvPlain
import Derived.Test.YtnieifdogllbfaaBox2
import Derived.Test.YtnieifdogllbfaaOwn
import Derived.Test.YtnieifdogllbfaaHeldL
namespace Go.Proofs.Ytnieifdogllbfaa
open Go.ChangeShapes Go.WideShapes Go.ChangeAt Go.RowKit
set_option linter.unusedVariables false

/-- a position whose rows the call owns, apart from one another. -/
def OwnP (base : Nat) (w : World) (p : PosZ) (vc v0 v1 : Value) : Prop :=
  w.ownsRow base 3 1 vc p.cells.length (ints p.cells) ∧ w.ownsRow base 3 1 v0 p.h0.length (ints p.h0) ∧ w.ownsRow base 3 1 v1 p.h1.length (ints p.h1) ∧
  (vc.ownBlock = none ∨ vc.ownBlock ≠ v0.ownBlock) ∧ (vc.ownBlock = none ∨ vc.ownBlock ≠ v1.ownBlock) ∧ (v0.ownBlock = none ∨ v0.ownBlock ≠ v1.ownBlock)
theorem OwnP.rd {base : Nat} {w : World} {p : PosZ} {vc v0 v1 : Value} (h : OwnP base w p vc v0 v1) : RdP w p vc v0 v1 := ⟨RdI.of_own h.1, RdI.of_own h.2.1, RdI.of_own h.2.2.1⟩
theorem OwnP.base {base b : Nat} {w : World} {p : PosZ} {vc v0 v1 : Value} (h : OwnP base w p vc v0 v1) (hb : b ≤ base) : OwnP b w p vc v0 v1 := ⟨own_base h.1 hb, own_base h.2.1 hb, own_base h.2.2.1 hb, h.2.2.2⟩
theorem apart_of {v : Value} {v' : Value} {B : Nat} (h : ∀ k, v.ownBlock = some k → k < B) (h' : ∀ k, v'.ownBlock = some k → B ≤ k) : v.ownBlock = none ∨ v.ownBlock ≠ v'.ownBlock := by
  cases hv : v.ownBlock with
  | none => exact .inl rfl
  | some k =>
    right
    intro e
    have := h k hv
    have := h' k e.symm
    omega
theorem apart_swap {v0 v1 : Value} (h : v0.ownBlock = none ∨ v0.ownBlock ≠ v1.ownBlock) : v1.ownBlock = none ∨ v1.ownBlock ≠ v0.ownBlock := by
  cases h1 : v1.ownBlock with
  | none => exact .inl rfl
  | some b =>
    right
    rcases h with h | h
    · rw [h]; simp
    · rw [h1] at h; exact fun e => h e.symm
def CopyPost (p : PosZ) (w : World) (e : Ending) (w' : World) : Prop := ∃ vc v0 v1, e = .returned (posV p vc v0 v1) ∧ OwnP w.heap.size w' p vc v0 v1 ∧ Below w.heap.size w w'

set_option maxRecDepth 100000 in
set_option maxHeartbeats 4000000 in
theorem Copy_any (p : PosZ) (vc v0 v1 : Value) (w : World) (hp : RdP w p vc v0 v1) (hc : p.cells.length ≤ 1000000) (h0 : p.h0.length ≤ 1000000) (h1 : p.h1.length ≤ 1000000) :
    Calls Try.prog 44 #[(.agg #[vc, v0, v1, .int .i64 p.turn, .int .i64 p.quiet])] w (CopyPost p w) := by
  have HC := Lib.hid hp.1
  have H0 := Lib.hid hp.2.1
  have H1 := Lib.hid hp.2.2
  obtain ⟨ac, cc, rfl, hc1, hc2⟩ := hp.1.form
  obtain ⟨a0, c0, rfl, _, hk2⟩ := hp.2.1.form
  obtain ⟨a1, c1, rfl, _, hl2⟩ := hp.2.2.form
  unfold maxLen at hc2 hk2 hl2
  clear hp
  go_enter Try.func44, Try.ntmps44
  go_upto_region 1 with (fail)
  have B0 : Box ((w.alloc (.cells #[.slice ac p.cells.length cc, .slice a0 p.h0.length c0, .slice a1 p.h1.length c1, .int .i64 p.turn, .int .i64 p.quiet] 43)).alloc (.cells #[.slice none 0 0, .slice none 0 0, .slice none 0 0, .int .i64 0, .int .i64 0] 43)) (w.heap.size) [.slice ac p.cells.length cc, .slice a0 p.h0.length c0, .slice a1 p.h1.length c1, .int .i64 p.turn, .int .i64 p.quiet] 43 := ((Box.new' w (w.heap.size) [.slice ac p.cells.length cc, .slice a0 p.h0.length c0, .slice a1 p.h1.length c1, .int .i64 p.turn, .int .i64 p.quiet] 43 (by simp <;> omega)).alloc _)
  have B1 : Box ((w.alloc (.cells #[.slice ac p.cells.length cc, .slice a0 p.h0.length c0, .slice a1 p.h1.length c1, .int .i64 p.turn, .int .i64 p.quiet] 43)).alloc (.cells #[.slice none 0 0, .slice none 0 0, .slice none 0 0, .int .i64 0, .int .i64 0] 43)) (w.heap.size + 1) [.slice none 0 0, .slice none 0 0, .slice none 0 0, .int .i64 0, .int .i64 0] 43 := (Box.new' (w.alloc (.cells #[.slice ac p.cells.length cc, .slice a0 p.h0.length c0, .slice a1 p.h1.length c1, .int .i64 p.turn, .int .i64 p.quiet] 43)) (w.heap.size + 1) [.slice none 0 0, .slice none 0 0, .slice none 0 0, .int .i64 0, .int .i64 0] 43 (by simp <;> omega))
  have HB : Hid (Below w.heap.size w ((w.alloc (.cells #[.slice ac p.cells.length cc, .slice a0 p.h0.length c0, .slice a1 p.h1.length c1, .int .i64 p.turn, .int .i64 p.quiet] 43)).alloc (.cells #[.slice none 0 0, .slice none 0 0, .slice none 0 0, .int .i64 0, .int .i64 0] 43))) := Lib.hid (((Below.refl w.heap.size w).alloc (Nat.le_refl _) _).alloc (by simp <;> omega) _)
  have hz0 : w.heap.size + 1 < ((w.alloc (.cells #[.slice ac p.cells.length cc, .slice a0 p.h0.length c0, .slice a1 p.h1.length c1, .int .i64 p.turn, .int .i64 p.quiet] 43)).alloc (.cells #[.slice none 0 0, .slice none 0 0, .slice none 0 0, .int .i64 0, .int .i64 0] 43)).heap.size := by simp
  generalize ((w.alloc (.cells #[.slice ac p.cells.length cc, .slice a0 p.h0.length c0, .slice a1 p.h1.length c1, .int .i64 p.turn, .int .i64 p.quiet] 43)).alloc (.cells #[.slice none 0 0, .slice none 0 0, .slice none 0 0, .int .i64 0, .int .i64 0] 43)) = w0 at *
  have HCw := Lib.hid (HC.out.below HB.out (Nat.le_refl _))
  have H0w := Lib.hid (H0.out.below HB.out (Nat.le_refl _))
  have H1w := Lib.hid (H1.out.below HB.out (Nat.le_refl _))
  have HBx := Lib.hid B0
  have HBz := Lib.hid B1
  have e0 := B0.cell 0 rfl
  clear B0 B1
  go_wp2_with fail
  refine (Clone_any _ p.cells _ HCw.out hc).mono ?_
  rintro e wA0 ⟨vx, rfl, ho1, hb1⟩
  obtain ⟨an, cn, rfl⟩ := own_form2 ho1
  have HOc := Lib.hid ho1
  have HB1 := Lib.hid hb1
  have s1 := hb1.size
  have e0' := (HBx.out.below HB1.out (by omega)).cell 0 rfl
  have e0f := (HBx.out.below HB1.out (by omega)).frozen 0
  clear ho1 hb1 e0
  go_upto_region 2 with (fail)
  have bxn := (HBx.out.below HB1.out (by omega)).set 0 (.slice an p.cells.length cn)
  have bzn : Box (wA0.setCell ⟨w.heap.size, 0, none⟩ (.slice an p.cells.length cn)) (w.heap.size + 1) [.slice none 0 0, .slice none 0 0, .slice none 0 0, .int .i64 0, .int .i64 0] 43 := (HBz.out.below HB1.out (by omega)).far ⟨w.heap.size, 0, none⟩ _ (by show ¬ w.heap.size + 1 = w.heap.size; omega)
  have ocn := ownsRow_setCell_below (own_base HOc.out (show w.heap.size + 1 + 1 ≤ w0.heap.size by omega)) (a := ⟨w.heap.size, 0, none⟩) (by simp; omega) (.slice an p.cells.length cn)
  have lzn := (below_trans HB.out HB1.out HB.out.size).setCell (p := ⟨w.heap.size, 0, none⟩) (Nat.le_refl _) (.slice an p.cells.length cn)
  have hln : w.heap.size + 1 + 1 ≤ (wA0.setCell ⟨w.heap.size, 0, none⟩ (.slice an p.cells.length cn)).heap.size := by simp; omega
  clear e0' e0f
  generalize (wA0.setCell ⟨w.heap.size, 0, none⟩ (.slice an p.cells.length cn)) = wq at *
  have Bxz : Box wq.drew w.heap.size [(.slice an p.cells.length cn), .slice a0 p.h0.length c0, .slice a1 p.h1.length c1, .int .i64 p.turn, .int .i64 p.quiet] 43 := bxn
  have BZz : Box wq.drew (w.heap.size + 1) [.slice none 0 0, .slice none 0 0, .slice none 0 0, .int .i64 0, .int .i64 0] 43 := bzn
  have Ocz : wq.drew.ownsRow (w.heap.size + 1 + 1) 3 1 (.slice an p.cells.length cn) p.cells.length (ints p.cells) := ocn
  have Lz : Below w.heap.size w wq.drew := below_drew' lzn
  have hlo : w.heap.size + 1 + 1 ≤ wq.drew.heap.size := hln
  have R0z := H0.out.below Lz (Nat.le_refl _)
  have R1z := H1.out.below Lz (Nat.le_refl _)
  clear bxn bzn ocn lzn hln
  refine wp_region_noPanic ?_
  refine beginL (S := (fun w' => w'.cell? ⟨w.heap.size, 1, none⟩ = some (.slice a0 p.h0.length c0) ∧ w'.cell? ⟨w.heap.size, 2, none⟩ = some (.slice a1 p.h1.length c1))) (L := [10]) (by kernel_rfl) ⟨Bxz.cell 1 rfl, Bxz.cell 2 rfl⟩ (fun hHeld => ?_)
  refine takeW (i := 0) (oi := { dst := some 7, op := Op.fieldAddr 43 (Operand.tmp 1) 1, type := 0, pos := "place.go:38", after := #[], guard := none }) (v := ?va1) rfl (by kernel_rfl) (by kernel_rfl) (by kernel_rfl) rfl (fun _ _ _ h => h) (Or.inl ⟨by rfl, ?ya1⟩) (fun _ => by assumption) ?ra1
  case ya1 => (intro w _; go_simp; first | done | (with_reducible rfl))
  try simp only [Act.put, List.setIfInBounds_toArray, List.set_cons_zero, List.set_cons_succ]
  refine takeW (i := 4) (oi := { dst := some 11, op := Op.fieldAddr 43 (Operand.tmp 1) 1, type := 0, pos := "place.go:38", after := #[], guard := none }) (v := ?va2) rfl (by kernel_rfl) (by kernel_rfl) (by kernel_rfl) rfl (fun _ _ _ h => h) (Or.inl ⟨by rfl, ?ya2⟩) (fun _ => by assumption) ?ra2
  case ya2 => (intro w _; go_simp; first | done | (with_reducible rfl))
  try simp only [Act.put, List.setIfInBounds_toArray, List.set_cons_zero, List.set_cons_succ]
  refine takeW (i := 1) (oi := { dst := some 8, op := Op.indexAddr 41 (Operand.tmp 7) (Operand.const (Value.int IntKind.i64 0)), type := 0, pos := "place.go:38", after := #[{ on := 0, ground := Ground.data }], guard := none }) (v := ?va3) rfl (by kernel_rfl) (by kernel_rfl) (by kernel_rfl) rfl (fun _ _ _ h => h) (Or.inl ⟨by rfl, ?ya3⟩) (fun _ => by assumption) ?ra3
  case ya3 => (intro w _; go_simp; first | done | (with_reducible rfl))
  try simp only [Act.put, List.setIfInBounds_toArray, List.set_cons_zero, List.set_cons_succ]
  refine takeW (i := 5) (oi := { dst := some 12, op := Op.indexAddr 41 (Operand.tmp 11) (Operand.const (Value.int IntKind.i64 1)), type := 0, pos := "place.go:38", after := #[{ on := 4, ground := Ground.data }], guard := none }) (v := ?va4) rfl (by kernel_rfl) (by kernel_rfl) (by kernel_rfl) rfl (fun _ _ _ h => h) (Or.inl ⟨by rfl, ?ya4⟩) (fun _ => by assumption) ?ra4
  case ya4 => (intro w _; go_simp; first | done | (with_reducible rfl))
  try simp only [Act.put, List.setIfInBounds_toArray, List.set_cons_zero, List.set_cons_succ]
  refine takeL (i := 2) (oi := { dst := some 9, op := Op.load 23 (Operand.tmp 8), type := 23, pos := "place.go:38", after := #[{ on := 1, ground := Ground.data }], guard := none }) (v := ?va5) rfl (by kernel_rfl) (by kernel_rfl) (by kernel_rfl) (by kernel_rfl) rfl (by kernel_rfl) (by kernel_rfl) (fun _ _ _ h => h) (Or.inl ⟨by rfl, ?ya5⟩) (by assumption) ?ra5
  case ya5 => (intro w hSw; (try dsimp only at hSw); go_simp; first | done | (with_reducible rfl))
  try simp only [Act.put, List.setIfInBounds_toArray, List.set_cons_zero, List.set_cons_succ]
  refine takeL (i := 6) (oi := { dst := some 13, op := Op.load 23 (Operand.tmp 12), type := 23, pos := "place.go:38", after := #[{ on := 5, ground := Ground.data }], guard := none }) (v := ?va6) rfl (by kernel_rfl) (by kernel_rfl) (by kernel_rfl) (by kernel_rfl) rfl (by kernel_rfl) (by kernel_rfl) (fun _ _ _ h => h) (Or.inl ⟨by rfl, ?ya6⟩) (by assumption) ?ra6
  case ya6 => (intro w hSw; (try dsimp only at hSw); go_simp; first | done | (with_reducible rfl))
  try simp only [Act.put, List.setIfInBounds_toArray, List.set_cons_zero, List.set_cons_succ]
  refine readyL (rs := [3]) (by kernel_rfl) (by simp) ?_
  refine (AllReadyL.cons (o := { dst := some 10, op := Op.call { callee := Callee.value (Operand.func 53), args := #[Operand.tmp 9], argTypes := #[23] }, type := 23, pos := "place.go:38", after := #[{ on := 2, ground := Ground.data }], guard := none }) rfl (fun K hK => ?_) AllReadyL.nil)
  go_simp
  refine (Clone_any _ p.h0 _ R0z (by omega)).mono ?_
  rintro e wa3 ⟨vx, rfl, ho3, hb3⟩
  obtain ⟨am, cm, rfl⟩ := own_form2 ho3
  have Hz3 := hb3.size
  have Bx3 := Bxz.stays hb3
  have BZ3 := BZz.stays hb3
  have R13 := R1z.below hb3 (Nat.le_refl _)
  have Oc3 := own_stays Ocz hb3
  have L3 := below_trans Lz hb3 Lz.size
  have LtC : ∀ k, Value.ownBlock (.slice an p.cells.length cn) = some k → k < wq.drew.heap.size := fun k hk => (Ocz.lt k hk).2
  have Lt3 : ∀ k, Value.ownBlock (.slice am p.h0.length cm) = some k → k < wa3.heap.size ∧ wq.drew.heap.size ≤ k := fun k hk => ⟨(ho3.lt k hk).2, (ho3.lt k hk).1⟩
  have P3 := own_base ho3 hlo
  clear hb3 ho3
  refine hK.out _ _ ⟨Bx3.cell 1 rfl, Bx3.cell 2 rfl⟩ (fun hHeld => ?_)
  clear hK K
  try simp only [Act.put, List.setIfInBounds_toArray, List.set_cons_zero, List.set_cons_succ]
  refine readyL (rs := [7]) (by kernel_rfl) (by simp) ?_
  refine (AllReadyL.cons (o := { dst := some 14, op := Op.call { callee := Callee.value (Operand.func 53), args := #[Operand.tmp 13], argTypes := #[23] }, type := 23, pos := "place.go:38", after := #[{ on := 6, ground := Ground.data }, { on := 3, ground := Ground.chain }], guard := none }) rfl (fun K hK => ?_) AllReadyL.nil)
  go_simp
  refine (Clone_any _ p.h1 _ R13 (by omega)).mono ?_
  rintro e wa7 ⟨vx, rfl, ho7, hb7⟩
  obtain ⟨ao, co, rfl⟩ := own_form2 ho7
  have hz3 := Hz3
  have Bx7 := Bx3.stays hb7
  have BZ7 := BZ3.stays hb7
  have Oc7 := own_stays Oc3 hb7
  have P37 := own_stays P3 hb7
  have L7 := below_trans L3 hb7 L3.size
  have P7 := own_base ho7 (Nat.le_trans hlo (Nat.le_trans hz3 (Nat.le_refl _)))
  have Lt7 : ∀ k, Value.ownBlock (.slice ao p.h1.length co) = some k → wa3.heap.size ≤ k := fun k hk => (ho7.lt k hk).1
  clear hb7 ho7
  refine hK.out _ _ ⟨Bx7.cell 1 rfl, Bx7.cell 2 rfl⟩ (fun hHeld => ?_)
  clear hK K
  try simp only [Act.put, List.setIfInBounds_toArray, List.set_cons_zero, List.set_cons_succ]
  refine takeW (i := 8) (oi := { dst := some 15, op := Op.build 41 #[(0, Operand.tmp 10), (1, Operand.tmp 14)], type := 41, pos := "place.go:38", after := #[{ on := 3, ground := Ground.data }, { on := 7, ground := Ground.data }], guard := none }) (v := ?va7) rfl (by kernel_rfl) (by kernel_rfl) (by kernel_rfl) rfl (fun _ _ _ h => h) (Or.inl ⟨by rfl, ?ya7⟩) (fun _ => by assumption) ?ra7
  case ya7 => (intro w _; go_simp; first | done | (with_reducible rfl))
  try simp only [Act.put, List.setIfInBounds_toArray, List.set_cons_zero, List.set_cons_succ]
  refine takeW (i := 9) (oi := { dst := some 16, op := Op.fieldAddr 43 (Operand.tmp 1) 1, type := 0, pos := "place.go:38", after := #[{ on := 0, ground := Ground.phase }, { on := 1, ground := Ground.phase }, { on := 2, ground := Ground.phase }, { on := 3, ground := Ground.phase }, { on := 4, ground := Ground.phase }, { on := 5, ground := Ground.phase }, { on := 6, ground := Ground.phase }, { on := 7, ground := Ground.phase }, { on := 8, ground := Ground.phase }], guard := none }) (v := ?va8) rfl (by kernel_rfl) (by kernel_rfl) (by kernel_rfl) rfl (fun _ _ _ h => h) (Or.inl ⟨by rfl, ?ya8⟩) (fun _ => by assumption) ?ra8
  case ya8 => (intro w _; go_simp; first | done | (with_reducible rfl))
  try simp only [Act.put, List.setIfInBounds_toArray, List.set_cons_zero, List.set_cons_succ]
  refine readyL (rs := [10]) (by kernel_rfl) (by simp) ?_
  refine (AllReadyL.late (o := { dst := none, op := Op.store 41 (Operand.tmp 16) (Operand.tmp 15), type := 0, pos := "place.go:38", after := #[{ on := 9, ground := Ground.data }, { on := 8, ground := Ground.data }, { on := 7, ground := Ground.chain }, { on := 0, ground := Ground.phase }, { on := 1, ground := Ground.phase }, { on := 2, ground := Ground.phase }, { on := 3, ground := Ground.phase }, { on := 4, ground := Ground.phase }, { on := 5, ground := Ground.phase }, { on := 6, ground := Ground.phase }, { on := 7, ground := Ground.phase }, { on := 8, ground := Ground.phase }], guard := none }) rfl (by kernel_rfl) (fun K hK => ?_) AllReadyL.nil)
  have d1f := Bx7.frozen 1
  have d2f := Bx7.frozen 2
  have d1c := Bx7.cell 1 rfl
  have d2c := Bx7.cell 2 rfl
  go_simp
  refine K_world ?_
  intro w9 e9
  have Bx10 : Box w9 w.heap.size [(.slice an p.cells.length cn), (.slice am p.h0.length cm), (.slice ao p.h1.length co), .int .i64 p.turn, .int .i64 p.quiet] 43 := by rw [e9]; exact (Bx7.set 1 (.slice am p.h0.length cm)).set 2 (.slice ao p.h1.length co)
  have E9 := Lib.hid e9
  clear e9 d1f d2f d1c d2c
  refine hK.out _ _ ?_
  clear hK K
  try simp only [Act.put, List.setIfInBounds_toArray, List.set_cons_zero, List.set_cons_succ]
  refine doneL (by kernel_rfl) ?_ _
  refine NoPanic.normal ?_
  have HOw : Hid (OwnP (w.heap.size + 1 + 1) w9 p (.slice an p.cells.length cn) (.slice am p.h0.length cm) (.slice ao p.h1.length co)) := Lib.hid ⟨by rw [E9.out]; exact ownsRow_setCell_below (ownsRow_setCell_below Oc7 (by simp; omega) _) (by simp; omega) _, by rw [E9.out]; exact ownsRow_setCell_below (ownsRow_setCell_below P37 (by simp; omega) _) (by simp; omega) _, by rw [E9.out]; exact ownsRow_setCell_below (ownsRow_setCell_below P7 (by simp; omega) _) (by simp; omega) _, apart_of LtC (fun k hk => (Lt3 k hk).2), apart_of LtC (fun k hk => Nat.le_trans Hz3 (Lt7 k hk)), apart_of (fun k hk => (Lt3 k hk).1) Lt7⟩
  have HL9 : Hid (Below w.heap.size w w9) := Lib.hid (by rw [E9.out]; exact (L7.setCell (Nat.le_refl _) _).setCell (Nat.le_refl _) _)
  have HX9 := Lib.hid Bx10
  have HZ9 : Hid (Box w9 (w.heap.size + 1) [.slice none 0 0, .slice none 0 0, .slice none 0 0, .int .i64 0, .int .i64 0] 43) := Lib.hid (by rw [E9.out]; exact ((BZ7.far ⟨w.heap.size, 1, none⟩ _ (by show ¬ w.heap.size + 1 = w.heap.size; omega)).far ⟨w.heap.size, 2, none⟩ _ (by show ¬ w.heap.size + 1 = w.heap.size; omega)))
  clear Bx10 hHeld E9 LtC Lt3 Lt7 Oc7 P37 P7 L7 Bx7 Bx3 L3 P3 Oc3 R13 BZ7 BZ3
  go_upto_region 3 with (fail)
  refine wp_region_lit ?_
  refine wpList_load_box (by rfl) 43 (.tmp 1) (by rfl) w.heap.size (by rfl) HX9.out Try.underlying43 (by rfl) (by kernel_rfl) ?_
  refine wpList_store_box (vs := [(.slice an p.cells.length cn), (.slice am p.h0.length cm), (.slice ao p.h1.length co), .int .i64 p.turn, .int .i64 p.quiet]) (by rfl) 43 (.tmp 2) (.tmp 17) (by rfl) (w.heap.size + 1) (by rfl) (by rfl) HZ9.out rfl (by kernel_rfl) (by rfl) ?_
  have HS := Lib.hid (HZ9.out.store (vs := [(.slice an p.cells.length cn), (.slice am p.h0.length cm), (.slice ao p.h1.length co), .int .i64 p.turn, .int .i64 p.quiet]) rfl)
  have HOf : Hid (OwnP (w.heap.size + 1 + 1) (w9.setCells (w.heap.size + 1) 0 [(.slice an p.cells.length cn), (.slice am p.h0.length cm), (.slice ao p.h1.length co), .int .i64 p.turn, .int .i64 p.quiet]) p (.slice an p.cells.length cn) (.slice am p.h0.length cm) (.slice ao p.h1.length co)) := Lib.hid ⟨own_setCells HOw.out.1 (by omega) 0 _, own_setCells HOw.out.2.1 (by omega) 0 _, own_setCells HOw.out.2.2.1 (by omega) 0 _, HOw.out.2.2.2⟩
  have HLf := Lib.hid (below_setCells HL9.out (show w.heap.size ≤ w.heap.size + 1 by omega) 0 [(.slice an p.cells.length cn), (.slice am p.h0.length cm), (.slice ao p.h1.length co), .int .i64 p.turn, .int .i64 p.quiet])
  generalize (w9.setCells (w.heap.size + 1) 0 [(.slice an p.cells.length cn), (.slice am p.h0.length cm), (.slice ao p.h1.length co), .int .i64 p.turn, .int .i64 p.quiet]) = wf at *
  go_wp2_with fail
  exact bodyPost_ret (results_one rfl (by rfl) HS.out Try.underlying43 (by rfl) (by kernel_rfl)) rfl ⟨_, _, _, rfl, HOf.out.base (by omega), HLf.out⟩

end Go.Proofs.Ytnieifdogllbfaa

/- The first line of the laws on patterns. -/
import Derived.Test.YtkfaibdflbdpgaaPatC
import Derived.Test.YtkfaibdflbdpgaaTic
namespace Go.Proofs.Ytkfaibdflbdpgaa
open Go.ChangeShapes Go.WideShapes Go.ChangeAt Go.RowKit
set_option linter.unusedVariables false

theorem at_tic : (if chkErr ticZ ⟨1, 1, [0], -1⟩ (beginZ ticZ) = 0 ∧ (0 : Int) ≤ 4 ∧ (4 : Int) < (beginZ ticZ).cells.length then atZ ticZ ⟨1, 1, [0], -1⟩ (beginZ ticZ) 4 else false) = true ∧
    (if chkErr ticZ ⟨1, 1, [0], -1⟩ (beginZ ticZ) ≠ 0 then chkErr ticZ ⟨1, 1, [0], -1⟩ (beginZ ticZ) else if (0 : Int) ≤ 4 ∧ (4 : Int) < (beginZ ticZ).cells.length then 0 else 1) = (0 : Int) := by decide +kernel
theorem rd_lit {w w' : World} (h : w' = w.alloc (.cells #[.int .i64 0] 3)) : RdI w' (.slice (some ⟨w.heap.size, 0, none⟩) 1 1) [0] := by
  subst h
  refine ⟨rfl, .inr ⟨w.heap.size, 0, 1, rfl, Nat.le_refl _, by unfold maxLen; decide, fun i hi => ?_⟩⟩
  have : i = 0 := by simp at hi; exact hi
  subst this
  simp [go_sem, ints]
theorem rd_litd {w w' : World} (h : w' = (w.alloc (.cells #[.int .i64 0] 3)).drew) : RdI w' (.slice (some ⟨w.heap.size, 0, none⟩) 1 1) [0] := by
  subst h
  exact (rd_lit rfl).below (below_drew (Below.refl _ _)) (Nat.le_refl _)
set_option maxRecDepth 100000 in
set_option maxHeartbeats 4000000 in
theorem patterns_any (w : World) : Calls Try.prog 46 #[] w fun e w' => e = .returned (.bool true) ∧ Below w.heap.size w w' := by
  go_enter Try.func46, Try.ntmps46
  go_wp2_with fail
  refine (tic_any _).mono ?_
  rintro e w0 ⟨vp, vs, ve, rfl, hr0, hb0⟩
  have HR0 := Lib.hid hr0
  have HB0 := Lib.hid hb0
  clear hr0 hb0
  unfold rulesV
  go_wp2_with fail
  refine (Begin_any ticZ vp vs ve _ HR0.out (by unfold maxLen; decide)).mono ?_
  rintro e w1 (⟨hbad, -⟩ | ⟨-, vc, v0, v1, rfl, hp1, hb1⟩)
  · exact absurd tic_rules hbad
  have HP1 := Lib.hid hp1
  have HB1 := Lib.hid (below_trans HB0.out hb1 HB0.out.size)
  clear hp1 hb1
  obtain ⟨ac, cc, rfl, _, _⟩ := HP1.out.1.form
  obtain ⟨a0, c0, rfl, _, _⟩ := HP1.out.2.1.form
  obtain ⟨a1, c1, rfl, _, _⟩ := HP1.out.2.2.form
  simp only [posV, show (beginZ ticZ).turn = 0 from rfl, show (beginZ ticZ).quiet = 0 from rfl]
  go_wp2_with fail
  have hbx := Box.new w1 [.slice ac (beginZ ticZ).cells.length cc, .slice a0 (beginZ ticZ).h0.length c0, .slice a1 (beginZ ticZ).h1.length c1, .int .i64 0, .int .i64 0] 37
  have hbl := HB1.out.alloc HB1.out.size (.cells #[.slice ac (beginZ ticZ).cells.length cc, .slice a0 (beginZ ticZ).h0.length c0, .slice a1 (beginZ ticZ).h1.length c1, .int .i64 0, .int .i64 0] 37)
  have hpp := HP1.out.alloc (.cells #[.slice ac (beginZ ticZ).cells.length cc, .slice a0 (beginZ ticZ).h0.length c0, .slice a1 (beginZ ticZ).h1.length c1, .int .i64 0, .int .i64 0] 37)
  generalize (w1.alloc (.cells #[.slice ac (beginZ ticZ).cells.length cc, .slice a0 (beginZ ticZ).h0.length c0, .slice a1 (beginZ ticZ).h1.length c1, .int .i64 0, .int .i64 0] 37)) = w2 at *
  have Bxz : Box w2.drew w1.heap.size [.slice ac (beginZ ticZ).cells.length cc, .slice a0 (beginZ ticZ).h0.length c0, .slice a1 (beginZ ticZ).h1.length c1, .int .i64 0, .int .i64 0] 37 := hbx
  have Lz : Below w.heap.size w w2.drew := below_drew hbl
  have Pz : RdP w2.drew (beginZ ticZ) (.slice ac (beginZ ticZ).cells.length cc) (.slice a0 (beginZ ticZ).h0.length c0) (.slice a1 (beginZ ticZ).h1.length c1) := hpp.below (below_drew (Below.refl w2.heap.size w2)) (Nat.le_refl _)
  clear hbx hbl hpp
  refine wp_region_noPanic ?_
  refine beginL (S := (fun w' => w'.cell? ⟨w1.heap.size, 0, none⟩ = some (.slice ac (beginZ ticZ).cells.length cc) ∧ w'.cell? ⟨w1.heap.size, 1, none⟩ = some (.slice a0 (beginZ ticZ).h0.length c0) ∧ w'.cell? ⟨w1.heap.size, 2, none⟩ = some (.slice a1 (beginZ ticZ).h1.length c1) ∧ w'.cell? ⟨w1.heap.size, 3, none⟩ = some (.int .i64 0) ∧ w'.cell? ⟨w1.heap.size, 4, none⟩ = some (.int .i64 0))) (L := []) (by kernel_rfl) ⟨Bxz.cell 0 rfl, Bxz.cell 1 rfl, Bxz.cell 2 rfl, Bxz.cell 3 rfl, Bxz.cell 4 rfl⟩ (fun hHeld => ?_)
  refine takeL (i := 3) (oi := { dst := some 14, op := Op.load 37 (Operand.tmp 1), type := 37, pos := "games.go:378", after := #[], guard := none }) (v := ?va1) rfl (by kernel_rfl) (by kernel_rfl) (by kernel_rfl) (by kernel_rfl) rfl (by kernel_rfl) (by kernel_rfl) (fun _ _ _ h => h) (Or.inl ⟨by rfl, ?ya1⟩) (by assumption) ?ra1
  case ya1 => (intro w hSw; (try dsimp only at hSw); go_simp; first | done | (with_reducible rfl))
  try simp only [Act.put, List.setIfInBounds_toArray, List.set_cons_zero, List.set_cons_succ]
  refine readyL (rs := [0, 1]) (by kernel_rfl) (by simp) ?_
  refine (AllReadyL.cons (o := { dst := some 11, op := Op.call { callee := Callee.value (Operand.func 69), args := #[], argTypes := #[] }, type := 26, pos := "games.go:378", after := #[], guard := none }) rfl (fun K hK => ?_) (AllReadyL.cons (o := { dst := some 12, op := Op.buildSlice 23 1 #[(0, Operand.const (Value.int IntKind.i64 0))], type := 23, pos := "games.go:378", after := #[], guard := none }) rfl (fun K hK => ?_) AllReadyL.nil))
  · skip
    go_simp
    refine (tic_any _).mono ?_
    rintro e wa0 ⟨vp0, vs0, ve0, rfl, hr0, hb0⟩
    have hb := hb0
    have Bx0 := Bxz.below hb Bxz.lt
    have L0 := below_trans Lz hb Lz.size
    have P0 := Pz.below hb (Nat.le_refl _)
    have T0 := hr0
    clear hb hb0 hr0
    refine hK.out _ _ ⟨Bx0.cell 0 rfl, Bx0.cell 1 rfl, Bx0.cell 2 rfl, Bx0.cell 3 rfl, Bx0.cell 4 rfl⟩ (fun hHeld => ?_)
    clear hK K
    try simp only [Act.put, List.setIfInBounds_toArray, List.set_cons_zero, List.set_cons_succ]
    refine readyL (rs := [1]) (by kernel_rfl) (by simp) ?_
    refine (AllReadyL.cons (o := { dst := some 12, op := Op.buildSlice 23 1 #[(0, Operand.const (Value.int IntKind.i64 0))], type := 23, pos := "games.go:378", after := #[], guard := none }) rfl (fun K hK => ?_) AllReadyL.nil)
    go_simp
    refine K_world ?_
    intro wa1 e1
    have Bx1 : Box wa1 w1.heap.size [.slice ac (beginZ ticZ).cells.length cc, .slice a0 (beginZ ticZ).h0.length c0, .slice a1 (beginZ ticZ).h1.length c1, .int .i64 0, .int .i64 0] 37 := by rw [e1]; exact Bx0.alloc _
    have L1 : Below w.heap.size w wa1 := by rw [e1]; exact L0.alloc L0.size _
    have P1 : RdP wa1 (beginZ ticZ) (.slice ac (beginZ ticZ).cells.length cc) (.slice a0 (beginZ ticZ).h0.length c0) (.slice a1 (beginZ ticZ).h1.length c1) := by rw [e1]; exact P0.alloc _
    (first | have X1 := rd_lit e1 | have X1 := rd_litd e1)
    have T1 : RdR wa1 ticZ vp0 vs0 ve0 := by rw [e1]; exact T0.alloc _
    clear e1
    refine hK.out _ _ ⟨Bx1.cell 0 rfl, Bx1.cell 1 rfl, Bx1.cell 2 rfl, Bx1.cell 3 rfl, Bx1.cell 4 rfl⟩ (fun hHeld => ?_)
    clear hK K
    try simp only [Act.put, List.setIfInBounds_toArray, List.set_cons_zero, List.set_cons_succ]
    refine takeW (i := 2) (oi := { dst := some 13, op := Op.build 78 #[(0, Operand.const (Value.int IntKind.i64 1)), (1, Operand.const (Value.int IntKind.i64 1)), (2, Operand.tmp 12), (3, Operand.const (Value.int IntKind.i64 (-1)))], type := 78, pos := "games.go:378", after := #[{ on := 1, ground := Ground.data }], guard := none }) (v := ?va2) rfl (by kernel_rfl) (by kernel_rfl) (by kernel_rfl) rfl (fun _ _ _ h => h) (Or.inl ⟨by rfl, ?ya2⟩) (fun _ => by assumption) ?ra2
    case ya2 => (intro w _; go_simp; first | done | (with_reducible rfl))
    try simp only [Act.put, List.setIfInBounds_toArray, List.set_cons_zero, List.set_cons_succ]
    refine readyL (rs := [4]) (by kernel_rfl) (by simp) ?_
    refine (AllReadyL.cons (o := { dst := some 15, op := Op.call { callee := Callee.value (Operand.func 87), args := #[Operand.tmp 11, Operand.tmp 13, Operand.tmp 14, Operand.const (Value.int IntKind.i64 4)], argTypes := #[26, 78, 37, 3] }, type := 75, pos := "games.go:378", after := #[{ on := 0, ground := Ground.data }, { on := 2, ground := Ground.data }, { on := 3, ground := Ground.data }, { on := 0, ground := Ground.chain }], guard := none }) rfl (fun K hK => ?_) AllReadyL.nil)
    go_simp
    refine (At_any ticZ vp0 vs0 ve0 ⟨1, 1, [0], -1⟩ _ (beginZ ticZ) _ _ _ 4 _ T1 (by unfold maxLen; decide) X1 P1).mono ?_
    rintro e wa4 ⟨he, hb4⟩
    rw [at_tic.1, at_tic.2] at he
    subst he
    have Bx4 := Bx1.below hb4 Bx1.lt
    have L4 := below_trans L1 hb4 L1.size
    clear hb4
    refine hK.out _ _ ⟨Bx4.cell 0 rfl, Bx4.cell 1 rfl, Bx4.cell 2 rfl, Bx4.cell 3 rfl, Bx4.cell 4 rfl⟩ (fun hHeld => ?_)
    clear hK K
    try simp only [Act.put, List.setIfInBounds_toArray, List.set_cons_zero, List.set_cons_succ]
    refine takeW (i := 5) (oi := { dst := some 10, op := Op.move (Operand.tmp 15), type := 75, pos := "games.go:378", after := #[{ on := 4, ground := Ground.data }], guard := none }) (v := ?va3) rfl (by kernel_rfl) (by kernel_rfl) (by kernel_rfl) rfl (fun _ _ _ h => h) (Or.inl ⟨by rfl, ?ya3⟩) (fun _ => by assumption) ?ra3
    case ya3 => (intro w _; go_simp; first | done | (with_reducible rfl))
    try simp only [Act.put, List.setIfInBounds_toArray, List.set_cons_zero, List.set_cons_succ]
    refine takeW (i := 6) (oi := { dst := some 16, op := Op.extract (Operand.tmp 10) 0, type := 4, pos := "games.go:378", after := #[{ on := 5, ground := Ground.data }], guard := none }) (v := ?va4) rfl (by kernel_rfl) (by kernel_rfl) (by kernel_rfl) rfl (fun _ _ _ h => h) (Or.inl ⟨by rfl, ?ya4⟩) (fun _ => by assumption) ?ra4
    case ya4 => (intro w _; go_simp; first | done | (with_reducible rfl))
    try simp only [Act.put, List.setIfInBounds_toArray, List.set_cons_zero, List.set_cons_succ]
    refine takeW (i := 7) (oi := { dst := some 17, op := Op.extract (Operand.tmp 10) 1, type := 29, pos := "games.go:378", after := #[{ on := 5, ground := Ground.data }, { on := 8, ground := Ground.gcOnly Departure.lateStores }], guard := none }) (v := ?va5) rfl (by kernel_rfl) (by kernel_rfl) (by kernel_rfl) rfl (fun _ _ _ h => h) (Or.inl ⟨by rfl, ?ya5⟩) (fun _ => by assumption) ?ra5
    case ya5 => (intro w _; go_simp; first | done | (with_reducible rfl))
    try simp only [Act.put, List.setIfInBounds_toArray, List.set_cons_zero, List.set_cons_succ]
    refine takeW (i := 8) (oi := { dst := some 3, op := Op.assign (Operand.tmp 16), type := 4, pos := "games.go:378", after := #[{ on := 6, ground := Ground.data }, { on := 4, ground := Ground.chain }, { on := 0, ground := Ground.phase }, { on := 1, ground := Ground.phase }, { on := 2, ground := Ground.phase }, { on := 3, ground := Ground.phase }, { on := 4, ground := Ground.phase }, { on := 5, ground := Ground.phase }, { on := 6, ground := Ground.phase }, { on := 7, ground := Ground.textOnly Departure.lateStores }], guard := none }) (v := ?va6) rfl (by kernel_rfl) (by kernel_rfl) (by kernel_rfl) rfl (fun _ _ _ h => h) (Or.inl ⟨by rfl, ?ya6⟩) (fun _ => by assumption) ?ra6
    case ya6 => (intro w _; go_simp; first | done | (with_reducible rfl))
    try simp only [Act.put, List.setIfInBounds_toArray, List.set_cons_zero, List.set_cons_succ]
    refine takeW (i := 9) (oi := { dst := some 4, op := Op.assign (Operand.tmp 17), type := 29, pos := "games.go:378", after := #[{ on := 7, ground := Ground.data }, { on := 8, ground := Ground.chain }, { on := 0, ground := Ground.phase }, { on := 1, ground := Ground.phase }, { on := 2, ground := Ground.phase }, { on := 3, ground := Ground.phase }, { on := 4, ground := Ground.phase }, { on := 5, ground := Ground.phase }, { on := 6, ground := Ground.phase }, { on := 7, ground := Ground.phase }, { on := 8, ground := Ground.phase }], guard := none }) (v := ?va7) rfl (by kernel_rfl) (by kernel_rfl) (by kernel_rfl) rfl (fun _ _ _ h => h) (Or.inl ⟨by rfl, ?ya7⟩) (fun _ => by assumption) ?ra7
    case ya7 => (intro w _; go_simp; first | done | (with_reducible rfl))
    try simp only [Act.put, List.setIfInBounds_toArray, List.set_cons_zero, List.set_cons_succ]
    refine doneL (by kernel_rfl) ?_ _
    refine NoPanic.normal ?_
    go_wp2_with fail
    go_ret
    exact ⟨rfl, L4⟩
  · skip
    go_simp
    refine K_world ?_
    intro wa1 e1
    have Bx1 : Box wa1 w1.heap.size [.slice ac (beginZ ticZ).cells.length cc, .slice a0 (beginZ ticZ).h0.length c0, .slice a1 (beginZ ticZ).h1.length c1, .int .i64 0, .int .i64 0] 37 := by rw [e1]; exact Bxz.alloc _
    have L1 : Below w.heap.size w wa1 := by rw [e1]; exact Lz.alloc Lz.size _
    have P1 : RdP wa1 (beginZ ticZ) (.slice ac (beginZ ticZ).cells.length cc) (.slice a0 (beginZ ticZ).h0.length c0) (.slice a1 (beginZ ticZ).h1.length c1) := by rw [e1]; exact Pz.alloc _
    (first | have X1 := rd_lit e1 | have X1 := rd_litd e1)
    clear e1
    refine hK.out _ _ ⟨Bx1.cell 0 rfl, Bx1.cell 1 rfl, Bx1.cell 2 rfl, Bx1.cell 3 rfl, Bx1.cell 4 rfl⟩ (fun hHeld => ?_)
    clear hK K
    try simp only [Act.put, List.setIfInBounds_toArray, List.set_cons_zero, List.set_cons_succ]
    refine takeW (i := 2) (oi := { dst := some 13, op := Op.build 78 #[(0, Operand.const (Value.int IntKind.i64 1)), (1, Operand.const (Value.int IntKind.i64 1)), (2, Operand.tmp 12), (3, Operand.const (Value.int IntKind.i64 (-1)))], type := 78, pos := "games.go:378", after := #[{ on := 1, ground := Ground.data }], guard := none }) (v := ?va8) rfl (by kernel_rfl) (by kernel_rfl) (by kernel_rfl) rfl (fun _ _ _ h => h) (Or.inl ⟨by rfl, ?ya8⟩) (fun _ => by assumption) ?ra8
    case ya8 => (intro w _; go_simp; first | done | (with_reducible rfl))
    try simp only [Act.put, List.setIfInBounds_toArray, List.set_cons_zero, List.set_cons_succ]
    refine readyL (rs := [0]) (by kernel_rfl) (by simp) ?_
    refine (AllReadyL.cons (o := { dst := some 11, op := Op.call { callee := Callee.value (Operand.func 69), args := #[], argTypes := #[] }, type := 26, pos := "games.go:378", after := #[], guard := none }) rfl (fun K hK => ?_) AllReadyL.nil)
    go_simp
    refine (tic_any _).mono ?_
    rintro e wa0 ⟨vp0, vs0, ve0, rfl, hr0, hb0⟩
    have hb := hb0
    have Bx0 := Bx1.below hb Bx1.lt
    have L0 := below_trans L1 hb L1.size
    have P0 := P1.below hb (Nat.le_refl _)
    have T0 := hr0
    have X0 := X1.below hb (Nat.le_refl _)
    clear hb hb0 hr0
    refine hK.out _ _ ⟨Bx0.cell 0 rfl, Bx0.cell 1 rfl, Bx0.cell 2 rfl, Bx0.cell 3 rfl, Bx0.cell 4 rfl⟩ (fun hHeld => ?_)
    clear hK K
    try simp only [Act.put, List.setIfInBounds_toArray, List.set_cons_zero, List.set_cons_succ]
    refine readyL (rs := [4]) (by kernel_rfl) (by simp) ?_
    refine (AllReadyL.cons (o := { dst := some 15, op := Op.call { callee := Callee.value (Operand.func 87), args := #[Operand.tmp 11, Operand.tmp 13, Operand.tmp 14, Operand.const (Value.int IntKind.i64 4)], argTypes := #[26, 78, 37, 3] }, type := 75, pos := "games.go:378", after := #[{ on := 0, ground := Ground.data }, { on := 2, ground := Ground.data }, { on := 3, ground := Ground.data }, { on := 0, ground := Ground.chain }], guard := none }) rfl (fun K hK => ?_) AllReadyL.nil)
    go_simp
    refine (At_any ticZ vp0 vs0 ve0 ⟨1, 1, [0], -1⟩ _ (beginZ ticZ) _ _ _ 4 _ T0 (by unfold maxLen; decide) X0 P0).mono ?_
    rintro e wa4 ⟨he, hb4⟩
    rw [at_tic.1, at_tic.2] at he
    subst he
    have Bx4 := Bx0.below hb4 Bx0.lt
    have L4 := below_trans L0 hb4 L0.size
    clear hb4
    refine hK.out _ _ ⟨Bx4.cell 0 rfl, Bx4.cell 1 rfl, Bx4.cell 2 rfl, Bx4.cell 3 rfl, Bx4.cell 4 rfl⟩ (fun hHeld => ?_)
    clear hK K
    try simp only [Act.put, List.setIfInBounds_toArray, List.set_cons_zero, List.set_cons_succ]
    refine takeW (i := 5) (oi := { dst := some 10, op := Op.move (Operand.tmp 15), type := 75, pos := "games.go:378", after := #[{ on := 4, ground := Ground.data }], guard := none }) (v := ?va9) rfl (by kernel_rfl) (by kernel_rfl) (by kernel_rfl) rfl (fun _ _ _ h => h) (Or.inl ⟨by rfl, ?ya9⟩) (fun _ => by assumption) ?ra9
    case ya9 => (intro w _; go_simp; first | done | (with_reducible rfl))
    try simp only [Act.put, List.setIfInBounds_toArray, List.set_cons_zero, List.set_cons_succ]
    refine takeW (i := 6) (oi := { dst := some 16, op := Op.extract (Operand.tmp 10) 0, type := 4, pos := "games.go:378", after := #[{ on := 5, ground := Ground.data }], guard := none }) (v := ?va10) rfl (by kernel_rfl) (by kernel_rfl) (by kernel_rfl) rfl (fun _ _ _ h => h) (Or.inl ⟨by rfl, ?ya10⟩) (fun _ => by assumption) ?ra10
    case ya10 => (intro w _; go_simp; first | done | (with_reducible rfl))
    try simp only [Act.put, List.setIfInBounds_toArray, List.set_cons_zero, List.set_cons_succ]
    refine takeW (i := 7) (oi := { dst := some 17, op := Op.extract (Operand.tmp 10) 1, type := 29, pos := "games.go:378", after := #[{ on := 5, ground := Ground.data }, { on := 8, ground := Ground.gcOnly Departure.lateStores }], guard := none }) (v := ?va11) rfl (by kernel_rfl) (by kernel_rfl) (by kernel_rfl) rfl (fun _ _ _ h => h) (Or.inl ⟨by rfl, ?ya11⟩) (fun _ => by assumption) ?ra11
    case ya11 => (intro w _; go_simp; first | done | (with_reducible rfl))
    try simp only [Act.put, List.setIfInBounds_toArray, List.set_cons_zero, List.set_cons_succ]
    refine takeW (i := 8) (oi := { dst := some 3, op := Op.assign (Operand.tmp 16), type := 4, pos := "games.go:378", after := #[{ on := 6, ground := Ground.data }, { on := 4, ground := Ground.chain }, { on := 0, ground := Ground.phase }, { on := 1, ground := Ground.phase }, { on := 2, ground := Ground.phase }, { on := 3, ground := Ground.phase }, { on := 4, ground := Ground.phase }, { on := 5, ground := Ground.phase }, { on := 6, ground := Ground.phase }, { on := 7, ground := Ground.textOnly Departure.lateStores }], guard := none }) (v := ?va12) rfl (by kernel_rfl) (by kernel_rfl) (by kernel_rfl) rfl (fun _ _ _ h => h) (Or.inl ⟨by rfl, ?ya12⟩) (fun _ => by assumption) ?ra12
    case ya12 => (intro w _; go_simp; first | done | (with_reducible rfl))
    try simp only [Act.put, List.setIfInBounds_toArray, List.set_cons_zero, List.set_cons_succ]
    refine takeW (i := 9) (oi := { dst := some 4, op := Op.assign (Operand.tmp 17), type := 29, pos := "games.go:378", after := #[{ on := 7, ground := Ground.data }, { on := 8, ground := Ground.chain }, { on := 0, ground := Ground.phase }, { on := 1, ground := Ground.phase }, { on := 2, ground := Ground.phase }, { on := 3, ground := Ground.phase }, { on := 4, ground := Ground.phase }, { on := 5, ground := Ground.phase }, { on := 6, ground := Ground.phase }, { on := 7, ground := Ground.phase }, { on := 8, ground := Ground.phase }], guard := none }) (v := ?va13) rfl (by kernel_rfl) (by kernel_rfl) (by kernel_rfl) rfl (fun _ _ _ h => h) (Or.inl ⟨by rfl, ?ya13⟩) (fun _ => by assumption) ?ra13
    case ya13 => (intro w _; go_simp; first | done | (with_reducible rfl))
    try simp only [Act.put, List.setIfInBounds_toArray, List.set_cons_zero, List.set_cons_succ]
    refine doneL (by kernel_rfl) ?_ _
    refine NoPanic.normal ?_
    go_wp2_with fail
    go_ret
    exact ⟨rfl, L4⟩


end Go.Proofs.Ytkfaibdflbdpgaa

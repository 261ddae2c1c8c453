/- The contracts of place.sound and place.Check. -/
import Derived.Test.YtaacfoeleblfbaaEngRules
import Derived.Test.YtaacfoeleblfbaaIntsConc
import Derived.Deep.RegionHeld3
namespace Go.Proofs.Ytaacfoeleblfbaa
open Go.ChangeShapes Go.WideShapes Go.ChangeAt Go.RowKit
set_option linter.unusedVariables false

/-- what rules.Check accepts has a board, and types of pieces. -/
theorem rulesOk {R : RulesZ} (h : rulesErr R = 0) : (1 ≤ R.width ∧ R.width ≤ 8) ∧ (1 ≤ R.height ∧ R.height ≤ 8) ∧ (1 ≤ R.pieces.length ∧ R.pieces.length ≤ 6) := by
  unfold rulesErr at h
  by_cases e1 : nameOk R.name = false
  · rw [if_pos e1] at h; cases h
  rw [if_neg e1] at h
  by_cases e2 : wb R.width 1 8 = false ∨ wb R.height 1 8 = false
  · rw [if_pos e2] at h; cases h
  rw [if_neg e2] at h
  have hw : wb R.width 1 8 = true := by cases hb : wb R.width 1 8 <;> simp_all
  have hh : wb R.height 1 8 = true := by cases hb : wb R.height 1 8 <;> simp_all
  by_cases e3 : piecesErr R.pieces = 0
  · refine ⟨(wb_iff _ _ _).1 hw, (wb_iff _ _ _).1 hh, ?_⟩
    unfold piecesErr at e3
    by_cases f1 : R.pieces.length = 0
    · rw [if_pos f1] at e3; cases e3
    · by_cases f2 : 6 < R.pieces.length
      · rw [if_neg f1, if_pos f2] at e3; cases e3
      · omega
  · rw [if_pos e3] at h; exact absurd h e3
def soundErr (R : RulesZ) (p : PosZ) : Int :=
  if (p.cells.length : Int) ≠ R.width * R.height ∨ p.h0.length ≠ R.pieces.length ∨ p.h1.length ≠ R.pieces.length then 3
  else if p.cells.any (fun z => !wb z 0 (2 * (R.pieces.length : Int))) = true ∨ (p.h0 ++ p.h1).any (fun z => !wb z 0 1000) = true ∨ (p.turn ≠ 0 ∧ p.turn ≠ 1) ∨ p.quiet < 0 ∨ 200 < p.quiet then 4 else 0
def posErr (R : RulesZ) (p : PosZ) : Int := if rulesErr R ≠ 0 then rulesErr R else soundErr R p

theorem snd11_any (B1 B2 : Nat) (lo hi z : Int) (w : World) (h1 : w.cell? ⟨B1, 0, none⟩ = some (.int .i64 lo)) (h2 : w.cell? ⟨B2, 0, none⟩ = some (.int .i64 hi)) :
    Calls Try.prog 47 (#[.int .i64 z] ++ #[.pointer (some ⟨B1, 0, none⟩), .pointer (some ⟨B2, 0, none⟩)]) w fun e w' => e = .returned (.bool (!wb z lo hi)) ∧ w = w' := by
  show Calls Try.prog 47 #[.int .i64 z, .pointer (some ⟨B1, 0, none⟩), .pointer (some ⟨B2, 0, none⟩)] w _
  by_cases c1 : z < lo <;> by_cases c2 : hi < z
  all_goals
    have H : Hid ((!wb z lo hi) = (decide (z < lo) || decide (hi < z))) := Lib.hid (by unfold wb; by_cases e1 : lo ≤ z <;> by_cases e2 : z ≤ hi <;> simp [e1, e2] <;> omega)
    go_enter Try.func47, Try.ntmps47
    go_wp2
    go_ret
    exact ⟨by rw [H.out]; simp [c1, c2], rfl⟩
theorem callSnd11 (args : Array Value) (w : World) : (callFunc 47 args).run Try.prog w = .ok (.enter 47 args) w := by kernel_rfl
theorem callSnd1 (args : Array Value) (w : World) : (callFunc 46 args).run Try.prog w = .ok (.enter 46 args) w := by kernel_rfl
/-- the closure that is made for two bounds. -/
def IsOut (lo hi : Int) (v : Value) (w : World) : Prop := ∃ B1 B2, v = .func (.func 47) #[] #[.pointer (some ⟨B1, 0, none⟩), .pointer (some ⟨B2, 0, none⟩)] ∧ w.cell? ⟨B1, 0, none⟩ = some (.int .i64 lo) ∧ w.cell? ⟨B2, 0, none⟩ = some (.int .i64 hi)
def Snd1Post (lo hi : Int) (w : World) (e : Ending) (w' : World) : Prop := ∃ v, e = .returned v ∧ IsOut lo hi v w' ∧ Below w.heap.size w w'
theorem snd1_any (lo hi : Int) (w : World) : Calls Try.prog 46 #[.int .i64 lo, .int .i64 hi] w (Snd1Post lo hi w) := by
  go_enter Try.func46, Try.ntmps46
  go_wp2
  go_ret
  exact ⟨_, rfl, ⟨w.heap.size, w.heap.size + 1, rfl, by simp [go_sem], by simp [go_sem]⟩, ((Below.refl _ _).alloc (by go_size) _).alloc (by go_size) _⟩
theorem Contains_out (v f : Value) (zs : List Int) (lo hi : Int) (w : World) (h : RdI w v zs) (hf : IsOut lo hi f w) :
    Calls Try.prog 40 #[v, f] w fun e w' => e = .returned (.bool (zs.any fun z => !wb z lo hi)) ∧ w = w' := by
  obtain ⟨B1, B2, rfl, h1, h2⟩ := hf
  exact ContainsFunc_any v zs _ 47 _ w h callSnd11 (fun z _ => snd11_any B1 B2 lo hi z w h1 h2)

theorem below_undrew {W W' : World} (h : Below W.drew.heap.size W.drew W') : Below W.heap.size W W' := ⟨h.os, h.tape, h.output, h.size, h.block⟩
theorem Contains_b (v f : Value) (zs : List Int) (lo hi : Int) (b : Bool) (w : World) (hb : (zs.any fun z => !wb z lo hi) = b) (h : RdI w v zs) (hf : IsOut lo hi f w) :
    Calls Try.prog 40 #[v, f] w fun e w' => e = .returned (.bool b) ∧ w = w' := by subst hb; exact Contains_out v f zs lo hi w h hf

set_option maxRecDepth 100000 in
set_option maxHeartbeats 4000000 in
theorem sound_any (R : RulesZ) (vp vs ve : Value) (p : PosZ) (vc v0 v1 : Value) (w : World) (h : RdR w R vp vs ve) (hp : RdP w p vc v0 v1) (hr : rulesErr R = 0) :
    Calls Try.prog 28 #[(.agg #[.string R.name, .int .i64 R.width, .int .i64 R.height, vp, vs, .bool R.falls, .bool R.keeps, ve, .int .i64 R.blocked, .int .i64 R.quiet, .int .i64 R.rept]), (.agg #[vc, v0, v1, .int .i64 p.turn, .int .i64 p.quiet])] w fun e w' => e = .returned (.int .i64 (soundErr R p)) ∧ Below w.heap.size w w' := by
  have hok := rulesOk hr
  obtain ⟨hw, hh, hn⟩ := hok
  obtain ⟨ap, cp, rfl, _, _⟩ := h.1.form
  obtain ⟨ac, cc, rfl, hc1, hc2⟩ := hp.1.form
  obtain ⟨a0, c0, rfl, h01, h02⟩ := hp.2.1.form
  obtain ⟨a1, c1, rfl, h11, h12⟩ := hp.2.2.form
  unfold maxLen at hc2 h02 h12
  have HP := Lib.hid hp
  have hwh : 1 ≤ R.width * R.height ∧ R.width * R.height ≤ 64 := mul_in R.width R.height 8 8 hw.1 hw.2 hh.1 hh.2
  have HC : Hid (soundErr R p = if (p.cells.length : Int) ≠ R.width * R.height ∨ p.h0.length ≠ R.pieces.length ∨ p.h1.length ≠ R.pieces.length then 3
  else if p.cells.any (fun z => !wb z 0 (2 * (R.pieces.length : Int))) = true ∨ (p.h0 ++ p.h1).any (fun z => !wb z 0 1000) = true ∨ (p.turn ≠ 0 ∧ p.turn ≠ 1) ∨ p.quiet < 0 ∨ 200 < p.quiet then 4 else 0) := Lib.hid rfl
  clear h hp hr
  by_cases t1 : (p.cells.length : Int) = R.width * R.height
  rotate_left
  · have HE : Hid (soundErr R p = 3) := Lib.hid (by rw [HC.out, if_pos (.inl t1)])
    have t1' : ((p.cells.length : Int) != R.width * R.height) = true := by simpa using t1
    clear t1
    go_enter Try.func28, Try.ntmps28
    go_wp2_with fail
    go_ret
    exact ⟨by rw [HE.out]; rfl, ((Below.refl _ _).alloc (by go_size) _).alloc (by go_size) _⟩
  have t1' : ((p.cells.length : Int) != R.width * R.height) = false := by simpa using t1
  have HT1 := Lib.hid t1
  clear t1
  by_cases t2 : p.h0.length = R.pieces.length
  rotate_left
  · have HE : Hid (soundErr R p = 3) := Lib.hid (by rw [HC.out, if_pos (.inr (.inl t2))])
    have t2' : ((p.h0.length : Int) != (R.pieces.length : Int)) = true := by simp only [bne_iff_ne, ne_eq]; omega
    clear t2
    go_enter Try.func28, Try.ntmps28
    go_wp2_with fail
    go_ret
    exact ⟨by rw [HE.out]; rfl, ((Below.refl _ _).alloc (by go_size) _).alloc (by go_size) _⟩
  have t2' : ((p.h0.length : Int) != (R.pieces.length : Int)) = false := by simp only [bne_eq_false_iff_eq]; omega
  have HT2 := Lib.hid t2
  clear t2
  by_cases t3 : p.h1.length = R.pieces.length
  rotate_left
  · have HE : Hid (soundErr R p = 3) := Lib.hid (by rw [HC.out, if_pos (.inr (.inr t3))])
    have t3' : ((p.h1.length : Int) != (R.pieces.length : Int)) = true := by simp only [bne_iff_ne, ne_eq]; omega
    clear t3
    go_enter Try.func28, Try.ntmps28
    go_wp2_with fail
    go_ret
    exact ⟨by rw [HE.out]; rfl, ((Below.refl _ _).alloc (by go_size) _).alloc (by go_size) _⟩
  have t3' : ((p.h1.length : Int) != (R.pieces.length : Int)) = false := by simp only [bne_eq_false_iff_eq]; omega
  have HT3 := Lib.hid t3
  have HC2 := Lib.hid (by have := HC.out; rw [if_neg (by simp [HT1.out, HT2.out, t3])] at this; exact this)
  clear t3 HC
  have l0 : p.h0.length ≤ 6 := by have := HT2.out; omega
  have l1 : p.h1.length ≤ 6 := by have := HT3.out; omega
  go_enter Try.func28, Try.ntmps28
  go_wp2_with fail
  refine (Concat_two _ _ _ p.h0 p.h1 _ ⟨_, _, _, rfl, by go_size, by simp [go_sem], by simp [go_sem]⟩ (HP.out.2.1.below ((((Below.refl _ _).alloc (Nat.le_refl _) _).alloc (by go_size) _).alloc (by go_size) _) (Nat.le_refl _)) (HP.out.2.2.below ((((Below.refl _ _).alloc (Nat.le_refl _) _).alloc (by go_size) _).alloc (by go_size) _) (Nat.le_refl _)) (by omega) (by omega)).mono ?_
  rintro e w1 ⟨vh, rfl, ho1, hb1⟩
  have hs1 := hb1.size
  simp at hs1
  have f0 : w1.cell? ⟨w.heap.size + 1, 0, none⟩ = some (.slice ac p.cells.length cc) := (hb1.cell (by go_size)).trans (by simp [go_sem])
  have f3 : w1.cell? ⟨w.heap.size + 1, 3, none⟩ = some (.int .i64 p.turn) := (hb1.cell (by go_size)).trans (by simp [go_sem])
  have f4 : w1.cell? ⟨w.heap.size + 1, 4, none⟩ = some (.int .i64 p.quiet) := (hb1.cell (by go_size)).trans (by simp [go_sem])
  have hz : w.heap.size + 1 < w1.heap.size := by omega
  have HB : Hid (Below w.heap.size w w1) := Lib.hid (((((Below.refl _ _).alloc (Nat.le_refl _) _).alloc (by go_size) _).alloc (by go_size) _).trans (hb1.mono (by go_size)))
  have HPc : Hid (RdI w1 (.slice ac p.cells.length cc) p.cells) := Lib.hid (HP.out.1.below HB.out (Nat.le_refl _))
  have HPh : Hid (RdI w1 vh (p.h0 ++ p.h1)) := Lib.hid (RdI.of_own ho1)
  have w2n : IntKind.i64.wrap (2 * (R.pieces.length : Int)) = 2 * (R.pieces.length : Int) := IntWalk.i64_in _ (by omega)
  have hfn := callSnd1
  clear ho1 hb1 hs1 HP t1' t2' t3' HT1 HT2 HT3
  cases t4 : p.cells.any (fun z => !wb z 0 (2 * (R.pieces.length : Int)))
  rotate_left
  · have HT4 := Lib.hid t4
    clear t4
    have HE : Hid (soundErr R p = 4) := Lib.hid (by rw [HC2.out, if_pos (.inl HT4.out)])
    go_wp2_with fail
    refine wp_region_noPanic ?_
    refine wp_region_held_drew (S := (fun w' => w'.cell? ⟨w.heap.size + 1, 0, none⟩ = some (.slice ac p.cells.length cc) ∧ w'.cell? ⟨w.heap.size + 1, 3, none⟩ = some (.int .i64 p.turn) ∧ w'.cell? ⟨w.heap.size + 1, 4, none⟩ = some (.int .i64 p.quiet))) (by kernel_rfl) ⟨f0, f3, f4⟩ (fun hHeld => ?_)
    refine wpAnyH_take (i := 0) (oi := { dst := some 44, op := Op.fieldAddr 29 (Operand.tmp 3) 0, type := 0, pos := "place.go:21", after := #[], guard := none }) (v := ?va1) rfl (by kernel_rfl) (by kernel_rfl) (by kernel_rfl) (fun _ _ _ h => h) (Or.inl ⟨by rfl, ?ya1⟩) (by assumption) ?ra1
    case ya1 => (intro w hSw; (try dsimp only at hSw); go_simp; first | done | (with_reducible rfl))
    try simp only [Act.put, List.setIfInBounds_toArray, List.set_cons_zero, List.set_cons_succ]
    refine wpAnyH_take (i := 2) (oi := { dst := some 46, op := Op.move (Operand.tmp 6), type := 82, pos := "place.go:21", after := #[], guard := none }) (v := ?va2) rfl (by kernel_rfl) (by kernel_rfl) (by kernel_rfl) (fun _ _ _ h => h) (Or.inl ⟨by rfl, ?ya2⟩) (by assumption) ?ra2
    case ya2 => (intro w hSw; (try dsimp only at hSw); go_simp; first | done | (with_reducible rfl))
    try simp only [Act.put, List.setIfInBounds_toArray, List.set_cons_zero, List.set_cons_succ]
    refine wpAnyH_take (i := 3) (oi := { dst := some 47, op := Op.move (Operand.tmp 5), type := 3, pos := "place.go:21", after := #[], guard := none }) (v := ?va3) rfl (by kernel_rfl) (by kernel_rfl) (by kernel_rfl) (fun _ _ _ h => h) (Or.inl ⟨by rfl, ?ya3⟩) (by assumption) ?ra3
    case ya3 => (intro w hSw; (try dsimp only at hSw); go_simp; first | done | (with_reducible rfl))
    try simp only [Act.put, List.setIfInBounds_toArray, List.set_cons_zero, List.set_cons_succ]
    refine wpAnyH_take (i := 1) (oi := { dst := some 45, op := Op.load 23 (Operand.tmp 44), type := 23, pos := "place.go:21", after := #[{ on := 0, ground := Ground.data }], guard := none }) (v := ?va4) rfl (by kernel_rfl) (by kernel_rfl) (by kernel_rfl) (fun _ _ _ h => h) (Or.inl ⟨by rfl, ?ya4⟩) (by assumption) ?ra4
    case ya4 => (intro w hSw; (try dsimp only at hSw); go_simp; first | done | (with_reducible rfl))
    try simp only [Act.put, List.setIfInBounds_toArray, List.set_cons_zero, List.set_cons_succ]
    refine wpAnyH_take (i := 4) (oi := { dst := some 48, op := Op.binOp BinOp.mul 3 (Operand.const (Value.int IntKind.i64 2)) (Operand.tmp 47) 3, type := 3, pos := "place.go:21", after := #[{ on := 3, ground := Ground.data }], guard := none }) (v := ?va5) rfl (by kernel_rfl) (by kernel_rfl) (by kernel_rfl) (fun _ _ _ h => h) (Or.inl ⟨by rfl, ?ya5⟩) (by assumption) ?ra5
    case ya5 => (intro w hSw; (try dsimp only at hSw); go_simp; first | done | (with_reducible rfl))
    try simp only [Act.put, List.setIfInBounds_toArray, List.set_cons_zero, List.set_cons_succ]
    refine wpAnyH_ready (rs := [5]) (by kernel_rfl) (by simp) ?_
    refine AllReadyH.cons (o := { dst := some 49, op := Op.call { callee := Callee.value (Operand.tmp 46), args := #[Operand.const (Value.int IntKind.i64 0), Operand.tmp 48], argTypes := #[3, 3] }, type := 76, pos := "place.go:21", after := #[{ on := 2, ground := Ground.data }, { on := 4, ground := Ground.data }], guard := none }) rfl (fun K hK => ?_) AllReadyH.nil
    go_simp
    ((with_reducible refine (snd1_any _ _ _).mono ?_); rintro e w2 ⟨v2, rfl, hio, hb2⟩; have HIO := Lib.hid hio; (first | (have hb3 := below_undrew hb2) | (have hb3 := hb2)); replace f0 := (hb3.cell (p := ⟨w.heap.size + 1, 0, none⟩) hz).trans f0; replace f3 := (hb3.cell (p := ⟨w.heap.size + 1, 3, none⟩) hz).trans f3; replace f4 := (hb3.cell (p := ⟨w.heap.size + 1, 4, none⟩) hz).trans f4; replace HB := Lib.hid (below_trans HB.out hb3 HB.out.size); replace HPc := Lib.hid (HPc.out.below hb3 (Nat.le_refl _)); replace HPh := Lib.hid (HPh.out.below hb3 (Nat.le_refl _)); replace hz := Nat.lt_of_lt_of_le hz hb3.size; clear hio hb2 hb3)
    refine hK.out _ _ ⟨f0, f3, f4⟩ (fun hHeld => ?_)
    clear hK K
    try simp only [Act.put, List.setIfInBounds_toArray, List.set_cons_zero, List.set_cons_succ]
    refine wpAnyH_ready (rs := [6]) (by kernel_rfl) (by simp) ?_
    refine AllReadyH.cons (o := { dst := some 50, op := Op.call { callee := Callee.value (Operand.func 40), args := #[Operand.tmp 45, Operand.tmp 49], argTypes := #[23, 76] }, type := 4, pos := "place.go:21", after := #[{ on := 1, ground := Ground.data }, { on := 5, ground := Ground.data }, { on := 5, ground := Ground.chain }], guard := none }) rfl (fun K hK => ?_) AllReadyH.nil
    go_simp
    ((with_reducible refine (Contains_b _ _ p.cells _ _ _ _ HT4.out HPc.out HIO.out).mono ?_); rintro e w' ⟨rfl, rfl⟩; clear HIO)
    refine hK.out _ _ ⟨f0, f3, f4⟩ (fun hHeld => ?_)
    clear hK K
    try simp only [Act.put, List.setIfInBounds_toArray, List.set_cons_zero, List.set_cons_succ]
    refine wpAnyH_take (i := 7) (oi := { dst := some 51, op := Op.move (Operand.tmp 50), type := 4, pos := "place.go:21", after := #[{ on := 6, ground := Ground.data }, { on := 6, ground := Ground.chain }], guard := none }) (v := ?va6) rfl (by kernel_rfl) (by kernel_rfl) (by kernel_rfl) (fun _ _ _ h => h) (Or.inl ⟨by rfl, ?ya6⟩) (by assumption) ?ra6
    case ya6 => (intro w hSw; (try dsimp only at hSw); go_simp; first | done | (with_reducible rfl))
    try simp only [Act.put, List.setIfInBounds_toArray, List.set_cons_zero, List.set_cons_succ]
    refine wpAnyH_take (i := 8) (oi := { dst := some 52, op := Op.move (Operand.tmp 7), type := 23, pos := "place.go:21", after := #[{ on := 7, ground := Ground.guard }], guard := some (7, false) }) (v := undef) rfl (by kernel_rfl) (by kernel_rfl) (by kernel_rfl) (fun _ _ _ h => h) (Or.inr ⟨by rfl, rfl⟩) (by assumption) ?_
    try simp only [Act.put, List.setIfInBounds_toArray, List.set_cons_zero, List.set_cons_succ]
    refine wpAnyH_take (i := 9) (oi := { dst := some 53, op := Op.move (Operand.tmp 6), type := 82, pos := "place.go:21", after := #[{ on := 7, ground := Ground.guard }], guard := some (7, false) }) (v := undef) rfl (by kernel_rfl) (by kernel_rfl) (by kernel_rfl) (fun _ _ _ h => h) (Or.inr ⟨by rfl, rfl⟩) (by assumption) ?_
    try simp only [Act.put, List.setIfInBounds_toArray, List.set_cons_zero, List.set_cons_succ]
    refine wpAnyH_take (i := 10) (oi := { dst := some 54, op := Op.call { callee := Callee.value (Operand.tmp 53), args := #[Operand.const (Value.int IntKind.i64 0), Operand.const (Value.int IntKind.i64 1000)], argTypes := #[3, 3] }, type := 76, pos := "place.go:21", after := #[{ on := 9, ground := Ground.data }, { on := 7, ground := Ground.chain }, { on := 7, ground := Ground.guard }], guard := some (7, false) }) (v := undef) rfl (by kernel_rfl) (by kernel_rfl) (by kernel_rfl) (fun _ _ _ h => h) (Or.inr ⟨by rfl, rfl⟩) (by assumption) ?_
    try simp only [Act.put, List.setIfInBounds_toArray, List.set_cons_zero, List.set_cons_succ]
    refine wpAnyH_take (i := 11) (oi := { dst := some 55, op := Op.call { callee := Callee.value (Operand.func 40), args := #[Operand.tmp 52, Operand.tmp 54], argTypes := #[23, 76] }, type := 4, pos := "place.go:21", after := #[{ on := 8, ground := Ground.data }, { on := 10, ground := Ground.data }, { on := 10, ground := Ground.chain }, { on := 7, ground := Ground.guard }], guard := some (7, false) }) (v := undef) rfl (by kernel_rfl) (by kernel_rfl) (by kernel_rfl) (fun _ _ _ h => h) (Or.inr ⟨by rfl, rfl⟩) (by assumption) ?_
    try simp only [Act.put, List.setIfInBounds_toArray, List.set_cons_zero, List.set_cons_succ]
    refine wpAnyH_take (i := 12) (oi := { dst := some 56, op := Op.pick (Operand.tmp 51) (Operand.const (Value.bool true)) (Operand.tmp 55), type := 4, pos := "place.go:21", after := #[{ on := 7, ground := Ground.data }, { on := 11, ground := Ground.data }], guard := none }) (v := ?va7) rfl (by kernel_rfl) (by kernel_rfl) (by kernel_rfl) (fun _ _ _ h => h) (Or.inl ⟨by rfl, ?ya7⟩) (by assumption) ?ra7
    case ya7 => (intro w hSw; (try dsimp only at hSw); go_simp; first | done | (with_reducible rfl))
    try simp only [Act.put, List.setIfInBounds_toArray, List.set_cons_zero, List.set_cons_succ]
    refine wpAnyH_take (i := 13) (oi := { dst := some 57, op := Op.move (Operand.tmp 56), type := 4, pos := "place.go:21", after := #[{ on := 12, ground := Ground.data }, { on := 11, ground := Ground.chain }], guard := none }) (v := ?va8) rfl (by kernel_rfl) (by kernel_rfl) (by kernel_rfl) (fun _ _ _ h => h) (Or.inl ⟨by rfl, ?ya8⟩) (by assumption) ?ra8
    case ya8 => (intro w hSw; (try dsimp only at hSw); go_simp; first | done | (with_reducible rfl))
    try simp only [Act.put, List.setIfInBounds_toArray, List.set_cons_zero, List.set_cons_succ]
    refine wpAnyH_take (i := 14) (oi := { dst := some 58, op := Op.fieldAddr 29 (Operand.tmp 3) 2, type := 0, pos := "place.go:21", after := #[{ on := 13, ground := Ground.guard }], guard := some (13, false) }) (v := undef) rfl (by kernel_rfl) (by kernel_rfl) (by kernel_rfl) (fun _ _ _ h => h) (Or.inr ⟨by rfl, rfl⟩) (by assumption) ?_
    try simp only [Act.put, List.setIfInBounds_toArray, List.set_cons_zero, List.set_cons_succ]
    refine wpAnyH_take (i := 15) (oi := { dst := some 59, op := Op.load 3 (Operand.tmp 58), type := 3, pos := "place.go:21", after := #[{ on := 14, ground := Ground.data }, { on := 13, ground := Ground.guard }], guard := some (13, false) }) (v := undef) rfl (by kernel_rfl) (by kernel_rfl) (by kernel_rfl) (fun _ _ _ h => h) (Or.inr ⟨by rfl, rfl⟩) (by assumption) ?_
    try simp only [Act.put, List.setIfInBounds_toArray, List.set_cons_zero, List.set_cons_succ]
    refine wpAnyH_take (i := 16) (oi := { dst := some 60, op := Op.binOp BinOp.neq 3 (Operand.tmp 59) (Operand.const (Value.int IntKind.i64 0)) 3, type := 4, pos := "place.go:21", after := #[{ on := 15, ground := Ground.data }, { on := 13, ground := Ground.guard }], guard := some (13, false) }) (v := undef) rfl (by kernel_rfl) (by kernel_rfl) (by kernel_rfl) (fun _ _ _ h => h) (Or.inr ⟨by rfl, rfl⟩) (by assumption) ?_
    try simp only [Act.put, List.setIfInBounds_toArray, List.set_cons_zero, List.set_cons_succ]
    refine wpAnyH_take (i := 17) (oi := { dst := some 61, op := Op.move (Operand.tmp 60), type := 4, pos := "place.go:21", after := #[{ on := 16, ground := Ground.data }, { on := 13, ground := Ground.chain }, { on := 13, ground := Ground.guard }], guard := some (13, false) }) (v := undef) rfl (by kernel_rfl) (by kernel_rfl) (by kernel_rfl) (fun _ _ _ h => h) (Or.inr ⟨by rfl, rfl⟩) (by assumption) ?_
    try simp only [Act.put, List.setIfInBounds_toArray, List.set_cons_zero, List.set_cons_succ]
    refine wpAnyH_take (i := 18) (oi := { dst := some 62, op := Op.fieldAddr 29 (Operand.tmp 3) 2, type := 0, pos := "place.go:21", after := #[{ on := 17, ground := Ground.guard }], guard := some (17, true) }) (v := undef) rfl (by kernel_rfl) (by kernel_rfl) (by kernel_rfl) (fun _ _ _ h => h) (Or.inr ⟨by rfl, rfl⟩) (by assumption) ?_
    try simp only [Act.put, List.setIfInBounds_toArray, List.set_cons_zero, List.set_cons_succ]
    refine wpAnyH_take (i := 19) (oi := { dst := some 63, op := Op.load 3 (Operand.tmp 62), type := 3, pos := "place.go:21", after := #[{ on := 18, ground := Ground.data }, { on := 17, ground := Ground.guard }], guard := some (17, true) }) (v := undef) rfl (by kernel_rfl) (by kernel_rfl) (by kernel_rfl) (fun _ _ _ h => h) (Or.inr ⟨by rfl, rfl⟩) (by assumption) ?_
    try simp only [Act.put, List.setIfInBounds_toArray, List.set_cons_zero, List.set_cons_succ]
    refine wpAnyH_take (i := 20) (oi := { dst := some 64, op := Op.binOp BinOp.neq 3 (Operand.tmp 63) (Operand.const (Value.int IntKind.i64 1)) 3, type := 4, pos := "place.go:21", after := #[{ on := 19, ground := Ground.data }, { on := 17, ground := Ground.guard }], guard := some (17, true) }) (v := undef) rfl (by kernel_rfl) (by kernel_rfl) (by kernel_rfl) (fun _ _ _ h => h) (Or.inr ⟨by rfl, rfl⟩) (by assumption) ?_
    try simp only [Act.put, List.setIfInBounds_toArray, List.set_cons_zero, List.set_cons_succ]
    refine wpAnyH_take (i := 21) (oi := { dst := some 65, op := Op.pick (Operand.tmp 61) (Operand.tmp 64) (Operand.const (Value.bool false)), type := 4, pos := "place.go:21", after := #[{ on := 17, ground := Ground.data }, { on := 20, ground := Ground.data }, { on := 13, ground := Ground.guard }], guard := some (13, false) }) (v := undef) rfl (by kernel_rfl) (by kernel_rfl) (by kernel_rfl) (fun _ _ _ h => h) (Or.inr ⟨by rfl, rfl⟩) (by assumption) ?_
    try simp only [Act.put, List.setIfInBounds_toArray, List.set_cons_zero, List.set_cons_succ]
    refine wpAnyH_take (i := 22) (oi := { dst := some 66, op := Op.pick (Operand.tmp 57) (Operand.const (Value.bool true)) (Operand.tmp 65), type := 4, pos := "place.go:21", after := #[{ on := 13, ground := Ground.data }, { on := 21, ground := Ground.data }], guard := none }) (v := ?va9) rfl (by kernel_rfl) (by kernel_rfl) (by kernel_rfl) (fun _ _ _ h => h) (Or.inl ⟨by rfl, ?ya9⟩) (by assumption) ?ra9
    case ya9 => (intro w hSw; (try dsimp only at hSw); go_simp; first | done | (with_reducible rfl))
    try simp only [Act.put, List.setIfInBounds_toArray, List.set_cons_zero, List.set_cons_succ]
    refine wpAnyH_take (i := 23) (oi := { dst := some 67, op := Op.move (Operand.tmp 66), type := 4, pos := "place.go:21", after := #[{ on := 22, ground := Ground.data }, { on := 17, ground := Ground.chain }], guard := none }) (v := ?va10) rfl (by kernel_rfl) (by kernel_rfl) (by kernel_rfl) (fun _ _ _ h => h) (Or.inl ⟨by rfl, ?ya10⟩) (by assumption) ?ra10
    case ya10 => (intro w hSw; (try dsimp only at hSw); go_simp; first | done | (with_reducible rfl))
    try simp only [Act.put, List.setIfInBounds_toArray, List.set_cons_zero, List.set_cons_succ]
    refine wpAnyH_take (i := 24) (oi := { dst := some 68, op := Op.fieldAddr 29 (Operand.tmp 3) 3, type := 0, pos := "place.go:21", after := #[{ on := 23, ground := Ground.guard }], guard := some (23, false) }) (v := undef) rfl (by kernel_rfl) (by kernel_rfl) (by kernel_rfl) (fun _ _ _ h => h) (Or.inr ⟨by rfl, rfl⟩) (by assumption) ?_
    try simp only [Act.put, List.setIfInBounds_toArray, List.set_cons_zero, List.set_cons_succ]
    refine wpAnyH_take (i := 25) (oi := { dst := some 69, op := Op.load 3 (Operand.tmp 68), type := 3, pos := "place.go:21", after := #[{ on := 24, ground := Ground.data }, { on := 23, ground := Ground.guard }], guard := some (23, false) }) (v := undef) rfl (by kernel_rfl) (by kernel_rfl) (by kernel_rfl) (fun _ _ _ h => h) (Or.inr ⟨by rfl, rfl⟩) (by assumption) ?_
    try simp only [Act.put, List.setIfInBounds_toArray, List.set_cons_zero, List.set_cons_succ]
    refine wpAnyH_take (i := 26) (oi := { dst := some 70, op := Op.binOp BinOp.lss 3 (Operand.tmp 69) (Operand.const (Value.int IntKind.i64 0)) 3, type := 4, pos := "place.go:21", after := #[{ on := 25, ground := Ground.data }, { on := 23, ground := Ground.guard }], guard := some (23, false) }) (v := undef) rfl (by kernel_rfl) (by kernel_rfl) (by kernel_rfl) (fun _ _ _ h => h) (Or.inr ⟨by rfl, rfl⟩) (by assumption) ?_
    try simp only [Act.put, List.setIfInBounds_toArray, List.set_cons_zero, List.set_cons_succ]
    refine wpAnyH_take (i := 27) (oi := { dst := some 71, op := Op.pick (Operand.tmp 67) (Operand.const (Value.bool true)) (Operand.tmp 70), type := 4, pos := "place.go:21", after := #[{ on := 23, ground := Ground.data }, { on := 26, ground := Ground.data }], guard := none }) (v := ?va11) rfl (by kernel_rfl) (by kernel_rfl) (by kernel_rfl) (fun _ _ _ h => h) (Or.inl ⟨by rfl, ?ya11⟩) (by assumption) ?ra11
    case ya11 => (intro w hSw; (try dsimp only at hSw); go_simp; first | done | (with_reducible rfl))
    try simp only [Act.put, List.setIfInBounds_toArray, List.set_cons_zero, List.set_cons_succ]
    refine wpAnyH_take (i := 28) (oi := { dst := some 72, op := Op.move (Operand.tmp 71), type := 4, pos := "place.go:21", after := #[{ on := 27, ground := Ground.data }, { on := 23, ground := Ground.chain }], guard := none }) (v := ?va12) rfl (by kernel_rfl) (by kernel_rfl) (by kernel_rfl) (fun _ _ _ h => h) (Or.inl ⟨by rfl, ?ya12⟩) (by assumption) ?ra12
    case ya12 => (intro w hSw; (try dsimp only at hSw); go_simp; first | done | (with_reducible rfl))
    try simp only [Act.put, List.setIfInBounds_toArray, List.set_cons_zero, List.set_cons_succ]
    refine wpAnyH_take (i := 29) (oi := { dst := some 73, op := Op.fieldAddr 29 (Operand.tmp 3) 3, type := 0, pos := "place.go:21", after := #[{ on := 28, ground := Ground.guard }], guard := some (28, false) }) (v := undef) rfl (by kernel_rfl) (by kernel_rfl) (by kernel_rfl) (fun _ _ _ h => h) (Or.inr ⟨by rfl, rfl⟩) (by assumption) ?_
    try simp only [Act.put, List.setIfInBounds_toArray, List.set_cons_zero, List.set_cons_succ]
    refine wpAnyH_take (i := 30) (oi := { dst := some 74, op := Op.load 3 (Operand.tmp 73), type := 3, pos := "place.go:21", after := #[{ on := 29, ground := Ground.data }, { on := 28, ground := Ground.guard }], guard := some (28, false) }) (v := undef) rfl (by kernel_rfl) (by kernel_rfl) (by kernel_rfl) (fun _ _ _ h => h) (Or.inr ⟨by rfl, rfl⟩) (by assumption) ?_
    try simp only [Act.put, List.setIfInBounds_toArray, List.set_cons_zero, List.set_cons_succ]
    refine wpAnyH_take (i := 31) (oi := { dst := some 75, op := Op.binOp BinOp.gtr 3 (Operand.tmp 74) (Operand.const (Value.int IntKind.i64 200)) 3, type := 4, pos := "place.go:21", after := #[{ on := 30, ground := Ground.data }, { on := 28, ground := Ground.guard }], guard := some (28, false) }) (v := undef) rfl (by kernel_rfl) (by kernel_rfl) (by kernel_rfl) (fun _ _ _ h => h) (Or.inr ⟨by rfl, rfl⟩) (by assumption) ?_
    try simp only [Act.put, List.setIfInBounds_toArray, List.set_cons_zero, List.set_cons_succ]
    refine wpAnyH_take (i := 32) (oi := { dst := some 76, op := Op.pick (Operand.tmp 72) (Operand.const (Value.bool true)) (Operand.tmp 75), type := 4, pos := "place.go:21", after := #[{ on := 28, ground := Ground.data }, { on := 31, ground := Ground.data }], guard := none }) (v := ?va13) rfl (by kernel_rfl) (by kernel_rfl) (by kernel_rfl) (fun _ _ _ h => h) (Or.inl ⟨by rfl, ?ya13⟩) (by assumption) ?ra13
    case ya13 => (intro w hSw; (try dsimp only at hSw); go_simp; first | done | (with_reducible rfl))
    try simp only [Act.put, List.setIfInBounds_toArray, List.set_cons_zero, List.set_cons_succ]
    refine wpAnyH_done (by kernel_rfl) ?_ _
    refine NoPanic.normal ?_
    go_wp2_with fail
    go_ret
    exact ⟨by rw [HE.out]; rfl, HB.out⟩
  have HT4 := Lib.hid t4
  clear t4
  cases t5 : (p.h0 ++ p.h1).any (fun z => !wb z 0 1000)
  rotate_left
  · have HT5 := Lib.hid t5
    clear t5
    have HE : Hid (soundErr R p = 4) := Lib.hid (by rw [HC2.out, if_pos (.inr (.inl HT5.out))])
    go_wp2_with fail
    refine wp_region_noPanic ?_
    refine wp_region_held_drew (S := (fun w' => w'.cell? ⟨w.heap.size + 1, 0, none⟩ = some (.slice ac p.cells.length cc) ∧ w'.cell? ⟨w.heap.size + 1, 3, none⟩ = some (.int .i64 p.turn) ∧ w'.cell? ⟨w.heap.size + 1, 4, none⟩ = some (.int .i64 p.quiet))) (by kernel_rfl) ⟨f0, f3, f4⟩ (fun hHeld => ?_)
    refine wpAnyH_take (i := 0) (oi := { dst := some 44, op := Op.fieldAddr 29 (Operand.tmp 3) 0, type := 0, pos := "place.go:21", after := #[], guard := none }) (v := ?va14) rfl (by kernel_rfl) (by kernel_rfl) (by kernel_rfl) (fun _ _ _ h => h) (Or.inl ⟨by rfl, ?ya14⟩) (by assumption) ?ra14
    case ya14 => (intro w hSw; (try dsimp only at hSw); go_simp; first | done | (with_reducible rfl))
    try simp only [Act.put, List.setIfInBounds_toArray, List.set_cons_zero, List.set_cons_succ]
    refine wpAnyH_take (i := 2) (oi := { dst := some 46, op := Op.move (Operand.tmp 6), type := 82, pos := "place.go:21", after := #[], guard := none }) (v := ?va15) rfl (by kernel_rfl) (by kernel_rfl) (by kernel_rfl) (fun _ _ _ h => h) (Or.inl ⟨by rfl, ?ya15⟩) (by assumption) ?ra15
    case ya15 => (intro w hSw; (try dsimp only at hSw); go_simp; first | done | (with_reducible rfl))
    try simp only [Act.put, List.setIfInBounds_toArray, List.set_cons_zero, List.set_cons_succ]
    refine wpAnyH_take (i := 3) (oi := { dst := some 47, op := Op.move (Operand.tmp 5), type := 3, pos := "place.go:21", after := #[], guard := none }) (v := ?va16) rfl (by kernel_rfl) (by kernel_rfl) (by kernel_rfl) (fun _ _ _ h => h) (Or.inl ⟨by rfl, ?ya16⟩) (by assumption) ?ra16
    case ya16 => (intro w hSw; (try dsimp only at hSw); go_simp; first | done | (with_reducible rfl))
    try simp only [Act.put, List.setIfInBounds_toArray, List.set_cons_zero, List.set_cons_succ]
    refine wpAnyH_take (i := 1) (oi := { dst := some 45, op := Op.load 23 (Operand.tmp 44), type := 23, pos := "place.go:21", after := #[{ on := 0, ground := Ground.data }], guard := none }) (v := ?va17) rfl (by kernel_rfl) (by kernel_rfl) (by kernel_rfl) (fun _ _ _ h => h) (Or.inl ⟨by rfl, ?ya17⟩) (by assumption) ?ra17
    case ya17 => (intro w hSw; (try dsimp only at hSw); go_simp; first | done | (with_reducible rfl))
    try simp only [Act.put, List.setIfInBounds_toArray, List.set_cons_zero, List.set_cons_succ]
    refine wpAnyH_take (i := 4) (oi := { dst := some 48, op := Op.binOp BinOp.mul 3 (Operand.const (Value.int IntKind.i64 2)) (Operand.tmp 47) 3, type := 3, pos := "place.go:21", after := #[{ on := 3, ground := Ground.data }], guard := none }) (v := ?va18) rfl (by kernel_rfl) (by kernel_rfl) (by kernel_rfl) (fun _ _ _ h => h) (Or.inl ⟨by rfl, ?ya18⟩) (by assumption) ?ra18
    case ya18 => (intro w hSw; (try dsimp only at hSw); go_simp; first | done | (with_reducible rfl))
    try simp only [Act.put, List.setIfInBounds_toArray, List.set_cons_zero, List.set_cons_succ]
    refine wpAnyH_ready (rs := [5]) (by kernel_rfl) (by simp) ?_
    refine AllReadyH.cons (o := { dst := some 49, op := Op.call { callee := Callee.value (Operand.tmp 46), args := #[Operand.const (Value.int IntKind.i64 0), Operand.tmp 48], argTypes := #[3, 3] }, type := 76, pos := "place.go:21", after := #[{ on := 2, ground := Ground.data }, { on := 4, ground := Ground.data }], guard := none }) rfl (fun K hK => ?_) AllReadyH.nil
    go_simp
    ((with_reducible refine (snd1_any _ _ _).mono ?_); rintro e w2 ⟨v2, rfl, hio, hb2⟩; have HIO := Lib.hid hio; (first | (have hb3 := below_undrew hb2) | (have hb3 := hb2)); replace f0 := (hb3.cell (p := ⟨w.heap.size + 1, 0, none⟩) hz).trans f0; replace f3 := (hb3.cell (p := ⟨w.heap.size + 1, 3, none⟩) hz).trans f3; replace f4 := (hb3.cell (p := ⟨w.heap.size + 1, 4, none⟩) hz).trans f4; replace HB := Lib.hid (below_trans HB.out hb3 HB.out.size); replace HPc := Lib.hid (HPc.out.below hb3 (Nat.le_refl _)); replace HPh := Lib.hid (HPh.out.below hb3 (Nat.le_refl _)); replace hz := Nat.lt_of_lt_of_le hz hb3.size; clear hio hb2 hb3)
    refine hK.out _ _ ⟨f0, f3, f4⟩ (fun hHeld => ?_)
    clear hK K
    try simp only [Act.put, List.setIfInBounds_toArray, List.set_cons_zero, List.set_cons_succ]
    refine wpAnyH_ready (rs := [6]) (by kernel_rfl) (by simp) ?_
    refine AllReadyH.cons (o := { dst := some 50, op := Op.call { callee := Callee.value (Operand.func 40), args := #[Operand.tmp 45, Operand.tmp 49], argTypes := #[23, 76] }, type := 4, pos := "place.go:21", after := #[{ on := 1, ground := Ground.data }, { on := 5, ground := Ground.data }, { on := 5, ground := Ground.chain }], guard := none }) rfl (fun K hK => ?_) AllReadyH.nil
    go_simp
    ((with_reducible refine (Contains_b _ _ p.cells _ _ _ _ HT4.out HPc.out HIO.out).mono ?_); rintro e w' ⟨rfl, rfl⟩; clear HIO)
    refine hK.out _ _ ⟨f0, f3, f4⟩ (fun hHeld => ?_)
    clear hK K
    try simp only [Act.put, List.setIfInBounds_toArray, List.set_cons_zero, List.set_cons_succ]
    refine wpAnyH_take (i := 7) (oi := { dst := some 51, op := Op.move (Operand.tmp 50), type := 4, pos := "place.go:21", after := #[{ on := 6, ground := Ground.data }, { on := 6, ground := Ground.chain }], guard := none }) (v := ?va19) rfl (by kernel_rfl) (by kernel_rfl) (by kernel_rfl) (fun _ _ _ h => h) (Or.inl ⟨by rfl, ?ya19⟩) (by assumption) ?ra19
    case ya19 => (intro w hSw; (try dsimp only at hSw); go_simp; first | done | (with_reducible rfl))
    try simp only [Act.put, List.setIfInBounds_toArray, List.set_cons_zero, List.set_cons_succ]
    refine wpAnyH_take (i := 8) (oi := { dst := some 52, op := Op.move (Operand.tmp 7), type := 23, pos := "place.go:21", after := #[{ on := 7, ground := Ground.guard }], guard := some (7, false) }) (v := ?va20) rfl (by kernel_rfl) (by kernel_rfl) (by kernel_rfl) (fun _ _ _ h => h) (Or.inl ⟨by rfl, ?ya20⟩) (by assumption) ?ra20
    case ya20 => (intro w hSw; (try dsimp only at hSw); go_simp; first | done | (with_reducible rfl))
    try simp only [Act.put, List.setIfInBounds_toArray, List.set_cons_zero, List.set_cons_succ]
    refine wpAnyH_take (i := 9) (oi := { dst := some 53, op := Op.move (Operand.tmp 6), type := 82, pos := "place.go:21", after := #[{ on := 7, ground := Ground.guard }], guard := some (7, false) }) (v := ?va21) rfl (by kernel_rfl) (by kernel_rfl) (by kernel_rfl) (fun _ _ _ h => h) (Or.inl ⟨by rfl, ?ya21⟩) (by assumption) ?ra21
    case ya21 => (intro w hSw; (try dsimp only at hSw); go_simp; first | done | (with_reducible rfl))
    try simp only [Act.put, List.setIfInBounds_toArray, List.set_cons_zero, List.set_cons_succ]
    refine wpAnyH_ready (rs := [10]) (by kernel_rfl) (by simp) ?_
    refine AllReadyH.cons (o := { dst := some 54, op := Op.call { callee := Callee.value (Operand.tmp 53), args := #[Operand.const (Value.int IntKind.i64 0), Operand.const (Value.int IntKind.i64 1000)], argTypes := #[3, 3] }, type := 76, pos := "place.go:21", after := #[{ on := 9, ground := Ground.data }, { on := 7, ground := Ground.chain }, { on := 7, ground := Ground.guard }], guard := some (7, false) }) rfl (fun K hK => ?_) AllReadyH.nil
    go_simp
    ((with_reducible refine (snd1_any _ _ _).mono ?_); rintro e w2 ⟨v2, rfl, hio, hb2⟩; have HIO := Lib.hid hio; (first | (have hb3 := below_undrew hb2) | (have hb3 := hb2)); replace f0 := (hb3.cell (p := ⟨w.heap.size + 1, 0, none⟩) hz).trans f0; replace f3 := (hb3.cell (p := ⟨w.heap.size + 1, 3, none⟩) hz).trans f3; replace f4 := (hb3.cell (p := ⟨w.heap.size + 1, 4, none⟩) hz).trans f4; replace HB := Lib.hid (below_trans HB.out hb3 HB.out.size); replace HPc := Lib.hid (HPc.out.below hb3 (Nat.le_refl _)); replace HPh := Lib.hid (HPh.out.below hb3 (Nat.le_refl _)); replace hz := Nat.lt_of_lt_of_le hz hb3.size; clear hio hb2 hb3)
    refine hK.out _ _ ⟨f0, f3, f4⟩ (fun hHeld => ?_)
    clear hK K
    try simp only [Act.put, List.setIfInBounds_toArray, List.set_cons_zero, List.set_cons_succ]
    refine wpAnyH_ready (rs := [11]) (by kernel_rfl) (by simp) ?_
    refine AllReadyH.cons (o := { dst := some 55, op := Op.call { callee := Callee.value (Operand.func 40), args := #[Operand.tmp 52, Operand.tmp 54], argTypes := #[23, 76] }, type := 4, pos := "place.go:21", after := #[{ on := 8, ground := Ground.data }, { on := 10, ground := Ground.data }, { on := 10, ground := Ground.chain }, { on := 7, ground := Ground.guard }], guard := some (7, false) }) rfl (fun K hK => ?_) AllReadyH.nil
    go_simp
    ((with_reducible refine (Contains_b _ _ (p.h0 ++ p.h1) _ _ _ _ HT5.out HPh.out HIO.out).mono ?_); rintro e w' ⟨rfl, rfl⟩; clear HIO)
    refine hK.out _ _ ⟨f0, f3, f4⟩ (fun hHeld => ?_)
    clear hK K
    try simp only [Act.put, List.setIfInBounds_toArray, List.set_cons_zero, List.set_cons_succ]
    refine wpAnyH_take (i := 12) (oi := { dst := some 56, op := Op.pick (Operand.tmp 51) (Operand.const (Value.bool true)) (Operand.tmp 55), type := 4, pos := "place.go:21", after := #[{ on := 7, ground := Ground.data }, { on := 11, ground := Ground.data }], guard := none }) (v := ?va22) rfl (by kernel_rfl) (by kernel_rfl) (by kernel_rfl) (fun _ _ _ h => h) (Or.inl ⟨by rfl, ?ya22⟩) (by assumption) ?ra22
    case ya22 => (intro w hSw; (try dsimp only at hSw); go_simp; first | done | (with_reducible rfl))
    try simp only [Act.put, List.setIfInBounds_toArray, List.set_cons_zero, List.set_cons_succ]
    refine wpAnyH_take (i := 13) (oi := { dst := some 57, op := Op.move (Operand.tmp 56), type := 4, pos := "place.go:21", after := #[{ on := 12, ground := Ground.data }, { on := 11, ground := Ground.chain }], guard := none }) (v := ?va23) rfl (by kernel_rfl) (by kernel_rfl) (by kernel_rfl) (fun _ _ _ h => h) (Or.inl ⟨by rfl, ?ya23⟩) (by assumption) ?ra23
    case ya23 => (intro w hSw; (try dsimp only at hSw); go_simp; first | done | (with_reducible rfl))
    try simp only [Act.put, List.setIfInBounds_toArray, List.set_cons_zero, List.set_cons_succ]
    refine wpAnyH_take (i := 14) (oi := { dst := some 58, op := Op.fieldAddr 29 (Operand.tmp 3) 2, type := 0, pos := "place.go:21", after := #[{ on := 13, ground := Ground.guard }], guard := some (13, false) }) (v := undef) rfl (by kernel_rfl) (by kernel_rfl) (by kernel_rfl) (fun _ _ _ h => h) (Or.inr ⟨by rfl, rfl⟩) (by assumption) ?_
    try simp only [Act.put, List.setIfInBounds_toArray, List.set_cons_zero, List.set_cons_succ]
    refine wpAnyH_take (i := 15) (oi := { dst := some 59, op := Op.load 3 (Operand.tmp 58), type := 3, pos := "place.go:21", after := #[{ on := 14, ground := Ground.data }, { on := 13, ground := Ground.guard }], guard := some (13, false) }) (v := undef) rfl (by kernel_rfl) (by kernel_rfl) (by kernel_rfl) (fun _ _ _ h => h) (Or.inr ⟨by rfl, rfl⟩) (by assumption) ?_
    try simp only [Act.put, List.setIfInBounds_toArray, List.set_cons_zero, List.set_cons_succ]
    refine wpAnyH_take (i := 16) (oi := { dst := some 60, op := Op.binOp BinOp.neq 3 (Operand.tmp 59) (Operand.const (Value.int IntKind.i64 0)) 3, type := 4, pos := "place.go:21", after := #[{ on := 15, ground := Ground.data }, { on := 13, ground := Ground.guard }], guard := some (13, false) }) (v := undef) rfl (by kernel_rfl) (by kernel_rfl) (by kernel_rfl) (fun _ _ _ h => h) (Or.inr ⟨by rfl, rfl⟩) (by assumption) ?_
    try simp only [Act.put, List.setIfInBounds_toArray, List.set_cons_zero, List.set_cons_succ]
    refine wpAnyH_take (i := 17) (oi := { dst := some 61, op := Op.move (Operand.tmp 60), type := 4, pos := "place.go:21", after := #[{ on := 16, ground := Ground.data }, { on := 13, ground := Ground.chain }, { on := 13, ground := Ground.guard }], guard := some (13, false) }) (v := undef) rfl (by kernel_rfl) (by kernel_rfl) (by kernel_rfl) (fun _ _ _ h => h) (Or.inr ⟨by rfl, rfl⟩) (by assumption) ?_
    try simp only [Act.put, List.setIfInBounds_toArray, List.set_cons_zero, List.set_cons_succ]
    refine wpAnyH_take (i := 18) (oi := { dst := some 62, op := Op.fieldAddr 29 (Operand.tmp 3) 2, type := 0, pos := "place.go:21", after := #[{ on := 17, ground := Ground.guard }], guard := some (17, true) }) (v := undef) rfl (by kernel_rfl) (by kernel_rfl) (by kernel_rfl) (fun _ _ _ h => h) (Or.inr ⟨by rfl, rfl⟩) (by assumption) ?_
    try simp only [Act.put, List.setIfInBounds_toArray, List.set_cons_zero, List.set_cons_succ]
    refine wpAnyH_take (i := 19) (oi := { dst := some 63, op := Op.load 3 (Operand.tmp 62), type := 3, pos := "place.go:21", after := #[{ on := 18, ground := Ground.data }, { on := 17, ground := Ground.guard }], guard := some (17, true) }) (v := undef) rfl (by kernel_rfl) (by kernel_rfl) (by kernel_rfl) (fun _ _ _ h => h) (Or.inr ⟨by rfl, rfl⟩) (by assumption) ?_
    try simp only [Act.put, List.setIfInBounds_toArray, List.set_cons_zero, List.set_cons_succ]
    refine wpAnyH_take (i := 20) (oi := { dst := some 64, op := Op.binOp BinOp.neq 3 (Operand.tmp 63) (Operand.const (Value.int IntKind.i64 1)) 3, type := 4, pos := "place.go:21", after := #[{ on := 19, ground := Ground.data }, { on := 17, ground := Ground.guard }], guard := some (17, true) }) (v := undef) rfl (by kernel_rfl) (by kernel_rfl) (by kernel_rfl) (fun _ _ _ h => h) (Or.inr ⟨by rfl, rfl⟩) (by assumption) ?_
    try simp only [Act.put, List.setIfInBounds_toArray, List.set_cons_zero, List.set_cons_succ]
    refine wpAnyH_take (i := 21) (oi := { dst := some 65, op := Op.pick (Operand.tmp 61) (Operand.tmp 64) (Operand.const (Value.bool false)), type := 4, pos := "place.go:21", after := #[{ on := 17, ground := Ground.data }, { on := 20, ground := Ground.data }, { on := 13, ground := Ground.guard }], guard := some (13, false) }) (v := undef) rfl (by kernel_rfl) (by kernel_rfl) (by kernel_rfl) (fun _ _ _ h => h) (Or.inr ⟨by rfl, rfl⟩) (by assumption) ?_
    try simp only [Act.put, List.setIfInBounds_toArray, List.set_cons_zero, List.set_cons_succ]
    refine wpAnyH_take (i := 22) (oi := { dst := some 66, op := Op.pick (Operand.tmp 57) (Operand.const (Value.bool true)) (Operand.tmp 65), type := 4, pos := "place.go:21", after := #[{ on := 13, ground := Ground.data }, { on := 21, ground := Ground.data }], guard := none }) (v := ?va24) rfl (by kernel_rfl) (by kernel_rfl) (by kernel_rfl) (fun _ _ _ h => h) (Or.inl ⟨by rfl, ?ya24⟩) (by assumption) ?ra24
    case ya24 => (intro w hSw; (try dsimp only at hSw); go_simp; first | done | (with_reducible rfl))
    try simp only [Act.put, List.setIfInBounds_toArray, List.set_cons_zero, List.set_cons_succ]
    refine wpAnyH_take (i := 23) (oi := { dst := some 67, op := Op.move (Operand.tmp 66), type := 4, pos := "place.go:21", after := #[{ on := 22, ground := Ground.data }, { on := 17, ground := Ground.chain }], guard := none }) (v := ?va25) rfl (by kernel_rfl) (by kernel_rfl) (by kernel_rfl) (fun _ _ _ h => h) (Or.inl ⟨by rfl, ?ya25⟩) (by assumption) ?ra25
    case ya25 => (intro w hSw; (try dsimp only at hSw); go_simp; first | done | (with_reducible rfl))
    try simp only [Act.put, List.setIfInBounds_toArray, List.set_cons_zero, List.set_cons_succ]
    refine wpAnyH_take (i := 24) (oi := { dst := some 68, op := Op.fieldAddr 29 (Operand.tmp 3) 3, type := 0, pos := "place.go:21", after := #[{ on := 23, ground := Ground.guard }], guard := some (23, false) }) (v := undef) rfl (by kernel_rfl) (by kernel_rfl) (by kernel_rfl) (fun _ _ _ h => h) (Or.inr ⟨by rfl, rfl⟩) (by assumption) ?_
    try simp only [Act.put, List.setIfInBounds_toArray, List.set_cons_zero, List.set_cons_succ]
    refine wpAnyH_take (i := 25) (oi := { dst := some 69, op := Op.load 3 (Operand.tmp 68), type := 3, pos := "place.go:21", after := #[{ on := 24, ground := Ground.data }, { on := 23, ground := Ground.guard }], guard := some (23, false) }) (v := undef) rfl (by kernel_rfl) (by kernel_rfl) (by kernel_rfl) (fun _ _ _ h => h) (Or.inr ⟨by rfl, rfl⟩) (by assumption) ?_
    try simp only [Act.put, List.setIfInBounds_toArray, List.set_cons_zero, List.set_cons_succ]
    refine wpAnyH_take (i := 26) (oi := { dst := some 70, op := Op.binOp BinOp.lss 3 (Operand.tmp 69) (Operand.const (Value.int IntKind.i64 0)) 3, type := 4, pos := "place.go:21", after := #[{ on := 25, ground := Ground.data }, { on := 23, ground := Ground.guard }], guard := some (23, false) }) (v := undef) rfl (by kernel_rfl) (by kernel_rfl) (by kernel_rfl) (fun _ _ _ h => h) (Or.inr ⟨by rfl, rfl⟩) (by assumption) ?_
    try simp only [Act.put, List.setIfInBounds_toArray, List.set_cons_zero, List.set_cons_succ]
    refine wpAnyH_take (i := 27) (oi := { dst := some 71, op := Op.pick (Operand.tmp 67) (Operand.const (Value.bool true)) (Operand.tmp 70), type := 4, pos := "place.go:21", after := #[{ on := 23, ground := Ground.data }, { on := 26, ground := Ground.data }], guard := none }) (v := ?va26) rfl (by kernel_rfl) (by kernel_rfl) (by kernel_rfl) (fun _ _ _ h => h) (Or.inl ⟨by rfl, ?ya26⟩) (by assumption) ?ra26
    case ya26 => (intro w hSw; (try dsimp only at hSw); go_simp; first | done | (with_reducible rfl))
    try simp only [Act.put, List.setIfInBounds_toArray, List.set_cons_zero, List.set_cons_succ]
    refine wpAnyH_take (i := 28) (oi := { dst := some 72, op := Op.move (Operand.tmp 71), type := 4, pos := "place.go:21", after := #[{ on := 27, ground := Ground.data }, { on := 23, ground := Ground.chain }], guard := none }) (v := ?va27) rfl (by kernel_rfl) (by kernel_rfl) (by kernel_rfl) (fun _ _ _ h => h) (Or.inl ⟨by rfl, ?ya27⟩) (by assumption) ?ra27
    case ya27 => (intro w hSw; (try dsimp only at hSw); go_simp; first | done | (with_reducible rfl))
    try simp only [Act.put, List.setIfInBounds_toArray, List.set_cons_zero, List.set_cons_succ]
    refine wpAnyH_take (i := 29) (oi := { dst := some 73, op := Op.fieldAddr 29 (Operand.tmp 3) 3, type := 0, pos := "place.go:21", after := #[{ on := 28, ground := Ground.guard }], guard := some (28, false) }) (v := undef) rfl (by kernel_rfl) (by kernel_rfl) (by kernel_rfl) (fun _ _ _ h => h) (Or.inr ⟨by rfl, rfl⟩) (by assumption) ?_
    try simp only [Act.put, List.setIfInBounds_toArray, List.set_cons_zero, List.set_cons_succ]
    refine wpAnyH_take (i := 30) (oi := { dst := some 74, op := Op.load 3 (Operand.tmp 73), type := 3, pos := "place.go:21", after := #[{ on := 29, ground := Ground.data }, { on := 28, ground := Ground.guard }], guard := some (28, false) }) (v := undef) rfl (by kernel_rfl) (by kernel_rfl) (by kernel_rfl) (fun _ _ _ h => h) (Or.inr ⟨by rfl, rfl⟩) (by assumption) ?_
    try simp only [Act.put, List.setIfInBounds_toArray, List.set_cons_zero, List.set_cons_succ]
    refine wpAnyH_take (i := 31) (oi := { dst := some 75, op := Op.binOp BinOp.gtr 3 (Operand.tmp 74) (Operand.const (Value.int IntKind.i64 200)) 3, type := 4, pos := "place.go:21", after := #[{ on := 30, ground := Ground.data }, { on := 28, ground := Ground.guard }], guard := some (28, false) }) (v := undef) rfl (by kernel_rfl) (by kernel_rfl) (by kernel_rfl) (fun _ _ _ h => h) (Or.inr ⟨by rfl, rfl⟩) (by assumption) ?_
    try simp only [Act.put, List.setIfInBounds_toArray, List.set_cons_zero, List.set_cons_succ]
    refine wpAnyH_take (i := 32) (oi := { dst := some 76, op := Op.pick (Operand.tmp 72) (Operand.const (Value.bool true)) (Operand.tmp 75), type := 4, pos := "place.go:21", after := #[{ on := 28, ground := Ground.data }, { on := 31, ground := Ground.data }], guard := none }) (v := ?va28) rfl (by kernel_rfl) (by kernel_rfl) (by kernel_rfl) (fun _ _ _ h => h) (Or.inl ⟨by rfl, ?ya28⟩) (by assumption) ?ra28
    case ya28 => (intro w hSw; (try dsimp only at hSw); go_simp; first | done | (with_reducible rfl))
    try simp only [Act.put, List.setIfInBounds_toArray, List.set_cons_zero, List.set_cons_succ]
    refine wpAnyH_done (by kernel_rfl) ?_ _
    refine NoPanic.normal ?_
    go_wp2_with fail
    go_ret
    exact ⟨by rw [HE.out]; rfl, HB.out⟩
  have HT5 := Lib.hid t5
  clear t5
  cases t6 : (p.turn == 0)
  rotate_left
  · have HT6 := Lib.hid t6
    have t6' : (p.turn != 0) = false := by simp [bne, t6]
    clear t6
    by_cases t8 : p.quiet < 0
    · have t8' : decide (p.quiet < 0) = true := by simpa using t8
      have HE : Hid (soundErr R p = 4) := Lib.hid (by rw [HC2.out, if_pos (.inr (.inr (.inr (.inl t8))))])
      go_wp2_with fail
      refine wp_region_noPanic ?_
      refine wp_region_held_drew (S := (fun w' => w'.cell? ⟨w.heap.size + 1, 0, none⟩ = some (.slice ac p.cells.length cc) ∧ w'.cell? ⟨w.heap.size + 1, 3, none⟩ = some (.int .i64 p.turn) ∧ w'.cell? ⟨w.heap.size + 1, 4, none⟩ = some (.int .i64 p.quiet))) (by kernel_rfl) ⟨f0, f3, f4⟩ (fun hHeld => ?_)
      refine wpAnyH_take (i := 0) (oi := { dst := some 44, op := Op.fieldAddr 29 (Operand.tmp 3) 0, type := 0, pos := "place.go:21", after := #[], guard := none }) (v := ?va29) rfl (by kernel_rfl) (by kernel_rfl) (by kernel_rfl) (fun _ _ _ h => h) (Or.inl ⟨by rfl, ?ya29⟩) (by assumption) ?ra29
      case ya29 => (intro w hSw; (try dsimp only at hSw); go_simp; first | done | (with_reducible rfl))
      try simp only [Act.put, List.setIfInBounds_toArray, List.set_cons_zero, List.set_cons_succ]
      refine wpAnyH_take (i := 2) (oi := { dst := some 46, op := Op.move (Operand.tmp 6), type := 82, pos := "place.go:21", after := #[], guard := none }) (v := ?va30) rfl (by kernel_rfl) (by kernel_rfl) (by kernel_rfl) (fun _ _ _ h => h) (Or.inl ⟨by rfl, ?ya30⟩) (by assumption) ?ra30
      case ya30 => (intro w hSw; (try dsimp only at hSw); go_simp; first | done | (with_reducible rfl))
      try simp only [Act.put, List.setIfInBounds_toArray, List.set_cons_zero, List.set_cons_succ]
      refine wpAnyH_take (i := 3) (oi := { dst := some 47, op := Op.move (Operand.tmp 5), type := 3, pos := "place.go:21", after := #[], guard := none }) (v := ?va31) rfl (by kernel_rfl) (by kernel_rfl) (by kernel_rfl) (fun _ _ _ h => h) (Or.inl ⟨by rfl, ?ya31⟩) (by assumption) ?ra31
      case ya31 => (intro w hSw; (try dsimp only at hSw); go_simp; first | done | (with_reducible rfl))
      try simp only [Act.put, List.setIfInBounds_toArray, List.set_cons_zero, List.set_cons_succ]
      refine wpAnyH_take (i := 1) (oi := { dst := some 45, op := Op.load 23 (Operand.tmp 44), type := 23, pos := "place.go:21", after := #[{ on := 0, ground := Ground.data }], guard := none }) (v := ?va32) rfl (by kernel_rfl) (by kernel_rfl) (by kernel_rfl) (fun _ _ _ h => h) (Or.inl ⟨by rfl, ?ya32⟩) (by assumption) ?ra32
      case ya32 => (intro w hSw; (try dsimp only at hSw); go_simp; first | done | (with_reducible rfl))
      try simp only [Act.put, List.setIfInBounds_toArray, List.set_cons_zero, List.set_cons_succ]
      refine wpAnyH_take (i := 4) (oi := { dst := some 48, op := Op.binOp BinOp.mul 3 (Operand.const (Value.int IntKind.i64 2)) (Operand.tmp 47) 3, type := 3, pos := "place.go:21", after := #[{ on := 3, ground := Ground.data }], guard := none }) (v := ?va33) rfl (by kernel_rfl) (by kernel_rfl) (by kernel_rfl) (fun _ _ _ h => h) (Or.inl ⟨by rfl, ?ya33⟩) (by assumption) ?ra33
      case ya33 => (intro w hSw; (try dsimp only at hSw); go_simp; first | done | (with_reducible rfl))
      try simp only [Act.put, List.setIfInBounds_toArray, List.set_cons_zero, List.set_cons_succ]
      refine wpAnyH_ready (rs := [5]) (by kernel_rfl) (by simp) ?_
      refine AllReadyH.cons (o := { dst := some 49, op := Op.call { callee := Callee.value (Operand.tmp 46), args := #[Operand.const (Value.int IntKind.i64 0), Operand.tmp 48], argTypes := #[3, 3] }, type := 76, pos := "place.go:21", after := #[{ on := 2, ground := Ground.data }, { on := 4, ground := Ground.data }], guard := none }) rfl (fun K hK => ?_) AllReadyH.nil
      go_simp
      ((with_reducible refine (snd1_any _ _ _).mono ?_); rintro e w2 ⟨v2, rfl, hio, hb2⟩; have HIO := Lib.hid hio; (first | (have hb3 := below_undrew hb2) | (have hb3 := hb2)); replace f0 := (hb3.cell (p := ⟨w.heap.size + 1, 0, none⟩) hz).trans f0; replace f3 := (hb3.cell (p := ⟨w.heap.size + 1, 3, none⟩) hz).trans f3; replace f4 := (hb3.cell (p := ⟨w.heap.size + 1, 4, none⟩) hz).trans f4; replace HB := Lib.hid (below_trans HB.out hb3 HB.out.size); replace HPc := Lib.hid (HPc.out.below hb3 (Nat.le_refl _)); replace HPh := Lib.hid (HPh.out.below hb3 (Nat.le_refl _)); replace hz := Nat.lt_of_lt_of_le hz hb3.size; clear hio hb2 hb3)
      refine hK.out _ _ ⟨f0, f3, f4⟩ (fun hHeld => ?_)
      clear hK K
      try simp only [Act.put, List.setIfInBounds_toArray, List.set_cons_zero, List.set_cons_succ]
      refine wpAnyH_ready (rs := [6]) (by kernel_rfl) (by simp) ?_
      refine AllReadyH.cons (o := { dst := some 50, op := Op.call { callee := Callee.value (Operand.func 40), args := #[Operand.tmp 45, Operand.tmp 49], argTypes := #[23, 76] }, type := 4, pos := "place.go:21", after := #[{ on := 1, ground := Ground.data }, { on := 5, ground := Ground.data }, { on := 5, ground := Ground.chain }], guard := none }) rfl (fun K hK => ?_) AllReadyH.nil
      go_simp
      ((with_reducible refine (Contains_b _ _ p.cells _ _ _ _ HT4.out HPc.out HIO.out).mono ?_); rintro e w' ⟨rfl, rfl⟩; clear HIO)
      refine hK.out _ _ ⟨f0, f3, f4⟩ (fun hHeld => ?_)
      clear hK K
      try simp only [Act.put, List.setIfInBounds_toArray, List.set_cons_zero, List.set_cons_succ]
      refine wpAnyH_take (i := 7) (oi := { dst := some 51, op := Op.move (Operand.tmp 50), type := 4, pos := "place.go:21", after := #[{ on := 6, ground := Ground.data }, { on := 6, ground := Ground.chain }], guard := none }) (v := ?va34) rfl (by kernel_rfl) (by kernel_rfl) (by kernel_rfl) (fun _ _ _ h => h) (Or.inl ⟨by rfl, ?ya34⟩) (by assumption) ?ra34
      case ya34 => (intro w hSw; (try dsimp only at hSw); go_simp; first | done | (with_reducible rfl))
      try simp only [Act.put, List.setIfInBounds_toArray, List.set_cons_zero, List.set_cons_succ]
      refine wpAnyH_take (i := 8) (oi := { dst := some 52, op := Op.move (Operand.tmp 7), type := 23, pos := "place.go:21", after := #[{ on := 7, ground := Ground.guard }], guard := some (7, false) }) (v := ?va35) rfl (by kernel_rfl) (by kernel_rfl) (by kernel_rfl) (fun _ _ _ h => h) (Or.inl ⟨by rfl, ?ya35⟩) (by assumption) ?ra35
      case ya35 => (intro w hSw; (try dsimp only at hSw); go_simp; first | done | (with_reducible rfl))
      try simp only [Act.put, List.setIfInBounds_toArray, List.set_cons_zero, List.set_cons_succ]
      refine wpAnyH_take (i := 9) (oi := { dst := some 53, op := Op.move (Operand.tmp 6), type := 82, pos := "place.go:21", after := #[{ on := 7, ground := Ground.guard }], guard := some (7, false) }) (v := ?va36) rfl (by kernel_rfl) (by kernel_rfl) (by kernel_rfl) (fun _ _ _ h => h) (Or.inl ⟨by rfl, ?ya36⟩) (by assumption) ?ra36
      case ya36 => (intro w hSw; (try dsimp only at hSw); go_simp; first | done | (with_reducible rfl))
      try simp only [Act.put, List.setIfInBounds_toArray, List.set_cons_zero, List.set_cons_succ]
      refine wpAnyH_ready (rs := [10]) (by kernel_rfl) (by simp) ?_
      refine AllReadyH.cons (o := { dst := some 54, op := Op.call { callee := Callee.value (Operand.tmp 53), args := #[Operand.const (Value.int IntKind.i64 0), Operand.const (Value.int IntKind.i64 1000)], argTypes := #[3, 3] }, type := 76, pos := "place.go:21", after := #[{ on := 9, ground := Ground.data }, { on := 7, ground := Ground.chain }, { on := 7, ground := Ground.guard }], guard := some (7, false) }) rfl (fun K hK => ?_) AllReadyH.nil
      go_simp
      ((with_reducible refine (snd1_any _ _ _).mono ?_); rintro e w2 ⟨v2, rfl, hio, hb2⟩; have HIO := Lib.hid hio; (first | (have hb3 := below_undrew hb2) | (have hb3 := hb2)); replace f0 := (hb3.cell (p := ⟨w.heap.size + 1, 0, none⟩) hz).trans f0; replace f3 := (hb3.cell (p := ⟨w.heap.size + 1, 3, none⟩) hz).trans f3; replace f4 := (hb3.cell (p := ⟨w.heap.size + 1, 4, none⟩) hz).trans f4; replace HB := Lib.hid (below_trans HB.out hb3 HB.out.size); replace HPc := Lib.hid (HPc.out.below hb3 (Nat.le_refl _)); replace HPh := Lib.hid (HPh.out.below hb3 (Nat.le_refl _)); replace hz := Nat.lt_of_lt_of_le hz hb3.size; clear hio hb2 hb3)
      refine hK.out _ _ ⟨f0, f3, f4⟩ (fun hHeld => ?_)
      clear hK K
      try simp only [Act.put, List.setIfInBounds_toArray, List.set_cons_zero, List.set_cons_succ]
      refine wpAnyH_ready (rs := [11]) (by kernel_rfl) (by simp) ?_
      refine AllReadyH.cons (o := { dst := some 55, op := Op.call { callee := Callee.value (Operand.func 40), args := #[Operand.tmp 52, Operand.tmp 54], argTypes := #[23, 76] }, type := 4, pos := "place.go:21", after := #[{ on := 8, ground := Ground.data }, { on := 10, ground := Ground.data }, { on := 10, ground := Ground.chain }, { on := 7, ground := Ground.guard }], guard := some (7, false) }) rfl (fun K hK => ?_) AllReadyH.nil
      go_simp
      ((with_reducible refine (Contains_b _ _ (p.h0 ++ p.h1) _ _ _ _ HT5.out HPh.out HIO.out).mono ?_); rintro e w' ⟨rfl, rfl⟩; clear HIO)
      refine hK.out _ _ ⟨f0, f3, f4⟩ (fun hHeld => ?_)
      clear hK K
      try simp only [Act.put, List.setIfInBounds_toArray, List.set_cons_zero, List.set_cons_succ]
      refine wpAnyH_take (i := 12) (oi := { dst := some 56, op := Op.pick (Operand.tmp 51) (Operand.const (Value.bool true)) (Operand.tmp 55), type := 4, pos := "place.go:21", after := #[{ on := 7, ground := Ground.data }, { on := 11, ground := Ground.data }], guard := none }) (v := ?va37) rfl (by kernel_rfl) (by kernel_rfl) (by kernel_rfl) (fun _ _ _ h => h) (Or.inl ⟨by rfl, ?ya37⟩) (by assumption) ?ra37
      case ya37 => (intro w hSw; (try dsimp only at hSw); go_simp; first | done | (with_reducible rfl))
      try simp only [Act.put, List.setIfInBounds_toArray, List.set_cons_zero, List.set_cons_succ]
      refine wpAnyH_take (i := 13) (oi := { dst := some 57, op := Op.move (Operand.tmp 56), type := 4, pos := "place.go:21", after := #[{ on := 12, ground := Ground.data }, { on := 11, ground := Ground.chain }], guard := none }) (v := ?va38) rfl (by kernel_rfl) (by kernel_rfl) (by kernel_rfl) (fun _ _ _ h => h) (Or.inl ⟨by rfl, ?ya38⟩) (by assumption) ?ra38
      case ya38 => (intro w hSw; (try dsimp only at hSw); go_simp; first | done | (with_reducible rfl))
      try simp only [Act.put, List.setIfInBounds_toArray, List.set_cons_zero, List.set_cons_succ]
      refine wpAnyH_take (i := 14) (oi := { dst := some 58, op := Op.fieldAddr 29 (Operand.tmp 3) 2, type := 0, pos := "place.go:21", after := #[{ on := 13, ground := Ground.guard }], guard := some (13, false) }) (v := ?va39) rfl (by kernel_rfl) (by kernel_rfl) (by kernel_rfl) (fun _ _ _ h => h) (Or.inl ⟨by rfl, ?ya39⟩) (by assumption) ?ra39
      case ya39 => (intro w hSw; (try dsimp only at hSw); go_simp; first | done | (with_reducible rfl))
      try simp only [Act.put, List.setIfInBounds_toArray, List.set_cons_zero, List.set_cons_succ]
      refine wpAnyH_take (i := 15) (oi := { dst := some 59, op := Op.load 3 (Operand.tmp 58), type := 3, pos := "place.go:21", after := #[{ on := 14, ground := Ground.data }, { on := 13, ground := Ground.guard }], guard := some (13, false) }) (v := ?va40) rfl (by kernel_rfl) (by kernel_rfl) (by kernel_rfl) (fun _ _ _ h => h) (Or.inl ⟨by rfl, ?ya40⟩) (by assumption) ?ra40
      case ya40 => (intro w hSw; (try dsimp only at hSw); go_simp; first | done | (with_reducible rfl))
      try simp only [Act.put, List.setIfInBounds_toArray, List.set_cons_zero, List.set_cons_succ]
      refine wpAnyH_take (i := 16) (oi := { dst := some 60, op := Op.binOp BinOp.neq 3 (Operand.tmp 59) (Operand.const (Value.int IntKind.i64 0)) 3, type := 4, pos := "place.go:21", after := #[{ on := 15, ground := Ground.data }, { on := 13, ground := Ground.guard }], guard := some (13, false) }) (v := ?va41) rfl (by kernel_rfl) (by kernel_rfl) (by kernel_rfl) (fun _ _ _ h => h) (Or.inl ⟨by rfl, ?ya41⟩) (by assumption) ?ra41
      case ya41 => (intro w hSw; (try dsimp only at hSw); go_simp; first | done | (with_reducible rfl))
      try simp only [Act.put, List.setIfInBounds_toArray, List.set_cons_zero, List.set_cons_succ]
      refine wpAnyH_take (i := 17) (oi := { dst := some 61, op := Op.move (Operand.tmp 60), type := 4, pos := "place.go:21", after := #[{ on := 16, ground := Ground.data }, { on := 13, ground := Ground.chain }, { on := 13, ground := Ground.guard }], guard := some (13, false) }) (v := ?va42) rfl (by kernel_rfl) (by kernel_rfl) (by kernel_rfl) (fun _ _ _ h => h) (Or.inl ⟨by rfl, ?ya42⟩) (by assumption) ?ra42
      case ya42 => (intro w hSw; (try dsimp only at hSw); go_simp; first | done | (with_reducible rfl))
      try simp only [Act.put, List.setIfInBounds_toArray, List.set_cons_zero, List.set_cons_succ]
      refine wpAnyH_take (i := 18) (oi := { dst := some 62, op := Op.fieldAddr 29 (Operand.tmp 3) 2, type := 0, pos := "place.go:21", after := #[{ on := 17, ground := Ground.guard }], guard := some (17, true) }) (v := undef) rfl (by kernel_rfl) (by kernel_rfl) (by kernel_rfl) (fun _ _ _ h => h) (Or.inr ⟨by rfl, rfl⟩) (by assumption) ?_
      try simp only [Act.put, List.setIfInBounds_toArray, List.set_cons_zero, List.set_cons_succ]
      refine wpAnyH_take (i := 19) (oi := { dst := some 63, op := Op.load 3 (Operand.tmp 62), type := 3, pos := "place.go:21", after := #[{ on := 18, ground := Ground.data }, { on := 17, ground := Ground.guard }], guard := some (17, true) }) (v := undef) rfl (by kernel_rfl) (by kernel_rfl) (by kernel_rfl) (fun _ _ _ h => h) (Or.inr ⟨by rfl, rfl⟩) (by assumption) ?_
      try simp only [Act.put, List.setIfInBounds_toArray, List.set_cons_zero, List.set_cons_succ]
      refine wpAnyH_take (i := 20) (oi := { dst := some 64, op := Op.binOp BinOp.neq 3 (Operand.tmp 63) (Operand.const (Value.int IntKind.i64 1)) 3, type := 4, pos := "place.go:21", after := #[{ on := 19, ground := Ground.data }, { on := 17, ground := Ground.guard }], guard := some (17, true) }) (v := undef) rfl (by kernel_rfl) (by kernel_rfl) (by kernel_rfl) (fun _ _ _ h => h) (Or.inr ⟨by rfl, rfl⟩) (by assumption) ?_
      try simp only [Act.put, List.setIfInBounds_toArray, List.set_cons_zero, List.set_cons_succ]
      refine wpAnyH_take (i := 21) (oi := { dst := some 65, op := Op.pick (Operand.tmp 61) (Operand.tmp 64) (Operand.const (Value.bool false)), type := 4, pos := "place.go:21", after := #[{ on := 17, ground := Ground.data }, { on := 20, ground := Ground.data }, { on := 13, ground := Ground.guard }], guard := some (13, false) }) (v := ?va43) rfl (by kernel_rfl) (by kernel_rfl) (by kernel_rfl) (fun _ _ _ h => h) (Or.inl ⟨by rfl, ?ya43⟩) (by assumption) ?ra43
      case ya43 => (intro w hSw; (try dsimp only at hSw); go_simp; first | done | (with_reducible rfl))
      try simp only [Act.put, List.setIfInBounds_toArray, List.set_cons_zero, List.set_cons_succ]
      refine wpAnyH_take (i := 22) (oi := { dst := some 66, op := Op.pick (Operand.tmp 57) (Operand.const (Value.bool true)) (Operand.tmp 65), type := 4, pos := "place.go:21", after := #[{ on := 13, ground := Ground.data }, { on := 21, ground := Ground.data }], guard := none }) (v := ?va44) rfl (by kernel_rfl) (by kernel_rfl) (by kernel_rfl) (fun _ _ _ h => h) (Or.inl ⟨by rfl, ?ya44⟩) (by assumption) ?ra44
      case ya44 => (intro w hSw; (try dsimp only at hSw); go_simp; first | done | (with_reducible rfl))
      try simp only [Act.put, List.setIfInBounds_toArray, List.set_cons_zero, List.set_cons_succ]
      refine wpAnyH_take (i := 23) (oi := { dst := some 67, op := Op.move (Operand.tmp 66), type := 4, pos := "place.go:21", after := #[{ on := 22, ground := Ground.data }, { on := 17, ground := Ground.chain }], guard := none }) (v := ?va45) rfl (by kernel_rfl) (by kernel_rfl) (by kernel_rfl) (fun _ _ _ h => h) (Or.inl ⟨by rfl, ?ya45⟩) (by assumption) ?ra45
      case ya45 => (intro w hSw; (try dsimp only at hSw); go_simp; first | done | (with_reducible rfl))
      try simp only [Act.put, List.setIfInBounds_toArray, List.set_cons_zero, List.set_cons_succ]
      refine wpAnyH_take (i := 24) (oi := { dst := some 68, op := Op.fieldAddr 29 (Operand.tmp 3) 3, type := 0, pos := "place.go:21", after := #[{ on := 23, ground := Ground.guard }], guard := some (23, false) }) (v := ?va46) rfl (by kernel_rfl) (by kernel_rfl) (by kernel_rfl) (fun _ _ _ h => h) (Or.inl ⟨by rfl, ?ya46⟩) (by assumption) ?ra46
      case ya46 => (intro w hSw; (try dsimp only at hSw); go_simp; first | done | (with_reducible rfl))
      try simp only [Act.put, List.setIfInBounds_toArray, List.set_cons_zero, List.set_cons_succ]
      refine wpAnyH_take (i := 25) (oi := { dst := some 69, op := Op.load 3 (Operand.tmp 68), type := 3, pos := "place.go:21", after := #[{ on := 24, ground := Ground.data }, { on := 23, ground := Ground.guard }], guard := some (23, false) }) (v := ?va47) rfl (by kernel_rfl) (by kernel_rfl) (by kernel_rfl) (fun _ _ _ h => h) (Or.inl ⟨by rfl, ?ya47⟩) (by assumption) ?ra47
      case ya47 => (intro w hSw; (try dsimp only at hSw); go_simp; first | done | (with_reducible rfl))
      try simp only [Act.put, List.setIfInBounds_toArray, List.set_cons_zero, List.set_cons_succ]
      refine wpAnyH_take (i := 26) (oi := { dst := some 70, op := Op.binOp BinOp.lss 3 (Operand.tmp 69) (Operand.const (Value.int IntKind.i64 0)) 3, type := 4, pos := "place.go:21", after := #[{ on := 25, ground := Ground.data }, { on := 23, ground := Ground.guard }], guard := some (23, false) }) (v := ?va48) rfl (by kernel_rfl) (by kernel_rfl) (by kernel_rfl) (fun _ _ _ h => h) (Or.inl ⟨by rfl, ?ya48⟩) (by assumption) ?ra48
      case ya48 => (intro w hSw; (try dsimp only at hSw); go_simp; first | done | (with_reducible rfl))
      try simp only [Act.put, List.setIfInBounds_toArray, List.set_cons_zero, List.set_cons_succ]
      refine wpAnyH_take (i := 27) (oi := { dst := some 71, op := Op.pick (Operand.tmp 67) (Operand.const (Value.bool true)) (Operand.tmp 70), type := 4, pos := "place.go:21", after := #[{ on := 23, ground := Ground.data }, { on := 26, ground := Ground.data }], guard := none }) (v := ?va49) rfl (by kernel_rfl) (by kernel_rfl) (by kernel_rfl) (fun _ _ _ h => h) (Or.inl ⟨by rfl, ?ya49⟩) (by assumption) ?ra49
      case ya49 => (intro w hSw; (try dsimp only at hSw); go_simp; first | done | (with_reducible rfl))
      try simp only [Act.put, List.setIfInBounds_toArray, List.set_cons_zero, List.set_cons_succ]
      refine wpAnyH_take (i := 28) (oi := { dst := some 72, op := Op.move (Operand.tmp 71), type := 4, pos := "place.go:21", after := #[{ on := 27, ground := Ground.data }, { on := 23, ground := Ground.chain }], guard := none }) (v := ?va50) rfl (by kernel_rfl) (by kernel_rfl) (by kernel_rfl) (fun _ _ _ h => h) (Or.inl ⟨by rfl, ?ya50⟩) (by assumption) ?ra50
      case ya50 => (intro w hSw; (try dsimp only at hSw); go_simp; first | done | (with_reducible rfl))
      try simp only [Act.put, List.setIfInBounds_toArray, List.set_cons_zero, List.set_cons_succ]
      refine wpAnyH_take (i := 29) (oi := { dst := some 73, op := Op.fieldAddr 29 (Operand.tmp 3) 3, type := 0, pos := "place.go:21", after := #[{ on := 28, ground := Ground.guard }], guard := some (28, false) }) (v := undef) rfl (by kernel_rfl) (by kernel_rfl) (by kernel_rfl) (fun _ _ _ h => h) (Or.inr ⟨by rfl, rfl⟩) (by assumption) ?_
      try simp only [Act.put, List.setIfInBounds_toArray, List.set_cons_zero, List.set_cons_succ]
      refine wpAnyH_take (i := 30) (oi := { dst := some 74, op := Op.load 3 (Operand.tmp 73), type := 3, pos := "place.go:21", after := #[{ on := 29, ground := Ground.data }, { on := 28, ground := Ground.guard }], guard := some (28, false) }) (v := undef) rfl (by kernel_rfl) (by kernel_rfl) (by kernel_rfl) (fun _ _ _ h => h) (Or.inr ⟨by rfl, rfl⟩) (by assumption) ?_
      try simp only [Act.put, List.setIfInBounds_toArray, List.set_cons_zero, List.set_cons_succ]
      refine wpAnyH_take (i := 31) (oi := { dst := some 75, op := Op.binOp BinOp.gtr 3 (Operand.tmp 74) (Operand.const (Value.int IntKind.i64 200)) 3, type := 4, pos := "place.go:21", after := #[{ on := 30, ground := Ground.data }, { on := 28, ground := Ground.guard }], guard := some (28, false) }) (v := undef) rfl (by kernel_rfl) (by kernel_rfl) (by kernel_rfl) (fun _ _ _ h => h) (Or.inr ⟨by rfl, rfl⟩) (by assumption) ?_
      try simp only [Act.put, List.setIfInBounds_toArray, List.set_cons_zero, List.set_cons_succ]
      refine wpAnyH_take (i := 32) (oi := { dst := some 76, op := Op.pick (Operand.tmp 72) (Operand.const (Value.bool true)) (Operand.tmp 75), type := 4, pos := "place.go:21", after := #[{ on := 28, ground := Ground.data }, { on := 31, ground := Ground.data }], guard := none }) (v := ?va51) rfl (by kernel_rfl) (by kernel_rfl) (by kernel_rfl) (fun _ _ _ h => h) (Or.inl ⟨by rfl, ?ya51⟩) (by assumption) ?ra51
      case ya51 => (intro w hSw; (try dsimp only at hSw); go_simp; first | done | (with_reducible rfl))
      try simp only [Act.put, List.setIfInBounds_toArray, List.set_cons_zero, List.set_cons_succ]
      refine wpAnyH_done (by kernel_rfl) ?_ _
      refine NoPanic.normal ?_
      go_wp2_with fail
      go_ret
      exact ⟨by rw [HE.out]; rfl, HB.out⟩
    have t8' : decide (p.quiet < 0) = false := by simpa using t8
    by_cases t9 : 200 < p.quiet
    · have t9' : decide (200 < p.quiet) = true := by simpa using t9
      have HE : Hid (soundErr R p = 4) := Lib.hid (by rw [HC2.out, if_pos (.inr (.inr (.inr (.inr t9))))])
      go_wp2_with fail
      refine wp_region_noPanic ?_
      refine wp_region_held_drew (S := (fun w' => w'.cell? ⟨w.heap.size + 1, 0, none⟩ = some (.slice ac p.cells.length cc) ∧ w'.cell? ⟨w.heap.size + 1, 3, none⟩ = some (.int .i64 p.turn) ∧ w'.cell? ⟨w.heap.size + 1, 4, none⟩ = some (.int .i64 p.quiet))) (by kernel_rfl) ⟨f0, f3, f4⟩ (fun hHeld => ?_)
      refine wpAnyH_take (i := 0) (oi := { dst := some 44, op := Op.fieldAddr 29 (Operand.tmp 3) 0, type := 0, pos := "place.go:21", after := #[], guard := none }) (v := ?va52) rfl (by kernel_rfl) (by kernel_rfl) (by kernel_rfl) (fun _ _ _ h => h) (Or.inl ⟨by rfl, ?ya52⟩) (by assumption) ?ra52
      case ya52 => (intro w hSw; (try dsimp only at hSw); go_simp; first | done | (with_reducible rfl))
      try simp only [Act.put, List.setIfInBounds_toArray, List.set_cons_zero, List.set_cons_succ]
      refine wpAnyH_take (i := 2) (oi := { dst := some 46, op := Op.move (Operand.tmp 6), type := 82, pos := "place.go:21", after := #[], guard := none }) (v := ?va53) rfl (by kernel_rfl) (by kernel_rfl) (by kernel_rfl) (fun _ _ _ h => h) (Or.inl ⟨by rfl, ?ya53⟩) (by assumption) ?ra53
      case ya53 => (intro w hSw; (try dsimp only at hSw); go_simp; first | done | (with_reducible rfl))
      try simp only [Act.put, List.setIfInBounds_toArray, List.set_cons_zero, List.set_cons_succ]
      refine wpAnyH_take (i := 3) (oi := { dst := some 47, op := Op.move (Operand.tmp 5), type := 3, pos := "place.go:21", after := #[], guard := none }) (v := ?va54) rfl (by kernel_rfl) (by kernel_rfl) (by kernel_rfl) (fun _ _ _ h => h) (Or.inl ⟨by rfl, ?ya54⟩) (by assumption) ?ra54
      case ya54 => (intro w hSw; (try dsimp only at hSw); go_simp; first | done | (with_reducible rfl))
      try simp only [Act.put, List.setIfInBounds_toArray, List.set_cons_zero, List.set_cons_succ]
      refine wpAnyH_take (i := 1) (oi := { dst := some 45, op := Op.load 23 (Operand.tmp 44), type := 23, pos := "place.go:21", after := #[{ on := 0, ground := Ground.data }], guard := none }) (v := ?va55) rfl (by kernel_rfl) (by kernel_rfl) (by kernel_rfl) (fun _ _ _ h => h) (Or.inl ⟨by rfl, ?ya55⟩) (by assumption) ?ra55
      case ya55 => (intro w hSw; (try dsimp only at hSw); go_simp; first | done | (with_reducible rfl))
      try simp only [Act.put, List.setIfInBounds_toArray, List.set_cons_zero, List.set_cons_succ]
      refine wpAnyH_take (i := 4) (oi := { dst := some 48, op := Op.binOp BinOp.mul 3 (Operand.const (Value.int IntKind.i64 2)) (Operand.tmp 47) 3, type := 3, pos := "place.go:21", after := #[{ on := 3, ground := Ground.data }], guard := none }) (v := ?va56) rfl (by kernel_rfl) (by kernel_rfl) (by kernel_rfl) (fun _ _ _ h => h) (Or.inl ⟨by rfl, ?ya56⟩) (by assumption) ?ra56
      case ya56 => (intro w hSw; (try dsimp only at hSw); go_simp; first | done | (with_reducible rfl))
      try simp only [Act.put, List.setIfInBounds_toArray, List.set_cons_zero, List.set_cons_succ]
      refine wpAnyH_ready (rs := [5]) (by kernel_rfl) (by simp) ?_
      refine AllReadyH.cons (o := { dst := some 49, op := Op.call { callee := Callee.value (Operand.tmp 46), args := #[Operand.const (Value.int IntKind.i64 0), Operand.tmp 48], argTypes := #[3, 3] }, type := 76, pos := "place.go:21", after := #[{ on := 2, ground := Ground.data }, { on := 4, ground := Ground.data }], guard := none }) rfl (fun K hK => ?_) AllReadyH.nil
      go_simp
      ((with_reducible refine (snd1_any _ _ _).mono ?_); rintro e w2 ⟨v2, rfl, hio, hb2⟩; have HIO := Lib.hid hio; (first | (have hb3 := below_undrew hb2) | (have hb3 := hb2)); replace f0 := (hb3.cell (p := ⟨w.heap.size + 1, 0, none⟩) hz).trans f0; replace f3 := (hb3.cell (p := ⟨w.heap.size + 1, 3, none⟩) hz).trans f3; replace f4 := (hb3.cell (p := ⟨w.heap.size + 1, 4, none⟩) hz).trans f4; replace HB := Lib.hid (below_trans HB.out hb3 HB.out.size); replace HPc := Lib.hid (HPc.out.below hb3 (Nat.le_refl _)); replace HPh := Lib.hid (HPh.out.below hb3 (Nat.le_refl _)); replace hz := Nat.lt_of_lt_of_le hz hb3.size; clear hio hb2 hb3)
      refine hK.out _ _ ⟨f0, f3, f4⟩ (fun hHeld => ?_)
      clear hK K
      try simp only [Act.put, List.setIfInBounds_toArray, List.set_cons_zero, List.set_cons_succ]
      refine wpAnyH_ready (rs := [6]) (by kernel_rfl) (by simp) ?_
      refine AllReadyH.cons (o := { dst := some 50, op := Op.call { callee := Callee.value (Operand.func 40), args := #[Operand.tmp 45, Operand.tmp 49], argTypes := #[23, 76] }, type := 4, pos := "place.go:21", after := #[{ on := 1, ground := Ground.data }, { on := 5, ground := Ground.data }, { on := 5, ground := Ground.chain }], guard := none }) rfl (fun K hK => ?_) AllReadyH.nil
      go_simp
      ((with_reducible refine (Contains_b _ _ p.cells _ _ _ _ HT4.out HPc.out HIO.out).mono ?_); rintro e w' ⟨rfl, rfl⟩; clear HIO)
      refine hK.out _ _ ⟨f0, f3, f4⟩ (fun hHeld => ?_)
      clear hK K
      try simp only [Act.put, List.setIfInBounds_toArray, List.set_cons_zero, List.set_cons_succ]
      refine wpAnyH_take (i := 7) (oi := { dst := some 51, op := Op.move (Operand.tmp 50), type := 4, pos := "place.go:21", after := #[{ on := 6, ground := Ground.data }, { on := 6, ground := Ground.chain }], guard := none }) (v := ?va57) rfl (by kernel_rfl) (by kernel_rfl) (by kernel_rfl) (fun _ _ _ h => h) (Or.inl ⟨by rfl, ?ya57⟩) (by assumption) ?ra57
      case ya57 => (intro w hSw; (try dsimp only at hSw); go_simp; first | done | (with_reducible rfl))
      try simp only [Act.put, List.setIfInBounds_toArray, List.set_cons_zero, List.set_cons_succ]
      refine wpAnyH_take (i := 8) (oi := { dst := some 52, op := Op.move (Operand.tmp 7), type := 23, pos := "place.go:21", after := #[{ on := 7, ground := Ground.guard }], guard := some (7, false) }) (v := ?va58) rfl (by kernel_rfl) (by kernel_rfl) (by kernel_rfl) (fun _ _ _ h => h) (Or.inl ⟨by rfl, ?ya58⟩) (by assumption) ?ra58
      case ya58 => (intro w hSw; (try dsimp only at hSw); go_simp; first | done | (with_reducible rfl))
      try simp only [Act.put, List.setIfInBounds_toArray, List.set_cons_zero, List.set_cons_succ]
      refine wpAnyH_take (i := 9) (oi := { dst := some 53, op := Op.move (Operand.tmp 6), type := 82, pos := "place.go:21", after := #[{ on := 7, ground := Ground.guard }], guard := some (7, false) }) (v := ?va59) rfl (by kernel_rfl) (by kernel_rfl) (by kernel_rfl) (fun _ _ _ h => h) (Or.inl ⟨by rfl, ?ya59⟩) (by assumption) ?ra59
      case ya59 => (intro w hSw; (try dsimp only at hSw); go_simp; first | done | (with_reducible rfl))
      try simp only [Act.put, List.setIfInBounds_toArray, List.set_cons_zero, List.set_cons_succ]
      refine wpAnyH_ready (rs := [10]) (by kernel_rfl) (by simp) ?_
      refine AllReadyH.cons (o := { dst := some 54, op := Op.call { callee := Callee.value (Operand.tmp 53), args := #[Operand.const (Value.int IntKind.i64 0), Operand.const (Value.int IntKind.i64 1000)], argTypes := #[3, 3] }, type := 76, pos := "place.go:21", after := #[{ on := 9, ground := Ground.data }, { on := 7, ground := Ground.chain }, { on := 7, ground := Ground.guard }], guard := some (7, false) }) rfl (fun K hK => ?_) AllReadyH.nil
      go_simp
      ((with_reducible refine (snd1_any _ _ _).mono ?_); rintro e w2 ⟨v2, rfl, hio, hb2⟩; have HIO := Lib.hid hio; (first | (have hb3 := below_undrew hb2) | (have hb3 := hb2)); replace f0 := (hb3.cell (p := ⟨w.heap.size + 1, 0, none⟩) hz).trans f0; replace f3 := (hb3.cell (p := ⟨w.heap.size + 1, 3, none⟩) hz).trans f3; replace f4 := (hb3.cell (p := ⟨w.heap.size + 1, 4, none⟩) hz).trans f4; replace HB := Lib.hid (below_trans HB.out hb3 HB.out.size); replace HPc := Lib.hid (HPc.out.below hb3 (Nat.le_refl _)); replace HPh := Lib.hid (HPh.out.below hb3 (Nat.le_refl _)); replace hz := Nat.lt_of_lt_of_le hz hb3.size; clear hio hb2 hb3)
      refine hK.out _ _ ⟨f0, f3, f4⟩ (fun hHeld => ?_)
      clear hK K
      try simp only [Act.put, List.setIfInBounds_toArray, List.set_cons_zero, List.set_cons_succ]
      refine wpAnyH_ready (rs := [11]) (by kernel_rfl) (by simp) ?_
      refine AllReadyH.cons (o := { dst := some 55, op := Op.call { callee := Callee.value (Operand.func 40), args := #[Operand.tmp 52, Operand.tmp 54], argTypes := #[23, 76] }, type := 4, pos := "place.go:21", after := #[{ on := 8, ground := Ground.data }, { on := 10, ground := Ground.data }, { on := 10, ground := Ground.chain }, { on := 7, ground := Ground.guard }], guard := some (7, false) }) rfl (fun K hK => ?_) AllReadyH.nil
      go_simp
      ((with_reducible refine (Contains_b _ _ (p.h0 ++ p.h1) _ _ _ _ HT5.out HPh.out HIO.out).mono ?_); rintro e w' ⟨rfl, rfl⟩; clear HIO)
      refine hK.out _ _ ⟨f0, f3, f4⟩ (fun hHeld => ?_)
      clear hK K
      try simp only [Act.put, List.setIfInBounds_toArray, List.set_cons_zero, List.set_cons_succ]
      refine wpAnyH_take (i := 12) (oi := { dst := some 56, op := Op.pick (Operand.tmp 51) (Operand.const (Value.bool true)) (Operand.tmp 55), type := 4, pos := "place.go:21", after := #[{ on := 7, ground := Ground.data }, { on := 11, ground := Ground.data }], guard := none }) (v := ?va60) rfl (by kernel_rfl) (by kernel_rfl) (by kernel_rfl) (fun _ _ _ h => h) (Or.inl ⟨by rfl, ?ya60⟩) (by assumption) ?ra60
      case ya60 => (intro w hSw; (try dsimp only at hSw); go_simp; first | done | (with_reducible rfl))
      try simp only [Act.put, List.setIfInBounds_toArray, List.set_cons_zero, List.set_cons_succ]
      refine wpAnyH_take (i := 13) (oi := { dst := some 57, op := Op.move (Operand.tmp 56), type := 4, pos := "place.go:21", after := #[{ on := 12, ground := Ground.data }, { on := 11, ground := Ground.chain }], guard := none }) (v := ?va61) rfl (by kernel_rfl) (by kernel_rfl) (by kernel_rfl) (fun _ _ _ h => h) (Or.inl ⟨by rfl, ?ya61⟩) (by assumption) ?ra61
      case ya61 => (intro w hSw; (try dsimp only at hSw); go_simp; first | done | (with_reducible rfl))
      try simp only [Act.put, List.setIfInBounds_toArray, List.set_cons_zero, List.set_cons_succ]
      refine wpAnyH_take (i := 14) (oi := { dst := some 58, op := Op.fieldAddr 29 (Operand.tmp 3) 2, type := 0, pos := "place.go:21", after := #[{ on := 13, ground := Ground.guard }], guard := some (13, false) }) (v := ?va62) rfl (by kernel_rfl) (by kernel_rfl) (by kernel_rfl) (fun _ _ _ h => h) (Or.inl ⟨by rfl, ?ya62⟩) (by assumption) ?ra62
      case ya62 => (intro w hSw; (try dsimp only at hSw); go_simp; first | done | (with_reducible rfl))
      try simp only [Act.put, List.setIfInBounds_toArray, List.set_cons_zero, List.set_cons_succ]
      refine wpAnyH_take (i := 15) (oi := { dst := some 59, op := Op.load 3 (Operand.tmp 58), type := 3, pos := "place.go:21", after := #[{ on := 14, ground := Ground.data }, { on := 13, ground := Ground.guard }], guard := some (13, false) }) (v := ?va63) rfl (by kernel_rfl) (by kernel_rfl) (by kernel_rfl) (fun _ _ _ h => h) (Or.inl ⟨by rfl, ?ya63⟩) (by assumption) ?ra63
      case ya63 => (intro w hSw; (try dsimp only at hSw); go_simp; first | done | (with_reducible rfl))
      try simp only [Act.put, List.setIfInBounds_toArray, List.set_cons_zero, List.set_cons_succ]
      refine wpAnyH_take (i := 16) (oi := { dst := some 60, op := Op.binOp BinOp.neq 3 (Operand.tmp 59) (Operand.const (Value.int IntKind.i64 0)) 3, type := 4, pos := "place.go:21", after := #[{ on := 15, ground := Ground.data }, { on := 13, ground := Ground.guard }], guard := some (13, false) }) (v := ?va64) rfl (by kernel_rfl) (by kernel_rfl) (by kernel_rfl) (fun _ _ _ h => h) (Or.inl ⟨by rfl, ?ya64⟩) (by assumption) ?ra64
      case ya64 => (intro w hSw; (try dsimp only at hSw); go_simp; first | done | (with_reducible rfl))
      try simp only [Act.put, List.setIfInBounds_toArray, List.set_cons_zero, List.set_cons_succ]
      refine wpAnyH_take (i := 17) (oi := { dst := some 61, op := Op.move (Operand.tmp 60), type := 4, pos := "place.go:21", after := #[{ on := 16, ground := Ground.data }, { on := 13, ground := Ground.chain }, { on := 13, ground := Ground.guard }], guard := some (13, false) }) (v := ?va65) rfl (by kernel_rfl) (by kernel_rfl) (by kernel_rfl) (fun _ _ _ h => h) (Or.inl ⟨by rfl, ?ya65⟩) (by assumption) ?ra65
      case ya65 => (intro w hSw; (try dsimp only at hSw); go_simp; first | done | (with_reducible rfl))
      try simp only [Act.put, List.setIfInBounds_toArray, List.set_cons_zero, List.set_cons_succ]
      refine wpAnyH_take (i := 18) (oi := { dst := some 62, op := Op.fieldAddr 29 (Operand.tmp 3) 2, type := 0, pos := "place.go:21", after := #[{ on := 17, ground := Ground.guard }], guard := some (17, true) }) (v := undef) rfl (by kernel_rfl) (by kernel_rfl) (by kernel_rfl) (fun _ _ _ h => h) (Or.inr ⟨by rfl, rfl⟩) (by assumption) ?_
      try simp only [Act.put, List.setIfInBounds_toArray, List.set_cons_zero, List.set_cons_succ]
      refine wpAnyH_take (i := 19) (oi := { dst := some 63, op := Op.load 3 (Operand.tmp 62), type := 3, pos := "place.go:21", after := #[{ on := 18, ground := Ground.data }, { on := 17, ground := Ground.guard }], guard := some (17, true) }) (v := undef) rfl (by kernel_rfl) (by kernel_rfl) (by kernel_rfl) (fun _ _ _ h => h) (Or.inr ⟨by rfl, rfl⟩) (by assumption) ?_
      try simp only [Act.put, List.setIfInBounds_toArray, List.set_cons_zero, List.set_cons_succ]
      refine wpAnyH_take (i := 20) (oi := { dst := some 64, op := Op.binOp BinOp.neq 3 (Operand.tmp 63) (Operand.const (Value.int IntKind.i64 1)) 3, type := 4, pos := "place.go:21", after := #[{ on := 19, ground := Ground.data }, { on := 17, ground := Ground.guard }], guard := some (17, true) }) (v := undef) rfl (by kernel_rfl) (by kernel_rfl) (by kernel_rfl) (fun _ _ _ h => h) (Or.inr ⟨by rfl, rfl⟩) (by assumption) ?_
      try simp only [Act.put, List.setIfInBounds_toArray, List.set_cons_zero, List.set_cons_succ]
      refine wpAnyH_take (i := 21) (oi := { dst := some 65, op := Op.pick (Operand.tmp 61) (Operand.tmp 64) (Operand.const (Value.bool false)), type := 4, pos := "place.go:21", after := #[{ on := 17, ground := Ground.data }, { on := 20, ground := Ground.data }, { on := 13, ground := Ground.guard }], guard := some (13, false) }) (v := ?va66) rfl (by kernel_rfl) (by kernel_rfl) (by kernel_rfl) (fun _ _ _ h => h) (Or.inl ⟨by rfl, ?ya66⟩) (by assumption) ?ra66
      case ya66 => (intro w hSw; (try dsimp only at hSw); go_simp; first | done | (with_reducible rfl))
      try simp only [Act.put, List.setIfInBounds_toArray, List.set_cons_zero, List.set_cons_succ]
      refine wpAnyH_take (i := 22) (oi := { dst := some 66, op := Op.pick (Operand.tmp 57) (Operand.const (Value.bool true)) (Operand.tmp 65), type := 4, pos := "place.go:21", after := #[{ on := 13, ground := Ground.data }, { on := 21, ground := Ground.data }], guard := none }) (v := ?va67) rfl (by kernel_rfl) (by kernel_rfl) (by kernel_rfl) (fun _ _ _ h => h) (Or.inl ⟨by rfl, ?ya67⟩) (by assumption) ?ra67
      case ya67 => (intro w hSw; (try dsimp only at hSw); go_simp; first | done | (with_reducible rfl))
      try simp only [Act.put, List.setIfInBounds_toArray, List.set_cons_zero, List.set_cons_succ]
      refine wpAnyH_take (i := 23) (oi := { dst := some 67, op := Op.move (Operand.tmp 66), type := 4, pos := "place.go:21", after := #[{ on := 22, ground := Ground.data }, { on := 17, ground := Ground.chain }], guard := none }) (v := ?va68) rfl (by kernel_rfl) (by kernel_rfl) (by kernel_rfl) (fun _ _ _ h => h) (Or.inl ⟨by rfl, ?ya68⟩) (by assumption) ?ra68
      case ya68 => (intro w hSw; (try dsimp only at hSw); go_simp; first | done | (with_reducible rfl))
      try simp only [Act.put, List.setIfInBounds_toArray, List.set_cons_zero, List.set_cons_succ]
      refine wpAnyH_take (i := 24) (oi := { dst := some 68, op := Op.fieldAddr 29 (Operand.tmp 3) 3, type := 0, pos := "place.go:21", after := #[{ on := 23, ground := Ground.guard }], guard := some (23, false) }) (v := ?va69) rfl (by kernel_rfl) (by kernel_rfl) (by kernel_rfl) (fun _ _ _ h => h) (Or.inl ⟨by rfl, ?ya69⟩) (by assumption) ?ra69
      case ya69 => (intro w hSw; (try dsimp only at hSw); go_simp; first | done | (with_reducible rfl))
      try simp only [Act.put, List.setIfInBounds_toArray, List.set_cons_zero, List.set_cons_succ]
      refine wpAnyH_take (i := 25) (oi := { dst := some 69, op := Op.load 3 (Operand.tmp 68), type := 3, pos := "place.go:21", after := #[{ on := 24, ground := Ground.data }, { on := 23, ground := Ground.guard }], guard := some (23, false) }) (v := ?va70) rfl (by kernel_rfl) (by kernel_rfl) (by kernel_rfl) (fun _ _ _ h => h) (Or.inl ⟨by rfl, ?ya70⟩) (by assumption) ?ra70
      case ya70 => (intro w hSw; (try dsimp only at hSw); go_simp; first | done | (with_reducible rfl))
      try simp only [Act.put, List.setIfInBounds_toArray, List.set_cons_zero, List.set_cons_succ]
      refine wpAnyH_take (i := 26) (oi := { dst := some 70, op := Op.binOp BinOp.lss 3 (Operand.tmp 69) (Operand.const (Value.int IntKind.i64 0)) 3, type := 4, pos := "place.go:21", after := #[{ on := 25, ground := Ground.data }, { on := 23, ground := Ground.guard }], guard := some (23, false) }) (v := ?va71) rfl (by kernel_rfl) (by kernel_rfl) (by kernel_rfl) (fun _ _ _ h => h) (Or.inl ⟨by rfl, ?ya71⟩) (by assumption) ?ra71
      case ya71 => (intro w hSw; (try dsimp only at hSw); go_simp; first | done | (with_reducible rfl))
      try simp only [Act.put, List.setIfInBounds_toArray, List.set_cons_zero, List.set_cons_succ]
      refine wpAnyH_take (i := 27) (oi := { dst := some 71, op := Op.pick (Operand.tmp 67) (Operand.const (Value.bool true)) (Operand.tmp 70), type := 4, pos := "place.go:21", after := #[{ on := 23, ground := Ground.data }, { on := 26, ground := Ground.data }], guard := none }) (v := ?va72) rfl (by kernel_rfl) (by kernel_rfl) (by kernel_rfl) (fun _ _ _ h => h) (Or.inl ⟨by rfl, ?ya72⟩) (by assumption) ?ra72
      case ya72 => (intro w hSw; (try dsimp only at hSw); go_simp; first | done | (with_reducible rfl))
      try simp only [Act.put, List.setIfInBounds_toArray, List.set_cons_zero, List.set_cons_succ]
      refine wpAnyH_take (i := 28) (oi := { dst := some 72, op := Op.move (Operand.tmp 71), type := 4, pos := "place.go:21", after := #[{ on := 27, ground := Ground.data }, { on := 23, ground := Ground.chain }], guard := none }) (v := ?va73) rfl (by kernel_rfl) (by kernel_rfl) (by kernel_rfl) (fun _ _ _ h => h) (Or.inl ⟨by rfl, ?ya73⟩) (by assumption) ?ra73
      case ya73 => (intro w hSw; (try dsimp only at hSw); go_simp; first | done | (with_reducible rfl))
      try simp only [Act.put, List.setIfInBounds_toArray, List.set_cons_zero, List.set_cons_succ]
      refine wpAnyH_take (i := 29) (oi := { dst := some 73, op := Op.fieldAddr 29 (Operand.tmp 3) 3, type := 0, pos := "place.go:21", after := #[{ on := 28, ground := Ground.guard }], guard := some (28, false) }) (v := ?va74) rfl (by kernel_rfl) (by kernel_rfl) (by kernel_rfl) (fun _ _ _ h => h) (Or.inl ⟨by rfl, ?ya74⟩) (by assumption) ?ra74
      case ya74 => (intro w hSw; (try dsimp only at hSw); go_simp; first | done | (with_reducible rfl))
      try simp only [Act.put, List.setIfInBounds_toArray, List.set_cons_zero, List.set_cons_succ]
      refine wpAnyH_take (i := 30) (oi := { dst := some 74, op := Op.load 3 (Operand.tmp 73), type := 3, pos := "place.go:21", after := #[{ on := 29, ground := Ground.data }, { on := 28, ground := Ground.guard }], guard := some (28, false) }) (v := ?va75) rfl (by kernel_rfl) (by kernel_rfl) (by kernel_rfl) (fun _ _ _ h => h) (Or.inl ⟨by rfl, ?ya75⟩) (by assumption) ?ra75
      case ya75 => (intro w hSw; (try dsimp only at hSw); go_simp; first | done | (with_reducible rfl))
      try simp only [Act.put, List.setIfInBounds_toArray, List.set_cons_zero, List.set_cons_succ]
      refine wpAnyH_take (i := 31) (oi := { dst := some 75, op := Op.binOp BinOp.gtr 3 (Operand.tmp 74) (Operand.const (Value.int IntKind.i64 200)) 3, type := 4, pos := "place.go:21", after := #[{ on := 30, ground := Ground.data }, { on := 28, ground := Ground.guard }], guard := some (28, false) }) (v := ?va76) rfl (by kernel_rfl) (by kernel_rfl) (by kernel_rfl) (fun _ _ _ h => h) (Or.inl ⟨by rfl, ?ya76⟩) (by assumption) ?ra76
      case ya76 => (intro w hSw; (try dsimp only at hSw); go_simp; first | done | (with_reducible rfl))
      try simp only [Act.put, List.setIfInBounds_toArray, List.set_cons_zero, List.set_cons_succ]
      refine wpAnyH_take (i := 32) (oi := { dst := some 76, op := Op.pick (Operand.tmp 72) (Operand.const (Value.bool true)) (Operand.tmp 75), type := 4, pos := "place.go:21", after := #[{ on := 28, ground := Ground.data }, { on := 31, ground := Ground.data }], guard := none }) (v := ?va77) rfl (by kernel_rfl) (by kernel_rfl) (by kernel_rfl) (fun _ _ _ h => h) (Or.inl ⟨by rfl, ?ya77⟩) (by assumption) ?ra77
      case ya77 => (intro w hSw; (try dsimp only at hSw); go_simp; first | done | (with_reducible rfl))
      try simp only [Act.put, List.setIfInBounds_toArray, List.set_cons_zero, List.set_cons_succ]
      refine wpAnyH_done (by kernel_rfl) ?_ _
      refine NoPanic.normal ?_
      go_wp2_with fail
      go_ret
      exact ⟨by rw [HE.out]; rfl, HB.out⟩
    have t9' : decide (200 < p.quiet) = false := by simpa using t9
    have HE : Hid (soundErr R p = 0) := Lib.hid (by rw [HC2.out, if_neg (by simp only [HT4.out, HT5.out, Bool.false_eq_true, false_or]; rintro (h | h | h) <;> first | omega | (have := HT6.out; simp at this; omega))])
    go_wp2_with fail
    refine wp_region_noPanic ?_
    refine wp_region_held_drew (S := (fun w' => w'.cell? ⟨w.heap.size + 1, 0, none⟩ = some (.slice ac p.cells.length cc) ∧ w'.cell? ⟨w.heap.size + 1, 3, none⟩ = some (.int .i64 p.turn) ∧ w'.cell? ⟨w.heap.size + 1, 4, none⟩ = some (.int .i64 p.quiet))) (by kernel_rfl) ⟨f0, f3, f4⟩ (fun hHeld => ?_)
    refine wpAnyH_take (i := 0) (oi := { dst := some 44, op := Op.fieldAddr 29 (Operand.tmp 3) 0, type := 0, pos := "place.go:21", after := #[], guard := none }) (v := ?va78) rfl (by kernel_rfl) (by kernel_rfl) (by kernel_rfl) (fun _ _ _ h => h) (Or.inl ⟨by rfl, ?ya78⟩) (by assumption) ?ra78
    case ya78 => (intro w hSw; (try dsimp only at hSw); go_simp; first | done | (with_reducible rfl))
    try simp only [Act.put, List.setIfInBounds_toArray, List.set_cons_zero, List.set_cons_succ]
    refine wpAnyH_take (i := 2) (oi := { dst := some 46, op := Op.move (Operand.tmp 6), type := 82, pos := "place.go:21", after := #[], guard := none }) (v := ?va79) rfl (by kernel_rfl) (by kernel_rfl) (by kernel_rfl) (fun _ _ _ h => h) (Or.inl ⟨by rfl, ?ya79⟩) (by assumption) ?ra79
    case ya79 => (intro w hSw; (try dsimp only at hSw); go_simp; first | done | (with_reducible rfl))
    try simp only [Act.put, List.setIfInBounds_toArray, List.set_cons_zero, List.set_cons_succ]
    refine wpAnyH_take (i := 3) (oi := { dst := some 47, op := Op.move (Operand.tmp 5), type := 3, pos := "place.go:21", after := #[], guard := none }) (v := ?va80) rfl (by kernel_rfl) (by kernel_rfl) (by kernel_rfl) (fun _ _ _ h => h) (Or.inl ⟨by rfl, ?ya80⟩) (by assumption) ?ra80
    case ya80 => (intro w hSw; (try dsimp only at hSw); go_simp; first | done | (with_reducible rfl))
    try simp only [Act.put, List.setIfInBounds_toArray, List.set_cons_zero, List.set_cons_succ]
    refine wpAnyH_take (i := 1) (oi := { dst := some 45, op := Op.load 23 (Operand.tmp 44), type := 23, pos := "place.go:21", after := #[{ on := 0, ground := Ground.data }], guard := none }) (v := ?va81) rfl (by kernel_rfl) (by kernel_rfl) (by kernel_rfl) (fun _ _ _ h => h) (Or.inl ⟨by rfl, ?ya81⟩) (by assumption) ?ra81
    case ya81 => (intro w hSw; (try dsimp only at hSw); go_simp; first | done | (with_reducible rfl))
    try simp only [Act.put, List.setIfInBounds_toArray, List.set_cons_zero, List.set_cons_succ]
    refine wpAnyH_take (i := 4) (oi := { dst := some 48, op := Op.binOp BinOp.mul 3 (Operand.const (Value.int IntKind.i64 2)) (Operand.tmp 47) 3, type := 3, pos := "place.go:21", after := #[{ on := 3, ground := Ground.data }], guard := none }) (v := ?va82) rfl (by kernel_rfl) (by kernel_rfl) (by kernel_rfl) (fun _ _ _ h => h) (Or.inl ⟨by rfl, ?ya82⟩) (by assumption) ?ra82
    case ya82 => (intro w hSw; (try dsimp only at hSw); go_simp; first | done | (with_reducible rfl))
    try simp only [Act.put, List.setIfInBounds_toArray, List.set_cons_zero, List.set_cons_succ]
    refine wpAnyH_ready (rs := [5]) (by kernel_rfl) (by simp) ?_
    refine AllReadyH.cons (o := { dst := some 49, op := Op.call { callee := Callee.value (Operand.tmp 46), args := #[Operand.const (Value.int IntKind.i64 0), Operand.tmp 48], argTypes := #[3, 3] }, type := 76, pos := "place.go:21", after := #[{ on := 2, ground := Ground.data }, { on := 4, ground := Ground.data }], guard := none }) rfl (fun K hK => ?_) AllReadyH.nil
    go_simp
    ((with_reducible refine (snd1_any _ _ _).mono ?_); rintro e w2 ⟨v2, rfl, hio, hb2⟩; have HIO := Lib.hid hio; (first | (have hb3 := below_undrew hb2) | (have hb3 := hb2)); replace f0 := (hb3.cell (p := ⟨w.heap.size + 1, 0, none⟩) hz).trans f0; replace f3 := (hb3.cell (p := ⟨w.heap.size + 1, 3, none⟩) hz).trans f3; replace f4 := (hb3.cell (p := ⟨w.heap.size + 1, 4, none⟩) hz).trans f4; replace HB := Lib.hid (below_trans HB.out hb3 HB.out.size); replace HPc := Lib.hid (HPc.out.below hb3 (Nat.le_refl _)); replace HPh := Lib.hid (HPh.out.below hb3 (Nat.le_refl _)); replace hz := Nat.lt_of_lt_of_le hz hb3.size; clear hio hb2 hb3)
    refine hK.out _ _ ⟨f0, f3, f4⟩ (fun hHeld => ?_)
    clear hK K
    try simp only [Act.put, List.setIfInBounds_toArray, List.set_cons_zero, List.set_cons_succ]
    refine wpAnyH_ready (rs := [6]) (by kernel_rfl) (by simp) ?_
    refine AllReadyH.cons (o := { dst := some 50, op := Op.call { callee := Callee.value (Operand.func 40), args := #[Operand.tmp 45, Operand.tmp 49], argTypes := #[23, 76] }, type := 4, pos := "place.go:21", after := #[{ on := 1, ground := Ground.data }, { on := 5, ground := Ground.data }, { on := 5, ground := Ground.chain }], guard := none }) rfl (fun K hK => ?_) AllReadyH.nil
    go_simp
    ((with_reducible refine (Contains_b _ _ p.cells _ _ _ _ HT4.out HPc.out HIO.out).mono ?_); rintro e w' ⟨rfl, rfl⟩; clear HIO)
    refine hK.out _ _ ⟨f0, f3, f4⟩ (fun hHeld => ?_)
    clear hK K
    try simp only [Act.put, List.setIfInBounds_toArray, List.set_cons_zero, List.set_cons_succ]
    refine wpAnyH_take (i := 7) (oi := { dst := some 51, op := Op.move (Operand.tmp 50), type := 4, pos := "place.go:21", after := #[{ on := 6, ground := Ground.data }, { on := 6, ground := Ground.chain }], guard := none }) (v := ?va83) rfl (by kernel_rfl) (by kernel_rfl) (by kernel_rfl) (fun _ _ _ h => h) (Or.inl ⟨by rfl, ?ya83⟩) (by assumption) ?ra83
    case ya83 => (intro w hSw; (try dsimp only at hSw); go_simp; first | done | (with_reducible rfl))
    try simp only [Act.put, List.setIfInBounds_toArray, List.set_cons_zero, List.set_cons_succ]
    refine wpAnyH_take (i := 8) (oi := { dst := some 52, op := Op.move (Operand.tmp 7), type := 23, pos := "place.go:21", after := #[{ on := 7, ground := Ground.guard }], guard := some (7, false) }) (v := ?va84) rfl (by kernel_rfl) (by kernel_rfl) (by kernel_rfl) (fun _ _ _ h => h) (Or.inl ⟨by rfl, ?ya84⟩) (by assumption) ?ra84
    case ya84 => (intro w hSw; (try dsimp only at hSw); go_simp; first | done | (with_reducible rfl))
    try simp only [Act.put, List.setIfInBounds_toArray, List.set_cons_zero, List.set_cons_succ]
    refine wpAnyH_take (i := 9) (oi := { dst := some 53, op := Op.move (Operand.tmp 6), type := 82, pos := "place.go:21", after := #[{ on := 7, ground := Ground.guard }], guard := some (7, false) }) (v := ?va85) rfl (by kernel_rfl) (by kernel_rfl) (by kernel_rfl) (fun _ _ _ h => h) (Or.inl ⟨by rfl, ?ya85⟩) (by assumption) ?ra85
    case ya85 => (intro w hSw; (try dsimp only at hSw); go_simp; first | done | (with_reducible rfl))
    try simp only [Act.put, List.setIfInBounds_toArray, List.set_cons_zero, List.set_cons_succ]
    refine wpAnyH_ready (rs := [10]) (by kernel_rfl) (by simp) ?_
    refine AllReadyH.cons (o := { dst := some 54, op := Op.call { callee := Callee.value (Operand.tmp 53), args := #[Operand.const (Value.int IntKind.i64 0), Operand.const (Value.int IntKind.i64 1000)], argTypes := #[3, 3] }, type := 76, pos := "place.go:21", after := #[{ on := 9, ground := Ground.data }, { on := 7, ground := Ground.chain }, { on := 7, ground := Ground.guard }], guard := some (7, false) }) rfl (fun K hK => ?_) AllReadyH.nil
    go_simp
    ((with_reducible refine (snd1_any _ _ _).mono ?_); rintro e w2 ⟨v2, rfl, hio, hb2⟩; have HIO := Lib.hid hio; (first | (have hb3 := below_undrew hb2) | (have hb3 := hb2)); replace f0 := (hb3.cell (p := ⟨w.heap.size + 1, 0, none⟩) hz).trans f0; replace f3 := (hb3.cell (p := ⟨w.heap.size + 1, 3, none⟩) hz).trans f3; replace f4 := (hb3.cell (p := ⟨w.heap.size + 1, 4, none⟩) hz).trans f4; replace HB := Lib.hid (below_trans HB.out hb3 HB.out.size); replace HPc := Lib.hid (HPc.out.below hb3 (Nat.le_refl _)); replace HPh := Lib.hid (HPh.out.below hb3 (Nat.le_refl _)); replace hz := Nat.lt_of_lt_of_le hz hb3.size; clear hio hb2 hb3)
    refine hK.out _ _ ⟨f0, f3, f4⟩ (fun hHeld => ?_)
    clear hK K
    try simp only [Act.put, List.setIfInBounds_toArray, List.set_cons_zero, List.set_cons_succ]
    refine wpAnyH_ready (rs := [11]) (by kernel_rfl) (by simp) ?_
    refine AllReadyH.cons (o := { dst := some 55, op := Op.call { callee := Callee.value (Operand.func 40), args := #[Operand.tmp 52, Operand.tmp 54], argTypes := #[23, 76] }, type := 4, pos := "place.go:21", after := #[{ on := 8, ground := Ground.data }, { on := 10, ground := Ground.data }, { on := 10, ground := Ground.chain }, { on := 7, ground := Ground.guard }], guard := some (7, false) }) rfl (fun K hK => ?_) AllReadyH.nil
    go_simp
    ((with_reducible refine (Contains_b _ _ (p.h0 ++ p.h1) _ _ _ _ HT5.out HPh.out HIO.out).mono ?_); rintro e w' ⟨rfl, rfl⟩; clear HIO)
    refine hK.out _ _ ⟨f0, f3, f4⟩ (fun hHeld => ?_)
    clear hK K
    try simp only [Act.put, List.setIfInBounds_toArray, List.set_cons_zero, List.set_cons_succ]
    refine wpAnyH_take (i := 12) (oi := { dst := some 56, op := Op.pick (Operand.tmp 51) (Operand.const (Value.bool true)) (Operand.tmp 55), type := 4, pos := "place.go:21", after := #[{ on := 7, ground := Ground.data }, { on := 11, ground := Ground.data }], guard := none }) (v := ?va86) rfl (by kernel_rfl) (by kernel_rfl) (by kernel_rfl) (fun _ _ _ h => h) (Or.inl ⟨by rfl, ?ya86⟩) (by assumption) ?ra86
    case ya86 => (intro w hSw; (try dsimp only at hSw); go_simp; first | done | (with_reducible rfl))
    try simp only [Act.put, List.setIfInBounds_toArray, List.set_cons_zero, List.set_cons_succ]
    refine wpAnyH_take (i := 13) (oi := { dst := some 57, op := Op.move (Operand.tmp 56), type := 4, pos := "place.go:21", after := #[{ on := 12, ground := Ground.data }, { on := 11, ground := Ground.chain }], guard := none }) (v := ?va87) rfl (by kernel_rfl) (by kernel_rfl) (by kernel_rfl) (fun _ _ _ h => h) (Or.inl ⟨by rfl, ?ya87⟩) (by assumption) ?ra87
    case ya87 => (intro w hSw; (try dsimp only at hSw); go_simp; first | done | (with_reducible rfl))
    try simp only [Act.put, List.setIfInBounds_toArray, List.set_cons_zero, List.set_cons_succ]
    refine wpAnyH_take (i := 14) (oi := { dst := some 58, op := Op.fieldAddr 29 (Operand.tmp 3) 2, type := 0, pos := "place.go:21", after := #[{ on := 13, ground := Ground.guard }], guard := some (13, false) }) (v := ?va88) rfl (by kernel_rfl) (by kernel_rfl) (by kernel_rfl) (fun _ _ _ h => h) (Or.inl ⟨by rfl, ?ya88⟩) (by assumption) ?ra88
    case ya88 => (intro w hSw; (try dsimp only at hSw); go_simp; first | done | (with_reducible rfl))
    try simp only [Act.put, List.setIfInBounds_toArray, List.set_cons_zero, List.set_cons_succ]
    refine wpAnyH_take (i := 15) (oi := { dst := some 59, op := Op.load 3 (Operand.tmp 58), type := 3, pos := "place.go:21", after := #[{ on := 14, ground := Ground.data }, { on := 13, ground := Ground.guard }], guard := some (13, false) }) (v := ?va89) rfl (by kernel_rfl) (by kernel_rfl) (by kernel_rfl) (fun _ _ _ h => h) (Or.inl ⟨by rfl, ?ya89⟩) (by assumption) ?ra89
    case ya89 => (intro w hSw; (try dsimp only at hSw); go_simp; first | done | (with_reducible rfl))
    try simp only [Act.put, List.setIfInBounds_toArray, List.set_cons_zero, List.set_cons_succ]
    refine wpAnyH_take (i := 16) (oi := { dst := some 60, op := Op.binOp BinOp.neq 3 (Operand.tmp 59) (Operand.const (Value.int IntKind.i64 0)) 3, type := 4, pos := "place.go:21", after := #[{ on := 15, ground := Ground.data }, { on := 13, ground := Ground.guard }], guard := some (13, false) }) (v := ?va90) rfl (by kernel_rfl) (by kernel_rfl) (by kernel_rfl) (fun _ _ _ h => h) (Or.inl ⟨by rfl, ?ya90⟩) (by assumption) ?ra90
    case ya90 => (intro w hSw; (try dsimp only at hSw); go_simp; first | done | (with_reducible rfl))
    try simp only [Act.put, List.setIfInBounds_toArray, List.set_cons_zero, List.set_cons_succ]
    refine wpAnyH_take (i := 17) (oi := { dst := some 61, op := Op.move (Operand.tmp 60), type := 4, pos := "place.go:21", after := #[{ on := 16, ground := Ground.data }, { on := 13, ground := Ground.chain }, { on := 13, ground := Ground.guard }], guard := some (13, false) }) (v := ?va91) rfl (by kernel_rfl) (by kernel_rfl) (by kernel_rfl) (fun _ _ _ h => h) (Or.inl ⟨by rfl, ?ya91⟩) (by assumption) ?ra91
    case ya91 => (intro w hSw; (try dsimp only at hSw); go_simp; first | done | (with_reducible rfl))
    try simp only [Act.put, List.setIfInBounds_toArray, List.set_cons_zero, List.set_cons_succ]
    refine wpAnyH_take (i := 18) (oi := { dst := some 62, op := Op.fieldAddr 29 (Operand.tmp 3) 2, type := 0, pos := "place.go:21", after := #[{ on := 17, ground := Ground.guard }], guard := some (17, true) }) (v := undef) rfl (by kernel_rfl) (by kernel_rfl) (by kernel_rfl) (fun _ _ _ h => h) (Or.inr ⟨by rfl, rfl⟩) (by assumption) ?_
    try simp only [Act.put, List.setIfInBounds_toArray, List.set_cons_zero, List.set_cons_succ]
    refine wpAnyH_take (i := 19) (oi := { dst := some 63, op := Op.load 3 (Operand.tmp 62), type := 3, pos := "place.go:21", after := #[{ on := 18, ground := Ground.data }, { on := 17, ground := Ground.guard }], guard := some (17, true) }) (v := undef) rfl (by kernel_rfl) (by kernel_rfl) (by kernel_rfl) (fun _ _ _ h => h) (Or.inr ⟨by rfl, rfl⟩) (by assumption) ?_
    try simp only [Act.put, List.setIfInBounds_toArray, List.set_cons_zero, List.set_cons_succ]
    refine wpAnyH_take (i := 20) (oi := { dst := some 64, op := Op.binOp BinOp.neq 3 (Operand.tmp 63) (Operand.const (Value.int IntKind.i64 1)) 3, type := 4, pos := "place.go:21", after := #[{ on := 19, ground := Ground.data }, { on := 17, ground := Ground.guard }], guard := some (17, true) }) (v := undef) rfl (by kernel_rfl) (by kernel_rfl) (by kernel_rfl) (fun _ _ _ h => h) (Or.inr ⟨by rfl, rfl⟩) (by assumption) ?_
    try simp only [Act.put, List.setIfInBounds_toArray, List.set_cons_zero, List.set_cons_succ]
    refine wpAnyH_take (i := 21) (oi := { dst := some 65, op := Op.pick (Operand.tmp 61) (Operand.tmp 64) (Operand.const (Value.bool false)), type := 4, pos := "place.go:21", after := #[{ on := 17, ground := Ground.data }, { on := 20, ground := Ground.data }, { on := 13, ground := Ground.guard }], guard := some (13, false) }) (v := ?va92) rfl (by kernel_rfl) (by kernel_rfl) (by kernel_rfl) (fun _ _ _ h => h) (Or.inl ⟨by rfl, ?ya92⟩) (by assumption) ?ra92
    case ya92 => (intro w hSw; (try dsimp only at hSw); go_simp; first | done | (with_reducible rfl))
    try simp only [Act.put, List.setIfInBounds_toArray, List.set_cons_zero, List.set_cons_succ]
    refine wpAnyH_take (i := 22) (oi := { dst := some 66, op := Op.pick (Operand.tmp 57) (Operand.const (Value.bool true)) (Operand.tmp 65), type := 4, pos := "place.go:21", after := #[{ on := 13, ground := Ground.data }, { on := 21, ground := Ground.data }], guard := none }) (v := ?va93) rfl (by kernel_rfl) (by kernel_rfl) (by kernel_rfl) (fun _ _ _ h => h) (Or.inl ⟨by rfl, ?ya93⟩) (by assumption) ?ra93
    case ya93 => (intro w hSw; (try dsimp only at hSw); go_simp; first | done | (with_reducible rfl))
    try simp only [Act.put, List.setIfInBounds_toArray, List.set_cons_zero, List.set_cons_succ]
    refine wpAnyH_take (i := 23) (oi := { dst := some 67, op := Op.move (Operand.tmp 66), type := 4, pos := "place.go:21", after := #[{ on := 22, ground := Ground.data }, { on := 17, ground := Ground.chain }], guard := none }) (v := ?va94) rfl (by kernel_rfl) (by kernel_rfl) (by kernel_rfl) (fun _ _ _ h => h) (Or.inl ⟨by rfl, ?ya94⟩) (by assumption) ?ra94
    case ya94 => (intro w hSw; (try dsimp only at hSw); go_simp; first | done | (with_reducible rfl))
    try simp only [Act.put, List.setIfInBounds_toArray, List.set_cons_zero, List.set_cons_succ]
    refine wpAnyH_take (i := 24) (oi := { dst := some 68, op := Op.fieldAddr 29 (Operand.tmp 3) 3, type := 0, pos := "place.go:21", after := #[{ on := 23, ground := Ground.guard }], guard := some (23, false) }) (v := ?va95) rfl (by kernel_rfl) (by kernel_rfl) (by kernel_rfl) (fun _ _ _ h => h) (Or.inl ⟨by rfl, ?ya95⟩) (by assumption) ?ra95
    case ya95 => (intro w hSw; (try dsimp only at hSw); go_simp; first | done | (with_reducible rfl))
    try simp only [Act.put, List.setIfInBounds_toArray, List.set_cons_zero, List.set_cons_succ]
    refine wpAnyH_take (i := 25) (oi := { dst := some 69, op := Op.load 3 (Operand.tmp 68), type := 3, pos := "place.go:21", after := #[{ on := 24, ground := Ground.data }, { on := 23, ground := Ground.guard }], guard := some (23, false) }) (v := ?va96) rfl (by kernel_rfl) (by kernel_rfl) (by kernel_rfl) (fun _ _ _ h => h) (Or.inl ⟨by rfl, ?ya96⟩) (by assumption) ?ra96
    case ya96 => (intro w hSw; (try dsimp only at hSw); go_simp; first | done | (with_reducible rfl))
    try simp only [Act.put, List.setIfInBounds_toArray, List.set_cons_zero, List.set_cons_succ]
    refine wpAnyH_take (i := 26) (oi := { dst := some 70, op := Op.binOp BinOp.lss 3 (Operand.tmp 69) (Operand.const (Value.int IntKind.i64 0)) 3, type := 4, pos := "place.go:21", after := #[{ on := 25, ground := Ground.data }, { on := 23, ground := Ground.guard }], guard := some (23, false) }) (v := ?va97) rfl (by kernel_rfl) (by kernel_rfl) (by kernel_rfl) (fun _ _ _ h => h) (Or.inl ⟨by rfl, ?ya97⟩) (by assumption) ?ra97
    case ya97 => (intro w hSw; (try dsimp only at hSw); go_simp; first | done | (with_reducible rfl))
    try simp only [Act.put, List.setIfInBounds_toArray, List.set_cons_zero, List.set_cons_succ]
    refine wpAnyH_take (i := 27) (oi := { dst := some 71, op := Op.pick (Operand.tmp 67) (Operand.const (Value.bool true)) (Operand.tmp 70), type := 4, pos := "place.go:21", after := #[{ on := 23, ground := Ground.data }, { on := 26, ground := Ground.data }], guard := none }) (v := ?va98) rfl (by kernel_rfl) (by kernel_rfl) (by kernel_rfl) (fun _ _ _ h => h) (Or.inl ⟨by rfl, ?ya98⟩) (by assumption) ?ra98
    case ya98 => (intro w hSw; (try dsimp only at hSw); go_simp; first | done | (with_reducible rfl))
    try simp only [Act.put, List.setIfInBounds_toArray, List.set_cons_zero, List.set_cons_succ]
    refine wpAnyH_take (i := 28) (oi := { dst := some 72, op := Op.move (Operand.tmp 71), type := 4, pos := "place.go:21", after := #[{ on := 27, ground := Ground.data }, { on := 23, ground := Ground.chain }], guard := none }) (v := ?va99) rfl (by kernel_rfl) (by kernel_rfl) (by kernel_rfl) (fun _ _ _ h => h) (Or.inl ⟨by rfl, ?ya99⟩) (by assumption) ?ra99
    case ya99 => (intro w hSw; (try dsimp only at hSw); go_simp; first | done | (with_reducible rfl))
    try simp only [Act.put, List.setIfInBounds_toArray, List.set_cons_zero, List.set_cons_succ]
    refine wpAnyH_take (i := 29) (oi := { dst := some 73, op := Op.fieldAddr 29 (Operand.tmp 3) 3, type := 0, pos := "place.go:21", after := #[{ on := 28, ground := Ground.guard }], guard := some (28, false) }) (v := ?va100) rfl (by kernel_rfl) (by kernel_rfl) (by kernel_rfl) (fun _ _ _ h => h) (Or.inl ⟨by rfl, ?ya100⟩) (by assumption) ?ra100
    case ya100 => (intro w hSw; (try dsimp only at hSw); go_simp; first | done | (with_reducible rfl))
    try simp only [Act.put, List.setIfInBounds_toArray, List.set_cons_zero, List.set_cons_succ]
    refine wpAnyH_take (i := 30) (oi := { dst := some 74, op := Op.load 3 (Operand.tmp 73), type := 3, pos := "place.go:21", after := #[{ on := 29, ground := Ground.data }, { on := 28, ground := Ground.guard }], guard := some (28, false) }) (v := ?va101) rfl (by kernel_rfl) (by kernel_rfl) (by kernel_rfl) (fun _ _ _ h => h) (Or.inl ⟨by rfl, ?ya101⟩) (by assumption) ?ra101
    case ya101 => (intro w hSw; (try dsimp only at hSw); go_simp; first | done | (with_reducible rfl))
    try simp only [Act.put, List.setIfInBounds_toArray, List.set_cons_zero, List.set_cons_succ]
    refine wpAnyH_take (i := 31) (oi := { dst := some 75, op := Op.binOp BinOp.gtr 3 (Operand.tmp 74) (Operand.const (Value.int IntKind.i64 200)) 3, type := 4, pos := "place.go:21", after := #[{ on := 30, ground := Ground.data }, { on := 28, ground := Ground.guard }], guard := some (28, false) }) (v := ?va102) rfl (by kernel_rfl) (by kernel_rfl) (by kernel_rfl) (fun _ _ _ h => h) (Or.inl ⟨by rfl, ?ya102⟩) (by assumption) ?ra102
    case ya102 => (intro w hSw; (try dsimp only at hSw); go_simp; first | done | (with_reducible rfl))
    try simp only [Act.put, List.setIfInBounds_toArray, List.set_cons_zero, List.set_cons_succ]
    refine wpAnyH_take (i := 32) (oi := { dst := some 76, op := Op.pick (Operand.tmp 72) (Operand.const (Value.bool true)) (Operand.tmp 75), type := 4, pos := "place.go:21", after := #[{ on := 28, ground := Ground.data }, { on := 31, ground := Ground.data }], guard := none }) (v := ?va103) rfl (by kernel_rfl) (by kernel_rfl) (by kernel_rfl) (fun _ _ _ h => h) (Or.inl ⟨by rfl, ?ya103⟩) (by assumption) ?ra103
    case ya103 => (intro w hSw; (try dsimp only at hSw); go_simp; first | done | (with_reducible rfl))
    try simp only [Act.put, List.setIfInBounds_toArray, List.set_cons_zero, List.set_cons_succ]
    refine wpAnyH_done (by kernel_rfl) ?_ _
    refine NoPanic.normal ?_
    go_wp2_with fail
    go_ret
    exact ⟨by rw [HE.out]; rfl, HB.out⟩
  have HT60 := Lib.hid t6
  have t6' : (p.turn != 0) = true := by simp [bne, t6]
  clear t6
  cases t7 : (p.turn == 1)
  rotate_left
  · have HT6 := Lib.hid t7
    have t7' : (p.turn != 1) = false := by simp [bne, t7]
    clear t7
    by_cases t8 : p.quiet < 0
    · have t8' : decide (p.quiet < 0) = true := by simpa using t8
      have HE : Hid (soundErr R p = 4) := Lib.hid (by rw [HC2.out, if_pos (.inr (.inr (.inr (.inl t8))))])
      go_wp2_with fail
      refine wp_region_noPanic ?_
      refine wp_region_held_drew (S := (fun w' => w'.cell? ⟨w.heap.size + 1, 0, none⟩ = some (.slice ac p.cells.length cc) ∧ w'.cell? ⟨w.heap.size + 1, 3, none⟩ = some (.int .i64 p.turn) ∧ w'.cell? ⟨w.heap.size + 1, 4, none⟩ = some (.int .i64 p.quiet))) (by kernel_rfl) ⟨f0, f3, f4⟩ (fun hHeld => ?_)
      refine wpAnyH_take (i := 0) (oi := { dst := some 44, op := Op.fieldAddr 29 (Operand.tmp 3) 0, type := 0, pos := "place.go:21", after := #[], guard := none }) (v := ?va104) rfl (by kernel_rfl) (by kernel_rfl) (by kernel_rfl) (fun _ _ _ h => h) (Or.inl ⟨by rfl, ?ya104⟩) (by assumption) ?ra104
      case ya104 => (intro w hSw; (try dsimp only at hSw); go_simp; first | done | (with_reducible rfl))
      try simp only [Act.put, List.setIfInBounds_toArray, List.set_cons_zero, List.set_cons_succ]
      refine wpAnyH_take (i := 2) (oi := { dst := some 46, op := Op.move (Operand.tmp 6), type := 82, pos := "place.go:21", after := #[], guard := none }) (v := ?va105) rfl (by kernel_rfl) (by kernel_rfl) (by kernel_rfl) (fun _ _ _ h => h) (Or.inl ⟨by rfl, ?ya105⟩) (by assumption) ?ra105
      case ya105 => (intro w hSw; (try dsimp only at hSw); go_simp; first | done | (with_reducible rfl))
      try simp only [Act.put, List.setIfInBounds_toArray, List.set_cons_zero, List.set_cons_succ]
      refine wpAnyH_take (i := 3) (oi := { dst := some 47, op := Op.move (Operand.tmp 5), type := 3, pos := "place.go:21", after := #[], guard := none }) (v := ?va106) rfl (by kernel_rfl) (by kernel_rfl) (by kernel_rfl) (fun _ _ _ h => h) (Or.inl ⟨by rfl, ?ya106⟩) (by assumption) ?ra106
      case ya106 => (intro w hSw; (try dsimp only at hSw); go_simp; first | done | (with_reducible rfl))
      try simp only [Act.put, List.setIfInBounds_toArray, List.set_cons_zero, List.set_cons_succ]
      refine wpAnyH_take (i := 1) (oi := { dst := some 45, op := Op.load 23 (Operand.tmp 44), type := 23, pos := "place.go:21", after := #[{ on := 0, ground := Ground.data }], guard := none }) (v := ?va107) rfl (by kernel_rfl) (by kernel_rfl) (by kernel_rfl) (fun _ _ _ h => h) (Or.inl ⟨by rfl, ?ya107⟩) (by assumption) ?ra107
      case ya107 => (intro w hSw; (try dsimp only at hSw); go_simp; first | done | (with_reducible rfl))
      try simp only [Act.put, List.setIfInBounds_toArray, List.set_cons_zero, List.set_cons_succ]
      refine wpAnyH_take (i := 4) (oi := { dst := some 48, op := Op.binOp BinOp.mul 3 (Operand.const (Value.int IntKind.i64 2)) (Operand.tmp 47) 3, type := 3, pos := "place.go:21", after := #[{ on := 3, ground := Ground.data }], guard := none }) (v := ?va108) rfl (by kernel_rfl) (by kernel_rfl) (by kernel_rfl) (fun _ _ _ h => h) (Or.inl ⟨by rfl, ?ya108⟩) (by assumption) ?ra108
      case ya108 => (intro w hSw; (try dsimp only at hSw); go_simp; first | done | (with_reducible rfl))
      try simp only [Act.put, List.setIfInBounds_toArray, List.set_cons_zero, List.set_cons_succ]
      refine wpAnyH_ready (rs := [5]) (by kernel_rfl) (by simp) ?_
      refine AllReadyH.cons (o := { dst := some 49, op := Op.call { callee := Callee.value (Operand.tmp 46), args := #[Operand.const (Value.int IntKind.i64 0), Operand.tmp 48], argTypes := #[3, 3] }, type := 76, pos := "place.go:21", after := #[{ on := 2, ground := Ground.data }, { on := 4, ground := Ground.data }], guard := none }) rfl (fun K hK => ?_) AllReadyH.nil
      go_simp
      ((with_reducible refine (snd1_any _ _ _).mono ?_); rintro e w2 ⟨v2, rfl, hio, hb2⟩; have HIO := Lib.hid hio; (first | (have hb3 := below_undrew hb2) | (have hb3 := hb2)); replace f0 := (hb3.cell (p := ⟨w.heap.size + 1, 0, none⟩) hz).trans f0; replace f3 := (hb3.cell (p := ⟨w.heap.size + 1, 3, none⟩) hz).trans f3; replace f4 := (hb3.cell (p := ⟨w.heap.size + 1, 4, none⟩) hz).trans f4; replace HB := Lib.hid (below_trans HB.out hb3 HB.out.size); replace HPc := Lib.hid (HPc.out.below hb3 (Nat.le_refl _)); replace HPh := Lib.hid (HPh.out.below hb3 (Nat.le_refl _)); replace hz := Nat.lt_of_lt_of_le hz hb3.size; clear hio hb2 hb3)
      refine hK.out _ _ ⟨f0, f3, f4⟩ (fun hHeld => ?_)
      clear hK K
      try simp only [Act.put, List.setIfInBounds_toArray, List.set_cons_zero, List.set_cons_succ]
      refine wpAnyH_ready (rs := [6]) (by kernel_rfl) (by simp) ?_
      refine AllReadyH.cons (o := { dst := some 50, op := Op.call { callee := Callee.value (Operand.func 40), args := #[Operand.tmp 45, Operand.tmp 49], argTypes := #[23, 76] }, type := 4, pos := "place.go:21", after := #[{ on := 1, ground := Ground.data }, { on := 5, ground := Ground.data }, { on := 5, ground := Ground.chain }], guard := none }) rfl (fun K hK => ?_) AllReadyH.nil
      go_simp
      ((with_reducible refine (Contains_b _ _ p.cells _ _ _ _ HT4.out HPc.out HIO.out).mono ?_); rintro e w' ⟨rfl, rfl⟩; clear HIO)
      refine hK.out _ _ ⟨f0, f3, f4⟩ (fun hHeld => ?_)
      clear hK K
      try simp only [Act.put, List.setIfInBounds_toArray, List.set_cons_zero, List.set_cons_succ]
      refine wpAnyH_take (i := 7) (oi := { dst := some 51, op := Op.move (Operand.tmp 50), type := 4, pos := "place.go:21", after := #[{ on := 6, ground := Ground.data }, { on := 6, ground := Ground.chain }], guard := none }) (v := ?va109) rfl (by kernel_rfl) (by kernel_rfl) (by kernel_rfl) (fun _ _ _ h => h) (Or.inl ⟨by rfl, ?ya109⟩) (by assumption) ?ra109
      case ya109 => (intro w hSw; (try dsimp only at hSw); go_simp; first | done | (with_reducible rfl))
      try simp only [Act.put, List.setIfInBounds_toArray, List.set_cons_zero, List.set_cons_succ]
      refine wpAnyH_take (i := 8) (oi := { dst := some 52, op := Op.move (Operand.tmp 7), type := 23, pos := "place.go:21", after := #[{ on := 7, ground := Ground.guard }], guard := some (7, false) }) (v := ?va110) rfl (by kernel_rfl) (by kernel_rfl) (by kernel_rfl) (fun _ _ _ h => h) (Or.inl ⟨by rfl, ?ya110⟩) (by assumption) ?ra110
      case ya110 => (intro w hSw; (try dsimp only at hSw); go_simp; first | done | (with_reducible rfl))
      try simp only [Act.put, List.setIfInBounds_toArray, List.set_cons_zero, List.set_cons_succ]
      refine wpAnyH_take (i := 9) (oi := { dst := some 53, op := Op.move (Operand.tmp 6), type := 82, pos := "place.go:21", after := #[{ on := 7, ground := Ground.guard }], guard := some (7, false) }) (v := ?va111) rfl (by kernel_rfl) (by kernel_rfl) (by kernel_rfl) (fun _ _ _ h => h) (Or.inl ⟨by rfl, ?ya111⟩) (by assumption) ?ra111
      case ya111 => (intro w hSw; (try dsimp only at hSw); go_simp; first | done | (with_reducible rfl))
      try simp only [Act.put, List.setIfInBounds_toArray, List.set_cons_zero, List.set_cons_succ]
      refine wpAnyH_ready (rs := [10]) (by kernel_rfl) (by simp) ?_
      refine AllReadyH.cons (o := { dst := some 54, op := Op.call { callee := Callee.value (Operand.tmp 53), args := #[Operand.const (Value.int IntKind.i64 0), Operand.const (Value.int IntKind.i64 1000)], argTypes := #[3, 3] }, type := 76, pos := "place.go:21", after := #[{ on := 9, ground := Ground.data }, { on := 7, ground := Ground.chain }, { on := 7, ground := Ground.guard }], guard := some (7, false) }) rfl (fun K hK => ?_) AllReadyH.nil
      go_simp
      ((with_reducible refine (snd1_any _ _ _).mono ?_); rintro e w2 ⟨v2, rfl, hio, hb2⟩; have HIO := Lib.hid hio; (first | (have hb3 := below_undrew hb2) | (have hb3 := hb2)); replace f0 := (hb3.cell (p := ⟨w.heap.size + 1, 0, none⟩) hz).trans f0; replace f3 := (hb3.cell (p := ⟨w.heap.size + 1, 3, none⟩) hz).trans f3; replace f4 := (hb3.cell (p := ⟨w.heap.size + 1, 4, none⟩) hz).trans f4; replace HB := Lib.hid (below_trans HB.out hb3 HB.out.size); replace HPc := Lib.hid (HPc.out.below hb3 (Nat.le_refl _)); replace HPh := Lib.hid (HPh.out.below hb3 (Nat.le_refl _)); replace hz := Nat.lt_of_lt_of_le hz hb3.size; clear hio hb2 hb3)
      refine hK.out _ _ ⟨f0, f3, f4⟩ (fun hHeld => ?_)
      clear hK K
      try simp only [Act.put, List.setIfInBounds_toArray, List.set_cons_zero, List.set_cons_succ]
      refine wpAnyH_ready (rs := [11]) (by kernel_rfl) (by simp) ?_
      refine AllReadyH.cons (o := { dst := some 55, op := Op.call { callee := Callee.value (Operand.func 40), args := #[Operand.tmp 52, Operand.tmp 54], argTypes := #[23, 76] }, type := 4, pos := "place.go:21", after := #[{ on := 8, ground := Ground.data }, { on := 10, ground := Ground.data }, { on := 10, ground := Ground.chain }, { on := 7, ground := Ground.guard }], guard := some (7, false) }) rfl (fun K hK => ?_) AllReadyH.nil
      go_simp
      ((with_reducible refine (Contains_b _ _ (p.h0 ++ p.h1) _ _ _ _ HT5.out HPh.out HIO.out).mono ?_); rintro e w' ⟨rfl, rfl⟩; clear HIO)
      refine hK.out _ _ ⟨f0, f3, f4⟩ (fun hHeld => ?_)
      clear hK K
      try simp only [Act.put, List.setIfInBounds_toArray, List.set_cons_zero, List.set_cons_succ]
      refine wpAnyH_take (i := 12) (oi := { dst := some 56, op := Op.pick (Operand.tmp 51) (Operand.const (Value.bool true)) (Operand.tmp 55), type := 4, pos := "place.go:21", after := #[{ on := 7, ground := Ground.data }, { on := 11, ground := Ground.data }], guard := none }) (v := ?va112) rfl (by kernel_rfl) (by kernel_rfl) (by kernel_rfl) (fun _ _ _ h => h) (Or.inl ⟨by rfl, ?ya112⟩) (by assumption) ?ra112
      case ya112 => (intro w hSw; (try dsimp only at hSw); go_simp; first | done | (with_reducible rfl))
      try simp only [Act.put, List.setIfInBounds_toArray, List.set_cons_zero, List.set_cons_succ]
      refine wpAnyH_take (i := 13) (oi := { dst := some 57, op := Op.move (Operand.tmp 56), type := 4, pos := "place.go:21", after := #[{ on := 12, ground := Ground.data }, { on := 11, ground := Ground.chain }], guard := none }) (v := ?va113) rfl (by kernel_rfl) (by kernel_rfl) (by kernel_rfl) (fun _ _ _ h => h) (Or.inl ⟨by rfl, ?ya113⟩) (by assumption) ?ra113
      case ya113 => (intro w hSw; (try dsimp only at hSw); go_simp; first | done | (with_reducible rfl))
      try simp only [Act.put, List.setIfInBounds_toArray, List.set_cons_zero, List.set_cons_succ]
      refine wpAnyH_take (i := 14) (oi := { dst := some 58, op := Op.fieldAddr 29 (Operand.tmp 3) 2, type := 0, pos := "place.go:21", after := #[{ on := 13, ground := Ground.guard }], guard := some (13, false) }) (v := ?va114) rfl (by kernel_rfl) (by kernel_rfl) (by kernel_rfl) (fun _ _ _ h => h) (Or.inl ⟨by rfl, ?ya114⟩) (by assumption) ?ra114
      case ya114 => (intro w hSw; (try dsimp only at hSw); go_simp; first | done | (with_reducible rfl))
      try simp only [Act.put, List.setIfInBounds_toArray, List.set_cons_zero, List.set_cons_succ]
      refine wpAnyH_take (i := 15) (oi := { dst := some 59, op := Op.load 3 (Operand.tmp 58), type := 3, pos := "place.go:21", after := #[{ on := 14, ground := Ground.data }, { on := 13, ground := Ground.guard }], guard := some (13, false) }) (v := ?va115) rfl (by kernel_rfl) (by kernel_rfl) (by kernel_rfl) (fun _ _ _ h => h) (Or.inl ⟨by rfl, ?ya115⟩) (by assumption) ?ra115
      case ya115 => (intro w hSw; (try dsimp only at hSw); go_simp; first | done | (with_reducible rfl))
      try simp only [Act.put, List.setIfInBounds_toArray, List.set_cons_zero, List.set_cons_succ]
      refine wpAnyH_take (i := 16) (oi := { dst := some 60, op := Op.binOp BinOp.neq 3 (Operand.tmp 59) (Operand.const (Value.int IntKind.i64 0)) 3, type := 4, pos := "place.go:21", after := #[{ on := 15, ground := Ground.data }, { on := 13, ground := Ground.guard }], guard := some (13, false) }) (v := ?va116) rfl (by kernel_rfl) (by kernel_rfl) (by kernel_rfl) (fun _ _ _ h => h) (Or.inl ⟨by rfl, ?ya116⟩) (by assumption) ?ra116
      case ya116 => (intro w hSw; (try dsimp only at hSw); go_simp; first | done | (with_reducible rfl))
      try simp only [Act.put, List.setIfInBounds_toArray, List.set_cons_zero, List.set_cons_succ]
      refine wpAnyH_take (i := 17) (oi := { dst := some 61, op := Op.move (Operand.tmp 60), type := 4, pos := "place.go:21", after := #[{ on := 16, ground := Ground.data }, { on := 13, ground := Ground.chain }, { on := 13, ground := Ground.guard }], guard := some (13, false) }) (v := ?va117) rfl (by kernel_rfl) (by kernel_rfl) (by kernel_rfl) (fun _ _ _ h => h) (Or.inl ⟨by rfl, ?ya117⟩) (by assumption) ?ra117
      case ya117 => (intro w hSw; (try dsimp only at hSw); go_simp; first | done | (with_reducible rfl))
      try simp only [Act.put, List.setIfInBounds_toArray, List.set_cons_zero, List.set_cons_succ]
      refine wpAnyH_take (i := 18) (oi := { dst := some 62, op := Op.fieldAddr 29 (Operand.tmp 3) 2, type := 0, pos := "place.go:21", after := #[{ on := 17, ground := Ground.guard }], guard := some (17, true) }) (v := ?va118) rfl (by kernel_rfl) (by kernel_rfl) (by kernel_rfl) (fun _ _ _ h => h) (Or.inl ⟨by rfl, ?ya118⟩) (by assumption) ?ra118
      case ya118 => (intro w hSw; (try dsimp only at hSw); go_simp; first | done | (with_reducible rfl))
      try simp only [Act.put, List.setIfInBounds_toArray, List.set_cons_zero, List.set_cons_succ]
      refine wpAnyH_take (i := 19) (oi := { dst := some 63, op := Op.load 3 (Operand.tmp 62), type := 3, pos := "place.go:21", after := #[{ on := 18, ground := Ground.data }, { on := 17, ground := Ground.guard }], guard := some (17, true) }) (v := ?va119) rfl (by kernel_rfl) (by kernel_rfl) (by kernel_rfl) (fun _ _ _ h => h) (Or.inl ⟨by rfl, ?ya119⟩) (by assumption) ?ra119
      case ya119 => (intro w hSw; (try dsimp only at hSw); go_simp; first | done | (with_reducible rfl))
      try simp only [Act.put, List.setIfInBounds_toArray, List.set_cons_zero, List.set_cons_succ]
      refine wpAnyH_take (i := 20) (oi := { dst := some 64, op := Op.binOp BinOp.neq 3 (Operand.tmp 63) (Operand.const (Value.int IntKind.i64 1)) 3, type := 4, pos := "place.go:21", after := #[{ on := 19, ground := Ground.data }, { on := 17, ground := Ground.guard }], guard := some (17, true) }) (v := ?va120) rfl (by kernel_rfl) (by kernel_rfl) (by kernel_rfl) (fun _ _ _ h => h) (Or.inl ⟨by rfl, ?ya120⟩) (by assumption) ?ra120
      case ya120 => (intro w hSw; (try dsimp only at hSw); go_simp; first | done | (with_reducible rfl))
      try simp only [Act.put, List.setIfInBounds_toArray, List.set_cons_zero, List.set_cons_succ]
      refine wpAnyH_take (i := 21) (oi := { dst := some 65, op := Op.pick (Operand.tmp 61) (Operand.tmp 64) (Operand.const (Value.bool false)), type := 4, pos := "place.go:21", after := #[{ on := 17, ground := Ground.data }, { on := 20, ground := Ground.data }, { on := 13, ground := Ground.guard }], guard := some (13, false) }) (v := ?va121) rfl (by kernel_rfl) (by kernel_rfl) (by kernel_rfl) (fun _ _ _ h => h) (Or.inl ⟨by rfl, ?ya121⟩) (by assumption) ?ra121
      case ya121 => (intro w hSw; (try dsimp only at hSw); go_simp; first | done | (with_reducible rfl))
      try simp only [Act.put, List.setIfInBounds_toArray, List.set_cons_zero, List.set_cons_succ]
      refine wpAnyH_take (i := 22) (oi := { dst := some 66, op := Op.pick (Operand.tmp 57) (Operand.const (Value.bool true)) (Operand.tmp 65), type := 4, pos := "place.go:21", after := #[{ on := 13, ground := Ground.data }, { on := 21, ground := Ground.data }], guard := none }) (v := ?va122) rfl (by kernel_rfl) (by kernel_rfl) (by kernel_rfl) (fun _ _ _ h => h) (Or.inl ⟨by rfl, ?ya122⟩) (by assumption) ?ra122
      case ya122 => (intro w hSw; (try dsimp only at hSw); go_simp; first | done | (with_reducible rfl))
      try simp only [Act.put, List.setIfInBounds_toArray, List.set_cons_zero, List.set_cons_succ]
      refine wpAnyH_take (i := 23) (oi := { dst := some 67, op := Op.move (Operand.tmp 66), type := 4, pos := "place.go:21", after := #[{ on := 22, ground := Ground.data }, { on := 17, ground := Ground.chain }], guard := none }) (v := ?va123) rfl (by kernel_rfl) (by kernel_rfl) (by kernel_rfl) (fun _ _ _ h => h) (Or.inl ⟨by rfl, ?ya123⟩) (by assumption) ?ra123
      case ya123 => (intro w hSw; (try dsimp only at hSw); go_simp; first | done | (with_reducible rfl))
      try simp only [Act.put, List.setIfInBounds_toArray, List.set_cons_zero, List.set_cons_succ]
      refine wpAnyH_take (i := 24) (oi := { dst := some 68, op := Op.fieldAddr 29 (Operand.tmp 3) 3, type := 0, pos := "place.go:21", after := #[{ on := 23, ground := Ground.guard }], guard := some (23, false) }) (v := ?va124) rfl (by kernel_rfl) (by kernel_rfl) (by kernel_rfl) (fun _ _ _ h => h) (Or.inl ⟨by rfl, ?ya124⟩) (by assumption) ?ra124
      case ya124 => (intro w hSw; (try dsimp only at hSw); go_simp; first | done | (with_reducible rfl))
      try simp only [Act.put, List.setIfInBounds_toArray, List.set_cons_zero, List.set_cons_succ]
      refine wpAnyH_take (i := 25) (oi := { dst := some 69, op := Op.load 3 (Operand.tmp 68), type := 3, pos := "place.go:21", after := #[{ on := 24, ground := Ground.data }, { on := 23, ground := Ground.guard }], guard := some (23, false) }) (v := ?va125) rfl (by kernel_rfl) (by kernel_rfl) (by kernel_rfl) (fun _ _ _ h => h) (Or.inl ⟨by rfl, ?ya125⟩) (by assumption) ?ra125
      case ya125 => (intro w hSw; (try dsimp only at hSw); go_simp; first | done | (with_reducible rfl))
      try simp only [Act.put, List.setIfInBounds_toArray, List.set_cons_zero, List.set_cons_succ]
      refine wpAnyH_take (i := 26) (oi := { dst := some 70, op := Op.binOp BinOp.lss 3 (Operand.tmp 69) (Operand.const (Value.int IntKind.i64 0)) 3, type := 4, pos := "place.go:21", after := #[{ on := 25, ground := Ground.data }, { on := 23, ground := Ground.guard }], guard := some (23, false) }) (v := ?va126) rfl (by kernel_rfl) (by kernel_rfl) (by kernel_rfl) (fun _ _ _ h => h) (Or.inl ⟨by rfl, ?ya126⟩) (by assumption) ?ra126
      case ya126 => (intro w hSw; (try dsimp only at hSw); go_simp; first | done | (with_reducible rfl))
      try simp only [Act.put, List.setIfInBounds_toArray, List.set_cons_zero, List.set_cons_succ]
      refine wpAnyH_take (i := 27) (oi := { dst := some 71, op := Op.pick (Operand.tmp 67) (Operand.const (Value.bool true)) (Operand.tmp 70), type := 4, pos := "place.go:21", after := #[{ on := 23, ground := Ground.data }, { on := 26, ground := Ground.data }], guard := none }) (v := ?va127) rfl (by kernel_rfl) (by kernel_rfl) (by kernel_rfl) (fun _ _ _ h => h) (Or.inl ⟨by rfl, ?ya127⟩) (by assumption) ?ra127
      case ya127 => (intro w hSw; (try dsimp only at hSw); go_simp; first | done | (with_reducible rfl))
      try simp only [Act.put, List.setIfInBounds_toArray, List.set_cons_zero, List.set_cons_succ]
      refine wpAnyH_take (i := 28) (oi := { dst := some 72, op := Op.move (Operand.tmp 71), type := 4, pos := "place.go:21", after := #[{ on := 27, ground := Ground.data }, { on := 23, ground := Ground.chain }], guard := none }) (v := ?va128) rfl (by kernel_rfl) (by kernel_rfl) (by kernel_rfl) (fun _ _ _ h => h) (Or.inl ⟨by rfl, ?ya128⟩) (by assumption) ?ra128
      case ya128 => (intro w hSw; (try dsimp only at hSw); go_simp; first | done | (with_reducible rfl))
      try simp only [Act.put, List.setIfInBounds_toArray, List.set_cons_zero, List.set_cons_succ]
      refine wpAnyH_take (i := 29) (oi := { dst := some 73, op := Op.fieldAddr 29 (Operand.tmp 3) 3, type := 0, pos := "place.go:21", after := #[{ on := 28, ground := Ground.guard }], guard := some (28, false) }) (v := undef) rfl (by kernel_rfl) (by kernel_rfl) (by kernel_rfl) (fun _ _ _ h => h) (Or.inr ⟨by rfl, rfl⟩) (by assumption) ?_
      try simp only [Act.put, List.setIfInBounds_toArray, List.set_cons_zero, List.set_cons_succ]
      refine wpAnyH_take (i := 30) (oi := { dst := some 74, op := Op.load 3 (Operand.tmp 73), type := 3, pos := "place.go:21", after := #[{ on := 29, ground := Ground.data }, { on := 28, ground := Ground.guard }], guard := some (28, false) }) (v := undef) rfl (by kernel_rfl) (by kernel_rfl) (by kernel_rfl) (fun _ _ _ h => h) (Or.inr ⟨by rfl, rfl⟩) (by assumption) ?_
      try simp only [Act.put, List.setIfInBounds_toArray, List.set_cons_zero, List.set_cons_succ]
      refine wpAnyH_take (i := 31) (oi := { dst := some 75, op := Op.binOp BinOp.gtr 3 (Operand.tmp 74) (Operand.const (Value.int IntKind.i64 200)) 3, type := 4, pos := "place.go:21", after := #[{ on := 30, ground := Ground.data }, { on := 28, ground := Ground.guard }], guard := some (28, false) }) (v := undef) rfl (by kernel_rfl) (by kernel_rfl) (by kernel_rfl) (fun _ _ _ h => h) (Or.inr ⟨by rfl, rfl⟩) (by assumption) ?_
      try simp only [Act.put, List.setIfInBounds_toArray, List.set_cons_zero, List.set_cons_succ]
      refine wpAnyH_take (i := 32) (oi := { dst := some 76, op := Op.pick (Operand.tmp 72) (Operand.const (Value.bool true)) (Operand.tmp 75), type := 4, pos := "place.go:21", after := #[{ on := 28, ground := Ground.data }, { on := 31, ground := Ground.data }], guard := none }) (v := ?va129) rfl (by kernel_rfl) (by kernel_rfl) (by kernel_rfl) (fun _ _ _ h => h) (Or.inl ⟨by rfl, ?ya129⟩) (by assumption) ?ra129
      case ya129 => (intro w hSw; (try dsimp only at hSw); go_simp; first | done | (with_reducible rfl))
      try simp only [Act.put, List.setIfInBounds_toArray, List.set_cons_zero, List.set_cons_succ]
      refine wpAnyH_done (by kernel_rfl) ?_ _
      refine NoPanic.normal ?_
      go_wp2_with fail
      go_ret
      exact ⟨by rw [HE.out]; rfl, HB.out⟩
    have t8' : decide (p.quiet < 0) = false := by simpa using t8
    by_cases t9 : 200 < p.quiet
    · have t9' : decide (200 < p.quiet) = true := by simpa using t9
      have HE : Hid (soundErr R p = 4) := Lib.hid (by rw [HC2.out, if_pos (.inr (.inr (.inr (.inr t9))))])
      go_wp2_with fail
      refine wp_region_noPanic ?_
      refine wp_region_held_drew (S := (fun w' => w'.cell? ⟨w.heap.size + 1, 0, none⟩ = some (.slice ac p.cells.length cc) ∧ w'.cell? ⟨w.heap.size + 1, 3, none⟩ = some (.int .i64 p.turn) ∧ w'.cell? ⟨w.heap.size + 1, 4, none⟩ = some (.int .i64 p.quiet))) (by kernel_rfl) ⟨f0, f3, f4⟩ (fun hHeld => ?_)
      refine wpAnyH_take (i := 0) (oi := { dst := some 44, op := Op.fieldAddr 29 (Operand.tmp 3) 0, type := 0, pos := "place.go:21", after := #[], guard := none }) (v := ?va130) rfl (by kernel_rfl) (by kernel_rfl) (by kernel_rfl) (fun _ _ _ h => h) (Or.inl ⟨by rfl, ?ya130⟩) (by assumption) ?ra130
      case ya130 => (intro w hSw; (try dsimp only at hSw); go_simp; first | done | (with_reducible rfl))
      try simp only [Act.put, List.setIfInBounds_toArray, List.set_cons_zero, List.set_cons_succ]
      refine wpAnyH_take (i := 2) (oi := { dst := some 46, op := Op.move (Operand.tmp 6), type := 82, pos := "place.go:21", after := #[], guard := none }) (v := ?va131) rfl (by kernel_rfl) (by kernel_rfl) (by kernel_rfl) (fun _ _ _ h => h) (Or.inl ⟨by rfl, ?ya131⟩) (by assumption) ?ra131
      case ya131 => (intro w hSw; (try dsimp only at hSw); go_simp; first | done | (with_reducible rfl))
      try simp only [Act.put, List.setIfInBounds_toArray, List.set_cons_zero, List.set_cons_succ]
      refine wpAnyH_take (i := 3) (oi := { dst := some 47, op := Op.move (Operand.tmp 5), type := 3, pos := "place.go:21", after := #[], guard := none }) (v := ?va132) rfl (by kernel_rfl) (by kernel_rfl) (by kernel_rfl) (fun _ _ _ h => h) (Or.inl ⟨by rfl, ?ya132⟩) (by assumption) ?ra132
      case ya132 => (intro w hSw; (try dsimp only at hSw); go_simp; first | done | (with_reducible rfl))
      try simp only [Act.put, List.setIfInBounds_toArray, List.set_cons_zero, List.set_cons_succ]
      refine wpAnyH_take (i := 1) (oi := { dst := some 45, op := Op.load 23 (Operand.tmp 44), type := 23, pos := "place.go:21", after := #[{ on := 0, ground := Ground.data }], guard := none }) (v := ?va133) rfl (by kernel_rfl) (by kernel_rfl) (by kernel_rfl) (fun _ _ _ h => h) (Or.inl ⟨by rfl, ?ya133⟩) (by assumption) ?ra133
      case ya133 => (intro w hSw; (try dsimp only at hSw); go_simp; first | done | (with_reducible rfl))
      try simp only [Act.put, List.setIfInBounds_toArray, List.set_cons_zero, List.set_cons_succ]
      refine wpAnyH_take (i := 4) (oi := { dst := some 48, op := Op.binOp BinOp.mul 3 (Operand.const (Value.int IntKind.i64 2)) (Operand.tmp 47) 3, type := 3, pos := "place.go:21", after := #[{ on := 3, ground := Ground.data }], guard := none }) (v := ?va134) rfl (by kernel_rfl) (by kernel_rfl) (by kernel_rfl) (fun _ _ _ h => h) (Or.inl ⟨by rfl, ?ya134⟩) (by assumption) ?ra134
      case ya134 => (intro w hSw; (try dsimp only at hSw); go_simp; first | done | (with_reducible rfl))
      try simp only [Act.put, List.setIfInBounds_toArray, List.set_cons_zero, List.set_cons_succ]
      refine wpAnyH_ready (rs := [5]) (by kernel_rfl) (by simp) ?_
      refine AllReadyH.cons (o := { dst := some 49, op := Op.call { callee := Callee.value (Operand.tmp 46), args := #[Operand.const (Value.int IntKind.i64 0), Operand.tmp 48], argTypes := #[3, 3] }, type := 76, pos := "place.go:21", after := #[{ on := 2, ground := Ground.data }, { on := 4, ground := Ground.data }], guard := none }) rfl (fun K hK => ?_) AllReadyH.nil
      go_simp
      ((with_reducible refine (snd1_any _ _ _).mono ?_); rintro e w2 ⟨v2, rfl, hio, hb2⟩; have HIO := Lib.hid hio; (first | (have hb3 := below_undrew hb2) | (have hb3 := hb2)); replace f0 := (hb3.cell (p := ⟨w.heap.size + 1, 0, none⟩) hz).trans f0; replace f3 := (hb3.cell (p := ⟨w.heap.size + 1, 3, none⟩) hz).trans f3; replace f4 := (hb3.cell (p := ⟨w.heap.size + 1, 4, none⟩) hz).trans f4; replace HB := Lib.hid (below_trans HB.out hb3 HB.out.size); replace HPc := Lib.hid (HPc.out.below hb3 (Nat.le_refl _)); replace HPh := Lib.hid (HPh.out.below hb3 (Nat.le_refl _)); replace hz := Nat.lt_of_lt_of_le hz hb3.size; clear hio hb2 hb3)
      refine hK.out _ _ ⟨f0, f3, f4⟩ (fun hHeld => ?_)
      clear hK K
      try simp only [Act.put, List.setIfInBounds_toArray, List.set_cons_zero, List.set_cons_succ]
      refine wpAnyH_ready (rs := [6]) (by kernel_rfl) (by simp) ?_
      refine AllReadyH.cons (o := { dst := some 50, op := Op.call { callee := Callee.value (Operand.func 40), args := #[Operand.tmp 45, Operand.tmp 49], argTypes := #[23, 76] }, type := 4, pos := "place.go:21", after := #[{ on := 1, ground := Ground.data }, { on := 5, ground := Ground.data }, { on := 5, ground := Ground.chain }], guard := none }) rfl (fun K hK => ?_) AllReadyH.nil
      go_simp
      ((with_reducible refine (Contains_b _ _ p.cells _ _ _ _ HT4.out HPc.out HIO.out).mono ?_); rintro e w' ⟨rfl, rfl⟩; clear HIO)
      refine hK.out _ _ ⟨f0, f3, f4⟩ (fun hHeld => ?_)
      clear hK K
      try simp only [Act.put, List.setIfInBounds_toArray, List.set_cons_zero, List.set_cons_succ]
      refine wpAnyH_take (i := 7) (oi := { dst := some 51, op := Op.move (Operand.tmp 50), type := 4, pos := "place.go:21", after := #[{ on := 6, ground := Ground.data }, { on := 6, ground := Ground.chain }], guard := none }) (v := ?va135) rfl (by kernel_rfl) (by kernel_rfl) (by kernel_rfl) (fun _ _ _ h => h) (Or.inl ⟨by rfl, ?ya135⟩) (by assumption) ?ra135
      case ya135 => (intro w hSw; (try dsimp only at hSw); go_simp; first | done | (with_reducible rfl))
      try simp only [Act.put, List.setIfInBounds_toArray, List.set_cons_zero, List.set_cons_succ]
      refine wpAnyH_take (i := 8) (oi := { dst := some 52, op := Op.move (Operand.tmp 7), type := 23, pos := "place.go:21", after := #[{ on := 7, ground := Ground.guard }], guard := some (7, false) }) (v := ?va136) rfl (by kernel_rfl) (by kernel_rfl) (by kernel_rfl) (fun _ _ _ h => h) (Or.inl ⟨by rfl, ?ya136⟩) (by assumption) ?ra136
      case ya136 => (intro w hSw; (try dsimp only at hSw); go_simp; first | done | (with_reducible rfl))
      try simp only [Act.put, List.setIfInBounds_toArray, List.set_cons_zero, List.set_cons_succ]
      refine wpAnyH_take (i := 9) (oi := { dst := some 53, op := Op.move (Operand.tmp 6), type := 82, pos := "place.go:21", after := #[{ on := 7, ground := Ground.guard }], guard := some (7, false) }) (v := ?va137) rfl (by kernel_rfl) (by kernel_rfl) (by kernel_rfl) (fun _ _ _ h => h) (Or.inl ⟨by rfl, ?ya137⟩) (by assumption) ?ra137
      case ya137 => (intro w hSw; (try dsimp only at hSw); go_simp; first | done | (with_reducible rfl))
      try simp only [Act.put, List.setIfInBounds_toArray, List.set_cons_zero, List.set_cons_succ]
      refine wpAnyH_ready (rs := [10]) (by kernel_rfl) (by simp) ?_
      refine AllReadyH.cons (o := { dst := some 54, op := Op.call { callee := Callee.value (Operand.tmp 53), args := #[Operand.const (Value.int IntKind.i64 0), Operand.const (Value.int IntKind.i64 1000)], argTypes := #[3, 3] }, type := 76, pos := "place.go:21", after := #[{ on := 9, ground := Ground.data }, { on := 7, ground := Ground.chain }, { on := 7, ground := Ground.guard }], guard := some (7, false) }) rfl (fun K hK => ?_) AllReadyH.nil
      go_simp
      ((with_reducible refine (snd1_any _ _ _).mono ?_); rintro e w2 ⟨v2, rfl, hio, hb2⟩; have HIO := Lib.hid hio; (first | (have hb3 := below_undrew hb2) | (have hb3 := hb2)); replace f0 := (hb3.cell (p := ⟨w.heap.size + 1, 0, none⟩) hz).trans f0; replace f3 := (hb3.cell (p := ⟨w.heap.size + 1, 3, none⟩) hz).trans f3; replace f4 := (hb3.cell (p := ⟨w.heap.size + 1, 4, none⟩) hz).trans f4; replace HB := Lib.hid (below_trans HB.out hb3 HB.out.size); replace HPc := Lib.hid (HPc.out.below hb3 (Nat.le_refl _)); replace HPh := Lib.hid (HPh.out.below hb3 (Nat.le_refl _)); replace hz := Nat.lt_of_lt_of_le hz hb3.size; clear hio hb2 hb3)
      refine hK.out _ _ ⟨f0, f3, f4⟩ (fun hHeld => ?_)
      clear hK K
      try simp only [Act.put, List.setIfInBounds_toArray, List.set_cons_zero, List.set_cons_succ]
      refine wpAnyH_ready (rs := [11]) (by kernel_rfl) (by simp) ?_
      refine AllReadyH.cons (o := { dst := some 55, op := Op.call { callee := Callee.value (Operand.func 40), args := #[Operand.tmp 52, Operand.tmp 54], argTypes := #[23, 76] }, type := 4, pos := "place.go:21", after := #[{ on := 8, ground := Ground.data }, { on := 10, ground := Ground.data }, { on := 10, ground := Ground.chain }, { on := 7, ground := Ground.guard }], guard := some (7, false) }) rfl (fun K hK => ?_) AllReadyH.nil
      go_simp
      ((with_reducible refine (Contains_b _ _ (p.h0 ++ p.h1) _ _ _ _ HT5.out HPh.out HIO.out).mono ?_); rintro e w' ⟨rfl, rfl⟩; clear HIO)
      refine hK.out _ _ ⟨f0, f3, f4⟩ (fun hHeld => ?_)
      clear hK K
      try simp only [Act.put, List.setIfInBounds_toArray, List.set_cons_zero, List.set_cons_succ]
      refine wpAnyH_take (i := 12) (oi := { dst := some 56, op := Op.pick (Operand.tmp 51) (Operand.const (Value.bool true)) (Operand.tmp 55), type := 4, pos := "place.go:21", after := #[{ on := 7, ground := Ground.data }, { on := 11, ground := Ground.data }], guard := none }) (v := ?va138) rfl (by kernel_rfl) (by kernel_rfl) (by kernel_rfl) (fun _ _ _ h => h) (Or.inl ⟨by rfl, ?ya138⟩) (by assumption) ?ra138
      case ya138 => (intro w hSw; (try dsimp only at hSw); go_simp; first | done | (with_reducible rfl))
      try simp only [Act.put, List.setIfInBounds_toArray, List.set_cons_zero, List.set_cons_succ]
      refine wpAnyH_take (i := 13) (oi := { dst := some 57, op := Op.move (Operand.tmp 56), type := 4, pos := "place.go:21", after := #[{ on := 12, ground := Ground.data }, { on := 11, ground := Ground.chain }], guard := none }) (v := ?va139) rfl (by kernel_rfl) (by kernel_rfl) (by kernel_rfl) (fun _ _ _ h => h) (Or.inl ⟨by rfl, ?ya139⟩) (by assumption) ?ra139
      case ya139 => (intro w hSw; (try dsimp only at hSw); go_simp; first | done | (with_reducible rfl))
      try simp only [Act.put, List.setIfInBounds_toArray, List.set_cons_zero, List.set_cons_succ]
      refine wpAnyH_take (i := 14) (oi := { dst := some 58, op := Op.fieldAddr 29 (Operand.tmp 3) 2, type := 0, pos := "place.go:21", after := #[{ on := 13, ground := Ground.guard }], guard := some (13, false) }) (v := ?va140) rfl (by kernel_rfl) (by kernel_rfl) (by kernel_rfl) (fun _ _ _ h => h) (Or.inl ⟨by rfl, ?ya140⟩) (by assumption) ?ra140
      case ya140 => (intro w hSw; (try dsimp only at hSw); go_simp; first | done | (with_reducible rfl))
      try simp only [Act.put, List.setIfInBounds_toArray, List.set_cons_zero, List.set_cons_succ]
      refine wpAnyH_take (i := 15) (oi := { dst := some 59, op := Op.load 3 (Operand.tmp 58), type := 3, pos := "place.go:21", after := #[{ on := 14, ground := Ground.data }, { on := 13, ground := Ground.guard }], guard := some (13, false) }) (v := ?va141) rfl (by kernel_rfl) (by kernel_rfl) (by kernel_rfl) (fun _ _ _ h => h) (Or.inl ⟨by rfl, ?ya141⟩) (by assumption) ?ra141
      case ya141 => (intro w hSw; (try dsimp only at hSw); go_simp; first | done | (with_reducible rfl))
      try simp only [Act.put, List.setIfInBounds_toArray, List.set_cons_zero, List.set_cons_succ]
      refine wpAnyH_take (i := 16) (oi := { dst := some 60, op := Op.binOp BinOp.neq 3 (Operand.tmp 59) (Operand.const (Value.int IntKind.i64 0)) 3, type := 4, pos := "place.go:21", after := #[{ on := 15, ground := Ground.data }, { on := 13, ground := Ground.guard }], guard := some (13, false) }) (v := ?va142) rfl (by kernel_rfl) (by kernel_rfl) (by kernel_rfl) (fun _ _ _ h => h) (Or.inl ⟨by rfl, ?ya142⟩) (by assumption) ?ra142
      case ya142 => (intro w hSw; (try dsimp only at hSw); go_simp; first | done | (with_reducible rfl))
      try simp only [Act.put, List.setIfInBounds_toArray, List.set_cons_zero, List.set_cons_succ]
      refine wpAnyH_take (i := 17) (oi := { dst := some 61, op := Op.move (Operand.tmp 60), type := 4, pos := "place.go:21", after := #[{ on := 16, ground := Ground.data }, { on := 13, ground := Ground.chain }, { on := 13, ground := Ground.guard }], guard := some (13, false) }) (v := ?va143) rfl (by kernel_rfl) (by kernel_rfl) (by kernel_rfl) (fun _ _ _ h => h) (Or.inl ⟨by rfl, ?ya143⟩) (by assumption) ?ra143
      case ya143 => (intro w hSw; (try dsimp only at hSw); go_simp; first | done | (with_reducible rfl))
      try simp only [Act.put, List.setIfInBounds_toArray, List.set_cons_zero, List.set_cons_succ]
      refine wpAnyH_take (i := 18) (oi := { dst := some 62, op := Op.fieldAddr 29 (Operand.tmp 3) 2, type := 0, pos := "place.go:21", after := #[{ on := 17, ground := Ground.guard }], guard := some (17, true) }) (v := ?va144) rfl (by kernel_rfl) (by kernel_rfl) (by kernel_rfl) (fun _ _ _ h => h) (Or.inl ⟨by rfl, ?ya144⟩) (by assumption) ?ra144
      case ya144 => (intro w hSw; (try dsimp only at hSw); go_simp; first | done | (with_reducible rfl))
      try simp only [Act.put, List.setIfInBounds_toArray, List.set_cons_zero, List.set_cons_succ]
      refine wpAnyH_take (i := 19) (oi := { dst := some 63, op := Op.load 3 (Operand.tmp 62), type := 3, pos := "place.go:21", after := #[{ on := 18, ground := Ground.data }, { on := 17, ground := Ground.guard }], guard := some (17, true) }) (v := ?va145) rfl (by kernel_rfl) (by kernel_rfl) (by kernel_rfl) (fun _ _ _ h => h) (Or.inl ⟨by rfl, ?ya145⟩) (by assumption) ?ra145
      case ya145 => (intro w hSw; (try dsimp only at hSw); go_simp; first | done | (with_reducible rfl))
      try simp only [Act.put, List.setIfInBounds_toArray, List.set_cons_zero, List.set_cons_succ]
      refine wpAnyH_take (i := 20) (oi := { dst := some 64, op := Op.binOp BinOp.neq 3 (Operand.tmp 63) (Operand.const (Value.int IntKind.i64 1)) 3, type := 4, pos := "place.go:21", after := #[{ on := 19, ground := Ground.data }, { on := 17, ground := Ground.guard }], guard := some (17, true) }) (v := ?va146) rfl (by kernel_rfl) (by kernel_rfl) (by kernel_rfl) (fun _ _ _ h => h) (Or.inl ⟨by rfl, ?ya146⟩) (by assumption) ?ra146
      case ya146 => (intro w hSw; (try dsimp only at hSw); go_simp; first | done | (with_reducible rfl))
      try simp only [Act.put, List.setIfInBounds_toArray, List.set_cons_zero, List.set_cons_succ]
      refine wpAnyH_take (i := 21) (oi := { dst := some 65, op := Op.pick (Operand.tmp 61) (Operand.tmp 64) (Operand.const (Value.bool false)), type := 4, pos := "place.go:21", after := #[{ on := 17, ground := Ground.data }, { on := 20, ground := Ground.data }, { on := 13, ground := Ground.guard }], guard := some (13, false) }) (v := ?va147) rfl (by kernel_rfl) (by kernel_rfl) (by kernel_rfl) (fun _ _ _ h => h) (Or.inl ⟨by rfl, ?ya147⟩) (by assumption) ?ra147
      case ya147 => (intro w hSw; (try dsimp only at hSw); go_simp; first | done | (with_reducible rfl))
      try simp only [Act.put, List.setIfInBounds_toArray, List.set_cons_zero, List.set_cons_succ]
      refine wpAnyH_take (i := 22) (oi := { dst := some 66, op := Op.pick (Operand.tmp 57) (Operand.const (Value.bool true)) (Operand.tmp 65), type := 4, pos := "place.go:21", after := #[{ on := 13, ground := Ground.data }, { on := 21, ground := Ground.data }], guard := none }) (v := ?va148) rfl (by kernel_rfl) (by kernel_rfl) (by kernel_rfl) (fun _ _ _ h => h) (Or.inl ⟨by rfl, ?ya148⟩) (by assumption) ?ra148
      case ya148 => (intro w hSw; (try dsimp only at hSw); go_simp; first | done | (with_reducible rfl))
      try simp only [Act.put, List.setIfInBounds_toArray, List.set_cons_zero, List.set_cons_succ]
      refine wpAnyH_take (i := 23) (oi := { dst := some 67, op := Op.move (Operand.tmp 66), type := 4, pos := "place.go:21", after := #[{ on := 22, ground := Ground.data }, { on := 17, ground := Ground.chain }], guard := none }) (v := ?va149) rfl (by kernel_rfl) (by kernel_rfl) (by kernel_rfl) (fun _ _ _ h => h) (Or.inl ⟨by rfl, ?ya149⟩) (by assumption) ?ra149
      case ya149 => (intro w hSw; (try dsimp only at hSw); go_simp; first | done | (with_reducible rfl))
      try simp only [Act.put, List.setIfInBounds_toArray, List.set_cons_zero, List.set_cons_succ]
      refine wpAnyH_take (i := 24) (oi := { dst := some 68, op := Op.fieldAddr 29 (Operand.tmp 3) 3, type := 0, pos := "place.go:21", after := #[{ on := 23, ground := Ground.guard }], guard := some (23, false) }) (v := ?va150) rfl (by kernel_rfl) (by kernel_rfl) (by kernel_rfl) (fun _ _ _ h => h) (Or.inl ⟨by rfl, ?ya150⟩) (by assumption) ?ra150
      case ya150 => (intro w hSw; (try dsimp only at hSw); go_simp; first | done | (with_reducible rfl))
      try simp only [Act.put, List.setIfInBounds_toArray, List.set_cons_zero, List.set_cons_succ]
      refine wpAnyH_take (i := 25) (oi := { dst := some 69, op := Op.load 3 (Operand.tmp 68), type := 3, pos := "place.go:21", after := #[{ on := 24, ground := Ground.data }, { on := 23, ground := Ground.guard }], guard := some (23, false) }) (v := ?va151) rfl (by kernel_rfl) (by kernel_rfl) (by kernel_rfl) (fun _ _ _ h => h) (Or.inl ⟨by rfl, ?ya151⟩) (by assumption) ?ra151
      case ya151 => (intro w hSw; (try dsimp only at hSw); go_simp; first | done | (with_reducible rfl))
      try simp only [Act.put, List.setIfInBounds_toArray, List.set_cons_zero, List.set_cons_succ]
      refine wpAnyH_take (i := 26) (oi := { dst := some 70, op := Op.binOp BinOp.lss 3 (Operand.tmp 69) (Operand.const (Value.int IntKind.i64 0)) 3, type := 4, pos := "place.go:21", after := #[{ on := 25, ground := Ground.data }, { on := 23, ground := Ground.guard }], guard := some (23, false) }) (v := ?va152) rfl (by kernel_rfl) (by kernel_rfl) (by kernel_rfl) (fun _ _ _ h => h) (Or.inl ⟨by rfl, ?ya152⟩) (by assumption) ?ra152
      case ya152 => (intro w hSw; (try dsimp only at hSw); go_simp; first | done | (with_reducible rfl))
      try simp only [Act.put, List.setIfInBounds_toArray, List.set_cons_zero, List.set_cons_succ]
      refine wpAnyH_take (i := 27) (oi := { dst := some 71, op := Op.pick (Operand.tmp 67) (Operand.const (Value.bool true)) (Operand.tmp 70), type := 4, pos := "place.go:21", after := #[{ on := 23, ground := Ground.data }, { on := 26, ground := Ground.data }], guard := none }) (v := ?va153) rfl (by kernel_rfl) (by kernel_rfl) (by kernel_rfl) (fun _ _ _ h => h) (Or.inl ⟨by rfl, ?ya153⟩) (by assumption) ?ra153
      case ya153 => (intro w hSw; (try dsimp only at hSw); go_simp; first | done | (with_reducible rfl))
      try simp only [Act.put, List.setIfInBounds_toArray, List.set_cons_zero, List.set_cons_succ]
      refine wpAnyH_take (i := 28) (oi := { dst := some 72, op := Op.move (Operand.tmp 71), type := 4, pos := "place.go:21", after := #[{ on := 27, ground := Ground.data }, { on := 23, ground := Ground.chain }], guard := none }) (v := ?va154) rfl (by kernel_rfl) (by kernel_rfl) (by kernel_rfl) (fun _ _ _ h => h) (Or.inl ⟨by rfl, ?ya154⟩) (by assumption) ?ra154
      case ya154 => (intro w hSw; (try dsimp only at hSw); go_simp; first | done | (with_reducible rfl))
      try simp only [Act.put, List.setIfInBounds_toArray, List.set_cons_zero, List.set_cons_succ]
      refine wpAnyH_take (i := 29) (oi := { dst := some 73, op := Op.fieldAddr 29 (Operand.tmp 3) 3, type := 0, pos := "place.go:21", after := #[{ on := 28, ground := Ground.guard }], guard := some (28, false) }) (v := ?va155) rfl (by kernel_rfl) (by kernel_rfl) (by kernel_rfl) (fun _ _ _ h => h) (Or.inl ⟨by rfl, ?ya155⟩) (by assumption) ?ra155
      case ya155 => (intro w hSw; (try dsimp only at hSw); go_simp; first | done | (with_reducible rfl))
      try simp only [Act.put, List.setIfInBounds_toArray, List.set_cons_zero, List.set_cons_succ]
      refine wpAnyH_take (i := 30) (oi := { dst := some 74, op := Op.load 3 (Operand.tmp 73), type := 3, pos := "place.go:21", after := #[{ on := 29, ground := Ground.data }, { on := 28, ground := Ground.guard }], guard := some (28, false) }) (v := ?va156) rfl (by kernel_rfl) (by kernel_rfl) (by kernel_rfl) (fun _ _ _ h => h) (Or.inl ⟨by rfl, ?ya156⟩) (by assumption) ?ra156
      case ya156 => (intro w hSw; (try dsimp only at hSw); go_simp; first | done | (with_reducible rfl))
      try simp only [Act.put, List.setIfInBounds_toArray, List.set_cons_zero, List.set_cons_succ]
      refine wpAnyH_take (i := 31) (oi := { dst := some 75, op := Op.binOp BinOp.gtr 3 (Operand.tmp 74) (Operand.const (Value.int IntKind.i64 200)) 3, type := 4, pos := "place.go:21", after := #[{ on := 30, ground := Ground.data }, { on := 28, ground := Ground.guard }], guard := some (28, false) }) (v := ?va157) rfl (by kernel_rfl) (by kernel_rfl) (by kernel_rfl) (fun _ _ _ h => h) (Or.inl ⟨by rfl, ?ya157⟩) (by assumption) ?ra157
      case ya157 => (intro w hSw; (try dsimp only at hSw); go_simp; first | done | (with_reducible rfl))
      try simp only [Act.put, List.setIfInBounds_toArray, List.set_cons_zero, List.set_cons_succ]
      refine wpAnyH_take (i := 32) (oi := { dst := some 76, op := Op.pick (Operand.tmp 72) (Operand.const (Value.bool true)) (Operand.tmp 75), type := 4, pos := "place.go:21", after := #[{ on := 28, ground := Ground.data }, { on := 31, ground := Ground.data }], guard := none }) (v := ?va158) rfl (by kernel_rfl) (by kernel_rfl) (by kernel_rfl) (fun _ _ _ h => h) (Or.inl ⟨by rfl, ?ya158⟩) (by assumption) ?ra158
      case ya158 => (intro w hSw; (try dsimp only at hSw); go_simp; first | done | (with_reducible rfl))
      try simp only [Act.put, List.setIfInBounds_toArray, List.set_cons_zero, List.set_cons_succ]
      refine wpAnyH_done (by kernel_rfl) ?_ _
      refine NoPanic.normal ?_
      go_wp2_with fail
      go_ret
      exact ⟨by rw [HE.out]; rfl, HB.out⟩
    have t9' : decide (200 < p.quiet) = false := by simpa using t9
    have HE : Hid (soundErr R p = 0) := Lib.hid (by rw [HC2.out, if_neg (by simp only [HT4.out, HT5.out, Bool.false_eq_true, false_or]; rintro (h | h | h) <;> first | omega | (have := HT6.out; simp at this; omega))])
    go_wp2_with fail
    refine wp_region_noPanic ?_
    refine wp_region_held_drew (S := (fun w' => w'.cell? ⟨w.heap.size + 1, 0, none⟩ = some (.slice ac p.cells.length cc) ∧ w'.cell? ⟨w.heap.size + 1, 3, none⟩ = some (.int .i64 p.turn) ∧ w'.cell? ⟨w.heap.size + 1, 4, none⟩ = some (.int .i64 p.quiet))) (by kernel_rfl) ⟨f0, f3, f4⟩ (fun hHeld => ?_)
    refine wpAnyH_take (i := 0) (oi := { dst := some 44, op := Op.fieldAddr 29 (Operand.tmp 3) 0, type := 0, pos := "place.go:21", after := #[], guard := none }) (v := ?va159) rfl (by kernel_rfl) (by kernel_rfl) (by kernel_rfl) (fun _ _ _ h => h) (Or.inl ⟨by rfl, ?ya159⟩) (by assumption) ?ra159
    case ya159 => (intro w hSw; (try dsimp only at hSw); go_simp; first | done | (with_reducible rfl))
    try simp only [Act.put, List.setIfInBounds_toArray, List.set_cons_zero, List.set_cons_succ]
    refine wpAnyH_take (i := 2) (oi := { dst := some 46, op := Op.move (Operand.tmp 6), type := 82, pos := "place.go:21", after := #[], guard := none }) (v := ?va160) rfl (by kernel_rfl) (by kernel_rfl) (by kernel_rfl) (fun _ _ _ h => h) (Or.inl ⟨by rfl, ?ya160⟩) (by assumption) ?ra160
    case ya160 => (intro w hSw; (try dsimp only at hSw); go_simp; first | done | (with_reducible rfl))
    try simp only [Act.put, List.setIfInBounds_toArray, List.set_cons_zero, List.set_cons_succ]
    refine wpAnyH_take (i := 3) (oi := { dst := some 47, op := Op.move (Operand.tmp 5), type := 3, pos := "place.go:21", after := #[], guard := none }) (v := ?va161) rfl (by kernel_rfl) (by kernel_rfl) (by kernel_rfl) (fun _ _ _ h => h) (Or.inl ⟨by rfl, ?ya161⟩) (by assumption) ?ra161
    case ya161 => (intro w hSw; (try dsimp only at hSw); go_simp; first | done | (with_reducible rfl))
    try simp only [Act.put, List.setIfInBounds_toArray, List.set_cons_zero, List.set_cons_succ]
    refine wpAnyH_take (i := 1) (oi := { dst := some 45, op := Op.load 23 (Operand.tmp 44), type := 23, pos := "place.go:21", after := #[{ on := 0, ground := Ground.data }], guard := none }) (v := ?va162) rfl (by kernel_rfl) (by kernel_rfl) (by kernel_rfl) (fun _ _ _ h => h) (Or.inl ⟨by rfl, ?ya162⟩) (by assumption) ?ra162
    case ya162 => (intro w hSw; (try dsimp only at hSw); go_simp; first | done | (with_reducible rfl))
    try simp only [Act.put, List.setIfInBounds_toArray, List.set_cons_zero, List.set_cons_succ]
    refine wpAnyH_take (i := 4) (oi := { dst := some 48, op := Op.binOp BinOp.mul 3 (Operand.const (Value.int IntKind.i64 2)) (Operand.tmp 47) 3, type := 3, pos := "place.go:21", after := #[{ on := 3, ground := Ground.data }], guard := none }) (v := ?va163) rfl (by kernel_rfl) (by kernel_rfl) (by kernel_rfl) (fun _ _ _ h => h) (Or.inl ⟨by rfl, ?ya163⟩) (by assumption) ?ra163
    case ya163 => (intro w hSw; (try dsimp only at hSw); go_simp; first | done | (with_reducible rfl))
    try simp only [Act.put, List.setIfInBounds_toArray, List.set_cons_zero, List.set_cons_succ]
    refine wpAnyH_ready (rs := [5]) (by kernel_rfl) (by simp) ?_
    refine AllReadyH.cons (o := { dst := some 49, op := Op.call { callee := Callee.value (Operand.tmp 46), args := #[Operand.const (Value.int IntKind.i64 0), Operand.tmp 48], argTypes := #[3, 3] }, type := 76, pos := "place.go:21", after := #[{ on := 2, ground := Ground.data }, { on := 4, ground := Ground.data }], guard := none }) rfl (fun K hK => ?_) AllReadyH.nil
    go_simp
    ((with_reducible refine (snd1_any _ _ _).mono ?_); rintro e w2 ⟨v2, rfl, hio, hb2⟩; have HIO := Lib.hid hio; (first | (have hb3 := below_undrew hb2) | (have hb3 := hb2)); replace f0 := (hb3.cell (p := ⟨w.heap.size + 1, 0, none⟩) hz).trans f0; replace f3 := (hb3.cell (p := ⟨w.heap.size + 1, 3, none⟩) hz).trans f3; replace f4 := (hb3.cell (p := ⟨w.heap.size + 1, 4, none⟩) hz).trans f4; replace HB := Lib.hid (below_trans HB.out hb3 HB.out.size); replace HPc := Lib.hid (HPc.out.below hb3 (Nat.le_refl _)); replace HPh := Lib.hid (HPh.out.below hb3 (Nat.le_refl _)); replace hz := Nat.lt_of_lt_of_le hz hb3.size; clear hio hb2 hb3)
    refine hK.out _ _ ⟨f0, f3, f4⟩ (fun hHeld => ?_)
    clear hK K
    try simp only [Act.put, List.setIfInBounds_toArray, List.set_cons_zero, List.set_cons_succ]
    refine wpAnyH_ready (rs := [6]) (by kernel_rfl) (by simp) ?_
    refine AllReadyH.cons (o := { dst := some 50, op := Op.call { callee := Callee.value (Operand.func 40), args := #[Operand.tmp 45, Operand.tmp 49], argTypes := #[23, 76] }, type := 4, pos := "place.go:21", after := #[{ on := 1, ground := Ground.data }, { on := 5, ground := Ground.data }, { on := 5, ground := Ground.chain }], guard := none }) rfl (fun K hK => ?_) AllReadyH.nil
    go_simp
    ((with_reducible refine (Contains_b _ _ p.cells _ _ _ _ HT4.out HPc.out HIO.out).mono ?_); rintro e w' ⟨rfl, rfl⟩; clear HIO)
    refine hK.out _ _ ⟨f0, f3, f4⟩ (fun hHeld => ?_)
    clear hK K
    try simp only [Act.put, List.setIfInBounds_toArray, List.set_cons_zero, List.set_cons_succ]
    refine wpAnyH_take (i := 7) (oi := { dst := some 51, op := Op.move (Operand.tmp 50), type := 4, pos := "place.go:21", after := #[{ on := 6, ground := Ground.data }, { on := 6, ground := Ground.chain }], guard := none }) (v := ?va164) rfl (by kernel_rfl) (by kernel_rfl) (by kernel_rfl) (fun _ _ _ h => h) (Or.inl ⟨by rfl, ?ya164⟩) (by assumption) ?ra164
    case ya164 => (intro w hSw; (try dsimp only at hSw); go_simp; first | done | (with_reducible rfl))
    try simp only [Act.put, List.setIfInBounds_toArray, List.set_cons_zero, List.set_cons_succ]
    refine wpAnyH_take (i := 8) (oi := { dst := some 52, op := Op.move (Operand.tmp 7), type := 23, pos := "place.go:21", after := #[{ on := 7, ground := Ground.guard }], guard := some (7, false) }) (v := ?va165) rfl (by kernel_rfl) (by kernel_rfl) (by kernel_rfl) (fun _ _ _ h => h) (Or.inl ⟨by rfl, ?ya165⟩) (by assumption) ?ra165
    case ya165 => (intro w hSw; (try dsimp only at hSw); go_simp; first | done | (with_reducible rfl))
    try simp only [Act.put, List.setIfInBounds_toArray, List.set_cons_zero, List.set_cons_succ]
    refine wpAnyH_take (i := 9) (oi := { dst := some 53, op := Op.move (Operand.tmp 6), type := 82, pos := "place.go:21", after := #[{ on := 7, ground := Ground.guard }], guard := some (7, false) }) (v := ?va166) rfl (by kernel_rfl) (by kernel_rfl) (by kernel_rfl) (fun _ _ _ h => h) (Or.inl ⟨by rfl, ?ya166⟩) (by assumption) ?ra166
    case ya166 => (intro w hSw; (try dsimp only at hSw); go_simp; first | done | (with_reducible rfl))
    try simp only [Act.put, List.setIfInBounds_toArray, List.set_cons_zero, List.set_cons_succ]
    refine wpAnyH_ready (rs := [10]) (by kernel_rfl) (by simp) ?_
    refine AllReadyH.cons (o := { dst := some 54, op := Op.call { callee := Callee.value (Operand.tmp 53), args := #[Operand.const (Value.int IntKind.i64 0), Operand.const (Value.int IntKind.i64 1000)], argTypes := #[3, 3] }, type := 76, pos := "place.go:21", after := #[{ on := 9, ground := Ground.data }, { on := 7, ground := Ground.chain }, { on := 7, ground := Ground.guard }], guard := some (7, false) }) rfl (fun K hK => ?_) AllReadyH.nil
    go_simp
    ((with_reducible refine (snd1_any _ _ _).mono ?_); rintro e w2 ⟨v2, rfl, hio, hb2⟩; have HIO := Lib.hid hio; (first | (have hb3 := below_undrew hb2) | (have hb3 := hb2)); replace f0 := (hb3.cell (p := ⟨w.heap.size + 1, 0, none⟩) hz).trans f0; replace f3 := (hb3.cell (p := ⟨w.heap.size + 1, 3, none⟩) hz).trans f3; replace f4 := (hb3.cell (p := ⟨w.heap.size + 1, 4, none⟩) hz).trans f4; replace HB := Lib.hid (below_trans HB.out hb3 HB.out.size); replace HPc := Lib.hid (HPc.out.below hb3 (Nat.le_refl _)); replace HPh := Lib.hid (HPh.out.below hb3 (Nat.le_refl _)); replace hz := Nat.lt_of_lt_of_le hz hb3.size; clear hio hb2 hb3)
    refine hK.out _ _ ⟨f0, f3, f4⟩ (fun hHeld => ?_)
    clear hK K
    try simp only [Act.put, List.setIfInBounds_toArray, List.set_cons_zero, List.set_cons_succ]
    refine wpAnyH_ready (rs := [11]) (by kernel_rfl) (by simp) ?_
    refine AllReadyH.cons (o := { dst := some 55, op := Op.call { callee := Callee.value (Operand.func 40), args := #[Operand.tmp 52, Operand.tmp 54], argTypes := #[23, 76] }, type := 4, pos := "place.go:21", after := #[{ on := 8, ground := Ground.data }, { on := 10, ground := Ground.data }, { on := 10, ground := Ground.chain }, { on := 7, ground := Ground.guard }], guard := some (7, false) }) rfl (fun K hK => ?_) AllReadyH.nil
    go_simp
    ((with_reducible refine (Contains_b _ _ (p.h0 ++ p.h1) _ _ _ _ HT5.out HPh.out HIO.out).mono ?_); rintro e w' ⟨rfl, rfl⟩; clear HIO)
    refine hK.out _ _ ⟨f0, f3, f4⟩ (fun hHeld => ?_)
    clear hK K
    try simp only [Act.put, List.setIfInBounds_toArray, List.set_cons_zero, List.set_cons_succ]
    refine wpAnyH_take (i := 12) (oi := { dst := some 56, op := Op.pick (Operand.tmp 51) (Operand.const (Value.bool true)) (Operand.tmp 55), type := 4, pos := "place.go:21", after := #[{ on := 7, ground := Ground.data }, { on := 11, ground := Ground.data }], guard := none }) (v := ?va167) rfl (by kernel_rfl) (by kernel_rfl) (by kernel_rfl) (fun _ _ _ h => h) (Or.inl ⟨by rfl, ?ya167⟩) (by assumption) ?ra167
    case ya167 => (intro w hSw; (try dsimp only at hSw); go_simp; first | done | (with_reducible rfl))
    try simp only [Act.put, List.setIfInBounds_toArray, List.set_cons_zero, List.set_cons_succ]
    refine wpAnyH_take (i := 13) (oi := { dst := some 57, op := Op.move (Operand.tmp 56), type := 4, pos := "place.go:21", after := #[{ on := 12, ground := Ground.data }, { on := 11, ground := Ground.chain }], guard := none }) (v := ?va168) rfl (by kernel_rfl) (by kernel_rfl) (by kernel_rfl) (fun _ _ _ h => h) (Or.inl ⟨by rfl, ?ya168⟩) (by assumption) ?ra168
    case ya168 => (intro w hSw; (try dsimp only at hSw); go_simp; first | done | (with_reducible rfl))
    try simp only [Act.put, List.setIfInBounds_toArray, List.set_cons_zero, List.set_cons_succ]
    refine wpAnyH_take (i := 14) (oi := { dst := some 58, op := Op.fieldAddr 29 (Operand.tmp 3) 2, type := 0, pos := "place.go:21", after := #[{ on := 13, ground := Ground.guard }], guard := some (13, false) }) (v := ?va169) rfl (by kernel_rfl) (by kernel_rfl) (by kernel_rfl) (fun _ _ _ h => h) (Or.inl ⟨by rfl, ?ya169⟩) (by assumption) ?ra169
    case ya169 => (intro w hSw; (try dsimp only at hSw); go_simp; first | done | (with_reducible rfl))
    try simp only [Act.put, List.setIfInBounds_toArray, List.set_cons_zero, List.set_cons_succ]
    refine wpAnyH_take (i := 15) (oi := { dst := some 59, op := Op.load 3 (Operand.tmp 58), type := 3, pos := "place.go:21", after := #[{ on := 14, ground := Ground.data }, { on := 13, ground := Ground.guard }], guard := some (13, false) }) (v := ?va170) rfl (by kernel_rfl) (by kernel_rfl) (by kernel_rfl) (fun _ _ _ h => h) (Or.inl ⟨by rfl, ?ya170⟩) (by assumption) ?ra170
    case ya170 => (intro w hSw; (try dsimp only at hSw); go_simp; first | done | (with_reducible rfl))
    try simp only [Act.put, List.setIfInBounds_toArray, List.set_cons_zero, List.set_cons_succ]
    refine wpAnyH_take (i := 16) (oi := { dst := some 60, op := Op.binOp BinOp.neq 3 (Operand.tmp 59) (Operand.const (Value.int IntKind.i64 0)) 3, type := 4, pos := "place.go:21", after := #[{ on := 15, ground := Ground.data }, { on := 13, ground := Ground.guard }], guard := some (13, false) }) (v := ?va171) rfl (by kernel_rfl) (by kernel_rfl) (by kernel_rfl) (fun _ _ _ h => h) (Or.inl ⟨by rfl, ?ya171⟩) (by assumption) ?ra171
    case ya171 => (intro w hSw; (try dsimp only at hSw); go_simp; first | done | (with_reducible rfl))
    try simp only [Act.put, List.setIfInBounds_toArray, List.set_cons_zero, List.set_cons_succ]
    refine wpAnyH_take (i := 17) (oi := { dst := some 61, op := Op.move (Operand.tmp 60), type := 4, pos := "place.go:21", after := #[{ on := 16, ground := Ground.data }, { on := 13, ground := Ground.chain }, { on := 13, ground := Ground.guard }], guard := some (13, false) }) (v := ?va172) rfl (by kernel_rfl) (by kernel_rfl) (by kernel_rfl) (fun _ _ _ h => h) (Or.inl ⟨by rfl, ?ya172⟩) (by assumption) ?ra172
    case ya172 => (intro w hSw; (try dsimp only at hSw); go_simp; first | done | (with_reducible rfl))
    try simp only [Act.put, List.setIfInBounds_toArray, List.set_cons_zero, List.set_cons_succ]
    refine wpAnyH_take (i := 18) (oi := { dst := some 62, op := Op.fieldAddr 29 (Operand.tmp 3) 2, type := 0, pos := "place.go:21", after := #[{ on := 17, ground := Ground.guard }], guard := some (17, true) }) (v := ?va173) rfl (by kernel_rfl) (by kernel_rfl) (by kernel_rfl) (fun _ _ _ h => h) (Or.inl ⟨by rfl, ?ya173⟩) (by assumption) ?ra173
    case ya173 => (intro w hSw; (try dsimp only at hSw); go_simp; first | done | (with_reducible rfl))
    try simp only [Act.put, List.setIfInBounds_toArray, List.set_cons_zero, List.set_cons_succ]
    refine wpAnyH_take (i := 19) (oi := { dst := some 63, op := Op.load 3 (Operand.tmp 62), type := 3, pos := "place.go:21", after := #[{ on := 18, ground := Ground.data }, { on := 17, ground := Ground.guard }], guard := some (17, true) }) (v := ?va174) rfl (by kernel_rfl) (by kernel_rfl) (by kernel_rfl) (fun _ _ _ h => h) (Or.inl ⟨by rfl, ?ya174⟩) (by assumption) ?ra174
    case ya174 => (intro w hSw; (try dsimp only at hSw); go_simp; first | done | (with_reducible rfl))
    try simp only [Act.put, List.setIfInBounds_toArray, List.set_cons_zero, List.set_cons_succ]
    refine wpAnyH_take (i := 20) (oi := { dst := some 64, op := Op.binOp BinOp.neq 3 (Operand.tmp 63) (Operand.const (Value.int IntKind.i64 1)) 3, type := 4, pos := "place.go:21", after := #[{ on := 19, ground := Ground.data }, { on := 17, ground := Ground.guard }], guard := some (17, true) }) (v := ?va175) rfl (by kernel_rfl) (by kernel_rfl) (by kernel_rfl) (fun _ _ _ h => h) (Or.inl ⟨by rfl, ?ya175⟩) (by assumption) ?ra175
    case ya175 => (intro w hSw; (try dsimp only at hSw); go_simp; first | done | (with_reducible rfl))
    try simp only [Act.put, List.setIfInBounds_toArray, List.set_cons_zero, List.set_cons_succ]
    refine wpAnyH_take (i := 21) (oi := { dst := some 65, op := Op.pick (Operand.tmp 61) (Operand.tmp 64) (Operand.const (Value.bool false)), type := 4, pos := "place.go:21", after := #[{ on := 17, ground := Ground.data }, { on := 20, ground := Ground.data }, { on := 13, ground := Ground.guard }], guard := some (13, false) }) (v := ?va176) rfl (by kernel_rfl) (by kernel_rfl) (by kernel_rfl) (fun _ _ _ h => h) (Or.inl ⟨by rfl, ?ya176⟩) (by assumption) ?ra176
    case ya176 => (intro w hSw; (try dsimp only at hSw); go_simp; first | done | (with_reducible rfl))
    try simp only [Act.put, List.setIfInBounds_toArray, List.set_cons_zero, List.set_cons_succ]
    refine wpAnyH_take (i := 22) (oi := { dst := some 66, op := Op.pick (Operand.tmp 57) (Operand.const (Value.bool true)) (Operand.tmp 65), type := 4, pos := "place.go:21", after := #[{ on := 13, ground := Ground.data }, { on := 21, ground := Ground.data }], guard := none }) (v := ?va177) rfl (by kernel_rfl) (by kernel_rfl) (by kernel_rfl) (fun _ _ _ h => h) (Or.inl ⟨by rfl, ?ya177⟩) (by assumption) ?ra177
    case ya177 => (intro w hSw; (try dsimp only at hSw); go_simp; first | done | (with_reducible rfl))
    try simp only [Act.put, List.setIfInBounds_toArray, List.set_cons_zero, List.set_cons_succ]
    refine wpAnyH_take (i := 23) (oi := { dst := some 67, op := Op.move (Operand.tmp 66), type := 4, pos := "place.go:21", after := #[{ on := 22, ground := Ground.data }, { on := 17, ground := Ground.chain }], guard := none }) (v := ?va178) rfl (by kernel_rfl) (by kernel_rfl) (by kernel_rfl) (fun _ _ _ h => h) (Or.inl ⟨by rfl, ?ya178⟩) (by assumption) ?ra178
    case ya178 => (intro w hSw; (try dsimp only at hSw); go_simp; first | done | (with_reducible rfl))
    try simp only [Act.put, List.setIfInBounds_toArray, List.set_cons_zero, List.set_cons_succ]
    refine wpAnyH_take (i := 24) (oi := { dst := some 68, op := Op.fieldAddr 29 (Operand.tmp 3) 3, type := 0, pos := "place.go:21", after := #[{ on := 23, ground := Ground.guard }], guard := some (23, false) }) (v := ?va179) rfl (by kernel_rfl) (by kernel_rfl) (by kernel_rfl) (fun _ _ _ h => h) (Or.inl ⟨by rfl, ?ya179⟩) (by assumption) ?ra179
    case ya179 => (intro w hSw; (try dsimp only at hSw); go_simp; first | done | (with_reducible rfl))
    try simp only [Act.put, List.setIfInBounds_toArray, List.set_cons_zero, List.set_cons_succ]
    refine wpAnyH_take (i := 25) (oi := { dst := some 69, op := Op.load 3 (Operand.tmp 68), type := 3, pos := "place.go:21", after := #[{ on := 24, ground := Ground.data }, { on := 23, ground := Ground.guard }], guard := some (23, false) }) (v := ?va180) rfl (by kernel_rfl) (by kernel_rfl) (by kernel_rfl) (fun _ _ _ h => h) (Or.inl ⟨by rfl, ?ya180⟩) (by assumption) ?ra180
    case ya180 => (intro w hSw; (try dsimp only at hSw); go_simp; first | done | (with_reducible rfl))
    try simp only [Act.put, List.setIfInBounds_toArray, List.set_cons_zero, List.set_cons_succ]
    refine wpAnyH_take (i := 26) (oi := { dst := some 70, op := Op.binOp BinOp.lss 3 (Operand.tmp 69) (Operand.const (Value.int IntKind.i64 0)) 3, type := 4, pos := "place.go:21", after := #[{ on := 25, ground := Ground.data }, { on := 23, ground := Ground.guard }], guard := some (23, false) }) (v := ?va181) rfl (by kernel_rfl) (by kernel_rfl) (by kernel_rfl) (fun _ _ _ h => h) (Or.inl ⟨by rfl, ?ya181⟩) (by assumption) ?ra181
    case ya181 => (intro w hSw; (try dsimp only at hSw); go_simp; first | done | (with_reducible rfl))
    try simp only [Act.put, List.setIfInBounds_toArray, List.set_cons_zero, List.set_cons_succ]
    refine wpAnyH_take (i := 27) (oi := { dst := some 71, op := Op.pick (Operand.tmp 67) (Operand.const (Value.bool true)) (Operand.tmp 70), type := 4, pos := "place.go:21", after := #[{ on := 23, ground := Ground.data }, { on := 26, ground := Ground.data }], guard := none }) (v := ?va182) rfl (by kernel_rfl) (by kernel_rfl) (by kernel_rfl) (fun _ _ _ h => h) (Or.inl ⟨by rfl, ?ya182⟩) (by assumption) ?ra182
    case ya182 => (intro w hSw; (try dsimp only at hSw); go_simp; first | done | (with_reducible rfl))
    try simp only [Act.put, List.setIfInBounds_toArray, List.set_cons_zero, List.set_cons_succ]
    refine wpAnyH_take (i := 28) (oi := { dst := some 72, op := Op.move (Operand.tmp 71), type := 4, pos := "place.go:21", after := #[{ on := 27, ground := Ground.data }, { on := 23, ground := Ground.chain }], guard := none }) (v := ?va183) rfl (by kernel_rfl) (by kernel_rfl) (by kernel_rfl) (fun _ _ _ h => h) (Or.inl ⟨by rfl, ?ya183⟩) (by assumption) ?ra183
    case ya183 => (intro w hSw; (try dsimp only at hSw); go_simp; first | done | (with_reducible rfl))
    try simp only [Act.put, List.setIfInBounds_toArray, List.set_cons_zero, List.set_cons_succ]
    refine wpAnyH_take (i := 29) (oi := { dst := some 73, op := Op.fieldAddr 29 (Operand.tmp 3) 3, type := 0, pos := "place.go:21", after := #[{ on := 28, ground := Ground.guard }], guard := some (28, false) }) (v := ?va184) rfl (by kernel_rfl) (by kernel_rfl) (by kernel_rfl) (fun _ _ _ h => h) (Or.inl ⟨by rfl, ?ya184⟩) (by assumption) ?ra184
    case ya184 => (intro w hSw; (try dsimp only at hSw); go_simp; first | done | (with_reducible rfl))
    try simp only [Act.put, List.setIfInBounds_toArray, List.set_cons_zero, List.set_cons_succ]
    refine wpAnyH_take (i := 30) (oi := { dst := some 74, op := Op.load 3 (Operand.tmp 73), type := 3, pos := "place.go:21", after := #[{ on := 29, ground := Ground.data }, { on := 28, ground := Ground.guard }], guard := some (28, false) }) (v := ?va185) rfl (by kernel_rfl) (by kernel_rfl) (by kernel_rfl) (fun _ _ _ h => h) (Or.inl ⟨by rfl, ?ya185⟩) (by assumption) ?ra185
    case ya185 => (intro w hSw; (try dsimp only at hSw); go_simp; first | done | (with_reducible rfl))
    try simp only [Act.put, List.setIfInBounds_toArray, List.set_cons_zero, List.set_cons_succ]
    refine wpAnyH_take (i := 31) (oi := { dst := some 75, op := Op.binOp BinOp.gtr 3 (Operand.tmp 74) (Operand.const (Value.int IntKind.i64 200)) 3, type := 4, pos := "place.go:21", after := #[{ on := 30, ground := Ground.data }, { on := 28, ground := Ground.guard }], guard := some (28, false) }) (v := ?va186) rfl (by kernel_rfl) (by kernel_rfl) (by kernel_rfl) (fun _ _ _ h => h) (Or.inl ⟨by rfl, ?ya186⟩) (by assumption) ?ra186
    case ya186 => (intro w hSw; (try dsimp only at hSw); go_simp; first | done | (with_reducible rfl))
    try simp only [Act.put, List.setIfInBounds_toArray, List.set_cons_zero, List.set_cons_succ]
    refine wpAnyH_take (i := 32) (oi := { dst := some 76, op := Op.pick (Operand.tmp 72) (Operand.const (Value.bool true)) (Operand.tmp 75), type := 4, pos := "place.go:21", after := #[{ on := 28, ground := Ground.data }, { on := 31, ground := Ground.data }], guard := none }) (v := ?va187) rfl (by kernel_rfl) (by kernel_rfl) (by kernel_rfl) (fun _ _ _ h => h) (Or.inl ⟨by rfl, ?ya187⟩) (by assumption) ?ra187
    case ya187 => (intro w hSw; (try dsimp only at hSw); go_simp; first | done | (with_reducible rfl))
    try simp only [Act.put, List.setIfInBounds_toArray, List.set_cons_zero, List.set_cons_succ]
    refine wpAnyH_done (by kernel_rfl) ?_ _
    refine NoPanic.normal ?_
    go_wp2_with fail
    go_ret
    exact ⟨by rw [HE.out]; rfl, HB.out⟩
  have HT7 := Lib.hid t7
  have t7' : (p.turn != 1) = true := by simp [bne, t7]
  clear t7
  have HE : Hid (soundErr R p = 4) := Lib.hid (by rw [HC2.out, if_pos (.inr (.inr (.inl ⟨by simpa using HT60.out, by simpa using HT7.out⟩)))])
  go_wp2_with fail
  refine wp_region_noPanic ?_
  refine wp_region_held_drew (S := (fun w' => w'.cell? ⟨w.heap.size + 1, 0, none⟩ = some (.slice ac p.cells.length cc) ∧ w'.cell? ⟨w.heap.size + 1, 3, none⟩ = some (.int .i64 p.turn) ∧ w'.cell? ⟨w.heap.size + 1, 4, none⟩ = some (.int .i64 p.quiet))) (by kernel_rfl) ⟨f0, f3, f4⟩ (fun hHeld => ?_)
  refine wpAnyH_take (i := 0) (oi := { dst := some 44, op := Op.fieldAddr 29 (Operand.tmp 3) 0, type := 0, pos := "place.go:21", after := #[], guard := none }) (v := ?va188) rfl (by kernel_rfl) (by kernel_rfl) (by kernel_rfl) (fun _ _ _ h => h) (Or.inl ⟨by rfl, ?ya188⟩) (by assumption) ?ra188
  case ya188 => (intro w hSw; (try dsimp only at hSw); go_simp; first | done | (with_reducible rfl))
  try simp only [Act.put, List.setIfInBounds_toArray, List.set_cons_zero, List.set_cons_succ]
  refine wpAnyH_take (i := 2) (oi := { dst := some 46, op := Op.move (Operand.tmp 6), type := 82, pos := "place.go:21", after := #[], guard := none }) (v := ?va189) rfl (by kernel_rfl) (by kernel_rfl) (by kernel_rfl) (fun _ _ _ h => h) (Or.inl ⟨by rfl, ?ya189⟩) (by assumption) ?ra189
  case ya189 => (intro w hSw; (try dsimp only at hSw); go_simp; first | done | (with_reducible rfl))
  try simp only [Act.put, List.setIfInBounds_toArray, List.set_cons_zero, List.set_cons_succ]
  refine wpAnyH_take (i := 3) (oi := { dst := some 47, op := Op.move (Operand.tmp 5), type := 3, pos := "place.go:21", after := #[], guard := none }) (v := ?va190) rfl (by kernel_rfl) (by kernel_rfl) (by kernel_rfl) (fun _ _ _ h => h) (Or.inl ⟨by rfl, ?ya190⟩) (by assumption) ?ra190
  case ya190 => (intro w hSw; (try dsimp only at hSw); go_simp; first | done | (with_reducible rfl))
  try simp only [Act.put, List.setIfInBounds_toArray, List.set_cons_zero, List.set_cons_succ]
  refine wpAnyH_take (i := 1) (oi := { dst := some 45, op := Op.load 23 (Operand.tmp 44), type := 23, pos := "place.go:21", after := #[{ on := 0, ground := Ground.data }], guard := none }) (v := ?va191) rfl (by kernel_rfl) (by kernel_rfl) (by kernel_rfl) (fun _ _ _ h => h) (Or.inl ⟨by rfl, ?ya191⟩) (by assumption) ?ra191
  case ya191 => (intro w hSw; (try dsimp only at hSw); go_simp; first | done | (with_reducible rfl))
  try simp only [Act.put, List.setIfInBounds_toArray, List.set_cons_zero, List.set_cons_succ]
  refine wpAnyH_take (i := 4) (oi := { dst := some 48, op := Op.binOp BinOp.mul 3 (Operand.const (Value.int IntKind.i64 2)) (Operand.tmp 47) 3, type := 3, pos := "place.go:21", after := #[{ on := 3, ground := Ground.data }], guard := none }) (v := ?va192) rfl (by kernel_rfl) (by kernel_rfl) (by kernel_rfl) (fun _ _ _ h => h) (Or.inl ⟨by rfl, ?ya192⟩) (by assumption) ?ra192
  case ya192 => (intro w hSw; (try dsimp only at hSw); go_simp; first | done | (with_reducible rfl))
  try simp only [Act.put, List.setIfInBounds_toArray, List.set_cons_zero, List.set_cons_succ]
  refine wpAnyH_ready (rs := [5]) (by kernel_rfl) (by simp) ?_
  refine AllReadyH.cons (o := { dst := some 49, op := Op.call { callee := Callee.value (Operand.tmp 46), args := #[Operand.const (Value.int IntKind.i64 0), Operand.tmp 48], argTypes := #[3, 3] }, type := 76, pos := "place.go:21", after := #[{ on := 2, ground := Ground.data }, { on := 4, ground := Ground.data }], guard := none }) rfl (fun K hK => ?_) AllReadyH.nil
  go_simp
  ((with_reducible refine (snd1_any _ _ _).mono ?_); rintro e w2 ⟨v2, rfl, hio, hb2⟩; have HIO := Lib.hid hio; (first | (have hb3 := below_undrew hb2) | (have hb3 := hb2)); replace f0 := (hb3.cell (p := ⟨w.heap.size + 1, 0, none⟩) hz).trans f0; replace f3 := (hb3.cell (p := ⟨w.heap.size + 1, 3, none⟩) hz).trans f3; replace f4 := (hb3.cell (p := ⟨w.heap.size + 1, 4, none⟩) hz).trans f4; replace HB := Lib.hid (below_trans HB.out hb3 HB.out.size); replace HPc := Lib.hid (HPc.out.below hb3 (Nat.le_refl _)); replace HPh := Lib.hid (HPh.out.below hb3 (Nat.le_refl _)); replace hz := Nat.lt_of_lt_of_le hz hb3.size; clear hio hb2 hb3)
  refine hK.out _ _ ⟨f0, f3, f4⟩ (fun hHeld => ?_)
  clear hK K
  try simp only [Act.put, List.setIfInBounds_toArray, List.set_cons_zero, List.set_cons_succ]
  refine wpAnyH_ready (rs := [6]) (by kernel_rfl) (by simp) ?_
  refine AllReadyH.cons (o := { dst := some 50, op := Op.call { callee := Callee.value (Operand.func 40), args := #[Operand.tmp 45, Operand.tmp 49], argTypes := #[23, 76] }, type := 4, pos := "place.go:21", after := #[{ on := 1, ground := Ground.data }, { on := 5, ground := Ground.data }, { on := 5, ground := Ground.chain }], guard := none }) rfl (fun K hK => ?_) AllReadyH.nil
  go_simp
  ((with_reducible refine (Contains_b _ _ p.cells _ _ _ _ HT4.out HPc.out HIO.out).mono ?_); rintro e w' ⟨rfl, rfl⟩; clear HIO)
  refine hK.out _ _ ⟨f0, f3, f4⟩ (fun hHeld => ?_)
  clear hK K
  try simp only [Act.put, List.setIfInBounds_toArray, List.set_cons_zero, List.set_cons_succ]
  refine wpAnyH_take (i := 7) (oi := { dst := some 51, op := Op.move (Operand.tmp 50), type := 4, pos := "place.go:21", after := #[{ on := 6, ground := Ground.data }, { on := 6, ground := Ground.chain }], guard := none }) (v := ?va193) rfl (by kernel_rfl) (by kernel_rfl) (by kernel_rfl) (fun _ _ _ h => h) (Or.inl ⟨by rfl, ?ya193⟩) (by assumption) ?ra193
  case ya193 => (intro w hSw; (try dsimp only at hSw); go_simp; first | done | (with_reducible rfl))
  try simp only [Act.put, List.setIfInBounds_toArray, List.set_cons_zero, List.set_cons_succ]
  refine wpAnyH_take (i := 8) (oi := { dst := some 52, op := Op.move (Operand.tmp 7), type := 23, pos := "place.go:21", after := #[{ on := 7, ground := Ground.guard }], guard := some (7, false) }) (v := ?va194) rfl (by kernel_rfl) (by kernel_rfl) (by kernel_rfl) (fun _ _ _ h => h) (Or.inl ⟨by rfl, ?ya194⟩) (by assumption) ?ra194
  case ya194 => (intro w hSw; (try dsimp only at hSw); go_simp; first | done | (with_reducible rfl))
  try simp only [Act.put, List.setIfInBounds_toArray, List.set_cons_zero, List.set_cons_succ]
  refine wpAnyH_take (i := 9) (oi := { dst := some 53, op := Op.move (Operand.tmp 6), type := 82, pos := "place.go:21", after := #[{ on := 7, ground := Ground.guard }], guard := some (7, false) }) (v := ?va195) rfl (by kernel_rfl) (by kernel_rfl) (by kernel_rfl) (fun _ _ _ h => h) (Or.inl ⟨by rfl, ?ya195⟩) (by assumption) ?ra195
  case ya195 => (intro w hSw; (try dsimp only at hSw); go_simp; first | done | (with_reducible rfl))
  try simp only [Act.put, List.setIfInBounds_toArray, List.set_cons_zero, List.set_cons_succ]
  refine wpAnyH_ready (rs := [10]) (by kernel_rfl) (by simp) ?_
  refine AllReadyH.cons (o := { dst := some 54, op := Op.call { callee := Callee.value (Operand.tmp 53), args := #[Operand.const (Value.int IntKind.i64 0), Operand.const (Value.int IntKind.i64 1000)], argTypes := #[3, 3] }, type := 76, pos := "place.go:21", after := #[{ on := 9, ground := Ground.data }, { on := 7, ground := Ground.chain }, { on := 7, ground := Ground.guard }], guard := some (7, false) }) rfl (fun K hK => ?_) AllReadyH.nil
  go_simp
  ((with_reducible refine (snd1_any _ _ _).mono ?_); rintro e w2 ⟨v2, rfl, hio, hb2⟩; have HIO := Lib.hid hio; (first | (have hb3 := below_undrew hb2) | (have hb3 := hb2)); replace f0 := (hb3.cell (p := ⟨w.heap.size + 1, 0, none⟩) hz).trans f0; replace f3 := (hb3.cell (p := ⟨w.heap.size + 1, 3, none⟩) hz).trans f3; replace f4 := (hb3.cell (p := ⟨w.heap.size + 1, 4, none⟩) hz).trans f4; replace HB := Lib.hid (below_trans HB.out hb3 HB.out.size); replace HPc := Lib.hid (HPc.out.below hb3 (Nat.le_refl _)); replace HPh := Lib.hid (HPh.out.below hb3 (Nat.le_refl _)); replace hz := Nat.lt_of_lt_of_le hz hb3.size; clear hio hb2 hb3)
  refine hK.out _ _ ⟨f0, f3, f4⟩ (fun hHeld => ?_)
  clear hK K
  try simp only [Act.put, List.setIfInBounds_toArray, List.set_cons_zero, List.set_cons_succ]
  refine wpAnyH_ready (rs := [11]) (by kernel_rfl) (by simp) ?_
  refine AllReadyH.cons (o := { dst := some 55, op := Op.call { callee := Callee.value (Operand.func 40), args := #[Operand.tmp 52, Operand.tmp 54], argTypes := #[23, 76] }, type := 4, pos := "place.go:21", after := #[{ on := 8, ground := Ground.data }, { on := 10, ground := Ground.data }, { on := 10, ground := Ground.chain }, { on := 7, ground := Ground.guard }], guard := some (7, false) }) rfl (fun K hK => ?_) AllReadyH.nil
  go_simp
  ((with_reducible refine (Contains_b _ _ (p.h0 ++ p.h1) _ _ _ _ HT5.out HPh.out HIO.out).mono ?_); rintro e w' ⟨rfl, rfl⟩; clear HIO)
  refine hK.out _ _ ⟨f0, f3, f4⟩ (fun hHeld => ?_)
  clear hK K
  try simp only [Act.put, List.setIfInBounds_toArray, List.set_cons_zero, List.set_cons_succ]
  refine wpAnyH_take (i := 12) (oi := { dst := some 56, op := Op.pick (Operand.tmp 51) (Operand.const (Value.bool true)) (Operand.tmp 55), type := 4, pos := "place.go:21", after := #[{ on := 7, ground := Ground.data }, { on := 11, ground := Ground.data }], guard := none }) (v := ?va196) rfl (by kernel_rfl) (by kernel_rfl) (by kernel_rfl) (fun _ _ _ h => h) (Or.inl ⟨by rfl, ?ya196⟩) (by assumption) ?ra196
  case ya196 => (intro w hSw; (try dsimp only at hSw); go_simp; first | done | (with_reducible rfl))
  try simp only [Act.put, List.setIfInBounds_toArray, List.set_cons_zero, List.set_cons_succ]
  refine wpAnyH_take (i := 13) (oi := { dst := some 57, op := Op.move (Operand.tmp 56), type := 4, pos := "place.go:21", after := #[{ on := 12, ground := Ground.data }, { on := 11, ground := Ground.chain }], guard := none }) (v := ?va197) rfl (by kernel_rfl) (by kernel_rfl) (by kernel_rfl) (fun _ _ _ h => h) (Or.inl ⟨by rfl, ?ya197⟩) (by assumption) ?ra197
  case ya197 => (intro w hSw; (try dsimp only at hSw); go_simp; first | done | (with_reducible rfl))
  try simp only [Act.put, List.setIfInBounds_toArray, List.set_cons_zero, List.set_cons_succ]
  refine wpAnyH_take (i := 14) (oi := { dst := some 58, op := Op.fieldAddr 29 (Operand.tmp 3) 2, type := 0, pos := "place.go:21", after := #[{ on := 13, ground := Ground.guard }], guard := some (13, false) }) (v := ?va198) rfl (by kernel_rfl) (by kernel_rfl) (by kernel_rfl) (fun _ _ _ h => h) (Or.inl ⟨by rfl, ?ya198⟩) (by assumption) ?ra198
  case ya198 => (intro w hSw; (try dsimp only at hSw); go_simp; first | done | (with_reducible rfl))
  try simp only [Act.put, List.setIfInBounds_toArray, List.set_cons_zero, List.set_cons_succ]
  refine wpAnyH_take (i := 15) (oi := { dst := some 59, op := Op.load 3 (Operand.tmp 58), type := 3, pos := "place.go:21", after := #[{ on := 14, ground := Ground.data }, { on := 13, ground := Ground.guard }], guard := some (13, false) }) (v := ?va199) rfl (by kernel_rfl) (by kernel_rfl) (by kernel_rfl) (fun _ _ _ h => h) (Or.inl ⟨by rfl, ?ya199⟩) (by assumption) ?ra199
  case ya199 => (intro w hSw; (try dsimp only at hSw); go_simp; first | done | (with_reducible rfl))
  try simp only [Act.put, List.setIfInBounds_toArray, List.set_cons_zero, List.set_cons_succ]
  refine wpAnyH_take (i := 16) (oi := { dst := some 60, op := Op.binOp BinOp.neq 3 (Operand.tmp 59) (Operand.const (Value.int IntKind.i64 0)) 3, type := 4, pos := "place.go:21", after := #[{ on := 15, ground := Ground.data }, { on := 13, ground := Ground.guard }], guard := some (13, false) }) (v := ?va200) rfl (by kernel_rfl) (by kernel_rfl) (by kernel_rfl) (fun _ _ _ h => h) (Or.inl ⟨by rfl, ?ya200⟩) (by assumption) ?ra200
  case ya200 => (intro w hSw; (try dsimp only at hSw); go_simp; first | done | (with_reducible rfl))
  try simp only [Act.put, List.setIfInBounds_toArray, List.set_cons_zero, List.set_cons_succ]
  refine wpAnyH_take (i := 17) (oi := { dst := some 61, op := Op.move (Operand.tmp 60), type := 4, pos := "place.go:21", after := #[{ on := 16, ground := Ground.data }, { on := 13, ground := Ground.chain }, { on := 13, ground := Ground.guard }], guard := some (13, false) }) (v := ?va201) rfl (by kernel_rfl) (by kernel_rfl) (by kernel_rfl) (fun _ _ _ h => h) (Or.inl ⟨by rfl, ?ya201⟩) (by assumption) ?ra201
  case ya201 => (intro w hSw; (try dsimp only at hSw); go_simp; first | done | (with_reducible rfl))
  try simp only [Act.put, List.setIfInBounds_toArray, List.set_cons_zero, List.set_cons_succ]
  refine wpAnyH_take (i := 18) (oi := { dst := some 62, op := Op.fieldAddr 29 (Operand.tmp 3) 2, type := 0, pos := "place.go:21", after := #[{ on := 17, ground := Ground.guard }], guard := some (17, true) }) (v := ?va202) rfl (by kernel_rfl) (by kernel_rfl) (by kernel_rfl) (fun _ _ _ h => h) (Or.inl ⟨by rfl, ?ya202⟩) (by assumption) ?ra202
  case ya202 => (intro w hSw; (try dsimp only at hSw); go_simp; first | done | (with_reducible rfl))
  try simp only [Act.put, List.setIfInBounds_toArray, List.set_cons_zero, List.set_cons_succ]
  refine wpAnyH_take (i := 19) (oi := { dst := some 63, op := Op.load 3 (Operand.tmp 62), type := 3, pos := "place.go:21", after := #[{ on := 18, ground := Ground.data }, { on := 17, ground := Ground.guard }], guard := some (17, true) }) (v := ?va203) rfl (by kernel_rfl) (by kernel_rfl) (by kernel_rfl) (fun _ _ _ h => h) (Or.inl ⟨by rfl, ?ya203⟩) (by assumption) ?ra203
  case ya203 => (intro w hSw; (try dsimp only at hSw); go_simp; first | done | (with_reducible rfl))
  try simp only [Act.put, List.setIfInBounds_toArray, List.set_cons_zero, List.set_cons_succ]
  refine wpAnyH_take (i := 20) (oi := { dst := some 64, op := Op.binOp BinOp.neq 3 (Operand.tmp 63) (Operand.const (Value.int IntKind.i64 1)) 3, type := 4, pos := "place.go:21", after := #[{ on := 19, ground := Ground.data }, { on := 17, ground := Ground.guard }], guard := some (17, true) }) (v := ?va204) rfl (by kernel_rfl) (by kernel_rfl) (by kernel_rfl) (fun _ _ _ h => h) (Or.inl ⟨by rfl, ?ya204⟩) (by assumption) ?ra204
  case ya204 => (intro w hSw; (try dsimp only at hSw); go_simp; first | done | (with_reducible rfl))
  try simp only [Act.put, List.setIfInBounds_toArray, List.set_cons_zero, List.set_cons_succ]
  refine wpAnyH_take (i := 21) (oi := { dst := some 65, op := Op.pick (Operand.tmp 61) (Operand.tmp 64) (Operand.const (Value.bool false)), type := 4, pos := "place.go:21", after := #[{ on := 17, ground := Ground.data }, { on := 20, ground := Ground.data }, { on := 13, ground := Ground.guard }], guard := some (13, false) }) (v := ?va205) rfl (by kernel_rfl) (by kernel_rfl) (by kernel_rfl) (fun _ _ _ h => h) (Or.inl ⟨by rfl, ?ya205⟩) (by assumption) ?ra205
  case ya205 => (intro w hSw; (try dsimp only at hSw); go_simp; first | done | (with_reducible rfl))
  try simp only [Act.put, List.setIfInBounds_toArray, List.set_cons_zero, List.set_cons_succ]
  refine wpAnyH_take (i := 22) (oi := { dst := some 66, op := Op.pick (Operand.tmp 57) (Operand.const (Value.bool true)) (Operand.tmp 65), type := 4, pos := "place.go:21", after := #[{ on := 13, ground := Ground.data }, { on := 21, ground := Ground.data }], guard := none }) (v := ?va206) rfl (by kernel_rfl) (by kernel_rfl) (by kernel_rfl) (fun _ _ _ h => h) (Or.inl ⟨by rfl, ?ya206⟩) (by assumption) ?ra206
  case ya206 => (intro w hSw; (try dsimp only at hSw); go_simp; first | done | (with_reducible rfl))
  try simp only [Act.put, List.setIfInBounds_toArray, List.set_cons_zero, List.set_cons_succ]
  refine wpAnyH_take (i := 23) (oi := { dst := some 67, op := Op.move (Operand.tmp 66), type := 4, pos := "place.go:21", after := #[{ on := 22, ground := Ground.data }, { on := 17, ground := Ground.chain }], guard := none }) (v := ?va207) rfl (by kernel_rfl) (by kernel_rfl) (by kernel_rfl) (fun _ _ _ h => h) (Or.inl ⟨by rfl, ?ya207⟩) (by assumption) ?ra207
  case ya207 => (intro w hSw; (try dsimp only at hSw); go_simp; first | done | (with_reducible rfl))
  try simp only [Act.put, List.setIfInBounds_toArray, List.set_cons_zero, List.set_cons_succ]
  refine wpAnyH_take (i := 24) (oi := { dst := some 68, op := Op.fieldAddr 29 (Operand.tmp 3) 3, type := 0, pos := "place.go:21", after := #[{ on := 23, ground := Ground.guard }], guard := some (23, false) }) (v := undef) rfl (by kernel_rfl) (by kernel_rfl) (by kernel_rfl) (fun _ _ _ h => h) (Or.inr ⟨by rfl, rfl⟩) (by assumption) ?_
  try simp only [Act.put, List.setIfInBounds_toArray, List.set_cons_zero, List.set_cons_succ]
  refine wpAnyH_take (i := 25) (oi := { dst := some 69, op := Op.load 3 (Operand.tmp 68), type := 3, pos := "place.go:21", after := #[{ on := 24, ground := Ground.data }, { on := 23, ground := Ground.guard }], guard := some (23, false) }) (v := undef) rfl (by kernel_rfl) (by kernel_rfl) (by kernel_rfl) (fun _ _ _ h => h) (Or.inr ⟨by rfl, rfl⟩) (by assumption) ?_
  try simp only [Act.put, List.setIfInBounds_toArray, List.set_cons_zero, List.set_cons_succ]
  refine wpAnyH_take (i := 26) (oi := { dst := some 70, op := Op.binOp BinOp.lss 3 (Operand.tmp 69) (Operand.const (Value.int IntKind.i64 0)) 3, type := 4, pos := "place.go:21", after := #[{ on := 25, ground := Ground.data }, { on := 23, ground := Ground.guard }], guard := some (23, false) }) (v := undef) rfl (by kernel_rfl) (by kernel_rfl) (by kernel_rfl) (fun _ _ _ h => h) (Or.inr ⟨by rfl, rfl⟩) (by assumption) ?_
  try simp only [Act.put, List.setIfInBounds_toArray, List.set_cons_zero, List.set_cons_succ]
  refine wpAnyH_take (i := 27) (oi := { dst := some 71, op := Op.pick (Operand.tmp 67) (Operand.const (Value.bool true)) (Operand.tmp 70), type := 4, pos := "place.go:21", after := #[{ on := 23, ground := Ground.data }, { on := 26, ground := Ground.data }], guard := none }) (v := ?va208) rfl (by kernel_rfl) (by kernel_rfl) (by kernel_rfl) (fun _ _ _ h => h) (Or.inl ⟨by rfl, ?ya208⟩) (by assumption) ?ra208
  case ya208 => (intro w hSw; (try dsimp only at hSw); go_simp; first | done | (with_reducible rfl))
  try simp only [Act.put, List.setIfInBounds_toArray, List.set_cons_zero, List.set_cons_succ]
  refine wpAnyH_take (i := 28) (oi := { dst := some 72, op := Op.move (Operand.tmp 71), type := 4, pos := "place.go:21", after := #[{ on := 27, ground := Ground.data }, { on := 23, ground := Ground.chain }], guard := none }) (v := ?va209) rfl (by kernel_rfl) (by kernel_rfl) (by kernel_rfl) (fun _ _ _ h => h) (Or.inl ⟨by rfl, ?ya209⟩) (by assumption) ?ra209
  case ya209 => (intro w hSw; (try dsimp only at hSw); go_simp; first | done | (with_reducible rfl))
  try simp only [Act.put, List.setIfInBounds_toArray, List.set_cons_zero, List.set_cons_succ]
  refine wpAnyH_take (i := 29) (oi := { dst := some 73, op := Op.fieldAddr 29 (Operand.tmp 3) 3, type := 0, pos := "place.go:21", after := #[{ on := 28, ground := Ground.guard }], guard := some (28, false) }) (v := undef) rfl (by kernel_rfl) (by kernel_rfl) (by kernel_rfl) (fun _ _ _ h => h) (Or.inr ⟨by rfl, rfl⟩) (by assumption) ?_
  try simp only [Act.put, List.setIfInBounds_toArray, List.set_cons_zero, List.set_cons_succ]
  refine wpAnyH_take (i := 30) (oi := { dst := some 74, op := Op.load 3 (Operand.tmp 73), type := 3, pos := "place.go:21", after := #[{ on := 29, ground := Ground.data }, { on := 28, ground := Ground.guard }], guard := some (28, false) }) (v := undef) rfl (by kernel_rfl) (by kernel_rfl) (by kernel_rfl) (fun _ _ _ h => h) (Or.inr ⟨by rfl, rfl⟩) (by assumption) ?_
  try simp only [Act.put, List.setIfInBounds_toArray, List.set_cons_zero, List.set_cons_succ]
  refine wpAnyH_take (i := 31) (oi := { dst := some 75, op := Op.binOp BinOp.gtr 3 (Operand.tmp 74) (Operand.const (Value.int IntKind.i64 200)) 3, type := 4, pos := "place.go:21", after := #[{ on := 30, ground := Ground.data }, { on := 28, ground := Ground.guard }], guard := some (28, false) }) (v := undef) rfl (by kernel_rfl) (by kernel_rfl) (by kernel_rfl) (fun _ _ _ h => h) (Or.inr ⟨by rfl, rfl⟩) (by assumption) ?_
  try simp only [Act.put, List.setIfInBounds_toArray, List.set_cons_zero, List.set_cons_succ]
  refine wpAnyH_take (i := 32) (oi := { dst := some 76, op := Op.pick (Operand.tmp 72) (Operand.const (Value.bool true)) (Operand.tmp 75), type := 4, pos := "place.go:21", after := #[{ on := 28, ground := Ground.data }, { on := 31, ground := Ground.data }], guard := none }) (v := ?va210) rfl (by kernel_rfl) (by kernel_rfl) (by kernel_rfl) (fun _ _ _ h => h) (Or.inl ⟨by rfl, ?ya210⟩) (by assumption) ?ra210
  case ya210 => (intro w hSw; (try dsimp only at hSw); go_simp; first | done | (with_reducible rfl))
  try simp only [Act.put, List.setIfInBounds_toArray, List.set_cons_zero, List.set_cons_succ]
  refine wpAnyH_done (by kernel_rfl) ?_ _
  refine NoPanic.normal ?_
  go_wp2_with fail
  go_ret
  exact ⟨by rw [HE.out]; rfl, HB.out⟩


end Go.Proofs.Ytaacfoeleblfbaa

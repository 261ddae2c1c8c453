/- Tic, Cut, After, Mq2, MtE, RwP. -/
import Derived.Test.YthklhndcdijneaaGreatDoorC08
import Derived.Laws.MakeOwn
import Derived.Test.YthklhndcdijneaaGreatDoorC18
import Derived.Test.YthklhndcdijneaaGreatDoorC01
import Derived.Test.YthklhndcdijneaaGreatDoorC13
import Derived.Test.YthklhndcdijneaaGreatDoorC09
import Derived.Test.YthklhndcdijneaaGreatDoorC14
import Derived.Test.YthklhndcdijneaaGreatDoorC16
import Derived.Test.YthklhndcdijneaaGreatDoorC21
import Derived.Test.YthklhndcdijneaaGreatDoorC05
import Derived.Test.YthklhndcdijneaaGreatDoorC20
namespace Go.Proofs.YthklhndcdijneaaGreatDoor
open Go.ChangeShapes Go.WideShapes Go.ChangeAt Go.RowKit
set_option linter.unusedVariables false
def ticZ : RulesZ := ⟨⟨#[84, 73, 67]⟩, 3, 3, [⟨83, 5, 0, []⟩], List.replicate 9 0, false, false, [⟨0, 0, 3, false⟩], 2, 0, 0⟩
def TicPost (w : World) (e : Ending) (w' : World) : Prop := ∃ vp vs ve, e = .returned (rulesV ticZ vp vs ve) ∧ RdR w' ticZ vp vs ve ∧ Below w.heap.size w w'
set_option maxRecDepth 100000 in
set_option maxHeartbeats 4000000 in
theorem tic_any (w : World) : Calls Tryz.prog 13 #[] w (TicPost w) := by
 obtain ⟨i0, hi, hz0, hz1, hz2⟩ := info_parts info3
 have hmk : ∀ w' : World, (Instr.makeSlice 23 (.int .i64 9) (.int .i64 9)).run Tryz.prog w' = .ok (.slice (some ⟨w'.heap.size, 0, none⟩) 9 9) (w'.alloc (.cells #[.int .i64 0, .int .i64 0, .int .i64 0, .int .i64 0, .int .i64 0, .int .i64 0, .int .i64 0, .int .i64 0, .int .i64 0] 3)) := fun w' => by
  rw [run_make w' 23 3 i0 (.int .i64 0) Tryz.underlying23 hi hz0 .i64 .i64 9 9 (by decide) (by decide) (by rw [hz2]; decide) (by decide), hz1]
  kernel_rfl
 clear hi hz0 hz1 hz2
 go_enter Tryz.func13, Tryz.ntmps13
 go_wp2
 refine bodyPost_ret (v := rulesV ticZ (.slice (some ⟨w.heap.size + 1, 0, none⟩) 1 1) (.slice (some ⟨w.heap.size + 1 + 1, 0, none⟩) 9 9) (.slice (some ⟨w.heap.size + 1 + 1 + 1, 0, none⟩) 1 1)) (by simp [results, Tryz.results13, go_sem, rulesV, ticZ]) rfl ⟨_, _, _, rfl, ⟨?_, ?_, ?_⟩, by go_grown⟩
 ·refine .inr ⟨w.heap.size + 1, 0, 1, rfl, Nat.le_refl _, by unfold maxLen; decide, by simp, fun i h => ?_⟩
  obtain rfl : i = 0 := by simp [ticZ] at h; exact h
  refine ⟨[.int .u8 83, .int .i64 5, .int .i64 0, .slice none 0 0], ⟨.slice none 0 0, rfl, RdL.nil _ _⟩, fun j hj => ?_⟩
  simp only [pieceEl] at hj
  rcases j with _ | _ | _ | _ | j
  all_goals first | (simp [go_sem]; done) | omega
 ·refine ⟨rfl, .inr ⟨w.heap.size + 1 + 1, 0, 9, rfl, Nat.le_refl _, by unfold maxLen; decide, fun i hi => ?_⟩⟩
  have hi' : i < 9 := by simpa [ticZ] using hi
  rcases i with _ | _ | _ | _ | _ | _ | _ | _ | _ | i
  all_goals first | (simp [go_sem, ints, ticZ]; done) | omega
 ·refine .inr ⟨w.heap.size + 1 + 1 + 1, 0, 1, rfl, Nat.le_refl _, by unfold maxLen; decide, by simp, fun i h => ?_⟩
  obtain rfl : i = 0 := by simp [ticZ] at h; exact h
  refine ⟨[.int .i64 0, .int .i64 0, .int .i64 3, .bool false], rfl, fun j hj => ?_⟩
  simp only [endEl] at hj
  rcases j with _ | _ | _ | _ | j
  all_goals first | (simp [go_sem]; done) | omega
end Go.Proofs.YthklhndcdijneaaGreatDoor
namespace Go.Proofs.YthklhndcdijneaaGreatDoor
open Go.ChangeShapes Go.WideShapes Go.ChangeAt Go.RowKit
set_option linter.unusedVariables false
set_option maxRecDepth 100000 in
theorem great_anyG (R : RulesZ) (vp vs ve : Value) (w : World) (h : RdI w vs R.start) : Calls Tryz.prog 8 #[(.agg #[.string R.name, .int .i64 R.width, .int .i64 R.height, vp, vs, .bool R.falls, .bool R.keeps, ve, .int .i64 R.blocked, .int .i64 R.quiet, .int .i64 R.rept])] w fun e w' => e = .returned (.bool (decide (20 < (R.start.length : Int)))) ∧ Below w.heap.size w w' := by
 obtain ⟨a, c, rfl, h1, h2⟩ := h.form
 unfold maxLen at h2
 clear h
 go_enter Tryz.func8, Tryz.ntmps8
 go_wp2
 go_ret
 exact ⟨rfl, (Below.refl _ _).alloc (Nat.le_refl _) _⟩
theorem Fr.app {S : Nat → Prop} {w w' : World} {o : Obj} {vo : Value} (hg : (w.alloc o).grownBy w' vo.ownBlock) (hS : ∀ k, vo.ownBlock = some k → S k) : Fr S w w' := ((Fr.refl _ w).alloc o).grown hg (fun k hk _ => hS k hk)
theorem Box.app {w w' : World} {b base : Nat} {cs : List Value} {t e : TypeId} {sz n : Nat} {vo : Value} {xs : List Value} {o : Obj} (h : Box w b cs t) (ho : w.ownsRow base e sz vo n xs) (hg : (w.alloc o).grownBy w' vo.ownBlock) (hb : b < base) : Box w' b cs t :=
 (h.alloc o).grown hg (fun e => by have := (ho.lt b e.symm).1; omega)
theorem Below.app {w w0 w' : World} {B base : Nat} {e : TypeId} {sz n : Nat} {vo : Value} {xs : List Value} {o : Obj} (h : Below B w0 w) (ho : w.ownsRow base e sz vo n xs) (hg : (w.alloc o).grownBy w' vo.ownBlock) (hb : B ≤ base) (hB : B ≤ w.heap.size) : Below B w0 w' :=
 Below.grown (h.alloc hB o) hg (by simp; omega) (fun k hk => by have := (ho.lt k hk).1; omega)
end Go.Proofs.YthklhndcdijneaaGreatDoor
namespace Go.Proofs.YthklhndcdijneaaGreatDoor
open Go.ChangeShapes Go.WideShapes Go.ChangeAt Go.RowKit
set_option linter.unusedVariables false
/-- what moves.All gives: the moves of a valid position, or an error. -/
def allZ (R : RulesZ) (p : PosZ) : List MoveZ := if posErr R p = 0 then listZ R p else []
def AllPost (R : RulesZ) (p : PosZ) (w : World) (e : Ending) (w' : World) : Prop := ∃ v, e = .returned (.tuple #[v, .int .i64 (posErr R p)]) ∧ w'.ownsRow w.heap.size 44 3 v (allZ R p).length (flatM (allZ R p)) ∧ Below w.heap.size w w'
set_option maxRecDepth 100000 in
set_option maxHeartbeats 1000000 in
theorem All_any (HS : SortMvSaid) (R : RulesZ) (vp vs ve : Value) (p : PosZ) (vc v0 v1 : Value) (w : World) (hr : RdR w R vp vs ve) (hnm : R.name.size ≤ maxLen) (hp : RdP w p vc v0 v1) :
  Calls Tryz.prog 129 #[(.agg #[.string R.name, .int .i64 R.width, .int .i64 R.height, vp, vs, .bool R.falls, .bool R.keeps, ve, .int .i64 R.blocked, .int .i64 R.quiet, .int .i64 R.rept]), (.agg #[vc, v0, v1, .int .i64 p.turn, .int .i64 p.quiet])] w (AllPost R p w) := by
 have HR := Lib.hid hr
 have HP := Lib.hid hp
 have HN := Lib.hid hnm
 have HSh := Lib.hid HS
 clear hr hp hnm HS
 go_enter Tryz.func129, Tryz.ntmps129
 go_upto_region 1 with (fail)
 refine opn2 fun w0 B0 B1 yb_ hs_ => ?_
 have HB := Lib.hid yb_
 have hz0 : w.heap.size + 1 < w0.heap.size := by omega
 clear hs_ yb_
 have HRw := Lib.hid (HR.out.below HB.out (Nat.le_refl _))
 have HPw := Lib.hid (HP.out.below HB.out (Nat.le_refl _))
 have HBx := Lib.hid B0
 have HBy := Lib.hid B1
 have HB00 : Hid (Below w0.heap.size w0 w0) := Lib.hid (Below.refl _ _)
 clear B0 B1
 have q0 := (HBx.out.below HB00.out (by omega)).cell 0 rfl
 have q1 := (HBx.out.below HB00.out (by omega)).cell 1 rfl
 have q2 := (HBx.out.below HB00.out (by omega)).cell 2 rfl
 have q3 := (HBx.out.below HB00.out (by omega)).cell 3 rfl
 have q4 := (HBx.out.below HB00.out (by omega)).cell 4 rfl
 have q5 := (HBx.out.below HB00.out (by omega)).cell 5 rfl
 have q6 := (HBx.out.below HB00.out (by omega)).cell 6 rfl
 have q7 := (HBx.out.below HB00.out (by omega)).cell 7 rfl
 have q8 := (HBx.out.below HB00.out (by omega)).cell 8 rfl
 have q9 := (HBx.out.below HB00.out (by omega)).cell 9 rfl
 have q10 := (HBx.out.below HB00.out (by omega)).cell 10 rfl
 have e0 := (HBy.out.below HB00.out (by omega)).cell 0 rfl
 have e1 := (HBy.out.below HB00.out (by omega)).cell 1 rfl
 have e2 := (HBy.out.below HB00.out (by omega)).cell 2 rfl
 have e3 := (HBy.out.below HB00.out (by omega)).cell 3 rfl
 have e4 := (HBy.out.below HB00.out (by omega)).cell 4 rfl
 go_wp2_with fail
 refine (placeCheck_any R vp vs ve p vc v0 v1 w0 HRw.out HN.out HPw.out).mono ?_
 rintro e w1 ⟨rfl, hb1⟩
 have HB1 := Lib.hid hb1
 have hs1 := hb1.size
 clear hb1
 clear q0 q1 q2 q3 q4 q5 q6 q7 q8 q9 q10 e0 e1 e2 e3 e4
 have q0 := (HBx.out.below HB1.out (by omega)).cell 0 rfl
 have q1 := (HBx.out.below HB1.out (by omega)).cell 1 rfl
 have q2 := (HBx.out.below HB1.out (by omega)).cell 2 rfl
 have q3 := (HBx.out.below HB1.out (by omega)).cell 3 rfl
 have q4 := (HBx.out.below HB1.out (by omega)).cell 4 rfl
 have q5 := (HBx.out.below HB1.out (by omega)).cell 5 rfl
 have q6 := (HBx.out.below HB1.out (by omega)).cell 6 rfl
 have q7 := (HBx.out.below HB1.out (by omega)).cell 7 rfl
 have q8 := (HBx.out.below HB1.out (by omega)).cell 8 rfl
 have q9 := (HBx.out.below HB1.out (by omega)).cell 9 rfl
 have q10 := (HBx.out.below HB1.out (by omega)).cell 10 rfl
 have e0 := (HBy.out.below HB1.out (by omega)).cell 0 rfl
 have e1 := (HBy.out.below HB1.out (by omega)).cell 1 rfl
 have e2 := (HBy.out.below HB1.out (by omega)).cell 2 rfl
 have e3 := (HBy.out.below HB1.out (by omega)).cell 3 rfl
 have e4 := (HBy.out.below HB1.out (by omega)).cell 4 rfl
 by_cases he : posErr R p = 0
 ·have HZ := Lib.hid he
  have HE : Hid (allZ R p = listZ R p) := Lib.hid (by unfold allZ; rw [if_pos he])
  have HF : Hid (∀ v : Value, Ending.returned (.tuple #[v, .int .i64 0]) = .returned (.tuple #[v, .int .i64 (posErr R p)])) := Lib.hid (fun v => by rw [he])
  rw [he]
  clear he
  go_wp2_with fail
  refine (List_any HSh.out R vp vs ve p vc v0 v1 w1 (HRw.out.below HB1.out (Nat.le_refl _)) (HPw.out.below HB1.out (Nat.le_refl _)) (pok_of HZ.out)).mono ?_
  rintro e w2 ⟨v, rfl, ho, hb2⟩
  have HO := Lib.hid (own_base ho (show w.heap.size ≤ w1.heap.size by have := HB.out.size; omega))
  have HB2 := Lib.hid (below_trans HB1.out hb2 HB1.out.size)
  clear ho hb2
  clear q0 q1 q2 q3 q4 q5 q6 q7 q8 q9 q10 e0 e1 e2 e3 e4
  go_wp2_with fail
  go_ret2
  exact ⟨_, HF.out _, by rw [HE.out]; exact HO.out, below_trans HB.out HB2.out HB.out.size⟩
 ·have HE : Hid (allZ R p = []) := Lib.hid (by unfold allZ; rw [if_neg he])
  have he' : (posErr R p != 0) = true := by simpa using he
  clear he
  go_wp2_with fail
  go_ret2
  exact ⟨_, rfl, by rw [HE.out]; exact World.ownsRow_nil _ _ _ _, below_trans HB.out HB1.out HB.out.size⟩
end Go.Proofs.YthklhndcdijneaaGreatDoor
/- The contract of movetext.Line. -/
namespace Go.Proofs.YthklhndcdijneaaGreatDoor
open Go.ChangeShapes Go.WideShapes Go.ChangeAt Go.RowKit
set_option linter.unusedVariables false
theorem compact_len' : ∀ l : List MoveZ, (compactZ l).length ≤ l.length
 | [] => by simp [compactZ]
 | [x] => by simp [compactZ]
 | x :: y :: t => by
  have ih := compact_len' (y :: t)
  by_cases h : x = y
  ·simp only [compactZ, if_pos h, List.length_cons] at ih ⊢
   omega
  ·simp only [compactZ, if_neg h, List.length_cons] at ih ⊢
   omega
theorem list_len' {R : RulesZ} {p : PosZ} (K : POk R p) : (listZ R p).length ≤ 10000 := by
 have h1 := compact_len' (sortZ (rawZ R p))
 have h2 : (sortZ (rawZ R p)).length = (rawZ R p).length := List.length_mergeSort _
 have h3 : (putsZ R p).length ≤ (List.range p.cells.length).length * 6 := flatL_len _ 6 _ (fun s _ => by
  unfold putsAt
  split
  ·simp
  ·refine Nat.le_trans (List.length_filterMap_le _ _) ?_
   have := hand_len K
   have := K.r.np
   simp; omega)
 have h4 : ((List.range p.cells.length).flatMap (stepsAt R p)).length ≤ (List.range p.cells.length).length * 112 := flatL_len _ 112 _ (fun s _ => stepsAt_len K.r p s)
 have h5 := K.len
 unfold listZ
 have h6 : (rawZ R p).length = (putsZ R p).length + ((List.range p.cells.length).flatMap (stepsAt R p)).length := by unfold rawZ; rw [List.length_append]
 simp only [List.length_range] at h3 h4
 omega
theorem ofOk_of {R : RulesZ} {p : PosZ} {m : MoveZ} (K : POk R p) (h : m ∈ listZ R p) : OfOk R p m := ⟨fits_of K h, fun h0 => by
 rcases legal_src h with e | ⟨-, -, e, -⟩
 ·omega
 ·exact e⟩
theorem ofT_size {R : RulesZ} (L : LetOk R) {p : PosZ} (K : POk R p) {m : MoveZ} (hm : m ∈ listZ R p) : 1 ≤ (ofT R p (listZ R p) m).size ∧ (ofT R p (listZ R p) m).size ≤ 20 := by
 rw [← bts_size]
 rcases legal_src hm with e | ⟨e, -, -, -⟩
 ·rw [of_put L K hm e]; simp
 ·have F := fits_of K hm
  rw [of_board L K hm e]
  have := mark_size K (listZ R p) m e (by have := F.s.2; have := K.cl; omega)
  rw [← bts_size] at this
  simp only [List.length_cons, List.length_append]
  split <;> split <;> simp <;> omega
end Go.Proofs.YthklhndcdijneaaGreatDoor
/- The contract of movetext.Text; the law's helper writes. -/
namespace Go.Proofs.YthklhndcdijneaaGreatDoor
open Go.ChangeShapes Go.WideShapes Go.ChangeAt Go.RowKit
set_option linter.unusedVariables false
end Go.Proofs.YthklhndcdijneaaGreatDoor
namespace Go.Proofs.YthklhndcdijneaaGreatDoor
open Go.ChangeShapes Go.WideShapes Go.ChangeAt Go.RowKit
set_option linter.unusedVariables false
set_option maxHeartbeats 4000000
set_option maxRecDepth 100000
theorem IndexFunc_mt (v : Value) (xs : List MoveZ) (p : MoveZ → Bool) (f : FuncId) (caps : Array Value) (w : World) (h : RdL moveEl w v xs) (hf : ∀ (args : Array Value) (w : World), (callFunc f args).run Tryz.prog w = .ok (.enter f args) w)
  (hc : ∀ (W : World) (x : MoveZ) (cs : List Value), x ∈ xs → moveEl.E W x cs → Below w.heap.size w W → Calls Tryz.prog f (#[.agg cs.toArray] ++ caps) W fun e w' => e = .returned (.bool (p x)) ∧ Below W.heap.size W w') :
  Calls Tryz.prog 130 #[v, .func (.func f) #[] caps] w fun e w' => e = .returned (.int .i64 (idxL p xs 0)) ∧ Below w.heap.size w w' := by
 obtain ⟨a, c, rfl, h1, h2⟩ := h.form
 unfold maxLen at h2
 have HR := Lib.hid h
 have HC := Lib.hid hc
 clear h hc
 go_enter Tryz.func130, Tryz.ntmps130
 go_wp2_with fail
 go_loopw [8] (fun i wr => ∃ k : Nat, k ≤ xs.length ∧ i = .int .i64 k ∧ Hid (idxL p xs 0 = idxL p (xs.drop k) k) ∧ Below w.heap.size w wr) (fun i _ => xs.length - (intOf i).toNat)
 case atStart => exact ⟨0, Nat.zero_le _, rfl, Lib.hid rfl, Below.refl _ _⟩
 case round =>
  obtain ⟨k, hk, rfl, HK, hbl⟩ := hrel
  by_cases hlt : k < xs.length
  ·obtain ⟨g, o, rfl, hg, hcc⟩ := (HR.out.below hbl (Nat.le_refl _)).some (by omega)
   obtain ⟨cs, hE, hcell⟩ := hcc k hlt
   have hcl := moveEl.len hE
   simp only [moveEl] at hcl
   obtain ⟨c0, c1, c2, rfl⟩ : ∃ c0 c1 c2, cs = [c0, c1, c2] := by
    match cs, hcl with
    | [c0, c1, c2], _ => exact ⟨_, _, _, rfl⟩
   have q0 := hcell 0 (by decide)
   have q1 := hcell 1 (by decide)
   have q2 := hcell 2 (by decide)
   simp only [moveEl, List.getElem?_cons_zero, List.getElem?_cons_succ, Nat.add_zero] at q0 q1 q2
   have HS := Lib.hid (idxL_step p xs k hlt)
   have HCk := Lib.hid (HC.out wr xs[k] [c0, c1, c2] (List.getElem_mem hlt) hE hbl)
   have HB := Lib.hid hbl
   clear hcell hcc hE hcl hbl
   generalize xs[k] = x at *
   go_wp2_with fail
   refine HCk.out.mono ?_
   rintro e w1 ⟨rfl, hb1⟩
   have HB1 := Lib.hid (below_trans HB.out hb1 HB.out.size)
   clear hb1
   cases hpx : p x
   ·go_wp2_with fail
    go_roundw
    case rel => exact ⟨k + 1, by omega, by go_num, Lib.hid (by rw [HK.out, HS.out, if_neg (by simp [hpx])]), HB1.out⟩
    case measure => simp [intOf]; omega
   ·go_wp2_with fail
    go_ret
    exact ⟨by rw [HK.out, HS.out, if_pos hpx]; rfl, HB1.out⟩
  ·obtain rfl : k = xs.length := by omega
   go_wp2_with fail
   go_ret
   exact ⟨by rw [HK.out]; simp [idxL], hbl⟩
theorem read1_any (R : RulesZ) (vp vs ve : Value) (p : PosZ) (vc v0 v1 : Value) (vl : Value) (LL : List MoveZ) (s : ByteArray) (m : MoveZ) (b0 b1 b2 b3 : Nat) (w : World) (B0 : Box w b0 [.string R.name, .int .i64 R.width, .int .i64 R.height, vp, vs, .bool R.falls, .bool R.keeps, ve, .int .i64 R.blocked, .int .i64 R.quiet, .int .i64 R.rept] 26) (B1 : Box w b1 [vc, v0, v1, .int .i64 p.turn, .int .i64 p.quiet] 66) (B2 : Box w b2 [vl] 100) (B3 : Box w b3 [.string s] 9)
  (hr : RdL pieceEl w vp R.pieces) (hp : RdI w vc p.cells) (hl : RdL moveEl w vl LL) (K : POk R p) (L : LetOk R) (hlf : ∀ x ∈ LL, x.src < p.cells.length) (hll : LL.length ≤ 1000000) (F : OfOk R p m) :
  Calls Tryz.prog 131 (#[.agg #[.int .i64 m.src, .int .i64 m.dst, .int .i64 m.piece]] ++ #[.pointer (some ⟨b0, 0, none⟩), .pointer (some ⟨b1, 0, none⟩), .pointer (some ⟨b2, 0, none⟩), .pointer (some ⟨b3, 0, none⟩)]) w fun e w' => e = .returned (.bool (ofT R p LL m == s)) ∧ Below w.heap.size w w' := by
 show Calls Tryz.prog 131 #[.agg #[.int .i64 m.src, .int .i64 m.dst, .int .i64 m.piece], .pointer (some ⟨b0, 0, none⟩), .pointer (some ⟨b1, 0, none⟩), .pointer (some ⟨b2, 0, none⟩), .pointer (some ⟨b3, 0, none⟩)] w _
 have HR := Lib.hid hr
 have HP := Lib.hid hp
 have HM := Lib.hid hl
 have HK := Lib.hid K
 have HLt := Lib.hid L
 have HLF := Lib.hid hlf
 have HOF := Lib.hid F
 obtain ⟨ac, cc, rfl, hc1, hc2⟩ := hp.form
 obtain ⟨al, cl, rfl, hl1, hl2⟩ := hl.form
 unfold maxLen at hc2 hl2
 have HX := Lib.hid B0
 have HY := Lib.hid B1
 have HZ := Lib.hid B2
 have HT := Lib.hid B3
 clear B0 B1 B2 B3 hr hp hl K L hlf F
 go_enter Tryz.func131, Tryz.ntmps131
 go_upto_region 1 with (fail)
 refine opn1 fun w0 hb0 hal hs_ => ?_
 clear hs_
 have Rz : Box w0.drew b0 [.string R.name, .int .i64 R.width, .int .i64 R.height, vp, vs, .bool R.falls, .bool R.keeps, ve, .int .i64 R.blocked, .int .i64 R.quiet, .int .i64 R.rept] 26 := (HX.out.stays hal).drew
 have Pz : Box w0.drew b1 [.slice ac p.cells.length cc, v0, v1, .int .i64 p.turn, .int .i64 p.quiet] 66 := (HY.out.stays hal).drew
 have Vz : Box w0.drew b2 [.slice al LL.length cl] 100 := (HZ.out.stays hal).drew
 have Tz : Box w0.drew b3 [.string s] 9 := (HT.out.stays hal).drew
 have Mz : Box w0.drew w.heap.size [.int .i64 m.src, .int .i64 m.dst, .int .i64 m.piece] 44 := hb0
 have Lz : Below w.heap.size w w0.drew := below_drew' hal
 clear hb0 hal HX HY HZ HT
 refine wp_region_noPanic ?_
 refine beginL (S := (fun w' => w'.cell? ⟨b0, 0, none⟩ = some (.string R.name) ∧ w'.cell? ⟨b0, 1, none⟩ = some (.int .i64 R.width) ∧ w'.cell? ⟨b0, 2, none⟩ = some (.int .i64 R.height) ∧ w'.cell? ⟨b0, 3, none⟩ = some vp ∧ w'.cell? ⟨b0, 4, none⟩ = some vs ∧ w'.cell? ⟨b0, 5, none⟩ = some (.bool R.falls) ∧ w'.cell? ⟨b0, 6, none⟩ = some (.bool R.keeps) ∧ w'.cell? ⟨b0, 7, none⟩ = some ve ∧ w'.cell? ⟨b0, 8, none⟩ = some (.int .i64 R.blocked) ∧ w'.cell? ⟨b0, 9, none⟩ = some (.int .i64 R.quiet) ∧ w'.cell? ⟨b0, 10, none⟩ = some (.int .i64 R.rept) ∧ w'.cell? ⟨b1, 0, none⟩ = some (.slice ac p.cells.length cc) ∧ w'.cell? ⟨b1, 1, none⟩ = some v0 ∧ w'.cell? ⟨b1, 2, none⟩ = some v1 ∧ w'.cell? ⟨b1, 3, none⟩ = some (.int .i64 p.turn) ∧ w'.cell? ⟨b1, 4, none⟩ = some (.int .i64 p.quiet) ∧ w'.cell? ⟨b2, 0, none⟩ = some (.slice al LL.length cl) ∧ w'.cell? ⟨b3, 0, none⟩ = some (.string s) ∧ w'.cell? ⟨w.heap.size, 0, none⟩ = some (.int .i64 m.src) ∧ w'.cell? ⟨w.heap.size, 1, none⟩ = some (.int .i64 m.dst) ∧ w'.cell? ⟨w.heap.size, 2, none⟩ = some (.int .i64 m.piece))) (L := []) (by kernel_rfl) (by and_intros <;> first | exact Rz.cell _ rfl | exact Pz.cell _ rfl | exact Vz.cell _ rfl | exact Tz.cell _ rfl | exact Mz.cell _ rfl) (fun hHeld => ?_)
 refine tkL 0 ?_
 refine tkL 1 ?_
 refine tkL 2 ?_
 refine tkL 3 ?_
 refine tkL 5 ?_
 refine cnL 4 fun K hK => ?_
 go_simp
 refine (Of_any R vp vs ve p _ v0 v1 m _ LL _ (HR.out.below Lz (Nat.le_refl _)) (HP.out.below Lz (Nat.le_refl _)) (HM.out.below Lz (Nat.le_refl _)) HK.out HLt.out HLF.out hll HOF.out).mono ?_
 rintro e w4 ⟨rfl, hb4⟩
 have R4 := Rz.stays hb4
 have P4 := Pz.stays hb4
 have V4 := Vz.stays hb4
 have T4 := Tz.stays hb4
 have M4 := Mz.stays hb4
 have L4 := below_trans Lz hb4 Lz.size
 clear hb4
 refine hK.out _ _ (by and_intros <;> first | exact R4.cell _ rfl | exact P4.cell _ rfl | exact V4.cell _ rfl | exact T4.cell _ rfl | exact M4.cell _ rfl) (fun hHeld => ?_)
 clear hK K
 refine tkW 6 ?_
 refine tkW 7 ?_
 refine dnN ?_
 have HL4 := Lib.hid L4
 clear hHeld R4 P4 V4 T4 M4 L4 Rz Pz Vz Tz Mz Lz
 go_wp2_with fail
 go_ret
 exact ⟨by rw [beq_toListBytes]; rfl, HL4.out⟩
theorem callRd1 (args : Array Value) (w : World) : (callFunc 131 args).run Tryz.prog w = .ok (.enter 131 args) w := by kernel_rfl
/-- the first move with a text. -/
def readI (R : RulesZ) (p : PosZ) (s : ByteArray) : Int := idxL (fun m => ofT R p (listZ R p) m == s) (listZ R p) 0
def readErr (R : RulesZ) (p : PosZ) (s : ByteArray) : Int := if posErr R p ≠ 0 then posErr R p else if readI R p s < 0 then 13 else 0
def readZ (R : RulesZ) (p : PosZ) (s : ByteArray) : MoveZ := if readErr R p s = 0 then (listZ R p).getD (readI R p s).toNat default else ⟨0, 0, 0⟩
theorem Read_any (HS : SortMvSaid) (R : RulesZ) (vp vs ve : Value) (p : PosZ) (vc v0 v1 : Value) (s : ByteArray) (w : World) (hr : RdR w R vp vs ve) (hnm : R.name.size ≤ maxLen) (hp : RdP w p vc v0 v1) :
  Calls Tryz.prog 102 #[(.agg #[.string R.name, .int .i64 R.width, .int .i64 R.height, vp, vs, .bool R.falls, .bool R.keeps, ve, .int .i64 R.blocked, .int .i64 R.quiet, .int .i64 R.rept]), (.agg #[vc, v0, v1, .int .i64 p.turn, .int .i64 p.quiet]), .string s] w fun e w' => e = .returned (.tuple #[.agg #[.int .i64 (readZ R p s).src, .int .i64 (readZ R p s).dst, .int .i64 (readZ R p s).piece], .int .i64 (readErr R p s)]) ∧ Below w.heap.size w w' := by
 have HD : Hid (readErr R p s = if posErr R p ≠ 0 then posErr R p else if readI R p s < 0 then 13 else 0) := Lib.hid rfl
 have HQ : Hid (readZ R p s = if readErr R p s = 0 then (listZ R p).getD (readI R p s).toNat default else ⟨0, 0, 0⟩) := Lib.hid rfl
 have HSh := Lib.hid HS
 have HR := Lib.hid hr
 have HN := Lib.hid hnm
 have HP := Lib.hid hp
 obtain ⟨ac, cc, rfl, hc1, hc2⟩ := hp.1.form
 unfold maxLen at hc2
 clear hr hnm hp HS
 go_enter Tryz.func102, Tryz.ntmps102
 go_upto_region 1 with (fail)
 refine opn4 fun w0 B0 B1 B2 B3 yb_ hs_ => ?_
 have HB := Lib.hid yb_
 have hz0 : w.heap.size + 1 + 1 + 1 < w0.heap.size := by omega
 clear hs_ yb_
 have HX := Lib.hid B0
 have HY := Lib.hid B1
 have HT := Lib.hid B2
 have HM := Lib.hid B3
 clear B0 B1 B2 B3
 refine wp_region_lit ?_
 refine wpList_load_box (by rfl) 26 (.tmp 3) (by rfl) (w.heap.size) (by rfl) HX.out Tryz.underlying26 (by rfl) (by kernel_rfl) ?_
 refine wpList_load_box (by rfl) 66 (.tmp 4) (by rfl) (w.heap.size + 1) (by rfl) HY.out Tryz.underlying66 (by rfl) (by kernel_rfl) ?_
 go_wp2_with fail
 refine (All_any HSh.out R vp vs ve p _ v0 v1 w0 (HR.out.below HB.out (Nat.le_refl _)) HN.out (HP.out.below HB.out (Nat.le_refl _))).mono ?_
 rintro e w1 ⟨va, rfl, ho1, hb1⟩
 have hl1 := below_trans HB.out hb1 HB.out.size
 have HX0 := Lib.hid (HX.out.below hb1 (by omega))
 have HY0 := Lib.hid (HY.out.below hb1 (by omega))
 have HT0 := Lib.hid (HT.out.below hb1 (by omega))
 have HM0 := Lib.hid (HM.out.below hb1 (by omega))
 obtain ⟨aa, ca, rfl⟩ := own_form2 ho1
 have hal := ((Below.refl w1.heap.size w1).alloc (Nat.le_refl _) (.cells #[.slice aa (allZ R p).length ca] 100))
 have HB1 := Lib.hid (below_trans hl1 hal hl1.size)
 have HX1 := Lib.hid (HX0.out.stays hal)
 have HY1 := Lib.hid (HY0.out.stays hal)
 have HT1 := Lib.hid (HT0.out.stays hal)
 have HM1 := Lib.hid (HM0.out.stays hal)
 have HV1 := Lib.hid (Box.new w1 [.slice aa (allZ R p).length ca] 100)
 have HO1 := Lib.hid (own_stays ho1 hal)
 have hzb : w.heap.size + 1 + 1 + 1 < w1.heap.size := HM0.out.lt
 clear hb1 hl1 HX HY HT HM ho1 HX0 HY0 HT0 HM0 hal hz0
 go_upto_region 2 with (fail)
 obtain ⟨bl, hbl⟩ : ∃ bl, bl = w1.heap.size := ⟨_, rfl⟩
 rw [← hbl] at HV1 hzb ⊢
 clear hbl
 generalize (w1.alloc (.cells #[.slice aa (allZ R p).length ca] 100)) = w2 at *
 by_cases he : posErr R p = 0
 rotate_left
 ·have hE : readErr R p s = posErr R p := by rw [HD.out, if_pos he]
  have HE := Lib.hid hE
  have HG : Hid (readZ R p s = ⟨0, 0, 0⟩) := Lib.hid (by rw [HQ.out, hE, if_neg he])
  have heb : (posErr R p != 0) = true := by simpa using he
  clear hE he HD HQ HV1 HO1
  go_wp2_with (refine wpList_store_box (vs := [.int .i64 0, .int .i64 0, .int .i64 0]) (by rfl) 44 (.tmp 6) (.tmp 19) (by rfl) (w.heap.size + 1 + 1 + 1) (by rfl) (by rfl) HM1.out rfl (by kernel_rfl) (by rfl) ?_)
  exact bodyPost_ret (results_box rfl (by rfl) (by rfl) (HM1.out.store rfl) Tryz.underlying44 (by rfl) (by kernel_rfl)) rfl ⟨by rw [HE.out, HG.out]; rfl, below_setCells HB1.out (by omega) 0 _⟩
 have HZE := Lib.hid he
 have HK := Lib.hid (pok_of he)
 have HLt := Lib.hid (let_ok (R := R) (by unfold posErr at he; by_cases q : rulesErr R = 0; exact q; rw [if_pos q] at he; exact he))
 have HAL : Hid (allZ R p = listZ R p) := Lib.hid (by unfold allZ; rw [if_pos he])
 rw [HAL.out] at HO1 HV1
 rw [HAL.out, he]
 have HL1 := Lib.hid (rdM_of_own HO1.out)
 have HLF : Hid (∀ x ∈ listZ R p, x.src < p.cells.length) := Lib.hid (fun x hx => (fits_of HK.out hx).s.2)
 have hll : (listZ R p).length ≤ 10000 := list_len' HK.out
 have HOk : Hid (∀ x ∈ listZ R p, OfOk R p x) := Lib.hid (fun x hx => ofOk_of HK.out hx)
 have HD1 : Hid (readErr R p s = if readI R p s < 0 then 13 else 0) := Lib.hid (by rw [HD.out, if_neg (by simp [he])])
 have HIR := Lib.hid (idxL_range (fun m => ofT R p (listZ R p) m == s) (listZ R p) 0 (by omega))
 have HI := Lib.hid (IndexFunc_mt (.slice aa (listZ R p).length ca) (listZ R p) (fun m => ofT R p (listZ R p) m == s) 131 #[.pointer (some ⟨w.heap.size, 0, none⟩), .pointer (some ⟨w.heap.size + 1, 0, none⟩), .pointer (some ⟨bl, 0, none⟩), .pointer (some ⟨w.heap.size + 1 + 1, 0, none⟩)] w2 HL1.out callRd1 (fun W x cs hx hE hW => by
  simp only [moveEl] at hE
  subst hE
  exact read1_any R vp vs ve p _ v0 v1 _ (listZ R p) s x _ _ _ _ W (HX1.out.stays hW) (HY1.out.stays hW) (HV1.out.stays hW) (HT1.out.stays hW) ((HR.out.1.below HB1.out (Nat.le_refl _)).below hW (by have := HB1.out.size; omega)) ((HP.out.1.below HB1.out (Nat.le_refl _)).below hW (by have := HB1.out.size; omega)) (HL1.out.below hW (Nat.le_refl _)) HK.out HLt.out HLF.out (by omega) (HOk.out x hx)))
 have HRI : Hid (idxL (fun m => ofT R p (listZ R p) m == s) (listZ R p) 0 = readI R p s) := Lib.hid rfl
 rw [HRI.out] at HI HIR
 clear he HAL HO1 HD HRI
 have d0 := HV1.out.cell 0 rfl
 generalize readI R p s = ri at *
 generalize listZ R p = LL at *
 go_wp2_with fail
 refine HI.out.mono ?_
 rintro e w3 ⟨rfl, hb3⟩
 have HB3 := Lib.hid (below_trans HB1.out hb3 HB1.out.size)
 have HM3 := Lib.hid (HM1.out.stays hb3)
 have HV3 := Lib.hid (HV1.out.stays hb3)
 have HL3 := Lib.hid (HL1.out.below hb3 (Nat.le_refl _))
 clear hb3 HI HB1 HX1 HY1 HT1 HM1 HV1 d0 HL1
 have hir := HIR.out
 by_cases hneg : ri < 0
 ·have hE : readErr R p s = 13 := by rw [HD1.out, if_pos hneg]
  have HE := Lib.hid hE
  have HG : Hid (readZ R p s = ⟨0, 0, 0⟩) := Lib.hid (by rw [HQ.out, hE]; rfl)
  clear hE HD1 HQ hir
  go_wp2_with (refine wpList_store_box (vs := [.int .i64 0, .int .i64 0, .int .i64 0]) (by rfl) 44 (.tmp 6) (.tmp 26) (by rfl) (w.heap.size + 1 + 1 + 1) (by rfl) (by rfl) HM3.out rfl (by kernel_rfl) (by rfl) ?_)
  exact bodyPost_ret (results_box rfl (by rfl) (by rfl) (HM3.out.store rfl) Tryz.underlying44 (by rfl) (by kernel_rfl)) rfl ⟨by rw [HE.out, HG.out]; rfl, below_setCells HB3.out (by omega) 0 _⟩
 have hE : readErr R p s = 0 := by rw [HD1.out, if_neg hneg]
 have HE := Lib.hid hE
 have HG : Hid (readZ R p s = LL.getD ri.toNat default) := Lib.hid (by rw [HQ.out, if_pos hE])
 have hrl : 0 ≤ ri ∧ ri < LL.length := by omega
 obtain ⟨hr0, hr1⟩ := hrl
 obtain ⟨gl, ol, ha, hgl, hcc⟩ := moves_some HL3.out (by omega)
 subst ha
 obtain ⟨c0, c1, c2⟩ := hcc ri.toNat (by omega)
 have d0 := HV3.out.cell 0 rfl
 clear hcc hE HD1 HQ hir
 generalize LL.getD ri.toNat default = x at *
 go_wp2_with (refine wpList_store_box (vs := [.int .i64 x.src, .int .i64 x.dst, .int .i64 x.piece]) (by rfl) 44 (.tmp 6) (.tmp 30) (by rfl) (w.heap.size + 1 + 1 + 1) (by rfl) (by rfl) HM3.out rfl (by kernel_rfl) (by rfl) ?_)
 exact bodyPost_ret (results_box rfl (by rfl) (by rfl) (HM3.out.store rfl) Tryz.underlying44 (by rfl) (by kernel_rfl)) rfl ⟨by rw [HE.out, HG.out]; rfl, below_setCells HB3.out (by omega) 0 _⟩
end Go.Proofs.YthklhndcdijneaaGreatDoor
namespace Go.Proofs.YthklhndcdijneaaGreatDoor
open Go.ChangeShapes Go.WideShapes Go.ChangeAt Go.RowKit
set_option linter.unusedVariables false
abbrev Byt := List UInt8
def bs (l : Byt) : ByteArray := ⟨l.toArray⟩
def isBl (c : UInt8) : Bool := c == 32 || c == 10
def isDl (c : UInt8) : Bool := c == 32 || c == 10 || c == 40 || c == 41 || c == 123 || c == 125
inductive Lex where
 | word (b : Byt)
 | cmt (b : Byt)
 | opn
 | cls
def Lex.byt : Lex → Byt
 | .word b => b
 | .cmt b => 123 :: (b ++ [125])
 | .opn => [40]
 | .cls => [41]
/-- what a lexeme may be. -/
def Lex.ok : Lex → Prop
 | .word b => b ≠ [] ∧ ∀ c ∈ b, isDl c = false
 | .cmt b => b ≠ [] ∧ ∀ c ∈ b, c ≠ 125
 | _ => True
def Lex.isWord : Lex → Bool
 | .word _ => true
 | _ => false
/-- a text with these lexemes, blanks between them. -/
inductive Ren : List Lex → Byt → Prop where
 | nil (b : Byt) (hb : ∀ c ∈ b, isBl c = true) : Ren [] b
 | cons (x : Lex) (l : List Lex) (b s : Byt) (hb : ∀ c ∈ b, isBl c = true) (hx : x.ok) (h : Ren l s) (hw : x.isWord = true → ∀ c t, s = c :: t → isDl c = true) : Ren (x :: l) (b ++ (x.byt ++ s))
def blank (l : Byt) : Byt := l.dropWhile isBl
def got (c : UInt8) (l : Byt) : Bool × Byt :=
 match blank l with
 | [] => (false, [])
 | x :: t => if x = c then (true, t) else (false, x :: t)
def wordB (l : Byt) : Byt := l.takeWhile fun c => !isDl c
theorem drop_all {p : UInt8 → Bool} : ∀ (b s : Byt), (∀ c ∈ b, p c = true) → (b ++ s).dropWhile p = s.dropWhile p
 | [], s, _ => rfl
 | c :: b, s, h => by
  rw [List.cons_append, List.dropWhile_cons_of_pos (h c (List.mem_cons_self ..))]
  exact drop_all b s (fun d hd => h d (List.mem_cons_of_mem _ hd))
theorem blank_bl {b : Byt} (h : ∀ c ∈ b, isBl c = true) : blank b = [] := by
 have := drop_all (p := isBl) b [] h
 rw [List.append_nil] at this
 exact this
theorem dl_of_bl {c : UInt8} (h : isBl c = true) : isDl c = true := by
 unfold isBl at h
 unfold isDl
 rw [h]; rfl
theorem head_ok {x : Lex} (hx : x.ok) : ∃ c t, x.byt = c :: t ∧ isBl c = false := by
 cases x with
 | word b =>
  obtain ⟨h1, h2⟩ := hx
  cases b with
  | nil => exact absurd rfl h1
  | cons c t =>
   refine ⟨c, t, rfl, ?_⟩
   have := h2 c (List.mem_cons_self ..)
   cases hb : isBl c with
   | false => rfl
   | true => rw [dl_of_bl hb] at this; cases this
 | cmt b => exact ⟨_, _, rfl, rfl⟩
 | opn => exact ⟨_, _, rfl, rfl⟩
 | cls => exact ⟨_, _, rfl, rfl⟩
/-- the text from a lexeme on. -/
theorem ren_blank {x : Lex} {l : List Lex} {t : Byt} (h : Ren (x :: l) t) : ∃ s, blank t = x.byt ++ s ∧ Ren l s ∧ x.ok ∧ (x.isWord = true → ∀ c t, s = c :: t → isDl c = true) := by
 cases h with
 | cons _ _ b s hb hx h hw =>
  refine ⟨s, ?_, h, hx, hw⟩
  unfold blank
  rw [drop_all b _ hb]
  obtain ⟨c, u, hc, hcb⟩ := head_ok hx
  rw [hc, List.cons_append, List.dropWhile_cons_of_neg (by rw [hcb]; simp)]
theorem ren_blank_self {x : Lex} {l : List Lex} {t : Byt} (h : Ren (x :: l) t) : Ren (x :: l) (blank t) := by
 obtain ⟨s, h1, h2, h3, h4⟩ := ren_blank h
 rw [h1]
 exact .cons x l [] s (fun c hc => (List.not_mem_nil hc).elim) h3 h2 h4
theorem blank_idem (t : Byt) : blank (blank t) = blank t := by
 unfold blank
 induction t with
 | nil => rfl
 | cons c t ih =>
  cases hc : isBl c with
  | true => rw [List.dropWhile_cons_of_pos hc]; exact ih
  | false => rw [List.dropWhile_cons_of_neg (by rw [hc]; simp), List.dropWhile_cons_of_neg (by rw [hc]; simp)]
theorem word_take {b s : Byt} (hb : ∀ c ∈ b, isDl c = false) (hs : ∀ c t, s = c :: t → isDl c = true) : wordB (b ++ s) = b := by
 unfold wordB
 induction b with
 | nil =>
  cases s with
  | nil => rfl
  | cons c t => rw [List.nil_append, List.takeWhile_cons_of_neg (by rw [hs c t rfl]; simp)]
 | cons c b ih =>
  rw [List.cons_append, List.takeWhile_cons_of_pos (by rw [hb c (List.mem_cons_self ..)]; rfl), ih (fun d hd => hb d (List.mem_cons_of_mem _ hd))]
theorem ren_word {b : Byt} {l : List Lex} {t : Byt} (h : Ren (.word b :: l) t) : wordB (blank t) = b ∧ ∃ s, blank t = b ++ s ∧ Ren l s := by
 obtain ⟨s, h1, h2, h3, h4⟩ := ren_blank h
 rw [h1]
 exact ⟨word_take h3.2 (h4 rfl), s, rfl, h2⟩
theorem ren_dl {x : Lex} {l : List Lex} {t : Byt} (h : Ren (x :: l) t) (hx : x.isWord = false) : wordB (blank t) = [] := by
 obtain ⟨s, h1, -, -, -⟩ := ren_blank h
 rw [h1]
 cases x with
 | word b => cases hx
 | cmt b => rfl
 | opn => rfl
 | cls => rfl
theorem ren_nil {t : Byt} (h : Ren [] t) : blank t = [] := by
 cases h with
 | nil _ hb => exact blank_bl hb
theorem got_opn {l : List Lex} {t : Byt} (h : Ren (.opn :: l) t) : ∃ s, got 40 t = (true, s) ∧ Ren l s := by
 obtain ⟨s, h1, h2, -, -⟩ := ren_blank h
 exact ⟨s, by unfold got; rw [h1]; rfl, h2⟩
theorem got_cls {l : List Lex} {t : Byt} (h : Ren (.cls :: l) t) : ∃ s, got 41 t = (true, s) ∧ Ren l s := by
 obtain ⟨s, h1, h2, -, -⟩ := ren_blank h
 exact ⟨s, by unfold got; rw [h1]; rfl, h2⟩
theorem got_cmt {b : Byt} {l : List Lex} {t : Byt} (h : Ren (.cmt b :: l) t) : ∃ s, got 123 t = (true, b ++ 125 :: s) ∧ Ren l s ∧ b ≠ [] ∧ ∀ c ∈ b, c ≠ 125 := by
 obtain ⟨s, h1, h2, h3, -⟩ := ren_blank h
 refine ⟨s, ?_, h2, h3.1, h3.2⟩
 unfold got
 rw [h1]
 show (if (123 : UInt8) = 123 then _ else _) = _
 rw [if_pos rfl]
 simp
/-- another lexeme is next. -/
theorem got_not {c : UInt8} {x : Lex} {l : List Lex} {t : Byt} (h : Ren (x :: l) t) (hc : ∀ d u, x.byt = d :: u → d ≠ c) : got c t = (false, blank t) := by
 obtain ⟨s, h1, -, h3, -⟩ := ren_blank h
 obtain ⟨d, u, hd, -⟩ := head_ok h3
 unfold got
 rw [h1, hd]
 show (if d = c then _ else _) = _
 rw [if_neg (hc d u hd)]
 rfl
end Go.Proofs.YthklhndcdijneaaGreatDoor

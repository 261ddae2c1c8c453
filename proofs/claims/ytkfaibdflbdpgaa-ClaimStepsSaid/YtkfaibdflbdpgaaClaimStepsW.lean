/- The walk of the law ClaimSteps. -/
import Derived.Test.YtkfaibdflbdpgaaClaimP
import Derived.Test.YtkfaibdflbdpgaaOpenV
import Derived.Test.YtkfaibdflbdpgaaFrame
namespace Go.Proofs.Ytkfaibdflbdpgaa.claimSteps
open Go.ChangeShapes Go.WideShapes Go.ChangeAt Go.RowKit
set_option linter.unusedVariables false

set_option maxRecDepth 100000 in
set_option maxHeartbeats 8000000 in
theorem walk (HS : SortMvSaid) (R : RulesZ) (vp vs ve : Value) (v : Value) (l0 : List MoveZ) (w : World) (hr : RdR w R vp vs ve) (hnm : R.name.size ≤ maxLen) (h : RdL moveEl w v l0) :
    Calls Try.prog 5 #[(.agg #[.string R.name, .int .i64 R.width, .int .i64 R.height, vp, vs, .bool R.falls, .bool R.keeps, ve, .int .i64 R.blocked, .int .i64 R.quiet, .int .i64 R.rept]), v] w fun e w' => e = .returned (.bool true) ∧ Below w.heap.size w w' := by
  have HSh := Lib.hid HS
  have HR := Lib.hid hr
  have HN := Lib.hid hnm
  have HL := Lib.hid h
  clear h HS hr hnm
  go_enter Try.func5, Try.ntmps5
  go_upto_region 1 with (fail)
  have B0 : Box (w.alloc (.cells #[.string R.name, .int .i64 R.width, .int .i64 R.height, vp, vs, .bool R.falls, .bool R.keeps, ve, .int .i64 R.blocked, .int .i64 R.quiet, .int .i64 R.rept] 26)) (w.heap.size) [.string R.name, .int .i64 R.width, .int .i64 R.height, vp, vs, .bool R.falls, .bool R.keeps, ve, .int .i64 R.blocked, .int .i64 R.quiet, .int .i64 R.rept] 26 := (Box.new' w (w.heap.size) [.string R.name, .int .i64 R.width, .int .i64 R.height, vp, vs, .bool R.falls, .bool R.keeps, ve, .int .i64 R.blocked, .int .i64 R.quiet, .int .i64 R.rept] 26 (by simp <;> omega))
  have HB : Hid (Below w.heap.size w (w.alloc (.cells #[.string R.name, .int .i64 R.width, .int .i64 R.height, vp, vs, .bool R.falls, .bool R.keeps, ve, .int .i64 R.blocked, .int .i64 R.quiet, .int .i64 R.rept] 26))) := Lib.hid ((Below.refl w.heap.size w).alloc (Nat.le_refl _) _)
  have hz0 : w.heap.size < (w.alloc (.cells #[.string R.name, .int .i64 R.width, .int .i64 R.height, vp, vs, .bool R.falls, .bool R.keeps, ve, .int .i64 R.blocked, .int .i64 R.quiet, .int .i64 R.rept] 26)).heap.size := by simp
  generalize (w.alloc (.cells #[.string R.name, .int .i64 R.width, .int .i64 R.height, vp, vs, .bool R.falls, .bool R.keeps, ve, .int .i64 R.blocked, .int .i64 R.quiet, .int .i64 R.rept] 26)) = w0 at *
  have HRw := Lib.hid (HR.out.below HB.out (Nat.le_refl _))
  have HLw := Lib.hid (HL.out.below HB.out (Nat.le_refl _))
  have HX0 := Lib.hid B0
  clear B0
  go_wp2_with fail
  refine (claims_any HSh.out w0).mono ?_
  rintro e w1 ⟨rfl, hb1⟩
  have HB1 := Lib.hid (below_trans HB.out hb1 HB.out.size)
  have HX1 := Lib.hid (HX0.out.stays hb1)
  have HL1 := Lib.hid (HLw.out.below hb1 (Nat.le_refl _))
  clear hb1 HX0 HLw HRw HL HB hz0
  go_wp2_with fail
  refine (cut_any v l0 w1 HL1.out).mono ?_
  rintro e w2 ⟨rfl, v2, rfl, hl2⟩
  obtain ⟨l, hl⟩ : ∃ l, l = l0.take 40 := ⟨_, rfl⟩
  have hl40 : l.length ≤ 40 := by rw [hl, List.length_take]; omega
  rw [← hl] at hl2
  obtain ⟨a, c, rfl, h1, h2⟩ := hl2.form
  unfold maxLen at h2
  have HL2 := Lib.hid hl2
  clear hl hl2 HL1
  go_upto_region 4 with (fail)
  refine wp_region_lit ?_
  refine wpList_load_box (by rfl) 26 (.tmp 2) (by rfl) w.heap.size (by rfl) HX1.out Try.underlying26 (by rfl) (by kernel_rfl) ?_
  go_wp2_with fail
  refine (great_anyG R vp vs ve w2 (HR.out.2.1.below HB1.out (Nat.le_refl _))).mono ?_
  rintro e w3 ⟨rfl, hb3⟩
  have HB3 := Lib.hid (below_trans HB1.out hb3 HB1.out.size)
  have HX3 := Lib.hid (HX1.out.stays hb3)
  have HL3 := Lib.hid (HL2.out.below hb3 (Nat.le_refl _))
  clear hb3 HX1 HL2 HB1
  generalize decide (20 < (R.start.length : Int)) = gr at *
  cases gr
  rotate_left
  · go_wp2_with fail
    go_ret
    exact ⟨rfl, HB3.out⟩
  by_cases h0 : l.length = 0
  · have h0b : ((l.length : Int) == 0) = true := by simp [h0]
    clear h0
    go_wp2_with fail
    go_ret
    exact ⟨rfl, HB3.out⟩
  have h0b : ((l.length : Int) == 0) = false := by simp; intro e; exact h0 (by rw [e]; rfl)
  obtain ⟨n, hn⟩ : ∃ n, l.length = n + 1 := ⟨l.length - 1, by omega⟩
  have hnn : l.length - 1 = n := by omega
  have hwn : IntKind.i64.wrap ((l.length : Int) - 1) = (n : Int) := by rw [hn, Int.natCast_succ, Int.add_sub_cancel]; exact IntWalk.i64_in _ (by omega)
  have hsl : ∀ w' : World, (Instr.slice 32 (.slice a l.length c) none (some (.int .i64 (n : Int))) none).run Try.prog w' = .ok (.slice a n c) w' := fun w' =>
    run_take (P := Try.prog) (t := 32) (s := 3) Try.underlying32 (fun w => by kernel_rfl) a l.length c n (by omega) w'
  have HNL := Lib.hid hn
  have hnl : n < l.length := by omega
  clear h0 hn
  go_upto_region 6 with (fail)
  generalize w3 = wq at *
  have Bz : Box wq.drew w.heap.size [.string R.name, .int .i64 R.width, .int .i64 R.height, vp, vs, .bool R.falls, .bool R.keeps, ve, .int .i64 R.blocked, .int .i64 R.quiet, .int .i64 R.rept] 26 := HX3.out
  have Lz : Below w.heap.size w wq.drew := below_drew' HB3.out
  have Rlz : RdL moveEl wq.drew (.slice a l.length c) l := HL3.out.below (below_drew' (Below.refl _ _)) (Nat.le_refl _)
  clear HX3 HB3 HL3 h0b
  refine wp_region_noPanic ?_
  refine beginL (S := (fun w' => w'.cell? ⟨w.heap.size, 0, none⟩ = some (.string R.name) ∧ w'.cell? ⟨w.heap.size, 1, none⟩ = some (.int .i64 R.width) ∧ w'.cell? ⟨w.heap.size, 2, none⟩ = some (.int .i64 R.height) ∧ w'.cell? ⟨w.heap.size, 3, none⟩ = some vp ∧ w'.cell? ⟨w.heap.size, 4, none⟩ = some vs ∧ w'.cell? ⟨w.heap.size, 5, none⟩ = some (.bool R.falls) ∧ w'.cell? ⟨w.heap.size, 6, none⟩ = some (.bool R.keeps) ∧ w'.cell? ⟨w.heap.size, 7, none⟩ = some ve ∧ w'.cell? ⟨w.heap.size, 8, none⟩ = some (.int .i64 R.blocked) ∧ w'.cell? ⟨w.heap.size, 9, none⟩ = some (.int .i64 R.quiet) ∧ w'.cell? ⟨w.heap.size, 10, none⟩ = some (.int .i64 R.rept))) (L := []) (by kernel_rfl) ⟨Bz.cell 0 rfl, Bz.cell 1 rfl, Bz.cell 2 rfl, Bz.cell 3 rfl, Bz.cell 4 rfl, Bz.cell 5 rfl, Bz.cell 6 rfl, Bz.cell 7 rfl, Bz.cell 8 rfl, Bz.cell 9 rfl, Bz.cell 10 rfl⟩ (fun hHeld => ?_)
  refine takeL (i := 0) (oi := { dst := some 23, op := Op.load 26 (Operand.tmp 2), type := 26, pos := "play.go:198", after := #[], guard := none }) (v := ?va1) rfl (by kernel_rfl) (by kernel_rfl) (by kernel_rfl) (by kernel_rfl) rfl (by kernel_rfl) (by kernel_rfl) (fun _ _ _ h => h) (Or.inl ⟨by rfl, ?ya1⟩) (by assumption) ?ra1
  case ya1 => (intro w hSw; (try dsimp only at hSw); go_simp; first | done | (with_reducible rfl))
  try simp only [Act.put, List.setIfInBounds_toArray, List.set_cons_zero, List.set_cons_succ]
  refine takeW (i := 1) (oi := { dst := some 24, op := Op.move (Operand.tmp 1), type := 32, pos := "play.go:198", after := #[], guard := none }) (v := ?va2) rfl (by kernel_rfl) (by kernel_rfl) (by kernel_rfl) rfl (fun _ _ _ h => h) (Or.inl ⟨by rfl, ?ya2⟩) (fun _ => by assumption) ?ra2
  case ya2 => (intro w _; go_simp; first | done | (with_reducible rfl))
  try simp only [Act.put, List.setIfInBounds_toArray, List.set_cons_zero, List.set_cons_succ]
  refine takeW (i := 2) (oi := { dst := some 25, op := Op.move (Operand.tmp 1), type := 32, pos := "play.go:198", after := #[], guard := none }) (v := ?va3) rfl (by kernel_rfl) (by kernel_rfl) (by kernel_rfl) rfl (fun _ _ _ h => h) (Or.inl ⟨by rfl, ?ya3⟩) (fun _ => by assumption) ?ra3
  case ya3 => (intro w _; go_simp; first | done | (with_reducible rfl))
  try simp only [Act.put, List.setIfInBounds_toArray, List.set_cons_zero, List.set_cons_succ]
  refine takeW (i := 3) (oi := { dst := some 26, op := Op.call { callee := Callee.builtin Builtin.len, args := #[Operand.tmp 25], argTypes := #[32] }, type := 3, pos := "play.go:198", after := #[{ on := 2, ground := Ground.data }], guard := none }) (v := ?va4) rfl (by kernel_rfl) (by kernel_rfl) (by kernel_rfl) rfl (fun _ _ _ h => h) (Or.inl ⟨by rfl, ?ya4⟩) (fun _ => by assumption) ?ra4
  case ya4 => (intro w _; go_simp; first | done | (with_reducible rfl))
  try simp only [Act.put, List.setIfInBounds_toArray, List.set_cons_zero, List.set_cons_succ]
  refine takeW (i := 4) (oi := { dst := some 27, op := Op.binOp BinOp.sub 3 (Operand.tmp 26) (Operand.const (Value.int IntKind.i64 1)) 3, type := 3, pos := "play.go:198", after := #[{ on := 3, ground := Ground.data }], guard := none }) (v := ?va5) rfl (by kernel_rfl) (by kernel_rfl) (by kernel_rfl) rfl (fun _ _ _ h => h) (Or.inl ⟨by rfl, ?ya5⟩) (fun _ => by assumption) ?ra5
  case ya5 => (intro w _; go_simp; first | done | (with_reducible rfl))
  try simp only [Act.put, List.setIfInBounds_toArray, List.set_cons_zero, List.set_cons_succ]
  refine takeW (i := 5) (oi := { dst := some 28, op := Op.slice 32 (Operand.tmp 24) none (some (Operand.tmp 27)) none, type := 32, pos := "play.go:198", after := #[{ on := 1, ground := Ground.data }, { on := 4, ground := Ground.data }], guard := none }) (v := ?va6) rfl (by kernel_rfl) (by kernel_rfl) (by kernel_rfl) rfl (fun _ _ _ h => h) (Or.inl ⟨by rfl, ?ya6⟩) (fun _ => by assumption) ?ra6
  case ya6 => (intro w _; go_simp; first | done | (with_reducible rfl))
  try simp only [Act.put, List.setIfInBounds_toArray, List.set_cons_zero, List.set_cons_succ]
  refine readyL (rs := [6]) (by kernel_rfl) (by simp) ?_
  refine (AllReadyL.cons (o := { dst := some 29, op := Op.call { callee := Callee.value (Operand.func 34), args := #[Operand.tmp 23, Operand.tmp 28], argTypes := #[26, 32] }, type := 59, pos := "play.go:198", after := #[{ on := 0, ground := Ground.data }, { on := 5, ground := Ground.data }], guard := none }) rfl (fun K hK => ?_) AllReadyL.nil)
  go_simp
  refine (Quiet_any HSh.out R vp vs ve _ (l.take n) _ (HR.out.below Lz (Nat.le_refl _)) HN.out (Rlz.take n (by omega))).mono ?_
  rintro e w6 ⟨rfl, hb6⟩
  have B6 := Bz.stays hb6
  have L6 := below_trans Lz hb6 Lz.size
  have R6 := Rlz.below hb6 (Nat.le_refl _)
  clear hb6
  refine hK.out _ _ ⟨B6.cell 0 rfl, B6.cell 1 rfl, B6.cell 2 rfl, B6.cell 3 rfl, B6.cell 4 rfl, B6.cell 5 rfl, B6.cell 6 rfl, B6.cell 7 rfl, B6.cell 8 rfl, B6.cell 9 rfl, B6.cell 10 rfl⟩ (fun hHeld => ?_)
  clear hK K
  try simp only [Act.put, List.setIfInBounds_toArray, List.set_cons_zero, List.set_cons_succ]
  refine takeW (i := 7) (oi := { dst := some 22, op := Op.move (Operand.tmp 29), type := 59, pos := "play.go:198", after := #[{ on := 6, ground := Ground.data }], guard := none }) (v := ?va7) rfl (by kernel_rfl) (by kernel_rfl) (by kernel_rfl) rfl (fun _ _ _ h => h) (Or.inl ⟨by rfl, ?ya7⟩) (fun _ => by assumption) ?ra7
  case ya7 => (intro w _; go_simp; first | done | (with_reducible rfl))
  try simp only [Act.put, List.setIfInBounds_toArray, List.set_cons_zero, List.set_cons_succ]
  refine takeW (i := 8) (oi := { dst := some 30, op := Op.extract (Operand.tmp 22) 0, type := 3, pos := "play.go:198", after := #[{ on := 7, ground := Ground.data }], guard := none }) (v := ?va8) rfl (by kernel_rfl) (by kernel_rfl) (by kernel_rfl) rfl (fun _ _ _ h => h) (Or.inl ⟨by rfl, ?ya8⟩) (fun _ => by assumption) ?ra8
  case ya8 => (intro w _; go_simp; first | done | (with_reducible rfl))
  try simp only [Act.put, List.setIfInBounds_toArray, List.set_cons_zero, List.set_cons_succ]
  refine takeW (i := 9) (oi := { dst := some 31, op := Op.extract (Operand.tmp 22) 1, type := 29, pos := "play.go:198", after := #[{ on := 7, ground := Ground.data }, { on := 10, ground := Ground.gcOnly Departure.lateStores }], guard := none }) (v := ?va9) rfl (by kernel_rfl) (by kernel_rfl) (by kernel_rfl) rfl (fun _ _ _ h => h) (Or.inl ⟨by rfl, ?ya9⟩) (fun _ => by assumption) ?ra9
  case ya9 => (intro w _; go_simp; first | done | (with_reducible rfl))
  try simp only [Act.put, List.setIfInBounds_toArray, List.set_cons_zero, List.set_cons_succ]
  refine takeW (i := 10) (oi := { dst := some 5, op := Op.assign (Operand.tmp 30), type := 3, pos := "play.go:198", after := #[{ on := 8, ground := Ground.data }, { on := 6, ground := Ground.chain }, { on := 0, ground := Ground.phase }, { on := 1, ground := Ground.phase }, { on := 2, ground := Ground.phase }, { on := 3, ground := Ground.phase }, { on := 4, ground := Ground.phase }, { on := 5, ground := Ground.phase }, { on := 6, ground := Ground.phase }, { on := 7, ground := Ground.phase }, { on := 8, ground := Ground.phase }, { on := 9, ground := Ground.textOnly Departure.lateStores }], guard := none }) (v := ?va10) rfl (by kernel_rfl) (by kernel_rfl) (by kernel_rfl) rfl (fun _ _ _ h => h) (Or.inl ⟨by rfl, ?ya10⟩) (fun _ => by assumption) ?ra10
  case ya10 => (intro w _; go_simp; first | done | (with_reducible rfl))
  try simp only [Act.put, List.setIfInBounds_toArray, List.set_cons_zero, List.set_cons_succ]
  refine takeW (i := 11) (oi := { dst := some 6, op := Op.assign (Operand.tmp 31), type := 29, pos := "play.go:198", after := #[{ on := 9, ground := Ground.data }, { on := 10, ground := Ground.chain }, { on := 0, ground := Ground.phase }, { on := 1, ground := Ground.phase }, { on := 2, ground := Ground.phase }, { on := 3, ground := Ground.phase }, { on := 4, ground := Ground.phase }, { on := 5, ground := Ground.phase }, { on := 6, ground := Ground.phase }, { on := 7, ground := Ground.phase }, { on := 8, ground := Ground.phase }, { on := 9, ground := Ground.phase }, { on := 10, ground := Ground.phase }], guard := none }) (v := ?va11) rfl (by kernel_rfl) (by kernel_rfl) (by kernel_rfl) rfl (fun _ _ _ h => h) (Or.inl ⟨by rfl, ?ya11⟩) (fun _ => by assumption) ?ra11
  case ya11 => (intro w _; go_simp; first | done | (with_reducible rfl))
  try simp only [Act.put, List.setIfInBounds_toArray, List.set_cons_zero, List.set_cons_succ]
  refine doneL (by kernel_rfl) ?_ _
  refine NoPanic.normal ?_
  have HB6 := Lib.hid B6
  have HL6 := Lib.hid L6
  have HR6 := Lib.hid R6
  clear B6 L6 R6 Bz Lz Rlz hHeld
  go_upto_region 7 with (fail)
  refine wp_region_lit ?_
  refine wpList_load_box (by rfl) 26 (.tmp 2) (by rfl) w.heap.size (by rfl) HB6.out Try.underlying26 (by rfl) (by kernel_rfl) ?_
  go_wp2_with fail
  refine (Quiet_any HSh.out R vp vs ve _ l w6 (HR.out.below HL6.out (Nat.le_refl _)) HN.out HR6.out).mono ?_
  rintro e w7 ⟨rfl, hb7⟩
  have HB7 := Lib.hid (HB6.out.stays hb7)
  have HL7 := Lib.hid (below_trans HL6.out hb7 HL6.out.size)
  have HR7 := Lib.hid (HR6.out.below hb7 (Nat.le_refl _))
  clear hb7 HB6 HL6 HR6
  go_upto_region 8 with (fail)
  refine wp_region_lit ?_
  refine wpList_load_box (by rfl) 26 (.tmp 2) (by rfl) w.heap.size (by rfl) HB7.out Try.underlying26 (by rfl) (by kernel_rfl) ?_
  go_wp2_with fail
  refine (Repeats_any HSh.out R vp vs ve _ l w7 (HR.out.below HL7.out (Nat.le_refl _)) HN.out HR7.out).mono ?_
  rintro e w8 ⟨rfl, hb8⟩
  have HB8 := Lib.hid (HB7.out.stays hb8)
  have HL8 := Lib.hid (below_trans HL7.out hb8 HL7.out.size)
  clear hb8 HB7 HL7 HR7
  by_cases hf : runErr R l = 0
  rotate_left
  · have hq : quietZ R l = 0 := by unfold quietZ; rw [if_neg hf]
    rw [hq]
    have hfb : (runErr R l != 0) = true := by simpa using hf
    clear hf hq
    go_wp2_with fail
    go_ret
    exact ⟨rfl, HL8.out⟩
  obtain ⟨e0, e1, e2, e3, e4, e5, e6, e7⟩ := claim_steps hl40 (by omega) hf
  rw [hnn] at e0 e1 e6 e7
  rw [e0, hf]
  generalize quietZ R (l.take n) = qa at *
  generalize quietZ R l = qb at *
  generalize repZ R l = rn at *
  have hw1 : IntKind.i64.wrap (qa + 1) = qa + 1 := IntWalk.i64_in _ (by omega)
  have hh3 : Int.tdiv qb 2 = qb / 2 := Int.tdiv_eq_ediv_of_nonneg e4
  have hw2 : IntKind.i64.wrap (qb / 2) = qb / 2 := IntWalk.i64_in _ (by omega)
  have hw3 : IntKind.i64.wrap (1 + qb / 2) = 1 + qb / 2 := IntWalk.i64_in _ (by omega)
  have c6 := HB8.out.cell 6 rfl
  have hlt8 := HB8.out.lt
  have HE3 := Lib.hid e3
  have hge : decide (1 ≤ rn) = true := by simpa using e2
  clear e0 hf e3
  rcases e1 with e1 | e1
  · subst e1
    cases hk : R.keeps
    · rw [hk] at c6
      have hle : rn ≤ 1 := by rcases HE3.out with q | q; rw [hk] at q; cases q; omega
      go_wp2_with fail
      go_ret
      exact ⟨rfl, HL8.out⟩
    · rw [hk] at c6
      go_wp2_with fail
      go_ret
      exact ⟨rfl, HL8.out⟩
  · have hqb : (qb == qa + 1) = true := by simpa using e1
    by_cases hz : qb = 0
    · have hzb : (qb == 0) = true := by simpa using hz
      clear hz e1
      cases hk : R.keeps
      · rw [hk] at c6
        have hle : rn ≤ 1 + qb / 2 := by rcases HE3.out with q | q; rw [hk] at q; cases q; omega
        go_wp2_with fail
        go_ret
        exact ⟨rfl, HL8.out⟩
      · rw [hk] at c6
        go_wp2_with fail
        go_ret
        exact ⟨rfl, HL8.out⟩
    have hzb : (qb == 0) = false := by simpa using hz
    clear hz e1
    cases hk : R.keeps
    · rw [hk] at c6
      have hle : rn ≤ 1 + qb / 2 := by rcases HE3.out with q | q; rw [hk] at q; cases q; omega
      go_wp2_with fail
      go_ret
      exact ⟨rfl, HL8.out⟩
    · rw [hk] at c6
      go_wp2_with fail
      go_ret
      exact ⟨rfl, HL8.out⟩

end Go.Proofs.Ytkfaibdflbdpgaa.claimSteps

/- The contract of handicap.Least. -/
import Derived.Test.YtaacfoeleblfbaaHcA
import Derived.Test.YtaacfoeleblfbaaHcB
namespace Go.Proofs.Ytaacfoeleblfbaa
open Go.ChangeShapes Go.WideShapes Go.ChangeAt Go.RowKit
set_option linter.unusedVariables false

theorem Without_one (R : RulesZ) (vp vs ve : Value) (pl : Int) (vq : Value) (sq : List Int) (w : World) (hr : RdR w R vp vs ve) (hnm : R.name.size ≤ maxLen) (hq : RdI w vq sq) :
    Calls Try.prog 13 #[(.agg #[.string R.name, .int .i64 R.width, .int .i64 R.height, vp, vs, .bool R.falls, .bool R.keeps, ve, .int .i64 R.blocked, .int .i64 R.quiet, .int .i64 R.rept]), .int .i64 pl, vq] w fun e w' => ∃ (Rx : RulesZ) (pxa sxa exa : Option Addr) (pxn sxn exn : Nat), e = .returned (.tuple #[.agg #[.string Rx.name, .int .i64 Rx.width, .int .i64 Rx.height, .slice pxa Rx.pieces.length pxn, .slice sxa Rx.start.length sxn, .bool Rx.falls, .bool Rx.keeps, .slice exa Rx.ends.length exn, .int .i64 Rx.blocked, .int .i64 Rx.quiet, .int .i64 Rx.rept], .int .i64 (woErr R pl sq)]) ∧
      Seen w.heap.size w' (fun w2 => RdR w2 Rx (.slice pxa Rx.pieces.length pxn) (.slice sxa Rx.start.length sxn) (.slice exa Rx.ends.length exn)) ∧ Rx.name.size ≤ maxLen ∧ (woErr R pl sq = 0 → sq = [] → Rx = R) ∧ Below w.heap.size w w' := by
  refine (Without_any R vp vs ve pl vq sq w hr hnm hq).mono ?_
  rintro e w' ⟨Rx, yp, ys, ye, rfl, hs, hn, hz, hb⟩
  obtain ⟨pa, pn, rfl, -, -⟩ := hs.now.1.form
  obtain ⟨sa, sn, rfl, -, -⟩ := hs.now.2.1.form
  obtain ⟨ea, en, rfl, -, -⟩ := hs.now.2.2.form
  exact ⟨Rx, pa, sa, ea, pn, sn, en, rfl, hs, hn, hz, hb⟩
theorem woErr_bad {R : RulesZ} {pl : Int} {sq : List Int} (h : woErr R pl sq = 0) : woErr R pl [] = 0 := by
  unfold woErr at h ⊢
  by_cases q : woHead R pl = 0
  · rw [if_neg (by simp [q])]; rfl
  · rw [if_pos q] at h; exact absurd h q
def LeastSaid (R : RulesZ) (pl : Int) (sq : List Int) (d n h : Int) : Prop :=
  (woErr R pl sq ≠ 0 → n = 0 ∧ h = woErr R pl sq) ∧ (woErr R pl sq = 0 → winsErr R d = 0 → (winsZ R d ≠ 1 + pl → n = 0 ∧ h = 0) ∧ (winsZ R d = 1 + pl → ¬ (n = 0 ∧ h = 0)))

theorem least_err {R : RulesZ} {pl d ex nx : Int} {sq : List Int} {k : Nat} (h0 : woErr R pl sq = 0) (hk : k ≠ 0 → winsErr R d = 0 → winsZ R d = 1 + pl) (hf : k = 0 → ex = winsErr R d ∧ nx = winsZ R d) (hex : ex ≠ 0) : LeastSaid R pl sq d 0 ex := by
  refine ⟨fun h => absurd h0 h, fun _ hw => ⟨fun hz => ?_, fun _ h => hex h.2⟩⟩
  by_cases q : k = 0
  · exact absurd ((hf q).1.trans hw) hex
  · exact absurd (hk q hw) hz
theorem least_found {R : RulesZ} {pl d nx : Int} {sq : List Int} {k : Nat} (h0 : woErr R pl sq = 0) (hk : k ≠ 0 → winsErr R d = 0 → winsZ R d = 1 + pl) (hf : k = 0 → 0 = winsErr R d ∧ nx = winsZ R d) (hnx : nx ≠ 1 + pl) : LeastSaid R pl sq d k 0 := by
  refine ⟨fun h => absurd h0 h, fun _ hw => ⟨fun hz => ?_, fun hz h => ?_⟩⟩
  · by_cases q : k = 0
    · exact ⟨by omega, rfl⟩
    · exact absurd (hk q hw) hz
  · exact hnx ((hf (by omega)).2.trans hz)
theorem least_next {R : RulesZ} {pl d ex nx : Int} {k : Nat} (hk : k ≠ 0 → winsErr R d = 0 → winsZ R d = 1 + pl) (hf : k = 0 → ex = winsErr R d ∧ nx = winsZ R d) (hnx : nx = 1 + pl) : k + 1 ≠ 0 → winsErr R d = 0 → winsZ R d = 1 + pl := fun _ hw => by
  by_cases q : k = 0
  · exact (hf q).2.symm.trans hnx
  · exact hk q hw
theorem least_end {R : RulesZ} {pl d : Int} {sq : List Int} {k : Nat} (h0 : woErr R pl sq = 0) (hk : k ≠ 0 → winsErr R d = 0 → winsZ R d = 1 + pl) (hk0 : k ≠ 0) : LeastSaid R pl sq d 0 8 :=
  ⟨fun h => absurd h0 h, fun _ hw => ⟨fun hz => absurd (hk hk0 hw) hz, fun _ h => absurd h.2 (by decide)⟩⟩
theorem woErr_pl {R : RulesZ} {pl : Int} {sq : List Int} (h : woErr R pl sq = 0) : pl = 0 ∨ pl = 1 := by
  unfold woErr at h
  by_cases q : woHead R pl = 0
  · unfold woHead at q
    split at q
    · contradiction
    · split at q
      · contradiction
      · omega
  · rw [if_pos q] at h; exact absurd h q

set_option maxRecDepth 100000 in
set_option maxHeartbeats 8000000 in
theorem Least_any (HS : SortMvSaid) (R : RulesZ) (vp vs ve : Value) (pl : Int) (vq : Value) (sq : List Int) (d : Int) (w : World) (hql : sq.length ≤ 1000) (hr : RdR w R vp vs ve) (hnm : R.name.size ≤ maxLen) (hq : RdI w vq sq) :
    Calls Try.prog 15 #[(.agg #[.string R.name, .int .i64 R.width, .int .i64 R.height, vp, vs, .bool R.falls, .bool R.keeps, ve, .int .i64 R.blocked, .int .i64 R.quiet, .int .i64 R.rept]), .int .i64 pl, vq, .int .i64 d] w fun e w' => ∃ n h, e = .returned (.tuple #[.int .i64 n, .int .i64 h]) ∧ LeastSaid R pl sq d n h ∧ Below w.heap.size w w' := by
  have HSh := Lib.hid HS
  have HR := Lib.hid hr
  have HN := Lib.hid hnm
  have HC := Lib.hid hq
  obtain ⟨qa, qn, rfl, hq1, hq2⟩ := hq.form
  unfold maxLen at hq2
  clear hr hnm hq HS
  go_enter Try.func15, Try.ntmps15
  go_upto_region 1 with (fail)
  have B0 : Box (w.alloc (.cells #[.string R.name, .int .i64 R.width, .int .i64 R.height, vp, vs, .bool R.falls, .bool R.keeps, ve, .int .i64 R.blocked, .int .i64 R.quiet, .int .i64 R.rept] 26)) (w.heap.size) [.string R.name, .int .i64 R.width, .int .i64 R.height, vp, vs, .bool R.falls, .bool R.keeps, ve, .int .i64 R.blocked, .int .i64 R.quiet, .int .i64 R.rept] 26 := (Box.new' w (w.heap.size) [.string R.name, .int .i64 R.width, .int .i64 R.height, vp, vs, .bool R.falls, .bool R.keeps, ve, .int .i64 R.blocked, .int .i64 R.quiet, .int .i64 R.rept] 26 (by simp <;> omega))
  have HB : Hid (Below w.heap.size w (w.alloc (.cells #[.string R.name, .int .i64 R.width, .int .i64 R.height, vp, vs, .bool R.falls, .bool R.keeps, ve, .int .i64 R.blocked, .int .i64 R.quiet, .int .i64 R.rept] 26))) := Lib.hid ((Below.refl w.heap.size w).alloc (Nat.le_refl _) _)
  have hz0 : w.heap.size < (w.alloc (.cells #[.string R.name, .int .i64 R.width, .int .i64 R.height, vp, vs, .bool R.falls, .bool R.keeps, ve, .int .i64 R.blocked, .int .i64 R.quiet, .int .i64 R.rept] 26)).heap.size := by simp
  generalize (w.alloc (.cells #[.string R.name, .int .i64 R.width, .int .i64 R.height, vp, vs, .bool R.falls, .bool R.keeps, ve, .int .i64 R.blocked, .int .i64 R.quiet, .int .i64 R.rept] 26)) = w0 at *
  have HX := Lib.hid B0
  clear B0
  refine wp_region_lit ?_
  refine wpList_load_box (by rfl) 26 (.tmp 4) (by rfl) (w.heap.size) (by rfl) HX.out Try.underlying26 (by rfl) (by kernel_rfl) ?_
  go_wp2_with fail
  refine (Without_one R vp vs ve pl _ sq w0 (HR.out.below HB.out (Nat.le_refl _)) HN.out (HC.out.below HB.out (Nat.le_refl _))).mono ?_
  rintro e w1 ⟨Ry, pya, sya, eya, pyn, syn, eyn, he1, -, -, -, hb1⟩
  obtain ⟨we, hwe⟩ : ∃ we, woErr R pl sq = we := ⟨_, rfl⟩
  rw [hwe] at he1
  subst he1
  have HWE := Lib.hid hwe
  have hl := below_trans HB.out hb1 HB.out.size
  have HX2 := Lib.hid ((HX.out.stays hb1).alloc (.cells #[.string Ry.name, .int .i64 Ry.width, .int .i64 Ry.height, .slice pya Ry.pieces.length pyn, .slice sya Ry.start.length syn, .bool Ry.falls, .bool Ry.keeps, .slice eya Ry.ends.length eyn, .int .i64 Ry.blocked, .int .i64 Ry.quiet, .int .i64 Ry.rept] 26))
  have HB2 := Lib.hid (hl.alloc hl.size (.cells #[.string Ry.name, .int .i64 Ry.width, .int .i64 Ry.height, .slice pya Ry.pieces.length pyn, .slice sya Ry.start.length syn, .bool Ry.falls, .bool Ry.keeps, .slice eya Ry.ends.length eyn, .int .i64 Ry.blocked, .int .i64 Ry.quiet, .int .i64 Ry.rept] 26))
  clear hwe hb1 hl HX HB hz0
  go_upto_region 2 with (fail)
  generalize (w1.alloc (.cells #[.string Ry.name, .int .i64 Ry.width, .int .i64 Ry.height, .slice pya Ry.pieces.length pyn, .slice sya Ry.start.length syn, .bool Ry.falls, .bool Ry.keeps, .slice eya Ry.ends.length eyn, .int .i64 Ry.blocked, .int .i64 Ry.quiet, .int .i64 Ry.rept] 26)) = w2 at *
  by_cases hw : we = 0
  rotate_left
  · have hwb : (we != 0) = true := by simpa using hw
    have HSD : Hid (LeastSaid R pl sq d 0 we) := Lib.hid ⟨fun _ => ⟨rfl, HWE.out.symm⟩, fun h => absurd (HWE.out.symm.trans h) hw⟩
    clear hw
    go_wp2_with fail
    go_ret2
    exact ⟨0, we, rfl, HSD.out, HB2.out⟩
  subst hw
  have HW0 := HWE
  have hpl := woErr_pl HW0.out
  obtain ⟨pp, hpp⟩ : ∃ pp, 1 + pl = pp := ⟨_, rfl⟩
  have hwp : IntKind.i64.wrap (1 + pl) = pp := by rw [← hpp]; exact IntWalk.i64_in _ (by omega)
  have HPP := Lib.hid hpp
  clear hpp hpl
  have hwl : IntKind.i64.wrap ((sq.length : Int) + 1) = (sq.length : Int) + 1 := IntWalk.i64_in _ (by omega)
  go_wp2_with fail
  go_loopw [30, 12, 13, 14, 15, 16] (fun vi v12 v13 v14 v15 v16 wr => ∃ k : Nat, k ≤ sq.length + 1 ∧ vi = .int .i64 k ∧ Hid (k ≠ 0 → winsErr R d = 0 → winsZ R d = 1 + pl) ∧ Hid (Box wr w.heap.size [.string R.name, .int .i64 R.width, .int .i64 R.height, vp, vs, .bool R.falls, .bool R.keeps, ve, .int .i64 R.blocked, .int .i64 R.quiet, .int .i64 R.rept] 26) ∧ Hid (Below w.heap.size w wr)) (fun i _ _ _ _ _ _ => sq.length + 1 - (intOf i).toNat)
  case atStart => exact ⟨0, Nat.zero_le _, rfl, Lib.hid (fun h => absurd rfl h), HX2, HB2⟩
  case round =>
    obtain ⟨k, hk, rfl, HK1, HXr, HBr⟩ := hrel
    by_cases hlt : k < sq.length + 1
    rotate_left
    · have hk0 : k ≠ 0 := by omega
      have hltb : decide ((k : Int) < (sq.length : Int) + 1) = false := by simp; omega
      have HSD := Lib.hid (least_end (sq := sq) HW0.out HK1.out hk0)
      clear hk0
      go_wp2_with fail
      go_ret2
      exact ⟨0, 8, rfl, HSD.out, HBr.out⟩
    have hltb : decide ((k : Int) < (sq.length : Int) + 1) = true := by simp; omega
    have hkl : k ≤ sq.length := by omega
    have hsl : ∀ w' : World, (Instr.slice 23 (.slice qa sq.length qn) none (some (.int .i64 (k : Int))) none).run Try.prog w' = .ok (.slice qa k qn) w' := fun w' =>
      run_take (P := Try.prog) (t := 23) (s := 1) Try.underlying23 (fun w => by kernel_rfl) qa sq.length qn k (by omega) w'
    have HTK : Hid (k = 0 → woErr R pl (sq.take k) = 0 ∧ sq.take k = []) := Lib.hid (fun h => by subst h; exact ⟨woErr_bad HW0.out, rfl⟩)
    have hwk : IntKind.i64.wrap ((k : Int) + 1) = (k : Int) + 1 := IntWalk.i64_in _ (by omega)
    go_upto_region 7 with (fail)
    generalize wr = wq at *
    have hzq : w.heap.size < wq.heap.size := HXr.out.lt
    have Bz : Box wq.drew w.heap.size [.string R.name, .int .i64 R.width, .int .i64 R.height, vp, vs, .bool R.falls, .bool R.keeps, ve, .int .i64 R.blocked, .int .i64 R.quiet, .int .i64 R.rept] 26 := HXr.out
    have Lz : Below w.heap.size w wq.drew := below_drew' HBr.out
    clear HXr HBr
    refine wp_region_noPanic ?_
    refine beginL (S := (fun w' => w'.cell? ⟨w.heap.size, 0, none⟩ = some (.string R.name) ∧ w'.cell? ⟨w.heap.size, 1, none⟩ = some (.int .i64 R.width) ∧ w'.cell? ⟨w.heap.size, 2, none⟩ = some (.int .i64 R.height) ∧ w'.cell? ⟨w.heap.size, 3, none⟩ = some vp ∧ w'.cell? ⟨w.heap.size, 4, none⟩ = some vs ∧ w'.cell? ⟨w.heap.size, 5, none⟩ = some (.bool R.falls) ∧ w'.cell? ⟨w.heap.size, 6, none⟩ = some (.bool R.keeps) ∧ w'.cell? ⟨w.heap.size, 7, none⟩ = some ve ∧ w'.cell? ⟨w.heap.size, 8, none⟩ = some (.int .i64 R.blocked) ∧ w'.cell? ⟨w.heap.size, 9, none⟩ = some (.int .i64 R.quiet) ∧ w'.cell? ⟨w.heap.size, 10, none⟩ = some (.int .i64 R.rept))) (L := [10]) (by kernel_rfl) ⟨Bz.cell 0 rfl, Bz.cell 1 rfl, Bz.cell 2 rfl, Bz.cell 3 rfl, Bz.cell 4 rfl, Bz.cell 5 rfl, Bz.cell 6 rfl, Bz.cell 7 rfl, Bz.cell 8 rfl, Bz.cell 9 rfl, Bz.cell 10 rfl⟩ (fun hHeld => ?_)
    refine takeL (i := 0) (oi := { dst := some 34, op := Op.load 26 (Operand.tmp 4), type := 26, pos := "handicap.go:62", after := #[], guard := none }) (v := ?va1) rfl (by kernel_rfl) (by kernel_rfl) (by kernel_rfl) (by kernel_rfl) rfl (by kernel_rfl) (by kernel_rfl) (fun _ _ _ h => h) (Or.inl ⟨by rfl, ?ya1⟩) (by assumption) ?ra1
    case ya1 => (intro w hSw; (try dsimp only at hSw); go_simp; first | done | (with_reducible rfl))
    try simp only [Act.put, List.setIfInBounds_toArray, List.set_cons_zero, List.set_cons_succ]
    refine takeW (i := 1) (oi := { dst := some 35, op := Op.move (Operand.tmp 1), type := 3, pos := "handicap.go:62", after := #[], guard := none }) (v := ?va2) rfl (by kernel_rfl) (by kernel_rfl) (by kernel_rfl) rfl (fun _ _ _ h => h) (Or.inl ⟨by rfl, ?ya2⟩) (fun _ => by assumption) ?ra2
    case ya2 => (intro w _; go_simp; first | done | (with_reducible rfl) | (rw [if_neg (by omega)]))
    try simp only [Act.put, List.setIfInBounds_toArray, List.set_cons_zero, List.set_cons_succ]
    refine takeW (i := 2) (oi := { dst := some 36, op := Op.move (Operand.tmp 2), type := 23, pos := "handicap.go:62", after := #[], guard := none }) (v := ?va3) rfl (by kernel_rfl) (by kernel_rfl) (by kernel_rfl) rfl (fun _ _ _ h => h) (Or.inl ⟨by rfl, ?ya3⟩) (fun _ => by assumption) ?ra3
    case ya3 => (intro w _; go_simp; first | done | (with_reducible rfl) | (rw [if_neg (by omega)]))
    try simp only [Act.put, List.setIfInBounds_toArray, List.set_cons_zero, List.set_cons_succ]
    refine takeW (i := 3) (oi := { dst := some 37, op := Op.move (Operand.tmp 12), type := 3, pos := "handicap.go:62", after := #[], guard := none }) (v := ?va4) rfl (by kernel_rfl) (by kernel_rfl) (by kernel_rfl) rfl (fun _ _ _ h => h) (Or.inl ⟨by rfl, ?ya4⟩) (fun _ => by assumption) ?ra4
    case ya4 => (intro w _; go_simp; first | done | (with_reducible rfl) | (rw [if_neg (by omega)]))
    try simp only [Act.put, List.setIfInBounds_toArray, List.set_cons_zero, List.set_cons_succ]
    refine takeW (i := 4) (oi := { dst := some 38, op := Op.slice 23 (Operand.tmp 36) none (some (Operand.tmp 37)) none, type := 23, pos := "handicap.go:62", after := #[{ on := 2, ground := Ground.data }, { on := 3, ground := Ground.data }], guard := none }) (v := ?va5) rfl (by kernel_rfl) (by kernel_rfl) (by kernel_rfl) rfl (fun _ _ _ h => h) (Or.inl ⟨by rfl, ?ya5⟩) (fun _ => by assumption) ?ra5
    case ya5 => (intro w _; go_simp; first | done | (with_reducible rfl) | (rw [if_neg (by omega)]))
    try simp only [Act.put, List.setIfInBounds_toArray, List.set_cons_zero, List.set_cons_succ]
    refine readyL (rs := [5, 9]) (by kernel_rfl) (by simp) ?_
    refine (AllReadyL.cons (o := { dst := some 39, op := Op.call { callee := Callee.value (Operand.func 13), args := #[Operand.tmp 34, Operand.tmp 35, Operand.tmp 38], argTypes := #[26, 3, 23] }, type := 40, pos := "handicap.go:62", after := #[{ on := 0, ground := Ground.data }, { on := 1, ground := Ground.data }, { on := 4, ground := Ground.data }], guard := none }) rfl (fun K hK => ?_) (AllReadyL.cons (o := { dst := some 13, op := Op.alloc 26, type := 0, pos := "handicap.go:62", after := #[], guard := none }) rfl (fun K hK => ?_) AllReadyL.nil))
    · skip
      go_simp
      refine (Without_one R vp vs ve pl _ (sq.take k) _ (HR.out.below Lz (Nat.le_refl _)) HN.out (RdI.take (HC.out.below Lz (Nat.le_refl _)) k (by omega))).mono ?_
      rintro e w5 ⟨Rx, pxa, sxa, exa, pxn, sxn, exn, rfl, hs5, hn5, hz5, hb5⟩
      have HN5 := Lib.hid hn5
      have HZ5 := Lib.hid hz5
      clear hn5 hz5
      have B5 := Bz.stays hb5
      have L5 := below_trans Lz hb5 Lz.size
      have P5 : Held (fun k => k = w5.heap.size) w5 fun w' => RdR w' Rx (.slice pxa Rx.pieces.length pxn) (.slice sxa Rx.start.length sxn) (.slice exa Rx.ends.length exn) := hs5.held (Below.refl _ _) (fun k hk => by omega)
      have Z5 : wq.heap.size ≤ w5.heap.size := hb5.size
      clear hb5 hs5
      refine hK.out _ _ ⟨B5.cell 0 rfl, B5.cell 1 rfl, B5.cell 2 rfl, B5.cell 3 rfl, B5.cell 4 rfl, B5.cell 5 rfl, B5.cell 6 rfl, B5.cell 7 rfl, B5.cell 8 rfl, B5.cell 9 rfl, B5.cell 10 rfl⟩ (fun hHeld => ?_)
      clear hK K
      try simp only [Act.put, List.setIfInBounds_toArray, List.set_cons_zero, List.set_cons_succ]
      refine takeW (i := 6) (oi := { dst := some 33, op := Op.move (Operand.tmp 39), type := 40, pos := "handicap.go:62", after := #[{ on := 5, ground := Ground.data }], guard := none }) (v := ?va6) rfl (by kernel_rfl) (by kernel_rfl) (by kernel_rfl) rfl (fun _ _ _ h => h) (Or.inl ⟨by rfl, ?ya6⟩) (fun _ => by assumption) ?ra6
      case ya6 => (intro w _; go_simp; first | done | (with_reducible rfl) | (rw [if_neg (by omega)]))
      try simp only [Act.put, List.setIfInBounds_toArray, List.set_cons_zero, List.set_cons_succ]
      refine takeW (i := 7) (oi := { dst := some 40, op := Op.extract (Operand.tmp 33) 0, type := 26, pos := "handicap.go:62", after := #[{ on := 6, ground := Ground.data }], guard := none }) (v := ?va7) rfl (by kernel_rfl) (by kernel_rfl) (by kernel_rfl) rfl (fun _ _ _ h => h) (Or.inl ⟨by rfl, ?ya7⟩) (fun _ => by assumption) ?ra7
      case ya7 => (intro w _; go_simp; first | done | (with_reducible rfl) | (rw [if_neg (by omega)]))
      try simp only [Act.put, List.setIfInBounds_toArray, List.set_cons_zero, List.set_cons_succ]
      refine takeW (i := 8) (oi := { dst := some 41, op := Op.extract (Operand.tmp 33) 1, type := 30, pos := "handicap.go:62", after := #[{ on := 6, ground := Ground.data }, { on := 10, ground := Ground.gcOnly Departure.lateStores }], guard := none }) (v := ?va8) rfl (by kernel_rfl) (by kernel_rfl) (by kernel_rfl) rfl (fun _ _ _ h => h) (Or.inl ⟨by rfl, ?ya8⟩) (fun _ => by assumption) ?ra8
      case ya8 => (intro w _; go_simp; first | done | (with_reducible rfl) | (rw [if_neg (by omega)]))
      try simp only [Act.put, List.setIfInBounds_toArray, List.set_cons_zero, List.set_cons_succ]
      refine readyL (rs := [9]) (by kernel_rfl) (by simp) ?_
      refine (AllReadyL.cons (o := { dst := some 13, op := Op.alloc 26, type := 0, pos := "handicap.go:62", after := #[], guard := none }) rfl (fun K hK => ?_) AllReadyL.nil)
      go_simp
      refine K_world ?_
      intro w9 e9
      have hb9 : Below w5.heap.size w5 w9 := by rw [e9]; exact (Below.refl _ _).alloc (Nat.le_refl _) _
      have X9 : Box w9 w5.heap.size [.string ⟨#[]⟩, .int .i64 0, .int .i64 0, .slice none 0 0, .slice none 0 0, .bool false, .bool false, .slice none 0 0, .int .i64 0, .int .i64 0, .int .i64 0] 26 := by rw [e9]; exact Box.new' _ _ _ _ rfl
      have B9 := B5.stays hb9
      have L9 := below_trans L5 hb9 L5.size
      have P9 := P5.step (Fr.of_new (S := fun k => k = w5.heap.size) hb9) (Shr.refl _ _)
      clear hb9 e9
      refine hK.out _ _ ⟨B9.cell 0 rfl, B9.cell 1 rfl, B9.cell 2 rfl, B9.cell 3 rfl, B9.cell 4 rfl, B9.cell 5 rfl, B9.cell 6 rfl, B9.cell 7 rfl, B9.cell 8 rfl, B9.cell 9 rfl, B9.cell 10 rfl⟩ (fun hHeld => ?_)
      clear hK K
      try simp only [Act.put, List.setIfInBounds_toArray, List.set_cons_zero, List.set_cons_succ]
      refine readyL (rs := [10]) (by kernel_rfl) (by simp) ?_
      refine (AllReadyL.late (o := { dst := none, op := Op.store 26 (Operand.tmp 13) (Operand.tmp 40), type := 0, pos := "handicap.go:62", after := #[{ on := 9, ground := Ground.data }, { on := 7, ground := Ground.data }, { on := 5, ground := Ground.chain }, { on := 0, ground := Ground.phase }, { on := 1, ground := Ground.phase }, { on := 2, ground := Ground.phase }, { on := 3, ground := Ground.phase }, { on := 4, ground := Ground.phase }, { on := 5, ground := Ground.phase }, { on := 6, ground := Ground.phase }, { on := 7, ground := Ground.phase }, { on := 8, ground := Ground.textOnly Departure.lateStores }, { on := 9, ground := Ground.phase }], guard := none }) rfl (by kernel_rfl) (fun K hK => ?_) AllReadyL.nil)
      have d0 := X9.cell 0 rfl
      have d1 := X9.cell 1 rfl
      have d2 := X9.cell 2 rfl
      have d3 := X9.cell 3 rfl
      have d4 := X9.cell 4 rfl
      have d5 := X9.cell 5 rfl
      have d6 := X9.cell 6 rfl
      have d7 := X9.cell 7 rfl
      have d8 := X9.cell 8 rfl
      have d9 := X9.cell 9 rfl
      have d10 := X9.cell 10 rfl
      have df0 := X9.frozen 0
      have df1 := X9.frozen 1
      have df2 := X9.frozen 2
      have df3 := X9.frozen 3
      have df4 := X9.frozen 4
      have df5 := X9.frozen 5
      have df6 := X9.frozen 6
      have df7 := X9.frozen 7
      have df8 := X9.frozen 8
      have df9 := X9.frozen 9
      have df10 := X9.frozen 10
      go_simp
      refine K_world ?_
      intro w10 e10
      have E10 : w10 = w9.setCells (w5.heap.size) 0 [.string Rx.name, .int .i64 Rx.width, .int .i64 Rx.height, .slice pxa Rx.pieces.length pxn, .slice sxa Rx.start.length sxn, .bool Rx.falls, .bool Rx.keeps, .slice exa Rx.ends.length exn, .int .i64 Rx.blocked, .int .i64 Rx.quiet, .int .i64 Rx.rept] := e10
      clear e10 d0 df0 d1 df1 d2 df2 d3 df3 d4 df4 d5 df5 d6 df6 d7 df7 d8 df8 d9 df9 d10 df10
      have hz9 : w.heap.size < w5.heap.size := by omega
      have X10 : Box w10 (w5.heap.size) [.string Rx.name, .int .i64 Rx.width, .int .i64 Rx.height, .slice pxa Rx.pieces.length pxn, .slice sxa Rx.start.length sxn, .bool Rx.falls, .bool Rx.keeps, .slice exa Rx.ends.length exn, .int .i64 Rx.blocked, .int .i64 Rx.quiet, .int .i64 Rx.rept] 26 := by rw [E10]; exact X9.store rfl
      have B10 : Box w10 w.heap.size [.string R.name, .int .i64 R.width, .int .i64 R.height, vp, vs, .bool R.falls, .bool R.keeps, ve, .int .i64 R.blocked, .int .i64 R.quiet, .int .i64 R.rept] 26 := by rw [E10]; exact B9.farAll (show w.heap.size ≠ w5.heap.size by omega) 0 _
      have L10 : Below w.heap.size w w10 := by rw [E10]; exact below_setCells L9 (show w.heap.size ≤ w5.heap.size by omega) 0 _
      have P10 : Held (fun k => k = w5.heap.size) w10 fun w' => RdR w' Rx (.slice pxa Rx.pieces.length pxn) (.slice sxa Rx.start.length sxn) (.slice exa Rx.ends.length exn) := P9.step (by rw [E10]; exact (Fr.refl _ _).setCells (by rfl) 0 _) (Shr.refl _ _)
      clear E10 hz9
      refine hK.out _ _ ?_
      clear hK K
      try simp only [Act.put, List.setIfInBounds_toArray, List.set_cons_zero, List.set_cons_succ]
      refine takeW (i := 11) (oi := { dst := some 14, op := Op.assign (Operand.tmp 41), type := 30, pos := "handicap.go:62", after := #[{ on := 8, ground := Ground.data }, { on := 10, ground := Ground.chain }, { on := 0, ground := Ground.phase }, { on := 1, ground := Ground.phase }, { on := 2, ground := Ground.phase }, { on := 3, ground := Ground.phase }, { on := 4, ground := Ground.phase }, { on := 5, ground := Ground.phase }, { on := 6, ground := Ground.phase }, { on := 7, ground := Ground.phase }, { on := 8, ground := Ground.phase }, { on := 9, ground := Ground.phase }, { on := 10, ground := Ground.phase }], guard := none }) (v := ?va9) rfl (by kernel_rfl) (by kernel_rfl) (by kernel_rfl) rfl (fun _ _ _ h => h) (Or.inl ⟨by rfl, ?ya9⟩) (fun he => by cases he) ?ra9
      case ya9 => (intro w _; go_simp; first | done | (with_reducible rfl) | (rw [if_neg (by omega)]))
      try simp only [Act.put, List.setIfInBounds_toArray, List.set_cons_zero, List.set_cons_succ]
      refine doneL (by kernel_rfl) ?_ _
      refine NoPanic.normal ?_
      have HX10 := Lib.hid X10
      have HB10 := Lib.hid B10
      have HL10 := Lib.hid L10
      have HP10 := Lib.hid P10.now
      clear X10 B10 L10 P10 hHeld Bz Lz B5 L5 P5 B9 L9 X9 P9 Z5
      go_upto_region 8 with (fail)
      refine wp_region_lit ?_
      refine wpList_load_box (by rfl) 26 (.tmp 13) (by rfl) ((w5.heap.size)) (by rfl) HX10.out Try.underlying26 (by rfl) (by kernel_rfl) ?_
      go_wp2_with fail
      refine (Wins_any HSh.out Rx _ _ _ d w10 HP10.out HN5.out).mono ?_
      rintro e w7 ⟨he7, hb7⟩
      have HL7 := Lib.hid (below_trans HL10.out hb7 HL10.out.size)
      have HB7 := Lib.hid (HB10.out.stays hb7)
      have HF7 : Hid (k = 0 → winsErr Rx d = winsErr R d ∧ winsZ Rx d = winsZ R d) := Lib.hid (fun hk0 => by rw [HZ5.out (HTK.out hk0).1 (HTK.out hk0).2]; exact ⟨rfl, rfl⟩)
      generalize winsErr Rx d = ex at *
      generalize winsZ Rx d = nx at *
      subst he7
      clear hb7 HX10 HB10 HL10 HP10 HZ5 HN5
      by_cases hex : ex = 0
      rotate_left
      · have hexb : (ex != 0) = true := by simpa using hex
        have HSD := Lib.hid (least_err (sq := sq) HW0.out HK1.out HF7.out hex)
        clear hex
        go_wp2_with fail
        go_ret2
        exact ⟨0, ex, rfl, HSD.out, HL7.out⟩
      subst hex
      by_cases hnx : nx = pp
      rotate_left
      · have hnb : (nx != pp) = true := by simpa using hnx
        have HSD := Lib.hid (least_found (sq := sq) HW0.out HK1.out HF7.out (by rw [HPP.out]; exact hnx))
        clear hnx
        go_wp2_with fail
        go_ret2
        exact ⟨k, 0, rfl, HSD.out, HL7.out⟩
      have hnb : (nx != pp) = false := by simpa using hnx
      have HK2 := Lib.hid (least_next HK1.out HF7.out (by rw [HPP.out]; exact hnx))
      clear hnx
      go_wp2_with fail
      go_roundw
      case rel => exact ⟨k + 1, by omega, by go_num, HK2, HB7, HL7⟩
      case measure => simp [intOf]; omega
    · skip
      go_simp
      refine K_world ?_
      intro w9 e9
      have hb9 : Below wq.drew.heap.size wq.drew w9 := by rw [e9]; exact (Below.refl _ _).alloc (Nat.le_refl _) _
      have X9 : Box w9 wq.heap.size [.string ⟨#[]⟩, .int .i64 0, .int .i64 0, .slice none 0 0, .slice none 0 0, .bool false, .bool false, .slice none 0 0, .int .i64 0, .int .i64 0, .int .i64 0] 26 := by rw [e9]; exact Box.new' _ _ _ _ rfl
      have B9 := Bz.stays hb9
      have L9 := below_trans Lz hb9 Lz.size
      clear hb9 e9
      refine hK.out _ _ ⟨B9.cell 0 rfl, B9.cell 1 rfl, B9.cell 2 rfl, B9.cell 3 rfl, B9.cell 4 rfl, B9.cell 5 rfl, B9.cell 6 rfl, B9.cell 7 rfl, B9.cell 8 rfl, B9.cell 9 rfl, B9.cell 10 rfl⟩ (fun hHeld => ?_)
      clear hK K
      try simp only [Act.put, List.setIfInBounds_toArray, List.set_cons_zero, List.set_cons_succ]
      refine readyL (rs := [5]) (by kernel_rfl) (by simp) ?_
      refine (AllReadyL.cons (o := { dst := some 39, op := Op.call { callee := Callee.value (Operand.func 13), args := #[Operand.tmp 34, Operand.tmp 35, Operand.tmp 38], argTypes := #[26, 3, 23] }, type := 40, pos := "handicap.go:62", after := #[{ on := 0, ground := Ground.data }, { on := 1, ground := Ground.data }, { on := 4, ground := Ground.data }], guard := none }) rfl (fun K hK => ?_) AllReadyL.nil)
      go_simp
      refine (Without_one R vp vs ve pl _ (sq.take k) _ (HR.out.below L9 (Nat.le_refl _)) HN.out (RdI.take (HC.out.below L9 (Nat.le_refl _)) k (by omega))).mono ?_
      rintro e w5 ⟨Rx, pxa, sxa, exa, pxn, sxn, exn, rfl, hs5, hn5, hz5, hb5⟩
      have HN5 := Lib.hid hn5
      have HZ5 := Lib.hid hz5
      clear hn5 hz5
      have B5 := B9.stays hb5
      have L5 := below_trans L9 hb5 L9.size
      have X5 := X9.stays hb5
      have P5 : Held (fun k => k = wq.heap.size) w5 fun w' => RdR w' Rx (.slice pxa Rx.pieces.length pxn) (.slice sxa Rx.start.length sxn) (.slice exa Rx.ends.length exn) := hs5.held (Below.refl _ _) (fun k hk => by have := X9.lt; omega)
      clear hb5 hs5
      refine hK.out _ _ ⟨B5.cell 0 rfl, B5.cell 1 rfl, B5.cell 2 rfl, B5.cell 3 rfl, B5.cell 4 rfl, B5.cell 5 rfl, B5.cell 6 rfl, B5.cell 7 rfl, B5.cell 8 rfl, B5.cell 9 rfl, B5.cell 10 rfl⟩ (fun hHeld => ?_)
      clear hK K
      try simp only [Act.put, List.setIfInBounds_toArray, List.set_cons_zero, List.set_cons_succ]
      refine takeW (i := 6) (oi := { dst := some 33, op := Op.move (Operand.tmp 39), type := 40, pos := "handicap.go:62", after := #[{ on := 5, ground := Ground.data }], guard := none }) (v := ?va10) rfl (by kernel_rfl) (by kernel_rfl) (by kernel_rfl) rfl (fun _ _ _ h => h) (Or.inl ⟨by rfl, ?ya10⟩) (fun _ => by assumption) ?ra10
      case ya10 => (intro w _; go_simp; first | done | (with_reducible rfl) | (rw [if_neg (by omega)]))
      try simp only [Act.put, List.setIfInBounds_toArray, List.set_cons_zero, List.set_cons_succ]
      refine takeW (i := 7) (oi := { dst := some 40, op := Op.extract (Operand.tmp 33) 0, type := 26, pos := "handicap.go:62", after := #[{ on := 6, ground := Ground.data }], guard := none }) (v := ?va11) rfl (by kernel_rfl) (by kernel_rfl) (by kernel_rfl) rfl (fun _ _ _ h => h) (Or.inl ⟨by rfl, ?ya11⟩) (fun _ => by assumption) ?ra11
      case ya11 => (intro w _; go_simp; first | done | (with_reducible rfl) | (rw [if_neg (by omega)]))
      try simp only [Act.put, List.setIfInBounds_toArray, List.set_cons_zero, List.set_cons_succ]
      refine takeW (i := 8) (oi := { dst := some 41, op := Op.extract (Operand.tmp 33) 1, type := 30, pos := "handicap.go:62", after := #[{ on := 6, ground := Ground.data }, { on := 10, ground := Ground.gcOnly Departure.lateStores }], guard := none }) (v := ?va12) rfl (by kernel_rfl) (by kernel_rfl) (by kernel_rfl) rfl (fun _ _ _ h => h) (Or.inl ⟨by rfl, ?ya12⟩) (fun _ => by assumption) ?ra12
      case ya12 => (intro w _; go_simp; first | done | (with_reducible rfl) | (rw [if_neg (by omega)]))
      try simp only [Act.put, List.setIfInBounds_toArray, List.set_cons_zero, List.set_cons_succ]
      refine readyL (rs := [10]) (by kernel_rfl) (by simp) ?_
      refine (AllReadyL.late (o := { dst := none, op := Op.store 26 (Operand.tmp 13) (Operand.tmp 40), type := 0, pos := "handicap.go:62", after := #[{ on := 9, ground := Ground.data }, { on := 7, ground := Ground.data }, { on := 5, ground := Ground.chain }, { on := 0, ground := Ground.phase }, { on := 1, ground := Ground.phase }, { on := 2, ground := Ground.phase }, { on := 3, ground := Ground.phase }, { on := 4, ground := Ground.phase }, { on := 5, ground := Ground.phase }, { on := 6, ground := Ground.phase }, { on := 7, ground := Ground.phase }, { on := 8, ground := Ground.textOnly Departure.lateStores }, { on := 9, ground := Ground.phase }], guard := none }) rfl (by kernel_rfl) (fun K hK => ?_) AllReadyL.nil)
      have d0 := X5.cell 0 rfl
      have d1 := X5.cell 1 rfl
      have d2 := X5.cell 2 rfl
      have d3 := X5.cell 3 rfl
      have d4 := X5.cell 4 rfl
      have d5 := X5.cell 5 rfl
      have d6 := X5.cell 6 rfl
      have d7 := X5.cell 7 rfl
      have d8 := X5.cell 8 rfl
      have d9 := X5.cell 9 rfl
      have d10 := X5.cell 10 rfl
      have df0 := X5.frozen 0
      have df1 := X5.frozen 1
      have df2 := X5.frozen 2
      have df3 := X5.frozen 3
      have df4 := X5.frozen 4
      have df5 := X5.frozen 5
      have df6 := X5.frozen 6
      have df7 := X5.frozen 7
      have df8 := X5.frozen 8
      have df9 := X5.frozen 9
      have df10 := X5.frozen 10
      go_simp
      refine K_world ?_
      intro w10 e10
      have E10 : w10 = w5.setCells (wq.heap.size) 0 [.string Rx.name, .int .i64 Rx.width, .int .i64 Rx.height, .slice pxa Rx.pieces.length pxn, .slice sxa Rx.start.length sxn, .bool Rx.falls, .bool Rx.keeps, .slice exa Rx.ends.length exn, .int .i64 Rx.blocked, .int .i64 Rx.quiet, .int .i64 Rx.rept] := e10
      clear e10 d0 df0 d1 df1 d2 df2 d3 df3 d4 df4 d5 df5 d6 df6 d7 df7 d8 df8 d9 df9 d10 df10
      have hz9 : w.heap.size < wq.heap.size := hzq
      have X10 : Box w10 (wq.heap.size) [.string Rx.name, .int .i64 Rx.width, .int .i64 Rx.height, .slice pxa Rx.pieces.length pxn, .slice sxa Rx.start.length sxn, .bool Rx.falls, .bool Rx.keeps, .slice exa Rx.ends.length exn, .int .i64 Rx.blocked, .int .i64 Rx.quiet, .int .i64 Rx.rept] 26 := by rw [E10]; exact X5.store rfl
      have B10 : Box w10 w.heap.size [.string R.name, .int .i64 R.width, .int .i64 R.height, vp, vs, .bool R.falls, .bool R.keeps, ve, .int .i64 R.blocked, .int .i64 R.quiet, .int .i64 R.rept] 26 := by rw [E10]; exact B5.farAll (show w.heap.size ≠ wq.heap.size by omega) 0 _
      have L10 : Below w.heap.size w w10 := by rw [E10]; exact below_setCells L5 (show w.heap.size ≤ wq.heap.size by omega) 0 _
      have P10 : Held (fun k => k = wq.heap.size) w10 fun w' => RdR w' Rx (.slice pxa Rx.pieces.length pxn) (.slice sxa Rx.start.length sxn) (.slice exa Rx.ends.length exn) := P5.step (by rw [E10]; exact (Fr.refl _ _).setCells (by rfl) 0 _) (Shr.refl _ _)
      clear E10 hz9
      refine hK.out _ _ ?_
      clear hK K
      try simp only [Act.put, List.setIfInBounds_toArray, List.set_cons_zero, List.set_cons_succ]
      refine takeW (i := 11) (oi := { dst := some 14, op := Op.assign (Operand.tmp 41), type := 30, pos := "handicap.go:62", after := #[{ on := 8, ground := Ground.data }, { on := 10, ground := Ground.chain }, { on := 0, ground := Ground.phase }, { on := 1, ground := Ground.phase }, { on := 2, ground := Ground.phase }, { on := 3, ground := Ground.phase }, { on := 4, ground := Ground.phase }, { on := 5, ground := Ground.phase }, { on := 6, ground := Ground.phase }, { on := 7, ground := Ground.phase }, { on := 8, ground := Ground.phase }, { on := 9, ground := Ground.phase }, { on := 10, ground := Ground.phase }], guard := none }) (v := ?va13) rfl (by kernel_rfl) (by kernel_rfl) (by kernel_rfl) rfl (fun _ _ _ h => h) (Or.inl ⟨by rfl, ?ya13⟩) (fun he => by cases he) ?ra13
      case ya13 => (intro w _; go_simp; first | done | (with_reducible rfl) | (rw [if_neg (by omega)]))
      try simp only [Act.put, List.setIfInBounds_toArray, List.set_cons_zero, List.set_cons_succ]
      refine doneL (by kernel_rfl) ?_ _
      refine NoPanic.normal ?_
      have HX10 := Lib.hid X10
      have HB10 := Lib.hid B10
      have HL10 := Lib.hid L10
      have HP10 := Lib.hid P10.now
      clear X10 B10 L10 P10 hHeld Bz Lz B5 L5 P5 B9 L9 X9 X5
      go_upto_region 8 with (fail)
      refine wp_region_lit ?_
      refine wpList_load_box (by rfl) 26 (.tmp 13) (by rfl) ((wq.heap.size)) (by rfl) HX10.out Try.underlying26 (by rfl) (by kernel_rfl) ?_
      go_wp2_with fail
      refine (Wins_any HSh.out Rx _ _ _ d w10 HP10.out HN5.out).mono ?_
      rintro e w7 ⟨he7, hb7⟩
      have HL7 := Lib.hid (below_trans HL10.out hb7 HL10.out.size)
      have HB7 := Lib.hid (HB10.out.stays hb7)
      have HF7 : Hid (k = 0 → winsErr Rx d = winsErr R d ∧ winsZ Rx d = winsZ R d) := Lib.hid (fun hk0 => by rw [HZ5.out (HTK.out hk0).1 (HTK.out hk0).2]; exact ⟨rfl, rfl⟩)
      generalize winsErr Rx d = ex at *
      generalize winsZ Rx d = nx at *
      subst he7
      clear hb7 HX10 HB10 HL10 HP10 HZ5 HN5
      by_cases hex : ex = 0
      rotate_left
      · have hexb : (ex != 0) = true := by simpa using hex
        have HSD := Lib.hid (least_err (sq := sq) HW0.out HK1.out HF7.out hex)
        clear hex
        go_wp2_with fail
        go_ret2
        exact ⟨0, ex, rfl, HSD.out, HL7.out⟩
      subst hex
      by_cases hnx : nx = pp
      rotate_left
      · have hnb : (nx != pp) = true := by simpa using hnx
        have HSD := Lib.hid (least_found (sq := sq) HW0.out HK1.out HF7.out (by rw [HPP.out]; exact hnx))
        clear hnx
        go_wp2_with fail
        go_ret2
        exact ⟨k, 0, rfl, HSD.out, HL7.out⟩
      have hnb : (nx != pp) = false := by simpa using hnx
      have HK2 := Lib.hid (least_next HK1.out HF7.out (by rw [HPP.out]; exact hnx))
      clear hnx
      go_wp2_with fail
      go_roundw
      case rel => exact ⟨k + 1, by omega, by go_num, HK2, HB7, HL7⟩
      case measure => simp [intOf]; omega

end Go.Proofs.Ytaacfoeleblfbaa

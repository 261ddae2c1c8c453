/- The contracts of claim.Repeats, Quiet; the law's helpers. -/
import Derived.Test.YtkfaibdflbdpgaaGmC
import Derived.Test.YtkfaibdflbdpgaaTic
import Derived.Test.YtkfaibdflbdpgaaSub
namespace Go.Proofs.Ytkfaibdflbdpgaa
open Go.ChangeShapes Go.WideShapes Go.ChangeAt Go.RowKit
set_option linter.unusedVariables false

def repZ (R : RulesZ) (l : List MoveZ) : Int := if runErr R l = 0 then (countZ R l : Int) else 0
def quietZ (R : RulesZ) (l : List MoveZ) : Int := if runErr R l = 0 then (nowZ R l).quiet else 0
set_option maxRecDepth 100000 in
set_option maxHeartbeats 4000000 in
theorem Repeats_any (HS : SortMvSaid) (R : RulesZ) (vp vs ve : Value) (v : Value) (l : List MoveZ) (w : World) (hr : RdR w R vp vs ve) (hnm : R.name.size ≤ maxLen) (hl : RdL moveEl w v l) :
    Calls Try.prog 35 #[(.agg #[.string R.name, .int .i64 R.width, .int .i64 R.height, vp, vs, .bool R.falls, .bool R.keeps, ve, .int .i64 R.blocked, .int .i64 R.quiet, .int .i64 R.rept]), v] w fun e w' => e = .returned (.tuple #[.int .i64 (repZ R l), .int .i64 (runErr R l)]) ∧ Below w.heap.size w w' := by
  have HSh := Lib.hid HS
  have HR := Lib.hid hr
  have HN := Lib.hid hnm
  have HL := Lib.hid hl
  have HD : Hid (runErr R l = if rulesErr R ≠ 0 then rulesErr R else runFrom R [] l) := Lib.hid rfl
  have HQ : Hid (repZ R l = if runErr R l = 0 then (countZ R l : Int) else 0) := Lib.hid rfl
  obtain ⟨a, c, rfl, h1, h2⟩ := hl.form
  unfold maxLen at h2
  clear hr hnm hl HS
  go_enter Try.func35, Try.ntmps35
  go_upto_region 1 with (fail)
  have B0 : Box (w.alloc (.cells #[.string R.name, .int .i64 R.width, .int .i64 R.height, vp, vs, .bool R.falls, .bool R.keeps, ve, .int .i64 R.blocked, .int .i64 R.quiet, .int .i64 R.rept] 26)) (w.heap.size) [.string R.name, .int .i64 R.width, .int .i64 R.height, vp, vs, .bool R.falls, .bool R.keeps, ve, .int .i64 R.blocked, .int .i64 R.quiet, .int .i64 R.rept] 26 := (Box.new' w (w.heap.size) [.string R.name, .int .i64 R.width, .int .i64 R.height, vp, vs, .bool R.falls, .bool R.keeps, ve, .int .i64 R.blocked, .int .i64 R.quiet, .int .i64 R.rept] 26 (by simp <;> omega))
  have HB : Hid (Below w.heap.size w (w.alloc (.cells #[.string R.name, .int .i64 R.width, .int .i64 R.height, vp, vs, .bool R.falls, .bool R.keeps, ve, .int .i64 R.blocked, .int .i64 R.quiet, .int .i64 R.rept] 26))) := Lib.hid ((Below.refl w.heap.size w).alloc (Nat.le_refl _) _)
  have hz0 : w.heap.size < (w.alloc (.cells #[.string R.name, .int .i64 R.width, .int .i64 R.height, vp, vs, .bool R.falls, .bool R.keeps, ve, .int .i64 R.blocked, .int .i64 R.quiet, .int .i64 R.rept] 26)).heap.size := by simp
  generalize (w.alloc (.cells #[.string R.name, .int .i64 R.width, .int .i64 R.height, vp, vs, .bool R.falls, .bool R.keeps, ve, .int .i64 R.blocked, .int .i64 R.quiet, .int .i64 R.rept] 26)) = w0 at *
  have HRw := Lib.hid (HR.out.below HB.out (Nat.le_refl _))
  have HX0 := Lib.hid B0
  clear B0
  refine wp_region_lit ?_
  refine wpList_load_box (by rfl) 26 (.tmp 2) (by rfl) w.heap.size (by rfl) HX0.out Try.underlying26 (by rfl) (by kernel_rfl) ?_
  go_wp2_with fail
  refine (New_any R vp vs ve w0 HRw.out HN.out).mono ?_
  rintro e w1 (⟨hbad, rfl, hb1⟩ | ⟨hre, S, b, up, us, ue, vl, vm, rows, rfl, hg1, hb1⟩)
  · have HE : Hid (runErr R l = rulesErr R) := Lib.hid (by rw [HD.out, if_pos hbad])
    have HNE := Lib.hid hbad
    have he' : (rulesErr R != 0) = true := by simpa using hbad
    have HB1 := Lib.hid (below_trans HB.out hb1 HB.out.size)
    clear hbad hb1
    go_wp2_with fail
    go_ret2
    exact ⟨by rw [HQ.out, HE.out, if_neg HNE.out]; rfl, HB1.out⟩
  have HD1 : Hid (runErr R l = runFrom R [] l) := Lib.hid (by rw [HD.out, if_neg (by simp [hre])])
  have HRe := Lib.hid hre
  have HG1 := Lib.hid hg1
  have HB1 := Lib.hid hb1
  clear hg1 hb1 hre HD
  go_wp2_with fail
  go_loopw [21, 9, 10] (fun vi vm' ve' wr => ∃ (k : Nat) (S : Nat → Prop) (vl vm : Value) (rows : List PosV), k ≤ l.length ∧ vi = .int .i64 k ∧ Hid (runErr R l = runFrom R (l.take k) (l.drop k)) ∧ Hid (GameAt S w0.heap.size wr b R (l.take k) up us ue vl vm rows) ∧ Hid (Below w0.heap.size w0 wr)) (fun i _ _ _ => l.length - (intOf i).toNat)
  case atStart => exact ⟨0, S, vl, vm, rows, Nat.zero_le _, rfl, HD1, HG1, HB1⟩
  case round =>
    obtain ⟨k, S, vl, vm, rows, hk, rfl, HDk, HG, HBr⟩ := hrel
    have hsz := HBr.out.size
    have HBw := Lib.hid (below_trans HB.out HBr.out HB.out.size)
    by_cases hlt : k < l.length
    · obtain ⟨g, o, ha, hg, hcc⟩ := moves_some (HL.out.below HBw.out (Nat.le_refl _)) (by omega)
      subst ha
      obtain ⟨c0, c1, c2⟩ := hcc k hlt
      have HST := Lib.hid (runFrom_step R l k hlt)
      have HTK : Hid (l.take (k + 1) = l.take k ++ [l.getD k default]) := Lib.hid (by rw [List.take_succ_eq_append_getElem hlt, List.getD_eq_getElem?_getD, List.getElem?_eq_getElem hlt]; rfl)
      clear hcc
      generalize l.getD k default = m at *
      go_upto_region 7 with (fail)
      have HBm := Lib.hid (Box.new wr [.int .i64 m.src, .int .i64 m.dst, .int .i64 m.piece] 42)
      have HGm := Lib.hid (HG.out.below ((Below.refl _ wr).alloc (Nat.le_refl _) (.cells #[.int .i64 m.src, .int .i64 m.dst, .int .i64 m.piece] 42)))
      have HBn := Lib.hid (HBr.out.alloc hsz (.cells #[.int .i64 m.src, .int .i64 m.dst, .int .i64 m.piece] 42))
      have hzm : wr.heap.size < (wr.alloc (.cells #[.int .i64 m.src, .int .i64 m.dst, .int .i64 m.piece] 42)).heap.size := by simp
      clear c0 c1 c2
      generalize (wr.alloc (.cells #[.int .i64 m.src, .int .i64 m.dst, .int .i64 m.piece] 42)) = wn at *
      have d0 := HBm.out.cell 0 rfl
      have d1 := HBm.out.cell 1 rfl
      have d2 := HBm.out.cell 2 rfl
      go_wp2_with fail
      refine (Play_any HSh.out m wn HGm.out HBn.out.size).mono ?_
      rintro e w2 (⟨hbad, rfl, hb2⟩ | ⟨hok, rfl, S', vl', vm', rows', hg2, hsh, hf2⟩)
      · have HE : Hid (runErr R l = playErr R (l.take k) m) := Lib.hid (by rw [HDk.out, HST.out, if_pos hbad])
        have HNE := Lib.hid hbad
        have he' : (playErr R (l.take k) m != 0) = true := by simpa using hbad
        have HB2 := Lib.hid (below_trans HB.out (HBn.out.trans (hb2.mono HBn.out.size)) HB.out.size)
        clear hbad hb2
        go_wp2_with fail
        go_ret2
        exact ⟨by rw [HQ.out, HE.out, if_neg HNE.out]; rfl, HB2.out⟩
      · have HE : Hid (runErr R l = runFrom R (l.take (k + 1)) (l.drop (k + 1))) := Lib.hid (by rw [HDk.out, HST.out, if_neg (by simp [hok])])
        have HG2 : Hid (GameAt S' w0.heap.size w2 b R (l.take (k + 1)) up us ue vl' vm' rows') := Lib.hid (by rw [HTK.out]; exact hg2)
        have HB2 := Lib.hid (HBn.out.trans (HGm.out.frame hf2 HBn.out.size))
        clear hok hg2 hsh hf2
        go_wp2_with fail
        go_roundw
        case rel => exact ⟨k + 1, S', vl', vm', rows', by omega, by go_num, HE, HG2, HB2⟩
        case measure => simp [intOf]; omega
    · obtain rfl : k = l.length := by omega
      have HGl : Hid (GameAt S w0.heap.size wr b R l up us ue vl vm rows) := Lib.hid (by have := HG.out; rwa [List.take_of_length_le (Nat.le_refl _)] at this)
      have HE : Hid (runErr R l = 0) := Lib.hid (by rw [HDk.out, List.drop_of_length_le (Nat.le_refl _)]; rfl)
      clear HG HDk
      go_wp2_with fail
      refine (count_any wr HGl.out).mono ?_
      rintro e w2 ⟨rfl, hb2⟩
      have HB2 := Lib.hid (below_trans HBw.out hb2 HBw.out.size)
      clear hb2
      go_wp2_with fail
      go_ret2
      exact ⟨by rw [HQ.out, HE.out, if_pos rfl]; rfl, HB2.out⟩
set_option maxRecDepth 100000 in
theorem Quiet_any (HS : SortMvSaid) (R : RulesZ) (vp vs ve : Value) (v : Value) (l : List MoveZ) (w : World) (hr : RdR w R vp vs ve) (hnm : R.name.size ≤ maxLen) (hl : RdL moveEl w v l) :
    Calls Try.prog 34 #[(.agg #[.string R.name, .int .i64 R.width, .int .i64 R.height, vp, vs, .bool R.falls, .bool R.keeps, ve, .int .i64 R.blocked, .int .i64 R.quiet, .int .i64 R.rept]), v] w fun e w' => e = .returned (.tuple #[.int .i64 (quietZ R l), .int .i64 (runErr R l)]) ∧ Below w.heap.size w w' := by
  have HSh := Lib.hid HS
  have HR := Lib.hid hr
  have HN := Lib.hid hnm
  have HL := Lib.hid hl
  have HQ : Hid (quietZ R l = if runErr R l = 0 then (nowZ R l).quiet else 0) := Lib.hid rfl
  obtain ⟨a, c, rfl, h1, h2⟩ := hl.form
  unfold maxLen at h2
  clear hr hnm hl HS
  go_enter Try.func34, Try.ntmps34
  go_upto_region 1 with (fail)
  have B0 : Box (w.alloc (.cells #[.string R.name, .int .i64 R.width, .int .i64 R.height, vp, vs, .bool R.falls, .bool R.keeps, ve, .int .i64 R.blocked, .int .i64 R.quiet, .int .i64 R.rept] 26)) (w.heap.size) [.string R.name, .int .i64 R.width, .int .i64 R.height, vp, vs, .bool R.falls, .bool R.keeps, ve, .int .i64 R.blocked, .int .i64 R.quiet, .int .i64 R.rept] 26 := (Box.new' w (w.heap.size) [.string R.name, .int .i64 R.width, .int .i64 R.height, vp, vs, .bool R.falls, .bool R.keeps, ve, .int .i64 R.blocked, .int .i64 R.quiet, .int .i64 R.rept] 26 (by simp <;> omega))
  have HB : Hid (Below w.heap.size w (w.alloc (.cells #[.string R.name, .int .i64 R.width, .int .i64 R.height, vp, vs, .bool R.falls, .bool R.keeps, ve, .int .i64 R.blocked, .int .i64 R.quiet, .int .i64 R.rept] 26))) := Lib.hid ((Below.refl w.heap.size w).alloc (Nat.le_refl _) _)
  have hz0 : w.heap.size < (w.alloc (.cells #[.string R.name, .int .i64 R.width, .int .i64 R.height, vp, vs, .bool R.falls, .bool R.keeps, ve, .int .i64 R.blocked, .int .i64 R.quiet, .int .i64 R.rept] 26)).heap.size := by simp
  generalize (w.alloc (.cells #[.string R.name, .int .i64 R.width, .int .i64 R.height, vp, vs, .bool R.falls, .bool R.keeps, ve, .int .i64 R.blocked, .int .i64 R.quiet, .int .i64 R.rept] 26)) = w0 at *
  have HRw := Lib.hid (HR.out.below HB.out (Nat.le_refl _))
  have HLw := Lib.hid (HL.out.below HB.out (Nat.le_refl _))
  have HX0 := Lib.hid B0
  clear B0
  refine wp_region_lit ?_
  refine wpList_load_box (by rfl) 26 (.tmp 2) (by rfl) w.heap.size (by rfl) HX0.out Try.underlying26 (by rfl) (by kernel_rfl) ?_
  go_wp2_with fail
  refine (PRun_any HSh.out R vp vs ve _ l w0 HRw.out HN.out HLw.out).mono ?_
  rintro e w1 (⟨hbad, rfl, hb1⟩ | ⟨hok, -, -, -, yc, y0, y1, rfl, ho1, hb1⟩)
  · have HNE := Lib.hid hbad
    have HB1 := Lib.hid (below_trans HB.out hb1 HB.out.size)
    clear hbad hb1
    unfold zeroPos
    go_wp2_with fail
    go_ret2
    exact ⟨by rw [HQ.out, if_neg HNE.out]; rfl, HB1.out.alloc HB1.out.size _⟩
  · have HB1 := Lib.hid (below_trans HB.out hb1 HB.out.size)
    have HE := Lib.hid hok
    obtain ⟨ya, yn, rfl⟩ := own_form2 ho1.1
    obtain ⟨ya0, yn0, rfl⟩ := own_form2 ho1.2.1
    obtain ⟨ya1, yn1, rfl⟩ := own_form2 ho1.2.2.1
    clear hok hb1 ho1
    unfold posV
    go_wp2_with fail
    go_ret2
    exact ⟨by rw [HQ.out, HE.out, if_pos rfl]; rfl, HB1.out.alloc HB1.out.size _⟩
theorem minG (a : Nat) (b : Int) (hb : 0 ≤ b) : ∃ m : Nat, (if b < (a : Int) then b else (a : Int)) = (m : Int) ∧ m ≤ a ∧ (m : Int) ≤ b := by
  by_cases h : b < a
  · exact ⟨b.toNat, by rw [if_pos (by omega)]; omega, by omega, by omega⟩
  · exact ⟨a, by rw [if_neg (by omega)], by omega, by omega⟩
set_option maxRecDepth 100000 in
theorem cut_any (v : Value) (l : List MoveZ) (w : World) (hl : RdL moveEl w v l) : Calls Try.prog 33 #[v] w fun e w' => w' = w ∧ ∃ v', e = .returned v' ∧ RdL moveEl w v' (l.take 40) := by
  have HL := Lib.hid hl
  obtain ⟨a, c, rfl, h1, h2⟩ := hl.form
  unfold maxLen at h2
  obtain ⟨n, hk, k1, k2⟩ := minG l.length 40 (by omega)
  have HT : Hid (RdL moveEl w (.slice a n c) (l.take 40)) := Lib.hid (by
    have e : l.take 40 = l.take n := by
      by_cases h : (40 : Int) < l.length
      · rw [if_pos h] at hk
        rw [show n = 40 by omega]
      · rw [if_neg h] at hk
        rw [List.take_of_length_le (by omega), List.take_of_length_le (by omega)]
    rw [e]; exact hl.take n k1)
  have hsl : ∀ w' : World, (Instr.slice 32 (.slice a l.length c) none (some (.int .i64 (n : Int))) none).run Try.prog w' = .ok (.slice a n c) w' := fun w' =>
    run_take (P := Try.prog) (t := 32) (s := 3) Try.underlying32 (fun w => by kernel_rfl) a l.length c n (by omega) w'
  clear hl
  go_enter Try.func33, Try.ntmps33
  go_wp2_with fail
  go_ret
  exact ⟨rfl, _, rfl, HT.out⟩
set_option maxRecDepth 100000 in
theorem great_anyG (R : RulesZ) (vp vs ve : Value) (w : World) (h : RdI w vs R.start) : Calls Try.prog 27 #[(.agg #[.string R.name, .int .i64 R.width, .int .i64 R.height, vp, vs, .bool R.falls, .bool R.keeps, ve, .int .i64 R.blocked, .int .i64 R.quiet, .int .i64 R.rept])] w fun e w' => e = .returned (.bool (decide (20 < (R.start.length : Int)))) ∧ Below w.heap.size w w' := by
  obtain ⟨a, c, rfl, h1, h2⟩ := h.form
  unfold maxLen at h2
  clear h
  go_enter Try.func27, Try.ntmps27
  go_wp2
  go_ret
  exact ⟨rfl, (Below.refl _ _).alloc (Nat.le_refl _) _⟩
theorem tic_rep : repZ ticZ [] = 1 ∧ runErr ticZ [] = 0 := by
  have h : runErr ticZ [] = 0 := by decide +kernel
  exact ⟨by unfold repZ; rw [if_pos h]; decide +kernel, h⟩
set_option maxRecDepth 100000 in
theorem claims_any (HS : SortMvSaid) (w : World) : Calls Try.prog 32 #[] w fun e w' => e = .returned (.bool true) ∧ Below w.heap.size w w' := by
  have HSh := Lib.hid HS
  clear HS
  go_enter Try.func32, Try.ntmps32
  go_wp2_with fail
  refine (tic_any _).mono ?_
  rintro e w0 ⟨vp, vs, ve, rfl, hr0, hb0⟩
  have HR0 := Lib.hid hr0
  have HB0 := Lib.hid hb0
  clear hr0 hb0
  unfold rulesV
  go_wp2_with fail
  refine (Repeats_any HSh.out ticZ vp vs ve _ [] w0 HR0.out (by unfold maxLen; decide) (RdL.nil _ _)).mono ?_
  rintro e w1 ⟨he, hb1⟩
  rw [tic_rep.1, tic_rep.2] at he
  subst he
  have HB1 := Lib.hid (below_trans HB0.out hb1 HB0.out.size)
  clear hb1
  go_wp2_with fail
  go_ret
  exact ⟨rfl, HB1.out⟩

end Go.Proofs.Ytkfaibdflbdpgaa

/- Cq1: ClaimA, ClaimP, in one text. -/
import Derived.Test.YtkfaibdflbdpgaaCut
import Derived.Test.YtkfaibdflbdpgaaTic
import Derived.Test.YtkfaibdflbdpgaaSub
/- The contracts of claim.Repeats, Quiet; the law's helpers. -/
namespace Go.Proofs.Ytkfaibdflbdpgaa
open Go.ChangeShapes Go.WideShapes Go.ChangeAt Go.RowKit
set_option linter.unusedVariables false

def repZ (R : RulesZ) (l : List MoveZ) : Int := if runErr R l = 0 then (countZ R l : Int) else 0
def quietZ (R : RulesZ) (l : List MoveZ) : Int := if runErr R l = 0 then (nowZ R l).quiet else 0
set_option maxRecDepth 100000 in
set_option maxHeartbeats 4000000 in
theorem Repeats_any (HS : SortMvSaid) (R : RulesZ) (vp vs ve : Value) (v : Value) (l : List MoveZ) (w : World) (hr : RdR w R vp vs ve) (hnm : R.name.size ≤ maxLen) (hl : RdL moveEl w v l) :
    Calls Try.prog 35 #[(.agg #[.string R.name, .int .i64 R.width, .int .i64 R.height, vp, vs, .bool R.falls, .bool R.keeps, ve, .int .i64 R.blocked, .int .i64 R.quiet, .int .i64 R.rept]), v] w fun e w' => e = .returned (.tuple #[.int .i64 (repZ R l), .int .i64 (runErr R l)]) ∧ Below w.heap.size w w' := by
  have HSh := Lib.hid HS
  have HR := Lib.hid hr
  have HN := Lib.hid hnm
  have HL := Lib.hid hl
  have HD : Hid (runErr R l = if rulesErr R ≠ 0 then rulesErr R else runFrom R [] l) := Lib.hid rfl
  have HQ : Hid (repZ R l = if runErr R l = 0 then (countZ R l : Int) else 0) := Lib.hid rfl
  obtain ⟨a, c, rfl, h1, h2⟩ := hl.form
  unfold maxLen at h2
  clear hr hnm hl HS
  go_enter Try.func35, Try.ntmps35
  go_upto_region 1 with (fail)
  have B0 : Box (w.alloc (.cells #[.string R.name, .int .i64 R.width, .int .i64 R.height, vp, vs, .bool R.falls, .bool R.keeps, ve, .int .i64 R.blocked, .int .i64 R.quiet, .int .i64 R.rept] 26)) (w.heap.size) [.string R.name, .int .i64 R.width, .int .i64 R.height, vp, vs, .bool R.falls, .bool R.keeps, ve, .int .i64 R.blocked, .int .i64 R.quiet, .int .i64 R.rept] 26 := (Box.new' w (w.heap.size) [.string R.name, .int .i64 R.width, .int .i64 R.height, vp, vs, .bool R.falls, .bool R.keeps, ve, .int .i64 R.blocked, .int .i64 R.quiet, .int .i64 R.rept] 26 (by simp <;> omega))
  have HB : Hid (Below w.heap.size w (w.alloc (.cells #[.string R.name, .int .i64 R.width, .int .i64 R.height, vp, vs, .bool R.falls, .bool R.keeps, ve, .int .i64 R.blocked, .int .i64 R.quiet, .int .i64 R.rept] 26))) := Lib.hid ((Below.refl w.heap.size w).alloc (Nat.le_refl _) _)
  have hz0 : w.heap.size < (w.alloc (.cells #[.string R.name, .int .i64 R.width, .int .i64 R.height, vp, vs, .bool R.falls, .bool R.keeps, ve, .int .i64 R.blocked, .int .i64 R.quiet, .int .i64 R.rept] 26)).heap.size := by simp
  generalize (w.alloc (.cells #[.string R.name, .int .i64 R.width, .int .i64 R.height, vp, vs, .bool R.falls, .bool R.keeps, ve, .int .i64 R.blocked, .int .i64 R.quiet, .int .i64 R.rept] 26)) = w0 at *
  have HRw := Lib.hid (HR.out.below HB.out (Nat.le_refl _))
  have HX0 := Lib.hid B0
  clear B0
  refine wp_region_lit ?_
  refine wpList_load_box (by rfl) 26 (.tmp 2) (by rfl) w.heap.size (by rfl) HX0.out Try.underlying26 (by rfl) (by kernel_rfl) ?_
  go_wp2_with fail
  refine (New_any R vp vs ve w0 HRw.out HN.out).mono ?_
  rintro e w1 (⟨hbad, rfl, hb1⟩ | ⟨hre, S, b, up, us, ue, vl, vm, rows, rfl, hg1, hb1⟩)
  · have HE : Hid (runErr R l = rulesErr R) := Lib.hid (by rw [HD.out, if_pos hbad])
    have HNE := Lib.hid hbad
    have he' : (rulesErr R != 0) = true := by simpa using hbad
    have HB1 := Lib.hid (below_trans HB.out hb1 HB.out.size)
    clear hbad hb1
    go_wp2_with fail
    go_ret2
    exact ⟨by rw [HQ.out, HE.out, if_neg HNE.out]; rfl, HB1.out⟩
  have HD1 : Hid (runErr R l = runFrom R [] l) := Lib.hid (by rw [HD.out, if_neg (by simp [hre])])
  have HRe := Lib.hid hre
  have HG1 := Lib.hid hg1
  have HB1 := Lib.hid hb1
  clear hg1 hb1 hre HD
  go_wp2_with fail
  go_loopw [21, 9, 10] (fun vi vm' ve' wr => ∃ (k : Nat) (S : Nat → Prop) (vl vm : Value) (rows : List PosV), k ≤ l.length ∧ vi = .int .i64 k ∧ Hid (runErr R l = runFrom R (l.take k) (l.drop k)) ∧ Hid (GameAt S w0.heap.size wr b R (l.take k) up us ue vl vm rows) ∧ Hid (Below w0.heap.size w0 wr)) (fun i _ _ _ => l.length - (intOf i).toNat)
  case atStart => exact ⟨0, S, vl, vm, rows, Nat.zero_le _, rfl, HD1, HG1, HB1⟩
  case round =>
    obtain ⟨k, S, vl, vm, rows, hk, rfl, HDk, HG, HBr⟩ := hrel
    have hsz := HBr.out.size
    have HBw := Lib.hid (below_trans HB.out HBr.out HB.out.size)
    by_cases hlt : k < l.length
    · obtain ⟨g, o, ha, hg, hcc⟩ := moves_some (HL.out.below HBw.out (Nat.le_refl _)) (by omega)
      subst ha
      obtain ⟨c0, c1, c2⟩ := hcc k hlt
      have HST := Lib.hid (runFrom_step R l k hlt)
      have HTK : Hid (l.take (k + 1) = l.take k ++ [l.getD k default]) := Lib.hid (by rw [List.take_succ_eq_append_getElem hlt, List.getD_eq_getElem?_getD, List.getElem?_eq_getElem hlt]; rfl)
      clear hcc
      generalize l.getD k default = m at *
      go_upto_region 7 with (fail)
      have HBm := Lib.hid (Box.new wr [.int .i64 m.src, .int .i64 m.dst, .int .i64 m.piece] 42)
      have HGm := Lib.hid (HG.out.below ((Below.refl _ wr).alloc (Nat.le_refl _) (.cells #[.int .i64 m.src, .int .i64 m.dst, .int .i64 m.piece] 42)))
      have HBn := Lib.hid (HBr.out.alloc hsz (.cells #[.int .i64 m.src, .int .i64 m.dst, .int .i64 m.piece] 42))
      have hzm : wr.heap.size < (wr.alloc (.cells #[.int .i64 m.src, .int .i64 m.dst, .int .i64 m.piece] 42)).heap.size := by simp
      clear c0 c1 c2
      generalize (wr.alloc (.cells #[.int .i64 m.src, .int .i64 m.dst, .int .i64 m.piece] 42)) = wn at *
      have d0 := HBm.out.cell 0 rfl
      have d1 := HBm.out.cell 1 rfl
      have d2 := HBm.out.cell 2 rfl
      go_wp2_with fail
      refine (Play_any HSh.out m wn HGm.out HBn.out.size).mono ?_
      rintro e w2 (⟨hbad, rfl, hb2⟩ | ⟨hok, rfl, S', vl', vm', rows', hg2, hsh, hf2⟩)
      · have HE : Hid (runErr R l = playErr R (l.take k) m) := Lib.hid (by rw [HDk.out, HST.out, if_pos hbad])
        have HNE := Lib.hid hbad
        have he' : (playErr R (l.take k) m != 0) = true := by simpa using hbad
        have HB2 := Lib.hid (below_trans HB.out (HBn.out.trans (hb2.mono HBn.out.size)) HB.out.size)
        clear hbad hb2
        go_wp2_with fail
        go_ret2
        exact ⟨by rw [HQ.out, HE.out, if_neg HNE.out]; rfl, HB2.out⟩
      · have HE : Hid (runErr R l = runFrom R (l.take (k + 1)) (l.drop (k + 1))) := Lib.hid (by rw [HDk.out, HST.out, if_neg (by simp [hok])])
        have HG2 : Hid (GameAt S' w0.heap.size w2 b R (l.take (k + 1)) up us ue vl' vm' rows') := Lib.hid (by rw [HTK.out]; exact hg2)
        have HB2 := Lib.hid (HBn.out.trans (HGm.out.frame hf2 HBn.out.size))
        clear hok hg2 hsh hf2
        go_wp2_with fail
        go_roundw
        case rel => exact ⟨k + 1, S', vl', vm', rows', by omega, by go_num, HE, HG2, HB2⟩
        case measure => simp [intOf]; omega
    · obtain rfl : k = l.length := by omega
      have HGl : Hid (GameAt S w0.heap.size wr b R l up us ue vl vm rows) := Lib.hid (by have := HG.out; rwa [List.take_of_length_le (Nat.le_refl _)] at this)
      have HE : Hid (runErr R l = 0) := Lib.hid (by rw [HDk.out, List.drop_of_length_le (Nat.le_refl _)]; rfl)
      clear HG HDk
      go_wp2_with fail
      refine (count_any wr HGl.out).mono ?_
      rintro e w2 ⟨rfl, hb2⟩
      have HB2 := Lib.hid (below_trans HBw.out hb2 HBw.out.size)
      clear hb2
      go_wp2_with fail
      go_ret2
      exact ⟨by rw [HQ.out, HE.out, if_pos rfl]; rfl, HB2.out⟩
set_option maxRecDepth 100000 in
theorem Quiet_any (HS : SortMvSaid) (R : RulesZ) (vp vs ve : Value) (v : Value) (l : List MoveZ) (w : World) (hr : RdR w R vp vs ve) (hnm : R.name.size ≤ maxLen) (hl : RdL moveEl w v l) :
    Calls Try.prog 34 #[(.agg #[.string R.name, .int .i64 R.width, .int .i64 R.height, vp, vs, .bool R.falls, .bool R.keeps, ve, .int .i64 R.blocked, .int .i64 R.quiet, .int .i64 R.rept]), v] w fun e w' => e = .returned (.tuple #[.int .i64 (quietZ R l), .int .i64 (runErr R l)]) ∧ Below w.heap.size w w' := by
  have HSh := Lib.hid HS
  have HR := Lib.hid hr
  have HN := Lib.hid hnm
  have HL := Lib.hid hl
  have HQ : Hid (quietZ R l = if runErr R l = 0 then (nowZ R l).quiet else 0) := Lib.hid rfl
  obtain ⟨a, c, rfl, h1, h2⟩ := hl.form
  unfold maxLen at h2
  clear hr hnm hl HS
  go_enter Try.func34, Try.ntmps34
  go_upto_region 1 with (fail)
  have B0 : Box (w.alloc (.cells #[.string R.name, .int .i64 R.width, .int .i64 R.height, vp, vs, .bool R.falls, .bool R.keeps, ve, .int .i64 R.blocked, .int .i64 R.quiet, .int .i64 R.rept] 26)) (w.heap.size) [.string R.name, .int .i64 R.width, .int .i64 R.height, vp, vs, .bool R.falls, .bool R.keeps, ve, .int .i64 R.blocked, .int .i64 R.quiet, .int .i64 R.rept] 26 := (Box.new' w (w.heap.size) [.string R.name, .int .i64 R.width, .int .i64 R.height, vp, vs, .bool R.falls, .bool R.keeps, ve, .int .i64 R.blocked, .int .i64 R.quiet, .int .i64 R.rept] 26 (by simp <;> omega))
  have HB : Hid (Below w.heap.size w (w.alloc (.cells #[.string R.name, .int .i64 R.width, .int .i64 R.height, vp, vs, .bool R.falls, .bool R.keeps, ve, .int .i64 R.blocked, .int .i64 R.quiet, .int .i64 R.rept] 26))) := Lib.hid ((Below.refl w.heap.size w).alloc (Nat.le_refl _) _)
  have hz0 : w.heap.size < (w.alloc (.cells #[.string R.name, .int .i64 R.width, .int .i64 R.height, vp, vs, .bool R.falls, .bool R.keeps, ve, .int .i64 R.blocked, .int .i64 R.quiet, .int .i64 R.rept] 26)).heap.size := by simp
  generalize (w.alloc (.cells #[.string R.name, .int .i64 R.width, .int .i64 R.height, vp, vs, .bool R.falls, .bool R.keeps, ve, .int .i64 R.blocked, .int .i64 R.quiet, .int .i64 R.rept] 26)) = w0 at *
  have HRw := Lib.hid (HR.out.below HB.out (Nat.le_refl _))
  have HLw := Lib.hid (HL.out.below HB.out (Nat.le_refl _))
  have HX0 := Lib.hid B0
  clear B0
  refine wp_region_lit ?_
  refine wpList_load_box (by rfl) 26 (.tmp 2) (by rfl) w.heap.size (by rfl) HX0.out Try.underlying26 (by rfl) (by kernel_rfl) ?_
  go_wp2_with fail
  refine (PRun_any HSh.out R vp vs ve _ l w0 HRw.out HN.out HLw.out).mono ?_
  rintro e w1 (⟨hbad, rfl, hb1⟩ | ⟨hok, -, -, -, yc, y0, y1, rfl, ho1, hb1⟩)
  · have HNE := Lib.hid hbad
    have HB1 := Lib.hid (below_trans HB.out hb1 HB.out.size)
    clear hbad hb1
    unfold zeroPos
    go_wp2_with fail
    go_ret2
    exact ⟨by rw [HQ.out, if_neg HNE.out]; rfl, HB1.out.alloc HB1.out.size _⟩
  · have HB1 := Lib.hid (below_trans HB.out hb1 HB.out.size)
    have HE := Lib.hid hok
    obtain ⟨ya, yn, rfl⟩ := own_form2 ho1.1
    obtain ⟨ya0, yn0, rfl⟩ := own_form2 ho1.2.1
    obtain ⟨ya1, yn1, rfl⟩ := own_form2 ho1.2.2.1
    clear hok hb1 ho1
    unfold posV
    go_wp2_with fail
    go_ret2
    exact ⟨by rw [HQ.out, HE.out, if_pos rfl]; rfl, HB1.out.alloc HB1.out.size _⟩
theorem tic_rep : repZ ticZ [] = 1 ∧ runErr ticZ [] = 0 := by
  have h : runErr ticZ [] = 0 := by decide +kernel
  exact ⟨by unfold repZ; rw [if_pos h]; decide +kernel, h⟩
set_option maxRecDepth 100000 in
theorem claims_any (HS : SortMvSaid) (w : World) : Calls Try.prog 32 #[] w fun e w' => e = .returned (.bool true) ∧ Below w.heap.size w w' := by
  have HSh := Lib.hid HS
  clear HS
  go_enter Try.func32, Try.ntmps32
  go_wp2_with fail
  refine (tic_any _).mono ?_
  rintro e w0 ⟨vp, vs, ve, rfl, hr0, hb0⟩
  have HR0 := Lib.hid hr0
  have HB0 := Lib.hid hb0
  clear hr0 hb0
  unfold rulesV
  go_wp2_with fail
  refine (Repeats_any HSh.out ticZ vp vs ve _ [] w0 HR0.out (by unfold maxLen; decide) (RdL.nil _ _)).mono ?_
  rintro e w1 ⟨he, hb1⟩
  rw [tic_rep.1, tic_rep.2] at he
  subst he
  have HB1 := Lib.hid (below_trans HB0.out hb1 HB0.out.size)
  clear hb1
  go_wp2_with fail
  go_ret
  exact ⟨rfl, HB1.out⟩

end Go.Proofs.Ytkfaibdflbdpgaa
/- How often a position occurs, and how many moves were quiet, plainly. -/
namespace Go.Proofs.Ytkfaibdflbdpgaa
set_option linter.unusedVariables false

theorem wayFrom_takes (R : RulesZ) (p : PosZ) (x : WayZ) (dy : Int) : ∀ (n : Nat) (a b t : Int), t ∈ wayFrom R p x dy n a b → takesZ x.take (p.cells.getD t.toNat 0) p.turn = true
  | 0, a, b, t, h => by simp [wayFrom] at h
  | n + 1, a, b, t, h => by
    rw [wayFrom] at h
    by_cases hin : a + x.dx < 0 ∨ R.width ≤ a + x.dx ∨ b + dy < 0 ∨ R.height ≤ b + dy
    · rw [if_pos hin] at h; cases h
    rw [if_neg hin, List.mem_append] at h
    rcases h with h | h
    · split at h
      · rename_i ht
        simp at h; subst h
        exact ht
      · cases h
    · split at h
      · cases h
      · exact wayFrom_takes R p x dy n _ _ t h
def nzf (c : Int) : Int := if c = 0 then 0 else 1
theorem set_sum (f : Int → Int) : ∀ (l : List Int) (k : Nat) (z : Int), k < l.length → ((l.set k z).map f).sum = (l.map f).sum - f (l.getD k 0) + f z
  | [], k, z, h => by simp at h
  | c :: t, 0, z, _ => by simp; omega
  | c :: t, k + 1, z, h => by
    have ih := set_sum f t k z (by simpa using h)
    simp only [List.set_cons_succ, List.map_cons, List.sum_cons, List.getD_cons_succ]
    omega
theorem set_sum' (l : List Int) (k : Nat) (z : Int) (h : k < l.length) : (l.set k z).sum = l.sum - l.getD k 0 + z := by
  have := set_sum id l k z h
  simpa using this
/-- pieces on the board once, pieces in hands twice. -/
def phi (p : PosZ) : Int := (p.cells.map nzf).sum + 2 * (p.h0.sum + p.h1.sum)
theorem hand_sums (p : PosZ) (l : List Int) (ht : p.turn = 0 ∨ p.turn = 1) : (if p.turn = 0 then l else p.h0).sum + (if p.turn = 0 then p.h1 else l).sum = p.h0.sum + p.h1.sum - (p.hand p.turn).sum + l.sum := by
  unfold PosZ.hand
  rcases ht with h | h
  · simp [h]; omega
  · simp [h]
theorem phi_step {R : RulesZ} {p : PosZ} {m : MoveZ} (K : POk R p) (hk : R.keeps = false) (h : m ∈ listZ R p) :
    if 0 < p.cells.getD m.dst.toNat 0 ∨ m.src < 0 then phi (makeZ R p m) < phi p else phi (makeZ R p m) = phi p := by
  have F := fits_of K h
  obtain ⟨hd1, hd2⟩ := F.d
  obtain ⟨hs1, hs2⟩ := F.s
  obtain ⟨hp1, hp2⟩ := F.k
  have htu := K.tu
  have hph : phi (makeZ R p m) = ((makeCells p m).map nzf).sum + 2 * (p.h0.sum + p.h1.sum - (p.hand p.turn).sum + (makeHand R p m).sum) := by
    unfold phi
    rw [← hand_sums p (makeHand R p m) htu]
    rfl
  have hv : nzf (2 * m.piece + p.turn + 1) = 1 := by unfold nzf; rw [if_neg (by omega)]
  have hmh : makeHand R p m = if 0 ≤ m.src then p.hand p.turn else (p.hand p.turn).set m.piece.toNat ((p.hand p.turn).getD m.piece.toNat 0 - 1) := by
    unfold makeHand
    simp only [hk, Bool.false_eq_true, and_false, if_false]
  rw [list_mem] at h
  unfold rawZ at h
  rcases List.mem_append.1 h with h | h
  · obtain ⟨s, k, hs, hc, hkl, hpos, rfl⟩ := puts_mem h
    rw [if_pos (.inr (by simp))]
    rw [hph, hmh, if_neg (by simp)]
    unfold makeCells
    rw [if_neg (by simp)]
    simp only [Int.toNat_natCast] at hv ⊢
    rw [set_sum nzf _ _ _ hs, hc, hv, set_sum' _ _ _ hkl]
    unfold phi
    have : nzf 0 = 0 := rfl
    omega
  · obtain ⟨s, hs, hn, hown, x, -, t, ht, rfl⟩ := steps_mem h
    have htk := wayFrom_takes _ _ _ _ _ _ _ _ ht
    have hsrc : (moveTo R p s ((p.cells.getD s 0 - 1) / 2) t).src = s := rfl
    have hdst : (moveTo R p s ((p.cells.getD s 0 - 1) / 2) t).dst = t := rfl
    rw [hsrc] at hs1 hs2
    rw [hdst] at hd1 hd2
    have hne : t.toNat ≠ s := by
      intro e
      rw [e] at htk
      unfold takesZ otherZ at htk
      have h1 : (p.cells.getD s 0 == 0) = false := by simpa using fun e => hn e.symm
      have h2 : ((p.cells.getD s 0 - 1) % 2 == p.turn) = true := by simpa using hown
      rw [h1, h2] at htk
      simp at htk
    have hl : t.toNat < (p.cells.set s 0).length := by rw [List.length_set]; omega
    have e2 : (p.cells.set s 0).getD t.toNat 0 = p.cells.getD t.toNat 0 := by
      rw [List.getD_eq_getElem?_getD, List.getD_eq_getElem?_getD, List.getElem?_set_ne (fun e => hne e.symm)]
    have e3 : nzf (p.cells.getD s 0) = 1 := by unfold nzf; rw [if_neg (fun e => hn e.symm)]
    have e4 : nzf 0 = 0 := rfl
    have hcl := K.cell t.toNat
    have e5 : nzf (p.cells.getD t.toNat 0) = if 0 < p.cells.getD t.toNat 0 then 1 else 0 := by
      unfold nzf
      by_cases e : p.cells.getD t.toNat 0 = 0
      · rw [if_pos e, if_neg (by omega)]
      · rw [if_neg e, if_pos (by omega)]
    generalize moveTo R p s ((p.cells.getD s 0 - 1) / 2) t = mv at *
    have hmc : makeCells p mv = (p.cells.set s 0).set t.toNat (2 * mv.piece + p.turn + 1) := by
      unfold makeCells
      rw [hsrc, hdst, if_pos (by omega)]
      simp only [Int.toNat_natCast]
    have hmh2 : makeHand R p mv = p.hand p.turn := by rw [hmh, hsrc, if_pos (by omega)]
    have hval : phi (makeZ R p mv) = phi p - (if 0 < p.cells.getD t.toNat 0 then 1 else 0) := by
      rw [hph, hmh2, hmc, set_sum nzf _ _ _ hl, e2, set_sum nzf _ _ _ hs, hv, e3, e4, e5]
      unfold phi
      omega
    rw [hval, hdst, hsrc]
    by_cases ec : 0 < p.cells.getD t.toNat 0
    · rw [if_pos (Or.inl ec), if_pos ec]; omega
    · rw [if_neg (by rintro (q | q); exact ec q; omega), if_neg ec]; omega
theorem quiet_step (R : RulesZ) (p : PosZ) (m : MoveZ) : (makeZ R p m).quiet = if 0 < p.cells.getD m.dst.toNat 0 ∨ m.src < 0 then 0 else if 200 < p.quiet + 1 then 200 else p.quiet + 1 := rfl
theorem turn_step (R : RulesZ) (p : PosZ) (m : MoveZ) : (makeZ R p m).turn = 1 - p.turn := rfl
section
variable {R : RulesZ} {l : List MoveZ}
/-- the position after k moves. -/
def pK (R : RulesZ) (l : List MoveZ) (k : Nat) : PosZ := posAt R (beginZ R) (l.take k)
theorem pK_succ (k : Nat) (h : k < l.length) : pK R l (k + 1) = makeZ R (pK R l k) (l.getD k default) := posAt_take R (beginZ R) l k h
theorem pK_quiet : ∀ k, k ≤ l.length → 0 ≤ (pK R l k).quiet ∧ (pK R l k).quiet ≤ k
  | 0, _ => by simp [pK, posAt, beginZ]
  | k + 1, h => by
    have ih := pK_quiet k (by omega)
    rw [pK_succ k (by omega), quiet_step]
    split
    · omega
    · split <;> omega
theorem pK_turn : ∀ k, k ≤ l.length → (pK R l k).turn = (k : Int) % 2
  | 0, _ => by simp [pK, posAt, beginZ]
  | k + 1, h => by
    have ih := pK_turn k (by omega)
    rw [pK_succ k (by omega), turn_step, ih]
    omega
theorem pK_phi (hr : rulesErr R = 0) (hl : LegalAll R (beginZ R) l) (hn : l.length ≤ 100) (hk : R.keeps = false) (i : Nat) : ∀ d, i + d ≤ l.length → phi (pK R l (i + d)) ≤ phi (pK R l i) ∧ (phi (pK R l (i + d)) = phi (pK R l i) → (pK R l (i + d)).quiet = (pK R l i).quiet + d)
  | 0, _ => ⟨by simp, fun _ => by simp⟩
  | d + 1, h => by
    obtain ⟨a, b⟩ := pK_phi hr hl hn hk i d (by omega)
    have hm := hl (i + d) (by omega)
    have K := posAt_ok (begin_ok hr) hl (i + d) (by omega)
    have hs := phi_step K hk hm
    have e := pK_succ (R := R) (l := l) (i + d) (by omega)
    have hq := pK_quiet (R := R) (l := l) (i + d) (by omega)
    have hqs := quiet_step R (pK R l (i + d)) (l.getD (i + d) default)
    rw [← e] at hqs
    show phi (pK R l (i + d + 1)) ≤ _ ∧ _
    rw [show i + (d + 1) = i + d + 1 from rfl]
    change (if 0 < (pK R l (i + d)).cells.getD (l.getD (i + d) default).dst.toNat 0 ∨ (l.getD (i + d) default).src < 0 then phi (makeZ R (pK R l (i + d)) (l.getD (i + d) default)) < phi (pK R l (i + d)) else phi (makeZ R (pK R l (i + d)) (l.getD (i + d) default)) = phi (pK R l (i + d))) at hs
    rw [← e] at hs
    split at hs
    · exact ⟨by omega, fun e => by omega⟩
    · rename_i hc
      rw [if_neg hc, if_neg (by omega)] at hqs
      exact ⟨by omega, fun e => by rw [hqs, b (by omega)]; omega⟩
theorem same_phi {p q : PosZ} (h : sameZ p q = true) : phi p = phi q ∧ p.turn = q.turn := by
  unfold sameZ at h
  simp only [Bool.and_eq_true, decide_eq_true_eq, beq_iff_eq] at h
  obtain ⟨⟨⟨h1, h2⟩, h3⟩, h4⟩ := h
  exact ⟨by unfold phi; rw [h1, h2, h3], h4⟩
theorem same_near (hr : rulesErr R = 0) (hl : LegalAll R (beginZ R) l) (hn : l.length ≤ 100) (hk : R.keeps = false) (j : Nat) (hj : j ≤ l.length) (h : sameZ (pK R l (l.length - j)) (pK R l l.length) = true) : j % 2 = 0 ∧ (j : Int) ≤ (pK R l l.length).quiet := by
  obtain ⟨h1, h2⟩ := same_phi h
  obtain ⟨-, b⟩ := pK_phi hr hl hn hk (l.length - j) j (by omega)
  have hq := pK_quiet (R := R) (l := l) (l.length - j) (by omega)
  rw [show l.length - j + j = l.length by omega] at b
  have := b h1.symm
  rw [pK_turn _ (by omega), pK_turn _ (Nat.le_refl _)] at h2
  omega
theorem even_count (P : Nat → Bool) (b : Nat) (h : ∀ j, P j = true → j % 2 = 0 ∧ j ≤ b) : ∀ J, ((List.range J).filter P).length ≤ (J + 1) / 2 ∧ ((List.range J).filter P).length ≤ b / 2 + 1
  | 0 => by simp
  | J + 1 => by
    obtain ⟨a, c⟩ := even_count P b h J
    rw [List.range_succ, List.filter_append, List.length_append]
    by_cases e : P J = true
    · obtain ⟨e1, e2⟩ := h J e
      simp only [List.filter_cons, e, if_true, List.filter_nil, List.length_singleton]
      omega
    · simp only [List.filter_cons, e, if_false, List.filter_nil, List.length_nil, Bool.false_eq_true]
      omega
theorem range_rev (n : Nat) : (List.range (n + 1)).reverse = (List.range (n + 1)).map fun j => n - j := by
  apply List.ext_getElem
  · simp
  · intro i h1 h2
    simp only [List.getElem_reverse, List.getElem_range, List.length_range, List.getElem_map]
    omega
theorem count_le (hr : rulesErr R = 0) (hl : LegalAll R (beginZ R) l) (hn : l.length ≤ 100) (hk : R.keeps = false) : (countZ R l : Int) ≤ 1 + (nowZ R l).quiet / 2 := by
  have hnow : nowZ R l = pK R l l.length := by unfold nowZ pK; rw [List.take_of_length_le (Nat.le_refl _)]
  have hq := pK_quiet (R := R) (l := l) l.length (Nat.le_refl _)
  obtain ⟨b, hb⟩ : ∃ b : Nat, (pK R l l.length).quiet = b := ⟨(pK R l l.length).quiet.toNat, by omega⟩
  have e1 : countZ R l = ((List.range (l.length + 1)).filter fun j => decide (j ≤ l.length) && sameZ (pK R l (l.length - j)) (pK R l l.length)).length := by
    unfold countZ psOf
    rw [hnow, List.filter_map, List.length_map, ← List.length_reverse, ← List.filter_reverse, range_rev, List.filter_map, List.length_map]
    congr 1
    apply List.filter_congr
    intro j hj
    have : j ≤ l.length := by simp at hj; omega
    simp [this, pK]
  rw [e1, hnow, hb]
  have := (even_count (fun j => decide (j ≤ l.length) && sameZ (pK R l (l.length - j)) (pK R l l.length)) b (fun j h => by
    simp only [Bool.and_eq_true, decide_eq_true_eq] at h
    have := same_near hr hl hn hk j h.1 h.2
    rw [hb] at this
    omega) (l.length + 1)).2
  omega
theorem count_pos : 1 ≤ countZ R l := by
  unfold countZ
  have hm : nowZ R l ∈ (psOf R l).filter fun p => sameZ p (nowZ R l) := by
    rw [List.mem_filter]
    refine ⟨?_, by simp [sameZ]⟩
    unfold psOf
    rw [List.mem_map]
    exact ⟨l.length, by simp, by rw [List.take_of_length_le (Nat.le_refl _)]; rfl⟩
  have := List.length_pos_of_mem hm
  omega
theorem runFrom_zero (R : RulesZ) : ∀ (t ms : List MoveZ), runFrom R ms t = 0 ↔ ∀ j, j < t.length → playErr R (ms ++ t.take j) (t.getD j default) = 0
  | [], ms => by simp [runFrom]
  | m :: t, ms => by
    rw [runFrom]
    have ih := runFrom_zero R t (ms ++ [m])
    constructor
    · intro h j hj
      by_cases e : playErr R ms m ≠ 0
      · rw [if_pos e] at h; exact absurd h e
      rw [if_neg e] at h
      cases j with
      | zero => simpa using e
      | succ j =>
        have := ih.1 h j (by simpa using hj)
        simpa using this
    · intro h
      have h0 := h 0 (by simp)
      simp at h0
      rw [if_neg (by simp [h0])]
      refine ih.2 fun j hj => ?_
      have := h (j + 1) (by simpa using hj)
      simpa using this
theorem run_ok (h : runErr R l = 0) : rulesErr R = 0 ∧ (∀ k, k < l.length → playErr R (l.take k) (l.getD k default) = 0) ∧ LegalAll R (beginZ R) l ∧ ∀ k, k ≤ l.length → runErr R (l.take k) = 0 := by
  unfold runErr at h
  by_cases e : rulesErr R = 0
  rotate_left
  · rw [if_pos e] at h; exact absurd h e
  rw [if_neg (by simp [e])] at h
  have hp := (runFrom_zero R l []).1 h
  simp only [List.nil_append] at hp
  refine ⟨e, hp, fun k hk => ?_, fun k hk => ?_⟩
  · have := hp k hk
    unfold playErr at this
    by_cases e1 : gameRes R (l.take k) ≠ 0
    · rw [if_pos e1] at this; cases this
    rw [if_neg e1] at this
    by_cases e2 : l.getD k default ∉ listZ R (nowZ R (l.take k))
    · rw [if_pos e2] at this; cases this
    · simpa [nowZ] using e2
  · unfold runErr
    rw [if_neg (by simp [e])]
    refine (runFrom_zero R (l.take k) []).2 fun j hj => ?_
    simp only [List.nil_append]
    rw [List.length_take] at hj
    have := hp j (by omega)
    rw [List.take_take, Nat.min_eq_left (by omega), show (l.take k).getD j default = l.getD j default by rw [List.getD_eq_getElem?_getD, List.getD_eq_getElem?_getD, List.getElem?_take, if_pos (by omega)]]
    exact this
/-- what the law says. -/
theorem claim_steps (hn : l.length ≤ 40) (h0 : 0 < l.length) (h : runErr R l = 0) : runErr R (l.take (l.length - 1)) = 0 ∧ (quietZ R l = 0 ∨ quietZ R l = quietZ R (l.take (l.length - 1)) + 1) ∧ 1 ≤ repZ R l ∧ (R.keeps = true ∨ repZ R l ≤ 1 + quietZ R l / 2) ∧ 0 ≤ quietZ R l ∧ quietZ R l ≤ 40 ∧ 0 ≤ quietZ R (l.take (l.length - 1)) ∧ quietZ R (l.take (l.length - 1)) ≤ 40 := by
  obtain ⟨hr, hp, hla, hpre⟩ := run_ok h
  have hp1 := hpre (l.length - 1) (by omega)
  have q1 : quietZ R l = (pK R l l.length).quiet := by unfold quietZ; rw [if_pos h]; unfold nowZ pK; rw [List.take_of_length_le (Nat.le_refl _)]
  have q0 : quietZ R (l.take (l.length - 1)) = (pK R l (l.length - 1)).quiet := by unfold quietZ; rw [if_pos hp1]; rfl
  have r1 : repZ R l = (countZ R l : Int) := by unfold repZ; rw [if_pos h]
  have b1 := pK_quiet (R := R) (l := l) l.length (Nat.le_refl _)
  have b0 := pK_quiet (R := R) (l := l) (l.length - 1) (by omega)
  have e := pK_succ (R := R) (l := l) (l.length - 1) (by omega)
  rw [show l.length - 1 + 1 = l.length by omega] at e
  have hqs := quiet_step R (pK R l (l.length - 1)) (l.getD (l.length - 1) default)
  rw [← e] at hqs
  refine ⟨hp1, ?_, ?_, ?_, by omega, by omega, by omega, by omega⟩
  · rw [q1, q0, hqs]
    split
    · exact .inl rfl
    · rw [if_neg (by omega)]; exact .inr rfl
  · rw [r1]; have := count_pos (R := R) (l := l); omega
  · cases hk : R.keeps
    · right
      rw [r1, q1]
      have := count_le hr hla (by omega) hk
      rw [show nowZ R l = pK R l l.length by unfold nowZ pK; rw [List.take_of_length_le (Nat.le_refl _)]] at this
      exact this
    · exact .inl rfl
end
end Go.Proofs.Ytkfaibdflbdpgaa

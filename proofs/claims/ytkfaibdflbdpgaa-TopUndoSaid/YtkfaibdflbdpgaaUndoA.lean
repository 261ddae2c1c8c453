/- The helpers of TopUndo. -/
import Derived.Test.YtkfaibdflbdpgaaGmC
import Derived.Test.YtkfaibdflbdpgaaTic
import Derived.Test.YtkfaibdflbdpgaaSame
import Derived.Test.YtkfaibdflbdpgaaIntsFunc
import Derived.Test.YtkfaibdflbdpgaaAfter
import Derived.Test.YtkfaibdflbdpgaaRaw
import Derived.Test.YtkfaibdflbdpgaaSub
namespace Go.Proofs.Ytkfaibdflbdpgaa
open Go.ChangeShapes Go.WideShapes Go.ChangeAt Go.RowKit
set_option linter.unusedVariables false

def threeZ : RulesZ := ⟨⟨#[84, 73, 67]⟩, 3, 3, [⟨65, 5, 0, []⟩], List.replicate 9 0, false, false, [⟨0, 0, 3, false⟩], 2, 0, 0⟩
def ThreePost (w : World) (e : Ending) (w' : World) : Prop := ∃ vp vs ve, e = .returned (rulesV threeZ vp vs ve) ∧ RdR w' threeZ vp vs ve ∧ Below w.heap.size w w'
set_option maxRecDepth 100000 in
set_option maxHeartbeats 4000000 in
theorem three_any (w : World) : Calls Try.prog 56 #[] w (ThreePost w) := by
  obtain ⟨i0, hi, hz0, hz1, hz2⟩ := info_parts info3
  have hmk : ∀ w' : World, (Instr.makeSlice 23 (.int .i64 9) (.int .i64 9)).run Try.prog w' = .ok (.slice (some ⟨w'.heap.size, 0, none⟩) 9 9) (w'.alloc (.cells #[.int .i64 0, .int .i64 0, .int .i64 0, .int .i64 0, .int .i64 0, .int .i64 0, .int .i64 0, .int .i64 0, .int .i64 0] 3)) := fun w' => by
    rw [run_make w' 23 3 i0 (.int .i64 0) Try.underlying23 hi hz0 .i64 .i64 9 9 (by decide) (by decide) (by rw [hz2]; decide) (by decide), hz1]
    kernel_rfl
  clear hi hz0 hz1 hz2
  go_enter Try.func56, Try.ntmps56
  go_wp2
  refine bodyPost_ret (v := rulesV threeZ (.slice (some ⟨w.heap.size + 1, 0, none⟩) 1 1) (.slice (some ⟨w.heap.size + 1 + 1, 0, none⟩) 9 9) (.slice (some ⟨w.heap.size + 1 + 1 + 1, 0, none⟩) 1 1)) (by simp [results, Try.results56, go_sem, rulesV, threeZ]) rfl ⟨_, _, _, rfl, ⟨?_, ?_, ?_⟩, by go_grown⟩
  · refine .inr ⟨w.heap.size + 1, 0, 1, rfl, Nat.le_refl _, by unfold maxLen; decide, by simp, fun i h => ?_⟩
    obtain rfl : i = 0 := by simp [threeZ] at h; exact h
    refine ⟨[.int .u8 65, .int .i64 5, .int .i64 0, .slice none 0 0], ⟨.slice none 0 0, rfl, RdL.nil _ _⟩, fun j hj => ?_⟩
    simp only [pieceEl] at hj
    rcases j with _ | _ | _ | _ | j
    all_goals first | (simp [go_sem]; done) | omega
  · refine ⟨rfl, .inr ⟨w.heap.size + 1 + 1, 0, 9, rfl, Nat.le_refl _, by unfold maxLen; decide, fun i hi => ?_⟩⟩
    have hi' : i < 9 := by simpa [threeZ] using hi
    rcases i with _ | _ | _ | _ | _ | _ | _ | _ | _ | i
    all_goals first | (simp [go_sem, ints, threeZ]; done) | omega
  · refine .inr ⟨w.heap.size + 1 + 1 + 1, 0, 1, rfl, Nat.le_refl _, by unfold maxLen; decide, by simp, fun i h => ?_⟩
    obtain rfl : i = 0 := by simp [threeZ] at h; exact h
    refine ⟨[.int .i64 0, .int .i64 0, .int .i64 3, .bool false], rfl, fun j hj => ?_⟩
    simp only [endEl] at hj
    rcases j with _ | _ | _ | _ | j
    all_goals first | (simp [go_sem]; done) | omega
theorem three_rules : rulesErr threeZ = 0 := by decide +kernel

theorem bPut_any (n : Int) (w : World) : Calls Try.prog 57 #[.int .i64 n] w fun e w' => e = .returned (.agg #[.int .i64 (-1), .int .i64 n, .int .i64 0]) ∧ Below w.heap.size w w' := by
  go_enter Try.func57, Try.ntmps57
  go_wp2
  exact bodyPost_ret (v := .agg #[.int .i64 (-1), .int .i64 n, .int .i64 0]) (by simp [results, Try.results57, go_sem]) rfl ⟨rfl, by go_grown⟩
def nearZ : PosZ := ⟨[1, 1, 0, 2, 2, 0, 0, 0, 0], [3], [3], 0, 0⟩
set_option maxRecDepth 100000 in
set_option maxHeartbeats 4000000 in
theorem near_any (w : World) : Calls Try.prog 58 #[] w fun e w' => ∃ vc v0 v1, e = .returned (posV nearZ vc v0 v1) ∧ RdP w' nearZ vc v0 v1 ∧ Below w.heap.size w w' := by
  go_enter Try.func58, Try.ntmps58
  go_wp2
  refine bodyPost_ret (v := posV nearZ (.slice (some ⟨w.heap.size + 1, 0, none⟩) 9 9) (.slice (some ⟨w.heap.size + 1 + 1, 0, none⟩) 1 1) (.slice (some ⟨w.heap.size + 1 + 1 + 1, 0, none⟩) 1 1)) (by simp [results, Try.results58, go_sem, posV, nearZ]) rfl ⟨_, _, _, rfl, ⟨?_, ?_, ?_⟩, by go_grown⟩
  · refine ⟨rfl, .inr ⟨w.heap.size + 1, 0, 9, rfl, Nat.le_refl _, by unfold maxLen; decide, fun i hi => ?_⟩⟩
    have hi' : i < 9 := by simpa [nearZ] using hi
    rcases i with _ | _ | _ | _ | _ | _ | _ | _ | _ | i
    all_goals first | (simp [go_sem, ints, nearZ]; done) | omega
  · refine ⟨rfl, .inr ⟨w.heap.size + 1 + 1, 0, 1, rfl, Nat.le_refl _, by unfold maxLen; decide, fun i hi => ?_⟩⟩
    obtain rfl : i = 0 := by simp [nearZ] at hi; exact hi
    simp [go_sem, ints, nearZ]
  · refine ⟨rfl, .inr ⟨w.heap.size + 1 + 1 + 1, 0, 1, rfl, Nat.le_refl _, by unfold maxLen; decide, fun i hi => ?_⟩⟩
    obtain rfl : i = 0 := by simp [nearZ] at hi; exact hi
    simp [go_sem, ints, nearZ]

theorem IndexFuncE_any (v : Value) (zs : List Int) (p : Int → Bool) (f : FuncId) (caps : Array Value) (w : World) (h : RdI w v zs) (hf : ∀ (args : Array Value) (w : World), (callFunc f args).run Try.prog w = .ok (.enter f args) w)
    (hc : ∀ z ∈ zs, Calls Try.prog f (#[.int .i64 z] ++ caps) w fun e w' => e = .returned (.bool (p z)) ∧ w = w') :
    Calls Try.prog 153 #[v, .func (.func f) #[] caps] w fun e w' => e = .returned (.int .i64 (idxI p zs 0)) ∧ w = w' := by
  obtain ⟨a, c, rfl, h1, h2⟩ := h.form
  unfold maxLen at h2
  have HR := Lib.hid h
  have HC := Lib.hid hc
  clear h hc
  go_enter Try.func153, Try.ntmps153
  go_wp2_with fail
  go_loop [8] (fun i => ∃ k : Nat, k ≤ zs.length ∧ i = .int .i64 k ∧ Hid (idxI p zs 0 = idxI p (zs.drop k) k)) (fun i => zs.length - (intOf i).toNat)
  case atStart => exact ⟨0, Nat.zero_le _, rfl, Lib.hid rfl⟩
  case round =>
    obtain ⟨k, hk, rfl, HK⟩ := hrel
    by_cases hlt : k < zs.length
    · obtain ⟨g, o, c', he, _, _, _, hcell⟩ := HR.out.some (by omega)
      simp only [Value.slice.injEq] at he
      obtain ⟨rfl, _, rfl⟩ := he
      have ck := hcell k hlt
      have HS := Lib.hid (idxI_step p zs k hlt)
      have HCk := Lib.hid (HC.out (zs.getD k 0) (by rw [List.getD_eq_getElem?_getD, List.getElem?_eq_getElem hlt]; exact List.getElem_mem hlt))
      clear hcell
      generalize zs.getD k 0 = z at *
      go_wp2_with fail
      refine HCk.out.mono ?_
      rintro e w' ⟨rfl, rfl⟩
      cases hp : p z
      · go_wp2_with fail
        go_round
        case rel => exact ⟨k + 1, by omega, by go_num, Lib.hid (by rw [HK.out, HS.out, if_neg (by simp [hp])])⟩
        case measure => simp [intOf]; omega
      · go_wp2_with fail
        go_ret
        exact ⟨by rw [HK.out, HS.out, if_pos hp]; rfl, rfl⟩
    · obtain rfl : k = zs.length := by omega
      go_wp2_with fail
      go_ret
      exact ⟨by rw [HK.out]; simp [idxI], rfl⟩

theorem ContainsFuncE_any (v : Value) (zs : List Int) (p : Int → Bool) (f : FuncId) (caps : Array Value) (w : World) (h : RdI w v zs) (hf : ∀ (args : Array Value) (w : World), (callFunc f args).run Try.prog w = .ok (.enter f args) w)
    (hc : ∀ z ∈ zs, Calls Try.prog f (#[.int .i64 z] ++ caps) w fun e w' => e = .returned (.bool (p z)) ∧ w = w') :
    Calls Try.prog 101 #[v, .func (.func f) #[] caps] w fun e w' => e = .returned (.bool (zs.any p)) ∧ w = w' := by
  have HI := Lib.hid (IndexFuncE_any v zs p f caps w h hf hc)
  have HA := Lib.hid (idxI_any p zs 0 (by omega))
  clear h hc hf
  go_enter Try.func101, Try.ntmps101
  go_wp2_with fail
  refine HI.out.mono ?_
  rintro e w' ⟨rfl, rfl⟩
  go_wp2_with fail
  go_ret
  exact ⟨by rw [← HA.out]; rfl, rfl⟩

theorem fine1_any (z : Int) (w : World) : Calls Try.prog 102 (#[.int .i64 z] ++ #[]) w fun e w' => e = .returned (.bool (z != 0)) ∧ w = w' := by
  show Calls Try.prog 102 #[.int .i64 z] w _
  go_enter Try.func102, Try.ntmps102
  go_wp2
  go_ret
  exact ⟨rfl, rfl⟩
theorem callFine1 (args : Array Value) (w : World) : (callFunc 102 args).run Try.prog w = .ok (.enter 102 args) w := by kernel_rfl
theorem fine_any (v : Value) (zs : List Int) (w : World) (h : RdI w v zs) : Calls Try.prog 60 #[v] w fun e w' => e = .returned (.bool (!zs.any (· != 0))) ∧ w = w' := by
  have HC := Lib.hid (ContainsFuncE_any v zs (· != 0) 102 #[] w h callFine1 (fun z _ => fine1_any z w))
  obtain ⟨a, c, rfl, h1, h2⟩ := h.form
  clear h
  go_enter Try.func60, Try.ntmps60
  go_wp2_with fail
  refine HC.out.mono ?_
  rintro e w' ⟨rfl, rfl⟩
  obtain ⟨b, hb⟩ : ∃ b, zs.any (· != 0) = b := ⟨_, rfl⟩
  have HBE := Lib.hid hb
  rw [hb]
  clear hb
  go_wp2_with fail
  go_ret
  exact ⟨by rw [HBE.out]; rfl, rfl⟩

theorem equalMv_any (v u : Value) (xs ys : List MoveZ) (w : World) (h : RdL moveEl w v xs) (h' : RdL moveEl w u ys) (hl : xs.length ≤ 1000000) :
    Calls Try.prog 24 #[v, u] w fun e w' => e = .returned (.bool (decide (xs = ys))) ∧ Below w.heap.size w w' := by
  have HR := Lib.hid h
  have HQ := Lib.hid h'
  obtain ⟨a, c, rfl, h1, h2⟩ := h.form
  obtain ⟨a', c', rfl, h1', h2'⟩ := h'.form
  unfold maxLen at h2 h2'
  clear h h'
  have hneq := neqM
  by_cases hle : xs.length = ys.length
  rotate_left
  · have HE : Hid (decide (xs = ys) = false) := Lib.hid (by simp; intro e; exact hle (by rw [e]))
    have hle' : ((xs.length : Int) != (ys.length : Int)) = true := by simp only [bne_iff_ne, ne_eq]; omega
    clear hle
    go_enter Try.func24, Try.ntmps24
    go_wp2_with fail
    go_ret
    exact ⟨by rw [HE.out]; rfl, Below.refl _ _⟩
  have hle' : ((xs.length : Int) != (ys.length : Int)) = false := by simp only [bne_eq_false_iff_eq]; omega
  have HLE := Lib.hid hle
  clear hle
  go_enter Try.func24, Try.ntmps24
  go_wp2_with fail
  go_loopw [5, 13] (fun vj vi wr => ∃ k : Nat, k ≤ xs.length ∧ vi = .int .i64 k ∧ Hid (xs.take k = ys.take k) ∧ Hid (Below w.heap.size w wr)) (fun _ i _ => xs.length - (intOf i).toNat)
  case atStart => exact ⟨0, Nat.zero_le _, rfl, Lib.hid rfl, Lib.hid (Below.refl _ _)⟩
  case round =>
    obtain ⟨k, hk, rfl, HT, HB⟩ := hrel
    by_cases hlt : k < xs.length
    · have hlt2 : k < ys.length := by have := HLE.out; omega
      obtain ⟨g, o, rfl, hg, hcc⟩ := moves_some (HR.out.below HB.out (Nat.le_refl _)) (by omega)
      obtain ⟨g', o', rfl, hg', hcc'⟩ := moves_some (HQ.out.below HB.out (Nat.le_refl _)) (by omega)
      obtain ⟨c0, c1, c2⟩ := hcc k hlt
      obtain ⟨d0, d1, d2⟩ := hcc' k hlt2
      have HS : Hid (xs.take (k + 1) = xs.take k ++ [xs.getD k default]) := Lib.hid (by rw [List.take_succ_eq_append_getElem hlt, List.getD_eq_getElem?_getD, List.getElem?_eq_getElem hlt]; rfl)
      have HS' : Hid (ys.take (k + 1) = ys.take k ++ [ys.getD k default]) := Lib.hid (by rw [List.take_succ_eq_append_getElem hlt2, List.getD_eq_getElem?_getD, List.getElem?_eq_getElem hlt2]; rfl)
      have HGd : Hid (xs = ys → xs.getD k default = ys.getD k default) := Lib.hid (fun e => by rw [e])
      clear hcc hcc'
      generalize xs.getD k default = x at *
      generalize ys.getD k default = y at *
      by_cases he : x = y
      · subst he
        go_wp2_with fail
        go_quiet (fail)
        go_wp2_with fail
        go_roundw
        case rel => exact ⟨k + 1, by omega, by go_num, Lib.hid (by rw [HS.out, HS'.out, HT.out]), Lib.hid (below_drewN HB.out _)⟩
        case measure => simp [intOf]; omega
      · have hd : decide (x = y) = false := by simpa using he
        have HE : Hid (decide (xs = ys) = false) := Lib.hid (by simp; exact fun e => he (HGd.out e))
        clear he
        go_wp2_with fail
        go_quiet (fail)
        go_wp2_with fail
        go_ret
        exact ⟨by rw [HE.out]; rfl, below_drewN HB.out _⟩
    · obtain rfl : k = xs.length := by omega
      have HE : Hid (decide (xs = ys) = true) := Lib.hid (by
        have := HT.out
        rw [List.take_of_length_le (Nat.le_refl _), List.take_of_length_le (by have := HLE.out; omega)] at this
        simpa using this)
      go_wp2_with fail
      go_ret
      exact ⟨by rw [HE.out]; rfl, HB.out⟩
def bsameZ (p q : PosZ) : Bool := sameZ p q && decide (p.quiet = q.quiet)
set_option maxRecDepth 100000 in
theorem bSame_any (p q : PosZ) (vc v0 v1 uc u0 u1 : Value) (w : World) (hp : RdP w p vc v0 v1) (hq : RdP w q uc u0 u1) :
    Calls Try.prog 25 #[.agg #[vc, v0, v1, .int .i64 p.turn, .int .i64 p.quiet], .agg #[uc, u0, u1, .int .i64 q.turn, .int .i64 q.quiet]] w fun e w' => e = .returned (.bool (bsameZ p q)) ∧ Below w.heap.size w w' := by
  have HP := Lib.hid hp
  have HQ := Lib.hid hq
  have HE : Hid (bsameZ p q = (sameZ p q && decide (p.quiet = q.quiet))) := Lib.hid rfl
  clear hp hq
  go_enter Try.func25, Try.ntmps25
  go_upto_region 1 with (fail)
  have B0 : Box ((w.alloc (.cells #[vc, v0, v1, .int .i64 p.turn, .int .i64 p.quiet] 37)).alloc (.cells #[uc, u0, u1, .int .i64 q.turn, .int .i64 q.quiet] 37)) (w.heap.size) [vc, v0, v1, .int .i64 p.turn, .int .i64 p.quiet] 37 := ((Box.new' w (w.heap.size) [vc, v0, v1, .int .i64 p.turn, .int .i64 p.quiet] 37 (by simp <;> omega)).alloc _)
  have B1 : Box ((w.alloc (.cells #[vc, v0, v1, .int .i64 p.turn, .int .i64 p.quiet] 37)).alloc (.cells #[uc, u0, u1, .int .i64 q.turn, .int .i64 q.quiet] 37)) (w.heap.size + 1) [uc, u0, u1, .int .i64 q.turn, .int .i64 q.quiet] 37 := (Box.new' (w.alloc (.cells #[vc, v0, v1, .int .i64 p.turn, .int .i64 p.quiet] 37)) (w.heap.size + 1) [uc, u0, u1, .int .i64 q.turn, .int .i64 q.quiet] 37 (by simp <;> omega))
  have HB : Hid (Below w.heap.size w ((w.alloc (.cells #[vc, v0, v1, .int .i64 p.turn, .int .i64 p.quiet] 37)).alloc (.cells #[uc, u0, u1, .int .i64 q.turn, .int .i64 q.quiet] 37))) := Lib.hid (((Below.refl w.heap.size w).alloc (Nat.le_refl _) _).alloc (by simp <;> omega) _)
  have hz0 : w.heap.size + 1 < ((w.alloc (.cells #[vc, v0, v1, .int .i64 p.turn, .int .i64 p.quiet] 37)).alloc (.cells #[uc, u0, u1, .int .i64 q.turn, .int .i64 q.quiet] 37)).heap.size := by simp
  generalize ((w.alloc (.cells #[vc, v0, v1, .int .i64 p.turn, .int .i64 p.quiet] 37)).alloc (.cells #[uc, u0, u1, .int .i64 q.turn, .int .i64 q.quiet] 37)) = w0 at *
  have HPw := Lib.hid (HP.out.below HB.out (Nat.le_refl _))
  have HQw := Lib.hid (HQ.out.below HB.out (Nat.le_refl _))
  have HX0 := Lib.hid B0
  have HX1 := Lib.hid B1
  clear B0 B1
  refine wp_region_lit ?_
  refine wpList_load_box (by rfl) 37 (.tmp 2) (by rfl) (w.heap.size) (by rfl) HX0.out Try.underlying37 (by rfl) (by kernel_rfl) ?_
  refine wpList_load_box (by rfl) 37 (.tmp 3) (by rfl) (w.heap.size + 1) (by rfl) HX1.out Try.underlying37 (by rfl) (by kernel_rfl) ?_
  go_wp2_with fail
  refine (Same_any p q vc v0 v1 uc u0 u1 w0 HPw.out HQw.out).mono ?_
  rintro e w1 ⟨rfl, hb1⟩
  have c3 := (HX0.out.stays hb1).cell 3 rfl
  have d3 := (HX1.out.stays hb1).cell 3 rfl
  have c4 := (HX0.out.stays hb1).cell 4 rfl
  have d4 := (HX1.out.stays hb1).cell 4 rfl
  have HB1 := Lib.hid (below_trans HB.out hb1 HB.out.size)
  clear hb1
  generalize sameZ p q = b at *
  cases b
  · go_wp2_with fail
    go_ret
    exact ⟨by rw [HE.out]; rfl, HB1.out⟩
  · have HE2 : Hid (bsameZ p q = (p.quiet == q.quiet)) := Lib.hid (by rw [HE.out, Bool.true_and]; rfl)
    go_wp2_with fail
    go_ret
    exact ⟨by rw [HE2.out]; rfl, HB1.out⟩

theorem RdL.drop {α : Type} {el : El α} {w : World} {a : Option Addr} {n c : Nat} {xs : List α} (h : RdL el w (.slice a n c) xs) (k : Nat) (hk : k ≤ xs.length) : RdL el w (.slice (subAddr a c k el.k) (xs.length - k) (c - k)) (xs.drop k) := by
  have hl : (xs.drop k).length = xs.length - k := List.length_drop
  have hcm : c ≤ maxLen := by
    rcases h with ⟨a', c', h, hm, hz⟩ | ⟨g, o, c', h1, h2, h3, h4, h5⟩
    · simp only [Value.slice.injEq] at h
      rw [h.2.2]; exact hm
    · simp only [Value.slice.injEq] at h1
      rw [h1.2.2]; exact h3
  by_cases hz : xs.length - k = 0
  · rw [hz]
    exact .inl ⟨_, _, rfl, by omega, by rw [hl, hz]⟩
  rcases h with ⟨a', c', h, hm, hz'⟩ | ⟨g, o, c', h1, h2, h3, h4, h5⟩
  · omega
  · simp only [Value.slice.injEq] at h1
    obtain ⟨rfl, _, rfl⟩ := h1
    have hck : ¬ c = k := by omega
    have e : subAddr (Option.some ⟨g, o, none⟩) c k el.k = Option.some ⟨g, o + k * el.k, none⟩ := by unfold subAddr; rw [if_neg hck]; simp [add_off]
    rw [e]
    refine .inr ⟨g, o + k * el.k, c - k, by rw [hl], by omega, by omega, h4, fun i hi => ?_⟩
    obtain ⟨cs, q1, q2⟩ := h5 (k + i) (by omega)
    refine ⟨cs, by simpa using q1, fun j hj => ?_⟩
    rw [show o + k * el.k + i * el.k + j = o + (k + i) * el.k + j by rw [Nat.add_mul]; omega]
    exact q2 j hj
/-! ### the game of bThree, by the moves that are not sorted -/
def playedMs : List MoveZ := [⟨-1, 0, 0⟩, ⟨-1, 3, 0⟩, ⟨-1, 1, 0⟩, ⟨-1, 4, 0⟩, ⟨-1, 2, 0⟩]
theorem played_err : runErr threeZ playedMs = 0 := by
  unfold runErr
  rw [if_neg (by rw [three_rules]; decide), run_raw rfl]
  decide +kernel
theorem played_res : gameRes threeZ playedMs = 1 := by rw [game_raw rfl]; decide +kernel
theorem played_len : (nowZ threeZ playedMs).cells.length = 9 := by decide +kernel
theorem near_raw : rawZ threeZ nearZ = [⟨-1, 2, 0⟩, ⟨-1, 5, 0⟩, ⟨-1, 6, 0⟩, ⟨-1, 7, 0⟩, ⟨-1, 8, 0⟩] := by decide +kernel
theorem near_ok : posErr threeZ nearZ = 0 := by decide +kernel
theorem near_len : (allZ threeZ nearZ).length = 5 := by
  unfold allZ
  rw [if_pos near_ok]
  unfold listZ sortZ
  rw [near_raw, List.mergeSort_of_pairwise (by decide +kernel)]
  decide +kernel
theorem three_same : sameZ (beginZ threeZ) (beginZ threeZ) = true := by decide +kernel
theorem three_len : (beginZ threeZ).cells.length = 9 := by decide +kernel

end Go.Proofs.Ytkfaibdflbdpgaa

/- TopUndo: the walk. -/
import Derived.Test.YtkfaibdflbdpgaaUndoB
namespace Go.Proofs.Ytkfaibdflbdpgaa.topUndo
open Go.ChangeShapes Go.WideShapes Go.ChangeAt Go.RowKit
set_option linter.unusedVariables false

/-- each move was possible when it was made. -/
def Played (R : RulesZ) (ms : List MoveZ) : Prop := ∀ k, k < ms.length → playErr R (ms.take k) (ms.getD k default) = 0
theorem Played.nil (R : RulesZ) : Played R [] := fun k h => by simp at h
theorem Played.snoc {R : RulesZ} {ms : List MoveZ} {m : MoveZ} (h : Played R ms) (hm : playErr R ms m = 0) : Played R (ms ++ [m]) := by
  intro k hk
  simp at hk
  rcases Nat.lt_or_ge k ms.length with e | e
  · rw [List.take_append_of_le_length (by omega), show (ms ++ [m]).getD k default = ms.getD k default by simp [List.getD_eq_getElem?_getD, List.getElem?_append_left e]]
    exact h k e
  · obtain rfl : k = ms.length := by omega
    rw [List.take_left, show (ms ++ [m]).getD ms.length default = m by simp [List.getD_eq_getElem?_getD]]
    exact hm
theorem tmod_rg (z : Int) (L : Nat) (h : 0 < L) : -(L : Int) < Int.tmod z L ∧ Int.tmod z L < L := by
  have h1 := Int.tmod_lt_of_pos z (show (0 : Int) < L by omega)
  have h2 := Int.lt_tmod_of_pos z (show (0 : Int) < L by omega)
  omega
theorem tmod_nat (z : Int) (L : Nat) (h : 0 < L) (hz : 0 ≤ z) : ∃ j : Nat, Int.tmod z L = j ∧ j < L := by
  refine ⟨(Int.tmod z L).toNat, ?_, ?_⟩
  · have := Int.tmod_nonneg (L : Int) hz; omega
  · have := Int.tmod_lt_of_pos z (show (0 : Int) < L by omega)
    have := Int.tmod_nonneg (L : Int) hz
    omega
theorem play_fine {R : RulesZ} {ms : List MoveZ} {m : MoveZ} (h1 : gameRes R ms = 0) (h2 : m ∈ listZ R (nowZ R ms)) (h3 : ms.length ≠ 400) : playErr R ms m = 0 := by
  unfold playErr
  rw [if_neg (fun q => q h1), if_neg (fun q => q h2), if_neg h3]
theorem take_back (ms : List MoveZ) (j n : Nat) (h : (ms.take (ms.length - j)).length = n + 1) : (ms.take (ms.length - j)).take n = ms.take (ms.length - (j + 1)) := by
  rw [List.length_take] at h
  rw [List.take_take]
  congr 1; omega
theorem take_next (ms : List MoveZ) (i : Nat) (h : i < ms.length) : ms.take i ++ [ms.getD i default] = ms.take (i + 1) := by
  rw [List.take_succ_eq_append_getElem h, List.getD_eq_getElem?_getD, List.getElem?_eq_getElem h]; rfl
theorem compact_len : ∀ l : List MoveZ, (compactZ l).length ≤ l.length
  | [] => by simp [compactZ]
  | [x] => by simp [compactZ]
  | x :: y :: t => by
    have ih := compact_len (y :: t)
    by_cases h : x = y
    · simp only [compactZ, if_pos h, List.length_cons] at ih ⊢
      omega
    · simp only [compactZ, if_neg h, List.length_cons] at ih ⊢
      omega
theorem list_len {R : RulesZ} {p : PosZ} (K : POk R p) : (listZ R p).length ≤ 10000 := by
  have h1 := compact_len (sortZ (rawZ R p))
  have h2 : (sortZ (rawZ R p)).length = (rawZ R p).length := List.length_mergeSort _
  have h3 : (putsZ R p).length ≤ (List.range p.cells.length).length * 6 := flatL_len _ 6 _ (fun s _ => by
    unfold putsAt
    split
    · simp
    · refine Nat.le_trans (List.length_filterMap_le _ _) ?_
      have := hand_len K
      have := K.r.np
      simp; omega)
  have h4 : ((List.range p.cells.length).flatMap (stepsAt R p)).length ≤ (List.range p.cells.length).length * 112 := flatL_len _ 112 _ (fun s _ => stepsAt_len K.r p s)
  have h5 := K.len
  unfold listZ
  have h6 : (rawZ R p).length = (putsZ R p).length + ((List.range p.cells.length).flatMap (stepsAt R p)).length := by unfold rawZ; rw [List.length_append]
  simp only [List.length_range] at h3 h4
  omega
theorem sameZ_self (p : PosZ) : bsameZ p p = true := by unfold bsameZ sameZ; simp

theorem minG (a : Nat) (b : Int) (hb : 0 ≤ b) : ∃ m : Nat, (if b < (a : Int) then b else (a : Int)) = (m : Int) ∧ m ≤ a ∧ (m : Int) ≤ b := by
  by_cases h : b < a
  · exact ⟨b.toNat, by rw [if_pos (by omega)]; omega, by omega, by omega⟩
  · exact ⟨a, by rw [if_neg (by omega)], by omega, by omega⟩
set_option maxRecDepth 100000 in
set_option maxHeartbeats 16000000 in
theorem walk (HS : SortMvSaid) (R : RulesZ) (vp vs ve : Value) (v : Value) (picks : List Int) (back : Int) (w : World) (hr : RdR w R vp vs ve) (hnm : R.name.size ≤ maxLen) (h : RdI w v picks) :
    Calls Try.prog 3 #[(.agg #[.string R.name, .int .i64 R.width, .int .i64 R.height, vp, vs, .bool R.falls, .bool R.keeps, ve, .int .i64 R.blocked, .int .i64 R.quiet, .int .i64 R.rept]), v, .int .i64 back] w fun e w' => e = .returned (.bool true) ∧ Below w.heap.size w w' := by
  have HSh := Lib.hid HS
  have HR := Lib.hid hr
  have HN := Lib.hid hnm
  have HL := Lib.hid h
  obtain ⟨a, c, rfl, h1, h2⟩ := h.form
  unfold maxLen at h2
  obtain ⟨n, hn, hn1, hn2⟩ := minG picks.length 24 (by omega)
  have hsl : ∀ w' : World, (Instr.slice 23 (.slice a picks.length c) none (some (.int .i64 (n : Int))) none).run Try.prog w' = .ok (.slice a n c) w' := fun w' =>
    run_take (P := Try.prog) (t := 23) (s := 1) Try.underlying23 (fun w => by kernel_rfl) a picks.length c n (by omega) w'
  clear h HS hr hnm
  go_enter Try.func3, Try.ntmps3
  go_upto_region 1 with (fail)
  have B0 : Box (w.alloc (.cells #[.string R.name, .int .i64 R.width, .int .i64 R.height, vp, vs, .bool R.falls, .bool R.keeps, ve, .int .i64 R.blocked, .int .i64 R.quiet, .int .i64 R.rept] 26)) (w.heap.size) [.string R.name, .int .i64 R.width, .int .i64 R.height, vp, vs, .bool R.falls, .bool R.keeps, ve, .int .i64 R.blocked, .int .i64 R.quiet, .int .i64 R.rept] 26 := (Box.new' w (w.heap.size) [.string R.name, .int .i64 R.width, .int .i64 R.height, vp, vs, .bool R.falls, .bool R.keeps, ve, .int .i64 R.blocked, .int .i64 R.quiet, .int .i64 R.rept] 26 (by simp <;> omega))
  have HB : Hid (Below w.heap.size w (w.alloc (.cells #[.string R.name, .int .i64 R.width, .int .i64 R.height, vp, vs, .bool R.falls, .bool R.keeps, ve, .int .i64 R.blocked, .int .i64 R.quiet, .int .i64 R.rept] 26))) := Lib.hid ((Below.refl w.heap.size w).alloc (Nat.le_refl _) _)
  have hz0 : w.heap.size < (w.alloc (.cells #[.string R.name, .int .i64 R.width, .int .i64 R.height, vp, vs, .bool R.falls, .bool R.keeps, ve, .int .i64 R.blocked, .int .i64 R.quiet, .int .i64 R.rept] 26)).heap.size := by simp
  generalize (w.alloc (.cells #[.string R.name, .int .i64 R.width, .int .i64 R.height, vp, vs, .bool R.falls, .bool R.keeps, ve, .int .i64 R.blocked, .int .i64 R.quiet, .int .i64 R.rept] 26)) = w0 at *
  have HB0 := Lib.hid B0
  clear B0
  go_wp2_with fail
  refine (bPlayed_any HSh.out w0).mono ?_
  rintro e w1 ⟨rfl, hb1⟩
  have HL1 := Lib.hid (below_trans HB.out hb1 HB.out.size)
  have HC0 := Lib.hid (HB0.out.stays hb1)
  clear hb1 HB0
  go_upto_region 3 with (fail)
  refine wp_region_lit ?_
  refine wpList_load_box (by rfl) 26 (.tmp 3) (by rfl) (w.heap.size) (by rfl) HC0.out Try.underlying26 (by rfl) (by kernel_rfl) ?_
  go_wp2_with fail
  refine (New_any R vp vs ve w1 (HR.out.below HL1.out (Nat.le_refl _)) HN.out).mono ?_
  rintro e w2 (⟨hbad, rfl, hb2⟩ | ⟨hre, S, b, up, us, ue, vl, vm, rows, rfl, hg2, hb2⟩)
  · have he' : (rulesErr R != 0) = true := by simpa using hbad
    have HB2 := Lib.hid (below_trans HL1.out hb2 HL1.out.size)
    clear hbad hb2
    go_wp2_with fail
    go_ret
    exact ⟨rfl, HB2.out⟩
  have HRe := Lib.hid hre
  have HG2 := Lib.hid hg2
  have HB2 := Lib.hid hb2
  have HX2 := Lib.hid (HC0.out.stays hb2)
  clear hg2 hb2 hre
  go_wp2_with fail
  go_loopw [41, 10, 11, 12] (fun vi a1 a2 a3 wr => ∃ (k : Nat) (ms : List MoveZ) (S : Nat → Prop) (vl vm : Value) (rows : List PosV), k ≤ n ∧ ms.length ≤ k ∧ vi = .int .i64 k ∧ Hid (Played R ms) ∧ Hid (GameAt S w1.heap.size wr b R ms up us ue vl vm rows) ∧ Hid (Below w1.heap.size w1 wr)) (fun i _ _ _ _ => n - (intOf i).toNat)
  case atStart => exact ⟨0, [], S, vl, vm, rows, Nat.zero_le _, Nat.le_refl _, rfl, Lib.hid (Played.nil R), HG2, HB2⟩
  case round =>
    obtain ⟨k, ms, S, vl, vm, rows, hk, hmk, rfl, HPl, HGr, HBr⟩ := hrel
    have hsz := HBr.out.size
    by_cases hlt : k < n
    rotate_left
    · obtain rfl : k = n := by omega
      go_wp2_with fail
        -- the moves, the position, the result and the count
      refine (gameMoves_any _ HGr.out).mono ?_
      rintro e x2 ⟨vm2, rfl, hm2, hb2⟩
      have HLM2 : Hid (Held S x2 fun w' => RdL moveEl w' vm2 ms) := Lib.hid ((own_new hm2 (fun k h1 h2 hk => by have := (HGr.out.lo k hk).2; omega)).imp (fun _ h => rdM_of_own h))
      have HG2 := Lib.hid (HGr.out.below hb2)
      have HL2 := Lib.hid (below_trans HBr.out hb2 HBr.out.size)
      obtain ⟨am, cm, rfl⟩ := own_form2 hm2
      clear hb2 hm2 HGr
      go_wp2_with fail
      refine (gamePos_any _ HG2.out).mono ?_
      rintro e x3 ⟨vc, v0, v1, rfl, hp3, hb3⟩
      obtain ⟨ya, yn, rfl⟩ := own_form2 hp3.1
      obtain ⟨ya0, yn0, rfl⟩ := own_form2 hp3.2.1
      obtain ⟨ya1, yn1, rfl⟩ := own_form2 hp3.2.2.1
      have HLP3 : Hid (Held S x3 fun w' => RdP w' (nowZ R ms) (.slice ya (nowZ R ms).cells.length yn) (.slice ya0 (nowZ R ms).h0.length yn0) (.slice ya1 (nowZ R ms).h1.length yn1)) := Lib.hid ((ownP_held hp3 (fun k h1 h2 hk => by have := (HG2.out.lo k hk).2; omega)).imp (fun _ h => h.rd))
      have HLM3 := Lib.hid (HLM2.out.step (Fr.of_new (S := S) hb3) (Shr.refl _ _))
      have HG3 := Lib.hid (HG2.out.below hb3)
      have HL3 := Lib.hid (below_trans HL2.out hb3 HL2.out.size)
      clear hb3 hp3 HG2 HLM2 HL2
      go_wp2_with fail
      refine (gameRes_any HSh.out _ HG3.out).mono ?_
      rintro e x4 ⟨rfl, hb4⟩
      have HLP4 := Lib.hid (HLP3.out.step (Fr.of_new (S := S) hb4) (Shr.refl _ _))
      have HLM4 := Lib.hid (HLM3.out.step (Fr.of_new (S := S) hb4) (Shr.refl _ _))
      have HG4 := Lib.hid (HG3.out.below hb4)
      have HL4 := Lib.hid (below_trans HL3.out hb4 HL3.out.size)
      clear hb4 HG3 HLM3 HLP3 HL3
      go_wp2_with fail
      refine (count_any _ HG4.out).mono ?_
      rintro e x5 ⟨rfl, hb5⟩
      have HLP5 := Lib.hid (HLP4.out.step (Fr.of_new (S := S) hb5) (Shr.refl _ _))
      have HLM5 := Lib.hid (HLM4.out.step (Fr.of_new (S := S) hb5) (Shr.refl _ _))
      have HG5 := Lib.hid (HG4.out.below hb5)
      have HL5 := Lib.hid (below_trans HL4.out hb5 HL4.out.size)
      clear hb5 HG4 HLM4 HLP4 HL4
      go_upto_region 17 with (fail)
      have hal := ((Below.refl x5.heap.size x5).alloc (Nat.le_refl _) (.cells #[.slice ya (nowZ R ms).cells.length yn, .slice ya0 (nowZ R ms).h0.length yn0, .slice ya1 (nowZ R ms).h1.length yn1, .int .i64 (nowZ R ms).turn, .int .i64 (nowZ R ms).quiet] 37))
      have HLP6 := Lib.hid (HLP5.out.step (Fr.of_new (S := S) hal) (Shr.refl _ _))
      have HLM6 := Lib.hid (HLM5.out.step (Fr.of_new (S := S) hal) (Shr.refl _ _))
      have HG6 := Lib.hid (HG5.out.below hal)
      have HL6 := Lib.hid (below_trans HL5.out hal HL5.out.size)
      obtain ⟨bp, hbp⟩ : ∃ bp, bp = x5.heap.size := ⟨_, rfl⟩
      have HBP6 : Hid (Held S (x5.alloc (.cells #[.slice ya (nowZ R ms).cells.length yn, .slice ya0 (nowZ R ms).h0.length yn0, .slice ya1 (nowZ R ms).h1.length yn1, .int .i64 (nowZ R ms).turn, .int .i64 (nowZ R ms).quiet] 37)) fun w' => Box w' bp [.slice ya (nowZ R ms).cells.length yn, .slice ya0 (nowZ R ms).h0.length yn0, .slice ya1 (nowZ R ms).h1.length yn1, .int .i64 (nowZ R ms).turn, .int .i64 (nowZ R ms).quiet] 37) := Lib.hid (by
        rw [hbp]
        exact fun w' hw => (Box.new x5 [.slice ya (nowZ R ms).cells.length yn, .slice ya0 (nowZ R ms).h0.length yn0, .slice ya1 (nowZ R ms).h1.length yn1, .int .i64 (nowZ R ms).turn, .int .i64 (nowZ R ms).quiet] 37).held hw (fun hk => by have := (HG5.out.lo _ hk).2; omega))
      rw [← hbp]
      clear hbp hal HG5 HLM5 HLP5 HL5
      generalize (x5.alloc (.cells #[.slice ya (nowZ R ms).cells.length yn, .slice ya0 (nowZ R ms).h0.length yn0, .slice ya1 (nowZ R ms).h1.length yn1, .int .i64 (nowZ R ms).turn, .int .i64 (nowZ R ms).quiet] 37)) = x6 at *
      obtain ⟨gr, hgr⟩ : ∃ gr, gameRes R ms = gr := ⟨_, rfl⟩
      obtain ⟨gc, hgc⟩ : ∃ gc, countZ R ms = gc := ⟨_, rfl⟩
      have HGR := Lib.hid hgr
      have HGC := Lib.hid hgc
      rw [hgr, hgc]
      clear hgr hgc
      obtain ⟨K, hK⟩ : ∃ K, K = ms.length := ⟨_, rfl⟩
      have HKL := Lib.hid hK
      have hk24 : K ≤ 24 := by omega
      rw [← hK] at HLM6 ⊢
      have hr1 := tmod_rg back (K + 1) (by omega)
      rw [show ((K + 1 : Nat) : Int) = (K : Int) + 1 by omega] at hr1
      obtain ⟨hr1a, hr1b⟩ := hr1
      obtain ⟨T, hT, hTK⟩ := tmod_nat (Int.tmod back ((K : Int) + 1) + K + 1) (K + 1) (by omega) (by omega)
      rw [show ((K + 1 : Nat) : Int) = (K : Int) + 1 by omega] at hT
      have hT' : (Int.tmod back ((K : Int) + 1) + K + 1) % ((K : Int) + 1) = T := by rw [← Int.tmod_eq_emod_of_nonneg (by omega)]; exact hT
      clear hK
      go_wp2_with fail
      go_loopw [99] (fun vi wr => ∃ (j : Nat) (S : Nat → Prop) (vl vm : Value) (rows : List PosV), j ≤ T ∧ vi = .int .i64 j ∧ Hid (GameAt S w1.heap.size wr b R (ms.take (ms.length - j)) up us ue vl vm rows) ∧ Hid (Held S wr fun w' => RdL moveEl w' (.slice am K cm) ms) ∧ Hid (Held S wr fun w' => RdP w' (nowZ R ms) (.slice ya (nowZ R ms).cells.length yn) (.slice ya0 (nowZ R ms).h0.length yn0) (.slice ya1 (nowZ R ms).h1.length yn1)) ∧ Hid (Held S wr fun w' => Box w' bp [.slice ya (nowZ R ms).cells.length yn, .slice ya0 (nowZ R ms).h0.length yn0, .slice ya1 (nowZ R ms).h1.length yn1, .int .i64 (nowZ R ms).turn, .int .i64 (nowZ R ms).quiet] 37) ∧ Hid (Below w1.heap.size w1 wr)) (fun i _ => T - (intOf i).toNat)
      case atStart => exact ⟨0, S, vl, vm, rows, Nat.zero_le _, rfl, Lib.hid (by rw [Nat.sub_zero, List.take_of_length_le (Nat.le_refl _)]; exact HG6.out), HLM6, HLP6, HBP6, HL6⟩
      case round =>
        clear HG6 HLM6 HLP6 HBP6 HL6
        obtain ⟨j, S, vl, vm, rows, hj, rfl, HG6, HLM6, HLP6, HBP6, HL6⟩ := hrel
        by_cases hjT : j < T
        · go_wp2_with fail
          refine (Back_any _ HG6.out HL6.out.size).mono ?_
          rintro e y2 (⟨hbad, -⟩ | ⟨q, hq, rfl, vl', vm', rows', hg2, hf2⟩)
          · rw [List.length_take] at hbad; have := HKL.out; omega
          have HG7 : Hid (GameAt S w1.heap.size y2 b R (ms.take (ms.length - (j + 1))) up us ue vl' vm' rows') := Lib.hid (by rw [← take_back ms j q hq]; exact hg2)
          have HLM7 := Lib.hid (HLM6.out.step hf2 (Shr.refl _ _))
          have HLP7 := Lib.hid (HLP6.out.step hf2 (Shr.refl _ _))
          have HBP7 := Lib.hid (HBP6.out.step hf2 (Shr.refl _ _))
          have HL7 := Lib.hid (HL6.out.trans (HG6.out.frame hf2 HL6.out.size))
          clear hg2 hf2 hq HG6 HLM6 HLP6 HBP6 HL6
          go_wp2_with fail
          go_roundw
          case rel => exact ⟨j + 1, S, vl', vm', rows', by omega, by go_num, HG7, HLM7, HLP7, HBP7, HL7⟩
          case measure => simp [intOf]; omega
        · obtain rfl : j = T := by omega
          clear hjT
          go_wp2_with fail
          refine (gameMoves_any _ HG6.out).mono ?_
          rintro e y2 ⟨vm2, rfl, hm2, hb2⟩
          have HG7 := Lib.hid (HG6.out.below hb2)
          have HLM7 := Lib.hid (HLM6.out.step (Fr.of_new (S := S) hb2) (Shr.refl _ _))
          have HLP7 := Lib.hid (HLP6.out.step (Fr.of_new (S := S) hb2) (Shr.refl _ _))
          have HBP7 := Lib.hid (HBP6.out.step (Fr.of_new (S := S) hb2) (Shr.refl _ _))
          have HL7 := Lib.hid (below_trans HL6.out hb2 HL6.out.size)
          obtain ⟨a2, c2, rfl⟩ := own_form2 hm2
          clear hb2 hm2 HG6 HLM6 HLP6 HBP6 HL6
          have hkt : (ms.take (ms.length - j)).length = K - j := by have := HKL.out; rw [List.length_take]; omega
          obtain ⟨D, hD⟩ : ∃ D, D = K - j := ⟨_, rfl⟩
          have hDK : D ≤ K := by omega
          rw [hkt, ← hD]
          have hsd : ∀ w' : World, (Instr.slice 32 (.slice am K cm) (some (.int .i64 (D : Int))) none none).run Try.prog w' = .ok (.slice (subAddr am cm D 3) (K - D) (cm - D)) w' := fun w' =>
            run_drop (P := Try.prog) (t := 32) (s := 3) Try.underlying32 (fun w => by kernel_rfl) am K cm D hDK w'
          have HLD7 : Hid (Held S y2 fun w' => RdL moveEl w' (.slice (subAddr am cm D 3) (K - D) (cm - D)) (ms.drop D)) := Lib.hid (HLM7.out.imp (fun w' h => by
            have h' := HKL.out
            subst h'
            exact h.drop D (by omega)))
          obtain ⟨N, hN⟩ : ∃ N, N = K - D := ⟨_, rfl⟩
          have hND : D + N = K := by omega
          have HGD : Hid (GameAt S w1.heap.size y2 b R (ms.take (D + 0)) up us ue vl vm rows) := Lib.hid (by
            have := HG7.out
            rw [show ms.length - j = D by have := HKL.out; omega] at this
            exact this)
          rw [← hN] at hsd HLD7
          clear hkt hD hN HG7
          go_wp2_with fail
          clear hsd
          obtain ⟨wB, rfl⟩ : ∃ wB : World, wB = wr := ⟨_, rfl⟩
          go_loopw [111, 19] (fun vi a19 wr => ∃ (i : Nat) (S : Nat → Prop) (vl vm : Value) (rows : List PosV), i ≤ N ∧ vi = .int .i64 i ∧ Hid (GameAt S w1.heap.size wr b R (ms.take (D + i)) up us ue vl vm rows) ∧ Hid (Held S wr fun w' => RdL moveEl w' (.slice am K cm) ms) ∧ Hid (Held S wr fun w' => RdL moveEl w' (.slice (subAddr am cm D 3) N (cm - D)) (ms.drop D)) ∧ Hid (Held S wr fun w' => RdP w' (nowZ R ms) (.slice ya (nowZ R ms).cells.length yn) (.slice ya0 (nowZ R ms).h0.length yn0) (.slice ya1 (nowZ R ms).h1.length yn1)) ∧ Hid (Held S wr fun w' => Box w' bp [.slice ya (nowZ R ms).cells.length yn, .slice ya0 (nowZ R ms).h0.length yn0, .slice ya1 (nowZ R ms).h1.length yn1, .int .i64 (nowZ R ms).turn, .int .i64 (nowZ R ms).quiet] 37) ∧ Hid (Below w1.heap.size w1 wr)) (fun i _ _ => N - (intOf i).toNat)
          case atStart => exact ⟨0, S, vl, vm, rows, Nat.zero_le _, rfl, HGD, HLM7, HLD7, HLP7, HBP7, HL7⟩
          case round =>
            clear HGD HLM7 HLD7 HLP7 HBP7 HL7
            obtain ⟨i, S, vl, vm, rows, hi, rfl, HG7, HLM7, HLD7, HLP7, HBP7, HL7⟩ := hrel
            have hbw : w1.heap.size ≤ wr.heap.size := HL7.out.size
            by_cases hiN : i < N
            · have hdl : i < (ms.drop D).length := by have := HKL.out; rw [List.length_drop]; omega
              have HLDn := Lib.hid HLD7.out.now
              obtain ⟨gd, od, ha, hgd, hcc⟩ := moves_some HLDn.out (by omega)
              obtain ⟨c0, c1, c2⟩ := hcc i hdl
              have HMG : Hid ((ms.drop D).getD i default = ms.getD (D + i) default) := Lib.hid (by rw [List.getD_eq_getElem?_getD, List.getD_eq_getElem?_getD, List.getElem?_drop])
              have HPK := Lib.hid (HPl.out (D + i) (by have := HKL.out; omega))
              have HTN := Lib.hid (take_next ms (D + i) (by have := HKL.out; omega))
              rw [HMG.out] at c0 c1 c2
              rw [ha] at HLD7 ⊢
              clear hcc HMG hdl HLDn
              generalize ms.getD (D + i) default = m at *
              go_upto_region 26 with (fail)
              have HBm := Lib.hid (Box.new wr [.int .i64 m.src, .int .i64 m.dst, .int .i64 m.piece] 42)
              have hal := ((Below.refl wr.heap.size wr).alloc (Nat.le_refl _) (.cells #[.int .i64 m.src, .int .i64 m.dst, .int .i64 m.piece] 42))
              have HG8 := Lib.hid (HG7.out.below hal)
              have HLM8 := Lib.hid (HLM7.out.step (Fr.of_new (S := S) hal) (Shr.refl _ _))
              have HLD8 := Lib.hid (HLD7.out.step (Fr.of_new (S := S) hal) (Shr.refl _ _))
              have HLP8 := Lib.hid (HLP7.out.step (Fr.of_new (S := S) hal) (Shr.refl _ _))
              have HBP8 := Lib.hid (HBP7.out.step (Fr.of_new (S := S) hal) (Shr.refl _ _))
              have HL8 := Lib.hid (below_trans HL7.out hal HL7.out.size)
              have hz8 : wr.heap.size < (wr.alloc (.cells #[.int .i64 m.src, .int .i64 m.dst, .int .i64 m.piece] 42)).heap.size := by simp
              clear c0 c1 c2 hal HG7 HLM7 HLD7 HLP7 HBP7 HL7
              generalize (wr.alloc (.cells #[.int .i64 m.src, .int .i64 m.dst, .int .i64 m.piece] 42)) = y3 at *
              have d0 := HBm.out.cell 0 rfl
              have d1 := HBm.out.cell 1 rfl
              have d2 := HBm.out.cell 2 rfl
              go_wp2_with fail
              refine (Play_any HSh.out m y3 HG8.out HL8.out.size).mono ?_
              rintro e y4 (⟨hbad, -⟩ | ⟨hok, rfl, S', vl', vm', rows', hg4, hsh, hf4⟩)
              · exact absurd HPK.out hbad
              have HG9 : Hid (GameAt S' w1.heap.size y4 b R (ms.take (D + (i + 1))) up us ue vl' vm' rows') := Lib.hid (by rw [← Nat.add_assoc, ← HTN.out]; exact hg4)
              have HLM9 := Lib.hid (HLM8.out.step hf4 hsh)
              have HLD9 := Lib.hid (HLD8.out.step hf4 hsh)
              have HLP9 := Lib.hid (HLP8.out.step hf4 hsh)
              have HBP9 := Lib.hid (HBP8.out.step hf4 hsh)
              have HL9 := Lib.hid (HL8.out.trans (HG8.out.frame hf4 HL8.out.size))
              clear hok hg4 hsh hf4 d0 d1 d2
              go_wp2_with fail
              go_roundw
              case rel => exact ⟨i + 1, S', vl', vm', rows', by omega, by go_num, HG9, HLM9, HLD9, HLP9, HBP9, HL9⟩
              case measure => simp [intOf]; omega
            · obtain rfl : i = N := by omega
              have HG8 : Hid (GameAt S w1.heap.size wr b R ms up us ue vl vm rows) := Lib.hid (by
                have := HG7.out
                rwa [hND, List.take_of_length_le (by have := HKL.out; omega)] at this)
              have hms24 : ms.length ≤ 1000000 := by omega
              clear HG7 HLD7 hiN
              go_upto_region 29 with (fail)
              generalize wr = wq at *
              have Gz : GameAt S w1.heap.size wq.drew b R ms up us ue vl vm rows := HG8.out.below (below_drew' (Below.refl _ _))
              have LMz : Held S wq.drew fun w' => RdL moveEl w' (.slice am K cm) ms := HLM7.out.step ((Fr.refl _ wq).drew) (Shr.refl _ _)
              have LPz : Held S wq.drew fun w' => RdP w' (nowZ R ms) (.slice ya (nowZ R ms).cells.length yn) (.slice ya0 (nowZ R ms).h0.length yn0) (.slice ya1 (nowZ R ms).h1.length yn1) := HLP7.out.step ((Fr.refl _ wq).drew) (Shr.refl _ _)
              have BPz : Held S wq.drew fun w' => Box w' bp [.slice ya (nowZ R ms).cells.length yn, .slice ya0 (nowZ R ms).h0.length yn0, .slice ya1 (nowZ R ms).h1.length yn1, .int .i64 (nowZ R ms).turn, .int .i64 (nowZ R ms).quiet] 37 := HBP7.out.step ((Fr.refl _ wq).drew) (Shr.refl _ _)
              have Lz : Below w1.heap.size w1 wq.drew := below_drew' HL7.out
              clear HG8 HLM7 HLP7 HBP7 HL7 hbw
              refine wp_region_noPanic ?_
              refine beginL (S := (fun w' => w'.cell? ⟨bp, 0, none⟩ = some (.slice ya (nowZ R ms).cells.length yn) ∧ w'.cell? ⟨bp, 1, none⟩ = some (.slice ya0 (nowZ R ms).h0.length yn0) ∧ w'.cell? ⟨bp, 2, none⟩ = some (.slice ya1 (nowZ R ms).h1.length yn1) ∧ w'.cell? ⟨bp, 3, none⟩ = some (.int .i64 (nowZ R ms).turn) ∧ w'.cell? ⟨bp, 4, none⟩ = some (.int .i64 (nowZ R ms).quiet))) (L := []) (by kernel_rfl) ⟨BPz.now.cell 0 rfl, BPz.now.cell 1 rfl, BPz.now.cell 2 rfl, BPz.now.cell 3 rfl, BPz.now.cell 4 rfl⟩ (fun hHeld => ?_)
              refine takeW (i := 0) (oi := { dst := some 120, op := Op.move (Operand.tmp 13), type := 32, pos := "mm.go:280", after := #[], guard := none }) (v := ?va1001) rfl (by kernel_rfl) (by kernel_rfl) (by kernel_rfl) rfl (fun _ _ _ h => h) (Or.inl ⟨by rfl, ?ya1001⟩) (fun _ => by assumption) ?ra1001
              case ya1001 => (intro w _; go_simp; first | done | (with_reducible rfl) | (rw [if_neg (by omega)]))
              try simp only [Act.put, List.setIfInBounds_toArray, List.set_cons_zero, List.set_cons_succ]
              refine takeW (i := 1) (oi := { dst := some 121, op := Op.move (Operand.tmp 7), type := 28, pos := "mm.go:280", after := #[], guard := none }) (v := ?va1002) rfl (by kernel_rfl) (by kernel_rfl) (by kernel_rfl) rfl (fun _ _ _ h => h) (Or.inl ⟨by rfl, ?ya1002⟩) (fun _ => by assumption) ?ra1002
              case ya1002 => (intro w _; go_simp; first | done | (with_reducible rfl) | (rw [if_neg (by omega)]))
              try simp only [Act.put, List.setIfInBounds_toArray, List.set_cons_zero, List.set_cons_succ]
              refine readyL (rs := [2]) (by kernel_rfl) (by simp) ?_
              refine (AllReadyL.cons (o := { dst := some 122, op := Op.call { callee := Callee.value (Operand.func 21), args := #[Operand.tmp 121], argTypes := #[28] }, type := 32, pos := "mm.go:280", after := #[{ on := 1, ground := Ground.data }], guard := none }) rfl (fun K hK => ?_) AllReadyL.nil)
              go_simp
              refine (gameMoves_any _ Gz).mono ?_
              rintro e y2 ⟨vm2, rfl, hm2, hb2⟩
              have G2 := Gz.below hb2
              have LM2 := LMz.step (Fr.of_new (S := S) hb2) (Shr.refl _ _)
              have LP2 := LPz.step (Fr.of_new (S := S) hb2) (Shr.refl _ _)
              have BP2 := BPz.step (Fr.of_new (S := S) hb2) (Shr.refl _ _)
              have L2 := below_trans Lz hb2 Lz.size
              clear hb2
              refine hK.out _ _ ⟨BP2.now.cell 0 rfl, BP2.now.cell 1 rfl, BP2.now.cell 2 rfl, BP2.now.cell 3 rfl, BP2.now.cell 4 rfl⟩ (fun hHeld => ?_)
              clear hK K
              try simp only [Act.put, List.setIfInBounds_toArray, List.set_cons_zero, List.set_cons_succ]
              refine readyL (rs := [3]) (by kernel_rfl) (by simp) ?_
              refine (AllReadyL.cons (o := { dst := some 123, op := Op.call { callee := Callee.value (Operand.func 24), args := #[Operand.tmp 120, Operand.tmp 122], argTypes := #[32, 32] }, type := 4, pos := "mm.go:280", after := #[{ on := 0, ground := Ground.data }, { on := 2, ground := Ground.data }, { on := 2, ground := Ground.chain }], guard := none }) rfl (fun K hK => ?_) AllReadyL.nil)
              go_simp
              refine (equalMv_any _ _ ms ms y2 LM2.now (rdM_of_own hm2) (by omega)).mono ?_
              rintro e y3 ⟨rfl, hb3⟩
              rw [show decide (ms = ms) = true by simp]
              have G3 := G2.below hb3
              have LM3 := LM2.step (Fr.of_new (S := S) hb3) (Shr.refl _ _)
              have LP3 := LP2.step (Fr.of_new (S := S) hb3) (Shr.refl _ _)
              have BP3 := BP2.step (Fr.of_new (S := S) hb3) (Shr.refl _ _)
              have L3 := below_trans L2 hb3 L2.size
              clear hb3
              refine hK.out _ _ ⟨BP3.now.cell 0 rfl, BP3.now.cell 1 rfl, BP3.now.cell 2 rfl, BP3.now.cell 3 rfl, BP3.now.cell 4 rfl⟩ (fun hHeld => ?_)
              clear hK K
              try simp only [Act.put, List.setIfInBounds_toArray, List.set_cons_zero, List.set_cons_succ]
              refine takeW (i := 4) (oi := { dst := some 124, op := Op.move (Operand.tmp 123), type := 4, pos := "mm.go:280", after := #[{ on := 3, ground := Ground.data }, { on := 3, ground := Ground.chain }], guard := none }) (v := ?va1003) rfl (by kernel_rfl) (by kernel_rfl) (by kernel_rfl) rfl (fun _ _ _ h => h) (Or.inl ⟨by rfl, ?ya1003⟩) (fun _ => by assumption) ?ra1003
              case ya1003 => (intro w _; go_simp; first | done | (with_reducible rfl) | (rw [if_neg (by omega)]))
              try simp only [Act.put, List.setIfInBounds_toArray, List.set_cons_zero, List.set_cons_succ]
              refine takeL (i := 5) (oi := { dst := some 125, op := Op.load 37 (Operand.tmp 14), type := 37, pos := "mm.go:280", after := #[{ on := 4, ground := Ground.guard }], guard := some (4, true) }) (v := ?va1004) rfl (by kernel_rfl) (by kernel_rfl) (by kernel_rfl) (by kernel_rfl) rfl (by kernel_rfl) (by kernel_rfl) (fun _ _ _ h => h) (Or.inl ⟨by rfl, ?ya1004⟩) (by assumption) ?ra1004
              case ya1004 => (intro w hSw; (try dsimp only at hSw); go_simp; first | done | (with_reducible rfl))
              try simp only [Act.put, List.setIfInBounds_toArray, List.set_cons_zero, List.set_cons_succ]
              refine takeW (i := 6) (oi := { dst := some 126, op := Op.move (Operand.tmp 7), type := 28, pos := "mm.go:280", after := #[{ on := 4, ground := Ground.guard }], guard := some (4, true) }) (v := ?va1005) rfl (by kernel_rfl) (by kernel_rfl) (by kernel_rfl) rfl (fun _ _ _ h => h) (Or.inl ⟨by rfl, ?ya1005⟩) (fun _ => by assumption) ?ra1005
              case ya1005 => (intro w _; go_simp; first | done | (with_reducible rfl) | (rw [if_neg (by omega)]))
              try simp only [Act.put, List.setIfInBounds_toArray, List.set_cons_zero, List.set_cons_succ]
              refine readyL (rs := [7]) (by kernel_rfl) (by simp) ?_
              refine (AllReadyL.cons (o := { dst := some 127, op := Op.call { callee := Callee.value (Operand.func 18), args := #[Operand.tmp 126], argTypes := #[28] }, type := 37, pos := "mm.go:280", after := #[{ on := 6, ground := Ground.data }, { on := 4, ground := Ground.chain }, { on := 4, ground := Ground.guard }], guard := some (4, true) }) rfl (fun K hK => ?_) AllReadyL.nil)
              go_simp
              refine (gamePos_any _ G3).mono ?_
              rintro e y4 ⟨uc, u0, u1, rfl, hp4, hb4⟩
              have G4 := G3.below hb4
              have LM4 := LM3.step (Fr.of_new (S := S) hb4) (Shr.refl _ _)
              have LP4 := LP3.step (Fr.of_new (S := S) hb4) (Shr.refl _ _)
              have BP4 := BP3.step (Fr.of_new (S := S) hb4) (Shr.refl _ _)
              have L4 := below_trans L3 hb4 L3.size
              clear hb4
              refine hK.out _ _ ⟨BP4.now.cell 0 rfl, BP4.now.cell 1 rfl, BP4.now.cell 2 rfl, BP4.now.cell 3 rfl, BP4.now.cell 4 rfl⟩ (fun hHeld => ?_)
              clear hK K
              try simp only [Act.put, List.setIfInBounds_toArray, List.set_cons_zero, List.set_cons_succ]
              refine readyL (rs := [8]) (by kernel_rfl) (by simp) ?_
              refine (AllReadyL.cons (o := { dst := some 128, op := Op.call { callee := Callee.value (Operand.func 25), args := #[Operand.tmp 125, Operand.tmp 127], argTypes := #[37, 37] }, type := 4, pos := "mm.go:280", after := #[{ on := 5, ground := Ground.data }, { on := 7, ground := Ground.data }, { on := 7, ground := Ground.chain }, { on := 4, ground := Ground.guard }], guard := some (4, true) }) rfl (fun K hK => ?_) AllReadyL.nil)
              go_simp
              refine (bSame_any (nowZ R ms) (nowZ R ms) (.slice ya (nowZ R ms).cells.length yn) (.slice ya0 (nowZ R ms).h0.length yn0) (.slice ya1 (nowZ R ms).h1.length yn1) uc u0 u1 y4 LP4.now hp4.rd).mono ?_
              rintro e y5 ⟨rfl, hb5⟩
              rw [sameZ_self]
              have G5 := G4.below hb5
              have LM5 := LM4.step (Fr.of_new (S := S) hb5) (Shr.refl _ _)
              have LP5 := LP4.step (Fr.of_new (S := S) hb5) (Shr.refl _ _)
              have BP5 := BP4.step (Fr.of_new (S := S) hb5) (Shr.refl _ _)
              have L5 := below_trans L4 hb5 L4.size
              clear hb5
              refine hK.out _ _ ⟨BP5.now.cell 0 rfl, BP5.now.cell 1 rfl, BP5.now.cell 2 rfl, BP5.now.cell 3 rfl, BP5.now.cell 4 rfl⟩ (fun hHeld => ?_)
              clear hK K
              try simp only [Act.put, List.setIfInBounds_toArray, List.set_cons_zero, List.set_cons_succ]
              refine takeW (i := 9) (oi := { dst := some 129, op := Op.pick (Operand.tmp 124) (Operand.tmp 128) (Operand.const (Value.bool false)), type := 4, pos := "mm.go:280", after := #[{ on := 4, ground := Ground.data }, { on := 8, ground := Ground.data }], guard := none }) (v := ?va1006) rfl (by kernel_rfl) (by kernel_rfl) (by kernel_rfl) rfl (fun _ _ _ h => h) (Or.inl ⟨by rfl, ?ya1006⟩) (fun _ => by assumption) ?ra1006
              case ya1006 => (intro w _; go_simp; first | done | (with_reducible rfl) | (rw [if_neg (by omega)]))
              try simp only [Act.put, List.setIfInBounds_toArray, List.set_cons_zero, List.set_cons_succ]
              refine takeW (i := 10) (oi := { dst := some 130, op := Op.move (Operand.tmp 129), type := 4, pos := "mm.go:280", after := #[{ on := 9, ground := Ground.data }, { on := 8, ground := Ground.chain }], guard := none }) (v := ?va1007) rfl (by kernel_rfl) (by kernel_rfl) (by kernel_rfl) rfl (fun _ _ _ h => h) (Or.inl ⟨by rfl, ?ya1007⟩) (fun _ => by assumption) ?ra1007
              case ya1007 => (intro w _; go_simp; first | done | (with_reducible rfl) | (rw [if_neg (by omega)]))
              try simp only [Act.put, List.setIfInBounds_toArray, List.set_cons_zero, List.set_cons_succ]
              refine takeW (i := 11) (oi := { dst := some 131, op := Op.move (Operand.tmp 15), type := 3, pos := "mm.go:280", after := #[{ on := 10, ground := Ground.guard }], guard := some (10, true) }) (v := ?va1008) rfl (by kernel_rfl) (by kernel_rfl) (by kernel_rfl) rfl (fun _ _ _ h => h) (Or.inl ⟨by rfl, ?ya1008⟩) (fun _ => by assumption) ?ra1008
              case ya1008 => (intro w _; go_simp; first | done | (with_reducible rfl) | (rw [if_neg (by omega)]))
              try simp only [Act.put, List.setIfInBounds_toArray, List.set_cons_zero, List.set_cons_succ]
              refine takeW (i := 12) (oi := { dst := some 132, op := Op.move (Operand.tmp 7), type := 28, pos := "mm.go:280", after := #[{ on := 10, ground := Ground.guard }], guard := some (10, true) }) (v := ?va1009) rfl (by kernel_rfl) (by kernel_rfl) (by kernel_rfl) rfl (fun _ _ _ h => h) (Or.inl ⟨by rfl, ?ya1009⟩) (fun _ => by assumption) ?ra1009
              case ya1009 => (intro w _; go_simp; first | done | (with_reducible rfl) | (rw [if_neg (by omega)]))
              try simp only [Act.put, List.setIfInBounds_toArray, List.set_cons_zero, List.set_cons_succ]
              refine readyL (rs := [13]) (by kernel_rfl) (by simp) ?_
              refine (AllReadyL.cons (o := { dst := some 133, op := Op.call { callee := Callee.value (Operand.func 19), args := #[Operand.tmp 132], argTypes := #[28] }, type := 3, pos := "mm.go:280", after := #[{ on := 12, ground := Ground.data }, { on := 10, ground := Ground.chain }, { on := 10, ground := Ground.guard }], guard := some (10, true) }) rfl (fun K hK => ?_) AllReadyL.nil)
              go_simp
              refine (gameRes_any HSh.out _ G5).mono ?_
              rintro e y6 ⟨rfl, hb6⟩
              have G6 := G5.below hb6
              have LM6 := LM5.step (Fr.of_new (S := S) hb6) (Shr.refl _ _)
              have LP6 := LP5.step (Fr.of_new (S := S) hb6) (Shr.refl _ _)
              have BP6 := BP5.step (Fr.of_new (S := S) hb6) (Shr.refl _ _)
              have L6 := below_trans L5 hb6 L5.size
              clear hb6
              rw [HGR.out]
              refine hK.out _ _ ⟨BP6.now.cell 0 rfl, BP6.now.cell 1 rfl, BP6.now.cell 2 rfl, BP6.now.cell 3 rfl, BP6.now.cell 4 rfl⟩ (fun hHeld => ?_)
              clear hK K
              try simp only [Act.put, List.setIfInBounds_toArray, List.set_cons_zero, List.set_cons_succ]
              refine takeW (i := 14) (oi := { dst := some 134, op := Op.binOp BinOp.eql 3 (Operand.tmp 131) (Operand.tmp 133) 3, type := 4, pos := "mm.go:280", after := #[{ on := 11, ground := Ground.data }, { on := 13, ground := Ground.data }, { on := 10, ground := Ground.guard }], guard := some (10, true) }) (v := ?va1010) rfl (by kernel_rfl) (by kernel_rfl) (by kernel_rfl) rfl (fun _ _ _ h => h) (Or.inl ⟨by rfl, ?ya1010⟩) (fun _ => by assumption) ?ra1010
              case ya1010 => (intro w _; go_simp; first | done | (with_reducible rfl) | (rw [if_neg (by omega)]))
              try simp only [Act.put, List.setIfInBounds_toArray, List.set_cons_zero, List.set_cons_succ]
              refine takeW (i := 15) (oi := { dst := some 135, op := Op.pick (Operand.tmp 130) (Operand.tmp 134) (Operand.const (Value.bool false)), type := 4, pos := "mm.go:280", after := #[{ on := 10, ground := Ground.data }, { on := 14, ground := Ground.data }], guard := none }) (v := ?va1011) rfl (by kernel_rfl) (by kernel_rfl) (by kernel_rfl) rfl (fun _ _ _ h => h) (Or.inl ⟨by rfl, ?ya1011⟩) (fun _ => by assumption) ?ra1011
              case ya1011 => (intro w _; go_simp; first | done | (with_reducible rfl) | (rw [if_neg (by omega)]))
              try simp only [Act.put, List.setIfInBounds_toArray, List.set_cons_zero, List.set_cons_succ]
              refine takeW (i := 16) (oi := { dst := some 136, op := Op.move (Operand.tmp 135), type := 4, pos := "mm.go:280", after := #[{ on := 15, ground := Ground.data }, { on := 13, ground := Ground.chain }], guard := none }) (v := ?va1012) rfl (by kernel_rfl) (by kernel_rfl) (by kernel_rfl) rfl (fun _ _ _ h => h) (Or.inl ⟨by rfl, ?ya1012⟩) (fun _ => by assumption) ?ra1012
              case ya1012 => (intro w _; go_simp; first | done | (with_reducible rfl) | (rw [if_neg (by omega)]))
              try simp only [Act.put, List.setIfInBounds_toArray, List.set_cons_zero, List.set_cons_succ]
              refine takeW (i := 17) (oi := { dst := some 137, op := Op.move (Operand.tmp 16), type := 3, pos := "mm.go:280", after := #[{ on := 16, ground := Ground.guard }], guard := some (16, true) }) (v := ?va1013) rfl (by kernel_rfl) (by kernel_rfl) (by kernel_rfl) rfl (fun _ _ _ h => h) (Or.inl ⟨by rfl, ?ya1013⟩) (fun _ => by assumption) ?ra1013
              case ya1013 => (intro w _; go_simp; first | done | (with_reducible rfl) | (rw [if_neg (by omega)]))
              try simp only [Act.put, List.setIfInBounds_toArray, List.set_cons_zero, List.set_cons_succ]
              refine takeW (i := 18) (oi := { dst := some 138, op := Op.move (Operand.tmp 7), type := 28, pos := "mm.go:280", after := #[{ on := 16, ground := Ground.guard }], guard := some (16, true) }) (v := ?va1014) rfl (by kernel_rfl) (by kernel_rfl) (by kernel_rfl) rfl (fun _ _ _ h => h) (Or.inl ⟨by rfl, ?ya1014⟩) (fun _ => by assumption) ?ra1014
              case ya1014 => (intro w _; go_simp; first | done | (with_reducible rfl) | (rw [if_neg (by omega)]))
              try simp only [Act.put, List.setIfInBounds_toArray, List.set_cons_zero, List.set_cons_succ]
              refine readyL (rs := [19]) (by kernel_rfl) (by simp) ?_
              refine (AllReadyL.cons (o := { dst := some 139, op := Op.call { callee := Callee.value (Operand.func 22), args := #[Operand.tmp 138], argTypes := #[28] }, type := 3, pos := "mm.go:280", after := #[{ on := 18, ground := Ground.data }, { on := 16, ground := Ground.chain }, { on := 16, ground := Ground.guard }], guard := some (16, true) }) rfl (fun K hK => ?_) AllReadyL.nil)
              go_simp
              refine (count_any _ G6).mono ?_
              rintro e y7 ⟨rfl, hb7⟩
              have G7 := G6.below hb7
              have LM7 := LM6.step (Fr.of_new (S := S) hb7) (Shr.refl _ _)
              have LP7 := LP6.step (Fr.of_new (S := S) hb7) (Shr.refl _ _)
              have BP7 := BP6.step (Fr.of_new (S := S) hb7) (Shr.refl _ _)
              have L7 := below_trans L6 hb7 L6.size
              clear hb7
              rw [HGC.out]
              refine hK.out _ _ ⟨BP7.now.cell 0 rfl, BP7.now.cell 1 rfl, BP7.now.cell 2 rfl, BP7.now.cell 3 rfl, BP7.now.cell 4 rfl⟩ (fun hHeld => ?_)
              clear hK K
              try simp only [Act.put, List.setIfInBounds_toArray, List.set_cons_zero, List.set_cons_succ]
              refine takeW (i := 20) (oi := { dst := some 140, op := Op.binOp BinOp.eql 3 (Operand.tmp 137) (Operand.tmp 139) 3, type := 4, pos := "mm.go:280", after := #[{ on := 17, ground := Ground.data }, { on := 19, ground := Ground.data }, { on := 16, ground := Ground.guard }], guard := some (16, true) }) (v := ?va1015) rfl (by kernel_rfl) (by kernel_rfl) (by kernel_rfl) rfl (fun _ _ _ h => h) (Or.inl ⟨by rfl, ?ya1015⟩) (fun _ => by assumption) ?ra1015
              case ya1015 => (intro w _; go_simp; first | done | (with_reducible rfl) | (rw [if_neg (by omega)]))
              try simp only [Act.put, List.setIfInBounds_toArray, List.set_cons_zero, List.set_cons_succ]
              refine takeW (i := 21) (oi := { dst := some 141, op := Op.pick (Operand.tmp 136) (Operand.tmp 140) (Operand.const (Value.bool false)), type := 4, pos := "mm.go:280", after := #[{ on := 16, ground := Ground.data }, { on := 20, ground := Ground.data }], guard := none }) (v := ?va1016) rfl (by kernel_rfl) (by kernel_rfl) (by kernel_rfl) rfl (fun _ _ _ h => h) (Or.inl ⟨by rfl, ?ya1016⟩) (fun _ => by assumption) ?ra1016
              case ya1016 => (intro w _; go_simp; first | done | (with_reducible rfl) | (rw [if_neg (by omega)]))
              try simp only [Act.put, List.setIfInBounds_toArray, List.set_cons_zero, List.set_cons_succ]
              refine takeW (i := 22) (oi := { dst := some 6, op := Op.assign (Operand.tmp 141), type := 4, pos := "mm.go:280", after := #[{ on := 21, ground := Ground.data }, { on := 19, ground := Ground.chain }, { on := 0, ground := Ground.phase }, { on := 1, ground := Ground.phase }, { on := 2, ground := Ground.phase }, { on := 3, ground := Ground.phase }, { on := 4, ground := Ground.phase }, { on := 5, ground := Ground.phase }, { on := 6, ground := Ground.phase }, { on := 7, ground := Ground.phase }, { on := 8, ground := Ground.phase }, { on := 9, ground := Ground.phase }, { on := 10, ground := Ground.phase }, { on := 11, ground := Ground.phase }, { on := 12, ground := Ground.phase }, { on := 13, ground := Ground.phase }, { on := 14, ground := Ground.phase }, { on := 15, ground := Ground.phase }, { on := 16, ground := Ground.phase }, { on := 17, ground := Ground.phase }, { on := 18, ground := Ground.phase }, { on := 19, ground := Ground.phase }, { on := 20, ground := Ground.phase }, { on := 21, ground := Ground.phase }], guard := none }) (v := ?va1017) rfl (by kernel_rfl) (by kernel_rfl) (by kernel_rfl) rfl (fun _ _ _ h => h) (Or.inl ⟨by rfl, ?ya1017⟩) (fun _ => by assumption) ?ra1017
              case ya1017 => (intro w _; go_simp; first | done | (with_reducible rfl) | (rw [if_neg (by omega)]))
              try simp only [Act.put, List.setIfInBounds_toArray, List.set_cons_zero, List.set_cons_succ]
              refine doneL (by kernel_rfl) ?_ _
              refine NoPanic.normal ?_
              have HL7 := Lib.hid (below_trans HL1.out L7 HL1.out.size)
              clear hHeld
              go_wp2_with fail
              go_ret
              exact ⟨rfl, HL7.out⟩
    have HBw := Lib.hid (below_trans HL1.out HBr.out HL1.out.size)
    have HXr := Lib.hid (HC0.out.below HBr.out HC0.out.lt)
    obtain ⟨gi, oi, rfl, hcc⟩ := cells_rd (HL.out.below HBw.out (Nat.le_refl _)) (by omega)
    have ck := hcc k (by omega)
    clear hcc
    generalize picks.getD k 0 = z at *
    go_upto_region 9 with (fail)
    clear ck
    have hpz : posErr R (nowZ R ms) = 0 := pos_of HRe.out HGr.out.nok
    have haz : allZ R (nowZ R ms) = listZ R (nowZ R ms) := by unfold allZ; rw [if_pos hpz]
    generalize wr = wq at *
    have BRz : Box wq.drew w.heap.size [.string R.name, .int .i64 R.width, .int .i64 R.height, vp, vs, .bool R.falls, .bool R.keeps, ve, .int .i64 R.blocked, .int .i64 R.quiet, .int .i64 R.rept] 26 := HXr.out
    have Gz : GameAt S w1.heap.size wq.drew b R ms up us ue vl vm rows := HGr.out.below (below_drew' (Below.refl _ _))
    have Lz : Below w1.heap.size w1 wq.drew := below_drew' HBr.out
    have LBz : Below w.heap.size w wq.drew := below_drew' HBw.out
    clear HGr HBr HBw HXr hsz
    refine wp_region_noPanic ?_
    refine beginL (S := (fun w' => w'.cell? ⟨w.heap.size, 0, none⟩ = some (.string R.name) ∧ w'.cell? ⟨w.heap.size, 1, none⟩ = some (.int .i64 R.width) ∧ w'.cell? ⟨w.heap.size, 2, none⟩ = some (.int .i64 R.height) ∧ w'.cell? ⟨w.heap.size, 3, none⟩ = some vp ∧ w'.cell? ⟨w.heap.size, 4, none⟩ = some vs ∧ w'.cell? ⟨w.heap.size, 5, none⟩ = some (.bool R.falls) ∧ w'.cell? ⟨w.heap.size, 6, none⟩ = some (.bool R.keeps) ∧ w'.cell? ⟨w.heap.size, 7, none⟩ = some ve ∧ w'.cell? ⟨w.heap.size, 8, none⟩ = some (.int .i64 R.blocked) ∧ w'.cell? ⟨w.heap.size, 9, none⟩ = some (.int .i64 R.quiet) ∧ w'.cell? ⟨w.heap.size, 10, none⟩ = some (.int .i64 R.rept))) (L := []) (by kernel_rfl) ⟨BRz.cell 0 rfl, BRz.cell 1 rfl, BRz.cell 2 rfl, BRz.cell 3 rfl, BRz.cell 4 rfl, BRz.cell 5 rfl, BRz.cell 6 rfl, BRz.cell 7 rfl, BRz.cell 8 rfl, BRz.cell 9 rfl, BRz.cell 10 rfl⟩ (fun hHeld => ?_)
    refine takeL (i := 0) (oi := { dst := some 46, op := Op.load 26 (Operand.tmp 3), type := 26, pos := "mm.go:257", after := #[], guard := none }) (v := ?va1) rfl (by kernel_rfl) (by kernel_rfl) (by kernel_rfl) (by kernel_rfl) rfl (by kernel_rfl) (by kernel_rfl) (fun _ _ _ h => h) (Or.inl ⟨by rfl, ?ya1⟩) (by assumption) ?ra1
    case ya1 => (intro w hSw; (try dsimp only at hSw); go_simp; first | done | (with_reducible rfl))
    try simp only [Act.put, List.setIfInBounds_toArray, List.set_cons_zero, List.set_cons_succ]
    refine takeW (i := 1) (oi := { dst := some 47, op := Op.move (Operand.tmp 7), type := 28, pos := "mm.go:257", after := #[], guard := none }) (v := ?va2) rfl (by kernel_rfl) (by kernel_rfl) (by kernel_rfl) rfl (fun _ _ _ h => h) (Or.inl ⟨by rfl, ?ya2⟩) (fun _ => by assumption) ?ra2
    case ya2 => (intro w _; go_simp; first | done | (with_reducible rfl) | (rw [if_neg (by omega)]))
    try simp only [Act.put, List.setIfInBounds_toArray, List.set_cons_zero, List.set_cons_succ]
    refine readyL (rs := [2]) (by kernel_rfl) (by simp) ?_
    refine (AllReadyL.cons (o := { dst := some 48, op := Op.call { callee := Callee.value (Operand.func 18), args := #[Operand.tmp 47], argTypes := #[28] }, type := 37, pos := "mm.go:257", after := #[{ on := 1, ground := Ground.data }], guard := none }) rfl (fun K hK => ?_) AllReadyL.nil)
    go_simp
    refine (gamePos_any _ Gz).mono ?_
    rintro e w2 ⟨pc, p0, p1, rfl, hp2, hb2⟩
    have BR2 := BRz.stays hb2
    have G2 := Gz.below hb2
    have L2 := below_trans Lz hb2 Lz.size
    have LB2 := below_trans LBz hb2 LBz.size
    clear hb2
    refine hK.out _ _ ⟨BR2.cell 0 rfl, BR2.cell 1 rfl, BR2.cell 2 rfl, BR2.cell 3 rfl, BR2.cell 4 rfl, BR2.cell 5 rfl, BR2.cell 6 rfl, BR2.cell 7 rfl, BR2.cell 8 rfl, BR2.cell 9 rfl, BR2.cell 10 rfl⟩ (fun hHeld => ?_)
    clear hK K
    try simp only [Act.put, List.setIfInBounds_toArray, List.set_cons_zero, List.set_cons_succ]
    refine readyL (rs := [3]) (by kernel_rfl) (by simp) ?_
    refine (AllReadyL.cons (o := { dst := some 49, op := Op.call { callee := Callee.value (Operand.func 17), args := #[Operand.tmp 46, Operand.tmp 48], argTypes := #[26, 37] }, type := 33, pos := "mm.go:257", after := #[{ on := 0, ground := Ground.data }, { on := 2, ground := Ground.data }, { on := 2, ground := Ground.chain }], guard := none }) rfl (fun K hK => ?_) AllReadyL.nil)
    go_simp
    refine (All_any HSh.out R vp vs ve (nowZ R ms) pc p0 p1 w2 (HR.out.below LB2 (Nat.le_refl _)) HN.out hp2.rd).mono ?_
    rintro e w3 ⟨vl3, rfl, ho3, hb3⟩
    rw [haz] at ho3
    rw [hpz]
    have BR3 := BR2.stays hb3
    have G3 := G2.below hb3
    have L3 := below_trans L2 hb3 L2.size
    have LB3 := below_trans LB2 hb3 LB2.size
    clear hb3
    refine hK.out _ _ ⟨BR3.cell 0 rfl, BR3.cell 1 rfl, BR3.cell 2 rfl, BR3.cell 3 rfl, BR3.cell 4 rfl, BR3.cell 5 rfl, BR3.cell 6 rfl, BR3.cell 7 rfl, BR3.cell 8 rfl, BR3.cell 9 rfl, BR3.cell 10 rfl⟩ (fun hHeld => ?_)
    clear hK K
    try simp only [Act.put, List.setIfInBounds_toArray, List.set_cons_zero, List.set_cons_succ]
    refine takeW (i := 4) (oi := { dst := some 45, op := Op.move (Operand.tmp 49), type := 33, pos := "mm.go:257", after := #[{ on := 3, ground := Ground.data }], guard := none }) (v := ?va3) rfl (by kernel_rfl) (by kernel_rfl) (by kernel_rfl) rfl (fun _ _ _ h => h) (Or.inl ⟨by rfl, ?ya3⟩) (fun _ => by assumption) ?ra3
    case ya3 => (intro w _; go_simp; first | done | (with_reducible rfl) | (rw [if_neg (by omega)]))
    try simp only [Act.put, List.setIfInBounds_toArray, List.set_cons_zero, List.set_cons_succ]
    refine takeW (i := 5) (oi := { dst := some 50, op := Op.extract (Operand.tmp 45) 0, type := 32, pos := "mm.go:257", after := #[{ on := 4, ground := Ground.data }], guard := none }) (v := ?va4) rfl (by kernel_rfl) (by kernel_rfl) (by kernel_rfl) rfl (fun _ _ _ h => h) (Or.inl ⟨by rfl, ?ya4⟩) (fun _ => by assumption) ?ra4
    case ya4 => (intro w _; go_simp; first | done | (with_reducible rfl) | (rw [if_neg (by omega)]))
    try simp only [Act.put, List.setIfInBounds_toArray, List.set_cons_zero, List.set_cons_succ]
    refine takeW (i := 6) (oi := { dst := some 51, op := Op.extract (Operand.tmp 45) 1, type := 29, pos := "mm.go:257", after := #[{ on := 4, ground := Ground.data }, { on := 7, ground := Ground.gcOnly Departure.lateStores }], guard := none }) (v := ?va5) rfl (by kernel_rfl) (by kernel_rfl) (by kernel_rfl) rfl (fun _ _ _ h => h) (Or.inl ⟨by rfl, ?ya5⟩) (fun _ => by assumption) ?ra5
    case ya5 => (intro w _; go_simp; first | done | (with_reducible rfl) | (rw [if_neg (by omega)]))
    try simp only [Act.put, List.setIfInBounds_toArray, List.set_cons_zero, List.set_cons_succ]
    refine takeW (i := 7) (oi := { dst := some 11, op := Op.assign (Operand.tmp 50), type := 32, pos := "mm.go:257", after := #[{ on := 5, ground := Ground.data }, { on := 3, ground := Ground.chain }, { on := 0, ground := Ground.phase }, { on := 1, ground := Ground.phase }, { on := 2, ground := Ground.phase }, { on := 3, ground := Ground.phase }, { on := 4, ground := Ground.phase }, { on := 5, ground := Ground.phase }, { on := 6, ground := Ground.textOnly Departure.lateStores }], guard := none }) (v := ?va6) rfl (by kernel_rfl) (by kernel_rfl) (by kernel_rfl) rfl (fun _ _ _ h => h) (Or.inl ⟨by rfl, ?ya6⟩) (fun _ => by assumption) ?ra6
    case ya6 => (intro w _; go_simp; first | done | (with_reducible rfl) | (rw [if_neg (by omega)]))
    try simp only [Act.put, List.setIfInBounds_toArray, List.set_cons_zero, List.set_cons_succ]
    refine takeW (i := 8) (oi := { dst := some 12, op := Op.assign (Operand.tmp 51), type := 29, pos := "mm.go:257", after := #[{ on := 6, ground := Ground.data }, { on := 7, ground := Ground.chain }, { on := 0, ground := Ground.phase }, { on := 1, ground := Ground.phase }, { on := 2, ground := Ground.phase }, { on := 3, ground := Ground.phase }, { on := 4, ground := Ground.phase }, { on := 5, ground := Ground.phase }, { on := 6, ground := Ground.phase }, { on := 7, ground := Ground.phase }], guard := none }) (v := ?va7) rfl (by kernel_rfl) (by kernel_rfl) (by kernel_rfl) rfl (fun _ _ _ h => h) (Or.inl ⟨by rfl, ?ya7⟩) (fun _ => by assumption) ?ra7
    case ya7 => (intro w _; go_simp; first | done | (with_reducible rfl) | (rw [if_neg (by omega)]))
    try simp only [Act.put, List.setIfInBounds_toArray, List.set_cons_zero, List.set_cons_succ]
    refine doneL (by kernel_rfl) ?_ _
    refine NoPanic.normal ?_
    have HG3 := Lib.hid G3
    have HB3 := Lib.hid L3
    have HLB3 := Lib.hid LB3
    have HX3 := Lib.hid BR3
    have HM3 := Lib.hid (rdM_of_own ho3)
    obtain ⟨al, cl, rfl⟩ := own_form2 ho3
    clear hHeld BRz Gz Lz LBz BR2 G2 L2 LB2 BR3 G3 L3 LB3 ho3 hp2
    clear hpz haz
    obtain ⟨L, hL⟩ : ∃ L, listZ R (nowZ R ms) = L := ⟨_, rfl⟩
    have HLE := Lib.hid hL
    rw [hL] at HM3 ⊢
    clear hL
    by_cases hl0 : L.length = 0
    · rw [hl0]
      obtain ⟨wr, hwr⟩ : ∃ wr : World, wr = w3 := ⟨_, rfl⟩
      rw [← hwr] at HG3 HB3 HLB3 HX3 HM3 ⊢
      have HGr := HG3
      have HBr := HB3
      clear hwr HG3 HB3 HLB3 HX3 HM3 HLE hl0
      go_wp2_with fail
        -- the moves, the position, the result and the count
      refine (gameMoves_any _ HGr.out).mono ?_
      rintro e x2 ⟨vm2, rfl, hm2, hb2⟩
      have HLM2 : Hid (Held S x2 fun w' => RdL moveEl w' vm2 ms) := Lib.hid ((own_new hm2 (fun k h1 h2 hk => by have := (HGr.out.lo k hk).2; omega)).imp (fun _ h => rdM_of_own h))
      have HG2 := Lib.hid (HGr.out.below hb2)
      have HL2 := Lib.hid (below_trans HBr.out hb2 HBr.out.size)
      obtain ⟨am, cm, rfl⟩ := own_form2 hm2
      clear hb2 hm2 HGr
      go_wp2_with fail
      refine (gamePos_any _ HG2.out).mono ?_
      rintro e x3 ⟨vc, v0, v1, rfl, hp3, hb3⟩
      obtain ⟨ya, yn, rfl⟩ := own_form2 hp3.1
      obtain ⟨ya0, yn0, rfl⟩ := own_form2 hp3.2.1
      obtain ⟨ya1, yn1, rfl⟩ := own_form2 hp3.2.2.1
      have HLP3 : Hid (Held S x3 fun w' => RdP w' (nowZ R ms) (.slice ya (nowZ R ms).cells.length yn) (.slice ya0 (nowZ R ms).h0.length yn0) (.slice ya1 (nowZ R ms).h1.length yn1)) := Lib.hid ((ownP_held hp3 (fun k h1 h2 hk => by have := (HG2.out.lo k hk).2; omega)).imp (fun _ h => h.rd))
      have HLM3 := Lib.hid (HLM2.out.step (Fr.of_new (S := S) hb3) (Shr.refl _ _))
      have HG3 := Lib.hid (HG2.out.below hb3)
      have HL3 := Lib.hid (below_trans HL2.out hb3 HL2.out.size)
      clear hb3 hp3 HG2 HLM2 HL2
      go_wp2_with fail
      refine (gameRes_any HSh.out _ HG3.out).mono ?_
      rintro e x4 ⟨rfl, hb4⟩
      have HLP4 := Lib.hid (HLP3.out.step (Fr.of_new (S := S) hb4) (Shr.refl _ _))
      have HLM4 := Lib.hid (HLM3.out.step (Fr.of_new (S := S) hb4) (Shr.refl _ _))
      have HG4 := Lib.hid (HG3.out.below hb4)
      have HL4 := Lib.hid (below_trans HL3.out hb4 HL3.out.size)
      clear hb4 HG3 HLM3 HLP3 HL3
      go_wp2_with fail
      refine (count_any _ HG4.out).mono ?_
      rintro e x5 ⟨rfl, hb5⟩
      have HLP5 := Lib.hid (HLP4.out.step (Fr.of_new (S := S) hb5) (Shr.refl _ _))
      have HLM5 := Lib.hid (HLM4.out.step (Fr.of_new (S := S) hb5) (Shr.refl _ _))
      have HG5 := Lib.hid (HG4.out.below hb5)
      have HL5 := Lib.hid (below_trans HL4.out hb5 HL4.out.size)
      clear hb5 HG4 HLM4 HLP4 HL4
      go_upto_region 17 with (fail)
      have hal := ((Below.refl x5.heap.size x5).alloc (Nat.le_refl _) (.cells #[.slice ya (nowZ R ms).cells.length yn, .slice ya0 (nowZ R ms).h0.length yn0, .slice ya1 (nowZ R ms).h1.length yn1, .int .i64 (nowZ R ms).turn, .int .i64 (nowZ R ms).quiet] 37))
      have HLP6 := Lib.hid (HLP5.out.step (Fr.of_new (S := S) hal) (Shr.refl _ _))
      have HLM6 := Lib.hid (HLM5.out.step (Fr.of_new (S := S) hal) (Shr.refl _ _))
      have HG6 := Lib.hid (HG5.out.below hal)
      have HL6 := Lib.hid (below_trans HL5.out hal HL5.out.size)
      obtain ⟨bp, hbp⟩ : ∃ bp, bp = x5.heap.size := ⟨_, rfl⟩
      have HBP6 : Hid (Held S (x5.alloc (.cells #[.slice ya (nowZ R ms).cells.length yn, .slice ya0 (nowZ R ms).h0.length yn0, .slice ya1 (nowZ R ms).h1.length yn1, .int .i64 (nowZ R ms).turn, .int .i64 (nowZ R ms).quiet] 37)) fun w' => Box w' bp [.slice ya (nowZ R ms).cells.length yn, .slice ya0 (nowZ R ms).h0.length yn0, .slice ya1 (nowZ R ms).h1.length yn1, .int .i64 (nowZ R ms).turn, .int .i64 (nowZ R ms).quiet] 37) := Lib.hid (by
        rw [hbp]
        exact fun w' hw => (Box.new x5 [.slice ya (nowZ R ms).cells.length yn, .slice ya0 (nowZ R ms).h0.length yn0, .slice ya1 (nowZ R ms).h1.length yn1, .int .i64 (nowZ R ms).turn, .int .i64 (nowZ R ms).quiet] 37).held hw (fun hk => by have := (HG5.out.lo _ hk).2; omega))
      rw [← hbp]
      clear hbp hal HG5 HLM5 HLP5 HL5
      generalize (x5.alloc (.cells #[.slice ya (nowZ R ms).cells.length yn, .slice ya0 (nowZ R ms).h0.length yn0, .slice ya1 (nowZ R ms).h1.length yn1, .int .i64 (nowZ R ms).turn, .int .i64 (nowZ R ms).quiet] 37)) = x6 at *
      obtain ⟨gr, hgr⟩ : ∃ gr, gameRes R ms = gr := ⟨_, rfl⟩
      obtain ⟨gc, hgc⟩ : ∃ gc, countZ R ms = gc := ⟨_, rfl⟩
      have HGR := Lib.hid hgr
      have HGC := Lib.hid hgc
      rw [hgr, hgc]
      clear hgr hgc
      obtain ⟨K, hK⟩ : ∃ K, K = ms.length := ⟨_, rfl⟩
      have HKL := Lib.hid hK
      have hk24 : K ≤ 24 := by omega
      rw [← hK] at HLM6 ⊢
      have hr1 := tmod_rg back (K + 1) (by omega)
      rw [show ((K + 1 : Nat) : Int) = (K : Int) + 1 by omega] at hr1
      obtain ⟨hr1a, hr1b⟩ := hr1
      obtain ⟨T, hT, hTK⟩ := tmod_nat (Int.tmod back ((K : Int) + 1) + K + 1) (K + 1) (by omega) (by omega)
      rw [show ((K + 1 : Nat) : Int) = (K : Int) + 1 by omega] at hT
      have hT' : (Int.tmod back ((K : Int) + 1) + K + 1) % ((K : Int) + 1) = T := by rw [← Int.tmod_eq_emod_of_nonneg (by omega)]; exact hT
      clear hK
      go_wp2_with fail
      go_loopw [99] (fun vi wr => ∃ (j : Nat) (S : Nat → Prop) (vl vm : Value) (rows : List PosV), j ≤ T ∧ vi = .int .i64 j ∧ Hid (GameAt S w1.heap.size wr b R (ms.take (ms.length - j)) up us ue vl vm rows) ∧ Hid (Held S wr fun w' => RdL moveEl w' (.slice am K cm) ms) ∧ Hid (Held S wr fun w' => RdP w' (nowZ R ms) (.slice ya (nowZ R ms).cells.length yn) (.slice ya0 (nowZ R ms).h0.length yn0) (.slice ya1 (nowZ R ms).h1.length yn1)) ∧ Hid (Held S wr fun w' => Box w' bp [.slice ya (nowZ R ms).cells.length yn, .slice ya0 (nowZ R ms).h0.length yn0, .slice ya1 (nowZ R ms).h1.length yn1, .int .i64 (nowZ R ms).turn, .int .i64 (nowZ R ms).quiet] 37) ∧ Hid (Below w1.heap.size w1 wr)) (fun i _ => T - (intOf i).toNat)
      case atStart => exact ⟨0, S, vl, vm, rows, Nat.zero_le _, rfl, Lib.hid (by rw [Nat.sub_zero, List.take_of_length_le (Nat.le_refl _)]; exact HG6.out), HLM6, HLP6, HBP6, HL6⟩
      case round =>
        clear HG6 HLM6 HLP6 HBP6 HL6
        obtain ⟨j, S, vl, vm, rows, hj, rfl, HG6, HLM6, HLP6, HBP6, HL6⟩ := hrel
        by_cases hjT : j < T
        · go_wp2_with fail
          refine (Back_any _ HG6.out HL6.out.size).mono ?_
          rintro e y2 (⟨hbad, -⟩ | ⟨q, hq, rfl, vl', vm', rows', hg2, hf2⟩)
          · rw [List.length_take] at hbad; have := HKL.out; omega
          have HG7 : Hid (GameAt S w1.heap.size y2 b R (ms.take (ms.length - (j + 1))) up us ue vl' vm' rows') := Lib.hid (by rw [← take_back ms j q hq]; exact hg2)
          have HLM7 := Lib.hid (HLM6.out.step hf2 (Shr.refl _ _))
          have HLP7 := Lib.hid (HLP6.out.step hf2 (Shr.refl _ _))
          have HBP7 := Lib.hid (HBP6.out.step hf2 (Shr.refl _ _))
          have HL7 := Lib.hid (HL6.out.trans (HG6.out.frame hf2 HL6.out.size))
          clear hg2 hf2 hq HG6 HLM6 HLP6 HBP6 HL6
          go_wp2_with fail
          go_roundw
          case rel => exact ⟨j + 1, S, vl', vm', rows', by omega, by go_num, HG7, HLM7, HLP7, HBP7, HL7⟩
          case measure => simp [intOf]; omega
        · obtain rfl : j = T := by omega
          clear hjT
          go_wp2_with fail
          refine (gameMoves_any _ HG6.out).mono ?_
          rintro e y2 ⟨vm2, rfl, hm2, hb2⟩
          have HG7 := Lib.hid (HG6.out.below hb2)
          have HLM7 := Lib.hid (HLM6.out.step (Fr.of_new (S := S) hb2) (Shr.refl _ _))
          have HLP7 := Lib.hid (HLP6.out.step (Fr.of_new (S := S) hb2) (Shr.refl _ _))
          have HBP7 := Lib.hid (HBP6.out.step (Fr.of_new (S := S) hb2) (Shr.refl _ _))
          have HL7 := Lib.hid (below_trans HL6.out hb2 HL6.out.size)
          obtain ⟨a2, c2, rfl⟩ := own_form2 hm2
          clear hb2 hm2 HG6 HLM6 HLP6 HBP6 HL6
          have hkt : (ms.take (ms.length - j)).length = K - j := by have := HKL.out; rw [List.length_take]; omega
          obtain ⟨D, hD⟩ : ∃ D, D = K - j := ⟨_, rfl⟩
          have hDK : D ≤ K := by omega
          rw [hkt, ← hD]
          have hsd : ∀ w' : World, (Instr.slice 32 (.slice am K cm) (some (.int .i64 (D : Int))) none none).run Try.prog w' = .ok (.slice (subAddr am cm D 3) (K - D) (cm - D)) w' := fun w' =>
            run_drop (P := Try.prog) (t := 32) (s := 3) Try.underlying32 (fun w => by kernel_rfl) am K cm D hDK w'
          have HLD7 : Hid (Held S y2 fun w' => RdL moveEl w' (.slice (subAddr am cm D 3) (K - D) (cm - D)) (ms.drop D)) := Lib.hid (HLM7.out.imp (fun w' h => by
            have h' := HKL.out
            subst h'
            exact h.drop D (by omega)))
          obtain ⟨N, hN⟩ : ∃ N, N = K - D := ⟨_, rfl⟩
          have hND : D + N = K := by omega
          have HGD : Hid (GameAt S w1.heap.size y2 b R (ms.take (D + 0)) up us ue vl vm rows) := Lib.hid (by
            have := HG7.out
            rw [show ms.length - j = D by have := HKL.out; omega] at this
            exact this)
          rw [← hN] at hsd HLD7
          clear hkt hD hN HG7
          go_wp2_with fail
          clear hsd
          obtain ⟨wB, rfl⟩ : ∃ wB : World, wB = wr := ⟨_, rfl⟩
          go_loopw [111, 19] (fun vi a19 wr => ∃ (i : Nat) (S : Nat → Prop) (vl vm : Value) (rows : List PosV), i ≤ N ∧ vi = .int .i64 i ∧ Hid (GameAt S w1.heap.size wr b R (ms.take (D + i)) up us ue vl vm rows) ∧ Hid (Held S wr fun w' => RdL moveEl w' (.slice am K cm) ms) ∧ Hid (Held S wr fun w' => RdL moveEl w' (.slice (subAddr am cm D 3) N (cm - D)) (ms.drop D)) ∧ Hid (Held S wr fun w' => RdP w' (nowZ R ms) (.slice ya (nowZ R ms).cells.length yn) (.slice ya0 (nowZ R ms).h0.length yn0) (.slice ya1 (nowZ R ms).h1.length yn1)) ∧ Hid (Held S wr fun w' => Box w' bp [.slice ya (nowZ R ms).cells.length yn, .slice ya0 (nowZ R ms).h0.length yn0, .slice ya1 (nowZ R ms).h1.length yn1, .int .i64 (nowZ R ms).turn, .int .i64 (nowZ R ms).quiet] 37) ∧ Hid (Below w1.heap.size w1 wr)) (fun i _ _ => N - (intOf i).toNat)
          case atStart => exact ⟨0, S, vl, vm, rows, Nat.zero_le _, rfl, HGD, HLM7, HLD7, HLP7, HBP7, HL7⟩
          case round =>
            clear HGD HLM7 HLD7 HLP7 HBP7 HL7
            obtain ⟨i, S, vl, vm, rows, hi, rfl, HG7, HLM7, HLD7, HLP7, HBP7, HL7⟩ := hrel
            have hbw : w1.heap.size ≤ wr.heap.size := HL7.out.size
            by_cases hiN : i < N
            · have hdl : i < (ms.drop D).length := by have := HKL.out; rw [List.length_drop]; omega
              have HLDn := Lib.hid HLD7.out.now
              obtain ⟨gd, od, ha, hgd, hcc⟩ := moves_some HLDn.out (by omega)
              obtain ⟨c0, c1, c2⟩ := hcc i hdl
              have HMG : Hid ((ms.drop D).getD i default = ms.getD (D + i) default) := Lib.hid (by rw [List.getD_eq_getElem?_getD, List.getD_eq_getElem?_getD, List.getElem?_drop])
              have HPK := Lib.hid (HPl.out (D + i) (by have := HKL.out; omega))
              have HTN := Lib.hid (take_next ms (D + i) (by have := HKL.out; omega))
              rw [HMG.out] at c0 c1 c2
              rw [ha] at HLD7 ⊢
              clear hcc HMG hdl HLDn
              generalize ms.getD (D + i) default = m at *
              go_upto_region 26 with (fail)
              have HBm := Lib.hid (Box.new wr [.int .i64 m.src, .int .i64 m.dst, .int .i64 m.piece] 42)
              have hal := ((Below.refl wr.heap.size wr).alloc (Nat.le_refl _) (.cells #[.int .i64 m.src, .int .i64 m.dst, .int .i64 m.piece] 42))
              have HG8 := Lib.hid (HG7.out.below hal)
              have HLM8 := Lib.hid (HLM7.out.step (Fr.of_new (S := S) hal) (Shr.refl _ _))
              have HLD8 := Lib.hid (HLD7.out.step (Fr.of_new (S := S) hal) (Shr.refl _ _))
              have HLP8 := Lib.hid (HLP7.out.step (Fr.of_new (S := S) hal) (Shr.refl _ _))
              have HBP8 := Lib.hid (HBP7.out.step (Fr.of_new (S := S) hal) (Shr.refl _ _))
              have HL8 := Lib.hid (below_trans HL7.out hal HL7.out.size)
              have hz8 : wr.heap.size < (wr.alloc (.cells #[.int .i64 m.src, .int .i64 m.dst, .int .i64 m.piece] 42)).heap.size := by simp
              clear c0 c1 c2 hal HG7 HLM7 HLD7 HLP7 HBP7 HL7
              generalize (wr.alloc (.cells #[.int .i64 m.src, .int .i64 m.dst, .int .i64 m.piece] 42)) = y3 at *
              have d0 := HBm.out.cell 0 rfl
              have d1 := HBm.out.cell 1 rfl
              have d2 := HBm.out.cell 2 rfl
              go_wp2_with fail
              refine (Play_any HSh.out m y3 HG8.out HL8.out.size).mono ?_
              rintro e y4 (⟨hbad, -⟩ | ⟨hok, rfl, S', vl', vm', rows', hg4, hsh, hf4⟩)
              · exact absurd HPK.out hbad
              have HG9 : Hid (GameAt S' w1.heap.size y4 b R (ms.take (D + (i + 1))) up us ue vl' vm' rows') := Lib.hid (by rw [← Nat.add_assoc, ← HTN.out]; exact hg4)
              have HLM9 := Lib.hid (HLM8.out.step hf4 hsh)
              have HLD9 := Lib.hid (HLD8.out.step hf4 hsh)
              have HLP9 := Lib.hid (HLP8.out.step hf4 hsh)
              have HBP9 := Lib.hid (HBP8.out.step hf4 hsh)
              have HL9 := Lib.hid (HL8.out.trans (HG8.out.frame hf4 HL8.out.size))
              clear hok hg4 hsh hf4 d0 d1 d2
              go_wp2_with fail
              go_roundw
              case rel => exact ⟨i + 1, S', vl', vm', rows', by omega, by go_num, HG9, HLM9, HLD9, HLP9, HBP9, HL9⟩
              case measure => simp [intOf]; omega
            · obtain rfl : i = N := by omega
              have HG8 : Hid (GameAt S w1.heap.size wr b R ms up us ue vl vm rows) := Lib.hid (by
                have := HG7.out
                rwa [hND, List.take_of_length_le (by have := HKL.out; omega)] at this)
              have hms24 : ms.length ≤ 1000000 := by omega
              clear HG7 HLD7 hiN
              go_upto_region 29 with (fail)
              generalize wr = wq at *
              have Gz : GameAt S w1.heap.size wq.drew b R ms up us ue vl vm rows := HG8.out.below (below_drew' (Below.refl _ _))
              have LMz : Held S wq.drew fun w' => RdL moveEl w' (.slice am K cm) ms := HLM7.out.step ((Fr.refl _ wq).drew) (Shr.refl _ _)
              have LPz : Held S wq.drew fun w' => RdP w' (nowZ R ms) (.slice ya (nowZ R ms).cells.length yn) (.slice ya0 (nowZ R ms).h0.length yn0) (.slice ya1 (nowZ R ms).h1.length yn1) := HLP7.out.step ((Fr.refl _ wq).drew) (Shr.refl _ _)
              have BPz : Held S wq.drew fun w' => Box w' bp [.slice ya (nowZ R ms).cells.length yn, .slice ya0 (nowZ R ms).h0.length yn0, .slice ya1 (nowZ R ms).h1.length yn1, .int .i64 (nowZ R ms).turn, .int .i64 (nowZ R ms).quiet] 37 := HBP7.out.step ((Fr.refl _ wq).drew) (Shr.refl _ _)
              have Lz : Below w1.heap.size w1 wq.drew := below_drew' HL7.out
              clear HG8 HLM7 HLP7 HBP7 HL7 hbw
              refine wp_region_noPanic ?_
              refine beginL (S := (fun w' => w'.cell? ⟨bp, 0, none⟩ = some (.slice ya (nowZ R ms).cells.length yn) ∧ w'.cell? ⟨bp, 1, none⟩ = some (.slice ya0 (nowZ R ms).h0.length yn0) ∧ w'.cell? ⟨bp, 2, none⟩ = some (.slice ya1 (nowZ R ms).h1.length yn1) ∧ w'.cell? ⟨bp, 3, none⟩ = some (.int .i64 (nowZ R ms).turn) ∧ w'.cell? ⟨bp, 4, none⟩ = some (.int .i64 (nowZ R ms).quiet))) (L := []) (by kernel_rfl) ⟨BPz.now.cell 0 rfl, BPz.now.cell 1 rfl, BPz.now.cell 2 rfl, BPz.now.cell 3 rfl, BPz.now.cell 4 rfl⟩ (fun hHeld => ?_)
              refine takeW (i := 0) (oi := { dst := some 120, op := Op.move (Operand.tmp 13), type := 32, pos := "mm.go:280", after := #[], guard := none }) (v := ?va1018) rfl (by kernel_rfl) (by kernel_rfl) (by kernel_rfl) rfl (fun _ _ _ h => h) (Or.inl ⟨by rfl, ?ya1018⟩) (fun _ => by assumption) ?ra1018
              case ya1018 => (intro w _; go_simp; first | done | (with_reducible rfl) | (rw [if_neg (by omega)]))
              try simp only [Act.put, List.setIfInBounds_toArray, List.set_cons_zero, List.set_cons_succ]
              refine takeW (i := 1) (oi := { dst := some 121, op := Op.move (Operand.tmp 7), type := 28, pos := "mm.go:280", after := #[], guard := none }) (v := ?va1019) rfl (by kernel_rfl) (by kernel_rfl) (by kernel_rfl) rfl (fun _ _ _ h => h) (Or.inl ⟨by rfl, ?ya1019⟩) (fun _ => by assumption) ?ra1019
              case ya1019 => (intro w _; go_simp; first | done | (with_reducible rfl) | (rw [if_neg (by omega)]))
              try simp only [Act.put, List.setIfInBounds_toArray, List.set_cons_zero, List.set_cons_succ]
              refine readyL (rs := [2]) (by kernel_rfl) (by simp) ?_
              refine (AllReadyL.cons (o := { dst := some 122, op := Op.call { callee := Callee.value (Operand.func 21), args := #[Operand.tmp 121], argTypes := #[28] }, type := 32, pos := "mm.go:280", after := #[{ on := 1, ground := Ground.data }], guard := none }) rfl (fun K hK => ?_) AllReadyL.nil)
              go_simp
              refine (gameMoves_any _ Gz).mono ?_
              rintro e y2 ⟨vm2, rfl, hm2, hb2⟩
              have G2 := Gz.below hb2
              have LM2 := LMz.step (Fr.of_new (S := S) hb2) (Shr.refl _ _)
              have LP2 := LPz.step (Fr.of_new (S := S) hb2) (Shr.refl _ _)
              have BP2 := BPz.step (Fr.of_new (S := S) hb2) (Shr.refl _ _)
              have L2 := below_trans Lz hb2 Lz.size
              clear hb2
              refine hK.out _ _ ⟨BP2.now.cell 0 rfl, BP2.now.cell 1 rfl, BP2.now.cell 2 rfl, BP2.now.cell 3 rfl, BP2.now.cell 4 rfl⟩ (fun hHeld => ?_)
              clear hK K
              try simp only [Act.put, List.setIfInBounds_toArray, List.set_cons_zero, List.set_cons_succ]
              refine readyL (rs := [3]) (by kernel_rfl) (by simp) ?_
              refine (AllReadyL.cons (o := { dst := some 123, op := Op.call { callee := Callee.value (Operand.func 24), args := #[Operand.tmp 120, Operand.tmp 122], argTypes := #[32, 32] }, type := 4, pos := "mm.go:280", after := #[{ on := 0, ground := Ground.data }, { on := 2, ground := Ground.data }, { on := 2, ground := Ground.chain }], guard := none }) rfl (fun K hK => ?_) AllReadyL.nil)
              go_simp
              refine (equalMv_any _ _ ms ms y2 LM2.now (rdM_of_own hm2) (by omega)).mono ?_
              rintro e y3 ⟨rfl, hb3⟩
              rw [show decide (ms = ms) = true by simp]
              have G3 := G2.below hb3
              have LM3 := LM2.step (Fr.of_new (S := S) hb3) (Shr.refl _ _)
              have LP3 := LP2.step (Fr.of_new (S := S) hb3) (Shr.refl _ _)
              have BP3 := BP2.step (Fr.of_new (S := S) hb3) (Shr.refl _ _)
              have L3 := below_trans L2 hb3 L2.size
              clear hb3
              refine hK.out _ _ ⟨BP3.now.cell 0 rfl, BP3.now.cell 1 rfl, BP3.now.cell 2 rfl, BP3.now.cell 3 rfl, BP3.now.cell 4 rfl⟩ (fun hHeld => ?_)
              clear hK K
              try simp only [Act.put, List.setIfInBounds_toArray, List.set_cons_zero, List.set_cons_succ]
              refine takeW (i := 4) (oi := { dst := some 124, op := Op.move (Operand.tmp 123), type := 4, pos := "mm.go:280", after := #[{ on := 3, ground := Ground.data }, { on := 3, ground := Ground.chain }], guard := none }) (v := ?va1020) rfl (by kernel_rfl) (by kernel_rfl) (by kernel_rfl) rfl (fun _ _ _ h => h) (Or.inl ⟨by rfl, ?ya1020⟩) (fun _ => by assumption) ?ra1020
              case ya1020 => (intro w _; go_simp; first | done | (with_reducible rfl) | (rw [if_neg (by omega)]))
              try simp only [Act.put, List.setIfInBounds_toArray, List.set_cons_zero, List.set_cons_succ]
              refine takeL (i := 5) (oi := { dst := some 125, op := Op.load 37 (Operand.tmp 14), type := 37, pos := "mm.go:280", after := #[{ on := 4, ground := Ground.guard }], guard := some (4, true) }) (v := ?va1021) rfl (by kernel_rfl) (by kernel_rfl) (by kernel_rfl) (by kernel_rfl) rfl (by kernel_rfl) (by kernel_rfl) (fun _ _ _ h => h) (Or.inl ⟨by rfl, ?ya1021⟩) (by assumption) ?ra1021
              case ya1021 => (intro w hSw; (try dsimp only at hSw); go_simp; first | done | (with_reducible rfl))
              try simp only [Act.put, List.setIfInBounds_toArray, List.set_cons_zero, List.set_cons_succ]
              refine takeW (i := 6) (oi := { dst := some 126, op := Op.move (Operand.tmp 7), type := 28, pos := "mm.go:280", after := #[{ on := 4, ground := Ground.guard }], guard := some (4, true) }) (v := ?va1022) rfl (by kernel_rfl) (by kernel_rfl) (by kernel_rfl) rfl (fun _ _ _ h => h) (Or.inl ⟨by rfl, ?ya1022⟩) (fun _ => by assumption) ?ra1022
              case ya1022 => (intro w _; go_simp; first | done | (with_reducible rfl) | (rw [if_neg (by omega)]))
              try simp only [Act.put, List.setIfInBounds_toArray, List.set_cons_zero, List.set_cons_succ]
              refine readyL (rs := [7]) (by kernel_rfl) (by simp) ?_
              refine (AllReadyL.cons (o := { dst := some 127, op := Op.call { callee := Callee.value (Operand.func 18), args := #[Operand.tmp 126], argTypes := #[28] }, type := 37, pos := "mm.go:280", after := #[{ on := 6, ground := Ground.data }, { on := 4, ground := Ground.chain }, { on := 4, ground := Ground.guard }], guard := some (4, true) }) rfl (fun K hK => ?_) AllReadyL.nil)
              go_simp
              refine (gamePos_any _ G3).mono ?_
              rintro e y4 ⟨uc, u0, u1, rfl, hp4, hb4⟩
              have G4 := G3.below hb4
              have LM4 := LM3.step (Fr.of_new (S := S) hb4) (Shr.refl _ _)
              have LP4 := LP3.step (Fr.of_new (S := S) hb4) (Shr.refl _ _)
              have BP4 := BP3.step (Fr.of_new (S := S) hb4) (Shr.refl _ _)
              have L4 := below_trans L3 hb4 L3.size
              clear hb4
              refine hK.out _ _ ⟨BP4.now.cell 0 rfl, BP4.now.cell 1 rfl, BP4.now.cell 2 rfl, BP4.now.cell 3 rfl, BP4.now.cell 4 rfl⟩ (fun hHeld => ?_)
              clear hK K
              try simp only [Act.put, List.setIfInBounds_toArray, List.set_cons_zero, List.set_cons_succ]
              refine readyL (rs := [8]) (by kernel_rfl) (by simp) ?_
              refine (AllReadyL.cons (o := { dst := some 128, op := Op.call { callee := Callee.value (Operand.func 25), args := #[Operand.tmp 125, Operand.tmp 127], argTypes := #[37, 37] }, type := 4, pos := "mm.go:280", after := #[{ on := 5, ground := Ground.data }, { on := 7, ground := Ground.data }, { on := 7, ground := Ground.chain }, { on := 4, ground := Ground.guard }], guard := some (4, true) }) rfl (fun K hK => ?_) AllReadyL.nil)
              go_simp
              refine (bSame_any (nowZ R ms) (nowZ R ms) (.slice ya (nowZ R ms).cells.length yn) (.slice ya0 (nowZ R ms).h0.length yn0) (.slice ya1 (nowZ R ms).h1.length yn1) uc u0 u1 y4 LP4.now hp4.rd).mono ?_
              rintro e y5 ⟨rfl, hb5⟩
              rw [sameZ_self]
              have G5 := G4.below hb5
              have LM5 := LM4.step (Fr.of_new (S := S) hb5) (Shr.refl _ _)
              have LP5 := LP4.step (Fr.of_new (S := S) hb5) (Shr.refl _ _)
              have BP5 := BP4.step (Fr.of_new (S := S) hb5) (Shr.refl _ _)
              have L5 := below_trans L4 hb5 L4.size
              clear hb5
              refine hK.out _ _ ⟨BP5.now.cell 0 rfl, BP5.now.cell 1 rfl, BP5.now.cell 2 rfl, BP5.now.cell 3 rfl, BP5.now.cell 4 rfl⟩ (fun hHeld => ?_)
              clear hK K
              try simp only [Act.put, List.setIfInBounds_toArray, List.set_cons_zero, List.set_cons_succ]
              refine takeW (i := 9) (oi := { dst := some 129, op := Op.pick (Operand.tmp 124) (Operand.tmp 128) (Operand.const (Value.bool false)), type := 4, pos := "mm.go:280", after := #[{ on := 4, ground := Ground.data }, { on := 8, ground := Ground.data }], guard := none }) (v := ?va1023) rfl (by kernel_rfl) (by kernel_rfl) (by kernel_rfl) rfl (fun _ _ _ h => h) (Or.inl ⟨by rfl, ?ya1023⟩) (fun _ => by assumption) ?ra1023
              case ya1023 => (intro w _; go_simp; first | done | (with_reducible rfl) | (rw [if_neg (by omega)]))
              try simp only [Act.put, List.setIfInBounds_toArray, List.set_cons_zero, List.set_cons_succ]
              refine takeW (i := 10) (oi := { dst := some 130, op := Op.move (Operand.tmp 129), type := 4, pos := "mm.go:280", after := #[{ on := 9, ground := Ground.data }, { on := 8, ground := Ground.chain }], guard := none }) (v := ?va1024) rfl (by kernel_rfl) (by kernel_rfl) (by kernel_rfl) rfl (fun _ _ _ h => h) (Or.inl ⟨by rfl, ?ya1024⟩) (fun _ => by assumption) ?ra1024
              case ya1024 => (intro w _; go_simp; first | done | (with_reducible rfl) | (rw [if_neg (by omega)]))
              try simp only [Act.put, List.setIfInBounds_toArray, List.set_cons_zero, List.set_cons_succ]
              refine takeW (i := 11) (oi := { dst := some 131, op := Op.move (Operand.tmp 15), type := 3, pos := "mm.go:280", after := #[{ on := 10, ground := Ground.guard }], guard := some (10, true) }) (v := ?va1025) rfl (by kernel_rfl) (by kernel_rfl) (by kernel_rfl) rfl (fun _ _ _ h => h) (Or.inl ⟨by rfl, ?ya1025⟩) (fun _ => by assumption) ?ra1025
              case ya1025 => (intro w _; go_simp; first | done | (with_reducible rfl) | (rw [if_neg (by omega)]))
              try simp only [Act.put, List.setIfInBounds_toArray, List.set_cons_zero, List.set_cons_succ]
              refine takeW (i := 12) (oi := { dst := some 132, op := Op.move (Operand.tmp 7), type := 28, pos := "mm.go:280", after := #[{ on := 10, ground := Ground.guard }], guard := some (10, true) }) (v := ?va1026) rfl (by kernel_rfl) (by kernel_rfl) (by kernel_rfl) rfl (fun _ _ _ h => h) (Or.inl ⟨by rfl, ?ya1026⟩) (fun _ => by assumption) ?ra1026
              case ya1026 => (intro w _; go_simp; first | done | (with_reducible rfl) | (rw [if_neg (by omega)]))
              try simp only [Act.put, List.setIfInBounds_toArray, List.set_cons_zero, List.set_cons_succ]
              refine readyL (rs := [13]) (by kernel_rfl) (by simp) ?_
              refine (AllReadyL.cons (o := { dst := some 133, op := Op.call { callee := Callee.value (Operand.func 19), args := #[Operand.tmp 132], argTypes := #[28] }, type := 3, pos := "mm.go:280", after := #[{ on := 12, ground := Ground.data }, { on := 10, ground := Ground.chain }, { on := 10, ground := Ground.guard }], guard := some (10, true) }) rfl (fun K hK => ?_) AllReadyL.nil)
              go_simp
              refine (gameRes_any HSh.out _ G5).mono ?_
              rintro e y6 ⟨rfl, hb6⟩
              have G6 := G5.below hb6
              have LM6 := LM5.step (Fr.of_new (S := S) hb6) (Shr.refl _ _)
              have LP6 := LP5.step (Fr.of_new (S := S) hb6) (Shr.refl _ _)
              have BP6 := BP5.step (Fr.of_new (S := S) hb6) (Shr.refl _ _)
              have L6 := below_trans L5 hb6 L5.size
              clear hb6
              rw [HGR.out]
              refine hK.out _ _ ⟨BP6.now.cell 0 rfl, BP6.now.cell 1 rfl, BP6.now.cell 2 rfl, BP6.now.cell 3 rfl, BP6.now.cell 4 rfl⟩ (fun hHeld => ?_)
              clear hK K
              try simp only [Act.put, List.setIfInBounds_toArray, List.set_cons_zero, List.set_cons_succ]
              refine takeW (i := 14) (oi := { dst := some 134, op := Op.binOp BinOp.eql 3 (Operand.tmp 131) (Operand.tmp 133) 3, type := 4, pos := "mm.go:280", after := #[{ on := 11, ground := Ground.data }, { on := 13, ground := Ground.data }, { on := 10, ground := Ground.guard }], guard := some (10, true) }) (v := ?va1027) rfl (by kernel_rfl) (by kernel_rfl) (by kernel_rfl) rfl (fun _ _ _ h => h) (Or.inl ⟨by rfl, ?ya1027⟩) (fun _ => by assumption) ?ra1027
              case ya1027 => (intro w _; go_simp; first | done | (with_reducible rfl) | (rw [if_neg (by omega)]))
              try simp only [Act.put, List.setIfInBounds_toArray, List.set_cons_zero, List.set_cons_succ]
              refine takeW (i := 15) (oi := { dst := some 135, op := Op.pick (Operand.tmp 130) (Operand.tmp 134) (Operand.const (Value.bool false)), type := 4, pos := "mm.go:280", after := #[{ on := 10, ground := Ground.data }, { on := 14, ground := Ground.data }], guard := none }) (v := ?va1028) rfl (by kernel_rfl) (by kernel_rfl) (by kernel_rfl) rfl (fun _ _ _ h => h) (Or.inl ⟨by rfl, ?ya1028⟩) (fun _ => by assumption) ?ra1028
              case ya1028 => (intro w _; go_simp; first | done | (with_reducible rfl) | (rw [if_neg (by omega)]))
              try simp only [Act.put, List.setIfInBounds_toArray, List.set_cons_zero, List.set_cons_succ]
              refine takeW (i := 16) (oi := { dst := some 136, op := Op.move (Operand.tmp 135), type := 4, pos := "mm.go:280", after := #[{ on := 15, ground := Ground.data }, { on := 13, ground := Ground.chain }], guard := none }) (v := ?va1029) rfl (by kernel_rfl) (by kernel_rfl) (by kernel_rfl) rfl (fun _ _ _ h => h) (Or.inl ⟨by rfl, ?ya1029⟩) (fun _ => by assumption) ?ra1029
              case ya1029 => (intro w _; go_simp; first | done | (with_reducible rfl) | (rw [if_neg (by omega)]))
              try simp only [Act.put, List.setIfInBounds_toArray, List.set_cons_zero, List.set_cons_succ]
              refine takeW (i := 17) (oi := { dst := some 137, op := Op.move (Operand.tmp 16), type := 3, pos := "mm.go:280", after := #[{ on := 16, ground := Ground.guard }], guard := some (16, true) }) (v := ?va1030) rfl (by kernel_rfl) (by kernel_rfl) (by kernel_rfl) rfl (fun _ _ _ h => h) (Or.inl ⟨by rfl, ?ya1030⟩) (fun _ => by assumption) ?ra1030
              case ya1030 => (intro w _; go_simp; first | done | (with_reducible rfl) | (rw [if_neg (by omega)]))
              try simp only [Act.put, List.setIfInBounds_toArray, List.set_cons_zero, List.set_cons_succ]
              refine takeW (i := 18) (oi := { dst := some 138, op := Op.move (Operand.tmp 7), type := 28, pos := "mm.go:280", after := #[{ on := 16, ground := Ground.guard }], guard := some (16, true) }) (v := ?va1031) rfl (by kernel_rfl) (by kernel_rfl) (by kernel_rfl) rfl (fun _ _ _ h => h) (Or.inl ⟨by rfl, ?ya1031⟩) (fun _ => by assumption) ?ra1031
              case ya1031 => (intro w _; go_simp; first | done | (with_reducible rfl) | (rw [if_neg (by omega)]))
              try simp only [Act.put, List.setIfInBounds_toArray, List.set_cons_zero, List.set_cons_succ]
              refine readyL (rs := [19]) (by kernel_rfl) (by simp) ?_
              refine (AllReadyL.cons (o := { dst := some 139, op := Op.call { callee := Callee.value (Operand.func 22), args := #[Operand.tmp 138], argTypes := #[28] }, type := 3, pos := "mm.go:280", after := #[{ on := 18, ground := Ground.data }, { on := 16, ground := Ground.chain }, { on := 16, ground := Ground.guard }], guard := some (16, true) }) rfl (fun K hK => ?_) AllReadyL.nil)
              go_simp
              refine (count_any _ G6).mono ?_
              rintro e y7 ⟨rfl, hb7⟩
              have G7 := G6.below hb7
              have LM7 := LM6.step (Fr.of_new (S := S) hb7) (Shr.refl _ _)
              have LP7 := LP6.step (Fr.of_new (S := S) hb7) (Shr.refl _ _)
              have BP7 := BP6.step (Fr.of_new (S := S) hb7) (Shr.refl _ _)
              have L7 := below_trans L6 hb7 L6.size
              clear hb7
              rw [HGC.out]
              refine hK.out _ _ ⟨BP7.now.cell 0 rfl, BP7.now.cell 1 rfl, BP7.now.cell 2 rfl, BP7.now.cell 3 rfl, BP7.now.cell 4 rfl⟩ (fun hHeld => ?_)
              clear hK K
              try simp only [Act.put, List.setIfInBounds_toArray, List.set_cons_zero, List.set_cons_succ]
              refine takeW (i := 20) (oi := { dst := some 140, op := Op.binOp BinOp.eql 3 (Operand.tmp 137) (Operand.tmp 139) 3, type := 4, pos := "mm.go:280", after := #[{ on := 17, ground := Ground.data }, { on := 19, ground := Ground.data }, { on := 16, ground := Ground.guard }], guard := some (16, true) }) (v := ?va1032) rfl (by kernel_rfl) (by kernel_rfl) (by kernel_rfl) rfl (fun _ _ _ h => h) (Or.inl ⟨by rfl, ?ya1032⟩) (fun _ => by assumption) ?ra1032
              case ya1032 => (intro w _; go_simp; first | done | (with_reducible rfl) | (rw [if_neg (by omega)]))
              try simp only [Act.put, List.setIfInBounds_toArray, List.set_cons_zero, List.set_cons_succ]
              refine takeW (i := 21) (oi := { dst := some 141, op := Op.pick (Operand.tmp 136) (Operand.tmp 140) (Operand.const (Value.bool false)), type := 4, pos := "mm.go:280", after := #[{ on := 16, ground := Ground.data }, { on := 20, ground := Ground.data }], guard := none }) (v := ?va1033) rfl (by kernel_rfl) (by kernel_rfl) (by kernel_rfl) rfl (fun _ _ _ h => h) (Or.inl ⟨by rfl, ?ya1033⟩) (fun _ => by assumption) ?ra1033
              case ya1033 => (intro w _; go_simp; first | done | (with_reducible rfl) | (rw [if_neg (by omega)]))
              try simp only [Act.put, List.setIfInBounds_toArray, List.set_cons_zero, List.set_cons_succ]
              refine takeW (i := 22) (oi := { dst := some 6, op := Op.assign (Operand.tmp 141), type := 4, pos := "mm.go:280", after := #[{ on := 21, ground := Ground.data }, { on := 19, ground := Ground.chain }, { on := 0, ground := Ground.phase }, { on := 1, ground := Ground.phase }, { on := 2, ground := Ground.phase }, { on := 3, ground := Ground.phase }, { on := 4, ground := Ground.phase }, { on := 5, ground := Ground.phase }, { on := 6, ground := Ground.phase }, { on := 7, ground := Ground.phase }, { on := 8, ground := Ground.phase }, { on := 9, ground := Ground.phase }, { on := 10, ground := Ground.phase }, { on := 11, ground := Ground.phase }, { on := 12, ground := Ground.phase }, { on := 13, ground := Ground.phase }, { on := 14, ground := Ground.phase }, { on := 15, ground := Ground.phase }, { on := 16, ground := Ground.phase }, { on := 17, ground := Ground.phase }, { on := 18, ground := Ground.phase }, { on := 19, ground := Ground.phase }, { on := 20, ground := Ground.phase }, { on := 21, ground := Ground.phase }], guard := none }) (v := ?va1034) rfl (by kernel_rfl) (by kernel_rfl) (by kernel_rfl) rfl (fun _ _ _ h => h) (Or.inl ⟨by rfl, ?ya1034⟩) (fun _ => by assumption) ?ra1034
              case ya1034 => (intro w _; go_simp; first | done | (with_reducible rfl) | (rw [if_neg (by omega)]))
              try simp only [Act.put, List.setIfInBounds_toArray, List.set_cons_zero, List.set_cons_succ]
              refine doneL (by kernel_rfl) ?_ _
              refine NoPanic.normal ?_
              have HL7 := Lib.hid (below_trans HL1.out L7 HL1.out.size)
              clear hHeld
              go_wp2_with fail
              go_ret
              exact ⟨rfl, HL7.out⟩
    have hlI : ((L.length : Int) == 0) = false := by rw [beq_eq_false_iff_ne]; omega
    have hlp : 0 < L.length := by omega
    go_wp2_with fail
    refine (gameRes_any HSh.out _ HG3.out).mono ?_
    rintro e w4 ⟨rfl, hb4⟩
    have HG4 := Lib.hid (HG3.out.below hb4)
    have HB4 := Lib.hid (below_trans HB3.out hb4 HB3.out.size)
    have HM4 := Lib.hid (HM3.out.below (below_trans (Below.refl _ w3) hb4 (Nat.le_refl _)) (Nat.le_refl _))
    clear hb4 HG3 HB3 HLB3 HX3 HM3
    by_cases hres : gameRes R ms = 0
    rotate_left
    · have hr' : (gameRes R ms != 0) = true := by simpa using hres
      obtain ⟨wr, hwr⟩ : ∃ wr : World, wr = w4 := ⟨_, rfl⟩
      rw [← hwr] at HG4 HB4 HM4 ⊢
      have HGr := HG4
      have HBr := HB4
      clear hwr HG4 HB4 HM4 HLE hres hlI
      go_wp2_with fail
      clear hr'
        -- the moves, the position, the result and the count
      refine (gameMoves_any _ HGr.out).mono ?_
      rintro e x2 ⟨vm2, rfl, hm2, hb2⟩
      have HLM2 : Hid (Held S x2 fun w' => RdL moveEl w' vm2 ms) := Lib.hid ((own_new hm2 (fun k h1 h2 hk => by have := (HGr.out.lo k hk).2; omega)).imp (fun _ h => rdM_of_own h))
      have HG2 := Lib.hid (HGr.out.below hb2)
      have HL2 := Lib.hid (below_trans HBr.out hb2 HBr.out.size)
      obtain ⟨am, cm, rfl⟩ := own_form2 hm2
      clear hb2 hm2 HGr
      go_wp2_with fail
      refine (gamePos_any _ HG2.out).mono ?_
      rintro e x3 ⟨vc, v0, v1, rfl, hp3, hb3⟩
      obtain ⟨ya, yn, rfl⟩ := own_form2 hp3.1
      obtain ⟨ya0, yn0, rfl⟩ := own_form2 hp3.2.1
      obtain ⟨ya1, yn1, rfl⟩ := own_form2 hp3.2.2.1
      have HLP3 : Hid (Held S x3 fun w' => RdP w' (nowZ R ms) (.slice ya (nowZ R ms).cells.length yn) (.slice ya0 (nowZ R ms).h0.length yn0) (.slice ya1 (nowZ R ms).h1.length yn1)) := Lib.hid ((ownP_held hp3 (fun k h1 h2 hk => by have := (HG2.out.lo k hk).2; omega)).imp (fun _ h => h.rd))
      have HLM3 := Lib.hid (HLM2.out.step (Fr.of_new (S := S) hb3) (Shr.refl _ _))
      have HG3 := Lib.hid (HG2.out.below hb3)
      have HL3 := Lib.hid (below_trans HL2.out hb3 HL2.out.size)
      clear hb3 hp3 HG2 HLM2 HL2
      go_wp2_with fail
      refine (gameRes_any HSh.out _ HG3.out).mono ?_
      rintro e x4 ⟨rfl, hb4⟩
      have HLP4 := Lib.hid (HLP3.out.step (Fr.of_new (S := S) hb4) (Shr.refl _ _))
      have HLM4 := Lib.hid (HLM3.out.step (Fr.of_new (S := S) hb4) (Shr.refl _ _))
      have HG4 := Lib.hid (HG3.out.below hb4)
      have HL4 := Lib.hid (below_trans HL3.out hb4 HL3.out.size)
      clear hb4 HG3 HLM3 HLP3 HL3
      go_wp2_with fail
      refine (count_any _ HG4.out).mono ?_
      rintro e x5 ⟨rfl, hb5⟩
      have HLP5 := Lib.hid (HLP4.out.step (Fr.of_new (S := S) hb5) (Shr.refl _ _))
      have HLM5 := Lib.hid (HLM4.out.step (Fr.of_new (S := S) hb5) (Shr.refl _ _))
      have HG5 := Lib.hid (HG4.out.below hb5)
      have HL5 := Lib.hid (below_trans HL4.out hb5 HL4.out.size)
      clear hb5 HG4 HLM4 HLP4 HL4
      go_upto_region 17 with (fail)
      have hal := ((Below.refl x5.heap.size x5).alloc (Nat.le_refl _) (.cells #[.slice ya (nowZ R ms).cells.length yn, .slice ya0 (nowZ R ms).h0.length yn0, .slice ya1 (nowZ R ms).h1.length yn1, .int .i64 (nowZ R ms).turn, .int .i64 (nowZ R ms).quiet] 37))
      have HLP6 := Lib.hid (HLP5.out.step (Fr.of_new (S := S) hal) (Shr.refl _ _))
      have HLM6 := Lib.hid (HLM5.out.step (Fr.of_new (S := S) hal) (Shr.refl _ _))
      have HG6 := Lib.hid (HG5.out.below hal)
      have HL6 := Lib.hid (below_trans HL5.out hal HL5.out.size)
      obtain ⟨bp, hbp⟩ : ∃ bp, bp = x5.heap.size := ⟨_, rfl⟩
      have HBP6 : Hid (Held S (x5.alloc (.cells #[.slice ya (nowZ R ms).cells.length yn, .slice ya0 (nowZ R ms).h0.length yn0, .slice ya1 (nowZ R ms).h1.length yn1, .int .i64 (nowZ R ms).turn, .int .i64 (nowZ R ms).quiet] 37)) fun w' => Box w' bp [.slice ya (nowZ R ms).cells.length yn, .slice ya0 (nowZ R ms).h0.length yn0, .slice ya1 (nowZ R ms).h1.length yn1, .int .i64 (nowZ R ms).turn, .int .i64 (nowZ R ms).quiet] 37) := Lib.hid (by
        rw [hbp]
        exact fun w' hw => (Box.new x5 [.slice ya (nowZ R ms).cells.length yn, .slice ya0 (nowZ R ms).h0.length yn0, .slice ya1 (nowZ R ms).h1.length yn1, .int .i64 (nowZ R ms).turn, .int .i64 (nowZ R ms).quiet] 37).held hw (fun hk => by have := (HG5.out.lo _ hk).2; omega))
      rw [← hbp]
      clear hbp hal HG5 HLM5 HLP5 HL5
      generalize (x5.alloc (.cells #[.slice ya (nowZ R ms).cells.length yn, .slice ya0 (nowZ R ms).h0.length yn0, .slice ya1 (nowZ R ms).h1.length yn1, .int .i64 (nowZ R ms).turn, .int .i64 (nowZ R ms).quiet] 37)) = x6 at *
      obtain ⟨gr, hgr⟩ : ∃ gr, gameRes R ms = gr := ⟨_, rfl⟩
      obtain ⟨gc, hgc⟩ : ∃ gc, countZ R ms = gc := ⟨_, rfl⟩
      have HGR := Lib.hid hgr
      have HGC := Lib.hid hgc
      rw [hgr, hgc]
      clear hgr hgc
      obtain ⟨K, hK⟩ : ∃ K, K = ms.length := ⟨_, rfl⟩
      have HKL := Lib.hid hK
      have hk24 : K ≤ 24 := by omega
      rw [← hK] at HLM6 ⊢
      have hr1 := tmod_rg back (K + 1) (by omega)
      rw [show ((K + 1 : Nat) : Int) = (K : Int) + 1 by omega] at hr1
      obtain ⟨hr1a, hr1b⟩ := hr1
      obtain ⟨T, hT, hTK⟩ := tmod_nat (Int.tmod back ((K : Int) + 1) + K + 1) (K + 1) (by omega) (by omega)
      rw [show ((K + 1 : Nat) : Int) = (K : Int) + 1 by omega] at hT
      have hT' : (Int.tmod back ((K : Int) + 1) + K + 1) % ((K : Int) + 1) = T := by rw [← Int.tmod_eq_emod_of_nonneg (by omega)]; exact hT
      clear hK
      go_wp2_with fail
      go_loopw [99] (fun vi wr => ∃ (j : Nat) (S : Nat → Prop) (vl vm : Value) (rows : List PosV), j ≤ T ∧ vi = .int .i64 j ∧ Hid (GameAt S w1.heap.size wr b R (ms.take (ms.length - j)) up us ue vl vm rows) ∧ Hid (Held S wr fun w' => RdL moveEl w' (.slice am K cm) ms) ∧ Hid (Held S wr fun w' => RdP w' (nowZ R ms) (.slice ya (nowZ R ms).cells.length yn) (.slice ya0 (nowZ R ms).h0.length yn0) (.slice ya1 (nowZ R ms).h1.length yn1)) ∧ Hid (Held S wr fun w' => Box w' bp [.slice ya (nowZ R ms).cells.length yn, .slice ya0 (nowZ R ms).h0.length yn0, .slice ya1 (nowZ R ms).h1.length yn1, .int .i64 (nowZ R ms).turn, .int .i64 (nowZ R ms).quiet] 37) ∧ Hid (Below w1.heap.size w1 wr)) (fun i _ => T - (intOf i).toNat)
      case atStart => exact ⟨0, S, vl, vm, rows, Nat.zero_le _, rfl, Lib.hid (by rw [Nat.sub_zero, List.take_of_length_le (Nat.le_refl _)]; exact HG6.out), HLM6, HLP6, HBP6, HL6⟩
      case round =>
        clear HG6 HLM6 HLP6 HBP6 HL6
        obtain ⟨j, S, vl, vm, rows, hj, rfl, HG6, HLM6, HLP6, HBP6, HL6⟩ := hrel
        by_cases hjT : j < T
        · go_wp2_with fail
          refine (Back_any _ HG6.out HL6.out.size).mono ?_
          rintro e y2 (⟨hbad, -⟩ | ⟨q, hq, rfl, vl', vm', rows', hg2, hf2⟩)
          · rw [List.length_take] at hbad; have := HKL.out; omega
          have HG7 : Hid (GameAt S w1.heap.size y2 b R (ms.take (ms.length - (j + 1))) up us ue vl' vm' rows') := Lib.hid (by rw [← take_back ms j q hq]; exact hg2)
          have HLM7 := Lib.hid (HLM6.out.step hf2 (Shr.refl _ _))
          have HLP7 := Lib.hid (HLP6.out.step hf2 (Shr.refl _ _))
          have HBP7 := Lib.hid (HBP6.out.step hf2 (Shr.refl _ _))
          have HL7 := Lib.hid (HL6.out.trans (HG6.out.frame hf2 HL6.out.size))
          clear hg2 hf2 hq HG6 HLM6 HLP6 HBP6 HL6
          go_wp2_with fail
          go_roundw
          case rel => exact ⟨j + 1, S, vl', vm', rows', by omega, by go_num, HG7, HLM7, HLP7, HBP7, HL7⟩
          case measure => simp [intOf]; omega
        · obtain rfl : j = T := by omega
          clear hjT
          go_wp2_with fail
          refine (gameMoves_any _ HG6.out).mono ?_
          rintro e y2 ⟨vm2, rfl, hm2, hb2⟩
          have HG7 := Lib.hid (HG6.out.below hb2)
          have HLM7 := Lib.hid (HLM6.out.step (Fr.of_new (S := S) hb2) (Shr.refl _ _))
          have HLP7 := Lib.hid (HLP6.out.step (Fr.of_new (S := S) hb2) (Shr.refl _ _))
          have HBP7 := Lib.hid (HBP6.out.step (Fr.of_new (S := S) hb2) (Shr.refl _ _))
          have HL7 := Lib.hid (below_trans HL6.out hb2 HL6.out.size)
          obtain ⟨a2, c2, rfl⟩ := own_form2 hm2
          clear hb2 hm2 HG6 HLM6 HLP6 HBP6 HL6
          have hkt : (ms.take (ms.length - j)).length = K - j := by have := HKL.out; rw [List.length_take]; omega
          obtain ⟨D, hD⟩ : ∃ D, D = K - j := ⟨_, rfl⟩
          have hDK : D ≤ K := by omega
          rw [hkt, ← hD]
          have hsd : ∀ w' : World, (Instr.slice 32 (.slice am K cm) (some (.int .i64 (D : Int))) none none).run Try.prog w' = .ok (.slice (subAddr am cm D 3) (K - D) (cm - D)) w' := fun w' =>
            run_drop (P := Try.prog) (t := 32) (s := 3) Try.underlying32 (fun w => by kernel_rfl) am K cm D hDK w'
          have HLD7 : Hid (Held S y2 fun w' => RdL moveEl w' (.slice (subAddr am cm D 3) (K - D) (cm - D)) (ms.drop D)) := Lib.hid (HLM7.out.imp (fun w' h => by
            have h' := HKL.out
            subst h'
            exact h.drop D (by omega)))
          obtain ⟨N, hN⟩ : ∃ N, N = K - D := ⟨_, rfl⟩
          have hND : D + N = K := by omega
          have HGD : Hid (GameAt S w1.heap.size y2 b R (ms.take (D + 0)) up us ue vl vm rows) := Lib.hid (by
            have := HG7.out
            rw [show ms.length - j = D by have := HKL.out; omega] at this
            exact this)
          rw [← hN] at hsd HLD7
          clear hkt hD hN HG7
          go_wp2_with fail
          clear hsd
          obtain ⟨wB, rfl⟩ : ∃ wB : World, wB = wr := ⟨_, rfl⟩
          go_loopw [111, 19] (fun vi a19 wr => ∃ (i : Nat) (S : Nat → Prop) (vl vm : Value) (rows : List PosV), i ≤ N ∧ vi = .int .i64 i ∧ Hid (GameAt S w1.heap.size wr b R (ms.take (D + i)) up us ue vl vm rows) ∧ Hid (Held S wr fun w' => RdL moveEl w' (.slice am K cm) ms) ∧ Hid (Held S wr fun w' => RdL moveEl w' (.slice (subAddr am cm D 3) N (cm - D)) (ms.drop D)) ∧ Hid (Held S wr fun w' => RdP w' (nowZ R ms) (.slice ya (nowZ R ms).cells.length yn) (.slice ya0 (nowZ R ms).h0.length yn0) (.slice ya1 (nowZ R ms).h1.length yn1)) ∧ Hid (Held S wr fun w' => Box w' bp [.slice ya (nowZ R ms).cells.length yn, .slice ya0 (nowZ R ms).h0.length yn0, .slice ya1 (nowZ R ms).h1.length yn1, .int .i64 (nowZ R ms).turn, .int .i64 (nowZ R ms).quiet] 37) ∧ Hid (Below w1.heap.size w1 wr)) (fun i _ _ => N - (intOf i).toNat)
          case atStart => exact ⟨0, S, vl, vm, rows, Nat.zero_le _, rfl, HGD, HLM7, HLD7, HLP7, HBP7, HL7⟩
          case round =>
            clear HGD HLM7 HLD7 HLP7 HBP7 HL7
            obtain ⟨i, S, vl, vm, rows, hi, rfl, HG7, HLM7, HLD7, HLP7, HBP7, HL7⟩ := hrel
            have hbw : w1.heap.size ≤ wr.heap.size := HL7.out.size
            by_cases hiN : i < N
            · have hdl : i < (ms.drop D).length := by have := HKL.out; rw [List.length_drop]; omega
              have HLDn := Lib.hid HLD7.out.now
              obtain ⟨gd, od, ha, hgd, hcc⟩ := moves_some HLDn.out (by omega)
              obtain ⟨c0, c1, c2⟩ := hcc i hdl
              have HMG : Hid ((ms.drop D).getD i default = ms.getD (D + i) default) := Lib.hid (by rw [List.getD_eq_getElem?_getD, List.getD_eq_getElem?_getD, List.getElem?_drop])
              have HPK := Lib.hid (HPl.out (D + i) (by have := HKL.out; omega))
              have HTN := Lib.hid (take_next ms (D + i) (by have := HKL.out; omega))
              rw [HMG.out] at c0 c1 c2
              rw [ha] at HLD7 ⊢
              clear hcc HMG hdl HLDn
              generalize ms.getD (D + i) default = m at *
              go_upto_region 26 with (fail)
              have HBm := Lib.hid (Box.new wr [.int .i64 m.src, .int .i64 m.dst, .int .i64 m.piece] 42)
              have hal := ((Below.refl wr.heap.size wr).alloc (Nat.le_refl _) (.cells #[.int .i64 m.src, .int .i64 m.dst, .int .i64 m.piece] 42))
              have HG8 := Lib.hid (HG7.out.below hal)
              have HLM8 := Lib.hid (HLM7.out.step (Fr.of_new (S := S) hal) (Shr.refl _ _))
              have HLD8 := Lib.hid (HLD7.out.step (Fr.of_new (S := S) hal) (Shr.refl _ _))
              have HLP8 := Lib.hid (HLP7.out.step (Fr.of_new (S := S) hal) (Shr.refl _ _))
              have HBP8 := Lib.hid (HBP7.out.step (Fr.of_new (S := S) hal) (Shr.refl _ _))
              have HL8 := Lib.hid (below_trans HL7.out hal HL7.out.size)
              have hz8 : wr.heap.size < (wr.alloc (.cells #[.int .i64 m.src, .int .i64 m.dst, .int .i64 m.piece] 42)).heap.size := by simp
              clear c0 c1 c2 hal HG7 HLM7 HLD7 HLP7 HBP7 HL7
              generalize (wr.alloc (.cells #[.int .i64 m.src, .int .i64 m.dst, .int .i64 m.piece] 42)) = y3 at *
              have d0 := HBm.out.cell 0 rfl
              have d1 := HBm.out.cell 1 rfl
              have d2 := HBm.out.cell 2 rfl
              go_wp2_with fail
              refine (Play_any HSh.out m y3 HG8.out HL8.out.size).mono ?_
              rintro e y4 (⟨hbad, -⟩ | ⟨hok, rfl, S', vl', vm', rows', hg4, hsh, hf4⟩)
              · exact absurd HPK.out hbad
              have HG9 : Hid (GameAt S' w1.heap.size y4 b R (ms.take (D + (i + 1))) up us ue vl' vm' rows') := Lib.hid (by rw [← Nat.add_assoc, ← HTN.out]; exact hg4)
              have HLM9 := Lib.hid (HLM8.out.step hf4 hsh)
              have HLD9 := Lib.hid (HLD8.out.step hf4 hsh)
              have HLP9 := Lib.hid (HLP8.out.step hf4 hsh)
              have HBP9 := Lib.hid (HBP8.out.step hf4 hsh)
              have HL9 := Lib.hid (HL8.out.trans (HG8.out.frame hf4 HL8.out.size))
              clear hok hg4 hsh hf4 d0 d1 d2
              go_wp2_with fail
              go_roundw
              case rel => exact ⟨i + 1, S', vl', vm', rows', by omega, by go_num, HG9, HLM9, HLD9, HLP9, HBP9, HL9⟩
              case measure => simp [intOf]; omega
            · obtain rfl : i = N := by omega
              have HG8 : Hid (GameAt S w1.heap.size wr b R ms up us ue vl vm rows) := Lib.hid (by
                have := HG7.out
                rwa [hND, List.take_of_length_le (by have := HKL.out; omega)] at this)
              have hms24 : ms.length ≤ 1000000 := by omega
              clear HG7 HLD7 hiN
              go_upto_region 29 with (fail)
              generalize wr = wq at *
              have Gz : GameAt S w1.heap.size wq.drew b R ms up us ue vl vm rows := HG8.out.below (below_drew' (Below.refl _ _))
              have LMz : Held S wq.drew fun w' => RdL moveEl w' (.slice am K cm) ms := HLM7.out.step ((Fr.refl _ wq).drew) (Shr.refl _ _)
              have LPz : Held S wq.drew fun w' => RdP w' (nowZ R ms) (.slice ya (nowZ R ms).cells.length yn) (.slice ya0 (nowZ R ms).h0.length yn0) (.slice ya1 (nowZ R ms).h1.length yn1) := HLP7.out.step ((Fr.refl _ wq).drew) (Shr.refl _ _)
              have BPz : Held S wq.drew fun w' => Box w' bp [.slice ya (nowZ R ms).cells.length yn, .slice ya0 (nowZ R ms).h0.length yn0, .slice ya1 (nowZ R ms).h1.length yn1, .int .i64 (nowZ R ms).turn, .int .i64 (nowZ R ms).quiet] 37 := HBP7.out.step ((Fr.refl _ wq).drew) (Shr.refl _ _)
              have Lz : Below w1.heap.size w1 wq.drew := below_drew' HL7.out
              clear HG8 HLM7 HLP7 HBP7 HL7 hbw
              refine wp_region_noPanic ?_
              refine beginL (S := (fun w' => w'.cell? ⟨bp, 0, none⟩ = some (.slice ya (nowZ R ms).cells.length yn) ∧ w'.cell? ⟨bp, 1, none⟩ = some (.slice ya0 (nowZ R ms).h0.length yn0) ∧ w'.cell? ⟨bp, 2, none⟩ = some (.slice ya1 (nowZ R ms).h1.length yn1) ∧ w'.cell? ⟨bp, 3, none⟩ = some (.int .i64 (nowZ R ms).turn) ∧ w'.cell? ⟨bp, 4, none⟩ = some (.int .i64 (nowZ R ms).quiet))) (L := []) (by kernel_rfl) ⟨BPz.now.cell 0 rfl, BPz.now.cell 1 rfl, BPz.now.cell 2 rfl, BPz.now.cell 3 rfl, BPz.now.cell 4 rfl⟩ (fun hHeld => ?_)
              refine takeW (i := 0) (oi := { dst := some 120, op := Op.move (Operand.tmp 13), type := 32, pos := "mm.go:280", after := #[], guard := none }) (v := ?va1035) rfl (by kernel_rfl) (by kernel_rfl) (by kernel_rfl) rfl (fun _ _ _ h => h) (Or.inl ⟨by rfl, ?ya1035⟩) (fun _ => by assumption) ?ra1035
              case ya1035 => (intro w _; go_simp; first | done | (with_reducible rfl) | (rw [if_neg (by omega)]))
              try simp only [Act.put, List.setIfInBounds_toArray, List.set_cons_zero, List.set_cons_succ]
              refine takeW (i := 1) (oi := { dst := some 121, op := Op.move (Operand.tmp 7), type := 28, pos := "mm.go:280", after := #[], guard := none }) (v := ?va1036) rfl (by kernel_rfl) (by kernel_rfl) (by kernel_rfl) rfl (fun _ _ _ h => h) (Or.inl ⟨by rfl, ?ya1036⟩) (fun _ => by assumption) ?ra1036
              case ya1036 => (intro w _; go_simp; first | done | (with_reducible rfl) | (rw [if_neg (by omega)]))
              try simp only [Act.put, List.setIfInBounds_toArray, List.set_cons_zero, List.set_cons_succ]
              refine readyL (rs := [2]) (by kernel_rfl) (by simp) ?_
              refine (AllReadyL.cons (o := { dst := some 122, op := Op.call { callee := Callee.value (Operand.func 21), args := #[Operand.tmp 121], argTypes := #[28] }, type := 32, pos := "mm.go:280", after := #[{ on := 1, ground := Ground.data }], guard := none }) rfl (fun K hK => ?_) AllReadyL.nil)
              go_simp
              refine (gameMoves_any _ Gz).mono ?_
              rintro e y2 ⟨vm2, rfl, hm2, hb2⟩
              have G2 := Gz.below hb2
              have LM2 := LMz.step (Fr.of_new (S := S) hb2) (Shr.refl _ _)
              have LP2 := LPz.step (Fr.of_new (S := S) hb2) (Shr.refl _ _)
              have BP2 := BPz.step (Fr.of_new (S := S) hb2) (Shr.refl _ _)
              have L2 := below_trans Lz hb2 Lz.size
              clear hb2
              refine hK.out _ _ ⟨BP2.now.cell 0 rfl, BP2.now.cell 1 rfl, BP2.now.cell 2 rfl, BP2.now.cell 3 rfl, BP2.now.cell 4 rfl⟩ (fun hHeld => ?_)
              clear hK K
              try simp only [Act.put, List.setIfInBounds_toArray, List.set_cons_zero, List.set_cons_succ]
              refine readyL (rs := [3]) (by kernel_rfl) (by simp) ?_
              refine (AllReadyL.cons (o := { dst := some 123, op := Op.call { callee := Callee.value (Operand.func 24), args := #[Operand.tmp 120, Operand.tmp 122], argTypes := #[32, 32] }, type := 4, pos := "mm.go:280", after := #[{ on := 0, ground := Ground.data }, { on := 2, ground := Ground.data }, { on := 2, ground := Ground.chain }], guard := none }) rfl (fun K hK => ?_) AllReadyL.nil)
              go_simp
              refine (equalMv_any _ _ ms ms y2 LM2.now (rdM_of_own hm2) (by omega)).mono ?_
              rintro e y3 ⟨rfl, hb3⟩
              rw [show decide (ms = ms) = true by simp]
              have G3 := G2.below hb3
              have LM3 := LM2.step (Fr.of_new (S := S) hb3) (Shr.refl _ _)
              have LP3 := LP2.step (Fr.of_new (S := S) hb3) (Shr.refl _ _)
              have BP3 := BP2.step (Fr.of_new (S := S) hb3) (Shr.refl _ _)
              have L3 := below_trans L2 hb3 L2.size
              clear hb3
              refine hK.out _ _ ⟨BP3.now.cell 0 rfl, BP3.now.cell 1 rfl, BP3.now.cell 2 rfl, BP3.now.cell 3 rfl, BP3.now.cell 4 rfl⟩ (fun hHeld => ?_)
              clear hK K
              try simp only [Act.put, List.setIfInBounds_toArray, List.set_cons_zero, List.set_cons_succ]
              refine takeW (i := 4) (oi := { dst := some 124, op := Op.move (Operand.tmp 123), type := 4, pos := "mm.go:280", after := #[{ on := 3, ground := Ground.data }, { on := 3, ground := Ground.chain }], guard := none }) (v := ?va1037) rfl (by kernel_rfl) (by kernel_rfl) (by kernel_rfl) rfl (fun _ _ _ h => h) (Or.inl ⟨by rfl, ?ya1037⟩) (fun _ => by assumption) ?ra1037
              case ya1037 => (intro w _; go_simp; first | done | (with_reducible rfl) | (rw [if_neg (by omega)]))
              try simp only [Act.put, List.setIfInBounds_toArray, List.set_cons_zero, List.set_cons_succ]
              refine takeL (i := 5) (oi := { dst := some 125, op := Op.load 37 (Operand.tmp 14), type := 37, pos := "mm.go:280", after := #[{ on := 4, ground := Ground.guard }], guard := some (4, true) }) (v := ?va1038) rfl (by kernel_rfl) (by kernel_rfl) (by kernel_rfl) (by kernel_rfl) rfl (by kernel_rfl) (by kernel_rfl) (fun _ _ _ h => h) (Or.inl ⟨by rfl, ?ya1038⟩) (by assumption) ?ra1038
              case ya1038 => (intro w hSw; (try dsimp only at hSw); go_simp; first | done | (with_reducible rfl))
              try simp only [Act.put, List.setIfInBounds_toArray, List.set_cons_zero, List.set_cons_succ]
              refine takeW (i := 6) (oi := { dst := some 126, op := Op.move (Operand.tmp 7), type := 28, pos := "mm.go:280", after := #[{ on := 4, ground := Ground.guard }], guard := some (4, true) }) (v := ?va1039) rfl (by kernel_rfl) (by kernel_rfl) (by kernel_rfl) rfl (fun _ _ _ h => h) (Or.inl ⟨by rfl, ?ya1039⟩) (fun _ => by assumption) ?ra1039
              case ya1039 => (intro w _; go_simp; first | done | (with_reducible rfl) | (rw [if_neg (by omega)]))
              try simp only [Act.put, List.setIfInBounds_toArray, List.set_cons_zero, List.set_cons_succ]
              refine readyL (rs := [7]) (by kernel_rfl) (by simp) ?_
              refine (AllReadyL.cons (o := { dst := some 127, op := Op.call { callee := Callee.value (Operand.func 18), args := #[Operand.tmp 126], argTypes := #[28] }, type := 37, pos := "mm.go:280", after := #[{ on := 6, ground := Ground.data }, { on := 4, ground := Ground.chain }, { on := 4, ground := Ground.guard }], guard := some (4, true) }) rfl (fun K hK => ?_) AllReadyL.nil)
              go_simp
              refine (gamePos_any _ G3).mono ?_
              rintro e y4 ⟨uc, u0, u1, rfl, hp4, hb4⟩
              have G4 := G3.below hb4
              have LM4 := LM3.step (Fr.of_new (S := S) hb4) (Shr.refl _ _)
              have LP4 := LP3.step (Fr.of_new (S := S) hb4) (Shr.refl _ _)
              have BP4 := BP3.step (Fr.of_new (S := S) hb4) (Shr.refl _ _)
              have L4 := below_trans L3 hb4 L3.size
              clear hb4
              refine hK.out _ _ ⟨BP4.now.cell 0 rfl, BP4.now.cell 1 rfl, BP4.now.cell 2 rfl, BP4.now.cell 3 rfl, BP4.now.cell 4 rfl⟩ (fun hHeld => ?_)
              clear hK K
              try simp only [Act.put, List.setIfInBounds_toArray, List.set_cons_zero, List.set_cons_succ]
              refine readyL (rs := [8]) (by kernel_rfl) (by simp) ?_
              refine (AllReadyL.cons (o := { dst := some 128, op := Op.call { callee := Callee.value (Operand.func 25), args := #[Operand.tmp 125, Operand.tmp 127], argTypes := #[37, 37] }, type := 4, pos := "mm.go:280", after := #[{ on := 5, ground := Ground.data }, { on := 7, ground := Ground.data }, { on := 7, ground := Ground.chain }, { on := 4, ground := Ground.guard }], guard := some (4, true) }) rfl (fun K hK => ?_) AllReadyL.nil)
              go_simp
              refine (bSame_any (nowZ R ms) (nowZ R ms) (.slice ya (nowZ R ms).cells.length yn) (.slice ya0 (nowZ R ms).h0.length yn0) (.slice ya1 (nowZ R ms).h1.length yn1) uc u0 u1 y4 LP4.now hp4.rd).mono ?_
              rintro e y5 ⟨rfl, hb5⟩
              rw [sameZ_self]
              have G5 := G4.below hb5
              have LM5 := LM4.step (Fr.of_new (S := S) hb5) (Shr.refl _ _)
              have LP5 := LP4.step (Fr.of_new (S := S) hb5) (Shr.refl _ _)
              have BP5 := BP4.step (Fr.of_new (S := S) hb5) (Shr.refl _ _)
              have L5 := below_trans L4 hb5 L4.size
              clear hb5
              refine hK.out _ _ ⟨BP5.now.cell 0 rfl, BP5.now.cell 1 rfl, BP5.now.cell 2 rfl, BP5.now.cell 3 rfl, BP5.now.cell 4 rfl⟩ (fun hHeld => ?_)
              clear hK K
              try simp only [Act.put, List.setIfInBounds_toArray, List.set_cons_zero, List.set_cons_succ]
              refine takeW (i := 9) (oi := { dst := some 129, op := Op.pick (Operand.tmp 124) (Operand.tmp 128) (Operand.const (Value.bool false)), type := 4, pos := "mm.go:280", after := #[{ on := 4, ground := Ground.data }, { on := 8, ground := Ground.data }], guard := none }) (v := ?va1040) rfl (by kernel_rfl) (by kernel_rfl) (by kernel_rfl) rfl (fun _ _ _ h => h) (Or.inl ⟨by rfl, ?ya1040⟩) (fun _ => by assumption) ?ra1040
              case ya1040 => (intro w _; go_simp; first | done | (with_reducible rfl) | (rw [if_neg (by omega)]))
              try simp only [Act.put, List.setIfInBounds_toArray, List.set_cons_zero, List.set_cons_succ]
              refine takeW (i := 10) (oi := { dst := some 130, op := Op.move (Operand.tmp 129), type := 4, pos := "mm.go:280", after := #[{ on := 9, ground := Ground.data }, { on := 8, ground := Ground.chain }], guard := none }) (v := ?va1041) rfl (by kernel_rfl) (by kernel_rfl) (by kernel_rfl) rfl (fun _ _ _ h => h) (Or.inl ⟨by rfl, ?ya1041⟩) (fun _ => by assumption) ?ra1041
              case ya1041 => (intro w _; go_simp; first | done | (with_reducible rfl) | (rw [if_neg (by omega)]))
              try simp only [Act.put, List.setIfInBounds_toArray, List.set_cons_zero, List.set_cons_succ]
              refine takeW (i := 11) (oi := { dst := some 131, op := Op.move (Operand.tmp 15), type := 3, pos := "mm.go:280", after := #[{ on := 10, ground := Ground.guard }], guard := some (10, true) }) (v := ?va1042) rfl (by kernel_rfl) (by kernel_rfl) (by kernel_rfl) rfl (fun _ _ _ h => h) (Or.inl ⟨by rfl, ?ya1042⟩) (fun _ => by assumption) ?ra1042
              case ya1042 => (intro w _; go_simp; first | done | (with_reducible rfl) | (rw [if_neg (by omega)]))
              try simp only [Act.put, List.setIfInBounds_toArray, List.set_cons_zero, List.set_cons_succ]
              refine takeW (i := 12) (oi := { dst := some 132, op := Op.move (Operand.tmp 7), type := 28, pos := "mm.go:280", after := #[{ on := 10, ground := Ground.guard }], guard := some (10, true) }) (v := ?va1043) rfl (by kernel_rfl) (by kernel_rfl) (by kernel_rfl) rfl (fun _ _ _ h => h) (Or.inl ⟨by rfl, ?ya1043⟩) (fun _ => by assumption) ?ra1043
              case ya1043 => (intro w _; go_simp; first | done | (with_reducible rfl) | (rw [if_neg (by omega)]))
              try simp only [Act.put, List.setIfInBounds_toArray, List.set_cons_zero, List.set_cons_succ]
              refine readyL (rs := [13]) (by kernel_rfl) (by simp) ?_
              refine (AllReadyL.cons (o := { dst := some 133, op := Op.call { callee := Callee.value (Operand.func 19), args := #[Operand.tmp 132], argTypes := #[28] }, type := 3, pos := "mm.go:280", after := #[{ on := 12, ground := Ground.data }, { on := 10, ground := Ground.chain }, { on := 10, ground := Ground.guard }], guard := some (10, true) }) rfl (fun K hK => ?_) AllReadyL.nil)
              go_simp
              refine (gameRes_any HSh.out _ G5).mono ?_
              rintro e y6 ⟨rfl, hb6⟩
              have G6 := G5.below hb6
              have LM6 := LM5.step (Fr.of_new (S := S) hb6) (Shr.refl _ _)
              have LP6 := LP5.step (Fr.of_new (S := S) hb6) (Shr.refl _ _)
              have BP6 := BP5.step (Fr.of_new (S := S) hb6) (Shr.refl _ _)
              have L6 := below_trans L5 hb6 L5.size
              clear hb6
              rw [HGR.out]
              refine hK.out _ _ ⟨BP6.now.cell 0 rfl, BP6.now.cell 1 rfl, BP6.now.cell 2 rfl, BP6.now.cell 3 rfl, BP6.now.cell 4 rfl⟩ (fun hHeld => ?_)
              clear hK K
              try simp only [Act.put, List.setIfInBounds_toArray, List.set_cons_zero, List.set_cons_succ]
              refine takeW (i := 14) (oi := { dst := some 134, op := Op.binOp BinOp.eql 3 (Operand.tmp 131) (Operand.tmp 133) 3, type := 4, pos := "mm.go:280", after := #[{ on := 11, ground := Ground.data }, { on := 13, ground := Ground.data }, { on := 10, ground := Ground.guard }], guard := some (10, true) }) (v := ?va1044) rfl (by kernel_rfl) (by kernel_rfl) (by kernel_rfl) rfl (fun _ _ _ h => h) (Or.inl ⟨by rfl, ?ya1044⟩) (fun _ => by assumption) ?ra1044
              case ya1044 => (intro w _; go_simp; first | done | (with_reducible rfl) | (rw [if_neg (by omega)]))
              try simp only [Act.put, List.setIfInBounds_toArray, List.set_cons_zero, List.set_cons_succ]
              refine takeW (i := 15) (oi := { dst := some 135, op := Op.pick (Operand.tmp 130) (Operand.tmp 134) (Operand.const (Value.bool false)), type := 4, pos := "mm.go:280", after := #[{ on := 10, ground := Ground.data }, { on := 14, ground := Ground.data }], guard := none }) (v := ?va1045) rfl (by kernel_rfl) (by kernel_rfl) (by kernel_rfl) rfl (fun _ _ _ h => h) (Or.inl ⟨by rfl, ?ya1045⟩) (fun _ => by assumption) ?ra1045
              case ya1045 => (intro w _; go_simp; first | done | (with_reducible rfl) | (rw [if_neg (by omega)]))
              try simp only [Act.put, List.setIfInBounds_toArray, List.set_cons_zero, List.set_cons_succ]
              refine takeW (i := 16) (oi := { dst := some 136, op := Op.move (Operand.tmp 135), type := 4, pos := "mm.go:280", after := #[{ on := 15, ground := Ground.data }, { on := 13, ground := Ground.chain }], guard := none }) (v := ?va1046) rfl (by kernel_rfl) (by kernel_rfl) (by kernel_rfl) rfl (fun _ _ _ h => h) (Or.inl ⟨by rfl, ?ya1046⟩) (fun _ => by assumption) ?ra1046
              case ya1046 => (intro w _; go_simp; first | done | (with_reducible rfl) | (rw [if_neg (by omega)]))
              try simp only [Act.put, List.setIfInBounds_toArray, List.set_cons_zero, List.set_cons_succ]
              refine takeW (i := 17) (oi := { dst := some 137, op := Op.move (Operand.tmp 16), type := 3, pos := "mm.go:280", after := #[{ on := 16, ground := Ground.guard }], guard := some (16, true) }) (v := ?va1047) rfl (by kernel_rfl) (by kernel_rfl) (by kernel_rfl) rfl (fun _ _ _ h => h) (Or.inl ⟨by rfl, ?ya1047⟩) (fun _ => by assumption) ?ra1047
              case ya1047 => (intro w _; go_simp; first | done | (with_reducible rfl) | (rw [if_neg (by omega)]))
              try simp only [Act.put, List.setIfInBounds_toArray, List.set_cons_zero, List.set_cons_succ]
              refine takeW (i := 18) (oi := { dst := some 138, op := Op.move (Operand.tmp 7), type := 28, pos := "mm.go:280", after := #[{ on := 16, ground := Ground.guard }], guard := some (16, true) }) (v := ?va1048) rfl (by kernel_rfl) (by kernel_rfl) (by kernel_rfl) rfl (fun _ _ _ h => h) (Or.inl ⟨by rfl, ?ya1048⟩) (fun _ => by assumption) ?ra1048
              case ya1048 => (intro w _; go_simp; first | done | (with_reducible rfl) | (rw [if_neg (by omega)]))
              try simp only [Act.put, List.setIfInBounds_toArray, List.set_cons_zero, List.set_cons_succ]
              refine readyL (rs := [19]) (by kernel_rfl) (by simp) ?_
              refine (AllReadyL.cons (o := { dst := some 139, op := Op.call { callee := Callee.value (Operand.func 22), args := #[Operand.tmp 138], argTypes := #[28] }, type := 3, pos := "mm.go:280", after := #[{ on := 18, ground := Ground.data }, { on := 16, ground := Ground.chain }, { on := 16, ground := Ground.guard }], guard := some (16, true) }) rfl (fun K hK => ?_) AllReadyL.nil)
              go_simp
              refine (count_any _ G6).mono ?_
              rintro e y7 ⟨rfl, hb7⟩
              have G7 := G6.below hb7
              have LM7 := LM6.step (Fr.of_new (S := S) hb7) (Shr.refl _ _)
              have LP7 := LP6.step (Fr.of_new (S := S) hb7) (Shr.refl _ _)
              have BP7 := BP6.step (Fr.of_new (S := S) hb7) (Shr.refl _ _)
              have L7 := below_trans L6 hb7 L6.size
              clear hb7
              rw [HGC.out]
              refine hK.out _ _ ⟨BP7.now.cell 0 rfl, BP7.now.cell 1 rfl, BP7.now.cell 2 rfl, BP7.now.cell 3 rfl, BP7.now.cell 4 rfl⟩ (fun hHeld => ?_)
              clear hK K
              try simp only [Act.put, List.setIfInBounds_toArray, List.set_cons_zero, List.set_cons_succ]
              refine takeW (i := 20) (oi := { dst := some 140, op := Op.binOp BinOp.eql 3 (Operand.tmp 137) (Operand.tmp 139) 3, type := 4, pos := "mm.go:280", after := #[{ on := 17, ground := Ground.data }, { on := 19, ground := Ground.data }, { on := 16, ground := Ground.guard }], guard := some (16, true) }) (v := ?va1049) rfl (by kernel_rfl) (by kernel_rfl) (by kernel_rfl) rfl (fun _ _ _ h => h) (Or.inl ⟨by rfl, ?ya1049⟩) (fun _ => by assumption) ?ra1049
              case ya1049 => (intro w _; go_simp; first | done | (with_reducible rfl) | (rw [if_neg (by omega)]))
              try simp only [Act.put, List.setIfInBounds_toArray, List.set_cons_zero, List.set_cons_succ]
              refine takeW (i := 21) (oi := { dst := some 141, op := Op.pick (Operand.tmp 136) (Operand.tmp 140) (Operand.const (Value.bool false)), type := 4, pos := "mm.go:280", after := #[{ on := 16, ground := Ground.data }, { on := 20, ground := Ground.data }], guard := none }) (v := ?va1050) rfl (by kernel_rfl) (by kernel_rfl) (by kernel_rfl) rfl (fun _ _ _ h => h) (Or.inl ⟨by rfl, ?ya1050⟩) (fun _ => by assumption) ?ra1050
              case ya1050 => (intro w _; go_simp; first | done | (with_reducible rfl) | (rw [if_neg (by omega)]))
              try simp only [Act.put, List.setIfInBounds_toArray, List.set_cons_zero, List.set_cons_succ]
              refine takeW (i := 22) (oi := { dst := some 6, op := Op.assign (Operand.tmp 141), type := 4, pos := "mm.go:280", after := #[{ on := 21, ground := Ground.data }, { on := 19, ground := Ground.chain }, { on := 0, ground := Ground.phase }, { on := 1, ground := Ground.phase }, { on := 2, ground := Ground.phase }, { on := 3, ground := Ground.phase }, { on := 4, ground := Ground.phase }, { on := 5, ground := Ground.phase }, { on := 6, ground := Ground.phase }, { on := 7, ground := Ground.phase }, { on := 8, ground := Ground.phase }, { on := 9, ground := Ground.phase }, { on := 10, ground := Ground.phase }, { on := 11, ground := Ground.phase }, { on := 12, ground := Ground.phase }, { on := 13, ground := Ground.phase }, { on := 14, ground := Ground.phase }, { on := 15, ground := Ground.phase }, { on := 16, ground := Ground.phase }, { on := 17, ground := Ground.phase }, { on := 18, ground := Ground.phase }, { on := 19, ground := Ground.phase }, { on := 20, ground := Ground.phase }, { on := 21, ground := Ground.phase }], guard := none }) (v := ?va1051) rfl (by kernel_rfl) (by kernel_rfl) (by kernel_rfl) rfl (fun _ _ _ h => h) (Or.inl ⟨by rfl, ?ya1051⟩) (fun _ => by assumption) ?ra1051
              case ya1051 => (intro w _; go_simp; first | done | (with_reducible rfl) | (rw [if_neg (by omega)]))
              try simp only [Act.put, List.setIfInBounds_toArray, List.set_cons_zero, List.set_cons_succ]
              refine doneL (by kernel_rfl) ?_ _
              refine NoPanic.normal ?_
              have HL7 := Lib.hid (below_trans HL1.out L7 HL1.out.size)
              clear hHeld
              go_wp2_with fail
              go_ret
              exact ⟨rfl, HL7.out⟩
    have HRS := Lib.hid hres
    rw [hres]
    clear hres
    have t1 := tmod_rg z L.length hlp
    obtain ⟨j, hj, hjl⟩ := tmod_nat (Int.tmod z L.length + L.length) L.length hlp (by omega)
    have hLm : L.length ≤ 10000 := by rw [← HLE.out]; exact list_len HG4.out.nok
    have hj' : (Int.tmod z L.length + L.length) % (L.length : Int) = j := by rw [← Int.tmod_eq_emod_of_nonneg (by omega)]; exact hj
    obtain ⟨t1a, t1b⟩ := t1
    obtain ⟨gl, ol, ha, hgl, hcc⟩ := moves_some HM4.out hlp
    subst ha
    obtain ⟨c0, c1, c2⟩ := hcc j hjl
    have HMM : Hid (L.getD j default ∈ listZ R (nowZ R ms)) := Lib.hid (by rw [HLE.out, List.getD_eq_getElem?_getD, List.getElem?_eq_getElem hjl]; exact List.getElem_mem _)
    clear hcc
    generalize L.getD j default = m at *
    have hjI : (j : Int) < L.length := by omega
    go_wp2_with fail
    refine (Play_any HSh.out m w4 HG4.out HB4.out.size).mono ?_
    rintro e w5 (⟨hbad, -⟩ | ⟨hok, rfl, S', vl', vm', rows', hg5, hsh, hf5⟩)
    · exact absurd (play_fine HRS.out HMM.out (by omega)) hbad
    have HP5 := Lib.hid (HPl.out.snoc hok)
    have HG5 := Lib.hid hg5
    have HB5 := Lib.hid (HB4.out.trans (HG4.out.frame hf5 HB4.out.size))
    clear hok hg5 hsh hf5
    go_wp2_with fail
    go_roundw
    case rel => exact ⟨k + 1, ms ++ [m], S', vl', vm', rows', by omega, by simp; omega, by go_num, HP5, HG5, HB5⟩
    case measure => simp [intOf]; omega

end Go.Proofs.Ytkfaibdflbdpgaa.topUndo

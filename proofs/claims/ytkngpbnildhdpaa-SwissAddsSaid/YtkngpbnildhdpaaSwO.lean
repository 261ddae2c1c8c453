/- The search of pairings (pairer.search): a step where somebody is left. -/
import Derived.Test.YtkngpbnildhdpaaSwS
import Derived.BigQuiet
import Derived.Deep.Cut
import Derived.Deep.QuietTactic
namespace Go.Proofs.Ytkngpbnildhdpaa
open Go.ChangeShapes Go.WideShapes Go.ChangeAt Go.RowKit
set_option linter.unusedVariables false

set_option maxRecDepth 100000 in
set_option maxHeartbeats 8000000 in
theorem search_open (ps : List SwP) (g o vc b h f : Nat) (hn2 : 2 ≤ ps.length) (hn8 : ps.length ≤ 8) (hsm : ∀ k, k < ps.length → Small (plAt ps k)) (IH : SearchSaid ps g o vc b h f) (wth : List Int) (bye : Bool) (sum : Int) (bst : Option (List Int) × Int) (vb : Value) (w : World) (hl : wth.length = ps.length)
    (hc : cnt wth < f + 1) (hneg : Neg wth) (h0 : 0 ≤ sum) (hB : sum + 200000 * (cnt wth : Int) ≤ 10000000) (hs : St ps (some ⟨g, o, none⟩) vc b h wth vb bst w) (i : Nat) (hx : idxE (-1) wth 0 = (i : Int)) (hi : i < ps.length) (hwi : wth.getD i 0 = -1) :
  Calls Try.prog 12 #[.pointer (some ⟨b, 0, none⟩), .bool bye, .int .i64 sum] w fun e w' => e = .returned (.tuple #[]) ∧ ∃ vb', St ps (some ⟨g, o, none⟩) vc b h wth vb' (srchZ ps (f + 1) bye sum wth bst) w' ∧ Fr (Two b h) w w' := by
  have hrd : RdI w (.slice (some ⟨h, 0, none⟩) ps.length ps.length) wth := by
    refine ⟨by rw [ints_len]; omega, .inr ⟨h, 0, ps.length, by rw [hl], by omega, by unfold maxLen; omega, fun i hi => ?_⟩⟩
    rw [Nat.zero_add, hs.wit.cell i (ints_get wth i (by omega)), ints_get wth i (by omega)]
  have HR := Lib.hid hrd
  have HS := Lib.hid hs
  have HL := Lib.hid hl
  have HWI := Lib.hid hwi
  have HNEG := Lib.hid hneg
  have HIH := Lib.hid IH
  have HRD := Lib.hid hs.rd
  have HSM := Lib.hid hsm
  have HCN := Lib.hid hc
  have HBD := Lib.hid hB
  have HIX := Lib.hid hx
  have HF := Lib.hid (srch_open ps f bye sum wth bst i hx)
  have q0 := hs.box.cell 0 rfl
  have q1 := hs.box.cell 1 rfl
  have hig : ¬ ((i : Int) < 0) := by omega
  clear hs hrd hl hx hneg IH hsm hwi hc hB
  go_enter Try.func12, Try.ntmps12
  go_upto_region 5 with (go_at_call 22; refine (Index_any _ wth (-1) _ HR.out).mono ?_; rintro e w' ⟨rfl, rfl⟩; rw [HIX.out])
  clear q0 q1
  have HL0 : Hid (loopZ ps f bye sum wth i (i + 1) bst = loopZ ps f bye sum wth i (i + 1) bst) := Lib.hid rfl
  have HF0 := Lib.hid (Fr.refl (Two b h) w)
  go_loopw [7] (fun v7 wr => ∃ (j : Nat) (vj : Value) (bj : Option (List Int) × Int), i + 1 ≤ j ∧ j ≤ ps.length ∧ v7 = .int .i64 (j : Int) ∧ Hid (loopZ ps f bye sum wth i (i + 1) bst = loopZ ps f bye sum wth i j bj) ∧ Hid (St ps (some ⟨g, o, none⟩) vc b h wth vj bj wr) ∧ Hid (Fr (Two b h) w wr)) (fun v _ => ps.length - (intOf v).toNat)
  case atStart => exact ⟨i + 1, vb, bst, Nat.le_refl _, by omega, by go_num, HL0, HS, HF0⟩
  clear HL0 HF0 HR HS
  case round =>
    obtain ⟨j, vj, bj, hij, hjn, rfl, HNJ, HSR, HFR⟩ := hrel
    have q0 := HSR.out.box.cell 0 rfl
    have q1 := HSR.out.box.cell 1 rfl
    by_cases hlt : j < ps.length
    · have hji : (j : Int) < (ps.length : Int) := by omega
      have cj := HSR.out.wit.cell j (ints_get wth j (by have := HL.out; omega))
      obtain ⟨z, hz⟩ : ∃ z, wth.getD j 0 = z := ⟨_, rfl⟩
      rw [hz] at cj
      obtain ⟨m, hm⟩ : ∃ m, metN ps i (j : Int) = m := ⟨_, rfl⟩
      have HM := Lib.hid hm
      have hst := loop_step ps f bye sum wth i j bj hlt
      have hlen := HL.out
      by_cases hz0 : z < 0
      · by_cases hm0 : m = 0
        · have HST : Hid (loopZ ps f bye sum wth i (i + 1) bst = loopZ ps f bye sum wth i (j + 1) (srchZ ps f bye (sum + costZ ps i j) ((wth.set i (j : Int)).set j (i : Int)) bj)) := Lib.hid (by
            rw [HNJ.out, hst, stepZ, if_pos ⟨by rw [hz]; exact hz0, by rw [hm]; exact hm0⟩])
          have HWJ : Hid (wth.getD j 0 = -1) := Lib.hid (HNEG.out j (by rw [hz]; exact hz0))
          have hc1 := cnt_set wth i (j : Int) (by omega) (by omega) HWI.out
          have hg2 : (wth.set i (j : Int)).getD j 0 = -1 := by rw [set_getD _ _ _ _ (by omega), if_neg (by omega)]; exact HWJ.out
          have hc2 := cnt_set (wth.set i (j : Int)) j (i : Int) (by rw [List.length_set]; omega) (by omega) hg2
          have HCC : Hid (cnt ((wth.set i (j : Int)).set j (i : Int)) + 2 = cnt wth) := Lib.hid (by omega)
          have HLW : Hid (((wth.set i (j : Int)).set j (i : Int)).length = ps.length) := Lib.hid (by (try simp only [List.length_set]); omega)
          have HNW : Hid (Neg ((wth.set i (j : Int)).set j (i : Int))) := Lib.hid ((HNEG.out.set i _ (by omega)).set j _ (by omega))
          clear hm hz hst hc1 hg2 hc2 HNJ
          subst hm0
          have hmz : ((0 : Nat) : Int) = 0 := rfl
          go_upto_region 8 with (go_at_call 20; refine (met_any _ ps i (j : Int) _ HSR.out.rd.now (by omega)).mono ?_; rintro e w' ⟨rfl, rfl⟩; rw [HM.out])
          have Sr := HSR.out.drew
          have Fwrd := HFR.out.drew
          clear q0 q1 cj HSR HFR
          refine wp_region_noPanic ?_
          refine beginL (S := (fun w' => w'.cell? ⟨b, 0, none⟩ = some (.slice (some ⟨g, o, none⟩) ps.length vc) ∧ w'.cell? ⟨b, 1, none⟩ = some (.slice (some ⟨h, 0, none⟩) ps.length ps.length))) (L := [13, 15]) (by kernel_rfl) ⟨Sr.box.cell 0 rfl, Sr.box.cell 1 rfl⟩ (fun hHeld => ?_)
          refine takeW (i := 0) (oi := { dst := some 69, op := Op.move (Operand.tmp 0), type := 41, pos := "swiss.go:96", after := #[], guard := none }) (v := ?va1) rfl (by kernel_rfl) (by kernel_rfl) (by kernel_rfl) rfl (fun _ _ _ h => h) (Or.inl ⟨by rfl, ?ya1⟩) (fun _ => by assumption) ?ra1
          case ya1 => (intro w _; go_simp; first | done | (with_reducible rfl) | (rw [if_neg (by omega)]))
          try simp only [Act.put, List.setIfInBounds_toArray, List.set_cons_zero, List.set_cons_succ]
          refine takeW (i := 4) (oi := { dst := some 73, op := Op.move (Operand.tmp 6), type := 3, pos := "swiss.go:96", after := #[], guard := none }) (v := ?va2) rfl (by kernel_rfl) (by kernel_rfl) (by kernel_rfl) rfl (fun _ _ _ h => h) (Or.inl ⟨by rfl, ?ya2⟩) (fun _ => by assumption) ?ra2
          case ya2 => (intro w _; go_simp; first | done | (with_reducible rfl) | (rw [if_neg (by omega)]))
          try simp only [Act.put, List.setIfInBounds_toArray, List.set_cons_zero, List.set_cons_succ]
          refine takeW (i := 5) (oi := { dst := some 74, op := Op.move (Operand.tmp 0), type := 41, pos := "swiss.go:96", after := #[], guard := none }) (v := ?va3) rfl (by kernel_rfl) (by kernel_rfl) (by kernel_rfl) rfl (fun _ _ _ h => h) (Or.inl ⟨by rfl, ?ya3⟩) (fun _ => by assumption) ?ra3
          case ya3 => (intro w _; go_simp; first | done | (with_reducible rfl) | (rw [if_neg (by omega)]))
          try simp only [Act.put, List.setIfInBounds_toArray, List.set_cons_zero, List.set_cons_succ]
          refine takeW (i := 9) (oi := { dst := some 78, op := Op.move (Operand.tmp 7), type := 3, pos := "swiss.go:96", after := #[{ on := 13, ground := Ground.gcOnly Departure.lateStores }], guard := none }) (v := ?va4) rfl (by kernel_rfl) (by kernel_rfl) (by kernel_rfl) rfl (fun _ _ _ h => h) (Or.inl ⟨by rfl, ?ya4⟩) (fun _ => by assumption) ?ra4
          case ya4 => (intro w _; go_simp; first | done | (with_reducible rfl) | (rw [if_neg (by omega)]))
          try simp only [Act.put, List.setIfInBounds_toArray, List.set_cons_zero, List.set_cons_succ]
          refine takeW (i := 10) (oi := { dst := some 79, op := Op.move (Operand.tmp 7), type := 3, pos := "swiss.go:96", after := #[], guard := none }) (v := ?va5) rfl (by kernel_rfl) (by kernel_rfl) (by kernel_rfl) rfl (fun _ _ _ h => h) (Or.inl ⟨by rfl, ?ya5⟩) (fun _ => by assumption) ?ra5
          case ya5 => (intro w _; go_simp; first | done | (with_reducible rfl) | (rw [if_neg (by omega)]))
          try simp only [Act.put, List.setIfInBounds_toArray, List.set_cons_zero, List.set_cons_succ]
          refine takeW (i := 11) (oi := { dst := some 80, op := Op.move (Operand.tmp 6), type := 3, pos := "swiss.go:96", after := #[{ on := 13, ground := Ground.gcOnly Departure.lateStores }], guard := none }) (v := ?va6) rfl (by kernel_rfl) (by kernel_rfl) (by kernel_rfl) rfl (fun _ _ _ h => h) (Or.inl ⟨by rfl, ?ya6⟩) (fun _ => by assumption) ?ra6
          case ya6 => (intro w _; go_simp; first | done | (with_reducible rfl) | (rw [if_neg (by omega)]))
          try simp only [Act.put, List.setIfInBounds_toArray, List.set_cons_zero, List.set_cons_succ]
          refine takeW (i := 1) (oi := { dst := some 70, op := Op.nilCheck (Operand.tmp 69), type := 0, pos := "swiss.go:96", after := #[{ on := 0, ground := Ground.data }], guard := none }) (v := ?va7) rfl (by kernel_rfl) (by kernel_rfl) (by kernel_rfl) rfl (fun _ _ _ h => h) (Or.inl ⟨by rfl, ?ya7⟩) (fun _ => by assumption) ?ra7
          case ya7 => (intro w _; go_simp; first | done | (with_reducible rfl) | (rw [if_neg (by omega)]))
          try simp only [Act.put, List.setIfInBounds_toArray, List.set_cons_zero, List.set_cons_succ]
          refine takeW (i := 6) (oi := { dst := some 75, op := Op.nilCheck (Operand.tmp 74), type := 0, pos := "swiss.go:96", after := #[{ on := 5, ground := Ground.data }], guard := none }) (v := ?va8) rfl (by kernel_rfl) (by kernel_rfl) (by kernel_rfl) rfl (fun _ _ _ h => h) (Or.inl ⟨by rfl, ?ya8⟩) (fun _ => by assumption) ?ra8
          case ya8 => (intro w _; go_simp; first | done | (with_reducible rfl) | (rw [if_neg (by omega)]))
          try simp only [Act.put, List.setIfInBounds_toArray, List.set_cons_zero, List.set_cons_succ]
          refine takeW (i := 2) (oi := { dst := some 71, op := Op.fieldAddr 44 (Operand.tmp 70) 1, type := 0, pos := "swiss.go:96", after := #[{ on := 1, ground := Ground.data }], guard := none }) (v := ?va9) rfl (by kernel_rfl) (by kernel_rfl) (by kernel_rfl) rfl (fun _ _ _ h => h) (Or.inl ⟨by rfl, ?ya9⟩) (fun _ => by assumption) ?ra9
          case ya9 => (intro w _; go_simp; first | done | (with_reducible rfl) | (rw [if_neg (by omega)]))
          try simp only [Act.put, List.setIfInBounds_toArray, List.set_cons_zero, List.set_cons_succ]
          refine takeW (i := 7) (oi := { dst := some 76, op := Op.fieldAddr 44 (Operand.tmp 75) 1, type := 0, pos := "swiss.go:96", after := #[{ on := 6, ground := Ground.data }], guard := none }) (v := ?va10) rfl (by kernel_rfl) (by kernel_rfl) (by kernel_rfl) rfl (fun _ _ _ h => h) (Or.inl ⟨by rfl, ?ya10⟩) (fun _ => by assumption) ?ra10
          case ya10 => (intro w _; go_simp; first | done | (with_reducible rfl) | (rw [if_neg (by omega)]))
          try simp only [Act.put, List.setIfInBounds_toArray, List.set_cons_zero, List.set_cons_succ]
          refine takeL (i := 3) (oi := { dst := some 72, op := Op.load 28 (Operand.tmp 71), type := 28, pos := "swiss.go:96", after := #[{ on := 2, ground := Ground.data }], guard := none }) (v := ?va11) rfl (by kernel_rfl) (by kernel_rfl) (by kernel_rfl) (by kernel_rfl) rfl (by kernel_rfl) (by kernel_rfl) (fun _ _ _ h => h) (Or.inl ⟨by rfl, ?ya11⟩) (by assumption) ?ra11
          case ya11 => (intro w hSw; (try dsimp only at hSw); go_simp; first | done | (with_reducible rfl))
          try simp only [Act.put, List.setIfInBounds_toArray, List.set_cons_zero, List.set_cons_succ]
          refine takeL (i := 8) (oi := { dst := some 77, op := Op.load 28 (Operand.tmp 76), type := 28, pos := "swiss.go:96", after := #[{ on := 7, ground := Ground.data }], guard := none }) (v := ?va12) rfl (by kernel_rfl) (by kernel_rfl) (by kernel_rfl) (by kernel_rfl) rfl (by kernel_rfl) (by kernel_rfl) (fun _ _ _ h => h) (Or.inl ⟨by rfl, ?ya12⟩) (by assumption) ?ra12
          case ya12 => (intro w hSw; (try dsimp only at hSw); go_simp; first | done | (with_reducible rfl))
          try simp only [Act.put, List.setIfInBounds_toArray, List.set_cons_zero, List.set_cons_succ]
          refine takeW (i := 12) (oi := { dst := some 81, op := Op.indexAddr 28 (Operand.tmp 72) (Operand.tmp 73), type := 0, pos := "swiss.go:96", after := #[{ on := 3, ground := Ground.data }, { on := 4, ground := Ground.data }, { on := 0, ground := Ground.phase }, { on := 1, ground := Ground.phase }, { on := 2, ground := Ground.phase }, { on := 3, ground := Ground.phase }, { on := 4, ground := Ground.phase }, { on := 5, ground := Ground.textOnly Departure.lateStores }, { on := 6, ground := Ground.textOnly Departure.lateStoresUnsure }, { on := 7, ground := Ground.textOnly Departure.lateStoresUnsure }, { on := 8, ground := Ground.phase }, { on := 9, ground := Ground.textOnly Departure.lateStores }, { on := 10, ground := Ground.phase }, { on := 11, ground := Ground.textOnly Departure.lateStores }], guard := none }) (v := ?va13) rfl (by kernel_rfl) (by kernel_rfl) (by kernel_rfl) rfl (fun _ _ _ h => h) (Or.inl ⟨by rfl, ?ya13⟩) (fun _ => by assumption) ?ra13
          case ya13 => (intro w _; go_simp; first | done | (with_reducible rfl) | (rw [if_neg (by omega)]))
          try simp only [Act.put, List.setIfInBounds_toArray, List.set_cons_zero, List.set_cons_succ]
          refine readyL (rs := [13]) (by kernel_rfl) (by simp) ?_
          refine (AllReadyL.late (o := { dst := none, op := Op.store 3 (Operand.tmp 81) (Operand.tmp 79), type := 0, pos := "swiss.go:96", after := #[{ on := 12, ground := Ground.data }, { on := 10, ground := Ground.data }, { on := 0, ground := Ground.phase }, { on := 1, ground := Ground.phase }, { on := 2, ground := Ground.phase }, { on := 3, ground := Ground.phase }, { on := 4, ground := Ground.phase }, { on := 5, ground := Ground.textOnly Departure.lateStores }, { on := 6, ground := Ground.textOnly Departure.lateStoresUnsure }, { on := 7, ground := Ground.textOnly Departure.lateStoresUnsure }, { on := 8, ground := Ground.phase }, { on := 9, ground := Ground.textOnly Departure.lateStores }, { on := 10, ground := Ground.phase }, { on := 11, ground := Ground.textOnly Departure.lateStores }], guard := none }) rfl (by kernel_rfl) (fun K hK => ?_) AllReadyL.nil)
          have d1 : wr.drew.cell? ⟨h, i, none⟩ = some (.int .i64 ((wth).getD i 0)) := Sr.wit.cell i (ints_get _ _ (by (try simp only [List.length_set]); omega))
          have d2 := Sr.wit.frozen i
          go_simp
          refine K_world ?_
          intro w13 ew13
          have S13 : St ps (some ⟨g, o, none⟩) vc b h ((wth).set i ((j : Int))) vj bj w13 := by rw [ew13]; exact Sr.setW i ((j : Int))
          have Fw13 : Fr (Two b h) w w13 := by rw [ew13]; exact Fwrd.setCell (.inr rfl) _
          clear ew13 d1 d2
          refine hK.out _ _ ?_
          clear hK K
          try simp only [Act.put, List.setIfInBounds_toArray, List.set_cons_zero, List.set_cons_succ]
          refine takeW (i := 14) (oi := { dst := some 82, op := Op.indexAddr 28 (Operand.tmp 77) (Operand.tmp 78), type := 0, pos := "swiss.go:96", after := #[{ on := 8, ground := Ground.data }, { on := 9, ground := Ground.data }, { on := 0, ground := Ground.phase }, { on := 1, ground := Ground.phase }, { on := 2, ground := Ground.phase }, { on := 3, ground := Ground.phase }, { on := 4, ground := Ground.phase }, { on := 5, ground := Ground.phase }, { on := 6, ground := Ground.phase }, { on := 7, ground := Ground.phase }, { on := 8, ground := Ground.phase }, { on := 9, ground := Ground.phase }, { on := 10, ground := Ground.phase }, { on := 11, ground := Ground.phase }, { on := 12, ground := Ground.phase }, { on := 13, ground := Ground.phase }], guard := none }) (v := ?va14) rfl (by kernel_rfl) (by kernel_rfl) (by kernel_rfl) rfl (fun _ _ _ h => h) (Or.inl ⟨by rfl, ?ya14⟩) (fun he => by cases he) ?ra14
          case ya14 => (intro w _; go_simp; first | done | (with_reducible rfl) | (rw [if_neg (by omega)]))
          try simp only [Act.put, List.setIfInBounds_toArray, List.set_cons_zero, List.set_cons_succ]
          refine readyL (rs := [15]) (by kernel_rfl) (by simp) ?_
          refine (AllReadyL.late (o := { dst := none, op := Op.store 3 (Operand.tmp 82) (Operand.tmp 80), type := 0, pos := "swiss.go:96", after := #[{ on := 14, ground := Ground.data }, { on := 11, ground := Ground.data }, { on := 13, ground := Ground.chain }, { on := 0, ground := Ground.phase }, { on := 1, ground := Ground.phase }, { on := 2, ground := Ground.phase }, { on := 3, ground := Ground.phase }, { on := 4, ground := Ground.phase }, { on := 5, ground := Ground.phase }, { on := 6, ground := Ground.phase }, { on := 7, ground := Ground.phase }, { on := 8, ground := Ground.phase }, { on := 9, ground := Ground.phase }, { on := 10, ground := Ground.phase }, { on := 11, ground := Ground.phase }, { on := 12, ground := Ground.phase }, { on := 13, ground := Ground.phase }], guard := none }) rfl (by kernel_rfl) (fun K hK => ?_) AllReadyL.nil)
          have d1 : w13.cell? ⟨h, j, none⟩ = some (.int .i64 ((wth.set i (j : Int)).getD j 0)) := S13.wit.cell j (ints_get _ _ (by (try simp only [List.length_set]); omega))
          have d2 := S13.wit.frozen j
          go_simp
          refine K_world ?_
          intro w15 ew15
          have S15 : St ps (some ⟨g, o, none⟩) vc b h ((wth.set i (j : Int)).set j ((i : Int))) vj bj w15 := by rw [ew15]; exact S13.setW j ((i : Int))
          have Fw15 : Fr (Two b h) w w15 := by rw [ew15]; exact Fw13.setCell (.inr rfl) _
          clear ew15 d1 d2
          refine hK.out _ _ ?_
          clear hK K
          try simp only [Act.put, List.setIfInBounds_toArray, List.set_cons_zero, List.set_cons_succ]
          refine doneL (by kernel_rfl) ?_ _
          refine NoPanic.normal ?_
          have HS15 := Lib.hid S15
          have HF15 := Lib.hid Fw15
          clear hHeld Sr S13 Fwrd Fw13 S15 Fw15
          have z0 := HS15.out.box.cell 0 rfl
          have hcb := costZ_b ps i j (HSM.out i hi) (HSM.out j hlt)
          obtain ⟨ct, hct⟩ : ∃ c, costZ ps i j = c := ⟨_, rfl⟩
          rw [hct] at hcb HST
          have hbd := HBD.out
          have hcn := HCN.out
          have hcc := HCC.out
          have hwr : IntKind.i64.wrap (sum + ct) = sum + ct := IntWalk.i64_in _ (by omega)
          have hs0 : 0 ≤ sum + ct := by omega
          have hsB : sum + ct + 200000 * (cnt ((wth.set i (j : Int)).set j (i : Int)) : Int) ≤ 10000000 := by omega
          have HCW : Hid (cnt ((wth.set i (j : Int)).set j (i : Int)) < f) := Lib.hid (by omega)
          have HCT := Lib.hid hct
          clear hcb hbd hcn hcc hct
          go_upto_region 10 with (go_at_call 14; refine (cost_any _ ps i j _ HS15.out.rd.now hi hlt (HSM.out i hi) (HSM.out j hlt)).mono ?_; rintro e w' ⟨rfl, nq, rfl⟩; rw [HCT.out]; have HS16 := Lib.hid (HS15.out.drewN nq); have HF16 := Lib.hid (HF15.out.drewN nq))
          refine (HIH.out ((wth.set i (j : Int)).set j (i : Int)) bye (sum + ct) bj vj _ HLW.out HCW.out HNW.out hs0 hsB HS16.out).mono ?_
          rintro e wx ⟨rfl, vx, hsx, hfx⟩
          have HSX := Lib.hid hsx
          have HFX := Lib.hid (HF16.out.trans hfx (Shr.refl _ _))
          clear hsx hfx
          go_upto_region 10 with (fail)
          clear z0 hwr hs0 hsB
          obtain ⟨bx, hbx⟩ : ∃ bx, srchZ ps f bye (sum + ct) ((wth.set i (j : Int)).set j (i : Int)) bj = bx := ⟨_, rfl⟩
          have HNX : Hid (loopZ ps f bye sum wth i (i + 1) bst = loopZ ps f bye sum wth i (j + 1) bx) := Lib.hid (by rw [HST.out, hbx])
          have Sx := HSX.out.drew
          rw [hbx] at Sx
          have Fwxd := HFX.out.drew
          clear HSX HFX HS15 HS16 HF15 HF16 HST hbx HCW HCT
          refine wp_region_noPanic ?_
          refine beginL (S := (fun w' => w'.cell? ⟨b, 0, none⟩ = some (.slice (some ⟨g, o, none⟩) ps.length vc) ∧ w'.cell? ⟨b, 1, none⟩ = some (.slice (some ⟨h, 0, none⟩) ps.length ps.length))) (L := [11, 13]) (by kernel_rfl) ⟨Sx.box.cell 0 rfl, Sx.box.cell 1 rfl⟩ (fun hHeld => ?_)
          refine takeW (i := 0) (oi := { dst := some 95, op := Op.move (Operand.tmp 0), type := 41, pos := "swiss.go:98", after := #[], guard := none }) (v := ?va15) rfl (by kernel_rfl) (by kernel_rfl) (by kernel_rfl) rfl (fun _ _ _ h => h) (Or.inl ⟨by rfl, ?ya15⟩) (fun _ => by assumption) ?ra15
          case ya15 => (intro w _; go_simp; first | done | (with_reducible rfl) | (rw [if_neg (by omega)]))
          try simp only [Act.put, List.setIfInBounds_toArray, List.set_cons_zero, List.set_cons_succ]
          refine takeW (i := 4) (oi := { dst := some 99, op := Op.move (Operand.tmp 6), type := 3, pos := "swiss.go:98", after := #[], guard := none }) (v := ?va16) rfl (by kernel_rfl) (by kernel_rfl) (by kernel_rfl) rfl (fun _ _ _ h => h) (Or.inl ⟨by rfl, ?ya16⟩) (fun _ => by assumption) ?ra16
          case ya16 => (intro w _; go_simp; first | done | (with_reducible rfl) | (rw [if_neg (by omega)]))
          try simp only [Act.put, List.setIfInBounds_toArray, List.set_cons_zero, List.set_cons_succ]
          refine takeW (i := 5) (oi := { dst := some 100, op := Op.move (Operand.tmp 0), type := 41, pos := "swiss.go:98", after := #[], guard := none }) (v := ?va17) rfl (by kernel_rfl) (by kernel_rfl) (by kernel_rfl) rfl (fun _ _ _ h => h) (Or.inl ⟨by rfl, ?ya17⟩) (fun _ => by assumption) ?ra17
          case ya17 => (intro w _; go_simp; first | done | (with_reducible rfl) | (rw [if_neg (by omega)]))
          try simp only [Act.put, List.setIfInBounds_toArray, List.set_cons_zero, List.set_cons_succ]
          refine takeW (i := 9) (oi := { dst := some 104, op := Op.move (Operand.tmp 7), type := 3, pos := "swiss.go:98", after := #[{ on := 11, ground := Ground.gcOnly Departure.lateStores }], guard := none }) (v := ?va18) rfl (by kernel_rfl) (by kernel_rfl) (by kernel_rfl) rfl (fun _ _ _ h => h) (Or.inl ⟨by rfl, ?ya18⟩) (fun _ => by assumption) ?ra18
          case ya18 => (intro w _; go_simp; first | done | (with_reducible rfl) | (rw [if_neg (by omega)]))
          try simp only [Act.put, List.setIfInBounds_toArray, List.set_cons_zero, List.set_cons_succ]
          refine takeW (i := 1) (oi := { dst := some 96, op := Op.nilCheck (Operand.tmp 95), type := 0, pos := "swiss.go:98", after := #[{ on := 0, ground := Ground.data }], guard := none }) (v := ?va19) rfl (by kernel_rfl) (by kernel_rfl) (by kernel_rfl) rfl (fun _ _ _ h => h) (Or.inl ⟨by rfl, ?ya19⟩) (fun _ => by assumption) ?ra19
          case ya19 => (intro w _; go_simp; first | done | (with_reducible rfl) | (rw [if_neg (by omega)]))
          try simp only [Act.put, List.setIfInBounds_toArray, List.set_cons_zero, List.set_cons_succ]
          refine takeW (i := 6) (oi := { dst := some 101, op := Op.nilCheck (Operand.tmp 100), type := 0, pos := "swiss.go:98", after := #[{ on := 5, ground := Ground.data }], guard := none }) (v := ?va20) rfl (by kernel_rfl) (by kernel_rfl) (by kernel_rfl) rfl (fun _ _ _ h => h) (Or.inl ⟨by rfl, ?ya20⟩) (fun _ => by assumption) ?ra20
          case ya20 => (intro w _; go_simp; first | done | (with_reducible rfl) | (rw [if_neg (by omega)]))
          try simp only [Act.put, List.setIfInBounds_toArray, List.set_cons_zero, List.set_cons_succ]
          refine takeW (i := 2) (oi := { dst := some 97, op := Op.fieldAddr 44 (Operand.tmp 96) 1, type := 0, pos := "swiss.go:98", after := #[{ on := 1, ground := Ground.data }], guard := none }) (v := ?va21) rfl (by kernel_rfl) (by kernel_rfl) (by kernel_rfl) rfl (fun _ _ _ h => h) (Or.inl ⟨by rfl, ?ya21⟩) (fun _ => by assumption) ?ra21
          case ya21 => (intro w _; go_simp; first | done | (with_reducible rfl) | (rw [if_neg (by omega)]))
          try simp only [Act.put, List.setIfInBounds_toArray, List.set_cons_zero, List.set_cons_succ]
          refine takeW (i := 7) (oi := { dst := some 102, op := Op.fieldAddr 44 (Operand.tmp 101) 1, type := 0, pos := "swiss.go:98", after := #[{ on := 6, ground := Ground.data }], guard := none }) (v := ?va22) rfl (by kernel_rfl) (by kernel_rfl) (by kernel_rfl) rfl (fun _ _ _ h => h) (Or.inl ⟨by rfl, ?ya22⟩) (fun _ => by assumption) ?ra22
          case ya22 => (intro w _; go_simp; first | done | (with_reducible rfl) | (rw [if_neg (by omega)]))
          try simp only [Act.put, List.setIfInBounds_toArray, List.set_cons_zero, List.set_cons_succ]
          refine takeL (i := 3) (oi := { dst := some 98, op := Op.load 28 (Operand.tmp 97), type := 28, pos := "swiss.go:98", after := #[{ on := 2, ground := Ground.data }], guard := none }) (v := ?va23) rfl (by kernel_rfl) (by kernel_rfl) (by kernel_rfl) (by kernel_rfl) rfl (by kernel_rfl) (by kernel_rfl) (fun _ _ _ h => h) (Or.inl ⟨by rfl, ?ya23⟩) (by assumption) ?ra23
          case ya23 => (intro w hSw; (try dsimp only at hSw); go_simp; first | done | (with_reducible rfl))
          try simp only [Act.put, List.setIfInBounds_toArray, List.set_cons_zero, List.set_cons_succ]
          refine takeL (i := 8) (oi := { dst := some 103, op := Op.load 28 (Operand.tmp 102), type := 28, pos := "swiss.go:98", after := #[{ on := 7, ground := Ground.data }], guard := none }) (v := ?va24) rfl (by kernel_rfl) (by kernel_rfl) (by kernel_rfl) (by kernel_rfl) rfl (by kernel_rfl) (by kernel_rfl) (fun _ _ _ h => h) (Or.inl ⟨by rfl, ?ya24⟩) (by assumption) ?ra24
          case ya24 => (intro w hSw; (try dsimp only at hSw); go_simp; first | done | (with_reducible rfl))
          try simp only [Act.put, List.setIfInBounds_toArray, List.set_cons_zero, List.set_cons_succ]
          refine takeW (i := 10) (oi := { dst := some 105, op := Op.indexAddr 28 (Operand.tmp 98) (Operand.tmp 99), type := 0, pos := "swiss.go:98", after := #[{ on := 3, ground := Ground.data }, { on := 4, ground := Ground.data }, { on := 0, ground := Ground.phase }, { on := 1, ground := Ground.phase }, { on := 2, ground := Ground.phase }, { on := 3, ground := Ground.phase }, { on := 4, ground := Ground.phase }, { on := 5, ground := Ground.textOnly Departure.lateStores }, { on := 6, ground := Ground.textOnly Departure.lateStoresUnsure }, { on := 7, ground := Ground.textOnly Departure.lateStoresUnsure }, { on := 8, ground := Ground.phase }, { on := 9, ground := Ground.textOnly Departure.lateStores }], guard := none }) (v := ?va25) rfl (by kernel_rfl) (by kernel_rfl) (by kernel_rfl) rfl (fun _ _ _ h => h) (Or.inl ⟨by rfl, ?ya25⟩) (fun _ => by assumption) ?ra25
          case ya25 => (intro w _; go_simp; first | done | (with_reducible rfl) | (rw [if_neg (by omega)]))
          try simp only [Act.put, List.setIfInBounds_toArray, List.set_cons_zero, List.set_cons_succ]
          refine readyL (rs := [11]) (by kernel_rfl) (by simp) ?_
          refine (AllReadyL.late (o := { dst := none, op := Op.store 3 (Operand.tmp 105) (Operand.const (Value.int IntKind.i64 (-1))), type := 0, pos := "swiss.go:98", after := #[{ on := 10, ground := Ground.data }, { on := 0, ground := Ground.phase }, { on := 1, ground := Ground.phase }, { on := 2, ground := Ground.phase }, { on := 3, ground := Ground.phase }, { on := 4, ground := Ground.phase }, { on := 5, ground := Ground.textOnly Departure.lateStores }, { on := 6, ground := Ground.textOnly Departure.lateStoresUnsure }, { on := 7, ground := Ground.textOnly Departure.lateStoresUnsure }, { on := 8, ground := Ground.phase }, { on := 9, ground := Ground.textOnly Departure.lateStores }], guard := none }) rfl (by kernel_rfl) (fun K hK => ?_) AllReadyL.nil)
          have d1 : wx.drew.cell? ⟨h, i, none⟩ = some (.int .i64 (((wth.set i (j : Int)).set j (i : Int)).getD i 0)) := Sx.wit.cell i (ints_get _ _ (by (try simp only [List.length_set]); omega))
          have d2 := Sx.wit.frozen i
          go_simp
          refine K_world ?_
          intro w11 ew11
          have S11 : St ps (some ⟨g, o, none⟩) vc b h (((wth.set i (j : Int)).set j (i : Int)).set i (-1)) vx bx w11 := by rw [ew11]; exact Sx.setW i (-1)
          have Fw11 : Fr (Two b h) w w11 := by rw [ew11]; exact Fwxd.setCell (.inr rfl) _
          clear ew11 d1 d2
          refine hK.out _ _ ?_
          clear hK K
          try simp only [Act.put, List.setIfInBounds_toArray, List.set_cons_zero, List.set_cons_succ]
          refine takeW (i := 12) (oi := { dst := some 106, op := Op.indexAddr 28 (Operand.tmp 103) (Operand.tmp 104), type := 0, pos := "swiss.go:98", after := #[{ on := 8, ground := Ground.data }, { on := 9, ground := Ground.data }, { on := 0, ground := Ground.phase }, { on := 1, ground := Ground.phase }, { on := 2, ground := Ground.phase }, { on := 3, ground := Ground.phase }, { on := 4, ground := Ground.phase }, { on := 5, ground := Ground.phase }, { on := 6, ground := Ground.phase }, { on := 7, ground := Ground.phase }, { on := 8, ground := Ground.phase }, { on := 9, ground := Ground.phase }, { on := 10, ground := Ground.phase }, { on := 11, ground := Ground.phase }], guard := none }) (v := ?va26) rfl (by kernel_rfl) (by kernel_rfl) (by kernel_rfl) rfl (fun _ _ _ h => h) (Or.inl ⟨by rfl, ?ya26⟩) (fun he => by cases he) ?ra26
          case ya26 => (intro w _; go_simp; first | done | (with_reducible rfl) | (rw [if_neg (by omega)]))
          try simp only [Act.put, List.setIfInBounds_toArray, List.set_cons_zero, List.set_cons_succ]
          refine readyL (rs := [13]) (by kernel_rfl) (by simp) ?_
          refine (AllReadyL.late (o := { dst := none, op := Op.store 3 (Operand.tmp 106) (Operand.const (Value.int IntKind.i64 (-1))), type := 0, pos := "swiss.go:98", after := #[{ on := 12, ground := Ground.data }, { on := 11, ground := Ground.chain }, { on := 0, ground := Ground.phase }, { on := 1, ground := Ground.phase }, { on := 2, ground := Ground.phase }, { on := 3, ground := Ground.phase }, { on := 4, ground := Ground.phase }, { on := 5, ground := Ground.phase }, { on := 6, ground := Ground.phase }, { on := 7, ground := Ground.phase }, { on := 8, ground := Ground.phase }, { on := 9, ground := Ground.phase }, { on := 10, ground := Ground.phase }, { on := 11, ground := Ground.phase }], guard := none }) rfl (by kernel_rfl) (fun K hK => ?_) AllReadyL.nil)
          have d1 : w11.cell? ⟨h, j, none⟩ = some (.int .i64 ((((wth.set i (j : Int)).set j (i : Int)).set i (-1)).getD j 0)) := S11.wit.cell j (ints_get _ _ (by (try simp only [List.length_set]); omega))
          have d2 := S11.wit.frozen j
          go_simp
          refine K_world ?_
          intro w13 ew13
          have S13 : St ps (some ⟨g, o, none⟩) vc b h ((((wth.set i (j : Int)).set j (i : Int)).set i (-1)).set j (-1)) vx bx w13 := by rw [ew13]; exact S11.setW j (-1)
          have Fw13 : Fr (Two b h) w w13 := by rw [ew13]; exact Fw11.setCell (.inr rfl) _
          clear ew13 d1 d2
          refine hK.out _ _ ?_
          clear hK K
          try simp only [Act.put, List.setIfInBounds_toArray, List.set_cons_zero, List.set_cons_succ]
          refine doneL (by kernel_rfl) ?_ _
          refine NoPanic.normal ?_
          rw [back2 wth i j _ _ (by omega) (by omega) (by omega) HWI.out HWJ.out] at S13
          have HS13 := Lib.hid S13
          have HF13 := Lib.hid Fw13
          clear hHeld Sx S11 Fwxd Fw11 S13 Fw13
          go_wp2_with fail
          go_roundw
          case rel => exact ⟨j + 1, vx, bx, by omega, by omega, by go_num, HNX, HS13, HF13⟩
          case measure => simp [intOf]; omega
        · have HST : Hid (loopZ ps f bye sum wth i (i + 1) bst = loopZ ps f bye sum wth i (j + 1) bj) := Lib.hid (by
            rw [HNJ.out, hst, stepZ, if_neg (fun e => hm0 (hm.symm.trans e.2))])
          have hm0' : ((m : Nat) : Int) ≠ 0 := by omega
          clear hm hz hst HNJ hm0
          go_wp2_with (go_at_call 20; refine (met_any _ ps i (j : Int) _ HSR.out.rd.now (by omega)).mono ?_; rintro e w' ⟨rfl, rfl⟩; rw [HM.out])
          go_roundw
          case rel => exact ⟨j + 1, vj, bj, by omega, by omega, by go_num, HST, HSR, HFR⟩
          case measure => simp [intOf]; omega
      · have HST : Hid (loopZ ps f bye sum wth i (i + 1) bst = loopZ ps f bye sum wth i (j + 1) bj) := Lib.hid (by
          rw [HNJ.out, hst, stepZ, if_neg (fun e => hz0 (by rw [← hz]; exact e.1))])
        clear hm hz hst HNJ
        go_wp2_with fail
        go_roundw
        case rel => exact ⟨j + 1, vj, bj, by omega, by omega, by go_num, HST, HSR, HFR⟩
        case measure => simp [intOf]; omega
    · obtain rfl : j = ps.length := by omega
      have HNE : Hid (loopZ ps f bye sum wth i (i + 1) bst = bj) := Lib.hid (by rw [HNJ.out, loop_end])
      have HSC : Hid (∀ w', Fr (Two b h) w w' → w'.cell? ⟨g, o + i * 4, none⟩ = some (.int .i64 (plAt ps i).score)) := Lib.hid (fun w' hf => by
        obtain ⟨g', o', ha, -, hcc⟩ := RdS.some (HRD.out w' hf) (by omega)
        cases ha
        obtain ⟨v, c0, -⟩ := hcc i hi
        exact c0)
      have hbc : wr.cell? ⟨g, o + i * 4 + 3, none⟩ = some (.bool (plAt ps i).bye) := by
        obtain ⟨g', o', ha, -, hcc⟩ := RdS.some HSR.out.rd.now (by omega)
        cases ha
        obtain ⟨v, -, -, -, c3, -⟩ := hcc i hi
        exact c3
      clear HNJ
      have hlen := HL.out
      cases bye
      · have HFN : Hid (srchZ ps (f + 1) false sum wth bst = bj) := Lib.hid (by rw [HF.out, if_neg (fun e => by cases e.1), HNE.out])
        clear HF hbc
        go_wp2_with fail
        go_end0
        exact ⟨rfl, vj, by rw [HFN.out]; exact HSR.out, HFR.out⟩
      · obtain ⟨yb, hyb⟩ : ∃ y, (plAt ps i).bye = y := ⟨_, rfl⟩
        rw [hyb] at hbc
        cases yb
        · obtain ⟨si, hsi⟩ : ∃ s, (plAt ps i).score = s := ⟨_, rfl⟩
          rw [hsi] at HSC
          have HFN : Hid (srchZ ps (f + 1) true sum wth bst = srchZ ps f false (sum + 100 * si * si) (wth.set i (ps.length : Int)) bj) := Lib.hid (by rw [HF.out, if_pos ⟨rfl, hyb⟩, HNE.out, hsi])
          have hsq := HSM.out i hi
          unfold Small at hsq
          rw [hsi] at hsq
          have hs2 := sq_bound si 40 (by omega) (by omega)
          have hmul : 100 * si * si = 100 * (si * si) := Int.mul_assoc _ _ _
          have hsumR : 0 ≤ 100 * si * si ∧ 100 * si * si ≤ 160000 := by omega
          have hc1 := cnt_set wth i (ps.length : Int) (by omega) (by omega) HWI.out
          have hbd := HBD.out
          have hcn := HCN.out
          have HLW : Hid ((wth.set i (ps.length : Int)).length = ps.length) := Lib.hid (by rw [List.length_set]; omega)
          have HCW : Hid (cnt (wth.set i (ps.length : Int)) < f) := Lib.hid (by omega)
          have HNW : Hid (Neg (wth.set i (ps.length : Int))) := Lib.hid (HNEG.out.set i _ (by omega))
          have hsum0 : 0 ≤ sum + 100 * si * si := by omega
          have hsumB : sum + 100 * si * si + 200000 * (cnt (wth.set i (ps.length : Int)) : Int) ≤ 10000000 := by omega
          have hw1 : IntKind.i64.wrap (100 * si) = 100 * si := IntWalk.i64_in _ (by omega)
          have hw2 : IntKind.i64.wrap (100 * si * si) = 100 * si * si := IntWalk.i64_in _ (by omega)
          have hw3 : IntKind.i64.wrap (sum + 100 * si * si) = sum + 100 * si * si := IntWalk.i64_in _ (by omega)
          clear HF hsi hyb hsq hs2 hmul hsumR hc1 hbd hcn
          go_upto_region 12 with (fail)
          have Sr := HSR.out.drew
          have Fwrd := HFR.out.drew
          clear q0 q1 hbc HSR HFR
          refine wp_region_noPanic ?_
          refine beginL (S := (fun w' => w'.cell? ⟨b, 0, none⟩ = some (.slice (some ⟨g, o, none⟩) ps.length vc) ∧ w'.cell? ⟨b, 1, none⟩ = some (.slice (some ⟨h, 0, none⟩) ps.length ps.length))) (L := [11]) (by kernel_rfl) ⟨Sr.box.cell 0 rfl, Sr.box.cell 1 rfl⟩ (fun hHeld => ?_)
          refine takeW (i := 0) (oi := { dst := some 119, op := Op.move (Operand.tmp 0), type := 41, pos := "swiss.go:102", after := #[], guard := none }) (v := ?va27) rfl (by kernel_rfl) (by kernel_rfl) (by kernel_rfl) rfl (fun _ _ _ h => h) (Or.inl ⟨by rfl, ?ya27⟩) (fun _ => by assumption) ?ra27
          case ya27 => (intro w _; go_simp; first | done | (with_reducible rfl) | (rw [if_neg (by omega)]))
          try simp only [Act.put, List.setIfInBounds_toArray, List.set_cons_zero, List.set_cons_succ]
          refine takeW (i := 4) (oi := { dst := some 123, op := Op.move (Operand.tmp 6), type := 3, pos := "swiss.go:102", after := #[], guard := none }) (v := ?va28) rfl (by kernel_rfl) (by kernel_rfl) (by kernel_rfl) rfl (fun _ _ _ h => h) (Or.inl ⟨by rfl, ?ya28⟩) (fun _ => by assumption) ?ra28
          case ya28 => (intro w _; go_simp; first | done | (with_reducible rfl) | (rw [if_neg (by omega)]))
          try simp only [Act.put, List.setIfInBounds_toArray, List.set_cons_zero, List.set_cons_succ]
          refine takeW (i := 5) (oi := { dst := some 124, op := Op.move (Operand.tmp 0), type := 41, pos := "swiss.go:102", after := #[], guard := none }) (v := ?va29) rfl (by kernel_rfl) (by kernel_rfl) (by kernel_rfl) rfl (fun _ _ _ h => h) (Or.inl ⟨by rfl, ?ya29⟩) (fun _ => by assumption) ?ra29
          case ya29 => (intro w _; go_simp; first | done | (with_reducible rfl) | (rw [if_neg (by omega)]))
          try simp only [Act.put, List.setIfInBounds_toArray, List.set_cons_zero, List.set_cons_succ]
          refine takeW (i := 1) (oi := { dst := some 120, op := Op.nilCheck (Operand.tmp 119), type := 0, pos := "swiss.go:102", after := #[{ on := 0, ground := Ground.data }], guard := none }) (v := ?va30) rfl (by kernel_rfl) (by kernel_rfl) (by kernel_rfl) rfl (fun _ _ _ h => h) (Or.inl ⟨by rfl, ?ya30⟩) (fun _ => by assumption) ?ra30
          case ya30 => (intro w _; go_simp; first | done | (with_reducible rfl) | (rw [if_neg (by omega)]))
          try simp only [Act.put, List.setIfInBounds_toArray, List.set_cons_zero, List.set_cons_succ]
          refine takeW (i := 6) (oi := { dst := some 125, op := Op.nilCheck (Operand.tmp 124), type := 0, pos := "swiss.go:102", after := #[{ on := 5, ground := Ground.data }], guard := none }) (v := ?va31) rfl (by kernel_rfl) (by kernel_rfl) (by kernel_rfl) rfl (fun _ _ _ h => h) (Or.inl ⟨by rfl, ?ya31⟩) (fun _ => by assumption) ?ra31
          case ya31 => (intro w _; go_simp; first | done | (with_reducible rfl) | (rw [if_neg (by omega)]))
          try simp only [Act.put, List.setIfInBounds_toArray, List.set_cons_zero, List.set_cons_succ]
          refine takeW (i := 2) (oi := { dst := some 121, op := Op.fieldAddr 44 (Operand.tmp 120) 1, type := 0, pos := "swiss.go:102", after := #[{ on := 1, ground := Ground.data }], guard := none }) (v := ?va32) rfl (by kernel_rfl) (by kernel_rfl) (by kernel_rfl) rfl (fun _ _ _ h => h) (Or.inl ⟨by rfl, ?ya32⟩) (fun _ => by assumption) ?ra32
          case ya32 => (intro w _; go_simp; first | done | (with_reducible rfl) | (rw [if_neg (by omega)]))
          try simp only [Act.put, List.setIfInBounds_toArray, List.set_cons_zero, List.set_cons_succ]
          refine takeW (i := 7) (oi := { dst := some 126, op := Op.fieldAddr 44 (Operand.tmp 125) 0, type := 0, pos := "swiss.go:102", after := #[{ on := 6, ground := Ground.data }], guard := none }) (v := ?va33) rfl (by kernel_rfl) (by kernel_rfl) (by kernel_rfl) rfl (fun _ _ _ h => h) (Or.inl ⟨by rfl, ?ya33⟩) (fun _ => by assumption) ?ra33
          case ya33 => (intro w _; go_simp; first | done | (with_reducible rfl) | (rw [if_neg (by omega)]))
          try simp only [Act.put, List.setIfInBounds_toArray, List.set_cons_zero, List.set_cons_succ]
          refine takeL (i := 3) (oi := { dst := some 122, op := Op.load 28 (Operand.tmp 121), type := 28, pos := "swiss.go:102", after := #[{ on := 2, ground := Ground.data }], guard := none }) (v := ?va34) rfl (by kernel_rfl) (by kernel_rfl) (by kernel_rfl) (by kernel_rfl) rfl (by kernel_rfl) (by kernel_rfl) (fun _ _ _ h => h) (Or.inl ⟨by rfl, ?ya34⟩) (by assumption) ?ra34
          case ya34 => (intro w hSw; (try dsimp only at hSw); go_simp; first | done | (with_reducible rfl))
          try simp only [Act.put, List.setIfInBounds_toArray, List.set_cons_zero, List.set_cons_succ]
          refine takeL (i := 8) (oi := { dst := some 127, op := Op.load 22 (Operand.tmp 126), type := 22, pos := "swiss.go:102", after := #[{ on := 7, ground := Ground.data }], guard := none }) (v := ?va35) rfl (by kernel_rfl) (by kernel_rfl) (by kernel_rfl) (by kernel_rfl) rfl (by kernel_rfl) (by kernel_rfl) (fun _ _ _ h => h) (Or.inl ⟨by rfl, ?ya35⟩) (by assumption) ?ra35
          case ya35 => (intro w hSw; (try dsimp only at hSw); go_simp; first | done | (with_reducible rfl))
          try simp only [Act.put, List.setIfInBounds_toArray, List.set_cons_zero, List.set_cons_succ]
          refine takeW (i := 9) (oi := { dst := some 128, op := Op.call { callee := Callee.builtin Builtin.len, args := #[Operand.tmp 127], argTypes := #[22] }, type := 3, pos := "swiss.go:102", after := #[{ on := 8, ground := Ground.data }], guard := none }) (v := ?va36) rfl (by kernel_rfl) (by kernel_rfl) (by kernel_rfl) rfl (fun _ _ _ h => h) (Or.inl ⟨by rfl, ?ya36⟩) (fun _ => by assumption) ?ra36
          case ya36 => (intro w _; go_simp; first | done | (with_reducible rfl) | (rw [if_neg (by omega)]))
          try simp only [Act.put, List.setIfInBounds_toArray, List.set_cons_zero, List.set_cons_succ]
          refine takeW (i := 10) (oi := { dst := some 129, op := Op.indexAddr 28 (Operand.tmp 122) (Operand.tmp 123), type := 0, pos := "swiss.go:102", after := #[{ on := 3, ground := Ground.data }, { on := 4, ground := Ground.data }, { on := 0, ground := Ground.phase }, { on := 1, ground := Ground.phase }, { on := 2, ground := Ground.phase }, { on := 3, ground := Ground.phase }, { on := 4, ground := Ground.phase }, { on := 5, ground := Ground.phase }, { on := 6, ground := Ground.phase }, { on := 7, ground := Ground.phase }, { on := 8, ground := Ground.phase }, { on := 9, ground := Ground.phase }], guard := none }) (v := ?va37) rfl (by kernel_rfl) (by kernel_rfl) (by kernel_rfl) rfl (fun _ _ _ h => h) (Or.inl ⟨by rfl, ?ya37⟩) (fun _ => by assumption) ?ra37
          case ya37 => (intro w _; go_simp; first | done | (with_reducible rfl) | (rw [if_neg (by omega)]))
          try simp only [Act.put, List.setIfInBounds_toArray, List.set_cons_zero, List.set_cons_succ]
          refine readyL (rs := [11]) (by kernel_rfl) (by simp) ?_
          refine (AllReadyL.late (o := { dst := none, op := Op.store 3 (Operand.tmp 129) (Operand.tmp 128), type := 0, pos := "swiss.go:102", after := #[{ on := 10, ground := Ground.data }, { on := 9, ground := Ground.data }, { on := 0, ground := Ground.phase }, { on := 1, ground := Ground.phase }, { on := 2, ground := Ground.phase }, { on := 3, ground := Ground.phase }, { on := 4, ground := Ground.phase }, { on := 5, ground := Ground.phase }, { on := 6, ground := Ground.phase }, { on := 7, ground := Ground.phase }, { on := 8, ground := Ground.phase }, { on := 9, ground := Ground.phase }], guard := none }) rfl (by kernel_rfl) (fun K hK => ?_) AllReadyL.nil)
          have d1 : wr.drew.cell? ⟨h, i, none⟩ = some (.int .i64 ((wth).getD i 0)) := Sr.wit.cell i (ints_get _ _ (by (try simp only [List.length_set]); omega))
          have d2 := Sr.wit.frozen i
          go_simp
          refine K_world ?_
          intro w11 ew11
          have S11 : St ps (some ⟨g, o, none⟩) vc b h ((wth).set i ((ps.length : Int))) vj bj w11 := by rw [ew11]; exact Sr.setW i ((ps.length : Int))
          have Fw11 : Fr (Two b h) w w11 := by rw [ew11]; exact Fwrd.setCell (.inr rfl) _
          clear ew11 d1 d2
          refine hK.out _ _ ?_
          clear hK K
          try simp only [Act.put, List.setIfInBounds_toArray, List.set_cons_zero, List.set_cons_succ]
          refine doneL (by kernel_rfl) ?_ _
          refine NoPanic.normal ?_
          have HS11 := Lib.hid S11
          have HF11 := Lib.hid Fw11
          clear hHeld Sr Fwrd S11 Fw11
          go_upto_region 13 with (fail)
          have Sy := HS11.out.drew
          have Fyd := HF11.out.drew
          have hsc := HSC.out _ Fyd
          refine wp_region_noPanic ?_
          refine beginL (S := (fun w' => w'.cell? ⟨b, 0, none⟩ = some (.slice (some ⟨g, o, none⟩) ps.length vc) ∧ w'.cell? ⟨g, o + i * 4, none⟩ = some (.int .i64 si))) (L := []) (by kernel_rfl) ⟨Sy.box.cell 0 rfl, hsc⟩ (fun hHeld => ?_)
          refine takeW (i := 0) (oi := { dst := some 130, op := Op.move (Operand.tmp 0), type := 41, pos := "swiss.go:103", after := #[], guard := none }) (v := ?va38) rfl (by kernel_rfl) (by kernel_rfl) (by kernel_rfl) rfl (fun _ _ _ h => h) (Or.inl ⟨by rfl, ?ya38⟩) (fun _ => by assumption) ?ra38
          case ya38 => (intro w _; go_simp; first | done | (with_reducible rfl) | (rw [if_neg (by omega)]))
          try simp only [Act.put, List.setIfInBounds_toArray, List.set_cons_zero, List.set_cons_succ]
          refine takeW (i := 1) (oi := { dst := some 131, op := Op.move (Operand.tmp 2), type := 3, pos := "swiss.go:103", after := #[], guard := none }) (v := ?va39) rfl (by kernel_rfl) (by kernel_rfl) (by kernel_rfl) rfl (fun _ _ _ h => h) (Or.inl ⟨by rfl, ?ya39⟩) (fun _ => by assumption) ?ra39
          case ya39 => (intro w _; go_simp; first | done | (with_reducible rfl) | (rw [if_neg (by omega)]))
          try simp only [Act.put, List.setIfInBounds_toArray, List.set_cons_zero, List.set_cons_succ]
          refine takeW (i := 2) (oi := { dst := some 132, op := Op.move (Operand.tmp 0), type := 41, pos := "swiss.go:103", after := #[], guard := none }) (v := ?va40) rfl (by kernel_rfl) (by kernel_rfl) (by kernel_rfl) rfl (fun _ _ _ h => h) (Or.inl ⟨by rfl, ?ya40⟩) (fun _ => by assumption) ?ra40
          case ya40 => (intro w _; go_simp; first | done | (with_reducible rfl) | (rw [if_neg (by omega)]))
          try simp only [Act.put, List.setIfInBounds_toArray, List.set_cons_zero, List.set_cons_succ]
          refine takeW (i := 6) (oi := { dst := some 136, op := Op.move (Operand.tmp 6), type := 3, pos := "swiss.go:103", after := #[], guard := none }) (v := ?va41) rfl (by kernel_rfl) (by kernel_rfl) (by kernel_rfl) rfl (fun _ _ _ h => h) (Or.inl ⟨by rfl, ?ya41⟩) (fun _ => by assumption) ?ra41
          case ya41 => (intro w _; go_simp; first | done | (with_reducible rfl) | (rw [if_neg (by omega)]))
          try simp only [Act.put, List.setIfInBounds_toArray, List.set_cons_zero, List.set_cons_succ]
          refine takeW (i := 11) (oi := { dst := some 141, op := Op.move (Operand.tmp 0), type := 41, pos := "swiss.go:103", after := #[], guard := none }) (v := ?va42) rfl (by kernel_rfl) (by kernel_rfl) (by kernel_rfl) rfl (fun _ _ _ h => h) (Or.inl ⟨by rfl, ?ya42⟩) (fun _ => by assumption) ?ra42
          case ya42 => (intro w _; go_simp; first | done | (with_reducible rfl) | (rw [if_neg (by omega)]))
          try simp only [Act.put, List.setIfInBounds_toArray, List.set_cons_zero, List.set_cons_succ]
          refine takeW (i := 15) (oi := { dst := some 145, op := Op.move (Operand.tmp 6), type := 3, pos := "swiss.go:103", after := #[], guard := none }) (v := ?va43) rfl (by kernel_rfl) (by kernel_rfl) (by kernel_rfl) rfl (fun _ _ _ h => h) (Or.inl ⟨by rfl, ?ya43⟩) (fun _ => by assumption) ?ra43
          case ya43 => (intro w _; go_simp; first | done | (with_reducible rfl) | (rw [if_neg (by omega)]))
          try simp only [Act.put, List.setIfInBounds_toArray, List.set_cons_zero, List.set_cons_succ]
          refine takeW (i := 3) (oi := { dst := some 133, op := Op.nilCheck (Operand.tmp 132), type := 0, pos := "swiss.go:103", after := #[{ on := 2, ground := Ground.data }], guard := none }) (v := ?va44) rfl (by kernel_rfl) (by kernel_rfl) (by kernel_rfl) rfl (fun _ _ _ h => h) (Or.inl ⟨by rfl, ?ya44⟩) (fun _ => by assumption) ?ra44
          case ya44 => (intro w _; go_simp; first | done | (with_reducible rfl) | (rw [if_neg (by omega)]))
          try simp only [Act.put, List.setIfInBounds_toArray, List.set_cons_zero, List.set_cons_succ]
          refine takeW (i := 12) (oi := { dst := some 142, op := Op.nilCheck (Operand.tmp 141), type := 0, pos := "swiss.go:103", after := #[{ on := 11, ground := Ground.data }], guard := none }) (v := ?va45) rfl (by kernel_rfl) (by kernel_rfl) (by kernel_rfl) rfl (fun _ _ _ h => h) (Or.inl ⟨by rfl, ?ya45⟩) (fun _ => by assumption) ?ra45
          case ya45 => (intro w _; go_simp; first | done | (with_reducible rfl) | (rw [if_neg (by omega)]))
          try simp only [Act.put, List.setIfInBounds_toArray, List.set_cons_zero, List.set_cons_succ]
          refine takeW (i := 4) (oi := { dst := some 134, op := Op.fieldAddr 44 (Operand.tmp 133) 0, type := 0, pos := "swiss.go:103", after := #[{ on := 3, ground := Ground.data }], guard := none }) (v := ?va46) rfl (by kernel_rfl) (by kernel_rfl) (by kernel_rfl) rfl (fun _ _ _ h => h) (Or.inl ⟨by rfl, ?ya46⟩) (fun _ => by assumption) ?ra46
          case ya46 => (intro w _; go_simp; first | done | (with_reducible rfl) | (rw [if_neg (by omega)]))
          try simp only [Act.put, List.setIfInBounds_toArray, List.set_cons_zero, List.set_cons_succ]
          refine takeW (i := 13) (oi := { dst := some 143, op := Op.fieldAddr 44 (Operand.tmp 142) 0, type := 0, pos := "swiss.go:103", after := #[{ on := 12, ground := Ground.data }], guard := none }) (v := ?va47) rfl (by kernel_rfl) (by kernel_rfl) (by kernel_rfl) rfl (fun _ _ _ h => h) (Or.inl ⟨by rfl, ?ya47⟩) (fun _ => by assumption) ?ra47
          case ya47 => (intro w _; go_simp; first | done | (with_reducible rfl) | (rw [if_neg (by omega)]))
          try simp only [Act.put, List.setIfInBounds_toArray, List.set_cons_zero, List.set_cons_succ]
          refine takeL (i := 5) (oi := { dst := some 135, op := Op.load 22 (Operand.tmp 134), type := 22, pos := "swiss.go:103", after := #[{ on := 4, ground := Ground.data }], guard := none }) (v := ?va48) rfl (by kernel_rfl) (by kernel_rfl) (by kernel_rfl) (by kernel_rfl) rfl (by kernel_rfl) (by kernel_rfl) (fun _ _ _ h => h) (Or.inl ⟨by rfl, ?ya48⟩) (by assumption) ?ra48
          case ya48 => (intro w hSw; (try dsimp only at hSw); go_simp; first | done | (with_reducible rfl))
          try simp only [Act.put, List.setIfInBounds_toArray, List.set_cons_zero, List.set_cons_succ]
          refine takeL (i := 14) (oi := { dst := some 144, op := Op.load 22 (Operand.tmp 143), type := 22, pos := "swiss.go:103", after := #[{ on := 13, ground := Ground.data }], guard := none }) (v := ?va49) rfl (by kernel_rfl) (by kernel_rfl) (by kernel_rfl) (by kernel_rfl) rfl (by kernel_rfl) (by kernel_rfl) (fun _ _ _ h => h) (Or.inl ⟨by rfl, ?ya49⟩) (by assumption) ?ra49
          case ya49 => (intro w hSw; (try dsimp only at hSw); go_simp; first | done | (with_reducible rfl))
          try simp only [Act.put, List.setIfInBounds_toArray, List.set_cons_zero, List.set_cons_succ]
          refine takeW (i := 7) (oi := { dst := some 137, op := Op.indexAddr 22 (Operand.tmp 135) (Operand.tmp 136), type := 0, pos := "swiss.go:103", after := #[{ on := 5, ground := Ground.data }, { on := 6, ground := Ground.data }], guard := none }) (v := ?va50) rfl (by kernel_rfl) (by kernel_rfl) (by kernel_rfl) rfl (fun _ _ _ h => h) (Or.inl ⟨by rfl, ?ya50⟩) (fun _ => by assumption) ?ra50
          case ya50 => (intro w _; go_simp; first | done | (with_reducible rfl) | (rw [if_neg (by omega)]))
          try simp only [Act.put, List.setIfInBounds_toArray, List.set_cons_zero, List.set_cons_succ]
          refine takeW (i := 16) (oi := { dst := some 146, op := Op.indexAddr 22 (Operand.tmp 144) (Operand.tmp 145), type := 0, pos := "swiss.go:103", after := #[{ on := 14, ground := Ground.data }, { on := 15, ground := Ground.data }], guard := none }) (v := ?va51) rfl (by kernel_rfl) (by kernel_rfl) (by kernel_rfl) rfl (fun _ _ _ h => h) (Or.inl ⟨by rfl, ?ya51⟩) (fun _ => by assumption) ?ra51
          case ya51 => (intro w _; go_simp; first | done | (with_reducible rfl) | (rw [if_neg (by omega)]))
          try simp only [Act.put, List.setIfInBounds_toArray, List.set_cons_zero, List.set_cons_succ]
          refine takeW (i := 8) (oi := { dst := some 138, op := Op.fieldAddr 32 (Operand.tmp 137) 0, type := 0, pos := "swiss.go:103", after := #[{ on := 7, ground := Ground.data }], guard := none }) (v := ?va52) rfl (by kernel_rfl) (by kernel_rfl) (by kernel_rfl) rfl (fun _ _ _ h => h) (Or.inl ⟨by rfl, ?ya52⟩) (fun _ => by assumption) ?ra52
          case ya52 => (intro w _; go_simp; first | done | (with_reducible rfl) | (rw [if_neg (by omega)]))
          try simp only [Act.put, List.setIfInBounds_toArray, List.set_cons_zero, List.set_cons_succ]
          refine takeW (i := 17) (oi := { dst := some 147, op := Op.fieldAddr 32 (Operand.tmp 146) 0, type := 0, pos := "swiss.go:103", after := #[{ on := 16, ground := Ground.data }], guard := none }) (v := ?va53) rfl (by kernel_rfl) (by kernel_rfl) (by kernel_rfl) rfl (fun _ _ _ h => h) (Or.inl ⟨by rfl, ?ya53⟩) (fun _ => by assumption) ?ra53
          case ya53 => (intro w _; go_simp; first | done | (with_reducible rfl) | (rw [if_neg (by omega)]))
          try simp only [Act.put, List.setIfInBounds_toArray, List.set_cons_zero, List.set_cons_succ]
          refine takeL (i := 9) (oi := { dst := some 139, op := Op.load 3 (Operand.tmp 138), type := 3, pos := "swiss.go:103", after := #[{ on := 8, ground := Ground.data }], guard := none }) (v := ?va54) rfl (by kernel_rfl) (by kernel_rfl) (by kernel_rfl) (by kernel_rfl) rfl (by kernel_rfl) (by kernel_rfl) (fun _ _ _ h => h) (Or.inl ⟨by rfl, ?ya54⟩) (by assumption) ?ra54
          case ya54 => (intro w hSw; (try dsimp only at hSw); go_simp; first | done | (with_reducible rfl))
          try simp only [Act.put, List.setIfInBounds_toArray, List.set_cons_zero, List.set_cons_succ]
          refine takeL (i := 18) (oi := { dst := some 148, op := Op.load 3 (Operand.tmp 147), type := 3, pos := "swiss.go:103", after := #[{ on := 17, ground := Ground.data }], guard := none }) (v := ?va55) rfl (by kernel_rfl) (by kernel_rfl) (by kernel_rfl) (by kernel_rfl) rfl (by kernel_rfl) (by kernel_rfl) (fun _ _ _ h => h) (Or.inl ⟨by rfl, ?ya55⟩) (by assumption) ?ra55
          case ya55 => (intro w hSw; (try dsimp only at hSw); go_simp; first | done | (with_reducible rfl))
          try simp only [Act.put, List.setIfInBounds_toArray, List.set_cons_zero, List.set_cons_succ]
          refine takeW (i := 10) (oi := { dst := some 140, op := Op.binOp BinOp.mul 3 (Operand.const (Value.int IntKind.i64 100)) (Operand.tmp 139) 3, type := 3, pos := "swiss.go:103", after := #[{ on := 9, ground := Ground.data }], guard := none }) (v := ?va56) rfl (by kernel_rfl) (by kernel_rfl) (by kernel_rfl) rfl (fun _ _ _ h => h) (Or.inl ⟨by rfl, ?ya56⟩) (fun _ => by assumption) ?ra56
          case ya56 => (intro w _; go_simp; first | done | (with_reducible rfl) | (rw [if_neg (by omega)]))
          try simp only [Act.put, List.setIfInBounds_toArray, List.set_cons_zero, List.set_cons_succ]
          refine takeW (i := 19) (oi := { dst := some 149, op := Op.binOp BinOp.mul 3 (Operand.tmp 140) (Operand.tmp 148) 3, type := 3, pos := "swiss.go:103", after := #[{ on := 10, ground := Ground.data }, { on := 18, ground := Ground.data }], guard := none }) (v := ?va57) rfl (by kernel_rfl) (by kernel_rfl) (by kernel_rfl) rfl (fun _ _ _ h => h) (Or.inl ⟨by rfl, ?ya57⟩) (fun _ => by assumption) ?ra57
          case ya57 => (intro w _; go_simp; first | done | (with_reducible rfl) | (rw [if_neg (by omega)]))
          try simp only [Act.put, List.setIfInBounds_toArray, List.set_cons_zero, List.set_cons_succ]
          refine takeW (i := 20) (oi := { dst := some 150, op := Op.binOp BinOp.add 3 (Operand.tmp 131) (Operand.tmp 149) 3, type := 3, pos := "swiss.go:103", after := #[{ on := 1, ground := Ground.data }, { on := 19, ground := Ground.data }], guard := none }) (v := ?va58) rfl (by kernel_rfl) (by kernel_rfl) (by kernel_rfl) rfl (fun _ _ _ h => h) (Or.inl ⟨by rfl, ?ya58⟩) (fun _ => by assumption) ?ra58
          case ya58 => (intro w _; go_simp; first | done | (with_reducible rfl) | (rw [if_neg (by omega)]))
          try simp only [Act.put, List.setIfInBounds_toArray, List.set_cons_zero, List.set_cons_succ]
          refine readyL (rs := [21]) (by kernel_rfl) (by simp) ?_
          refine (AllReadyL.cons (o := { dst := some 151, op := Op.call { callee := Callee.value (Operand.func 12), args := #[Operand.tmp 130, Operand.const (Value.bool false), Operand.tmp 150], argTypes := #[41, 4, 3] }, type := 0, pos := "swiss.go:103", after := #[{ on := 0, ground := Ground.data }, { on := 20, ground := Ground.data }], guard := none }) rfl (fun K hK => ?_) AllReadyL.nil)
          go_simp
          try simp only [hw1, hw2, hw3]
          refine (HIH.out (wth.set i (ps.length : Int)) false (sum + 100 * si * si) bj vj w11.drew HLW.out HCW.out HNW.out hsum0 hsumB Sy).mono ?_
          rintro e wx ⟨rfl, vx, hsx, hfx⟩
          have HSX := Lib.hid hsx
          have HFX := Lib.hid (Fyd.trans hfx (Shr.refl _ _))
          clear hsx hfx Sy Fyd
          refine hK.out _ _ ⟨HSX.out.box.cell 0 rfl, (HSC.out wx HFX.out)⟩ (fun hHeld => ?_)
          clear hK K
          try simp only [Act.put, List.setIfInBounds_toArray, List.set_cons_zero, List.set_cons_succ]
          refine doneL (by kernel_rfl) ?_ _
          refine NoPanic.normal ?_
          clear hHeld
          have q0 := HSX.out.box.cell 0 rfl
          have q1 := HSX.out.box.cell 1 rfl
          have ci := HSX.out.wit.cell i (ints_get (wth.set i (ps.length : Int)) i (by rw [List.length_set]; omega))
          have fi := HSX.out.wit.frozen i
          go_wp2_with fail
          go_end0
          refine ⟨rfl, vx, ?_, HFX.out.setCell (.inr rfl) _⟩
          have hq := HSX.out.setW i (-1)
          rw [back1 wth i _ (by omega) HWI.out] at hq
          rw [HFN.out]
          exact hq
        · have HFN : Hid (srchZ ps (f + 1) true sum wth bst = bj) := Lib.hid (by rw [HF.out, if_neg (fun e => by rw [hyb] at e; cases e.2), HNE.out])
          clear HF hyb
          go_wp2_with fail
          go_end0
          exact ⟨rfl, vj, by rw [HFN.out]; exact HSR.out, HFR.out⟩

theorem search_all (ps : List SwP) (g o vc b h : Nat) (hn2 : 2 ≤ ps.length) (hn8 : ps.length ≤ 8) (hsm : ∀ k, k < ps.length → Small (plAt ps k)) : ∀ f, SearchSaid ps g o vc b h f
  | 0 => fun wth _ _ _ _ _ _ hc => absurd hc (Nat.not_lt_zero _)
  | f + 1 => fun wth bye sum bst vb w hl hc hneg h0 hB hs => by
    rcases (by omega : idxE (-1) wth 0 < 0 ∨ 0 ≤ idxE (-1) wth 0) with hx | hx
    · exact search_full ps g o vc b h f hn2 hn8 wth bye sum bst vb w hl hs hx
    · obtain ⟨i, h1, h2, h3⟩ := idxE_found (-1) wth 0 hx
      rw [Nat.zero_add] at h1
      exact search_open ps g o vc b h f hn2 hn8 hsm (search_all ps g o vc b h hn2 hn8 hsm f) wth bye sum bst vb w hl hc hneg h0 hB hs i h1 (by omega) h3

end Go.Proofs.Ytkngpbnildhdpaa

/- The contract of knockout.Byes. -/
import Derived.Test.YthddenadehhbdaaKnByes
import Derived.Test.YthddenadehhbdaaOwn
import Derived.Test.YthddenadehhbdaaSortD
import Derived.Deep.RegionLaw
import Derived.Deep.AppendLies
import Derived.Maps.AppendAt
namespace Go.Proofs.Ythddenadehhbdaa
open Go.ChangeShapes Go.WideShapes Go.ChangeAt Go.RowKit
set_option linter.unusedVariables false

theorem seedsZ_in (n : Nat) (h0 : 2 ≤ n) (h1 : n ≤ 32) : ∀ i : Nat, -1 ≤ (seedsZ n).getD i 0 ∧ (seedsZ n).getD i 0 ≤ 31 := by
  intro i
  unfold seedsZ
  have h := seedsTo_in (kOf n) (kOf_b n).2 i
  rw [List.getD_eq_getElem?_getD] at h ⊢
  rw [List.getElem?_map]
  cases hx : (seedsTo (kOf n))[i]? with
  | none => simp
  | some x => rw [hx] at h; simp at h ⊢; unfold capB; split <;> omega

theorem Byes_no (n : Int) (w : World) (h : n < 2 ∨ 32 < n) :
    Calls Try.prog 25 #[.int .i64 n] w fun e w' => e = .returned (.tuple #[.slice none 0 0, .int .i64 4]) ∧ w = w' := by
  have H := Lib.hid (Check_no n w h)
  clear h
  go_enter Try.func25, Try.ntmps25
  go_wp2_with fail
  refine H.out.mono ?_
  rintro e w' ⟨rfl, rfl⟩
  go_wp2
  go_ret2
  exact ⟨rfl, rfl⟩

set_option maxHeartbeats 1000000 in
set_option maxRecDepth 100000 in
theorem Byes_ok (hS : SortSaid) (n : Nat) (w : World) (h0 : 2 ≤ n) (h1 : n ≤ 32) :
    Calls Try.prog 25 #[.int .i64 n] w fun e w' => ∃ v, e = .returned (.tuple #[v, .int .i64 0]) ∧ w'.ownsRow w.heap.size 3 1 v (sortB n).length (ints (sortB n)) ∧ Below w.heap.size w w' := by
  obtain ⟨i0, hi, hz0, hz1, hz2⟩ := info_parts info3
  have hll := seedsZ_len n
  have hhb := halfN_b n
  have HIn := Lib.hid (seedsZ_in n h0 h1)
  have HZ : Hid (sortB n = (byesTo (seedsZ n) (halfN n)).mergeSort fun x y => decide (x ≤ y)) := Lib.hid rfl
  generalize hH : halfN n = H at *
  clear hH
  go_enter Try.func25, Try.ntmps25
  go_wp2_with fail
  refine (Check_ok n w (by omega) (by omega)).mono ?_
  rintro e w' ⟨rfl, rfl⟩
  go_wp2_with fail
  refine (seeds_any n w h0 h1).mono ?_
  rintro e w1 ⟨v, rfl, ho, hb⟩
  generalize seedsZ n = l at *
  obtain ⟨G, cap, hv⟩ := own_some ho (by omega)
  subst hv
  have HO := Lib.hid ho
  have hG := ho.lt G rfl
  clear ho
  have HLL := Lib.hid hll
  have hl32 : l.length ≤ 32 := by omega
  clear hll
  go_wp2_with fail
  go_loopw [6, 7] (fun v i wr => ∃ k j : Nat, k ≤ H ∧ Hid (j = 2 * k) ∧ i = .int .i64 (j : Int) ∧ Hid (wr.ownsRow w1.heap.size 3 1 v (byesTo l k).length (ints (byesTo l k))) ∧ Hid (wr.ownsRow w.heap.size 3 1 (.slice (some ⟨G, 0, none⟩) l.length cap) l.length (ints l)) ∧ w1.heap.size ≤ wr.heap.size ∧ Below w.heap.size w wr) (fun _ i _ => l.length - (intOf i).toNat)
  case atStart => exact ⟨0, 0, Nat.zero_le _, Lib.hid rfl, rfl, Lib.hid (World.ownsRow_nil _ _ _ _), HO, Nat.le_refl _, hb⟩
  case round =>
    obtain ⟨k, j, hk, HJ, rfl, HN, HL, hwo, hbk⟩ := hrel
    have hbl := byesTo_len l k
    by_cases hlt : k < H
    · have hml : j + 1 < l.length := by rw [HLL.out, HJ.out]; omega
      have hj16 : j ≤ 32 := by omega
      have c0 : wr.cell? ⟨G, j, none⟩ = some (.int .i64 (l.getD j 0)) := (HL.out.cellAt j (by omega)).trans (ints_get _ _ (by omega))
      have c1 : wr.cell? ⟨G, j + 1, none⟩ = some (.int .i64 (l.getD (j + 1) 0)) := (HL.out.cellAt (j + 1) (by omega)).trans (ints_get _ _ (by omega))
      have HP : Hid (byesTo l (k + 1) = byesTo l k ++ byeS (l.getD j 0) (l.getD (j + 1) 0)) := Lib.hid (by rw [HJ.out]; rfl)
      have hb0 := HIn.out j
      have hb1 := HIn.out (j + 1)
      generalize l.getD j 0 = a at *
      generalize l.getD (j + 1) 0 = b at *
      have hszk := hbk.size
      have hG2 := HL.out.lt G rfl
      by_cases hab : a < 0 ∨ b < 0
      · have hI1 : (0 : Int) ≤ (j : Int) := by omega
        have hI2 : (j : Int) < (l.length : Int) := by omega
        have hI3 : (j : Int) + 1 < (l.length : Int) := by omega
        have hI4 : (0 : Int) ≤ (j : Int) + 1 := by omega
        have hwr : IntKind.i64.wrap ((j : Int) + 1) = (j : Int) + 1 := IntWalk.i64_in _ (by omega)
        obtain ⟨m, hm⟩ : ∃ m, m = if a < b then b else a := ⟨_, rfl⟩
        have HM : Hid (byeS a b = [m]) := Lib.hid (by unfold byeS; rw [if_pos hab, hm])
        have hmx : (if a < b then b else a) = m := hm.symm
        have hmw : m ≤ 31 := by rw [hm]; split <;> omega
        clear hm
        have hC : (a < 0) ∨ (¬ a < 0 ∧ b < 0) := by omega
        have hcut : Hid (byeS a b = [m]) := HM
        rcases hC with hC | ⟨hC1, hC2⟩
        all_goals
          have HNa : Hid ((wr.alloc (.cells #[.int .i64 m] 3)).drew.ownsRow w1.heap.size 3 1 u6 (byesTo l k).length (ints (byesTo l k))) := Lib.hid (HN.out.alloc (.cells #[.int .i64 m] 3))
          have S1 : Hid (∀ u ∈ [Value.int .i64 m], u.oneCell' = true) := Lib.hid (fun u hu => by simp at hu; rw [hu]; rfl)
          have S2 : Hid ((byesTo l k).length + 1 ≤ maxLen) := Lib.hid (by unfold maxLen; omega)
          have S3 : Hid (((byesTo l k).length + 1) * 8 ≤ 140737488355328) := Lib.hid (by omega)
          have S4 : Hid (w1.heap.size ≤ (wr.alloc (.cells #[.int .i64 m] 3)).drew.heap.size) := Lib.hid (by simp; omega)
          have S5 : Hid ((wr.alloc (.cells #[.int .i64 m] 3)).drew.heap.size = wr.heap.size + 1) := Lib.hid (by simp)
          go_wp2_with fail
          go_region_law ((refine step_append_lies _ (by rfl) _ _ 28 (by rfl) w1.heap.size 3 i0 (.int .i64 0) 1 8 Try.underlying28 hi hz0 hz1 hz2 rfl (by decide) u6 (byesTo l k).length (ints (byesTo l k)) (by rfl) HNa.out ⟨wr.heap.size, 0, none⟩ 1 1 [.int .i64 m] (by rfl) rfl (cell_one_new _ _ _) S1.out (by omega) S2.out S3.out S4.out (wr.heap.size + 1) S5.out ?_; intro g3 cap3 w3 hown3 hgrow3 hat3 hlt3))
          all_goals
            have HLd : (wr.alloc (.cells #[.int .i64 m] 3)).drew.ownsRow w.heap.size 3 1 (.slice (some ⟨G, 0, none⟩) l.length cap) l.length (ints l) := HL.out.alloc (.cells #[.int .i64 m] 3)
            have HL3 := Lib.hid (HLd.kept hgrow3 (own_apart HLd (fun q hq => by simp [Value.ownBlock] at hq; omega) HNa.out (Nat.le_refl w1.heap.size)))
            have hb3 : Below w.heap.size w w3 := Below.grown (hbk.alloc hszk _).drew hgrow3 (by simp; omega) (fun q hq => by have := (HNa.out.lt q hq).1; omega)
            have hw3 : w1.heap.size ≤ w3.heap.size := by have := hgrow3.size; simp at this; omega
            have HN3 := Lib.hid hown3
            clear hown3 hgrow3 hat3 hlt3 HNa HLd c0 c1
            go_wp2_with fail
            go_roundw
            case rel => exact ⟨k + 1, j + 2, by omega, Lib.hid (by have := HJ.out; omega), by go_num, Lib.hid (by rw [HP.out, HM.out]; simpa [ints] using HN3.out), HL3, hw3, hb3⟩
            case measure => simp [intOf]; omega
      · have HM : Hid (byeS a b = []) := Lib.hid (by unfold byeS; rw [if_neg hab])
        have hC1 : ¬ a < 0 := by omega
        have hC2 : ¬ b < 0 := by omega
        go_wp2_with fail
        go_roundw
        case rel => exact ⟨k + 1, j + 2, by omega, Lib.hid (by have := HJ.out; omega), by go_num, Lib.hid (by rw [HP.out, HM.out, List.append_nil]; exact HN.out), HL, hwo, hbk⟩
        case measure => simp [intOf]; omega
    · obtain rfl : k = H := by omega
      have hge : l.length ≤ j := by rw [HLL.out, HJ.out]; omega
      go_wp2_with fail
      refine (hS w1.heap.size u6 (byesTo l k) wr HN.out (by omega)).mono ?_
      rintro e w2 ⟨rfl, ho2, hg2⟩
      have hb2 : Below w.heap.size w w2 := Below.grown hbk hg2 (by have := hbk.size; omega) (fun q hq => by have := (HN.out.lt q hq).1; omega)
      have HO2 := Lib.hid ho2
      clear ho2 hg2
      go_wp2_with fail
      go_ret2
      exact ⟨_, rfl, by rw [HZ.out, List.length_mergeSort]; exact own_base HO2.out (by omega), hb2⟩
end Go.Proofs.Ythddenadehhbdaa

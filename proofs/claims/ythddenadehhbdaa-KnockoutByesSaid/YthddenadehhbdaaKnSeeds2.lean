/- The walk of knockout.seeds. -/
import Derived.Test.YthddenadehhbdaaKnSeeds
namespace Go.Proofs.Ythddenadehhbdaa
open Go.ChangeShapes Go.WideShapes Go.ChangeAt Go.RowKit
set_option linter.unusedVariables false

theorem set_self (l : List Int) (k : Nat) : l.set k (l.getD k 0) = l := by
  apply List.ext_getElem?
  intro i
  rw [List.getElem?_set]
  split
  · rename_i h
    subst h
    split
    · rename_i h2
      rw [List.getD_eq_getElem?_getD, List.getElem?_eq_getElem h2]; rfl
    · rename_i h2
      rw [List.getElem?_eq_none (by omega)]
  · rfl

def IntsPost (l : List Int) (w : World) (e : Ending) (w' : World) : Prop := ∃ v, e = .returned v ∧ w'.ownsRow w.heap.size 3 1 v l.length (ints l) ∧ Below w.heap.size w w'

set_option maxHeartbeats 1000000 in
theorem seeds_any (n : Nat) (w : World) (h0 : 2 ≤ n) (h1 : n ≤ 32) :
    Calls Try.prog 52 #[.int .i64 n] w (IntsPost (seedsZ n) w) := by
  obtain ⟨i0, hi, hz0, hz1, hz2⟩ := info_parts info3
  have hk1 : 1 ≤ kOf n ∧ kOf n ≤ 5 := by unfold kOf; split <;> (try split) <;> (try split) <;> (try split) <;> omega
  have HZ : Hid (seedsZ n = (seedsTo (kOf n)).map (capB n)) := Lib.hid rfl
  go_enter Try.func52, Try.ntmps52
  go_wp2_with fail
  refine (rounds_any n _ h0 h1).mono ?_
  rintro e w' ⟨rfl, rfl⟩
  generalize kOf n = K at *
  have hown0 : (w.alloc (.cells #[.int .i64 0] 3)).ownsRow w.heap.size 3 1 (.slice (some ⟨w.heap.size, 0, none⟩) 1 1) 1 (ints (seedsTo 0)) := ⟨rfl, .inr ⟨w.heap.size, 1, #[.int .i64 0], rfl, Nat.le_refl _, heap_alloc_new w _, Nat.le_refl _, by unfold maxLen; omega, rfl, rfl⟩⟩
  have HO := Lib.hid hown0
  have hB : Below w.heap.size w (w.alloc (.cells #[.int .i64 0] 3)) := by go_grown
  clear hown0
  go_wp2_with fail
  go_loopw [3, 13] (fun v i wr => ∃ r : Nat, r ≤ K ∧ i = .int .i64 r ∧ Hid (wr.ownsRow w.heap.size 3 1 v (seedsTo r).length (ints (seedsTo r))) ∧ Below w.heap.size w wr) (fun _ i _ => K - (intOf i).toNat)
  case atStart => exact ⟨0, Nat.zero_le _, rfl, HO, hB⟩
  case round =>
    obtain ⟨r, hr, rfl, HO, hbl⟩ := hrel
    have hlen : 1 ≤ (seedsTo r).length ∧ (seedsTo r).length ≤ 32 := by
      rw [seedsTo_len]
      have : 2 ^ r ≤ 2 ^ 5 := Nat.pow_le_pow_right (by omega) (by omega)
      have : 0 < 2 ^ r := Nat.pow_pos (by omega)
      omega
    obtain ⟨G, cap, hv⟩ := own_some HO.out (by omega)
    subst hv
    have hG := HO.out.lt G rfl
    have hsz := hbl.size
    by_cases hlt : r < K
    · have HS : Hid (seedsTo (r + 1) = nextPre (seedsTo r) (seedsTo r).length) := Lib.hid rfl
      have HIn := Lib.hid (seedsTo_in r (by omega))
      generalize hl : seedsTo r = l at *
      clear hl
      go_wp2_with fail
      obtain ⟨wo, rfl⟩ : ∃ wo : World, wo = wr := ⟨_, rfl⟩
      go_loopw [4, 17] (fun v i wr => ∃ k : Nat, k ≤ l.length ∧ i = .int .i64 k ∧ Hid (wr.ownsRow wo.heap.size 3 1 v (2 * k) (ints (nextPre l k))) ∧ Hid (wr.ownsRow w.heap.size 3 1 (.slice (some ⟨G, 0, none⟩) l.length cap) l.length (ints l)) ∧ wo.heap.size ≤ wr.heap.size ∧ Below w.heap.size w wr) (fun _ i _ => l.length - (intOf i).toNat)
      case atStart => exact ⟨0, Nat.zero_le _, rfl, Lib.hid (World.ownsRow_nil _ _ _ _), HO, Nat.le_refl _, hbl⟩
      case round =>
        obtain ⟨k, hk, rfl, HN, HL, hwo, hbk⟩ := hrel
        by_cases hltk : k < l.length
        · have ck : wr.cell? ⟨G, k, none⟩ = some (.int .i64 (l.getD k 0)) := (HL.out.cellAt k (by omega)).trans (ints_get _ k hltk)
          have hb := HIn.out k
          have HP := Lib.hid (nextPre_succ l k)
          have HPS : Hid (pairS l k = if ((k : Int) % 2 == 1) = true then [2 * (l.length : Int) - 1 - l.getD k 0, l.getD k 0] else [l.getD k 0, 2 * (l.length : Int) - 1 - l.getD k 0]) := Lib.hid rfl
          generalize l.getD k 0 = z at *
          have hszk := hbk.size
          have hG2 := HL.out.lt G rfl
          have hm0 : 0 ≤ (k : Int) := by omega
          have HNb : Hid (∀ x y : Int, (wr.alloc (.cells #[.int .i64 x, .int .i64 y] 3)).ownsRow wo.heap.size 3 1 u4 (2 * k) (ints (nextPre l k))) := Lib.hid (fun x y => HN.out.alloc _)
          cases hodd : ((k : Int) % 2 == 1)
          all_goals
            go_wp2_with (at_builtin; refine wpList_append_own _ rfl _ _ 28 rfl wo.heap.size 3 i0 (.int .i64 0) 1 8 Try.underlying28 hi hz0 hz1 hz2 rfl (by decide) _ (2 * k) (ints (nextPre l k)) rfl (HNb.out _ _) ⟨wr.heap.size, 0, none⟩ 2 2 [.int .i64 _, .int .i64 _] rfl rfl (cell_two_new _ _ _ _) ?c2 ?c3 ?c4 ?c5 ?_)
            case c2 => intro u hu; simp at hu; rcases hu with rfl | rfl <;> rfl
            case c3 => unfold maxLen; omega
            case c4 => omega
            case c5 => simp; omega
            intro v' w1 hown' hgrow _
            have hbw : Below w.heap.size w w1 := Below.grown (hbk.alloc hszk _) hgrow (by simp; omega) (fun q hq => by have := (HN.out.lt q hq).1; omega)
            have hLw := Lib.hid ((HL.out.alloc _).kept hgrow (Or.inr (fun hq => by have := (HN.out.lt G hq.symm).1; omega)))
            have hw1 : wo.heap.size ≤ w1.heap.size := by have := hgrow.size; simp at this; omega
            have HO' := Lib.hid hown'
            clear hown' hgrow HNb
            go_wp2_with fail
            go_roundw
            case rel => exact ⟨k + 1, by omega, by go_num, Lib.hid (by rw [HP.out, HPS.out, hodd]; simpa [ints, Nat.mul_add] using HO'.out), hLw, hw1, hbw⟩
            case measure => simp [intOf]; omega
        · obtain rfl : k = l.length := by omega
          go_wp2_with fail
          go_roundw
          case rel => exact ⟨r + 1, by omega, by go_num, Lib.hid (by rw [HS.out, nextPre_len]; exact own_base HN.out (by omega)), hbk⟩
          case measure => simp [intOf]; omega
    · obtain rfl : r = K := by omega
      have HIn := Lib.hid (seedsTo_in r (by omega))
      generalize hl : seedsTo r = l at *
      clear hl
      go_wp2_with fail
      obtain ⟨wo, rfl⟩ : ∃ wo : World, wo = wr := ⟨_, rfl⟩
      go_loopw [43] (fun i wr => ∃ k : Nat, k ≤ l.length ∧ i = .int .i64 k ∧ Hid (wr.ownsRow w.heap.size 3 1 (.slice (some ⟨G, 0, none⟩) l.length cap) l.length (ints (capTo n l k))) ∧ Below w.heap.size w wr) (fun i _ => l.length - (intOf i).toNat)
      case atStart => exact ⟨0, Nat.zero_le _, rfl, Lib.hid (by simpa [capTo] using HO.out), hbl⟩
      case round =>
        obtain ⟨k, hk, rfl, HL, hbk⟩ := hrel
        by_cases hltk : k < l.length
        · have ck : wr.cell? ⟨G, k, none⟩ = some (.int .i64 (l.getD k 0)) := by
            rw [← capTo_get n l k hltk]
            exact (HL.out.cellAt k (by omega)).trans (ints_get _ k (by rw [capTo_len]; omega))
          have fk : wr.frozen? ⟨G, k, none⟩ = false := HL.out.frozenAt k
          have HST := Lib.hid (capTo_step n l k hltk)
          have HG := Lib.hid (capTo_get n l k hltk)
          have hb := HIn.out k
          have HSt := Lib.hid (fun x => (HL.out.stored k (.int .i64 x)).1)
          generalize l.getD k 0 = z at *
          by_cases hz : (n : Int) ≤ z
          · go_wp2_with fail
            go_roundw
            case rel => exact ⟨k + 1, by omega, by go_num, Lib.hid (by rw [HST.out, ← ints_set]; unfold capB; rw [if_pos hz]; exact HSt.out _), hbk.setCell (by simp; omega) _⟩
            case measure => simp [intOf]; omega
          · go_wp2_with fail
            go_roundw
            case rel => exact ⟨k + 1, by omega, by go_num, Lib.hid (by rw [HST.out]; unfold capB; rw [if_neg hz, ← HG.out, set_self]; exact HL.out), hbk⟩
            case measure => simp [intOf]; omega
        · obtain rfl : k = l.length := by omega
          go_wp2_with fail
          go_ret
          exact ⟨_, rfl, by rw [HZ.out]; have := HL.out; unfold capTo at this; simpa using this, hbk⟩
end Go.Proofs.Ythddenadehhbdaa

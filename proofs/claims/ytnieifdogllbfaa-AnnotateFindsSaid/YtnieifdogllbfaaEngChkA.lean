/- The contracts of rules.within and rules.Name. -/
import Derived.Test.YtnieifdogllbfaaEng
import Derived.BigQuiet
namespace Go.Proofs.Ytnieifdogllbfaa
open Go.ChangeShapes Go.WideShapes Go.ChangeAt Go.RowKit
set_option linter.unusedVariables false

theorem within_any (n lo hi : Int) (w : World) :
    Calls Try.prog 26 #[.int .i64 n, .int .i64 lo, .int .i64 hi] w fun e w' => e = .returned (.bool (wb n lo hi)) ∧ w = w' := by
  by_cases h1 : lo ≤ n <;> by_cases h2 : n ≤ hi
  all_goals
    go_enter Try.func26, Try.ntmps26
    go_wp2
    go_ret
    exact ⟨by simp [wb, h1, h2], rfl⟩

theorem nameFrom_step (s : List UInt8) (k n : Nat) (h : k < n) : nameFrom s k (n - k) = (nameCh k (s.getD k 0).toNat && nameFrom s (k + 1) (n - (k + 1))) := by
  obtain ⟨m, hm⟩ : ∃ m, n - k = m + 1 := ⟨n - k - 1, by omega⟩
  rw [hm, nameFrom, show n - (k + 1) = m by omega]
theorem byte_at (s : ByteArray) (k : Nat) (h : k < s.size) : s.data.toList.getD k 0 = s[k] := by
  have h' : k < s.data.size := h
  rw [List.getD_eq_getElem?_getD, Array.getElem?_toList, Array.getElem?_eq_getElem h']
  rfl

theorem str_empty (s : ByteArray) : s.toList.isEmpty = decide (s.size = 0) := by
  rw [ByteArray.toList_eq, Bool.eq_iff_iff, List.isEmpty_iff, decide_eq_true_eq]
  constructor
  · intro h
    have : s.data.toList.length = 0 := by rw [h]; rfl
    simpa using this
  · intro h
    exact List.eq_nil_of_length_eq_zero (by simpa using h)
set_option maxHeartbeats 1000000 in
theorem Name_any (s : ByteArray) (w : World) (hs : s.size ≤ maxLen) :
    Calls Try.prog 25 #[.string s] w fun e w' => e = .returned (.bool (nameOk s)) ∧ w = w' := by
  unfold maxLen at hs
  have HN : Hid (nameOk s = (nameFrom s.data.toList 0 s.size && decide (0 < s.size) && decide (s.size ≤ 8))) := Lib.hid rfl
  go_enter Try.func25, Try.ntmps25
  go_wp2
  go_loop [7] (fun i => ∃ k : Nat, k ≤ s.size ∧ i = .int .i64 k ∧ Hid (nameFrom s.data.toList 0 s.size = nameFrom s.data.toList k (s.size - k))) (fun i => s.size - (intOf i).toNat)
  case atStart => exact ⟨0, Nat.zero_le _, rfl, Lib.hid rfl⟩
  case round =>
    obtain ⟨k, hk, rfl, HK⟩ := hrel
    by_cases hlt : k < s.size
    · have HS := Lib.hid (nameFrom_step s.data.toList k s.size hlt)
      have HB := Lib.hid (byte_at s k hlt)
      have HC : Hid (nameCh k (s.data.toList.getD k 0).toNat = ((decide (65 ≤ s[k].toNat) && decide (s[k].toNat ≤ 90)) || (decide (k ≠ 0) && decide (48 ≤ s[k].toNat) && decide (s[k].toNat ≤ 57)))) := Lib.hid (by rw [HB.out]; rfl)
      have HB2 : Hid (s[k].toNat < 256) := Lib.hid s[k].toNat_lt
      have C3 : Hid (decide (k ≠ 0) = !((k : Int) == 0)) := Lib.hid (by by_cases e : k = 0 <;> simp [e])
      cases hk0 : ((k : Int) == 0)
      all_goals
        by_cases c1 : 65 ≤ (s[k].toNat : Int) <;> by_cases c2 : (s[k].toNat : Int) ≤ 90 <;> by_cases c4 : 48 ≤ (s[k].toNat : Int) <;> by_cases c5 : (s[k].toNat : Int) ≤ 57
        all_goals try omega
        all_goals
          go_wp2
          first
            | (go_round
               case rel => exact ⟨k + 1, by omega, by go_num, Lib.hid (by rw [HK.out, HS.out, HC.out, C3.out, hk0]; first | (simp; done) | (simp; omega))⟩
               case measure => simp [intOf]; omega)
            | (go_ret
               exact ⟨by rw [HN.out, HK.out, HS.out, HC.out, C3.out, hk0]; first | (simp; done) | (simp; omega), rfl⟩)
    · obtain rfl : k = s.size := by omega
      have HE : Hid (nameFrom s.data.toList 0 s.size = true) := Lib.hid (by rw [HK.out]; simp [nameFrom])
      have HT2 : Hid (decide (0 < s.size) = !s.toList.isEmpty) := Lib.hid (by rw [str_empty s]; by_cases e : s.size = 0 <;> simp [e]; omega)
      by_cases h8 : s.size ≤ 8
      all_goals
        have h8' : decide ((s.size : Int) ≤ 8) = decide (s.size ≤ 8) := by rw [Bool.eq_iff_iff]; simp; omega
        simp only [h8, decide_true, decide_false] at h8'
        cases ht : s.toList.isEmpty
        all_goals
          go_wp2
          go_ret
          exact ⟨by rw [HN.out, HE.out, HT2.out, ht]; simp [h8], rfl⟩
end Go.Proofs.Ytnieifdogllbfaa

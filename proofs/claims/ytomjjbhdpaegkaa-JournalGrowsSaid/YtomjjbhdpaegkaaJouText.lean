/- The contracts of journal.Sum, of strings.IndexFunc at the journal's predicate, and of journal.text. -/
import Derived.Test.YtomjjbhdpaegkaaRows
import Derived.Test.YtomjjbhdpaegkaaRd
import Derived.Test.YtomjjbhdpaegkaaOwn
import Derived.Test.YtomjjbhdpaegkaaSub
import Derived.WalkKit
import Derived.ProofKit
import Derived.OpenShut
import Derived.LoopTactic
import Derived.Outline
import Derived.Lib.Hide
import Derived.Handy
import Derived.WalkSpells
import Derived.WalkSmall
import Derived.WalkLawsBesides
import Derived.Laws.RangeAny
namespace Go.Proofs.Ytomjjbhdpaegkaa
open Go.ChangeShapes Go.WideShapes Go.ChangeAt Go.RowKit
set_option linter.unusedVariables false

/-! ### the text: bytes from 32 to 126 -/
def badC (c : Int) : Bool := decide (c < 32) || decide (126 < c)
theorem badC_any (c : Int) (w : World) : Calls Try.prog 17 #[.int .i32 c] w fun e w' => e = .returned (.bool (badC c)) ∧ w = w' := by
  have H : Hid (badC c = (decide (c < 32) || decide (126 < c))) := Lib.hid rfl
  by_cases h : c < 32
  · go_enter Try.func17, Try.ntmps17
    go_wp2
    go_ret
    exact ⟨by rw [H.out]; simp [h], rfl⟩
  · go_enter Try.func17, Try.ntmps17
    go_wp2
    go_ret
    exact ⟨by rw [H.out]; simp; omega, rfl⟩
theorem callC (args : Array Value) (w : World) : (callFunc 17 args).run Try.prog w = .ok (.enter 17 args) w := by kernel_rfl
/-- the first byte of s, from position k on, that is out of range. -/
def badFrom (s : ByteArray) : Nat → Nat → Int
  | 0, _ => -1
  | f + 1, k => if h : k < s.size then (if badC ((s[k]'h).toNat : Int) = true then (k : Int) else badFrom s f (k + 1)) else -1
def badAt (s : ByteArray) : Int := badFrom s s.size 0
theorem badFrom_step (s : ByteArray) (k : Nat) (h : k < s.size) : badFrom s (s.size - k) k = if badC ((s[k]'h).toNat : Int) = true then (k : Int) else badFrom s (s.size - (k + 1)) (k + 1) := by
  have e : s.size - k = (s.size - (k + 1)) + 1 := by omega
  rw [e, badFrom, dif_pos h]
theorem badFrom_end (s : ByteArray) : badFrom s (s.size - s.size) s.size = -1 := by simp [badFrom]

set_option maxHeartbeats 1000000 in
theorem indexFunc_any (s : ByteArray) (w : World) (hs : s.size ≤ 9223372036854775807) :
    Calls Try.prog 18 #[.string s, .func (.func 17) #[] #[], .bool true] w fun e w' => e = .returned (.int .i64 (badAt s)) ∧ Below w.heap.size w w' := by
  have HB : Hid (badAt s = badFrom s (s.size - 0) 0) := Lib.hid rfl
  have hcf := callC
  go_enter Try.func18, Try.ntmps18
  go_wp2_with fail
  go_loopw [7] (fun _ wr => ∃ k : Nat, k ≤ s.size ∧ wr = w.iter s k ∧ Hid (badAt s = badFrom s (s.size - k) k)) (fun _ wr => s.size - wr.iterPos w.heap.size)
  case atStart => exact ⟨0, Nat.zero_le _, rfl, HB⟩
  case round =>
    obtain ⟨k, hk, rfl, HK⟩ := hrel
    have hbel : ∀ p, Below w.heap.size w (w.iter s p) := fun p => (Below.refl _ w).alloc (Nat.le_refl _) _
    have HBel := Lib.hid hbel
    clear hbel
    by_cases hlt : k < s.size
    · have HS := Lib.hid (badFrom_step s k hlt)
      cases hb : badC ((s[k]'hlt).toNat : Int)
      · have hr : 32 ≤ (s[k]'hlt).toNat ∧ (s[k]'hlt).toNat ≤ 126 := by
          simp [badC] at hb; omega
        have hnx := fun ty => run_next_ascii (P := Try.prog) w s k ty hlt (by omega)
        have HC := Lib.hid (fun w => badC_any ((s[k]'hlt).toNat : Int) w)
        rw [hb] at HC
        rw [hb] at HS
        clear hb
        generalize (s[k]'hlt).toNat = b at *
        go_wp2_with fail
        refine (HC.out _).mono ?_
        rintro e w' ⟨rfl, rfl⟩
        go_wp2_with fail
        go_roundw
        case rel => exact ⟨k + 1, by omega, rfl, Lib.hid (by rw [HK.out, HS.out]; rfl)⟩
        case measure => simp; omega
      · rw [hb] at HS
        by_cases h8 : (s[k]'hlt).toNat < 128
        · have hnx := fun ty => run_next_ascii (P := Try.prog) w s k ty hlt h8
          have HC := Lib.hid (fun w => badC_any ((s[k]'hlt).toNat : Int) w)
          rw [hb] at HC
          clear hb
          generalize (s[k]'hlt).toNat = b at *
          go_wp2_with fail
          refine (HC.out _).mono ?_
          rintro e w' ⟨rfl, rfl⟩
          go_wp2_with fail
          go_ret
          exact ⟨by rw [HK.out, HS.out]; rfl, HBel.out _⟩
        · have hnx := fun ty => run_next_any (P := Try.prog) w s k ty hlt
          have hd := decode_high s k hlt (by omega)
          have HC := Lib.hid (fun w => badC_any (((Utf8.decode s k).1 : Nat) : Int) w)
          have hbc : badC (((Utf8.decode s k).1 : Nat) : Int) = true := by simp [badC]; omega
          rw [hbc] at HC
          clear hb hbc hd h8
          generalize Utf8.decode s k = dd at *
          obtain ⟨d1, d2⟩ := dd
          simp only at *
          go_wp2_with fail
          refine (HC.out _).mono ?_
          rintro e w' ⟨rfl, rfl⟩
          go_wp2_with fail
          go_ret
          exact ⟨by rw [HK.out, HS.out]; rfl, HBel.out _⟩
    · obtain rfl : k = s.size := by omega
      have hnx := fun ty => run_next_end (P := Try.prog) w s s.size ty (by omega)
      go_wp2_with fail
      go_ret
      exact ⟨by rw [HK.out, badFrom_end]; rfl, HBel.out _⟩

theorem IndexFunc_any (s : ByteArray) (w : World) (hs : s.size ≤ 9223372036854775807) :
    Calls Try.prog 16 #[.string s, .func (.func 17) #[] #[]] w fun e w' => e = .returned (.int .i64 (badAt s)) ∧ Below w.heap.size w w' := by
  go_enter Try.func16, Try.ntmps16
  go_wp2_with fail
  refine (indexFunc_any s w hs).mono ?_
  rintro e w1 ⟨rfl, hb⟩
  go_wp2_with fail
  go_ret
  exact ⟨rfl, hb⟩

def textE (s : ByteArray) : Int := if 200 < s.size then 2 else if 0 ≤ badAt s then 3 else 0
theorem text_any (s : ByteArray) (w : World) (hs : s.size ≤ 9223372036854775807) :
    Calls Try.prog 10 #[.string s] w fun e w' => e = .returned (.int .i64 (textE s)) ∧ Below w.heap.size w w' := by
  have H : Hid (textE s = if 200 < s.size then 2 else if 0 ≤ badAt s then 3 else 0) := Lib.hid rfl
  by_cases h : 200 < s.size
  · go_enter Try.func10, Try.ntmps10
    go_wp2_with fail
    go_ret
    exact ⟨by rw [H.out, if_pos h]; rfl, Below.refl _ _⟩
  · have HI := Lib.hid (IndexFunc_any s w hs)
    generalize badAt s = b at *
    by_cases hb : 0 ≤ b
    all_goals
      go_enter Try.func10, Try.ntmps10
      go_wp2_with fail
      refine HI.out.mono ?_
      rintro e w1 ⟨rfl, hb1⟩
      go_wp2_with fail
      go_ret
      exact ⟨by rw [H.out, if_neg (by omega)]; first | (rw [if_pos (by omega)]; rfl) | (rw [if_neg (by omega)]; rfl), hb1⟩
end Go.Proofs.Ytomjjbhdpaegkaa

/- The contracts of journal.Sum, wrong, last, Good and Check. -/
import Derived.Test.YtomjjbhdpaegkaaJouText
import Derived.RegionTactic
import Derived.Deep.QuietTactic
import Derived.BigQuiet
import Derived.Deep.RegionWith
namespace Go.Proofs.Ytomjjbhdpaegkaa
open Go.ChangeShapes Go.WideShapes Go.ChangeAt Go.RowKit
set_option linter.unusedVariables false

theorem ret_kind {k : IntKind} {a b : Int} (h : a = b) : Ending.returned (.int k a) = .returned (.int k b) := by rw [h]
def sumStep (x c : Int) : Int := IntKind.u64.wrap (bits BinOp.xor IntKind.u64 x (IntKind.u64.wrap c) * 1099511628211)
def sumTo (s : ByteArray) (b : Int) : Nat → Int
  | 0 => bits BinOp.xor IntKind.u64 b 14695981039346656037
  | k + 1 => if h : k < s.size then sumStep (sumTo s b k) ((s[k]'h).toNat : Int) else sumTo s b k
def sumZ (b : Int) (s : ByteArray) : Int := sumStep (sumTo s b s.size) (s.size : Int)
theorem sumTo_succ (s : ByteArray) (b : Int) (k : Nat) (h : k < s.size) : sumTo s b (k + 1) = sumStep (sumTo s b k) ((s[k]'h).toNat : Int) := by
  rw [sumTo, dif_pos h]

theorem Sum_any (b : Int) (s : ByteArray) (w : World) (hs : s.size ≤ 9223372036854775807) :
    Calls Try.prog 12 #[.int .u64 b, .string s] w fun e w' => e = .returned (.int .u64 (sumZ b s)) ∧ w = w' := by
  have HZ : Hid (sumZ b s = sumStep (sumTo s b s.size) (s.size : Int)) := Lib.hid rfl
  have H0 : Hid (sumTo s b 0 = bits BinOp.xor IntKind.u64 b 14695981039346656037) := Lib.hid rfl
  go_enter Try.func12, Try.ntmps12
  go_wp2_with fail
  go_loop [5, 11] (fun h i => ∃ k : Nat, k ≤ s.size ∧ i = .int .i64 k ∧ h = .int .u64 (sumTo s b k)) (fun _ i => s.size - (intOf i).toNat)
  case atStart => exact ⟨0, Nat.zero_le _, rfl, by rw [H0.out]⟩
  case round =>
    obtain ⟨k, hk, rfl, rfl⟩ := hrel
    by_cases hlt : k < s.size
    · have HS := Lib.hid (sumTo_succ s b k hlt)
      generalize sumTo s b k = x at *
      go_wp2_with fail
      go_round
      case rel => exact ⟨k + 1, by omega, by go_num, by rw [HS.out]; rfl⟩
      case measure => simp [intOf]; omega
    · obtain rfl : k = s.size := by omega
      generalize sumTo s b s.size = x at *
      go_wp2_with fail
      go_ret
      exact ⟨ret_kind (by rw [HZ.out, sumStep, IntWalk.u64_in (s.size : Int) (by omega)]), rfl⟩

structure EntZ where
  txt : ByteArray
  sum : Int
def EntZ.val (e : EntZ) : Value := .agg #[.string e.txt, .int .u64 e.sum]
def wrongE (b : Int) (e : EntZ) : Int := if textE e.txt ≠ 0 then textE e.txt else if e.sum ≠ sumZ b e.txt then 15 else 0
def ErrPost (c : Int) (w : World) (e : Ending) (w' : World) : Prop := e = .returned (.int .i64 c) ∧ Below w.heap.size w w'

set_option maxHeartbeats 1000000 in
theorem wrong_any (b : Int) (x : EntZ) (w : World) (hs : x.txt.size ≤ 9223372036854775807) :
    Calls Try.prog 15 #[.int .u64 b, x.val] w (ErrPost (wrongE b x) w) := by
  have HR : Hid (wrongE b x = if textE x.txt ≠ 0 then textE x.txt else if x.sum ≠ sumZ b x.txt then 15 else 0) := Lib.hid rfl
  obtain ⟨s, n⟩ := x
  unfold EntZ.val
  simp only at *
  have HT := Lib.hid (fun w => text_any s w hs)
  have HS := Lib.hid (fun w => Sum_any b s w hs)
  have hb0 : Below w.heap.size w (w.alloc (.cells #[.string s, .int .u64 n] 34)) := by go_grown
  cases hr : (textE s != 0)
  · have hr0 : textE s = 0 := by simpa using hr
    rw [hr0] at HT
    have HR2 : Hid (wrongE b ⟨s, n⟩ = if n ≠ sumZ b s then 15 else 0) := Lib.hid (by rw [HR.out, if_neg (by simpa using hr0)])
    clear hr hr0 HR
    generalize sumZ b s = z at *
    go_enter Try.func15, Try.ntmps15
    go_wp2_with fail
    refine (HT.out _).mono ?_
    rintro e w1 ⟨rfl, hb1⟩
    have d0 : w1.cell? ⟨w.heap.size, 0, none⟩ = some (.string s) := (hb1.cell (p := ⟨w.heap.size, 0, none⟩) (by simp)).trans (by go_simp)
    have d1 : w1.cell? ⟨w.heap.size, 1, none⟩ = some (.int .u64 n) := (hb1.cell (p := ⟨w.heap.size, 1, none⟩) (by simp)).trans (by go_simp)
    have hbw := hb0.trans (hb1.mono (by simp))
    clear hb1
    go_wp2_with fail
    go_quiet ((go_at_call 12; exact qleft HS.out))
    have hbq := below_drewN hbw nq
    clear d0 d1
    generalize w1.drewN nq = W at *
    cases hz : (n != z)
    all_goals
      go_wp2_with fail
      go_ret
      exact ⟨by rw [HR2.out]; simp at hz; simp [hz], hbq⟩
  · generalize textE s = t at *
    go_enter Try.func15, Try.ntmps15
    go_wp2_with fail
    refine (HT.out _).mono ?_
    rintro e w1 ⟨rfl, hb1⟩
    go_wp2_with fail
    go_ret
    exact ⟨by rw [HR.out, if_pos (by simpa using hr)]; rfl, hb0.trans (hb1.mono (by simp))⟩
end Go.Proofs.Ytomjjbhdpaegkaa

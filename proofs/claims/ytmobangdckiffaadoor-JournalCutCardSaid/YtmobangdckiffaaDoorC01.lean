/- Rd, Own, Sub, JouText, JouSum, JouGood, JouApp, JouEq, Frame, JouBase, JcP. -/
import Derived.Below
import Derived.Laws.AppendOwn
import Derived.Laws.OwnMore
import Derived.OpenShut
import Derived.Deep.AppendLies
import Derived.Deep.QuietTactic
import Derived.WalkKit
import Derived.Test.YtmobangdckiffaaDoorRows
import Derived.ProofKit
import Derived.LoopTactic
import Derived.Outline
import Derived.Lib.Hide
import Derived.Handy
import Derived.WalkSpells
import Derived.WalkSmall
import Derived.WalkLawsBesides
import Derived.Laws.RangeAny
import Derived.RegionTactic
import Derived.BigQuiet
import Derived.Deep.RegionWith
import Derived.Laws.StructEq
import Derived.Carry
import Derived.Deep.Slices
import Derived.Deep.Strs
import Derived.ChangeMaps5
namespace Go.Proofs.YtmobangdckiffaaDoor
open Go.RowKit
/-- v is a slice of n elements of sz cells each, whose cells are xs. -/
def Rd (w : World) (sz n : Nat) (v : Value) (xs : List Value) : Prop :=
 xs.length = n * sz ∧ (((∃ a c, v = .slice a 0 c ∧ c ≤ maxLen) ∧ n = 0) ∨ ∃ g o c, v = .slice (some ⟨g, o, none⟩) n c ∧ n ≤ c ∧ c ≤ maxLen ∧ ∀ i, i < n * sz → w.cell? ⟨g, o + i, none⟩ = xs[i]?)
theorem Rd.below {w w' : World} {sz n : Nat} {v : Value} {xs : List Value} {B : Nat} (h : Rd w sz n v xs) (hb : Below B w w') (hB : w.heap.size ≤ B) : Rd w' sz n v xs := by
 refine ⟨h.1, ?_⟩
 rcases h.2 with h0 | ⟨g, o, c, hv, h1, h2, hc⟩
 ·exact .inl h0
 ·refine .inr ⟨g, o, c, hv, h1, h2, fun i hi => ?_⟩
  have hx := hc i hi
  rw [List.getElem?_eq_getElem (by rw [h.1]; exact hi)] at hx
  have hlt := World.block_lt_of_cell? w _ hx
  rw [hb.cell (p := ⟨g, o + i, none⟩) (Nat.lt_of_lt_of_le hlt hB)]
  exact hc i hi
/-- other blocks than the one that is written. -/
theorem Rd.grown {w w' : World} {sz n : Nat} {v : Value} {xs : List Value} {row : Option Nat} (h : Rd w sz n v xs) (hg : w.grownBy w' row) (hne : v.ownBlock = none ∨ v.ownBlock ≠ row) : Rd w' sz n v xs := by
 refine ⟨h.1, ?_⟩
 rcases h.2 with h0 | ⟨g, o, c, hv, h1, h2, hc⟩
 ·exact .inl h0
 ·refine .inr ⟨g, o, c, hv, h1, h2, fun i hi => ?_⟩
  have hx := hc i hi
  have hlen : i < xs.length := by rw [h.1]; exact hi
  rw [List.getElem?_eq_getElem hlen] at hx ⊢
  refine hg.cell hx ?_
  subst hv
  rcases hne with h | h
  ·cases h
  ·exact h
theorem Rd.of_own {w : World} {base : Nat} {e : TypeId} {sz n : Nat} {v : Value} {xs : List Value} (h : w.ownsRow base e sz v n xs) : Rd w sz n v xs := by
 refine ⟨h.1, ?_⟩
 rcases h.2 with ⟨h0, h1⟩ | ⟨g, cap, cur, rfl, _, hg, hn, hm, hs, ht⟩
 ·exact .inl ⟨⟨none, 0, h0, by unfold maxLen; omega⟩, h1⟩
 ·refine .inr ⟨g, 0, cap, rfl, hn, hm, fun i hi => ?_⟩
  have := h.cellAt i hi
  rw [Nat.zero_add]
  exact this
theorem Rd.nil (w : World) (sz : Nat) : Rd w sz 0 (.slice none 0 0) [] := ⟨by simp, .inl ⟨⟨none, 0, rfl, by unfold maxLen; omega⟩, rfl⟩⟩
end Go.Proofs.YtmobangdckiffaaDoor
namespace Go.Proofs.YtmobangdckiffaaDoor
open Go.RowKit
set_option linter.unusedVariables false
theorem below_drewN {B : Nat} {w W : World} (h : Below B w W) (n : Nat) : Below B w (W.drewN n) := ⟨h.os, h.tape, h.output, h.size, h.block⟩
/-- a call that leaves the world alone, in a region that only reads. -/
theorem qleft {P : Program} {f : FuncId} {args : Array Value} {w : World} {n : Nat} {v : Value} (h : ∀ W : World, Calls P f args W fun e w' => e = .returned v ∧ W = w') :
  Calls P f args (w.drewN n) fun e w'' => e = .returned v ∧ ∃ m, w'' = w.drewN m := (h _).mono fun _ _ ⟨he, hm⟩ => ⟨he, n, hm.symm⟩
end Go.Proofs.YtmobangdckiffaaDoor
namespace Go.Proofs.YtmobangdckiffaaDoor
open Go.RowKit
theorem add_off (g o n : Nat) : (⟨g, o, none⟩ : Addr).add n = ⟨g, o + n, none⟩ := by
 unfold Addr.add; split
 ·rename_i h; subst h; rfl
 ·rfl
/-- the address of s[k:] for elements of sz cells. -/
def subAddr (a : Option Addr) (c k sz : Nat) : Option Addr := if c = k then a else a.map (·.add (k * sz))
theorem Rd.take {w : World} {sz n : Nat} {a : Option Addr} {c : Nat} {xs : List Value} (h : Rd w sz n (.slice a n c) xs) (k : Nat) (hk : k ≤ n) : Rd w sz k (.slice a k c) (xs.take (k * sz)) := by
 have hle : k * sz ≤ n * sz := Nat.mul_le_mul_right sz hk
 refine ⟨by rw [List.length_take, h.1]; omega, ?_⟩
 rcases h.2 with ⟨⟨a', c', h0, hm⟩, hz⟩ | ⟨g, o, c', hv, h1, h2, hc⟩
 ·left
  simp only [Value.slice.injEq] at h0
  obtain ⟨rfl, _, rfl⟩ := h0
  obtain rfl : k = 0 := by omega
  exact ⟨⟨_, _, rfl, hm⟩, rfl⟩
 ·simp only [Value.slice.injEq, true_and] at hv
  obtain ⟨rfl, rfl⟩ := hv
  refine .inr ⟨g, o, c, rfl, by omega, h2, fun i hi => ?_⟩
  rw [hc i (by omega), List.getElem?_take, if_pos hi]
theorem Rd.drop {w : World} {sz n : Nat} {a : Option Addr} {c : Nat} {xs : List Value} (h : Rd w sz n (.slice a n c) xs) (k : Nat) (hk : k ≤ n) : Rd w sz (n - k) (.slice (subAddr a c k sz) (n - k) (c - k)) (xs.drop (k * sz)) := by
 have hle : k * sz ≤ n * sz := Nat.mul_le_mul_right sz hk
 have hms : (n - k) * sz = n * sz - k * sz := Nat.sub_mul n k sz
 refine ⟨by rw [List.length_drop, h.1, hms], ?_⟩
 rcases h.2 with ⟨⟨a', c', h0, hm⟩, hz⟩ | ⟨g, o, c', hv, h1, h2, hc⟩
 ·left
  simp only [Value.slice.injEq] at h0
  obtain ⟨rfl, _, rfl⟩ := h0
  obtain rfl : k = 0 := by omega
  subst hz
  exact ⟨⟨_, _, rfl, by omega⟩, rfl⟩
 ·simp only [Value.slice.injEq, true_and] at hv
  obtain ⟨rfl, rfl⟩ := hv
  unfold subAddr
  by_cases hck : c = k
  ·rw [if_pos hck]
   have hnk : n - k = 0 := by omega
   refine .inr ⟨g, o, c - k, rfl, by omega, by unfold maxLen at *; omega, fun i hi => ?_⟩
   rw [hnk] at hi
   omega
  ·rw [if_neg hck]
   refine .inr ⟨g, o + k * sz, c - k, by simp [add_off], by omega, by unfold maxLen at *; omega, fun i hi => ?_⟩
   rw [List.getElem?_drop, ← hc (k * sz + i) (by omega), Nat.add_assoc]
/-- 's[:k]', 's[k:]' run. -/
theorem run_take {P : Program} {t : TypeId} {s : Nat} (ht : P.underlying t = some (.slice (P.elem t))) (hs : ∀ w : World, (sizeOf (P.elem t)).run P w = .ok s w) (a : Option Addr) (n c k : Nat) (hk : k ≤ c) (w : World) :
  (Instr.slice t (.slice a n c) none (some (.int .i64 (k : Int))) none).run P w = .ok (.slice a k c) w := by
 rw [run_slice_h (P := P) (w := w) t a n c ht .i64 (k : Int) (by omega) (by omega)]
 rw [hs]
 simp only [Result.andThen, sliced, Int.toNat_natCast, Nat.zero_mul, Nat.sub_zero]
 split
 ·rfl
 ·cases a with
  | none => rfl
  | some x => simp [Addr.add]
theorem run_takeAt {P : Program} {t : TypeId} {s : Nat} (ht : P.underlying t = some (.slice (P.elem t))) (hs : ∀ w : World, (sizeOf (P.elem t)).run P w = .ok s w) (a : Option Addr) (n c k : Nat) (hk : k ≤ c) (w : World) :
  (Instr.sliceAt t (.slice a n c) none (some (.int .i64 (k : Int))) none).run P w = .ok (.slice a k c) w := by
 rw [run_sliceAt_slice (h := ht)]; exact run_take ht hs a n c k hk w
end Go.Proofs.YtmobangdckiffaaDoor
namespace Go.Proofs.YtmobangdckiffaaDoor
open Go.ChangeShapes Go.WideShapes Go.ChangeAt Go.RowKit
set_option linter.unusedVariables false
/-! ### the text: bytes from 32 to 126 -/
def badC (c : Int) : Bool := decide (c < 32) || decide (126 < c)
theorem badC_any (c : Int) (w : World) : Calls Tryd.prog 36 #[.int .i32 c] w fun e w' => e = .returned (.bool (badC c)) ∧ w = w' := by
 have H : Hid (badC c = (decide (c < 32) || decide (126 < c))) := Lib.hid rfl
 by_cases h : c < 32
 ·go_enter Tryd.func36, Tryd.ntmps36
  go_wp2
  go_ret
  exact ⟨by rw [H.out]; simp [h], rfl⟩
 ·go_enter Tryd.func36, Tryd.ntmps36
  go_wp2
  go_ret
  exact ⟨by rw [H.out]; simp; omega, rfl⟩
theorem callC (args : Array Value) (w : World) : (callFunc 36 args).run Tryd.prog w = .ok (.enter 36 args) w := by kernel_rfl
/-- the first byte of s, from position k on, that is out of range. -/
def badFrom (s : ByteArray) : Nat → Nat → Int
 | 0, _ => -1
 | f + 1, k => if h : k < s.size then (if badC ((s[k]'h).toNat : Int) = true then (k : Int) else badFrom s f (k + 1)) else -1
def badAt (s : ByteArray) : Int := badFrom s s.size 0
theorem badFrom_step (s : ByteArray) (k : Nat) (h : k < s.size) : badFrom s (s.size - k) k = if badC ((s[k]'h).toNat : Int) = true then (k : Int) else badFrom s (s.size - (k + 1)) (k + 1) := by
 have e : s.size - k = (s.size - (k + 1)) + 1 := by omega
 rw [e, badFrom, dif_pos h]
theorem badFrom_end (s : ByteArray) : badFrom s (s.size - s.size) s.size = -1 := by simp [badFrom]
set_option maxHeartbeats 1000000 in
theorem strIndexFuncI_any (s : ByteArray) (w : World) (hs : s.size ≤ 9223372036854775807) :
  Calls Tryd.prog 57 #[.string s, .func (.func 36) #[] #[], .bool true] w fun e w' => e = .returned (.int .i64 (badAt s)) ∧ Below w.heap.size w w' := by
 have HB : Hid (badAt s = badFrom s (s.size - 0) 0) := Lib.hid rfl
 have hcf := callC
 go_enter Tryd.func57, Tryd.ntmps57
 go_wp2_with fail
 go_loopw [7] (fun _ wr => ∃ k : Nat, k ≤ s.size ∧ wr = w.iter s k ∧ Hid (badAt s = badFrom s (s.size - k) k)) (fun _ wr => s.size - wr.iterPos w.heap.size)
 case atStart => exact ⟨0, Nat.zero_le _, rfl, HB⟩
 case round =>
  obtain ⟨k, hk, rfl, HK⟩ := hrel
  have hbel : ∀ p, Below w.heap.size w (w.iter s p) := fun p => (Below.refl _ w).alloc (Nat.le_refl _) _
  have HBel := Lib.hid hbel
  clear hbel
  by_cases hlt : k < s.size
  ·have HS := Lib.hid (badFrom_step s k hlt)
   cases hb : badC ((s[k]'hlt).toNat : Int)
   ·have hr : 32 ≤ (s[k]'hlt).toNat ∧ (s[k]'hlt).toNat ≤ 126 := by
     simp [badC] at hb; omega
    have hnx := fun ty => run_next_ascii (P := Tryd.prog) w s k ty hlt (by omega)
    have HC := Lib.hid (fun w => badC_any ((s[k]'hlt).toNat : Int) w)
    rw [hb] at HC
    rw [hb] at HS
    clear hb
    generalize (s[k]'hlt).toNat = b at *
    go_wp2_with fail
    refine (HC.out _).mono ?_
    rintro e w' ⟨rfl, rfl⟩
    go_wp2_with fail
    go_roundw
    case rel => exact ⟨k + 1, by omega, rfl, Lib.hid (by rw [HK.out, HS.out]; rfl)⟩
    case measure => simp; omega
   ·rw [hb] at HS
    by_cases h8 : (s[k]'hlt).toNat < 128
    ·have hnx := fun ty => run_next_ascii (P := Tryd.prog) w s k ty hlt h8
     have HC := Lib.hid (fun w => badC_any ((s[k]'hlt).toNat : Int) w)
     rw [hb] at HC
     clear hb
     generalize (s[k]'hlt).toNat = b at *
     go_wp2_with fail
     refine (HC.out _).mono ?_
     rintro e w' ⟨rfl, rfl⟩
     go_wp2_with fail
     go_ret
     exact ⟨by rw [HK.out, HS.out]; rfl, HBel.out _⟩
    ·have hnx := fun ty => run_next_any (P := Tryd.prog) w s k ty hlt
     have hd := decode_high s k hlt (by omega)
     have HC := Lib.hid (fun w => badC_any (((Utf8.decode s k).1 : Nat) : Int) w)
     have hbc : badC (((Utf8.decode s k).1 : Nat) : Int) = true := by simp [badC]; omega
     rw [hbc] at HC
     clear hb hbc hd h8
     generalize Utf8.decode s k = dd at *
     obtain ⟨d1, d2⟩ := dd
     simp only at *
     go_wp2_with fail
     refine (HC.out _).mono ?_
     rintro e w' ⟨rfl, rfl⟩
     go_wp2_with fail
     go_ret
     exact ⟨by rw [HK.out, HS.out]; rfl, HBel.out _⟩
  ·obtain rfl : k = s.size := by omega
   have hnx := fun ty => run_next_end (P := Tryd.prog) w s s.size ty (by omega)
   go_wp2_with fail
   go_ret
   exact ⟨by rw [HK.out, badFrom_end]; rfl, HBel.out _⟩
theorem strIndexFunc_any (s : ByteArray) (w : World) (hs : s.size ≤ 9223372036854775807) :
  Calls Tryd.prog 35 #[.string s, .func (.func 36) #[] #[]] w fun e w' => e = .returned (.int .i64 (badAt s)) ∧ Below w.heap.size w w' := by
 go_enter Tryd.func35, Tryd.ntmps35
 go_wp2_with fail
 refine (strIndexFuncI_any s w hs).mono ?_
 rintro e w1 ⟨rfl, hb⟩
 go_wp2_with fail
 go_ret
 exact ⟨rfl, hb⟩
def textE (s : ByteArray) : Int := if 200 < s.size then 2 else if 0 ≤ badAt s then 3 else 0
theorem text_any (s : ByteArray) (w : World) (hs : s.size ≤ 9223372036854775807) :
  Calls Tryd.prog 21 #[.string s] w fun e w' => e = .returned (.int .i64 (textE s)) ∧ Below w.heap.size w w' := by
 have H : Hid (textE s = if 200 < s.size then 2 else if 0 ≤ badAt s then 3 else 0) := Lib.hid rfl
 by_cases h : 200 < s.size
 ·go_enter Tryd.func21, Tryd.ntmps21
  go_wp2_with fail
  go_ret
  exact ⟨by rw [H.out, if_pos h]; rfl, Below.refl _ _⟩
 ·have HI := Lib.hid (strIndexFunc_any s w hs)
  generalize badAt s = b at *
  by_cases hb : 0 ≤ b
  all_goals
   go_enter Tryd.func21, Tryd.ntmps21
   go_wp2_with fail
   refine HI.out.mono ?_
   rintro e w1 ⟨rfl, hb1⟩
   go_wp2_with fail
   go_ret
   exact ⟨by rw [H.out, if_neg (by omega)]; first | (rw [if_pos (by omega)]; rfl) | (rw [if_neg (by omega)]; rfl), hb1⟩
end Go.Proofs.YtmobangdckiffaaDoor
namespace Go.Proofs.YtmobangdckiffaaDoor
open Go.ChangeShapes Go.WideShapes Go.ChangeAt Go.RowKit
set_option linter.unusedVariables false
theorem ret_kind {k : IntKind} {a b : Int} (h : a = b) : Ending.returned (.int k a) = .returned (.int k b) := by rw [h]
def sumStep (x c : Int) : Int := IntKind.u64.wrap (bits BinOp.xor IntKind.u64 x (IntKind.u64.wrap c) * 1099511628211)
def sumTo (s : ByteArray) (b : Int) : Nat → Int
 | 0 => bits BinOp.xor IntKind.u64 b 14695981039346656037
 | k + 1 => if h : k < s.size then sumStep (sumTo s b k) ((s[k]'h).toNat : Int) else sumTo s b k
def sumZ (b : Int) (s : ByteArray) : Int := sumStep (sumTo s b s.size) (s.size : Int)
theorem sumTo_succ (s : ByteArray) (b : Int) (k : Nat) (h : k < s.size) : sumTo s b (k + 1) = sumStep (sumTo s b k) ((s[k]'h).toNat : Int) := by
 rw [sumTo, dif_pos h]
theorem Sum_any (b : Int) (s : ByteArray) (w : World) (hs : s.size ≤ 9223372036854775807) :
  Calls Tryd.prog 23 #[.int .u64 b, .string s] w fun e w' => e = .returned (.int .u64 (sumZ b s)) ∧ w = w' := by
 have HZ : Hid (sumZ b s = sumStep (sumTo s b s.size) (s.size : Int)) := Lib.hid rfl
 have H0 : Hid (sumTo s b 0 = bits BinOp.xor IntKind.u64 b 14695981039346656037) := Lib.hid rfl
 go_enter Tryd.func23, Tryd.ntmps23
 go_wp2_with fail
 go_loop [5, 11] (fun h i => ∃ k : Nat, k ≤ s.size ∧ i = .int .i64 k ∧ h = .int .u64 (sumTo s b k)) (fun _ i => s.size - (intOf i).toNat)
 case atStart => exact ⟨0, Nat.zero_le _, rfl, by rw [H0.out]⟩
 case round =>
  obtain ⟨k, hk, rfl, rfl⟩ := hrel
  by_cases hlt : k < s.size
  ·have HS := Lib.hid (sumTo_succ s b k hlt)
   generalize sumTo s b k = x at *
   go_wp2_with fail
   go_round
   case rel => exact ⟨k + 1, by omega, by go_num, by rw [HS.out]; rfl⟩
   case measure => simp [intOf]; omega
  ·obtain rfl : k = s.size := by omega
   generalize sumTo s b s.size = x at *
   go_wp2_with fail
   go_ret
   exact ⟨ret_kind (by rw [HZ.out, sumStep, IntWalk.u64_in (s.size : Int) (by omega)]), rfl⟩
structure EntZ where
 txt : ByteArray
 sum : Int
def EntZ.val (e : EntZ) : Value := .agg #[.string e.txt, .int .u64 e.sum]
def wrongE (b : Int) (e : EntZ) : Int := if textE e.txt ≠ 0 then textE e.txt else if e.sum ≠ sumZ b e.txt then 15 else 0
def ErrPost (c : Int) (w : World) (e : Ending) (w' : World) : Prop := e = .returned (.int .i64 c) ∧ Below w.heap.size w w'
set_option maxHeartbeats 1000000 in
theorem wrong_any (b : Int) (x : EntZ) (w : World) (hs : x.txt.size ≤ 9223372036854775807) :
  Calls Tryd.prog 18 #[.int .u64 b, x.val] w (ErrPost (wrongE b x) w) := by
 have HR : Hid (wrongE b x = if textE x.txt ≠ 0 then textE x.txt else if x.sum ≠ sumZ b x.txt then 15 else 0) := Lib.hid rfl
 obtain ⟨s, n⟩ := x
 unfold EntZ.val
 simp only at *
 have HT := Lib.hid (fun w => text_any s w hs)
 have HS := Lib.hid (fun w => Sum_any b s w hs)
 have hb0 : Below w.heap.size w (w.alloc (.cells #[.string s, .int .u64 n] 38)) := by go_grown
 cases hr : (textE s != 0)
 ·have hr0 : textE s = 0 := by simpa using hr
  rw [hr0] at HT
  have HR2 : Hid (wrongE b ⟨s, n⟩ = if n ≠ sumZ b s then 15 else 0) := Lib.hid (by rw [HR.out, if_neg (by simpa using hr0)])
  clear hr hr0 HR
  generalize sumZ b s = z at *
  go_enter Tryd.func18, Tryd.ntmps18
  go_wp2_with fail
  refine (HT.out _).mono ?_
  rintro e w1 ⟨rfl, hb1⟩
  have d0 : w1.cell? ⟨w.heap.size, 0, none⟩ = some (.string s) := (hb1.cell (p := ⟨w.heap.size, 0, none⟩) (by simp)).trans (by go_simp)
  have d1 : w1.cell? ⟨w.heap.size, 1, none⟩ = some (.int .u64 n) := (hb1.cell (p := ⟨w.heap.size, 1, none⟩) (by simp)).trans (by go_simp)
  have hbw := hb0.trans (hb1.mono (by simp))
  clear hb1
  go_wp2_with fail
  go_quiet ((go_at_call 23; exact qleft HS.out))
  have hbq := below_drewN hbw nq
  clear d0 d1
  generalize w1.drewN nq = W at *
  cases hz : (n != z)
  all_goals
   go_wp2_with fail
   go_ret
   exact ⟨by rw [HR2.out]; simp at hz; simp [hz], hbq⟩
 ·generalize textE s = t at *
  go_enter Tryd.func18, Tryd.ntmps18
  go_wp2_with fail
  refine (HT.out _).mono ?_
  rintro e w1 ⟨rfl, hb1⟩
  go_wp2_with fail
  go_ret
  exact ⟨by rw [HR.out, if_pos (by simpa using hr)]; rfl, hb0.trans (hb1.mono (by simp))⟩
end Go.Proofs.YtmobangdckiffaaDoor
namespace Go.Proofs.YtmobangdckiffaaDoor
open Go.ChangeShapes Go.WideShapes Go.ChangeAt Go.RowKit
set_option linter.unusedVariables false
def flatJ (es : List EntZ) : List Value := es.flatMap fun e => [.string e.txt, .int .u64 e.sum]
theorem flatJ_cons (e : EntZ) (t : List EntZ) : flatJ (e :: t) = .string e.txt :: .int .u64 e.sum :: flatJ t := rfl
theorem flatJ_len (es : List EntZ) : (flatJ es).length = es.length * 2 := by
 induction es with
 | nil => rfl
 | cons e t ih => rw [flatJ_cons]; simp [ih]; omega
theorem flatJ_append (a b : List EntZ) : flatJ (a ++ b) = flatJ a ++ flatJ b := by simp [flatJ]
theorem flatJ_at (es : List EntZ) (k : Nat) (h : k < es.length) : (flatJ es)[k * 2]? = some (.string es[k].txt) ∧ (flatJ es)[k * 2 + 1]? = some (.int .u64 es[k].sum) := by
 induction es generalizing k with
 | nil => simp at h
 | cons g t ih =>
  cases k with
  | zero => exact ⟨rfl, rfl⟩
  | succ k =>
   have := ih k (by simpa using h)
   have e : (k + 1) * 2 = k * 2 + 2 := by omega
   rw [e]
   exact this
theorem flatJ_take (es : List EntZ) (k : Nat) : (flatJ es).take (k * 2) = flatJ (es.take k) := by
 induction es generalizing k with
 | nil => simp [flatJ]
 | cons g t ih =>
  cases k with
  | zero => simp [flatJ]
  | succ k =>
   have e : (k + 1) * 2 = k * 2 + 1 + 1 := by omega
   rw [e, flatJ_cons, List.take_succ_cons, List.take_succ_cons, ih, List.take_succ_cons, flatJ_cons]
/-- a journal that is read. -/
def RdJ (w : World) (v : Value) (es : List EntZ) : Prop := Rd w 2 es.length v (flatJ es)
theorem RdJ.below {w w' : World} {v : Value} {es : List EntZ} {B : Nat} (h : RdJ w v es) (hb : Below B w w') (hB : w.heap.size ≤ B) : RdJ w' v es := Rd.below h hb hB
theorem RdJ.take {w : World} {a : Option Addr} {c : Nat} {es : List EntZ} (h : RdJ w (.slice a es.length c) es) (k : Nat) (hk : k ≤ es.length) : RdJ w (.slice a k c) (es.take k) := by
 have := Rd.take h k hk
 rw [flatJ_take] at this
 unfold RdJ
 rw [List.length_take, Nat.min_eq_left hk]
 exact this
theorem RdJ.form {w : World} {v : Value} {es : List EntZ} (h : RdJ w v es) : ∃ a c, v = .slice a es.length c ∧ es.length ≤ c ∧ c ≤ maxLen ∧
  ∀ k (hk : k < es.length), ∃ g o, a = some ⟨g, o, none⟩ ∧ g < w.heap.size ∧ w.cell? ⟨g, o + k * 2, none⟩ = some (.string es[k].txt) ∧ w.cell? ⟨g, o + k * 2 + 1, none⟩ = some (.int .u64 es[k].sum) := by
 rcases h.2 with ⟨⟨a0, c0, h, hm⟩, hz⟩ | ⟨g, o, c, h', h1, h2, hc⟩
 ·exact ⟨a0, c0, by rw [h, hz], by omega, hm, fun k hk => by omega⟩
 ·refine ⟨_, _, h', h1, h2, fun k hk => ⟨g, o, rfl, ?_⟩⟩
  obtain ⟨q0, q1⟩ := flatJ_at es k hk
  have e0 := (hc (k * 2) (by omega)).trans q0
  have e1 := (hc (k * 2 + 1) (by omega)).trans q1
  exact ⟨World.block_lt_of_cell? w _ e0, e0, e1⟩
def lastJ (es : List EntZ) : Int := match es.getLast? with | none => 0 | some e => e.sum
theorem last_any (v : Value) (es : List EntZ) (w : World) (h : RdJ w v es) :
  Calls Tryd.prog 19 #[v] w fun e w' => e = .returned (.int .u64 (lastJ es)) ∧ w = w' := by
 obtain ⟨a, c, rfl, h1, h2, hc⟩ := h.form
 unfold maxLen at h2
 cases es with
 | nil =>
  clear h hc
  simp only [List.length_nil]
  go_enter Tryd.func19, Tryd.ntmps19
  go_wp2_with fail
  go_ret
  exact ⟨rfl, rfl⟩
 | cons e0 t =>
  obtain ⟨g, o, rfl, hg, c0, c1⟩ := hc t.length (by simp)
  have HL : Hid (lastJ (e0 :: t) = ((e0 :: t)[t.length]'(by simp)).sum) := Lib.hid (by
   unfold lastJ
   rw [List.getLast?_eq_getElem?]
   simp)
  have hlen : (e0 :: t).length = t.length + 1 := rfl
  rw [hlen]
  have hq : ((((t.length + 1 : Nat)) : Int) == 0) = false := by simp; omega
  have h3 : t.length + 1 ≤ 9223372036854775807 := by simp at h1; omega
  generalize ((e0 :: t)[t.length]'(by simp)).sum = z at *
  clear h hc c0 hlen h1
  go_enter Tryd.func19, Tryd.ntmps19
  go_wp2_with fail
  go_ret
  exact ⟨by rw [HL.out]; rfl, rfl⟩
/-- a right journal. -/
def OkJ (es : List EntZ) : Prop := (∀ e ∈ es, e.txt.size ≤ 200) ∧ ∀ k (h : k < es.length), wrongE (lastJ (es.take k)) es[k] = 0
theorem elemJ : Tryd.prog.underlying 24 = some (.slice (Tryd.prog.elem 24)) := by kernel_rfl
theorem sizeJ (w : World) : (sizeOf (Tryd.prog.elem 24)).run Tryd.prog w = .ok 2 w := by kernel_rfl
set_option maxHeartbeats 2000000 in
theorem Good_ok (v : Value) (es : List EntZ) (w : World) (h : RdJ w v es) (hok : OkJ es) (hlen : es.length ≤ 1000) :
  Calls Tryd.prog 24 #[v] w (ErrPost (es.length : Int) w) := by
 obtain ⟨a, c, rfl, h1, h2, hc⟩ := h.form
 unfold maxLen at h2
 have HJ := Lib.hid h
 have HC := Lib.hid hc
 have HK := Lib.hid hok
 clear h hc hok
 go_enter Tryd.func24, Tryd.ntmps24
 go_wp2_with fail
 go_loopw [7] (fun i wr => ∃ k : Nat, k ≤ es.length ∧ i = .int .i64 k ∧ Below w.heap.size w wr) (fun i _ => es.length - (intOf i).toNat)
 case atStart => exact ⟨0, Nat.zero_le _, rfl, Below.refl _ _⟩
 case round =>
  obtain ⟨k, hk, rfl, hbl⟩ := hrel
  by_cases hlt : k < es.length
  ·obtain ⟨g, o, rfl, hg, c0, c1⟩ := HC.out k hlt
   have d0 : wr.cell? ⟨g, o + k * 2, none⟩ = some (.string es[k].txt) := (hbl.cell (p := ⟨g, o + k * 2, none⟩) hg).trans c0
   have d1 : wr.cell? ⟨g, o + k * 2 + 1, none⟩ = some (.int .u64 es[k].sum) := (hbl.cell (p := ⟨g, o + k * 2 + 1, none⟩) hg).trans c1
   have hw := HK.out.2 k hlt
   have hsz := HK.out.1 es[k] (List.getElem_mem hlt)
   have hszr := hbl.size
   have hgr : g < wr.heap.size := by omega
   clear c0 c1
   have HLt := Lib.hid (fun (wx : World) (hx : Below w.heap.size w wx) => last_any _ (es.take k) wx (RdJ.below (RdJ.take HJ.out k hk) hx (Nat.le_refl _)))
   generalize lastJ (es.take k) = lz at *
   generalize hek : es[k] = ek at *
   clear hek
   have HWr := Lib.hid (fun wx => wrong_any lz ek wx (by omega))
   rw [hw] at HWr
   obtain ⟨s, n⟩ := ek
   unfold EntZ.val at HWr
   simp only at *
   have hba : Below w.heap.size w (wr.alloc (.cells #[.string s, .int .u64 n] 38)) := by go_grown
   have e0 : (wr.alloc (.cells #[.string s, .int .u64 n] 38)).cell? ⟨wr.heap.size, 0, none⟩ = some (.string s) := by go_simp
   have e1 : (wr.alloc (.cells #[.string s, .int .u64 n] 38)).cell? ⟨wr.heap.size, 1, none⟩ = some (.int .u64 n) := by go_simp
   have hk1 : ((k : Int) == 1000) = false := by simp; omega
   have hsl := fun w => run_takeAt elemJ sizeJ (some ⟨g, o, none⟩) es.length c k (by omega) w
   go_wp2_with fail
   generalize (wr.alloc (.cells #[.string s, .int .u64 n] 38)) = W at *
   clear d0 d1 hw
   have hbd : Below w.heap.size w W.drew := hba.drew
   go_region_with (first | (go_at_call 19; refine (HLt.out _ hbd).mono ?_; rintro e w' ⟨rfl, rfl⟩) | (go_at_call 18; refine (HWr.out _).mono ?_; rintro e w9 ⟨rfl, hb9⟩))
   all_goals
    have hb2 : Below w.heap.size w w9 := hbd.trans (hb9.mono (by have := hbd.size; simpa using this))
    clear hb9 e0 e1 hsl
    go_wp2_with fail
    go_roundw
    case rel => exact ⟨k + 1, by omega, by go_num, hb2⟩
    case measure => simp [intOf]; omega
  ·obtain rfl : k = es.length := by omega
   go_wp2_with fail
   go_ret
   exact ⟨rfl, hbl⟩
end Go.Proofs.YtmobangdckiffaaDoor
namespace Go.Proofs.YtmobangdckiffaaDoor
open Go.ChangeShapes Go.WideShapes Go.ChangeAt Go.RowKit
set_option linter.unusedVariables false
theorem Check_ok (v : Value) (es : List EntZ) (w : World) (h : RdJ w v es) (hok : OkJ es) (hlen : es.length ≤ 1000) :
  Calls Tryd.prog 11 #[v] w (ErrPost 0 w) := by
 have HG := Lib.hid (Good_ok v es w h hok hlen)
 obtain ⟨a, c, rfl, h1, h2, hc⟩ := h.form
 unfold maxLen at h2
 clear h hok hc
 go_enter Tryd.func11, Tryd.ntmps11
 go_wp2_with fail
 refine HG.out.mono ?_
 rintro e w1 ⟨rfl, hb⟩
 go_wp2_with fail
 go_ret
 exact ⟨rfl, hb⟩
theorem infoJ : (Tryd.prog.info? 38).map (fun i => (i.zero, i.size, i.bytes)) = some (some (.agg #[.string ByteArray.empty, .int .u64 0]), 2, 24) := by kernel_rfl
theorem flatJ_one (es : List EntZ) : ∀ u ∈ flatJ es, u.oneCell' = true := by
 intro u hu
 simp only [flatJ, List.mem_flatMap] at hu
 obtain ⟨e, _, hq⟩ := hu
 simp at hq
 rcases hq with rfl | rfl <;> rfl
def OwnJ (es : List EntZ) (w : World) (v : Value) (w' : World) : Prop := w'.ownsRow w.heap.size 38 2 v es.length (flatJ es) ∧ Below w.heap.size w w'
theorem CloneJ_any (v : Value) (es : List EntZ) (w : World) (h : RdJ w v es) (hl : es.length ≤ 1000000) :
  Calls Tryd.prog 22 #[v] w fun e w' => ∃ v', e = .returned v' ∧ OwnJ es w v' w' := by
 obtain ⟨i0, hi, hz0, hz1, hz2⟩ := info_parts infoJ
 have hq := fun (w : World) (a : Option Addr) (n c : Nat) => Lib.run_eql_slice_nil (P := Tryd.prog) w 24 38 a n c 0 0 Tryd.underlying24
 have hform : (∃ c, v = .slice none 0 c ∧ es = []) ∨ ∃ (ad : Addr) (c : Nat), v = .slice (some ad) es.length c ∧ es.length ≤ c ∧ c ≤ maxLen ∧ ∀ j u, (flatJ es)[j]? = some u → (w.alloc (.cells #[] 38)).cell? (ad.add j) = some u := by
  rcases h.2 with ⟨⟨a, c, rfl, hm⟩, hz⟩ | ⟨g, o, c, rfl, h1, h2, hc⟩
  ·obtain rfl : es = [] := List.length_eq_zero_iff.1 hz
   cases a with
   | none => exact .inl ⟨c, rfl, rfl⟩
   | some ad => exact .inr ⟨ad, c, rfl, by simp, hm, fun j u hu => by simp [flatJ] at hu⟩
  ·refine .inr ⟨⟨g, o, none⟩, c, rfl, h1, h2, fun j u hu => ?_⟩
   have hj : j < es.length * 2 := by
    have := (List.getElem?_eq_some_iff.1 hu).1
    rwa [flatJ_len] at this
   have hcell := hc j hj
   rw [hu] at hcell
   have hlt := World.block_lt_of_cell? w _ hcell
   rw [add_off, World.cell?_of_block (w := w) (a := ⟨g, o + j, none⟩) (Below.heap_alloc w _ g hlt)]
   exact hcell
 rcases hform with ⟨c, rfl, rfl⟩ | ⟨ad, c, rfl, h1, h2, hnews⟩
 ·clear h hl
  go_enter Tryd.func22, Tryd.ntmps22
  go_wp2
  go_ret
  exact ⟨_, rfl, World.ownsRow_nil _ _ _ _, Below.refl _ _⟩
 ·have hown0 : (w.alloc (.cells #[] 38)).ownsRow w.heap.size 38 2 (.slice (some ⟨w.heap.size, 0, none⟩) 0 0) 0 [] := World.ownsRow_made w #[] 0 (Nat.le_refl _) (by unfold maxLen; omega) rfl
  have Hown0 := Lib.hid hown0
  have Hnews := Lib.hid hnews
  have Hil := Lib.hid (flatJ_len es)
  have S1 := Lib.hid (flatJ_one es)
  clear hown0 hnews h
  go_enter Tryd.func22, Tryd.ntmps22
  go_wp2_with (at_builtin; refine wpList_append_own _ rfl _ _ 24 rfl w.heap.size 38 i0 (.agg #[.string ByteArray.empty, .int .u64 0]) 2 24 Tryd.underlying24 hi hz0 hz1 hz2 rfl (by decide) _ 0 [] rfl Hown0.out ad es.length c (flatJ es) rfl Hil.out Hnews.out S1.out ?c3 ?c4 ?c5 ?_)
  case c3 => unfold maxLen; omega
  case c4 => omega
  case c5 => simp
  intro v' w2 hown' hgrow _
  try simp only [Nat.zero_add, List.nil_append] at hown'
  have hb : Below w.heap.size w w2 := Below.grown ((Below.refl _ w).alloc (Nat.le_refl _) _) hgrow (by simp) (fun q hq => by simp [Value.ownBlock] at hq; omega)
  have HO := Lib.hid hown'
  clear hown' hgrow
  go_wp2
  go_ret
  exact ⟨v', rfl, HO.out, hb⟩
def appJ (es : List EntZ) (s : ByteArray) : List EntZ × Int := if textE s ≠ 0 then ([], textE s) else (es ++ [⟨s, sumZ (lastJ es) s⟩], 0)
def AppPost (r : List EntZ × Int) (w : World) (e : Ending) (w' : World) : Prop := ∃ v', e = .returned (.tuple #[v', .int .i64 r.2]) ∧ OwnJ r.1 w v' w'
set_option maxHeartbeats 1000000 in
theorem Append_ok (v : Value) (es : List EntZ) (s : ByteArray) (w : World) (h : RdJ w v es) (hok : OkJ es) (hlen : es.length ≤ 100) (hs : s.size ≤ 9223372036854775807) :
  Calls Tryd.prog 10 #[v, .string s] w (AppPost (appJ es s) w) := by
 obtain ⟨i0, hi, hz0, hz1, hz2⟩ := info_parts infoJ
 have HC := Lib.hid (Check_ok v es w h hok (by omega))
 have HT := Lib.hid (fun w => text_any s w hs)
 have HR : Hid (appJ es s = if textE s ≠ 0 then ([], textE s) else (es ++ [⟨s, sumZ (lastJ es) s⟩], 0)) := Lib.hid rfl
 have HJ := Lib.hid h
 obtain ⟨a, c, rfl, h1, h2, hc⟩ := h.form
 unfold maxLen at h2
 clear h hok hc
 go_enter Tryd.func10, Tryd.ntmps10
 go_wp2_with fail
 refine HC.out.mono ?_
 rintro e w1 ⟨rfl, hb1⟩
 go_wp2_with fail
 refine (HT.out _).mono ?_
 rintro e w2 ⟨rfl, hb2⟩
 have hb02 := hb1.trans (hb2.mono hb1.size)
 have HJ2 := Lib.hid (HJ.out.below hb02 (Nat.le_refl _))
 clear hb1 hb2
 cases hr : (textE s != 0)
 ·have hr0 : textE s = 0 := by simpa using hr
  have HR2 : Hid (appJ es s = (es ++ [⟨s, sumZ (lastJ es) s⟩], 0)) := Lib.hid (by rw [HR.out, if_neg (by simpa using hr0)])
  rw [hr0]
  have hnf : (((es.length : Int)) == 1000) = false := by simp; omega
  clear hr hr0 HR HT HC
  go_wp2_with fail
  refine (CloneJ_any _ es _ HJ2.out (by omega)).mono ?_
  rintro e w3 ⟨v3, rfl, ho3, hb3⟩
  have HJ3 := Lib.hid (HJ2.out.below hb3 (Nat.le_refl _))
  have HO3 := Lib.hid ho3
  have hb03 := hb02.trans (hb3.mono hb02.size)
  have hs3 := hb3.size
  have hs2 := hb02.size
  clear ho3 hb3
  go_wp2_with fail
  refine (last_any _ es _ HJ3.out).mono ?_
  rintro e w' ⟨rfl, rfl⟩
  go_wp2_with fail
  refine (Sum_any (lastJ es) s _ hs).mono ?_
  rintro e w' ⟨rfl, rfl⟩
  generalize sumZ (lastJ es) s = z at *
  have HOa := Lib.hid (HO3.out.alloc (.cells #[.string s, .int .u64 z] 38))
  have S1 : Hid (∀ u ∈ [Value.string s, .int .u64 z], u.oneCell' = true) := Lib.hid (fun u hu => by simp at hu; rcases hu with rfl | rfl <;> rfl)
  have S2 : Hid (es.length + 1 ≤ maxLen) := Lib.hid (by unfold maxLen; omega)
  have S3 : Hid ((es.length + 1) * 24 ≤ 140737488355328) := Lib.hid (by omega)
  have S4 : Hid (w2.heap.size ≤ (w3.alloc (.cells #[.string s, .int .u64 z] 38)).heap.size) := Lib.hid (by simp; omega)
  have S5 : Hid ((w3.alloc (.cells #[.string s, .int .u64 z] 38)).heap.size = w3.heap.size + 1) := Lib.hid (by simp)
  have S0 : Hid (0 < 1) := Lib.hid (by omega)
  go_wp2_with (at_builtin; refine wpList_append_lies _ rfl _ _ 24 rfl w2.heap.size 38 i0 (.agg #[.string ByteArray.empty, .int .u64 0]) 2 24 Tryd.underlying24 hi hz0 hz1 hz2 rfl (by decide) _ es.length (flatJ es) rfl HOa.out ⟨w3.heap.size, 0, none⟩ 1 1 [.string s, .int .u64 z] rfl rfl (cell_two_new _ _ _ _) S1.out S0.out S2.out S3.out S4.out (w3.heap.size + 1) S5.out ?_)
  intro g4 c4 w4 hown4 hgrow4 hat4 hlt4
  have hb4 : Below w.heap.size w w4 := Below.grown (hb03.alloc (by omega) _) hgrow4 (by simp; omega) (fun q hq => by have := (HOa.out.lt q hq).1; omega)
  have HO4 := Lib.hid hown4
  clear hown4 hgrow4 hat4 hlt4 HOa
  go_wp2_with fail
  go_ret2
  exact ⟨_, by rw [HR2.out]; rfl, by rw [HR2.out]; refine ⟨?_, hb4⟩; simp only [flatJ_append, List.length_append]; have := HO4.out; exact ⟨by simpa [flatJ] using this.1, by
   rcases this.2 with ⟨q, _⟩ | ⟨g', cap', cur', q1, q2, q3⟩
   ·cases q
   ·exact .inr ⟨g', cap', cur', q1, by omega, q3⟩⟩⟩
 ·have hr' : ¬ textE s = 0 := by simpa using hr
  have HR2 : Hid (appJ es s = ([], textE s)) := Lib.hid (by rw [HR.out, if_pos hr'])
  generalize textE s = t at *
  clear hr'
  go_wp2_with fail
  go_ret2
  exact ⟨_, by rw [HR2.out]; rfl, by rw [HR2.out]; exact ⟨World.ownsRow_nil _ _ _ _, hb02⟩⟩
end Go.Proofs.YtmobangdckiffaaDoor
namespace Go.Proofs.YtmobangdckiffaaDoor
open Go.ChangeShapes Go.WideShapes Go.ChangeAt Go.RowKit
set_option linter.unusedVariables false
def eqE (x y : EntZ) : Bool := decide (x.txt.toList = y.txt.toList) && decide (x.sum = y.sum)
theorem neqJ (s t : ByteArray) (n m : Int) (w : World) : (binOp .neq 38 (.agg #[.string s, .int .u64 n]) (.agg #[.string t, .int .u64 m])).run Tryd.prog w = .ok (.bool (!eqE ⟨s, n⟩ ⟨t, m⟩)) w := by
  go_simp
  unfold eqE
  by_cases h1 : s.toList = t.toList <;> by_cases h2 : n = m <;> simp [h1, h2]
def eqJ : List EntZ → List EntZ → Bool
  | [], [] => true
  | x :: a, y :: b => eqE x y && eqJ a b
  | _, _ => false
theorem eqJ_step (a b : List EntZ) (k : Nat) (ha : k < a.length) (hb : k < b.length) : eqJ (a.drop k) (b.drop k) = (eqE a[k] b[k] && eqJ (a.drop (k + 1)) (b.drop (k + 1))) := by
  rw [List.drop_eq_getElem_cons ha, List.drop_eq_getElem_cons hb, eqJ]
theorem eqJ_ne : ∀ (a b : List EntZ), a.length ≠ b.length → eqJ a b = false
  | [], [], h => absurd rfl h
  | x :: a, [], _ => rfl
  | [], y :: b, _ => rfl
  | x :: a, y :: b, h => by rw [eqJ, eqJ_ne a b (by simpa using h), Bool.and_false]
set_option maxHeartbeats 1000000 in
theorem Equal_any (va vb : Value) (a b : List EntZ) (w : World) (h1 : RdJ w va a) (h2 : RdJ w vb b) :
    Calls Tryd.prog 20 #[va, vb] w fun e w' => e = .returned (.bool (eqJ a b)) ∧ Below w.heap.size w w' := by
  obtain ⟨aa, ac, rfl, a1, a2, ha⟩ := h1.form
  obtain ⟨ba, bc, rfl, b1, b2, hb⟩ := h2.form
  unfold maxLen at a2 b2
  have HA := Lib.hid ha
  have HB := Lib.hid hb
  clear ha hb h1 h2
  by_cases hl : a.length = b.length
  · have HE : Hid (eqJ a b = eqJ (a.drop 0) (b.drop 0)) := Lib.hid rfl
    have HL := Lib.hid hl
    rw [← hl]
    rw [← hl] at b1
    clear hl
    go_enter Tryd.func20, Tryd.ntmps20
    have hne : (((a.length : Int)) != (a.length : Int)) = false := by simp
    go_wp2_with fail
    go_loopw [13] (fun i wr => ∃ k : Nat, k ≤ a.length ∧ i = .int .i64 k ∧ Hid (eqJ a b = eqJ (a.drop k) (b.drop k)) ∧ Below w.heap.size w wr) (fun i _ => a.length - (intOf i).toNat)
    case atStart => exact ⟨0, Nat.zero_le _, rfl, HE, Below.refl _ _⟩
    case round =>
      obtain ⟨k, hk, rfl, HK, hbl⟩ := hrel
      by_cases hlt : k < a.length
      · have hltb : k < b.length := by rw [← HL.out]; exact hlt
        obtain ⟨g1, o1, rfl, hg1, c0, c1⟩ := HA.out k hlt
        obtain ⟨g2, o2, rfl, hg2, e0, e1⟩ := HB.out k hltb
        have d0 : wr.cell? ⟨g1, o1 + k * 2, none⟩ = some (.string a[k].txt) := (hbl.cell (p := ⟨g1, o1 + k * 2, none⟩) hg1).trans c0
        have d1 : wr.cell? ⟨g1, o1 + k * 2 + 1, none⟩ = some (.int .u64 a[k].sum) := (hbl.cell (p := ⟨g1, o1 + k * 2 + 1, none⟩) hg1).trans c1
        have f0 : wr.cell? ⟨g2, o2 + k * 2, none⟩ = some (.string b[k].txt) := (hbl.cell (p := ⟨g2, o2 + k * 2, none⟩) hg2).trans e0
        have f1 : wr.cell? ⟨g2, o2 + k * 2 + 1, none⟩ = some (.int .u64 b[k].sum) := (hbl.cell (p := ⟨g2, o2 + k * 2 + 1, none⟩) hg2).trans e1
        have HS := Lib.hid (eqJ_step a b k hlt hltb)
        clear c0 c1 e0 e1
        generalize a[k] = x at *
        generalize b[k] = y at *
        have hq0 : 0 ≤ (k : Int) := by omega
        have hq1 : (k : Int) < (a.length : Int) := by omega
        obtain ⟨s, n⟩ := x
        obtain ⟨t, m⟩ := y
        simp only at d0 d1 f0 f1
        have hn := fun w => neqJ s t n m w
        cases hxy : eqE ⟨s, n⟩ ⟨t, m⟩
        all_goals
          rw [hxy] at hn HS
          go_wp2_with fail
          go_quiet (fail)
          have hbq := below_drewN hbl nq
          clear d0 d1 f0 f1 hn
          generalize wr.drewN nq = W at *
          go_wp2_with fail
          first
            | (go_ret; exact ⟨by rw [HK.out, HS.out]; rfl, hbq⟩)
            | (go_roundw
               case rel => exact ⟨k + 1, by omega, by go_num, Lib.hid (by rw [HK.out, HS.out]; rfl), hbq⟩
               case measure => simp [intOf]; omega)
      · obtain rfl : k = a.length := by omega
        go_wp2_with fail
        go_ret
        exact ⟨by rw [HK.out, List.drop_length, HL.out, List.drop_length]; rfl, hbl⟩
  · have HE := Lib.hid (eqJ_ne a b hl)
    have hne : (((a.length : Int)) != (b.length : Int)) = true := by simp; omega
    go_enter Tryd.func20, Tryd.ntmps20
    go_wp2_with fail
    go_ret
    exact ⟨by rw [HE.out]; rfl, Below.refl _ _⟩
def extJ (l m : List EntZ) : Bool := decide (m.length ≤ l.length) && eqJ (l.take m.length) m
theorem Extends_any (va vb : Value) (a b : List EntZ) (w : World) (h1 : RdJ w va a) (h2 : RdJ w vb b) :
    Calls Tryd.prog 9 #[va, vb] w fun e w' => e = .returned (.bool (extJ a b)) ∧ Below w.heap.size w w' := by
  obtain ⟨aa, ac, rfl, a1, a2, ha⟩ := h1.form
  obtain ⟨ba, bc, rfl, b1, b2, hb⟩ := h2.form
  unfold maxLen at a2 b2
  have HX : Hid (extJ a b = (decide (b.length ≤ a.length) && eqJ (a.take b.length) b)) := Lib.hid rfl
  by_cases hl : b.length ≤ a.length
  · have HE := Lib.hid (Equal_any _ _ (a.take b.length) b w (RdJ.take h1 b.length hl) h2)
    have hsl := fun w => run_takeAt elemJ sizeJ aa a.length ac b.length (by omega) w
    clear ha hb h1 h2
    generalize eqJ (a.take b.length) b = q at *
    go_enter Tryd.func9, Tryd.ntmps9
    go_wp2_with fail
    refine HE.out.mono ?_
    rintro e w1 ⟨rfl, hb1⟩
    go_wp2_with fail
    go_ret
    exact ⟨by rw [HX.out]; simp [hl], hb1⟩
  · clear ha hb h1 h2
    go_enter Tryd.func9, Tryd.ntmps9
    go_wp2_with fail
    go_ret
    exact ⟨by rw [HX.out]; simp [hl], Below.refl _ _⟩
end Go.Proofs.YtmobangdckiffaaDoor
namespace Go.Proofs.YtmobangdckiffaaDoor
open Go.ChangeShapes Go.WideShapes Go.ChangeAt Go.RowKit
section
variable {H : Type} {enc : TypeId × Value → H} {P : Program} {W W' : World}
theorem trodAll_stays (hl : laidOutB P = true) (hb : Below W.heap.size W W') : ∀ {ts : List TypeId} {vs : List Value} {ds : List (DataW H)} {ps : List MemPlace},
  (ts.all fun t => P.readableRec t && decide (t < P.types.size)) = true → DataW.TrodAll enc P W 0 (fun _ => true) true ts vs ds ps →
  DataW.TrodAll enc P W' 0 (fun b => decide (b < W.heap.size)) true ts vs ds ps
 | [], [], [], _, _, h => h
 | t :: ts, v :: vs, d :: ds, ps, ht, ⟨p, q, h1, h2, e⟩ => by
  simp only [List.all_cons, Bool.and_eq_true, decide_eq_true_eq] at ht
  exact ⟨p, q, Below.trod hl ht.1.1 ht.1.2 h1 hb (by obtain ⟨m, hm⟩ := h1; exact DataW.trod_lt m _ _ _ hm), trodAll_stays hl hb ht.2 h2, e⟩
variable {r : Reach} {base : Nat} {t u : TypeId} {v : Value} {w : World}
end
end Go.Proofs.YtmobangdckiffaaDoor
namespace Go.Proofs.YtmobangdckiffaaDoor
open Go.ChangeShapes Go.WideShapes Go.ChangeAt Go.RowKit
set_option linter.unusedVariables false
theorem eqE_refl (x : EntZ) : eqE x x = true := by simp [eqE]
theorem eqJ_refl : ∀ l : List EntZ, eqJ l l = true
 | [] => rfl
 | x :: t => by rw [eqJ, eqE_refl, eqJ_refl t]; rfl
theorem text_size {s : ByteArray} (h : textE s = 0) : s.size ≤ 200 := by
 unfold textE at h
 split at h
 ·cases h
 ·omega
theorem OkJ_nil : OkJ [] := ⟨by simp, fun k h => by simp at h⟩
theorem OkJ_snoc {es : List EntZ} {s : ByteArray} (h : OkJ es) (ht : textE s = 0) : OkJ (es ++ [⟨s, sumZ (lastJ es) s⟩]) := by
 refine ⟨fun e he => ?_, fun k hk => ?_⟩
 ·rcases List.mem_append.1 he with q | q
  ·exact h.1 e q
  ·simp at q; subst q; exact text_size ht
 ·rcases Nat.lt_or_ge k es.length with q | q
  ·rw [List.take_append_of_le_length (by omega), List.getElem_append_left q]
   exact h.2 k q
  ·have : k = es.length := by simp at hk; omega
   subst this
   rw [List.take_left, List.getElem_append_right (by omega)]
   simp [wrongE, ht]
def wrJ (l : List EntZ) (t : ByteArray) : List EntZ := if textE t = 0 then l ++ [⟨t, sumZ (lastJ l) t⟩] else l
def writtenTo (ss : List ByteArray) (k : Nat) : List EntZ := (ss.take k).foldl wrJ []
theorem writtenTo_succ (ss : List ByteArray) (k : Nat) (h : k < ss.length) : writtenTo ss (k + 1) = wrJ (writtenTo ss k) ss[k] := by
 unfold writtenTo; rw [List.take_succ_eq_append_getElem h, List.foldl_append]; rfl
theorem writtenTo_ok (ss : List ByteArray) (k : Nat) : OkJ (writtenTo ss k) ∧ (writtenTo ss k).length ≤ k := by
 induction k with
 | zero => exact ⟨OkJ_nil, by simp [writtenTo]⟩
 | succ k ih =>
  by_cases h : k < ss.length
  ·rw [writtenTo_succ ss k h]
   unfold wrJ
   split
   ·rename_i ht
    exact ⟨OkJ_snoc ih.1 ht, by simp; omega⟩
   ·exact ⟨ih.1, by omega⟩
  ·have e : writtenTo ss (k + 1) = writtenTo ss k := by
    unfold writtenTo; rw [List.take_of_length_le (by omega), List.take_of_length_le (by omega)]
   rw [e]
   exact ⟨ih.1, by omega⟩
theorem RdJ.of_own {w : World} {b : Nat} {v : Value} {es : List EntZ} (h : w.ownsRow b 38 2 v es.length (flatJ es)) : RdJ w v es := Rd.of_own h
theorem own_staysJ {w w' : World} {b : Nat} {e : TypeId} {sz n : Nat} {v : Value} {xs : List Value} (h : w.ownsRow b e sz v n xs) (hb : Below w.heap.size w w') : w'.ownsRow b e sz v n xs :=
 h.kept (row := none) ⟨hb.os, hb.tape, hb.output, hb.size, fun k hk _ => hb.block k hk⟩ (by rcases h.2 with ⟨rfl, _⟩ | ⟨g, c, cur, rfl, _⟩ <;> simp [Value.ownBlock])
theorem journals_any (w : World) : Calls Tryd.prog 4 #[] w fun e w' => e = .returned (.bool true) ∧ Below w.heap.size w w' := by
 have h0 : appJ [] ⟨#[97]⟩ = ([⟨⟨#[97]⟩, sumZ 0 ⟨#[97]⟩⟩], 0) := by
  have : textE ⟨#[97]⟩ = 0 := by decide +kernel
  unfold appJ; rw [if_neg (by simp [this])]; rfl
 have hz : (sumZ 0 ⟨#[97]⟩ != 0) = true := by decide +kernel
 have HA := Lib.hid (Append_ok (.slice none 0 0) [] ⟨#[97]⟩ w (Rd.nil _ _) OkJ_nil (by simp) (by decide))
 rw [h0] at HA
 generalize sumZ 0 ⟨#[97]⟩ = z at *
 clear h0
 go_enter Tryd.func4, Tryd.ntmps4
 go_wp2_with fail
 refine HA.out.mono ?_
 rintro e w1 ⟨v, rfl, ho, hb⟩
 obtain ⟨a, c, rfl, _, _, hc⟩ := (RdJ.of_own ho).form
 obtain ⟨g, o, rfl, hg, c0, c1⟩ := hc 0 (by simp)
 simp only [List.getElem_cons_zero, Nat.zero_mul, Nat.add_zero] at c0 c1
 simp only [List.length_cons, List.length_nil]
 clear hc ho
 go_wp2_with fail
 go_ret
 exact ⟨rfl, hb⟩
/-! ### texts -/
def strs (ss : List ByteArray) : List Value := ss.map Value.string
def RdS (w : World) (v : Value) (ss : List ByteArray) : Prop := Rd w 1 ss.length v (strs ss)
theorem elemS : Tryd.prog.underlying 22 = some (.slice (Tryd.prog.elem 22)) := by kernel_rfl
theorem sizeS (w : World) : (sizeOf (Tryd.prog.elem 22)).run Tryd.prog w = .ok 1 w := by kernel_rfl
theorem RdS.form {w : World} {v : Value} {ss : List ByteArray} (h : RdS w v ss) : ∃ a c, v = .slice a ss.length c ∧ ss.length ≤ c ∧ c ≤ maxLen ∧ ∀ k (hk : k < ss.length), ∃ g o, a = some ⟨g, o, none⟩ ∧ g < w.heap.size ∧ w.cell? ⟨g, o + k, none⟩ = some (.string ss[k]) := by
 rcases h.2 with ⟨⟨a0, c0, h, hm⟩, hz⟩ | ⟨g, o, c, h', h1, h2, hc⟩
 ·exact ⟨a0, c0, by rw [h, hz], by omega, hm, fun k hk => by omega⟩
 ·refine ⟨_, _, h', h1, h2, fun k hk => ⟨g, o, rfl, ?_⟩⟩
  have e0 : w.cell? ⟨g, o + k, none⟩ = some (.string ss[k]) := by
   rw [hc k (by omega)]
   simp [strs, List.getElem?_eq_getElem hk]
  exact ⟨World.block_lt_of_cell? w _ e0, e0⟩
theorem minN (a : Nat) (b : Int) (hb : 0 ≤ b) : ∃ m : Nat, (if b < (a : Int) then b else (a : Int)) = (m : Int) ∧ m ≤ a ∧ (m : Int) ≤ b := by
 by_cases h : b < a
 ·exact ⟨b.toNat, by rw [if_pos (by omega)]; omega, by omega, by omega⟩
 ·exact ⟨a, by rw [if_neg (by omega)], by omega, by omega⟩
set_option maxHeartbeats 1000000 in
theorem written_any (v : Value) (ss : List ByteArray) (w : World) (h : RdS w v ss) (hsz : ∀ s ∈ ss, s.size ≤ maxLen) :
  Calls Tryd.prog 5 #[v] w fun e w' => ∃ v' es, e = .returned v' ∧ OkJ es ∧ es.length ≤ 20 ∧ OwnJ es w v' w' := by
 obtain ⟨a, c, rfl, h1, h2, hc⟩ := h.form
 obtain ⟨L, hL, l1, l2⟩ := minN ss.length 20 (by omega)
 unfold maxLen at h2 hsz
 have HC := Lib.hid hc
 have HZ := Lib.hid hsz
 have hsl := fun w => run_takeAt elemS sizeS a ss.length c L (by omega) w
 clear h hc hsz
 go_enter Tryd.func5, Tryd.ntmps5
 go_wp2_with fail
 clear hL hsl
 go_loopw [3, 14] (fun vl i wr => ∃ k : Nat, k ≤ L ∧ i = .int .i64 k ∧ Hid (wr.ownsRow w.heap.size 38 2 vl (writtenTo ss k).length (flatJ (writtenTo ss k))) ∧ Below w.heap.size w wr) (fun _ i _ => L - (intOf i).toNat)
 case atStart => exact ⟨0, Nat.zero_le _, rfl, Lib.hid (World.ownsRow_nil _ _ _ _), Below.refl _ _⟩
 case round =>
  obtain ⟨k, hk, rfl, HO, hbl⟩ := hrel
  obtain ⟨hok, hol⟩ := writtenTo_ok ss k
  have HK := Lib.hid hok
  clear hok
  by_cases hlt : k < L
  ·obtain ⟨g, o, rfl, hg, c0⟩ := HC.out k (by omega)
   have d0 : wr.cell? ⟨g, o + k, none⟩ = some (.string (ss[k]'(by omega))) := (hbl.cell (p := ⟨g, o + k, none⟩) hg).trans c0
   have hs := HZ.out (ss[k]'(by omega)) (List.getElem_mem _)
   have HS := Lib.hid (writtenTo_succ ss k (by omega))
   have HWd : Hid (∀ l t, wrJ l t = if textE t = 0 then l ++ [⟨t, sumZ (lastJ l) t⟩] else l) := Lib.hid (fun _ _ => rfl)
   clear c0
   generalize (ss[k]'(by omega)) = t at *
   generalize writtenTo ss k = l at *
   have HA := Lib.hid (Append_ok _ l t wr (RdJ.of_own HO.out) HK.out (by omega) (by omega))
   have HAJ : Hid (appJ l t = if textE t ≠ 0 then ([], textE t) else (l ++ [⟨t, sumZ (lastJ l) t⟩], 0)) := Lib.hid rfl
   have hszr := hbl.size
   cases ht : (textE t == 0)
   ·have ht' : ¬ textE t = 0 := by simpa using ht
    rw [HAJ.out, if_pos ht'] at HA
    rw [HWd.out, if_neg ht'] at HS
    clear HAJ ht' HWd
    generalize textE t = te at *
    go_wp2_with fail
    refine HA.out.mono ?_
    rintro e w1 ⟨v1, rfl, ho1, hb1⟩
    have HO1 := Lib.hid (own_staysJ HO.out hb1)
    have hb2 := hbl.trans (hb1.mono hbl.size)
    clear ho1 hb1 HO hbl
    go_wp2_with fail
    go_roundw
    case rel => exact ⟨k + 1, by omega, by go_num, Lib.hid (by rw [HS.out]; exact HO1.out), hb2⟩
    case measure => simp [intOf]; omega
   ·have ht' : textE t = 0 := by simpa using ht
    rw [HAJ.out, if_neg (by simpa using ht')] at HA
    rw [HWd.out, if_pos ht'] at HS
    clear HAJ ht' ht HWd
    go_wp2_with fail
    refine HA.out.mono ?_
    rintro e w1 ⟨v1, rfl, ho1, hb1⟩
    have HO1 : Hid (w1.ownsRow w.heap.size 38 2 v1 (l ++ [(⟨t, sumZ (lastJ l) t⟩ : EntZ)]).length (flatJ (l ++ [(⟨t, sumZ (lastJ l) t⟩ : EntZ)]))) := Lib.hid (by
     refine ⟨ho1.1, ?_⟩
     rcases ho1.2 with q | ⟨g', c', cur, q1, q2, q3⟩
     ·exact .inl q
     ·exact .inr ⟨g', c', cur, q1, by omega, q3⟩)
    have hb2 := hbl.trans (hb1.mono hbl.size)
    clear ho1 hb1 HO hbl
    go_wp2_with fail
    go_roundw
    case rel => exact ⟨k + 1, by omega, by go_num, Lib.hid (by rw [HS.out]; exact HO1.out), hb2⟩
    case measure => simp [intOf]; omega
  ·obtain rfl : k = L := by omega
   go_wp2_with fail
   go_ret
   exact ⟨_, _, rfl, HK.out, by omega, HO.out, hbl⟩
section
variable {H : Type} {enc : TypeId × Value → H} {P : Program} {W : World} {r : Reach} {base : Nat} {t e : TypeId} {v : Value} {d : DataW H} {p : List MemPlace}
theorem okWide_spot (hu : P.underlying t = some (.slice e)) (hv : Value.okWide P W r base t v) : (∃ c, v = .slice none 0 0 ∧ c = 0) ∨ ∃ g o len cap, v = .slice (some ⟨g, o, none⟩) len cap := by
 simp only [Value.okWide, hu, Cell.okWide, Cell.ok] at hv
 split at hv <;> simp_all
 rename_i a len cap _
 obtain ⟨g, o, s⟩ := a
 have := hv.2.2.2.1
 simp at this
 subst this
 exact ⟨g, o, rfl⟩
theorem open_RdS (hu : P.underlying t = some (.slice e)) (he : P.underlying e = some .string) (hc : P.cellsOf e = 1) (hv : Value.okWide P W r base t v)
  (h : DataW.Trod enc P W 0 (fun _ => true) true t v d p) : ∃ ss, RdS W v ss ∧ ∀ s ∈ ss, s.size ≤ maxLen := by
 obtain ⟨fuel, hf⟩ := h
 rcases okWide_spot hu hv with ⟨_, rfl, _⟩ | ⟨g, o, len, cap, rfl⟩
 ·exact ⟨[], Rd.nil _ _, by simp⟩
 ·rcases Deep.open_slice1 hu hc hf with ⟨hcs, _⟩ | ⟨a, len', cap', m, n, V, D, Pl, hcs, _, hl, hm, hmm, _, hx⟩
  ·simp [Value.cells] at hcs
  ·simp [Value.cells] at hcs
   obtain ⟨rfl, rfl, rfl⟩ := hcs
   simp only [if_true] at hmm
   have hS : ∀ i, i < len → ∃ s : ByteArray, W.cell? ⟨g, o + i, none⟩ = some (.string s) ∧ s.size ≤ maxLen := fun i hi => by
    obtain ⟨q1, q2⟩ := hx i (by omega)
    rw [add_off] at q1
    obtain ⟨s, hs, _, hsz⟩ := DataW.trod_string he q2
    simp at hs
    exact ⟨s, by rw [q1, hs], hsz⟩
   refine ⟨(List.range len).map fun i => match W.cell? ⟨g, o + i, none⟩ with | some (.string s) => s | _ => ByteArray.empty, ⟨by simp [strs], .inr ⟨g, o, cap, by simp, by simpa using hl, hm, fun i hi => ?_⟩⟩, fun s hs => ?_⟩
   ·have hi' : i < len := by simp at hi; omega
    obtain ⟨s, q, _⟩ := hS i hi'
    rw [q]
    simp [strs, hi', q]
   ·obtain ⟨i, hi, rfl⟩ := List.mem_map.1 hs
    obtain ⟨s, q, hq⟩ := hS i (List.mem_range.1 hi)
    rw [q]
    exact hq
end
end Go.Proofs.YtmobangdckiffaaDoor
namespace Go.Proofs.YtmobangdckiffaaDoor
open Go.ChangeShapes Go.WideShapes Go.ChangeAt Go.RowKit
set_option linter.unusedVariables false
abbrev Byj := List UInt8
def digJ : List UInt8 := [48, 49, 50, 51, 52, 53, 54, 55, 56, 57, 97, 98, 99, 100, 101, 102, 103, 104, 105, 106, 107, 108, 109, 110, 111, 112, 113, 114, 115, 116, 117, 118, 119, 120, 121, 122]
def hexC (d : Nat) : UInt8 := digJ.getD d 0
/-- the digits, the last one first put down. -/
def hexF : Nat → Nat → Byj → Byj
  | 0, u, acc => hexC u :: acc
  | f + 1, u, acc => if u < 16 then hexC u :: acc else hexF f (u / 16) (hexC (u % 16) :: acc)
def hexU (u : Nat) : Byj := hexF 16 u []
theorem hexF_acc : ∀ (f u : Nat) (acc : Byj), hexF f u acc = hexF f u [] ++ acc
  | 0, u, acc => rfl
  | f + 1, u, acc => by
    rw [hexF, hexF]
    split
    · rfl
    · rw [hexF_acc f, hexF_acc f (u / 16) [hexC (u % 16)], List.append_assoc]; rfl
theorem hexF_len : ∀ (f u : Nat) (acc : Byj), 1 + acc.length ≤ (hexF f u acc).length ∧ (hexF f u acc).length ≤ f + 1 + acc.length
  | 0, u, acc => by rw [hexF, List.length_cons]; omega
  | f + 1, u, acc => by
    rw [hexF]
    split
    · rw [List.length_cons]; omega
    · have := hexF_len f (u / 16) (hexC (u % 16) :: acc)
      rw [List.length_cons] at this; omega
/-- fewer digits where the number is small. -/
theorem hexF_len16 : ∀ (f u n : Nat), u < 16 ^ (n + 1) → n ≤ f → (hexF f u []).length ≤ n + 1
  | 0, u, n, h, hn => by obtain rfl : n = 0 := by omega
                         rw [hexF]; simp
  | f + 1, u, n, h, hn => by
    rw [hexF]
    split
    · simp
    · cases n with
      | zero => simp at h; omega
      | succ n =>
        rw [hexF_acc, List.length_append]
        have := hexF_len16 f (u / 16) n (by rw [Nat.pow_succ] at h; omega) (by omega)
        simp only [List.length_cons, List.length_nil]; omega
/-- a digit's value. -/
def valH (c : UInt8) : Nat := if c.toNat < 58 then c.toNat - 48 else c.toNat - 87
def isHex (c : UInt8) : Bool := (48 ≤ c.toNat && c.toNat ≤ 57) || (97 ≤ c.toNat && c.toNat ≤ 102)
def valL (l : Byj) : Nat := l.foldl (fun n c => n * 16 + valH c) 0
theorem hexC_ok : ∀ d, d < 16 → isHex (hexC d) = true ∧ valH (hexC d) = d := by decide
theorem valL_snoc (l : Byj) (c : UInt8) : valL (l ++ [c]) = valL l * 16 + valH c := by unfold valL; rw [List.foldl_append]; rfl
theorem hexF_val : ∀ (f u : Nat), u < 16 ^ (f + 1) → valL (hexF f u []) = u
  | 0, u, h => by rw [hexF]; show 0 * 16 + valH (hexC u) = u; rw [(hexC_ok u (by simpa using h)).2]; omega
  | f + 1, u, h => by
    rw [hexF]
    split
    · rename_i hu
      show 0 * 16 + valH (hexC u) = u
      rw [(hexC_ok u hu).2]; omega
    · rw [hexF_acc, valL_snoc, hexF_val f (u / 16) (by rw [Nat.pow_succ] at h; omega), (hexC_ok _ (by omega)).2]
      omega
theorem hexF_hex : ∀ (f u : Nat) (acc : Byj), u < 16 ^ (f + 1) → (∀ c ∈ acc, isHex c = true) → ∀ c ∈ hexF f u acc, isHex c = true
  | 0, u, acc, h, ha, c, hc => by
    rw [hexF] at hc
    rcases List.mem_cons.1 hc with rfl | hc
    · exact (hexC_ok u (by simpa using h)).1
    · exact ha c hc
  | f + 1, u, acc, h, ha, c, hc => by
    rw [hexF] at hc
    split at hc
    · rename_i hu
      rcases List.mem_cons.1 hc with rfl | hc
      · exact (hexC_ok u hu).1
      · exact ha c hc
    · refine hexF_hex f (u / 16) _ (by rw [Nat.pow_succ] at h; omega) (fun d hd => ?_) c hc
      rcases List.mem_cons.1 hd with rfl | hd
      · exact (hexC_ok _ (by omega)).1
      · exact ha d hd
/-- sixteen digits. -/
def hex16 (u : Nat) : Byj := List.replicate (16 - (hexU u).length) 48 ++ hexU u
theorem hexU_len {u : Nat} (h : u < 16 ^ 16) : 1 ≤ (hexU u).length ∧ (hexU u).length ≤ 16 := by
  have h1 := hexF_len 16 u []
  have h2 := hexF_len16 16 u 15 h (by omega)
  unfold hexU
  simp only [List.length_nil] at h1
  omega
theorem hex16_len {u : Nat} (h : u < 16 ^ 16) : (hex16 u).length = 16 := by
  have := hexU_len h
  unfold hex16
  rw [List.length_append, List.length_replicate]; omega
theorem hex16_hex {u : Nat} (h : u < 16 ^ 16) : ∀ c ∈ hex16 u, isHex c = true := fun c hc => by
  unfold hex16 at hc
  rcases List.mem_append.1 hc with hc | hc
  · rw [(List.mem_replicate.1 hc).2]; decide
  · exact hexF_hex 16 u [] (Nat.lt_of_lt_of_le h (by decide)) (fun _ h => by cases h) c hc
theorem valL_zeros : ∀ (n : Nat) (l : Byj), valL (List.replicate n 48 ++ l) = valL l
  | 0, l => by simp
  | n + 1, l => by
    rw [List.replicate_succ, List.cons_append]
    have e : valL (48 :: (List.replicate n 48 ++ l)) = valL (List.replicate n 48 ++ l) := rfl
    rw [e, valL_zeros n l]
theorem hex16_val {u : Nat} (h : u < 16 ^ 16) : valL (hex16 u) = u := by
  unfold hex16
  rw [valL_zeros]
  exact hexF_val 16 u (Nat.lt_of_lt_of_le h (by decide))
end Go.Proofs.YtmobangdckiffaaDoor

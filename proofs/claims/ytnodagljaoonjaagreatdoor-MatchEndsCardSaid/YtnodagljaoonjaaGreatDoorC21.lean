/- JouText, JouSum, JouGood, MaP, MaL, GxA. -/
import Derived.Test.YtnodagljaoonjaaGreatDoorRows
import Derived.Test.YtnodagljaoonjaaGreatDoorC01
import Derived.WalkKit
import Derived.ProofKit
import Derived.OpenShut
import Derived.LoopTactic
import Derived.Outline
import Derived.Lib.Hide
import Derived.Handy
import Derived.WalkSpells
import Derived.WalkSmall
import Derived.WalkLawsBesides
import Derived.Laws.RangeAny
import Derived.RegionTactic
import Derived.Deep.QuietTactic
import Derived.BigQuiet
import Derived.Deep.RegionWith
import Derived.Test.YtnodagljaoonjaaGreatDoorC18
import Derived.Test.YtnodagljaoonjaaGreatDoorC20
import Derived.Lib.ItoaNum
namespace Go.Proofs.YtnodagljaoonjaaGreatDoor
open Go.ChangeShapes Go.WideShapes Go.ChangeAt Go.RowKit
set_option linter.unusedVariables false
/-! ### the text: bytes from 32 to 126 -/
def badC (c : Int) : Bool := decide (c < 32) || decide (126 < c)
theorem badC_any (c : Int) (w : World) : Calls Tryz.prog 79 #[.int .i32 c] w fun e w' => e = .returned (.bool (badC c)) ∧ w = w' := by
 have H : Hid (badC c = (decide (c < 32) || decide (126 < c))) := Lib.hid rfl
 by_cases h : c < 32
 ·go_enter Tryz.func79, Tryz.ntmps79
  go_wp2
  go_ret
  exact ⟨by rw [H.out]; simp [h], rfl⟩
 ·go_enter Tryz.func79, Tryz.ntmps79
  go_wp2
  go_ret
  exact ⟨by rw [H.out]; simp; omega, rfl⟩
theorem callC (args : Array Value) (w : World) : (callFunc 79 args).run Tryz.prog w = .ok (.enter 79 args) w := by kernel_rfl
/-- the first byte of s, from position k on, that is out of range. -/
def badFrom (s : ByteArray) : Nat → Nat → Int
 | 0, _ => -1
 | f + 1, k => if h : k < s.size then (if badC ((s[k]'h).toNat : Int) = true then (k : Int) else badFrom s f (k + 1)) else -1
def badAt (s : ByteArray) : Int := badFrom s s.size 0
theorem badFrom_step (s : ByteArray) (k : Nat) (h : k < s.size) : badFrom s (s.size - k) k = if badC ((s[k]'h).toNat : Int) = true then (k : Int) else badFrom s (s.size - (k + 1)) (k + 1) := by
 have e : s.size - k = (s.size - (k + 1)) + 1 := by omega
 rw [e, badFrom, dif_pos h]
theorem badFrom_end (s : ByteArray) : badFrom s (s.size - s.size) s.size = -1 := by simp [badFrom]
set_option maxHeartbeats 1000000 in
theorem strIndexFuncI_any (s : ByteArray) (w : World) (hs : s.size ≤ 9223372036854775807) :
  Calls Tryz.prog 120 #[.string s, .func (.func 79) #[] #[], .bool true] w fun e w' => e = .returned (.int .i64 (badAt s)) ∧ Below w.heap.size w w' := by
 have HB : Hid (badAt s = badFrom s (s.size - 0) 0) := Lib.hid rfl
 have hcf := callC
 go_enter Tryz.func120, Tryz.ntmps120
 go_wp2_with fail
 go_loopw [7] (fun _ wr => ∃ k : Nat, k ≤ s.size ∧ wr = w.iter s k ∧ Hid (badAt s = badFrom s (s.size - k) k)) (fun _ wr => s.size - wr.iterPos w.heap.size)
 case atStart => exact ⟨0, Nat.zero_le _, rfl, HB⟩
 case round =>
  obtain ⟨k, hk, rfl, HK⟩ := hrel
  have hbel : ∀ p, Below w.heap.size w (w.iter s p) := fun p => (Below.refl _ w).alloc (Nat.le_refl _) _
  have HBel := Lib.hid hbel
  clear hbel
  by_cases hlt : k < s.size
  ·have HS := Lib.hid (badFrom_step s k hlt)
   cases hb : badC ((s[k]'hlt).toNat : Int)
   ·have hr : 32 ≤ (s[k]'hlt).toNat ∧ (s[k]'hlt).toNat ≤ 126 := by
     simp [badC] at hb; omega
    have hnx := fun ty => run_next_ascii (P := Tryz.prog) w s k ty hlt (by omega)
    have HC := Lib.hid (fun w => badC_any ((s[k]'hlt).toNat : Int) w)
    rw [hb] at HC
    rw [hb] at HS
    clear hb
    generalize (s[k]'hlt).toNat = b at *
    go_wp2_with fail
    refine (HC.out _).mono ?_
    rintro e w' ⟨rfl, rfl⟩
    go_wp2_with fail
    go_roundw
    case rel => exact ⟨k + 1, by omega, rfl, Lib.hid (by rw [HK.out, HS.out]; rfl)⟩
    case measure => simp; omega
   ·rw [hb] at HS
    by_cases h8 : (s[k]'hlt).toNat < 128
    ·have hnx := fun ty => run_next_ascii (P := Tryz.prog) w s k ty hlt h8
     have HC := Lib.hid (fun w => badC_any ((s[k]'hlt).toNat : Int) w)
     rw [hb] at HC
     clear hb
     generalize (s[k]'hlt).toNat = b at *
     go_wp2_with fail
     refine (HC.out _).mono ?_
     rintro e w' ⟨rfl, rfl⟩
     go_wp2_with fail
     go_ret
     exact ⟨by rw [HK.out, HS.out]; rfl, HBel.out _⟩
    ·have hnx := fun ty => run_next_any (P := Tryz.prog) w s k ty hlt
     have hd := decode_high s k hlt (by omega)
     have HC := Lib.hid (fun w => badC_any (((Utf8.decode s k).1 : Nat) : Int) w)
     have hbc : badC (((Utf8.decode s k).1 : Nat) : Int) = true := by simp [badC]; omega
     rw [hbc] at HC
     clear hb hbc hd h8
     generalize Utf8.decode s k = dd at *
     obtain ⟨d1, d2⟩ := dd
     simp only at *
     go_wp2_with fail
     refine (HC.out _).mono ?_
     rintro e w' ⟨rfl, rfl⟩
     go_wp2_with fail
     go_ret
     exact ⟨by rw [HK.out, HS.out]; rfl, HBel.out _⟩
  ·obtain rfl : k = s.size := by omega
   have hnx := fun ty => run_next_end (P := Tryz.prog) w s s.size ty (by omega)
   go_wp2_with fail
   go_ret
   exact ⟨by rw [HK.out, badFrom_end]; rfl, HBel.out _⟩
theorem strIndexFunc_any (s : ByteArray) (w : World) (hs : s.size ≤ 9223372036854775807) :
  Calls Tryz.prog 78 #[.string s, .func (.func 79) #[] #[]] w fun e w' => e = .returned (.int .i64 (badAt s)) ∧ Below w.heap.size w w' := by
 go_enter Tryz.func78, Tryz.ntmps78
 go_wp2_with fail
 refine (strIndexFuncI_any s w hs).mono ?_
 rintro e w1 ⟨rfl, hb⟩
 go_wp2_with fail
 go_ret
 exact ⟨rfl, hb⟩
def textE (s : ByteArray) : Int := if 200 < s.size then 2 else if 0 ≤ badAt s then 3 else 0
theorem text_any (s : ByteArray) (w : World) (hs : s.size ≤ 9223372036854775807) :
  Calls Tryz.prog 52 #[.string s] w fun e w' => e = .returned (.int .i64 (textE s)) ∧ Below w.heap.size w w' := by
 have H : Hid (textE s = if 200 < s.size then 2 else if 0 ≤ badAt s then 3 else 0) := Lib.hid rfl
 by_cases h : 200 < s.size
 ·go_enter Tryz.func52, Tryz.ntmps52
  go_wp2_with fail
  go_ret
  exact ⟨by rw [H.out, if_pos h]; rfl, Below.refl _ _⟩
 ·have HI := Lib.hid (strIndexFunc_any s w hs)
  generalize badAt s = b at *
  by_cases hb : 0 ≤ b
  all_goals
   go_enter Tryz.func52, Tryz.ntmps52
   go_wp2_with fail
   refine HI.out.mono ?_
   rintro e w1 ⟨rfl, hb1⟩
   go_wp2_with fail
   go_ret
   exact ⟨by rw [H.out, if_neg (by omega)]; first | (rw [if_pos (by omega)]; rfl) | (rw [if_neg (by omega)]; rfl), hb1⟩
end Go.Proofs.YtnodagljaoonjaaGreatDoor
namespace Go.Proofs.YtnodagljaoonjaaGreatDoor
open Go.ChangeShapes Go.WideShapes Go.ChangeAt Go.RowKit
set_option linter.unusedVariables false
theorem ret_kind {k : IntKind} {a b : Int} (h : a = b) : Ending.returned (.int k a) = .returned (.int k b) := by rw [h]
def sumStep (x c : Int) : Int := IntKind.u64.wrap (bits BinOp.xor IntKind.u64 x (IntKind.u64.wrap c) * 1099511628211)
def sumTo (s : ByteArray) (b : Int) : Nat → Int
 | 0 => bits BinOp.xor IntKind.u64 b 14695981039346656037
 | k + 1 => if h : k < s.size then sumStep (sumTo s b k) ((s[k]'h).toNat : Int) else sumTo s b k
def sumZ (b : Int) (s : ByteArray) : Int := sumStep (sumTo s b s.size) (s.size : Int)
theorem sumTo_succ (s : ByteArray) (b : Int) (k : Nat) (h : k < s.size) : sumTo s b (k + 1) = sumStep (sumTo s b k) ((s[k]'h).toNat : Int) := by
 rw [sumTo, dif_pos h]
theorem Sum_any (b : Int) (s : ByteArray) (w : World) (hs : s.size ≤ 9223372036854775807) :
  Calls Tryz.prog 53 #[.int .u64 b, .string s] w fun e w' => e = .returned (.int .u64 (sumZ b s)) ∧ w = w' := by
 have HZ : Hid (sumZ b s = sumStep (sumTo s b s.size) (s.size : Int)) := Lib.hid rfl
 have H0 : Hid (sumTo s b 0 = bits BinOp.xor IntKind.u64 b 14695981039346656037) := Lib.hid rfl
 go_enter Tryz.func53, Tryz.ntmps53
 go_wp2_with fail
 go_loop [5, 11] (fun h i => ∃ k : Nat, k ≤ s.size ∧ i = .int .i64 k ∧ h = .int .u64 (sumTo s b k)) (fun _ i => s.size - (intOf i).toNat)
 case atStart => exact ⟨0, Nat.zero_le _, rfl, by rw [H0.out]⟩
 case round =>
  obtain ⟨k, hk, rfl, rfl⟩ := hrel
  by_cases hlt : k < s.size
  ·have HS := Lib.hid (sumTo_succ s b k hlt)
   generalize sumTo s b k = x at *
   go_wp2_with fail
   go_round
   case rel => exact ⟨k + 1, by omega, by go_num, by rw [HS.out]; rfl⟩
   case measure => simp [intOf]; omega
  ·obtain rfl : k = s.size := by omega
   generalize sumTo s b s.size = x at *
   go_wp2_with fail
   go_ret
   exact ⟨ret_kind (by rw [HZ.out, sumStep, IntWalk.u64_in (s.size : Int) (by omega)]), rfl⟩
structure EntZ where
 txt : ByteArray
 sum : Int
def EntZ.val (e : EntZ) : Value := .agg #[.string e.txt, .int .u64 e.sum]
def wrongE (b : Int) (e : EntZ) : Int := if textE e.txt ≠ 0 then textE e.txt else if e.sum ≠ sumZ b e.txt then 15 else 0
def ErrPost (c : Int) (w : World) (e : Ending) (w' : World) : Prop := e = .returned (.int .i64 c) ∧ Below w.heap.size w w'
set_option maxHeartbeats 1000000 in
theorem wrong_any (b : Int) (x : EntZ) (w : World) (hs : x.txt.size ≤ 9223372036854775807) :
  Calls Tryz.prog 73 #[.int .u64 b, x.val] w (ErrPost (wrongE b x) w) := by
 have HR : Hid (wrongE b x = if textE x.txt ≠ 0 then textE x.txt else if x.sum ≠ sumZ b x.txt then 15 else 0) := Lib.hid rfl
 obtain ⟨s, n⟩ := x
 unfold EntZ.val
 simp only at *
 have HT := Lib.hid (fun w => text_any s w hs)
 have HS := Lib.hid (fun w => Sum_any b s w hs)
 have hb0 : Below w.heap.size w (w.alloc (.cells #[.string s, .int .u64 n] 90)) := by go_grown
 cases hr : (textE s != 0)
 ·have hr0 : textE s = 0 := by simpa using hr
  rw [hr0] at HT
  have HR2 : Hid (wrongE b ⟨s, n⟩ = if n ≠ sumZ b s then 15 else 0) := Lib.hid (by rw [HR.out, if_neg (by simpa using hr0)])
  clear hr hr0 HR
  generalize sumZ b s = z at *
  go_enter Tryz.func73, Tryz.ntmps73
  go_wp2_with fail
  refine (HT.out _).mono ?_
  rintro e w1 ⟨rfl, hb1⟩
  have d0 : w1.cell? ⟨w.heap.size, 0, none⟩ = some (.string s) := (hb1.cell (p := ⟨w.heap.size, 0, none⟩) (by simp)).trans (by go_simp)
  have d1 : w1.cell? ⟨w.heap.size, 1, none⟩ = some (.int .u64 n) := (hb1.cell (p := ⟨w.heap.size, 1, none⟩) (by simp)).trans (by go_simp)
  have hbw := hb0.trans (hb1.mono (by simp))
  clear hb1
  go_wp2_with fail
  go_quiet ((go_at_call 53; exact qleft HS.out))
  have hbq := below_drewN hbw nq
  clear d0 d1
  generalize w1.drewN nq = W at *
  cases hz : (n != z)
  all_goals
   go_wp2_with fail
   go_ret
   exact ⟨by rw [HR2.out]; simp at hz; simp [hz], hbq⟩
 ·generalize textE s = t at *
  go_enter Tryz.func73, Tryz.ntmps73
  go_wp2_with fail
  refine (HT.out _).mono ?_
  rintro e w1 ⟨rfl, hb1⟩
  go_wp2_with fail
  go_ret
  exact ⟨by rw [HR.out, if_pos (by simpa using hr)]; rfl, hb0.trans (hb1.mono (by simp))⟩
end Go.Proofs.YtnodagljaoonjaaGreatDoor
namespace Go.Proofs.YtnodagljaoonjaaGreatDoor
open Go.ChangeShapes Go.WideShapes Go.ChangeAt Go.RowKit
set_option linter.unusedVariables false
def flatJ (es : List EntZ) : List Value := es.flatMap fun e => [.string e.txt, .int .u64 e.sum]
theorem flatJ_cons (e : EntZ) (t : List EntZ) : flatJ (e :: t) = .string e.txt :: .int .u64 e.sum :: flatJ t := rfl
theorem flatJ_len (es : List EntZ) : (flatJ es).length = es.length * 2 := by
 induction es with
 | nil => rfl
 | cons e t ih => rw [flatJ_cons]; simp [ih]; omega
theorem flatJ_append (a b : List EntZ) : flatJ (a ++ b) = flatJ a ++ flatJ b := by simp [flatJ]
theorem flatJ_at (es : List EntZ) (k : Nat) (h : k < es.length) : (flatJ es)[k * 2]? = some (.string es[k].txt) ∧ (flatJ es)[k * 2 + 1]? = some (.int .u64 es[k].sum) := by
 induction es generalizing k with
 | nil => simp at h
 | cons g t ih =>
  cases k with
  | zero => exact ⟨rfl, rfl⟩
  | succ k =>
   have := ih k (by simpa using h)
   have e : (k + 1) * 2 = k * 2 + 2 := by omega
   rw [e]
   exact this
theorem flatJ_take (es : List EntZ) (k : Nat) : (flatJ es).take (k * 2) = flatJ (es.take k) := by
 induction es generalizing k with
 | nil => simp [flatJ]
 | cons g t ih =>
  cases k with
  | zero => simp [flatJ]
  | succ k =>
   have e : (k + 1) * 2 = k * 2 + 1 + 1 := by omega
   rw [e, flatJ_cons, List.take_succ_cons, List.take_succ_cons, ih, List.take_succ_cons, flatJ_cons]
/-- a journal that is read. -/
def RdJ (w : World) (v : Value) (es : List EntZ) : Prop := Rd w 2 es.length v (flatJ es)
theorem RdJ.below {w w' : World} {v : Value} {es : List EntZ} {B : Nat} (h : RdJ w v es) (hb : Below B w w') (hB : w.heap.size ≤ B) : RdJ w' v es := Rd.below h hb hB
theorem RdJ.take {w : World} {a : Option Addr} {c : Nat} {es : List EntZ} (h : RdJ w (.slice a es.length c) es) (k : Nat) (hk : k ≤ es.length) : RdJ w (.slice a k c) (es.take k) := by
 have := Rd.take h k hk
 rw [flatJ_take] at this
 unfold RdJ
 rw [List.length_take, Nat.min_eq_left hk]
 exact this
theorem RdJ.form {w : World} {v : Value} {es : List EntZ} (h : RdJ w v es) : ∃ a c, v = .slice a es.length c ∧ es.length ≤ c ∧ c ≤ maxLen ∧
  ∀ k (hk : k < es.length), ∃ g o, a = some ⟨g, o, none⟩ ∧ g < w.heap.size ∧ w.cell? ⟨g, o + k * 2, none⟩ = some (.string es[k].txt) ∧ w.cell? ⟨g, o + k * 2 + 1, none⟩ = some (.int .u64 es[k].sum) := by
 rcases h.2 with ⟨⟨a0, c0, h, hm⟩, hz⟩ | ⟨g, o, c, h', h1, h2, hc⟩
 ·exact ⟨a0, c0, by rw [h, hz], by omega, hm, fun k hk => by omega⟩
 ·refine ⟨_, _, h', h1, h2, fun k hk => ⟨g, o, rfl, ?_⟩⟩
  obtain ⟨q0, q1⟩ := flatJ_at es k hk
  have e0 := (hc (k * 2) (by omega)).trans q0
  have e1 := (hc (k * 2 + 1) (by omega)).trans q1
  exact ⟨World.block_lt_of_cell? w _ e0, e0, e1⟩
def lastJ (es : List EntZ) : Int := match es.getLast? with | none => 0 | some e => e.sum
theorem last_any (v : Value) (es : List EntZ) (w : World) (h : RdJ w v es) :
  Calls Tryz.prog 54 #[v] w fun e w' => e = .returned (.int .u64 (lastJ es)) ∧ w = w' := by
 obtain ⟨a, c, rfl, h1, h2, hc⟩ := h.form
 unfold maxLen at h2
 cases es with
 | nil =>
  clear h hc
  simp only [List.length_nil]
  go_enter Tryz.func54, Tryz.ntmps54
  go_wp2_with fail
  go_ret
  exact ⟨rfl, rfl⟩
 | cons e0 t =>
  obtain ⟨g, o, rfl, hg, c0, c1⟩ := hc t.length (by simp)
  have HL : Hid (lastJ (e0 :: t) = ((e0 :: t)[t.length]'(by simp)).sum) := Lib.hid (by
   unfold lastJ
   rw [List.getLast?_eq_getElem?]
   simp)
  have hlen : (e0 :: t).length = t.length + 1 := rfl
  rw [hlen]
  have hq : ((((t.length + 1 : Nat)) : Int) == 0) = false := by simp; omega
  have h3 : t.length + 1 ≤ 9223372036854775807 := by simp at h1; omega
  generalize ((e0 :: t)[t.length]'(by simp)).sum = z at *
  clear h hc c0 hlen h1
  go_enter Tryz.func54, Tryz.ntmps54
  go_wp2_with fail
  go_ret
  exact ⟨by rw [HL.out]; rfl, rfl⟩
/-- a right journal. -/
def OkJ (es : List EntZ) : Prop := (∀ e ∈ es, e.txt.size ≤ 200) ∧ ∀ k (h : k < es.length), wrongE (lastJ (es.take k)) es[k] = 0
theorem elemJ : Tryz.prog.underlying 52 = some (.slice (Tryz.prog.elem 52)) := by kernel_rfl
theorem sizeJ (w : World) : (sizeOf (Tryz.prog.elem 52)).run Tryz.prog w = .ok 2 w := by kernel_rfl
set_option maxHeartbeats 2000000 in
theorem Good_ok (v : Value) (es : List EntZ) (w : World) (h : RdJ w v es) (hok : OkJ es) (hlen : es.length ≤ 1000) :
  Calls Tryz.prog 72 #[v] w (ErrPost (es.length : Int) w) := by
 obtain ⟨a, c, rfl, h1, h2, hc⟩ := h.form
 unfold maxLen at h2
 have HJ := Lib.hid h
 have HC := Lib.hid hc
 have HK := Lib.hid hok
 clear h hc hok
 go_enter Tryz.func72, Tryz.ntmps72
 go_wp2_with fail
 go_loopw [7] (fun i wr => ∃ k : Nat, k ≤ es.length ∧ i = .int .i64 k ∧ Below w.heap.size w wr) (fun i _ => es.length - (intOf i).toNat)
 case atStart => exact ⟨0, Nat.zero_le _, rfl, Below.refl _ _⟩
 case round =>
  obtain ⟨k, hk, rfl, hbl⟩ := hrel
  by_cases hlt : k < es.length
  ·obtain ⟨g, o, rfl, hg, c0, c1⟩ := HC.out k hlt
   have d0 : wr.cell? ⟨g, o + k * 2, none⟩ = some (.string es[k].txt) := (hbl.cell (p := ⟨g, o + k * 2, none⟩) hg).trans c0
   have d1 : wr.cell? ⟨g, o + k * 2 + 1, none⟩ = some (.int .u64 es[k].sum) := (hbl.cell (p := ⟨g, o + k * 2 + 1, none⟩) hg).trans c1
   have hw := HK.out.2 k hlt
   have hsz := HK.out.1 es[k] (List.getElem_mem hlt)
   have hszr := hbl.size
   have hgr : g < wr.heap.size := by omega
   clear c0 c1
   have HLt := Lib.hid (fun (wx : World) (hx : Below w.heap.size w wx) => last_any _ (es.take k) wx (RdJ.below (RdJ.take HJ.out k hk) hx (Nat.le_refl _)))
   generalize lastJ (es.take k) = lz at *
   generalize hek : es[k] = ek at *
   clear hek
   have HWr := Lib.hid (fun wx => wrong_any lz ek wx (by omega))
   rw [hw] at HWr
   obtain ⟨s, n⟩ := ek
   unfold EntZ.val at HWr
   simp only at *
   have hba : Below w.heap.size w (wr.alloc (.cells #[.string s, .int .u64 n] 90)) := by go_grown
   have e0 : (wr.alloc (.cells #[.string s, .int .u64 n] 90)).cell? ⟨wr.heap.size, 0, none⟩ = some (.string s) := by go_simp
   have e1 : (wr.alloc (.cells #[.string s, .int .u64 n] 90)).cell? ⟨wr.heap.size, 1, none⟩ = some (.int .u64 n) := by go_simp
   have hk1 : ((k : Int) == 1000) = false := by simp; omega
   have hsl := fun w => run_takeAt elemJ sizeJ (some ⟨g, o, none⟩) es.length c k (by omega) w
   go_wp2_with fail
   generalize (wr.alloc (.cells #[.string s, .int .u64 n] 90)) = W at *
   clear d0 d1 hw
   have hbd : Below w.heap.size w W.drew := hba.drew
   go_region_with (first | (go_at_call 54; refine (HLt.out _ hbd).mono ?_; rintro e w' ⟨rfl, rfl⟩) | (go_at_call 73; refine (HWr.out _).mono ?_; rintro e w9 ⟨rfl, hb9⟩))
   all_goals
    have hb2 : Below w.heap.size w w9 := hbd.trans (hb9.mono (by have := hbd.size; simpa using this))
    clear hb9 e0 e1 hsl
    go_wp2_with fail
    go_roundw
    case rel => exact ⟨k + 1, by omega, by go_num, hb2⟩
    case measure => simp [intOf]; omega
  ·obtain rfl : k = es.length := by omega
   go_wp2_with fail
   go_ret
   exact ⟨rfl, hbl⟩
end Go.Proofs.YtnodagljaoonjaaGreatDoor
namespace Go.Proofs.YtnodagljaoonjaaGreatDoor
open Go.ChangeShapes Go.WideShapes Go.ChangeAt Go.RowKit
set_option linter.unusedVariables false
/-! ### clocks -/
structure CrZ where
 ps : List (Int × Int)
 inc : Int
 delay : Int
structure ClkZ where
 l0 : Int
 l1 : Int
 m0 : Int
 m1 : Int
 p0 : Int
 p1 : Int
 turn : Int
 since : Int
 st : Bool
 fallen : Int
deriving DecidableEq, Inhabited
def usedC (CR : CrZ) (c : ClkZ) (now : Int) : Int := if c.st = true then 0 else max 0 (now - c.since - CR.delay)
def capC (x : Int) : Int := if 100000000000 < x then 100000000000 else x
def madeC (x : Int) : Int := if 400 < x then 400 else x
def lookC (CR : CrZ) (c : ClkZ) (now : Int) : ClkZ :=
 if c.fallen < 0 then (if c.turn = 0 then (if c.l0 < usedC CR c now then { c with fallen := 0, l0 := 0 } else c) else (if c.l1 < usedC CR c now then { c with fallen := 1, l1 := 0 } else c)) else c
def fullC (CR : CrZ) (p m : Int) : Bool := decide (0 < (CR.ps.getD p.toNat (0, 0)).1 ∧ (CR.ps.getD p.toNat (0, 0)).1 ≤ madeC (m + 1))
def leftC (CR : CrZ) (c : ClkZ) (now l p m : Int) : Int :=
 if fullC CR p m = true then capC (capC (l - usedC CR c now + CR.inc) + (CR.ps.getD (p.toNat + 1) (0, 0)).2) else capC (l - usedC CR c now + CR.inc)
def pressC (CR : CrZ) (c : ClkZ) (now : Int) : ClkZ :=
 if c.turn = 0 then { c with l0 := leftC CR c now c.l0 c.p0 c.m0, m0 := if fullC CR c.p0 c.m0 = true then 0 else madeC (c.m0 + 1), p0 := if fullC CR c.p0 c.m0 = true then c.p0 + 1 else c.p0, turn := 1, since := now }
 else { c with l1 := leftC CR c now c.l1 c.p1 c.m1, m1 := if fullC CR c.p1 c.m1 = true then 0 else madeC (c.m1 + 1), p1 := if fullC CR c.p1 c.m1 = true then c.p1 + 1 else c.p1, turn := 0, since := now }
def startC (CR : CrZ) (now : Int) : ClkZ := ⟨(CR.ps.getD 0 (0, 0)).2, (CR.ps.getD 0 (0, 0)).2, 0, 0, 0, 0, 0, now, false, -1⟩
/-! ### offers -/
structure OffZ where
 b0 : Int
 b1 : Int
 l00 : Int
 l01 : Int
 l10 : Int
 l11 : Int
deriving DecidableEq, Inhabited
def newO : OffZ := ⟨-1, -1, -1, -1, -1, -1⟩
def byO (o : OffZ) (k : Int) : Int := if k = 0 then o.b0 else o.b1
def lastO (o : OffZ) (k p : Int) : Int := if k = 0 then (if p = 0 then o.l00 else o.l01) else (if p = 0 then o.l10 else o.l11)
def pliesO (player moves : Int) : Int := if moves % 2 = player then (if 2 ≤ moves then 2 else 0) else (if 1 ≤ moves then 1 else 0)
def makeE (o : OffZ) (k p n : Int) : Int := if ¬ (k = 0 ∨ k = 1) then 1 else if 0 ≤ byO o k then 7 else if lastO o k p = n then 11 else if k = 1 ∧ pliesO p n = 0 then 8 else 0
def makeO (o : OffZ) (k p n : Int) : OffZ :=
 if k = 0 then (if p = 0 then { o with b0 := 0, l00 := n } else { o with b0 := 1, l01 := n }) else (if p = 0 then { o with b1 := 0, l10 := n } else { o with b1 := 1, l11 := n })
def openE (o : OffZ) (k p n : Int) : Int := if ¬ (k = 0 ∨ k = 1) then 1 else if byO o k ≠ 1 - p then 10 else 0
def acceptO (o : OffZ) : OffZ := { o with b0 := -1, b1 := -1 }
def declineO (o : OffZ) (k : Int) : OffZ := if k = 0 then { o with b0 := -1 } else { o with b1 := -1 }
def moveO (o : OffZ) (p : Int) : OffZ := { o with b0 := if o.b0 = 1 - p then -1 else o.b0, b1 := -1 }
def backO (o : OffZ) (n : Int) : OffZ := ⟨-1, -1, min o.l00 n, min o.l01 n, min o.l10 n, min o.l11 n⟩
/-! ### events -/
structure EvZ where
 kind : Int
 player : Int
 n : Int
 now : Int
 m : MoveZ
deriving DecidableEq, Inhabited
/-- the text of an event. -/
def entryT (e : EvZ) : ByteArray :=
 ⟨(Lib.itoa e.kind ++ 32 :: (Lib.itoa e.player ++ 32 :: (Lib.itoa e.n ++ 32 :: (Lib.itoa e.now ++ 32 :: (Lib.itoa e.m.src ++ 32 :: (Lib.itoa e.m.dst ++ 32 :: Lib.itoa e.m.piece)))))).toArray⟩
def startT (now : Int) : ByteArray := ⟨(([115, 116, 97, 114, 116, 32] : List UInt8) ++ Lib.itoa now).toArray⟩
/-! ### matches -/
structure MatZ where
 R : RulesZ
 CR : CrZ
 ms : List MoveZ
 res : Int
 reason : Int
 clk : ClkZ
 off : OffZ
 prem : List PremZ
 last : Int
 jr : List EntZ
def MatZ.pos (M : MatZ) : PosZ := nowZ M.R M.ms
def MatZ.game (M : MatZ) : Int := gameRes M.R M.ms
def MatZ.over (M : MatZ) : MatZ := if M.game ≠ 0 ∧ M.res = 0 then { M with res := M.game, reason := 1 } else M
def MatZ.move (M : MatZ) (x : MoveZ) (now : Int) : MatZ := { M with ms := M.ms ++ [x], clk := pressC M.CR M.clk now, off := moveO M.off M.pos.turn }
/-- the announced moves that follow. -/
def MatZ.runs (now : Int) : Nat → MatZ → MatZ
 | 0, M => M
 | f + 1, M =>
  if M.game = 0 ∧ M.ms.length < 400 then
   (if nextOk M.R M.pos M.prem = true then MatZ.runs now f (MatZ.move { M with prem := nextRest M.R M.pos M.prem } (nextMv M.R M.pos M.prem) now) else { M with prem := nextRest M.R M.pos M.prem })
  else M
def MatZ.doMove (M : MatZ) (e : EvZ) : MatZ × Int :=
 if M.pos.turn ≠ e.player then (M, 12) else if e.m ∉ movesZ M.R M.pos then (M, 13) else if M.ms.length = 400 then (M, 2) else (MatZ.runs e.now 400 (M.move e.m e.now), 0)
def MatZ.doPremove (M : MatZ) (e : EvZ) : MatZ × Int :=
 if M.pos.turn = e.player then (M, 12) else if (ofZ M.prem e.player).length = 4 then (M, 9) else ({ M with prem := M.prem ++ [⟨e.player, e.m⟩] }, 0)
def MatZ.doOffer (M : MatZ) (e : EvZ) : MatZ × Int :=
 if e.kind = 3 then (if openE M.off e.n e.player M.ms.length ≠ 0 then (M, openE M.off e.n e.player M.ms.length) else ({ M with off := declineO M.off e.n }, 0))
 else (if makeE M.off e.n e.player M.ms.length ≠ 0 then (M, makeE M.off e.n e.player M.ms.length) else ({ M with off := makeO M.off e.n e.player M.ms.length }, 0))
def MatZ.backTo (M : MatZ) (k : Nat) (now : Int) : MatZ :=
 { M with ms := M.ms.take (M.ms.length - k), off := backO (acceptO M.off) ((M.ms.length - k : Nat) : Int), clk := { M.clk with turn := (nowZ M.R (M.ms.take (M.ms.length - k))).turn, since := now }, prem := [] }
def MatZ.doAccept (M : MatZ) (e : EvZ) : MatZ × Int :=
 if openE M.off e.n e.player M.ms.length ≠ 0 then (M, openE M.off e.n e.player M.ms.length)
 else if e.n = 0 then ({ M with off := acceptO M.off, res := 3, reason := 4 }, 0)
 else (M.backTo (pliesO (1 - e.player) M.ms.length).toNat e.now, 0)
def fallenZ (R : RulesZ) (p : PosZ) (player : Int) : Int := if canZ R p (1 - player) = true then 2 - player else 3
def MatZ.doClaim (M : MatZ) (e : EvZ) : MatZ × Int :=
 if e.n = 2 then
  (if (lookC M.CR M.clk e.now).fallen < 0 then (M, 10) else ({ M with clk := lookC M.CR M.clk e.now, res := fallenZ M.R M.pos (lookC M.CR M.clk e.now).fallen, reason := 2 }, 0))
 else if e.n ≠ 0 ∧ e.n ≠ 1 then (M, 1) else if M.pos.turn ≠ e.player then (M, 12)
 else if ¬ (e.n = 0 ∧ 3 ≤ countZ M.R M.ms ∨ e.n = 1 ∧ 20 ≤ M.pos.quiet) then (M, 10) else ({ M with res := 3, reason := 5 }, 0)
def MatZ.kind (M : MatZ) (e : EvZ) : MatZ × Int :=
 if e.kind = 0 then M.doMove e else if e.kind = 1 ∨ e.kind = 3 then M.doOffer e else if e.kind = 2 then M.doAccept e else if e.kind = 5 then M.doClaim e
 else if e.kind = 6 then M.doPremove e else ({ M with res := 2 - e.player, reason := 3 }, 0)
/-- what is refused ahead of all. -/
def MatZ.preE (M : MatZ) (e : EvZ) : Int :=
 if e.kind < 0 ∨ 6 < e.kind ∨ (e.player ≠ 0 ∧ e.player ≠ 1) then 1 else if e.now < M.last ∨ 100000000 < e.now then 11 else if M.res ≠ 0 then 14 else if M.jr.length = 1000 then 9
 else if 0 ≤ (lookC M.CR M.clk e.now).fallen ∧ e.kind ≠ 4 ∧ ¬ (e.kind = 5 ∧ e.n = 2) then 11 else 0
def entOf (l : List EntZ) (t : ByteArray) : EntZ := ⟨t, sumZ (lastJ l) t⟩
def MatZ.put (M : MatZ) (e : EvZ) : MatZ := { M with last := e.now, jr := M.jr ++ [entOf M.jr (entryT e)] }
def MatZ.go (M : MatZ) (e : EvZ) : MatZ × Int := if M.preE e ≠ 0 then (M, M.preE e) else if (M.kind e).2 ≠ 0 then (M, (M.kind e).2) else ((M.kind e).1.put e |>.over, 0)
def newM (R : RulesZ) (CR : CrZ) (now : Int) : MatZ := MatZ.over ⟨R, CR, [], 0, 0, startC CR now, newO, [], now, [entOf [] (startT now)]⟩
theorem kind_bad (M : MatZ) (e : EvZ) (h : (M.kind e).2 ≠ 0) : (M.kind e).1 = M := by
 revert h
 unfold MatZ.kind MatZ.doMove MatZ.doOffer MatZ.doAccept MatZ.doClaim MatZ.doPremove
 repeat' split
 all_goals first | (intro _; rfl) | (intro h; exact absurd rfl h)
end Go.Proofs.YtnodagljaoonjaaGreatDoor
namespace Go.Proofs.YtnodagljaoonjaaGreatDoor
open Go.ChangeShapes Go.WideShapes Go.ChangeAt Go.RowKit
set_option linter.unusedVariables false
structure CrG (CR : CrZ) : Prop where
 n : 1 ≤ CR.ps.length ∧ CR.ps.length ≤ 5
 inc : 0 ≤ CR.inc ∧ CR.inc ≤ 100000000
 del : 0 ≤ CR.delay ∧ CR.delay ≤ 100000000
 pm : ∀ k, k < CR.ps.length → 0 ≤ (CR.ps.getD k (0, 0)).1 ∧ (CR.ps.getD k (0, 0)).1 ≤ 400
 pt : ∀ k, k < CR.ps.length → 1 ≤ (CR.ps.getD k (0, 0)).2 ∧ (CR.ps.getD k (0, 0)).2 ≤ 100000000
 pz : ∀ k, k < CR.ps.length → ((CR.ps.getD k (0, 0)).1 = 0 ↔ k + 1 = CR.ps.length)
structure ClkG (CR : CrZ) (c : ClkZ) : Prop where
 t : 0 ≤ c.turn ∧ c.turn ≤ 1
 f : -1 ≤ c.fallen ∧ c.fallen ≤ 1
 s : 0 ≤ c.since ∧ c.since ≤ 100000000
 p0 : 0 ≤ c.p0 ∧ c.p0 ≤ (CR.ps.length : Int) - 1
 m0 : 0 ≤ c.m0 ∧ c.m0 ≤ 400
 l0 : 0 ≤ c.l0 ∧ c.l0 ≤ 100000000000
 p1 : 0 ≤ c.p1 ∧ c.p1 ≤ (CR.ps.length : Int) - 1
 m1 : 0 ≤ c.m1 ∧ c.m1 ≤ 400
 l1 : 0 ≤ c.l1 ∧ c.l1 ≤ 100000000000
theorem used_zero {CR : CrZ} {c : ClkZ} {now : Int} (h : CrG CR) (hs : c.since = now) : usedC CR c now = 0 := by
 have := h.del
 unfold usedC
 split <;> omega
theorem capC_b {x : Int} (h : 0 ≤ x) : 0 ≤ capC x ∧ capC x ≤ 100000000000 := by unfold capC; split <;> omega
theorem madeC_b {x : Int} (h : 0 ≤ x) : 0 ≤ madeC x ∧ madeC x ≤ 400 := by unfold madeC; split <;> omega
theorem full_p {CR : CrZ} {p m : Int} (h : CrG CR) (hp : 0 ≤ p ∧ p ≤ (CR.ps.length : Int) - 1) (hf : fullC CR p m = true) : p + 1 ≤ (CR.ps.length : Int) - 1 := by
 unfold fullC at hf
 have hf := of_decide_eq_true hf
 have hz := h.pz p.toNat (by omega)
 by_cases e : p.toNat + 1 = CR.ps.length
 ·have := hz.2 e; omega
 ·omega
theorem left_b {CR : CrZ} {c : ClkZ} {now l p m : Int} (h : CrG CR) (hp : 0 ≤ p ∧ p ≤ (CR.ps.length : Int) - 1) (hu : usedC CR c now ≤ l) : 0 ≤ leftC CR c now l p m ∧ leftC CR c now l p m ≤ 100000000000 := by
 have := h.inc
 have hb := capC_b (x := l - usedC CR c now + CR.inc) (by omega)
 unfold leftC
 by_cases hf : fullC CR p m = true
 ·rw [if_pos hf]
  have h1 := full_p h hp hf
  have h2 := h.pt (p.toNat + 1) (by omega)
  exact capC_b (by omega)
 ·rw [if_neg hf]; exact hb
theorem press_g {CR : CrZ} {c : ClkZ} {now : Int} (h : CrG CR) (k : ClkG CR c) (h0 : 0 ≤ now) (h1 : now ≤ 100000000) (hu : usedC CR c now ≤ if c.turn = 0 then c.l0 else c.l1) : ClkG CR (pressC CR c now) := by
 unfold pressC
 by_cases ht : c.turn = 0
 ·rw [if_pos ht] at hu ⊢
  refine ⟨by dsimp only; decide, k.f, ⟨h0, h1⟩, ?_, ?_, left_b h k.p0 hu, k.p1, k.m1, k.l1⟩
  ·show 0 ≤ (if fullC CR c.p0 c.m0 = true then c.p0 + 1 else c.p0) ∧ (if fullC CR c.p0 c.m0 = true then c.p0 + 1 else c.p0) ≤ (CR.ps.length : Int) - 1
   by_cases hf : fullC CR c.p0 c.m0 = true
   ·rw [if_pos hf]; have := full_p h k.p0 hf; have := k.p0; omega
   ·rw [if_neg hf]; exact k.p0
  ·show 0 ≤ (if fullC CR c.p0 c.m0 = true then 0 else madeC (c.m0 + 1)) ∧ (if fullC CR c.p0 c.m0 = true then 0 else madeC (c.m0 + 1)) ≤ 400
   by_cases hf : fullC CR c.p0 c.m0 = true
   ·rw [if_pos hf]; omega
   ·rw [if_neg hf]; have := k.m0; exact madeC_b (by omega)
 ·rw [if_neg ht] at hu ⊢
  refine ⟨by dsimp only; decide, k.f, ⟨h0, h1⟩, k.p0, k.m0, k.l0, ?_, ?_, left_b h k.p1 hu⟩
  ·show 0 ≤ (if fullC CR c.p1 c.m1 = true then c.p1 + 1 else c.p1) ∧ (if fullC CR c.p1 c.m1 = true then c.p1 + 1 else c.p1) ≤ (CR.ps.length : Int) - 1
   by_cases hf : fullC CR c.p1 c.m1 = true
   ·rw [if_pos hf]; have := full_p h k.p1 hf; have := k.p1; omega
   ·rw [if_neg hf]; exact k.p1
  ·show 0 ≤ (if fullC CR c.p1 c.m1 = true then 0 else madeC (c.m1 + 1)) ∧ (if fullC CR c.p1 c.m1 = true then 0 else madeC (c.m1 + 1)) ≤ 400
   by_cases hf : fullC CR c.p1 c.m1 = true
   ·rw [if_pos hf]; omega
   ·rw [if_neg hf]; have := k.m1; exact madeC_b (by omega)
theorem press_rest (CR : CrZ) (c : ClkZ) (now : Int) : (pressC CR c now).since = now ∧ (pressC CR c now).fallen = c.fallen ∧ (pressC CR c now).st = c.st := by
 unfold pressC; split <;> exact ⟨rfl, rfl, rfl⟩
theorem look_g {CR : CrZ} {c : ClkZ} (k : ClkG CR c) (now : Int) : ClkG CR (lookC CR c now) := by
 unfold lookC
 repeat' split
 ·exact ⟨k.t, by dsimp only; decide, k.s, k.p0, k.m0, ⟨Int.le_refl _, by dsimp only; decide⟩, k.p1, k.m1, k.l1⟩
 ·exact k
 ·exact ⟨k.t, by dsimp only; decide, k.s, k.p0, k.m0, k.l0, k.p1, k.m1, ⟨Int.le_refl _, by dsimp only; decide⟩⟩
 ·exact k
 ·exact k
theorem look_used {CR : CrZ} {c : ClkZ} {now : Int} (hf : c.fallen < 0) (h : (lookC CR c now).fallen < 0) : usedC CR c now ≤ if c.turn = 0 then c.l0 else c.l1 := by
 unfold lookC at h
 rw [if_pos hf] at h
 by_cases ht : c.turn = 0
 ·rw [if_pos ht] at h ⊢
  by_cases hl : c.l0 < usedC CR c now
  ·rw [if_pos hl] at h; exact absurd h (by dsimp only; decide)
  ·omega
 ·rw [if_neg ht] at h ⊢
  by_cases hl : c.l1 < usedC CR c now
  ·rw [if_pos hl] at h; exact absurd h (by dsimp only; decide)
  ·omega
theorem look_rest (CR : CrZ) (c : ClkZ) (now : Int) : (lookC CR c now).since = c.since ∧ (lookC CR c now).st = c.st := by
 unfold lookC; repeat' split
 all_goals exact ⟨rfl, rfl⟩
structure OffG (o : OffZ) : Prop where
 l00 : -1 ≤ o.l00 ∧ o.l00 ≤ 400
 l01 : -1 ≤ o.l01 ∧ o.l01 ≤ 400
 l10 : -1 ≤ o.l10 ∧ o.l10 ≤ 400
 l11 : -1 ≤ o.l11 ∧ o.l11 ≤ 400
 b0 : -1 ≤ o.b0 ∧ o.b0 ≤ 1
 b1 : -1 ≤ o.b1 ∧ o.b1 ≤ 1
 f00 : ¬ (o.b0 = 0 ∧ o.l00 = -1)
 f01 : ¬ (o.b0 = 1 ∧ o.l01 = -1)
 f10 : ¬ (o.b1 = 0 ∧ o.l10 = -1)
 f11 : ¬ (o.b1 = 1 ∧ o.l11 = -1)
theorem new_og : OffG newO := ⟨by decide, by decide, by decide, by decide, by decide, by decide, by decide, by decide, by decide, by decide⟩
theorem make_og {o : OffZ} (h : OffG o) (k p : Int) (n : Nat) (hn : n ≤ 400) : OffG (makeO o k p n) := by
 obtain ⟨a1, a2, a3, a4, a5, a6, a7, a8, a9, a10⟩ := h
 unfold makeO
 repeat' split
 all_goals constructor <;> simp <;> omega
theorem accept_og {o : OffZ} (h : OffG o) : OffG (acceptO o) := by
 obtain ⟨a1, a2, a3, a4, a5, a6, a7, a8, a9, a10⟩ := h
 unfold acceptO
 constructor <;> simp <;> omega
theorem decline_og {o : OffZ} (h : OffG o) (k : Int) : OffG (declineO o k) := by
 obtain ⟨a1, a2, a3, a4, a5, a6, a7, a8, a9, a10⟩ := h
 unfold declineO
 repeat' split
 all_goals constructor <;> simp <;> omega
theorem move_og {o : OffZ} (h : OffG o) (p : Int) : OffG (moveO o p) := by
 obtain ⟨a1, a2, a3, a4, a5, a6, a7, a8, a9, a10⟩ := h
 unfold moveO
 constructor <;> simp <;> (try split) <;> omega
theorem back_og {o : OffZ} (h : OffG o) (n : Nat) : OffG (backO o n) := by
 obtain ⟨a1, a2, a3, a4, a5, a6, a7, a8, a9, a10⟩ := h
 unfold backO
 constructor <;> simp <;> omega
/-! ### announced moves -/
structure PremG (l : List PremZ) : Prop where
 n0 : (ofZ l 0).length ≤ 4
 n1 : (ofZ l 1).length ≤ 4
 pl : ∀ x ∈ l, x.player = 0 ∨ x.player = 1
theorem of_sub {l l' : List PremZ} (h : List.Sublist l' l) (pl : Int) : (ofZ l' pl).length ≤ (ofZ l pl).length := by
 unfold ofZ
 rw [List.length_map, List.length_map]
 exact (h.filter _).length_le
theorem PremG.sub {l l' : List PremZ} (h : PremG l) (hs : List.Sublist l' l) : PremG l' :=
 ⟨Nat.le_trans (of_sub hs 0) h.n0, Nat.le_trans (of_sub hs 1) h.n1, fun x hx => h.pl x (hs.subset hx)⟩
theorem rest_sub (R : RulesZ) (p : PosZ) (l : List PremZ) : List.Sublist (nextRest R p l) l := by
 unfold nextRest
 split
 ·generalize (nextIx p l).toNat = k
  have h := List.Sublist.append (List.Sublist.refl (l.take k)) (List.Sublist.trans (List.drop_sublist 1 _) (List.Sublist.refl (l.drop k)))
  rw [List.drop_drop, List.take_append_drop] at h
  rw [Nat.add_comm] at h
  exact (by simpa [Nat.add_comm] using h)
 ·unfold withoutZ; exact List.filter_sublist
theorem PremG.len {l : List PremZ} (h : PremG l) : l.length ≤ 8 := by
 have key : ∀ l : List PremZ, (∀ x ∈ l, x.player = 0 ∨ x.player = 1) → l.length = (ofZ l 0).length + (ofZ l 1).length := by
  intro l
  induction l with
  | nil => intro _; rfl
  | cons x t ih =>
   intro hx
   have i := ih (fun y hy => hx y (List.mem_cons_of_mem _ hy))
   unfold ofZ at i ⊢
   rcases hx x (List.mem_cons_self ..) with e | e
   ·simp [List.filter_cons, e] at i ⊢; omega
   ·simp [List.filter_cons, e] at i ⊢; omega
 have := key l h.pl
 have := h.n0; have := h.n1; omega
theorem PremG.add {l : List PremZ} (h : PremG l) (pl : Int) (m : MoveZ) (hp : pl = 0 ∨ pl = 1) (hf : (ofZ l pl).length ≠ 4) : PremG (l ++ [⟨pl, m⟩]) := by
 have h0 := h.n0; have h1 := h.n1
 rcases hp with rfl | rfl
 ·refine ⟨?_, ?_, ?_⟩
  ·unfold ofZ at hf h0 ⊢; simp at hf h0 ⊢; omega
  ·unfold ofZ at h1 ⊢; simp at h1 ⊢; omega
  ·intro x hx; rcases List.mem_append.1 hx with hx | hx
   ·exact h.pl x hx
   ·rw [List.mem_singleton.1 hx]; exact .inl rfl
 ·refine ⟨?_, ?_, ?_⟩
  ·unfold ofZ at h0 ⊢; simp at h0 ⊢; omega
  ·unfold ofZ at hf h1 ⊢; simp at hf h1 ⊢; omega
  ·intro x hx; rcases List.mem_append.1 hx with hx | hx
   ·exact h.pl x hx
   ·rw [List.mem_singleton.1 hx]; exact .inr rfl
end Go.Proofs.YtnodagljaoonjaaGreatDoor
namespace Go.Proofs.YtnodagljaoonjaaGreatDoor.gx
open Go.ChangeShapes Go.WideShapes Go.ChangeAt Go.RowKit
set_option linter.unusedVariables false
def Held (X S : Nat → Prop) (w : World) (D : World → Prop) : Prop := ∀ w', Fr (fun k => S k ∨ X k) w w' → D w'
theorem Held.now {X S : Nat → Prop} {w : World} {D : World → Prop} (h : Held X S w D) : D w := h w (Fr.refl _ _)
theorem Held.stepX {X S S' : Nat → Prop} {w w1 : World} {D : World → Prop} (h : Held X S w D) (hf : Fr (fun k => S k ∨ X k) w w1) (hs : Shr w S S') : Held X S' w1 D := fun w' hw => h w' (hf.trans hw (fun k hk h' => by rcases h' with h' | h'; exact .inl (hs k hk h'); exact .inr h'))
theorem Held.step {X S S' : Nat → Prop} {w w1 : World} {D : World → Prop} (h : Held X S w D) (hf : Fr S w w1) (hs : Shr w S S') : Held X S' w1 D := h.stepX (hf.mono (fun k _ h => .inl h)) hs
theorem Held.imp {X S : Nat → Prop} {w : World} {D D' : World → Prop} (h : Held X S w D) (hd : ∀ w', D w' → D' w') : Held X S w D' := fun w' hw => hd w' (h w' hw)
theorem Held.old {X S : Nat → Prop} {B : Nat} {w : World} {D : World → Prop} (h : ∀ w', Below B w w' → D w') (hS : ∀ k, S k → B ≤ k) (hX : ∀ k, X k → B ≤ k) (hB : B ≤ w.heap.size) : Held X S w D := fun w' hw => h w' (hw.below (fun k hk => by rcases hk with hk | hk; exact hS k hk; exact hX k hk) hB)
theorem Held.plain {X S : Nat → Prop} {w : World} {D : World → Prop} (h : Held X S w D) : Go.Proofs.YtnodagljaoonjaaGreatDoor.Held S w D := fun w' hw => h w' (hw.mono (fun k _ h => .inl h))
theorem ownP_held {X S : Nat → Prop} {w : World} {base : Nat} {p : PosZ} {vc v0 v1 : Value} (h : OwnP base w p vc v0 v1) (hS : ∀ k, base ≤ k → k < w.heap.size → ¬ (S k ∨ X k)) : Held X S w fun w' => OwnP base w' p vc v0 v1 := fun w' hw => Go.Proofs.YtnodagljaoonjaaGreatDoor.ownP_held h hS w' hw
theorem seen_held {lo : Nat} {w w2 : World} {D : World → Prop} {X S : Nat → Prop} (h : Seen lo w D) (hb : Below w.heap.size w w2) (hS : ∀ k, (S k ∨ X k) → k < lo ∨ w.heap.size ≤ k) : Held X S w2 D := fun w' hw => h.held hb hS w' hw
/-- a game in block b; it writes the blocks S alone, which lie from base on; what it reads lies outside S and X. -/
structure GameAt (X S : Nat → Prop) (base : Nat) (w : World) (b : Nat) (R : RulesZ) (ms : List MoveZ) (vp vs ve vl vm : Value) (rows : List PosV) : Prop where
 box : Box w b [.string R.name, .int .i64 R.width, .int .i64 R.height, vp, vs, .bool R.falls, .bool R.keeps, ve, .int .i64 R.blocked, .int .i64 R.quiet, .int .i64 R.rept, vl, vm] 115
 sb : S b
 lo : ∀ k, S k → base ≤ k ∧ k < w.heap.size
 rd : Held X S w fun w' => RdR w' R vp vs ve
 ol : w.ownsRow base 59 5 vl (ms.length + 1) (flatV rows)
 mp : rows.map (·.p) = psOf R ms
 rw : ∀ r ∈ rows, Held X S w fun w' => RdP w' r.p r.vc r.v0 r.v1
 om : w.ownsRow base 38 3 vm ms.length (flatM ms)
 sl : ∀ k, vl.ownBlock = some k → S k ∧ k ≠ b
 sm : ∀ k, vm.ownBlock = some k → S k ∧ k ≠ b
 ap : vl.ownBlock = none ∨ vl.ownBlock ≠ vm.ownBlock
 lt : ms.length ≤ 400
 la : LegalAll R (beginZ R) ms
 re : rulesErr R = 0
variable {X S : Nat → Prop} {base : Nat} {w w' : World} {b : Nat} {R : RulesZ} {ms : List MoveZ} {vp vs ve vl vm : Value} {rows : List PosV}
theorem GameAt.plain (h : GameAt X S base w b R ms vp vs ve vl vm rows) : Go.Proofs.YtnodagljaoonjaaGreatDoor.GameAt S base w b R ms vp vs ve vl vm rows :=
 ⟨h.box, h.sb, h.lo, h.rd.plain, h.ol, h.mp, fun r hr => (h.rw r hr).plain, h.om, h.sl, h.sm, h.ap, h.lt, h.la, h.re⟩
theorem GameAt.below (h : GameAt X S base w b R ms vp vs ve vl vm rows) (hb : Below w.heap.size w w') : GameAt X S base w' b R ms vp vs ve vl vm rows :=
 ⟨h.box.stays hb, h.sb, fun k hk => ⟨(h.lo k hk).1, Nat.lt_of_lt_of_le (h.lo k hk).2 hb.size⟩, h.rd.step (Fr.of_new (S := S) hb) (Shr.refl _ _), own_stays h.ol hb, h.mp, fun r hr => (h.rw r hr).step (Fr.of_new (S := S) hb) (Shr.refl _ _), own_stays h.om hb, h.sl, h.sm, h.ap, h.lt, h.la, h.re⟩
theorem GameAt.pok (h : GameAt X S base w b R ms vp vs ve vl vm rows) (k : Nat) (hk : k ≤ ms.length) : POk R (posAt R (beginZ R) (ms.take k)) := posAt_ok (begin_ok h.re) h.la k hk
theorem GameAt.nok (h : GameAt X S base w b R ms vp vs ve vl vm rows) : POk R (nowZ R ms) := h.plain.nok
/-- what happens in the blocks X alone, and new. -/
theorem GameAt.other (h : GameAt X S base w b R ms vp vs ve vl vm rows) (hf : Fr X w w') (hx : ∀ k, S k → ¬ X k) : GameAt X S base w' b R ms vp vs ve vl vm rows := by
 have hF : Fr (fun k => S k ∨ X k) w w' := hf.mono (fun k _ h => .inr h)
 exact ⟨h.box.held hf (hx b h.sb), h.sb, fun k hk => ⟨(h.lo k hk).1, Nat.lt_of_lt_of_le (h.lo k hk).2 hf.size⟩, h.rd.stepX hF (Shr.refl _ _), own_held h.ol hf (fun k hk => hx k (h.sl k hk).1), h.mp, fun r hr => (h.rw r hr).stepX hF (Shr.refl _ _), own_held h.om hf (fun k hk => hx k (h.sm k hk).1), h.sl, h.sm, h.ap, h.lt, h.la, h.re⟩
end Go.Proofs.YtnodagljaoonjaaGreatDoor.gx

/- RecA, MvRev, RecB, RecC, in one text. -/
import Derived.Test.YtnieifdogllbfaaEng
import Derived.Test.YtnieifdogllbfaaEngChkA
import Derived.Laws.Externs
import Derived.BigQuiet
import Derived.Deep.Cut
import Derived.Deep.QuietTactic
import Derived.Test.YtnieifdogllbfaaApp
import Derived.Test.YtnieifdogllbfaaHeldL
import Derived.Test.YtnieifdogllbfaaBox
import Derived.Test.YtnieifdogllbfaaOwn
import Derived.Test.YtnieifdogllbfaaMvI
import Derived.Test.YtnieifdogllbfaaRdL
import Derived.Test.YtnieifdogllbfaaSub
import Derived.Test.YtnieifdogllbfaaIntsFunc
/- strings.IndexByte; record's texts in memory. -/
namespace Go.Proofs.Ytnieifdogllbfaa
open Go.ChangeShapes Go.WideShapes Go.ChangeAt Go.RowKit
set_option linter.unusedVariables false

theorem callIdx (s : ByteArray) (c : Int) (w : World) : (callFunc 78 #[.string s, .int .u8 c]).run Try.prog w = .ok (.value (.int .i64 (firstIdx s c.toNat.toUInt8))) w := by
  rw [run_callFunc_extern (e := Extern.BytealgIndexByte.indexByte) Try.func78 (by kernel_rfl) (by kernel_rfl) (by kernel_rfl) (by kernel_rfl), run_indexByte_string]
  rfl
theorem slIdx_any (s : ByteArray) (c : Int) (w : World) : Calls Try.prog 71 #[.string s, .int .u8 c] w fun e w' => e = .returned (.int .i64 (firstIdx s c.toNat.toUInt8)) ∧ w = w' := by
  have hx := callIdx s c
  go_enter Try.func71, Try.ntmps71
  go_wp2_with fail
  go_ret
  exact ⟨rfl, rfl⟩
theorem idxByte_any (s : ByteArray) (c : Int) (w : World) : Calls Try.prog 50 #[.string s, .int .u8 c] w fun e w' => e = .returned (.int .i64 (firstIdx s c.toNat.toUInt8)) ∧ w = w' := by
  go_enter Try.func50, Try.ntmps50
  go_wp2_with (go_at_call 71; refine (slIdx_any s c w).mono ?_; rintro e w1 ⟨rfl, rfl⟩)
  go_ret
  exact ⟨rfl, rfl⟩

/-- a permitted byte. -/
def chOk (nt : ByteArray) (b : UInt8) : Bool := !(decide (b.toNat < 32) || (decide (126 < b.toNat) || decide (0 ≤ firstIdx nt b)))
def printFrom (nt : ByteArray) (l : List UInt8) : Nat → Nat → Bool
  | _, 0 => true
  | k, m + 1 => chOk nt (l.getD k 0) && printFrom nt l (k + 1) m
def printB (s nt : ByteArray) : Bool := printFrom nt s.data.toList 0 s.size
theorem printFrom_step (nt : ByteArray) (l : List UInt8) (k n : Nat) (h : k < n) : printFrom nt l k (n - k) = (chOk nt (l.getD k 0) && printFrom nt l (k + 1) (n - (k + 1))) := by
  rw [show n - k = (n - (k + 1)) + 1 by omega]; rfl
def braces : ByteArray := ⟨#[123, 125]⟩
def quote : ByteArray := ⟨#[34]⟩
def cmtErr (s : ByteArray) : Int := if 60 < s.size then 2 else if printB s braces = false then 3 else 0

set_option maxHeartbeats 2000000 in
theorem printable_any (s nt : ByteArray) (w : World) (hs : s.size ≤ maxLen) :
    Calls Try.prog 31 #[.string s, .string nt] w fun e w' => e = .returned (.bool (printB s nt)) ∧ w = w' := by
  unfold maxLen at hs
  have HN : Hid (printB s nt = printFrom nt s.data.toList 0 s.size) := Lib.hid rfl
  go_enter Try.func31, Try.ntmps31
  go_wp2_with fail
  go_loop [8, 5] (fun i v5 => ∃ (k : Nat) (o : Value), o = v5 ∧ k ≤ s.size ∧ i = .int .i64 k ∧ Hid (printFrom nt s.data.toList 0 s.size = printFrom nt s.data.toList k (s.size - k))) (fun i _ => s.size - (intOf i).toNat)
  case atStart => exact ⟨0, _, rfl, Nat.zero_le _, rfl, Lib.hid rfl⟩
  case round =>
    obtain ⟨k, o, rfl, hk, rfl, HK⟩ := hrel
    by_cases hlt : k < s.size
    · have HS := Lib.hid (printFrom_step nt s.data.toList k s.size hlt)
      have HB := Lib.hid (byte_at s k hlt)
      have HC : Hid (chOk nt (s.data.toList.getD k 0) = !(decide (s[k].toNat < 32) || (decide (126 < s[k].toNat) || decide (0 ≤ firstIdx nt s[k])))) := Lib.hid (by rw [HB.out]; rfl)
      have HU : Hid (((s[k].toNat : Nat) : Int).toNat.toUInt8 = s[k]) := Lib.hid (by simp)
      by_cases c1 : (s[k].toNat : Int) < 32
      · go_wp2_with fail
        go_ret
        exact ⟨by rw [HN.out, HK.out, HS.out, HC.out, decide_eq_true (show s[k].toNat < 32 by omega)]; rfl, rfl⟩
      · by_cases c2 : (126 : Int) < (s[k].toNat : Int)
        · go_wp2_with fail
          go_ret
          exact ⟨by rw [HN.out, HK.out, HS.out, HC.out, decide_eq_true (show 126 < s[k].toNat by omega)]; simp, rfl⟩
        · have HI := Lib.hid (idxByte_any nt (s[k].toNat : Int) w)
          rw [HU.out] at HI
          have HC2 : Hid (chOk nt (s.data.toList.getD k 0) = !decide (0 ≤ firstIdx nt s[k])) := Lib.hid (by rw [HC.out, decide_eq_false (show ¬ s[k].toNat < 32 by omega), decide_eq_false (show ¬ 126 < s[k].toNat by omega)]; rfl)
          generalize firstIdx nt s[k] = q at *
          by_cases c3 : 0 ≤ q
          · go_wp2_with (go_at_call 50; refine HI.out.mono ?_; rintro e w1 ⟨rfl, rfl⟩)
            go_ret
            exact ⟨by rw [HN.out, HK.out, HS.out, HC2.out, decide_eq_true c3]; rfl, rfl⟩
          · go_wp2_with (go_at_call 50; refine HI.out.mono ?_; rintro e w1 ⟨rfl, rfl⟩)
            go_round
            case rel => exact ⟨k + 1, _, rfl, by omega, by go_num, Lib.hid (by rw [HK.out, HS.out, HC2.out, decide_eq_false (show ¬ 0 ≤ q by omega)]; rfl)⟩
            case measure => simp [intOf]; omega
    · obtain rfl : k = s.size := by omega
      go_wp2_with fail
      go_ret
      exact ⟨by rw [HN.out, HK.out, Nat.sub_self]; rfl, rfl⟩
theorem comment_any (s : ByteArray) (w : World) (hs : s.size ≤ maxLen) :
    Calls Try.prog 15 #[.string s] w fun e w' => e = .returned (.int .i64 (cmtErr s)) ∧ w = w' := by
  have HC : Hid (cmtErr s = if 60 < s.size then 2 else if printB s braces = false then 3 else 0) := Lib.hid rfl
  have HP : Hid (Calls Try.prog 31 #[.string s, .string { data := #[123, 125] }] w fun e w' => e = .returned (.bool (printB s braces)) ∧ w = w') := Lib.hid (printable_any s braces w hs)
  unfold maxLen at hs
  go_enter Try.func15, Try.ntmps15
  by_cases h60 : (60 : Int) < (s.size : Int)
  · go_wp2_with fail
    go_ret
    exact ⟨by rw [HC.out, if_pos (by omega)]; rfl, rfl⟩
  · cases hb : printB s braces
    · rw [hb] at HP
      go_wp2_with (go_at_call 31; refine HP.out.mono ?_; rintro e w1 ⟨rfl, rfl⟩)
      go_ret
      exact ⟨by rw [HC.out, if_neg (by omega), if_pos hb]; rfl, rfl⟩
    · rw [hb] at HP
      go_wp2_with (go_at_call 31; refine HP.out.mono ?_; rintro e w1 ⟨rfl, rfl⟩)
      go_ret
      exact ⟨by rw [HC.out, if_neg (by omega), if_neg (by rw [hb]; decide)]; rfl, rfl⟩
end Go.Proofs.Ytnieifdogllbfaa
/- slices.Reverse of a row of moves that the call owns. -/
namespace Go.Proofs.Ytnieifdogllbfaa
open Go.ChangeShapes Go.WideShapes Go.ChangeAt Go.RowKit
set_option linter.unusedVariables false

theorem flatM_set : ∀ (l : List MoveZ) (i : Nat) (m : MoveZ), i < l.length → (((flatM l).set (i * 3) (.int .i64 m.src)).set (i * 3 + 1) (.int .i64 m.dst)).set (i * 3 + 2) (.int .i64 m.piece) = flatM (l.set i m)
  | [], i, m, h => absurd h (Nat.not_lt_zero _)
  | x :: t, 0, m, h => by simp [flatM]
  | x :: t, i + 1, m, h => by
    have ih := flatM_set t i m (by simpa using h)
    have e : flatM (x :: t) = [.int .i64 x.src, .int .i64 x.dst, .int .i64 x.piece] ++ flatM t := by simp [flatM]
    have e2 : flatM (x :: t.set i m) = [.int .i64 x.src, .int .i64 x.dst, .int .i64 x.piece] ++ flatM (t.set i m) := by simp [flatM]
    rw [List.set_cons_succ, e2, ← ih, e, show (i + 1) * 3 = i * 3 + 3 by omega]
    simp [List.set_append]
theorem flatM_at3 : ∀ (l : List MoveZ) (i : Nat), i < l.length → (flatM l)[i * 3]? = some (.int .i64 (l.getD i default).src) ∧ (flatM l)[i * 3 + 1]? = some (.int .i64 (l.getD i default).dst) ∧ (flatM l)[i * 3 + 2]? = some (.int .i64 (l.getD i default).piece)
  | [], i, h => absurd h (Nat.not_lt_zero _)
  | x :: t, 0, h => by simp [flatM]
  | x :: t, i + 1, h => by
    have ih := flatM_at3 t i (by simpa using h)
    rw [show (i + 1) * 3 = i * 3 + 3 by omega]
    simpa [flatM] using ih
theorem own_atM {w : World} {base G n c : Nat} {ms : List MoveZ} (h : w.ownsRow base 57 3 (.slice (some ⟨G, 0, none⟩) n c) n (flatM ms)) (i : Nat) (hi : i < ms.length) :
    w.cell? ⟨G, i * 3, none⟩ = some (.int .i64 (ms.getD i default).src) ∧ w.cell? ⟨G, i * 3 + 1, none⟩ = some (.int .i64 (ms.getD i default).dst) ∧ w.cell? ⟨G, i * 3 + 2, none⟩ = some (.int .i64 (ms.getD i default).piece) := by
  have hl := h.1
  rw [flatM_len] at hl
  obtain ⟨a, b, d⟩ := flatM_at3 ms i hi
  exact ⟨(h.cellAt _ (by omega)).trans a, (h.cellAt _ (by omega)).trans b, (h.cellAt _ (by omega)).trans d⟩
theorem own_setM {w : World} {base G n c : Nat} {ms : List MoveZ} (h : w.ownsRow base 57 3 (.slice (some ⟨G, 0, none⟩) n c) n (flatM ms)) (i : Nat) (m : MoveZ) (hi : i < ms.length) :
    (((w.setCell ⟨G, i * 3, none⟩ (.int .i64 m.src)).setCell ⟨G, i * 3 + 1, none⟩ (.int .i64 m.dst)).setCell ⟨G, i * 3 + 2, none⟩ (.int .i64 m.piece)).ownsRow base 57 3 (.slice (some ⟨G, 0, none⟩) n c) n (flatM (ms.set i m)) := by
  have h1 := (((h.stored (i * 3) (.int .i64 m.src)).1.stored (i * 3 + 1) (.int .i64 m.dst)).1.stored (i * 3 + 2) (.int .i64 m.piece)).1
  rw [flatM_set ms i m hi] at h1
  exact h1
theorem below_setM {base G : Nat} {w0 w : World} (h : Below base w0 w) (hG : base ≤ G) (i : Nat) (m : MoveZ) :
    Below base w0 (((w.setCell ⟨G, i * 3, none⟩ (.int .i64 m.src)).setCell ⟨G, i * 3 + 1, none⟩ (.int .i64 m.dst)).setCell ⟨G, i * 3 + 2, none⟩ (.int .i64 m.piece)) :=
  ((h.setCell (p := ⟨G, i * 3, none⟩) hG _).setCell (p := ⟨G, i * 3 + 1, none⟩) hG _).setCell (p := ⟨G, i * 3 + 2, none⟩) hG _
/-- the first k and the last k of n exchanged. -/
def rvAt (n k j : Nat) : Nat := if j < k ∨ n - 1 - j < k then n - 1 - j else j
theorem setM_getD (l : List MoveZ) (i j : Nat) (m : MoveZ) (hi : i < l.length) : (l.set i m).getD j default = if j = i then m else l.getD j default := by
  simp only [List.getD_eq_getElem?_getD, List.getElem?_set]
  by_cases e : i = j
  · subst e; simp [hi]
  · rw [if_neg e, if_neg (fun h => e h.symm)]
theorem rv_step (zs ys : List MoveZ) (n k : Nat) (hk : k + k + 1 < n) (hn : zs.length = n) (hl : ys.length = n) (h : ∀ j, j < n → ys.getD j default = zs.getD (rvAt n k j) default) :
    ∀ j, j < n → ((ys.set k (ys.getD (n - 1 - k) default)).set (n - 1 - k) (ys.getD k default)).getD j default = zs.getD (rvAt n (k + 1) j) default := by
  intro j hj
  rw [setM_getD _ _ _ _ (by rw [List.length_set]; omega), setM_getD _ _ _ _ (by omega)]
  by_cases e1 : j = n - 1 - k
  · rw [if_pos e1, h k (by omega)]
    congr 1
    unfold rvAt
    rw [if_neg (by omega), if_pos (by omega)]
    omega
  · rw [if_neg e1]
    by_cases e2 : j = k
    · rw [if_pos e2, h (n - 1 - k) (by omega)]
      congr 1
      unfold rvAt
      rw [if_neg (by omega), if_pos (by omega)]
      omega
    · rw [if_neg e2, h j hj]
      congr 1
      unfold rvAt
      by_cases e3 : j < k ∨ n - 1 - j < k
      · rw [if_pos e3, if_pos (by omega)]
      · rw [if_neg e3, if_neg (by omega)]
theorem rv_end (zs ys : List MoveZ) (n k : Nat) (hk : ¬ k + k + 1 < n) (hn : zs.length = n) (hl : ys.length = n) (h : ∀ j, j < n → ys.getD j default = zs.getD (rvAt n k j) default) : ys = zs.reverse := by
  apply List.ext_getElem (by rw [List.length_reverse, hl, hn])
  intro j h1 h2
  have := h j (by omega)
  have e : rvAt n k j = n - 1 - j := by
    unfold rvAt
    by_cases e3 : j < k ∨ n - 1 - j < k
    · rw [if_pos e3]
    · rw [if_neg e3]; omega
  rw [e, List.getD_eq_getElem?_getD, List.getD_eq_getElem?_getD, List.getElem?_eq_getElem h1, List.getElem?_eq_getElem (by omega)] at this
  rw [List.getElem_reverse]
  simp only [Option.getD_some] at this
  rw [this]
  congr 1
  omega
set_option maxRecDepth 100000 in
set_option maxHeartbeats 4000000 in
theorem ReverseM_any (zs : List MoveZ) (G n c base : Nat) (w0 w : World) (h : w.ownsRow base 57 3 (.slice (some ⟨G, 0, none⟩) n c) n (flatM zs)) (hb : Below base w0 w) (hn : n ≤ 1000000) :
    Calls Try.prog 37 #[.slice (some ⟨G, 0, none⟩) n c] w fun e w' => e = .returned (.tuple #[]) ∧ w'.ownsRow base 57 3 (.slice (some ⟨G, 0, none⟩) n c) n (flatM zs.reverse) ∧ Below base w0 w' := by
  have HO := Lib.hid h
  have HB := Lib.hid hb
  have HZ : Hid (zs.length = n) := Lib.hid (by have := h.1; rw [flatM_len] at this; omega)
  have hgb : base ≤ G := (h.lt G rfl).1
  have hgl := (h.lt G rfl).2
  clear h hb
  go_enter Try.func37, Try.ntmps37
  go_wp2_with fail
  go_loopw [2, 3] (fun i j wr => ∃ (k : Nat) (ys : List MoveZ), k + k ≤ n + 1 ∧ i = .int .i64 k ∧ j = .int .i64 ((n : Int) - 1 - k) ∧ Hid (ys.length = n) ∧ Hid (∀ j, j < n → ys.getD j default = zs.getD (rvAt n k j) default) ∧ Hid (wr.ownsRow base 57 3 (.slice (some ⟨G, 0, none⟩) n c) n (flatM ys)) ∧ Hid (Below base w0 wr)) (fun i _ _ => n - (intOf i).toNat)
  case atStart => exact ⟨0, zs, by omega, rfl, (by congr 1; try omega), HZ, Lib.hid (fun j hj => by unfold rvAt; rw [if_neg (by omega)]), HO, HB⟩
  case round =>
    obtain ⟨k, ys, hk, rfl, rfl, HL, HY, HOr, HBr⟩ := hrel
    by_cases hlt : k + k + 1 < n
    · have HSW := Lib.hid (rv_step zs ys n k hlt HZ.out HL.out HY.out)
      obtain ⟨dy0, dy1, dy2⟩ := own_atM HOr.out k (by rw [HL.out]; omega)
      obtain ⟨dz0, dz1, dz2⟩ := own_atM HOr.out (n - 1 - k) (by rw [HL.out]; omega)
      have hG := (HOr.out.lt G rfl).2
      generalize ys.getD k default = y at *
      generalize ys.getD (n - 1 - k) default = z at *
      have b1 : (0 : Int) ≤ (k : Int) := by omega
      have b2 : (k : Int) < (n : Int) := by omega
      have b3 : (0 : Int) ≤ (n : Int) - 1 - (k : Int) := by omega
      have b4 : (n : Int) - 1 - (k : Int) < (n : Int) := by omega
      have b5 : ((n : Int) - 1 - (k : Int)).toNat = n - 1 - k := by omega
      have b6 : (k : Int) < (n : Int) - 1 - (k : Int) := by omega
      have b7 : (k : Int) ≤ (n : Int) - 1 := by omega
      go_wp2_with fail
      refine wp_region_noPanic ?_
      refine beginL (S := (fun w' => w'.cell? ⟨G, k * 3, none⟩ = some (.int .i64 y.src) ∧ w'.cell? ⟨G, k * 3 + 1, none⟩ = some (.int .i64 y.dst) ∧ w'.cell? ⟨G, k * 3 + 2, none⟩ = some (.int .i64 y.piece) ∧ w'.cell? ⟨G, (n - 1 - k) * 3, none⟩ = some (.int .i64 z.src) ∧ w'.cell? ⟨G, (n - 1 - k) * 3 + 1, none⟩ = some (.int .i64 z.dst) ∧ w'.cell? ⟨G, (n - 1 - k) * 3 + 2, none⟩ = some (.int .i64 z.piece))) (L := [13, 15]) (by kernel_rfl) ⟨dy0, dy1, dy2, dz0, dz1, dz2⟩ (fun hHeld => ?_)
      refine takeW (i := 0) (oi := { dst := some 14, op := Op.move (Operand.tmp 0), type := 36, pos := "slices.go:485", after := #[], guard := none }) (v := ?va1) rfl (by kernel_rfl) (by kernel_rfl) (by kernel_rfl) rfl (fun _ _ _ h => h) (Or.inl ⟨by rfl, ?ya1⟩) (fun _ => by assumption) ?ra1
      case ya1 => (intro w _; go_simp; first | done | (with_reducible rfl) | (rw [if_neg (by omega)]))
      try simp only [Act.put, List.setIfInBounds_toArray, List.set_cons_zero, List.set_cons_succ]
      refine takeW (i := 1) (oi := { dst := some 15, op := Op.move (Operand.tmp 2), type := 3, pos := "slices.go:485", after := #[], guard := none }) (v := ?va2) rfl (by kernel_rfl) (by kernel_rfl) (by kernel_rfl) rfl (fun _ _ _ h => h) (Or.inl ⟨by rfl, ?ya2⟩) (fun _ => by assumption) ?ra2
      case ya2 => (intro w _; go_simp; first | done | (with_reducible rfl) | (rw [if_neg (by omega)]))
      try simp only [Act.put, List.setIfInBounds_toArray, List.set_cons_zero, List.set_cons_succ]
      refine takeW (i := 2) (oi := { dst := some 16, op := Op.move (Operand.tmp 0), type := 36, pos := "slices.go:485", after := #[{ on := 13, ground := Ground.gcOnly Departure.lateStores }], guard := none }) (v := ?va3) rfl (by kernel_rfl) (by kernel_rfl) (by kernel_rfl) rfl (fun _ _ _ h => h) (Or.inl ⟨by rfl, ?ya3⟩) (fun _ => by assumption) ?ra3
      case ya3 => (intro w _; go_simp; first | done | (with_reducible rfl) | (rw [if_neg (by omega)]))
      try simp only [Act.put, List.setIfInBounds_toArray, List.set_cons_zero, List.set_cons_succ]
      refine takeW (i := 3) (oi := { dst := some 17, op := Op.move (Operand.tmp 3), type := 3, pos := "slices.go:485", after := #[{ on := 13, ground := Ground.gcOnly Departure.lateStores }], guard := none }) (v := ?va4) rfl (by kernel_rfl) (by kernel_rfl) (by kernel_rfl) rfl (fun _ _ _ h => h) (Or.inl ⟨by rfl, ?ya4⟩) (fun _ => by assumption) ?ra4
      case ya4 => (intro w _; go_simp; first | done | (with_reducible rfl) | (rw [if_neg (by omega)]))
      try simp only [Act.put, List.setIfInBounds_toArray, List.set_cons_zero, List.set_cons_succ]
      refine takeW (i := 4) (oi := { dst := some 18, op := Op.move (Operand.tmp 0), type := 36, pos := "slices.go:485", after := #[], guard := none }) (v := ?va5) rfl (by kernel_rfl) (by kernel_rfl) (by kernel_rfl) rfl (fun _ _ _ h => h) (Or.inl ⟨by rfl, ?ya5⟩) (fun _ => by assumption) ?ra5
      case ya5 => (intro w _; go_simp; first | done | (with_reducible rfl) | (rw [if_neg (by omega)]))
      try simp only [Act.put, List.setIfInBounds_toArray, List.set_cons_zero, List.set_cons_succ]
      refine takeW (i := 5) (oi := { dst := some 19, op := Op.move (Operand.tmp 3), type := 3, pos := "slices.go:485", after := #[], guard := none }) (v := ?va6) rfl (by kernel_rfl) (by kernel_rfl) (by kernel_rfl) rfl (fun _ _ _ h => h) (Or.inl ⟨by rfl, ?ya6⟩) (fun _ => by assumption) ?ra6
      case ya6 => (intro w _; go_simp; first | done | (with_reducible rfl) | (rw [if_neg (by omega)]))
      try simp only [Act.put, List.setIfInBounds_toArray, List.set_cons_zero, List.set_cons_succ]
      refine takeW (i := 8) (oi := { dst := some 22, op := Op.move (Operand.tmp 0), type := 36, pos := "slices.go:485", after := #[], guard := none }) (v := ?va7) rfl (by kernel_rfl) (by kernel_rfl) (by kernel_rfl) rfl (fun _ _ _ h => h) (Or.inl ⟨by rfl, ?ya7⟩) (fun _ => by assumption) ?ra7
      case ya7 => (intro w _; go_simp; first | done | (with_reducible rfl) | (rw [if_neg (by omega)]))
      try simp only [Act.put, List.setIfInBounds_toArray, List.set_cons_zero, List.set_cons_succ]
      refine takeW (i := 9) (oi := { dst := some 23, op := Op.move (Operand.tmp 2), type := 3, pos := "slices.go:485", after := #[], guard := none }) (v := ?va8) rfl (by kernel_rfl) (by kernel_rfl) (by kernel_rfl) rfl (fun _ _ _ h => h) (Or.inl ⟨by rfl, ?ya8⟩) (fun _ => by assumption) ?ra8
      case ya8 => (intro w _; go_simp; first | done | (with_reducible rfl) | (rw [if_neg (by omega)]))
      try simp only [Act.put, List.setIfInBounds_toArray, List.set_cons_zero, List.set_cons_succ]
      refine takeW (i := 6) (oi := { dst := some 20, op := Op.indexAddr 36 (Operand.tmp 18) (Operand.tmp 19), type := 0, pos := "slices.go:485", after := #[{ on := 4, ground := Ground.data }, { on := 5, ground := Ground.data }], guard := none }) (v := ?va9) rfl (by kernel_rfl) (by kernel_rfl) (by kernel_rfl) rfl (fun _ _ _ h => h) (Or.inl ⟨by rfl, ?ya9⟩) (fun _ => by assumption) ?ra9
      case ya9 => (intro w _; go_simp; first | done | (with_reducible rfl) | (rw [if_neg (by omega)]))
      try simp only [Act.put, List.setIfInBounds_toArray, List.set_cons_zero, List.set_cons_succ]
      refine takeW (i := 10) (oi := { dst := some 24, op := Op.indexAddr 36 (Operand.tmp 22) (Operand.tmp 23), type := 0, pos := "slices.go:485", after := #[{ on := 8, ground := Ground.data }, { on := 9, ground := Ground.data }], guard := none }) (v := ?va10) rfl (by kernel_rfl) (by kernel_rfl) (by kernel_rfl) rfl (fun _ _ _ h => h) (Or.inl ⟨by rfl, ?ya10⟩) (fun _ => by assumption) ?ra10
      case ya10 => (intro w _; go_simp; first | done | (with_reducible rfl) | (rw [if_neg (by omega)]))
      try simp only [Act.put, List.setIfInBounds_toArray, List.set_cons_zero, List.set_cons_succ]
      refine takeL (i := 7) (oi := { dst := some 21, op := Op.load 57 (Operand.tmp 20), type := 57, pos := "slices.go:485", after := #[{ on := 6, ground := Ground.data }], guard := none }) (v := ?va11) rfl (by kernel_rfl) (by kernel_rfl) (by kernel_rfl) (by kernel_rfl) rfl (by kernel_rfl) (by kernel_rfl) (fun _ _ _ h => h) (Or.inl ⟨by rfl, ?ya11⟩) (by assumption) ?ra11
      case ya11 => (intro w hSw; (try dsimp only at hSw); go_simp; first | done | (with_reducible rfl))
      try simp only [Act.put, List.setIfInBounds_toArray, List.set_cons_zero, List.set_cons_succ]
      refine takeL (i := 11) (oi := { dst := some 25, op := Op.load 57 (Operand.tmp 24), type := 57, pos := "slices.go:485", after := #[{ on := 10, ground := Ground.data }], guard := none }) (v := ?va12) rfl (by kernel_rfl) (by kernel_rfl) (by kernel_rfl) (by kernel_rfl) rfl (by kernel_rfl) (by kernel_rfl) (fun _ _ _ h => h) (Or.inl ⟨by rfl, ?ya12⟩) (by assumption) ?ra12
      case ya12 => (intro w hSw; (try dsimp only at hSw); go_simp; first | done | (with_reducible rfl))
      try simp only [Act.put, List.setIfInBounds_toArray, List.set_cons_zero, List.set_cons_succ]
      refine takeW (i := 12) (oi := { dst := some 26, op := Op.indexAddr 36 (Operand.tmp 14) (Operand.tmp 15), type := 0, pos := "slices.go:485", after := #[{ on := 0, ground := Ground.data }, { on := 1, ground := Ground.data }, { on := 0, ground := Ground.phase }, { on := 1, ground := Ground.phase }, { on := 2, ground := Ground.textOnly Departure.lateStores }, { on := 3, ground := Ground.textOnly Departure.lateStores }, { on := 4, ground := Ground.phase }, { on := 5, ground := Ground.phase }, { on := 6, ground := Ground.phase }, { on := 7, ground := Ground.phase }, { on := 8, ground := Ground.textOnly Departure.lateStores }, { on := 9, ground := Ground.textOnly Departure.lateStores }, { on := 10, ground := Ground.textOnly Departure.lateStoresUnsure }, { on := 11, ground := Ground.phase }], guard := none }) (v := ?va13) rfl (by kernel_rfl) (by kernel_rfl) (by kernel_rfl) rfl (fun _ _ _ h => h) (Or.inl ⟨by rfl, ?ya13⟩) (fun _ => by assumption) ?ra13
      case ya13 => (intro w _; go_simp; first | done | (with_reducible rfl) | (rw [if_neg (by omega)]))
      try simp only [Act.put, List.setIfInBounds_toArray, List.set_cons_zero, List.set_cons_succ]
      refine readyL (rs := [13]) (by kernel_rfl) (by simp) ?_
      refine (AllReadyL.late (o := { dst := none, op := Op.store 57 (Operand.tmp 26) (Operand.tmp 21), type := 0, pos := "slices.go:485", after := #[{ on := 12, ground := Ground.data }, { on := 7, ground := Ground.data }, { on := 0, ground := Ground.phase }, { on := 1, ground := Ground.phase }, { on := 2, ground := Ground.textOnly Departure.lateStores }, { on := 3, ground := Ground.textOnly Departure.lateStores }, { on := 4, ground := Ground.phase }, { on := 5, ground := Ground.phase }, { on := 6, ground := Ground.phase }, { on := 7, ground := Ground.phase }, { on := 8, ground := Ground.textOnly Departure.lateStores }, { on := 9, ground := Ground.textOnly Departure.lateStores }, { on := 10, ground := Ground.textOnly Departure.lateStoresUnsure }, { on := 11, ground := Ground.phase }], guard := none }) rfl (by kernel_rfl) (fun K hK => ?_) AllReadyL.nil)
      obtain ⟨d1, d2, d3, -⟩ := hHeld
      have f0 : wr.frozen? ⟨G, k * 3, none⟩ = false := HOr.out.frozenAt (k * 3)
      have f1 : wr.frozen? ⟨G, k * 3 + 1, none⟩ = false := HOr.out.frozenAt (k * 3 + 1)
      have f2 : wr.frozen? ⟨G, k * 3 + 2, none⟩ = false := HOr.out.frozenAt (k * 3 + 2)
      go_simp
      refine K_world ?_
      intro w13 e13
      have O13 : w13.ownsRow base 57 3 (.slice (some ⟨G, 0, none⟩) n c) n (flatM (ys.set k z)) := by
        rw [e13]
        exact own_setM (HOr.out) k z (by rw [HL.out]; omega)
      have B13 : Below base w0 w13 := by rw [e13]; exact below_drewN (below_setM HBr.out hgb k z) 1
      clear e13 d1 d2 d3 f0 f1 f2
      refine hK.out _ _ ?_
      clear hK K
      try simp only [Act.put, List.setIfInBounds_toArray, List.set_cons_zero, List.set_cons_succ]
      refine takeW (i := 14) (oi := { dst := some 27, op := Op.indexAddr 36 (Operand.tmp 16) (Operand.tmp 17), type := 0, pos := "slices.go:485", after := #[{ on := 2, ground := Ground.data }, { on := 3, ground := Ground.data }, { on := 0, ground := Ground.phase }, { on := 1, ground := Ground.phase }, { on := 2, ground := Ground.phase }, { on := 3, ground := Ground.phase }, { on := 4, ground := Ground.phase }, { on := 5, ground := Ground.phase }, { on := 6, ground := Ground.phase }, { on := 7, ground := Ground.phase }, { on := 8, ground := Ground.phase }, { on := 9, ground := Ground.phase }, { on := 10, ground := Ground.phase }, { on := 11, ground := Ground.phase }, { on := 12, ground := Ground.phase }, { on := 13, ground := Ground.phase }], guard := none }) (v := ?va14) rfl (by kernel_rfl) (by kernel_rfl) (by kernel_rfl) rfl (fun _ _ _ h => h) (Or.inl ⟨by rfl, ?ya14⟩) (fun he => by cases he) ?ra14
      case ya14 => (intro w _; go_simp; first | done | (with_reducible rfl) | (rw [if_neg (by omega)]))
      try simp only [Act.put, List.setIfInBounds_toArray, List.set_cons_zero, List.set_cons_succ]
      refine readyL (rs := [15]) (by kernel_rfl) (by simp) ?_
      refine (AllReadyL.late (o := { dst := none, op := Op.store 57 (Operand.tmp 27) (Operand.tmp 25), type := 0, pos := "slices.go:485", after := #[{ on := 14, ground := Ground.data }, { on := 11, ground := Ground.data }, { on := 13, ground := Ground.chain }, { on := 0, ground := Ground.phase }, { on := 1, ground := Ground.phase }, { on := 2, ground := Ground.phase }, { on := 3, ground := Ground.phase }, { on := 4, ground := Ground.phase }, { on := 5, ground := Ground.phase }, { on := 6, ground := Ground.phase }, { on := 7, ground := Ground.phase }, { on := 8, ground := Ground.phase }, { on := 9, ground := Ground.phase }, { on := 10, ground := Ground.phase }, { on := 11, ground := Ground.phase }, { on := 12, ground := Ground.phase }, { on := 13, ground := Ground.phase }], guard := none }) rfl (by kernel_rfl) (fun K hK => ?_) AllReadyL.nil)
      have hz := own_atM O13 (n - 1 - k) (by rw [List.length_set, HL.out]; omega)
      obtain ⟨d1, d2, d3⟩ := hz
      have f0 : w13.frozen? ⟨G, (n - 1 - k) * 3, none⟩ = false := O13.frozenAt ((n - 1 - k) * 3)
      have f1 : w13.frozen? ⟨G, (n - 1 - k) * 3 + 1, none⟩ = false := O13.frozenAt ((n - 1 - k) * 3 + 1)
      have f2 : w13.frozen? ⟨G, (n - 1 - k) * 3 + 2, none⟩ = false := O13.frozenAt ((n - 1 - k) * 3 + 2)
      go_simp
      refine K_world ?_
      intro w15 e15
      have O15 : w15.ownsRow base 57 3 (.slice (some ⟨G, 0, none⟩) n c) n (flatM ((ys.set k z).set (n - 1 - k) y)) := by
        rw [e15]
        exact own_setM O13 (n - 1 - k) y (by rw [List.length_set, HL.out]; omega)
      have B15 : Below base w0 w15 := by rw [e15]; exact below_setM B13 hgb (n - 1 - k) y
      clear e15 d1 d2 d3 f0 f1 f2 O13 B13
      refine hK.out _ _ ?_
      clear hK K
      try simp only [Act.put, List.setIfInBounds_toArray, List.set_cons_zero, List.set_cons_succ]
      refine doneL (by kernel_rfl) ?_ _
      refine NoPanic.normal ?_
      go_wp2_with fail
      go_roundw
      case rel => exact ⟨k + 1, (ys.set k z).set (n - 1 - k) y, by omega, by go_num, by congr 1; omega, Lib.hid (by rw [List.length_set, List.length_set]; exact HL.out), Lib.hid HSW.out, Lib.hid O15, Lib.hid B15⟩
      case measure => simp [intOf]; omega
    · have HE := Lib.hid (rv_end zs ys n k hlt HZ.out HL.out HY.out)
      have b6 : ¬ (k : Int) < (n : Int) - 1 - (k : Int) := by omega
      go_wp2_with fail
      go_end0
      exact ⟨rfl, by rw [← HE.out]; exact HOr.out, HBr.out⟩
end Go.Proofs.Ytnieifdogllbfaa
/- Records of games as they lie in memory; record.on, record.Way; slices.Equal of moves. -/
namespace Go.Proofs.Ytnieifdogllbfaa
open Go.ChangeShapes Go.WideShapes Go.ChangeAt Go.RowKit
set_option linter.unusedVariables false

structure NodeZ where
  parent : Int
  m : MoveZ
  comment : ByteArray
deriving Inhabited
structure TagZ where
  key : ByteArray
  value : ByteArray
deriving Inhabited
structure RecZ where
  tags : List TagZ
  comment : ByteArray
  nodes : List NodeZ
  result : Int
deriving Inhabited

def tagE (l : List TagZ) (i : Nat) : Int :=
  if nameOk (l.getD i default).key = false then 6 else if 40 < (l.getD i default).value.size then 2 else if printB (l.getD i default).value quote = false then 3 else
    if (l.take i).any (fun u => u.key.toList == (l.getD i default).key.toList) = true then 7 else 0
def tagsE (l : List TagZ) : Int := scanE (tagE l) 0 l.length

def ndAt (ns : List NodeZ) (i : Nat) : NodeZ := ns.getD i default
/-- the way up from a node. -/
def upZ (ns : List NodeZ) : Nat → Int → List Nat
  | 0, _ => []
  | f + 1, n => if n < 0 then [] else n.toNat :: upZ ns f (ndAt ns n.toNat).parent
def upL (ns : List NodeZ) (n : Int) : List Nat := upZ ns (n.toNat + 1) n
/-- the parents of the first i nodes lie before them. -/
def Back (ns : List NodeZ) (i : Nat) : Prop := ∀ k, k < i → (ndAt ns k).parent < k
theorem upZ_neg (ns : List NodeZ) (n : Int) (h : n < 0) : ∀ f, upZ ns f n = []
  | 0 => rfl
  | f + 1 => by unfold upZ; rw [if_pos h]
theorem up_fuel {ns : List NodeZ} {i : Nat} (h : Back ns i) : ∀ (f : Nat) (n : Int), n < i → n.toNat < f → upZ ns f n = upL ns n
  | 0, _, _, hf => absurd hf (Nat.not_lt_zero _)
  | f + 1, n, hn, hf => by
    unfold upL upZ
    by_cases h0 : n < 0
    · rw [if_pos h0, if_pos h0]
    · rw [if_neg h0, if_neg h0]
      have hp := h n.toNat (by omega)
      congr 1
      by_cases hz : (ndAt ns n.toNat).parent < 0
      · rw [upZ_neg ns _ hz, upZ_neg ns _ hz]
      · rw [up_fuel h f (ndAt ns n.toNat).parent (by omega) (by omega)]
        unfold upL
        rw [← upL]
        exact (up_fuel h n.toNat (ndAt ns n.toNat).parent (by omega) (by omega)).symm
theorem up_neg (ns : List NodeZ) (n : Int) (h : n < 0) : upL ns n = [] := by unfold upL upZ; rw [if_pos h]
theorem up_cons {ns : List NodeZ} {i : Nat} (h : Back ns i) (n : Nat) (hn : n < i) : upL ns (n : Int) = n :: upL ns (ndAt ns n).parent := by
  have hp := h n hn
  unfold upL
  rw [upZ, if_neg (by omega), Int.toNat_natCast]
  congr 1
  by_cases hz : (ndAt ns n).parent < 0
  · rw [← upL, up_neg ns _ hz]
    cases n with
    | zero => rfl
    | succ m => rw [upZ, if_pos hz]
  · exact up_fuel h n _ (by omega) (by omega)
def onB (ns : List NodeZ) (node last : Int) : Bool := (upL ns last).any (fun (k : Nat) => (k : Int) == node) || node == -1
def wayI (ns : List NodeZ) (n : Int) : List MoveZ := ((upL ns n).map fun k => (ndAt ns k).m).reverse
theorem way_neg (ns : List NodeZ) (n : Int) (h : n < 0) : wayI ns n = [] := by unfold wayI; rw [up_neg ns n h]; rfl
theorem way_snoc {ns : List NodeZ} {i : Nat} (h : Back ns i) (n : Nat) (hn : n < i) : wayI ns (n : Int) = wayI ns (ndAt ns n).parent ++ [(ndAt ns n).m] := by
  unfold wayI; rw [up_cons h n hn, List.map_cons, List.reverse_cons]
def twinB (ns : List NodeZ) (i : Nat) : Bool := (ns.take i).any fun y => y.parent == (ndAt ns i).parent && y.m == (ndAt ns i).m
def sibB (ns : List NodeZ) (i : Nat) : Bool := (ns.take i).any fun y => y.parent == (ndAt ns i).parent
def depE (ns : List NodeZ) (ds : List Int) (i : Nat) : Int := (if 0 ≤ (ndAt ns i).parent then ds.getD (ndAt ns i).parent.toNat 0 else ds.getD i 0) + (if sibB ns i = true then 1 else 0)

def nodeEl : El NodeZ where
  k := 5
  E := fun w x cs => cs = [.int .i64 x.parent, .int .i64 x.m.src, .int .i64 x.m.dst, .int .i64 x.m.piece, .string x.comment] ∧ x.comment.size ≤ maxLen
  mono := fun h _ _ => h
  len := fun h => by rw [h.1]; rfl
def tagEl : El TagZ where
  k := 2
  E := fun w x cs => cs = [.string x.key, .string x.value] ∧ x.key.size ≤ maxLen ∧ x.value.size ≤ maxLen
  mono := fun h _ _ => h
  len := fun h => by rw [h.1]; rfl
/-- a record that is read. -/
def RdX (w : World) (X : RecZ) (vt vn : Value) : Prop := RdL tagEl w vt X.tags ∧ RdL nodeEl w vn X.nodes ∧ X.comment.size ≤ maxLen
def recV (X : RecZ) (vt vn : Value) : Value := .agg #[vt, .string X.comment, vn, .int .i64 X.result]
theorem RdX.below {w w' : World} {X : RecZ} {vt vn : Value} {B : Nat} (h : RdX w X vt vn) (hb : Below B w w') (hB : w.heap.size ≤ B) : RdX w' X vt vn := ⟨h.1.below hb hB, h.2.1.below hb hB, h.2.2⟩
theorem nodes_some {w : World} {a : Option Addr} {n c : Nat} {ns : List NodeZ} (h : RdL nodeEl w (.slice a n c) ns) (hn : 0 < ns.length) : ∃ g o, a = some ⟨g, o, none⟩ ∧ g < w.heap.size ∧
    ∀ i, i < ns.length → w.cell? ⟨g, o + i * 5, none⟩ = some (.int .i64 (ndAt ns i).parent) ∧ w.cell? ⟨g, o + i * 5 + 1, none⟩ = some (.int .i64 (ndAt ns i).m.src) ∧
      w.cell? ⟨g, o + i * 5 + 2, none⟩ = some (.int .i64 (ndAt ns i).m.dst) ∧ w.cell? ⟨g, o + i * 5 + 3, none⟩ = some (.int .i64 (ndAt ns i).m.piece) ∧ w.cell? ⟨g, o + i * 5 + 4, none⟩ = some (.string (ndAt ns i).comment) ∧ (ndAt ns i).comment.size ≤ maxLen := by
  obtain ⟨g, o, ha, hg, hc⟩ := RdL.some h hn
  refine ⟨g, o, ha, hg, fun i hi => ?_⟩
  obtain ⟨cs, ⟨rfl, hs⟩, hj⟩ := hc i hi
  have e : ndAt ns i = ns[i] := by unfold ndAt; rw [List.getD_eq_getElem?_getD, List.getElem?_eq_getElem hi]; rfl
  rw [e]
  exact ⟨hj 0 (by decide), hj 1 (by decide), hj 2 (by decide), hj 3 (by decide), hj 4 (by decide), hs⟩
theorem tags_some {w : World} {a : Option Addr} {n c : Nat} {ts : List TagZ} (h : RdL tagEl w (.slice a n c) ts) (hn : 0 < ts.length) : ∃ g o, a = some ⟨g, o, none⟩ ∧ g < w.heap.size ∧
    ∀ i, i < ts.length → w.cell? ⟨g, o + i * 2, none⟩ = some (.string (ts.getD i default).key) ∧ w.cell? ⟨g, o + i * 2 + 1, none⟩ = some (.string (ts.getD i default).value) ∧ (ts.getD i default).key.size ≤ maxLen ∧ (ts.getD i default).value.size ≤ maxLen := by
  obtain ⟨g, o, ha, hg, hc⟩ := RdL.some h hn
  refine ⟨g, o, ha, hg, fun i hi => ?_⟩
  obtain ⟨cs, ⟨rfl, hs⟩, hj⟩ := hc i hi
  have e : ts.getD i default = ts[i] := by rw [List.getD_eq_getElem?_getD, List.getElem?_eq_getElem hi]; rfl
  rw [e]
  exact ⟨hj 0 (by decide), hj 1 (by decide), hs⟩

/-! ### slices.Equal of moves -/
def eqM : List MoveZ → List MoveZ → Bool
  | [], [] => true
  | x :: a, y :: b => decide (x = y) && eqM a b
  | _, _ => false
theorem eqM_iff : ∀ a b : List MoveZ, eqM a b = true ↔ a = b
  | [], [] => by simp [eqM]
  | x :: a, [] => by simp [eqM]
  | [], y :: b => by simp [eqM]
  | x :: a, y :: b => by rw [eqM, Bool.and_eq_true, eqM_iff a b]; simp
theorem eqM_step (a b : List MoveZ) (k : Nat) (ha : k < a.length) (hb : k < b.length) : eqM (a.drop k) (b.drop k) = (decide (a.getD k default = b.getD k default) && eqM (a.drop (k + 1)) (b.drop (k + 1))) := by
  rw [List.drop_eq_getElem_cons ha, List.drop_eq_getElem_cons hb, eqM, List.getD_eq_getElem?_getD, List.getD_eq_getElem?_getD, List.getElem?_eq_getElem ha, List.getElem?_eq_getElem hb]
  rfl
theorem eqM_ne : ∀ (a b : List MoveZ), a.length ≠ b.length → eqM a b = false
  | [], [], h => absurd rfl h
  | x :: a, [], _ => rfl
  | [], y :: b, _ => rfl
  | x :: a, y :: b, h => by rw [eqM, eqM_ne a b (by simpa using h), Bool.and_false]
set_option maxHeartbeats 2000000 in
theorem EqualM_any (va vb : Value) (a b : List MoveZ) (w : World) (h1 : RdL moveEl w va a) (h2 : RdL moveEl w vb b) :
    Calls Try.prog 19 #[va, vb] w fun e w' => e = .returned (.bool (eqM a b)) ∧ Below w.heap.size w w' := by
  obtain ⟨aa, ac, rfl, a1, a2⟩ := h1.form
  obtain ⟨ba, bc, rfl, b1, b2⟩ := h2.form
  unfold maxLen at a2 b2
  have HA := Lib.hid h1
  have HB := Lib.hid h2
  clear h1 h2
  by_cases hl : a.length = b.length
  · have HE : Hid (eqM a b = eqM (a.drop 0) (b.drop 0)) := Lib.hid rfl
    have HL := Lib.hid hl
    rw [← hl]
    rw [← hl] at b1 HB
    clear hl
    go_enter Try.func19, Try.ntmps19
    have hne : (((a.length : Int)) != (a.length : Int)) = false := by simp
    go_wp2_with fail
    go_loopw [13, 5] (fun i v5 wr => ∃ (k : Nat) (o5 : Value), o5 = v5 ∧ k ≤ a.length ∧ i = .int .i64 k ∧ Hid (eqM a b = eqM (a.drop k) (b.drop k)) ∧ Hid (Below w.heap.size w wr)) (fun i _ _ => a.length - (intOf i).toNat)
    case atStart => exact ⟨0, _, rfl, Nat.zero_le _, rfl, HE, Lib.hid (Below.refl _ _)⟩
    case round =>
      obtain ⟨k, o5, rfl, hk, rfl, HK, HBl⟩ := hrel
      by_cases hlt : k < a.length
      · have hltb : k < b.length := by rw [← HL.out]; exact hlt
        obtain ⟨g1, o1, rfl, hg1, hc1⟩ := moves_some (HA.out.below HBl.out (Nat.le_refl _)) (by omega)
        obtain ⟨g2, o2, rfl, hg2, hc2⟩ := moves_some (HB.out.below HBl.out (Nat.le_refl _)) (by omega)
        obtain ⟨d0, d1, d2⟩ := hc1 k hlt
        obtain ⟨f0, f1, f2⟩ := hc2 k hltb
        have HS := Lib.hid (eqM_step a b k hlt hltb)
        clear hc1 hc2
        generalize a.getD k default = x at *
        generalize b.getD k default = y at *
        have hq0 : 0 ≤ (k : Int) := by omega
        have hq1 : (k : Int) < (a.length : Int) := by omega
        have hn := fun w => neqM x y w
        cases hxy : decide (x = y)
        all_goals
          rw [hxy] at hn HS
          clear hxy
          go_wp2_with fail
          go_quiet (fail)
          have HBq := Lib.hid (below_drewN HBl.out nq)
          clear d0 d1 d2 f0 f1 f2 hn
          generalize wr.drewN nq = W at *
          go_wp2_with fail
          first
            | (go_ret; exact ⟨by rw [HK.out, HS.out]; rfl, HBq.out⟩)
            | (go_roundw
               case rel => exact ⟨k + 1, _, rfl, by omega, by go_num, Lib.hid (by rw [HK.out, HS.out]; rfl), HBq⟩
               case measure => simp [intOf]; omega)
      · obtain rfl : k = a.length := by omega
        go_wp2_with fail
        go_ret
        exact ⟨by rw [HK.out, List.drop_length, HL.out, List.drop_length]; rfl, HBl.out⟩
  · have HE := Lib.hid (eqM_ne a b hl)
    have hne : (((a.length : Int)) != (b.length : Int)) = true := by simp; omega
    go_enter Try.func19, Try.ntmps19
    go_wp2_with fail
    go_ret
    exact ⟨by rw [HE.out]; rfl, Below.refl _ _⟩

/-! ### record.on -/
set_option maxRecDepth 100000 in
set_option maxHeartbeats 2000000 in
theorem on_any (X : RecZ) (vt vn : Value) (nd last : Int) (i : Nat) (w : World) (h : RdX w X vt vn) (hb : Back X.nodes i) (hi : i ≤ X.nodes.length) (hl : last < i) :
    Calls Try.prog 34 #[recV X vt vn, .int .i64 nd, .int .i64 last] w fun e w' => e = .returned (.bool (onB X.nodes nd last)) ∧ Below w.heap.size w w' := by
  obtain ⟨na, nc, rfl, h1, h2⟩ := h.2.1.form
  unfold maxLen at h2
  have HR := Lib.hid h.2.1
  have HO : Hid (onB X.nodes nd last = ((upL X.nodes last).any (fun (k : Nat) => (k : Int) == nd) || nd == -1)) := Lib.hid rfl
  have HK := Lib.hid hb
  clear h hb
  unfold recV
  go_enter Try.func34, Try.ntmps34
  go_upto_region 1 with (fail)
  have hb0 := (Box.new' w w.heap.size [vt, .string X.comment, .slice na X.nodes.length nc, .int .i64 X.result] 30 rfl)
  have HB : Hid (Below w.heap.size w (w.alloc (.cells #[vt, .string X.comment, .slice na X.nodes.length nc, .int .i64 X.result] 30))) := Lib.hid ((Below.refl w.heap.size w).alloc (Nat.le_refl _) _)
  generalize (w.alloc (.cells #[vt, .string X.comment, .slice na X.nodes.length nc, .int .i64 X.result] 30)) = w0 at *
  have q2 := hb0.cell 2 rfl
  have hw0 := hb0.lt
  have HRw := Lib.hid (RdL.below HR.out HB.out (Nat.le_refl _))
  clear hb0 HR
  go_wp2_with fail
  go_loop [7] (fun v7 => ∃ n : Int, v7 = .int .i64 n ∧ n < i ∧ Hid ((upL X.nodes last).any (fun (k : Nat) => (k : Int) == nd) = (upL X.nodes n).any (fun (k : Nat) => (k : Int) == nd))) (fun v => (intOf v + 1).toNat)
  case atStart => exact ⟨last, rfl, hl, Lib.hid rfl⟩
  case round =>
    obtain ⟨n, rfl, hn, HU⟩ := hrel
    by_cases h0 : 0 ≤ n
    · obtain ⟨m, rfl⟩ : ∃ m : Nat, n = (m : Int) := ⟨n.toNat, by omega⟩
      obtain ⟨g, o, rfl, hg, hc⟩ := nodes_some HRw.out (by omega)
      obtain ⟨c0, -⟩ := hc m (by omega)
      have HC := Lib.hid (up_cons HK.out m (by omega))
      have hpm := HK.out m (by omega)
      clear hc
      generalize (ndAt X.nodes m).parent = p at *
      by_cases hmn : (m : Int) = nd
      · subst hmn
        go_wp2_with fail
        go_ret
        exact ⟨by rw [HO.out, HU.out, HC.out]; simp, HB.out⟩
      · have hmb : ((m : Int) == nd) = false := by simp; omega
        have hml : (m : Int) < (X.nodes.length : Int) := by omega
        have HU2 : Hid ((upL X.nodes last).any (fun (k : Nat) => (k : Int) == nd) = (upL X.nodes p).any (fun (k : Nat) => (k : Int) == nd)) := Lib.hid (by rw [HU.out, HC.out, List.any_cons, hmb, Bool.false_or])
        go_wp2_with fail
        go_round
        case rel => exact ⟨p, rfl, by omega, HU2⟩
        case measure => simp [intOf]; omega
    · have HU2 : Hid (onB X.nodes nd last = (nd == -1)) := Lib.hid (by rw [HO.out, HU.out, up_neg X.nodes n (by omega)]; rfl)
      go_wp2_with fail
      go_ret
      exact ⟨by rw [HU2.out]; rfl, HB.out⟩
end Go.Proofs.Ytnieifdogllbfaa
/- record.Way; record.tags. -/
namespace Go.Proofs.Ytnieifdogllbfaa
open Go.ChangeShapes Go.WideShapes Go.ChangeAt Go.RowKit
set_option linter.unusedVariables false

theorem infoMoveR : (Try.prog.info? 57).map (fun i => (i.zero, i.size, i.bytes)) = some (some (.agg #[.int .i64 0, .int .i64 0, .int .i64 0]), 3, 24) := by kernel_rfl
def mvOf (ns : List NodeZ) (l : List Nat) : List MoveZ := l.map fun k => (ndAt ns k).m
theorem wayI_eq (ns : List NodeZ) (n : Int) : wayI ns n = (mvOf ns (upL ns n)).reverse := rfl
set_option maxRecDepth 100000 in
set_option maxHeartbeats 4000000 in
theorem Way_any (X : RecZ) (vt vn : Value) (nd i : Nat) (w : World) (h : RdX w X vt vn) (hb : Back X.nodes i) (hi : i ≤ X.nodes.length) (hl : nd < i) (hm : X.nodes.length ≤ 1000) :
    Calls Try.prog 18 #[recV X vt vn, .int .i64 nd] w fun e w' => ∃ v', e = .returned v' ∧ w'.ownsRow w.heap.size 57 3 v' (wayI X.nodes nd).length (flatM (wayI X.nodes nd)) ∧ Below w.heap.size w w' := by
  obtain ⟨na, nc, rfl, h1, h2⟩ := h.2.1.form
  unfold maxLen at h2
  have HR := Lib.hid h.2.1
  have HK := Lib.hid hb
  clear h hb
  unfold recV
  go_enter Try.func18, Try.ntmps18
  go_upto_region 1 with (fail)
  have hb0 := (Box.new' w w.heap.size [vt, .string X.comment, .slice na X.nodes.length nc, .int .i64 X.result] 30 rfl)
  have HB : Hid (Below w.heap.size w (w.alloc (.cells #[vt, .string X.comment, .slice na X.nodes.length nc, .int .i64 X.result] 30))) := Lib.hid ((Below.refl w.heap.size w).alloc (Nat.le_refl _) _)
  obtain ⟨bb, hbb⟩ : ∃ bb, bb = w.heap.size := ⟨_, rfl⟩
  rw [← hbb] at HB hb0 ⊢
  generalize (w.alloc (.cells #[vt, .string X.comment, .slice na X.nodes.length nc, .int .i64 X.result] 30)) = w0 at *
  have HX := Lib.hid hb0
  have hw0 := hb0.lt
  have hbb1 : w.heap.size ≤ bb := by omega
  have HNil : Hid (w0.ownsRow (bb + 1) 57 3 (.slice none 0 0) 0 (flatM [])) := Lib.hid (World.ownsRow_nil _ _ _ _)
  clear hb0 hbb
  go_wp2_with fail
  go_loopw [6, 5] (fun v6 v5 wr => ∃ (n : Int) (ms : List MoveZ) (o5 : Value), o5 = v5 ∧ v6 = .int .i64 n ∧ n < i ∧ Hid (mvOf X.nodes (upL X.nodes nd) = ms ++ mvOf X.nodes (upL X.nodes n)) ∧ ms.length + (n + 1).toNat ≤ nd + 1 ∧ Hid (wr.ownsRow (bb + 1) 57 3 o5 ms.length (flatM ms)) ∧ Hid (Below bb w wr) ∧ Hid (Box wr bb [vt, .string X.comment, .slice na X.nodes.length nc, .int .i64 X.result] 30)) (fun v _ _ => (intOf v + 1).toNat)
  case atStart => exact ⟨nd, [], _, rfl, rfl, by omega, Lib.hid rfl, by simp, HNil, HB, HX⟩
  case round =>
    obtain ⟨n, ms, o5, rfl, rfl, hn, HU, hlen, HO, HBr, HXr⟩ := hrel
    have hsr := HXr.out.lt
    by_cases h0 : 0 ≤ n
    · obtain ⟨m, rfl⟩ : ∃ m : Nat, n = (m : Int) := ⟨n.toNat, by omega⟩
      obtain ⟨g, o, rfl, hg, hc⟩ := nodes_some HR.out (by omega)
      obtain ⟨e0, e1, e2, e3, -⟩ := hc m (by omega)
      have hgb : g < bb := by omega
      have c1 := (HBr.out.cell (p := ⟨g, o + m * 5 + 1, none⟩) hgb).trans e1
      have c2 := (HBr.out.cell (p := ⟨g, o + m * 5 + 2, none⟩) hgb).trans e2
      have c3 := (HBr.out.cell (p := ⟨g, o + m * 5 + 3, none⟩) hgb).trans e3
      have HE0 := Lib.hid e0
      have HC := Lib.hid (up_cons HK.out m (by omega))
      have hpm := HK.out m (by omega)
      have HU2 : Hid (mvOf X.nodes (upL X.nodes nd) = (ms ++ [(ndAt X.nodes m).m]) ++ mvOf X.nodes (upL X.nodes (ndAt X.nodes m).parent)) := Lib.hid (by rw [HU.out, HC.out, List.append_assoc]; rfl)
      clear hc HU HC e0 e1 e2 e3
      generalize (ndAt X.nodes m).parent = p at *
      generalize (ndAt X.nodes m).m = mv at *
      have hml : (m : Int) < (X.nodes.length : Int) := by omega
      have q2 := HXr.out.cell 2 rfl
      obtain ⟨oa, oc, rfl⟩ := own_form2 HO.out
      have hrs : bb + 1 ≤ wr.heap.size := by omega
      have hgw : g < wr.heap.size := by omega
      go_wp2_with (at_builtin; refine app_new 36 57 (.agg #[.int .i64 0, .int .i64 0, .int .i64 0]) 3 24 infoMoveR Try.underlying36 rfl (by decide) (by rfl) _ _ (by rfl) (bb + 1) _ ms.length (flatM ms) [.int .i64 mv.src, .int .i64 mv.dst, .int .i64 mv.piece] wr HO.out hrs rfl three_ints (by omega) (by omega) (by rfl) (by rfl) ?_)
      intro g3 cap3 w3 hown3 hkeep3 hgr3
      have HB3 := Lib.hid (hkeep3.below HBr.out (by omega))
      have HX3 := Lib.hid ((HXr.out.alloc (.cells #[.int .i64 mv.src, .int .i64 mv.dst, .int .i64 mv.piece] 57)).grown hgr3 (fun e => by have := (HO.out.lt bb e.symm).1; omega))
      have HO3 : Hid (w3.ownsRow (bb + 1) 57 3 (.slice (some ⟨g3, 0, none⟩) (ms.length + 1) cap3) (ms ++ [mv]).length (flatM (ms ++ [mv]))) := Lib.hid (by
        rw [← flatM_append, List.length_append]
        exact hown3)
      have c0 := (HB3.out.cell (p := ⟨g, o + m * 5, none⟩) hgb).trans HE0.out
      have q23 := HX3.out.cell 2 rfl
      have hg3 : g < w3.heap.size := by have := HX3.out.lt; omega
      have hb3 := HX3.out.lt
      clear hown3 hkeep3 hgr3 q2 c1 c2 c3 HE0
      go_wp2_with fail
      go_roundw
      case rel => exact ⟨p, ms ++ [mv], _, rfl, rfl, by omega, HU2, by rw [List.length_append]; simp; omega, HO3, HB3, HX3⟩
      case measure => simp [intOf]; omega
    · have HU2 : Hid (mvOf X.nodes (upL X.nodes nd) = ms) := Lib.hid (by rw [HU.out, up_neg X.nodes n (by omega)]; exact List.append_nil _)
      have hne : 0 < ms.length := by
        rw [← HU2.out, up_cons HK.out nd hl]
        simp [mvOf]
      obtain ⟨G, cc, rfl⟩ := own_some HO.out hne
      have HRev := Lib.hid (ReverseM_any ms G ms.length cc bb w wr (own_base HO.out (Nat.le_succ bb)) HBr.out (by omega))
      go_upto_region 7 with (go_at_call 37; refine HRev.out.mono ?_; rintro e w5 ⟨rfl, ho5, hb5⟩; have HO5 := Lib.hid ho5; have HB5 := Lib.hid hb5; clear ho5 hb5)
      go_wp2_with fail
      go_ret
      refine ⟨_, rfl, ?_, HB5.out.mono hbb1⟩
      rw [wayI_eq, HU2.out, List.length_reverse]
      exact own_base HO5.out hbb1
end Go.Proofs.Ytnieifdogllbfaa

/- Box, JcF, JcG. -/
import Derived.Below
import Derived.OneCell
import Derived.Deep.MidRow
import Derived.Laws.AppendOwn
import Derived.Deep.QuietTactic
import Derived.Test.YtmobangdckiffaaDoorC01
import Derived.Laws.IdiomStrings
import Derived.BigQuiet
import Derived.Deep.Cut
import Derived.Lib.ConvBytes
import Derived.Lib.Strings
namespace Go.Proofs.YtmobangdckiffaaDoor
open Go.RowKit
set_option linter.unusedVariables false
/-- block b holds the cells cs of a variable of type t. -/
def Box (w : World) (b : Nat) (cs : List Value) (t : TypeId) : Prop := w.heap[b]? = some (.cells cs.toArray t (0, 0))
theorem Box.lt {w : World} {b : Nat} {cs : List Value} {t : TypeId} (h : Box w b cs t) : b < w.heap.size := by
 unfold Box at h
 by_cases hh : b < w.heap.size
 ·exact hh
 ·rw [Array.getElem?_eq_none (by omega)] at h
  cases h
theorem Box.below {w w' : World} {B b : Nat} {cs : List Value} {t : TypeId} (h : Box w b cs t) (hb : Below B w w') (hB : b < B) : Box w' b cs t := (hb.block b hB).trans h
theorem Box.stays {w w' : World} {b : Nat} {cs : List Value} {t : TypeId} (h : Box w b cs t) (hb : Below w.heap.size w w') : Box w' b cs t := h.below hb h.lt
theorem Box.drewN {w : World} {b : Nat} {cs : List Value} {t : TypeId} (h : Box w b cs t) (n : Nat) : Box (w.drewN n) b cs t := h
theorem Box.drew {w : World} {b : Nat} {cs : List Value} {t : TypeId} (h : Box w b cs t) : Box w.drew b cs t := h
theorem Box.alloc {w : World} {b : Nat} {cs : List Value} {t : TypeId} (h : Box w b cs t) (o : Obj) : Box (w.alloc o) b cs t := (Below.heap_alloc w o b h.lt).trans h
theorem Box.new (w : World) (cs : List Value) (t : TypeId) : Box (w.alloc (.cells cs.toArray t)) w.heap.size cs t := heap_alloc_new w _
theorem Box.cell {w : World} {b : Nat} {cs : List Value} {t : TypeId} (h : Box w b cs t) (j : Nat) {v : Value} (hj : cs[j]? = some v) : w.cell? ⟨b, j, none⟩ = some v := by
 unfold Box at h
 simp only [World.cell?, h]
 simpa using hj
theorem Box.frozen {w : World} {b : Nat} {cs : List Value} {t : TypeId} (h : Box w b cs t) (j : Nat) : w.frozen? ⟨b, j, none⟩ = false := by
 unfold Box at h
 simp [World.frozen?, h]
theorem Box.set {w : World} {b : Nat} {cs : List Value} {t : TypeId} (h : Box w b cs t) (j : Nat) (u : Value) : Box (w.setCell ⟨b, j, none⟩ u) b (cs.set j u) t := by
 have hlt := h.lt
 unfold Box at *
 have h' : w.heap[b] = .cells cs.toArray t (0, 0) := by simpa [Array.getElem?_eq_getElem hlt] using h
 show (w.heap.modify b _)[b]? = _
 rw [Array.getElem?_eq_getElem (by simpa using hlt), Array.getElem_modify_self, h']
 simp
theorem Box.grown {w w' : World} {b : Nat} {cs : List Value} {t : TypeId} {row : Option Nat} (h : Box w b cs t) (hg : w.grownBy w' row) (hne : some b ≠ row) : Box w' b cs t := (hg.block b h.lt hne).trans h
theorem Box.range {w : World} {b : Nat} {cs : List Value} {t : TypeId} (h : Box w b cs t) : w.rangeAt b 0 cs := fun j v hj => by rw [Nat.zero_add]; exact h.cell j hj
theorem heap_setCells (b : Nat) : ∀ (vs : List Value) (o : Nat) (w : World) (k : Nat), k ≠ b → (w.setCells b o vs).heap[k]? = w.heap[k]?
 | [], _, _, _, _ => rfl
 | v :: t, o, w, k, hk => by
  rw [World.setCells, heap_setCells b t (o + 1) _ k hk]
  exact Below.heap_setCell w _ v k hk
theorem size_setCells (b : Nat) : ∀ (vs : List Value) (o : Nat) (w : World), (w.setCells b o vs).heap.size = w.heap.size
 | [], _, _ => rfl
 | v :: t, o, w => by rw [World.setCells, size_setCells b t (o + 1) _]; simp [World.setCell]
theorem rest_setCells (b : Nat) : ∀ (vs : List Value) (o : Nat) (w : World), (w.setCells b o vs).os = w.os ∧ (w.setCells b o vs).tape = w.tape ∧ (w.setCells b o vs).output = w.output
 | [], _, _ => ⟨rfl, rfl, rfl⟩
 | v :: t, o, w => by rw [World.setCells]; exact rest_setCells b t (o + 1) _
theorem below_setCells {B b : Nat} {a w : World} (h : Below B a w) (hb : B ≤ b) (o : Nat) (vs : List Value) : Below B a (w.setCells b o vs) :=
 h.trans ⟨(rest_setCells b vs o w).1, (rest_setCells b vs o w).2.1, (rest_setCells b vs o w).2.2, by rw [size_setCells]; exact Nat.le_refl _, fun k hk => heap_setCells b vs o w k (by omega)⟩
section
variable {P : Program} {ops : Array Oper} {rest : List Oper} {op : Oper} {a : Act} {w : World} {Q : Exit → Act → World → Prop}
end
theorem K_world {K : Act → World → Prop} {A : Act} {W : World} (h : ∀ w', w' = W → K A w') : K A W := h _ rfl
/-- results that are one variable and one slot. -/
theorem results_box {P : Program} {fn : Func} {tmps : Array Value} {a s : Nat} {t t' : TypeId} {w : World} {b : Nat} {cs : List Value} {v : Value} {d : TypeDesc} (hr : fn.results = #[.cell a t, .tmp s])
  (ha : tmps.getD a undef = .pointer (some ⟨b, 0, none⟩)) (hs : tmps.getD s undef = v) (hc : Box w b cs t') (hu : P.underlying t = some d) (hd : d.isRow = true) (hi : (P.info? t).map (·.size) = some cs.length) :
  (results fn tmps).run P w = .ok (.tuple #[.agg cs.toArray, v]) w := by
 have hl := run_loadVar_mid (P := P) w b 0 t cs d hc.range hu hd hi
 have ha' : tmps[a]?.getD undef = .pointer (some ⟨b, 0, none⟩) := by simpa using ha
 have hs' : tmps[s]?.getD undef = v := by simpa using hs
 unfold results
 rw [hr]
 simp [asAddr, ha', hs', hl]
end Go.Proofs.YtmobangdckiffaaDoor
namespace Go.Proofs.YtmobangdckiffaaDoor
open Go.ChangeShapes Go.WideShapes Go.ChangeAt Go.RowKit
set_option linter.unusedVariables false
/-- the table of the trailing zeros: its entry for 16 (and 8). -/
def Tz (base : Nat) (w : World) : Prop := ∃ g, Tryd.prog.globalNamed "math/bits.deBruijn64tab" = some g ∧ g < base ∧ w.cell? ⟨g, 15, none⟩ = some (.int .u8 4)
theorem pow_any (w : World) : Calls Tryd.prog 61 #[.int .i64 16] w fun e w' => e = .returned (.bool true) ∧ w' = w := by
 go_enter Tryd.func61, Tryd.ntmps61
 go_wp2
 go_ret
 exact ⟨rfl, rfl⟩
theorem tz_any (w : World) (h : Tz w.heap.size w) : Calls Tryd.prog 79 #[.int .u64 16] w fun e w' => e = .returned (.int .i64 4) ∧ w' = w := by
 obtain ⟨g, hg, -, hc⟩ := h
 have h5 : Tryd.prog.globalNamed "math/bits.deBruijn64tab" = some 5 := by kernel_rfl
 obtain rfl : g = 5 := (Option.some.inj (h5.symm.trans hg)).symm
 have e1 : bits BinOp.and IntKind.u64 16 (IntKind.u64.wrap (-16)) = 16 := by decide +kernel
 have e2 : IntKind.u64.wrap (16 * 285870213051353865) / 288230376151711744 = 15 := by decide +kernel
 clear hg h5
 go_enter Tryd.func79, Tryd.ntmps79
 go_wp2_with fail
 go_ret
 exact ⟨rfl, rfl⟩
theorem tz_any' (w : World) (h : Tz w.heap.size w) : Calls Tryd.prog 62 #[.int .u64 16] w fun e w' => e = .returned (.int .i64 4) ∧ w' = w := by
 go_enter Tryd.func62, Tryd.ntmps62
 go_wp2_with fail
 refine (tz_any w h).mono ?_
 rintro e w1 ⟨rfl, rfl⟩
 go_wp2_with fail
 go_ret
 exact ⟨rfl, rfl⟩
theorem Tz.mono {base base' : Nat} {w : World} (h : Tz base w) (hb : base ≤ base') : Tz base' w := by
 obtain ⟨g, h1, h2, h3⟩ := h
 exact ⟨g, h1, by omega, h3⟩
def digB : ByteArray := ⟨#[48, 49, 50, 51, 52, 53, 54, 55, 56, 57, 97, 98, 99, 100, 101, 102, 103, 104, 105, 106, 107, 108, 109, 110, 111, 112, 113, 114, 115, 116, 117, 118, 119, 120, 121, 122]⟩
theorem and15 (n : Nat) (h : n < 18446744073709551616) : bits BinOp.and IntKind.u64 (n : Int) 15 = ((n % 16 : Nat) : Int) := by
 unfold bits
 simp
 have e1 : n % 2 ^ IntKind.u64.bits = n := Nat.mod_eq_of_lt (show n < 2 ^ 64 by omega)
 have e2 : 15 % 2 ^ IntKind.u64.bits = 15 := by decide
 have e3 : n &&& 15 = n % 16 := Nat.and_two_pow_sub_one_eq_mod n 4
 rw [e1, e2, e3]
 show (((n % 16 : Nat) : Int)) % 18446744073709551616 = (n : Int) % 16
 omega
theorem ix16 : ∀ d : Nat, d < 16 → ∀ w', (Instr.index 9 (.string digB) (.int .u64 (d : Int))).run Tryd.prog w' = .ok (.int .u8 (hexC d).toNat) w' := by
 intro d hd w'
 rcases d with _ | _ | _ | _ | _ | _ | _ | _ | _ | _ | _ | _ | _ | _ | _ | _ | d
 all_goals first | omega | kernel_rfl
theorem Tz.below {base : Nat} {w w' : World} (h : Tz base w) (hb : Below base w w') : Tz base w' := by
 obtain ⟨g, h1, h2, h3⟩ := h
 exact ⟨g, h1, h2, (hb.cell (p := ⟨g, 15, none⟩) h2).trans h3⟩
theorem below_setCells1 {B b : Nat} {a w : World} (h : Below B a w) (hb : B ≤ b) (o : Nat) (v : Value) : Below B a (w.setCell ⟨b, o, none⟩ v) := below_setCells h hb o [v]
set_option maxRecDepth 100000
set_option maxHeartbeats 8000000
theorem bits_any (u : Nat) (hu : u < 16 ^ 16) (w : World) (hT : Tz w.heap.size w) : Calls Tryd.prog 40 #[.slice none 0 0, .int .u64 u, .int .i64 16, .bool false, .bool false] w fun e w' => e = .returned (.tuple #[.slice none 0 0, .string ⟨(hexU u).toArray⟩]) ∧ Below w.heap.size w w' := by
 have HT := Lib.hid hT
 clear hT
 go_enter Tryd.func40, Tryd.ntmps40
 go_upto_region 4 with (fail)
 have ez : Tryd.zeroCells100 = (List.replicate 65 (Value.int .u8 0)).toArray := by kernel_rfl
 rw [ez]
 have HB0 := Lib.hid (Box.new w (List.replicate 65 (Value.int .u8 0)) 100)
 have HL0 := Lib.hid ((Below.refl w.heap.size w).alloc (Nat.le_refl _) (.cells (List.replicate 65 (Value.int .u8 0)).toArray 100))
 obtain ⟨b, hb⟩ : ∃ b, b = w.heap.size := ⟨_, rfl⟩
 rw [← hb] at HB0 ⊢
 have hwb : w.heap.size ≤ b := by omega
 generalize w.alloc (.cells (List.replicate 65 (Value.int .u8 0)).toArray 100) = w0 at *
 clear ez hb
 have hT0 := (HT.out.below HL0.out)
 have hsz0 := HL0.out.size
 go_wp2_with fail
 refine (pow_any w0).mono ?_
 rintro e w1 ⟨rfl, rfl⟩
 go_wp2_with fail
 refine (tz_any' w1 (hT0.mono hsz0)).mono ?_
 rintro e w2 ⟨rfl, rfl⟩
 go_wp2_with fail
 clear hT0
 have HAnd : Hid (∀ n : Nat, n < 18446744073709551616 → bits BinOp.and IntKind.u64 (n : Int) 15 = ((n % 16 : Nat) : Int)) := Lib.hid and15
 have HIx : Hid (∀ d : Nat, d < 16 → ∀ w', (Instr.index 9 (.string digB) (.int .u64 (d : Int))).run Tryd.prog w' = .ok (.int .u8 (hexC d).toNat) w') := Lib.hid ix16
 go_loopw [13, 1] (fun v13 v1 wr => ∃ (f i u' : Nat) (cs : List Value) (acc : Byj), v13 = .int .i64 i ∧ v1 = .int .u64 u' ∧ cs.length = 65 ∧ i + acc.length = 65 ∧ f + acc.length = 16 ∧ u' < 16 ^ (f + 1) ∧ u' < 18446744073709551616 ∧ Hid (Box wr b cs 100) ∧ Hid (cs.drop i = Lib.byteCells acc) ∧ Hid (hexF f u' acc = hexU u) ∧ Hid (Below w.heap.size w wr)) (fun _ v _ => (intOf v).toNat)
 case atStart => exact ⟨16, 65, u, List.replicate 65 (.int .u8 0), [], rfl, rfl, by simp, rfl, rfl, Nat.lt_of_lt_of_le hu (by decide), by simpa using hu, HB0, Lib.hid (by rfl), Lib.hid rfl, HL0⟩
 case round =>
  obtain ⟨f, i, u', cs, acc, rfl, rfl, hcl, hia, hfa, huf, hu64, HB, HC, HX, HL⟩ := hrel
  by_cases hge : 16 ≤ u'
  ·have hgI : (16 : Int) ≤ (u' : Int) := by omega
   cases f with
   | zero => simp at huf; omega
   | succ f =>
    obtain ⟨j, rfl⟩ : ∃ j, i = j + 1 := ⟨i - 1, by omega⟩
    have ha := HAnd.out u' hu64
    have hx := HIx.out (u' % 16) (by omega)
    have hjl : j < 65 := by omega
    obtain ⟨old, hold⟩ : ∃ old, cs[j]? = some old := ⟨_, List.getElem?_eq_getElem (by omega)⟩
    have c0 := HB.out.cell j hold
    have f0 := HB.out.frozen j
    have hbl := HB.out.lt
    unfold digB at hx
    obtain ⟨d, hd⟩ : ∃ d, d = u' % 16 := ⟨_, rfl⟩
    have HD := Lib.hid hd
    rw [← hd] at ha hx
    clear hd
    go_wp2_with fail
    go_roundw
    case rel =>
     refine ⟨f, j, u' / 16, cs.set j (.int .u8 (hexC d).toNat), hexC d :: acc, rfl, by rfl, by rw [List.length_set]; exact hcl, by rw [List.length_cons]; omega, by rw [List.length_cons]; omega, by rw [Nat.pow_succ] at huf; omega, by omega, Lib.hid (HB.out.set j _), Lib.hid ?_, Lib.hid ?_, Lib.hid ?_⟩
     ·rw [List.drop_eq_getElem_cons (by rw [List.length_set]; omega), List.getElem_set_self, List.drop_set_of_lt (by omega), HC.out]; rfl
     ·rw [← HX.out, hexF, if_neg (by omega), HD.out]
     ·exact below_setCells1 HL.out hwb j _
    case measure => show ((u' : Int) / 16).toNat < (u' : Int).toNat; omega
  ·have hgI : ¬ (16 : Int) ≤ (u' : Int) := by omega
   obtain ⟨j, rfl⟩ : ∃ j, i = j + 1 := ⟨i - 1, by omega⟩
   have hx := HIx.out u' (by omega)
   have hjl : j < 65 := by omega
   obtain ⟨old, hold⟩ : ∃ old, cs[j]? = some old := ⟨_, List.getElem?_eq_getElem (by omega)⟩
   have c0 := HB.out.cell j hold
   have f0 := HB.out.frozen j
   have hbl := HB.out.lt
   have HB' := Lib.hid (HB.out.set j (.int .u8 (hexC u').toNat))
   have HL' := Lib.hid (below_setCells1 HL.out hwb j (.int .u8 (hexC u').toNat))
   have HU : Hid (hexC u' :: acc = hexU u) := Lib.hid (by
    rw [← HX.out]
    cases f with
    | zero => rfl
    | succ f => rw [hexF, if_pos (by omega)])
   have HC' : Hid ((cs.set j (.int .u8 (hexC u').toNat)).drop j = Lib.byteCells (hexU u)) := Lib.hid (by
    rw [List.drop_eq_getElem_cons (by rw [List.length_set]; omega), List.getElem_set_self, List.drop_set_of_lt (by omega), HC.out, ← HU.out]; rfl)
   unfold digB at hx
   go_upto_region 30 with (fail)
   generalize wr.setCell ⟨b, j, none⟩ (.int .u8 (hexC u').toNat) = w5 at *
   clear c0 f0 hold hx HB HL HC HX
   have hcv := run_convert_bytes_back (P := Tryd.prog) w5 41 9 5 ⟨b, j, none⟩ (65 - j) (hexU u) Tryd.underlying41 Tryd.underlying5 Tryd.underlying9 (fun k hk => by
    have e1 : (⟨b, j, none⟩ : Addr).add k = ⟨b, j + k, none⟩ := by unfold Addr.add; split <;> simp_all
    rw [e1]
    refine HB'.out.cell (j + k) ?_
    rw [← List.getElem?_drop, HC'.out]
    unfold Lib.byteCells
    rw [List.getElem?_map, List.getElem?_eq_getElem hk]; rfl)
   have hlen : (hexU u).length = 65 - j := by
    have := congrArg List.length HU.out
    rw [List.length_cons] at this
    omega
   rw [hlen] at hcv
   have hsl : ∀ w', (Instr.sliceAt 100 (.pointer (some ⟨b, 0, none⟩)) (some (.int .i64 (j : Int))) none none).run Tryd.prog w' = .ok (.slice (some ⟨b, j, none⟩) (65 - j) (65 - j)) w' := fun w' => by
    have hal : Tryd.prog.arrayLen 100 = 65 := by kernel_rfl
    rw [run_sliceAt_array_l (P := Tryd.prog) (w := w') (kl := .i64) (l := (j : Int)) (h0 := by omega) (h1 := by rw [hal]; omega) (ht := by kernel_rfl)]
    have hso : (sizeOf (Tryd.prog.elem 100)).run Tryd.prog w' = .ok 1 w' := by kernel_rfl
    have ead : (⟨b, 0, none⟩ : Addr).add (j * 1) = ⟨b, j, none⟩ := by rw [add_off, Nat.mul_one, Nat.zero_add]
    rw [hso, hal]
    show Result.ok (slicedAt ⟨b, 0, none⟩ (j : Int).toNat 65 65 1) w' = _
    unfold slicedAt
    rw [Int.toNat_natCast, if_neg (by omega), ead]
   go_wp2_with fail
   go_ret2
   exact ⟨rfl, HL'.out⟩
theorem fmtI_any (u : Nat) (hu : u < 16 ^ 16) (w : World) (hT : Tz w.heap.size w) : Calls Tryd.prog 25 #[.int .u64 u, .int .i64 16] w fun e w' => e = .returned (.string ⟨(hexU u).toArray⟩) ∧ Below w.heap.size w w' := by
 go_enter Tryd.func25, Tryd.ntmps25
 go_wp2_with fail
 refine (bits_any u hu w hT).mono ?_
 rintro e w1 ⟨rfl, hb⟩
 go_wp2_with fail
 go_ret
 exact ⟨rfl, hb⟩
/-- strconv.FormatUint at base 16. -/
theorem fmt_any (u : Nat) (hu : u < 16 ^ 16) (w : World) (hT : Tz w.heap.size w) : Calls Tryd.prog 12 #[.int .u64 u, .int .i64 16] w fun e w' => e = .returned (.string ⟨(hexU u).toArray⟩) ∧ Below w.heap.size w w' := by
 go_enter Tryd.func12, Tryd.ntmps12
 go_wp2_with fail
 refine (fmtI_any u hu w hT).mono ?_
 rintro e w1 ⟨rfl, hb⟩
 go_wp2_with fail
 go_ret
 exact ⟨rfl, hb⟩
end Go.Proofs.YtmobangdckiffaaDoor
namespace Go.Proofs.YtmobangdckiffaaDoor
open Go.ChangeShapes Go.WideShapes Go.ChangeAt Go.RowKit
set_option linter.unusedVariables false
theorem valH_lt {c : UInt8} (h : isHex c = true) : valH c < 16 := by
  unfold isHex at h
  unfold valH
  simp only [Bool.or_eq_true, Bool.and_eq_true, decide_eq_true_eq] at h
  split <;> omega
theorem valL_lt : ∀ (l : Byj), (∀ c ∈ l, isHex c = true) → ∀ n, l.length = n → valL l < 16 ^ n
  | l, h, 0, hn => by obtain rfl := List.length_eq_zero_iff.1 hn; decide
  | l, h, n + 1, hn => by
    obtain ⟨i, c, rfl⟩ : ∃ i c, l = i ++ [c] := by
      rcases List.eq_nil_or_concat l with e | ⟨i, c, e⟩
      · rw [e] at hn; cases hn
      · exact ⟨i, c, by simpa using e⟩
    rw [List.length_append] at hn
    have h1 := valL_lt i (fun d hd => h d (List.mem_append_left _ hd)) n (by simpa using hn)
    have h2 := valH_lt (h c (List.mem_append_right _ (List.mem_singleton.2 rfl)))
    rw [valL_snoc, Nat.pow_succ]
    omega
theorem or32 : ∀ c : UInt8, 97 ≤ c.toNat → c.toNat ≤ 102 → bits BinOp.or IntKind.u8 (c.toNat : Int) 32 = (c.toNat : Int) := by
  intro c h1 h2
  have hc : c = 97 ∨ c = 98 ∨ c = 99 ∨ c = 100 ∨ c = 101 ∨ c = 102 := by
    have h : c.toNat = 97 ∨ c.toNat = 98 ∨ c.toNat = 99 ∨ c.toNat = 100 ∨ c.toNat = 101 ∨ c.toNat = 102 := by omega
    rcases h with h | h | h | h | h | h
    · exact .inl (UInt8.toNat_inj.1 h)
    · exact .inr (.inl (UInt8.toNat_inj.1 h))
    · exact .inr (.inr (.inl (UInt8.toNat_inj.1 h)))
    · exact .inr (.inr (.inr (.inl (UInt8.toNat_inj.1 h))))
    · exact .inr (.inr (.inr (.inr (.inl (UInt8.toNat_inj.1 h)))))
    · exact .inr (.inr (.inr (.inr (.inr (UInt8.toNat_inj.1 h)))))
  rcases hc with rfl | rfl | rfl | rfl | rfl | rfl <;> decide +kernel
theorem lower_any (c : UInt8) (h1 : 97 ≤ c.toNat) (h2 : c.toNat ≤ 102) (w : World) : Calls Tryd.prog 72 #[.int .u8 c.toNat] w fun e w' => e = .returned (.int .u8 c.toNat) ∧ w' = w := by
  have ho := or32 c h1 h2
  go_enter Tryd.func72, Tryd.ntmps72
  go_wp2_with fail
  go_ret
  exact ⟨rfl, rfl⟩
set_option maxRecDepth 100000
set_option maxHeartbeats 8000000
theorem parseI_any (s : ByteArray) (hs : s.size = 16) (hx : ∀ c ∈ s.data.toList, isHex c = true) (w : World) : Calls Tryd.prog 54 #[.string s, .int .i64 16, .int .i64 64] w fun e w' => e = .returned (.tuple #[.int .u64 (valL s.data.toList), .nilIface]) ∧ Below w.heap.size w w' := by
  have hemp : s.toList.isEmpty = false := by
    rw [Lib.toList_data]
    cases h : s.data.toList with
    | nil => have h2 : s.data.toList.length = s.size := by simp
             rw [h] at h2; simp at h2; omega
    | cons _ _ => rfl
  have HX := Lib.hid hx
  clear hx
  go_enter Tryd.func54, Tryd.ntmps54
  have hcv := Lib.run_convert_string_bytes (P := Tryd.prog) w 9 41 5 s Tryd.underlying9 Tryd.underlying41 Tryd.underlying5
  have hmx : IntKind.u64.wrap (IntKind.u64.wrap 18446744073709551616 - 1) = 18446744073709551615 := by decide +kernel
  have HCl : Hid (∀ j, j < 16 → (Lib.bytesWorld w 5 s).cell? ⟨w.heap.size, j, none⟩ = some (.int .u8 (s.data.toList.getD j 0).toNat)) := Lib.hid fun j hj => Lib.bytesWorld_cell w _ s j (by omega)
  have HBl : Hid (Below w.heap.size w (Lib.bytesWorld w 5 s)) := Lib.hid ⟨rfl, rfl, rfl, by rw [Lib.bytesWorld_size]; omega, fun j hj => Lib.bytesWorld_at_old w _ s j hj⟩
  have hsI : (s.size : Int) = 16 := by omega
  have HSl : Hid (s.data.toList.length = 16) := Lib.hid (by simpa using hs)
  generalize Lib.bytesWorld w 5 s = w1 at *
  generalize grownCap w s.size 0 5 = gcp at *
  go_wp2_with fail
  clear hcv
  obtain ⟨bb, hbb⟩ : ∃ bb, bb = w.heap.size := ⟨_, rfl⟩
  rw [← hbb] at HCl ⊢
  obtain ⟨cut, hcut⟩ : ∃ cut : Int, cut = 1152921504606846976 := ⟨_, rfl⟩
  obtain ⟨mxv, hmxv⟩ : ∃ mxv : Int, mxv = 18446744073709551615 := ⟨_, rfl⟩
  rw [← hcut, ← hmxv]
  have HCut := Lib.hid hcut
  have HMxv := Lib.hid hmxv
  clear hbb hcut hmxv hmx
  go_loopw [101, 12, 13, 15, 16, 17] (fun v101 v12 v13 v15 v16 v17 wr => ∃ (i : Nat) (o15 o16 o17 : Value), o15 = v15 ∧ o16 = v16 ∧ o17 = v17 ∧ i ≤ 16 ∧ v101 = .int .i64 i ∧ v12 = .bool false ∧ v13 = .int .u64 (valL (s.data.toList.take i)) ∧ wr = w1) (fun v _ _ _ _ _ _ => 16 - (intOf v).toNat)
  case atStart => exact ⟨0, _, _, _, rfl, rfl, rfl, Nat.zero_le _, rfl, rfl, rfl, rfl⟩
  case round =>
    obtain ⟨i, o15, o16, o17, rfl, rfl, rfl, hi, rfl, rfl, rfl, rfl⟩ := hrel
    by_cases hlt : i < 16
    · have hltI : (i : Int) < 16 := by omega
      have hc := HCl.out i hlt
      obtain ⟨c, hcc⟩ : ∃ c, c = s.data.toList.getD i 0 := ⟨_, rfl⟩
      have hget : s.data.toList[i]? = some c := by
        rw [hcc, List.getD_eq_getElem?_getD, List.getElem?_eq_getElem (by rw [HSl.out]; exact hlt)]; rfl
      have htk : s.data.toList.take (i + 1) = s.data.toList.take i ++ [c] := by rw [List.take_add_one, hget]; rfl
      have hhx := HX.out c (List.mem_of_getElem? hget)
      have hv16 := valL_lt (s.data.toList.take i) (fun d hd => HX.out d (List.mem_of_mem_take hd)) i (by rw [List.length_take, HSl.out]; omega)
      have hp : 16 ^ i ≤ 16 ^ 15 := Nat.pow_le_pow_right (by decide) (by omega)
      have hvl : valL (s.data.toList.take i) < 1152921504606846976 := by
        have : (16 : Nat) ^ 15 = 1152921504606846976 := by decide
        omega
      have HTk : Hid (valL (s.data.toList.take (i + 1)) = valL (s.data.toList.take i) * 16 + valH c) := Lib.hid (by rw [htk, valL_snoc])
      rw [← hcc] at hc
      generalize valL (s.data.toList.take i) = n at *
      have hc256 := c.toNat_lt
      have HI := Lib.hid hlt
      unfold isHex at hhx
      simp only [Bool.or_eq_true, Bool.and_eq_true, decide_eq_true_eq] at hhx
      clear htk hget hcc hv16 hp hlt hi
      rcases hhx with ⟨h1, h2⟩ | ⟨h1, h2⟩
      · have hV : valH c = c.toNat - 48 := by unfold valH; rw [if_pos (by omega)]
        have t1 : ((c.toNat : Int) == 95) = false := by rw [beq_eq_false_iff_ne]; omega
        have t2 : (48 : Int) ≤ (c.toNat : Int) := by omega
        have t3 : (c.toNat : Int) ≤ 57 := by omega
        obtain ⟨d, hd⟩ : ∃ d : Nat, c.toNat = d + 48 := ⟨c.toNat - 48, by omega⟩
        rw [hV, hd] at HTk
        rw [hd] at hc t1 t2 t3 h1 h2
        have w3' : ¬ (16 : Int) ≤ (d : Int) := by omega
        have w4' : ¬ cut ≤ (n : Int) := by rw [HCut.out]; omega
        have w5' : IntKind.u64.wrap ((n : Int) * 16) = ((n * 16 : Nat) : Int) := by show ((n : Int) * 16) % 18446744073709551616 = _; omega
        have w6' : IntKind.u64.wrap (((n * 16 : Nat) : Int) + (d : Int)) = ((n * 16 + d : Nat) : Int) := by show (((n * 16 : Nat) : Int) + (d : Int)) % 18446744073709551616 = _; omega
        have w7' : ¬ ((n * 16 + d : Nat) : Int) < ((n * 16 : Nat) : Int) := by omega
        have w8' : ¬ mxv < ((n * 16 + d : Nat) : Int) := by rw [HMxv.out]; omega
        clear hV hd hc256
        go_wp2_with fail
        go_roundw
        case rel => exact ⟨i + 1, _, _, _, rfl, rfl, rfl, HI.out, by go_num, rfl, by rw [HTk.out, Nat.add_sub_cancel]; rfl, trivial⟩
        case measure => have := HI.out; show 16 - ((i : Int) + 1).toNat < 16 - (i : Int).toNat; omega
      · have hV : valH c = c.toNat - 87 := by unfold valH; rw [if_neg (by omega)]
        obtain ⟨k, hk⟩ : ∃ k : Nat, k = c.toNat := ⟨_, rfl⟩
        rw [hV] at HTk
        rw [← hk] at HTk hc h1 h2 hc256
        have HL1 : Hid (∀ w', Calls Tryd.prog 72 #[.int .u8 k] w' fun e w'' => e = .returned (.int .u8 k) ∧ w'' = w') := Lib.hid fun w' => by rw [hk]; exact lower_any c (by omega) (by omega) w'
        have t1 : ((k : Int) == 95) = false := by rw [beq_eq_false_iff_ne]; omega
        have t2 : (48 : Int) ≤ (k : Int) := by omega
        have t3 : ¬ (k : Int) ≤ 57 := by omega
        have t4 : (97 : Int) ≤ (k : Int) := by omega
        have t5 : (k : Int) ≤ 122 := by omega
        obtain ⟨a, ha⟩ : ∃ a : Nat, a = k - 97 := ⟨_, rfl⟩
        obtain ⟨d, hd⟩ : ∃ d : Nat, d = k - 87 := ⟨_, rfl⟩
        have r1 : (k : Int) - 97 = (a : Int) := by omega
        have r2 : (a : Int) + 10 = (d : Int) := by omega
        have hd16 : d < 16 := by omega
        have ha6 : a < 6 := by omega
        rw [← hd] at HTk
        have w3' : ¬ (16 : Int) ≤ (d : Int) := by omega
        have w4' : ¬ cut ≤ (n : Int) := by rw [HCut.out]; omega
        have w5' : IntKind.u64.wrap ((n : Int) * 16) = ((n * 16 : Nat) : Int) := by show ((n : Int) * 16) % 18446744073709551616 = _; omega
        have w6' : IntKind.u64.wrap (((n * 16 : Nat) : Int) + (d : Int)) = ((n * 16 + d : Nat) : Int) := by show (((n * 16 : Nat) : Int) + (d : Int)) % 18446744073709551616 = _; omega
        have w7' : ¬ ((n * 16 + d : Nat) : Int) < ((n * 16 : Nat) : Int) := by omega
        have w8' : ¬ mxv < ((n * 16 + d : Nat) : Int) := by rw [HMxv.out]; omega
        clear hV hk ha hd
        go_wp2_with fail
        refine (HL1.out _).mono ?_
        rintro e w2 ⟨rfl, rfl⟩
        go_wp2_with fail
        refine (HL1.out _).mono ?_
        rintro e w2 ⟨rfl, rfl⟩
        go_wp2_with fail
        refine (HL1.out _).mono ?_
        rintro e w2 ⟨rfl, rfl⟩
        go_wp2_with fail
        go_roundw
        case rel => exact ⟨i + 1, _, _, _, rfl, rfl, rfl, HI.out, by go_num, rfl, by rw [HTk.out]; rfl, trivial⟩
        case measure => have := HI.out; show 16 - ((i : Int) + 1).toNat < 16 - (i : Int).toNat; omega
    · obtain rfl : i = 16 := by omega
      have hltI : ¬ (((16 : Nat) : Int) < 16) := by decide
      have HV : Hid (valL (s.data.toList.take 16) = valL s.data.toList) := Lib.hid (by rw [List.take_of_length_le (by rw [HSl.out]; exact Nat.le_refl _)])
      rw [HV.out]
      go_wp2_with fail
      go_ret2
      exact ⟨rfl, HBl.out⟩
/-- strconv.ParseUint at base 16 and 64 bits, at sixteen digits. -/
theorem parse_any (s : ByteArray) (hs : s.size = 16) (hx : ∀ c ∈ s.data.toList, isHex c = true) (w : World) : Calls Tryd.prog 33 #[.string s, .int .i64 16, .int .i64 64] w fun e w' => e = .returned (.tuple #[.int .u64 (valL s.data.toList), .nilIface]) ∧ Below w.heap.size w w' := by
  go_enter Tryd.func33, Tryd.ntmps33
  go_wp2_with fail
  refine (parseI_any s hs hx w).mono ?_
  rintro e w1 ⟨rfl, hb⟩
  go_wp2_with fail
  go_ret2
  exact ⟨rfl, hb⟩
end Go.Proofs.YtmobangdckiffaaDoor

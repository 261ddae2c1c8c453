/- strings.IndexAny at the blanks and brackets: whatever bytes the text has. -/
import Derived.Test.YthklhndcdijneaaGreatDoorC39
import Derived.Lib.TrimUEq
import Derived.Lib.IndexAny
import Derived.Lib.OthersKept
import Derived.Laws.RangeAny
import Derived.WalkMore
import Derived.BigQuiet
import Derived.Deep.Cut
import Derived.Deep.QuietTactic
namespace Go.Proofs.YthklhndcdijneaaGreatDoor
open Go.ChangeShapes Go.WideShapes Go.ChangeAt Go.RowKit
set_option linter.unusedVariables false
def dlB : ByteArray := ⟨#[32, 10, 40, 41, 123, 125]⟩
theorem dlB_at : ∀ (j : Nat) b, dlB.data.toList[j]? = some b → b.toNat < 128 := by
 intro j b hj
 have hm : b ∈ dlB.data.toList := List.mem_of_getElem? hj
 have hall : (dlB.data.toList.all fun b => decide (b.toNat < 128)) = true := by decide
 simpa using List.all_eq_true.1 hall b hm
theorem decN_high (n b0 b1 b2 b3 : Nat) (hb : 128 ≤ b0) (hn : 1 ≤ n) : 128 ≤ (Lib.decodeN n b0 b1 b2 b3).1 ∧ (Lib.decodeN n b0 b1 b2 b3).1 ≤ 1114111 ∧ 1 ≤ (Lib.decodeN n b0 b1 b2 b3).2 ∧ (Lib.decodeN n b0 b1 b2 b3).2 ≤ n ∧ (Lib.decodeN n b0 b1 b2 b3).2 ≤ 4 ∧
  (2 ≤ (Lib.decodeN n b0 b1 b2 b3).2 → 128 ≤ b1) ∧ (3 ≤ (Lib.decodeN n b0 b1 b2 b3).2 → 128 ≤ b2) ∧ (4 ≤ (Lib.decodeN n b0 b1 b2 b3).2 → 128 ≤ b3) := by
 unfold Lib.decodeN
 repeat' split
 all_goals (dsimp only; omega)
theorem all_low {l : List UInt8} {x : UInt8} (h : (l.all fun b => decide (b.toNat < 128)) = true) (hx : 128 ≤ x.toNat) : l.contains x = false := by
 by_cases hc : l.contains x = true
 ·have := List.all_eq_true.1 h x (List.contains_iff_mem.1 hc)
  have := of_decide_eq_true this
  omega
 ·simpa using hc
theorem dl_high {x : UInt8} (h : 128 ≤ x.toNat) : dlB.data.toList.contains x = false := by
 by_cases hc : dlB.data.toList.contains x = true
 ·obtain ⟨j, hj⟩ := List.mem_iff_getElem?.1 (List.contains_iff_mem.1 hc)
  have := dlB_at j x hj
  omega
 ·simpa using hc
theorem noAny_skip {s : ByteArray} {i : Nat} (h : Lib.NoAny s.data.toList dlB.data.toList i) (hi : i < s.size) (hb : 128 ≤ (s[i]'hi).toNat) :
  128 ≤ (Utf8.decode s i).1 ∧ (Utf8.decode s i).1 ≤ 1114111 ∧ 1 ≤ (Utf8.decode s i).2 ∧ i + (Utf8.decode s i).2 ≤ s.size ∧ Lib.NoAny s.data.toList dlB.data.toList (i + (Utf8.decode s i).2) := by
 have hl : s.data.toList.length = s.size := by simp
 have hx := Lib.data_getElem? s i hi
 have e0 : s.data.toList.getD i 0 = s[i]'hi := by rw [List.getD_eq_getElem?_getD, hx]; rfl
 have hd := Lib.decode_N s i
 rw [e0] at hd
 obtain ⟨h1, h2, h3, h4, h5, h6, h7, h8⟩ := decN_high (s.data.toList.length - i) (s[i]'hi).toNat (s.data.toList.getD (i + 1) 0).toNat (s.data.toList.getD (i + 2) 0).toNat (s.data.toList.getD (i + 3) 0).toNat hb (by omega)
 rw [← hd] at h1 h2 h3 h4 h5 h6 h7 h8
 refine ⟨h1, h2, h3, by omega, fun j b hj hbj => ?_⟩
 by_cases hji : j < i
 ·exact h j b hji hbj
 have hg : s.data.toList.getD j 0 = b := by rw [List.getD_eq_getElem?_getD, hbj]; rfl
 refine dl_high ?_
 rcases (by omega : j = i ∨ j = i + 1 ∨ j = i + 2 ∨ j = i + 3) with rfl | rfl | rfl | rfl
 ·rw [← hg, e0]; exact hb
 ·rw [← hg]; exact h6 (by omega)
 ·rw [← hg]; exact h7 (by omega)
 ·rw [← hg]; exact h8 (by omega)
theorem enc_last {r : Int} (h0 : 128 ≤ r) (h1 : r ≤ 1114111) : ∃ (n : Nat) (x : UInt8), (Utf8.encode r).size = n + 1 ∧ 1 ≤ n ∧ n ≤ 3 ∧ (Utf8.encode r).data.toList[n]? = some x ∧ 128 ≤ x.toNat := by
 have hlast : ∀ c : Nat, 128 ≤ (UInt8.ofNat (128 + c % 64)).toNat := fun c => by
  rw [UInt8.toNat_ofNat']
  omega
 unfold Utf8.encode
 dsimp only
 generalize hc : (if Utf8.valid r = true then r.toNat else Utf8.runeError) = c
 have hc1 : 128 ≤ c := by
  rw [← hc]
  split
  ·omega
  ·decide
 rw [if_neg (by omega)]
 split
 ·exact ⟨1, _, rfl, by omega, by omega, rfl, hlast _⟩
 ·split
  ·exact ⟨2, _, rfl, by omega, by omega, rfl, hlast _⟩
  ·exact ⟨3, _, rfl, by omega, by omega, rfl, hlast _⟩
theorem below_iter (w : World) (s : ByteArray) (p : Nat) : Below w.heap.size w (w.iter s p) := (Below.refl _ _).alloc (Nat.le_refl _) _
set_option maxRecDepth 100000
set_option maxHeartbeats 8000000
theorem rune_high (r : Int) (h0 : 128 ≤ r) (h1 : r ≤ 1114111) (w : World) : Calls Tryz.prog 103 #[.string dlB, .int .i32 r] w fun e w' => e = .returned (.int .i64 (-1)) ∧ Below w.heap.size w w' := by
 go_enter Tryz.func103, Tryz.ntmps103
 by_cases he : r = 65533
 ·subst he
  go_wp2_with fail
  go_loopg [5, 6] 6 (fun g _ _ wx => ∃ i : Nat, i + g = 6 ∧ wx = w.iter dlB i)
  case atStart => exact ⟨0, by omega, rfl⟩
  case round =>
   obtain ⟨i, hig, rfl⟩ := hrel
   cases gk with
   | zero =>
    obtain rfl : i = 6 := by omega
    have hnx := fun ty => run_next_end (P := Tryz.prog) w dlB 6 ty (by decide)
    go_wp2_with fail
    go_ret
    exact ⟨rfl, below_iter _ _ _⟩
   | succ g =>
    have hi : i < dlB.size := by show i < 6; omega
    obtain ⟨x, hx⟩ : ∃ x : UInt8, dlB[i]'hi = x := ⟨_, rfl⟩
    have hx128 : x.toNat < 128 := dlB_at i x (by rw [← hx]; exact Lib.data_getElem? dlB i hi)
    have hnx := fun ty => run_next_ascii (P := Tryz.prog) w dlB i ty hi (by rw [hx]; exact hx128)
    rw [hx] at hnx
    have hne : ((x.toNat : Int) == 65533) = false := by rw [beq_eq_false_iff_ne]; omega
    clear hx
    go_wp2_with fail
    go_roundg g
    case measure => omega
    case rel => exact ⟨i + 1, by omega, rfl⟩
 ·have hn1 : (r == 65533) = false := by simpa using he
  have hlt : ¬ (r < 128) := by omega
  go_wp2_with fail
  refine (Tryz.utf8_ValidRune r w).mono ?_
  rintro e w1 ⟨rfl, rfl⟩
  obtain ⟨n, x, hsz, hn1', hn3, hx, hxh⟩ := enc_last h0 h1
  obtain ⟨t, ht⟩ : ∃ t, t = Utf8.encode r := ⟨_, rfl⟩
  have HTt := Lib.hid ht.symm
  rw [← ht] at hsz hx
  cases hv : Lib.validRune r with
  | false =>
   go_wp2_with fail
   go_ret
   exact ⟨rfl, Below.refl _ _⟩
  | true =>
   have hcv := fun w' => run_convert_int_string (P := Tryz.prog) w' 21 9 .i32 r (by kernel_rfl) Tryz.underlying9
   rw [← ht] at hcv
   have hxx := hx
   clear ht hx
   have hti : (t.size : Int) = (n : Int) + 1 := by omega
   go_wp2_with fail
   go_step3
   have hx2 : t[n]'(by omega) = x := by
    have h1 : n < t.size := by omega
    have := Lib.data_getElem? t n h1
    rw [hxx] at this
    exact (Option.some.inj this).symm
   have hns : n < t.size := by omega
   have hnd : n < dlB.size := by show n < 6; omega
   have hdn : (dlB[n]'hnd).toNat < 128 := dlB_at n _ (Lib.data_getElem? dlB n hnd)
   obtain ⟨y, hy⟩ : ∃ y, dlB[n]'hnd = y := ⟨_, rfl⟩
   rw [hy] at hdn
   have hds : dlB.size = 6 := rfl
   have hn6 : (n : Int) < 6 := by omega
   go_wp2_with fail
   go_loopw [9, 10, 11, 12] (fun v9 v10 v11 v12 wr => v9 = .int .i64 n ∧ wr = w1) (fun _ _ _ _ _ => 0)
   case atStart => exact ⟨rfl, rfl⟩
   case round =>
    obtain ⟨rfl, rfl⟩ := hrel
    have hne : ((y.toNat : Int) != (x.toNat : Int)) = true := by rw [bne_iff_ne]; omega
    have hback : ((x.toNat : Int)).toNat.toUInt8 = x := by simp
    have hneg : Lib.indexByte (dlB.extract (n + 1) 6).data.toList x < 0 := by
     have hcon := Lib.contains_iff_indexByte (dlB.extract (n + 1) 6).data.toList x
     have hcf : (dlB.extract (n + 1) 6).data.toList.contains x = false := by
      rcases (by omega : n = 1 ∨ n = 2 ∨ n = 3) with rfl | rfl | rfl <;> exact all_low (by decide) hxh
     rw [hcf] at hcon
     have := of_decide_eq_false hcon.symm
     omega
    go_wp2_with fail
    go_step3
    go_upto_region 6 with (fail)
    go_quiet (fail)
    go_upto_region 7 with (fail)
    go_quiet ((go_at_call 61; exact (Tryz.strings_IndexByte _ _ _).mono fun _ _ h => ⟨h.1, by rw [h.2]; exact ⟨_, rfl⟩⟩))
    have hneg2 : Lib.indexByte (dlB.extract (n + 1) 6).data.toList ((x.toNat : Int)).toNat.toUInt8 < 0 := by rw [hback]; exact hneg
    generalize Lib.indexByte (dlB.extract (n + 1) 6).data.toList ((x.toNat : Int)).toNat.toUInt8 = ix at hneg2 ⊢
    clear hneg hback
    go_wp2_with fail
    rw [Exit.noGoto_ret]
    dsimp (config := { zetaDelta := true }) only [Exit.inBlock, Exit.then, Exit.noGoto_ret]
    go_ret
    exact ⟨rfl, below_drewN (Below.refl _ _) _⟩
theorem below_iterAt {B k : Nat} {w w1 : World} (h : Below B w w1) (hk : B ≤ k) (s : ByteArray) (p : Nat) : Below B w (w1.iterAt k s p) :=
 ⟨h.os, h.tape, h.output, by show _ ≤ (w1.heap.setIfInBounds k _).size; rw [Array.size_setIfInBounds]; exact h.size, fun j hj => by
  show (w1.heap.setIfInBounds k _)[j]? = _
  rw [Array.getElem?_setIfInBounds_ne (by omega)]
  exact h.block j hj⟩
theorem any_short (s : ByteArray) (h8 : s.size ≤ 8) (w : World) : Calls Tryz.prog 79 #[.string s, .string dlB] w fun e w' => e = .returned (.int .i64 (Lib.indexAny s.data.toList dlB.data.toList)) ∧ Below w.heap.size w w' := by
 have hemp : dlB.toList.isEmpty = false := by rw [Lib.toList_data]; rfl
 have hds : dlB.size = 6 := rfl
 have h8z : decide ((8 : Int) < (s.size : Int)) = false := decide_eq_false (by omega)
 have HSL : Hid (s.data.toList.length = s.size) := Lib.hid (by simp)
 go_enter Tryz.func79, Tryz.ntmps79
 go_wp2_with fail
 refine (Tryz.strings_shouldUseASCIISet _ _).mono ?_
 rintro e w1 ⟨rfl, hw⟩
 rw [hw, h8z]
 clear hw
 go_wp2_with fail
 have hk0 := World.iter_heap w s 0
 obtain ⟨k, hk⟩ : ∃ k, k = w.heap.size := ⟨_, rfl⟩
 rw [← hk] at hk0 ⊢
 have HK1 : Hid (w.heap.size ≤ k) := Lib.hid (by omega)
 have HB0 : Hid (Below w.heap.size w (w.iter s 0)) := Lib.hid (below_iter _ _ _)
 have HK0 := Lib.hid hk0
 clear hk0 hk
 go_loopg [9, 10] s.size (fun g _ _ wx => ∃ i : Nat, i + g = s.size ∧ Hid (wx.heap[k]? = some (.stringIter s i)) ∧ Hid (Below w.heap.size w wx) ∧ Hid (Lib.NoAny s.data.toList dlB.data.toList i))
 case atStart => exact ⟨0, by omega, HK0, HB0, Lib.hid (Lib.NoAny.zero _ _)⟩
 case round =>
  obtain ⟨i, hig, HK, HB, HN⟩ := hrel
  cases gk with
  | zero =>
   obtain rfl : i = s.size := by omega
   have hnx := fun ty => Lib.run_next_end_at (P := Tryz.prog) wr k s s.size ty HK.out (by omega)
   go_wp2_with fail
   go_ret
   exact ⟨by rw [Lib.indexAny_none (by rw [HSL.out]; exact HN.out)]; rfl, HB.out⟩
  | succ g =>
   have hi : i < s.size := by omega
   obtain ⟨x, hx⟩ : ∃ x : UInt8, s[i]'hi = x := ⟨_, rfl⟩
   have hxl : s.data.toList[i]? = some x := by rw [← hx]; exact Lib.data_getElem? s i hi
   have HX := Lib.hid hxl
   by_cases h128 : x.toNat < 128
   ·have hnx := fun ty => Lib.run_next_ascii_at (P := Tryz.prog) wr k s i ty HK.out hi (by rw [hx]; exact h128)
    rw [hx] at hnx
    have HK2 := Lib.hid (Lib.iterAt_heap wr k s i (i + 1) HK.out)
    have HB2 := Lib.hid (below_iterAt HB.out HK1.out s (i + 1))
    generalize wr.iterAt k s (i + 1) = w2 at *
    have hcon := Lib.contains_iff_indexByte dlB.data.toList x
    have hback : ((x.toNat : Int)).toNat.toUInt8 = x := by simp
    clear hxl hx
    cases hin : dlB.data.toList.contains x
    ·rw [hin] at hcon
     have hlt : ¬ ((0 : Int) ≤ Lib.indexByte dlB.data.toList x) := of_decide_eq_false hcon.symm
     have HIN := Lib.hid hin
     clear hcon hin
     go_wp2_with fail
     refine (Tryz.strings_IndexRune_ascii dlB x.toNat w2 (by omega) (by omega)).mono ?_
     rintro e w3 ⟨rfl, rfl⟩
     rw [hback]
     generalize Lib.indexByte dlB.data.toList x = ix at *
     go_wp2_with fail
     go_roundg g
     case measure => omega
     case rel => exact ⟨i + 1, by omega, HK2, HB2, Lib.hid (HN.out.succ HX.out HIN.out)⟩
    ·rw [hin] at hcon
     have hge : (0 : Int) ≤ Lib.indexByte dlB.data.toList x := of_decide_eq_true hcon.symm
     have HIN := Lib.hid hin
     clear hcon hin
     go_wp2_with fail
     refine (Tryz.strings_IndexRune_ascii dlB x.toNat w2 (by omega) (by omega)).mono ?_
     rintro e w3 ⟨rfl, rfl⟩
     rw [hback]
     generalize Lib.indexByte dlB.data.toList x = ix at *
     go_wp2_with fail
     go_ret
     exact ⟨by rw [Lib.indexAny_hit HN.out HX.out HIN.out]; rfl, HB2.out⟩
   ·have hskip := noAny_skip HN.out hi (by rw [hx]; omega)
    have hnx := fun ty => Lib.run_next_any_at (P := Tryz.prog) wr k s i ty HK.out hi
    have HK2 := Lib.hid (Lib.iterAt_heap wr k s i (i + (Utf8.decode s i).2) HK.out)
    have HB2 := Lib.hid (below_iterAt HB.out HK1.out s (i + (Utf8.decode s i).2))
    clear hxl hx h128
    generalize wr.iterAt k s (i + (Utf8.decode s i).2) = w2 at *
    generalize (Utf8.decode s i).2 = wd at *
    generalize (Utf8.decode s i).1 = r at *
    obtain ⟨hr0, hr1, hwd, hwl, hno⟩ := hskip
    have HNO := Lib.hid hno
    have hrI0 : (128 : Int) ≤ (r : Int) := by omega
    have hrI1 : (r : Int) ≤ 1114111 := by omega
    clear hno
    go_wp2_with fail
    refine (rune_high (r : Int) hrI0 hrI1 w2).mono ?_
    rintro e w3 ⟨rfl, hb3⟩
    have HB3 := Lib.hid (below_trans HB2.out hb3 HB2.out.size)
    have HK3 : Hid (w3.heap[k]? = some (.stringIter s (i + wd))) := Lib.hid ((hb3.block k (Array.getElem?_eq_some_iff.1 HK2.out).1).trans HK2.out)
    clear hb3
    go_wp2_with fail
    go_roundg (s.size - (i + wd))
    case measure => omega
    case rel => exact ⟨i + wd, by omega, HK3, HB3, HNO⟩
theorem any_holds : AnySaid := by
 intro s w hs
 by_cases h8 : s.size ≤ 8
 ·exact any_short s h8 w
 ·have hz : (Tryz.prog.info? 166).map (fun i => (i.zero, i.size)) = some (some (.agg (Array.replicate 256 (.bool false))), 256) := by kernel_rfl
  exact (Tryz.strings_IndexAny_long (zero_of_info hz).1 s dlB w (by decide) (by omega) (by omega) (by decide) dlB_at).mono fun e w' ⟨he, hw⟩ => ⟨he, hw ▸ (((Below.refl _ _).alloc (Nat.le_refl _) _).alloc (by simp) _)⟩
end Go.Proofs.YthklhndcdijneaaGreatDoor

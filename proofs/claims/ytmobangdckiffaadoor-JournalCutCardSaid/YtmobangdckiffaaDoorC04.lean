/- HeldS, JcL, IntsB, Opn, JcH, JcB, JcW, JcR, JcD, JcE. -/
import Derived.Test.YtmobangdckiffaaDoorC03
import Derived.Deep.QuietTactic
import Derived.Test.YtmobangdckiffaaDoorC01
import Derived.Test.YtmobangdckiffaaDoorRows
import Derived.WalkKit
import Derived.ProofKit
import Derived.OpenShut
import Derived.LoopTactic
import Derived.Outline
import Derived.Lib.Hide
import Derived.Handy
import Derived.WalkSpells
import Derived.WalkSmall
import Derived.Test.YtmobangdckiffaaDoorC02
import Derived.Below
import Derived.BigQuiet
import Derived.Deep.Cut
import Derived.Lib.Strings
import Derived.Lib.Builder
import Derived.Lib.UnsafeStr
import Derived.Lib.IndexMore
namespace Go.Proofs.YtmobangdckiffaaDoor
set_option linter.unusedVariables false
section
variable {P : Program} {ops : Array Oper} {Q : Exit → Act → World → Prop} {md : Region.Mode} {S : World → Prop} {L : List Nat} {fuel : Nat} {listed : Array Bool} {a a1 : Act} {w : World} {oi : Oper} {v : Value}
theorem sAr {α : Type} (xs : List α) (i : Nat) (a : α) : xs.toArray.setIfInBounds i a = (xs.set i a).toArray := List.setIfInBounds_toArray ..
theorem sZe {α : Type} (x y : α) (xs : List α) : (x :: xs).set 0 y = y :: xs := rfl
theorem sSu {α : Type} (x y : α) (xs : List α) (i : Nat) : (x :: xs).set (i + 1) y = x :: xs.set i y := rfl
theorem tkL (i : Nat) (h : wpAnyL P md ops Q S L fuel (listed.setIfInBounds i true) (a1.put oi.dst v) w) (ha : a = a1 := by ((try simp only [Act.put, sAr, sZe, sSu]); first | done | rfl)) (hi : ops[i]? = some oi := by first | (simp only [List.getElem?_toArray, List.getElem?_cons_zero, List.getElem?_cons_succ] <;> rfl) | rfl) (hs : Region.noSelect ops = true := by kernel_rfl) (hf : Region.free md ops listed i = true := by kernel_rfl) (hr : (Region.ready md ops listed).contains i = true := by kernel_rfl)
    (hl : lateOk md ops L i = true := by kernel_rfl) (hLi : L.contains i = false := by rfl) (hE : early L listed = true := by kernel_rfl) (hC : closedB md ops listed = true := by kernel_rfl)
    (hQ : ∀ c a w, Q (.panic c) (a.put oi.dst v) w → Q (.panic c) a w := by exact fun _ _ _ h => h)
    (hy : YieldsIf P ops S oi v a1 := by exact Or.inl ⟨by rfl, by (intro w hSw; (try dsimp only at hSw); go_simp; first | done | (with_reducible rfl))⟩) (hS : S w := by assumption) : wpAnyL P md ops Q S L (fuel + 1) listed a w :=
  by subst ha; exact takeL hi hs hf hr hl hLi hE hC hQ hy hS h
theorem tkW (i : Nat) (h : wpAnyL P md ops Q S L fuel (listed.setIfInBounds i true) (a1.put oi.dst v) w) (ha : a = a1 := by ((try simp only [Act.put, sAr, sZe, sSu]); first | done | rfl)) (hi : ops[i]? = some oi := by first | (simp only [List.getElem?_toArray, List.getElem?_cons_zero, List.getElem?_cons_succ] <;> rfl) | rfl) (hs : Region.noSelect ops = true := by kernel_rfl) (hf : Region.free md ops listed i = true := by kernel_rfl) (hr : (Region.ready md ops listed).contains i = true := by kernel_rfl) (hLi : L.contains i = false := by rfl)
    (hQ : ∀ c a w, Q (.panic c) (a.put oi.dst v) w → Q (.panic c) a w := by exact fun _ _ _ h => h)
    (hy : YieldsIf P ops (fun _ => True) oi v a1 := by exact Or.inl ⟨by rfl, by (intro w _; go_simp; first | done | (with_reducible rfl) | (rw [if_neg (by omega)]))⟩) (hS : early L listed = true → S w := by first | exact fun _ => by assumption | exact fun he => by cases he) : wpAnyL P md ops Q S L (fuel + 1) listed a w :=
  by subst ha; exact takeW hi hs hf hr hLi hQ hy hS h
/-- a call, a store: the one operation that is ready. -/
theorem cnL (i : Nat) (h : ∀ K' : Act → World → Prop, Shut (∀ a w, S w → (S w → wpAnyL P md ops Q S L fuel (listed.setIfInBounds i true) a w) → K' a w) → if Region.wanted oi (yielded ops a1.tmps) = true then Oper.wp P oi a1 w K' Q else K' (a1.put oi.dst undef) w)
    (ha : a = a1 := by ((try simp only [Act.put, sAr, sZe, sSu]); first | done | rfl)) (hi : ops[i]? = some oi := by first | (simp only [List.getElem?_toArray, List.getElem?_cons_zero, List.getElem?_cons_succ] <;> rfl) | rfl) (hr : Region.ready md ops listed = [i] := by kernel_rfl) : wpAnyL P md ops Q S L (fuel + 1) listed a w :=
  by subst ha; exact readyL hr (by simp) (AllReadyL.cons hi h AllReadyL.nil)
theorem ltL (i : Nat) (h : ∀ K' : Act → World → Prop, Shut (∀ a w, wpAnyL P md ops Q S L fuel (listed.setIfInBounds i true) a w → K' a w) → if Region.wanted oi (yielded ops a1.tmps) = true then Oper.wp P oi a1 w K' Q else K' (a1.put oi.dst undef) w)
    (ha : a = a1 := by ((try simp only [Act.put, sAr, sZe, sSu]); first | done | rfl)) (hi : ops[i]? = some oi := by first | (simp only [List.getElem?_toArray, List.getElem?_cons_zero, List.getElem?_cons_succ] <;> rfl) | rfl) (hr : Region.ready md ops listed = [i] := by kernel_rfl) (hL : early L (listed.setIfInBounds i true) = false := by kernel_rfl) : wpAnyL P md ops Q S L (fuel + 1) listed a w :=
  by subst ha; exact readyL hr (by simp) (AllReadyL.late hi hL h AllReadyL.nil)
theorem dnN {R : Exit → Act → World → Prop} (h : R .normal a1 w) (ha : a = a1 := by ((try simp only [Act.put, sAr, sZe, sSu]); first | done | rfl)) (hr : Region.ready md ops listed = [] := by kernel_rfl) : wpAnyL P md ops (NoPanic R) S L fuel listed a w := by subst ha; exact doneL hr (NoPanic.normal h) fuel
end
end Go.Proofs.YtmobangdckiffaaDoor
namespace Go.Proofs.YtmobangdckiffaaDoor
open Go.ChangeShapes Go.WideShapes Go.ChangeAt Go.RowKit
set_option linter.unusedVariables false
def bj (b : ByteArray) : Byj := b.data.toList
def sj (l : Byj) : ByteArray := ⟨l.toArray⟩
theorem sj_bj (b : ByteArray) : sj (bj b) = b := by simp [bj, sj]
theorem sj_size (l : Byj) : (sj l).size = l.length := by simp [sj, ByteArray.size]
/-- a line of a journal. -/
def lineT (e : EntZ) : Byj := hex16 e.sum.toNat ++ 32 :: (bj e.txt ++ [10])
def textT (es : List EntZ) : Byj := es.flatMap lineT
/-- an entry whose line is read again. -/
structure EntOk (e : EntZ) : Prop where
 s0 : 0 ≤ e.sum
 s1 : e.sum < 16 ^ 16
 tx : ∀ c ∈ bj e.txt, c ≠ 10
theorem EntOk.nat {e : EntZ} (h : EntOk e) : e.sum.toNat < 16 ^ 16 := by have := h.s0; have := h.s1; omega
theorem hex_nl {c : UInt8} (h : isHex c = true) : c ≠ 10 := by rintro rfl; revert h; decide
theorem line_nl {e : EntZ} (h : EntOk e) : ∀ c ∈ hex16 e.sum.toNat ++ 32 :: bj e.txt, c ≠ 10 := fun c hc => by
 rcases List.mem_append.1 hc with hc | hc
 ·exact hex_nl (hex16_hex h.nat c hc)
 ·rcases List.mem_cons.1 hc with rfl | hc
  ·decide
  ·exact h.tx c hc
theorem lineT_eq (e : EntZ) : lineT e = (hex16 e.sum.toNat ++ 32 :: bj e.txt) ++ [10] := by unfold lineT; simp
theorem textT_cons (e : EntZ) (es : List EntZ) : textT (e :: es) = lineT e ++ textT es := by unfold textT; rw [List.flatMap_cons]
end Go.Proofs.YtmobangdckiffaaDoor
namespace Go.Proofs.YtmobangdckiffaaDoor
open Go.ChangeShapes Go.WideShapes Go.ChangeAt Go.RowKit
set_option linter.unusedVariables false
def ints (l : List Int) : List Value := l.map (Value.int .i64)
theorem ints_get (l : List Int) (i : Nat) (h : i < l.length) : (ints l)[i]? = some (.int .i64 (l.getD i 0)) := by
 simp [ints, List.getD, List.getElem?_eq_getElem h]
/-- a slice of integers that is read. -/
def RdI (w : World) (v : Value) (zs : List Int) : Prop := Rd w 1 zs.length v (ints zs)
theorem RdI.below {w w' : World} {v : Value} {zs : List Int} {B : Nat} (h : RdI w v zs) (hb : Below B w w') (hB : w.heap.size ≤ B) : RdI w' v zs := Rd.below h hb hB
theorem RdI.form {w : World} {v : Value} {zs : List Int} (h : RdI w v zs) : ∃ a c, v = .slice a zs.length c ∧ zs.length ≤ c ∧ c ≤ maxLen := by
 rcases h.2 with ⟨⟨a, c, h, hm⟩, hz⟩ | ⟨g, o, c, h, h1, h2, _⟩
 ·exact ⟨a, c, by rw [h, hz], by omega, hm⟩
 ·exact ⟨_, _, h, h1, h2⟩
theorem RdI.some {w : World} {v : Value} {zs : List Int} (h : RdI w v zs) (hn : 0 < zs.length) : ∃ g o c, v = .slice (some ⟨g, o, none⟩) zs.length c ∧ zs.length ≤ c ∧ c ≤ maxLen ∧ g < w.heap.size ∧ ∀ i, i < zs.length → w.cell? ⟨g, o + i, none⟩ = some (.int .i64 (zs.getD i 0)) := by
 rcases h.2 with ⟨h, hz⟩ | ⟨g, o, c, h', h1, h2, hc⟩
 ·omega
 ·refine ⟨g, o, c, h', h1, h2, ?_, fun i hi => ?_⟩
  ·have := hc 0 (by omega)
   rw [ints_get zs 0 hn] at this
   exact World.block_lt_of_cell? w _ this
  ·rw [hc i (by omega), ints_get zs i hi]
end Go.Proofs.YtmobangdckiffaaDoor
namespace Go.Proofs.YtmobangdckiffaaDoor
open Go.ChangeShapes Go.WideShapes Go.ChangeAt Go.RowKit
section
variable {P : Program} {c : Code} {Q : Exit → Act → World → Prop} {a : Act} {w : World} {c0 c1 c2 c3 : List Value} {t0 t1 t2 t3 : TypeId}
theorem opn1 (h : ∀ w0, Box w0 w.heap.size c0 t0 → Below w.heap.size w w0 → w0.heap.size = w.heap.size + 1 → c.wp P Q a w0) : c.wp P Q a (w.alloc (.cells c0.toArray t0)) :=
 h _ (Box.new w c0 t0) ((Below.refl _ _).alloc (Nat.le_refl _) _) (by simp)
end
end Go.Proofs.YtmobangdckiffaaDoor
namespace Go.Proofs.YtmobangdckiffaaDoor
open Go.ChangeShapes Go.WideShapes Go.ChangeAt Go.RowKit
set_option linter.unusedVariables false
def digHB : ByteArray := ⟨#[48, 49, 50, 51, 52, 53, 54, 55, 56, 57, 97, 98, 99, 100, 101, 102]⟩
/-- what the shelf says of the library's functions. -/
def TrimJ : Prop := ∀ (s : ByteArray) (w : World), s.size = 16 → (∀ c ∈ s.data.toList, isHex c = true) → Calls Tryd.prog 32 #[.string s, .string digHB] w fun e w' => e = .returned (.string ⟨#[]⟩) ∧ Below w.heap.size w w'
def CloneJ : Prop := ∀ (s : ByteArray) (w : World), s.size ≤ 100000 → Calls Tryd.prog 34 #[.string s] w fun e w' => e = .returned (.string s) ∧ Below w.heap.size w w'
theorem sj_drop (l : Byj) (k : Nat) : (sj l).extract k (sj l).size = sj (l.drop k) := by
 apply ByteArray.ext
 rw [ByteArray.data_extract]
 apply Array.toList_inj.1
 rw [Array.toList_extract, List.extract_eq_take_drop]
 simp only [sj_size]
 show (l.drop k).take _ = l.drop k
 rw [List.take_of_length_le (by simp)]
theorem sj_take (l : Byj) (k : Nat) : (sj l).extract 0 k = sj (l.take k) := by
 apply ByteArray.ext
 rw [ByteArray.data_extract]
 apply Array.toList_inj.1
 rw [Array.toList_extract, List.extract_eq_take_drop]
 show (l.drop 0).take _ = l.take k
 simp
theorem belowJ {w w1 w2 : World} {B : Nat} (h1 : Below B w w1) (h2 : Below w1.heap.size w1 w2) (hB : B ≤ w1.heap.size) : Below B w w2 := h1.trans (h2.mono hB)
def ej (t : ByteArray) (u : Int) : Value := .agg #[.string t, .int .u64 u]
set_option maxRecDepth 100000
set_option maxHeartbeats 8000000
theorem line_short (s : ByteArray) (hs : s.size < 17) (w : World) : Calls Tryd.prog 17 #[.string s] w fun e w' => e = .returned (.tuple #[ej ⟨#[]⟩ 0, .bool false]) ∧ Below w.heap.size w w' := by
 have hlt : (s.size : Int) < 17 := by omega
 clear hs
 go_enter Tryd.func17, Tryd.ntmps17
 go_upto_region 1 with (fail)
 refine opn1 ?_
 intro w0 hb0 hl0 hs0
 have HL0 := Lib.hid hl0
 have c0 := hb0.cell 0 rfl
 have c1 := hb0.cell 1 rfl
 have f0 := hb0.frozen 0
 have f1 := hb0.frozen 1
 go_wp2_with fail
 exact bodyPost_ret (results_box rfl (by rfl) rfl ((hb0.set 0 _).set 1 _) Tryd.underlying38 (by rfl) (by kernel_rfl)) rfl ⟨rfl, (HL0.out.setCell (by exact Nat.le_refl _) _).setCell (by exact Nat.le_refl _) _⟩
theorem line_ok (HT : TrimJ) (HC : CloneJ) (s h t : ByteArray) (hsz : s.size = 17 + t.size) (htz : t.size ≤ 50000) (h0 : s.extract 0 16 = h) (h1 : s.extract 17 s.size = t) (hz : 16 < s.size) (h2 : s[16]'hz = 32) (h16 : h.size = 16) (hx : ∀ c ∈ h.data.toList, isHex c = true) (w : World) :
  Calls Tryd.prog 17 #[.string s] w fun e w' => e = .returned (.tuple #[ej t (valL h.data.toList), .bool true]) ∧ Below w.heap.size w w' := by
 have HTh := Lib.hid (fun w => HT h w h16 hx)
 have HPh := Lib.hid (fun w => parse_any h h16 hx w)
 have HCh := Lib.hid (fun w => HC t w (by omega))
 have hlt : ¬ (s.size : Int) < 17 := by omega
 have hlt' : decide ((s.size : Int) < 17) = false := by simpa using hlt
 have hz1 : (16 : Int) < (s.size : Int) := by omega
 have hz2 : (16 : Int) ≤ (s.size : Int) := by omega
 have hz3 : (17 : Int) ≤ (s.size : Int) := by omega
 have h2' : ((s[16]'hz).toNat : Int) = 32 := by rw [h2]; rfl
 clear HT HC hx hsz htz h16
 go_enter Tryd.func17, Tryd.ntmps17
 go_upto_region 1 with (fail)
 refine opn1 ?_
 intro w0 hb0 hl0 hs0
 have HB0 := Lib.hid hb0
 have HL0 := Lib.hid hl0
 clear hb0 hl0 hs0
 go_wp2_with fail
 refine (HTh.out w0).mono ?_
 rintro e w1 ⟨rfl, hb1⟩
 have HB1 := Lib.hid (HB0.out.stays hb1)
 have HL1 := Lib.hid (belowJ HL0.out hb1 HL0.out.size)
 clear HB0 HL0 hb1
 go_wp2_with fail
 refine (HPh.out w1).mono ?_
 rintro e w2 ⟨rfl, hb2⟩
 have HB2 := Lib.hid (HB1.out.stays hb2)
 have HL2 := Lib.hid (belowJ HL1.out hb2 HL1.out.size)
 clear HB1 HL1 hb2
 have Bz : Box w2.drew w.heap.size [.string ⟨#[]⟩, .int .u64 0] 38 := by have h := HB2.out; exact h
 have Lz : Below w.heap.size w w2.drew := HL2.out.drew
 clear HB2 HL2
 go_upto_region 4 with (fail)
 refine wp_region_noPanic ?_
 refine beginL (S := (fun _ => True)) (L := [7]) (by kernel_rfl) trivial (fun hHeld => ?_)
 refine tkW 0 ?_
 refine tkW 3 ?_
 refine tkW 5 ?_
 refine tkW 1 ?_
 refine tkW 6 ?_
 refine cnL 2 fun K hK => ?_
 go_simp
 refine (HCh.out w2.drew).mono ?_
 rintro e w3 ⟨rfl, hb3⟩
 have B3 := Bz.stays hb3
 have L3 := belowJ Lz hb3 Lz.size
 clear hb3
 refine hK.out _ _ trivial (fun hHeld => ?_)
 clear hK K
 refine tkW 4 ?_
 refine ltL 7 fun K hK => ?_
 have d0 := B3.cell 0 rfl
 have d1 := B3.cell 1 rfl
 have f0 := B3.frozen 0
 have f1 := B3.frozen 1
 go_simp
 refine K_world ?_
 intro w4 e4
 have B4 : Box w4 w.heap.size [.string t, .int .u64 (valL h.data.toList)] 38 := by rw [e4]; exact (B3.set 0 _).set 1 _
 have L4 : Below w.heap.size w w4 := by rw [e4]; exact (L3.setCell (by exact Nat.le_refl _) _).setCell (by exact Nat.le_refl _) _
 clear e4 d0 d1 f0 f1
 refine hK.out _ _ ?_
 clear hK K
 refine tkW 8 ?_
 refine dnN ?_
 have HB4 := Lib.hid B4
 have HL4 := Lib.hid L4
 clear Bz Lz B3 L3 B4 L4 hHeld
 go_wp2_with fail
 exact bodyPost_ret (results_box rfl (by rfl) rfl HB4.out Tryd.underlying38 (by rfl) (by kernel_rfl)) rfl ⟨rfl, HL4.out⟩
end Go.Proofs.YtmobangdckiffaaDoor
namespace Go.Proofs.YtmobangdckiffaaDoor
open Go.ChangeShapes Go.WideShapes Go.ChangeAt Go.RowKit
set_option linter.unusedVariables false
def digB16 (l : Byj) : Prop := ∃ u t, u < 16 ^ 16 ∧ l = hex16 u ++ 32 :: t
theorem textT_nil : textT [] = [] := rfl
theorem textT_snoc (es : List EntZ) (e : EntZ) : textT (es ++ [e]) = textT es ++ lineT e := by unfold textT; rw [List.flatMap_append]; simp
/-- a journal's text, cut off: whole lines, and a part of the next one. -/
theorem cut_parts : ∀ (es : List EntZ) (n : Nat), (∀ e ∈ es, EntOk e) → n ≤ (textT es).length →
  ∃ k part, k ≤ es.length ∧ (textT es).take n = textT (es.take k) ++ part ∧ (∀ c ∈ part, c ≠ 10) ∧ (part.length < 17 ∨ digB16 part)
 | [], n, _, hn => ⟨0, [], Nat.le_refl _, by rw [textT_nil]; simp [textT_nil], by simp, .inl (by simp)⟩
 | e :: es, n, hok, hn => by
  have he := hok e (List.mem_cons_self ..)
  have hnl := line_nl he
  rw [textT_cons] at hn ⊢
  by_cases hlt : n < (lineT e).length
  ·have htk : (lineT e ++ textT es).take n = (hex16 e.sum.toNat ++ 32 :: bj e.txt).take n := by
    rw [List.take_append_of_le_length (by omega), lineT_eq, List.take_append_of_le_length (by rw [lineT_eq, List.length_append] at hlt; simp at hlt ⊢; omega)]
   refine ⟨0, (hex16 e.sum.toNat ++ 32 :: bj e.txt).take n, Nat.zero_le _, by rw [htk]; rfl, fun c hc => hnl c (List.mem_of_mem_take hc), ?_⟩
   by_cases h17 : n < 17
   ·exact .inl (by rw [List.length_take]; omega)
   ·refine .inr ⟨e.sum.toNat, (bj e.txt).take (n - 17), he.nat, ?_⟩
    obtain ⟨m, rfl⟩ : ∃ m, n = 16 + (m + 1) := ⟨n - 17, by omega⟩
    have hl := hex16_len he.nat
    rw [List.take_append, hl, List.take_of_length_le (by omega), show 16 + (m + 1) - 16 = m + 1 by omega, List.take_succ_cons, show 16 + (m + 1) - 17 = m by omega]
  ·have htk : (lineT e ++ textT es).take n = lineT e ++ (textT es).take (n - (lineT e).length) := by
    rw [List.take_append, List.take_of_length_le (by omega)]
   obtain ⟨k, part, h1, h2, h3, h4⟩ := cut_parts es (n - (lineT e).length) (fun x hx => hok x (List.mem_cons_of_mem _ hx)) (by rw [List.length_append] at hn; omega)
   exact ⟨k + 1, part, by simp; omega, by rw [htk, h2, List.take_succ_cons, textT_cons, List.append_assoc], h3, h4⟩
/-- nothing is left over just where the text is cut behind a line. -/
theorem cut_whole {es : List EntZ} {part T : Byj} {n k : Nat} (hn : n ≤ T.length) (h : T.take n = textT (es.take k) ++ part) (hp : ∀ c ∈ part, c ≠ 10) : part = [] ↔ n = 0 ∨ T[n - 1]? = some 10 := by
 have hl : (T.take n).length = n := by rw [List.length_take]; omega
 rcases Nat.eq_zero_or_pos n with rfl | hpos
 ·simp only [true_or, iff_true]
  rw [List.take_zero] at h
  exact (List.append_eq_nil_iff.1 h.symm).2
 have hx : T[n - 1]? = (T.take n).getLast? := by
  rw [List.getLast?_eq_getElem?, hl, List.getElem?_take, if_pos (by omega)]
 rw [hx, h]
 constructor
 ·rintro rfl
  refine .inr ?_
  rw [List.append_nil]
  rw [List.append_nil] at h
  rcases List.eq_nil_or_concat (es.take k) with e | ⟨l, e, he⟩
  ·rw [e, textT_nil] at h
   rw [h] at hl; simp at hl; omega
  ·rw [he, List.concat_eq_append, textT_snoc, lineT_eq, ← List.append_assoc, List.getLast?_concat]
 ·rintro (rfl | h2)
  ·omega
  ·cases part with
   | nil => rfl
   | cons c t =>
    rw [List.getLast?_append] at h2
    rw [List.getLast?_eq_some_getLast (by simp)] at h2
    exact absurd (Option.some.inj h2) (hp _ (List.getLast_mem _))
theorem lineT_len {e : EntZ} (h : EntOk e) : (lineT e).length = e.txt.size + 18 := by
 rw [lineT_eq, List.length_append, List.length_append, List.length_cons, hex16_len h.nat]
 simp [bj]; omega
theorem textT_len : ∀ (es : List EntZ), (∀ e ∈ es, EntOk e ∧ e.txt.size ≤ 200) → (textT es).length ≤ 218 * es.length
 | [], _ => Nat.le_refl _
 | e :: es, h => by
  obtain ⟨h1, h2⟩ := h e (List.mem_cons_self ..)
  have ih := textT_len es (fun x hx => h x (List.mem_cons_of_mem _ hx))
  rw [textT_cons, List.length_append, lineT_len h1, List.length_cons]; omega
theorem pre_lf (b : UInt8) (l : Byj) : List.isPrefixOf [10] (b :: l) = decide (b = 10) := by
 show ((10 == b) && true) = _
 by_cases h : b = 10
 ·subst h; rfl
 ·rw [beq_eq_false_iff_ne.2 (Ne.symm h), decide_eq_false h]; rfl
theorem index_lf_none : ∀ (l : Byj), (∀ c ∈ l, c ≠ 10) → Lib.index l [10] = -1
 | [], _ => rfl
 | b :: l, h => by
  unfold Lib.index
  rw [pre_lf, decide_eq_false (h b (List.mem_cons_self ..)), index_lf_none l (fun c hc => h c (List.mem_cons_of_mem _ hc))]; rfl
theorem index_lf_some : ∀ (l s : Byj), (∀ c ∈ l, c ≠ 10) → Lib.index (l ++ 10 :: s) [10] = (l.length : Int)
 | [], s, _ => by
  rw [List.nil_append]
  unfold Lib.index
  rw [pre_lf]; rfl
 | b :: l, s, h => by
  have ih := index_lf_some l s (fun c hc => h c (List.mem_cons_of_mem _ hc))
  rw [List.cons_append]
  unfold Lib.index
  rw [pre_lf, decide_eq_false (h b (List.mem_cons_self ..)), ih]
  have : ((l.length : Int) == -1) = false := by rw [beq_eq_false_iff_ne]; omega
  rw [this]; simp
theorem lib_cut_some (l s : Byj) (h : ∀ c ∈ l, c ≠ 10) : Lib.cut (l ++ 10 :: s) [10] = (l, s, true) := by
 unfold Lib.cut
 rw [index_lf_some l s h, if_pos (by omega), Int.toNat_natCast, List.take_left]
 congr 2
 rw [List.drop_append, List.drop_of_length_le (by simp)]
 simp
theorem lib_cut_none (l : Byj) (h : ∀ c ∈ l, c ≠ 10) : Lib.cut l [10] = (l, [], false) := by
 unfold Lib.cut
 rw [index_lf_none l h, if_neg (by decide)]
theorem sj_get (l : Byj) (i : Nat) (h : i < (sj l).size) : (sj l)[i]'h = l[i]'(by rwa [sj_size] at h) := rfl
theorem line_sj (HT : TrimJ) (HC : CloneJ) (u : Nat) (hu : u < 16 ^ 16) (t : Byj) (ht : t.length ≤ 50000) (w : World) :
  Calls Tryd.prog 17 #[.string (sj (hex16 u ++ 32 :: t))] w fun e w' => e = .returned (.tuple #[ej (sj t) u, .bool true]) ∧ Below w.heap.size w w' := by
 have hl := hex16_len hu
 have hs : (sj (hex16 u ++ 32 :: t)).size = 17 + t.length := by rw [sj_size, List.length_append, List.length_cons, hl]; omega
 have h := line_ok HT HC (sj (hex16 u ++ 32 :: t)) (sj (hex16 u)) (sj t) (by rw [hs, sj_size]) (by rw [sj_size]; exact ht)
  (by rw [sj_take]; congr 1; rw [← hl]; exact List.take_left)
  (by rw [sj_drop]; congr 1; rw [List.drop_append, List.drop_of_length_le (by omega), hl]; rfl) (by rw [hs]; omega)
  (by rw [sj_get, List.getElem_append_right (by omega)]; simp [hl]) (by rw [sj_size, hl]) (fun c hc => hex16_hex hu c (by simpa [sj] using hc)) w
 have hv : valL (sj (hex16 u)).data.toList = u := by simpa [sj] using hex16_val hu
 rw [hv] at h
 exact h
/-- the global variable that the search reads, below base. -/
def MxJ (base : Nat) (w : World) : Prop := ∃ (g : Nat) (m : Int), Tryd.prog.globalNamed "internal/bytealg.MaxLen" = some g ∧ g < base ∧ w.cell? ⟨g, 0, none⟩ = some (.int .i64 m)
theorem MxJ.below {base : Nat} {w w' : World} (h : MxJ base w) (hb : Below base w w') : MxJ base w' := by
 obtain ⟨g, m, h1, h2, h3⟩ := h
 exact ⟨g, m, h1, h2, by rw [Below.cell hb h2]; exact h3⟩
theorem MxJ.mono {base base' : Nat} {w : World} (h : MxJ base w) (hb : base ≤ base') : MxJ base' w := by
 obtain ⟨g, m, h1, h2, h3⟩ := h
 exact ⟨g, m, h1, Nat.lt_of_lt_of_le h2 hb, h3⟩
def CutJ : Prop := ∀ (l : Byj) (w : World), l.length ≤ 100000 → MxJ w.heap.size w → Calls Tryd.prog 16 #[.string (sj l), .string ⟨#[10]⟩] w fun e w' => e = .returned (.tuple #[.string (sj (Lib.cut l [10]).1), .string (sj (Lib.cut l [10]).2.1), .bool (Lib.cut l [10]).2.2]) ∧ Below w.heap.size w w'
def RepJ : Prop := ∀ (n : Nat) (w : World), n ≤ 16 → Calls Tryd.prog 14 #[.string ⟨#[48]⟩, .int .i64 n] w fun e w' => e = .returned (.string (sj (List.replicate n 48))) ∧ Below w.heap.size w w'
/-- a builder that holds the bytes l. -/
def BJ (B b : Nat) (l : Byj) (w : World) : Prop := Lib.IsBuilder 43 5 B b (Lib.byteCells l) w
theorem own_staysB {w w' : World} {b : Nat} {e : TypeId} {sz n : Nat} {v : Value} {xs : List Value} (h : w.ownsRow b e sz v n xs) (hb : Below w.heap.size w w') : w'.ownsRow b e sz v n xs :=
 h.kept (row := none) ⟨hb.os, hb.tape, hb.output, hb.size, fun k hk _ => hb.block k hk⟩ (by rcases h.2 with ⟨rfl, _⟩ | ⟨g, c, cur, rfl, _⟩ <;> simp [Value.ownBlock])
theorem BJ.below {B b : Nat} {l : Byj} {w w' : World} (h : BJ B b l w) (hb : Below w.heap.size w w') : BJ B b l w' := by
 rcases h with ⟨h1, v, h2, h3, h4⟩ | ⟨h1, v, h2, h3, h4⟩
 ·exact .inl ⟨h1, v, (hb.block b (by
   rcases Nat.lt_or_ge b w.heap.size with q | q
   ·exact q
   ·rw [Array.getElem?_eq_none q] at h2; cases h2)).trans h2, own_staysB h3 hb, h4⟩
 ·exact .inr ⟨h1, v, (hb.block b (by
   rcases Nat.lt_or_ge b w.heap.size with q | q
   ·exact q
   ·rw [Array.getElem?_eq_none q] at h2; cases h2)).trans h2, own_staysB h3 hb, h4⟩
def WriteJ : Prop := ∀ (B b : Nat) (l : Byj) (s : ByteArray) (w : World), BJ B b l w → l.length + s.size ≤ 100000000 → B ≤ w.heap.size →
 Calls Tryd.prog 13 #[.pointer (some ⟨b, 0, none⟩), .string s] w fun e w' => e = .returned (.tuple #[.int .i64 s.size, .nilIface]) ∧ BJ B b (l ++ bj s) w' ∧ Below B w w'
def StringJ : Prop := ∀ (B b : Nat) (l : Byj) (w : World), BJ B b l w → B ≤ w.heap.size → Calls Tryd.prog 15 #[.pointer (some ⟨b, 0, none⟩)] w fun e w' => e = .returned (.string (sj l)) ∧ Below B w w'
end Go.Proofs.YtmobangdckiffaaDoor
namespace Go.Proofs.YtmobangdckiffaaDoor
open Go.ChangeShapes Go.WideShapes Go.ChangeAt Go.RowKit
set_option linter.unusedVariables false
theorem textT_take_succ (es : List EntZ) (k : Nat) (h : k < es.length) : textT (es.take (k + 1)) = textT (es.take k) ++ lineT es[k] := by
 rw [List.take_succ_eq_append_getElem h, textT_snoc]
set_option maxRecDepth 100000
set_option maxHeartbeats 8000000
theorem Write_any (HRp : RepJ) (HWr : WriteJ) (HSt : StringJ) (v : Value) (es : List EntZ) (w : World) (h : RdJ w v es) (hok : OkJ es) (he : ∀ e ∈ es, EntOk e) (hlen : es.length ≤ 100) (hT : Tz w.heap.size w) :
  Calls Tryd.prog 6 #[v] w fun e w' => e = .returned (.tuple #[.string (sj (textT es)), .int .i64 0]) ∧ Below w.heap.size w w' := by
 have HC := Lib.hid (Check_ok v es w h hok (by omega))
 have HRh := Lib.hid HRp
 have HWh := Lib.hid HWr
 have HSh := Lib.hid HSt
 have HTz := Lib.hid hT
 have HE := Lib.hid he
 have HK := Lib.hid hok
 have HTL := Lib.hid (textT_take_succ es)
 obtain ⟨a, c, rfl, h1, h2, hc⟩ := h.form
 unfold maxLen at h2
 have HCl := Lib.hid hc
 clear h hok hc he HRp HWr HSt hT
 go_enter Tryd.func6, Tryd.ntmps6
 go_wp2_with fail
 refine HC.out.mono ?_
 rintro e w1 ⟨rfl, hb1⟩
 have HL1 := Lib.hid hb1
 clear hb1 HC
 go_upto_region 5 with (fail)
 refine opn1 ?_
 intro w2 xB hbl hbs
 obtain ⟨B, hB⟩ : ∃ B, B = w1.heap.size := ⟨_, rfl⟩
 rw [← hB] at xB hbl hbs ⊢
 have HB0 : Hid (BJ B B (textT (es.take 0)) w2) := Lib.hid (.inl ⟨Nat.le_refl _, .slice none 0 0, xB, World.ownsRow_nil _ _ _ _, by simp [Value.ownBlock]⟩)
 have HL2 : Hid (Below B w1 w2) := Lib.hid hbl
 have hwB : w.heap.size ≤ B := by have := HL1.out.size; omega
 have hs2 : B < w2.heap.size := by omega
 have HT1 := Lib.hid ((HTz.out.mono (Nat.le_refl _)).below HL1.out)
 have HBq := Lib.hid hB
 have hB1 : B ≤ w1.heap.size := by omega
 clear xB hbl hbs hB
 go_wp2_with fail
 go_loopw [16, 7, 8] (fun v16 v7 v8 wr => ∃ (i : Nat) (o7 o8 : Value), o7 = v7 ∧ o8 = v8 ∧ i ≤ es.length ∧ v16 = .int .i64 i ∧ Hid (BJ B B (textT (es.take i)) wr) ∧ Hid (Below B w1 wr)) (fun v _ _ _ => es.length - (intOf v).toNat)
 case atStart => exact ⟨0, _, _, rfl, rfl, Nat.zero_le _, rfl, HB0, HL2⟩
 case round =>
  obtain ⟨i, o7, o8, rfl, rfl, hi, rfl, HBr, HLr⟩ := hrel
  have hBr : B ≤ wr.heap.size := by have := HLr.out.size; omega
  have HWr := Lib.hid (HL1.out.trans (HLr.out.mono hwB))
  have HI := Lib.hid hi
  by_cases hlt : i < es.length
  ·have hltI : (i : Int) < (es.length : Int) := by omega
   obtain ⟨g, o, rfl, hg, c0, c1⟩ := HCl.out i hlt
   have HeI := Lib.hid (HE.out es[i] (List.getElem_mem hlt))
   have HkI := Lib.hid (HK.out.1 es[i] (List.getElem_mem hlt))
   have d0 : wr.cell? ⟨g, o + i * 2, none⟩ = some (.string es[i].txt) := (HWr.out.cell (p := ⟨g, o + i * 2, none⟩) hg).trans c0
   have d1 : wr.cell? ⟨g, o + i * 2 + 1, none⟩ = some (.int .u64 es[i].sum) := (HWr.out.cell (p := ⟨g, o + i * 2 + 1, none⟩) hg).trans c1
   have HTk := Lib.hid (HTL.out i hlt)
   obtain ⟨x, hx⟩ : ∃ x, x = es[i] := ⟨_, rfl⟩
   rw [← hx] at HeI HkI d0 d1 HTk
   obtain ⟨u, hu⟩ : ∃ u : Nat, u = x.sum.toNat := ⟨_, rfl⟩
   have hu16 : u < 16 ^ 16 := by rw [hu]; exact HeI.out.nat
   have hus : x.sum = (u : Int) := by rw [hu]; exact (Int.toNat_of_nonneg HeI.out.s0).symm
   rw [hus] at d1
   obtain ⟨tx, htx⟩ : ∃ tx, tx = x.txt := ⟨_, rfl⟩
   rw [← htx] at d0
   obtain ⟨hl1, hl2⟩ := hexU_len hu16
   obtain ⟨hx16, hhx⟩ : ∃ hx16 : ByteArray, hx16 = sj (hexU u) := ⟨_, rfl⟩
   have hxs : hx16.size = (hexU u).length := by rw [hhx, sj_size]
   have HF := Lib.hid (fun w' hT' => fmt_any u hu16 w' hT')
   rw [show (⟨(hexU u).toArray⟩ : ByteArray) = hx16 from hhx.symm] at HF
   obtain ⟨rp, hrp⟩ : ∃ rp : ByteArray, rp = sj (List.replicate (16 - (hexU u).length) 48) := ⟨_, rfl⟩
   have hrs : rp.size + hx16.size = 16 := by rw [hrp, hhx, sj_size, sj_size, List.length_replicate]; omega
   have htxs : tx.size ≤ 200 := by rw [htx]; exact HkI.out
   have HRepI : Hid (∀ w', Calls Tryd.prog 14 #[.string ⟨#[48]⟩, .int .i64 (16 - (hx16.size : Int))] w' fun e w'' => e = .returned (.string rp) ∧ Below w'.heap.size w' w'') := Lib.hid (fun w' => by
    have := HRh.out (16 - (hexU u).length) w' (by omega)
    rw [← hrp] at this
    rw [hxs, show (16 : Int) - ((hexU u).length : Int) = ((16 - (hexU u).length : Nat) : Int) by omega]
    exact this)
   have HLn : Hid (lineT x = bj (rp ++ hx16 ++ ⟨#[32]⟩ ++ tx ++ ⟨#[10]⟩)) := Lib.hid (by
    rw [htx, hrp, hhx]; unfold lineT hex16; rw [← hu]; simp [bj, sj])
   have hz16 : hx16.size ≤ 16 := by omega
   have hwr16 : IntKind.i64.wrap (16 - (hx16.size : Int)) = 16 - (hx16.size : Int) := by rw [IntKind.wrap_i64]; omega
   have HLb : Hid ((textT (es.take i)).length ≤ 218 * i) := Lib.hid (by
    have h1 := textT_len (es.take i) (fun e he => ⟨HE.out e (List.mem_of_mem_take he), HK.out.1 e (List.mem_of_mem_take he)⟩)
    have h2 : (es.take i).length = i := by rw [List.length_take]; omega
    rw [h2] at h1; exact h1)
   obtain ⟨lt, hlt'⟩ : ∃ lt, lt = textT (es.take i) := ⟨_, rfl⟩
   rw [← hlt'] at HBr HTk HLb
   have hs1 : ¬ 9223372036854775807 < rp.size + hx16.size := by omega
   have hs2 : ¬ 9223372036854775807 < rp.size + hx16.size + 1 := by omega
   have hs3 : ¬ 9223372036854775807 < rp.size + hx16.size + 1 + tx.size := by omega
   have hs4 : ¬ 9223372036854775807 < rp.size + hx16.size + 1 + tx.size + 1 := by omega
   have HLT := Lib.hid hlt
   have hTr : Tz wr.heap.size wr := (HTz.out.below (HL1.out.trans (HLr.out.mono hwB))).mono (by have := HL1.out.size; omega)
   have HTr := Lib.hid hTr
   have HXS := Lib.hid hxs
   obtain ⟨tn, htn⟩ : ∃ tn, tn = (rp ++ hx16 ++ ⟨#[32]⟩ ++ tx ++ ⟨#[10]⟩ : ByteArray) := ⟨_, rfl⟩
   have HTNs : Hid (tn.size ≤ 1000) := Lib.hid (by
    rw [htn, ByteArray.size_append, ByteArray.size_append, ByteArray.size_append, ByteArray.size_append]
    show rp.size + hx16.size + 1 + tx.size + 1 ≤ _
    omega)
   have HTJ := Lib.hid htn.symm
   clear hlt' htn hx hu hus htx hl1 hl2 hhx hxs hrp c0 c1 hlt hi hTr hu16
   go_upto_region 8 with (fail)
   refine opn1 ?_
   intro w3 xE hbE hsE
   obtain ⟨E, hE⟩ : ∃ E, E = wr.heap.size := ⟨_, rfl⟩
   rw [← hE] at xE hbE hsE ⊢
   have HXE := Lib.hid xE
   have HL3 : Hid (Below wr.heap.size wr w3) := Lib.hid (by rw [← hE]; exact hbE)
   have c1 := xE.cell 1 rfl
   have HEq := Lib.hid hE
   have hE3 : E < w3.heap.size := by omega
   clear xE hbE hE hsE
   go_wp2_with fail
   refine (HF.out w3 ((HTr.out.below HL3.out).mono HL3.out.size)).mono ?_
   rintro e w4 ⟨rfl, hb4⟩
   have Xz : Box w4.drew E [.string tx, .int .u64 u] 38 := by have h := HXE.out.stays hb4; exact h
   have Lz : Below wr.heap.size wr w4.drew := (belowJ HL3.out hb4 HL3.out.size).drew
   clear hb4 c1
   go_upto_region 9 with (fail)
   refine wp_region_noPanic ?_
   refine beginL (S := (fun w' => w'.cell? ⟨E, 0, none⟩ = some (.string tx))) (L := [11]) (by kernel_rfl) (Xz.cell 0 rfl) (fun hHeld => ?_)
   refine tkW 0 ?_
   refine tkW 4 ?_
   refine tkW 7 ?_
   refine tkW 1 ?_
   refine tkL 8 ?_
   refine tkW 2 ?_
   refine cnL 3 fun K hK => ?_
   go_simp
   refine (HRepI.out w4.drew).mono ?_
   rintro e w5 ⟨rfl, hb5⟩
   have X5 := Xz.stays hb5
   have L5 := belowJ Lz hb5 Lz.size
   refine hK.out _ _ (X5.cell 0 rfl) (fun hHeld => ?_)
   clear hK K
   refine tkW 5 ?_
   refine tkW 6 ?_
   refine tkW 9 ?_
   refine tkW 10 ?_
   refine ltL 11 fun K hK => ?_
   go_simp
   rw [HTJ.out]
   have hbb := HBr.out.below L5
   have hw5 : B ≤ w5.heap.size := by have := L5.size; omega
   refine (HWh.out B B lt tn w5 hbb (by have := HLb.out; have := HTNs.out; omega) hw5).mono ?_
   rintro e w6 ⟨rfl, hb6, hl6⟩
   refine hK.out _ _ ?_
   clear hK K
   refine dnN ?_
   have HB6 : Hid (BJ B B (textT (es.take (i + 1))) w6) := Lib.hid (by rw [HTk.out, HLn.out, HTJ.out]; exact hb6)
   have HL6 : Hid (Below B w1 w6) := Lib.hid (HLr.out.trans ((L5.mono hBr).trans hl6))
   clear hHeld Xz Lz X5 L5 hb5 hb6 hl6 hbb hw5
   go_wp2_with fail
   go_roundw
   case rel => exact ⟨i + 1, _, _, rfl, rfl, HLT.out, by go_num, HB6, HL6⟩
   case measure => have := HLT.out; simp [intOf]; omega
  ·obtain rfl : i = es.length := by omega
   have hltI : ¬ (es.length : Int) < (es.length : Int) := by omega
   have HBe : Hid (BJ B B (textT es) wr) := Lib.hid (by have := HBr.out; rwa [List.take_of_length_le (Nat.le_refl _)] at this)
   clear hlt hi HI HBr
   go_wp2_with fail
   refine (HSh.out B B _ wr HBe.out hBr).mono ?_
   rintro e w5 ⟨rfl, hb5⟩
   have HL5 := Lib.hid (HL1.out.trans ((HLr.out.trans hb5).mono hwB))
   clear hb5
   go_wp2_with fail
   go_ret2
   exact ⟨rfl, HL5.out⟩
end Go.Proofs.YtmobangdckiffaaDoor
namespace Go.Proofs.YtmobangdckiffaaDoor
open Go.ChangeShapes Go.WideShapes Go.ChangeAt Go.RowKit
set_option linter.unusedVariables false
theorem own_someJ {w : World} {base n : Nat} {v : Value} {e : TypeId} {sz : Nat} {xs : List Value} (h : w.ownsRow base e sz v n xs) : ∃ a c, v = .slice a n c := by
 rcases h.2 with ⟨rfl, h2⟩ | ⟨g, c, cur, rfl, _⟩
 ·subst h2; exact ⟨none, 0, rfl⟩
 ·exact ⟨_, _, rfl⟩
theorem drop_line (es : List EntZ) (k : Nat) (h : k < es.length) (part : Byj) : textT (es.drop k) ++ part = (hex16 es[k].sum.toNat ++ 32 :: bj es[k].txt) ++ 10 :: (textT (es.drop (k + 1)) ++ part) := by
 rw [List.drop_eq_getElem_cons h, textT_cons, lineT_eq]; simp
theorem flatJ_take_succ (es : List EntZ) (k : Nat) (h : k < es.length) : flatJ (es.take (k + 1)) = flatJ (es.take k) ++ [.string es[k].txt, .int .u64 es[k].sum] := by
 rw [List.take_succ_eq_append_getElem h, flatJ_append]; rfl
set_option maxRecDepth 100000
set_option maxHeartbeats 8000000
theorem Recover_any (HT : TrimJ) (HC : CloneJ) (HCu : CutJ) (es : List EntZ) (part : Byj) (hok : OkJ es) (he : ∀ e ∈ es, EntOk e) (hlen : es.length ≤ 100) (hp : ∀ c ∈ part, c ≠ 10) (hpl : part.length ≤ 50000) (w : World) (hM : MxJ w.heap.size w) :
  Calls Tryd.prog 7 #[.string (sj (textT es ++ part))] w fun e w' => ∃ v, e = .returned (.tuple #[v, .string (sj part)]) ∧ OwnJ es w v w' := by
 obtain ⟨i0, hi, hz0, hz1, hz2⟩ := info_parts infoJ
 have HTh := Lib.hid HT
 have HCh := Lib.hid HC
 have HCuh := Lib.hid HCu
 have HMh := Lib.hid hM
 have HE := Lib.hid he
 have HK := Lib.hid hok
 have HP := Lib.hid hp
 have HDL := Lib.hid (drop_line es)
 have HFT := Lib.hid (flatJ_take_succ es)
 have HTT : Hid (textT es = textT (es.drop 0)) := Lib.hid (by rw [List.drop_zero])
 rw [HTT.out]
 clear HT HC HCu hM hok hp HTT
 have hbig : (textT es).length ≤ 21800 := by have := textT_len es (fun e h => ⟨he e h, HK.out.1 e h⟩); omega
 have HTl : Hid (∀ k, (textT (es.drop k)).length ≤ 21800) := Lib.hid (fun k => by
  have := textT_len (es.drop k) (fun e h => ⟨he e (List.mem_of_mem_drop h), HK.out.1 e (List.mem_of_mem_drop h)⟩)
  have h2 : (es.drop k).length ≤ 100 := by rw [List.length_drop]; omega
  omega)
 clear he hbig
 obtain ⟨s0, hs0⟩ : ∃ s0, s0 = sj (textT (es.drop 0) ++ part) := ⟨_, rfl⟩
 rw [← hs0]
 have HS0 := Lib.hid hs0
 clear hs0
 go_enter Tryd.func7, Tryd.ntmps7
 go_wp2_with fail
 go_loopw [4, 0, 5, 6, 7, 8] (fun v4 v0 v5 v6 v7 v8 wr => ∃ (k : Nat) (o5 o6 o7 o8 : Value), o5 = v5 ∧ o6 = v6 ∧ o7 = v7 ∧ o8 = v8 ∧ k ≤ es.length ∧ (∃ s, v0 = .string s ∧ Hid (s = sj (textT (es.drop k) ++ part))) ∧ Hid (wr.ownsRow w.heap.size 38 2 v4 (es.take k).length (flatJ (es.take k))) ∧ Hid (Below w.heap.size w wr)) (fun _ v0 _ _ _ _ _ => match v0 with | .string s => s.size | _ => 0)
 case atStart => exact ⟨0, _, _, _, _, rfl, rfl, rfl, rfl, Nat.zero_le _, ⟨_, rfl, HS0⟩, Lib.hid (World.ownsRow_nil _ _ _ _), Lib.hid (Below.refl _ _)⟩
 case round =>
  obtain ⟨k, o5, o6, o7, o8, rfl, rfl, rfl, rfl, hk, ⟨s, rfl, HS⟩, HO, HL⟩ := hrel
  obtain ⟨va, vc, rfl⟩ := own_someJ HO.out
  have htk : (es.take k).length = k := by rw [List.length_take]; omega
  have hM1 : MxJ wr.heap.size wr := (HMh.out.below HL.out).mono HL.out.size
  have hk1000 : ((es.take k).length : Int) < 1000 := by rw [htk]; omega
  by_cases hlt : k < es.length
  ·have HEk := Lib.hid (HE.out es[k] (List.getElem_mem hlt))
   have HKk := Lib.hid (HK.out.1 es[k] (List.getElem_mem hlt))
   have HWk := Lib.hid (HK.out.2 k hlt)
   have HFk := Lib.hid (HFT.out k hlt)
   have HSk := Lib.hid (HS.out.trans (by rw [HDL.out k hlt part]))
   obtain ⟨x, hx⟩ : ∃ x, x = es[k] := ⟨_, rfl⟩
   rw [← hx] at HEk HKk HWk HFk HSk
   clear hx
   obtain ⟨l, hl⟩ : ∃ l, l = hex16 x.sum.toNat ++ 32 :: bj x.txt := ⟨_, rfl⟩
   have hnl : ∀ c ∈ l, c ≠ 10 := by rw [hl]; exact line_nl HEk.out
   obtain ⟨rs, hrs⟩ : ∃ rs, rs = textT (es.drop (k + 1)) ++ part := ⟨_, rfl⟩
   rw [← hl, ← hrs] at HSk
   have hll : l.length ≤ 300 := by rw [hl, List.length_append, List.length_cons, hex16_len HEk.out.nat]; have := HKk.out; simp [bj]; omega
   have hrl : rs.length ≤ 71800 := by rw [hrs, List.length_append]; have := HTl.out (k + 1); omega
   have hcut := HCuh.out (l ++ 10 :: rs) wr (by rw [List.length_append, List.length_cons]; omega) hM1
   rw [lib_cut_some l rs hnl, ← HSk.out] at hcut
   dsimp only at hcut
   have HCt := Lib.hid hcut
   have hbx : (bj x.txt).length ≤ 50000 := by have := HKk.out; simp [bj]; omega
   have HLn : Hid (∀ w', Calls Tryd.prog 17 #[.string (sj l)] w' fun e w'' => e = .returned (.tuple #[.agg #[.string x.txt, .int .u64 x.sum], .bool true]) ∧ Below w'.heap.size w' w'') := Lib.hid (fun w' => by
    have h := line_sj HTh.out HCh.out x.sum.toNat HEk.out.nat (bj x.txt) hbx w'
    rw [← hl, sj_bj, Int.toNat_of_nonneg HEk.out.s0] at h
    exact h)
   have HLa : Hid (∀ w', RdJ w' (.slice va (es.take k).length vc) (es.take k) → Calls Tryd.prog 19 #[.slice va (es.take k).length vc] w' fun e w'' => e = .returned (.int .u64 (lastJ (es.take k))) ∧ w' = w'') := Lib.hid (fun w' h => last_any _ _ w' h)
   have HWr : Hid (∀ w', Calls Tryd.prog 18 #[.int .u64 (lastJ (es.take k)), .agg #[.string x.txt, .int .u64 x.sum]] w' (ErrPost 0 w')) := Lib.hid (fun w' => by
    have h := wrong_any (lastJ (es.take k)) x w' (by have := HKk.out; omega)
    rw [HWk.out] at h
    exact h)
   have hsz : s.size = l.length + 1 + rs.length := by rw [HSk.out, sj_size, List.length_append, List.length_cons]; omega
   have HSz := Lib.hid hsz
   have HHrs := Lib.hid hrs
   have HLT := Lib.hid hlt
   have HHtk := Lib.hid htk
   obtain ⟨tx, htx⟩ : ∃ tx, tx = x.txt := ⟨_, rfl⟩
   obtain ⟨sm, hsm⟩ : ∃ sm, sm = x.sum := ⟨_, rfl⟩
   rw [← htx, ← hsm] at HLn HWr HFk
   obtain ⟨lz, hlz⟩ : ∃ lz, lz = lastJ (es.take k) := ⟨_, rfl⟩
   rw [← hlz] at HWr HLa
   obtain ⟨ek, hek⟩ : ∃ ek, ek = es.take k := ⟨_, rfl⟩
   rw [← hek] at HO HLa HFk HHtk hk1000 ⊢
   have hn : ek.length = k := HHtk.out
   have HN := Lib.hid hn
   obtain ⟨n, hn'⟩ : ∃ n, n = ek.length := ⟨_, rfl⟩
   rw [← hn'] at HLa hk1000 HO ⊢
   have HNE := Lib.hid hn'
   have hn100 : n ≤ 100 := by omega
   clear hnl hl hll hrl hcut hbx hsz hrs hlt hk htk hM1 HSk HS htx hsm hlz hek hn hn' HDL HFT
   go_wp2_with fail
   refine HCt.out.mono ?_
   rintro e w1 ⟨rfl, hb1⟩
   have HO1 := Lib.hid (own_staysB HO.out hb1)
   have HL1 := Lib.hid (belowJ HL.out hb1 HL.out.size)
   clear hb1 HO HL HCt
   go_wp2_with fail
   refine (HLn.out w1).mono ?_
   rintro e w2 ⟨rfl, hb2⟩
   have HO2 := Lib.hid (own_staysB HO1.out hb2)
   have HL2 := Lib.hid (belowJ HL1.out hb2 HL1.out.size)
   clear hb2 HO1 HL1 HLn
   go_upto_region 6 with (fail)
   refine opn1 ?_
   intro w3 xE hbE hsE
   obtain ⟨E, hE⟩ : ∃ E, E = w2.heap.size := ⟨_, rfl⟩
   rw [← hE] at xE hbE hsE ⊢
   have Xz : Box w3.drew E [.string tx, .int .u64 sm] 38 := xE
   have Oz : World.ownsRow w3.drew w.heap.size 38 2 (.slice va n vc) n (flatJ ek) := own_staysB (own_staysB HO2.out (by rw [← hE]; exact hbE)) (Below.refl _ _).drew
   have Lz : Below w.heap.size w w3.drew := (belowJ HL2.out (by rw [← hE]; exact hbE) HL2.out.size).drew
   clear xE hbE hsE HO2 HL2 hE
   refine wp_region_noPanic ?_
   refine beginL (S := (fun w' => w'.cell? ⟨E, 0, none⟩ = some (.string tx) ∧ w'.cell? ⟨E, 1, none⟩ = some (.int .u64 sm))) (L := []) (by kernel_rfl) ⟨Xz.cell 0 rfl, Xz.cell 1 rfl⟩ (fun hHeld => ?_)
   refine tkW 0 ?_
   refine tkW 1 ?_
   refine tkW 2 ?_
   refine tkW 3 ?_
   refine tkL 5 ?_
   refine cnL 4 fun K hK => ?_
   go_simp
   have hRd : RdJ w3.drew (.slice va n vc) ek := by have h := HNE.out; subst h; exact RdJ.of_own Oz
   refine (HLa.out w3.drew hRd).mono ?_
   rintro e w4 ⟨rfl, rfl⟩
   clear hRd
   refine hK.out _ _ ⟨Xz.cell 0 rfl, Xz.cell 1 rfl⟩ (fun hHeld => ?_)
   clear hK K
   refine cnL 6 fun K hK => ?_
   go_simp
   refine (HWr.out w3.drew).mono ?_
   rintro e w5 ⟨rfl, hb5⟩
   have X5 := Xz.stays hb5
   have O5 := own_staysB Oz hb5
   have L5 := belowJ Lz hb5 Lz.size
   clear hb5
   refine hK.out _ _ ⟨X5.cell 0 rfl, X5.cell 1 rfl⟩ (fun hHeld => ?_)
   clear hK K
   refine tkW 7 ?_
   refine tkW 8 ?_
   refine dnN ?_
   have HX5 := Lib.hid X5
   have HO5 := Lib.hid O5
   have HL5 := Lib.hid L5
   have c0 := X5.cell 0 rfl
   have c1 := X5.cell 1 rfl
   clear hHeld Xz Oz Lz X5 O5 L5
   have HOa := Lib.hid (HO5.out.alloc (.cells #[.string tx, .int .u64 sm] 38))
   have S1 : Hid (∀ u ∈ [Value.string tx, .int .u64 sm], u.oneCell' = true) := Lib.hid (fun u hu => by simp at hu; rcases hu with rfl | rfl <;> rfl)
   have S2 : Hid (n + 1 ≤ maxLen) := Lib.hid (by unfold maxLen; omega)
   have S3 : Hid ((n + 1) * 24 ≤ 140737488355328) := Lib.hid (by omega)
   have S4 : Hid (w.heap.size ≤ (w5.alloc (.cells #[.string tx, .int .u64 sm] 38)).heap.size) := Lib.hid (by have := HL5.out.size; simp; omega)
   have S5 : Hid ((w5.alloc (.cells #[.string tx, .int .u64 sm] 38)).heap.size = w5.heap.size + 1) := Lib.hid (by simp)
   have S0 : Hid (0 < 1) := Lib.hid (by omega)
   go_wp2_with (at_builtin; refine wpList_append_lies _ rfl _ _ 24 rfl w.heap.size 38 i0 (.agg #[.string ByteArray.empty, .int .u64 0]) 2 24 Tryd.underlying24 hi hz0 hz1 hz2 rfl (by decide) _ n (flatJ ek) rfl HOa.out ⟨w5.heap.size, 0, none⟩ 1 1 [.string tx, .int .u64 sm] rfl rfl (cell_two_new _ _ _ _) S1.out S0.out S2.out S3.out S4.out (w5.heap.size + 1) S5.out ?_)
   intro g6 c6 w6 hown6 hgrow6 hat6 hlt6
   have HL6 : Hid (Below w.heap.size w w6) := Lib.hid (Below.grown (HL5.out.alloc HL5.out.size _) hgrow6 (by have := HL5.out.size; simp; omega) (fun q hq => by have := (HOa.out.lt q hq).1; omega))
   have HO6 : Hid (w6.ownsRow w.heap.size 38 2 (.slice (some ⟨g6, 0, none⟩) (n + 1) c6) (es.take (k + 1)).length (flatJ (es.take (k + 1)))) := Lib.hid (by
    rw [HFk.out]
    have h1 : (es.take (k + 1)).length = n + 1 := by have := HLT.out; have := HNE.out; have := HN.out; rw [List.length_take]; omega
    rw [h1]; exact hown6)
   clear hown6 hgrow6 hat6 hlt6 HOa HO5 HL5 c0 c1
   go_wp2_with fail
   go_roundw
   case rel => exact ⟨k + 1, _, _, _, _, rfl, rfl, rfl, rfl, HLT.out, ⟨_, rfl, Lib.hid (by rw [HHrs.out])⟩, HO6, HL6⟩
   case measure => show (sj rs).size < s.size; rw [HSz.out, sj_size]; omega
  ·obtain rfl : k = es.length := by omega
   have htl : es.take es.length = es := List.take_of_length_le (Nat.le_refl _)
   rw [htl] at HO hk1000 ⊢
   have HSe : Hid (s = sj part) := Lib.hid (by rw [HS.out, List.drop_of_length_le (Nat.le_refl _)]; rfl)
   have hcut := HCuh.out part wr (by omega) hM1
   rw [lib_cut_none part HP.out, ← HSe.out] at hcut
   dsimp only at hcut
   have HCt := Lib.hid hcut
   clear htl hcut HS hM1 hk hlt htk HDL HFT
   go_wp2_with fail
   refine HCt.out.mono ?_
   rintro e w1 ⟨rfl, hb1⟩
   have HO1 := Lib.hid (own_staysB HO.out hb1)
   have HL1 := Lib.hid (belowJ HL.out hb1 HL.out.size)
   clear hb1 HO HL HCt
   go_wp2_with fail
   go_ret2
   exact ⟨_, by rw [HSe.out]; rfl, HO1.out, HL1.out⟩
end Go.Proofs.YtmobangdckiffaaDoor
namespace Go.Proofs.YtmobangdckiffaaDoor
open Go.ChangeShapes Go.WideShapes Go.ChangeAt Go.RowKit
set_option linter.unusedVariables false
theorem sj_nil_empty : (sj []).toList.isEmpty = true := by rw [ByteArray.toList_eq]; rfl
theorem sj_cons_empty (c : UInt8) (t : Byj) : (sj (c :: t)).toList.isEmpty = false := by rw [ByteArray.toList_eq]; rfl
def ReadPost (es : List EntZ) (part : Byj) (w : World) (e : Ending) (w' : World) : Prop := ∃ a n c, e = .returned (.tuple #[.slice a n c, .int .i64 (if part = [] then 0 else 5)]) ∧ (part = [] → n = es.length) ∧ Below w.heap.size w w'
set_option maxRecDepth 100000
set_option maxHeartbeats 8000000
theorem Read_whole (HT : TrimJ) (HC : CloneJ) (HCu : CutJ) (es : List EntZ) (hok : OkJ es) (he : ∀ e ∈ es, EntOk e) (hlen : es.length ≤ 100) (w : World) (hM : MxJ w.heap.size w) :
  Calls Tryd.prog 8 #[.string (sj (textT es ++ []))] w (ReadPost es [] w) := by
 have HR := Lib.hid (Recover_any HT HC HCu es [] hok he hlen (by simp) (by simp) w hM)
 obtain ⟨s0, hs0⟩ : ∃ s0, s0 = sj (textT es ++ []) := ⟨_, rfl⟩
 rw [← hs0] at HR ⊢
 clear HT HC HCu hok he hM hs0
 have he := sj_nil_empty
 go_enter Tryd.func8, Tryd.ntmps8
 go_wp2_with fail
 refine HR.out.mono ?_
 rintro e w1 ⟨v, rfl, ho, hb⟩
 obtain ⟨a, c, rfl⟩ := own_someJ ho
 have HB := Lib.hid hb
 clear ho hb HR
 go_wp2_with fail
 go_ret2
 exact ⟨a, _, c, by rw [if_pos rfl]; rfl, fun _ => rfl, HB.out⟩
theorem Read_part (HT : TrimJ) (HC : CloneJ) (HCu : CutJ) (es : List EntZ) (part : Byj) (hok : OkJ es) (he : ∀ e ∈ es, EntOk e) (hlen : es.length ≤ 100) (hp : ∀ c ∈ part, c ≠ 10) (hpl : part.length ≤ 50000) (hne : part ≠ []) (hl : part.length < 17 ∨ digB16 part) (w : World) (hM : MxJ w.heap.size w) :
  Calls Tryd.prog 8 #[.string (sj (textT es ++ part))] w (ReadPost es part w) := by
 have HR := Lib.hid (Recover_any HT HC HCu es part hok he hlen hp (by omega) w hM)
 have hcut := fun w' h => HCu part w' (by omega) h
 rw [lib_cut_none part hp] at hcut
 dsimp only at hcut
 have HCt := Lib.hid hcut
 have HMh := Lib.hid hM
 have HLn : Hid (∀ w', Calls Tryd.prog 17 #[.string (sj part)] w' fun e w'' => ∃ t u b, e = .returned (.tuple #[.agg #[.string t, .int .u64 u], .bool b]) ∧ Below w'.heap.size w' w'') := Lib.hid (fun w' => by
  rcases hl with h | ⟨u, t, hu, rfl⟩
  ·exact (line_short (sj part) (by rw [sj_size]; omega) w').mono fun e w'' ⟨h1, h2⟩ => ⟨_, _, _, h1, h2⟩
  ·exact (line_sj HT HC u hu t (by rw [List.length_append, List.length_cons] at hpl; omega) w').mono fun e w'' ⟨h1, h2⟩ => ⟨_, _, _, h1, h2⟩)
 have hem : (sj part).toList.isEmpty = false := by
  cases part with
  | nil => exact absurd rfl hne
  | cons c t => exact sj_cons_empty c t
 have HNe := Lib.hid hne
 obtain ⟨s0, hs0⟩ : ∃ s0, s0 = sj (textT es ++ part) := ⟨_, rfl⟩
 rw [← hs0] at HR ⊢
 obtain ⟨sp, hsp⟩ : ∃ sp, sp = sj part := ⟨_, rfl⟩
 rw [← hsp] at HR HCt HLn hem
 have hk1000 : ((es.length : Int) == 1000) = false := by simp; omega
 clear HT HC HCu hok he hM hs0 hp hpl hl hne hcut hsp
 go_enter Tryd.func8, Tryd.ntmps8
 go_wp2_with fail
 refine HR.out.mono ?_
 rintro e w1 ⟨v, rfl, ho, hb⟩
 obtain ⟨a, c, rfl⟩ := own_someJ ho
 have HM1 := Lib.hid ((HMh.out.below hb).mono hb.size)
 have HB := Lib.hid hb
 clear ho hb HR
 go_wp2_with fail
 refine (HCt.out w1 HM1.out).mono ?_
 rintro e w2 ⟨rfl, hb2⟩
 have HB2 := Lib.hid (belowJ HB.out hb2 HB.out.size)
 clear hb2 HB HM1
 go_wp2_with fail
 refine (HLn.out w2).mono ?_
 rintro e w3 ⟨t, u, b, rfl, hb3⟩
 have HB3 := Lib.hid (belowJ HB2.out hb3 HB2.out.size)
 clear hb3 HB2
 go_wp2_with fail
 go_ret2
 exact ⟨none, 0, 0, by rw [if_neg HNe.out]; rfl, fun h => absurd h HNe.out, by first | exact HB3.out | exact HB3.out.alloc HB3.out.size _⟩
theorem Read_any (HT : TrimJ) (HC : CloneJ) (HCu : CutJ) (es : List EntZ) (part : Byj) (hok : OkJ es) (he : ∀ e ∈ es, EntOk e) (hlen : es.length ≤ 100) (hp : ∀ c ∈ part, c ≠ 10) (hpl : part.length ≤ 50000) (hl : part.length < 17 ∨ digB16 part) (w : World) (hM : MxJ w.heap.size w) :
  Calls Tryd.prog 8 #[.string (sj (textT es ++ part))] w (ReadPost es part w) := by
 by_cases h : part = []
 ·subst h; exact Read_whole HT HC HCu es hok he hlen w hM
 ·exact Read_part HT HC HCu es part hok he hlen hp hpl h hl w hM
end Go.Proofs.YtmobangdckiffaaDoor
namespace Go.Proofs.YtmobangdckiffaaDoor
open Go.ChangeShapes Go.WideShapes Go.ChangeAt Go.RowKit
set_option linter.unusedVariables false
theorem badFrom_good (s : ByteArray) : ∀ (f k : Nat), ¬ 0 ≤ badFrom s f k → s.size ≤ k + f → ∀ j (h : j < s.size), k ≤ j → badC ((s[j]'h).toNat : Int) = false
 | 0, k, _, hf, j, h, hk => by omega
 | f + 1, k, hb, hf, j, h, hk => by
  rw [badFrom] at hb
  rw [dif_pos (by omega)] at hb
  by_cases hc : badC ((s[k]'(by omega)).toNat : Int) = true
  ·rw [if_pos hc] at hb; omega
  ·rw [if_neg hc] at hb
   rcases Nat.eq_or_lt_of_le hk with rfl | hlt
   ·simpa using hc
   ·exact badFrom_good s f (k + 1) hb (by omega) j h hlt
theorem ent_ok {b : Int} {e : EntZ} (h : wrongE b e = 0) : EntOk e := by
 unfold wrongE at h
 by_cases ht : textE e.txt ≠ 0
 ·rw [if_pos ht] at h; exact absurd h ht
 rw [if_neg ht] at h
 by_cases hs : e.sum ≠ sumZ b e.txt
 ·rw [if_pos hs] at h; cases h
 have hs' : e.sum = sumZ b e.txt := by simpa using hs
 have ht' : textE e.txt = 0 := by simpa using ht
 have hr : 0 ≤ sumZ b e.txt ∧ sumZ b e.txt < 18446744073709551616 := by
  unfold sumZ sumStep
  generalize (bits BinOp.xor IntKind.u64 (sumTo e.txt b e.txt.size) (IntKind.u64.wrap (e.txt.size : Int)) * 1099511628211) = x
  have : IntKind.u64.wrap x = x % 18446744073709551616 := rfl
  rw [this]; omega
 refine ⟨by rw [hs']; exact hr.1, by rw [hs']; have := hr.2; omega, fun c hc => ?_⟩
 unfold textE at ht'
 split at ht'
 ·cases ht'
 split at ht'
 ·cases ht'
 rename_i _ hb
 unfold badAt at hb
 obtain ⟨j, hj, rfl⟩ := List.getElem_of_mem hc
 have hj' : j < e.txt.size := by simpa [bj] using hj
 have hg := badFrom_good e.txt e.txt.size 0 hb (by omega) j hj' (Nat.zero_le _)
 intro h10
 have e1 : e.txt[j]'hj' = 10 := h10
 rw [e1] at hg
 revert hg; decide
theorem ents_ok {es : List EntZ} (h : OkJ es) : ∀ e ∈ es, EntOk e := fun e he => by
 obtain ⟨k, hk, rfl⟩ := List.getElem_of_mem he
 exact ent_ok (h.2 k hk)
theorem okJ_take {es : List EntZ} (h : OkJ es) (k : Nat) : OkJ (es.take k) := by
 refine ⟨fun e he => h.1 e (List.mem_of_mem_take he), fun i hi => ?_⟩
 have hi' : i < k ∧ i < es.length := by rw [List.length_take] at hi; omega
 have := h.2 i hi'.2
 rw [List.take_take, Nat.min_eq_left (by omega), List.getElem_take]
 exact this
theorem ext_take (es : List EntZ) (k : Nat) (hk : k ≤ es.length) : extJ es (es.take k) = true := by
 unfold extJ
 have h1 : (es.take k).length = k := by rw [List.length_take]; omega
 rw [h1, eqJ_refl]
 simp [hk]
/-- what is known of a journal's text that was cut off behind m bytes. -/
structure CutOk (es : List EntZ) (m k : Nat) (part : Byj) : Prop where
 k1 : k ≤ es.length
 tk : (textT es).take m = textT (es.take k) ++ part
 nl : ∀ c ∈ part, c ≠ 10
 sh : part.length < 17 ∨ digB16 part
 wh : part = [] ↔ m = 0 ∨ (textT es)[m - 1]? = some 10
 pl : part.length ≤ 50000
theorem cut_ok {es : List EntZ} (h : OkJ es) (hl : es.length ≤ 100) (m : Nat) (hm : m ≤ (textT es).length) : ∃ k part, CutOk es m k part := by
 obtain ⟨k, part, h1, h2, h3, h4⟩ := cut_parts es m (ents_ok h) hm
 refine ⟨k, part, h1, h2, h3, h4, cut_whole hm h2 h3, ?_⟩
 have hb := textT_len es (fun e he => ⟨ents_ok h e he, h.1 e he⟩)
 have := congrArg List.length h2
 rw [List.length_take, List.length_append] at this
 omega
set_option maxRecDepth 100000
set_option maxHeartbeats 8000000
theorem jcwalk (HT : TrimJ) (HC : CloneJ) (HCu : CutJ) (HRp : RepJ) (HWr : WriteJ) (HSt : StringJ) (v : Value) (n : Int) (ss : List ByteArray) (w : World) (h : RdS w v ss) (hsz : ∀ s ∈ ss, s.size ≤ maxLen) (hT : Tz w.heap.size w) (hM : MxJ w.heap.size w) :
  Calls Tryd.prog 3 #[v, .int .i64 n] w fun e w' => e = .returned (.bool true) ∧ Below w.heap.size w w' := by
 have HS := Lib.hid h
 have HZ := Lib.hid hsz
 have HTz := Lib.hid hT
 have HMx := Lib.hid hM
 have HTh := Lib.hid HT
 have HCh := Lib.hid HC
 have HCuh := Lib.hid HCu
 have HRh := Lib.hid HRp
 have HWh := Lib.hid HWr
 have HSth := Lib.hid HSt
 clear h hsz hT hM HT HC HCu HRp HWr HSt
 go_enter Tryd.func3, Tryd.ntmps3
 go_wp2_with fail
 refine (journals_any _).mono ?_
 rintro e w0 ⟨rfl, hb0⟩
 go_wp2_with fail
 refine (written_any v ss _ (Rd.below HS.out hb0 (Nat.le_refl _)) HZ.out).mono ?_
 rintro e w1 ⟨vl, es, rfl, hok, hel, ho1, hb1⟩
 have HB1 := Lib.hid (belowJ hb0 hb1 hb0.size)
 have HO1 := Lib.hid ho1
 have HK := Lib.hid hok
 clear hb0 hb1 ho1 hok HS HZ
 obtain ⟨la, lc, rfl⟩ := own_someJ HO1.out
 go_wp2_with fail
 refine (Write_any HRh.out HWh.out HSth.out _ es w1 (RdJ.of_own HO1.out) HK.out (ents_ok HK.out) (by omega) ((HTz.out.below HB1.out).mono HB1.out.size)).mono ?_
 rintro e w2 ⟨rfl, hb2⟩
 have HB2 := Lib.hid (belowJ HB1.out hb2 HB1.out.size)
 have HO2 := Lib.hid (own_staysJ HO1.out hb2)
 clear hb2 HB1 HO1
 have hbig : (textT es).length ≤ 21800 := by have := textT_len es (fun e he => ⟨ents_ok HK.out e he, HK.out.1 e he⟩); omega
 obtain ⟨s, hs⟩ : ∃ s, s = sj (textT es) := ⟨_, rfl⟩
 rw [← hs]
 have hsz : s.size = (textT es).length := by rw [hs, sj_size]
 by_cases h0 : n < 0
 ·clear hbig hs hsz
  go_wp2_with fail
  go_ret
  exact ⟨rfl, HB2.out⟩
 by_cases h1 : (s.size : Int) < n
 ·clear hbig hs hsz
  go_wp2_with fail
  go_ret
  exact ⟨rfl, HB2.out⟩
 obtain ⟨m, rfl⟩ : ∃ m : Nat, n = (m : Int) := ⟨n.toNat, by omega⟩
 obtain ⟨k, part, hc⟩ := cut_ok HK.out (by omega) m (by omega)
 have HCt := Lib.hid hc
 have hk := hc.k1
 have HX : Hid (s.extract 0 m = sj (textT (es.take k) ++ part)) := Lib.hid (by rw [hs, sj_take, hc.tk])
 have HEk := Lib.hid (okJ_take HK.out k)
 have HExt := Lib.hid (ext_take es k hk)
 have hkl : (es.take k).length = k := by rw [List.length_take]; omega
 obtain ⟨ek, hek⟩ : ∃ ek, ek = es.take k := ⟨_, rfl⟩
 rw [← hek] at HX HEk HExt hkl
 have hekl : ek.length ≤ 100 := by omega
 obtain ⟨p0, hp0⟩ : ∃ p0, p0 = sj (textT ek ++ part) := ⟨_, rfl⟩
 have hx0 : s.extract 0 m = p0 := by rw [HX.out, hp0]
 have hm2 : (m : Int) ≤ (s.size : Int) := by omega
 have HP0 := Lib.hid hp0
 have HSs := Lib.hid hs
 have HSz := Lib.hid hsz
 have hsb : s.size ≤ 21800 := by omega
 clear hbig hs hsz hc hek hkl hp0 HX hk h0 h1
 go_wp2_with fail
 have HR := Recover_any HTh.out HCh.out HCuh.out ek part HEk.out (ents_ok HEk.out) hekl HCt.out.nl HCt.out.pl w2 ((HMx.out.below HB2.out).mono HB2.out.size)
 rw [← HP0.out] at HR
 refine HR.mono ?_
 rintro e w3 ⟨vm, rfl, ho3, hb3⟩
 have HB3 := Lib.hid (belowJ HB2.out hb3 HB2.out.size)
 have HO3 := Lib.hid (own_staysJ HO2.out hb3)
 have HM3 := Lib.hid ho3
 clear hb3 ho3 HB2 HO2 HR
 obtain ⟨ma, mc, rfl⟩ := own_someJ HM3.out
 obtain ⟨rp, hrp⟩ : ∃ rp, rp = sj part := ⟨_, rfl⟩
 rw [← hrp]
 have HRp := Lib.hid hrp
 clear hrp
 go_wp2_with fail
 have HR := Read_any HTh.out HCh.out HCuh.out ek part HEk.out (ents_ok HEk.out) hekl HCt.out.nl HCt.out.pl HCt.out.sh w3 ((HMx.out.below HB3.out).mono HB3.out.size)
 rw [← HP0.out] at HR
 refine HR.mono ?_
 rintro e w4 ⟨na, nn, nc, rfl, hnn, hb4⟩
 have HB4 := Lib.hid (belowJ HB3.out hb4 HB3.out.size)
 have HO4 := Lib.hid (own_staysJ HO3.out hb4)
 have HM4 := Lib.hid (own_staysJ HM3.out hb4)
 have HNN := Lib.hid hnn
 clear hb4 HB3 HO3 HM3 HR hnn
 have HE := Lib.hid (fun w' h1 h2 => Extends_any (.slice la es.length lc) (.slice ma ek.length mc) es ek w' h1 h2)
 rw [HExt.out] at HE
 by_cases hpn : part = []
 ·have hem : rp.toList.isEmpty = true := by rw [HRp.out, hpn]; exact sj_nil_empty
  have hnE : nn = ek.length := HNN.out hpn
  subst hnE
  rw [if_pos hpn]
  rcases Nat.eq_zero_or_pos m with rfl | hm
  ·go_wp2_with fail
   refine (HE.out w4 (RdJ.of_own HO4.out) (RdJ.of_own HM4.out)).mono ?_
   rintro e w5 ⟨rfl, hb5⟩
   have HB5 := Lib.hid (belowJ HB4.out hb5 HB4.out.size)
   clear hb5 HB4
   go_wp2_with fail
   go_ret
   exact ⟨rfl, HB5.out⟩
  ·have h10 : (textT es)[m - 1]? = some 10 := by
    rcases HCt.out.wh.1 hpn with h | h
    ·omega
    ·exact h
   obtain ⟨j, rfl⟩ : ∃ j, m = j + 1 := ⟨m - 1, by omega⟩
   have hjs : j < s.size := by omega
   have hjs1 : (j : Int) < (s.size : Int) := by omega
   have hw64 : wrap64 (j : Int) = (j : Int) := by unfold wrap64; omega
   have hq0 : ((j : Int) + 1 == 0) = false := by rw [beq_eq_false_iff_ne]; omega
   have hsj : (textT es)[j]? = some (s[j]'hjs) := by
    have h1 : (sj (textT es))[j]'(by rw [sj_size]; have := HSz.out; omega) = (textT es)[j]'(by have := HSz.out; omega) := sj_get _ _ _
    have h2 := HSs.out
    subst h2
    rw [h1]; exact List.getElem?_eq_getElem _
   have hch : (((s[j]'hjs).toNat : Int) == 10) = true := by
    rw [Nat.add_sub_cancel, hsj] at h10
    rw [Option.some.inj h10]; rfl
   clear h10 hsj
   go_wp2_with fail
   refine (HE.out w4 (RdJ.of_own HO4.out) (RdJ.of_own HM4.out)).mono ?_
   rintro e w5 ⟨rfl, hb5⟩
   have HB5 := Lib.hid (belowJ HB4.out hb5 HB4.out.size)
   clear hb5 HB4
   go_wp2_with fail
   go_ret
   exact ⟨rfl, HB5.out⟩
 ·have hem : rp.toList.isEmpty = false := by
   rw [HRp.out]
   cases part with
   | nil => exact absurd rfl hpn
   | cons c t => exact sj_cons_empty c t
  have hwh := fun h => hpn (HCt.out.wh.2 h)
  rw [if_neg hpn]
  have hm : 0 < m := Nat.pos_of_ne_zero fun h => hwh (.inl h)
  have h10 : ¬ (textT es)[m - 1]? = some 10 := fun h => hwh (.inr h)
  obtain ⟨j, rfl⟩ : ∃ j, m = j + 1 := ⟨m - 1, by omega⟩
  have hjs : j < s.size := by omega
  have hjs1 : (j : Int) < (s.size : Int) := by omega
  have hw64 : wrap64 (j : Int) = (j : Int) := by unfold wrap64; omega
  have hq0 : ((j : Int) + 1 == 0) = false := by rw [beq_eq_false_iff_ne]; omega
  have hsj : (textT es)[j]? = some (s[j]'hjs) := by
   have h1 : (sj (textT es))[j]'(by rw [sj_size]; have := HSz.out; omega) = (textT es)[j]'(by have := HSz.out; omega) := sj_get _ _ _
   have h2 := HSs.out
   subst h2
   rw [h1]; exact List.getElem?_eq_getElem _
  have hch : (((s[j]'hjs).toNat : Int) == 10) = false := by
   rw [beq_eq_false_iff_ne]
   intro h
   rw [Nat.add_sub_cancel, hsj] at h10
   exact h10 (congrArg some (UInt8.toNat_inj.1 (by show (s[j]'hjs).toNat = 10; omega)))
  clear h10 hsj hwh
  go_wp2_with fail
  refine (HE.out w4 (RdJ.of_own HO4.out) (RdJ.of_own HM4.out)).mono ?_
  rintro e w5 ⟨rfl, hb5⟩
  have HB5 := Lib.hid (belowJ HB4.out hb5 HB4.out.size)
  clear hb5 HB4
  go_wp2_with fail
  all_goals (go_ret; exact ⟨rfl, HB5.out⟩)
end Go.Proofs.YtmobangdckiffaaDoor

/- RecT, AnO, AnX, AnY. -/
import Derived.Test.YtnieifdogllbfaaGreatE18
import Derived.Test.YtnieifdogllbfaaGreatC01
import Derived.Deep.QuietTactic
import Derived.Test.YtnieifdogllbfaaGreatE21
import Derived.BigQuiet
import Derived.Deep.Cut
import Derived.Test.YtnieifdogllbfaaGreatC06
import Derived.Test.YtnieifdogllbfaaGreatC05
import Derived.Deep.CutRange
namespace Go.Proofs.YtnieifdogllbfaaGreat
open Go.ChangeShapes Go.WideShapes Go.ChangeAt Go.RowKit
set_option linter.unusedVariables false
theorem IndexFunc_tg (v : Value) (xs : List TagZ) (p : TagZ → Bool) (f : FuncId) (caps : Array Value) (w : World) (h : RdL tagEl w v xs) (hf : ∀ (args : Array Value) (w : World), (callFunc f args).run Tryz.prog w = .ok (.enter f args) w)
  (hc : ∀ (W : World) (x : TagZ) (cs : List Value), x ∈ xs → tagEl.E W x cs → Below w.heap.size w W → Calls Tryz.prog f (#[.agg cs.toArray] ++ caps) W fun e w' => e = .returned (.bool (p x)) ∧ Below W.heap.size W w') :
  Calls Tryz.prog 57 #[v, .func (.func f) #[] caps] w fun e w' => e = .returned (.int .i64 (idxL p xs 0)) ∧ Below w.heap.size w w' := by
 obtain ⟨a, c, rfl, h1, h2⟩ := h.form
 unfold maxLen at h2
 have HR := Lib.hid h
 have HC := Lib.hid hc
 clear h hc
 go_enter Tryz.func57, Tryz.ntmps57
 go_wp2_with fail
 go_loopw [8, 5] (fun i v5 wr => ∃ (k : Nat) (o5 : Value), o5 = v5 ∧ k ≤ xs.length ∧ i = .int .i64 k ∧ Hid (idxL p xs 0 = idxL p (xs.drop k) k) ∧ Below w.heap.size w wr) (fun i _ _ => xs.length - (intOf i).toNat)
 case atStart => exact ⟨0, _, rfl, Nat.zero_le _, rfl, Lib.hid rfl, Below.refl _ _⟩
 case round =>
  obtain ⟨k, o5, rfl, hk, rfl, HK, hbl⟩ := hrel
  by_cases hlt : k < xs.length
  ·obtain ⟨g, o, rfl, hg, hcc⟩ := (HR.out.below hbl (Nat.le_refl _)).some (by omega)
   obtain ⟨cs, hE, hcell⟩ := hcc k hlt
   have hcl := tagEl.len hE
   simp only [tagEl] at hcl
   obtain ⟨c0, c1, rfl⟩ : ∃ c0 c1, cs = [c0, c1] := by
    match cs, hcl with
    | [c0, c1], _ => exact ⟨_, _, rfl⟩
   have q0 := hcell 0 (by decide)
   have q1 := hcell 1 (by decide)
   simp only [tagEl, List.getElem?_cons_zero, List.getElem?_cons_succ, Nat.add_zero] at q0 q1
   have HS := Lib.hid (idxL_step p xs k hlt)
   have HCk := Lib.hid (HC.out wr xs[k] [c0, c1] (List.getElem_mem hlt) hE hbl)
   have HB := Lib.hid hbl
   clear hcell hcc hE hcl hbl
   generalize xs[k] = x at *
   go_wp2_with fail
   refine HCk.out.mono ?_
   rintro e w1 ⟨rfl, hb1⟩
   have HB1 := Lib.hid (below_trans HB.out hb1 HB.out.size)
   clear hb1
   cases hpx : p x
   ·go_wp2_with fail
    go_roundw
    case rel => exact ⟨k + 1, _, rfl, by omega, by go_num, Lib.hid (by rw [HK.out, HS.out, if_neg (by simp [hpx])]), HB1.out⟩
    case measure => simp [intOf]; omega
   ·go_wp2_with fail
    go_ret
    exact ⟨by rw [HK.out, HS.out, if_pos hpx]; rfl, HB1.out⟩
  ·obtain rfl : k = xs.length := by omega
   go_wp2_with fail
   go_ret
   exact ⟨by rw [HK.out]; simp [idxL], hbl⟩
theorem ContainsFunc_tg (v : Value) (xs : List TagZ) (p : TagZ → Bool) (f : FuncId) (caps : Array Value) (w : World) (h : RdL tagEl w v xs) (hf : ∀ (args : Array Value) (w : World), (callFunc f args).run Tryz.prog w = .ok (.enter f args) w)
  (hc : ∀ (W : World) (x : TagZ) (cs : List Value), x ∈ xs → tagEl.E W x cs → Below w.heap.size w W → Calls Tryz.prog f (#[.agg cs.toArray] ++ caps) W fun e w' => e = .returned (.bool (p x)) ∧ Below W.heap.size W w') :
  Calls Tryz.prog 29 #[v, .func (.func f) #[] caps] w fun e w' => e = .returned (.bool (xs.any p)) ∧ Below w.heap.size w w' := by
 have HI := Lib.hid (IndexFunc_tg v xs p f caps w h hf hc)
 have HA := Lib.hid (idxL_any p xs 0 (by omega))
 clear h hc hf
 go_enter Tryz.func29, Tryz.ntmps29
 go_wp2_with fail
 refine HI.out.mono ?_
 rintro e w' ⟨rfl, hb⟩
 go_wp2_with fail
 go_ret
 exact ⟨by rw [← HA.out]; rfl, hb⟩
theorem IndexFunc_nd (v : Value) (xs : List NodeZ) (p : NodeZ → Bool) (f : FuncId) (caps : Array Value) (w : World) (h : RdL nodeEl w v xs) (hf : ∀ (args : Array Value) (w : World), (callFunc f args).run Tryz.prog w = .ok (.enter f args) w)
  (hc : ∀ (W : World) (x : NodeZ) (cs : List Value), x ∈ xs → nodeEl.E W x cs → Below w.heap.size w W → Calls Tryz.prog f (#[.agg cs.toArray] ++ caps) W fun e w' => e = .returned (.bool (p x)) ∧ Below W.heap.size W w') :
  Calls Tryz.prog 65 #[v, .func (.func f) #[] caps] w fun e w' => e = .returned (.int .i64 (idxL p xs 0)) ∧ Below w.heap.size w w' := by
 obtain ⟨a, c, rfl, h1, h2⟩ := h.form
 unfold maxLen at h2
 have HR := Lib.hid h
 have HC := Lib.hid hc
 clear h hc
 go_enter Tryz.func65, Tryz.ntmps65
 go_wp2_with fail
 go_loopw [8, 5] (fun i v5 wr => ∃ (k : Nat) (o5 : Value), o5 = v5 ∧ k ≤ xs.length ∧ i = .int .i64 k ∧ Hid (idxL p xs 0 = idxL p (xs.drop k) k) ∧ Below w.heap.size w wr) (fun i _ _ => xs.length - (intOf i).toNat)
 case atStart => exact ⟨0, _, rfl, Nat.zero_le _, rfl, Lib.hid rfl, Below.refl _ _⟩
 case round =>
  obtain ⟨k, o5, rfl, hk, rfl, HK, hbl⟩ := hrel
  by_cases hlt : k < xs.length
  ·obtain ⟨g, o, rfl, hg, hcc⟩ := (HR.out.below hbl (Nat.le_refl _)).some (by omega)
   obtain ⟨cs, hE, hcell⟩ := hcc k hlt
   have hcl := nodeEl.len hE
   simp only [nodeEl] at hcl
   obtain ⟨c0, c1, c2, c3, c4, rfl⟩ : ∃ c0 c1 c2 c3 c4, cs = [c0, c1, c2, c3, c4] := by
    match cs, hcl with
    | [c0, c1, c2, c3, c4], _ => exact ⟨_, _, _, _, _, rfl⟩
   have q0 := hcell 0 (by decide)
   have q1 := hcell 1 (by decide)
   have q2 := hcell 2 (by decide)
   have q3 := hcell 3 (by decide)
   have q4 := hcell 4 (by decide)
   simp only [nodeEl, List.getElem?_cons_zero, List.getElem?_cons_succ, Nat.add_zero] at q0 q1 q2 q3 q4
   have HS := Lib.hid (idxL_step p xs k hlt)
   have HCk := Lib.hid (HC.out wr xs[k] [c0, c1, c2, c3, c4] (List.getElem_mem hlt) hE hbl)
   have HB := Lib.hid hbl
   clear hcell hcc hE hcl hbl
   generalize xs[k] = x at *
   go_wp2_with fail
   refine HCk.out.mono ?_
   rintro e w1 ⟨rfl, hb1⟩
   have HB1 := Lib.hid (below_trans HB.out hb1 HB.out.size)
   clear hb1
   cases hpx : p x
   ·go_wp2_with fail
    go_roundw
    case rel => exact ⟨k + 1, _, rfl, by omega, by go_num, Lib.hid (by rw [HK.out, HS.out, if_neg (by simp [hpx])]), HB1.out⟩
    case measure => simp [intOf]; omega
   ·go_wp2_with fail
    go_ret
    exact ⟨by rw [HK.out, HS.out, if_pos hpx]; rfl, HB1.out⟩
  ·obtain rfl : k = xs.length := by omega
   go_wp2_with fail
   go_ret
   exact ⟨by rw [HK.out]; simp [idxL], hbl⟩
theorem ContainsFunc_nd (v : Value) (xs : List NodeZ) (p : NodeZ → Bool) (f : FuncId) (caps : Array Value) (w : World) (h : RdL nodeEl w v xs) (hf : ∀ (args : Array Value) (w : World), (callFunc f args).run Tryz.prog w = .ok (.enter f args) w)
  (hc : ∀ (W : World) (x : NodeZ) (cs : List Value), x ∈ xs → nodeEl.E W x cs → Below w.heap.size w W → Calls Tryz.prog f (#[.agg cs.toArray] ++ caps) W fun e w' => e = .returned (.bool (p x)) ∧ Below W.heap.size W w') :
  Calls Tryz.prog 49 #[v, .func (.func f) #[] caps] w fun e w' => e = .returned (.bool (xs.any p)) ∧ Below w.heap.size w w' := by
 have HI := Lib.hid (IndexFunc_nd v xs p f caps w h hf hc)
 have HA := Lib.hid (idxL_any p xs 0 (by omega))
 clear h hc hf
 go_enter Tryz.func49, Tryz.ntmps49
 go_wp2_with fail
 refine HI.out.mono ?_
 rintro e w' ⟨rfl, hb⟩
 go_wp2_with fail
 go_ret
 exact ⟨by rw [← HA.out]; rfl, hb⟩
theorem tagc_any (x : TagZ) (cs : List Value) (k : ByteArray) (B : Nat) (w : World) (hE : tagEl.E w x cs) (h1 : w.cell? ⟨B, 0, none⟩ = some (.string k)) (hB : B < w.heap.size) :
  Calls Tryz.prog 47 (#[.agg cs.toArray] ++ #[.pointer (some ⟨B, 0, none⟩)]) w fun e w' => e = .returned (.bool (x.key.toList == k.toList)) ∧ Below w.heap.size w w' := by
 obtain ⟨rfl, -⟩ := hE
 obtain ⟨xk, xv⟩ := x
 show Calls Tryz.prog 47 #[.agg #[.string xk, .string xv], .pointer (some ⟨B, 0, none⟩)] w _
 go_enter Tryz.func47, Tryz.ntmps47
 go_wp2
 go_ret
 exact ⟨rfl, (Below.refl _ _).alloc (by go_size) _⟩
theorem callTagc (args : Array Value) (w : World) : (callFunc 47 args).run Tryz.prog w = .ok (.enter 47 args) w := by kernel_rfl
theorem nodec_any (x : NodeZ) (cs : List Value) (p : Int) (B : Nat) (w : World) (hE : nodeEl.E w x cs) (h1 : w.cell? ⟨B, 0, none⟩ = some (.int .i64 p)) (hB : B < w.heap.size) :
  Calls Tryz.prog 50 (#[.agg cs.toArray] ++ #[.pointer (some ⟨B, 0, none⟩)]) w fun e w' => e = .returned (.bool (x.parent == p)) ∧ Below w.heap.size w w' := by
 obtain ⟨rfl, -⟩ := hE
 obtain ⟨xp, ⟨m1, m2, m3⟩, xc⟩ := x
 show Calls Tryz.prog 50 #[.agg #[.int .i64 xp, .int .i64 m1, .int .i64 m2, .int .i64 m3, .string xc], .pointer (some ⟨B, 0, none⟩)] w _
 go_enter Tryz.func50, Tryz.ntmps50
 go_wp2
 go_ret
 exact ⟨rfl, (Below.refl _ _).alloc (by go_size) _⟩
theorem callNodec (args : Array Value) (w : World) : (callFunc 50 args).run Tryz.prog w = .ok (.enter 50 args) w := by kernel_rfl
end Go.Proofs.YtnieifdogllbfaaGreat
namespace Go.Proofs.YtnieifdogllbfaaGreat
open Go.ChangeShapes Go.WideShapes Go.ChangeAt Go.RowKit
set_option linter.unusedVariables false
theorem brs_one {q : Nat → Prop} {tb te : TypeId} {base : Nat} {w : World} : ∀ (l : List BrZ) (vs : List Value), BrsAt q tb te base w l vs → ∀ u ∈ vs, u.oneCell' = true
 | [], vs, h, u, hu => by rw [BrsAt] at h; subst h; cases hu
 | b :: l, vs, h, u, hu => by
  rw [BrsAt] at h
  obtain ⟨v, vt, rfl, h3, h4⟩ := h
  rcases List.mem_cons.1 hu with rfl | hu
  ·cases b; rw [BrAt] at h3; obtain ⟨g, kv, vs, rfl, -⟩ := h3; rfl
  ·exact brs_one l vt h4 u hu
theorem CloneP_any (v : Value) (n b : Nat) (xs : List Value) (w : World) (h : w.ownsRow b tPt 1 v n xs) (hl : n ≤ 1000000) (h1 : ∀ u ∈ xs, u.oneCell' = true) :
  Calls Tryz.prog 54 #[v] w fun e w' => ∃ v', e = .returned v' ∧ w'.ownsRow w.heap.size tPt 1 v' n xs ∧ Below w.heap.size w w' := by
 obtain ⟨i0, hi, hz0, hz1, hz2⟩ := info_parts infoBr
 have hq := fun (w : World) (a : Option Addr) (n c : Nat) => Lib.run_eql_slice_nil (P := Tryz.prog) w 59 75 a n c 0 0 Tryz.underlying59
 rcases h.2 with ⟨rfl, rfl⟩ | ⟨g, c, cur, rfl, hg, hb, h2, h3, -⟩
 ·have hx : xs = [] := List.length_eq_zero_iff.1 (by simpa using h.1)
  subst hx
  clear h hl h1
  go_enter Tryz.func54, Tryz.ntmps54
  go_wp2
  go_ret
  exact ⟨_, rfl, World.ownsRow_nil _ _ _ _, Below.refl _ _⟩
 ·have hnews : ∀ j u, xs[j]? = some u → (w.alloc (.cells #[] 75)).cell? ((⟨g, 0, none⟩ : Addr).add j) = some u := (h.alloc _).cells rfl
  have hown0 : (w.alloc (.cells #[] 75)).ownsRow w.heap.size 75 1 (.slice (some ⟨w.heap.size, 0, none⟩) 0 0) 0 [] := World.ownsRow_made w #[] 0 (Nat.le_refl _) (by unfold maxLen; omega) rfl
  have Hown0 := Lib.hid hown0
  have Hnews := Lib.hid hnews
  have Hil := Lib.hid h.1
  have H1 := Lib.hid h1
  clear hown0 hnews h h1 hb
  go_enter Tryz.func54, Tryz.ntmps54
  go_wp2_with (at_builtin; refine wpList_append_own _ rfl _ _ 59 rfl w.heap.size 75 i0 (.pointer none) 1 8 Tryz.underlying59 hi hz0 hz1 hz2 rfl (by decide) _ 0 [] rfl Hown0.out ⟨g, 0, none⟩ n c xs rfl Hil.out Hnews.out H1.out ?c3 ?c4 ?c5 ?_)
  case c3 => unfold maxLen; omega
  case c4 => omega
  case c5 => simp
  intro v' w2 hown' hgrow _
  try simp only [Nat.zero_add, List.nil_append] at hown'
  have hb : Below w.heap.size w w2 := Below.grown ((Below.refl _ w).alloc (Nat.le_refl _) _) hgrow (by simp) (fun q hq => by simp [Value.ownBlock] at hq; omega)
  have HO := Lib.hid hown'
  clear hown' hgrow
  go_wp2
  go_ret
  exact ⟨v', rfl, HO.out, hb⟩
theorem IndexFuncP_any (v : Value) (b : Nat) (xs : List Value) (l : List BrZ) (p : BrZ → Bool) (f : FuncId) (caps : Array Value) (w : World) (h : w.ownsRow b tPt 1 v xs.length xs) (hxl : xs.length = l.length) (hl : xs.length ≤ 1000000) (hf : ∀ (args : Array Value) (w : World), (callFunc f args).run Tryz.prog w = .ok (.enter f args) w)
  (hc : ∀ (W : World) (i : Nat) (x : BrZ) (u : Value), l[i]? = some x → xs[i]? = some u → Below w.heap.size w W → Calls Tryz.prog f (#[u] ++ caps) W fun e w' => e = .returned (.bool (p x)) ∧ Below W.heap.size W w') :
  Calls Tryz.prog 55 #[v, .func (.func f) #[] caps] w fun e w' => e = .returned (.int .i64 (idxL p l 0)) ∧ Below w.heap.size w w' := by
 have HR := Lib.hid h
 have HC := Lib.hid hc
 obtain ⟨va, vc, rfl⟩ := own_form2 h
 have HXL := Lib.hid hxl
 have hxl1 : xs.length ≤ l.length := by omega
 have hxl2 : l.length ≤ xs.length := by omega
 clear h hc hxl
 go_enter Tryz.func55, Tryz.ntmps55
 go_wp2_with fail
 go_loopw [8, 5] (fun i v5 wr => ∃ (k : Nat) (o5 : Value), o5 = v5 ∧ k ≤ xs.length ∧ i = .int .i64 k ∧ Hid (idxL p l 0 = idxL p (l.drop k) k) ∧ Below w.heap.size w wr) (fun i _ _ => xs.length - (intOf i).toNat)
 case atStart => exact ⟨0, _, rfl, Nat.zero_le _, rfl, Lib.hid rfl, Below.refl _ _⟩
 case round =>
  obtain ⟨k, o5, rfl, hk, rfl, HK, hbl⟩ := hrel
  by_cases hlt : (k : Int) < (xs.length : Int)
  ·obtain ⟨G, vc', hG⟩ := own_some HR.out (by omega)
   obtain ⟨rfl, rfl⟩ : va = some ⟨G, 0, none⟩ ∧ vc = vc' := by simpa using hG
   clear hG
   have hGl := (HR.out.lt G rfl).2
   obtain ⟨u, hu⟩ : ∃ u, xs[k]? = some u := ⟨_, List.getElem?_eq_getElem (by omega)⟩
   obtain ⟨x, hx⟩ : ∃ x, l[k]? = some x := ⟨_, List.getElem?_eq_getElem (by omega)⟩
   have q0 : wr.cell? ⟨G, k, none⟩ = some u := by rw [hbl.cell (p := ⟨G, k, none⟩) hGl, HR.out.cellAt k (by omega)]; exact hu
   have hGr : G < wr.heap.size := by have := hbl.size; omega
   have HS := Lib.hid (idxL_step p l k (by omega))
   have hxe : l[k]'(by omega) = x := (List.getElem?_eq_some_iff.1 hx).2
   rw [hxe] at HS
   have HCk := Lib.hid (HC.out wr k x u hx hu hbl)
   have HB := Lib.hid hbl
   clear hbl hxe hu hx
   go_wp2_with fail
   refine HCk.out.mono ?_
   rintro e w1 ⟨rfl, hb1⟩
   have HB1 := Lib.hid (below_trans HB.out hb1 HB.out.size)
   clear hb1
   cases hpx : p x
   ·go_wp2_with fail
    go_roundw
    case rel => exact ⟨k + 1, _, rfl, by omega, by go_num, Lib.hid (by rw [HK.out, HS.out, if_neg (by simp [hpx])]), HB1.out⟩
    case measure => simp [intOf]; omega
   ·go_wp2_with fail
    go_ret
    exact ⟨by rw [HK.out, HS.out, if_pos hpx]; rfl, HB1.out⟩
  ·obtain rfl : k = xs.length := by omega
   have HK2 : Hid (idxL p l 0 = -1) := Lib.hid (by rw [HK.out, HXL.out, List.drop_length]; rfl)
   go_wp2_with fail
   go_ret
   exact ⟨by rw [HK2.out]; rfl, hbl⟩
theorem merge1_any {q : Nat → Prop} (m : MoveZ) (c : ByteArray) (ks : List BrZ) (u : Value) (Y gy b : Nat) (my : MoveZ) (cy : ByteArray) (ky : Value) (w : World) (hx : BrAt q tBr tPt b w (.mk m c ks) u) (hY : Box w Y [.pointer (some ⟨gy, 0, none⟩)] tPt) (hy : Box w gy [.int .i64 my.src, .int .i64 my.dst, .int .i64 my.piece, .string cy, ky] tBr) :
  Calls Tryz.prog 56 (#[u] ++ #[.pointer (some ⟨Y, 0, none⟩)]) w fun e w' => e = .returned (.bool (decide (m = my))) ∧ Below w.heap.size w w' := by
 rw [BrAt] at hx
 obtain ⟨g, kx, vs, rfl, -, hbx, -⟩ := hx
 have a0 := hbx.cell 0 rfl
 have a1 := hbx.cell 1 rfl
 have a2 := hbx.cell 2 rfl
 have b0 := hy.cell 0 rfl
 have b1 := hy.cell 1 rfl
 have b2 := hy.cell 2 rfl
 have y0 := hY.cell 0 rfl
 have hgl := hbx.lt
 have hyl := hy.lt
 have hYl := hY.lt
 have hn := fun w => eqlM m my w
 clear hbx hy hY
 show Calls Tryz.prog 56 #[.pointer (some ⟨g, 0, none⟩), .pointer (some ⟨Y, 0, none⟩)] w _
 go_enter Tryz.func56, Tryz.ntmps56
 go_wp2_with fail
 go_quiet (fail)
 have HBq := Lib.hid (below_drewN (Below.refl w.heap.size w) nq)
 generalize w.drewN nq = W at *
 go_wp2_with fail
 go_ret
 exact ⟨rfl, HBq.out⟩
theorem callMerge1 (args : Array Value) (w : World) : (callFunc 56 args).run Tryz.prog w = .ok (.enter 56 args) w := by kernel_rfl
end Go.Proofs.YtnieifdogllbfaaGreat
namespace Go.Proofs.YtnieifdogllbfaaGreat
open Go.ChangeShapes Go.WideShapes Go.ChangeAt Go.RowKit
set_option linter.unusedVariables false
theorem mergeL_snoc : ∀ (l a : List BrZ) (y : BrZ), mergeL a (l ++ [y]) = putW y.mv y (fun x => mergeB x y) (mergeL a l)
 | [], a, y => by rw [List.nil_append, mergeL, mergeL, mergeL]
 | z :: l, a, y => by rw [List.cons_append, mergeL, mergeL, mergeL_snoc l _ y]
theorem merge_take {ka kb : List BrZ} {i : Nat} {y : BrZ} (h : kb[i]? = some y) : mergeL ka (kb.take (i + 1)) = putW y.mv y (fun x => mergeB x y) (mergeL ka (kb.take i)) := by
 rw [List.take_add_one, h]; exact mergeL_snoc _ _ _
theorem idx_put (m : MoveZ) (y : BrZ) (f : BrZ → BrZ) : ∀ (l : List BrZ) (k : Int), 0 ≤ k → (idxL (fun x => decide (x.mv = m)) l k = -1 ∧ putW m y f l = l ++ [y]) ∨ ∃ (j : Nat) (x : BrZ), idxL (fun x => decide (x.mv = m)) l k = k + j ∧ l[j]? = some x ∧ x.mv = m ∧ putW m y f l = l.set j (f x)
 | [], k, hk => .inl ⟨rfl, rfl⟩
 | x :: l, k, hk => by
  by_cases h : x.mv = m
  ·refine .inr ⟨0, x, ?_, rfl, h, ?_⟩
   ·rw [idxL, if_pos (by simpa using h)]; simp
   ·rw [putW, if_pos h]; rfl
  ·rw [idxL, if_neg (by simpa using h), putW, if_neg h]
   rcases idx_put m y f l (k + 1) (by omega) with ⟨h1, h2⟩ | ⟨j, x', h1, h2, h3, h4⟩
   ·exact .inl ⟨h1, by rw [h2]; rfl⟩
   ·exact .inr ⟨j + 1, x', by rw [h1]; omega, h2, h3, by rw [h4]; rfl⟩
theorem cnt_cons (x : BrZ) (l : List BrZ) : cnt (x :: l) = cnt [x] + cnt l := cnt_app [x] l
theorem cnt_put (m : MoveZ) (y : BrZ) (f : BrZ → BrZ) (N : Nat) (hy : cnt [y] ≤ N) (hf : ∀ x, cnt [f x] ≤ cnt [x] + N) : ∀ l : List BrZ, cnt (putW m y f l) ≤ cnt l + N
 | [] => by rw [putW]; omega
 | x :: l => by
  rw [putW]
  split
  ·have e1 := cnt_cons (f x) l
   have e2 := cnt_cons x l
   have := hf x; omega
  ·have e1 := cnt_cons x (putW m y f l)
   have e2 := cnt_cons x l
   have := cnt_put m y f N hy hf l; omega
theorem cnt_merge : ∀ b : List BrZ, ∀ a, cnt (mergeL a b) ≤ cnt a + cnt b := by
 refine br_indL (PB := fun y => ∀ x, cnt [mergeB x y] ≤ cnt [x] + cnt [y]) (PL := fun b => ∀ a, cnt (mergeL a b) ≤ cnt a + cnt b) ?_ ?_ ?_
 ·intro m c ks ih x
  obtain ⟨mx, cx, kx⟩ := x
  rw [mergeB, cnt_one, cnt_one, cnt_one]
  have := ih kx
  show cnt (mergeL kx ks) + 1 ≤ _
  omega
 ·intro a; rw [mergeL]; omega
 ·intro y l h1 h2 a
  rw [mergeL, cnt_cons]
  have h3 := h2 (putW y.mv y (fun x => mergeB x y) a)
  have h4 := cnt_put y.mv y (fun x => mergeB x y) (cnt [y]) (Nat.le_refl _) h1 a
  omega
theorem cnt_mem {l : List BrZ} {j : Nat} {m : MoveZ} {c : ByteArray} {ks : List BrZ} (h : l[j]? = some (.mk m c ks)) : cnt ks + 1 ≤ cnt l := by
 have h1 := List.getElem?_eq_some_iff.1 h
 have h2 := cnt_take (ks := l) (i := j) h1.1
 have h3 := cnt_le l (j + 1)
 rw [h1.2, cnt_one] at h2
 omega
/-- blocks that are free to be read, but for the row. -/
def qn (q : Nat → Prop) (N : Nat) (ov : Value) (g : Nat) : Prop := (g < N → q g) ∧ ov.ownBlock ≠ some g
structure MgS (q : Nat → Prop) (b : Nat) (w0 w : World) (ov : Value) (vo : List Value) (om : List BrZ) : Prop where
 old : Below w0.heap.size w0 w
 row : w.ownsRow w0.heap.size tPt 1 ov vo.length vo
 brs : BrsAt (qn q w0.heap.size ov) tBr tPt b w om vo
theorem MgS.stays {q : Nat → Prop} {b : Nat} {w0 w w' : World} {ov : Value} {vo : List Value} {om : List BrZ} (h : MgS q b w0 w ov vo om) (hb : Below w.heap.size w w') : MgS q b w0 w' ov vo om :=
 ⟨h.old.trans (hb.mono h.old.size), own_of_block h.row (fun g hg => hb.block g (h.row.lt g hg).2), brs_move (fun g _ h2 h3 => ⟨hb.block g h2, h3⟩) _ _ h.brs⟩
theorem MgS.start {q : Nat → Prop} {b : Nat} {w0 w : World} {ov : Value} {vo : List Value} {om : List BrZ} (h : BrsAt q tBr tPt b w0 om vo) (hb : Below w0.heap.size w0 w) (ho : w.ownsRow w0.heap.size tPt 1 ov vo.length vo) : MgS q b w0 w ov vo om :=
 ⟨hb, ho, brs_move (fun g _ h2 h3 => ⟨hb.block g h2, fun _ => h3, fun e => by have := (ho.lt g e).1; omega⟩) _ _ h⟩
theorem brs_snoc {q : Nat → Prop} {tb te : TypeId} {b : Nat} {w : World} {l : List BrZ} {vs : List Value} {x : BrZ} {u : Value} (h : BrsAt q tb te b w l vs) (hx : BrAt q tb te b w x u) : BrsAt q tb te b w (l ++ [x]) (vs ++ [u]) :=
 brs_app l [x] vs [u] h (by rw [BrsAt]; exact ⟨u, [], rfl, hx, by rw [BrsAt]⟩)
theorem brs_sole {q : Nat → Prop} {tb te : TypeId} {b : Nat} {w : World} {x : BrZ} {u : Value} : BrsAt q tb te b w [x] [u] ↔ BrAt q tb te b w x u := by
 constructor
 ·intro h
  rw [BrsAt] at h
  obtain ⟨v, vt, e, h1, h2⟩ := h
  simp only [List.cons.injEq] at e
  rw [e.1]; exact h1
 ·intro h; rw [BrsAt]; exact ⟨u, [], rfl, h, by rw [BrsAt]⟩
theorem br_move {q q' : Nat → Prop} {tb te : TypeId} {base : Nat} {w w' : World} (hm : ∀ g, base ≤ g → g < w.heap.size → q g → w'.heap[g]? = w.heap[g]? ∧ q' g) {x : BrZ} {u : Value} (h : BrAt q tb te base w x u) : BrAt q' tb te base w' x u :=
 brs_sole.1 (brs_move hm _ _ (brs_sole.2 h))
theorem brs_set {q : Nat → Prop} {tb te : TypeId} {b : Nat} {w : World} {x : BrZ} {u : Value} (hx : BrAt q tb te b w x u) : ∀ (l : List BrZ) (vs : List Value) (j : Nat), BrsAt q tb te b w l vs → BrsAt q tb te b w (l.set j x) (vs.set j u)
 | [], vs, j, h => by rw [BrsAt] at h; subst h; rw [List.set_nil, List.set_nil, BrsAt]
 | y :: l, vs, j, h => by
  rw [BrsAt] at h
  obtain ⟨v, vt, rfl, h1, h2⟩ := h
  cases j with
  | zero => rw [List.set_cons_zero, List.set_cons_zero, BrsAt]; exact ⟨u, vt, rfl, hx, h2⟩
  | succ j => rw [List.set_cons_succ, List.set_cons_succ, BrsAt]; exact ⟨v, _, rfl, h1, brs_set hx l vt j h2⟩
/-- a branch more. -/
theorem MgS.app {q : Nat → Prop} {b : Nat} {w0 w w' : World} {ov : Value} {vo : List Value} {om : List BrZ} {y : BrZ} {u : Value} {g cap : Nat} {o : Obj} (h : MgS q b w0 w ov vo om) (hy : BrAt q tBr tPt b w0 y u)
  (hg : (w.alloc o).grownBy w' ov.ownBlock) (hat : ov.ownBlock = some g ∨ w.heap.size ≤ g) (hown : w'.ownsRow w0.heap.size tPt 1 (.slice (some ⟨g, 0, none⟩) (vo.length + 1) cap) (vo.length + 1) (vo ++ [u])) :
  MgS q b w0 w' (.slice (some ⟨g, 0, none⟩) (vo.length + 1) cap) (vo ++ [u]) (om ++ [y]) := by
 have hs := hg.size
 have hsa : (w.alloc o).heap.size = w.heap.size + 1 := by simp
 have hk : ∀ k, k < w.heap.size → some k ≠ ov.ownBlock → w'.heap[k]? = w.heap[k]? := fun k h1 h2 => (hg.block k (by omega) h2).trans (Below.heap_alloc w o k h1)
 have s0 := h.old.size
 have hold : Below w0.heap.size w0 w' := ⟨hg.os.trans h.old.os, hg.tape.trans h.old.tape, hg.output.trans h.old.output, by omega, fun k h1 => by
  rw [hk k (by omega) (fun e => by have := (h.row.lt k e.symm).1; omega)]; exact h.old.block k h1⟩
 have hgl := (hown.lt g rfl).1
 have hne : ∀ k, k < w.heap.size → ov.ownBlock ≠ some k → (Value.slice (some ⟨g, 0, none⟩) (vo.length + 1) cap).ownBlock ≠ some k := fun k h1 h2 e => by
  simp only [Value.ownBlock, Option.some.injEq] at e
  rcases hat with h3 | h3
  ·exact h2 (by rw [h3, e])
  ·omega
 refine ⟨hold, by rw [List.length_append]; exact hown, brs_snoc (brs_move (fun k h1 h2 h3 => ⟨hk k h2 (fun e => h3.2 e.symm), h3.1, hne k h2 h3.2⟩) _ _ h.brs) (br_move (fun k h1 h2 h3 => ⟨hold.block k h2, fun _ => h3, fun e => by simp only [Value.ownBlock, Option.some.injEq] at e; omega⟩) hy)⟩
/-- a branch in the place of another one. -/
theorem MgS.put {q : Nat → Prop} {b : Nat} {w0 w : World} {vo : List Value} {om : List BrZ} {x : BrZ} {u : Value} {g cap : Nat} (h : MgS q b w0 w (.slice (some ⟨g, 0, none⟩) vo.length cap) vo om) (j : Nat) (hx : BrAt (qn q w0.heap.size (.slice (some ⟨g, 0, none⟩) vo.length cap)) tBr tPt b w x u) :
  MgS q b w0 (w.setCell ⟨g, j, none⟩ u) (.slice (some ⟨g, 0, none⟩) vo.length cap) (vo.set j u) (om.set j x) := by
 have hgl := (h.row.lt g rfl).1
 have hm : ∀ k, b ≤ k → k < w.heap.size → qn q w0.heap.size (.slice (some ⟨g, 0, none⟩) vo.length cap) k → (w.setCell ⟨g, j, none⟩ u).heap[k]? = w.heap[k]? ∧ qn q w0.heap.size (.slice (some ⟨g, 0, none⟩) vo.length cap) k := fun k _ _ h3 =>
  ⟨Below.heap_setCell w _ u k (fun e => h3.2 (by rw [e]; rfl)), h3⟩
 refine ⟨h.old.setCell hgl u, ?_, brs_set (br_move hm hx) _ _ j (brs_move hm _ _ h.brs)⟩
 rw [List.length_set]
 exact (h.row.stored j u).1
end Go.Proofs.YtnieifdogllbfaaGreat
namespace Go.Proofs.YtnieifdogllbfaaGreat
open Go.ChangeShapes Go.WideShapes Go.ChangeAt Go.RowKit
set_option linter.unusedVariables false
def MergePost (q : Nat → Prop) (b : Nat) (ka kb : List BrZ) (w : World) (e : Ending) (w' : World) : Prop := ∃ v' vs', e = .returned v' ∧ Below w.heap.size w w' ∧ w'.ownsRow w.heap.size tPt 1 v' vs'.length vs' ∧ BrsAt (fun g => g < w.heap.size → q g) tBr tPt b w' (mergeL ka kb) vs'
set_option maxRecDepth 100000 in
set_option maxHeartbeats 8000000 in
theorem merge_any (b : Nat) : ∀ (f : Nat) (q : Nat → Prop) (ka kb : List BrZ) (av bv : Value) (va vb : List Value) (w : World), cnt kb < f → cnt ka + cnt kb ≤ 1000 → b ≤ w.heap.size → BrsAt q tBr tPt b w ka va → w.ownsRow b tPt 1 av va.length va → BrsAt q tBr tPt b w kb vb → w.ownsRow b tPt 1 bv vb.length vb →
  Calls Tryz.prog 28 #[av, bv] w (MergePost q b ka kb w) := by
 intro f
 induction f with
 | zero => intros; omega
 | succ f ih =>
  intro q ka kb av bv va vb w hf hn hbw hka hav hkb hbv
  have IH := Lib.hid ih
  have HKA := Lib.hid hka
  have HKB := Lib.hid hkb
  have HBV := Lib.hid hbv
  have hal := brs_len ka va hka
  have hbl := brs_len kb vb hkb
  have hac := cnt_len ka
  have hbc := cnt_len kb
  have hvb1 : vb.length ≤ kb.length := by omega
  have hvb2 : kb.length ≤ vb.length := by omega
  have HCl := Lib.hid (CloneP_any av va.length b va w hav (by omega) (brs_one ka va hka))
  obtain ⟨ba, bc, rfl⟩ := own_form2 hbv
  clear ih hka hkb hbv hav hal hbl
  go_enter Tryz.func28, Tryz.ntmps28
  go_wp2_with fail
  refine HCl.out.mono ?_
  rintro e w1 ⟨ov1, rfl, ho1, hb1⟩
  have HM1 : Hid (MgS q b w w1 ov1 va (mergeL ka (kb.take 0))) := Lib.hid (by rw [List.take_zero, mergeL]; exact MgS.start HKA.out hb1 ho1)
  clear ho1 hb1 HCl
  go_wp2_with fail
  go_loopw [14, 5] (fun v14 v5 wr => ∃ (i : Nat) (ov : Value) (vo : List Value), v5 = ov ∧ v14 = .int .i64 i ∧ i ≤ vb.length ∧ Hid (MgS q b w wr ov vo (mergeL ka (kb.take i)))) (fun v _ _ => vb.length - (intOf v).toNat)
  case atStart => exact ⟨0, _, va, rfl, rfl, Nat.zero_le _, HM1⟩
  case round =>
   obtain ⟨i, ov, vo, rfl, rfl, hi, HM⟩ := hrel
   by_cases hlt : (i : Int) < (vb.length : Int)
   ·obtain ⟨y, hy⟩ : ∃ y, kb[i]? = some y := ⟨_, List.getElem?_eq_getElem (by omega)⟩
    have HMT := Lib.hid (merge_take (ka := ka) hy)
    obtain ⟨uy, huy, hyb⟩ := brs_cells HKB.out hy
    obtain ⟨my, cy, ky⟩ := y
    have HYB := Lib.hid hyb
    have hcy := cnt_mem hy
    have hco : cnt (mergeL ka (kb.take i)) + (cnt ky + 1) ≤ cnt ka + cnt kb := by
     have h1 := cnt_merge (kb.take i) ka
     have h2 := cnt_take (ks := kb) (i := i) (by omega)
     have h3 := cnt_le kb (i + 1)
     rw [(List.getElem?_eq_some_iff.1 hy).2, cnt_one] at h2
     omega
    rw [BrAt] at hyb
    obtain ⟨gy, kyv, vy, rfl, hgy, hby, hcs, hrowy, hqy, hkky⟩ := hyb
    obtain ⟨kya, kyc, rfl⟩ := own_form2 hrowy
    obtain ⟨L, bc', hL⟩ := own_some HBV.out (by omega)
    obtain ⟨rfl, rfl⟩ : ba = some ⟨L, 0, none⟩ ∧ bc = bc' := by simpa using hL
    clear hL
    have hLl := (HBV.out.lt L rfl).2
    have s1 := HM.out.old.size
    have l0 : wr.cell? ⟨L, i, none⟩ = some (.pointer (some ⟨gy, 0, none⟩)) := by
     rw [HM.out.old.cell (p := ⟨L, i, none⟩) hLl, HBV.out.cellAt i (by omega)]; exact huy
    have hLr : L < wr.heap.size := by omega
    have HBy := Lib.hid hby
    generalize mergeL ka (kb.take i) = om at *
    have hvo := brs_len om vo HM.out.brs
    have hom := cnt_len om
    have hvo1 : vo.length ≤ 1000 := by omega
    have HVO := Lib.hid hvo
    obtain ⟨oa, oc, rfl⟩ := own_form2 HM.out.row
    clear hvo huy hy hby
    go_upto_region 5 with (fail)
    have HYb := Lib.hid (Box.new wr [.pointer (some ⟨gy, 0, none⟩)] 75)
    have HM2 := Lib.hid (HM.out.stays ((Below.refl wr.heap.size wr).alloc (Nat.le_refl _) (.cells #[.pointer (some ⟨gy, 0, none⟩)] 75)))
    clear HM l0
    generalize hY : wr.heap.size = Y at *
    generalize (wr.alloc (.cells #[.pointer (some ⟨gy, 0, none⟩)] 75)) = w2 at *
    have hYl := HYb.out.lt
    have HBy2 := Lib.hid (HBy.out.below HM2.out.old HBy.out.lt)
    have HIx := Lib.hid (IndexFuncP_any (.slice oa vo.length oc) w.heap.size vo om (fun x => decide (x.mv = my)) 56 #[.pointer (some ⟨Y, 0, none⟩)] w2 HM2.out.row HVO.out (by omega) callMerge1 (fun W j x u hx hu hbW => by
     obtain ⟨u', hu', hxb⟩ := brs_cells HM2.out.brs hx
     rw [hu] at hu'
     obtain rfl : u = u' := by simpa using hu'
     obtain ⟨mx, cx, kx⟩ := x
     exact merge1_any (q := fun _ => True) mx cx kx u Y gy b my cy _ W (br_move (fun g _ h2 _ => ⟨hbW.block g h2, trivial⟩) hxb) (HYb.out.stays hbW) (HBy2.out.stays hbW)))
    go_wp2_with fail
    refine HIx.out.mono ?_
    rintro e w3 ⟨rfl, hb3⟩
    have HM3 := Lib.hid (HM2.out.stays hb3)
    have HYb3 := Lib.hid (HYb.out.stays hb3)
    have HBy3 := Lib.hid (HBy2.out.stays hb3)
    clear hb3 HIx HM2 HYb HBy2 HBy
    have y3 := HYb3.out.cell 0 rfl
    have hY3 := HYb3.out.lt
    rcases idx_put my (.mk my cy ky) (fun x => mergeB x (.mk my cy ky)) om 0 (Int.le_refl _) with ⟨hi1, hi2⟩ | ⟨j, x, hi1, hx, hxm, hi2⟩
    ·rw [hi1]
     have HMT2 := Lib.hid (HMT.out.trans hi2)
     clear hi1 hi2 HMT
     have hw3 : w.heap.size ≤ w3.heap.size := HM3.out.old.size
     go_wp2_with (at_builtin; refine app_at 59 75 (.pointer none) 1 8 infoBr Tryz.underlying59 rfl (by decide) (by rfl) _ _ (by rfl) w.heap.size _ vo.length vo [ptrV gy] w3 HM3.out.row hw3 rfl one_ptr (by omega) (by omega) (by rfl) (by rfl) ?_)
     intro g6 cap6 w6 hown6 hat6 hgr6
     have HM6 := Lib.hid (HM3.out.app HYB.out hgr6 hat6 hown6)
     clear hown6 hat6 hgr6 HM3 HYb3 HBy3
     go_wp2_with fail
     go_roundw
     case rel => exact ⟨i + 1, _, _, rfl, by go_num, by omega, Lib.hid (by rw [HMT2.out]; exact HM6.out)⟩
     case measure => simp [intOf]; omega
    ·have HMT2 := Lib.hid (HMT.out.trans hi2)
     rw [hi1, Int.zero_add]
     obtain ⟨ux, hux, hxb⟩ := brs_cells HM3.out.brs hx
     obtain ⟨mx, cx, kx⟩ := x
     have hcx := cnt_mem hx
     rw [BrAt] at hxb
     obtain ⟨gx, kxv, vx, rfl, hgx, hbx, hcsx, hrowx, hqx, hkkx⟩ := hxb
     have hjl := (List.getElem?_eq_some_iff.1 hx).1
     obtain ⟨kxa, kxc, rfl⟩ := own_form2 hrowx
     obtain ⟨r, oc', hR⟩ := own_some HM3.out.row (by have := HVO.out; omega)
     obtain ⟨rfl, rfl⟩ : oa = some ⟨r, 0, none⟩ ∧ oc = oc' := by simpa using hR
     clear hR
     have hrl := HM3.out.row.lt r rfl
     have r0 : w3.cell? ⟨r, j, none⟩ = some (.pointer (some ⟨gx, 0, none⟩)) := by rw [HM3.out.row.cellAt j (by have := HVO.out; omega)]; exact hux
     have a0 := hbx.cell 0 rfl
     have a1 := hbx.cell 1 rfl
     have a2 := hbx.cell 2 rfl
     have a3 := hbx.cell 3 rfl
     have a4 := hbx.cell 4 rfl
     have hgl := hbx.lt
     have hjv : (j : Int) < (vo.length : Int) := by have := HVO.out; omega
     have HKX := Lib.hid (And.intro hrowx hkkx)
     have HXM : Hid (mx = my) := Lib.hid hxm
     have HRo : Hid (∀ g, (Value.slice kxa vx.length kxc).ownBlock = some g → g < w3.heap.size) := Lib.hid (fun g hg => (hrowx.lt g hg).2)
     have HUX := Lib.hid hux
     clear hi1 hi2 HMT hux hx hbx hrowx hkkx hxm
     go_upto_region 9 with (fail)
     have HM4 := Lib.hid (HM3.out.stays ((Below.refl w3.heap.size w3).alloc (Nat.le_refl _) (.cells #[.int .i64 mx.src, .int .i64 mx.dst, .int .i64 mx.piece, .string cx, .slice kxa vx.length kxc] 74)))
     have HBl : Hid (Below w3.heap.size w3 (w3.alloc (.cells #[.int .i64 mx.src, .int .i64 mx.dst, .int .i64 mx.piece, .string cx, .slice kxa vx.length kxc] 74))) := Lib.hid ((Below.refl w3.heap.size w3).alloc (Nat.le_refl _) _)
     have HXb4 := Lib.hid (Box.new w3 [.int .i64 mx.src, .int .i64 mx.dst, .int .i64 mx.piece, .string cx, .slice kxa vx.length kxc] 74)
     have HYb4 := Lib.hid (HYb3.out.stays HBl.out)
     have HBy4 := Lib.hid (HBy3.out.stays HBl.out)
     generalize (w3.alloc (.cells #[.int .i64 mx.src, .int .i64 mx.dst, .int .i64 mx.piece, .string cx, .slice kxa vx.length kxc] 74)) = w4 at *
     obtain ⟨X, hX⟩ : ∃ X, X = w3.heap.size := ⟨_, rfl⟩
     rw [← hX] at HXb4 ⊢
     have hYX : Y < X := by omega
     have hgyX : gy < X := by have := HBy3.out.lt; omega
     have hrX : r < X := by omega
     have hwX : w.heap.size ≤ X := by have := HM3.out.old.size; omega
     have HXe := Lib.hid hX
     have HO3 : Hid (∀ g, g < w.heap.size → w3.heap[g]? = w.heap[g]?) := Lib.hid (fun g hg => HM3.out.old.block g hg)
     clear a0 a1 a2 a3 a4 r0 hX HYb3 HBy3 y3 hgl
     have x3 := HXb4.out.cell 3 rfl
     have hXl := HXb4.out.lt
     have y4 := HYb4.out.cell 0 rfl
     have hYl4 := HYb4.out.lt
     have gy3 := HBy4.out.cell 3 rfl
     have hgyl := HBy4.out.lt
     have HCN : Hid (mergeB (.mk mx cx kx) (.mk my cy ky) = .mk mx (if cx.size = 0 then cy else cx) (mergeL kx ky)) := Lib.hid (by rw [mergeB]; rfl)
     obtain ⟨cN, hcN⟩ : ∃ cN, cN = if cx.size = 0 then cy else cx := ⟨_, rfl⟩
     have hcNs : cN.size ≤ maxLen := by rw [hcN]; split; exact hcs; exact hcsx
     rw [← hcN] at HCN
     have HcN := Lib.hid hcN
     clear hcN
     go_upto_if 35 with (fail)
     go_cut [9] from 35 to 40 (fun v9 wx => v9 = .pointer (some ⟨X, 0, none⟩) ∧ Hid (Box wx X [.int .i64 mx.src, .int .i64 mx.dst, .int .i64 mx.piece, .string cN, .slice kxa vx.length kxc] 74) ∧ Hid (Box wx Y [.pointer (some ⟨gy, 0, none⟩)] 75) ∧ Hid (Box wx gy [.int .i64 my.src, .int .i64 my.dst, .int .i64 my.piece, .string cy, .slice kya vy.length kyc] tBr) ∧ Hid (Below w3.heap.size w3 wx))
     case first =>
      have x3f := HXb4.out.frozen 3
      by_cases hz : cx.size = 0
      ·have hem : cx.toList.isEmpty = true := by rw [str_empty]; simp [hz]
       have HcN2 : Hid (cN = cy) := Lib.hid (by rw [HcN.out, if_pos hz])
       clear hz
       rw [hem]
       go_wp2_with fail
       go_meet
       exact ⟨rfl, Lib.hid (by rw [HcN2.out]; exact HXb4.out.set 3 _), Lib.hid (HYb4.out.far _ _ (by show Y ≠ X; omega)), Lib.hid (HBy4.out.far _ _ (by show gy ≠ X; omega)), Lib.hid (HBl.out.setCell (by show w3.heap.size ≤ X; have := HXe.out; omega) _)⟩
      ·have hem : cx.toList.isEmpty = false := by rw [str_empty]; simp [hz]
       have HcN2 : Hid (cN = cx) := Lib.hid (by rw [HcN.out, if_neg hz])
       clear hz
       rw [hem]
       go_wp2_with fail
       go_meet
       exact ⟨rfl, Lib.hid (by rw [HcN2.out]; exact HXb4.out), HYb4, HBy4, HBl⟩
     case rest =>
      obtain ⟨rfl, HXb5, HYb5, HBy5, HB5⟩ := hcut
      clear x3 y4 gy3 HXb4 HYb4 HBy4 HBl HM4 hXl hYl4 hgyl
      obtain ⟨w5, hw5⟩ : ∃ w5, w5 = wc := ⟨_, rfl⟩
      subst hw5
      have hX5 := HXb5.out.lt
      have hY5 := HYb5.out.lt
      have hg5 := HBy5.out.lt
      go_upto_region 11 with (fail)
      have BXz := HXb5.out.drew
      have BYz := HYb5.out.drew
      have BGz := HBy5.out.drew
      have Lz : Below w3.heap.size w3 w5.drew := HB5.out.drew
      have MVx := brs_move (q := qn q w.heap.size (.slice (some ⟨r, 0, none⟩) vo.length oc)) (q' := fun g => qn q w.heap.size (.slice (some ⟨r, 0, none⟩) vo.length oc) g ∧ g ≠ X) (w := w3) (w' := w5.drew) (base := b) (tb := tBr) (te := tPt) (fun g _ h2 h3 => ⟨Lz.block g h2, h3, fun e => by have := HXe.out; omega⟩)
      have KXz := And.intro (MVx kx vx HKX.out.2) hqx.2
      have RXz := own_of_block HKX.out.1 (fun g hg => Lz.block g (HKX.out.1.lt g hg).2)
      have RYz := own_of_block hrowy (fun g hg => by
       have := (hrowy.lt g hg).2
       rw [Lz.block g (by omega)]; exact HO3.out g this)
      have KYz := And.intro (brs_move (q := q) (q' := fun g => qn q w.heap.size (.slice (some ⟨r, 0, none⟩) vo.length oc) g ∧ g ≠ X) (w := w) (w' := w5.drew) (base := b) (tb := tBr) (te := tPt) (fun g _ h2 h3 => ⟨by rw [Lz.block g (by omega)]; exact HO3.out g h2, ⟨fun _ => h3, fun e => by simp only [Value.ownBlock, Option.some.injEq] at e; omega⟩, fun e => by omega⟩) ky vy hkky) True.intro
      refine wp_region_noPanic ?_
      refine beginL (S := (fun w' => w'.cell? ⟨X, 4, none⟩ = some (.slice kxa vx.length kxc) ∧ w'.cell? ⟨Y, 0, none⟩ = some (.pointer (some ⟨gy, 0, none⟩)) ∧ w'.cell? ⟨gy, 4, none⟩ = some (.slice kya vy.length kyc))) (L := [8]) (by kernel_rfl) ⟨BXz.cell 4 rfl, BYz.cell 0 rfl, BGz.cell 4 rfl⟩ (fun hHeld => ?_)
      refine tkW 0 ?_
      refine tkL 2 ?_
      refine tkL 1 ?_
      refine tkW 3 ?_
      refine tkW 4 ?_
      refine tkL 5 ?_
      refine cnL 6 fun K hK => ?_
      go_simp
      refine (IH.out (fun g => qn q w.heap.size (.slice (some ⟨r, 0, none⟩) vo.length oc) g ∧ g ≠ X) kx ky _ _ vx vy w5.drew (by omega) (by omega) (by have := Lz.size; simp; omega) KXz.1 RXz KYz.1 RYz).mono ?_
      rintro e w6 ⟨kv6, vs6, rfl, hb6, hr6, hk6⟩
      obtain ⟨ka6, kc6, rfl⟩ := own_form2 hr6
      have BX6 : Box w6 X [.int .i64 mx.src, .int .i64 mx.dst, .int .i64 mx.piece, .string cN, .slice kxa vx.length kxc] 74 := BXz.stays hb6
      have BY6 := BYz.stays hb6
      have BG6 := BGz.stays hb6
      have L6 := below_trans Lz hb6 Lz.size
      clear BYz BGz
      refine hK.out _ _ ⟨BX6.cell 4 rfl, BY6.cell 0 rfl, BG6.cell 4 rfl⟩ (fun hHeld => ?_)
      clear hK K
      refine tkW 7 ?_
      refine ltL 8 fun K hK => ?_
      have d1 := BX6.cell 4 rfl
      have d1f := BX6.frozen 4
      have d1l := BX6.lt
      go_simp
      refine K_world ?_
      intro w8 e8
      have hm8 : ∀ k, k ≠ X → w8.heap[k]? = w6.heap[k]? := fun k hk => by rw [e8]; exact Below.heap_setCell w6 _ _ k hk
      have BX8 : Box w8 X [.int .i64 mx.src, .int .i64 mx.dst, .int .i64 mx.piece, .string cN, .slice ka6 vs6.length kc6] 74 := by rw [e8]; exact BX6.set 4 _
      have L8 : Below w3.heap.size w3 w8 := by rw [e8]; exact L6.setCell (by show w3.heap.size ≤ X; have := HXe.out; omega) _
      clear e8 d1 d1f d1l
      refine hK.out _ _ ?_
      clear hK K
      refine dnN ?_
      have HX8 := Lib.hid BX8
      have HL8 := Lib.hid L8
      have HR6 := Lib.hid hr6
      have HK6 := Lib.hid hk6
      have HM8 := Lib.hid hm8
      have HB6 := Lib.hid hb6
      have HKXz := Lib.hid KXz
      clear BXz Lz KXz RXz KYz RYz BX6 BY6 BG6 L6 BX8 L8 hr6 hk6 hm8 hb6 hHeld
      have HM9 : Hid (MgS q b w w8 (.slice (some ⟨r, 0, none⟩) vo.length oc) vo om) := Lib.hid (HM3.out.stays HL8.out)
      have s0 : w8.cell? ⟨r, j, none⟩ = some (.pointer (some ⟨gx, 0, none⟩)) := by rw [HM9.out.row.cellAt j (by omega)]; exact HUX.out
      have s0f := HM9.out.row.frozenAt j
      have hr8 : r < w8.heap.size := (HM9.out.row.lt r rfl).2
      have HBR : Hid (BrAt (qn q w.heap.size (.slice (some ⟨r, 0, none⟩) vo.length oc)) tBr tPt b w8 (mergeB (.mk mx cx kx) (.mk my cy ky)) (.pointer (some ⟨X, 0, none⟩))) := Lib.hid (by
       have hlo : ∀ k, (Value.slice ka6 vs6.length kc6).ownBlock = some k → X < k := fun k hk => by
        have h1 := (HR6.out.lt k hk).1
        have h2 : w5.drew.heap.size = w5.heap.size := by simp
        omega
       have hqn : ∀ k, X ≤ k → qn q w.heap.size (.slice (some ⟨r, 0, none⟩) vo.length oc) k := fun k hk => ⟨fun h => by omega, fun e => by simp only [Value.ownBlock, Option.some.injEq] at e; omega⟩
       rw [HCN.out, BrAt]
       refine ⟨X, _, vs6, rfl, by omega, HX8.out, hcNs, own_base (own_of_block HR6.out (fun g hg => HM8.out g (by have := hlo g hg; omega))) (by have := HXe.out; simp; omega), ⟨hqn X (Nat.le_refl _), fun k hk => hqn k (by have := hlo k hk; omega)⟩, ?_⟩
       refine brs_move (fun g _ h2 h3 => ?_) _ _ HK6.out
       rcases Nat.lt_or_ge g w5.heap.size with h4 | h4
       ·have h5 := h3 (by simpa using h4)
        exact ⟨HM8.out g h5.2, h5.1⟩
       ·exact ⟨HM8.out g (by omega), hqn g (by omega)⟩)
      have HM10 := Lib.hid (HM9.out.put j HBR.out)
      rw [show om.set j (mergeB (.mk mx cx kx) (.mk my cy ky)) = mergeL ka (kb.take (i + 1)) from HMT2.out.symm] at HM10
      clear HM9 HBR HX8 HL8 HR6 HK6 HM8 HB6 HM3 HKXz
      go_wp2_with fail
      go_roundw
      case rel => exact ⟨i + 1, _, _, rfl, by go_num, by omega, HM10⟩
      case measure => simp [intOf]; omega
   ·obtain rfl : i = vb.length := by omega
    have HM9 := HM
    rw [List.take_of_length_le hvb2] at HM9
    go_wp2_with fail
    go_ret
    exact ⟨_, vo, rfl, HM9.out.old, HM9.out.row, brs_move (fun g _ _ h3 => ⟨rfl, h3.1⟩) _ _ HM9.out.brs⟩
end Go.Proofs.YtnieifdogllbfaaGreat

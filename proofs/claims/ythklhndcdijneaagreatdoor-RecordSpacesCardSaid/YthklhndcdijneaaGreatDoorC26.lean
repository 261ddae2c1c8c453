/- AnN, AnT, AnU, AnV, AnG, AnH, AnI, RdD. -/
import Derived.Test.YthklhndcdijneaaGreatDoorC25
import Derived.Test.YthklhndcdijneaaGreatDoorC09
import Derived.BigQuiet
import Derived.Deep.Cut
import Derived.Deep.QuietTactic
import Derived.Test.YthklhndcdijneaaGreatDoorC23
import Derived.Test.YthklhndcdijneaaGreatDoorC01
namespace Go.Proofs.YthklhndcdijneaaGreatDoor
open Go.ChangeShapes Go.WideShapes Go.ChangeAt Go.RowKit
set_option linter.unusedVariables false
def kidsK (ns : List NodeZ) (p : Int) (k : Nat) : List Nat := (List.range k).filter fun j => (ndAt ns j).parent == p
theorem kidsK_step (ns : List NodeZ) (p : Int) (k : Nat) : kidsK ns p (k + 1) = if (ndAt ns k).parent = p then kidsK ns p k ++ [k] else kidsK ns p k := by
 unfold kidsK
 rw [List.range_succ, List.filter_append, List.filter_cons, List.filter_nil]
 by_cases h : (ndAt ns k).parent = p
 ·rw [if_pos (by simpa using h), if_pos h]
 ·rw [if_neg (by simpa using h), if_neg h, List.append_nil]
theorem kidsK_len (ns : List NodeZ) (p : Int) (k : Nat) : (kidsK ns p k).length ≤ k := by
 unfold kidsK
 exact Nat.le_trans (List.length_filter_le _ _) (by simp)
def nums (l : List Nat) : List Int := l.map fun (k : Nat) => (k : Int)
theorem nums_snoc (l : List Nat) (k : Nat) : ints (nums l) ++ [.int .i64 (k : Int)] = ints (nums (l ++ [k])) := by rw [nums, nums, List.map_append]; exact ints_append _ _
set_option maxRecDepth 100000 in
set_option maxHeartbeats 4000000 in
theorem Kids_any (X : RecZ) (vt vn : Value) (p : Int) (w : World) (h : RdX w X vt vn) (hm : X.nodes.length ≤ 1000) :
  Calls Tryz.prog 44 #[recV X vt vn, .int .i64 p] w fun e w' => ∃ v', e = .returned v' ∧ w'.ownsRow w.heap.size 3 1 v' (kidsZ X.nodes p).length (ints (nums (kidsZ X.nodes p))) ∧ Below w.heap.size w w' := by
 obtain ⟨na, nc, rfl, h1, h2⟩ := h.2.1.form
 unfold maxLen at h2
 have HR := Lib.hid h.2.1
 have HKZ : Hid (kidsZ X.nodes p = kidsK X.nodes p X.nodes.length) := Lib.hid rfl
 clear h
 unfold recV
 go_enter Tryz.func44, Tryz.ntmps44
 go_upto_region 1 with (fail)
 have hb0 := (Box.new' w w.heap.size [vt, .string X.comment, .slice na X.nodes.length nc, .int .i64 X.result] 30 rfl)
 have HB : Hid (Below w.heap.size w (w.alloc (.cells #[vt, .string X.comment, .slice na X.nodes.length nc, .int .i64 X.result] 30))) := Lib.hid ((Below.refl w.heap.size w).alloc (Nat.le_refl _) _)
 obtain ⟨bb, hbb⟩ : ∃ bb, bb = w.heap.size := ⟨_, rfl⟩
 rw [← hbb] at HB hb0 ⊢
 generalize (w.alloc (.cells #[vt, .string X.comment, .slice na X.nodes.length nc, .int .i64 X.result] 30)) = w0 at *
 have HX := Lib.hid hb0
 have q2 := hb0.cell 2 rfl
 have hw0 := hb0.lt
 have hbb1 : w.heap.size ≤ bb := by omega
 have HNil : Hid (w0.ownsRow (bb + 1) 3 1 (.slice none 0 0) (kidsK X.nodes p 0).length (ints (nums (kidsK X.nodes p 0)))) := Lib.hid (World.ownsRow_nil _ _ _ _)
 clear hb0 hbb
 go_wp2_with fail
 go_loopw [11, 5] (fun v11 v5 wr => ∃ (k : Nat) (o5 : Value), o5 = v5 ∧ v11 = .int .i64 k ∧ k ≤ X.nodes.length ∧ Hid (wr.ownsRow (bb + 1) 3 1 o5 (kidsK X.nodes p k).length (ints (nums (kidsK X.nodes p k)))) ∧ Hid (Below bb w wr) ∧ Hid (Box wr bb [vt, .string X.comment, .slice na X.nodes.length nc, .int .i64 X.result] 30)) (fun v _ _ => X.nodes.length - (intOf v).toNat)
 case atStart => exact ⟨0, _, rfl, rfl, Nat.zero_le _, HNil, HB, HX⟩
 case round =>
  obtain ⟨k, o5, rfl, rfl, hk, HO, HBr, HXr⟩ := hrel
  have hsr := HXr.out.lt
  by_cases hlt : (k : Int) < (X.nodes.length : Int)
  ·obtain ⟨g, o, rfl, hg, hc⟩ := nodes_some HR.out (by omega)
   obtain ⟨e0, e1, e2, e3, e4, -⟩ := hc k (by omega)
   have hgb : g < bb := by omega
   have c0 := (HBr.out.cell (p := ⟨g, o + k * 5, none⟩) hgb).trans e0
   have c1 := (HBr.out.cell (p := ⟨g, o + k * 5 + 1, none⟩) hgb).trans e1
   have c2 := (HBr.out.cell (p := ⟨g, o + k * 5 + 2, none⟩) hgb).trans e2
   have c3 := (HBr.out.cell (p := ⟨g, o + k * 5 + 3, none⟩) hgb).trans e3
   have c4 := (HBr.out.cell (p := ⟨g, o + k * 5 + 4, none⟩) hgb).trans e4
   have HS := Lib.hid (kidsK_step X.nodes p k)
   have hL := kidsK_len X.nodes p k
   clear hc e0 e1 e2 e3 e4
   generalize (ndAt X.nodes k).parent = q at *
   obtain ⟨oa, oc, rfl⟩ := own_form2 HO.out
   have hgw : g < wr.heap.size := by omega
   go_upto_region 5 with (fail)
   have HNd := Lib.hid (Box.new wr [.int .i64 q, .int .i64 (ndAt X.nodes k).m.src, .int .i64 (ndAt X.nodes k).m.dst, .int .i64 (ndAt X.nodes k).m.piece, .string (ndAt X.nodes k).comment] 46)
   have HBa := Lib.hid (HBr.out.alloc (by omega) (.cells #[.int .i64 q, .int .i64 (ndAt X.nodes k).m.src, .int .i64 (ndAt X.nodes k).m.dst, .int .i64 (ndAt X.nodes k).m.piece, .string (ndAt X.nodes k).comment] 46))
   have HXa := Lib.hid (HXr.out.alloc (.cells #[.int .i64 q, .int .i64 (ndAt X.nodes k).m.src, .int .i64 (ndAt X.nodes k).m.dst, .int .i64 (ndAt X.nodes k).m.piece, .string (ndAt X.nodes k).comment] 46))
   have HOa := Lib.hid (HO.out.alloc (.cells #[.int .i64 q, .int .i64 (ndAt X.nodes k).m.src, .int .i64 (ndAt X.nodes k).m.dst, .int .i64 (ndAt X.nodes k).m.piece, .string (ndAt X.nodes k).comment] 46))
   generalize (wr.alloc (.cells #[.int .i64 q, .int .i64 (ndAt X.nodes k).m.src, .int .i64 (ndAt X.nodes k).m.dst, .int .i64 (ndAt X.nodes k).m.piece, .string (ndAt X.nodes k).comment] 46)) = wa at *
   have n0 := HNd.out.cell 0 rfl
   have hnl := HNd.out.lt
   clear HBr HXr HO c0 c1 c2 c3 c4
   by_cases hq : q = p
   ·subst hq
    have HS2 : Hid (kidsK X.nodes q (k + 1) = kidsK X.nodes q k ++ [k]) := Lib.hid (HS.out.trans (if_pos rfl))
    clear HS
    have hrs : bb + 1 ≤ wa.heap.size := by omega
    go_wp2_with (at_builtin; refine app_new 23 3 (.int .i64 0) 1 8 info3 Tryz.underlying23 rfl (by decide) (by rfl) _ _ (by rfl) (bb + 1) _ (kidsK X.nodes q k).length (ints (nums (kidsK X.nodes q k))) [.int .i64 (k : Int)] wa HOa.out hrs rfl one_int (by omega) (by omega) (by rfl) (by rfl) ?_)
    intro g3 cap3 w3 hown3 hkeep3 hgr3
    have HB3 := Lib.hid (hkeep3.below HBa.out (by omega))
    have HX3 := Lib.hid ((HXa.out.alloc (.cells #[.int .i64 (k : Int)] 3)).grown hgr3 (fun e => by have := (HOa.out.lt bb e.symm).1; omega))
    have HO3 : Hid (w3.ownsRow (bb + 1) 3 1 (.slice (some ⟨g3, 0, none⟩) ((kidsK X.nodes q k).length + 1) cap3) (kidsK X.nodes q (k + 1)).length (ints (nums (kidsK X.nodes q (k + 1))))) := Lib.hid (by
     rw [HS2.out, ← nums_snoc, List.length_append]
     exact hown3)
    clear hown3 hkeep3 hgr3
    go_wp2_with fail
    go_roundw
    case rel => exact ⟨k + 1, _, rfl, by go_num, by omega, HO3, HB3, HX3⟩
    case measure => simp [intOf]; omega
   ·have HS2 : Hid (kidsK X.nodes p (k + 1) = kidsK X.nodes p k) := Lib.hid (HS.out.trans (if_neg hq))
    have HO3 : Hid (wa.ownsRow (bb + 1) 3 1 (.slice oa (kidsK X.nodes p k).length oc) (kidsK X.nodes p (k + 1)).length (ints (nums (kidsK X.nodes p (k + 1))))) := Lib.hid (by rw [HS2.out]; exact HOa.out)
    clear HS HOa HS2
    go_wp2_with fail
    go_roundw
    case rel => exact ⟨k + 1, _, rfl, by go_num, by omega, HO3, HBa, HXa⟩
    case measure => simp [intOf]; omega
  ·obtain rfl : k = X.nodes.length := by omega
   go_wp2_with fail
   go_ret
   exact ⟨_, rfl, by rw [HKZ.out]; exact own_base HO.out (by omega), HBr.out.mono hbb1⟩
end Go.Proofs.YthklhndcdijneaaGreatDoor
namespace Go.Proofs.YthklhndcdijneaaGreatDoor
open Go.ChangeShapes Go.WideShapes Go.ChangeAt Go.RowKit
set_option linter.unusedVariables false
end Go.Proofs.YthklhndcdijneaaGreatDoor
namespace Go.Proofs.YthklhndcdijneaaGreatDoor
open Go.ChangeShapes Go.WideShapes Go.ChangeAt Go.RowKit
set_option linter.unusedVariables false
/-- how many nodes. -/
theorem flat_grow (l : List BrZ) (p : Int) (out : List NodeZ) : out.length ≤ (flatL l p out).length := by
 obtain ⟨r, h⟩ := flatL_app l p out
 rw [h, List.length_append]; omega
theorem flat_growB (b : BrZ) (p : Int) (out : List NodeZ) : out.length + 1 ≤ (flatB b p out).length := by
 cases b with
 | mk m c ks =>
  rw [flatB]
  have := flat_grow ks (out.length : Int) (out ++ [⟨p, m, c⟩])
  rw [List.length_append] at this
  exact this
/-- the parents of what is laid down. -/
def PAB (b : BrZ) : Prop := ∀ (p : Int) (out : List NodeZ) (k : Nat), out.length ≤ k → k < (flatB b p out).length → (k = out.length ∧ (ndAt (flatB b p out) k).parent = p) ∨ (out.length : Int) ≤ (ndAt (flatB b p out) k).parent
def PAL (l : List BrZ) : Prop := ∀ (p : Int) (out : List NodeZ) (k : Nat), out.length ≤ k → k < (flatL l p out).length → (ndAt (flatL l p out) k).parent = p ∨ (out.length : Int) ≤ (ndAt (flatL l p out) k).parent
theorem pa_mk (m : MoveZ) (c : ByteArray) (ks : List BrZ) (ih : PAL ks) : PAB (.mk m c ks) := by
 intro p out k h1 h2
 rw [flatB] at h2 ⊢
 have hl : (out ++ [(⟨p, m, c⟩ : NodeZ)]).length = out.length + 1 := by rw [List.length_append]; rfl
 by_cases e : k = out.length
 ·subst e
  obtain ⟨r, hr⟩ := flatL_app ks (out.length : Int) (out ++ [⟨p, m, c⟩])
  refine .inl ⟨rfl, ?_⟩
  rw [hr, nd_low _ _ _ (by omega), nd_new]
 ·rcases ih (out.length : Int) (out ++ [⟨p, m, c⟩]) k (by omega) h2 with h | h
  ·exact .inr (by rw [h]; exact Int.le_refl _)
  ·exact .inr (by omega)
theorem pa_cons (b : BrZ) (l : List BrZ) (h1 : PAB b) (h2 : PAL l) : PAL (b :: l) := by
 intro p out k q1 q2
 rw [flatL] at q2 ⊢
 have hg := flat_growB b p out
 by_cases e : k < (flatB b p out).length
 ·obtain ⟨r, hr⟩ := flatL_app l p (flatB b p out)
  rw [hr, nd_low _ _ _ e]
  rcases h1 p out k q1 e with h | h
  ·exact .inl h.2
  ·exact .inr h
 ·rcases h2 p (flatB b p out) k (by omega) q2 with h | h
  ·exact .inl h
  ·exact .inr (by omega)
theorem paL : ∀ l, PAL l := br_indL pa_mk (fun p out k h1 h2 => by rw [flatL] at h2; omega) pa_cons
theorem paB : ∀ b, PAB b := br_indB pa_mk (fun p out k h1 h2 => by rw [flatL] at h2; omega) pa_cons
theorem back_snoc {out : List NodeZ} (hb : Back out out.length) {p : Int} (hp : p < out.length) (m : MoveZ) (c : ByteArray) : Back (out ++ [(⟨p, m, c⟩ : NodeZ)]) (out ++ [(⟨p, m, c⟩ : NodeZ)]).length := by
 intro k hk
 rw [List.length_append] at hk
 by_cases e : k < out.length
 ·rw [nd_low out _ k e]; exact hb k e
 ·have ek : k = out.length := by have : k < out.length + 1 := hk; omega
  subst ek
  rw [nd_new]; exact hp
def BKB (b : BrZ) : Prop := ∀ (p : Int) (out : List NodeZ), Back out out.length → p < out.length → Back (flatB b p out) (flatB b p out).length
def BKL (l : List BrZ) : Prop := ∀ (p : Int) (out : List NodeZ), Back out out.length → p < out.length → Back (flatL l p out) (flatL l p out).length
theorem bk_mk (m : MoveZ) (c : ByteArray) (ks : List BrZ) (ih : BKL ks) : BKB (.mk m c ks) := by
 intro p out hb hp
 rw [flatB]
 exact ih _ _ (back_snoc hb hp m c) (by rw [List.length_append]; show (out.length : Int) < ((out.length + 1 : Nat) : Int); omega)
theorem bk_cons (b : BrZ) (l : List BrZ) (h1 : BKB b) (h2 : BKL l) : BKL (b :: l) := by
 intro p out hb hp
 rw [flatL]
 have := flat_growB b p out
 exact h2 p _ (h1 p out hb hp) (by omega)
theorem bkB : ∀ b, BKB b := br_indB bk_mk (fun p out h _ => by rw [flatL]; exact h) bk_cons
/-- laid down within more, the trees are read again. -/
def TFB (b : BrZ) : Prop := ∀ (p : Int) (out r : List NodeZ) (f : Nat), Back out out.length → -1 ≤ p → p < out.length → (flatB b p out).length ≤ out.length + f + 1 → (∀ k, (flatB b p out).length ≤ k → k < (flatB b p out ++ r).length → (ndAt (flatB b p out ++ r) k).parent < out.length ∨ ((flatB b p out).length : Int) ≤ (ndAt (flatB b p out ++ r) k).parent) → brOf (flatB b p out ++ r) f out.length = b
def TFL (l : List BrZ) : Prop := ∀ (p : Int) (out r : List NodeZ) (f : Nat), Back out out.length → -1 ≤ p → p < out.length → (flatL l p out).length ≤ out.length + f + 1 → (∀ k, (flatL l p out).length ≤ k → k < (flatL l p out ++ r).length → (ndAt (flatL l p out ++ r) k).parent < out.length ∨ ((flatL l p out).length : Int) ≤ (ndAt (flatL l p out ++ r) k).parent) → (kidsIn (flatL l p out ++ r) p out.length (flatL l p out).length).map (brOf (flatL l p out ++ r) f) = l
theorem tf_mk (m : MoveZ) (c : ByteArray) (ks : List BrZ) (ih : TFL ks) : TFB (.mk m c ks) := by
 intro p out r f hb0 p1 p2 hf hs
 have hl : (out ++ [(⟨p, m, c⟩ : NodeZ)]).length = out.length + 1 := by rw [List.length_append]; rfl
 have hfl : flatB (.mk m c ks) p out = flatL ks (out.length : Int) (out ++ [⟨p, m, c⟩]) := by rw [flatB]
 rw [hfl] at hf hs ⊢
 have hg := flat_grow ks (out.length : Int) (out ++ [⟨p, m, c⟩])
 have hnd : ndAt (flatL ks (out.length : Int) (out ++ [⟨p, m, c⟩]) ++ r) out.length = ⟨p, m, c⟩ := by
  obtain ⟨s, hr⟩ := flatL_app ks (out.length : Int) (out ++ [⟨p, m, c⟩])
  rw [nd_low _ _ _ (by omega), hr, nd_low _ _ _ (by omega), nd_new]
 unfold brOf
 rw [hnd]
 show BrZ.mk m c (treeF _ f (out.length : Int)) = BrZ.mk m c ks
 congr 1
 cases f with
 | zero =>
  have e0 : (flatL ks (out.length : Int) (out ++ [⟨p, m, c⟩])).length = (out ++ [(⟨p, m, c⟩ : NodeZ)]).length := by omega
  cases ks with
  | nil => rw [treeF]
  | cons b l =>
   rw [flatL] at e0
   have h1 := flat_growB b (out.length : Int) (out ++ [⟨p, m, c⟩])
   have h2 := flat_grow l (out.length : Int) (flatB b (out.length : Int) (out ++ [⟨p, m, c⟩]))
   omega
 | succ f =>
  have pk := paL ks (out.length : Int) (out ++ [⟨p, m, c⟩])
  have ht := ih (out.length : Int) (out ++ [⟨p, m, c⟩]) r f (back_snoc hb0 p2 m c) (by omega) (by omega) (by omega) (fun k h1 h2 => by
   rcases hs k h1 h2 with h | h
   ·exact .inl (by omega)
   ·exact .inr h)
  rw [treeF, kidsZ_in _ (out.length : Int) (out.length + 1) (flatL ks (out.length : Int) (out ++ [⟨p, m, c⟩])).length (by omega) (by rw [List.length_append]; omega) (fun k hk he => ?_)]
  ·rw [hl] at ht
   exact ht
  ·by_cases h3 : (flatL ks (out.length : Int) (out ++ [⟨p, m, c⟩])).length ≤ k
   ·rcases hs k h3 hk with h | h <;> omega
   ·refine ⟨?_, by omega⟩
    rcases Nat.lt_or_ge out.length k with h | h
    ·exact h
    ·by_cases e : k = out.length
     ·subst e
      rw [hnd] at he
      have : p = (out.length : Int) := he
      omega
     ·obtain ⟨s, hr⟩ := flatL_app ks (out.length : Int) (out ++ [⟨p, m, c⟩])
      exfalso
      rw [nd_low _ _ _ (by omega), hr, nd_low _ _ _ (by omega), nd_low _ _ _ (by omega)] at he
      have := hb0 k (by omega)
      omega
theorem tf_cons (b : BrZ) (l : List BrZ) (h1 : TFB b) (h2 : TFL l) : TFL (b :: l) := by
 intro p out r f hb0 p1 p2 hf hs
 have hfl : flatL (b :: l) p out = flatL l p (flatB b p out) := by rw [flatL]
 rw [hfl] at hf hs ⊢
 have g1 := flat_growB b p out
 have g2 := flat_grow l p (flatB b p out)
 have a1 := paB b p out
 have a2 := paL l p (flatB b p out)
 have bk := bkB b p out hb0 p2
 obtain ⟨s, hr⟩ := flatL_app l p (flatB b p out)
 have e2 := h2 p (flatB b p out) r f bk p1 (by omega) (by omega) (fun k q1 q2 => by
  rcases hs k q1 q2 with h | h
  ·exact .inl (by omega)
  ·exact .inr h)
 have e1 := h1 p out (s ++ r) f hb0 p1 p2 (by omega) (fun k q1 q2 => by
  rw [← List.append_assoc, ← hr] at q2 ⊢
  by_cases hk : k < (flatL l p (flatB b p out)).length
  ·rw [nd_low _ _ _ hk]
   rcases a2 k q1 hk with h | h
   ·exact .inl (by omega)
   ·exact .inr h
  ·rcases hs k (by omega) q2 with h | h
   ·exact .inl h
   ·exact .inr (by omega))
 rw [← List.append_assoc, ← hr] at e1
 have low : ∀ k, k < (flatB b p out).length → ndAt (flatL l p (flatB b p out) ++ r) k = ndAt (flatB b p out) k := fun k hk => by rw [nd_low _ _ _ (by omega), hr, nd_low _ _ _ hk]
 have hk0 : (ndAt (flatL l p (flatB b p out) ++ r) out.length).parent = p := by
  rw [low _ (by omega)]
  rcases a1 out.length (Nat.le_refl _) (by omega) with h | h
  ·exact h.2
  ·have := bk out.length (by omega)
   cases b with
   | mk m c ks =>
    rw [flatB]
    obtain ⟨s2, hr2⟩ := flatL_app ks (out.length : Int) (out ++ [⟨p, m, c⟩])
    rw [hr2, nd_low _ _ _ (by rw [List.length_append]; show out.length < out.length + 1; omega), nd_new]
 rw [kidsIn_split _ p out.length (out.length + 1) _ (by omega) (by omega), kidsIn_split _ p (out.length + 1) (flatB b p out).length _ (by omega) g2, kidsIn_one _ p _ hk0, kidsIn_none _ p (out.length + 1) (flatB b p out).length (fun k q1 q2 he => by
  rw [low k q2] at he
  rcases a1 k (by omega) q2 with h | h
  ·omega
  ·omega)]
 rw [List.nil_append, List.map_append, List.map_cons, List.map_nil, e1, e2]
 rfl
theorem tfL : ∀ l, TFL l := br_indL tf_mk (fun p out r f _ _ _ _ _ => by
 have : flatL [] p out = out := by rw [flatL]
 rw [this, kidsIn_nil]; rfl) tf_cons
/-- trees laid flat are found again. -/
theorem tree_flat (l : List BrZ) : treeF (flatL l (-1) []) ((flatL l (-1) []).length + 1) (-1) = l := by
 have := tfL l (-1) [] [] (flatL l (-1) []).length (fun k h => absurd h (Nat.not_lt_zero _)) (by decide) (by decide) (by simp) (fun k h1 h2 => by rw [List.append_nil] at h2; omega)
 rw [List.append_nil] at this
 rw [treeF, kidsZ_in _ (-1) 0 (flatL l (-1) []).length (Nat.zero_le _) (Nat.le_refl _) (fun k hk _ => ⟨Nat.zero_le _, hk⟩)]
 exact this
end Go.Proofs.YthklhndcdijneaaGreatDoor
namespace Go.Proofs.YthklhndcdijneaaGreatDoor
open Go.ChangeShapes Go.WideShapes Go.ChangeAt Go.RowKit
set_option linter.unusedVariables false
end Go.Proofs.YthklhndcdijneaaGreatDoor
namespace Go.Proofs.YthklhndcdijneaaGreatDoor
open Go.ChangeShapes Go.WideShapes Go.ChangeAt Go.RowKit
set_option linter.unusedVariables false
def ptrV (g : Nat) : Value := .pointer (some ⟨g, 0, none⟩)
variable {q : Nat → Prop} {tb te : TypeId}
/-- node k lies in block A k, with the slice K k of those after it. -/
structure NdAt (q : Nat → Prop) (tb te : TypeId) (base : Nat) (w : World) (ns : List NodeZ) (ord : Int → List Nat) (A : Nat → Nat) (K : Nat → Value) (k : Nat) : Prop where
 lo : base ≤ A k
 box : Box w (A k) [.int .i64 (ndAt ns k).m.src, .int .i64 (ndAt ns k).m.dst, .int .i64 (ndAt ns k).m.piece, .string (ndAt ns k).comment, K k] tb
 sz : (ndAt ns k).comment.size ≤ maxLen
 row : w.ownsRow base te 1 (K k) (ord (k : Int)).length ((ord (k : Int)).map fun j => ptrV (A j))
 nil : q (A k) ∧ ∀ g, (K k).ownBlock = some g → q g
end Go.Proofs.YthklhndcdijneaaGreatDoor
namespace Go.Proofs.YthklhndcdijneaaGreatDoor
open Go.ChangeShapes Go.WideShapes Go.ChangeAt Go.RowKit
set_option linter.unusedVariables false
/-! ### who lies under whom -/
def Und (ns : List NodeZ) (p : Int) (k : Nat) : Prop := k < ns.length ∧ Up ns (ndAt ns k).parent p
theorem Und.lt {ns : List NodeZ} (hb : Back ns ns.length) {p : Int} {k : Nat} (h : Und ns p k) : p < k := by
 have h1 := hb k h.1
 have h2 := up_le hb h.2 (by have := h.1; omega)
 omega
/-! ### nodes in memory -/
def adr (Ws : List Value) (k : Nat) : Nat :=
 match Ws[k]? with
 | some (.pointer (some a)) => a.block
 | _ => 0
theorem adr_eq {Ws Ws' : List Value} {k : Nat} (h : Ws'[k]? = Ws[k]?) : adr Ws' k = adr Ws k := by unfold adr; rw [h]
theorem adr_ptr {Ws : List Value} {k g : Nat} (h : Ws[k]? = some (ptrV g)) : adr Ws k = g := by unfold adr; rw [h]; rfl
def kv (w : World) (g : Nat) : Value := (w.cell? ⟨g, 4, none⟩).getD (.slice none 0 0)
theorem kv_eq {w w' : World} {g : Nat} (h : w'.heap[g]? = w.heap[g]?) : kv w' g = kv w g := by
 unfold kv
 rw [World.cell?_of_block (a := ⟨g, 4, none⟩) h]
variable {tb te : TypeId}
def anyB : Nat → Prop := fun _ => True
structure Nd (tb te : TypeId) (base : Nat) (w : World) (ns : List NodeZ) (ord : Int → List Nat) (Ws : List Value) (k : Nat) : Prop where
 here : Ws[k]? = some (ptrV (adr Ws k))
 nd : NdAt anyB tb te base w ns ord (adr Ws) (fun k => kv w (adr Ws k)) k
theorem Nd.lo {base : Nat} {w : World} {ns : List NodeZ} {ord : Int → List Nat} {Ws : List Value} {k : Nat} (h : Nd tb te base w ns ord Ws k) : base ≤ adr Ws k := h.nd.lo
theorem Nd.hi {base : Nat} {w : World} {ns : List NodeZ} {ord : Int → List Nat} {Ws : List Value} {k : Nat} (h : Nd tb te base w ns ord Ws k) : adr Ws k < w.heap.size := h.nd.box.lt
theorem Nd.row {base : Nat} {w : World} {ns : List NodeZ} {ord : Int → List Nat} {Ws : List Value} {k : Nat} (h : Nd tb te base w ns ord Ws k) : ∀ g, (kv w (adr Ws k)).ownBlock = some g → base ≤ g ∧ g < w.heap.size := h.nd.row.lt
theorem Nd.step {base base' : Nat} {w w' : World} {ns : List NodeZ} {ord : Int → List Nat} {Ws Ws' : List Value} {k : Nat} (h : Nd tb te base w ns ord Ws k) (hb : base' ≤ base) (hA : w'.heap[adr Ws k]? = w.heap[adr Ws k]?)
  (hR : ∀ g, (kv w (adr Ws k)).ownBlock = some g → w'.heap[g]? = w.heap[g]?) (hW : Ws'[k]? = Ws[k]?) (hO : ∀ j ∈ ord (k : Int), Ws'[j]? = Ws[j]?) : Nd tb te base' w' ns ord Ws' k ∧ kv w' (adr Ws' k) = kv w (adr Ws k) := by
 have ea := adr_eq hW
 have ek := kv_eq hA
 have e2 : kv w' (adr Ws' k) = kv w (adr Ws k) := by rw [ea, ek]
 refine ⟨⟨by rw [hW, ea]; exact h.here, ?_⟩, e2⟩
 refine ⟨by rw [ea]; exact Nat.le_trans hb h.lo, ?_, h.nd.sz, ?_, ?_⟩
 ·show Box w' (adr Ws' k) _ tb
  rw [e2, ea]
  exact hA.trans h.nd.box
 ·show w'.ownsRow base' te 1 (kv w' (adr Ws' k)) _ _
  rw [e2]
  have em : ((ord (k : Int)).map fun j => ptrV (adr Ws' j)) = (ord (k : Int)).map fun j => ptrV (adr Ws j) := List.map_congr_left fun j hj => by rw [adr_eq (hO j hj)]
  rw [em]
  exact own_of_block (own_base h.nd.row hb) hR
 ·exact ⟨trivial, fun _ _ => trivial⟩
def Apart (w : World) (Ws : List Value) (k k' : Nat) : Prop := adr Ws k ≠ adr Ws k' ∧ ((kv w (adr Ws k)).ownBlock = none ∨ (kv w (adr Ws k)).ownBlock ≠ (kv w (adr Ws k')).ownBlock)
/-- the state of tree's loop: the nodes of S lie in memory, those of js in the row v. -/
structure TS (tb te : TypeId) (base : Nat) (w0 w : World) (ns : List NodeZ) (ord : Int → List Nat) (bw : Nat) (Ws0 Ws : List Value) (S : Nat → Prop) (v : Value) (js : List Nat) : Prop where
 grow : w0.grownBy w (some bw)
 wh : Box w bw Ws te
 wlen : Ws.length = Ws0.length
 wold : ∀ k, ¬ S k → Ws[k]? = Ws0[k]?
 nds : ∀ k, S k → Nd tb te base w ns ord Ws k
 sep : ∀ k k', S k → S k' → k ≠ k' → Apart w Ws k k'
 clo : ∀ k, S k → ∀ j ∈ ord (k : Int), S j
 sub : ∀ j ∈ js, S j
 out : w.ownsRow base te 1 v js.length (js.map fun j => ptrV (adr Ws j))
 osep : ∀ k, S k → v.ownBlock = none ∨ v.ownBlock ≠ (kv w (adr Ws k)).ownBlock
theorem grown_trans {a b c : World} {r : Option Nat} (h : a.grownBy b r) (k : b.grownBy c r) : a.grownBy c r :=
 ⟨k.os.trans h.os, k.tape.trans h.tape, k.output.trans h.output, Nat.le_trans h.size k.size, fun i h1 h2 => (k.block i (Nat.lt_of_lt_of_le h1 h.size) h2).trans (h.block i h1 h2)⟩
theorem grown_set {a w : World} {r : Option Nat} (h : a.grownBy w r) (p : Addr) (u : Value) (hp : some p.block = r ∨ a.heap.size ≤ p.block) : a.grownBy (w.setCell p u) r :=
 ⟨h.os, h.tape, h.output, by simpa using h.size, fun k h1 h2 => (Below.heap_setCell w p u k (by intro e; rcases hp with hp | hp; (· exact h2 (by rw [e]; exact hp)); omega)).trans (h.block k h1 h2)⟩
/-- nothing lies there yet. -/
theorem TS.start {w : World} {ns : List NodeZ} {ord : Int → List Nat} {bw : Nat} {Ws : List Value} (base : Nat) (hb : Box w bw Ws te) : TS tb te base w w ns ord bw Ws Ws (fun _ => False) (.slice none 0 0) [] :=
 ⟨⟨rfl, rfl, rfl, Nat.le_refl _, fun _ _ _ => rfl⟩, hb, rfl, fun _ _ => rfl, fun _ h => h.elim, fun _ _ h => h.elim, fun _ h => h.elim, fun _ h => (List.not_mem_nil h).elim, World.ownsRow_nil _ _ _ _, fun _ h => h.elim⟩
/-- a node more, with those under it. -/
theorem TS.node {base : Nat} {w1 wr w3 w4 : World} {ns : List NodeZ} {ord : Int → List Nat} {bw : Nat} {Ws0 Ws Ws1 Ws2 : List Value} {S U : Nat → Prop} {v v4 : Value} {js : List Nat} {c B : Nat}
  (h : TS tb te base w1 wr ns ord bw Ws0 Ws S v js) (hb1 : base ≤ w1.heap.size) (hbw : bw < base) (hB : wr.heap.size = B) (hw1 : Ws1 = Ws.set c (ptrV B)) (hc : c < Ws0.length)
  (hg3 : wr.grownBy w3 (some bw)) (hs3 : w3.heap.size = B + 1) (hx3 : Box w3 B [.int .i64 (ndAt ns c).m.src, .int .i64 (ndAt ns c).m.dst, .int .i64 (ndAt ns c).m.piece, .string (ndAt ns c).comment, .slice none 0 0] tb)
  (hsz : (ndAt ns c).comment.size ≤ maxLen) (h4 : TS tb te (B + 1) w3 w4 ns ord bw Ws1 Ws2 U v4 (ord (c : Int))) (hcU : ¬ U c) (hSc : ¬ S c) (hSU : ∀ k, U k → ¬ S k) :
  TS tb te base w1 (w4.setCell ⟨B, 4, none⟩ v4) ns ord bw Ws0 Ws2 (fun k => S k ∨ k = c ∨ U k) v js := by
 have hwr := h.grow.size
 have hbB : base ≤ B := by omega
 have h34 := h4.grow.size
 have e1 : ∀ k, k ≠ c → Ws1[k]? = Ws[k]? := fun k hk => by rw [hw1, List.getElem?_set, if_neg (Ne.symm hk)]
 have e1c : Ws1[c]? = some (ptrV B) := by rw [hw1, List.getElem?_set, if_pos rfl, if_pos (by rw [h.wlen]; exact hc)]
 have e2 : ∀ k, ¬ U k → Ws2[k]? = Ws1[k]? := h4.wold
 have e2c : Ws2[c]? = some (ptrV B) := by rw [e2 c hcU, e1c]
 have ac : adr Ws2 c = B := adr_ptr e2c
 have hbs : ∀ g, base ≤ g → g < B → (w4.setCell ⟨B, 4, none⟩ v4).heap[g]? = wr.heap[g]? := fun g h1 h2 => by
  rw [Below.heap_setCell w4 _ v4 g (by show g ≠ B; omega), h4.grow.block g (by omega) (by simp; omega), hg3.block g (by omega) (by simp; omega)]
 have hbu : ∀ g, B + 1 ≤ g → (w4.setCell ⟨B, 4, none⟩ v4).heap[g]? = w4.heap[g]? := fun g h1 => Below.heap_setCell w4 _ v4 g (by show g ≠ B; omega)
 have hx4 : Box (w4.setCell ⟨B, 4, none⟩ v4) B [.int .i64 (ndAt ns c).m.src, .int .i64 (ndAt ns c).m.dst, .int .i64 (ndAt ns c).m.piece, .string (ndAt ns c).comment, v4] tb := by
  have hx : Box w4 B [.int .i64 (ndAt ns c).m.src, .int .i64 (ndAt ns c).m.dst, .int .i64 (ndAt ns c).m.piece, .string (ndAt ns c).comment, .slice none 0 0] tb := (h4.grow.block B (by omega) (by simp; omega)).trans hx3
  exact hx.set 4 v4
 have kc : kv (w4.setCell ⟨B, 4, none⟩ v4) B = v4 := by unfold kv; rw [hx4.cell 4 rfl]; rfl
 have oldN : ∀ k, S k → Nd tb te base (w4.setCell ⟨B, 4, none⟩ v4) ns ord Ws2 k ∧ kv (w4.setCell ⟨B, 4, none⟩ v4) (adr Ws2 k) = kv wr (adr Ws k) := fun k hk => by
  have hn := h.nds k hk
  have hW : ∀ j, S j → Ws2[j]? = Ws[j]? := fun j hj => by rw [e2 j (fun hu => hSU j hu hj), e1 j (fun e => hSc (e ▸ hj))]
  exact hn.step (Nat.le_refl _) (hbs _ hn.lo (by rw [← hB]; exact hn.hi)) (fun g hg => hbs g (hn.row g hg).1 (by rw [← hB]; exact (hn.row g hg).2)) (hW k hk) (fun j hj => hW j (h.clo k hk j hj))
 have newN : ∀ k, U k → Nd tb te (B + 1) (w4.setCell ⟨B, 4, none⟩ v4) ns ord Ws2 k ∧ kv (w4.setCell ⟨B, 4, none⟩ v4) (adr Ws2 k) = kv w4 (adr Ws2 k) := fun k hk => by
  have hn := h4.nds k hk
  exact hn.step (Nat.le_refl _) (hbu _ hn.lo) (fun g hg => hbu g (hn.row g hg).1) rfl (fun _ _ => rfl)
 have adrO : ∀ k, S k → adr Ws2 k < B := fun k hk => by
  have hW : Ws2[k]? = Ws[k]? := by rw [e2 k (fun hu => hSU k hu hk), e1 k (fun e => hSc (e ▸ hk))]
  rw [adr_eq hW, ← hB]; exact (h.nds k hk).hi
 have rowO : ∀ k, S k → ∀ g, (kv (w4.setCell ⟨B, 4, none⟩ v4) (adr Ws2 k)).ownBlock = some g → g < B := fun k hk g hg => by
  rw [(oldN k hk).2] at hg
  rw [← hB]; exact ((h.nds k hk).row g hg).2
 have rowU : ∀ k, U k → ∀ g, (kv (w4.setCell ⟨B, 4, none⟩ v4) (adr Ws2 k)).ownBlock = some g → B + 1 ≤ g := fun k hk g hg => ((newN k hk).1.row g hg).1
 have rowC : ∀ g, v4.ownBlock = some g → B + 1 ≤ g := fun g hg => (h4.out.lt g hg).1
 have far : ∀ (x y : Option Nat) (m : Nat), (∀ g, x = some g → g < m) → (∀ g, y = some g → m ≤ g) → x = none ∨ x ≠ y := fun x y m hx hy => by
  cases x with
  | none => exact .inl rfl
  | some g => exact .inr fun e => by have h1 := hx g rfl; have h2 := hy g e.symm; omega
 have far' : ∀ (x y : Option Nat) (m : Nat), (∀ g, x = some g → m ≤ g) → (∀ g, y = some g → g < m) → x = none ∨ x ≠ y := fun x y m hx hy => by
  cases x with
  | none => exact .inl rfl
  | some g => exact .inr fun e => by have h1 := hx g rfl; have h2 := hy g e.symm; omega
 refine ⟨?_, ?_, ?_, ?_, ?_, ?_, ?_, ?_, ?_, ?_⟩
 ·exact grown_set (grown_trans (grown_trans h.grow hg3) h4.grow) _ _ (.inr (by show w1.heap.size ≤ B; omega))
 ·exact h4.wh.far _ _ (by show bw ≠ B; omega)
 ·rw [h4.wlen, hw1, List.length_set, h.wlen]
 ·intro k hk
  rw [e2 k (fun hu => hk (.inr (.inr hu))), e1 k (fun e => hk (.inr (.inl e))), h.wold k (fun hs => hk (.inl hs))]
 ·rintro k (hk | rfl | hk)
  ·exact (oldN k hk).1
  ·refine ⟨by rw [e2c, ac], ?_⟩
   refine ⟨by rw [ac]; exact hbB, ?_, hsz, ?_, ?_⟩
   ·show Box _ (adr Ws2 k) [_, _, _, _, kv _ (adr Ws2 k)] tb
    rw [ac, kc]; exact hx4
   ·show World.ownsRow _ base te 1 (kv _ (adr Ws2 k)) _ _
    rw [ac, kc]
    exact own_of_block (own_base h4.out (by omega)) (fun g hg => hbu g (rowC g hg))
   ·exact ⟨trivial, fun _ _ => trivial⟩
  ·exact ((newN k hk).1.step (by omega) rfl (fun _ _ => rfl) rfl (fun _ _ => rfl)).1
 ·rintro k k' hk hk' hne
  unfold Apart
  rcases hk with hk | rfl | hk <;> rcases hk' with hk' | rfl | hk'
  ·have hW : ∀ j, S j → Ws2[j]? = Ws[j]? := fun j hj => by rw [e2 j (fun hu => hSU j hu hj), e1 j (fun e => hSc (e ▸ hj))]
   rw [(oldN k hk).2, (oldN k' hk').2, adr_eq (hW k hk), adr_eq (hW k' hk')]
   exact h.sep k k' hk hk' hne
  ·exact ⟨by have := adrO k hk; rw [ac]; omega, by rw [ac, kc]; exact far _ _ B (rowO k hk) (fun g hg => by have := rowC g hg; omega)⟩
  ·exact ⟨by have := adrO k hk; have := (newN k' hk').1.lo; omega, far _ _ B (rowO k hk) (fun g hg => by have := rowU k' hk' g hg; omega)⟩
  ·exact ⟨by have := adrO k' hk'; rw [ac]; omega, by rw [ac, kc]; exact far' _ _ B (fun g hg => by have := rowC g hg; omega) (rowO k' hk')⟩
  ·exact absurd rfl hne
  ·refine ⟨by have := (newN k' hk').1.lo; rw [ac]; omega, ?_⟩
   rw [ac, kc, (newN k' hk').2]
   exact h4.osep k' hk'
  ·exact ⟨by have := adrO k' hk'; have := (newN k hk).1.lo; omega, far' _ _ B (fun g hg => by have := rowU k hk g hg; omega) (rowO k' hk')⟩
  ·refine ⟨by have := (newN k hk).1.lo; rw [ac]; omega, ?_⟩
   rw [ac, kc, (newN k hk).2]
   rcases h4.osep k hk with h0 | h0
   ·cases hx : (kv w4 (adr Ws2 k)).ownBlock with
    | none => exact .inl rfl
    | some g => rw [h0]; exact .inr (by simp)
   ·exact .inr (Ne.symm h0)
  ·rw [(newN k hk).2, (newN k' hk').2]
   exact h4.sep k k' hk hk' hne
 ·rintro k (hk | rfl | hk) j hj
  ·exact .inl (h.clo k hk j hj)
  ·exact .inr (.inr (h4.sub j hj))
  ·exact .inr (.inr (h4.clo k hk j hj))
 ·exact fun j hj => .inl (h.sub j hj)
 ·have em : (js.map fun j => ptrV (adr Ws2 j)) = js.map fun j => ptrV (adr Ws j) := List.map_congr_left fun j hj => by
   have hs := h.sub j hj
   rw [adr_eq (show Ws2[j]? = Ws[j]? by rw [e2 j (fun hu => hSU j hu hs), e1 j (fun e => hSc (e ▸ hs))])]
  rw [em]
  exact own_of_block h.out (fun g hg => hbs g (h.out.lt g hg).1 (by rw [← hB]; exact (h.out.lt g hg).2))
 ·have vo : ∀ g, v.ownBlock = some g → g < B := fun g hg => by rw [← hB]; exact (h.out.lt g hg).2
  rintro k (hk | rfl | hk)
  ·rw [(oldN k hk).2]; exact h.osep k hk
  ·rw [ac, kc]; exact far _ _ B vo (fun g hg => by have := rowC g hg; omega)
  ·exact far _ _ B vo (fun g hg => by have := rowU k hk g hg; omega)
/-- the node is appended. -/
theorem TS.app {base : Nat} {w1 w w' : World} {ns : List NodeZ} {ord : Int → List Nat} {bw : Nat} {Ws0 Ws : List Value} {S : Nat → Prop} {v : Value} {js : List Nat} {c g cap : Nat} {o : Obj}
  (h : TS tb te base w1 w ns ord bw Ws0 Ws S v js) (hne : te ≠ tb) (hb1 : w1.heap.size ≤ base) (hbw : bw < base) (hc : S c) (hg : (w.alloc o).grownBy w' v.ownBlock) (hat : v.ownBlock = some g ∨ w.heap.size ≤ g)
  (hown : w'.ownsRow base te 1 (.slice (some ⟨g, 0, none⟩) (js.length + 1) cap) (js.length + 1) ((js.map fun j => ptrV (adr Ws j)) ++ [ptrV (adr Ws c)])) :
  TS tb te base w1 w' ns ord bw Ws0 Ws S (.slice (some ⟨g, 0, none⟩) (js.length + 1) cap) (js ++ [c]) := by
 have hs := hg.size
 have hsa : (w.alloc o).heap.size = w.heap.size + 1 := by simp
 have hk : ∀ k, k < w.heap.size → some k ≠ v.ownBlock → w'.heap[k]? = w.heap[k]? := fun k h1 h2 => (hg.block k (by omega) h2).trans (Below.heap_alloc w o k h1)
 have hA : ∀ k, S k → some (adr Ws k) ≠ v.ownBlock := fun k hk e => by
  have hb := (h.nds k hk).nd.box
  rcases h.out.2 with ⟨h0, _⟩ | ⟨q, cc, cur, h0, _, hq, _⟩
  ·rw [h0] at e; cases e
  ·rw [h0] at e
   simp only [Value.ownBlock, Option.some.injEq] at e
   subst e
   have hb2 : w.heap[adr Ws k]? = some (.cells _ tb (0, 0)) := hb
   rw [hq] at hb2
   simp only [Option.some.injEq, Obj.cells.injEq] at hb2
   exact hne hb2.2.1
 have st : ∀ k, S k → Nd tb te base w' ns ord Ws k ∧ kv w' (adr Ws k) = kv w (adr Ws k) := fun k hks =>
  (h.nds k hks).step (Nat.le_refl _) (hk _ (h.nds k hks).hi (hA k hks)) (fun q hq => hk q ((h.nds k hks).row q hq).2 (fun e => by
   rcases h.osep k hks with h0 | h0
   ·rw [h0] at e; cases e
   ·exact h0 (by rw [← e, hq]))) rfl (fun _ _ => rfl)
 refine ⟨?_, ?_, h.wlen, h.wold, fun k hk => (st k hk).1, ?_, h.clo, ?_, ?_, ?_⟩
 ·refine ⟨hg.os.trans h.grow.os, hg.tape.trans h.grow.tape, hg.output.trans h.grow.output, by have := h.grow.size; omega, fun k h1 h2 => ?_⟩
  rw [hk k (by have := h.grow.size; omega) (fun e => by have := (h.out.lt k e.symm).1; omega)]
  exact h.grow.block k h1 h2
 ·exact (hk bw h.wh.lt (fun e => by have := (h.out.lt bw e.symm).1; omega)).trans h.wh
 ·intro k k' h1 h2 hn
  unfold Apart
  rw [(st k h1).2, (st k' h2).2]
  exact h.sep k k' h1 h2 hn
 ·intro j hj
  rcases List.mem_append.1 hj with hj | hj
  ·exact h.sub j hj
  ·rw [List.mem_singleton.1 hj]; exact hc
 ·rw [List.length_append, List.map_append]; exact hown
 ·intro k hks
  right
  rw [(st k hks).2]
  intro e
  have e' : (kv w (adr Ws k)).ownBlock = some g := e.symm
  have hr := (h.nds k hks).row g e'
  rcases hat with h0 | h0
  ·rcases h.osep k hks with h2 | h2
   ·rw [h2] at h0; cases h0
   ·exact h2 (by rw [h0, e'])
  ·omega
/-- seen from the world ahead. -/
theorem TS.back {base base' : Nat} {w0 w1 w : World} {ns : List NodeZ} {ord : Int → List Nat} {bw : Nat} {Ws0 Ws : List Value} {S : Nat → Prop} {v : Value} {js : List Nat} (h : TS tb te base w1 w ns ord bw Ws0 Ws S v js) (hb : base' ≤ base) (hg : w0.grownBy w1 (some bw)) : TS tb te base' w0 w ns ord bw Ws0 Ws S v js :=
 ⟨grown_trans hg h.grow, h.wh, h.wlen, h.wold, fun k hk => ((h.nds k hk).step hb rfl (fun _ _ => rfl) rfl (fun _ _ => rfl)).1, h.sep, h.clo, h.sub, own_base h.out hb, h.osep⟩
end Go.Proofs.YthklhndcdijneaaGreatDoor
namespace Go.Proofs.YthklhndcdijneaaGreatDoor
open Go.ChangeShapes Go.WideShapes Go.ChangeAt Go.RowKit
set_option linter.unusedVariables false
theorem app_at {ops : Array Oper} {rest : List Oper} {o : Oper} {a : Act} {Q : Exit → Act → World → Prop} (t e : TypeId) (z : Value) (k b : Nat)
  (hI : (Tryz.prog.info? e).map (fun i => (i.zero, i.size, i.bytes)) = some (some z, k, b)) (ht : Tryz.prog.underlying t = some (.slice e)) (hzs : z.cells.size = k) (hk : 0 < k) (hgd : o.guard = none) (s x : Operand)
  (ho : o.op = .call { callee := .builtin .append, args := #[s, x], argTypes := #[t, t] }) (base : Nat) (v : Value) (n : Nat) (xs news : List Value) (W : World) (hown : W.ownsRow base e k v n xs) (hb : base ≤ W.heap.size)
  (hl : news.length = k) (h1 : ∀ u ∈ news, u.oneCell' = true) (hn : n + 1 ≤ 100000000) (hbb : (n + 1) * b ≤ 140737488355328) (hs : a.eval s = v) (hx : a.eval x = .slice (some ⟨W.heap.size, 0, none⟩) 1 1)
  (h : ∀ g cap w', w'.ownsRow base e k (.slice (some ⟨g, 0, none⟩) (n + 1) cap) (n + 1) (xs ++ news) → (v.ownBlock = some g ∨ W.heap.size ≤ g) → (W.alloc (.cells news.toArray e)).grownBy w' v.ownBlock →
   wpList Tryz.prog ops Q rest (a.put o.dst (.slice (some ⟨g, 0, none⟩) (n + 1) cap)) w') : wpList Tryz.prog ops Q (o :: rest) a (W.alloc (.cells news.toArray e)) := by
 obtain ⟨i, hi, hz, hsz, hby⟩ : ∃ i, Tryz.prog.info? e = some i ∧ i.zero = some z ∧ i.size = k ∧ i.bytes = b := by
  cases hh : Tryz.prog.info? e with
  | none => rw [hh] at hI; cases hI
  | some i =>
   rw [hh] at hI
   simp only [Option.map_some, Option.some.injEq, Prod.mk.injEq] at hI
   exact ⟨i, rfl, hI.1, hI.2.1, hI.2.2⟩
 refine wpList_append_lies _ hgd s x t ho base e i z k b ht hi hz hsz hby hzs hk v n xs hs (hown.alloc _) ⟨W.heap.size, 0, none⟩ 1 1 news hx (by rw [hl, Nat.one_mul]) (new_cells W news e) h1 (by decide) (by unfold maxLen; omega) hbb (by simp; omega) _ rfl ?_
 intro g cap w' hown' hg hat hlt
 refine h g cap w' hown' ?_ hg
 rcases hat with hat | hat
 ·exact .inl hat
 ·exact .inr (by rw [hat]; simp)
end Go.Proofs.YthklhndcdijneaaGreatDoor
namespace Go.Proofs.YthklhndcdijneaaGreatDoor
open Go.ChangeShapes Go.WideShapes Go.ChangeAt Go.RowKit
set_option linter.unusedVariables false
abbrev rBr : TypeId := 143
abbrev rPt : TypeId := 140
theorem infoRb : (Tryz.prog.info? 140).map (fun i => (i.zero, i.size, i.bytes)) = some (some (.pointer none), 1, 8) := by kernel_rfl
theorem one_pt {g : Nat} : ∀ u ∈ [Value.pointer (some ⟨g, 0, none⟩)], u.oneCell' = true := by intro u hu; simp at hu; subst hu; rfl
theorem Fr.setNew {S : Nat → Prop} {a w : World} (h : Fr S a w) {p : Addr} (hp : a.heap.size ≤ p.block) (u : Value) : Fr S a (w.setCell p u) :=
 ⟨h.os, h.tape, h.output, by simpa using h.size, fun k hk hn => (Below.heap_setCell w p u k (by omega)).trans (h.block k hk hn)⟩
/-- the row of the branches: the first one, whose branches are still to come, and the others. -/
structure LpS (B : Nat) (w : World) (ov : Value) (gF : Nat) (vs : List Value) (dn : List BrZ) : Prop where
 row : w.ownsRow B rPt 1 ov (vs.length + 1) (.pointer (some ⟨gF, 0, none⟩) :: vs)
 brs : BrsAt (fun k => ov.ownBlock ≠ some k) rBr rPt B w dn vs
theorem LpS.move {B : Nat} {w w' : World} {ov : Value} {gF : Nat} {vs : List Value} {dn : List BrZ} (h : LpS B w ov gF vs dn) (hm : ∀ k, B ≤ k → k < w.heap.size → w'.heap[k]? = w.heap[k]?) : LpS B w' ov gF vs dn :=
 ⟨own_of_block h.row (fun g hg => hm g (h.row.lt g hg).1 (h.row.lt g hg).2), brs_move (fun g h1 h2 h3 => ⟨hm g h1 h2, h3⟩) _ _ h.brs⟩
theorem LpS.app {B : Nat} {w w' : World} {ov : Value} {gF : Nat} {vs : List Value} {dn : List BrZ} {y : BrZ} {u : Value} {g cap : Nat} {o : Obj} (h : LpS B w ov gF vs dn) (hy : BrAt (fun k => ov.ownBlock ≠ some k) rBr rPt B w y u)
  (hg : (w.alloc o).grownBy w' ov.ownBlock) (hat : ov.ownBlock = some g ∨ w.heap.size ≤ g) (hown : w'.ownsRow B rPt 1 (.slice (some ⟨g, 0, none⟩) (vs.length + 1 + 1) cap) (vs.length + 1 + 1) ((.pointer (some ⟨gF, 0, none⟩) :: vs) ++ [u])) :
  LpS B w' (.slice (some ⟨g, 0, none⟩) (vs.length + 1 + 1) cap) gF (vs ++ [u]) (dn ++ [y]) := by
 have hs := hg.size
 have hsa : (w.alloc o).heap.size = w.heap.size + 1 := by simp
 have hk : ∀ k, k < w.heap.size → some k ≠ ov.ownBlock → w'.heap[k]? = w.heap[k]? := fun k h1 h2 => (hg.block k (by omega) h2).trans (Below.heap_alloc w o k h1)
 have hne : ∀ k, k < w.heap.size → ov.ownBlock ≠ some k → (Value.slice (some ⟨g, 0, none⟩) (vs.length + 1 + 1) cap).ownBlock ≠ some k := fun k h1 h2 e => by
  simp only [Value.ownBlock, Option.some.injEq] at e
  rcases hat with h3 | h3
  ·exact h2 (by rw [h3, e])
  ·omega
 have hm : ∀ k, B ≤ k → k < w.heap.size → ov.ownBlock ≠ some k → w'.heap[k]? = w.heap[k]? ∧ (Value.slice (some ⟨g, 0, none⟩) (vs.length + 1 + 1) cap).ownBlock ≠ some k := fun k _ h2 h3 => ⟨hk k h2 (fun e => h3 e.symm), hne k h2 h3⟩
 refine ⟨by rw [List.length_append]; exact hown, brs_app dn [y] vs [u] (brs_move hm _ _ h.brs) (brs_move hm [y] [u] (by rw [BrsAt]; exact ⟨u, [], rfl, hy, by rw [BrsAt]⟩))⟩
/-- a finished branch. -/
theorem brAt_new {B g : Nat} {w : World} {ov kv : Value} {m : MoveZ} {c : ByteArray} {ks : List BrZ} {vk : List Value} (hg : B ≤ g) (hb : Box w g [.int .i64 m.src, .int .i64 m.dst, .int .i64 m.piece, .string c, kv] rBr) (hc : c.size ≤ maxLen)
  (ho : w.ownsRow B rPt 1 kv vk.length vk) (hk : BrsAt (fun _ => True) rBr rPt B w ks vk) (N : Nat) (hN : N ≤ g) (hov : ∀ k, ov.ownBlock = some k → k < N) (hkv : ∀ k, kv.ownBlock = some k → N ≤ k) (hks : BrsAt (fun k => N ≤ k) rBr rPt B w ks vk) : BrAt (fun k => ov.ownBlock ≠ some k) rBr rPt B w (.mk m c ks) (.pointer (some ⟨g, 0, none⟩)) := by
 rw [BrAt]
 refine ⟨g, kv, vk, rfl, hg, hb, hc, ho, ⟨fun e => by have := hov g e; omega, fun k hk2 e => by have := hov k e; have := hkv k hk2; omega⟩, ?_⟩
 exact brs_move (fun k _ _ h3 => ⟨rfl, fun e => by have := hov k e; omega⟩) _ _ hks
/-- what after leaves. -/
def afPost (b : Nat) (R : RulesZ) (vp vs ve x0 x1 x2 x3 : Value) (w : World) (o : Except Int (List BrZ × Byt)) (e : Ending) (w' : World) : Prop :=
 Fr (· = b) w w' ∧ match o with
 | .error n => e = .panicked (wrongV n)
 | .ok q => ∃ v us, e = .returned v ∧ w'.ownsRow w.heap.size rPt 1 v us.length us ∧ BrsAt (fun _ => True) rBr rPt w.heap.size w' q.1 us ∧ Box w' b (rdC R vp vs ve (bs q.2) x0 x1 x2 x3) RdT
def addV (dn : List BrZ) : Except Int (List BrZ × Byt) → Except Int (List BrZ × Byt)
 | .error e => .error e
 | .ok v => .ok (dn ++ v.1, v.2)
theorem addV_nil (o : Except Int (List BrZ × Byt)) : o = addV [] o := by cases o <;> rfl
/-- a variation more. -/
theorem vars_step {R : RulesZ} {p : PosZ} {g : Nat} {l : Byt} {dn : List BrZ} {O : Except Int (List BrZ × Byt)} (h : O = addV dn (rVars R (g + 1) p l)) (h1 : (got 40 l).1 = true) :
  (∀ n, rMove R p (got 40 l).2 = .error n → O = .error n) ∧ ∀ y, rMove R p (got 40 l).2 = .ok y → (∀ n, rAfter R g (makeZ R p y.1) y.2.2 = .error n → O = .error n) ∧
   ∀ k, rAfter R g (makeZ R p y.1) y.2.2 = .ok k → ((got 41 k.2).1 = false → O = .error 5) ∧ ((got 41 k.2).1 = true → O = addV (dn ++ [.mk y.1 (bs y.2.1) k.1]) (rVars R g p (got 41 k.2).2)) := by
 rw [rVars, if_neg (by rw [h1]; simp)] at h
 refine ⟨fun n e => by rw [h, e]; rfl, fun y e => ?_⟩
 rw [e] at h
 dsimp only at h
 refine ⟨fun n e => by rw [h, e]; rfl, fun k e => ?_⟩
 rw [e] at h
 dsimp only at h
 refine ⟨fun e => by rw [h, if_pos e]; rfl, fun e => ?_⟩
 rw [if_neg (by rw [e]; simp)] at h
 rw [h]
 cases rVars R g p (got 41 k.2).2 with
 | error n => rfl
 | ok v => simp [addV]
theorem vars_end {R : RulesZ} {p : PosZ} {g : Nat} {l : Byt} {dn : List BrZ} {O : Except Int (List BrZ × Byt)} (h : O = addV dn (rVars R (g + 1) p l)) (h1 : (got 40 l).1 = false) : O = .ok (dn, (got 40 l).2) := by
 rw [rVars, if_pos h1] at h
 rw [h]
 simp [addV]
end Go.Proofs.YthklhndcdijneaaGreatDoor

/- AnU, RecC, AnV, AnG. -/
import Derived.Test.YtnieifdogllbfaaGreatF19
import Derived.Test.YtnieifdogllbfaaGreatF18
import Derived.Test.YtnieifdogllbfaaGreatF01
import Derived.Test.YtnieifdogllbfaaGreatF03
import Derived.BigQuiet
import Derived.Deep.Cut
import Derived.Deep.QuietTactic
namespace Go.Proofs.YtnieifdogllbfaaGreat
open Go.ChangeShapes Go.WideShapes Go.ChangeAt Go.RowKit
set_option linter.unusedVariables false
/-- how many nodes. -/
theorem flat_grow (l : List BrZ) (p : Int) (out : List NodeZ) : out.length ≤ (flatL l p out).length := by
 obtain ⟨r, h⟩ := flatL_app l p out
 rw [h, List.length_append]; omega
theorem flat_growB (b : BrZ) (p : Int) (out : List NodeZ) : out.length + 1 ≤ (flatB b p out).length := by
 cases b with
 | mk m c ks =>
  rw [flatB]
  have := flat_grow ks (out.length : Int) (out ++ [⟨p, m, c⟩])
  rw [List.length_append] at this
  exact this
/-- the parents of what is laid down. -/
def PAB (b : BrZ) : Prop := ∀ (p : Int) (out : List NodeZ) (k : Nat), out.length ≤ k → k < (flatB b p out).length → (k = out.length ∧ (ndAt (flatB b p out) k).parent = p) ∨ (out.length : Int) ≤ (ndAt (flatB b p out) k).parent
def PAL (l : List BrZ) : Prop := ∀ (p : Int) (out : List NodeZ) (k : Nat), out.length ≤ k → k < (flatL l p out).length → (ndAt (flatL l p out) k).parent = p ∨ (out.length : Int) ≤ (ndAt (flatL l p out) k).parent
theorem pa_mk (m : MoveZ) (c : ByteArray) (ks : List BrZ) (ih : PAL ks) : PAB (.mk m c ks) := by
 intro p out k h1 h2
 rw [flatB] at h2 ⊢
 have hl : (out ++ [(⟨p, m, c⟩ : NodeZ)]).length = out.length + 1 := by rw [List.length_append]; rfl
 by_cases e : k = out.length
 ·subst e
  obtain ⟨r, hr⟩ := flatL_app ks (out.length : Int) (out ++ [⟨p, m, c⟩])
  refine .inl ⟨rfl, ?_⟩
  rw [hr, nd_low _ _ _ (by omega), nd_new]
 ·rcases ih (out.length : Int) (out ++ [⟨p, m, c⟩]) k (by omega) h2 with h | h
  ·exact .inr (by rw [h]; exact Int.le_refl _)
  ·exact .inr (by omega)
theorem pa_cons (b : BrZ) (l : List BrZ) (h1 : PAB b) (h2 : PAL l) : PAL (b :: l) := by
 intro p out k q1 q2
 rw [flatL] at q2 ⊢
 have hg := flat_growB b p out
 by_cases e : k < (flatB b p out).length
 ·obtain ⟨r, hr⟩ := flatL_app l p (flatB b p out)
  rw [hr, nd_low _ _ _ e]
  rcases h1 p out k q1 e with h | h
  ·exact .inl h.2
  ·exact .inr h
 ·rcases h2 p (flatB b p out) k (by omega) q2 with h | h
  ·exact .inl h
  ·exact .inr (by omega)
theorem paL : ∀ l, PAL l := br_indL pa_mk (fun p out k h1 h2 => by rw [flatL] at h2; omega) pa_cons
theorem paB : ∀ b, PAB b := br_indB pa_mk (fun p out k h1 h2 => by rw [flatL] at h2; omega) pa_cons
theorem back_snoc {out : List NodeZ} (hb : Back out out.length) {p : Int} (hp : p < out.length) (m : MoveZ) (c : ByteArray) : Back (out ++ [(⟨p, m, c⟩ : NodeZ)]) (out ++ [(⟨p, m, c⟩ : NodeZ)]).length := by
 intro k hk
 rw [List.length_append] at hk
 by_cases e : k < out.length
 ·rw [nd_low out _ k e]; exact hb k e
 ·have ek : k = out.length := by have : k < out.length + 1 := hk; omega
  subst ek
  rw [nd_new]; exact hp
def BKB (b : BrZ) : Prop := ∀ (p : Int) (out : List NodeZ), Back out out.length → p < out.length → Back (flatB b p out) (flatB b p out).length
def BKL (l : List BrZ) : Prop := ∀ (p : Int) (out : List NodeZ), Back out out.length → p < out.length → Back (flatL l p out) (flatL l p out).length
theorem bk_mk (m : MoveZ) (c : ByteArray) (ks : List BrZ) (ih : BKL ks) : BKB (.mk m c ks) := by
 intro p out hb hp
 rw [flatB]
 exact ih _ _ (back_snoc hb hp m c) (by rw [List.length_append]; show (out.length : Int) < ((out.length + 1 : Nat) : Int); omega)
theorem bk_cons (b : BrZ) (l : List BrZ) (h1 : BKB b) (h2 : BKL l) : BKL (b :: l) := by
 intro p out hb hp
 rw [flatL]
 have := flat_growB b p out
 exact h2 p _ (h1 p out hb hp) (by omega)
theorem bkB : ∀ b, BKB b := br_indB bk_mk (fun p out h _ => by rw [flatL]; exact h) bk_cons
/-- laid down within more, the trees are read again. -/
def TFB (b : BrZ) : Prop := ∀ (p : Int) (out r : List NodeZ) (f : Nat), Back out out.length → -1 ≤ p → p < out.length → (flatB b p out).length ≤ out.length + f + 1 → (∀ k, (flatB b p out).length ≤ k → k < (flatB b p out ++ r).length → (ndAt (flatB b p out ++ r) k).parent < out.length ∨ ((flatB b p out).length : Int) ≤ (ndAt (flatB b p out ++ r) k).parent) → brOf (flatB b p out ++ r) f out.length = b
def TFL (l : List BrZ) : Prop := ∀ (p : Int) (out r : List NodeZ) (f : Nat), Back out out.length → -1 ≤ p → p < out.length → (flatL l p out).length ≤ out.length + f + 1 → (∀ k, (flatL l p out).length ≤ k → k < (flatL l p out ++ r).length → (ndAt (flatL l p out ++ r) k).parent < out.length ∨ ((flatL l p out).length : Int) ≤ (ndAt (flatL l p out ++ r) k).parent) → (kidsIn (flatL l p out ++ r) p out.length (flatL l p out).length).map (brOf (flatL l p out ++ r) f) = l
theorem tf_mk (m : MoveZ) (c : ByteArray) (ks : List BrZ) (ih : TFL ks) : TFB (.mk m c ks) := by
 intro p out r f hb0 p1 p2 hf hs
 have hl : (out ++ [(⟨p, m, c⟩ : NodeZ)]).length = out.length + 1 := by rw [List.length_append]; rfl
 have hfl : flatB (.mk m c ks) p out = flatL ks (out.length : Int) (out ++ [⟨p, m, c⟩]) := by rw [flatB]
 rw [hfl] at hf hs ⊢
 have hg := flat_grow ks (out.length : Int) (out ++ [⟨p, m, c⟩])
 have hnd : ndAt (flatL ks (out.length : Int) (out ++ [⟨p, m, c⟩]) ++ r) out.length = ⟨p, m, c⟩ := by
  obtain ⟨s, hr⟩ := flatL_app ks (out.length : Int) (out ++ [⟨p, m, c⟩])
  rw [nd_low _ _ _ (by omega), hr, nd_low _ _ _ (by omega), nd_new]
 unfold brOf
 rw [hnd]
 show BrZ.mk m c (treeF _ f (out.length : Int)) = BrZ.mk m c ks
 congr 1
 cases f with
 | zero =>
  have e0 : (flatL ks (out.length : Int) (out ++ [⟨p, m, c⟩])).length = (out ++ [(⟨p, m, c⟩ : NodeZ)]).length := by omega
  cases ks with
  | nil => rw [treeF]
  | cons b l =>
   rw [flatL] at e0
   have h1 := flat_growB b (out.length : Int) (out ++ [⟨p, m, c⟩])
   have h2 := flat_grow l (out.length : Int) (flatB b (out.length : Int) (out ++ [⟨p, m, c⟩]))
   omega
 | succ f =>
  have pk := paL ks (out.length : Int) (out ++ [⟨p, m, c⟩])
  have ht := ih (out.length : Int) (out ++ [⟨p, m, c⟩]) r f (back_snoc hb0 p2 m c) (by omega) (by omega) (by omega) (fun k h1 h2 => by
   rcases hs k h1 h2 with h | h
   ·exact .inl (by omega)
   ·exact .inr h)
  rw [treeF, kidsZ_in _ (out.length : Int) (out.length + 1) (flatL ks (out.length : Int) (out ++ [⟨p, m, c⟩])).length (by omega) (by rw [List.length_append]; omega) (fun k hk he => ?_)]
  ·rw [hl] at ht
   exact ht
  ·by_cases h3 : (flatL ks (out.length : Int) (out ++ [⟨p, m, c⟩])).length ≤ k
   ·rcases hs k h3 hk with h | h <;> omega
   ·refine ⟨?_, by omega⟩
    rcases Nat.lt_or_ge out.length k with h | h
    ·exact h
    ·by_cases e : k = out.length
     ·subst e
      rw [hnd] at he
      have : p = (out.length : Int) := he
      omega
     ·obtain ⟨s, hr⟩ := flatL_app ks (out.length : Int) (out ++ [⟨p, m, c⟩])
      exfalso
      rw [nd_low _ _ _ (by omega), hr, nd_low _ _ _ (by omega), nd_low _ _ _ (by omega)] at he
      have := hb0 k (by omega)
      omega
theorem tf_cons (b : BrZ) (l : List BrZ) (h1 : TFB b) (h2 : TFL l) : TFL (b :: l) := by
 intro p out r f hb0 p1 p2 hf hs
 have hfl : flatL (b :: l) p out = flatL l p (flatB b p out) := by rw [flatL]
 rw [hfl] at hf hs ⊢
 have g1 := flat_growB b p out
 have g2 := flat_grow l p (flatB b p out)
 have a1 := paB b p out
 have a2 := paL l p (flatB b p out)
 have bk := bkB b p out hb0 p2
 obtain ⟨s, hr⟩ := flatL_app l p (flatB b p out)
 have e2 := h2 p (flatB b p out) r f bk p1 (by omega) (by omega) (fun k q1 q2 => by
  rcases hs k q1 q2 with h | h
  ·exact .inl (by omega)
  ·exact .inr h)
 have e1 := h1 p out (s ++ r) f hb0 p1 p2 (by omega) (fun k q1 q2 => by
  rw [← List.append_assoc, ← hr] at q2 ⊢
  by_cases hk : k < (flatL l p (flatB b p out)).length
  ·rw [nd_low _ _ _ hk]
   rcases a2 k q1 hk with h | h
   ·exact .inl (by omega)
   ·exact .inr h
  ·rcases hs k (by omega) q2 with h | h
   ·exact .inl h
   ·exact .inr (by omega))
 rw [← List.append_assoc, ← hr] at e1
 have low : ∀ k, k < (flatB b p out).length → ndAt (flatL l p (flatB b p out) ++ r) k = ndAt (flatB b p out) k := fun k hk => by rw [nd_low _ _ _ (by omega), hr, nd_low _ _ _ hk]
 have hk0 : (ndAt (flatL l p (flatB b p out) ++ r) out.length).parent = p := by
  rw [low _ (by omega)]
  rcases a1 out.length (Nat.le_refl _) (by omega) with h | h
  ·exact h.2
  ·have := bk out.length (by omega)
   cases b with
   | mk m c ks =>
    rw [flatB]
    obtain ⟨s2, hr2⟩ := flatL_app ks (out.length : Int) (out ++ [⟨p, m, c⟩])
    rw [hr2, nd_low _ _ _ (by rw [List.length_append]; show out.length < out.length + 1; omega), nd_new]
 rw [kidsIn_split _ p out.length (out.length + 1) _ (by omega) (by omega), kidsIn_split _ p (out.length + 1) (flatB b p out).length _ (by omega) g2, kidsIn_one _ p _ hk0, kidsIn_none _ p (out.length + 1) (flatB b p out).length (fun k q1 q2 he => by
  rw [low k q2] at he
  rcases a1 k (by omega) q2 with h | h
  ·omega
  ·omega)]
 rw [List.nil_append, List.map_append, List.map_cons, List.map_nil, e1, e2]
 rfl
theorem tfL : ∀ l, TFL l := br_indL tf_mk (fun p out r f _ _ _ _ _ => by
 have : flatL [] p out = out := by rw [flatL]
 rw [this, kidsIn_nil]; rfl) tf_cons
/-- trees laid flat are found again. -/
theorem tree_flat (l : List BrZ) : treeF (flatL l (-1) []) ((flatL l (-1) []).length + 1) (-1) = l := by
 have := tfL l (-1) [] [] (flatL l (-1) []).length (fun k h => absurd h (Nat.not_lt_zero _)) (by decide) (by decide) (by simp) (fun k h1 h2 => by rw [List.append_nil] at h2; omega)
 rw [List.append_nil] at this
 rw [treeF, kidsZ_in _ (-1) 0 (flatL l (-1) []).length (Nat.zero_le _) (Nat.le_refl _) (fun k hk _ => ⟨Nat.zero_le _, hk⟩)]
 exact this
end Go.Proofs.YtnieifdogllbfaaGreat
namespace Go.Proofs.YtnieifdogllbfaaGreat
open Go.ChangeShapes Go.WideShapes Go.ChangeAt Go.RowKit
set_option linter.unusedVariables false
theorem infoMoveR : (Tryz.prog.info? 68).map (fun i => (i.zero, i.size, i.bytes)) = some (some (.agg #[.int .i64 0, .int .i64 0, .int .i64 0]), 3, 24) := by kernel_rfl
def mvOf (ns : List NodeZ) (l : List Nat) : List MoveZ := l.map fun k => (ndAt ns k).m
theorem wayI_eq (ns : List NodeZ) (n : Int) : wayI ns n = (mvOf ns (upL ns n)).reverse := rfl
set_option maxRecDepth 100000 in
set_option maxHeartbeats 4000000 in
theorem Way_any (X : RecZ) (vt vn : Value) (nd i : Nat) (w : World) (h : RdX w X vt vn) (hb : Back X.nodes i) (hi : i ≤ X.nodes.length) (hl : nd < i) (hm : X.nodes.length ≤ 1000) :
  Calls Tryz.prog 35 #[recV X vt vn, .int .i64 nd] w fun e w' => ∃ v', e = .returned v' ∧ w'.ownsRow w.heap.size 68 3 v' (wayI X.nodes nd).length (flatM (wayI X.nodes nd)) ∧ Below w.heap.size w w' := by
 obtain ⟨na, nc, rfl, h1, h2⟩ := h.2.1.form
 unfold maxLen at h2
 have HR := Lib.hid h.2.1
 have HK := Lib.hid hb
 clear h hb
 unfold recV
 go_enter Tryz.func35, Tryz.ntmps35
 go_upto_region 1 with (fail)
 have hb0 := (Box.new' w w.heap.size [vt, .string X.comment, .slice na X.nodes.length nc, .int .i64 X.result] 30 rfl)
 have HB : Hid (Below w.heap.size w (w.alloc (.cells #[vt, .string X.comment, .slice na X.nodes.length nc, .int .i64 X.result] 30))) := Lib.hid ((Below.refl w.heap.size w).alloc (Nat.le_refl _) _)
 obtain ⟨bb, hbb⟩ : ∃ bb, bb = w.heap.size := ⟨_, rfl⟩
 rw [← hbb] at HB hb0 ⊢
 generalize (w.alloc (.cells #[vt, .string X.comment, .slice na X.nodes.length nc, .int .i64 X.result] 30)) = w0 at *
 have HX := Lib.hid hb0
 have hw0 := hb0.lt
 have hbb1 : w.heap.size ≤ bb := by omega
 have HNil : Hid (w0.ownsRow (bb + 1) 68 3 (.slice none 0 0) 0 (flatM [])) := Lib.hid (World.ownsRow_nil _ _ _ _)
 clear hb0 hbb
 go_wp2_with fail
 go_loopw [6, 5] (fun v6 v5 wr => ∃ (n : Int) (ms : List MoveZ) (o5 : Value), o5 = v5 ∧ v6 = .int .i64 n ∧ n < i ∧ Hid (mvOf X.nodes (upL X.nodes nd) = ms ++ mvOf X.nodes (upL X.nodes n)) ∧ ms.length + (n + 1).toNat ≤ nd + 1 ∧ Hid (wr.ownsRow (bb + 1) 68 3 o5 ms.length (flatM ms)) ∧ Hid (Below bb w wr) ∧ Hid (Box wr bb [vt, .string X.comment, .slice na X.nodes.length nc, .int .i64 X.result] 30)) (fun v _ _ => (intOf v + 1).toNat)
 case atStart => exact ⟨nd, [], _, rfl, rfl, by omega, Lib.hid rfl, by simp, HNil, HB, HX⟩
 case round =>
  obtain ⟨n, ms, o5, rfl, rfl, hn, HU, hlen, HO, HBr, HXr⟩ := hrel
  have hsr := HXr.out.lt
  by_cases h0 : 0 ≤ n
  ·obtain ⟨m, rfl⟩ : ∃ m : Nat, n = (m : Int) := ⟨n.toNat, by omega⟩
   obtain ⟨g, o, rfl, hg, hc⟩ := nodes_some HR.out (by omega)
   obtain ⟨e0, e1, e2, e3, -⟩ := hc m (by omega)
   have hgb : g < bb := by omega
   have c1 := (HBr.out.cell (p := ⟨g, o + m * 5 + 1, none⟩) hgb).trans e1
   have c2 := (HBr.out.cell (p := ⟨g, o + m * 5 + 2, none⟩) hgb).trans e2
   have c3 := (HBr.out.cell (p := ⟨g, o + m * 5 + 3, none⟩) hgb).trans e3
   have HE0 := Lib.hid e0
   have HC := Lib.hid (up_cons HK.out m (by omega))
   have hpm := HK.out m (by omega)
   have HU2 : Hid (mvOf X.nodes (upL X.nodes nd) = (ms ++ [(ndAt X.nodes m).m]) ++ mvOf X.nodes (upL X.nodes (ndAt X.nodes m).parent)) := Lib.hid (by rw [HU.out, HC.out, List.append_assoc]; rfl)
   clear hc HU HC e0 e1 e2 e3
   generalize (ndAt X.nodes m).parent = p at *
   generalize (ndAt X.nodes m).m = mv at *
   have hml : (m : Int) < (X.nodes.length : Int) := by omega
   have q2 := HXr.out.cell 2 rfl
   obtain ⟨oa, oc, rfl⟩ := own_form2 HO.out
   have hrs : bb + 1 ≤ wr.heap.size := by omega
   have hgw : g < wr.heap.size := by omega
   go_wp2_with (at_builtin; refine app_new 43 68 (.agg #[.int .i64 0, .int .i64 0, .int .i64 0]) 3 24 infoMoveR Tryz.underlying43 rfl (by decide) (by rfl) _ _ (by rfl) (bb + 1) _ ms.length (flatM ms) [.int .i64 mv.src, .int .i64 mv.dst, .int .i64 mv.piece] wr HO.out hrs rfl three_ints (by omega) (by omega) (by rfl) (by rfl) ?_)
   intro g3 cap3 w3 hown3 hkeep3 hgr3
   have HB3 := Lib.hid (hkeep3.below HBr.out (by omega))
   have HX3 := Lib.hid ((HXr.out.alloc (.cells #[.int .i64 mv.src, .int .i64 mv.dst, .int .i64 mv.piece] 68)).grown hgr3 (fun e => by have := (HO.out.lt bb e.symm).1; omega))
   have HO3 : Hid (w3.ownsRow (bb + 1) 68 3 (.slice (some ⟨g3, 0, none⟩) (ms.length + 1) cap3) (ms ++ [mv]).length (flatM (ms ++ [mv]))) := Lib.hid (by
    rw [← flatM_append, List.length_append]
    exact hown3)
   have c0 := (HB3.out.cell (p := ⟨g, o + m * 5, none⟩) hgb).trans HE0.out
   have q23 := HX3.out.cell 2 rfl
   have hg3 : g < w3.heap.size := by have := HX3.out.lt; omega
   have hb3 := HX3.out.lt
   clear hown3 hkeep3 hgr3 q2 c1 c2 c3 HE0
   go_wp2_with fail
   go_roundw
   case rel => exact ⟨p, ms ++ [mv], _, rfl, rfl, by omega, HU2, by rw [List.length_append]; simp; omega, HO3, HB3, HX3⟩
   case measure => simp [intOf]; omega
  ·have HU2 : Hid (mvOf X.nodes (upL X.nodes nd) = ms) := Lib.hid (by rw [HU.out, up_neg X.nodes n (by omega)]; exact List.append_nil _)
   have hne : 0 < ms.length := by
    rw [← HU2.out, up_cons HK.out nd hl]
    simp [mvOf]
   obtain ⟨G, cc, rfl⟩ := own_some HO.out hne
   have HRev := Lib.hid (ReverseM_any ms G ms.length cc bb w wr (own_base HO.out (Nat.le_succ bb)) HBr.out (by omega))
   go_upto_region 7 with (go_at_call 58; refine HRev.out.mono ?_; rintro e w5 ⟨rfl, ho5, hb5⟩; have HO5 := Lib.hid ho5; have HB5 := Lib.hid hb5; clear ho5 hb5)
   go_wp2_with fail
   go_ret
   refine ⟨_, rfl, ?_, HB5.out.mono hbb1⟩
   rw [wayI_eq, HU2.out, List.length_reverse]
   exact own_base HO5.out hbb1
end Go.Proofs.YtnieifdogllbfaaGreat
namespace Go.Proofs.YtnieifdogllbfaaGreat
open Go.ChangeShapes Go.WideShapes Go.ChangeAt Go.RowKit
set_option linter.unusedVariables false
mutual
def firstB : BrZ → List MoveZ
 | .mk m _ ks => m :: firstL ks
def firstL : List BrZ → List MoveZ
 | [] => []
 | b :: _ => firstB b
end
/-- those after p, the one on the way first. -/
def ordP (ns : List NodeZ) (node : Nat) (p : Int) : List Nat :=
 match (upL ns (node : Int)).find? (fun k => (ndAt ns k).parent == p) with
 | some c => c :: (kidsZ ns p).filter fun k => k != c
 | none => kidsZ ns p
def treeP (ns : List NodeZ) (node : Nat) : Nat → Int → List BrZ
 | 0, _ => []
 | f + 1, p => (ordP ns node p).map fun k => .mk (ndAt ns k).m (ndAt ns k).comment (treeP ns node f (k : Int))
def brP (ns : List NodeZ) (node f k : Nat) : BrZ := .mk (ndAt ns k).m (ndAt ns k).comment (treeP ns node f (k : Int))
theorem up_mem {ns : List NodeZ} {N : Nat} (hb : Back ns N) (n k : Nat) (hn : n < N) (h : k ∈ upL ns (n : Int)) : k < N := upZ_lt hb _ _ k (by omega) h
/-- ordP holds the same, each once. -/
theorem ordP_mem {ns : List NodeZ} (hb : Back ns ns.length) (node : Nat) (hn : node < ns.length) (p : Int) (k : Nat) : k ∈ ordP ns node p ↔ k ∈ kidsZ ns p := by
 unfold ordP
 cases h : (upL ns (node : Int)).find? (fun k => (ndAt ns k).parent == p) with
 | none => exact Iff.rfl
 | some c =>
  have hc := List.mem_of_find?_eq_some h
  have hp := List.find?_some h
  have hck : c ∈ kidsZ ns p := by
   unfold kidsZ
   rw [List.mem_filter, List.mem_range]
   exact ⟨up_mem hb node c hn hc, hp⟩
  show k ∈ c :: (kidsZ ns p).filter (fun k => k != c) ↔ _
  rw [List.mem_cons, List.mem_filter]
  constructor
  ·rintro (rfl | h)
   ·exact hck
   ·exact h.1
  ·intro hk
   by_cases e : k = c
   ·exact .inl e
   ·exact .inr ⟨hk, by simpa using e⟩
theorem ordP_nodup {ns : List NodeZ} (node : Nat) (p : Int) : (ordP ns node p).Nodup := by
 have hk : (kidsZ ns p).Nodup := (kids_inc ns p).imp (fun h => Nat.ne_of_lt h)
 unfold ordP
 cases (upL ns (node : Int)).find? (fun k => (ndAt ns k).parent == p) with
 | none => exact hk
 | some c =>
  show (c :: (kidsZ ns p).filter (fun k => k != c)).Nodup
  rw [List.nodup_cons]
  exact ⟨fun h => by have := (List.mem_filter.1 h).2; simp at this, hk.filter _⟩
theorem dist_mapP {ns : List NodeZ} {node f : Nat} : ∀ (l : List Nat), l.Nodup → (∀ j ∈ l, ∀ k ∈ l, j ≠ k → (ndAt ns j).m ≠ (ndAt ns k).m) → (∀ k ∈ l, distL (treeP ns node f (k : Int))) → distL (l.map (brP ns node f))
 | [], _, _, _ => by rw [List.map_nil, distL]; trivial
 | k :: l, hp, hm, hd => by
  rw [List.nodup_cons] at hp
  rw [List.map_cons, distL]
  refine ⟨fun x hx => ?_, by unfold brP; rw [distB]; exact hd k (List.mem_cons_self ..), dist_mapP l hp.2 (fun j hj q hq => hm j (List.mem_cons_of_mem _ hj) q (List.mem_cons_of_mem _ hq)) (fun q hq => hd q (List.mem_cons_of_mem _ hq))⟩
  obtain ⟨j, hj, rfl⟩ := List.mem_map.1 hx
  exact hm j (List.mem_cons_of_mem _ hj) k (List.mem_cons_self ..) (fun e => hp.1 (by rw [← e]; exact hj))
theorem twin_ne {R : RulesZ} {ns : List NodeZ} (h : NodesOK R ns ns.length) {p : Int} {j k : Nat} (hj : j ∈ kidsZ ns p) (hk : k ∈ kidsZ ns p) (hne : j ≠ k) : (ndAt ns j).m ≠ (ndAt ns k).m := by
 obtain ⟨a1, a2⟩ := kids_mem hj
 obtain ⟨b1, b2⟩ := kids_mem hk
 rcases Nat.lt_or_gt_of_ne hne with hl | hl
 ·exact h.twin k j hl b1 (a2.trans b2.symm)
 ·exact fun e => h.twin j k hl a1 (b2.trans a2.symm) e.symm
theorem dist_treeP {R : RulesZ} {ns : List NodeZ} (h : NodesOK R ns ns.length) (node : Nat) (hn : node < ns.length) : ∀ (f : Nat) (p : Int), distL (treeP ns node f p)
 | 0, p => by rw [treeP, distL]; trivial
 | f + 1, p => by
  rw [treeP]
  exact dist_mapP _ (ordP_nodup node p) (fun j hj k hk hjk => twin_ne h ((ordP_mem h.back node hn p j).1 hj) ((ordP_mem h.back node hn p k).1 hk) hjk) (fun k _ => dist_treeP h node hn f k)
theorem cok_mapP {ns : List NodeZ} {node f : Nat} : ∀ (l : List Nat), (∀ k ∈ l, cmtErr (ndAt ns k).comment = 0 ∧ cokL (treeP ns node f (k : Int))) → cokL (l.map (brP ns node f))
 | [], _ => by rw [List.map_nil, cokL]; trivial
 | k :: l, h => by
  rw [List.map_cons, cokL]
  exact ⟨by unfold brP; rw [cokB]; exact h k (List.mem_cons_self ..), cok_mapP l (fun q hq => h q (List.mem_cons_of_mem _ hq))⟩
theorem cok_treeP {ns : List NodeZ} (hb : Back ns ns.length) (node : Nat) (hn : node < ns.length) (h : ∀ i, i < ns.length → cmtErr (ndAt ns i).comment = 0) : ∀ (f : Nat) (p : Int), cokL (treeP ns node f p)
 | 0, p => by rw [treeP, cokL]; trivial
 | f + 1, p => by
  rw [treeP]
  exact cok_mapP _ (fun k hk => ⟨h k (kids_mem ((ordP_mem hb node hn p k).1 hk)).1, cok_treeP hb node hn h f k⟩)
theorem ways_prom {R : RulesZ} {ns : List NodeZ} (h : NodesOK R ns ns.length) (node : Nat) (hn : node < ns.length) : ∀ (f : Nat) (p : Int) (w : List MoveZ), w ∈ waysL (wayI ns p) (treeP ns node f p) → ∃ k, k < ns.length ∧ w = wayI ns (k : Int)
 | 0, p, w, hw => by rw [treeP, waysL] at hw; cases hw
 | f + 1, p, w, hw => by
  rw [treeP, ways_map] at hw
  obtain ⟨k, hk, hw⟩ := hw
  obtain ⟨h1, h2⟩ := kids_mem ((ordP_mem h.back node hn p k).1 hk)
  have hway := way_snoc h.back k h1
  rw [h2] at hway
  rw [waysB, ← hway, List.mem_cons] at hw
  rcases hw with rfl | hw
  ·exact ⟨k, h1, rfl⟩
  ·exact ways_prom h node hn f (k : Int) w hw
def promT (X : RecZ) (node : Nat) : List BrZ := treeP X.nodes node (X.nodes.length + 1) (-1)
theorem prom_ok {R : RulesZ} {X : RecZ} (h : recErr R X = 0) (node : Nat) (hn : node < X.nodes.length) : TreesOK R (promT X node) := by
 refine ⟨dist_treeP (rec_nodes h).2.1 node hn _ _, fun w hw => ?_, cok_treeP (rec_nodes h).2.1.back node hn (rec_cmt h).1 _ _⟩
 have e : wayI X.nodes (-1) = [] := way_neg _ _ (by decide)
 rw [← e] at hw
 obtain ⟨k, hk, rfl⟩ := ways_prom (rec_nodes h).2.1 node hn _ _ w hw
 exact (rec_nodes h).2.1.run k hk
/-- a chain down from p, each one first among those after the one above. -/
inductive ChainP (ns : List NodeZ) (node : Nat) : Int → List Nat → Prop where
 | nil (p : Int) : ChainP ns node p []
 | cons (p : Int) (c : Nat) (l : List Nat) (h1 : ∃ t, ordP ns node p = c :: t) (h2 : ChainP ns node (c : Int) l) : ChainP ns node p (c :: l)
theorem ChainP.first {ns : List NodeZ} {node : Nat} {p : Int} {l : List Nat} (h : ChainP ns node p l) : ∀ f, l.length ≤ f → ∃ t, firstL (treeP ns node f p) = mvOf ns l ++ t := by
 induction h with
 | nil p => intro f _; exact ⟨_, rfl⟩
 | cons p c l h1 h2 ih =>
  intro f hf
  obtain ⟨g, rfl⟩ : ∃ g, f = g + 1 := ⟨f - 1, by simp only [List.length_cons] at hf; omega⟩
  obtain ⟨t, ht⟩ := h1
  obtain ⟨s, hs⟩ := ih g (by simp only [List.length_cons] at hf; omega)
  refine ⟨s, ?_⟩
  rw [treeP, ht, List.map_cons, firstL, firstB, hs]
  rfl
theorem upL_nodup {ns : List NodeZ} {N : Nat} (hb : Back ns N) : ∀ (n : Nat), n < N → ∀ k ∈ upL ns (n : Int), k ≤ n := by
 intro n
 induction n using Nat.strongRecOn with
 | ind n ih =>
  intro hn k hk
  rw [up_cons hb n hn, List.mem_cons] at hk
  rcases hk with rfl | hk
  ·exact Nat.le_refl _
  ·have hp := hb n hn
   by_cases hz : (ndAt ns n).parent < 0
   ·rw [up_neg ns _ hz] at hk; cases hk
   ·have e : (ndAt ns n).parent = (((ndAt ns n).parent.toNat : Nat) : Int) := by omega
    rw [e] at hk
    have := ih _ (by omega) (by omega) k hk
    omega
theorem up_nod {ns : List NodeZ} {N : Nat} (hb : Back ns N) : ∀ (n : Nat), n < N → (upL ns (n : Int)).Nodup := by
 intro n
 induction n using Nat.strongRecOn with
 | ind n ih =>
  intro hn
  have hp := hb n hn
  rw [up_cons hb n hn, List.nodup_cons]
  by_cases hz : (ndAt ns n).parent < 0
  ·rw [up_neg ns _ hz]; exact ⟨(by intro h; cases h), List.nodup_nil⟩
  ·have e : (ndAt ns n).parent = (((ndAt ns n).parent.toNat : Nat) : Int) := by omega
   rw [e]
   refine ⟨fun h => ?_, ih _ (by omega) (by omega)⟩
   have := upL_nodup hb _ (by omega) n h
   omega
/-- on the way up from the node, each is the first after its parent. -/
theorem up_first {ns : List NodeZ} (hb : Back ns ns.length) (hl : ∀ k, k < ns.length → -1 ≤ (ndAt ns k).parent) (node : Nat) (hn : node < ns.length) (c : Nat) (hc : c ∈ upL ns (node : Int)) : ∃ t, ordP ns node (ndAt ns c).parent = c :: t := by
 -- two on the way with one parent are one
 have key : ∀ (n : Nat), n < ns.length → ∀ a ∈ upL ns (n : Int), ∀ b ∈ upL ns (n : Int), (ndAt ns a).parent = (ndAt ns b).parent → a = b := by
  intro n
  induction n using Nat.strongRecOn with
  | ind n ih =>
   intro hn a ha b hb' e
   rw [up_cons hb n hn, List.mem_cons] at ha hb'
   have hp := hb n hn
   by_cases hz : (ndAt ns n).parent < 0
   ·rw [up_neg ns _ hz] at ha hb'
    rcases ha with rfl | ha
    ·rcases hb' with rfl | hb'
     ·rfl
     ·cases hb'
    ·cases ha
   ·have e2 : (ndAt ns n).parent = (((ndAt ns n).parent.toNat : Nat) : Int) := by omega
    rw [e2] at ha hb'
    have low : ∀ k ∈ upL ns (((ndAt ns n).parent.toNat : Nat) : Int), k ≤ (ndAt ns n).parent.toNat ∧ (ndAt ns k).parent < (ndAt ns n).parent := fun k hk => by
     have h1 := upL_nodup hb (ndAt ns n).parent.toNat (by omega) k hk
     have h2 := hb k (by omega)
     exact ⟨h1, by omega⟩
    rcases ha with rfl | ha
    ·rcases hb' with rfl | hb'
     ·rfl
     ·have := (low b hb').2; omega
    ·rcases hb' with rfl | hb'
     ·have := (low a ha).2; omega
     ·exact ih _ (by omega) (by omega) a ha b hb' e
 unfold ordP
 cases h : (upL ns (node : Int)).find? (fun k => (ndAt ns k).parent == (ndAt ns c).parent) with
 | none =>
  have := List.find?_eq_none.1 h c hc
  simp at this
 | some d =>
  have hd := List.mem_of_find?_eq_some h
  have hp := List.find?_some h
  simp only [beq_iff_eq] at hp
  obtain rfl := key node hn d hd c hc hp
  exact ⟨_, rfl⟩
/-- the way to a promoted node begins the main line. -/
theorem prom_first {R : RulesZ} {X : RecZ} (h : recErr R X = 0) (node : Nat) (hn : node < X.nodes.length) : ∃ t, firstL (promT X node) = wayI X.nodes (node : Int) ++ t := by
 have hN := (rec_nodes h).2.1
 have main : ∀ (n : Nat), n < X.nodes.length → (∀ k ∈ upL X.nodes (n : Int), k ∈ upL X.nodes (node : Int)) → ∀ l, ChainP X.nodes node (n : Int) l → ChainP X.nodes node (-1) ((upL X.nodes (n : Int)).reverse ++ l) := by
  intro n
  induction n using Nat.strongRecOn with
  | ind n ih =>
   intro hn' hs l hl
   have hc := up_cons hN.back n hn'
   have hp := hN.back n hn'
   have hlo := hN.low n hn'
   have hcl : ChainP X.nodes node (ndAt X.nodes n).parent (n :: l) := .cons _ _ _ (up_first hN.back hN.low node hn n (hs n (by rw [hc]; exact List.mem_cons_self ..))) hl
   rw [hc, List.reverse_cons, List.append_assoc]
   show ChainP X.nodes node (-1) (_ ++ (n :: l))
   by_cases hz : (ndAt X.nodes n).parent < 0
   ·have e : (ndAt X.nodes n).parent = -1 := by omega
    rw [up_neg X.nodes _ hz]
    rw [e] at hcl
    exact hcl
   ·have e2 : (ndAt X.nodes n).parent = (((ndAt X.nodes n).parent.toNat : Nat) : Int) := by omega
    rw [e2] at hcl ⊢
    refine ih _ (by omega) (by omega) (fun k hk => hs k ?_) _ hcl
    rw [hc, e2]
    exact List.mem_cons_of_mem _ hk
 have hch := main node hn (fun k hk => hk) [] (.nil _)
 rw [List.append_nil] at hch
 obtain ⟨t, ht⟩ := hch.first (X.nodes.length + 1) (by
  rw [List.length_reverse]
  have := nodup_len_le (a := upL X.nodes (node : Int)) (b := List.range X.nodes.length) ?_ (fun k hk => List.mem_range.2 (up_mem hN.back node k hn hk))
  ·rw [List.length_range] at this; omega
  ·exact up_nod hN.back node hn)
 refine ⟨t, ?_⟩
 show firstL (treeP X.nodes node (X.nodes.length + 1) (-1)) = _
 rw [ht]
 congr 1
 unfold mvOf
 rw [wayI_eq]
 unfold mvOf
 rw [List.map_reverse]
end Go.Proofs.YtnieifdogllbfaaGreat
namespace Go.Proofs.YtnieifdogllbfaaGreat
open Go.ChangeShapes Go.WideShapes Go.ChangeAt Go.RowKit
set_option linter.unusedVariables false
/-- the trees, those after p in the order ord p. -/
def treeO (ns : List NodeZ) (ord : Int → List Nat) : Nat → Int → List BrZ
 | 0, _ => []
 | f + 1, p => (ord p).map fun k => .mk (ndAt ns k).m (ndAt ns k).comment (treeO ns ord f (k : Int))
theorem treeO_prom (ns : List NodeZ) (node : Nat) : ∀ (f : Nat) (p : Int), treeO ns (ordP ns node) f p = treeP ns node f p
 | 0, _ => rfl
 | f + 1, p => by rw [treeO, treeP]; refine List.map_congr_left fun k _ => ?_; rw [treeO_prom ns node f k]
def ptrV (g : Nat) : Value := .pointer (some ⟨g, 0, none⟩)
variable {q : Nat → Prop} {tb te : TypeId}
/-- node k lies in block A k, with the slice K k of those after it. -/
structure NdAt (q : Nat → Prop) (tb te : TypeId) (base : Nat) (w : World) (ns : List NodeZ) (ord : Int → List Nat) (A : Nat → Nat) (K : Nat → Value) (k : Nat) : Prop where
 lo : base ≤ A k
 box : Box w (A k) [.int .i64 (ndAt ns k).m.src, .int .i64 (ndAt ns k).m.dst, .int .i64 (ndAt ns k).m.piece, .string (ndAt ns k).comment, K k] tb
 sz : (ndAt ns k).comment.size ≤ maxLen
 row : w.ownsRow base te 1 (K k) (ord (k : Int)).length ((ord (k : Int)).map fun j => ptrV (A j))
 nil : q (A k) ∧ ∀ g, (K k).ownBlock = some g → q g
theorem NdAt.keep {base : Nat} {w w' : World} {ns : List NodeZ} {ord : Int → List Nat} {A : Nat → Nat} {K : Nat → Value} {k : Nat} (h : NdAt q tb te base w ns ord A K k) (hk : Keep base w w') : NdAt q tb te base w' ns ord A K k :=
 ⟨h.lo, (hk.block _ h.lo h.box.lt).trans h.box, h.sz, own_keep h.row hk, h.nil⟩
theorem brs_map {base : Nat} {w : World} (g : Nat → BrZ) (A : Nat → Nat) : ∀ (l : List Nat), (∀ k ∈ l, BrAt q tb te base w (g k) (ptrV (A k))) → BrsAt q tb te base w (l.map g) (l.map fun k => ptrV (A k))
 | [], _ => by rw [List.map_nil, List.map_nil, BrsAt]
 | k :: l, h => by
  rw [List.map_cons, List.map_cons, BrsAt]
  exact ⟨_, _, rfl, h k (List.mem_cons_self ..), brs_map g A l (fun q hq => h q (List.mem_cons_of_mem _ hq))⟩
/-- the nodes are the trees. -/
theorem brs_of {base : Nat} {w : World} {ns : List NodeZ} {ord : Int → List Nat} {A : Nat → Nat} {K : Nat → Value} (ok : Nat → Prop) (hall : ∀ k, ok k → NdAt q tb te base w ns ord A K k) (hdown : ∀ k, ok k → ∀ j ∈ ord (k : Int), ok j ∧ k < j ∧ j < ns.length) : ∀ (f : Nat) (p : Int), (∀ j ∈ ord p, ok j) → (∀ j ∈ ord p, j < ns.length ∧ ns.length ≤ j + f) → BrsAt q tb te base w (treeO ns ord f p) ((ord p).map fun k => ptrV (A k))
 | 0, p, ho, hf => by
  have e : ord p = [] := by
   cases h : ord p with
   | nil => rfl
   | cons j l =>
    have hj : j ∈ ord p := by rw [h]; exact List.mem_cons_self ..
    have h1 := hf j hj
    omega
  rw [e, treeO, List.map_nil, BrsAt]
 | f + 1, p, ho, hf => by
  rw [treeO]
  refine brs_map _ A _ (fun k hk => ?_)
  have hn := hall k (ho k hk)
  rw [BrAt]
  refine ⟨A k, K k, (ord (k : Int)).map (fun j => ptrV (A j)), rfl, hn.lo, hn.box, hn.sz, by rw [List.length_map]; exact hn.row, hn.nil, ?_⟩
  exact brs_of ok hall hdown f (k : Int) (fun j hj => (hdown k (ho k hk) j hj).1) (fun j hj => by have h1 := (hdown k (ho k hk) j hj).2; have h2 := hf k hk; omega)
end Go.Proofs.YtnieifdogllbfaaGreat

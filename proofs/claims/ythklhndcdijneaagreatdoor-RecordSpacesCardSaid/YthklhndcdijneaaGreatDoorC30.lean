/- RdS, RecT, RecU. -/
import Derived.Test.YthklhndcdijneaaGreatDoorC29
import Derived.Test.YthklhndcdijneaaGreatDoorC19
import Derived.Test.YthklhndcdijneaaGreatDoorC01
import Derived.Deep.QuietTactic
import Derived.Test.YthklhndcdijneaaGreatDoorC25
import Derived.BigQuiet
import Derived.Deep.Cut
namespace Go.Proofs.YthklhndcdijneaaGreatDoor
open Go.ChangeShapes Go.WideShapes Go.ChangeAt Go.RowKit
set_option linter.unusedVariables false
mutual
def szB (N : Nat) : BrZ → Prop
 | .mk _ c ks => c.size ≤ N ∧ szL N ks
def szL (N : Nat) : List BrZ → Prop
 | [] => True
 | b :: l => szB N b ∧ szL N l
end
theorem flat_sz {N : Nat} : ∀ (l : List BrZ), szL N l → ∀ (q : Int) (out : List NodeZ), (∀ x ∈ out, x.comment.size ≤ N) → ∀ x ∈ flatL l q out, x.comment.size ≤ N := by
 refine br_indL (PB := fun b => szB N b → ∀ (q : Int) (out : List NodeZ), (∀ x ∈ out, x.comment.size ≤ N) → ∀ x ∈ flatB b q out, x.comment.size ≤ N) (PL := fun l => szL N l → ∀ (q : Int) (out : List NodeZ), (∀ x ∈ out, x.comment.size ≤ N) → ∀ x ∈ flatL l q out, x.comment.size ≤ N) ?_ ?_ ?_
 ·intro m c ks ih h q out ho
  rw [szB] at h
  rw [flatB]
  refine ih h.2 _ _ (fun x hx => ?_)
  rcases List.mem_append.1 hx with h' | h'
  ·exact ho x h'
  ·rw [List.mem_singleton.1 h']; exact h.1
 ·intro _ q out ho
  rw [flatL]; exact ho
 ·intro b l hb hl h q out ho
  rw [szL] at h
  rw [flatL]
  exact hl h.2 _ _ (hb h.1 _ _ ho)
theorem rest_sz (R : RulesZ) (N : Nat) : ∀ f : Nat, (∀ p l q, POk R p → l.length ≤ N → rAfter R f p l = .ok q → szL N q.1) ∧ (∀ p l q, POk R p → l.length ≤ N → rVars R f p l = .ok q → szL N q.1) := by
 intro f
 induction f with
 | zero => exact ⟨fun p l q _ _ h => (by rw [rAfter] at h; obtain rfl := Except.ok.inj h; rw [szL]; trivial), fun p l q _ _ h => (by rw [rVars] at h; obtain rfl := Except.ok.inj h; rw [szL]; trivial)⟩
 | succ f ih =>
  refine ⟨fun p l q K hl h => ?_, fun p l q K hl h => ?_⟩
  ·have hb := blank_le l
   rw [rAfter] at h
   split at h
   ·obtain rfl := Except.ok.inj h; rw [szL]; trivial
   ·cases hm : rMove R p (blank l) with
    | error e => rw [hm] at h; cases h
    | ok x =>
     rw [hm] at h
     dsimp only at h
     have h1 := rMove_ok hm K
     cases hv : rVars R f p x.2.2 with
     | error e => rw [hv] at h; cases h
     | ok v =>
      rw [hv] at h
      dsimp only at h
      have h2 := (rest_le R f).2 _ _ _ K hv
      have h5 := ih.2 _ _ _ K (by omega) hv
      cases ha : rAfter R f (makeZ R p x.1) v.2 with
      | error e => rw [ha] at h; cases h
      | ok k =>
       rw [ha] at h
       obtain rfl := Except.ok.inj h
       have h3 := ih.1 _ _ _ (make_ok K h1.2.2.1) (by omega) ha
       show szL N (.mk x.1 (bs x.2.1) k.1 :: v.1)
       rw [szL, szB]
       exact ⟨⟨by rw [bs_size]; omega, h3⟩, h5⟩
  ·have hg := got_le 40 l
   rw [rVars] at h
   split at h
   ·obtain rfl := Except.ok.inj h; rw [szL]; trivial
   ·cases hm : rMove R p (got 40 l).2 with
    | error e => rw [hm] at h; cases h
    | ok x =>
     rw [hm] at h
     dsimp only at h
     have h1 := rMove_ok hm K
     cases ha : rAfter R f (makeZ R p x.1) x.2.2 with
     | error e => rw [ha] at h; cases h
     | ok k =>
      rw [ha] at h
      dsimp only at h
      have h3 := ih.1 _ _ _ (make_ok K h1.2.2.1) (by omega) ha
      have h4 := (rest_le R f).1 _ _ _ (make_ok K h1.2.2.1) ha
      have hg2 := got_le 41 k.2
      split at h
      ·cases h
      ·cases hv : rVars R f p (got 41 k.2).2 with
       | error e => rw [hv] at h; cases h
       | ok v =>
        rw [hv] at h
        obtain rfl := Except.ok.inj h
        have h2 := ih.2 _ _ _ K (by omega) hv
        show szL N (.mk x.1 (bs x.2.1) k.1 :: v.1)
        rw [szL, szB]
        exact ⟨⟨by rw [bs_size]; omega, h3⟩, h2⟩
theorem rTags_sz : ∀ (f : Nat) (l : Byt) (q : List TagZ × Byt), rTags f l = .ok q → q.2.length ≤ l.length ∧ q.1.length ≤ l.length ∧ ∀ t ∈ q.1, t.key.size ≤ l.length ∧ t.value.size ≤ l.length
 | 0, l, q, h => by rw [rTags] at h; obtain rfl := Except.ok.inj h; exact ⟨Nat.le_refl _, Nat.zero_le _, fun _ h => by cases h⟩
 | f + 1, l, q, h => by
  have hg := got_le 91 l
  rw [rTags] at h
  split at h
  ·obtain rfl := Except.ok.inj h; exact ⟨hg, Nat.zero_le _, fun _ h => by cases h⟩
  ·cases hk : upTo2 32 34 (got 91 l).2 with
   | none => rw [hk] at h; cases h
   | some k =>
    rw [hk] at h
    dsimp only at h
    have h1 := up2_le _ _ _ _ hk
    cases hv : upTo2 34 93 k.2 with
    | none => rw [hv] at h; cases h
    | some v =>
     rw [hv] at h
     dsimp only at h
     have h2 := up2_le _ _ _ _ hv
     cases hr : rTags f v.2 with
     | error e => rw [hr] at h; cases h
     | ok r =>
      rw [hr] at h
      obtain rfl := Except.ok.inj h
      obtain ⟨h3, h4, h5⟩ := rTags_sz f _ _ hr
      refine ⟨by show r.2.length ≤ l.length; omega, by show r.1.length + 1 ≤ l.length; omega, fun t ht => ?_⟩
      rcases List.mem_cons.1 ht with rfl | ht
      ·exact ⟨by show (bs k.1).size ≤ _; rw [bs_size]; omega, by show (bs v.1).size ≤ _; rw [bs_size]; omega⟩
      ·have := h5 t ht; exact ⟨by omega, by omega⟩
theorem read_sz {R : RulesZ} {l : Byt} {X : RecZ} (hR : rulesErr R = 0) (h : rRead R l = .ok X) : X.tags.length ≤ l.length ∧ (∀ t ∈ X.tags, t.key.size ≤ l.length ∧ t.value.size ≤ l.length) ∧ X.comment.size ≤ l.length ∧ X.nodes.length ≤ l.length ∧ ∀ x ∈ X.nodes, x.comment.size ≤ l.length := by
 unfold rRead at h
 cases ht : rTags (l.length + 1) l with
 | error e => rw [ht] at h; cases h
 | ok t =>
  rw [ht] at h
  dsimp only at h
  obtain ⟨h1, h2, h3⟩ := rTags_sz _ _ _ ht
  cases hb : rBody R t.2 with
  | error e => rw [hb] at h; cases h
  | ok q =>
   rw [hb] at h
   obtain rfl := Except.ok.inj h
   unfold rBody at hb
   cases hc : rCmt t.2 with
   | error e => rw [hc] at hb; cases hb
   | ok c =>
    rw [hc] at hb
    dsimp only at hb
    have h4 := rCmt_le hc
    cases ha : rAfter R (c.2.length + 1) (beginZ R) c.2 with
    | error e => rw [ha] at hb; cases hb
    | ok k =>
     rw [ha] at hb
     dsimp only at hb
     split at hb
     ·cases hb
     ·split at hb
      ·cases hb
      ·obtain rfl := Except.ok.inj hb
       have h5 := (rest_sz R l.length _).1 _ _ _ (begin_ok hR) (by omega) ha
       have h6 := (rest_cnt R _).1 _ _ _ (begin_ok hR) ha
       refine ⟨h2, h3, by show (bs c.1).size ≤ _; rw [bs_size]; omega, ?_, flat_sz k.1 h5 (-1) [] (fun _ h => by cases h)⟩
       show (flatL k.1 (-1) []).length ≤ l.length
       rw [flat_cnt]
       simp only [List.length_nil]
       omega
end Go.Proofs.YthklhndcdijneaaGreatDoor
namespace Go.Proofs.YthklhndcdijneaaGreatDoor
open Go.ChangeShapes Go.WideShapes Go.ChangeAt Go.RowKit
set_option linter.unusedVariables false
theorem IndexFunc_tg (v : Value) (xs : List TagZ) (p : TagZ → Bool) (f : FuncId) (caps : Array Value) (w : World) (h : RdL tagEl w v xs) (hf : ∀ (args : Array Value) (w : World), (callFunc f args).run Tryz.prog w = .ok (.enter f args) w)
  (hc : ∀ (W : World) (x : TagZ) (cs : List Value), x ∈ xs → tagEl.E W x cs → Below w.heap.size w W → Calls Tryz.prog f (#[.agg cs.toArray] ++ caps) W fun e w' => e = .returned (.bool (p x)) ∧ Below W.heap.size W w') :
  Calls Tryz.prog 62 #[v, .func (.func f) #[] caps] w fun e w' => e = .returned (.int .i64 (idxL p xs 0)) ∧ Below w.heap.size w w' := by
 obtain ⟨a, c, rfl, h1, h2⟩ := h.form
 unfold maxLen at h2
 have HR := Lib.hid h
 have HC := Lib.hid hc
 clear h hc
 go_enter Tryz.func62, Tryz.ntmps62
 go_wp2_with fail
 go_loopw [8, 5] (fun i v5 wr => ∃ (k : Nat) (o5 : Value), o5 = v5 ∧ k ≤ xs.length ∧ i = .int .i64 k ∧ Hid (idxL p xs 0 = idxL p (xs.drop k) k) ∧ Below w.heap.size w wr) (fun i _ _ => xs.length - (intOf i).toNat)
 case atStart => exact ⟨0, _, rfl, Nat.zero_le _, rfl, Lib.hid rfl, Below.refl _ _⟩
 case round =>
  obtain ⟨k, o5, rfl, hk, rfl, HK, hbl⟩ := hrel
  by_cases hlt : k < xs.length
  ·obtain ⟨g, o, rfl, hg, hcc⟩ := (HR.out.below hbl (Nat.le_refl _)).some (by omega)
   obtain ⟨cs, hE, hcell⟩ := hcc k hlt
   have hcl := tagEl.len hE
   simp only [tagEl] at hcl
   obtain ⟨c0, c1, rfl⟩ : ∃ c0 c1, cs = [c0, c1] := by
    match cs, hcl with
    | [c0, c1], _ => exact ⟨_, _, rfl⟩
   have q0 := hcell 0 (by decide)
   have q1 := hcell 1 (by decide)
   simp only [tagEl, List.getElem?_cons_zero, List.getElem?_cons_succ, Nat.add_zero] at q0 q1
   have HS := Lib.hid (idxL_step p xs k hlt)
   have HCk := Lib.hid (HC.out wr xs[k] [c0, c1] (List.getElem_mem hlt) hE hbl)
   have HB := Lib.hid hbl
   clear hcell hcc hE hcl hbl
   generalize xs[k] = x at *
   go_wp2_with fail
   refine HCk.out.mono ?_
   rintro e w1 ⟨rfl, hb1⟩
   have HB1 := Lib.hid (below_trans HB.out hb1 HB.out.size)
   clear hb1
   cases hpx : p x
   ·go_wp2_with fail
    go_roundw
    case rel => exact ⟨k + 1, _, rfl, by omega, by go_num, Lib.hid (by rw [HK.out, HS.out, if_neg (by simp [hpx])]), HB1.out⟩
    case measure => simp [intOf]; omega
   ·go_wp2_with fail
    go_ret
    exact ⟨by rw [HK.out, HS.out, if_pos hpx]; rfl, HB1.out⟩
  ·obtain rfl : k = xs.length := by omega
   go_wp2_with fail
   go_ret
   exact ⟨by rw [HK.out]; simp [idxL], hbl⟩
theorem ContainsFunc_tg (v : Value) (xs : List TagZ) (p : TagZ → Bool) (f : FuncId) (caps : Array Value) (w : World) (h : RdL tagEl w v xs) (hf : ∀ (args : Array Value) (w : World), (callFunc f args).run Tryz.prog w = .ok (.enter f args) w)
  (hc : ∀ (W : World) (x : TagZ) (cs : List Value), x ∈ xs → tagEl.E W x cs → Below w.heap.size w W → Calls Tryz.prog f (#[.agg cs.toArray] ++ caps) W fun e w' => e = .returned (.bool (p x)) ∧ Below W.heap.size W w') :
  Calls Tryz.prog 35 #[v, .func (.func f) #[] caps] w fun e w' => e = .returned (.bool (xs.any p)) ∧ Below w.heap.size w w' := by
 have HI := Lib.hid (IndexFunc_tg v xs p f caps w h hf hc)
 have HA := Lib.hid (idxL_any p xs 0 (by omega))
 clear h hc hf
 go_enter Tryz.func35, Tryz.ntmps35
 go_wp2_with fail
 refine HI.out.mono ?_
 rintro e w' ⟨rfl, hb⟩
 go_wp2_with fail
 go_ret
 exact ⟨by rw [← HA.out]; rfl, hb⟩
theorem IndexFunc_nd (v : Value) (xs : List NodeZ) (p : NodeZ → Bool) (f : FuncId) (caps : Array Value) (w : World) (h : RdL nodeEl w v xs) (hf : ∀ (args : Array Value) (w : World), (callFunc f args).run Tryz.prog w = .ok (.enter f args) w)
  (hc : ∀ (W : World) (x : NodeZ) (cs : List Value), x ∈ xs → nodeEl.E W x cs → Below w.heap.size w W → Calls Tryz.prog f (#[.agg cs.toArray] ++ caps) W fun e w' => e = .returned (.bool (p x)) ∧ Below W.heap.size W w') :
  Calls Tryz.prog 63 #[v, .func (.func f) #[] caps] w fun e w' => e = .returned (.int .i64 (idxL p xs 0)) ∧ Below w.heap.size w w' := by
 obtain ⟨a, c, rfl, h1, h2⟩ := h.form
 unfold maxLen at h2
 have HR := Lib.hid h
 have HC := Lib.hid hc
 clear h hc
 go_enter Tryz.func63, Tryz.ntmps63
 go_wp2_with fail
 go_loopw [8, 5] (fun i v5 wr => ∃ (k : Nat) (o5 : Value), o5 = v5 ∧ k ≤ xs.length ∧ i = .int .i64 k ∧ Hid (idxL p xs 0 = idxL p (xs.drop k) k) ∧ Below w.heap.size w wr) (fun i _ _ => xs.length - (intOf i).toNat)
 case atStart => exact ⟨0, _, rfl, Nat.zero_le _, rfl, Lib.hid rfl, Below.refl _ _⟩
 case round =>
  obtain ⟨k, o5, rfl, hk, rfl, HK, hbl⟩ := hrel
  by_cases hlt : k < xs.length
  ·obtain ⟨g, o, rfl, hg, hcc⟩ := (HR.out.below hbl (Nat.le_refl _)).some (by omega)
   obtain ⟨cs, hE, hcell⟩ := hcc k hlt
   have hcl := nodeEl.len hE
   simp only [nodeEl] at hcl
   obtain ⟨c0, c1, c2, c3, c4, rfl⟩ : ∃ c0 c1 c2 c3 c4, cs = [c0, c1, c2, c3, c4] := by
    match cs, hcl with
    | [c0, c1, c2, c3, c4], _ => exact ⟨_, _, _, _, _, rfl⟩
   have q0 := hcell 0 (by decide)
   have q1 := hcell 1 (by decide)
   have q2 := hcell 2 (by decide)
   have q3 := hcell 3 (by decide)
   have q4 := hcell 4 (by decide)
   simp only [nodeEl, List.getElem?_cons_zero, List.getElem?_cons_succ, Nat.add_zero] at q0 q1 q2 q3 q4
   have HS := Lib.hid (idxL_step p xs k hlt)
   have HCk := Lib.hid (HC.out wr xs[k] [c0, c1, c2, c3, c4] (List.getElem_mem hlt) hE hbl)
   have HB := Lib.hid hbl
   clear hcell hcc hE hcl hbl
   generalize xs[k] = x at *
   go_wp2_with fail
   refine HCk.out.mono ?_
   rintro e w1 ⟨rfl, hb1⟩
   have HB1 := Lib.hid (below_trans HB.out hb1 HB.out.size)
   clear hb1
   cases hpx : p x
   ·go_wp2_with fail
    go_roundw
    case rel => exact ⟨k + 1, _, rfl, by omega, by go_num, Lib.hid (by rw [HK.out, HS.out, if_neg (by simp [hpx])]), HB1.out⟩
    case measure => simp [intOf]; omega
   ·go_wp2_with fail
    go_ret
    exact ⟨by rw [HK.out, HS.out, if_pos hpx]; rfl, HB1.out⟩
  ·obtain rfl : k = xs.length := by omega
   go_wp2_with fail
   go_ret
   exact ⟨by rw [HK.out]; simp [idxL], hbl⟩
theorem ContainsFunc_nd (v : Value) (xs : List NodeZ) (p : NodeZ → Bool) (f : FuncId) (caps : Array Value) (w : World) (h : RdL nodeEl w v xs) (hf : ∀ (args : Array Value) (w : World), (callFunc f args).run Tryz.prog w = .ok (.enter f args) w)
  (hc : ∀ (W : World) (x : NodeZ) (cs : List Value), x ∈ xs → nodeEl.E W x cs → Below w.heap.size w W → Calls Tryz.prog f (#[.agg cs.toArray] ++ caps) W fun e w' => e = .returned (.bool (p x)) ∧ Below W.heap.size W w') :
  Calls Tryz.prog 38 #[v, .func (.func f) #[] caps] w fun e w' => e = .returned (.bool (xs.any p)) ∧ Below w.heap.size w w' := by
 have HI := Lib.hid (IndexFunc_nd v xs p f caps w h hf hc)
 have HA := Lib.hid (idxL_any p xs 0 (by omega))
 clear h hc hf
 go_enter Tryz.func38, Tryz.ntmps38
 go_wp2_with fail
 refine HI.out.mono ?_
 rintro e w' ⟨rfl, hb⟩
 go_wp2_with fail
 go_ret
 exact ⟨by rw [← HA.out]; rfl, hb⟩
theorem tagc_any (x : TagZ) (cs : List Value) (k : ByteArray) (B : Nat) (w : World) (hE : tagEl.E w x cs) (h1 : w.cell? ⟨B, 0, none⟩ = some (.string k)) (hB : B < w.heap.size) :
  Calls Tryz.prog 36 (#[.agg cs.toArray] ++ #[.pointer (some ⟨B, 0, none⟩)]) w fun e w' => e = .returned (.bool (x.key.toList == k.toList)) ∧ Below w.heap.size w w' := by
 obtain ⟨rfl, -⟩ := hE
 obtain ⟨xk, xv⟩ := x
 show Calls Tryz.prog 36 #[.agg #[.string xk, .string xv], .pointer (some ⟨B, 0, none⟩)] w _
 go_enter Tryz.func36, Tryz.ntmps36
 go_wp2
 go_ret
 exact ⟨rfl, (Below.refl _ _).alloc (by go_size) _⟩
theorem callTagc (args : Array Value) (w : World) : (callFunc 36 args).run Tryz.prog w = .ok (.enter 36 args) w := by kernel_rfl
theorem nodec_any (x : NodeZ) (cs : List Value) (p : Int) (B : Nat) (w : World) (hE : nodeEl.E w x cs) (h1 : w.cell? ⟨B, 0, none⟩ = some (.int .i64 p)) (hB : B < w.heap.size) :
  Calls Tryz.prog 39 (#[.agg cs.toArray] ++ #[.pointer (some ⟨B, 0, none⟩)]) w fun e w' => e = .returned (.bool (x.parent == p)) ∧ Below w.heap.size w w' := by
 obtain ⟨rfl, -⟩ := hE
 obtain ⟨xp, ⟨m1, m2, m3⟩, xc⟩ := x
 show Calls Tryz.prog 39 #[.agg #[.int .i64 xp, .int .i64 m1, .int .i64 m2, .int .i64 m3, .string xc], .pointer (some ⟨B, 0, none⟩)] w _
 go_enter Tryz.func39, Tryz.ntmps39
 go_wp2
 go_ret
 exact ⟨rfl, (Below.refl _ _).alloc (by go_size) _⟩
theorem callNodec (args : Array Value) (w : World) : (callFunc 39 args).run Tryz.prog w = .ok (.enter 39 args) w := by kernel_rfl
end Go.Proofs.YthklhndcdijneaaGreatDoor
namespace Go.Proofs.YthklhndcdijneaaGreatDoor
open Go.ChangeShapes Go.WideShapes Go.ChangeAt Go.RowKit
set_option linter.unusedVariables false
set_option maxRecDepth 100000 in
set_option maxHeartbeats 4000000 in
theorem tags_any (X : RecZ) (vt vn : Value) (w : World) (h : RdX w X vt vn) (hl : X.tags.length ≤ 10) :
  Calls Tryz.prog 16 #[recV X vt vn] w fun e w' => e = .returned (.int .i64 (tagsE X.tags)) ∧ Below w.heap.size w w' := by
 obtain ⟨ta, tc, rfl, h1, h2⟩ := h.1.form
 unfold maxLen at h2
 have HR := Lib.hid h.1
 clear h
 unfold recV
 have HE0 : Hid (tagsE X.tags = scanE (tagE X.tags) 0 (X.tags.length - 0)) := Lib.hid rfl
 go_enter Tryz.func16, Tryz.ntmps16
 go_upto_region 1 with (fail)
 obtain ⟨bb, hbb⟩ : ∃ bb, bb = w.heap.size := ⟨_, rfl⟩
 have hb0 := (Box.new' w bb [.slice ta X.tags.length tc, .string X.comment, vn, .int .i64 X.result] 30 hbb.symm)
 have HB : Hid (Below bb w (w.alloc (.cells #[.slice ta X.tags.length tc, .string X.comment, vn, .int .i64 X.result] 30))) := Lib.hid (by rw [hbb]; exact (Below.refl w.heap.size w).alloc (Nat.le_refl _) _)
 rw [← hbb]
 have hbb1 : w.heap.size ≤ bb := by omega
 clear hbb
 generalize (w.alloc (.cells #[.slice ta X.tags.length tc, .string X.comment, vn, .int .i64 X.result] 30)) = w0 at *
 have HX := Lib.hid hb0
 have q0 := hb0.cell 0 rfl
 have hw0 := hb0.lt
 clear hb0
 go_wp2_with fail
 go_loopw [8, 3, 4, 13, 18, 23, 28] (fun v8 v3 v4 v13 v18 v23 v28 wr => ∃ (k : Nat) (o3 o4 o13 o18 o23 o28 : Value), o3 = v3 ∧ o4 = v4 ∧ o13 = v13 ∧ o18 = v18 ∧ o23 = v23 ∧ o28 = v28 ∧ k ≤ X.tags.length ∧ v8 = .int .i64 k ∧ Hid (tagsE X.tags = scanE (tagE X.tags) k (X.tags.length - k)) ∧ Hid (Below bb w wr) ∧ Hid (Box wr bb [.slice ta X.tags.length tc, .string X.comment, vn, .int .i64 X.result] 30)) (fun v _ _ _ _ _ _ _ => X.tags.length - (intOf v).toNat)
 case atStart => exact ⟨0, _, _, _, _, _, _, rfl, rfl, rfl, rfl, rfl, rfl, Nat.zero_le _, rfl, HE0, HB, HX⟩
 case round =>
  obtain ⟨k, o3, o4, o13, o18, o23, o28, rfl, rfl, rfl, rfl, rfl, rfl, hk, rfl, HK, HBr, HXr⟩ := hrel
  have hsr := HXr.out.lt
  by_cases hlt : k < X.tags.length
  ·obtain ⟨g, o, rfl, hg, hc⟩ := tags_some HR.out (by omega)
   obtain ⟨e0, e1, hs0, hs1⟩ := hc k hlt
   have hgb : g < bb := by omega
   have c0 := (HBr.out.cell (p := ⟨g, o + k * 2, none⟩) hgb).trans e0
   have c1 := (HBr.out.cell (p := ⟨g, o + k * 2 + 1, none⟩) hgb).trans e1
   have HSt := Lib.hid (scanE_step (tagE X.tags) k X.tags.length hlt)
   have HT : Hid (tagE X.tags k = if nameOk (X.tags.getD k default).key = false then 6 else if 40 < (X.tags.getD k default).value.size then 2 else if printB (X.tags.getD k default).value quote = false then 3 else
    if (X.tags.take k).any (fun u => u.key.toList == (X.tags.getD k default).key.toList) = true then 7 else 0) := Lib.hid rfl
   clear hc e0 e1
   generalize (X.tags.getD k default).key = ky at *
   generalize (X.tags.getD k default).value = vl at *
   have hgr : g < wr.heap.size := by omega
   have hkl : (k : Int) < (X.tags.length : Int) := by omega
   go_upto_region 4 with (fail)
   obtain ⟨pb, hpb⟩ : ∃ pb, pb = wr.heap.size := ⟨_, rfl⟩
   rw [← hpb]
   have HP := Lib.hid (Box.new' wr pb [.string ky, .string vl] 58 hpb.symm)
   have HBp := Lib.hid (HBr.out.alloc (by omega) (.cells #[.string ky, .string vl] 58))
   have HXp := Lib.hid (HXr.out.alloc (.cells #[.string ky, .string vl] 58))
   clear HBr HXr c0 c1 hpb
   generalize wr.alloc (.cells #[.string ky, .string vl] 58) = wp at *
   have p0 := HP.out.cell 0 rfl
   have p1 := HP.out.cell 1 rfl
   have q0 := HXp.out.cell 0 rfl
   have hplt := HP.out.lt
   have hbw := HXp.out.lt
   have HNm := Lib.hid (Name_any ky wp hs0)
   have HPr := Lib.hid (printable_any vl quote wp hs1)
   have hbbp : bb ≤ wp.heap.size := by omega
   unfold maxLen at hs0 hs1
   cases hn : nameOk ky
   ·have HF : Hid (tagsE X.tags = 6) := Lib.hid (by rw [HK.out, HSt.out, HT.out, if_pos hn]; rfl)
    rw [hn] at HNm
    clear hn HPr HT HK HSt
    go_wp2_with (go_at_call 28; refine HNm.out.mono ?_; rintro e w1 ⟨rfl, rfl⟩)
    go_ret
    exact ⟨by rw [HF.out]; rfl, HBp.out.mono hbb1⟩
   ·rw [hn] at HNm
    have HT2 : Hid (tagE X.tags k = if 40 < vl.size then 2 else if printB vl quote = false then 3 else if (X.tags.take k).any (fun u => u.key.toList == ky.toList) = true then 7 else 0) := Lib.hid (by rw [HT.out, if_neg (by rw [hn]; decide)])
    clear hn HT
    by_cases h40 : (40 : Int) < (vl.size : Int)
    ·have HF : Hid (tagsE X.tags = 2) := Lib.hid (by rw [HK.out, HSt.out, HT2.out, if_pos (show 40 < vl.size by omega)]; rfl)
     clear HPr HT2 HK HSt
     go_wp2_with (go_at_call 28; refine HNm.out.mono ?_; rintro e w1 ⟨rfl, rfl⟩)
     go_ret
     exact ⟨by rw [HF.out]; rfl, HBp.out.mono hbb1⟩
    ·have HT3 : Hid (tagE X.tags k = if printB vl quote = false then 3 else if (X.tags.take k).any (fun u => u.key.toList == ky.toList) = true then 7 else 0) := Lib.hid (by rw [HT2.out, if_neg (show ¬ 40 < vl.size by omega)])
     clear HT2
     unfold quote at HPr HT3
     cases hp : printB vl ⟨#[34]⟩
     ·have HF : Hid (tagsE X.tags = 3) := Lib.hid (by rw [HK.out, HSt.out, HT3.out, if_pos hp]; rfl)
      rw [hp] at HPr
      clear hp HT3 HK HSt
      go_wp2_with (first | (go_at_call 28; refine HNm.out.mono ?_; rintro e w1 ⟨rfl, rfl⟩) | (go_at_call 34; refine HPr.out.mono ?_; rintro e w1 ⟨rfl, rfl⟩))
      go_ret
      exact ⟨by rw [HF.out]; rfl, HBp.out.mono hbb1⟩
     ·rw [hp] at HPr
      have HT4 : Hid (tagE X.tags k = if (X.tags.take k).any (fun u => u.key.toList == ky.toList) = true then 7 else 0) := Lib.hid (by rw [HT3.out, if_neg (by rw [hp]; decide)])
      have hsl := fun w => run_take (P := Tryz.prog) (s := 2) Tryz.underlying27 (fun _ => by kernel_rfl) (some ⟨g, o, none⟩) X.tags.length tc k (by omega) w
      have HCf := Lib.hid (ContainsFunc_tg _ (X.tags.take k) (fun u => u.key.toList == ky.toList) 36 #[.pointer (some ⟨pb, 0, none⟩)] wp ((RdL.take HR.out k (by omega)).below HBp.out hbb1) callTagc (fun W x cs _ hE hb => tagc_any x cs ky pb W hE ((HP.out.stays hb).cell 0 rfl) (HP.out.stays hb).lt))
      clear hp HT3
      generalize (X.tags.take k).any (fun u => u.key.toList == ky.toList) = tw at *
      cases tw
      ·go_wp2_with (first | (go_at_call 28; refine HNm.out.mono ?_; rintro e w1 ⟨rfl, rfl⟩) | (go_at_call 34; refine HPr.out.mono ?_; rintro e w1 ⟨rfl, rfl⟩))
       refine HCf.out.mono ?_
       rintro e w5 ⟨rfl, hb5⟩
       have HB5 := Lib.hid (HBp.out.trans (hb5.mono hbbp))
       have HX5 := Lib.hid (HXp.out.stays hb5)
       have HK5 : Hid (tagsE X.tags = scanE (tagE X.tags) (k + 1) (X.tags.length - (k + 1))) := Lib.hid (by rw [HK.out, HSt.out, HT4.out]; rfl)
       clear hb5 HK HSt HT4 hsl
       go_wp2_with fail
       go_roundw
       case rel => exact ⟨k + 1, _, _, _, _, _, _, rfl, rfl, rfl, rfl, rfl, rfl, by omega, by go_num, HK5, HB5, HX5⟩
       case measure => simp [intOf]; omega
      ·go_wp2_with (first | (go_at_call 28; refine HNm.out.mono ?_; rintro e w1 ⟨rfl, rfl⟩) | (go_at_call 34; refine HPr.out.mono ?_; rintro e w1 ⟨rfl, rfl⟩))
       refine HCf.out.mono ?_
       rintro e w5 ⟨rfl, hb5⟩
       have HB5 := Lib.hid (HBp.out.trans (hb5.mono hbbp))
       have HF : Hid (tagsE X.tags = 7) := Lib.hid (by rw [HK.out, HSt.out, HT4.out]; rfl)
       clear hb5 HK HSt HT4 hsl
       go_wp2_with fail
       go_ret
       exact ⟨by rw [HF.out]; rfl, HB5.out.mono hbb1⟩
  ·obtain rfl : k = X.tags.length := by omega
   have HF : Hid (tagsE X.tags = 0) := Lib.hid (by rw [HK.out, Nat.sub_self]; rfl)
   go_wp2_with fail
   go_ret
   exact ⟨by rw [HF.out]; rfl, HBr.out.mono hbb1⟩
end Go.Proofs.YthklhndcdijneaaGreatDoor

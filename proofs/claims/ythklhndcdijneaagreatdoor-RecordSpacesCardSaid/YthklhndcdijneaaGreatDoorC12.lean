/- MvL, Copy. -/
import Derived.Test.YthklhndcdijneaaGreatDoorC09
import Derived.Test.YthklhndcdijneaaGreatDoorC10
import Derived.Test.YthklhndcdijneaaGreatDoorC11
import Derived.Test.YthklhndcdijneaaGreatDoorC05
import Derived.Test.YthklhndcdijneaaGreatDoorC01
import Derived.Test.YthklhndcdijneaaGreatDoorC04
namespace Go.Proofs.YthklhndcdijneaaGreatDoor
open Go.ChangeShapes Go.WideShapes Go.ChangeAt Go.RowKit
set_option linter.unusedVariables false
/-! ### lengths and ranges -/
theorem wayFrom_mem (R : RulesZ) (p : PosZ) (x : WayZ) (dy : Int) : ∀ (n : Nat) (a b t : Int), t ∈ wayFrom R p x dy n a b → 0 ≤ t ∧ t < R.width * R.height
 | 0, a, b, t, h => by simp [wayFrom] at h
 | n + 1, a, b, t, h => by
  rw [wayFrom] at h
  by_cases hin : a + x.dx < 0 ∨ R.width ≤ a + x.dx ∨ b + dy < 0 ∨ R.height ≤ b + dy
  ·rw [if_pos hin] at h; cases h
  rw [if_neg hin, List.mem_append] at h
  rcases h with h | h
  ·split at h
   ·simp at h; subst h
    exact inside (by omega) (by omega) (by omega) (by omega)
   ·cases h
  ·split at h
   ·cases h
   ·exact wayFrom_mem R p x dy n _ _ t h
theorem wayZ_mem {R : RulesZ} {p : PosZ} {s : Int} {x : WayZ} {t : Int} (h : t ∈ wayZ R p s x) : 0 ≤ t ∧ t < R.width * R.height := wayFrom_mem _ _ _ _ _ _ _ _ h
theorem wayZ_len (R : RulesZ) (p : PosZ) (s : Int) (x : WayZ) (h : wayOk x = true) : (wayZ R p s x).length ≤ 7 := by
 obtain ⟨_, _, h1, _⟩ := wayOk_of h
 have := wayFrom_len R p x (if p.turn = 1 then -x.dy else x.dy) x.most.toNat (s % R.width) (s / R.width)
 unfold wayZ
 omega
theorem flatL_len {α β : Type} (f : α → List β) (b : Nat) : ∀ l : List α, (∀ x ∈ l, (f x).length ≤ b) → (l.flatMap f).length ≤ l.length * b
 | [], _ => by simp
 | x :: t, h => by
  rw [List.flatMap_cons, List.length_append, List.length_cons, Nat.add_mul, Nat.one_mul]
  have := h x (by simp)
  have := flatL_len f b t (fun y hy => h y (by simp [hy]))
  omega
def stepsOf (R : RulesZ) (p : PosZ) (s : Nat) (k : Int) (x : WayZ) : List MoveZ := (wayZ R p s x).map (moveTo R p s k)
theorem ways_at {R : RulesZ} (K : ROk R) (k : Nat) : (R.pieces.getD k default).ways.length ≤ 16 ∧ ∀ x ∈ (R.pieces.getD k default).ways, wayOk x = true := by
 by_cases hk : k < R.pieces.length
 ·obtain ⟨_, _, h1, h2⟩ := K.pc k hk
  refine ⟨h1, fun x hx => ?_⟩
  obtain ⟨j, hj, rfl⟩ := List.mem_iff_getElem.1 hx
  have := h2 j hj
  rw [List.getD_eq_getElem?_getD, List.getElem?_eq_getElem hj] at this
  exact this
 ·rw [List.getD_eq_getElem?_getD, List.getElem?_eq_none (by omega)]
  exact ⟨Nat.zero_le _, fun x hx => by cases hx⟩
theorem stepsOf_len {R : RulesZ} {p : PosZ} {s : Nat} {k : Int} {x : WayZ} (h : wayOk x = true) : (stepsOf R p s k x).length ≤ 7 := by
 unfold stepsOf
 rw [List.length_map]
 exact wayZ_len _ _ _ _ h
theorem stepsAt_len {R : RulesZ} (K : ROk R) (p : PosZ) (s : Nat) : (stepsAt R p s).length ≤ 112 := by
 unfold stepsAt
 split
 ·simp
 ·obtain ⟨h1, h2⟩ := ways_at K ((p.cells.getD s 0 - 1) / 2).toNat
  have h3 := flatL_len (fun x => (wayZ R p s x).map (moveTo R p s ((p.cells.getD s 0 - 1) / 2))) 7 _ (fun x hx => by rw [List.length_map]; exact wayZ_len R p s x (h2 x hx))
  omega
theorem flatTake_snoc {α β : Type} [Inhabited α] (f : α → List β) (l : List α) (k : Nat) (h : k < l.length) : (l.take (k + 1)).flatMap f = (l.take k).flatMap f ++ f (l.getD k default) := by
 rw [List.take_succ_eq_append_getElem h, List.flatMap_append, List.getD_eq_getElem?_getD, List.getElem?_eq_getElem h]; simp
theorem mapTake_snoc {β : Type} (f : Int → β) (l : List Int) (k : Nat) (h : k < l.length) : (l.take (k + 1)).map f = (l.take k).map f ++ [f (l.getD k 0)] := by
 rw [List.take_succ_eq_append_getElem h, List.map_append, List.getD_eq_getElem?_getD, List.getElem?_eq_getElem h]; simp
def leM (x y : MoveZ) : Bool := !decide (ordM y x < 0)
def sortZ (l : List MoveZ) : List MoveZ := l.mergeSort leM
def listZ (R : RulesZ) (p : PosZ) : List MoveZ := compactZ (sortZ (rawZ R p))
/-- what is taken from the kit about slices.SortFunc: proved elsewhere. -/
def SortMvSaid : Prop := ∀ (base : Nat) (v : Value) (xs : List MoveZ) (w : World), w.ownsRow base 44 3 v xs.length (flatM xs) → xs.length ≤ 1000000 →
 Calls Tryz.prog 94 #[v, .func (.func 95) #[] #[]] w fun e w' => e = .returned (.tuple #[]) ∧ w'.ownsRow base 44 3 v xs.length (flatM (sortZ xs)) ∧ w.grownBy w' v.ownBlock
set_option maxRecDepth 100000 in
set_option maxHeartbeats 4000000 in
theorem List_any (HS : SortMvSaid) (R : RulesZ) (vp vs ve : Value) (p : PosZ) (vc v0 v1 : Value) (w : World) (hr : RdR w R vp vs ve) (hp : RdP w p vc v0 v1) (K : POk R p) :
  Calls Tryz.prog 72 #[(.agg #[.string R.name, .int .i64 R.width, .int .i64 R.height, vp, vs, .bool R.falls, .bool R.keeps, ve, .int .i64 R.blocked, .int .i64 R.quiet, .int .i64 R.rept]), (.agg #[vc, v0, v1, .int .i64 p.turn, .int .i64 p.quiet])] w (MovesPost (listZ R p) w) := by
 have HR := Lib.hid hr
 have HP := Lib.hid hp
 obtain ⟨ac, cc, rfl, hc1, hc2⟩ := hp.1.form
 obtain ⟨ap, cp, rfl, hp1, hp2⟩ := hr.1.form
 unfold maxLen at hc2 hp2
 have hlen := K.len
 have hnp := K.r.np
 have HSh := Lib.hid HS
 have HCB := Lib.hid K.cell
 have HCL := Lib.hid K.cl
 obtain ⟨hw1, hw2⟩ := K.r.w
 obtain ⟨hh1, hh2⟩ := K.r.h
 have HWH := Lib.hid (mul_in R.width R.height 8 8 hw1 hw2 hh1 hh2)
 have HRAW : Hid (rawZ R p = putsZ R p ++ (List.range p.cells.length).flatMap (stepsAt R p)) := Lib.hid rfl
 have HPL : Hid ((putsZ R p).length ≤ 384) := Lib.hid (by
  have h1 := flatMap_len (putsAt R p) 6 (fun k => by have := putsAt_len R p k; rw [hand_len K] at this; omega) p.cells.length
  unfold putsZ
  omega)
 clear hr hp HS
 go_enter Tryz.func72, Tryz.ntmps72
 go_upto_region 1 with (fail)
 refine opn2 fun w0 B0 B1 yb_ hs_ => ?_
 have HB := Lib.hid yb_
 have hz0 : w.heap.size + 1 < w0.heap.size := by omega
 clear hs_ yb_
 have HRw := Lib.hid (HR.out.below HB.out (Nat.le_refl _))
 have HPw := Lib.hid (HP.out.below HB.out (Nat.le_refl _))
 have HBx := Lib.hid B0
 have HBy := Lib.hid B1
 clear B0 B1
 have HB0 : Hid (Below w0.heap.size w0 w0) := Lib.hid (Below.refl _ _)
 have q0 := (HBx.out.below HB0.out (by omega)).cell 0 rfl
 have q1 := (HBx.out.below HB0.out (by omega)).cell 1 rfl
 have q2 := (HBx.out.below HB0.out (by omega)).cell 2 rfl
 have q3 := (HBx.out.below HB0.out (by omega)).cell 3 rfl
 have q4 := (HBx.out.below HB0.out (by omega)).cell 4 rfl
 have q5 := (HBx.out.below HB0.out (by omega)).cell 5 rfl
 have q6 := (HBx.out.below HB0.out (by omega)).cell 6 rfl
 have q7 := (HBx.out.below HB0.out (by omega)).cell 7 rfl
 have q8 := (HBx.out.below HB0.out (by omega)).cell 8 rfl
 have q9 := (HBx.out.below HB0.out (by omega)).cell 9 rfl
 have q10 := (HBx.out.below HB0.out (by omega)).cell 10 rfl
 have e0 := (HBy.out.below HB0.out (by omega)).cell 0 rfl
 have e1 := (HBy.out.below HB0.out (by omega)).cell 1 rfl
 have e2 := (HBy.out.below HB0.out (by omega)).cell 2 rfl
 have e3 := (HBy.out.below HB0.out (by omega)).cell 3 rfl
 have e4 := (HBy.out.below HB0.out (by omega)).cell 4 rfl
 go_wp2_with fail
 refine (puts_any R _ vs ve p _ v0 v1 w0 HPw.out K).mono ?_
 rintro e w1 ⟨vo1, rfl, ho1, hb1⟩
 have HO1 := Lib.hid ho1
 have HB1 := Lib.hid hb1
 have hz1 := hb1.size
 clear q0 q1 q2 q3 q4 q5 q6 q7 q8 q9 q10 e0 e1 e2 e3 e4
 clear ho1 hb1
 have e0 := (HBy.out.below HB1.out (by omega)).cell 0 rfl
 go_wp2_with fail
 go_loopw [5, 21] (fun vo vi wr => ∃ (k : Nat) (out : List MoveZ), k ≤ p.cells.length ∧ vi = .int .i64 k ∧ Hid (wr.ownsRow w0.heap.size 44 3 vo out.length (flatM out)) ∧ Hid (out = putsZ R p ++ (List.range k).flatMap (stepsAt R p)) ∧ Hid (Below w0.heap.size w0 wr)) (fun _ i _ => p.cells.length - (intOf i).toNat)
 case atStart => exact ⟨0, putsZ R p, Nat.zero_le _, rfl, HO1, Lib.hid (by simp), HB1⟩
 case round =>
  obtain ⟨k, out, hk, rfl, HO, HOUT, HBr⟩ := hrel
  have hsz := HBr.out.size
  have hol : out.length ≤ 7552 := by
   rw [HOUT.out, List.length_append]
   have h1 := flatMap_len (stepsAt R p) 112 (fun k => stepsAt_len K.r p k) k
   have h2 := HPL.out
   omega
  clear e0 hz1 HO1 HB1
  by_cases hlt : k < p.cells.length
  ·obtain ⟨gc, oc, ec, hcc⟩ := cells_rd (HPw.out.1.below HBr.out (Nat.le_refl _)) (by omega)
   subst ec
   have hck := hcc k hlt
   have q0 := (HBx.out.below HBr.out (by omega)).cell 0 rfl
   have q1 := (HBx.out.below HBr.out (by omega)).cell 1 rfl
   have q2 := (HBx.out.below HBr.out (by omega)).cell 2 rfl
   have q3 := (HBx.out.below HBr.out (by omega)).cell 3 rfl
   have q4 := (HBx.out.below HBr.out (by omega)).cell 4 rfl
   have q5 := (HBx.out.below HBr.out (by omega)).cell 5 rfl
   have q6 := (HBx.out.below HBr.out (by omega)).cell 6 rfl
   have q7 := (HBx.out.below HBr.out (by omega)).cell 7 rfl
   have q8 := (HBx.out.below HBr.out (by omega)).cell 8 rfl
   have q9 := (HBx.out.below HBr.out (by omega)).cell 9 rfl
   have q10 := (HBx.out.below HBr.out (by omega)).cell 10 rfl
   have e0 := (HBy.out.below HBr.out (by omega)).cell 0 rfl
   have e1 := (HBy.out.below HBr.out (by omega)).cell 1 rfl
   have e2 := (HBy.out.below HBr.out (by omega)).cell 2 rfl
   have e3 := (HBy.out.below HBr.out (by omega)).cell 3 rfl
   have e4 := (HBy.out.below HBr.out (by omega)).cell 4 rfl
   clear hcc
   obtain ⟨b1, b2⟩ := HCB.out k
   have HSD : Hid (stepsAt R p k = if p.cells.getD k 0 = 0 ∨ (p.cells.getD k 0 - 1) % 2 ≠ p.turn then [] else (R.pieces.getD ((p.cells.getD k 0 - 1) / 2).toNat default).ways.flatMap (stepsOf R p k ((p.cells.getD k 0 - 1) / 2))) := Lib.hid rfl
   generalize p.cells.getD k 0 = c at *
   by_cases hc0 : c = 0
   ·subst hc0
    have HSE : Hid (stepsAt R p k = []) := Lib.hid (by rw [HSD.out, if_pos (.inl rfl)])
    clear HSD
    go_wp2_with fail
    go_roundw
    case rel => exact ⟨k + 1, out, by omega, by go_num, HO, Lib.hid (by rw [flatMap_snoc, HSE.out, List.append_nil]; exact HOUT.out), HBr⟩
    case measure => simp [intOf]; omega
   have hc1' : 1 ≤ c := by omega
   have hcb : (c == 0) = false := by simpa using hc0
   cases hpar : ((c - 1) % 2 == p.turn)
   ·have hpar2 : ((c - 1) % 2 != p.turn) = true := by simp [bne, hpar]
    have HSE : Hid (stepsAt R p k = []) := Lib.hid (by rw [HSD.out, if_pos (.inr (by simpa using hpar))])
    clear HSD hc0
    go_wp2_with fail
    go_roundw
    case rel => exact ⟨k + 1, out, by omega, by go_num, HO, Lib.hid (by rw [flatMap_snoc, HSE.out, List.append_nil]; exact HOUT.out), HBr⟩
    case measure => simp [intOf]; omega
   have hpar2 : ((c - 1) % 2 != p.turn) = false := by simp [bne, hpar]
   have HSE : Hid (stepsAt R p k = (R.pieces.getD ((c - 1) / 2).toNat default).ways.flatMap (stepsOf R p k ((c - 1) / 2))) := Lib.hid (by rw [HSD.out, if_neg]; rintro (h | h); exact hc0 h; exact h (by simpa using hpar))
   clear HSD hc0
   have hz0' : 0 ≤ ((c - 1) / 2) := by omega
   have hz1' : ((c - 1) / 2) < R.pieces.length := by omega
   go_upto_region 7 with (fail)
   obtain ⟨gp, op, epp, hgp, hpcs⟩ := pieces_some HRw.out.1 (by omega)
   subst epp
   obtain ⟨vw, -, -, hpp0, hvw0, hrw⟩ := hpcs ((c - 1) / 2).toNat (by omega)
   have HWK := Lib.hid (ways_at K.r ((c - 1) / 2).toNat)
   have HPR := Lib.hid ((K.r.pc ((c - 1) / 2).toNat (by omega)).2.1)
   have HMT : Hid (∀ t : Int, moveTo R p k ((c - 1) / 2) t = ⟨k, t, if 0 < (R.pieces.getD ((c - 1) / 2).toNat default).promote ∧ lastZ R p.turn t = true then (R.pieces.getD ((c - 1) / 2).toNat default).promote - 1 else ((c - 1) / 2)⟩) := Lib.hid (fun _ => rfl)
   obtain ⟨aw, cw, rfl, hw3, hw4⟩ := hrw.form
   unfold maxLen at hw4
   have HRWY := Lib.hid hrw
   have HPP := Lib.hid hpp0
   have hvw := (HBr.out.cell hgp).trans hvw0
   clear hpcs hrw hpp0 hvw0
   generalize (R.pieces.getD ((c - 1) / 2).toNat default).ways = ws at *
   have hwl := HWK.out.1
   go_wp2_with fail
   generalize (c - 1) / 2 = kz at *
   obtain ⟨wA, rfl⟩ : ∃ wA : World, wA = wr := ⟨_, rfl⟩
   clear q0 q1 q2 q3 q4 q5 q6 q7 q8 q9 q10 e0 e1 e2 e3 e4
   clear hvw hck
   go_loopw [5, 46] (fun vo vi wr => ∃ (q : Nat) (ms : List MoveZ), q ≤ ws.length ∧ vi = .int .i64 q ∧ Hid (wr.ownsRow w0.heap.size 44 3 vo ms.length (flatM ms)) ∧ Hid (ms = out ++ (ws.take q).flatMap (stepsOf R p k kz)) ∧ Hid (Below w0.heap.size w0 wr)) (fun _ i _ => ws.length - (intOf i).toNat)
   case atStart => exact ⟨0, out, Nat.zero_le _, rfl, HO, Lib.hid (by simp), HBr⟩
   case round =>
    obtain ⟨q, ms, hq, rfl, HO, HMS, HBr⟩ := hrel
    have hsz := HBr.out.size
    have hml : ms.length ≤ 7700 := by
     rw [HMS.out, List.length_append]
     have h1 := flatL_len (stepsOf R p k kz) 7 (ws.take q) (fun x hx => stepsOf_len (HWK.out.2 x (List.mem_of_mem_take hx)))
     rw [List.length_take] at h1
     omega
    by_cases hql : q < ws.length
    ·obtain ⟨gw, ow, eww, hgw, hwc⟩ := ways_some (HRWY.out.below HBr.out (Nat.le_refl _)) (by omega)
     subst eww
     obtain ⟨x0, x1, x2, x3⟩ := hwc q hql
     have HXO : Hid (wayOk (ws.getD q default) = true) := Lib.hid (HWK.out.2 _ (by rw [List.getD_eq_getElem?_getD, List.getElem?_eq_getElem hql]; exact List.getElem_mem hql))
     have HFT := Lib.hid (flatTake_snoc (stepsOf R p k kz) ws q hql)
     clear hwc
     generalize ws.getD q default = x at *
     have q0 := (HBx.out.below HBr.out (by omega)).cell 0 rfl
     have q1 := (HBx.out.below HBr.out (by omega)).cell 1 rfl
     have q2 := (HBx.out.below HBr.out (by omega)).cell 2 rfl
     have q3 := (HBx.out.below HBr.out (by omega)).cell 3 rfl
     have q4 := (HBx.out.below HBr.out (by omega)).cell 4 rfl
     have q5 := (HBx.out.below HBr.out (by omega)).cell 5 rfl
     have q6 := (HBx.out.below HBr.out (by omega)).cell 6 rfl
     have q7 := (HBx.out.below HBr.out (by omega)).cell 7 rfl
     have q8 := (HBx.out.below HBr.out (by omega)).cell 8 rfl
     have q9 := (HBx.out.below HBr.out (by omega)).cell 9 rfl
     have q10 := (HBx.out.below HBr.out (by omega)).cell 10 rfl
     have e0 := (HBy.out.below HBr.out (by omega)).cell 0 rfl
     have e1 := (HBy.out.below HBr.out (by omega)).cell 1 rfl
     have e2 := (HBy.out.below HBr.out (by omega)).cell 2 rfl
     have e3 := (HBy.out.below HBr.out (by omega)).cell 3 rfl
     have e4 := (HBy.out.below HBr.out (by omega)).cell 4 rfl
     have y0 : w.heap.size < wr.heap.size := by omega
     have y1 : w.heap.size + 1 < wr.heap.size := by omega
     go_wp2_with fail
     refine (way_any R _ vs ve p _ v0 v1 k x _ (HPw.out.1.below (HBr.out.alloc hsz _) (Nat.le_refl _)) K hlt HXO.out).mono ?_
     rintro e w5 ⟨vt, rfl, ht5, hb5⟩
     have HT5 := Lib.hid (own_base ht5 (show w0.heap.size ≤ _ by simp; omega))
     have HO5 := Lib.hid (own_stays (HO.out.alloc _) hb5)
     have HB5 := Lib.hid (below_trans (HBr.out.alloc hsz _) hb5 (HBr.out.alloc hsz _).size)
     have hts := wayZ_len R p k x HXO.out
     have HTM : Hid (∀ t ∈ wayZ R p k x, 0 ≤ t ∧ t < R.width * R.height) := Lib.hid (fun t h => wayZ_mem h)
     have HSO : Hid (stepsOf R p k kz x = (wayZ R p k x).map (moveTo R p k kz)) := Lib.hid rfl
     clear ht5 hb5 x0 x1 x2 x3
     clear q0 q1 q2 q3 q4 q5 q6 q7 q8 q9 q10 e0 e1 e2 e3 e4
     generalize wayZ R p k x = ts at *
     obtain ⟨at', ct, rfl⟩ := own_form2 HT5.out
     go_wp2_with fail
     clear y0 y1 hsz
     go_loopw [5, 56] (fun vo vi wr => ∃ (r : Nat) (ns : List MoveZ), r ≤ ts.length ∧ vi = .int .i64 r ∧ Hid (wr.ownsRow w0.heap.size 44 3 vo ns.length (flatM ns)) ∧ Hid (ns = ms ++ (ts.take r).map (moveTo R p k kz)) ∧ Hid (wr.ownsRow w0.heap.size 3 1 (.slice at' ts.length ct) ts.length (ints ts)) ∧ Hid (Below w0.heap.size w0 wr)) (fun _ i _ => ts.length - (intOf i).toNat)
     case atStart => exact ⟨0, ms, Nat.zero_le _, rfl, HO5, Lib.hid (by simp), HT5, HB5⟩
     case round =>
      obtain ⟨r, ns, hr', rfl, HO, HNS, HT, HBr⟩ := hrel
      have hsz := HBr.out.size
      have hnl : ns.length ≤ 7800 := by
       rw [HNS.out, List.length_append, List.length_map, List.length_take]
       omega
      by_cases hrl : r < ts.length
      ·obtain ⟨gt, ct', hvt⟩ := own_some HT.out (by omega)
       simp only [Value.slice.injEq, true_and] at hvt
       obtain ⟨rfl, rfl⟩ := hvt
       have ht0 : wr.cell? ⟨gt, r, none⟩ = some (.int .i64 (ts.getD r 0)) := (HT.out.cellAt r (by omega)).trans (ints_get _ r hrl)
       have htm := HTM.out (ts.getD r 0) (by rw [List.getD_eq_getElem?_getD, List.getElem?_eq_getElem hrl]; exact List.getElem_mem hrl)
       have HTS1 := Lib.hid (mapTake_snoc (moveTo R p k kz) ts r hrl)
       have htm1 := htm.1
       have htm2 : ts.getD r 0 ≤ 64 := by have := HWH.out; omega
       clear htm
       generalize ts.getD r 0 = t at *
       have HMV := Lib.hid (HMT.out t)
       have HPB := Lib.hid HPR.out
       go_upto_region 14 with (fail)
       clear ht0
       have mb0 := Box.new' wr wr.heap.size [.int .i64 k, .int .i64 t, .int .i64 kz] 44 rfl
       have HOm := Lib.hid (HO.out.alloc (.cells #[.int .i64 k, .int .i64 t, .int .i64 kz] 44))
       have HTm := Lib.hid (HT.out.alloc (.cells #[.int .i64 k, .int .i64 t, .int .i64 kz] 44))
       have HBm := Lib.hid (HBr.out.alloc hsz (.cells #[.int .i64 k, .int .i64 t, .int .i64 kz] 44))
       have HOB : Hid (∀ b, u5.ownBlock = some b → b < wr.heap.size) := Lib.hid (fun b hb => (HO.out.lt b hb).2)
       have HTB : Hid (∀ b, (Value.slice (some ⟨gt, 0, none⟩) ts.length ct).ownBlock = some b → b < wr.heap.size) := Lib.hid (fun b hb => (HT.out.lt b hb).2)
       have hzm : wr.heap.size < (wr.alloc (.cells #[.int .i64 k, .int .i64 t, .int .i64 kz] 44)).heap.size := by simp
       generalize (wr.alloc (.cells #[.int .i64 k, .int .i64 t, .int .i64 kz] 44)) = wm at *
       have hpm := (HBm.out.cell hgp).trans HPP.out
       generalize (R.pieces.getD kz.toNat default).promote = pr at *
       have hpb := HPB.out
       have hszm := HBm.out.size
       have y0 : w.heap.size < wm.heap.size := by omega
       have y1 : w.heap.size + 1 < wm.heap.size := by omega
       have q0 := (HBx.out.below HBm.out (by omega)).cell 0 rfl
       have q1 := (HBx.out.below HBm.out (by omega)).cell 1 rfl
       have q2 := (HBx.out.below HBm.out (by omega)).cell 2 rfl
       have q3 := (HBx.out.below HBm.out (by omega)).cell 3 rfl
       have q4 := (HBx.out.below HBm.out (by omega)).cell 4 rfl
       have q5 := (HBx.out.below HBm.out (by omega)).cell 5 rfl
       have q6 := (HBx.out.below HBm.out (by omega)).cell 6 rfl
       have q7 := (HBx.out.below HBm.out (by omega)).cell 7 rfl
       have q8 := (HBx.out.below HBm.out (by omega)).cell 8 rfl
       have q9 := (HBx.out.below HBm.out (by omega)).cell 9 rfl
       have q10 := (HBx.out.below HBm.out (by omega)).cell 10 rfl
       have e0 := (HBy.out.below HBm.out (by omega)).cell 0 rfl
       have e1 := (HBy.out.below HBm.out (by omega)).cell 1 rfl
       have e2 := (HBy.out.below HBm.out (by omega)).cell 2 rfl
       have e3 := (HBy.out.below HBm.out (by omega)).cell 3 rfl
       have e4 := (HBy.out.below HBm.out (by omega)).cell 4 rfl
       by_cases hpr : 0 < pr
       ·go_wp2_with fail
        refine (isLast_any R _ vs ve p.turn t _ K.r htm1 (by omega)).mono ?_
        rintro e w7 ⟨rfl, hb7⟩
        have MB := Lib.hid (mb0.stays hb7)
        have HO7 := Lib.hid (own_stays HOm.out hb7)
        have HT7 := Lib.hid (own_stays HTm.out hb7)
        have HB7 := Lib.hid (below_trans HBm.out hb7 HBm.out.size)
        have hs7 := hb7.size
        have m0 := MB.out.cell 0 rfl
        have m1 := MB.out.cell 1 rfl
        have m2 := MB.out.cell 2 rfl
        have m2f := MB.out.frozen 2
        clear hb7 mb0 hpm
        clear q0 q1 q2 q3 q4 q5 q6 q7 q8 q9 q10 e0 e1 e2 e3 e4
        cases hl : lastZ R p.turn t
        ·have HMF : Hid (moveTo R p k kz t = ⟨k, t, kz⟩) := Lib.hid (by rw [HMV.out, if_neg (by simp [hl])])
         clear hl
         have HOA := Lib.hid (HO7.out)
         have HTA := Lib.hid (HT7.out)
         have HBA := Lib.hid (HB7.out)
         have hszA := HBA.out.size
         have HSZ := Lib.hid hszA
         go_wp2_with (at_builtin; refine app_new 100 44 (.agg #[.int .i64 0, .int .i64 0, .int .i64 0]) 3 24 infoMove Tryz.underlying100 rfl (by decide) (by rfl) _ _ (by rfl) w0.heap.size _ ns.length (flatM ns) [.int .i64 k, .int .i64 t, .int .i64 (kz)] w7 HOA.out HSZ.out rfl three_ints (by omega) (by omega) (by rfl) (by rfl) ?_)
         intro g9 cap9 w9 hown9 hkeep9 hgrow9
         have HO9 := Lib.hid hown9
         have HB9 := Lib.hid (hkeep9.below HBA.out (Nat.le_refl _))
         have HT9 := Lib.hid ((HTA.out.alloc _).kept hgrow9 (own_ne (HTA.out.alloc (.cells #[.int .i64 k, .int .i64 t, .int .i64 (kz)] 44)) (HOA.out.alloc (.cells #[.int .i64 k, .int .i64 t, .int .i64 (kz)] 44)) (by decide)))
         clear hown9 hkeep9 hgrow9
         go_wp2_with fail
         go_roundw
         case rel => exact ⟨r + 1, ns ++ [⟨k, t, kz⟩], by omega, by go_num, Lib.hid (by rw [← flatM_append, List.length_append]; exact HO9.out), Lib.hid (by rw [HNS.out, HTS1.out, HMF.out]; simp), HT9, HB9⟩
         case measure => simp [intOf]; omega
        ·have HMF : Hid (moveTo R p k kz t = ⟨k, t, pr - 1⟩) := Lib.hid (by rw [HMV.out, if_pos ⟨hpr, hl⟩])
         clear hl
         have HOA := Lib.hid (ownsRow_setCell_other HO7.out (a := ⟨wr.heap.size, 2, none⟩) (fun e => Nat.lt_irrefl _ (HOB.out _ e)) (.int .i64 (pr - 1)))
         have HTA := Lib.hid (ownsRow_setCell_other HT7.out (a := ⟨wr.heap.size, 2, none⟩) (fun e => Nat.lt_irrefl _ (HTB.out _ e)) (.int .i64 (pr - 1)))
         have HBA := Lib.hid (Below.setCell HB7.out (p := ⟨wr.heap.size, 2, none⟩) (show w0.heap.size ≤ wr.heap.size by omega) (.int .i64 (pr - 1)))
         have hszA := HBA.out.size
         have MS := MB.out.set 2 (.int .i64 (pr - 1))
         go_upto_region 17 with (fail)
         clear m0 m1 m2 m2f
         generalize (w7.setCell ⟨wr.heap.size, 2, none⟩ (.int .i64 (pr - 1))) = wt at *
         have m0 := MS.cell 0 rfl
         have m1 := MS.cell 1 rfl
         have m2 := MS.cell 2 rfl
         clear MS
         have HSZ := Lib.hid hszA
         go_wp2_with (at_builtin; refine app_new 100 44 (.agg #[.int .i64 0, .int .i64 0, .int .i64 0]) 3 24 infoMove Tryz.underlying100 rfl (by decide) (by rfl) _ _ (by rfl) w0.heap.size _ ns.length (flatM ns) [.int .i64 k, .int .i64 t, .int .i64 (pr - 1)] wt HOA.out HSZ.out rfl three_ints (by omega) (by omega) (by rfl) (by rfl) ?_)
         intro g9 cap9 w9 hown9 hkeep9 hgrow9
         have HO9 := Lib.hid hown9
         have HB9 := Lib.hid (hkeep9.below HBA.out (Nat.le_refl _))
         have HT9 := Lib.hid ((HTA.out.alloc _).kept hgrow9 (own_ne (HTA.out.alloc (.cells #[.int .i64 k, .int .i64 t, .int .i64 (pr - 1)] 44)) (HOA.out.alloc (.cells #[.int .i64 k, .int .i64 t, .int .i64 (pr - 1)] 44)) (by decide)))
         clear hown9 hkeep9 hgrow9
         go_wp2_with fail
         go_roundw
         case rel => exact ⟨r + 1, ns ++ [⟨k, t, pr - 1⟩], by omega, by go_num, Lib.hid (by rw [← flatM_append, List.length_append]; exact HO9.out), Lib.hid (by rw [HNS.out, HTS1.out, HMF.out]; simp), HT9, HB9⟩
         case measure => simp [intOf]; omega
       ·have HMF : Hid (moveTo R p k kz t = ⟨k, t, kz⟩) := Lib.hid (by rw [HMV.out, if_neg (fun h => hpr h.1)])
        have m0 := mb0.cell 0 rfl
        have m1 := mb0.cell 1 rfl
        have m2 := mb0.cell 2 rfl
        clear mb0
        have HOA := Lib.hid HOm.out
        have HTA := Lib.hid HTm.out
        have HBA := Lib.hid HBm.out
        have hszA := HBA.out.size
        have HSZ := Lib.hid hszA
        go_wp2_with (at_builtin; refine app_new 100 44 (.agg #[.int .i64 0, .int .i64 0, .int .i64 0]) 3 24 infoMove Tryz.underlying100 rfl (by decide) (by rfl) _ _ (by rfl) w0.heap.size _ ns.length (flatM ns) [.int .i64 k, .int .i64 t, .int .i64 (kz)] wm HOA.out HSZ.out rfl three_ints (by omega) (by omega) (by rfl) (by rfl) ?_)
        intro g9 cap9 w9 hown9 hkeep9 hgrow9
        have HO9 := Lib.hid hown9
        have HB9 := Lib.hid (hkeep9.below HBA.out (Nat.le_refl _))
        have HT9 := Lib.hid ((HTA.out.alloc _).kept hgrow9 (own_ne (HTA.out.alloc (.cells #[.int .i64 k, .int .i64 t, .int .i64 (kz)] 44)) (HOA.out.alloc (.cells #[.int .i64 k, .int .i64 t, .int .i64 (kz)] 44)) (by decide)))
        clear hown9 hkeep9 hgrow9
        go_wp2_with fail
        go_roundw
        case rel => exact ⟨r + 1, ns ++ [⟨k, t, kz⟩], by omega, by go_num, Lib.hid (by rw [← flatM_append, List.length_append]; exact HO9.out), Lib.hid (by rw [HNS.out, HTS1.out, HMF.out]; simp), HT9, HB9⟩
        case measure => simp [intOf]; omega
      ·obtain rfl : r = ts.length := by omega
       have HE : Hid (ns = out ++ (ws.take (q + 1)).flatMap (stepsOf R p k kz)) := Lib.hid (by rw [HNS.out, HFT.out, HSO.out, HMS.out, List.take_of_length_le (Nat.le_refl _), List.append_assoc])
       go_wp2_with fail
       go_roundw
       case rel => exact ⟨q + 1, ns, by omega, by go_num, HO, HE, HBr⟩
       case measure => simp [intOf]; omega
    ·obtain rfl : q = ws.length := by omega
     have HE : Hid (ms = putsZ R p ++ (List.range (k + 1)).flatMap (stepsAt R p)) := Lib.hid (by rw [HMS.out, flatMap_snoc, HSE.out, HOUT.out, List.take_of_length_le (Nat.le_refl _), List.append_assoc])
     go_wp2_with fail
     go_roundw
     case rel => exact ⟨k + 1, ms, by omega, by go_num, HO, HE, HBr⟩
     case measure => simp [intOf]; omega
  ·obtain rfl : k = p.cells.length := by omega
   have HE : Hid (out = rawZ R p) := Lib.hid (by rw [HOUT.out, HRAW.out])
   have HLZ : Hid (listZ R p = compactZ (sortZ (rawZ R p))) := Lib.hid rfl
   have HSL : Hid ((sortZ (rawZ R p)).length = (rawZ R p).length) := Lib.hid (List.length_mergeSort _)
   obtain rfl := HE.out
   have HO5 := Lib.hid (fun (w' : World) (h : w'.ownsRow w0.heap.size 44 3 u5 (rawZ R p).length (flatM (rawZ R p))) => HSh.out w0.heap.size u5 (rawZ R p) w' h (by omega))
   go_wp2_with fail
   refine (HO5.out _ HO.out).mono ?_
   rintro e w5 ⟨rfl, ho5, hg5⟩
   have HB5 := Lib.hid (Below.grown HBr.out hg5 (by omega) (fun q hq => (HO.out.lt q hq).1))
   have HO6 := Lib.hid ho5
   rw [← HSL.out] at HO6
   have hl6 : (sortZ (rawZ R p)).length ≤ 1000000 := by rw [HSL.out]; omega
   clear ho5 hg5
   go_wp2_with fail
   refine (compact_any w0.heap.size u5 (sortZ (rawZ R p)) _ HO6.out hl6).mono ?_
   rintro e w6 ⟨v6, rfl, ho6, hg6⟩
   have HO7 := Lib.hid ho6
   have HB6 := Lib.hid (Below.grown HB5.out hg6 HB5.out.size (fun q hq => (HO6.out.lt q hq).1))
   clear ho6 hg6
   go_wp2_with fail
   go_ret
   exact ⟨_, rfl, by rw [HLZ.out]; exact (own_base HO7.out (by omega)), below_trans HB.out HB6.out HB.out.size⟩
end Go.Proofs.YthklhndcdijneaaGreatDoor
namespace Go.Proofs.YthklhndcdijneaaGreatDoor
open Go.ChangeShapes Go.WideShapes Go.ChangeAt Go.RowKit
set_option linter.unusedVariables false
/-- a position whose rows the call owns, apart from one another. -/
def OwnP (base : Nat) (w : World) (p : PosZ) (vc v0 v1 : Value) : Prop :=
 w.ownsRow base 3 1 vc p.cells.length (ints p.cells) ∧ w.ownsRow base 3 1 v0 p.h0.length (ints p.h0) ∧ w.ownsRow base 3 1 v1 p.h1.length (ints p.h1) ∧
 (vc.ownBlock = none ∨ vc.ownBlock ≠ v0.ownBlock) ∧ (vc.ownBlock = none ∨ vc.ownBlock ≠ v1.ownBlock) ∧ (v0.ownBlock = none ∨ v0.ownBlock ≠ v1.ownBlock)
theorem OwnP.rd {base : Nat} {w : World} {p : PosZ} {vc v0 v1 : Value} (h : OwnP base w p vc v0 v1) : RdP w p vc v0 v1 := ⟨RdI.of_own h.1, RdI.of_own h.2.1, RdI.of_own h.2.2.1⟩
theorem OwnP.base {base b : Nat} {w : World} {p : PosZ} {vc v0 v1 : Value} (h : OwnP base w p vc v0 v1) (hb : b ≤ base) : OwnP b w p vc v0 v1 := ⟨own_base h.1 hb, own_base h.2.1 hb, own_base h.2.2.1 hb, h.2.2.2⟩
theorem apart_of {v : Value} {v' : Value} {B : Nat} (h : ∀ k, v.ownBlock = some k → k < B) (h' : ∀ k, v'.ownBlock = some k → B ≤ k) : v.ownBlock = none ∨ v.ownBlock ≠ v'.ownBlock := by
 cases hv : v.ownBlock with
 | none => exact .inl rfl
 | some k =>
  right
  intro e
  have := h k hv
  have := h' k e.symm
  omega
theorem apart_swap {v0 v1 : Value} (h : v0.ownBlock = none ∨ v0.ownBlock ≠ v1.ownBlock) : v1.ownBlock = none ∨ v1.ownBlock ≠ v0.ownBlock := by
 cases h1 : v1.ownBlock with
 | none => exact .inl rfl
 | some b =>
  right
  rcases h with h | h
  ·rw [h]; simp
  ·rw [h1] at h; exact fun e => h e.symm
def CopyPost (p : PosZ) (w : World) (e : Ending) (w' : World) : Prop := ∃ vc v0 v1, e = .returned (posV p vc v0 v1) ∧ OwnP w.heap.size w' p vc v0 v1 ∧ Below w.heap.size w w'
set_option maxRecDepth 100000 in
set_option maxHeartbeats 4000000 in
theorem Copy_any (p : PosZ) (vc v0 v1 : Value) (w : World) (hp : RdP w p vc v0 v1) (hc : p.cells.length ≤ 1000000) (h0 : p.h0.length ≤ 1000000) (h1 : p.h1.length ≤ 1000000) :
  Calls Tryz.prog 70 #[(.agg #[vc, v0, v1, .int .i64 p.turn, .int .i64 p.quiet])] w (CopyPost p w) := by
 have HC := Lib.hid hp.1
 have H0 := Lib.hid hp.2.1
 have H1 := Lib.hid hp.2.2
 obtain ⟨ac, cc, rfl, hc1, hc2⟩ := hp.1.form
 obtain ⟨a0, c0, rfl, _, hk2⟩ := hp.2.1.form
 obtain ⟨a1, c1, rfl, _, hl2⟩ := hp.2.2.form
 unfold maxLen at hc2 hk2 hl2
 clear hp
 go_enter Tryz.func70, Tryz.ntmps70
 go_upto_region 1 with (fail)
 refine opn2 fun w0 B0 B1 yb_ hs_ => ?_
 have HB := Lib.hid yb_
 have hz0 : w.heap.size + 1 < w0.heap.size := by omega
 clear hs_ yb_
 have HCw := Lib.hid (HC.out.below HB.out (Nat.le_refl _))
 have H0w := Lib.hid (H0.out.below HB.out (Nat.le_refl _))
 have H1w := Lib.hid (H1.out.below HB.out (Nat.le_refl _))
 have HBx := Lib.hid B0
 have HBz := Lib.hid B1
 have e0 := B0.cell 0 rfl
 clear B0 B1
 go_wp2_with fail
 refine (Clone_any _ p.cells _ HCw.out hc).mono ?_
 rintro e wA0 ⟨vx, rfl, ho1, hb1⟩
 obtain ⟨an, cn, rfl⟩ := own_form2 ho1
 have HOc := Lib.hid ho1
 have HB1 := Lib.hid hb1
 have s1 := hb1.size
 have e0' := (HBx.out.below HB1.out (by omega)).cell 0 rfl
 have e0f := (HBx.out.below HB1.out (by omega)).frozen 0
 clear ho1 hb1 e0
 go_upto_region 2 with (fail)
 have bxn := (HBx.out.below HB1.out (by omega)).set 0 (.slice an p.cells.length cn)
 have bzn : Box (wA0.setCell ⟨w.heap.size, 0, none⟩ (.slice an p.cells.length cn)) (w.heap.size + 1) [.slice none 0 0, .slice none 0 0, .slice none 0 0, .int .i64 0, .int .i64 0] 66 := (HBz.out.below HB1.out (by omega)).far ⟨w.heap.size, 0, none⟩ _ (by show ¬ w.heap.size + 1 = w.heap.size; omega)
 have ocn := ownsRow_setCell_below (own_base HOc.out (show w.heap.size + 1 + 1 ≤ w0.heap.size by omega)) (a := ⟨w.heap.size, 0, none⟩) (by simp; omega) (.slice an p.cells.length cn)
 have lzn := (below_trans HB.out HB1.out HB.out.size).setCell (p := ⟨w.heap.size, 0, none⟩) (Nat.le_refl _) (.slice an p.cells.length cn)
 have hln : w.heap.size + 1 + 1 ≤ (wA0.setCell ⟨w.heap.size, 0, none⟩ (.slice an p.cells.length cn)).heap.size := by simp; omega
 clear e0' e0f
 generalize (wA0.setCell ⟨w.heap.size, 0, none⟩ (.slice an p.cells.length cn)) = wq at *
 have Bxz : Box wq.drew w.heap.size [(.slice an p.cells.length cn), .slice a0 p.h0.length c0, .slice a1 p.h1.length c1, .int .i64 p.turn, .int .i64 p.quiet] 66 := bxn
 have BZz : Box wq.drew (w.heap.size + 1) [.slice none 0 0, .slice none 0 0, .slice none 0 0, .int .i64 0, .int .i64 0] 66 := bzn
 have Ocz : wq.drew.ownsRow (w.heap.size + 1 + 1) 3 1 (.slice an p.cells.length cn) p.cells.length (ints p.cells) := ocn
 have Lz : Below w.heap.size w wq.drew := below_drew' lzn
 have hlo : w.heap.size + 1 + 1 ≤ wq.drew.heap.size := hln
 have R0z := H0.out.below Lz (Nat.le_refl _)
 have R1z := H1.out.below Lz (Nat.le_refl _)
 clear bxn bzn ocn lzn hln
 refine wp_region_noPanic ?_
 refine beginL (S := (fun w' => w'.cell? ⟨w.heap.size, 1, none⟩ = some (.slice a0 p.h0.length c0) ∧ w'.cell? ⟨w.heap.size, 2, none⟩ = some (.slice a1 p.h1.length c1))) (L := [10]) (by kernel_rfl) ⟨Bxz.cell 1 rfl, Bxz.cell 2 rfl⟩ (fun hHeld => ?_)
 refine tkW 0 ?_
 refine tkW 4 ?_
 refine tkW 1 ?_
 refine tkW 5 ?_
 refine tkL 2 ?_
 refine tkL 6 ?_
 refine cnL 3 fun K hK => ?_
 go_simp
 refine (Clone_any _ p.h0 _ R0z (by omega)).mono ?_
 rintro e wa3 ⟨vx, rfl, ho3, hb3⟩
 obtain ⟨am, cm, rfl⟩ := own_form2 ho3
 have Hz3 := hb3.size
 have Bx3 := Bxz.stays hb3
 have BZ3 := BZz.stays hb3
 have R13 := R1z.below hb3 (Nat.le_refl _)
 have Oc3 := own_stays Ocz hb3
 have L3 := below_trans Lz hb3 Lz.size
 have LtC : ∀ k, Value.ownBlock (.slice an p.cells.length cn) = some k → k < wq.drew.heap.size := fun k hk => (Ocz.lt k hk).2
 have Lt3 : ∀ k, Value.ownBlock (.slice am p.h0.length cm) = some k → k < wa3.heap.size ∧ wq.drew.heap.size ≤ k := fun k hk => ⟨(ho3.lt k hk).2, (ho3.lt k hk).1⟩
 have P3 := own_base ho3 hlo
 clear hb3 ho3
 refine hK.out _ _ ⟨Bx3.cell 1 rfl, Bx3.cell 2 rfl⟩ (fun hHeld => ?_)
 clear hK K
 refine cnL 7 fun K hK => ?_
 go_simp
 refine (Clone_any _ p.h1 _ R13 (by omega)).mono ?_
 rintro e wa7 ⟨vx, rfl, ho7, hb7⟩
 obtain ⟨ao, co, rfl⟩ := own_form2 ho7
 have hz3 := Hz3
 have Bx7 := Bx3.stays hb7
 have BZ7 := BZ3.stays hb7
 have Oc7 := own_stays Oc3 hb7
 have P37 := own_stays P3 hb7
 have L7 := below_trans L3 hb7 L3.size
 have P7 := own_base ho7 (Nat.le_trans hlo (Nat.le_trans hz3 (Nat.le_refl _)))
 have Lt7 : ∀ k, Value.ownBlock (.slice ao p.h1.length co) = some k → wa3.heap.size ≤ k := fun k hk => (ho7.lt k hk).1
 clear hb7 ho7
 refine hK.out _ _ ⟨Bx7.cell 1 rfl, Bx7.cell 2 rfl⟩ (fun hHeld => ?_)
 clear hK K
 refine tkW 8 ?_
 refine tkW 9 ?_
 refine ltL 10 fun K hK => ?_
 have d1f := Bx7.frozen 1
 have d2f := Bx7.frozen 2
 have d1c := Bx7.cell 1 rfl
 have d2c := Bx7.cell 2 rfl
 go_simp
 refine K_world ?_
 intro w9 e9
 have Bx10 : Box w9 w.heap.size [(.slice an p.cells.length cn), (.slice am p.h0.length cm), (.slice ao p.h1.length co), .int .i64 p.turn, .int .i64 p.quiet] 66 := by rw [e9]; exact (Bx7.set 1 (.slice am p.h0.length cm)).set 2 (.slice ao p.h1.length co)
 have E9 := Lib.hid e9
 clear e9 d1f d2f d1c d2c
 refine hK.out _ _ ?_
 clear hK K
 refine dnN ?_
 have HOw : Hid (OwnP (w.heap.size + 1 + 1) w9 p (.slice an p.cells.length cn) (.slice am p.h0.length cm) (.slice ao p.h1.length co)) := Lib.hid ⟨by rw [E9.out]; exact ownsRow_setCell_below (ownsRow_setCell_below Oc7 (by simp; omega) _) (by simp; omega) _, by rw [E9.out]; exact ownsRow_setCell_below (ownsRow_setCell_below P37 (by simp; omega) _) (by simp; omega) _, by rw [E9.out]; exact ownsRow_setCell_below (ownsRow_setCell_below P7 (by simp; omega) _) (by simp; omega) _, apart_of LtC (fun k hk => (Lt3 k hk).2), apart_of LtC (fun k hk => Nat.le_trans Hz3 (Lt7 k hk)), apart_of (fun k hk => (Lt3 k hk).1) Lt7⟩
 have HL9 : Hid (Below w.heap.size w w9) := Lib.hid (by rw [E9.out]; exact (L7.setCell (Nat.le_refl _) _).setCell (Nat.le_refl _) _)
 have HX9 := Lib.hid Bx10
 have HZ9 : Hid (Box w9 (w.heap.size + 1) [.slice none 0 0, .slice none 0 0, .slice none 0 0, .int .i64 0, .int .i64 0] 66) := Lib.hid (by rw [E9.out]; exact ((BZ7.far ⟨w.heap.size, 1, none⟩ _ (by show ¬ w.heap.size + 1 = w.heap.size; omega)).far ⟨w.heap.size, 2, none⟩ _ (by show ¬ w.heap.size + 1 = w.heap.size; omega)))
 clear Bx10 hHeld E9 LtC Lt3 Lt7 Oc7 P37 P7 L7 Bx7 Bx3 L3 P3 Oc3 R13 BZ7 BZ3
 go_upto_region 3 with (fail)
 refine wp_region_lit ?_
 refine wpList_load_box (by rfl) 66 (.tmp 1) (by rfl) w.heap.size (by rfl) HX9.out Tryz.underlying66 (by rfl) (by kernel_rfl) ?_
 refine wpList_store_box (vs := [(.slice an p.cells.length cn), (.slice am p.h0.length cm), (.slice ao p.h1.length co), .int .i64 p.turn, .int .i64 p.quiet]) (by rfl) 66 (.tmp 2) (.tmp 17) (by rfl) (w.heap.size + 1) (by rfl) (by rfl) HZ9.out rfl (by kernel_rfl) (by rfl) ?_
 have HS := Lib.hid (HZ9.out.store (vs := [(.slice an p.cells.length cn), (.slice am p.h0.length cm), (.slice ao p.h1.length co), .int .i64 p.turn, .int .i64 p.quiet]) rfl)
 have HOf : Hid (OwnP (w.heap.size + 1 + 1) (w9.setCells (w.heap.size + 1) 0 [(.slice an p.cells.length cn), (.slice am p.h0.length cm), (.slice ao p.h1.length co), .int .i64 p.turn, .int .i64 p.quiet]) p (.slice an p.cells.length cn) (.slice am p.h0.length cm) (.slice ao p.h1.length co)) := Lib.hid ⟨own_setCells HOw.out.1 (by omega) 0 _, own_setCells HOw.out.2.1 (by omega) 0 _, own_setCells HOw.out.2.2.1 (by omega) 0 _, HOw.out.2.2.2⟩
 have HLf := Lib.hid (below_setCells HL9.out (show w.heap.size ≤ w.heap.size + 1 by omega) 0 [(.slice an p.cells.length cn), (.slice am p.h0.length cm), (.slice ao p.h1.length co), .int .i64 p.turn, .int .i64 p.quiet])
 generalize (w9.setCells (w.heap.size + 1) 0 [(.slice an p.cells.length cn), (.slice am p.h0.length cm), (.slice ao p.h1.length co), .int .i64 p.turn, .int .i64 p.quiet]) = wf at *
 go_wp2_with fail
 exact bodyPost_ret (results_one rfl (by rfl) HS.out Tryz.underlying66 (by rfl) (by kernel_rfl)) rfl ⟨_, _, _, rfl, HOf.out.base (by omega), HLf.out⟩
end Go.Proofs.YthklhndcdijneaaGreatDoor

/- The contract of moves.List. -/
import Derived.Test.YtnieifdogllbfaaMv2
import Derived.Test.YtnieifdogllbfaaMvW
import Derived.Test.YtnieifdogllbfaaMvC
import Derived.Test.YtnieifdogllbfaaMvK
namespace Go.Proofs.Ytnieifdogllbfaa
open Go.ChangeShapes Go.WideShapes Go.ChangeAt Go.RowKit
set_option linter.unusedVariables false

/-! ### lengths and ranges -/
theorem wayFrom_mem (R : RulesZ) (p : PosZ) (x : WayZ) (dy : Int) : ∀ (n : Nat) (a b t : Int), t ∈ wayFrom R p x dy n a b → 0 ≤ t ∧ t < R.width * R.height
  | 0, a, b, t, h => by simp [wayFrom] at h
  | n + 1, a, b, t, h => by
    rw [wayFrom] at h
    by_cases hin : a + x.dx < 0 ∨ R.width ≤ a + x.dx ∨ b + dy < 0 ∨ R.height ≤ b + dy
    · rw [if_pos hin] at h; cases h
    rw [if_neg hin, List.mem_append] at h
    rcases h with h | h
    · split at h
      · simp at h; subst h
        exact inside (by omega) (by omega) (by omega) (by omega)
      · cases h
    · split at h
      · cases h
      · exact wayFrom_mem R p x dy n _ _ t h
theorem wayZ_mem {R : RulesZ} {p : PosZ} {s : Int} {x : WayZ} {t : Int} (h : t ∈ wayZ R p s x) : 0 ≤ t ∧ t < R.width * R.height := wayFrom_mem _ _ _ _ _ _ _ _ h
theorem wayZ_len (R : RulesZ) (p : PosZ) (s : Int) (x : WayZ) (h : wayOk x = true) : (wayZ R p s x).length ≤ 7 := by
  obtain ⟨_, _, h1, _⟩ := wayOk_of h
  have := wayFrom_len R p x (if p.turn = 1 then -x.dy else x.dy) x.most.toNat (s % R.width) (s / R.width)
  unfold wayZ
  omega
theorem flatL_len {α β : Type} (f : α → List β) (b : Nat) : ∀ l : List α, (∀ x ∈ l, (f x).length ≤ b) → (l.flatMap f).length ≤ l.length * b
  | [], _ => by simp
  | x :: t, h => by
    rw [List.flatMap_cons, List.length_append, List.length_cons, Nat.add_mul, Nat.one_mul]
    have := h x (by simp)
    have := flatL_len f b t (fun y hy => h y (by simp [hy]))
    omega
def stepsOf (R : RulesZ) (p : PosZ) (s : Nat) (k : Int) (x : WayZ) : List MoveZ := (wayZ R p s x).map (moveTo R p s k)
theorem ways_at {R : RulesZ} (K : ROk R) (k : Nat) : (R.pieces.getD k default).ways.length ≤ 16 ∧ ∀ x ∈ (R.pieces.getD k default).ways, wayOk x = true := by
  by_cases hk : k < R.pieces.length
  · obtain ⟨_, _, h1, h2⟩ := K.pc k hk
    refine ⟨h1, fun x hx => ?_⟩
    obtain ⟨j, hj, rfl⟩ := List.mem_iff_getElem.1 hx
    have := h2 j hj
    rw [List.getD_eq_getElem?_getD, List.getElem?_eq_getElem hj] at this
    exact this
  · rw [List.getD_eq_getElem?_getD, List.getElem?_eq_none (by omega)]
    exact ⟨Nat.zero_le _, fun x hx => by cases hx⟩
theorem stepsOf_len {R : RulesZ} {p : PosZ} {s : Nat} {k : Int} {x : WayZ} (h : wayOk x = true) : (stepsOf R p s k x).length ≤ 7 := by
  unfold stepsOf
  rw [List.length_map]
  exact wayZ_len _ _ _ _ h
theorem stepsAt_len {R : RulesZ} (K : ROk R) (p : PosZ) (s : Nat) : (stepsAt R p s).length ≤ 112 := by
  unfold stepsAt
  split
  · simp
  · obtain ⟨h1, h2⟩ := ways_at K ((p.cells.getD s 0 - 1) / 2).toNat
    have h3 := flatL_len (fun x => (wayZ R p s x).map (moveTo R p s ((p.cells.getD s 0 - 1) / 2))) 7 _ (fun x hx => by rw [List.length_map]; exact wayZ_len R p s x (h2 x hx))
    omega
theorem flatTake_snoc {α β : Type} [Inhabited α] (f : α → List β) (l : List α) (k : Nat) (h : k < l.length) : (l.take (k + 1)).flatMap f = (l.take k).flatMap f ++ f (l.getD k default) := by
  rw [List.take_succ_eq_append_getElem h, List.flatMap_append, List.getD_eq_getElem?_getD, List.getElem?_eq_getElem h]; simp
theorem mapTake_snoc {β : Type} (f : Int → β) (l : List Int) (k : Nat) (h : k < l.length) : (l.take (k + 1)).map f = (l.take k).map f ++ [f (l.getD k 0)] := by
  rw [List.take_succ_eq_append_getElem h, List.map_append, List.getD_eq_getElem?_getD, List.getElem?_eq_getElem h]; simp
def leM (x y : MoveZ) : Bool := !decide (ordM y x < 0)
def sortZ (l : List MoveZ) : List MoveZ := l.mergeSort leM
def listZ (R : RulesZ) (p : PosZ) : List MoveZ := compactZ (sortZ (rawZ R p))
/-- what is taken from the kit about slices.SortFunc: proved elsewhere. -/
def SortMvSaid : Prop := ∀ (base : Nat) (v : Value) (xs : List MoveZ) (w : World), w.ownsRow base 57 3 v xs.length (flatM xs) → xs.length ≤ 1000000 →
  Calls Try.prog 60 #[v, .func (.func 61) #[] #[]] w fun e w' => e = .returned (.tuple #[]) ∧ w'.ownsRow base 57 3 v xs.length (flatM (sortZ xs)) ∧ w.grownBy w' v.ownBlock

set_option maxRecDepth 100000 in
set_option maxHeartbeats 4000000 in
theorem List_any (HS : SortMvSaid) (R : RulesZ) (vp vs ve : Value) (p : PosZ) (vc v0 v1 : Value) (w : World) (hr : RdR w R vp vs ve) (hp : RdP w p vc v0 v1) (K : POk R p) :
    Calls Try.prog 41 #[(.agg #[.string R.name, .int .i64 R.width, .int .i64 R.height, vp, vs, .bool R.falls, .bool R.keeps, ve, .int .i64 R.blocked, .int .i64 R.quiet, .int .i64 R.rept]), (.agg #[vc, v0, v1, .int .i64 p.turn, .int .i64 p.quiet])] w (MovesPost (listZ R p) w) := by
  have HR := Lib.hid hr
  have HP := Lib.hid hp
  obtain ⟨ac, cc, rfl, hc1, hc2⟩ := hp.1.form
  obtain ⟨ap, cp, rfl, hp1, hp2⟩ := hr.1.form
  unfold maxLen at hc2 hp2
  have hlen := K.len
  have hnp := K.r.np
  have HSh := Lib.hid HS
  have HCB := Lib.hid K.cell
  have HCL := Lib.hid K.cl
  obtain ⟨hw1, hw2⟩ := K.r.w
  obtain ⟨hh1, hh2⟩ := K.r.h
  have HWH := Lib.hid (mul_in R.width R.height 8 8 hw1 hw2 hh1 hh2)
  have HRAW : Hid (rawZ R p = putsZ R p ++ (List.range p.cells.length).flatMap (stepsAt R p)) := Lib.hid rfl
  have HPL : Hid ((putsZ R p).length ≤ 384) := Lib.hid (by
    have h1 := flatMap_len (putsAt R p) 6 (fun k => by have := putsAt_len R p k; rw [hand_len K] at this; omega) p.cells.length
    unfold putsZ
    omega)
  clear hr hp HS
  go_enter Try.func41, Try.ntmps41
  go_upto_region 1 with (fail)
  have B0 : Box ((w.alloc (.cells #[.string R.name, .int .i64 R.width, .int .i64 R.height, (.slice ap R.pieces.length cp), vs, .bool R.falls, .bool R.keeps, ve, .int .i64 R.blocked, .int .i64 R.quiet, .int .i64 R.rept] 26)).alloc (.cells #[.slice ac p.cells.length cc, v0, v1, .int .i64 p.turn, .int .i64 p.quiet] 43)) (w.heap.size) [.string R.name, .int .i64 R.width, .int .i64 R.height, (.slice ap R.pieces.length cp), vs, .bool R.falls, .bool R.keeps, ve, .int .i64 R.blocked, .int .i64 R.quiet, .int .i64 R.rept] 26 := ((Box.new' w (w.heap.size) [.string R.name, .int .i64 R.width, .int .i64 R.height, (.slice ap R.pieces.length cp), vs, .bool R.falls, .bool R.keeps, ve, .int .i64 R.blocked, .int .i64 R.quiet, .int .i64 R.rept] 26 (by simp <;> omega)).alloc _)
  have B1 : Box ((w.alloc (.cells #[.string R.name, .int .i64 R.width, .int .i64 R.height, (.slice ap R.pieces.length cp), vs, .bool R.falls, .bool R.keeps, ve, .int .i64 R.blocked, .int .i64 R.quiet, .int .i64 R.rept] 26)).alloc (.cells #[.slice ac p.cells.length cc, v0, v1, .int .i64 p.turn, .int .i64 p.quiet] 43)) (w.heap.size + 1) [.slice ac p.cells.length cc, v0, v1, .int .i64 p.turn, .int .i64 p.quiet] 43 := (Box.new' (w.alloc (.cells #[.string R.name, .int .i64 R.width, .int .i64 R.height, (.slice ap R.pieces.length cp), vs, .bool R.falls, .bool R.keeps, ve, .int .i64 R.blocked, .int .i64 R.quiet, .int .i64 R.rept] 26)) (w.heap.size + 1) [.slice ac p.cells.length cc, v0, v1, .int .i64 p.turn, .int .i64 p.quiet] 43 (by simp <;> omega))
  have HB : Hid (Below w.heap.size w ((w.alloc (.cells #[.string R.name, .int .i64 R.width, .int .i64 R.height, (.slice ap R.pieces.length cp), vs, .bool R.falls, .bool R.keeps, ve, .int .i64 R.blocked, .int .i64 R.quiet, .int .i64 R.rept] 26)).alloc (.cells #[.slice ac p.cells.length cc, v0, v1, .int .i64 p.turn, .int .i64 p.quiet] 43))) := Lib.hid (((Below.refl w.heap.size w).alloc (Nat.le_refl _) _).alloc (by simp <;> omega) _)
  have hz0 : w.heap.size + 1 < ((w.alloc (.cells #[.string R.name, .int .i64 R.width, .int .i64 R.height, (.slice ap R.pieces.length cp), vs, .bool R.falls, .bool R.keeps, ve, .int .i64 R.blocked, .int .i64 R.quiet, .int .i64 R.rept] 26)).alloc (.cells #[.slice ac p.cells.length cc, v0, v1, .int .i64 p.turn, .int .i64 p.quiet] 43)).heap.size := by simp
  generalize ((w.alloc (.cells #[.string R.name, .int .i64 R.width, .int .i64 R.height, (.slice ap R.pieces.length cp), vs, .bool R.falls, .bool R.keeps, ve, .int .i64 R.blocked, .int .i64 R.quiet, .int .i64 R.rept] 26)).alloc (.cells #[.slice ac p.cells.length cc, v0, v1, .int .i64 p.turn, .int .i64 p.quiet] 43)) = w0 at *
  have HRw := Lib.hid (HR.out.below HB.out (Nat.le_refl _))
  have HPw := Lib.hid (HP.out.below HB.out (Nat.le_refl _))
  have HBx := Lib.hid B0
  have HBy := Lib.hid B1
  clear B0 B1
  have HB0 : Hid (Below w0.heap.size w0 w0) := Lib.hid (Below.refl _ _)
  have q0 := (HBx.out.below HB0.out (by omega)).cell 0 rfl
  have q1 := (HBx.out.below HB0.out (by omega)).cell 1 rfl
  have q2 := (HBx.out.below HB0.out (by omega)).cell 2 rfl
  have q3 := (HBx.out.below HB0.out (by omega)).cell 3 rfl
  have q4 := (HBx.out.below HB0.out (by omega)).cell 4 rfl
  have q5 := (HBx.out.below HB0.out (by omega)).cell 5 rfl
  have q6 := (HBx.out.below HB0.out (by omega)).cell 6 rfl
  have q7 := (HBx.out.below HB0.out (by omega)).cell 7 rfl
  have q8 := (HBx.out.below HB0.out (by omega)).cell 8 rfl
  have q9 := (HBx.out.below HB0.out (by omega)).cell 9 rfl
  have q10 := (HBx.out.below HB0.out (by omega)).cell 10 rfl
  have e0 := (HBy.out.below HB0.out (by omega)).cell 0 rfl
  have e1 := (HBy.out.below HB0.out (by omega)).cell 1 rfl
  have e2 := (HBy.out.below HB0.out (by omega)).cell 2 rfl
  have e3 := (HBy.out.below HB0.out (by omega)).cell 3 rfl
  have e4 := (HBy.out.below HB0.out (by omega)).cell 4 rfl
  go_wp2_with fail
  refine (puts_any R _ vs ve p _ v0 v1 w0 HPw.out K).mono ?_
  rintro e w1 ⟨vo1, rfl, ho1, hb1⟩
  have HO1 := Lib.hid ho1
  have HB1 := Lib.hid hb1
  have hz1 := hb1.size
  clear q0 q1 q2 q3 q4 q5 q6 q7 q8 q9 q10 e0 e1 e2 e3 e4
  clear ho1 hb1
  have e0 := (HBy.out.below HB1.out (by omega)).cell 0 rfl
  go_wp2_with fail
  go_loopw [5, 21] (fun vo vi wr => ∃ (k : Nat) (out : List MoveZ), k ≤ p.cells.length ∧ vi = .int .i64 k ∧ Hid (wr.ownsRow w0.heap.size 57 3 vo out.length (flatM out)) ∧ Hid (out = putsZ R p ++ (List.range k).flatMap (stepsAt R p)) ∧ Hid (Below w0.heap.size w0 wr)) (fun _ i _ => p.cells.length - (intOf i).toNat)
  case atStart => exact ⟨0, putsZ R p, Nat.zero_le _, rfl, HO1, Lib.hid (by simp), HB1⟩
  case round =>
    obtain ⟨k, out, hk, rfl, HO, HOUT, HBr⟩ := hrel
    have hsz := HBr.out.size
    have hol : out.length ≤ 7552 := by
      rw [HOUT.out, List.length_append]
      have h1 := flatMap_len (stepsAt R p) 112 (fun k => stepsAt_len K.r p k) k
      have h2 := HPL.out
      omega
    clear e0 hz1 HO1 HB1
    by_cases hlt : k < p.cells.length
    · obtain ⟨gc, oc, ec, hcc⟩ := cells_rd (HPw.out.1.below HBr.out (Nat.le_refl _)) (by omega)
      subst ec
      have hck := hcc k hlt
      have q0 := (HBx.out.below HBr.out (by omega)).cell 0 rfl
      have q1 := (HBx.out.below HBr.out (by omega)).cell 1 rfl
      have q2 := (HBx.out.below HBr.out (by omega)).cell 2 rfl
      have q3 := (HBx.out.below HBr.out (by omega)).cell 3 rfl
      have q4 := (HBx.out.below HBr.out (by omega)).cell 4 rfl
      have q5 := (HBx.out.below HBr.out (by omega)).cell 5 rfl
      have q6 := (HBx.out.below HBr.out (by omega)).cell 6 rfl
      have q7 := (HBx.out.below HBr.out (by omega)).cell 7 rfl
      have q8 := (HBx.out.below HBr.out (by omega)).cell 8 rfl
      have q9 := (HBx.out.below HBr.out (by omega)).cell 9 rfl
      have q10 := (HBx.out.below HBr.out (by omega)).cell 10 rfl
      have e0 := (HBy.out.below HBr.out (by omega)).cell 0 rfl
      have e1 := (HBy.out.below HBr.out (by omega)).cell 1 rfl
      have e2 := (HBy.out.below HBr.out (by omega)).cell 2 rfl
      have e3 := (HBy.out.below HBr.out (by omega)).cell 3 rfl
      have e4 := (HBy.out.below HBr.out (by omega)).cell 4 rfl
      clear hcc
      obtain ⟨b1, b2⟩ := HCB.out k
      have HSD : Hid (stepsAt R p k = if p.cells.getD k 0 = 0 ∨ (p.cells.getD k 0 - 1) % 2 ≠ p.turn then [] else (R.pieces.getD ((p.cells.getD k 0 - 1) / 2).toNat default).ways.flatMap (stepsOf R p k ((p.cells.getD k 0 - 1) / 2))) := Lib.hid rfl
      generalize p.cells.getD k 0 = c at *
      by_cases hc0 : c = 0
      · subst hc0
        have HSE : Hid (stepsAt R p k = []) := Lib.hid (by rw [HSD.out, if_pos (.inl rfl)])
        clear HSD
        go_wp2_with fail
        go_roundw
        case rel => exact ⟨k + 1, out, by omega, by go_num, HO, Lib.hid (by rw [flatMap_snoc, HSE.out, List.append_nil]; exact HOUT.out), HBr⟩
        case measure => simp [intOf]; omega
      have hc1' : 1 ≤ c := by omega
      have hcb : (c == 0) = false := by simpa using hc0
      cases hpar : ((c - 1) % 2 == p.turn)
      · have hpar2 : ((c - 1) % 2 != p.turn) = true := by simp [bne, hpar]
        have HSE : Hid (stepsAt R p k = []) := Lib.hid (by rw [HSD.out, if_pos (.inr (by simpa using hpar))])
        clear HSD hc0
        go_wp2_with fail
        go_roundw
        case rel => exact ⟨k + 1, out, by omega, by go_num, HO, Lib.hid (by rw [flatMap_snoc, HSE.out, List.append_nil]; exact HOUT.out), HBr⟩
        case measure => simp [intOf]; omega
      have hpar2 : ((c - 1) % 2 != p.turn) = false := by simp [bne, hpar]
      have HSE : Hid (stepsAt R p k = (R.pieces.getD ((c - 1) / 2).toNat default).ways.flatMap (stepsOf R p k ((c - 1) / 2))) := Lib.hid (by rw [HSD.out, if_neg]; rintro (h | h); exact hc0 h; exact h (by simpa using hpar))
      clear HSD hc0
      have hz0' : 0 ≤ ((c - 1) / 2) := by omega
      have hz1' : ((c - 1) / 2) < R.pieces.length := by omega
      go_upto_region 7 with (fail)
      obtain ⟨gp, op, epp, hgp, hpcs⟩ := pieces_some HRw.out.1 (by omega)
      subst epp
      obtain ⟨vw, -, -, hpp0, hvw0, hrw⟩ := hpcs ((c - 1) / 2).toNat (by omega)
      have HWK := Lib.hid (ways_at K.r ((c - 1) / 2).toNat)
      have HPR := Lib.hid ((K.r.pc ((c - 1) / 2).toNat (by omega)).2.1)
      have HMT : Hid (∀ t : Int, moveTo R p k ((c - 1) / 2) t = ⟨k, t, if 0 < (R.pieces.getD ((c - 1) / 2).toNat default).promote ∧ lastZ R p.turn t = true then (R.pieces.getD ((c - 1) / 2).toNat default).promote - 1 else ((c - 1) / 2)⟩) := Lib.hid (fun _ => rfl)
      obtain ⟨aw, cw, rfl, hw3, hw4⟩ := hrw.form
      unfold maxLen at hw4
      have HRWY := Lib.hid hrw
      have HPP := Lib.hid hpp0
      have hvw := (HBr.out.cell hgp).trans hvw0
      clear hpcs hrw hpp0 hvw0
      generalize (R.pieces.getD ((c - 1) / 2).toNat default).ways = ws at *
      have hwl := HWK.out.1
      go_wp2_with fail
      generalize (c - 1) / 2 = kz at *
      obtain ⟨wA, rfl⟩ : ∃ wA : World, wA = wr := ⟨_, rfl⟩
      clear q0 q1 q2 q3 q4 q5 q6 q7 q8 q9 q10 e0 e1 e2 e3 e4
      clear hvw hck
      go_loopw [5, 46] (fun vo vi wr => ∃ (q : Nat) (ms : List MoveZ), q ≤ ws.length ∧ vi = .int .i64 q ∧ Hid (wr.ownsRow w0.heap.size 57 3 vo ms.length (flatM ms)) ∧ Hid (ms = out ++ (ws.take q).flatMap (stepsOf R p k kz)) ∧ Hid (Below w0.heap.size w0 wr)) (fun _ i _ => ws.length - (intOf i).toNat)
      case atStart => exact ⟨0, out, Nat.zero_le _, rfl, HO, Lib.hid (by simp), HBr⟩
      case round =>
        obtain ⟨q, ms, hq, rfl, HO, HMS, HBr⟩ := hrel
        have hsz := HBr.out.size
        have hml : ms.length ≤ 7700 := by
          rw [HMS.out, List.length_append]
          have h1 := flatL_len (stepsOf R p k kz) 7 (ws.take q) (fun x hx => stepsOf_len (HWK.out.2 x (List.mem_of_mem_take hx)))
          rw [List.length_take] at h1
          omega
        by_cases hql : q < ws.length
        · obtain ⟨gw, ow, eww, hgw, hwc⟩ := ways_some (HRWY.out.below HBr.out (Nat.le_refl _)) (by omega)
          subst eww
          obtain ⟨x0, x1, x2, x3⟩ := hwc q hql
          have HXO : Hid (wayOk (ws.getD q default) = true) := Lib.hid (HWK.out.2 _ (by rw [List.getD_eq_getElem?_getD, List.getElem?_eq_getElem hql]; exact List.getElem_mem hql))
          have HFT := Lib.hid (flatTake_snoc (stepsOf R p k kz) ws q hql)
          clear hwc
          generalize ws.getD q default = x at *
          have q0 := (HBx.out.below HBr.out (by omega)).cell 0 rfl
          have q1 := (HBx.out.below HBr.out (by omega)).cell 1 rfl
          have q2 := (HBx.out.below HBr.out (by omega)).cell 2 rfl
          have q3 := (HBx.out.below HBr.out (by omega)).cell 3 rfl
          have q4 := (HBx.out.below HBr.out (by omega)).cell 4 rfl
          have q5 := (HBx.out.below HBr.out (by omega)).cell 5 rfl
          have q6 := (HBx.out.below HBr.out (by omega)).cell 6 rfl
          have q7 := (HBx.out.below HBr.out (by omega)).cell 7 rfl
          have q8 := (HBx.out.below HBr.out (by omega)).cell 8 rfl
          have q9 := (HBx.out.below HBr.out (by omega)).cell 9 rfl
          have q10 := (HBx.out.below HBr.out (by omega)).cell 10 rfl
          have e0 := (HBy.out.below HBr.out (by omega)).cell 0 rfl
          have e1 := (HBy.out.below HBr.out (by omega)).cell 1 rfl
          have e2 := (HBy.out.below HBr.out (by omega)).cell 2 rfl
          have e3 := (HBy.out.below HBr.out (by omega)).cell 3 rfl
          have e4 := (HBy.out.below HBr.out (by omega)).cell 4 rfl
          have y0 : w.heap.size < wr.heap.size := by omega
          have y1 : w.heap.size + 1 < wr.heap.size := by omega
          go_wp2_with fail
          refine (way_any R _ vs ve p _ v0 v1 k x _ (HPw.out.1.below (HBr.out.alloc hsz _) (Nat.le_refl _)) K hlt HXO.out).mono ?_
          rintro e w5 ⟨vt, rfl, ht5, hb5⟩
          have HT5 := Lib.hid (own_base ht5 (show w0.heap.size ≤ _ by simp; omega))
          have HO5 := Lib.hid (own_stays (HO.out.alloc _) hb5)
          have HB5 := Lib.hid (below_trans (HBr.out.alloc hsz _) hb5 (HBr.out.alloc hsz _).size)
          have hts := wayZ_len R p k x HXO.out
          have HTM : Hid (∀ t ∈ wayZ R p k x, 0 ≤ t ∧ t < R.width * R.height) := Lib.hid (fun t h => wayZ_mem h)
          have HSO : Hid (stepsOf R p k kz x = (wayZ R p k x).map (moveTo R p k kz)) := Lib.hid rfl
          clear ht5 hb5 x0 x1 x2 x3
          clear q0 q1 q2 q3 q4 q5 q6 q7 q8 q9 q10 e0 e1 e2 e3 e4
          generalize wayZ R p k x = ts at *
          obtain ⟨at', ct, rfl⟩ := own_form2 HT5.out
          go_wp2_with fail
          clear y0 y1 hsz
          go_loopw [5, 56] (fun vo vi wr => ∃ (r : Nat) (ns : List MoveZ), r ≤ ts.length ∧ vi = .int .i64 r ∧ Hid (wr.ownsRow w0.heap.size 57 3 vo ns.length (flatM ns)) ∧ Hid (ns = ms ++ (ts.take r).map (moveTo R p k kz)) ∧ Hid (wr.ownsRow w0.heap.size 3 1 (.slice at' ts.length ct) ts.length (ints ts)) ∧ Hid (Below w0.heap.size w0 wr)) (fun _ i _ => ts.length - (intOf i).toNat)
          case atStart => exact ⟨0, ms, Nat.zero_le _, rfl, HO5, Lib.hid (by simp), HT5, HB5⟩
          case round =>
            obtain ⟨r, ns, hr', rfl, HO, HNS, HT, HBr⟩ := hrel
            have hsz := HBr.out.size
            have hnl : ns.length ≤ 7800 := by
              rw [HNS.out, List.length_append, List.length_map, List.length_take]
              omega
            by_cases hrl : r < ts.length
            · obtain ⟨gt, ct', hvt⟩ := own_some HT.out (by omega)
              simp only [Value.slice.injEq, true_and] at hvt
              obtain ⟨rfl, rfl⟩ := hvt
              have ht0 : wr.cell? ⟨gt, r, none⟩ = some (.int .i64 (ts.getD r 0)) := (HT.out.cellAt r (by omega)).trans (ints_get _ r hrl)
              have htm := HTM.out (ts.getD r 0) (by rw [List.getD_eq_getElem?_getD, List.getElem?_eq_getElem hrl]; exact List.getElem_mem hrl)
              have HTS1 := Lib.hid (mapTake_snoc (moveTo R p k kz) ts r hrl)
              have htm1 := htm.1
              have htm2 : ts.getD r 0 ≤ 64 := by have := HWH.out; omega
              clear htm
              generalize ts.getD r 0 = t at *
              have HMV := Lib.hid (HMT.out t)
              have HPB := Lib.hid HPR.out
              go_upto_region 14 with (fail)
              clear ht0
              have mb0 := Box.new' wr wr.heap.size [.int .i64 k, .int .i64 t, .int .i64 kz] 57 rfl
              have HOm := Lib.hid (HO.out.alloc (.cells #[.int .i64 k, .int .i64 t, .int .i64 kz] 57))
              have HTm := Lib.hid (HT.out.alloc (.cells #[.int .i64 k, .int .i64 t, .int .i64 kz] 57))
              have HBm := Lib.hid (HBr.out.alloc hsz (.cells #[.int .i64 k, .int .i64 t, .int .i64 kz] 57))
              have HOB : Hid (∀ b, u5.ownBlock = some b → b < wr.heap.size) := Lib.hid (fun b hb => (HO.out.lt b hb).2)
              have HTB : Hid (∀ b, (Value.slice (some ⟨gt, 0, none⟩) ts.length ct).ownBlock = some b → b < wr.heap.size) := Lib.hid (fun b hb => (HT.out.lt b hb).2)
              have hzm : wr.heap.size < (wr.alloc (.cells #[.int .i64 k, .int .i64 t, .int .i64 kz] 57)).heap.size := by simp
              generalize (wr.alloc (.cells #[.int .i64 k, .int .i64 t, .int .i64 kz] 57)) = wm at *
              have hpm := (HBm.out.cell hgp).trans HPP.out
              generalize (R.pieces.getD kz.toNat default).promote = pr at *
              have hpb := HPB.out
              have hszm := HBm.out.size
              have y0 : w.heap.size < wm.heap.size := by omega
              have y1 : w.heap.size + 1 < wm.heap.size := by omega
              have q0 := (HBx.out.below HBm.out (by omega)).cell 0 rfl
              have q1 := (HBx.out.below HBm.out (by omega)).cell 1 rfl
              have q2 := (HBx.out.below HBm.out (by omega)).cell 2 rfl
              have q3 := (HBx.out.below HBm.out (by omega)).cell 3 rfl
              have q4 := (HBx.out.below HBm.out (by omega)).cell 4 rfl
              have q5 := (HBx.out.below HBm.out (by omega)).cell 5 rfl
              have q6 := (HBx.out.below HBm.out (by omega)).cell 6 rfl
              have q7 := (HBx.out.below HBm.out (by omega)).cell 7 rfl
              have q8 := (HBx.out.below HBm.out (by omega)).cell 8 rfl
              have q9 := (HBx.out.below HBm.out (by omega)).cell 9 rfl
              have q10 := (HBx.out.below HBm.out (by omega)).cell 10 rfl
              have e0 := (HBy.out.below HBm.out (by omega)).cell 0 rfl
              have e1 := (HBy.out.below HBm.out (by omega)).cell 1 rfl
              have e2 := (HBy.out.below HBm.out (by omega)).cell 2 rfl
              have e3 := (HBy.out.below HBm.out (by omega)).cell 3 rfl
              have e4 := (HBy.out.below HBm.out (by omega)).cell 4 rfl
              by_cases hpr : 0 < pr
              · go_wp2_with fail
                refine (isLast_any R _ vs ve p.turn t _ K.r htm1 (by omega)).mono ?_
                rintro e w7 ⟨rfl, hb7⟩
                have MB := Lib.hid (mb0.stays hb7)
                have HO7 := Lib.hid (own_stays HOm.out hb7)
                have HT7 := Lib.hid (own_stays HTm.out hb7)
                have HB7 := Lib.hid (below_trans HBm.out hb7 HBm.out.size)
                have hs7 := hb7.size
                have m0 := MB.out.cell 0 rfl
                have m1 := MB.out.cell 1 rfl
                have m2 := MB.out.cell 2 rfl
                have m2f := MB.out.frozen 2
                clear hb7 mb0 hpm
                clear q0 q1 q2 q3 q4 q5 q6 q7 q8 q9 q10 e0 e1 e2 e3 e4
                cases hl : lastZ R p.turn t
                · have HMF : Hid (moveTo R p k kz t = ⟨k, t, kz⟩) := Lib.hid (by rw [HMV.out, if_neg (by simp [hl])])
                  clear hl
                  have HOA := Lib.hid (HO7.out)
                  have HTA := Lib.hid (HT7.out)
                  have HBA := Lib.hid (HB7.out)
                  have hszA := HBA.out.size
                  have HSZ := Lib.hid hszA
                  go_wp2_with (at_builtin; refine app_new 36 57 (.agg #[.int .i64 0, .int .i64 0, .int .i64 0]) 3 24 infoMove Try.underlying36 rfl (by decide) (by rfl) _ _ (by rfl) w0.heap.size _ ns.length (flatM ns) [.int .i64 k, .int .i64 t, .int .i64 (kz)] w7 HOA.out HSZ.out rfl three_ints (by omega) (by omega) (by rfl) (by rfl) ?_)
                  intro g9 cap9 w9 hown9 hkeep9 hgrow9
                  have HO9 := Lib.hid hown9
                  have HB9 := Lib.hid (hkeep9.below HBA.out (Nat.le_refl _))
                  have HT9 := Lib.hid ((HTA.out.alloc _).kept hgrow9 (own_ne (HTA.out.alloc (.cells #[.int .i64 k, .int .i64 t, .int .i64 (kz)] 57)) (HOA.out.alloc (.cells #[.int .i64 k, .int .i64 t, .int .i64 (kz)] 57)) (by decide)))
                  clear hown9 hkeep9 hgrow9
                  go_wp2_with fail
                  go_roundw
                  case rel => exact ⟨r + 1, ns ++ [⟨k, t, kz⟩], by omega, by go_num, Lib.hid (by rw [← flatM_append, List.length_append]; exact HO9.out), Lib.hid (by rw [HNS.out, HTS1.out, HMF.out]; simp), HT9, HB9⟩
                  case measure => simp [intOf]; omega
                · have HMF : Hid (moveTo R p k kz t = ⟨k, t, pr - 1⟩) := Lib.hid (by rw [HMV.out, if_pos ⟨hpr, hl⟩])
                  clear hl
                  have HOA := Lib.hid (ownsRow_setCell_other HO7.out (a := ⟨wr.heap.size, 2, none⟩) (fun e => Nat.lt_irrefl _ (HOB.out _ e)) (.int .i64 (pr - 1)))
                  have HTA := Lib.hid (ownsRow_setCell_other HT7.out (a := ⟨wr.heap.size, 2, none⟩) (fun e => Nat.lt_irrefl _ (HTB.out _ e)) (.int .i64 (pr - 1)))
                  have HBA := Lib.hid (Below.setCell HB7.out (p := ⟨wr.heap.size, 2, none⟩) (show w0.heap.size ≤ wr.heap.size by omega) (.int .i64 (pr - 1)))
                  have hszA := HBA.out.size
                  have MS := MB.out.set 2 (.int .i64 (pr - 1))
                  go_upto_region 17 with (fail)
                  clear m0 m1 m2 m2f
                  generalize (w7.setCell ⟨wr.heap.size, 2, none⟩ (.int .i64 (pr - 1))) = wt at *
                  have m0 := MS.cell 0 rfl
                  have m1 := MS.cell 1 rfl
                  have m2 := MS.cell 2 rfl
                  clear MS
                  have HSZ := Lib.hid hszA
                  go_wp2_with (at_builtin; refine app_new 36 57 (.agg #[.int .i64 0, .int .i64 0, .int .i64 0]) 3 24 infoMove Try.underlying36 rfl (by decide) (by rfl) _ _ (by rfl) w0.heap.size _ ns.length (flatM ns) [.int .i64 k, .int .i64 t, .int .i64 (pr - 1)] wt HOA.out HSZ.out rfl three_ints (by omega) (by omega) (by rfl) (by rfl) ?_)
                  intro g9 cap9 w9 hown9 hkeep9 hgrow9
                  have HO9 := Lib.hid hown9
                  have HB9 := Lib.hid (hkeep9.below HBA.out (Nat.le_refl _))
                  have HT9 := Lib.hid ((HTA.out.alloc _).kept hgrow9 (own_ne (HTA.out.alloc (.cells #[.int .i64 k, .int .i64 t, .int .i64 (pr - 1)] 57)) (HOA.out.alloc (.cells #[.int .i64 k, .int .i64 t, .int .i64 (pr - 1)] 57)) (by decide)))
                  clear hown9 hkeep9 hgrow9
                  go_wp2_with fail
                  go_roundw
                  case rel => exact ⟨r + 1, ns ++ [⟨k, t, pr - 1⟩], by omega, by go_num, Lib.hid (by rw [← flatM_append, List.length_append]; exact HO9.out), Lib.hid (by rw [HNS.out, HTS1.out, HMF.out]; simp), HT9, HB9⟩
                  case measure => simp [intOf]; omega
              · have HMF : Hid (moveTo R p k kz t = ⟨k, t, kz⟩) := Lib.hid (by rw [HMV.out, if_neg (fun h => hpr h.1)])
                have m0 := mb0.cell 0 rfl
                have m1 := mb0.cell 1 rfl
                have m2 := mb0.cell 2 rfl
                clear mb0
                have HOA := Lib.hid HOm.out
                have HTA := Lib.hid HTm.out
                have HBA := Lib.hid HBm.out
                have hszA := HBA.out.size
                have HSZ := Lib.hid hszA
                go_wp2_with (at_builtin; refine app_new 36 57 (.agg #[.int .i64 0, .int .i64 0, .int .i64 0]) 3 24 infoMove Try.underlying36 rfl (by decide) (by rfl) _ _ (by rfl) w0.heap.size _ ns.length (flatM ns) [.int .i64 k, .int .i64 t, .int .i64 (kz)] wm HOA.out HSZ.out rfl three_ints (by omega) (by omega) (by rfl) (by rfl) ?_)
                intro g9 cap9 w9 hown9 hkeep9 hgrow9
                have HO9 := Lib.hid hown9
                have HB9 := Lib.hid (hkeep9.below HBA.out (Nat.le_refl _))
                have HT9 := Lib.hid ((HTA.out.alloc _).kept hgrow9 (own_ne (HTA.out.alloc (.cells #[.int .i64 k, .int .i64 t, .int .i64 (kz)] 57)) (HOA.out.alloc (.cells #[.int .i64 k, .int .i64 t, .int .i64 (kz)] 57)) (by decide)))
                clear hown9 hkeep9 hgrow9
                go_wp2_with fail
                go_roundw
                case rel => exact ⟨r + 1, ns ++ [⟨k, t, kz⟩], by omega, by go_num, Lib.hid (by rw [← flatM_append, List.length_append]; exact HO9.out), Lib.hid (by rw [HNS.out, HTS1.out, HMF.out]; simp), HT9, HB9⟩
                case measure => simp [intOf]; omega
            · obtain rfl : r = ts.length := by omega
              have HE : Hid (ns = out ++ (ws.take (q + 1)).flatMap (stepsOf R p k kz)) := Lib.hid (by rw [HNS.out, HFT.out, HSO.out, HMS.out, List.take_of_length_le (Nat.le_refl _), List.append_assoc])
              go_wp2_with fail
              go_roundw
              case rel => exact ⟨q + 1, ns, by omega, by go_num, HO, HE, HBr⟩
              case measure => simp [intOf]; omega
        · obtain rfl : q = ws.length := by omega
          have HE : Hid (ms = putsZ R p ++ (List.range (k + 1)).flatMap (stepsAt R p)) := Lib.hid (by rw [HMS.out, flatMap_snoc, HSE.out, HOUT.out, List.take_of_length_le (Nat.le_refl _), List.append_assoc])
          go_wp2_with fail
          go_roundw
          case rel => exact ⟨k + 1, ms, by omega, by go_num, HO, HE, HBr⟩
          case measure => simp [intOf]; omega
    · obtain rfl : k = p.cells.length := by omega
      have HE : Hid (out = rawZ R p) := Lib.hid (by rw [HOUT.out, HRAW.out])
      have HLZ : Hid (listZ R p = compactZ (sortZ (rawZ R p))) := Lib.hid rfl
      have HSL : Hid ((sortZ (rawZ R p)).length = (rawZ R p).length) := Lib.hid (List.length_mergeSort _)
      obtain rfl := HE.out
      have HO5 := Lib.hid (fun (w' : World) (h : w'.ownsRow w0.heap.size 57 3 u5 (rawZ R p).length (flatM (rawZ R p))) => HSh.out w0.heap.size u5 (rawZ R p) w' h (by omega))
      go_wp2_with fail
      refine (HO5.out _ HO.out).mono ?_
      rintro e w5 ⟨rfl, ho5, hg5⟩
      have HB5 := Lib.hid (Below.grown HBr.out hg5 (by omega) (fun q hq => (HO.out.lt q hq).1))
      have HO6 := Lib.hid ho5
      rw [← HSL.out] at HO6
      have hl6 : (sortZ (rawZ R p)).length ≤ 1000000 := by rw [HSL.out]; omega
      clear ho5 hg5
      go_wp2_with fail
      refine (compact_any w0.heap.size u5 (sortZ (rawZ R p)) _ HO6.out hl6).mono ?_
      rintro e w6 ⟨v6, rfl, ho6, hg6⟩
      have HO7 := Lib.hid ho6
      have HB6 := Lib.hid (Below.grown HB5.out hg6 HB5.out.size (fun q hq => (HO6.out.lt q hq).1))
      clear ho6 hg6
      go_wp2_with fail
      go_ret
      exact ⟨_, rfl, by rw [HLZ.out]; exact (own_base HO7.out (by omega)), below_trans HB.out HB6.out HB.out.size⟩

end Go.Proofs.Ytnieifdogllbfaa

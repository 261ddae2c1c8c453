/- slices.Grow at nil, slices.Concat of two slices, at []int. -/
import Derived.Test.YtaacfoeleblfbaaIntsB
import Derived.Test.YtaacfoeleblfbaaSub
import Derived.Test.YtaacfoeleblfbaaOwn
import Derived.Lib.AppendZeros
import Derived.Laws.AppendOwnNone
namespace Go.Proofs.Ytaacfoeleblfbaa
open Go.ChangeShapes Go.WideShapes Go.ChangeAt Go.RowKit
set_option linter.unusedVariables false

/-- an append whose run is known. -/
theorem wpList_append_run {P : Program} {w w1 : World} {ops : Array Oper} {rest : List Oper} {o : Oper} {a : Act} {Q : Exit → Act → World → Prop} (hgd : o.guard = none) (s x : Operand) (t t' : TypeId)
    (ho : o.op = .call { callee := .builtin .append, args := #[s, x], argTypes := #[t, t'] }) (u v v1 : Value) (hs : a.eval s = u) (hx : a.eval x = v)
    (hr : ∀ ty, (Builtin.append_ #[t, t'] ty #[u, v]).run P w = .ok v1 w1) (h : wpList P ops Q rest (a.put o.dst v1) w1) : wpList P ops Q (o :: rest) a w :=
  wpList_plain hgd fun K hK => by
    unfold Oper.wp execOp
    simp only [ho, resolve, invoke, builtin, Sem.run_bind, Sem.run_pure, Result.andThen_ok, List.map_toArray, List.map_cons, List.map_nil, hs, hx, hr]
    exact hK _ _ h

def GrowPost (w : World) (e : Ending) (w' : World) : Prop := ∃ v', e = .returned v' ∧ w'.ownsRow w.heap.size 3 1 v' 0 [] ∧ Below w.heap.size w w'

set_option maxRecDepth 100000 in
theorem Grow_nil (k : Nat) (w : World) (hk : k ≤ 1000000) :
    Calls Try.prog 61 #[.slice none 0 0, .int .i64 k] w (GrowPost w) := by
  obtain ⟨i0, hi, hz0, hz1, hz2⟩ := info_parts info3
  have hsl0 : ∀ w : World, (Instr.slice 23 (.slice none 0 0) none (some (.int .i64 0)) none).run Try.prog w = .ok (.slice none 0 0) w := fun w => run_take (s := 1) Try.underlying23 (fun _ => by kernel_rfl) _ _ _ 0 (by omega) w
  by_cases h0 : k = 0
  · subst h0
    go_enter Try.func61, Try.ntmps61
    go_wp2
    go_ret
    exact ⟨_, rfl, World.ownsRow_nil _ _ _ _, Below.refl _ _⟩
  · have hr := fun ty => Lib.run_append_nil_zeros (P := Try.prog) w 23 3 ty 3 i0 (.int .i64 0) .i64 .i64 Try.underlying23 Try.underlying3 hi hz0 k (by omega) (by omega) (by omega) (by rw [hz2]; omega)
    have hge := grownCap_ge w k 0 3
    have hcm : grownCap w k 0 3 ≤ maxLen := grownCap_le_maxLen w k 0 3 (by unfold maxLen; omega)
    have HB : Hid (Below w.heap.size w (w.drew.alloc (.cells (Builtin.zeroCells (Value.cells (.int .i64 0)) k ++ Builtin.zeroCells (Value.cells (.int .i64 0)) (grownCap w k 0 3 - k)) 3))) := Lib.hid ((below_drewN (Below.refl _ _) 1).alloc (by simp) _)
    have HO : Hid ((w.drew.alloc (.cells (Builtin.zeroCells (Value.cells (.int .i64 0)) k ++ Builtin.zeroCells (Value.cells (.int .i64 0)) (grownCap w k 0 3 - k)) 3)).ownsRow w.heap.size 3 1 (.slice (some ⟨w.heap.size, 0, none⟩) 0 (grownCap w k 0 3)) 0 []) := Lib.hid (World.ownsRow_made w.drew _ _ (by simp) hcm (by simp [Builtin.zeroCells, Value.cells]; omega))
    generalize (w.drew.alloc (.cells (Builtin.zeroCells (Value.cells (.int .i64 0)) k ++ Builtin.zeroCells (Value.cells (.int .i64 0)) (grownCap w k 0 3 - k)) 3)) = w1 at *
    generalize grownCap w k 0 3 = c at *
    have hsl1 : ∀ w' : World, (Instr.slice 23 (.slice (some ⟨w.heap.size, 0, none⟩) k c) none (some (.int .i64 0)) none).run Try.prog w' = .ok (.slice (some ⟨w.heap.size, 0, none⟩) 0 c) w' := fun w' => run_take (s := 1) Try.underlying23 (fun _ => by kernel_rfl) _ _ _ 0 (by omega) w'
    have hk0 : (0 : Int) < (k : Int) := by omega
    have HR := Lib.hid hr
    clear hi hz0 hz1 hz2 hge hcm hr
    go_enter Try.func61, Try.ntmps61
    go_wp2_with (at_builtin; refine wpList_append_run rfl _ _ 23 3 rfl (.slice none 0 0) (.int .i64 k) (.slice (some ⟨w.heap.size, 0, none⟩) k c) rfl rfl HR.out ?_)
    go_ret
    exact ⟨_, rfl, HO.out, HB.out⟩
def RdII (w : World) (v va vb : Value) : Prop := ∃ g o c, v = .slice (some ⟨g, o, none⟩) 2 c ∧ g < w.heap.size ∧ w.cell? ⟨g, o, none⟩ = some va ∧ w.cell? ⟨g, o + 1, none⟩ = some vb

def ConcPost (zs : List Int) (w : World) (e : Ending) (w' : World) : Prop := ∃ v', e = .returned v' ∧ w'.ownsRow w.heap.size 3 1 v' zs.length (ints zs) ∧ Below w.heap.size w w'
theorem rd_src {w : World} {a : Addr} {n c : Nat} {zs : List Int} (h : RdI w (.slice (some a) n c) zs) : n = zs.length ∧ ∀ j u, (ints zs)[j]? = some u → w.cell? (a.add j) = some u := by
  rcases h.2 with ⟨h0, _⟩ | ⟨g, o, c', hv, h1, h2, hc⟩
  · cases h0
  · simp only [Value.slice.injEq, Option.some.injEq] at hv
    obtain ⟨rfl, rfl, rfl⟩ := hv
    refine ⟨rfl, fun j u hu => ?_⟩
    have hj : j < zs.length := by
      have := (List.getElem?_eq_some_iff.1 hu).1
      rwa [ints_len] at this
    rw [add_off, hc j (by omega), hu]

/-- append(s, x...) where x is a slice of integers that is read, nil too. -/
theorem wpList_append_rd {w : World} {ops : Array Oper} {rest : List Oper} {o : Oper} {a : Act} {Q : Exit → Act → World → Prop} (hgd : o.guard = none) (s x : Operand)
    (ho : o.op = .call { callee := .builtin .append, args := #[s, x], argTypes := #[23, 23] })
    (base : Nat) (v : Value) (zs : List Int) (hs : a.eval s = v) (hown : w.ownsRow base 3 1 v zs.length (ints zs))
    (vs : Value) (ys : List Int) (hx : a.eval x = vs) (hr : RdI w vs ys) (hlen : zs.length + ys.length ≤ 1000000) (hbase : base ≤ w.heap.size)
    (h : ∀ v' w', w'.ownsRow base 3 1 v' (zs ++ ys).length (ints (zs ++ ys)) → w.grownBy w' v.ownBlock → wpList Try.prog ops Q rest (a.put o.dst v') w') : wpList Try.prog ops Q (o :: rest) a w := by
  obtain ⟨i0, hi, hz0, hz1, hz2⟩ := info_parts info3
  rcases hr.2 with ⟨rfl, hz⟩ | ⟨g, o', c, rfl, h1, h2, hc⟩
  · obtain rfl : ys = [] := List.length_eq_zero_iff.1 hz
    refine wpList_append_own_none hgd s x _ ho base _ i0 1 Try.underlying23 hi v _ _ hs hown hx (h v w (by simpa using hown) ⟨rfl, rfl, rfl, Nat.le_refl _, fun _ _ _ => rfl⟩)
  · refine wpList_append_own _ hgd s x 23 ho base 3 i0 (.int .i64 0) 1 8 Try.underlying23 hi hz0 hz1 hz2 rfl (by decide) v zs.length (ints zs) hs hown ⟨g, o', none⟩ ys.length c (ints ys) hx (by rw [ints_len]; omega) (rd_src hr).2 (ints_cell1 ys) (by unfold maxLen; omega) (by omega) hbase ?_
    intro v' w2 ho2 hg2 _
    refine h v' w2 ?_ hg2
    have e : ints (zs ++ ys) = ints zs ++ ints ys := by simp [ints]
    rw [e, List.length_append]
    exact ho2
theorem below_grown {w w1 w2 : World} {B : Nat} {e : TypeId} {sz n : Nat} {v : Value} {xs : List Value} (hb : Below B w w1) (hown : w1.ownsRow B e sz v n xs) (hg : w1.grownBy w2 v.ownBlock) (hB : B ≤ w1.heap.size) : Below B w w2 :=
  Below.grown hb hg hB (fun q hq => (hown.lt q hq).1)

set_option maxRecDepth 100000 in
set_option maxHeartbeats 1000000 in
theorem Concat_two (v va vb : Value) (xs ys : List Int) (w : World) (h : RdII w v va vb) (ha : RdI w va xs) (hb : RdI w vb ys) (hx : xs.length ≤ 1000) (hy : ys.length ≤ 1000) :
    Calls Try.prog 48 #[v] w (ConcPost (xs ++ ys) w) := by
  obtain ⟨i0, hi, hz0, hz1, hz2⟩ := info_parts info3
  obtain ⟨g, o, c, rfl, hg, h0, h1⟩ := h
  have HA := Lib.hid ha
  have HB := Lib.hid hb
  obtain ⟨aa, ca, rfl, ha1, ha2⟩ := ha.form
  obtain ⟨ab, cb, rfl, hb1, hb2⟩ := hb.form
  clear ha hb
  unfold maxLen at ha2 hb2
  go_enter Try.func48, Try.ntmps48
  go_wp2_with fail
  go_loop [3, 11] (fun s i => (i = .int .i64 0 ∧ s = .int .i64 0) ∨ (i = .int .i64 1 ∧ s = .int .i64 xs.length) ∨ (i = .int .i64 2 ∧ s = .int .i64 ((xs.length : Int) + ys.length))) (fun s i => 2 - (intOf i).toNat)
  case atStart => exact .inl ⟨rfl, rfl⟩
  case round =>
    rcases hrel with ⟨rfl, rfl⟩ | ⟨rfl, rfl⟩ | ⟨rfl, rfl⟩
    · go_wp2_with fail
      go_round
      case rel => exact .inr (.inl ⟨rfl, rfl⟩)
      case measure => decide
    · go_wp2_with fail
      go_round
      case rel => exact .inr (.inr ⟨rfl, rfl⟩)
      case measure => decide
    · have hG : Calls Try.prog 61 #[.slice none 0 0, .int .i64 ((xs.length : Int) + ys.length)] w (GrowPost w) := by
        have := Grow_nil (xs.length + ys.length) w (by omega)
        rwa [Int.natCast_add] at this
      have HG := Lib.hid hG
      clear hG
      go_wp2_with fail
      refine HG.out.mono ?_
      rintro e w1 ⟨v1, rfl, ho1, hb1⟩
      have HO1 := Lib.hid ho1
      have HB1 := Lib.hid hb1
      clear ho1 hb1
      go_wp2_with fail
      go_loopw [6, 27] (fun v i wr => ∃ zs : List Int, ((i = .int .i64 0 ∧ zs = []) ∨ (i = .int .i64 1 ∧ zs = xs) ∨ (i = .int .i64 2 ∧ zs = xs ++ ys)) ∧ Hid (wr.ownsRow w.heap.size 3 1 v zs.length (ints zs)) ∧ Hid (Below w.heap.size w wr)) (fun _ i _ => 2 - (intOf i).toNat)
      case atStart => exact ⟨[], .inl ⟨rfl, rfl⟩, HO1, HB1⟩
      case round =>
        obtain ⟨zs, hi', HOr, HBr⟩ := hrel
        have hsz := HBr.out.size
        have q0 := (HBr.out.cell (p := ⟨g, o, none⟩) hg).trans h0
        have q1 := (HBr.out.cell (p := ⟨g, o + 1, none⟩) hg).trans h1
        have hgr : g < wr.heap.size := by omega
        rcases hi' with ⟨rfl, rfl⟩ | ⟨rfl, rfl⟩ | ⟨rfl, rfl⟩
        · go_wp2_with (at_builtin; refine wpList_append_rd rfl _ _ rfl w.heap.size _ [] rfl HOr.out _ xs rfl (HA.out.below HBr.out (Nat.le_refl _)) (by simp; omega) hsz ?_)
          intro v' w2 ho2 hg2
          have HB2 := Lib.hid (below_grown HBr.out HOr.out hg2 hsz)
          have HO2 := Lib.hid ho2
          clear ho2 hg2
          go_wp2_with fail
          go_roundw
          case rel => exact ⟨xs, .inr (.inl ⟨rfl, rfl⟩), Lib.hid (by simpa using HO2.out), HB2⟩
          case measure => decide
        · go_wp2_with (at_builtin; refine wpList_append_rd rfl _ _ rfl w.heap.size _ zs rfl HOr.out _ ys rfl (HB.out.below HBr.out (Nat.le_refl _)) (by omega) hsz ?_)
          intro v' w2 ho2 hg2
          have HB2 := Lib.hid (below_grown HBr.out HOr.out hg2 hsz)
          have HO2 := Lib.hid ho2
          clear ho2 hg2
          go_wp2_with fail
          go_roundw
          case rel => exact ⟨zs ++ ys, .inr (.inr ⟨rfl, rfl⟩), Lib.hid (by have := HO2.out; rw [List.length_append]; exact this), HB2⟩
          case measure => decide
        · go_wp2_with fail
          go_ret
          exact ⟨_, rfl, HOr.out, HBr.out⟩
end Go.Proofs.Ytaacfoeleblfbaa

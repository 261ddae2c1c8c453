/- slices.Grow at nil, slices.Concat of two slices, at []int. -/
import Derived.Test.YtnieifdogllbfaaIntsB
import Derived.Test.YtnieifdogllbfaaSub
import Derived.Test.YtnieifdogllbfaaOwn
import Derived.Lib.AppendZeros
import Derived.Laws.AppendOwnNone
namespace Go.Proofs.Ytnieifdogllbfaa
open Go.ChangeShapes Go.WideShapes Go.ChangeAt Go.RowKit
set_option linter.unusedVariables false

/-- an append whose run is known. -/
theorem wpList_append_run {P : Program} {w w1 : World} {ops : Array Oper} {rest : List Oper} {o : Oper} {a : Act} {Q : Exit → Act → World → Prop} (hgd : o.guard = none) (s x : Operand) (t t' : TypeId)
    (ho : o.op = .call { callee := .builtin .append, args := #[s, x], argTypes := #[t, t'] }) (u v v1 : Value) (hs : a.eval s = u) (hx : a.eval x = v)
    (hr : ∀ ty, (Builtin.append_ #[t, t'] ty #[u, v]).run P w = .ok v1 w1) (h : wpList P ops Q rest (a.put o.dst v1) w1) : wpList P ops Q (o :: rest) a w :=
  wpList_plain hgd fun K hK => by
    unfold Oper.wp execOp
    simp only [ho, resolve, invoke, builtin, Sem.run_bind, Sem.run_pure, Result.andThen_ok, List.map_toArray, List.map_cons, List.map_nil, hs, hx, hr]
    exact hK _ _ h

def GrowPost (w : World) (e : Ending) (w' : World) : Prop := ∃ v', e = .returned v' ∧ w'.ownsRow w.heap.size 3 1 v' 0 [] ∧ Below w.heap.size w w'

def RdII (w : World) (v va vb : Value) : Prop := ∃ g o c, v = .slice (some ⟨g, o, none⟩) 2 c ∧ g < w.heap.size ∧ w.cell? ⟨g, o, none⟩ = some va ∧ w.cell? ⟨g, o + 1, none⟩ = some vb

def ConcPost (zs : List Int) (w : World) (e : Ending) (w' : World) : Prop := ∃ v', e = .returned v' ∧ w'.ownsRow w.heap.size 3 1 v' zs.length (ints zs) ∧ Below w.heap.size w w'
theorem rd_src {w : World} {a : Addr} {n c : Nat} {zs : List Int} (h : RdI w (.slice (some a) n c) zs) : n = zs.length ∧ ∀ j u, (ints zs)[j]? = some u → w.cell? (a.add j) = some u := by
  rcases h.2 with ⟨⟨a', c', h0, _⟩, hz⟩ | ⟨g, o, c', hv, h1, h2, hc⟩
  · obtain rfl : zs = [] := List.length_eq_zero_iff.1 hz
    simp only [Value.slice.injEq] at h0
    exact ⟨h0.2.1, fun j u hu => by simp [ints] at hu⟩
  · simp only [Value.slice.injEq, Option.some.injEq] at hv
    obtain ⟨rfl, rfl, rfl⟩ := hv
    refine ⟨rfl, fun j u hu => ?_⟩
    have hj : j < zs.length := by
      have := (List.getElem?_eq_some_iff.1 hu).1
      rwa [ints_len] at this
    have e : (⟨g, o, none⟩ : Addr).add j = ⟨g, o + j, none⟩ := by unfold Addr.add; split <;> simp_all
    rw [e, hc j (by omega), hu]

theorem run_append_none (w : World) (c base : Nat) (i : TypeInfo) (hi : Try.prog.info? 3 = some i) (ty : TypeId) (v : Value) (n : Nat) (xs : List Value) (hown : w.ownsRow base 3 1 v n xs) :
    (Builtin.append_ #[23, 23] ty #[v, .slice none 0 c]).run Try.prog w = .ok v w := by
  rcases hown.2 with ⟨rfl, rfl⟩ | ⟨g, cap, cur, rfl, _, _, hnc, _⟩
  · simp [Builtin.append_, run_underlying Try.underlying23, sizeOf, typeInfo, hi, Builtin.lenOf, Builtin.firstCells]
  · simp [Builtin.append_, run_underlying Try.underlying23, sizeOf, typeInfo, hi, Builtin.lenOf, Builtin.firstCells, hnc, storeCells]
theorem wpList_append_none {w : World} {ops : Array Oper} {rest : List Oper} {o : Oper} {a : Act} {Q : Exit → Act → World → Prop} (hgd : o.guard = none) (s x : Operand)
    (ho : o.op = .call { callee := .builtin .append, args := #[s, x], argTypes := #[23, 23] }) (i : TypeInfo) (hi : Try.prog.info? 3 = some i)
    (base c : Nat) (v : Value) (n : Nat) (xs : List Value) (hs : a.eval s = v) (hown : w.ownsRow base 3 1 v n xs) (hx : a.eval x = .slice none 0 c)
    (h : wpList Try.prog ops Q rest (a.put o.dst v) w) : wpList Try.prog ops Q (o :: rest) a w := by
  refine wpList_plain hgd fun K hK => ?_
  have hrun := run_append_none w c base i hi o.type v n xs hown
  unfold Oper.wp
  simp [execOp, ho, resolve, invoke, builtin, hs, hx, hrun, Result.andThen]
  exact hK _ _ h
theorem wpList_append_rd {w : World} {ops : Array Oper} {rest : List Oper} {o : Oper} {a : Act} {Q : Exit → Act → World → Prop} (hgd : o.guard = none) (s x : Operand)
    (ho : o.op = .call { callee := .builtin .append, args := #[s, x], argTypes := #[23, 23] })
    (base : Nat) (v : Value) (zs : List Int) (hs : a.eval s = v) (hown : w.ownsRow base 3 1 v zs.length (ints zs))
    (vs : Value) (ys : List Int) (hx : a.eval x = vs) (hr : RdI w vs ys) (hlen : zs.length + ys.length ≤ 1000000) (hbase : base ≤ w.heap.size)
    (h : ∀ v' w', w'.ownsRow base 3 1 v' (zs ++ ys).length (ints (zs ++ ys)) → w.grownBy w' v.ownBlock → wpList Try.prog ops Q rest (a.put o.dst v') w') : wpList Try.prog ops Q (o :: rest) a w := by
  obtain ⟨i0, hi, hz0, hz1, hz2⟩ := info_parts info3
  obtain ⟨sa, c, rfl, h1, h2⟩ := hr.form
  cases sa with
  | none =>
    have hz : ys.length = 0 := by
      rcases hr.2 with ⟨-, hz⟩ | ⟨g, o', c', e, -⟩
      · exact hz
      · cases e
    obtain rfl : ys = [] := List.length_eq_zero_iff.1 hz
    refine wpList_append_none hgd s x ho i0 hi base c v _ _ hs hown hx (h v w (by simpa using hown) ⟨rfl, rfl, rfl, Nat.le_refl _, fun _ _ _ => rfl⟩)
  | some ad =>
    refine wpList_append_own _ hgd s x 23 ho base 3 i0 (.int .i64 0) 1 8 Try.underlying23 hi hz0 hz1 hz2 rfl (by decide) v zs.length (ints zs) hs hown ad ys.length c (ints ys) hx (by rw [ints_len]; omega) (rd_src hr).2 (ints_cell1 ys) (by unfold maxLen; omega) (by omega) hbase ?_
    intro v' w2 ho2 hg2 _
    refine h v' w2 ?_ hg2
    have e : ints (zs ++ ys) = ints zs ++ ints ys := by simp [ints]
    rw [e, List.length_append]
    exact ho2
theorem below_grown {w w1 w2 : World} {B : Nat} {e : TypeId} {sz n : Nat} {v : Value} {xs : List Value} (hb : Below B w w1) (hown : w1.ownsRow B e sz v n xs) (hg : w1.grownBy w2 v.ownBlock) (hB : B ≤ w1.heap.size) : Below B w w2 :=
  Below.grown hb hg hB (fun q hq => (hown.lt q hq).1)

end Go.Proofs.Ytnieifdogllbfaa

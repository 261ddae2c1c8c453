/- append of one new element to a row that the call owns (without the engine). -/
import Derived.Test.YtjgnjahnfglbaaaBox
import Derived.Test.YtjgnjahnfglbaaaOwn
import Derived.Test.YtjgnjahnfglbaaaIntsB
namespace Go.Proofs.Ytjgnjahnfglbaaa
open Go.ChangeShapes Go.WideShapes Go.ChangeAt Go.RowKit
set_option linter.unusedVariables false

/-- what a later world keeps of an elder one: all blocks below base. -/
def Keeps (base : Nat) (W w' : World) : Prop := W.heap.size ≤ w'.heap.size ∧ ∀ B w0, Below B w0 W → B ≤ base → Below B w0 w'
theorem Keeps.below {base : Nat} {W w' : World} (h : Keeps base W w') {B : Nat} {w0 : World} (hb : Below B w0 W) (hB : B ≤ base) : Below B w0 w' := h.2 B w0 hb hB
theorem new_cells (W : World) (news : List Value) (e : TypeId) : ∀ j u, news[j]? = some u → (W.alloc (.cells news.toArray e)).cell? ((⟨W.heap.size, 0, none⟩ : Addr).add j) = some u := by
  intro j u hj
  have hb := Box.new W news e
  have := hb.cell j hj
  have e2 : (⟨W.heap.size, 0, none⟩ : Addr).add j = ⟨W.heap.size, j, none⟩ := by unfold Addr.add; split <;> simp_all
  rw [e2]
  exact this
theorem app_new {ops : Array Oper} {rest : List Oper} {o : Oper} {a : Act} {Q : Exit → Act → World → Prop} (t e : TypeId) (z : Value) (k b : Nat)
    (hI : (Try.prog.info? e).map (fun i => (i.zero, i.size, i.bytes)) = some (some z, k, b)) (ht : Try.prog.underlying t = some (.slice e)) (hzs : z.cells.size = k) (hk : 0 < k) (hgd : o.guard = none) (s x : Operand)
    (ho : o.op = .call { callee := .builtin .append, args := #[s, x], argTypes := #[t, t] }) (base : Nat) (v : Value) (n : Nat) (xs news : List Value) (W : World) (hown : W.ownsRow base e k v n xs) (hb : base ≤ W.heap.size)
    (hl : news.length = k) (h1 : ∀ u ∈ news, u.oneCell' = true) (hn : n + 1 ≤ 100000000) (hbb : (n + 1) * b ≤ 140737488355328) (hs : a.eval s = v) (hx : a.eval x = .slice (some ⟨W.heap.size, 0, none⟩) 1 1)
    (h : ∀ g cap w', w'.ownsRow base e k (.slice (some ⟨g, 0, none⟩) (n + 1) cap) (n + 1) (xs ++ news) → Keeps base W w' → (W.alloc (.cells news.toArray e)).grownBy w' v.ownBlock →
      wpList Try.prog ops Q rest (a.put o.dst (.slice (some ⟨g, 0, none⟩) (n + 1) cap)) w') : wpList Try.prog ops Q (o :: rest) a (W.alloc (.cells news.toArray e)) := by
  obtain ⟨i, hi, hz, hsz, hby⟩ : ∃ i, Try.prog.info? e = some i ∧ i.zero = some z ∧ i.size = k ∧ i.bytes = b := by
    cases hh : Try.prog.info? e with
    | none => rw [hh] at hI; cases hI
    | some i =>
      rw [hh] at hI
      simp only [Option.map_some, Option.some.injEq, Prod.mk.injEq] at hI
      exact ⟨i, rfl, hI.1, hI.2.1, hI.2.2⟩
  refine wpList_append_lies _ hgd s x t ho base e i z k b ht hi hz hsz hby hzs hk v n xs hs (hown.alloc _) ⟨W.heap.size, 0, none⟩ 1 1 news hx (by rw [hl, Nat.one_mul]) (new_cells W news e) h1 (by decide) (by unfold maxLen; omega) hbb (by simp; omega) _ rfl ?_
  intro g cap w' hown' hg hat hlt
  refine h g cap w' hown' ⟨by have := hg.size; simp at this; omega, fun B w0 hB0 hB => ?_⟩ hg
  have hlB : B ≤ W.heap.size := Nat.le_trans hB hb
  exact Below.grown (hB0.alloc hlB _) hg (by simp; omega) (fun q hq => by have := (hown.lt q hq).1; omega)
theorem ints_append (zs : List Int) (z : Int) : ints zs ++ [.int .i64 z] = ints (zs ++ [z]) := by simp [ints]
theorem one_int {z : Int} : ∀ u ∈ [Value.int .i64 z], u.oneCell' = true := by intro u hu; simp at hu; subst hu; rfl

end Go.Proofs.Ytjgnjahnfglbaaa

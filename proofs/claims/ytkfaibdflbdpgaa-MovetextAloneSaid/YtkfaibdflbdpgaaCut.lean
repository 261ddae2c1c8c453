/- gamehallkeep3.cut, great; append of one new element, with the block where it lies. -/
import Derived.Test.YtkfaibdflbdpgaaGmC
import Derived.Test.YtkfaibdflbdpgaaTic
import Derived.Test.YtkfaibdflbdpgaaSub
namespace Go.Proofs.Ytkfaibdflbdpgaa
open Go.ChangeShapes Go.WideShapes Go.ChangeAt Go.RowKit
set_option linter.unusedVariables false
theorem minG (a : Nat) (b : Int) (hb : 0 ≤ b) : ∃ m : Nat, (if b < (a : Int) then b else (a : Int)) = (m : Int) ∧ m ≤ a ∧ (m : Int) ≤ b := by
  by_cases h : b < a
  · exact ⟨b.toNat, by rw [if_pos (by omega)]; omega, by omega, by omega⟩
  · exact ⟨a, by rw [if_neg (by omega)], by omega, by omega⟩
set_option maxRecDepth 100000 in
theorem cut_any (v : Value) (l : List MoveZ) (w : World) (hl : RdL moveEl w v l) : Calls Try.prog 33 #[v] w fun e w' => w' = w ∧ ∃ v', e = .returned v' ∧ RdL moveEl w v' (l.take 40) := by
  have HL := Lib.hid hl
  obtain ⟨a, c, rfl, h1, h2⟩ := hl.form
  unfold maxLen at h2
  obtain ⟨n, hk, k1, k2⟩ := minG l.length 40 (by omega)
  have HT : Hid (RdL moveEl w (.slice a n c) (l.take 40)) := Lib.hid (by
    have e : l.take 40 = l.take n := by
      by_cases h : (40 : Int) < l.length
      · rw [if_pos h] at hk
        rw [show n = 40 by omega]
      · rw [if_neg h] at hk
        rw [List.take_of_length_le (by omega), List.take_of_length_le (by omega)]
    rw [e]; exact hl.take n k1)
  have hsl : ∀ w' : World, (Instr.slice 32 (.slice a l.length c) none (some (.int .i64 (n : Int))) none).run Try.prog w' = .ok (.slice a n c) w' := fun w' =>
    run_take (P := Try.prog) (t := 32) (s := 3) Try.underlying32 (fun w => by kernel_rfl) a l.length c n (by omega) w'
  clear hl
  go_enter Try.func33, Try.ntmps33
  go_wp2_with fail
  go_ret
  exact ⟨rfl, _, rfl, HT.out⟩
set_option maxRecDepth 100000 in
theorem great_anyG (R : RulesZ) (vp vs ve : Value) (w : World) (h : RdI w vs R.start) : Calls Try.prog 27 #[(.agg #[.string R.name, .int .i64 R.width, .int .i64 R.height, vp, vs, .bool R.falls, .bool R.keeps, ve, .int .i64 R.blocked, .int .i64 R.quiet, .int .i64 R.rept])] w fun e w' => e = .returned (.bool (decide (20 < (R.start.length : Int)))) ∧ Below w.heap.size w w' := by
  obtain ⟨a, c, rfl, h1, h2⟩ := h.form
  unfold maxLen at h2
  clear h
  go_enter Try.func27, Try.ntmps27
  go_wp2
  go_ret
  exact ⟨rfl, (Below.refl _ _).alloc (Nat.le_refl _) _⟩
theorem app_newC {ops : Array Oper} {rest : List Oper} {o : Oper} {a : Act} {Q : Exit → Act → World → Prop} (t e : TypeId) (z : Value) (k b : Nat)
    (hI : (Try.prog.info? e).map (fun i => (i.zero, i.size, i.bytes)) = some (some z, k, b)) (ht : Try.prog.underlying t = some (.slice e)) (hzs : z.cells.size = k) (hk : 0 < k) (hgd : o.guard = none) (s x : Operand)
    (ho : o.op = .call { callee := .builtin .append, args := #[s, x], argTypes := #[t, t] }) (base : Nat) (v : Value) (n : Nat) (xs news : List Value) (W : World) (hown : W.ownsRow base e k v n xs) (hb : base ≤ W.heap.size)
    (hl : news.length = k) (h1 : ∀ u ∈ news, u.oneCell' = true) (hn : n + 1 ≤ 100000000) (hbb : (n + 1) * b ≤ 140737488355328) (hs : a.eval s = v) (hx : a.eval x = .slice (some ⟨W.heap.size, 0, none⟩) 1 1)
    (h : ∀ g cap w', w'.ownsRow base e k (.slice (some ⟨g, 0, none⟩) (n + 1) cap) (n + 1) (xs ++ news) → (W.alloc (.cells news.toArray e)).grownBy w' v.ownBlock → (v.ownBlock = some g ∨ W.heap.size ≤ g) →
      wpList Try.prog ops Q rest (a.put o.dst (.slice (some ⟨g, 0, none⟩) (n + 1) cap)) w') : wpList Try.prog ops Q (o :: rest) a (W.alloc (.cells news.toArray e)) := by
  obtain ⟨i, hi, hz, hsz, hby⟩ := info_of hI
  refine wpList_append_lies _ hgd s x t ho base e i z k b ht hi hz hsz hby hzs hk v n xs hs (hown.alloc _) ⟨W.heap.size, 0, none⟩ 1 1 news hx (by rw [hl, Nat.one_mul]) (new_cells W news e) h1 (by decide) (by unfold maxLen; omega) hbb (by simp; omega) _ rfl ?_
  intro g cap w' hown' hg hat hlt
  refine h g cap w' hown' hg ?_
  rcases hat with e | e
  · exact .inl e
  · right; rw [e]; simp
/-- a box that is written, and a row that grows. -/
def BoxS (b : Nat) (vo : Value) : Nat → Prop := fun k => k = b ∨ vo.ownBlock = some k
theorem boxS_shr {b : Nat} {vo : Value} {w : World} {g n c : Nat} (h : vo.ownBlock = some g ∨ w.heap.size ≤ g) : Shr w (BoxS b vo) (BoxS b (.slice (some ⟨g, 0, none⟩) n c)) := fun k hk hs => by
  rcases hs with hs | hs
  · exact .inl hs
  · obtain rfl : g = k := by simpa [Value.ownBlock] using hs
    rcases h with e | e
    · exact .inr e
    · omega
theorem Fr.app {S : Nat → Prop} {w w' : World} {o : Obj} {vo : Value} (hg : (w.alloc o).grownBy w' vo.ownBlock) (hS : ∀ k, vo.ownBlock = some k → S k) : Fr S w w' := ((Fr.refl _ w).alloc o).grown hg (fun k hk _ => hS k hk)
theorem Box.app {w w' : World} {b base : Nat} {cs : List Value} {t e : TypeId} {sz n : Nat} {vo : Value} {xs : List Value} {o : Obj} (h : Box w b cs t) (ho : w.ownsRow base e sz vo n xs) (hg : (w.alloc o).grownBy w' vo.ownBlock) (hb : b < base) : Box w' b cs t :=
  (h.alloc o).grown hg (fun e => by have := (ho.lt b e.symm).1; omega)
theorem Below.app {w w0 w' : World} {B base : Nat} {e : TypeId} {sz n : Nat} {vo : Value} {xs : List Value} {o : Obj} (h : Below B w0 w) (ho : w.ownsRow base e sz vo n xs) (hg : (w.alloc o).grownBy w' vo.ownBlock) (hb : B ≤ base) (hB : B ≤ w.heap.size) : Below B w0 w' :=
  Below.grown (h.alloc hB o) hg (by simp; omega) (fun k hk => by have := (ho.lt k hk).1; omega)
end Go.Proofs.Ytkfaibdflbdpgaa

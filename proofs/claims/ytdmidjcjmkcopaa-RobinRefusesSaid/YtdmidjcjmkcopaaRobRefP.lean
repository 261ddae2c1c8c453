/- Plainly: a schedule in which one player of one game is exchanged is not accepted. -/
import Derived.Test.YtdmidjcjmkcopaaRobAllP
namespace Go.Proofs.Ytdmidjcjmkcopaa
set_option linter.unusedVariables false

theorem cnt_mid (A B : List (Int × Int)) (x p : Int × Int) : cnt (A ++ x :: B) p = cnt A p + cnt B p + if x = p then 1 else 0 := by
  unfold cnt
  rw [List.filter_append, List.filter_cons]
  by_cases h : x = p
  · simp [h]; omega
  · have : (x == p) = false := by simpa using h
    simp [h, this]
theorem set_mid {α : Type} (l : List α) (k : Nat) (h : k < l.length) (y : α) : l.set k y = l.take k ++ y :: l.drop (k + 1) := by
  rw [List.set_eq_take_append_cons_drop, if_pos h]
theorem get_mid {α : Type} (l : List α) (k : Nat) (h : k < l.length) : l = l.take k ++ l[k] :: l.drop (k + 1) := by
  rw [← List.drop_eq_getElem_cons h, List.take_append_drop]
theorem mid_flat {α : Type} (p l x : List α) (k : Nat) (h : k < l.length) : p ++ (l ++ x) = (p ++ l.take k) ++ l[k] :: (l.drop (k + 1) ++ x) := by
  rw [List.append_assoc, ← List.cons_append, ← List.append_assoc (l.take k), ← get_mid l k h]
theorem pair_sum {n : Nat} {gs : List (Int × Int)} (h : pairsOk n false gs = true) {a b : Int} (ha : 0 ≤ a) (ha1 : a < n) (hb : 0 ≤ b) (hb1 : b < n) (hab : a ≠ b) : cnt gs (a, b) + cnt gs (b, a) = 1 := by
  have key : ∀ x y : Nat, x < n → y < x → cnt gs ((x : Int), (y : Int)) + cnt gs ((y : Int), (x : Int)) = 1 := fun x y hx hy => by
    unfold pairsOk at h
    have := List.all_eq_true.1 (List.all_eq_true.1 h x (List.mem_range.2 hx)) y (List.mem_range.2 hy)
    unfold okPair at this
    simpa using this
  obtain ⟨x, rfl⟩ : ∃ x : Nat, a = x := ⟨a.toNat, by omega⟩
  obtain ⟨y, rfl⟩ : ∃ y : Nat, b = y := ⟨b.toNat, by omega⟩
  rcases Nat.lt_or_ge y x with h1 | h1
  · exact key x y (by omega) h1
  · have := key y x (by omega) (by omega)
    omega
def swapG (n : Nat) (g : Int × Int) : Int × Int := (g.1, (g.2 + 1) % n)
theorem refuses (n r k : Nat) (h0 : 2 ≤ n) (h1 : n ≤ 32) (hr : r < (allZ n false).length) (hk : k < (allZ n false)[r].length) :
    checkZ n false ((allZ n false).set r ((allZ n false)[r].set k (swapG n (allZ n false)[r][k]))) ≠ 0 := by
  intro hz
  have hp := (whole n false h0 h1).2
  have hg := allZ_ok n false h0 h1 (allZ n false)[r][k] (List.mem_flatten.2 ⟨(allZ n false)[r], List.getElem_mem hr, List.getElem_mem hk⟩)
  have hl := allZ_len n false h0 h1
  generalize allZ n false = rows at *
  have hp' : pairsOk n false (rows.set r (rows[r].set k (swapG n rows[r][k]))).flatten = true := by
    unfold checkZ at hz
    rw [if_neg (by simpa using hl)] at hz
    split at hz
    · contradiction
    · split at hz
      · assumption
      · cases hz
  have e1 : rows.flatten = ((rows.take r).flatten ++ rows[r].take k) ++ rows[r][k] :: (rows[r].drop (k + 1) ++ (rows.drop (r + 1)).flatten) := by
    have q1 : rows.flatten = (rows.take r ++ rows[r] :: rows.drop (r + 1)).flatten := by rw [← get_mid rows r hr]
    rw [q1, List.flatten_append, List.flatten_cons, mid_flat _ _ _ k hk]
  have e2 : (rows.set r (rows[r].set k (swapG n rows[r][k]))).flatten = ((rows.take r).flatten ++ rows[r].take k) ++ swapG n rows[r][k] :: (rows[r].drop (k + 1) ++ (rows.drop (r + 1)).flatten) := by
    rw [set_mid rows r hr, List.flatten_append, List.flatten_cons, set_mid rows[r] k hk]
    simp
  rw [e1] at hp
  rw [e2] at hp'
  generalize (rows.take r).flatten ++ rows[r].take k = A at *
  generalize rows[r].drop (k + 1) ++ (rows.drop (r + 1)).flatten = B at *
  generalize rows[r][k] = g at *
  obtain ⟨a, b⟩ := g
  simp only at hg
  obtain ⟨g0, g1, g2, g3, g4⟩ := hg
  have s1 := pair_sum hp g0 g1 g2 g3 g4
  have s2 := pair_sum hp' g0 g1 g2 g3 g4
  rw [cnt_mid, cnt_mid] at s1 s2
  rw [if_pos rfl, if_neg (by simp; omega)] at s1
  have p1 := cnt_le A (a, b)
  have p2 := cnt_le A (b, a)
  have p3 := cnt_le B (a, b)
  have p4 := cnt_le B (b, a)
  have n1 : ¬ swapG n (a, b) = (a, b) := by
    unfold swapG
    simp only [Prod.mk.injEq, true_and]
    intro h
    by_cases hb : b + 1 = n
    · rw [hb, Int.emod_self] at h; omega
    · rw [Int.emod_eq_of_lt (by omega) (by omega)] at h; omega
  have n2 : ¬ swapG n (a, b) = (b, a) := by
    unfold swapG
    simp only [Prod.mk.injEq]
    intro h
    exact g4 h.1
  rw [if_neg n1, if_neg n2] at s2
  omega
end Go.Proofs.Ytdmidjcjmkcopaa

/- Plainly: in a whole knockout everybody but the winner loses just once. -/
import Derived.Test.YtaagijoeccbmeaaKnPlay
namespace Go.Proofs.Ytaagijoeccbmeaa
set_option linter.unusedVariables false

/-- a game of the list, looked at: how many results are used, and who has lost. -/
def stepL (n : Nat) (rs0 : List Int) (s : Option (Nat × List Int)) (g : KG) : Option (Nat × List Int) :=
  s.bind fun p => if g.2.1 < 0 ∨ g.2.2 < 0 then some p else if rs0.length ≤ p.1 ∨ (n : Int) ≤ g.2.1 ∨ (n : Int) ≤ g.2.2 then none else some (p.1 + 1, p.2 ++ [if rs0.getD p.1 0 = 2 then g.2.2 else g.2.1])
def runL (n : Nat) (rs0 : List Int) (out : List KG) : Option (Nat × List Int) := out.foldl (stepL n rs0) (some (0, []))
theorem runL_snoc (n : Nat) (rs0 : List Int) (out : List KG) (g : KG) : runL n rs0 (out ++ [g]) = stepL n rs0 (runL n rs0 out) g := by
  unfold runL; rw [List.foldl_append]; rfl
theorem foldL_none (n : Nat) (rs0 : List Int) (out : List KG) : out.foldl (stepL n rs0) none = none := by
  induction out with
  | nil => rfl
  | cons g t ih => exact ih
theorem runL_take (n : Nat) (rs0 : List Int) (out : List KG) (k : Nat) {p : Nat × List Int} (h : runL n rs0 out = some p) : ∃ q, runL n rs0 (out.take k) = some q := by
  cases hq : runL n rs0 (out.take k) with
  | some q => exact ⟨q, rfl⟩
  | none =>
    have : runL n rs0 out = (out.drop k).foldl (stepL n rs0) (runL n rs0 (out.take k)) := by
      unfold runL; rw [← List.foldl_append, List.take_append_drop]
    rw [hq, foldL_none, h] at this
    cases this

def alive (l : List Int) : List Int := l.filter fun x => decide (0 ≤ x)
def ids (n : Nat) : List Int := (List.range n).map fun i : Nat => (i : Int)
theorem mem_ids {n : Nat} {x : Int} : x ∈ ids n ↔ 0 ≤ x ∧ x < n := by
  unfold ids
  rw [List.mem_map]
  constructor
  · rintro ⟨a, ha, rfl⟩
    have := List.mem_range.1 ha
    omega
  · intro h
    exact ⟨x.toNat, List.mem_range.2 (by omega), by omega⟩
theorem nodup_ids (n : Nat) : (ids n).Nodup := by
  unfold ids
  rw [List.Nodup, List.pairwise_map]
  exact List.nodup_range.imp (fun h e => h (by omega))
theorem alive_append (a b : List Int) : alive (a ++ b) = alive a ++ alive b := by unfold alive; rw [List.filter_append]
theorem alive_pos {x : Int} (t : List Int) (h : 0 ≤ x) : alive (x :: t) = x :: alive t := by unfold alive; rw [List.filter_cons, if_pos (by simpa using h)]
theorem alive_neg {x : Int} (t : List Int) (h : x < 0) : alive (x :: t) = alive t := by unfold alive; rw [List.filter_cons, if_neg (by simp; omega)]

structure Inv (n : Nat) (rs0 : List Int) (cur : List Int) (out : List KG) (rs : List Int) : Prop where
  low : ∀ x ∈ cur, -1 ≤ x
  run : ∃ k losers, runL n rs0 out = some (k, losers) ∧ k + rs.length = rs0.length ∧ rs = rs0.drop k ∧ (alive cur ++ losers).Perm (ids n)
  num : rs.length + 1 = (alive cur).length

theorem Inv.step {n : Nat} {rs0 sn rest rs : List Int} {out : List KG} {a b : Int} (round : Int) (hrs : ∀ x ∈ rs0, x = 0 ∨ x = 2) (h : Inv n rs0 (sn ++ a :: b :: rest) out rs) : Inv n rs0 ((sn ++ [nextV a b rs]) ++ rest) (out ++ [(round, a, b)]) (nextR a b rs) := by
  obtain ⟨low, ⟨k, losers, hrun, hk, hd, hp⟩, num⟩ := h
  have la := low a (by simp)
  have lb := low b (by simp)
  by_cases hneg : a < 0 ∨ b < 0
  · have hv : nextV a b rs = if a < b then b else a := by unfold nextV; rw [if_pos hneg]
    have hr : nextR a b rs = rs := by unfold nextR; rw [if_pos hneg]
    have hal : alive ((sn ++ [nextV a b rs]) ++ rest) = alive (sn ++ a :: b :: rest) := by
      rw [hv, List.append_assoc, List.singleton_append, alive_append, alive_append]
      congr 1
      by_cases h1 : a < 0
      · rw [alive_neg (b :: rest) h1]
        by_cases h2 : b < 0
        · rw [if_neg (by omega), alive_neg _ h1, alive_neg _ h2]
        · rw [if_pos (by omega)]
      · have h2 : b < 0 := by omega
        rw [if_neg (by omega), alive_pos _ (by omega : 0 ≤ a), alive_pos _ (by omega : 0 ≤ a), alive_neg _ h2]
    refine ⟨?_, ⟨k, losers, ?_, by rw [hr]; exact hk, by rw [hr]; exact hd, by rw [hal]; exact hp⟩, by rw [hal, hr]; exact num⟩
    · intro x hx
      simp only [List.mem_append, List.mem_singleton] at hx
      rcases hx with (hx | hx) | hx
      · exact low x (by simp [hx])
      · rw [hx, hv]; split <;> omega
      · exact low x (by simp [hx])
    · rw [runL_snoc, hrun]
      simp only [stepL, Option.bind_some]
      rw [if_pos hneg]
  · have ha : 0 ≤ a := by omega
    have hb : 0 ≤ b := by omega
    have hal : alive (sn ++ a :: b :: rest) = alive sn ++ a :: b :: alive rest := by
      rw [alive_append, alive_pos _ ha, alive_pos _ hb]
    have hlen : 1 ≤ rs.length := by rw [hal] at num; simp at num; omega
    obtain ⟨r, t, rfl⟩ : ∃ r t, rs = r :: t := by
      cases rs with
      | nil => simp at hlen
      | cons r t => exact ⟨r, t, rfl⟩
    have hkl : k < rs0.length := by simp at hk; omega
    have hrk : rs0.getD k 0 = r ∧ rs0.drop (k + 1) = t := by
      rw [List.drop_eq_getElem_cons hkl] at hd
      simp only [List.cons.injEq] at hd
      exact ⟨by rw [List.getD_eq_getElem?_getD, List.getElem?_eq_getElem hkl]; exact hd.1.symm, hd.2.symm⟩
    have hr2 : r = 0 ∨ r = 2 := by
      rw [← hrk.1, List.getD_eq_getElem?_getD, List.getElem?_eq_getElem hkl]
      exact hrs _ (List.getElem_mem hkl)
    have hv : nextV a b (r :: t) = if r = 0 then b else a := by unfold nextV; rw [if_neg hneg]
    have hR : nextR a b (r :: t) = t := by unfold nextR; rw [if_neg hneg]; rfl
    have hw : 0 ≤ nextV a b (r :: t) := by rw [hv]; split <;> omega
    have hal2 : alive ((sn ++ [nextV a b (r :: t)]) ++ rest) = alive sn ++ nextV a b (r :: t) :: alive rest := by
      rw [List.append_assoc, alive_append, List.singleton_append, alive_pos _ hw]
    have hma : a ∈ ids n := hp.mem_iff.1 (by rw [hal]; simp)
    have hmb : b ∈ ids n := hp.mem_iff.1 (by rw [hal]; simp)
    have hia := mem_ids.1 hma
    have hib := mem_ids.1 hmb
    refine ⟨?_, ⟨k + 1, losers ++ [if r = 2 then b else a], ?_, by rw [hR]; simp at hk ⊢; omega, by rw [hR]; exact hrk.2.symm, ?_⟩, ?_⟩
    · intro x hx
      simp only [List.mem_append, List.mem_singleton] at hx
      rcases hx with (hx | hx) | hx
      · exact low x (by simp [hx])
      · rw [hx]; omega
      · exact low x (by simp [hx])
    · rw [runL_snoc, hrun]
      simp only [stepL, Option.bind_some]
      rw [if_neg hneg, if_neg (by omega), hrk.1]
    · rw [hal2]
      refine List.Perm.trans ?_ hp
      rw [hal]
      rcases hr2 with rfl | rfl
      · rw [hv, if_pos rfl, if_neg (by omega)]
        have e1 : alive sn ++ b :: alive rest ++ (losers ++ [a]) = (alive sn ++ b :: alive rest ++ losers) ++ [a] := by simp
        have e2 : alive sn ++ a :: b :: alive rest ++ losers = alive sn ++ a :: (b :: alive rest ++ losers) := by simp
        rw [e1, e2]
        refine (List.perm_append_comm).trans ?_
        rw [List.singleton_append]
        have e3 : alive sn ++ b :: alive rest ++ losers = alive sn ++ (b :: alive rest ++ losers) := by simp
        rw [e3]
        exact List.perm_middle.symm
      · rw [hv, if_neg (by omega), if_pos rfl]
        have e1 : alive sn ++ a :: alive rest ++ (losers ++ [b]) = (alive sn ++ a :: alive rest ++ losers) ++ [b] := by simp
        have e2 : alive sn ++ a :: b :: alive rest ++ losers = (alive sn ++ [a]) ++ b :: (alive rest ++ losers) := by simp
        rw [e1, e2]
        refine (List.perm_append_comm).trans ?_
        rw [List.singleton_append]
        have e3 : alive sn ++ a :: alive rest ++ losers = (alive sn ++ [a]) ++ (alive rest ++ losers) := by simp
        rw [e3]
        exact List.perm_middle.symm
    · rw [hal2, hR]
      rw [hal] at num
      simp at num ⊢
      omega

theorem Inv.round {n : Nat} {rs0 l rs : List Int} {out : List KG} (round : Int) (hrs : ∀ x ∈ rs0, x = 0 ∨ x = 2) (h : Inv n rs0 l out rs) (m : Nat) (hm : 2 * m ≤ l.length) :
    Inv n rs0 ((roundTo round l ⟨out, [], rs⟩ m).next ++ l.drop (2 * m)) (roundTo round l ⟨out, [], rs⟩ m).out (roundTo round l ⟨out, [], rs⟩ m).rs := by
  induction m with
  | zero => simpa [roundTo] using h
  | succ m ih =>
    have ih := ih (by omega)
    have e1 : l.drop (2 * m) = l.getD (2 * m) 0 :: l.getD (2 * m + 1) 0 :: l.drop (2 * (m + 1)) := by
      have q1 : l.drop (2 * m) = l[2 * m] :: l.drop (2 * m + 1) := List.drop_eq_getElem_cons (by omega)
      have q2 : l.drop (2 * m + 1) = l[2 * m + 1] :: l.drop (2 * m + 1 + 1) := List.drop_eq_getElem_cons (by omega)
      have g1 : l.getD (2 * m) 0 = l[2 * m] := by rw [List.getD_eq_getElem?_getD, List.getElem?_eq_getElem (by omega)]; rfl
      have g2 : l.getD (2 * m + 1) 0 = l[2 * m + 1] := by rw [List.getD_eq_getElem?_getD, List.getElem?_eq_getElem (by omega)]; rfl
      rw [q1, q2, g1, g2]
      rfl
    rw [e1] at ih
    exact ih.step round hrs

theorem Inv.play {n : Nat} {rs0 : List Int} (hrs : ∀ x ∈ rs0, x = 0 ∨ x = 2) : ∀ (j round : Nat) (l : List Int) (out : List KG) (rs : List Int), l.length = 2 ^ j → Inv n rs0 l out rs → Inv n rs0 (playL j round l out rs).1 (playL j round l out rs).2.1 (playL j round l out rs).2.2 ∧ (playL j round l out rs).1.length = 1
  | 0, round, l, out, rs, hl, h => ⟨h, hl⟩
  | j + 1, round, l, out, rs, hl, h => by
    have hop : hasOpen l = false := by
      unfold hasOpen
      rw [List.any_eq_false]
      intro x hx he
      have := h.low x hx
      simp at he
      omega
    have hl2 : l.length = 2 * 2 ^ j := by rw [hl, Nat.pow_succ]; omega
    have hr := h.round round hrs (2 ^ j) (by omega)
    rw [List.drop_of_length_le (by omega), List.append_nil] at hr
    have hlen := (roundTo_lens round l ⟨out, [], rs⟩ (2 ^ j)).2
    rw [playL, if_neg (by simp [hop])]
    exact Inv.play hrs j (round + 1) _ _ _ (by rw [hlen]; simp) hr

theorem seeds_inv : ∀ n : Nat, 2 ≤ n → n ≤ 32 → (∀ x ∈ seedsZ n, -1 ≤ x) ∧ (alive (seedsZ n)).Perm (ids n) := by
  have h : ∀ n ∈ List.range 33, (decide (n < 2) || ((seedsZ n).all fun x => decide (-1 ≤ x)) && (ids n).all (fun x => (alive (seedsZ n)).count x == 1) && (alive (seedsZ n)).all (fun x => (ids n).contains x)) = true := by decide +kernel
  intro n h0 h1
  have := h n (List.mem_range.2 (by omega))
  rw [Bool.or_eq_true, decide_eq_true_eq] at this
  have := this.resolve_left (by omega)
  simp only [Bool.and_eq_true] at this
  obtain ⟨⟨q1, q2⟩, q3⟩ := this
  refine ⟨fun x hx => by simpa using List.all_eq_true.1 q1 x hx, ?_⟩
  refine List.perm_iff_count.2 fun x => ?_
  by_cases hx : x ∈ ids n
  · have a1 := List.all_eq_true.1 q2 x hx
    rw [beq_iff_eq] at a1
    rw [a1, (nodup_ids n).count, if_pos hx]
  · rw [List.count_eq_zero_of_not_mem hx]
    refine List.count_eq_zero_of_not_mem fun hy => hx ?_
    have := List.all_eq_true.1 q3 x hy
    simpa using this

/-- the law, plainly. -/
theorem once (n : Nat) (rs0 : List Int) (h0 : 2 ≤ n) (h1 : n ≤ 32) (hl : rs0.length + 1 = n) (hrs : ∀ x ∈ rs0, x = 0 ∨ x = 2) :
    ∃ (out : List KG) (w : Int) (losers : List Int), playR n rs0 = (out, w, 0) ∧ runL n rs0 out = some (n - 1, losers) ∧ losers.length = n - 1 ∧ (w :: losers).Perm (ids n) ∧ out.length ≤ 32 := by
  obtain ⟨s1, s2⟩ := seeds_inv n h0 h1
  have hi : Inv n rs0 (seedsZ n) [] rs0 := ⟨s1, ⟨0, [], rfl, by omega, rfl, by simpa using s2⟩, by rw [s2.length_eq, hl]; simp [ids]⟩
  have hsl : (seedsZ n).length = 2 ^ kOf n := by unfold seedsZ; rw [List.length_map, seedsTo_len]
  obtain ⟨hI, hlen⟩ := hi.play hrs (kOf n) 0 (seedsZ n) [] rs0 hsl
  have hbad : rs0.any badB = false := by
    rw [List.any_eq_false]
    intro x hx
    rcases hrs x hx with rfl | rfl <;> simp [badB]
  have hpl : ∀ (j round : Nat) (l : List Int) (out : List KG) (rs : List Int), l.length = 2 ^ j → (playL j round l out rs).2.1.length ≤ out.length + 2 ^ j := by
    intro j
    induction j with
    | zero => intro round l out rs hl; simp [playL]
    | succ j ih =>
      intro round l out rs hl
      rw [playL]
      split
      · simp
      · have q := roundTo_lens round l ⟨out, [], rs⟩ (2 ^ j)
        have := ih (round + 1) (roundTo round l ⟨out, [], rs⟩ (2 ^ j)).next (roundTo round l ⟨out, [], rs⟩ (2 ^ j)).out (roundTo round l ⟨out, [], rs⟩ (2 ^ j)).rs (by rw [q.2]; simp)
        rw [q.1] at this
        simp only at this
        rw [Nat.pow_succ]
        omega
  have ho := hpl (kOf n) 0 (seedsZ n) [] rs0 hsl
  have hk5 : kOf n ≤ 5 := by unfold kOf; split <;> (try split) <;> (try split) <;> (try split) <;> omega
  have hp32 : 2 ^ kOf n ≤ 32 := Nat.le_trans (Nat.pow_le_pow_right (by omega) hk5) (by decide)
  have hR : playR n rs0 = endPlay (playL (kOf n) 0 (seedsZ n) [] rs0) := by unfold playR; rw [if_neg (by simp [hbad])]
  generalize playL (kOf n) 0 (seedsZ n) [] rs0 = r at *
  obtain ⟨l, out, rs⟩ := r
  simp only at *
  obtain ⟨w, rfl⟩ : ∃ w, l = [w] := List.length_eq_one_iff.1 hlen
  obtain ⟨low, ⟨k, losers, hrun, hk, hd, hp⟩, num⟩ := hI
  have hw : 0 ≤ w := by
    rcases Int.lt_or_le w 0 with h | h
    · rw [alive_neg _ h] at num
      simp [alive] at num
    · exact h
  rw [alive_pos _ hw] at num hp
  simp [alive] at num
  subst num
  have hll : losers.length = n - 1 := by
    have := hp.length_eq
    simp [alive, ids] at this
    omega
  have hkk : k = n - 1 := by simp at hk; omega
  subst hkk
  refine ⟨out, w, losers, ?_, hrun, hll, by simpa [alive] using hp, by simp at ho; omega⟩
  rw [hR]
  unfold endPlay
  simp
  omega
end Go.Proofs.Ytaagijoeccbmeaa

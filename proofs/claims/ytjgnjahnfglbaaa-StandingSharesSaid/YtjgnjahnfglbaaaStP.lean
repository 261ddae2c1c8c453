/- A stable merge in place, as plain data: what the search finds, what a rotation gives. -/
import Derived.Sort.LotA
namespace Go.Proofs.Ytjgnjahnfglbaaa
open Go.Sort
set_option linter.unusedVariables false

variable {α : Type} {lt : α → α → Bool}
/-- what lies at k behind the exchange of the parts from s to m and from m to e. -/
def rotS (f : Nat → α) (s m e k : Nat) : α := if k < s then f k else if k < s + (e - m) then f (k + (m - s)) else if k < e then f (k - (e - m)) else f k
/-- what lies at k behind the exchange of n elements from a and from b. -/
def exS (f : Nat → α) (a b n k : Nat) : α := if a ≤ k ∧ k < a + n then f (k + (b - a)) else if b ≤ k ∧ k < b + n then f (k - (b - a)) else f k
theorem rot_left (f g : Nat → α) (m i j : Nat) (hi : i ≤ m) (hji : j < i) (hg : ∀ k, g k = exS f (m - i) m j k) (k : Nat) : rotS g (m - (i - j)) m (m + j) k = rotS f (m - i) m (m + j) k := by
  unfold rotS
  simp only [hg, exS]
  repeat' split
  all_goals first | omega | (congr 1 <;> omega)
theorem rot_right (f g : Nat → α) (m i j : Nat) (hi : i ≤ m) (hij : i < j) (hg : ∀ k, g k = exS f (m - i) (m + j - i) i k) (k : Nat) : rotS g (m - i) m (m + (j - i)) k = rotS f (m - i) m (m + j) k := by
  unfold rotS
  simp only [hg, exS]
  repeat' split
  all_goals first | omega | (congr 1 <;> omega)
theorem rot_end (f : Nat → α) (m i : Nat) (hi : i ≤ m) (k : Nat) : exS f (m - i) m i k = rotS f (m - i) m (m + i) k := by
  unfold rotS exS
  repeat' split
  all_goals first | omega | (congr 1 <;> omega)
theorem rot_none (f : Nat → α) (s m e : Nat) (hs : s ≤ m) (he : m ≤ e) (h : s = m ∨ e = m) (k : Nat) : rotS f s m e k = f k := by
  unfold rotS
  repeat' split
  all_goals first | omega | rfl | (congr 1 <;> omega)

theorem ex_zero (f : Nat → α) (a b k : Nat) : exS f a b 0 k = f k := by
  unfold exS
  rw [if_neg (by omega), if_neg (by omega)]
variable [Inhabited α]
theorem le_of_sorted (hS : SWO lt) {a b : Nat} {d : Array α} (h : SortedIn lt a b d) {i j : Nat} (ha : a ≤ i) (hij : i ≤ j) (hb : j < b) : lt d[j]! d[i]! = false := by
  rcases Nat.lt_or_eq_of_le hij with h1 | h1
  · exact h i j ha h1 hb
  · subst h1; exact hS.irrefl _
section
variable {a s m e b : Nat} {d d' : Array α}
theorem rot_parts (h1 : SortedIn lt a m d) (h2 : SortedIn lt m b d) (has : a ≤ s) (hsm : s ≤ m) (hme : m ≤ e) (heb : e ≤ b) (hd : ∀ k, d'[k]! = rotS (fun i => d[i]!) s m e k) :
    SortedIn lt a s d' ∧ SortedIn lt s (s + (e - m)) d' ∧ SortedIn lt (s + (e - m)) e d' ∧ SortedIn lt e b d' := by
  refine ⟨?_, ?_, ?_, ?_⟩ <;> (intro i j hi hij hj; rw [hd, hd]; unfold rotS; repeat' split) <;> first
    | omega
    | exact h1 _ _ (by omega) (by omega) (by omega)
    | exact h2 _ _ (by omega) (by omega) (by omega)
theorem rot_apart (hS : SWO lt) (h1 : SortedIn lt a m d) (h2 : SortedIn lt m b d) (has : a ≤ s) (hsm : s ≤ m) (hme : m ≤ e) (heb : e ≤ b) (hd : ∀ k, d'[k]! = rotS (fun i => d[i]!) s m e k)
    (c1 : s = a ∨ e = b ∨ lt d[e]! d[s - 1]! = false) (c2 : s = m ∨ e = m ∨ lt d[e - 1]! d[s]! = true) :
    ∀ i j, a ≤ i → i < s + (e - m) → s + (e - m) ≤ j → j < b → lt d'[j]! d'[i]! = false := by
  intro i j hi1 hi2 hj1 hj2
  rw [hd, hd]
  unfold rotS
  rw [if_neg (show ¬ j < s by omega), if_neg (show ¬ j < s + (e - m) by omega)]
  by_cases his : i < s
  · rw [if_pos his]
    by_cases hje : j < e
    · rw [if_pos hje]
      exact le_of_sorted hS h1 hi1 (by omega) (by omega)
    · rw [if_neg hje]
      rcases c1 with c | c | c
      · omega
      · omega
      · exact hS.ntrans _ _ _ (le_of_sorted hS h2 (by omega) (show e ≤ j by omega) hj2) (hS.ntrans _ _ _ c (le_of_sorted hS h1 hi1 (by omega) (by omega)))
  · rw [if_neg his, if_pos hi2]
    by_cases hje : j < e
    · rw [if_pos hje]
      rcases c2 with c | c | c
      · omega
      · omega
      · exact hS.ntrans _ _ _ (le_of_sorted hS h1 has (show s ≤ j - (e - m) by omega) (by omega)) (hS.ntrans _ _ _ (hS.asymmA c) (le_of_sorted hS h2 (by omega) (by omega) (by omega)))
    · rw [if_neg hje]
      exact le_of_sorted hS h2 (by omega) (by omega) hj2
/-- both halves sorted, and nothing on the right less than anything on the left. -/
theorem sorted_halves {mid : Nat} {d1 d2 : Array α} (ham : a ≤ mid) (hmb : mid ≤ b) (hb : b ≤ d'.size) (hA : ∀ i j, a ≤ i → i < mid → mid ≤ j → j < b → lt d'[j]! d'[i]! = false)
    (p1 : PermIn a mid d' d1) (s1 : SortedIn lt a mid d1) (p2 : PermIn mid b d1 d2) (s2 : SortedIn lt mid b d2) : SortedIn lt a b d2 := by
  have hB : ∀ j, mid ≤ j → j < b → ∀ i, a ≤ i → i < mid → lt d'[j]! d1[i]! = false := fun j hj1 hj2 => permIn_all d' d1 a mid (fun x => lt d'[j]! x = false) (by omega) p1 (fun i hi1 hi2 => hA i j hi1 hi2 hj1 hj2)
  have hC : ∀ i, a ≤ i → i < mid → ∀ j, mid ≤ j → j < b → lt d2[j]! d1[i]! = false := fun i hi1 hi2 => permIn_all d1 d2 mid b (fun x => lt x d1[i]! = false) (by rw [p1.1]; exact hb) p2 (fun j hj1 hj2 => by rw [p1.2.1 j (.inr hj1)]; exact hB j hj1 hj2 i hi1 hi2)
  intro i j hi hij hj
  by_cases h1 : i < mid
  · rw [p2.2.1 i (.inl h1)]
    by_cases h2 : j < mid
    · rw [p2.2.1 j (.inl h2)]; exact s1 i j hi hij h2
    · exact hC i hi h1 j (by omega) hj
  · exact s2 i j (by omega) hij hj
theorem ins_left (hS : SWO lt) {i : Nat} (h2 : SortedIn lt (a + 1) b d) (hi1 : a + 1 ≤ i) (hib : i ≤ b) (hl : ∀ k, a + 1 ≤ k → k < i → lt d[k]! d[a]! = true) (hr : ∀ k, i ≤ k → k < b → lt d[k]! d[a]! = false)
    (hd : ∀ k, d'[k]! = rotS (fun i => d[i]!) a (a + 1) i k) : SortedIn lt a b d' := by
  intro p q hp hpq hq
  rw [hd, hd]
  unfold rotS
  repeat' split
  all_goals first
    | omega
    | exact h2 _ _ (by omega) (by omega) (by omega)
    | (rw [show q - (i - (a + 1)) = a by omega]; exact hS.asymmA (hl _ (by omega) (by omega)))
    | (rw [show p - (i - (a + 1)) = a by omega]; exact hr _ (by omega) (by omega))
theorem ins_right (hS : SWO lt) {i : Nat} (h1 : SortedIn lt a m d) (hi1 : a ≤ i) (him : i ≤ m) (hl : ∀ k, a ≤ k → k < i → lt d[m]! d[k]! = false) (hr : ∀ k, i ≤ k → k < m → lt d[m]! d[k]! = true)
    (hd : ∀ k, d'[k]! = rotS (fun i => d[i]!) i m (m + 1) k) : SortedIn lt a (m + 1) d' := by
  intro p q hp hpq hq
  rw [hd, hd]
  unfold rotS
  repeat' split
  all_goals first
    | omega
    | exact h1 _ _ (by omega) (by omega) (by omega)
    | (rw [show q + (m - i) = m by omega]; exact hl _ (by omega) (by omega))
    | (rw [show p + (m - i) = m by omega]; exact hS.asymmA (hr _ (by omega) (by omega)))
end
theorem sorted_keep {lo hi a mid : Nat} {d1 d2 : Array α} (p : PermIn a mid d1 d2) (hl : mid ≤ lo) (h : SortedIn lt lo hi d1) : SortedIn lt lo hi d2 := fun i j hi1 hij hj => by
  rw [p.2.1 i (.inr (by omega)), p.2.1 j (.inr (by omega))]; exact h i j hi1 hij hj
theorem sorted_join {a s mid : Nat} {d1 : Array α} (hs : s ≤ mid) (h : a = s ∨ mid ≤ s) (h1 : SortedIn lt a s d1) (h2 : SortedIn lt s mid d1) : SortedIn lt a mid d1 := by
  rcases h with h | h
  · rw [h]; exact h2
  · rw [show mid = s by omega]; exact h1
/-! ### the two runs of exchanges of neighbours -/
theorem run_up (d dk : Array α) (a k : Nat) (hak : a ≤ k) (hk : k + 1 < dk.size) (h : ∀ q, dk[q]! = rotS (fun i => d[i]!) a (a + 1) (k + 1) q) (q : Nat) : (swp dk k (k + 1))[q]! = rotS (fun i => d[i]!) a (a + 1) (k + 2) q := by
  rw [swp_get dk (by omega) hk]
  simp only [h, rotS]
  repeat' split
  all_goals first | omega | (congr 1 <;> omega)
theorem run_down (d dk : Array α) (m k : Nat) (hkm : k + 1 ≤ m) (hk : k + 1 < dk.size) (h : ∀ q, dk[q]! = rotS (fun i => d[i]!) (k + 1) m (m + 1) q) (q : Nat) : (swp dk (k + 1) k)[q]! = rotS (fun i => d[i]!) k m (m + 1) q := by
  rw [swp_get dk hk (by omega)]
  simp only [h, rotS]
  repeat' split
  all_goals first | omega | (congr 1 <;> omega)
theorem run_ex (d dk : Array α) (a b n k : Nat) (hab : a + n ≤ b) (hkn : k < n) (hk : b + n ≤ dk.size) (h : ∀ q, dk[q]! = exS (fun i => d[i]!) a b k q) (q : Nat) : (swp dk (a + k) (b + k))[q]! = exS (fun i => d[i]!) a b (k + 1) q := by
  rw [swp_get dk (by omega) (by omega)]
  simp only [h, exS]
  repeat' split
  all_goals first | omega | (congr 1 <;> omega)

/-! ### the search -/
structure SymIn (lt : α → α → Bool) (d : Array α) (p s0 r0 s r : Nat) : Prop where
  lo : s0 ≤ s
  mid : s ≤ r
  hi : r ≤ r0
  left : ∀ c, s0 ≤ c → c < s → lt d[p - c]! d[c]! = false
  right : ∀ c, r ≤ c → c < r0 → lt d[p - c]! d[c]! = true
section
variable {lo hi q h : Nat} {d : Array α} {x : α}
theorem ext_lt (hS : SWO lt) (hs : SortedIn lt lo hi d) (h1 : lo ≤ q) (h2 : q ≤ h) (h3 : h < hi) (hx : lt d[h]! x = true) : lt d[q]! x = true := by
  cases hc : lt d[q]! x with
  | true => rfl
  | false => rw [hS.ntrans _ _ _ (le_of_sorted hS hs h1 h2 h3) hc] at hx; cases hx
theorem ext_ge (hS : SWO lt) (hs : SortedIn lt lo hi d) (h1 : lo ≤ h) (h2 : h ≤ q) (h3 : q < hi) (hx : lt d[h]! x = false) : lt d[q]! x = false := hS.ntrans _ _ _ (le_of_sorted hS hs h1 h2 h3) hx
theorem ext_nl (hS : SWO lt) (hs : SortedIn lt lo hi d) (h1 : lo ≤ q) (h2 : q ≤ h) (h3 : h < hi) (hx : lt x d[h]! = false) : lt x d[q]! = false := hS.ntrans _ _ _ hx (le_of_sorted hS hs h1 h2 h3)
theorem ext_lr (hS : SWO lt) (hs : SortedIn lt lo hi d) (h1 : lo ≤ h) (h2 : h ≤ q) (h3 : q < hi) (hx : lt x d[h]! = true) : lt x d[q]! = true := by
  cases hc : lt x d[q]! with
  | true => rfl
  | false => rw [hS.ntrans _ _ _ hc (le_of_sorted hS hs h1 h2 h3)] at hx; cases hx
end
section
variable {a m b p s0 r0 s r : Nat} {d : Array α}
theorem SymIn.left' (hS : SWO lt) (h1 : SortedIn lt a m d) (h2 : SortedIn lt m b d) (has : a ≤ s0) (hrm : r0 ≤ m) (hp : p < b + s0) (hpm : m + r0 ≤ p + 1) (h : SymIn lt d p s0 r0 s r) {c : Nat} (hc1 : s ≤ c) (hc2 : c < r) (hx : lt d[p - c]! d[c]! = false) : SymIn lt d p s0 r0 (c + 1) r := by
  have := h.lo; have := h.mid; have := h.hi
  refine ⟨by omega, by omega, h.hi, fun q q1 q2 => ?_, h.right⟩
  exact hS.ntrans _ _ _ (le_of_sorted hS h2 (show m ≤ p - c by omega) (show p - c ≤ p - q by omega) (by omega)) (hS.ntrans _ _ _ hx (le_of_sorted hS h1 (show a ≤ q by omega) (show q ≤ c by omega) (by omega)))
theorem SymIn.right' (hS : SWO lt) (h1 : SortedIn lt a m d) (h2 : SortedIn lt m b d) (has : a ≤ s0) (hrm : r0 ≤ m) (hp : p < b + s0) (hpm : m + r0 ≤ p + 1) (h : SymIn lt d p s0 r0 s r) {c : Nat} (hc1 : s ≤ c) (hc2 : c < r) (hx : lt d[p - c]! d[c]! = true) : SymIn lt d p s0 r0 s c := by
  have := h.lo; have := h.mid; have := h.hi
  refine ⟨h.lo, hc1, by omega, h.left, fun q q1 q2 => ?_⟩
  cases hc : lt d[p - q]! d[q]! with
  | true => rfl
  | false =>
    rw [hS.ntrans _ _ _ (le_of_sorted hS h2 (show m ≤ p - q by omega) (show p - q ≤ p - c by omega) (by omega)) (hS.ntrans _ _ _ hc (le_of_sorted hS h1 (show a ≤ c by omega) (show c ≤ q by omega) (by omega)))] at hx
    cases hx
theorem SymIn.start (hsr : s0 ≤ r0) : SymIn lt d p s0 r0 s0 r0 := ⟨Nat.le_refl _, hsr, Nat.le_refl _, fun c h1 h2 => by omega, fun c h1 h2 => by omega⟩
end
end Go.Proofs.Ytjgnjahnfglbaaa

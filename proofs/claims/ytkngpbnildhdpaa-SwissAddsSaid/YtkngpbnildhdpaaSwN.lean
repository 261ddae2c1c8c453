/- What a whole pairing gives everybody. -/
import Derived.Test.YtkngpbnildhdpaaSwC
namespace Go.Proofs.Ytkngpbnildhdpaa
open Go.ChangeShapes Go.WideShapes Go.ChangeAt Go.RowKit
set_option linter.unusedVariables false

/-- how often z plays. -/
def occ : List (Int × Int) → Int → Nat
  | [], _ => 0
  | p :: t, z => ((if p.1 = z then 1 else 0) + (if p.2 = z then 1 else 0)) + occ t z
theorem occ_append (a b : List (Int × Int)) (z : Int) : occ (a ++ b) z = occ a z + occ b z := by
  induction a with
  | nil => simp [occ]
  | cons p t ih => rw [List.cons_append, occ, occ, ih]; omega
theorem occ_one (a b z : Nat) : occ [((a : Int), (b : Int))] (z : Int) = (if z = a then 1 else 0) + (if z = b then 1 else 0) := by
  rw [occ, occ, Nat.add_zero]
  have h1 : ((a : Int) = (z : Int)) ↔ z = a := by omega
  have h2 : ((b : Int) = (z : Int)) ↔ z = b := by omega
  simp only [h1, h2]
theorem occ_le (z : Int) : ∀ l : List (Int × Int), occ l z ≤ 2 * l.length
  | [] => Nat.le_refl _
  | p :: t => by
    have := occ_le z t
    rw [occ, List.length_cons]
    split <;> split <;> omega
def busyL (n : Nat) (l : List (Int × Int)) : List Int := (List.range n).map fun (z : Nat) => ((occ l (z : Int) : Nat) : Int)
theorem busyL_len (n : Nat) (l : List (Int × Int)) : (busyL n l).length = n := by simp [busyL]
theorem busyL_getD (n : Nat) (l : List (Int × Int)) (z : Nat) (h : z < n) : (busyL n l).getD z 0 = ((occ l (z : Int) : Nat) : Int) := by
  rw [List.getD_eq_getElem?_getD, List.getElem?_eq_getElem (by rw [busyL_len]; exact h)]
  simp [busyL]
theorem busyL_nil (n : Nat) : busyL n [] = List.replicate n 0 := by
  apply List.ext_getElem
  · simp [busyL]
  · intro i h1 h2; simp [busyL, occ]
theorem ext_getD (a b : List Int) (n : Nat) (ha : a.length = n) (hb : b.length = n) (h : ∀ z, z < n → a.getD z 0 = b.getD z 0) : a = b := by
  apply List.ext_getElem (by rw [ha, hb])
  intro i h1 h2
  have := h i (by omega)
  rw [List.getD_eq_getElem?_getD, List.getD_eq_getElem?_getD, List.getElem?_eq_getElem h1, List.getElem?_eq_getElem h2] at this
  exact this
theorem busy_step (n : Nat) (l : List (Int × Int)) (i j : Nat) (hi : i < n) (hj : j < n) (hij : i ≠ j) :
    ((busyL n l).set i ((occ l (i : Int) : Nat) + 1)).set j ((occ l (j : Int) : Nat) + 1) = busyL n (l ++ [((i : Int), (j : Int))]) := by
  refine ext_getD _ _ n (by simp [busyL_len]) (busyL_len _ _) fun z hz => ?_
  rw [busyL_getD _ _ _ hz, occ_append, set_getD _ _ _ _ (by simp [busyL_len]; exact hj), set_getD _ _ _ _ (by rw [busyL_len]; exact hi), busyL_getD _ _ _ hz]
  rw [occ_one]
  by_cases e1 : z = j
  · subst e1
    rw [if_pos rfl, if_neg (fun h => hij h.symm), if_pos rfl]; omega
  · rw [if_neg e1, if_neg e1]
    by_cases e2 : z = i
    · subst e2; rw [if_pos rfl, if_pos rfl]; omega
    · rw [if_neg e2, if_neg e2]; omega

theorem Whole.len {ps : List SwP} {W : List Int} (h : Whole ps W) : W.length = ps.length := h.1.len
theorem Whole.ent {ps : List SwP} {W : List Int} (h : Whole ps W) (i : Nat) (hi : i < ps.length) :
    (W.getD i 0 = ps.length ∧ (plAt ps i).bye = false) ∨ ∃ j : Nat, j < ps.length ∧ W.getD i 0 = j ∧ j ≠ i ∧ W.getD j 0 = i ∧ metN ps i j = 0 := by
  rcases h.1.ent i hi with e | e | e
  · exact absurd e (zero_cnt h.2 i (by rw [h.len]; exact hi))
  · exact .inl e
  · exact .inr e
theorem Whole.sym {ps : List SwP} {W : List Int} (h : Whole ps W) {i j : Nat} (hi : i < ps.length) (hj : j < ps.length) (e : W.getD i 0 = (j : Int)) : W.getD j 0 = (i : Int) := by
  rcases h.ent i hi with ⟨q, -⟩ | ⟨m, h1, h2, h3, h4, -⟩
  · omega
  · have : m = j := by omega
    subst this
    exact h4
theorem occ_out {ps : List SwP} {W : List Int} (h : Whole ps W) (z : Nat) (hz : z < ps.length) : ∀ k, k ≤ ps.length →
    occ (outZ ps W k) (z : Int) = (if z < k ∧ W.getD z 0 ≠ ps.length ∧ (z : Int) < W.getD z 0 then 1 else 0) + (if W.getD z 0 ≠ ps.length ∧ W.getD z 0 < k ∧ W.getD z 0 < z then 1 else 0)
  | 0, _ => by
    have h1 : ¬ (z < 0 ∧ W.getD z 0 ≠ ps.length ∧ (z : Int) < W.getD z 0) := by omega
    have h2 : ¬ (W.getD z 0 ≠ ps.length ∧ W.getD z 0 < ((0 : Nat) : Int) ∧ W.getD z 0 < z) := by
      rcases h.ent z hz with ⟨q, -⟩ | ⟨m, h1, h2, -⟩ <;> omega
    rw [if_neg h1, if_neg h2]; rfl
  | k + 1, hk => by
    unfold outZ
    rw [occ_append, occ_out h z hz k (by omega)]
    rcases h.ent k (by omega) with ⟨q, -⟩ | ⟨j, j1, j2, j3, j4, -⟩
    · have e : gmE ps k (W.getD k 0) = [] := by unfold gmE; rw [if_pos q]
      rw [e]
      have hs : W.getD z 0 ≠ (k : Int) := fun e => by
        have := h.sym hz (by omega) e
        omega
      have e1 : (z < k + 1 ∧ W.getD z 0 ≠ ps.length ∧ (z : Int) < W.getD z 0) ↔ (z < k ∧ W.getD z 0 ≠ ps.length ∧ (z : Int) < W.getD z 0) := by
        constructor
        · rintro ⟨a, b, c⟩
          refine ⟨?_, b, c⟩
          by_cases ez : z = k
          · subst ez; omega
          · omega
        · rintro ⟨a, b, c⟩; exact ⟨by omega, b, c⟩
      have e2 : (W.getD z 0 ≠ ps.length ∧ W.getD z 0 < ((k + 1 : Nat) : Int) ∧ W.getD z 0 < z) ↔ (W.getD z 0 ≠ ps.length ∧ W.getD z 0 < (k : Int) ∧ W.getD z 0 < z) := by omega
      simp only [e1, e2]
      rfl
    · have hjn : ¬ W.getD k 0 = ps.length := by omega
      have hsym : W.getD z 0 = (k : Int) ↔ z = j := by
        constructor
        · intro e
          have := h.sym hz (by omega) e
          omega
        · rintro rfl; exact j4
      by_cases hkj : k < j
      · have e : occ (gmE ps k (W.getD k 0)) (z : Int) = (if z = k then 1 else 0) + (if z = j then 1 else 0) := by
          unfold gmE
          rw [if_neg hjn, j2, if_pos (by omega)]
          split
          · rw [occ_one, Nat.add_comm]
          · rw [occ_one]
        rw [e]
        by_cases a1 : z = k
        · subst a1
          rw [j2]
          rw [if_neg (show ¬ (z < z ∧ (j : Int) ≠ ps.length ∧ (z : Int) < j) by omega), if_neg (show ¬ ((j : Int) ≠ ps.length ∧ (j : Int) < (z : Int) ∧ (j : Int) < z) by omega),
            if_pos rfl, if_neg (show ¬ z = j by omega), if_pos (show z < z + 1 ∧ (j : Int) ≠ ps.length ∧ (z : Int) < j by omega), if_neg (show ¬ ((j : Int) ≠ ps.length ∧ (j : Int) < ((z + 1 : Nat) : Int) ∧ (j : Int) < z) by omega)]
        · by_cases a2 : z = j
          · subst a2
            rw [j4]
            rw [if_neg (show ¬ (z < k ∧ (k : Int) ≠ ps.length ∧ (z : Int) < k) by omega), if_neg (show ¬ ((k : Int) ≠ ps.length ∧ (k : Int) < (k : Int) ∧ (k : Int) < z) by omega),
              if_neg a1, if_pos rfl, if_neg (show ¬ (z < k + 1 ∧ (k : Int) ≠ ps.length ∧ (z : Int) < k) by omega), if_pos (show (k : Int) ≠ ps.length ∧ (k : Int) < ((k + 1 : Nat) : Int) ∧ (k : Int) < z by omega)]
          · have hne : ¬ W.getD z 0 = (k : Int) := fun e => a2 (hsym.1 e)
            rw [if_neg a1, if_neg a2]
            have e1 : (z < k + 1 ∧ W.getD z 0 ≠ ps.length ∧ (z : Int) < W.getD z 0) ↔ (z < k ∧ W.getD z 0 ≠ ps.length ∧ (z : Int) < W.getD z 0) := by omega
            have e2 : (W.getD z 0 ≠ ps.length ∧ W.getD z 0 < ((k + 1 : Nat) : Int) ∧ W.getD z 0 < z) ↔ (W.getD z 0 ≠ ps.length ∧ W.getD z 0 < (k : Int) ∧ W.getD z 0 < z) := by omega
            simp only [e1, e2]
            rfl
      · have e : gmE ps k (W.getD k 0) = [] := by unfold gmE; rw [if_neg hjn, j2, if_neg (by omega)]
        rw [e]
        have e1 : (z < k + 1 ∧ W.getD z 0 ≠ ps.length ∧ (z : Int) < W.getD z 0) ↔ (z < k ∧ W.getD z 0 ≠ ps.length ∧ (z : Int) < W.getD z 0) := by
          constructor
          · rintro ⟨a, b, c⟩
            refine ⟨?_, b, c⟩
            by_cases ez : z = k
            · subst ez; omega
            · omega
          · rintro ⟨a, b, c⟩; exact ⟨by omega, b, c⟩
        have e2 : (W.getD z 0 ≠ ps.length ∧ W.getD z 0 < ((k + 1 : Nat) : Int) ∧ W.getD z 0 < z) ↔ (W.getD z 0 ≠ ps.length ∧ W.getD z 0 < (k : Int) ∧ W.getD z 0 < z) := by
          constructor
          · rintro ⟨a, b, c⟩
            refine ⟨a, ?_, c⟩
            by_cases ez : W.getD z 0 = (k : Int)
            · have := hsym.1 ez; omega
            · omega
          · rintro ⟨a, b, c⟩; exact ⟨a, by omega, c⟩
        simp only [e1, e2]
        rfl
theorem occ_all {ps : List SwP} {W : List Int} (h : Whole ps W) (z : Nat) (hz : z < ps.length) : occ (outZ ps W ps.length) (z : Int) = if W.getD z 0 = ps.length then 0 else 1 := by
  rw [occ_out h z hz _ (Nat.le_refl _)]
  rcases h.ent z hz with ⟨q, -⟩ | ⟨j, j1, j2, j3, -⟩
  · rw [q, if_pos rfl, if_neg (by omega), if_neg (by omega)]
  · rw [j2, if_neg (show ¬ (j : Int) = ps.length by omega)]
    by_cases hh : z < j
    · rw [if_pos (by omega), if_neg (by omega)]
    · rw [if_neg (by omega), if_pos (by omega)]
/-- a game of a pairing. -/
def GameOK (ps : List SwP) (W : List Int) (p : Int × Int) : Prop := ∃ i j : Nat, p = ((i : Int), (j : Int)) ∧ i < ps.length ∧ j < ps.length ∧ i ≠ j ∧ W.getD i 0 = j ∧ W.getD j 0 = i ∧ metN ps i j = 0 ∧ metN ps j i = 0
theorem games_ok {ps : List SwP} {W : List Int} (h : Whole ps W) : ∀ k, k ≤ ps.length → ∀ p ∈ outZ ps W k, GameOK ps W p
  | 0, _, p, hp => by cases hp
  | k + 1, hk, p, hp => by
    unfold outZ at hp
    rcases List.mem_append.1 hp with hp | hp
    · exact games_ok h k (by omega) p hp
    · rcases h.ent k (by omega) with ⟨q, -⟩ | ⟨j, j1, j2, j3, j4, j5⟩
      · unfold gmE at hp; rw [if_pos q] at hp; cases hp
      · have hm : metN ps j k = 0 := by
          rcases h.ent j j1 with ⟨q, -⟩ | ⟨m, m1, m2, m3, m4, m5⟩
          · omega
          · have : m = k := by omega
            subst this
            exact m5
        unfold gmE at hp
        rw [if_neg (by omega), j2] at hp
        split at hp
        · split at hp
          · obtain rfl : p = ((j : Int), (k : Int)) := by simpa using hp
            exact ⟨j, k, rfl, j1, by omega, j3, j4, j2, hm, j5⟩
          · obtain rfl : p = ((k : Int), (j : Int)) := by simpa using hp
            exact ⟨k, j, rfl, by omega, j1, fun e => j3 e.symm, j2, j4, j5, hm⟩
        · cases hp
theorem off_spec (n : Nat) (W : List Int) : ∀ k, (offZ n W k = -1 ∧ ∀ i, i < k → W.getD i 0 ≠ n) ∨ ∃ i : Nat, i < k ∧ offZ n W k = i ∧ W.getD i 0 = n
  | 0 => .inl ⟨rfl, fun i hi => absurd hi (Nat.not_lt_zero _)⟩
  | k + 1 => by
    unfold offZ
    by_cases e : W.getD k 0 = n
    · rw [if_pos e]; exact .inr ⟨k, by omega, rfl, e⟩
    · rw [if_neg e]
      rcases off_spec n W k with ⟨h1, h2⟩ | ⟨i, h1, h2, h3⟩
      · refine .inl ⟨h1, fun i hi => ?_⟩
        by_cases ei : i = k
        · subst ei; exact e
        · exact h2 i (by omega)
      · exact .inr ⟨i, by omega, h2, h3⟩
/-- who is off. -/
def OffOK (ps : List SwP) (W : List Int) (off : Int) : Prop :=
  (off = -1 ∧ ps.length % 2 = 0 ∧ (∀ i, i < ps.length → W.getD i 0 ≠ ps.length)) ∨
  ∃ i : Nat, i < ps.length ∧ off = i ∧ ps.length % 2 = 1 ∧ (plAt ps i).bye = false ∧ W.getD i 0 = ps.length ∧ ∀ k, k < ps.length → W.getD k 0 = ps.length → k = i
theorem off_ok {ps : List SwP} {W : List Int} (h : Whole ps W) : OffOK ps W (offZ ps.length W ps.length) := by
  rcases off_spec ps.length W ps.length with ⟨h1, h2⟩ | ⟨i, h1, h2, h3⟩
  · refine .inl ⟨h1, ?_, h2⟩
    rcases Nat.mod_two_eq_zero_or_one ps.length with e | e
    · exact e
    · obtain ⟨i, hi, e⟩ := h.1.has.2 ⟨e, rfl⟩
      exact absurd e (h2 i hi)
  · refine .inr ⟨i, h1, h2, (h.1.has.1 ⟨i, h1, h3⟩).1, ?_, h3, fun k hk e => h.1.uniq k i hk h1 e h3⟩
    rcases h.ent i h1 with ⟨-, q⟩ | ⟨j, j1, j2, -⟩
    · exact q
    · omega
/-- everybody is paired once. -/
def OnceOK (ps : List SwP) (G : List (Int × Int)) (off : Int) : Prop :=
  (off = -1 ∧ ps.length % 2 = 0 ∧ busyL ps.length G = List.replicate ps.length 1) ∨
  ∃ i : Nat, i < ps.length ∧ off = i ∧ ps.length % 2 = 1 ∧ (plAt ps i).bye = false ∧ (busyL ps.length G).set i ((occ G (i : Int) : Nat) + 1) = List.replicate ps.length 1
theorem once_ok {ps : List SwP} {W : List Int} (h : Whole ps W) : OnceOK ps (outZ ps W ps.length) (offZ ps.length W ps.length) := by
  have hr : ∀ z, z < ps.length → (List.replicate ps.length (1 : Int)).getD z 0 = 1 := fun z hz => by
    rw [List.getD_eq_getElem?_getD, List.getElem?_replicate, if_pos hz]; rfl
  rcases off_ok h with ⟨h1, h2, h3⟩ | ⟨i, h1, h2, h3, h4, h5, h6⟩
  · refine .inl ⟨h1, h2, ext_getD _ _ ps.length (busyL_len _ _) (by simp) fun z hz => ?_⟩
    rw [busyL_getD _ _ _ hz, occ_all h z hz, if_neg (h3 z hz), hr z hz]; rfl
  · refine .inr ⟨i, h1, h2, h3, h4, ext_getD _ _ ps.length (by simp [busyL_len]) (by simp) fun z hz => ?_⟩
    rw [set_getD _ _ _ _ (by rw [busyL_len]; exact h1), hr z hz, busyL_getD _ _ _ hz, occ_all h z hz, occ_all h i h1, if_pos h5]
    by_cases e : z = i
    · rw [if_pos e]; rfl
    · rw [if_neg e, if_neg (fun q => e (h6 z hz q))]; rfl
theorem metN_zero {ps : List SwP} {i : Nat} {j : Int} (h : metN ps i j = 0) (k : Nat) (hk : k < (plAt ps i).opp.length) : (plAt ps i).opp.getD k 0 ≠ j := by
  intro e
  unfold metN at h
  rw [List.length_eq_zero_iff, List.filter_eq_nil_iff] at h
  have hm : (plAt ps i).opp.getD k 0 ∈ (plAt ps i).opp := by
    rw [List.getD_eq_getElem?_getD, List.getElem?_eq_getElem hk]
    exact List.getElem_mem hk
  exact h _ hm (by rw [e]; simp)
end Go.Proofs.Ytkngpbnildhdpaa

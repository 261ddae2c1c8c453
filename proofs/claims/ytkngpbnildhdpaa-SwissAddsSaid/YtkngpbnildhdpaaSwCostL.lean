/- What a pairing costs; an exchange of two partners. -/
import Derived.Test.YtkngpbnildhdpaaSwN
namespace Go.Proofs.Ytkngpbnildhdpaa
open Go.ChangeShapes Go.WideShapes Go.ChangeAt Go.RowKit
set_option linter.unusedVariables false

/-- what games cost together. -/
def sumG (ps : List SwP) : List (Int × Int) → Int
  | [] => 0
  | p :: t => costZ ps p.1.toNat p.2.toNat + sumG ps t
theorem sumG_append (ps : List SwP) (a b : List (Int × Int)) : sumG ps (a ++ b) = sumG ps a + sumG ps b := by
  induction a with
  | nil => simp [sumG]
  | cons p t ih => rw [List.cons_append, sumG, sumG, ih]; omega
theorem sumG_one (ps : List SwP) (i j : Nat) : sumG ps [((i : Int), (j : Int))] = costZ ps i j := by
  rw [sumG, sumG, Int.add_zero]; rfl
/-- what the bye costs. -/
def offC (ps : List SwP) (off : Int) : Int := if 0 ≤ off then 100 * (plAt ps off.toNat).score * (plAt ps off.toNat).score else 0
theorem cost_games {ps : List SwP} {W : List Int} (h : Whole ps W) : ∀ k, k ≤ ps.length → sumTo k (fun i => ctE ps i (W.getD i 0)) = sumG ps (outZ ps W k) + offC ps (offZ ps.length W k)
  | 0, _ => rfl
  | k + 1, hk => by
    unfold sumTo outZ
    show sumTo k _ + ctE ps k (W.getD k 0) = _
    rw [cost_games h k (by omega), sumG_append]
    rcases h.ent k (by omega) with ⟨q, -⟩ | ⟨j, j1, j2, j3, j4, -⟩
    · have e : gmE ps k (W.getD k 0) = [] := by unfold gmE; rw [if_pos q]
      have e2 : offZ ps.length W (k + 1) = k := by rw [offZ, if_pos q]
      have e3 : offC ps (offZ ps.length W k) = 0 := by
        rcases off_spec ps.length W k with ⟨h1, -⟩ | ⟨i, h1, -, h3⟩
        · rw [h1]; rfl
        · have := h.1.uniq i k (by omega) (by omega) h3 q
          omega
      rw [e, e2, e3, q]
      unfold offC ctE
      rw [if_pos rfl, if_pos (by omega), Int.toNat_natCast]
      simp [sumG]
    · have hjn : ¬ W.getD k 0 = ps.length := by omega
      have e2 : offZ ps.length W (k + 1) = offZ ps.length W k := by rw [offZ, if_neg hjn]
      have e : sumG ps (gmE ps k (W.getD k 0)) = ctE ps k (W.getD k 0) := by
        unfold gmE ctE
        rw [if_neg hjn, if_neg hjn, j2, Int.toNat_natCast]
        by_cases hkj : (k : Int) < (j : Int)
        · rw [if_pos hkj, if_pos hkj]
          split
          · rw [sumG_one, costZ_comm]
          · rw [sumG_one]
        · rw [if_neg hkj, if_neg hkj]; rfl
      rw [e2, e]
      omega
theorem costW_games {ps : List SwP} {W : List Int} (h : Whole ps W) : costW ps W = sumG ps (outZ ps W ps.length) + offC ps (offZ ps.length W ps.length) := cost_games h _ (Nat.le_refl _)

theorem occ_mem (z : Int) (p : Int × Int) : ∀ l : List (Int × Int), p ∈ l → occ [p] z ≤ occ l z
  | [], h => by cases h
  | q :: t, h => by
    rw [occ.eq_def (q :: t)]
    simp only
    rcases List.mem_cons.1 h with rfl | h
    · rw [occ, occ]; omega
    · have := occ_mem z p t h; omega
theorem occ_two (l : List (Int × Int)) (a b : Nat) (hb : b < l.length) (hab : a < b) (z : Int) : occ [l[a]'(by omega)] z + occ [l[b]] z ≤ occ l z := by
  have e : l = l.take b ++ ([l[b]] ++ l.drop (b + 1)) := by
    rw [List.singleton_append, List.getElem_cons_drop, List.take_append_drop]
  have hm : l[a]'(by omega) ∈ l.take b := by
    rw [List.mem_take_iff_getElem]
    exact ⟨a, by omega, rfl⟩
  have h1 := occ_mem z _ _ hm
  have h2 := congrArg (fun l => occ l z) e
  simp only [occ_append] at h2
  omega
/-- two games of a pairing have four players. -/
theorem four {ps : List SwP} {W : List Int} (h : Whole ps W) (a b : Nat) (ha : a < (outZ ps W ps.length).length) (hb : b < (outZ ps W ps.length).length) (hab : a ≠ b) (i j x y : Nat)
    (e1 : (outZ ps W ps.length)[a] = ((i : Int), (j : Int))) (e2 : (outZ ps W ps.length)[b] = ((x : Int), (y : Int))) (hi : i < ps.length) (hj : j < ps.length) : i ≠ x ∧ i ≠ y ∧ j ≠ x ∧ j ≠ y := by
  have key : ∀ z : Nat, z < ps.length → occ [((i : Int), (j : Int))] (z : Int) + occ [((x : Int), (y : Int))] (z : Int) ≤ 1 := by
    intro z hz
    have hle : occ (outZ ps W ps.length) (z : Int) ≤ 1 := by rw [occ_all h z hz]; split <;> omega
    rcases Nat.lt_or_ge a b with hlt | hge
    · have := occ_two _ a b hb hlt (z : Int)
      rw [e1, e2] at this
      omega
    · have := occ_two _ b a ha (by omega) (z : Int)
      rw [e1, e2] at this
      omega
  have k1 := key i hi
  have k2 := key j hj
  rw [occ_one, occ_one] at k1 k2
  rw [if_pos rfl] at k1
  refine ⟨fun e => ?_, fun e => ?_, fun e => ?_, fun e => ?_⟩
  · rw [if_pos e] at k1; omega
  · rw [if_pos e] at k1; omega
  · rw [if_pos rfl, if_pos e] at k2; omega
  · rw [if_pos rfl, if_pos e] at k2; omega

/-- two partners are exchanged. -/
def swapW (W : List Int) (i j x y : Nat) : List Int := (((W.set i (y : Int)).set y (i : Int)).set x (j : Int)).set j (x : Int)
theorem swap_getD (W : List Int) (n i j x y : Nat) (hl : W.length = n) (hi : i < n) (hj : j < n) (hx : x < n) (hy : y < n) (z : Nat) :
    (swapW W i j x y).getD z 0 = if z = j then (x : Int) else if z = x then (j : Int) else if z = y then (i : Int) else if z = i then (y : Int) else W.getD z 0 := by
  unfold swapW
  rw [set_getD _ _ _ _ (by simp only [List.length_set]; omega), set_getD _ _ _ _ (by simp only [List.length_set]; omega), set_getD _ _ _ _ (by simp only [List.length_set]; omega), set_getD _ _ _ _ (by omega)]
theorem swap_whole {ps : List SwP} {W : List Int} (h : Whole ps W) (i j x y : Nat) (hi : i < ps.length) (hj : j < ps.length) (hx : x < ps.length) (hy : y < ps.length) (hij : i ≠ j) (hxy : x ≠ y)
    (hd : i ≠ x ∧ i ≠ y ∧ j ≠ x ∧ j ≠ y) (w1 : W.getD i 0 = j) (w2 : W.getD j 0 = i) (w3 : W.getD x 0 = y) (w4 : W.getD y 0 = x)
    (m1 : metN ps i y = 0) (m2 : metN ps y i = 0) (m3 : metN ps x j = 0) (m4 : metN ps j x = 0) : Whole ps (swapW W i j x y) := by
  have hl := h.len
  obtain ⟨d1, d2, d3, d4⟩ := hd
  have hg := swap_getD W ps.length i j x y hl hi hj hx hy
  have hls : (swapW W i j x y).length = ps.length := by unfold swapW; simp only [List.length_set]; exact hl
  have gi : (swapW W i j x y).getD i 0 = y := by rw [hg, if_neg hij, if_neg d1, if_neg d2, if_pos rfl]
  have gj : (swapW W i j x y).getD j 0 = x := by rw [hg, if_pos rfl]
  have gx : (swapW W i j x y).getD x 0 = j := by rw [hg, if_neg (fun e => d3 e.symm), if_pos rfl]
  have gy : (swapW W i j x y).getD y 0 = i := by rw [hg, if_neg (fun e => d4 e.symm), if_neg (fun e => hxy e.symm), if_pos rfl]
  have go : ∀ z, z ≠ i → z ≠ j → z ≠ x → z ≠ y → (swapW W i j x y).getD z 0 = W.getD z 0 := fun z a b c d => by rw [hg, if_neg b, if_neg c, if_neg d, if_neg a]
  have hent : ∀ z, z < ps.length → ((swapW W i j x y).getD z 0 = ps.length ∧ (plAt ps z).bye = false) ∨ ∃ m : Nat, m < ps.length ∧ (swapW W i j x y).getD z 0 = m ∧ m ≠ z ∧ (swapW W i j x y).getD m 0 = z ∧ metN ps z m = 0 := by
    intro z hz
    by_cases a : z = i
    · subst a; exact .inr ⟨y, hy, gi, fun e => d2 e.symm, gy, m1⟩
    by_cases b : z = j
    · subst b; exact .inr ⟨x, hx, gj, fun e => d3 e.symm, gx, m4⟩
    by_cases c : z = x
    · subst c; exact .inr ⟨j, hj, gx, d3, gj, m3⟩
    by_cases d : z = y
    · subst d; exact .inr ⟨i, hi, gy, d2, gi, m2⟩
    rcases h.ent z hz with q | ⟨m, q1, q2, q3, q4, q5⟩
    · left; rw [go z a b c d]; exact q
    · have ei : m ≠ i := fun e => by subst e; rw [w1] at q4; omega
      have ej : m ≠ j := fun e => by subst e; rw [w2] at q4; omega
      have ex : m ≠ x := fun e => by subst e; rw [w3] at q4; omega
      have ey : m ≠ y := fun e => by subst e; rw [w4] at q4; omega
      exact .inr ⟨m, q1, by rw [go z a b c d]; exact q2, q3, by rw [go m ei ej ex ey]; exact q4, q5⟩
  have hn : ∀ z, z < ps.length → ((swapW W i j x y).getD z 0 = ps.length ↔ W.getD z 0 = ps.length) := by
    intro z hz
    by_cases a : z = i
    · subst a; rw [gi, w1]; omega
    by_cases b : z = j
    · subst b; rw [gj, w2]; omega
    by_cases c : z = x
    · subst c; rw [gx, w3]; omega
    by_cases d : z = y
    · subst d; rw [gy, w4]; omega
    rw [go z a b c d]
  have hc : cnt (swapW W i j x y) = 0 := cnt_zero (fun z hz => by
    rcases hent z (by omega) with ⟨q, -⟩ | ⟨m, -, q, -⟩ <;> omega)
  refine ⟨⟨hls, fun z hz => ?_, fun a b ha hb q1 q2 => h.1.uniq a b ha hb ((hn a ha).1 q1) ((hn b hb).1 q2), ?_, fun e => (by cases e), (by rw [hc]; rfl)⟩, hc⟩
  · rcases hent z hz with q | q
    · exact .inr (.inl q)
    · exact .inr (.inr q)
  · rw [← h.1.has]
    exact ⟨fun ⟨z, q1, q2⟩ => ⟨z, q1, (hn z q1).1 q2⟩, fun ⟨z, q1, q2⟩ => ⟨z, q1, (hn z q1).2 q2⟩⟩
theorem swap_cost {ps : List SwP} {W : List Int} (hl : W.length = ps.length) (i j x y : Nat) (hi : i < ps.length) (hj : j < ps.length) (hx : x < ps.length) (hy : y < ps.length) (hij : i ≠ j) (hxy : x ≠ y)
    (hd : i ≠ x ∧ i ≠ y ∧ j ≠ x ∧ j ≠ y) (w1 : W.getD i 0 = j) (w2 : W.getD j 0 = i) (w3 : W.getD x 0 = y) (w4 : W.getD y 0 = x) :
    costW ps (swapW W i j x y) = costW ps W + (costZ ps i y + costZ ps x j) - (costZ ps i j + costZ ps x y) := by
  obtain ⟨d1, d2, d3, d4⟩ := hd
  have c1 := ct_pair ps i y hi hy d2
  have c2 := ct_pair ps x j hx hj (fun e => d3 e.symm)
  have c3 := ct_pair ps i j hi hj hij
  have c4 := ct_pair ps x y hx hy hxy
  have gy : (W.set i (y : Int)).getD y 0 = x := by rw [set_getD _ _ _ _ (by omega), if_neg (fun e => d2 e.symm), w4]
  have gx : ((W.set i (y : Int)).set y (i : Int)).getD x 0 = y := by rw [set_getD _ _ _ _ (by simp only [List.length_set]; omega), if_neg hxy, set_getD _ _ _ _ (by omega), if_neg (fun e => d1 e.symm), w3]
  have gj : (((W.set i (y : Int)).set y (i : Int)).set x (j : Int)).getD j 0 = i := by
    rw [set_getD _ _ _ _ (by simp only [List.length_set]; omega), if_neg d3, set_getD _ _ _ _ (by simp only [List.length_set]; omega), if_neg d4, set_getD _ _ _ _ (by omega), if_neg (fun e => hij e.symm), w2]
  unfold swapW
  rw [costW_set ps _ (by simp only [List.length_set]; exact hl) j hj, costW_set ps _ (by simp only [List.length_set]; exact hl) x hx, costW_set ps _ (by simp only [List.length_set]; exact hl) y hy, costW_set ps W hl i hi, gy, gx, gj, w1]
  omega
/-- exchanging two partners is not cheaper. -/
theorem swap_best {ps : List SwP} {W : List Int} (hs : SymM ps) (h : Whole ps W) (hc : (pairZ ps).2 = costW ps W) (i j x y : Nat) (hi : i < ps.length) (hj : j < ps.length) (hx : x < ps.length) (hy : y < ps.length) (hij : i ≠ j) (hxy : x ≠ y)
    (hd : i ≠ x ∧ i ≠ y ∧ j ≠ x ∧ j ≠ y) (w1 : W.getD i 0 = j) (w2 : W.getD j 0 = i) (w3 : W.getD x 0 = y) (w4 : W.getD y 0 = x)
    (m1 : metN ps i y = 0) (m3 : metN ps x j = 0) : costZ ps i j + costZ ps x y ≤ costZ ps i y + costZ ps x j := by
  have hw := swap_whole h i j x y hi hj hx hy hij hxy hd w1 w2 w3 w4 m1 (by rw [hs y i hy hi]; exact m1) m3 (by rw [hs j x hj hx]; exact m3)
  have hb := (pair_best ps hs _ hw).2
  rw [hc, swap_cost h.len i j x y hi hj hx hy hij hxy hd w1 w2 w3 w4] at hb
  omega
/-- the found pairing and its cost. -/
theorem pair_cost {ps : List SwP} (hs : SymM ps) {W : List Int} (h : (pairZ ps).1 = some W) : (pairZ ps).2 = costW ps W := by
  rcases pair_good ps hs with e | ⟨W', e, -, hc⟩
  · rw [h] at e; cases e
  · rw [h] at e; cases e; exact hc
theorem says_ok {ps : List SwP} (hok : ChkOk ps) {c : Int} (h : ChkSays ps c) : c = 0 := by
  obtain ⟨h1, h2, h3⟩ := hok
  rcases h with ⟨h, -⟩ | ⟨-, h⟩ | ⟨-, i, hi, h⟩ | ⟨-, h⟩ | ⟨-, i, hi, j, hj, h⟩
  · exact h
  · exfalso
    rcases h with h | ⟨i, hi, h⟩
    · exact h h1
    · have := (h2 i hi).2.1; omega
  · exact absurd (h2 i hi).1 h
  · exfalso
    rcases h with ⟨i, hi, h⟩ | ⟨i, hi, j, hj, h⟩
    · rw [(h2 i hi).2.2] at h; cases h
    · exact h (h3 i hi j hj).1
  · have := (h3 i hi j hj).2; omega
end Go.Proofs.Ytkngpbnildhdpaa

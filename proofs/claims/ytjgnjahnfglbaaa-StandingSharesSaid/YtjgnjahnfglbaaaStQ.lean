/- Places of a sorted table, and what prizes its rows get, as plain data. -/
import Derived.Test.YtjgnjahnfglbaaaStL
namespace Go.Proofs.Ytjgnjahnfglbaaa
open Go.ChangeShapes Go.WideShapes Go.ChangeAt Go.RowKit
set_option linter.unusedVariables false

theorem cnt_prefix {α : Type} (p : α → Bool) : ∀ (l : List α), (∀ i j (hi : i < l.length) (hj : j < l.length), i < j → p l[j] = true → p l[i] = true) → ∀ i (hi : i < l.length), p l[i] = true ↔ i < (l.filter p).length
  | [], _, i, hi => by simp at hi
  | a :: t, h, i, hi => by
    cases ha : p a with
    | true =>
      rw [List.filter_cons_of_pos ha, List.length_cons]
      cases i with
      | zero => simp [ha]
      | succ i =>
        have := cnt_prefix p t (fun i j hi hj hij => h (i + 1) (j + 1) (by simpa using hi) (by simpa using hj) (by omega)) i (by simpa using hi)
        simp only [List.getElem_cons_succ]
        rw [this]; omega
    | false =>
      have hall : ∀ x ∈ t, p x = false := fun x hx => by
        obtain ⟨j, hj, rfl⟩ := List.getElem_of_mem hx
        cases hp : p t[j] with
        | false => rfl
        | true =>
          have := h 0 (j + 1) (by simp) (by simpa using hj) (by omega) (by simpa using hp)
          simp [ha] at this
      rw [List.filter_cons_of_neg (by simp [ha]), List.filter_eq_nil_iff.2 (fun x hx => by simp [hall x hx])]
      simp only [List.length_nil, Nat.not_lt_zero, iff_false]
      cases i with
      | zero => simp [ha]
      | succ i => simp only [List.getElem_cons_succ]; rw [hall _ (List.getElem_mem _)]; simp
theorem filter_add {α : Type} (p q r : α → Bool) (h : ∀ x, r x = (p x || q x)) (hd : ∀ x, ¬ (p x = true ∧ q x = true)) : ∀ l : List α, (l.filter p).length + (l.filter q).length = (l.filter r).length
  | [] => rfl
  | a :: t => by
    have ih := filter_add p q r h hd t
    have h1 := h a
    have h2 := hd a
    cases hp : p a <;> cases hq : q a <;> rw [hp, hq] at h1 h2 <;> simp at h1 h2 <;> simp [hp, hq, h1] <;> omega
section
variable {n m : Nat} {rs : List RowZ}
def plF (rs : List RowZ) (i : Nat) : Nat := cntLt rs (rs.getD i default)
def plE (rs : List RowZ) (i : Nat) : Nat := cntLt rs (rs.getD i default) + cntEq rs (rs.getD i default)
theorem getD_row (rs : List RowZ) (i : Nat) (hi : i < rs.length) : rs.getD i default = rs[i] := by rw [List.getD_eq_getElem?_getD, List.getElem?_eq_getElem hi]; rfl
theorem lt_iff (h : TabOk n m rs) (y : RowZ) (i : Nat) (hi : i < rs.length) : ltR rs[i] y = true ↔ i < cntLt rs y := by
  have := cnt_prefix (fun x => decide (cfR x y < 0)) rs (fun i j hi hj hij hp => by
    have hs := h.sorted i j hi hj hij
    cases hc : ltR rs[i] y with
    | true => exact decide_eq_true ((ltR_true _ _).1 hc)
    | false => have := (ltR_false _ _).1 (ltR_swo.ntrans _ _ _ hs hc); simp at hp; omega) i hi
  rw [ltR_true]
  unfold cntLt
  rw [← this]
  simp
theorem le_iff (h : TabOk n m rs) (y : RowZ) (i : Nat) (hi : i < rs.length) : ltR y rs[i] = false ↔ i < cntLt rs y + cntEq rs y := by
  have := cnt_prefix (fun x => !ltR y x) rs (fun i j hi hj hij hp => by
    have hs := h.sorted i j hi hj hij
    simp only [Bool.not_eq_true'] at hp ⊢
    exact ltR_swo.ntrans _ _ _ hp hs) i hi
  unfold cntLt cntEq
  rw [filter_add (fun x => decide (cfR x y < 0)) (fun x => decide (cfR x y = 0)) (fun x => !ltR y x) (fun x => by
    have h1 := cfR_zero_iff x y
    cases hc : ltR y x with
    | true =>
      have h2 := (ltR_false _ _).1 (ltR_swo.asymmA hc)
      have h3 : ¬ cfR x y = 0 := fun e => by have := (h1.1 e).2; rw [hc] at this; cases this
      simp [h2, h3]
    | false =>
      cases hd : ltR x y with
      | true => simp [(ltR_true _ _).1 hd]
      | false => simp [h1.2 ⟨hd, hc⟩]) (fun x => by simp; omega), ← this]
  simp
theorem pl_bnd (h : TabOk n m rs) (i : Nat) (hi : i < rs.length) : plF rs i ≤ i ∧ i < plE rs i ∧ plE rs i ≤ rs.length := by
  unfold plF plE
  rw [getD_row rs i hi]
  refine ⟨?_, (le_iff h rs[i] i hi).1 (ltR_swo.irrefl _), ?_⟩
  · rcases Nat.lt_or_ge i (cntLt rs rs[i]) with hc | hc
    · have := (lt_iff h rs[i] i hi).2 hc
      rw [ltR_swo.irrefl] at this
      cases this
    · exact hc
  · unfold cntLt cntEq
    rw [filter_add (fun x => decide (cfR x rs[i] < 0)) (fun x => decide (cfR x rs[i] = 0)) (fun x => decide (cfR x rs[i] < 0) || decide (cfR x rs[i] = 0)) (fun x => rfl) (fun x => by simp; omega)]
    exact List.length_filter_le _ _
theorem pl_same (h : TabOk n m rs) (i j : Nat) (hi : i < rs.length) (hj : j < rs.length) (h1 : plF rs i ≤ j) (h2 : j < plE rs i) : plF rs j = plF rs i ∧ plE rs j = plE rs i := by
  unfold plF plE at *
  rw [getD_row rs i hi] at *
  rw [getD_row rs j hj]
  have e1 : ltR rs[j] rs[i] = false := by
    cases hc : ltR rs[j] rs[i] with
    | false => rfl
    | true => have := (lt_iff h rs[i] j hj).1 hc; omega
  have e2 : ltR rs[i] rs[j] = false := (le_iff h rs[i] j hj).2 h2
  have hl : ∀ x : RowZ, ltR x rs[j] = ltR x rs[i] := fun x => by
    cases hc : ltR x rs[i] with
    | true =>
      cases hd : ltR x rs[j] with
      | true => rfl
      | false => have := ltR_swo.ntrans _ _ _ hd e1; rw [hc] at this; cases this
    | false => exact ltR_swo.ntrans _ _ _ hc e2
  have hr : ∀ x : RowZ, ltR rs[j] x = ltR rs[i] x := fun x => by
    cases hc : ltR rs[i] x with
    | true =>
      cases hd : ltR rs[j] x with
      | true => rfl
      | false => have := ltR_swo.ntrans _ _ _ e2 hd; rw [hc] at this; cases this
    | false => exact ltR_swo.ntrans _ _ _ e1 hc
  have c1 : ∀ x : RowZ, decide (cfR x rs[j] < 0) = decide (cfR x rs[i] < 0) := fun x => by have := hl x; unfold ltR ltOf at this; exact this
  have c2 : ∀ x : RowZ, decide (cfR x rs[j] = 0) = decide (cfR x rs[i] = 0) := fun x => by
    have a1 := cfR_zero_iff x rs[j]
    have a2 := cfR_zero_iff x rs[i]
    rw [hl x, hr x] at a1
    by_cases h0 : cfR x rs[i] = 0
    · simp [h0, a1.2 (a2.1 h0)]
    · have : ¬ cfR x rs[j] = 0 := fun e => h0 (a2.2 (a1.1 e))
      simp [h0, this]
  unfold cntLt cntEq
  simp only [c1, c2]
  exact ⟨trivial, trivial⟩
theorem pl_row (h : TabOk n m rs) (i : Nat) (hi : i < rs.length) : rs[i].fr = (plF rs i : Int) + 1 ∧ rs[i].to = (plE rs i : Int) := by
  have := h.fr i hi
  unfold plF plE
  rw [getD_row rs i hi]
  omega
theorem pl_head (h : TabOk n m rs) (i : Nat) (hi : i < rs.length) (hf : plF rs i < rs.length) : rs[plF rs i].fr = (plF rs i : Int) + 1 ∧ rs[plF rs i].to = (plE rs i : Int) := by
  have hb := pl_bnd h i hi
  have hs := pl_same h i (plF rs i) hi hf (Nat.le_refl _) (by omega)
  have := pl_row h (plF rs i) hf
  rw [hs.1, hs.2] at this
  exact this

/-! ### shares -/
def preP (zs : List Int) (k : Nat) : Int := (zs.take k).sum
theorem preP_step (zs : List Int) (k : Nat) (hk : k < zs.length) : preP zs (k + 1) = preP zs k + zs.getD k 0 := by
  unfold preP
  rw [List.take_succ_eq_append_getElem hk, List.sum_append, List.getD_eq_getElem?_getD, List.getElem?_eq_getElem hk]
  simp
theorem preP_end (zs : List Int) (k : Nat) (hk : zs.length ≤ k) : preP zs k = preP zs zs.length := by
  unfold preP
  rw [List.take_of_length_le hk, List.take_length]
theorem preP_mono {zs : List Int} (hz : ∀ z ∈ zs, 0 ≤ z) : ∀ (j k : Nat), j ≤ k → preP zs j ≤ preP zs k
  | j, 0, h => by obtain rfl : j = 0 := by omega
                  exact Int.le_refl _
  | j, k + 1, h => by
    by_cases hj : j = k + 1
    · subst hj; exact Int.le_refl _
    · have ih := preP_mono hz j k (by omega)
      by_cases hk : k < zs.length
      · rw [preP_step zs k hk]
        have : 0 ≤ zs.getD k 0 := by rw [List.getD_eq_getElem?_getD, List.getElem?_eq_getElem hk]; exact hz _ (List.getElem_mem hk)
        omega
      · rw [preP_end zs (k + 1) (by omega), ← preP_end zs k (by omega)]; exact ih
theorem preP_bnd {zs : List Int} (hz : ∀ z ∈ zs, 0 ≤ z ∧ z ≤ 100000000) : ∀ k, 0 ≤ preP zs k ∧ preP zs k ≤ 100000000 * k
  | 0 => by unfold preP; simp
  | k + 1 => by
    have ih := preP_bnd hz k
    by_cases hk : k < zs.length
    · rw [preP_step zs k hk]
      have : 0 ≤ zs.getD k 0 ∧ zs.getD k 0 ≤ 100000000 := by rw [List.getD_eq_getElem?_getD, List.getElem?_eq_getElem hk]; exact hz _ (List.getElem_mem hk)
      push_cast
      omega
    · rw [preP_end zs (k + 1) (by omega), ← preP_end zs k (by omega)]
      push_cast
      omega
def shS (rs : List RowZ) (zs : List Int) (i : Nat) : Int := preP zs (plE rs i) - preP zs (plF rs i)
def shN (rs : List RowZ) (i : Nat) : Int := (plE rs i : Int) - plF rs i
def shZ (rs : List RowZ) (zs : List Int) (i : Nat) : Int := shS rs zs i / shN rs i + if (i : Int) - plF rs i < shS rs zs i % shN rs i then 1 else 0
def shL (rs : List RowZ) (zs : List Int) (k : Nat) : List Int := (List.range k).map (shZ rs zs)
theorem shL_step (rs : List RowZ) (zs : List Int) (k : Nat) : shL rs zs (k + 1) = shL rs zs k ++ [shZ rs zs k] := by unfold shL; rw [List.range_succ, List.map_append]; rfl
theorem shL_len (rs : List RowZ) (zs : List Int) (k : Nat) : (shL rs zs k).length = k := by simp [shL]
theorem shL_get (rs : List RowZ) (zs : List Int) (k i : Nat) (hi : i < k) : (shL rs zs k).getD i 0 = shZ rs zs i := by
  unfold shL
  rw [List.getD_eq_getElem?_getD, List.getElem?_map, List.getElem?_range hi]; rfl
def gotS (rs : List RowZ) (zs : List Int) (k : Nat) : Int := (shL rs zs k).sum
theorem gotS_step (rs : List RowZ) (zs : List Int) (k : Nat) : gotS rs zs (k + 1) = gotS rs zs k + shZ rs zs k := by unfold gotS; rw [shL_step, List.sum_append]; simp
theorem sh_bnd (h : TabOk n m rs) {zs : List Int} (hz : ∀ z ∈ zs, 0 ≤ z) (i : Nat) (hi : i < rs.length) : 1 ≤ shN rs i ∧ 0 ≤ shS rs zs i := by
  have hb := pl_bnd h i hi
  have := preP_mono hz (plF rs i) (plE rs i) (by omega)
  unfold shN shS
  omega
theorem got_at (h : TabOk n m rs) {zs : List Int} (hz : ∀ z ∈ zs, 0 ≤ z) : ∀ i, i < rs.length → gotS rs zs i = preP zs (plF rs i) + ((i : Int) - plF rs i) * (shS rs zs i / shN rs i) + min ((i : Int) - plF rs i) (shS rs zs i % shN rs i)
  | 0, hi => by
    have hb := pl_bnd h 0 hi
    have e : plF rs 0 = 0 := by omega
    have hs := sh_bnd h hz 0 hi
    have := Int.emod_nonneg (shS rs zs 0) (show shN rs 0 ≠ 0 by omega)
    rw [e]
    unfold gotS shL preP
    simp
    omega
  | i + 1, hi => by
    have ih := got_at h hz i (by omega)
    have hb := pl_bnd h i (by omega)
    have hb1 := pl_bnd h (i + 1) hi
    have hs := sh_bnd h hz i (by omega)
    have hr0 := Int.emod_nonneg (shS rs zs i) (show shN rs i ≠ 0 by omega)
    have hr1 := Int.emod_lt_of_pos (shS rs zs i) (show 0 < shN rs i by omega)
    have hdm := Int.emod_add_mul_ediv (shS rs zs i) (shN rs i)
    have hst : gotS rs zs (i + 1) = preP zs (plF rs i) + (((i + 1 : Nat) : Int) - plF rs i) * (shS rs zs i / shN rs i) + min (((i + 1 : Nat) : Int) - plF rs i) (shS rs zs i % shN rs i) := by
      rw [gotS_step, ih]
      unfold shZ
      have e1 : (((i + 1 : Nat) : Int) - plF rs i) * (shS rs zs i / shN rs i) = ((i : Int) - plF rs i) * (shS rs zs i / shN rs i) + shS rs zs i / shN rs i := by
        rw [show (((i + 1 : Nat) : Int) - plF rs i) = ((i : Int) - plF rs i) + 1 by push_cast; omega, Int.add_mul, Int.one_mul]
      rw [e1]
      push_cast
      split <;> omega
    by_cases hg : i + 1 < plE rs i
    · obtain ⟨s1, s2⟩ := pl_same h i (i + 1) (by omega) hi (by omega) hg
      have e2 : shS rs zs (i + 1) = shS rs zs i := by unfold shS; rw [s1, s2]
      have e3 : shN rs (i + 1) = shN rs i := by unfold shN; rw [s1, s2]
      rw [hst, s1, e2, e3]
    · have he : plE rs i = i + 1 := by omega
      have hf : plF rs (i + 1) = i + 1 := by
        by_cases hlt : plF rs (i + 1) ≤ i
        · have := pl_same h (i + 1) i hi (by omega) hlt (by omega)
          omega
        · omega
      have hs1 := sh_bnd h hz (i + 1) hi
      have hr2 := Int.emod_nonneg (shS rs zs (i + 1)) (show shN rs (i + 1) ≠ 0 by omega)
      have hN : shN rs i = ((i + 1 : Nat) : Int) - plF rs i := by unfold shN; rw [he]
      have hS : shS rs zs i = preP zs (i + 1) - preP zs (plF rs i) := by unfold shS; rw [he]
      rw [hst, ← hN, hf]
      have e4 : ((i + 1 : Nat) : Int) - ((i + 1 : Nat) : Int) = 0 := by omega
      rw [e4, Int.zero_mul]
      omega
theorem got_end (h : TabOk n m rs) {zs : List Int} (hz : ∀ z ∈ zs, 0 ≤ z) (hn : 1 ≤ rs.length) : gotS rs zs rs.length = preP zs rs.length := by
  obtain ⟨i, hi⟩ : ∃ i, rs.length = i + 1 := ⟨rs.length - 1, by omega⟩
  have hil : i < rs.length := by omega
  have ih := got_at h hz i hil
  have hb := pl_bnd h i hil
  have he : plE rs i = i + 1 := by omega
  have hs := sh_bnd h hz i hil
  have hr0 := Int.emod_nonneg (shS rs zs i) (show shN rs i ≠ 0 by omega)
  have hr1 := Int.emod_lt_of_pos (shS rs zs i) (show 0 < shN rs i by omega)
  have hdm := Int.emod_add_mul_ediv (shS rs zs i) (shN rs i)
  have hN : shN rs i = ((i + 1 : Nat) : Int) - plF rs i := by unfold shN; rw [he]
  have hS : shS rs zs i = preP zs (i + 1) - preP zs (plF rs i) := by unfold shS; rw [he]
  rw [hi, gotS_step, ih]
  unfold shZ
  have e1 : shN rs i * (shS rs zs i / shN rs i) = ((i : Int) - plF rs i) * (shS rs zs i / shN rs i) + shS rs zs i / shN rs i := by
    rw [show shN rs i = ((i : Int) - plF rs i) + 1 by omega, Int.add_mul, Int.one_mul, ← show shN rs i = ((i : Int) - plF rs i) + 1 by omega]
  split <;> omega
theorem sh_next (h : TabOk n m rs) (zs : List Int) (p : Nat) (hp : p + 1 < rs.length) (he : rs[p + 1].fr = rs[p].fr) : shZ rs zs (p + 1) ≤ shZ rs zs p ∧ shZ rs zs p - 1 ≤ shZ rs zs (p + 1) := by
  have a1 := pl_row h p (by omega)
  have a2 := pl_row h (p + 1) hp
  have hb := pl_bnd h p (by omega)
  have hb1 := pl_bnd h (p + 1) hp
  have s := pl_same h (p + 1) p hp (by omega) (by omega) (by omega)
  have e2 : shS rs zs (p + 1) = shS rs zs p := by unfold shS; rw [s.1, s.2]
  have e3 : shN rs (p + 1) = shN rs p := by unfold shN; rw [s.1, s.2]
  unfold shZ
  rw [e2, e3, ← s.1]
  push_cast
  split <;> split <;> omega
end
end Go.Proofs.Ytjgnjahnfglbaaa

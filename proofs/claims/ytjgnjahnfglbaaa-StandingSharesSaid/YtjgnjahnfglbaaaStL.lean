/- standing.Table. -/
import Derived.Test.YtjgnjahnfglbaaaStK
import Derived.Test.YtjgnjahnfglbaaaStC
import Derived.Test.YtjgnjahnfglbaaaApp0
namespace Go.Proofs.Ytjgnjahnfglbaaa
open Go.ChangeShapes Go.WideShapes Go.ChangeAt Go.RowKit
set_option linter.unusedVariables false

def SortRowsSaid : Prop := ∀ (base g cap : Nat) (rs : List RowZ) (w : World), 1 ≤ rs.length → rs.length ≤ 32 → w.ownsRow base 30 8 (.slice (some ⟨g, 0, none⟩) rs.length cap) rs.length (flatR rs) →
  Calls Try.prog 11 #[.slice (some ⟨g, 0, none⟩) rs.length cap, .func (.func 12) #[] #[]] w fun e w' => e = .returned (.tuple #[]) ∧
    ∃ ts : List RowZ, ts.length = rs.length ∧ ts.Perm rs ∧ (∀ i j (hi : i < ts.length) (hj : j < ts.length), i < j → ltR ts[j] ts[i] = false) ∧ w'.ownsRow base 30 8 (.slice (some ⟨g, 0, none⟩) rs.length cap) rs.length (flatR ts) ∧ w.grownBy w' (some g)

/-! ### what is counted -/
def cntLt (l : List RowZ) (y : RowZ) : Nat := (l.filter fun x => decide (cfR x y < 0)).length
def cntEq (l : List RowZ) (y : RowZ) : Nat := (l.filter fun x => decide (cfR x y = 0)).length
theorem cntLt_step (l : List RowZ) (y : RowZ) (q : Nat) (hq : q < l.length) : cntLt (l.take (q + 1)) y = cntLt (l.take q) y + if cfR l[q] y < 0 then 1 else 0 := by
  unfold cntLt
  rw [List.take_succ_eq_append_getElem hq, List.filter_append, List.length_append]
  congr 1
  by_cases h : cfR l[q] y < 0 <;> simp [h]
theorem cntEq_step (l : List RowZ) (y : RowZ) (q : Nat) (hq : q < l.length) : cntEq (l.take (q + 1)) y = cntEq (l.take q) y + if cfR l[q] y = 0 then 1 else 0 := by
  unfold cntEq
  rw [List.take_succ_eq_append_getElem hq, List.filter_append, List.length_append]
  congr 1
  by_cases h : cfR l[q] y = 0 <;> simp [h]
theorem cnt_le (l : List RowZ) (y : RowZ) (q : Nat) : cntLt (l.take q) y ≤ q ∧ cntEq (l.take q) y ≤ q := by
  unfold cntLt cntEq
  exact ⟨Nat.le_trans (List.length_filter_le _ _) (by simp; omega), Nat.le_trans (List.length_filter_le _ _) (by simp; omega)⟩
/-- row y with the places that it has among l. -/
def finR (l : List RowZ) (y : RowZ) : RowZ := { y with fr := 1 + cntLt l y, to := cntLt l y + cntEq l y }
theorem cfR_fin (l l' : List RowZ) (x y : RowZ) : cfR (finR l x) (finR l' y) = cfR x y := rfl
/-- of the rows S the first k have their places; row k those among the first q. -/
structure Mid (S T : List RowZ) (k : Nat) (r : RowZ) : Prop where
  len : T.length = S.length
  done : ∀ j (h : j < T.length) (h' : j < S.length), j < k → T[j] = finR S S[j]
  here : ∀ (h : k < T.length), T[k] = r
  rest : ∀ j (h : j < T.length) (h' : j < S.length), k < j → T[j] = S[j]
theorem Mid.cf {S T : List RowZ} {k q : Nat} {r : RowZ} (h : Mid S T k r) (hk : k < S.length) (hr : ∃ a b, r = { S[k] with fr := a, to := b }) (hq : q < T.length) (hqS : q < S.length) (y : RowZ) : cfR T[q] y = cfR S[q] y := by
  rcases Nat.lt_trichotomy q k with h1 | h1 | h1
  · rw [h.done q hq hqS h1]; rfl
  · subst h1
    obtain ⟨a, b, hr⟩ := hr
    rw [h.here hq, hr]; rfl
  · rw [h.rest q hq hqS h1]
theorem Mid.set {S T : List RowZ} {k : Nat} {r r' : RowZ} (h : Mid S T k r) : Mid S (T.set k r') k r' where
  len := by rw [List.length_set]; exact h.len
  done j h1 h2 hj := by rw [List.getElem_set_ne (by omega)]; exact h.done j (by simpa using h1) h2 hj
  here h1 := by rw [List.getElem_set_self]
  rest j h1 h2 hj := by rw [List.getElem_set_ne (by omega)]; exact h.rest j (by simpa using h1) h2 hj
theorem flatR_set (T : List RowZ) (k j : Nat) (hk : k < T.length) (hj : j < 8) (v : Value) (r : RowZ) (hr : (encR T[k]).set j v = encR r) : (flatR T).set (k * 8 + j) v = flatR (T.set k r) := by
  apply List.ext_getElem?
  intro t
  by_cases ht : t < T.length * 8
  · obtain ⟨q, s, hs, rfl⟩ : ∃ q s, s < 8 ∧ t = q * 8 + s := ⟨t / 8, t % 8, Nat.mod_lt _ (by decide), by omega⟩
    have hq : q < T.length := by omega
    rw [flatR_get (T.set k r) q s (by simpa using hq) hs, List.getElem?_set]
    by_cases hqk : k = q
    · subst hqk
      rw [List.getElem_set_self, ← hr, List.getElem?_set]
      by_cases hjs : j = s
      · subst hjs; simp [flatR_len]; rw [if_pos (by omega), if_pos (by show j < 8; omega)]
      · rw [if_neg (by omega), if_neg hjs, flatR_get T k s hk hs]
    · rw [List.getElem_set_ne hqk, if_neg (by omega), flatR_get T q s hq hs]
  · rw [List.getElem?_eq_none (by simp [flatR_len]; omega), List.getElem?_eq_none (by simp [flatR_len]; omega)]
structure TabOk (n k : Nat) (rs : List RowZ) : Prop where
  len : rs.length = n
  sum : (rs.map (·.pts)).sum = 2 * k
  sorted : ∀ i j (hi : i < rs.length) (hj : j < rs.length), i < j → ltR rs[j] rs[i] = false
  fr : ∀ i (hi : i < rs.length), rs[i].fr = 1 + cntLt rs rs[i] ∧ rs[i].to = cntLt rs rs[i] + cntEq rs rs[i]
  pb : ∀ i (hi : i < rs.length), 0 ≤ rs[i].pts ∧ rs[i].pts ≤ 2 * k
theorem cnt_map (S : List RowZ) (y z : RowZ) : cntLt (S.map (finR S)) (finR S z) = cntLt S z ∧ cntEq (S.map (finR S)) (finR S z) = cntEq S z := by
  unfold cntLt cntEq
  rw [List.filter_map, List.filter_map, List.length_map, List.length_map]
  exact ⟨rfl, rfl⟩
theorem sum_perm {l l' : List Int} (h : l.Perm l') : l.sum = l'.sum := by
  induction h with
  | nil => rfl
  | cons x _ ih => simp [ih]
  | swap x y l => simp only [List.sum_cons]; omega
  | trans _ _ h1 h2 => exact h1.trans h2
theorem cnt_mono {l : List RowZ} {y z : RowZ} (h : ∀ x ∈ l, cfR x y < 0 → cfR x z < 0) : cntLt l y ≤ cntLt l z := by
  unfold cntLt
  rw [← List.countP_eq_length_filter, ← List.countP_eq_length_filter]
  exact List.countP_mono_left (fun x hx hp => by simpa using h x hx (by simpa using hp))
theorem TabOk.mono {n k : Nat} {rs : List RowZ} (h : TabOk n k rs) (i j : Nat) (hi : i < rs.length) (hj : j < rs.length) (hij : i < j) : rs[j].pts ≤ rs[i].pts ∧ rs[i].fr ≤ rs[j].fr := by
  have hs := h.sorted i j hi hj hij
  refine ⟨cfR_pts _ _ hs, ?_⟩
  rw [(h.fr i hi).1, (h.fr j hj).1]
  have := cnt_mono (l := rs) (y := rs[i]) (z := rs[j]) (fun x _ hx => by
    cases hc : ltR x rs[j] with
    | true => exact (ltR_true _ _).1 hc
    | false =>
      have := (ltR_false _ _).1 (ltR_swo.ntrans _ _ _ hc hs)
      omega)
  omega
theorem tab_ok {n k : Nat} {z : List Int} {rs S T : List RowZ} (hz : PtOk n k z) (hrs : rs.map (·.pts) = z) (hp : S.Perm rs) (hs : ∀ i j (hi : i < S.length) (hj : j < S.length), i < j → ltR S[j] S[i] = false)
    (hl : T.length = S.length) (hT : ∀ j (h : j < T.length) (h' : j < S.length), T[j] = finR S S[j]) : TabOk n k T := by
  have hTe : T = S.map (finR S) := by
    apply List.ext_getElem (by simpa using hl)
    intro j h1 h2
    rw [hT j h1 (by simpa using h2), List.getElem_map]
  have hrl : rs.length = n := by rw [← hz.len, ← hrs, List.length_map]
  refine ⟨by rw [hl, hp.length_eq, hrl], ?_, fun i j hi hj hij => ?_, fun i hi => ?_, fun i hi => ?_⟩
  · rw [hTe, List.map_map]
    have : ((fun r : RowZ => r.pts) ∘ finR S) = fun r => r.pts := rfl
    rw [this, sum_perm (hp.map _), hrs, hz.sum]
  · rw [hT j hj (by omega), hT i hi (by omega)]
    exact hs i j (by omega) (by omega) hij
  · obtain ⟨e1, e2⟩ := cnt_map S S[i] S[i]
    rw [← hTe] at e1 e2
    rw [hT i hi (by omega), e1, e2]
    exact ⟨rfl, rfl⟩
  · rw [hT i hi (by omega)]
    have hm : S[i].pts ∈ z := by rw [← hrs]; exact List.mem_map_of_mem (hp.mem_iff.1 (List.getElem_mem (by omega)))
    obtain ⟨q, hq, e⟩ := List.getElem_of_mem hm
    have := hz.bnd q
    rw [List.getD_eq_getElem?_getD, List.getElem?_eq_getElem hq, Option.getD_some, e] at this
    exact this
theorem fin_lt (S : List RowZ) (y : RowZ) (q : Nat) (hq : q < S.length) (h : cfR S[q] y < 0) : finR (S.take (q + 1)) y = { finR (S.take q) y with fr := (finR (S.take q) y).fr + 1, to := (finR (S.take q) y).to + 1 } := by
  unfold finR
  rw [cntLt_step S y q hq, cntEq_step S y q hq, if_pos h, if_neg (by omega)]
  simp only [RowZ.mk.injEq, true_and]
  omega
theorem fin_eq (S : List RowZ) (y : RowZ) (q : Nat) (hq : q < S.length) (h : cfR S[q] y = 0) : finR (S.take (q + 1)) y = { finR (S.take q) y with to := (finR (S.take q) y).to + 1 } := by
  unfold finR
  rw [cntLt_step S y q hq, cntEq_step S y q hq, if_neg (by omega), if_pos h]
  simp only [RowZ.mk.injEq, true_and]
  omega
theorem fin_gt (S : List RowZ) (y : RowZ) (q : Nat) (hq : q < S.length) (h : 0 < cfR S[q] y) : finR (S.take (q + 1)) y = finR (S.take q) y := by
  unfold finR
  rw [cntLt_step S y q hq, cntEq_step S y q hq, if_neg (by omega), if_neg (by omega)]
  rfl
theorem fin_bnd (S : List RowZ) (y : RowZ) (q : Nat) : 1 ≤ (finR (S.take q) y).fr ∧ (finR (S.take q) y).fr ≤ 1 + q ∧ 0 ≤ (finR (S.take q) y).to ∧ (finR (S.take q) y).to ≤ 2 * q := by
  have := cnt_le S y q
  unfold finR
  simp only
  omega
/-- the rows when k of them have their places. -/
structure Out (S T : List RowZ) (k : Nat) : Prop where
  len : T.length = S.length
  done : ∀ j (h : j < T.length) (h' : j < S.length), j < k → T[j] = finR S S[j]
  rest : ∀ j (h : j < T.length) (h' : j < S.length), k ≤ j → T[j] = S[j]
theorem Out.start (S : List RowZ) : Out S S 0 := ⟨rfl, fun j _ _ h => by omega, fun _ _ _ _ => rfl⟩
theorem Out.mid {S T : List RowZ} {k : Nat} (h : Out S T k) (hk : k < S.length) (h0 : S[k].to = 0) : Mid S (T.set k { S[k] with fr := 1 }) k (finR (S.take 0) S[k]) where
  len := by rw [List.length_set]; exact h.len
  done j h1 h2 hj := by rw [List.getElem_set_ne (by omega)]; exact h.done j (by simpa using h1) h2 hj
  here h1 := by
    rw [List.getElem_set_self]
    unfold finR
    simp only [List.take_zero, cntLt, cntEq, List.filter_nil, List.length_nil, RowZ.mk.injEq, true_and]
    rw [h0]
    exact ⟨rfl, rfl⟩
  rest j h1 h2 hj := by rw [List.getElem_set_ne (by omega)]; exact h.rest j (by simpa using h1) h2 (by omega)
theorem Mid.out {S T : List RowZ} {k : Nat} (hk : k < S.length) (h : Mid S T k (finR (S.take S.length) S[k])) : Out S T (k + 1) where
  len := h.len
  done j h1 h2 hj := by
    by_cases e : j = k
    · subst e; rw [h.here h1, List.take_length]
    · exact h.done j h1 h2 (by omega)
  rest j h1 h2 hj := h.rest j h1 h2 (by omega)
theorem row_cells {w : World} {base G cap n : Nat} {T : List RowZ} (h : w.ownsRow base 30 8 (.slice (some ⟨G, 0, none⟩) n cap) n (flatR T)) (hl : T.length = n) (q : Nat) (hq : q < T.length) {x : RowZ} (hx : T[q] = x) (j : Nat) (hj : j < 8) {v : Value} (hv : (encR x)[j]? = some v) : w.cell? ⟨G, q * 8 + j, none⟩ = some v := by
  rw [h.cellAt (q * 8 + j) (by omega), flatR_get T q j hq hj, hx, hv]
end Go.Proofs.Ytjgnjahnfglbaaa

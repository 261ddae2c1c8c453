/- What a round adds. -/
import Derived.Test.YtkngpbnildhdpaaSwCostL
import Derived.Test.YtkngpbnildhdpaaSwK
namespace Go.Proofs.Ytkngpbnildhdpaa
open Go.ChangeShapes Go.WideShapes Go.ChangeAt Go.RowKit
set_option linter.unusedVariables false

/-- whom z meets. -/
def parts : List (Int × Int) → Int → List Int
  | [], _ => []
  | p :: t, z => ((if p.1 = z then [p.2] else []) ++ (if p.2 = z then [p.1] else [])) ++ parts t z
theorem parts_append (a b : List (Int × Int)) (z : Int) : parts (a ++ b) z = parts a z ++ parts b z := by
  induction a with
  | nil => rfl
  | cons p t ih => rw [List.cons_append, parts, parts, ih]; simp only [List.append_assoc]
theorem parts_len (z : Int) : ∀ l : List (Int × Int), (parts l z).length = occ l z
  | [] => rfl
  | p :: t => by
    rw [parts, occ, List.length_append, List.length_append, parts_len z t]
    split <;> split <;> rfl
theorem parts_one (i j z : Nat) (h : i ≠ j) : parts [((i : Int), (j : Int))] (z : Int) = if z = i then [(j : Int)] else if z = j then [(i : Int)] else [] := by
  rw [parts, parts, List.append_nil]
  by_cases e1 : z = i
  · subst e1; rw [if_pos rfl, if_pos rfl, if_neg (by omega)]; rfl
  · rw [if_neg (by show ¬ (i : Int) = z; omega), if_neg e1]
    by_cases e2 : z = j
    · subst e2; rw [if_pos rfl, if_pos rfl]; rfl
    · rw [if_neg (by show ¬ (j : Int) = z; omega), if_neg e2]; rfl
theorem parts_mem {ps : List SwP} {W : List Int} (z : Nat) (y : Int) : ∀ l : List (Int × Int), (∀ p ∈ l, GameOK ps W p) → y ∈ parts l (z : Int) → W.getD z 0 = y
  | [], _, h => by cases h
  | p :: t, hg, h => by
    rw [parts] at h
    rcases List.mem_append.1 h with h | h
    · obtain ⟨i, j, rfl, -, -, -, w1, w2, -⟩ := hg p (List.mem_cons_self ..)
      rcases List.mem_append.1 h with h' | h'
      · by_cases e : (i : Int) = (z : Int)
        · rw [if_pos e] at h'
          have h2 := List.mem_singleton.1 h'
          obtain rfl : i = z := by omega
          rw [h2]; exact w1
        · rw [if_neg e] at h'; cases h'
      · by_cases e : (j : Int) = (z : Int)
        · rw [if_pos e] at h'
          have h2 := List.mem_singleton.1 h'
          obtain rfl : j = z := by omega
          rw [h2]; exact w2
        · rw [if_neg e] at h'; cases h'
    · exact parts_mem z y t (fun q hq => hg q (List.mem_cons_of_mem _ hq)) h
theorem parts_all {ps : List SwP} {W : List Int} (h : Whole ps W) (z : Nat) (hz : z < ps.length) : parts (outZ ps W ps.length) (z : Int) = if W.getD z 0 = ps.length then [] else [W.getD z 0] := by
  have hl := parts_len (z : Int) (outZ ps W ps.length)
  rw [occ_all h z hz] at hl
  have hm := fun y => parts_mem (ps := ps) (W := W) z y _ (games_ok h _ (Nat.le_refl _))
  by_cases e : W.getD z 0 = ps.length
  · rw [if_pos e] at hl ⊢
    exact List.length_eq_zero_iff.1 hl
  · rw [if_neg e] at hl ⊢
    obtain ⟨y, hy⟩ := List.length_eq_one_iff.1 hl
    rw [hy, hm y (by rw [hy]; exact List.mem_singleton.2 rfl)]

theorem sumTo_add (f g : Nat → Int) : ∀ n, sumTo n (fun z => f z + g z) = sumTo n f + sumTo n g
  | 0 => rfl
  | n + 1 => by unfold sumTo; rw [sumTo_add f g n]; show _ + _ + (f n + g n) = _; omega
theorem sumTo_const (c : Int) : ∀ n : Nat, sumTo n (fun _ => c) = n * c
  | 0 => by rw [sumTo]; simp
  | n + 1 => by
    unfold sumTo
    rw [sumTo_const c n, Int.natCast_add, Int.add_mul]
    simp
theorem sumTo_ind (n i : Nat) (h : i < n) : sumTo n (fun z => if (i : Int) = (z : Int) then 1 else 0) = 1 := by
  rw [sumTo_set (fun _ => 0) (fun z => if (i : Int) = (z : Int) then 1 else 0) i n (fun k _ he => if_neg (by omega)) h, sumTo_const, if_pos rfl]
  omega
theorem sum_occ {ps : List SwP} {W : List Int} : ∀ l : List (Int × Int), (∀ p ∈ l, GameOK ps W p) → sumTo ps.length (fun z => ((occ l (z : Int) : Nat) : Int)) = 2 * l.length
  | [], _ => by
    show sumTo ps.length (fun z => 0) = 0
    rw [sumTo_const]; omega
  | p :: t, h => by
    obtain ⟨i, j, rfl, hi, hj, -⟩ := h p (List.mem_cons_self ..)
    have ih := sum_occ t (fun q hq => h q (List.mem_cons_of_mem _ hq))
    have e : ∀ z : Nat, ((occ (((i : Int), (j : Int)) :: t) (z : Int) : Nat) : Int) = ((if (i : Int) = (z : Int) then 1 else 0) + (if (j : Int) = (z : Int) then 1 else 0)) + ((occ t (z : Int) : Nat) : Int) := fun z => by
      rw [occ]
      simp only [Int.natCast_add]
      congr 2 <;> split <;> rfl
    rw [sumTo_congr (fun z => ((if (i : Int) = (z : Int) then (1 : Int) else 0) + (if (j : Int) = (z : Int) then 1 else 0)) + ((occ t (z : Int) : Nat) : Int)) _ ps.length (fun k _ => e k), sumTo_add, sumTo_add, ih, sumTo_ind _ _ hi, sumTo_ind _ _ hj, List.length_cons]
    omega
/-- so many games there are. -/
theorem games_count {ps : List SwP} {W : List Int} (h : Whole ps W) : 2 * ((outZ ps W ps.length).length : Int) + (if 0 ≤ offZ ps.length W ps.length then 1 else 0) = ps.length := by
  have hs := sum_occ _ (games_ok h ps.length (Nat.le_refl _))
  rcases off_ok h with ⟨e, -, hno⟩ | ⟨i, hi, e, -, -, hw, hu⟩
  · rw [e, if_neg (by omega)]
    rw [sumTo_congr (fun _ => 1) _ ps.length (fun k hk => by rw [occ_all h k hk, if_neg (hno k hk)]; rfl), sumTo_const] at hs
    omega
  · rw [e, if_pos (by omega)]
    rw [sumTo_set (fun _ => 1) _ i ps.length (fun k hk he => by rw [occ_all h k hk, if_neg (fun q => he (hu k hk q))]; rfl) hi, sumTo_const, occ_all h i hi, if_pos hw] at hs
    omega

/-- after the games l. -/
structure Mid (ps : List SwP) (l : List (Int × Int)) (f : Nat → SwP) : Prop where
  opp : ∀ i, i < ps.length → (f i).opp = (plAt ps i).opp ++ parts l (i : Int)
  bye : ∀ i, i < ps.length → (f i).bye = (plAt ps i).bye
  sum : sumTo ps.length (fun i => (f i).score) = sumTo ps.length (fun i => (plAt ps i).score) + 2 * l.length
  sc : ∀ i, i < ps.length → 0 ≤ (f i).score ∧ (f i).score ≤ 40 + 2 * l.length
  col : ∀ i, i < ps.length → -20 - (l.length : Int) ≤ (f i).colour ∧ (f i).colour ≤ 20 + l.length
theorem Mid.start (ps : List SwP) (hs : ∀ i, i < ps.length → Small (plAt ps i)) : Mid ps [] (plAt ps) :=
  ⟨fun i _ => by rw [parts, List.append_nil], fun _ _ => rfl, by simp, fun i hi => by obtain ⟨⟨a, b⟩, -⟩ := hs i hi; simp; omega, fun i hi => by obtain ⟨-, a, b⟩ := hs i hi; simp; omega⟩
/-- one game is played. -/
def plays (f : Nat → SwP) (i j : Nat) (r : Int) : Nat → SwP :=
  setF (setF f i ⟨(f i).score + r, (f i).opp ++ [(j : Int)], (f i).colour + 1, (f i).bye⟩) j ⟨(f j).score + (2 - r), (f j).opp ++ [(i : Int)], (f j).colour - 1, (f j).bye⟩
theorem plays_at (f : Nat → SwP) (i j : Nat) (r : Int) (z : Nat) : plays f i j r z = if z = j then ⟨(f j).score + (2 - r), (f j).opp ++ [(i : Int)], (f j).colour - 1, (f j).bye⟩ else if z = i then ⟨(f i).score + r, (f i).opp ++ [(j : Int)], (f i).colour + 1, (f i).bye⟩ else f z := rfl
theorem Mid.step {ps : List SwP} {l : List (Int × Int)} {f : Nat → SwP} (h : Mid ps l f) (i j : Nat) (hi : i < ps.length) (hj : j < ps.length) (hij : i ≠ j) (r : Int) (h0 : 0 ≤ r) (h2 : r ≤ 2) :
    Mid ps (l ++ [((i : Int), (j : Int))]) (plays f i j r) := by
  have hlen : ((l ++ [((i : Int), (j : Int))]).length : Int) = l.length + 1 := by rw [List.length_append]; rfl
  refine ⟨fun z hz => ?_, fun z hz => ?_, ?_, fun z hz => ?_, fun z hz => ?_⟩
  · rw [parts_append, parts_one i j z hij, plays_at]
    by_cases e1 : z = j
    · subst e1
      rw [if_pos rfl, if_neg (fun e => hij e.symm), if_pos rfl]
      show (f z).opp ++ _ = _
      rw [h.opp z hz, List.append_assoc]
    · rw [if_neg e1]
      by_cases e2 : z = i
      · subst e2
        rw [if_pos rfl, if_pos rfl]
        show (f z).opp ++ _ = _
        rw [h.opp z hz, List.append_assoc]
      · rw [if_neg e2, if_neg e2, if_neg e1, List.append_nil, h.opp z hz]
  · rw [plays_at]
    by_cases e1 : z = j
    · subst e1; rw [if_pos rfl]; exact h.bye z hz
    · rw [if_neg e1]
      by_cases e2 : z = i
      · subst e2; rw [if_pos rfl]; exact h.bye z hz
      · rw [if_neg e2]; exact h.bye z hz
  · have e1 := sumTo_set (fun k => (f k).score) (fun k => (setF f i ⟨(f i).score + r, (f i).opp ++ [(j : Int)], (f i).colour + 1, (f i).bye⟩ k).score) i ps.length (fun k _ hk => by show (setF f i _ k).score = _; rw [setF_other _ _ hk]) hi
    have e2 := sumTo_set (fun k => (setF f i ⟨(f i).score + r, (f i).opp ++ [(j : Int)], (f i).colour + 1, (f i).bye⟩ k).score) (fun k => (plays f i j r k).score) j ps.length (fun k _ hk => by show (plays f i j r k).score = _; unfold plays; rw [setF_other _ _ hk]) hj
    rw [e2, e1, h.sum, hlen]
    unfold plays
    simp only [setF_same, setF_other _ _ (fun e : j = i => hij e.symm)]
    omega
  · have a1 := h.sc i hi
    have a2 := h.sc j hj
    have a3 := h.sc z hz
    rw [plays_at, hlen]
    by_cases e1 : z = j
    · rw [if_pos e1]; simp only; omega
    · rw [if_neg e1]
      by_cases e2 : z = i
      · rw [if_pos e2]; simp only; omega
      · rw [if_neg e2]; omega
  · have a1 := h.col i hi
    have a2 := h.col j hj
    have a3 := h.col z hz
    rw [plays_at, hlen]
    by_cases e1 : z = j
    · rw [if_pos e1]; simp only; omega
    · rw [if_neg e1]
      by_cases e2 : z = i
      · rw [if_pos e2]; simp only; omega
      · rw [if_neg e2]; omega
/-- the bye. -/
def rests (f : Nat → SwP) (i : Nat) : Nat → SwP := setF f i ⟨(f i).score + 2, (f i).opp, (f i).colour, true⟩

/-- all is added. -/
structure Fin1 (ps : List SwP) (W : List Int) (off : Int) (f : Nat → SwP) : Prop where
  opp : ∀ i, i < ps.length → (f i).opp = (plAt ps i).opp ++ (if W.getD i 0 = ps.length then [] else [W.getD i 0])
  bye : ∀ i, i < ps.length → (f i).bye = ((plAt ps i).bye || decide ((i : Int) = off))
  sum : sumTo ps.length (fun i => (f i).score) = sumTo ps.length (fun i => (plAt ps i).score) + 2 * (((ps.length : Int) + 1) / 2)
  sc : ∀ i, i < ps.length → 0 ≤ (f i).score ∧ (f i).score ≤ 100
theorem fin_even {ps : List SwP} {W : List Int} (h : Whole ps W) (h8 : ps.length ≤ 8) {f : Nat → SwP} (hm : Mid ps (outZ ps W ps.length) f) (ho : offZ ps.length W ps.length = -1) : Fin1 ps W (-1) f := by
  have hc := games_count h
  rw [ho, if_neg (by omega)] at hc
  refine ⟨fun i hi => by rw [hm.opp i hi, parts_all h i hi], fun i hi => by rw [hm.bye i hi, decide_eq_false (by omega), Bool.or_false], by rw [hm.sum]; omega, fun i hi => by have := hm.sc i hi; omega⟩
theorem fin_odd {ps : List SwP} {W : List Int} (h : Whole ps W) (h8 : ps.length ≤ 8) {f : Nat → SwP} (hm : Mid ps (outZ ps W ps.length) f) (i : Nat) (hi : i < ps.length) (ho : offZ ps.length W ps.length = i) : Fin1 ps W (i : Int) (rests f i) := by
  have hc := games_count h
  rw [ho, if_pos (by omega)] at hc
  refine ⟨fun k hk => ?_, fun k hk => ?_, ?_, fun k hk => ?_⟩
  · rw [← parts_all h k hk, ← hm.opp k hk]
    by_cases e : k = i
    · subst e; unfold rests; rw [setF_same]
    · unfold rests; rw [setF_other _ _ e]
  · by_cases e : k = i
    · subst e; unfold rests; rw [setF_same, decide_eq_true rfl, Bool.or_true]
    · unfold rests; rw [setF_other _ _ e, hm.bye k hk, decide_eq_false (by omega), Bool.or_false]
  · rw [sumTo_set (fun k => (f k).score) (fun k => (rests f i k).score) i ps.length (fun k _ he => by show (rests f i k).score = _; unfold rests; rw [setF_other _ _ he]) hi, hm.sum]
    unfold rests
    simp only [setF_same]
    omega
  · have a1 := hm.sc i hi
    have a2 := hm.sc k hk
    unfold rests
    by_cases e : k = i
    · subst e; rw [setF_same]; simp only; omega
    · rw [setF_other _ _ e]; omega
/-- what the new players are. -/
def newL (n : Nat) (f : Nat → SwP) : List SwP := (List.range n).map f
theorem newL_len (n : Nat) (f : Nat → SwP) : (newL n f).length = n := by simp [newL]
theorem newL_at (n : Nat) (f : Nat → SwP) (i : Nat) (h : i < n) : plAt (newL n f) i = f i := by
  unfold plAt newL
  rw [List.getD_eq_getElem?_getD, List.getElem?_map, List.getElem?_range h]; rfl
theorem met_new {ps : List SwP} {W : List Int} (h : Whole ps W) {off : Int} {f : Nat → SwP} (hf : Fin1 ps W off f) (i j : Nat) (hi : i < ps.length) (hj : j < ps.length) :
    metN (newL ps.length f) i (j : Int) = metN ps i (j : Int) + (if W.getD i 0 = (j : Int) then 1 else 0) := by
  unfold metN
  rw [newL_at _ _ _ hi, hf.opp i hi, List.filter_append, List.length_append]
  congr 1
  by_cases e : W.getD i 0 = ps.length
  · rw [if_pos e, if_neg (by omega)]; rfl
  · rw [if_neg e]
    by_cases e2 : W.getD i 0 = (j : Int)
    · rw [if_pos e2, e2]; simp
    · rw [if_neg e2, List.filter_cons_of_neg (by simpa using e2)]; rfl
theorem says_new {ps : List SwP} {W : List Int} (hok : ChkOk ps) (h : Whole ps W) {off : Int} {f : Nat → SwP} (hf : Fin1 ps W off f) {c : Int} (hc : ChkSays (newL ps.length f) c) : c = 0 ∨ c = 2 ∨ c = 4 := by
  obtain ⟨h1, h2, h3⟩ := hok
  unfold ChkSays at hc
  rw [newL_len] at hc
  have hsym : ∀ i j : Nat, i < ps.length → j < ps.length → (W.getD i 0 = (j : Int) ↔ W.getD j 0 = (i : Int)) := fun i j hi hj => ⟨h.sym hi hj, h.sym hj hi⟩
  rcases hc with ⟨hc, -⟩ | ⟨hc, -⟩ | ⟨hc, -⟩ | ⟨-, hc⟩ | ⟨-, i, hi, j, hj, hc⟩
  · exact .inl hc
  · exact .inr (.inl hc)
  · exact .inr (.inr hc)
  · exfalso
    rcases hc with ⟨i, hi, hc⟩ | ⟨i, hi, j, hj, hc⟩
    · rw [newL_at _ _ _ hi, hf.opp i hi, List.any_append, (h2 i hi).2.2, Bool.false_or] at hc
      rcases h.ent i hi with ⟨q, -⟩ | ⟨j, j1, j2, j3, -⟩
      · rw [if_pos q] at hc; cases hc
      · rw [if_neg (by omega), j2] at hc
        simp [kBad] at hc
        omega
    · apply hc
      rw [met_new h hf i j hi (by omega), met_new h hf j i (by omega) hi, (h3 i hi j hj).1]
      have := hsym i j hi (by omega)
      by_cases e : W.getD i 0 = (j : Int)
      · rw [if_pos e, if_pos (this.1 e)]
      · rw [if_neg e, if_neg (fun q => e (this.2 q))]
  · exfalso
    rw [met_new h hf i j hi (by omega)] at hc
    have h4 := (h3 i hi j hj).2
    by_cases e : W.getD i 0 = (j : Int)
    · rw [if_pos e] at hc
      rcases h.ent i hi with ⟨q, -⟩ | ⟨m, m1, m2, -, -, m5⟩
      · omega
      · have : m = j := by omega
        subst this
        omega
    · rw [if_neg e] at hc; omega
end Go.Proofs.Ytkngpbnildhdpaa

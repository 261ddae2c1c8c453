/- ClaimWins: the plain law: who wins by a move was able to win. -/
import Derived.Test.YtkfaibdflbdpgaaMvLaw
import Derived.Test.YtkfaibdflbdpgaaEnd3
namespace Go.Proofs.Ytkfaibdflbdpgaa
set_option linter.unusedVariables false

def ownC (pl c : Int) : Bool := decide (0 < c) && ((c - 1) % 2 == pl)
/-- the types of the pieces of a player on the first k squares. -/
def tyC (cs : List Int) (pl : Int) : Nat → List Int
  | 0 => []
  | k + 1 => if ownC pl (cs.getD k 0) = true then tyC cs pl k ++ [(cs.getD k 0 - 1) / 2] else tyC cs pl k
/-- the types in the hand. -/
def tyH (hs : List Int) : Nat → List Int
  | 0 => []
  | k + 1 => if 0 < hs.getD k 0 then tyH hs k ++ [(k : Int)] else tyH hs k
def nH (hs : List Int) : Nat → Int
  | 0 => 0
  | k + 1 => if 0 < hs.getD k 0 then nH hs k + hs.getD k 0 else nH hs k
def typesZ (p : PosZ) (pl : Int) : List Int := tyC p.cells pl p.cells.length ++ tyH (p.hand pl) (p.hand pl).length
def numZ (p : PosZ) (pl : Int) : Int := ((tyC p.cells pl p.cells.length).length : Int) + nH (p.hand pl) (p.hand pl).length
def becZ (R : RulesZ) (piece : Int) : Nat → Int → Bool
  | 0, _ => false
  | n + 1, k => if k = piece then true else if (R.pieces.getD k.toNat default).promote = 0 then false else becZ R piece n ((R.pieces.getD k.toNat default).promote - 1)
def takeZ (R : RulesZ) (k : Int) : Bool := (R.pieces.getD k.toNat default).ways.any fun w => !(w.take == 0)
def ableZ (R : RulesZ) (p : PosZ) (x : EndZ) (pl : Int) : Bool :=
  if x.loses = true ∨ x.kind = 2 then true
  else if (x.kind = 0 ∧ x.count ≤ numZ p pl) ∨ (x.kind = 1 ∧ (typesZ p pl).any (becZ R x.piece (R.pieces.length + 1)) = true) then true
  else R.keeps && (typesZ p pl).any (takeZ R)
def canZ (R : RulesZ) (p : PosZ) (pl : Int) : Bool := if R.blocked ≠ 2 then true else R.ends.any fun x => ableZ R p x pl

theorem tyC_len (cs : List Int) (pl : Int) (n : Nat) (h : n ≤ cs.length) : (tyC cs pl n).length = (cs.take n).countP (ownC pl) := by
  induction n with
  | zero => simp [tyC]
  | succ n ih =>
    have e : cs.getD n 0 = cs[n] := by rw [List.getD_eq_getElem?_getD, List.getElem?_eq_getElem (by omega)]; rfl
    rw [List.take_succ_eq_append_getElem (by omega), List.countP_append, tyC, e, ← ih (by omega)]
    split
    · rename_i q; simp [q]
    · rename_i q; simp [q]
theorem tyC_mem {cs : List Int} {pl : Int} {n : Nat} (i : Nat) (hi : i < n) (h : ownC pl (cs.getD i 0) = true) : (cs.getD i 0 - 1) / 2 ∈ tyC cs pl n := by
  induction n with
  | zero => omega
  | succ n ih =>
    unfold tyC
    rcases Nat.lt_or_eq_of_le (Nat.lt_succ_iff.1 hi) with q | rfl
    · split
      · exact List.mem_append.2 (.inl (ih q))
      · exact ih q
    · rw [if_pos h]; simp
theorem tyH_mem {hs : List Int} {n : Nat} (i : Nat) (hi : i < n) (h : 0 < hs.getD i 0) : (i : Int) ∈ tyH hs n := by
  induction n with
  | zero => omega
  | succ n ih =>
    unfold tyH
    rcases Nat.lt_or_eq_of_le (Nat.lt_succ_iff.1 hi) with q | rfl
    · split
      · exact List.mem_append.2 (.inl (ih q))
      · exact ih q
    · rw [if_pos h]; simp
theorem nH_nonneg (hs : List Int) (n : Nat) : 0 ≤ nH hs n := by
  induction n with
  | zero => simp [nH]
  | succ n ih => unfold nH; split <;> omega
theorem nH_pos {hs : List Int} {n : Nat} (i : Nat) (hi : i < n) (h : 0 < hs.getD i 0) : 1 ≤ nH hs n := by
  induction n with
  | zero => omega
  | succ n ih =>
    unfold nH
    have := nH_nonneg hs n
    rcases Nat.lt_or_eq_of_le (Nat.lt_succ_iff.1 hi) with q | rfl
    · have := ih q
      split <;> omega
    · rw [if_pos h]; omega
/-- different members of a list are no more than the list has. -/
theorem nodup_len {l m : List Nat} (h : l.Nodup) (hs : ∀ x ∈ l, x ∈ m) : l.length ≤ m.length := by
  induction l generalizing m with
  | nil => simp
  | cons x t ih =>
    have hc := List.nodup_cons.1 h
    have hx := hs x (by simp)
    have := ih (m := m.erase x) hc.2 (fun y hy => (List.mem_erase_of_ne (fun e => hc.1 (by rw [← e]; exact hy))).2 (hs y (by simp [hy])))
    rw [List.length_erase_of_mem hx] at this
    have := List.length_pos_of_mem hx
    simp only [List.length_cons]; omega
theorem count_range (cs : List Int) (P : Int → Bool) : ∀ n, n ≤ cs.length → ((List.range n).filter fun i => P (cs.getD i 0)).length = (cs.take n).countP P := by
  intro n
  induction n with
  | zero => simp
  | succ n ih =>
    intro h
    have e : cs.getD n 0 = cs[n] := by rw [List.getD_eq_getElem?_getD, List.getElem?_eq_getElem (by omega)]; rfl
    rw [List.take_succ_eq_append_getElem (by omega), List.countP_append, List.range_succ, List.filter_append, List.length_append, ih (by omega)]
    congr 1
    rw [List.filter_cons, e]
    split
    · rename_i q; simp [q]
    · rename_i q; simp [q]
theorem sq_inj {W x y x' y' : Int} (hW : 1 ≤ W) (hx : 0 ≤ x) (hx2 : x < W) (hx' : 0 ≤ x') (hx2' : x' < W) (h : y * W + x = y' * W + x') : y = y' ∧ x = x' := by
  have h1 : (y * W + x) / W = y := by
    rw [Int.add_comm, Int.add_mul_ediv_right _ _ (by omega), Int.ediv_eq_zero_of_lt hx hx2]; omega
  have h2 : (y' * W + x') / W = y' := by
    rw [Int.add_comm, Int.add_mul_ediv_right _ _ (by omega), Int.ediv_eq_zero_of_lt hx' hx2']; omega
  have e : y = y' := by rw [← h1, h, h2]
  subst e
  exact ⟨rfl, by omega⟩
theorem own_inC {R : RulesZ} {p : PosZ} {pl x y : Int} (h : ownZ R p pl x y = true) : (0 ≤ x ∧ x < R.width ∧ 0 ≤ y ∧ y < R.height) ∧ ownC pl (p.cells.getD (y * R.width + x).toNat 0) = true := by
  unfold ownZ at h
  split at h
  · cases h
  · rename_i q
    exact ⟨by omega, h⟩
/-- a line has as many pieces as there are. -/
theorem line_count {R : RulesZ} {p : PosZ} {pl : Int} {cnt : Nat} (K : POk R p) (h : lineZ R p pl cnt = true) : cnt ≤ p.cells.countP (ownC pl) := by
  have hw := K.r.w
  have hcl := K.cl
  unfold lineZ at h
  obtain ⟨s, hs, h⟩ := List.any_eq_true.1 h
  obtain ⟨j, hj, h⟩ := List.any_eq_true.1 h
  unfold lineAt at h
  rw [List.all_eq_true] at h
  have hd : (dxZ j = 0 ∧ dyZ j ≠ 0) ∨ dxZ j = 1 := by
    unfold dxZ dyZ
    by_cases q : (j : Int) = 1
    · left; rw [if_pos q, if_neg (by omega), if_neg (by omega)]; omega
    · right; rw [if_neg q]
  generalize dxZ j = dx at *
  generalize dyZ j = dy at *
  have hin : ∀ i, i < cnt → _ := fun i hi => own_inC (h i (by simpa using hi))
  generalize (s : Int) % R.width = x0 at *
  generalize (s : Int) / R.width = y0 at *
  have hnd : ((List.range cnt).map fun i : Nat => ((y0 + (i : Int) * dy) * R.width + (x0 + (i : Int) * dx)).toNat).Nodup := by
    rw [List.nodup_iff_pairwise_ne, List.pairwise_map]
    refine List.Pairwise.imp_of_mem ?_ (List.pairwise_lt_range (n := cnt))
    intro a b ha hb hab e
    have ha' := (hin a (by simpa using ha)).1
    have hb' := (hin b (by simpa using hb)).1
    have n1 : 0 ≤ (y0 + (a : Int) * dy) * R.width := Int.mul_nonneg (by omega) (by omega)
    have n2 : 0 ≤ (y0 + (b : Int) * dy) * R.width := Int.mul_nonneg (by omega) (by omega)
    have e2 : (y0 + (a : Int) * dy) * R.width + (x0 + (a : Int) * dx) = (y0 + (b : Int) * dy) * R.width + (x0 + (b : Int) * dx) := by omega
    obtain ⟨ey, ex⟩ := sq_inj hw.1 (by omega) (by omega) (by omega) (by omega) e2
    rcases hd with ⟨rfl, hdy⟩ | rfl
    · have : ((a : Int) - b) * dy = 0 := by rw [Int.sub_mul]; omega
      rcases Int.mul_eq_zero.1 this with q | q
      · omega
      · exact hdy q
    · omega
  have hsub : ∀ x ∈ ((List.range cnt).map fun i : Nat => ((y0 + (i : Int) * dy) * R.width + (x0 + (i : Int) * dx)).toNat), x ∈ (List.range p.cells.length).filter fun i => ownC pl (p.cells.getD i 0) := by
    intro x hx
    obtain ⟨i, hi, rfl⟩ := List.mem_map.1 hx
    have hi' := hin i (by simpa using hi)
    refine List.mem_filter.2 ⟨List.mem_range.2 ?_, hi'.2⟩
    by_cases q : ((y0 + (i : Int) * dy) * R.width + (x0 + (i : Int) * dx)).toNat < p.cells.length
    · exact q
    · have := hi'.2
      rw [List.getD_eq_getElem?_getD, List.getElem?_eq_none (by omega)] at this
      simp [ownC] at this
  have := nodup_len hnd hsub
  rw [count_range p.cells (ownC pl) _ (Nat.le_refl _), List.take_of_length_le (Nat.le_refl _)] at this
  simpa using this
theorem idxL_get {α : Type} [Inhabited α] (f : α → Bool) : ∀ (l : List α) (k : Int), 0 ≤ k → k ≤ idxL f l k → f (l.getD (idxL f l k - k).toNat default) = true
  | [], k, h0, h => by unfold idxL at h; omega
  | x :: t, k, h0, h => by
    unfold idxL at h ⊢
    split
    · rename_i q
      rw [show (k - k).toNat = 0 by omega]
      exact q
    · rename_i q
      rw [if_neg q] at h
      rcases idxL_range f t (k + 1) (by omega) with e | e
      · omega
      · have ih := idxL_get f t (k + 1) (by omega) e.1
        rw [show (idxL f t (k + 1) - k).toNat = (idxL f t (k + 1) - (k + 1)).toNat + 1 by omega, List.getD_cons_succ]
        exact ih
theorem own_turn {t q : Int} (h : t = 0 ∨ t = 1) (hq : 0 ≤ q) : ownC t (2 * q + t + 1) = true ∧ (2 * q + t + 1 - 1) / 2 = q := by
  unfold ownC
  have h1 : (2 * q + t + 1 - 1) % 2 = t := by omega
  have h2 : 0 < 2 * q + t + 1 := by omega
  refine ⟨?_, by omega⟩
  rw [h1]
  simp [h2]
theorem getD_of {cs : List Int} {i : Nat} (h : i < cs.length) : cs.getD i 0 = cs[i] := by rw [List.getD_eq_getElem?_getD, List.getElem?_eq_getElem h]; rfl
theorem own_zero (t : Int) : ownC t 0 = false := by simp [ownC]
/-- the pieces of the mover after a move are no more than those on the board and in hand before. -/
theorem make_count {R : RulesZ} {p : PosZ} {m : MoveZ} (K : POk R p) (hm : m ∈ listZ R p) : ((makeCells p m).countP (ownC p.turn) : Int) ≤ numZ p p.turn := by
  have F := fits_of K hm
  obtain ⟨hd1, hd2⟩ := F.d
  obtain ⟨hs1, hs2⟩ := F.s
  have htc : ((tyC p.cells p.turn p.cells.length).length : Int) = (p.cells.countP (ownC p.turn) : Int) := by
    rw [tyC_len _ _ _ (Nat.le_refl _), List.take_of_length_le (Nat.le_refl _)]
  unfold numZ
  rw [htc]
  have hN := nH_nonneg (p.hand p.turn) (p.hand p.turn).length
  have hm' := hm
  rw [list_mem] at hm'
  unfold rawZ at hm'
  rcases List.mem_append.1 hm' with h | h
  · obtain ⟨s, k, hs, hz, hk, hp, rfl⟩ := puts_mem h
    have h1 := nH_pos k hk hp
    unfold makeCells
    rw [if_neg (by show ¬ (0 : Int) ≤ -1; omega)]
    rw [List.countP_set (by simpa using hd2)]
    split <;> split <;> omega
  · obtain ⟨s, hs, hn, hmod, x, -, t, ht, rfl⟩ := steps_mem h
    have hc := K.cell s
    have e1 : (moveTo R p s ((p.cells.getD s 0 - 1) / 2) t).src = s := rfl
    unfold makeCells
    rw [e1, if_pos (by omega), Int.toNat_natCast]
    have hown : ownC p.turn (p.cells[s]) = true := by
      rw [← getD_of hs]
      unfold ownC
      rw [hmod]
      have : 0 < p.cells.getD s 0 := by omega
      simp only [this, decide_true, Bool.true_and, beq_self_eq_true]
    rw [List.countP_set (by simpa using (show (moveTo R p s ((p.cells.getD s 0 - 1) / 2) t).dst.toNat < p.cells.length by omega)), List.countP_set hs, hown, own_zero]
    have hpos : 0 < p.cells.countP (ownC p.turn) := List.countP_pos_iff.2 ⟨_, List.getElem_mem hs, hown⟩
    have hY : ∀ (q : Prop) [Decidable q], (if q then 1 else 0 : Nat) ≤ 1 := fun q _ => by split <;> omega
    refine Int.le_trans (Int.ofNat_le.2 (Nat.add_le_add_left (hY _) _)) ?_
    simp only [if_true, Bool.false_eq_true, if_false]
    omega
theorem bec_self (R : RulesZ) (k : Int) (n : Nat) : becZ R k (n + 1) k = true := by unfold becZ; rw [if_pos rfl]
theorem bec_next {R : RulesZ} {k q : Int} (n : Nat) (h : 0 < (R.pieces.getD k.toNat default).promote) (hq : q = (R.pieces.getD k.toNat default).promote - 1) : becZ R q (n + 2) k = true := by
  unfold becZ
  split
  · rfl
  · rw [if_neg (by omega), ← hq]
    exact bec_self R q n
theorem getD_set_eq {l : List Int} {i : Nat} {v : Int} (h : i < l.length) : (l.set i v).getD i 0 = v := by
  rw [List.getD_eq_getElem?_getD, List.getElem?_set_self h]; rfl
theorem getD_set_ne {l : List Int} {i j : Nat} {v : Int} (h : i ≠ j) : (l.set i v).getD j 0 = l.getD j 0 := by
  rw [List.getD_eq_getElem?_getD, List.getElem?_set_ne h, ← List.getD_eq_getElem?_getD]
/-- a piece that is there after a move was there, or became it. -/
theorem make_type {R : RulesZ} {p : PosZ} {m : MoveZ} (K : POk R p) (hm : m ∈ listZ R p) {piece : Int} (hp0 : 0 ≤ piece) {s0 : Nat} (h : (makeCells p m).getD s0 0 = 2 * piece + p.turn + 1) : (typesZ p p.turn).any (becZ R piece (R.pieces.length + 1)) = true := by
  have F := fits_of K hm
  obtain ⟨hd1, hd2⟩ := F.d
  obtain ⟨hs1, hs2⟩ := F.s
  have htu := K.tu
  obtain ⟨n, hn⟩ : ∃ n, R.pieces.length + 1 = n + 2 := ⟨R.pieces.length - 1, by have := K.r.np; omega⟩
  rw [hn, List.any_eq_true]
  have hlen : (if 0 ≤ m.src then p.cells.set m.src.toNat 0 else p.cells).length = p.cells.length := by split <;> simp
  have hlt : s0 < p.cells.length := by
    by_cases q : s0 < p.cells.length
    · exact q
    · rw [List.getD_eq_getElem?_getD, List.getElem?_eq_none (by unfold makeCells; rw [List.length_set, hlen]; omega)] at h
      simp at h; omega
  unfold makeCells at h
  by_cases hd : m.dst.toNat = s0
  · rw [hd, getD_set_eq (by rw [hlen]; exact hlt)] at h
    have hmp : m.piece = piece := by omega
    have hm' := hm
    rw [list_mem] at hm'
    unfold rawZ at hm'
    rcases List.mem_append.1 hm' with g | g
    · obtain ⟨s, k, hs, hz, hk, hp, rfl⟩ := puts_mem g
      refine ⟨(k : Int), List.mem_append.2 (.inr (tyH_mem k hk hp)), ?_⟩
      rw [← hmp]
      exact bec_self R _ _
    · obtain ⟨s, hs, hne, hmod, x, -, t, ht, rfl⟩ := steps_mem g
      have hc := K.cell s
      refine ⟨(p.cells.getD s 0 - 1) / 2, List.mem_append.2 (.inl (tyC_mem s hs ?_)), ?_⟩
      · unfold ownC
        rw [hmod]
        have : 0 < p.cells.getD s 0 := by omega
        simp only [this, decide_true, Bool.true_and, beq_self_eq_true]
      · unfold moveTo at hmp
        dsimp only at hmp
        split at hmp
        · rename_i q
          exact bec_next n q.1 hmp.symm
        · rw [← hmp]; exact bec_self R _ _
  · rw [getD_set_ne hd] at h
    have h' : p.cells.getD s0 0 = 2 * piece + p.turn + 1 := by
      split at h
      · by_cases q : m.src.toNat = s0
        · rw [q, getD_set_eq hlt] at h; omega
        · rwa [getD_set_ne q] at h
      · exact h
    have ho := own_turn htu hp0
    rw [← h'] at ho
    refine ⟨(p.cells.getD s0 0 - 1) / 2, List.mem_append.2 (.inl (tyC_mem s0 hlt ho.1)), ?_⟩
    rw [ho.2]
    exact bec_self R _ _
/-- who wins by a move was able to win before it. -/
theorem claim_wins {R : RulesZ} {p : PosZ} {m : MoveZ} {pl : Int} (K : POk R p) (hm : m ∈ listZ R p) (hpl : pl = 0 ∨ pl = 1) (h : resultZ R (makeZ R p m) = 1 + pl) : canZ R p pl = true := by
  unfold canZ
  by_cases hb : R.blocked ≠ 2
  · rw [if_pos hb]
  rw [if_neg hb]
  have hb2 : R.blocked = 2 := by omega
  have htu := K.tu
  have Kq := make_ok K hm
  have hqt : (makeZ R p m).turn = 1 - p.turn := rfl
  unfold resultZ at h
  rw [hqt, show (1 : Int) - (1 - p.turn) = p.turn by omega] at h
  by_cases hi : 0 ≤ idxL (fun x => holdsZ R (makeZ R p m) x p.turn) R.ends 0
  · rw [if_pos hi] at h
    have hh := idxL_get (fun x => holdsZ R (makeZ R p m) x p.turn) R.ends 0 (by omega) hi
    rw [Int.sub_zero] at hh
    have hir := idxL_range (fun x => holdsZ R (makeZ R p m) x p.turn) R.ends 0 (by omega)
    generalize idxL (fun x => holdsZ R (makeZ R p m) x p.turn) R.ends 0 = i at *
    have hlt : i.toNat < R.ends.length := by omega
    have hee := endOk (K.r.ee i.toNat hlt)
    have hmem : R.ends.getD i.toNat default ∈ R.ends := by rw [List.getD_eq_getElem?_getD, List.getElem?_eq_getElem hlt]; exact List.getElem_mem hlt
    generalize R.ends.getD i.toNat default = x at *
    rw [List.any_eq_true]
    refine ⟨x, hmem, ?_⟩
    unfold ableZ
    by_cases hl : x.loses = true ∨ x.kind = 2
    · rw [if_pos hl]
    rw [if_neg hl]
    have hnl : ¬ x.loses = true := fun e => hl (.inl e)
    have hn2 : ¬ x.kind = 2 := fun e => hl (.inr e)
    rw [if_neg hnl] at h
    have hpt : pl = p.turn := by omega
    subst hpt
    rw [if_pos]
    unfold holdsZ at hh
    rcases hee with ⟨hk, hc1, hc2⟩ | ⟨hk, hp1, hp2⟩ | ⟨hk, -⟩
    · left
      rw [if_pos hk] at hh
      refine ⟨hk, ?_⟩
      have h1 := line_count Kq hh
      have h2 := make_count K hm
      have e : (makeZ R p m).cells = makeCells p m := rfl
      rw [e] at h1
      omega
    · right
      rw [if_neg (by omega), if_pos hk] at hh
      refine ⟨hk, ?_⟩
      obtain ⟨s, hs, q⟩ := List.any_eq_true.1 hh
      have q1 : (makeCells p m).getD s 0 = 2 * x.piece + p.turn + 1 := by
        rw [Bool.and_eq_true] at q
        exact eq_of_beq q.1
      exact make_type K hm hp1 q1
    · exact absurd hk hn2
  · rw [if_neg hi] at h
    exfalso
    split at h
    · omega
    · split at h
      · omega
      · rw [if_neg (by omega), if_neg (by omega)] at h
        omega
end Go.Proofs.Ytkfaibdflbdpgaa

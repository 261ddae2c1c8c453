/- What the search of pairings finds: a whole pairing, its cost, and none is cheaper. -/
import Derived.Test.YtkngpbnildhdpaaSwS
namespace Go.Proofs.Ytkngpbnildhdpaa
open Go.ChangeShapes Go.WideShapes Go.ChangeAt Go.RowKit
set_option linter.unusedVariables false

theorem idxE_first (x : Int) : ∀ (l : List Int) (k i : Nat), idxE x l k = (k + i : Nat) → ∀ m, m < i → l.getD m 0 ≠ x
  | [], k, i, h, m, hm => by unfold idxE at h; omega
  | z :: t, k, i, h, m, hm => by
    unfold idxE at h
    by_cases q : (x == z) = true
    · rw [if_pos q] at h; omega
    · rw [if_neg q] at h
      rcases m with _ | m
      · simpa using fun e => q (by simp [e])
      · rcases i with _ | i
        · omega
        · have := idxE_first x t (k + 1) i (by rw [show (((k + 1 : Nat)) : Int) = (k : Int) + 1 by omega, h]; omega) m (by omega)
          simpa using this

/-- one entry of a pairing. -/
def Ent (ps : List SwP) (wth : List Int) (i : Nat) : Prop :=
  wth.getD i 0 = -1 ∨ (wth.getD i 0 = ps.length ∧ (plAt ps i).bye = false) ∨ ∃ j : Nat, j < ps.length ∧ wth.getD i 0 = j ∧ j ≠ i ∧ wth.getD j 0 = i ∧ metN ps i j = 0
structure Inv (ps : List SwP) (bye : Bool) (wth : List Int) : Prop where
  len : wth.length = ps.length
  ent : ∀ i, i < ps.length → Ent ps wth i
  uniq : ∀ i k, i < ps.length → k < ps.length → wth.getD i 0 = ps.length → wth.getD k 0 = ps.length → i = k
  has : (∃ i, i < ps.length ∧ wth.getD i 0 = ps.length) ↔ (ps.length % 2 = 1 ∧ bye = false)
  odd : bye = true → ps.length % 2 = 1
  par : cnt wth % 2 = if bye = true then 1 else 0
def SymM (ps : List SwP) : Prop := ∀ i j : Nat, i < ps.length → j < ps.length → metN ps i j = metN ps j i
theorem Inv.pair {ps : List SwP} {bye : Bool} {wth : List Int} (h : Inv ps bye wth) (hs : SymM ps) (i j : Nat) (hij : i < j) (hj : j < ps.length) (hi0 : wth.getD i 0 = -1) (hj0 : wth.getD j 0 = -1) (hm : metN ps i j = 0) :
    Inv ps bye ((wth.set i (j : Int)).set j (i : Int)) := by
  have hl := h.len
  have hg : ∀ k, ((wth.set i (j : Int)).set j (i : Int)).getD k 0 = if k = j then (i : Int) else if k = i then (j : Int) else wth.getD k 0 := by
    intro k
    rw [set_getD _ _ _ _ (by rw [List.length_set]; omega), set_getD _ _ _ _ (by omega)]
  have c1 := cnt_set wth i (j : Int) (by omega) (by omega) hi0
  have c2 := cnt_set (wth.set i (j : Int)) j (i : Int) (by rw [List.length_set]; omega) (by omega) (by rw [set_getD _ _ _ _ (by omega), if_neg (by omega)]; exact hj0)
  have hn : ∀ k, ((wth.set i (j : Int)).set j (i : Int)).getD k 0 = ps.length ↔ wth.getD k 0 = ps.length := by
    intro k
    rw [hg k]
    by_cases e1 : k = j
    · subst e1; rw [if_pos rfl, hj0]; omega
    · rw [if_neg e1]
      by_cases e2 : k = i
      · subst e2; rw [if_pos rfl, hi0]; omega
      · rw [if_neg e2]
  refine ⟨by simp only [List.length_set]; exact hl, fun k hk => ?_, fun a b ha hb h1 h2 => h.uniq a b ha hb ((hn a).1 h1) ((hn b).1 h2), ?_, h.odd, by rw [← h.par]; omega⟩
  · by_cases e1 : k = j
    · subst e1
      exact .inr (.inr ⟨i, by omega, by rw [hg, if_pos rfl], by omega, by rw [hg, if_neg (by omega), if_pos rfl], by rw [hs k i hk (by omega)]; exact hm⟩)
    · by_cases e2 : k = i
      · subst e2
        exact .inr (.inr ⟨j, hj, by rw [hg, if_neg e1, if_pos rfl], by omega, by rw [hg, if_pos rfl], hm⟩)
      · rcases h.ent k hk with h1 | ⟨h1, h2⟩ | ⟨m, h1, h2, h3, h4, h5⟩
        · exact .inl (by rw [hg, if_neg e1, if_neg e2]; exact h1)
        · exact .inr (.inl ⟨by rw [hg, if_neg e1, if_neg e2]; exact h1, h2⟩)
        · have f1 : m ≠ j := fun e => by subst e; rw [hj0] at h4; omega
          have f2 : m ≠ i := fun e => by subst e; rw [hi0] at h4; omega
          exact .inr (.inr ⟨m, h1, by rw [hg, if_neg e1, if_neg e2]; exact h2, h3, by rw [hg, if_neg f1, if_neg f2]; exact h4, h5⟩)
  · rw [← h.has]
    exact ⟨fun ⟨k, h1, h2⟩ => ⟨k, h1, (hn k).1 h2⟩, fun ⟨k, h1, h2⟩ => ⟨k, h1, (hn k).2 h2⟩⟩
theorem Inv.off {ps : List SwP} {wth : List Int} (h : Inv ps true wth) (i : Nat) (hi : i < ps.length) (hi0 : wth.getD i 0 = -1) (hb : (plAt ps i).bye = false) : Inv ps false (wth.set i (ps.length : Int)) := by
  have hl := h.len
  have hg : ∀ k, (wth.set i (ps.length : Int)).getD k 0 = if k = i then (ps.length : Int) else wth.getD k 0 := fun k => set_getD _ _ _ _ (by omega)
  have c1 := cnt_set wth i (ps.length : Int) (by omega) (by omega) hi0
  have hno : ∀ k, k < ps.length → wth.getD k 0 ≠ ps.length := fun k hk e => by
    have := (h.has.1 ⟨k, hk, e⟩).2
    cases this
  have hp := h.par
  rw [if_pos rfl] at hp
  refine ⟨by rw [List.length_set]; exact hl, fun k hk => ?_, fun a b ha hb h1 h2 => ?_, ?_, fun e => (by cases e), by rw [if_neg (by decide)]; omega⟩
  · by_cases e : k = i
    · subst e
      exact .inr (.inl ⟨by rw [hg, if_pos rfl], hb⟩)
    · rcases h.ent k hk with h1 | ⟨h1, h2⟩ | ⟨m, h1, h2, h3, h4, h5⟩
      · exact .inl (by rw [hg, if_neg e]; exact h1)
      · exact absurd h1 (hno k hk)
      · have f2 : m ≠ i := fun e => by subst e; rw [hi0] at h4; omega
        exact .inr (.inr ⟨m, h1, by rw [hg, if_neg e]; exact h2, h3, by rw [hg, if_neg f2]; exact h4, h5⟩)
  · by_cases e1 : a = i
    · by_cases e2 : b = i
      · rw [e1, e2]
      · rw [hg, if_neg e2] at h2; exact absurd h2 (hno b hb)
    · rw [hg, if_neg e1] at h1; exact absurd h1 (hno a ha)
  · exact ⟨fun _ => ⟨h.odd rfl, rfl⟩, fun _ => ⟨i, hi, by rw [hg, if_pos rfl]⟩⟩

def sumTo : Nat → (Nat → Int) → Int
  | 0, _ => 0
  | n + 1, f => sumTo n f + f n
theorem sumTo_congr (f g : Nat → Int) : ∀ n, (∀ k, k < n → g k = f k) → sumTo n g = sumTo n f
  | 0, _ => rfl
  | n + 1, h => by unfold sumTo; rw [sumTo_congr f g n (fun k hk => h k (by omega)), h n (by omega)]
theorem sumTo_set (f g : Nat → Int) (i : Nat) : ∀ n, (∀ k, k < n → k ≠ i → g k = f k) → i < n → sumTo n g = sumTo n f + (g i - f i)
  | 0, _, h => absurd h (Nat.not_lt_zero _)
  | n + 1, h, hi => by
    unfold sumTo
    by_cases e : i = n
    · subst e
      rw [sumTo_congr f g i (fun k hk => h k (by omega) (by omega))]
      omega
    · rw [sumTo_set f g i n (fun k hk he => h k (by omega) he) (by omega), h n (by omega) (fun e' => e e'.symm)]
      omega
/-- what one entry costs. -/
def ctE (ps : List SwP) (i : Nat) (v : Int) : Int := if v = ps.length then 100 * (plAt ps i).score * (plAt ps i).score else if (i : Int) < v then costZ ps i v.toNat else 0
def costW (ps : List SwP) (wth : List Int) : Int := sumTo ps.length (fun i => ctE ps i (wth.getD i 0))
theorem costW_set (ps : List SwP) (l : List Int) (hl : l.length = ps.length) (i : Nat) (hi : i < ps.length) (v : Int) : costW ps (l.set i v) = costW ps l + (ctE ps i v - ctE ps i (l.getD i 0)) := by
  unfold costW
  rw [sumTo_set (fun k => ctE ps k (l.getD k 0)) (fun k => ctE ps k ((l.set i v).getD k 0)) i ps.length (fun k hk he => by show ctE ps k ((l.set i v).getD k 0) = _; rw [set_getD _ _ _ _ (by omega), if_neg he]) hi]
  show _ + (ctE ps i ((l.set i v).getD i 0) - _) = _
  rw [set_getD _ _ _ _ (by omega), if_pos rfl]
theorem costZ_comm (ps : List SwP) (i j : Nat) : costZ ps i j = costZ ps j i := by
  unfold costZ
  generalize (plAt ps i).score = a
  generalize (plAt ps j).score = b
  rw [Int.add_comm (plAt ps j).colour (plAt ps i).colour]
  rw [Int.mul_assoc, Int.mul_assoc, show b - a = -(a - b) by omega, Int.neg_mul_neg]
theorem ct_pair (ps : List SwP) (i j : Nat) (hi : i < ps.length) (hj : j < ps.length) (hne : i ≠ j) : ctE ps i (j : Int) + ctE ps j (i : Int) = costZ ps i j := by
  unfold ctE
  rw [if_neg (show ¬ ((j : Int) = ps.length) by omega), if_neg (show ¬ ((i : Int) = ps.length) by omega)]
  rcases Nat.lt_or_ge i j with h | h
  · rw [if_pos (show (i : Int) < j by omega), if_neg (show ¬ ((j : Int) < i) by omega)]; simp
  · rw [if_neg (show ¬ ((i : Int) < j) by omega), if_pos (show (j : Int) < i by omega), costZ_comm]; simp
theorem ct_neg (ps : List SwP) (i : Nat) : ctE ps i (-1) = 0 := by
  unfold ctE
  rw [if_neg (show ¬ ((-1 : Int) = ps.length) by omega), if_neg (show ¬ ((i : Int) < -1) by omega)]
theorem costW_pair (ps : List SwP) (l : List Int) (hl : l.length = ps.length) (i j : Nat) (hij : i < j) (hj : j < ps.length) (hi0 : l.getD i 0 = -1) (hj0 : l.getD j 0 = -1) : costW ps ((l.set i (j : Int)).set j (i : Int)) = costW ps l + costZ ps i j := by
  rw [costW_set ps _ (by rw [List.length_set]; exact hl) j hj, costW_set ps l hl i (by omega), set_getD _ _ _ _ (by omega), if_neg (by omega), hi0, hj0, ct_neg, ct_neg, ← ct_pair ps i j (by omega) hj (by omega)]
  omega
theorem costW_off (ps : List SwP) (l : List Int) (hl : l.length = ps.length) (i : Nat) (hi : i < ps.length) (hi0 : l.getD i 0 = -1) : costW ps (l.set i (ps.length : Int)) = costW ps l + 100 * (plAt ps i).score * (plAt ps i).score := by
  rw [costW_set ps l hl i hi, hi0, ct_neg]
  unfold ctE
  rw [if_pos rfl]
  omega
/-- a whole pairing. -/
def Whole (ps : List SwP) (W : List Int) : Prop := Inv ps false W ∧ cnt W = 0
def BestOK (ps : List SwP) (b : Option (List Int) × Int) : Prop := b.1 = none ∨ ∃ W, b.1 = some W ∧ Whole ps W ∧ b.2 = costW ps W
theorem loop_ind (ps : List SwP) (f : Nat) (bye : Bool) (sum : Int) (wth : List Int) (i : Nat) (P : Nat → (Option (List Int) × Int) → Prop)
    (h : ∀ k b, i + 1 ≤ k → k < ps.length → P k b → P (k + 1) (stepZ ps f bye sum wth i b k)) : ∀ (m k : Nat) b, ps.length - k = m → i + 1 ≤ k → k ≤ ps.length → P k b → P ps.length (loopZ ps f bye sum wth i k b)
  | 0, k, b, hm, h1, h2, hp => by
    obtain rfl : k = ps.length := by omega
    rw [loop_end]; exact hp
  | m + 1, k, b, hm, h1, h2, hp => by
    rw [loop_step _ _ _ _ _ _ _ _ (by omega)]
    exact loop_ind ps f bye sum wth i P h m (k + 1) _ (by omega) (by omega) (by omega) (h k b h1 (by omega) hp)
theorem cnt_zero {l : List Int} (h : ∀ i, i < l.length → l.getD i 0 ≠ -1) : cnt l = 0 := by
  unfold cnt
  rw [List.count_eq_zero]
  intro hm
  obtain ⟨i, hi, he⟩ := List.getElem_of_mem hm
  exact h i hi (by rw [List.getD_eq_getElem?_getD, List.getElem?_eq_getElem hi, he]; rfl)
theorem zero_cnt {l : List Int} (h : cnt l = 0) (i : Nat) (hi : i < l.length) : l.getD i 0 ≠ -1 := by
  unfold cnt at h
  rw [List.count_eq_zero] at h
  intro he
  refine h ?_
  rw [← he, List.getD_eq_getElem?_getD, List.getElem?_eq_getElem hi]
  exact List.getElem_mem hi
theorem full_of {ps : List SwP} {bye : Bool} {wth : List Int} (h : Inv ps bye wth) (hx : idxE (-1) wth 0 < 0) : bye = false ∧ cnt wth = 0 := by
  have hc := cnt_zero (idxE_none (-1) wth 0 hx)
  have hp := h.par
  rw [hc] at hp
  cases bye
  · exact ⟨rfl, hc⟩
  · cases hp
theorem srch_good (ps : List SwP) (hs : SymM ps) : ∀ (f : Nat) (bye : Bool) (sum : Int) (wth : List Int) (b : Option (List Int) × Int), Inv ps bye wth → sum = costW ps wth → cnt wth < f → BestOK ps b → BestOK ps (srchZ ps f bye sum wth b)
  | 0, _, _, _, _, _, _, hc, _ => absurd hc (Nat.not_lt_zero _)
  | f + 1, bye, sum, wth, b, hI, hsum, hc, hb => by
    have hl := hI.len
    rcases (by omega : idxE (-1) wth 0 < 0 ∨ 0 ≤ idxE (-1) wth 0) with hx | hx
    · obtain ⟨rfl, h0⟩ := full_of hI hx
      rw [srch_full _ _ _ _ _ _ hx]
      split
      · exact .inr ⟨wth, rfl, ⟨hI, h0⟩, hsum⟩
      · exact hb
    · obtain ⟨i, h1, h2, h3⟩ := idxE_found (-1) wth 0 hx
      rw [Nat.zero_add] at h1
      rw [srch_open _ _ _ _ _ _ i h1]
      have hL : BestOK ps (loopZ ps f bye sum wth i (i + 1) b) := by
        refine loop_ind ps f bye sum wth i (fun _ b => BestOK ps b) ?_ _ (i + 1) b rfl (Nat.le_refl _) (by omega) hb
        intro k b' hk1 hk2 hb'
        unfold stepZ
        by_cases hq : wth.getD k 0 < 0 ∧ metN ps i k = 0
        · rw [if_pos hq]
          have hk0 : wth.getD k 0 = -1 := by
            rcases hI.ent k hk2 with e | ⟨e, -⟩ | ⟨j, -, e, -⟩
            · exact e
            · omega
            · omega
          have c1 := cnt_set wth i (k : Int) (by omega) (by omega) h3
          have c2 := cnt_set (wth.set i (k : Int)) k (i : Int) (by rw [List.length_set]; omega) (by omega) (by rw [set_getD _ _ _ _ (by omega), if_neg (by omega)]; exact hk0)
          exact srch_good ps hs f bye _ _ b' (hI.pair hs i k (by omega) hk2 h3 hk0 hq.2) (by rw [costW_pair ps wth hl i k (by omega) hk2 h3 hk0, hsum]) (by omega) hb'
        · rw [if_neg hq]; exact hb'
      by_cases hq : bye = true ∧ (plAt ps i).bye = false
      · rw [if_pos hq]
        obtain ⟨rfl, hq2⟩ := hq
        have c1 := cnt_set wth i (ps.length : Int) (by omega) (by omega) h3
        exact srch_good ps hs f false _ _ _ (hI.off i (by omega) h3 hq2) (by rw [costW_off ps wth hl i (by omega) h3, hsum]) (by omega) hL
      · rw [if_neg hq]; exact hL
/-- what comes later is not worse. -/
def LeB (a b : Option (List Int) × Int) : Prop := a.1 ≠ none → b.1 ≠ none ∧ b.2 ≤ a.2
theorem LeB.refl (a : Option (List Int) × Int) : LeB a a := fun h => ⟨h, Int.le_refl _⟩
theorem LeB.trans {a b c : Option (List Int) × Int} (h : LeB a b) (k : LeB b c) : LeB a c := fun ha => ⟨(k (h ha).1).1, Int.le_trans (k (h ha).1).2 (h ha).2⟩
theorem srch_mono (ps : List SwP) : ∀ (f : Nat) (bye : Bool) (sum : Int) (wth : List Int) (b : Option (List Int) × Int), LeB b (srchZ ps f bye sum wth b)
  | 0, _, _, _, b => LeB.refl b
  | f + 1, bye, sum, wth, b => by
    rcases (by omega : idxE (-1) wth 0 < 0 ∨ 0 ≤ idxE (-1) wth 0) with hx | hx
    · rw [srch_full _ _ _ _ _ _ hx]
      split
      · rename_i h
        intro hn
        rcases h with h | h
        · exact absurd h hn
        · exact ⟨by simp, by show sum ≤ b.2; omega⟩
      · exact LeB.refl b
    · obtain ⟨i, h1, h2, h3⟩ := idxE_found (-1) wth 0 hx
      rw [Nat.zero_add] at h1
      rw [srch_open _ _ _ _ _ _ i h1]
      have hL : LeB b (loopZ ps f bye sum wth i (i + 1) b) := by
        rcases Nat.lt_or_ge i ps.length with hi | hi
        · refine loop_ind ps f bye sum wth i (fun _ b' => LeB b b') ?_ _ (i + 1) b rfl (Nat.le_refl _) (by omega) (LeB.refl b)
          intro k b' _ _ hb'
          unfold stepZ
          split
          · exact hb'.trans (srch_mono ps f _ _ _ _)
          · exact hb'
        · unfold loopZ
          rw [show ps.length - (i + 1) = 0 by omega]
          exact LeB.refl b
      split
      · exact hL.trans (srch_mono ps f _ _ _ _)
      · exact hL
/-- a pairing that is at least as cheap as W has been found. -/
def Beats (ps : List SwP) (W : List Int) (b : Option (List Int) × Int) : Prop := b.1 ≠ none ∧ b.2 ≤ costW ps W
theorem Beats.le {ps : List SwP} {W : List Int} {a b : Option (List Int) × Int} (h : Beats ps W a) (k : LeB a b) : Beats ps W b := ⟨(k h.1).1, Int.le_trans (k h.1).2 h.2⟩
def Ext (ps : List SwP) (wth W : List Int) : Prop := ∀ k, k < ps.length → wth.getD k 0 ≠ -1 → W.getD k 0 = wth.getD k 0
theorem srch_best (ps : List SwP) (hs : SymM ps) (W : List Int) (hW : Whole ps W) : ∀ (f : Nat) (bye : Bool) (sum : Int) (wth : List Int) (b : Option (List Int) × Int), Inv ps bye wth → sum = costW ps wth → cnt wth < f → Ext ps wth W → Beats ps W (srchZ ps f bye sum wth b)
  | 0, _, _, _, _, _, _, hc, _ => absurd hc (Nat.not_lt_zero _)
  | f + 1, bye, sum, wth, b, hI, hsum, hc, hE => by
    have hl := hI.len
    have hlW := hW.1.len
    rcases (by omega : idxE (-1) wth 0 < 0 ∨ 0 ≤ idxE (-1) wth 0) with hx | hx
    · have hne := idxE_none (-1) wth 0 hx
      have hcost : costW ps W = costW ps wth := sumTo_congr _ _ _ (fun k hk => by show ctE ps k (W.getD k 0) = _; rw [hE k hk (hne k (by omega))])
      rw [srch_full _ _ _ _ _ _ hx]
      split
      · exact ⟨by simp, by rw [hcost, ← hsum]; exact Int.le_refl _⟩
      · rename_i h
        refine ⟨fun e => h (.inl e), ?_⟩
        rw [hcost, ← hsum]
        have : ¬ sum < b.2 := fun e => h (.inr e)
        omega
    · obtain ⟨i, h1, h2, h3⟩ := idxE_found (-1) wth 0 hx
      have hfirst := idxE_first (-1) wth 0 i h1
      rw [Nat.zero_add] at h1
      rw [srch_open _ _ _ _ _ _ i h1]
      have hWi := zero_cnt hW.2 i (by omega)
      rcases hW.1.ent i (by omega) with e | ⟨e, hbye⟩ | ⟨j, hj, e, hji, hjw, hm⟩
      · exact absurd e hWi
      · have hb : bye = true := by
          cases hbb : bye
          · exfalso
            have hodd := (hW.1.has.1 ⟨i, by omega, e⟩).1
            obtain ⟨k, hk, hkn⟩ := hI.has.2 ⟨hodd, hbb⟩
            have hkW := hE k hk (by omega)
            have := hW.1.uniq k i hk (by omega) (by rw [hkW]; exact hkn) e
            subst this
            omega
          · rfl
        subst hb
        rw [if_pos ⟨rfl, hbye⟩]
        have c1 := cnt_set wth i (ps.length : Int) (by omega) (by omega) h3
        refine srch_best ps hs W hW f false _ _ _ (hI.off i (by omega) h3 hbye) (by rw [costW_off ps wth hl i (by omega) h3, hsum]) (by omega) ?_
        intro k hk hkn
        rw [set_getD _ _ _ _ (by omega)] at hkn ⊢
        by_cases ek : k = i
        · rw [if_pos ek, ek]; exact e
        · rw [if_neg ek] at hkn ⊢; exact hE k hk hkn
      · have hjn : wth.getD j 0 = -1 := by
          by_cases hn : wth.getD j 0 = -1
          · exact hn
          · exfalso
            have h5 := hE j hj hn
            rw [hjw] at h5
            rcases hI.ent j hj with q | ⟨q, -⟩ | ⟨m, q1, q2, q3, q4, -⟩
            · exact hn q
            · omega
            · have : m = i := by omega
              subst this
              omega
        have hgt : i < j := by
          rcases Nat.lt_or_ge j i with h | h
          · exact absurd hjn (hfirst j h)
          · omega
        have hL : Beats ps W (loopZ ps f bye sum wth i (i + 1) b) := by
          have hP := loop_ind ps f bye sum wth i (fun k b => j < k → Beats ps W b) (fun k b' hk1 hk2 hb' hjk => by
            unfold stepZ
            by_cases ek : k = j
            · subst ek
              rw [if_pos ⟨by omega, hm⟩]
              have c1 := cnt_set wth i (k : Int) (by omega) (by omega) h3
              have c2 := cnt_set (wth.set i (k : Int)) k (i : Int) (by rw [List.length_set]; omega) (by omega) (by rw [set_getD _ _ _ _ (by omega), if_neg (by omega)]; exact hjn)
              refine srch_best ps hs W hW f bye _ _ b' (hI.pair hs i k (by omega) hk2 h3 hjn hm) (by rw [costW_pair ps wth hl i k (by omega) hk2 h3 hjn, hsum]) (by omega) ?_
              intro m hm' hmn
              rw [set_getD _ _ _ _ (by rw [List.length_set]; omega), set_getD _ _ _ _ (by omega)] at hmn ⊢
              by_cases e1 : m = k
              · rw [if_pos e1, e1]; exact hjw
              · rw [if_neg e1] at hmn ⊢
                by_cases e2 : m = i
                · rw [if_pos e2, e2]; exact e
                · rw [if_neg e2] at hmn ⊢; exact hE m hm' hmn
            · split
              · exact (hb' (by omega)).le (srch_mono ps f _ _ _ _)
              · exact hb' (by omega)) _ (i + 1) b rfl (Nat.le_refl _) (by omega) (fun h => by omega)
          exact hP hj
        split
        · exact hL.le (srch_mono ps f _ _ _ _)
        · exact hL
theorem rep_getD (n k : Nat) (h : k < n) : (List.replicate n (-1 : Int)).getD k 0 = -1 := by
  rw [List.getD_eq_getElem?_getD, List.getElem?_replicate, if_pos h]; rfl
theorem inv_start (ps : List SwP) : Inv ps (decide (ps.length % 2 = 1)) (List.replicate ps.length (-1)) := by
  refine ⟨by simp, fun i hi => .inl (rep_getD _ _ hi), fun i k hi hk h1 h2 => by rw [rep_getD _ _ hi] at h1; omega, ?_, fun h => of_decide_eq_true h, ?_⟩
  · constructor
    · rintro ⟨i, hi, h⟩
      rw [rep_getD _ _ hi] at h; omega
    · rintro ⟨h1, h2⟩
      rw [decide_eq_true h1] at h2; cases h2
  · unfold cnt
    rw [List.count_replicate_self]
    by_cases h : ps.length % 2 = 1
    · rw [decide_eq_true h, if_pos rfl, h]
    · rw [decide_eq_false h, if_neg (by decide)]; omega
theorem cost_start (ps : List SwP) : costW ps (List.replicate ps.length (-1)) = 0 := by
  have h : ∀ n, sumTo n (fun _ => (0 : Int)) = 0 := by
    intro n
    induction n with
    | zero => rfl
    | succ n ih => unfold sumTo; rw [ih]; rfl
  unfold costW
  rw [sumTo_congr (fun _ => 0) _ _ (fun k hk => by show ctE ps k ((List.replicate ps.length (-1 : Int)).getD k 0) = 0; rw [rep_getD _ _ hk, ct_neg]), h]
theorem cnt_start (n : Nat) : cnt (List.replicate n (-1)) = n := by unfold cnt; rw [List.count_replicate_self]
theorem pair_good (ps : List SwP) (hs : SymM ps) : BestOK ps (pairZ ps) := srch_good ps hs _ _ _ _ _ (inv_start ps) (cost_start ps).symm (by rw [cnt_start]; omega) (.inl rfl)
theorem pair_best (ps : List SwP) (hs : SymM ps) (W : List Int) (hW : Whole ps W) : Beats ps W (pairZ ps) := srch_best ps hs W hW _ _ _ _ _ (inv_start ps) (cost_start ps).symm (by rw [cnt_start]; omega) (fun k hk h => absurd (rep_getD _ _ hk) h)
theorem sym_of (ps : List SwP) (h : ChkOk ps) : SymM ps := by
  intro i j hi hj
  rcases Nat.lt_or_ge j i with h1 | h1
  · exact (h.2.2 i hi j h1).1
  · rcases Nat.eq_or_lt_of_le h1 with e | e
    · subst e; rfl
    · exact (h.2.2 j hj i e).1.symm
end Go.Proofs.Ytkngpbnildhdpaa

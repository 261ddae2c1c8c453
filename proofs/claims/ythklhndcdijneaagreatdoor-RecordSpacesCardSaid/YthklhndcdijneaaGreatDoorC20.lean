/- Trees of records, laid flat: their nodes pass the record's check, but for its size and depth. -/
import Derived.Test.YthklhndcdijneaaGreatDoorC19
namespace Go.Proofs.YthklhndcdijneaaGreatDoor
open Go.ChangeShapes Go.WideShapes Go.ChangeAt Go.RowKit
set_option linter.unusedVariables false
theorem nd_low (ns r : List NodeZ) (k : Nat) (h : k < ns.length) : ndAt (ns ++ r) k = ndAt ns k := by
 unfold ndAt; rw [List.getD_eq_getElem?_getD, List.getD_eq_getElem?_getD, List.getElem?_append_left h]
theorem nd_new (ns : List NodeZ) (x : NodeZ) : ndAt (ns ++ [x]) ns.length = x := by
 unfold ndAt; rw [List.getD_eq_getElem?_getD, List.getElem?_append_right (Nat.le_refl _), Nat.sub_self]; rfl
/-- what comes later does not matter for the way up. -/
theorem up_app (ns r : List NodeZ) (hb : Back ns ns.length) : ∀ (f : Nat) (n : Int), n < ns.length → upZ (ns ++ r) f n = upZ ns f n
 | 0, _, _ => rfl
 | f + 1, n, h => by
  unfold upZ
  split
  ·rfl
  ·rename_i h0
   have hk : n.toNat < ns.length := by omega
   rw [nd_low ns r _ hk]
   have := hb _ hk
   rw [up_app ns r hb f _ (by omega)]
theorem upL_app (ns r : List NodeZ) (hb : Back ns ns.length) (n : Int) (h : n < ns.length) : upL (ns ++ r) n = upL ns n := by
 unfold upL; exact up_app ns r hb _ n h
theorem onB_app (ns r : List NodeZ) (hb : Back ns ns.length) (q n : Int) (h : n < ns.length) : onB (ns ++ r) q n = onB ns q n := by
 unfold onB; rw [upL_app ns r hb n h]
theorem upZ_lt {ns : List NodeZ} {N : Nat} (hb : Back ns N) : ∀ (f : Nat) (n : Int) (k : Nat), n < N → k ∈ upZ ns f n → k < N
 | 0, _, _, _, h => by cases h
 | f + 1, n, k, hn, h => by
  unfold upZ at h
  split at h
  ·cases h
  ·rcases List.mem_cons.1 h with rfl | h
   ·omega
   ·have := hb n.toNat (by omega)
    exact upZ_lt hb f _ k (by omega) h
theorem way_app (ns r : List NodeZ) (hb : Back ns ns.length) (n : Int) (h : n < ns.length) : wayI (ns ++ r) n = wayI ns n := by
 unfold wayI
 rw [upL_app ns r hb n h]
 congr 1
 refine List.map_congr_left fun k hk => ?_
 rw [nd_low ns r k (upZ_lt hb _ n k h hk)]
/-- above one who is on the way is on the way. -/
theorem on_trans {ns : List NodeZ} {N : Nat} (hb : Back ns N) (hl : ∀ k, k < N → -1 ≤ (ndAt ns k).parent) (k : Nat) : ∀ (f : Nat) (n : Int), n < N → n.toNat < f → k ∈ upZ ns f n → onB ns (ndAt ns k).parent n = true
 | 0, _, _, hf, _ => absurd hf (Nat.not_lt_zero _)
 | f + 1, n, hn, hf, h => by
  unfold upZ at h
  split at h
  ·cases h
  rename_i h0
  have hp := hb n.toNat (by omega)
  have hc := up_cons hb n.toNat (by omega)
  rw [Int.toNat_of_nonneg (by omega)] at hc
  rcases List.mem_cons.1 h with rfl | h
  ·by_cases hz : (ndAt ns n.toNat).parent < 0
   ·have e : onB ns (ndAt ns n.toNat).parent n = ((upL ns n).any (fun (k : Nat) => (k : Int) == (ndAt ns n.toNat).parent) || (ndAt ns n.toNat).parent == -1) := rfl
    by_cases h1 : (ndAt ns n.toNat).parent = -1
    ·rw [e, h1]; simp
    ·have := hl n.toNat (by omega); omega
   ·unfold onB
    rw [Bool.or_eq_true, List.any_eq_true]
    refine .inl ⟨(ndAt ns n.toNat).parent.toNat, ?_, by simp; omega⟩
    rw [hc]
    refine List.mem_cons_of_mem _ ?_
    have hc2 := up_cons hb (ndAt ns n.toNat).parent.toNat (by omega)
    rw [Int.toNat_of_nonneg (by omega)] at hc2
    rw [hc2]
    exact List.mem_cons_self ..
  ·have ih := on_trans hb hl k f _ (by omega) (by
    by_cases hz : (ndAt ns n.toNat).parent < 0
    ·rw [upZ_neg ns _ hz] at h; cases h
    ·omega) h
   unfold onB at ih ⊢
   rw [Bool.or_eq_true, List.any_eq_true] at ih ⊢
   rcases ih with ⟨q, hq, he⟩ | he
   ·exact .inl ⟨q, by rw [hc]; exact List.mem_cons_of_mem _ hq, he⟩
   ·exact .inr he
/-- nodes that are trees laid flat; ws: their ways. -/
structure FlatOK (ns : List NodeZ) (ws : List (List MoveZ)) : Prop where
 len : ns.length = ws.length
 back : Back ns ns.length
 low : ∀ k, k < ns.length → -1 ≤ (ndAt ns k).parent
 on : ∀ k, k < ns.length → onB ns (ndAt ns k).parent ((k : Int) - 1) = true
 way : ∀ k, k < ns.length → wayI ns (k : Int) = ws.getD k []
theorem FlatOK.nil : FlatOK [] [] := ⟨rfl, fun k h => absurd h (Nat.not_lt_zero _), fun k h => absurd h (Nat.not_lt_zero _), fun k h => absurd h (Nat.not_lt_zero _), fun k h => absurd h (Nat.not_lt_zero _)⟩
theorem getD_lo {α : Type} (l r : List α) (d : α) (k : Nat) (h : k < l.length) : (l ++ r).getD k d = l.getD k d := by
 rw [List.getD_eq_getElem?_getD, List.getD_eq_getElem?_getD, List.getElem?_append_left h]
theorem getD_new {α : Type} (l : List α) (x d : α) : (l ++ [x]).getD l.length d = x := by
 rw [List.getD_eq_getElem?_getD, List.getElem?_append_right (Nat.le_refl _), Nat.sub_self]; rfl
/-- where the next node goes. -/
def AtP (out : List NodeZ) (p : Int) (pre : List MoveZ) : Prop := -1 ≤ p ∧ p < out.length ∧ wayI out p = pre ∧ onB out p ((out.length : Int) - 1) = true
theorem FlatOK.snoc {out : List NodeZ} {ws : List (List MoveZ)} (h : FlatOK out ws) {p : Int} {pre : List MoveZ} (hp : AtP out p pre) (m : MoveZ) (c : ByteArray) : FlatOK (out ++ [⟨p, m, c⟩]) (ws ++ [pre ++ [m]]) := by
 obtain ⟨p1, p2, p3, p4⟩ := hp
 have hb : Back (out ++ [(⟨p, m, c⟩ : NodeZ)]) (out ++ [(⟨p, m, c⟩ : NodeZ)]).length := by
  intro k hk
  rw [List.length_append] at hk
  by_cases e : k < out.length
  ·rw [nd_low out _ k e]; exact h.back k e
  ·have ek : k = out.length := by have : k < out.length + 1 := hk; omega
   subst ek
   rw [nd_new]; exact p2
 have cs : ∀ k, k < (out ++ [(⟨p, m, c⟩ : NodeZ)]).length → k < out.length ∨ k = out.length := fun k hk => by rw [List.length_append] at hk; have : k < out.length + 1 := hk; omega
 refine ⟨by rw [List.length_append, List.length_append, h.len]; rfl, hb, fun k hk => ?_, fun k hk => ?_, fun k hk => ?_⟩
 ·rcases cs k hk with e | rfl
  ·rw [nd_low out _ k e]; exact h.low k e
  ·rw [nd_new]; exact p1
 ·rcases cs k hk with e | rfl
  ·rw [nd_low out _ k e, onB_app out _ h.back _ _ (by omega)]; exact h.on k e
  ·rw [nd_new, onB_app out _ h.back _ _ (by omega)]; exact p4
 ·rcases cs k hk with e | rfl
  ·rw [way_app out _ h.back _ (by omega), getD_lo ws _ _ k (by rw [← h.len]; exact e)]; exact h.way k e
  ·rw [way_snoc hb out.length (by rw [List.length_append]; show out.length < out.length + 1; omega), nd_new, way_app out _ h.back _ p2, p3, h.len, getD_new]
mutual
theorem flatL_app : ∀ (l : List BrZ) (p : Int) (out : List NodeZ), ∃ r, flatL l p out = out ++ r
 | [], p, out => ⟨[], by rw [flatL, List.append_nil]⟩
 | b :: l, p, out => by
  obtain ⟨r1, h1⟩ := flatB_app b p out
  obtain ⟨r2, h2⟩ := flatL_app l p (out ++ r1)
  exact ⟨r1 ++ r2, by rw [flatL, h1, h2, List.append_assoc]⟩
theorem flatB_app : ∀ (b : BrZ) (p : Int) (out : List NodeZ), ∃ r, flatB b p out = out ++ r
 | .mk m c ks, p, out => by
  obtain ⟨r, h⟩ := flatL_app ks (out.length : Int) (out ++ [⟨p, m, c⟩])
  exact ⟨[⟨p, m, c⟩] ++ r, by rw [flatB, h, List.append_assoc]⟩
end
mutual
theorem br_indB {PB : BrZ → Prop} {PL : List BrZ → Prop} (h1 : ∀ m c ks, PL ks → PB (.mk m c ks)) (h2 : PL []) (h3 : ∀ b l, PB b → PL l → PL (b :: l)) : ∀ b, PB b
 | .mk m c ks => h1 m c ks (br_indL h1 h2 h3 ks)
theorem br_indL {PB : BrZ → Prop} {PL : List BrZ → Prop} (h1 : ∀ m c ks, PL ks → PB (.mk m c ks)) (h2 : PL []) (h3 : ∀ b l, PB b → PL l → PL (b :: l)) : ∀ l, PL l
 | [] => h2
 | b :: l => h3 b l (br_indB h1 h2 h3 b) (br_indL h1 h2 h3 l)
end
def FOKB (b : BrZ) : Prop := ∀ (p : Int) (pre : List MoveZ) (out : List NodeZ) (ws : List (List MoveZ)), FlatOK out ws → AtP out p pre → FlatOK (flatB b p out) (ws ++ waysB pre b) ∧ AtP (flatB b p out) p pre
def FOKL (l : List BrZ) : Prop := ∀ (p : Int) (pre : List MoveZ) (out : List NodeZ) (ws : List (List MoveZ)), FlatOK out ws → AtP out p pre → FlatOK (flatL l p out) (ws ++ waysL pre l) ∧ AtP (flatL l p out) p pre
theorem fok_mk (m : MoveZ) (c : ByteArray) (ks : List BrZ) (ih : FOKL ks) : FOKB (.mk m c ks) := by
 intro p pre out ws h hp
 have h1 := h.snoc hp m c
 have hl : (out ++ [(⟨p, m, c⟩ : NodeZ)]).length = out.length + 1 := by rw [List.length_append]; rfl
 have hw : wayI (out ++ [⟨p, m, c⟩]) (out.length : Int) = pre ++ [m] := by rw [h1.way out.length (by omega), h.len, getD_new]
 have hon : onB (out ++ [⟨p, m, c⟩]) (out.length : Int) (((out ++ [(⟨p, m, c⟩ : NodeZ)]).length : Int) - 1) = true := by
  rw [hl, show ((out.length + 1 : Nat) : Int) - 1 = (out.length : Int) by omega]
  have hc := up_cons h1.back out.length (by omega)
  unfold onB
  rw [hc, Bool.or_eq_true, List.any_eq_true]
  exact .inl ⟨out.length, List.mem_cons_self .., beq_self_eq_true _⟩
 have hat : AtP (out ++ [⟨p, m, c⟩]) (out.length : Int) (pre ++ [m]) := ⟨by omega, by omega, hw, hon⟩
 have hab := ih (out.length : Int) (pre ++ [m]) (out ++ [⟨p, m, c⟩]) _ h1 hat
 obtain ⟨r, hr⟩ := flatL_app ks (out.length : Int) (out ++ [⟨p, m, c⟩])
 rw [flatB, waysB]
 rw [List.append_assoc] at hab
 have hlow : ∀ k, k < out.length + 1 → ndAt (flatL ks (out.length : Int) (out ++ [⟨p, m, c⟩])) k = ndAt (out ++ [⟨p, m, c⟩]) k := fun k hk => by rw [hr, nd_low _ _ k (by omega)]
 have hway : wayI (flatL ks (out.length : Int) (out ++ [⟨p, m, c⟩])) p = wayI out p := by rw [hr, way_app _ _ h1.back _ (by have := hp.2.1; omega), way_app out _ h.back _ hp.2.1]
 generalize flatL ks (out.length : Int) (out ++ [⟨p, m, c⟩]) = res at *
 obtain ⟨a, b1, b2, b3, b4⟩ := hab
 refine ⟨a, hp.1, ?_, hway.trans hp.2.2.1, ?_⟩
 ·have := hp.2.1; omega
 ·unfold onB at b4
  rw [Bool.or_eq_true, List.any_eq_true] at b4
  rcases b4 with ⟨k, hk, he⟩ | he
  ·simp only [beq_iff_eq] at he
   have ek : k = out.length := by omega
   subst ek
   have ht := on_trans a.back a.low out.length _ _ (by omega) (by omega) hk
   have hn : (ndAt res out.length).parent = p := by rw [hlow _ (by omega), nd_new]
   rwa [hn] at ht
  ·simp only [beq_iff_eq] at he; omega
theorem fok_cons (b : BrZ) (l : List BrZ) (h1 : FOKB b) (h2 : FOKL l) : FOKL (b :: l) := by
 intro p pre out ws h hp
 obtain ⟨a1, a2⟩ := h1 p pre out ws h hp
 obtain ⟨b1, b2⟩ := h2 p pre _ _ a1 a2
 rw [flatL, waysL, ← List.append_assoc]
 exact ⟨b1, b2⟩
theorem flatL_ok : ∀ l, FOKL l := br_indL fok_mk (fun p pre out ws h hp => by rw [flatL, waysL, List.append_nil]; exact ⟨h, hp⟩) fok_cons
/-- trees laid flat. -/
theorem flat_ok (l : List BrZ) : FlatOK (flatL l (-1) []) (waysL [] l) := by
 have := (flatL_ok l (-1) [] [] [] .nil ⟨by decide, by decide, way_neg _ _ (by decide), by unfold onB; simp⟩).1
 rwa [List.nil_append] at this
end Go.Proofs.YthklhndcdijneaaGreatDoor

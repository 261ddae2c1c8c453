/- AnQ, AnR, AnM, AnS, AnT. -/
import Derived.Test.YtnieifdogllbfaaGreatF18
import Derived.Test.YtnieifdogllbfaaGreatF08
namespace Go.Proofs.YtnieifdogllbfaaGreat
open Go.ChangeShapes Go.WideShapes Go.ChangeAt Go.RowKit
set_option linter.unusedVariables false
def BrZ.mv : BrZ → MoveZ
 | .mk m _ _ => m
def BrZ.cm : BrZ → ByteArray
 | .mk _ c _ => c
def BrZ.ks : BrZ → List BrZ
 | .mk _ _ ks => ks
/-- the first tree with the move is changed, or the tree comes last. -/
def putW (m : MoveZ) (y : BrZ) (f : BrZ → BrZ) : List BrZ → List BrZ
 | [] => [y]
 | x :: l => if x.mv = m then f x :: l else x :: putW m y f l
mutual
def mergeB : BrZ → BrZ → BrZ
 | x, .mk _ c ks => .mk x.mv (if x.cm.size = 0 then c else x.cm) (mergeL x.ks ks)
def mergeL : List BrZ → List BrZ → List BrZ
 | a, [] => a
 | a, y :: l => mergeL (putW y.mv y (fun x => mergeB x y) a) l
end
mutual
def distB : BrZ → Prop
 | .mk _ _ ks => distL ks
def distL : List BrZ → Prop
 | [] => True
 | b :: l => (∀ x ∈ l, x.mv ≠ b.mv) ∧ distB b ∧ distL l
end
theorem putW_hit (m : MoveZ) (y : BrZ) (f : BrZ → BrZ) (x : BrZ) (hx : x.mv = m) : ∀ (p l : List BrZ), (∀ z ∈ p, z.mv ≠ m) → putW m y f (p ++ x :: l) = p ++ f x :: l
 | [], l, _ => by show putW m y f (x :: l) = _; rw [putW, if_pos hx]; rfl
 | z :: p, l, h => by
  show putW m y f (z :: (p ++ x :: l)) = _
  rw [putW, if_neg (h z (List.mem_cons_self ..)), putW_hit m y f x hx p l (fun u hu => h u (List.mem_cons_of_mem _ hu))]; rfl
theorem putW_miss (m : MoveZ) (y : BrZ) (f : BrZ → BrZ) : ∀ (p : List BrZ), (∀ z ∈ p, z.mv ≠ m) → putW m y f p = p ++ [y]
 | [], _ => rfl
 | z :: p, h => by rw [putW, if_neg (h z (List.mem_cons_self ..)), putW_miss m y f p (fun u hu => h u (List.mem_cons_of_mem _ hu))]; rfl
theorem distL_app : ∀ (p l : List BrZ), distL (p ++ l) ↔ distL p ∧ distL l ∧ ∀ z ∈ p, ∀ x ∈ l, x.mv ≠ z.mv
 | [], l => by simp [distL]
 | z :: p, l => by
  show distL (z :: (p ++ l)) ↔ _
  rw [distL, distL, distL_app p l]
  constructor
  ·rintro ⟨h1, h2, h3, h4, h5⟩
   refine ⟨⟨fun x hx => h1 x (List.mem_append_left _ hx), h2, h3⟩, h4, fun u hu x hx => ?_⟩
   rcases List.mem_cons.1 hu with rfl | hu
   ·exact h1 x (List.mem_append_right _ hx)
   ·exact h5 u hu x hx
  ·rintro ⟨⟨h1, h2, h3⟩, h4, h5⟩
   refine ⟨fun x hx => ?_, h2, h3, h4, fun u hu x hx => h5 u (List.mem_cons_of_mem _ hu) x hx⟩
   rcases List.mem_append.1 hx with hx | hx
   ·exact h1 x hx
   ·exact h5 z (List.mem_cons_self ..) x hx
/-! ### ways -/
mutual
def waysB : List MoveZ → BrZ → List (List MoveZ)
 | pre, .mk m _ ks => (pre ++ [m]) :: waysL (pre ++ [m]) ks
def waysL : List MoveZ → List BrZ → List (List MoveZ)
 | _, [] => []
 | pre, b :: l => waysB pre b ++ waysL pre l
end
theorem waysB_eq (pre : List MoveZ) (b : BrZ) : waysB pre b = (pre ++ [b.mv]) :: waysL (pre ++ [b.mv]) b.ks := by cases b; rw [waysB]; rfl
theorem waysL_app (pre : List MoveZ) : ∀ (p l : List BrZ), waysL pre (p ++ l) = waysL pre p ++ waysL pre l
 | [], l => by rw [waysL]; rfl
 | z :: p, l => by show waysL pre (z :: (p ++ l)) = _; rw [waysL, waysL, waysL_app pre p l, List.append_assoc]
mutual
theorem flatTB_len : ∀ (b : BrZ) (pre : List MoveZ) (p : Int) (out : List NodeZ), (flatB b p out).length = out.length + (waysB pre b).length
 | .mk m c ks, pre, p, out => by
  rw [flatB, flatT_len ks (pre ++ [m]), waysB]
  simp only [List.length_append, List.length_cons, List.length_nil]
  omega
theorem flatT_len : ∀ (l : List BrZ) (pre : List MoveZ) (p : Int) (out : List NodeZ), (flatL l p out).length = out.length + (waysL pre l).length
 | [], pre, p, out => by rw [flatL, waysL]; rfl
 | b :: l, pre, p, out => by
  rw [flatL, flatT_len l pre, flatTB_len b pre, waysL, List.length_append]
  omega
end
/-- either the move is there, or not. -/
theorem put_split (m : MoveZ) (a : List BrZ) : (∀ z ∈ a, z.mv ≠ m) ∨ ∃ p x l, a = p ++ x :: l ∧ x.mv = m ∧ ∀ z ∈ p, z.mv ≠ m := by
 induction a with
 | nil => exact .inl (fun z hz => by cases hz)
 | cons z a ih =>
  by_cases hz : z.mv = m
  ·exact .inr ⟨[], z, a, rfl, hz, fun u hu => by cases hu⟩
  ·rcases ih with h | ⟨p, x, l, rfl, hx, hp⟩
   ·exact .inl (fun u hu => by rcases List.mem_cons.1 hu with rfl | hu; exact hz; exact h u hu)
   ·exact .inr ⟨z :: p, x, l, rfl, hx, fun u hu => by rcases List.mem_cons.1 hu with rfl | hu; exact hz; exact hp u hu⟩
mutual
theorem ways_mergeB : ∀ (y x : BrZ) (pre w : List MoveZ), x.mv = y.mv → (w ∈ waysB pre (mergeB x y) ↔ w ∈ waysB pre x ∨ w ∈ waysB pre y)
 | .mk m c ks, x, pre, w, hx => by
  have hm : x.mv = m := hx
  rw [mergeB, waysB, waysB_eq pre x, waysB, List.mem_cons, List.mem_cons, List.mem_cons, ways_mergeL ks x.ks (pre ++ [x.mv]) w, hm]
  constructor
  ·rintro (h | h | h)
   ·exact .inl (.inl h)
   ·exact .inl (.inr h)
   ·exact .inr (.inr h)
  ·rintro ((h | h) | (h | h))
   ·exact .inl h
   ·exact .inr (.inl h)
   ·exact .inl h
   ·exact .inr (.inr h)
theorem ways_mergeL : ∀ (b a : List BrZ) (pre w : List MoveZ), (w ∈ waysL pre (mergeL a b) ↔ w ∈ waysL pre a ∨ w ∈ waysL pre b)
 | [], a, pre, w => by rw [mergeL, waysL]; simp
 | y :: l, a, pre, w => by
  rw [mergeL, ways_mergeL l _ pre w, waysL, List.mem_append]
  rcases put_split y.mv a with h | ⟨p, x, r, rfl, hx, hp⟩
  ·rw [putW_miss y.mv y _ a h, waysL_app, waysL, waysL, List.append_nil, List.mem_append, or_assoc]
  ·rw [putW_hit y.mv y _ x hx p r hp, waysL_app, waysL_app, waysL, waysL, List.mem_append, List.mem_append, List.mem_append, List.mem_append, ways_mergeB y x pre w hx]
   constructor
   ·rintro ((h | (h | h) | h) | h)
    ·exact .inl (.inl h)
    ·exact .inl (.inr (.inl h))
    ·exact .inr (.inl h)
    ·exact .inl (.inr (.inr h))
    ·exact .inr (.inr h)
   ·rintro ((h | h | h) | h | h)
    ·exact .inl (.inl h)
    ·exact .inl (.inr (.inl (.inl h)))
    ·exact .inl (.inr (.inr h))
    ·exact .inl (.inr (.inl (.inr h)))
    ·exact .inr h
end
mutual
theorem waysB_pre : ∀ (b : BrZ) (pre w : List MoveZ), w ∈ waysB pre b → ∃ t, w = pre ++ b.mv :: t
 | .mk m c ks, pre, w, h => by
  rw [waysB, List.mem_cons] at h
  rcases h with rfl | h
  ·exact ⟨[], rfl⟩
  ·obtain ⟨x, -, t, rfl⟩ := waysL_pre ks (pre ++ [m]) w h
   exact ⟨x.mv :: t, by simp [BrZ.mv]⟩
theorem waysL_pre : ∀ (l : List BrZ) (pre w : List MoveZ), w ∈ waysL pre l → ∃ x ∈ l, ∃ t, w = pre ++ x.mv :: t
 | [], pre, w, h => by rw [waysL] at h; cases h
 | b :: l, pre, w, h => by
  rw [waysL, List.mem_append] at h
  rcases h with h | h
  ·obtain ⟨t, ht⟩ := waysB_pre b pre w h
   exact ⟨b, List.mem_cons_self .., t, ht⟩
  ·obtain ⟨x, hx, t, ht⟩ := waysL_pre l pre w h
   exact ⟨x, List.mem_cons_of_mem _ hx, t, ht⟩
end
mutual
theorem waysB_nodup : ∀ (b : BrZ) (pre : List MoveZ), distB b → (waysB pre b).Nodup
 | .mk m c ks, pre, h => by
  rw [waysB, List.nodup_cons]
  refine ⟨fun hc => ?_, waysL_nodup ks _ (by rwa [distB] at h)⟩
  obtain ⟨x, -, t, ht⟩ := waysL_pre ks _ _ hc
  have := congrArg List.length ht
  simp at this
theorem waysL_nodup : ∀ (l : List BrZ) (pre : List MoveZ), distL l → (waysL pre l).Nodup
 | [], pre, _ => by rw [waysL]; exact List.nodup_nil
 | b :: l, pre, h => by
  rw [distL] at h
  rw [waysL, List.nodup_append]
  refine ⟨waysB_nodup b pre h.2.1, waysL_nodup l pre h.2.2, fun u hu v hv e => ?_⟩
  subst e
  obtain ⟨t, ht⟩ := waysB_pre b pre u hu
  obtain ⟨x, hx, s, hs⟩ := waysL_pre l pre u hv
  rw [ht] at hs
  have := List.append_cancel_left hs
  simp only [List.cons.injEq] at this
  exact h.1 x hx this.1.symm
end
mutual
theorem dist_mergeB : ∀ (y x : BrZ), distB x → distB y → distB (mergeB x y)
 | .mk m c ks, x, hx, hy => by
  rw [mergeB, distB]
  rw [distB] at hy
  exact dist_mergeL ks x.ks (by cases x; rwa [distB] at hx) hy
theorem dist_mergeL : ∀ (b a : List BrZ), distL a → distL b → distL (mergeL a b)
 | [], a, ha, _ => by rw [mergeL]; exact ha
 | y :: l, a, ha, hb => by
  rw [distL] at hb
  rw [mergeL]
  refine dist_mergeL l _ ?_ hb.2.2
  rcases put_split y.mv a with h | ⟨p, x, r, rfl, hx, hp⟩
  ·rw [putW_miss y.mv y _ a h, distL_app]
   refine ⟨ha, ⟨fun z hz => (by cases hz), hb.2.1, by rw [distL]; trivial⟩, fun z hz u hu => ?_⟩
   simp only [List.mem_singleton] at hu
   subst hu
   exact fun e => h z hz e.symm
  ·rw [putW_hit y.mv y _ x hx p r hp]
   obtain ⟨h1, h2, h3⟩ := (distL_app p (x :: r)).1 ha
   rw [distL] at h2
   have hmv : (mergeB x y).mv = x.mv := by cases y; rw [mergeB]; rfl
   refine (distL_app p _).2 ⟨h1, ⟨fun z hz => by rw [hmv]; exact h2.1 z hz, dist_mergeB y x h2.2.1 hb.2.1, h2.2.2⟩, fun z hz u hu => ?_⟩
   rcases List.mem_cons.1 hu with rfl | hu
   ·rw [hmv]; exact h3 z hz x (List.mem_cons_self ..)
   ·exact h3 z hz u (List.mem_cons_of_mem _ hu)
end
theorem nodup_len_le {α : Type} [DecidableEq α] : ∀ {a b : List α}, a.Nodup → (∀ x ∈ a, x ∈ b) → a.length ≤ b.length
 | [], b, _, _ => Nat.zero_le _
 | x :: a, b, h, hs => by
  rw [List.nodup_cons] at h
  have hx := hs x (List.mem_cons_self ..)
  have := nodup_len_le (a := a) (b := b.erase x) h.2 (fun y hy => (List.mem_erase_of_ne (fun (e : y = x) => h.1 (by rw [← e]; exact hy))).2 (hs y (List.mem_cons_of_mem _ hy)))
  have hl := List.length_erase_of_mem hx
  have hp := List.length_pos_of_mem hx
  simp only [List.length_cons]
  omega
end Go.Proofs.YtnieifdogllbfaaGreat
namespace Go.Proofs.YtnieifdogllbfaaGreat
open Go.ChangeShapes Go.WideShapes Go.ChangeAt Go.RowKit
set_option linter.unusedVariables false
theorem nd_low (ns r : List NodeZ) (k : Nat) (h : k < ns.length) : ndAt (ns ++ r) k = ndAt ns k := by
 unfold ndAt; rw [List.getD_eq_getElem?_getD, List.getD_eq_getElem?_getD, List.getElem?_append_left h]
theorem nd_new (ns : List NodeZ) (x : NodeZ) : ndAt (ns ++ [x]) ns.length = x := by
 unfold ndAt; rw [List.getD_eq_getElem?_getD, List.getElem?_append_right (Nat.le_refl _), Nat.sub_self]; rfl
/-- what comes later does not matter for the way up. -/
theorem up_app (ns r : List NodeZ) (hb : Back ns ns.length) : ∀ (f : Nat) (n : Int), n < ns.length → upZ (ns ++ r) f n = upZ ns f n
 | 0, _, _ => rfl
 | f + 1, n, h => by
  unfold upZ
  split
  ·rfl
  ·rename_i h0
   have hk : n.toNat < ns.length := by omega
   rw [nd_low ns r _ hk]
   have := hb _ hk
   rw [up_app ns r hb f _ (by omega)]
theorem upL_app (ns r : List NodeZ) (hb : Back ns ns.length) (n : Int) (h : n < ns.length) : upL (ns ++ r) n = upL ns n := by
 unfold upL; exact up_app ns r hb _ n h
theorem onB_app (ns r : List NodeZ) (hb : Back ns ns.length) (q n : Int) (h : n < ns.length) : onB (ns ++ r) q n = onB ns q n := by
 unfold onB; rw [upL_app ns r hb n h]
theorem upZ_lt {ns : List NodeZ} {N : Nat} (hb : Back ns N) : ∀ (f : Nat) (n : Int) (k : Nat), n < N → k ∈ upZ ns f n → k < N
 | 0, _, _, _, h => by cases h
 | f + 1, n, k, hn, h => by
  unfold upZ at h
  split at h
  ·cases h
  ·rcases List.mem_cons.1 h with rfl | h
   ·omega
   ·have := hb n.toNat (by omega)
    exact upZ_lt hb f _ k (by omega) h
theorem way_app (ns r : List NodeZ) (hb : Back ns ns.length) (n : Int) (h : n < ns.length) : wayI (ns ++ r) n = wayI ns n := by
 unfold wayI
 rw [upL_app ns r hb n h]
 congr 1
 refine List.map_congr_left fun k hk => ?_
 rw [nd_low ns r k (upZ_lt hb _ n k h hk)]
/-- above one who is on the way is on the way. -/
theorem on_trans {ns : List NodeZ} {N : Nat} (hb : Back ns N) (hl : ∀ k, k < N → -1 ≤ (ndAt ns k).parent) (k : Nat) : ∀ (f : Nat) (n : Int), n < N → n.toNat < f → k ∈ upZ ns f n → onB ns (ndAt ns k).parent n = true
 | 0, _, _, hf, _ => absurd hf (Nat.not_lt_zero _)
 | f + 1, n, hn, hf, h => by
  unfold upZ at h
  split at h
  ·cases h
  rename_i h0
  have hp := hb n.toNat (by omega)
  have hc := up_cons hb n.toNat (by omega)
  rw [Int.toNat_of_nonneg (by omega)] at hc
  rcases List.mem_cons.1 h with rfl | h
  ·by_cases hz : (ndAt ns n.toNat).parent < 0
   ·have e : onB ns (ndAt ns n.toNat).parent n = ((upL ns n).any (fun (k : Nat) => (k : Int) == (ndAt ns n.toNat).parent) || (ndAt ns n.toNat).parent == -1) := rfl
    by_cases h1 : (ndAt ns n.toNat).parent = -1
    ·rw [e, h1]; simp
    ·have := hl n.toNat (by omega); omega
   ·unfold onB
    rw [Bool.or_eq_true, List.any_eq_true]
    refine .inl ⟨(ndAt ns n.toNat).parent.toNat, ?_, by simp; omega⟩
    rw [hc]
    refine List.mem_cons_of_mem _ ?_
    have hc2 := up_cons hb (ndAt ns n.toNat).parent.toNat (by omega)
    rw [Int.toNat_of_nonneg (by omega)] at hc2
    rw [hc2]
    exact List.mem_cons_self ..
  ·have ih := on_trans hb hl k f _ (by omega) (by
    by_cases hz : (ndAt ns n.toNat).parent < 0
    ·rw [upZ_neg ns _ hz] at h; cases h
    ·omega) h
   unfold onB at ih ⊢
   rw [Bool.or_eq_true, List.any_eq_true] at ih ⊢
   rcases ih with ⟨q, hq, he⟩ | he
   ·exact .inl ⟨q, by rw [hc]; exact List.mem_cons_of_mem _ hq, he⟩
   ·exact .inr he
/-- nodes that are trees laid flat; ws: their ways. -/
structure FlatOK (ns : List NodeZ) (ws : List (List MoveZ)) : Prop where
 len : ns.length = ws.length
 back : Back ns ns.length
 low : ∀ k, k < ns.length → -1 ≤ (ndAt ns k).parent
 on : ∀ k, k < ns.length → onB ns (ndAt ns k).parent ((k : Int) - 1) = true
 way : ∀ k, k < ns.length → wayI ns (k : Int) = ws.getD k []
theorem FlatOK.nil : FlatOK [] [] := ⟨rfl, fun k h => absurd h (Nat.not_lt_zero _), fun k h => absurd h (Nat.not_lt_zero _), fun k h => absurd h (Nat.not_lt_zero _), fun k h => absurd h (Nat.not_lt_zero _)⟩
theorem getD_lo {α : Type} (l r : List α) (d : α) (k : Nat) (h : k < l.length) : (l ++ r).getD k d = l.getD k d := by
 rw [List.getD_eq_getElem?_getD, List.getD_eq_getElem?_getD, List.getElem?_append_left h]
theorem getD_new {α : Type} (l : List α) (x d : α) : (l ++ [x]).getD l.length d = x := by
 rw [List.getD_eq_getElem?_getD, List.getElem?_append_right (Nat.le_refl _), Nat.sub_self]; rfl
/-- where the next node goes. -/
def AtP (out : List NodeZ) (p : Int) (pre : List MoveZ) : Prop := -1 ≤ p ∧ p < out.length ∧ wayI out p = pre ∧ onB out p ((out.length : Int) - 1) = true
theorem FlatOK.snoc {out : List NodeZ} {ws : List (List MoveZ)} (h : FlatOK out ws) {p : Int} {pre : List MoveZ} (hp : AtP out p pre) (m : MoveZ) (c : ByteArray) : FlatOK (out ++ [⟨p, m, c⟩]) (ws ++ [pre ++ [m]]) := by
 obtain ⟨p1, p2, p3, p4⟩ := hp
 have hb : Back (out ++ [(⟨p, m, c⟩ : NodeZ)]) (out ++ [(⟨p, m, c⟩ : NodeZ)]).length := by
  intro k hk
  rw [List.length_append] at hk
  by_cases e : k < out.length
  ·rw [nd_low out _ k e]; exact h.back k e
  ·have ek : k = out.length := by have : k < out.length + 1 := hk; omega
   subst ek
   rw [nd_new]; exact p2
 have cs : ∀ k, k < (out ++ [(⟨p, m, c⟩ : NodeZ)]).length → k < out.length ∨ k = out.length := fun k hk => by rw [List.length_append] at hk; have : k < out.length + 1 := hk; omega
 refine ⟨by rw [List.length_append, List.length_append, h.len]; rfl, hb, fun k hk => ?_, fun k hk => ?_, fun k hk => ?_⟩
 ·rcases cs k hk with e | rfl
  ·rw [nd_low out _ k e]; exact h.low k e
  ·rw [nd_new]; exact p1
 ·rcases cs k hk with e | rfl
  ·rw [nd_low out _ k e, onB_app out _ h.back _ _ (by omega)]; exact h.on k e
  ·rw [nd_new, onB_app out _ h.back _ _ (by omega)]; exact p4
 ·rcases cs k hk with e | rfl
  ·rw [way_app out _ h.back _ (by omega), getD_lo ws _ _ k (by rw [← h.len]; exact e)]; exact h.way k e
  ·rw [way_snoc hb out.length (by rw [List.length_append]; show out.length < out.length + 1; omega), nd_new, way_app out _ h.back _ p2, p3, h.len, getD_new]
mutual
theorem flatL_app : ∀ (l : List BrZ) (p : Int) (out : List NodeZ), ∃ r, flatL l p out = out ++ r
 | [], p, out => ⟨[], by rw [flatL, List.append_nil]⟩
 | b :: l, p, out => by
  obtain ⟨r1, h1⟩ := flatB_app b p out
  obtain ⟨r2, h2⟩ := flatL_app l p (out ++ r1)
  exact ⟨r1 ++ r2, by rw [flatL, h1, h2, List.append_assoc]⟩
theorem flatB_app : ∀ (b : BrZ) (p : Int) (out : List NodeZ), ∃ r, flatB b p out = out ++ r
 | .mk m c ks, p, out => by
  obtain ⟨r, h⟩ := flatL_app ks (out.length : Int) (out ++ [⟨p, m, c⟩])
  exact ⟨[⟨p, m, c⟩] ++ r, by rw [flatB, h, List.append_assoc]⟩
end
mutual
theorem br_indB {PB : BrZ → Prop} {PL : List BrZ → Prop} (h1 : ∀ m c ks, PL ks → PB (.mk m c ks)) (h2 : PL []) (h3 : ∀ b l, PB b → PL l → PL (b :: l)) : ∀ b, PB b
 | .mk m c ks => h1 m c ks (br_indL h1 h2 h3 ks)
theorem br_indL {PB : BrZ → Prop} {PL : List BrZ → Prop} (h1 : ∀ m c ks, PL ks → PB (.mk m c ks)) (h2 : PL []) (h3 : ∀ b l, PB b → PL l → PL (b :: l)) : ∀ l, PL l
 | [] => h2
 | b :: l => h3 b l (br_indB h1 h2 h3 b) (br_indL h1 h2 h3 l)
end
def FOKB (b : BrZ) : Prop := ∀ (p : Int) (pre : List MoveZ) (out : List NodeZ) (ws : List (List MoveZ)), FlatOK out ws → AtP out p pre → FlatOK (flatB b p out) (ws ++ waysB pre b) ∧ AtP (flatB b p out) p pre
def FOKL (l : List BrZ) : Prop := ∀ (p : Int) (pre : List MoveZ) (out : List NodeZ) (ws : List (List MoveZ)), FlatOK out ws → AtP out p pre → FlatOK (flatL l p out) (ws ++ waysL pre l) ∧ AtP (flatL l p out) p pre
theorem fok_mk (m : MoveZ) (c : ByteArray) (ks : List BrZ) (ih : FOKL ks) : FOKB (.mk m c ks) := by
 intro p pre out ws h hp
 have h1 := h.snoc hp m c
 have hl : (out ++ [(⟨p, m, c⟩ : NodeZ)]).length = out.length + 1 := by rw [List.length_append]; rfl
 have hw : wayI (out ++ [⟨p, m, c⟩]) (out.length : Int) = pre ++ [m] := by rw [h1.way out.length (by omega), h.len, getD_new]
 have hon : onB (out ++ [⟨p, m, c⟩]) (out.length : Int) (((out ++ [(⟨p, m, c⟩ : NodeZ)]).length : Int) - 1) = true := by
  rw [hl, show ((out.length + 1 : Nat) : Int) - 1 = (out.length : Int) by omega]
  have hc := up_cons h1.back out.length (by omega)
  unfold onB
  rw [hc, Bool.or_eq_true, List.any_eq_true]
  exact .inl ⟨out.length, List.mem_cons_self .., beq_self_eq_true _⟩
 have hat : AtP (out ++ [⟨p, m, c⟩]) (out.length : Int) (pre ++ [m]) := ⟨by omega, by omega, hw, hon⟩
 have hab := ih (out.length : Int) (pre ++ [m]) (out ++ [⟨p, m, c⟩]) _ h1 hat
 obtain ⟨r, hr⟩ := flatL_app ks (out.length : Int) (out ++ [⟨p, m, c⟩])
 rw [flatB, waysB]
 rw [List.append_assoc] at hab
 have hlow : ∀ k, k < out.length + 1 → ndAt (flatL ks (out.length : Int) (out ++ [⟨p, m, c⟩])) k = ndAt (out ++ [⟨p, m, c⟩]) k := fun k hk => by rw [hr, nd_low _ _ k (by omega)]
 have hway : wayI (flatL ks (out.length : Int) (out ++ [⟨p, m, c⟩])) p = wayI out p := by rw [hr, way_app _ _ h1.back _ (by have := hp.2.1; omega), way_app out _ h.back _ hp.2.1]
 generalize flatL ks (out.length : Int) (out ++ [⟨p, m, c⟩]) = res at *
 obtain ⟨a, b1, b2, b3, b4⟩ := hab
 refine ⟨a, hp.1, ?_, hway.trans hp.2.2.1, ?_⟩
 ·have := hp.2.1; omega
 ·unfold onB at b4
  rw [Bool.or_eq_true, List.any_eq_true] at b4
  rcases b4 with ⟨k, hk, he⟩ | he
  ·simp only [beq_iff_eq] at he
   have ek : k = out.length := by omega
   subst ek
   have ht := on_trans a.back a.low out.length _ _ (by omega) (by omega) hk
   have hn : (ndAt res out.length).parent = p := by rw [hlow _ (by omega), nd_new]
   rwa [hn] at ht
  ·simp only [beq_iff_eq] at he; omega
theorem fok_cons (b : BrZ) (l : List BrZ) (h1 : FOKB b) (h2 : FOKL l) : FOKL (b :: l) := by
 intro p pre out ws h hp
 obtain ⟨a1, a2⟩ := h1 p pre out ws h hp
 obtain ⟨b1, b2⟩ := h2 p pre _ _ a1 a2
 rw [flatL, waysL, ← List.append_assoc]
 exact ⟨b1, b2⟩
theorem flatL_ok : ∀ l, FOKL l := br_indL fok_mk (fun p pre out ws h hp => by rw [flatL, waysL, List.append_nil]; exact ⟨h, hp⟩) fok_cons
/-- trees laid flat. -/
theorem flat_ok (l : List BrZ) : FlatOK (flatL l (-1) []) (waysL [] l) := by
 have := (flatL_ok l (-1) [] [] [] .nil ⟨by decide, by decide, way_neg _ _ (by decide), by unfold onB; simp⟩).1
 rwa [List.nil_append] at this
end Go.Proofs.YtnieifdogllbfaaGreat
namespace Go.Proofs.YtnieifdogllbfaaGreat
open Go.ChangeShapes Go.WideShapes Go.ChangeAt Go.RowKit
set_option linter.unusedVariables false
/-- the blocks from base on are as they were. -/
structure Keep (base : Nat) (w w' : World) : Prop where
 size : w.heap.size ≤ w'.heap.size
 block : ∀ k, base ≤ k → k < w.heap.size → w'.heap[k]? = w.heap[k]?
theorem Keep.refl (base : Nat) (w : World) : Keep base w w := ⟨Nat.le_refl _, fun _ _ _ => rfl⟩
theorem Keep.trans {base : Nat} {a b c : World} (h : Keep base a b) (k : Keep base b c) : Keep base a c :=
 ⟨Nat.le_trans h.size k.size, fun i h1 h2 => (k.block i h1 (Nat.lt_of_lt_of_le h2 h.size)).trans (h.block i h1 h2)⟩
theorem Keep.mono {base base' : Nat} {w w' : World} (h : Keep base w w') (hb : base ≤ base') : Keep base' w w' := ⟨h.size, fun k h1 h2 => h.block k (Nat.le_trans hb h1) h2⟩
theorem Keep.set {base : Nat} {a w : World} (h : Keep base a w) {p : Addr} (hp : p.block < base) (u : Value) : Keep base a (w.setCell p u) :=
 ⟨by simpa using h.size, fun k h1 h2 => (Below.heap_setCell w p u k (by omega)).trans (h.block k h1 h2)⟩
theorem own_keep {w w' : World} {base n sz : Nat} {e : TypeId} {v : Value} {xs : List Value} (h : w.ownsRow base e sz v n xs) (hk : Keep base w w') : w'.ownsRow base e sz v n xs := by
 refine ⟨h.1, ?_⟩
 rcases h.2 with h0 | ⟨g, c, cur, hv, hg, hbk, r⟩
 ·exact .inl h0
 ·exact .inr ⟨g, c, cur, hv, hg, by
   have hl := h.lt g (by rw [hv]; rfl)
   rw [hk.block g hl.1 hl.2]; exact hbk, r⟩
mutual
/-- a branch in memory, all of it from base on. -/
def BrAt (q : Nat → Prop) (tb te : TypeId) (base : Nat) (w : World) : BrZ → Value → Prop
 | .mk m c ks, v => ∃ g kv vs, v = .pointer (some ⟨g, 0, none⟩) ∧ base ≤ g ∧ Box w g [.int .i64 m.src, .int .i64 m.dst, .int .i64 m.piece, .string c, kv] tb ∧ c.size ≤ maxLen ∧ w.ownsRow base te 1 kv vs.length vs ∧ (q g ∧ ∀ k, kv.ownBlock = some k → q k) ∧ BrsAt q tb te base w ks vs
def BrsAt (q : Nat → Prop) (tb te : TypeId) (base : Nat) (w : World) : List BrZ → List Value → Prop
 | [], vs => vs = []
 | b :: l, vs => ∃ v vt, vs = v :: vt ∧ BrAt q tb te base w b v ∧ BrsAt q tb te base w l vt
end
variable {q : Nat → Prop} {tb te : TypeId}
theorem brs_len : ∀ {base : Nat} {w : World} (l : List BrZ) (vs : List Value), BrsAt q tb te base w l vs → vs.length = l.length
 | _, _, [], vs, h => by rw [BrsAt] at h; subst h; rfl
 | _, _, b :: l, vs, h => by
  rw [BrsAt] at h
  obtain ⟨v, vt, rfl, -, h⟩ := h
  rw [List.length_cons, List.length_cons, brs_len l vt h]
theorem own_of_block {w w' : World} {base n sz : Nat} {e : TypeId} {v : Value} {xs : List Value} (h : w.ownsRow base e sz v n xs) (hk : ∀ g, v.ownBlock = some g → w'.heap[g]? = w.heap[g]?) : w'.ownsRow base e sz v n xs := by
 refine ⟨h.1, ?_⟩
 rcases h.2 with h0 | ⟨g, c, cur, hv, hg, hbk, r⟩
 ·exact .inl h0
 ·exact .inr ⟨g, c, cur, hv, hg, by rw [hk g (by rw [hv]; rfl)]; exact hbk, r⟩
theorem brs_move {q' : Nat → Prop} {base : Nat} {w w' : World} (hm : ∀ g, base ≤ g → g < w.heap.size → q g → w'.heap[g]? = w.heap[g]? ∧ q' g) : ∀ (l : List BrZ) (vs : List Value), BrsAt q tb te base w l vs → BrsAt q' tb te base w' l vs := by
 refine br_indL (PB := fun b => ∀ v, BrAt q tb te base w b v → BrAt q' tb te base w' b v) (PL := fun l => ∀ vs, BrsAt q tb te base w l vs → BrsAt q' tb te base w' l vs) ?_ ?_ ?_
 ·intro m c ks ih v h
  rw [BrAt] at h ⊢
  obtain ⟨g, kv, vs, rfl, hg, hb, hc, ho, hq, hs⟩ := h
  have h1 := hm g hg hb.lt hq.1
  have h2 : ∀ k, kv.ownBlock = some k → w'.heap[k]? = w.heap[k]? ∧ q' k := fun k hk => hm k (ho.lt k hk).1 (ho.lt k hk).2 (hq.2 k hk)
  exact ⟨g, kv, vs, rfl, hg, h1.1.trans hb, hc, own_of_block ho (fun k hk => (h2 k hk).1), ⟨h1.2, fun k hk => (h2 k hk).2⟩, ih vs hs⟩
 ·intro vs h; rw [BrsAt] at h ⊢; exact h
 ·intro b l h1 h2 vs h
  rw [BrsAt] at h ⊢
  obtain ⟨v, vt, rfl, h3, h4⟩ := h
  exact ⟨v, vt, rfl, h1 v h3, h2 vt h4⟩
theorem brs_app {base : Nat} {w : World} : ∀ (a b : List BrZ) (va vb : List Value), BrsAt q tb te base w a va → BrsAt q tb te base w b vb → BrsAt q tb te base w (a ++ b) (va ++ vb)
 | [], b, va, vb, h1, h2 => by rw [BrsAt] at h1; subst h1; exact h2
 | x :: a, b, va, vb, h1, h2 => by
  rw [BrsAt] at h1
  obtain ⟨v, vt, rfl, h3, h4⟩ := h1
  show BrsAt q tb te base w (x :: (a ++ b)) (v :: (vt ++ vb))
  rw [BrsAt]
  exact ⟨v, vt ++ vb, rfl, h3, brs_app a b vt vb h4 h2⟩
theorem brs_get {base : Nat} {w : World} : ∀ (l : List BrZ) (vs : List Value), BrsAt q tb te base w l vs → ∀ i (h : i < l.length) (h' : i < vs.length), BrAt q tb te base w l[i] vs[i]
 | [], vs, _, i, h, _ => absurd h (Nat.not_lt_zero _)
 | b :: l, vs, hb, i, h, h' => by
  rw [BrsAt] at hb
  obtain ⟨v, vt, rfl, h3, h4⟩ := hb
  cases i with
  | zero => exact h3
  | succ i => exact brs_get l vt h4 i (by simpa using h) (by simpa using h')
end Go.Proofs.YtnieifdogllbfaaGreat
namespace Go.Proofs.YtnieifdogllbfaaGreat
open Go.ChangeShapes Go.WideShapes Go.ChangeAt Go.RowKit
set_option linter.unusedVariables false
mutual
def cokB : BrZ → Prop
 | .mk _ c ks => cmtErr c = 0 ∧ cokL ks
def cokL : List BrZ → Prop
 | [] => True
 | b :: l => cokB b ∧ cokL l
end
def CFB (b : BrZ) : Prop := cokB b → ∀ (p : Int) (out : List NodeZ), ∀ x ∈ flatB b p out, x ∈ out ∨ cmtErr x.comment = 0
def CFL (l : List BrZ) : Prop := cokL l → ∀ (p : Int) (out : List NodeZ), ∀ x ∈ flatL l p out, x ∈ out ∨ cmtErr x.comment = 0
theorem cok_flat : ∀ l, CFL l := br_indL (PB := CFB)
 (fun m c ks ih h p out x hx => by
  rw [cokB] at h
  rw [flatB] at hx
  rcases ih h.2 _ _ x hx with h1 | h1
  ·rcases List.mem_append.1 h1 with h2 | h2
   ·exact .inl h2
   ·rw [List.mem_singleton] at h2
    subst h2
    exact .inr h.1
  ·exact .inr h1)
 (fun _ p out x hx => by rw [flatL] at hx; exact .inl hx)
 (fun b l h1 h2 h p out x hx => by
  rw [cokL] at h
  rw [flatL] at hx
  rcases h2 h.2 p _ x hx with h3 | h3
  ·exact h1 h.1 p out x h3
  ·exact .inr h3)
theorem cokL_app : ∀ (p l : List BrZ), cokL (p ++ l) ↔ cokL p ∧ cokL l
 | [], l => by rw [List.nil_append, cokL]; simp
 | z :: p, l => by show cokL (z :: (p ++ l)) ↔ _; rw [cokL, cokL, cokL_app p l, and_assoc]
theorem cokB_iff (x : BrZ) : cokB x ↔ cmtErr x.cm = 0 ∧ cokL x.ks := by cases x; rw [cokB]; rfl
def CMB (y : BrZ) : Prop := ∀ x, cokB x → cokB y → cokB (mergeB x y)
def CML (b : List BrZ) : Prop := ∀ a, cokL a → cokL b → cokL (mergeL a b)
theorem cok_merge : ∀ b, CML b := br_indL (PB := CMB)
 (fun m c ks ih x hx hy => by
  rw [cokB_iff] at hx
  rw [cokB] at hy
  rw [mergeB, cokB]
  refine ⟨?_, ih _ hx.2 hy.2⟩
  split
  ·exact hy.1
  ·exact hx.1)
 (fun a ha _ => by rw [mergeL]; exact ha)
 (fun y l h1 h2 a ha hb => by
  rw [cokL] at hb
  rw [mergeL]
  refine h2 _ ?_ hb.2
  rcases put_split y.mv a with h | ⟨p, x, r, rfl, hx, hp⟩
  ·rw [putW_miss y.mv y _ a h, cokL_app]
   exact ⟨ha, by rw [cokL]; exact ⟨hb.1, by rw [cokL]; trivial⟩⟩
  ·rw [putW_hit y.mv y _ x hx p r hp, cokL_app, cokL]
   rw [cokL_app, cokL] at ha
   exact ⟨ha.1, h1 x ha.2.1 hb.1, ha.2.2⟩)
/-- what a record's trees are. -/
structure TreesOK (R : RulesZ) (t : List BrZ) : Prop where
 dist : distL t
 run : ∀ w ∈ waysL [] t, runErr R w = 0
 cok : cokL t
theorem TreesOK.merge {R : RulesZ} {a b : List BrZ} (ha : TreesOK R a) (hb : TreesOK R b) : TreesOK R (mergeL a b) :=
 ⟨dist_mergeL b a ha.dist hb.dist, fun w hw => by
  rcases (ways_mergeL b a [] w).1 hw with h | h
  ·exact ha.run w h
  ·exact hb.run w h, cok_merge b a ha.cok hb.cok⟩
theorem nd_get (ns : List NodeZ) (k : Nat) (h : k < ns.length) : ndAt ns k = ns[k] := by
 unfold ndAt; rw [List.getD_eq_getElem?_getD, List.getElem?_eq_getElem h]; rfl
/-- at each node the check says nothing, or that it is too deep. -/
theorem node_err_eq {R : RulesZ} {t : List BrZ} (h : TreesOK R t) (ds : List Int) (i : Nat) (hi : i < (flatL t (-1) []).length) : nodeE R (flatL t (-1) []) ds i = if 20 < depE (flatL t (-1) []) ds i then 2 else 0 := by
 have hf := flat_ok t
 have hc := cok_flat t h.cok (-1) []
 have hn := waysL_nodup t [] h.dist
 have hr := h.run
 generalize flatL t (-1) [] = ns at *
 generalize waysL [] t = ws at *
 have hil : i < ws.length := by rw [← hf.len]; exact hi
 have e1 : cmtErr (ndAt ns i).comment = 0 := by
  rw [nd_get ns i hi]
  rcases hc _ (List.getElem_mem hi) with h | h
  ·cases h
  ·exact h
 have e2 : ¬ ((i : Int) ≤ (ndAt ns i).parent ∨ onB ns (ndAt ns i).parent ((i : Int) - 1) = false) := by
  have := hf.back i hi
  rw [hf.on i hi]
  simp
  omega
 have hwi : wayI ns (i : Int) = ws[i] := by rw [hf.way i hi, List.getD_eq_getElem?_getD, List.getElem?_eq_getElem hil]; rfl
 have e3 : twinB ns i = false := by
  cases hb : twinB ns i
  ·rfl
  ·unfold twinB at hb
   rw [List.any_eq_true] at hb
   obtain ⟨y, hy, he⟩ := hb
   simp only [Bool.and_eq_true, beq_iff_eq] at he
   obtain ⟨j, hj, rfl⟩ := List.mem_take_iff_getElem.1 hy
   have hji : j < i := by omega
   have hjn : j < ns.length := by omega
   have hjw : wayI ns (j : Int) = ws[j]'(by rw [← hf.len]; exact hjn) := by rw [hf.way j hjn, List.getD_eq_getElem?_getD, List.getElem?_eq_getElem (by rw [← hf.len]; exact hjn)]; rfl
   have hw1 := way_snoc hf.back j hjn
   have hw2 := way_snoc hf.back i hi
   rw [nd_get ns j hjn, he.1, he.2, ← hw2, hwi, hjw] at hw1
   exact absurd hw1 (List.pairwise_iff_getElem.1 hn j i (by rw [← hf.len]; exact hjn) hil hji)
 have e4 : runErr R (wayI ns i) = 0 := by rw [hwi]; exact hr _ (List.getElem_mem hil)
 unfold nodeE
 rw [if_neg (by simp [e1]), if_neg e2, if_neg (by simp [e3]), if_neg (by simp [e4])]
theorem node_err {R : RulesZ} {t : List BrZ} (h : TreesOK R t) (ds : List Int) (i : Nat) (hi : i < (flatL t (-1) []).length) : nodeE R (flatL t (-1) []) ds i = 0 ∨ nodeE R (flatL t (-1) []) ds i = 2 := by
 rw [node_err_eq h ds i hi]
 split
 ·exact .inr rfl
 ·exact .inl rfl
theorem nodes_err {R : RulesZ} {t : List BrZ} (h : TreesOK R t) : ∀ (m i : Nat) (ds : List Int), i + m = (flatL t (-1) []).length → nodesE R (flatL t (-1) []) m i ds = 0 ∨ nodesE R (flatL t (-1) []) m i ds = 2
 | 0, i, ds, _ => .inl rfl
 | m + 1, i, ds, hm => by
  rw [nodesE]
  rcases node_err h ds i (by omega) with e | e
  ·rw [if_neg (by simp [e])]; exact nodes_err h m (i + 1) _ (by omega)
  ·rw [if_pos (by simp [e])]; exact .inr e
/-- the check of a record whose nodes are such trees: fine, or too large. -/
theorem rec_err {R : RulesZ} {X : RecZ} {t : List BrZ} (h : TreesOK R t) (hr : rulesErr R = 0) (ht : tagsE X.tags = 0) (hs : 0 ≤ X.result ∧ X.result ≤ 3) (hc : cmtErr X.comment = 0) (hx : X.nodes = flatL t (-1) []) : recErr R X = 0 ∨ recErr R X = 2 := by
 unfold recErr
 rw [if_neg (by simp [hr])]
 split
 ·exact .inr rfl
 rw [if_neg (by simp [ht]), if_neg (by omega), if_neg (by simp [hc]), hx]
 exact nodes_err h _ 0 _ (by omega)
/-! ### a record's own trees -/
theorem rec_cmt {R : RulesZ} {X : RecZ} (h : recErr R X = 0) : (∀ i, i < X.nodes.length → cmtErr (ndAt X.nodes i).comment = 0) ∧ tagsE X.tags = 0 ∧ (0 ≤ X.result ∧ X.result ≤ 3) ∧ cmtErr X.comment = 0 ∧ X.tags.length ≤ 10 := by
 obtain ⟨h1, -, h2⟩ := rec_nodes h
 unfold recErr at h
 rw [if_neg (by simp [h1])] at h
 split at h
 ·cases h
 rename_i hl
 split at h
 ·rename_i hc; exact absurd h hc
 rename_i ht
 split at h
 ·cases h
 rename_i hs
 split at h
 ·rename_i hc; exact absurd h hc
 rename_i hc
 refine ⟨fun i hi => ?_, Decidable.byContradiction ht, by omega, Decidable.byContradiction hc, by omega⟩
 obtain ⟨ds, hd⟩ := nodesE_all _ 0 _ h i (Nat.zero_le _) (by omega)
 unfold nodeE at hd
 by_cases e : cmtErr (ndAt X.nodes i).comment ≠ 0
 ·rw [if_pos e] at hd; exact hd
 ·exact Decidable.byContradiction e
theorem kids_mem {ns : List NodeZ} {p : Int} {k : Nat} (h : k ∈ kidsZ ns p) : k < ns.length ∧ (ndAt ns k).parent = p := by
 unfold kidsZ at h
 rw [List.mem_filter, List.mem_range] at h
 exact ⟨h.1, by simpa using h.2⟩
theorem kids_inc (ns : List NodeZ) (p : Int) : (kidsZ ns p).Pairwise (· < ·) := by
 unfold kidsZ
 exact List.Pairwise.filter _ List.pairwise_lt_range
theorem dist_map {ns : List NodeZ} {f : Nat} : ∀ (l : List Nat), l.Pairwise (· < ·) → (∀ j ∈ l, ∀ k ∈ l, j < k → (ndAt ns j).m ≠ (ndAt ns k).m) → (∀ k ∈ l, distL (treeF ns f (k : Int))) → distL (l.map (brOf ns f))
 | [], _, _, _ => by rw [List.map_nil, distL]; trivial
 | k :: l, hp, hm, hd => by
  rw [List.pairwise_cons] at hp
  rw [List.map_cons, distL]
  refine ⟨fun x hx => ?_, by unfold brOf; rw [distB]; exact hd k (List.mem_cons_self ..), dist_map l hp.2 (fun j hj q hq => hm j (List.mem_cons_of_mem _ hj) q (List.mem_cons_of_mem _ hq)) (fun q hq => hd q (List.mem_cons_of_mem _ hq))⟩
  obtain ⟨j, hj, rfl⟩ := List.mem_map.1 hx
  exact fun e => hm k (List.mem_cons_self ..) j (List.mem_cons_of_mem _ hj) (hp.1 j hj) e.symm
theorem dist_tree {R : RulesZ} {ns : List NodeZ} (h : NodesOK R ns ns.length) : ∀ (f : Nat) (p : Int), distL (treeF ns f p)
 | 0, p => by rw [treeF, distL]; trivial
 | f + 1, p => by
  rw [treeF]
  refine dist_map _ (kids_inc ns p) (fun j hj k hk hjk => ?_) (fun k _ => dist_tree h f k)
  exact h.twin k j hjk (kids_mem hk).1 ((kids_mem hj).2.trans (kids_mem hk).2.symm)
theorem cok_map {ns : List NodeZ} {f : Nat} : ∀ (l : List Nat), (∀ k ∈ l, cmtErr (ndAt ns k).comment = 0 ∧ cokL (treeF ns f (k : Int))) → cokL (l.map (brOf ns f))
 | [], _ => by rw [List.map_nil, cokL]; trivial
 | k :: l, h => by
  rw [List.map_cons, cokL]
  exact ⟨by unfold brOf; rw [cokB]; exact h k (List.mem_cons_self ..), cok_map l (fun q hq => h q (List.mem_cons_of_mem _ hq))⟩
theorem cok_tree {ns : List NodeZ} (h : ∀ i, i < ns.length → cmtErr (ndAt ns i).comment = 0) : ∀ (f : Nat) (p : Int), cokL (treeF ns f p)
 | 0, p => by rw [treeF, cokL]; trivial
 | f + 1, p => by
  rw [treeF]
  exact cok_map _ (fun k hk => ⟨h k (kids_mem hk).1, cok_tree h f k⟩)
def trees (X : RecZ) : List BrZ := treeF X.nodes (X.nodes.length + 1) (-1)
theorem trees_ok {R : RulesZ} {X : RecZ} (h : recErr R X = 0) : TreesOK R (trees X) := by
 obtain ⟨-, hn, -⟩ := rec_nodes h
 refine ⟨dist_tree hn _ _, fun w hw => ?_, cok_tree (rec_cmt h).1 _ _⟩
 have hf := flat_ok (trees X)
 have e : flatL (trees X) (-1) [] = X.nodes := flat_rec h
 rw [e] at hf
 obtain ⟨k, hk, rfl⟩ := List.mem_iff_getElem.1 hw
 have hkn : k < X.nodes.length := by rw [hf.len]; exact hk
 have := hf.way k hkn
 rw [List.getD_eq_getElem?_getD, List.getElem?_eq_getElem hk] at this
 have hr := hn.run k hkn
 rw [this] at hr
 exact hr
theorem trees_len {R : RulesZ} {X : RecZ} (h : recErr R X = 0) : (waysL [] (trees X)).length = X.nodes.length := by
 have hf := flat_ok (trees X)
 have e : flatL (trees X) (-1) [] = X.nodes := flat_rec h
 rw [e] at hf
 exact hf.len.symm
end Go.Proofs.YtnieifdogllbfaaGreat
namespace Go.Proofs.YtnieifdogllbfaaGreat
open Go.ChangeShapes Go.WideShapes Go.ChangeAt Go.RowKit
set_option linter.unusedVariables false
theorem ways_map (pre : List MoveZ) (g : Nat → BrZ) : ∀ (l : List Nat) (w : List MoveZ), w ∈ waysL pre (l.map g) ↔ ∃ k ∈ l, w ∈ waysB pre (g k)
 | [], w => by rw [List.map_nil, waysL]; simp
 | k :: l, w => by
  rw [List.map_cons, waysL, List.mem_append, ways_map pre g l w]
  constructor
  ·rintro (h | ⟨q, hq, h⟩)
   ·exact ⟨k, List.mem_cons_self .., h⟩
   ·exact ⟨q, List.mem_cons_of_mem _ hq, h⟩
  ·rintro ⟨q, hq, h⟩
   rcases List.mem_cons.1 hq with rfl | hq
   ·exact .inl h
   ·exact .inr ⟨q, hq, h⟩
end Go.Proofs.YtnieifdogllbfaaGreat

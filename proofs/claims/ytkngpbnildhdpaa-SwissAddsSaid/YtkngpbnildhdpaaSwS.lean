/- The search of pairings (pairer.search) does what srchZ says. -/
import Derived.Test.YtkngpbnildhdpaaSwP
import Derived.Test.YtkngpbnildhdpaaIntsClone
import Derived.Test.YtkngpbnildhdpaaHeldL
import Derived.Test.YtkngpbnildhdpaaPriv0
import Derived.BigQuiet
import Derived.Deep.Cut
import Derived.Deep.QuietTactic
namespace Go.Proofs.Ytkngpbnildhdpaa
open Go.ChangeShapes Go.WideShapes Go.ChangeAt Go.RowKit
set_option linter.unusedVariables false

/-- the blocks that the search writes. -/
def Two (b h : Nat) : Nat → Prop := fun k => k = b ∨ k = h
def BestAt (S : Nat → Prop) (w : World) (vb : Value) (bo : Option (List Int)) : Prop :=
  (bo = none ∧ vb = .slice none 0 0) ∨ ∃ (l : List Int) (g c : Nat), bo = some l ∧ vb = .slice (some ⟨g, 0, none⟩) l.length c ∧ Held S w (fun w' => RdI w' vb l)
theorem BestAt.step {S : Nat → Prop} {w w' : World} {vb : Value} {bo : Option (List Int)} (h : BestAt S w vb bo) (hf : Fr S w w') : BestAt S w' vb bo := by
  rcases h with h | ⟨l, g, c, h1, h2, h3⟩
  · exact .inl h
  · exact .inr ⟨l, g, c, h1, h2, h3.step hf (Shr.refl _ _)⟩
/-- the pairer in memory. -/
structure St (ps : List SwP) (va : Option Addr) (vc b h : Nat) (wth : List Int) (vb : Value) (bst : Option (List Int) × Int) (w : World) : Prop where
  ne : b ≠ h
  box : Box w b [.slice va ps.length vc, .slice (some ⟨h, 0, none⟩) ps.length ps.length, vb, .int .i64 bst.2] 44
  wit : Box w h (ints wth) 3
  rd : Held (Two b h) w (fun w' => RdS w' (.slice va ps.length vc) ps)
  best : BestAt (Two b h) w vb bst.1
theorem St.setW {ps : List SwP} {va : Option Addr} {vc b h : Nat} {wth : List Int} {vb : Value} {bst : Option (List Int) × Int} {w : World} (s : St ps va vc b h wth vb bst w) (k : Nat) (v : Int) : St ps va vc b h (wth.set k v) vb bst (w.setCell ⟨h, k, none⟩ (.int .i64 v)) := by
  have hf : Fr (Two b h) w (w.setCell ⟨h, k, none⟩ (.int .i64 v)) := (Fr.refl _ w).setCell (.inr rfl) _
  exact ⟨s.ne, s.box.far _ _ s.ne, by rw [← ints_set]; exact s.wit.set k _, s.rd.step hf (Shr.refl _ _), s.best.step hf⟩
theorem St.same {ps : List SwP} {va : Option Addr} {vc b h : Nat} {wth : List Int} {vb : Value} {bst : Option (List Int) × Int} {w w' : World} (s : St ps va vc b h wth vb bst w) (hb : Below w.heap.size w w') : St ps va vc b h wth vb bst w' :=
  ⟨s.ne, s.box.stays hb, s.wit.stays hb, s.rd.step (Fr.of_new hb) (Shr.refl _ _), s.best.step (Fr.of_new hb)⟩
theorem St.drewN {ps : List SwP} {va : Option Addr} {vc b h : Nat} {wth : List Int} {vb : Value} {bst : Option (List Int) × Int} {w : World} (s : St ps va vc b h wth vb bst w) (n : Nat) : St ps va vc b h wth vb bst (w.drewN n) := s.same (below_drewN (Below.refl _ _) n)
theorem St.drew {ps : List SwP} {va : Option Addr} {vc b h : Nat} {wth : List Int} {vb : Value} {bst : Option (List Int) × Int} {w : World} (s : St ps va vc b h wth vb bst w) : St ps va vc b h wth vb bst w.drew := s.same (below_drewN (Below.refl _ _) 1)
/-- the new best pairing. -/
theorem St.news {ps : List SwP} {va : Option Addr} {vc b h : Nat} {wth : List Int} {vb : Value} {bst : Option (List Int) × Int} {w w1 : World} (s : St ps va vc b h wth vb bst w) (hl : wth.length = ps.length) (hp : 0 < ps.length) {v' : Value} (ho : w1.ownsRow w.heap.size 3 1 v' wth.length (ints wth)) (hb : Below w.heap.size w w1) (sum : Int) :
    St ps va vc b h wth v' (some wth, sum) ((w1.setCell ⟨b, 2, none⟩ v').setCell ⟨b, 3, none⟩ (.int .i64 sum)) ∧ Fr (Two b h) w ((w1.setCell ⟨b, 2, none⟩ v').setCell ⟨b, 3, none⟩ (.int .i64 sum)) := by
  have s1 := s.same hb
  have hf : Fr (Two b h) w1 ((w1.setCell ⟨b, 2, none⟩ v').setCell ⟨b, 3, none⟩ (.int .i64 sum)) := ((Fr.refl _ w1).setCell (.inl rfl) _).setCell (.inl rfl) _
  have hbl := s.box.lt
  have hhl := s.wit.lt
  refine ⟨⟨s.ne, (s1.box.set 2 v').set 3 _, (s1.wit.far _ _ s.ne.symm).far _ _ s.ne.symm, s1.rd.step hf (Shr.refl _ _), .inr ?_⟩, (Fr.of_new hb).trans hf (Shr.refl _ _)⟩
  have hH : Held (Two b h) w1 fun w' => RdI w' v' wth := (own_new ho (fun k h1 h2 hk => by rcases hk with e | e <;> omega)).imp (fun _ h => RdI.of_own h)
  rcases ho.2 with ⟨-, h0⟩ | ⟨g', c', cur, hv, -⟩
  · omega
  · exact ⟨wth, g', c', rfl, hv, hH.step hf (Shr.refl _ _)⟩
/-- every entry below 0 is -1. -/
def Neg (wth : List Int) : Prop := ∀ k, wth.getD k 0 < 0 → wth.getD k 0 = -1
theorem set_getD (l : List Int) (i k : Nat) (v : Int) (h : i < l.length) : (l.set i v).getD k 0 = if k = i then v else l.getD k 0 := by
  simp only [List.getD_eq_getElem?_getD, List.getElem?_set]
  by_cases e : i = k
  · subst e; simp [h]
  · rw [if_neg e, if_neg (fun h => e h.symm)]
theorem set_self (l : List Int) (i : Nat) (v : Int) (h : i < l.length) (hv : l.getD i 0 = v) : l.set i v = l := by
  rw [List.getD_eq_getElem?_getD, List.getElem?_eq_getElem h] at hv
  subst hv
  simp
theorem back1 (l : List Int) (i : Nat) (v : Int) (h : i < l.length) (hv : l.getD i 0 = -1) : (l.set i v).set i (-1) = l := by
  rw [List.set_set, set_self l i (-1) h hv]
theorem back2 (l : List Int) (i j : Nat) (u v : Int) (hne : i ≠ j) (hi : i < l.length) (hj : j < l.length) (hvi : l.getD i 0 = -1) (hvj : l.getD j 0 = -1) : (((l.set i u).set j v).set i (-1)).set j (-1) = l := by
  rw [List.set_comm v (-1) (fun e => hne e.symm), List.set_set, List.set_set, set_self l i (-1) hi hvi, set_self l j (-1) hj hvj]
def cnt (wth : List Int) : Nat := wth.count (-1)
theorem cnt_set (l : List Int) (i : Nat) (v : Int) (h : i < l.length) (hv : 0 ≤ v) (hi : l.getD i 0 = -1) : cnt (l.set i v) + 1 = cnt l := by
  unfold cnt
  rw [List.getD_eq_getElem?_getD, List.getElem?_eq_getElem h] at hi
  rw [List.count_set h]
  have h1 : l[i] = -1 := hi
  have h2 : 0 < List.count (-1) l := List.count_pos_iff.2 (by rw [← h1]; exact List.getElem_mem h)
  have h3 : (v == (-1 : Int)) = false := by simp; omega
  rw [h1, h3]
  simp
  omega
theorem Neg.set {l : List Int} (h : Neg l) (i : Nat) (v : Int) (hv : 0 ≤ v) : Neg (l.set i v) := by
  intro k hk
  by_cases hi : i < l.length
  · rw [set_getD l i k v hi] at hk ⊢
    by_cases e : k = i
    · rw [if_pos e] at hk; omega
    · rw [if_neg e] at hk ⊢; exact h k hk
  · rw [List.set_eq_of_length_le (by omega)] at hk ⊢; exact h k hk
/-- one step of the search. -/
def stepZ (ps : List SwP) (f : Nat) (bye : Bool) (sum : Int) (wth : List Int) (i : Nat) (bst : Option (List Int) × Int) (j : Nat) : Option (List Int) × Int :=
  if wth.getD j 0 < 0 ∧ metN ps i j = 0 then srchZ ps f bye (sum + costZ ps i j) ((wth.set i j).set j i) bst else bst
def loopZ (ps : List SwP) (f : Nat) (bye : Bool) (sum : Int) (wth : List Int) (i k : Nat) (bst : Option (List Int) × Int) : Option (List Int) × Int :=
  (List.range' k (ps.length - k)).foldl (stepZ ps f bye sum wth i) bst
theorem loop_step (ps : List SwP) (f : Nat) (bye : Bool) (sum : Int) (wth : List Int) (i k : Nat) (bst : Option (List Int) × Int) (h : k < ps.length) :
    loopZ ps f bye sum wth i k bst = loopZ ps f bye sum wth i (k + 1) (stepZ ps f bye sum wth i bst k) := by
  unfold loopZ
  rw [show ps.length - k = (ps.length - (k + 1)) + 1 by omega, List.range'_succ, List.foldl_cons]
theorem loop_end (ps : List SwP) (f : Nat) (bye : Bool) (sum : Int) (wth : List Int) (i : Nat) (bst : Option (List Int) × Int) : loopZ ps f bye sum wth i ps.length bst = bst := by
  unfold loopZ; simp
theorem srch_full (ps : List SwP) (f : Nat) (bye : Bool) (sum : Int) (wth : List Int) (bst : Option (List Int) × Int) (h : idxE (-1) wth 0 < 0) : srchZ ps (f + 1) bye sum wth bst = if bst.1 = none ∨ sum < bst.2 then (some wth, sum) else bst := by
  rw [srchZ, if_pos h]
theorem srch_open (ps : List SwP) (f : Nat) (bye : Bool) (sum : Int) (wth : List Int) (bst : Option (List Int) × Int) (i : Nat) (h : idxE (-1) wth 0 = i) : srchZ ps (f + 1) bye sum wth bst =
    if bye = true ∧ (plAt ps i).bye = false then srchZ ps f false (sum + 100 * (plAt ps i).score * (plAt ps i).score) (wth.set i ps.length) (loopZ ps f bye sum wth i (i + 1) bst) else loopZ ps f bye sum wth i (i + 1) bst := by
  rw [srchZ, if_neg (by omega), h]
  rfl

def SearchSaid (ps : List SwP) (g o vc b h : Nat) (f : Nat) : Prop := ∀ (wth : List Int) (bye : Bool) (sum : Int) (bst : Option (List Int) × Int) (vb : Value) (w : World), wth.length = ps.length → cnt wth < f → Neg wth → 0 ≤ sum → sum + 200000 * (cnt wth : Int) ≤ 10000000 → St ps (some ⟨g, o, none⟩) vc b h wth vb bst w →
  Calls Try.prog 12 #[.pointer (some ⟨b, 0, none⟩), .bool bye, .int .i64 sum] w fun e w' => e = .returned (.tuple #[]) ∧ ∃ vb', St ps (some ⟨g, o, none⟩) vc b h wth vb' (srchZ ps f bye sum wth bst) w' ∧ Fr (Two b h) w w'
set_option maxRecDepth 100000 in
set_option maxHeartbeats 8000000 in
theorem search_full (ps : List SwP) (g o vc b h f : Nat) (hn2 : 2 ≤ ps.length) (hn8 : ps.length ≤ 8) (wth : List Int) (bye : Bool) (sum : Int) (bst : Option (List Int) × Int) (vb : Value) (w : World) (hl : wth.length = ps.length) (hs : St ps (some ⟨g, o, none⟩) vc b h wth vb bst w) (hx : idxE (-1) wth 0 < 0) :
  Calls Try.prog 12 #[.pointer (some ⟨b, 0, none⟩), .bool bye, .int .i64 sum] w fun e w' => e = .returned (.tuple #[]) ∧ ∃ vb', St ps (some ⟨g, o, none⟩) vc b h wth vb' (srchZ ps (f + 1) bye sum wth bst) w' ∧ Fr (Two b h) w w' := by
  have hrd : RdI w (.slice (some ⟨h, 0, none⟩) ps.length ps.length) wth := by
    refine ⟨by rw [ints_len]; omega, .inr ⟨h, 0, ps.length, by rw [hl], by omega, by unfold maxLen; omega, fun i hi => ?_⟩⟩
    rw [Nat.zero_add, hs.wit.cell i (ints_get wth i (by omega)), ints_get wth i (by omega)]
  have HR := Lib.hid hrd
  have HS := Lib.hid hs
  have HL := Lib.hid hl
  have q0 := hs.box.cell 0 rfl
  have q1 := hs.box.cell 1 rfl
  have q2 := hs.box.cell 2 rfl
  have q3 := hs.box.cell 3 rfl
  have HF := Lib.hid (srch_full ps f bye sum wth bst hx)
  have hbest := hs.best
  obtain ⟨ix, hix⟩ : ∃ ix, idxE (-1) wth 0 = ix := ⟨_, rfl⟩
  rw [hix] at hx
  have HIX := Lib.hid hix
  have hq := fun (w : World) (a : Option Addr) (n c : Nat) => Lib.run_eql_slice_nil (P := Try.prog) w 28 3 a n c 0 0 Try.underlying28
  obtain ⟨bo, lv⟩ := bst
  have hcs : (bo = none ∨ sum < lv) ∨ ¬ (bo = none ∨ sum < lv) := Classical.em _
  clear hs hrd hl hix
  rcases hcs with hnew | hold
  · have HFn : Hid (srchZ ps (f + 1) bye sum wth (bo, lv) = (some wth, sum)) := Lib.hid (by rw [HF.out, if_pos hnew])
    clear HF
    have hway : (∃ (c : Nat), vb = .slice none 0 0) ∨ (∃ (l : List Int) (g' c' : Nat), vb = .slice (some ⟨g', 0, none⟩) l.length c' ∧ sum < lv) := by
      rcases hbest with ⟨rfl, rfl⟩ | ⟨l, g', c', rfl, rfl, -⟩
      · exact .inl ⟨0, rfl⟩
      · exact .inr ⟨l, g', c', rfl, by rcases hnew with h | h; cases h; exact h⟩
    clear hbest hnew
    rcases hway with ⟨-, rfl⟩ | ⟨l, g', c', rfl, hlt⟩
    all_goals
      go_enter Try.func12, Try.ntmps12
      go_upto_region 3 with (go_at_call 22; refine (Index_any _ wth (-1) _ HR.out).mono ?_; rintro e w' ⟨rfl, rfl⟩; rw [HIX.out])
      go_wp2_with (go_at_call 17; refine (Clone_any _ wth _ HR.out (by have := HL.out; omega)).mono ?_; rintro e w1 ⟨v', rfl, ho, hb⟩; obtain ⟨av, cv, rfl⟩ := own_form2 ho; have HN := Lib.hid (HS.out.news HL.out (by omega) ho hb sum); have HS1 := HS.out.same hb; have z2 := HS1.box.cell 2 rfl; have z3 := (HS1.box.set 2 (.slice av wth.length cv)).cell 3 rfl; have f2 := HS1.box.frozen 2; have f3 := (HS1.box.set 2 (.slice av wth.length cv)).frozen 3; clear ho hb HS1)
      refine bodyPost_ret (v := .tuple #[]) (by simp [results, Try.results12, go_sem]) rfl ?_
      exact ⟨rfl, _, by rw [HFn.out]; exact HN.out.1, HN.out.2⟩
  · have HFo : Hid (srchZ ps (f + 1) bye sum wth (bo, lv) = (bo, lv)) := Lib.hid (by rw [HF.out, if_neg hold])
    clear HF
    obtain ⟨l, g', c', rfl, rfl, hlt⟩ : ∃ (l : List Int) (g' c' : Nat), bo = some l ∧ vb = .slice (some ⟨g', 0, none⟩) l.length c' ∧ ¬ sum < lv := by
      rcases hbest with ⟨rfl, rfl⟩ | ⟨l, g', c', rfl, rfl, -⟩
      · exact absurd (.inl rfl) hold
      · exact ⟨l, g', c', rfl, rfl, fun h => hold (.inr h)⟩
    clear hbest hold
    go_enter Try.func12, Try.ntmps12
    go_wp2_with (go_at_call 22; refine (Index_any _ wth (-1) _ HR.out).mono ?_; rintro e w' ⟨rfl, rfl⟩; rw [HIX.out])
    refine bodyPost_ret (v := .tuple #[]) (by simp [results, Try.results12, go_sem]) rfl ?_
    exact ⟨rfl, _, by rw [HFo.out]; exact HS.out, Fr.refl _ _⟩

end Go.Proofs.Ytkngpbnildhdpaa

/- The players that swiss.After works on: a block of cells, and each one's opponents in a row of their own. -/
import Derived.Test.YtkngpbnildhdpaaSwA
import Derived.Test.YtkngpbnildhdpaaSwS
import Derived.Test.YtkngpbnildhdpaaApp0
import Derived.OneCell
namespace Go.Proofs.Ytkngpbnildhdpaa
open Go.ChangeShapes Go.WideShapes Go.ChangeAt Go.RowKit
set_option linter.unusedVariables false

def setF {α : Type} (f : Nat → α) (i : Nat) (x : α) : Nat → α := fun k => if k = i then x else f k
theorem setF_same {α : Type} (f : Nat → α) (i : Nat) (x : α) : setF f i x i = x := if_pos rfl
theorem setF_other {α : Type} (f : Nat → α) {i k : Nat} (x : α) (h : k ≠ i) : setF f i x k = f k := if_neg h
theorem setF_comm {α : Type} (f : Nat → α) {i j : Nat} (x y : α) (h : i ≠ j) : setF (setF f i x) j y = setF (setF f j y) i x := by
  funext k
  unfold setF
  by_cases e1 : k = j
  · rw [if_pos e1, if_neg (fun e => h (by omega)), if_pos e1]
  · rw [if_neg e1]
    by_cases e2 : k = i
    · rw [if_pos e2, if_pos e2]
    · rw [if_neg e2, if_neg e2, if_neg e1]

structure Cells (w : World) (ob n : Nat) (f : Nat → SwP) (v : Nat → Value) : Prop where
  c0 : ∀ i, i < n → w.cell? ⟨ob, i * 4, none⟩ = some (.int .i64 (f i).score)
  c1 : ∀ i, i < n → w.cell? ⟨ob, i * 4 + 1, none⟩ = some (v i)
  c2 : ∀ i, i < n → w.cell? ⟨ob, i * 4 + 2, none⟩ = some (.int .i64 (f i).colour)
  c3 : ∀ i, i < n → w.cell? ⟨ob, i * 4 + 3, none⟩ = some (.bool (f i).bye)
  fr : ∀ j, w.frozen? ⟨ob, j, none⟩ = false
  lt : ob < w.heap.size
theorem Cells.stays {w w' : World} {ob n : Nat} {f : Nat → SwP} {v : Nat → Value} (h : Cells w ob n f v) (hb : Below w.heap.size w w') : Cells w' ob n f v :=
  ⟨fun i hi => (hb.cell (p := ⟨ob, _, none⟩) h.lt).trans (h.c0 i hi), fun i hi => (hb.cell (p := ⟨ob, _, none⟩) h.lt).trans (h.c1 i hi), fun i hi => (hb.cell (p := ⟨ob, _, none⟩) h.lt).trans (h.c2 i hi),
    fun i hi => (hb.cell (p := ⟨ob, _, none⟩) h.lt).trans (h.c3 i hi), fun j => (hb.frozen (p := ⟨ob, j, none⟩) h.lt).trans (h.fr j), Nat.lt_of_lt_of_le h.lt hb.size⟩
theorem Cells.kept {w w' : World} {ob n : Nat} {f : Nat → SwP} {v : Nat → Value} {row : Option Nat} (h : Cells w ob n f v) (hg : w.grownBy w' row) (hne : some ob ≠ row) : Cells w' ob n f v := by
  have hbk := hg.block ob h.lt hne
  have hc : ∀ k, w'.cell? ⟨ob, k, none⟩ = w.cell? ⟨ob, k, none⟩ := fun k => World.cell?_of_block (w := w) (a := ⟨ob, k, none⟩) hbk
  refine ⟨fun i hi => (hc _).trans (h.c0 i hi), fun i hi => (hc _).trans (h.c1 i hi), fun i hi => (hc _).trans (h.c2 i hi), fun i hi => (hc _).trans (h.c3 i hi), fun j => ?_, Nat.lt_of_lt_of_le h.lt hg.size⟩
  have := h.fr j
  unfold World.frozen? at this ⊢
  rw [hbk]
  exact this
theorem Cells.put {w : World} {ob n : Nat} {f f' : Nat → SwP} {v v' : Nat → Value} (h : Cells w ob n f v) (i c : Nat) (hi : i < n) (hc : c < 4) (u : Value)
    (h0 : ∀ k, k < n → (if k = i ∧ c = 0 then u else .int .i64 (f k).score) = .int .i64 (f' k).score) (h1 : ∀ k, k < n → (if k = i ∧ c = 1 then u else v k) = v' k)
    (h2 : ∀ k, k < n → (if k = i ∧ c = 2 then u else .int .i64 (f k).colour) = .int .i64 (f' k).colour) (h3 : ∀ k, k < n → (if k = i ∧ c = 3 then u else .bool (f k).bye) = .bool (f' k).bye) :
    Cells (w.setCell ⟨ob, i * 4 + c, none⟩ u) ob n f' v' := by
  have key : ∀ (k d : Nat) (x : Value), d < 4 → w.cell? ⟨ob, k * 4 + d, none⟩ = some x → (w.setCell ⟨ob, i * 4 + c, none⟩ u).cell? ⟨ob, k * 4 + d, none⟩ = some (if k = i ∧ c = d then u else x) := by
    intro k d x hd hx
    by_cases e : k = i ∧ c = d
    · obtain ⟨rfl, rfl⟩ := e
      rw [if_pos ⟨rfl, rfl⟩, World.cell?_setCell_same _ _ _ hx]
    · rw [if_neg e, World.cell?_setCell_other _ _ _ _ (by simp only [ne_eq, Addr.mk.injEq, and_true, true_and]; omega)]
      exact hx
  refine ⟨fun k hk => ?_, fun k hk => ?_, fun k hk => ?_, fun k hk => ?_, fun j => by rw [World.frozen?_setCell]; exact h.fr j, by rw [World.size_setCell]; exact h.lt⟩
  · have := key k 0 _ (by decide) (h.c0 k hk)
    rw [h0 k hk] at this
    exact this
  · have := key k 1 _ (by decide) (h.c1 k hk)
    rw [h1 k hk] at this
    exact this
  · have := key k 2 _ (by decide) (h.c2 k hk)
    rw [h2 k hk] at this
    exact this
  · have := key k 3 _ (by decide) (h.c3 k hk)
    rw [h3 k hk] at this
    exact this
theorem Cells.score {w : World} {ob n : Nat} {f : Nat → SwP} {v : Nat → Value} (h : Cells w ob n f v) (i : Nat) (hi : i < n) (x : Int) : Cells (w.setCell ⟨ob, i * 4, none⟩ (.int .i64 x)) ob n (setF f i { f i with score := x }) v := by
  refine h.put i 0 hi (by decide) (.int .i64 x) (fun k _ => ?_) (fun k _ => if_neg (by omega)) (fun k _ => ?_) (fun k _ => ?_)
  all_goals
    by_cases e : k = i
    · subst e; simp [setF]
    · simp [setF, e]
theorem Cells.opp {w : World} {ob n : Nat} {f : Nat → SwP} {v : Nat → Value} (h : Cells w ob n f v) (i : Nat) (hi : i < n) (u : Value) (l : List Int) : Cells (w.setCell ⟨ob, i * 4 + 1, none⟩ u) ob n (setF f i { f i with opp := l }) (setF v i u) := by
  refine h.put i 1 hi (by decide) u (fun k _ => ?_) (fun k _ => ?_) (fun k _ => ?_) (fun k _ => ?_)
  all_goals
    by_cases e : k = i
    · subst e; simp [setF]
    · simp [setF, e]
theorem Cells.colour {w : World} {ob n : Nat} {f : Nat → SwP} {v : Nat → Value} (h : Cells w ob n f v) (i : Nat) (hi : i < n) (x : Int) : Cells (w.setCell ⟨ob, i * 4 + 2, none⟩ (.int .i64 x)) ob n (setF f i { f i with colour := x }) v := by
  refine h.put i 2 hi (by decide) (.int .i64 x) (fun k _ => ?_) (fun k _ => if_neg (by omega)) (fun k _ => ?_) (fun k _ => ?_)
  all_goals
    by_cases e : k = i
    · subst e; simp [setF]
    · simp [setF, e]
theorem Cells.bye {w : World} {ob n : Nat} {f : Nat → SwP} {v : Nat → Value} (h : Cells w ob n f v) (i : Nat) (hi : i < n) (x : Bool) : Cells (w.setCell ⟨ob, i * 4 + 3, none⟩ (.bool x)) ob n (setF f i { f i with bye := x }) v := by
  refine h.put i 3 hi (by decide) (.bool x) (fun k _ => ?_) (fun k _ => if_neg (by omega)) (fun k _ => ?_) (fun k _ => ?_)
  all_goals
    by_cases e : k = i
    · subst e; simp [setF]
    · simp [setF, e]

/-- rows of integers, each in a block of its own, none of them one of bs. -/
structure Opps (B : Nat) (w : World) (bs : List Nat) (m : Nat) (u : Nat → Value) (o : Nat → List Int) : Prop where
  own : ∀ i, i < m → w.ownsRow B 3 1 (u i) (o i).length (ints (o i))
  off : ∀ i, i < m → ∀ b ∈ bs, (u i).ownBlock ≠ some b
  apart : ∀ i j, i < m → j < m → i ≠ j → (u i).ownBlock = none ∨ (u i).ownBlock ≠ (u j).ownBlock
  bslt : ∀ b ∈ bs, b < w.heap.size
theorem Opps.stays {B : Nat} {w w' : World} {bs : List Nat} {m : Nat} {u : Nat → Value} {o : Nat → List Int} (h : Opps B w bs m u o) (hb : Below w.heap.size w w') : Opps B w' bs m u o :=
  ⟨fun i hi => own_stays (h.own i hi) hb, h.off, h.apart, fun b hb' => Nat.lt_of_lt_of_le (h.bslt b hb') hb.size⟩
theorem Opps.fresh {B : Nat} {w : World} {bs : List Nat} {m : Nat} {u : Nat → Value} {o : Nat → List Int} (h : Opps B w bs m u o) (x : Obj) : Opps B (w.alloc x) (w.heap.size :: bs) m u o := by
  have hs := h.stays ((Below.refl w.heap.size w).alloc (Nat.le_refl _) x)
  refine ⟨hs.own, fun i hi b hb => ?_, hs.apart, fun b hb => ?_⟩
  · rcases List.mem_cons.1 hb with rfl | hb
    · exact fun e => by have := ((h.own i hi).lt _ e).2; omega
    · exact h.off i hi b hb
  · rcases List.mem_cons.1 hb with rfl | hb
    · rw [World.size_alloc]; omega
    · exact hs.bslt b hb
theorem Opps.less {B : Nat} {w : World} {bs bs' : List Nat} {m : Nat} {u : Nat → Value} {o : Nat → List Int} (h : Opps B w bs m u o) (hs : ∀ b ∈ bs', b ∈ bs) : Opps B w bs' m u o :=
  ⟨h.own, fun i hi b hb => h.off i hi b (hs b hb), h.apart, fun b hb => h.bslt b (hs b hb)⟩
theorem Opps.set {B : Nat} {w : World} {bs : List Nat} {m : Nat} {u : Nat → Value} {o : Nat → List Int} (h : Opps B w bs m u o) (b k : Nat) (hb : b ∈ bs) (x : Value) : Opps B (w.setCell ⟨b, k, none⟩ x) bs m u o :=
  ⟨fun i hi => ownsRow_setCell_other (h.own i hi) (h.off i hi b hb) x, h.off, h.apart, fun b' hb' => by rw [World.size_setCell]; exact h.bslt b' hb'⟩
/-- an element is appended to row a. -/
theorem ints_append' (l : List Int) (x : Int) : ints (l ++ [x]) = ints l ++ [.int .i64 x] := by simp [ints]
theorem Opps.app {B : Nat} {w w' : World} {bs : List Nat} {m : Nat} {u : Nat → Value} {o : Nat → List Int} (h : Opps B w bs m u o) (a : Nat) (ha : a < m) {g c n : Nat} {x : Int} {xs : List Value}
    (hown : w'.ownsRow B 3 1 (.slice (some ⟨g, 0, none⟩) n c) n xs) (hn : n = (o a).length + 1) (hxs : xs = ints (o a) ++ [.int .i64 x]) (hg : w.grownBy w' (u a).ownBlock) (hq : (u a).ownBlock = some g ∨ g = w.heap.size) :
    Opps B w' bs m (setF u a (.slice (some ⟨g, 0, none⟩) n c)) (setF o a (o a ++ [x])) := by
  have hnew : ∀ j, j < m → j ≠ a → some g ≠ (u j).ownBlock := fun j hj hne e => by
    rcases hq with q | q
    · rcases h.apart a j ha hj (fun e => hne e.symm) with r | r
      · rw [r] at q; cases q
      · exact r (q.trans e)
    · have := ((h.own j hj).lt g e.symm).2; omega
  have hbs : ∀ b ∈ bs, g ≠ b := fun b hb e => by
    rcases hq with q | q
    · exact h.off a ha b hb (by rw [q, e])
    · have := h.bslt b hb; omega
  refine ⟨fun i hi => ?_, fun i hi b hb => ?_, fun i j hi hj hij => ?_, fun b hb => Nat.lt_of_lt_of_le (h.bslt b hb) hg.size⟩
  · by_cases e : i = a
    · subst e
      rw [setF_same, setF_same, List.length_append, ints_append' , ← hxs]
      subst hn
      exact hown
    · rw [setF_other _ _ e, setF_other _ _ e]
      exact (h.own i hi).kept hg (h.apart i a hi ha e)
  · by_cases e : i = a
    · subst e
      rw [setF_same]
      simp only [Value.ownBlock, ne_eq, Option.some.injEq]
      exact hbs b hb
    · rw [setF_other _ _ e]; exact h.off i hi b hb
  · by_cases e : i = a
    · subst e
      rw [setF_same, setF_other _ _ (fun e => hij e.symm)]
      exact .inr (hnew j hj (fun e => hij e.symm))
    · rw [setF_other _ _ e]
      by_cases e2 : j = a
      · subst e2
        rw [setF_same]
        cases hb : (u i).ownBlock with
        | none => exact .inl rfl
        | some k => exact .inr (fun q => hnew i hi e (by rw [hb]; exact q.symm))
      · rw [setF_other _ _ e2]; exact h.apart i j hi hj hij
/-- a fresh row is put in. -/
theorem Opps.new {B : Nat} {w w' : World} {bs : List Nat} {m : Nat} {u : Nat → Value} {o : Nat → List Int} (h : Opps B w bs m u o) (hb : Below w.heap.size w w') {x : Value} {l : List Int} (hB : B ≤ w.heap.size)
    (hown : w'.ownsRow w.heap.size 3 1 x l.length (ints l)) (hl : o m = l) : Opps B w' bs (m + 1) (setF u m x) o := by
  have hs := h.stays hb
  have hx : ∀ k, x.ownBlock = some k → w.heap.size ≤ k := fun k e => (hown.lt k e).1
  refine ⟨fun i hi => ?_, fun i hi b hb' => ?_, fun i j hi hj hij => ?_, hs.bslt⟩
  · by_cases e : i = m
    · subst e; rw [setF_same, hl]; exact own_base hown hB
    · rw [setF_other _ _ e]; exact hs.own i (by omega)
  · by_cases e : i = m
    · subst e; rw [setF_same]; exact fun q => by have := hx b q; have := h.bslt b hb'; omega
    · rw [setF_other _ _ e]; exact h.off i (by omega) b hb'
  · by_cases e : i = m
    · subst e
      rw [setF_same, setF_other _ _ (fun e => hij e.symm)]
      cases hb2 : x.ownBlock with
      | none => exact .inl rfl
      | some k => exact .inr (fun q => by have h1 := hx k hb2; have := ((h.own j (by omega)).lt k q.symm).2; omega)
    · rw [setF_other _ _ e]
      by_cases e2 : j = m
      · subst e2
        rw [setF_same]
        cases hb2 : (u i).ownBlock with
        | none => exact .inl rfl
        | some k => exact .inr (fun q => by have h1 := hx k q.symm; have := ((h.own i (by omega)).lt k hb2).2; omega)
      · rw [setF_other _ _ e2]; exact h.apart i j (by omega) (by omega) hij
/-- what lies so is read so. -/
theorem Cells.read {B : Nat} {w : World} {ob n c : Nat} {f : Nat → SwP} {v : Nat → Value} {bs : List Nat} (h : Cells w ob n f v) (hr : Opps B w bs n v (fun i => (f i).opp)) (hn : n ≤ c) (hc : c ≤ maxLen) :
    RdS w (.slice (some ⟨ob, 0, none⟩) n c) ((List.range n).map f) := by
  refine .inr ⟨ob, 0, c, by simp, by simpa using hn, hc, h.lt, fun i hi => ?_⟩
  have hin : i < n := by simpa using hi
  have e : ((List.range n).map f)[i] = f i := by simp
  refine ⟨[.int .i64 (f i).score, v i, .int .i64 (f i).colour, .bool (f i).bye], ?_, fun j hj => ?_⟩
  · rw [e]; exact ⟨v i, rfl, RdI.of_own (hr.own i hin)⟩
  · rw [Nat.zero_add]
    match j, hj with
    | 0, _ => exact h.c0 i hin
    | 1, _ => exact h.c1 i hin
    | 2, _ => exact h.c2 i hin
    | 3, _ => exact h.c3 i hin
end Go.Proofs.Ytkngpbnildhdpaa

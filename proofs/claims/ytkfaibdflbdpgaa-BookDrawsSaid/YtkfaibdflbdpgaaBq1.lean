/- Bq1: BkPlain, BkA, BkB, BkM, in one text. -/
import Derived.Test.YtkfaibdflbdpgaaMvC
import Derived.Test.YtkfaibdflbdpgaaSub
import Derived.Laws.CopyRow
import Derived.Laws.Append
import Derived.Laws.AppendOwn
import Derived.Lib.Overlaps
import Derived.Lib.AppendZeros
/- Books of openings as plain data: entries in order, added and merged. -/
namespace Go.Proofs.Ytkfaibdflbdpgaa
set_option linter.unusedVariables false
structure BkZ where
  key : Int
  m : MoveZ
  wt : Int
deriving Inhabited, DecidableEq
def ordB (a b : BkZ) : Int := orZ [cmpZ a.key b.key, cmpZ a.m.src b.m.src, cmpZ a.m.dst b.m.dst, cmpZ a.m.piece b.m.piece]
theorem cmpZ_cases (a b : Int) : (a < b ∧ cmpZ a b = -1) ∨ (a = b ∧ cmpZ a b = 0) ∨ (b < a ∧ cmpZ a b = 1) := by
  unfold cmpZ
  by_cases h1 : a < b
  · exact .inl ⟨h1, by rw [if_pos h1]⟩
  · by_cases h2 : b < a
    · exact .inr (.inr ⟨h2, by rw [if_neg h1, if_pos h2]⟩)
    · exact .inr (.inl ⟨by omega, by rw [if_neg h1, if_neg h2]⟩)
/-- strictly before, in the order of books. -/
def ltB (a b : BkZ) : Prop := a.key < b.key ∨ (a.key = b.key ∧ (a.m.src < b.m.src ∨ (a.m.src = b.m.src ∧ (a.m.dst < b.m.dst ∨ (a.m.dst = b.m.dst ∧ a.m.piece < b.m.piece)))))
def eqB (a b : BkZ) : Prop := a.key = b.key ∧ a.m = b.m
theorem eqB_iff (a b : BkZ) : eqB a b ↔ a.key = b.key ∧ a.m.src = b.m.src ∧ a.m.dst = b.m.dst ∧ a.m.piece = b.m.piece := by
  unfold eqB
  obtain ⟨k, ⟨s, d, p⟩, x⟩ := a
  obtain ⟨k', ⟨s', d', p'⟩, x'⟩ := b
  simp
theorem ordB_cases (a b : BkZ) : (ltB a b ∧ ordB a b = -1) ∨ (eqB a b ∧ ordB a b = 0) ∨ (ltB b a ∧ ordB a b = 1) := by
  rw [eqB_iff]
  unfold ltB ordB
  rcases cmpZ_cases a.key b.key with ⟨h, e⟩ | ⟨h, e⟩ | ⟨h, e⟩ <;> rcases cmpZ_cases a.m.src b.m.src with ⟨h2, e2⟩ | ⟨h2, e2⟩ | ⟨h2, e2⟩ <;> rcases cmpZ_cases a.m.dst b.m.dst with ⟨h3, e3⟩ | ⟨h3, e3⟩ | ⟨h3, e3⟩ <;> rcases cmpZ_cases a.m.piece b.m.piece with ⟨h4, e4⟩ | ⟨h4, e4⟩ | ⟨h4, e4⟩ <;> simp [orZ, e, e2, e3, e4] <;> omega
theorem ltB_trans {a b c : BkZ} (h : ltB a b) (k : ltB b c) : ltB a c := by unfold ltB at *; omega
theorem ltB_irr {a : BkZ} (h : ltB a a) : False := by unfold ltB at h; omega
theorem ltB_asym {a b : BkZ} (h : ltB a b) (k : ltB b a) : False := by unfold ltB at *; omega
theorem eqB_lt {a b c : BkZ} (h : eqB a b) (k : ltB b c) : ltB a c := by rw [eqB_iff] at h; unfold ltB at *; omega
theorem lt_eqB {a b c : BkZ} (h : ltB a b) (k : eqB b c) : ltB a c := by rw [eqB_iff] at k; unfold ltB at *; omega
theorem eqB_symm {a b : BkZ} (h : eqB a b) : eqB b a := ⟨h.1.symm, h.2.symm⟩
theorem ordB_neg {a b : BkZ} : ordB a b < 0 ↔ ltB a b := by
  rcases ordB_cases a b with ⟨h, e⟩ | ⟨h, e⟩ | ⟨h, e⟩ <;> rw [e]
  · exact ⟨fun _ => h, fun _ => by omega⟩
  · exact ⟨fun k => absurd k (by omega), fun k => absurd (eqB_lt (eqB_symm h) k) (fun z => ltB_irr z)⟩
  · exact ⟨fun k => absurd k (by omega), fun k => absurd h (fun z => ltB_asym z k)⟩
theorem ordB_zero {a b : BkZ} : ordB a b = 0 ↔ eqB a b := by
  rcases ordB_cases a b with ⟨h, e⟩ | ⟨h, e⟩ | ⟨h, e⟩ <;> rw [e]
  · exact ⟨fun k => absurd k (by omega), fun k => absurd (eqB_lt (eqB_symm k) h) (fun z => ltB_irr z)⟩
  · exact ⟨fun _ => h, fun _ => rfl⟩
  · exact ⟨fun k => absurd k (by omega), fun k => absurd (eqB_lt k h) (fun z => ltB_irr z)⟩
def maxWt : Int := 1000000
/-- in order, each with a weight. -/
def SortedB (b : List BkZ) : Prop := b.Pairwise ltB
def WtB (b : List BkZ) : Prop := ∀ x ∈ b, 1 ≤ x.wt ∧ x.wt ≤ 1000000
def addZ : List BkZ → BkZ → List BkZ
  | [], x => [x]
  | y :: t, x => if ordB y x < 0 then y :: addZ t x else if ordB y x = 0 then { y with wt := min (y.wt + x.wt) 1000000 } :: t else x :: y :: t
/-- the number of entries that come before. -/
def posB (b : List BkZ) (x : BkZ) : Nat := (b.takeWhile fun y => decide (ordB y x < 0)).length
/-- the weight of a key. -/
def getB : List BkZ → Int → MoveZ → Option Int
  | [], _, _ => none
  | y :: t, k, m => if y.key = k ∧ y.m = m then some y.wt else getB t k m
theorem addZ_mem {b : List BkZ} {x z : BkZ} (h : z ∈ addZ b x) : (∃ y ∈ b, eqB z y) ∨ eqB z x := by
  induction b with
  | nil => simp [addZ] at h; exact .inr ⟨by rw [h], by rw [h]⟩
  | cons y t ih =>
    unfold addZ at h
    split at h
    · rcases List.mem_cons.1 h with e | e
      · exact .inl ⟨y, by simp, by rw [e]; exact ⟨rfl, rfl⟩⟩
      · rcases ih e with ⟨u, hu, k⟩ | k
        · exact .inl ⟨u, by simp [hu], k⟩
        · exact .inr k
    · split at h
      · rcases List.mem_cons.1 h with e | e
        · exact .inl ⟨y, by simp, by rw [e]; exact ⟨rfl, rfl⟩⟩
        · exact .inl ⟨z, by simp [e], ⟨rfl, rfl⟩⟩
      · rcases List.mem_cons.1 h with e | e
        · exact .inr (by rw [e]; exact ⟨rfl, rfl⟩)
        · exact .inl ⟨z, e, ⟨rfl, rfl⟩⟩
theorem addZ_sorted {b : List BkZ} {x : BkZ} (h : SortedB b) : SortedB (addZ b x) := by
  induction b with
  | nil => simp [addZ, SortedB]
  | cons y t ih =>
    have hc := List.pairwise_cons.1 h
    unfold addZ
    split
    · rename_i hlt
      refine List.pairwise_cons.2 ⟨fun z hz => ?_, ih hc.2⟩
      rcases addZ_mem hz with ⟨u, hu, e⟩ | e
      · exact lt_eqB (hc.1 u hu) (eqB_symm e)
      · exact lt_eqB (ordB_neg.1 hlt) (eqB_symm e)
    · split
      · exact List.pairwise_cons.2 ⟨fun z hz => eqB_lt (b := y) ⟨rfl, rfl⟩ (hc.1 z hz), hc.2⟩
      · rename_i h1 h2
        have hxy : ltB x y := by
          rcases ordB_cases y x with ⟨a, e⟩ | ⟨a, e⟩ | ⟨a, e⟩
          · exact absurd (by rw [e]; omega) h1
          · exact absurd e h2
          · exact a
        refine List.pairwise_cons.2 ⟨fun z hz => ?_, h⟩
        rcases List.mem_cons.1 hz with e | e
        · rw [e]; exact hxy
        · exact ltB_trans hxy (hc.1 z e)
theorem addZ_wt {b : List BkZ} {x : BkZ} (h : WtB b) (hx : 1 ≤ x.wt ∧ x.wt ≤ 1000000) : WtB (addZ b x) := by
  induction b with
  | nil => intro z hz; simp [addZ] at hz; rw [hz]; exact hx
  | cons y t ih =>
    have ht : WtB t := fun z hz => h z (by simp [hz])
    have hy := h y (by simp)
    intro z hz
    unfold addZ at hz
    split at hz
    · rcases List.mem_cons.1 hz with e | e
      · rw [e]; exact hy
      · exact ih ht z e
    · split at hz
      · rcases List.mem_cons.1 hz with e | e
        · rw [e]; show 1 ≤ min (y.wt + x.wt) 1000000 ∧ min (y.wt + x.wt) 1000000 ≤ 1000000; omega
        · exact ht z e
      · rcases List.mem_cons.1 hz with e | e
        · rw [e]; exact hx
        · exact h z e
theorem addZ_len (b : List BkZ) (x : BkZ) : b.length ≤ (addZ b x).length ∧ (addZ b x).length ≤ b.length + 1 := by
  induction b with
  | nil => simp [addZ]
  | cons y t ih =>
    unfold addZ
    split
    · simp only [List.length_cons]; omega
    · split <;> simp
theorem getB_none {b : List BkZ} {k : Int} {m : MoveZ} (h : ∀ y ∈ b, ¬ (y.key = k ∧ y.m = m)) : getB b k m = none := by
  induction b with
  | nil => rfl
  | cons y t ih => unfold getB; rw [if_neg (h y (by simp))]; exact ih fun z hz => h z (by simp [hz])
theorem getB_mem {b : List BkZ} (hs : SortedB b) {y : BkZ} (h : y ∈ b) : getB b y.key y.m = some y.wt := by
  induction b with
  | nil => cases h
  | cons z t ih =>
    have hc := List.pairwise_cons.1 hs
    unfold getB
    rcases List.mem_cons.1 h with e | e
    · rw [e, if_pos ⟨rfl, rfl⟩]
    · rw [if_neg, ih hc.2 e]
      intro k
      exact ltB_irr (lt_eqB (hc.1 y e) (⟨k.1.symm, k.2.symm⟩ : eqB y z))
theorem getB_some {b : List BkZ} {k : Int} {m : MoveZ} {w : Int} (h : getB b k m = some w) : ⟨k, m, w⟩ ∈ b := by
  induction b with
  | nil => cases h
  | cons y t ih =>
    unfold getB at h
    split at h
    · rename_i e
      obtain ⟨rfl, rfl⟩ := e
      simp only [Option.some.injEq] at h
      rw [← h]; simp
    · exact List.mem_cons_of_mem _ (ih h)
def plusW (o : Option Int) (w : Int) : Option Int := match o with
  | none => some w
  | some v => some (min (v + w) 1000000)
theorem getB_add {b : List BkZ} (hs : SortedB b) (x : BkZ) (k : Int) (m : MoveZ) : getB (addZ b x) k m = if x.key = k ∧ x.m = m then plusW (getB b k m) x.wt else getB b k m := by
  induction b with
  | nil =>
    show (if x.key = k ∧ x.m = m then some x.wt else none) = if x.key = k ∧ x.m = m then some x.wt else none
    rfl
  | cons y t ih =>
    have hc := List.pairwise_cons.1 hs
    rcases ordB_cases y x with ⟨a, e⟩ | ⟨a, e⟩ | ⟨a, e⟩
    · have e1 : addZ (y :: t) x = y :: addZ t x := by rw [addZ, if_pos (by rw [e]; decide)]
      rw [e1, getB, getB, ih hc.2]
      by_cases q : y.key = k ∧ y.m = m
      · rw [if_pos q, if_pos q, if_neg]
        intro q2
        exact ltB_irr (lt_eqB a (⟨q2.1.trans q.1.symm, q2.2.trans q.2.symm⟩ : eqB x y))
      · rw [if_neg q, if_neg q]
    · have e1 : addZ (y :: t) x = { y with wt := min (y.wt + x.wt) 1000000 } :: t := by rw [addZ, if_neg (by rw [e]; decide), if_pos e]
      rw [e1, getB, getB]
      by_cases q : y.key = k ∧ y.m = m
      · rw [if_pos q, if_pos q, if_pos ⟨a.1.symm.trans q.1, a.2.symm.trans q.2⟩]; rfl
      · rw [if_neg q, if_neg q, if_neg (fun q2 => q ⟨a.1.trans q2.1, a.2.trans q2.2⟩)]
    · have e1 : addZ (y :: t) x = x :: y :: t := by rw [addZ, if_neg (by rw [e]; decide), if_neg (by rw [e]; decide)]
      rw [e1, getB]
      by_cases q : x.key = k ∧ x.m = m
      · rw [if_pos q, if_pos q, getB_none (b := y :: t)]
        · rfl
        · intro z hz q2
          have hxz : ltB x z := by
            rcases List.mem_cons.1 hz with h | h
            · rw [h]; exact a
            · exact ltB_trans a (hc.1 z h)
          exact ltB_irr (lt_eqB hxz (⟨q2.1.trans q.1.symm, q2.2.trans q.2.symm⟩ : eqB z x))
      · rw [if_neg q, if_neg q]
/-- two ordered books with the same weights are the same. -/
theorem book_ext : ∀ {a b : List BkZ}, SortedB a → SortedB b → (∀ k m, getB a k m = getB b k m) → a = b
  | [], [], _, _, _ => rfl
  | [], y :: t, _, hb, h => by have := h y.key y.m; rw [getB_mem hb (by simp)] at this; cases this
  | x :: s, [], ha, _, h => by have := h x.key x.m; rw [getB_mem ha (by simp)] at this; cases this
  | x :: s, y :: t, ha, hb, h => by
    have ca := List.pairwise_cons.1 ha
    have cb := List.pairwise_cons.1 hb
    have hx : (⟨x.key, x.m, x.wt⟩ : BkZ) ∈ y :: t := getB_some ((h x.key x.m).symm.trans (getB_mem ha (by simp)))
    have hy : (⟨y.key, y.m, y.wt⟩ : BkZ) ∈ x :: s := getB_some ((h y.key y.m).trans (getB_mem hb (by simp)))
    have exy : x = y := by
      rcases List.mem_cons.1 hx with e | e
      · exact e
      · rcases List.mem_cons.1 hy with e' | e'
        · exact e'.symm
        · exact (ltB_asym (cb.1 x e) (ca.1 y e')).elim
    subst exy
    congr 1
    refine book_ext ca.2 cb.2 fun k m => ?_
    have hk := h k m
    unfold getB at hk
    by_cases q : x.key = k ∧ x.m = m
    · rw [getB_none (b := s), getB_none (b := t)]
      · intro z hz q2; exact ltB_irr (lt_eqB (cb.1 z hz) (⟨q2.1.trans q.1.symm, q2.2.trans q.2.symm⟩ : eqB z x))
      · intro z hz q2; exact ltB_irr (lt_eqB (ca.1 z hz) (⟨q2.1.trans q.1.symm, q2.2.trans q.2.symm⟩ : eqB z x))
    · rwa [if_neg q, if_neg q] at hk
def foldB (a : List BkZ) (l : List BkZ) : List BkZ := l.foldl addZ a
theorem foldB_snoc (a l : List BkZ) (x : BkZ) : foldB a (l ++ [x]) = addZ (foldB a l) x := by simp [foldB]
theorem foldB_take (a l : List BkZ) (k : Nat) (h : k < l.length) : foldB a (l.take (k + 1)) = addZ (foldB a (l.take k)) (l.getD k default) := by
  rw [List.take_succ_eq_append_getElem h, foldB_snoc, List.getD_eq_getElem?_getD, List.getElem?_eq_getElem h]; rfl
theorem foldB_sorted {a : List BkZ} (h : SortedB a) (l : List BkZ) : SortedB (foldB a l) := by
  induction l generalizing a with
  | nil => exact h
  | cons x t ih => exact ih (addZ_sorted h)
theorem foldB_wt {a : List BkZ} (h : WtB a) {l : List BkZ} (hl : WtB l) : WtB (foldB a l) := by
  induction l generalizing a with
  | nil => exact h
  | cons x t ih => exact ih (addZ_wt h (hl x (by simp))) (fun z hz => hl z (by simp [hz]))
theorem foldB_len (a l : List BkZ) : a.length ≤ (foldB a l).length ∧ (foldB a l).length ≤ a.length + l.length := by
  induction l generalizing a with
  | nil => simp [foldB]
  | cons x t ih =>
    have h1 := addZ_len a x
    have h2 := ih (addZ a x)
    simp only [List.length_cons]
    show a.length ≤ (foldB (addZ a x) t).length ∧ (foldB (addZ a x) t).length ≤ _
    omega
/-- a book added to another one. -/
theorem getB_fold {a b : List BkZ} (ha : SortedB a) (hb : SortedB b) (k : Int) (m : MoveZ) : getB (foldB a b) k m = match getB b k m with
    | none => getB a k m
    | some w => plusW (getB a k m) w := by
  induction b generalizing a with
  | nil => rfl
  | cons y t ih =>
    have cb := List.pairwise_cons.1 hb
    show getB (foldB (addZ a y) t) k m = _
    rw [ih (addZ_sorted ha) cb.2, getB_add ha, getB]
    by_cases q : y.key = k ∧ y.m = m
    · rw [if_pos q, if_pos q, getB_none (b := t)]
      intro z hz q2
      exact ltB_irr (lt_eqB (cb.1 z hz) (⟨q2.1.trans q.1.symm, q2.2.trans q.2.symm⟩ : eqB z y))
    · rw [if_neg q, if_neg q]
/-- unions of books are the same in either order. -/
theorem fold_comm {a b : List BkZ} (ha : SortedB a) (hb : SortedB b) (wa : WtB a) (wb : WtB b) : foldB a b = foldB b a := by
  refine book_ext (foldB_sorted ha _) (foldB_sorted hb _) fun k m => ?_
  rw [getB_fold ha hb, getB_fold hb ha]
  cases h1 : getB a k m with
  | none => cases h2 : getB b k m with
    | none => rfl
    | some w => rfl
  | some v => cases h2 : getB b k m with
    | none => rfl
    | some w => show some (min (v + w) 1000000) = some (min (w + v) 1000000); rw [Int.add_comm]
/-- as often as a move is played. -/
def cntB (l : List BkZ) (k : Int) (m : MoveZ) : Int := ((l.filter fun y => decide (y.key = k ∧ y.m = m)).length : Int)
theorem cntB_cons (y : BkZ) (t : List BkZ) (k : Int) (m : MoveZ) : cntB (y :: t) k m = (if y.key = k ∧ y.m = m then 1 else 0) + cntB t k m := by
  unfold cntB
  by_cases q : y.key = k ∧ y.m = m <;> simp [q]
  omega
theorem cntB_nonneg (l : List BkZ) (k : Int) (m : MoveZ) : 0 ≤ cntB l k m := by unfold cntB; omega
theorem getB_fold_some {a l : List BkZ} (ha : SortedB a) (wt : Int) (h1 : 1 ≤ wt) (hl : ∀ y ∈ l, y.wt = wt) (k : Int) (m : MoveZ) (v : Int) (hv : getB a k m = some v) (hv2 : v ≤ 1000000) :
    getB (foldB a l) k m = some (min (v + cntB l k m * wt) 1000000) := by
  induction l generalizing a v with
  | nil => show getB a k m = _; rw [hv]; simp [cntB]; omega
  | cons y t ih =>
    show getB (foldB (addZ a y) t) k m = _
    have hw := hl y (by simp)
    have hg := getB_add ha y k m
    have ht : ∀ z ∈ t, z.wt = wt := fun z hz => hl z (by simp [hz])
    have hn : 0 ≤ cntB t k m * wt := Int.mul_nonneg (cntB_nonneg _ _ _) (by omega)
    rw [cntB_cons]
    by_cases q : y.key = k ∧ y.m = m
    · rw [if_pos q, hv, hw] at hg
      rw [ih (addZ_sorted ha) ht (min (v + wt) 1000000) hg (by omega), if_pos q, Int.add_mul, Int.one_mul]
      congr 1
      omega
    · rw [if_neg q, hv] at hg
      rw [ih (addZ_sorted ha) ht v hg hv2, if_neg q, Int.zero_add]
theorem getB_fold_none {l : List BkZ} (wt : Int) (h1 : 1 ≤ wt) (h2 : wt ≤ 1000000) (k : Int) (m : MoveZ) : ∀ {a : List BkZ}, SortedB a → (∀ y ∈ l, y.wt = wt) → getB a k m = none →
    getB (foldB a l) k m = if cntB l k m = 0 then none else some (min (cntB l k m * wt) 1000000) := by
  induction l with
  | nil => intro a ha hl hn; show getB a k m = _; rw [hn]; simp [cntB]
  | cons y t ih =>
    intro a ha hl hn
    show getB (foldB (addZ a y) t) k m = _
    have hw := hl y (by simp)
    have hg := getB_add ha y k m
    have ht : ∀ z ∈ t, z.wt = wt := fun z hz => hl z (by simp [hz])
    have hc := cntB_nonneg t k m
    rw [cntB_cons]
    by_cases q : y.key = k ∧ y.m = m
    · rw [if_pos q, hn, hw] at hg
      rw [getB_fold_some (addZ_sorted ha) wt h1 ht k m wt hg h2, if_pos q, if_neg (by omega), Int.add_mul, Int.one_mul]
    · rw [if_neg q, hn] at hg
      rw [ih (addZ_sorted ha) ht hg, if_neg q, Int.zero_add]
/-- a game that is added twice is the union of two books. -/
theorem fold_twice {l : List BkZ} {wt : Int} (h1 : 1 ≤ wt) (h2 : wt ≤ 1000000) (hl : ∀ y ∈ l, y.wt = wt) : foldB (foldB [] l) l = foldB (foldB [] l) (foldB [] l) := by
  have hs : SortedB (foldB [] l) := foldB_sorted List.Pairwise.nil l
  refine book_ext (foldB_sorted hs _) (foldB_sorted hs _) fun k m => ?_
  have ha := getB_fold_none wt h1 h2 k m (a := []) List.Pairwise.nil hl rfl
  rw [getB_fold hs hs]
  by_cases hc : cntB l k m = 0
  · rw [if_pos hc] at ha
    rw [ha, getB_fold_none wt h1 h2 k m hs hl ha, if_pos hc]
  · rw [if_neg hc] at ha
    have hcc := cntB_nonneg l k m
    have hp : 0 ≤ cntB l k m * wt := Int.mul_nonneg hcc (by omega)
    rw [ha, getB_fold_some hs wt h1 hl k m _ ha (by omega)]
    show _ = some (min (min (cntB l k m * wt) 1000000 + min (cntB l k m * wt) 1000000) 1000000)
    congr 1
    generalize cntB l k m * wt = z at *
    omega
/-- what was added is found. -/
theorem fold_found {a l : List BkZ} (ha : SortedB a) {x : BkZ} (hx : x ∈ l) : ∃ w, getB (foldB a l) x.key x.m = some w := by
  have keep : ∀ (l : List BkZ) {a : List BkZ}, SortedB a → (∃ w, getB a x.key x.m = some w) → ∃ w, getB (foldB a l) x.key x.m = some w := by
    intro l
    induction l with
    | nil => exact fun _ h => h
    | cons y t ih =>
      intro a ha ⟨w, hw⟩
      refine ih (addZ_sorted ha) ?_
      rw [getB_add ha]
      by_cases q : y.key = x.key ∧ y.m = x.m
      · rw [if_pos q, hw]; exact ⟨_, rfl⟩
      · rw [if_neg q]; exact ⟨w, hw⟩
  induction l generalizing a with
  | nil => cases hx
  | cons y t ih =>
    rcases List.mem_cons.1 hx with e | e
    · subst e
      refine keep t (addZ_sorted ha) ?_
      rw [getB_add ha, if_pos ⟨rfl, rfl⟩]
      cases getB a x.key x.m with
      | none => exact ⟨_, rfl⟩
      | some v => exact ⟨_, rfl⟩
    · exact ih (addZ_sorted ha) e
theorem posB_spec {b : List BkZ} (hs : SortedB b) (x : BkZ) : posB b x ≤ b.length ∧ ∀ h, h < b.length → (ordB (b.getD h default) x < 0 ↔ h < posB b x) := by
  induction b with
  | nil => exact ⟨by simp [posB], fun h hh => by simp at hh⟩
  | cons y t ih =>
    have hc := List.pairwise_cons.1 hs
    obtain ⟨i1, i2⟩ := ih hc.2
    by_cases hy : ordB y x < 0
    · have e : posB (y :: t) x = posB t x + 1 := by unfold posB; rw [List.takeWhile_cons, if_pos (by simpa using hy)]; rfl
      rw [e]
      refine ⟨by simp; omega, fun h hh => ?_⟩
      cases h with
      | zero => exact ⟨fun _ => by omega, fun _ => hy⟩
      | succ h =>
        have := i2 h (by simp at hh; omega)
        rw [List.getD_cons_succ, this]; omega
    · have e : posB (y :: t) x = 0 := by unfold posB; rw [List.takeWhile_cons, if_neg (by simpa using hy)]; rfl
      rw [e]
      refine ⟨by omega, fun h hh => ⟨fun k => ?_, fun k => by omega⟩⟩
      cases h with
      | zero => exact absurd k hy
      | succ h =>
        have hm : t.getD h default ∈ t := by
          simp at hh
          rw [List.getD_eq_getElem?_getD, List.getElem?_eq_getElem hh]; exact List.getElem_mem _
        rw [List.getD_cons_succ] at k
        exact absurd (ordB_neg.2 (ltB_trans (hc.1 _ hm) (ordB_neg.1 k))) hy
def hitB (b : List BkZ) (x : BkZ) : Bool := decide (posB b x < b.length) && decide (ordB (b.getD (posB b x) default) x = 0)
def sumWt (b : List BkZ) (x : BkZ) : BkZ := { b.getD (posB b x) default with wt := min ((b.getD (posB b x) default).wt + x.wt) 1000000 }
theorem addZ_at (b : List BkZ) (x : BkZ) : addZ b x = if hitB b x = true then b.set (posB b x) (sumWt b x) else b.take (posB b x) ++ x :: b.drop (posB b x) := by
  induction b with
  | nil => simp [addZ, hitB, posB]
  | cons y t ih =>
    by_cases hy : ordB y x < 0
    · have e : posB (y :: t) x = posB t x + 1 := by unfold posB; rw [List.takeWhile_cons, if_pos (by simpa using hy)]; rfl
      have eh : hitB (y :: t) x = hitB t x := by unfold hitB; rw [e]; simp
      have es : sumWt (y :: t) x = sumWt t x := by unfold sumWt; rw [e, List.getD_cons_succ]
      rw [addZ, if_pos hy, ih, eh, es, e]
      split <;> simp
    · have e : posB (y :: t) x = 0 := by unfold posB; rw [List.takeWhile_cons, if_neg (by simpa using hy)]; rfl
      rw [addZ, if_neg hy]
      by_cases hz : ordB y x = 0
      · rw [if_pos hz, if_pos (by unfold hitB; rw [e]; simpa using hz)]
        unfold sumWt
        rw [e]; simp
      · rw [if_neg hz, if_neg (by unfold hitB; rw [e]; simpa using hz), e]
        simp
theorem hitB_iff {b : List BkZ} (hs : SortedB b) (x : BkZ) : hitB b x = (getB b x.key x.m).isSome := by
  rw [Bool.eq_iff_iff]
  constructor
  · intro h
    unfold hitB at h
    simp only [Bool.and_eq_true, decide_eq_true_eq] at h
    obtain ⟨h1, h2⟩ := h
    have hm : b.getD (posB b x) default ∈ b := by rw [List.getD_eq_getElem?_getD, List.getElem?_eq_getElem h1]; exact List.getElem_mem _
    have he := ordB_zero.1 h2
    have := getB_mem hs hm
    rw [he.1, he.2] at this
    rw [this]; rfl
  · intro h
    rw [Option.isSome_iff_exists] at h
    obtain ⟨v, hv⟩ := h
    obtain ⟨i, hi, e⟩ := List.mem_iff_getElem.1 (getB_some hv)
    obtain ⟨p1, p2⟩ := posB_spec hs x
    have hd : b.getD i default = ⟨x.key, x.m, v⟩ := by rw [List.getD_eq_getElem?_getD, List.getElem?_eq_getElem hi, ← e]; rfl
    have h0 : ordB (b.getD i default) x = 0 := by rw [hd]; exact ordB_zero.2 ⟨rfl, rfl⟩
    have hn : ¬ i < posB b x := fun k => by have := (p2 i hi).2 k; omega
    have he : posB b x = i := by
      rcases Nat.lt_or_ge (posB b x) i with k | k
      · exfalso
        have hp : posB b x < b.length := by omega
        have hnn : ¬ ordB (b.getD (posB b x) default) x < 0 := fun q => by have := (p2 _ hp).1 q; omega
        have hlt : ltB (b.getD (posB b x) default) (b.getD i default) := by
          rw [List.getD_eq_getElem?_getD, List.getElem?_eq_getElem hp, List.getD_eq_getElem?_getD, List.getElem?_eq_getElem hi]
          exact List.pairwise_iff_getElem.1 hs _ _ hp hi k
        exact hnn (ordB_neg.2 (lt_eqB hlt (ordB_zero.1 h0)))
      · omega
    unfold hitB
    rw [he, h0]
    simp [hi]
/-! ### what Check says -/
def bkAt (b : List BkZ) (i : Nat) : Int := if (b.getD i default).wt < 1 ∨ 1000000 < (b.getD i default).wt then 4 else if 0 < i ∧ ¬ ordB (b.getD (i - 1) default) (b.getD i default) < 0 then 3 else 0
def bookErr (b : List BkZ) : Int := if 1000 < b.length then 2 else scanE (bkAt b) 0 b.length
theorem bookErr_ok {b : List BkZ} (h : bookErr b = 0) : b.length ≤ 1000 ∧ SortedB b ∧ WtB b := by
  unfold bookErr at h
  split at h
  · cases h
  · rename_i hl
    have hz := (scanE_zero (bkAt b) b.length 0).1 h
    have hw : ∀ i, i < b.length → (1 ≤ (b.getD i default).wt ∧ (b.getD i default).wt ≤ 1000000) ∧ (0 < i → ltB (b.getD (i - 1) default) (b.getD i default)) := by
      intro i hi
      have := hz i (by omega) (by omega)
      unfold bkAt at this
      split at this
      · cases this
      · split at this
        · cases this
        · rename_i h1 h2
          exact ⟨by omega, fun h0 => ordB_neg.1 (Decidable.not_not.1 fun hn => h2 ⟨h0, hn⟩)⟩
    refine ⟨by omega, ?_, fun x hx => ?_⟩
    · have chain : ∀ d i, i + d + 1 < b.length → ltB (b.getD i default) (b.getD (i + d + 1) default) := by
        intro d
        induction d with
        | zero => intro i hi; exact (hw (i + 1) hi).2 (by omega)
        | succ d ih =>
          intro i hi
          have h1 := ih i (by omega)
          have h2 := (hw (i + d + 1 + 1) (by omega)).2 (by omega)
          exact ltB_trans h1 h2
      refine List.pairwise_iff_getElem.2 fun i j hi hj hij => ?_
      have := chain (j - i - 1) i (by omega)
      rw [show i + (j - i - 1) + 1 = j by omega, List.getD_eq_getElem?_getD, List.getElem?_eq_getElem hi, List.getD_eq_getElem?_getD, List.getElem?_eq_getElem hj] at this
      exact this
    · obtain ⟨i, hi, rfl⟩ := List.mem_iff_getElem.1 hx
      have := (hw i hi).1
      rwa [List.getD_eq_getElem?_getD, List.getElem?_eq_getElem hi] at this
theorem bookErr_of {b : List BkZ} (hl : b.length ≤ 1000) (hs : SortedB b) (hw : WtB b) : bookErr b = 0 := by
  unfold bookErr
  rw [if_neg (by omega), scanE_zero]
  intro i _ hi
  have hi' : i < b.length := by omega
  have e : b.getD i default = b[i] := by rw [List.getD_eq_getElem?_getD, List.getElem?_eq_getElem hi']; rfl
  have h1 := hw b[i] (List.getElem_mem _)
  unfold bkAt
  rw [if_neg (by rw [e]; omega), if_neg]
  rintro ⟨h0, hn⟩
  refine hn (ordB_neg.2 ?_)
  have hj : i - 1 < b.length := by omega
  rw [e, List.getD_eq_getElem?_getD, List.getElem?_eq_getElem hj]
  exact List.pairwise_iff_getElem.1 hs _ _ hj hi' (by omega)
theorem mergeErr_same {a b : List BkZ} (ha : bookErr a = 0) (hb : bookErr b = 0) : foldB a b = foldB b a :=
  fold_comm (bookErr_ok ha).2.1 (bookErr_ok hb).2.1 (bookErr_ok ha).2.2 (bookErr_ok hb).2.2
/-! ### in memory -/
def bkEl : El BkZ where
  k := 5
  E := fun _ x cs => cs = [.int .u64 x.key, .int .i64 x.m.src, .int .i64 x.m.dst, .int .i64 x.m.piece, .int .i64 x.wt]
  mono := fun h _ _ => h
  len := fun h => by subst h; rfl
def flatK (l : List BkZ) : List Value := l.flatMap fun x => [.int .u64 x.key, .int .i64 x.m.src, .int .i64 x.m.dst, .int .i64 x.m.piece, .int .i64 x.wt]
theorem flatK_cons (x : BkZ) (t : List BkZ) : flatK (x :: t) = .int .u64 x.key :: .int .i64 x.m.src :: .int .i64 x.m.dst :: .int .i64 x.m.piece :: .int .i64 x.wt :: flatK t := rfl
theorem flatK_append (l t : List BkZ) : flatK (l ++ t) = flatK l ++ flatK t := by simp [flatK]
theorem flatK_len (l : List BkZ) : (flatK l).length = l.length * 5 := by
  induction l with
  | nil => rfl
  | cons m t ih => rw [flatK_cons]; simp only [List.length_cons, ih]; omega
theorem flatK_take (l : List BkZ) (k : Nat) : (flatK l).take (k * 5) = flatK (l.take k) := by
  induction l generalizing k with
  | nil => simp [flatK]
  | cons m t ih =>
    cases k with
    | zero => simp [flatK]
    | succ k =>
      rw [List.take_succ_cons, flatK_cons, flatK_cons, ← ih k, show (k + 1) * 5 = k * 5 + 1 + 1 + 1 + 1 + 1 by omega]
      simp only [List.take_succ_cons]
theorem flatK_drop (l : List BkZ) (k : Nat) : (flatK l).drop (k * 5) = flatK (l.drop k) := by
  induction l generalizing k with
  | nil => simp [flatK]
  | cons m t ih =>
    cases k with
    | zero => simp
    | succ k =>
      rw [List.drop_succ_cons, flatK_cons, ← ih k, show (k + 1) * 5 = k * 5 + 1 + 1 + 1 + 1 + 1 by omega]
      simp only [List.drop_succ_cons]
theorem flatK_at : ∀ (l : List BkZ) (i : Nat) (h : i < l.length), (flatK l)[i * 5]? = some (.int .u64 (l.getD i default).key) ∧ (flatK l)[i * 5 + 1]? = some (.int .i64 (l.getD i default).m.src) ∧ (flatK l)[i * 5 + 2]? = some (.int .i64 (l.getD i default).m.dst) ∧
    (flatK l)[i * 5 + 3]? = some (.int .i64 (l.getD i default).m.piece) ∧ (flatK l)[i * 5 + 4]? = some (.int .i64 (l.getD i default).wt)
  | r :: t, 0, _ => by rw [flatK_cons]; simp
  | r :: t, i + 1, h => by
    obtain ⟨a, b, c, d, e⟩ := flatK_at t i (by simpa using h)
    rw [flatK_cons, show (i + 1) * 5 = i * 5 + 1 + 1 + 1 + 1 + 1 by omega, show i * 5 + 1 + 1 + 1 + 1 + 1 + 2 = i * 5 + 2 + 1 + 1 + 1 + 1 + 1 by omega, show i * 5 + 1 + 1 + 1 + 1 + 1 + 3 = i * 5 + 3 + 1 + 1 + 1 + 1 + 1 by omega, show i * 5 + 1 + 1 + 1 + 1 + 1 + 4 = i * 5 + 4 + 1 + 1 + 1 + 1 + 1 by omega]
    simp only [List.getElem?_cons_succ, List.getD_cons_succ]
    exact ⟨a, b, c, d, e⟩
theorem bks_some {w : World} {a : Option Addr} {n c : Nat} {xs : List BkZ} (h : RdL bkEl w (.slice a n c) xs) (hn : 0 < xs.length) : ∃ g o, a = some ⟨g, o, none⟩ ∧ g < w.heap.size ∧
    ∀ i, i < xs.length → w.cell? ⟨g, o + i * 5, none⟩ = some (.int .u64 (xs.getD i default).key) ∧ w.cell? ⟨g, o + i * 5 + 1, none⟩ = some (.int .i64 (xs.getD i default).m.src) ∧
      w.cell? ⟨g, o + i * 5 + 2, none⟩ = some (.int .i64 (xs.getD i default).m.dst) ∧ w.cell? ⟨g, o + i * 5 + 3, none⟩ = some (.int .i64 (xs.getD i default).m.piece) ∧ w.cell? ⟨g, o + i * 5 + 4, none⟩ = some (.int .i64 (xs.getD i default).wt) := by
  obtain ⟨g, o, ha, hg, hc⟩ := h.some hn
  refine ⟨g, o, ha, hg, fun i hi => ?_⟩
  obtain ⟨cs, he, hx⟩ := hc i hi
  simp only [bkEl] at he hx
  subst he
  rw [List.getD_eq_getElem?_getD, List.getElem?_eq_getElem hi]
  exact ⟨hx 0 (by omega), hx 1 (by omega), hx 2 (by omega), hx 3 (by omega), hx 4 (by omega)⟩
theorem rdK_of_own {w : World} {b : Nat} {t : TypeId} {v : Value} {xs : List BkZ} (h : w.ownsRow b t 5 v xs.length (flatK xs)) : RdL bkEl w v xs := by
  refine RdL.of_own (el := bkEl) h fun i hi => ?_
  show ((flatK xs).drop (i * 5)).take 5 = _
  have hf := flatK_at xs i hi
  have e : xs.getD i default = xs[i] := by rw [List.getD_eq_getElem?_getD, List.getElem?_eq_getElem hi]; rfl
  rw [e] at hf
  obtain ⟨f0, f1, f2, f3, f4⟩ := hf
  apply List.ext_getElem?
  intro j
  by_cases hj : j < 5
  · rw [List.getElem?_take_of_lt hj, List.getElem?_drop]
    have h3 : j = 0 ∨ j = 1 ∨ j = 2 ∨ j = 3 ∨ j = 4 := by omega
    rcases h3 with rfl | rfl | rfl | rfl | rfl
    · rw [Nat.add_zero, f0]; rfl
    · rw [f1]; rfl
    · rw [f2]; rfl
    · rw [f3]; rfl
    · rw [f4]; rfl
  · rw [List.getElem?_take_eq_none (by omega), List.getElem?_eq_none (by simp; omega)]
theorem bk_one (w : World) (x : BkZ) (cs : List Value) (h : bkEl.E w x cs) : ∀ u ∈ cs, u.oneCell' = true := by
  intro u hu
  subst h
  simp at hu
  rcases hu with rfl | rfl | rfl | rfl | rfl <;> rfl
theorem flatK_of {w : World} : ∀ (xs : List BkZ) (vs : List Value), vs.length = xs.length * 5 → (∀ i (h : i < xs.length), bkEl.E w xs[i] ((vs.drop (i * 5)).take 5)) → vs = flatK xs
  | [], vs, hl, _ => by
    have : vs.length = 0 := by simpa using hl
    rw [List.length_eq_zero_iff.1 this]; rfl
  | x :: t, vs, hl, h => by
    have h0 : vs.take 5 = _ := h 0 (by simp)
    have ht : vs.drop 5 = flatK t := flatK_of (w := w) t (vs.drop 5) (by rw [List.length_drop, hl]; simp only [List.length_cons]; omega) (fun i hi => by
      have := h (i + 1) (by simpa using hi)
      rw [show (i + 1) * 5 = 5 + i * 5 by omega, ← List.drop_drop] at this
      simpa using this)
    rw [← List.take_append_drop 5 vs, h0, ht, flatK_cons]; rfl
theorem flatK_set (l : List BkZ) (k : Nat) (x : BkZ) (h : k < l.length) : flatK (l.set k x) = (flatK l).take (k * 5) ++ [.int .u64 x.key, .int .i64 x.m.src, .int .i64 x.m.dst, .int .i64 x.m.piece, .int .i64 x.wt] ++ (flatK l).drop (k * 5 + 5) := by
  rw [show k * 5 + 5 = (k + 1) * 5 by omega, flatK_take, flatK_drop, List.set_eq_take_append_cons_drop, if_pos h, flatK_append, flatK_cons]
  simp
end Go.Proofs.Ytkfaibdflbdpgaa
/- The contracts of book.order, Check, full. -/
namespace Go.Proofs.Ytkfaibdflbdpgaa
open Go.ChangeShapes Go.WideShapes Go.ChangeAt Go.RowKit
set_option linter.unusedVariables false

theorem isNaNU_any (x : Int) (w : World) : Calls Try.prog 175 #[.int .u64 x] w fun e w' => e = .returned (.bool false) ∧ w = w' := by
  go_enter Try.func175, Try.ntmps175
  go_wp2
  go_ret
  exact ⟨by simp, rfl⟩
theorem compareU_any (x y : Int) (w : World) : Calls Try.prog 152 #[.int .u64 x, .int .u64 y] w fun e w' => e = .returned (.int .i64 (cmpZ x y)) ∧ w = w' := by
  by_cases h1 : x < y
  · have HE : Hid (cmpZ x y = -1) := Lib.hid (by unfold cmpZ; rw [if_pos h1])
    go_enter Try.func152, Try.ntmps152
    go_wp2_with (go_at_call 175; refine (isNaNU_any _ _).mono ?_; rintro e w' ⟨rfl, rfl⟩)
    go_ret
    exact ⟨by rw [HE.out]; rfl, rfl⟩
  · by_cases h2 : y < x
    · have HE : Hid (cmpZ x y = 1) := Lib.hid (by unfold cmpZ; rw [if_neg h1, if_pos h2])
      go_enter Try.func152, Try.ntmps152
      go_wp2_with (go_at_call 175; refine (isNaNU_any _ _).mono ?_; rintro e w' ⟨rfl, rfl⟩)
      go_ret
      exact ⟨by rw [HE.out]; rfl, rfl⟩
    · have HE : Hid (cmpZ x y = 0) := Lib.hid (by unfold cmpZ; rw [if_neg h1, if_neg h2])
      go_enter Try.func152, Try.ntmps152
      go_wp2_with (go_at_call 175; refine (isNaNU_any _ _).mono ?_; rintro e w' ⟨rfl, rfl⟩)
      go_ret
      exact ⟨by rw [HE.out]; rfl, rfl⟩

theorem read4 {w w' : World} {x y z u : Int} (h : w' = w.alloc (.cells #[.int .i64 x, .int .i64 y, .int .i64 z, .int .i64 u] 3)) : RdI w' (.slice (some ⟨w.heap.size, 0, none⟩) 4 4) [x, y, z, u] := by
  subst h
  refine ⟨rfl, .inr ⟨w.heap.size, 0, 4, rfl, Nat.le_refl _, by unfold maxLen; decide, fun i hi => ?_⟩⟩
  have hi' : i = 0 ∨ i = 1 ∨ i = 2 ∨ i = 3 := by simp at hi; omega
  have hb := Box.new w [.int .i64 x, .int .i64 y, .int .i64 z, .int .i64 u] 3
  rcases hi' with rfl | rfl | rfl | rfl
  · exact hb.cell 0 rfl
  · exact hb.cell 1 rfl
  · exact hb.cell 2 rfl
  · exact hb.cell 3 rfl

theorem read4' {w w' : World} {x y z u : Int} (h : w' = (w.alloc (.cells #[.int .i64 x, .int .i64 y, .int .i64 z, .int .i64 u] 3)).drew) : RdI w' (.slice (some ⟨w.heap.size, 0, none⟩) 4 4) [x, y, z, u] := by
  subst h
  exact (read4 rfl).below (below_drewN (Below.refl _ _) 1) (Nat.le_refl _)
set_option maxRecDepth 100000 in
set_option maxHeartbeats 4000000 in
theorem order_any (x y : BkZ) (w : World) : Calls Try.prog 97 #[.agg #[.int .u64 x.key, .int .i64 x.m.src, .int .i64 x.m.dst, .int .i64 x.m.piece, .int .i64 x.wt], .agg #[.int .u64 y.key, .int .i64 y.m.src, .int .i64 y.m.dst, .int .i64 y.m.piece, .int .i64 y.wt]] w fun e w' => e = .returned (.int .i64 (ordB x y)) ∧ Below w.heap.size w w' := by
  have HO : Hid (ordB x y = orZ [cmpZ x.key y.key, cmpZ x.m.src y.m.src, cmpZ x.m.dst y.m.dst, cmpZ x.m.piece y.m.piece]) := Lib.hid rfl
  go_enter Try.func97, Try.ntmps97
  go_upto_region 1 with (fail)
  have B0 : Box ((w.alloc (.cells #[.int .u64 x.key, .int .i64 x.m.src, .int .i64 x.m.dst, .int .i64 x.m.piece, .int .i64 x.wt] 98)).alloc (.cells #[.int .u64 y.key, .int .i64 y.m.src, .int .i64 y.m.dst, .int .i64 y.m.piece, .int .i64 y.wt] 98)) (w.heap.size) [.int .u64 x.key, .int .i64 x.m.src, .int .i64 x.m.dst, .int .i64 x.m.piece, .int .i64 x.wt] 98 := ((Box.new' w (w.heap.size) [.int .u64 x.key, .int .i64 x.m.src, .int .i64 x.m.dst, .int .i64 x.m.piece, .int .i64 x.wt] 98 (by simp <;> omega)).alloc _)
  have B1 : Box ((w.alloc (.cells #[.int .u64 x.key, .int .i64 x.m.src, .int .i64 x.m.dst, .int .i64 x.m.piece, .int .i64 x.wt] 98)).alloc (.cells #[.int .u64 y.key, .int .i64 y.m.src, .int .i64 y.m.dst, .int .i64 y.m.piece, .int .i64 y.wt] 98)) (w.heap.size + 1) [.int .u64 y.key, .int .i64 y.m.src, .int .i64 y.m.dst, .int .i64 y.m.piece, .int .i64 y.wt] 98 := (Box.new' (w.alloc (.cells #[.int .u64 x.key, .int .i64 x.m.src, .int .i64 x.m.dst, .int .i64 x.m.piece, .int .i64 x.wt] 98)) (w.heap.size + 1) [.int .u64 y.key, .int .i64 y.m.src, .int .i64 y.m.dst, .int .i64 y.m.piece, .int .i64 y.wt] 98 (by simp <;> omega))
  have HB : Hid (Below w.heap.size w ((w.alloc (.cells #[.int .u64 x.key, .int .i64 x.m.src, .int .i64 x.m.dst, .int .i64 x.m.piece, .int .i64 x.wt] 98)).alloc (.cells #[.int .u64 y.key, .int .i64 y.m.src, .int .i64 y.m.dst, .int .i64 y.m.piece, .int .i64 y.wt] 98))) := Lib.hid (((Below.refl w.heap.size w).alloc (Nat.le_refl _) _).alloc (by simp <;> omega) _)
  have hz0 : w.heap.size + 1 < ((w.alloc (.cells #[.int .u64 x.key, .int .i64 x.m.src, .int .i64 x.m.dst, .int .i64 x.m.piece, .int .i64 x.wt] 98)).alloc (.cells #[.int .u64 y.key, .int .i64 y.m.src, .int .i64 y.m.dst, .int .i64 y.m.piece, .int .i64 y.wt] 98)).heap.size := by simp
  generalize ((w.alloc (.cells #[.int .u64 x.key, .int .i64 x.m.src, .int .i64 x.m.dst, .int .i64 x.m.piece, .int .i64 x.wt] 98)).alloc (.cells #[.int .u64 y.key, .int .i64 y.m.src, .int .i64 y.m.dst, .int .i64 y.m.piece, .int .i64 y.wt] 98)) = w0 at *
  generalize w0 = wq at *
  have Bxz : Box wq.drew w.heap.size [.int .u64 x.key, .int .i64 x.m.src, .int .i64 x.m.dst, .int .i64 x.m.piece, .int .i64 x.wt] 98 := B0
  have Byz : Box wq.drew (w.heap.size + 1) [.int .u64 y.key, .int .i64 y.m.src, .int .i64 y.m.dst, .int .i64 y.m.piece, .int .i64 y.wt] 98 := B1
  have Lz : Below w.heap.size w wq.drew := below_drewN HB.out 1
  clear B0 B1 HB hz0
  refine wp_region_noPanic ?_
  refine beginL (S := (fun w' => w'.cell? ⟨w.heap.size, 0, none⟩ = some (.int .u64 x.key) ∧ w'.cell? ⟨w.heap.size, 1, none⟩ = some (.int .i64 x.m.src) ∧ w'.cell? ⟨w.heap.size, 2, none⟩ = some (.int .i64 x.m.dst) ∧ w'.cell? ⟨w.heap.size, 3, none⟩ = some (.int .i64 x.m.piece) ∧ w'.cell? ⟨w.heap.size, 4, none⟩ = some (.int .i64 x.wt) ∧ w'.cell? ⟨w.heap.size + 1, 0, none⟩ = some (.int .u64 y.key) ∧ w'.cell? ⟨w.heap.size + 1, 1, none⟩ = some (.int .i64 y.m.src) ∧ w'.cell? ⟨w.heap.size + 1, 2, none⟩ = some (.int .i64 y.m.dst) ∧ w'.cell? ⟨w.heap.size + 1, 3, none⟩ = some (.int .i64 y.m.piece) ∧ w'.cell? ⟨w.heap.size + 1, 4, none⟩ = some (.int .i64 y.wt))) (L := []) (by kernel_rfl) ⟨Bxz.cell 0 rfl, Bxz.cell 1 rfl, Bxz.cell 2 rfl, Bxz.cell 3 rfl, Bxz.cell 4 rfl, Byz.cell 0 rfl, Byz.cell 1 rfl, Byz.cell 2 rfl, Byz.cell 3 rfl, Byz.cell 4 rfl⟩ (fun hHeld => ?_)
  refine takeW (i := 0) (oi := { dst := some 5, op := Op.fieldAddr 98 (Operand.tmp 2) 0, type := 0, pos := "book.go:22", after := #[], guard := none }) (v := ?va1) rfl (by kernel_rfl) (by kernel_rfl) (by kernel_rfl) rfl (fun _ _ _ h => h) (Or.inl ⟨by rfl, ?ya1⟩) (fun _ => by assumption) ?ra1
  case ya1 => (intro w _; go_simp; first | done | (with_reducible rfl))
  try simp only [Act.put, List.setIfInBounds_toArray, List.set_cons_zero, List.set_cons_succ]
  refine takeW (i := 2) (oi := { dst := some 7, op := Op.fieldAddr 98 (Operand.tmp 3) 0, type := 0, pos := "book.go:22", after := #[], guard := none }) (v := ?va2) rfl (by kernel_rfl) (by kernel_rfl) (by kernel_rfl) rfl (fun _ _ _ h => h) (Or.inl ⟨by rfl, ?ya2⟩) (fun _ => by assumption) ?ra2
  case ya2 => (intro w _; go_simp; first | done | (with_reducible rfl))
  try simp only [Act.put, List.setIfInBounds_toArray, List.set_cons_zero, List.set_cons_succ]
  refine takeW (i := 5) (oi := { dst := some 10, op := Op.fieldAddr 98 (Operand.tmp 2) 1, type := 0, pos := "book.go:22", after := #[], guard := none }) (v := ?va3) rfl (by kernel_rfl) (by kernel_rfl) (by kernel_rfl) rfl (fun _ _ _ h => h) (Or.inl ⟨by rfl, ?ya3⟩) (fun _ => by assumption) ?ra3
  case ya3 => (intro w _; go_simp; first | done | (with_reducible rfl))
  try simp only [Act.put, List.setIfInBounds_toArray, List.set_cons_zero, List.set_cons_succ]
  refine takeW (i := 8) (oi := { dst := some 13, op := Op.fieldAddr 98 (Operand.tmp 3) 1, type := 0, pos := "book.go:22", after := #[], guard := none }) (v := ?va4) rfl (by kernel_rfl) (by kernel_rfl) (by kernel_rfl) rfl (fun _ _ _ h => h) (Or.inl ⟨by rfl, ?ya4⟩) (fun _ => by assumption) ?ra4
  case ya4 => (intro w _; go_simp; first | done | (with_reducible rfl))
  try simp only [Act.put, List.setIfInBounds_toArray, List.set_cons_zero, List.set_cons_succ]
  refine takeW (i := 12) (oi := { dst := some 17, op := Op.fieldAddr 98 (Operand.tmp 2) 1, type := 0, pos := "book.go:22", after := #[], guard := none }) (v := ?va5) rfl (by kernel_rfl) (by kernel_rfl) (by kernel_rfl) rfl (fun _ _ _ h => h) (Or.inl ⟨by rfl, ?ya5⟩) (fun _ => by assumption) ?ra5
  case ya5 => (intro w _; go_simp; first | done | (with_reducible rfl))
  try simp only [Act.put, List.setIfInBounds_toArray, List.set_cons_zero, List.set_cons_succ]
  refine takeW (i := 15) (oi := { dst := some 20, op := Op.fieldAddr 98 (Operand.tmp 3) 1, type := 0, pos := "book.go:22", after := #[], guard := none }) (v := ?va6) rfl (by kernel_rfl) (by kernel_rfl) (by kernel_rfl) rfl (fun _ _ _ h => h) (Or.inl ⟨by rfl, ?ya6⟩) (fun _ => by assumption) ?ra6
  case ya6 => (intro w _; go_simp; first | done | (with_reducible rfl))
  try simp only [Act.put, List.setIfInBounds_toArray, List.set_cons_zero, List.set_cons_succ]
  refine takeW (i := 19) (oi := { dst := some 24, op := Op.fieldAddr 98 (Operand.tmp 2) 1, type := 0, pos := "book.go:22", after := #[], guard := none }) (v := ?va7) rfl (by kernel_rfl) (by kernel_rfl) (by kernel_rfl) rfl (fun _ _ _ h => h) (Or.inl ⟨by rfl, ?ya7⟩) (fun _ => by assumption) ?ra7
  case ya7 => (intro w _; go_simp; first | done | (with_reducible rfl))
  try simp only [Act.put, List.setIfInBounds_toArray, List.set_cons_zero, List.set_cons_succ]
  refine takeW (i := 22) (oi := { dst := some 27, op := Op.fieldAddr 98 (Operand.tmp 3) 1, type := 0, pos := "book.go:22", after := #[], guard := none }) (v := ?va8) rfl (by kernel_rfl) (by kernel_rfl) (by kernel_rfl) rfl (fun _ _ _ h => h) (Or.inl ⟨by rfl, ?ya8⟩) (fun _ => by assumption) ?ra8
  case ya8 => (intro w _; go_simp; first | done | (with_reducible rfl))
  try simp only [Act.put, List.setIfInBounds_toArray, List.set_cons_zero, List.set_cons_succ]
  refine takeL (i := 1) (oi := { dst := some 6, op := Op.load 96 (Operand.tmp 5), type := 96, pos := "book.go:22", after := #[{ on := 0, ground := Ground.data }], guard := none }) (v := ?va9) rfl (by kernel_rfl) (by kernel_rfl) (by kernel_rfl) (by kernel_rfl) rfl (by kernel_rfl) (by kernel_rfl) (fun _ _ _ h => h) (Or.inl ⟨by rfl, ?ya9⟩) (by assumption) ?ra9
  case ya9 => (intro w hSw; (try dsimp only at hSw); go_simp; first | done | (with_reducible rfl))
  try simp only [Act.put, List.setIfInBounds_toArray, List.set_cons_zero, List.set_cons_succ]
  refine takeL (i := 3) (oi := { dst := some 8, op := Op.load 96 (Operand.tmp 7), type := 96, pos := "book.go:22", after := #[{ on := 2, ground := Ground.data }], guard := none }) (v := ?va10) rfl (by kernel_rfl) (by kernel_rfl) (by kernel_rfl) (by kernel_rfl) rfl (by kernel_rfl) (by kernel_rfl) (fun _ _ _ h => h) (Or.inl ⟨by rfl, ?ya10⟩) (by assumption) ?ra10
  case ya10 => (intro w hSw; (try dsimp only at hSw); go_simp; first | done | (with_reducible rfl))
  try simp only [Act.put, List.setIfInBounds_toArray, List.set_cons_zero, List.set_cons_succ]
  refine takeW (i := 6) (oi := { dst := some 11, op := Op.fieldAddr 42 (Operand.tmp 10) 0, type := 0, pos := "book.go:22", after := #[{ on := 5, ground := Ground.data }], guard := none }) (v := ?va11) rfl (by kernel_rfl) (by kernel_rfl) (by kernel_rfl) rfl (fun _ _ _ h => h) (Or.inl ⟨by rfl, ?ya11⟩) (fun _ => by assumption) ?ra11
  case ya11 => (intro w _; go_simp; first | done | (with_reducible rfl))
  try simp only [Act.put, List.setIfInBounds_toArray, List.set_cons_zero, List.set_cons_succ]
  refine takeW (i := 9) (oi := { dst := some 14, op := Op.fieldAddr 42 (Operand.tmp 13) 0, type := 0, pos := "book.go:22", after := #[{ on := 8, ground := Ground.data }], guard := none }) (v := ?va12) rfl (by kernel_rfl) (by kernel_rfl) (by kernel_rfl) rfl (fun _ _ _ h => h) (Or.inl ⟨by rfl, ?ya12⟩) (fun _ => by assumption) ?ra12
  case ya12 => (intro w _; go_simp; first | done | (with_reducible rfl))
  try simp only [Act.put, List.setIfInBounds_toArray, List.set_cons_zero, List.set_cons_succ]
  refine takeW (i := 13) (oi := { dst := some 18, op := Op.fieldAddr 42 (Operand.tmp 17) 1, type := 0, pos := "book.go:22", after := #[{ on := 12, ground := Ground.data }], guard := none }) (v := ?va13) rfl (by kernel_rfl) (by kernel_rfl) (by kernel_rfl) rfl (fun _ _ _ h => h) (Or.inl ⟨by rfl, ?ya13⟩) (fun _ => by assumption) ?ra13
  case ya13 => (intro w _; go_simp; first | done | (with_reducible rfl))
  try simp only [Act.put, List.setIfInBounds_toArray, List.set_cons_zero, List.set_cons_succ]
  refine takeW (i := 16) (oi := { dst := some 21, op := Op.fieldAddr 42 (Operand.tmp 20) 1, type := 0, pos := "book.go:22", after := #[{ on := 15, ground := Ground.data }], guard := none }) (v := ?va14) rfl (by kernel_rfl) (by kernel_rfl) (by kernel_rfl) rfl (fun _ _ _ h => h) (Or.inl ⟨by rfl, ?ya14⟩) (fun _ => by assumption) ?ra14
  case ya14 => (intro w _; go_simp; first | done | (with_reducible rfl))
  try simp only [Act.put, List.setIfInBounds_toArray, List.set_cons_zero, List.set_cons_succ]
  refine takeW (i := 20) (oi := { dst := some 25, op := Op.fieldAddr 42 (Operand.tmp 24) 2, type := 0, pos := "book.go:22", after := #[{ on := 19, ground := Ground.data }], guard := none }) (v := ?va15) rfl (by kernel_rfl) (by kernel_rfl) (by kernel_rfl) rfl (fun _ _ _ h => h) (Or.inl ⟨by rfl, ?ya15⟩) (fun _ => by assumption) ?ra15
  case ya15 => (intro w _; go_simp; first | done | (with_reducible rfl))
  try simp only [Act.put, List.setIfInBounds_toArray, List.set_cons_zero, List.set_cons_succ]
  refine takeW (i := 23) (oi := { dst := some 28, op := Op.fieldAddr 42 (Operand.tmp 27) 2, type := 0, pos := "book.go:22", after := #[{ on := 22, ground := Ground.data }], guard := none }) (v := ?va16) rfl (by kernel_rfl) (by kernel_rfl) (by kernel_rfl) rfl (fun _ _ _ h => h) (Or.inl ⟨by rfl, ?ya16⟩) (fun _ => by assumption) ?ra16
  case ya16 => (intro w _; go_simp; first | done | (with_reducible rfl))
  try simp only [Act.put, List.setIfInBounds_toArray, List.set_cons_zero, List.set_cons_succ]
  refine takeL (i := 7) (oi := { dst := some 12, op := Op.load 3 (Operand.tmp 11), type := 3, pos := "book.go:22", after := #[{ on := 6, ground := Ground.data }], guard := none }) (v := ?va17) rfl (by kernel_rfl) (by kernel_rfl) (by kernel_rfl) (by kernel_rfl) rfl (by kernel_rfl) (by kernel_rfl) (fun _ _ _ h => h) (Or.inl ⟨by rfl, ?ya17⟩) (by assumption) ?ra17
  case ya17 => (intro w hSw; (try dsimp only at hSw); go_simp; first | done | (with_reducible rfl))
  try simp only [Act.put, List.setIfInBounds_toArray, List.set_cons_zero, List.set_cons_succ]
  refine takeL (i := 10) (oi := { dst := some 15, op := Op.load 3 (Operand.tmp 14), type := 3, pos := "book.go:22", after := #[{ on := 9, ground := Ground.data }], guard := none }) (v := ?va18) rfl (by kernel_rfl) (by kernel_rfl) (by kernel_rfl) (by kernel_rfl) rfl (by kernel_rfl) (by kernel_rfl) (fun _ _ _ h => h) (Or.inl ⟨by rfl, ?ya18⟩) (by assumption) ?ra18
  case ya18 => (intro w hSw; (try dsimp only at hSw); go_simp; first | done | (with_reducible rfl))
  try simp only [Act.put, List.setIfInBounds_toArray, List.set_cons_zero, List.set_cons_succ]
  refine takeL (i := 14) (oi := { dst := some 19, op := Op.load 3 (Operand.tmp 18), type := 3, pos := "book.go:22", after := #[{ on := 13, ground := Ground.data }], guard := none }) (v := ?va19) rfl (by kernel_rfl) (by kernel_rfl) (by kernel_rfl) (by kernel_rfl) rfl (by kernel_rfl) (by kernel_rfl) (fun _ _ _ h => h) (Or.inl ⟨by rfl, ?ya19⟩) (by assumption) ?ra19
  case ya19 => (intro w hSw; (try dsimp only at hSw); go_simp; first | done | (with_reducible rfl))
  try simp only [Act.put, List.setIfInBounds_toArray, List.set_cons_zero, List.set_cons_succ]
  refine takeL (i := 17) (oi := { dst := some 22, op := Op.load 3 (Operand.tmp 21), type := 3, pos := "book.go:22", after := #[{ on := 16, ground := Ground.data }], guard := none }) (v := ?va20) rfl (by kernel_rfl) (by kernel_rfl) (by kernel_rfl) (by kernel_rfl) rfl (by kernel_rfl) (by kernel_rfl) (fun _ _ _ h => h) (Or.inl ⟨by rfl, ?ya20⟩) (by assumption) ?ra20
  case ya20 => (intro w hSw; (try dsimp only at hSw); go_simp; first | done | (with_reducible rfl))
  try simp only [Act.put, List.setIfInBounds_toArray, List.set_cons_zero, List.set_cons_succ]
  refine takeL (i := 21) (oi := { dst := some 26, op := Op.load 3 (Operand.tmp 25), type := 3, pos := "book.go:22", after := #[{ on := 20, ground := Ground.data }], guard := none }) (v := ?va21) rfl (by kernel_rfl) (by kernel_rfl) (by kernel_rfl) (by kernel_rfl) rfl (by kernel_rfl) (by kernel_rfl) (fun _ _ _ h => h) (Or.inl ⟨by rfl, ?ya21⟩) (by assumption) ?ra21
  case ya21 => (intro w hSw; (try dsimp only at hSw); go_simp; first | done | (with_reducible rfl))
  try simp only [Act.put, List.setIfInBounds_toArray, List.set_cons_zero, List.set_cons_succ]
  refine takeL (i := 24) (oi := { dst := some 29, op := Op.load 3 (Operand.tmp 28), type := 3, pos := "book.go:22", after := #[{ on := 23, ground := Ground.data }], guard := none }) (v := ?va22) rfl (by kernel_rfl) (by kernel_rfl) (by kernel_rfl) (by kernel_rfl) rfl (by kernel_rfl) (by kernel_rfl) (fun _ _ _ h => h) (Or.inl ⟨by rfl, ?ya22⟩) (by assumption) ?ra22
  case ya22 => (intro w hSw; (try dsimp only at hSw); go_simp; first | done | (with_reducible rfl))
  try simp only [Act.put, List.setIfInBounds_toArray, List.set_cons_zero, List.set_cons_succ]
  refine readyL (rs := [4]) (by kernel_rfl) (by simp) ?_
  refine (AllReadyL.cons (o := { dst := some 9, op := Op.call { callee := Callee.value (Operand.func 152), args := #[Operand.tmp 6, Operand.tmp 8], argTypes := #[96, 96] }, type := 3, pos := "book.go:22", after := #[{ on := 1, ground := Ground.data }, { on := 3, ground := Ground.data }], guard := none }) rfl (fun K hK => ?_) AllReadyL.nil)
  go_simp
  refine (compareU_any _ _ _).mono ?_
  rintro e w' ⟨rfl, rfl⟩
  refine hK.out _ _ ⟨Bxz.cell 0 rfl, Bxz.cell 1 rfl, Bxz.cell 2 rfl, Bxz.cell 3 rfl, Bxz.cell 4 rfl, Byz.cell 0 rfl, Byz.cell 1 rfl, Byz.cell 2 rfl, Byz.cell 3 rfl, Byz.cell 4 rfl⟩ (fun hHeld => ?_)
  clear hK K
  try simp only [Act.put, List.setIfInBounds_toArray, List.set_cons_zero, List.set_cons_succ]
  refine readyL (rs := [11]) (by kernel_rfl) (by simp) ?_
  refine (AllReadyL.cons (o := { dst := some 16, op := Op.call { callee := Callee.value (Operand.func 111), args := #[Operand.tmp 12, Operand.tmp 15], argTypes := #[3, 3] }, type := 3, pos := "book.go:22", after := #[{ on := 7, ground := Ground.data }, { on := 10, ground := Ground.data }, { on := 4, ground := Ground.chain }], guard := none }) rfl (fun K hK => ?_) AllReadyL.nil)
  go_simp
  refine (compare_any _ _ _).mono ?_
  rintro e w' ⟨rfl, rfl⟩
  refine hK.out _ _ ⟨Bxz.cell 0 rfl, Bxz.cell 1 rfl, Bxz.cell 2 rfl, Bxz.cell 3 rfl, Bxz.cell 4 rfl, Byz.cell 0 rfl, Byz.cell 1 rfl, Byz.cell 2 rfl, Byz.cell 3 rfl, Byz.cell 4 rfl⟩ (fun hHeld => ?_)
  clear hK K
  try simp only [Act.put, List.setIfInBounds_toArray, List.set_cons_zero, List.set_cons_succ]
  refine readyL (rs := [18]) (by kernel_rfl) (by simp) ?_
  refine (AllReadyL.cons (o := { dst := some 23, op := Op.call { callee := Callee.value (Operand.func 111), args := #[Operand.tmp 19, Operand.tmp 22], argTypes := #[3, 3] }, type := 3, pos := "book.go:22", after := #[{ on := 14, ground := Ground.data }, { on := 17, ground := Ground.data }, { on := 11, ground := Ground.chain }], guard := none }) rfl (fun K hK => ?_) AllReadyL.nil)
  go_simp
  refine (compare_any _ _ _).mono ?_
  rintro e w' ⟨rfl, rfl⟩
  refine hK.out _ _ ⟨Bxz.cell 0 rfl, Bxz.cell 1 rfl, Bxz.cell 2 rfl, Bxz.cell 3 rfl, Bxz.cell 4 rfl, Byz.cell 0 rfl, Byz.cell 1 rfl, Byz.cell 2 rfl, Byz.cell 3 rfl, Byz.cell 4 rfl⟩ (fun hHeld => ?_)
  clear hK K
  try simp only [Act.put, List.setIfInBounds_toArray, List.set_cons_zero, List.set_cons_succ]
  refine readyL (rs := [25]) (by kernel_rfl) (by simp) ?_
  refine (AllReadyL.cons (o := { dst := some 30, op := Op.call { callee := Callee.value (Operand.func 111), args := #[Operand.tmp 26, Operand.tmp 29], argTypes := #[3, 3] }, type := 3, pos := "book.go:22", after := #[{ on := 21, ground := Ground.data }, { on := 24, ground := Ground.data }, { on := 18, ground := Ground.chain }], guard := none }) rfl (fun K hK => ?_) AllReadyL.nil)
  go_simp
  refine (compare_any _ _ _).mono ?_
  rintro e w' ⟨rfl, rfl⟩
  refine hK.out _ _ ⟨Bxz.cell 0 rfl, Bxz.cell 1 rfl, Bxz.cell 2 rfl, Bxz.cell 3 rfl, Bxz.cell 4 rfl, Byz.cell 0 rfl, Byz.cell 1 rfl, Byz.cell 2 rfl, Byz.cell 3 rfl, Byz.cell 4 rfl⟩ (fun hHeld => ?_)
  clear hK K
  try simp only [Act.put, List.setIfInBounds_toArray, List.set_cons_zero, List.set_cons_succ]
  refine readyL (rs := [26]) (by kernel_rfl) (by simp) ?_
  refine (AllReadyL.cons (o := { dst := some 31, op := Op.buildSlice 23 4 #[(0, Operand.tmp 9), (1, Operand.tmp 16), (2, Operand.tmp 23), (3, Operand.tmp 30)], type := 23, pos := "book.go:22", after := #[{ on := 4, ground := Ground.data }, { on := 11, ground := Ground.data }, { on := 18, ground := Ground.data }, { on := 25, ground := Ground.data }], guard := none }) rfl (fun K hK => ?_) AllReadyL.nil)
  go_simp
  refine K_world ?_
  intro w9 e9
  have Bx9 : Box w9 w.heap.size [.int .u64 x.key, .int .i64 x.m.src, .int .i64 x.m.dst, .int .i64 x.m.piece, .int .i64 x.wt] 98 := by rw [e9]; exact Bxz.alloc _
  have By9 : Box w9 (w.heap.size + 1) [.int .u64 y.key, .int .i64 y.m.src, .int .i64 y.m.dst, .int .i64 y.m.piece, .int .i64 y.wt] 98 := by rw [e9]; exact Byz.alloc _
  have L9 : Below w.heap.size w w9 := by rw [e9]; exact Lz.alloc Lz.size _
  first | have R9 := read4 e9 | have R9 := read4' e9
  clear e9
  refine hK.out _ _ ⟨Bx9.cell 0 rfl, Bx9.cell 1 rfl, Bx9.cell 2 rfl, Bx9.cell 3 rfl, Bx9.cell 4 rfl, By9.cell 0 rfl, By9.cell 1 rfl, By9.cell 2 rfl, By9.cell 3 rfl, By9.cell 4 rfl⟩ (fun hHeld => ?_)
  clear hK K
  try simp only [Act.put, List.setIfInBounds_toArray, List.set_cons_zero, List.set_cons_succ]
  refine readyL (rs := [27]) (by kernel_rfl) (by simp) ?_
  refine (AllReadyL.cons (o := { dst := some 32, op := Op.call { callee := Callee.value (Operand.func 110), args := #[Operand.tmp 31], argTypes := #[23] }, type := 3, pos := "book.go:22", after := #[{ on := 26, ground := Ground.data }, { on := 25, ground := Ground.chain }], guard := none }) rfl (fun K hK => ?_) AllReadyL.nil)
  go_simp
  refine (or_any _ _ _ R9 (by simp)).mono ?_
  rintro e w' ⟨rfl, rfl⟩
  refine hK.out _ _ ⟨Bx9.cell 0 rfl, Bx9.cell 1 rfl, Bx9.cell 2 rfl, Bx9.cell 3 rfl, Bx9.cell 4 rfl, By9.cell 0 rfl, By9.cell 1 rfl, By9.cell 2 rfl, By9.cell 3 rfl, By9.cell 4 rfl⟩ (fun hHeld => ?_)
  clear hK K
  try simp only [Act.put, List.setIfInBounds_toArray, List.set_cons_zero, List.set_cons_succ]
  refine takeW (i := 28) (oi := { dst := some 4, op := Op.assign (Operand.tmp 32), type := 3, pos := "book.go:22", after := #[{ on := 27, ground := Ground.data }, { on := 27, ground := Ground.chain }, { on := 0, ground := Ground.phase }, { on := 1, ground := Ground.phase }, { on := 2, ground := Ground.phase }, { on := 3, ground := Ground.phase }, { on := 4, ground := Ground.phase }, { on := 5, ground := Ground.phase }, { on := 6, ground := Ground.phase }, { on := 7, ground := Ground.phase }, { on := 8, ground := Ground.phase }, { on := 9, ground := Ground.phase }, { on := 10, ground := Ground.phase }, { on := 11, ground := Ground.phase }, { on := 12, ground := Ground.phase }, { on := 13, ground := Ground.phase }, { on := 14, ground := Ground.phase }, { on := 15, ground := Ground.phase }, { on := 16, ground := Ground.phase }, { on := 17, ground := Ground.phase }, { on := 18, ground := Ground.phase }, { on := 19, ground := Ground.phase }, { on := 20, ground := Ground.phase }, { on := 21, ground := Ground.phase }, { on := 22, ground := Ground.phase }, { on := 23, ground := Ground.phase }, { on := 24, ground := Ground.phase }, { on := 25, ground := Ground.phase }, { on := 26, ground := Ground.phase }, { on := 27, ground := Ground.phase }], guard := none }) (v := ?va23) rfl (by kernel_rfl) (by kernel_rfl) (by kernel_rfl) rfl (fun _ _ _ h => h) (Or.inl ⟨by rfl, ?ya23⟩) (fun _ => by assumption) ?ra23
  case ya23 => (intro w _; go_simp; first | done | (with_reducible rfl))
  try simp only [Act.put, List.setIfInBounds_toArray, List.set_cons_zero, List.set_cons_succ]
  refine doneL (by kernel_rfl) ?_ _
  refine NoPanic.normal ?_
  have HL9 := Lib.hid L9
  clear L9 Bx9 By9 R9 Bxz Byz Lz hHeld
  go_wp2_with fail
  go_ret
  exact ⟨by rw [HO.out]; rfl, HL9.out⟩

theorem bkAt_bad {b : List BkZ} {k : Nat} (h : (b.getD k default).wt < 1 ∨ 1000000 < (b.getD k default).wt) : bkAt b k = 4 := by unfold bkAt; rw [if_pos h]
theorem bkAt_zero {b : List BkZ} (h : ¬ ((b.getD 0 default).wt < 1 ∨ 1000000 < (b.getD 0 default).wt)) : bkAt b 0 = 0 := by unfold bkAt; rw [if_neg h, if_neg (by omega)]
theorem bkAt_good {b : List BkZ} {j : Nat} (h : ¬ ((b.getD (j + 1) default).wt < 1 ∨ 1000000 < (b.getD (j + 1) default).wt)) : (ordB (b.getD j default) (b.getD (j + 1) default) < 0 → bkAt b (j + 1) = 0) ∧ (¬ ordB (b.getD j default) (b.getD (j + 1) default) < 0 → bkAt b (j + 1) = 3) := by
  unfold bkAt
  rw [if_neg h]
  exact ⟨fun q => by rw [if_neg (fun r => r.2 q)], fun q => by rw [if_pos ⟨by omega, q⟩]⟩
set_option maxRecDepth 100000 in
set_option maxHeartbeats 4000000 in
theorem bkCheck_any (v : Value) (b : List BkZ) (w : World) (h : RdL bkEl w v b) : Calls Try.prog 91 #[v] w fun e w' => e = .returned (.int .i64 (bookErr b)) ∧ Below w.heap.size w w' := by
  have HR := Lib.hid h
  obtain ⟨a, c, rfl, h1, h2⟩ := h.form
  unfold maxLen at h2
  clear h
  by_cases hbig : 1000 < b.length
  · have HE : Hid (bookErr b = 2) := Lib.hid (by unfold bookErr; rw [if_pos hbig])
    have hI : (1000 : Int) < b.length := by omega
    clear hbig
    go_enter Try.func91, Try.ntmps91
    go_wp2_with fail
    go_ret
    exact ⟨by rw [HE.out]; rfl, Below.refl _ _⟩
  have HE0 : Hid (bookErr b = scanE (bkAt b) 0 (b.length - 0)) := Lib.hid (by unfold bookErr; rw [if_neg hbig]; rfl)
  have hI : ¬ (1000 : Int) < b.length := by omega
  go_enter Try.func91, Try.ntmps91
  go_wp2_with fail
  go_loopw [10, 3, 4] (fun vi vj vp wr => ∃ k : Nat, k ≤ b.length ∧ vi = .int .i64 k ∧ Hid (scanE (bkAt b) 0 (b.length - 0) = scanE (bkAt b) k (b.length - k)) ∧ Hid (Below w.heap.size w wr)) (fun i _ _ _ => b.length - (intOf i).toNat)
  case atStart => exact ⟨0, Nat.zero_le _, rfl, Lib.hid rfl, Lib.hid (Below.refl _ _)⟩
  case round =>
    obtain ⟨k, hk, rfl, HK, HBr⟩ := hrel
    have hsz := HBr.out.size
    by_cases hlt : k < b.length
    · obtain ⟨g, o, rfl, hg, hcc⟩ := bks_some (HR.out.below HBr.out (Nat.le_refl _)) (by omega)
      obtain ⟨c0, c1, c2, c3, c4⟩ := hcc k hlt
      have HS := Lib.hid (scanE_step (bkAt b) k b.length hlt)
      by_cases hw : (b.getD k default).wt < 1 ∨ 1000000 < (b.getD k default).wt
      · have HB := Lib.hid (bkAt_bad hw)
        clear hcc
        generalize b.getD k default = x at *
        go_upto_region 6 with (fail)
        have HX := Lib.hid (Box.new wr [.int .u64 x.key, .int .i64 x.m.src, .int .i64 x.m.dst, .int .i64 x.m.piece, .int .i64 x.wt] 98)
        have HL := Lib.hid (HBr.out.alloc HBr.out.size (.cells #[.int .u64 x.key, .int .i64 x.m.src, .int .i64 x.m.dst, .int .i64 x.m.piece, .int .i64 x.wt] 98))
        clear c0 c1 c2 c3 c4
        generalize (wr.alloc (.cells #[.int .u64 x.key, .int .i64 x.m.src, .int .i64 x.m.dst, .int .i64 x.m.piece, .int .i64 x.wt] 98)) = w1 at *
        have d4 := HX.out.cell 4 rfl
        rcases hw with hw | hw
        · go_wp2_with fail
          go_ret
          exact ⟨by rw [HE0.out, HK.out, HS.out, if_neg (by rw [HB.out]; decide), HB.out]; rfl, HL.out⟩
        · go_wp2_with fail
          go_ret
          exact ⟨by rw [HE0.out, HK.out, HS.out, if_neg (by rw [HB.out]; decide), HB.out]; rfl, HL.out⟩
      rcases k with _ | j
      · have HB := Lib.hid (bkAt_zero hw)
        clear hcc
        simp only [Nat.zero_mul, Nat.add_zero] at c0 c1 c2 c3 c4
        generalize b.getD 0 default = x at *
        have hw1 : ¬ x.wt < 1 := by omega
        have hw2 : ¬ 1000000 < x.wt := by omega
        clear hw
        go_upto_region 6 with (fail)
        have HX := Lib.hid (Box.new wr [.int .u64 x.key, .int .i64 x.m.src, .int .i64 x.m.dst, .int .i64 x.m.piece, .int .i64 x.wt] 98)
        have HL := Lib.hid (HBr.out.alloc HBr.out.size (.cells #[.int .u64 x.key, .int .i64 x.m.src, .int .i64 x.m.dst, .int .i64 x.m.piece, .int .i64 x.wt] 98))
        clear c0 c1 c2 c3 c4
        generalize (wr.alloc (.cells #[.int .u64 x.key, .int .i64 x.m.src, .int .i64 x.m.dst, .int .i64 x.m.piece, .int .i64 x.wt] 98)) = w1 at *
        have d4 := HX.out.cell 4 rfl
        go_wp2_with fail
        go_quiet (fail)
        go_wp2_with fail
        go_roundw
        case rel => exact ⟨0 + 1, by omega, by go_num, Lib.hid (by rw [HS.out, if_pos HB.out]), Lib.hid (below_drewN HL.out _)⟩
        case measure => simp [intOf]; omega
      · have HGD := Lib.hid (bkAt_good hw).1
        have HBD := Lib.hid (bkAt_good hw).2
        obtain ⟨e0, e1, e2, e3, e4⟩ := hcc j (by omega)
        have hj : j < b.length := by omega
        clear hcc
        generalize b.getD (j + 1) default = x at *
        generalize b.getD j default = y at *
        have hw1 : ¬ x.wt < 1 := by omega
        have hw2 : ¬ 1000000 < x.wt := by omega
        clear hw
        go_upto_region 6 with (fail)
        have HX := Lib.hid (Box.new wr [.int .u64 x.key, .int .i64 x.m.src, .int .i64 x.m.dst, .int .i64 x.m.piece, .int .i64 x.wt] 98)
        have HL := Lib.hid (HBr.out.alloc HBr.out.size (.cells #[.int .u64 x.key, .int .i64 x.m.src, .int .i64 x.m.dst, .int .i64 x.m.piece, .int .i64 x.wt] 98))
        have ha : Below wr.heap.size wr (wr.alloc (.cells #[.int .u64 x.key, .int .i64 x.m.src, .int .i64 x.m.dst, .int .i64 x.m.piece, .int .i64 x.wt] 98)) := (Below.refl _ _).alloc (Nat.le_refl _) _
        have Hy : Hid ((wr.alloc (.cells #[.int .u64 x.key, .int .i64 x.m.src, .int .i64 x.m.dst, .int .i64 x.m.piece, .int .i64 x.wt] 98)).cell? ⟨g, o + j * 5, none⟩ = some (.int .u64 y.key) ∧ (wr.alloc (.cells #[.int .u64 x.key, .int .i64 x.m.src, .int .i64 x.m.dst, .int .i64 x.m.piece, .int .i64 x.wt] 98)).cell? ⟨g, o + j * 5 + 1, none⟩ = some (.int .i64 y.m.src) ∧ (wr.alloc (.cells #[.int .u64 x.key, .int .i64 x.m.src, .int .i64 x.m.dst, .int .i64 x.m.piece, .int .i64 x.wt] 98)).cell? ⟨g, o + j * 5 + 2, none⟩ = some (.int .i64 y.m.dst) ∧ (wr.alloc (.cells #[.int .u64 x.key, .int .i64 x.m.src, .int .i64 x.m.dst, .int .i64 x.m.piece, .int .i64 x.wt] 98)).cell? ⟨g, o + j * 5 + 3, none⟩ = some (.int .i64 y.m.piece) ∧ (wr.alloc (.cells #[.int .u64 x.key, .int .i64 x.m.src, .int .i64 x.m.dst, .int .i64 x.m.piece, .int .i64 x.wt] 98)).cell? ⟨g, o + j * 5 + 4, none⟩ = some (.int .i64 y.wt)) := Lib.hid ⟨(ha.cell hg).trans e0, (ha.cell hg).trans e1, (ha.cell hg).trans e2, (ha.cell hg).trans e3, (ha.cell hg).trans e4⟩
        have hg1 : g < (wr.alloc (.cells #[.int .u64 x.key, .int .i64 x.m.src, .int .i64 x.m.dst, .int .i64 x.m.piece, .int .i64 x.wt] 98)).heap.size := Nat.lt_of_lt_of_le hg ha.size
        clear ha
        clear c0 c1 c2 c3 c4 e0 e1 e2 e3 e4
        generalize (wr.alloc (.cells #[.int .u64 x.key, .int .i64 x.m.src, .int .i64 x.m.dst, .int .i64 x.m.piece, .int .i64 x.wt] 98)) = w1 at *
        have d4 := HX.out.cell 4 rfl
        have hwj : IntKind.i64.wrap (j : Int) = (j : Int) := IntWalk.i64_in _ (by omega)
        have hj0 : (0 : Int) ≤ (j : Int) := by omega
        have hjb : (j : Int) < (b.length : Int) := by omega
        go_upto_region 8 with (fail)
        clear d4
        generalize w1 = wq at *
        have Bxz : Box wq.drew wr.heap.size [.int .u64 x.key, .int .i64 x.m.src, .int .i64 x.m.dst, .int .i64 x.m.piece, .int .i64 x.wt] 98 := HX.out
        have Hyz : wq.drew.cell? ⟨g, o + j * 5, none⟩ = some (.int .u64 y.key) ∧ wq.drew.cell? ⟨g, o + j * 5 + 1, none⟩ = some (.int .i64 y.m.src) ∧ wq.drew.cell? ⟨g, o + j * 5 + 2, none⟩ = some (.int .i64 y.m.dst) ∧ wq.drew.cell? ⟨g, o + j * 5 + 3, none⟩ = some (.int .i64 y.m.piece) ∧ wq.drew.cell? ⟨g, o + j * 5 + 4, none⟩ = some (.int .i64 y.wt) := Hy.out
        have hgz : g < wq.drew.heap.size := hg1
        have Lz : Below w.heap.size w wq.drew := below_drewN HL.out 1
        clear HX HL Hy hg1
        refine wp_region_noPanic ?_
        refine beginL (S := (fun w' => w'.cell? ⟨wr.heap.size, 0, none⟩ = some (.int .u64 x.key) ∧ w'.cell? ⟨wr.heap.size, 1, none⟩ = some (.int .i64 x.m.src) ∧ w'.cell? ⟨wr.heap.size, 2, none⟩ = some (.int .i64 x.m.dst) ∧ w'.cell? ⟨wr.heap.size, 3, none⟩ = some (.int .i64 x.m.piece) ∧ w'.cell? ⟨wr.heap.size, 4, none⟩ = some (.int .i64 x.wt) ∧ w'.cell? ⟨g, o + j * 5, none⟩ = some (.int .u64 y.key) ∧ w'.cell? ⟨g, o + j * 5 + 1, none⟩ = some (.int .i64 y.m.src) ∧ w'.cell? ⟨g, o + j * 5 + 2, none⟩ = some (.int .i64 y.m.dst) ∧ w'.cell? ⟨g, o + j * 5 + 3, none⟩ = some (.int .i64 y.m.piece) ∧ w'.cell? ⟨g, o + j * 5 + 4, none⟩ = some (.int .i64 y.wt))) (L := []) (by kernel_rfl) ⟨Bxz.cell 0 rfl, Bxz.cell 1 rfl, Bxz.cell 2 rfl, Bxz.cell 3 rfl, Bxz.cell 4 rfl, Hyz.1, Hyz.2.1, Hyz.2.2.1, Hyz.2.2.2.1, Hyz.2.2.2.2⟩ (fun hHeld => ?_)
        refine takeW (i := 0) (oi := { dst := some 23, op := Op.move (Operand.tmp 3), type := 3, pos := "book.go:34", after := #[], guard := none }) (v := ?va1) rfl (by kernel_rfl) (by kernel_rfl) (by kernel_rfl) rfl (fun _ _ _ h => h) (Or.inl ⟨by rfl, ?ya1⟩) (fun _ => by assumption) ?ra1
        case ya1 => (intro w _; go_simp; first | done | (with_reducible rfl))
        try simp only [Act.put, List.setIfInBounds_toArray, List.set_cons_zero, List.set_cons_succ]
        refine takeW (i := 1) (oi := { dst := some 24, op := Op.binOp BinOp.gtr 3 (Operand.tmp 23) (Operand.const (Value.int IntKind.i64 0)) 3, type := 4, pos := "book.go:34", after := #[{ on := 0, ground := Ground.data }], guard := none }) (v := ?va2) rfl (by kernel_rfl) (by kernel_rfl) (by kernel_rfl) rfl (fun _ _ _ h => h) (Or.inl ⟨by rfl, ?ya2⟩) (fun _ => by assumption) ?ra2
        case ya2 => (intro w _; go_simp; first | done | (with_reducible rfl))
        try simp only [Act.put, List.setIfInBounds_toArray, List.set_cons_zero, List.set_cons_succ]
        refine takeW (i := 2) (oi := { dst := some 25, op := Op.move (Operand.tmp 24), type := 4, pos := "book.go:34", after := #[{ on := 1, ground := Ground.data }], guard := none }) (v := ?va3) rfl (by kernel_rfl) (by kernel_rfl) (by kernel_rfl) rfl (fun _ _ _ h => h) (Or.inl ⟨by rfl, ?ya3⟩) (fun _ => by assumption) ?ra3
        case ya3 => (intro w _; go_simp; first | done | (with_reducible rfl))
        try simp only [Act.put, List.setIfInBounds_toArray, List.set_cons_zero, List.set_cons_succ]
        refine takeW (i := 3) (oi := { dst := some 26, op := Op.move (Operand.tmp 0), type := 88, pos := "book.go:34", after := #[{ on := 2, ground := Ground.guard }], guard := some (2, true) }) (v := ?va4) rfl (by kernel_rfl) (by kernel_rfl) (by kernel_rfl) rfl (fun _ _ _ h => h) (Or.inl ⟨by rfl, ?ya4⟩) (fun _ => by assumption) ?ra4
        case ya4 => (intro w _; go_simp; first | done | (with_reducible rfl))
        try simp only [Act.put, List.setIfInBounds_toArray, List.set_cons_zero, List.set_cons_succ]
        refine takeW (i := 4) (oi := { dst := some 27, op := Op.move (Operand.tmp 3), type := 3, pos := "book.go:34", after := #[{ on := 2, ground := Ground.guard }], guard := some (2, true) }) (v := ?va5) rfl (by kernel_rfl) (by kernel_rfl) (by kernel_rfl) rfl (fun _ _ _ h => h) (Or.inl ⟨by rfl, ?ya5⟩) (fun _ => by assumption) ?ra5
        case ya5 => (intro w _; go_simp; first | done | (with_reducible rfl))
        try simp only [Act.put, List.setIfInBounds_toArray, List.set_cons_zero, List.set_cons_succ]
        refine takeL (i := 8) (oi := { dst := some 31, op := Op.load 98 (Operand.tmp 4), type := 98, pos := "book.go:34", after := #[{ on := 2, ground := Ground.guard }], guard := some (2, true) }) (v := ?va6) rfl (by kernel_rfl) (by kernel_rfl) (by kernel_rfl) (by kernel_rfl) rfl (by kernel_rfl) (by kernel_rfl) (fun _ _ _ h => h) (Or.inl ⟨by rfl, ?ya6⟩) (by assumption) ?ra6
        case ya6 => (intro w hSw; (try dsimp only at hSw); go_simp; first | done | (with_reducible rfl))
        try simp only [Act.put, List.setIfInBounds_toArray, List.set_cons_zero, List.set_cons_succ]
        refine takeW (i := 5) (oi := { dst := some 28, op := Op.binOp BinOp.sub 3 (Operand.tmp 27) (Operand.const (Value.int IntKind.i64 1)) 3, type := 3, pos := "book.go:34", after := #[{ on := 4, ground := Ground.data }, { on := 2, ground := Ground.guard }], guard := some (2, true) }) (v := ?va7) rfl (by kernel_rfl) (by kernel_rfl) (by kernel_rfl) rfl (fun _ _ _ h => h) (Or.inl ⟨by rfl, ?ya7⟩) (fun _ => by assumption) ?ra7
        case ya7 => (intro w _; go_simp; first | done | (with_reducible rfl))
        try simp only [Act.put, List.setIfInBounds_toArray, List.set_cons_zero, List.set_cons_succ]
        refine takeW (i := 6) (oi := { dst := some 29, op := Op.indexAddr 88 (Operand.tmp 26) (Operand.tmp 28), type := 0, pos := "book.go:34", after := #[{ on := 3, ground := Ground.data }, { on := 5, ground := Ground.data }, { on := 2, ground := Ground.guard }], guard := some (2, true) }) (v := ?va8) rfl (by kernel_rfl) (by kernel_rfl) (by kernel_rfl) rfl (fun _ _ _ h => h) (Or.inl ⟨by rfl, ?ya8⟩) (fun _ => by assumption) ?ra8
        case ya8 => (intro w _; go_simp; first | done | (with_reducible rfl))
        try simp only [Act.put, List.setIfInBounds_toArray, List.set_cons_zero, List.set_cons_succ]
        refine takeL (i := 7) (oi := { dst := some 30, op := Op.load 98 (Operand.tmp 29), type := 98, pos := "book.go:34", after := #[{ on := 6, ground := Ground.data }, { on := 2, ground := Ground.guard }], guard := some (2, true) }) (v := ?va9) rfl (by kernel_rfl) (by kernel_rfl) (by kernel_rfl) (by kernel_rfl) rfl (by kernel_rfl) (by kernel_rfl) (fun _ _ _ h => h) (Or.inl ⟨by rfl, ?ya9⟩) (by assumption) ?ra9
        case ya9 => (intro w hSw; (try dsimp only at hSw); go_simp; first | done | (with_reducible rfl))
        try simp only [Act.put, List.setIfInBounds_toArray, List.set_cons_zero, List.set_cons_succ]
        refine readyL (rs := [9]) (by kernel_rfl) (by simp) ?_
        refine (AllReadyL.cons (o := { dst := some 32, op := Op.call { callee := Callee.value (Operand.func 97), args := #[Operand.tmp 30, Operand.tmp 31], argTypes := #[98, 98] }, type := 3, pos := "book.go:34", after := #[{ on := 7, ground := Ground.data }, { on := 8, ground := Ground.data }, { on := 2, ground := Ground.chain }, { on := 2, ground := Ground.guard }], guard := some (2, true) }) rfl (fun K hK => ?_) AllReadyL.nil)
        go_simp
        refine (order_any y x _).mono ?_
        rintro e w8 ⟨rfl, hb8⟩
        have L8 := below_trans Lz hb8 Lz.size
        have Bx8 := Bxz.stays hb8
        have Hy8 : w8.cell? ⟨g, o + j * 5, none⟩ = some (.int .u64 y.key) ∧ w8.cell? ⟨g, o + j * 5 + 1, none⟩ = some (.int .i64 y.m.src) ∧ w8.cell? ⟨g, o + j * 5 + 2, none⟩ = some (.int .i64 y.m.dst) ∧ w8.cell? ⟨g, o + j * 5 + 3, none⟩ = some (.int .i64 y.m.piece) ∧ w8.cell? ⟨g, o + j * 5 + 4, none⟩ = some (.int .i64 y.wt) := ⟨(hb8.cell hgz).trans Hyz.1, (hb8.cell hgz).trans Hyz.2.1, (hb8.cell hgz).trans Hyz.2.2.1, (hb8.cell hgz).trans Hyz.2.2.2.1, (hb8.cell hgz).trans Hyz.2.2.2.2⟩
        clear hb8
        refine hK.out _ _ ⟨Bx8.cell 0 rfl, Bx8.cell 1 rfl, Bx8.cell 2 rfl, Bx8.cell 3 rfl, Bx8.cell 4 rfl, Hy8.1, Hy8.2.1, Hy8.2.2.1, Hy8.2.2.2.1, Hy8.2.2.2.2⟩ (fun hHeld => ?_)
        clear hK K
        try simp only [Act.put, List.setIfInBounds_toArray, List.set_cons_zero, List.set_cons_succ]
        refine takeW (i := 10) (oi := { dst := some 33, op := Op.binOp BinOp.geq 3 (Operand.tmp 32) (Operand.const (Value.int IntKind.i64 0)) 3, type := 4, pos := "book.go:34", after := #[{ on := 9, ground := Ground.data }, { on := 2, ground := Ground.guard }], guard := some (2, true) }) (v := ?va10) rfl (by kernel_rfl) (by kernel_rfl) (by kernel_rfl) rfl (fun _ _ _ h => h) (Or.inl ⟨by rfl, ?ya10⟩) (fun _ => by assumption) ?ra10
        case ya10 => (intro w _; go_simp; first | done | (with_reducible rfl))
        try simp only [Act.put, List.setIfInBounds_toArray, List.set_cons_zero, List.set_cons_succ]
        refine takeW (i := 11) (oi := { dst := some 34, op := Op.pick (Operand.tmp 25) (Operand.tmp 33) (Operand.const (Value.bool false)), type := 4, pos := "book.go:34", after := #[{ on := 2, ground := Ground.data }, { on := 10, ground := Ground.data }], guard := none }) (v := ?va11) rfl (by kernel_rfl) (by kernel_rfl) (by kernel_rfl) rfl (fun _ _ _ h => h) (Or.inl ⟨by rfl, ?ya11⟩) (fun _ => by assumption) ?ra11
        case ya11 => (intro w _; go_simp; first | done | (with_reducible rfl))
        try simp only [Act.put, List.setIfInBounds_toArray, List.set_cons_zero, List.set_cons_succ]
        refine doneL (by kernel_rfl) ?_ _
        refine NoPanic.normal ?_
        have HL8 := Lib.hid L8
        clear L8 Bx8 Hy8 Lz Bxz Hyz hHeld
        by_cases hlt8 : ordB y x < 0
        · have HN := Lib.hid (HGD.out hlt8)
          go_wp2_with fail
          go_roundw
          case rel => exact ⟨j + 1 + 1, by omega, by go_num, Lib.hid (by rw [HK.out, HS.out, if_pos HN.out]), HL8⟩
          case measure => simp [intOf]; omega
        · have HN := Lib.hid (HBD.out hlt8)
          have hge : 0 ≤ ordB y x := by omega
          go_wp2_with fail
          go_ret
          exact ⟨by rw [HE0.out, HK.out, HS.out, if_neg (by rw [HN.out]; decide), HN.out]; rfl, HL8.out⟩
    · obtain rfl : k = b.length := by omega
      have HE : Hid (bookErr b = 0) := Lib.hid (by rw [HE0.out, HK.out, Nat.sub_self]; rfl)
      go_wp2_with fail
      go_ret
      exact ⟨by rw [HE.out]; rfl, HBr.out⟩

theorem full_any (a : Option Addr) (n c : Nat) (w : World) (hn : n ≤ 1000000) : Calls Try.prog 95 #[.slice a n c] w fun e w' => w = w' ∧ e = .returned (if 1000 < n then .tuple #[.slice none 0 0, .int .i64 9] else .tuple #[.slice a n c, .int .i64 0]) := by
  by_cases h : 1000 < n
  · have HE : Hid ((if 1000 < n then Value.tuple #[.slice none 0 0, .int .i64 9] else .tuple #[.slice a n c, .int .i64 0]) = .tuple #[.slice none 0 0, .int .i64 9]) := Lib.hid (if_pos h)
    have hI : (1000 : Int) < n := by omega
    go_enter Try.func95, Try.ntmps95
    go_wp2
    go_ret2
    exact ⟨rfl, by first | rfl | (rw [HE.out]; rfl)⟩
  · have HE : Hid ((if 1000 < n then Value.tuple #[.slice none 0 0, .int .i64 9] else .tuple #[.slice a n c, .int .i64 0]) = .tuple #[.slice a n c, .int .i64 0]) := Lib.hid (if_neg h)
    have hI : ¬ (1000 : Int) < n := by omega
    go_enter Try.func95, Try.ntmps95
    go_wp2
    go_ret2
    exact ⟨rfl, by first | rfl | (rw [HE.out]; rfl)⟩

end Go.Proofs.Ytkfaibdflbdpgaa
/- slices.BinarySearchFunc at books. -/
namespace Go.Proofs.Ytkfaibdflbdpgaa
open Go.ChangeShapes Go.WideShapes Go.ChangeAt Go.RowKit
set_option linter.unusedVariables false

theorem callOrder (args : Array Value) (w : World) : (callFunc 97 args).run Try.prog w = .ok (.enter 97 args) w := by kernel_rfl
set_option maxRecDepth 100000 in
set_option maxHeartbeats 4000000 in
theorem bsearch_any (v : Value) (b : List BkZ) (x : BkZ) (w : World) (h : RdL bkEl w v b) (hs : SortedB b) (hl : b.length ≤ 1000000) :
    Calls Try.prog 96 #[v, .agg #[.int .u64 x.key, .int .i64 x.m.src, .int .i64 x.m.dst, .int .i64 x.m.piece, .int .i64 x.wt], .func (.func 97) #[] #[]] w fun e w' => e = .returned (.tuple #[.int .i64 (posB b x), .bool (hitB b x)]) ∧ Below w.heap.size w w' := by
  have HR := Lib.hid h
  have HS := Lib.hid (posB_spec hs x)
  obtain ⟨a, c, rfl, h1, h2⟩ := h.form
  clear h hs
  have hcall := callOrder
  go_enter Try.func96, Try.ntmps96
  go_upto_region 1 with (fail)
  have B0 : Box (w.alloc (.cells #[.int .u64 x.key, .int .i64 x.m.src, .int .i64 x.m.dst, .int .i64 x.m.piece, .int .i64 x.wt] 98)) (w.heap.size) [.int .u64 x.key, .int .i64 x.m.src, .int .i64 x.m.dst, .int .i64 x.m.piece, .int .i64 x.wt] 98 := (Box.new' w (w.heap.size) [.int .u64 x.key, .int .i64 x.m.src, .int .i64 x.m.dst, .int .i64 x.m.piece, .int .i64 x.wt] 98 (by simp <;> omega))
  have HB : Hid (Below w.heap.size w (w.alloc (.cells #[.int .u64 x.key, .int .i64 x.m.src, .int .i64 x.m.dst, .int .i64 x.m.piece, .int .i64 x.wt] 98))) := Lib.hid ((Below.refl w.heap.size w).alloc (Nat.le_refl _) _)
  have hz0 : w.heap.size < (w.alloc (.cells #[.int .u64 x.key, .int .i64 x.m.src, .int .i64 x.m.dst, .int .i64 x.m.piece, .int .i64 x.wt] 98)).heap.size := by simp
  generalize (w.alloc (.cells #[.int .u64 x.key, .int .i64 x.m.src, .int .i64 x.m.dst, .int .i64 x.m.piece, .int .i64 x.wt] 98)) = w0 at *
  have HX0 := Lib.hid B0
  clear B0
  have hp0 := HS.out.1
  go_wp2_with fail
  go_loopw [9, 10, 11] (fun vi vj vh wr => ∃ i j : Nat, vi = .int .i64 i ∧ vj = .int .i64 j ∧ i ≤ posB b x ∧ posB b x ≤ j ∧ j ≤ b.length ∧ Hid (Box wr w.heap.size [.int .u64 x.key, .int .i64 x.m.src, .int .i64 x.m.dst, .int .i64 x.m.piece, .int .i64 x.wt] 98) ∧ Hid (Below w.heap.size w wr)) (fun vi vj _ _ => (intOf vj).toNat - (intOf vi).toNat)
  case atStart => exact ⟨0, b.length, rfl, rfl, Nat.zero_le _, hp0, Nat.le_refl _, HX0, HB⟩
  case round =>
    obtain ⟨i, j, rfl, rfl, hi, hj, hjl, HX, HBr⟩ := hrel
    by_cases hlt : i < j
    · obtain ⟨g, o, rfl, hg, hcc⟩ := bks_some (HR.out.below HBr.out (Nat.le_refl _)) (by omega)
      obtain ⟨h, hh⟩ : ∃ h : Nat, (i + j) / 2 = h := ⟨_, rfl⟩
      have hih : i ≤ h := by omega
      have hhj : h < j := by omega
      have hhI : ((i : Int) + (j : Int)) / 2 = (h : Int) := by omega
      obtain ⟨e0, e1, e2, e3, e4⟩ := hcc h (by omega)
      have HSP := Lib.hid (HS.out.2 h (by omega))
      clear hcc hh
      generalize b.getD h default = y at *
      go_upto_region 5 with (fail)
      try rw [hhI]
      clear hhI
      have hh0 : (0 : Int) ≤ (h : Int) := by omega
      have hhb : (h : Int) < (b.length : Int) := by omega
      generalize wr = wq at *
      have Bxz : Box wq.drew w.heap.size [.int .u64 x.key, .int .i64 x.m.src, .int .i64 x.m.dst, .int .i64 x.m.piece, .int .i64 x.wt] 98 := HX.out
      have Hyz : wq.drew.cell? ⟨g, o + h * 5, none⟩ = some (.int .u64 y.key) ∧ wq.drew.cell? ⟨g, o + h * 5 + 1, none⟩ = some (.int .i64 y.m.src) ∧ wq.drew.cell? ⟨g, o + h * 5 + 2, none⟩ = some (.int .i64 y.m.dst) ∧ wq.drew.cell? ⟨g, o + h * 5 + 3, none⟩ = some (.int .i64 y.m.piece) ∧ wq.drew.cell? ⟨g, o + h * 5 + 4, none⟩ = some (.int .i64 y.wt) := ⟨e0, e1, e2, e3, e4⟩
      have hgz : g < wq.drew.heap.size := hg
      have Lz : Below w.heap.size w wq.drew := below_drewN HBr.out 1
      clear HX HBr hg e0 e1 e2 e3 e4
      refine wp_region_noPanic ?_
      refine beginL (S := (fun w' => w'.cell? ⟨w.heap.size, 0, none⟩ = some (.int .u64 x.key) ∧ w'.cell? ⟨w.heap.size, 1, none⟩ = some (.int .i64 x.m.src) ∧ w'.cell? ⟨w.heap.size, 2, none⟩ = some (.int .i64 x.m.dst) ∧ w'.cell? ⟨w.heap.size, 3, none⟩ = some (.int .i64 x.m.piece) ∧ w'.cell? ⟨w.heap.size, 4, none⟩ = some (.int .i64 x.wt) ∧ w'.cell? ⟨g, o + h * 5, none⟩ = some (.int .u64 y.key) ∧ w'.cell? ⟨g, o + h * 5 + 1, none⟩ = some (.int .i64 y.m.src) ∧ w'.cell? ⟨g, o + h * 5 + 2, none⟩ = some (.int .i64 y.m.dst) ∧ w'.cell? ⟨g, o + h * 5 + 3, none⟩ = some (.int .i64 y.m.piece) ∧ w'.cell? ⟨g, o + h * 5 + 4, none⟩ = some (.int .i64 y.wt))) (L := []) (by kernel_rfl) ⟨Bxz.cell 0 rfl, Bxz.cell 1 rfl, Bxz.cell 2 rfl, Bxz.cell 3 rfl, Bxz.cell 4 rfl, Hyz.1, Hyz.2.1, Hyz.2.2.1, Hyz.2.2.2.1, Hyz.2.2.2.2⟩ (fun hHeld => ?_)
      refine takeW (i := 0) (oi := { dst := some 24, op := Op.move (Operand.tmp 2), type := 147, pos := "sort.go:160", after := #[], guard := none }) (v := ?va1) rfl (by kernel_rfl) (by kernel_rfl) (by kernel_rfl) rfl (fun _ _ _ h => h) (Or.inl ⟨by rfl, ?ya1⟩) (fun _ => by assumption) ?ra1
      case ya1 => (intro w _; go_simp; first | done | (with_reducible rfl))
      try simp only [Act.put, List.setIfInBounds_toArray, List.set_cons_zero, List.set_cons_succ]
      refine takeW (i := 1) (oi := { dst := some 25, op := Op.move (Operand.tmp 0), type := 88, pos := "sort.go:160", after := #[], guard := none }) (v := ?va2) rfl (by kernel_rfl) (by kernel_rfl) (by kernel_rfl) rfl (fun _ _ _ h => h) (Or.inl ⟨by rfl, ?ya2⟩) (fun _ => by assumption) ?ra2
      case ya2 => (intro w _; go_simp; first | done | (with_reducible rfl))
      try simp only [Act.put, List.setIfInBounds_toArray, List.set_cons_zero, List.set_cons_succ]
      refine takeW (i := 2) (oi := { dst := some 26, op := Op.move (Operand.tmp 11), type := 3, pos := "sort.go:160", after := #[], guard := none }) (v := ?va3) rfl (by kernel_rfl) (by kernel_rfl) (by kernel_rfl) rfl (fun _ _ _ h => h) (Or.inl ⟨by rfl, ?ya3⟩) (fun _ => by assumption) ?ra3
      case ya3 => (intro w _; go_simp; first | done | (with_reducible rfl))
      try simp only [Act.put, List.setIfInBounds_toArray, List.set_cons_zero, List.set_cons_succ]
      refine takeL (i := 5) (oi := { dst := some 29, op := Op.load 98 (Operand.tmp 4), type := 98, pos := "sort.go:160", after := #[], guard := none }) (v := ?va4) rfl (by kernel_rfl) (by kernel_rfl) (by kernel_rfl) (by kernel_rfl) rfl (by kernel_rfl) (by kernel_rfl) (fun _ _ _ h => h) (Or.inl ⟨by rfl, ?ya4⟩) (by assumption) ?ra4
      case ya4 => (intro w hSw; (try dsimp only at hSw); go_simp; first | done | (with_reducible rfl))
      try simp only [Act.put, List.setIfInBounds_toArray, List.set_cons_zero, List.set_cons_succ]
      refine takeW (i := 3) (oi := { dst := some 27, op := Op.indexAddr 88 (Operand.tmp 25) (Operand.tmp 26), type := 0, pos := "sort.go:160", after := #[{ on := 1, ground := Ground.data }, { on := 2, ground := Ground.data }], guard := none }) (v := ?va5) rfl (by kernel_rfl) (by kernel_rfl) (by kernel_rfl) rfl (fun _ _ _ h => h) (Or.inl ⟨by rfl, ?ya5⟩) (fun _ => by assumption) ?ra5
      case ya5 => (intro w _; go_simp; first | done | (with_reducible rfl))
      try simp only [Act.put, List.setIfInBounds_toArray, List.set_cons_zero, List.set_cons_succ]
      refine takeL (i := 4) (oi := { dst := some 28, op := Op.load 98 (Operand.tmp 27), type := 98, pos := "sort.go:160", after := #[{ on := 3, ground := Ground.data }], guard := none }) (v := ?va6) rfl (by kernel_rfl) (by kernel_rfl) (by kernel_rfl) (by kernel_rfl) rfl (by kernel_rfl) (by kernel_rfl) (fun _ _ _ h => h) (Or.inl ⟨by rfl, ?ya6⟩) (by assumption) ?ra6
      case ya6 => (intro w hSw; (try dsimp only at hSw); go_simp; first | done | (with_reducible rfl))
      try simp only [Act.put, List.setIfInBounds_toArray, List.set_cons_zero, List.set_cons_succ]
      refine readyL (rs := [6]) (by kernel_rfl) (by simp) ?_
      refine (AllReadyL.cons (o := { dst := some 30, op := Op.call { callee := Callee.value (Operand.tmp 24), args := #[Operand.tmp 28, Operand.tmp 29], argTypes := #[98, 98] }, type := 3, pos := "sort.go:160", after := #[{ on := 0, ground := Ground.data }, { on := 4, ground := Ground.data }, { on := 5, ground := Ground.data }], guard := none }) rfl (fun K hK => ?_) AllReadyL.nil)
      go_simp
      refine (order_any y x _).mono ?_
      rintro e w8 ⟨rfl, hb8⟩
      have L8 := below_trans Lz hb8 Lz.size
      have Bx8 := Bxz.stays hb8
      have Hy8 : w8.cell? ⟨g, o + h * 5, none⟩ = some (.int .u64 y.key) ∧ w8.cell? ⟨g, o + h * 5 + 1, none⟩ = some (.int .i64 y.m.src) ∧ w8.cell? ⟨g, o + h * 5 + 2, none⟩ = some (.int .i64 y.m.dst) ∧ w8.cell? ⟨g, o + h * 5 + 3, none⟩ = some (.int .i64 y.m.piece) ∧ w8.cell? ⟨g, o + h * 5 + 4, none⟩ = some (.int .i64 y.wt) := ⟨(hb8.cell hgz).trans Hyz.1, (hb8.cell hgz).trans Hyz.2.1, (hb8.cell hgz).trans Hyz.2.2.1, (hb8.cell hgz).trans Hyz.2.2.2.1, (hb8.cell hgz).trans Hyz.2.2.2.2⟩
      clear hb8
      refine hK.out _ _ ⟨Bx8.cell 0 rfl, Bx8.cell 1 rfl, Bx8.cell 2 rfl, Bx8.cell 3 rfl, Bx8.cell 4 rfl, Hy8.1, Hy8.2.1, Hy8.2.2.1, Hy8.2.2.2.1, Hy8.2.2.2.2⟩ (fun hHeld => ?_)
      clear hK K
      try simp only [Act.put, List.setIfInBounds_toArray, List.set_cons_zero, List.set_cons_succ]
      refine takeW (i := 7) (oi := { dst := some 31, op := Op.binOp BinOp.lss 3 (Operand.tmp 30) (Operand.const (Value.int IntKind.i64 0)) 3, type := 4, pos := "sort.go:160", after := #[{ on := 6, ground := Ground.data }], guard := none }) (v := ?va7) rfl (by kernel_rfl) (by kernel_rfl) (by kernel_rfl) rfl (fun _ _ _ h => h) (Or.inl ⟨by rfl, ?ya7⟩) (fun _ => by assumption) ?ra7
      case ya7 => (intro w _; go_simp; first | done | (with_reducible rfl))
      try simp only [Act.put, List.setIfInBounds_toArray, List.set_cons_zero, List.set_cons_succ]
      refine doneL (by kernel_rfl) ?_ _
      refine NoPanic.normal ?_
      have HL8 := Lib.hid L8
      have HX8 := Lib.hid Bx8
      clear L8 Bx8 Hy8 Lz Bxz Hyz hHeld
      by_cases hlt8 : ordB y x < 0
      · have HN := Lib.hid (HSP.out.1 hlt8)
        go_wp2_with fail
        go_roundw
        case rel => exact ⟨h + 1, j, by go_num, rfl, HN.out, by omega, by omega, HX8, HL8⟩
        case measure => simp [intOf]; omega
      · have HN : Hid (posB b x ≤ h) := Lib.hid (Nat.le_of_not_lt fun q => hlt8 (HSP.out.2 q))
        go_wp2_with fail
        go_roundw
        case rel => exact ⟨i, h, rfl, by go_num, by omega, HN.out, by omega, HX8, HL8⟩
        case measure => simp [intOf]; omega
    · have HPI : Hid (posB b x = i) := Lib.hid (by omega)
      by_cases hil : i < b.length
      · obtain ⟨g, o, rfl, hg, hcc⟩ := bks_some (HR.out.below HBr.out (Nat.le_refl _)) (by omega)
        obtain ⟨e0, e1, e2, e3, e4⟩ := hcc i hil
        obtain ⟨y, hy⟩ : ∃ y, b.getD i default = y := ⟨_, rfl⟩
        have HYE := Lib.hid hy
        rw [hy] at e0 e1 e2 e3 e4
        clear hcc hy
        go_upto_region 8 with (fail)
        have hh0 : (0 : Int) ≤ (i : Int) := by omega
        have hhb : (i : Int) < (b.length : Int) := by omega
        generalize wr = wq at *
        have Bxz : Box wq.drew w.heap.size [.int .u64 x.key, .int .i64 x.m.src, .int .i64 x.m.dst, .int .i64 x.m.piece, .int .i64 x.wt] 98 := HX.out
        have Hyz : wq.drew.cell? ⟨g, o + i * 5, none⟩ = some (.int .u64 y.key) ∧ wq.drew.cell? ⟨g, o + i * 5 + 1, none⟩ = some (.int .i64 y.m.src) ∧ wq.drew.cell? ⟨g, o + i * 5 + 2, none⟩ = some (.int .i64 y.m.dst) ∧ wq.drew.cell? ⟨g, o + i * 5 + 3, none⟩ = some (.int .i64 y.m.piece) ∧ wq.drew.cell? ⟨g, o + i * 5 + 4, none⟩ = some (.int .i64 y.wt) := ⟨e0, e1, e2, e3, e4⟩
        have hgz : g < wq.drew.heap.size := hg
        have Lz : Below w.heap.size w wq.drew := below_drewN HBr.out 1
        clear HX HBr hg e0 e1 e2 e3 e4
        refine wp_region_noPanic ?_
        refine beginL (S := (fun w' => w'.cell? ⟨w.heap.size, 0, none⟩ = some (.int .u64 x.key) ∧ w'.cell? ⟨w.heap.size, 1, none⟩ = some (.int .i64 x.m.src) ∧ w'.cell? ⟨w.heap.size, 2, none⟩ = some (.int .i64 x.m.dst) ∧ w'.cell? ⟨w.heap.size, 3, none⟩ = some (.int .i64 x.m.piece) ∧ w'.cell? ⟨w.heap.size, 4, none⟩ = some (.int .i64 x.wt) ∧ w'.cell? ⟨g, o + i * 5, none⟩ = some (.int .u64 y.key) ∧ w'.cell? ⟨g, o + i * 5 + 1, none⟩ = some (.int .i64 y.m.src) ∧ w'.cell? ⟨g, o + i * 5 + 2, none⟩ = some (.int .i64 y.m.dst) ∧ w'.cell? ⟨g, o + i * 5 + 3, none⟩ = some (.int .i64 y.m.piece) ∧ w'.cell? ⟨g, o + i * 5 + 4, none⟩ = some (.int .i64 y.wt))) (L := []) (by kernel_rfl) ⟨Bxz.cell 0 rfl, Bxz.cell 1 rfl, Bxz.cell 2 rfl, Bxz.cell 3 rfl, Bxz.cell 4 rfl, Hyz.1, Hyz.2.1, Hyz.2.2.1, Hyz.2.2.2.1, Hyz.2.2.2.2⟩ (fun hHeld => ?_)
        refine takeW (i := 0) (oi := { dst := some 35, op := Op.move (Operand.tmp 9), type := 3, pos := "sort.go:167", after := #[], guard := none }) (v := ?va8) rfl (by kernel_rfl) (by kernel_rfl) (by kernel_rfl) rfl (fun _ _ _ h => h) (Or.inl ⟨by rfl, ?ya8⟩) (fun _ => by assumption) ?ra8
        case ya8 => (intro w _; go_simp; first | done | (with_reducible rfl))
        try simp only [Act.put, List.setIfInBounds_toArray, List.set_cons_zero, List.set_cons_succ]
        refine takeW (i := 1) (oi := { dst := some 36, op := Op.move (Operand.tmp 9), type := 3, pos := "sort.go:167", after := #[], guard := none }) (v := ?va9) rfl (by kernel_rfl) (by kernel_rfl) (by kernel_rfl) rfl (fun _ _ _ h => h) (Or.inl ⟨by rfl, ?ya9⟩) (fun _ => by assumption) ?ra9
        case ya9 => (intro w _; go_simp; first | done | (with_reducible rfl))
        try simp only [Act.put, List.setIfInBounds_toArray, List.set_cons_zero, List.set_cons_succ]
        refine takeW (i := 2) (oi := { dst := some 37, op := Op.move (Operand.tmp 8), type := 3, pos := "sort.go:167", after := #[], guard := none }) (v := ?va10) rfl (by kernel_rfl) (by kernel_rfl) (by kernel_rfl) rfl (fun _ _ _ h => h) (Or.inl ⟨by rfl, ?ya10⟩) (fun _ => by assumption) ?ra10
        case ya10 => (intro w _; go_simp; first | done | (with_reducible rfl))
        try simp only [Act.put, List.setIfInBounds_toArray, List.set_cons_zero, List.set_cons_succ]
        refine takeW (i := 3) (oi := { dst := some 38, op := Op.binOp BinOp.lss 3 (Operand.tmp 36) (Operand.tmp 37) 3, type := 4, pos := "sort.go:167", after := #[{ on := 1, ground := Ground.data }, { on := 2, ground := Ground.data }], guard := none }) (v := ?va11) rfl (by kernel_rfl) (by kernel_rfl) (by kernel_rfl) rfl (fun _ _ _ h => h) (Or.inl ⟨by rfl, ?ya11⟩) (fun _ => by assumption) ?ra11
        case ya11 => (intro w _; go_simp; first | done | (with_reducible rfl))
        try simp only [Act.put, List.setIfInBounds_toArray, List.set_cons_zero, List.set_cons_succ]
        refine takeW (i := 4) (oi := { dst := some 39, op := Op.move (Operand.tmp 38), type := 4, pos := "sort.go:167", after := #[{ on := 3, ground := Ground.data }], guard := none }) (v := ?va12) rfl (by kernel_rfl) (by kernel_rfl) (by kernel_rfl) rfl (fun _ _ _ h => h) (Or.inl ⟨by rfl, ?ya12⟩) (fun _ => by assumption) ?ra12
        case ya12 => (intro w _; go_simp; first | done | (with_reducible rfl))
        try simp only [Act.put, List.setIfInBounds_toArray, List.set_cons_zero, List.set_cons_succ]
        refine takeW (i := 5) (oi := { dst := some 40, op := Op.move (Operand.tmp 2), type := 147, pos := "sort.go:167", after := #[{ on := 4, ground := Ground.guard }], guard := some (4, true) }) (v := ?va13) rfl (by kernel_rfl) (by kernel_rfl) (by kernel_rfl) rfl (fun _ _ _ h => h) (Or.inl ⟨by rfl, ?ya13⟩) (fun _ => by assumption) ?ra13
        case ya13 => (intro w _; go_simp; first | done | (with_reducible rfl))
        try simp only [Act.put, List.setIfInBounds_toArray, List.set_cons_zero, List.set_cons_succ]
        refine takeW (i := 6) (oi := { dst := some 41, op := Op.move (Operand.tmp 0), type := 88, pos := "sort.go:167", after := #[{ on := 4, ground := Ground.guard }], guard := some (4, true) }) (v := ?va14) rfl (by kernel_rfl) (by kernel_rfl) (by kernel_rfl) rfl (fun _ _ _ h => h) (Or.inl ⟨by rfl, ?ya14⟩) (fun _ => by assumption) ?ra14
        case ya14 => (intro w _; go_simp; first | done | (with_reducible rfl))
        try simp only [Act.put, List.setIfInBounds_toArray, List.set_cons_zero, List.set_cons_succ]
        refine takeW (i := 7) (oi := { dst := some 42, op := Op.move (Operand.tmp 9), type := 3, pos := "sort.go:167", after := #[{ on := 4, ground := Ground.guard }], guard := some (4, true) }) (v := ?va15) rfl (by kernel_rfl) (by kernel_rfl) (by kernel_rfl) rfl (fun _ _ _ h => h) (Or.inl ⟨by rfl, ?ya15⟩) (fun _ => by assumption) ?ra15
        case ya15 => (intro w _; go_simp; first | done | (with_reducible rfl))
        try simp only [Act.put, List.setIfInBounds_toArray, List.set_cons_zero, List.set_cons_succ]
        refine takeL (i := 10) (oi := { dst := some 45, op := Op.load 98 (Operand.tmp 4), type := 98, pos := "sort.go:167", after := #[{ on := 4, ground := Ground.guard }], guard := some (4, true) }) (v := ?va16) rfl (by kernel_rfl) (by kernel_rfl) (by kernel_rfl) (by kernel_rfl) rfl (by kernel_rfl) (by kernel_rfl) (fun _ _ _ h => h) (Or.inl ⟨by rfl, ?ya16⟩) (by assumption) ?ra16
        case ya16 => (intro w hSw; (try dsimp only at hSw); go_simp; first | done | (with_reducible rfl))
        try simp only [Act.put, List.setIfInBounds_toArray, List.set_cons_zero, List.set_cons_succ]
        refine takeW (i := 8) (oi := { dst := some 43, op := Op.indexAddr 88 (Operand.tmp 41) (Operand.tmp 42), type := 0, pos := "sort.go:167", after := #[{ on := 6, ground := Ground.data }, { on := 7, ground := Ground.data }, { on := 4, ground := Ground.guard }], guard := some (4, true) }) (v := ?va17) rfl (by kernel_rfl) (by kernel_rfl) (by kernel_rfl) rfl (fun _ _ _ h => h) (Or.inl ⟨by rfl, ?ya17⟩) (fun _ => by assumption) ?ra17
        case ya17 => (intro w _; go_simp; first | done | (with_reducible rfl))
        try simp only [Act.put, List.setIfInBounds_toArray, List.set_cons_zero, List.set_cons_succ]
        refine takeL (i := 9) (oi := { dst := some 44, op := Op.load 98 (Operand.tmp 43), type := 98, pos := "sort.go:167", after := #[{ on := 8, ground := Ground.data }, { on := 4, ground := Ground.guard }], guard := some (4, true) }) (v := ?va18) rfl (by kernel_rfl) (by kernel_rfl) (by kernel_rfl) (by kernel_rfl) rfl (by kernel_rfl) (by kernel_rfl) (fun _ _ _ h => h) (Or.inl ⟨by rfl, ?ya18⟩) (by assumption) ?ra18
        case ya18 => (intro w hSw; (try dsimp only at hSw); go_simp; first | done | (with_reducible rfl))
        try simp only [Act.put, List.setIfInBounds_toArray, List.set_cons_zero, List.set_cons_succ]
        refine readyL (rs := [11]) (by kernel_rfl) (by simp) ?_
        refine (AllReadyL.cons (o := { dst := some 46, op := Op.call { callee := Callee.value (Operand.tmp 40), args := #[Operand.tmp 44, Operand.tmp 45], argTypes := #[98, 98] }, type := 3, pos := "sort.go:167", after := #[{ on := 5, ground := Ground.data }, { on := 9, ground := Ground.data }, { on := 10, ground := Ground.data }, { on := 4, ground := Ground.chain }, { on := 4, ground := Ground.guard }], guard := some (4, true) }) rfl (fun K hK => ?_) AllReadyL.nil)
        go_simp
        refine (order_any y x _).mono ?_
        rintro e w8 ⟨rfl, hb8⟩
        have L8 := below_trans Lz hb8 Lz.size
        have Bx8 := Bxz.stays hb8
        have Hy8 : w8.cell? ⟨g, o + i * 5, none⟩ = some (.int .u64 y.key) ∧ w8.cell? ⟨g, o + i * 5 + 1, none⟩ = some (.int .i64 y.m.src) ∧ w8.cell? ⟨g, o + i * 5 + 2, none⟩ = some (.int .i64 y.m.dst) ∧ w8.cell? ⟨g, o + i * 5 + 3, none⟩ = some (.int .i64 y.m.piece) ∧ w8.cell? ⟨g, o + i * 5 + 4, none⟩ = some (.int .i64 y.wt) := ⟨(hb8.cell hgz).trans Hyz.1, (hb8.cell hgz).trans Hyz.2.1, (hb8.cell hgz).trans Hyz.2.2.1, (hb8.cell hgz).trans Hyz.2.2.2.1, (hb8.cell hgz).trans Hyz.2.2.2.2⟩
        clear hb8
        refine hK.out _ _ ⟨Bx8.cell 0 rfl, Bx8.cell 1 rfl, Bx8.cell 2 rfl, Bx8.cell 3 rfl, Bx8.cell 4 rfl, Hy8.1, Hy8.2.1, Hy8.2.2.1, Hy8.2.2.2.1, Hy8.2.2.2.2⟩ (fun hHeld => ?_)
        clear hK K
        try simp only [Act.put, List.setIfInBounds_toArray, List.set_cons_zero, List.set_cons_succ]
        refine takeW (i := 12) (oi := { dst := some 47, op := Op.binOp BinOp.eql 3 (Operand.tmp 46) (Operand.const (Value.int IntKind.i64 0)) 3, type := 4, pos := "sort.go:167", after := #[{ on := 11, ground := Ground.data }, { on := 4, ground := Ground.guard }, { on := 14, ground := Ground.gcOnly Departure.lateStores }], guard := some (4, true) }) (v := ?va19) rfl (by kernel_rfl) (by kernel_rfl) (by kernel_rfl) rfl (fun _ _ _ h => h) (Or.inl ⟨by rfl, ?ya19⟩) (fun _ => by assumption) ?ra19
        case ya19 => (intro w _; go_simp; first | done | (with_reducible rfl))
        try simp only [Act.put, List.setIfInBounds_toArray, List.set_cons_zero, List.set_cons_succ]
        refine takeW (i := 14) (oi := { dst := some 6, op := Op.assign (Operand.tmp 35), type := 3, pos := "sort.go:167", after := #[{ on := 0, ground := Ground.data }, { on := 11, ground := Ground.chain }, { on := 0, ground := Ground.phase }, { on := 1, ground := Ground.textOnly Departure.lateStores }, { on := 2, ground := Ground.textOnly Departure.lateStores }, { on := 3, ground := Ground.textOnly Departure.lateStores }, { on := 4, ground := Ground.textOnly Departure.lateStores }, { on := 5, ground := Ground.textOnly Departure.lateStores }, { on := 6, ground := Ground.textOnly Departure.lateStores }, { on := 7, ground := Ground.textOnly Departure.lateStores }, { on := 8, ground := Ground.textOnly Departure.lateStores }, { on := 9, ground := Ground.textOnly Departure.lateStores }, { on := 10, ground := Ground.textOnly Departure.lateStores }, { on := 11, ground := Ground.textOnly Departure.lateStoresUnsure }, { on := 12, ground := Ground.textOnly Departure.lateStores }, { on := 13, ground := Ground.textOnly Departure.lateStores }], guard := none }) (v := ?va20) rfl (by kernel_rfl) (by kernel_rfl) (by kernel_rfl) rfl (fun _ _ _ h => h) (Or.inl ⟨by rfl, ?ya20⟩) (fun _ => by assumption) ?ra20
        case ya20 => (intro w _; go_simp; first | done | (with_reducible rfl))
        try simp only [Act.put, List.setIfInBounds_toArray, List.set_cons_zero, List.set_cons_succ]
        refine takeW (i := 13) (oi := { dst := some 48, op := Op.pick (Operand.tmp 39) (Operand.tmp 47) (Operand.const (Value.bool false)), type := 4, pos := "sort.go:167", after := #[{ on := 4, ground := Ground.data }, { on := 12, ground := Ground.data }, { on := 14, ground := Ground.gcOnly Departure.lateStores }], guard := none }) (v := ?va21) rfl (by kernel_rfl) (by kernel_rfl) (by kernel_rfl) rfl (fun _ _ _ h => h) (Or.inl ⟨by rfl, ?ya21⟩) (fun _ => by assumption) ?ra21
        case ya21 => (intro w _; go_simp; first | done | (with_reducible rfl))
        try simp only [Act.put, List.setIfInBounds_toArray, List.set_cons_zero, List.set_cons_succ]
        refine takeW (i := 15) (oi := { dst := some 7, op := Op.assign (Operand.tmp 48), type := 4, pos := "sort.go:167", after := #[{ on := 13, ground := Ground.data }, { on := 14, ground := Ground.chain }, { on := 0, ground := Ground.phase }, { on := 1, ground := Ground.phase }, { on := 2, ground := Ground.phase }, { on := 3, ground := Ground.phase }, { on := 4, ground := Ground.phase }, { on := 5, ground := Ground.phase }, { on := 6, ground := Ground.phase }, { on := 7, ground := Ground.phase }, { on := 8, ground := Ground.phase }, { on := 9, ground := Ground.phase }, { on := 10, ground := Ground.phase }, { on := 11, ground := Ground.phase }, { on := 12, ground := Ground.phase }, { on := 13, ground := Ground.phase }, { on := 14, ground := Ground.phase }], guard := none }) (v := ?va22) rfl (by kernel_rfl) (by kernel_rfl) (by kernel_rfl) rfl (fun _ _ _ h => h) (Or.inl ⟨by rfl, ?ya22⟩) (fun _ => by assumption) ?ra22
        case ya22 => (intro w _; go_simp; first | done | (with_reducible rfl))
        try simp only [Act.put, List.setIfInBounds_toArray, List.set_cons_zero, List.set_cons_succ]
        refine doneL (by kernel_rfl) ?_ _
        refine NoPanic.normal ?_
        have HL8 := Lib.hid L8
        clear L8 Bx8 Hy8 Lz Bxz Hyz hHeld
        by_cases hz8 : ordB y x = 0
        · have HE : Hid (hitB b x = true) := Lib.hid (by unfold hitB; rw [HPI.out, HYE.out, hz8]; simp [hil])
          have hzb : (ordB y x == 0) = true := by simpa using hz8
          clear hz8
          go_wp2_with fail
          go_ret2
          exact ⟨by rw [HE.out, HPI.out, ← hzb]; rfl, HL8.out⟩
        · have HE : Hid (hitB b x = false) := Lib.hid (by unfold hitB; rw [HPI.out, HYE.out]; simp [hz8])
          have hzb : (ordB y x == 0) = false := by simpa using hz8
          clear hz8
          go_wp2_with fail
          go_ret2
          exact ⟨by rw [HE.out, HPI.out, ← hzb]; rfl, HL8.out⟩
      · have HE : Hid (hitB b x = false) := Lib.hid (by unfold hitB; rw [HPI.out]; simp [hil])
        have hnI : ¬ (i : Int) < (b.length : Int) := by omega
        go_wp2_with fail
        go_quiet (fail)
        go_wp2_with fail
        go_ret2
        exact ⟨by rw [HE.out, HPI.out]; rfl, below_drewN HBr.out _⟩

end Go.Proofs.Ytkfaibdflbdpgaa
/- Memory for slices.Insert: copy at elements of k cells, append of zeros onto a row that is full. -/
namespace Go.Proofs.Ytkfaibdflbdpgaa
open Go.ChangeShapes Go.WideShapes Go.ChangeAt Go.RowKit
set_option linter.unusedVariables false
theorem run_copyK {P : Program} (w : World) (dT sT ty elem : TypeId) (k : Nat) (g o dLen dCap : Nat) (a : Addr) (sLen sCap : Nat) (cur : Array Value) (t : TypeId) (cs : List Value)
    (hu : P.underlying dT = some (.slice elem)) (hs : (P.info? elem).map (·.size) = some k)
    (hg : w.heap[g]? = some (.cells cur t (0, 0))) (hn : cs.length = Nat.min sLen dLen * k)
    (hsrc : ∀ j v, cs[j]? = some v → w.cell? (a.add j) = some v) (hfit : o + cs.length ≤ cur.size) (h1 : ∀ v ∈ cs, v.oneCell' = true) :
    (Builtin.copy_ #[dT, sT] ty #[.slice (some ⟨g, o, none⟩) dLen dCap, .slice (some a) sLen sCap]).run P w =
      .ok (goInt (Nat.min sLen dLen)) (w.setRow g (cur.toList.take o ++ cs ++ cur.toList.drop (o + cs.length)).toArray) := by
  have hl := run_loadCells_list (P := P) w a cs hsrc
  have hst := run_storeCells_at P g o t cs 0 cur w hg (by simpa using hfit) h1
  cases hq : P.info? elem with
  | none => simp [hq] at hs
  | some i =>
    have hi : i.size = k := by simpa [hq] using hs
    simp [Builtin.copy_, run_underlying hu, Builtin.lenOf, Builtin.firstCells, sizeOf, typeInfo, hq, hi, ← hn, hl, hst]
theorem wp_copyK {P : Program} (w : World) {o : Oper} {a : Act} {K : Act → World → Prop} {Q : Exit → Act → World → Prop} (d s : Operand) (t t' : TypeId)
    (ho : o.op = .call { callee := .builtin .copy, args := #[d, s], argTypes := #[t, t'] }) (v u : Value) (hd : a.eval d = v) (hs : a.eval s = u) {v' : Value} {w' : World}
    (hr : (Builtin.copy_ #[t, t'] o.type #[v, u]).run P w = .ok v' w') (h : K (a.put o.dst v') w') : o.wp P a w K Q := by
  unfold Oper.wp execOp
  simp only [ho, resolve, invoke, builtin, Sem.run_bind, Sem.run_pure, Result.andThen_ok, List.map_toArray, List.map_cons, List.map_nil, hd, hs, hr]
  exact h
theorem wpList_copyK {P : Program} (w : World) {ops : Array Oper} {rest : List Oper} {o : Oper} {a : Act} {Q : Exit → Act → World → Prop} (hgd : o.guard = none) (d s : Operand) (t t' : TypeId)
    (ho : o.op = .call { callee := .builtin .copy, args := #[d, s], argTypes := #[t, t'] }) (v u : Value) (hd : a.eval d = v) (hs : a.eval s = u) {v' : Value} {w' : World}
    (hr : (Builtin.copy_ #[t, t'] o.type #[v, u]).run P w = .ok v' w') (h : wpList P ops Q rest (a.put o.dst v') w') : wpList P ops Q (o :: rest) a w :=
  wpList_plain hgd fun _ hK => wp_copyK w d s t t' ho v u hd hs hr (hK _ _ h)
/-- append(s, make([]T, n)...) where s is full: a new row. -/
theorem run_append_zeros {P : Program} (w : World) (t tn ty e : TypeId) (i : TypeInfo) (z : Value) (kn : IntKind) (ht : P.underlying t = some (.slice e)) (htn : P.underlying tn = some (.int kn)) (hi : P.info? e = some i) (hz : i.zero = some z)
    (b : Addr) (sLen sCap : Nat) (olds : List Value) (hlo : olds.length = sLen * i.size) (holds : ∀ j v, olds[j]? = some v → w.cell? (b.add j) = some v)
    (n : Nat) (h0 : 0 < n) (hs : 0 < i.size) (hg : sCap < sLen + n) (h63 : sLen + n ≤ 1000000) (hby : i.bytes ≤ 1000) :
    (Builtin.append_ #[t, tn] ty #[.slice (some b) sLen sCap, .int .i64 n]).run P w =
      .ok (.slice (some ⟨w.heap.size, 0, none⟩) (sLen + n) (grownCap w (sLen + n) sCap e))
        (w.drew.alloc (.cells (olds.toArray ++ Builtin.zeroCells z.cells n ++ Builtin.zeroCells z.cells (grownCap w (sLen + n) sCap e - (sLen + n))) e)) := by
  have hn0 : n ≠ 0 := by omega
  have hn : ¬ (sLen + n ≤ sCap) := by omega
  have hw : IntKind.i64.wrap (n : Int) = n := by rw [IntKind.wrap_i64]; omega
  have hneg : ¬ ((n : Int) < 0) := by omega
  have hns : ¬ (n * i.size = 0) := Nat.mul_ne_zero hn0 (by omega)
  have h63' : ¬ (9223372036854775807 < ((sLen : Int) + (n : Int))) := by omega
  have hm : (sLen + n) * i.bytes ≤ 1000000 * 1000 := Nat.mul_le_mul h63 hby
  have hm2 : n * i.bytes ≤ 1000000 * 1000 := Nat.mul_le_mul (by omega) hby
  have h48' : ¬ (281474976710656 < Builtin.nextslicecap (sLen + n) sCap * i.bytes) := by
    have := growslice_fits (need := sLen + n) (old := sCap) (bytes := i.bytes) hg (by omega)
    omega
  have h48i : ¬ (281474976710656 < (n : Int) * (i.bytes : Int)) := by
    rw [← Int.natCast_mul]
    omega
  have hfo := run_firstCells_some (P := P) w.drew i.size sLen b sLen sCap olds hlo (by simpa using holds)
  simp [Builtin.append_, run_underlying ht, run_underlying htn, sizeOf, typeInfo, zeroValue, hi, hz, asInt, asIntOf, hw, hn, hneg, hns, h63', h48', h48i, Question.forced, hfo, newRow, grownCap]
/-- x put in between X1 and X2: into a row with room behind X1. -/
theorem splA {L X1 Y X2 : List Value} {p q : Nat} (h1 : X1.length = p) (hY : Y.length = 5) (h2 : X2.length = q) (h0 : L.take p = X1) (hl : p + 5 + q ≤ L.length) :
    (((L.take p ++ Y ++ L.drop (p + Y.length)).take (p + 5) ++ X2 ++ (L.take p ++ Y ++ L.drop (p + Y.length)).drop (p + 5 + X2.length)).take (p + 5 + q) = X1 ++ (Y ++ X2)) ∧
    ((L.take p ++ Y ++ L.drop (p + Y.length)).take (p + 5) ++ X2 ++ (L.take p ++ Y ++ L.drop (p + Y.length)).drop (p + 5 + X2.length)).length = L.length := by
  have e1 : (L.take p ++ Y ++ L.drop (p + Y.length)).take (p + 5) = X1 ++ Y := by
    rw [h0, List.take_append_of_le_length (by simp; omega), List.take_of_length_le (by simp; omega)]
  have e2 : (L.take p ++ Y ++ L.drop (p + Y.length)).length = L.length := by rw [h0]; simp; omega
  rw [e1]
  constructor
  · rw [List.take_append_of_le_length (by simp; omega), List.take_of_length_le (by simp; omega), List.append_assoc]
  · rw [List.length_append, List.length_append, List.length_drop, e2]; simp; omega
theorem splB {L X1 Y X2 : List Value} {p q : Nat} (h1 : X1.length = p) (hY : Y.length = 5) (h2 : X2.length = q) (h0 : L.take (p + q) = X1 ++ X2) (hl : p + 5 + q ≤ L.length) :
    (((L.take (p + 5) ++ X2 ++ L.drop (p + 5 + X2.length)).take p ++ Y ++ (L.take (p + 5) ++ X2 ++ L.drop (p + 5 + X2.length)).drop (p + Y.length)).take (p + 5 + q) = X1 ++ (Y ++ X2)) ∧
    ((L.take (p + 5) ++ X2 ++ L.drop (p + 5 + X2.length)).take p ++ Y ++ (L.take (p + 5) ++ X2 ++ L.drop (p + 5 + X2.length)).drop (p + Y.length)).length = L.length := by
  have hp : (L.take (p + 5)).length = p + 5 := by rw [List.length_take]; omega
  have e0 : L.take p = X1 := by
    have : (L.take (p + q)).take p = X1 := by rw [h0, ← h1, List.take_left]
    rwa [List.take_take, Nat.min_eq_left (by omega)] at this
  have e1 : (L.take (p + 5) ++ X2 ++ L.drop (p + 5 + X2.length)).take p = X1 := by
    rw [List.append_assoc, List.take_append_of_le_length (by omega), List.take_take, Nat.min_eq_left (by omega), e0]
  have e2 : (L.take (p + 5) ++ X2 ++ L.drop (p + 5 + X2.length)).drop (p + Y.length) = X2 ++ L.drop (p + 5 + X2.length) := by
    rw [hY, List.append_assoc, List.drop_left' hp]
  rw [e1, e2]
  constructor
  · rw [← List.append_assoc, List.take_append_of_le_length (by simp; omega), List.take_of_length_le (by simp; omega), List.append_assoc]
  · simp; omega
theorem setRow_grown (w : World) (g : Nat) (cs : Array Value) : w.grownBy (w.setRow g cs) (some g) :=
  ⟨rfl, rfl, rfl, by simp [World.setRow], fun k hk hn => setRow_other w g k cs (fun e => hn (by rw [e]))⟩
theorem grown_trans {a b c : World} {r : Option Nat} (h : a.grownBy b r) (k : b.grownBy c r) : a.grownBy c r :=
  ⟨k.os.trans h.os, k.tape.trans h.tape, k.output.trans h.output, Nat.le_trans h.size k.size, fun i hi hn => (k.block i (Nat.lt_of_lt_of_le hi h.size) hn).trans (h.block i hi hn)⟩
theorem grown_new {a b c : World} {r : Option Nat} {g : Nat} (h : a.grownBy b r) (k : b.grownBy c (some g)) (hg : a.heap.size ≤ g) : a.grownBy c r :=
  ⟨k.os.trans h.os, k.tape.trans h.tape, k.output.trans h.output, Nat.le_trans h.size k.size, fun i hi hn => (k.block i (Nat.lt_of_lt_of_le hi h.size) (fun e => by simp at e; omega)).trans (h.block i hi hn)⟩
theorem grown_drew (w : World) (r : Option Nat) : w.grownBy w.drew r := ⟨rfl, rfl, rfl, Nat.le_refl _, fun _ _ _ => rfl⟩
theorem Box.src {w : World} {b : Nat} {cs : List Value} {t : TypeId} (h : Box w b cs t) : ∀ j u, cs[j]? = some u → w.cell? ((⟨b, 0, none⟩ : Addr).add j) = some u := by
  intro j u hj
  have e2 : (⟨b, 0, none⟩ : Addr).add j = ⟨b, j, none⟩ := by unfold Addr.add; split <;> simp_all
  rw [e2]
  exact h.cell j hj
end Go.Proofs.Ytkfaibdflbdpgaa

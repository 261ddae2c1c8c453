/- RwQ, RwS, ClaimA, ClaimP, AnS, RwT. -/
import Derived.Test.YthklhndcdijneaaGreatDoorC22
import Derived.Test.YthklhndcdijneaaGreatDoorC18
import Derived.Test.YthklhndcdijneaaGreatDoorC01
import Derived.Test.YthklhndcdijneaaGreatDoorC20
namespace Go.Proofs.YthklhndcdijneaaGreatDoor
open Go.ChangeShapes Go.WideShapes Go.ChangeAt Go.RowKit
set_option linter.unusedVariables false
def resTx : List Byt := [[42], [49, 45, 48], [48, 45, 49], [49, 47, 50]]
/-- what is before a byte, and behind it. -/
def upTo1 (c : UInt8) : Byt → Option (Byt × Byt)
 | [] => none
 | x :: t => if x = c then some ([], t) else (upTo1 c t).map fun q => (x :: q.1, q.2)
def rCmt (l : Byt) : Except Int (Byt × Byt) :=
 if (got 123 l).1 = false then .ok ([], (got 123 l).2) else
 match upTo1 125 (got 123 l).2 with
 | none => .error 5
 | some q => if q.1 = [] then .error 5 else .ok q
def rMove (R : RulesZ) (p : PosZ) (l : Byt) : Except Int (MoveZ × Byt × Byt) :=
 if wordB (blank l) = [] then .error 5 else
 if resultZ R p ≠ 0 then .error 14 else
 if readErr R p (bs (wordB (blank l))) ≠ 0 then .error (readErr R p (bs (wordB (blank l)))) else
 match rCmt ((blank l).drop (wordB (blank l)).length) with
 | .error e => .error e
 | .ok q => .ok (readZ R p (bs (wordB (blank l))), q.1, q.2)
mutual
def rAfter (R : RulesZ) : Nat → PosZ → Byt → Except Int (List BrZ × Byt)
 | 0, _, l => .ok ([], l)
 | f + 1, p, l =>
  if wordB (blank l) = [] ∨ wordB (blank l) ∈ resTx then .ok ([], blank l) else
  match rMove R p (blank l) with
  | .error e => .error e
  | .ok x =>
   match rVars R f p x.2.2 with
   | .error e => .error e
   | .ok v =>
    match rAfter R f (makeZ R p x.1) v.2 with
    | .error e => .error e
    | .ok k => .ok (.mk x.1 (bs x.2.1) k.1 :: v.1, k.2)
def rVars (R : RulesZ) : Nat → PosZ → Byt → Except Int (List BrZ × Byt)
 | 0, _, l => .ok ([], l)
 | f + 1, p, l =>
  if (got 40 l).1 = false then .ok ([], (got 40 l).2) else
  match rMove R p (got 40 l).2 with
  | .error e => .error e
  | .ok x =>
   match rAfter R f (makeZ R p x.1) x.2.2 with
   | .error e => .error e
   | .ok k =>
    if (got 41 k.2).1 = false then .error 5 else
    match rVars R f p (got 41 k.2).2 with
    | .error e => .error e
    | .ok v => .ok (.mk x.1 (bs x.2.1) k.1 :: v.1, v.2)
end
def oneL (R : RulesZ) (p : PosZ) (m : MoveZ) (c : ByteArray) : List Lex := .word (ofT R p (listZ R p) m).data.toList :: (if c.size = 0 then [] else [.cmt c.data.toList])
mutual
def aftB (R : RulesZ) (p : PosZ) : BrZ → List Lex
 | .mk m _ ks => lexL R (makeZ R p m) ks
def lexL (R : RulesZ) (p : PosZ) : List BrZ → List Lex
 | [] => []
 | b :: l => oneL R p b.mv b.cm ++ (lexV R p l ++ aftB R p b)
def lexV (R : RulesZ) (p : PosZ) : List BrZ → List Lex
 | [] => []
 | b :: l => .opn :: (oneL R p b.mv b.cm ++ (aftB R p b ++ (.cls :: lexV R p l)))
end
/-- a move that may be written. -/
structure OkOne (R : RulesZ) (p : PosZ) (m : MoveZ) (c : ByteArray) : Prop where
 opn : resultZ R p = 0
 err : readErr R p (ofT R p (listZ R p) m) = 0
 mv : readZ R p (ofT R p (listZ R p) m) = m
 dl : ∀ x ∈ (ofT R p (listZ R p) m).data.toList, isDl x = false
 ne : (ofT R p (listZ R p) m).data.toList ≠ []
 nr : (ofT R p (listZ R p) m).data.toList ∉ resTx
 cm : ∀ x ∈ c.data.toList, x ≠ 125
 hd : ∀ x u, (ofT R p (listZ R p) m).data.toList = x :: u → x ≠ 91
mutual
def legB (R : RulesZ) (p : PosZ) : BrZ → Prop
 | .mk m c ks => OkOne R p m c ∧ legL R (makeZ R p m) ks
def legL (R : RulesZ) (p : PosZ) : List BrZ → Prop
 | [] => True
 | b :: l => legB R p b ∧ legL R p l
end
theorem bs_toList (b : ByteArray) : bs b.data.toList = b := rfl
theorem up_cmt {b : Byt} (s : Byt) (h : ∀ c ∈ b, c ≠ 125) : upTo1 125 (b ++ 125 :: s) = some (b, s) := by
 induction b with
 | nil => rfl
 | cons c b ih =>
  rw [List.cons_append, upTo1, if_neg (h c (List.mem_cons_self ..)), ih (fun d hd => h d (List.mem_cons_of_mem _ hd))]
  rfl
/-- no comment is next. -/
def noCmt : List Lex → Prop
 | .cmt _ :: _ => False
 | _ => True
def noOpn : List Lex → Prop
 | .opn :: _ => False
 | _ => True
/-- here the branches end. -/
def Stop : List Lex → Prop
 | [] => True
 | .cls :: _ => True
 | .word w :: _ => w ∈ resTx
 | _ => False
theorem stop_cmt {l : List Lex} (h : Stop l) : noCmt l := by
 cases l with
 | nil => trivial
 | cons x l => cases x <;> first | trivial | exact h.elim
theorem stop_opn {l : List Lex} (h : Stop l) : noOpn l := by
 cases l with
 | nil => trivial
 | cons x l => cases x <;> first | trivial | exact h.elim
theorem got_none {c : UInt8} {l : List Lex} {t : Byt} (h : Ren l t) (hc : ∀ x r, l = x :: r → ∀ d u, x.byt = d :: u → x.ok → d ≠ c) : (got c t).1 = false ∧ Ren l (got c t).2 := by
 cases l with
 | nil =>
  have := ren_nil h
  unfold got
  rw [this]
  exact ⟨rfl, .nil [] (fun c hc => (List.not_mem_nil hc).elim)⟩
 | cons x r =>
  obtain ⟨s, h1, h2, h3, h4⟩ := ren_blank h
  have := got_not h (fun d u hd => hc x r rfl d u hd h3)
  rw [this]
  exact ⟨rfl, ren_blank_self h⟩
theorem got_noCmt {l : List Lex} {t : Byt} (h : Ren l t) (hc : noCmt l) : (got 123 t).1 = false ∧ Ren l (got 123 t).2 := by
 refine got_none h (fun x r e d u hd hx => ?_)
 subst e
 cases x with
 | word b =>
  obtain rfl : b = d :: u := hd
  have := hx.2 d (List.mem_cons_self ..)
  rintro rfl
  exact absurd this (by decide)
 | cmt b => exact hc.elim
 | opn => obtain ⟨rfl, -⟩ := List.cons.inj hd; decide
 | cls => obtain ⟨rfl, -⟩ := List.cons.inj hd; decide
theorem got_noOpn {l : List Lex} {t : Byt} (h : Ren l t) (hc : noOpn l) : (got 40 t).1 = false ∧ Ren l (got 40 t).2 := by
 refine got_none h (fun x r e d u hd hx => ?_)
 subst e
 cases x with
 | word b =>
  obtain rfl : b = d :: u := hd
  have := hx.2 d (List.mem_cons_self ..)
  rintro rfl
  exact absurd this (by decide)
 | cmt b => obtain ⟨rfl, -⟩ := List.cons.inj hd; decide
 | opn => exact hc.elim
 | cls => obtain ⟨rfl, -⟩ := List.cons.inj hd; decide
/-- a move and its comment are read. -/
theorem move_read {R : RulesZ} {p : PosZ} {m : MoveZ} {c : ByteArray} {l : List Lex} {t : Byt} (ok : OkOne R p m c) (h : Ren (oneL R p m c ++ l) t) (hl : noCmt l) : ∃ s, rMove R p t = .ok (m, c.data.toList, s) ∧ Ren l s := by
 unfold oneL at h
 rw [List.cons_append] at h
 obtain ⟨hw, s, hs, hr⟩ := ren_word h
 unfold rMove
 rw [hw, if_neg ok.ne, if_neg (by rw [ok.opn]; simp), bs_toList, ok.err, if_neg (by simp), ok.mv]
 have hd : (blank t).drop (ofT R p (listZ R p) m).data.toList.length = s := by rw [hs]; exact List.drop_left
 rw [hd]
 by_cases hc : c.size = 0
 ·rw [if_pos hc, List.nil_append] at hr
  obtain ⟨h1, h2⟩ := got_noCmt hr hl
  have hcl : c.data.toList = [] := List.length_eq_zero_iff.1 (by simpa using hc)
  unfold rCmt
  rw [if_pos h1, hcl]
  exact ⟨_, rfl, h2⟩
 ·rw [if_neg hc, List.cons_append, List.nil_append] at hr
  obtain ⟨u, h1, h2, h3, h4⟩ := got_cmt hr
  unfold rCmt
  rw [h1, if_neg (by simp)]
  simp only [up_cmt u h4]
  rw [if_neg h3]
  exact ⟨u, rfl, h2⟩
theorem lexV_cmt (R : RulesZ) (p : PosZ) (l : List BrZ) {r : List Lex} (h : noCmt r) : noCmt (lexV R p l ++ r) := by
 cases l with
 | nil => rw [lexV]; exact h
 | cons b l => rw [lexV]; trivial
theorem lexL_cmt (R : RulesZ) (p : PosZ) (l : List BrZ) {r : List Lex} (h : noCmt r) : noCmt (lexL R p l ++ r) := by
 cases l with
 | nil => rw [lexL]; exact h
 | cons b l => rw [lexL]; trivial
theorem lexL_opn (R : RulesZ) (p : PosZ) (l : List BrZ) {r : List Lex} (h : noOpn r) : noOpn (lexL R p l ++ r) := by
 cases l with
 | nil => rw [lexL]; exact h
 | cons b l => rw [lexL]; trivial
def AftOK (R : RulesZ) (p : PosZ) (ks : List BrZ) : Prop := ∀ (f : Nat) (rest : List Lex) (t : Byt), legL R p ks → Ren (lexL R p ks ++ rest) t → Stop rest → (lexL R p ks).length < f → ∃ s, rAfter R f p t = .ok (ks, s) ∧ Ren rest s
def VarOK (R : RulesZ) (p : PosZ) (l : List BrZ) : Prop := ∀ (f : Nat) (rest : List Lex) (t : Byt), legL R p l → Ren (lexV R p l ++ rest) t → noOpn rest → noCmt rest → (lexV R p l).length < f → ∃ s, rVars R f p t = .ok (l, s) ∧ Ren rest s
theorem read_both (R : RulesZ) : ∀ (l : List BrZ), (∀ p, AftOK R p l) ∧ ∀ p, VarOK R p l := by
 refine br_indL (PB := fun b => ∀ p, AftOK R (makeZ R p b.mv) b.ks) (PL := fun l => (∀ p, AftOK R p l) ∧ ∀ p, VarOK R p l) ?_ ?_ ?_
 ·intro m c ks ih p
  exact ih.1 _
 ·refine ⟨fun p f rest t _ h hs hf => ?_, fun p f rest t _ h ho _ hf => ?_⟩
  ·rw [lexL, List.nil_append] at h
   obtain ⟨f, rfl⟩ : ∃ k, f = k + 1 := ⟨f - 1, by omega⟩
   rw [rAfter]
   cases rest with
   | nil =>
    have hb := ren_nil h
    refine ⟨blank t, by rw [if_pos (.inl (by rw [hb]; rfl))], by rw [hb]; exact .nil [] (fun c hc => (List.not_mem_nil hc).elim)⟩
   | cons x rest =>
    refine ⟨blank t, ?_, ren_blank_self h⟩
    cases x with
    | word w => rw [(ren_word h).1, if_pos (.inr hs)]
    | cmt b => exact hs.elim
    | opn => exact hs.elim
    | cls => rw [ren_dl h rfl, if_pos (.inl rfl)]
  ·rw [lexV, List.nil_append] at h
   obtain ⟨f, rfl⟩ : ∃ k, f = k + 1 := ⟨f - 1, by omega⟩
   obtain ⟨h1, h2⟩ := got_noOpn h ho
   rw [rVars, if_pos h1]
   exact ⟨_, rfl, h2⟩
 ·intro b l hb hl
  refine ⟨fun p f rest t hg h hs hf => ?_, fun p f rest t hg h ho hc hf => ?_⟩
  ·obtain ⟨m, c, ks⟩ := b
   rw [legL, legB] at hg
   rw [lexL] at h hf
   rw [aftB] at h hf
   simp only [BrZ.mv, BrZ.cm] at h hf
   obtain ⟨f, rfl⟩ : ∃ k, f = k + 1 := ⟨f - 1, by omega⟩
   simp only [List.length_append] at hf
   have hone : 0 < (oneL R p m c).length := by unfold oneL; simp
   rw [List.append_assoc, List.append_assoc] at h
   have hren := h
   unfold oneL at hren
   rw [List.cons_append] at hren
   obtain ⟨hw, -⟩ := ren_word hren
   rw [rAfter, hw, if_neg (by rintro (h1 | h1); exact hg.1.1.ne h1; exact hg.1.1.nr h1)]
   have hself : Ren (oneL R p m c ++ (lexV R p l ++ (lexL R (makeZ R p m) ks ++ rest))) (blank t) := by
    unfold oneL
    rw [List.cons_append]
    exact ren_blank_self hren
   obtain ⟨s1, e1, r1⟩ := move_read hg.1.1 hself (lexV_cmt R p l (lexL_cmt R _ ks (stop_cmt hs)))
   obtain ⟨s2, e2, r2⟩ := hl.2 p f _ s1 hg.2 r1 (lexL_opn R _ ks (stop_opn hs)) (lexL_cmt R _ ks (stop_cmt hs)) (by omega)
   obtain ⟨s3, e3, r3⟩ := hb p f rest s2 hg.1.2 r2 hs (by show (lexL R (makeZ R p m) ks).length < f; omega)
   simp only [BrZ.mv, BrZ.ks] at e3
   rw [e1]
   dsimp only
   rw [e2]
   dsimp only
   rw [e3]
   exact ⟨s3, rfl, r3⟩
  ·obtain ⟨m, c, ks⟩ := b
   rw [legL, legB] at hg
   rw [lexV] at h hf
   rw [aftB] at h hf
   simp only [BrZ.mv, BrZ.cm] at h hf
   obtain ⟨f, rfl⟩ : ∃ k, f = k + 1 := ⟨f - 1, by omega⟩
   simp only [List.length_append, List.length_cons] at hf
   rw [List.cons_append, List.append_assoc, List.append_assoc, List.cons_append] at h
   obtain ⟨s0, e0, r0⟩ := got_opn h
   obtain ⟨s1, e1, r1⟩ := move_read hg.1.1 r0 (lexL_cmt R _ ks trivial)
   obtain ⟨s2, e2, r2⟩ := hb p f _ s1 hg.1.2 r1 trivial (by show (lexL R (makeZ R p m) ks).length < f; omega)
   obtain ⟨s3, e3, r3⟩ := got_cls r2
   obtain ⟨s4, e4, r4⟩ := hl.2 p f rest s3 hg.2 r3 ho hc (by omega)
   simp only [BrZ.mv, BrZ.ks] at e2
   rw [rVars, e0, if_neg (by simp)]
   dsimp only
   rw [e1]
   dsimp only
   rw [e2]
   dsimp only
   rw [e3, if_neg (by simp)]
   dsimp only
   rw [e4]
   exact ⟨s4, rfl, r4⟩
end Go.Proofs.YthklhndcdijneaaGreatDoor
namespace Go.Proofs.YthklhndcdijneaaGreatDoor
open Go.ChangeShapes Go.WideShapes Go.ChangeAt Go.RowKit
set_option linter.unusedVariables false
/-- blanks in front do not matter. -/
theorem ren_more {l : List Lex} {b t : Byt} (hb : ∀ c ∈ b, isBl c = true) (h : Ren l t) : Ren l (b ++ t) := by
 cases h with
 | nil _ h =>
  refine .nil _ (fun c hc => ?_)
  rcases List.mem_append.1 hc with hc | hc
  ·exact hb c hc
  ·exact h c hc
 | cons x l b' s h1 h2 h3 h4 =>
  rw [← List.append_assoc]
  refine .cons x l (b ++ b') s (fun c hc => ?_) h2 h3 h4
  rcases List.mem_append.1 hc with hc | hc
  ·exact hb c hc
  ·exact h1 c hc
def DlH (s : Byt) : Prop := ∀ c t, s = c :: t → isDl c = true
/-- a text of lexemes, whatever comes behind it. -/
def Seg (x : Byt) (g : List Lex) : Prop := ∀ (rest : List Lex) (s : Byt), Ren rest s → DlH s → Ren (g ++ rest) (x ++ s)
theorem seg_lex {x : Lex} (hx : x.ok) : Seg x.byt [x] := fun rest s h hd => by
 have := Ren.cons x rest [] s (fun c hc => (List.not_mem_nil hc).elim) hx h (fun _ => hd)
 exact this
theorem seg_par {y : Byt} {g : List Lex} (h : Seg y g) : Seg (40 :: (y ++ [41])) (.opn :: (g ++ [.cls])) := fun rest s hr hd => by
 have h1 : Ren (.cls :: rest) (41 :: s) := Ren.cons .cls rest [] s (fun c hc => (List.not_mem_nil hc).elim) trivial hr (fun h => by cases h)
 have h2 := h (.cls :: rest) (41 :: s) h1 (fun c t e => by obtain ⟨rfl, -⟩ := List.cons.inj e; rfl)
 have h3 := Ren.cons .opn (g ++ (.cls :: rest)) [] _ (fun c hc => (List.not_mem_nil hc).elim) trivial h2 (fun h => by cases h)
 simp only [List.cons_append, List.append_assoc, List.nil_append]
 exact h3
/-- texts with a blank between them. -/
def joinB : List Byt → Byt
 | [] => []
 | [x] => x
 | x :: y :: l => x ++ 32 :: joinB (y :: l)
theorem joinB_cons (x : Byt) {l : List Byt} (h : l ≠ []) : joinB (x :: l) = x ++ 32 :: joinB l := by
 cases l with
 | nil => exact absurd rfl h
 | cons y l => rfl
inductive Segs : List Byt → List Lex → Prop where
 | nil : Segs [] []
 | cons (x : Byt) (g : List Lex) (xs : List Byt) (gs : List Lex) (h : Seg x g) (hs : Segs xs gs) : Segs (x :: xs) (g ++ gs)
theorem Segs.app {xs ys : List Byt} {g k : List Lex} (h : Segs xs g) (h' : Segs ys k) : Segs (xs ++ ys) (g ++ k) := by
 induction h with
 | nil => exact h'
 | cons x g xs gs h hs ih => rw [List.cons_append, List.append_assoc]; exact .cons x g _ _ h ih
theorem Segs.join {xs : List Byt} {g : List Lex} (h : Segs xs g) (hne : xs ≠ []) : Seg (joinB xs) g := by
 induction h with
 | nil => exact absurd rfl hne
 | cons x g xs gs h hs ih =>
  intro rest s hr hd
  cases xs with
  | nil =>
   cases hs
   rw [List.append_nil]
   exact h rest s hr hd
  | cons y l =>
   rw [joinB_cons x (by simp), List.append_assoc, List.append_assoc]
   refine h _ _ ?_ (fun c t e => by obtain ⟨rfl, -⟩ := List.cons.inj e; rfl)
   exact ren_more (b := [32]) (fun c hc => by rw [List.mem_singleton] at hc; subst hc; rfl) (ih (by simp) rest s hr hd)
def oneT (R : RulesZ) (p : PosZ) (m : MoveZ) (c : ByteArray) : List Byt := (ofT R p (listZ R p) m).data.toList :: (if c.size = 0 then [] else [123 :: (c.data.toList ++ [125])])
mutual
/-- the texts after a branch. -/
def txtB (R : RulesZ) (p : PosZ) : BrZ → List Byt
 | .mk m _ ks => txtL R (makeZ R p m) ks
def txtL (R : RulesZ) (p : PosZ) : List BrZ → List Byt
 | [] => []
 | b :: l => oneT R p b.mv b.cm ++ (txtV R p l ++ txtB R p b)
def txtV (R : RulesZ) (p : PosZ) : List BrZ → List Byt
 | [] => []
 | b :: l => (40 :: (joinB (oneT R p b.mv b.cm ++ txtB R p b) ++ [41])) :: txtV R p l
end
theorem one_segs {R : RulesZ} {p : PosZ} {m : MoveZ} {c : ByteArray} (ok : OkOne R p m c) : Segs (oneT R p m c) (oneL R p m c) := by
 have eT : oneT R p m c = (ofT R p (listZ R p) m).data.toList :: (if c.size = 0 then [] else [123 :: (c.data.toList ++ [125])]) := rfl
 have eL : oneL R p m c = [.word (ofT R p (listZ R p) m).data.toList] ++ (if c.size = 0 then [] else [.cmt c.data.toList]) := rfl
 rw [eT, eL]
 have h1 : Seg (ofT R p (listZ R p) m).data.toList [.word (ofT R p (listZ R p) m).data.toList] := seg_lex (x := .word _) ⟨ok.ne, ok.dl⟩
 refine .cons _ _ _ _ h1 ?_
 by_cases hc : c.size = 0
 ·rw [if_pos hc, if_pos hc]; exact .nil
 ·rw [if_neg hc, if_neg hc]
  have h2 : Seg (Lex.cmt c.data.toList).byt [.cmt c.data.toList] := seg_lex (x := .cmt c.data.toList) ⟨fun e => hc (by have := congrArg List.length e; simpa using this), ok.cm⟩
  have h3 := Segs.cons _ _ _ _ h2 .nil
  rw [List.append_nil] at h3
  exact h3
theorem txt_segs (R : RulesZ) : ∀ l : List BrZ, (∀ p, legL R p l → Segs (txtL R p l) (lexL R p l)) ∧ ∀ p, legL R p l → Segs (txtV R p l) (lexV R p l) := by
 refine br_indL (PB := fun b => ∀ p, legB R p b → Segs (txtB R p b) (aftB R p b)) (PL := fun l => (∀ p, legL R p l → Segs (txtL R p l) (lexL R p l)) ∧ ∀ p, legL R p l → Segs (txtV R p l) (lexV R p l)) ?_ ?_ ?_
 ·intro m c ks ih p h
  rw [legB] at h
  rw [txtB, aftB]
  exact ih.1 _ h.2
 ·exact ⟨fun p _ => by rw [txtL, lexL]; exact .nil, fun p _ => by rw [txtV, lexV]; exact .nil⟩
 ·intro b l hb hl
  refine ⟨fun p h => ?_, fun p h => ?_⟩
  ·rw [legL] at h
   rw [txtL, lexL]
   have h1 : OkOne R p b.mv b.cm := by cases b; exact h.1.1
   exact (one_segs h1).app ((hl.2 p h.2).app (hb p h.1))
  ·rw [legL] at h
   rw [txtV, lexV]
   have h1 : OkOne R p b.mv b.cm := by cases b; exact h.1.1
   have h2 := seg_par (((one_segs h1).app (hb p h.1)).join (by unfold oneT; simp))
   have h3 := Segs.cons _ _ _ _ h2 (hl.2 p h.2)
   simp only [List.cons_append, List.append_assoc, List.nil_append] at h3
   exact h3
/-! ### more blanks -/
def expB (c : UInt8) : Byt := if c == 32 || c == 40 || c == 41 then [10, c, 32] else [c]
def expL (l : Byt) : Byt := l.flatMap expB
theorem exp_bl {b : Byt} (h : ∀ c ∈ b, isBl c = true) : ∀ c ∈ expL b, isBl c = true := fun c hc => by
 unfold expL at hc
 obtain ⟨d, hd, hc⟩ := List.mem_flatMap.1 hc
 have h1 := h d hd
 unfold expB at hc
 split at hc
 ·simp only [List.mem_cons, List.not_mem_nil, or_false] at hc
  rcases hc with rfl | rfl | rfl
  ·rfl
  ·exact h1
  ·rfl
 ·rw [List.mem_singleton] at hc; subst hc; exact h1
theorem exp_word {b : Byt} (h : ∀ c ∈ b, isDl c = false) : expL b = b := by
 unfold expL
 induction b with
 | nil => rfl
 | cons c b ih =>
  have h1 := h c (List.mem_cons_self ..)
  have h2 : expB c = [c] := by
   unfold expB
   rw [if_neg]
   intro h3
   unfold isDl at h1
   simp only [Bool.or_eq_true, beq_iff_eq] at h3
   rcases h3 with (rfl | rfl) | rfl <;> simp at h1
  rw [List.flatMap_cons, h2, ih (fun d hd => h d (List.mem_cons_of_mem _ hd))]
  rfl
theorem exp_head {s : Byt} (h : DlH s) : DlH (expL s) := by
 cases s with
 | nil => intro c t e; cases e
 | cons c s =>
  intro d t e
  have h1 := h c s rfl
  unfold expL at e
  rw [List.flatMap_cons] at e
  unfold expB at e
  split at e
  ·simp only [List.cons_append] at e
   obtain ⟨rfl, -⟩ := List.cons.inj e
   rfl
  ·simp only [List.cons_append] at e
   obtain ⟨rfl, -⟩ := List.cons.inj e
   exact h1
def noCmts (l : List Lex) : Prop := ∀ x ∈ l, ∀ b, x ≠ .cmt b
theorem exp_ren {l : List Lex} {s : Byt} (h : Ren l s) (hc : noCmts l) : Ren l (expL s) := by
 induction h with
 | nil b hb => exact .nil _ (exp_bl hb)
 | cons x l b s hb hx h hw ih =>
  have ih' := ih (fun y hy => hc y (List.mem_cons_of_mem _ hy))
  have e : expL (b ++ (x.byt ++ s)) = expL b ++ (expL x.byt ++ expL s) := by unfold expL; rw [List.flatMap_append, List.flatMap_append]
  rw [e]
  cases x with
  | word w =>
   have e2 : expL (Lex.word w).byt = (Lex.word w).byt := exp_word hx.2
   rw [e2]
   exact .cons _ _ _ _ (exp_bl hb) hx ih' (fun _ => exp_head (hw rfl))
  | cmt w => exact absurd rfl (hc _ (List.mem_cons_self ..) w)
  | opn =>
   have h1 : Ren l (32 :: expL s) := ren_more (b := [32]) (fun c hc => by rw [List.mem_singleton] at hc; subst hc; rfl) ih'
   have h2 := Ren.cons .opn l (expL b ++ [10]) _ (fun c hc => by
    rcases List.mem_append.1 hc with hc | hc
    ·exact exp_bl hb c hc
    ·rw [List.mem_singleton] at hc; subst hc; rfl) hx h1 (fun h => by cases h)
   have e2 : expL (Lex.opn).byt = [10, 40, 32] := rfl
   rw [e2]
   simp only [List.append_assoc, List.cons_append, List.nil_append, Lex.byt] at h2 ⊢
   exact h2
  | cls =>
   have h1 : Ren l (32 :: expL s) := ren_more (b := [32]) (fun c hc => by rw [List.mem_singleton] at hc; subst hc; rfl) ih'
   have h2 := Ren.cons .cls l (expL b ++ [10]) _ (fun c hc => by
    rcases List.mem_append.1 hc with hc | hc
    ·exact exp_bl hb c hc
    ·rw [List.mem_singleton] at hc; subst hc; rfl) hx h1 (fun h => by cases h)
   have e2 : expL (Lex.cls).byt = [10, 41, 32] := rfl
   rw [e2]
   simp only [List.append_assoc, List.cons_append, List.nil_append, Lex.byt] at h2 ⊢
   exact h2
end Go.Proofs.YthklhndcdijneaaGreatDoor
namespace Go.Proofs.YthklhndcdijneaaGreatDoor
open Go.ChangeShapes Go.WideShapes Go.ChangeAt Go.RowKit
set_option linter.unusedVariables false
end Go.Proofs.YthklhndcdijneaaGreatDoor
namespace Go.Proofs.YthklhndcdijneaaGreatDoor
set_option linter.unusedVariables false
section
variable {R : RulesZ} {l : List MoveZ}
theorem runFrom_zero (R : RulesZ) : ∀ (t ms : List MoveZ), runFrom R ms t = 0 ↔ ∀ j, j < t.length → playErr R (ms ++ t.take j) (t.getD j default) = 0
 | [], ms => by simp [runFrom]
 | m :: t, ms => by
  rw [runFrom]
  have ih := runFrom_zero R t (ms ++ [m])
  constructor
  ·intro h j hj
   by_cases e : playErr R ms m ≠ 0
   ·rw [if_pos e] at h; exact absurd h e
   rw [if_neg e] at h
   cases j with
   | zero => simpa using e
   | succ j =>
    have := ih.1 h j (by simpa using hj)
    simpa using this
  ·intro h
   have h0 := h 0 (by simp)
   simp at h0
   rw [if_neg (by simp [h0])]
   refine ih.2 fun j hj => ?_
   have := h (j + 1) (by simpa using hj)
   simpa using this
theorem run_ok (h : runErr R l = 0) : rulesErr R = 0 ∧ (∀ k, k < l.length → playErr R (l.take k) (l.getD k default) = 0) ∧ LegalAll R (beginZ R) l ∧ ∀ k, k ≤ l.length → runErr R (l.take k) = 0 := by
 unfold runErr at h
 by_cases e : rulesErr R = 0
 rotate_left
 ·rw [if_pos e] at h; exact absurd h e
 rw [if_neg (by simp [e])] at h
 have hp := (runFrom_zero R l []).1 h
 simp only [List.nil_append] at hp
 refine ⟨e, hp, fun k hk => ?_, fun k hk => ?_⟩
 ·have := hp k hk
  unfold playErr at this
  by_cases e1 : gameRes R (l.take k) ≠ 0
  ·rw [if_pos e1] at this; cases this
  rw [if_neg e1] at this
  by_cases e2 : l.getD k default ∉ listZ R (nowZ R (l.take k))
  ·rw [if_pos e2] at this; cases this
  ·simpa [nowZ] using e2
 ·unfold runErr
  rw [if_neg (by simp [e])]
  refine (runFrom_zero R (l.take k) []).2 fun j hj => ?_
  simp only [List.nil_append]
  rw [List.length_take] at hj
  have := hp j (by omega)
  rw [List.take_take, Nat.min_eq_left (by omega), show (l.take k).getD j default = l.getD j default by rw [List.getD_eq_getElem?_getD, List.getD_eq_getElem?_getD, List.getElem?_take, if_pos (by omega)]]
  exact this
end
end Go.Proofs.YthklhndcdijneaaGreatDoor
namespace Go.Proofs.YthklhndcdijneaaGreatDoor
open Go.ChangeShapes Go.WideShapes Go.ChangeAt Go.RowKit
set_option linter.unusedVariables false
mutual
def cokB : BrZ → Prop
 | .mk _ c ks => cmtErr c = 0 ∧ cokL ks
def cokL : List BrZ → Prop
 | [] => True
 | b :: l => cokB b ∧ cokL l
end
theorem cokL_app : ∀ (p l : List BrZ), cokL (p ++ l) ↔ cokL p ∧ cokL l
 | [], l => by rw [List.nil_append, cokL]; simp
 | z :: p, l => by show cokL (z :: (p ++ l)) ↔ _; rw [cokL, cokL, cokL_app p l, and_assoc]
theorem cokB_iff (x : BrZ) : cokB x ↔ cmtErr x.cm = 0 ∧ cokL x.ks := by cases x; rw [cokB]; rfl
def CMB (y : BrZ) : Prop := ∀ x, cokB x → cokB y → cokB (mergeB x y)
def CML (b : List BrZ) : Prop := ∀ a, cokL a → cokL b → cokL (mergeL a b)
theorem cok_merge : ∀ b, CML b := br_indL (PB := CMB)
 (fun m c ks ih x hx hy => by
  rw [cokB_iff] at hx
  rw [cokB] at hy
  rw [mergeB, cokB]
  refine ⟨?_, ih _ hx.2 hy.2⟩
  split
  ·exact hy.1
  ·exact hx.1)
 (fun a ha _ => by rw [mergeL]; exact ha)
 (fun y l h1 h2 a ha hb => by
  rw [cokL] at hb
  rw [mergeL]
  refine h2 _ ?_ hb.2
  rcases put_split y.mv a with h | ⟨p, x, r, rfl, hx, hp⟩
  ·rw [putW_miss y.mv y _ a h, cokL_app]
   exact ⟨ha, by rw [cokL]; exact ⟨hb.1, by rw [cokL]; trivial⟩⟩
  ·rw [putW_hit y.mv y _ x hx p r hp, cokL_app, cokL]
   rw [cokL_app, cokL] at ha
   exact ⟨ha.1, h1 x ha.2.1 hb.1, ha.2.2⟩)
/-- what a record's trees are. -/
structure TreesOK (R : RulesZ) (t : List BrZ) : Prop where
 dist : distL t
 run : ∀ w ∈ waysL [] t, runErr R w = 0
 cok : cokL t
theorem TreesOK.merge {R : RulesZ} {a b : List BrZ} (ha : TreesOK R a) (hb : TreesOK R b) : TreesOK R (mergeL a b) :=
 ⟨dist_mergeL b a ha.dist hb.dist, fun w hw => by
  rcases (ways_mergeL b a [] w).1 hw with h | h
  ·exact ha.run w h
  ·exact hb.run w h, cok_merge b a ha.cok hb.cok⟩
/-! ### a record's own trees -/
theorem rec_cmt {R : RulesZ} {X : RecZ} (h : recErr R X = 0) : (∀ i, i < X.nodes.length → cmtErr (ndAt X.nodes i).comment = 0) ∧ tagsE X.tags = 0 ∧ (0 ≤ X.result ∧ X.result ≤ 3) ∧ cmtErr X.comment = 0 ∧ X.tags.length ≤ 10 := by
 obtain ⟨h1, -, h2⟩ := rec_nodes h
 unfold recErr at h
 rw [if_neg (by simp [h1])] at h
 split at h
 ·cases h
 rename_i hl
 split at h
 ·rename_i hc; exact absurd h hc
 rename_i ht
 split at h
 ·cases h
 rename_i hs
 split at h
 ·rename_i hc; exact absurd h hc
 rename_i hc
 refine ⟨fun i hi => ?_, Decidable.byContradiction ht, by omega, Decidable.byContradiction hc, by omega⟩
 obtain ⟨ds, hd⟩ := nodesE_all _ 0 _ h i (Nat.zero_le _) (by omega)
 unfold nodeE at hd
 by_cases e : cmtErr (ndAt X.nodes i).comment ≠ 0
 ·rw [if_pos e] at hd; exact hd
 ·exact Decidable.byContradiction e
theorem kids_mem {ns : List NodeZ} {p : Int} {k : Nat} (h : k ∈ kidsZ ns p) : k < ns.length ∧ (ndAt ns k).parent = p := by
 unfold kidsZ at h
 rw [List.mem_filter, List.mem_range] at h
 exact ⟨h.1, by simpa using h.2⟩
def trees (X : RecZ) : List BrZ := treeF X.nodes (X.nodes.length + 1) (-1)
theorem trees_len {R : RulesZ} {X : RecZ} (h : recErr R X = 0) : (waysL [] (trees X)).length = X.nodes.length := by
 have hf := flat_ok (trees X)
 have e : flatL (trees X) (-1) [] = X.nodes := flat_rec h
 rw [e] at hf
 exact hf.len.symm
end Go.Proofs.YthklhndcdijneaaGreatDoor
namespace Go.Proofs.YthklhndcdijneaaGreatDoor
open Go.ChangeShapes Go.WideShapes Go.ChangeAt Go.RowKit
set_option linter.unusedVariables false
theorem baB {a b : ByteArray} : (a == b) = true ↔ a = b := by
 rw [beq_toListBytes, beq_iff_eq]
 refine ⟨fun h => ?_, fun h => by rw [h]⟩
 rw [ByteArray.toList_eq, ByteArray.toList_eq] at h
 exact ByteArray.ext (Array.toList_inj.1 h)
theorem idx_at {α : Type} [Inhabited α] (f : α → Bool) : ∀ (l : List α) (k : Int), 0 ≤ k → k ≤ idxL f l k → f (l.getD (idxL f l k - k).toNat default) = true
 | [], k, h0, h => by unfold idxL at h; omega
 | x :: t, k, h0, h => by
  unfold idxL at h ⊢
  split
  ·rename_i q
   rw [show (k - k).toNat = 0 by omega]
   exact q
  ·rename_i q
   rw [if_neg q] at h
   rcases idxL_range f t (k + 1) (by omega) with e | e
   ·omega
   ·have ih := idx_at f t (k + 1) (by omega) e.1
    rw [show (idxL f t (k + 1) - k).toNat = (idxL f t (k + 1) - (k + 1)).toNat + 1 by omega, List.getD_cons_succ]
    exact ih
/-- the text of a legal move is read as the move. -/
theorem read_of {R : RulesZ} {p : PosZ} {m : MoveZ} (he : posErr R p = 0) (hm : m ∈ listZ R p) : readErr R p (ofT R p (listZ R p) m) = 0 ∧ readZ R p (ofT R p (listZ R p) m) = m := by
 have hr : rulesErr R = 0 := by unfold posErr at he; by_cases q : rulesErr R = 0; exact q; rw [if_pos q] at he; exact he
 have L := let_ok hr
 have K := pok_of he
 obtain ⟨s, hs⟩ : ∃ s, s = ofT R p (listZ R p) m := ⟨_, rfl⟩
 rw [← hs]
 have hany := idxL_any (fun m => ofT R p (listZ R p) m == s) (listZ R p) 0 (by omega)
 have h1 : (listZ R p).any (fun m => ofT R p (listZ R p) m == s) = true := List.any_eq_true.2 ⟨m, hm, by rw [hs]; exact baB.2 rfl⟩
 rw [h1] at hany
 have h0 : 0 ≤ readI R p s := by simpa [readI] using hany
 have hre : readErr R p s = 0 := by unfold readErr; rw [if_neg (by simp [he]), if_neg (by omega)]
 have hrz : readZ R p s = (listZ R p).getD (readI R p s).toNat default := by unfold readZ; rw [if_pos hre]
 have hrg := idxL_range (fun m => ofT R p (listZ R p) m == s) (listZ R p) 0 (by omega)
 have hget := idx_at (fun m => ofT R p (listZ R p) m == s) (listZ R p) 0 (by omega) h0
 have hrl : (readI R p s).toNat < (listZ R p).length := by unfold readI at h0 ⊢; omega
 rw [Int.sub_zero] at hget
 have hmem : readZ R p s ∈ listZ R p := by
  rw [hrz, List.getD_eq_getElem?_getD, List.getElem?_eq_getElem hrl]; exact List.getElem_mem hrl
 refine ⟨hre, text_inj L K hmem hm ?_⟩
 have h2 := baB.1 hget
 unfold readI at hrz
 rw [hrz, ← hs]
 exact h2
/-- the bytes of a move's text. -/
theorem of_bytes {R : RulesZ} {p : PosZ} {m : MoveZ} (he : posErr R p = 0) (hm : m ∈ listZ R p) : (∃ c t, bts (ofT R p (listZ R p) m) = c :: t ∧ 65 ≤ c ∧ c ≤ 90) ∧ (∀ x ∈ bts (ofT R p (listZ R p) m), 49 ≤ x ∧ x ≤ 120) ∧ (bts (ofT R p (listZ R p) m)).length ≤ 8 := by
 have hr : rulesErr R = 0 := by unfold posErr at he; by_cases q : rulesErr R = 0; exact q; rw [if_pos q] at he; exact he
 have L := let_ok hr
 have K := pok_of he
 have F := fits_of K hm
 obtain ⟨hd1, hd2⟩ := F.d
 have hcl := K.cl
 have hsq := sq_rg K.r hd1 (by omega)
 have hlet : ∀ k : Int, 0 ≤ k → k < R.pieces.length → 65 ≤ (R.pieces.getD k.toNat default).letter.toNat ∧ (R.pieces.getD k.toNat default).letter.toNat ≤ 90 := fun k h0 h1 => by
  have := L.rg k.toNat (by omega); omega
 rcases legal_src hm with e | ⟨e0, e1, e2, -⟩
 ·rw [of_put L K hm e]
  have h1 := hlet m.piece F.k.1 F.k.2
  refine ⟨⟨_, _, rfl, h1⟩, fun x hx => ?_, by simp⟩
  simp only [List.mem_cons, List.not_mem_nil, or_false] at hx
  rcases hx with rfl | rfl | rfl | rfl <;> omega
 ·rw [of_board L K hm e0]
  have hk : 0 ≤ kindZ p m ∧ kindZ p m < R.pieces.length := by
   have := K.cell m.src.toNat
   unfold kindZ; omega
  have h1 := hlet _ hk.1 hk.2
  have h2 := hlet m.piece F.k.1 F.k.2
  have hsr := sq_rg K.r e0 (by omega : m.src < R.width * R.height)
  have hmk : (∀ x ∈ bts (markT R p (listZ R p) m), 49 ≤ x ∧ x ≤ 120) ∧ (bts (markT R p (listZ R p) m)).length ≤ 2 := by
   rcases mark_cases K.r p (listZ R p) m e0 (by omega) with ⟨-, h⟩ | ⟨-, h⟩ | ⟨-, h⟩ | h <;> rw [h]
   ·exact ⟨fun x hx => (List.not_mem_nil hx).elim, by simp⟩
   ·refine ⟨fun x hx => ?_, by simp⟩
    simp only [List.mem_cons, List.not_mem_nil, or_false] at hx
    subst hx; omega
   ·refine ⟨fun x hx => ?_, by simp⟩
    simp only [List.mem_cons, List.not_mem_nil, or_false] at hx
    subst hx; omega
   ·refine ⟨fun x hx => ?_, by simp⟩
    simp only [List.mem_cons, List.not_mem_nil, or_false] at hx
    rcases hx with rfl | rfl <;> omega
  refine ⟨⟨_, _, rfl, h1⟩, fun x hx => ?_, ?_⟩
  ·rcases List.mem_cons.1 hx with rfl | hx
   ·omega
   rcases List.mem_append.1 hx with hx | hx
   ·rcases List.mem_append.1 hx with hx | hx
    ·rcases List.mem_append.1 hx with hx | hx
     ·exact hmk.1 x hx
     ·split at hx
      ·rw [List.mem_singleton] at hx; omega
      ·cases hx
    ·simp only [List.mem_cons, List.not_mem_nil, or_false] at hx
     rcases hx with rfl | rfl <;> omega
   ·split at hx
    ·simp only [List.mem_cons, List.not_mem_nil, or_false] at hx
     rcases hx with rfl | rfl <;> omega
    ·cases hx
  ·have := hmk.2
   simp only [List.length_cons, List.length_append]
   split <;> split <;> simp <;> omega
theorem bts_mem {b : ByteArray} {x : UInt8} (h : x ∈ b.data.toList) : x.toNat ∈ bts b := by
 unfold bts; exact List.mem_map_of_mem h
theorem print_at (nt : ByteArray) (l : List UInt8) : ∀ (n k : Nat), printFrom nt l k n = true → ∀ j, k ≤ j → j < k + n → chOk nt (l.getD j 0) = true
 | 0, k, _, j, h1, h2 => by omega
 | n + 1, k, h, j, h1, h2 => by
  rw [printFrom, Bool.and_eq_true] at h
  by_cases e : j = k
  ·subst e; exact h.1
  ·exact print_at nt l n (k + 1) h.2 j (by omega) (by omega)
theorem print_mem {s nt : ByteArray} (h : printB s nt = true) {x : UInt8} (hx : x ∈ s.data.toList) : 32 ≤ x.toNat ∧ x.toNat ≤ 126 ∧ firstIdx nt x < 0 := by
 obtain ⟨j, hj, e⟩ := List.mem_iff_getElem.1 hx
 have h1 := print_at nt s.data.toList s.size 0 h j (Nat.zero_le _) (by simpa using hj)
 rw [List.getD_eq_getElem?_getD, List.getElem?_eq_getElem hj, Option.getD_some, e] at h1
 unfold chOk at h1
 simp only [Bool.not_eq_true', Bool.or_eq_false_iff, decide_eq_false_iff_not] at h1
 omega
theorem cmt_brace {c : ByteArray} (h : printB c braces = true) (hy : (125 : UInt8) ∈ c.data.toList) : False := by
 have := (print_mem h hy).2.2
 revert this
 decide
theorem okOne {R : RulesZ} {p : PosZ} {m : MoveZ} {c : ByteArray} (he : posErr R p = 0) (h0 : resultZ R p = 0) (hm : m ∈ listZ R p) (hc : cmtErr c = 0) : OkOne R p m c := by
 obtain ⟨⟨a, t, hat, ha⟩, h2, h3⟩ := of_bytes he hm
 have hhead : ∃ x u, (ofT R p (listZ R p) m).data.toList = x :: u ∧ x.toNat = a := by
  cases hh : (ofT R p (listZ R p) m).data.toList with
  | nil => unfold bts at hat; rw [hh] at hat; cases hat
  | cons x u => unfold bts at hat; rw [hh] at hat; obtain ⟨e, -⟩ := List.cons.inj hat; exact ⟨x, u, rfl, e⟩
 obtain ⟨x, u, hx, hxa⟩ := hhead
 refine ⟨h0, (read_of he hm).1, (read_of he hm).2, fun y hy => ?_, by rw [hx]; simp, fun hr => ?_, fun y hy => ?_, fun y v hy => ?_⟩
 ·have := h2 _ (bts_mem hy)
  unfold isDl
  simp only [Bool.or_eq_false_iff, beq_eq_false_iff_ne, ne_eq]
  refine ⟨⟨⟨⟨⟨?_, ?_⟩, ?_⟩, ?_⟩, ?_⟩, ?_⟩ <;> rintro rfl <;> revert this <;> decide
 ·unfold resTx at hr
  rw [hx] at hr
  simp only [List.mem_cons, List.cons.injEq, List.not_mem_nil, or_false] at hr
  rcases hr with h | h | h | h <;> (obtain ⟨rfl, -⟩ := h; revert hxa; intro hxa; rw [← hxa] at ha; revert ha; decide)
 ·have hp : printB c braces = true := by
   unfold cmtErr at hc
   split at hc
   ·cases hc
   ·split at hc
    ·cases hc
    ·rename_i q; simpa using q
  rintro rfl
  exact cmt_brace hp hy
 ·rw [hx] at hy
  obtain ⟨rfl, -⟩ := List.cons.inj hy
  rintro rfl
  rw [← hxa] at ha
  revert ha
  decide
theorem leg_map {R : RulesZ} {p : PosZ} (g : Nat → BrZ) : ∀ l : List Nat, (∀ k ∈ l, legB R p (g k)) → legL R p (l.map g)
 | [], _ => by rw [List.map_nil, legL]; trivial
 | k :: l, h => by
  rw [List.map_cons, legL]
  exact ⟨h k (List.mem_cons_self ..), leg_map g l (fun j hj => h j (List.mem_cons_of_mem _ hj))⟩
theorem leg_from {R : RulesZ} {ns : List NodeZ} (hN : NodesOK R ns ns.length) (hr : rulesErr R = 0) (hc : ∀ i, i < ns.length → cmtErr (ndAt ns i).comment = 0) : ∀ (f : Nat) (p : Int), legL R (nowZ R (wayI ns p)) (treeF ns f p)
 | 0, p => by rw [treeF, legL]; trivial
 | f + 1, p => by
  rw [treeF]
  refine leg_map _ _ (fun k hk => ?_)
  obtain ⟨hkl, hkp⟩ := kids_mem hk
  have hw := way_snoc hN.back k hkl
  rw [hkp] at hw
  have hrun := run_ok (hN.run k hkl)
  have hlen : (wayI ns p).length < (wayI ns (k : Int)).length := by rw [hw]; simp
  have hpl := hrun.2.1 (wayI ns p).length hlen
  have htk : (wayI ns (k : Int)).take (wayI ns p).length = wayI ns p := by rw [hw]; exact List.take_left
  have hgd : (wayI ns (k : Int)).getD (wayI ns p).length default = (ndAt ns k).m := by rw [hw, List.getD_eq_getElem?_getD]; simp
  rw [htk, hgd] at hpl
  unfold playErr at hpl
  by_cases hg : gameRes R (wayI ns p) ≠ 0
  ·rw [if_pos hg] at hpl; cases hpl
  rw [if_neg hg] at hpl
  by_cases hm : (ndAt ns k).m ∉ listZ R (nowZ R (wayI ns p))
  ·rw [if_pos hm] at hpl; cases hpl
  have hm' : (ndAt ns k).m ∈ listZ R (nowZ R (wayI ns p)) := Decidable.byContradiction hm
  have hg' : gameRes R (wayI ns p) = 0 := Decidable.byContradiction hg
  have h0 : resultZ R (nowZ R (wayI ns p)) = 0 := by
   unfold gameRes at hg'
   split at hg'
   ·cases hg'
   ·exact hg'
  have hK : POk R (nowZ R (wayI ns p)) := by
   have := posAt_ok (begin_ok hr) hrun.2.2.1 (wayI ns p).length (by omega)
   rw [htk] at this
   exact this
  rw [legB]
  refine ⟨okOne (pos_of hr hK) h0 hm' (hc k hkl), ?_⟩
  have hnow : makeZ R (nowZ R (wayI ns p)) (ndAt ns k).m = nowZ R (wayI ns (k : Int)) := by
   rw [hw]
   unfold nowZ
   rw [posAt_snoc]
  rw [hnow]
  exact leg_from hN hr hc f (k : Int)
theorem leg_trees {R : RulesZ} {X : RecZ} (h : recErr R X = 0) : legL R (beginZ R) (trees X) := by
 have h1 := leg_from (rec_nodes h).2.1 (rec_nodes h).1 (rec_cmt h).1 (X.nodes.length + 1) (-1)
 rw [way_neg _ _ (by decide)] at h1
 exact h1
end Go.Proofs.YthklhndcdijneaaGreatDoor

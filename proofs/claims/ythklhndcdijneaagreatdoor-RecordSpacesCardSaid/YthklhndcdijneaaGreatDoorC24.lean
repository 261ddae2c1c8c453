/- RwU, RdP, RdA, Box3. -/
import Derived.Test.YthklhndcdijneaaGreatDoorC23
import Derived.Lib.SlTrimSet
import Derived.Lib.IndexAny
import Derived.Lib.IndexMore
import Derived.WalkLawsBesides
import Derived.BigQuiet
import Derived.Test.YthklhndcdijneaaGreatDoorC09
import Derived.Deep.MidRow
namespace Go.Proofs.YthklhndcdijneaaGreatDoor
open Go.ChangeShapes Go.WideShapes Go.ChangeAt Go.RowKit
set_option linter.unusedVariables false
def bt (b : ByteArray) : Byt := b.data.toList
def tagB (t : TagZ) : Byt := 91 :: (bt t.key ++ 32 :: 34 :: (bt t.value ++ [34, 93, 10]))
def tagsB (l : List TagZ) : Byt := l.flatMap tagB
def resB (n : Int) : Byt := resTx.getD n.toNat []
/-- the texts behind the tags. -/
def partsX (R : RulesZ) (X : RecZ) : List Byt := (if X.comment.size = 0 then [] else [123 :: (bt X.comment ++ [125])]) ++ (txtL R (beginZ R) (trees X) ++ [resB X.result])
def textB (R : RulesZ) (X : RecZ) : Byt := tagsB X.tags ++ (joinB (partsX R X) ++ [10])
def lexX (R : RulesZ) (X : RecZ) : List Lex := (if X.comment.size = 0 then [] else [.cmt (bt X.comment)]) ++ (lexL R (beginZ R) (trees X) ++ [.word (resB X.result)])
def upTo2 (a b : UInt8) : Byt → Option (Byt × Byt)
 | x :: y :: t => if x = a ∧ y = b then some ([], t) else (upTo2 a b (y :: t)).map fun q => (x :: q.1, q.2)
 | _ => none
def rTags : Nat → Byt → Except Int (List TagZ × Byt)
 | 0, l => .ok ([], l)
 | f + 1, l =>
  if (got 91 l).1 = false then .ok ([], (got 91 l).2) else
  match upTo2 32 34 (got 91 l).2 with
  | none => .error 5
  | some k =>
   match upTo2 34 93 k.2 with
   | none => .error 5
   | some v =>
    match rTags f v.2 with
    | .error e => .error e
    | .ok r => .ok (⟨bs k.1, bs v.1⟩ :: r.1, r.2)
/-- the number of a result's text. -/
def resI (w : Byt) : Int := idxL (fun x => x == w) resTx 0
def rBody (R : RulesZ) (l : Byt) : Except Int (Byt × List BrZ × Int) :=
 match rCmt l with
 | .error e => .error e
 | .ok c =>
  match rAfter R (c.2.length + 1) (beginZ R) c.2 with
  | .error e => .error e
  | .ok k =>
   if resI (wordB (blank k.2)) < 0 then .error 5 else
   if blank ((blank k.2).drop (wordB (blank k.2)).length) ≠ [] then .error 5 else
   .ok (c.1, k.1, resI (wordB (blank k.2)))
def rRead (R : RulesZ) (l : Byt) : Except Int RecZ :=
 match rTags (l.length + 1) l with
 | .error e => .error e
 | .ok t =>
  match rBody R t.2 with
  | .error e => .error e
  | .ok b => .ok ⟨t.1, bs b.1, flatL b.2.1 (-1) [], b.2.2⟩
theorem res_ok {n : Int} (h0 : 0 ≤ n) (h1 : n ≤ 3) : resB n ∈ resTx ∧ resI (resB n) = n ∧ (Lex.word (resB n)).ok ∧ ∀ c t, resB n = c :: t → c ≠ 91 := by
 have h : n = 0 ∨ n = 1 ∨ n = 2 ∨ n = 3 := by omega
 rcases h with rfl | rfl | rfl | rfl
 all_goals
  refine ⟨by decide, by decide, ⟨by decide, by decide⟩, fun c t e => ?_⟩
  obtain ⟨rfl, -⟩ := List.cons.inj e
  decide
theorem ren_end : Ren [] [10] := .nil _ (by decide)
/-- the text of a record behind its tags has its lexemes. -/
theorem ren_text {R : RulesZ} {X : RecZ} (h : recErr R X = 0) : Ren (lexX R X) (joinB (partsX R X) ++ [10]) := by
 obtain ⟨-, -, ⟨c0, c1⟩, c2, -⟩ := rec_cmt h
 have hseg : Segs (partsX R X) (lexX R X) := by
  unfold partsX lexX
  refine Segs.app ?_ (((txt_segs R (trees X)).1 _ (leg_trees h)).app ?_)
  ·by_cases hc : X.comment.size = 0
   ·rw [if_pos hc, if_pos hc]; exact .nil
   ·rw [if_neg hc, if_neg hc]
    have h2 : Seg (Lex.cmt (bt X.comment)).byt [.cmt (bt X.comment)] := seg_lex (x := .cmt (bt X.comment)) ⟨fun e => hc (by have := congrArg List.length e; simpa [bt] using this), fun c hc e => by
     subst e
     unfold cmtErr at c2
     split at c2
     ·cases c2
     ·split at c2
      ·cases c2
      ·rename_i q; exact cmt_brace (by simpa using q) hc⟩
    have h3 := Segs.cons _ _ _ _ h2 .nil
    rw [List.append_nil] at h3
    exact h3
  ·have h2 : Seg (Lex.word (resB X.result)).byt [.word (resB X.result)] := seg_lex (res_ok c0 c1).2.2.1
   have h3 := Segs.cons _ _ _ _ h2 .nil
   rw [List.append_nil] at h3
   exact h3
 have := (hseg.join (by unfold partsX; simp)) [] [10] ren_end (fun c t e => by obtain ⟨rfl, -⟩ := List.cons.inj e; rfl)
 rw [List.append_nil] at this
 exact this
theorem ren_len {l : List Lex} {t : Byt} (h : Ren l t) : l.length ≤ t.length := by
 induction h with
 | nil b hb => exact Nat.zero_le _
 | cons x l b s hb hx h hw ih =>
  obtain ⟨c, u, hc, -⟩ := head_ok hx
  rw [hc]
  simp only [List.length_cons, List.length_append]
  omega
/-- the lexemes of a record are read. -/
theorem body_read {R : RulesZ} {X : RecZ} {t : Byt} (h : recErr R X = 0) (hr : Ren (lexX R X) t) : rBody R t = .ok (bt X.comment, trees X, X.result) := by
 obtain ⟨-, -, ⟨c0, c1⟩, c2, -⟩ := rec_cmt h
 obtain ⟨r1, r2, r3, -⟩ := res_ok c0 c1
 have hc : ∃ s, rCmt t = .ok (bt X.comment, s) ∧ Ren (lexL R (beginZ R) (trees X) ++ [.word (resB X.result)]) s := by
  unfold lexX at hr
  by_cases hc : X.comment.size = 0
  ·rw [if_pos hc, List.nil_append] at hr
   obtain ⟨h1, h2⟩ := got_noCmt hr (lexL_cmt R _ _ trivial)
   have hcl : bt X.comment = [] := List.length_eq_zero_iff.1 (by simpa [bt] using hc)
   unfold rCmt
   rw [if_pos h1, hcl]
   exact ⟨_, rfl, h2⟩
  ·rw [if_neg hc, List.cons_append, List.nil_append] at hr
   obtain ⟨u, h1, h2, h3, h4⟩ := got_cmt hr
   unfold rCmt
   rw [h1, if_neg (by simp)]
   simp only [up_cmt u h4]
   rw [if_neg h3]
   exact ⟨u, rfl, h2⟩
 obtain ⟨s, hs, hrs⟩ := hc
 have hfl : (lexL R (beginZ R) (trees X)).length < s.length + 1 := by
  have := ren_len hrs
  rw [List.length_append] at this
  omega
 obtain ⟨s2, e2, q2⟩ := (read_both R (trees X)).1 (beginZ R) (s.length + 1) _ s (leg_trees h) hrs r1 hfl
 obtain ⟨hw, u, hu, hru⟩ := ren_word q2
 unfold rBody
 rw [hs]
 dsimp only
 rw [e2]
 dsimp only
 rw [hw, r2, if_neg (by omega)]
 have hd : (blank s2).drop (resB X.result).length = u := by rw [hu]; exact List.drop_left
 rw [hd, ren_nil hru, if_neg (by simp)]
/-- no tag is next. -/
theorem tags_none {R : RulesZ} {X : RecZ} {t : Byt} (h : recErr R X = 0) (hr : Ren (lexX R X) t) (f : Nat) : ∃ s, rTags (f + 1) t = .ok ([], s) ∧ Ren (lexX R X) s := by
 obtain ⟨-, -, ⟨c0, c1⟩, c2, -⟩ := rec_cmt h
 have hg : (got 91 t).1 = false ∧ Ren (lexX R X) (got 91 t).2 := by
  refine got_none hr (fun x r e d u hd hx => ?_)
  unfold lexX at e
  by_cases hc : X.comment.size = 0
  ·rw [if_pos hc, List.nil_append] at e
   cases htr : trees X with
   | nil =>
    rw [htr, lexL, List.nil_append] at e
    obtain ⟨rfl, -⟩ := List.cons.inj e
    exact (res_ok c0 c1).2.2.2 d u hd
   | cons b l =>
    have hl := leg_trees h
    rw [htr, legL] at hl
    have ok : OkOne R (beginZ R) b.mv b.cm := by cases b; exact hl.1.1
    rw [htr, lexL] at e
    unfold oneL at e
    simp only [List.cons_append] at e
    obtain ⟨rfl, -⟩ := List.cons.inj e
    have hd' : (ofT R (beginZ R) (listZ R (beginZ R)) b.mv).data.toList = d :: u := hd
    exact ok.hd d u hd'
  ·rw [if_neg hc] at e
   obtain ⟨rfl, -⟩ := List.cons.inj e
   obtain ⟨rfl, -⟩ := List.cons.inj hd
   decide
 refine ⟨_, ?_, hg.2⟩
 rw [rTags, if_pos hg.1]
theorem up_two {a b : UInt8} (s : Byt) : ∀ k : Byt, (∀ c ∈ k, c ≠ a) → upTo2 a b (k ++ a :: b :: s) = some (k, s)
 | [], _ => by rw [List.nil_append, upTo2, if_pos ⟨rfl, rfl⟩]
 | x :: k, h => by
  have ih := up_two (a := a) (b := b) s k (fun c hc => h c (List.mem_cons_of_mem _ hc))
  have hx : ¬ (x = a) := h x (List.mem_cons_self ..)
  cases k with
  | nil =>
   rw [List.cons_append, List.nil_append, upTo2, if_neg (fun e => hx e.1)]
   rw [List.nil_append] at ih
   rw [ih]; rfl
  | cons y k =>
   rw [List.cons_append, List.cons_append, upTo2, if_neg (fun e => hx e.1)]
   rw [List.cons_append] at ih
   rw [ih]; rfl
theorem got_tag {b s : Byt} (hb : ∀ c ∈ b, isBl c = true) : got 91 (b ++ 91 :: s) = (true, s) := by
 unfold got blank
 rw [drop_all b _ hb, List.dropWhile_cons_of_neg (by decide)]
 rfl
/-- what tags may be. -/
def TagOK (t : TagZ) : Prop := (∀ c ∈ bt t.key, c ≠ 32) ∧ ∀ c ∈ bt t.value, c ≠ 34
theorem name_at (s : List UInt8) : ∀ (n k : Nat), nameFrom s k n = true → ∀ j, k ≤ j → j < k + n → nameCh j (s.getD j 0).toNat = true
 | 0, k, _, j, h1, h2 => by omega
 | n + 1, k, h, j, h1, h2 => by
  rw [nameFrom, Bool.and_eq_true] at h
  by_cases e : j = k
  ·subst e; exact h.1
  ·exact name_at s n (k + 1) h.2 j (by omega) (by omega)
theorem name_mem {s : ByteArray} (h : nameOk s = true) {x : UInt8} (hx : x ∈ s.data.toList) : 48 ≤ x.toNat ∧ x.toNat ≤ 90 := by
 unfold nameOk at h
 rw [Bool.and_eq_true, Bool.and_eq_true] at h
 obtain ⟨j, hj, e⟩ := List.mem_iff_getElem.1 hx
 have h1 := name_at s.data.toList s.size 0 h.1.1 j (Nat.zero_le _) (by simpa using hj)
 rw [List.getD_eq_getElem?_getD, List.getElem?_eq_getElem hj, Option.getD_some, e] at h1
 unfold nameCh at h1
 simp only [Bool.or_eq_true, Bool.and_eq_true, decide_eq_true_eq] at h1
 omega
theorem tags_ok {l : List TagZ} (h : tagsE l = 0) : ∀ t ∈ l, TagOK t := fun t ht => by
 obtain ⟨i, hi, e⟩ := List.mem_iff_getElem.1 ht
 have h1 : tagE l i = 0 := by
  unfold tagsE at h
  rw [scanE_zero] at h
  exact h i (Nat.zero_le _) (by omega)
 have hg : l.getD i default = t := by rw [List.getD_eq_getElem?_getD, List.getElem?_eq_getElem hi]; exact e
 unfold tagE at h1
 rw [hg] at h1
 by_cases hk : nameOk t.key = false
 ·rw [if_pos hk] at h1; cases h1
 rw [if_neg hk] at h1
 by_cases hv : 40 < t.value.size
 ·rw [if_pos hv] at h1; cases h1
 rw [if_neg hv] at h1
 by_cases hp : printB t.value quote = false
 ·rw [if_pos hp] at h1; cases h1
 refine ⟨fun c hc => ?_, fun c hc => ?_⟩
 ·have := name_mem (by simpa using hk) hc
  rintro rfl
  revert this; decide
 ·have := (print_mem (by simpa using hp) hc).2.2
  rintro rfl
  revert this; decide
theorem tags_read {R : RulesZ} {X : RecZ} {t : Byt} (h : recErr R X = 0) (hr : Ren (lexX R X) t) : ∀ (l : List TagZ) (b : Byt) (f : Nat), (∀ x ∈ l, TagOK x) → (∀ c ∈ b, isBl c = true) → l.length < f → ∃ s, rTags f (b ++ (tagsB l ++ t)) = .ok (l, s) ∧ Ren (lexX R X) s
 | [], b, f, _, hb, hf => by
  obtain ⟨f, rfl⟩ : ∃ k, f = k + 1 := ⟨f - 1, by simp at hf; omega⟩
  exact tags_none h (by unfold tagsB; rw [List.flatMap_nil, List.nil_append]; exact ren_more hb hr) f
 | x :: l, b, f, hl, hb, hf => by
  obtain ⟨f, rfl⟩ : ∃ k, f = k + 1 := ⟨f - 1, by simp at hf; omega⟩
  obtain ⟨hx1, hx2⟩ := hl x (List.mem_cons_self ..)
  obtain ⟨s, e, hs⟩ := tags_read h hr l [10] f (fun y hy => hl y (List.mem_cons_of_mem _ hy)) (by decide) (by simp at hf; omega)
  have e1 : b ++ (tagsB (x :: l) ++ t) = b ++ 91 :: (bt x.key ++ 32 :: 34 :: (bt x.value ++ 34 :: 93 :: ([10] ++ (tagsB l ++ t)))) := by
   unfold tagsB tagB
   rw [List.flatMap_cons]
   simp
  rw [e1, rTags, got_tag hb, if_neg (by simp)]
  dsimp only
  rw [up_two _ _ hx1]
  dsimp only
  rw [up_two _ _ hx2]
  dsimp only
  rw [e]
  exact ⟨s, rfl, hs⟩
theorem tags_len (l : List TagZ) : l.length ≤ (tagsB l).length := by
 induction l with
 | nil => exact Nat.zero_le _
 | cons x l ih =>
  have : (tagsB (x :: l)).length = (tagB x).length + (tagsB l).length := by unfold tagsB; rw [List.flatMap_cons, List.length_append]
  rw [this]
  unfold tagB
  simp; omega
/-- what is written is read again. -/
theorem text_read {R : RulesZ} {X : RecZ} (h : recErr R X = 0) : rRead R (textB R X) = .ok X := by
 have hr := ren_text h
 obtain ⟨s, e, hs⟩ := tags_read h hr X.tags [] ((textB R X).length + 1) (tags_ok (rec_cmt h).2.1) (fun c hc => (List.not_mem_nil hc).elim) (by
  unfold textB
  have := tags_len X.tags
  rw [List.length_append]; omega)
 unfold rRead
 rw [List.nil_append] at e
 have e' : rTags ((textB R X).length + 1) (textB R X) = .ok (X.tags, s) := e
 rw [e']
 dsimp only
 rw [body_read h hs]
 dsimp only
 have hf : flatL (trees X) (-1) [] = X.nodes := flat_rec h
 rw [hf]
 rfl
mutual
/-- no comments. -/
def clB : BrZ → Prop
 | .mk _ c ks => c.size = 0 ∧ clL ks
def clL : List BrZ → Prop
 | [] => True
 | b :: l => clB b ∧ clL l
end
theorem clean_flat : ∀ (l : List BrZ) (q : Int) (out : List NodeZ), (∀ x ∈ flatL l q out, x.comment.size = 0) → clL l ∧ ∀ x ∈ out, x.comment.size = 0 := by
 refine br_indL (PB := fun b => ∀ (q : Int) (out : List NodeZ), (∀ x ∈ flatB b q out, x.comment.size = 0) → clB b ∧ ∀ x ∈ out, x.comment.size = 0) (PL := fun l => ∀ (q : Int) (out : List NodeZ), (∀ x ∈ flatL l q out, x.comment.size = 0) → clL l ∧ ∀ x ∈ out, x.comment.size = 0) ?_ ?_ ?_
 ·intro m c ks ih q out h
  rw [flatB] at h
  obtain ⟨h1, h2⟩ := ih _ _ h
  exact ⟨by rw [clB]; exact ⟨h2 ⟨q, m, c⟩ (List.mem_append_right _ (List.mem_singleton.2 rfl)), h1⟩, fun x hx => h2 x (List.mem_append_left _ hx)⟩
 ·intro q out h
  rw [flatL] at h
  exact ⟨by rw [clL]; trivial, h⟩
 ·intro b l hb hl q out h
  rw [flatL] at h
  obtain ⟨h1, h2⟩ := hl _ _ h
  obtain ⟨h3, h4⟩ := hb _ _ h2
  exact ⟨by rw [clL]; exact ⟨h3, h1⟩, h4⟩
theorem noCmts_app {a b : List Lex} (ha : noCmts a) (hb : noCmts b) : noCmts (a ++ b) := fun x hx => by
 rcases List.mem_append.1 hx with h | h
 ·exact ha x h
 ·exact hb x h
theorem noCmts_nil : noCmts [] := fun _ h => by cases h
theorem noCmts_one {x : Lex} {l : List Lex} (hx : ∀ b, x ≠ .cmt b) (h : noCmts l) : noCmts (x :: l) := fun y hy => by
 rcases List.mem_cons.1 hy with rfl | h'
 ·exact hx
 ·exact h y h'
theorem oneL_cmts {R : RulesZ} {p : PosZ} {m : MoveZ} {c : ByteArray} (h : c.size = 0) : noCmts (oneL R p m c) := by
 unfold oneL
 rw [if_pos h]
 exact noCmts_one (fun b => by simp) noCmts_nil
theorem lex_cmts {R : RulesZ} : ∀ l : List BrZ, clL l → ∀ p, noCmts (lexL R p l) ∧ noCmts (lexV R p l) := by
 refine br_indL (PB := fun b => clB b → b.cm.size = 0 ∧ ∀ p, noCmts (aftB R p b)) (PL := fun l => clL l → ∀ p, noCmts (lexL R p l) ∧ noCmts (lexV R p l)) ?_ ?_ ?_
 ·intro m c ks ih h
  rw [clB] at h
  exact ⟨h.1, fun p => by rw [aftB]; exact (ih h.2 _).1⟩
 ·intro _ p
  rw [lexL, lexV]
  exact ⟨noCmts_nil, noCmts_nil⟩
 ·intro b l hb hl h p
  rw [clL] at h
  obtain ⟨h1, h2⟩ := hb h.1
  obtain ⟨h3, h4⟩ := hl h.2 p
  rw [lexL, lexV]
  exact ⟨noCmts_app (oneL_cmts h1) (noCmts_app h4 (h2 p)), noCmts_one (fun b => by simp) (noCmts_app (oneL_cmts h1) (noCmts_app (h2 p) (noCmts_one (fun b => by simp) h4)))⟩
theorem lexX_cmts {R : RulesZ} {X : RecZ} (h : recErr R X = 0) (hc : X.comment.size = 0) (hn : ∀ x ∈ X.nodes, x.comment.size = 0) : noCmts (lexX R X) := by
 have hf : flatL (trees X) (-1) [] = X.nodes := flat_rec h
 unfold lexX
 rw [if_pos hc, List.nil_append]
 exact noCmts_app (lex_cmts _ (clean_flat _ _ _ (by rw [hf]; exact hn)).1 _).1 (noCmts_one (fun b => by simp) noCmts_nil)
end Go.Proofs.YthklhndcdijneaaGreatDoor
namespace Go.Proofs.YthklhndcdijneaaGreatDoor
open Go.ChangeShapes Go.WideShapes Go.ChangeAt Go.RowKit
set_option linter.unusedVariables false
theorem trim_blank (l : Byt) : Lib.trimLeftS l [32, 10] = blank l := by
 unfold Lib.trimLeftS blank
 congr 1
 funext c
 unfold isBl
 simp only [List.contains, List.elem]
 cases (c == 32) <;> cases (c == 10) <;> rfl
theorem dl_any (c : UInt8) : [32, 10, 40, 41, 123, 125].contains c = isDl c := by
 unfold isDl
 simp only [List.contains, List.elem]
 cases (c == 32) <;> cases (c == 10) <;> cases (c == 40) <;> cases (c == 41) <;> cases (c == 123) <;> cases (c == 125) <;> rfl
theorem any_word : ∀ l : Byt, (Lib.indexAny l [32, 10, 40, 41, 123, 125] = -1 ∧ wordB l = l) ∨ (Lib.indexAny l [32, 10, 40, 41, 123, 125] = ((wordB l).length : Int) ∧ (wordB l).length ≤ l.length)
 | [] => .inl ⟨rfl, rfl⟩
 | b :: l => by
  rw [Lib.indexAny, dl_any]
  unfold wordB
  cases h : isDl b
  ·rw [List.takeWhile_cons_of_pos (by rw [h]; rfl)]
   rcases any_word l with ⟨h1, h2⟩ | ⟨h1, h2⟩
   ·refine .inl ⟨by rw [h1]; rfl, ?_⟩
    unfold wordB at h2
    rw [h2]
   ·refine .inr ⟨?_, by simpa [wordB] using h2⟩
    rw [h1]
    unfold wordB
    simp only [List.length_cons]
    rw [if_neg (by simp), if_neg (by simp)]
    omega
  ·rw [List.takeWhile_cons_of_neg (by rw [h]; simp)]
   exact .inr ⟨by simp, by simp⟩
theorem wordB_take (l : Byt) : l.take (wordB l).length = wordB l := by
 unfold wordB
 induction l with
 | nil => rfl
 | cons b l ih =>
  cases h : isDl b
  ·rw [List.takeWhile_cons_of_pos (by rw [h]; rfl), List.length_cons, List.take_succ_cons, ih]
  ·rw [List.takeWhile_cons_of_neg (by rw [h]; simp)]; rfl
theorem wordB_le (l : Byt) : (wordB l).length ≤ l.length := by
 have := congrArg List.length (wordB_take l)
 rw [List.length_take] at this
 omega
def cutR (l : Byt) : Option (Byt × Byt) → Byt × Byt × Bool
 | none => (l, [], false)
 | some q => (q.1, q.2, true)
theorem cut_of {sep : Byt} {l : Byt} {o : Option (Byt × Byt)} (h : (o = none ∧ Lib.index l sep = -1) ∨ ∃ i : Nat, Lib.index l sep = i ∧ o = some (l.take i, l.drop (i + sep.length))) : Lib.cut l sep = cutR l o := by
 unfold Lib.cut
 rcases h with ⟨rfl, h⟩ | ⟨i, h, rfl⟩
 ·rw [h, if_neg (by decide)]; rfl
 ·rw [h, if_pos (by omega)]
  rfl
theorem cut_one (c : UInt8) : ∀ l : Byt, (upTo1 c l = none ∧ Lib.index l [c] = -1) ∨ ∃ i : Nat, Lib.index l [c] = i ∧ upTo1 c l = some (l.take i, l.drop (i + [c].length))
 | [] => .inl ⟨rfl, rfl⟩
 | x :: l => by
  rw [upTo1, Lib.index]
  by_cases e : x = c
  ·subst e
   rw [if_pos rfl]
   exact .inr ⟨0, by simp, by simp⟩
  ·rw [if_neg e, if_neg (by simp [Ne.symm e])]
   rcases cut_one c l with ⟨h1, h2⟩ | ⟨i, h1, h2⟩
   ·rw [h1, h2]; exact .inl ⟨rfl, rfl⟩
   ·rw [h1, h2, if_neg (by simp)]
    refine .inr ⟨i + 1, by omega, ?_⟩
    rw [List.take_succ_cons, Nat.add_right_comm, List.drop_succ_cons]
    rfl
theorem cut_two (a b : UInt8) : ∀ l : Byt, (upTo2 a b l = none ∧ Lib.index l [a, b] = -1) ∨ ∃ i : Nat, Lib.index l [a, b] = i ∧ upTo2 a b l = some (l.take i, l.drop (i + [a, b].length))
 | [] => .inl ⟨by rw [upTo2]; simp, rfl⟩
 | [x] => .inl ⟨by rw [upTo2]; simp, by simp [Lib.index]⟩
 | x :: y :: l => by
  rw [upTo2, Lib.index]
  by_cases e : x = a ∧ y = b
  ·obtain ⟨rfl, rfl⟩ := e
   rw [if_pos ⟨rfl, rfl⟩]
   exact .inr ⟨0, by simp, by simp⟩
  ·rw [if_neg e, if_neg (by simp only [List.isPrefixOf, Bool.and_true, Bool.and_eq_true, beq_iff_eq]; exact fun h => e ⟨h.1.symm, h.2.symm⟩)]
   rcases cut_two a b (y :: l) with ⟨h1, h2⟩ | ⟨i, h1, h2⟩
   ·rw [h1, h2]; exact .inl ⟨rfl, rfl⟩
   ·rw [h1, h2, if_neg (by simp)]
    refine .inr ⟨i + 1, by omega, ?_⟩
    rw [List.take_succ_cons, Nat.add_right_comm, List.drop_succ_cons]
    rfl
theorem cut1 (c : UInt8) (l : Byt) : Lib.cut l [c] = cutR l (upTo1 c l) := cut_of (cut_one c l)
theorem cut2 (a b : UInt8) (l : Byt) : Lib.cut l [a, b] = cutR l (upTo2 a b l) := cut_of (cut_two a b l)
end Go.Proofs.YthklhndcdijneaaGreatDoor
namespace Go.Proofs.YthklhndcdijneaaGreatDoor
open Go.ChangeShapes Go.WideShapes Go.ChangeAt Go.RowKit
set_option linter.unusedVariables false
/-- what the shelf says of the library's functions. -/
def TrimSaid : Prop := ∀ (s : ByteArray) (w : World), Calls Tryz.prog 80 #[.string s, .string ⟨#[32, 10]⟩] w fun e w' => e = .returned (.string (bs (blank (bt s)))) ∧ Below w.heap.size w w'
def AnySaid : Prop := ∀ (s : ByteArray) (w : World), s.size ≤ 100000 → Calls Tryz.prog 79 #[.string s, .string ⟨#[32, 10, 40, 41, 123, 125]⟩] w fun e w' => e = .returned (.int .i64 (Lib.indexAny (bt s) [32, 10, 40, 41, 123, 125])) ∧ Below w.heap.size w w'
/-- the global variable that the search reads, below base. -/
def Mx (base : Nat) (w : World) : Prop := ∃ (g : Nat) (m : Int), Tryz.prog.globalNamed "internal/bytealg.MaxLen" = some g ∧ g < base ∧ w.cell? ⟨g, 0, none⟩ = some (.int .i64 m)
theorem Mx.below {base : Nat} {w w' : World} (h : Mx base w) (hb : Below base w w') : Mx base w' := by
 obtain ⟨g, m, h1, h2, h3⟩ := h
 exact ⟨g, m, h1, h2, by rw [Below.cell hb h2]; exact h3⟩
theorem Mx.mono {base base' : Nat} {w : World} (h : Mx base w) (hb : base ≤ base') : Mx base' w := by
 obtain ⟨g, m, h1, h2, h3⟩ := h
 exact ⟨g, m, h1, Nat.lt_of_lt_of_le h2 hb, h3⟩
theorem Mx.fr {b : Nat} {w w' : World} (h : Mx b w) (hf : Fr (· = b) w w') (hb : b < w.heap.size) : Mx b w' := by
 obtain ⟨g, m, h1, h2, h3⟩ := h
 exact ⟨g, m, h1, h2, by rw [World.cell?_of_block (w := w) (hf.block g (by omega) (show ¬ g = b by omega))]; exact h3⟩
def CutSaid : Prop := ∀ (s sep : ByteArray) (w : World), s.size ≤ 100000 → Mx w.heap.size w → Calls Tryz.prog 74 #[.string s, .string sep] w fun e w' => e = .returned (.tuple #[.string (bs (Lib.cut (bt s) (bt sep)).1), .string (bs (Lib.cut (bt s) (bt sep)).2.1), .bool (Lib.cut (bt s) (bt sep)).2.2]) ∧ Below w.heap.size w w'
def CloneSaid : Prop := ∀ (s : ByteArray) (w : World), s.size ≤ 100000 → Calls Tryz.prog 76 #[.string s] w fun e w' => e = .returned (.string s) ∧ Below w.heap.size w w'
/-- a reader in block b. -/
def rdC (R : RulesZ) (vp vs ve : Value) (s : ByteArray) (x0 x1 x2 x3 : Value) : List Value := [.string R.name, .int .i64 R.width, .int .i64 R.height, vp, vs, .bool R.falls, .bool R.keeps, ve, .int .i64 R.blocked, .int .i64 R.quiet, .int .i64 R.rept, .string s, x0, x1, x2, x3]
abbrev RdT : TypeId := 80
def wrongV (e : Int) : List PanicEntry := [{ v := .iface 109 (.agg #[.int .i64 e]), recovered := false }]
theorem bt_bs (l : Byt) : bt (bs l) = l := by simp [bt, bs]
theorem bt_len (s : ByteArray) : (bt s).length = s.size := Array.length_toList
theorem bs_size (l : Byt) : (bs l).size = l.length := by simp [bs, ByteArray.size]
theorem bs_drop (l : Byt) (k : Nat) : (bs l).extract k (bs l).size = bs (l.drop k) := by
 apply ByteArray.ext
 rw [ByteArray.data_extract]
 apply Array.toList_inj.1
 rw [Array.toList_extract, List.extract_eq_take_drop]
 simp only [bs_size]
 show (l.drop k).take _ = l.drop k
 rw [List.take_of_length_le (by simp)]
theorem bs_take (l : Byt) (k : Nat) : (bs l).extract 0 k = bs (l.take k) := by
 apply ByteArray.ext
 rw [ByteArray.data_extract]
 apply Array.toList_inj.1
 rw [Array.toList_extract, List.extract_eq_take_drop]
 show (l.drop 0).take _ = l.take k
 simp
set_option maxRecDepth 100000
set_option maxHeartbeats 8000000
variable {R : RulesZ} {vp vs ve x0 x1 x2 x3 : Value}
theorem fail_any (b : Nat) (n : Int) (w : World) : Calls Tryz.prog 75 #[.pointer (some ⟨b, 0, none⟩), .int .i64 n] w fun e w' => e = .panicked (wrongV n) ∧ w' = w := by
 unfold wrongV
 go_enter Tryz.func75, Tryz.ntmps75
 go_wp2
 exact ⟨rfl, rfl, rfl⟩
theorem blank_any (HT : TrimSaid) (b : Nat) (s : ByteArray) (w : World) (hb : Box w b (rdC R vp vs ve s x0 x1 x2 x3) RdT) :
  Calls Tryz.prog 56 #[.pointer (some ⟨b, 0, none⟩)] w fun e w' => e = .returned (.tuple #[]) ∧ Box w' b (rdC R vp vs ve (bs (blank (bt s))) x0 x1 x2 x3) RdT ∧ Fr (· = b) w w' := by
 have HB := Lib.hid hb
 have HTh := Lib.hid HT
 have c11 := hb.cell 11 rfl
 clear HT hb
 go_enter Tryz.func56, Tryz.ntmps56
 go_wp2_with (refine (HTh.out s w).mono ?_; rintro e w1 ⟨rfl, hb1⟩; have HB1 := Lib.hid (HB.out.stays hb1); have HF := Lib.hid (Fr.of_new (S := (· = b)) hb1); clear c11 HB hb1; have c11 := HB1.out.cell 11 rfl; have f11 := HB1.out.frozen 11)
 go_end0
 exact ⟨rfl, HB1.out.set 11 (.string (bs (blank (bt s)))), HF.out.setCell rfl _⟩
theorem got_any (HT : TrimSaid) (b : Nat) (s : ByteArray) (c : UInt8) (w : World) (hb : Box w b (rdC R vp vs ve s x0 x1 x2 x3) RdT) (hs : s.size ≤ 100000) :
  Calls Tryz.prog 50 #[.pointer (some ⟨b, 0, none⟩), .int .u8 c.toNat] w fun e w' => e = .returned (.bool (got c (bt s)).1) ∧ Box w' b (rdC R vp vs ve (bs (got c (bt s)).2) x0 x1 x2 x3) RdT ∧ Fr (· = b) w w' := by
 have HC := Lib.hid (blank_any HT b s w hb)
 clear HT
 unfold got
 obtain ⟨l, hl⟩ : ∃ l, l = blank (bt s) := ⟨_, rfl⟩
 rw [← hl] at HC ⊢
 cases l with
 | nil =>
  have hemp : (bs []).toList.isEmpty = true := by rw [Lib.toList_data]; rfl
  clear hl
  go_enter Tryz.func50, Tryz.ntmps50
  go_wp2_with (refine HC.out.mono ?_; rintro e w1 ⟨rfl, hb1, hf1⟩; have HB1 := Lib.hid hb1; have HF := Lib.hid hf1; have c11 := hb1.cell 11 rfl; have f11 := hb1.frozen 11; clear HC hb hb1 hf1)
  go_ret
  exact ⟨rfl, HB1.out, HF.out⟩
 | cons x t =>
  have hemp : (bs (x :: t)).toList.isEmpty = false := by rw [Lib.toList_data]; rfl
  have hz : 0 < (bs (x :: t)).size := by rw [bs_size]; simp
  have hz1 : (1 : Int) ≤ ((bs (x :: t)).size : Int) := by omega
  have hx : (bs (x :: t))[0]'hz = x := rfl
  clear hl
  by_cases e : x = c
  ·subst e
   go_enter Tryz.func50, Tryz.ntmps50
   go_wp2_with (refine HC.out.mono ?_; rintro e w1 ⟨rfl, hb1, hf1⟩; have HB1 := Lib.hid hb1; have HF := Lib.hid hf1; have c11 := hb1.cell 11 rfl; have f11 := hb1.frozen 11; clear HC hb hb1 hf1)
   go_ret
   rw [bs_drop]
   exact ⟨rfl, HB1.out.set 11 _, HF.out.setCell rfl _⟩
  ·have hne : ((x.toNat : Int) == (c.toNat : Int)) = false := by
    rw [beq_eq_false_iff_ne]
    intro h
    exact e (UInt8.toNat_inj.1 (by omega))
   go_enter Tryz.func50, Tryz.ntmps50
   go_wp2_with (refine HC.out.mono ?_; rintro e w1 ⟨rfl, hb1, hf1⟩; have HB1 := Lib.hid hb1; have HF := Lib.hid hf1; have c11 := hb1.cell 11 rfl; have f11 := hb1.frozen 11; clear HC hb hb1 hf1)
   go_ret
   exact ⟨rfl, HB1.out, HF.out⟩
/-- what a function leaves that may end in a panic: the answer and the rest of the text. -/
def RdPost (b : Nat) (R : RulesZ) (vp vs ve x0 x1 x2 x3 : Value) (w : World) (o : Except Int (Value × Byt)) (e : Ending) (w' : World) : Prop :=
 Fr (· = b) w w' ∧ match o with
 | .error n => e = .panicked (wrongV n)
 | .ok q => e = .returned q.1 ∧ Box w' b (rdC R vp vs ve (bs q.2) x0 x1 x2 x3) RdT
def upR : Option (Byt × Byt) → Except Int (Value × Byt)
 | none => .error 5
 | some q => .ok (.string (bs q.1), q.2)
theorem upTo_any (HC : CutSaid) (HCl : CloneSaid) (b : Nat) (s sep : ByteArray) (o : Option (Byt × Byt)) (w : World) (hb : Box w b (rdC R vp vs ve s x0 x1 x2 x3) RdT) (hs : s.size ≤ 100000) (hm : Mx b w) (ho : Lib.cut (bt s) (bt sep) = cutR (bt s) o) (hq : ∀ q, o = some q → q.1.length ≤ (bt s).length) :
  Calls Tryz.prog 51 #[.pointer (some ⟨b, 0, none⟩), .string sep] w (RdPost b R vp vs ve x0 x1 x2 x3 w (upR o)) := by
 have HCh := Lib.hid (HC s sep w hs (hm.mono (Nat.le_of_lt hb.lt)))
 have HK := Lib.hid HCl
 have HB := Lib.hid hb
 have hbs := bt_len s
 rw [ho] at HCh
 have c11 := hb.cell 11 rfl
 have HS := Lib.hid hs
 have HQ := Lib.hid hq
 have HBS := Lib.hid hbs
 clear ho hm HC HCl hb hs hq hbs
 cases o with
 | none =>
  unfold cutR at HCh
  show Calls _ _ _ _ fun e w' => Fr (· = b) w w' ∧ e = .panicked (wrongV 5)
  go_enter Tryz.func51, Tryz.ntmps51
  go_wp2_with (first | (refine HCh.out.mono ?_; rintro e w1 ⟨rfl, hb1⟩; have HF := Lib.hid (Fr.of_new (S := (· = b)) hb1); clear hb1) | (go_at_call 75; refine (fail_any b 5 _).mono ?_; rintro e w2 ⟨rfl, rfl⟩))
  exact ⟨rfl, HF.out, rfl⟩
 | some q =>
  unfold cutR at HCh
  show Calls _ _ _ _ fun e w' => Fr (· = b) w w' ∧ e = .returned (.string (bs q.1)) ∧ Box w' b (rdC R vp vs ve (bs q.2) x0 x1 x2 x3) RdT
  have hz : (bs q.1).size ≤ 100000 := by
   rw [bs_size]
   exact Nat.le_trans (HQ.out q rfl) (HBS.out ▸ HS.out)
  go_enter Tryz.func51, Tryz.ntmps51
  go_wp2_with (first | (refine HCh.out.mono ?_; rintro e w1 ⟨rfl, hb1⟩; have HB1 := Lib.hid (HB.out.stays hb1); have HF := Lib.hid (Fr.of_new (S := (· = b)) hb1); clear c11 hb1; have c11 := HB1.out.cell 11 rfl; have f11 := HB1.out.frozen 11) | (refine (HK.out _ _ hz).mono ?_; rintro e w2 ⟨rfl, hb2⟩))
  go_ret
  have hf := HF.out.setCell (p := ⟨b, 11, none⟩) rfl (.string (bs q.2))
  exact ⟨hf.trans (Fr.of_new hb2) (Shr.refl _ _), rfl, (Box.set HB1.out 11 (.string (bs q.2))).stays hb2⟩
/-- what comment takes. -/
def cmR (l : Byt) : Except Int (Value × Byt) :=
 match rCmt l with
 | .error e => .error e
 | .ok q => .ok (.string (bs q.1), q.2)
theorem up1_le (c : UInt8) : ∀ (l : Byt) (q : Byt × Byt), upTo1 c l = some q → q.1.length + q.2.length < l.length
 | [], q, h => by cases h
 | x :: l, q, h => by
  rw [upTo1] at h
  by_cases e : x = c
  ·rw [if_pos e] at h
   obtain rfl := Option.some.inj h
   simp
  ·rw [if_neg e] at h
   obtain ⟨r, h1, rfl⟩ := Option.map_eq_some_iff.1 h
   have := up1_le c l r h1
   simp only [List.length_cons]
   omega
theorem blank_le (l : Byt) : (blank l).length ≤ l.length := by
 unfold blank
 exact (List.dropWhile_sublist _).length_le
theorem got_le (c : UInt8) (l : Byt) : (got c l).2.length ≤ l.length := by
 have := blank_le l
 unfold got
 cases h : blank l with
 | nil => simp
 | cons x t =>
  rw [h] at this
  dsimp only
  split <;> simp at this ⊢ <;> omega
theorem rcomment_any (HT : TrimSaid) (HC : CutSaid) (HCl : CloneSaid) (b : Nat) (s : ByteArray) (w : World) (hb : Box w b (rdC R vp vs ve s x0 x1 x2 x3) RdT) (hs : s.size ≤ 100000) (hm : Mx b w) :
  Calls Tryz.prog 52 #[.pointer (some ⟨b, 0, none⟩)] w (RdPost b R vp vs ve x0 x1 x2 x3 w (cmR (bt s))) := by
 have HG := Lib.hid (got_any HT b s 123 w hb hs)
 have HCh := Lib.hid HC
 have HK := Lib.hid HCl
 have HM : Hid (∀ w1, Fr (· = b) w w1 → Mx b w1) := Lib.hid fun w1 hf => hm.fr hf hb.lt
 have hbs := bt_len s
 have hgl : (got 123 (bt s)).2.length ≤ 100000 := by have := got_le 123 (bt s); omega
 have HGL := Lib.hid hgl
 unfold cmR rCmt
 clear hm HC HCl hb hs hbs HT hgl
 obtain ⟨l, hl⟩ : ∃ l, l = (got 123 (bt s)).2 := ⟨_, rfl⟩
 obtain ⟨g, hg⟩ : ∃ g, g = (got 123 (bt s)).1 := ⟨_, rfl⟩
 rw [← hl, ← hg] at HG ⊢
 rw [← hl] at HGL
 clear hl hg
 cases g with
 | false =>
  show Calls _ _ _ _ fun e w' => Fr (· = b) w w' ∧ e = .returned (.string (bs [])) ∧ Box w' b (rdC R vp vs ve (bs l) x0 x1 x2 x3) RdT
  go_enter Tryz.func52, Tryz.ntmps52
  go_wp2_with (refine HG.out.mono ?_; rintro e w1 ⟨rfl, hb1, hf1⟩)
  go_ret
  exact ⟨hf1, rfl, hb1⟩
 | true =>
  rw [if_neg (by simp)]
  have HU : ∀ w1, Box w1 b (rdC R vp vs ve (bs l) x0 x1 x2 x3) RdT → Fr (· = b) w w1 → Calls Tryz.prog 51 #[.pointer (some ⟨b, 0, none⟩), .string ⟨#[125]⟩] w1 (RdPost b R vp vs ve x0 x1 x2 x3 w1 (upR (upTo1 125 l))) := fun w1 h1 hf => by
   refine upTo_any HCh.out HK.out b (bs l) ⟨#[125]⟩ (upTo1 125 l) w1 h1 (by rw [bs_size]; exact HGL.out) (HM.out w1 hf) (by rw [bt_bs]; exact cut1 125 l) (fun q hq => by rw [bt_bs]; have := up1_le 125 l q hq; omega)
  have HUh := Lib.hid HU
  clear HU HCh HK
  cases hu : upTo1 125 l with
  | none =>
   rw [hu] at HUh
   show Calls _ _ _ _ fun e w' => Fr (· = b) w w' ∧ e = .panicked (wrongV 5)
   unfold RdPost upR at HUh
   dsimp only at HUh
   clear hu
   go_enter Tryz.func52, Tryz.ntmps52
   go_wp2_with (first | (refine HG.out.mono ?_; rintro e w1 ⟨rfl, hb1, hf1⟩) | (refine (HUh.out _ hb1 hf1).mono ?_; rintro e w2 ⟨hf2, rfl⟩))
   exact ⟨rfl, hf1.trans hf2 (Shr.refl _ _), rfl⟩
  | some q =>
   rw [hu] at HUh
   unfold RdPost upR at HUh
   dsimp only at HUh
   clear hu
   by_cases hq : q.1 = []
   ·show Calls _ _ _ _ fun e w' => Fr (· = b) w w' ∧ _
    dsimp only
    rw [if_pos hq]
    dsimp only
    rw [hq] at HUh
    have hemp : (bs []).toList.isEmpty = true := by rw [Lib.toList_data]; rfl
    clear hq
    go_enter Tryz.func52, Tryz.ntmps52
    go_wp2_with (first | (refine HG.out.mono ?_; rintro e w1 ⟨rfl, hb1, hf1⟩) | (refine (HUh.out _ hb1 hf1).mono ?_; rintro e w2 ⟨hf2, rfl, hb2⟩) | (go_at_call 75; refine (fail_any b 5 _).mono ?_; rintro e w3 ⟨rfl, rfl⟩))
    exact ⟨rfl, hf1.trans hf2 (Shr.refl _ _), rfl⟩
   ·show Calls _ _ _ _ fun e w' => Fr (· = b) w w' ∧ _
    dsimp only
    rw [if_neg hq]
    dsimp only
    have hemp : (bs q.1).toList.isEmpty = false := by
     rw [Lib.toList_data]
     show q.1.isEmpty = false
     cases h : q.1 with
     | nil => exact absurd h hq
     | cons _ _ => rfl
    clear hq
    go_enter Tryz.func52, Tryz.ntmps52
    go_wp2_with (first | (refine HG.out.mono ?_; rintro e w1 ⟨rfl, hb1, hf1⟩) | (refine (HUh.out _ hb1 hf1).mono ?_; rintro e w2 ⟨hf2, rfl, hb2⟩))
    go_ret
    exact ⟨hf1.trans hf2 (Shr.refl _ _), rfl, hb2⟩
theorem word_any (HT : TrimSaid) (HA : AnySaid) (b : Nat) (s : ByteArray) (w : World) (hb : Box w b (rdC R vp vs ve s x0 x1 x2 x3) RdT) (hs : s.size ≤ 100000) :
  Calls Tryz.prog 54 #[.pointer (some ⟨b, 0, none⟩)] w fun e w' => e = .returned (.string (bs (wordB (blank (bt s))))) ∧ Box w' b (rdC R vp vs ve (bs (blank (bt s))) x0 x1 x2 x3) RdT ∧ Fr (· = b) w w' := by
 have HC := Lib.hid (blank_any HT b s w hb)
 have hlb : (blank (bt s)).length ≤ 100000 := by have := blank_le (bt s); rw [bt_len] at this; omega
 obtain ⟨l, hl⟩ : ∃ l, l = blank (bt s) := ⟨_, rfl⟩
 rw [← hl] at HC hlb ⊢
 clear hl hb HT hs
 have HI := Lib.hid (HA (bs l))
 have hls : (bs l).size ≤ 100000 := by rw [bs_size]; exact hlb
 have HW := Lib.hid (wordB_take l)
 rcases any_word l with ⟨h1, h2⟩ | ⟨h1, h2⟩
 ·rw [bt_bs, h1] at HI
  rw [h2]
  have hsz := bs_size l
  have HE := Lib.hid (bs_take l l.length)
  clear h1 h2 HA HW hlb
  go_enter Tryz.func54, Tryz.ntmps54
  go_wp2_with (first | (refine HC.out.mono ?_; rintro e w1 ⟨rfl, hb1, hf1⟩; have c11 := hb1.cell 11 rfl) | (refine (HI.out _ hls).mono ?_; rintro e w2 ⟨rfl, hb2⟩; have HF := Lib.hid (hf1.trans (Fr.of_new hb2) (Shr.refl _ _)); have HB := Lib.hid (hb1.stays hb2); clear hb1 hb2 c11; have c11 := HB.out.cell 11 rfl))
  go_ret
  rw [HE.out, List.take_length]
  exact ⟨rfl, HB.out, HF.out⟩
 ·rw [bt_bs, h1] at HI
  have hsz := bs_size l
  have HE := Lib.hid (bs_take l (wordB l).length)
  clear h1 HA hlb
  obtain ⟨n, hn⟩ : ∃ n, n = (wordB l).length := ⟨_, rfl⟩
  rw [← hn] at HI HE HW h2
  go_enter Tryz.func54, Tryz.ntmps54
  go_wp2_with (first | (refine HC.out.mono ?_; rintro e w1 ⟨rfl, hb1, hf1⟩; have c11 := hb1.cell 11 rfl) | (refine (HI.out _ hls).mono ?_; rintro e w2 ⟨rfl, hb2⟩; have HF := Lib.hid (hf1.trans (Fr.of_new hb2) (Shr.refl _ _)); have HB := Lib.hid (hb1.stays hb2); clear hb1 hb2 c11; have c11 := HB.out.cell 11 rfl))
  go_ret
  first | rw [HE.out, HW.out] | (subst hn; rw [HE.out, HW.out])
  exact ⟨rfl, HB.out, HF.out⟩
end Go.Proofs.YthklhndcdijneaaGreatDoor
namespace Go.Proofs.YthklhndcdijneaaGreatDoor
open Go.ChangeShapes Go.WideShapes Go.ChangeAt Go.RowKit
set_option linter.unusedVariables false
theorem Box.has {w : World} {b : Nat} {cs : List Value} {t : TypeId} (h : Box w b cs t) (o n : Nat) (hn : o + n ≤ cs.length) : w.there b o n := fun j hj => by
 refine ⟨?_, h.frozen (o + j)⟩
 rw [h.cell (o + j) (v := cs[o + j]'(by omega)) (List.getElem?_eq_getElem (by omega))]; rfl
end Go.Proofs.YthklhndcdijneaaGreatDoor

/- RwD, Raw, AnA, AnB, RwR, AnL, AnO. -/
import Derived.Test.YthklhndcdijneaaGreatDoorC34
import Derived.Test.YthklhndcdijneaaGreatDoorC05
import Derived.Test.YthklhndcdijneaaGreatDoorC28
import Derived.Test.YthklhndcdijneaaGreatDoorC32
import Derived.Lib.Builder
import Derived.Lib.UnsafeStr
import Derived.BigQuiet
import Derived.Deep.Cut
import Derived.Deep.CutRange
import Derived.Deep.QuietTactic
import Derived.Test.YthklhndcdijneaaGreatDoorC18
import Derived.Test.YthklhndcdijneaaGreatDoorC22
import Derived.Test.YthklhndcdijneaaGreatDoorC09
import Derived.Test.YthklhndcdijneaaGreatDoorC27
import Derived.Test.YthklhndcdijneaaGreatDoorC30
namespace Go.Proofs.YthklhndcdijneaaGreatDoor
open Go.ChangeShapes Go.WideShapes Go.ChangeAt Go.RowKit
set_option linter.unusedVariables false
/-- a builder that holds the bytes l. -/
def BAt (B b : Nat) (l : Byt) (w : World) : Prop := Lib.IsBuilder 56 5 B b (Lib.byteCells l) w
theorem BAt.below {B b : Nat} {l : Byt} {w w' : World} (h : BAt B b l w) (hb : Below w.heap.size w w') : BAt B b l w' := by
 rcases h with ⟨h1, v, h2, h3, h4⟩ | ⟨h1, v, h2, h3, h4⟩
 ·exact .inl ⟨h1, v, (hb.block b (by
   rcases Nat.lt_or_ge b w.heap.size with q | q
   ·exact q
   ·rw [Array.getElem?_eq_none q] at h2; cases h2)).trans h2, own_stays h3 hb, h4⟩
 ·exact .inr ⟨h1, v, (hb.block b (by
   rcases Nat.lt_or_ge b w.heap.size with q | q
   ·exact q
   ·rw [Array.getElem?_eq_none q] at h2; cases h2)).trans h2, own_stays h3 hb, h4⟩
/-- what the shelf says of strings.Builder. -/
def WriteSaid : Prop := ∀ (B b : Nat) (l : Byt) (s : ByteArray) (w : World), BAt B b l w → l.length + s.size ≤ 100000000 → B ≤ w.heap.size →
 Calls Tryz.prog 19 #[.pointer (some ⟨b, 0, none⟩), .string s] w fun e w' => e = .returned (.tuple #[.int .i64 s.size, .nilIface]) ∧ BAt B b (l ++ bt s) w' ∧ Below B w w'
def LenSaid : Prop := ∀ (B b : Nat) (l : Byt) (w : World), BAt B b l w → Calls Tryz.prog 24 #[.pointer (some ⟨b, 0, none⟩)] w fun e w' => e = .returned (.int .i64 l.length) ∧ w' = w
def StringSaid : Prop := ∀ (B b : Nat) (l : Byt) (w : World), BAt B b l w → B ≤ w.heap.size → Calls Tryz.prog 25 #[.pointer (some ⟨b, 0, none⟩)] w fun e w' => e = .returned (.string (bs l)) ∧ Below B w w'
/-- what Text says. -/
def rtextErr (R : RulesZ) (X : RecZ) : Int := if recErr R X ≠ 0 then recErr R X else if 8192 < (textB R X).length then 2 else 0
def rtextZ (R : RulesZ) (X : RecZ) : ByteArray := if rtextErr R X = 0 then bs (textB R X) else ⟨#[]⟩
theorem tags_sz {l : List TagZ} (h : tagsE l = 0) : ∀ i, i < l.length → (l.getD i default).key.size ≤ 8 ∧ (l.getD i default).value.size ≤ 40 := fun i hi => by
 have h1 : tagE l i = 0 := by
  unfold tagsE at h
  rw [scanE_zero] at h
  exact h i (Nat.zero_le _) (by omega)
 unfold tagE at h1
 by_cases hk : nameOk (l.getD i default).key = false
 ·rw [if_pos hk] at h1; cases h1
 rw [if_neg hk] at h1
 by_cases hv : 40 < (l.getD i default).value.size
 ·rw [if_pos hv] at h1; cases h1
 refine ⟨?_, by omega⟩
 have hk' : nameOk (l.getD i default).key = true := by simpa using hk
 unfold nameOk at hk'
 simp only [Bool.and_eq_true, decide_eq_true_eq] at hk'
 exact hk'.2
theorem tagsB_take (l : List TagZ) : ∀ i, i < l.length → tagsB (l.take (i + 1)) = tagsB (l.take i) ++ tagB (l.getD i default) := fun i hi => by
 have e : l.take (i + 1) = l.take i ++ [l.getD i default] := by
  rw [List.take_add_one, List.getD_eq_getElem?_getD, List.getElem?_eq_getElem hi]; rfl
 unfold tagsB
 rw [e, List.flatMap_append]; simp
theorem tagsB_len {l : List TagZ} (h : tagsE l = 0) : ∀ i, i ≤ l.length → (tagsB (l.take i)).length ≤ 54 * i
 | 0, _ => by rw [List.take_zero]; exact Nat.le_refl _
 | i + 1, hi => by
  have ih := tagsB_len h i (by omega)
  obtain ⟨h1, h2⟩ := tags_sz h i (by omega)
  rw [tagsB_take l i (by omega), List.length_append, tagB_len]; omega
theorem sz_tree {N : Nat} {ns : List NodeZ} (h : ∀ i, i < ns.length → (ndAt ns i).comment.size ≤ N) : ∀ (f : Nat) (p : Int), szL N (treeF ns f p)
 | 0, p => by rw [treeF, szL]; trivial
 | f + 1, p => by
  rw [treeF_succ]
  have hall : ∀ k ∈ kidsZ ns p, szB N (brN ns f k) := fun k hk => by
   unfold brN
   rw [szB]
   exact ⟨h k (kids_mem hk).1, sz_tree h f k⟩
  generalize kidsZ ns p = l at hall
  induction l with
  | nil => rw [List.map_nil, szL]; trivial
  | cons k l ih =>
   rw [List.map_cons, szL]
   exact ⟨hall k (List.mem_cons_self ..), ih fun j hj => hall j (List.mem_cons_of_mem _ hj)⟩
theorem cmt_sz {c : ByteArray} (h : cmtErr c = 0) : c.size ≤ 60 := by
 unfold cmtErr at h
 split at h
 ·cases h
 ·omega
/-- what a sound record's text needs. -/
structure TextOk (R : RulesZ) (X : RecZ) : Prop where
 r : rulesErr R = 0
 back : Back X.nodes X.nodes.length
 nl : X.nodes.length ≤ 200
 leg : legL R (beginZ R) (trees X)
 sz : szL 1000 (trees X)
 cn : cnt (trees X) ≤ 200
 tl : X.tags.length ≤ 10
 te : tagsE X.tags = 0
 rs : 0 ≤ X.result ∧ X.result ≤ 3
 cs : X.comment.size ≤ 60
 tot : (txtL R (beginZ R) (trees X)).length ≤ 400 ∧ tot (txtL R (beginZ R) (trees X)) ≤ 208000
theorem text_ok {R : RulesZ} {X : RecZ} (h : recErr R X = 0) : TextOk R X := by
 obtain ⟨h1, h2, h3⟩ := rec_nodes h
 obtain ⟨c1, c2, c3, c4, c5⟩ := rec_cmt h
 have hs : szL 1000 (trees X) := sz_tree (fun i hi => by have := cmt_sz (c1 i hi); omega) _ _
 have hl := leg_trees h
 have hc : cnt (trees X) ≤ 200 := by have := trees_len h; unfold cnt; omega
 have ht := (txt_tot R (trees X) hs).1 _ hl
 exact ⟨h1, h2.back, h3, hl, hs, hc, c5, c2, c3, cmt_sz c4, by omega, by omega⟩
def cmtL (X : RecZ) : List Byt := if X.comment.size = 0 then [] else [123 :: (bt X.comment ++ [125])]
theorem strB_alloc (w : World) (o : Obj) : Below w.heap.size w (w.alloc o) := (Below.refl _ _).alloc (Nat.le_refl _) _
set_option maxRecDepth 100000
set_option maxHeartbeats 8000000
theorem wText_any (HS : SortMvSaid) (HJ : JoinSaidB) (HWr : WriteSaid) (HLn : LenSaid) (HSt : StringSaid) (R : RulesZ) (vp vs ve : Value) (X : RecZ) (ta na : Option Addr) (tc nc : Nat) (w : World) (hr : RdR w R vp vs ve) (hnm : R.name.size ≤ maxLen) (hx : RdX w X (.slice ta X.tags.length tc) (.slice na X.nodes.length nc)) :
  Calls Tryz.prog 10 #[(.agg #[.string R.name, .int .i64 R.width, .int .i64 R.height, vp, vs, .bool R.falls, .bool R.keeps, ve, .int .i64 R.blocked, .int .i64 R.quiet, .int .i64 R.rept]), .agg #[.slice ta X.tags.length tc, .string X.comment, .slice na X.nodes.length nc, .int .i64 X.result]] w fun e w' => e = .returned (.tuple #[.string (rtextZ R X), .int .i64 (rtextErr R X)]) ∧ Below w.heap.size w w' := by
 have HSh := Lib.hid HS
 have HJh := Lib.hid HJ
 have HWh := Lib.hid HWr
 have HLh := Lib.hid HLn
 have HTh := Lib.hid HSt
 have HX := Lib.hid hx
 have HR := Lib.hid hr
 have HNm := Lib.hid hnm
 have HTE : Hid (rtextErr R X = if recErr R X ≠ 0 then recErr R X else if 8192 < (textB R X).length then 2 else 0) := Lib.hid rfl
 have HTZ : Hid (rtextZ R X = if rtextErr R X = 0 then bs (textB R X) else ⟨#[]⟩) := Lib.hid rfl
 have HTK : Hid (recErr R X = 0 → TextOk R X) := Lib.hid text_ok
 have HTB : Hid (textB R X = tagsB X.tags ++ (joinB (partsX R X) ++ [10])) := Lib.hid rfl
 obtain ⟨E, hE⟩ : ∃ E, E = recErr R X := ⟨_, rfl⟩
 have hck := fun w' h1 h2 => recCheck_any HS R vp vs ve X (.slice ta X.tags.length tc) (.slice na X.nodes.length nc) w' h1 hnm h2
 unfold recV at hck
 rw [← hE] at HTE HTK hck
 have HCk := Lib.hid hck
 generalize rtextErr R X = TE at HTE HTZ ⊢
 generalize rtextZ R X = TZ at HTZ ⊢
 clear HS HJ HWr HLn HSt hx hr hnm hck hE
 go_enter Tryz.func10, Tryz.ntmps10
 go_upto_region 1 with (fail)
 refine opn2 ?_
 intro w0 xb2 xb3 hB0 hS0
 have HB := Lib.hid hB0
 obtain ⟨b3, hb3⟩ : ∃ b3, b3 = w.heap.size + 1 := ⟨_, rfl⟩
 rw [← hb3] at xb3 ⊢
 obtain ⟨b2, hb2⟩ : ∃ b2, b2 = w.heap.size := ⟨_, rfl⟩
 rw [← hb2] at xb2 ⊢
 have hb21 : w.heap.size ≤ b2 := by omega
 have Hb2 := Lib.hid xb2
 have hb31 : w.heap.size ≤ b3 := by omega
 have hb2b3 : b2 < b3 := by omega
 have Hb3 := Lib.hid xb3
 have hS : b3 < w0.heap.size := by omega
 clear hB0 hS0 xb2 hb2 xb3 hb3
 have r0 := Hb2.out.cell 0 rfl
 have r1 := Hb2.out.cell 1 rfl
 have r2 := Hb2.out.cell 2 rfl
 have r3 := Hb2.out.cell 3 rfl
 have r4 := Hb2.out.cell 4 rfl
 have r5 := Hb2.out.cell 5 rfl
 have r6 := Hb2.out.cell 6 rfl
 have r7 := Hb2.out.cell 7 rfl
 have r8 := Hb2.out.cell 8 rfl
 have r9 := Hb2.out.cell 9 rfl
 have r10 := Hb2.out.cell 10 rfl
 have x0 := Hb3.out.cell 0 rfl
 have x1 := Hb3.out.cell 1 rfl
 have x2 := Hb3.out.cell 2 rfl
 have x3 := Hb3.out.cell 3 rfl
 go_wp2_with fail
 refine (HCk.out w0 (HR.out.below HB.out (Nat.le_refl _)) (HX.out.below HB.out (Nat.le_refl _))).mono ?_
 rintro e w1 ⟨rfl, hb1⟩
 have HR1 := Lib.hid (Hb2.out.stays hb1)
 have HX1 := Lib.hid (Hb3.out.stays hb1)
 have HL1 := Lib.hid (below_trans HB.out hb1 HB.out.size)
 clear r0 r1 r2 r3 r4 r5 r6 r7 r8 r9 r10 x0 x1 x2 x3 hb1 Hb2 Hb3 HB
 by_cases h0 : E = 0
 ·subst h0
  have HOK := Lib.hid (HTK.out rfl)
  go_upto_region 5 with (fail)
  refine opn1 ?_
  intro w2 xB hbl hbs
  obtain ⟨B, hB⟩ : ∃ B, B = w1.heap.size := ⟨_, rfl⟩
  rw [← hB] at xB hbl hbs ⊢
  have HB0 : Hid (BAt B B (tagsB (X.tags.take 0)) w2) := Lib.hid (.inl ⟨Nat.le_refl _, .slice none 0 0, xB, World.ownsRow_nil _ _ _ _, by simp [Value.ownBlock]⟩)
  have HL2 : Hid (Below B w1 w2) := Lib.hid hbl
  have hb2B : b2 < B := by have := HR1.out.lt; omega
  have hb3B : b3 < B := by have := HX1.out.lt; omega
  have hwB : w.heap.size ≤ B := by have := HL1.out.size; omega
  have HR2 := Lib.hid (HR1.out.below hbl hb2B)
  have HX2 := Lib.hid (HX1.out.below hbl hb3B)
  have x0 := HX2.out.cell 0 rfl
  have hs2 : B < w2.heap.size := by omega
  have hB1 : B ≤ w1.heap.size := by omega
  clear xB hbl hbs hB
  go_wp2_with fail
  clear x0
  go_loopw [22, 9] (fun v22 v9 wr => ∃ (i : Nat) (o9 : Value), o9 = v9 ∧ i ≤ X.tags.length ∧ v22 = .int .i64 i ∧ Hid (BAt B B (tagsB (X.tags.take i)) wr) ∧ Hid (Below B w1 wr)) (fun v _ _ => X.tags.length - (intOf v).toNat)
  case atStart => exact ⟨0, _, rfl, Nat.zero_le _, rfl, HB0, HL2⟩
  case round =>
   obtain ⟨i, o9, rfl, hi, rfl, HBr, HLr⟩ := hrel
   have hBr : B ≤ wr.heap.size := by have := HLr.out.size; omega
   have HWr := Lib.hid (HL1.out.trans (HLr.out.mono hwB))
   have HI := Lib.hid hi
   by_cases hlt : i < X.tags.length
   ·have hltI : (i : Int) < (X.tags.length : Int) := by omega
    have htl := HOK.out.tl
    obtain ⟨gt, ot, rfl, hgt, hts⟩ := tags_some HX.out.1 (by omega)
    obtain ⟨t1, t2, -⟩ := hts i hlt
    obtain ⟨s1, s2⟩ := tags_sz HOK.out.te i hlt
    have HTk := Lib.hid (tagsB_take X.tags i hlt)
    have htk := tagsB_len HOK.out.te i (by omega)
    obtain ⟨lt, hlt'⟩ : ∃ lt, lt = tagsB (X.tags.take i) := ⟨_, rfl⟩
    obtain ⟨tg, htg⟩ : ∃ tg, tg = X.tags.getD i default := ⟨_, rfl⟩
    rw [← htg] at t1 t2 s1 s2 HTk
    rw [← hlt'] at HBr HTk htk
    have k1 : wr.cell? ⟨gt, ot + i * 2, none⟩ = some (.string tg.key) := (HWr.out.cell (p := ⟨gt, ot + i * 2, none⟩) hgt).trans t1
    have k2 : wr.cell? ⟨gt, ot + i * 2 + 1, none⟩ = some (.string tg.value) := (HWr.out.cell (p := ⟨gt, ot + i * 2 + 1, none⟩) hgt).trans t2
    obtain ⟨ky, hky⟩ : ∃ ky, ky = tg.key := ⟨_, rfl⟩
    obtain ⟨va, hva⟩ : ∃ va, va = tg.value := ⟨_, rfl⟩
    have HTG : Hid (tagB tg = bt (⟨#[91]⟩ ++ ky ++ ⟨#[32, 34]⟩ ++ va ++ ⟨#[34, 93, 10]⟩)) := Lib.hid (by rw [hky, hva]; unfold tagB; simp [bt])
    rw [← hky] at k1 s1
    rw [← hva] at k2 s2
    have hs1 : ¬ 9223372036854775807 < 1 + ky.size := by omega
    have hs2 : ¬ 9223372036854775807 < 1 + ky.size + 2 := by omega
    have hs3 : ¬ 9223372036854775807 < 1 + ky.size + 2 + va.size := by omega
    have hs4 : ¬ 9223372036854775807 < 1 + ky.size + 2 + va.size + 3 := by omega
    clear hlt' htg hky hva t1 t2
    have HLT := Lib.hid hlt
    clear hlt hi
    go_wp2_with fail
    have hsz : (⟨#[91]⟩ ++ ky ++ ⟨#[32, 34]⟩ ++ va ++ ⟨#[34, 93, 10]⟩ : ByteArray).size = ky.size + va.size + 6 := by
     rw [ByteArray.size_append, ByteArray.size_append, ByteArray.size_append, ByteArray.size_append]
     show 1 + ky.size + 2 + va.size + 3 = _
     omega
    refine (HWh.out B B lt _ _ (HBr.out.below (strB_alloc wr _)) (by rw [hsz]; have := HLT.out; omega) (by simp; omega)).mono ?_
    rintro e w5 ⟨rfl, hb5, hl5⟩
    have HB5 : Hid (BAt B B (tagsB (X.tags.take (i + 1))) w5) := Lib.hid (by rw [HTk.out, HTG.out]; exact hb5)
    have HL5 : Hid (Below B w1 w5) := Lib.hid (HLr.out.trans (((strB_alloc wr _).mono hBr).trans hl5))
    clear hb5 hl5 hsz HBr HLr HWr HTk HTG
    go_wp2_with fail
    go_roundw
    case rel => exact ⟨i + 1, _, rfl, HLT.out, by go_num, HB5, HL5⟩
    case measure => have := HLT.out; simp [intOf]; omega
   ·obtain rfl : i = X.tags.length := by omega
    have hltI : ¬ (X.tags.length : Int) < (X.tags.length : Int) := by omega
    have HBe : Hid (BAt B B (tagsB X.tags) wr) := Lib.hid (by have := HBr.out; rwa [List.take_of_length_le (Nat.le_refl _)] at this)
    have HRr := Lib.hid (HR1.out.below HLr.out hb2B)
    have HXr := Lib.hid (HX1.out.below HLr.out hb3B)
    have x1 := HXr.out.cell 1 rfl
    have hb3r := HXr.out.lt
    have hb2r := HRr.out.lt
    clear hlt hi HI HBr HB0 HL2 HR2 HX2
    go_upto_if 38 with (fail)
    go_cut [10] from 38 to 46 (fun v10 wx => ∃ oL, oL = v10 ∧ Hid (wx.ownsRow wr.heap.size 9 1 oL (cmtL X).length (strsB (cmtL X))) ∧ Hid (Below wr.heap.size wr wx))
    case first =>
     by_cases hz : X.comment.size = 0
     ·have hem : X.comment.toList.isEmpty = true := by
       rw [Lib.toList_data]
       have : X.comment.data.toList = [] := List.length_eq_zero_iff.1 (by simpa using hz)
       rw [this]; rfl
      have HC : Hid (cmtL X = []) := Lib.hid (by unfold cmtL; rw [if_pos hz])
      clear hz
      rw [hem]
      go_wp2_with fail
      go_meet
      exact ⟨_, rfl, Lib.hid (by rw [HC.out]; exact World.ownsRow_nil _ _ _ _), Lib.hid (Below.refl _ _)⟩
     ·have hem : X.comment.toList.isEmpty = false := by
       rw [Lib.toList_data]
       cases h : X.comment.data.toList with
       | nil => exact absurd (by have := congrArg List.length h; simpa using this) hz
       | cons _ _ => rfl
      have hcs := HOK.out.cs
      obtain ⟨tx, htx⟩ : ∃ tx, tx = (⟨#[123]⟩ ++ X.comment ++ ⟨#[125]⟩ : ByteArray) := ⟨_, rfl⟩
      have HTX := Lib.hid htx.symm
      have HC : Hid (cmtL X = [bt tx]) := Lib.hid (by unfold cmtL; rw [if_neg hz, htx]; simp [bt])
      have hs1 : ¬ 9223372036854775807 < 1 + X.comment.size := by omega
      have hs2 : ¬ 9223372036854775807 < 1 + X.comment.size + 1 := by omega
      clear hz htx
      rw [hem]
      go_wp2_with (at_builtin; rw [HTX.out]; refine app_at 63 9 (.string ⟨#[]⟩) 1 16 infoStr Tryz.underlying63 rfl (by decide) (by rfl) _ _ (by rfl) wr.heap.size (.slice none 0 0) 0 [] [.string tx] wr (World.ownsRow_nil _ _ _ _) (Nat.le_refl _) rfl (by intro u hu; simp at hu; subst hu; rfl) (by omega) (by omega) (by rfl) (by rfl) ?_)
      intro g6 cap6 w7 hown6 hat6 hgr6
      have HL7 := Lib.hid (Below.grown ((Below.refl wr.heap.size wr).alloc (Nat.le_refl _) (.cells #[.string tx] 9)) hgr6 (by simp) (fun j hj => by simp [Value.ownBlock] at hj))
      have HO7 := Lib.hid hown6
      clear hown6 hat6 hgr6
      go_wp2_with fail
      go_meet
      exact ⟨_, rfl, Lib.hid (by rw [HC.out]; exact HO7.out), HL7⟩
    case rest =>
     obtain ⟨oL, rfl, HCL, HLc⟩ := hcut
     obtain ⟨wA, rfl⟩ : ∃ wA : World, wA = wc := ⟨_, rfl⟩
     have HBA := Lib.hid (HBe.out.below HLc.out)
     have HRA := Lib.hid (HRr.out.stays HLc.out)
     have HXA := Lib.hid (HXr.out.stays HLc.out)
     have HLA := Lib.hid (HLr.out.trans (HLc.out.mono hBr))
     have hcl : (cmtL X).length ≤ 1 := by unfold cmtL; split <;> simp
     have hrA := HLc.out.size
     have hb2A := HRA.out.lt
     have hb3A := HXA.out.lt
     obtain ⟨cl, hclE⟩ : ∃ cl, cl = cmtL X := ⟨_, rfl⟩
     rw [← hclE] at HCL hcl
     have HCLE := Lib.hid hclE
     clear hclE
     obtain ⟨ola, olc, rfl⟩ := own_form2 HCL.out
     have HWA := Lib.hid (HL1.out.trans (HLA.out.mono hwB))
     have r0 := HRA.out.cell 0 rfl
     have r1 := HRA.out.cell 1 rfl
     have r2 := HRA.out.cell 2 rfl
     have r3 := HRA.out.cell 3 rfl
     have r4 := HRA.out.cell 4 rfl
     have r5 := HRA.out.cell 5 rfl
     have r6 := HRA.out.cell 6 rfl
     have r7 := HRA.out.cell 7 rfl
     have r8 := HRA.out.cell 8 rfl
     have r9 := HRA.out.cell 9 rfl
     have r10 := HRA.out.cell 10 rfl
     clear x1
     go_wp2_with fail
     refine (Begin2_any R vp vs ve wA (HR.out.below HWA.out (Nat.le_refl _)) HNm.out).mono ?_
     rintro e w7 (⟨h, -⟩ | ⟨-, vc, v0, v1, rfl, ho7, hb7⟩)
     ·exact absurd HOK.out.r h
     obtain ⟨pa, pc, rfl⟩ := own_form2 ho7.1
     obtain ⟨pa0, pc0, rfl⟩ := own_form2 ho7.2.1
     obtain ⟨pa1, pc1, rfl⟩ := own_form2 ho7.2.2
     have HP7 : Hid (RdP w7 (beginZ R) (.slice pa (beginZ R).cells.length pc) (.slice pa0 (beginZ R).h0.length pc0) (.slice pa1 (beginZ R).h1.length pc1)) := Lib.hid ⟨RdI.of_own ho7.1, RdI.of_own ho7.2.1, RdI.of_own ho7.2.2⟩
     have HC7 := Lib.hid (below_trans HLc.out hb7 HLc.out.size)
     have hr7 := HC7.out.size
     have HL7 := Lib.hid (HLr.out.trans (HC7.out.mono hBr))
     have HW7 := Lib.hid (HL1.out.trans (HL7.out.mono hwB))
     have HR7 := Lib.hid (HRr.out.stays HC7.out)
     have HX7 := Lib.hid (HXr.out.stays HC7.out)
     have HCL7 := Lib.hid (own_stays HCL.out hb7)
     have hb27 := HR7.out.lt
     have hb37 := HX7.out.lt
     clear hb7 ho7 r0 r1 r2 r3 r4 r5 r6 r7 r8 r9 r10 HCL HLc HWA HLA HXA HRA HBA
     unfold posV
     have r0 := HR7.out.cell 0 rfl
     have r1 := HR7.out.cell 1 rfl
     have r2 := HR7.out.cell 2 rfl
     have r3 := HR7.out.cell 3 rfl
     have r4 := HR7.out.cell 4 rfl
     have r5 := HR7.out.cell 5 rfl
     have r6 := HR7.out.cell 6 rfl
     have r7 := HR7.out.cell 7 rfl
     have r8 := HR7.out.cell 8 rfl
     have r9 := HR7.out.cell 9 rfl
     have r10 := HR7.out.cell 10 rfl
     have x0 := HX7.out.cell 0 rfl
     have x1 := HX7.out.cell 1 rfl
     have x2 := HX7.out.cell 2 rfl
     have x3 := HX7.out.cell 3 rfl
     have HN0 := Lib.hid (Box.new w7 [.slice none 0 0, .slice none 0 0, .slice none 0 0, .int .i64 0, .int .i64 0] 66)
     have hWW : Below w7.heap.size w7 ((w7.alloc (.cells #[.slice pa (beginZ R).cells.length pc, .slice pa0 (beginZ R).h0.length pc0, .slice pa1 (beginZ R).h1.length pc1, .int .i64 (beginZ R).turn, .int .i64 (beginZ R).quiet] 66)).alloc (.cells #[.string R.name, .int .i64 R.width, .int .i64 R.height, vp, vs, .bool R.falls, .bool R.keeps, ve, .int .i64 R.blocked, .int .i64 R.quiet, .int .i64 R.rept, .slice ta X.tags.length tc, .string X.comment, .slice na X.nodes.length nc, .int .i64 X.result] WrT)) := ((Below.refl _ _).alloc (Nat.le_refl _) _).alloc (by simp) _
     have hbw : Box ((w7.alloc (.cells #[.slice pa (beginZ R).cells.length pc, .slice pa0 (beginZ R).h0.length pc0, .slice pa1 (beginZ R).h1.length pc1, .int .i64 (beginZ R).turn, .int .i64 (beginZ R).quiet] 66)).alloc (.cells #[.string R.name, .int .i64 R.width, .int .i64 R.height, vp, vs, .bool R.falls, .bool R.keeps, ve, .int .i64 R.blocked, .int .i64 R.quiet, .int .i64 R.rept, .slice ta X.tags.length tc, .string X.comment, .slice na X.nodes.length nc, .int .i64 X.result] WrT)) (w7.heap.size + 1) [.string R.name, .int .i64 R.width, .int .i64 R.height, vp, vs, .bool R.falls, .bool R.keeps, ve, .int .i64 R.blocked, .int .i64 R.quiet, .int .i64 R.rept, .slice ta X.tags.length tc, .string X.comment, .slice na X.nodes.length nc, .int .i64 X.result] WrT := Box.new' _ _ _ _ (by simp)
     have HAf := Lib.hid (wafter_any HSh.out HJh.out (let_ok HOK.out.r) X HOK.out.back (by have := HOK.out.nl; omega) ta na tc nc (w7.heap.size + 1) (X.nodes.length + 1) (-1) (beginZ R) (.slice pa (beginZ R).cells.length pc) (.slice pa0 (beginZ R).h0.length pc0) (.slice pa1 (beginZ R).h1.length pc1) _ hbw (HR.out.below (below_trans HW7.out hWW HW7.out.size) (Nat.le_refl _)) (HX.out.below (below_trans HW7.out hWW HW7.out.size) (Nat.le_refl _)) (HP7.out.below hWW (Nat.le_refl _)) (begin_ok HOK.out.r) (by omega) HOK.out.leg HOK.out.sz HOK.out.cn)
     have HWW := Lib.hid hWW
     clear hWW hbw
     go_wp2_with (refine wpList_store_box (vs := [.slice pa (beginZ R).cells.length pc, .slice pa0 (beginZ R).h0.length pc0, .slice pa1 (beginZ R).h1.length pc1, .int .i64 (beginZ R).turn, .int .i64 (beginZ R).quiet]) (by rfl) 66 (.tmp 11) (.tmp 49) w7.heap.size (by rfl) [.slice pa (beginZ R).cells.length pc, .slice pa0 (beginZ R).h0.length pc0, .slice pa1 (beginZ R).h1.length pc1, .int .i64 (beginZ R).turn, .int .i64 (beginZ R).quiet] (by rfl) (by rfl) HN0.out rfl (by kernel_rfl) (by rfl) ?_)
     refine HAf.out.mono ?_
     rintro e w9 ⟨v9, rfl, ho9, hb9⟩
     have HC9 := Lib.hid (below_trans (below_trans HC7.out HWW.out HC7.out.size) hb9 (below_trans HC7.out HWW.out HC7.out.size).size)
     have HCL9 := Lib.hid (own_stays (own_stays HCL7.out HWW.out) hb9)
     obtain ⟨ty, hty⟩ : ∃ ty, ty = txtL R (beginZ R) (treeF X.nodes (X.nodes.length + 1) (-1)) := ⟨_, rfl⟩
     have HTY : Hid (ty = txtL R (beginZ R) (trees X)) := Lib.hid hty
     have htt := HOK.out.tot
     rw [← HTY.out] at htt
     rw [← hty] at ho9
     obtain ⟨la, hla⟩ : ∃ la, la = cl ++ ty := ⟨_, rfl⟩
     have hlal : la.length ≤ 401 := by rw [hla, List.length_append]; omega
     have HLA2 := Lib.hid hla
     clear hty r0 r1 r2 r3 r4 r5 r6 r7 r8 r9 r10 x0 x1 x2 x3 HN0 HAf HP7 HR7 HX7 HCL7 HL7 HW7 hb27 hb37
     go_wp2_with (at_builtin; refine app_strs (by rfl) _ _ (by rfl) wr.heap.size (.slice ola cl.length olc) cl (by rfl) HCL9.out ((w7.alloc (.cells #[.slice pa (beginZ R).cells.length pc, .slice pa0 (beginZ R).h0.length pc0, .slice pa1 (beginZ R).h1.length pc1, .int .i64 (beginZ R).turn, .int .i64 (beginZ R).quiet] 66)).alloc (.cells #[.string R.name, .int .i64 R.width, .int .i64 R.height, vp, vs, .bool R.falls, .bool R.keeps, ve, .int .i64 R.blocked, .int .i64 R.quiet, .int .i64 R.rept, .slice ta X.tags.length tc, .string X.comment, .slice na X.nodes.length nc, .int .i64 X.result] WrT)).heap.size v9 ty (by rfl) ho9 (by omega) HC9.out.size ?_)
     intro v10 w10 ho10 hg10
     rw [← hla] at ho10
     try rw [show cl.length + ty.length = la.length by rw [hla, List.length_append]] at ho10
     have HO10 := Lib.hid ho10
     have HC10 := Lib.hid (below_grown HC9.out HCL9.out hg10 HC9.out.size)
     have HX10 := Lib.hid (HXr.out.stays HC10.out)
     obtain ⟨la0, lc0, rfl⟩ := own_form2 ho10
     have htl : (∀ x ∈ la, x.length ≤ 1000000) ∧ tot la ≤ 300000 := by
      have e1 : tot cl ≤ 63 := by
       rw [HCLE.out]
       unfold cmtL
       split
       ·show 0 ≤ _; omega
       ·have := HOK.out.cs
        rw [tot_cons]
        show _ + 0 ≤ _
        simp only [List.length_cons, List.length_append, List.length_nil, bt_len]
        omega
      have e2 : tot la ≤ 300000 := by rw [hla, tot_app]; omega
      exact ⟨fun x hx => by have := tot_mem hx; omega, e2⟩
     have HTL := Lib.hid htl
     clear hla ho10 hg10 ho9 hb9 HC9 HCL9 HC7 HWW htl
     go_wp2_with fail
     obtain ⟨rs, hrs⟩ : ∃ rs, rs = bs (resB X.result) := ⟨_, rfl⟩
     have HIX : ∀ w', (Instr.index 74 (.agg #[.string ⟨#[42]⟩, .string ⟨#[49, 45, 48]⟩, .string ⟨#[48, 45, 49]⟩, .string ⟨#[49, 47, 50]⟩]) (.int .i64 X.result)).run Tryz.prog w' = .ok (.string rs) w' := by
      have h : X.result = 0 ∨ X.result = 1 ∨ X.result = 2 ∨ X.result = 3 := by have := HOK.out.rs; omega
      rw [hrs]
      rcases h with h | h | h | h <;> rw [h] <;> intro w' <;> kernel_rfl
     have HRS := Lib.hid hrs
     have hrl : (resB X.result).length ≤ 3 := res_len _
     have htg := tagsB_len HOK.out.te X.tags.length (Nat.le_refl _)
     rw [List.take_of_length_le (Nat.le_refl _)] at htg
     have htl := HOK.out.tl
     have HTT := Lib.hid HTL.out.2
     obtain ⟨lp, hlp⟩ : ∃ lp, lp = la ++ [resB X.result] := ⟨_, rfl⟩
     have HLP : Hid (lp = partsX R X) := Lib.hid (by rw [hlp, HLA2.out, HCLE.out, HTY.out]; unfold partsX cmtL; rw [List.append_assoc])
     have htp : lp.length ≤ 402 ∧ tot lp ≤ 300004 := by
      refine ⟨by rw [hlp, List.length_append]; show la.length + 1 ≤ _; omega, ?_⟩
      rw [hlp, tot_app, tot_cons]
      show _ + (_ + 0) ≤ _
      have := HTT.out
      omega
     have HTP := Lib.hid htp
     have HLPE := Lib.hid hlp
     obtain ⟨j, hj⟩ : ∃ j, j = bs (joinB lp) := ⟨_, rfl⟩
     have hjs : j.size ≤ 300004 := by rw [hj, bs_size]; have := joinB_len lp; omega
     have HTX : Hid (tagsB X.tags ++ bt (j ++ ⟨#[10]⟩) = textB R X) := Lib.hid (by rw [HTB.out, hj, HLP.out]; simp [bt, bs])
     have HJE := Lib.hid hj
     obtain ⟨tx, htx⟩ : ∃ tx, tx = (j ++ ⟨#[10]⟩ : ByteArray) := ⟨_, rfl⟩
     have htz : (tagsB X.tags).length + tx.size ≤ 100000000 := by
      rw [htx, ByteArray.size_append]
      show _ + (j.size + 1) ≤ _
      omega
     rw [← htx] at HTX
     have HTJ := Lib.hid htx.symm
     clear htx
     have hs1 : ¬ 9223372036854775807 < j.size + 1 := by omega
     clear hrs htp hlp hj
     have Lz : Below wr.heap.size wr w10.drew := HC10.out.drew
     have Xz := HX10.out.drew
     have Rz : World.ownsRow w10.drew wr.heap.size 9 1 (.slice la0 la.length lc0) la.length (strsB la) := HO10.out
     refine wp_region_noPanic ?_
     refine beginL (S := (fun w' => w'.cell? ⟨b3, 3, none⟩ = some (.int .i64 X.result))) (L := []) (by kernel_rfl) (Xz.cell 3 rfl) (fun hHeld => ?_)
     refine tkW 0 ?_
     refine tkW 2 ?_
     refine tkL 3 ?_
     refine cnL 1 fun K hK => ?_
     go_simp
     refine (results_any w10.drew).mono ?_
     rintro e w20 ⟨rfl, hb20⟩
     have L20 := below_trans Lz hb20 Lz.size
     have X20 := Xz.stays hb20
     have R20 := own_stays Rz hb20
     refine hK.out _ _ (X20.cell 3 rfl) (fun hHeld => ?_)
     clear hK K
     refine tkW 4 ?_
     refine cnL 5 fun K hK => ?_
     go_simp
     refine K_world ?_
     intro w21 e21
     have hb21 : Below w20.heap.size w20 w21 := by rw [e21]; exact strB_alloc w20 _
     have N21 : Box w21 w20.heap.size [.string rs] 9 := by rw [e21]; exact Box.new' _ _ _ _ rfl
     have L21 := below_trans L20 hb21 L20.size
     have X21 := X20.stays hb21
     have R21 := own_stays R20 hb21
     clear e21
     have HRow : w21.ownsRow w20.heap.size 9 1 (.slice (some ⟨w20.heap.size, 0, none⟩) 1 1) 1 (strsB [resB X.result]) := by rw [strsB_cons, ← HRS.out]; exact ⟨by simp [strsB], .inr ⟨w20.heap.size, 1, #[.string rs], rfl, Nat.le_refl _, N21, Nat.le_refl _, by decide, rfl, rfl⟩⟩
     refine hK.out _ _ (X21.cell 3 rfl) (fun hHeld => ?_)
     clear hK K
     refine cnL 6 fun K hK => ?_
     rw [if_pos (by rfl)]
     refine wp_app_strs _ _ rfl wr.heap.size (.slice la0 la.length lc0) la rfl R21 w20.heap.size (.slice (some ⟨w20.heap.size, 0, none⟩) 1 1) [resB X.result] rfl HRow (by show la.length + 1 ≤ _; omega) L21.size ?_
     intro v30 w30 ho30 hg30
     rw [← HLPE.out] at ho30
     have L30 := below_grown L21 R21 hg30 L21.size
     have X30 := HXr.out.stays L30
     obtain ⟨va30, vc30, rfl⟩ := own_form2 ho30
     refine hK.out _ _ (X30.cell 3 rfl) (fun hHeld => ?_)
     clear hK K
     refine cnL 7 fun K hK => ?_
     go_simp
     refine (HJh.out wr.heap.size (.slice va30 lp.length vc30) lp w30 ho30 (by have := HTP.out.1; omega) (fun x hx => by have h1 := tot_mem hx; have := HTP.out.2; omega)).mono ?_
     rw [← HJE.out]
     rintro e w40 ⟨rfl, hb40⟩
     have L40 := below_trans L30 hb40 L30.size
     have X40 := X30.stays hb40
     refine hK.out _ _ (X40.cell 3 rfl) (fun hHeld => ?_)
     clear hK K
     refine tkW 8 ?_
     refine cnL 9 fun K hK => ?_
     go_simp
     rw [HTJ.out]
     have hb40' := HBe.out.below L40
     have hw40 : B ≤ w40.heap.size := by have := L40.size; omega
     refine (HWh.out B B (tagsB X.tags) tx w40 hb40' htz hw40).mono ?_
     rintro e w50 ⟨rfl, hb50, hl50⟩
     have X50 := X40.below hl50 hb3B
     refine hK.out _ _ (X50.cell 3 rfl) (fun hHeld => ?_)
     clear hK K
     refine dnN ?_
     have HB50 : Hid (BAt B B (textB R X) w50) := Lib.hid (by rw [← HTX.out]; exact hb50)
     have HL50 : Hid (Below w.heap.size w w50) := Lib.hid ((HL1.out.trans ((HLr.out.trans (L40.mono hBr)).mono hwB)).trans (hl50.mono hwB))
     have hB50 : B ≤ w50.heap.size := by have := L40.size; have := hl50.size; omega
     obtain ⟨tb, htb⟩ : ∃ tb, tb = textB R X := ⟨_, rfl⟩
     rw [← htb] at HB50 HTE HTZ
     clear hHeld Lz Xz Rz L20 X20 R20 L21 X21 R21 L30 X30 L40 X40 X50 hb20 hb21 hb40 hb50 hl50 hb40' hw40 htz ho30 hg30 N21 HRow HIX hs1 htb
     go_wp2_with fail
     refine (HLh.out B B tb w50 HB50.out).mono ?_
     rintro e w51 ⟨rfl, rfl⟩
     by_cases hbig : 8192 < tb.length
     ·have hbI : (8192 : Int) < (tb.length : Int) := by omega
      have HE1 : Hid (TE = 2) := Lib.hid (by rw [HTE.out, if_neg (by simp), if_pos hbig])
      clear hbig
      go_wp2_with fail
      go_ret2
      exact ⟨by rw [HTZ.out, HE1.out, if_neg (by decide)]; rfl, HL50.out⟩
     ·have hbI : ¬ (8192 : Int) < (tb.length : Int) := by omega
      have HE1 : Hid (TE = 0) := Lib.hid (by rw [HTE.out, if_neg (by simp), if_neg hbig])
      clear hbig
      go_wp2_with fail
      refine (HTh.out B B tb w51 HB50.out hB50).mono ?_
      rintro e w52 ⟨rfl, hb52⟩
      have HL52 := Lib.hid (HL50.out.trans (hb52.mono hwB))
      clear hb52
      go_wp2_with fail
      go_ret2
      exact ⟨by rw [HTZ.out, HE1.out, if_pos rfl]; rfl, HL52.out⟩
 ·have h0' : ¬ E = 0 := h0
  have HE0 := Lib.hid h0
  have HE1 : Hid (TE = E) := Lib.hid (by rw [HTE.out, if_pos h0])
  clear h0
  go_wp2_with fail
  go_ret2
  exact ⟨by rw [HTZ.out, HE1.out, if_neg HE0.out]; rfl, HL1.out⟩
end Go.Proofs.YthklhndcdijneaaGreatDoor
namespace Go.Proofs.YthklhndcdijneaaGreatDoor
set_option linter.unusedVariables false
def resRaw (R : RulesZ) (p : PosZ) : Int :=
 if 0 ≤ idxL (fun x => holdsZ R p x (1 - p.turn)) R.ends 0 then
  (if (R.ends.getD (idxL (fun x => holdsZ R p x (1 - p.turn)) R.ends 0).toNat default).loses = true then 1 + p.turn else 1 + (1 - p.turn))
 else if R.quiet ≠ 0 ∧ R.quiet ≤ p.quiet then 3
 else if (rawZ R p).isEmpty = false then 0
 else if R.blocked = 0 then 1 + (1 - p.turn)
 else if R.blocked = 1 then 1 + p.turn else 3
theorem list_pos (R : RulesZ) (p : PosZ) : 0 < (listZ R p).length ↔ (rawZ R p).isEmpty = false := by
 rw [List.length_pos_iff_exists_mem, List.isEmpty_eq_false_iff_exists_mem]
 exact ⟨fun ⟨m, h⟩ => ⟨m, list_mem.1 h⟩, fun ⟨m, h⟩ => ⟨m, list_mem.2 h⟩⟩
theorem res_raw (R : RulesZ) (p : PosZ) : resultZ R p = resRaw R p := by
 unfold resultZ resRaw
 simp only [list_pos]
end Go.Proofs.YthklhndcdijneaaGreatDoor
namespace Go.Proofs.YthklhndcdijneaaGreatDoor
open Go.ChangeShapes Go.WideShapes Go.ChangeAt Go.RowKit
set_option linter.unusedVariables false
end Go.Proofs.YthklhndcdijneaaGreatDoor
namespace Go.Proofs.YthklhndcdijneaaGreatDoor
open Go.ChangeShapes Go.WideShapes Go.ChangeAt Go.RowKit
set_option linter.unusedVariables false
set_option maxHeartbeats 4000000
set_option maxRecDepth 100000
theorem drop_any' (n : Int) (w : World) : Calls Tryz.prog 27 #[.int .i64 n] w fun e w' => e = .returned (.agg #[.int .i64 (-1), .int .i64 n, .int .i64 0]) ∧ Below w.heap.size w w' := by
 go_enter Tryz.func27, Tryz.ntmps27
 go_wp2
 exact bodyPost_ret (v := .agg #[.int .i64 (-1), .int .i64 n, .int .i64 0]) (by simp [results, Tryz.results27, go_sem]) rfl ⟨rfl, by go_grown⟩
theorem minR (L : Nat) : ∃ n : Nat, (if (30 : Int) < (L : Int) then (30 : Int) else (L : Int)) = (n : Int) ∧ n ≤ L ∧ n ≤ 30 := by
 by_cases h : (30 : Int) < (L : Int)
 ·exact ⟨30, by rw [if_pos h]; rfl, by omega, by omega⟩
 ·exact ⟨L, by rw [if_neg h], Nat.le_refl _, by omega⟩
def shortX (X : RecZ) : RecZ := { X with nodes := X.nodes.take 30 }
def ShortPost (X : RecZ) (vt vn : Value) (w : World) (e : Ending) (w' : World) : Prop := Below w.heap.size w w' ∧ ∃ a n c Y, Y = shortX X ∧ e = .returned (.agg #[vt, .string Y.comment, .slice a n c, .int .i64 Y.result]) ∧ n = Y.nodes.length ∧ ∀ W, RdX W X vt vn → RdX W Y vt (.slice a n c)
theorem short_any (X : RecZ) (vt vn : Value) (w : World) (h : RdX w X vt vn) : Calls Tryz.prog 7 #[recV X vt vn] w (ShortPost X vt vn w) := by
 obtain ⟨na, nc, rfl, h1, h2⟩ := h.2.1.form
 obtain ⟨ta, tc, rfl, ht1, ht2⟩ := h.1.form
 unfold maxLen at h2 ht2
 obtain ⟨n, hn, hn1, hn2⟩ := minR X.nodes.length
 have e30 : X.nodes.take 30 = X.nodes.take n := by
  by_cases q : (30 : Int) < (X.nodes.length : Int)
  ·rw [if_pos q] at hn
   rw [show n = 30 by omega]
  ·rw [if_neg q] at hn
   rw [List.take_of_length_le (by omega), List.take_of_length_le (by omega)]
 have HX : Hid (n = (shortX X).nodes.length ∧ ∀ W, RdX W X (.slice ta X.tags.length tc) (.slice na X.nodes.length nc) → RdX W (shortX X) (.slice ta X.tags.length tc) (.slice na n nc)) := Lib.hid (by
  refine ⟨?_, fun W h => ⟨h.1, ?_, h.2.2⟩⟩
  ·show n = (X.nodes.take 30).length
   rw [e30, List.length_take]; omega
  ·show RdL nodeEl W _ (X.nodes.take 30)
   rw [e30]; exact RdL.take h.2.1 n hn1)
 clear e30
 have hsl := fun w => run_take (P := Tryz.prog) (s := 5) Tryz.underlying28 (fun _ => by kernel_rfl) na X.nodes.length nc n (by omega) w
 clear h
 unfold recV
 go_enter Tryz.func7, Tryz.ntmps7
 go_upto_region 1 with (fail)
 obtain ⟨bX, hbX⟩ : ∃ bX, bX = w.heap.size := ⟨_, rfl⟩
 obtain ⟨bO, hbO⟩ : ∃ bO, bO = w.heap.size + 1 := ⟨_, rfl⟩
 have HbX : Hid (Box ((w.alloc (.cells #[.slice ta X.tags.length tc, .string X.comment, .slice na X.nodes.length nc, .int .i64 X.result] 30)).alloc (.cells #[.slice none 0 0, .string ⟨#[]⟩, .slice none 0 0, .int .i64 0] 30)) bX [.slice ta X.tags.length tc, .string X.comment, .slice na X.nodes.length nc, .int .i64 X.result] 30) := Lib.hid ((Box.new' w bX [.slice ta X.tags.length tc, .string X.comment, .slice na X.nodes.length nc, .int .i64 X.result] 30 hbX.symm).alloc _)
 have HbO : Hid (Box ((w.alloc (.cells #[.slice ta X.tags.length tc, .string X.comment, .slice na X.nodes.length nc, .int .i64 X.result] 30)).alloc (.cells #[.slice none 0 0, .string ⟨#[]⟩, .slice none 0 0, .int .i64 0] 30)) bO [.slice none 0 0, .string ⟨#[]⟩, .slice none 0 0, .int .i64 0] 30) := Lib.hid (Box.new' (w.alloc (.cells #[.slice ta X.tags.length tc, .string X.comment, .slice na X.nodes.length nc, .int .i64 X.result] 30)) bO [.slice none 0 0, .string ⟨#[]⟩, .slice none 0 0, .int .i64 0] 30 (by rw [World.size_alloc, hbO]))
 have HB : Hid (Below w.heap.size w ((w.alloc (.cells #[.slice ta X.tags.length tc, .string X.comment, .slice na X.nodes.length nc, .int .i64 X.result] 30)).alloc (.cells #[.slice none 0 0, .string ⟨#[]⟩, .slice none 0 0, .int .i64 0] 30))) := Lib.hid (((Below.refl w.heap.size w).alloc (Nat.le_refl _) _).alloc (by rw [World.size_alloc]; omega) _)
 rw [← hbX, show bX + 1 = bO by omega]
 have hbX1 : w.heap.size ≤ bX := by omega
 have hbO1 : w.heap.size ≤ bO := by omega
 have hne : bO ≠ bX := by omega
 clear hbX hbO
 generalize ((w.alloc (.cells #[.slice ta X.tags.length tc, .string X.comment, .slice na X.nodes.length nc, .int .i64 X.result] 30)).alloc (.cells #[.slice none 0 0, .string ⟨#[]⟩, .slice none 0 0, .int .i64 0] 30)) = w0 at *
 have x2 := HbX.out.cell 2 rfl
 have f2 := HbX.out.frozen 2
 have hxl := HbX.out.lt
 go_upto_region 2 with (fail)
 have HbX2 : Hid (Box (w0.setCell ⟨bX, 2, none⟩ (.slice na n nc)) bX [.slice ta X.tags.length tc, .string X.comment, .slice na n nc, .int .i64 X.result] 30) := Lib.hid (HbX.out.set 2 (.slice na n nc))
 have HbO2 := Lib.hid (HbO.out.far ⟨bX, 2, none⟩ (.slice na n nc) hne)
 have HB2 := Lib.hid (HB.out.setCell (p := ⟨bX, 2, none⟩) hbX1 (.slice na n nc))
 clear HbX HbO HB x2 f2 hxl
 generalize w0.setCell ⟨bX, 2, none⟩ (.slice na n nc) = w1 at *
 refine wp_region_lit ?_
 refine wpList_load_box (by rfl) 30 (.tmp 1) (by rfl) bX (by rfl) HbX2.out Tryz.underlying30 (by rfl) (by kernel_rfl) ?_
 refine wpList_store_box (vs := [.slice ta X.tags.length tc, .string X.comment, .slice na n nc, .int .i64 X.result]) (by rfl) 30 (.tmp 2) (.tmp 11) (by rfl) bO (by rfl) (by rfl) HbO2.out rfl (by kernel_rfl) (by rfl) ?_
 have HbO3 := Lib.hid (HbO2.out.store (vs := [.slice ta X.tags.length tc, .string X.comment, .slice na n nc, .int .i64 X.result]) rfl)
 have HB3 := Lib.hid (below_setCells HB2.out hbO1 0 [.slice ta X.tags.length tc, .string X.comment, .slice na n nc, .int .i64 X.result])
 generalize w1.setCells bO 0 [.slice ta X.tags.length tc, .string X.comment, .slice na n nc, .int .i64 X.result] = w2 at *
 go_wp2_with fail
 exact bodyPost_ret (results_one rfl (by rfl) HbO3.out Tryz.underlying30 (by rfl) (by kernel_rfl)) rfl ⟨HB3.out, _, _, _, shortX X, rfl, rfl, HX.out.1, HX.out.2⟩
def oneX : RecZ := ⟨[], ⟨#[]⟩, [⟨-1, ⟨-1, 0, 0⟩, ⟨#[]⟩⟩], 0⟩
def OnePost (w : World) (e : Ending) (w' : World) : Prop := Below w.heap.size w w' ∧ ∃ b, e = .returned (recV oneX (.slice none 0 0) (.slice (some ⟨b, 0, none⟩) 1 1)) ∧ RdX w' oneX (.slice none 0 0) (.slice (some ⟨b, 0, none⟩) 1 1)
theorem one_any (w : World) : Calls Tryz.prog 14 #[] w (OnePost w) := by
 go_enter Tryz.func14, Tryz.ntmps14
 go_upto_region 1 with (fail)
 refine opn1 fun w0 y0_ yb_ hs_ => ?_
 have HbO := Lib.hid y0_
 have HB := Lib.hid yb_
 clear hs_ y0_ yb_
 go_wp2_with fail
 refine (drop_any' 0 _).mono ?_
 rintro e w1 ⟨rfl, hb1⟩
 have HB1 := Lib.hid (HB.out.trans (hb1.mono HB.out.size))
 have HbO1 := Lib.hid (HbO.out.stays hb1)
 obtain ⟨bN, hbN⟩ : ∃ bN, bN = w1.heap.size := ⟨_, rfl⟩
 have HbN := Lib.hid (Box.new' w1 bN [.int .i64 (-1), .int .i64 (-1), .int .i64 0, .int .i64 0, .string ⟨#[]⟩] 46 hbN.symm)
 have HbO2 := Lib.hid (HbO1.out.alloc (.cells #[.int .i64 (-1), .int .i64 (-1), .int .i64 0, .int .i64 0, .string ⟨#[]⟩] 46))
 have HB2 := Lib.hid (HB1.out.alloc HB1.out.size (.cells #[.int .i64 (-1), .int .i64 (-1), .int .i64 0, .int .i64 0, .string ⟨#[]⟩] 46))
 have hwb : w.heap.size ≠ bN := by have := HbO1.out.lt; omega
 clear hb1 HB HbO
 go_wp2_with (refine wpList_store_box (vs := [.slice none 0 0, .string ⟨#[]⟩, .slice (some ⟨w1.heap.size, 0, none⟩) 1 1, .int .i64 0]) (by rfl) 30 (.tmp 0) (.tmp 4) (by rfl) w.heap.size (by rfl) (by rfl) HbO2.out rfl (by kernel_rfl) (by rfl) ?_)
 rw [← hbN]
 have HbN2 := Lib.hid (HbN.out.farAll (b' := w.heap.size) (Ne.symm hwb) 0 [.slice none 0 0, .string ⟨#[]⟩, .slice (some ⟨bN, 0, none⟩) 1 1, .int .i64 0])
 have HbO3 := Lib.hid (HbO2.out.store (vs := [.slice none 0 0, .string ⟨#[]⟩, .slice (some ⟨bN, 0, none⟩) 1 1, .int .i64 0]) rfl)
 have HB3 := Lib.hid (below_setCells HB2.out (Nat.le_refl _) 0 [.slice none 0 0, .string ⟨#[]⟩, .slice (some ⟨bN, 0, none⟩) 1 1, .int .i64 0])
 refine bodyPost_ret (results_one rfl (by rfl) HbO3.out Tryz.underlying30 (by rfl) (by kernel_rfl)) rfl ⟨HB3.out, bN, rfl, RdL.nil _ _, ?_, Nat.zero_le _⟩
 refine .inr ⟨bN, 0, 1, rfl, Nat.le_refl _, by unfold maxLen; decide, HbN2.out.lt, fun i h => ?_⟩
 obtain rfl : i = 0 := by simp [oneX] at h; exact h
 refine ⟨[.int .i64 (-1), .int .i64 (-1), .int .i64 0, .int .i64 0, .string ⟨#[]⟩], ⟨rfl, Nat.zero_le _⟩, fun j hj => ?_⟩
 simp only [nodeEl] at hj
 rcases j with _ | _ | _ | _ | _ | j
 all_goals first | exact HbN2.out.cell _ rfl | omega
theorem one_run : runErr ticZ [⟨-1, 0, 0⟩] = 0 := by
 have h0 : resRaw ticZ (nowZ ticZ []) = 0 := by decide +kernel
 have h1 : gameRes ticZ [] = 0 := by unfold gameRes; rw [res_raw, h0, if_neg (fun h => h.2.1 rfl)]
 have h2 : (⟨-1, 0, 0⟩ : MoveZ) ∈ listZ ticZ (nowZ ticZ []) := by rw [list_mem]; decide +kernel
 have h3 : rulesErr ticZ = 0 := by decide +kernel
 have hp : playErr ticZ [] ⟨-1, 0, 0⟩ = 0 := by unfold playErr; rw [if_neg (by simp [h1]), if_neg (by simpa using h2)]; rfl
 unfold runErr runFrom runFrom
 rw [if_neg (by simp [h3]), if_neg (by simp [hp])]
theorem one_ok : recErr ticZ oneX = 0 := by
 have h1 : rulesErr ticZ = 0 := by decide +kernel
 have h2 : tagsE oneX.tags = 0 := by decide +kernel
 have h3 : cmtErr oneX.comment = 0 := by decide +kernel
 have h4 : cmtErr (ndAt oneX.nodes 0).comment = 0 := by decide +kernel
 have h5 : onB oneX.nodes (-1) (-1) = true := by decide +kernel
 have h6 : twinB oneX.nodes 0 = false := by decide +kernel
 have h7 : wayI oneX.nodes (0 : Nat) = [⟨-1,0,0⟩] := by decide +kernel
 have h8 : depE oneX.nodes [0] 0 = 0 := by decide +kernel
 have hn : nodeE ticZ oneX.nodes [0] 0 = 0 := by
  unfold nodeE
  rw [if_neg (by simp [h4]), h7, one_run, if_neg (by decide), if_neg (by simp [h6]), if_neg (by decide), h8]; rfl
 unfold recErr
 rw [if_neg (by simp [h1]), if_neg (by decide), if_neg (by simp [h2]), if_neg (by decide), if_neg (by simp [h3])]
 show nodesE ticZ oneX.nodes 1 0 [0] = 0
 unfold nodesE
 rw [if_neg (by simp [hn])]; rfl
end Go.Proofs.YthklhndcdijneaaGreatDoor
namespace Go.Proofs.YthklhndcdijneaaGreatDoor
open Go.ChangeShapes Go.WideShapes Go.ChangeAt Go.RowKit
set_option linter.unusedVariables false
/-- what the shelf says for the writer, and for the reader. -/
def WrSaid : Prop := JoinSaidB ∧ WriteSaid ∧ LenSaid ∧ StringSaid
def RdSaid : Prop := TrimSaid ∧ AnySaid ∧ CutSaid ∧ CloneSaid
theorem one_trees : trees oneX = [.mk ⟨-1, 0, 0⟩ ⟨#[]⟩ []] := rfl
theorem one_of : ofT ticZ (beginZ ticZ) (listZ ticZ (beginZ ticZ)) ⟨-1, 0, 0⟩ = ⟨#[83, 64, 97, 49]⟩ := by
 unfold ofT
 rw [if_pos (by decide)]
 decide +kernel
theorem one_text : textB ticZ oneX = [83, 64, 97, 49, 32, 42, 10] := by
 unfold textB partsX
 rw [one_trees, txtL, txtB, txtL, txtV]
 show tagsB [] ++ (joinB (_ ++ (oneT ticZ (beginZ ticZ) ⟨-1, 0, 0⟩ ⟨#[]⟩ ++ ([] ++ []) ++ [resB 0])) ++ [10]) = _
 unfold oneT
 rw [one_of]
 rfl
theorem one_textErr : rtextErr ticZ oneX = 0 := by
 unfold rtextErr
 rw [if_neg (by simp [one_ok]), one_text, if_neg (by decide)]
theorem one_textZ : rtextZ ticZ oneX = ⟨#[83, 64, 97, 49, 32, 42, 10]⟩ := by
 unfold rtextZ
 rw [if_pos one_textErr, one_text]; rfl
set_option maxRecDepth 100000 in
set_option maxHeartbeats 4000000 in
theorem records_any (HS : SortMvSaid) (HW : WrSaid) (w : World) : Calls Tryz.prog 6 #[] w fun e w' => e = .returned (.bool true) ∧ Below w.heap.size w w' := by
 have HSh := Lib.hid HS
 have HWh := Lib.hid HW
 clear HS HW
 go_enter Tryz.func6, Tryz.ntmps6
 go_wp2_with fail
 refine (tic_any w).mono ?_
 rintro e w1 ⟨vp, vs, ve, rfl, hr1, hb1⟩
 have HB1 := Lib.hid hb1
 have HR1 := Lib.hid hr1
 clear hb1 hr1
 unfold rulesV
 go_wp2_with fail
 refine (one_any w1).mono ?_
 rintro e w2 ⟨hb2, b, rfl, hx2⟩
 have HB2 := Lib.hid (HB1.out.trans (hb2.mono HB1.out.size))
 have HC := Lib.hid (wText_any HSh.out HWh.out.1 HWh.out.2.1 HWh.out.2.2.1 HWh.out.2.2.2 ticZ vp vs ve oneX none (some ⟨b, 0, none⟩) 0 1 w2 (HR1.out.below hb2 (Nat.le_refl _)) (by unfold maxLen; decide) hx2)
 rw [one_textZ, one_textErr] at HC
 unfold recV
 clear hb2 hx2
 go_wp2_with fail
 refine HC.out.mono ?_
 rintro e w3 ⟨rfl, hb3⟩
 have HB3 := Lib.hid (HB2.out.trans (hb3.mono HB2.out.size))
 clear hb3 HC
 go_wp2_with fail
 go_ret
 exact ⟨rfl, HB3.out⟩
end Go.Proofs.YthklhndcdijneaaGreatDoor
namespace Go.Proofs.YthklhndcdijneaaGreatDoor
open Go.ChangeShapes Go.WideShapes Go.ChangeAt Go.RowKit
set_option linter.unusedVariables false
end Go.Proofs.YthklhndcdijneaaGreatDoor
namespace Go.Proofs.YthklhndcdijneaaGreatDoor
open Go.ChangeShapes Go.WideShapes Go.ChangeAt Go.RowKit
set_option linter.unusedVariables false
end Go.Proofs.YthklhndcdijneaaGreatDoor

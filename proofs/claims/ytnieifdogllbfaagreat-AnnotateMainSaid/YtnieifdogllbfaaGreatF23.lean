/- AnZ, RecU. -/
import Derived.Test.YtnieifdogllbfaaGreatF22
import Derived.Test.YtnieifdogllbfaaGreatF06
import Derived.BigQuiet
import Derived.Deep.Cut
import Derived.Deep.QuietTactic
import Derived.Test.YtnieifdogllbfaaGreatF20
namespace Go.Proofs.YtnieifdogllbfaaGreat
open Go.ChangeShapes Go.WideShapes Go.ChangeAt Go.RowKit
set_option linter.unusedVariables false
theorem brs_szB {q : Nat → Prop} {tb te : TypeId} {b : Nat} {w : World} : ∀ (l : List BrZ) (vs : List Value), BrsAt q tb te b w l vs → ∀ (p : Int) (out : List NodeZ), ∀ x ∈ flatL l p out, x ∈ out ∨ x.comment.size ≤ maxLen := by
 refine br_indL (PB := fun y => ∀ v, BrAt q tb te b w y v → ∀ (p : Int) (out : List NodeZ), ∀ x ∈ flatB y p out, x ∈ out ∨ x.comment.size ≤ maxLen) (PL := fun l => ∀ vs, BrsAt q tb te b w l vs → ∀ (p : Int) (out : List NodeZ), ∀ x ∈ flatL l p out, x ∈ out ∨ x.comment.size ≤ maxLen) ?_ ?_ ?_
 ·intro m c ks ih v h p out x hx
  rw [BrAt] at h
  obtain ⟨g, kv, vs, -, -, -, hc, -, -, hs⟩ := h
  rw [flatB] at hx
  rcases ih vs hs _ _ x hx with h1 | h1
  ·rcases List.mem_append.1 h1 with h2 | h2
   ·exact .inl h2
   ·rw [List.mem_singleton] at h2; subst h2; exact .inr hc
  ·exact .inr h1
 ·intro vs h p out x hx; rw [flatL] at hx; exact .inl hx
 ·intro y l h1 h2 vs h p out x hx
  rw [BrsAt] at h
  obtain ⟨v, vt, rfl, h3, h4⟩ := h
  rw [flatL] at hx
  rcases h2 vt h4 _ _ x hx with h5 | h5
  ·exact h1 v h3 _ _ x h5
  ·exact .inr h5
theorem brs_sz {q : Nat → Prop} {tb te : TypeId} {b : Nat} {w : World} {l : List BrZ} {vs : List Value} (h : BrsAt q tb te b w l vs) : ∀ x ∈ flatL l (-1) [], x.comment.size ≤ maxLen := fun x hx => by
 rcases brs_szB l vs h (-1) [] x hx with h1 | h1
 ·cases h1
 ·exact h1
theorem tag_one (w : World) (x : TagZ) (cs : List Value) (h : tagEl.E w x cs) : ∀ u ∈ cs, u.oneCell' = true := by
 obtain ⟨rfl, -⟩ := h
 intro u hu
 simp only [List.mem_cons, List.not_mem_nil, or_false] at hu
 rcases hu with rfl | rfl <;> rfl
set_option maxHeartbeats 2000000
theorem info_tg : (Tryz.prog.info? 64).map (fun i => (i.zero, i.size, i.bytes)) = some (some (.agg #[.string ⟨#[]⟩, .string ⟨#[]⟩]), 2, 32) := by kernel_rfl
theorem Clone_tg {α : Type} (el : El α) (hk : el.k = 2) (h1 : ∀ (w : World) (x : α) (cs : List Value), el.E w x cs → ∀ u ∈ cs, u.oneCell' = true) (v : Value) (xs : List α) (w : World) (h : RdL el w v xs) (hl : xs.length ≤ 1000000) :
  Calls Tryz.prog 52 #[v] w (ClonedPost el 64 xs w) := by
 obtain ⟨i0, hi, hz0, hz1, hz2⟩ := info_of info_tg
 have hq := fun (w : World) (a : Option Addr) (n c : Nat) => Lib.run_eql_slice_nil (P := Tryz.prog) w 27 64 a n c 0 0 Tryz.underlying27
 have hown0 : (w.alloc (.cells #[] 64)).ownsRow w.heap.size 64 2 (.slice (some ⟨w.heap.size, 0, none⟩) 0 0) 0 [] := World.ownsRow_made w #[] 0 (Nat.le_refl _) (by unfold maxLen; omega) rfl
 obtain ⟨a, n, c, vs, rfl, hn, hvl, hone, hE, hcell⟩ := rdl_cells h1 h
 rw [hk] at hvl
 have HR := Lib.hid hE
 cases a with
 | none =>
  have hn0 : n = 0 := hcell.1 rfl
  subst hn0
  obtain rfl : xs = [] := List.length_eq_zero_iff.1 hn.symm
  clear h hl hE hcell hown0 hn hvl hone HR hi hz0 hz1 hz2
  go_enter Tryz.func52, Tryz.ntmps52
  go_wp2
  go_ret
  exact ⟨_, [], rfl, World.ownsRow_nil _ _ _ _, (fun i hi => by cases hi), Below.refl _ _⟩
 | some ad =>
  have hnews : ∀ j u, vs[j]? = some u → (w.alloc (.cells #[] 64)).cell? (ad.add j) = some u := fun j u hu => by
   have hc := hcell.2 ad rfl j u hu
   rw [World.cell?_of_block (w := w) (a := ad.add j) (Below.heap_alloc w _ _ (World.block_lt_of_cell? w _ hc))]
   exact hc
  have Hown0 := Lib.hid hown0
  have Hnews := Lib.hid hnews
  have Hil := Lib.hid hvl
  have Hone := Lib.hid hone
  have hnl : n ≤ 1000000 := by omega
  have HN := Lib.hid hn
  clear hown0 hnews hcell h hE hvl hone hl hn
  go_enter Tryz.func52, Tryz.ntmps52
  go_wp2_with (at_builtin; refine wpList_append_own _ rfl _ _ 27 rfl w.heap.size 64 i0 (.agg #[.string ⟨#[]⟩, .string ⟨#[]⟩]) 2 32 Tryz.underlying27 hi hz0 hz1 hz2 rfl (by decide) _ 0 [] rfl Hown0.out ad n c vs rfl Hil.out Hnews.out Hone.out ?c3 ?c4 ?c5 ?_)
  case c3 => unfold maxLen; omega
  case c4 => omega
  case c5 => simp
  intro v' w2 hown' hgrow _
  try simp only [Nat.zero_add, List.nil_append] at hown'
  have hb : Below w.heap.size w w2 := Below.grown ((Below.refl _ w).alloc (Nat.le_refl _) _) hgrow (by simp) (fun q hq => by simp [Value.ownBlock] at hq; omega)
  have HO := Lib.hid hown'
  have HB := Lib.hid hb
  clear hown' hgrow hb
  go_wp2
  go_ret
  exact ⟨v', vs, rfl, by rw [← HN.out, hk]; exact HO.out, fun i hi => el.mono (HR.out i hi) HB.out (Nat.le_refl _), HB.out⟩
def withX (X : RecZ) (ks : List BrZ) : RecZ := { X with nodes := flatL ks (-1) [] }
/-- a record of its own. -/
structure OwnX (base : Nat) (w : World) (X : RecZ) (vt vn : Value) : Prop where
 tags : ∃ ts, w.ownsRow base 64 2 vt X.tags.length ts ∧ ∀ i (h : i < X.tags.length), tagEl.E w X.tags[i] ((ts.drop (i * 2)).take 2)
 nodes : w.ownsRow base 70 5 vn X.nodes.length (flatN X.nodes)
 sz : ∀ x ∈ X.nodes, x.comment.size ≤ maxLen
 cs : X.comment.size ≤ maxLen
theorem OwnX.rd {base : Nat} {w : World} {X : RecZ} {vt vn : Value} (h : OwnX base w X vt vn) : RdX w X vt vn := by
 obtain ⟨ts, h1, h2⟩ := h.tags
 exact ⟨ClonedPost.rd (el := tagEl) h1 h2, rdN_of_own h.nodes h.sz, h.cs⟩
theorem OwnX.lt {base : Nat} {w : World} {X : RecZ} {vt vn : Value} (h : OwnX base w X vt vn) (g : Nat) (hg : vt.ownBlock = some g ∨ vn.ownBlock = some g) : base ≤ g ∧ g < w.heap.size := by
 obtain ⟨ts, h1, -⟩ := h.tags
 rcases hg with hg | hg
 ·exact h1.lt g hg
 ·exact h.nodes.lt g hg
theorem OwnX.move {base : Nat} {w w' : World} {X : RecZ} {vt vn : Value} (h : OwnX base w X vt vn) (hm : ∀ g, g < w.heap.size → (vt.ownBlock = some g ∨ vn.ownBlock = some g) → w'.heap[g]? = w.heap[g]?) : OwnX base w' X vt vn := by
 obtain ⟨ts, h1, h2⟩ := h.tags
 exact ⟨⟨ts, own_of_block h1 (fun g hg => hm g (h1.lt g hg).2 (.inl hg)), h2⟩, own_of_block h.nodes (fun g hg => hm g (h.nodes.lt g hg).2 (.inr hg)), h.sz, h.cs⟩
def WithPost (X : RecZ) (ks : List BrZ) (w : World) (e : Ending) (w' : World) : Prop := ∃ vt' vn', e = .returned (recV (withX X ks) vt' vn') ∧ OwnX w.heap.size w' (withX X ks) vt' vn' ∧ Below w.heap.size w w'
set_option maxRecDepth 100000
theorem with_any {q : Nat → Prop} (X : RecZ) (vt vn : Value) (ks : List BrZ) (lv : Value) (vs : List Value) (b : Nat) (w : World) (hx : RdX w X vt vn) (hks : BrsAt q tBr tPt b w ks vs) (hlv : w.ownsRow b tPt 1 lv vs.length vs) (hn : cnt ks ≤ 1000) (ht : X.tags.length ≤ 1000) :
  Calls Tryz.prog 27 #[recV X vt vn, lv] w (WithPost X ks w) := by
 obtain ⟨na, nc, rfl, h1, h2⟩ := hx.2.1.form
 obtain ⟨ta, tc, rfl, ht1, ht2⟩ := hx.1.form
 unfold maxLen at h2 ht2
 have HX := Lib.hid hx
 have HKS := Lib.hid hks
 have HLV := Lib.hid hlv
 obtain ⟨la, lc, rfl⟩ := own_form2 hlv
 clear hx hks hlv
 unfold recV
 go_enter Tryz.func27, Tryz.ntmps27
 go_upto_region 1 with (fail)
 obtain ⟨bb, hbb⟩ : ∃ bb, bb = w.heap.size := ⟨_, rfl⟩
 obtain ⟨br, hbr⟩ : ∃ br, br = w.heap.size + 1 := ⟨_, rfl⟩
 have HbX : Hid (Box ((w.alloc (.cells #[.slice ta X.tags.length tc, .string X.comment, .slice na X.nodes.length nc, .int .i64 X.result] 30)).alloc (.cells #[.slice none 0 0, .string ⟨#[]⟩, .slice none 0 0, .int .i64 0] 30)) bb [.slice ta X.tags.length tc, .string X.comment, .slice na X.nodes.length nc, .int .i64 X.result] 30) := Lib.hid ((Box.new' w bb _ _ hbb.symm).alloc _)
 have HbR : Hid (Box ((w.alloc (.cells #[.slice ta X.tags.length tc, .string X.comment, .slice na X.nodes.length nc, .int .i64 X.result] 30)).alloc (.cells #[.slice none 0 0, .string ⟨#[]⟩, .slice none 0 0, .int .i64 0] 30)) br [.slice none 0 0, .string ⟨#[]⟩, .slice none 0 0, .int .i64 0] 30) := Lib.hid (Box.new' _ br _ _ (by rw [World.size_alloc, hbr]))
 have HB : Hid (Below w.heap.size w ((w.alloc (.cells #[.slice ta X.tags.length tc, .string X.comment, .slice na X.nodes.length nc, .int .i64 X.result] 30)).alloc (.cells #[.slice none 0 0, .string ⟨#[]⟩, .slice none 0 0, .int .i64 0] 30))) := Lib.hid (((Below.refl w.heap.size w).alloc (Nat.le_refl _) _).alloc (by rw [World.size_alloc]; omega) _)
 rw [← hbb, show bb + 1 = br by omega]
 have hbr1 : w.heap.size ≤ br := by omega
 clear hbb hbr
 generalize ((w.alloc (.cells #[.slice ta X.tags.length tc, .string X.comment, .slice na X.nodes.length nc, .int .i64 X.result] 30)).alloc (.cells #[.slice none 0 0, .string ⟨#[]⟩, .slice none 0 0, .int .i64 0] 30)) = w0 at *
 have hxl := HbX.out.lt
 have hrl := HbR.out.lt
 have BXz := HbX.out.drew
 have BRz := HbR.out.drew
 have Lz : Below w.heap.size w w0.drew := HB.out.drew
 have TGz : RdL tagEl w0.drew (.slice ta X.tags.length tc) X.tags := HX.out.1.below Lz (Nat.le_refl _)
 refine wp_region_noPanic ?_
 refine beginL (S := (fun w' => w'.cell? ⟨bb, 0, none⟩ = some (.slice ta X.tags.length tc) ∧ w'.cell? ⟨bb, 1, none⟩ = some (.string X.comment) ∧ w'.cell? ⟨bb, 3, none⟩ = some (.int .i64 X.result))) (L := [10]) (by kernel_rfl) (by and_intros <;> exact BXz.cell _ rfl) (fun hHeld => ?_)
 refine tkW 0 ?_
 refine tkW 3 ?_
 refine tkW 5 ?_
 refine tkW 7 ?_
 refine tkL 1 ?_
 refine tkL 4 ?_
 refine tkL 8 ?_
 refine cnL 2 fun K hK => ?_
 go_simp
 refine (Clone_tg tagEl rfl tag_one _ X.tags w0.drew TGz (by omega)).mono ?_
 rintro e w2 ⟨vt2, vs2, rfl, ho2, hE2, hb2⟩
 obtain ⟨va, vc, rfl⟩ := own_form2 ho2
 have BX2 := BXz.stays hb2
 have BR2 := BRz.stays hb2
 have L2 := below_trans Lz hb2 Lz.size
 have hks2 := brs_move (q := q) (q' := q) (tb := tBr) (te := tPt) (base := b) (w := w) (w' := w2) (fun g _ h1 h2 => ⟨L2.block g h1, h2⟩) ks vs HKS.out
 have hlv2 := own_of_block HLV.out (fun g hg => L2.block g (HLV.out.lt g hg).2)
 refine hK.out _ _ (by and_intros <;> exact BX2.cell _ rfl) (fun hHeld => ?_)
 clear hK K
 refine cnL 6 fun K hK => ?_
 go_simp
 refine (flat_any ks _ vs b w2 hks2 hlv2 hn).mono ?_
 rintro e w6 ⟨vn6, rfl, ho6, hb6⟩
 obtain ⟨ma, mc, rfl⟩ := own_form2 ho6
 have BX6 := BX2.stays hb6
 have BR6 := BR2.stays hb6
 have L6 := below_trans L2 hb6 L2.size
 have T6 := (ClonedPost.rd ho2 hE2).below hb6 (Nat.le_refl _)
 refine hK.out _ _ (by and_intros <;> exact BX6.cell _ rfl) (fun hHeld => ?_)
 clear hK K
 refine tkW 9 ?_
 refine ltL 10 fun K hK => ?_
 have d0 := BR6.cell 0 rfl
 have d1 := BR6.cell 1 rfl
 have d2 := BR6.cell 2 rfl
 have d3 := BR6.cell 3 rfl
 have f0 := BR6.frozen 0
 have f1 := BR6.frozen 1
 have f2 := BR6.frozen 2
 have f3 := BR6.frozen 3
 have dl := BR6.lt
 go_simp
 refine K_world ?_
 intro w10 e10
 have hw10 : w10 = w6.setCells br 0 [.slice va X.tags.length vc, .string X.comment, .slice ma (flatL ks (-1) []).length mc, .int .i64 X.result] := by rw [e10]; rfl
 have BR10 : Box w10 br [.slice va X.tags.length vc, .string X.comment, .slice ma (flatL ks (-1) []).length mc, .int .i64 X.result] 30 := by rw [hw10]; exact BR6.store rfl
 have L10 : Below w.heap.size w w10 := by rw [hw10]; exact below_setCells L6 hbr1 0 _
 have hm10 : ∀ k, k ≠ br → w10.heap[k]? = w6.heap[k]? := fun k hk => by rw [hw10]; exact heap_setCells br _ 0 w6 k hk
 clear e10 hw10 d0 d1 d2 d3 f0 f1 f2 f3 dl
 refine hK.out _ _ ?_
 clear hK K
 refine dnN ?_
 have HR10 := Lib.hid BR10
 have HL10 := Lib.hid L10
 have hb26 : w.heap.size ≤ w2.heap.size := L2.size
 have hbr6 : br < w2.heap.size := BR2.lt
 have hs0 : w0.drew.heap.size = w0.heap.size := by simp
 have o2 := own_of_block ho2 (w' := w10) (fun g hg => by have h1 := ho2.lt g hg; rw [hm10 g (by omega), hb6.block g h1.2])
 have HT10 := Lib.hid (And.intro (own_base o2 (b' := w.heap.size) (by have := HB.out.size; omega)) hE2)
 have HN10 := Lib.hid (own_base (own_of_block ho6 (w' := w10) (fun g hg => by have h1 := ho6.lt g hg; rw [hm10 g (by omega)])) (b' := w.heap.size) (by omega))
 clear BXz BRz Lz TGz BX2 BR2 L2 hks2 hlv2 BX6 BR6 L6 T6 BR10 L10 ho2 hE2 hb2 ho6 hb6 hm10 o2 hs0 hHeld
 go_wp2_with fail
 exact bodyPost_ret (results_one rfl (by rfl) HR10.out Tryz.underlying30 (by rfl) (by kernel_rfl)) rfl ⟨_, _, rfl, ⟨⟨_, HT10.out⟩, HN10.out, brs_sz HKS.out, HX.out.2.2⟩, HL10.out⟩
end Go.Proofs.YtnieifdogllbfaaGreat
namespace Go.Proofs.YtnieifdogllbfaaGreat
open Go.ChangeShapes Go.WideShapes Go.ChangeAt Go.RowKit
set_option linter.unusedVariables false
set_option maxRecDepth 100000 in
set_option maxHeartbeats 4000000 in
theorem tags_any (X : RecZ) (vt vn : Value) (w : World) (h : RdX w X vt vn) (hl : X.tags.length ≤ 10) :
  Calls Tryz.prog 23 #[recV X vt vn] w fun e w' => e = .returned (.int .i64 (tagsE X.tags)) ∧ Below w.heap.size w w' := by
 obtain ⟨ta, tc, rfl, h1, h2⟩ := h.1.form
 unfold maxLen at h2
 have HR := Lib.hid h.1
 clear h
 unfold recV
 have HE0 : Hid (tagsE X.tags = scanE (tagE X.tags) 0 (X.tags.length - 0)) := Lib.hid rfl
 go_enter Tryz.func23, Tryz.ntmps23
 go_upto_region 1 with (fail)
 obtain ⟨bb, hbb⟩ : ∃ bb, bb = w.heap.size := ⟨_, rfl⟩
 have hb0 := (Box.new' w bb [.slice ta X.tags.length tc, .string X.comment, vn, .int .i64 X.result] 30 hbb.symm)
 have HB : Hid (Below bb w (w.alloc (.cells #[.slice ta X.tags.length tc, .string X.comment, vn, .int .i64 X.result] 30))) := Lib.hid (by rw [hbb]; exact (Below.refl w.heap.size w).alloc (Nat.le_refl _) _)
 rw [← hbb]
 have hbb1 : w.heap.size ≤ bb := by omega
 clear hbb
 generalize (w.alloc (.cells #[.slice ta X.tags.length tc, .string X.comment, vn, .int .i64 X.result] 30)) = w0 at *
 have HX := Lib.hid hb0
 have q0 := hb0.cell 0 rfl
 have hw0 := hb0.lt
 clear hb0
 go_wp2_with fail
 go_loopw [8, 3, 4, 13, 18, 23, 28] (fun v8 v3 v4 v13 v18 v23 v28 wr => ∃ (k : Nat) (o3 o4 o13 o18 o23 o28 : Value), o3 = v3 ∧ o4 = v4 ∧ o13 = v13 ∧ o18 = v18 ∧ o23 = v23 ∧ o28 = v28 ∧ k ≤ X.tags.length ∧ v8 = .int .i64 k ∧ Hid (tagsE X.tags = scanE (tagE X.tags) k (X.tags.length - k)) ∧ Hid (Below bb w wr) ∧ Hid (Box wr bb [.slice ta X.tags.length tc, .string X.comment, vn, .int .i64 X.result] 30)) (fun v _ _ _ _ _ _ _ => X.tags.length - (intOf v).toNat)
 case atStart => exact ⟨0, _, _, _, _, _, _, rfl, rfl, rfl, rfl, rfl, rfl, Nat.zero_le _, rfl, HE0, HB, HX⟩
 case round =>
  obtain ⟨k, o3, o4, o13, o18, o23, o28, rfl, rfl, rfl, rfl, rfl, rfl, hk, rfl, HK, HBr, HXr⟩ := hrel
  have hsr := HXr.out.lt
  by_cases hlt : k < X.tags.length
  ·obtain ⟨g, o, rfl, hg, hc⟩ := tags_some HR.out (by omega)
   obtain ⟨e0, e1, hs0, hs1⟩ := hc k hlt
   have hgb : g < bb := by omega
   have c0 := (HBr.out.cell (p := ⟨g, o + k * 2, none⟩) hgb).trans e0
   have c1 := (HBr.out.cell (p := ⟨g, o + k * 2 + 1, none⟩) hgb).trans e1
   have HSt := Lib.hid (scanE_step (tagE X.tags) k X.tags.length hlt)
   have HT : Hid (tagE X.tags k = if nameOk (X.tags.getD k default).key = false then 6 else if 40 < (X.tags.getD k default).value.size then 2 else if printB (X.tags.getD k default).value quote = false then 3 else
    if (X.tags.take k).any (fun u => u.key.toList == (X.tags.getD k default).key.toList) = true then 7 else 0) := Lib.hid rfl
   clear hc e0 e1
   generalize (X.tags.getD k default).key = ky at *
   generalize (X.tags.getD k default).value = vl at *
   have hgr : g < wr.heap.size := by omega
   have hkl : (k : Int) < (X.tags.length : Int) := by omega
   go_upto_region 4 with (fail)
   obtain ⟨pb, hpb⟩ : ∃ pb, pb = wr.heap.size := ⟨_, rfl⟩
   rw [← hpb]
   have HP := Lib.hid (Box.new' wr pb [.string ky, .string vl] 64 hpb.symm)
   have HBp := Lib.hid (HBr.out.alloc (by omega) (.cells #[.string ky, .string vl] 64))
   have HXp := Lib.hid (HXr.out.alloc (.cells #[.string ky, .string vl] 64))
   clear HBr HXr c0 c1 hpb
   generalize wr.alloc (.cells #[.string ky, .string vl] 64) = wp at *
   have p0 := HP.out.cell 0 rfl
   have p1 := HP.out.cell 1 rfl
   have q0 := HXp.out.cell 0 rfl
   have hplt := HP.out.lt
   have hbw := HXp.out.lt
   have HNm := Lib.hid (Name_any ky wp hs0)
   have HPr := Lib.hid (printable_any vl quote wp hs1)
   have hbbp : bb ≤ wp.heap.size := by omega
   unfold maxLen at hs0 hs1
   cases hn : nameOk ky
   ·have HF : Hid (tagsE X.tags = 6) := Lib.hid (by rw [HK.out, HSt.out, HT.out, if_pos hn]; rfl)
    rw [hn] at HNm
    clear hn HPr HT HK HSt
    go_wp2_with (go_at_call 40; refine HNm.out.mono ?_; rintro e w1 ⟨rfl, rfl⟩)
    go_ret
    exact ⟨by rw [HF.out]; rfl, HBp.out.mono hbb1⟩
   ·rw [hn] at HNm
    have HT2 : Hid (tagE X.tags k = if 40 < vl.size then 2 else if printB vl quote = false then 3 else if (X.tags.take k).any (fun u => u.key.toList == ky.toList) = true then 7 else 0) := Lib.hid (by rw [HT.out, if_neg (by rw [hn]; decide)])
    clear hn HT
    by_cases h40 : (40 : Int) < (vl.size : Int)
    ·have HF : Hid (tagsE X.tags = 2) := Lib.hid (by rw [HK.out, HSt.out, HT2.out, if_pos (show 40 < vl.size by omega)]; rfl)
     clear HPr HT2 HK HSt
     go_wp2_with (go_at_call 40; refine HNm.out.mono ?_; rintro e w1 ⟨rfl, rfl⟩)
     go_ret
     exact ⟨by rw [HF.out]; rfl, HBp.out.mono hbb1⟩
    ·have HT3 : Hid (tagE X.tags k = if printB vl quote = false then 3 else if (X.tags.take k).any (fun u => u.key.toList == ky.toList) = true then 7 else 0) := Lib.hid (by rw [HT2.out, if_neg (show ¬ 40 < vl.size by omega)])
     clear HT2
     unfold quote at HPr HT3
     cases hp : printB vl ⟨#[34]⟩
     ·have HF : Hid (tagsE X.tags = 3) := Lib.hid (by rw [HK.out, HSt.out, HT3.out, if_pos hp]; rfl)
      rw [hp] at HPr
      clear hp HT3 HK HSt
      go_wp2_with (first | (go_at_call 40; refine HNm.out.mono ?_; rintro e w1 ⟨rfl, rfl⟩) | (go_at_call 46; refine HPr.out.mono ?_; rintro e w1 ⟨rfl, rfl⟩))
      go_ret
      exact ⟨by rw [HF.out]; rfl, HBp.out.mono hbb1⟩
     ·rw [hp] at HPr
      have HT4 : Hid (tagE X.tags k = if (X.tags.take k).any (fun u => u.key.toList == ky.toList) = true then 7 else 0) := Lib.hid (by rw [HT3.out, if_neg (by rw [hp]; decide)])
      have hsl := fun w => run_take (P := Tryz.prog) (s := 2) Tryz.underlying27 (fun _ => by kernel_rfl) (some ⟨g, o, none⟩) X.tags.length tc k (by omega) w
      have HCf := Lib.hid (ContainsFunc_tg _ (X.tags.take k) (fun u => u.key.toList == ky.toList) 47 #[.pointer (some ⟨pb, 0, none⟩)] wp ((RdL.take HR.out k (by omega)).below HBp.out hbb1) callTagc (fun W x cs _ hE hb => tagc_any x cs ky pb W hE ((HP.out.stays hb).cell 0 rfl) (HP.out.stays hb).lt))
      clear hp HT3
      generalize (X.tags.take k).any (fun u => u.key.toList == ky.toList) = tw at *
      cases tw
      ·go_wp2_with (first | (go_at_call 40; refine HNm.out.mono ?_; rintro e w1 ⟨rfl, rfl⟩) | (go_at_call 46; refine HPr.out.mono ?_; rintro e w1 ⟨rfl, rfl⟩))
       refine HCf.out.mono ?_
       rintro e w5 ⟨rfl, hb5⟩
       have HB5 := Lib.hid (HBp.out.trans (hb5.mono hbbp))
       have HX5 := Lib.hid (HXp.out.stays hb5)
       have HK5 : Hid (tagsE X.tags = scanE (tagE X.tags) (k + 1) (X.tags.length - (k + 1))) := Lib.hid (by rw [HK.out, HSt.out, HT4.out]; rfl)
       clear hb5 HK HSt HT4 hsl
       go_wp2_with fail
       go_roundw
       case rel => exact ⟨k + 1, _, _, _, _, _, _, rfl, rfl, rfl, rfl, rfl, rfl, by omega, by go_num, HK5, HB5, HX5⟩
       case measure => simp [intOf]; omega
      ·go_wp2_with (first | (go_at_call 40; refine HNm.out.mono ?_; rintro e w1 ⟨rfl, rfl⟩) | (go_at_call 46; refine HPr.out.mono ?_; rintro e w1 ⟨rfl, rfl⟩))
       refine HCf.out.mono ?_
       rintro e w5 ⟨rfl, hb5⟩
       have HB5 := Lib.hid (HBp.out.trans (hb5.mono hbbp))
       have HF : Hid (tagsE X.tags = 7) := Lib.hid (by rw [HK.out, HSt.out, HT4.out]; rfl)
       clear hb5 HK HSt HT4 hsl
       go_wp2_with fail
       go_ret
       exact ⟨by rw [HF.out]; rfl, HB5.out.mono hbb1⟩
  ·obtain rfl : k = X.tags.length := by omega
   have HF : Hid (tagsE X.tags = 0) := Lib.hid (by rw [HK.out, Nat.sub_self]; rfl)
   go_wp2_with fail
   go_ret
   exact ⟨by rw [HF.out]; rfl, HBr.out.mono hbb1⟩
end Go.Proofs.YtnieifdogllbfaaGreat

/- An9, An10, An11. -/
import Derived.Test.YtnieifdogllbfaaGreatF28
import Derived.Test.YtnieifdogllbfaaGreatF06
import Derived.BigQuiet
import Derived.Deep.Cut
import Derived.Deep.CutRange
import Derived.Deep.QuietTactic
namespace Go.Proofs.YtnieifdogllbfaaGreat
open Go.ChangeShapes Go.WideShapes Go.ChangeAt Go.RowKit
set_option linter.unusedVariables false
/-- the nodes of the main line after p. -/
def lineN (ns : List NodeZ) : Nat → Int → List Nat
 | 0, _ => []
 | f + 1, p => match kidsZ ns p with
  | [] => []
  | c :: _ => c :: lineN ns f (c : Int)
theorem line_firstP (ns : List NodeZ) : ∀ (f : Nat) (p : Int), firstP (treeF ns f p) = (lineN ns f p).map fun k => ((ndAt ns k).m, (ndAt ns k).comment)
 | 0, p => by rw [treeF, lineN, firstP]; rfl
 | f + 1, p => by
  rw [treeF, lineN]
  cases kidsZ ns p with
  | nil => rw [List.map_nil, firstP]; rfl
  | cons c t => rw [List.map_cons, firstP, firstPB, line_firstP ns f c]; rfl
theorem line_first (ns : List NodeZ) (f : Nat) (p : Int) : firstL (treeF ns f p) = mvOf ns (lineN ns f p) := by
 rw [← firstP_mv, line_firstP, List.map_map]; rfl
theorem line_lt (ns : List NodeZ) : ∀ (f : Nat) (p : Int), ∀ k ∈ lineN ns f p, k < ns.length
 | 0, _, k, h => by rw [lineN] at h; cases h
 | f + 1, p, k, h => by
  rw [lineN] at h
  cases hk : kidsZ ns p with
  | nil => rw [hk] at h; cases h
  | cons c t =>
   rw [hk] at h
   rcases List.mem_cons.1 h with rfl | h
   ·exact (kid_par (by rw [hk]; exact List.mem_cons_self ..)).2
   ·exact line_lt ns f c k h
def mainL (X : RecZ) : List Nat := lineN X.nodes (X.nodes.length + 1) (-1)
theorem main_trees (X : RecZ) : firstL (trees X) = mvOf X.nodes (mainL X) := line_first _ _ _
theorem main_treesP (X : RecZ) : firstP (trees X) = (mainL X).map fun k => ((ndAt X.nodes k).m, (ndAt X.nodes k).comment) := line_firstP _ _ _
/-- the state of line's loop. -/
structure LSt (ns : List NodeZ) (ds : List Nat) (f : Nat) (p : Int) : Prop where
 all : lineN ns (ns.length + 1) (-1) = ds ++ lineN ns f p
 fuel : (ns.length : Int) - p ≤ f
 len : (ds.length : Int) ≤ p + 1
 hi : p < ns.length
 lo : -1 ≤ p
theorem LSt.next {ns : List NodeZ} {ds : List Nat} {f c : Nat} {p : Int} {t : List Nat} (hb : Back ns ns.length) (h : LSt ns ds f p) (hk : kidsZ ns p = c :: t) : ∃ f', LSt ns (ds ++ [c]) f' (c : Int) := by
 have hc := kid_par (ns := ns) (p := p) (c := c) (by rw [hk]; exact List.mem_cons_self ..)
 have h1 := hb c hc.2
 rw [hc.1] at h1
 cases f with
 | zero => exact absurd h.fuel (by have := h.hi; omega)
 | succ f =>
  refine ⟨f, by rw [h.all, lineN, hk, List.append_assoc]; rfl, by have := h.fuel; omega, by have := h.len; rw [List.length_append]; simp; omega, by omega, by omega⟩
theorem LSt.last {ns : List NodeZ} {ds : List Nat} {f : Nat} {p : Int} (h : LSt ns ds f p) (hk : kidsZ ns p = []) : lineN ns (ns.length + 1) (-1) = ds := by
 rw [h.all]
 cases f with
 | zero => rw [lineN, List.append_nil]
 | succ f => rw [lineN, hk]; exact List.append_nil _
theorem kids_le (ns : List NodeZ) (p : Int) : (kidsZ ns p).length ≤ ns.length := kidsK_len ns p ns.length
set_option maxRecDepth 100000
set_option maxHeartbeats 8000000
theorem lineA_any (X : RecZ) (vt vn : Value) (w : World) (hx : RdX w X vt vn) (hb : Back X.nodes X.nodes.length) (hm : X.nodes.length ≤ 1000) :
  Calls Tryz.prog 37 #[recV X vt vn] w fun e w' => ∃ v', e = .returned v' ∧ w'.ownsRow w.heap.size 3 1 v' (mainL X).length (ints (nums (mainL X))) ∧ Below w.heap.size w w' := by
 obtain ⟨na, nc, rfl, h1, h2⟩ := hx.2.1.form
 obtain ⟨ta, tc, rfl, ht1, ht2⟩ := hx.1.form
 unfold maxLen at h2 ht2
 have HX := Lib.hid hx
 have HBK := Lib.hid hb
 clear hx hb
 unfold recV
 go_enter Tryz.func37, Tryz.ntmps37
 go_upto_region 1 with (fail)
 refine opn1 ?_
 intro w0 xbX hB0 hS0
 have HB := Lib.hid hB0
 obtain ⟨bX, hbX⟩ : ∃ bX, bX = w.heap.size := ⟨_, rfl⟩
 rw [← hbX] at xbX ⊢
 have hbX1 : w.heap.size ≤ bX := by omega
 have HbX := Lib.hid xbX
 have hS : bX < w0.heap.size := by omega
 clear hB0 hS0 xbX hbX
 go_upto_region 2 with (fail)
 refine wp_region_lit ?_
 refine wpList_load_box (by rfl) 30 (.tmp 1) (by rfl) bX (by rfl) HbX.out Tryz.underlying30 (by rfl) (by kernel_rfl) ?_
 have HK := Lib.hid (Kids_any X (.slice ta X.tags.length tc) (.slice na X.nodes.length nc) (-1) w0 (HX.out.below HB.out (Nat.le_refl _)) hm)
 unfold recV at HK
 go_wp2_with fail
 refine HK.out.mono ?_
 rintro e w1 ⟨v1, rfl, ho1, hb1⟩
 obtain ⟨ka, kc, rfl⟩ := own_form2 ho1
 have HO1 := Lib.hid (own_base ho1 (show bX + 1 ≤ w0.heap.size by omega))
 have HB1 := Lib.hid (HB.out.trans (hb1.mono HB.out.size))
 have HX1 := Lib.hid (HbX.out.stays hb1)
 have HNil : Hid (w1.ownsRow (bX + 1) 3 1 (.slice none 0 0) ([] : List Nat).length (ints (nums []))) := Lib.hid (World.ownsRow_nil _ _ _ _)
 have HL0 : Hid (LSt X.nodes [] (X.nodes.length + 1) (-1)) := Lib.hid ⟨rfl, by omega, by simp, by omega, by omega⟩
 clear ho1 hb1 HK HB HbX hS
 go_wp2_with fail
 go_loopw [3, 4] (fun v3 v4 wr => ∃ (ds : List Nat) (f : Nat) (p : Int) (o3 o4 : Value), o3 = v3 ∧ o4 = v4 ∧ Hid (LSt X.nodes ds f p) ∧ ds.length ≤ X.nodes.length ∧ lenV v3 = ds.length ∧ Hid (wr.ownsRow (bX + 1) 3 1 o3 ds.length (ints (nums ds))) ∧ Hid (wr.ownsRow (bX + 1) 3 1 o4 (kidsZ X.nodes p).length (ints (nums (kidsZ X.nodes p)))) ∧ Hid (o3.ownBlock = none ∨ o3.ownBlock ≠ o4.ownBlock) ∧ Hid (Below w.heap.size w wr) ∧ Hid (Box wr bX [.slice ta X.tags.length tc, .string X.comment, .slice na X.nodes.length nc, .int .i64 X.result] 30)) (fun v _ _ => X.nodes.length + 1 - lenV v)
 case atStart => exact ⟨[], _, -1, _, _, rfl, rfl, HL0, Nat.zero_le _, rfl, HNil, HO1, Lib.hid (.inl rfl), HB1, HX1⟩
 case round =>
  obtain ⟨ds, f, p, o3, o4, rfl, rfl, HL, hdl, hlv, HO3, HO4, HNE, HBr, HXr⟩ := hrel
  clear HNil HL0 HO1 HB1 HX1
  obtain ⟨da, dc, rfl⟩ := own_form2 HO3.out
  obtain ⟨qa, qc, rfl⟩ := own_form2 HO4.out
  have hkl := kids_le X.nodes p
  cases hkz : kidsZ X.nodes p with
  | nil =>
   have HLL := Lib.hid (HL.out.last hkz)
   rw [hkz] at HO4
   clear hkz
   have hl0 : ([] : List Nat).length = 0 := rfl
   go_wp2_with fail
   go_ret
   exact ⟨_, rfl, by unfold mainL; rw [HLL.out]; exact own_base HO3.out (by omega), HBr.out⟩
  | cons c t =>
   obtain ⟨f', hL'⟩ := HL.out.next HBK.out hkz
   have hdl' : (ds ++ [c]).length ≤ X.nodes.length := by have h1 := hL'.len; have h2 := hL'.hi; omega
   have HL' := Lib.hid hL'
   rw [hkz] at HO4 hkl
   have HKZ := Lib.hid hkz
   clear hkz hL' HL
   obtain ⟨G, qc', hG⟩ := own_some HO4.out (by simp)
   obtain ⟨rfl, rfl⟩ : qa = some ⟨G, 0, none⟩ ∧ qc = qc' := by simpa using hG
   clear hG
   have q0 : wr.cell? ⟨G, 0, none⟩ = some (.int .i64 (c : Int)) := by rw [HO4.out.cellAt 0 (by simp)]; rfl
   have hGl := HO4.out.lt G rfl
   have hs := HBr.out.size
   have hlc : (c :: t).length = t.length + 1 := rfl
   rw [hlc] at HO4 hkl ⊢
   have hrs : bX + 1 ≤ wr.heap.size := HXr.out.lt
   have hdl2 : ds.length + 1 ≤ X.nodes.length := by rw [List.length_append] at hdl'; exact hdl'
   go_wp2_with (at_builtin; refine app_new 23 3 (.int .i64 0) 1 8 info3 Tryz.underlying23 rfl (by decide) (by rfl) _ _ (by rfl) (bX + 1) _ ds.length (ints (nums ds)) [.int .i64 (c : Int)] wr HO3.out hrs rfl one_int (by omega) (by omega) (by rfl) (by rfl) ?_)
   intro g3 cap3 w3 hown3 hkeep3 hgr3
   have HB3 := Lib.hid (hkeep3.below HBr.out (by omega))
   have HX3 := Lib.hid ((HXr.out.alloc (.cells #[.int .i64 (c : Int)] 3)).grown hgr3 (fun e => by have := (HO3.out.lt bX e.symm).1; omega))
   have hq3 : w3.heap[G]? = wr.heap[G]? := by
    have h1 := hgr3.block G (by simp; omega) (fun e => by
     rcases HNE.out with h | h
     ·rw [h] at e; cases e
     ·exact h e.symm)
    rw [h1]; exact Below.heap_alloc wr _ G hGl.2
   have q3 : w3.cell? ⟨G, 0, none⟩ = some (.int .i64 (c : Int)) := (World.cell?_of_block hq3).trans q0
   have HO3' : Hid (w3.ownsRow (bX + 1) 3 1 (.slice (some ⟨g3, 0, none⟩) (ds.length + 1) cap3) (ds ++ [c]).length (ints (nums (ds ++ [c])))) := Lib.hid (by
    rw [← nums_snoc, List.length_append]
    exact hown3)
   have hG3 : G < w3.heap.size := by have := hgr3.size; simp at this; omega
   clear hown3 hkeep3 hgr3 HO3 HBr HXr HNE q0 hq3 HO4
   obtain ⟨wq, rfl⟩ : ∃ wq : World, wq = w3 := ⟨_, rfl⟩
   have hc0 : (0 : Int) < ((c :: t).length : Int) := by simp
   go_upto_region 4 with (fail)
   have BXz := HX3.out.drew
   have qz : wq.drew.cell? ⟨G, 0, none⟩ = some (.int .i64 (c : Int)) := q3
   have Lz : Below w.heap.size w wq.drew := HB3.out.drew
   refine wp_region_noPanic ?_
   refine beginL (S := (fun w' => w'.cell? ⟨bX, 0, none⟩ = some (.slice ta X.tags.length tc) ∧ w'.cell? ⟨bX, 1, none⟩ = some (.string X.comment) ∧ w'.cell? ⟨bX, 2, none⟩ = some (.slice na X.nodes.length nc) ∧ w'.cell? ⟨bX, 3, none⟩ = some (.int .i64 X.result) ∧ w'.cell? ⟨G, 0, none⟩ = some (.int .i64 (c : Int)))) (L := []) (by kernel_rfl) ⟨BXz.cell 0 rfl, BXz.cell 1 rfl, BXz.cell 2 rfl, BXz.cell 3 rfl, qz⟩ (fun hHeld => ?_)
   refine tkL 0 ?_
   refine tkW 1 ?_
   refine tkW 2 ?_
   refine tkL 3 ?_
   refine cnL 4 fun K hK => ?_
   go_simp
   have hk := Kids_any X (.slice ta X.tags.length tc) (.slice na X.nodes.length nc) (c : Int) wq.drew (HX.out.below Lz (Nat.le_refl _)) hm
   unfold recV at hk
   refine hk.mono ?_
   rintro e w4 ⟨v4, rfl, ho4, hb4⟩
   obtain ⟨ra, rc, rfl⟩ := own_form2 ho4
   have BX4 := BXz.stays hb4
   have q4 : w4.cell? ⟨G, 0, none⟩ = some (.int .i64 (c : Int)) := (hb4.cell (p := ⟨G, 0, none⟩) (by simpa using hG3)).trans qz
   refine hK.out _ _ ⟨BX4.cell 0 rfl, BX4.cell 1 rfl, BX4.cell 2 rfl, BX4.cell 3 rfl, q4⟩ (fun hHeld => ?_)
   clear hK K
   refine tkW 5 ?_
   refine dnN ?_
   have hwz : wq.drew.heap.size = wq.heap.size := by simp
   have HB4 := Lib.hid (below_trans Lz hb4 Lz.size)
   have HX4 := Lib.hid BX4
   have HO34 := Lib.hid (own_of_block (w' := w4) HO3'.out (fun g hg => hb4.block g (by rw [hwz]; exact (HO3'.out.lt g hg).2)))
   have HO44 := Lib.hid (own_base ho4 (show bX + 1 ≤ wq.drew.heap.size by have := HX3.out.lt; omega))
   have HNE4 : Hid ((Value.slice (some ⟨g3, 0, none⟩) (ds.length + 1) cap3).ownBlock = none ∨ (Value.slice (some ⟨g3, 0, none⟩) (ds.length + 1) cap3).ownBlock ≠ (Value.slice ra (kidsZ X.nodes (c : Int)).length rc).ownBlock) := Lib.hid (.inr (fun e => by have h1 := ho4.lt g3 e.symm; have h2 := (HO3'.out.lt g3 rfl).2; omega))
   clear hb4 ho4 BX4 BXz q4 qz Lz hHeld hk HO3' HX3 HB3 q3 hwz
   go_wp2_with fail
   go_roundw
   case rel => exact ⟨ds ++ [c], f', (c : Int), _, _, rfl, rfl, HL', hdl', by rw [List.length_append]; rfl, HO34, HO44, HNE4, HB4, HX4⟩
   case measure =>
    show X.nodes.length + 1 - (ds.length + 1) < X.nodes.length + 1 - ds.length
    omega
end Go.Proofs.YtnieifdogllbfaaGreat
namespace Go.Proofs.YtnieifdogllbfaaGreat
open Go.ChangeShapes Go.WideShapes Go.ChangeAt Go.RowKit
set_option linter.unusedVariables false
theorem line_le (ns : List NodeZ) (hb : Back ns ns.length) : ∀ (f : Nat) (p : Int), -1 ≤ p → p < ns.length → ((lineN ns f p).length : Int) ≤ ns.length - 1 - p
 | 0, p, h1, h2 => by rw [lineN]; simp; omega
 | f + 1, p, h1, h2 => by
  rw [lineN]
  cases hk : kidsZ ns p with
  | nil => simp; omega
  | cons c t =>
   have hc := kid_par (ns := ns) (p := p) (c := c) (by rw [hk]; exact List.mem_cons_self ..)
   have h3 := hb c hc.2
   have := line_le ns hb f c (by omega) (by omega)
   simp only [List.length_cons]; omega
theorem main_le (X : RecZ) (hb : Back X.nodes X.nodes.length) : (mainL X).length ≤ X.nodes.length := by
 have := line_le X.nodes hb (X.nodes.length + 1) (-1) (by omega) (by omega)
 unfold mainL; omega
theorem main_lt (X : RecZ) {k c : Nat} (h : (mainL X)[k]? = some c) : c < X.nodes.length := line_lt _ _ _ c (List.mem_of_getElem? h)
theorem take_mv {ns : List NodeZ} {l : List Nat} {k c : Nat} (h : l[k]? = some c) : mvOf ns (l.take (k + 1)) = mvOf ns (l.take k) ++ [(ndAt ns c).m] := by
 rw [List.take_add_one, h]; unfold mvOf; rw [List.map_append]; rfl
theorem nums_at {l : List Nat} {i c : Nat} (h : l[i]? = some c) : (ints (nums l))[i]? = some (.int .i64 (c : Int)) := by
 have hi := (List.getElem?_eq_some_iff.1 h).1
 rw [nums_get hi, List.getD_eq_getElem?_getD, h]; rfl
def MainPost (X : RecZ) (w : World) (e : Ending) (w' : World) : Prop := ∃ a c, e = .returned (.tuple #[.slice a (firstL (trees X)).length c, .int .i64 0]) ∧ RdL moveEl w' (.slice a (firstL (trees X)).length c) (firstL (trees X)) ∧ Below w.heap.size w w'
set_option maxRecDepth 100000
set_option maxHeartbeats 8000000
theorem Main_ok (HS : SortMvSaid) (R : RulesZ) (vp vs ve : Value) (X : RecZ) (vtx vnx : Value) (w : World) (hr : RdR w R vp vs ve) (hnm : R.name.size ≤ maxLen) (hx : RdX w X vtx vnx) (he : recErr R X = 0) :
  Calls Tryz.prog 16 #[(.agg #[.string R.name, .int .i64 R.width, .int .i64 R.height, vp, vs, .bool R.falls, .bool R.keeps, ve, .int .i64 R.blocked, .int .i64 R.quiet, .int .i64 R.rept]), recV X vtx vnx] w (MainPost X w) := by
 have HSh := Lib.hid HS
 have HR := Lib.hid hr
 have HN := Lib.hid hnm
 have HX := Lib.hid hx
 have HE := Lib.hid he
 have h200 := (rec_nodes he).2.2
 have HBK := Lib.hid (rec_nodes he).2.1.back
 obtain ⟨na, nc, rfl, hn1, hn2⟩ := hx.2.1.form
 obtain ⟨ta, tc, rfl, ht1, ht2⟩ := hx.1.form
 unfold maxLen at hn2 ht2
 clear hr hnm hx HS he
 unfold recV
 go_enter Tryz.func16, Tryz.ntmps16
 go_upto_region 1 with (fail)
 refine opn2 ?_
 intro w0 xbR xbX hB0 hS0
 have HB := Lib.hid hB0
 obtain ⟨bX, hbX⟩ : ∃ bX, bX = w.heap.size + 1 := ⟨_, rfl⟩
 rw [← hbX] at xbX ⊢
 obtain ⟨bR, hbR⟩ : ∃ bR, bR = w.heap.size := ⟨_, rfl⟩
 rw [← hbR] at xbR ⊢
 have hbR1 : w.heap.size ≤ bR := by omega
 have HbR := Lib.hid xbR
 have hbX1 : w.heap.size ≤ bX := by omega
 have hbRbX : bR < bX := by omega
 have HbX := Lib.hid xbX
 have hS : bX < w0.heap.size := by omega
 clear hB0 hS0 xbR hbR xbX hbX
 refine wp_region_lit ?_
 refine wpList_load_box (by rfl) 26 (.tmp 2) (by rfl) bR (by rfl) HbR.out Tryz.underlying26 (by rfl) (by kernel_rfl) ?_
 refine wpList_load_box (by rfl) 30 (.tmp 3) (by rfl) bX (by rfl) HbX.out Tryz.underlying30 (by rfl) (by kernel_rfl) ?_
 have HC := Lib.hid (recCheck_any HSh.out R vp vs ve X (.slice ta X.tags.length tc) (.slice na X.nodes.length nc) w0 (HR.out.below HB.out (Nat.le_refl _)) HN.out (HX.out.below HB.out (Nat.le_refl _)))
 rw [HE.out] at HC
 unfold recV at HC
 go_wp2_with fail
 refine HC.out.mono ?_
 rintro e w1 ⟨rfl, hb1⟩
 have HB1 := Lib.hid (HB.out.trans (hb1.mono HB.out.size))
 have HX1 := Lib.hid (HbX.out.stays hb1)
 clear hb1 HC HbX HbR HB hS
 go_upto_region 5 with (fail)
 have HLn := Lib.hid (lineA_any X (.slice ta X.tags.length tc) (.slice na X.nodes.length nc) w1 (HX.out.below HB1.out (Nat.le_refl _)) HBK.out (by omega))
 unfold recV at HLn
 refine wp_region_lit ?_
 refine wpList_load_box (by rfl) 30 (.tmp 3) (by rfl) bX (by rfl) HX1.out Tryz.underlying30 (by rfl) (by kernel_rfl) ?_
 go_wp2_with fail
 refine HLn.out.mono ?_
 rintro e w2 ⟨vl, rfl, hol, hbl⟩
 obtain ⟨la, lc, rfl⟩ := own_form2 hol
 have HOL := Lib.hid (own_base hol HB1.out.size)
 have HB2 := Lib.hid (below_trans HB1.out hbl HB1.out.size)
 have HX2 := Lib.hid (HX1.out.stays hbl)
 have hll := main_le X HBK.out
 have HNil : Hid (w2.ownsRow w2.heap.size 68 3 (.slice none 0 0) 0 (flatM (mvOf X.nodes ((mainL X).take 0)))) := Lib.hid (World.ownsRow_nil _ _ _ _)
 have hxl2 := HX2.out.lt
 have hsz2 := HB2.out.size
 clear hol hbl HLn HB1 HX1
 go_wp2_with fail
 go_loopw [19, 7] (fun v19 v7 wr => ∃ (k : Nat) (o7 : Value), o7 = v7 ∧ v19 = .int .i64 k ∧ k ≤ (mainL X).length ∧ Hid (wr.ownsRow w2.heap.size 68 3 o7 k (flatM (mvOf X.nodes ((mainL X).take k)))) ∧ Hid (Below w2.heap.size w2 wr)) (fun v _ _ => (mainL X).length - (intOf v).toNat)
 case atStart => exact ⟨0, _, rfl, rfl, Nat.zero_le _, HNil, Lib.hid (Below.refl _ _)⟩
 case round =>
  obtain ⟨k, o7, rfl, rfl, hk, HO, HBr⟩ := hrel
  have hsr := HBr.out.size
  by_cases hlt : (k : Int) < ((mainL X).length : Int)
  ·obtain ⟨c, hc⟩ : ∃ c, (mainL X)[k]? = some c := ⟨_, List.getElem?_eq_getElem (by omega)⟩
   have hcl := main_lt X hc
   obtain ⟨G, lc', hG⟩ := own_some HOL.out (by omega)
   obtain ⟨rfl, rfl⟩ : la = some ⟨G, 0, none⟩ ∧ lc = lc' := by simpa using hG
   clear hG
   have hGl := HOL.out.lt G rfl
   have q0 : wr.cell? ⟨G, k, none⟩ = some (.int .i64 (c : Int)) := by rw [HBr.out.cell (p := ⟨G, k, none⟩) hGl.2, HOL.out.cellAt k (by omega)]; exact nums_at hc
   have hGr : G < wr.heap.size := by omega
   obtain ⟨g, o, rfl, hg, hcs⟩ := nodes_some HX.out.2.1 (by omega)
   obtain ⟨-, e1, e2, e3, -, -⟩ := hcs c hcl
   have c1 := (HBr.out.cell (p := ⟨g, o + c * 5 + 1, none⟩) (by show g < w2.heap.size; omega)).trans ((HB2.out.cell (p := ⟨g, o + c * 5 + 1, none⟩) hg).trans e1)
   have c2 := (HBr.out.cell (p := ⟨g, o + c * 5 + 2, none⟩) (by show g < w2.heap.size; omega)).trans ((HB2.out.cell (p := ⟨g, o + c * 5 + 2, none⟩) hg).trans e2)
   have c3 := (HBr.out.cell (p := ⟨g, o + c * 5 + 3, none⟩) (by show g < w2.heap.size; omega)).trans ((HB2.out.cell (p := ⟨g, o + c * 5 + 3, none⟩) hg).trans e3)
   have x2 := (HBr.out.cell (p := ⟨bX, 2, none⟩) hxl2).trans (HX2.out.cell 2 rfl)
   have xl : bX < wr.heap.size := by omega
   have hgr : g < wr.heap.size := by omega
   have hci : (c : Int) < (X.nodes.length : Int) := by omega
   have HTk := Lib.hid (take_mv (ns := X.nodes) hc)
   clear hcs e1 e2 e3 hc
   generalize (ndAt X.nodes c).m = mv at *
   obtain ⟨oa, oc, rfl⟩ := own_form2 HO.out
   go_wp2_with (at_builtin; refine app_new 43 68 (.agg #[.int .i64 0, .int .i64 0, .int .i64 0]) 3 24 infoMoveR Tryz.underlying43 rfl (by decide) (by rfl) _ _ (by rfl) w2.heap.size _ k (flatM (mvOf X.nodes ((mainL X).take k))) [.int .i64 mv.src, .int .i64 mv.dst, .int .i64 mv.piece] wr HO.out hsr rfl three_ints (by omega) (by omega) (by rfl) (by rfl) ?_)
   intro g3 cap3 w3 hown3 hkeep3 hgr3
   have HB3 := Lib.hid (hkeep3.below HBr.out (Nat.le_refl _))
   have HO3 : Hid (w3.ownsRow w2.heap.size 68 3 (.slice (some ⟨g3, 0, none⟩) (k + 1) cap3) (k + 1) (flatM (mvOf X.nodes ((mainL X).take (k + 1))))) := Lib.hid (by
    rw [HTk.out, ← flatM_append]
    exact hown3)
   clear hown3 hkeep3 hgr3 x2 c1 c2 c3 q0
   go_wp2_with fail
   go_roundw
   case rel => exact ⟨k + 1, _, rfl, by go_num, by omega, HO3, HB3⟩
   case measure => simp [intOf]; omega
  ·have hkk : k = (mainL X).length := by omega
   have HFL : Hid (firstL (trees X) = mvOf X.nodes ((mainL X).take k)) := Lib.hid (by rw [main_trees, hkk, List.take_length])
   have HLk : Hid (k = (firstL (trees X)).length) := Lib.hid (by rw [main_trees, hkk]; unfold mvOf; rw [List.length_map])
   clear hkk
   obtain ⟨oa, oc, rfl⟩ := own_form2 HO.out
   go_wp2_with fail
   refine bodyPost_ret (v := .tuple #[.slice oa k oc, .int .i64 0]) (by simp [results, Tryz.results16, go_sem]) rfl ?_
   have hrd : RdL moveEl wr (.slice oa k oc) (firstL (trees X)) := rdM_of_own (by have h := HO.out; rw [← HFL.out] at h; rw [← HLk.out]; exact h)
   have hkk := HLk.out
   exact ⟨oa, oc, by rw [← hkk], by rw [← hkk]; exact hrd, below_trans HB2.out HBr.out HB2.out.size⟩
end Go.Proofs.YtnieifdogllbfaaGreat
namespace Go.Proofs.YtnieifdogllbfaaGreat
open Go.ChangeShapes Go.WideShapes Go.ChangeAt Go.RowKit
set_option linter.unusedVariables false
theorem plainN_snoc : ∀ (l : List (MoveZ × ByteArray)) (x : MoveZ × ByteArray) (p : Int), plainN (l ++ [x]) p = plainN l p ++ [⟨p + l.length, x.1, x.2⟩]
 | [], x, p => by rw [List.nil_append, plainN, plainN, plainN]; simp
 | y :: l, x, p => by
  rw [List.cons_append, plainN, plainN, plainN_snoc l x (p + 1)]
  simp only [List.length_cons, List.cons_append]
  rw [show p + 1 + (l.length : Int) = p + ((l.length + 1 : Nat) : Int) by omega]
def prs (X : RecZ) (l : List Nat) : List (MoveZ × ByteArray) := l.map fun k => ((ndAt X.nodes k).m, (ndAt X.nodes k).comment)
theorem prs_take {X : RecZ} {l : List Nat} {k c : Nat} (h : l[k]? = some c) : plainN (prs X (l.take (k + 1))) (-1) = plainN (prs X (l.take k)) (-1) ++ [⟨(k : Int) - 1, (ndAt X.nodes c).m, (ndAt X.nodes c).comment⟩] := by
 have hk := (List.getElem?_eq_some_iff.1 h).1
 rw [List.take_add_one, h]
 unfold prs
 rw [List.map_append]
 show plainN (_ ++ [_]) (-1) = _
 rw [plainN_snoc, List.length_map, List.length_take, Nat.min_eq_left (by omega)]
 rw [show (-1 : Int) + (k : Int) = (k : Int) - 1 by omega]
theorem prs_len (X : RecZ) (l : List Nat) (k : Nat) (h : k ≤ l.length) : (plainN (prs X (l.take k)) (-1)).length = k := by
 rw [plainN_len]; unfold prs; rw [List.length_map, List.length_take]; omega
def plainX (X : RecZ) : RecZ := { X with nodes := plainN (firstP (trees X)) (-1) }
def plainK (X : RecZ) (k : Nat) : RecZ := { X with nodes := plainN (prs X ((mainL X).take k)) (-1) }
theorem five_one {a b c d : Int} {s : ByteArray} : ∀ u ∈ ([.int .i64 a, .int .i64 b, .int .i64 c, .int .i64 d, .string s] : List Value), u.oneCell' = true := by
 intro u hu
 simp only [List.mem_cons, List.not_mem_nil, or_false] at hu
 rcases hu with rfl | rfl | rfl | rfl | rfl <;> rfl
/-- rows of two types lie in two blocks. -/
theorem row_row_ne {w : World} {b b' g g' n n' sz sz' : Nat} {e e' : TypeId} {v v' : Value} {xs xs' : List Value} (h : w.ownsRow b e sz v n xs) (hg : v.ownBlock = some g) (h' : w.ownsRow b' e' sz' v' n' xs') (hg' : v'.ownBlock = some g') (hne : e ≠ e') : g ≠ g' := by
 rintro rfl
 rcases h.2 with ⟨rfl, -⟩ | ⟨g1, c, cur, rfl, -, hk, -⟩
 ·cases hg
 ·rcases h'.2 with ⟨rfl, -⟩ | ⟨g2, c', cur', rfl, -, hk', -⟩
  ·cases hg'
  ·simp only [Value.ownBlock, Option.some.injEq] at hg hg'
   subst hg; subst hg'
   rw [hk] at hk'
   simp only [Option.some.injEq, Obj.cells.injEq] at hk'
   exact hne hk'.2.1
theorem row_box_ne2 {w : World} {b g g' n sz : Nat} {e t : TypeId} {v : Value} {xs cs : List Value} (h : w.ownsRow b e sz v n xs) (hg : v.ownBlock = some g) (hb : Box w g' cs t) (hne : t ≠ e) : g ≠ g' := by
 rintro rfl
 rcases h.2 with ⟨rfl, -⟩ | ⟨g2, c, cur, rfl, -, hk, -⟩
 ·cases hg
 ·simp only [Value.ownBlock, Option.some.injEq] at hg
  subst hg
  have h1 : w.heap[g2]? = some (.cells cs.toArray t (0, 0)) := hb
  rw [hk] at h1
  simp only [Option.some.injEq, Obj.cells.injEq] at h1
  exact hne h1.2.1.symm
/-- the state of Plain's loop: the record that grows. -/
structure PlS (bo : Nat) (wb wr : World) (Z : RecZ) (vt vk : Value) : Prop where
 old : Below wb.heap.size wb wr
 bx : Box wr bo [vt, .string Z.comment, vk, .int .i64 Z.result] 30
 own : OwnX wb.heap.size wr Z vt vk
 lo : wb.heap.size ≤ bo
 ne : ∀ g, (vt.ownBlock = some g ∨ vk.ownBlock = some g) → g ≠ bo
theorem PlS.stays {bo : Nat} {wb wr wx : World} {Z : RecZ} {vt vk : Value} (h : PlS bo wb wr Z vt vk) (hb : Below wr.heap.size wr wx) : PlS bo wb wx Z vt vk :=
 ⟨below_trans h.old hb h.old.size, h.bx.stays hb, h.own.move (fun g hg _ => hb.block g hg), h.lo, h.ne⟩
theorem PlS.grow {bo : Nat} {wb wr wx : World} {Z : RecZ} {vt vk : Value} {o : Obj} (h : PlS bo wb wr Z vt vk) (hg : (wr.alloc o).grownBy wx vk.ownBlock) :
  Box wx bo [vt, .string Z.comment, vk, .int .i64 Z.result] 30 ∧ Below wb.heap.size wb wx := by
 have hs := hg.size
 have hsa : (wr.alloc o).heap.size = wr.heap.size + 1 := by simp
 have hk : ∀ k, k < wr.heap.size → some k ≠ vk.ownBlock → wx.heap[k]? = wr.heap[k]? := fun k h1 h2 => (hg.block k (by omega) h2).trans (Below.heap_alloc wr o k h1)
 have s0 := h.old.size
 refine ⟨(hk bo h.bx.lt (fun e => h.ne bo (.inr e.symm) rfl)).trans h.bx, ⟨hg.os.trans h.old.os, hg.tape.trans h.old.tape, hg.output.trans h.old.output, by omega, fun k h1 => ?_⟩⟩
 rw [hk k (by omega) (fun e => by have := (h.own.lt k (.inr e.symm)).1; omega)]
 exact h.old.block k h1
theorem PlS.next {bo : Nat} {wb wr wx : World} {Z : RecZ} {vt vk vk' : Value} {o : Obj} {ns' : List NodeZ} (h : PlS bo wb wr Z vt vk) (hg : (wr.alloc o).grownBy wx vk.ownBlock) (hr : wx.ownsRow wb.heap.size 70 5 vk' ns'.length (flatN ns')) (hs : ∀ x ∈ ns', x.comment.size ≤ maxLen)
  (hat : ∀ g, vk'.ownBlock = some g → g ≠ bo) : PlS bo wb (wx.setCell ⟨bo, 2, none⟩ vk') { Z with nodes := ns' } vt vk' := by
 obtain ⟨hb1, hb2⟩ := h.grow hg
 have hsa : (wr.alloc o).heap.size = wr.heap.size + 1 := by simp
 have hne' : ∀ g, (vt.ownBlock = some g ∨ vk'.ownBlock = some g) → g ≠ bo := fun g h1 => by
  rcases h1 with h1 | h1
  ·exact h.ne g (.inl h1)
  ·exact hat g h1
 refine ⟨hb2.setCell h.lo _, hb1.set 2 vk', ?_, h.lo, hne'⟩
 obtain ⟨ts, h1, h2⟩ := h.own.tags
 refine ⟨⟨ts, own_of_block h1 (fun g hg' => ?_), h2⟩, own_of_block hr (fun g hg' => Below.heap_setCell wx _ _ g (by exact hne' g (.inr hg'))), hs, h.own.cs⟩
 have hl := h1.lt g hg'
 rw [Below.heap_setCell wx _ _ g (by exact hne' g (.inl hg'))]
 rw [hg.block g (by omega) (fun e => row_row_ne h1 hg' h.own.nodes e.symm (by decide) rfl)]
 exact Below.heap_alloc wr o g hl.2
def PlainPost (X : RecZ) (w : World) (e : Ending) (w' : World) : Prop := ∃ vt vn, e = .returned (.tuple #[recV (plainX X) vt vn, .int .i64 0]) ∧ RdX w' (plainX X) vt vn ∧ Below w.heap.size w w'
set_option maxRecDepth 100000
set_option maxHeartbeats 8000000
theorem Plain_ok (HS : SortMvSaid) (R : RulesZ) (vp vs ve : Value) (X : RecZ) (vtx vnx : Value) (w : World) (hr : RdR w R vp vs ve) (hnm : R.name.size ≤ maxLen) (hx : RdX w X vtx vnx) (he : recErr R X = 0) :
  Calls Tryz.prog 17 #[(.agg #[.string R.name, .int .i64 R.width, .int .i64 R.height, vp, vs, .bool R.falls, .bool R.keeps, ve, .int .i64 R.blocked, .int .i64 R.quiet, .int .i64 R.rept]), recV X vtx vnx] w (PlainPost X w) := by
 have HSh := Lib.hid HS
 have HR := Lib.hid hr
 have HN := Lib.hid hnm
 have HX := Lib.hid hx
 have HE := Lib.hid he
 have h200 := (rec_nodes he).2.2
 have HBK := Lib.hid (rec_nodes he).2.1.back
 obtain ⟨na, nc, rfl, hn1, hn2⟩ := hx.2.1.form
 obtain ⟨ta, tc, rfl, ht1, ht2⟩ := hx.1.form
 unfold maxLen at hn2 ht2
 clear hr hnm hx HS he
 unfold recV
 go_enter Tryz.func17, Tryz.ntmps17
 go_upto_region 1 with (fail)
 refine opn3 ?_
 intro w0 xbR xbX xbO hB0 hS0
 have HB := Lib.hid hB0
 obtain ⟨bO, hbO⟩ : ∃ bO, bO = w.heap.size + 1 + 1 := ⟨_, rfl⟩
 rw [← hbO] at xbO ⊢
 obtain ⟨bX, hbX⟩ : ∃ bX, bX = w.heap.size + 1 := ⟨_, rfl⟩
 rw [← hbX] at xbX ⊢
 obtain ⟨bR, hbR⟩ : ∃ bR, bR = w.heap.size := ⟨_, rfl⟩
 rw [← hbR] at xbR ⊢
 have hbR1 : w.heap.size ≤ bR := by omega
 have HbR := Lib.hid xbR
 have hbX1 : w.heap.size ≤ bX := by omega
 have hbRbX : bR < bX := by omega
 have HbX := Lib.hid xbX
 have hbO1 : w.heap.size ≤ bO := by omega
 have hbRbO : bR < bO := by omega
 have hbXbO : bX < bO := by omega
 have HbO := Lib.hid xbO
 have hS : bO < w0.heap.size := by omega
 clear hB0 hS0 xbR hbR xbX hbX xbO hbO
 refine wp_region_lit ?_
 refine wpList_load_box (by rfl) 26 (.tmp 2) (by rfl) bR (by rfl) HbR.out Tryz.underlying26 (by rfl) (by kernel_rfl) ?_
 refine wpList_load_box (by rfl) 30 (.tmp 3) (by rfl) bX (by rfl) HbX.out Tryz.underlying30 (by rfl) (by kernel_rfl) ?_
 have HC := Lib.hid (recCheck_any HSh.out R vp vs ve X (.slice ta X.tags.length tc) (.slice na X.nodes.length nc) w0 (HR.out.below HB.out (Nat.le_refl _)) HN.out (HX.out.below HB.out (Nat.le_refl _)))
 rw [HE.out] at HC
 unfold recV at HC
 go_wp2_with fail
 refine HC.out.mono ?_
 rintro e w1 ⟨rfl, hb1⟩
 have HB1 := Lib.hid (HB.out.trans (hb1.mono HB.out.size))
 have HX1 := Lib.hid (HbX.out.stays hb1)
 have HO1 := Lib.hid (HbO.out.stays hb1)
 clear hb1 HC HbX HbR HB hS HbO
 go_upto_region 4 with (fail)
 refine wp_region_lit ?_
 refine wpList_load_box (by rfl) 30 (.tmp 3) (by rfl) bX (by rfl) HX1.out Tryz.underlying30 (by rfl) (by kernel_rfl) ?_
 have ht10 := (rec_cmt HE.out).2.2.2.2
 have hbr0 : BrsAt anyB tBr tPt w1.heap.size w1 [] [] := by rw [BrsAt]
 have HW := Lib.hid (with_any X (.slice ta X.tags.length tc) (.slice na X.nodes.length nc) [] (.slice none 0 0) [] w1.heap.size w1 (HX.out.below HB1.out (Nat.le_refl _)) hbr0 (World.ownsRow_nil _ _ _ _) (by decide) (by omega))
 unfold recV at HW
 clear hbr0
 go_wp2_with fail
 refine HW.out.mono ?_
 rintro e w2 ⟨vt2, vn2, rfl, OW2, hb2⟩
 obtain ⟨ts, hts, hte⟩ := OW2.tags
 obtain ⟨oa, oc, rfl⟩ : ∃ a c, vt2 = .slice a X.tags.length c := own_form2 hts
 obtain ⟨pa, pc, rfl⟩ : ∃ a c, vn2 = .slice a 0 c := own_form2 OW2.nodes
 have HB2 := Lib.hid (below_trans HB1.out hb2 HB1.out.size)
 have HX2 := Lib.hid (HX1.out.stays hb2)
 have HO2 := Lib.hid (HO1.out.stays hb2)
 have HR2 := Lib.hid hb2
 have HOW2 := Lib.hid OW2
 have hs12 := hb2.size
 rw [show recV (withX X []) (.slice oa X.tags.length oc) (.slice pa 0 pc) = .agg #[.slice oa X.tags.length oc, .string X.comment, .slice pa 0 pc, .int .i64 X.result] from rfl]
 clear hb2 OW2 hts hte HW
 go_upto_region 5 with (fail)
 have hba : Below w2.heap.size w2 (w2.alloc (.cells #[.slice oa X.tags.length oc, .string X.comment, .slice pa 0 pc, .int .i64 X.result] 30)) := (Below.refl _ _).alloc (Nat.le_refl _) _
 have hbo := Box.new w2 [.slice oa X.tags.length oc, .string X.comment, .slice pa 0 pc, .int .i64 X.result] 30
 obtain ⟨bo, hbo0⟩ : ∃ bo, bo = w2.heap.size := ⟨_, rfl⟩
 rw [← hbo0] at hbo ⊢
 have HPS : Hid (PlS bo w1 (w2.alloc (.cells #[.slice oa X.tags.length oc, .string X.comment, .slice pa 0 pc, .int .i64 X.result] 30)) (plainK X 0) (.slice oa X.tags.length oc) (.slice pa 0 pc)) := Lib.hid ⟨below_trans HR2.out hba HR2.out.size, hbo, HOW2.out.move (fun g hg _ => hba.block g hg), by omega, fun g hg => by have := HOW2.out.lt g hg; omega⟩
 have HX3 := Lib.hid (HX2.out.stays hba)
 have HB3 := Lib.hid (below_trans HB2.out hba HB2.out.size)
 generalize (w2.alloc (.cells #[.slice oa X.tags.length oc, .string X.comment, .slice pa 0 pc, .int .i64 X.result] 30)) = w3 at *
 clear hba hbo hbo0 HR2 HOW2 HB2 HX2
 have HLn := Lib.hid (lineA_any X (.slice ta X.tags.length tc) (.slice na X.nodes.length nc) w3 (HX.out.below HB3.out (Nat.le_refl _)) HBK.out (by omega))
 unfold recV at HLn
 refine wp_region_lit ?_
 refine wpList_load_box (by rfl) 30 (.tmp 3) (by rfl) bX (by rfl) HX3.out Tryz.underlying30 (by rfl) (by kernel_rfl) ?_
 go_wp2_with fail
 refine HLn.out.mono ?_
 rintro e w4 ⟨vl, rfl, hol, hbl⟩
 obtain ⟨la, lc, rfl⟩ := own_form2 hol
 have HOL := Lib.hid (own_base hol HB3.out.size)
 have HB4 := Lib.hid (below_trans HB3.out hbl HB3.out.size)
 have HX4 := Lib.hid (HX3.out.stays hbl)
 have hll := main_le X HBK.out
 have HPS4 := Lib.hid (HPS.out.stays hbl)
 have HLR : Hid (w4.ownsRow w1.heap.size 3 1 (.slice la (mainL X).length lc) (mainL X).length (ints (nums (mainL X)))) := Lib.hid (own_base hol (by have := HPS.out.old.size; exact this))
 clear hol hbl HLn HPS HB3 HX3 HOL
 go_wp2_with fail
 go_loopw [23] (fun v23 wr => ∃ (k : Nat) (vk : Value), v23 = .int .i64 k ∧ k ≤ (mainL X).length ∧ Hid (PlS bo w1 wr (plainK X k) (.slice oa X.tags.length oc) vk) ∧ Hid (wr.ownsRow w1.heap.size 3 1 (.slice la (mainL X).length lc) (mainL X).length (ints (nums (mainL X))))) (fun v _ => (mainL X).length - (intOf v).toNat)
 case atStart => exact ⟨0, _, rfl, Nat.zero_le _, HPS4, HLR⟩
 case round =>
  obtain ⟨k, vk, rfl, hk, HP, HL⟩ := hrel
  clear HPS4 HLR
  have hsr := HP.out.old.size
  have HBw := Lib.hid (below_trans HB1.out HP.out.old HB1.out.size)
  by_cases hlt : (k : Int) < ((mainL X).length : Int)
  ·obtain ⟨c, hc⟩ : ∃ c, (mainL X)[k]? = some c := ⟨_, List.getElem?_eq_getElem (by omega)⟩
   have hcl := main_lt X hc
   obtain ⟨G, lc', hG⟩ := own_some HL.out (by omega)
   obtain ⟨rfl, rfl⟩ : la = some ⟨G, 0, none⟩ ∧ lc = lc' := by simpa using hG
   clear hG
   have hGl := HL.out.lt G rfl
   have q0 : wr.cell? ⟨G, k, none⟩ = some (.int .i64 (c : Int)) := by rw [HL.out.cellAt k (by omega)]; exact nums_at hc
   have hGr : G < wr.heap.size := by omega
   obtain ⟨g, o, rfl, hg, hcs⟩ := nodes_some HX.out.2.1 (by omega)
   obtain ⟨e0, e1, e2, e3, e4, hcz⟩ := hcs c hcl
   have c0 := (HBw.out.cell (p := ⟨g, o + c * 5, none⟩) hg).trans e0
   have c1 := (HBw.out.cell (p := ⟨g, o + c * 5 + 1, none⟩) hg).trans e1
   have c2 := (HBw.out.cell (p := ⟨g, o + c * 5 + 2, none⟩) hg).trans e2
   have c3 := (HBw.out.cell (p := ⟨g, o + c * 5 + 3, none⟩) hg).trans e3
   have c4 := (HBw.out.cell (p := ⟨g, o + c * 5 + 4, none⟩) hg).trans e4
   have x2 := (HP.out.old.cell (p := ⟨bX, 2, none⟩) HX1.out.lt).trans (HX1.out.cell 2 rfl)
   have xl : bX < wr.heap.size := by have := HX1.out.lt; omega
   have hgr : g < wr.heap.size := by have := HBw.out.size; omega
   have hci : (c : Int) < (X.nodes.length : Int) := by omega
   have HTk := Lib.hid (prs_take (X := X) hc)
   have hwk : IntKind.i64.wrap ((k : Int) - 1) = (k : Int) - 1 := by rw [IntKind.wrap_i64]; omega
   have hkn : (plainK X k).nodes.length = k := prs_len X _ k hk
   have HKN := Lib.hid hkn
   have HCZ := Lib.hid hcz
   clear hcs e0 e1 e2 e3 e4 hc hkn hcz
   generalize (ndAt X.nodes c).m = mv at *
   generalize (ndAt X.nodes c).comment = cm at *
   generalize (ndAt X.nodes c).parent = pr at *
   have HOk : Hid (wr.ownsRow w1.heap.size 70 5 vk k (flatN (plainK X k).nodes)) := Lib.hid (by have h := HP.out.own.nodes; rw [HKN.out] at h; exact h)
   obtain ⟨va, vc, rfl⟩ := own_form2 HOk.out
   go_upto_region 9 with (fail)
   have hba : Below wr.heap.size wr (wr.alloc (.cells #[.int .i64 pr, .int .i64 mv.src, .int .i64 mv.dst, .int .i64 mv.piece, .string cm] 70)) := (Below.refl _ _).alloc (Nat.le_refl _) _
   have HYb := Lib.hid (Box.new wr [.int .i64 pr, .int .i64 mv.src, .int .i64 mv.dst, .int .i64 mv.piece, .string cm] 70)
   have HPa := Lib.hid (HP.out.stays hba)
   have HLa := Lib.hid (own_of_block (w' := wr.alloc (.cells #[.int .i64 pr, .int .i64 mv.src, .int .i64 mv.dst, .int .i64 mv.piece, .string cm] 70)) HL.out (fun g hg => hba.block g (HL.out.lt g hg).2))
   have HOa := Lib.hid (own_of_block (w' := wr.alloc (.cells #[.int .i64 pr, .int .i64 mv.src, .int .i64 mv.dst, .int .i64 mv.piece, .string cm] 70)) HOk.out (fun g hg => hba.block g (HOk.out.lt g hg).2))
   obtain ⟨by_, hby⟩ : ∃ by_, by_ = wr.heap.size := ⟨_, rfl⟩
   rw [← hby] at HYb ⊢
   have hsa : w1.heap.size ≤ (wr.alloc (.cells #[.int .i64 pr, .int .i64 mv.src, .int .i64 mv.dst, .int .i64 mv.piece, .string cm] 70)).heap.size := by simp; omega
   generalize (wr.alloc (.cells #[.int .i64 pr, .int .i64 mv.src, .int .i64 mv.dst, .int .i64 mv.piece, .string cm] 70)) = wa at *
   clear hba hby q0 x2 c0 c1 c2 c3 c4 HP HL HOk hGr hgr xl
   have y0 := HYb.out.cell 1 rfl
   have y1 := HYb.out.cell 2 rfl
   have y2 := HYb.out.cell 3 rfl
   have y3 := HYb.out.cell 4 rfl
   have yl := HYb.out.lt
   have b2 := HPa.out.bx.cell 2 rfl
   have bl := HPa.out.bx.lt
   go_upto_region 10 with (at_builtin; refine app_new 28 70 (.agg #[.int .i64 0, .int .i64 0, .int .i64 0, .int .i64 0, .string ⟨#[]⟩]) 5 48 infoNd Tryz.underlying28 rfl (by decide) (by rfl) _ _ (by rfl) w1.heap.size _ k (flatN (plainK X k).nodes) [.int .i64 ((k : Int) - 1), .int .i64 mv.src, .int .i64 mv.dst, .int .i64 mv.piece, .string cm] wa HOa.out hsa rfl five_one (by omega) (by omega) (by rfl) (by rfl) ?_; intro g3 cap3 w5 hown3 hkeep3 hgr3; have d2 := (HPa.out.grow (o := .cells #[.int .i64 ((k : Int) - 1), .int .i64 mv.src, .int .i64 mv.dst, .int .i64 mv.piece, .string cm] 70) hgr3).1.cell 2 rfl; have d2f := (HPa.out.grow (o := .cells #[.int .i64 ((k : Int) - 1), .int .i64 mv.src, .int .i64 mv.dst, .int .i64 mv.piece, .string cm] 70) hgr3).1.frozen 2; have d2l := (HPa.out.grow (o := .cells #[.int .i64 ((k : Int) - 1), .int .i64 mv.src, .int .i64 mv.dst, .int .i64 mv.piece, .string cm] 70) hgr3).1.lt)
   have hg1 : g3 ≠ bo := row_box_ne2 hown3 rfl (HPa.out.grow hgr3).1 (by decide)
   have hg2 : G ≠ bo := row_box_ne2 HLa.out rfl HPa.out.bx (by decide)
   have hg3 : some G ≠ (Value.slice va k vc).ownBlock := fun e => row_row_ne HLa.out rfl HOa.out e.symm (by decide) rfl
   have hsz5 := hgr3.size
   have hGa := (HLa.out.lt G rfl).2
   have hG5 : w5.heap[G]? = wa.heap[G]? := (hgr3.block G (by simp; omega) hg3).trans (Below.heap_alloc wa _ G hGa)
   have HPN : Hid (PlS bo w1 (w5.setCell ⟨bo, 2, none⟩ (.slice (some ⟨g3, 0, none⟩) (k + 1) cap3)) (plainK X (k + 1)) (.slice oa X.tags.length oc) (.slice (some ⟨g3, 0, none⟩) (k + 1) cap3)) := Lib.hid (by
    refine HPa.out.next (ns' := (plainK X (k + 1)).nodes) hgr3 ?_ (fun x hx => ?_) (fun g hg => by simp only [Value.ownBlock, Option.some.injEq] at hg; omega)
    ·have hl : (plainK X (k + 1)).nodes.length = k + 1 := prs_len X _ (k + 1) (by omega)
     rw [hl]
     show World.ownsRow _ _ _ _ _ _ (flatN (plainN (prs X ((mainL X).take (k + 1))) (-1)))
     rw [HTk.out, ← flatN_snoc]
     exact hown3
    ·have hx' : x ∈ plainN (prs X ((mainL X).take (k + 1))) (-1) := hx
     rw [HTk.out] at hx'
     rcases List.mem_append.1 hx' with hx' | hx'
     ·exact HPa.out.own.sz x hx'
     ·rw [List.mem_singleton] at hx'; subst hx'; exact HCZ.out)
   have HLN : Hid ((w5.setCell ⟨bo, 2, none⟩ (.slice (some ⟨g3, 0, none⟩) (k + 1) cap3)).ownsRow w1.heap.size 3 1 (.slice (some ⟨G, 0, none⟩) (mainL X).length lc) (mainL X).length (ints (nums (mainL X)))) := Lib.hid (own_of_block HLa.out (fun g hg => by
    obtain rfl : G = g := by simpa [Value.ownBlock] using hg
    rw [Below.heap_setCell w5 _ _ _ (by exact hg2)]
    exact hG5))
   generalize (w5.setCell ⟨bo, 2, none⟩ (.slice (some ⟨g3, 0, none⟩) (k + 1) cap3)) = w6 at *
   clear hg1 hg2 hg3 hsz5 hGa hG5 d2 d2f d2l hgr3 hkeep3 hown3 HPa HLa HOa HYb y0 y1 y2 y3 yl b2 bl hwk
   go_wp2_with fail
   go_roundw
   case rel => exact ⟨k + 1, _, by go_num, by omega, HPN, HLN⟩
   case measure => simp [intOf]; omega
  ·have hkk : k = (mainL X).length := by omega
   have HPX : Hid (plainK X k = plainX X) := Lib.hid (by unfold plainK plainX prs; rw [hkk, List.take_length, main_treesP])
   clear hkk
   rw [HPX.out] at HP
   obtain ⟨ga, gc, rfl⟩ : ∃ a c, vk = .slice a (plainX X).nodes.length c := own_form2 HP.out.own.nodes
   have HOr := Lib.hid ((HP.out.old.block bO HO1.out.lt).trans HO1.out)
   have HOr' : Hid (Box wr bO [.slice none 0 0, .string ⟨#[]⟩, .slice none 0 0, .int .i64 0] 30) := Lib.hid HOr.out
   have hOb : bO < w1.heap.size := HO1.out.lt
   clear HOr
   go_upto_region 11 with (fail)
   refine wp_region_lit ?_
   refine wpList_load_box (by rfl) 30 (.tmp 7) (by rfl) bo (by rfl) HP.out.bx Tryz.underlying30 (by rfl) (by kernel_rfl) ?_
   refine wpList_store_box (vs := [.slice oa X.tags.length oc, .string X.comment, .slice ga (plainX X).nodes.length gc, .int .i64 X.result]) (by rfl) 30 (.tmp 4) (.tmp 46) (by rfl) bO (by rfl) (by rfl) HOr'.out rfl (by kernel_rfl) (by rfl) ?_
   have HO2' := Lib.hid (HOr'.out.store (vs := [.slice oa X.tags.length oc, .string X.comment, .slice ga (plainX X).nodes.length gc, .int .i64 X.result]) rfl)
   have HB2' := Lib.hid (below_setCells HBw.out hbO1 0 [.slice oa X.tags.length oc, .string X.comment, .slice ga (plainX X).nodes.length gc, .int .i64 X.result])
   have HOW := Lib.hid (HP.out.own.move (w' := wr.setCells bO 0 [.slice oa X.tags.length oc, .string X.comment, .slice ga (plainX X).nodes.length gc, .int .i64 X.result]) (fun g _ hg => heap_setCells bO _ 0 wr g (by have := HP.out.own.lt g hg; omega)))
   generalize wr.setCells bO 0 [.slice oa X.tags.length oc, .string X.comment, .slice ga (plainX X).nodes.length gc, .int .i64 X.result] = w7 at *
   go_wp2_with fail
   exact bodyPost_ret (results_box rfl (by rfl) (by rfl) HO2'.out Tryz.underlying30 (by rfl) (by kernel_rfl)) rfl ⟨_, _, rfl, HOW.out.rd, HB2'.out⟩
end Go.Proofs.YtnieifdogllbfaaGreat

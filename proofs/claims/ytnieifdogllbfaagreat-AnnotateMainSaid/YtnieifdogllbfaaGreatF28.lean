/- An8, AnW. -/
import Derived.Test.YtnieifdogllbfaaGreatF27
import Derived.Test.YtnieifdogllbfaaGreatF06
import Derived.BigQuiet
import Derived.Deep.Cut
import Derived.Deep.CutRange
import Derived.Deep.QuietTactic
import Derived.Test.YtnieifdogllbfaaGreatF20
namespace Go.Proofs.YtnieifdogllbfaaGreat
open Go.ChangeShapes Go.WideShapes Go.ChangeAt Go.RowKit
set_option linter.unusedVariables false
/-- those after p, the one of D first. -/
def ordD (ns : List NodeZ) (D : List Nat) (p : Int) : List Nat :=
 match D.find? (fun k => (ndAt ns k).parent == p) with
 | some c => c :: (kidsZ ns p).filter fun k => k != c
 | none => kidsZ ns p
theorem ordD_up (ns : List NodeZ) (node : Nat) : ordD ns (upL ns (node : Int)) = ordP ns node := rfl
theorem ordD_free {ns : List NodeZ} {D : List Nat} {k : Nat} (hb : Back ns ns.length) (hk : k < ns.length) (hD : ∀ c ∈ D, (k : Int) ≤ (ndAt ns c).parent) : ordD ns D (ndAt ns k).parent = kidsZ ns (ndAt ns k).parent := by
 have h : D.find? (fun c => (ndAt ns c).parent == (ndAt ns k).parent) = none := List.find?_eq_none.2 fun c hc => by
  have h1 := hD c hc
  have h2 := hb k hk
  simp only [beq_iff_eq]; omega
 unfold ordD
 rw [h]
theorem ordD_step {ns : List NodeZ} {D : List Nat} {k : Nat} (hb : Back ns ns.length) (hk : k < ns.length) (hD : ∀ c ∈ D, (k : Int) ≤ (ndAt ns c).parent) :
  updO (ordD ns D) (ndAt ns k).parent (k :: (kidsZ ns (ndAt ns k).parent).filter fun j => j != k) = ordD ns (D ++ [k]) := by
 funext q
 unfold updO
 by_cases e : q = (ndAt ns k).parent
 ·rw [if_pos e]
  have h : D.find? (fun c => (ndAt ns c).parent == q) = none := List.find?_eq_none.2 fun c hc => by
   have h1 := hD c hc
   have h2 := hb k hk
   simp only [beq_iff_eq]; omega
  have h3 : (D ++ [k]).find? (fun c => (ndAt ns c).parent == q) = some k := by
   rw [List.find?_append, h, List.find?_cons_of_pos (by simp [e])]; rfl
  unfold ordD
  rw [h3, e]
 ·rw [if_neg e]
  have h3 : (D ++ [k]).find? (fun c => (ndAt ns c).parent == q) = D.find? (fun c => (ndAt ns c).parent == q) := by
   rw [List.find?_append, List.find?_cons_of_neg (by simp; exact fun h => e h.symm), List.find?_nil, Option.or_none]
  unfold ordD
  rw [h3]
/-- the state of Promote's loop at node n. -/
structure PSt (ns : List NodeZ) (nd : Nat) (n : Int) (D : List Nat) : Prop where
 way : upL ns (nd : Int) = D ++ upL ns n
 low : ∀ c ∈ D, n ≤ (ndAt ns c).parent
 lt : ∀ c ∈ D, c < ns.length
theorem PSt.next {ns : List NodeZ} {nd k : Nat} {D : List Nat} (hb : Back ns ns.length) (hk : k < ns.length) (h : PSt ns nd (k : Int) D) : PSt ns nd (ndAt ns k).parent (D ++ [k]) := by
 refine ⟨by rw [h.way, up_cons hb k hk, List.append_assoc]; rfl, fun c hc => ?_, fun c hc => ?_⟩
 ·rcases List.mem_append.1 hc with hc | hc
  ·have := h.low c hc; have := hb k hk; omega
  ·rw [List.mem_singleton] at hc; subst hc; exact Int.le_refl _
 ·rcases List.mem_append.1 hc with hc | hc
  ·exact h.lt c hc
  ·rw [List.mem_singleton] at hc; subst hc; exact hk
theorem prom_cnt {R : RulesZ} {X : RecZ} (h : recErr R X = 0) (nd : Nat) (hnd : nd < X.nodes.length) : cnt (promT X nd) ≤ X.nodes.length := by
 have hd := (prom_ok h nd hnd).dist
 have h1 := waysL_nodup (promT X nd) [] hd
 have h2 := nodup_len_le h1 (b := (List.range X.nodes.length).map fun (k : Nat) => wayI X.nodes (k : Int)) (fun w hw => by
  have h3 := ways_prom (rec_nodes h).2.1 nd hnd (X.nodes.length + 1) (-1) w (by rw [way_neg _ _ (by decide)]; exact hw)
  obtain ⟨k, hk, rfl⟩ := h3
  exact List.mem_map.2 ⟨k, List.mem_range.2 hk, rfl⟩)
 rw [List.length_map, List.length_range] at h2
 exact h2
def promX (X : RecZ) (nd : Nat) : RecZ := withX X (promT X nd)
def PromPost (R : RulesZ) (X : RecZ) (nd : Nat) (w : World) (e : Ending) (w' : World) : Prop := Below w.heap.size w w' ∧
 ((∃ E, E = recErr R (promX X nd) ∧ ErrPost e E) ∨ (recErr R (promX X nd) = 0 ∧ ∃ vt vn, e = .returned (.tuple #[recV (promX X nd) vt vn, .int .i64 0]) ∧ RdX w' (promX X nd) vt vn))
set_option maxRecDepth 100000
set_option maxHeartbeats 16000000
theorem Promote_any (HS : SortMvSaid) (R : RulesZ) (vp vs ve : Value) (X : RecZ) (vtx vnx : Value) (nd : Nat) (w : World) (hr : RdR w R vp vs ve) (hnm : R.name.size ≤ maxLen) (hx : RdX w X vtx vnx) (he : recErr R X = 0) (hnd : nd < X.nodes.length) :
  Calls Tryz.prog 15 #[(.agg #[.string R.name, .int .i64 R.width, .int .i64 R.height, vp, vs, .bool R.falls, .bool R.keeps, ve, .int .i64 R.blocked, .int .i64 R.quiet, .int .i64 R.rept]), recV X vtx vnx, .int .i64 nd] w (PromPost R X nd w) := by
 have HSh := Lib.hid HS
 have HR := Lib.hid hr
 have HN := Lib.hid hnm
 have HX := Lib.hid hx
 have HE := Lib.hid he
 have h200 := (rec_nodes he).2.2
 have HBK := Lib.hid (rec_nodes he).2.1.back
 have HLW := Lib.hid (rec_nodes he).2.1.low
 obtain ⟨na, nc, rfl, hn1, hn2⟩ := hx.2.1.form
 obtain ⟨ta, tc, rfl, ht1, ht2⟩ := hx.1.form
 unfold maxLen at hn2 ht2
 obtain ⟨i0, hi0, hz0, hz1, hz2⟩ := info_parts infoBr
 clear hr hnm hx HS he
 unfold recV
 go_enter Tryz.func15, Tryz.ntmps15
 go_upto_region 1 with (fail)
 refine opn3 ?_
 intro w0 xbR xbX xbO hB0 hS0
 have HB := Lib.hid hB0
 obtain ⟨bO, hbO⟩ : ∃ bO, bO = w.heap.size + 1 + 1 := ⟨_, rfl⟩
 rw [← hbO] at xbO ⊢
 obtain ⟨bX, hbX⟩ : ∃ bX, bX = w.heap.size + 1 := ⟨_, rfl⟩
 rw [← hbX] at xbX ⊢
 obtain ⟨bR, hbR⟩ : ∃ bR, bR = w.heap.size := ⟨_, rfl⟩
 rw [← hbR] at xbR ⊢
 have hbR1 : w.heap.size ≤ bR := by omega
 have HbR := Lib.hid xbR
 have hbX1 : w.heap.size ≤ bX := by omega
 have hbRbX : bR < bX := by omega
 have HbX := Lib.hid xbX
 have hbO1 : w.heap.size ≤ bO := by omega
 have hbRbO : bR < bO := by omega
 have hbXbO : bX < bO := by omega
 have HbO := Lib.hid xbO
 have hS : bO < w0.heap.size := by omega
 clear hB0 hS0 xbR hbR xbX hbX xbO hbO
 refine wp_region_lit ?_
 refine wpList_load_box (by rfl) 26 (.tmp 3) (by rfl) bR (by rfl) HbR.out Tryz.underlying26 (by rfl) (by kernel_rfl) ?_
 refine wpList_load_box (by rfl) 30 (.tmp 4) (by rfl) bX (by rfl) HbX.out Tryz.underlying30 (by rfl) (by kernel_rfl) ?_
 have HC := Lib.hid (checked_ok HSh.out R vp vs ve X (.slice ta X.tags.length tc) (.slice na X.nodes.length nc) nd w0 (HR.out.below HB.out (Nat.le_refl _)) HN.out (HX.out.below HB.out (Nat.le_refl _)) HE.out hnd)
 unfold recV at HC
 go_wp2_with fail
 refine HC.out.mono ?_
 rintro e w1 ⟨rfl, hb1⟩
 have HB1 := Lib.hid (HB.out.trans (hb1.mono HB.out.size))
 have HR1 := Lib.hid (HbR.out.stays hb1)
 have HX1 := Lib.hid (HbX.out.stays hb1)
 have HO1 := Lib.hid (HbO.out.stays hb1)
 have HO1L := HO1.out.lt
 clear hb1 HC HbX HbO HbR HB hS
 have x2 := HX1.out.cell 2 rfl
 have xl := HX1.out.lt
 go_upto_region 4 with (fail)
 go_upto_region 5 with (at_make; refine wpList_make_full _ rfl _ _ 59 rfl w1.heap.size 75 i0 (.pointer none) 1 Tryz.underlying59 hi0 hz0 hz1 .i64 .i64 X.nodes.length X.nodes.length X.nodes.length rfl rfl rfl rfl (by rw [hz2]; omega) (by unfold maxLen; omega) (Nat.le_refl _) ?_; intro w2 hown2 hgr2)
 obtain ⟨hWs, hWl, -⟩ := box_of_own hown2
 have hb2 := below_made hgr2
 have HGR2 := Lib.hid hgr2
 obtain ⟨bw, hbw⟩ : ∃ bw, bw = w1.heap.size := ⟨_, rfl⟩
 rw [← hbw] at hWs ⊢
 have HBW := Lib.hid hbw
 have hbO9 : bO < bw := by have := HO1L; omega
 have hs2 : bw < w2.heap.size := hWs.lt
 have hwbw : w.heap.size ≤ bw := by rw [hbw]; exact HB1.out.size
 clear hown2 hgr2 x2 xl hbw
 have HB2 := Lib.hid (below_trans HB1.out hb2 HB1.out.size)
 have HX2 := Lib.hid (HX1.out.stays hb2)
 have hTc := tree_any X (.slice ta X.tags.length tc) (.slice na X.nodes.length nc) w1 (HX.out.below HB1.out (Nat.le_refl _)) HBK.out (by omega) (X.nodes.length + 1) (-1) bw X.nodes.length _ w2 hb2 (by rw [HBW.out]; exact Nat.le_refl _) hWs hWl (by omega) (by omega) (by omega)
 unfold recV at hTc
 have HTc := Lib.hid hTc
 clear hTc hWs hWl hb2
 refine wp_region_lit ?_
 refine wpList_load_box (by rfl) 30 (.tmp 4) (by rfl) bX (by rfl) HX2.out Tryz.underlying30 (by rfl) (by kernel_rfl) ?_
 go_wp2_with fail
 refine HTc.out.mono ?_
 rintro e w3 ⟨v3, Ws, rfl, hT3⟩
 have hbt := tree_below HGR2.out HBW.out hT3
 have HB3 := Lib.hid (below_trans HB1.out hbt HB1.out.size)
 have HR3 := Lib.hid (HR1.out.stays hbt)
 have HX3 := Lib.hid (HX1.out.stays hbt)
 have HO3 := Lib.hid (HO1.out.stays hbt)
 have HT3 := Lib.hid hT3
 have hs3 : w2.heap.size ≤ w3.heap.size := hT3.grow.size
 obtain ⟨la, lc, rfl⟩ := own_form2 hT3.out
 clear hT3 hbt HTc HX2 HB2 HR1 HX1 HO1
 go_upto_region 6 with (fail)
 have hba : Below w3.heap.size w3 (w3.alloc (.cells #[(.slice la (kidsZ X.nodes (-1)).length lc)] 59)) := (Below.refl _ _).alloc (Nat.le_refl _) _
 have hblb := Box.new w3 [(.slice la (kidsZ X.nodes (-1)).length lc)] tSl
 obtain ⟨bl, hbl0⟩ : ∃ bl, bl = w3.heap.size := ⟨_, rfl⟩
 rw [← hbl0] at hblb ⊢
 have HG := Lib.hid (GS.start HBK.out HLW.out HT3.out hs2 hs3 hba hblb (by omega))
 have HB4 := Lib.hid (below_trans HB3.out hba HB3.out.size)
 have HR4 := Lib.hid (HR3.out.stays hba)
 have HX4 := Lib.hid (HX3.out.stays hba)
 have HO4 := Lib.hid (HO3.out.stays hba)
 have hblw : w2.heap.size ≤ bl := by omega
 generalize (w3.alloc (.cells #[(.slice la (kidsZ X.nodes (-1)).length lc)] 59)) = w4 at *
 obtain ⟨base, hbase⟩ : ∃ base, base = w2.heap.size := ⟨_, rfl⟩
 rw [← hbase] at HG hblw hs2
 clear hba hblb hbl0 HB3 HR3 HX3 HO3 HT3 hs3 hbase HGR2 HBW i0 hi0 hz0 hz1 hz2
 have hbO4 : bO < bw := hbO9
 go_wp2_with fail
 have hHS0 : PSt X.nodes nd (nd : Int) [] := ⟨rfl, fun c hc => (List.not_mem_nil hc).elim, fun c hc => (List.not_mem_nil hc).elim⟩
 have HPS0 := Lib.hid hHS0
 clear hHS0
 obtain ⟨wA, rfl⟩ : ∃ wA : World, wA = w4 := ⟨_, rfl⟩
 go_loopw [11] (fun v11 wr => ∃ (n : Int) (D : List Nat) (v : Value), v11 = .int .i64 n ∧ n < X.nodes.length ∧ -1 ≤ n ∧ Hid (PSt X.nodes nd n D) ∧ Hid (GS base wr X.nodes (ordD X.nodes D) bw bl Ws v) ∧ Hid (Below w.heap.size w wr) ∧ Hid (Box wr bR [.string R.name, .int .i64 R.width, .int .i64 R.height, vp, vs, .bool R.falls, .bool R.keeps, ve, .int .i64 R.blocked, .int .i64 R.quiet, .int .i64 R.rept] 26) ∧ Hid (Box wr bX [.slice ta X.tags.length tc, .string X.comment, .slice na X.nodes.length nc, .int .i64 X.result] 30) ∧ Hid (Box wr bO [.slice none 0 0, .string ⟨#[]⟩, .slice none 0 0, .int .i64 0] 30)) (fun v _ => (intOf v + 1).toNat)
 case atStart => exact ⟨(nd : Int), [], _, rfl, by omega, by omega, HPS0, HG, HB4, HR4, HX4, HO4⟩
 case round =>
  obtain ⟨n, D, v, rfl, hn1, hn2, HPS, HGr, HBr, HRr, HXr, HOr⟩ := hrel
  clear HPS0 HG HB4 HR4 HX4 HO4 wA
  by_cases hpos : 0 ≤ n
  ·obtain ⟨k, rfl⟩ : ∃ k : Nat, n = (k : Int) := ⟨n.toNat, by omega⟩
   have hkl : k < X.nodes.length := by omega
   obtain ⟨g0, o0, rfl, hg, hc⟩ := nodes_some HX.out.2.1 (by omega)
   obtain ⟨e0, -, -, -, -, -⟩ := hc k hkl
   have c0 := (HBr.out.cell (p := ⟨g0, o0 + k * 5, none⟩) hg).trans e0
   have hg4 : g0 < wr.heap.size := by have := HBr.out.size; omega
   have x2 := HXr.out.cell 2 rfl
   have xl := HXr.out.lt
   have hp1 := HLW.out k hkl
   have hp2 := HBK.out k hkl
   have HKM : Hid (k ∈ kidsZ X.nodes (ndAt X.nodes k).parent) := Lib.hid (kids_mem' hkl)
   have HUP := Lib.hid (ordD_step HBK.out hkl HPS.out.low)
   have HFR := Lib.hid (ordD_free HBK.out hkl HPS.out.low)
   have HPN := Lib.hid (HPS.out.next HBK.out hkl)
   have hndi : (k : Int) < (X.nodes.length : Int) := by omega
   clear hc
   have HE0 := Lib.hid e0
   clear e0
   generalize (ndAt X.nodes k).parent = par at *
   have HGw := Lib.hid (fun p hp => HGr.out.wcell (c := p) hp)
   go_upto_if 46 with (fail)
   clear c0 x2
   go_cut [12] from 46 to 52 (fun v12 wx => ∃ (T o : Nat) (rv : Value), v12 = .pointer (some ⟨T, o, none⟩) ∧ Hid (Slot base wr X.nodes (ordD X.nodes D) bw bl Ws par T o rv) ∧ wr = wx)
   case first =>
    by_cases hpos : 0 ≤ par
    ·obtain ⟨p, rfl⟩ : ∃ p : Nat, par = (p : Int) := ⟨par.toNat, by omega⟩
     have hpl : p < X.nodes.length := by omega
     have cw := HGw.out p hpl
     have bwl := HGr.out.wh.lt
     have hal := (HGr.out.nds p hpl).nd.box.lt
     have a0 := (HGr.out.nds p hpl).nd.box.cell 0 rfl
     have HSl := Lib.hid (HGr.out.slotNode hpl)
     go_wp2_with fail
     go_meet
     exact ⟨_, _, _, rfl, HSl, rfl⟩
    ·have hneg : par = -1 := by omega
     have HSl : Hid (Slot base wr X.nodes (ordD X.nodes D) bw bl Ws par bl 0 v) := Lib.hid (by rw [hneg]; exact HGr.out.slotTop)
     clear hneg
     go_wp2_with fail
     go_meet
     exact ⟨_, _, _, rfl, HSl, rfl⟩
   case rest =>
    obtain ⟨T, o, rv, rfl, HSl, hww⟩ := hcut
    have hrow := HSl.out.row
    rw [HFR.out] at hrow
    have hkL : (kidsZ X.nodes par).length ≤ X.nodes.length := kidsK_len X.nodes par X.nodes.length
    have HKL : Hid (∀ j ∈ kidsZ X.nodes par, j < X.nodes.length) := Lib.hid (fun j hj => (kid_par hj).2)
    obtain ⟨i, hi, hix⟩ := HGr.out.place (par := par) (by rw [HFR.out]; exact HKL.out) (by rw [HFR.out]; exact HKM.out)
    rw [HFR.out] at hi hix
    have hil := (List.getElem?_eq_some_iff.1 hi).1
    obtain ⟨G, rc, rfl⟩ := own_some hrow (by omega)
    have HOW := Lib.hid hrow
    have HI := Lib.hid hi
    have HIX := Lib.hid hix
    clear hi hix hrow
    subst hww
    obtain ⟨wq, rfl⟩ : ∃ wq : World, wq = wr := ⟨_, rfl⟩
    have hTl := HSl.out.lt
    have t0 : wq.drew.cell? ⟨T, o, none⟩ = some (.slice (some ⟨G, 0, none⟩) (kidsZ X.nodes par).length rc) := HSl.out.cell
    have cw : wq.drew.cell? ⟨bw, k, none⟩ = some (.pointer (some ⟨adr Ws k, 0, none⟩)) := HGw.out k hkl
    have bwl := HGr.out.wh.lt
    go_upto_region 13 with (fail)
    refine wp_region_noPanic ?_
    refine beginL (S := (fun w' => w'.cell? ⟨T, o, none⟩ = some (.slice (some ⟨G, 0, none⟩) (kidsZ X.nodes par).length rc) ∧ w'.cell? ⟨bw, k, none⟩ = some (.pointer (some ⟨adr Ws k, 0, none⟩)))) (L := []) (by kernel_rfl) ⟨t0, cw⟩ (fun hHeld => ?_)
    refine tkW 0 ?_
    refine tkW 3 ?_
    refine tkW 4 ?_
    refine tkW 1 ?_
    refine tkW 5 ?_
    refine tkL 2 ?_
    refine tkL 6 ?_
    refine cnL 7 fun K hK => ?_
    go_simp
    refine (IndexP_any (.slice (some ⟨G, 0, none⟩) (kidsZ X.nodes par).length rc) base ((kidsZ X.nodes par).map (adr Ws)) (adr Ws k) wq.drew (by rw [List.length_map, List.map_map]; exact HOW.out.drew) (by rw [List.length_map]; omega) (HGr.out.cellsB hkl HKL.out)).mono ?_
    rintro e w5 ⟨rfl, hw5⟩
    subst hw5
    rw [HIX.out]
    refine hK.out _ _ ⟨t0, cw⟩ (fun hHeld => ?_)
    clear hK K
    refine tkW 8 ?_
    refine dnN ?_
    clear hHeld t0 cw
    obtain ⟨m, hm⟩ : ∃ m, (kidsZ X.nodes par).length = m + 1 := ⟨(kidsZ X.nodes par).length - 1, by omega⟩
    have hwr : IntKind.i64.wrap ((i : Int) + 1) = (i : Int) + 1 := by rw [IntKind.wrap_i64]; omega
    have hone : ∀ u ∈ (kidsZ X.nodes par).map (fun j => ptrV (adr Ws j)), u.oneCell' = true := fun u hu => by
     obtain ⟨j, -, rfl⟩ := List.mem_map.1 hu; rfl
    have HON := Lib.hid hone
    have HM := Lib.hid hm
    have HROW : Hid (wq.ownsRow base tPt 1 (.slice (some ⟨G, 0, none⟩) (kidsZ X.nodes par).length rc) (m + 1) ((kidsZ X.nodes par).map fun j => ptrV (adr Ws j))) := Lib.hid (by have h := HOW.out; rw [hm] at h ⊢; exact h)
    have hcap : m + 1 ≤ rc := by have h := HOW.out; rw [hm] at h; exact own_cap' h
    have hGT : G ≠ T := HSl.out.ne G rfl
    have hGl := HOW.out.lt G rfl
    have hGw : bw ≠ G := by have := HGr.out.lo.1; omega
    have hwz : wq.drew.drew.heap.size = wq.heap.size := by simp
    obtain ⟨wp, hwd⟩ : ∃ wp, wp = wq.drew := ⟨_, rfl⟩
    have GRz : wq.grownBy wp.drew (some G) := by rw [hwd]; exact grown_below (Below.refl wq.heap.size wq).drew.drew
    have KTz : wp.drew.heap[T]? = wq.heap[T]? := by rw [hwd]; rfl
    have KWz : Box wp.drew bw Ws tPt := by rw [hwd]; exact HGr.out.wh
    have ROz : wp.drew.ownsRow base tPt 1 (.slice (some ⟨G, 0, none⟩) (kidsZ X.nodes par).length rc) (m + 1) ((kidsZ X.nodes par).map fun j => ptrV (adr Ws j)) := by rw [hwd]; exact HROW.out
    have TCz := HSl.out.keep wp.drew KTz
    have WKz : (HGr.out.nds k hkl).here = (HGr.out.nds k hkl).here := rfl
    have WH := (HGr.out.nds k hkl).here
    have him : i ≤ m := by omega
    have hm9 : m ≤ 1000 := by omega
    rw [← hwd]
    clear hone hm WKz hwd
    go_upto_region 14 with (fail)
    refine wp_region_noPanic ?_
    refine beginL (S := (fun w' => w'.cell? ⟨T, o, none⟩ = some (.slice (some ⟨G, 0, none⟩) (kidsZ X.nodes par).length rc) ∧ w'.cell? ⟨bw, k, none⟩ = some (.pointer (some ⟨adr Ws k, 0, none⟩)))) (L := [15]) (by kernel_rfl) ⟨TCz.1, KWz.cell k WH⟩ (fun hHeld => ?_)
    refine tkW 0 ?_
    refine tkW 1 ?_
    refine tkW 4 ?_
    refine tkW 5 ?_
    refine tkW 8 ?_
    refine tkW 9 ?_
    refine tkW 2 ?_
    refine tkW 6 ?_
    refine tkW 10 ?_
    refine tkL 3 ?_
    refine tkL 11 ?_
    refine rdL (rs := [7, 12]) ?_
    refine (AllReadyL.cons (by first | (simp only [List.getElem?_toArray, List.getElem?_cons_zero, List.getElem?_cons_succ] <;> rfl) | rfl) (fun K hK => ?_) (AllReadyL.cons (by first | (simp only [List.getElem?_toArray, List.getElem?_cons_zero, List.getElem?_cons_succ] <;> rfl) | rfl) (fun K hK => ?_) AllReadyL.nil))
    ·skip
     go_simp
     refine (DeleteP_cap (.slice (some ⟨G, 0, none⟩) (kidsZ X.nodes par).length rc) m base i ((kidsZ X.nodes par).map fun j => ptrV (adr Ws j)) wp.drew ROz (by omega) (by omega) HON.out).mono ?_
     rintro e w7 ⟨g', c', hgc, -, rfl, RO7, hg7⟩
     simp only [Value.slice.injEq, Option.some.injEq, Addr.mk.injEq, and_true] at hgc
     obtain ⟨rfl, -, rfl⟩ := hgc
     have GR7 := grown_trans GRz hg7
     have KT7 : w7.heap[T]? = wq.heap[T]? := (hg7.block T (by have := GRz.size; omega) (by simp; omega)).trans KTz
     have KW7 : Box w7 bw Ws tPt := (hg7.block bw KWz.lt (by simp; omega)).trans KWz
     have TC7 := HSl.out.keep w7 KT7
     clear hg7
     refine hK.out _ _ ⟨TC7.1, KW7.cell k WH⟩ (fun hHeld => ?_)
     clear hK K
     refine cnL 12 fun K hK => ?_
     go_simp
     refine K_world ?_
     intro w12 e12
     have hb12 : Below w7.heap.size w7 w12 := by rw [e12]; exact (Below.refl _ _).alloc (Nat.le_refl _) _
     obtain ⟨nb, hnb⟩ : ∃ nb, nb = w7.heap.size := ⟨_, rfl⟩
     have NB12 : Box w12 nb [.pointer (some ⟨adr Ws k, 0, none⟩)] tPt := by rw [e12]; exact boxAt _ _ _ _ hnb.symm
     rw [← hnb]
     have hnG : nb ≠ G := by have h9 : wp.drew.heap.size = wp.heap.size := (by simp); have := GR7.size; omega
     have GR12 := grown_trans GR7 (grown_below hb12)
     have KT12 : w12.heap[T]? = wq.heap[T]? := (hb12.block T (by have := GR7.size; have h9 : wp.drew.heap.size = wp.heap.size := (by simp); omega)).trans KT7
     have KW12 := KW7.stays hb12
     have TC12 := HSl.out.keep w12 KT12
     have RO12 := own_of_block RO7 (fun g hg => hb12.block g (RO7.lt g hg).2)
     clear e12 hb12 hnb
     refine hK.out _ _ ⟨TC12.1, KW12.cell k WH⟩ (fun hHeld => ?_)
     clear hK K
     refine cnL 13 fun K hK => ?_
     go_simp
     refine (InsertP_any base m rc G nb (.pointer (some ⟨adr Ws k, 0, none⟩)) (((kidsZ X.nodes par).map fun j => ptrV (adr Ws j)).eraseIdx i) w12 RO12 hcap (by omega) (fun u hu => HON.out u (List.mem_of_mem_eraseIdx hu)) rfl NB12 hnG).mono ?_
     rintro e w13 ⟨rfl, RO13, hg13⟩
     have GR13 := grown_trans GR12 hg13
     have KT13 : w13.heap[T]? = wq.heap[T]? := (hg13.block T (by have := GR12.size; omega) (by simp; omega)).trans KT12
     have KW13 : Box w13 bw Ws tPt := (hg13.block bw KW12.lt (by simp; omega)).trans KW12
     have TC13 := HSl.out.keep w13 KT13
     clear hg13
     refine hK.out _ _ ⟨TC13.1, KW13.cell k WH⟩ (fun hHeld => ?_)
     clear hK K
     refine tkW 14 ?_
     refine ltL 15 fun K hK => ?_
     obtain ⟨d0, d0f, d0l⟩ := TC13
     go_simp
     refine K_world ?_
     intro w15 e15
     refine hK.out _ _ ?_
     clear hK K
     refine dnN ?_
     have HE15 := Lib.hid e15
     have HGR := Lib.hid GR13
     have HRO := Lib.hid RO13
     clear GRz KTz KWz ROz TCz GR13 KT13 KW13 RO13 d0 d0f d0l e15 GR7 KT7 KW7 RO7 TC7 GR12 KT12 KW12 RO12 TC12 NB12
     have HFl : Hid (((kidsZ X.nodes par).map fun j => ptrV (adr Ws j)).eraseIdx i = ((kidsZ X.nodes par).filter fun j => j != k).map fun j => ptrV (adr Ws j)) := Lib.hid (by rw [map_erase, erase_filter _ i k (kids_nodup _ _) HI.out])
     have hfl : (k :: (kidsZ X.nodes par).filter fun j => j != k).length = m + 1 := by
      rw [List.length_cons, ← erase_filter _ i k (kids_nodup _ _) HI.out, List.length_eraseIdx_of_lt hil, HM.out]; rfl
     have HGP := Lib.hid (HSl.out.put (k :: (kidsZ X.nodes par).filter fun j => j != k) w13 (.slice (some ⟨G, 0, none⟩) (m + 1) rc) HGR.out rfl (by rw [hfl, List.map_cons, ← HFl.out]; exact HRO.out))
     rw [HUP.out] at HGP
     have HLo : Hid (∀ b, b < base → b < wq.heap.size → w15.heap[b]? = wq.heap[b]?) := Lib.hid (fun b h1 h2 => by
      rw [HE15.out]
      exact (Below.heap_setCell w13 _ _ b (by have := HSl.out.low; show b ≠ T; omega)).trans (HGR.out.block b h2 (by simp; omega)))
     have HB15 : Hid (Below w.heap.size w w15) := Lib.hid (by
      have h1 : Below w.heap.size w w13 := ⟨HGR.out.os.trans HBr.out.os, HGR.out.tape.trans HBr.out.tape, HGR.out.output.trans HBr.out.output, Nat.le_trans HBr.out.size HGR.out.size, fun b hb => (HGR.out.block b (by have := HBr.out.size; omega) (by simp; omega)).trans (HBr.out.block b hb)⟩
      rw [HE15.out]
      exact h1.setCell (by have := HSl.out.low; show w.heap.size ≤ T; omega) _)
     have HR15 : Hid (Box w15 bR [.string R.name, .int .i64 R.width, .int .i64 R.height, vp, vs, .bool R.falls, .bool R.keeps, ve, .int .i64 R.blocked, .int .i64 R.quiet, .int .i64 R.rept] 26) := Lib.hid ((HLo.out bR (by omega) HRr.out.lt).trans HRr.out)
     have HX15 : Hid (Box w15 bX [.slice ta X.tags.length tc, .string X.comment, .slice (some ⟨g0, o0, none⟩) X.nodes.length nc, .int .i64 X.result] 30) := Lib.hid ((HLo.out bX (by omega) HXr.out.lt).trans HXr.out)
     have HO15 : Hid (Box w15 bO [.slice none 0 0, .string ⟨#[]⟩, .slice none 0 0, .int .i64 0] 30) := Lib.hid ((HLo.out bO (by omega) HOr.out.lt).trans HOr.out)
     obtain ⟨v2, hgs⟩ := HGP.out
     rw [← HE15.out] at hgs
     have HGS := Lib.hid hgs
     clear HGP HE15 HGR HRO hgs HLo HROW HON HM hfl HFl HGr HGw HSl HBr HRr HXr HOr
     have c0 := (HB15.out.cell (p := ⟨g0, o0 + k * 5, none⟩) hg).trans HE0.out
     have hg5 : g0 < w15.heap.size := by have := HB15.out.size; omega
     have x2 := HX15.out.cell 2 rfl
     have xl := HX15.out.lt
     go_wp2_with fail
     go_roundw
     case rel => exact ⟨par, D ++ [k], v2, rfl, by omega, by omega, HPN, HGS, HB15, HR15, HX15, HO15⟩
     case measure => simp [intOf]; omega
    ·skip
     go_simp
     refine K_world ?_
     intro w12 e12
     have hb12 : Below wp.drew.heap.size wp.drew w12 := by rw [e12]; exact (Below.refl _ _).alloc (Nat.le_refl _) _
     obtain ⟨nb, hnb⟩ : ∃ nb, nb = wp.heap.size := ⟨_, rfl⟩
     have NB12 : Box w12 nb [.pointer (some ⟨adr Ws k, 0, none⟩)] tPt := by rw [e12]; exact boxAt _ _ _ _ hnb.symm
     rw [← hnb]
     have hnG : nb ≠ G := by have h9 : wp.drew.heap.size = wp.heap.size := (by simp); have := GRz.size; omega
     have GR12 := grown_trans GRz (grown_below hb12)
     have KT12 : w12.heap[T]? = wq.heap[T]? := (hb12.block T (by have := GRz.size; have h9 : wp.drew.heap.size = wp.heap.size := (by simp); omega)).trans KTz
     have KW12 := KWz.stays hb12
     have TC12 := HSl.out.keep w12 KT12
     have RO12 := own_of_block ROz (fun g hg => hb12.block g (ROz.lt g hg).2)
     clear e12 hb12 hnb
     refine hK.out _ _ ⟨TC12.1, KW12.cell k WH⟩ (fun hHeld => ?_)
     clear hK K
     refine cnL 7 fun K hK => ?_
     go_simp
     refine (DeleteP_cap (.slice (some ⟨G, 0, none⟩) (kidsZ X.nodes par).length rc) m base i ((kidsZ X.nodes par).map fun j => ptrV (adr Ws j)) w12 RO12 (by omega) (by omega) HON.out).mono ?_
     rintro e w7 ⟨g', c', hgc, -, rfl, RO7, hg7⟩
     simp only [Value.slice.injEq, Option.some.injEq, Addr.mk.injEq, and_true] at hgc
     obtain ⟨rfl, -, rfl⟩ := hgc
     have GR7 := grown_trans GR12 hg7
     have KT7 : w7.heap[T]? = wq.heap[T]? := (hg7.block T (by have := GR12.size; omega) (by simp; omega)).trans KT12
     have KW7 : Box w7 bw Ws tPt := (hg7.block bw KW12.lt (by simp; omega)).trans KW12
     have TC7 := HSl.out.keep w7 KT7
     have NB7 : Box w7 nb [.pointer (some ⟨adr Ws k, 0, none⟩)] tPt := (hg7.block nb NB12.lt (by simp; omega)).trans NB12
     clear hg7
     refine hK.out _ _ ⟨TC7.1, KW7.cell k WH⟩ (fun hHeld => ?_)
     clear hK K
     refine cnL 13 fun K hK => ?_
     go_simp
     refine (InsertP_any base m rc G nb (.pointer (some ⟨adr Ws k, 0, none⟩)) (((kidsZ X.nodes par).map fun j => ptrV (adr Ws j)).eraseIdx i) w7 RO7 hcap (by omega) (fun u hu => HON.out u (List.mem_of_mem_eraseIdx hu)) rfl NB7 hnG).mono ?_
     rintro e w13 ⟨rfl, RO13, hg13⟩
     have GR13 := grown_trans GR7 hg13
     have KT13 : w13.heap[T]? = wq.heap[T]? := (hg13.block T (by have := GR7.size; omega) (by simp; omega)).trans KT7
     have KW13 : Box w13 bw Ws tPt := (hg13.block bw KW7.lt (by simp; omega)).trans KW7
     have TC13 := HSl.out.keep w13 KT13
     clear hg13
     refine hK.out _ _ ⟨TC13.1, KW13.cell k WH⟩ (fun hHeld => ?_)
     clear hK K
     refine tkW 14 ?_
     refine ltL 15 fun K hK => ?_
     obtain ⟨d0, d0f, d0l⟩ := TC13
     go_simp
     refine K_world ?_
     intro w15 e15
     refine hK.out _ _ ?_
     clear hK K
     refine dnN ?_
     have HE15 := Lib.hid e15
     have HGR := Lib.hid GR13
     have HRO := Lib.hid RO13
     clear GRz KTz KWz ROz TCz GR13 KT13 KW13 RO13 d0 d0f d0l e15 GR7 KT7 KW7 RO7 TC7 GR12 KT12 KW12 RO12 TC12 NB12
     have HFl : Hid (((kidsZ X.nodes par).map fun j => ptrV (adr Ws j)).eraseIdx i = ((kidsZ X.nodes par).filter fun j => j != k).map fun j => ptrV (adr Ws j)) := Lib.hid (by rw [map_erase, erase_filter _ i k (kids_nodup _ _) HI.out])
     have hfl : (k :: (kidsZ X.nodes par).filter fun j => j != k).length = m + 1 := by
      rw [List.length_cons, ← erase_filter _ i k (kids_nodup _ _) HI.out, List.length_eraseIdx_of_lt hil, HM.out]; rfl
     have HGP := Lib.hid (HSl.out.put (k :: (kidsZ X.nodes par).filter fun j => j != k) w13 (.slice (some ⟨G, 0, none⟩) (m + 1) rc) HGR.out rfl (by rw [hfl, List.map_cons, ← HFl.out]; exact HRO.out))
     rw [HUP.out] at HGP
     have HLo : Hid (∀ b, b < base → b < wq.heap.size → w15.heap[b]? = wq.heap[b]?) := Lib.hid (fun b h1 h2 => by
      rw [HE15.out]
      exact (Below.heap_setCell w13 _ _ b (by have := HSl.out.low; show b ≠ T; omega)).trans (HGR.out.block b h2 (by simp; omega)))
     have HB15 : Hid (Below w.heap.size w w15) := Lib.hid (by
      have h1 : Below w.heap.size w w13 := ⟨HGR.out.os.trans HBr.out.os, HGR.out.tape.trans HBr.out.tape, HGR.out.output.trans HBr.out.output, Nat.le_trans HBr.out.size HGR.out.size, fun b hb => (HGR.out.block b (by have := HBr.out.size; omega) (by simp; omega)).trans (HBr.out.block b hb)⟩
      rw [HE15.out]
      exact h1.setCell (by have := HSl.out.low; show w.heap.size ≤ T; omega) _)
     have HR15 : Hid (Box w15 bR [.string R.name, .int .i64 R.width, .int .i64 R.height, vp, vs, .bool R.falls, .bool R.keeps, ve, .int .i64 R.blocked, .int .i64 R.quiet, .int .i64 R.rept] 26) := Lib.hid ((HLo.out bR (by omega) HRr.out.lt).trans HRr.out)
     have HX15 : Hid (Box w15 bX [.slice ta X.tags.length tc, .string X.comment, .slice (some ⟨g0, o0, none⟩) X.nodes.length nc, .int .i64 X.result] 30) := Lib.hid ((HLo.out bX (by omega) HXr.out.lt).trans HXr.out)
     have HO15 : Hid (Box w15 bO [.slice none 0 0, .string ⟨#[]⟩, .slice none 0 0, .int .i64 0] 30) := Lib.hid ((HLo.out bO (by omega) HOr.out.lt).trans HOr.out)
     obtain ⟨v2, hgs⟩ := HGP.out
     rw [← HE15.out] at hgs
     have HGS := Lib.hid hgs
     clear HGP HE15 HGR HRO hgs HLo HROW HON HM hfl HFl HGr HGw HSl HBr HRr HXr HOr
     have c0 := (HB15.out.cell (p := ⟨g0, o0 + k * 5, none⟩) hg).trans HE0.out
     have hg5 : g0 < w15.heap.size := by have := HB15.out.size; omega
     have x2 := HX15.out.cell 2 rfl
     have xl := HX15.out.lt
     go_wp2_with fail
     go_roundw
     case rel => exact ⟨par, D ++ [k], v2, rfl, by omega, by omega, HPN, HGS, HB15, HR15, HX15, HO15⟩
     case measure => simp [intOf]; omega
  ·have hneg : n < 0 := by omega
   have HWY : Hid (D = upL X.nodes (nd : Int)) := Lib.hid (by rw [HPS.out.way, up_neg _ _ hneg, List.append_nil])
   obtain ⟨va, vc, rfl⟩ := own_form2 HGr.out.out
   have HGS : Hid (GS base wr X.nodes (ordP X.nodes nd) bw bl Ws (.slice va (ordD X.nodes D (-1)).length vc)) := Lib.hid (by have h := HGr.out; rw [HWY.out, ordD_up] at h ⊢; exact h)
   have hbr := HGS.out.brs (fun p j hj => by
    have h1 := kid_par ((ordP_mem HBK.out nd hnd p j).1 hj)
    have h2 := HBK.out j h1.2
    exact ⟨by omega, h1.2⟩)
   rw [treeO_prom] at hbr
   have hPC : cnt (promT X nd) ≤ X.nodes.length := prom_cnt HE.out nd hnd
   have ht10 := (rec_cmt HE.out).2.2.2.2
   have hlo : (Value.slice va (ordD X.nodes D (-1)).length vc) = .slice va (ordP X.nodes nd (-1)).length vc := by rw [HWY.out, ordD_up]
   have HBRS : Hid (BrsAt anyB tBr tPt base wr (promT X nd) ((ordP X.nodes nd (-1)).map fun j => ptrV (adr Ws j))) := Lib.hid hbr
   have HLO := Lib.hid hlo
   clear hbr hlo
   obtain ⟨wq, rfl⟩ : ∃ wq : World, wq = wr := ⟨_, rfl⟩
   go_upto_region 15 with (fail)
   have BRz := HRr.out.drew
   have BXz := HXr.out.drew
   have BOz := HOr.out.drew
   have Lz : Below w.heap.size w wq.drew := HBr.out.drew
   have l0z : wq.drew.cell? ⟨bl, 0, none⟩ = some (.slice va (ordD X.nodes D (-1)).length vc) := HGS.out.hl.cell 0 rfl
   have BLz : Box wq.drew bl [.slice va (ordD X.nodes D (-1)).length vc] tSl := HGS.out.hl
   refine wp_region_noPanic ?_
   refine beginL (S := (fun w' => w'.cell? ⟨bR, 0, none⟩ = some (.string R.name) ∧ w'.cell? ⟨bR, 1, none⟩ = some (.int .i64 R.width) ∧ w'.cell? ⟨bR, 2, none⟩ = some (.int .i64 R.height) ∧ w'.cell? ⟨bR, 3, none⟩ = some vp ∧ w'.cell? ⟨bR, 4, none⟩ = some vs ∧ w'.cell? ⟨bR, 5, none⟩ = some (.bool R.falls) ∧ w'.cell? ⟨bR, 6, none⟩ = some (.bool R.keeps) ∧ w'.cell? ⟨bR, 7, none⟩ = some ve ∧ w'.cell? ⟨bR, 8, none⟩ = some (.int .i64 R.blocked) ∧ w'.cell? ⟨bR, 9, none⟩ = some (.int .i64 R.quiet) ∧ w'.cell? ⟨bR, 10, none⟩ = some (.int .i64 R.rept) ∧ w'.cell? ⟨bX, 0, none⟩ = some (.slice ta X.tags.length tc) ∧ w'.cell? ⟨bX, 1, none⟩ = some (.string X.comment) ∧ w'.cell? ⟨bX, 2, none⟩ = some (.slice na X.nodes.length nc) ∧ w'.cell? ⟨bX, 3, none⟩ = some (.int .i64 X.result) ∧ w'.cell? ⟨bl, 0, none⟩ = some (.slice va (ordD X.nodes D (-1)).length vc))) (L := [7]) (by kernel_rfl) (by and_intros <;> first | exact BRz.cell _ rfl | exact BXz.cell _ rfl | exact BLz.cell _ rfl) (fun hHeld => ?_)
   refine tkL 0 ?_
   refine tkL 1 ?_
   refine tkL 2 ?_
   refine cnL 3 fun K hK => ?_
   go_simp
   have hwc := with_any X (.slice ta X.tags.length tc) (.slice na X.nodes.length nc) (promT X nd) (.slice va (ordD X.nodes D (-1)).length vc) _ base wq.drew (HX.out.below Lz (Nat.le_refl _)) (brs_move (q := anyB) (q' := anyB) (tb := tBr) (te := tPt) (base := base) (w := wq) (w' := wq.drew) (fun g _ h1 h2 => ⟨rfl, h2⟩) _ _ HBRS.out) (by rw [List.length_map, HLO.out]; have h := HGS.out.out.drew; rw [HLO.out] at h; exact h) (by omega) (by omega)
   unfold recV at hwc
   refine hwc.mono ?_
   rintro e w3 ⟨vt3, vn3, rfl, OW3, hb3⟩
   obtain ⟨fa, fc, rfl⟩ : ∃ a c, vt3 = .slice a X.tags.length c := by obtain ⟨ts, h1, -⟩ := OW3.tags; exact own_form2 h1
   obtain ⟨ga, gc, rfl⟩ : ∃ a c, vn3 = .slice a (flatL (promT X nd) (-1) []).length c := own_form2 OW3.nodes
   rw [show recV (withX X (promT X nd)) (.slice fa X.tags.length fc) (.slice ga (flatL (promT X nd) (-1) []).length gc) = .agg #[.slice fa X.tags.length fc, .string X.comment, .slice ga (flatL (promT X nd) (-1) []).length gc, .int .i64 X.result] from rfl]
   have BR3 := BRz.stays hb3
   have BX3 := BXz.stays hb3
   have BO3 := BOz.stays hb3
   have BL3 := BLz.stays hb3
   have L3 := below_trans Lz hb3 Lz.size
   have hz3 := hb3.size
   clear hwc hb3
   refine hK.out _ _ (by and_intros <;> first | exact BR3.cell _ rfl | exact BX3.cell _ rfl | exact BL3.cell _ rfl) (fun hHeld => ?_)
   clear hK K
   refine cnL 4 fun K hK => ?_
   go_simp
   have hsz := sized_any HSh.out R vp vs ve (promX X nd) (.slice fa X.tags.length fc) (.slice ga (flatL (promT X nd) (-1) []).length gc) w3 (HR.out.below L3 (Nat.le_refl _)) HN.out OW3.rd
   rw [show recV (promX X nd) (.slice fa X.tags.length fc) (.slice ga (flatL (promT X nd) (-1) []).length gc) = .agg #[.slice fa X.tags.length fc, .string X.comment, .slice ga (flatL (promT X nd) (-1) []).length gc, .int .i64 X.result] from rfl] at hsz
   refine hsz.mono ?_
   rintro e w4 ⟨hb4, hres⟩
   have BR4 := BR3.stays hb4
   have BX4 := BX3.stays hb4
   have BO4 := BO3.stays hb4
   have BL4 := BL3.stays hb4
   have L4 := below_trans L3 hb4 L3.size
   have OW4 := OW3.move (w' := w4) (fun g hg _ => hb4.block g hg)
   have hol := OW3.lt
   have hOl : bO < wq.drew.heap.size := BOz.lt
   have hOW := Lib.hid OW4
   clear hsz hb4
   obtain ⟨sa, sn, sc, cc, qa, qn, qc, rr, E4, rfl, hres4⟩ : ∃ (sa : Option Addr) (sn sc : Nat) (cc : ByteArray) (qa : Option Addr) (qn qc : Nat) (rr : Int) (E4 : Int), e = .returned (.tuple #[.agg #[.slice sa sn sc, .string cc, .slice qa qn qc, .int .i64 rr], .int .i64 E4]) ∧ ((E4 = 0 ∧ recErr R (promX X nd) = 0 ∧ ([.slice sa sn sc, .string cc, .slice qa qn qc, .int .i64 rr] : List Value) = [.slice fa X.tags.length fc, .string X.comment, .slice ga (flatL (promT X nd) (-1) []).length gc, .int .i64 X.result]) ∨ (E4 ≠ 0 ∧ E4 = recErr R (promX X nd) ∧ ([.slice sa sn sc, .string cc, .slice qa qn qc, .int .i64 rr] : List Value) = [.slice none 0 0, .string ⟨#[]⟩, .slice none 0 0, .int .i64 0])) := by
     rcases hres with ⟨h0, rfl⟩ | ⟨h0, rfl⟩
     ·exact ⟨_, _, _, _, _, _, _, _, 0, rfl, .inl ⟨rfl, h0, rfl⟩⟩
     ·exact ⟨_, _, _, _, _, _, _, _, _, rfl, .inr ⟨h0, rfl, rfl⟩⟩
   have HRES := Lib.hid hres4
   clear hres hres4
   refine hK.out _ _ (by and_intros <;> first | exact BR4.cell _ rfl | exact BX4.cell _ rfl | exact BL4.cell _ rfl) (fun hHeld => ?_)
   clear hK K
   refine tkW 5 ?_
   refine tkW 6 ?_
   refine ltL 7 fun K hK => ?_
   have d0 := BO4.cell 0 rfl
   have d1 := BO4.cell 1 rfl
   have d2 := BO4.cell 2 rfl
   have d3 := BO4.cell 3 rfl
   have f0 := BO4.frozen 0
   have f1 := BO4.frozen 1
   have f2 := BO4.frozen 2
   have f3 := BO4.frozen 3
   have dl := BO4.lt
   go_simp
   refine K_world ?_
   intro w7 e7
   have hw7 : w7 = w4.setCells bO 0 [.slice sa sn sc, .string cc, .slice qa qn qc, .int .i64 rr] := by rw [e7]; rfl
   have BO7 : Box w7 bO [.slice sa sn sc, .string cc, .slice qa qn qc, .int .i64 rr] 30 := by rw [hw7]; exact BO4.store rfl
   have L7 : Below w.heap.size w w7 := by rw [hw7]; exact below_setCells L4 hbO1 0 _
   have OW7 := OW4.move (w' := w7) (fun g _ hg => by rw [hw7]; exact heap_setCells bO _ 0 w4 g (by have := hol g hg; omega))
   clear e7 hw7 d0 d1 d2 d3 f0 f1 f2 f3 dl
   refine hK.out _ _ ?_
   clear hK K
   refine tkW 8 ?_
   refine dnN ?_
   have HO7 := Lib.hid BO7
   have HL7 := Lib.hid L7
   have HOW7 := Lib.hid OW7
   clear BRz BXz BOz BLz Lz l0z BR3 BX3 BO3 BL3 L3 OW3 BR4 BX4 BO4 BL4 L4 OW4 hol hOW BO7 L7 OW7 hHeld
   go_wp2_with fail
   refine bodyPost_ret (results_box rfl (by rfl) (by rfl) HO7.out Tryz.underlying30 (by rfl) (by kernel_rfl)) rfl ⟨HL7.out, ?_⟩
   rcases HRES.out with ⟨rfl, h1, h2⟩ | ⟨h0, h1, h2⟩
   ·exact .inr ⟨h1, _, _, by rw [h2]; rfl, HOW7.out.rd⟩
   ·exact .inl ⟨E4, h1, h0, by rw [h2]; rfl⟩
end Go.Proofs.YtnieifdogllbfaaGreat
namespace Go.Proofs.YtnieifdogllbfaaGreat
open Go.ChangeShapes Go.WideShapes Go.ChangeAt Go.RowKit
set_option linter.unusedVariables false
mutual
def firstPB : BrZ → List (MoveZ × ByteArray)
 | .mk m c ks => (m, c) :: firstP ks
def firstP : List BrZ → List (MoveZ × ByteArray)
 | [] => []
 | b :: _ => firstPB b
end
theorem firstP_mv : ∀ l : List BrZ, (firstP l).map (·.1) = firstL l := by
 refine br_indL (PB := fun b => (firstPB b).map (·.1) = firstB b) (PL := fun l => (firstP l).map (·.1) = firstL l) ?_ ?_ ?_
 ·intro m c ks h; rw [firstPB, firstB, List.map_cons, h]
 ·rw [firstP, firstL]; rfl
 ·intro b l h _; rw [firstP, firstL, h]
def lineT : List (MoveZ × ByteArray) → List BrZ
 | [] => []
 | x :: t => [.mk x.1 x.2 (lineT t)]
theorem first_line : ∀ l, firstL (lineT l) = l.map (·.1)
 | [] => by rw [lineT, firstL]; rfl
 | x :: t => by rw [lineT, firstL, firstB, first_line t]; rfl
def plainN : List (MoveZ × ByteArray) → Int → List NodeZ
 | [], _ => []
 | x :: t, p => ⟨p, x.1, x.2⟩ :: plainN t (p + 1)
theorem plainN_len : ∀ l p, (plainN l p).length = l.length
 | [], _ => rfl
 | x :: t, p => by rw [plainN, List.length_cons, List.length_cons, plainN_len t]
theorem flat_line : ∀ (l : List (MoveZ × ByteArray)) (out : List NodeZ), flatL (lineT l) ((out.length : Int) - 1) out = out ++ plainN l ((out.length : Int) - 1)
 | [], out => by rw [lineT, flatL, plainN, List.append_nil]
 | x :: t, out => by
  rw [lineT, flatL, flatL, flatB, plainN]
  have := flat_line t (out ++ [⟨(out.length : Int) - 1, x.1, x.2⟩])
  rw [List.length_append] at this
  rw [show ((out.length + [(⟨(out.length : Int) - 1, x.1, x.2⟩ : NodeZ)].length : Nat) : Int) - 1 = (out.length : Int) by simp] at this
  rw [this, List.append_assoc, show (out.length : Int) - 1 + 1 = (out.length : Int) by omega]
  rfl
theorem flat_plain (l : List (MoveZ × ByteArray)) : flatL (lineT l) (-1) [] = plainN l (-1) := flat_line l []
theorem plain_par : ∀ (l : List (MoveZ × ByteArray)) (p : Int) (k : Nat), k < l.length → (ndAt (plainN l p) k).parent = p + k
 | [], _, _, h => absurd h (Nat.not_lt_zero _)
 | x :: t, p, 0, _ => by rw [plainN]; show p = p + ((0 : Nat) : Int); simp
 | x :: t, p, k + 1, h => by
  have := plain_par t (p + 1) k (by simpa using h)
  rw [plainN]
  show (ndAt (plainN t (p + 1)) k).parent = _
  rw [this]; omega
/-- the first chain of good trees is good. -/
theorem first_ok {R : RulesZ} {t : List BrZ} (h : TreesOK R t) : TreesOK R (lineT (firstP t)) := by
 have d : ∀ l, distL (lineT l) := by
  intro l
  induction l with
  | nil => rw [lineT, distL]; trivial
  | cons x t ih => rw [lineT, distL, distB, distL]; exact ⟨fun z hz => (by cases hz), ih, trivial⟩
 have w : ∀ t : List BrZ, ∀ (pre : List MoveZ), ∀ w ∈ waysL pre (lineT (firstP t)), w ∈ waysL pre t := by
  refine br_indL (PB := fun b => ∀ (pre : List MoveZ), ∀ w ∈ waysL pre (lineT (firstPB b)), w ∈ waysB pre b) (PL := fun t => ∀ (pre : List MoveZ), ∀ w ∈ waysL pre (lineT (firstP t)), w ∈ waysL pre t) ?_ ?_ ?_
  ·intro m c ks ih pre w hw
   rw [firstPB, lineT, waysL, waysL, List.append_nil, waysB, List.mem_cons] at hw
   rw [waysB, List.mem_cons]
   rcases hw with h | h
   ·exact .inl h
   ·exact .inr (ih _ w h)
  ·intro pre w hw; rw [firstP, lineT, waysL] at hw; cases hw
  ·intro b l h1 _ pre w hw
   rw [firstP] at hw
   rw [waysL, List.mem_append]
   exact .inl (h1 pre w hw)
 have c : ∀ t : List BrZ, cokL t → cokL (lineT (firstP t)) := by
  refine br_indL (PB := fun b => cokB b → cokL (lineT (firstPB b))) (PL := fun t => cokL t → cokL (lineT (firstP t))) ?_ ?_ ?_
  ·intro m c ks ih h
   rw [cokB] at h
   rw [firstPB, lineT, cokL, cokB, cokL]
   exact ⟨⟨h.1, ih h.2⟩, trivial⟩
  ·intro _; rw [firstP, lineT, cokL]; trivial
  ·intro b l h1 _ h
   rw [cokL] at h
   rw [firstP]
   exact h1 h.1
 exact ⟨d _, fun x hx => h.run x (w t [] x hx), c t h.cok⟩
theorem plain_dep (l : List (MoveZ × ByteArray)) (ds : List Int) (hd : ∀ k, ds.getD k 0 = 0) (i : Nat) (hi : i < l.length) : depE (plainN l (-1)) ds i = 0 := by
 have hp := plain_par l (-1) i hi
 have hs : sibB (plainN l (-1)) i = false := by
  cases hb : sibB (plainN l (-1)) i
  ·rfl
  ·unfold sibB at hb
   rw [List.any_eq_true] at hb
   obtain ⟨y, hy, he⟩ := hb
   obtain ⟨j, hj, rfl⟩ := List.mem_take_iff_getElem.1 hy
   have hjl : j < (plainN l (-1)).length := by omega
   have hq := plain_par l (-1) j (by rw [plainN_len] at hjl; exact hjl)
   rw [nd_get _ j hjl] at hq
   simp only [beq_iff_eq] at he
   rw [hq, hp] at he
   omega
 unfold depE
 rw [hs, hd, hd]
 simp
theorem plain_nodes {R : RulesZ} {l : List (MoveZ × ByteArray)} (h : TreesOK R (lineT l)) : ∀ (m i : Nat) (ds : List Int), i + m = l.length → (∀ k, ds.getD k 0 = 0) → nodesE R (plainN l (-1)) m i ds = 0
 | 0, i, ds, _, _ => rfl
 | m + 1, i, ds, hm, hd => by
  have hdep := plain_dep l ds hd i (by omega)
  have e := node_err_eq h ds i (by rw [flat_plain, plainN_len]; omega)
  rw [flat_plain, hdep, if_neg (by decide)] at e
  rw [nodesE, if_neg (by simp [e]), hdep]
  refine plain_nodes h m (i + 1) _ (by omega) (fun k => ?_)
  rw [List.getD_eq_getElem?_getD, List.getElem?_set]
  split
  ·split <;> rfl
  ·rw [← List.getD_eq_getElem?_getD]; exact hd k
/-- the main line alone is a record. -/
theorem plain_rec {R : RulesZ} {Y Z : RecZ} (h : recErr R Y = 0) (hn : Z.nodes = plainN (firstP (trees Y)) (-1)) (ht : Z.tags = Y.tags) (hc : Z.comment = Y.comment) (hr : Z.result = Y.result) : recErr R Z = 0 := by
 obtain ⟨h1, -, h2⟩ := rec_nodes h
 obtain ⟨-, c1, c2, c3, c4⟩ := rec_cmt h
 have ok := first_ok (trees_ok h)
 have hl : (firstP (trees Y)).length ≤ Y.nodes.length := by
  have a := (flat_ok (lineT (firstP (trees Y)))).len
  rw [flat_plain, plainN_len] at a
  have b := nodup_len_le (waysL_nodup _ [] ok.dist) (b := waysL [] (trees Y)) (fun w hw => by
   have w' : ∀ t : List BrZ, ∀ (pre : List MoveZ), ∀ w ∈ waysL pre (lineT (firstP t)), w ∈ waysL pre t := by
    refine br_indL (PB := fun b => ∀ (pre : List MoveZ), ∀ w ∈ waysL pre (lineT (firstPB b)), w ∈ waysB pre b) (PL := fun t => ∀ (pre : List MoveZ), ∀ w ∈ waysL pre (lineT (firstP t)), w ∈ waysL pre t) ?_ ?_ ?_
    ·intro m c ks ih pre w hw
     rw [firstPB, lineT, waysL, waysL, List.append_nil, waysB, List.mem_cons] at hw
     rw [waysB, List.mem_cons]
     rcases hw with h | h
     ·exact .inl h
     ·exact .inr (ih _ w h)
    ·intro pre w hw; rw [firstP, lineT, waysL] at hw; cases hw
    ·intro b l h1 _ pre w hw
     rw [firstP] at hw
     rw [waysL, List.mem_append]
     exact .inl (h1 pre w hw)
   exact w' _ [] w hw)
  rw [trees_len h] at b
  omega
 unfold recErr
 rw [if_neg (by simp [h1]), ht, hn, plainN_len, if_neg (by omega), if_neg (by simp [c1]), hr, if_neg (by omega), hc, if_neg (by simp [c3])]
 exact plain_nodes ok _ 0 _ (by omega) (fun k => by
  rw [List.getD_eq_getElem?_getD, List.getElem?_replicate]
  split <;> rfl)
/-- its main line is the same. -/
theorem plain_main {Z : RecZ} (l : List (MoveZ × ByteArray)) (hn : Z.nodes = plainN l (-1)) : firstL (trees Z) = l.map (·.1) := by
 unfold trees
 rw [hn, ← flat_plain, tree_flat, first_line]
/-- and it has one end. -/
theorem plain_kids (l : List (MoveZ × ByteArray)) (i : Nat) (hi : i < l.length) : kidsZ (plainN l (-1)) (i : Int) = if i + 1 < l.length then [i + 1] else [] := by
 have hlen := plainN_len l (-1)
 split
 ·rename_i h
  rw [kidsZ_in (plainN l (-1)) (i : Int) (i + 1) (i + 2) (by omega) (by omega) (fun k hk he => by
   rw [plain_par l (-1) k (by omega)] at he; omega)]
  exact kidsIn_one _ _ _ (by rw [plain_par l (-1) (i + 1) h]; omega)
 ·rename_i h
  rw [kidsZ_in (plainN l (-1)) (i : Int) 0 0 (Nat.le_refl _) (Nat.zero_le _) (fun k hk he => by
   rw [plain_par l (-1) k (by omega)] at he; omega)]
  exact kidsIn_nil _ _ _
end Go.Proofs.YtnieifdogllbfaaGreat

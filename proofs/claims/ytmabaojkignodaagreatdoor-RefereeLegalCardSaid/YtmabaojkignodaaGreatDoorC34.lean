/- RfD, MaX, MaY, RfE, OpenR, OpenM, OpenP, OpenV, MaOp. -/
import Derived.Test.YtmabaojkignodaaGreatDoorC33
import Derived.Deep.Fields
import Derived.Stop.LaidErr
import Derived.LaidMore
import Derived.ChangeSame
import Derived.ChangeVars
namespace Go.Proofs.YtmabaojkignodaaGreatDoor
open Go.ChangeShapes Go.WideShapes Go.ChangeAt Go.RowKit
set_option linter.unusedVariables false
open Go.Lib (hid)
theorem TM (i n : Nat) (pl nn : Int) (m : aN) (w : World) (hi : i < n) (hp : pl = 0 ∨ pl = 1) :
  Calls Tryz.prog 64 #[.agg #[.int .i64 0, .int .i64 (i : Int), .int .i64 pl, .int .i64 nn, .int .i64 m.src, .int .i64 m.dst, .int .i64 m.piece], .int .i64 (n : Int)] w fun e w' => e = .returned (.int .i64 0) ∧ Below w.heap.size w w' := by
 have hii : ¬ ((n : Int) ≤ (i : Int)) := by omega
 have hi0 : ¬ ((i : Int) < 0) := by omega
 clear hi
 go_enter Tryz.func64, Tryz.ntmps64
 go_upto_region 1 with (fail)
 refine lM fun w0 jU dM hs_ => ?_
 have HX := hid jU
 have HB := hid dM
 clear hs_ jU dM
 have c0 := HX.out.cell 0 rfl
 have c1 := HX.out.cell 1 rfl
 have c2 := HX.out.cell 2 rfl
 have c3 := HX.out.cell 3 rfl
 rcases hp with rfl | rfl
 ·go_wp2_with fail
  go_ret
  exact ⟨rfl, HB.out⟩
 ·go_wp2_with fail
  go_ret
  exact ⟨rfl, HB.out⟩
theorem Fh {w : World} {v : Value} {zs : List Int} (h : kM w v zs) : v.oneCell' = true := by
 obtain ⟨a, c, rfl, _⟩ := h.form
 rfl
theorem WL {w : World} {x : qX} (h : pX w x.M.pos x.vc x.v0 x.v1) : Zj x := ⟨Fh h.1, Fh h.2.1, Fh h.2.2⟩
theorem acr (M : aG) (e : iY) : (M.go e).1.R = M.R := by
 unfold aG.go
 split
 ·rfl
 split
 ·rfl
 ·show (aG.over (aG.put (M.kind e).1 e)).R = _
  rw [(sS _).2.2.1]
  exact (jD M e).2.1
theorem TN : ∀ (es : List iY) (M : aG), (goes M es).R = M.R
 | [], M => rfl
 | e :: es, M => (TN es (M.go e).1).trans (acr M e)
set_option maxRecDepth 100000 in
set_option maxHeartbeats 16000000 in
theorem BM (HL : LdS) (R : aC) (CR : nJ) (vp vs ve : Value) (pa : Option Addr) (pc : Nat) (es : List iY) (vj : Value) (i : Nat) (pl nn : Int) (m : aN) (w : World) (hr : ru w R vp vs ve) (hnm : R.name.size ≤ maxLen) (hp : clk.dV w w.heap.size pa CR.ps.length CR.ps) (h1 : CR.ps.length ≤ pc) (h2 : pc ≤ maxLen)
  (hre : aW R = 0) (hro : clk.cu CR.ps.length CR.inc CR.delay CR.ps) (hj : zL w vj (goes (dh R CR 0) es).jr) (hacc : nP (dh R CR 0) es) (hok : ∀ e ∈ es, wW e) (hle : es.length ≤ 60) (ht : Tab w.heap.size w) (hm : LY w.heap.size w) (hi : i < es.length + 1) (hpl : pl = 0 ∨ pl = 1) :
  Calls Tryz.prog 24 #[.agg #[.string R.name, .int .i64 R.width, .int .i64 R.height, vp, vs, .bool R.falls, .bool R.keeps, ve, .int .i64 R.blocked, .int .i64 R.quiet, .int .i64 R.bF], .agg #[.slice pa CR.ps.length pc, .int .i64 CR.inc, .int .i64 CR.delay], vj, .agg #[.int .i64 0, .int .i64 (i : Int), .int .i64 pl, .int .i64 nn, .int .i64 m.src, .int .i64 m.dst, .int .i64 m.piece]] w fun e w' => e = .returned (.tuple #[.bool (kS (goes (dh R CR 0) (es.take (i - 1))) pl m), .int .i64 0]) ∧ Below w.heap.size w w' := by
 have HRp : Hid (∀ w1, Below w.heap.size w w1 → Calls Tryz.prog 63 #[.agg #[.string R.name, .int .i64 R.width, .int .i64 R.height, vp, vs, .bool R.falls, .bool R.keeps, ve, .int .i64 R.blocked, .int .i64 R.quiet, .int .i64 R.bF], .agg #[.slice pa CR.ps.length pc, .int .i64 CR.inc, .int .i64 CR.delay], vj] w1 (BK (dh R CR 0) es w1)) := hid (fun w1 hb => KF HL R CR vp vs ve pa pc es vj w1 (hr.below hb (Nat.le_refl _)) hnm (hp.below hb) h1 h2 hre hro (hj.below hb (Nat.le_refl _)) hacc hok hle (ht.mono hb.size hb) ((hm.below hb).mono hb.size))
 have HS := hid HL.so
 have HR := hid hr
 have I7 := hid hle
 have HI := hid hi
 have yS := hid hpl
 have HGR : Hid (∀ k, (goes (dh R CR 0) (es.take k)).R = R) := hid (fun k => by rw [TN]; unfold dh; rw [(sS _).2.2.1])
 clear HL hr hnm hp h1 h2 hre hro hj hacc hok hle ht hm hi hpl
 generalize dh R CR 0 = M0 at *
 go_enter Tryz.func24, Tryz.ntmps24
 go_upto_region 1 with (fail)
 have HX0 := hid (((Box.new' w w.heap.size [.string R.name, .int .i64 R.width, .int .i64 R.height, vp, vs, .bool R.falls, .bool R.keeps, ve, .int .i64 R.blocked, .int .i64 R.quiet, .int .i64 R.bF] 46 rfl).alloc (.cells #[.slice pa CR.ps.length pc, .int .i64 CR.inc, .int .i64 CR.delay] 49)).alloc (.cells #[.int .i64 0, .int .i64 (i : Int), .int .i64 pl, .int .i64 nn, .int .i64 m.src, .int .i64 m.dst, .int .i64 m.piece] 86))
 have dn := hid ((Box.new' (w.alloc (.cells #[.string R.name, .int .i64 R.width, .int .i64 R.height, vp, vs, .bool R.falls, .bool R.keeps, ve, .int .i64 R.blocked, .int .i64 R.quiet, .int .i64 R.bF] 46)) (w.heap.size + 1) [.slice pa CR.ps.length pc, .int .i64 CR.inc, .int .i64 CR.delay] 49 (by simp)).alloc (.cells #[.int .i64 0, .int .i64 (i : Int), .int .i64 pl, .int .i64 nn, .int .i64 m.src, .int .i64 m.dst, .int .i64 m.piece] 86))
 have jH := hid (Box.new' ((w.alloc (.cells #[.string R.name, .int .i64 R.width, .int .i64 R.height, vp, vs, .bool R.falls, .bool R.keeps, ve, .int .i64 R.blocked, .int .i64 R.quiet, .int .i64 R.bF] 46)).alloc (.cells #[.slice pa CR.ps.length pc, .int .i64 CR.inc, .int .i64 CR.delay] 49)) (w.heap.size + 2) [.int .i64 0, .int .i64 (i : Int), .int .i64 pl, .int .i64 nn, .int .i64 m.src, .int .i64 m.dst, .int .i64 m.piece] 86 (by simp))
 have HB : Hid (Below w.heap.size w (((w.alloc (.cells #[.string R.name, .int .i64 R.width, .int .i64 R.height, vp, vs, .bool R.falls, .bool R.keeps, ve, .int .i64 R.blocked, .int .i64 R.quiet, .int .i64 R.bF] 46)).alloc (.cells #[.slice pa CR.ps.length pc, .int .i64 CR.inc, .int .i64 CR.delay] 49)).alloc (.cells #[.int .i64 0, .int .i64 (i : Int), .int .i64 pl, .int .i64 nn, .int .i64 m.src, .int .i64 m.dst, .int .i64 m.piece] 86))) := hid ((((Below.refl w.heap.size w).alloc (Nat.le_refl _) _).alloc (by simp) _).alloc (by simp; omega) _)
 generalize (((w.alloc (.cells #[.string R.name, .int .i64 R.width, .int .i64 R.height, vp, vs, .bool R.falls, .bool R.keeps, ve, .int .i64 R.blocked, .int .i64 R.quiet, .int .i64 R.bF] 46)).alloc (.cells #[.slice pa CR.ps.length pc, .int .i64 CR.inc, .int .i64 CR.delay] 49)).alloc (.cells #[.int .i64 0, .int .i64 (i : Int), .int .i64 pl, .int .i64 nn, .int .i64 m.src, .int .i64 m.dst, .int .i64 m.piece] 86)) = w0 at *
 refine wp_region_lit ?_
 refine aB (by rfl) 46 (.tmp 4) (by rfl) (w.heap.size) (by rfl) HX0.out Tryz.underlying46 (by rfl) (by kernel_rfl) ?_
 refine aB (by rfl) 49 (.tmp 5) (by rfl) (w.heap.size + 1) (by rfl) dn.out Tryz.underlying49 (by rfl) (by kernel_rfl) ?_
 go_wp2_with fail
 refine (HRp.out w0 HB.out).mono ?_
 rintro e w1 ⟨v, l, rfl, hb1, ho1, hp1, hk1, hms⟩
 obtain ⟨va, vc, rfl⟩ := aI ho1
 have HB1 := hid (HB.out.trans (hb1.mono HB.out.size))
 have oC := hid (HX0.out.stays hb1)
 have dZ := hid (dn.out.stays hb1)
 have Hq := hid (jH.out.stays hb1)
 have IQ := hid ho1
 have HP1 := hid hp1
 have MV := hid hk1
 have HMs := hid hms
 have HBs := hid hb1.size
 clear hb1 ho1 hp1 hk1 hms HX0 dn jH HRp
 go_upto_region 4 with (fail)
 refine wp_region_lit ?_
 refine aB (by rfl) 86 (.tmp 7) (by rfl) (w.heap.size + 2) (by rfl) Hq.out Tryz.underlying86 (by rfl) (by kernel_rfl) ?_
 go_wp2_with fail
 refine (TM i (es.length + 1) pl nn m w1 HI.out yS.out).mono ?_
 rintro e w2 ⟨rfl, hb2⟩
 have HB2 := hid (HB1.out.trans (hb2.mono HB1.out.size))
 have Ol := hid (oC.out.stays hb2)
 have Om := hid (dZ.out.stays hb2)
 have Vr := hid (Hq.out.stays hb2)
 have uw := hid (bK IQ.out hb2)
 have HP2 : Hid (∀ x ∈ l, pX w2 x.M.pos x.vc x.v0 x.v1) := hid (fun x hx => (HP1.out x hx).below hb2 (Nat.le_refl _))
 have HR2 := hid (HR.out.below HB2.out (Nat.le_refl _))
 have hlen := HMs.out.len
 have hil : i < l.length := by have := HI.out; omega
 have hjl : i - 1 < l.length := by omega
 have HV : Hid (l[i - 1].M = goes M0 (es.take (i - 1))) := hid (HMs.out.at' _ hjl).1
 have HD := hid (KH HS.out R CR vp vs ve pa pc w0.heap.size (.slice va (es.length + 1) vc) l i (i - 1) pl nn m w2 HR2.out (by rw [hlen]; exact uw.out) hil hjl (by omega) (by have := I7.out; omega) (fun x hx => WL (HP2.out x hx)) (by rw [HV.out]; exact HGR.out _) (HP2.out _ (List.getElem_mem hjl)) (MV.out _ (List.getElem_mem hjl)))
 rw [HV.out] at HD
 clear hb2 oC dZ Hq HB1 IQ HP1 uw HP2 HR2 hlen hil hjl HV
 go_upto_region 7 with (fail)
 refine wp_region_lit ?_
 refine aB (by rfl) 46 (.tmp 4) (by rfl) (w.heap.size) (by rfl) Ol.out Tryz.underlying46 (by rfl) (by kernel_rfl) ?_
 refine aB (by rfl) 49 (.tmp 5) (by rfl) (w.heap.size + 1) (by rfl) Om.out Tryz.underlying49 (by rfl) (by kernel_rfl) ?_
 try simp only [Act.put, List.setIfInBounds_toArray, List.set_cons_zero, List.set_cons_succ]
 refine wpList_plain (by rfl) (fun K hK => ?_)
 go_simp
 refine hK _ _ ?_
 clear hK K
 try simp only [Act.put, List.setIfInBounds_toArray, List.set_cons_zero, List.set_cons_succ]
 refine aB (by rfl) 86 (.tmp 7) (by rfl) (w.heap.size + 2) (by rfl) Vr.out Tryz.underlying86 (by rfl) (by kernel_rfl) ?_
 go_wp2_with fail
 refine HD.out.mono ?_
 rintro e w3 ⟨rfl, hb3⟩
 have HB3 := hid (HB2.out.trans (hb3.mono HB2.out.size))
 clear hb3
 go_wp2_with fail
 go_ret2
 exact ⟨rfl, HB3.out⟩
theorem TP : ¬ Fa fJ nO := by
 intro h
 apply h
 refine ⟨by decide +kernel, ?_⟩
 refine ⟨by decide, by decide, by decide, fun k hk => ?_⟩
 obtain rfl : k = 0 := by have : k < 1 := hk; omega
 decide
theorem acs (n : Int) (w : World) : Calls Tryz.prog 40 #[.int .i64 n] w fun e w' => e = .returned (.agg #[.int .i64 (-1), .int .i64 n, .int .i64 0]) ∧ Below w.heap.size w w' := by
 go_enter Tryz.func40, Tryz.ntmps40
 go_wp2
 exact bodyPost_ret (v := .agg #[.int .i64 (-1), .int .i64 n, .int .i64 0]) (by simp [results, Tryz.results40, go_sem]) rfl ⟨rfl, by go_grown⟩
theorem ZC : clk.cu nO.ps.length nO.inc nO.delay nO.ps := by
 refine ⟨by decide, by decide, by decide, fun k hk => ?_⟩
 obtain rfl : k = 0 := by have : k < 1 := hk; omega
 decide
end Go.Proofs.YtmabaojkignodaaGreatDoor
namespace Go.Proofs.YtmabaojkignodaaGreatDoor
open Go.ChangeShapes Go.WideShapes Go.ChangeAt Go.RowKit
set_option linter.unusedVariables false
variable {X S : Nat → Prop} {base b : Nat} {M : aG} {B : jv}
def TQ : El iY where
 k := 7
 E := fun _ x cs => cs = [.int .i64 x.kind, .int .i64 x.au, .int .i64 x.n, .int .i64 x.now, .int .i64 x.m.src, .int .i64 x.m.dst, .int .i64 x.m.piece] ∧ wW x
 mono := fun h _ _ => h
 len := fun h => by rw [h.1]; rfl
theorem ZE {w : World} {a : Option Addr} {n c : Nat} {xs : List iY} (h : gI TQ w (.slice a n c) xs) (i : Nat) (hi : i < xs.length) : ∃ g o, a = some ⟨g, o, none⟩ ∧ g < w.heap.size ∧ wW xs[i] ∧ w.cell? ⟨g, o + i * 7, none⟩ = some (.int .i64 xs[i].kind) ∧ w.cell? ⟨g, o + i * 7 + 1, none⟩ = some (.int .i64 xs[i].au) ∧
  w.cell? ⟨g, o + i * 7 + 2, none⟩ = some (.int .i64 xs[i].n) ∧ w.cell? ⟨g, o + i * 7 + 3, none⟩ = some (.int .i64 xs[i].now) ∧ w.cell? ⟨g, o + i * 7 + 4, none⟩ = some (.int .i64 xs[i].m.src) ∧ w.cell? ⟨g, o + i * 7 + 5, none⟩ = some (.int .i64 xs[i].m.dst) ∧ w.cell? ⟨g, o + i * 7 + 6, none⟩ = some (.int .i64 xs[i].m.piece) := by
 obtain ⟨g, o, ha, hg, hc⟩ := h.some (by omega)
 obtain ⟨cs, ⟨rfl, hok⟩, hx⟩ := hc i hi
 exact ⟨g, o, ha, hg, hok, hx 0 (by show 0 < 7; omega), hx 1 (by show 1 < 7; omega), hx 2 (by show 2 < 7; omega), hx 3 (by show 3 < 7; omega), hx 4 (by show 4 < 7; omega), hx 5 (by show 5 < 7; omega), hx 6 (by show 6 < 7; omega)⟩
theorem aH.afU {w : World} (h : aH X S base w b M B) (k : Nat) (hk : S k ∨ one1 b k) : k < w.heap.size := by
 obtain ⟨up, us, ue, vl, vm, rows, hg⟩ := h.game
 rcases hk with hk | hk
 ·exact (hg.lo k hk).2
 ·rw [show k = b from hk]; exact h.box.lt
end Go.Proofs.YtmabaojkignodaaGreatDoor
namespace Go.Proofs.YtmabaojkignodaaGreatDoor
open Go.ChangeShapes Go.WideShapes Go.ChangeAt Go.RowKit
set_option linter.unusedVariables false
set_option maxHeartbeats 16000000
set_option maxRecDepth 100000
open Go.Lib (hid)
theorem ZF : aW fJ = 0 := by decide +kernel
theorem ZG : kS (dh fJ nO 0) 0 ⟨-1, 0, 0⟩ = true := by
 rw [Wv]
 have h3 : (⟨-1, 0, 0⟩ : aN) ∈ iF fJ (bn fJ []) := vW.2 (by decide +kernel)
 show (((0 : Int) == 0) && (((bn fJ []).turn == 0) && decide ((⟨-1, 0, 0⟩ : aN) ∈ iF fJ (bn fJ [])))) = true
 rw [show ((bn fJ []).turn == 0) = true from rfl]
 simp [h3]
theorem WM {CR : nJ} (h : xU CR) : clk.cu CR.ps.length CR.inc CR.delay CR.ps := by
 refine ⟨h.n, h.inc, h.del, fun k hk => ?_⟩
 have hz := h.pz k hk
 unfold clk.jT
 rw [clk.dU (h.pm k hk), clk.dU (h.pt k hk), Bool.true_and, Bool.true_and, beq_iff_eq]
 by_cases h0 : (CR.ps.getD k (0, 0)).1 = 0
 ·have := hz.1 h0
  rw [show ((CR.ps.getD k (0, 0)).1 == 0) = true by simpa using h0, show ((k : Int) == (CR.ps.length : Int) - 1) = true by simp; omega]
 ·have : ¬ (k + 1 = CR.ps.length) := fun hc => h0 (hz.2 hc)
  rw [show ((CR.ps.getD k (0, 0)).1 == 0) = false by simpa using h0, show ((k : Int) == (CR.ps.length : Int) - 1) = false by simp; omega]
theorem KO (HL : LdS) (w : World) (ht : Tab w.heap.size w) (hm : LY w.heap.size w) : Calls Tryz.prog 22 #[] w fun e w' => e = .returned (.bool true) ∧ Below w.heap.size w w' := by
 have HS := hid HL
 have nT := hid ht
 have Uz := hid hm
 clear HL ht hm
 go_enter Tryz.func22, Tryz.ntmps22
 go_upto_region 1 with (fail)
 go_wp2_with fail
 refine (zJ _).mono ?_
 rintro e w1 ⟨vp, vs, ve, rfl, hr, hb1⟩
 have HR := hid hr
 have HB1 := hid hb1
 clear hr hb1
 go_wp2_with fail
 refine (BA _).mono ?_
 rintro e w2 ⟨rfl, hp, hb2⟩
 have HR2 := hid (HR.out.below hb2 (Nat.le_refl _))
 have HB2 := hid (HB1.out.trans (hb2.mono HB1.out.size))
 have HP := hid hp
 have HT2 := hid (nT.out.mono HB2.out.size HB2.out)
 have hpm : w1.heap.size + 1 < w2.heap.size := by
  obtain ⟨g, o, hg, hlt, _⟩ := hp.2 (by decide)
  cases hg
  exact hlt
 clear hb2 hp HR
 go_wp2_with fail
 refine (BF HS.out.so HS.out.it fJ nO vp vs ve (some ⟨w1.heap.size + 1, 0, none⟩) 1 0 w2 HR2.out (by decide +kernel) HP.out (by decide) (by decide) (by decide) (by decide) HT2.out).mono ?_
 rintro e w3 (⟨c, ⟨_, hbad⟩, rfl, _⟩ | ⟨_, hcg, base, S, b, B, rfl, hm, hb0, hb1, hb3⟩)
 ·exact absurd hbad TP
 have HM := hid hm
 have HB3 := hid (HB2.out.trans (hb3.mono HB2.out.size))
 clear hm hb0 hb1 hb3 HR2 HP HT2 HB2 hpm
 go_upto_region 4 with (fail)
 go_wp2_with fail
 refine (zJ _).mono ?_
 rintro e w4 ⟨vp2, vs2, ve2, rfl, hr4, hb4⟩
 have HR4 := hid hr4
 have HB4 := hid (HB3.out.trans (hb4.mono HB3.out.size))
 have qh := hid (HM.out.below hb4)
 clear hr4 hb4 HM HB3
 go_wp2_with fail
 refine (BA _).mono ?_
 rintro e w5 ⟨rfl, hp5, hb5⟩
 have Us := hid (HR4.out.below hb5 (Nat.le_refl _))
 have mW := hid (HB4.out.trans (hb5.mono HB4.out.size))
 have zu := hid (qh.out.below hb5)
 have HP5 := hid hp5
 clear hp5 hb5 qh HR4 HB4
 go_wp2_with fail
 refine (yU w5 zu.out (by rw [Y8]; decide)).mono ?_
 rintro e w6 ⟨v6, rfl, hj6, hb6⟩
 have CU := hid (Us.out.below hb6 (Nat.le_refl _))
 have zD := hid (mW.out.trans (hb6.mono mW.out.size))
 have HJ6 := hid (show zL w6 v6 (dh fJ nO 0).jr from Rd.fD hj6)
 have HP6 := hid (HP5.out.below hb6)
 clear hj6 hb6 zu Us mW HP5
 go_wp2_with fail
 refine (acs 0 _).mono ?_
 rintro e w7 ⟨rfl, hb7⟩
 have AZ := hid (CU.out.below hb7 (Nat.le_refl _))
 have uD := hid (zD.out.trans (hb7.mono zD.out.size))
 have HJ7 := hid (HJ6.out.below hb7 (Nat.le_refl _))
 have HP7 := hid (HP6.out.below hb7)
 have HD := hid (BM HS.out fJ nO vp2 vs2 ve2 (some ⟨w4.heap.size + 1, 0, none⟩) 1 [] v6 0 0 0 ⟨-1, 0, 0⟩ w7 AZ.out (by decide +kernel) HP7.out (by decide) (by decide) ZF ZC HJ7.out trivial (fun e he => by cases he) (by simp) (nT.out.mono uD.out.size uD.out) ((Uz.out.below uD.out).mono uD.out.size) (by simp) (.inl rfl))
 rw [show goes (dh fJ nO 0) (([] : List iY).take (0 - 1)) = dh fJ nO 0 from rfl, ZG] at HD
 clear hb7 CU zD HJ6 HP6 AZ HJ7 HP7
 go_wp2_with fail
 refine HD.out.mono ?_
 rintro e w8 ⟨rfl, hb8⟩
 have HB8 := hid (uD.out.trans (hb8.mono uD.out.size))
 clear hb8
 go_wp2_with fail
 go_ret
 exact ⟨rfl, HB8.out⟩
theorem KP (HL : LdS) (CR : nJ) (pa : Option Addr) (pc : Nat) (vl : Value) (KQ : List iY) (w : World) (hp : clk.dV w w.heap.size pa CR.ps.length CR.ps) (h1 : CR.ps.length ≤ pc) (h2 : pc ≤ maxLen) (hl : gI TQ w vl KQ) (ht : Tab w.heap.size w) (hm : LY w.heap.size w) :
  Calls Tryz.prog 5 #[.agg #[.slice pa CR.ps.length pc, .int .i64 CR.inc, .int .i64 CR.delay], vl] w fun e w' => e = .returned (.bool true) ∧ Below w.heap.size w w' := by
 have HS := hid HL
 have HP := hid hp
 have iH := hid (And.intro h1 h2)
 have nT := hid ht
 have Uz := hid hm
 obtain ⟨ea, ec, rfl, he1, he2⟩ := hl.form
 unfold maxLen at he2
 obtain ⟨L, hL⟩ : ∃ L, L = min KQ.length 15 := ⟨_, rfl⟩
 have m1 : L ≤ KQ.length := by omega
 have m2 : L ≤ 15 := by omega
 have hmin : (if (15 : Int) < (KQ.length : Int) then (15 : Int) else (KQ.length : Int)) = (L : Int) := by split <;> omega
 have m3 : L ≤ ec := by omega
 have jy := hid (hl.take L m1)
 have hgl : (KQ.take L).length = L := by rw [List.length_take]; omega
 clear HL hp h1 h2 hl ht hL hm
 generalize KQ.take L = evs at jy hgl
 go_enter Tryz.func5, Tryz.ntmps5
 go_upto_region 1 with (fail)
 refine lM fun w0 jU dM hs_ => ?_
 have HX := hid jU
 have HB := hid dM
 clear hs_ jU dM
 go_wp2_with fail
 refine (KO HS.out w0 (nT.out.mono HB.out.size HB.out) ((Uz.out.below HB.out).mono HB.out.size)).mono ?_
 rintro e w1 ⟨rfl, hb1⟩
 have HB1 := hid (HB.out.trans (hb1.mono HB.out.size))
 have dn := hid (HX.out.stays hb1)
 clear hb1 HX HB
 go_upto_region 4 with (fail)
 clear hmin
 generalize w1 = wq at *
 have Xz := dn.out.drew
 have Lz : Below w.heap.size w wq.drew := aA HB1.out
 clear dn HB1
 refine wp_region_noPanic ?_
 refine bG (S := (fun w' => w'.cell? ⟨w.heap.size, 0, none⟩ = some (.slice pa CR.ps.length pc) ∧ w'.cell? ⟨w.heap.size, 1, none⟩ = some (.int .i64 CR.inc) ∧ w'.cell? ⟨w.heap.size, 2, none⟩ = some (.int .i64 CR.delay))) (L := []) (by kernel_rfl) (by and_intros <;> exact Xz.cell _ rfl) (fun hHeld => ?_)
 refine dL 1 ?_
 refine dO 0 fun K hK => ?_
 go_simp
 refine (zJ _).mono ?_
 rintro e w2 ⟨vp, vs, ve, rfl, hr2, hb2⟩
 have X2 := Xz.stays hb2
 have L2 := Lz.trans (hb2.mono Lz.size)
 clear hb2
 refine hK.out _ _ (by and_intros <;> exact X2.cell _ rfl) (fun hHeld => ?_)
 clear hK K
 refine dO 2 fun K hK => ?_
 go_simp
 refine (BF HS.out.so HS.out.it fJ CR vp vs ve pa pc 0 w2 hr2 (by decide +kernel) (HP.out.below L2) iH.out.1 iH.out.2 (by decide) (by decide) (nT.out.mono L2.size L2)).mono ?_
 rintro e w3 (⟨c, ⟨hc0, hbad⟩, rfl, hb3⟩ | ⟨hre, hcg, base, S0, b, B0, rfl, hm, hb0, hb1, hb3⟩)
 ·have X3 := X2.stays hb3
  have L3 := L2.trans (hb3.mono L2.size)
  refine hK.out _ _ (by and_intros <;> exact X3.cell _ rfl) (fun hHeld => ?_)
  clear hK K
  refine aF 3 ?_
  refine aF 4 ?_
  refine aF 5 ?_
  refine aF 6 ?_
  refine aF 7 ?_
  refine iE ?_
  have hcb : (c != 0) = true := by simpa using hc0
  have HB3 := hid L3
  clear hb3 hbad hc0 X3 L3 X2 L2 Xz Lz hr2 hHeld
  go_wp2_with fail
  go_ret
  exact ⟨rfl, HB3.out⟩
 have X3 := X2.stays hb3
 have L3 := L2.trans (hb3.mono L2.size)
 refine hK.out _ _ (by and_intros <;> exact X3.cell _ rfl) (fun hHeld => ?_)
 clear hK K
 refine aF 3 ?_
 refine aF 4 ?_
 refine aF 5 ?_
 refine aF 6 ?_
 refine aF 7 ?_
 refine iE ?_
 have HXl : Hid (w.heap.size < base) := hid (Nat.lt_of_lt_of_le X2.lt hb0)
 have CS := hid X3
 have HB3 := hid L3
 have nR := hid hm
 have qg := hid (And.intro (Nat.le_trans L2.size hb0) hb1)
 clear hm hb0 hb1 hb3 X3 L3 X2 L2 Xz Lz hr2 hHeld
 have qW : Hid (aW fJ = 0 ∧ clk.cu CR.ps.length CR.inc CR.delay CR.ps) := hid ⟨hre, WM hcg⟩
 have WG : Hid (∀ es, (∀ e ∈ es, wW e) → MInv (goes (dh fJ CR 0) es) ∧ (goes (dh fJ CR 0) es).ms.length ≤ 400) := hid (fun es he => xg es _ (BG fJ CR 0 (by decide +kernel) hcg (by decide) (by decide)) (by rw [KD]; decide) he)
 clear hre hcg
 subst hgl
 have Zf := hid (fun (W : World) (hb : Below w.heap.size w W) => jy.out.below hb (Nat.le_refl _))
 have I7 : Hid (evs.length ≤ 15) := hid m2
 clear jy m1 m3 he1
 go_wp2_with fail
 go_loopw [29, 7, 9, 10, 11] (fun v29 v7 v9 v10 v11 wr => ∃ (k : Nat) (es : List iY) (S : Nat → Prop) (B : jv) (o9 o10 o11 : Value), o9 = v9 ∧ o10 = v10 ∧ o11 = v11 ∧ k ≤ evs.length ∧ es.length ≤ k ∧ v29 = .int .i64 k ∧ v7 = .int .i64 (es.length : Nat) ∧ nP (dh fJ CR 0) es ∧ (∀ e ∈ es, wW e) ∧ Hid (aH Ut S base wr b (goes (dh fJ CR 0) es) B) ∧ Hid (base ≤ wr.heap.size) ∧ Hid (Below w.heap.size w wr) ∧ Hid (Box wr w.heap.size [.slice pa CR.ps.length pc, .int .i64 CR.inc, .int .i64 CR.delay] 49)) (fun v _ _ _ _ _ => evs.length - (intOf v).toNat)
 case atStart => exact ⟨0, [], S0, B0, _, _, _, rfl, rfl, rfl, Nat.zero_le _, Nat.le_refl _, rfl, rfl, trivial, (fun e he => by cases he), nR, hid qg.out.2, HB3, CS⟩
 clear nR HB3 CS
 case round =>
  obtain ⟨k, es, S, B, o9, o10, o11, rfl, rfl, rfl, hk, hek, rfl, rfl, hac, hok, HM, HBs, HBl, HX⟩ := hrel
  by_cases hlt : k < evs.length
  ·have hlz : (k : Int) < (evs.length : Int) := by omega
   obtain ⟨g, o, rfl, hg, acu, a0, a1, a2, a3, a4, a5, a6⟩ := ZE (Zf.out wr HBl.out) k hlt
   have acv := hid hac
   have acw := hid hok
   have acy := hid acu
   obtain ⟨hi1, hi2⟩ := WG.out es hok
   have hi3 : (goes (dh fJ CR 0) es).jr.length < 90 := by rw [yA hac]; have := I7.out; omega
   have LP : k + 1 ≤ 100000000 := by have := I7.out; omega
   have hes : es.length ≤ 15 := by have := I7.out; omega
   clear hac hok acu
   generalize evs[k] = x at *
   go_upto_region 11 with (fail)
   have gW := hid (Box.new wr [.int .i64 x.kind, .int .i64 x.au, .int .i64 x.n, .int .i64 x.now, .int .i64 x.m.src, .int .i64 x.m.dst, .int .i64 x.m.piece] 54)
   have HB1 : Hid (Below wr.heap.size wr (wr.alloc (.cells #[.int .i64 x.kind, .int .i64 x.au, .int .i64 x.n, .int .i64 x.now, .int .i64 x.m.src, .int .i64 x.m.dst, .int .i64 x.m.piece] 54))) := hid ((Below.refl wr.heap.size wr).alloc (Nat.le_refl _) _)
   generalize (wr.alloc (.cells #[.int .i64 x.kind, .int .i64 x.au, .int .i64 x.n, .int .i64 x.now, .int .i64 x.m.src, .int .i64 x.m.dst, .int .i64 x.m.piece] 54)) = w6 at *
   have OM := hid (HM.out.below HB1.out)
   have oG := hid (HX.out.stays HB1.out)
   have yJ := hid (HBl.out.trans (HB1.out.mono HBl.out.size))
   have hb6 : base ≤ w6.heap.size := Nat.le_trans HBs.out HB1.out.size
   have OH := hid (nT.out.mono qg.out.1 yJ.out)
   have UC := hid (KA HS.out.so HS.out.it HS.out.jo x w6 OM.out hb6 hi1 hi3 OH.out acy.out)
   have HEl : Hid (w.heap.size < wr.heap.size) := hid HX.out.lt
   have BU : Hid (∀ q, S q ∨ one1 b q → q < wr.heap.size ∧ base ≤ q) := hid (fun q hq => ⟨HM.out.afU q hq, by rcases hq with hq | hq; (obtain ⟨up, us, ue, vl, vm, rows, hgm⟩ := HM.out.game; exact (hgm.lo q hq).1); (rw [show q = b from hq]; exact HM.out.lo)⟩)
   have e0 := gW.out.cell 0 rfl
   have e1 := gW.out.cell 1 rfl
   have e2 := gW.out.cell 2 rfl
   have e3 := gW.out.cell 3 rfl
   have e4 := gW.out.cell 4 rfl
   have e5 := gW.out.cell 5 rfl
   have e6 := gW.out.cell 6 rfl
   clear hg a0 a1 a2 a3 a4 a5 a6 OH hi1 hi2 hi3
   go_wp2_with fail
   refine UC.out.mono ?_
   rintro e w7 ⟨rfl, S7, B7, XF, hs7, Mc⟩
   have uD := hid (yJ.out.trans ((aH.base' OM.out Mc hb6).mono qg.out.1))
   have FK := hid XF
   have hb7 : base ≤ w7.heap.size := Nat.le_trans hb6 Mc.size
   have VR := hid (oG.out.held Mc (fun hc => by
    have h1 := BU.out _ hc
    have h2 := qg.out.1
    have h3 := HXl.out
    omega))
   have Xo := hid (gW.out.held Mc (fun hc => by have h1 := BU.out _ hc; omega))
   clear XF hs7 Mc UC e0 e1 e2 e3 e4 e5 e6 OM oG gW
   by_cases hz : ((goes (dh fJ CR 0) es).go x).2 = 0
   ·have HAc := hid (SY acv.out hz)
    have afV := hid (OA hz)
    have HLg : Hid (x.kind = 0 → kS (goes (dh fJ CR 0) es) x.au x.m = true) := hid (fun hk => Tq hz hk)
    have ZH : Hid (∀ e ∈ es ++ [x], wW e) := hid (fun e he => by rcases List.mem_append.1 he with h | h; exact acw.out e h; (obtain rfl : e = x := by simpa using h); exact acy.out)
    have acz : Hid ((es ++ [x]).length ≤ 60) := hid (by rw [List.length_append]; simp; omega)
    have HTk : Hid (goes (dh fJ CR 0) ((es ++ [x]).take (es.length + 1 - 1)) = goes (dh fJ CR 0) es) := hid (by rw [Nat.add_sub_cancel, List.take_left' rfl])
    rw [← DW] at FK
    have HJ9 : Hid ((goes (dh fJ CR 0) (es ++ [x])).jr.length ≤ 100000) := hid (by rw [yA HAc.out]; have := acz.out; omega)
    rw [hz]
    clear hz
    go_upto_region 13 with (fail)
    generalize hE : wr.heap.size = E at *
    generalize w7 = wq at *
    have Xz := VR.out.drew
    have Ez := Xo.out.drew
    have Mz := FK.out.below (aA (Below.refl _ _))
    have Lz : Below w.heap.size w wq.drew := aA uD.out
    clear VR Xo FK uD
    refine wp_region_noPanic ?_
    refine bG (S := (fun w' => w'.cell? ⟨w.heap.size, 0, none⟩ = some (.slice pa CR.ps.length pc) ∧ w'.cell? ⟨w.heap.size, 1, none⟩ = some (.int .i64 CR.inc) ∧ w'.cell? ⟨w.heap.size, 2, none⟩ = some (.int .i64 CR.delay) ∧ w'.cell? ⟨E, 1, none⟩ = some (.int .i64 x.au) ∧ w'.cell? ⟨E, 4, none⟩ = some (.int .i64 x.m.src) ∧ w'.cell? ⟨E, 5, none⟩ = some (.int .i64 x.m.dst) ∧ w'.cell? ⟨E, 6, none⟩ = some (.int .i64 x.m.piece))) (L := []) (by kernel_rfl) (by and_intros <;> first | exact Xz.cell _ rfl | exact Ez.cell _ rfl) (fun hHeld => ?_)
    refine dL 1 ?_
    refine aF 2 ?_
    refine aF 4 ?_
    refine aF 5 ?_
    refine aF 7 ?_
    refine dL 6 ?_
    refine dL 8 ?_
    refine aF 9 ?_
    refine dO 0 fun K hK => ?_
    go_simp
    refine (zJ _).mono ?_
    rintro e w8 ⟨vp, vs, ve, rfl, hr8, hbb⟩
    have X8 := Xz.stays hbb
    have E8 := Ez.stays hbb
    have M8 := Mz.below hbb
    have L8 := Lz.trans (hbb.mono Lz.size)
    clear hbb
    refine hK.out _ _ (by and_intros <;> first | exact X8.cell _ rfl | exact E8.cell _ rfl) (fun hHeld => ?_)
    clear hK K
    refine dO 3 fun K hK => ?_
    go_simp
    refine (yU w8 M8 HJ9.out).mono ?_
    rintro e w9 ⟨v9, rfl, hj9, hbb⟩
    have hr9 := hr8.below hbb (Nat.le_refl _)
    have X9 := X8.stays hbb
    have E9 := E8.stays hbb
    have M9 := M8.below hbb
    have L9 := L8.trans (hbb.mono L8.size)
    clear hbb
    refine hK.out _ _ (by and_intros <;> first | exact X9.cell _ rfl | exact E9.cell _ rfl) (fun hHeld => ?_)
    clear hK K
    refine dO 10 fun K hK => ?_
    go_simp
    rw [show ((es.length : Int) + 1) = ((es.length + 1 : Nat) : Int) by rfl]
    refine (BM HS.out fJ CR vp vs ve pa pc (es ++ [x]) v9 (es.length + 1) x.au 0 x.m w9 hr9 (by decide +kernel) (HP.out.below L9) iH.out.1 iH.out.2 qW.out.1 qW.out.2 (Rd.fD hj9) HAc.out ZH.out acz.out (nT.out.mono L9.size L9) ((Uz.out.below L9).mono L9.size) (by simp) afV.out).mono ?_
    rintro e w10 ⟨rfl, hbb⟩
    rw [HTk.out]
    have Sl := X9.stays hbb
    have wJ := E9.stays hbb
    have M10 := M9.below hbb
    have wG := L9.trans (hbb.mono L9.size)
    clear hbb
    refine hK.out _ _ (by and_intros <;> first | exact Sl.cell _ rfl | exact wJ.cell _ rfl) (fun hHeld => ?_)
    clear hK K
    refine aF 11 ?_
    refine aF 12 ?_
    refine aF 13 ?_
    refine aF 14 ?_
    refine aF 15 ?_
    refine iE ?_
    have sW := hid Sl
    have afW := hid wJ
    have acA := hid M10
    have acB := hid wG
    have JQ : base ≤ w10.heap.size := Nat.le_trans M10.lo (Nat.le_of_lt M10.box.lt)
    clear Sl wJ M10 wG X9 E9 M9 L9 X8 E8 M8 L8 Xz Ez Mz Lz hr8 hr9 hj9 hHeld
    have e0 := afW.out.cell 0 rfl
    by_cases hk0 : x.kind = 0
    ·have hkb : (x.kind == 0) = true := by simpa using hk0
     have hl := HLg.out hk0
     rw [hl]
     clear hk0 hl
     go_wp2_with fail
     exact ⟨⟨k + 1, es ++ [x], S7, B7, _, _, _, rfl, rfl, rfl, by omega, by rw [List.length_append]; simp; omega, by go_num, by rw [List.length_append]; go_num, HAc.out, ZH.out, acA, hid JQ, acB, sW⟩, by simp [intOf]; omega⟩
    ·have hkb : (x.kind == 0) = false := by simpa using hk0
     clear hk0
     generalize kS (goes (dh fJ CR 0) es) x.au x.m = lb at *
     go_wp2_with fail
     exact ⟨⟨k + 1, es ++ [x], S7, B7, _, _, _, rfl, rfl, rfl, by omega, by rw [List.length_append]; simp; omega, by go_num, by rw [List.length_append]; go_num, HAc.out, ZH.out, acA, hid JQ, acB, sW⟩, by simp [intOf]; omega⟩
   ·have hzb : (((goes (dh fJ CR 0) es).go x).2 != 0) = true := by simpa using hz
    rw [SL _ _ hz] at FK
    clear hz
    generalize ((goes (dh fJ CR 0) es).go x).2 = code at *
    go_wp2_with fail
    exact ⟨⟨k + 1, es, S7, B7, _, _, _, rfl, rfl, rfl, by omega, by omega, by go_num, rfl, acv.out, acw.out, FK, hid hb7, uD, VR⟩, by simp [intOf]; omega⟩
  obtain rfl : k = evs.length := by omega
  have hlz : ¬ (evs.length : Int) < (evs.length : Int) := by omega
  go_wp2_with fail
  go_ret
  exact ⟨rfl, HBl.out⟩
end Go.Proofs.YtmabaojkignodaaGreatDoor
namespace Go.Proofs.YtmabaojkignodaaGreatDoor
open Go.ChangeShapes Go.WideShapes Go.ChangeAt Go.RowKit Go.Deep
set_option linter.unusedVariables false
set_option maxRecDepth 100000
section
variable {H : Type} {enc : TypeId × Value → H} {P : Program} {w : World}
theorem block_lt' {w : World} {p : Addr} {v : Value} (h : w.cell? p = some v) : p.block < w.heap.size := by
 rcases Nat.lt_or_ge p.block w.heap.size with hlt | hge
 ·exact hlt
 ·simp [World.cell?, Array.getElem?_eq_none hge] at h
theorem DY (b off n : Nat) : (⟨b, off, none⟩ : Addr).add n = ⟨b, off + n, none⟩ := by
 unfold Addr.add; split
 ·rename_i h; subst h; rfl
 ·rfl
theorem open_list {α : Type} (el : El α) {t e : TypeId} (hu : P.underlying t = some (.slice e)) (hC : P.cellsOf e = el.k) (hk : 0 < el.k)
  (hel : ∀ fuel cs y, DataW.trod enc P w 0 (fun _ => true) true fuel e cs = some y → ∃ x, el.E w x cs)
  {fuel : Nat} {cs : List Value} {y : DataW H × List MemPlace} (h : DataW.trod enc P w 0 (fun _ => true) true fuel t cs = some y) : ∃ v xs, cs = [v] ∧ gI el w v xs := by
 rcases open_slice hu h with ⟨rfl, _⟩ | ⟨a, len, cap, m, n, D, Pl, rfl, hb, hl, hm, hmm, hx, hi⟩
 ·exact ⟨_, [], rfl, gI.nil el w⟩
 ·simp only [if_true] at hmm
  obtain rfl : cap = m := hmm.symm
  by_cases h0 : len = 0
  ·subst h0
   exact ⟨_, [], rfl, .inl ⟨_, _, rfl, hm, rfl⟩⟩
  ·have hall : ∀ i : Fin len, ∃ x : α, ∃ cs', w.cells? 0 (a.add (i.1 * el.k)) el.k = some cs' ∧ el.E w x cs' := fun i => by
    obtain ⟨cs', h1, h2⟩ := hi i.1 (by omega)
    rw [hC] at h1
    obtain ⟨x, hx⟩ := hel _ _ _ h2
    exact ⟨x, cs', h1, hx⟩
   have hspot : a.spot = none ∧ a.block < w.heap.size := by
    obtain ⟨x, cs', h1, h2⟩ := hall ⟨0, by omega⟩
    have h3 := (World.cells?_some h1).2.2 0 hk
    have hl' := el.len h2
    rw [List.getElem?_eq_getElem (by omega)] at h3
    have h4 : w.cell? a = some cs'[0] := by simpa [Addr.add] using h3
    exact ⟨World.cell?_spot h4, block_lt' h4⟩
   obtain ⟨g, o, s⟩ := a
   obtain ⟨rfl, hg⟩ := hspot
   simp only at hg
   refine ⟨_, List.ofFn fun i => Classical.choose (hall i), rfl, .inr ⟨g, o, cap, by simp, by simpa using hl, hm, hg, fun i hi' => ?_⟩⟩
   have hi2 : i < len := by simpa using hi'
   obtain ⟨cs', h1, h2⟩ := Classical.choose_spec (hall ⟨i, hi2⟩)
   refine ⟨cs', by simpa using h2, fun j hj => ?_⟩
   have := (World.cells?_some h1).2.2 j hj
   rw [DY, DY] at this
   exact this
theorem DZ {base : Nat} {spare : Nat → Bool} {held : Bool} {t : TypeId} {fs : Array Field} {fuel : Nat} {cs : List Value} {x : DataW H × List MemPlace} (ht : P.underlying t = some (.struct fs)) (h1 : oneCellFields P fs = true)
  (h : DataW.trod enc P w base spare held fuel t cs = some x) : ∃ (xs : List (DataW H × List MemPlace)) (n : Nat), cs.length = P.cellsOf t ∧ xs.length = fs.size ∧ ∀ (i : Nat) (f : Field), fs[i]? = some f → DataW.trod enc P w base spare held n f.type ((cs.drop i).take 1) = xs[i]? := by
 obtain ⟨xs, n, _, _, hl, hx, hf⟩ := DataW.trod_struct ht h
 refine ⟨xs, n, hl, hx, fun i f hi => ?_⟩
 obtain ⟨o, q⟩ := hone_of h1 i f hi
 have := hf i f hi
 rw [o, q] at this
 exact this
theorem IE {cs : List Value} (h : cs.length = 3) : ∃ a b c, cs = [a, b, c] := by
 match cs, h with
 | [a, b, c], _ => exact ⟨a, b, c, rfl⟩
end
end Go.Proofs.YtmabaojkignodaaGreatDoor
namespace Go.Proofs.YtmabaojkignodaaGreatDoor
open Go.ChangeShapes Go.WideShapes Go.ChangeAt Go.RowKit Go.Deep
set_option linter.unusedVariables false
section
variable {H : Type} {enc : TypeId × Value → H} {w : World}
end
end Go.Proofs.YtmabaojkignodaaGreatDoor
namespace Go.Proofs.YtmabaojkignodaaGreatDoor
open Go.ChangeShapes Go.WideShapes Go.ChangeAt Go.RowKit Go.Deep
set_option linter.unusedVariables false
section
variable {H : Type} {enc : TypeId × Value → H} {w : World}
theorem XK {P : Program} {base : Nat} {spare : Nat → Bool} {held : Bool} {fs : Array Field} {n : Nat} {cs : List Value} {xs : List (DataW H × List MemPlace)}
  (hf : ∀ (i : Nat) (f : Field), fs[i]? = some f → DataW.trod enc P w base spare held n f.type ((cs.drop f.offset).take (P.cellsOf f.type)) = xs[i]?) (i o k : Nat) (ti : TypeId)
  (h : (fs[i]?.map fun f => (f.offset, f.type)) = some (o, ti)) (hk : P.cellsOf ti = k) : DataW.trod enc P w base spare held n ti ((cs.drop o).take k) = xs[i]? := by
 simp only [Option.map_eq_some_iff, Prod.mk.injEq] at h
 obtain ⟨f, hi, rfl, rfl⟩ := h
 have := hf i f hi
 rw [hk] at this
 exact this
end
end Go.Proofs.YtmabaojkignodaaGreatDoor
namespace Go.Proofs.YtmabaojkignodaaGreatDoor
open Go.ChangeShapes Go.WideShapes Go.ChangeAt Go.RowKit Go.Deep
set_option linter.unusedVariables false
section
variable {H : Type} {enc : TypeId × Value → H} {w : World}
theorem Fj {P : Program} {r : Reach} {base : Nat} {t e : TypeId} {v : Value} (hu : P.underlying t = some (.slice e)) (hv : Value.okWide P w r base t v) : (∃ c, v = .slice none 0 0 ∧ c = 0) ∨ ∃ g o len cap, v = .slice (some ⟨g, o, none⟩) len cap := by
 simp only [Value.okWide, hu, Cell.okWide, Cell.ok] at hv
 split at hv <;> simp_all
 rename_i a len cap _
 obtain ⟨g, o, s⟩ := a
 have := hv.2.2.2.1
 simp at this
 subst this
 exact ⟨g, o, rfl⟩
theorem KR {α : Type} (el : El α) {P : Program} {r : Reach} {base : Nat} {t e : TypeId} {v : Value} {d : DataW H} {p : List MemPlace} (hu : P.underlying t = some (.slice e)) (hC : P.cellsOf e = el.k) (hk : 0 < el.k)
  (hel : ∀ fuel cs y, DataW.trod enc P w 0 (fun _ => true) true fuel e cs = some y → ∃ x, el.E w x cs) (hv : Value.okWide P w r base t v) (h : DataW.Trod enc P w 0 (fun _ => true) true t v d p) : ∃ xs, gI el w v xs := by
 obtain ⟨fuel, hf⟩ := h
 rcases Fj hu hv with ⟨_, rfl, _⟩ | ⟨g, o, len, cap, rfl⟩
 ·exact ⟨[], gI.nil _ _⟩
 ·obtain ⟨v', xs, hc, hr⟩ := open_list el hu hC hk hel hf
  simp [Value.cells] at hc
  subst hc
  exact ⟨xs, hr⟩
end
end Go.Proofs.YtmabaojkignodaaGreatDoor
namespace Go.Proofs.YtmabaojkignodaaGreatDoor
open Go.ChangeShapes Go.WideShapes Go.ChangeAt Go.RowKit Go.Deep
set_option linter.unusedVariables false
set_option maxRecDepth 100000
section
variable {H : Type} {enc : TypeId × Value → H} {w : World}
theorem TR (fuel : Nat) (cs : List Value) (y : DataW H × List MemPlace) (h : DataW.trod enc Tryz.prog w 0 (fun _ => true) true fuel 154 cs = some y) : ∃ x, Bv.E w x cs := by
 obtain ⟨xs, n, hlen, hxl, hf⟩ := DZ Tryz.underlying154 (by kernel_rfl) h
 obtain ⟨a, b, rfl⟩ : ∃ a b, cs = [a, b] := by
  have hl : cs.length = 2 := hlen.trans (by kernel_rfl)
  match cs, hl with
  | [a, b], _ => exact ⟨a, b, rfl⟩
 have hx : xs.length = 2 := hxl
 obtain ⟨y0, y1, rfl⟩ : ∃ a b, xs = [a, b] := by
  match xs, hx with
  | [a, b], _ => exact ⟨a, b, rfl⟩
 have f0 := hf 0 _ rfl
 have f1 := hf 1 _ rfl
 obtain ⟨n0, e0, -, -⟩ := DataW.trod_int Tryz.underlying3 f0
 obtain ⟨n1, e1, -, -⟩ := DataW.trod_int Tryz.underlying3 f1
 simp at e0 e1
 subst e0 e1
 exact ⟨(n0, n1), rfl⟩
theorem WO {r : Reach} {base : Nat} {v : Value} {d : DataW H} {p : List MemPlace} (hv : Value.okWide Tryz.prog w r base 49 v) (h : DataW.Trod enc Tryz.prog w 0 (fun _ => true) true 49 v d p) :
  ∃ (CR : nJ) (pa : Option Addr) (pc : Nat), v = .agg #[.slice pa CR.ps.length pc, .int .i64 CR.inc, .int .i64 CR.delay] ∧ clk.dV w w.heap.size pa CR.ps.length CR.ps ∧ CR.ps.length ≤ pc ∧ pc ≤ maxLen := by
 obtain ⟨cs, rfl, hl, hcell⟩ := EX (ts := [47, 3, 3]) Tryz.underlying49 (by kernel_rfl) (by kernel_rfl) hv
 obtain ⟨fuel, hf⟩ := h
 simp only [Value.cells] at hf
 obtain ⟨xs, n, _, _, _, hxl, hf⟩ := DataW.trod_struct Tryz.underlying49 hf
 obtain ⟨a, b, c, rfl⟩ := IE hl
 have hx : xs.length = 3 := hxl
 obtain ⟨y0, y1, y2, rfl⟩ : ∃ a b c, xs = [a, b, c] := by
  match xs, hx with
  | [a, b, c], _ => exact ⟨a, b, c, rfl⟩
 have f0 := XK hf 0 0 1 47 (by kernel_rfl) (by kernel_rfl)
 have f1 := XK hf 1 1 1 3 (by kernel_rfl) (by kernel_rfl)
 have f2 := XK hf 2 2 1 3 (by kernel_rfl) (by kernel_rfl)
 obtain ⟨n0, e0, -, -⟩ := DataW.trod_int Tryz.underlying3 f1
 obtain ⟨n1, e1, -, -⟩ := DataW.trod_int Tryz.underlying3 f2
 simp at e0 e1
 subst e0 e1
 obtain ⟨v', ps, hc, hr⟩ := open_list Bv Tryz.underlying47 (by kernel_rfl) (by decide) (TR (enc := enc) (w := w)) (by simpa using f0)
 simp at hc
 subst hc
 obtain ⟨pa, pc, rfl, h1, h2⟩ := hr.form
 exact ⟨⟨ps, n0, n1⟩, pa, pc, rfl, LQ hr, h1, h2⟩
theorem WQ (fuel : Nat) (cs : List Value) (y : DataW H × List MemPlace) (h : DataW.trod enc Tryz.prog w 0 (fun _ => true) true fuel 54 cs = some y) : ∃ x, TQ.E w x cs := by
 obtain ⟨xs, n, _, _, hlen, hxl, hf⟩ := DataW.trod_struct Tryz.underlying54 h
 obtain ⟨a, b, c, d, e, f, g, rfl⟩ : ∃ a b c d e f g, cs = [a, b, c, d, e, f, g] := by
  have hl : cs.length = 7 := hlen.trans (by kernel_rfl)
  match cs, hl with
  | [a, b, c, d, e, f, g], _ => exact ⟨a, b, c, d, e, f, g, rfl⟩
 have hx : xs.length = 5 := hxl
 obtain ⟨y0, y1, y2, y3, y4, rfl⟩ : ∃ a b c d e, xs = [a, b, c, d, e] := by
  match xs, hx with
  | [a, b, c, d, e], _ => exact ⟨a, b, c, d, e, rfl⟩
 have f0 := XK hf 0 0 1 3 (by kernel_rfl) (by kernel_rfl)
 have f1 := XK hf 1 1 1 3 (by kernel_rfl) (by kernel_rfl)
 have f2 := XK hf 2 2 1 3 (by kernel_rfl) (by kernel_rfl)
 have f3 := XK hf 3 3 1 3 (by kernel_rfl) (by kernel_rfl)
 have f4 := XK hf 4 4 3 52 (by kernel_rfl) (by kernel_rfl)
 obtain ⟨ms, m, hml, hmx, hm⟩ := DZ Tryz.underlying52 (by kernel_rfl) f4
 have afX : ms.length = 3 := hmx
 obtain ⟨z0, z1, z2, rfl⟩ : ∃ a b c, ms = [a, b, c] := by
  match ms, afX with
  | [a, b, c], _ => exact ⟨a, b, c, rfl⟩
 have g0 := hm 0 _ rfl
 have g1 := hm 1 _ rfl
 have g2 := hm 2 _ rfl
 obtain ⟨n0, e0, -, w0⟩ := DataW.trod_int Tryz.underlying3 f0
 obtain ⟨n1, e1, -, w1⟩ := DataW.trod_int Tryz.underlying3 f1
 obtain ⟨n2, e2, -, w2⟩ := DataW.trod_int Tryz.underlying3 f2
 obtain ⟨n3, e3, -, w3⟩ := DataW.trod_int Tryz.underlying3 f3
 obtain ⟨n4, e4, -, w4⟩ := DataW.trod_int Tryz.underlying3 g0
 obtain ⟨n5, e5, -, w5⟩ := DataW.trod_int Tryz.underlying3 g1
 obtain ⟨n6, e6, -, w6⟩ := DataW.trod_int Tryz.underlying3 g2
 simp at e0 e1 e2 e3 e4 e5 e6
 subst e0 e1 e2 e3 e4 e5 e6
 refine ⟨⟨n0, n1, n2, n3, ⟨n4, n5, n6⟩⟩, rfl, ?_⟩
 have q1 : IntKind.i64.min = -9223372036854775808 := rfl
 have q2 : IntKind.i64.max = 9223372036854775807 := rfl
 simp [Lit.wf, q1, q2] at w0 w1 w2 w3 w4 w5 w6
 intro x hx
 simp only [mP, List.mem_cons, List.not_mem_nil, or_false] at hx
 rcases hx with rfl | rfl | rfl | rfl | rfl | rfl | rfl <;> omega
theorem TS {r : Reach} {base : Nat} {v : Value} {d : DataW H} {p : List MemPlace} (hv : Value.okWide Tryz.prog w r base 50 v) (h : DataW.Trod enc Tryz.prog w 0 (fun _ => true) true 50 v d p) : ∃ xs, gI TQ w v xs :=
 KR TQ Tryz.underlying50 (by kernel_rfl) (by decide) (WQ (enc := enc) (w := w)) hv h
end
end Go.Proofs.YtmabaojkignodaaGreatDoor

/- RfB, RfC. -/
import Derived.Test.YtmabaojkignodaaGreatDoorC32
namespace Go.Proofs.YtmabaojkignodaaGreatDoor
open Go.ChangeShapes Go.WideShapes Go.ChangeAt Go.RowKit
set_option linter.unusedVariables false
open Go.Lib (hid)
def BK (M0 : aG) (es : List iY) (w : World) (e : Ending) (w' : World) : Prop :=
 ∃ v l, e = .returned (.tuple #[v, .int .i64 0]) ∧ Below w.heap.size w w' ∧ w'.ownsRow w.heap.size 209 26 v (es.length + 1) (kR l) ∧ (∀ x ∈ l, pX w' x.M.pos x.vc x.v0 x.v1) ∧ (∀ x ∈ l, nV x.M.R x.M.pos) ∧ Ti M0 es es.length l
def Fg : Value := .agg #[.slice none 0 0, .int .i64 0, .int .i64 0, .int .i64 0, .int .i64 0, .int .i64 0, .int .i64 0, .int .i64 0, .int .i64 0, .int .i64 0, .int .i64 0, .bool false, .int .i64 0, .int .i64 0, .int .i64 0, .int .i64 0, .int .i64 0, .int .i64 0, .int .i64 0, .slice none 0 0, .slice none 0 0, .slice none 0 0, .slice none 0 0, .int .i64 0, .int .i64 0, .int .i64 0]
theorem Tj : ∃ i, Tryz.prog.info? 209 = some i ∧ i.zero = some Fg ∧ i.size = 26 ∧ i.bytes = 288 := by
 have h : (Tryz.prog.info? 209).map (fun i => (i.zero, i.size, i.bytes)) = some (some Fg, 26, 288) := by kernel_rfl
 cases hh : Tryz.prog.info? 209 with
 | none => rw [hh] at h; cases h
 | some i =>
  rw [hh] at h
  simp only [Option.map_some, Option.some.injEq, Prod.mk.injEq] at h
  exact ⟨i, rfl, h.1, h.2.1, h.2.2⟩
theorem Me (x : qX) (h0 : x.vc.oneCell' = true) (h1 : x.v0.oneCell' = true) (h2 : x.v1.oneCell' = true) : ∀ u ∈ fC x, u.oneCell' = true := by
 intro u hu
 simp only [fC, List.mem_cons, List.not_mem_nil, or_false] at hu
 rcases hu with rfl | rfl | rfl | rfl | rfl | rfl | rfl | rfl | rfl | rfl | rfl | rfl | rfl | rfl | rfl | rfl | rfl | rfl | rfl | rfl | rfl | rfl | rfl | rfl | rfl | rfl
 all_goals first | rfl | assumption
theorem WH {W : World} {b : Nat} {cs : List Value} {t : TypeId} (h : Box W b cs t) : ∀ j u, cs[j]? = some u → W.cell? ((⟨b, 0, none⟩ : Addr).add j) = some u := by
 intro j u hj
 have := h.cell j hj
 have e2 : (⟨b, 0, none⟩ : Addr).add j = ⟨b, j, none⟩ := by unfold Addr.add; split <;> simp_all
 rw [e2]
 exact this
theorem BL {base : Nat} {w w' : World} {p : bg} {vc v0 v1 : Value} (h : lu base w p vc v0 v1) (hb : Below w.heap.size w w') : lu base w' p vc v0 v1 := ⟨bK h.1 hb, bK h.2.1 hb, bK h.2.2.1 hb, h.2.2.2⟩
theorem afH (w : World) (a0 a1 a2 a3 a4 a5 a6 a7 a8 a9 b0 b1 b2 b3 b4 b5 b6 b7 b8 b9 : Value) : (Instr.field 73 (.agg #[a0, a1, a2, a3, a4, a5, a6, a7, a8, a9, b0, b1, b2, b3, b4, b5, b6, b7, b8, b9]) 3).run Tryz.prog w = .ok (.agg #[a3, a4, a5, a6, a7, a8, a9, b0, b1, b2]) w := by kernel_rfl
theorem afI (w : World) (a0 a1 a2 a3 a4 a5 a6 a7 a8 a9 : Value) : (Instr.field 67 (.agg #[a0, a1, a2, a3, a4, a5, a6, a7, a8, a9]) 4).run Tryz.prog w = .ok a7 w := by kernel_rfl
set_option maxRecDepth 100000 in
set_option maxHeartbeats 16000000 in
theorem KF (HL : LdS) (R : aC) (CR : nJ) (vp vs ve : Value) (pa : Option Addr) (pc : Nat) (es : List iY) (vj : Value) (w : World) (hr : ru w R vp vs ve) (hnm : R.name.size ≤ maxLen) (hp : clk.dV w w.heap.size pa CR.ps.length CR.ps) (h1 : CR.ps.length ≤ pc) (h2 : pc ≤ maxLen)
  (hre : aW R = 0) (hro : clk.cu CR.ps.length CR.inc CR.delay CR.ps) (hj : zL w vj (goes (dh R CR 0) es).jr) (hacc : nP (dh R CR 0) es) (hok : ∀ e ∈ es, wW e) (hle : es.length ≤ 60) (ht : Tab w.heap.size w) (hm : LY w.heap.size w) :
  Calls Tryz.prog 63 #[.agg #[.string R.name, .int .i64 R.width, .int .i64 R.height, vp, vs, .bool R.falls, .bool R.keeps, ve, .int .i64 R.blocked, .int .i64 R.quiet, .int .i64 R.bF], .agg #[.slice pa CR.ps.length pc, .int .i64 CR.inc, .int .i64 CR.delay], vj] w (BK (dh R CR 0) es w) := by
 have HLd : Hid (∀ w1, Below w.heap.size w w1 → Calls Tryz.prog 15 #[.agg #[.string R.name, .int .i64 R.width, .int .i64 R.height, vp, vs, .bool R.falls, .bool R.keeps, ve, .int .i64 R.blocked, .int .i64 R.quiet, .int .i64 R.bF], .agg #[.slice pa CR.ps.length pc, .int .i64 CR.inc, .int .i64 CR.delay], vj] w1 (BJ (goes (dh R CR 0) es) w1)) := hid (fun w1 hb => Iz HL R CR vp vs ve pa pc es vj w1 (hr.below hb (Nat.le_refl _)) hnm (hp.below hb) h1 h2 hre hro (hj.below hb (Nat.le_refl _)) hacc hok hle (ht.mono hb.size hb) ((hm.below hb).mono hb.size))
 have HS := hid HL
 have nT := hid ht
 have Uz := hid hm
 have CX := hid hok
 have I7 := hid hle
 have DV := hid (yA hacc)
 obtain ⟨ja, jc, rfl, hj1, hj2, -⟩ := hj.form
 have HJt : Hid (∀ k (hk : k < es.length) (hk2 : k + 1 < (goes (dh R CR 0) es).jr.length), (goes (dh R CR 0) es).jr[k + 1].txt = bV es[k]) := hid (XA hacc)
 have hcg := xU.of hro
 have WG : Hid (∀ k, MInv (goes (dh R CR 0) (es.take k)) ∧ (goes (dh R CR 0) (es.take k)).ms.length ≤ 400 ∧ (goes (dh R CR 0) (es.take k)).jr.length < 90) := hid (fun k => by
  obtain ⟨i1, i2⟩ := xg (es.take k) (dh R CR 0) (BG R CR 0 hnm hcg (by decide) (by decide)) (by rw [KD]; decide) (fun e he => hok e (List.mem_of_mem_take he))
  refine ⟨i1, i2, ?_⟩
  rw [yA (BH hacc k), List.length_take]
  omega)
 have MF : Hid (∀ k (hk : k < es.length), ((goes (dh R CR 0) (es.take k)).go es[k]).1 = goes (dh R CR 0) (es.take (k + 1))) := hid (fun k hk => (DX k hk).symm)
 have Zg := zL.take hj 1 (by rw [DV.out]; omega)
 rw [← WB hacc 0] at Zg
 have aci : Hid (∀ w1, Below w.heap.size w w1 → Calls Tryz.prog 15 #[.agg #[.string R.name, .int .i64 R.width, .int .i64 R.height, vp, vs, .bool R.falls, .bool R.keeps, ve, .int .i64 R.blocked, .int .i64 R.quiet, .int .i64 R.bF], .agg #[.slice pa CR.ps.length pc, .int .i64 CR.inc, .int .i64 CR.delay], .slice ja 1 jc] w1 (BJ (dh R CR 0) w1)) := hid (fun w1 hb => Iz HL R CR vp vs ve pa pc [] _ w1 (hr.below hb (Nat.le_refl _)) hnm (hp.below hb) h1 h2 hre hro (Zg.below hb (Nat.le_refl _)) trivial (fun e he => by cases he) (by simp) (ht.mono hb.size hb) ((hm.below hb).mono hb.size))
 obtain ⟨J, hJ⟩ : ∃ J, (goes (dh R CR 0) es).jr = J := ⟨_, rfl⟩
 rw [hJ] at hj hj1 DV HJt HLd
 rw [hJ]
 obtain ⟨g, o, rfl, hg, Zc, Zd, hjr⟩ := LZ (es := es) hj (by rw [DV.out]; omega)
 obtain ⟨d, rfl⟩ : ∃ d, jc = J.length + d := ⟨jc - J.length, by omega⟩
 have HJr : Hid (∀ w1, Below w.heap.size w w1 → ∀ k (hk : k < J.length), w1.cell? ⟨g, o + k * 2, none⟩ = some (.string J[k].txt) ∧ w1.cell? ⟨g, o + k * 2 + 1, none⟩ = some (.int .u64 J[k].sum)) := hid (fun w1 hb k hk => ⟨(hb.cell (p := ⟨g, o + k * 2, none⟩) hg).trans (hjr k hk).1, (hb.cell (p := ⟨g, o + k * 2 + 1, none⟩) hg).trans (hjr k hk).2⟩)
 obtain ⟨i0, hi0, hz0, hz1, hz2⟩ := Tj
 have afK : 1 ≤ J.length := by have := DV.out; omega
 clear HL hr hnm hp h1 h2 hre hro ht hm hok hacc hle hj Zg hcg hJ hjr hj1 hj2
 go_enter Tryz.func63, Tryz.ntmps63
 go_upto_region 1 with (fail)
 refine sV fun w0 jU DJ dM hs_ => ?_
 have HX0 := hid jU
 have dn := hid DJ
 have HB := hid dM
 clear hs_ jU DJ dM
 refine wp_region_lit ?_
 refine aB (by rfl) 46 (.tmp 3) (by rfl) (w.heap.size) (by rfl) HX0.out Tryz.underlying46 (by rfl) (by kernel_rfl) ?_
 refine aB (by rfl) 49 (.tmp 4) (by rfl) (w.heap.size + 1) (by rfl) dn.out Tryz.underlying49 (by rfl) (by kernel_rfl) ?_
 go_wp2_with fail
 refine (HLd.out w0 HB.out).mono ?_
 rintro e w1 ⟨ahR, S1, b1, B1, rfl, -, -, -, hb1⟩
 have HB1 := hid (HB.out.trans (hb1.mono HB.out.size))
 have oC := hid (HX0.out.stays hb1)
 have dZ := hid (dn.out.stays hb1)
 clear hb1 HX0 dn HB HLd
 go_upto_region 4 with (fail)
 have hj3 : 1 ≤ J.length + d := by omega
 have hj4 : ¬ ((J.length : Int) + (d : Int) < 1) := by omega
 generalize w1 = wq at *
 have OO := oC.out.drew
 have Zh := dZ.out.drew
 have Lz : Below w.heap.size w wq.drew := aA HB1.out
 clear oC dZ HB1
 refine wp_region_noPanic ?_
 refine bG (S := (fun w' => w'.cell? ⟨w.heap.size, 0, none⟩ = some (.string R.name) ∧ w'.cell? ⟨w.heap.size, 1, none⟩ = some (.int .i64 R.width) ∧ w'.cell? ⟨w.heap.size, 2, none⟩ = some (.int .i64 R.height) ∧ w'.cell? ⟨w.heap.size, 3, none⟩ = some vp ∧ w'.cell? ⟨w.heap.size, 4, none⟩ = some vs ∧ w'.cell? ⟨w.heap.size, 5, none⟩ = some (.bool R.falls) ∧ w'.cell? ⟨w.heap.size, 6, none⟩ = some (.bool R.keeps) ∧ w'.cell? ⟨w.heap.size, 7, none⟩ = some ve ∧ w'.cell? ⟨w.heap.size, 8, none⟩ = some (.int .i64 R.blocked) ∧ w'.cell? ⟨w.heap.size, 9, none⟩ = some (.int .i64 R.quiet) ∧ w'.cell? ⟨w.heap.size, 10, none⟩ = some (.int .i64 R.bF) ∧ w'.cell? ⟨w.heap.size + 1, 0, none⟩ = some (.slice pa CR.ps.length pc) ∧ w'.cell? ⟨w.heap.size + 1, 1, none⟩ = some (.int .i64 CR.inc) ∧ w'.cell? ⟨w.heap.size + 1, 2, none⟩ = some (.int .i64 CR.delay))) (L := []) (by kernel_rfl) (by and_intros <;> first | exact OO.cell _ rfl | exact Zh.cell _ rfl) (fun hHeld => ?_)
 refine dL 0 ?_
 refine dL 1 ?_
 refine aF 2 ?_
 try simp only [Act.put, qw, qx, qy]
 refine OZ (i := 3) (v := .slice (some ⟨g, o, none⟩) 1 (J.length + d)) rfl (by kernel_rfl) (by kernel_rfl) (by kernel_rfl) rfl (fun _ _ _ h => h) (Or.inl ⟨by rfl, ?ya4⟩) (fun _ => by assumption) ?ra4
 case ya4 => (intro w _; go_simp; first | done | (with_reducible rfl) | (rw [if_neg (by omega)]))
 refine dO 4 fun K hK => ?_
 go_simp
 refine (aci.out wq.drew Lz).mono ?_
 rintro e w4 ⟨base, S, b, B, rfl, hm4, acj, acn, hb4⟩
 have X04 := OO.stays hb4
 have LM := Zh.stays hb4
 have L4 := Lz.trans (hb4.mono Lz.size)
 refine hK.out _ _ (by and_intros <;> first | exact X04.cell _ rfl | exact LM.cell _ rfl) (fun hHeld => ?_)
 clear hK K
 refine aF 5 ?_
 refine aF 6 ?_
 refine aF 7 ?_
 refine aF 8 ?_
 refine aF 9 ?_
 refine iE ?_
 have qh := hid hm4
 have HB4 := hid L4
 have Zi := hid (And.intro (Nat.le_trans Lz.size acj) acn)
 clear hm4 acj acn hb4 L4 X04 LM OO Zh Lz hHeld aci
 go_upto_region 5 with (fail)
 have hpl := (WG.out 0).1.pr.len
 rw [show goes (dh R CR 0) (es.take 0) = dh R CR 0 from rfl] at hpl
 have yS : Hid ((dh R CR 0).aS.length ≤ 1000) := hid (by omega)
 obtain ⟨M0, hM0⟩ : ∃ M0, dh R CR 0 = M0 := ⟨_, rfl⟩
 rw [hM0] at qh WG MF yS ⊢
 have HMe := hid hM0
 clear hM0 hpl
 go_wp2_with fail
 refine (yx w4 qh.out yS.out).mono ?_
 rintro e w5 ⟨ma, mc, qa, qc, rfl, -, -, hb5⟩
 have mW := hid hb5
 clear hb5
 go_wp2_with fail
 refine (IB w5 (qh.out.below mW.out)).mono ?_
 rintro e w6 ⟨vc, v0, v1, rfl, uV, hb6⟩
 have zD := hid hb6
 have Dp := hid uV
 clear hb6 uV
 go_wp2_with fail
 refine (yx w6 ((qh.out.below mW.out).below zD.out) yS.out).mono ?_
 rintro e w7 ⟨ma2, mc2, qa2, qc2, rfl, -, -, hb7⟩
 have uD := hid hb7
 clear hb7
 have hf3 := afH w7 (.slice ma2 M0.ms.length mc2) (.int .i64 M0.res) (.int .i64 M0.reason) (.int .i64 M0.clk.l0) (.int .i64 M0.clk.l1) (.int .i64 M0.clk.m0) (.int .i64 M0.clk.m1) (.int .i64 M0.clk.p0) (.int .i64 M0.clk.p1) (.int .i64 M0.clk.turn) (.int .i64 M0.clk.since) (.bool M0.clk.st) (.int .i64 M0.clk.ak) (.int .i64 M0.off.b0) (.int .i64 M0.off.b1) (.int .i64 M0.off.aY) (.int .i64 M0.off.aZ) (.int .i64 M0.off.l10) (.int .i64 M0.off.aX) (.slice qa2 M0.aS.length qc2)
 have hf4 := afI w7 (.int .i64 M0.clk.l0) (.int .i64 M0.clk.l1) (.int .i64 M0.clk.m0) (.int .i64 M0.clk.m1) (.int .i64 M0.clk.p0) (.int .i64 M0.clk.p1) (.int .i64 M0.clk.turn) (.int .i64 M0.clk.since) (.bool M0.clk.st) (.int .i64 M0.clk.ak)
 obtain ⟨Ud, Ue, rfl⟩ := aI Dp.out.1
 obtain ⟨pa2, pn2, rfl⟩ := aI Dp.out.2.1
 obtain ⟨pa3, pn3, rfl⟩ := aI Dp.out.2.2.1
 go_upto_region 6 with (fail)
 refine wU ?_
 intro w8 e8
 have HR8 : Hid (qY M0 es 0 0 S base b B w7.heap.size (.slice (some ⟨w7.heap.size, 0, none⟩) 1 1) [⟨M0, M0.clk.since, ma, mc, qa, qc, .slice Ud (bn M0.R M0.ms).cells.length Ue, .slice pa2 (bn M0.R M0.ms).h0.length pn2, .slice pa3 (bn M0.R M0.ms).h1.length pn3⟩] w8) := hid (by rw [e8]; exact qY.start (qh.out.below mW.out) (zD.out.trans (uD.out.mono zD.out.size)) ⟨M0, M0.clk.since, ma, mc, qa, qc, .slice Ud (bn M0.R M0.ms).cells.length Ue, .slice pa2 (bn M0.R M0.ms).h0.length pn2, .slice pa3 (bn M0.R M0.ms).h1.length pn3⟩ rfl rfl (BL Dp.out uD.out))
 have h47 : w4.heap.size ≤ w7.heap.size := Nat.le_trans mW.out.size (Nat.le_trans zD.out.size uD.out.size)
 have HB8 : Hid (Below w.heap.size w w8) := hid (by rw [e8]; exact ((((HB4.out.trans (mW.out.mono HB4.out.size)).trans (zD.out.mono (Nat.le_trans HB4.out.size mW.out.size))).trans (uD.out.mono (Nat.le_trans HB4.out.size (Nat.le_trans mW.out.size zD.out.size)))).alloc (Nat.le_trans HB4.out.size h47) _))
 have HBw : Hid (w.heap.size ≤ w7.heap.size ∧ base ≤ w7.heap.size) := hid ⟨Nat.le_trans HB4.out.size h47, Nat.le_trans Zi.out.2 h47⟩
 have qg := hid Zi.out.1
 clear qh HB4 Zi yS mW zD uD Dp h47 e8 hf3 hf4
 generalize w7.heap.size = bw at *
 go_cut [2, 46, 47, 48] (fun v2 v46 v47 v48 wx => ∃ A c2, v46 = .slice A es.length c2 ∧ (0 < es.length → A = some ⟨g, o + 2, none⟩) ∧ es.length ≤ c2 ∧ v47 = .int .i64 (es.length : Int) ∧ v48 = .int .i64 0 ∧ w8 = wx)
 case first =>
  have hj1 : 1 ≤ J.length := afK
  have hl2 := DV.out
  go_wp2_with fail
  all_goals (go_meet; first | exact ⟨_, _, rfl, fun hh => absurd hh (by omega), by omega, rfl, rfl, rfl⟩ | exact ⟨_, _, rfl, fun _ => rfl, by omega, rfl, rfl, rfl⟩)
 obtain ⟨A, c2, rfl, hA, hc2, rfl, rfl, rfl⟩ := hcut
 clear Zc Zd hj3 hj4
 go_wp2_with fail
 go_loopw [48, 12, 14, 15, 16] (fun v48 v12 v14 v15 v16 wr => ∃ (k : Nat) (S : Nat → Prop) (B : jv) (lo : List qX) (vo o14 o15 o16 : Value), vo = v12 ∧ o14 = v14 ∧ o15 = v15 ∧ o16 = v16 ∧ k ≤ es.length ∧ v48 = .int .i64 k ∧ Hid (qY M0 es k k S base b B bw vo lo wr) ∧ Hid (Below w.heap.size w wr)) (fun v _ _ _ _ _ => es.length - (intOf v).toNat)
 case atStart => exact ⟨0, S, B, _, _, _, _, _, rfl, rfl, rfl, rfl, Nat.zero_le _, rfl, HR8, HB8⟩
 clear HR8 HB8
 case round =>
  obtain ⟨k, S, B, lo, vo, o14, o15, o16, rfl, rfl, rfl, rfl, hk, rfl, XG, bC⟩ := hrel
  by_cases hlt : k < es.length
  ·have Uy : (k : Int) < (es.length : Int) := by omega
   obtain rfl := hA (by omega)
   have hk2 : k + 1 < J.length := by have := DV.out; omega
   obtain ⟨a0, a1⟩ := HJr.out wr bC.out (k + 1) hk2
   rw [HJt.out k hlt hk2, show o + (k + 1) * 2 = o + 2 + k * 2 by omega] at a0
   rw [show o + (k + 1) * 2 = o + 2 + k * 2 by omega] at a1
   have CV := hid (MF.out k hlt)
   obtain ⟨hi1, hi2, hi3⟩ := WG.out k
   have hev := CX.out es[k] (List.getElem_mem hlt)
   have HNw : Hid (es[k].now = Md M0 es (k + 1)) := hid (by show es[k].now = (es.getD k default).now; rw [List.getD_eq_getElem?_getD, List.getElem?_eq_getElem hlt]; rfl)
   have XB := hid (nT.out.mono bC.out.size bC.out)
   have HMr := hid ((Uz.out.below bC.out).mono bC.out.size)
   generalize es[k] = x at *
   generalize J[k + 1].sum = sm at *
   go_upto_region 9 with (fail)
   have gW := hid (Box.new wr [.string (bV x), .int .u64 sm] 131)
   have HB1 := hid ((Below.refl wr.heap.size wr).alloc (Nat.le_refl _) (.cells #[.string (bV x), .int .u64 sm] 131))
   generalize (wr.alloc (.cells #[.string (bV x), .int .u64 sm] 131)) = wA at *
   have e0 := gW.out.cell 0 rfl
   have HRd := hid (uj HS.out.it HS.out.ai HS.out.sp x wA hev (XB.out.mono HB1.out.size HB1.out) ((HMr.out.below HB1.out).mono HB1.out.size))
   have Zf := hid hev
   clear a0 a1 hev XB HMr
   generalize bV x = tx at *
   go_wp2_with fail
   refine HRd.out.mono ?_
   rintro e w5 ⟨rfl, hb5⟩
   have mW := hid (HB1.out.trans (hb5.mono HB1.out.size))
   clear hb5 HB1 HRd e0 gW
   go_upto_region 10 with (fail)
   have CW := hid (Box.new w5 [.int .i64 x.kind, .int .i64 x.au, .int .i64 x.n, .int .i64 x.now, .int .i64 x.m.src, .int .i64 x.m.dst, .int .i64 x.m.piece] 54)
   have zD := hid (mW.out.trans (((Below.refl w5.heap.size w5).alloc (Nat.le_refl _) (.cells #[.int .i64 x.kind, .int .i64 x.au, .int .i64 x.n, .int .i64 x.now, .int .i64 x.m.src, .int .i64 x.m.dst, .int .i64 x.m.piece] 54)).mono mW.out.size))
   have hEl := mW.out.size
   generalize (w5.alloc (.cells #[.int .i64 x.kind, .int .i64 x.au, .int .i64 x.n, .int .i64 x.now, .int .i64 x.m.src, .int .i64 x.m.dst, .int .i64 x.m.piece] 54)) = w6 at *
   have CU := hid (XG.out.below zD.out)
   have HVo : Hid (∀ q, vo.ownBlock = some q → q < wr.heap.size) := hid (fun q hq => (XG.out.row.lt q hq).2)
   generalize hE : w5.heap.size = E at *
   have HEl : Hid (wr.heap.size ≤ E) := hid hEl
   have e0 := CW.out.cell 0 rfl
   have e1 := CW.out.cell 1 rfl
   have e2 := CW.out.cell 2 rfl
   have e3 := CW.out.cell 3 rfl
   have e4 := CW.out.cell 4 rfl
   have e5 := CW.out.cell 5 rfl
   have e6 := CW.out.cell 6 rfl
   have hb6 : base ≤ w6.heap.size := Nat.le_trans CU.out.m.lo (Nat.le_of_lt CU.out.m.box.lt)
   have BU : Hid (∀ q, (S q ∨ out1 (yC vo) b q) → q < wr.heap.size) := hid XG.out.m.wL
   have KE := hid (bC.out.trans (zD.out.mono bC.out.size))
   have OH := hid (nT.out.mono qg.out (KE.out))
   have UC := hid (KA HS.out.so HS.out.it HS.out.jo x w6 CU.out.m hb6 hi1 hi3 OH.out Zf.out)
   rw [CV.out] at UC
   clear mW XG hi1 hi2 hi3 OH Zf hE hEl
   go_wp2_with fail
   refine UC.out.mono ?_
   rintro e w7 ⟨rfl, S7, B7, XF, hs7, Mc⟩
   have uD := hid (KE.out.trans ((aH.base' CU.out.m Mc hb6).mono qg.out))
   have AZ := hid (CU.out.go XF hs7 Mc)
   have Xo := hid (CW.out.held Mc (fun hc => by
    have h1 := HEl.out
    rcases hc with hc | hc
    ·have := BU.out E (.inl hc); omega
    ·have := BU.out E (.inr (.inl hc)); omega))
   have yS : Hid ((goes M0 (es.take (k + 1))).aS.length ≤ 1000) := hid (by have := (WG.out (k + 1)).1.pr.len; omega)
   have LP : k + 1 ≤ 100000000 := by have := I7.out; omega
   have akJ : k ≤ 60 := by have := I7.out; omega
   clear XF hs7 Mc UC e0 e1 e2 e3 e4 e5 e6 CU KE zD CW BU
   go_upto_region 11 with (fail)
   generalize w7 = wq at *
   have Rz := AZ.out.below (aA (Below.refl _ _))
   have Ez := Xo.out.drew
   have Lz : Below w.heap.size w wq.drew := aA uD.out
   clear AZ Xo uD
   refine wp_region_noPanic ?_
   refine bG (S := (fun w' => w'.cell? ⟨E, 3, none⟩ = some (.int .i64 x.now))) (L := []) (by kernel_rfl) (Ez.cell 3 rfl) (fun hHeld => ?_)
   refine aF 0 ?_
   refine aF 1 ?_
   refine aF 3 ?_
   refine aF 5 ?_
   refine dL 6 ?_
   refine dO 2 fun K hK => ?_
   go_simp
   refine (yx wq.drew Rz.m yS.out).mono ?_
   rintro e w8 ⟨ma, mc, qa, qc, rfl, hs1, hs2, hb8⟩
   have R8 := Rz.below hb8
   have E8 := Ez.stays hb8
   have L8 := Lz.trans (hb8.mono Lz.size)
   clear hs1 hs2
   refine hK.out _ _ (E8.cell 3 rfl) (fun hHeld => ?_)
   clear hK K
   refine dO 4 fun K hK => ?_
   go_simp
   refine (IB w8 R8.m).mono ?_
   rintro e w9 ⟨vc, v0, v1, rfl, ER, Eu⟩
   obtain ⟨Ud, Ue, rfl⟩ := aI ER.1
   obtain ⟨pa2, pn2, rfl⟩ := aI ER.2.1
   obtain ⟨pa3, pn3, rfl⟩ := aI ER.2.2.1
   have E9 := E8.stays Eu
   have L9 := L8.trans (Eu.mono L8.size)
   refine hK.out _ _ (E9.cell 3 rfl) (fun hHeld => ?_)
   clear hK K
   refine aF 7 ?_
   refine dO 8 fun K hK => ?_
   go_simp
   refine aK ?_
   intro w10 e10
   have wJ : Box w10 E [.int .i64 x.kind, .int .i64 x.au, .int .i64 x.n, .int .i64 x.now, .int .i64 x.m.src, .int .i64 x.m.dst, .int .i64 x.m.piece] 54 := by rw [e10]; exact E9.alloc _
   have N10 : Box w10 w9.heap.size (fC ⟨goes M0 (es.take (k + 1)), x.now, ma, mc, qa, qc, .slice Ud (bn (goes M0 (es.take (k + 1))).R (goes M0 (es.take (k + 1))).ms).cells.length Ue, .slice pa2 (bn (goes M0 (es.take (k + 1))).R (goes M0 (es.take (k + 1))).ms).h0.length pn2, .slice pa3 (bn (goes M0 (es.take (k + 1))).R (goes M0 (es.take (k + 1))).ms).h1.length pn3⟩) 209 := by rw [e10]; exact Box.new w9 _ _
   have wG : Below w9.heap.size w9 w10 := by rw [e10]; exact (Below.refl _ _).alloc (Nat.le_refl _) _
   have z10 : w10.heap.size = w9.heap.size + 1 := by rw [e10]; simp
   clear e10
   refine hK.out _ _ (wJ.cell 3 rfl) (fun hHeld => ?_)
   clear hK K
   refine dO 9 fun K hK => ?_
   rw [if_pos (by rfl)]
   have R10 := (R8.below Eu).below wG
   refine wp_append_lies _ _ _ 148 rfl bw 209 i0 Fg 26 288 Tryz.underlying148 hi0 hz0 hz1 hz2 (by rfl) (by decide) vo (k + 1) (kR lo) rfl R10.row ⟨w9.heap.size, 0, none⟩ 1 1 (fC ⟨goes M0 (es.take (k + 1)), x.now, ma, mc, qa, qc, .slice Ud (bn (goes M0 (es.take (k + 1))).R (goes M0 (es.take (k + 1))).ms).cells.length Ue, .slice pa2 (bn (goes M0 (es.take (k + 1))).R (goes M0 (es.take (k + 1))).ms).h0.length pn2, .slice pa3 (bn (goes M0 (es.take (k + 1))).R (goes M0 (es.take (k + 1))).ms).h1.length pn3⟩) rfl rfl (WH N10) (Me _ rfl rfl rfl) (by decide) (by unfold maxLen; omega) (by omega) R10.bsz w10.heap.size rfl ?_
   intro g11 c11 ku Tn WI XH XI
   have R11 := R8.app (Eu.trans (wG.mono Eu.size)) ⟨goes M0 (es.take (k + 1)), x.now, ma, mc, qa, qc, .slice Ud (bn (goes M0 (es.take (k + 1))).R (goes M0 (es.take (k + 1))).ms).cells.length Ue, .slice pa2 (bn (goes M0 (es.take (k + 1))).R (goes M0 (es.take (k + 1))).ms).h0.length pn2, .slice pa3 (bn (goes M0 (es.take (k + 1))).R (goes M0 (es.take (k + 1))).ms).h1.length pn3⟩ rfl HNw.out (BL ER wG) Tn WI XH XI
   have nS := wJ.grown WI (fun hc => by have := HVo.out _ hc.symm; have := HEl.out; omega)
   have jR : Below w.heap.size w ku := Below.grown (L9.trans (wG.mono L9.size)) WI (by have := Lz.size; have := hb8.size; have := Eu.size; omega) (fun q hq => by have := (R10.row.lt q hq).1; have := HBw.out; omega)
   refine hK.out _ _ (nS.cell 3 rfl) (fun hHeld => ?_)
   clear hK K
   refine aF 10 ?_
   refine iE ?_
   have afM := hid R11
   have afN := hid jR
   clear R11 jR nS Tn WI XH XI R10 N10 wG wJ z10 E9 L9 ER Eu E8 L8 R8 hb8 Rz Ez Lz hHeld
   go_wp2_with fail
   refine ⟨⟨k + 1, _, _, _, _, _, _, _, rfl, rfl, rfl, rfl, by omega, by go_num, afM, afN⟩, ?_⟩
   simp [intOf]; omega
  obtain rfl : k = es.length := by omega
  have Uy : ¬ (es.length : Int) < (es.length : Int) := by omega
  go_wp2_with fail
  go_ret2
  refine ⟨vo, lo, rfl, bC.out, own_base XG.out.row HBw.out.1, fun x hx => (XG.out.pos x hx).now, XG.out.ok, ?_⟩
  rw [HMe.out]
  exact XG.out.ms
def kS (M : aG) (pl : Int) (m : aN) : Bool := M.res == 0 && (M.pos.turn == pl && decide (m ∈ iF M.R M.pos))
theorem Tq {M : aG} {e : iY} (h : (M.go e).2 = 0) (hk : e.kind = 0) : kS M e.au e.m = true := by
 unfold aG.go at h
 split at h
 ·rename_i hc; exact absurd h hc
 rename_i hp
 obtain ⟨_, _, _, h4, _, _⟩ := rX (Decidable.byContradiction hp)
 split at h
 ·rename_i hc; exact absurd h hc
 rename_i hq
 have hk2 : (M.kind e).2 = 0 := Decidable.byContradiction hq
 unfold aG.kind at hk2
 rw [if_pos hk] at hk2
 unfold aG.jO at hk2
 split at hk2
 ·cases hk2
 rename_i ht
 split at hk2
 ·cases hk2
 rename_i hm
 have hm2 : e.m ∈ iy M.R M.pos := Decidable.byContradiction hm
 have ht2 : M.pos.turn = e.au := Decidable.byContradiction ht
 unfold iy at hm2
 split at hm2
 ·unfold kS
  rw [h4, ht2]
  simp [hm2]
 ·cases hm2
theorem OA {M : aG} {e : iY} (h : (M.go e).2 = 0) : e.au = 0 ∨ e.au = 1 := by
 unfold aG.go at h
 split at h
 ·rename_i hc; exact absurd h hc
 rename_i hp
 exact (rX (Decidable.byContradiction hp)).2.1
theorem gu {w w' : World} {g o : Nat} {cs : List Value} (h : w.rangeAt g o cs) (hb : Below w.heap.size w w') (hg : g < w.heap.size) : w'.rangeAt g o cs := fun k v hk => (hb.cell (p := ⟨g, o + k, none⟩) hg).trans (h k v hk)
theorem lI {S : Nat → Prop} {w w' : World} {g o : Nat} {cs : List Value} (h : w.rangeAt g o cs) (hf : Fr S w w') (hg : g < w.heap.size) (hs : ¬ S g) : w'.rangeAt g o cs := fun k v hk => (World.cell?_of_block (a := ⟨g, o + k, none⟩) (hf.block g hg hs)).trans (h k v hk)
def yV : List Value := [.slice none 0 0, .int .i64 0, .int .i64 0, .int .i64 0, .int .i64 0, .int .i64 0, .int .i64 0, .int .i64 0, .int .i64 0, .int .i64 0, .int .i64 0, .bool false, .int .i64 0, .int .i64 0, .int .i64 0, .int .i64 0, .int .i64 0, .int .i64 0, .int .i64 0, .slice none 0 0, .slice none 0 0, .slice none 0 0, .slice none 0 0, .int .i64 0, .int .i64 0, .int .i64 0]
def Zj (x : qX) : Prop := x.vc.oneCell' = true ∧ x.v0.oneCell' = true ∧ x.v1.oneCell' = true
theorem zN (x : qX) (h : Zj x) : (fC x).toArray.all (·.oneCell') = true := all_oneCell_toArray (Me x h.1 h.2.1 h.2.2)
theorem Zk {P F : World → Nat → Nat → Prop} {G : Prop} (main : (∀ w b c, F w b c → P w b c) → G) (rest : ∀ w b c, F w b c → P w b c) : G := main rest
set_option maxRecDepth 100000 in
set_option maxHeartbeats 16000000 in
theorem KH (HSo : SortMvSaid) (R : aC) (CR : nJ) (vp vs ve : Value) (pa : Option Addr) (pc : Nat) (bb : Nat) (v : Value) (l : List qX) (i j : Nat) (pl nn : Int) (m : aN) (w : World) (hr : ru w R vp vs ve) (hrow : w.ownsRow bb 209 26 v l.length (kR l))
  (hi : i < l.length) (hj : j < l.length) (hij : (j = 0 ∧ i = 0) ∨ i = j + 1) (hl : l.length ≤ 100) (h1 : ∀ x ∈ l, Zj x) (hR : l[j].M.R = R) (hpos : pX w l[j].M.pos l[j].vc l[j].v0 l[j].v1) (hok : nV l[j].M.R l[j].M.pos) :
  Calls Tryz.prog 65 #[.agg #[.string R.name, .int .i64 R.width, .int .i64 R.height, vp, vs, .bool R.falls, .bool R.keeps, ve, .int .i64 R.blocked, .int .i64 R.quiet, .int .i64 R.bF], .agg #[.slice pa CR.ps.length pc, .int .i64 CR.inc, .int .i64 CR.delay], v, .agg #[.int .i64 0, .int .i64 (i : Int), .int .i64 pl, .int .i64 nn, .int .i64 m.src, .int .i64 m.dst, .int .i64 m.piece]] w fun e w' => e = .returned (.bool (kS l[j].M pl m)) ∧ Below w.heap.size w w' := by
 have HS := hid HSo
 have HR := hid hr
 have hgx : ∃ g c, v = .slice (some ⟨g, 0, none⟩) l.length c ∧ g < w.heap.size ∧ l.length ≤ c ∧ c ≤ maxLen ∧ ∀ k (hk : k < l.length), w.rangeAt g (k * 26) (fC l[k]) := by
  rcases hrow.2 with ⟨_, h0⟩ | ⟨g, c, cur, rfl, hb, hg, hn, hm, hs, ht⟩
  ·omega
  ·refine ⟨g, c, rfl, (hrow.lt g rfl).2, hn, hm, fun k hk q u hq => ?_⟩
   have afO : q < 26 := by have := (List.getElem?_eq_some_iff.1 hq).1; exact this
   have := hrow.cellAt (k * 26 + q) (by omega)
   rw [this, Ox l k q hk afO]
   exact hq
 obtain ⟨g, c, rfl, hg, hc1, hc2, hrg⟩ := hgx
 unfold maxLen at hc2
 have hGx := hrg i hi
 have hGy := hrg j hj
 have Hx1 := hid (h1 _ (List.getElem_mem hi))
 have Hy1 := hid (h1 _ (List.getElem_mem hj))
 have afP := hid hpos
 have CX := hid hok
 have HRR := hid hR
 generalize l[i] = x at *
 generalize l[j] = y at *
 have hil : (i : Int) < (l.length : Int) := by omega
 have hjl : (j : Int) < (l.length : Int) := by omega
 have hw1 : IntKind.i64.wrap ((i : Int) - 1) = (i : Int) - 1 := by rw [IntKind.wrap_i64] <;> omega
 have hmx : (if (i : Int) - 1 < 0 then (0 : Int) else (i : Int) - 1) = (j : Int) := by split <;> omega
 clear HSo hr hrow h1 hR hpos hok hrg hij
 go_enter Tryz.func65, Tryz.ntmps65
 go_upto_region 1 with (fail)
 have HX0 := hid (((Box.new' w w.heap.size [.string R.name, .int .i64 R.width, .int .i64 R.height, vp, vs, .bool R.falls, .bool R.keeps, ve, .int .i64 R.blocked, .int .i64 R.quiet, .int .i64 R.bF] 46 rfl).alloc (.cells #[.slice pa CR.ps.length pc, .int .i64 CR.inc, .int .i64 CR.delay] 49)).alloc (.cells #[.int .i64 0, .int .i64 (i : Int), .int .i64 pl, .int .i64 nn, .int .i64 m.src, .int .i64 m.dst, .int .i64 m.piece] 86))
 have dn := hid ((Box.new' (w.alloc (.cells #[.string R.name, .int .i64 R.width, .int .i64 R.height, vp, vs, .bool R.falls, .bool R.keeps, ve, .int .i64 R.blocked, .int .i64 R.quiet, .int .i64 R.bF] 46)) (w.heap.size + 1) [.slice pa CR.ps.length pc, .int .i64 CR.inc, .int .i64 CR.delay] 49 (by simp)).alloc (.cells #[.int .i64 0, .int .i64 (i : Int), .int .i64 pl, .int .i64 nn, .int .i64 m.src, .int .i64 m.dst, .int .i64 m.piece] 86))
 have jH := hid (Box.new' ((w.alloc (.cells #[.string R.name, .int .i64 R.width, .int .i64 R.height, vp, vs, .bool R.falls, .bool R.keeps, ve, .int .i64 R.blocked, .int .i64 R.quiet, .int .i64 R.bF] 46)).alloc (.cells #[.slice pa CR.ps.length pc, .int .i64 CR.inc, .int .i64 CR.delay] 49)) (w.heap.size + 2) [.int .i64 0, .int .i64 (i : Int), .int .i64 pl, .int .i64 nn, .int .i64 m.src, .int .i64 m.dst, .int .i64 m.piece] 86 (by simp))
 have HB : Hid (Below w.heap.size w (((w.alloc (.cells #[.string R.name, .int .i64 R.width, .int .i64 R.height, vp, vs, .bool R.falls, .bool R.keeps, ve, .int .i64 R.blocked, .int .i64 R.quiet, .int .i64 R.bF] 46)).alloc (.cells #[.slice pa CR.ps.length pc, .int .i64 CR.inc, .int .i64 CR.delay] 49)).alloc (.cells #[.int .i64 0, .int .i64 (i : Int), .int .i64 pl, .int .i64 nn, .int .i64 m.src, .int .i64 m.dst, .int .i64 m.piece] 86))) := hid ((((Below.refl w.heap.size w).alloc (Nat.le_refl _) _).alloc (by simp) _).alloc (by simp; omega) _)
 have HZ : Hid (w.heap.size + 3 ≤ (((w.alloc (.cells #[.string R.name, .int .i64 R.width, .int .i64 R.height, vp, vs, .bool R.falls, .bool R.keeps, ve, .int .i64 R.blocked, .int .i64 R.quiet, .int .i64 R.bF] 46)).alloc (.cells #[.slice pa CR.ps.length pc, .int .i64 CR.inc, .int .i64 CR.delay] 49)).alloc (.cells #[.int .i64 0, .int .i64 (i : Int), .int .i64 pl, .int .i64 nn, .int .i64 m.src, .int .i64 m.dst, .int .i64 m.piece] 86)).heap.size) := hid (by simp)
 generalize (((w.alloc (.cells #[.string R.name, .int .i64 R.width, .int .i64 R.height, vp, vs, .bool R.falls, .bool R.keeps, ve, .int .i64 R.blocked, .int .i64 R.quiet, .int .i64 R.bF] 46)).alloc (.cells #[.slice pa CR.ps.length pc, .int .i64 CR.inc, .int .i64 CR.delay] 49)).alloc (.cells #[.int .i64 0, .int .i64 (i : Int), .int .i64 pl, .int .i64 nn, .int .i64 m.src, .int .i64 m.dst, .int .i64 m.piece] 86)) = wq at *
 have Gxz : wq.drew.rangeAt g (i * 26) (fC x) := gu hGx (aA HB.out) hg
 have Gyz : wq.drew.rangeAt g (j * 26) (fC y) := gu hGy (aA HB.out) hg
 have OO := HX0.out.drew
 have Zh := dn.out.drew
 have WJ := jH.out.drew
 have Lz : Below w.heap.size w wq.drew := aA HB.out
 have XJ : g < wq.drew.heap.size := Nat.lt_of_lt_of_le hg Lz.size
 have zy : Hid (g < wq.heap.size ∧ w.heap.size + 3 ≤ wq.heap.size) := hid ⟨XJ, HZ.out⟩
 clear HX0 dn jH HB HZ hGx hGy
 refine' Zk (F := fun wx b9 b10 => Hid (Box wx b9 (fC x) 209) ∧ Hid (Box wx b10 (fC y) 209) ∧ Hid (Box wx w.heap.size [.string R.name, .int .i64 R.width, .int .i64 R.height, vp, vs, .bool R.falls, .bool R.keeps, ve, .int .i64 R.blocked, .int .i64 R.quiet, .int .i64 R.bF] 46) ∧ Hid (Box wx (w.heap.size + 1) [.slice pa CR.ps.length pc, .int .i64 CR.inc, .int .i64 CR.delay] 49) ∧ Hid (Box wx (w.heap.size + 2) [.int .i64 0, .int .i64 (i : Int), .int .i64 pl, .int .i64 nn, .int .i64 m.src, .int .i64 m.dst, .int .i64 m.piece] 86) ∧ Hid (Below w.heap.size w wx)) ?main ?rest
 case main =>
  intro key
  refine wp_region_noPanic ?_
  refine bG (S := (fun w' => w'.rangeAt g (i * 26) (fC x) ∧ w'.rangeAt g (j * 26) (fC y) ∧ w'.cell? ⟨w.heap.size + 2, 1, none⟩ = some (.int .i64 (i : Int)))) (L := []) (by kernel_rfl) ⟨Gxz, Gyz, WJ.cell 1 rfl⟩ (fun hHeld => ?_)
  refine aF 0 ?_
  refine aF 1 ?_
  refine aF 5 ?_
  refine aF 6 ?_
  refine dL 2 ?_
  refine dL 7 ?_
  refine aF 3 ?_
  refine aF 8 ?_
  try simp only [Act.put, qw, qx, qy]
  refine FV (i := 4) (v := .agg (fC x).toArray) rfl (by kernel_rfl) (by kernel_rfl) (by kernel_rfl) (by kernel_rfl) rfl (by kernel_rfl) (by kernel_rfl) (fun _ _ _ h => h) (yieldsIf_load_mid (by rfl) 209 (.tmp 19) (by rfl) g (i * 26) (by rfl) (fC x) _ (fun _ hw => hw.1) Tryz.underlying209 (by rfl) (by kernel_rfl)) (by assumption) ?_
  refine aF 9 ?_
  refine aF 10 ?_
  try simp only [Act.put, qw, qx, qy]
  refine FV (i := 11) (v := .agg (fC y).toArray) rfl (by kernel_rfl) (by kernel_rfl) (by kernel_rfl) (by kernel_rfl) rfl (by kernel_rfl) (by kernel_rfl) (fun _ _ _ h => h) (yieldsIf_load_mid (by rfl) 209 (.tmp 26) (by rfl) g (j * 26) (by rfl) (fC y) _ (fun _ hw => hw.2.1) Tryz.underlying209 (by rfl) (by kernel_rfl)) (by assumption) ?_
  refine IL (rs := [12, 13]) ?_
  refine (aO.cons (by first | (simp only [List.getElem?_toArray, List.getElem?_cons_zero, List.getElem?_cons_succ] <;> rfl) | rfl) (fun K hK => ?_) (aO.cons (by first | (simp only [List.getElem?_toArray, List.getElem?_cons_zero, List.getElem?_cons_succ] <;> rfl) | rfl) (fun K hK => ?_) aO.nil))
  ·skip
   go_simp
   refine aK ?_
   intro w12 e12
   have iR : Below (wq.drew).heap.size (wq.drew) w12 := by rw [e12]; exact (Below.refl _ _).alloc (Nat.le_refl _) _
   have Tt : w12.rangeAt g (i * 26) (fC x) := gu Gxz iR (by have := XJ; omega)
   have Tv : w12.rangeAt g (j * 26) (fC y) := gu Gyz iR (by have := XJ; omega)
   have Zl := OO.stays iR
   have Zm := Zh.stays iR
   have Tz := WJ.stays iR
   have lQ := Lz.trans (iR.mono Lz.size)
   have KI : g < w12.heap.size := Nat.lt_of_lt_of_le XJ iR.size
   have Po : Box w12 wq.heap.size yV 209 := by rw [e12]; exact Box.new (wq.drew) _ _
   clear e12
   refine hK.out _ _ ⟨Tt, Tv, Tz.cell 1 rfl⟩ (fun hHeld => ?_)
   clear hK K
   refine dO 13 fun K hK => ?_
   go_simp
   refine aK ?_
   intro jY e13
   have jl : Below (w12).heap.size (w12) jY := by rw [e13]; exact (Below.refl _ _).alloc (Nat.le_refl _) _
   have TA : jY.rangeAt g (i * 26) (fC x) := gu Tt jl (by have := KI; omega)
   have TB : jY.rangeAt g (j * 26) (fC y) := gu Tv jl (by have := KI; omega)
   have Zn := Zl.stays jl
   have Zo := Zm.stays jl
   have TD := Tz.stays jl
   have NI := lQ.trans (jl.mono lQ.size)
   have KJ : g < jY.heap.size := Nat.lt_of_lt_of_le KI jl.size
   have Yw : Box jY w12.heap.size yV 209 := by rw [e13]; exact Box.new (w12) _ _
   clear e13
   have TF := Po.stays jl
   have hd : wq.heap.size < w12.heap.size := Po.lt
   refine hK.out _ _ ⟨TA, TB, TD.cell 1 rfl⟩ (fun hHeld => ?_)
   clear hK K
   refine dO 14 fun K hK => ?_
   rw [if_pos (by rfl)]
   refine wp_store_mid 209 (.tmp 9) (.tmp 20) (by rfl) wq.heap.size 0 (fC x).toArray (by rfl) (by rfl) (TF.has 0 26 (by simp [yV])) (by kernel_rfl) (zN x Hx1.out) ?_
   refine aK ?_
   intro mM e14
   have uS : Fr (fun q => q = wq.heap.size) jY mM := by rw [e14]; exact (Fr.refl (fun q => q = wq.heap.size) _).setCells (b := wq.heap.size) rfl 0 _
   have P14 : Box mM wq.heap.size (fC x) 209 := by rw [e14]; exact TF.store rfl
   have TG := Yw.held uS (by omega)
   have TI : mM.rangeAt g (i * 26) (fC x) := lI TA uS KJ (by have := zy.out; omega)
   have TJ : mM.rangeAt g (j * 26) (fC y) := lI TB uS KJ (by have := zy.out; omega)
   have Zp := Zn.held uS (by have := zy.out; omega)
   have Zq := Zo.held uS (by have := zy.out; omega)
   have TK := TD.held uS (by have := zy.out; omega)
   have zf : Below w.heap.size w mM := by rw [e14]; exact below_setCells NI (by have := zy.out; omega) 0 _
   have KN : g < mM.heap.size := Nat.lt_of_lt_of_le KJ uS.size
   clear e14
   refine hK.out _ _ ⟨TI, TJ, TK.cell 1 rfl⟩ (fun hHeld => ?_)
   clear hK K
   refine dO 15 fun K hK => ?_
   rw [if_pos (by rfl)]
   refine wp_store_mid 209 (.tmp 10) (.tmp 27) (by rfl) w12.heap.size 0 (fC y).toArray (by rfl) (by rfl) (TG.has 0 26 (by simp [yV])) (by kernel_rfl) (zN y Hy1.out) ?_
   refine aK ?_
   intro mZ e15
   have uT : Fr (fun q => q = w12.heap.size) mM mZ := by rw [e15]; exact (Fr.refl (fun q => q = w12.heap.size) _).setCells (b := w12.heap.size) rfl 0 _
   have Sm : Box mZ w12.heap.size (fC y) 209 := by rw [e15]; exact TG.store rfl
   have Zr := P14.held uT (by omega)
   have Zt : mZ.rangeAt g (i * 26) (fC x) := lI TI uT KN (by have := zy.out; omega)
   have Zu : mZ.rangeAt g (j * 26) (fC y) := lI TJ uT KN (by have := zy.out; omega)
   have Zv := Zp.held uT (by have := zy.out; omega)
   have Zw := Zq.held uT (by have := zy.out; omega)
   have TL := TK.held uT (by have := zy.out; omega)
   have xA : Below w.heap.size w mZ := by rw [e15]; exact below_setCells zf (by have := zy.out; omega) 0 _
   have afQ : g < mZ.heap.size := Nat.lt_of_lt_of_le KN uT.size
   clear e15
   refine hK.out _ _ ⟨Zt, Zu, TL.cell 1 rfl⟩ (fun hHeld => ?_)
   clear hK K
   refine iE ?_
   have key2 := fun (b9 b10 : Nat) (h9 : wq.heap.size = b9) (h10 : w12.heap.size = b10) => key mZ b9 b10 ⟨hid (by rw [← h9]; exact Zr), hid (by rw [← h10]; exact Sm), hid Zv, hid Zw, hid TL, hid xA⟩
   obtain ⟨b9, h9⟩ : ∃ b9, wq.heap.size = b9 := ⟨_, rfl⟩
   obtain ⟨b10, h10⟩ : ∃ b10, w12.heap.size = b10 := ⟨_, rfl⟩
   have Zx := key2 b9 b10 h9 h10
   rw [h9, h10]
   exact Zx
  ·skip
   go_simp
   refine aK ?_
   intro jY e13
   have jl : Below (wq.drew).heap.size (wq.drew) jY := by rw [e13]; exact (Below.refl _ _).alloc (Nat.le_refl _) _
   have TA : jY.rangeAt g (i * 26) (fC x) := gu Gxz jl (by have := XJ; omega)
   have TB : jY.rangeAt g (j * 26) (fC y) := gu Gyz jl (by have := XJ; omega)
   have Zn := OO.stays jl
   have Zo := Zh.stays jl
   have TD := WJ.stays jl
   have NI := Lz.trans (jl.mono Lz.size)
   have KJ : g < jY.heap.size := Nat.lt_of_lt_of_le XJ jl.size
   have Yw : Box jY wq.heap.size yV 209 := by rw [e13]; exact Box.new (wq.drew) _ _
   clear e13
   refine hK.out _ _ ⟨TA, TB, TD.cell 1 rfl⟩ (fun hHeld => ?_)
   clear hK K
   refine dO 12 fun K hK => ?_
   go_simp
   refine aK ?_
   intro w12 e12
   have iR : Below (jY).heap.size (jY) w12 := by rw [e12]; exact (Below.refl _ _).alloc (Nat.le_refl _) _
   have Tt : w12.rangeAt g (i * 26) (fC x) := gu TA iR (by have := KJ; omega)
   have Tv : w12.rangeAt g (j * 26) (fC y) := gu TB iR (by have := KJ; omega)
   have Zl := Zn.stays iR
   have Zm := Zo.stays iR
   have Tz := TD.stays iR
   have lQ := NI.trans (iR.mono NI.size)
   have KI : g < w12.heap.size := Nat.lt_of_lt_of_le KJ iR.size
   have Po : Box w12 jY.heap.size yV 209 := by rw [e12]; exact Box.new (jY) _ _
   clear e12
   have Zy := Yw.stays iR
   have hd : wq.heap.size < jY.heap.size := Yw.lt
   refine hK.out _ _ ⟨Tt, Tv, Tz.cell 1 rfl⟩ (fun hHeld => ?_)
   clear hK K
   refine dO 14 fun K hK => ?_
   rw [if_pos (by rfl)]
   refine wp_store_mid 209 (.tmp 9) (.tmp 20) (by rfl) jY.heap.size 0 (fC x).toArray (by rfl) (by rfl) (Po.has 0 26 (by simp [yV])) (by kernel_rfl) (zN x Hx1.out) ?_
   refine aK ?_
   intro mM e14
   have uS : Fr (fun q => q = jY.heap.size) w12 mM := by rw [e14]; exact (Fr.refl (fun q => q = jY.heap.size) _).setCells (b := jY.heap.size) rfl 0 _
   have P14 : Box mM jY.heap.size (fC x) 209 := by rw [e14]; exact Po.store rfl
   have TG := Zy.held uS (by omega)
   have TI : mM.rangeAt g (i * 26) (fC x) := lI Tt uS KI (by have := zy.out; omega)
   have TJ : mM.rangeAt g (j * 26) (fC y) := lI Tv uS KI (by have := zy.out; omega)
   have Zp := Zl.held uS (by have := zy.out; omega)
   have Zq := Zm.held uS (by have := zy.out; omega)
   have TK := Tz.held uS (by have := zy.out; omega)
   have zf : Below w.heap.size w mM := by rw [e14]; exact below_setCells lQ (by have := zy.out; omega) 0 _
   have KN : g < mM.heap.size := Nat.lt_of_lt_of_le KI uS.size
   clear e14
   refine hK.out _ _ ⟨TI, TJ, TK.cell 1 rfl⟩ (fun hHeld => ?_)
   clear hK K
   refine dO 15 fun K hK => ?_
   rw [if_pos (by rfl)]
   refine wp_store_mid 209 (.tmp 10) (.tmp 27) (by rfl) wq.heap.size 0 (fC y).toArray (by rfl) (by rfl) (TG.has 0 26 (by simp [yV])) (by kernel_rfl) (zN y Hy1.out) ?_
   refine aK ?_
   intro mZ e15
   have uT : Fr (fun q => q = wq.heap.size) mM mZ := by rw [e15]; exact (Fr.refl (fun q => q = wq.heap.size) _).setCells (b := wq.heap.size) rfl 0 _
   have Sm : Box mZ wq.heap.size (fC y) 209 := by rw [e15]; exact TG.store rfl
   have Zr := P14.held uT (by omega)
   have Zt : mZ.rangeAt g (i * 26) (fC x) := lI TI uT KN (by have := zy.out; omega)
   have Zu : mZ.rangeAt g (j * 26) (fC y) := lI TJ uT KN (by have := zy.out; omega)
   have Zv := Zp.held uT (by have := zy.out; omega)
   have Zw := Zq.held uT (by have := zy.out; omega)
   have TL := TK.held uT (by have := zy.out; omega)
   have xA : Below w.heap.size w mZ := by rw [e15]; exact below_setCells zf (by have := zy.out; omega) 0 _
   have afQ : g < mZ.heap.size := Nat.lt_of_lt_of_le KN uT.size
   clear e15
   refine hK.out _ _ ⟨Zt, Zu, TL.cell 1 rfl⟩ (fun hHeld => ?_)
   clear hK K
   refine iE ?_
   have key2 := fun (b9 b10 : Nat) (h9 : jY.heap.size = b9) (h10 : wq.heap.size = b10) => key mZ b9 b10 ⟨hid (by rw [← h9]; exact Zr), hid (by rw [← h10]; exact Sm), hid Zv, hid Zw, hid TL, hid xA⟩
   obtain ⟨b9, h9⟩ : ∃ b9, jY.heap.size = b9 := ⟨_, rfl⟩
   obtain ⟨b10, h10⟩ : ∃ b10, wq.heap.size = b10 := ⟨_, rfl⟩
   have Zx := key2 b9 b10 h9 h10
   rw [h9, h10]
   exact Zx
 case rest =>
  rintro wx b9 b10 ⟨HA9, ZA, HX0, dn, jH, HB⟩
  clear Gxz Gyz OO Zh WJ Lz XJ zy hw1 hmx
  have a25 := HA9.out.cell 25 rfl
  have a10 := HA9.out.cell 10 rfl
  have q0 := jH.out.cell 0 rfl
  obtain ⟨mx, hmx⟩ : ∃ mx, (if x.now < x.M.clk.since then x.M.clk.since else x.now) = mx := ⟨_, rfl⟩
  go_upto_region 5 with (fail)
  clear a25 a10 q0 hmx
  obtain ⟨wr, hwr⟩ : ∃ wr, wr = wx := ⟨_, rfl⟩
  rw [← hwr] at ZA HX0 dn jH HB ⊢
  clear hwr HA9
  have OO := HX0.out.drew
  have WJ := jH.out.drew
  have Az := ZA.out.drew
  have Lz : Below w.heap.size w wr.drew := aA HB.out
  have HRz := hid (HR.out.below Lz (Nat.le_refl _))
  have zx := hid (afP.out.below Lz (Nat.le_refl _))
  clear HX0 dn jH ZA HB
  by_cases hr0 : y.M.res = 0
  rotate_left
  ·have HV : Hid (kS y.M pl m = false) := hid (by unfold kS; rw [show (y.M.res == 0) = false by simpa using hr0]; rfl)
   have hrb : (y.M.res == 0) = false := by simpa using hr0
   clear hr0
   refine wp_region_noPanic ?_
   refine bG (S := (fun w' => w'.cell? ⟨w.heap.size, 0, none⟩ = some (.string R.name) ∧ w'.cell? ⟨w.heap.size, 1, none⟩ = some (.int .i64 R.width) ∧ w'.cell? ⟨w.heap.size, 2, none⟩ = some (.int .i64 R.height) ∧ w'.cell? ⟨w.heap.size, 3, none⟩ = some vp ∧ w'.cell? ⟨w.heap.size, 4, none⟩ = some vs ∧ w'.cell? ⟨w.heap.size, 5, none⟩ = some (.bool R.falls) ∧ w'.cell? ⟨w.heap.size, 6, none⟩ = some (.bool R.keeps) ∧ w'.cell? ⟨w.heap.size, 7, none⟩ = some ve ∧ w'.cell? ⟨w.heap.size, 8, none⟩ = some (.int .i64 R.blocked) ∧ w'.cell? ⟨w.heap.size, 9, none⟩ = some (.int .i64 R.quiet) ∧ w'.cell? ⟨w.heap.size, 10, none⟩ = some (.int .i64 R.bF) ∧ w'.cell? ⟨b10, 1, none⟩ = some (.int .i64 y.M.res) ∧ w'.cell? ⟨b10, 20, none⟩ = some y.vc ∧ w'.cell? ⟨b10, 21, none⟩ = some y.v0 ∧ w'.cell? ⟨b10, 22, none⟩ = some y.v1 ∧ w'.cell? ⟨b10, 23, none⟩ = some (.int .i64 y.M.pos.turn) ∧ w'.cell? ⟨b10, 24, none⟩ = some (.int .i64 y.M.pos.quiet) ∧ w'.cell? ⟨w.heap.size + 2, 2, none⟩ = some (.int .i64 pl) ∧ w'.cell? ⟨w.heap.size + 2, 4, none⟩ = some (.int .i64 m.src) ∧ w'.cell? ⟨w.heap.size + 2, 5, none⟩ = some (.int .i64 m.dst) ∧ w'.cell? ⟨w.heap.size + 2, 6, none⟩ = some (.int .i64 m.piece))) (L := []) (by kernel_rfl) (by and_intros <;> first | exact OO.cell _ rfl | exact Az.cell _ rfl | exact WJ.cell _ rfl) (fun hHeld => ?_)
   refine aF 0 ?_
   refine aF 1 ?_
   refine dL 2 ?_
   refine aF 3 ?_
   refine aF 4 ?_
   refine lJ 5 ?_
   refine lJ 8 ?_
   refine lJ 6 ?_
   refine lJ 9 ?_
   refine lJ 7 ?_
   refine lJ 10 ?_
   refine aF 11 ?_
   refine aF 12 ?_
   refine lJ 13 ?_
   refine lJ 14 ?_
   refine lJ 17 ?_
   refine lJ 15 ?_
   refine lJ 18 ?_
   refine lJ 16 ?_
   refine lJ 19 ?_
   refine aF 20 ?_
   refine aF 21 ?_
   refine iE ?_
   have BP := hid Lz
   clear hHeld
   go_wp2_with fail
   go_ret
   exact ⟨by rw [HV.out]; rfl, BP.out⟩
  have hrb : (y.M.res == 0) = true := by simpa using hr0
  by_cases ht0 : y.M.pos.turn = pl
  rotate_left
  ·have HV : Hid (kS y.M pl m = false) := hid (by unfold kS; rw [show (y.M.pos.turn == pl) = false by simpa using ht0]; simp)
   have htb : (y.M.pos.turn == pl) = false := by simpa using ht0
   clear hr0 ht0
   refine wp_region_noPanic ?_
   refine bG (S := (fun w' => w'.cell? ⟨w.heap.size, 0, none⟩ = some (.string R.name) ∧ w'.cell? ⟨w.heap.size, 1, none⟩ = some (.int .i64 R.width) ∧ w'.cell? ⟨w.heap.size, 2, none⟩ = some (.int .i64 R.height) ∧ w'.cell? ⟨w.heap.size, 3, none⟩ = some vp ∧ w'.cell? ⟨w.heap.size, 4, none⟩ = some vs ∧ w'.cell? ⟨w.heap.size, 5, none⟩ = some (.bool R.falls) ∧ w'.cell? ⟨w.heap.size, 6, none⟩ = some (.bool R.keeps) ∧ w'.cell? ⟨w.heap.size, 7, none⟩ = some ve ∧ w'.cell? ⟨w.heap.size, 8, none⟩ = some (.int .i64 R.blocked) ∧ w'.cell? ⟨w.heap.size, 9, none⟩ = some (.int .i64 R.quiet) ∧ w'.cell? ⟨w.heap.size, 10, none⟩ = some (.int .i64 R.bF) ∧ w'.cell? ⟨b10, 1, none⟩ = some (.int .i64 y.M.res) ∧ w'.cell? ⟨b10, 20, none⟩ = some y.vc ∧ w'.cell? ⟨b10, 21, none⟩ = some y.v0 ∧ w'.cell? ⟨b10, 22, none⟩ = some y.v1 ∧ w'.cell? ⟨b10, 23, none⟩ = some (.int .i64 y.M.pos.turn) ∧ w'.cell? ⟨b10, 24, none⟩ = some (.int .i64 y.M.pos.quiet) ∧ w'.cell? ⟨w.heap.size + 2, 2, none⟩ = some (.int .i64 pl) ∧ w'.cell? ⟨w.heap.size + 2, 4, none⟩ = some (.int .i64 m.src) ∧ w'.cell? ⟨w.heap.size + 2, 5, none⟩ = some (.int .i64 m.dst) ∧ w'.cell? ⟨w.heap.size + 2, 6, none⟩ = some (.int .i64 m.piece))) (L := []) (by kernel_rfl) (by and_intros <;> first | exact OO.cell _ rfl | exact Az.cell _ rfl | exact WJ.cell _ rfl) (fun hHeld => ?_)
   refine aF 0 ?_
   refine aF 1 ?_
   refine dL 2 ?_
   refine aF 3 ?_
   refine aF 4 ?_
   refine aF 5 ?_
   refine aF 8 ?_
   refine aF 6 ?_
   refine dL 9 ?_
   refine dL 7 ?_
   refine aF 10 ?_
   refine aF 11 ?_
   refine aF 12 ?_
   refine lJ 13 ?_
   refine lJ 14 ?_
   refine lJ 17 ?_
   refine lJ 15 ?_
   refine lJ 18 ?_
   refine lJ 16 ?_
   refine lJ 19 ?_
   refine aF 20 ?_
   refine aF 21 ?_
   refine iE ?_
   have BP := hid Lz
   clear hHeld
   go_wp2_with fail
   go_ret
   exact ⟨by rw [HV.out]; rfl, BP.out⟩
  have htb : (y.M.pos.turn == pl) = true := by simpa using ht0
  have HV : Hid (kS y.M pl m = decide (m ∈ iF R y.M.pos)) := hid (by unfold kS; rw [hrb, htb, HRR.out]; simp)
  clear hr0 ht0
  refine wp_region_noPanic ?_
  refine bG (S := (fun w' => w'.cell? ⟨w.heap.size, 0, none⟩ = some (.string R.name) ∧ w'.cell? ⟨w.heap.size, 1, none⟩ = some (.int .i64 R.width) ∧ w'.cell? ⟨w.heap.size, 2, none⟩ = some (.int .i64 R.height) ∧ w'.cell? ⟨w.heap.size, 3, none⟩ = some vp ∧ w'.cell? ⟨w.heap.size, 4, none⟩ = some vs ∧ w'.cell? ⟨w.heap.size, 5, none⟩ = some (.bool R.falls) ∧ w'.cell? ⟨w.heap.size, 6, none⟩ = some (.bool R.keeps) ∧ w'.cell? ⟨w.heap.size, 7, none⟩ = some ve ∧ w'.cell? ⟨w.heap.size, 8, none⟩ = some (.int .i64 R.blocked) ∧ w'.cell? ⟨w.heap.size, 9, none⟩ = some (.int .i64 R.quiet) ∧ w'.cell? ⟨w.heap.size, 10, none⟩ = some (.int .i64 R.bF) ∧ w'.cell? ⟨b10, 1, none⟩ = some (.int .i64 y.M.res) ∧ w'.cell? ⟨b10, 20, none⟩ = some y.vc ∧ w'.cell? ⟨b10, 21, none⟩ = some y.v0 ∧ w'.cell? ⟨b10, 22, none⟩ = some y.v1 ∧ w'.cell? ⟨b10, 23, none⟩ = some (.int .i64 y.M.pos.turn) ∧ w'.cell? ⟨b10, 24, none⟩ = some (.int .i64 y.M.pos.quiet) ∧ w'.cell? ⟨w.heap.size + 2, 2, none⟩ = some (.int .i64 pl) ∧ w'.cell? ⟨w.heap.size + 2, 4, none⟩ = some (.int .i64 m.src) ∧ w'.cell? ⟨w.heap.size + 2, 5, none⟩ = some (.int .i64 m.dst) ∧ w'.cell? ⟨w.heap.size + 2, 6, none⟩ = some (.int .i64 m.piece))) (L := []) (by kernel_rfl) (by and_intros <;> first | exact OO.cell _ rfl | exact Az.cell _ rfl | exact WJ.cell _ rfl) (fun hHeld => ?_)
  refine aF 0 ?_
  refine aF 1 ?_
  refine dL 2 ?_
  refine aF 3 ?_
  refine aF 4 ?_
  refine aF 5 ?_
  refine aF 8 ?_
  refine aF 6 ?_
  refine dL 9 ?_
  refine dL 7 ?_
  refine aF 10 ?_
  refine aF 11 ?_
  refine aF 12 ?_
  refine dL 13 ?_
  refine aF 14 ?_
  refine aF 17 ?_
  refine dL 15 ?_
  refine dL 18 ?_
  refine dO 16 fun K hK => ?_
  go_simp
  refine (vV HS.out R vp vs ve y.M.pos y.vc y.v0 y.v1 _ HRz.out zx.out (by rw [← HRR.out]; exact CX.out)).mono ?_
  rintro e w16 ⟨v16, rfl, ZB, hbb⟩
  obtain ⟨a16, c16, rfl⟩ := aI ZB
  have aco := OO.stays hbb
  have acp := WJ.stays hbb
  have A16 := Az.stays hbb
  have kH := Lz.trans (hbb.mono Lz.size)
  have R16 := kQ ZB
  clear ZB hbb
  refine hK.out _ _ (by and_intros <;> first | exact aco.cell _ rfl | exact A16.cell _ rfl | exact acp.cell _ rfl) (fun hHeld => ?_)
  clear hK K
  refine dO 19 fun K hK => ?_
  go_simp
  refine (lC _ m _ _ R16).mono ?_
  rintro e uX ⟨rfl, hbb⟩
  have afS := aco.stays hbb
  have afT := acp.stays hbb
  have A19 := A16.stays hbb
  have L19 := kH.trans (hbb.mono kH.size)
  clear hbb
  refine hK.out _ _ (by and_intros <;> first | exact afS.cell _ rfl | exact A19.cell _ rfl | exact afT.cell _ rfl) (fun hHeld => ?_)
  clear hK K
  refine aF 20 ?_
  refine aF 21 ?_
  refine iE ?_
  have U7 := hid L19
  clear hHeld
  go_wp2_with fail
  go_ret
  exact ⟨by rw [HV.out]; rfl, U7.out⟩
end Go.Proofs.YtmabaojkignodaaGreatDoor

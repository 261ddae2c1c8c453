/- MaH, MaI, MaJ. -/
import Derived.Test.YtmabaojkignodaaGreatDoorE27
import Derived.Lib.LaidTab
import Derived.Lib.Join
namespace Go.Proofs.YtmabaojkignodaaGreatDoor
open Go.ChangeShapes Go.WideShapes Go.ChangeAt Go.RowKit
set_option linter.unusedVariables false
set_option maxHeartbeats 16000000
set_option maxRecDepth 100000
open Go.Lib (hid)
variable {X S:Nat→Prop} {base b:Nat} {M:aG} {B:jv}
theorem Bh (R:aC) (vp vs ve:Value) (p:bg) (vc v0 v1:Value) (pl:Int) (w:World) (hr:ru w R vp vs ve) (hnm:R.name.size≤maxLen) (hp:pX w p vc v0 v1) (K:nV R p) (hre:aW R=0) (hpl:pl=0∨pl=1) :
  Calls Tryz.prog 144 #[(.agg #[.string R.name,.int .i64 R.width,.int .i64 R.height,vp,vs,.bool R.falls,.bool R.keeps,ve,.int .i64 R.blocked,.int .i64 R.quiet,.int .i64 R.bF]),(.agg #[vc,v0,v1,.int .i64 p.turn,.int .i64 p.quiet]),.int .i64 pl] w fun e w'=>e=.returned (.tuple #[.int .i64 (gZ R p pl),.int .i64 0])∧Below w.heap.size w w':=by
 have HR:=hid hr
 have HN:=hid hnm
 have HP:=hid hp
 have jy:Hid (jM R p pl=0):=hid (by unfold jM; rw [if_neg (by rw [Jm hre K]; decide),if_neg (by omega)])
 have gW:Hid (jM R p (1 - pl)=0):=hid (by unfold jM; rw [if_neg (by rw [Jm hre K]; decide),if_neg (by omega)])
 have HA1:Hid (ug R p (1 - pl)=Hr R p (1 - pl)):=hid (by unfold ug; rw [if_neg (by rw [gW.out]; decide)])
 have HD:Hid (gZ R p pl=if Hr R p (1 - pl)=true then 2 - pl else 3):=hid rfl
 have yS:=hid hpl
 clear hr hnm hp K hre hpl
 go_enter Tryz.func144,Tryz.ntmps144
 go_upto_region 1 with (fail)
 refine sV fun w0 B0 B1 dM hs_=>?_
 have HB:=hid dM
 have hz0:w.heap.size+1<w0.heap.size:=by omega
 clear hs_ dM
 have HX0:=hid B0
 have dn:=hid B1
 clear B0 B1 hz0
 refine wp_region_lit ?_
 refine aB (by rfl) 46 (.tmp 3) (by rfl) (w.heap.size) (by rfl) HX0.out Tryz.underlying46 (by rfl) (by kernel_rfl) ?_
 refine aB (by rfl) 78 (.tmp 4) (by rfl) (w.heap.size+1) (by rfl) dn.out Tryz.underlying78 (by rfl) (by kernel_rfl) ?_
 go_wp2_with fail
 refine (Ih R vp vs ve p vc v0 v1 pl w0 (HR.out.below HB.out (Nat.le_refl _)) HN.out (HP.out.below HB.out (Nat.le_refl _))).mono ?_
 rintro e w1 ⟨rfl,hb1⟩
 have HB1:=hid (aj HB.out hb1 HB.out.size)
 have oC:=hid (HX0.out.stays hb1)
 have dZ:=hid (dn.out.stays hb1)
 rw [jy.out]
 generalize ug R p pl=ab at *
 clear hb1 HX0 dn HB
 go_upto_region 4 with (fail)
 refine wp_region_lit ?_
 refine aB (by rfl) 46 (.tmp 3) (by rfl) (w.heap.size) (by rfl) oC.out Tryz.underlying46 (by rfl) (by kernel_rfl) ?_
 refine aB (by rfl) 78 (.tmp 4) (by rfl) (w.heap.size+1) (by rfl) dZ.out Tryz.underlying78 (by rfl) (by kernel_rfl) ?_
 have hw1:IntKind.i64.wrap (1 - pl)=1 - pl:=IntWalk.i64_in _ (by have:=yS.out; omega)
 have hw2:IntKind.i64.wrap (2 - pl)=2 - pl:=IntWalk.i64_in _ (by have:=yS.out; omega)
 go_wp2_with fail
 refine (Ih R vp vs ve p vc v0 v1 (1 - pl) w1 (HR.out.below HB1.out (Nat.le_refl _)) HN.out (HP.out.below HB1.out (Nat.le_refl _))).mono ?_
 rintro e w2 ⟨rfl,hb2⟩
 have HB2:=hid (aj HB1.out hb2 HB1.out.size)
 rw [gW.out,HA1.out]
 clear hb2 oC dZ HB1
 generalize Hr R p (1 - pl)=cz at *
 cases cz
 ·go_wp2_with fail
  go_ret2
  exact ⟨by rw [HD.out]; rfl,HB2.out⟩
 ·go_wp2_with fail
  go_ret2
  exact ⟨by rw [HD.out]; rfl,HB2.out⟩
theorem Iq (HS:SortMvSaid) (ev:iY) (w:World) (h:aH X S base w b M B) (hb:base≤w.heap.size) (hcr:xU M.CR) (hck:qV M.CR M.clk) (hsn:M.clk.since≤ev.now) (hnw:ev.now≤100000000) (hnm:M.R.name.size≤maxLen):Calls Tryz.prog 99 #[.pointer (some ⟨b,0,none⟩),.agg #[.int .i64 ev.kind,.int .i64 ev.au,.int .i64 ev.n,.int .i64 ev.now,.int .i64 ev.m.src,.int .i64 ev.m.dst,.int .i64 ev.m.piece]] w fun e w'=>e=.returned (.int .i64 (M.dK ev).2)∧wM X S base b w (M.dK ev).1 w':=by
 have iH:=hid (And.intro hcr (And.intro hck (And.intro hsn hnw)))
 have OG:=hid hnm
 clear hcr hck hsn hnw hnm
 have lY:=hid HS
 have HM:=hid h
 have qg:=hid hb
 have LJ:Hid (¬ S w.heap.size):=hid (fun hk=>by obtain ⟨up,us,ue,vl,vm,rows,hg⟩:=h.game; have:=(hg.lo _ hk).2; omega)
 have EP:Hid (b<w.heap.size):=hid h.box.lt
 clear h hb HS
 go_enter Tryz.func99,Tryz.ntmps99
 go_upto_region 1 with (fail)
 refine lM fun w0 jU dM hs_=>?_
 have jy:=hid jU
 have HB0:=hid dM
 clear hs_ jU dM
 have iZ:=hid (HM.out.below HB0.out)
 have HEq:Hid (w.heap.size≠b):=hid (fun e=>by have:=EP.out; omega)
 have e2:=jy.out.cell 2 rfl
 by_cases hn2:ev.n=2
 ·have V9:Hid (M.dK ev=if (aV M.CR M.clk ev.now).ak<0 then (M,10) else ({ M with clk:=aV M.CR M.clk ev.now,res:=gZ M.R M.pos (aV M.CR M.clk ev.now).ak,reason:=2 },0)):=hid (by unfold aG.dK; rw [if_pos hn2])
  have hnb:(ev.n == 2)=true:=by simpa using hn2
  clear hn2
  go_upto_region 2 with (fail)
  clear e2 hnb
  generalize w0=wq at *
  have Mz:aH X S base wq.drew b M B:=iZ.out.below (aA (Below.refl _ _))
  have Ez:=jy.out.drew
  have Lz:Below wq.drew.heap.size wq.drew wq.drew:=Below.refl _ _
  have gQ:Hid (Below w.heap.size w wq.drew):=hid (aA HB0.out)
  clear iZ jy HB0
  refine wp_region_noPanic ?_
  refine bG (S:=(fun w'=>w'.cell? ⟨b,11,none⟩=some (.slice B.pa M.CR.ps.length B.pc)∧w'.cell? ⟨b,12,none⟩=some (.int .i64 M.CR.inc)∧w'.cell? ⟨b,13,none⟩=some (.int .i64 M.CR.delay)∧w'.cell? ⟨b,18,none⟩=some (.int .i64 M.clk.l0)∧w'.cell? ⟨b,19,none⟩=some (.int .i64 M.clk.l1)∧w'.cell? ⟨b,20,none⟩=some (.int .i64 M.clk.m0)∧w'.cell? ⟨b,21,none⟩=some (.int .i64 M.clk.m1)∧w'.cell? ⟨b,22,none⟩=some (.int .i64 M.clk.p0)∧w'.cell? ⟨b,23,none⟩=some (.int .i64 M.clk.p1)∧w'.cell? ⟨b,24,none⟩=some (.int .i64 M.clk.turn)∧w'.cell? ⟨b,25,none⟩=some (.int .i64 M.clk.since)∧w'.cell? ⟨b,26,none⟩=some (.bool M.clk.st)∧w'.cell? ⟨b,27,none⟩=some (.int .i64 M.clk.ak)∧w'.cell? ⟨w.heap.size,3,none⟩=some (.int .i64 ev.now))) (L:=[]) (by kernel_rfl) (by and_intros <;> first | exact Mz.box.cell _ rfl | exact Ez.cell _ rfl) (fun hHeld=>?_)
  refine aF 0 ?_
  refine aF 4 ?_
  refine aF 9 ?_
  refine aF 1 ?_
  refine aF 5 ?_
  refine dL 10 ?_
  refine aF 2 ?_
  refine aF 6 ?_
  refine dL 3 ?_
  refine aF 7 ?_
  refine dL 8 ?_
  refine IL (rs:=[11,15]) ?_
  refine (aO.cons (by first | (simp only [List.getElem?_toArray,List.getElem?_cons_zero,List.getElem?_cons_succ] <;> rfl) | rfl) (fun K hK=>?_) (aO.cons (by first | (simp only [List.getElem?_toArray,List.getElem?_cons_zero,List.getElem?_cons_succ] <;> rfl) | rfl) (fun K hK=>?_) aO.nil))
  ·skip
   go_simp
   refine (sK M.CR M.clk ev.now B.pa B.pc _ iH.out.1 iH.out.2.1 iH.out.2.2.1 iH.out.2.2.2 Mz.fr.per).mono ?_
   rintro e ku ⟨rfl,hbb⟩
   unfold Bc
   have M11:=Mz.below hbb
   have nS:=Ez.stays hbb
   have jR:=aj Lz hbb Lz.size
   clear hbb
   refine hK.out _ _ (by and_intros <;> first | exact M11.box.cell _ rfl | exact nS.cell _ rfl) (fun hHeld=>?_)
   clear hK K
   refine aF 12 ?_
   refine aF 13 ?_
   refine aF 14 ?_
   refine dO 15 fun K hK=>?_
   go_simp
   refine aK ?_
   intro mZ e15
   have hbb:Below ku.heap.size ku mZ:=by rw [e15]; exact (Below.refl _ _).alloc (Nat.le_refl _) _
   have Bg:Box mZ (ku.heap.size) [.int .i64 0,.int .i64 0,.int .i64 0,.int .i64 0,.int .i64 0,.int .i64 0,.int .i64 0,.int .i64 0,.bool false,.int .i64 0] 67:=by rw [e15]; exact Box.new' _ _ _ _ rfl
   have sZ:=M11.below hbb
   have vC:=nS.stays hbb
   have xA:=aj jR hbb jR.size
   clear hbb e15
   refine hK.out _ _ (by and_intros <;> first | exact sZ.box.cell _ rfl | exact vC.cell _ rfl) (fun hHeld=>?_)
   clear hK K
   refine dO 16 fun K hK=>?_
   rw [if_pos (by rfl)]
   refine wp_store_mid 67 (.tmp 5) (.tmp 24) (by rfl) (ku.heap.size) 0 #[.int .i64 (aV M.CR M.clk ev.now).l0,.int .i64 (aV M.CR M.clk ev.now).l1,.int .i64 (aV M.CR M.clk ev.now).m0,.int .i64 (aV M.CR M.clk ev.now).m1,.int .i64 (aV M.CR M.clk ev.now).p0,.int .i64 (aV M.CR M.clk ev.now).p1,.int .i64 (aV M.CR M.clk ev.now).turn,.int .i64 (aV M.CR M.clk ev.now).since,.bool (aV M.CR M.clk ev.now).st,.int .i64 (aV M.CR M.clk ev.now).ak] (by rfl) (by rfl) (Bg.has 0 10 (by simp)) (by kernel_rfl) (by simp [Value.oneCell']) ?_
   refine aK ?_
   intro w16 e16
   have qj:Box w16 (ku.heap.size) [.int .i64 (aV M.CR M.clk ev.now).l0,.int .i64 (aV M.CR M.clk ev.now).l1,.int .i64 (aV M.CR M.clk ev.now).m0,.int .i64 (aV M.CR M.clk ev.now).m1,.int .i64 (aV M.CR M.clk ev.now).p0,.int .i64 (aV M.CR M.clk ev.now).p1,.int .i64 (aV M.CR M.clk ev.now).turn,.int .i64 (aV M.CR M.clk ev.now).since,.bool (aV M.CR M.clk ev.now).st,.int .i64 (aV M.CR M.clk ev.now).ak] 67:=by rw [e16]; exact Bg.store rfl
   have hbn:wq.heap.size≤ku.heap.size:=jR.size
   have kH:Below wq.drew.heap.size wq.drew w16:=by rw [e16]; exact below_setCells xA hbn 0 _
   have lT:=Mz.below kH
   have mO:=Ez.stays kH
   clear e16 hbn
   refine hK.out _ _ (by and_intros <;> first | exact lT.box.cell _ rfl | exact mO.cell _ rfl) (fun hHeld=>?_)
   clear hK K
   refine aF 17 ?_
   refine iE ?_
   have bM:=hid lT
   have gW:=hid mO
   have HB1:Hid (Below w.heap.size w w16):=hid (aj gQ.out kH gQ.out.size)
   have dn:=hid qj
   have uQ:Hid (ku.heap.size≠b):=hid (fun e=>by have h1:=Mz.box.lt; have h2:wq.heap.size≤ku.heap.size:=jR.size; have h3:b<wq.heap.size:=h1; omega)
   clear M11 nS jR sZ vC xA lT mO kH Mz Ez Lz hHeld gQ Bg qj
   generalize w16=w5 at *
   generalize ku.heap.size=bx at *
   have HFr:Hid (-1≤(aV M.CR M.clk ev.now).ak∧(aV M.CR M.clk ev.now).ak≤1):=hid (JM iH.out.2.1 ev.now).f
   obtain ⟨lc,hlc⟩:∃ lc,lc=(aV M.CR M.clk ev.now):=⟨_,rfl⟩
   have UW:Hid (lc=aV M.CR M.clk ev.now):=hid hlc
   rw [← hlc] at dn HFr ⊢
   clear hlc
   have x9:=dn.out.cell 9 rfl
   go_upto_region 3 with (fail)
   by_cases hf:lc.ak<0
   ·have HD2:Hid (M.dK ev=(M,10)):=hid (by rw [V9.out,← UW.out,if_pos hf])
    go_wp2_with fail
    go_ret
    exact ⟨by rw [HD2.out]; rfl,S,B,by rw [HD2.out]; exact bM.out,dw.refl _ _,dD.new HB1.out⟩
   have HD2:Hid (M.dK ev=({ M with clk:=lc,res:=gZ M.R M.pos lc.ak,reason:=2 },0)):=hid (by rw [V9.out,← UW.out,if_neg hf])
   have YW:Hid (lc.ak=0∨lc.ak=1):=hid (by have:=HFr.out; omega)
   go_upto_region 5 with (fail)
   clear hf x9
   have x0:=dn.out.cell 0 rfl
   have x1:=dn.out.cell 1 rfl
   have x2:=dn.out.cell 2 rfl
   have x3:=dn.out.cell 3 rfl
   have x4:=dn.out.cell 4 rfl
   have x5:=dn.out.cell 5 rfl
   have x6:=dn.out.cell 6 rfl
   have x7:=dn.out.cell 7 rfl
   have x8:=dn.out.cell 8 rfl
   have x9:=dn.out.cell 9 rfl
   have d18:=bM.out.box.cell 18 rfl
   have f18:=bM.out.box.frozen 18
   have d19:=bM.out.box.cell 19 rfl
   have f19:=bM.out.box.frozen 19
   have d20:=bM.out.box.cell 20 rfl
   have f20:=bM.out.box.frozen 20
   have d21:=bM.out.box.cell 21 rfl
   have f21:=bM.out.box.frozen 21
   have d22:=bM.out.box.cell 22 rfl
   have f22:=bM.out.box.frozen 22
   have d23:=bM.out.box.cell 23 rfl
   have f23:=bM.out.box.frozen 23
   have d24:=bM.out.box.cell 24 rfl
   have f24:=bM.out.box.frozen 24
   have d25:=bM.out.box.cell 25 rfl
   have f25:=bM.out.box.frozen 25
   have d26:=bM.out.box.cell 26 rfl
   have f26:=bM.out.box.frozen 26
   have d27:=bM.out.box.cell 27 rfl
   have f27:=bM.out.box.frozen 27
   have HP:=hid (bM.out.put (M':={ M with clk:=lc }) (B':=B) 18 [.int .i64 lc.l0,.int .i64 lc.l1,.int .i64 lc.m0,.int .i64 lc.m1,.int .i64 lc.p0,.int .i64 lc.p1,.int .i64 lc.turn,.int .i64 lc.since,.bool lc.st,.int .i64 lc.ak] (by simp) rfl rfl rfl rfl (bM.out.rd.imp (fun _ h=>⟨h.rd,h.per,h.pc,h.pr,h.jr⟩)))
   go_upto_region 6 with (fail)
   clear d18 f18 d19 f19 d20 f20 d21 f21 d22 f22 d23 f23 d24 f24 d25 f25 d26 f26 d27 f27 x0 x1 x2 x3 x4 x5 x6 x7 x8 x9
   refine wU ?_
   intro w6 e6
   have ou:Hid (aH X S base w6 b ({ M with clk:=lc }:aG) B):=hid (by rw [e6]; exact HP.out.1)
   have HF2:Hid (dD S b w w6):=hid (by rw [e6]; exact (dD.new HB1.out).trans HP.out.2 (dw.refl _ _))
   have jH:Hid (Box w6 bx [.int .i64 lc.l0,.int .i64 lc.l1,.int .i64 lc.m0,.int .i64 lc.m1,.int .i64 lc.p0,.int .i64 lc.p1,.int .i64 lc.turn,.int .i64 lc.since,.bool lc.st,.int .i64 lc.ak] 67):=hid (by rw [e6]; exact dn.out.qA uQ.out 18 [.int .i64 lc.l0,.int .i64 lc.l1,.int .i64 lc.m0,.int .i64 lc.m1,.int .i64 lc.p0,.int .i64 lc.p1,.int .i64 lc.turn,.int .i64 lc.since,.bool lc.st,.int .i64 lc.ak])
   clear HP bM gW dn e6
   generalize w6=wq at *
   have Mz:aH X S base wq.drew b ({ M with clk:=lc }:aG) B:=ou.out.below (aA (Below.refl _ _))
   have Ez:=jH.out.drew
   have Lz:Below wq.drew.heap.size wq.drew wq.drew:=Below.refl _ _
   have gQ:Hid (dD S b w wq.drew):=hid (Fr.drew HF2.out)
   have HK6:Hid (nV M.R M.pos):=hid (by obtain ⟨up,us,ue,vl,vm,rows,hg⟩:=Mz.game; exact hg.Ub)
   have CU:Hid (aW M.R=0):=hid (by obtain ⟨up,us,ue,vl,vm,rows,hg⟩:=Mz.game; exact hg.re)
   clear ou jH
   refine wp_region_noPanic ?_
   refine bG (S:=(fun w'=>w'.cell? ⟨b,0,none⟩=some (.string ({ M with clk:=lc }:aG).R.name)∧w'.cell? ⟨b,1,none⟩=some (.int .i64 ({ M with clk:=lc }:aG).R.width)∧w'.cell? ⟨b,2,none⟩=some (.int .i64 ({ M with clk:=lc }:aG).R.height)∧w'.cell? ⟨b,3,none⟩=some B.vp∧w'.cell? ⟨b,4,none⟩=some B.vs∧w'.cell? ⟨b,5,none⟩=some (.bool ({ M with clk:=lc }:aG).R.falls)∧w'.cell? ⟨b,6,none⟩=some (.bool ({ M with clk:=lc }:aG).R.keeps)∧w'.cell? ⟨b,7,none⟩=some B.ve∧w'.cell? ⟨b,8,none⟩=some (.int .i64 ({ M with clk:=lc }:aG).R.blocked)∧w'.cell? ⟨b,9,none⟩=some (.int .i64 ({ M with clk:=lc }:aG).R.quiet)∧w'.cell? ⟨b,10,none⟩=some (.int .i64 ({ M with clk:=lc }:aG).R.bF)∧w'.cell? ⟨b,14,none⟩=some (.pointer (some ⟨B.g,0,none⟩))∧w'.cell? ⟨bx,9,none⟩=some (.int .i64 lc.ak))) (L:=[]) (by kernel_rfl) (by and_intros <;> first | exact Mz.box.cell _ rfl | exact Ez.cell _ rfl) (fun hHeld=>?_)
   refine aF 0 ?_
   refine aF 1 ?_
   refine aF 5 ?_
   refine aF 10 ?_
   refine aF 2 ?_
   refine aF 6 ?_
   refine dL 11 ?_
   refine aF 3 ?_
   refine aF 7 ?_
   refine dL 4 ?_
   refine dL 8 ?_
   refine dO 9 fun K hK=>?_
   go_simp
   obtain ⟨up',us',ue',VB,VD,rows',IU⟩:=Mz.game
   refine (iG _ IU.plain).mono ?_
   clear IU
   rintro e w9 ⟨vc,v0,v1,rfl,ER,hbb⟩
   have M9:=Mz.below hbb
   have E9:=Ez.stays hbb
   have L9:=aj Lz hbb Lz.size
   have P9:=ER.rd
   clear hbb
   refine hK.out _ _ (by and_intros <;> first | exact M9.box.cell _ rfl | exact E9.cell _ rfl) (fun hHeld=>?_)
   clear hK K
   refine dO 12 fun K hK=>?_
   go_simp
   refine (Bh M.R B.vp B.vs B.ve M.pos vc v0 v1 lc.ak _ M9.fr.rd OG.out P9 HK6.out CU.out YW.out).mono ?_
   rintro e w12 ⟨rfl,hbb⟩
   have M12:=M9.below hbb
   have uN:=E9.stays hbb
   have lQ:=aj L9 hbb L9.size
   have VF:=P9.below hbb (Nat.le_refl _)
   clear hbb
   refine hK.out _ _ (by and_intros <;> first | exact M12.box.cell _ rfl | exact uN.cell _ rfl) (fun hHeld=>?_)
   clear hK K
   refine aF 13 ?_
   refine aF 14 ?_
   refine aF 15 ?_
   refine aF 16 ?_
   refine aF 17 ?_
   refine aF 18 ?_
   refine dO 19 fun K hK=>?_
   have dd:=M12.box.cell 16 rfl
   have df:=M12.box.frozen 16
   go_simp
   refine aK ?_
   intro uX e19
   clear dd df
   have YX:=M12.put (M':={ M with clk:=lc,res:=(gZ M.R M.pos lc.ak) }) (B':=B) 16 [.int .i64 (gZ M.R M.pos lc.ak)] (by simp) rfl rfl rfl rfl (M12.rd.imp (fun _ h=>⟨h.rd,h.per,h.pc,h.pr,h.jr⟩))
   have YZ:aH X S base uX b { M with clk:=lc,res:=(gZ M.R M.pos lc.ak) } B:=by rw [e19]; exact YX.1
   have Sv:dD S b wq.drew uX:=by rw [e19]; exact (dD.new lQ).trans YX.2 (dw.refl _ _)
   have E19:Box uX (bx) [.int .i64 lc.l0,.int .i64 lc.l1,.int .i64 lc.m0,.int .i64 lc.m1,.int .i64 lc.p0,.int .i64 lc.p1,.int .i64 lc.turn,.int .i64 lc.since,.bool lc.st,.int .i64 lc.ak] 67:=by rw [e19]; exact uN.far ⟨b,16,none⟩ _ (fun e=>uQ.out e)
   clear YX e19
   refine hK.out _ _ (by and_intros <;> first | exact YZ.box.cell _ rfl | exact E19.cell _ rfl) (fun hHeld=>?_)
   clear hK K
   refine iE ?_
   have nR:=hid YZ
   have HF3:Hid (dD S b w uX):=hid (gQ.out.trans Sv (dw.refl _ _))
   clear M9 E9 L9 M12 uN lQ P9 VF ER YZ E19 Sv Mz Ez Lz hHeld gQ
   generalize uX=w7 at *
   have d17:=nR.out.box.cell 17 rfl
   have f17:=nR.out.box.frozen 17
   have HP:=hid (nR.out.put (M':={ M with clk:=lc,res:=(gZ M.R M.pos lc.ak),reason:=2 }) (B':=B) 17 [.int .i64 2] (by simp) rfl rfl rfl rfl (nR.out.rd.imp (fun _ h=>⟨h.rd,h.per,h.pc,h.pr,h.jr⟩)))
   go_wp2_with fail
   go_ret
   exact ⟨by rw [HD2.out]; rfl,S,B,by rw [HD2.out]; exact HP.out.1,dw.refl _ _,HF3.out.trans HP.out.2 (dw.refl _ _)⟩
  ·skip
   go_simp
   refine aK ?_
   intro mZ e15
   have hbb:Below wq.drew.heap.size wq.drew mZ:=by rw [e15]; exact (Below.refl _ _).alloc (Nat.le_refl _) _
   have Bg:Box mZ (wq.heap.size) [.int .i64 0,.int .i64 0,.int .i64 0,.int .i64 0,.int .i64 0,.int .i64 0,.int .i64 0,.int .i64 0,.bool false,.int .i64 0] 67:=by rw [e15]; exact Box.new' _ _ _ _ rfl
   have sZ:=Mz.below hbb
   have vC:=Ez.stays hbb
   have xA:=aj Lz hbb Lz.size
   clear hbb e15
   refine hK.out _ _ (by and_intros <;> first | exact sZ.box.cell _ rfl | exact vC.cell _ rfl) (fun hHeld=>?_)
   clear hK K
   refine dO 11 fun K hK=>?_
   go_simp
   refine (sK M.CR M.clk ev.now B.pa B.pc _ iH.out.1 iH.out.2.1 iH.out.2.2.1 iH.out.2.2.2 sZ.fr.per).mono ?_
   rintro e ku ⟨rfl,hbb⟩
   unfold Bc
   have M11:=sZ.below hbb
   have nS:=vC.stays hbb
   have jR:=aj xA hbb xA.size
   have C9:=Bg.stays hbb
   clear hbb
   refine hK.out _ _ (by and_intros <;> first | exact M11.box.cell _ rfl | exact nS.cell _ rfl) (fun hHeld=>?_)
   clear hK K
   refine aF 12 ?_
   refine aF 13 ?_
   refine aF 14 ?_
   refine dO 16 fun K hK=>?_
   rw [if_pos (by rfl)]
   refine wp_store_mid 67 (.tmp 5) (.tmp 24) (by rfl) (wq.heap.size) 0 #[.int .i64 (aV M.CR M.clk ev.now).l0,.int .i64 (aV M.CR M.clk ev.now).l1,.int .i64 (aV M.CR M.clk ev.now).m0,.int .i64 (aV M.CR M.clk ev.now).m1,.int .i64 (aV M.CR M.clk ev.now).p0,.int .i64 (aV M.CR M.clk ev.now).p1,.int .i64 (aV M.CR M.clk ev.now).turn,.int .i64 (aV M.CR M.clk ev.now).since,.bool (aV M.CR M.clk ev.now).st,.int .i64 (aV M.CR M.clk ev.now).ak] (by rfl) (by rfl) (C9.has 0 10 (by simp)) (by kernel_rfl) (by simp [Value.oneCell']) ?_
   refine aK ?_
   intro w16 e16
   have qj:Box w16 (wq.heap.size) [.int .i64 (aV M.CR M.clk ev.now).l0,.int .i64 (aV M.CR M.clk ev.now).l1,.int .i64 (aV M.CR M.clk ev.now).m0,.int .i64 (aV M.CR M.clk ev.now).m1,.int .i64 (aV M.CR M.clk ev.now).p0,.int .i64 (aV M.CR M.clk ev.now).p1,.int .i64 (aV M.CR M.clk ev.now).turn,.int .i64 (aV M.CR M.clk ev.now).since,.bool (aV M.CR M.clk ev.now).st,.int .i64 (aV M.CR M.clk ev.now).ak] 67:=by rw [e16]; exact C9.store rfl
   have hbn:wq.heap.size≤wq.heap.size:=Nat.le_refl _
   have kH:Below wq.drew.heap.size wq.drew w16:=by rw [e16]; exact below_setCells jR hbn 0 _
   have lT:=Mz.below kH
   have mO:=Ez.stays kH
   clear e16 hbn
   refine hK.out _ _ (by and_intros <;> first | exact lT.box.cell _ rfl | exact mO.cell _ rfl) (fun hHeld=>?_)
   clear hK K
   refine aF 17 ?_
   refine iE ?_
   have bM:=hid lT
   have gW:=hid mO
   have HB1:Hid (Below w.heap.size w w16):=hid (aj gQ.out kH gQ.out.size)
   have dn:=hid qj
   have uQ:Hid (wq.heap.size≠b):=hid (fun e=>by have h1:=Mz.box.lt; have h2:wq.heap.size≤wq.heap.size:=Nat.le_refl _; have h3:b<wq.heap.size:=h1; omega)
   clear M11 nS jR sZ vC xA lT mO kH Mz Ez Lz hHeld gQ Bg C9 qj
   generalize w16=w5 at *
   obtain ⟨bx,hbx⟩:∃ bx,bx=wq.heap.size:=⟨_,rfl⟩
   rw [← hbx] at dn uQ ⊢
   clear hbx
   have HFr:Hid (-1≤(aV M.CR M.clk ev.now).ak∧(aV M.CR M.clk ev.now).ak≤1):=hid (JM iH.out.2.1 ev.now).f
   obtain ⟨lc,hlc⟩:∃ lc,lc=(aV M.CR M.clk ev.now):=⟨_,rfl⟩
   have UW:Hid (lc=aV M.CR M.clk ev.now):=hid hlc
   rw [← hlc] at dn HFr ⊢
   clear hlc
   have x9:=dn.out.cell 9 rfl
   go_upto_region 3 with (fail)
   by_cases hf:lc.ak<0
   ·have HD2:Hid (M.dK ev=(M,10)):=hid (by rw [V9.out,← UW.out,if_pos hf])
    go_wp2_with fail
    go_ret
    exact ⟨by rw [HD2.out]; rfl,S,B,by rw [HD2.out]; exact bM.out,dw.refl _ _,dD.new HB1.out⟩
   have HD2:Hid (M.dK ev=({ M with clk:=lc,res:=gZ M.R M.pos lc.ak,reason:=2 },0)):=hid (by rw [V9.out,← UW.out,if_neg hf])
   have YW:Hid (lc.ak=0∨lc.ak=1):=hid (by have:=HFr.out; omega)
   go_upto_region 5 with (fail)
   clear hf x9
   have x0:=dn.out.cell 0 rfl
   have x1:=dn.out.cell 1 rfl
   have x2:=dn.out.cell 2 rfl
   have x3:=dn.out.cell 3 rfl
   have x4:=dn.out.cell 4 rfl
   have x5:=dn.out.cell 5 rfl
   have x6:=dn.out.cell 6 rfl
   have x7:=dn.out.cell 7 rfl
   have x8:=dn.out.cell 8 rfl
   have x9:=dn.out.cell 9 rfl
   have d18:=bM.out.box.cell 18 rfl
   have f18:=bM.out.box.frozen 18
   have d19:=bM.out.box.cell 19 rfl
   have f19:=bM.out.box.frozen 19
   have d20:=bM.out.box.cell 20 rfl
   have f20:=bM.out.box.frozen 20
   have d21:=bM.out.box.cell 21 rfl
   have f21:=bM.out.box.frozen 21
   have d22:=bM.out.box.cell 22 rfl
   have f22:=bM.out.box.frozen 22
   have d23:=bM.out.box.cell 23 rfl
   have f23:=bM.out.box.frozen 23
   have d24:=bM.out.box.cell 24 rfl
   have f24:=bM.out.box.frozen 24
   have d25:=bM.out.box.cell 25 rfl
   have f25:=bM.out.box.frozen 25
   have d26:=bM.out.box.cell 26 rfl
   have f26:=bM.out.box.frozen 26
   have d27:=bM.out.box.cell 27 rfl
   have f27:=bM.out.box.frozen 27
   have HP:=hid (bM.out.put (M':={ M with clk:=lc }) (B':=B) 18 [.int .i64 lc.l0,.int .i64 lc.l1,.int .i64 lc.m0,.int .i64 lc.m1,.int .i64 lc.p0,.int .i64 lc.p1,.int .i64 lc.turn,.int .i64 lc.since,.bool lc.st,.int .i64 lc.ak] (by simp) rfl rfl rfl rfl (bM.out.rd.imp (fun _ h=>⟨h.rd,h.per,h.pc,h.pr,h.jr⟩)))
   go_upto_region 6 with (fail)
   clear d18 f18 d19 f19 d20 f20 d21 f21 d22 f22 d23 f23 d24 f24 d25 f25 d26 f26 d27 f27 x0 x1 x2 x3 x4 x5 x6 x7 x8 x9
   refine wU ?_
   intro w6 e6
   have ou:Hid (aH X S base w6 b ({ M with clk:=lc }:aG) B):=hid (by rw [e6]; exact HP.out.1)
   have HF2:Hid (dD S b w w6):=hid (by rw [e6]; exact (dD.new HB1.out).trans HP.out.2 (dw.refl _ _))
   have jH:Hid (Box w6 bx [.int .i64 lc.l0,.int .i64 lc.l1,.int .i64 lc.m0,.int .i64 lc.m1,.int .i64 lc.p0,.int .i64 lc.p1,.int .i64 lc.turn,.int .i64 lc.since,.bool lc.st,.int .i64 lc.ak] 67):=hid (by rw [e6]; exact dn.out.qA uQ.out 18 [.int .i64 lc.l0,.int .i64 lc.l1,.int .i64 lc.m0,.int .i64 lc.m1,.int .i64 lc.p0,.int .i64 lc.p1,.int .i64 lc.turn,.int .i64 lc.since,.bool lc.st,.int .i64 lc.ak])
   clear HP bM gW dn e6
   generalize w6=wq at *
   have Mz:aH X S base wq.drew b ({ M with clk:=lc }:aG) B:=ou.out.below (aA (Below.refl _ _))
   have Ez:=jH.out.drew
   have Lz:Below wq.drew.heap.size wq.drew wq.drew:=Below.refl _ _
   have gQ:Hid (dD S b w wq.drew):=hid (Fr.drew HF2.out)
   have HK6:Hid (nV M.R M.pos):=hid (by obtain ⟨up,us,ue,vl,vm,rows,hg⟩:=Mz.game; exact hg.Ub)
   have CU:Hid (aW M.R=0):=hid (by obtain ⟨up,us,ue,vl,vm,rows,hg⟩:=Mz.game; exact hg.re)
   clear ou jH
   refine wp_region_noPanic ?_
   refine bG (S:=(fun w'=>w'.cell? ⟨b,0,none⟩=some (.string ({ M with clk:=lc }:aG).R.name)∧w'.cell? ⟨b,1,none⟩=some (.int .i64 ({ M with clk:=lc }:aG).R.width)∧w'.cell? ⟨b,2,none⟩=some (.int .i64 ({ M with clk:=lc }:aG).R.height)∧w'.cell? ⟨b,3,none⟩=some B.vp∧w'.cell? ⟨b,4,none⟩=some B.vs∧w'.cell? ⟨b,5,none⟩=some (.bool ({ M with clk:=lc }:aG).R.falls)∧w'.cell? ⟨b,6,none⟩=some (.bool ({ M with clk:=lc }:aG).R.keeps)∧w'.cell? ⟨b,7,none⟩=some B.ve∧w'.cell? ⟨b,8,none⟩=some (.int .i64 ({ M with clk:=lc }:aG).R.blocked)∧w'.cell? ⟨b,9,none⟩=some (.int .i64 ({ M with clk:=lc }:aG).R.quiet)∧w'.cell? ⟨b,10,none⟩=some (.int .i64 ({ M with clk:=lc }:aG).R.bF)∧w'.cell? ⟨b,14,none⟩=some (.pointer (some ⟨B.g,0,none⟩))∧w'.cell? ⟨bx,9,none⟩=some (.int .i64 lc.ak))) (L:=[]) (by kernel_rfl) (by and_intros <;> first | exact Mz.box.cell _ rfl | exact Ez.cell _ rfl) (fun hHeld=>?_)
   refine aF 0 ?_
   refine aF 1 ?_
   refine aF 5 ?_
   refine aF 10 ?_
   refine aF 2 ?_
   refine aF 6 ?_
   refine dL 11 ?_
   refine aF 3 ?_
   refine aF 7 ?_
   refine dL 4 ?_
   refine dL 8 ?_
   refine dO 9 fun K hK=>?_
   go_simp
   obtain ⟨up',us',ue',VB,VD,rows',IU⟩:=Mz.game
   refine (iG _ IU.plain).mono ?_
   clear IU
   rintro e w9 ⟨vc,v0,v1,rfl,ER,hbb⟩
   have M9:=Mz.below hbb
   have E9:=Ez.stays hbb
   have L9:=aj Lz hbb Lz.size
   have P9:=ER.rd
   clear hbb
   refine hK.out _ _ (by and_intros <;> first | exact M9.box.cell _ rfl | exact E9.cell _ rfl) (fun hHeld=>?_)
   clear hK K
   refine dO 12 fun K hK=>?_
   go_simp
   refine (Bh M.R B.vp B.vs B.ve M.pos vc v0 v1 lc.ak _ M9.fr.rd OG.out P9 HK6.out CU.out YW.out).mono ?_
   rintro e w12 ⟨rfl,hbb⟩
   have M12:=M9.below hbb
   have uN:=E9.stays hbb
   have lQ:=aj L9 hbb L9.size
   have VF:=P9.below hbb (Nat.le_refl _)
   clear hbb
   refine hK.out _ _ (by and_intros <;> first | exact M12.box.cell _ rfl | exact uN.cell _ rfl) (fun hHeld=>?_)
   clear hK K
   refine aF 13 ?_
   refine aF 14 ?_
   refine aF 15 ?_
   refine aF 16 ?_
   refine aF 17 ?_
   refine aF 18 ?_
   refine dO 19 fun K hK=>?_
   have dd:=M12.box.cell 16 rfl
   have df:=M12.box.frozen 16
   go_simp
   refine aK ?_
   intro uX e19
   clear dd df
   have YX:=M12.put (M':={ M with clk:=lc,res:=(gZ M.R M.pos lc.ak) }) (B':=B) 16 [.int .i64 (gZ M.R M.pos lc.ak)] (by simp) rfl rfl rfl rfl (M12.rd.imp (fun _ h=>⟨h.rd,h.per,h.pc,h.pr,h.jr⟩))
   have YZ:aH X S base uX b { M with clk:=lc,res:=(gZ M.R M.pos lc.ak) } B:=by rw [e19]; exact YX.1
   have Sv:dD S b wq.drew uX:=by rw [e19]; exact (dD.new lQ).trans YX.2 (dw.refl _ _)
   have E19:Box uX (bx) [.int .i64 lc.l0,.int .i64 lc.l1,.int .i64 lc.m0,.int .i64 lc.m1,.int .i64 lc.p0,.int .i64 lc.p1,.int .i64 lc.turn,.int .i64 lc.since,.bool lc.st,.int .i64 lc.ak] 67:=by rw [e19]; exact uN.far ⟨b,16,none⟩ _ (fun e=>uQ.out e)
   clear YX e19
   refine hK.out _ _ (by and_intros <;> first | exact YZ.box.cell _ rfl | exact E19.cell _ rfl) (fun hHeld=>?_)
   clear hK K
   refine iE ?_
   have nR:=hid YZ
   have HF3:Hid (dD S b w uX):=hid (gQ.out.trans Sv (dw.refl _ _))
   clear M9 E9 L9 M12 uN lQ P9 VF ER YZ E19 Sv Mz Ez Lz hHeld gQ
   generalize uX=w7 at *
   have d17:=nR.out.box.cell 17 rfl
   have f17:=nR.out.box.frozen 17
   have HP:=hid (nR.out.put (M':={ M with clk:=lc,res:=(gZ M.R M.pos lc.ak),reason:=2 }) (B':=B) 17 [.int .i64 2] (by simp) rfl rfl rfl rfl (nR.out.rd.imp (fun _ h=>⟨h.rd,h.per,h.pc,h.pr,h.jr⟩)))
   go_wp2_with fail
   go_ret
   exact ⟨by rw [HD2.out]; rfl,S,B,by rw [HD2.out]; exact HP.out.1,dw.refl _ _,HF3.out.trans HP.out.2 (dw.refl _ _)⟩
 have akf:(ev.n == 2)=false:=by simpa using hn2
 have Ya:=hid hn2
 have Uc:Hid (∃ up us ue vl vm rows,bP S base w0 B.g M.R M.ms up us ue vl vm rows):=hid (by obtain ⟨up,us,ue,vl,vm,rows,hg⟩:=iZ.out.game; exact ⟨_,_,_,_,_,_,hg.plain⟩)
 by_cases hn0:ev.n=0
 ·have afi:(ev.n == 0)=true:=by simpa using hn0
  have afj:(ev.n != 0)=false:=by simpa using hn0
  have abO:(ev.n == 1)=false:=by simp; omega
  have IX:Hid (M.dK ev=if M.pos.turn≠ev.au then (M,12) else if ¬ (ev.n=0∧3≤iI M.R M.ms∨ev.n=1∧20≤M.pos.quiet) then (M,10) else ({ M with res:=3,reason:=5 },0)):=hid (by unfold aG.dK; rw [if_neg Ya.out,if_neg (by omega)])
  have HN0:=hid hn0
  clear hn2 hn0
  have c14:=iZ.out.box.cell 14 rfl
  go_wp2_with fail
  obtain ⟨up,us,ue,vl,vm,rows,hgk⟩:=Uc.out
  refine (count_any w0 hgk).mono ?_
  rintro e w5 ⟨rfl,hb5⟩
  have zu:=hid (iZ.out.below hb5)
  have G9:=hid (jy.out.stays hb5)
  have mW:=hid (aj HB0.out hb5 HB0.out.size)
  have e2':=G9.out.cell 2 rfl
  clear hb5 hgk c14 iZ jy HB0 e2 Uc
  by_cases hc:3≤iI M.R M.ms
  ·have Y1:Hid (ev.n=0∧3≤iI M.R M.ms∨ev.n=1∧20≤M.pos.quiet):=hid (.inl ⟨HN0.out,hc⟩)
   have Y2:Hid (decide ((3:Int)≤(iI M.R M.ms:Int))=true):=hid (decide_eq_true (by first | exact hc | omega))
   have hcI:(3:Int)≤(iI M.R M.ms:Int):=by omega
   clear hc
   generalize (iI M.R M.ms:Int)=cnt at *
   have iZ:=zu
   have jy:=G9
   have HB0:=mW
   go_upto_region 12 with (fail)
   generalize w5=wq at *
   have Mz:aH X S base wq.drew b M B:=iZ.out.below (aA (Below.refl _ _))
   have Ez:=jy.out.drew
   have Lz:Below wq.drew.heap.size wq.drew wq.drew:=Below.refl _ _
   have gQ:Hid (Below w.heap.size w wq.drew):=hid (aA HB0.out)
   clear iZ jy HB0 zu G9 mW
   refine wp_region_noPanic ?_
   refine bG (S:=(fun w'=>w'.cell? ⟨w.heap.size,1,none⟩=some (.int .i64 ev.au))) (L:=[]) (by kernel_rfl) (Ez.cell 1 rfl) (fun hHeld=>?_)
   refine aF 0 ?_
   refine aF 2 ?_
   refine dL 3 ?_
   refine dO 1 fun K hK=>?_
   go_simp
   refine (lF _ Mz).mono ?_
   rintro e w1 ⟨rfl,hbb⟩
   have M1:=Mz.below hbb
   have E1:=Ez.stays hbb
   have L1:=aj Lz hbb Lz.size
   clear hbb
   refine hK.out _ _ (E1.cell 1 rfl) (fun hHeld=>?_)
   clear hK K
   refine aF 4 ?_
   refine aF 5 ?_
   refine iE ?_
   have qh:=hid M1
   have HB4:Hid (Below w.heap.size w w1):=hid (aj gQ.out L1 gQ.out.size)
   clear M1 E1 L1 Mz Ez Lz hHeld gQ
   generalize w1=w7 at *
   by_cases ht:M.pos.turn=ev.au
   rotate_left
   ·have HD2:Hid (M.dK ev=(M,12)):=hid (by rw [IX.out,if_pos ht])
    have htb:(M.pos.turn != ev.au)=true:=by simpa using ht
    clear ht
    generalize M.pos.turn=tt at *
    go_wp2_with fail
    go_ret
    exact ⟨by rw [HD2.out]; rfl,S,B,by rw [HD2.out]; exact qh.out,dw.refl _ _,dD.new HB4.out⟩
   have htb:(M.pos.turn != ev.au)=false:=by simpa using ht
   have HT:=hid ht
   clear ht
   generalize M.pos.turn=tt at *
   try rw [Y2.out]
   have HD2:Hid (M.dK ev=({ M with res:=3,reason:=5 },0)):=hid (by rw [IX.out,if_neg (fun h=>h HT.out),if_neg (fun h=>h Y1.out)])
   have d16:=qh.out.box.cell 16 rfl
   have f16:=qh.out.box.frozen 16
   have d17:=qh.out.box.cell 17 rfl
   have f17:=qh.out.box.frozen 17
   have HP:=hid (qh.out.put (M':={ M with res:=3,reason:=5 }) (B':=B) 16 [.int .i64 3,.int .i64 5] (by simp) rfl rfl rfl rfl (qh.out.rd.imp (fun _ h=>⟨h.rd,h.per,h.pc,h.pr,h.jr⟩)))
   go_wp2_with fail
   go_ret
   exact ⟨by rw [HD2.out]; rfl,S,B,by rw [HD2.out]; exact HP.out.1,dw.refl _ _,(dD.new HB4.out).trans HP.out.2 (dw.refl _ _)⟩
  ·have Y1:Hid (¬ (ev.n=0∧3≤iI M.R M.ms∨ev.n=1∧20≤M.pos.quiet)):=hid (fun h=>by have:=HN0.out; omega)
   have Y2:Hid (decide ((3:Int)≤(iI M.R M.ms:Int))=false):=hid (decide_eq_false (by first | exact hc | omega))
   have hcI:¬ (3:Int)≤(iI M.R M.ms:Int):=by omega
   clear hc
   generalize (iI M.R M.ms:Int)=cnt at *
   have iZ:=zu
   have jy:=G9
   have HB0:=mW
   go_upto_region 12 with (fail)
   generalize w5=wq at *
   have Mz:aH X S base wq.drew b M B:=iZ.out.below (aA (Below.refl _ _))
   have Ez:=jy.out.drew
   have Lz:Below wq.drew.heap.size wq.drew wq.drew:=Below.refl _ _
   have gQ:Hid (Below w.heap.size w wq.drew):=hid (aA HB0.out)
   clear iZ jy HB0 zu G9 mW
   refine wp_region_noPanic ?_
   refine bG (S:=(fun w'=>w'.cell? ⟨w.heap.size,1,none⟩=some (.int .i64 ev.au))) (L:=[]) (by kernel_rfl) (Ez.cell 1 rfl) (fun hHeld=>?_)
   refine aF 0 ?_
   refine aF 2 ?_
   refine dL 3 ?_
   refine dO 1 fun K hK=>?_
   go_simp
   refine (lF _ Mz).mono ?_
   rintro e w1 ⟨rfl,hbb⟩
   have M1:=Mz.below hbb
   have E1:=Ez.stays hbb
   have L1:=aj Lz hbb Lz.size
   clear hbb
   refine hK.out _ _ (E1.cell 1 rfl) (fun hHeld=>?_)
   clear hK K
   refine aF 4 ?_
   refine aF 5 ?_
   refine iE ?_
   have qh:=hid M1
   have HB4:Hid (Below w.heap.size w w1):=hid (aj gQ.out L1 gQ.out.size)
   clear M1 E1 L1 Mz Ez Lz hHeld gQ
   generalize w1=w7 at *
   by_cases ht:M.pos.turn=ev.au
   rotate_left
   ·have HD2:Hid (M.dK ev=(M,12)):=hid (by rw [IX.out,if_pos ht])
    have htb:(M.pos.turn != ev.au)=true:=by simpa using ht
    clear ht
    generalize M.pos.turn=tt at *
    go_wp2_with fail
    go_ret
    exact ⟨by rw [HD2.out]; rfl,S,B,by rw [HD2.out]; exact qh.out,dw.refl _ _,dD.new HB4.out⟩
   have htb:(M.pos.turn != ev.au)=false:=by simpa using ht
   have HT:=hid ht
   clear ht
   generalize M.pos.turn=tt at *
   try rw [Y2.out]
   have HD2:Hid (M.dK ev=(M,10)):=hid (by rw [IX.out,if_neg (fun h=>h HT.out),if_pos Y1.out])
   go_wp2_with fail
   go_ret
   exact ⟨by rw [HD2.out]; rfl,S,B,by rw [HD2.out]; exact qh.out,dw.refl _ _,dD.new HB4.out⟩
 have afi:(ev.n == 0)=false:=by simpa using hn0
 have afj:(ev.n != 0)=true:=by simpa using hn0
 by_cases hn1:ev.n=1
 ·have abO:(ev.n == 1)=true:=by simpa using hn1
  have afk:(ev.n != 1)=false:=by simpa using hn1
  have IX:Hid (M.dK ev=if M.pos.turn≠ev.au then (M,12) else if ¬ (ev.n=0∧3≤iI M.R M.ms∨ev.n=1∧20≤M.pos.quiet) then (M,10) else ({ M with res:=3,reason:=5 },0)):=hid (by unfold aG.dK; rw [if_neg Ya.out,if_neg (by omega)])
  have HN0:=hid hn1
  clear hn2 hn0 hn1
  have c14:=iZ.out.box.cell 14 rfl
  have HQ:Hid ((bn M.R M.ms).quiet=M.pos.quiet):=hid rfl
  go_wp2_with fail
  obtain ⟨up,us,ue,vl,vm,rows,hgk⟩:=Uc.out
  refine (iG w0 hgk).mono ?_
  rintro e w5 ⟨vc,v0,v1,rfl,Xf,hb5⟩
  have zu:=hid (iZ.out.below hb5)
  have G9:=hid (jy.out.stays hb5)
  have mW:=hid (aj HB0.out hb5 HB0.out.size)
  have e2':=G9.out.cell 2 rfl
  have hfq:=J7 vc v0 v1 (bn M.R M.ms).turn (bn M.R M.ms).quiet
  clear hb5 hgk c14 iZ jy HB0 e2 Uc Xf
  by_cases hc:20≤M.pos.quiet
  ·have Y1:Hid (ev.n=0∧3≤iI M.R M.ms∨ev.n=1∧20≤M.pos.quiet):=hid (.inr ⟨HN0.out,hc⟩)
   have Y2:Hid (decide ((20:Int)≤(bn M.R M.ms).quiet)=true):=hid (decide_eq_true (by first | exact hc | omega))
   have hcI:(20:Int)≤(bn M.R M.ms).quiet:=hc
   clear hc
   generalize (bn M.R M.ms).quiet=cnt at *
   have iZ:=zu
   have jy:=G9
   have HB0:=mW
   go_upto_region 12 with (fail)
   generalize w5=wq at *
   have Mz:aH X S base wq.drew b M B:=iZ.out.below (aA (Below.refl _ _))
   have Ez:=jy.out.drew
   have Lz:Below wq.drew.heap.size wq.drew wq.drew:=Below.refl _ _
   have gQ:Hid (Below w.heap.size w wq.drew):=hid (aA HB0.out)
   clear iZ jy HB0 zu G9 mW
   refine wp_region_noPanic ?_
   refine bG (S:=(fun w'=>w'.cell? ⟨w.heap.size,1,none⟩=some (.int .i64 ev.au))) (L:=[]) (by kernel_rfl) (Ez.cell 1 rfl) (fun hHeld=>?_)
   refine aF 0 ?_
   refine aF 2 ?_
   refine dL 3 ?_
   refine dO 1 fun K hK=>?_
   go_simp
   refine (lF _ Mz).mono ?_
   rintro e w1 ⟨rfl,hbb⟩
   have M1:=Mz.below hbb
   have E1:=Ez.stays hbb
   have L1:=aj Lz hbb Lz.size
   clear hbb
   refine hK.out _ _ (E1.cell 1 rfl) (fun hHeld=>?_)
   clear hK K
   refine aF 4 ?_
   refine aF 5 ?_
   refine iE ?_
   have qh:=hid M1
   have HB4:Hid (Below w.heap.size w w1):=hid (aj gQ.out L1 gQ.out.size)
   clear M1 E1 L1 Mz Ez Lz hHeld gQ
   generalize w1=w7 at *
   by_cases ht:M.pos.turn=ev.au
   rotate_left
   ·have HD2:Hid (M.dK ev=(M,12)):=hid (by rw [IX.out,if_pos ht])
    have htb:(M.pos.turn != ev.au)=true:=by simpa using ht
    clear ht
    generalize M.pos.turn=tt at *
    go_wp2_with fail
    go_ret
    exact ⟨by rw [HD2.out]; rfl,S,B,by rw [HD2.out]; exact qh.out,dw.refl _ _,dD.new HB4.out⟩
   have htb:(M.pos.turn != ev.au)=false:=by simpa using ht
   have HT:=hid ht
   clear ht
   generalize M.pos.turn=tt at *
   try rw [Y2.out]
   have HD2:Hid (M.dK ev=({ M with res:=3,reason:=5 },0)):=hid (by rw [IX.out,if_neg (fun h=>h HT.out),if_neg (fun h=>h Y1.out)])
   have d16:=qh.out.box.cell 16 rfl
   have f16:=qh.out.box.frozen 16
   have d17:=qh.out.box.cell 17 rfl
   have f17:=qh.out.box.frozen 17
   have HP:=hid (qh.out.put (M':={ M with res:=3,reason:=5 }) (B':=B) 16 [.int .i64 3,.int .i64 5] (by simp) rfl rfl rfl rfl (qh.out.rd.imp (fun _ h=>⟨h.rd,h.per,h.pc,h.pr,h.jr⟩)))
   go_wp2_with fail
   go_ret
   exact ⟨by rw [HD2.out]; rfl,S,B,by rw [HD2.out]; exact HP.out.1,dw.refl _ _,(dD.new HB4.out).trans HP.out.2 (dw.refl _ _)⟩
  ·have Y1:Hid (¬ (ev.n=0∧3≤iI M.R M.ms∨ev.n=1∧20≤M.pos.quiet)):=hid (fun h=>by have:=HN0.out; omega)
   have Y2:Hid (decide ((20:Int)≤(bn M.R M.ms).quiet)=false):=hid (decide_eq_false (by first | exact hc | omega))
   have hcI:¬ (20:Int)≤(bn M.R M.ms).quiet:=hc
   clear hc
   generalize (bn M.R M.ms).quiet=cnt at *
   have iZ:=zu
   have jy:=G9
   have HB0:=mW
   go_upto_region 12 with (fail)
   generalize w5=wq at *
   have Mz:aH X S base wq.drew b M B:=iZ.out.below (aA (Below.refl _ _))
   have Ez:=jy.out.drew
   have Lz:Below wq.drew.heap.size wq.drew wq.drew:=Below.refl _ _
   have gQ:Hid (Below w.heap.size w wq.drew):=hid (aA HB0.out)
   clear iZ jy HB0 zu G9 mW
   refine wp_region_noPanic ?_
   refine bG (S:=(fun w'=>w'.cell? ⟨w.heap.size,1,none⟩=some (.int .i64 ev.au))) (L:=[]) (by kernel_rfl) (Ez.cell 1 rfl) (fun hHeld=>?_)
   refine aF 0 ?_
   refine aF 2 ?_
   refine dL 3 ?_
   refine dO 1 fun K hK=>?_
   go_simp
   refine (lF _ Mz).mono ?_
   rintro e w1 ⟨rfl,hbb⟩
   have M1:=Mz.below hbb
   have E1:=Ez.stays hbb
   have L1:=aj Lz hbb Lz.size
   clear hbb
   refine hK.out _ _ (E1.cell 1 rfl) (fun hHeld=>?_)
   clear hK K
   refine aF 4 ?_
   refine aF 5 ?_
   refine iE ?_
   have qh:=hid M1
   have HB4:Hid (Below w.heap.size w w1):=hid (aj gQ.out L1 gQ.out.size)
   clear M1 E1 L1 Mz Ez Lz hHeld gQ
   generalize w1=w7 at *
   by_cases ht:M.pos.turn=ev.au
   rotate_left
   ·have HD2:Hid (M.dK ev=(M,12)):=hid (by rw [IX.out,if_pos ht])
    have htb:(M.pos.turn != ev.au)=true:=by simpa using ht
    clear ht
    generalize M.pos.turn=tt at *
    go_wp2_with fail
    go_ret
    exact ⟨by rw [HD2.out]; rfl,S,B,by rw [HD2.out]; exact qh.out,dw.refl _ _,dD.new HB4.out⟩
   have htb:(M.pos.turn != ev.au)=false:=by simpa using ht
   have HT:=hid ht
   clear ht
   generalize M.pos.turn=tt at *
   try rw [Y2.out]
   have HD2:Hid (M.dK ev=(M,10)):=hid (by rw [IX.out,if_neg (fun h=>h HT.out),if_pos Y1.out])
   go_wp2_with fail
   go_ret
   exact ⟨by rw [HD2.out]; rfl,S,B,by rw [HD2.out]; exact qh.out,dw.refl _ _,dD.new HB4.out⟩
 have abO:(ev.n == 1)=false:=by simpa using hn1
 have afk:(ev.n != 1)=true:=by simpa using hn1
 have HD2:Hid (M.dK ev=(M,1)):=hid (by unfold aG.dK; rw [if_neg Ya.out,if_pos ⟨hn0,hn1⟩])
 clear hn2 hn0 hn1
 go_wp2_with fail
 go_ret
 exact ⟨by rw [HD2.out]; rfl,S,B,by rw [HD2.out]; exact iZ.out,dw.refl _ _,dD.new HB0.out⟩
end Go.Proofs.YtmabaojkignodaaGreatDoor
namespace Go.Proofs.YtmabaojkignodaaGreatDoor
open Go.ChangeShapes Go.WideShapes Go.ChangeAt Go.RowKit
set_option linter.unusedVariables false
open Go.Lib (hid)
variable {X S:Nat→Prop} {base b:Nat} {M:aG} {B:jv}
structure EvPre (M:aG) (ev:iY):Prop where
 nm:M.R.name.size≤maxLen
 cr:xU M.CR
 ck:qV M.CR M.clk
 sn:M.clk.since≤ev.now
 nw:ev.now≤100000000
 og:kF M.off
 pr:nM M.aS
 pl:ev.au=0∨ev.au=1
 gm:M.game=0
 mid:ev.kind=0→Mid M ev.now
set_option maxRecDepth 100000 in
set_option maxHeartbeats 16000000 in
theorem Bj (HS:SortMvSaid) (ev:iY) (w:World) (h:aH X S base w b M B) (hb:base≤w.heap.size) (hp:EvPre M ev):Calls Tryz.prog 50 #[.pointer (some ⟨b,0,none⟩),.agg #[.int .i64 ev.kind,.int .i64 ev.au,.int .i64 ev.n,.int .i64 ev.now,.int .i64 ev.m.src,.int .i64 ev.m.dst,.int .i64 ev.m.piece]] w fun e w'=>e=.returned (.int .i64 (M.kind ev).2)∧wM X S base b w (M.kind ev).1 w':=by
 have HP:=hid hp
 have HDK:Hid (M.kind ev=if ev.kind=0 then M.jO ev else if ev.kind=1∨ev.kind=3 then M.dW ev else if ev.kind=2 then M.gX ev else if ev.kind=5 then M.dK ev else if ev.kind=6 then M.eY ev else ({ M with res:=2 - ev.au,reason:=3 },0)):=hid rfl
 clear hp
 have lY:=hid HS
 have HM:=hid h
 have qg:=hid hb
 have LJ:Hid (¬ S w.heap.size):=hid (fun hk=>by obtain ⟨up,us,ue,vl,vm,rows,hg⟩:=h.game; have:=(hg.lo _ hk).2; omega)
 have EP:Hid (b<w.heap.size):=hid h.box.lt
 clear h hb HS
 go_enter Tryz.func50,Tryz.ntmps50
 go_upto_region 1 with (fail)
 refine lM fun w0 jU dM hs_=>?_
 have jy:=hid jU
 have HB0:=hid dM
 clear hs_ jU dM
 have iZ:=hid (HM.out.below HB0.out)
 have Oa:Hid (base≤w0.heap.size):=hid (Nat.le_trans qg.out HB0.out.size)
 have e0:=jy.out.cell 0 rfl
 have e1:=jy.out.cell 1 rfl
 have e2:=jy.out.cell 2 rfl
 have e3:=jy.out.cell 3 rfl
 have e4:=jy.out.cell 4 rfl
 have e5:=jy.out.cell 5 rfl
 have e6:=jy.out.cell 6 rfl
 by_cases k0:ev.kind=0
 ·have hk0:(ev.kind == 0)=true:=by simpa using k0
  have HD2:Hid (M.kind ev=M.jO ev):=hid (by rw [HDK.out,if_pos k0])
  have uO:=hid (HP.out.mid k0)
  clear k0 HDK
  go_wp2_with fail
  refine (Kt lY.out ev w0 iZ.out Oa.out uO.out HP.out.gm).mono ?_
  rintro e w1 ⟨rfl,S1,B1,hm,hs,hf⟩
  have bM:=hid hm
  have wV:Hid (dw w S S1):=hid (fun k hk h=>hs k (Nat.lt_of_lt_of_le hk HB0.out.size) h)
  have Dt:Hid (dD S b w w1):=hid ((dD.new HB0.out).trans hf (dw.refl _ _))
  clear hm hs hf
  rw [← HD2.out] at bM ⊢
  go_wp2_with fail
  go_ret
  exact ⟨rfl,S1,B1,bM.out,wV.out,Dt.out⟩
 have hk0:(ev.kind == 0)=false:=by simpa using k0
 by_cases k1:ev.kind=1
 ·have hk1:(ev.kind == 1)=true:=by simpa using k1
  have HD2:Hid (M.kind ev=M.dW ev):=hid (by rw [HDK.out,if_neg k0,if_pos (.inl k1)])
  clear k0 k1 HDK
  go_wp2_with fail
  refine (yT lY.out ev w0 iZ.out Oa.out HP.out.og HP.out.pl).mono ?_
  rintro e w1 ⟨rfl,S1,B1,hm,hs,hf⟩
  have bM:=hid hm
  have wV:Hid (dw w S S1):=hid (fun k hk h=>hs k (Nat.lt_of_lt_of_le hk HB0.out.size) h)
  have Dt:Hid (dD S b w w1):=hid ((dD.new HB0.out).trans hf (dw.refl _ _))
  clear hm hs hf
  rw [← HD2.out] at bM ⊢
  go_wp2_with fail
  go_ret
  exact ⟨rfl,S1,B1,bM.out,wV.out,Dt.out⟩
 have hk1:(ev.kind == 1)=false:=by simpa using k1
 by_cases k3:ev.kind=3
 ·have hk3:(ev.kind == 3)=true:=by simpa using k3
  have HD2:Hid (M.kind ev=M.dW ev):=hid (by rw [HDK.out,if_neg k0,if_pos (.inr k3)])
  clear k0 k1 k3 HDK
  go_wp2_with fail
  refine (yT lY.out ev w0 iZ.out Oa.out HP.out.og HP.out.pl).mono ?_
  rintro e w1 ⟨rfl,S1,B1,hm,hs,hf⟩
  have bM:=hid hm
  have wV:Hid (dw w S S1):=hid (fun k hk h=>hs k (Nat.lt_of_lt_of_le hk HB0.out.size) h)
  have Dt:Hid (dD S b w w1):=hid ((dD.new HB0.out).trans hf (dw.refl _ _))
  clear hm hs hf
  rw [← HD2.out] at bM ⊢
  go_wp2_with fail
  go_ret
  exact ⟨rfl,S1,B1,bM.out,wV.out,Dt.out⟩
 have hk3:(ev.kind == 3)=false:=by simpa using k3
 by_cases k2:ev.kind=2
 ·have hk2:(ev.kind == 2)=true:=by simpa using k2
  have HD2:Hid (M.kind ev=M.gX ev):=hid (by rw [HDK.out,if_neg k0,if_neg (by omega),if_pos k2])
  clear k0 k1 k3 k2 HDK
  go_wp2_with fail
  refine (ET lY.out ev w0 iZ.out Oa.out HP.out.og HP.out.pl).mono ?_
  rintro e w1 ⟨rfl,S1,B1,hm,hs,hf⟩
  have bM:=hid hm
  have wV:Hid (dw w S S1):=hid (fun k hk h=>hs k (Nat.lt_of_lt_of_le hk HB0.out.size) h)
  have Dt:Hid (dD S b w w1):=hid ((dD.new HB0.out).trans hf (dw.refl _ _))
  clear hm hs hf
  rw [← HD2.out] at bM ⊢
  go_wp2_with fail
  go_ret
  exact ⟨rfl,S1,B1,bM.out,wV.out,Dt.out⟩
 have hk2:(ev.kind == 2)=false:=by simpa using k2
 by_cases k5:ev.kind=5
 ·have hk5:(ev.kind == 5)=true:=by simpa using k5
  have HD2:Hid (M.kind ev=M.dK ev):=hid (by rw [HDK.out,if_neg k0,if_neg (by omega),if_neg k2,if_pos k5])
  clear k0 k1 k3 k2 k5 HDK
  go_wp2_with fail
  refine (Iq lY.out ev w0 iZ.out Oa.out HP.out.cr HP.out.ck HP.out.sn HP.out.nw HP.out.nm).mono ?_
  rintro e w1 ⟨rfl,S1,B1,hm,hs,hf⟩
  have bM:=hid hm
  have wV:Hid (dw w S S1):=hid (fun k hk h=>hs k (Nat.lt_of_lt_of_le hk HB0.out.size) h)
  have Dt:Hid (dD S b w w1):=hid ((dD.new HB0.out).trans hf (dw.refl _ _))
  clear hm hs hf
  rw [← HD2.out] at bM ⊢
  go_wp2_with fail
  go_ret
  exact ⟨rfl,S1,B1,bM.out,wV.out,Dt.out⟩
 have hk5:(ev.kind == 5)=false:=by simpa using k5
 by_cases k6:ev.kind=6
 ·have hk6:(ev.kind == 6)=true:=by simpa using k6
  have HD2:Hid (M.kind ev=M.eY ev):=hid (by rw [HDK.out,if_neg k0,if_neg (by omega),if_neg k2,if_neg k5,if_pos k6])
  clear k0 k1 k3 k2 k5 k6 HDK
  go_wp2_with fail
  refine (CY lY.out ev w0 iZ.out Oa.out HP.out.pr HP.out.pl).mono ?_
  rintro e w1 ⟨rfl,S1,B1,hm,hs,hf⟩
  have bM:=hid hm
  have wV:Hid (dw w S S1):=hid (fun k hk h=>hs k (Nat.lt_of_lt_of_le hk HB0.out.size) h)
  have Dt:Hid (dD S b w w1):=hid ((dD.new HB0.out).trans hf (dw.refl _ _))
  clear hm hs hf
  rw [← HD2.out] at bM ⊢
  go_wp2_with fail
  go_ret
  exact ⟨rfl,S1,B1,bM.out,wV.out,Dt.out⟩
 have hk6:(ev.kind == 6)=false:=by simpa using k6
 have HD2:Hid (M.kind ev=({ M with res:=2 - ev.au,reason:=3 },0)):=hid (by rw [HDK.out,if_neg k0,if_neg (by omega),if_neg k2,if_neg k5,if_neg k6])
 clear k0 k1 k3 k2 k5 k6 HDK
 have hw2:IntKind.i64.wrap (2 - ev.au)=2 - ev.au:=IntWalk.i64_in _ (by have:=HP.out.pl; omega)
 have d16:=iZ.out.box.cell 16 rfl
 have f16:=iZ.out.box.frozen 16
 have d17:=iZ.out.box.cell 17 rfl
 have f17:=iZ.out.box.frozen 17
 have HQ:=hid (iZ.out.put (M':={ M with res:=2 - ev.au,reason:=3 }) (B':=B) 16 [.int .i64 (2 - ev.au),.int .i64 3] (by simp) rfl rfl rfl rfl (iZ.out.rd.imp (fun _ h=>⟨h.rd,h.per,h.pc,h.pr,h.jr⟩)))
 have HwR:Hid (2 - ev.au=2 - ev.au):=hid rfl
 go_wp2_with fail
 go_ret
 exact ⟨by rw [HD2.out]; rfl,S,B,by rw [HD2.out]; exact HQ.out.1,dw.refl _ _,(dD.new HB0.out).trans HQ.out.2 (dw.refl _ _)⟩
end Go.Proofs.YtmabaojkignodaaGreatDoor
namespace Go.Proofs.YtmabaojkignodaaGreatDoor
open Go.ChangeShapes Go.WideShapes Go.ChangeAt Go.RowKit
set_option linter.unusedVariables false
open Go.Lib (hid)
def Tab (base:Nat) (w:World):Prop:=Lib.TabIs Tryz.prog w "internal/strconv.uint64pow10" .u64 Lib.pow10Tab∧∀ g,Tryz.prog.globalNamed "internal/strconv.uint64pow10" = some g→g<base
theorem Tab.below {base:Nat} {w w':World} (h:Tab base w) (hb:Below base w w'):Tab base w':=by
 refine ⟨?_,h.2⟩
 obtain ⟨h1,h2⟩:=h
 unfold Lib.TabIs World.var? at h1 ⊢
 cases hg:Tryz.prog.globalNamed "internal/strconv.uint64pow10" with
 | none=>rw [hg] at h1; cases h1
 | some g=>rw [hg] at h1; simp only [Option.bind_some] at h1 ⊢; rw [hb.block g (h2 g hg)]; exact h1
def ItoaSaid:Prop:=∀ (n:Int) (w:World),-9223372036854775808≤n→n≤9223372036854775807→Lib.TabIs Tryz.prog w "internal/strconv.uint64pow10" .u64 Lib.pow10Tab →
 Calls Tryz.prog 47 #[.int .i64 n] w fun e w'=>e=.returned (.string ⟨(Lib.itoa n).toArray⟩)∧Below w.heap.size w w'
def nN (ss:List ByteArray):List Value:=ss.map Value.string
def sO:Prop:=∀ (base:Nat) (v:Value) (xs:List ByteArray) (sep:ByteArray) (w:World),w.ownsRow base 9 1 v xs.length (nN xs)→xs.length≤1000→(∀ x∈xs,x.size≤1000000)→sep.size≤1000 →
 Calls Tryz.prog 70 #[v,.string sep] w fun e w'=>e=.returned (.string ⟨(Lib.join (xs.map (·.data.toList)) sep.data.toList).toArray⟩)∧Below w.heap.size w w'
def mP (ev:iY):List Int:=[ev.kind,ev.au,ev.n,ev.now,ev.m.src,ev.m.dst,ev.m.piece]
def wW (ev:iY):Prop:=∀ x∈mP ev,-9223372036854775808≤x∧x≤9223372036854775807
def vF (n:Int):ByteArray:=⟨(Lib.itoa n).toArray⟩
theorem Ob:(Tryz.prog.info? 9).map (fun i=>(i.zero,i.size,i.bytes))=some (some (.string ByteArray.empty),1,16):=by kernel_rfl
theorem Sz {s:ByteArray}:∀ u∈[Value.string s],u.oneCell'=true:=by intro u hu; simp at hu; rw [hu]; rfl
theorem Kw (l:List ByteArray) (x:ByteArray):nN l++[.string x]=nN (l++[x]):=by simp [nN]
theorem ixE (a0 a1 a2 a3 a4 a5 a6:Int):∀ (k:Nat),k<7→∀ w:World,(Instr.index 202 (.agg #[.int .i64 a0,.int .i64 a1,.int .i64 a2,.int .i64 a3,.int .i64 a4,.int .i64 a5,.int .i64 a6]) (.int .i64 k)).run Tryz.prog w=.ok (.int .i64 ([a0,a1,a2,a3,a4,a5,a6].getD k 0)) w
 | 0,_,w=>by kernel_rfl
 | 1,_,w=>by kernel_rfl
 | 2,_,w=>by kernel_rfl
 | 3,_,w=>by kernel_rfl
 | 4,_,w=>by kernel_rfl
 | 5,_,w=>by kernel_rfl
 | 6,_,w=>by kernel_rfl
theorem EW:∀ (k u:Nat),u<10 ^ (k+1)→Lib.nDigits u≤k+1
 | 0,u,h=>by rw [Lib.nDigits_small (by simpa using h)]; exact Nat.le_refl _
 | k+1,u,h=>by
  by_cases q:u<10
  ·rw [Lib.nDigits_small q]; omega
  ·rw [Lib.nDigits_big q]
   have:=EW k (u / 10) (by rw [Nat.pow_succ] at h; omega)
   omega
theorem Ky (n:Int) (h0 : -9223372036854775808≤n) (h1:n≤9223372036854775807):(vF n).size≤20:=by
 show (Lib.itoa n).toArray.size≤20
 rw [List.size_toArray]
 unfold Lib.itoa
 split
 ·rw [List.length_cons]
  rw [Lib.decDigits_length]
  have:=EW 18 n.natAbs (show n.natAbs<10000000000000000000 by omega)
  omega
 ·rw [Lib.decDigits_length]
  have:=EW 18 n.toNat (show n.toNat<10000000000000000000 by omega)
  omega
set_option maxRecDepth 100000 in
set_option maxHeartbeats 8000000 in
theorem yu (HI:ItoaSaid) (HJ:sO) (ev:iY) (w:World) (hT:Tab w.heap.size w) (hok:wW ev):Calls Tryz.prog 51 #[.agg #[.int .i64 ev.kind,.int .i64 ev.au,.int .i64 ev.n,.int .i64 ev.now,.int .i64 ev.m.src,.int .i64 ev.m.dst,.int .i64 ev.m.piece]] w fun e w'=>e=.returned (.string (bV ev))∧Below w.heap.size w w':=by
 have HIh:=hid HI
 have Wi:=hid HJ
 have HT:=hid hT
 have HO:=hid hok
 have uP:Hid (bV ev=⟨(Lib.join (((mP ev).map vF).map (·.data.toList)) [32]).toArray⟩):=hid (by simp [bV,mP,vF,Lib.join,List.intercalate,List.intersperse])
 have hix:=ixE ev.kind ev.au ev.n ev.now ev.m.src ev.m.dst ev.m.piece
 have HIx:=hid hix
 clear HI HJ hT hok hix
 go_enter Tryz.func51,Tryz.ntmps51
 go_upto_region 1 with (fail)
 refine lM fun w0 jU dM hs_=>?_
 have jy:=hid jU
 have HB0:=hid dM
 clear hs_ jU dM
 have e0:=jy.out.cell 0 rfl
 have e1:=jy.out.cell 1 rfl
 have e2:=jy.out.cell 2 rfl
 have e3:=jy.out.cell 3 rfl
 have e4:=jy.out.cell 4 rfl
 have e5:=jy.out.cell 5 rfl
 have e6:=jy.out.cell 6 rfl
 go_wp2_with fail
 clear e0 e1 e2 e3 e4 e5 e6
 have afl:Hid (w0.ownsRow w.heap.size 9 1 (.slice none 0 0) 0 (nN [])):=hid (World.ownsRow_nil _ _ _ _)
 go_loopw [24,3,5] (fun v24 v3 v5 wr=>∃ (k:Nat) (o3 o5:Value),o3=v3∧o5=v5∧k≤7∧v24=.int .i64 k∧Hid (wr.ownsRow w.heap.size 9 1 o3 k (nN (((mP ev).map vF).take k)))∧Hid (Below w.heap.size w wr)) (fun v _ _ _=>7 - (intOf v).toNat)
 case atStart=>exact ⟨0,_,_,rfl,rfl,Nat.zero_le _,rfl,afl,HB0⟩
 case round =>
  obtain ⟨k,o3,o5,rfl,rfl,hk,rfl,HR,bC⟩:=hrel
  by_cases hlt:k<7
  ·have Uy:(k:Int)<7:=by omega
   have Wh:=hid hlt
   have hi:=HIx.out k hlt
   have HX:Hid (-9223372036854775808≤(mP ev).getD k 0∧(mP ev).getD k 0≤9223372036854775807):=hid (HO.out _ (by rw [List.getD_eq_getElem?_getD,List.getElem?_eq_getElem (show k<(mP ev).length from hlt)]; exact List.getElem_mem _))
   have HS2:Hid (((mP ev).map vF).take (k+1)=((mP ev).map vF).take k++[vF ((mP ev).getD k 0)]):=hid (by
    have hl:k<((mP ev).map vF).length:=by rw [List.length_map]; exact hlt
    rw [List.take_succ_eq_append_getElem hl,List.getElem_map,List.getD_eq_getElem?_getD,List.getElem?_eq_getElem (show k<(mP ev).length from hlt)]; rfl)
   rw [show [ev.kind,ev.au,ev.n,ev.now,ev.m.src,ev.m.dst,ev.m.piece]=mP ev from rfl] at hi
   generalize (mP ev).getD k 0=x at *
   clear hlt
   go_wp2_with fail
   refine (HIh.out x wr HX.out.1 HX.out.2 (HT.out.below bC.out).1).mono ?_
   rintro e w1 ⟨rfl,hb1⟩
   have HB1:=hid (aj bC.out hb1 bC.out.size)
   have HR1:=hid (bK HR.out hb1)
   have hsz:w.heap.size≤w1.heap.size:=HB1.out.size
   rw [show (⟨(Lib.itoa x).toArray⟩:ByteArray)=vF x from rfl]
   generalize vF x=tx at *
   clear hb1 HR hi
   have LP:k+1≤100000000:=by omega
   go_wp2_with (at_builtin; refine gG 166 9 (.string ByteArray.empty) 1 16 Ob Tryz.underlying166 rfl (by decide) (by rfl) _ _ (by rfl) w.heap.size _ k _ [.string tx] w1 HR1.out hsz rfl Sz LP (by omega) (by rfl) (by rfl) ?_)
   intro g cap w2 hown2 SA afm
   have HB2:=hid (SA.below HB1.out (Nat.le_refl _))
   have HR2:Hid (w2.ownsRow w.heap.size 9 1 (.slice (some ⟨g,0,none⟩) (k+1) cap) (k+1) (nN (((mP ev).map vF).take (k+1)))):=hid (by rw [HS2.out,← Kw]; exact hown2)
   clear hown2 SA afm
   go_wp2_with fail
   go_roundw
   case rel=>exact ⟨k+1,_,_,rfl,rfl,by have:=Wh.out; omega,by go_num,HR2,HB2⟩
   case measure=>have:=Wh.out; simp [intOf]; omega
  obtain rfl:k=7:=by omega
  have Ui:Hid (wr.ownsRow w.heap.size 9 1 o3 ((mP ev).map vF).length (nN ((mP ev).map vF))):=hid (by have:=HR.out; rwa [List.take_of_length_le (by simp [mP])] at this)
  have Uy:¬ ((7:Nat):Int)<7:=by decide
  go_wp2_with fail
  refine (Wi.out w.heap.size o3 ((mP ev).map vF) ⟨#[32]⟩ wr Ui.out (by simp [mP]) (fun x hx=>by
   obtain ⟨y,hy,rfl⟩:=List.mem_map.1 hx
   have:=Ky y (HO.out y hy).1 (HO.out y hy).2
   omega) (by decide)).mono ?_
  rintro e w1 ⟨rfl,hb1⟩
  have HB1:=hid (aj bC.out hb1 bC.out.size)
  clear hb1
  go_wp2_with fail
  go_ret
  exact ⟨by rw [uP.out]; rfl,HB1.out⟩
end Go.Proofs.YtmabaojkignodaaGreatDoor

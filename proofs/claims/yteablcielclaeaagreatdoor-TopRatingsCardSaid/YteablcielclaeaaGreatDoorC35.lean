/- H10, TbRobGames, TbRobPlain, Maps, TbRobChk, TbRobChk2, TbRobAllP, TbRobAll, TrExpect. -/
import Derived.Test.YteablcielclaeaaGreatDoorC34
import Derived.Maps.Own
import Derived.Maps.OwnOps
import Derived.Maps.Views
import Derived.DeepKeys5
import Derived.WideKeyEntry
import Derived.Maps.AppendAt
namespace Go.Proofs.YteablcielclaeaaGreatDoor
open Go.ChangeShapes Go.WideShapes Go.ChangeAt Go.RowKit
set_option linter.unusedVariables false
set_option maxHeartbeats 16000000
set_option maxRecDepth 100000
open Go.Lib (hid)
variable {X S:Nat→Prop} {base b:Nat} {M:aO} {B:mg}
theorem UZ (ev:yD) (k0:ev.kind=0) (HD:∀ w,aY X S base w b M B→base≤w.heap.size→Mid M ev.now→M.game=0→Calls Tryz.prog 93 #[.pointer (some ⟨b,0,none⟩),.agg #[.int .i64 ev.kind,.int .i64 ev.aT,.int .i64 ev.n,.int .i64 ev.now,.int .i64 ev.m.src,.int .i64 ev.m.dst,.int .i64 ev.m.piece]] w fun e w'=>e=.returned (.int .i64 (M.jQ ev).2)∧AA X S base b w (M.jQ ev).1 w') (w:World) (h:aY X S base w b M B) (hb:base≤w.heap.size) (hp:EvPre M ev):Calls Tryz.prog 49 #[.pointer (some ⟨b,0,none⟩),.agg #[.int .i64 ev.kind,.int .i64 ev.aT,.int .i64 ev.n,.int .i64 ev.now,.int .i64 ev.m.src,.int .i64 ev.m.dst,.int .i64 ev.m.piece]] w fun e w'=>e=.returned (.int .i64 (M.kind ev).2)∧AA X S base b w (M.kind ev).1 w':=by
 have HDo:=hid HD
 have VA:=hid k0
 clear HD k0
 have HP:=hid hp
 have HDK:Hid (M.kind ev=if ev.kind=0 then M.jQ ev else if ev.kind=1∨ev.kind=3 then M.yE ev else if ev.kind=2 then M.uj ev else if ev.kind=5 then M.yF ev else if ev.kind=6 then M.qM ev else ({ M with res:=2 - ev.aT,reason:=3 },0)):=hid rfl
 clear hp
 have HM:=hid h
 have Ba:=hid hb
 have HSX:Hid (¬ S w.heap.size):=hid (fun hk=>by obtain ⟨up,us,ue,vl,vm,rows,hg⟩:=h.game; have:=(hg.lo _ hk).2; omega)
 have TY:Hid (b<w.heap.size):=hid h.box.lt
 clear h hb
 go_enter Tryz.func49,Tryz.ntmps49
 go_upto_region 1 with (fail)
 refine pV fun w0 uo fG hs_=>?_
 have sN:=hid uo
 have HB0:=hid fG
 clear hs_ uo fG
 have DJ:=hid (HM.out.below HB0.out)
 have amH:Hid (base≤w0.heap.size):=hid (Nat.le_trans Ba.out HB0.out.size)
 have e0:=sN.out.cell 0 rfl
 have e1:=sN.out.cell 1 rfl
 have e2:=sN.out.cell 2 rfl
 have e3:=sN.out.cell 3 rfl
 have e4:=sN.out.cell 4 rfl
 have e5:=sN.out.cell 5 rfl
 have e6:=sN.out.cell 6 rfl
 have k0:=VA.out
 have hk0:(ev.kind == 0)=true:=by simpa using k0
 have HD2:Hid (M.kind ev=M.jQ ev):=hid (by rw [HDK.out,if_pos k0])
 have mV:=hid (HP.out.mid k0)
 clear k0 HDK
 go_wp2_with fail
 refine (HDo.out w0 DJ.out amH.out mV.out HP.out.gm).mono ?_
 rintro e w1 ⟨rfl,S1,B1,hm,hs,hf⟩
 have wY:=hid hm
 have xu:Hid (iI w S S1):=hid (fun k hk h=>hs k (Nat.lt_of_lt_of_le hk HB0.out.size) h)
 have HF1:Hid (iC S b w w1):=hid ((iC.new HB0.out).trans hf (iI.refl _ _))
 clear hm hs hf
 rw [← HD2.out] at wY ⊢
 go_wp2_with fail
 go_ret
 exact ⟨rfl,S1,B1,wY.out,xu.out,HF1.out⟩
theorem abV (HS:SortMvSaid) (HI:ItoaSaid) (HJ:qQ) (ev:yD) (k0:ev.kind=0) (hp0:M.aQ=[]) (w:World) (h:aY X S base w b M B) (hb:base≤w.heap.size) (hi:MInv M) (hjl:M.jr.length<90) (ht:Tab base w) (hok:Uc ev):Calls Tryz.prog 16 #[.pointer (some ⟨b,0,none⟩),.agg #[.int .i64 ev.kind,.int .i64 ev.aT,.int .i64 ev.n,.int .i64 ev.now,.int .i64 ev.m.src,.int .i64 ev.m.dst,.int .i64 ev.m.piece]] w fun e w'=>e=.returned (.int .i64 (M.go ev).2)∧AA X S base b w (M.go ev).1 w':=
 aa3 ev (fun X S base b B w h hb hp=>UZ ev k0 (fun w h hb hm hg=>LV (P:=fun l=>l=[]) (fun R vp vs ve p vc v0 v1 v l w h0 hr hn hp hl _=>Fj R vp vs ve p vc v0 v1 v l w h0 hr hn hp hl) (fun R p l h=>by subst h; rfl) hp0 HS ev w h hb hm hg) w h hb hp) HS HI HJ w h hb hi hjl ht hok
theorem Aa (w:World):Calls Tryz.prog 14 #[] w (aaA w):=by
 obtain ⟨i0,hi,hz0,hz1,hz2⟩:=info_parts info3
 have hmk:∀ w':World,(Instr.makeSlice 22 (.int .i64 9) (.int .i64 9)).run Tryz.prog w'=.ok (.slice (some ⟨w'.heap.size,0,none⟩) 9 9) (w'.alloc (.cells #[.int .i64 0,.int .i64 0,.int .i64 0,.int .i64 0,.int .i64 0,.int .i64 0,.int .i64 0,.int .i64 0,.int .i64 0] 3)):=fun w'=>by
  rw [run_make w' 22 3 i0 (.int .i64 0) Tryz.underlying22 hi hz0 .i64 .i64 9 9 (by decide) (by decide) (by rw [hz2]; decide) (by decide),hz1]
  kernel_rfl
 clear hi hz0 hz1 hz2
 go_enter Tryz.func14,Tryz.ntmps14
 go_wp2
 refine bodyPost_ret (v:=Ob fJ (.slice (some ⟨w.heap.size+1,0,none⟩) 1 1) (.slice (some ⟨w.heap.size+1+1,0,none⟩) 9 9) (.slice (some ⟨w.heap.size+1+1+1,0,none⟩) 1 1)) (by simp [results,Tryz.results14,go_sem,Ob,fJ]) rfl ⟨_,_,_,rfl,⟨?_,?_,?_⟩,by go_grown⟩
 ·refine .inr ⟨w.heap.size+1,0,1,rfl,Nat.le_refl _,by unfold maxLen; decide,by simp,fun i h=>?_⟩
  obtain rfl:i=0:=by simp [fJ] at h; exact h
  refine ⟨[.int .u8 83,.int .i64 5,.int .i64 0,.slice none 0 0],⟨.slice none 0 0,rfl,iQ.nil _ _⟩,fun j hj=>?_⟩
  simp only [iD] at hj
  rcases j with _ | _ | _ | _ | j
  all_goals first | (simp [go_sem]; done) | omega
 ·refine ⟨rfl,.inr ⟨w.heap.size+1+1,0,9,rfl,Nat.le_refl _,by unfold maxLen; decide,fun i hi=>?_⟩⟩
  have hi':i<9:=by simpa [fJ] using hi
  rcases i with _ | _ | _ | _ | _ | _ | _ | _ | _ | i
  all_goals first | (simp [go_sem,ints,fJ]; done) | omega
 ·refine .inr ⟨w.heap.size+1+1+1,0,1,rfl,Nat.le_refl _,by unfold maxLen; decide,by simp,fun i h=>?_⟩
  obtain rfl:i=0:=by simp [fJ] at h; exact h
  refine ⟨[.int .i64 0,.int .i64 0,.int .i64 3,.bool false],rfl,fun j hj=>?_⟩
  simp only [oO] at hj
  rcases j with _ | _ | _ | _ | j
  all_goals first | (simp [go_sem]; done) | omega
theorem Ju (w:World):Calls Tryz.prog 15 #[] w fun e w'=>e=.returned (.agg #[.slice (some ⟨w.heap.size+1,0,none⟩) 1 1,.int .i64 1000,.int .i64 0])∧clk.eF w' w'.heap.size (some ⟨w.heap.size+1,0,none⟩) 1 iw.ps∧Below w.heap.size w w':=by
 go_enter Tryz.func15,Tryz.ntmps15
 go_upto_region 1 with (fail)
 go_wp2_with fail
 have HX:=(Box.new w [.slice (some ⟨w.heap.size+1,0,none⟩) 1 1,.int .i64 1000,.int .i64 0] 65).alloc (.cells #[.int .i64 0,.int .i64 60000] 141)
 have HY:=Box.new' (w.alloc (.cells #[.slice (some ⟨w.heap.size+1,0,none⟩) 1 1,.int .i64 1000,.int .i64 0] 65)) (w.heap.size+1) [.int .i64 0,.int .i64 60000] 141 (by simp)
 have HB:Below w.heap.size w ((w.alloc (.cells #[.slice (some ⟨w.heap.size+1,0,none⟩) 1 1,.int .i64 1000,.int .i64 0] 65)).alloc (.cells #[.int .i64 0,.int .i64 60000] 141)):=((Below.refl w.heap.size w).alloc (Nat.le_refl _) _).alloc (by simp) _
 refine bodyPost_ret (dD rfl (by rfl) HX Tryz.underlying65 (by rfl) (by kernel_rfl)) rfl ⟨rfl,⟨rfl,fun _=>⟨w.heap.size+1,0,rfl,HY.lt,fun k hk=>?_⟩⟩,HB⟩
 obtain rfl:k=0:=by omega
 exact ⟨HY.cell 0 rfl,HY.cell 1 rfl⟩
def lU:iM:=⟨[],ByteArray.empty,[⟨-1,gq.m,ByteArray.empty⟩],0⟩
theorem abW:dA fJ [gq.m]=0:=by
 have h:dG fJ [] gq.m=0:=by
  unfold dG
  rw [if_neg (fun hc=>hc (QZ I8)),if_neg (fun hc=>hc X0)]
  rfl
 unfold dA
 rw [if_neg (fun hc=>hc FQ),runFrom,if_neg (fun hc=>hc h),runFrom]
theorem Y4:dU fJ lU.nodes (List.replicate 1 0) 0=0:=by
 unfold dU
 rw [if_neg (by decide +kernel),if_neg (by decide +kernel),if_neg (by decide +kernel),if_neg (by rw [show dX lU.nodes ((0:Nat):Int)=[gq.m] by decide +kernel]; exact fun hc=>hc abW),if_neg (by decide +kernel)]
theorem abX:dI fJ lU=0:=by
 unfold dI
 rw [if_neg (fun hc=>hc FQ),if_neg (by decide),if_neg (by decide),if_neg (by decide),if_neg (by decide)]
 show iZ fJ lU.nodes 1 0 (List.replicate 1 0)=0
 rw [iZ,if_neg (fun hc=>hc Y4)]
 rfl
theorem U0:trees lU=[.mk gq.m ByteArray.empty []]:=by
 unfold trees
 rfl
theorem ae2 (l:List aA):(lu fJ (aC fJ) l gq.m).data.toList=[83,64,98,50]:=by
 unfold lu
 rw [if_pos (by decide)]
 decide +kernel
theorem RS:wH fJ lU=[83,64,98,50,32,42,10]:=by
 unfold wH Em
 rw [U0,kU,yS,kU,jk,je,show (lS.mk gq.m ByteArray.empty []).mv=gq.m from rfl,ae2]
 decide +kernel
theorem yV:mG fJ lU=0∧Et fJ lU=⟨#[83,64,98,50,32,42,10]⟩:=by
 have h:mG fJ lU=0:=by unfold mG; rw [abX,RS]; decide
 refine ⟨h,?_⟩
 unfold Et
 rw [if_pos h,RS]
 rfl
theorem GY {w:World} {nb:Nat} (h:Box w nb [.int .i64 (-1),.int .i64 (-1),.int .i64 4,.int .i64 0,.string ByteArray.empty] 75):Vx w lU (.slice none 0 0) (.slice (some ⟨nb,0,none⟩) 1 1):=by
 refine ⟨iQ.nil _ _,?_,by unfold maxLen; decide⟩
 refine .inr ⟨nb,0,1,rfl,Nat.le_refl _,by unfold maxLen; decide,h.lt,fun i hi=>?_⟩
 obtain rfl:i=0:=by simp [lU] at hi; exact hi
 refine ⟨[.int .i64 (-1),.int .i64 (-1),.int .i64 4,.int .i64 0,.string ByteArray.empty],⟨rfl,show ByteArray.empty.size≤maxLen by unfold maxLen; decide⟩,fun j hj=>?_⟩
 simp only [oG] at hj
 rcases j with _ | _ | _ | _ | _ | j
 ·exact h.cell 0 rfl
 ·exact h.cell 1 rfl
 ·exact h.cell 2 rfl
 ·exact h.cell 3 rfl
 ·exact h.cell 4 rfl
 ·omega
theorem aiE (w:World) (a0 a1 a2 a3 a4 a5 a6 a7 a8 a9 a10 a11 a12 a13 a14 a15 a16 a17 a18 a19:Value):(Instr.field 89 (.agg #[a0,a1,a2,a3,a4,a5,a6,a7,a8,a9,a10,a11,a12,a13,a14,a15,a16,a17,a18,a19]) 0).run Tryz.prog w=.ok a0 w:=by kernel_rfl
theorem aY.amI {w:World} (h:aY X S base w b M B) (k:Nat) (hk:S k∨one1 b k):k<w.heap.size:=by
 obtain ⟨up,us,ue,vl,vm,rows,hg⟩:=h.game
 rcases hk with hk | hk
 ·exact (hg.lo k hk).2
 ·rw [show k=b from hk]; exact h.box.lt
structure ae3:Prop where
 so:SortMvSaid
 it:ItoaSaid
 jm:qQ
 jb:qV
 wr:WriteSaid
 ln:LenSaid
 st:StringSaid
theorem Jv (HH:ae3) (w:World) (ht:Tab w.heap.size w):Calls Tryz.prog 5 #[] w fun e w'=>e=.returned (.bool true)∧Below w.heap.size w w':=by
 have HSo:=HH.so
 have HI:=HH.it
 have HJ:=HH.jm
 have JW:=hid HH
 clear HH
 have HS:=hid HSo
 have HIt:=hid HI
 have HJo:=hid HJ
 have E5:=hid ht
 clear HSo HI HJ ht
 go_enter Tryz.func5,Tryz.ntmps5
 go_upto_region 1 with (fail)
 go_wp2_with fail
 refine (Aa _).mono ?_
 rintro e w1 ⟨vp,vs,ve,rfl,hr,hb1⟩
 have HR:=hid hr
 have HB1:=hid hb1
 clear hr hb1
 go_wp2_with fail
 refine (Ju _).mono ?_
 rintro e w2 ⟨rfl,hp,hb2⟩
 have HR2:=hid (HR.out.below hb2 (Nat.le_refl _))
 have HB2:=hid (HB1.out.trans (hb2.mono HB1.out.size))
 have HP:=hid hp
 have HT2:=hid (E5.out.mono HB2.out.size HB2.out)
 have hpm:w1.heap.size+1<w2.heap.size:=by
  obtain ⟨g,o,hg,hlt,_⟩:=hp.2 (by decide)
  cases hg
  exact hlt
 clear hb2 hp HR
 go_wp2_with fail
 refine (XZ HS.out HIt.out fJ iw vp vs ve (some ⟨w1.heap.size+1,0,none⟩) 1 0 w2 HR2.out (by decide +kernel) HP.out (by decide) (by decide) (by decide) (by decide) HT2.out).mono ?_
 rintro e w3 (⟨c,⟨_,hbad⟩,rfl,_⟩ | ⟨_,hcg,base,S,b,B,rfl,hm,hb0,hb1,hb3⟩)
 ·exact absurd hbad Yd
 obtain ⟨M0,hM0,aiF,amJ,amK,hg1,hg2,hg3⟩:=MH
 have hp0:M0.aQ=[]:=by rw [← hM0]; unfold mQ aO.over; (repeat' split) <;> rfl
 rw [hM0] at hm
 have HM:=hid hm
 have HB3:=hid (HB2.out.trans (hb3.mono HB2.out.size))
 have Ba:=hid hb1
 have HT3:=hid (E5.out.mono (Nat.le_trans HB2.out.size hb0) HB3.out)
 have hbw:w.heap.size≤base:=Nat.le_trans HB2.out.size hb0
 clear hm hb0 hb1 hb3
 go_upto_region 5 with (fail)
 have DC:=hid (Box.new w3 [.int .i64 (-1),.int .i64 4,.int .i64 0] 68)
 have hb4:Below w3.heap.size w3 (w3.alloc (.cells #[.int .i64 (-1),.int .i64 4,.int .i64 0] 68)):=(Below.refl _ _).alloc (Nat.le_refl _) _
 have HM4:=hid (HM.out.below hb4)
 have HB4:=hid (HB3.out.trans (hb4.mono HB3.out.size))
 have aiG:=hid (Nat.le_trans Ba.out hb4.size)
 have HT4:=hid (HT3.out.below (hb4.mono Ba.out))
 have IW:Hid (∀ q,S q∨one1 b q→q<w3.heap.size):=hid (fun q hq=>HM.out.amI q hq)
 obtain ⟨xb,hxb⟩:∃ xb,xb=w3.heap.size:=⟨_,rfl⟩
 rw [← hxb] at DC IW
 generalize (w3.alloc (.cells #[.int .i64 (-1),.int .i64 4,.int .i64 0] 68))=w4 at *
 rw [← hxb]
 clear hb4 HM HT3 hxb
 have x0:=DC.out.cell 0 rfl
 have x1:=DC.out.cell 1 rfl
 have x2:=DC.out.cell 2 rfl
 go_wp2_with fail
 refine (abV HS.out HIt.out HJo.out gq rfl hp0 w4 HM4.out aiG.out aiF amJ HT4.out Ye).mono ?_
 rintro e w5 ⟨rfl,S5,B5,hm5,hs5,hf5⟩
 rw [hg1]
 have OZ:=hid (DC.out.held hf5 (fun hc=>by have:=IW.out _ hc; omega))
 have TR:=hid hm5
 have wO:=hid (HB4.out.trans ((aY.base' HM4.out hf5 aiG.out).mono hbw))
 have Vt:=hid (abf aiF amK Ye)
 generalize (M0.go gq).1=M5 at *
 have HG2:=hid hg2
 clear hm5 hs5 hf5 HM4 HB4 DC IW hg2 hg3 x0 x1 x2
 go_upto_region 6 with (fail)
 generalize w5=wq at *
 have Mz:=TR.out.below (aP (Below.refl _ _))
 have Xz:=OZ.out.drew
 have Lz:Below w.heap.size w wq.drew:=aP wO.out
 clear TR OZ wO
 refine wp_region_noPanic ?_
 refine bU (S:=(fun w'=>w'.cell? ⟨xb,0,none⟩=some (.int .i64 (-1))∧w'.cell? ⟨xb,1,none⟩=some (.int .i64 4)∧w'.cell? ⟨xb,2,none⟩=some (.int .i64 0))) (L:=[]) (by kernel_rfl) (by and_intros <;> exact Xz.cell _ rfl) (fun hHeld=>?_)
 refine eH 1 ?_
 refine aJ 2 ?_
 refine ZT (rs:=[0,3]) ?_
 refine (bC.cons (by first | (simp only [List.getElem?_toArray,List.getElem?_cons_zero,List.getElem?_cons_succ] <;> rfl) | rfl) (fun K hK=>?_) (bC.cons (by first | (simp only [List.getElem?_toArray,List.getElem?_cons_zero,List.getElem?_cons_succ] <;> rfl) | rfl) (fun K hK=>?_) bC.nil))
 ·skip
  go_simp
  refine (Aa _).mono ?_
  rintro e w80 ⟨vp',vs',ve',rfl,R80,hbb⟩
  have X80:=Xz.stays hbb
  have M80:=Mz.below hbb
  have L80:=Lz.trans (hbb.mono Lz.size)
  clear hbb
  refine hK.out _ _ (by and_intros <;> exact X80.cell _ rfl) (fun hHeld=>?_)
  clear hK K
  refine gI 3 fun K hK=>?_
  go_simp
  refine bg ?_
  intro w83 e83
  have hbb:Below w80.heap.size w80 w83:=by rw [e83]; exact (Below.refl _ _).alloc (Nat.le_refl _) _
  have N83:Box w83 (w80.heap.size) [.int .i64 (-1),.int .i64 (-1),.int .i64 4,.int .i64 0,.string ByteArray.empty] 75:=by rw [e83]; exact Box.new' _ _ _ _ rfl
  have X83:=X80.stays hbb
  have M83:=M80.below hbb
  have L83:=L80.trans (hbb.mono L80.size)
  have R83:=R80.below hbb (Nat.le_refl _)
  clear hbb e83
  refine hK.out _ _ (by and_intros <;> exact X83.cell _ rfl) (fun hHeld=>?_)
  clear hK K
  refine aJ 4 ?_
  refine gI 5 fun K hK=>?_
  go_simp
  refine (GX JW.out.so JW.out.jb JW.out.wr JW.out.ln JW.out.st fJ vp' vs' ve' lU none (some ⟨w80.heap.size,0,none⟩) 0 1 w83 R83 (by decide +kernel) (GY N83)).mono ?_
  rw [yV.1,yV.2]
  rintro e w85 ⟨rfl,hbb⟩
  have X85:=X83.stays hbb
  have M85:=M83.below hbb
  have L85:=L83.trans (hbb.mono L83.size)
  clear hbb
  refine hK.out _ _ (by and_intros <;> exact X85.cell _ rfl) (fun hHeld=>?_)
  clear hK K
  refine aJ 6 ?_
  refine aJ 7 ?_
  refine aJ 8 ?_
  refine aJ 9 ?_
  refine aJ 10 ?_
  refine kW ?_
  have ae9:=hid M85
  have Y7:=hid L85
  clear hHeld M85 L85 X85 M80 L80 X80 R80 M83 L83 X83 N83 R83 Mz Lz Xz
  go_wp2_with fail
  refine (Gj _ ae9.out (by have:=Vt.out.pr.len; omega)).mono ?_
  rintro e w9 ⟨ma,mc,qa,qc,rfl,hs1,hs2,xP⟩
  have bI:=hid (Y7.out.trans (xP.mono Y7.out.size))
  clear xP hs1 hs2
  rw [HG2.out]
  have hfd:=aiE
  have hss:((⟨#[83,64,98,50,32,42,10]⟩:ByteArray).toList == (⟨#[83,64,98,50,32,42,10]⟩:ByteArray).toList)=true:=beq_self_eq_true _
  go_wp2_with fail
  go_ret
  exact ⟨rfl,bI.out⟩
 ·skip
  go_simp
  refine bg ?_
  intro w83 e83
  have hbb:Below wq.drew.heap.size wq.drew w83:=by rw [e83]; exact (Below.refl _ _).alloc (Nat.le_refl _) _
  have N83:Box w83 (wq.heap.size) [.int .i64 (-1),.int .i64 (-1),.int .i64 4,.int .i64 0,.string ByteArray.empty] 75:=by rw [e83]; exact Box.new' _ _ _ _ rfl
  have X83:=Xz.stays hbb
  have M83:=Mz.below hbb
  have L83:=Lz.trans (hbb.mono Lz.size)
  clear hbb e83
  refine hK.out _ _ (by and_intros <;> exact X83.cell _ rfl) (fun hHeld=>?_)
  clear hK K
  refine aJ 4 ?_
  refine gI 0 fun K hK=>?_
  go_simp
  refine (Aa _).mono ?_
  rintro e w80 ⟨vp',vs',ve',rfl,R80,hbb⟩
  have X80:=X83.stays hbb
  have M80:=M83.below hbb
  have L80:=L83.trans (hbb.mono L83.size)
  have N80:=N83.stays hbb
  clear hbb
  refine hK.out _ _ (by and_intros <;> exact X80.cell _ rfl) (fun hHeld=>?_)
  clear hK K
  refine gI 5 fun K hK=>?_
  go_simp
  refine (GX JW.out.so JW.out.jb JW.out.wr JW.out.ln JW.out.st fJ vp' vs' ve' lU none (some ⟨wq.heap.size,0,none⟩) 0 1 w80 R80 (by decide +kernel) (GY N80)).mono ?_
  rw [yV.1,yV.2]
  rintro e w85 ⟨rfl,hbb⟩
  have X85:=X80.stays hbb
  have M85:=M80.below hbb
  have L85:=L80.trans (hbb.mono L80.size)
  clear hbb
  refine hK.out _ _ (by and_intros <;> exact X85.cell _ rfl) (fun hHeld=>?_)
  clear hK K
  refine aJ 6 ?_
  refine aJ 7 ?_
  refine aJ 8 ?_
  refine aJ 9 ?_
  refine aJ 10 ?_
  refine kW ?_
  have ae9:=hid M85
  have Y7:=hid L85
  clear hHeld M85 L85 X85 M80 L80 X80 N80 R80 M83 L83 X83 N83 Mz Lz Xz
  go_wp2_with fail
  refine (Gj _ ae9.out (by have:=Vt.out.pr.len; omega)).mono ?_
  rintro e w9 ⟨ma,mc,qa,qc,rfl,hs1,hs2,xP⟩
  have bI:=hid (Y7.out.trans (xP.mono Y7.out.size))
  clear xP hs1 hs2
  rw [HG2.out]
  have hfd:=aiE
  have hss:((⟨#[83,64,98,50,32,42,10]⟩:ByteArray).toList == (⟨#[83,64,98,50,32,42,10]⟩:ByteArray).toList)=true:=beq_self_eq_true _
  go_wp2_with fail
  go_ret
  exact ⟨rfl,bI.out⟩
end Go.Proofs.YteablcielclaeaaGreatDoor
namespace Go.Proofs.YteablcielclaeaaGreatDoor
open Go.ChangeShapes Go.WideShapes Go.ChangeAt Go.RowKit
set_option linter.unusedVariables false
open Go.Lib (hid)
def jg (n:Int):Int:=n+n % 2 - 1
theorem Nq (n:Int) (w:World) (h0:0≤n) (h1:n≤1000) :
  Calls Tryz.prog 62 #[.int .i64 n] w fun e w'=>e=.returned (.int .i64 (jg n))∧w=w':=by
 go_enter Tryz.func62,Tryz.ntmps62
 go_wp2
 go_ret
 exact ⟨rfl,rfl⟩
def jh (n:Int) (tw:Bool):Int:=if tw=true then 2 * jg n else jg n
theorem Qb (n:Int) (tw:Bool) (w:World) (h0:2≤n) (h1:n≤32) :
  Calls Tryz.prog 61 #[.int .i64 n,.bool tw] w fun e w'=>e=.returned (.int .i64 (jh n tw))∧w=w':=by
 have hb:1≤jg n∧jg n≤31:=by unfold jg; omega
 cases tw
 all_goals
  go_enter Tryz.func61,Tryz.ntmps61
  go_wp2_with (go_at_call 62; refine (Nq _ _ (by omega) (by omega)).mono ?_; rintro e w' ⟨rfl,rfl⟩)
  go_ret
  exact ⟨rfl,rfl⟩
theorem U1 (n:Int) (tw:Bool) (w:World) (h0:2≤n) (h1:n≤32) :
  Calls Tryz.prog 19 #[.int .i64 n,.bool tw] w fun e w'=>e=.returned (.tuple #[.int .i64 (jh n tw),.int .i64 0])∧w=w':=by
 go_enter Tryz.func19,Tryz.ntmps19
 go_wp2_with (go_at_call 61; refine (Qb _ _ _ (by omega) (by omega)).mono ?_; rintro e w' ⟨rfl,rfl⟩)
 go_ret2
 exact ⟨rfl,rfl⟩
theorem U2 (n:Int) (tw:Bool) (w:World) (h:n<2∨32<n) :
  Calls Tryz.prog 19 #[.int .i64 n,.bool tw] w fun e w'=>e=.returned (.tuple #[.int .i64 0,.int .i64 4])∧w=w':=by
 rcases h with h | h
 all_goals
  go_enter Tryz.func19,Tryz.ntmps19
  go_wp2
  go_ret2
  exact ⟨rfl,rfl⟩
def flat (gs:List (Int×Int)):List Value:=gs.flatMap fun g=>[.int .i64 g.1,.int .i64 g.2]
theorem U3 (gs:List (Int×Int)) (g:Int×Int):flat (gs++[g])=flat gs++[.int .i64 g.1,.int .i64 g.2]:=by simp [flat]
def Gs (w:World) (B:Nat) (tu:Bool) (gs:List (Int×Int)):Prop:=
 w.heap[B]?=some (.cells #[.bool tu] 4 (0,0))∧∃ v,w.heap[B+1]?=some (.cells #[v] 29 (0,0))∧w.ownsRow (B+2) 31 2 v gs.length (flat gs)∧B+2≤w.heap.size
def Jw (tu first:Bool) (a b:Int):Int×Int:=if (first == tu)=true then (b,a) else (a,b)
theorem afa:(Tryz.prog.info? 31).map (fun i=>(i.zero,i.size,i.bytes))=some (some (.agg #[.int .i64 0,.int .i64 0]),2,16):=by kernel_rfl
theorem Y8 {w:World} {base:Nat} {e:TypeId} {size:Nat} {v:Value} {n:Nat} {xs:List Value} (h:w.ownsRow base e size v n xs) (hn:0<n):∃ g c,v=.slice (some ⟨g,0,none⟩) n c:=by
 rcases h.2 with ⟨_,h0⟩ | ⟨g,c,_,h,_⟩
 ·omega
 ·exact ⟨g,c,h⟩
def Y9 (B:Nat) (tu:Bool) (gs:List (Int×Int)) (w:World) (e:Ending) (w':World):Prop:=e=.returned (.tuple #[])∧Gs w' B tu gs∧Below B w w'
theorem Gs.step {w w1:World} {B:Nat} {tu:Bool} {gs:List (Int×Int)} {g:Int×Int} {v v':Value} (o:Obj) (hB:w.heap[B]?=some (.cells #[.bool tu] 4 (0,0))) (hv:w.heap[B+1]?=some (.cells #[v] 29 (0,0)))
  (hsz:B+2≤w.heap.size) (hown:w.ownsRow (B+2) 31 2 v gs.length (flat gs)) (hown':w1.ownsRow (B+2) 31 2 v' (gs.length+1) (flat gs++[.int .i64 g.1,.int .i64 g.2])) (hg:(w.alloc o).grownBy w1 v.ownBlock) :
  (Gs (w1.setCell ⟨B+1,0,none⟩ v') B tu (gs++[g])∧Below B w (w1.setCell ⟨B+1,0,none⟩ v'))∧w1.heap[B+1]?=some (.cells #[v] 29 (0,0)):=by
 have hsz1:w.heap.size+1≤w1.heap.size:=by have:=hg.size; simpa using this
 have far:∀ k,k<B+2→some k≠v.ownBlock:=by
  intro k hk e
  rcases hown.2 with ⟨rfl,_⟩ | ⟨g',cap,cur,rfl,hge,_⟩
  ·cases e
  ·simp [Value.ownBlock] at e; omega
 have blk:∀ k,k<B+2→w1.heap[k]?=w.heap[k]?:=fun k hk=>by
  rw [hg.block k (by simp; omega) (far k hk)]
  exact Below.heap_alloc w o k (by omega)
 have hB1:w1.heap[B]?=some (.cells #[.bool tu] 4 (0,0)):=by rw [blk B (by omega)]; exact hB
 have hv1:w1.heap[B+1]?=some (.cells #[v] 29 (0,0)):=by rw [blk (B+1) (by omega)]; exact hv
 refine ⟨⟨⟨?_,v',?_,?_,by simpa using (by omega:B+2≤w1.heap.size)⟩,?_⟩,hv1⟩
 ·rw [Below.heap_setCell w1 ⟨B+1,0,none⟩ v' B (by simp)]; exact hB1
 ·exact one_setCell hv1
 ·rw [U3,List.length_append]
  exact ownsRow_setCell_below hown' (by simp) _
 ·refine Below.setCell ?_ (by simp) _
  exact ⟨hg.os,hg.tape,hg.output,by omega,fun k hk=>blk k (by omega)⟩
set_option maxHeartbeats 1000000 in
theorem add_any (a b:Int) (first tu:Bool) (gs:List (Int×Int)) (B:Nat) (w:World) (h:Gs w B tu gs) (hlen:gs.length≤100) :
  Calls Tryz.prog 63 #[.int .i64 a,.int .i64 b,.bool first,.pointer (some ⟨B,0,none⟩),.pointer (some ⟨B+1,0,none⟩)] w (Y9 B tu (gs++[Jw tu first a b]) w):=by
 obtain ⟨hB,v,hv,hown,hsz⟩:=h
 obtain ⟨i0,hi,hz0,hz1,hz2⟩:=info_parts afa
 have cT:w.cell? ⟨B,0,none⟩=some (.bool tu):=cell_of_one hB
 have cO:w.cell? ⟨B+1,0,none⟩=some v:=cell_of_one hv
 have fO:w.frozen? ⟨B+1,0,none⟩=false:=free_of_one hv
 cases first <;> cases tu
 all_goals
  go_enter Tryz.func63,Tryz.ntmps63
  go_wp2_with (at_builtin; refine wpList_append_own _ rfl _ _ 29 rfl (B+2) 31 i0 (.agg #[.int .i64 0,.int .i64 0]) 2 16 Tryz.underlying29 hi hz0 hz1 hz2 rfl (by decide) v gs.length (flat gs) rfl (hown.alloc _) ⟨w.heap.size,0,none⟩ 1 1 [.int .i64 _,.int .i64 _] rfl rfl (cell_two_new _ _ _ _) ?c2 ?c3 ?c4 ?c5 ?_)
  case c2=>intro u hu; simp at hu; rcases hu with rfl | rfl <;> rfl
  case c3=>unfold maxLen; omega
  case c4=>omega
  case c5=>simp; omega
  intro v' w1 hown' hgrow _
  obtain ⟨gg,cap',rfl⟩:=Y8 hown' (by omega)
  (first | obtain ⟨hpost,hv1⟩:=Gs.step (g:=(a,b)) _ hB hv hsz hown hown' hgrow | obtain ⟨hpost,hv1⟩:=Gs.step (g:=(b,a)) _ hB hv hsz hown hown' hgrow)
  have HP:=hid hpost
  clear hpost hown' hgrow hown hv hB cT cO fO hsz
  have cO:w1.cell? ⟨B+1,0,none⟩=some v:=cell_of_one hv1
  have fO:w1.frozen? ⟨B+1,0,none⟩=false:=free_of_one hv1
  clear hv1
  go_wp2
  go_returns
  exact ⟨rfl,HP.out.1,HP.out.2⟩
def g0 (n h r:Int) (tu:Bool):List (Int×Int):=if (n % 2 == 0)=true then [Jw tu (r % 2 == 0) r (n - 1)] else []
def gi (h r:Int) (tu:Bool) (i:Int):Int×Int:=Jw tu (i % 2 == 0) ((r+i) % h) ((r+h - i) % h)
def Nr (n h r:Int) (tu:Bool) (k:Nat):List (Int×Int):=g0 n h r tu++(List.range k).map fun j:Nat=>gi h r tu ((j:Int)+1)
theorem Ns (n h r:Int) (tu:Bool) (k:Nat):Nr n h r tu (k+1)=Nr n h r tu k++[gi h r tu ((k:Int)+1)]:=by
 unfold Nr; rw [List.range_succ,List.map_append,List.append_assoc]; rfl
theorem RU (n h r:Int) (tu:Bool) (k:Nat):(Nr n h r tu k).length≤k+1:=by
 unfold Nr g0; split <;> simp <;> omega
def uI (n round:Int):List (Int×Int):=Nr n (jg n) (round % jg n) (decide (jg n≤round)) ((jg n+1) / 2 - 1).toNat
def U4 (gs:List (Int×Int)) (w:World) (e:Ending) (w':World):Prop:=∃ v,e=.returned v∧w'.ownsRow (w.heap.size+2) 31 2 v gs.length (flat gs)∧Below w.heap.size w w'
theorem Gs.start (w:World) (tu:Bool):Gs ((w.alloc (.cells #[.bool tu] 4)).alloc (.cells #[.slice none 0 0] 29)) w.heap.size tu []:=by
 refine ⟨?_,.slice none 0 0,?_,World.ownsRow_nil _ _ _ _,by simp⟩
 ·rw [Below.heap_alloc _ _ _ (by simp)]; exact heap_alloc_new w _
 ·have:=heap_alloc_new (w.alloc (.cells #[.bool tu] 4)) (.cells #[.slice none 0 0] 29)
  simpa using this
theorem Gs.drew {w:World} {B:Nat} {tu:Bool} {gs:List (Int×Int)} (h:Gs w B tu gs):Gs w.drew B tu gs:=h
theorem Gs.cells {w:World} {B:Nat} {tu:Bool} {gs:List (Int×Int)} (h:Gs w B tu gs):∃ v,w.cell? ⟨B+1,0,none⟩=some v∧w.ownsRow (B+2) 31 2 v gs.length (flat gs):=by
 obtain ⟨_,v,hv,hown,_⟩:=h
 exact ⟨v,cell_of_one hv,hown⟩
set_option maxHeartbeats 2000000 in
theorem U5 (n round:Int) (w:World) (h0:2≤n) (h1:n≤32) (hr0:0≤round) (hr1:round≤100) :
  Calls Tryz.prog 20 #[.int .i64 n,.int .i64 round] w (U4 (uI n round) w):=by
 have hmf:∀ (fn:Fn) (first cap:Array Value) (w:World),(Instr.makeFunc fn first cap).run Tryz.prog w=.ok (.func fn first cap) w:=fun _ _ _ _=>rfl
 have hb:1≤jg n∧jg n≤31:=by unfold jg; omega
 have HG:Hid (uI n round=Nr n (jg n) (round % jg n) (decide (jg n≤round)) ((jg n+1) / 2 - 1).toNat):=hid rfl
 have hr:0≤round % jg n∧round % jg n<jg n:=⟨Int.emod_nonneg _ (by omega),Int.emod_lt_of_pos _ (by omega)⟩
 go_enter Tryz.func20,Tryz.ntmps20
 go_wp2_with fail
 refine (Nq _ _ (by omega) (by omega)).mono ?_
 rintro e w' ⟨rfl,rfl⟩
 generalize jg n=h at *
 have hh:(h == 0)=false:=by simp; omega
 cases he:(n % 2 == 0)
 ·go_wp2_with fail
  generalize round % h=r at *
  generalize decide (h≤round)=tu at *
  have H0:Hid (Nr n h r tu 0=[]):=hid (by unfold Nr g0; simp [he])
  have hgs:=Gs.start w tu
  have hbel:Below w.heap.size w ((w.alloc (.cells #[.bool tu] 4)).alloc (.cells #[.slice none 0 0] 29)):=by go_grown
  rw [← H0.out] at hgs
  have HGS:=hid hgs
  clear hgs
  go_loopw [10] (fun i wr=>∃ k:Nat,(k:Int)≤(h+1) / 2 - 1∧i=.int .i64 ((k:Int)+1)∧Hid (Gs wr w.heap.size tu (Nr n h r tu k))∧Below w.heap.size w wr) (fun i _=>100 - (intOf i).toNat)
  case atStart=>exact ⟨0,by omega,rfl,HGS,hbel⟩
  case round =>
   obtain ⟨k,hk,rfl,HK,hbl⟩:=hrel
   have hl:=RU n h r tu k
   have HN:=hid (Ns n h r tu k)
   by_cases hlt:(k:Int)+1≤(h+1) / 2 - 1
   ·have a1:0≤r+((k:Int)+1):=by omega
    have a2:0≤r+h - ((k:Int)+1):=by omega
    have a3:0≤(k:Int)+1:=by omega
    go_wp2_with fail
    go_region_with (go_at_call 63; refine (add_any _ _ _ tu (Nr n h r tu k) w.heap.size _ (Gs.drew HK.out) (by omega)).mono ?_; rintro e w1 ⟨rfl,hg1,hb1⟩)
    all_goals
     have CY:Below w.heap.size w w1:=(hbl.drew).trans hb1
     have HG1:Hid (Gs w1 w.heap.size tu (Nr n h r tu (k+1))):=hid (by rw [HN.out]; unfold gi; first | (rw [← Int.tmod_eq_emod_of_nonneg a2]; exact hg1) | (rw [← Int.tmod_eq_emod_of_nonneg a1]; exact hg1))
     clear hg1 hb1 hbl HK
     go_wp2_with fail
     go_roundw
     case rel=>exact ⟨k+1,by omega,by go_num,HG1,CY⟩
     case measure=>simp [intOf]; omega
   ·obtain ⟨v,cv,hown⟩:=HK.out.cells
    have ek:((h+1) / 2 - 1).toNat=k:=by omega
    have HO:=hid hown
    clear hown
    have HE:=hid ek
    clear ek
    go_wp2_with fail
    go_ret
    exact ⟨v,rfl,by rw [HG.out,HE.out]; exact HO.out,hbl⟩
 ·go_wp2_with fail
  generalize round % h=r at *
  generalize decide (h≤round)=tu at *
  have H0:Hid (Nr n h r tu 0=[Jw tu (r % 2 == 0) r (n - 1)]):=hid (by unfold Nr g0; simp [he])
  refine (add_any r (n - 1) (r % 2 == 0) tu [] w.heap.size _ (Gs.start w tu) (by simp)).mono ?_
  rintro e w1 ⟨rfl,hgs,hb1⟩
  have hbel:Below w.heap.size w w1:=Below.trans (by go_grown) hb1
  rw [List.nil_append,← H0.out] at hgs
  clear hb1
  go_wp2_with fail
  have HGS:=hid hgs
  clear hgs
  go_loopw [10] (fun i wr=>∃ k:Nat,(k:Int)≤(h+1) / 2 - 1∧i=.int .i64 ((k:Int)+1)∧Hid (Gs wr w.heap.size tu (Nr n h r tu k))∧Below w.heap.size w wr) (fun i _=>100 - (intOf i).toNat)
  case atStart=>exact ⟨0,by omega,rfl,HGS,hbel⟩
  case round =>
   obtain ⟨k,hk,rfl,HK,hbl⟩:=hrel
   have hl:=RU n h r tu k
   have HN:=hid (Ns n h r tu k)
   by_cases hlt:(k:Int)+1≤(h+1) / 2 - 1
   ·have a1:0≤r+((k:Int)+1):=by omega
    have a2:0≤r+h - ((k:Int)+1):=by omega
    have a3:0≤(k:Int)+1:=by omega
    go_wp2_with fail
    go_region_with (go_at_call 63; refine (add_any _ _ _ tu (Nr n h r tu k) w.heap.size _ (Gs.drew HK.out) (by omega)).mono ?_; rintro e w1 ⟨rfl,hg1,hb1⟩)
    all_goals
     have CY:Below w.heap.size w w1:=(hbl.drew).trans hb1
     have HG1:Hid (Gs w1 w.heap.size tu (Nr n h r tu (k+1))):=hid (by rw [HN.out]; unfold gi; first | (rw [← Int.tmod_eq_emod_of_nonneg a2]; exact hg1) | (rw [← Int.tmod_eq_emod_of_nonneg a1]; exact hg1))
     clear hg1 hb1 hbl HK
     go_wp2_with fail
     go_roundw
     case rel=>exact ⟨k+1,by omega,by go_num,HG1,CY⟩
     case measure=>simp [intOf]; omega
   ·obtain ⟨v,cv,hown⟩:=HK.out.cells
    have ek:((h+1) / 2 - 1).toNat=k:=by omega
    have HO:=hid hown
    clear hown
    have HE:=hid ek
    clear ek
    go_wp2_with fail
    go_ret
    exact ⟨v,rfl,by rw [HG.out,HE.out]; exact HO.out,hbl⟩
end Go.Proofs.YteablcielclaeaaGreatDoor
namespace Go.Proofs.YteablcielclaeaaGreatDoor
set_option linter.unusedVariables false
def Qc (n:Int) (g:Int×Int):Bool:=decide (0≤g.1) && decide (g.1<n) && decide (0≤g.2) && decide (g.2<n) && !(g.1 == g.2)
def aiO:Bool:=(List.range 33).all fun n=>(List.range 62).all fun r=>decide (n<2) || (uI n r).all (Qc n)
theorem Qd:aiO=true:=by decide +kernel
theorem Za (n round:Nat) (h0:2≤n) (h1:n≤32) (hr:round<62):∀ g∈uI n round,(0≤g.1∧g.1<n∧0≤g.2∧g.2<n∧g.1≠g.2):=by
 have h:=List.all_eq_true.1 Qd n (List.mem_range.2 (by omega))
 have h2:=List.all_eq_true.1 h round (List.mem_range.2 (by omega))
 rw [Bool.or_eq_true,decide_eq_true_eq] at h2
 have h3:=h2.resolve_left (by omega)
 intro g hg
 have h4:=List.all_eq_true.1 h3 g hg
 simp only [Qc,Bool.and_eq_true,decide_eq_true_eq,Bool.not_eq_true',beq_eq_false_iff_ne] at h4
 omega
end Go.Proofs.YteablcielclaeaaGreatDoor
namespace Go.Proofs.YteablcielclaeaaGreatDoor
open Go.Maps
open Classical in
noncomputable def upd {α:Type} (f:Value→α) (key:Value) (v:α):Value→α:=fun x=>if x=key then v else f x
theorem upd_same {α:Type} (f:Value→α) (key:Value) (v:α):upd f key v key=v:=by simp [upd]
theorem GZ {α:Type} (f:Value→α) {key x:Value} (v:α) (h:x≠key):upd f key v x=f x:=by simp [upd,h]
section
variable {P:Program} {k e t:TypeId} {w:World} {b n:Nat}
theorem He {H:Type} {R:Value→Option (DataW H×List MemPlace)} {D:DataW H} (h:w.ownsMap P k R b n D):IsMap D:=by
 obtain ⟨es,clock,_,_,_,rfl⟩:=h
 exact ⟨_,rfl⟩
def ji (w:World) (P:Program) (k e:TypeId) (b n:Nat) (f:Value→Int):Prop:=
 ∃ D:DataW Unit,w.ownsMap P k (plainElem P e) b n D∧∀ key kl,keyOf P k key=some kl→D.atKey kl (.lit (.int .i64 0))=.lit (.int .i64 (f key))
def iG (w:World) (P:Program) (k e:TypeId) (b n:Nat) (f:Value→Bool):Prop:=
 ∃ D:DataW Unit,w.ownsMap P k (plainElem P e) b n D∧∀ key kl,keyOf P k key=some kl→D.atKey kl (.lit (.bool false))=.lit (.bool (f key))
theorem ji.lt {f:Value→Int} (h:ji w P k e b n f):b<w.heap.size:=by obtain ⟨D,h,_⟩:=h; exact h.lt
theorem iG.lt {f:Value→Bool} (h:iG w P k e b n f):b<w.heap.size:=by obtain ⟨D,h,_⟩:=h; exact h.lt
theorem ji.kept {f:Value→Int} {w':World} {row:Option Nat} (h:ji w P k e b n f) (hg:w.grownBy w' row) (hne:some b≠row):ji w' P k e b n f:=by
 obtain ⟨D,h,ha⟩:=h; exact ⟨D,h.kept hg hne,ha⟩
theorem iG.kept {f:Value→Bool} {w':World} {row:Option Nat} (h:iG w P k e b n f) (hg:w.grownBy w' row) (hne:some b≠row):iG w' P k e b n f:=by
 obtain ⟨D,h,ha⟩:=h; exact ⟨D,h.kept hg hne,ha⟩
theorem ji.alloc {f:Value→Int} (h:ji w P k e b n f) (o:Obj):ji (w.alloc o) P k e b n f:=by obtain ⟨D,h,ha⟩:=h; exact ⟨D,h.alloc o,ha⟩
theorem iG.alloc {f:Value→Bool} (h:iG w P k e b n f) (o:Obj):iG (w.alloc o) P k e b n f:=by obtain ⟨D,h,ha⟩:=h; exact ⟨D,h.alloc o,ha⟩
theorem ji.mono {f:Value→Int} (h:ji w P k e b n f) {m:Nat} (hm:n≤m):ji w P k e b m f:=by obtain ⟨D,h,ha⟩:=h; exact ⟨D,h.mono hm,ha⟩
theorem iG.mono {f:Value→Bool} (h:iG w P k e b n f) {m:Nat} (hm:n≤m):iG w P k e b m f:=by obtain ⟨D,h,ha⟩:=h; exact ⟨D,h.mono hm,ha⟩
theorem ji.store {f:Value→Int} (h:ji w P k e b n f) (K:Keyed P k) (ht:P.underlying t=some (.map k e)) (he:P.underlying e=some (.int .i64)) (hn:n<maxLen)
  {key:Value} (hkey:∃ kl,keyOf P k key=some kl) {v:Int} (hv:(Lit.int .i64 v).wf=true) :
  ∃ w',(Instr.mapUpdate t (.map (some b)) key (.int .i64 v)).run P w=.ok () w'∧ji w' P k e b (n+1) (upd f key v)∧w.grownBy w' (some b):=by
 obtain ⟨D,h,ha⟩:=h
 obtain ⟨kl,hkey⟩:=hkey
 obtain ⟨w',hrun,hown,hg⟩:=h.update K ht hn hkey (plainElem_int he hv)
 refine ⟨w',hrun,⟨_,hown,fun key' kl' hk'=>?_⟩,hg⟩
 by_cases hx:key'=key
 ·subst hx
  rw [hkey] at hk'
  cases hk'
  rw [upd_same,atKey_put_same (He h) (K.key hkey)]
 ·have hl:kl'≠kl:=fun hl=>hx (K.inj (hl ▸ hk') hkey)
  rw [GZ f _ hx,atKey_put_other hl]
  exact ha _ _ hk'
theorem iG.store {f:Value→Bool} (h:iG w P k e b n f) (K:Keyed P k) (ht:P.underlying t=some (.map k e)) (he:P.underlying e=some .bool) (hn:n<maxLen)
  {key:Value} (hkey:∃ kl,keyOf P k key=some kl) (v:Bool) :
  ∃ w',(Instr.mapUpdate t (.map (some b)) key (.bool v)).run P w=.ok () w'∧iG w' P k e b (n+1) (upd f key v)∧w.grownBy w' (some b):=by
 obtain ⟨D,h,ha⟩:=h
 obtain ⟨kl,hkey⟩:=hkey
 obtain ⟨w',hrun,hown,hg⟩:=h.update K ht hn hkey (plainElem_bool he v)
 refine ⟨w',hrun,⟨_,hown,fun key' kl' hk'=>?_⟩,hg⟩
 by_cases hx:key'=key
 ·subst hx
  rw [hkey] at hk'
  cases hk'
  rw [upd_same,atKey_put_same (He h) (K.key hkey)]
 ·have hl:kl'≠kl:=fun hl=>hx (K.inj (hl ▸ hk') hkey)
  rw [GZ f _ hx,atKey_put_other hl]
  exact ha _ _ hk'
end
end Go.Proofs.YteablcielclaeaaGreatDoor
namespace Go.Proofs.YteablcielclaeaaGreatDoor
open Go.ChangeShapes Go.WideShapes Go.ChangeAt Go.RowKit Go.Maps
set_option linter.unusedVariables false
def ac9 (seen:List (Int×Int)) (a:Int):Bool:=seen.any fun g=>g.1 == a || g.2 == a
def afb (n:Int):List (Int×Int)→List (Int×Int)→Int
 | _,[]=>0
 | seen,g :: t=>if Qc n g=true then (if (ac9 seen g.1 || ac9 seen g.2)=true then 7 else afb n (seen++[g]) t) else 4
def RV (n:Int):List (List (Int×Int))→Int
 | []=>0
 | r :: t=>if afb n [] r=0 then RV n t else afb n [] r
def U6 (gs:List (Int×Int)) (p:Int×Int):Int:=((gs.filter (· == p)).length:Nat)
def Qe (tw:Bool) (gs:List (Int×Int)) (a b:Int):Bool:=if tw=true then U6 gs (a,b) == 1 && U6 gs (b,a) == 1 else U6 gs (a,b)+U6 gs (b,a) == 1
def vC (n:Nat) (tw:Bool) (gs:List (Int×Int)):Bool:=(List.range n).all fun a=>(List.range a).all fun b=>Qe tw gs a b
def Qg (n:Nat) (tw:Bool) (rows:List (List (Int×Int))):Int:=
 if (rows.length:Int)≠jh n tw then 3 else if RV n rows≠0 then RV n rows else if vC n tw rows.flatten=true then 0 else 8
theorem abY (gs:List (Int×Int)) (k:Nat) (h:k<gs.length):(flat gs)[k * 2]?=some (.int .i64 gs[k].1)∧(flat gs)[k * 2+1]?=some (.int .i64 gs[k].2):=by
 induction gs generalizing k with
 | nil=>simp at h
 | cons g t ih =>
  cases k with
  | zero=>exact ⟨rfl,rfl⟩
  | succ k =>
   have:=ih k (by simpa using h)
   have e:(k+1) * 2=k * 2+2:=by omega
   rw [e]
   exact this
end Go.Proofs.YteablcielclaeaaGreatDoor
namespace Go.Proofs.YteablcielclaeaaGreatDoor
set_option linter.unusedVariables false
def iU (n:Nat) (tw:Bool):List (List (Int×Int)):=(List.range (jh n tw).toNat).map fun r:Nat=>uI n r
def goM (code:Int×Int→Nat):List (Int×Int)→Nat→Option Nat
 | [],m=>some m
 | g :: t,m=>if m.testBit (code g)=true then none else goM code t (m ||| 1 <<< code g)
theorem U7 (code:Int×Int→Nat):∀ (gs:List (Int×Int)) (m m':Nat),goM code gs m=some m'→∀ c,gs.countP (fun g=>code g == c)+(if m.testBit c=true then 1 else 0)=if m'.testBit c=true then 1 else 0:=by
 intro gs
 induction gs with
 | nil=>intro m m' h c; simp [goM] at h; subst h; simp
 | cons g t ih =>
  intro m m' h c
  unfold goM at h
  split at h
  ·cases h
  ·rename_i hm
   have:=ih _ _ h c
   rw [← this,List.countP_cons]
   have hb:(m ||| 1 <<< code g).testBit c=(m.testBit c || (code g == c)):=by
    rw [Nat.testBit_or,Nat.one_shiftLeft,Nat.testBit_two_pow]
    rfl
   rw [hb]
   by_cases hc:code g=c
   ·subst hc
    simp [hm]
   ·simp [hc]
def Nu (g:Int×Int):Nat:=if g.1<g.2 then g.2.toNat * 32+g.1.toNat else g.1.toNat * 32+g.2.toNat
def RX (g:Int×Int):Nat:=g.1.toNat * 32+g.2.toNat
def ada (n:Nat) (tw:Bool) (m:Nat):Bool:=(List.range n).all fun a=>(List.range a).all fun b=>m.testBit (a * 32+b) && (!tw || m.testBit (b * 32+a))
def Jy (n:Nat) (tw:Bool):Bool:=RV n (iU n tw) == 0 && match goM (if tw=true then RX else Nu) (iU n tw).flatten 0 with | some m=>ada n tw m | none=>false
theorem rW (gs:List (Int×Int)) (p:Int×Int):U6 gs p=((gs.countP fun g=>g == p:Nat):Int):=by
 unfold U6; rw [List.countP_eq_length_filter]
theorem Fp (n:Nat) (tw:Bool) (gs:List (Int×Int)) (hn:n≤32) (hg:∀ g∈gs,0≤g.1∧g.1<n∧0≤g.2∧g.2<n∧g.1≠g.2) (m:Nat) (h:goM (if tw=true then RX else Nu) gs 0=some m) (hf:ada n tw m=true):vC n tw gs=true:=by
 unfold vC
 rw [List.all_eq_true]
 intro a ha
 rw [List.all_eq_true]
 intro b hb
 have ha':=List.mem_range.1 ha
 have hb':=List.mem_range.1 hb
 have hbit:=List.all_eq_true.1 (List.all_eq_true.1 hf a ha) b hb
 have hs:=U7 _ gs 0 m h
 cases tw
 ·simp only [Bool.false_eq_true,if_false] at hs
  have h1:=hs (a * 32+b)
  simp at hbit h1
  rw [hbit] at h1
  simp only [if_true] at h1
  unfold Qe
  rw [if_neg (by simp),rW,rW]
  have key:∀ l:List (Int×Int),(∀ g∈l,0≤g.1∧g.1<n∧0≤g.2∧g.2<n∧g.1≠g.2)→l.countP (fun g=>Nu g == a * 32+b)=l.countP (fun g=>g == ((a:Int),(b:Int)))+l.countP (fun g=>g == ((b:Int),(a:Int))):=by
   intro l
   induction l with
   | nil=>intro _; rfl
   | cons g t ih =>
    intro hl
    have hg':=hl g (by simp)
    rw [List.countP_cons,List.countP_cons,List.countP_cons,ih (fun x hx=>hl x (by simp [hx]))]
    obtain ⟨x,y⟩:=g
    simp only at hg'
    have e1:(Nu (x,y) == a * 32+b)=((x,y) == ((a:Int),(b:Int)) || (x,y) == ((b:Int),(a:Int))):=by
     rw [Bool.eq_iff_iff]
     simp only [beq_iff_eq,Bool.or_eq_true,Prod.mk.injEq,Nu]
     split <;> omega
    have e2:¬ (((x,y) == ((a:Int),(b:Int)))=true∧((x,y) == ((b:Int),(a:Int)))=true):=by
     simp only [beq_iff_eq,Prod.mk.injEq]; omega
    rw [e1]
    cases hx:((x,y) == ((a:Int),(b:Int))) <;> cases hy:((x,y) == ((b:Int),(a:Int))) <;> simp [hx,hy] at e2 ⊢ <;> omega
  have:=key gs hg
  simp
  omega
 ·simp only [if_true] at hs
  have key:∀ (p q:Nat),p<32→q<32→gs.countP (fun g=>RX g == p * 32+q)=gs.countP (fun g=>g == ((p:Int),(q:Int))):=by
   intro p q hp hq
   apply List.countP_congr
   intro g hg1
   have:=hg g hg1
   obtain ⟨x,y⟩:=g
   simp only [beq_iff_eq,Prod.mk.injEq,RX] at this ⊢
   omega
  simp at hbit
  have h1:=hs (a * 32+b)
  have h2:=hs (b * 32+a)
  rw [hbit.1] at h1
  rw [hbit.2] at h2
  rw [key a b (by omega) (by omega)] at h1
  rw [key b a (by omega) (by omega)] at h2
  simp at h1 h2
  unfold Qe
  rw [if_pos rfl,rW,rW]
  simp
  omega
theorem abZ (n:Nat) (tw:Bool) (h0:2≤n) (h1:n≤32):∀ g∈(iU n tw).flatten,0≤g.1∧g.1<n∧0≤g.2∧g.2<n∧g.1≠g.2:=by
 intro g hg
 obtain ⟨l,hl,hgl⟩:=List.mem_flatten.1 hg
 obtain ⟨r,hr,rfl⟩:=List.mem_map.1 hl
 have hr':=List.mem_range.1 hr
 have:jh n tw≤62:=by unfold jh jg; split <;> omega
 exact Za n r h0 h1 (by omega) g hgl
theorem Zb (n:Nat) (tw:Bool) (h0:2≤n) (h1:n≤32):((iU n tw).length:Int)=jh n tw:=by
 have:1≤jh n tw:=by unfold jh jg; split <;> omega
 unfold iU; simp; omega
theorem Zc (n:Nat) (tw:Bool) (h0:2≤n) (h1:n≤32) (h:Jy n tw=true):Qg n tw (iU n tw)=0∧vC n tw (iU n tw).flatten=true:=by
 unfold Jy at h
 rw [Bool.and_eq_true,beq_iff_eq] at h
 obtain ⟨ha,hb⟩:=h
 have hp:vC n tw (iU n tw).flatten=true:=by
  split at hb
  ·rename_i m hm
   exact Fp n tw _ h1 (abZ n tw h0 h1) m hm hb
  ·cases hb
 refine ⟨?_,hp⟩
 unfold Qg
 rw [if_neg (by simpa using Zb n tw h0 h1),if_neg (by simpa using ha),if_pos hp]
theorem U8:((List.range 33).all fun n=>decide (n<2) || (Jy n true && Jy n false))=true:=by decide +kernel
theorem whole (n:Nat) (tw:Bool) (h0:2≤n) (h1:n≤32):Qg n tw (iU n tw)=0∧vC n tw (iU n tw).flatten=true:=by
 have h:=List.all_eq_true.1 U8 n (List.mem_range.2 (by omega))
 rw [Bool.or_eq_true,decide_eq_true_eq] at h
 have h3:=h.resolve_left (by omega)
 rw [Bool.and_eq_true] at h3
 refine Zc n tw h0 h1 ?_
 cases tw
 ·exact h3.2
 ·exact h3.1
end Go.Proofs.YteablcielclaeaaGreatDoor
namespace Go.Proofs.YteablcielclaeaaGreatDoor
open Go.ChangeShapes Go.WideShapes Go.ChangeAt Go.RowKit
set_option linter.unusedVariables false
open Go.Lib (hid)
theorem Zd {w:World} {b b':Nat} {e:TypeId} {sz n:Nat} {v:Value} {xs:List Value} (h:w.ownsRow b e sz v n xs) (hb:b'≤b):w.ownsRow b' e sz v n xs:=by
 refine ⟨h.1,?_⟩
 rcases h.2 with h0 | ⟨g,c,cur,hv,hg,r⟩
 ·exact .inl h0
 ·exact .inr ⟨g,c,cur,hv,by omega,r⟩
theorem own_below {w w':World} {b:Nat} {e:TypeId} {sz n:Nat} {v:Value} {xs:List Value} (h:w.ownsRow b e sz v n xs) (hb:Below w.heap.size w w'):w'.ownsRow b e sz v n xs:=
 h.kept (row:=none) ⟨hb.os,hb.tape,hb.output,hb.size,fun k hk _=>hb.block k hk⟩ (by rcases h.2 with ⟨rfl,_⟩ | ⟨g,c,cur,rfl,_⟩ <;> simp [Value.ownBlock])
def Made (w:World) (B:Nat) (v:Value) (vs:List Value) (rows:List (List (Int×Int))):Prop:=
 w.ownsRow B 29 1 v rows.length vs∧∀ j (h:j<rows.length),∃ u,vs[j]?=some u∧w.ownsRow B 31 2 u rows[j].length (flat rows[j])
def Ze (rows:List (List (Int×Int))) (w:World) (e:Ending) (w':World):Prop:=
 ∃ v vs,e=.returned (.tuple #[v,.int .i64 0])∧Made w' w.heap.size v vs rows∧Below w.heap.size w w'
theorem info30:(Tryz.prog.info? 29).map (fun i=>(i.zero,i.size,i.bytes))=some (some (.slice none 0 0),1,24):=by kernel_rfl
theorem afc (n:Int) (tw:Bool) (w:World) (h:n<2∨32<n) :
  Calls Tryz.prog 6 #[.int .i64 n,.bool tw] w fun e w'=>e=.returned (.tuple #[.slice none 0 0,.int .i64 4])∧w=w':=by
 have H:=hid h
 clear h
 go_enter Tryz.func6,Tryz.ntmps6
 go_wp2_with fail
 refine (U2 n tw _ H.out).mono ?_
 rintro e w' ⟨rfl,rfl⟩
 go_wp2
 go_ret2
 exact ⟨rfl,rfl⟩
theorem Made.step {w w1 w2:World} {B:Nat} {v v' u:Value} {vs:List Value} {rows:List (List (Int×Int))} {row:List (Int×Int)} (o:Obj) (h:Made w B v vs rows) (hb1:Below w.heap.size w w1) (hu:w1.ownsRow B 31 2 u row.length (flat row))
  (hown:w2.ownsRow B 29 1 v' (rows.length+1) (vs++[u])) (hg:(w1.alloc o).grownBy w2 v.ownBlock):Made w2 B v' (vs++[u]) (rows++[row]):=by
 have hv1:=(own_below h.1 hb1).alloc o
 have hvl:vs.length=rows.length:=by have:=h.1.1; omega
 refine ⟨by simpa using hown,fun j hj=>?_⟩
 rcases Nat.lt_or_ge j rows.length with hlt | hge
 ·obtain ⟨x,hx,hox⟩:=h.2 j hlt
  refine ⟨x,by rw [List.getElem?_append_left (by omega)]; exact hx,?_⟩
  have:=(own_below hox hb1).alloc o
  rw [List.getElem_append_left hlt]
  exact this.kept hg (own_ne this hv1 (by decide))
 ·have:j=rows.length:=by simp at hj; omega
  subst this
  refine ⟨u,by rw [List.getElem?_append_right (by omega),hvl]; simp,?_⟩
  rw [List.getElem_append_right (by omega)]
  simp only [Nat.sub_self,List.getElem_cons_zero]
  have:=hu.alloc o
  exact this.kept hg (own_ne this hv1 (by decide))
set_option maxHeartbeats 1000000 in
theorem afd (n:Nat) (tw:Bool) (w:World) (h0:2≤n) (h1:n≤32) :
  Calls Tryz.prog 6 #[.int .i64 n,.bool tw] w (Ze (iU n tw) w):=by
 obtain ⟨i0,hi,hz0,hz1,hz2⟩:=info_parts info30
 have hk:1≤jh n tw∧jh n tw≤62:=by unfold jh jg; split <;> omega
 have HA:Hid (iU n tw=(List.range (jh n tw).toNat).map fun r:Nat=>uI n r):=hid rfl
 go_enter Tryz.func6,Tryz.ntmps6
 go_wp2_with fail
 refine (U1 n tw _ (by omega) (by omega)).mono ?_
 rintro e w' ⟨rfl,rfl⟩
 generalize jh n tw=KI at *
 obtain ⟨K,rfl⟩:∃ K:Nat,KI=(K:Int):=⟨KI.toNat,by omega⟩
 rw [Int.toNat_natCast] at HA
 go_wp2_with fail
 go_loopw [8,20] (fun v i wr=>∃ r:Nat,r≤K∧i=.int .i64 r∧Hid (∃ vs,Made wr w.heap.size v vs ((List.range r).map fun r:Nat=>uI n r))∧Below w.heap.size w wr) (fun _ i _=>K - (intOf i).toNat)
 case atStart=>exact ⟨0,by omega,rfl,hid ⟨[],World.ownsRow_nil _ _ _ _,fun j h=>by simp at h⟩,Below.refl _ _⟩
 case round =>
  obtain ⟨r,hr,rfl,HM,hbl⟩:=hrel
  by_cases hlt:r<K
  ·have hsz:=hbl.size
   go_wp2_with fail
   refine (U5 n r _ (by omega) (by omega) (by omega) (by omega)).mono ?_
   rintro e w1 ⟨u,rfl,hown,hb1⟩
   obtain ⟨vs,hm⟩:=HM.out
   have hlen:(List.map (fun r:Nat=>uI n r) (List.range r)).length=r:=by simp
   have hv1:=own_below hm.1 hb1
   rw [hlen] at hv1
   have hu1:=Zd hown (show w.heap.size≤wr.heap.size+2 by omega)
   have hsz1:=hb1.size
   have yt:Below w.heap.size w w1:=hbl.trans (hb1.mono hsz)
   obtain ⟨ua,un,uc,rfl⟩:∃ a n c,u=.slice a n c:=by
    rcases hown.2 with ⟨h,_⟩ | ⟨g,c,_,h,_⟩
    ·exact ⟨_,_,_,h⟩
    ·exact ⟨_,_,_,h⟩
   have Hm:=hid hm
   have Hu:=hid hu1
   clear hm hown hu1
   go_wp2_with (at_builtin; go_loud (refine wpList_append_own _ rfl _ _ 24 rfl w.heap.size 29 i0 (.slice none 0 0) 1 24 Tryz.underlying24 hi hz0 hz1 hz2 rfl (by decide) _ r vs rfl (hv1.alloc _) ⟨w1.heap.size,0,none⟩ 1 1 [.slice ua un uc] rfl rfl (cell_one_new _ _ _) ?c2 ?c3 ?c4 ?c5 ?_))
   case c2=>intro x hx; simp at hx; rw [hx]; rfl
   case c3=>unfold maxLen; omega
   case c4=>omega
   case c5=>simp; omega
   intro v' w2 hown' hgrow _
   have uS:=hid (Made.step _ Hm.out hb1 Hu.out (by rw [hlen]; exact hown') hgrow)
   have CY:Below w.heap.size w w2:=Below.grown (yt.alloc (by omega) _) hgrow (by simp; omega) (fun k hk=>(hv1.lt k hk).1)
   clear hown' hgrow hv1 Hm Hu hb1 HM
   go_wp2_with fail
   go_roundw
   case rel=>exact ⟨r+1,by omega,by go_num,hid ⟨_,by rw [List.range_succ,List.map_append]; exact uS.out⟩,CY⟩
   case measure=>simp [intOf]; omega
  ·obtain rfl:r=K:=by omega
   go_wp2_with fail
   go_ret2
   obtain ⟨vs,hm⟩:=HM.out
   exact ⟨_,vs,rfl,by rw [HA.out]; exact hm,hbl⟩
def tab:List Int:=[4,11,18,26,33,40,47,54,62,69,77,84,92,99,107,114,122,130,138,146,154,163,171,180,189,198,207,216,226,236,246,257,268,279,291,303,316,329,345,358,375,392]
def Ey (d p:Int):Int:=if 100 * p≤d then 1 else if d≤-100 * p then -1 else 0
def uJ (d:Int) (l:List Int):Int:=(l.map (Ey d)).sum
def expect (d:Int):Int:=50+uJ d tab
theorem U9 (d p:Int) (l:List Int):uJ d (l++[p])=uJ d l+Ey d p:=by
 unfold uJ; simp
theorem ab1 (d p:Int) : -1≤Ey d p∧Ey d p≤1:=by
 unfold Ey; split <;> (try split) <;> omega
theorem Zf (d:Int) (l:List Int) : -(l.length:Int)≤uJ d l∧uJ d l≤l.length:=by
 induction l with
 | nil=>simp [uJ]
 | cons a t ih=>have:=ab1 d a; simp only [uJ,List.map_cons,List.sum_cons,List.length_cons] at *; omega
theorem Zg (k:Nat) (h:k<42):tab.take (k+1)=tab.take k++[tab.getD k 0]:=by
 have hl:k<tab.length:=h
 rw [List.take_succ_eq_append_getElem hl]; simp [List.getD,List.getElem?_eq_getElem hl]
theorem Zh (k:Nat) (hk:k<42):tab[k]?=some (tab.getD k 0):=by
 have hl:k<tab.length:=hk
 rw [List.getD_eq_getElem?_getD,List.getElem?_eq_getElem hl]; rfl
theorem aiP (k:Nat):0≤tab.getD k 0∧tab.getD k 0≤392:=by
 by_cases h:k<42
 ·have:∀ x∈tab,0≤x∧x≤392:=by decide
  have hl:k<tab.length:=h
  rw [List.getD_eq_getElem?_getD,List.getElem?_eq_getElem hl]; exact this _ (List.getElem_mem hl)
 ·rw [List.getD_eq_getElem?_getD,List.getElem?_eq_none (by simpa [tab] using h)]; simp
theorem Nv (d:Int):8≤expect d∧expect d≤92:=by
 have:=Zf d tab; have e:tab.length=42:=rfl; rw [e] at this; unfold expect; omega
set_option maxRecDepth 100000 in
theorem idx (k:Nat) (hk:k<42) (w:World):(Instr.index 293 (.agg #[.int .i64 4,.int .i64 11,.int .i64 18,.int .i64 26,.int .i64 33,.int .i64 40,.int .i64 47,.int .i64 54,.int .i64 62,.int .i64 69,.int .i64 77,.int .i64 84,.int .i64 92,.int .i64 99,.int .i64 107,.int .i64 114,.int .i64 122,.int .i64 130,.int .i64 138,.int .i64 146,.int .i64 154,.int .i64 163,.int .i64 171,.int .i64 180,.int .i64 189,.int .i64 198,.int .i64 207,.int .i64 216,.int .i64 226,.int .i64 236,.int .i64 246,.int .i64 257,.int .i64 268,.int .i64 279,.int .i64 291,.int .i64 303,.int .i64 316,.int .i64 329,.int .i64 345,.int .i64 358,.int .i64 375,.int .i64 392]) (.int .i64 (k:Int))).run Tryz.prog w=.ok (.int .i64 (tab.getD k 0)) w:=
 pY (P:=Tryz.prog) (tab.map (Value.int .i64)).toArray (k:Int) (.int .i64 (tab.getD k 0)) w Tryz.underlying293 (by kernel_rfl) (by kernel_rfl) (by omega) (by omega) (by
  rw [Int.toNat_natCast,List.getElem?_toArray,List.getElem?_map,Zh k hk]; rfl)
set_option maxHeartbeats 400000 in
theorem Qh (d:Int) (w:World) (h1 : -9223372036854775808≤d) (h2:d≤9223372036854775807) :
  Calls Tryz.prog 157 #[.int .i64 d] w fun e w'=>e=.returned (.int .i64 (expect d))∧w=w':=by
 go_enter Tryz.func157,Tryz.ntmps157
 go_wp2
 go_loop [3,7] (fun n i=>∃ k:Nat,k≤42∧i=.int .i64 k∧n=.int .i64 (50+uJ d (tab.take k))) (fun _ i=>42 - (intOf i).toNat)
 case atStart=>exact ⟨0,Nat.zero_le _,rfl,rfl⟩
 case round =>
  obtain ⟨k,hk,rfl,rfl⟩:=hrel
  have hb:=Zf d (tab.take k)
  have hl:(tab.take k).length≤k:=List.length_take_le _ _
  by_cases hlt:k<42
  ·have hi:=fun w=>idx k hlt w
   have hp:=aiP k
   have HS:Hid (uJ d (tab.take (k+1))=uJ d (tab.take k)+Ey d (tab.getD k 0)):=by rw [Zg k hlt]; exact U9 _ _ _
   generalize tab.getD k 0=p at *
   go_wp2
   all_goals
    go_round
    case rel=>exact ⟨k+1,by omega,by go_num,by
     rw [HS.out]; unfold Ey
     first | (rw [if_pos (by omega)]; go_num) | (rw [if_neg (by omega),if_pos (by omega)]; go_num) | (rw [if_neg (by omega),if_neg (by omega)]; go_num)⟩
    case measure=>simp [intOf]; omega
  ·go_wp2
   go_ret
   exact ⟨by rw [List.take_of_length_le (by simp [tab]; omega)]; rfl,rfl⟩
end Go.Proofs.YteablcielclaeaaGreatDoor

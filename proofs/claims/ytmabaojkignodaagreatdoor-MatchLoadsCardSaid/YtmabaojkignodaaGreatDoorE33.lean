/- LdA, LdB, MaPo, RfA, RfB, RfC, RfD, MaX, MaY, RfE. -/
import Derived.Test.YtmabaojkignodaaGreatDoorE32
import Derived.Lib.Small
namespace Go.Proofs.YtmabaojkignodaaGreatDoor
open Go.ChangeShapes Go.WideShapes Go.ChangeAt Go.RowKit
set_option linter.unusedVariables false
set_option maxHeartbeats 8000000
set_option maxRecDepth 100000
open Go.Lib (hid)
def LY (base:Nat) (w:World):Prop:=∃ (g:Nat) (m:Int),Tryz.prog.globalNamed "internal/bytealg.MaxLen" = some g∧g<base∧w.cell? ⟨g,0,none⟩=some (.int .i64 m)
theorem LY.below {base:Nat} {w w':World} (h:LY base w) (hb:Below base w w'):LY base w':=by
 obtain ⟨g,m,hg,hl,hc⟩:=h
 exact ⟨g,m,hg,hl,by rw [hb.cell (p:=⟨g,0,none⟩) hl]; exact hc⟩
theorem LY.mono {base base':Nat} {w:World} (h:LY base w) (hb:base≤base'):LY base' w:=by
 obtain ⟨g,m,hg,hl,hc⟩:=h
 exact ⟨g,m,hg,Nat.lt_of_lt_of_le hl hb,hc⟩
def Ot:ByteArray:=⟨#[32]⟩
def SplitSaid:Prop:=∀ (s:ByteArray) (w:World),s.size≤1000→LY w.heap.size w →
 Calls Tryz.prog 105 #[.string s,.string Ot] w fun e w'=>∃ v,e=.returned v∧w'.ownsRow w.heap.size 9 1 v (Lib.splitB Ot 0 (Lib.countB s Ot) s).length (nN (Lib.splitB Ot 0 (Lib.countB s Ot) s))∧Below w.heap.size w w'
def AtoiSaid:Prop:=∀ (s:ByteArray) (n:Int) (w:World),s.size≤1000→Lib.atoiAll s.data.toList=.ok n →
 Calls Tryz.prog 104 #[.string s] w fun e w'=>e=.returned (.tuple #[.int .i64 n,.nilIface])∧Below w.heap.size w w'
def CutPSaid:Prop:=∀ (s p:ByteArray) (w:World),Calls Tryz.prog 53 #[.string s,.string p] w fun e w' =>
 e=.returned (.tuple #[.string ⟨(Lib.trimPrefix s.data.toList p.data.toList).toArray⟩,.bool (Lib.hasPrefix s.data.toList p.data.toList)])∧Below w.heap.size w w'
theorem S9 (s:ByteArray):(s.toList == s.toList)=true:=by simp
theorem BI (HI:ItoaSaid) (HA:AtoiSaid) (n:Int) (w:World) (h0 : -9223372036854775808≤n) (h1:n≤9223372036854775807) (ht:Tab w.heap.size w) :
  Calls Tryz.prog 54 #[.string (vF n)] w fun e w'=>e=.returned (.tuple #[.int .i64 n,.bool true])∧Below w.heap.size w w':=by
 have HIt:=hid HI
 have HT:=hid ht
 have HC:=hid (HA (vF n) n w (by have:=Ky n h0 h1; omega) (Oq n h0 h1))
 have HN:=hid (And.intro h0 h1)
 have HE:Hid (((vF n).toList == (vF n).toList)=true):=hid (S9 _)
 clear HI HA ht h0 h1
 go_enter Tryz.func54,Tryz.ntmps54
 go_wp2_with fail
 refine HC.out.mono ?_
 rintro e w1 ⟨rfl,hb1⟩
 have HB1:=hid hb1
 have HT1:=hid (HT.out.mono hb1.size hb1)
 clear hb1 HC HT
 go_wp2_with fail
 refine (HIt.out n w1 HN.out.1 HN.out.2 HT1.out.1).mono ?_
 rintro e w2 ⟨rfl,hb2⟩
 have HB2:=hid (HB1.out.trans (hb2.mono HB1.out.size))
 rw [show (⟨(Lib.itoa n).toArray⟩:ByteArray)=vF n from rfl]
 have hEq:=HE.out
 generalize vF n=tx at *
 clear hb2 HE
 go_wp2_with fail
 go_ret2
 exact ⟨rfl,HB2.out⟩
def yB (l:List Int) (k:Nat):List Value:=(l.take k).map (Value.int .i64)++List.replicate (7 - k) (.int .i64 0)
theorem WE (l:List Int) (k:Nat) (hl:l.length=7) (hk:k<7):(yB l k)[k]?=some (.int .i64 0):=by
 unfold yB
 have h1:((l.take k).map (Value.int .i64)).length=k:=by simp; omega
 rw [List.getElem?_append_right (by omega),h1,Nat.sub_self,List.getElem?_replicate,if_pos (by omega)]
theorem Tc (l:List Int) (k:Nat) (hl:l.length=7) (hk:k<7):(yB l k).set k (.int .i64 (l.getD k 0))=yB l (k+1):=by
 unfold yB
 have h1:((l.take k).map (Value.int .i64)).length=k:=by simp; omega
 rw [List.set_append_right _ _ (by omega),h1,Nat.sub_self,show 7 - k=(7 - (k+1))+1 by omega,List.replicate_succ,List.set_cons_zero,List.take_succ_eq_append_getElem (by omega),List.map_append,List.append_assoc,List.getD_eq_getElem?_getD,List.getElem?_eq_getElem (by omega)]
 rfl
theorem Td (l:List Int) (hl:l.length=7):yB l 7=l.map (Value.int .i64):=by unfold yB; rw [List.take_of_length_le (by omega)]; simp
theorem uj (HI:ItoaSaid) (HA:AtoiSaid) (HSp:SplitSaid) (ev:iY) (w:World) (hok:wW ev) (ht:Tab w.heap.size w) (hm:LY w.heap.size w) :
  Calls Tryz.prog 55 #[.string (bV ev)] w fun e w'=>e=.returned (.tuple #[.agg #[.int .i64 ev.kind,.int .i64 ev.au,.int .i64 ev.n,.int .i64 ev.now,.int .i64 ev.m.src,.int .i64 ev.m.dst,.int .i64 ev.m.piece],.int .i64 0])∧Below w.heap.size w w':=by
 have HIt:=hid HI
 have HAt:=hid HA
 have afD:=hid HSp
 have HO:=hid hok
 have HT:=hid ht
 have HM:=hid hm
 have HSz:Hid ((bV ev).size≤1000):=hid (by have:=qJ ev (lH hok); omega)
 obtain ⟨hq1,hq2⟩:=Iy ev
 have HQ1:=hid hq1
 have HQ2:=hid hq2
 generalize bV ev=tx at *
 clear HI HA HSp hok ht hm hq1 hq2
 go_enter Tryz.func55,Tryz.ntmps55
 go_upto_region 1 with (fail)
 refine lM fun w0 jU dM hs_=>?_
 have jy:=hid jU
 have HB0:=hid dM
 clear hs_ jU dM
 go_wp2_with fail
 refine (afD.out tx w0 HSz.out ((HM.out.below HB0.out).mono HB0.out.size)).mono ?_
 rintro e w1 ⟨v1,rfl,ho1,hb1⟩
 rw [show Lib.countB tx Ot=6 from HQ1.out,show Lib.splitB Ot 0 6 tx=(mP ev).map vF from HQ2.out] at ho1
 have HB1:=hid (HB0.out.trans (hb1.mono HB0.out.size))
 have gW:=hid (jy.out.stays hb1)
 have HT1:=hid (HT.out.mono HB1.out.size HB1.out)
 rw [show ((mP ev).map vF).length=7 from rfl] at ho1
 have hbz:w.heap.size<w0.heap.size:=jy.out.lt
 rcases (Rd.fD ho1).2 with ⟨_,h0⟩ | ⟨g,o,c,rfl,hn7,hcm,hcell⟩
 ·cases h0
 have HCl:Hid (∀ k,k<7→w1.cell? ⟨g,o+k,none⟩=some (.string (vF ((mP ev).getD k 0)))):=hid (fun k hk=>by
  rw [hcell k (by omega)]
  unfold nN
  rw [List.getElem?_map,List.getElem?_map,List.getD_eq_getElem?_getD,List.getElem?_eq_getElem (show k<(mP ev).length from hk)]; rfl)
 have hgl:g<w1.heap.size:=World.block_lt_of_cell? w1 _ (HCl.out 0 (by omega))
 unfold maxLen at hcm
 clear ho1 hb1 jy HB0 HQ1 HQ2 hcell
 have ht7:(((7:Nat):Int) != 7)=false:=by decide
 go_wp2_with fail
 have HA0:Hid (Box (w1.alloc (.cells #[.int .i64 0,.int .i64 0,.int .i64 0,.int .i64 0,.int .i64 0,.int .i64 0,.int .i64 0] 202)) w1.heap.size (yB (mP ev) 0) 202):=hid (Box.new w1 (yB (mP ev) 0) 202)
 have Qa:=hid ((Below.refl w1.heap.size w1).alloc (Nat.le_refl _) (.cells #[.int .i64 0,.int .i64 0,.int .i64 0,.int .i64 0,.int .i64 0,.int .i64 0,.int .i64 0] 202))
 generalize (w1.alloc (.cells #[.int .i64 0,.int .i64 0,.int .i64 0,.int .i64 0,.int .i64 0,.int .i64 0,.int .i64 0] 202))=w2 at *
 have VT:Hid ((mP ev).length=7):=hid rfl
 go_loopw [17,6,7,8] (fun v17 v6 v7 v8 wr=>∃ (k:Nat) (o6 o7 o8:Value),o6=v6∧o7=v7∧o8=v8∧k≤7∧v17=.int .i64 k∧Hid (Box wr w1.heap.size (yB (mP ev) k) 202)∧Hid (Below w1.heap.size w1 wr)) (fun v _ _ _ _=>7 - (intOf v).toNat)
 case atStart=>exact ⟨0,_,_,_,rfl,rfl,rfl,Nat.zero_le _,rfl,HA0,Qa⟩
 clear HA0 Qa
 case round =>
  obtain ⟨k,o6,o7,o8,rfl,rfl,rfl,hk,rfl,HAr,bC⟩:=hrel
  by_cases hlt:k<7
  ·have Uy:(k:Int)<7:=by omega
   have Wh:=hid hlt
   have ck:wr.cell? ⟨g,o+k,none⟩=some (.string (vF ((mP ev).getD k 0))):=(bC.out.cell (p:=⟨g,o+k,none⟩) hgl).trans (HCl.out k hlt)
   have HX:Hid (-9223372036854775808≤(mP ev).getD k 0∧(mP ev).getD k 0≤9223372036854775807):=hid (HO.out _ (by rw [List.getD_eq_getElem?_getD,List.getElem?_eq_getElem (show k<(mP ev).length from hlt)]; exact List.getElem_mem _))
   have MF:Hid ((yB (mP ev) k).set k (.int .i64 ((mP ev).getD k 0))=yB (mP ev) (k+1)):=hid (Tc _ _ VT.out hlt)
   have afE:Hid ((yB (mP ev) k)[k]?=some (.int .i64 0)):=hid (WE _ _ VT.out hlt)
   have XB:=hid (HT1.out.mono bC.out.size bC.out)
   generalize (mP ev).getD k 0=x at *
   have HNu:=hid (BI HIt.out HAt.out x wr HX.out.1 HX.out.2 XB.out)
   clear hlt
   go_wp2_with fail
   refine HNu.out.mono ?_
   rintro e w3 ⟨rfl,hb3⟩
   have HA3:=hid (HAr.out.stays hb3)
   have HB3:=hid (aj bC.out hb3 bC.out.size)
   have cs:=HA3.out.cell k afE.out
   have cf:=HA3.out.frozen k
   clear hb3 HAr HNu XB ck
   go_wp2_with fail
   refine ⟨⟨k+1,_,_,_,rfl,rfl,rfl,by have:=Wh.out; omega,by go_num,hid (by rw [← MF.out]; exact HA3.out.set k _),hid (HB3.out.setCell (p:=⟨w1.heap.size,k,none⟩) (Nat.le_refl _) _)⟩,?_⟩
   have:=Wh.out
   simp [intOf]; omega
  obtain rfl:k=7:=by omega
  have Uy:¬ ((7:Nat):Int)<7:=by decide
  have XC:Hid (Box wr w1.heap.size ((mP ev).map (Value.int .i64)) 202):=hid (by rw [← Td _ VT.out]; exact HAr.out)
  have c0:wr.cell? ⟨w1.heap.size,0,none⟩=some (.int .i64 ev.kind):=XC.out.cell 0 rfl
  have c1:wr.cell? ⟨w1.heap.size,1,none⟩=some (.int .i64 ev.au):=XC.out.cell 1 rfl
  have c2:wr.cell? ⟨w1.heap.size,2,none⟩=some (.int .i64 ev.n):=XC.out.cell 2 rfl
  have c3:wr.cell? ⟨w1.heap.size,3,none⟩=some (.int .i64 ev.now):=XC.out.cell 3 rfl
  have c4:wr.cell? ⟨w1.heap.size,4,none⟩=some (.int .i64 ev.m.src):=XC.out.cell 4 rfl
  have c5:wr.cell? ⟨w1.heap.size,5,none⟩=some (.int .i64 ev.m.dst):=XC.out.cell 5 rfl
  have c6:wr.cell? ⟨w1.heap.size,6,none⟩=some (.int .i64 ev.m.piece):=XC.out.cell 6 rfl
  have HEr:=hid (gW.out.stays bC.out)
  have afG:=hid (HB1.out.trans (bC.out.mono HB1.out.size))
  clear bC HAr XC
  go_upto_region 13 with (fail)
  refine wp_region_lit ?_
  iterate 16 (refine wpList_plain (by rfl) (fun K hK=>?_); go_simp; refine hK _ _ ?_; clear hK K; try simp only [Act.put,List.setIfInBounds_toArray,List.set_cons_zero,List.set_cons_succ])
  refine aT (vs:=[.int .i64 ev.kind,.int .i64 ev.au,.int .i64 ev.n,.int .i64 ev.now,.int .i64 ev.m.src,.int .i64 ev.m.dst,.int .i64 ev.m.piece]) (by rfl) 54 (.tmp 2) (.tmp 48) (by rfl) (w.heap.size) (by rfl) (by rfl) HEr.out rfl (by kernel_rfl) (by rfl) ?_
  have RP:=hid (HEr.out.store (vs:=[.int .i64 ev.kind,.int .i64 ev.au,.int .i64 ev.n,.int .i64 ev.now,.int .i64 ev.m.src,.int .i64 ev.m.dst,.int .i64 ev.m.piece]) rfl)
  have bI:=hid (below_setCells afG.out (Nat.le_refl _) 0 [.int .i64 ev.kind,.int .i64 ev.au,.int .i64 ev.n,.int .i64 ev.now,.int .i64 ev.m.src,.int .i64 ev.m.dst,.int .i64 ev.m.piece])
  refine pW ?_
  intro w9 e9
  rw [← e9] at RP bI
  clear e9
  go_wp2_with fail
  exact bodyPost_ret (fV rfl (by rfl) (by rfl) RP.out Tryz.underlying54 (by rfl) (by kernel_rfl)) rfl ⟨rfl,bI.out⟩
end Go.Proofs.YtmabaojkignodaaGreatDoor
namespace Go.Proofs.YtmabaojkignodaaGreatDoor
open Go.ChangeShapes Go.WideShapes Go.ChangeAt Go.RowKit
set_option linter.unusedVariables false
open Go.Lib (hid)
def aay (X:Nat→Prop) (M:aG) (w:World) (e:Ending) (w':World):Prop:=
 ∃ base S b B,e=.returned (.tuple #[.pointer (some ⟨b,0,none⟩),.int .i64 0])∧aH X S base w' b M B∧w.heap.size≤base∧base≤w'.heap.size∧Below w.heap.size w w'
structure LdS:Prop where
 so:SortMvSaid
 it:ItoaSaid
 jo:sO
 ai:AtoiSaid
 sp:SplitSaid
 cp:CutPSaid
theorem Ou:Lib.trimPrefix (iT 0).data.toList (⟨#[115,116,97,114,116,32]⟩:ByteArray).data.toList=(vF 0).data.toList∧Lib.hasPrefix (iT 0).data.toList (⟨#[115,116,97,114,116,32]⟩:ByteArray).data.toList=true:=by decide +kernel
theorem LZ {es:List iY} {J:List iL} {w:World} {a:Option Addr} {c:Nat} (h:zL w (.slice a J.length c) J) (hl:0<J.length):∃ g o,a=some ⟨g,o,none⟩∧g<w.heap.size∧J.length≤c∧c≤9223372036854775807∧∀ k (hk:k<J.length),w.cell? ⟨g,o+k * 2,none⟩=some (.string J[k].txt)∧w.cell? ⟨g,o+k * 2+1,none⟩=some (.int .u64 J[k].sum):=by
 obtain ⟨a',c',hv,h1,h2,hc⟩:=h.form
 injection hv with e1 e2 e3
 subst e1 e3
 obtain ⟨g,o,rfl,hg,h0⟩:=hc 0 hl
 refine ⟨g,o,rfl,hg,h1,by unfold maxLen at h2; exact h2,fun k hk=>?_⟩
 obtain ⟨g2,o2,he,_,hk2⟩:=hc k hk
 injection he with he
 injection he with he1 he2
 subst he1 he2
 exact hk2
set_option maxRecDepth 100000 in
set_option maxHeartbeats 16000000 in
theorem aaz (X:Nat→Prop) (HL:LdS) (R:aC) (CR:nJ) (vp vs ve:Value) (pa:Option Addr) (pc:Nat) (es:List iY) (vj:Value) (w:World) (hr:ru w R vp vs ve) (hnm:R.name.size≤maxLen) (hp:clk.dV w w.heap.size pa CR.ps.length CR.ps) (h1:CR.ps.length≤pc) (h2:pc≤maxLen)
  (hre:aW R=0) (hro:clk.cu CR.ps.length CR.inc CR.delay CR.ps) (hj:zL w vj (goes (dh R CR 0) es).jr) (hacc:nP (dh R CR 0) es) (hok:∀ e∈es,wW e) (hle:es.length≤60) (ht:Tab w.heap.size w) (hm:LY w.heap.size w) (hX:∀ k,X k→k<w.heap.size) :
  Calls Tryz.prog 15 #[.agg #[.string R.name,.int .i64 R.width,.int .i64 R.height,vp,vs,.bool R.falls,.bool R.keeps,ve,.int .i64 R.blocked,.int .i64 R.quiet,.int .i64 R.bF],.agg #[.slice pa CR.ps.length pc,.int .i64 CR.inc,.int .i64 CR.delay],vj] w (aay X (goes (dh R CR 0) es) w):=by
 have HS:=hid HL
 have HR:=hid hr
 have OG:=hid hnm
 have HP:=hid hp
 have iH:=hid (And.intro h1 h2)
 have HGd:=hid (And.intro hre hro)
 have nT:=hid ht
 have Uz:=hid hm
 have HXo:=hid hX
 have CX:=hid hok
 have akC:=hid hacc
 have I7:=hid hle
 have DV:=hid (yA hacc)
 obtain ⟨ja,jc,rfl,hj1,hj2,-⟩:=hj.form
 have HJt:Hid (∀ k (hk:k<es.length) (hk2:k+1<(goes (dh R CR 0) es).jr.length),(goes (dh R CR 0) es).jr[k+1].txt=bV es[k]):=hid (XA hacc)
 have Wi:Hid (∀ (hk:0<(goes (dh R CR 0) es).jr.length),(goes (dh R CR 0) es).jr[0].txt=iT 0):=hid (WC hacc)
 obtain ⟨J,hJ⟩:∃ J,(goes (dh R CR 0) es).jr=J:=⟨_,rfl⟩
 rw [hJ] at hj hj1 DV HJt Wi
 rw [hJ]
 have hcg:=xU.of hro
 have WG:Hid (∀ k,MInv (goes (dh R CR 0) (es.take k))∧(goes (dh R CR 0) (es.take k)).ms.length≤400∧(goes (dh R CR 0) (es.take k)).jr.length<90):=hid (fun k=>by
  obtain ⟨i1,i2⟩:=xg (es.take k) (dh R CR 0) (BG R CR 0 hnm hcg (by decide) (by decide)) (by rw [KD]; decide) (fun e he=>hok e (List.mem_of_mem_take he))
  refine ⟨i1,i2,?_⟩
  rw [yA (BH hacc k),List.length_take]
  omega)
 have MF:Hid (∀ k (hk:k<es.length),((goes (dh R CR 0) (es.take k)).go es[k]).2=0∧((goes (dh R CR 0) (es.take k)).go es[k]).1=goes (dh R CR 0) (es.take (k+1))):=hid (fun k hk=>⟨Za hacc k hk,(DX k hk).symm⟩)
 have hjo:OkJ J:=by have:=(WG.out es.length).1.jo; rw [List.take_of_length_le (Nat.le_refl _),hJ] at this; exact this
 have uP:Hid (goes (dh R CR 0) (es.take es.length)=goes (dh R CR 0) es):=hid (by rw [List.take_of_length_le (Nat.le_refl _)])
 obtain ⟨g,o,rfl,hg,Zc,Zd,hjr⟩:=LZ (es:=es) hj (by rw [DV.out]; omega)
 obtain ⟨d,rfl⟩:∃ d,jc=J.length+d:=⟨jc - J.length,by omega⟩
 have FT:Hid (∀ w1,Below w.heap.size w w1→Calls Tryz.prog 52 #[.slice (some ⟨g,o,none⟩) J.length (J.length+d)] w1 (zK 0 w1)):=hid (fun w1 hb=>Ii _ J w1 (hj.below hb (Nat.le_refl _)) hjo (by rw [DV.out]; omega))
 have HJr:Hid (∀ w1,Below w.heap.size w w1→∀ k (hk:k<J.length),w1.cell? ⟨g,o+k * 2,none⟩=some (.string J[k].txt)∧w1.cell? ⟨g,o+k * 2+1,none⟩=some (.int .u64 J[k].sum)):=hid (fun w1 hb k hk=>⟨(hb.cell (p:=⟨g,o+k * 2,none⟩) hg).trans (hjr k hk).1,(hb.cell (p:=⟨g,o+k * 2+1,none⟩) hg).trans (hjr k hk).2⟩)
 clear HL hr hnm hp h1 h2 hre hro ht hm hok hacc hle hj hjo hcg hJ hjr hj1 hj2
 have hj0:(J.length:Int)≠0:=by have:=DV.out; omega
 go_enter Tryz.func15,Tryz.ntmps15
 go_upto_region 1 with (fail)
 refine sV fun w0 jU DJ dM hs_=>?_
 have HX0:=hid jU
 have dn:=hid DJ
 have HB:=hid dM
 clear hs_ jU DJ dM
 go_wp2_with fail
 refine (FT.out w0 HB.out).mono ?_
 rintro e w1 ⟨rfl,hb1⟩
 have HB1:=hid (HB.out.trans (hb1.mono HB.out.size))
 have oC:=hid (HX0.out.stays hb1)
 have dZ:=hid (dn.out.stays hb1)
 have hJp:0<J.length:=by have:=DV.out; omega
 obtain ⟨a0,-⟩:=HJr.out w1 HB1.out 0 hJp
 rw [Wi.out hJp,Nat.zero_mul,Nat.add_zero] at a0
 have Ze:=Ou
 have HCp:=hid (HS.out.cp (iT 0) ⟨#[115,116,97,114,116,32]⟩ w1)
 rw [Ze.1,Ze.2] at HCp
 rw [show (⟨(vF 0).data.toList.toArray⟩:ByteArray)=vF 0 from rfl] at HCp
 have ab8:=hid (nT.out.mono HB1.out.size HB1.out)
 clear hb1 HX0 dn HB FT Ze
 generalize iT 0=t0 at *
 go_wp2_with fail
 refine HCp.out.mono ?_
 rintro e w2 ⟨rfl,hb2⟩
 have HB2:=hid (HB1.out.trans (hb2.mono HB1.out.size))
 have Ol:=hid (oC.out.stays hb2)
 have Om:=hid (dZ.out.stays hb2)
 have XD:=hid (nT.out.mono HB2.out.size HB2.out)
 clear hb2 oC dZ HB1 ab8 HCp a0
 go_wp2_with fail
 refine (BI HS.out.it HS.out.ai 0 w2 (by decide) (by decide) XD.out).mono ?_
 rintro e w3 ⟨rfl,hb3⟩
 have HB3:=hid (HB2.out.trans (hb3.mono HB2.out.size))
 have ab9:=hid (Ol.out.stays hb3)
 have acd:=hid (Om.out.stays hb3)
 have XE:=hid (nT.out.mono HB3.out.size HB3.out)
 clear hb3 Ol Om HB2 XD
 go_upto_region 10 with (fail)
 refine wp_region_lit ?_
 refine aB (by rfl) 46 (.tmp 3) (by rfl) (w.heap.size) (by rfl) ab9.out Tryz.underlying46 (by rfl) (by kernel_rfl) ?_
 refine aB (by rfl) 49 (.tmp 4) (by rfl) (w.heap.size+1) (by rfl) acd.out Tryz.underlying49 (by rfl) (by kernel_rfl) ?_
 go_wp2_with fail
 refine (aag X HS.out.so HS.out.it R CR vp vs ve pa pc 0 w3 (HR.out.below HB3.out (Nat.le_refl _)) OG.out (HP.out.below HB3.out) iH.out.1 iH.out.2 (by decide) (by decide) XE.out (fun k hk=>Nat.lt_of_lt_of_le (HXo.out k hk) HB3.out.size)).mono ?_
 rintro e w4 (⟨c,⟨_,hbad⟩,rfl,_⟩ | ⟨_,hcg,base,S0,b,B0,rfl,hm,hb0,hb1,hb4⟩)
 ·exact absurd HGd.out hbad
 have iZ:=hid hm
 have qg:=hid (And.intro (Nat.le_trans HB3.out.size hb0) hb1)
 have HB4:=hid (HB3.out.trans (hb4.mono HB3.out.size))
 clear hm hb0 hb1 hb4 ab9 acd XE HB3 hcg
 go_upto_region 13 with (fail)
 go_cut [2,58,59,60] (fun v2 v58 v59 v60 wx=>∃ A c2,v58=.slice A es.length c2∧(0<es.length→A=some ⟨g,o+2,none⟩)∧es.length≤c2∧v59=.int .i64 (es.length:Int)∧v60=.int .i64 0∧w4=wx)
 case first =>
  have hj1:1≤J.length:=hJp
  have hj3:1≤J.length+d:=by omega
  have hl2:=DV.out
  go_wp2_with fail
  all_goals (go_meet; first | exact ⟨_,_,rfl,fun hh=>absurd hh (by omega),by omega,rfl,rfl,rfl⟩ | exact ⟨_,_,rfl,fun _=>rfl,by omega,rfl,rfl,rfl⟩)
 obtain ⟨A,c2,rfl,hA,hc2,rfl,rfl,rfl⟩:=hcut
 clear hj0 Zc Zd hJp Wi
 go_wp2_with fail
 go_loopw [60,16,17,18,19] (fun v60 v16 v17 v18 v19 wr=>∃ (k:Nat) (S:Nat→Prop) (B:jv) (o16 o17 o18 o19:Value),o16=v16∧o17=v17∧o18=v18∧o19=v19∧k≤es.length∧v60=.int .i64 k∧Hid (aH X S base wr b (goes (dh R CR 0) (es.take k)) B)∧Hid (base≤wr.heap.size)∧Hid (Below w.heap.size w wr)) (fun v _ _ _ _ _=>es.length - (intOf v).toNat)
 case atStart=>exact ⟨0,S0,B0,_,_,_,_,rfl,rfl,rfl,rfl,Nat.zero_le _,rfl,iZ,hid qg.out.2,HB4⟩
 clear iZ HB4
 case round =>
  obtain ⟨k,S,B,o16,o17,o18,o19,rfl,rfl,rfl,rfl,hk,rfl,HM,HBs,bC⟩:=hrel
  by_cases hlt:k<es.length
  ·have Uy:(k:Int)<(es.length:Int):=by omega
   obtain rfl:=hA (by omega)
   have hk2:k+1<J.length:=by have:=DV.out; omega
   obtain ⟨a0,a1⟩:=HJr.out wr bC.out (k+1) hk2
   rw [HJt.out k hlt hk2,show o+(k+1) * 2=o+2+k * 2 by omega] at a0
   rw [show o+(k+1) * 2=o+2+k * 2 by omega] at a1
   obtain ⟨hs1,hs2⟩:=MF.out k hlt
   obtain ⟨hi1,hi2,hi3⟩:=WG.out k
   have hev:=CX.out es[k] (List.getElem_mem hlt)
   have XB:=hid (nT.out.mono bC.out.size bC.out)
   have HMr:=hid ((Uz.out.below bC.out).mono bC.out.size)
   generalize es[k]=x at *
   generalize J[k+1].sum=sm at *
   go_upto_region 16 with (fail)
   have gW:=hid (Box.new wr [.string (bV x),.int .u64 sm] 131)
   have HB1:=hid ((Below.refl wr.heap.size wr).alloc (Nat.le_refl _) (.cells #[.string (bV x),.int .u64 sm] 131))
   generalize (wr.alloc (.cells #[.string (bV x),.int .u64 sm] 131))=wA at *
   have e0:=gW.out.cell 0 rfl
   have HRd:=hid (uj HS.out.it HS.out.ai HS.out.sp x wA hev (XB.out.mono HB1.out.size HB1.out) ((HMr.out.below HB1.out).mono HB1.out.size))
   have Zf:=hid hev
   clear a0 a1 hev XB HMr
   generalize bV x=tx at *
   go_wp2_with fail
   refine HRd.out.mono ?_
   rintro e w5 ⟨rfl,hb5⟩
   have mW:=hid (HB1.out.trans (hb5.mono HB1.out.size))
   clear hb5 HB1 HRd e0 gW
   go_upto_region 17 with (fail)
   have CW:=hid (Box.new w5 [.int .i64 x.kind,.int .i64 x.au,.int .i64 x.n,.int .i64 x.now,.int .i64 x.m.src,.int .i64 x.m.dst,.int .i64 x.m.piece] 54)
   have zD:=hid (mW.out.trans (((Below.refl w5.heap.size w5).alloc (Nat.le_refl _) (.cells #[.int .i64 x.kind,.int .i64 x.au,.int .i64 x.n,.int .i64 x.now,.int .i64 x.m.src,.int .i64 x.m.dst,.int .i64 x.m.piece] 54)).mono mW.out.size))
   generalize (w5.alloc (.cells #[.int .i64 x.kind,.int .i64 x.au,.int .i64 x.n,.int .i64 x.now,.int .i64 x.m.src,.int .i64 x.m.dst,.int .i64 x.m.piece] 54))=w6 at *
   have OM:=hid (HM.out.below zD.out)
   have e0:=CW.out.cell 0 rfl
   have e1:=CW.out.cell 1 rfl
   have e2:=CW.out.cell 2 rfl
   have e3:=CW.out.cell 3 rfl
   have e4:=CW.out.cell 4 rfl
   have e5:=CW.out.cell 5 rfl
   have e6:=CW.out.cell 6 rfl
   have hb6:base≤w6.heap.size:=Nat.le_trans HBs.out zD.out.size
   have KE:=hid (bC.out.trans (zD.out.mono bC.out.size))
   have OH:=hid (nT.out.mono qg.out.1 (KE.out))
   have UC:=hid (KA HS.out.so HS.out.it HS.out.jo x w6 OM.out hb6 hi1 hi3 OH.out Zf.out)
   rw [hs1,hs2] at UC
   clear CW mW HM hs1 hs2 hi1 hi2 hi3 OH Zf
   go_wp2_with fail
   refine UC.out.mono ?_
   rintro e w7 ⟨rfl,S7,B7,XF,hs7,Mc⟩
   have uD:=hid (KE.out.trans ((aH.base' OM.out Mc hb6).mono qg.out.1))
   have FK:=hid XF
   have HS7:=hid (Nat.le_trans hb6 Mc.size)
   have LP:k+1≤100000000:=by have:=I7.out; omega
   clear XF hs7 Mc UC e0 e1 e2 e3 e4 e5 e6 OM KE zD
   go_wp2_with fail
   refine ⟨⟨k+1,S7,B7,_,_,_,_,rfl,rfl,rfl,rfl,by omega,by go_num,FK,HS7,uD⟩,?_⟩
   simp [intOf]; omega
  obtain rfl:k=es.length:=by omega
  have Uy:¬ (es.length:Int)<(es.length:Int):=by omega
  rw [uP.out] at HM
  go_wp2_with fail
  go_ret2
  exact ⟨base,S,b,B,rfl,HM.out,qg.out.1,HBs.out,bC.out⟩
set_option maxRecDepth 100000 in
set_option maxHeartbeats 4000000 in
theorem IB {X S:Nat→Prop} {base b:Nat} {M:aG} {B:jv} (w:World) (h:aH X S base w b M B):Calls Tryz.prog 20 #[.pointer (some ⟨b,0,none⟩)] w fun e w'=>∃ vc v0 v1,e=.returned (.agg #[vc,v0,v1,.int .i64 (bn M.R M.ms).turn,.int .i64 (bn M.R M.ms).quiet])∧lu w.heap.size w' (bn M.R M.ms) vc v0 v1∧Below w.heap.size w w':=by
 have HM:=hid h
 have fH:=hid (Box.new w [.slice none 0 0,.slice none 0 0,.slice none 0 0,.int .i64 0,.int .i64 0] 78)
 have HLn:=hid ((Below.refl w.heap.size w).alloc (Nat.le_refl _) (.cells #[.slice none 0 0,.slice none 0 0,.slice none 0 0,.int .i64 0,.int .i64 0] 78))
 clear h
 go_enter Tryz.func20,Tryz.ntmps20
 go_upto_region 1 with (fail)
 generalize (w.alloc (.cells #[.slice none 0 0,.slice none 0 0,.slice none 0 0,.int .i64 0,.int .i64 0] 78))=w0 at *
 have iZ:=hid (HM.out.below HLn.out)
 have c14:=iZ.out.box.cell 14 rfl
 obtain ⟨up,us,ue,vl,vm,rows,hg⟩:=iZ.out.game
 have HG:=hid hg.plain
 clear hg
 go_wp2_with fail
 refine (iG w0 HG.out).mono ?_
 rintro e w2 ⟨c,c0,c1,rfl,ho2,hb2⟩
 obtain ⟨pa,pn,rfl⟩:=aI ho2.1
 obtain ⟨pa0,pn0,rfl⟩:=aI ho2.2.1
 obtain ⟨Ud,Ue,rfl⟩:=aI ho2.2.2.1
 have HB2:=hid (fH.out.stays hb2)
 have HL2:=hid (aj HLn.out hb2 HLn.out.size)
 have hz:=fH.out.lt
 have uw:=hid ho2
 clear hb2 ho2 c14
 go_wp2_with (refine aT (vs:=[.slice pa (bn M.R M.ms).cells.length pn,.slice pa0 (bn M.R M.ms).h0.length pn0,.slice Ud (bn M.R M.ms).h1.length Ue,.int .i64 (bn M.R M.ms).turn,.int .i64 (bn M.R M.ms).quiet]) (by rfl) 78 (.tmp 2) (.tmp 7) (by rfl) (w.heap.size) (by rfl) (by rfl) HB2.out rfl (by kernel_rfl) (by rfl) ?_)
 exact bodyPost_ret (dR rfl (by rfl) (HB2.out.store rfl) Tryz.underlying78 (by rfl) (by kernel_rfl)) rfl ⟨_,_,_,rfl,(uw.out.setCells hz 0 _).base (by have:=HLn.out.size; omega),below_setCells HL2.out (Nat.le_refl _) 0 _⟩
end Go.Proofs.YtmabaojkignodaaGreatDoor
namespace Go.Proofs.YtmabaojkignodaaGreatDoor
open Go.ChangeShapes Go.WideShapes Go.ChangeAt Go.RowKit
set_option linter.unusedVariables false
theorem Ov {X X' S:Nat→Prop} {base b:Nat} {w w1:World} {R:aC} {ms:List aN} {vp vs ve vl vm:Value} {rows:List lD} (h:gx.bP X S base w b R ms vp vs ve vl vm rows) (hf:Fr X w w1) (hd:∀ k,X k→¬ S k) (hX:∀ k,k<w.heap.size→X' k→X k):gx.bP X' S base w1 b R ms vp vs ve vl vm rows:=by
  have hS:∀ k,S k→w1.heap[k]?=w.heap[k]?:=fun k hk=>hf.block k (h.lo k hk).2 (fun hx=>hd k hx hk)
  have hH:∀ {D:World→Prop},gx.Held X S w D→gx.Held X' S w1 D:=fun hD w' hw=>hD w' ((hf.mono (fun k _ hk=>.inr hk)).trans hw (fun k hk h'=>by rcases h' with h' | h'; exact .inl h'; exact .inr (hX k hk h')))
  exact ⟨(hS b h.sb).trans h.box,h.sb,fun k hk=>⟨(h.lo k hk).1,Nat.lt_of_lt_of_le (h.lo k hk).2 hf.size⟩,hH h.rd,sQ h.ol (fun k hk=>hS k (h.sl k hk).1),h.mp,fun r hr=>hH (h.rw r hr),sQ h.om (fun k hk=>hS k (h.sm k hk).1),h.sl,h.sm,h.ap,h.lt,h.la,h.re⟩
theorem aH.Tf {X X' S:Nat→Prop} {base b:Nat} {w w1:World} {M:aG} {B:jv} (h:aH X S base w b M B) (hf:Fr X w w1) (hb:¬ X b) (hX:∀ k,X' k→k<w1.heap.size∧(w.heap.size≤k∨X k)):aH X' S base w1 b M B:=by
  obtain ⟨up,us,ue,vl,vm,rows,hg⟩:=h.game
  have hlo:=hg.lo
  have hff:Fr (out1 X b) w w1:=hf.mono (fun k _ hk=>.inr hk)
  have hXX:∀ k,k<w.heap.size→out1 X' b k→out1 X b k:=fun k hk hx=>by
    rcases hx with hx | hx
    · exact .inl hx
    · rcases (hX k hx).2 with h1 | h1
      · omega
      · exact .inr h1
  refine ⟨(hf.block b h.box.lt hb).trans h.box,h.nb,h.lo,⟨_,_,_,_,_,_,Ov hg hff (fun k hx hk=>by rcases hx with hx | hx; (rw [hx] at hk; exact h.nb hk); exact (h.nx k hx).1 hk) hXX⟩,fun w' hw=>h.rd w' ((hff.mono (fun k _ hk=>.inr hk)).trans hw (fun k hk h'=>by rcases h' with h' | h'; exact .inl h'; exact .inr (hXX k hk h'))),fun k hk=>⟨fun hs=>?_,(hX k hk).1⟩⟩
  rcases (hX k hk).2 with h1 | h1
  · have:=(hlo k hs).2; omega
  · exact (h.nx k h1).1 hs
theorem aH.newX {X X' S:Nat→Prop} {base b:Nat} {w w1:World} {M:aG} {B:jv} (h:aH X S base w b M B) (hb:Below w.heap.size w w1) (hX:∀ k,X' k→k<w1.heap.size∧(w.heap.size≤k∨X k)) (hnb:¬ X b):aH X' S base w1 b M B:=h.Tf (Fr.jF hb) hnb hX
theorem aH.pok {X S:Nat→Prop} {base b:Nat} {w:World} {M:aG} {B:jv} (h:aH X S base w b M B):nV M.R M.pos:=by
  obtain ⟨up,us,ue,vl,vm,rows,hg⟩:=h.game
  exact hg.Ub
structure qX where
  M:aG
  now:Int
  ma:Option Addr
  mc:Nat
  qa:Option Addr
  qc:Nat
  vc:Value
  v0:Value
  v1:Value
def fC (x:qX):List Value:=
  [.slice x.ma x.M.ms.length x.mc,.int .i64 x.M.res,.int .i64 x.M.reason,.int .i64 x.M.clk.l0,.int .i64 x.M.clk.l1,.int .i64 x.M.clk.m0,.int .i64 x.M.clk.m1,.int .i64 x.M.clk.p0,.int .i64 x.M.clk.p1,.int .i64 x.M.clk.turn,.int .i64 x.M.clk.since,.bool x.M.clk.st,.int .i64 x.M.clk.ak,
   .int .i64 x.M.off.b0,.int .i64 x.M.off.b1,.int .i64 x.M.off.aY,.int .i64 x.M.off.aZ,.int .i64 x.M.off.l10,.int .i64 x.M.off.aX,.slice x.qa x.M.aS.length x.qc,x.vc,x.v0,x.v1,.int .i64 x.M.pos.turn,.int .i64 x.M.pos.quiet,.int .i64 x.now]
def kR (l:List qX):List Value:=l.flatMap fC
def Md (M0:aG) (es:List iY):Nat→Int
  | 0=>M0.clk.since
  | j+1=>(es.getD j default).now
structure Ti (M0:aG) (es:List iY) (k:Nat) (l:List qX):Prop where
  len:l.length=k+1
  at':∀ j (hj:j<l.length),l[j].M=goes M0 (es.take j)∧l[j].now=Md M0 es j
theorem Ti.snoc {M0:aG} {es:List iY} {k:Nat} {l:List qX} (h:Ti M0 es k l) (x:qX) (h1:x.M=goes M0 (es.take (k+1))) (h2:x.now=Md M0 es (k+1)):Ti M0 es (k+1) (l++[x]):=by
  refine ⟨by rw [List.length_append,h.len]; rfl,fun j hj=>?_⟩
  by_cases hj2:j<l.length
  · rw [List.getElem_append_left hj2]; exact h.at' j hj2
  · have hl:=h.len
    have hj3:j=k+1:=by rw [List.length_append] at hj; simp at hj; omega
    subst hj3
    rw [List.getElem_append_right (by omega)]
    simp only [hl,Nat.sub_self,List.getElem_cons_zero]
    exact ⟨h1,h2⟩
def yC (v:Value):Nat→Prop:=fun k=>v.ownBlock=some k
structure qY (M0:aG) (es:List iY) (km k:Nat) (S:Nat→Prop) (base b:Nat) (B:jv) (bw:Nat) (v:Value) (l:List qX) (wr:World):Prop where
  m:aH (yC v) S base wr b (goes M0 (es.take km)) B
  row:wr.ownsRow bw 209 26 v (k+1) (kR l)
  bb:b<bw
  pos:∀ x∈l,Held (fun i=>S i∨out1 (yC v) b i) wr (fun w'=>lu base w' x.M.pos x.vc x.v0 x.v1)
  ok:∀ x∈l,nV x.M.R x.M.pos
  ms:Ti M0 es k l
variable {M0:aG} {es:List iY} {km k:Nat} {S:Nat→Prop} {base b:Nat} {B:jv} {bw:Nat} {v:Value} {l:List qX} {wr w1:World}
theorem qY.below (h:qY M0 es km k S base b B bw v l wr) (hb:Below wr.heap.size wr w1):qY M0 es km k S base b B bw v l w1:=
  ⟨h.m.below hb,bK h.row hb,h.bb,fun x hx=>(h.pos x hx).step (Fr.jF hb) (dw.refl _ _),h.ok,h.ms⟩
theorem qY.nb (h:qY M0 es km k S base b B bw v l wr):¬ yC v b:=fun hb=>by have:=(h.row.lt b hb).1; have:=h.bb; omega
theorem qY.go (h:qY M0 es km k S base b B bw v l wr) {S1:Nat→Prop} {B1:jv} {km1:Nat} (hm:aH (yC v) S1 base w1 b (goes M0 (es.take km1)) B1) (hs:dw wr S S1) (hf:dD S b wr w1):qY M0 es km1 k S1 base b B1 bw v l w1:=by
  have hnb:=h.nb
  refine ⟨hm,sQ h.row (fun q hq=>hf.block q (h.row.lt q hq).2 (fun hc=>?_)),h.bb,fun x hx=>(h.pos x hx).step (hf.mono (fun q _ hq=>?_)) (fun q hq hc=>?_),h.ok,h.ms⟩
  · rcases hc with hc | hc
    · exact (h.m.nx q hq).1 hc
    · exact hnb (by rw [← (show q=b from hc)]; exact hq)
  · rcases hq with hq | hq
    · exact .inl hq
    · exact .inr (.inl hq)
  · rcases hc with hc | hc
    · exact .inl (hs q hq hc)
    · exact .inr hc
theorem qY.start {w2:World} (hm:aH Ut S base w1 b M0 B) (hb:Below w1.heap.size w1 w2) (x:qX) (hx:x.M=M0) (hn:x.now=M0.clk.since) (hp:lu w1.heap.size w2 x.M.pos x.vc x.v0 x.v1) :
    qY M0 es 0 0 S base b B w2.heap.size (.slice (some ⟨w2.heap.size,0,none⟩) 1 1) [x] (w2.alloc (.cells (fC x).toArray 209)):=by
  have hm2:=hm.below hb
  have hal:=(Below.refl w2.heap.size w2).alloc (Nat.le_refl _) (.cells (fC x).toArray 209)
  have hsz:(w2.alloc (.cells (fC x).toArray 209)).heap.size=w2.heap.size+1:=by simp
  have hblk:∀ q,yC (.slice (some ⟨w2.heap.size,0,none⟩) 1 1) q→q=w2.heap.size:=fun q hq=>by simpa [yC,Value.ownBlock] using hq.symm
  refine ⟨hm2.newX hal (fun q hq=>?_) (fun h=>h.elim),?_,hm2.box.lt,fun y hy=>?_,fun y hy=>?_,?_⟩
  · rw [hblk q hq,hsz]; exact ⟨by omega,.inl (Nat.le_refl _)⟩
  · have e:kR [x]=fC x:=by simp [kR]
    rw [e]
    refine ⟨rfl,.inr ⟨w2.heap.size,1,(fC x).toArray,rfl,Nat.le_refl _,?_,Nat.le_refl _,by unfold maxLen; omega,?_,?_⟩⟩
    · exact Box.new w2 (fC x) 209
    · simp [fC]
    · simp [fC]
  · obtain rfl:y=x:=by simpa using hy
    refine ((oZ (S:=fun i=>S i∨out1 Ut b i) hp (fun q h1 _ hc=>?_)).imp (fun w' hw=>hw.base (Nat.le_trans hm.lo (Nat.le_of_lt hm.box.lt)))).step (Fr.jF hal) (fun q hq hc=>?_)
    · have:=hm.wL q hc
      omega
    · rcases hc with hc | hc | hc
      · exact .inl hc
      · exact .inr (.inl hc)
      · have:=hblk q hc; omega
  · obtain rfl:y=x:=by simpa using hy
    rw [hx]; exact hm.pok
  · refine ⟨rfl,fun j hj=>?_⟩
    obtain rfl:j=0:=by simp at hj; omega
    exact ⟨hx,hn⟩
end Go.Proofs.YtmabaojkignodaaGreatDoor
namespace Go.Proofs.YtmabaojkignodaaGreatDoor
open Go.ChangeShapes Go.WideShapes Go.ChangeAt Go.RowKit
set_option linter.unusedVariables false
end Go.Proofs.YtmabaojkignodaaGreatDoor
namespace Go.Proofs.YtmabaojkignodaaGreatDoor
open Go.ChangeShapes Go.WideShapes Go.ChangeAt Go.RowKit
set_option linter.unusedVariables false
open Go.Lib (hid)
theorem TP:¬ Fa fJ nO:=by
 intro h
 apply h
 refine ⟨by decide +kernel,?_⟩
 refine ⟨by decide,by decide,by decide,fun k hk=>?_⟩
 obtain rfl:k=0:=by have:k<1:=hk; omega
 decide
theorem acs (n:Int) (w:World):Calls Tryz.prog 40 #[.int .i64 n] w fun e w'=>e=.returned (.agg #[.int .i64 (-1),.int .i64 n,.int .i64 0])∧Below w.heap.size w w':=by
 go_enter Tryz.func40,Tryz.ntmps40
 go_wp2
 exact bodyPost_ret (v:=.agg #[.int .i64 (-1),.int .i64 n,.int .i64 0]) (by simp [results,Tryz.results40,go_sem]) rfl ⟨rfl,by go_grown⟩
theorem ZC:clk.cu nO.ps.length nO.inc nO.delay nO.ps:=by
 refine ⟨by decide,by decide,by decide,fun k hk=>?_⟩
 obtain rfl:k=0:=by have:k<1:=hk; omega
 decide
theorem aaU:wW ab5:=by
 intro x hx
 have:x=0∨x=10∨x = -1∨x=4:=by
  simp only [mP,ab5,List.mem_cons,List.not_mem_nil,or_false] at hx
  omega
 omega
theorem aal:∃ M0:aG,dh fJ nO 0=M0∧MInv M0∧M0.jr.length<90∧M0.ms.length≤400∧(M0.go ab5).2=0∧(M0.go ab5).1.ms.length=1∧(M0.go ab5).1.clk.l0=60990:=
 ⟨dh fJ nO 0,rfl,BG fJ nO 0 (by decide +kernel) (xU.of ZC) (by decide) (by decide),by rw [Y8]; decide,by rw [KD]; decide,aad.1,aad.2.1,aad.2.2⟩
set_option maxRecDepth 100000 in
set_option maxHeartbeats 8000000 in
theorem aaD (HSo:SortMvSaid) (HI:ItoaSaid) (HJ:sO) (w:World) (ht:Tab w.heap.size w):Calls Tryz.prog 11 #[] w fun e w'=>e=.returned (.bool true)∧Below w.heap.size w w':=by
 have HS:=hid HSo
 have HIt:=hid HI
 have HJo:=hid HJ
 have nT:=hid ht
 clear HSo HI HJ ht
 go_enter Tryz.func11,Tryz.ntmps11
 go_upto_region 1 with (fail)
 go_wp2_with fail
 refine (zJ _).mono ?_
 rintro e w1 ⟨vp,vs,ve,rfl,hr,hb1⟩
 have HR:=hid hr
 have HB1:=hid hb1
 clear hr hb1
 go_wp2_with fail
 refine (BA _).mono ?_
 rintro e w2 ⟨rfl,hp,hb2⟩
 have HR2:=hid (HR.out.below hb2 (Nat.le_refl _))
 have HB2:=hid (HB1.out.trans (hb2.mono HB1.out.size))
 have HP:=hid hp
 have HT2:=hid (nT.out.mono HB2.out.size HB2.out)
 have hpm:w1.heap.size+1<w2.heap.size:=by
  obtain ⟨g,o,hg,hlt,_⟩:=hp.2 (by decide)
  cases hg
  exact hlt
 clear hb2 hp HR
 go_wp2_with fail
 refine (BF HS.out HIt.out fJ nO vp vs ve (some ⟨w1.heap.size+1,0,none⟩) 1 0 w2 HR2.out (by decide +kernel) HP.out (by decide) (by decide) (by decide) (by decide) HT2.out).mono ?_
 rintro e w3 (⟨c,⟨_,hbad⟩,rfl,_⟩ | ⟨_,hcg,base,S,b,B,rfl,hm,hb0,hb1,hb3⟩)
 ·exact absurd hbad TP
 obtain ⟨M0,hM0,adD,ag2,ag3,hg1,hg2,hg3⟩:=aal
 rw [hM0] at hm
 have HM:=hid hm
 have HB3:=hid (HB2.out.trans (hb3.mono HB2.out.size))
 have qg:=hid hb1
 have HT3:=hid (nT.out.mono (Nat.le_trans HB2.out.size hb0) HB3.out)
 have hbw:w.heap.size≤base:=Nat.le_trans HB2.out.size hb0
 clear hm hb0 hb1 hb3
 go_upto_region 4 with (fail)
 go_wp2_with fail
 refine (acs 4 _).mono ?_
 rintro e w4 ⟨rfl,hb4⟩
 have qh:=hid (HM.out.below hb4)
 have HB4:=hid (HB3.out.trans (hb4.mono HB3.out.size))
 have Zi:=hid (Nat.le_trans qg.out hb4.size)
 have HT4:=hid (HT3.out.below (hb4.mono qg.out))
 clear hb4 HM HT3
 go_wp2_with fail
 refine (KA HS.out HIt.out HJo.out ab5 w4 qh.out Zi.out adD ag2 HT4.out aaU).mono ?_
 rintro e w5 ⟨rfl,S5,B5,hm5,hs5,hf5⟩
 rw [hg1]
 have alU:w.heap.size≤base:=hbw
 have zu:=hid hm5
 have mW:=hid (HB4.out.trans ((aH.base' qh.out hf5 Zi.out).mono hbw))
 have V7:=hid (Wy adD ag3 aaU)
 generalize (M0.go ab5).1=M5 at *
 have HG2:=hid hg2
 have HG3:=hid hg3
 clear hm5 hs5 hf5 qh HB4 hg2 hg3
 go_wp2_with fail
 refine (yx w5 zu.out (by have:=V7.out.pr.len; omega)).mono ?_
 rintro e w6 ⟨ma,mc,qa,qc,rfl,hs1,hs2,hb6⟩
 have zD:=hid (mW.out.trans (hb6.mono mW.out.size))
 clear hb6 hs1 hs2
 rename_i K1 h1 K2 h2
 refine h2 _ _ ?_
 clear h2 K2
 refine wpList_plain (by rfl) (fun K hK=>?_)
 go_simp
 refine hK _ _ ?_
 clear hK K
 try simp only [Act.put,List.setIfInBounds_toArray,List.set_cons_zero,List.set_cons_succ]
 refine pW ?_
 intro w7 e7
 have VR:Hid (Box w7 w6.heap.size [.slice none 0 0,.int .i64 0,.int .i64 0,.int .i64 0,.int .i64 0,.int .i64 0,.int .i64 0,.int .i64 0,.int .i64 0,.int .i64 0,.int .i64 0,.bool false,.int .i64 0,.int .i64 0,.int .i64 0,.int .i64 0,.int .i64 0,.int .i64 0,.int .i64 0,.slice none 0 0] 73):=hid (by rw [e7]; exact Box.new w6 _ _)
 have uD:Hid (Below w.heap.size w w7):=hid (by rw [e7]; exact zD.out.alloc zD.out.size _)
 clear e7
 refine aT (vs:=[.slice ma M5.ms.length mc,.int .i64 M5.res,.int .i64 M5.reason,.int .i64 M5.clk.l0,.int .i64 M5.clk.l1,.int .i64 M5.clk.m0,.int .i64 M5.clk.m1,.int .i64 M5.clk.p0,.int .i64 M5.clk.p1,.int .i64 M5.clk.turn,.int .i64 M5.clk.since,.bool M5.clk.st,.int .i64 M5.clk.ak,.int .i64 M5.off.b0,.int .i64 M5.off.b1,.int .i64 M5.off.aY,.int .i64 M5.off.aZ,.int .i64 M5.off.l10,.int .i64 M5.off.aX,.slice qa M5.aS.length qc]) (by rfl) 73 (.tmp 4) (.tmp 18) (by rfl) w6.heap.size (by rfl) (by rfl) VR.out rfl (by kernel_rfl) (by rfl) ?_
 have Ie:=hid (VR.out.store (vs:=[.slice ma M5.ms.length mc,.int .i64 M5.res,.int .i64 M5.reason,.int .i64 M5.clk.l0,.int .i64 M5.clk.l1,.int .i64 M5.clk.m0,.int .i64 M5.clk.m1,.int .i64 M5.clk.p0,.int .i64 M5.clk.p1,.int .i64 M5.clk.turn,.int .i64 M5.clk.since,.bool M5.clk.st,.int .i64 M5.clk.ak,.int .i64 M5.off.b0,.int .i64 M5.off.b1,.int .i64 M5.off.aY,.int .i64 M5.off.aZ,.int .i64 M5.off.l10,.int .i64 M5.off.aX,.slice qa M5.aS.length qc]) rfl)
 have HB8:=hid (below_setCells uD.out zD.out.size 0 [.slice ma M5.ms.length mc,.int .i64 M5.res,.int .i64 M5.reason,.int .i64 M5.clk.l0,.int .i64 M5.clk.l1,.int .i64 M5.clk.m0,.int .i64 M5.clk.m1,.int .i64 M5.clk.p0,.int .i64 M5.clk.p1,.int .i64 M5.clk.turn,.int .i64 M5.clk.since,.bool M5.clk.st,.int .i64 M5.clk.ak,.int .i64 M5.off.b0,.int .i64 M5.off.b1,.int .i64 M5.off.aY,.int .i64 M5.off.aZ,.int .i64 M5.off.l10,.int .i64 M5.off.aX,.slice qa M5.aS.length qc])
 refine pW ?_
 intro w8 e8
 rw [← e8] at Ie HB8
 clear e8 VR uD
 have z0:=Ie.out.cell 0 rfl
 have z3:=Ie.out.cell 3 rfl
 rw [HG2.out] at z0
 rw [HG3.out] at z3
 go_wp2_with fail
 go_ret
 exact ⟨rfl,HB8.out⟩
end Go.Proofs.YtmabaojkignodaaGreatDoor
namespace Go.Proofs.YtmabaojkignodaaGreatDoor
open Go.ChangeShapes Go.WideShapes Go.ChangeAt Go.RowKit
set_option linter.unusedVariables false
variable {X S:Nat→Prop} {base b:Nat} {M:aG} {B:jv}
def TQ:El iY where
 k:=7
 E:=fun _ x cs=>cs=[.int .i64 x.kind,.int .i64 x.au,.int .i64 x.n,.int .i64 x.now,.int .i64 x.m.src,.int .i64 x.m.dst,.int .i64 x.m.piece]∧wW x
 mono:=fun h _ _=>h
 len:=fun h=>by rw [h.1]; rfl
theorem ZE {w:World} {a:Option Addr} {n c:Nat} {xs:List iY} (h:gI TQ w (.slice a n c) xs) (i:Nat) (hi:i<xs.length):∃ g o,a=some ⟨g,o,none⟩∧g<w.heap.size∧wW xs[i]∧w.cell? ⟨g,o+i * 7,none⟩=some (.int .i64 xs[i].kind)∧w.cell? ⟨g,o+i * 7+1,none⟩=some (.int .i64 xs[i].au) ∧
  w.cell? ⟨g,o+i * 7+2,none⟩=some (.int .i64 xs[i].n)∧w.cell? ⟨g,o+i * 7+3,none⟩=some (.int .i64 xs[i].now)∧w.cell? ⟨g,o+i * 7+4,none⟩=some (.int .i64 xs[i].m.src)∧w.cell? ⟨g,o+i * 7+5,none⟩=some (.int .i64 xs[i].m.dst)∧w.cell? ⟨g,o+i * 7+6,none⟩=some (.int .i64 xs[i].m.piece):=by
 obtain ⟨g,o,ha,hg,hc⟩:=h.some (by omega)
 obtain ⟨cs,⟨rfl,hok⟩,hx⟩:=hc i hi
 exact ⟨g,o,ha,hg,hok,hx 0 (by show 0<7; omega),hx 1 (by show 1<7; omega),hx 2 (by show 2<7; omega),hx 3 (by show 3<7; omega),hx 4 (by show 4<7; omega),hx 5 (by show 5<7; omega),hx 6 (by show 6<7; omega)⟩
theorem aar (R:aC) (vp vs ve:Value) (w:World) (h:kM w vs R.start):Calls Tryz.prog 12 #[(.agg #[.string R.name,.int .i64 R.width,.int .i64 R.height,vp,vs,.bool R.falls,.bool R.keeps,ve,.int .i64 R.blocked,.int .i64 R.quiet,.int .i64 R.bF])] w fun e w'=>e=.returned (.bool (decide (20<(R.start.length:Int))))∧Below w.heap.size w w':=by
 obtain ⟨a,c,rfl,h1,h2⟩:=h.form
 unfold maxLen at h2
 clear h
 go_enter Tryz.func12,Tryz.ntmps12
 go_wp2
 go_ret
 exact ⟨rfl,(Below.refl _ _).alloc (Nat.le_refl _) _⟩
theorem aH.afU {w:World} (h:aH X S base w b M B) (k:Nat) (hk:S k∨one1 b k):k<w.heap.size:=by
 obtain ⟨up,us,ue,vl,vm,rows,hg⟩:=h.game
 rcases hk with hk | hk
 ·exact (hg.lo k hk).2
 ·rw [show k=b from hk]; exact h.box.lt
end Go.Proofs.YtmabaojkignodaaGreatDoor
namespace Go.Proofs.YtmabaojkignodaaGreatDoor
open Go.ChangeShapes Go.WideShapes Go.ChangeAt Go.RowKit
set_option linter.unusedVariables false
set_option maxHeartbeats 16000000
set_option maxRecDepth 100000
theorem WM {CR:nJ} (h:xU CR):clk.cu CR.ps.length CR.inc CR.delay CR.ps:=by
 refine ⟨h.n,h.inc,h.del,fun k hk=>?_⟩
 have hz:=h.pz k hk
 unfold clk.jT
 rw [clk.dU (h.pm k hk),clk.dU (h.pt k hk),Bool.true_and,Bool.true_and,beq_iff_eq]
 by_cases h0:(CR.ps.getD k (0,0)).1=0
 ·have:=hz.1 h0
  rw [show ((CR.ps.getD k (0,0)).1 == 0)=true by simpa using h0,show ((k:Int) == (CR.ps.length:Int) - 1)=true by simp; omega]
 ·have:¬ (k+1=CR.ps.length):=fun hc=>h0 (hz.2 hc)
  rw [show ((CR.ps.getD k (0,0)).1 == 0)=false by simpa using h0,show ((k:Int) == (CR.ps.length:Int) - 1)=false by simp; omega]
end Go.Proofs.YtmabaojkignodaaGreatDoor

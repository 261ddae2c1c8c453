/- GxC, Base. -/
import Derived.Test.YteablcielclaeaaGreatDoorP16
import Derived.ChangeKeysEq
namespace Go.Proofs.YteablcielclaeaaGreatDoor.gx
open Go.ChangeShapes Go.WideShapes Go.ChangeAt Go.RowKit
set_option linter.unusedVariables false
open Go.Lib (hid)
def DF (X S:Nat→Prop) (base b:Nat) (R:aA) (ms:List aB) (m:aB) (vp vs ve:Value) (w:World) (e:Ending) (w':World):Prop:=
 (eu R ms m≠0∧e=.returned (.int .i64 (eu R ms m))∧Below w.heap.size w w') ∨
 (eu R ms m=0∧e=.returned (.int .i64 0)∧∃ S' XM V5 rows',bJ X S' base w' b R (ms++[m]) vp vs ve XM V5 rows'∧iE w S S'∧Fr S w w')
set_option maxRecDepth 100000 in
set_option maxHeartbeats 4000000 in
theorem yD (HS:SortMvSaid) (m:aB) {X S:Nat→Prop} {base b:Nat} {R:aA} {ms:List aB} {vp vs ve vl vm:Value} {rows:List lK} (w:World) (h:bJ X S base w b R ms vp vs ve vl vm rows) (hb:base≤w.heap.size) (hX:∀ k,X k→k<w.heap.size):Calls Tryz.prog 170 #[.pointer (some ⟨b,0,none⟩),.agg #[.int .i64 m.src,.int .i64 m.dst,.int .i64 m.piece]] w (DF X S base b R ms m vp vs ve w):=by
 have qo:=hid HS
 have HXX:=hid hX
 obtain ⟨g,c,hv⟩:=dY h.ol (by omega)
 subst hv
 have HG:=hid h
 have HK:=hid h.nok
 have HBB:=hid hb
 have HGB:=hid h.box.lt
 have HOL:Hid (∀ q,Value.ownBlock (.slice (some ⟨g,0,none⟩) (ms.length+1) c)=some q→q<w.heap.size):=hid (fun q hq=>(h.ol.lt q hq).2)
 have HOM:Hid (∀ q,vm.ownBlock=some q→q<w.heap.size):=hid (fun q hq=>(h.om.lt q hq).2)
 have HSL:Hid (∀ q,S q→q<w.heap.size):=hid (fun q hq=>(h.lo q hq).2)
 have anl:Hid (g=b→False):=hid (fun e=>(h.sl g rfl).2 e)
 clear hX h HS hb
 go_enter Tryz.func170,Tryz.ntmps170
 go_upto_region 1 with (fail)
 have eF:=hid (Box.new w [.int .i64 m.src,.int .i64 m.dst,.int .i64 m.piece] 68)
 have Xe:=hid ((Below.refl w.heap.size w).alloc (Nat.le_refl _) (.cells #[.int .i64 m.src,.int .i64 m.dst,.int .i64 m.piece] 68))
 have HG0:=hid (HG.out.below ((Below.refl _ w).alloc (Nat.le_refl _) (.cells #[.int .i64 m.src,.int .i64 m.dst,.int .i64 m.piece] 68)))
 generalize (w.alloc (.cells #[.int .i64 m.src,.int .i64 m.dst,.int .i64 m.piece] 68))=w0 at *
 go_wp2_with fail
 refine (oZ qo.out w0 HG0.out.plain).mono ?_
 rintro e w1 ⟨rfl,hb1⟩
 have V8:=hid (HG0.out.below hb1)
 have ah7:=hid (eF.out.stays hb1)
 have yt:=hid (ak Xe.out hb1 Xe.out.size)
 clear hb1 HG0 eF Xe
 by_cases hr0:fZ R ms=0
 rotate_left
 ·have JY:Hid (eu R ms m=14):=hid (by unfold eu; rw [if_pos hr0])
  have hrb:(fZ R ms != 0)=true:=by simpa using hr0
  clear hr0
  go_wp2_with fail
  go_ret
  exact .inl ⟨by rw [JY.out]; decide,by rw [JY.out]; rfl,yt.out⟩
 have HR0:=hid hr0
 rw [hr0]
 clear hr0
 go_upto_region 3 with (fail)
 generalize w1=wq at *
 have Gz:bJ X S base wq.drew b R ms vp vs ve (.slice (some ⟨g,0,none⟩) (ms.length+1) c) vm rows:=V8.out.below (aK (Below.refl _ _))
 have Bmz:=ah7.out.drew
 have Lz:Below w.heap.size w wq.drew:=aK yt.out
 clear V8 ah7 yt
 refine wp_region_noPanic ?_
 refine bI (S:=(fun w'=>w'.cell? ⟨b,0,none⟩=some (.string R.name)∧w'.cell? ⟨b,1,none⟩=some (.int .i64 R.width)∧w'.cell? ⟨b,2,none⟩=some (.int .i64 R.height)∧w'.cell? ⟨b,3,none⟩=some vp∧w'.cell? ⟨b,4,none⟩=some vs∧w'.cell? ⟨b,5,none⟩=some (.bool R.falls)∧w'.cell? ⟨b,6,none⟩=some (.bool R.keeps)∧w'.cell? ⟨b,7,none⟩=some ve∧w'.cell? ⟨b,8,none⟩=some (.int .i64 R.blocked)∧w'.cell? ⟨b,9,none⟩=some (.int .i64 R.quiet)∧w'.cell? ⟨b,10,none⟩=some (.int .i64 R.bC)∧w'.cell? ⟨w.heap.size,0,none⟩=some (.int .i64 m.src)∧w'.cell? ⟨w.heap.size,1,none⟩=some (.int .i64 m.dst)∧w'.cell? ⟨w.heap.size,2,none⟩=some (.int .i64 m.piece))) (L:=[]) (by kernel_rfl) (by and_intros <;> first | exact Gz.box.cell _ rfl | exact Bmz.cell _ rfl) (fun hHeld=>?_)
 refine aC 0 ?_
 refine aC 4 ?_
 refine dV 7 ?_
 refine aC 1 ?_
 refine aC 2 ?_
 refine dV 3 ?_
 refine fH 5 fun K hK=>?_
 go_simp
 refine (yj _ Gz.plain).mono ?_
 rintro e w5 ⟨nc,n0,n1,rfl,IE,hb5⟩
 have G5:=Gz.below hb5
 have Bm5:=Bmz.stays hb5
 have L5:=ak Lz hb5 Lz.size
 have N5:=IE.now
 clear hb5 IE
 refine hK.out _ _ (by and_intros <;> first | exact G5.box.cell _ rfl | exact Bm5.cell _ rfl) (fun hHeld=>?_)
 clear hK K
 refine fH 6 fun K hK=>?_
 go_simp
 refine (xW qo.out R vp vs ve (bV R ms) nc n0 n1 _ G5.rd.now N5 HK.out).mono ?_
 rintro e w6 ⟨vx,rfl,OX,hb6⟩
 obtain ⟨a6,c6,rfl⟩:=aG OX
 have G6:=G5.below hb6
 have Bm6:=Bm5.stays hb6
 have L6:=ak L5 hb6 L5.size
 have R6:=oD OX
 clear hb6 OX
 refine hK.out _ _ (by and_intros <;> first | exact G6.box.cell _ rfl | exact Bm6.cell _ rfl) (fun hHeld=>?_)
 clear hK K
 refine fH 8 fun K hK=>?_
 go_simp
 refine (AU _ m _ _ R6).mono ?_
 rintro e w8 ⟨rfl,hb8⟩
 have G8:=G6.below hb8
 have Bm8:=Bm6.stays hb8
 have L8:=ak L6 hb8 L6.size
 clear hb8
 refine hK.out _ _ (by and_intros <;> first | exact G8.box.cell _ rfl | exact Bm8.cell _ rfl) (fun hHeld=>?_)
 clear hK K
 refine aC 9 ?_
 refine aC 10 ?_
 refine jC ?_
 have HG8:=hid G8
 have ah8:=hid Bm8
 have EZ:=hid L8
 clear G8 Bm8 L8 G6 Bm6 L6 G5 Bm5 L5 N5 R6 Gz Bmz Lz hHeld
 by_cases hmm:m∈dZ R (bV R ms)
 rotate_left
 ·have JY:Hid (eu R ms m=13):=hid (by unfold eu; rw [if_neg (by simp [HR0.out]),if_pos hmm])
  have hd:decide (m∈dZ R (bV R ms))=false:=by simpa using hmm
  clear hmm
  rw [hd]
  go_wp2_with fail
  go_ret
  exact .inl ⟨by rw [JY.out]; decide,by rw [JY.out]; rfl,EZ.out⟩
 have hd:decide (m∈dZ R (bV R ms))=true:=by simpa using hmm
 rw [hd]
 have aeQ:=hid hmm
 have HF:=hid (xZ HK.out hmm)
 have hc12:=HG8.out.box.cell 12 rfl
 have hbl:=HG8.out.box.lt
 obtain ⟨xv,xc,hvm⟩:=aG HG8.out.om
 clear hmm hd
 by_cases hfl:ms.length=400
 ·have JY:Hid (eu R ms m=9):=hid (by unfold eu; rw [if_neg (by simp [HR0.out]),if_neg (by simp [aeQ.out]),if_pos hfl])
  have ah9:((ms.length:Int) == 400)=true:=by simp [hfl]
  clear hfl
  rw [hvm] at hc12
  go_wp2_with fail
  go_ret
  exact .inl ⟨by rw [JY.out]; decide,by rw [JY.out]; rfl,EZ.out⟩
 have JY:Hid (eu R ms m=0):=hid (by unfold eu; rw [if_neg (by simp [HR0.out]),if_neg (by simp [aeQ.out]),if_neg hfl])
 have ah9:((ms.length:Int) == 400)=false:=by simp; omega
 have HLT:Hid (ms.length<400):=hid (by have:=HG8.out.lt; omega)
 have hlm:ms.length≤400:=HG8.out.lt
 clear hfl
 rw [hvm] at hc12
 go_upto_region 7 with (fail)
 clear hc12 hbl hvm ah9
 obtain ⟨i0,hi0,hi1,hi2,hi3⟩:=nC abz
 obtain ⟨j0,hj0,hj1,hj2,hj3⟩:=nC oq
 have HI0:=hid hi0
 have HI1:=hid hi1
 have HI2:=hid hi2
 have HI3:=hid hi3
 have HJ0:=hid hj0
 have HJ1:=hid hj1
 have HJ2:=hid hj2
 have HJ3:=hid hj3
 clear hi0 hi1 hi2 hi3 hj0 hj1 hj2 hj3
 generalize w8=wq at *
 have Gz:bJ X S base wq.drew b R ms vp vs ve (.slice (some ⟨g,0,none⟩) (ms.length+1) c) vm rows:=HG8.out.below (aK (Below.refl _ _))
 have Bmz:=ah8.out.drew
 have Lz:Below w.heap.size w wq.drew:=aK EZ.out
 clear HG8 ah8 EZ
 refine wp_region_noPanic ?_
 refine bI (S:=(fun w'=>w'.cell? ⟨b,0,none⟩=some (.string R.name)∧w'.cell? ⟨b,1,none⟩=some (.int .i64 R.width)∧w'.cell? ⟨b,2,none⟩=some (.int .i64 R.height)∧w'.cell? ⟨b,3,none⟩=some vp∧w'.cell? ⟨b,4,none⟩=some vs∧w'.cell? ⟨b,5,none⟩=some (.bool R.falls)∧w'.cell? ⟨b,6,none⟩=some (.bool R.keeps)∧w'.cell? ⟨b,7,none⟩=some ve∧w'.cell? ⟨b,8,none⟩=some (.int .i64 R.blocked)∧w'.cell? ⟨b,9,none⟩=some (.int .i64 R.quiet)∧w'.cell? ⟨b,10,none⟩=some (.int .i64 R.bC)∧w'.cell? ⟨b,11,none⟩=some (.slice (some ⟨g,0,none⟩) (ms.length+1) c)∧w'.cell? ⟨w.heap.size,0,none⟩=some (.int .i64 m.src)∧w'.cell? ⟨w.heap.size,1,none⟩=some (.int .i64 m.dst)∧w'.cell? ⟨w.heap.size,2,none⟩=some (.int .i64 m.piece))) (L:=[17]) (by kernel_rfl) (by and_intros <;> first | exact Gz.box.cell _ rfl | exact Bmz.cell _ rfl) (fun hHeld=>?_)
 refine aC 0 ?_
 refine aC 1 ?_
 refine aC 5 ?_
 refine aC 9 ?_
 refine dV 11 ?_
 refine aC 2 ?_
 refine aC 6 ?_
 refine aC 3 ?_
 refine aC 7 ?_
 refine dV 4 ?_
 refine dV 8 ?_
 refine fH 10 fun K hK=>?_
 go_simp
 refine (yj _ Gz.plain).mono ?_
 rintro e w10 ⟨nc,n0,n1,rfl,aia,mM⟩
 have G10:=Gz.below mM
 have aeR:=Bmz.stays mM
 have zU:=ak Lz mM Lz.size
 have N10:=aia.now
 clear mM aia
 refine hK.out _ _ (by and_intros <;> first | exact G10.box.cell _ rfl | exact aeR.cell _ rfl) (fun hHeld=>?_)
 clear hK K
 refine fH 12 fun K hK=>?_
 go_simp
 refine (Ll R vp vs ve (bV R ms) nc n0 n1 m _ N10 HK.out HF.out).mono ?_
 rintro e w12 ⟨yc,y0,y1,rfl,yE,IX⟩
 obtain ⟨ya,yn,rfl⟩:=aG yE.1
 obtain ⟨LJ,Ug,rfl⟩:=aG yE.2.1
 obtain ⟨LK,Uh,rfl⟩:=aG yE.2.2.1
 unfold sG
 have G12:=G10.below IX
 have aeS:=aeR.stays IX
 have Yb:=ak zU IX zU.size
 have P12:mF w.heap.size w12 (bM R (bV R ms) m) (.slice ya (bM R (bV R ms) m).cells.length yn) (.slice LJ (bM R (bV R ms) m).h0.length Ug) (.slice LK (bM R (bV R ms) m).h1.length Uh):=yE.base zU.size
 clear IX yE
 refine hK.out _ _ (by and_intros <;> first | exact G12.box.cell _ rfl | exact aeS.cell _ rfl) (fun hHeld=>?_)
 clear hK K
 refine fH 13 fun K hK=>?_
 go_simp
 refine aQ ?_
 intro qO e13
 have PO:Below w12.heap.size w12 qO:=by rw [e13]; exact (Below.refl _ _).alloc (Nat.le_refl _) _
 have N13:Box qO w12.heap.size [.slice ya (bM R (bV R ms) m).cells.length yn,.slice LJ (bM R (bV R ms) m).h0.length Ug,.slice LK (bM R (bV R ms) m).h1.length Uh,.int .i64 (bM R (bV R ms) m).turn,.int .i64 (bM R (bV R ms) m).quiet] 158:=by rw [e13]; exact Box.new' _ _ _ _ rfl
 have LM:=G12.below PO
 have aeT:=aeS.stays PO
 have L13:=ak Yb PO Yb.size
 have RN:mF w.heap.size qO (bM R (bV R ms) m) (.slice ya (bM R (bV R ms) m).cells.length yn) (.slice LJ (bM R (bV R ms) m).h0.length Ug) (.slice LK (bM R (bV R ms) m).h1.length Uh):=⟨aS P12.1 PO,aS P12.2.1 PO,aS P12.2.2.1 PO,P12.2.2.2⟩
 clear PO e13
 refine hK.out _ _ (by and_intros <;> first | exact LM.box.cell _ rfl | exact aeT.cell _ rfl) (fun hHeld=>?_)
 clear hK K
 refine fH 14 fun K hK=>?_
 rw [if_pos (by rfl)]
 refine wp_append_lies _ _ _ 191 rfl base 158 i0 (.agg #[.slice none 0 0,.slice none 0 0,.slice none 0 0,.int .i64 0,.int .i64 0]) 5 88 Tryz.underlying191 HI0.out HI1.out HI2.out HI3.out rfl (by decide) (.slice (some ⟨g,0,none⟩) (ms.length+1) c) (ms.length+1) (jU rows) rfl LM.ol ⟨w12.heap.size,0,none⟩ 1 1 [.slice ya (bM R (bV R ms) m).cells.length yn,.slice LJ (bM R (bV R ms) m).h0.length Ug,.slice LK (bM R (bV R ms) m).h1.length Uh,.int .i64 (bM R (bV R ms) m).turn,.int .i64 (bM R (bV R ms) m).quiet] rfl rfl (Ls N13) abA (by decide) (by unfold maxLen; omega) (by omega) (Nat.le_trans HBB.out L13.size) qO.heap.size rfl ?_
 intro g7 c7 wS yF LP aeU ant
 have hgo:∀ q,Value.ownBlock (.slice (some ⟨g,0,none⟩) (ms.length+1) c)=some q→q<w.heap.size:=fun q hq=>HOL.out q hq
 have B14:Box wS b [.string R.name,.int .i64 R.width,.int .i64 R.height,vp,vs,.bool R.falls,.bool R.keeps,ve,.int .i64 R.blocked,.int .i64 R.quiet,.int .i64 R.bC,.slice (some ⟨g,0,none⟩) (ms.length+1) c,vm] 193:=LM.box.grown LP (fun e=>(LM.sl b e.symm).2 rfl)
 have aeV:Box wS w.heap.size [.int .i64 m.src,.int .i64 m.dst,.int .i64 m.piece] 68:=aeT.grown LP (fun e=>by have:=hgo _ e.symm; omega)
 have F14:Fr S w wS:=(Fr.jM L13).grown LP (fun q hq _=>(LM.sl q hq).1)
 have adK:Fr S qO wS:=(Fr.refl S qO).grown LP (fun q hq _=>(LM.sl q hq).1)
 have M14:=LM.om.kept LP (qU LM.ap)
 have JZ:=yF
 have Ui:=LP.size
 have Q14:=anb (g:=g) aeU L13.size
 have aie:=newS (S:=S) aeU (fun q hq=>(LM.sl q hq).1)
 have P14:Held X S qO fun w'=>mF w.heap.size w' (bM R (bV R ms) m) (.slice ya (bM R (bV R ms) m).cells.length yn) (.slice LJ (bM R (bV R ms) m).h0.length Ug) (.slice LK (bM R (bV R ms) m).h1.length Uh):=zN RN (fun q h1 _ hS=>by rcases hS with hS | hS; (have:=HSL.out q hS; omega); (have:=HXX.out q hS; omega))
 have aif:Below base w wS:=Below.grown ((L13.mono HBB.out)) LP (Nat.le_trans HBB.out L13.size) (fun q hq=>(LM.ol.lt q hq).1)
 clear yF LP aeU
 refine hK.out _ _ (by and_intros <;> first | exact B14.cell _ rfl | exact aeV.cell _ rfl) (fun hHeld=>?_)
 clear hK K
 refine aC 15 ?_
 refine aC 16 ?_
 refine rP 17 fun K hK=>?_
 have dd:=B14.cell 11 rfl
 have df:=B14.frozen 11
 go_simp
 refine aQ ?_
 intro IY e17
 have E17:=hid e17
 clear e17 dd df
 refine hK.out _ _ ?_
 clear hK K
 refine jC ?_
 have B17:Box IY b [.string R.name,.int .i64 R.width,.int .i64 R.height,vp,vs,.bool R.falls,.bool R.keeps,ve,.int .i64 R.blocked,.int .i64 R.quiet,.int .i64 R.bC,.slice (some ⟨g7,0,none⟩) (ms.length+1+1) c7,vm] 193:=by rw [E17.out]; exact B14.set 11 _
 have hgb:g7≠b:=fun e=>by rcases Q14 with q | q; exact (anl.out (by rw [← q,e])); have:=HGB.out; omega
 have O17:IY.ownsRow base 158 5 (.slice (some ⟨g7,0,none⟩) (ms.length+1+1) c7) (ms.length+1+1) (jU rows++[.slice ya (bM R (bV R ms) m).cells.length yn,.slice LJ (bM R (bV R ms) m).h0.length Ug,.slice LK (bM R (bV R ms) m).h1.length Uh,.int .i64 (bM R (bV R ms) m).turn,.int .i64 (bM R (bV R ms) m).quiet]):=by rw [E17.out]; exact sW (p:=⟨b,11,none⟩) JZ (fun e=>hgb (by simpa [Value.ownBlock] using e)) _
 have M17:IY.ownsRow base 68 3 vm ms.length (bK ms):=by rw [E17.out]; exact sW (p:=⟨b,11,none⟩) M14 (fun e=>(LM.sm b e).2 rfl) _
 have F17:Fr S w IY:=by rw [E17.out]; exact F14.setCell LM.sb _
 have hsh:iE qO S (fun k=>S k∨k=g7):=abB aie
 have P17:Held X (fun k=>S k∨k=g7) IY fun w'=>mF w.heap.size w' (bM R (bV R ms) m) (.slice ya (bM R (bV R ms) m).cells.length yn) (.slice LJ (bM R (bV R ms) m).h0.length Ug) (.slice LK (bM R (bV R ms) m).h1.length Uh):=by rw [E17.out]; exact (P14.step adK hsh).step ((Fr.refl (fun k=>S k∨k=g7) wS).setCell (.inl LM.sb) _) (iE.refl _ _)
 have Yc:Box IY w.heap.size [.int .i64 m.src,.int .i64 m.dst,.int .i64 m.piece] 68:=by rw [E17.out]; exact aeV.far ⟨b,11,none⟩ _ (fun e=>by have:=HGB.out; simp at e; omega)
 have Z17:wS.heap.size=IY.heap.size:=by rw [E17.out]; simp [World.setCell]
 have yG:Below base w IY:=by rw [E17.out]; exact aif.setCell (p:=⟨b,11,none⟩) (LM.lo b LM.sb).1 _
 have HH:=hid (And.intro B17 (And.intro hgb (And.intro O17 (And.intro M17 (And.intro F17 (And.intro P17 (And.intro Yc (And.intro Q14 (And.intro yG (And.intro Ui Z17))))))))))
 have LQ:=hid LM
 clear B17 hgb O17 M17 F17 hsh P17 Yc Ui Z17 yG aif Q14 aie B14 aeV F14 adK M14 JZ P14 RN P12 N13 LM G12 G10 Gz Bmz aeR aeS aeT Lz zU Yb L13 N10 hgo E17 ant hHeld
 go_upto_region 8 with (fail)
 generalize IY=x17 at *
 obtain ⟨B17,hgb,O17,M17,F17,P17,Yc,Q14,yG,Ui,Z17⟩:=HH.out
 clear HH
 have HSH:Hid (iE w S (fun k=>S k∨k=g7)):=hid (fun k hk h=>by
  rcases h with h | h
  ·exact h
  ·subst h
   rcases Q14 with q | q
   ·rw [q]; exact (LQ.out.sl g rfl).1
   ·omega)
 have HAP:Hid (Value.ownBlock (.slice (some ⟨g7,0,none⟩) (ms.length+1+1) c7)=none∨Value.ownBlock (.slice (some ⟨g7,0,none⟩) (ms.length+1+1) c7)≠vm.ownBlock):=hid (.inr (fun e=>by
  rcases Q14 with q | q
  ·rw [q] at e
   rcases LQ.out.ap with h | h
   ·cases h
   ·exact h e
  ·have:=HOM.out g7 e.symm; omega))
 have Dh:Hid (∀ g8,g7=g8→(vm.ownBlock=some g8∨x17.heap.size≤g8)→False):=hid (fun g8 e h=>by
  subst e
  rcases h with h | h
  ·rcases HAP.out with q | q
   ·cases q
   ·exact q h.symm
  ·have:=(O17.lt g7 rfl).2; omega)
 have PS:Hid (∀ k,vm.ownBlock=some k→S k):=hid (fun k hk=>(LQ.out.sm k hk).1)
 have By:Box x17.drew b [.string R.name,.int .i64 R.width,.int .i64 R.height,vp,vs,.bool R.falls,.bool R.keeps,ve,.int .i64 R.blocked,.int .i64 R.quiet,.int .i64 R.bC,.slice (some ⟨g7,0,none⟩) (ms.length+1+1) c7,vm] 193:=B17
 have Bmy:Box x17.drew w.heap.size [.int .i64 m.src,.int .i64 m.dst,.int .i64 m.piece] 68:=Yc
 have My:x17.drew.ownsRow base 68 3 vm ms.length (bK ms):=M17
 have Oy:x17.drew.ownsRow base 158 5 (.slice (some ⟨g7,0,none⟩) (ms.length+1+1) c7) (ms.length+1+1) (jU rows++[.slice ya (bM R (bV R ms) m).cells.length yn,.slice LJ (bM R (bV R ms) m).h0.length Ug,.slice LK (bM R (bV R ms) m).h1.length Uh,.int .i64 (bM R (bV R ms) m).turn,.int .i64 (bM R (bV R ms) m).quiet]):=O17
 have LBy:Below base w x17.drew:=aK yG
 have aeX:x17.heap.size≤x17.drew.heap.size:=Nat.le_refl _
 clear B17 O17 M17 Yc Q14 yG Ui Z17
 refine wp_region_noPanic ?_
 refine bI (S:=(fun w'=>w'.cell? ⟨b,12,none⟩=some vm∧w'.cell? ⟨w.heap.size,0,none⟩=some (.int .i64 m.src)∧w'.cell? ⟨w.heap.size,1,none⟩=some (.int .i64 m.dst)∧w'.cell? ⟨w.heap.size,2,none⟩=some (.int .i64 m.piece))) (L:=[10]) (by kernel_rfl) ⟨By.cell 12 rfl,Bmy.cell 0 rfl,Bmy.cell 1 rfl,Bmy.cell 2 rfl⟩ (fun hHeld=>?_)
 refine aC 0 ?_
 refine aC 1 ?_
 refine dV 5 ?_
 refine aC 2 ?_
 refine aC 3 ?_
 refine dV 4 ?_
 refine fH 6 fun K hK=>?_
 go_simp
 refine aQ ?_
 intro x6 e6
 have hb6:Below x17.drew.heap.size x17.drew x6:=by rw [e6]; exact (Below.refl _ _).alloc (Nat.le_refl _) _
 have N6:Box x6 x17.heap.size [.int .i64 m.src,.int .i64 m.dst,.int .i64 m.piece] 68:=by rw [e6]; exact Box.new' _ _ _ _ rfl
 have B6:=By.stays hb6
 have Bm6:=Bmy.stays hb6
 have M6:=aS My hb6
 have O6:=aS Oy hb6
 have F6:Fr (fun k=>S k∨k=g7) x17.drew x6:=Fr.jM hb6
 have Z6:=hb6.size
 have LB6:Below base w x6:=LBy.trans (hb6.mono (Nat.le_trans HBB.out LBy.size))
 clear hb6 e6
 refine hK.out _ _ ⟨B6.cell 12 rfl,Bm6.cell 0 rfl,Bm6.cell 1 rfl,Bm6.cell 2 rfl⟩ (fun hHeld=>?_)
 clear hK K
 refine fH 7 fun K hK=>?_
 rw [if_pos (by rfl)]
 refine wp_append_lies _ _ _ 80 rfl base 68 j0 (.agg #[.int .i64 0,.int .i64 0,.int .i64 0]) 3 24 Tryz.underlying80 HJ0.out HJ1.out HJ2.out HJ3.out rfl (by decide) vm ms.length (bK ms) rfl M6 ⟨x17.heap.size,0,none⟩ 1 1 [.int .i64 m.src,.int .i64 m.dst,.int .i64 m.piece] rfl rfl (Ls N6) jq (by decide) (by unfold maxLen; omega) (by omega) (Nat.le_trans HBB.out LB6.size) x6.heap.size rfl ?_
 intro g8 c8 x7 uZ hg7 hq7 hl7
 have B7:Box x7 b [.string R.name,.int .i64 R.width,.int .i64 R.height,vp,vs,.bool R.falls,.bool R.keeps,ve,.int .i64 R.blocked,.int .i64 R.quiet,.int .i64 R.bC,.slice (some ⟨g7,0,none⟩) (ms.length+1+1) c7,vm] 193:=B6.grown hg7 (fun e=>(LQ.out.sm b e.symm).2 rfl)
 have Bm7:Box x7 w.heap.size [.int .i64 m.src,.int .i64 m.dst,.int .i64 m.piece] 68:=Bm6.grown hg7 (fun e=>by have:=HOM.out _ e.symm; omega)
 have O7:=O6.kept hg7 HAP.out
 have F7:Fr (fun k=>S k∨k=g7) x17.drew x7:=F6.grown hg7 (fun q hq _=>.inl (PS.out q hq))
 have Q7:=ahS hq7 (Nat.le_trans aeX Z6)
 have Q7S:=hq7
 have M7:=uZ
 have Z7:=hg7.size
 have LB7:Below base w x7:=Below.grown LB6 hg7 (Nat.le_trans HBB.out LB6.size) (fun q hq=>(M6.lt q hq).1)
 clear uZ hg7 hq7
 refine hK.out _ _ ⟨B7.cell 12 rfl,Bm7.cell 0 rfl,Bm7.cell 1 rfl,Bm7.cell 2 rfl⟩ (fun hHeld=>?_)
 clear hK K
 refine aC 8 ?_
 refine aC 9 ?_
 refine rP 10 fun K hK=>?_
 have dd:=B7.cell 12 rfl
 have df:=B7.frozen 12
 go_simp
 refine aQ ?_
 intro x10 e10
 have yH:=hid e10
 clear e10 dd df
 refine hK.out _ _ ?_
 clear hK K
 refine jC ?_
 have B10:Box x10 b [.string R.name,.int .i64 R.width,.int .i64 R.height,vp,vs,.bool R.falls,.bool R.keeps,ve,.int .i64 R.blocked,.int .i64 R.quiet,.int .i64 R.bC,.slice (some ⟨g7,0,none⟩) (ms.length+1+1) c7,.slice (some ⟨g8,0,none⟩) (ms.length+1) c8] 193:=by rw [yH.out]; exact B7.set 12 _
 have hhb:g8≠b:=fun e=>by rcases Q7 with q | q; exact (LQ.out.sm g8 q).2 e; have:=HGB.out; have:=F17.size; omega
 have Gw:x10.ownsRow base 158 5 (.slice (some ⟨g7,0,none⟩) (ms.length+1+1) c7) (ms.length+1+1) (jU (rows++[⟨(bM R (bV R ms) m),.slice ya (bM R (bV R ms) m).cells.length yn,.slice LJ (bM R (bV R ms) m).h0.length Ug,.slice LK (bM R (bV R ms) m).h1.length Uh⟩])):=by rw [yH.out,← IB]; exact sW (p:=⟨b,12,none⟩) O7 (fun e=>hgb (by simpa [Value.ownBlock] using e)) _
 have M10:x10.ownsRow base 68 3 (.slice (some ⟨g8,0,none⟩) (ms.length+1) c8) (ms.length+1) (bK (ms++[m])):=by rw [yH.out,← iV]; exact sW (p:=⟨b,12,none⟩) M7 (fun e=>hhb (by simpa [Value.ownBlock] using e)) _
 have F10:Fr (fun k=>S k∨k=g7) x17.drew x10:=by rw [yH.out]; exact F7.setCell (.inl LQ.out.sb) _
 have FW:Fr S w x10:=(F17.drew).trans F10 HSH.out
 have hs10:iE x17.drew (fun k=>S k∨k=g7) (fun k=>(S k∨k=g7)∨k=g8):=abC Q7 PS.out aeX
 have hsw:iE w S (fun k=>(S k∨k=g7)∨k=g8):=HSH.out.trans hs10 F17.size
 have P10:=(P17.step (Fr.drew (Fr.refl _ x17)) (iE.refl _ _)).step F10 hs10
 have Z10:x7.heap.size=x10.heap.size:=by rw [yH.out]; simp [World.setCell]
 have vC:Below base w x10:=by rw [yH.out]; exact LB7.setCell (p:=⟨b,12,none⟩) (LQ.out.lo b LQ.out.sb).1 _
 have hgf:bJ X (fun k=>(S k∨k=g7)∨k=g8) base x10 b R (ms++[m]) vp vs ve (.slice (some ⟨g7,0,none⟩) (ms.length+1+1) c7) (.slice (some ⟨g8,0,none⟩) (ms.length+1) c8) (rows++[⟨(bM R (bV R ms) m),.slice ya (bM R (bV R ms) m).cells.length yn,.slice LJ (bM R (bV R ms) m).h0.length Ug,.slice LK (bM R (bV R ms) m).h1.length Uh⟩]):=⟨B10,.inl (.inl HG.out.sb),fun k hk=>by
   rcases hk with (hk | hk) | hk
   ·exact ⟨(HG.out.lo k hk).1,Nat.lt_of_lt_of_le (HG.out.lo k hk).2 FW.size⟩
   ·rw [hk]; exact Gw.lt g7 rfl
   ·rw [hk]; exact M10.lt g8 rfl,HG.out.rd.step FW hsw,by rw [List.length_append]; exact Gw,by rw [List.map_append,HG.out.mp,TT]; rfl,fun r hr=>by
   rcases List.mem_append.1 hr with hr | hr
   ·exact (HG.out.rw r hr).step FW hsw
   ·rw [List.mem_singleton.1 hr]; exact P10.imp (fun _ h=>h.rd),by rw [List.length_append]; exact M10,fun k hk=>by
   obtain rfl:g7=k:=by simpa [Value.ownBlock] using hk
   exact ⟨.inl (.inr rfl),hgb⟩,fun k hk=>by
   obtain rfl:g8=k:=by simpa [Value.ownBlock] using hk
   exact ⟨.inr rfl,hhb⟩,.inr (fun e=>Dh.out g8 (by simpa [Value.ownBlock] using e) Q7),by have:=HLT.out; simp; omega,HG.out.la.snoc aeQ.out,HG.out.re⟩
 have HGf:=hid hgf
 have HFW:=hid FW
 have HSW:=hid hsw
 clear hgf FW hsw B10 hhb Gw M10 F10 hs10 P10 Z10 vC hHeld By Bmy My Oy LBy B6 Bm6 M6 O6 F6 B7 Bm7 O7 F7 Q7 M7 LB7 LB6 N6 yH F17 P17 hgb aeX
 go_wp2_with fail
 go_ret
 exact .inr ⟨JY.out,rfl,_,_,_,_,HGf.out,HSW.out,HFW.out⟩
end Go.Proofs.YteablcielclaeaaGreatDoor.gx
namespace Go.Proofs.YteablcielclaeaaGreatDoor
open Go.RowKit
theorem vY {P:Program} {t e n:Nat} (cs:Array Value) (i:Int) (v:Value) (w:World) (h:P.underlying t=some (.array n e))
  (he:P.plainKey e=true) (hs:(sizeOf e).run P w=.ok 1 w) (h0:0≤i) (h1:i<n) (hx:cs[i.toNat]?=some v) :
  (Instr.index t (.agg cs) (.int .i64 i)).run P w=.ok v w:=by
 have hk:0≤i∧i<(n:Int):=⟨h0,h1⟩
 have hp:=run_part_plain (P:=P) (w:=w) (e:=e) he hx
 simp only [part] at hp
 simp [Instr.index,run_underlying h,asIntOf,hk,hs,go_sem]
 simpa [part] using hp
end Go.Proofs.YteablcielclaeaaGreatDoor

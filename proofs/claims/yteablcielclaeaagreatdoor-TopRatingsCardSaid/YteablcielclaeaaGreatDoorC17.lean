/- GxC, Base. -/
import Derived.Test.YteablcielclaeaaGreatDoorC16
import Derived.ChangeKeysEq
namespace Go.Proofs.YteablcielclaeaaGreatDoor.gx
open Go.ChangeShapes Go.WideShapes Go.ChangeAt Go.RowKit
set_option linter.unusedVariables false
open Go.Lib (hid)
def Dk (X S:Nat→Prop) (base b:Nat) (R:au) (ms:List aA) (m:aA) (vp vs ve:Value) (w:World) (e:Ending) (w':World):Prop:=
 (dG R ms m≠0∧e=.returned (.int .i64 (dG R ms m))∧Below w.heap.size w w') ∨
 (dG R ms m=0∧e=.returned (.int .i64 0)∧∃ S' W9 Vl rows',bM X S' base w' b R (ms++[m]) vp vs ve W9 Vl rows'∧iI w S S'∧Fr S w w')
set_option maxRecDepth 100000 in
set_option maxHeartbeats 4000000 in
theorem yG (HS:SortMvSaid) (m:aA) {X S:Nat→Prop} {base b:Nat} {R:au} {ms:List aA} {vp vs ve vl vm:Value} {rows:List lM} (w:World) (h:bM X S base w b R ms vp vs ve vl vm rows) (hb:base≤w.heap.size) (hX:∀ k,X k→k<w.heap.size):Calls Tryz.prog 170 #[.pointer (some ⟨b,0,none⟩),.agg #[.int .i64 m.src,.int .i64 m.dst,.int .i64 m.piece]] w (Dk X S base b R ms m vp vs ve w):=by
 have pq:=hid HS
 have HXX:=hid hX
 obtain ⟨g,c,hv⟩:=dY h.ol (by omega)
 subst hv
 have HG:=hid h
 have HK:=hid h.nok
 have HBB:=hid hb
 have HGB:=hid h.box.lt
 have HOL:Hid (∀ q,Value.ownBlock (.slice (some ⟨g,0,none⟩) (ms.length+1) c)=some q→q<w.heap.size):=hid (fun q hq=>(h.ol.lt q hq).2)
 have HOM:Hid (∀ q,vm.ownBlock=some q→q<w.heap.size):=hid (fun q hq=>(h.om.lt q hq).2)
 have HSL:Hid (∀ q,S q→q<w.heap.size):=hid (fun q hq=>(h.lo q hq).2)
 have ak6:Hid (g=b→False):=hid (fun e=>(h.sl g rfl).2 e)
 clear hX h HS hb
 go_enter Tryz.func170,Tryz.ntmps170
 go_upto_region 1 with (fail)
 have dW:=hid (Box.new w [.int .i64 m.src,.int .i64 m.dst,.int .i64 m.piece] 68)
 have Vk:=hid ((Below.refl w.heap.size w).alloc (Nat.le_refl _) (.cells #[.int .i64 m.src,.int .i64 m.dst,.int .i64 m.piece] 68))
 have HG0:=hid (HG.out.below ((Below.refl _ w).alloc (Nat.le_refl _) (.cells #[.int .i64 m.src,.int .i64 m.dst,.int .i64 m.piece] 68)))
 generalize (w.alloc (.cells #[.int .i64 m.src,.int .i64 m.dst,.int .i64 m.piece] 68))=w0 at *
 go_wp2_with fail
 refine (pG pq.out w0 HG0.out.plain).mono ?_
 rintro e w1 ⟨rfl,hb1⟩
 have HG1:=hid (HG0.out.below hb1)
 have agZ:=hid (dW.out.stays hb1)
 have ql:=hid (aj Vk.out hb1 Vk.out.size)
 clear hb1 HG0 dW Vk
 by_cases hr0:dV R ms=0
 rotate_left
 ·have JM:Hid (dG R ms m=14):=hid (by unfold dG; rw [if_pos hr0])
  have hrb:(dV R ms != 0)=true:=by simpa using hr0
  clear hr0
  go_wp2_with fail
  go_ret
  exact .inl ⟨by rw [JM.out]; decide,by rw [JM.out]; rfl,ql.out⟩
 have HR0:=hid hr0
 rw [hr0]
 clear hr0
 go_upto_region 3 with (fail)
 generalize w1=wq at *
 have Gz:bM X S base wq.drew b R ms vp vs ve (.slice (some ⟨g,0,none⟩) (ms.length+1) c) vm rows:=HG1.out.below (aP (Below.refl _ _))
 have Bmz:=agZ.out.drew
 have Lz:Below w.heap.size w wq.drew:=aP ql.out
 clear HG1 agZ ql
 refine wp_region_noPanic ?_
 refine bU (S:=(fun w'=>w'.cell? ⟨b,0,none⟩=some (.string R.name)∧w'.cell? ⟨b,1,none⟩=some (.int .i64 R.width)∧w'.cell? ⟨b,2,none⟩=some (.int .i64 R.height)∧w'.cell? ⟨b,3,none⟩=some vp∧w'.cell? ⟨b,4,none⟩=some vs∧w'.cell? ⟨b,5,none⟩=some (.bool R.falls)∧w'.cell? ⟨b,6,none⟩=some (.bool R.keeps)∧w'.cell? ⟨b,7,none⟩=some ve∧w'.cell? ⟨b,8,none⟩=some (.int .i64 R.blocked)∧w'.cell? ⟨b,9,none⟩=some (.int .i64 R.quiet)∧w'.cell? ⟨b,10,none⟩=some (.int .i64 R.aZ)∧w'.cell? ⟨w.heap.size,0,none⟩=some (.int .i64 m.src)∧w'.cell? ⟨w.heap.size,1,none⟩=some (.int .i64 m.dst)∧w'.cell? ⟨w.heap.size,2,none⟩=some (.int .i64 m.piece))) (L:=[]) (by kernel_rfl) (by and_intros <;> first | exact Gz.box.cell _ rfl | exact Bmz.cell _ rfl) (fun hHeld=>?_)
 refine aJ 0 ?_
 refine aJ 4 ?_
 refine eH 7 ?_
 refine aJ 1 ?_
 refine aJ 2 ?_
 refine eH 3 ?_
 refine gI 5 fun K hK=>?_
 go_simp
 refine (yx _ Gz.plain).mono ?_
 rintro e w5 ⟨nc,n0,n1,rfl,FP,hb5⟩
 have G5:=Gz.below hb5
 have Bm5:=Bmz.stays hb5
 have L5:=aj Lz hb5 Lz.size
 have N5:=FP.now
 clear hb5 FP
 refine hK.out _ _ (by and_intros <;> first | exact G5.box.cell _ rfl | exact Bm5.cell _ rfl) (fun hHeld=>?_)
 clear hK K
 refine gI 6 fun K hK=>?_
 go_simp
 refine (yh pq.out R vp vs ve (bJ R ms) nc n0 n1 _ G5.rd.now N5 HK.out).mono ?_
 rintro e w6 ⟨vx,rfl,Ic,hb6⟩
 obtain ⟨a6,c6,rfl⟩:=aH Ic
 have G6:=G5.below hb6
 have Bm6:=Bm5.stays hb6
 have L6:=aj L5 hb6 L5.size
 have R6:=lJ Ic
 clear hb6 Ic
 refine hK.out _ _ (by and_intros <;> first | exact G6.box.cell _ rfl | exact Bm6.cell _ rfl) (fun hHeld=>?_)
 clear hK K
 refine gI 8 fun K hK=>?_
 go_simp
 refine (Ap _ m _ _ R6).mono ?_
 rintro e w8 ⟨rfl,hb8⟩
 have G8:=G6.below hb8
 have Bm8:=Bm6.stays hb8
 have L8:=aj L6 hb8 L6.size
 clear hb8
 refine hK.out _ _ (by and_intros <;> first | exact G8.box.cell _ rfl | exact Bm8.cell _ rfl) (fun hHeld=>?_)
 clear hK K
 refine aJ 9 ?_
 refine aJ 10 ?_
 refine kW ?_
 have HG8:=hid G8
 have ag0:=hid Bm8
 have qY:=hid L8
 clear G8 Bm8 L8 G6 Bm6 L6 G5 Bm5 L5 N5 R6 Gz Bmz Lz hHeld
 by_cases hmm:m∈aW R (bJ R ms)
 rotate_left
 ·have JM:Hid (dG R ms m=13):=hid (by unfold dG; rw [if_neg (by simp [HR0.out]),if_pos hmm])
  have hd:decide (m∈aW R (bJ R ms))=false:=by simpa using hmm
  clear hmm
  rw [hd]
  go_wp2_with fail
  go_ret
  exact .inl ⟨by rw [JM.out]; decide,by rw [JM.out]; rfl,qY.out⟩
 have hd:decide (m∈aW R (bJ R ms))=true:=by simpa using hmm
 rw [hd]
 have adI:=hid hmm
 have HF:=hid (jZ HK.out hmm)
 have hc12:=HG8.out.box.cell 12 rfl
 have hbl:=HG8.out.box.lt
 obtain ⟨xv,xc,hvm⟩:=aH HG8.out.om
 clear hmm hd
 by_cases hfl:ms.length=400
 ·have JM:Hid (dG R ms m=9):=hid (by unfold dG; rw [if_neg (by simp [HR0.out]),if_neg (by simp [adI.out]),if_pos hfl])
  have ag1:((ms.length:Int) == 400)=true:=by simp [hfl]
  clear hfl
  rw [hvm] at hc12
  go_wp2_with fail
  go_ret
  exact .inl ⟨by rw [JM.out]; decide,by rw [JM.out]; rfl,qY.out⟩
 have JM:Hid (dG R ms m=0):=hid (by unfold dG; rw [if_neg (by simp [HR0.out]),if_neg (by simp [adI.out]),if_neg hfl])
 have ag1:((ms.length:Int) == 400)=false:=by simp; omega
 have HLT:Hid (ms.length<400):=hid (by have:=HG8.out.lt; omega)
 have hlm:ms.length≤400:=HG8.out.lt
 clear hfl
 rw [hvm] at hc12
 go_upto_region 7 with (fail)
 clear hc12 hbl hvm ag1
 obtain ⟨i0,hi0,hi1,hi2,hi3⟩:=nI aaw
 obtain ⟨j0,hj0,hj1,hj2,hj3⟩:=nI oq
 have HI0:=hid hi0
 have HI1:=hid hi1
 have HI2:=hid hi2
 have HI3:=hid hi3
 have HJ0:=hid hj0
 have HJ1:=hid hj1
 have HJ2:=hid hj2
 have HJ3:=hid hj3
 clear hi0 hi1 hi2 hi3 hj0 hj1 hj2 hj3
 generalize w8=wq at *
 have Gz:bM X S base wq.drew b R ms vp vs ve (.slice (some ⟨g,0,none⟩) (ms.length+1) c) vm rows:=HG8.out.below (aP (Below.refl _ _))
 have Bmz:=ag0.out.drew
 have Lz:Below w.heap.size w wq.drew:=aP qY.out
 clear HG8 ag0 qY
 refine wp_region_noPanic ?_
 refine bU (S:=(fun w'=>w'.cell? ⟨b,0,none⟩=some (.string R.name)∧w'.cell? ⟨b,1,none⟩=some (.int .i64 R.width)∧w'.cell? ⟨b,2,none⟩=some (.int .i64 R.height)∧w'.cell? ⟨b,3,none⟩=some vp∧w'.cell? ⟨b,4,none⟩=some vs∧w'.cell? ⟨b,5,none⟩=some (.bool R.falls)∧w'.cell? ⟨b,6,none⟩=some (.bool R.keeps)∧w'.cell? ⟨b,7,none⟩=some ve∧w'.cell? ⟨b,8,none⟩=some (.int .i64 R.blocked)∧w'.cell? ⟨b,9,none⟩=some (.int .i64 R.quiet)∧w'.cell? ⟨b,10,none⟩=some (.int .i64 R.aZ)∧w'.cell? ⟨b,11,none⟩=some (.slice (some ⟨g,0,none⟩) (ms.length+1) c)∧w'.cell? ⟨w.heap.size,0,none⟩=some (.int .i64 m.src)∧w'.cell? ⟨w.heap.size,1,none⟩=some (.int .i64 m.dst)∧w'.cell? ⟨w.heap.size,2,none⟩=some (.int .i64 m.piece))) (L:=[17]) (by kernel_rfl) (by and_intros <;> first | exact Gz.box.cell _ rfl | exact Bmz.cell _ rfl) (fun hHeld=>?_)
 refine aJ 0 ?_
 refine aJ 1 ?_
 refine aJ 5 ?_
 refine aJ 9 ?_
 refine eH 11 ?_
 refine aJ 2 ?_
 refine aJ 6 ?_
 refine aJ 3 ?_
 refine aJ 7 ?_
 refine eH 4 ?_
 refine eH 8 ?_
 refine gI 10 fun K hK=>?_
 go_simp
 refine (yx _ Gz.plain).mono ?_
 rintro e w10 ⟨nc,n0,n1,rfl,ag2,jW⟩
 have Vo:=Gz.below jW
 have adK:=Bmz.stays jW
 have sZ:=aj Lz jW Lz.size
 have N10:=ag2.now
 clear jW ag2
 refine hK.out _ _ (by and_intros <;> first | exact Vo.box.cell _ rfl | exact adK.cell _ rfl) (fun hHeld=>?_)
 clear hK K
 refine gI 12 fun K hK=>?_
 go_simp
 refine (KW R vp vs ve (bJ R ms) nc n0 n1 m _ N10 HK.out HF.out).mono ?_
 rintro e w12 ⟨yc,y0,y1,rfl,Xo,IQ⟩
 obtain ⟨ya,yn,rfl⟩:=aH Xo.1
 obtain ⟨Lr,TJ,rfl⟩:=aH Xo.2.1
 obtain ⟨Ls,TK,rfl⟩:=aH Xo.2.2.1
 unfold sH
 have G12:=Vo.below IQ
 have adL:=adK.stays IQ
 have Xp:=aj sZ IQ sZ.size
 have P12:mM w.heap.size w12 (bF R (bJ R ms) m) (.slice ya (bF R (bJ R ms) m).cells.length yn) (.slice Lr (bF R (bJ R ms) m).h0.length TJ) (.slice Ls (bF R (bJ R ms) m).h1.length TK):=Xo.base sZ.size
 clear IQ Xo
 refine hK.out _ _ (by and_intros <;> first | exact G12.box.cell _ rfl | exact adL.cell _ rfl) (fun hHeld=>?_)
 clear hK K
 refine gI 13 fun K hK=>?_
 go_simp
 refine bg ?_
 intro rX e13
 have OV:Below w12.heap.size w12 rX:=by rw [e13]; exact (Below.refl _ _).alloc (Nat.le_refl _) _
 have N13:Box rX w12.heap.size [.slice ya (bF R (bJ R ms) m).cells.length yn,.slice Lr (bF R (bJ R ms) m).h0.length TJ,.slice Ls (bF R (bJ R ms) m).h1.length TK,.int .i64 (bF R (bJ R ms) m).turn,.int .i64 (bF R (bJ R ms) m).quiet] 158:=by rw [e13]; exact Box.new' _ _ _ _ rfl
 have Lu:=G12.below OV
 have adM:=adL.stays OV
 have L13:=aj Xp OV Xp.size
 have QO:mM w.heap.size rX (bF R (bJ R ms) m) (.slice ya (bF R (bJ R ms) m).cells.length yn) (.slice Lr (bF R (bJ R ms) m).h0.length TJ) (.slice Ls (bF R (bJ R ms) m).h1.length TK):=⟨aU P12.1 OV,aU P12.2.1 OV,aU P12.2.2.1 OV,P12.2.2.2⟩
 clear OV e13
 refine hK.out _ _ (by and_intros <;> first | exact Lu.box.cell _ rfl | exact adM.cell _ rfl) (fun hHeld=>?_)
 clear hK K
 refine gI 14 fun K hK=>?_
 rw [if_pos (by rfl)]
 refine wp_append_lies _ _ _ 191 rfl base 158 i0 (.agg #[.slice none 0 0,.slice none 0 0,.slice none 0 0,.int .i64 0,.int .i64 0]) 5 88 Tryz.underlying191 HI0.out HI1.out HI2.out HI3.out rfl (by decide) (.slice (some ⟨g,0,none⟩) (ms.length+1) c) (ms.length+1) (jU rows) rfl Lu.ol ⟨w12.heap.size,0,none⟩ 1 1 [.slice ya (bF R (bJ R ms) m).cells.length yn,.slice Lr (bF R (bJ R ms) m).h0.length TJ,.slice Ls (bF R (bJ R ms) m).h1.length TK,.int .i64 (bF R (bJ R ms) m).turn,.int .i64 (bF R (bJ R ms) m).quiet] rfl rfl (Le N13) aax (by decide) (by unfold maxLen; omega) (by omega) (Nat.le_trans HBB.out L13.size) rX.heap.size rfl ?_
 intro g7 c7 wV yH LC adN ala
 have hgo:∀ q,Value.ownBlock (.slice (some ⟨g,0,none⟩) (ms.length+1) c)=some q→q<w.heap.size:=fun q hq=>HOL.out q hq
 have B14:Box wV b [.string R.name,.int .i64 R.width,.int .i64 R.height,vp,vs,.bool R.falls,.bool R.keeps,ve,.int .i64 R.blocked,.int .i64 R.quiet,.int .i64 R.aZ,.slice (some ⟨g,0,none⟩) (ms.length+1) c,vm] 193:=Lu.box.grown LC (fun e=>(Lu.sl b e.symm).2 rfl)
 have adO:Box wV w.heap.size [.int .i64 m.src,.int .i64 m.dst,.int .i64 m.piece] 68:=adM.grown LC (fun e=>by have:=hgo _ e.symm; omega)
 have F14:Fr S w wV:=(Fr.lK L13).grown LC (fun q hq _=>(Lu.sl q hq).1)
 have acI:Fr S rX wV:=(Fr.refl S rX).grown LC (fun q hq _=>(Lu.sl q hq).1)
 have M14:=Lu.om.kept LC (rE Lu.ap)
 have JO:=yH
 have TL:=LC.size
 have ZK:=akX (g:=g) adN L13.size
 have ag5:=newS (S:=S) adN (fun q hq=>(Lu.sl q hq).1)
 have P14:Held X S rX fun w'=>mM w.heap.size w' (bF R (bJ R ms) m) (.slice ya (bF R (bJ R ms) m).cells.length yn) (.slice Lr (bF R (bJ R ms) m).h0.length TJ) (.slice Ls (bF R (bJ R ms) m).h1.length TK):=zF QO (fun q h1 _ hS=>by rcases hS with hS | hS; (have:=HSL.out q hS; omega); (have:=HXX.out q hS; omega))
 have ag6:Below base w wV:=Below.grown ((L13.mono HBB.out)) LC (Nat.le_trans HBB.out L13.size) (fun q hq=>(Lu.ol.lt q hq).1)
 clear yH LC adN
 refine hK.out _ _ (by and_intros <;> first | exact B14.cell _ rfl | exact adO.cell _ rfl) (fun hHeld=>?_)
 clear hK K
 refine aJ 15 ?_
 refine aJ 16 ?_
 refine xU 17 fun K hK=>?_
 have dd:=B14.cell 11 rfl
 have df:=B14.frozen 11
 go_simp
 refine bg ?_
 intro w17 e17
 have E17:=hid e17
 clear e17 dd df
 refine hK.out _ _ ?_
 clear hK K
 refine kW ?_
 have B17:Box w17 b [.string R.name,.int .i64 R.width,.int .i64 R.height,vp,vs,.bool R.falls,.bool R.keeps,ve,.int .i64 R.blocked,.int .i64 R.quiet,.int .i64 R.aZ,.slice (some ⟨g7,0,none⟩) (ms.length+1+1) c7,vm] 193:=by rw [E17.out]; exact B14.set 11 _
 have hgb:g7≠b:=fun e=>by rcases ZK with q | q; exact (ak6.out (by rw [← q,e])); have:=HGB.out; omega
 have O17:w17.ownsRow base 158 5 (.slice (some ⟨g7,0,none⟩) (ms.length+1+1) c7) (ms.length+1+1) (jU rows++[.slice ya (bF R (bJ R ms) m).cells.length yn,.slice Lr (bF R (bJ R ms) m).h0.length TJ,.slice Ls (bF R (bJ R ms) m).h1.length TK,.int .i64 (bF R (bJ R ms) m).turn,.int .i64 (bF R (bJ R ms) m).quiet]):=by rw [E17.out]; exact ug (p:=⟨b,11,none⟩) JO (fun e=>hgb (by simpa [Value.ownBlock] using e)) _
 have M17:w17.ownsRow base 68 3 vm ms.length (bf ms):=by rw [E17.out]; exact ug (p:=⟨b,11,none⟩) M14 (fun e=>(Lu.sm b e).2 rfl) _
 have F17:Fr S w w17:=by rw [E17.out]; exact F14.setCell Lu.sb _
 have hsh:iI rX S (fun k=>S k∨k=g7):=aay ag5
 have P17:Held X (fun k=>S k∨k=g7) w17 fun w'=>mM w.heap.size w' (bF R (bJ R ms) m) (.slice ya (bF R (bJ R ms) m).cells.length yn) (.slice Lr (bF R (bJ R ms) m).h0.length TJ) (.slice Ls (bF R (bJ R ms) m).h1.length TK):=by rw [E17.out]; exact (P14.step acI hsh).step ((Fr.refl (fun k=>S k∨k=g7) wV).setCell (.inl Lu.sb) _) (iI.refl _ _)
 have Xq:Box w17 w.heap.size [.int .i64 m.src,.int .i64 m.dst,.int .i64 m.piece] 68:=by rw [E17.out]; exact adO.far ⟨b,11,none⟩ _ (fun e=>by have:=HGB.out; simp at e; omega)
 have Z17:wV.heap.size=w17.heap.size:=by rw [E17.out]; simp [World.setCell]
 have Xr:Below base w w17:=by rw [E17.out]; exact ag6.setCell (p:=⟨b,11,none⟩) (Lu.lo b Lu.sb).1 _
 have HH:=hid (And.intro B17 (And.intro hgb (And.intro O17 (And.intro M17 (And.intro F17 (And.intro P17 (And.intro Xq (And.intro ZK (And.intro Xr (And.intro TL Z17))))))))))
 have LD:=hid Lu
 clear B17 hgb O17 M17 F17 hsh P17 Xq TL Z17 Xr ag6 ZK ag5 B14 adO F14 acI M14 JO P14 QO P12 N13 Lu G12 Vo Gz Bmz adK adL adM Lz sZ Xp L13 N10 hgo E17 ala hHeld
 go_upto_region 8 with (fail)
 generalize w17=x17 at *
 obtain ⟨B17,hgb,O17,M17,F17,P17,Xq,ZK,Xr,TL,Z17⟩:=HH.out
 clear HH
 have HSH:Hid (iI w S (fun k=>S k∨k=g7)):=hid (fun k hk h=>by
  rcases h with h | h
  ·exact h
  ·subst h
   rcases ZK with q | q
   ·rw [q]; exact (LD.out.sl g rfl).1
   ·omega)
 have HAP:Hid (Value.ownBlock (.slice (some ⟨g7,0,none⟩) (ms.length+1+1) c7)=none∨Value.ownBlock (.slice (some ⟨g7,0,none⟩) (ms.length+1+1) c7)≠vm.ownBlock):=hid (.inr (fun e=>by
  rcases ZK with q | q
  ·rw [q] at e
   rcases LD.out.ap with h | h
   ·cases h
   ·exact h e
  ·have:=HOM.out g7 e.symm; omega))
 have Ik:Hid (∀ g8,g7=g8→(vm.ownBlock=some g8∨x17.heap.size≤g8)→False):=hid (fun g8 e h=>by
  subst e
  rcases h with h | h
  ·rcases HAP.out with q | q
   ·cases q
   ·exact q h.symm
  ·have:=(O17.lt g7 rfl).2; omega)
 have HSM:Hid (∀ k,vm.ownBlock=some k→S k):=hid (fun k hk=>(LD.out.sm k hk).1)
 have By:Box x17.drew b [.string R.name,.int .i64 R.width,.int .i64 R.height,vp,vs,.bool R.falls,.bool R.keeps,ve,.int .i64 R.blocked,.int .i64 R.quiet,.int .i64 R.aZ,.slice (some ⟨g7,0,none⟩) (ms.length+1+1) c7,vm] 193:=B17
 have Bmy:Box x17.drew w.heap.size [.int .i64 m.src,.int .i64 m.dst,.int .i64 m.piece] 68:=Xq
 have My:x17.drew.ownsRow base 68 3 vm ms.length (bf ms):=M17
 have Oy:x17.drew.ownsRow base 158 5 (.slice (some ⟨g7,0,none⟩) (ms.length+1+1) c7) (ms.length+1+1) (jU rows++[.slice ya (bF R (bJ R ms) m).cells.length yn,.slice Lr (bF R (bJ R ms) m).h0.length TJ,.slice Ls (bF R (bJ R ms) m).h1.length TK,.int .i64 (bF R (bJ R ms) m).turn,.int .i64 (bF R (bJ R ms) m).quiet]):=O17
 have LBy:Below base w x17.drew:=aP Xr
 have adQ:x17.heap.size≤x17.drew.heap.size:=Nat.le_refl _
 clear B17 O17 M17 Xq ZK Xr TL Z17
 refine wp_region_noPanic ?_
 refine bU (S:=(fun w'=>w'.cell? ⟨b,12,none⟩=some vm∧w'.cell? ⟨w.heap.size,0,none⟩=some (.int .i64 m.src)∧w'.cell? ⟨w.heap.size,1,none⟩=some (.int .i64 m.dst)∧w'.cell? ⟨w.heap.size,2,none⟩=some (.int .i64 m.piece))) (L:=[10]) (by kernel_rfl) ⟨By.cell 12 rfl,Bmy.cell 0 rfl,Bmy.cell 1 rfl,Bmy.cell 2 rfl⟩ (fun hHeld=>?_)
 refine aJ 0 ?_
 refine aJ 1 ?_
 refine eH 5 ?_
 refine aJ 2 ?_
 refine aJ 3 ?_
 refine eH 4 ?_
 refine gI 6 fun K hK=>?_
 go_simp
 refine bg ?_
 intro x6 e6
 have hb6:Below x17.drew.heap.size x17.drew x6:=by rw [e6]; exact (Below.refl _ _).alloc (Nat.le_refl _) _
 have N6:Box x6 x17.heap.size [.int .i64 m.src,.int .i64 m.dst,.int .i64 m.piece] 68:=by rw [e6]; exact Box.new' _ _ _ _ rfl
 have B6:=By.stays hb6
 have Bm6:=Bmy.stays hb6
 have M6:=aU My hb6
 have O6:=aU Oy hb6
 have F6:Fr (fun k=>S k∨k=g7) x17.drew x6:=Fr.lK hb6
 have Z6:=hb6.size
 have LB6:Below base w x6:=LBy.trans (hb6.mono (Nat.le_trans HBB.out LBy.size))
 clear hb6 e6
 refine hK.out _ _ ⟨B6.cell 12 rfl,Bm6.cell 0 rfl,Bm6.cell 1 rfl,Bm6.cell 2 rfl⟩ (fun hHeld=>?_)
 clear hK K
 refine gI 7 fun K hK=>?_
 rw [if_pos (by rfl)]
 refine wp_append_lies _ _ _ 80 rfl base 68 j0 (.agg #[.int .i64 0,.int .i64 0,.int .i64 0]) 3 24 Tryz.underlying80 HJ0.out HJ1.out HJ2.out HJ3.out rfl (by decide) vm ms.length (bf ms) rfl M6 ⟨x17.heap.size,0,none⟩ 1 1 [.int .i64 m.src,.int .i64 m.dst,.int .i64 m.piece] rfl rfl (Le N6) jq (by decide) (by unfold maxLen; omega) (by omega) (Nat.le_trans HBB.out LB6.size) x6.heap.size rfl ?_
 intro g8 c8 x7 vK hg7 hq7 hl7
 have B7:Box x7 b [.string R.name,.int .i64 R.width,.int .i64 R.height,vp,vs,.bool R.falls,.bool R.keeps,ve,.int .i64 R.blocked,.int .i64 R.quiet,.int .i64 R.aZ,.slice (some ⟨g7,0,none⟩) (ms.length+1+1) c7,vm] 193:=B6.grown hg7 (fun e=>(LD.out.sm b e.symm).2 rfl)
 have Bm7:Box x7 w.heap.size [.int .i64 m.src,.int .i64 m.dst,.int .i64 m.piece] 68:=Bm6.grown hg7 (fun e=>by have:=HOM.out _ e.symm; omega)
 have O7:=O6.kept hg7 HAP.out
 have F7:Fr (fun k=>S k∨k=g7) x17.drew x7:=F6.grown hg7 (fun q hq _=>.inl (HSM.out q hq))
 have Q7:=agI hq7 (Nat.le_trans adQ Z6)
 have Q7S:=hq7
 have M7:=vK
 have Z7:=hg7.size
 have LB7:Below base w x7:=Below.grown LB6 hg7 (Nat.le_trans HBB.out LB6.size) (fun q hq=>(M6.lt q hq).1)
 clear vK hg7 hq7
 refine hK.out _ _ ⟨B7.cell 12 rfl,Bm7.cell 0 rfl,Bm7.cell 1 rfl,Bm7.cell 2 rfl⟩ (fun hHeld=>?_)
 clear hK K
 refine aJ 8 ?_
 refine aJ 9 ?_
 refine xU 10 fun K hK=>?_
 have dd:=B7.cell 12 rfl
 have df:=B7.frozen 12
 go_simp
 refine bg ?_
 intro x10 e10
 have vM:=hid e10
 clear e10 dd df
 refine hK.out _ _ ?_
 clear hK K
 refine kW ?_
 have B10:Box x10 b [.string R.name,.int .i64 R.width,.int .i64 R.height,vp,vs,.bool R.falls,.bool R.keeps,ve,.int .i64 R.blocked,.int .i64 R.quiet,.int .i64 R.aZ,.slice (some ⟨g7,0,none⟩) (ms.length+1+1) c7,.slice (some ⟨g8,0,none⟩) (ms.length+1) c8] 193:=by rw [vM.out]; exact B7.set 12 _
 have hhb:g8≠b:=fun e=>by rcases Q7 with q | q; exact (LD.out.sm g8 q).2 e; have:=HGB.out; have:=F17.size; omega
 have FZ:x10.ownsRow base 158 5 (.slice (some ⟨g7,0,none⟩) (ms.length+1+1) c7) (ms.length+1+1) (jU (rows++[⟨(bF R (bJ R ms) m),.slice ya (bF R (bJ R ms) m).cells.length yn,.slice Lr (bF R (bJ R ms) m).h0.length TJ,.slice Ls (bF R (bJ R ms) m).h1.length TK⟩])):=by rw [vM.out,← Iy]; exact ug (p:=⟨b,12,none⟩) O7 (fun e=>hgb (by simpa [Value.ownBlock] using e)) _
 have M10:x10.ownsRow base 68 3 (.slice (some ⟨g8,0,none⟩) (ms.length+1) c8) (ms.length+1) (bf (ms++[m])):=by rw [vM.out,← iF]; exact ug (p:=⟨b,12,none⟩) M7 (fun e=>hhb (by simpa [Value.ownBlock] using e)) _
 have F10:Fr (fun k=>S k∨k=g7) x17.drew x10:=by rw [vM.out]; exact F7.setCell (.inl LD.out.sb) _
 have FW:Fr S w x10:=(F17.drew).trans F10 HSH.out
 have hs10:iI x17.drew (fun k=>S k∨k=g7) (fun k=>(S k∨k=g7)∨k=g8):=aaz Q7 HSM.out adQ
 have hsw:iI w S (fun k=>(S k∨k=g7)∨k=g8):=HSH.out.trans hs10 F17.size
 have P10:=(P17.step (Fr.drew (Fr.refl _ x17)) (iI.refl _ _)).step F10 hs10
 have Z10:x7.heap.size=x10.heap.size:=by rw [vM.out]; simp [World.setCell]
 have alc:Below base w x10:=by rw [vM.out]; exact LB7.setCell (p:=⟨b,12,none⟩) (LD.out.lo b LD.out.sb).1 _
 have hgf:bM X (fun k=>(S k∨k=g7)∨k=g8) base x10 b R (ms++[m]) vp vs ve (.slice (some ⟨g7,0,none⟩) (ms.length+1+1) c7) (.slice (some ⟨g8,0,none⟩) (ms.length+1) c8) (rows++[⟨(bF R (bJ R ms) m),.slice ya (bF R (bJ R ms) m).cells.length yn,.slice Lr (bF R (bJ R ms) m).h0.length TJ,.slice Ls (bF R (bJ R ms) m).h1.length TK⟩]):=⟨B10,.inl (.inl HG.out.sb),fun k hk=>by
   rcases hk with (hk | hk) | hk
   ·exact ⟨(HG.out.lo k hk).1,Nat.lt_of_lt_of_le (HG.out.lo k hk).2 FW.size⟩
   ·rw [hk]; exact FZ.lt g7 rfl
   ·rw [hk]; exact M10.lt g8 rfl,HG.out.rd.step FW hsw,by rw [List.length_append]; exact FZ,by rw [List.map_append,HG.out.mp,Tj]; rfl,fun r hr=>by
   rcases List.mem_append.1 hr with hr | hr
   ·exact (HG.out.rw r hr).step FW hsw
   ·rw [List.mem_singleton.1 hr]; exact P10.imp (fun _ h=>h.rd),by rw [List.length_append]; exact M10,fun k hk=>by
   obtain rfl:g7=k:=by simpa [Value.ownBlock] using hk
   exact ⟨.inl (.inr rfl),hgb⟩,fun k hk=>by
   obtain rfl:g8=k:=by simpa [Value.ownBlock] using hk
   exact ⟨.inr rfl,hhb⟩,.inr (fun e=>Ik.out g8 (by simpa [Value.ownBlock] using e) Q7),by have:=HLT.out; simp; omega,HG.out.la.snoc adI.out,HG.out.re⟩
 have HGf:=hid hgf
 have HFW:=hid FW
 have HSW:=hid hsw
 clear hgf FW hsw B10 hhb FZ M10 F10 hs10 P10 Z10 alc hHeld By Bmy My Oy LBy B6 Bm6 M6 O6 F6 B7 Bm7 O7 F7 Q7 M7 LB7 LB6 N6 vM F17 P17 hgb adQ
 go_wp2_with fail
 go_ret
 exact .inr ⟨JM.out,rfl,_,_,_,_,HGf.out,HSW.out,HFW.out⟩
end Go.Proofs.YteablcielclaeaaGreatDoor.gx
namespace Go.Proofs.YteablcielclaeaaGreatDoor
open Go.RowKit
theorem pY {P:Program} {t e n:Nat} (cs:Array Value) (i:Int) (v:Value) (w:World) (h:P.underlying t=some (.array n e))
  (he:P.plainKey e=true) (hs:(sizeOf e).run P w=.ok 1 w) (h0:0≤i) (h1:i<n) (hx:cs[i.toNat]?=some v) :
  (Instr.index t (.agg cs) (.int .i64 i)).run P w=.ok v w:=by
 have hk:0≤i∧i<(n:Int):=⟨h0,h1⟩
 have hp:=run_part_plain (P:=P) (w:=w) (e:=e) he hx
 simp only [part] at hp
 simp [Instr.index,run_underlying h,asIntOf,hk,hs,go_sem]
 simpa [part] using hp
end Go.Proofs.YteablcielclaeaaGreatDoor

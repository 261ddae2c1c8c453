/- GxC, Base. -/
import Derived.Test.YtmabaojkignodaaGreatDoorE18
import Derived.ChangeKeysEq
namespace Go.Proofs.YtmabaojkignodaaGreatDoor.gx
open Go.ChangeShapes Go.WideShapes Go.ChangeAt Go.RowKit
set_option linter.unusedVariables false
open Go.Lib (hid)
def QW (X S:Nat→Prop) (base b:Nat) (R:aC) (ms:List aN) (m:aN) (vp vs ve:Value) (w:World) (e:Ending) (w':World):Prop:=
 (iV R ms m≠0∧e=.returned (.int .i64 (iV R ms m))∧Below w.heap.size w w') ∨
 (iV R ms m=0∧e=.returned (.int .i64 0)∧∃ S' VB VD rows',bP X S' base w' b R (ms++[m]) vp vs ve VB VD rows'∧dw w S S'∧Fr S w w')
set_option maxRecDepth 100000 in
set_option maxHeartbeats 4000000 in
theorem QX (HS:SortMvSaid) (m:aN) {X S:Nat→Prop} {base b:Nat} {R:aC} {ms:List aN} {vp vs ve vl vm:Value} {rows:List lD} (w:World) (h:bP X S base w b R ms vp vs ve vl vm rows) (hb:base≤w.heap.size) (hX:∀ k,X k→k<w.heap.size):Calls Tryz.prog 185 #[.pointer (some ⟨b,0,none⟩),.agg #[.int .i64 m.src,.int .i64 m.dst,.int .i64 m.piece]] w (QW X S base b R ms m vp vs ve w):=by
 have lY:=hid HS
 have HXX:=hid hX
 obtain ⟨g,c,hv⟩:=iq h.ol (by omega)
 subst hv
 have HG:=hid h
 have HK:=hid h.Ub
 have U4:=hid hb
 have HGB:=hid h.box.lt
 have HOL:Hid (∀ q,Value.ownBlock (.slice (some ⟨g,0,none⟩) (ms.length+1) c)=some q→q<w.heap.size):=hid (fun q hq=>(h.ol.lt q hq).2)
 have HOM:Hid (∀ q,vm.ownBlock=some q→q<w.heap.size):=hid (fun q hq=>(h.om.lt q hq).2)
 have HSL:Hid (∀ q,S q→q<w.heap.size):=hid (fun q hq=>(h.lo q hq).2)
 have aeF:Hid (g=b→False):=hid (fun e=>(h.sl g rfl).2 e)
 clear hX h HS hb
 go_enter Tryz.func185,Tryz.ntmps185
 go_upto_region 1 with (fail)
 have dY:=hid (Box.new w [.int .i64 m.src,.int .i64 m.dst,.int .i64 m.piece] 52)
 have WW:=hid ((Below.refl w.heap.size w).alloc (Nat.le_refl _) (.cells #[.int .i64 m.src,.int .i64 m.dst,.int .i64 m.piece] 52))
 have Uc:=hid (HG.out.below ((Below.refl _ w).alloc (Nat.le_refl _) (.cells #[.int .i64 m.src,.int .i64 m.dst,.int .i64 m.piece] 52)))
 generalize (w.alloc (.cells #[.int .i64 m.src,.int .i64 m.dst,.int .i64 m.piece] 52))=w0 at *
 go_wp2_with fail
 refine (rU lY.out w0 Uc.out.plain).mono ?_
 rintro e w1 ⟨rfl,hb1⟩
 have HG1:=hid (Uc.out.below hb1)
 have abo:=hid (dY.out.stays hb1)
 have FH:=hid (aj WW.out hb1 WW.out.size)
 clear hb1 Uc dY WW
 by_cases hr0:fM R ms=0
 rotate_left
 ·have FP:Hid (iV R ms m=14):=hid (by unfold iV; rw [if_pos hr0])
  have hrb:(fM R ms != 0)=true:=by simpa using hr0
  clear hr0
  go_wp2_with fail
  go_ret
  exact .inl ⟨by rw [FP.out]; decide,by rw [FP.out]; rfl,FH.out⟩
 have HR0:=hid hr0
 rw [hr0]
 clear hr0
 go_upto_region 3 with (fail)
 generalize w1=wq at *
 have Gz:bP X S base wq.drew b R ms vp vs ve (.slice (some ⟨g,0,none⟩) (ms.length+1) c) vm rows:=HG1.out.below (aA (Below.refl _ _))
 have Yq:=abo.out.drew
 have Lz:Below w.heap.size w wq.drew:=aA FH.out
 clear HG1 abo FH
 refine wp_region_noPanic ?_
 refine bG (S:=(fun w'=>w'.cell? ⟨b,0,none⟩=some (.string R.name)∧w'.cell? ⟨b,1,none⟩=some (.int .i64 R.width)∧w'.cell? ⟨b,2,none⟩=some (.int .i64 R.height)∧w'.cell? ⟨b,3,none⟩=some vp∧w'.cell? ⟨b,4,none⟩=some vs∧w'.cell? ⟨b,5,none⟩=some (.bool R.falls)∧w'.cell? ⟨b,6,none⟩=some (.bool R.keeps)∧w'.cell? ⟨b,7,none⟩=some ve∧w'.cell? ⟨b,8,none⟩=some (.int .i64 R.blocked)∧w'.cell? ⟨b,9,none⟩=some (.int .i64 R.quiet)∧w'.cell? ⟨b,10,none⟩=some (.int .i64 R.bF)∧w'.cell? ⟨w.heap.size,0,none⟩=some (.int .i64 m.src)∧w'.cell? ⟨w.heap.size,1,none⟩=some (.int .i64 m.dst)∧w'.cell? ⟨w.heap.size,2,none⟩=some (.int .i64 m.piece))) (L:=[]) (by kernel_rfl) (by and_intros <;> first | exact Gz.box.cell _ rfl | exact Yq.cell _ rfl) (fun hHeld=>?_)
 refine aF 0 ?_
 refine aF 4 ?_
 refine dL 7 ?_
 refine aF 1 ?_
 refine aF 2 ?_
 refine dL 3 ?_
 refine dO 5 fun K hK=>?_
 go_simp
 refine (wu _ Gz.plain).mono ?_
 rintro e w5 ⟨nc,n0,n1,rfl,Du,hb5⟩
 have G5:=Gz.below hb5
 have Bm5:=Yq.stays hb5
 have L5:=aj Lz hb5 Lz.size
 have N5:=Du.now
 clear hb5 Du
 refine hK.out _ _ (by and_intros <;> first | exact G5.box.cell _ rfl | exact Bm5.cell _ rfl) (fun hHeld=>?_)
 clear hK K
 refine dO 6 fun K hK=>?_
 go_simp
 refine (vV lY.out R vp vs ve (bn R ms) nc n0 n1 _ G5.rd.now N5 HK.out).mono ?_
 rintro e w6 ⟨vx,rfl,uV,hb6⟩
 obtain ⟨a6,c6,rfl⟩:=aI uV
 have G6:=G5.below hb6
 have VE:=Bm5.stays hb6
 have L6:=aj L5 hb6 L5.size
 have R6:=kQ uV
 clear hb6 uV
 refine hK.out _ _ (by and_intros <;> first | exact G6.box.cell _ rfl | exact VE.cell _ rfl) (fun hHeld=>?_)
 clear hK K
 refine dO 8 fun K hK=>?_
 go_simp
 refine (lC _ m _ _ R6).mono ?_
 rintro e w8 ⟨rfl,hb8⟩
 have G8:=G6.below hb8
 have Bm8:=VE.stays hb8
 have L8:=aj L6 hb8 L6.size
 clear hb8
 refine hK.out _ _ (by and_intros <;> first | exact G8.box.cell _ rfl | exact Bm8.cell _ rfl) (fun hHeld=>?_)
 clear hK K
 refine aF 9 ?_
 refine aF 10 ?_
 refine iE ?_
 have Yr:=hid G8
 have abp:=hid Bm8
 have pY:=hid L8
 clear G8 Bm8 L8 G6 VE L6 G5 Bm5 L5 N5 R6 Gz Yq Lz hHeld
 by_cases hmm:m∈iF R (bn R ms)
 rotate_left
 ·have FP:Hid (iV R ms m=13):=hid (by unfold iV; rw [if_neg (by simp [HR0.out]),if_pos hmm])
  have hd:decide (m∈iF R (bn R ms))=false:=by simpa using hmm
  clear hmm
  rw [hd]
  go_wp2_with fail
  go_ret
  exact .inl ⟨by rw [FP.out]; decide,by rw [FP.out]; rfl,pY.out⟩
 have hd:decide (m∈iF R (bn R ms))=true:=by simpa using hmm
 rw [hd]
 have Yt:=hid hmm
 have HF:=hid (Lj HK.out hmm)
 have hc12:=Yr.out.box.cell 12 rfl
 have hbl:=Yr.out.box.lt
 obtain ⟨xv,xc,hvm⟩:=aI Yr.out.om
 clear hmm hd
 by_cases hfl:ms.length=400
 ·have FP:Hid (iV R ms m=9):=hid (by unfold iV; rw [if_neg (by simp [HR0.out]),if_neg (by simp [Yt.out]),if_pos hfl])
  have abq:((ms.length:Int) == 400)=true:=by simp [hfl]
  clear hfl
  rw [hvm] at hc12
  go_wp2_with fail
  go_ret
  exact .inl ⟨by rw [FP.out]; decide,by rw [FP.out]; rfl,pY.out⟩
 have FP:Hid (iV R ms m=0):=hid (by unfold iV; rw [if_neg (by simp [HR0.out]),if_neg (by simp [Yt.out]),if_neg hfl])
 have abq:((ms.length:Int) == 400)=false:=by simp; omega
 have HLT:Hid (ms.length<400):=hid (by have:=Yr.out.lt; omega)
 have hlm:ms.length≤400:=Yr.out.lt
 clear hfl
 rw [hvm] at hc12
 go_upto_region 7 with (fail)
 clear hc12 hbl hvm abq
 obtain ⟨i0,hi0,hi1,hi2,hi3⟩:=jC U8
 obtain ⟨j0,hj0,hj1,hj2,hj3⟩:=jC kZ
 have HI0:=hid hi0
 have HI1:=hid hi1
 have HI2:=hid hi2
 have HI3:=hid hi3
 have HJ0:=hid hj0
 have HJ1:=hid hj1
 have HJ2:=hid hj2
 have HJ3:=hid hj3
 clear hi0 hi1 hi2 hi3 hj0 hj1 hj2 hj3
 generalize w8=wq at *
 have Gz:bP X S base wq.drew b R ms vp vs ve (.slice (some ⟨g,0,none⟩) (ms.length+1) c) vm rows:=Yr.out.below (aA (Below.refl _ _))
 have Yq:=abp.out.drew
 have Lz:Below w.heap.size w wq.drew:=aA pY.out
 clear Yr abp pY
 refine wp_region_noPanic ?_
 refine bG (S:=(fun w'=>w'.cell? ⟨b,0,none⟩=some (.string R.name)∧w'.cell? ⟨b,1,none⟩=some (.int .i64 R.width)∧w'.cell? ⟨b,2,none⟩=some (.int .i64 R.height)∧w'.cell? ⟨b,3,none⟩=some vp∧w'.cell? ⟨b,4,none⟩=some vs∧w'.cell? ⟨b,5,none⟩=some (.bool R.falls)∧w'.cell? ⟨b,6,none⟩=some (.bool R.keeps)∧w'.cell? ⟨b,7,none⟩=some ve∧w'.cell? ⟨b,8,none⟩=some (.int .i64 R.blocked)∧w'.cell? ⟨b,9,none⟩=some (.int .i64 R.quiet)∧w'.cell? ⟨b,10,none⟩=some (.int .i64 R.bF)∧w'.cell? ⟨b,11,none⟩=some (.slice (some ⟨g,0,none⟩) (ms.length+1) c)∧w'.cell? ⟨w.heap.size,0,none⟩=some (.int .i64 m.src)∧w'.cell? ⟨w.heap.size,1,none⟩=some (.int .i64 m.dst)∧w'.cell? ⟨w.heap.size,2,none⟩=some (.int .i64 m.piece))) (L:=[17]) (by kernel_rfl) (by and_intros <;> first | exact Gz.box.cell _ rfl | exact Yq.cell _ rfl) (fun hHeld=>?_)
 refine aF 0 ?_
 refine aF 1 ?_
 refine aF 5 ?_
 refine aF 9 ?_
 refine dL 11 ?_
 refine aF 2 ?_
 refine aF 6 ?_
 refine aF 3 ?_
 refine aF 7 ?_
 refine dL 4 ?_
 refine dL 8 ?_
 refine dO 10 fun K hK=>?_
 go_simp
 refine (wu _ Gz.plain).mono ?_
 rintro e w10 ⟨nc,n0,n1,rfl,abr,JQ⟩
 have G10:=Gz.below JQ
 have Yu:=Yq.stays JQ
 have wG:=aj Lz JQ Lz.size
 have N10:=abr.now
 clear JQ abr
 refine hK.out _ _ (by and_intros <;> first | exact G10.box.cell _ rfl | exact Yu.cell _ rfl) (fun hHeld=>?_)
 clear hK K
 refine dO 12 fun K hK=>?_
 go_simp
 refine (Qr R vp vs ve (bn R ms) nc n0 n1 m _ N10 HK.out HF.out).mono ?_
 rintro e w12 ⟨yc,y0,y1,rfl,QY,iR⟩
 obtain ⟨ya,yn,rfl⟩:=aI QY.1
 obtain ⟨Uj,Uk,rfl⟩:=aI QY.2.1
 obtain ⟨Ul,Um,rfl⟩:=aI QY.2.2.1
 unfold xB
 have TW:=G10.below iR
 have Yv:=Yu.stays iR
 have lQ:=aj wG iR wG.size
 have VF:lu w.heap.size w12 (bY R (bn R ms) m) (.slice ya (bY R (bn R ms) m).cells.length yn) (.slice Uj (bY R (bn R ms) m).h0.length Uk) (.slice Ul (bY R (bn R ms) m).h1.length Um):=QY.base wG.size
 clear iR QY
 refine hK.out _ _ (by and_intros <;> first | exact TW.box.cell _ rfl | exact Yv.cell _ rfl) (fun hHeld=>?_)
 clear hK K
 refine dO 13 fun K hK=>?_
 go_simp
 refine aK ?_
 intro jY e13
 have jl:Below w12.heap.size w12 jY:=by rw [e13]; exact (Below.refl _ _).alloc (Nat.le_refl _) _
 have Yw:Box jY w12.heap.size [.slice ya (bY R (bn R ms) m).cells.length yn,.slice Uj (bY R (bn R ms) m).h0.length Uk,.slice Ul (bY R (bn R ms) m).h1.length Um,.int .i64 (bY R (bn R ms) m).turn,.int .i64 (bY R (bn R ms) m).quiet] 78:=by rw [e13]; exact Box.new' _ _ _ _ rfl
 have FN:=TW.below jl
 have Yx:=Yv.stays jl
 have NI:=aj lQ jl lQ.size
 have Lu:lu w.heap.size jY (bY R (bn R ms) m) (.slice ya (bY R (bn R ms) m).cells.length yn) (.slice Uj (bY R (bn R ms) m).h0.length Uk) (.slice Ul (bY R (bn R ms) m).h1.length Um):=⟨bK VF.1 jl,bK VF.2.1 jl,bK VF.2.2.1 jl,VF.2.2.2⟩
 clear jl e13
 refine hK.out _ _ (by and_intros <;> first | exact FN.box.cell _ rfl | exact Yx.cell _ rfl) (fun hHeld=>?_)
 clear hK K
 refine dO 14 fun K hK=>?_
 rw [if_pos (by rfl)]
 refine wp_append_lies _ _ _ 188 rfl base 78 i0 (.agg #[.slice none 0 0,.slice none 0 0,.slice none 0 0,.int .i64 0,.int .i64 0]) 5 88 Tryz.underlying188 HI0.out HI1.out HI2.out HI3.out rfl (by decide) (.slice (some ⟨g,0,none⟩) (ms.length+1) c) (ms.length+1) (iD rows) rfl FN.ol ⟨w12.heap.size,0,none⟩ 1 1 [.slice ya (bY R (bn R ms) m).cells.length yn,.slice Uj (bY R (bn R ms) m).h0.length Uk,.slice Ul (bY R (bn R ms) m).h1.length Um,.int .i64 (bY R (bn R ms) m).turn,.int .i64 (bY R (bn R ms) m).quiet] rfl rfl (Hf Yw) U9 (by decide) (by unfold maxLen; omega) (by omega) (Nat.le_trans U4.out NI.size) jY.heap.size rfl ?_
 intro g7 c7 mM wH Hw Yy aeK
 have hgo:∀ q,Value.ownBlock (.slice (some ⟨g,0,none⟩) (ms.length+1) c)=some q→q<w.heap.size:=fun q hq=>HOL.out q hq
 have B14:Box mM b [.string R.name,.int .i64 R.width,.int .i64 R.height,vp,vs,.bool R.falls,.bool R.keeps,ve,.int .i64 R.blocked,.int .i64 R.quiet,.int .i64 R.bF,.slice (some ⟨g,0,none⟩) (ms.length+1) c,vm] 190:=FN.box.grown Hw (fun e=>(FN.sl b e.symm).2 rfl)
 have YA:Box mM w.heap.size [.int .i64 m.src,.int .i64 m.dst,.int .i64 m.piece] 52:=Yx.grown Hw (fun e=>by have:=hgo _ e.symm; omega)
 have F14:Fr S w mM:=(Fr.jF NI).grown Hw (fun q hq _=>(FN.sl q hq).1)
 have Xh:Fr S jY mM:=(Fr.refl S jY).grown Hw (fun q hq _=>(FN.sl q hq).1)
 have M14:=FN.om.kept Hw (qE FN.ap)
 have BR:=wH
 have NS:=Hw.size
 have Un:=aes (g:=g) Yy NI.size
 have abv:=newS (S:=S) Yy (fun q hq=>(FN.sl q hq).1)
 have P14:Held X S jY fun w'=>lu w.heap.size w' (bY R (bn R ms) m) (.slice ya (bY R (bn R ms) m).cells.length yn) (.slice Uj (bY R (bn R ms) m).h0.length Uk) (.slice Ul (bY R (bn R ms) m).h1.length Um):=oZ Lu (fun q h1 _ hS=>by rcases hS with hS | hS; (have:=HSL.out q hS; omega); (have:=HXX.out q hS; omega))
 have abw:Below base w mM:=Below.grown ((NI.mono U4.out)) Hw (Nat.le_trans U4.out NI.size) (fun q hq=>(FN.ol.lt q hq).1)
 clear wH Hw Yy
 refine hK.out _ _ (by and_intros <;> first | exact B14.cell _ rfl | exact YA.cell _ rfl) (fun hHeld=>?_)
 clear hK K
 refine aF 15 ?_
 refine aF 16 ?_
 refine xE 17 fun K hK=>?_
 have dd:=B14.cell 11 rfl
 have df:=B14.frozen 11
 go_simp
 refine aK ?_
 intro qI e17
 have xX:=hid e17
 clear e17 dd df
 refine hK.out _ _ ?_
 clear hK K
 refine iE ?_
 have B17:Box qI b [.string R.name,.int .i64 R.width,.int .i64 R.height,vp,vs,.bool R.falls,.bool R.keeps,ve,.int .i64 R.blocked,.int .i64 R.quiet,.int .i64 R.bF,.slice (some ⟨g7,0,none⟩) (ms.length+1+1) c7,vm] 190:=by rw [xX.out]; exact B14.set 11 _
 have hgb:g7≠b:=fun e=>by rcases Un with q | q; exact (aeF.out (by rw [← q,e])); have:=HGB.out; omega
 have O17:qI.ownsRow base 78 5 (.slice (some ⟨g7,0,none⟩) (ms.length+1+1) c7) (ms.length+1+1) (iD rows++[.slice ya (bY R (bn R ms) m).cells.length yn,.slice Uj (bY R (bn R ms) m).h0.length Uk,.slice Ul (bY R (bn R ms) m).h1.length Um,.int .i64 (bY R (bn R ms) m).turn,.int .i64 (bY R (bn R ms) m).quiet]):=by rw [xX.out]; exact jZ (p:=⟨b,11,none⟩) BR (fun e=>hgb (by simpa [Value.ownBlock] using e)) _
 have wI:qI.ownsRow base 52 3 vm ms.length (bJ ms):=by rw [xX.out]; exact jZ (p:=⟨b,11,none⟩) M14 (fun e=>(FN.sm b e).2 rfl) _
 have YB:Fr S w qI:=by rw [xX.out]; exact F14.setCell FN.sb _
 have hsh:dw jY S (fun k=>S k∨k=g7):=Va abv
 have P17:Held X (fun k=>S k∨k=g7) qI fun w'=>lu w.heap.size w' (bY R (bn R ms) m) (.slice ya (bY R (bn R ms) m).cells.length yn) (.slice Uj (bY R (bn R ms) m).h0.length Uk) (.slice Ul (bY R (bn R ms) m).h1.length Um):=by rw [xX.out]; exact (P14.step Xh hsh).step ((Fr.refl (fun k=>S k∨k=g7) mM).setCell (.inl FN.sb) _) (dw.refl _ _)
 have QZ:Box qI w.heap.size [.int .i64 m.src,.int .i64 m.dst,.int .i64 m.piece] 52:=by rw [xX.out]; exact YA.far ⟨b,11,none⟩ _ (fun e=>by have:=HGB.out; simp at e; omega)
 have Z17:mM.heap.size=qI.heap.size:=by rw [xX.out]; simp [World.setCell]
 have Q5:Below base w qI:=by rw [xX.out]; exact abw.setCell (p:=⟨b,11,none⟩) (FN.lo b FN.sb).1 _
 have HH:=hid (And.intro B17 (And.intro hgb (And.intro O17 (And.intro wI (And.intro YB (And.intro P17 (And.intro QZ (And.intro Un (And.intro Q5 (And.intro NS Z17))))))))))
 have Hz:=hid FN
 clear B17 hgb O17 wI YB hsh P17 QZ NS Z17 Q5 abw Un abv B14 YA F14 Xh M14 BR P14 Lu VF Yw FN TW G10 Gz Yq Yu Yv Yx Lz wG lQ NI N10 hgo xX aeK hHeld
 go_upto_region 8 with (fail)
 generalize qI=x17 at *
 obtain ⟨B17,hgb,O17,wI,YB,P17,QZ,Un,Q5,NS,Z17⟩:=HH.out
 clear HH
 have HSH:Hid (dw w S (fun k=>S k∨k=g7)):=hid (fun k hk h=>by
  rcases h with h | h
  ·exact h
  ·subst h
   rcases Un with q | q
   ·rw [q]; exact (Hz.out.sl g rfl).1
   ·omega)
 have HAP:Hid (Value.ownBlock (.slice (some ⟨g7,0,none⟩) (ms.length+1+1) c7)=none∨Value.ownBlock (.slice (some ⟨g7,0,none⟩) (ms.length+1+1) c7)≠vm.ownBlock):=hid (.inr (fun e=>by
  rcases Un with q | q
  ·rw [q] at e
   rcases Hz.out.ap with h | h
   ·cases h
   ·exact h e
  ·have:=HOM.out g7 e.symm; omega))
 have Jr:Hid (∀ g8,g7=g8→(vm.ownBlock=some g8∨x17.heap.size≤g8)→False):=hid (fun g8 e h=>by
  subst e
  rcases h with h | h
  ·rcases HAP.out with q | q
   ·cases q
   ·exact q h.symm
  ·have:=(O17.lt g7 rfl).2; omega)
 have HSM:Hid (∀ k,vm.ownBlock=some k→S k):=hid (fun k hk=>(Hz.out.sm k hk).1)
 have By:Box x17.drew b [.string R.name,.int .i64 R.width,.int .i64 R.height,vp,vs,.bool R.falls,.bool R.keeps,ve,.int .i64 R.blocked,.int .i64 R.quiet,.int .i64 R.bF,.slice (some ⟨g7,0,none⟩) (ms.length+1+1) c7,vm] 190:=B17
 have Bmy:Box x17.drew w.heap.size [.int .i64 m.src,.int .i64 m.dst,.int .i64 m.piece] 52:=QZ
 have My:x17.drew.ownsRow base 52 3 vm ms.length (bJ ms):=wI
 have Oy:x17.drew.ownsRow base 78 5 (.slice (some ⟨g7,0,none⟩) (ms.length+1+1) c7) (ms.length+1+1) (iD rows++[.slice ya (bY R (bn R ms) m).cells.length yn,.slice Uj (bY R (bn R ms) m).h0.length Uk,.slice Ul (bY R (bn R ms) m).h1.length Um,.int .i64 (bY R (bn R ms) m).turn,.int .i64 (bY R (bn R ms) m).quiet]):=O17
 have LBy:Below base w x17.drew:=aA Q5
 have YC:x17.heap.size≤x17.drew.heap.size:=Nat.le_refl _
 clear B17 O17 wI QZ Un Q5 NS Z17
 refine wp_region_noPanic ?_
 refine bG (S:=(fun w'=>w'.cell? ⟨b,12,none⟩=some vm∧w'.cell? ⟨w.heap.size,0,none⟩=some (.int .i64 m.src)∧w'.cell? ⟨w.heap.size,1,none⟩=some (.int .i64 m.dst)∧w'.cell? ⟨w.heap.size,2,none⟩=some (.int .i64 m.piece))) (L:=[10]) (by kernel_rfl) ⟨By.cell 12 rfl,Bmy.cell 0 rfl,Bmy.cell 1 rfl,Bmy.cell 2 rfl⟩ (fun hHeld=>?_)
 refine aF 0 ?_
 refine aF 1 ?_
 refine dL 5 ?_
 refine aF 2 ?_
 refine aF 3 ?_
 refine dL 4 ?_
 refine dO 6 fun K hK=>?_
 go_simp
 refine aK ?_
 intro x6 e6
 have hb6:Below x17.drew.heap.size x17.drew x6:=by rw [e6]; exact (Below.refl _ _).alloc (Nat.le_refl _) _
 have N6:Box x6 x17.heap.size [.int .i64 m.src,.int .i64 m.dst,.int .i64 m.piece] 52:=by rw [e6]; exact Box.new' _ _ _ _ rfl
 have B6:=By.stays hb6
 have VE:=Bmy.stays hb6
 have M6:=bK My hb6
 have O6:=bK Oy hb6
 have F6:Fr (fun k=>S k∨k=g7) x17.drew x6:=Fr.jF hb6
 have Z6:=hb6.size
 have LB6:Below base w x6:=LBy.trans (hb6.mono (Nat.le_trans U4.out LBy.size))
 clear hb6 e6
 refine hK.out _ _ ⟨B6.cell 12 rfl,VE.cell 0 rfl,VE.cell 1 rfl,VE.cell 2 rfl⟩ (fun hHeld=>?_)
 clear hK K
 refine dO 7 fun K hK=>?_
 rw [if_pos (by rfl)]
 refine wp_append_lies _ _ _ 64 rfl base 52 j0 (.agg #[.int .i64 0,.int .i64 0,.int .i64 0]) 3 24 Tryz.underlying64 HJ0.out HJ1.out HJ2.out HJ3.out rfl (by decide) vm ms.length (bJ ms) rfl M6 ⟨x17.heap.size,0,none⟩ 1 1 [.int .i64 m.src,.int .i64 m.dst,.int .i64 m.piece] rfl rfl (Hf N6) jg (by decide) (by unfold maxLen; omega) (by omega) (Nat.le_trans U4.out LB6.size) x6.heap.size rfl ?_
 intro g8 c8 x7 uY YD hq7 hl7
 have B7:Box x7 b [.string R.name,.int .i64 R.width,.int .i64 R.height,vp,vs,.bool R.falls,.bool R.keeps,ve,.int .i64 R.blocked,.int .i64 R.quiet,.int .i64 R.bF,.slice (some ⟨g7,0,none⟩) (ms.length+1+1) c7,vm] 190:=B6.grown YD (fun e=>(Hz.out.sm b e.symm).2 rfl)
 have Bm7:Box x7 w.heap.size [.int .i64 m.src,.int .i64 m.dst,.int .i64 m.piece] 52:=VE.grown YD (fun e=>by have:=HOM.out _ e.symm; omega)
 have O7:=O6.kept YD HAP.out
 have F7:Fr (fun k=>S k∨k=g7) x17.drew x7:=F6.grown YD (fun q hq _=>.inl (HSM.out q hq))
 have Q7:=aa2 hq7 (Nat.le_trans YC Z6)
 have Q7S:=hq7
 have M7:=uY
 have Z7:=YD.size
 have LB7:Below base w x7:=Below.grown LB6 YD (Nat.le_trans U4.out LB6.size) (fun q hq=>(M6.lt q hq).1)
 clear uY YD hq7
 refine hK.out _ _ ⟨B7.cell 12 rfl,Bm7.cell 0 rfl,Bm7.cell 1 rfl,Bm7.cell 2 rfl⟩ (fun hHeld=>?_)
 clear hK K
 refine aF 8 ?_
 refine aF 9 ?_
 refine xE 10 fun K hK=>?_
 have dd:=B7.cell 12 rfl
 have df:=B7.frozen 12
 go_simp
 refine aK ?_
 intro x10 e10
 have wJ:=hid e10
 clear e10 dd df
 refine hK.out _ _ ?_
 clear hK K
 refine iE ?_
 have B10:Box x10 b [.string R.name,.int .i64 R.width,.int .i64 R.height,vp,vs,.bool R.falls,.bool R.keeps,ve,.int .i64 R.blocked,.int .i64 R.quiet,.int .i64 R.bF,.slice (some ⟨g7,0,none⟩) (ms.length+1+1) c7,.slice (some ⟨g8,0,none⟩) (ms.length+1) c8] 190:=by rw [wJ.out]; exact B7.set 12 _
 have hhb:g8≠b:=fun e=>by rcases Q7 with q | q; exact (Hz.out.sm g8 q).2 e; have:=HGB.out; have:=YB.size; omega
 have O10:x10.ownsRow base 78 5 (.slice (some ⟨g7,0,none⟩) (ms.length+1+1) c7) (ms.length+1+1) (iD (rows++[⟨(bY R (bn R ms) m),.slice ya (bY R (bn R ms) m).cells.length yn,.slice Uj (bY R (bn R ms) m).h0.length Uk,.slice Ul (bY R (bn R ms) m).h1.length Um⟩])):=by rw [wJ.out,← Ei]; exact jZ (p:=⟨b,12,none⟩) O7 (fun e=>hgb (by simpa [Value.ownBlock] using e)) _
 have M10:x10.ownsRow base 52 3 (.slice (some ⟨g8,0,none⟩) (ms.length+1) c8) (ms.length+1) (bJ (ms++[m])):=by rw [wJ.out,← gU]; exact jZ (p:=⟨b,12,none⟩) M7 (fun e=>hhb (by simpa [Value.ownBlock] using e)) _
 have F10:Fr (fun k=>S k∨k=g7) x17.drew x10:=by rw [wJ.out]; exact F7.setCell (.inl Hz.out.sb) _
 have FW:Fr S w x10:=(YB.drew).trans F10 HSH.out
 have hs10:dw x17.drew (fun k=>S k∨k=g7) (fun k=>(S k∨k=g7)∨k=g8):=Vb Q7 HSM.out YC
 have hsw:dw w S (fun k=>(S k∨k=g7)∨k=g8):=HSH.out.trans hs10 YB.size
 have P10:=(P17.step (Fr.drew (Fr.refl _ x17)) (dw.refl _ _)).step F10 hs10
 have Z10:x7.heap.size=x10.heap.size:=by rw [wJ.out]; simp [World.setCell]
 have aeM:Below base w x10:=by rw [wJ.out]; exact LB7.setCell (p:=⟨b,12,none⟩) (Hz.out.lo b Hz.out.sb).1 _
 have hgf:bP X (fun k=>(S k∨k=g7)∨k=g8) base x10 b R (ms++[m]) vp vs ve (.slice (some ⟨g7,0,none⟩) (ms.length+1+1) c7) (.slice (some ⟨g8,0,none⟩) (ms.length+1) c8) (rows++[⟨(bY R (bn R ms) m),.slice ya (bY R (bn R ms) m).cells.length yn,.slice Uj (bY R (bn R ms) m).h0.length Uk,.slice Ul (bY R (bn R ms) m).h1.length Um⟩]):=⟨B10,.inl (.inl HG.out.sb),fun k hk=>by
   rcases hk with (hk | hk) | hk
   ·exact ⟨(HG.out.lo k hk).1,Nat.lt_of_lt_of_le (HG.out.lo k hk).2 FW.size⟩
   ·rw [hk]; exact O10.lt g7 rfl
   ·rw [hk]; exact M10.lt g8 rfl,HG.out.rd.step FW hsw,by rw [List.length_append]; exact O10,by rw [List.map_append,HG.out.mp,Nj]; rfl,fun r hr=>by
   rcases List.mem_append.1 hr with hr | hr
   ·exact (HG.out.rw r hr).step FW hsw
   ·rw [List.mem_singleton.1 hr]; exact P10.imp (fun _ h=>h.rd),by rw [List.length_append]; exact M10,fun k hk=>by
   obtain rfl:g7=k:=by simpa [Value.ownBlock] using hk
   exact ⟨.inl (.inr rfl),hgb⟩,fun k hk=>by
   obtain rfl:g8=k:=by simpa [Value.ownBlock] using hk
   exact ⟨.inr rfl,hhb⟩,.inr (fun e=>Jr.out g8 (by simpa [Value.ownBlock] using e) Q7),by have:=HLT.out; simp; omega,HG.out.la.snoc Yt.out,HG.out.re⟩
 have HGf:=hid hgf
 have HFW:=hid FW
 have HSW:=hid hsw
 clear hgf FW hsw B10 hhb O10 M10 F10 hs10 P10 Z10 aeM hHeld By Bmy My Oy LBy B6 VE M6 O6 F6 B7 Bm7 O7 F7 Q7 M7 LB7 LB6 N6 wJ YB P17 hgb YC
 go_wp2_with fail
 go_ret
 exact .inr ⟨FP.out,rfl,_,_,_,_,HGf.out,HSW.out,HFW.out⟩
end Go.Proofs.YtmabaojkignodaaGreatDoor.gx
namespace Go.Proofs.YtmabaojkignodaaGreatDoor
open Go.RowKit
theorem tV {P:Program} {t e n:Nat} (cs:Array Value) (i:Int) (v:Value) (w:World) (h:P.underlying t=some (.array n e))
  (he:P.plainKey e=true) (hs:(sizeOf e).run P w=.ok 1 w) (h0:0≤i) (h1:i<n) (hx:cs[i.toNat]?=some v) :
  (Instr.index t (.agg cs) (.int .i64 i)).run P w=.ok v w:=by
 have hk:0≤i∧i<(n:Int):=⟨h0,h1⟩
 have hp:=run_part_plain (P:=P) (w:=w) (e:=e) he hx
 simp only [part] at hp
 simp [Instr.index,run_underlying h,asIntOf,hk,hs,go_sem]
 simpa [part] using hp
end Go.Proofs.YtmabaojkignodaaGreatDoor

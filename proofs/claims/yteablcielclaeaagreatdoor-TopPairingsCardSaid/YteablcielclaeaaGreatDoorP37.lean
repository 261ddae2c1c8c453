/- Rz2, Rz3, Rz4, Rz5, H11, MaC0. -/
import Derived.Test.YteablcielclaeaaGreatDoorP36
namespace Go.Proofs.YteablcielclaeaaGreatDoor.rz
open Go.ChangeShapes Go.WideShapes Go.ChangeAt Go.RowKit
set_option linter.unusedVariables false
open Go.Proofs.YteablcielclaeaaGreatDoor
open Go.Lib (hid)
variable {m:aB} {nb:Nat}
theorem VF (w:World) (hn:Box w nb [.int .i64 (-1),.int .i64 m.src,.int .i64 m.dst,.int .i64 m.piece,.string ByteArray.empty] 75):Calls Tryz.prog 103 #[.agg #[.slice none 0 0,.string ByteArray.empty,.slice (some ⟨nb,0,none⟩) 1 1,.int .i64 0],.int .i64 (-1)] w fun e w'=>∃ g c,e=.returned (.slice (some ⟨g,0,none⟩) 1 c)∧g<w'.heap.size∧w'.cell? ⟨g,0,none⟩=some (.int .i64 0)∧1≤c∧Below w.heap.size w w':=by
 have HN:=hid hn
 clear hn
 go_enter Tryz.func103,Tryz.ntmps103
 go_upto_region 1 with (fail)
 refine lX ?_
 intro w0 xb hb hs
 obtain ⟨b,hbe⟩:∃ b,b=w.heap.size:=⟨_,rfl⟩
 rw [← hbe] at xb ⊢
 have HX:=hid xb
 have HB:=hid hb
 have hbl:b<w0.heap.size:=by omega
 clear xb hb hs hbe
 have x0:=HX.out.cell 0 rfl
 have x1:=HX.out.cell 1 rfl
 have x2:=HX.out.cell 2 rfl
 have x3:=HX.out.cell 3 rfl
 have HNw:=hid (HN.out.stays HB.out)
 go_wp2_with fail
 go_loopw [11,5,6,7] (fun v11 v5 v6 v7 wr=>∃ (k:Nat) (zs:List Int) (o5 o6 o7:Value),o5=v5∧o6=v6∧o7=v7∧k≤1∧v11=.int .i64 k∧Hid ((k=0∧zs=[])∨(k=1∧zs=[0]))∧Hid (wr.ownsRow w0.heap.size 3 1 o5 zs.length (ints zs))∧Hid (Below w0.heap.size w0 wr)) (fun v11 _ _ _ _=>1 - (intOf v11).toNat)
 case atStart=>exact ⟨0,[],_,_,_,rfl,rfl,rfl,Nat.zero_le _,rfl,hid (.inl ⟨rfl,rfl⟩),hid (World.ownsRow_nil _ _ _ _),hid (Below.refl _ _)⟩
 case round =>
  obtain ⟨k,zs,o5,o6,o7,rfl,rfl,rfl,hk,rfl,HZ,HO,bn⟩:=hrel
  obtain ⟨oa,oc,rfl⟩:=aG HO.out
  rcases HZ.out with ⟨rfl,rfl⟩ | ⟨rfl,rfl⟩
  ·have Fb:=(HNw.out).below bn.out HNw.out.lt
   have n0:=Fb.cell 0 rfl
   have n1:=Fb.cell 1 rfl
   have n2:=Fb.cell 2 rfl
   have n3:=Fb.cell 3 rfl
   have n4:=Fb.cell 4 rfl
   have hnl:=Fb.lt
   have hNew:=Box.new wr [.int .i64 (-1),.int .i64 m.src,.int .i64 m.dst,.int .i64 m.piece,.string ByteArray.empty] 75
   have QY:Below wr.heap.size wr (wr.alloc (.cells #[.int .i64 (-1),.int .i64 m.src,.int .i64 m.dst,.int .i64 m.piece,.string ByteArray.empty] 75)):=(Below.refl _ _).alloc (Nat.le_refl _) _
   have fM:=hid (bn.out.trans (QY.mono bn.out.size))
   have HOn:=hid (aS HO.out QY)
   clear Fb QY HO HZ
   go_upto_region 5 with (fail)
   generalize (wr.alloc (.cells #[.int .i64 (-1),.int .i64 m.src,.int .i64 m.dst,.int .i64 m.piece,.string ByteArray.empty] 75))=wA at *
   have q0:=hNew.cell 0 rfl
   have hbs:=fM.out.size
   clear hNew n0 n1 n2 n3 n4 hnl bn
   go_wp2_with (at_builtin; refine fV 22 3 (.int .i64 0) 1 8 info3 Tryz.underlying22 rfl (by decide) (by rfl) _ _ (by rfl) w0.heap.size _ 0 [] [.int .i64 0] wA HOn.out hbs rfl gQ (by omega) (by omega) (by rfl) (by rfl) ?_)
   intro g3 cap3 w3 hown3 dA _
   have oz:Hid (w3.ownsRow w0.heap.size 3 1 (.slice (some ⟨g3,0,none⟩) (0+1) cap3) [(0:Int)].length (ints [0])):=hid hown3
   have HB3:=hid (dA.below fM.out (Nat.le_refl _))
   clear hown3 dA
   go_wp2_with fail
   go_roundw
   case rel=>exact ⟨1,[0],_,_,_,rfl,rfl,rfl,Nat.le_refl _,rfl,hid (.inr ⟨rfl,rfl⟩),oz,HB3⟩
   case measure=>simp [intOf]
  ·have HF:=hid (HB.out.trans (bn.out.mono HB.out.size))
   obtain ⟨g,c,hv⟩:=dY HO.out (by decide)
   simp only [Value.slice.injEq] at hv
   obtain ⟨rfl,-,rfl⟩:=hv
   have hg:=(HO.out.lt g rfl).2
   have hc:=HO.out.cellAt 0 (by decide)
   have hcc:1≤oc:=by
    rcases HO.out.2 with ⟨h,-⟩ | ⟨g',c',cur,h,-,-,h2,-⟩
    ·cases h
    ·simp only [Value.slice.injEq] at h
     obtain ⟨-,-,rfl⟩:=h
     exact h2
   have HR:=hid (show ∃ g' c',Ending.returned (.slice (some ⟨g,0,none⟩) [(0:Int)].length oc)=.returned (.slice (some ⟨g',0,none⟩) 1 c')∧g'<wr.heap.size∧wr.cell? ⟨g',0,none⟩=some (.int .i64 0)∧1≤c'∧Below w.heap.size w wr from ⟨g,oc,rfl,hg,hc,hcc,HF.out⟩)
   clear hg hc hcc HO HZ
   go_wp2_with fail
   go_ret
   exact HR.out
theorem ac8 (g c:Nat) (w:World):Calls Tryz.prog 186 #[.slice (some ⟨g,0,none⟩) 1 c] w fun e w'=>e=.returned (.tuple #[])∧w=w':=by
 go_enter Tryz.func186,Tryz.ntmps186
 go_wp2_with fail
 go_loopw [2,3] (fun v2 v3 wr=>v2=.int .i64 0∧v3=.int .i64 0∧w=wr) (fun _ _ _=>0)
 case atStart=>exact ⟨rfl,rfl,rfl⟩
 case round =>
  obtain ⟨rfl,rfl,rfl⟩:=hrel
  go_wp2_with fail
  first | go_end0 | go_ret
  exact ⟨rfl,rfl⟩
theorem BR (w:World) (hn:Box w nb [.int .i64 (-1),.int .i64 m.src,.int .i64 m.dst,.int .i64 m.piece,.string ByteArray.empty] 75):Calls Tryz.prog 151 #[.agg #[.slice none 0 0,.string ByteArray.empty,.slice (some ⟨nb,0,none⟩) 1 1,.int .i64 0],.int .i64 0] w fun e w'=>∃ g c,e=.returned (.slice (some ⟨g,0,none⟩) 1 c)∧iC jK w' (.slice (some ⟨g,0,none⟩) 1 c) [m]∧Below w.heap.size w w':=by
 have HN:=hid hn
 clear hn
 go_enter Tryz.func151,Tryz.ntmps151
 go_upto_region 1 with (fail)
 refine lX ?_
 intro w0 xb hb hs
 obtain ⟨b,hbe⟩:∃ b,b=w.heap.size:=⟨_,rfl⟩
 rw [← hbe] at xb ⊢
 have HX:=hid xb
 have HB:=hid hb
 have hbl:b<w0.heap.size:=by omega
 clear xb hb hs hbe
 have x0:=HX.out.cell 0 rfl
 have x1:=HX.out.cell 1 rfl
 have x2:=HX.out.cell 2 rfl
 have x3:=HX.out.cell 3 rfl
 have HNw:=hid (HN.out.stays HB.out)
 go_wp2_with fail
 go_loopw [6,5] (fun v6 v5 wr=>∃ (k:Nat) (zs:List aB) (o5:Value),o5=v5∧k≤1∧v6=.int .i64 (-(k:Int))∧Hid ((k=0∧zs=[])∨(k=1∧zs=[m]))∧Hid (wr.ownsRow w0.heap.size 68 3 o5 zs.length (bK zs))∧Hid (Below w0.heap.size w0 wr)) (fun v6 _ _=>(1+intOf v6).toNat)
 case atStart=>exact ⟨0,[],_,rfl,Nat.zero_le _,rfl,hid (.inl ⟨rfl,rfl⟩),hid (World.ownsRow_nil _ _ _ _),hid (Below.refl _ _)⟩
 case round =>
  obtain ⟨k,zs,o5,rfl,hk,rfl,HZ,HO,bn⟩:=hrel
  obtain ⟨oa,oc,rfl⟩:=aG HO.out
  have hXr:=(HX.out).below bn.out HX.out.lt
  have x2:=hXr.cell 2 rfl
  have hbr:=hXr.lt
  rcases HZ.out with ⟨rfl,rfl⟩ | ⟨rfl,rfl⟩
  ·have Fb:=(HNw.out).below bn.out HNw.out.lt
   have n0:=Fb.cell 0 rfl
   have n1:=Fb.cell 1 rfl
   have n2:=Fb.cell 2 rfl
   have n3:=Fb.cell 3 rfl
   have hnl:=Fb.lt
   have hbs:=bn.out.size
   go_wp2_with (at_builtin; refine fV 80 68 (.agg #[.int .i64 0,.int .i64 0,.int .i64 0]) 3 24 Ry Tryz.underlying80 rfl (by decide) (by rfl) _ _ (by rfl) w0.heap.size _ 0 [] [.int .i64 m.src,.int .i64 m.dst,.int .i64 m.piece] wr HO.out hbs rfl jq (by omega) (by omega) (by rfl) (by rfl) ?_)
   intro g3 cap3 w3 hown3 dA _
   have oz:Hid (w3.ownsRow w0.heap.size 68 3 (.slice (some ⟨g3,0,none⟩) (0+1) cap3) [m].length (bK [m])):=hid hown3
   have HB3:=hid (dA.below bn.out (Nat.le_refl _))
   clear hown3 dA Fb n0 n1 n2 n3 hnl hXr x2 hbr HO bn HZ hbs
   have hX3:=(HX.out).below HB3.out HX.out.lt
   have hN3:=(HNw.out).below HB3.out HNw.out.lt
   have x2:=hX3.cell 2 rfl
   have n0:=hN3.cell 0 rfl
   have hbr:=hX3.lt
   have hnl:=hN3.lt
   clear hX3 hN3
   go_wp2_with fail
   go_roundw
   case rel=>exact ⟨1,[m],_,rfl,Nat.le_refl _,rfl,hid (.inr ⟨rfl,rfl⟩),oz,HB3⟩
   case measure=>simp [intOf]
  ·have HF:=hid (HB.out.trans (bn.out.mono HB.out.size))
   obtain ⟨g,c,hv⟩:=dY HO.out (by simp)
   simp only [Value.slice.injEq] at hv
   obtain ⟨rfl,-,rfl⟩:=hv
   have HM:=hid (oD HO.out)
   clear HO HZ hXr x2 hbr
   go_wp2_with (go_at_call 186; refine (ac8 g oc wr).mono ?_; rintro e w' ⟨rfl,rfl⟩)
   go_ret
   exact ⟨g,oc,rfl,HM.out,HF.out⟩
theorem QZ (x:Option Addr) (c:Nat) (f:FuncId) (caps:Array Value) (w:World):Calls Tryz.prog 185 #[.slice x 0 c,.func (.func f) #[] caps] w fun e w'=>e=.returned (.int .i64 (-1))∧w=w':=by
 go_enter Tryz.func185,Tryz.ntmps185
 go_wp2_with fail
 go_loopw [8] (fun vi wr=>vi=.int .i64 0∧w=wr) (fun _ _=>0)
 case atStart=>exact ⟨rfl,rfl⟩
 case round =>
  obtain ⟨rfl,rfl⟩:=hrel
  go_wp2_with fail
  go_ret
  exact ⟨rfl,rfl⟩
theorem FU (x:Option Addr) (c:Nat) (f:FuncId) (caps:Array Value) (w:World):Calls Tryz.prog 148 #[.slice x 0 c,.func (.func f) #[] caps] w fun e w'=>e=.returned (.bool false)∧w=w':=by
 go_enter Tryz.func148,Tryz.ntmps148
 go_wp2_with fail
 refine (QZ x c f caps w).mono ?_
 rintro e w' ⟨rfl,rfl⟩
 go_wp2_with fail
 go_ret
 exact ⟨rfl,rfl⟩
end Go.Proofs.YteablcielclaeaaGreatDoor.rz
namespace Go.Proofs.YteablcielclaeaaGreatDoor.rz
open Go.ChangeShapes Go.WideShapes Go.ChangeAt Go.RowKit
set_option linter.unusedVariables false
set_option maxHeartbeats 4000000
set_option maxRecDepth 100000
open Go.Proofs.YteablcielclaeaaGreatDoor
open Go.Lib (hid)
theorem made1:(madeCells (Value.cells (.int .i64 0)) (1 * 1)).toList=[.int .i64 0]:=by kernel_rfl
variable {m:aB} {nb:Nat}
theorem aag (HS:SortMvSaid) (R:aA) (vp vs ve:Value) (db dc:Nat) (w:World) (hr:pV w R vp vs ve) (hnm:R.name.size≤maxLen) (hn:Box w nb [.int .i64 (-1),.int .i64 m.src,.int .i64 m.dst,.int .i64 m.piece,.string ByteArray.empty] 75) (hd:w.cell? ⟨db,0,none⟩=some (.int .i64 0)) (hdl:db<w.heap.size) (hrun:jO R [m]=0) :
  Calls Tryz.prog 101 #[(.agg #[.string R.name,.int .i64 R.width,.int .i64 R.height,vp,vs,.bool R.falls,.bool R.keeps,ve,.int .i64 R.blocked,.int .i64 R.quiet,.int .i64 R.bC]),.agg #[.slice none 0 0,.string ByteArray.empty,.slice (some ⟨nb,0,none⟩) 1 1,.int .i64 0],.int .i64 0,.slice (some ⟨db,0,none⟩) 1 dc] w fun e w'=>e=.returned (.int .i64 0)∧Below w.heap.size w w':=by
 have qo:=hid HS
 have HR:=hid hr
 have EX:=hid hnm
 have HN:=hid hn
 have HD:=hid hd
 have Ap:=hid hrun
 have hsl:=fun w=>nU (P:=Tryz.prog) (s:=5) Tryz.underlying76 (fun _=>by kernel_rfl) (some ⟨nb,0,none⟩) 1 1 0 (by omega) w
 clear HS hr hnm hn hd hrun
 go_enter Tryz.func101,Tryz.ntmps101
 go_upto_region 1 with (fail)
 refine qQ ?_
 intro w0 xR xX hb hs
 obtain ⟨bX,hbX⟩:∃ bX,bX=w.heap.size+1:=⟨_,rfl⟩
 rw [← hbX] at xX ⊢
 obtain ⟨bR,hbR⟩:∃ bR,bR=w.heap.size:=⟨_,rfl⟩
 rw [← hbR] at xR ⊢
 have HB:=hid hb
 have HXR:=hid xR
 have HXX:=hid xX
 have hNw:=HN.out.stays hb
 have x2:=xX.cell 2 rfl
 have hxl:=xX.lt
 have n0:=hNw.cell 0 rfl
 have n1:=hNw.cell 1 rfl
 have n2:=hNw.cell 2 rfl
 have n3:=hNw.cell 3 rfl
 have n4:=hNw.cell 4 rfl
 have hnl:=hNw.lt
 clear hb hs xR xX hNw hbX hbR
 go_upto_region 2 with (fail)
 have QY:Below w0.heap.size w0 (w0.alloc (.cells #[.int .i64 (-1),.int .i64 m.src,.int .i64 m.dst,.int .i64 m.piece,.string ByteArray.empty] 75)):=(Below.refl _ _).alloc (Nat.le_refl _) _
 have HNn:=hid (Box.new w0 [.int .i64 (-1),.int .i64 m.src,.int .i64 m.dst,.int .i64 m.piece,.string ByteArray.empty] 75)
 have Iq:=hid (HB.out.trans (QY.mono HB.out.size))
 have HRA:=hid (HXR.out.stays QY)
 have HXA:=hid (HXX.out.stays QY)
 obtain ⟨bN,hbN⟩:∃ bN,bN=w0.heap.size:=⟨_,rfl⟩
 rw [← hbN] at HNn ⊢
 clear QY hbN HB HXR HXX x2 hxl n0 n1 n2 n3 n4 hnl
 generalize (w0.alloc (.cells #[.int .i64 (-1),.int .i64 m.src,.int .i64 m.dst,.int .i64 m.piece,.string ByteArray.empty] 75))=wA at *
 have n0:=HNn.out.cell 0 rfl
 have n4:=HNn.out.cell 4 rfl
 have hnl:=HNn.out.lt
 have x0:=HXA.out.cell 0 rfl
 have x1:=HXA.out.cell 1 rfl
 have x2:=HXA.out.cell 2 rfl
 have x3:=HXA.out.cell 3 rfl
 have hxl:=HXA.out.lt
 go_wp2_with fail
 refine (Bl wA).mono ?_
 rintro e w' ⟨rfl,rfl⟩
 go_wp2_with fail
 refine (ac7 wA).mono ?_
 rintro e w1 ⟨rfl,hb1⟩
 have HN1:=hid (HNn.out.stays hb1)
 have HB1:=hid (Iq.out.trans (hb1.mono Iq.out.size))
 have HR1:=hid (HRA.out.stays hb1)
 have lu:=hid (HXA.out.stays hb1)
 clear n0 n4 hnl x0 x1 x2 x3 hxl hb1 HNn Iq HRA HXA
 have n0:=HN1.out.cell 0 rfl
 have hnl:=HN1.out.lt
 have x2:=lu.out.cell 2 rfl
 have hxl:=lu.out.lt
 go_wp2_with fail
 go_loopw [56,12] (fun v56 v12 wr=>∃ Wu:Value,Wu=v12∧v56=.int .i64 0∧w1=wr) (fun _ _ _=>0)
 case atStart=>exact ⟨_,rfl,rfl,rfl⟩
 case round =>
  obtain ⟨Wu,rfl,rfl,rfl⟩:=hrel
  go_wp2_with fail
  refine (FU _ _ _ _ w1).mono ?_
  rintro e w' ⟨rfl,rfl⟩
  go_upto_region 18 with (fail)
  generalize w1=wq at *
  have hd0:Below wq.heap.size wq wq.drew:=below_drewN (Below.refl _ _) 1
  have BRz:=HR1.out.stays hd0
  have BXz:=lu.out.stays hd0
  have VG:=HB1.out.trans (hd0.mono HB1.out.size)
  clear hd0 n0 hnl x2 hxl HN1 HB1 HR1 lu hsl
  refine wp_region_noPanic ?_
  refine bI (S:=(fun w'=>w'.cell? ⟨bR,0,none⟩=some (.string R.name)∧w'.cell? ⟨bR,1,none⟩=some (.int .i64 R.width)∧w'.cell? ⟨bR,2,none⟩=some (.int .i64 R.height)∧w'.cell? ⟨bR,3,none⟩=some (vp)∧w'.cell? ⟨bR,4,none⟩=some (vs)∧w'.cell? ⟨bR,5,none⟩=some (.bool R.falls)∧w'.cell? ⟨bR,6,none⟩=some (.bool R.keeps)∧w'.cell? ⟨bR,7,none⟩=some (ve)∧w'.cell? ⟨bR,8,none⟩=some (.int .i64 R.blocked)∧w'.cell? ⟨bR,9,none⟩=some (.int .i64 R.quiet)∧w'.cell? ⟨bR,10,none⟩=some (.int .i64 R.bC)∧w'.cell? ⟨bX,0,none⟩=some (.slice none 0 0)∧w'.cell? ⟨bX,1,none⟩=some (.string ByteArray.empty)∧w'.cell? ⟨bX,2,none⟩=some (.slice (some ⟨nb,0,none⟩) 1 1)∧w'.cell? ⟨bX,3,none⟩=some (.int .i64 0))) (L:=[10]) (by kernel_rfl) (by and_intros <;> first | exact BRz.cell _ rfl | exact BXz.cell _ rfl) (fun hHeld=>?_)
  refine dV 0 ?_
  refine dV 1 ?_
  refine aC 2 ?_
  refine Tv (rs:=[3,9]) ?_
  refine (aU.cons (by first | (simp only [List.getElem?_toArray,List.getElem?_cons_zero,List.getElem?_cons_succ] <;> rfl) | rfl) (fun K hK=>?_) (aU.cons (by first | (simp only [List.getElem?_toArray,List.getElem?_cons_zero,List.getElem?_cons_succ] <;> rfl) | rfl) (fun K hK=>?_) aU.nil))
  ·skip
   go_simp
   refine (BR wq.drew (HN.out.below VG HN.out.lt)).mono ?_
   rintro e y3 ⟨wg,wc',rfl,M3,hbb⟩
   have V7:=BRz.stays hbb
   have FV:=BXz.stays hbb
   have Fe:=VG.trans (hbb.mono VG.size)
   clear hbb
   refine hK.out _ _ (by and_intros <;> first | exact V7.cell _ rfl | exact FV.cell _ rfl) (fun hHeld=>?_)
   clear hK K
   refine Tv (rs:=[4,9]) ?_
   refine (aU.cons (by first | (simp only [List.getElem?_toArray,List.getElem?_cons_zero,List.getElem?_cons_succ] <;> rfl) | rfl) (fun K hK=>?_) (aU.cons (by first | (simp only [List.getElem?_toArray,List.getElem?_cons_zero,List.getElem?_cons_succ] <;> rfl) | rfl) (fun K hK=>?_) aU.nil))
   ·skip
    go_simp
    refine (Ed qo.out R vp vs ve _ [m] y3 (HR.out.below Fe (Nat.le_refl _)) EX.out M3).mono ?_
    rintro e y4 ⟨hbb,a1,a2,a3,n1,m1,n2,m2,n3,m3,px,py,rv,rfl⟩
    have BR4:=V7.stays hbb
    have BX4:=FV.stays hbb
    have LB4:=Fe.trans (hbb.mono Fe.size)
    clear hbb
    refine hK.out _ _ (by and_intros <;> first | exact BR4.cell _ rfl | exact BX4.cell _ rfl) (fun hHeld=>?_)
    clear hK K
    refine aC 5 ?_
    refine aC 6 ?_
    refine aC 7 ?_
    refine aC 8 ?_
    refine fH 9 fun K hK=>?_
    go_simp
    refine aQ ?_
    intro y9 e9
    have hbb:Below y4.heap.size y4 y9:=by rw [e9]; exact (Below.refl _ _).alloc (Nat.le_refl _) _
    have P9:Box y9 y4.heap.size [.slice none 0 0,.slice none 0 0,.slice none 0 0,.int .i64 0,.int .i64 0] 158:=by rw [e9]; exact Box.new _ _ _
    have hpw:w.heap.size≤y4.heap.size:=LB4.size
    have BR9:=BR4.stays hbb
    have BX9:=BX4.stays hbb
    have J6:=LB4.trans (hbb.mono LB4.size)
    clear hbb e9
    refine hK.out _ _ (by and_intros <;> first | exact BR9.cell _ rfl | exact BX9.cell _ rfl) (fun hHeld=>?_)
    clear hK K
    refine rP 10 fun K hK=>?_
    have pd0:=P9.cell 0 rfl
    have pd1:=P9.cell 1 rfl
    have pd2:=P9.cell 2 rfl
    have pd3:=P9.cell 3 rfl
    have pd4:=P9.cell 4 rfl
    have pf0:=P9.frozen 0
    have pf1:=P9.frozen 1
    have pf2:=P9.frozen 2
    have pf3:=P9.frozen 3
    have pf4:=P9.frozen 4
    go_simp
    refine aQ ?_
    intro y10 e10
    have vC:Below w.heap.size w y10:=by rw [e10]; exact ((((J6.setCell hpw _).setCell hpw _).setCell hpw _).setCell hpw _).setCell hpw _
    clear e10 pd0 pf0 pd1 pf1 pd2 pf2 pd3 pf3 pd4 pf4
    refine hK.out _ _ ?_
    clear hK K
    refine aC 11 ?_
    refine aC 12 ?_
    refine jC ?_
    have HL:=hid vC
    have dc:=vC.cell (p:=⟨db,0,none⟩) hdl |>.trans HD.out
    have hdy:db<y10.heap.size:=Nat.lt_of_lt_of_le hdl vC.size
    clear vC hHeld
    rw [Ap.out]
    go_wp2_with fail
    go_ret
    exact ⟨rfl,HL.out⟩
   ·skip
    go_simp
    refine aQ ?_
    intro y9 e9
    have hbb:Below y3.heap.size y3 y9:=by rw [e9]; exact (Below.refl _ _).alloc (Nat.le_refl _) _
    have P9:Box y9 y3.heap.size [.slice none 0 0,.slice none 0 0,.slice none 0 0,.int .i64 0,.int .i64 0] 158:=by rw [e9]; exact Box.new _ _ _
    have hpw:w.heap.size≤y3.heap.size:=Fe.size
    have BR9:=V7.stays hbb
    have BX9:=FV.stays hbb
    have J6:=Fe.trans (hbb.mono Fe.size)
    have M9:=iC.below M3 hbb (Nat.le_refl _)
    clear hbb e9
    refine hK.out _ _ (by and_intros <;> first | exact BR9.cell _ rfl | exact BX9.cell _ rfl) (fun hHeld=>?_)
    clear hK K
    refine fH 4 fun K hK=>?_
    go_simp
    refine (Ed qo.out R vp vs ve _ [m] y9 (HR.out.below J6 (Nat.le_refl _)) EX.out M9).mono ?_
    rintro e y4 ⟨hbb,a1,a2,a3,n1,m1,n2,m2,n3,m3,px,py,rv,rfl⟩
    have BR4:=BR9.stays hbb
    have BX4:=BX9.stays hbb
    have LB4:=J6.trans (hbb.mono J6.size)
    have P4:=P9.stays hbb
    clear hbb
    refine hK.out _ _ (by and_intros <;> first | exact BR4.cell _ rfl | exact BX4.cell _ rfl) (fun hHeld=>?_)
    clear hK K
    refine aC 5 ?_
    refine aC 6 ?_
    refine aC 7 ?_
    refine aC 8 ?_
    refine rP 10 fun K hK=>?_
    have pd0:=P4.cell 0 rfl
    have pd1:=P4.cell 1 rfl
    have pd2:=P4.cell 2 rfl
    have pd3:=P4.cell 3 rfl
    have pd4:=P4.cell 4 rfl
    have pf0:=P4.frozen 0
    have pf1:=P4.frozen 1
    have pf2:=P4.frozen 2
    have pf3:=P4.frozen 3
    have pf4:=P4.frozen 4
    go_simp
    refine aQ ?_
    intro y10 e10
    have vC:Below w.heap.size w y10:=by rw [e10]; exact ((((LB4.setCell hpw _).setCell hpw _).setCell hpw _).setCell hpw _).setCell hpw _
    clear e10 pd0 pf0 pd1 pf1 pd2 pf2 pd3 pf3 pd4 pf4
    refine hK.out _ _ ?_
    clear hK K
    refine aC 11 ?_
    refine aC 12 ?_
    refine jC ?_
    have HL:=hid vC
    have dc:=vC.cell (p:=⟨db,0,none⟩) hdl |>.trans HD.out
    have hdy:db<y10.heap.size:=Nat.lt_of_lt_of_le hdl vC.size
    clear vC hHeld
    rw [Ap.out]
    go_wp2_with fail
    go_ret
    exact ⟨rfl,HL.out⟩
  ·skip
   go_simp
   refine aQ ?_
   intro y9 e9
   have hbb:Below wq.drew.heap.size wq.drew y9:=by rw [e9]; exact (Below.refl _ _).alloc (Nat.le_refl _) _
   have P9:Box y9 wq.heap.size [.slice none 0 0,.slice none 0 0,.slice none 0 0,.int .i64 0,.int .i64 0] 158:=by rw [e9]; exact Box.new _ _ _
   have hpw:w.heap.size≤wq.heap.size:=VG.size
   have BR9:=BRz.stays hbb
   have BX9:=BXz.stays hbb
   have J6:=VG.trans (hbb.mono VG.size)
   clear hbb e9
   refine hK.out _ _ (by and_intros <;> first | exact BR9.cell _ rfl | exact BX9.cell _ rfl) (fun hHeld=>?_)
   clear hK K
   refine fH 3 fun K hK=>?_
   go_simp
   refine (BR y9 (HN.out.below J6 HN.out.lt)).mono ?_
   rintro e y3 ⟨wg,wc',rfl,M3,hbb⟩
   have V7:=BR9.stays hbb
   have FV:=BX9.stays hbb
   have Fe:=J6.trans (hbb.mono J6.size)
   have P3:=P9.stays hbb
   clear hbb
   refine hK.out _ _ (by and_intros <;> first | exact V7.cell _ rfl | exact FV.cell _ rfl) (fun hHeld=>?_)
   clear hK K
   refine fH 4 fun K hK=>?_
   go_simp
   refine (Ed qo.out R vp vs ve _ [m] y3 (HR.out.below Fe (Nat.le_refl _)) EX.out M3).mono ?_
   rintro e y4 ⟨hbb,a1,a2,a3,n1,m1,n2,m2,n3,m3,px,py,rv,rfl⟩
   have BR4:=V7.stays hbb
   have BX4:=FV.stays hbb
   have LB4:=Fe.trans (hbb.mono Fe.size)
   have P4:=P3.stays hbb
   clear hbb
   refine hK.out _ _ (by and_intros <;> first | exact BR4.cell _ rfl | exact BX4.cell _ rfl) (fun hHeld=>?_)
   clear hK K
   refine aC 5 ?_
   refine aC 6 ?_
   refine aC 7 ?_
   refine aC 8 ?_
   refine rP 10 fun K hK=>?_
   have pd0:=P4.cell 0 rfl
   have pd1:=P4.cell 1 rfl
   have pd2:=P4.cell 2 rfl
   have pd3:=P4.cell 3 rfl
   have pd4:=P4.cell 4 rfl
   have pf0:=P4.frozen 0
   have pf1:=P4.frozen 1
   have pf2:=P4.frozen 2
   have pf3:=P4.frozen 3
   have pf4:=P4.frozen 4
   go_simp
   refine aQ ?_
   intro y10 e10
   have vC:Below w.heap.size w y10:=by rw [e10]; exact ((((LB4.setCell hpw _).setCell hpw _).setCell hpw _).setCell hpw _).setCell hpw _
   clear e10 pd0 pf0 pd1 pf1 pd2 pf2 pd3 pf3 pd4 pf4
   refine hK.out _ _ ?_
   clear hK K
   refine aC 11 ?_
   refine aC 12 ?_
   refine jC ?_
   have HL:=hid vC
   have dc:=vC.cell (p:=⟨db,0,none⟩) hdl |>.trans HD.out
   have hdy:db<y10.heap.size:=Nat.lt_of_lt_of_le hdl vC.size
   clear vC hHeld
   rw [Ap.out]
   go_wp2_with fail
   go_ret
   exact ⟨rfl,HL.out⟩
theorem VH (HS:SortMvSaid) (R:aA) (vp vs ve:Value) (w:World) (hr:pV w R vp vs ve) (hnm:R.name.size≤maxLen) (hn:Box w nb [.int .i64 (-1),.int .i64 m.src,.int .i64 m.dst,.int .i64 m.piece,.string ByteArray.empty] 75) (hre:aJ R=0) (hrun:jO R [m]=0) :
  Calls Tryz.prog 51 #[(.agg #[.string R.name,.int .i64 R.width,.int .i64 R.height,vp,vs,.bool R.falls,.bool R.keeps,ve,.int .i64 R.blocked,.int .i64 R.quiet,.int .i64 R.bC]),.agg #[.slice none 0 0,.string ByteArray.empty,.slice (some ⟨nb,0,none⟩) 1 1,.int .i64 0]] w fun e w'=>e=.returned (.int .i64 0)∧Below w.heap.size w w':=by
 obtain ⟨i0,hi,hz0,hz1,hz2⟩:=info_parts info3
 have qo:=hid HS
 have HR:=hid hr
 have EX:=hid hnm
 have HN:=hid hn
 have Gv:=hid hre
 have Ap:=hid hrun
 clear HS hr hn hre hrun
 go_enter Tryz.func51,Tryz.ntmps51
 go_upto_region 1 with (fail)
 refine qQ ?_
 intro w0 xR xX hb hs
 obtain ⟨bX,hbX⟩:∃ bX,bX=w.heap.size+1:=⟨_,rfl⟩
 rw [← hbX] at xX ⊢
 obtain ⟨bR,hbR⟩:∃ bR,bR=w.heap.size:=⟨_,rfl⟩
 rw [← hbR] at xR ⊢
 have HB:=hid hb
 have HXR:=hid xR
 have HXX:=hid xX
 have r0:=xR.cell 0 rfl
 have r1:=xR.cell 1 rfl
 have r2:=xR.cell 2 rfl
 have r3:=xR.cell 3 rfl
 have r4:=xR.cell 4 rfl
 have r5:=xR.cell 5 rfl
 have r6:=xR.cell 6 rfl
 have r7:=xR.cell 7 rfl
 have r8:=xR.cell 8 rfl
 have r9:=xR.cell 9 rfl
 have r10:=xR.cell 10 rfl
 have x0:=xX.cell 0 rfl
 have x1:=xX.cell 1 rfl
 have x2:=xX.cell 2 rfl
 have x3:=xX.cell 3 rfl
 have hrl:=xR.lt
 have hxl:=xX.lt
 clear hb hs xR xX hbX hbR
 go_wp2_with fail
 refine (nV R vp vs ve w0 (HR.out.below HB.out (Nat.le_refl _)) EX.out).mono ?_
 rintro e w1 ⟨rfl,hb1⟩
 rw [Gv.out]
 have HB1:=hid (HB.out.trans (hb1.mono HB.out.size))
 have HR1:=hid (HXR.out.stays hb1)
 have lu:=hid (HXX.out.stays hb1)
 clear r0 r1 r2 r3 r4 r5 r6 r7 r8 r9 r10 x0 x1 x2 x3 hrl hxl hb1 HB HXR HXX
 have x0:=lu.out.cell 0 rfl
 have x1:=lu.out.cell 1 rfl
 have x2:=lu.out.cell 2 rfl
 have x3:=lu.out.cell 3 rfl
 have hxl:=lu.out.lt
 go_wp2_with fail
 refine (aaf w1).mono ?_
 rintro e w2 ⟨rfl,hb2⟩
 have HB2:=hid (HB1.out.trans (hb2.mono HB1.out.size))
 have HR2:=hid (HR1.out.stays hb2)
 have mZ:=hid (lu.out.stays hb2)
 clear x0 x1 x2 x3 hxl hb2 HB1 HR1 lu
 have x0:=mZ.out.cell 0 rfl
 have x1:=mZ.out.cell 1 rfl
 have x2:=mZ.out.cell 2 rfl
 have x3:=mZ.out.cell 3 rfl
 have hxl:=mZ.out.lt
 go_wp2_with fail
 refine (Bl w2).mono ?_
 rintro e w' ⟨rfl,rfl⟩
 go_upto_region 15 with (at_make; refine wpList_make_full _ rfl _ _ 22 rfl w2.heap.size 3 i0 (.int .i64 0) 1 Tryz.underlying22 hi hz0 hz1 .i64 .i64 1 1 1 rfl rfl rfl rfl (by rw [hz2]; omega) (by unfold maxLen; omega) (Nat.le_refl _) ?_; intro w3 hown hgrow)
 rw [made1] at hown
 have hb3:Below w2.heap.size w2 w3:=Below.grown (Below.refl _ _) hgrow (Nat.le_refl _) (fun q hq=>by cases hq)
 have hdl:=(hown.lt w2.heap.size rfl).2
 have hdc:=hown.cellAt 0 (by decide)
 have HD3:=hid (show w3.cell? ⟨w2.heap.size,0,none⟩=some (.int .i64 0) from hdc)
 have HDl:=hid hdl
 have HB3:=hid (HB2.out.trans (hb3.mono HB2.out.size))
 have HR3:=hid (HR2.out.stays hb3)
 have zW:=hid (mZ.out.stays hb3)
 obtain ⟨db,hdb⟩:∃ db,db=w2.heap.size:=⟨_,rfl⟩
 rw [← hdb] at HD3 HDl ⊢
 clear x0 x1 x2 x3 hxl hb3 hown hgrow hdl hdc hdb HB2 HR2 mZ hi hz0 hz1 hz2
 have x0:=zW.out.cell 0 rfl
 have x1:=zW.out.cell 1 rfl
 have x2:=zW.out.cell 2 rfl
 have x3:=zW.out.cell 3 rfl
 have hxl:=zW.out.lt
 go_wp2_with fail
 go_loopw [52,9,10] (fun v52 v9 v10 wr=>∃ (k:Nat) (o9 o10:Value),o9=v9∧o10=v10∧k≤1∧v52=.int .i64 k∧Hid (Below w3.heap.size w3 wr)) (fun v52 _ _ _=>1 - (intOf v52).toNat)
 case atStart=>exact ⟨0,_,_,rfl,rfl,Nat.zero_le _,rfl,hid (Below.refl _ _)⟩
 case round =>
  obtain ⟨k,o9,o10,rfl,rfl,hk,rfl,bn⟩:=hrel
  have hk2:k=0∨k=1:=by omega
  clear x0 x1 x2 x3 hxl
  rcases hk2 with rfl | rfl
  ·have uT:=hid (HR3.out.stays bn.out)
   have zB:=hid (zW.out.stays bn.out)
   have hwr:=HB3.out.trans (bn.out.mono HB3.out.size)
   have HNd:=hid (aag qo.out R vp vs ve db 1 wr (HR.out.below hwr (Nat.le_refl _)) EX.out (HN.out.below hwr HN.out.lt) ((bn.out.cell (p:=⟨db,0,none⟩) HDl.out).trans HD3.out) (Nat.lt_of_lt_of_le HDl.out bn.out.size) Ap.out)
   have r0:=uT.out.cell 0 rfl
   have r1:=uT.out.cell 1 rfl
   have r2:=uT.out.cell 2 rfl
   have r3:=uT.out.cell 3 rfl
   have r4:=uT.out.cell 4 rfl
   have r5:=uT.out.cell 5 rfl
   have r6:=uT.out.cell 6 rfl
   have r7:=uT.out.cell 7 rfl
   have r8:=uT.out.cell 8 rfl
   have r9:=uT.out.cell 9 rfl
   have r10:=uT.out.cell 10 rfl
   have x0:=zB.out.cell 0 rfl
   have x1:=zB.out.cell 1 rfl
   have x2:=zB.out.cell 2 rfl
   have x3:=zB.out.cell 3 rfl
   have hrl:=uT.out.lt
   have hxl:=zB.out.lt
   clear hwr uT zB
   go_wp2_with fail
   refine HNd.out.mono ?_
   rintro e w5 ⟨rfl,hb5⟩
   have EY:=hid (bn.out.trans (hb5.mono bn.out.size))
   clear r0 r1 r2 r3 r4 r5 r6 r7 r8 r9 r10 x0 x1 x2 x3 hrl hxl hb5 HNd bn
   go_wp2_with fail
   go_roundw
   case rel=>exact ⟨1,_,_,rfl,rfl,Nat.le_refl _,rfl,EY⟩
   case measure=>simp [intOf]
  ·have HF:=hid (HB3.out.trans (bn.out.mono HB3.out.size))
   go_wp2_with fail
   go_ret
   exact ⟨rfl,HF.out⟩
end Go.Proofs.YteablcielclaeaaGreatDoor.rz
namespace Go.Proofs.YteablcielclaeaaGreatDoor.rz
open Go.ChangeShapes Go.WideShapes Go.ChangeAt Go.RowKit
set_option linter.unusedVariables false
set_option maxHeartbeats 4000000
set_option maxRecDepth 100000
open Go.Proofs.YteablcielclaeaaGreatDoor
open Go.Lib (hid)
theorem ajY:Tryz.prog.underlying 22=some (.slice (Tryz.prog.elem 22)):=by kernel_rfl
theorem ajZ (w:World):(sizeOf (Tryz.prog.elem 22)).run Tryz.prog w=.ok 1 w:=by kernel_rfl
variable {m:aB} {nb:Nat}
theorem Q5 (bW:Nat) (R:aA) (vp vs ve vc v0 v1:Value) (t q:Int) (w:World) (hw:Box w bW [.string R.name,.int .i64 R.width,.int .i64 R.height,vp,vs,.bool R.falls,.bool R.keeps,ve,.int .i64 R.blocked,.int .i64 R.quiet,.int .i64 R.bC,.slice none 0 0,.string ByteArray.empty,.slice (some ⟨nb,0,none⟩) 1 1,.int .i64 0] Wp) (hn:Box w nb [.int .i64 (-1),.int .i64 m.src,.int .i64 m.dst,.int .i64 m.piece,.string ByteArray.empty] 75) :
  Calls Tryz.prog 54 #[.pointer (some ⟨bW,0,none⟩),.agg #[vc,v0,v1,.int .i64 t,.int .i64 q],.int .i64 0] w fun e w'=>e=.returned (.slice none 0 0)∧Below w.heap.size w w':=by
 have bn:=hid hw
 have HN:=hid hn
 have hbl:=hw.lt
 clear hw hn
 go_enter Tryz.func54,Tryz.ntmps54
 go_upto_region 1 with (fail)
 refine qQ ?_
 intro w0 x3 x4 hb hs
 obtain ⟨b4,hb4⟩:∃ b4,b4=w.heap.size+1:=⟨_,rfl⟩
 rw [← hb4] at x4 ⊢
 obtain ⟨b3,hb3⟩:∃ b3,b3=w.heap.size:=⟨_,rfl⟩
 rw [← hb3] at x3 ⊢
 have HB:=hid hb
 have HA:=hid x3
 have HE:=hid x4
 have HD0:=hid (bn.out.below hb hbl)
 have hN0:=HN.out.below hb HN.out.lt
 have g0:=x3.cell 0 rfl
 have d11:=HD0.out.cell 11 rfl
 have d12:=HD0.out.cell 12 rfl
 have d13:=HD0.out.cell 13 rfl
 have d14:=HD0.out.cell 14 rfl
 have aj0:=HD0.out.lt
 have aeb:=x3.lt
 clear hb x3 x4 hs hb3 hb4
 go_wp2_with fail
 refine (VE w0 hN0).mono ?_
 rintro e w1 ⟨rfl,hb1⟩
 have HL:=hid (HB.out.trans (hb1.mono HB.out.size))
 clear hb1 g0 d11 d12 d13 d14 hN0
 go_wp2_with fail
 go_ret
 exact ⟨rfl,HL.out⟩
theorem Q8 (HS:SortMvSaid) (bW:Nat) (R:aA) (vp vs ve:Value) (p:bf) (vc v0 v1:Value) (w:World) (hw:Box w bW [.string R.name,.int .i64 R.width,.int .i64 R.height,vp,vs,.bool R.falls,.bool R.keeps,ve,.int .i64 R.blocked,.int .i64 R.quiet,.int .i64 R.bC,.slice none 0 0,.string ByteArray.empty,.slice (some ⟨nb,0,none⟩) 1 1,.int .i64 0] Wp) (hn:Box w nb [.int .i64 (-1),.int .i64 m.src,.int .i64 m.dst,.int .i64 m.piece,.string ByteArray.empty] 75) (hr:pV w R vp vs ve) (hp:sH w p vc v0 v1) (K:qg R p) (L:GR R) (hll:(dZ R p).length≤1000000) (hO:acv R p m) (hm:m∈dZ R p)
  (tl:List tN) (htl:Ec R p m ByteArray.empty=tl) (htn:tl.length≤1000) :
  Calls Tryz.prog 54 #[.pointer (some ⟨bW,0,none⟩),.agg #[vc,v0,v1,.int .i64 p.turn,.int .i64 p.quiet],.int .i64 (-1)] w fun e w'=>∃ v,e=.returned v∧w'.ownsRow w.heap.size 9 1 v tl.length (iR tl)∧Below w.heap.size w w':=by
 have qo:=hid HS
 have bn:=hid hw
 have HN:=hid hn
 have HR:=hid hr
 have HP:=hid hp
 have HK:=hid K
 have IV:=hid L
 have HLL:=hid hll
 have HOf:=hid hO
 have HMm:=hid hm
 have HTE:=hid htl
 have Vb:=hid htn
 have HNd:Hid (yS w nb 0 (⟨[],ByteArray.empty,[⟨-1,m,ByteArray.empty⟩],0⟩:FB)):=hid ⟨hn.lt,fun i hi=>by
  obtain rfl:i=0:=by have:i<1:=hi; omega
  exact ⟨hn.cell 0 rfl,hn.cell 1 rfl,hn.cell 2 rfl,hn.cell 3 rfl,hn.cell 4 rfl,show ByteArray.empty.size≤maxLen by unfold maxLen; decide⟩⟩
 have hbl:=hw.lt
 clear HS hw hn hr hp K L hll hO hm htl htn
 go_enter Tryz.func54,Tryz.ntmps54
 go_upto_region 1 with (fail)
 refine qQ ?_
 intro w0 x3 x4 hb hs
 obtain ⟨b4,hb4⟩:∃ b4,b4=w.heap.size+1:=⟨_,rfl⟩
 rw [← hb4] at x4 ⊢
 obtain ⟨b3,hb3⟩:∃ b3,b3=w.heap.size:=⟨_,rfl⟩
 rw [← hb3] at x3 ⊢
 have HB:=hid hb
 have HA:=hid x3
 have HE:=hid x4
 have HD0:=hid (bn.out.below hb hbl)
 have hN0:=HN.out.below hb HN.out.lt
 have g0:=x3.cell 0 rfl
 have d11:=HD0.out.cell 11 rfl
 have d12:=HD0.out.cell 12 rfl
 have d13:=HD0.out.cell 13 rfl
 have d14:=HD0.out.cell 14 rfl
 have aj0:=HD0.out.lt
 have aeb:=x3.lt
 clear hb x3 x4 hs hb3 hb4
 go_wp2_with fail
 refine (VF w0 hN0).mono ?_
 rintro e w1 ⟨gk,ck,rfl,VI,hkc,hck,hb1⟩
 have HKC:=hid hkc
 have HA1:=hid (HA.out.stays hb1)
 have nO:=hid (HE.out.stays hb1)
 have HD1:=hid (HD0.out.stays hb1)
 have yt:=hid (ak HB.out hb1 HB.out.size)
 have Iz:=HD1.out.lt
 have Eh:=HA1.out.lt
 have Qk:=nO.out.lt
 clear hb1 g0 d11 d12 d13 d14 hN0 hkc aj0 aeb HA HE HD0 HB
 go_upto_region 5 with (fail)
 have Lz:Below w1.heap.size w1 w1.drew:=below_drewN (Below.refl _ _) 1
 have Az:=HA1.out.below Lz Eh
 have Ez:=nO.out.below Lz Qk
 have Dz:=HD1.out.below Lz Iz
 have Wz:=ak yt.out Lz yt.out.size
 have kz:=(Lz.cell (p:=⟨gk,0,none⟩) VI).trans HKC.out
 refine wp_region_noPanic ?_
 refine bI (S:=(fun w'=>w'.cell? ⟨b3,0,none⟩=some (.pointer (some ⟨bW,0,none⟩))∧w'.cell? ⟨b4,0,none⟩=some (vc)∧w'.cell? ⟨b4,1,none⟩=some (v0)∧w'.cell? ⟨b4,2,none⟩=some (v1)∧w'.cell? ⟨b4,3,none⟩=some (.int .i64 p.turn)∧w'.cell? ⟨b4,4,none⟩=some (.int .i64 p.quiet)∧w'.cell? ⟨gk,0,none⟩=some (.int .i64 0))) (L:=[]) (by kernel_rfl) ⟨Az.cell 0 rfl,Ez.cell 0 rfl,Ez.cell 1 rfl,Ez.cell 2 rfl,Ez.cell 3 rfl,Ez.cell 4 rfl,kz⟩ (fun hHeld=>?_)
 refine dV 0 ?_
 refine dV 1 ?_
 refine aC 2 ?_
 refine aC 3 ?_
 refine dV 4 ?_
 refine fH 5 fun K hK=>?_
 go_simp
 refine (YR qo.out (⟨[],ByteArray.empty,[⟨-1,m,ByteArray.empty⟩],0⟩:FB) none 0 nb 0 1 0 bW p vc v0 v1 w1.drew Dz (HR.out.below Wz (Nat.le_refl _)) (HP.out.below Wz (Nat.le_refl _)) HK.out IV.out HLL.out Nat.zero_lt_one (by show ByteArray.empty.size≤1000; decide) HOf.out (HNd.out.below Wz (Nat.le_refl _)).1 (HNd.out.below Wz (Nat.le_refl _)).2).mono ?_
 rintro e w10 ⟨v10,rfl,qY,mM⟩
 have zU:=ak Lz mM Lz.size
 have A10:=HA1.out.below zU Eh
 have yH:=nO.out.below zU Qk
 have xI:=HD1.out.below zU Iz
 have W10:=ak yt.out zU yt.out.size
 have k10:=(zU.cell (p:=⟨gk,0,none⟩) VI).trans HKC.out
 refine hK.out _ _ ⟨A10.cell 0 rfl,yH.cell 0 rfl,yH.cell 1 rfl,yH.cell 2 rfl,yH.cell 3 rfl,yH.cell 4 rfl,k10⟩ (fun hHeld=>?_)
 clear hK K
 refine aC 6 ?_
 refine jC ?_
 have O8:=hid (own_base qY Lz.size)
 have Ya:=hid zU
 clear hHeld Az Ez Dz Wz Lz kz A10 yH xI W10 zU k10 qY mM
 rw [show Ec R p (kW (⟨[],ByteArray.empty,[⟨-1,m,ByteArray.empty⟩],0⟩:FB).nodes 0).m (kW (⟨[],ByteArray.empty,[⟨-1,m,ByteArray.empty⟩],0⟩:FB).nodes 0).comment=tl from HTE.out] at O8
 obtain ⟨oa,oc,rfl⟩:=aG O8.out
 obtain ⟨sa,hsa⟩:∃ sa,sa=iT (some ⟨gk,0,none⟩) ck 1 1:=⟨_,rfl⟩
 have hds:∀ w:World,(Instr.sliceAt 22 (.slice (some ⟨gk,0,none⟩) 1 ck) (some (.int .i64 1)) none none).run Tryz.prog w=.ok (.slice sa 0 (ck - 1)) w:=fun w=>by rw [hsa]; exact CP ajY ajZ (some ⟨gk,0,none⟩) 1 ck 1 (by omega) w
 clear hsa
 go_wp2_with fail
 go_loopw [32,9,11,12] (fun v32 v9 v11 v12 wr=>∃ (o11 Wu:Value),o11=v11∧Wu=v12∧v32=.int .i64 0∧v9=.slice oa tl.length oc∧w10=wr) (fun _ _ _ _ _=>0)
 case atStart=>exact ⟨_,_,rfl,rfl,rfl,rfl,rfl⟩
 case round =>
  obtain ⟨o11,Wu,rfl,rfl,rfl,rfl,rfl⟩:=hrel
  go_upto_region 12 with (fail)
  generalize w10=w5 at *
  have hd5:Below w5.heap.size w5 w5.drew:=below_drewN (Below.refl _ _) 1
  have Lz:Below w1.heap.size w1 w5.drew:=Ya.out.trans (hd5.mono Ya.out.size)
  have Az:=HA1.out.below Lz Eh
  have Ez:=nO.out.below Lz Qk
  have Dz:=HD1.out.below Lz Iz
  have Wz:=ak yt.out Lz yt.out.size
  have kz:=(Lz.cell (p:=⟨gk,0,none⟩) VI).trans HKC.out
  have Rz:w5.drew.ownsRow w1.heap.size 9 1 (.slice oa tl.length oc) tl.length (iR tl):=aS O8.out hd5
  clear hd5 O8 Ya hds
  refine wp_region_noPanic ?_
  refine bI (S:=(fun w'=>w'.cell? ⟨b3,0,none⟩=some (.pointer (some ⟨bW,0,none⟩))∧w'.cell? ⟨b4,0,none⟩=some (vc)∧w'.cell? ⟨b4,1,none⟩=some (v0)∧w'.cell? ⟨b4,2,none⟩=some (v1)∧w'.cell? ⟨b4,3,none⟩=some (.int .i64 p.turn)∧w'.cell? ⟨b4,4,none⟩=some (.int .i64 p.quiet)∧w'.cell? ⟨gk,0,none⟩=some (.int .i64 0))) (L:=[]) (by kernel_rfl) ⟨Az.cell 0 rfl,Ez.cell 0 rfl,Ez.cell 1 rfl,Ez.cell 2 rfl,Ez.cell 3 rfl,Ez.cell 4 rfl,kz⟩ (fun hHeld=>?_)
  refine aC 0 ?_
  refine dV 1 ?_
  refine aC 2 ?_
  refine aC 3 ?_
  refine aC 7 ?_
  refine aC 4 ?_
  refine aC 8 ?_
  refine dV 5 ?_
  refine dV 9 ?_
  refine fH 6 fun K hK=>?_
  go_simp
  refine (UU (⟨[],ByteArray.empty,[⟨-1,m,ByteArray.empty⟩],0⟩:FB) none 0 nb 0 1 0 bW b3 b4 p vc v0 v1 w5.drew Dz Az Ez (HP.out.below Wz (Nat.le_refl _)) HK.out Nat.zero_lt_one HMm.out (HNd.out.below Wz (Nat.le_refl _))).mono ?_
  rintro e yR ⟨yc,y0,y1,rfl,apa,vH⟩
  have wz:=ak Lz vH Lz.size
  have A20:=HA1.out.below wz Eh
  have BG:=nO.out.below wz Qk
  have ML:=HD1.out.below wz Iz
  have W20:=ak yt.out wz yt.out.size
  have k20:=(wz.cell (p:=⟨gk,0,none⟩) VI).trans HKC.out
  have R20:=aS Rz vH
  unfold sG
  refine hK.out _ _ ⟨A20.cell 0 rfl,BG.cell 0 rfl,BG.cell 1 rfl,BG.cell 2 rfl,BG.cell 3 rfl,BG.cell 4 rfl,k20⟩ (fun hHeld=>?_)
  clear hK K
  refine fH 10 fun K hK=>?_
  go_simp
  refine (Q5 bW R vp vs ve _ _ _ _ _ yR ML (HN.out.below W20 HN.out.lt)).mono ?_
  rintro e w30 ⟨rfl,af4⟩
  have Ti:=ak wz af4 wz.size
  have A30:=HA1.out.below Ti Eh
  have E30:=nO.out.below Ti Qk
  have D30:=HD1.out.below Ti Iz
  have W30:=ak yt.out Ti yt.out.size
  have k30:=(Ti.cell (p:=⟨gk,0,none⟩) VI).trans HKC.out
  have R30:=aS R20 af4
  refine hK.out _ _ ⟨A30.cell 0 rfl,E30.cell 0 rfl,E30.cell 1 rfl,E30.cell 2 rfl,E30.cell 3 rfl,E30.cell 4 rfl,k30⟩ (fun hHeld=>?_)
  clear hK K
  refine fH 11 fun K hK=>?_
  rw [if_pos (by rfl)]
  refine tV _ _ rfl w1.heap.size (.slice oa tl.length oc) tl rfl R30 0 (.slice none 0 0) [] rfl (World.ownsRow_nil _ _ _ _) (by have:=Vb.out; show tl.length+0≤_; omega) Ti.size ?_
  intro v40 w40 aj3 aj6
  have Wv:=below_grown Ti R30 aj6 Ti.size
  have A40:=HA1.out.below Wv Eh
  have E40:=nO.out.below Wv Qk
  have D40:=HD1.out.below Wv Iz
  have W40:=ak yt.out Wv yt.out.size
  have k40:=(Wv.cell (p:=⟨gk,0,none⟩) VI).trans HKC.out
  refine hK.out _ _ ⟨A40.cell 0 rfl,E40.cell 0 rfl,E40.cell 1 rfl,E40.cell 2 rfl,E40.cell 3 rfl,E40.cell 4 rfl,k40⟩ (fun hHeld=>?_)
  clear hK K
  refine aC 12 ?_
  refine jC ?_
  have apd:=hid aj3
  have ape:=hid W40
  clear hHeld Az Ez Dz Wz Lz kz Rz A20 BG ML W20 wz k20 A30 E30 D30 W30 Ti k30 A40 E40 D40 W40 Wv k40 apa aj3 vH af4 aj6 R20 R30
  go_wp2_with fail
  go_ret
  exact ⟨_,rfl,own_base (by have:=apd.out; rwa [List.append_nil] at this) yt.out.size,ape.out⟩
end Go.Proofs.YteablcielclaeaaGreatDoor.rz
namespace Go.Proofs.YteablcielclaeaaGreatDoor.rz
open Go.ChangeShapes Go.WideShapes Go.ChangeAt Go.RowKit
set_option linter.unusedVariables false
open Go.Proofs.YteablcielclaeaaGreatDoor
open Go.Lib (hid)
variable {m:aB} {nb:Nat}
set_option maxRecDepth 100000 in
set_option maxHeartbeats 8000000 in
theorem NU (HS:SortMvSaid) (HJ:Ae) (HWr:WriteSaid) (HLn:LenSaid) (Gi:StringSaid) (R:aA) (vp vs ve:Value) (w:World) (hr:pV w R vp vs ve) (hnm:R.name.size≤maxLen) (hn:Box w nb [.int .i64 (-1),.int .i64 m.src,.int .i64 m.dst,.int .i64 m.piece,.string ByteArray.empty] 75) (hre:aJ R=0) (hrun:jO R [m]=0)
  (hm:m∈dZ R (aF R)) (hll:(dZ R (aF R)).length≤1000000) (t:tN) (ht:Ec R (aF R) m ByteArray.empty=[t]) (hts:t.length≤1000) :
  Calls Tryz.prog 17 #[(.agg #[.string R.name,.int .i64 R.width,.int .i64 R.height,vp,vs,.bool R.falls,.bool R.keeps,ve,.int .i64 R.blocked,.int .i64 R.quiet,.int .i64 R.bC]),.agg #[.slice none 0 0,.string ByteArray.empty,.slice (some ⟨nb,0,none⟩) 1 1,.int .i64 0]] w fun e w'=>e=.returned (.tuple #[.string (bs (qI [t,[42]]++[10])),.int .i64 0])∧Below w.heap.size w w':=by
 have qo:=hid HS
 have HJh:=hid HJ
 have HWh:=hid HWr
 have HLh:=hid HLn
 have HTh:=hid Gi
 have HR:=hid hr
 have EX:=hid hnm
 have HN:=hid hn
 have Gv:=hid hre
 have Ap:=hid hrun
 have HMm:=hid hm
 have HLL:=hid hll
 have HTt:=hid ht
 have HTs:=hid hts
 have hem:ByteArray.empty.toList.isEmpty=true:=by rw [Lib.toList_data]; rfl
 clear HS HJ HWr HLn Gi hr hnm hn hre hrun hm hll ht hts
 go_enter Tryz.func17,Tryz.ntmps17
 go_upto_region 1 with (fail)
 refine qQ ?_
 intro w0 xR xX hb hs
 obtain ⟨b3,hb3⟩:∃ b3,b3=w.heap.size+1:=⟨_,rfl⟩
 rw [← hb3] at xX ⊢
 obtain ⟨b2,hb2⟩:∃ b2,b2=w.heap.size:=⟨_,rfl⟩
 rw [← hb2] at xR ⊢
 have HB:=hid hb
 have HR0:=hid xR
 have HX0:=hid xX
 have r0:=xR.cell 0 rfl
 have r1:=xR.cell 1 rfl
 have r2:=xR.cell 2 rfl
 have r3:=xR.cell 3 rfl
 have r4:=xR.cell 4 rfl
 have r5:=xR.cell 5 rfl
 have r6:=xR.cell 6 rfl
 have r7:=xR.cell 7 rfl
 have r8:=xR.cell 8 rfl
 have r9:=xR.cell 9 rfl
 have r10:=xR.cell 10 rfl
 have x0:=xX.cell 0 rfl
 have x1:=xX.cell 1 rfl
 have x2:=xX.cell 2 rfl
 have x3:=xX.cell 3 rfl
 clear hb hs xR xX hb2 hb3
 go_wp2_with fail
 refine (VH qo.out R vp vs ve w0 (HR.out.below HB.out (Nat.le_refl _)) EX.out (HN.out.below HB.out HN.out.lt) Gv.out Ap.out).mono ?_
 rintro e w1 ⟨rfl,hb1⟩
 have yt:=hid (HB.out.trans (hb1.mono HB.out.size))
 have HR1:=hid (HR0.out.stays hb1)
 have lu:=hid (HX0.out.stays hb1)
 clear r0 r1 r2 r3 r4 r5 r6 r7 r8 r9 r10 x0 x1 x2 x3 hb1 HB HR0 HX0
 go_upto_region 5 with (fail)
 refine lX ?_
 intro w2 xB hbl hbs
 obtain ⟨B,hB⟩:∃ B,B=w1.heap.size:=⟨_,rfl⟩
 rw [← hB] at xB hbl hbs ⊢
 have V9:Hid (BAt B B [] w2):=hid (.inl ⟨Nat.le_refl _,.slice none 0 0,xB,World.ownsRow_nil _ _ _ _,by simp [Value.ownBlock]⟩)
 have hwB:w.heap.size≤B:=by rw [hB]; exact yt.out.size
 have aj8:b3<B:=by have:=lu.out.lt; omega
 have apf:b2<B:=by have:=HR1.out.lt; omega
 have HW2:=hid (yt.out.trans (hbl.mono hwB))
 have uT:=hid (HR1.out.below hbl apf)
 have zB:=hid (lu.out.below hbl aj8)
 have hB2:B≤w2.heap.size:=by have:=hbl.size; omega
 clear xB hbl hbs hB HR1 lu yt
 have r0:=uT.out.cell 0 rfl
 have r1:=uT.out.cell 1 rfl
 have r2:=uT.out.cell 2 rfl
 have r3:=uT.out.cell 3 rfl
 have r4:=uT.out.cell 4 rfl
 have r5:=uT.out.cell 5 rfl
 have r6:=uT.out.cell 6 rfl
 have r7:=uT.out.cell 7 rfl
 have r8:=uT.out.cell 8 rfl
 have r9:=uT.out.cell 9 rfl
 have r10:=uT.out.cell 10 rfl
 have x0:=zB.out.cell 0 rfl
 have x1:=zB.out.cell 1 rfl
 have x2:=zB.out.cell 2 rfl
 have x3:=zB.out.cell 3 rfl
 have Eh:=zB.out.lt
 have af5:=uT.out.lt
 go_wp2_with fail
 go_loopw [22,9] (fun v22 v9 wr=>∃ o9:Value,o9=v9∧v22=.int .i64 0∧w2=wr) (fun _ _ _=>0)
 case atStart=>exact ⟨_,rfl,rfl,rfl⟩
 case round =>
  obtain ⟨o9,rfl,rfl,rfl⟩:=hrel
  go_wp2_with fail
  refine (CX R vp vs ve w2 (HR.out.below HW2.out (Nat.le_refl _)) EX.out).mono ?_
  rintro e w7 (⟨h,-⟩ | ⟨-,vc,v0,v1,rfl,uZ,hb7⟩)
  ·exact absurd Gv.out h
  obtain ⟨pa,pc,rfl⟩:=aG uZ.1
  obtain ⟨pa0,pc0,rfl⟩:=aG uZ.2.1
  obtain ⟨pa1,pc1,rfl⟩:=aG uZ.2.2
  have hP7:sH w7 (aF R) (.slice pa (aF R).cells.length pc) (.slice pa0 (aF R).h0.length pc0) (.slice pa1 (aF R).h1.length pc1):=⟨fQ.dB uZ.1,fQ.dB uZ.2.1,fQ.dB uZ.2.2⟩
  have HC7:=hid hb7
  have hw7:=HW2.out.trans (hb7.mono HW2.out.size)
  have zA:=hid (uT.out.stays hb7)
  have HX7:=hid (zB.out.stays hb7)
  have hN7:=HN.out.below hw7 HN.out.lt
  clear uZ r0 r1 r2 r3 r4 r5 r6 r7 r8 r9 r10 x0 x1 x2 x3 Eh af5 hb7
  unfold sG
  have r0:=zA.out.cell 0 rfl
  have r1:=zA.out.cell 1 rfl
  have r2:=zA.out.cell 2 rfl
  have r3:=zA.out.cell 3 rfl
  have r4:=zA.out.cell 4 rfl
  have r5:=zA.out.cell 5 rfl
  have r6:=zA.out.cell 6 rfl
  have r7:=zA.out.cell 7 rfl
  have r8:=zA.out.cell 8 rfl
  have r9:=zA.out.cell 9 rfl
  have r10:=zA.out.cell 10 rfl
  have x0:=HX7.out.cell 0 rfl
  have x1:=HX7.out.cell 1 rfl
  have x2:=HX7.out.cell 2 rfl
  have x3:=HX7.out.cell 3 rfl
  have Eh:=HX7.out.lt
  have af5:=zA.out.lt
  have HN0:=hid (Box.new w7 [.slice none 0 0,.slice none 0 0,.slice none 0 0,.int .i64 0,.int .i64 0] 158)
  have hWW:Below w7.heap.size w7 ((w7.alloc (.cells #[.slice pa (aF R).cells.length pc,.slice pa0 (aF R).h0.length pc0,.slice pa1 (aF R).h1.length pc1,.int .i64 (aF R).turn,.int .i64 (aF R).quiet] 158)).alloc (.cells #[.string R.name,.int .i64 R.width,.int .i64 R.height,vp,vs,.bool R.falls,.bool R.keeps,ve,.int .i64 R.blocked,.int .i64 R.quiet,.int .i64 R.bC,.slice none 0 0,.string ByteArray.empty,.slice (some ⟨nb,0,none⟩) 1 1,.int .i64 0] Wp)):=((Below.refl _ _).alloc (Nat.le_refl _) _).alloc (by simp) _
  have hbw:Box ((w7.alloc (.cells #[.slice pa (aF R).cells.length pc,.slice pa0 (aF R).h0.length pc0,.slice pa1 (aF R).h1.length pc1,.int .i64 (aF R).turn,.int .i64 (aF R).quiet] 158)).alloc (.cells #[.string R.name,.int .i64 R.width,.int .i64 R.height,vp,vs,.bool R.falls,.bool R.keeps,ve,.int .i64 R.blocked,.int .i64 R.quiet,.int .i64 R.bC,.slice none 0 0,.string ByteArray.empty,.slice (some ⟨nb,0,none⟩) 1 1,.int .i64 0] Wp)) (w7.heap.size+1) [.string R.name,.int .i64 R.width,.int .i64 R.height,vp,vs,.bool R.falls,.bool R.keeps,ve,.int .i64 R.blocked,.int .i64 R.quiet,.int .i64 R.bC,.slice none 0 0,.string ByteArray.empty,.slice (some ⟨nb,0,none⟩) 1 1,.int .i64 0] Wp:=Box.new' _ _ _ _ (by simp)
  have HAf:=hid (Q8 qo.out (w7.heap.size+1) R vp vs ve (aF R) (.slice pa (aF R).cells.length pc) (.slice pa0 (aF R).h0.length pc0) (.slice pa1 (aF R).h1.length pc1) _ hbw (hN7.below hWW hN7.lt) (HR.out.below (ak hw7 hWW hw7.size) (Nat.le_refl _)) (hP7.below hWW (Nat.le_refl _)) (qx Gv.out) (afc Gv.out) HLL.out (acw (qx Gv.out) HMm.out) HMm.out [t] HTt.out (by show 1≤1000; decide))
  have HWW:=hid hWW
  clear hWW hbw hN7 hP7 hw7
  go_wp2_with (refine aT (vs:=[.slice pa (aF R).cells.length pc,.slice pa0 (aF R).h0.length pc0,.slice pa1 (aF R).h1.length pc1,.int .i64 (aF R).turn,.int .i64 (aF R).quiet]) (by rfl) 158 (.tmp 11) (.tmp 49) w7.heap.size (by rfl) (by rfl) HN0.out rfl (by kernel_rfl) (by rfl) ?_)
  refine HAf.out.mono ?_
  rintro e w9 ⟨v9,rfl,QO,vW⟩
  have HC9:=hid (ak (ak HC7.out HWW.out HC7.out.size) vW (ak HC7.out HWW.out HC7.out.size).size)
  clear r0 r1 r2 r3 r4 r5 r6 r7 r8 r9 r10 x0 x1 x2 x3 Eh af5 HN0 HAf zA HX7
  go_wp2_with (at_builtin; refine YS (by rfl) _ _ (by rfl) w2.heap.size (.slice none 0 0) [] (by rfl) (World.ownsRow_nil _ _ _ _) ((w7.alloc (.cells #[.slice pa (aF R).cells.length pc,.slice pa0 (aF R).h0.length pc0,.slice pa1 (aF R).h1.length pc1,.int .i64 (aF R).turn,.int .i64 (aF R).quiet] 158)).alloc (.cells #[.string R.name,.int .i64 R.width,.int .i64 R.height,vp,vs,.bool R.falls,.bool R.keeps,ve,.int .i64 R.blocked,.int .i64 R.quiet,.int .i64 R.bC,.slice none 0 0,.string ByteArray.empty,.slice (some ⟨nb,0,none⟩) 1 1,.int .i64 0] Wp)).heap.size v9 [t] (by rfl) QO (by show 0+1≤1000000; decide) HC9.out.size ?_)
  intro v10 w10 qY akc
  have akd:=hid (below_grown HC9.out (World.ownsRow_nil _ _ 9 1) akc HC9.out.size)
  have ake:Hid (w10.ownsRow w2.heap.size 9 1 v10 1 (iR [t])):=hid qY
  obtain ⟨la0,lc0,rfl⟩:=aG ake.out
  have LV:=hid (zB.out.stays akd.out)
  clear qY akc QO vW HC9 HC7 HWW
  go_wp2_with fail
  obtain ⟨rs,hrs⟩:∃ rs,rs=bs [42]:=⟨_,rfl⟩
  have HIX:∀ w',(Instr.index 166 (.agg #[.string ⟨#[42]⟩,.string ⟨#[49,45,48]⟩,.string ⟨#[48,45,49]⟩,.string ⟨#[49,47,50]⟩]) (.int .i64 0)).run Tryz.prog w'=.ok (.string rs) w':=by
   rw [hrs]; intro w'; kernel_rfl
  have HRS:Hid (bs [42]=rs):=hid hrs.symm
  obtain ⟨lp,hlp⟩:∃ lp,lp=[t]++[[42]]:=⟨_,rfl⟩
  have apj:=hid hlp
  have apk:Hid (lp.length≤1000):=hid (by rw [hlp]; show 2≤1000; decide)
  have apl:Hid (∀ x∈lp,x.length≤1000000):=hid (fun x hx=>by
   rw [hlp] at hx
   have h1:=HTs.out
   rcases List.mem_append.1 hx with hx | hx
   ·rw [List.mem_singleton.1 hx]; omega
   ·rw [List.mem_singleton.1 hx]; show 1≤1000000; decide)
  obtain ⟨j,hj⟩:∃ j,j=bs (qI [t,[42]]):=⟨_,rfl⟩
  have hjs:j.size≤2000:=by
   rw [hj,acy]
   have:=HTs.out
   show (t++32 :: [42]).length≤2000
   rw [List.length_append]
   show t.length+2≤2000
   omega
  have HJE:Hid (bs (qI lp)=j):=hid (by rw [hlp]; exact hj.symm)
  obtain ⟨tx,htx⟩:∃ tx,tx=(j++⟨#[10]⟩:ByteArray):=⟨_,rfl⟩
  have HTz:Hid (tx.size≤2001):=hid (by rw [htx,ByteArray.size_append]; show j.size+1≤_; omega)
  have HTJ:Hid ((j++⟨#[10]⟩:ByteArray)=tx):=hid htx.symm
  obtain ⟨tb,htb⟩:∃ tb,tb=qI [t,[42]]++[10]:=⟨_,rfl⟩
  have HTe:Hid (tb=qI [t,[42]]++[10]):=hid htb
  have HTB:Hid ([]++bt tx=tb):=hid (by rw [htb,htx,hj]; simp [bt,bs])
  have HTn:Hid (tb.length≤2001):=hid (by rw [← HTB.out,List.nil_append,aff]; exact HTz.out)
  have hs1:¬ 9223372036854775807<j.size+1:=by omega
  clear hrs hj htx htb hlp
  have Lz:Below w2.heap.size w2 w10.drew:=akd.out.drew
  have Xz:=LV.out.drew
  have Rz:World.ownsRow w10.drew w2.heap.size 9 1 (.slice la0 1 lc0) 1 (iR [t]):=ake.out
  refine wp_region_noPanic ?_
  refine bI (S:=(fun w'=>w'.cell? ⟨b3,3,none⟩=some (.int .i64 0))) (L:=[]) (by kernel_rfl) (Xz.cell 3 rfl) (fun hHeld=>?_)
  refine aC 0 ?_
  refine aC 2 ?_
  refine dV 3 ?_
  refine fH 1 fun K hK=>?_
  go_simp
  refine (MK w10.drew).mono ?_
  rintro e yR ⟨rfl,vH⟩
  have wz:=ak Lz vH Lz.size
  have Tj:=Xz.stays vH
  have R20:=aS Rz vH
  refine hK.out _ _ (Tj.cell 3 rfl) (fun hHeld=>?_)
  clear hK K
  refine aC 4 ?_
  refine fH 5 fun K hK=>?_
  go_simp
  refine aQ ?_
  intro jB e21
  have BH:Below yR.heap.size yR jB:=by rw [e21]; exact Qm yR _
  have N21:Box jB yR.heap.size [.string rs] 9:=by rw [e21]; exact Box.new' _ _ _ _ rfl
  have Ee:=ak wz BH wz.size
  have Qj:=Tj.stays BH
  have R21:=aS R20 BH
  clear e21
  have DC:jB.ownsRow yR.heap.size 9 1 (.slice (some ⟨yR.heap.size,0,none⟩) 1 1) 1 (iR [[42]]):=by rw [Ql,show bs [42]=rs from HRS.out]; exact ⟨by simp [iR],.inr ⟨yR.heap.size,1,#[.string rs],rfl,Nat.le_refl _,N21,Nat.le_refl _,by decide,rfl,rfl⟩⟩
  refine hK.out _ _ (Qj.cell 3 rfl) (fun hHeld=>?_)
  clear hK K
  refine fH 6 fun K hK=>?_
  rw [if_pos (by rfl)]
  refine tV _ _ rfl w2.heap.size (.slice la0 1 lc0) [t] rfl R21 yR.heap.size (.slice (some ⟨yR.heap.size,0,none⟩) 1 1) [[42]] rfl DC (by show 1+1≤1000000; decide) Ee.size ?_
  intro v30 w30 ac9 akf
  rw [← apj.out] at ac9
  have Ti:=below_grown Ee R21 akf Ee.size
  have X30:=zB.out.stays Ti
  obtain ⟨apo,apq,rfl⟩:=aG ac9
  refine hK.out _ _ (X30.cell 3 rfl) (fun hHeld=>?_)
  clear hK K
  refine fH 7 fun K hK=>?_
  go_simp
  refine (HJh.out w2.heap.size (.slice apo lp.length apq) lp w30 ac9 apk.out apl.out).mono ?_
  rw [HJE.out]
  rintro e w40 ⟨rfl,af6⟩
  have Wv:=ak Ti af6 Ti.size
  have X40:=X30.stays af6
  refine hK.out _ _ (X40.cell 3 rfl) (fun hHeld=>?_)
  clear hK K
  refine aC 8 ?_
  refine fH 9 fun K hK=>?_
  go_simp
  rw [HTJ.out]
  have aec:=V9.out.below Wv
  have akg:B≤w40.heap.size:=by have:=Wv.size; omega
  refine (HWh.out B B [] tx w40 aec (by have:=HTz.out; show 0+tx.size≤_; omega) akg).mono ?_
  rintro e w50 ⟨rfl,akh,ada⟩
  have X50:=X40.below ada aj8
  refine hK.out _ _ (X50.cell 3 rfl) (fun hHeld=>?_)
  clear hK K
  refine jC ?_
  have aki:Hid (BAt B B tb w50):=hid (by rw [← HTB.out]; exact akh)
  have aps:Hid (Below w.heap.size w w50):=hid ((HW2.out.trans (Wv.mono HW2.out.size)).trans (ada.mono hwB))
  have apt:B≤w50.heap.size:=by have:=Wv.size; have:=ada.size; omega
  have htb:=HTn.out
  clear hHeld Lz Xz Rz wz Tj R20 Ee Qj R21 Ti X30 Wv X40 X50 vH BH af6 akh ada aec akg ac9 akf N21 DC HIX hs1
  go_wp2_with fail
  refine (HLh.out B B tb w50 aki.out).mono ?_
  rintro e w51 ⟨rfl,rfl⟩
  have hbI:¬ (8192:Int)<(tb.length:Int):=by omega
  go_wp2_with fail
  refine (HTh.out B B tb w51 aki.out apt).mono ?_
  rintro e w52 ⟨rfl,akj⟩
  have apu:=hid (aps.out.trans (akj.mono hwB))
  clear akj
  go_wp2_with fail
  go_ret2
  exact ⟨by rw [HTe.out]; rfl,apu.out⟩
end Go.Proofs.YteablcielclaeaaGreatDoor.rz
namespace Go.Proofs.YteablcielclaeaaGreatDoor
open Go.ChangeShapes Go.WideShapes Go.ChangeAt Go.RowKit
set_option linter.unusedVariables false
theorem one_one:Ec fE (aF fE) gI.m ByteArray.empty=[[83,64,98,50]]:=by
 unfold Ec
 rw [afq]
 rfl
theorem NV:bs (qI [[83,64,98,50],[42]]++[10])=⟨#[83,64,98,50,32,42,10]⟩:=rfl
def JJ (CR:qW) (c:oG) (now:Int):Prop:=∀ (pa:Option Addr) (pc:Nat) (w:World),BX CR→tH CR c→c.since≤now→now≤100000000→clk.gG w w.heap.size pa CR.ps.length CR.ps→Calls Tryz.prog 48 #[.agg #[.slice pa CR.ps.length pc,.int .i64 CR.inc,.int .i64 CR.delay],.agg #[.int .i64 c.l0,.int .i64 c.l1,.int .i64 c.m0,.int .i64 c.m1,.int .i64 c.p0,.int .i64 c.p1,.int .i64 c.turn,.int .i64 c.since,.bool c.st,.int .i64 c.ay],.int .i64 now] w fun e w'=>e=.returned (.tuple #[IZ (bH CR c now),.int .i64 0])∧Below w.heap.size w w'
def zn (CR:qW) (c:oG) (now:Int):Prop:=∀ (pa:Option Addr) (pc:Nat) (w:World),BX CR→tH CR c→c.since≤now→now≤100000000→c.st=false→c.ay<0→kU CR c now≤(if c.turn=0 then c.l0 else c.l1)→clk.gG w w.heap.size pa CR.ps.length CR.ps→Calls Tryz.prog 171 #[.agg #[.slice pa CR.ps.length pc,.int .i64 CR.inc,.int .i64 CR.delay],.agg #[.int .i64 c.l0,.int .i64 c.l1,.int .i64 c.m0,.int .i64 c.m1,.int .i64 c.p0,.int .i64 c.p1,.int .i64 c.turn,.int .i64 c.since,.bool c.st,.int .i64 c.ay],.int .i64 now] w fun e w'=>e=.returned (.tuple #[IZ (dF CR c now),.int .i64 0])∧Below w.heap.size w w'
theorem VJ (CR:qW) (c:oG) (now:Int) (hf:c.ay<0) (h:c.turn=0) (hl:¬ c.l0<kU CR c now):JJ CR c now:=fun pa pc w hr hk h0 h1 hp=>by
 have hn:CR.ps.length≤9223372036854775807:=by have:=hr.n; omega
 have e0:clk.dD now c.since 100000000=true:=clk.eU ⟨h0,h1⟩
 have ho:=hr.ok
 have hc:=hk.ok
 have ht:=hk.t
 obtain ⟨l0,l1,m0,m1,p0,p1,turn,since,st,ay⟩:=c
 have hu:kU CR ⟨l0,l1,m0,m1,p0,p1,turn,since,st,ay⟩ now=clk.iL st CR.delay since now:=rfl
 unfold bH IZ
 rw [hu]
 dsimp only at *
 rw [if_pos hf]
 subst h
 rw [hu] at hl
 rw [if_pos rfl,if_neg hl]
 exact clk.AY pa _ pc _ _ CR.ps l0 l1 m0 m1 p0 p1 since ay st now w hn hp ho hc e0 hf (by omega)
theorem Q9 (CR:qW) (c:oG) (now:Int) (h:c.turn=0):zn CR c now:=fun pa pc w hr hk h0 h1 hs hf hu hp=>by
 have hn:CR.ps.length≤9223372036854775807:=by have:=hr.n; omega
 have e0:clk.dD now c.since 100000000=true:=clk.eU ⟨h0,h1⟩
 have ho:=hr.ok
 have hc:=hk.ok
 have ht:=hk.t
 obtain ⟨l0,l1,m0,m1,p0,p1,turn,since,st,ay⟩:=c
 dsimp only at *
 subst hs
 have hu2:kU CR ⟨l0,l1,m0,m1,p0,p1,turn,since,false,ay⟩ now=clk.iL false CR.delay since now:=rfl
 unfold dF IZ Gp jV
 rw [hu2] at hu ⊢
 subst h
 rw [if_pos rfl] at hu ⊢
 refine (clk.PV pa _ pc _ _ CR.ps l0 l1 m0 m1 p0 p1 since ay now w hn hp ho hc e0 hf hu).mono fun e w' h=>⟨h.1.trans ?_,h.2⟩
 simp only [decide_eq_true_eq]
 rfl
end Go.Proofs.YteablcielclaeaaGreatDoor

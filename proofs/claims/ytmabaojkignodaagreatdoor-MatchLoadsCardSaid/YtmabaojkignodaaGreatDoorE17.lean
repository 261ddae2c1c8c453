/- Tic, PmG2, ClaimWP, JouText, JouSum. -/
import Derived.Laws.MakeOwn
import Derived.Test.YtmabaojkignodaaGreatDoorE16
import Derived.WalkLawsBesides
import Derived.Laws.RangeAny
import Derived.Deep.RegionWith
namespace Go.Proofs.YtmabaojkignodaaGreatDoor
open Go.ChangeShapes Go.WideShapes Go.ChangeAt Go.RowKit
set_option linter.unusedVariables false
def fJ:aC:=⟨⟨#[84,73,67]⟩,3,3,[⟨83,5,0,[]⟩],List.replicate 9 0,false,false,[⟨0,0,3,false⟩],2,0,0⟩
def Vl (w:World) (e:Ending) (w':World):Prop:=∃ vp vs ve,e=.returned (I8 fJ vp vs ve)∧ru w' fJ vp vs ve∧Below w.heap.size w w'
set_option maxRecDepth 100000 in
set_option maxHeartbeats 4000000 in
theorem zJ (w:World):Calls Tryz.prog 23 #[] w (Vl w):=by
 obtain ⟨i0,hi,hz0,hz1,hz2⟩:=info_parts info3
 have hmk:∀ w':World,(Instr.makeSlice 22 (.int .i64 9) (.int .i64 9)).run Tryz.prog w'=.ok (.slice (some ⟨w'.heap.size,0,none⟩) 9 9) (w'.alloc (.cells #[.int .i64 0,.int .i64 0,.int .i64 0,.int .i64 0,.int .i64 0,.int .i64 0,.int .i64 0,.int .i64 0,.int .i64 0] 3)):=fun w'=>by
  rw [run_make w' 22 3 i0 (.int .i64 0) Tryz.underlying22 hi hz0 .i64 .i64 9 9 (by decide) (by decide) (by rw [hz2]; decide) (by decide),hz1]
  kernel_rfl
 clear hi hz0 hz1 hz2
 go_enter Tryz.func23,Tryz.ntmps23
 go_wp2
 refine bodyPost_ret (v:=I8 fJ (.slice (some ⟨w.heap.size+1,0,none⟩) 1 1) (.slice (some ⟨w.heap.size+1+1,0,none⟩) 9 9) (.slice (some ⟨w.heap.size+1+1+1,0,none⟩) 1 1)) (by simp [results,Tryz.results23,go_sem,I8,fJ]) rfl ⟨_,_,_,rfl,⟨?_,?_,?_⟩,by go_grown⟩
 ·refine .inr ⟨w.heap.size+1,0,1,rfl,Nat.le_refl _,by unfold maxLen; decide,by simp,fun i h=>?_⟩
  obtain rfl:i=0:=by simp [fJ] at h; exact h
  refine ⟨[.int .u8 83,.int .i64 5,.int .i64 0,.slice none 0 0],⟨.slice none 0 0,rfl,gI.nil _ _⟩,fun j hj=>?_⟩
  simp only [fK] at hj
  rcases j with _ | _ | _ | _ | j
  all_goals first | (simp [go_sem]; done) | omega
 ·refine ⟨rfl,.inr ⟨w.heap.size+1+1,0,9,rfl,Nat.le_refl _,by unfold maxLen; decide,fun i hi=>?_⟩⟩
  have hi':i<9:=by simpa [fJ] using hi
  rcases i with _ | _ | _ | _ | _ | _ | _ | _ | _ | i
  all_goals first | (simp [go_sem,ints,fJ]; done) | omega
 ·refine .inr ⟨w.heap.size+1+1+1,0,1,rfl,Nat.le_refl _,by unfold maxLen; decide,by simp,fun i h=>?_⟩
  obtain rfl:i=0:=by simp [fJ] at h; exact h
  refine ⟨[.int .i64 0,.int .i64 0,.int .i64 3,.bool false],rfl,fun j hj=>?_⟩
  simp only [kX] at hj
  rcases j with _ | _ | _ | _ | j
  all_goals first | (simp [go_sem]; done) | omega
end Go.Proofs.YtmabaojkignodaaGreatDoor
namespace Go.Proofs.YtmabaojkignodaaGreatDoor
open Go.ChangeShapes Go.WideShapes Go.ChangeAt Go.RowKit
set_option linter.unusedVariables false
set_option maxHeartbeats 4000000
set_option maxRecDepth 100000
open Go.Lib (hid)
theorem gI.drop {α:Type} {el:El α} {w:World} {a:Option Addr} {n c:Nat} {xs:List α} (h:gI el w (.slice a n c) xs) (k:Nat) (hk:k≤xs.length):gI el w (.slice (jA a c k el.k) (xs.length - k) (c - k)) (xs.drop k):=by
 have hl:(xs.drop k).length=xs.length - k:=by rw [List.length_drop]
 rcases h with ⟨a',c',h,hm,hz⟩ | ⟨g,o,c',h1,h2,h3,h4,h5⟩
 ·simp only [Value.slice.injEq] at h
  obtain ⟨rfl,_,rfl⟩:=h
  exact .inl ⟨_,_,by rw [hz,Nat.zero_sub],by omega,by rw [hl]; omega⟩
 ·simp only [Value.slice.injEq] at h1
  obtain ⟨rfl,_,rfl⟩:=h1
  by_cases hck:xs.length - k=0
  ·exact .inl ⟨_,_,by rw [hck],by omega,by rw [hl]; exact hck⟩
  ·have hne:¬ c=k:=by omega
   refine .inr ⟨g,o+k * el.k,c - k,by rw [hl,jA,if_neg hne]; simp [qo],by omega,by omega,h4,fun i hi=>?_⟩
   rw [hl] at hi
   obtain ⟨cs,e,f⟩:=h5 (k+i) (by omega)
   refine ⟨cs,by simpa using e,fun q hq=>?_⟩
   have:=f q hq
   rw [Nat.add_mul,← Nat.add_assoc] at this
   exact this
theorem uJ {P:Program} {fn:Func} {tmps:Array Value} {a s s2:Nat} {t t':TypeId} {w:World} {b:Nat} {cs:List Value} {v v2:Value} {d:TypeDesc} (hr:fn.results=#[.cell a t,.tmp s,.tmp s2])
  (ha:tmps.getD a undef=.pointer (some ⟨b,0,none⟩)) (hs:tmps.getD s undef=v) (hs2:tmps.getD s2 undef=v2) (hc:Box w b cs t') (hu:P.underlying t=some d) (hd:d.isRow=true) (hi:(P.info? t).map (·.size)=some cs.length) :
  (results fn tmps).run P w=.ok (.tuple #[.agg cs.toArray,v,v2]) w:=by
 have hl:=run_loadVar_mid (P:=P) w b 0 t cs d hc.range hu hd hi
 have ha':tmps[a]?.getD undef=.pointer (some ⟨b,0,none⟩):=by simpa using ha
 have hs':tmps[s]?.getD undef=v:=by simpa using hs
 have hs2':tmps[s2]?.getD undef=v2:=by simpa using hs2
 unfold results
 rw [hr]
 simp [asAddr,ha',hs',hs2',hl]
theorem Au {P:Program} {fn:Func} {tmps:Array Value} {a s s2 s3:Nat} {t t':TypeId} {w:World} {b:Nat} {cs:List Value} {v v2 v3:Value} {d:TypeDesc} (hr:fn.results=#[.cell a t,.tmp s,.tmp s2,.tmp s3])
  (ha:tmps.getD a undef=.pointer (some ⟨b,0,none⟩)) (hs:tmps.getD s undef=v) (hs2:tmps.getD s2 undef=v2) (hs3:tmps.getD s3 undef=v3) (hc:Box w b cs t') (hu:P.underlying t=some d) (hd:d.isRow=true) (hi:(P.info? t).map (·.size)=some cs.length) :
  (results fn tmps).run P w=.ok (.tuple #[.agg cs.toArray,v,v2,v3]) w:=by
 have hl:=run_loadVar_mid (P:=P) w b 0 t cs d hc.range hu hd hi
 have ha':tmps[a]?.getD undef=.pointer (some ⟨b,0,none⟩):=by simpa using ha
 have hs':tmps[s]?.getD undef=v:=by simpa using hs
 have hs2':tmps[s2]?.getD undef=v2:=by simpa using hs2
 have aeu:tmps[s3]?.getD undef=v3:=by simpa using hs3
 unfold results
 rw [hr]
 simp [asAddr,ha',hs',hs2',aeu,hl]
def rV (p:bg) (l:List bT):Int:=fP (fun x=>x.au == p.turn) l 0
def gB (R:aC) (p:bg) (l:List bT):Bool:=decide (0≤rV p l) && decide ((l.getD (rV p l).toNat default).move∈iy R p)
def bf (R:aC) (p:bg) (l:List bT):aN:=if gB R p l=true then (l.getD (rV p l).toNat default).move else ⟨0,0,0⟩
def aJ (R:aC) (p:bg) (l:List bT):List bT:=if gB R p l=true then l.take (rV p l).toNat++l.drop ((rV p l).toNat+1) else pJ l p.turn
def QG (R:aC) (p:bg) (l:List bT) (w:World) (e:Ending) (w':World):Prop:=
 ∃ v,e=.returned (.tuple #[.agg #[.int .i64 (bf R p l).src,.int .i64 (bf R p l).dst,.int .i64 (bf R p l).piece],.bool (gB R p l),v])∧w'.ownsRow w.heap.size 139 4 v (aJ R p l).length (bW (aJ R p l))∧Below w.heap.size w w'
theorem NC (x:bT) (t:Int) (b:Nat) (W:World) (hlt:b<W.heap.size) (hc:W.cell? ⟨b,3,none⟩=some (.int .i64 t)):Calls Tryz.prog 227 (#[.agg #[.int .i64 x.au,.int .i64 x.move.src,.int .i64 x.move.dst,.int .i64 x.move.piece]] ++ #[.pointer (some ⟨b,0,none⟩)]) W fun e w'=>e=.returned (.bool (x.au == t))∧Below W.heap.size W w':=by
 show Calls Tryz.prog 227 #[.agg #[.int .i64 x.au,.int .i64 x.move.src,.int .i64 x.move.dst,.int .i64 x.move.piece],.pointer (some ⟨b,0,none⟩)] W _
 go_enter Tryz.func227,Tryz.ntmps227
 go_wp2
 go_ret
 exact ⟨rfl,(Below.refl _ _).alloc (Nat.le_refl _) _⟩
theorem Vm (args:Array Value) (w:World):(callFunc 227 args).run Tryz.prog w=.ok (.enter 227 args) w:=by kernel_rfl
theorem next_any (HS:SortMvSaid) (R:aC) (vp vs ve:Value) (p:bg) (vc v0 v1:Value) (v:Value) (l:List bT) (w:World) (hr:ru w R vp vs ve) (hp:pX w p vc v0 v1) (hl:gI dF w v l) (K:nV R p) (hlen:l.length≤1000) :
  Calls Tryz.prog 189 #[(.agg #[.string R.name,.int .i64 R.width,.int .i64 R.height,vp,vs,.bool R.falls,.bool R.keeps,ve,.int .i64 R.blocked,.int .i64 R.quiet,.int .i64 R.bF]),(.agg #[vc,v0,v1,.int .i64 p.turn,.int .i64 p.quiet]),v] w (QG R p l w):=by
 have HR:=hid hr
 have HP:=hid hp
 have HL:=hid hl
 have HK:=hid K
 have lY:=hid HS
 obtain ⟨a,c,rfl,h1,h2⟩:=hl.form
 unfold maxLen at h2
 clear hr hp hl K HS
 go_enter Tryz.func189,Tryz.ntmps189
 go_upto_region 1 with (fail)
 refine Cb fun w0 B0 B1 B2 dM hs_=>?_
 have HB:=hid dM
 have hz0:w.heap.size+1+1<w0.heap.size:=by omega
 clear hs_ dM
 have xK:=hid (HR.out.below HB.out (Nat.le_refl _))
 have Ce:=hid (HP.out.below HB.out (Nat.le_refl _))
 have ZX:=hid (HL.out.below HB.out (Nat.le_refl _))
 have HX0:=hid B0
 have dn:=hid B1
 have jH:=hid B2
 have HI:=hid (qH (.slice a l.length c) l (fun x=>x.au == p.turn) 227 #[.pointer (some ⟨w.heap.size+1,0,none⟩)] w0 ZX.out Vm (fun W x cs hx hE hW=>by
  simp only [dF] at hE
  subst hE
  exact NC x p.turn (w.heap.size+1) W (Nat.lt_of_lt_of_le (by omega) hW.size) ((dn.out.stays hW).cell 3 rfl)))
 clear B0 B1 B2
 go_wp2_with fail
 refine HI.out.mono ?_
 rintro e w1 ⟨rfl,hb1⟩
 have ND:=hid (HX0.out.stays hb1)
 have NG:=hid (dn.out.stays hb1)
 have NH:=hid (jH.out.stays hb1)
 have HB1:=hid (aj HB.out hb1 HB.out.size)
 have FH:=hid (ZX.out.below hb1 (Nat.le_refl _))
 clear hb1 HX0 dn jH HI xK Ce ZX HB hz0
 have Yc:Hid (rV p l=fP (fun x=>x.au == p.turn) l 0):=hid rfl
 by_cases hn:fP (fun x=>x.au == p.turn) l 0 = -1
 ·have hok:gB R p l=false:=by unfold gB; rw [Yc.out,hn]; rfl
  have gW:Hid (gB R p l=false):=hid hok
  have HE2:Hid (bf R p l=⟨0,0,0⟩):=hid (by unfold bf; rw [hok]; rfl)
  have xu:Hid (aJ R p l=pJ l p.turn):=hid (by unfold aJ; rw [hok]; rfl)
  rw [hn]
  clear hn hok Yc
  go_upto_region 2 with (fail)
  generalize w1=wq at *
  have tJ:=ND.out.drew
  have Dw:=NG.out.drew
  have ZY:=NH.out.drew
  have Lz:Below w.heap.size w wq.drew:=aA HB1.out
  have Z4:gI dF wq.drew (.slice a l.length c) l:=FH.out.below (aA (Below.refl _ _)) (Nat.le_refl _)
  clear ND NG NH HB1 FH
  refine wp_region_noPanic ?_
  refine bG (S:=(fun _=>True)) (L:=[]) (by kernel_rfl) trivial (fun hHeld=>?_)
  refine aF 0 ?_
  refine aF 1 ?_
  refine aF 2 ?_
  refine lJ 3 ?_
  refine lJ 4 ?_
  refine lJ 6 ?_
  refine lJ 7 ?_
  refine lJ 5 ?_
  refine lJ 8 ?_
  refine lJ 9 ?_
  refine lJ 10 ?_
  refine lJ 11 ?_
  refine lJ 12 ?_
  refine aF 13 ?_
  refine iE ?_
  have BRy:Box wq.drew (w.heap.size) [.string R.name,.int .i64 R.width,.int .i64 R.height,vp,vs,.bool R.falls,.bool R.keeps,ve,.int .i64 R.blocked,.int .i64 R.quiet,.int .i64 R.bF] 46:=tJ
  have q3:=Dw.cell 3 rfl
  have HLn:=hid Lz
  have HRn:=hid Z4
  have dY:=hid ZY
  go_wp2_with fail
  refine (yN _ l p.turn _ HRn.out (by omega)).mono ?_
  rintro e w7 ⟨v7,rfl,uY,hb7⟩
  obtain ⟨a7,c7,rfl⟩:=aI uY
  have uD:=hid (aj HLn.out hb7 HLn.out.size)
  have FK:=hid (dY.out.stays hb7)
  have PZ:=hid uY
  have Yk:=dY.out.lt
  clear uY hb7
  go_wp2_with (refine aT (vs:=[.int .i64 0,.int .i64 0,.int .i64 0]) (by rfl) 52 (.tmp 6) (.tmp 27) (by rfl) (w.heap.size+1+1) (by rfl) (by rfl) FK.out rfl (by kernel_rfl) (by rfl) ?_)
  exact bodyPost_ret (uJ rfl (by rfl) (by rfl) (by rfl) (FK.out.store rfl) Tryz.underlying52 (by rfl) (by kernel_rfl)) rfl ⟨_,by rw [gW.out,HE2.out]; rfl,by rw [xu.out]; exact own_base (aQ PZ.out Yk 0 _) HLn.out.size,below_setCells uD.out (by omega) 0 _⟩
 obtain ⟨j,hj0,hj1,hpj,-⟩:=uH (fun x=>x.au == p.turn) l 0 (Int.le_refl _) hn
 simp only [Int.zero_add] at hj0
 have hjx:rV p l=j:=by rw [Yc.out,hj0]
 obtain ⟨g,o,rfl,hg,hcc⟩:=Ap FH.out (by omega)
 obtain ⟨-,m1,m2,m3⟩:=hcc j hj1
 have Vo:gB R p l=decide ((l.getD j default).move∈iy R p):=by unfold gB; rw [hjx]; simp
 have HMv:Hid (gB R p l=true→bf R p l=(l.getD j default).move):=hid (fun h=>by unfold bf; rw [if_pos h,hjx]; rfl)
 have HRs:Hid (gB R p l=true→aJ R p l=l.take j++l.drop (j+1)):=hid (fun h=>by unfold aJ; rw [if_pos h,hjx]; rfl)
 rw [hj0]
 clear hn hj0 hpj hcc Yc hjx
 generalize l.getD j default=x at *
 by_cases hm:x.move∈iy R p
 ·have hmem:decide (x.move∈iy R p)=true:=by simpa using hm
  have gW:Hid (gB R p l=true):=hid (by rw [Vo,hmem])
  have HE2:Hid (bf R p l=x.move):=hid (HMv.out gW.out)
  obtain ⟨rs,hrs⟩:∃ rs,rs=l.take j++l.drop (j+1):=⟨_,rfl⟩
  have HRS:=hid hrs
  have xu:Hid (aJ R p l=rs):=hid (by rw [HRs.out gW.out,hrs])
  clear hrs
  have hsa:∀ w':World,(Instr.slice 71 (.slice (some ⟨g,o,none⟩) l.length c) none (some (.int .i64 (j:Int))) none).run Tryz.prog w'=.ok (.slice (some ⟨g,o,none⟩) j c) w':=fun w' =>
   je (P:=Tryz.prog) (t:=71) (s:=4) Tryz.underlying71 (fun w=>by kernel_rfl) (some ⟨g,o,none⟩) l.length c j (by omega) w'
  have hsb:∀ w':World,(Instr.slice 71 (.slice (some ⟨g,o,none⟩) l.length c) (some (.int .i64 ((j:Int)+1))) none none).run Tryz.prog w'=.ok (.slice (jA (some ⟨g,o,none⟩) c (j+1) 4) (l.length - (j+1)) (c - (j+1))) w':=fun w'=>by
   have h:=vI (P:=Tryz.prog) (t:=71) (s:=4) Tryz.underlying71 (fun w=>by kernel_rfl) (some ⟨g,o,none⟩) l.length c (j+1) (by omega) w'
   rw [Int.natCast_succ] at h
   exact h
  have hwj:IntKind.i64.wrap ((j:Int)+1)=(j:Int)+1:=IntWalk.i64_in _ (by omega)
  clear hm Vo HMv HRs
  go_upto_region 2 with (fail)
  generalize w1=wq at *
  have tJ:=ND.out.drew
  have Dw:=NG.out.drew
  have ZY:=NH.out.drew
  have Lz:Below w.heap.size w wq.drew:=aA HB1.out
  have Z4:gI dF wq.drew (.slice (some ⟨g,o,none⟩) l.length c) l:=FH.out.below (aA (Below.refl _ _)) (Nat.le_refl _)
  have MAz:wq.drew.cell? ⟨g,o+j * 4+1,none⟩=some (.int .i64 x.move.src):=m1
  have MBz:wq.drew.cell? ⟨g,o+j * 4+2,none⟩=some (.int .i64 x.move.dst):=m2
  have MCz:wq.drew.cell? ⟨g,o+j * 4+3,none⟩=some (.int .i64 x.move.piece):=m3
  have Gz:g<wq.drew.heap.size:=hg
  clear ND NG NH HB1 FH m1 m2 m3 hg
  refine wp_region_noPanic ?_
  refine bG (S:=(fun w'=>w'.cell? ⟨w.heap.size,0,none⟩=some (.string R.name)∧w'.cell? ⟨w.heap.size,1,none⟩=some (.int .i64 R.width)∧w'.cell? ⟨w.heap.size,2,none⟩=some (.int .i64 R.height)∧w'.cell? ⟨w.heap.size,3,none⟩=some vp∧w'.cell? ⟨w.heap.size,4,none⟩=some vs∧w'.cell? ⟨w.heap.size,5,none⟩=some (.bool R.falls)∧w'.cell? ⟨w.heap.size,6,none⟩=some (.bool R.keeps)∧w'.cell? ⟨w.heap.size,7,none⟩=some ve∧w'.cell? ⟨w.heap.size,8,none⟩=some (.int .i64 R.blocked)∧w'.cell? ⟨w.heap.size,9,none⟩=some (.int .i64 R.quiet)∧w'.cell? ⟨w.heap.size,10,none⟩=some (.int .i64 R.bF)∧w'.cell? ⟨w.heap.size+1,0,none⟩=some vc∧w'.cell? ⟨w.heap.size+1,1,none⟩=some v0∧w'.cell? ⟨w.heap.size+1,2,none⟩=some v1∧w'.cell? ⟨w.heap.size+1,3,none⟩=some (.int .i64 p.turn)∧w'.cell? ⟨w.heap.size+1,4,none⟩=some (.int .i64 p.quiet)∧w'.cell? ⟨g,o+j * 4+1,none⟩=some (.int .i64 x.move.src)∧w'.cell? ⟨g,o+j * 4+2,none⟩=some (.int .i64 x.move.dst)∧w'.cell? ⟨g,o+j * 4+3,none⟩=some (.int .i64 x.move.piece))) (L:=[]) (by kernel_rfl) ⟨tJ.cell 0 rfl,tJ.cell 1 rfl,tJ.cell 2 rfl,tJ.cell 3 rfl,tJ.cell 4 rfl,tJ.cell 5 rfl,tJ.cell 6 rfl,tJ.cell 7 rfl,tJ.cell 8 rfl,tJ.cell 9 rfl,tJ.cell 10 rfl,Dw.cell 0 rfl,Dw.cell 1 rfl,Dw.cell 2 rfl,Dw.cell 3 rfl,Dw.cell 4 rfl,MAz,MBz,MCz⟩ (fun hHeld=>?_)
  refine aF 0 ?_
  refine aF 1 ?_
  refine aF 2 ?_
  refine dL 3 ?_
  refine dL 4 ?_
  refine aF 6 ?_
  refine aF 7 ?_
  refine aF 8 ?_
  refine aF 9 ?_
  refine dL 10 ?_
  refine dO 5 fun K hK=>?_
  go_simp
  refine (xM lY.out R vp vs ve p vc v0 v1 _ (HR.out.below Lz (Nat.le_refl _)) (HP.out.below Lz (Nat.le_refl _)) HK.out).mono ?_
  rintro e w5 ⟨vm,rfl,Yl,hb5⟩
  obtain ⟨am,cm,rfl⟩:=aI Yl
  have uZ:=tJ.stays hb5
  have FM:=Dw.stays hb5
  have BM5:=ZY.stays hb5
  have L5:=aj Lz hb5 Lz.size
  have RL5:=Z4.below hb5 (Nat.le_refl _)
  have MA5:=(hb5.cell Gz).trans MAz
  have MB5:=(hb5.cell Gz).trans MBz
  have MC5:=(hb5.cell Gz).trans MCz
  have G5:=Nat.lt_of_lt_of_le Gz hb5.size
  have RM5:=kQ Yl
  clear hb5 Yl
  refine hK.out _ _ ⟨uZ.cell 0 rfl,uZ.cell 1 rfl,uZ.cell 2 rfl,uZ.cell 3 rfl,uZ.cell 4 rfl,uZ.cell 5 rfl,uZ.cell 6 rfl,uZ.cell 7 rfl,uZ.cell 8 rfl,uZ.cell 9 rfl,uZ.cell 10 rfl,FM.cell 0 rfl,FM.cell 1 rfl,FM.cell 2 rfl,FM.cell 3 rfl,FM.cell 4 rfl,MA5,MB5,MC5⟩ (fun hHeld=>?_)
  clear hK K
  refine dO 11 fun K hK=>?_
  go_simp
  refine (lC _ x.move _ _ RM5).mono ?_
  rintro e ku ⟨rfl,mJ⟩
  have lN:=uZ.stays mJ
  have wC:=FM.stays mJ
  have Vp:=BM5.stays mJ
  have jR:=aj L5 mJ L5.size
  have Vq:=RL5.below mJ (Nat.le_refl _)
  have QH:=(mJ.cell G5).trans MA5
  have QI:=(mJ.cell G5).trans MB5
  have QJ:=(mJ.cell G5).trans MC5
  have G11:=Nat.lt_of_lt_of_le G5 mJ.size
  clear mJ
  refine hK.out _ _ ⟨lN.cell 0 rfl,lN.cell 1 rfl,lN.cell 2 rfl,lN.cell 3 rfl,lN.cell 4 rfl,lN.cell 5 rfl,lN.cell 6 rfl,lN.cell 7 rfl,lN.cell 8 rfl,lN.cell 9 rfl,lN.cell 10 rfl,wC.cell 0 rfl,wC.cell 1 rfl,wC.cell 2 rfl,wC.cell 3 rfl,wC.cell 4 rfl,QH,QI,QJ⟩ (fun hHeld=>?_)
  clear hK K
  refine aF 12 ?_
  refine aF 13 ?_
  refine iE ?_
  rw [hmem]
  have HX:=hid (And.intro lN (And.intro wC (And.intro Vp (And.intro jR (And.intro Vq (And.intro QH (And.intro QI (And.intro QJ G11))))))))
  clear lN wC Vp jR Vq QH QI QJ tJ Dw ZY Lz Z4 MAz MBz MCz uZ FM BM5 L5 RL5 MA5 MB5 MC5 RM5 hHeld
  go_upto_region 4 with (fail)
  generalize ku=wr4 at *
  obtain ⟨BRx,BPx,BMx,Lx,RLx,MAx,MBx,MCx,Gx⟩:=HX.out
  clear HX
  have BRy:Box wr4.drew (w.heap.size) [.string R.name,.int .i64 R.width,.int .i64 R.height,vp,vs,.bool R.falls,.bool R.keeps,ve,.int .i64 R.blocked,.int .i64 R.quiet,.int .i64 R.bF] 46:=BRx
  have BPy:Box wr4.drew (w.heap.size+1) [vc,v0,v1,.int .i64 p.turn,.int .i64 p.quiet] 78:=BPx
  have BMy:Box wr4.drew (w.heap.size+1+1) [.int .i64 0,.int .i64 0,.int .i64 0] 52:=BMx
  have Ly:Below w.heap.size w wr4.drew:=aA Lx
  have RLy:gI dF wr4.drew (.slice (some ⟨g,o,none⟩) l.length c) l:=RLx.below (aA (Below.refl _ _)) (Nat.le_refl _)
  have MAy:wr4.drew.cell? ⟨g,o+j * 4+1,none⟩=some (.int .i64 x.move.src):=MAx
  have MBy:wr4.drew.cell? ⟨g,o+j * 4+2,none⟩=some (.int .i64 x.move.dst):=MBx
  have MCy:wr4.drew.cell? ⟨g,o+j * 4+3,none⟩=some (.int .i64 x.move.piece):=MCx
  have Gy:g<wr4.drew.heap.size:=Gx
  clear BRx BPx BMx Lx RLx MAx MBx MCx Gx
  refine wp_region_noPanic ?_
  refine bG (S:=(fun w'=>w'.cell? ⟨g,o+j * 4+1,none⟩=some (.int .i64 x.move.src)∧w'.cell? ⟨g,o+j * 4+2,none⟩=some (.int .i64 x.move.dst)∧w'.cell? ⟨g,o+j * 4+3,none⟩=some (.int .i64 x.move.piece))) (L:=[14]) (by kernel_rfl) ⟨MAy,MBy,MCy⟩ (fun hHeld=>?_)
  refine aF 0 ?_
  refine aF 1 ?_
  refine aF 5 ?_
  refine aF 6 ?_
  refine aF 8 ?_
  refine aF 9 ?_
  refine aF 2 ?_
  refine aF 7 ?_
  refine aF 10 ?_
  refine aF 3 ?_
  refine aF 11 ?_
  refine dL 4 ?_
  refine dO 12 fun K hK=>?_
  go_simp
  refine aK ?_
  intro w12 e12
  have iR:Below wr4.drew.heap.size wr4.drew w12:=by rw [e12]; exact (Below.refl _ _).alloc (Nat.le_refl _) _
  have RII:XM w12 (.slice (some ⟨wr4.drew.heap.size,0,none⟩) 2 2) (.slice (some ⟨g,o,none⟩) j c) (.slice (jA (some ⟨g,o,none⟩) c (j+1) 4) (l.length - (j+1)) (c - (j+1))):=⟨_,0,2,rfl,by rw [e12]; simp,by rw [e12]; exact (Box.new' _ _ [.slice (some ⟨g,o,none⟩) j c,.slice (jA (some ⟨g,o,none⟩) c (j+1) 4) (l.length - (j+1)) (c - (j+1))] _ rfl).cell 0 rfl,by rw [e12]; exact (Box.new' _ _ [.slice (some ⟨g,o,none⟩) j c,.slice (jA (some ⟨g,o,none⟩) c (j+1) 4) (l.length - (j+1)) (c - (j+1))] _ rfl).cell 1 rfl⟩
  clear e12
  have aew:=BRy.stays iR
  have aex:=BPy.stays iR
  have aa6:=BMy.stays iR
  have lQ:=aj Ly iR Ly.size
  have Ym:=RLy.below iR (Nat.le_refl _)
  have aa7:=(iR.cell Gy).trans MAy
  have aa8:=(iR.cell Gy).trans MBy
  have aa9:=(iR.cell Gy).trans MCy
  have TW:=Nat.lt_of_lt_of_le Gy iR.size
  clear iR
  refine hK.out _ _ ⟨aa7,aa8,aa9⟩ (fun hHeld=>?_)
  clear hK K
  refine dO 13 fun K hK=>?_
  go_simp
  refine (Ny _ _ _ (l.take j) (l.drop (j+1)) _ RII (Ym.take j (by omega)) (Ym.drop (j+1) (by omega)) (by simp; omega) (by simp; omega)).mono ?_
  rintro e jY ⟨vx,rfl,xG,jl⟩
  rw [← HRS.out] at xG
  obtain ⟨a13,c13,rfl⟩:=aI xG
  have ajK:=aew.stays jl
  have ajL:=aex.stays jl
  have JE:=aa6.stays jl
  have NI:=aj lQ jl lQ.size
  have ajM:=Ym.below jl (Nat.le_refl _)
  have aey:=(jl.cell TW).trans aa7
  have aez:=(jl.cell TW).trans aa8
  have aeA:=(jl.cell TW).trans aa9
  have FN:=Nat.lt_of_lt_of_le TW jl.size
  have O13:=xG
  have WV:=aa6.lt
  clear jl xG
  refine hK.out _ _ ⟨aey,aez,aeA⟩ (fun hHeld=>?_)
  clear hK K
  refine xE 14 fun K hK=>?_
  have d0:=JE.cell 0 rfl
  have d1:=JE.cell 1 rfl
  have d2:=JE.cell 2 rfl
  have d0f:=JE.frozen 0
  have Jl:=JE.frozen 1
  have d2f:=JE.frozen 2
  go_simp
  refine aK ?_
  intro mM e14
  have OI:mM=jY.setCells (w.heap.size+1+1) 0 [.int .i64 x.move.src,.int .i64 x.move.dst,.int .i64 x.move.piece]:=e14
  clear e14 d0 d1 d2 d0f Jl d2f
  refine hK.out _ _ ?_
  clear hK K
  refine aF 15 ?_
  refine aF 16 ?_
  refine iE ?_
  have Yn:=JE.store (vs:=[.int .i64 x.move.src,.int .i64 x.move.dst,.int .i64 x.move.piece]) rfl
  have BR:=aQ O13 WV 0 [.int .i64 x.move.src,.int .i64 x.move.dst,.int .i64 x.move.piece]
  have zf:=below_setCells NI (show w.heap.size≤w.heap.size+1+1 by omega) 0 [.int .i64 x.move.src,.int .i64 x.move.dst,.int .i64 x.move.piece]
  rw [← OI] at Yn BR zf
  have abb:=hid Yn
  have aeB:=hid BR
  have aeC:=hid zf
  have aeD:=hid lQ
  clear Yn BR zf OI lQ
  go_wp2_with fail
  exact bodyPost_ret (uJ rfl (by rfl) (by rfl) (by rfl) abb.out Tryz.underlying52 (by rfl) (by kernel_rfl)) rfl ⟨_,by rw [gW.out,HE2.out]; rfl,by rw [xu.out]; exact own_base aeB.out aeD.out.size,aeC.out⟩
 ·have hmem:decide (x.move∈iy R p)=false:=by simpa using hm
  have gW:Hid (gB R p l=false):=hid (by rw [Vo,hmem])
  have HE2:Hid (bf R p l=⟨0,0,0⟩):=hid (by unfold bf; rw [gW.out]; rfl)
  have xu:Hid (aJ R p l=pJ l p.turn):=hid (by unfold aJ; rw [gW.out]; rfl)
  clear hm Vo HMv HRs
  go_upto_region 2 with (fail)
  generalize w1=wq at *
  have tJ:=ND.out.drew
  have Dw:=NG.out.drew
  have ZY:=NH.out.drew
  have Lz:Below w.heap.size w wq.drew:=aA HB1.out
  have Z4:gI dF wq.drew (.slice (some ⟨g,o,none⟩) l.length c) l:=FH.out.below (aA (Below.refl _ _)) (Nat.le_refl _)
  have MAz:wq.drew.cell? ⟨g,o+j * 4+1,none⟩=some (.int .i64 x.move.src):=m1
  have MBz:wq.drew.cell? ⟨g,o+j * 4+2,none⟩=some (.int .i64 x.move.dst):=m2
  have MCz:wq.drew.cell? ⟨g,o+j * 4+3,none⟩=some (.int .i64 x.move.piece):=m3
  have Gz:g<wq.drew.heap.size:=hg
  clear ND NG NH HB1 FH m1 m2 m3 hg
  refine wp_region_noPanic ?_
  refine bG (S:=(fun w'=>w'.cell? ⟨w.heap.size,0,none⟩=some (.string R.name)∧w'.cell? ⟨w.heap.size,1,none⟩=some (.int .i64 R.width)∧w'.cell? ⟨w.heap.size,2,none⟩=some (.int .i64 R.height)∧w'.cell? ⟨w.heap.size,3,none⟩=some vp∧w'.cell? ⟨w.heap.size,4,none⟩=some vs∧w'.cell? ⟨w.heap.size,5,none⟩=some (.bool R.falls)∧w'.cell? ⟨w.heap.size,6,none⟩=some (.bool R.keeps)∧w'.cell? ⟨w.heap.size,7,none⟩=some ve∧w'.cell? ⟨w.heap.size,8,none⟩=some (.int .i64 R.blocked)∧w'.cell? ⟨w.heap.size,9,none⟩=some (.int .i64 R.quiet)∧w'.cell? ⟨w.heap.size,10,none⟩=some (.int .i64 R.bF)∧w'.cell? ⟨w.heap.size+1,0,none⟩=some vc∧w'.cell? ⟨w.heap.size+1,1,none⟩=some v0∧w'.cell? ⟨w.heap.size+1,2,none⟩=some v1∧w'.cell? ⟨w.heap.size+1,3,none⟩=some (.int .i64 p.turn)∧w'.cell? ⟨w.heap.size+1,4,none⟩=some (.int .i64 p.quiet)∧w'.cell? ⟨g,o+j * 4+1,none⟩=some (.int .i64 x.move.src)∧w'.cell? ⟨g,o+j * 4+2,none⟩=some (.int .i64 x.move.dst)∧w'.cell? ⟨g,o+j * 4+3,none⟩=some (.int .i64 x.move.piece))) (L:=[]) (by kernel_rfl) ⟨tJ.cell 0 rfl,tJ.cell 1 rfl,tJ.cell 2 rfl,tJ.cell 3 rfl,tJ.cell 4 rfl,tJ.cell 5 rfl,tJ.cell 6 rfl,tJ.cell 7 rfl,tJ.cell 8 rfl,tJ.cell 9 rfl,tJ.cell 10 rfl,Dw.cell 0 rfl,Dw.cell 1 rfl,Dw.cell 2 rfl,Dw.cell 3 rfl,Dw.cell 4 rfl,MAz,MBz,MCz⟩ (fun hHeld=>?_)
  refine aF 0 ?_
  refine aF 1 ?_
  refine aF 2 ?_
  refine dL 3 ?_
  refine dL 4 ?_
  refine aF 6 ?_
  refine aF 7 ?_
  refine aF 8 ?_
  refine aF 9 ?_
  refine dL 10 ?_
  refine dO 5 fun K hK=>?_
  go_simp
  refine (xM lY.out R vp vs ve p vc v0 v1 _ (HR.out.below Lz (Nat.le_refl _)) (HP.out.below Lz (Nat.le_refl _)) HK.out).mono ?_
  rintro e w5 ⟨vm,rfl,Yl,hb5⟩
  obtain ⟨am,cm,rfl⟩:=aI Yl
  have uZ:=tJ.stays hb5
  have FM:=Dw.stays hb5
  have BM5:=ZY.stays hb5
  have L5:=aj Lz hb5 Lz.size
  have RL5:=Z4.below hb5 (Nat.le_refl _)
  have MA5:=(hb5.cell Gz).trans MAz
  have MB5:=(hb5.cell Gz).trans MBz
  have MC5:=(hb5.cell Gz).trans MCz
  have G5:=Nat.lt_of_lt_of_le Gz hb5.size
  have RM5:=kQ Yl
  clear hb5 Yl
  refine hK.out _ _ ⟨uZ.cell 0 rfl,uZ.cell 1 rfl,uZ.cell 2 rfl,uZ.cell 3 rfl,uZ.cell 4 rfl,uZ.cell 5 rfl,uZ.cell 6 rfl,uZ.cell 7 rfl,uZ.cell 8 rfl,uZ.cell 9 rfl,uZ.cell 10 rfl,FM.cell 0 rfl,FM.cell 1 rfl,FM.cell 2 rfl,FM.cell 3 rfl,FM.cell 4 rfl,MA5,MB5,MC5⟩ (fun hHeld=>?_)
  clear hK K
  refine dO 11 fun K hK=>?_
  go_simp
  refine (lC _ x.move _ _ RM5).mono ?_
  rintro e ku ⟨rfl,mJ⟩
  have lN:=uZ.stays mJ
  have wC:=FM.stays mJ
  have Vp:=BM5.stays mJ
  have jR:=aj L5 mJ L5.size
  have Vq:=RL5.below mJ (Nat.le_refl _)
  have QH:=(mJ.cell G5).trans MA5
  have QI:=(mJ.cell G5).trans MB5
  have QJ:=(mJ.cell G5).trans MC5
  have G11:=Nat.lt_of_lt_of_le G5 mJ.size
  clear mJ
  refine hK.out _ _ ⟨lN.cell 0 rfl,lN.cell 1 rfl,lN.cell 2 rfl,lN.cell 3 rfl,lN.cell 4 rfl,lN.cell 5 rfl,lN.cell 6 rfl,lN.cell 7 rfl,lN.cell 8 rfl,lN.cell 9 rfl,lN.cell 10 rfl,wC.cell 0 rfl,wC.cell 1 rfl,wC.cell 2 rfl,wC.cell 3 rfl,wC.cell 4 rfl,QH,QI,QJ⟩ (fun hHeld=>?_)
  clear hK K
  refine aF 12 ?_
  refine aF 13 ?_
  refine iE ?_
  rw [hmem]
  have q3:=wC.cell 3 rfl
  have HLn:=hid jR
  have HRn:=hid Vq
  have dY:=hid Vp
  go_wp2_with fail
  refine (yN _ l p.turn _ HRn.out (by omega)).mono ?_
  rintro e w7 ⟨v7,rfl,uY,hb7⟩
  obtain ⟨a7,c7,rfl⟩:=aI uY
  have uD:=hid (aj HLn.out hb7 HLn.out.size)
  have FK:=hid (dY.out.stays hb7)
  have PZ:=hid uY
  have Yk:=dY.out.lt
  clear uY hb7
  go_wp2_with (refine aT (vs:=[.int .i64 0,.int .i64 0,.int .i64 0]) (by rfl) 52 (.tmp 6) (.tmp 27) (by rfl) (w.heap.size+1+1) (by rfl) (by rfl) FK.out rfl (by kernel_rfl) (by rfl) ?_)
  exact bodyPost_ret (uJ rfl (by rfl) (by rfl) (by rfl) (FK.out.store rfl) Tryz.underlying52 (by rfl) (by kernel_rfl)) rfl ⟨_,by rw [gW.out,HE2.out]; rfl,by rw [xu.out]; exact own_base (aQ PZ.out Yk 0 _) HLn.out.size,below_setCells uD.out (by omega) 0 _⟩
def gy (R:aC) (p:bg) (l:List bT):Int:=if fQ R p≠0 then fQ R p else fO l
theorem JF (R:aC) (vp vs ve:Value) (p:bg) (vc v0 v1:Value) (v:Value) (l:List bT) (w:World) (hr:ru w R vp vs ve) (hnm:R.name.size≤maxLen) (hp:pX w p vc v0 v1) (hl:gI dF w v l) (hlen:l.length≤100000) :
  Calls Tryz.prog 188 #[(.agg #[.string R.name,.int .i64 R.width,.int .i64 R.height,vp,vs,.bool R.falls,.bool R.keeps,ve,.int .i64 R.blocked,.int .i64 R.quiet,.int .i64 R.bF]),(.agg #[vc,v0,v1,.int .i64 p.turn,.int .i64 p.quiet]),v] w fun e w'=>e=.returned (.int .i64 (gy R p l))∧Below w.heap.size w w':=by
 have HR:=hid hr
 have HN:=hid hnm
 have HP:=hid hp
 have HL:=hid hl
 have HD:Hid (gy R p l=if fQ R p≠0 then fQ R p else fO l):=hid rfl
 obtain ⟨a,c,rfl,h1,h2⟩:=hl.form
 unfold maxLen at h2
 clear hr hp hl hnm
 go_enter Tryz.func188,Tryz.ntmps188
 go_upto_region 1 with (fail)
 refine sV fun w0 B0 B1 dM hs_=>?_
 have HB:=hid dM
 have hz0:w.heap.size+1<w0.heap.size:=by omega
 clear hs_ dM
 have xK:=hid (HR.out.below HB.out (Nat.le_refl _))
 have Ce:=hid (HP.out.below HB.out (Nat.le_refl _))
 have ZX:=hid (HL.out.below HB.out (Nat.le_refl _))
 have HX0:=hid B0
 have dn:=hid B1
 clear B0 B1
 refine wp_region_lit ?_
 refine aB (by rfl) 46 (.tmp 3) (by rfl) (w.heap.size) (by rfl) HX0.out Tryz.underlying46 (by rfl) (by kernel_rfl) ?_
 refine aB (by rfl) 78 (.tmp 4) (by rfl) (w.heap.size+1) (by rfl) dn.out Tryz.underlying78 (by rfl) (by kernel_rfl) ?_
 go_wp2_with fail
 refine (rE R vp vs ve p vc v0 v1 w0 xK.out HN.out Ce.out).mono ?_
 rintro e w1 ⟨rfl,hb1⟩
 have HB1:=hid (aj HB.out hb1 HB.out.size)
 clear hb1
 by_cases he:fQ R p=0
 rotate_left
 ·have HE:Hid (gy R p l=fQ R p):=hid (by rw [HD.out,if_pos he])
  have he':(fQ R p != 0)=true:=by simpa using he
  clear he HD
  go_wp2_with fail
  go_ret
  exact ⟨by rw [HE.out]; rfl,HB1.out⟩
 have HE:Hid (gy R p l=fO l):=hid (by rw [HD.out,if_neg (by simp [he])])
 rw [he]
 clear he HD
 go_wp2_with fail
 refine (tH _ l w1 (HL.out.below HB1.out (Nat.le_refl _)) (by omega)).mono ?_
 rintro e w2 ⟨rfl,hb2⟩
 have HB2:=hid (aj HB1.out hb2 HB1.out.size)
 clear hb2
 go_wp2_with fail
 go_ret
 exact ⟨by rw [HE.out]; rfl,HB2.out⟩
def QK (R:aC) (p:bg) (l:List bT) (w:World) (e:Ending) (w':World):Prop:=
 (gy R p l≠0∧e=.returned (.tuple #[.agg #[.int .i64 0,.int .i64 0,.int .i64 0],.bool false,.slice none 0 0,.int .i64 (gy R p l)])∧Below w.heap.size w w') ∨
 (gy R p l=0∧∃ v,e=.returned (.tuple #[.agg #[.int .i64 (bf R p l).src,.int .i64 (bf R p l).dst,.int .i64 (bf R p l).piece],.bool (gB R p l),v,.int .i64 0])∧w'.ownsRow w.heap.size 139 4 v (aJ R p l).length (bW (aJ R p l))∧Below w.heap.size w w')
theorem JG {R:aC} {p:bg} {l:List bT} (h:gy R p l=0):fQ R p=0∧fO l=0:=by
 unfold gy at h
 by_cases e:fQ R p=0
 ·rw [if_neg (by simp [e])] at h; exact ⟨e,h⟩
 ·rw [if_pos e] at h; exact absurd h e
theorem Aw (HS:SortMvSaid) (R:aC) (vp vs ve:Value) (p:bg) (vc v0 v1:Value) (v:Value) (l:List bT) (w:World) (hr:ru w R vp vs ve) (hnm:R.name.size≤maxLen) (hp:pX w p vc v0 v1) (hl:gI dF w v l) (hlen:l.length≤1000) :
  Calls Tryz.prog 137 #[(.agg #[.string R.name,.int .i64 R.width,.int .i64 R.height,vp,vs,.bool R.falls,.bool R.keeps,ve,.int .i64 R.blocked,.int .i64 R.quiet,.int .i64 R.bF]),(.agg #[vc,v0,v1,.int .i64 p.turn,.int .i64 p.quiet]),v] w (QK R p l w):=by
 have lY:=hid HS
 have HR:=hid hr
 have HN:=hid hnm
 have HP:=hid hp
 have HL:=hid hl
 obtain ⟨a,c,rfl,h1,h2⟩:=hl.form
 unfold maxLen at h2
 clear hr hp hl hnm HS
 go_enter Tryz.func137,Tryz.ntmps137
 go_upto_region 1 with (fail)
 refine Cb fun w0 B0 B1 B2 dM hs_=>?_
 have HB:=hid dM
 have hz0:w.heap.size+1+1<w0.heap.size:=by omega
 clear hs_ dM
 have xK:=hid (HR.out.below HB.out (Nat.le_refl _))
 have Ce:=hid (HP.out.below HB.out (Nat.le_refl _))
 have ZX:=hid (HL.out.below HB.out (Nat.le_refl _))
 have HX0:=hid B0
 have dn:=hid B1
 have jH:=hid B2
 clear B0 B1 B2
 refine wp_region_lit ?_
 refine aB (by rfl) 46 (.tmp 3) (by rfl) (w.heap.size) (by rfl) HX0.out Tryz.underlying46 (by rfl) (by kernel_rfl) ?_
 refine aB (by rfl) 78 (.tmp 4) (by rfl) (w.heap.size+1) (by rfl) dn.out Tryz.underlying78 (by rfl) (by kernel_rfl) ?_
 go_wp2_with fail
 refine (JF R vp vs ve p vc v0 v1 _ l w0 xK.out HN.out Ce.out ZX.out (by omega)).mono ?_
 rintro e w1 ⟨rfl,hb1⟩
 have HB1:=hid (aj HB.out hb1 HB.out.size)
 have oC:=hid (HX0.out.stays hb1)
 have dZ:=hid (dn.out.stays hb1)
 have Hq:=hid (jH.out.stays hb1)
 clear hb1 HX0 dn jH
 by_cases he:gy R p l=0
 rotate_left
 ·have Jr:=hid he
  have he':(gy R p l != 0)=true:=by simpa using he
  clear he
  go_wp2_with (refine aT (vs:=[.int .i64 0,.int .i64 0,.int .i64 0]) (by rfl) 52 (.tmp 6) (.tmp 20) (by rfl) (w.heap.size+1+1) (by rfl) (by rfl) Hq.out rfl (by kernel_rfl) (by rfl) ?_)
  exact bodyPost_ret (Au rfl (by rfl) (by rfl) (by rfl) (by rfl) (Hq.out.store rfl) Tryz.underlying52 (by rfl) (by kernel_rfl)) rfl (.inl ⟨Jr.out,rfl,below_setCells HB1.out (by omega) 0 _⟩)
 have Jr:=hid he
 have HK:=hid (PN (JG he).1)
 rw [he]
 clear he
 go_upto_region 4 with (fail)
 refine wp_region_lit ?_
 refine aB (by rfl) 46 (.tmp 3) (by rfl) (w.heap.size) (by rfl) oC.out Tryz.underlying46 (by rfl) (by kernel_rfl) ?_
 refine aB (by rfl) 78 (.tmp 4) (by rfl) (w.heap.size+1) (by rfl) dZ.out Tryz.underlying78 (by rfl) (by kernel_rfl) ?_
 go_wp2_with fail
 refine (next_any lY.out R vp vs ve p vc v0 v1 _ l w1 (HR.out.below HB1.out (Nat.le_refl _)) (HP.out.below HB1.out (Nat.le_refl _)) (HL.out.below HB1.out (Nat.le_refl _)) HK.out hlen).mono ?_
 rintro e w2 ⟨v2,rfl,ho2,hb2⟩
 obtain ⟨a2,c2,rfl⟩:=aI ho2
 have hs1:=hb2.size
 have Vr:=hid ((Hq.out.stays hb2).alloc (.cells #[.int .i64 (bf R p l).src,.int .i64 (bf R p l).dst,.int .i64 (bf R p l).piece] 52))
 have HZ1:=hid Hq.out.lt
 have HB2:=hid ((aj HB1.out hb2 HB1.out.size).alloc (aj HB1.out hb2 HB1.out.size).size (.cells #[.int .i64 (bf R p l).src,.int .i64 (bf R p l).dst,.int .i64 (bf R p l).piece] 52))
 have uw:=hid (ho2.alloc (.cells #[.int .i64 (bf R p l).src,.int .i64 (bf R p l).dst,.int .i64 (bf R p l).piece] 52))
 have NJ:=hid (Box.new w2 [.int .i64 (bf R p l).src,.int .i64 (bf R p l).dst,.int .i64 (bf R p l).piece] 52)
 clear hb2 ho2
 go_upto_region 5 with (fail)
 generalize (w2.alloc (.cells #[.int .i64 (bf R p l).src,.int .i64 (bf R p l).dst,.int .i64 (bf R p l).piece] 52))=w3 at *
 refine wp_region_lit ?_
 refine aB (by rfl) 52 (.tmp 11) (by rfl) w2.heap.size (by rfl) NJ.out Tryz.underlying52 (by rfl) (by kernel_rfl) ?_
 go_wp2_with (refine aT (vs:=[.int .i64 (bf R p l).src,.int .i64 (bf R p l).dst,.int .i64 (bf R p l).piece]) (by rfl) 52 (.tmp 6) (.tmp 30) (by rfl) (w.heap.size+1+1) (by rfl) (by rfl) Vr.out rfl (by kernel_rfl) (by rfl) ?_)
 exact bodyPost_ret (Au rfl (by rfl) (by rfl) (by rfl) (by rfl) (Vr.out.store rfl) Tryz.underlying52 (by rfl) (by kernel_rfl)) rfl (.inr ⟨Jr.out,_,rfl,own_base (aQ uw.out HZ1.out 0 _) HB1.out.size,below_setCells HB2.out (by omega) 0 _⟩)
theorem aah (v u:Value) (xs ys:List aN) (w:World) (h:gI ni w v xs) (h':gI ni w u ys) (hl:xs.length≤1000000) :
  Calls Tryz.prog 57 #[v,u] w fun e w'=>e=.returned (.bool (decide (xs=ys)))∧Below w.heap.size w w':=by
 have HR:=hid h
 have HQ:=hid h'
 obtain ⟨a,c,rfl,h1,h2⟩:=h.form
 obtain ⟨a',c',rfl,h1',h2'⟩:=h'.form
 unfold maxLen at h2 h2'
 clear h h'
 have hneq:=adO
 by_cases hle:xs.length=ys.length
 rotate_left
 ·have HE:Hid (decide (xs=ys)=false):=hid (by simp; intro e; exact hle (by rw [e]))
  have hle':((xs.length:Int) != (ys.length:Int))=true:=by simp only [bne_iff_ne,ne_eq]; omega
  clear hle
  go_enter Tryz.func57,Tryz.ntmps57
  go_wp2_with fail
  go_ret
  exact ⟨by rw [HE.out]; rfl,Below.refl _ _⟩
 have hle':((xs.length:Int) != (ys.length:Int))=false:=by simp only [bne_eq_false_iff_eq]; omega
 have HLE:=hid hle
 clear hle
 go_enter Tryz.func57,Tryz.ntmps57
 go_wp2_with fail
 go_loopw [5,13] (fun vj vi wr=>∃ k:Nat,k≤xs.length∧vi=.int .i64 k∧Hid (xs.take k=ys.take k)∧Hid (Below w.heap.size w wr)) (fun _ i _=>xs.length - (intOf i).toNat)
 case atStart=>exact ⟨0,Nat.zero_le _,rfl,hid rfl,hid (Below.refl _ _)⟩
 case round =>
  obtain ⟨k,hk,rfl,HT,HB⟩:=hrel
  by_cases hlt:k<xs.length
  ·have hlt2:k<ys.length:=by have:=HLE.out; omega
   obtain ⟨g,o,rfl,hg,hcc⟩:=Ja (HR.out.below HB.out (Nat.le_refl _)) (by omega)
   obtain ⟨g',o',rfl,hg',ac3⟩:=Ja (HQ.out.below HB.out (Nat.le_refl _)) (by omega)
   obtain ⟨c0,c1,c2⟩:=hcc k hlt
   obtain ⟨d0,d1,d2⟩:=ac3 k hlt2
   have HS:Hid (xs.take (k+1)=xs.take k++[xs.getD k default]):=hid (by rw [List.take_succ_eq_append_getElem hlt,List.getD_eq_getElem?_getD,List.getElem?_eq_getElem hlt]; rfl)
   have HS':Hid (ys.take (k+1)=ys.take k++[ys.getD k default]):=hid (by rw [List.take_succ_eq_append_getElem hlt2,List.getD_eq_getElem?_getD,List.getElem?_eq_getElem hlt2]; rfl)
   have HGd:Hid (xs=ys→xs.getD k default=ys.getD k default):=hid (fun e=>by rw [e])
   clear hcc ac3
   generalize xs.getD k default=x at *
   generalize ys.getD k default=y at *
   by_cases he:x=y
   ·subst he
    go_wp2_with fail
    go_quiet (fail)
    go_wp2_with fail
    go_roundw
    case rel=>exact ⟨k+1,by omega,by go_num,hid (by rw [HS.out,HS'.out,HT.out]),hid (below_drewN HB.out _)⟩
    case measure=>simp [intOf]; omega
   ·have hd:decide (x=y)=false:=by simpa using he
    have HE:Hid (decide (xs=ys)=false):=hid (by simp; exact fun e=>he (HGd.out e))
    clear he
    go_wp2_with fail
    go_quiet (fail)
    go_wp2_with fail
    go_ret
    exact ⟨by rw [HE.out]; rfl,below_drewN HB.out _⟩
  ·obtain rfl:k=xs.length:=by omega
   have HE:Hid (decide (xs=ys)=true):=hid (by
    have:=HT.out
    rw [List.take_of_length_le (Nat.le_refl _),List.take_of_length_le (by have:=HLE.out; omega)] at this
    simpa using this)
   go_wp2_with fail
   go_ret
   exact ⟨by rw [HE.out]; rfl,HB.out⟩
end Go.Proofs.YtmabaojkignodaaGreatDoor
namespace Go.Proofs.YtmabaojkignodaaGreatDoor
set_option linter.unusedVariables false
def Vs (pl c:Int):Bool:=decide (0<c) && ((c - 1) % 2 == pl)
def vg (cs:List Int) (pl:Int):Nat→List Int
 | 0=>[]
 | k+1=>if Vs pl (cs.getD k 0)=true then vg cs pl k++[(cs.getD k 0 - 1) / 2] else vg cs pl k
def xQ (hs:List Int):Nat→List Int
 | 0=>[]
 | k+1=>if 0<hs.getD k 0 then xQ hs k++[(k:Int)] else xQ hs k
def nH (hs:List Int):Nat→Int
 | 0=>0
 | k+1=>if 0<hs.getD k 0 then nH hs k+hs.getD k 0 else nH hs k
def lS (p:bg) (pl:Int):List Int:=vg p.cells pl p.cells.length++xQ (p.hand pl) (p.hand pl).length
def JH (p:bg) (pl:Int):Int:=((vg p.cells pl p.cells.length).length:Int)+nH (p.hand pl) (p.hand pl).length
def qU (R:aC) (piece:Int):Nat→Int→Bool
 | 0,_=>false
 | n+1,k=>if k=piece then true else if (R.pieces.getD k.toNat default).promote=0 then false else qU R piece n ((R.pieces.getD k.toNat default).promote - 1)
def pK (R:aC) (k:Int):Bool:=(R.pieces.getD k.toNat default).ways.any fun w=>!(w.take == 0)
def kC (R:aC) (p:bg) (x:ql) (pl:Int):Bool:=
 if x.loses=true∨x.kind=2 then true
 else if (x.kind=0∧x.count≤JH p pl)∨(x.kind=1∧(lS p pl).any (qU R x.piece (R.pieces.length+1))=true) then true
 else R.keeps && (lS p pl).any (pK R)
def Hr (R:aC) (p:bg) (pl:Int):Bool:=if R.blocked≠2 then true else R.ends.any fun x=>kC R p x pl
theorem Dx (hs:List Int) (n:Nat):0≤nH hs n:=by
 induction n with
 | zero=>simp [nH]
 | succ n ih=>unfold nH; split <;> omega
theorem getD_set_ne {l:List Int} {i j:Nat} {v:Int} (h:i≠j):(l.set i v).getD j 0=l.getD j 0:=by
 rw [List.getD_eq_getElem?_getD,List.getElem?_set_ne h,← List.getD_eq_getElem?_getD]
end Go.Proofs.YtmabaojkignodaaGreatDoor
namespace Go.Proofs.YtmabaojkignodaaGreatDoor
open Go.ChangeShapes Go.WideShapes Go.ChangeAt Go.RowKit
set_option linter.unusedVariables false
open Go.Lib (hid)
def Ci (c:Int):Bool:=decide (c<32) || decide (126<c)
theorem AA (c:Int) (w:World):Calls Tryz.prog 129 #[.int .i32 c] w fun e w'=>e=.returned (.bool (Ci c))∧w=w':=by
 have H:Hid (Ci c=(decide (c<32) || decide (126<c))):=hid rfl
 by_cases h:c<32
 ·go_enter Tryz.func129,Tryz.ntmps129
  go_wp2
  go_ret
  exact ⟨by rw [H.out]; simp [h],rfl⟩
 ·go_enter Tryz.func129,Tryz.ntmps129
  go_wp2
  go_ret
  exact ⟨by rw [H.out]; simp; omega,rfl⟩
theorem abd (args:Array Value) (w:World):(callFunc 129 args).run Tryz.prog w=.ok (.enter 129 args) w:=by kernel_rfl
def kD (s:ByteArray):Nat→Nat→Int
 | 0,_=>-1
 | f+1,k=>if h:k<s.size then (if Ci ((s[k]'h).toNat:Int)=true then (k:Int) else kD s f (k+1)) else -1
def yO (s:ByteArray):Int:=kD s s.size 0
theorem Es (s:ByteArray) (k:Nat) (h:k<s.size):kD s (s.size - k) k=if Ci ((s[k]'h).toNat:Int)=true then (k:Int) else kD s (s.size - (k+1)) (k+1):=by
 have e:s.size - k=(s.size - (k+1))+1:=by omega
 rw [e,kD,dif_pos h]
theorem Ht (s:ByteArray):kD s (s.size - s.size) s.size = -1:=by simp [kD]
set_option maxHeartbeats 1000000 in
theorem wE (s:ByteArray) (w:World) (hs:s.size≤9223372036854775807) :
  Calls Tryz.prog 176 #[.string s,.func (.func 129) #[] #[],.bool true] w fun e w'=>e=.returned (.int .i64 (yO s))∧Below w.heap.size w w':=by
 have HB:Hid (yO s=kD s (s.size - 0) 0):=hid rfl
 have hcf:=abd
 go_enter Tryz.func176,Tryz.ntmps176
 go_wp2_with fail
 go_loopw [7] (fun _ wr=>∃ k:Nat,k≤s.size∧wr=w.iter s k∧Hid (yO s=kD s (s.size - k) k)) (fun _ wr=>s.size - wr.iterPos w.heap.size)
 case atStart=>exact ⟨0,Nat.zero_le _,rfl,HB⟩
 case round =>
  obtain ⟨k,hk,rfl,HK⟩:=hrel
  have hbel:∀ p,Below w.heap.size w (w.iter s p):=fun p=>(Below.refl _ w).alloc (Nat.le_refl _) _
  have Yo:=hid hbel
  clear hbel
  by_cases hlt:k<s.size
  ·have HS:=hid (Es s k hlt)
   cases hb:Ci ((s[k]'hlt).toNat:Int)
   ·have hr:32≤(s[k]'hlt).toNat∧(s[k]'hlt).toNat≤126:=by
     simp [Ci] at hb; omega
    have hnx:=fun ty=>run_next_ascii (P:=Tryz.prog) w s k ty hlt (by omega)
    have HC:=hid (fun w=>AA ((s[k]'hlt).toNat:Int) w)
    rw [hb] at HC
    rw [hb] at HS
    clear hb
    generalize (s[k]'hlt).toNat=b at *
    go_wp2_with fail
    refine (HC.out _).mono ?_
    rintro e w' ⟨rfl,rfl⟩
    go_wp2_with fail
    go_roundw
    case rel=>exact ⟨k+1,by omega,rfl,hid (by rw [HK.out,HS.out]; rfl)⟩
    case measure=>simp; omega
   ·rw [hb] at HS
    by_cases h8:(s[k]'hlt).toNat<128
    ·have hnx:=fun ty=>run_next_ascii (P:=Tryz.prog) w s k ty hlt h8
     have HC:=hid (fun w=>AA ((s[k]'hlt).toNat:Int) w)
     rw [hb] at HC
     clear hb
     generalize (s[k]'hlt).toNat=b at *
     go_wp2_with fail
     refine (HC.out _).mono ?_
     rintro e w' ⟨rfl,rfl⟩
     go_wp2_with fail
     go_ret
     exact ⟨by rw [HK.out,HS.out]; rfl,Yo.out _⟩
    ·have hnx:=fun ty=>run_next_any (P:=Tryz.prog) w s k ty hlt
     have hd:=decode_high s k hlt (by omega)
     have HC:=hid (fun w=>AA (((Utf8.decode s k).1:Nat):Int) w)
     have hbc:Ci (((Utf8.decode s k).1:Nat):Int)=true:=by simp [Ci]; omega
     rw [hbc] at HC
     clear hb hbc hd h8
     generalize Utf8.decode s k=dd at *
     obtain ⟨d1,d2⟩:=dd
     simp only at *
     go_wp2_with fail
     refine (HC.out _).mono ?_
     rintro e w' ⟨rfl,rfl⟩
     go_wp2_with fail
     go_ret
     exact ⟨by rw [HK.out,HS.out]; rfl,Yo.out _⟩
  ·obtain rfl:k=s.size:=by omega
   have hnx:=fun ty=>run_next_end (P:=Tryz.prog) w s s.size ty (by omega)
   go_wp2_with fail
   go_ret
   exact ⟨by rw [HK.out,Ht]; rfl,Yo.out _⟩
theorem xR (s:ByteArray) (w:World) (hs:s.size≤9223372036854775807) :
  Calls Tryz.prog 128 #[.string s,.func (.func 129) #[] #[]] w fun e w'=>e=.returned (.int .i64 (yO s))∧Below w.heap.size w w':=by
 go_enter Tryz.func128,Tryz.ntmps128
 go_wp2_with fail
 refine (wE s w hs).mono ?_
 rintro e w1 ⟨rfl,hb⟩
 go_wp2_with fail
 go_ret
 exact ⟨rfl,hb⟩
def textE (s:ByteArray):Int:=if 200<s.size then 2 else if 0≤yO s then 3 else 0
theorem Hu (s:ByteArray) (w:World) (hs:s.size≤9223372036854775807) :
  Calls Tryz.prog 89 #[.string s] w fun e w'=>e=.returned (.int .i64 (textE s))∧Below w.heap.size w w':=by
 have H:Hid (textE s=if 200<s.size then 2 else if 0≤yO s then 3 else 0):=hid rfl
 by_cases h:200<s.size
 ·go_enter Tryz.func89,Tryz.ntmps89
  go_wp2_with fail
  go_ret
  exact ⟨by rw [H.out,if_pos h]; rfl,Below.refl _ _⟩
 ·have HI:=hid (xR s w hs)
  generalize yO s=b at *
  by_cases hb:0≤b
  all_goals
   go_enter Tryz.func89,Tryz.ntmps89
   go_wp2_with fail
   refine HI.out.mono ?_
   rintro e w1 ⟨rfl,hb1⟩
   go_wp2_with fail
   go_ret
   exact ⟨by rw [H.out,if_neg (by omega)]; first | (rw [if_pos (by omega)]; rfl) | (rw [if_neg (by omega)]; rfl),hb1⟩
theorem QL {k:IntKind} {a b:Int} (h:a=b):Ending.returned (.int k a)=.returned (.int k b):=by rw [h]
def wF (x c:Int):Int:=IntKind.u64.wrap (bits BinOp.xor IntKind.u64 x (IntKind.u64.wrap c) * 1099511628211)
def sumTo (s:ByteArray) (b:Int):Nat→Int
 | 0=>bits BinOp.xor IntKind.u64 b 14695981039346656037
 | k+1=>if h:k<s.size then wF (sumTo s b k) ((s[k]'h).toNat:Int) else sumTo s b k
def zh (b:Int) (s:ByteArray):Int:=wF (sumTo s b s.size) (s.size:Int)
theorem JI (s:ByteArray) (b:Int) (k:Nat) (h:k<s.size):sumTo s b (k+1)=wF (sumTo s b k) ((s[k]'h).toNat:Int):=by
 rw [sumTo,dif_pos h]
theorem Lp (b:Int) (s:ByteArray) (w:World) (hs:s.size≤9223372036854775807) :
  Calls Tryz.prog 90 #[.int .u64 b,.string s] w fun e w'=>e=.returned (.int .u64 (zh b s))∧w=w':=by
 have HZ:Hid (zh b s=wF (sumTo s b s.size) (s.size:Int)):=hid rfl
 have H0:Hid (sumTo s b 0=bits BinOp.xor IntKind.u64 b 14695981039346656037):=hid rfl
 go_enter Tryz.func90,Tryz.ntmps90
 go_wp2_with fail
 go_loop [5,11] (fun h i=>∃ k:Nat,k≤s.size∧i=.int .i64 k∧h=.int .u64 (sumTo s b k)) (fun _ i=>s.size - (intOf i).toNat)
 case atStart=>exact ⟨0,Nat.zero_le _,rfl,by rw [H0.out]⟩
 case round =>
  obtain ⟨k,hk,rfl,rfl⟩:=hrel
  by_cases hlt:k<s.size
  ·have HS:=hid (JI s b k hlt)
   generalize sumTo s b k=x at *
   go_wp2_with fail
   go_round
   case rel=>exact ⟨k+1,by omega,by go_num,by rw [HS.out]; rfl⟩
   case measure=>simp [intOf]; omega
  ·obtain rfl:k=s.size:=by omega
   generalize sumTo s b s.size=x at *
   go_wp2_with fail
   go_ret
   exact ⟨QL (by rw [HZ.out,wF,IntWalk.u64_in (s.size:Int) (by omega)]),rfl⟩
structure iL where
 txt:ByteArray
 sum:Int
def iL.val (e:iL):Value:=.agg #[.string e.txt,.int .u64 e.sum]
def AB (b:Int) (e:iL):Int:=if textE e.txt≠0 then textE e.txt else if e.sum≠zh b e.txt then 15 else 0
def zK (c:Int) (w:World) (e:Ending) (w':World):Prop:=e=.returned (.int .i64 c)∧Below w.heap.size w w'
set_option maxHeartbeats 1000000 in
theorem NK (b:Int) (x:iL) (w:World) (hs:x.txt.size≤9223372036854775807) :
  Calls Tryz.prog 102 #[.int .u64 b,x.val] w (zK (AB b x) w):=by
 have HR:Hid (AB b x=if textE x.txt≠0 then textE x.txt else if x.sum≠zh b x.txt then 15 else 0):=hid rfl
 obtain ⟨s,n⟩:=x
 unfold iL.val
 simp only at *
 have HT:=hid (fun w=>Hu s w hs)
 have HS:=hid (fun w=>Lp b s w hs)
 have hb0:Below w.heap.size w (w.alloc (.cells #[.string s,.int .u64 n] 131)):=by go_grown
 cases hr:(textE s != 0)
 ·have hr0:textE s=0:=by simpa using hr
  rw [hr0] at HT
  have HR2:Hid (AB b ⟨s,n⟩=if n≠zh b s then 15 else 0):=hid (by rw [HR.out,if_neg (by simpa using hr0)])
  clear hr hr0 HR
  generalize zh b s=z at *
  go_enter Tryz.func102,Tryz.ntmps102
  go_wp2_with fail
  refine (HT.out _).mono ?_
  rintro e w1 ⟨rfl,hb1⟩
  have d0:w1.cell? ⟨w.heap.size,0,none⟩=some (.string s):=(hb1.cell (p:=⟨w.heap.size,0,none⟩) (by simp)).trans (by go_simp)
  have d1:w1.cell? ⟨w.heap.size,1,none⟩=some (.int .u64 n):=(hb1.cell (p:=⟨w.heap.size,1,none⟩) (by simp)).trans (by go_simp)
  have hbw:=hb0.trans (hb1.mono (by simp))
  clear hb1
  go_wp2_with fail
  go_quiet ((go_at_call 90; exact FQ HS.out))
  have hbq:=below_drewN hbw nq
  clear d0 d1
  generalize w1.drewN nq=W at *
  cases hz:(n != z)
  all_goals
   go_wp2_with fail
   go_ret
   exact ⟨by rw [HR2.out]; simp at hz; simp [hz],hbq⟩
 ·generalize textE s=t at *
  go_enter Tryz.func102,Tryz.ntmps102
  go_wp2_with fail
  refine (HT.out _).mono ?_
  rintro e w1 ⟨rfl,hb1⟩
  go_wp2_with fail
  go_ret
  exact ⟨by rw [HR.out,if_pos (by simpa using hr)]; rfl,hb0.trans (hb1.mono (by simp))⟩
end Go.Proofs.YtmabaojkignodaaGreatDoor

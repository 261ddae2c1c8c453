/- TopR, OpenI, TsStE, TsStF, TsStG, TsStH, TsStI, TsSt6. -/
import Derived.Test.YteablcielclaeaaGreatDoorC37
import Derived.ChangeSlices
import Derived.Deep.LoopGhost
namespace Go.Proofs.YteablcielclaeaaGreatDoor
open Go.ChangeShapes Go.WideShapes Go.ChangeAt Go.RowKit
set_option linter.unusedVariables false
open Go.Lib (hid)
theorem Qq {w:World} {a:Option Addr} {c:Nat} {zs:List Int} (h:iJ w (.slice a zs.length c) zs) (k:Nat) (hk:k≤zs.length):iJ w (.slice a k c) (zs.take k):=by
 have:=Rd.take h k hk
 unfold iJ
 rw [List.length_take,Nat.min_eq_left hk]
 rw [Nat.mul_one] at this
 unfold ints at *
 rw [List.map_take]
 exact this
theorem ach:Tryz.prog.underlying 22=some (.slice (Tryz.prog.elem 22)):=by kernel_rfl
theorem aci (w:World):(sizeOf (Tryz.prog.elem 22)).run Tryz.prog w=.ok 1 w:=by kernel_rfl
theorem Sv:(Tryz.prog.info? 33).map (fun i=>(i.zero,i.size,i.bytes))=some (some (.agg #[.int .i64 0,.int .i64 0,.int .i64 0]),3,24):=by kernel_rfl
theorem Sz {x y z:Int}:∀ u∈[Value.int .i64 x,.int .i64 y,.int .i64 z],u.oneCell'=true:=by
 intro u hu
 simp only [List.mem_cons,List.not_mem_nil,or_false] at hu
 rcases hu with rfl | rfl | rfl <;> rfl
def okG (n:Nat) (g:cu):Prop:=0≤g.fst∧g.fst<n∧0≤g.snd∧g.snd<n∧g.fst≠g.snd∧0≤g.pts∧g.pts≤2
def EJ (n:Nat):Bool:=decide ((iU n true).length≤10) && (iU n true).all fun row=>decide (row.length≤3) && row.all fun g=>decide (0≤g.1∧g.1<n∧0≤g.2∧g.2<n∧g.1≠g.2)
theorem rows_ok (n:Nat) (h0:2≤n) (h1:n≤6):EJ n=true:=by
 have h:n=2∨n=3∨n=4∨n=5∨n=6:=by omega
 rcases h with rfl | rfl | rfl | rfl | rfl <;> decide +kernel
theorem Zw {n:Nat} (h:EJ n=true):(iU n true).length≤10:=by
 unfold EJ at h
 rw [Bool.and_eq_true,decide_eq_true_eq] at h
 exact h.1
theorem acj {n:Nat} (h:EJ n=true) (k:Nat) (hk:k<(iU n true).length):(iU n true)[k].length≤3∧∀ j (hj:j<(iU n true)[k].length),0≤(iU n true)[k][j].1∧(iU n true)[k][j].1<n∧0≤(iU n true)[k][j].2∧(iU n true)[k][j].2<n∧(iU n true)[k][j].1≠(iU n true)[k][j].2:=by
 unfold EJ at h
 rw [Bool.and_eq_true,List.all_eq_true] at h
 have h2:=h.2 _ (List.getElem_mem hk)
 rw [Bool.and_eq_true,decide_eq_true_eq,List.all_eq_true] at h2
 exact ⟨h2.1,fun j hj=>by simpa using h2.2 _ (List.getElem_mem hj)⟩
theorem Made.amU {w:World} {B:Nat} {va:Option Addr} {n c:Nat} {vs:List Value} {rows:List (List (Int×Int))} (h:Made w B (.slice va n c) vs rows) (r:Nat) (hr:r<rows.length):∃ g ua uc,va=some ⟨g,0,none⟩∧g<w.heap.size∧w.cell? ⟨g,r,none⟩=some (.slice ua rows[r].length uc)∧w.ownsRow B 31 2 (.slice ua rows[r].length uc) rows[r].length (flat rows[r]):=by
 obtain ⟨u,hu,ho⟩:=h.2 r hr
 obtain ⟨g,c',q⟩:=dY h.1 (by omega)
 simp only [Value.slice.injEq] at q
 obtain ⟨rfl,rfl,rfl⟩:=q
 obtain ⟨ua,uc,rfl⟩:=aH ho
 have hg:=h.1.lt g rfl
 exact ⟨g,ua,uc,rfl,hg.2,(h.1.cellAt r (by omega)).trans hu,ho⟩
theorem acn {w:World} {B:Nat} {ua:Option Addr} {c:Nat} {row:List (Int×Int)} (h:w.ownsRow B 31 2 (.slice ua row.length c) row.length (flat row)) (j:Nat) (hj:j<row.length):∃ g,ua=some ⟨g,0,none⟩∧g<w.heap.size∧w.cell? ⟨g,j * 2,none⟩=some (.int .i64 row[j].1)∧w.cell? ⟨g,j * 2+1,none⟩=some (.int .i64 row[j].2):=by
 obtain ⟨g,c',q⟩:=dY h (by omega)
 simp only [Value.slice.injEq] at q
 obtain ⟨rfl,-,rfl⟩:=q
 obtain ⟨q0,q1⟩:=abY row j hj
 have hg:=h.lt g rfl
 exact ⟨g,rfl,hg.2,(h.cellAt (j * 2) (by omega)).trans q0,(h.cellAt (j * 2+1) (by omega)).trans q1⟩
theorem EK (gs:List cu) (x y z:Int):jK gs++[.int .i64 x,.int .i64 y,.int .i64 z]=jK (gs++[⟨x,y,z⟩]):=by simp [jK]
theorem SA {n:Nat} {gs:List cu} {g:cu} (h:∀ x∈gs,okG n x) (hg:okG n g):∀ x∈gs++[g],okG n x:=fun x hx=>by
 rcases List.mem_append.1 hx with hx | hx
 ·exact h x hx
 ·obtain rfl:x=g:=by simpa using hx
  exact hg
theorem amV (z:Int) : -2≤z.tmod 3∧z.tmod 3≤2∧0≤z.tmod 3 % 3∧z.tmod 3 % 3≤2:=by
 have h : -2≤z.tmod 3∧z.tmod 3≤2:=by
  by_cases hz:0≤z
  ·rw [Int.tmod_eq_emod_of_nonneg hz]; omega
  ·rw [show z = -(-z) by omega,Int.neg_tmod,Int.tmod_eq_emod_of_nonneg (by omega)]; omega
 omega
theorem SB {n:Int}:∀ gs:List cu,(∀ g∈gs,yX n g.fst g.snd=true∧0≤g.pts∧g.pts≤2)→mJ n gs=0
 | [],_=>rfl
 | g :: t,h=>by
  obtain ⟨h1,h2,h3⟩:=h g (List.mem_cons_self ..)
  rw [mJ,if_neg (by rw [h1]; simp),if_neg (by omega)]
  exact SB t fun x hx=>h x (List.mem_cons_of_mem _ hx)
theorem afo {n:Nat} {gs:List cu} (h0:1≤n) (h1:n≤32) (hl:gs.length≤600) (hg:∀ g∈gs,okG n g):vU n gs=0:=by
 unfold vU
 rw [if_neg (by omega)]
 refine SB gs fun g hx=>?_
 obtain ⟨a,b,c,d,e,p,q⟩:=hg g hx
 exact ⟨by unfold yX; simp; omega,p,q⟩
theorem Zx (f:Int):∀ (gs:List cu) (zs:List Int),(jL f zs gs).2≠0→(jL f zs gs).1=[]
 | [],zs,h=>absurd rfl h
 | g :: t,zs,h=>by
  unfold jL at h ⊢
  split
  ·rfl
  ·rename_i hc
   rw [if_neg hc] at h
   exact Zx f t _ h
theorem aiW {zs:List Int} {gs:List cu} {f:Int} (h:(vT zs gs f).2≠0):(vT zs gs f).1=[]:=by
 unfold vT at h ⊢
 split
 ·rfl
 ·rename_i hc
  rw [if_neg hc] at h
  exact Zx f gs zs h
def sG (rs:List dO) (k:Nat):Int:=((rs.take k).map (·.pts)).sum
theorem EL (rs:List dO) (k:Nat) (hk:k<rs.length):sG rs (k+1)=sG rs k+rs[k].pts:=by
 unfold sG
 rw [List.take_succ_eq_append_getElem hk,List.map_append,List.sum_append]
 simp
theorem Hz {n m:Nat} {rs:List dO} (h:NK n m rs):∀ k,k≤rs.length→0≤sG rs k∧sG rs k≤2 * m * k
 | 0,_=>by unfold sG; simp
 | k+1,hk=>by
  have ih:=Hz h k (by omega)
  have hb:=h.pb k (by omega)
  rw [EL rs k (by omega)]
  have:(2 * (m:Int)) * ((k+1:Nat):Int)=2 * m * k+2 * m:=by push_cast; rw [Int.mul_add,Int.mul_one]
  omega
set_option maxRecDepth 100000 in
set_option maxHeartbeats 16000000 in
theorem Bj (HH:ae3) (HSR:SortRowsSaid) (vl vr:Value) (zs0 rs0:List Int) (f:Int) (w:World) (hl:iJ w vl zs0) (hr:iJ w vr rs0) (ht:Tab w.heap.size w) :
  Calls Tryz.prog 3 #[vl,vr,.int .i64 f] w fun e w'=>e=.returned (.bool true)∧Below w.heap.size w w':=by
 have JW:=hid HH
 have zh:=hid HSR
 have E5:=hid ht
 obtain ⟨la,lc,rfl,l1,l2⟩:=hl.form
 obtain ⟨ra,rc,rfl,r1,r2⟩:=hr.form
 unfold maxLen at l2 r2
 obtain ⟨L,hL⟩:∃ L,L=min zs0.length 6:=⟨_,rfl⟩
 have m1:L≤zs0.length:=by omega
 have m2:L≤6:=by omega
 have hmin:(if (6:Int)<(zs0.length:Int) then (6:Int) else (zs0.length:Int))=(L:Int):=by split <;> omega
 have HI:=hid (Qq hl L m1)
 have HZ:=hid hr
 have t1:=fun w=>BZ ach aci la zs0.length lc L (by omega) w
 have lz:(zs0.take L).length=L:=by rw [List.length_take]; omega
 have Wi:=hid lz
 have hlc:L≤lc:=by omega
 have Vk:=hid hL
 clear HH HSR hl hr ht hL lz
 generalize zs0.take L=zs at *
 go_enter Tryz.func3,Tryz.ntmps3
 go_wp2_with fail
 refine (Jv JW.out w E5.out).mono ?_
 rintro e w1 ⟨rfl,hb1⟩
 have HB1:=hid hb1
 clear hb1
 go_upto_region 4 with (fail)
 rw [show (min (zs0.length:Int) 6).toNat=L by have:=Vk.out; omega,show min (zs0.length:Int) 6=(L:Int) by have:=Vk.out; omega]
 clear hmin t1 Vk
 by_cases hL2:L<2
 ·have hlt:(L:Int)<2:=by omega
  go_wp2_with fail
  refine (afc L true w1 (.inl (by omega))).mono ?_
  rintro e w' ⟨rfl,rfl⟩
  go_wp2_with fail
  go_ret
  exact ⟨rfl,HB1.out⟩
 have hok:=rows_ok L (by omega) m2
 have HRl:=hid (Zw hok)
 have HRa:=hid (acj hok)
 have HAl:=hid (afd L true w1 (by omega) (by omega))
 clear hok
 generalize iU L true=rows at *
 go_wp2_with fail
 refine HAl.out.mono ?_
 rintro e w2 ⟨v,vs,rfl,hm,hb2⟩
 have HB2:=hid (HB1.out.trans (hb2.mono HB1.out.size))
 have HM:=hid hm
 obtain ⟨va,vc,rfl⟩:=aH hm.1
 have Mc:Hid (w2.ownsRow w2.heap.size 33 3 (.slice none 0 0) 0 (jK [])):=hid (World.ownsRow_nil _ _ _ _)
 clear hm hb2 HAl
 go_wp2_with fail
 go_loopw [44,9,11,13,14,15] (fun v44 v9 v11 v13 v14 v15 wr=>∃ (r:Nat) (o11 o13 o14 o15:Value) (gs:List cu),o11=v11∧o13=v13∧o14=v14∧o15=v15∧r≤rows.length∧v44=.int .i64 r∧Hid (gs.length≤3 * r)∧Hid (∀ g∈gs,okG L g)∧Hid (wr.ownsRow w2.heap.size 33 3 v9 gs.length (jK gs))∧Hid (Below w2.heap.size w2 wr)) (fun v44 _ _ _ _ _ _=>rows.length - (intOf v44).toNat)
 case atStart=>exact ⟨0,_,_,_,_,[],rfl,rfl,rfl,rfl,Nat.zero_le _,rfl,hid (Nat.zero_le _),hid (fun g hg=>by cases hg),Mc,hid (Below.refl _ _)⟩
 case round =>
  obtain ⟨r,o11,o13,o14,o15,gs,rfl,rfl,rfl,rfl,hr,rfl,Ry,ZM,HG,Vg⟩:=hrel
  by_cases hlt:r<rows.length
  ·have hri:(r:Int)<(rows.length:Int):=by omega
   obtain ⟨gv,ua,uc,rfl,hgv,cv,hou⟩:=HM.out.amU r hlt
   have hrl:=(HRa.out r hlt).1
   have HRp:=hid (HRa.out r hlt).2
   have HRx:=HRl.out
   have cvr:=(Vg.out.cell (p:=⟨gv,r,none⟩) hgv).trans cv
   have amX:gv<wr.heap.size:=Nat.lt_of_lt_of_le hgv Vg.out.size
   have HOu:=hid hou
   clear hou cv
   generalize rows[r]=row at *
   go_wp2_with fail
   go_loopw [50,9,13,14,15] (fun v50 v9 v13 v14 v15 wr=>∃ (j:Nat) (o13 o14 o15:Value) (gs:List cu),o13=v13∧o14=v14∧o15=v15∧j≤row.length∧v50=.int .i64 j∧Hid (gs.length≤3 * r+j)∧Hid (∀ g∈gs,okG L g)∧Hid (wr.ownsRow w2.heap.size 33 3 v9 gs.length (jK gs))∧Hid (Below w2.heap.size w2 wr)) (fun v50 _ _ _ _ _=>row.length - (intOf v50).toNat)
   case atStart=>exact ⟨0,_,_,_,gs,rfl,rfl,rfl,Nat.zero_le _,rfl,Ry,ZM,HG,Vg⟩
   clear Ry ZM HG Vg cvr amX
   case round =>
    obtain ⟨j,o13,o14,o15,gs,rfl,rfl,rfl,hj,rfl,Ry,ZM,HG,Vg⟩:=hrel
    by_cases hjt:j<row.length
    ·obtain ⟨gu,rfl,hgu,c0,c1⟩:=acn HOu.out j hjt
     obtain ⟨p0,p1,p2,p3,p4⟩:=HRp.out j hjt
     have d0:=(Vg.out.cell (p:=⟨gu,j * 2,none⟩) hgu).trans c0
     have d1:=(Vg.out.cell (p:=⟨gu,j * 2+1,none⟩) hgu).trans c1
     have amY:gu<wr.heap.size:=Nat.lt_of_lt_of_le hgu Vg.out.size
     have hbs:w2.heap.size≤wr.heap.size:=Vg.out.size
     have hji:(j:Int)<(row.length:Int):=by omega
     obtain ⟨ga,gc,rfl⟩:=aH HG.out
     have hgl:=Ry.out
     clear c0 c1
     generalize row[j]=pr at *
     obtain ⟨pa,pb⟩:=pr
     simp only at p0 p1 p2 p3 p4 d0 d1
     go_upto_region 14 with (fail)
     have HX:=hid (Box.new wr [.int .i64 pa,.int .i64 pb] 31)
     have hbA:Below wr.heap.size wr (wr.alloc (.cells #[.int .i64 pa,.int .i64 pb] 31)):=(Below.refl _ _).alloc (Nat.le_refl _) _
     have QD:=hid (Vg.out.trans (hbA.mono hbs))
     have HGA:=hid (aU HG.out hbA)
     have ai0:w2.heap.size≤(wr.alloc (.cells #[.int .i64 pa,.int .i64 pb] 31)).heap.size:=Nat.le_trans hbs hbA.size
     obtain ⟨xb,hxb⟩:∃ xb,xb=wr.heap.size:=⟨_,rfl⟩
     rw [← hxb] at HX
     rw [← hxb]
     clear hbA
     generalize (wr.alloc (.cells #[.int .i64 pa,.int .i64 pb] 31))=wA at *
     clear hxb hbs HG d0 d1 amY
     have x0:=HX.out.cell 0 rfl
     have x1:=HX.out.cell 1 rfl
     by_cases hk:gs.length<rs0.length
     ·have hki:(gs.length:Int)<(rs0.length:Int):=by omega
      obtain ⟨zg,zo,zc2,haz,-,-,hzg,hzc⟩:=HZ.out.some (by omega)
      simp only [Value.slice.injEq] at haz
      obtain ⟨rfl,-,rfl⟩:=haz
      have hww:=HB2.out.trans (QD.out.mono HB2.out.size)
      have cz:=(hww.cell (p:=⟨zg,zo+gs.length,none⟩) hzg).trans (hzc gs.length hk)
      have asU:zg<wA.heap.size:=by have:=hww.size; omega
      clear hzc hww
      generalize rs0.getD gs.length 0=z at *
      obtain ⟨q1,q2,q3,q4⟩:=amV z
      go_wp2_with (at_builtin; refine fU 28 33 (.agg #[.int .i64 0,.int .i64 0,.int .i64 0]) 3 24 Sv Tryz.underlying28 rfl (by decide) (by rfl) _ _ (by rfl) w2.heap.size _ gs.length (jK gs) [.int .i64 pa,.int .i64 pb,.int .i64 (z.tmod 3 % 3)] wA HGA.out ai0 rfl Sz (by omega) (by omega) (by rfl) (by rfl) ?_)
      intro g3 cap3 w3 hown3 bZ _
      rw [EK] at hown3
      have HG3:Hid (w3.ownsRow w2.heap.size 33 3 (.slice (some ⟨g3,0,none⟩) (gs.length+1) cap3) (gs++[(⟨pa,pb,(z.tmod 3 % 3)⟩:cu)]).length (jK (gs++[⟨pa,pb,(z.tmod 3 % 3)⟩]))):=hid (by rw [List.length_append]; exact hown3)
      have HB3:=hid (bZ.below QD.out (Nat.le_refl _))
      clear hown3 bZ
      go_wp2_with fail
      go_roundw
      case rel=>exact ⟨j+1,_,_,_,gs++[⟨pa,pb,(z.tmod 3 % 3)⟩],rfl,rfl,rfl,by omega,by go_num,hid (by rw [List.length_append]; have:=Ry.out; show gs.length+1≤_; omega),hid (SA ZM.out ⟨p0,p1,p2,p3,p4,q3,q4⟩),HG3,HB3⟩
      case measure=>simp [intOf]; omega
     ·have hki:¬ (gs.length:Int)<(rs0.length:Int):=by omega
      go_wp2_with (at_builtin; refine fU 28 33 (.agg #[.int .i64 0,.int .i64 0,.int .i64 0]) 3 24 Sv Tryz.underlying28 rfl (by decide) (by rfl) _ _ (by rfl) w2.heap.size _ gs.length (jK gs) [.int .i64 pa,.int .i64 pb,.int .i64 1] wA HGA.out ai0 rfl Sz (by omega) (by omega) (by rfl) (by rfl) ?_)
      intro g3 cap3 w3 hown3 bZ _
      rw [EK] at hown3
      have HG3:Hid (w3.ownsRow w2.heap.size 33 3 (.slice (some ⟨g3,0,none⟩) (gs.length+1) cap3) (gs++[(⟨pa,pb,1⟩:cu)]).length (jK (gs++[⟨pa,pb,1⟩]))):=hid (by rw [List.length_append]; exact hown3)
      have HB3:=hid (bZ.below QD.out (Nat.le_refl _))
      clear hown3 bZ
      go_wp2_with fail
      go_roundw
      case rel=>exact ⟨j+1,_,_,_,gs++[⟨pa,pb,1⟩],rfl,rfl,rfl,by omega,by go_num,hid (by rw [List.length_append]; have:=Ry.out; show gs.length+1≤_; omega),hid (SA ZM.out ⟨p0,p1,p2,p3,p4,show (0:Int)≤1 by decide,show (1:Int)≤2 by decide⟩),HG3,HB3⟩
      case measure=>simp [intOf]; omega
    ·obtain rfl:j=row.length:=by omega
     go_wp2_with fail
     go_roundw
     case rel=>exact ⟨r+1,_,_,_,_,gs,rfl,rfl,rfl,rfl,by omega,by go_num,hid (by have:=Ry.out; omega),ZM,HG,Vg⟩
     case measure=>simp [intOf]; omega
  ·obtain rfl:r=rows.length:=by omega
   obtain ⟨ga,gc,rfl⟩:=aH HG.out
   have hRG:ED wr (.slice ga gs.length gc) gs:=Rd.dL HG.out
   have hgl:gs.length≤30:=by have:=Ry.out; have:=HRl.out; omega
   have FD:Hid (vU (L:Int) gs=0):=hid (afo (by omega) (by omega) (by omega) ZM.out)
   have Oa:=hid (HB2.out.trans (Vg.out.mono HB2.out.size))
   have HIr:Hid (iJ wr (.slice la L lc) zs):=hid (HI.out.below Oa.out (Nat.le_refl _))
   have HAR:=hid (Zk (.slice la L lc) (.slice ga gs.length gc) zs gs f wr HIr.out hRG)
   have HRG:=hid hRG
   clear hRG Ry ZM HG HM HRa HRl Vg Mc
   go_wp2_with fail
   refine HAR.out.mono ?_
   rintro e w4 ⟨v4,rfl,ho4,hb4⟩
   obtain ⟨xa,xc,rfl⟩:=aH ho4
   have HO4:=hid ho4
   have ai1:=hid (ED.below HRG.out hb4 (Nat.le_refl _))
   have HI4:=hid (HIr.out.below hb4 (Nat.le_refl _))
   have HB4:=hid (Oa.out.trans (hb4.mono Oa.out.size))
   have VI:=hid (Zm (zs:=zs) (gs:=gs) (f:=f))
   have HEr:=hid (aiW (zs:=zs) (gs:=gs) (f:=f))
   clear ho4 hb4 HAR HRG HIr Oa
   generalize vT zs gs f=r1 at *
   obtain ⟨xs,er⟩:=r1
   simp only at HO4 VI HEr ⊢
   go_wp2_with fail
   refine (Vf zh.out (L:Int) (.slice ga gs.length gc) gs w4 ai1.out (by omega)).mono ?_
   rintro e w5 (⟨hc,-⟩ | ⟨-,G,cap,rs,rfl,hown,hok,hb5⟩)
   ·exact absurd FD.out hc
   rw [Int.toNat_natCast] at hok
   have hrl:rs.length=L:=hok.len
   have hG:=hown.lt G rfl
   have HOR:=hid hown
   have afp:=hid (fun k hk=>Hz hok k hk)
   have HFin:Hid (sG rs rs.length=2 * (gs.length:Int)):=hid (by unfold sG; rw [List.take_length,hok.sum])
   have FK:=hid (aU HO4.out hb5)
   have HI5:=hid (HI4.out.below hb5 (Nat.le_refl _))
   have wO:=hid (HB4.out.trans (hb5.mono HB4.out.size))
   clear hown hok hb5 HO4 HI4 HB4 ai1 FD
   by_cases he:er=0
   rotate_left
   ·have hxs:xs=[]:=HEr.out he
    subst hxs
    have heb:(er != 0)=true:=by simpa using he
    clear he VI HEr
    go_wp2_with fail
    go_ret
    exact ⟨rfl,wO.out⟩
   subst he
   obtain ⟨z0,z1,z2,z3⟩:=VI.out rfl
   have HW0:=hid (uK z0)
   have HW1:=hid (uK z3)
   have HXL:Hid (xs.length=L):=hid (by rw [z1,Wi.out])
   have HZS:=hid z2
   rw [hrl] at HOR HFin afp ⊢
   rw [HXL.out] at FK ⊢
   have hGl:=hG.2
   clear z0 z1 z2 z3 VI HEr hG
   have hL6:L≤6:=m2
   obtain ⟨lg,lo,lc',q,-,-,hlg,Qr⟩:=HI5.out.some (by rw [Wi.out]; omega)
   simp only [Value.slice.injEq] at q
   obtain ⟨rfl,-,rfl⟩:=q
   rw [Wi.out] at Qr
   have ZP:=hid Qr
   clear Qr
   go_wp2_with fail
   go_loopw [107,20,21,22,23] (fun v107 v20 v21 v22 v23 wr=>∃ (k:Nat) (o23:Value),o23=v23∧k≤L∧v107=.int .i64 k∧v20=.int .i64 (zs.take k).sum∧v21=.int .i64 (xs.take k).sum∧v22=.int .i64 (sG rs k)∧Hid (Below w5.heap.size w5 wr)) (fun v107 _ _ _ _ _=>L - (intOf v107).toNat)
   case atStart=>exact ⟨0,_,rfl,Nat.zero_le _,rfl,rfl,rfl,rfl,hid (Below.refl _ _)⟩
   case round =>
    obtain ⟨k,o23,rfl,hk,rfl,rfl,rfl,rfl,HB⟩:=hrel
    have b0:=Zn HW0.out k
    have b1:=Zn HW1.out k
    by_cases hlt:k<L
    ·have hki:(k:Int)<(L:Int):=by omega
     obtain ⟨s1,s2⟩:=afp.out k (by omega)
     have HT0:=hid (Ad zs k (by rw [Wi.out]; omega))
     have HT1:=hid (Ad xs k (by rw [HXL.out]; omega))
     have HT2:=hid (EL rs k (by rw [hrl]; omega))
     obtain ⟨xg,rfl,cx⟩:=ab6 FK.out HXL.out k hlt
     have hxg:=(FK.out.lt xg rfl).2
     have ct:=dK HOR.out hrl k (by rw [hrl]; omega) rfl 1 (by omega) rfl
     have cl:=ZP.out k hlt
     have b4:=HW0.out k
     have b5:=HW1.out k
     have dl:=(HB.out.cell (p:=⟨lg,lo+k,none⟩) hlg).trans cl
     have dx:=(HB.out.cell (p:=⟨xg,k,none⟩) hxg).trans cx
     have dt:=(HB.out.cell (p:=⟨G,k * 8+1,none⟩) hGl).trans ct
     obtain ⟨s3,s4⟩:=afp.out (k+1) hlt
     rw [HT2.out] at s3 s4
     have u1:sG rs k≤400:=by
      have h1:2 * (gs.length:Int) * (k:Int)≤60 * (k:Int):=Int.mul_le_mul_of_nonneg_right (by omega) (by omega)
      omega
     have u2:sG rs k+(rs[k]'(by rw [hrl]; omega)).pts≤420:=by
      have h1:2 * (gs.length:Int) * ((k+1:Nat):Int)≤60 * ((k+1:Nat):Int):=Int.mul_le_mul_of_nonneg_right (by omega) (by omega)
      omega
     clear cl cx ct s2 s4
     generalize (rs[k]'(by rw [hrl]; omega)).pts=pt at *
     generalize zs.getD k 0=z at *
     generalize xs.getD k 0=x at *
     generalize (zs.take k).sum=sz at *
     generalize (xs.take k).sum=sx at *
     generalize sG rs k=sp at *
     go_upto_region 29 with (fail)
     have Lz:Below w5.heap.size w5 wr.drew:=aP HB.out
     have Dl:wr.drew.cell? ⟨lg,lo+k,none⟩=some (.int .i64 z):=dl
     have Dx:wr.drew.cell? ⟨xg,k,none⟩=some (.int .i64 x):=dx
     have Dt:wr.drew.cell? ⟨G,k * 8+1,none⟩=some (.int .i64 pt):=dt
     refine wp_region_noPanic ?_
     refine bU (S:=(fun w'=>w'.cell? ⟨lg,lo+k,none⟩=some (.int .i64 z)∧w'.cell? ⟨xg,k,none⟩=some (.int .i64 x)∧w'.cell? ⟨G,k * 8+1,none⟩=some (.int .i64 pt))) (L:=[]) (by kernel_rfl) ⟨Dl,Dx,Dt⟩ (fun hHeld=>?_)
     refine aJ 0 ?_
     refine aJ 1 ?_
     refine aJ 2 ?_
     refine aJ 6 ?_
     refine aJ 7 ?_
     refine aJ 8 ?_
     refine aJ 12 ?_
     refine aJ 13 ?_
     refine aJ 14 ?_
     refine aJ 3 ?_
     refine aJ 9 ?_
     refine aJ 15 ?_
     refine eH 4 ?_
     refine eH 10 ?_
     refine aJ 16 ?_
     refine aJ 5 ?_
     refine aJ 11 ?_
     refine eH 17 ?_
     refine aJ 18 ?_
     refine aJ 19 ?_
     refine aJ 20 ?_
     refine aJ 21 ?_
     refine kW ?_
     clear hHeld
     have wz:IntKind.i64.wrap (sz+z)=sz+z:=by rw [IntKind.wrap_i64]; omega
     have wx:IntKind.i64.wrap (sx+x)=sx+x:=by rw [IntKind.wrap_i64]; omega
     have wp:IntKind.i64.wrap (sp+pt)=sp+pt:=by rw [IntKind.wrap_i64]; omega
     go_wp2_with fail
     go_roundw
     case rel=>exact ⟨k+1,_,rfl,by omega,by go_num,by rw [HT0.out,wz],by rw [HT1.out,wx],by rw [HT2.out,wp],hid Lz⟩
     case measure=>simp [intOf]; omega
    ·obtain rfl:k=L:=by omega
     have sN:Hid (zs.take k=zs):=hid (List.take_of_length_le (by rw [Wi.out]; exact Nat.le_refl _))
     have jR:Hid (xs.take k=xs):=hid (List.take_of_length_le (by rw [HXL.out]; exact Nat.le_refl _))
     rw [sN.out,jR.out,HZS.out,HFin.out]
     have hww:=wO.out.trans (HB.out.mono wO.out.size)
     clear b0 b1
     go_wp2_with fail
     go_ret
     exact ⟨rfl,hww⟩
end Go.Proofs.YteablcielclaeaaGreatDoor
namespace Go.Proofs.YteablcielclaeaaGreatDoor
open Go.ChangeShapes Go.WideShapes Go.ChangeAt Go.RowKit
set_option linter.unusedVariables false
section
variable {H:Type} {enc:TypeId×Value→H} {P:Program} {W:World} {r:Reach} {base:Nat} {t e:TypeId} {v:Value} {d:DataW H} {p:List MemPlace}
theorem NP (hu:P.underlying t=some (.slice e)) (he:P.underlying e=some (.int .i64)) (hc:P.cellsOf e=1) (hv:Value.okWide P W r base t v)
  (h:DataW.Trod enc P W 0 (fun _=>true) true t v d p):∃ zs,iJ W v zs∧∀ z∈zs,(Lit.int .i64 z).wf=true:=by
 obtain ⟨fuel,hf⟩:=h
 rcases Me hu hv with ⟨_,rfl,_⟩ | ⟨g,o,len,cap,rfl⟩
 ·exact ⟨[],Rd.nil _ _,by simp⟩
 ·rcases open_ints hu he hc hf with ⟨hcs,_⟩ | ⟨a,len',cap',zs,hcs,_,hl,hm,hz,_,hcell,hwz⟩
  ·simp [Value.cells] at hcs
  ·simp [Value.cells] at hcs
   obtain ⟨rfl,rfl,rfl⟩:=hcs
   simp only [if_true] at hz
   refine ⟨zs.take len,⟨by simp [ints],.inr ⟨g,o,cap,by simp [hz,hl],by simp [hz,hl],hm,fun i hi=>?_⟩⟩,fun z hzm=>hwz z (List.mem_of_mem_take hzm)⟩
   have hi':i<len:=by simp at hi; omega
   have:=hcell i (by omega)
   rw [oP] at this
   rw [this,eY _ i (by simp; omega)]
   congr 2
   simp [List.getD,hi']
end
end Go.Proofs.YteablcielclaeaaGreatDoor
namespace Go.Proofs.YteablcielclaeaaGreatDoor
open Go.ChangeShapes Go.WideShapes Go.ChangeAt Go.RowKit Go.Shelf Go.Lib Go.Sort
set_option linter.unusedVariables false
variable {P:Program} {α:Type} [Inhabited α] {k:Nat} {enc:α→List Value} {blk off:Nat} {d0:Array α} {w0:World}
end Go.Proofs.YteablcielclaeaaGreatDoor
namespace Go.Proofs.YteablcielclaeaaGreatDoor
open Go.ChangeShapes Go.WideShapes Go.ChangeAt Go.RowKit Go.Shelf Go.Lib Go.Sort
set_option linter.unusedVariables false
variable {P:Program} {α:Type} [Inhabited α] {k:Nat} {enc:α→List Value} {blk off:Nat} {d0:Array α} {w0:World}
end Go.Proofs.YteablcielclaeaaGreatDoor
namespace Go.Proofs.YteablcielclaeaaGreatDoor
open Go.ChangeShapes Go.WideShapes Go.ChangeAt Go.RowKit Go.Shelf Go.Lib Go.Sort
set_option linter.unusedVariables false
variable {P:Program} {α:Type} [Inhabited α] {k:Nat} {enc:α→List Value} {blk off:Nat} {d0:Array α} {w0:World} {cf:α→α→Int}
def zf (d:Array α) (lt:α→α→Bool) (a b:Nat) (enc:α→List Value) (k:Nat) (w0:World) (blk off:Nat) (e:Ending) (w':World):Prop:=e=.returned (.tuple #[])∧∃ d',SWK enc k w0 blk off d' w'∧d'.size=d.size∧PermIn a b d d'∧SortedIn lt a b d'
end Go.Proofs.YteablcielclaeaaGreatDoor
namespace Go.Proofs.YteablcielclaeaaGreatDoor
open Go.ChangeShapes Go.WideShapes Go.ChangeAt Go.RowKit Go.Shelf Go.Lib Go.Sort
set_option linter.unusedVariables false
variable {P:Program} {α:Type} [Inhabited α] {k:Nat} {enc:α→List Value} {blk off:Nat} {d0:Array α} {w0:World} {cf:α→α→Int}
end Go.Proofs.YteablcielclaeaaGreatDoor
namespace Go.Proofs.YteablcielclaeaaGreatDoor
open Go.ChangeShapes Go.WideShapes Go.ChangeAt Go.RowKit Go.Shelf Go.Lib Go.Sort
set_option linter.unusedVariables false
variable {P:Program} {α:Type} [Inhabited α] {k:Nat} {enc:α→List Value} {blk off:Nat} {d0:Array α} {w0:World} {cf:α→α→Int}
end Go.Proofs.YteablcielclaeaaGreatDoor
namespace Go.Proofs.YteablcielclaeaaGreatDoor
open Go.ChangeShapes Go.WideShapes Go.ChangeAt Go.RowKit Go.Shelf Go.Lib Go.Sort
set_option linter.unusedVariables false
set_option maxHeartbeats 8000000
set_option maxRecDepth 100000
open Go.Lib (hid)
def ai2:Go.Shelf.Ren:=⟨fun x=>if x=20 then 111 else x,fun x=>if x=22 then 36 else if x=24 then 41 else if x=25 then 101 else x,fun x=>x⟩
theorem am2:SlLaysF0.n20 Tryz.prog ai2 where
 mixed:=by kernel_rfl
 f20:=⟨Tryz.f111.name,by kernel_rfl,by kernel_rfl⟩
 t0:=by kernel_rfl
 a0:=fun w=>by kernel_rfl
 z0:=fun w=>by kernel_rfl
 v0:=fun w=>by kernel_rfl
 t3:=by kernel_rfl
 a3:=fun w=>by kernel_rfl
 z3:=fun w=>by kernel_rfl
 v3:=fun w=>by kernel_rfl
 t4:=by kernel_rfl
 a4:=fun w=>by kernel_rfl
 z4:=fun w=>by kernel_rfl
 v4:=fun w=>by kernel_rfl
 t22:=by kernel_rfl
 a22:=fun w=>by kernel_rfl
 z22:=fun w=>by kernel_rfl
 v22:=fun w=>by kernel_rfl
 t25:=by kernel_rfl
 a25:=fun w=>by kernel_rfl
 z25:=fun w=>by kernel_rfl
 v25:=fun w=>by kernel_rfl
section
variable {α:Type} [Inhabited α] {enc:α→List Value} {k:Nat} {w0 W:World} {blk off:Nat} {d d0:Array α} {cf:α→α→Int}
theorem Vh {P:Program} {g:Nat} {cb:Array Value} (S:SWK enc k w0 blk off d W) (hblk:blk<w0.heap.size) (hC:CmpLays P g cb enc k cf blk off d0.size w0) (hs:d.size=d0.size):CmpLays P g cb enc k cf blk off d.size W:=by
 intro m os dk hdk x y
 have h:=(S.on hblk m dk os hdk).cmp hC (by omega) x y 0 #[]
 rw [grow_empty] at h
 exact h
theorem ins_any (hk:∀ x,(enc x).length=8) (cap:Nat) (cb:Array Value) (g:Nat) (hC:CmpLays Tryz.prog g cb enc 8 cf blk off d0.size w0) (eg:∀ args w,(callFunc g args).run Tryz.prog w=.ok (.enter g args) w) (hS:SWO (ltOf cf)) (R:RowK enc 8 w0 blk off d0) (hs:d0.size=d.size) (S:SWK enc 8 w0 blk off d W) (a b:Nat) (hab:a≤b) (hb:b≤d.size) (hsz:d.size<4611686018427387904) :
  Calls Tryz.prog 111 #[.slice (some ⟨blk,off,none⟩) d.size cap,.int .i64 a,.int .i64 b,.func (.func g) #[] cb] W (zf d (ltOf cf) a b enc 8 w0 blk off):=by
 have h:=AnyQ.insertionSortCmpFunc am2 8 (fun w=>by kernel_rfl) (fun w=>by kernel_rfl) enc hk R.h1 cf g cb blk off cap a b d W eg (Vh S R.hblk hC hs.symm) (S.holds R.hblk R.hH hs.symm) (S.lt R.hblk) hab hb hsz
 have hf:ai2.f 20=111:=rfl
 rw [hf] at h
 refine h.mono ?_
 rintro e w' ⟨rfl,n,os,rfl⟩
 have hi:=insertionSort_holds hS d a b hab hb
 exact ⟨rfl,_,S.on R.hblk n _ os hi.1.1,hi.1.1,hi.1,hi.2⟩
end
variable {α:Type} [Inhabited α] {k:Nat} {enc:α→List Value} {blk off:Nat} {d0:Array α} {w0:World} {cf:α→α→Int}
def InsSaid (P:Program) {α:Type} [Inhabited α] (k:Nat) (enc:α→List Value) (blk off:Nat) (w0:World) (cf:α→α→Int) (g:Nat) (cb:Array Value) (cap n:Nat):Prop:=
 ∀ (d:Array α) (w:World) (az bz:Int) (a b:Nat),az=a→bz=b→d.size=n→SWK enc k w0 blk off d w→a≤b→b≤n →
  Calls P 111 #[.slice (some ⟨blk,off,none⟩) n cap,.int .i64 az,.int .i64 bz,.func (.func g) #[] cb] w (zf d (ltOf cf) a b enc k w0 blk off)
theorem Qs (g:Nat) (cb:Array Value) (cap:Nat) (n:Nat) (d:Array α) (w:World) (HI:InsSaid Tryz.prog k enc blk off w0 cf g cb cap n) (hdn:d.size=n) (hn:n<20) (S:SWK enc k w0 blk off d w) :
  Calls Tryz.prog 67 #[.slice (some ⟨blk,off,none⟩) n cap,.int .i64 n,.func (.func g) #[] cb] w (zf d (ltOf cf) 0 n enc k w0 blk off):=by
 have HIn:=hid HI
 have S0:=hid S
 have HDN:=hid hdn
 have hltz:¬ (20:Int)≤(n:Int):=by omega
 have hlt2:¬ (20:Int)<(n:Int):=by omega
 clear S HI hdn
 go_enter Tryz.func67,Tryz.ntmps67
 go_wp2_with fail
 go_loopw [7,8] (fun s7 s8 wr=>s7=.int .i64 0∧s8=.int .i64 20∧w=wr) (fun _ _ _=>0)
 case atStart=>exact ⟨rfl,rfl,rfl⟩
 case round =>
  obtain ⟨rfl,rfl,rfl⟩:=hrel
  go_upto_region 7 with (go_at_call 111; refine (HIn.out d w 0 n 0 n (by simp) rfl HDN.out S0.out (Nat.zero_le _) (Nat.le_refl _)).mono ?_; rintro e' w' ⟨rfl,d1,S2',z1,p1,s1⟩)
  have HF:=hid (show zf d (ltOf cf) 0 n enc k w0 blk off (.returned (.tuple #[])) w' from ⟨rfl,d1,S2',z1,p1,s1⟩)
  clear S2' z1 p1 s1
  go_wp2_with fail
  go_loopw [6] (fun s6 wr=>s6=.int .i64 20∧w'=wr) (fun _ _=>0)
  case atStart=>exact ⟨rfl,rfl⟩
  case round =>
   obtain ⟨rfl,rfl⟩:=hrel
   go_wp2_with fail
   first | go_end0 | go_ret
   exact HF.out
theorem Zy (g:Nat) (cb:Array Value) (cap:Nat) (n:Nat) (d:Array α) (w:World) (HI:InsSaid Tryz.prog k enc blk off w0 cf g cb cap n) (hdn:d.size=n) (hn:n<20) (S:SWK enc k w0 blk off d w) :
  Calls Tryz.prog 27 #[.slice (some ⟨blk,off,none⟩) n cap,.func (.func g) #[] cb] w (zf d (ltOf cf) 0 n enc k w0 blk off):=by
 have sJ:=hid (Qs g cb cap n d w HI hdn hn S)
 clear S HI
 go_enter Tryz.func27,Tryz.ntmps27
 go_wp2_with (go_at_call 67; refine sJ.out.mono ?_; rintro e' w' ⟨rfl,h⟩)
 first | go_end0 | go_ret
 exact ⟨rfl,h⟩
theorem EM:SortRowsSaid:=by
 intro base g cap rs w h1 h32 hown
 have hlt:g<w.heap.size:=(hown.lt g rfl).2
 have R:RowK encR 8 w g 0 rs.toArray:=⟨fun _=>rfl,NJ,Hw hown,hlt⟩
 have S:=SWK.start (Hw hown)
 have hC:CmpLays Tryz.prog 28 #[] encR 8 Bh g 0 rs.toArray.size w:=fun m os dk _ x y=>by
  have:=Ho x y (sortWorldK encR 8 w g 0 m dk os)
  simpa using this
 have eg:∀ args w,(callFunc 28 args).run Tryz.prog w=.ok (.enter 28 args) w:=enters_of Tryz.func28 (by kernel_rfl) rfl
 have hsz:rs.toArray.size=rs.length:=by simp
 have HI:InsSaid Tryz.prog 8 encR g 0 w Bh 28 #[] cap rs.length:=fun d w1 az bz a b ha hb hd S1 hab hbn=>by
  subst ha; subst hb
  rw [← hd]
  exact ins_any (fun _=>rfl) cap #[] _ hC eg Sm R (by rw [hsz,hd]) S1 a b hab (by omega) (by omega)
 refine (Zy _ #[] cap rs.length rs.toArray w HI hsz h32 S).mono ?_
 rintro e w' ⟨rfl,d',⟨n,os,rfl⟩,hz,hp,hs⟩
 obtain ⟨ts,rfl⟩:∃ ts:List dO,d'=ts.toArray:=⟨d'.toList,by simp⟩
 have hl:ts.length=rs.length:=by simpa using hz
 have hperm:ts.Perm rs:=by
  have:=hp.2.2
  simpa [List.take_of_length_le (Nat.le_of_eq hl),hl] using this
 obtain ⟨o1,o2⟩:=ab8 (n:=n) (os:=os) hown hl
 refine ⟨rfl,ts,hl,hperm,fun i j hi hj hij=>?_,o1,o2⟩
 have:=hs i j (Nat.zero_le _) hij (by omega)
 rwa [getElem!_pos ts.toArray j (by simpa using hj),getElem!_pos ts.toArray i (by simpa using hi)] at this
end Go.Proofs.YteablcielclaeaaGreatDoor

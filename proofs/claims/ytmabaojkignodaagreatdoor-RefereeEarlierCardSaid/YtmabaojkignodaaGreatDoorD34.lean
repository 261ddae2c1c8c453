/- ReC, RfD, ReD. -/
import Derived.Test.YtmabaojkignodaaGreatDoorD33
namespace Go.Proofs.YtmabaojkignodaaGreatDoor
open Go.ChangeShapes Go.WideShapes Go.ChangeAt Go.RowKit
set_option linter.unusedVariables false
open Go.Lib (hid)
def aaU (aaW:Int) (c:oD):Int:=if aaW<c.since then c.since else aaW
def aas (CR:nJ) (x y:aG) (aaW kd pl nn:Int) (m:aN):Bool:=
 if kd=0 then kS y pl m else if kd=1 then decide (nn≤aaL CR x.clk pl (aaU aaW x.clk)) else if kd=2 then (aV CR x.clk (aaU aaW x.clk)).ak == pl else if kd=3 then x.res != 0 else (if nn=0 then x.off.b0 else x.off.b1) == pl
set_option maxRecDepth 100000 in
set_option maxHeartbeats 16000000 in
theorem aau (HSo:SortMvSaid) (R:aC) (CR:nJ) (vp vs ve:Value) (pa:Option Addr) (pc:Nat) (bb:Nat) (v:Value) (l:List qX) (i j:Nat) (kd pl nn:Int) (m:aN) (w:World) (hr:ru w R vp vs ve) (hrow:w.ownsRow bb 209 26 v l.length (kR l))
  (hi:i<l.length) (hj:j<l.length) (hij:(j=0∧i=0)∨i=j+1) (hl:l.length≤100) (h1:∀ x∈l,Zj x) (hR:l[j].M.R=R) (hpos:pX w l[j].M.pos l[j].vc l[j].v0 l[j].v1) (hok:nV l[j].M.R l[j].M.pos) (hkd:0≤kd∧kd≤4) (hkn:kd=4→nn=0∨nn=1) (hpl:pl=0∨pl=1) (hcr:xU CR) (abl:clk.dV w w.heap.size pa CR.ps.length CR.ps) (hck:qV CR l[i].M.clk) (hnw:l[i].now≤100000000) :
  Calls Tryz.prog 65 #[.agg #[.string R.name,.int .i64 R.width,.int .i64 R.height,vp,vs,.bool R.falls,.bool R.keeps,ve,.int .i64 R.blocked,.int .i64 R.quiet,.int .i64 R.bF],.agg #[.slice pa CR.ps.length pc,.int .i64 CR.inc,.int .i64 CR.delay],v,.agg #[.int .i64 kd,.int .i64 (i:Int),.int .i64 pl,.int .i64 nn,.int .i64 m.src,.int .i64 m.dst,.int .i64 m.piece]] w fun e w'=>e=.returned (.bool (aas CR l[i].M l[j].M l[i].now kd pl nn m))∧Below w.heap.size w w':=by
 have HS:=hid HSo
 have HR:=hid hr
 have hgx:∃ g c,v=.slice (some ⟨g,0,none⟩) l.length c∧g<w.heap.size∧l.length≤c∧c≤maxLen∧∀ k (hk:k<l.length),w.rangeAt g (k * 26) (fC l[k]):=by
  rcases hrow.2 with ⟨_,h0⟩ | ⟨g,c,cur,rfl,hb,hg,hn,hm,hs,ht⟩
  ·omega
  ·refine ⟨g,c,rfl,(hrow.lt g rfl).2,hn,hm,fun k hk q u hq=>?_⟩
   have afO:q<26:=by have:=(List.getElem?_eq_some_iff.1 hq).1; exact this
   have:=hrow.cellAt (k * 26+q) (by omega)
   rw [this,Ox l k q hk afO]
   exact hq
 obtain ⟨g,c,rfl,hg,hc1,hc2,hrg⟩:=hgx
 unfold maxLen at hc2
 have hGx:=hrg i hi
 have hGy:=hrg j hj
 have Hx1:=hid (h1 _ (List.getElem_mem hi))
 have Hy1:=hid (h1 _ (List.getElem_mem hj))
 have afP:=hid hpos
 have CX:=hid hok
 have HRR:=hid hR
 have HCr:=hid hcr
 have adX:=hid abl
 have FT:=hid hck
 have HNw:=hid hnw
 generalize l[i]=x at *
 generalize l[j]=y at *
 have hil:(i:Int)<(l.length:Int):=by omega
 have hjl:(j:Int)<(l.length:Int):=by omega
 have hw1:IntKind.i64.wrap ((i:Int) - 1)=(i:Int) - 1:=by rw [IntKind.wrap_i64] <;> omega
 have hmx:(if (i:Int) - 1<0 then (0:Int) else (i:Int) - 1)=(j:Int):=by split <;> omega
 clear HSo hr hrow h1 hR hpos hok hrg hij hcr abl hck hnw
 go_enter Tryz.func65,Tryz.ntmps65
 go_upto_region 1 with (fail)
 have HX0:=hid (((Box.new' w w.heap.size [.string R.name,.int .i64 R.width,.int .i64 R.height,vp,vs,.bool R.falls,.bool R.keeps,ve,.int .i64 R.blocked,.int .i64 R.quiet,.int .i64 R.bF] 46 rfl).alloc (.cells #[.slice pa CR.ps.length pc,.int .i64 CR.inc,.int .i64 CR.delay] 49)).alloc (.cells #[.int .i64 kd,.int .i64 (i:Int),.int .i64 pl,.int .i64 nn,.int .i64 m.src,.int .i64 m.dst,.int .i64 m.piece] 86))
 have dn:=hid ((Box.new' (w.alloc (.cells #[.string R.name,.int .i64 R.width,.int .i64 R.height,vp,vs,.bool R.falls,.bool R.keeps,ve,.int .i64 R.blocked,.int .i64 R.quiet,.int .i64 R.bF] 46)) (w.heap.size+1) [.slice pa CR.ps.length pc,.int .i64 CR.inc,.int .i64 CR.delay] 49 (by simp)).alloc (.cells #[.int .i64 kd,.int .i64 (i:Int),.int .i64 pl,.int .i64 nn,.int .i64 m.src,.int .i64 m.dst,.int .i64 m.piece] 86))
 have jH:=hid (Box.new' ((w.alloc (.cells #[.string R.name,.int .i64 R.width,.int .i64 R.height,vp,vs,.bool R.falls,.bool R.keeps,ve,.int .i64 R.blocked,.int .i64 R.quiet,.int .i64 R.bF] 46)).alloc (.cells #[.slice pa CR.ps.length pc,.int .i64 CR.inc,.int .i64 CR.delay] 49)) (w.heap.size+2) [.int .i64 kd,.int .i64 (i:Int),.int .i64 pl,.int .i64 nn,.int .i64 m.src,.int .i64 m.dst,.int .i64 m.piece] 86 (by simp))
 have HB:Hid (Below w.heap.size w (((w.alloc (.cells #[.string R.name,.int .i64 R.width,.int .i64 R.height,vp,vs,.bool R.falls,.bool R.keeps,ve,.int .i64 R.blocked,.int .i64 R.quiet,.int .i64 R.bF] 46)).alloc (.cells #[.slice pa CR.ps.length pc,.int .i64 CR.inc,.int .i64 CR.delay] 49)).alloc (.cells #[.int .i64 kd,.int .i64 (i:Int),.int .i64 pl,.int .i64 nn,.int .i64 m.src,.int .i64 m.dst,.int .i64 m.piece] 86))):=hid ((((Below.refl w.heap.size w).alloc (Nat.le_refl _) _).alloc (by simp) _).alloc (by simp; omega) _)
 have HZ:Hid (w.heap.size+3≤(((w.alloc (.cells #[.string R.name,.int .i64 R.width,.int .i64 R.height,vp,vs,.bool R.falls,.bool R.keeps,ve,.int .i64 R.blocked,.int .i64 R.quiet,.int .i64 R.bF] 46)).alloc (.cells #[.slice pa CR.ps.length pc,.int .i64 CR.inc,.int .i64 CR.delay] 49)).alloc (.cells #[.int .i64 kd,.int .i64 (i:Int),.int .i64 pl,.int .i64 nn,.int .i64 m.src,.int .i64 m.dst,.int .i64 m.piece] 86)).heap.size):=hid (by simp)
 generalize (((w.alloc (.cells #[.string R.name,.int .i64 R.width,.int .i64 R.height,vp,vs,.bool R.falls,.bool R.keeps,ve,.int .i64 R.blocked,.int .i64 R.quiet,.int .i64 R.bF] 46)).alloc (.cells #[.slice pa CR.ps.length pc,.int .i64 CR.inc,.int .i64 CR.delay] 49)).alloc (.cells #[.int .i64 kd,.int .i64 (i:Int),.int .i64 pl,.int .i64 nn,.int .i64 m.src,.int .i64 m.dst,.int .i64 m.piece] 86))=wq at *
 have Gxz:wq.drew.rangeAt g (i * 26) (fC x):=gu hGx (aA HB.out) hg
 have Gyz:wq.drew.rangeAt g (j * 26) (fC y):=gu hGy (aA HB.out) hg
 have OO:=HX0.out.drew
 have Zh:=dn.out.drew
 have WJ:=jH.out.drew
 have Lz:Below w.heap.size w wq.drew:=aA HB.out
 have XJ:g<wq.drew.heap.size:=Nat.lt_of_lt_of_le hg Lz.size
 have zy:Hid (g<wq.heap.size∧w.heap.size+3≤wq.heap.size):=hid ⟨XJ,HZ.out⟩
 clear HX0 dn jH HB HZ hGx hGy
 refine' Zk (F:=fun wx b9 b10=>Hid (Box wx b9 (fC x) 209)∧Hid (Box wx b10 (fC y) 209)∧Hid (Box wx w.heap.size [.string R.name,.int .i64 R.width,.int .i64 R.height,vp,vs,.bool R.falls,.bool R.keeps,ve,.int .i64 R.blocked,.int .i64 R.quiet,.int .i64 R.bF] 46)∧Hid (Box wx (w.heap.size+1) [.slice pa CR.ps.length pc,.int .i64 CR.inc,.int .i64 CR.delay] 49)∧Hid (Box wx (w.heap.size+2) [.int .i64 kd,.int .i64 (i:Int),.int .i64 pl,.int .i64 nn,.int .i64 m.src,.int .i64 m.dst,.int .i64 m.piece] 86)∧Hid (Below w.heap.size w wx)) ?main ?rest
 case main =>
  intro key
  refine wp_region_noPanic ?_
  refine bG (S:=(fun w'=>w'.rangeAt g (i * 26) (fC x)∧w'.rangeAt g (j * 26) (fC y)∧w'.cell? ⟨w.heap.size+2,1,none⟩=some (.int .i64 (i:Int)))) (L:=[]) (by kernel_rfl) ⟨Gxz,Gyz,WJ.cell 1 rfl⟩ (fun hHeld=>?_)
  refine aF 0 ?_
  refine aF 1 ?_
  refine aF 5 ?_
  refine aF 6 ?_
  refine dL 2 ?_
  refine dL 7 ?_
  refine aF 3 ?_
  refine aF 8 ?_
  try simp only [Act.put,qw,qx,qy]
  refine FV (i:=4) (v:=.agg (fC x).toArray) rfl (by kernel_rfl) (by kernel_rfl) (by kernel_rfl) (by kernel_rfl) rfl (by kernel_rfl) (by kernel_rfl) (fun _ _ _ h=>h) (yieldsIf_load_mid (by rfl) 209 (.tmp 19) (by rfl) g (i * 26) (by rfl) (fC x) _ (fun _ hw=>hw.1) Tryz.underlying209 (by rfl) (by kernel_rfl)) (by assumption) ?_
  refine aF 9 ?_
  refine aF 10 ?_
  try simp only [Act.put,qw,qx,qy]
  refine FV (i:=11) (v:=.agg (fC y).toArray) rfl (by kernel_rfl) (by kernel_rfl) (by kernel_rfl) (by kernel_rfl) rfl (by kernel_rfl) (by kernel_rfl) (fun _ _ _ h=>h) (yieldsIf_load_mid (by rfl) 209 (.tmp 26) (by rfl) g (j * 26) (by rfl) (fC y) _ (fun _ hw=>hw.2.1) Tryz.underlying209 (by rfl) (by kernel_rfl)) (by assumption) ?_
  refine IL (rs:=[12,13]) ?_
  refine (aO.cons (by first | (simp only [List.getElem?_toArray,List.getElem?_cons_zero,List.getElem?_cons_succ] <;> rfl) | rfl) (fun K hK=>?_) (aO.cons (by first | (simp only [List.getElem?_toArray,List.getElem?_cons_zero,List.getElem?_cons_succ] <;> rfl) | rfl) (fun K hK=>?_) aO.nil))
  ·skip
   go_simp
   refine aK ?_
   intro w12 e12
   have iR:Below (wq.drew).heap.size (wq.drew) w12:=by rw [e12]; exact (Below.refl _ _).alloc (Nat.le_refl _) _
   have Tt:w12.rangeAt g (i * 26) (fC x):=gu Gxz iR (by have:=XJ; omega)
   have Tv:w12.rangeAt g (j * 26) (fC y):=gu Gyz iR (by have:=XJ; omega)
   have Zl:=OO.stays iR
   have Zm:=Zh.stays iR
   have Tz:=WJ.stays iR
   have lQ:=Lz.trans (iR.mono Lz.size)
   have KI:g<w12.heap.size:=Nat.lt_of_lt_of_le XJ iR.size
   have Po:Box w12 wq.heap.size yV 209:=by rw [e12]; exact Box.new (wq.drew) _ _
   clear e12
   refine hK.out _ _ ⟨Tt,Tv,Tz.cell 1 rfl⟩ (fun hHeld=>?_)
   clear hK K
   refine dO 13 fun K hK=>?_
   go_simp
   refine aK ?_
   intro jY e13
   have jl:Below (w12).heap.size (w12) jY:=by rw [e13]; exact (Below.refl _ _).alloc (Nat.le_refl _) _
   have TA:jY.rangeAt g (i * 26) (fC x):=gu Tt jl (by have:=KI; omega)
   have TB:jY.rangeAt g (j * 26) (fC y):=gu Tv jl (by have:=KI; omega)
   have Zn:=Zl.stays jl
   have Zo:=Zm.stays jl
   have TD:=Tz.stays jl
   have NI:=lQ.trans (jl.mono lQ.size)
   have KJ:g<jY.heap.size:=Nat.lt_of_lt_of_le KI jl.size
   have Yw:Box jY w12.heap.size yV 209:=by rw [e13]; exact Box.new (w12) _ _
   clear e13
   have TF:=Po.stays jl
   have hd:wq.heap.size<w12.heap.size:=Po.lt
   refine hK.out _ _ ⟨TA,TB,TD.cell 1 rfl⟩ (fun hHeld=>?_)
   clear hK K
   refine dO 14 fun K hK=>?_
   rw [if_pos (by rfl)]
   refine wp_store_mid 209 (.tmp 9) (.tmp 20) (by rfl) wq.heap.size 0 (fC x).toArray (by rfl) (by rfl) (TF.has 0 26 (by simp [yV])) (by kernel_rfl) (zN x Hx1.out) ?_
   refine aK ?_
   intro mM e14
   have uS:Fr (fun q=>q=wq.heap.size) jY mM:=by rw [e14]; exact (Fr.refl (fun q=>q=wq.heap.size) _).setCells (b:=wq.heap.size) rfl 0 _
   have P14:Box mM wq.heap.size (fC x) 209:=by rw [e14]; exact TF.store rfl
   have TG:=Yw.held uS (by omega)
   have TI:mM.rangeAt g (i * 26) (fC x):=lI TA uS KJ (by have:=zy.out; omega)
   have TJ:mM.rangeAt g (j * 26) (fC y):=lI TB uS KJ (by have:=zy.out; omega)
   have Zp:=Zn.held uS (by have:=zy.out; omega)
   have Zq:=Zo.held uS (by have:=zy.out; omega)
   have TK:=TD.held uS (by have:=zy.out; omega)
   have zf:Below w.heap.size w mM:=by rw [e14]; exact below_setCells NI (by have:=zy.out; omega) 0 _
   have KN:g<mM.heap.size:=Nat.lt_of_lt_of_le KJ uS.size
   clear e14
   refine hK.out _ _ ⟨TI,TJ,TK.cell 1 rfl⟩ (fun hHeld=>?_)
   clear hK K
   refine dO 15 fun K hK=>?_
   rw [if_pos (by rfl)]
   refine wp_store_mid 209 (.tmp 10) (.tmp 27) (by rfl) w12.heap.size 0 (fC y).toArray (by rfl) (by rfl) (TG.has 0 26 (by simp [yV])) (by kernel_rfl) (zN y Hy1.out) ?_
   refine aK ?_
   intro mZ e15
   have uT:Fr (fun q=>q=w12.heap.size) mM mZ:=by rw [e15]; exact (Fr.refl (fun q=>q=w12.heap.size) _).setCells (b:=w12.heap.size) rfl 0 _
   have Sm:Box mZ w12.heap.size (fC y) 209:=by rw [e15]; exact TG.store rfl
   have Zr:=P14.held uT (by omega)
   have Zt:mZ.rangeAt g (i * 26) (fC x):=lI TI uT KN (by have:=zy.out; omega)
   have Zu:mZ.rangeAt g (j * 26) (fC y):=lI TJ uT KN (by have:=zy.out; omega)
   have Zv:=Zp.held uT (by have:=zy.out; omega)
   have Zw:=Zq.held uT (by have:=zy.out; omega)
   have TL:=TK.held uT (by have:=zy.out; omega)
   have xA:Below w.heap.size w mZ:=by rw [e15]; exact below_setCells zf (by have:=zy.out; omega) 0 _
   have afQ:g<mZ.heap.size:=Nat.lt_of_lt_of_le KN uT.size
   clear e15
   refine hK.out _ _ ⟨Zt,Zu,TL.cell 1 rfl⟩ (fun hHeld=>?_)
   clear hK K
   refine iE ?_
   have key2:=fun (b9 b10:Nat) (h9:wq.heap.size=b9) (h10:w12.heap.size=b10)=>key mZ b9 b10 ⟨hid (by rw [← h9]; exact Zr),hid (by rw [← h10]; exact Sm),hid Zv,hid Zw,hid TL,hid xA⟩
   obtain ⟨b9,h9⟩:∃ b9,wq.heap.size=b9:=⟨_,rfl⟩
   obtain ⟨b10,h10⟩:∃ b10,w12.heap.size=b10:=⟨_,rfl⟩
   have Zx:=key2 b9 b10 h9 h10
   rw [h9,h10]
   exact Zx
  ·skip
   go_simp
   refine aK ?_
   intro jY e13
   have jl:Below (wq.drew).heap.size (wq.drew) jY:=by rw [e13]; exact (Below.refl _ _).alloc (Nat.le_refl _) _
   have TA:jY.rangeAt g (i * 26) (fC x):=gu Gxz jl (by have:=XJ; omega)
   have TB:jY.rangeAt g (j * 26) (fC y):=gu Gyz jl (by have:=XJ; omega)
   have Zn:=OO.stays jl
   have Zo:=Zh.stays jl
   have TD:=WJ.stays jl
   have NI:=Lz.trans (jl.mono Lz.size)
   have KJ:g<jY.heap.size:=Nat.lt_of_lt_of_le XJ jl.size
   have Yw:Box jY wq.heap.size yV 209:=by rw [e13]; exact Box.new (wq.drew) _ _
   clear e13
   refine hK.out _ _ ⟨TA,TB,TD.cell 1 rfl⟩ (fun hHeld=>?_)
   clear hK K
   refine dO 12 fun K hK=>?_
   go_simp
   refine aK ?_
   intro w12 e12
   have iR:Below (jY).heap.size (jY) w12:=by rw [e12]; exact (Below.refl _ _).alloc (Nat.le_refl _) _
   have Tt:w12.rangeAt g (i * 26) (fC x):=gu TA iR (by have:=KJ; omega)
   have Tv:w12.rangeAt g (j * 26) (fC y):=gu TB iR (by have:=KJ; omega)
   have Zl:=Zn.stays iR
   have Zm:=Zo.stays iR
   have Tz:=TD.stays iR
   have lQ:=NI.trans (iR.mono NI.size)
   have KI:g<w12.heap.size:=Nat.lt_of_lt_of_le KJ iR.size
   have Po:Box w12 jY.heap.size yV 209:=by rw [e12]; exact Box.new (jY) _ _
   clear e12
   have Zy:=Yw.stays iR
   have hd:wq.heap.size<jY.heap.size:=Yw.lt
   refine hK.out _ _ ⟨Tt,Tv,Tz.cell 1 rfl⟩ (fun hHeld=>?_)
   clear hK K
   refine dO 14 fun K hK=>?_
   rw [if_pos (by rfl)]
   refine wp_store_mid 209 (.tmp 9) (.tmp 20) (by rfl) jY.heap.size 0 (fC x).toArray (by rfl) (by rfl) (Po.has 0 26 (by simp [yV])) (by kernel_rfl) (zN x Hx1.out) ?_
   refine aK ?_
   intro mM e14
   have uS:Fr (fun q=>q=jY.heap.size) w12 mM:=by rw [e14]; exact (Fr.refl (fun q=>q=jY.heap.size) _).setCells (b:=jY.heap.size) rfl 0 _
   have P14:Box mM jY.heap.size (fC x) 209:=by rw [e14]; exact Po.store rfl
   have TG:=Zy.held uS (by omega)
   have TI:mM.rangeAt g (i * 26) (fC x):=lI Tt uS KI (by have:=zy.out; omega)
   have TJ:mM.rangeAt g (j * 26) (fC y):=lI Tv uS KI (by have:=zy.out; omega)
   have Zp:=Zl.held uS (by have:=zy.out; omega)
   have Zq:=Zm.held uS (by have:=zy.out; omega)
   have TK:=Tz.held uS (by have:=zy.out; omega)
   have zf:Below w.heap.size w mM:=by rw [e14]; exact below_setCells lQ (by have:=zy.out; omega) 0 _
   have KN:g<mM.heap.size:=Nat.lt_of_lt_of_le KI uS.size
   clear e14
   refine hK.out _ _ ⟨TI,TJ,TK.cell 1 rfl⟩ (fun hHeld=>?_)
   clear hK K
   refine dO 15 fun K hK=>?_
   rw [if_pos (by rfl)]
   refine wp_store_mid 209 (.tmp 10) (.tmp 27) (by rfl) wq.heap.size 0 (fC y).toArray (by rfl) (by rfl) (TG.has 0 26 (by simp [yV])) (by kernel_rfl) (zN y Hy1.out) ?_
   refine aK ?_
   intro mZ e15
   have uT:Fr (fun q=>q=wq.heap.size) mM mZ:=by rw [e15]; exact (Fr.refl (fun q=>q=wq.heap.size) _).setCells (b:=wq.heap.size) rfl 0 _
   have Sm:Box mZ wq.heap.size (fC y) 209:=by rw [e15]; exact TG.store rfl
   have Zr:=P14.held uT (by omega)
   have Zt:mZ.rangeAt g (i * 26) (fC x):=lI TI uT KN (by have:=zy.out; omega)
   have Zu:mZ.rangeAt g (j * 26) (fC y):=lI TJ uT KN (by have:=zy.out; omega)
   have Zv:=Zp.held uT (by have:=zy.out; omega)
   have Zw:=Zq.held uT (by have:=zy.out; omega)
   have TL:=TK.held uT (by have:=zy.out; omega)
   have xA:Below w.heap.size w mZ:=by rw [e15]; exact below_setCells zf (by have:=zy.out; omega) 0 _
   have afQ:g<mZ.heap.size:=Nat.lt_of_lt_of_le KN uT.size
   clear e15
   refine hK.out _ _ ⟨Zt,Zu,TL.cell 1 rfl⟩ (fun hHeld=>?_)
   clear hK K
   refine iE ?_
   have key2:=fun (b9 b10:Nat) (h9:jY.heap.size=b9) (h10:wq.heap.size=b10)=>key mZ b9 b10 ⟨hid (by rw [← h9]; exact Zr),hid (by rw [← h10]; exact Sm),hid Zv,hid Zw,hid TL,hid xA⟩
   obtain ⟨b9,h9⟩:∃ b9,jY.heap.size=b9:=⟨_,rfl⟩
   obtain ⟨b10,h10⟩:∃ b10,wq.heap.size=b10:=⟨_,rfl⟩
   have Zx:=key2 b9 b10 h9 h10
   rw [h9,h10]
   exact Zx
 case rest =>
  rintro wx b9 b10 ⟨HA9,ZA,HX0,dn,jH,HB⟩
  clear Gxz Gyz OO Zh WJ Lz XJ zy hw1 hmx
  have a25:=HA9.out.cell 25 rfl
  have a10:=HA9.out.cell 10 rfl
  have q0:=jH.out.cell 0 rfl
  obtain ⟨mx,hmx⟩:∃ mx,(if x.now<x.M.clk.since then x.M.clk.since else x.now)=mx:=⟨_,rfl⟩
  have Uz:Hid (aaU x.now x.M.clk=mx):=hid hmx
  have HMb:Hid (x.M.clk.since≤mx∧mx≤100000000):=hid (by
   have h1:=FT.out.s
   have h2:=HNw.out
   rw [← hmx]; split <;> omega)
  have hk5:kd=1∨kd=2∨kd=3∨kd=4∨kd=0:=by omega
  clear hkd
  rcases hk5 with rfl | rfl | rfl | rfl | rfl
  ·obtain ⟨q,hq,rfl⟩:∃ q:Nat,q<2∧pl=(q:Int):=by rcases hpl with rfl | rfl; exact ⟨0,by omega,rfl⟩; exact ⟨1,by omega,rfl⟩
   have HV:Hid (aas CR x.M y.M x.now 1 (q:Int) nn m=decide (nn≤aaL CR x.M.clk (q:Int) mx)):=hid (by unfold aas; rw [Uz.out]; rfl)
   go_upto_region 7 with (fail)
   have Gu:=hid (aaT CR x.M.clk q mx pa pc wx HCr.out FT.out HMb.out.1 HMb.out.2 hq (adX.out.below HB.out))
   have a3:=HA9.out.cell 3 rfl
   have a4:=HA9.out.cell 4 rfl
   have a5:=HA9.out.cell 5 rfl
   have a6:=HA9.out.cell 6 rfl
   have a7:=HA9.out.cell 7 rfl
   have a8:=HA9.out.cell 8 rfl
   have a9:=HA9.out.cell 9 rfl
   have a11:=HA9.out.cell 11 rfl
   have a12:=HA9.out.cell 12 rfl
   have q2:=jH.out.cell 2 rfl
   clear a25 q0 hmx
   refine wp_region_lit ?_
   refine aB (by rfl) 49 (.tmp 5) (by rfl) (w.heap.size+1) (by rfl) dn.out Tryz.underlying49 (by rfl) (by kernel_rfl) ?_
   go_wp2_with fail
   refine Gu.out.mono ?_
   rintro e w5 ⟨rfl,hb5⟩
   have mW:=hid (HB.out.trans (hb5.mono HB.out.size))
   have q3:=(jH.out.stays hb5).cell 3 rfl
   clear hb5 a10 a3 a4 a5 a6 a7 a8 a9 a11 a12 q2 Gu
   go_wp2_with fail
   go_ret
   exact ⟨by rw [HV.out]; rfl,mW.out⟩
  ·have HV:Hid (aas CR x.M y.M x.now 2 pl nn m=((aV CR x.M.clk mx).ak == pl)):=hid (by unfold aas; rw [Uz.out]; rfl)
   go_upto_region 10 with (fail)
   have Wh:=hid (sK CR x.M.clk mx pa pc wx HCr.out FT.out HMb.out.1 HMb.out.2 (adX.out.below HB.out))
   unfold Bc at Wh
   have a3:=HA9.out.cell 3 rfl
   have a4:=HA9.out.cell 4 rfl
   have a5:=HA9.out.cell 5 rfl
   have a6:=HA9.out.cell 6 rfl
   have a7:=HA9.out.cell 7 rfl
   have a8:=HA9.out.cell 8 rfl
   have a9:=HA9.out.cell 9 rfl
   have a11:=HA9.out.cell 11 rfl
   have a12:=HA9.out.cell 12 rfl
   clear a25 q0 hmx
   refine wp_region_lit ?_
   refine aB (by rfl) 49 (.tmp 5) (by rfl) (w.heap.size+1) (by rfl) dn.out Tryz.underlying49 (by rfl) (by kernel_rfl) ?_
   go_wp2_with fail
   refine Wh.out.mono ?_
   rintro e w5 ⟨rfl,hb5⟩
   have mW:=hid (HB.out.trans (hb5.mono HB.out.size))
   have abE:=hid (jH.out.stays hb5)
   clear hb5 a10 a3 a4 a5 a6 a7 a8 a9 a11 a12 Wh
   generalize aV CR x.M.clk mx=lc at *
   go_upto_region 11 with (fail)
   have HN:=hid (Box.new w5 [.int .i64 lc.l0,.int .i64 lc.l1,.int .i64 lc.m0,.int .i64 lc.m1,.int .i64 lc.p0,.int .i64 lc.p1,.int .i64 lc.turn,.int .i64 lc.since,.bool lc.st,.int .i64 lc.ak] 67)
   have zD:=hid (mW.out.alloc mW.out.size (.cells #[.int .i64 lc.l0,.int .i64 lc.l1,.int .i64 lc.m0,.int .i64 lc.m1,.int .i64 lc.p0,.int .i64 lc.p1,.int .i64 lc.turn,.int .i64 lc.since,.bool lc.st,.int .i64 lc.ak] 67))
   have ahb:=hid (abE.out.alloc (.cells #[.int .i64 lc.l0,.int .i64 lc.l1,.int .i64 lc.m0,.int .i64 lc.m1,.int .i64 lc.p0,.int .i64 lc.p1,.int .i64 lc.turn,.int .i64 lc.since,.bool lc.st,.int .i64 lc.ak] 67))
   generalize (w5.alloc (.cells #[.int .i64 lc.l0,.int .i64 lc.l1,.int .i64 lc.m0,.int .i64 lc.m1,.int .i64 lc.p0,.int .i64 lc.p1,.int .i64 lc.turn,.int .i64 lc.since,.bool lc.st,.int .i64 lc.ak] 67))=w6 at *
   have q2:=ahb.out.cell 2 rfl
   have n9:=HN.out.cell 9 rfl
   go_wp2_with fail
   go_ret
   exact ⟨by rw [HV.out]; rfl,zD.out⟩
  ·have HV:Hid (aas CR x.M y.M x.now 3 pl nn m=(x.M.res != 0)):=hid rfl
   have a1:=HA9.out.cell 1 rfl
   go_wp2_with fail
   go_ret
   exact ⟨by rw [HV.out]; rfl,HB.out⟩
  ·have HV:Hid (aas CR x.M y.M x.now 4 pl nn m=((if nn=0 then x.M.off.b0 else x.M.off.b1) == pl)):=hid rfl
   have a13:=HA9.out.cell 13 rfl
   have a14:=HA9.out.cell 14 rfl
   have q2:=jH.out.cell 2 rfl
   have q3:=jH.out.cell 3 rfl
   rcases hkn rfl with rfl | rfl
   ·go_upto_region 14 with (fail)
    go_quiet (fail)
    go_wp2_with fail
    go_ret
    exact ⟨by rw [HV.out]; rfl,below_drewN HB.out nq⟩
   ·go_upto_region 14 with (fail)
    go_quiet (fail)
    go_wp2_with fail
    go_ret
    exact ⟨by rw [HV.out]; rfl,below_drewN HB.out nq⟩
  have HDK:Hid (aas CR x.M y.M x.now 0 pl nn m=kS y.M pl m):=hid rfl
  go_upto_region 5 with (fail)
  clear a25 a10 q0 hmx Uz HMb
  obtain ⟨wr,hwr⟩:∃ wr,wr=wx:=⟨_,rfl⟩
  rw [← hwr] at ZA HX0 dn jH HB ⊢
  clear hwr HA9
  have OO:=HX0.out.drew
  have WJ:=jH.out.drew
  have Az:=ZA.out.drew
  have Lz:Below w.heap.size w wr.drew:=aA HB.out
  have HRz:=hid (HR.out.below Lz (Nat.le_refl _))
  have zx:=hid (afP.out.below Lz (Nat.le_refl _))
  clear HX0 dn jH ZA HB
  by_cases hr0:y.M.res=0
  rotate_left
  ·have HV:Hid (kS y.M pl m=false):=hid (by unfold kS; rw [show (y.M.res == 0)=false by simpa using hr0]; rfl)
   have hrb:(y.M.res == 0)=false:=by simpa using hr0
   clear hr0
   refine wp_region_noPanic ?_
   refine bG (S:=(fun w'=>w'.cell? ⟨w.heap.size,0,none⟩=some (.string R.name)∧w'.cell? ⟨w.heap.size,1,none⟩=some (.int .i64 R.width)∧w'.cell? ⟨w.heap.size,2,none⟩=some (.int .i64 R.height)∧w'.cell? ⟨w.heap.size,3,none⟩=some vp∧w'.cell? ⟨w.heap.size,4,none⟩=some vs∧w'.cell? ⟨w.heap.size,5,none⟩=some (.bool R.falls)∧w'.cell? ⟨w.heap.size,6,none⟩=some (.bool R.keeps)∧w'.cell? ⟨w.heap.size,7,none⟩=some ve∧w'.cell? ⟨w.heap.size,8,none⟩=some (.int .i64 R.blocked)∧w'.cell? ⟨w.heap.size,9,none⟩=some (.int .i64 R.quiet)∧w'.cell? ⟨w.heap.size,10,none⟩=some (.int .i64 R.bF)∧w'.cell? ⟨b10,1,none⟩=some (.int .i64 y.M.res)∧w'.cell? ⟨b10,20,none⟩=some y.vc∧w'.cell? ⟨b10,21,none⟩=some y.v0∧w'.cell? ⟨b10,22,none⟩=some y.v1∧w'.cell? ⟨b10,23,none⟩=some (.int .i64 y.M.pos.turn)∧w'.cell? ⟨b10,24,none⟩=some (.int .i64 y.M.pos.quiet)∧w'.cell? ⟨w.heap.size+2,2,none⟩=some (.int .i64 pl)∧w'.cell? ⟨w.heap.size+2,4,none⟩=some (.int .i64 m.src)∧w'.cell? ⟨w.heap.size+2,5,none⟩=some (.int .i64 m.dst)∧w'.cell? ⟨w.heap.size+2,6,none⟩=some (.int .i64 m.piece))) (L:=[]) (by kernel_rfl) (by and_intros <;> first | exact OO.cell _ rfl | exact Az.cell _ rfl | exact WJ.cell _ rfl) (fun hHeld=>?_)
   refine aF 0 ?_
   refine aF 1 ?_
   refine dL 2 ?_
   refine aF 3 ?_
   refine aF 4 ?_
   refine lJ 5 ?_
   refine lJ 8 ?_
   refine lJ 6 ?_
   refine lJ 9 ?_
   refine lJ 7 ?_
   refine lJ 10 ?_
   refine aF 11 ?_
   refine aF 12 ?_
   refine lJ 13 ?_
   refine lJ 14 ?_
   refine lJ 17 ?_
   refine lJ 15 ?_
   refine lJ 18 ?_
   refine lJ 16 ?_
   refine lJ 19 ?_
   refine aF 20 ?_
   refine aF 21 ?_
   refine iE ?_
   have BP:=hid Lz
   clear hHeld
   go_wp2_with fail
   go_ret
   exact ⟨by rw [HDK.out,HV.out]; rfl,BP.out⟩
  have hrb:(y.M.res == 0)=true:=by simpa using hr0
  by_cases ht0:y.M.pos.turn=pl
  rotate_left
  ·have HV:Hid (kS y.M pl m=false):=hid (by unfold kS; rw [show (y.M.pos.turn == pl)=false by simpa using ht0]; simp)
   have htb:(y.M.pos.turn == pl)=false:=by simpa using ht0
   clear hr0 ht0
   refine wp_region_noPanic ?_
   refine bG (S:=(fun w'=>w'.cell? ⟨w.heap.size,0,none⟩=some (.string R.name)∧w'.cell? ⟨w.heap.size,1,none⟩=some (.int .i64 R.width)∧w'.cell? ⟨w.heap.size,2,none⟩=some (.int .i64 R.height)∧w'.cell? ⟨w.heap.size,3,none⟩=some vp∧w'.cell? ⟨w.heap.size,4,none⟩=some vs∧w'.cell? ⟨w.heap.size,5,none⟩=some (.bool R.falls)∧w'.cell? ⟨w.heap.size,6,none⟩=some (.bool R.keeps)∧w'.cell? ⟨w.heap.size,7,none⟩=some ve∧w'.cell? ⟨w.heap.size,8,none⟩=some (.int .i64 R.blocked)∧w'.cell? ⟨w.heap.size,9,none⟩=some (.int .i64 R.quiet)∧w'.cell? ⟨w.heap.size,10,none⟩=some (.int .i64 R.bF)∧w'.cell? ⟨b10,1,none⟩=some (.int .i64 y.M.res)∧w'.cell? ⟨b10,20,none⟩=some y.vc∧w'.cell? ⟨b10,21,none⟩=some y.v0∧w'.cell? ⟨b10,22,none⟩=some y.v1∧w'.cell? ⟨b10,23,none⟩=some (.int .i64 y.M.pos.turn)∧w'.cell? ⟨b10,24,none⟩=some (.int .i64 y.M.pos.quiet)∧w'.cell? ⟨w.heap.size+2,2,none⟩=some (.int .i64 pl)∧w'.cell? ⟨w.heap.size+2,4,none⟩=some (.int .i64 m.src)∧w'.cell? ⟨w.heap.size+2,5,none⟩=some (.int .i64 m.dst)∧w'.cell? ⟨w.heap.size+2,6,none⟩=some (.int .i64 m.piece))) (L:=[]) (by kernel_rfl) (by and_intros <;> first | exact OO.cell _ rfl | exact Az.cell _ rfl | exact WJ.cell _ rfl) (fun hHeld=>?_)
   refine aF 0 ?_
   refine aF 1 ?_
   refine dL 2 ?_
   refine aF 3 ?_
   refine aF 4 ?_
   refine aF 5 ?_
   refine aF 8 ?_
   refine aF 6 ?_
   refine dL 9 ?_
   refine dL 7 ?_
   refine aF 10 ?_
   refine aF 11 ?_
   refine aF 12 ?_
   refine lJ 13 ?_
   refine lJ 14 ?_
   refine lJ 17 ?_
   refine lJ 15 ?_
   refine lJ 18 ?_
   refine lJ 16 ?_
   refine lJ 19 ?_
   refine aF 20 ?_
   refine aF 21 ?_
   refine iE ?_
   have BP:=hid Lz
   clear hHeld
   go_wp2_with fail
   go_ret
   exact ⟨by rw [HDK.out,HV.out]; rfl,BP.out⟩
  have htb:(y.M.pos.turn == pl)=true:=by simpa using ht0
  have HV:Hid (kS y.M pl m=decide (m∈iF R y.M.pos)):=hid (by unfold kS; rw [hrb,htb,HRR.out]; simp)
  clear hr0 ht0
  refine wp_region_noPanic ?_
  refine bG (S:=(fun w'=>w'.cell? ⟨w.heap.size,0,none⟩=some (.string R.name)∧w'.cell? ⟨w.heap.size,1,none⟩=some (.int .i64 R.width)∧w'.cell? ⟨w.heap.size,2,none⟩=some (.int .i64 R.height)∧w'.cell? ⟨w.heap.size,3,none⟩=some vp∧w'.cell? ⟨w.heap.size,4,none⟩=some vs∧w'.cell? ⟨w.heap.size,5,none⟩=some (.bool R.falls)∧w'.cell? ⟨w.heap.size,6,none⟩=some (.bool R.keeps)∧w'.cell? ⟨w.heap.size,7,none⟩=some ve∧w'.cell? ⟨w.heap.size,8,none⟩=some (.int .i64 R.blocked)∧w'.cell? ⟨w.heap.size,9,none⟩=some (.int .i64 R.quiet)∧w'.cell? ⟨w.heap.size,10,none⟩=some (.int .i64 R.bF)∧w'.cell? ⟨b10,1,none⟩=some (.int .i64 y.M.res)∧w'.cell? ⟨b10,20,none⟩=some y.vc∧w'.cell? ⟨b10,21,none⟩=some y.v0∧w'.cell? ⟨b10,22,none⟩=some y.v1∧w'.cell? ⟨b10,23,none⟩=some (.int .i64 y.M.pos.turn)∧w'.cell? ⟨b10,24,none⟩=some (.int .i64 y.M.pos.quiet)∧w'.cell? ⟨w.heap.size+2,2,none⟩=some (.int .i64 pl)∧w'.cell? ⟨w.heap.size+2,4,none⟩=some (.int .i64 m.src)∧w'.cell? ⟨w.heap.size+2,5,none⟩=some (.int .i64 m.dst)∧w'.cell? ⟨w.heap.size+2,6,none⟩=some (.int .i64 m.piece))) (L:=[]) (by kernel_rfl) (by and_intros <;> first | exact OO.cell _ rfl | exact Az.cell _ rfl | exact WJ.cell _ rfl) (fun hHeld=>?_)
  refine aF 0 ?_
  refine aF 1 ?_
  refine dL 2 ?_
  refine aF 3 ?_
  refine aF 4 ?_
  refine aF 5 ?_
  refine aF 8 ?_
  refine aF 6 ?_
  refine dL 9 ?_
  refine dL 7 ?_
  refine aF 10 ?_
  refine aF 11 ?_
  refine aF 12 ?_
  refine dL 13 ?_
  refine aF 14 ?_
  refine aF 17 ?_
  refine dL 15 ?_
  refine dL 18 ?_
  refine dO 16 fun K hK=>?_
  go_simp
  refine (vV HS.out R vp vs ve y.M.pos y.vc y.v0 y.v1 _ HRz.out zx.out (by rw [← HRR.out]; exact CX.out)).mono ?_
  rintro e w16 ⟨v16,rfl,ZB,hbb⟩
  obtain ⟨a16,c16,rfl⟩:=aI ZB
  have aco:=OO.stays hbb
  have acp:=WJ.stays hbb
  have A16:=Az.stays hbb
  have kH:=Lz.trans (hbb.mono Lz.size)
  have R16:=kQ ZB
  clear ZB hbb
  refine hK.out _ _ (by and_intros <;> first | exact aco.cell _ rfl | exact A16.cell _ rfl | exact acp.cell _ rfl) (fun hHeld=>?_)
  clear hK K
  refine dO 19 fun K hK=>?_
  go_simp
  refine (lC _ m _ _ R16).mono ?_
  rintro e uX ⟨rfl,hbb⟩
  have afS:=aco.stays hbb
  have afT:=acp.stays hbb
  have A19:=A16.stays hbb
  have L19:=kH.trans (hbb.mono kH.size)
  clear hbb
  refine hK.out _ _ (by and_intros <;> first | exact afS.cell _ rfl | exact A19.cell _ rfl | exact afT.cell _ rfl) (fun hHeld=>?_)
  clear hK K
  refine aF 20 ?_
  refine aF 21 ?_
  refine iE ?_
  have U7:=hid L19
  clear hHeld
  go_wp2_with fail
  go_ret
  exact ⟨by rw [HDK.out,HV.out]; rfl,U7.out⟩
theorem Fh {w:World} {v:Value} {zs:List Int} (h:kM w v zs):v.oneCell'=true:=by
 obtain ⟨a,c,rfl,_⟩:=h.form
 rfl
theorem WL {w:World} {x:qX} (h:pX w x.M.pos x.vc x.v0 x.v1):Zj x:=⟨Fh h.1,Fh h.2.1,Fh h.2.2⟩
theorem acr (M:aG) (e:iY):(M.go e).1.R=M.R:=by
 unfold aG.go
 split
 ·rfl
 split
 ·rfl
 ·show (aG.over (aG.put (M.kind e).1 e)).R=_
  rw [(sS _).2.2.1]
  exact (jD M e).2.1
theorem TN:∀ (es:List iY) (M:aG),(goes M es).R=M.R
 | [],M=>rfl
 | e :: es,M=>(TN es (M.go e).1).trans (acr M e)
end Go.Proofs.YtmabaojkignodaaGreatDoor
namespace Go.Proofs.YtmabaojkignodaaGreatDoor
open Go.ChangeShapes Go.WideShapes Go.ChangeAt Go.RowKit
set_option linter.unusedVariables false
set_option maxHeartbeats 16000000
set_option maxRecDepth 100000
open Go.Lib (hid)
def aad (kd ev pl nn:Int) (n:Nat):Int:=if (kd<0∨4<kd∨(pl≠0∧pl≠1)∨ev<0∨(n:Int)≤ev)∨(kd=4∧nn≠0∧nn≠1) then 1 else 0
theorem check_any (kd ev pl nn:Int) (m:aN) (n:Nat) (w:World):Calls Tryz.prog 64 #[.agg #[.int .i64 kd,.int .i64 ev,.int .i64 pl,.int .i64 nn,.int .i64 m.src,.int .i64 m.dst,.int .i64 m.piece],.int .i64 (n:Int)] w fun e w'=>e=.returned (.int .i64 (aad kd ev pl nn n))∧Below w.heap.size w w':=by
 go_enter Tryz.func64,Tryz.ntmps64
 go_upto_region 1 with (fail)
 refine lM fun w0 jU dM hs_=>?_
 have HX:=hid jU
 have HB:=hid dM
 clear hs_ jU dM
 have c0:=HX.out.cell 0 rfl
 have c1:=HX.out.cell 1 rfl
 have c2:=HX.out.cell 2 rfl
 have c3:=HX.out.cell 3 rfl
 by_cases a1:kd<0
 ·skip
  have HV:Hid (aad kd ev pl nn n=1):=hid (by unfold aad; rw [if_pos (.inl (.inl a1))])
  try clear a7
  try clear a8
  try clear a9
  go_wp2_with fail
  go_ret
  exact ⟨by rw [HV.out]; rfl,HB.out⟩
 by_cases a2:4<kd
 ·skip
  have HV:Hid (aad kd ev pl nn n=1):=hid (by unfold aad; rw [if_pos (.inl (.inr (.inl a2)))])
  try clear a7
  try clear a8
  try clear a9
  go_wp2_with fail
  go_ret
  exact ⟨by rw [HV.out]; rfl,HB.out⟩
 by_cases a3:pl≠0∧pl≠1
 ·skip
  have b0:(pl != 0)=true:=by simpa using a3.1
  have b1:(pl != 1)=true:=by simpa using a3.2
  have HV:Hid (aad kd ev pl nn n=1):=hid (by unfold aad; rw [if_pos (.inl (.inr (.inr (.inl a3))))])
  try clear a7
  try clear a8
  try clear a9
  go_wp2_with fail
  go_ret
  exact ⟨by rw [HV.out]; rfl,HB.out⟩
 have hp:pl=0∨pl=1:=by omega
 clear a3
 rcases hp with rfl | rfl
 ·skip
  by_cases a5:ev<0
  ·skip
   have HV:Hid (aad kd ev 0 nn n=1):=hid (by unfold aad; rw [if_pos (.inl (.inr (.inr (.inr (.inl a5)))))])
   try clear a7
   try clear a8
   try clear a9
   go_wp2_with fail
   go_ret
   exact ⟨by rw [HV.out]; rfl,HB.out⟩
  by_cases a6:(n:Int)≤ev
  ·skip
   have HV:Hid (aad kd ev 0 nn n=1):=hid (by unfold aad; rw [if_pos (.inl (.inr (.inr (.inr (.inr a6)))))])
   try clear a7
   try clear a8
   try clear a9
   go_wp2_with fail
   go_ret
   exact ⟨by rw [HV.out]; rfl,HB.out⟩
  by_cases a7:kd=4
  ·skip
   have a7t:(kd == 4)=true:=by simpa using a7
   by_cases a8:nn=0
   ·skip
    have a8t:(nn != 0)=false:=by simpa using a8
    have HV:Hid (aad kd ev 0 nn n=0):=hid (by unfold aad; rw [if_neg (by omega)])
    try clear a7
    try clear a8
    try clear a9
    go_wp2_with fail
    go_ret
    exact ⟨by rw [HV.out]; rfl,HB.out⟩
   have a8f:(nn != 0)=true:=by simpa using a8
   by_cases a9:nn=1
   ·skip
    have a9t:(nn != 1)=false:=by simpa using a9
    have HV:Hid (aad kd ev 0 nn n=0):=hid (by unfold aad; rw [if_neg (by omega)])
    try clear a7
    try clear a8
    try clear a9
    go_wp2_with fail
    go_ret
    exact ⟨by rw [HV.out]; rfl,HB.out⟩
   have a9f:(nn != 1)=true:=by simpa using a9
   have HV:Hid (aad kd ev 0 nn n=1):=hid (by unfold aad; rw [if_pos (.inr ⟨a7,a8,a9⟩)])
   try clear a7
   try clear a8
   try clear a9
   go_wp2_with fail
   go_ret
   exact ⟨by rw [HV.out]; rfl,HB.out⟩
  have a7f:(kd == 4)=false:=by simpa using a7
  have HV:Hid (aad kd ev 0 nn n=0):=hid (by unfold aad; rw [if_neg (by omega)])
  try clear a7
  try clear a8
  try clear a9
  go_wp2_with fail
  go_ret
  exact ⟨by rw [HV.out]; rfl,HB.out⟩
 ·skip
  by_cases a5:ev<0
  ·skip
   have HV:Hid (aad kd ev 1 nn n=1):=hid (by unfold aad; rw [if_pos (.inl (.inr (.inr (.inr (.inl a5)))))])
   try clear a7
   try clear a8
   try clear a9
   go_wp2_with fail
   go_ret
   exact ⟨by rw [HV.out]; rfl,HB.out⟩
  by_cases a6:(n:Int)≤ev
  ·skip
   have HV:Hid (aad kd ev 1 nn n=1):=hid (by unfold aad; rw [if_pos (.inl (.inr (.inr (.inr (.inr a6)))))])
   try clear a7
   try clear a8
   try clear a9
   go_wp2_with fail
   go_ret
   exact ⟨by rw [HV.out]; rfl,HB.out⟩
  by_cases a7:kd=4
  ·skip
   have a7t:(kd == 4)=true:=by simpa using a7
   by_cases a8:nn=0
   ·skip
    have a8t:(nn != 0)=false:=by simpa using a8
    have HV:Hid (aad kd ev 1 nn n=0):=hid (by unfold aad; rw [if_neg (by omega)])
    try clear a7
    try clear a8
    try clear a9
    go_wp2_with fail
    go_ret
    exact ⟨by rw [HV.out]; rfl,HB.out⟩
   have a8f:(nn != 0)=true:=by simpa using a8
   by_cases a9:nn=1
   ·skip
    have a9t:(nn != 1)=false:=by simpa using a9
    have HV:Hid (aad kd ev 1 nn n=0):=hid (by unfold aad; rw [if_neg (by omega)])
    try clear a7
    try clear a8
    try clear a9
    go_wp2_with fail
    go_ret
    exact ⟨by rw [HV.out]; rfl,HB.out⟩
   have a9f:(nn != 1)=true:=by simpa using a9
   have HV:Hid (aad kd ev 1 nn n=1):=hid (by unfold aad; rw [if_pos (.inr ⟨a7,a8,a9⟩)])
   try clear a7
   try clear a8
   try clear a9
   go_wp2_with fail
   go_ret
   exact ⟨by rw [HV.out]; rfl,HB.out⟩
  have a7f:(kd == 4)=false:=by simpa using a7
  have HV:Hid (aad kd ev 1 nn n=0):=hid (by unfold aad; rw [if_neg (by omega)])
  try clear a7
  try clear a8
  try clear a9
  go_wp2_with fail
  go_ret
  exact ⟨by rw [HV.out]; rfl,HB.out⟩
theorem aae {kd ev pl nn:Int} {n:Nat} (h:aad kd ev pl nn n=0):(0≤kd∧kd≤4)∧(pl=0∨pl=1)∧(0≤ev∧ev<(n:Int))∧(kd=4→nn=0∨nn=1):=by
 unfold aad at h
 split at h
 ·cases h
 ·refine ⟨by omega,by omega,by omega,fun hk=>by omega⟩
theorem aax {kd ev pl nn:Int} {n:Nat} (h1:0≤kd∧kd≤4) (h2:pl=0∨pl=1) (h3:0≤ev∧ev<(n:Int)) (h4:kd=4→nn=0∨nn=1):aad kd ev pl nn n=0:=by
 unfold aad
 rw [if_neg (by omega)]
def aah (CR:nJ) (M0:aG) (es:List iY) (kd pl nn:Int) (m:aN) (i:Nat):Bool:=aas CR (goes M0 (es.take i)) (goes M0 (es.take (i - 1))) (Md M0 es i) kd pl nn m
structure aak (CR:nJ) (M0:aG) (es:List iY) (bb:Nat) (v:Value) (l:List qX) (w:World):Prop where
 row:w.ownsRow bb 209 26 v (es.length+1) (kR l)
 pos:∀ x∈l,lu bb w x.M.pos x.vc x.v0 x.v1
 ok:∀ x∈l,nV x.M.R x.M.pos
 ms:Ti M0 es es.length l
theorem aak.below {CR:nJ} {M0:aG} {es:List iY} {bb:Nat} {v:Value} {l:List qX} {w w1:World} (h:aak CR M0 es bb v l w) (hb:Below w.heap.size w w1):aak CR M0 es bb v l w1:=
 ⟨bK h.row hb,fun x hx=>BL (h.pos x hx) hb,h.ok,h.ms⟩
theorem aak.far {CR:nJ} {M0:aG} {es:List iY} {bb:Nat} {v:Value} {l:List qX} {w w1:World} {S:Nat→Prop} (h:aak CR M0 es bb v l w) (hf:Fr S w w1) (hS:∀ q,S q→q<bb):aak CR M0 es bb v l w1:=
 ⟨gV h.row hf (fun q hq hs=>by have:=(h.row.lt q hq).1; have:=hS q hs; omega),fun x hx=>oZ (h.pos x hx) (fun q h1 _ hs=>by have:=hS q hs; omega) w1 hf,h.ok,h.ms⟩
theorem aaq {R:aC} {CR:nJ} {es:List iY} (hnm:R.name.size≤maxLen) (hro:clk.cu CR.ps.length CR.inc CR.delay CR.ps) (hok:∀ e∈es,wW e):∀ k,MInv (goes (dh R CR 0) (es.take k)):=
 fun k=>(xg (es.take k) (dh R CR 0) (BG R CR 0 hnm (xU.of hro) (by decide) (by decide)) (by rw [KD]; decide) (fun e he=>hok e (List.mem_of_mem_take he))).1
theorem abI {M:aG} {e:iY} (h:(M.go e).2=0):e.now≤100000000:=by
 unfold aG.go at h
 split at h
 ·rename_i hc; exact absurd h hc
 rename_i hp
 exact (rX (Decidable.byContradiction hp)).2.2.1.2
theorem abJ (M:aG) (e:iY):(M.go e).1.CR=M.CR:=by
 unfold aG.go
 split
 ·rfl
 split
 ·rfl
 ·show (aG.over (aG.put (M.kind e).1 e)).CR=_
  rw [(sS _).2.2.2.1]
  exact (jD M e).2.2
theorem aaM:∀ (es:List iY) (M:aG),(goes M es).CR=M.CR
 | [],M=>rfl
 | e :: es,M=>(aaM es (M.go e).1).trans (abJ M e)
theorem abK (R:aC) (CR:nJ) (now:Int):(dh R CR now).CR=CR:=by unfold dh; rw [(sS _).2.2.2.1]
theorem abM (R:aC) (CR:nJ) (now:Int):(dh R CR now).R=R:=by unfold dh; rw [(sS _).2.2.1]
theorem abN {R:aC} {CR:nJ} {es:List iY} (hi:∀ k,MInv (goes (dh R CR 0) (es.take k))) (hacc:nP (dh R CR 0) es):∀ i,i<es.length+1→Md (dh R CR 0) es i≤100000000
 | 0,_=>by
  have h:=(hi 0).ck.s
  rw [show goes (dh R CR 0) (es.take 0)=dh R CR 0 from rfl] at h
  exact h.2
 | i+1,h=>by
  have hlt:i<es.length:=by omega
  show (es.getD i default).now≤_
  rw [List.getD_eq_getElem?_getD,List.getElem?_eq_getElem hlt]
  exact abI (Za hacc i hlt)
theorem aaj (HSo:SortMvSaid) (R:aC) (CR:nJ) (vp vs ve:Value) (pa:Option Addr) (pc:Nat) (es:List iY) (v:Value) (bb:Nat) (l:List qX) (i:Nat) (kd pl nn:Int) (m:aN) (w:World) (hr:ru w R vp vs ve) (h:aak CR (dh R CR 0) es bb v l w) (hi0:∀ k,MInv (goes (dh R CR 0) (es.take k)))
  (hacc:nP (dh R CR 0) es) (hle:es.length≤60) (hi:i<es.length+1) (hkd:0≤kd∧kd≤4) (hkn:kd=4→nn=0∨nn=1) (hpl:pl=0∨pl=1) (hcr:xU CR) (abl:clk.dV w w.heap.size pa CR.ps.length CR.ps) :
  Calls Tryz.prog 65 #[.agg #[.string R.name,.int .i64 R.width,.int .i64 R.height,vp,vs,.bool R.falls,.bool R.keeps,ve,.int .i64 R.blocked,.int .i64 R.quiet,.int .i64 R.bF],.agg #[.slice pa CR.ps.length pc,.int .i64 CR.inc,.int .i64 CR.delay],v,.agg #[.int .i64 kd,.int .i64 (i:Int),.int .i64 pl,.int .i64 nn,.int .i64 m.src,.int .i64 m.dst,.int .i64 m.piece]] w fun e w'=>e=.returned (.bool (aah CR (dh R CR 0) es kd pl nn m i))∧Below w.heap.size w w':=by
 have hlen:=h.ms.len
 have hil:i<l.length:=by omega
 have hjl:i - 1<l.length:=by omega
 have hV:=h.ms.at' _ hjl
 have hU:=h.ms.at' _ hil
 have hck:=(hi0 i).ck
 rw [aaM,abK,← hU.1] at hck
 have key:=aau HSo R CR vp vs ve pa pc bb v l i (i - 1) kd pl nn m w hr (by rw [hlen]; exact h.row) hil hjl (by omega) (by omega) (fun x hx=>WL (h.pos x hx).rd) (by rw [hV.1,TN,abM]) (h.pos _ (List.getElem_mem hjl)).rd (h.ok _ (List.getElem_mem hjl)) hkd hkn hpl hcr abl hck (by rw [hU.2]; exact abN hi0 hacc i hi)
 rw [hV.1,hU.1,hU.2] at key
 exact key
theorem aaf (HL:LdS) (R:aC) (CR:nJ) (vp vs ve:Value) (pa:Option Addr) (pc:Nat) (es:List iY) (vj:Value) (kd ev pl nn:Int) (m:aN) (w:World) (hr:ru w R vp vs ve) (hnm:R.name.size≤maxLen) (hp:clk.dV w w.heap.size pa CR.ps.length CR.ps) (h1:CR.ps.length≤pc) (h2:pc≤maxLen)
  (hre:aW R=0) (hro:clk.cu CR.ps.length CR.inc CR.delay CR.ps) (hj:zL w vj (goes (dh R CR 0) es).jr) (hacc:nP (dh R CR 0) es) (hok:∀ e∈es,wW e) (hle:es.length≤60) (ht:Tab w.heap.size w) (hm:LY w.heap.size w) :
  Calls Tryz.prog 24 #[.agg #[.string R.name,.int .i64 R.width,.int .i64 R.height,vp,vs,.bool R.falls,.bool R.keeps,ve,.int .i64 R.blocked,.int .i64 R.quiet,.int .i64 R.bF],.agg #[.slice pa CR.ps.length pc,.int .i64 CR.inc,.int .i64 CR.delay],vj,.agg #[.int .i64 kd,.int .i64 ev,.int .i64 pl,.int .i64 nn,.int .i64 m.src,.int .i64 m.dst,.int .i64 m.piece]] w fun e w'=>e=.returned (.tuple #[.bool (decide (aad kd ev pl nn (es.length+1)=0) && aah CR (dh R CR 0) es kd pl nn m ev.toNat),.int .i64 (aad kd ev pl nn (es.length+1))])∧Below w.heap.size w w':=by
 have HRp:Hid (∀ w1,Below w.heap.size w w1→Calls Tryz.prog 63 #[.agg #[.string R.name,.int .i64 R.width,.int .i64 R.height,vp,vs,.bool R.falls,.bool R.keeps,ve,.int .i64 R.blocked,.int .i64 R.quiet,.int .i64 R.bF],.agg #[.slice pa CR.ps.length pc,.int .i64 CR.inc,.int .i64 CR.delay],vj] w1 (BK (dh R CR 0) es w1)):=hid (fun w1 hb=>KF HL R CR vp vs ve pa pc es vj w1 (hr.below hb (Nat.le_refl _)) hnm (hp.below hb) h1 h2 hre hro (hj.below hb (Nat.le_refl _)) hacc hok hle (ht.mono hb.size hb) ((hm.below hb).mono hb.size))
 have HDk:Hid (∀ (v:Value) (bb:Nat) (l:List qX) (i:Nat) (w1:World),aak CR (dh R CR 0) es bb v l w1→Below w.heap.size w w1→i<es.length+1→(0≤kd∧kd≤4)→(kd=4→nn=0∨nn=1)→(pl=0∨pl=1)→Calls Tryz.prog 65 #[.agg #[.string R.name,.int .i64 R.width,.int .i64 R.height,vp,vs,.bool R.falls,.bool R.keeps,ve,.int .i64 R.blocked,.int .i64 R.quiet,.int .i64 R.bF],.agg #[.slice pa CR.ps.length pc,.int .i64 CR.inc,.int .i64 CR.delay],v,.agg #[.int .i64 kd,.int .i64 (i:Int),.int .i64 pl,.int .i64 nn,.int .i64 m.src,.int .i64 m.dst,.int .i64 m.piece]] w1 fun e w'=>e=.returned (.bool (aah CR (dh R CR 0) es kd pl nn m i))∧Below w1.heap.size w1 w'):=
  hid (fun v bb l i w1 hmz hb hi hk hn hq=>aaj HL.so R CR vp vs ve pa pc es v bb l i kd pl nn m w1 (hr.below hb (Nat.le_refl _)) hmz (aaq hnm hro hok) hacc hle hi hk hn hq (xU.of hro) (hp.below hb))
 obtain ⟨db,hdb⟩:∃ db,(decide (aad kd ev pl nn (es.length+1)=0) && aah CR (dh R CR 0) es kd pl nn m ev.toNat)=db:=⟨_,rfl⟩
 rw [hdb]
 have HDb:=hid hdb
 obtain ⟨ce,hce⟩:∃ ce,aad kd ev pl nn (es.length+1)=ce:=⟨_,rfl⟩
 rw [hce]
 have HCe:=hid hce
 clear HL hr hnm hp h1 h2 hre hro hj hacc hok hle ht hm hdb hce
 generalize dh R CR 0=M0 at *
 go_enter Tryz.func24,Tryz.ntmps24
 go_upto_region 1 with (fail)
 have HX0:=hid (((Box.new' w w.heap.size [.string R.name,.int .i64 R.width,.int .i64 R.height,vp,vs,.bool R.falls,.bool R.keeps,ve,.int .i64 R.blocked,.int .i64 R.quiet,.int .i64 R.bF] 46 rfl).alloc (.cells #[.slice pa CR.ps.length pc,.int .i64 CR.inc,.int .i64 CR.delay] 49)).alloc (.cells #[.int .i64 kd,.int .i64 ev,.int .i64 pl,.int .i64 nn,.int .i64 m.src,.int .i64 m.dst,.int .i64 m.piece] 86))
 have dn:=hid ((Box.new' (w.alloc (.cells #[.string R.name,.int .i64 R.width,.int .i64 R.height,vp,vs,.bool R.falls,.bool R.keeps,ve,.int .i64 R.blocked,.int .i64 R.quiet,.int .i64 R.bF] 46)) (w.heap.size+1) [.slice pa CR.ps.length pc,.int .i64 CR.inc,.int .i64 CR.delay] 49 (by simp)).alloc (.cells #[.int .i64 kd,.int .i64 ev,.int .i64 pl,.int .i64 nn,.int .i64 m.src,.int .i64 m.dst,.int .i64 m.piece] 86))
 have jH:=hid (Box.new' ((w.alloc (.cells #[.string R.name,.int .i64 R.width,.int .i64 R.height,vp,vs,.bool R.falls,.bool R.keeps,ve,.int .i64 R.blocked,.int .i64 R.quiet,.int .i64 R.bF] 46)).alloc (.cells #[.slice pa CR.ps.length pc,.int .i64 CR.inc,.int .i64 CR.delay] 49)) (w.heap.size+2) [.int .i64 kd,.int .i64 ev,.int .i64 pl,.int .i64 nn,.int .i64 m.src,.int .i64 m.dst,.int .i64 m.piece] 86 (by simp))
 have HB:Hid (Below w.heap.size w (((w.alloc (.cells #[.string R.name,.int .i64 R.width,.int .i64 R.height,vp,vs,.bool R.falls,.bool R.keeps,ve,.int .i64 R.blocked,.int .i64 R.quiet,.int .i64 R.bF] 46)).alloc (.cells #[.slice pa CR.ps.length pc,.int .i64 CR.inc,.int .i64 CR.delay] 49)).alloc (.cells #[.int .i64 kd,.int .i64 ev,.int .i64 pl,.int .i64 nn,.int .i64 m.src,.int .i64 m.dst,.int .i64 m.piece] 86))):=hid ((((Below.refl w.heap.size w).alloc (Nat.le_refl _) _).alloc (by simp) _).alloc (by simp; omega) _)
 have HZ:Hid (w.heap.size+3≤(((w.alloc (.cells #[.string R.name,.int .i64 R.width,.int .i64 R.height,vp,vs,.bool R.falls,.bool R.keeps,ve,.int .i64 R.blocked,.int .i64 R.quiet,.int .i64 R.bF] 46)).alloc (.cells #[.slice pa CR.ps.length pc,.int .i64 CR.inc,.int .i64 CR.delay] 49)).alloc (.cells #[.int .i64 kd,.int .i64 ev,.int .i64 pl,.int .i64 nn,.int .i64 m.src,.int .i64 m.dst,.int .i64 m.piece] 86)).heap.size):=hid (by simp)
 generalize (((w.alloc (.cells #[.string R.name,.int .i64 R.width,.int .i64 R.height,vp,vs,.bool R.falls,.bool R.keeps,ve,.int .i64 R.blocked,.int .i64 R.quiet,.int .i64 R.bF] 46)).alloc (.cells #[.slice pa CR.ps.length pc,.int .i64 CR.inc,.int .i64 CR.delay] 49)).alloc (.cells #[.int .i64 kd,.int .i64 ev,.int .i64 pl,.int .i64 nn,.int .i64 m.src,.int .i64 m.dst,.int .i64 m.piece] 86))=w0 at *
 refine wp_region_lit ?_
 refine aB (by rfl) 46 (.tmp 4) (by rfl) (w.heap.size) (by rfl) HX0.out Tryz.underlying46 (by rfl) (by kernel_rfl) ?_
 refine aB (by rfl) 49 (.tmp 5) (by rfl) (w.heap.size+1) (by rfl) dn.out Tryz.underlying49 (by rfl) (by kernel_rfl) ?_
 go_wp2_with fail
 refine (HRp.out w0 HB.out).mono ?_
 rintro e w1 ⟨v,l,rfl,hb1,ho1,hp1,hk1,hms⟩
 obtain ⟨va,vc,rfl⟩:=aI ho1
 have HB1:=hid (HB.out.trans (hb1.mono HB.out.size))
 have oC:=hid (HX0.out.stays hb1)
 have dZ:=hid (dn.out.stays hb1)
 have Hq:=hid (jH.out.stays hb1)
 have HMm:Hid (aak CR M0 es w0.heap.size (.slice va (es.length+1) vc) l w1):=hid ⟨ho1,hp1,hk1,hms⟩
 have HBs:Hid (w.heap.size+3≤w0.heap.size):=HZ
 clear hb1 ho1 hp1 hk1 hms HX0 dn jH HRp HB HZ
 go_upto_region 4 with (fail)
 refine wp_region_lit ?_
 refine aB (by rfl) 86 (.tmp 7) (by rfl) (w.heap.size+2) (by rfl) Hq.out Tryz.underlying86 (by rfl) (by kernel_rfl) ?_
 go_wp2_with fail
 refine (check_any kd ev pl nn m (es.length+1) w1).mono ?_
 rintro e w2 ⟨rfl,hb2⟩
 have HB2:=hid (HB1.out.trans (hb2.mono HB1.out.size))
 have Ol:=hid (oC.out.stays hb2)
 have Om:=hid (dZ.out.stays hb2)
 have Vr:=hid (Hq.out.stays hb2)
 have aaX:=hid (HMm.out.below hb2)
 clear hb2 oC dZ Hq HB1 HMm
 rw [HCe.out]
 by_cases hz:ce=0
 rotate_left
 ·have hzb:(ce != 0)=true:=by simpa using hz
  obtain rfl:db=false:=by rw [← HDb.out,HCe.out]; simp [hz]
  clear hz
  go_wp2_with fail
  go_ret2
  exact ⟨rfl,HB2.out⟩
 subst hz
 have hok2:(0≤kd∧kd≤4)∧(pl=0∨pl=1)∧(0≤ev∧ev<((es.length+1:Nat):Int))∧(kd=4→nn=0∨nn=1):=aae HCe.out
 obtain ⟨i,rfl⟩:∃ i:Nat,ev=(i:Int):=⟨ev.toNat,by omega⟩
 have HD:=hid (HDk.out _ _ l i w2 aaX.out HB2.out (by omega) hok2.1 hok2.2.2.2 hok2.2.1)
 rw [show aah CR M0 es kd pl nn m i=db by rw [← HDb.out,HCe.out]; simp] at HD
 clear hok2 HDk aaX HDb HCe
 go_upto_region 7 with (fail)
 refine wp_region_lit ?_
 refine aB (by rfl) 46 (.tmp 4) (by rfl) (w.heap.size) (by rfl) Ol.out Tryz.underlying46 (by rfl) (by kernel_rfl) ?_
 refine aB (by rfl) 49 (.tmp 5) (by rfl) (w.heap.size+1) (by rfl) Om.out Tryz.underlying49 (by rfl) (by kernel_rfl) ?_
 try simp only [Act.put,List.setIfInBounds_toArray,List.set_cons_zero,List.set_cons_succ]
 refine wpList_plain (by rfl) (fun K hK=>?_)
 go_simp
 refine hK _ _ ?_
 clear hK K
 try simp only [Act.put,List.setIfInBounds_toArray,List.set_cons_zero,List.set_cons_succ]
 refine aB (by rfl) 86 (.tmp 7) (by rfl) (w.heap.size+2) (by rfl) Vr.out Tryz.underlying86 (by rfl) (by kernel_rfl) ?_
 go_wp2_with fail
 refine HD.out.mono ?_
 rintro e w3 ⟨rfl,hb3⟩
 have HB3:=hid (HB2.out.trans (hb3.mono HB2.out.size))
 clear hb3
 go_wp2_with fail
 go_ret2
 exact ⟨rfl,HB3.out⟩
end Go.Proofs.YtmabaojkignodaaGreatDoor

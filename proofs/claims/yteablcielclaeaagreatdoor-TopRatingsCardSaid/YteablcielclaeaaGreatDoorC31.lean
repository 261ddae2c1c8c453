/- RecN, RecK, RdI. -/
import Derived.Test.YteablcielclaeaaGreatDoorC30
namespace Go.Proofs.YteablcielclaeaaGreatDoor
open Go.ChangeShapes Go.WideShapes Go.ChangeAt Go.RowKit
set_option linter.unusedVariables false
open Go.Lib (hid)
structure lT (B:Nat) (W0 w:World) (R:au) (vp vs ve:Value) (X:iM) (vt vn:Value) (bR bX db dc:Nat) (ds:List Int):Prop where
 low:Below B W0 w
 xC:Box w bR [.string R.name,.int .i64 R.width,.int .i64 R.height,vp,vs,.bool R.falls,.bool R.keeps,ve,.int .i64 R.blocked,.int .i64 R.quiet,.int .i64 R.aZ] 61
 mF:Box w bX [vt,.string X.comment,vn,.int .i64 X.result] 79
 dp:w.ownsRow B 3 1 (.slice (some ⟨db,0,none⟩) X.nodes.length dc) X.nodes.length (ints ds)
 neR:bR≠db
 neX:bX≠db
theorem lT.size {B:Nat} {W0 w:World} {R:au} {vp vs ve:Value} {X:iM} {vt vn:Value} {bR bX db dc:Nat} {ds:List Int} (h:lT B W0 w R vp vs ve X vt vn bR bX db dc ds):B≤db∧db<w.heap.size:=h.dp.lt db rfl
theorem lT.len {B:Nat} {W0 w:World} {R:au} {vp vs ve:Value} {X:iM} {vt vn:Value} {bR bX db dc:Nat} {ds:List Int} (h:lT B W0 w R vp vs ve X vt vn bR bX db dc ds):ds.length=X.nodes.length:=by
 have:=h.dp.1; rw [tC] at this; omega
theorem lT.stays {B:Nat} {W0 w w':World} {R:au} {vp vs ve:Value} {X:iM} {vt vn:Value} {bR bX db dc:Nat} {ds:List Int} (h:lT B W0 w R vp vs ve X vt vn bR bX db dc ds) (hb:Below w.heap.size w w'):lT B W0 w' R vp vs ve X vt vn bR bX db dc ds:=
 ⟨h.low.trans (hb.mono (by have:=h.size; omega)),h.xC.stays hb,h.mF.stays hb,aU h.dp hb,h.neR,h.neX⟩
theorem lT.set {B:Nat} {W0 w:World} {R:au} {vp vs ve:Value} {X:iM} {vt vn:Value} {bR bX db dc:Nat} {ds:List Int} (h:lT B W0 w R vp vs ve X vt vn bR bX db dc ds) (i:Nat) (v:Int):lT B W0 (w.setCell ⟨db,i,none⟩ (.int .i64 v)) R vp vs ve X vt vn bR bX db dc (ds.set i v):=by
 have:=h.size
 refine ⟨h.low.setCell (p:=⟨db,i,none⟩) this.1 _,h.xC.far ⟨db,i,none⟩ _ h.neR,h.mF.far ⟨db,i,none⟩ _ h.neX,?_,h.neR,h.neX⟩
 rw [← ints_set]
 exact (h.dp.stored i (.int .i64 v)).1
theorem lT.far {B:Nat} {W0 w:World} {R:au} {vp vs ve:Value} {X:iM} {vt vn:Value} {bR bX db dc:Nat} {ds:List Int} (h:lT B W0 w R vp vs ve X vt vn bR bX db dc ds) (b k:Nat) (v:Value) (hB:B≤b) (h1:b≠bR) (h2:b≠bX) (h3:b≠db):lT B W0 (w.setCell ⟨b,k,none⟩ v) R vp vs ve X vt vn bR bX db dc ds:=
 ⟨h.low.setCell (p:=⟨b,k,none⟩) hB _,h.xC.far ⟨b,k,none⟩ _ (fun e=>h1 e.symm),h.mF.far ⟨b,k,none⟩ _ (fun e=>h2 e.symm),ownsRow_setCell_other h.dp (by simp [Value.ownBlock]; exact fun e=>h3 e.symm) _,h.neR,h.neX⟩
theorem YK (l:List Int) (i:Nat):l.set i (l.getD i 0)=l:=by
 apply List.ext_getElem?
 intro k
 rw [List.getElem?_set]
 by_cases e:i=k
 ·subst e
  by_cases h:i<l.length
  ·simp [h]
  ·simp [h]
 ·rw [if_neg e]
theorem YL {α:Type} (p:α→Bool) (l:List α) (k:Nat) (h:k<l.length):(l.drop k).any p=(p l[k] || (l.drop (k+1)).any p):=by
 rw [List.drop_eq_getElem_cons h,List.any_cons]
theorem Eo (HS:SortMvSaid) (R:au) (vp vs ve:Value) (v:Value) (l:List aA) (w:World) (hr:qo w R vp vs ve) (hnm:R.name.size≤maxLen) (hl:iQ jM w v l) :
  Calls Tryz.prog 150 #[(.agg #[.string R.name,.int .i64 R.width,.int .i64 R.height,vp,vs,.bool R.falls,.bool R.keeps,ve,.int .i64 R.blocked,.int .i64 R.quiet,.int .i64 R.aZ]),v] w fun e w'=>Below w.heap.size w w'∧∃ (a1 a2 a3:Option Addr) (n1 c1 n2 c2 n3 c3:Nat) (x y rv:Int),e=.returned (.tuple #[.agg #[.slice a1 n1 c1,.slice a2 n2 c2,.slice a3 n3 c3,.int .i64 x,.int .i64 y],.int .i64 rv,.int .i64 (dA R l)]):=by
 refine (gy.YJ HS R vp vs ve v l w hr hnm hl).mono fun e w' hp=>?_
 rcases hp with ⟨-,rfl,hb⟩ | ⟨h0,-,-,-,vc,v0,v1,rfl,ho,hb⟩
 ·exact ⟨hb,none,none,none,0,0,0,0,0,0,0,0,0,rfl⟩
 ·obtain ⟨h1,h2,h3,-⟩:=ho
  obtain ⟨a1,c1,rfl⟩:=aH h1
  obtain ⟨a2,c2,rfl⟩:=aH h2
  obtain ⟨a3,c3,rfl⟩:=aH h3
  exact ⟨hb,a1,a2,a3,_,c1,_,c2,_,c3,_,_,_,by rw [h0]; rfl⟩
def YM (R:au) (X:iM) (ds:List Int) (i B db dc:Nat) (W0:World) (e:Ending) (w':World):Prop:=
 e=.returned (.int .i64 (dU R X.nodes ds i))∧Below B W0 w'∧(dU R X.nodes ds i=0→w'.ownsRow B 3 1 (.slice (some ⟨db,0,none⟩) X.nodes.length dc) X.nodes.length (ints (ds.set i (uq X.nodes ds i))))
set_option maxRecDepth 100000 in
set_option maxHeartbeats 16000000 in
theorem YN (HS:SortMvSaid) (R:au) (vp vs ve:Value) (X:iM) (vt vn:Value) (ds:List Int) (B db dc i:Nat) (W0 w:World) (hr:qo W0 R vp vs ve) (hnm:R.name.size≤maxLen) (hx:Vx W0 X vt vn)
  (hB:W0.heap.size≤B) (hl:Below B W0 w) (ho:w.ownsRow B 3 1 (.slice (some ⟨db,0,none⟩) X.nodes.length dc) X.nodes.length (ints ds)) (hi:i<X.nodes.length) (h2:X.nodes.length≤200) (hb:Back X.nodes i)
  (hd:∀ k,0≤ds.getD k 0∧ds.getD k 0≤20) :
  Calls Tryz.prog 101 #[(.agg #[.string R.name,.int .i64 R.width,.int .i64 R.height,vp,vs,.bool R.falls,.bool R.keeps,ve,.int .i64 R.blocked,.int .i64 R.quiet,.int .i64 R.aZ]),vP X vt vn,.int .i64 i,.slice (some ⟨db,0,none⟩) X.nodes.length dc] w (YM R X ds i B db dc W0):=by
 have pq:=hid HS
 have HR:=hid hr
 have HN:=hid hnm
 have HX:=hid hx
 have HK:=hid hb
 have HD:=hid hd
 obtain ⟨na,nc,rfl,hn1,hn2⟩:=hx.2.1.form
 unfold maxLen at hn2
 obtain ⟨g,o,rfl,hg,hc⟩:=oH HX.out.2.1 (by omega)
 have HC:=hid hc
 have HE:Hid (dU R X.nodes ds i=if dQ (aG X.nodes i).comment≠0 then dQ (aG X.nodes i).comment else if (i:Int)≤(aG X.nodes i).parent∨wE X.nodes (aG X.nodes i).parent ((i:Int) - 1)=false then 3 else
  if qR X.nodes i=true then 7 else if dA R (dX X.nodes i)≠0 then dA R (dX X.nodes i) else if 20<uq X.nodes ds i then 2 else 0):=hid rfl
 have YO:Hid (uq X.nodes ds i=(if 0≤(aG X.nodes i).parent then ds.getD (aG X.nodes i).parent.toNat 0 else ds.getD i 0)+(if Yf X.nodes i=true then 1 else 0)):=hid rfl
 have HTw:Hid (qR X.nodes i=(X.nodes.take i).any fun y=>y.parent == (aG X.nodes i).parent && y.m == (aG X.nodes i).m):=hid rfl
 have HSb:Hid (Yf X.nodes i=(X.nodes.take i).any fun y=>y.parent == (aG X.nodes i).parent):=hid rfl
 obtain ⟨e0,e1,e2,e3,e4,hcs⟩:=hc i hi
 have HC2:Hid (∀ w',Below B W0 w'→w'.cell? ⟨g,o+i * 5,none⟩=some (.int .i64 (aG X.nodes i).parent)∧w'.cell? ⟨g,o+i * 5+1,none⟩=some (.int .i64 (aG X.nodes i).m.src)∧w'.cell? ⟨g,o+i * 5+2,none⟩=some (.int .i64 (aG X.nodes i).m.dst)∧w'.cell? ⟨g,o+i * 5+3,none⟩=some (.int .i64 (aG X.nodes i).m.piece)∧w'.cell? ⟨g,o+i * 5+4,none⟩=some (.string (aG X.nodes i).comment)):=hid (fun w' hb=>by
  have hgB:g<B:=by omega
  exact ⟨(hb.cell (p:=⟨g,_,none⟩) hgB).trans e0,(hb.cell (p:=⟨g,_,none⟩) hgB).trans e1,(hb.cell (p:=⟨g,_,none⟩) hgB).trans e2,(hb.cell (p:=⟨g,_,none⟩) hgB).trans e3,(hb.cell (p:=⟨g,_,none⟩) hgB).trans e4⟩)
 have hdb:=ho.lt db rfl
 have HO:=hid ho
 have HLw:=hid hl
 clear hr hnm hx hb hd hc e0 e1 e2 e3 e4 hl ho HS
 unfold vP
 go_enter Tryz.func101,Tryz.ntmps101
 go_upto_region 1 with (fail)
 have hbB:B≤w.heap.size:=by omega
 obtain ⟨bR,hbR⟩:∃ bR,bR=w.heap.size:=⟨_,rfl⟩
 obtain ⟨bX,hbX⟩:∃ bX,bX=w.heap.size+1:=⟨_,rfl⟩
 have sJ:Hid (lT B W0 ((w.alloc (.cells #[.string R.name,.int .i64 R.width,.int .i64 R.height,vp,vs,.bool R.falls,.bool R.keeps,ve,.int .i64 R.blocked,.int .i64 R.quiet,.int .i64 R.aZ] 61)).alloc (.cells #[vt,.string X.comment,.slice (some ⟨g,o,none⟩) X.nodes.length nc,.int .i64 X.result] 79)) R vp vs ve X vt (.slice (some ⟨g,o,none⟩) X.nodes.length nc) bR bX db dc ds):=hid
  ⟨(HLw.out.alloc hbB _).alloc (by rw [World.size_alloc]; omega) _,(Box.new' w bR [.string R.name,.int .i64 R.width,.int .i64 R.height,vp,vs,.bool R.falls,.bool R.keeps,ve,.int .i64 R.blocked,.int .i64 R.quiet,.int .i64 R.aZ] 61 hbR.symm).alloc _,Box.new' (w.alloc (.cells #[.string R.name,.int .i64 R.width,.int .i64 R.height,vp,vs,.bool R.falls,.bool R.keeps,ve,.int .i64 R.blocked,.int .i64 R.quiet,.int .i64 R.aZ] 61)) bX [vt,.string X.comment,.slice (some ⟨g,o,none⟩) X.nodes.length nc,.int .i64 X.result] 79 (by rw [World.size_alloc,hbX]),(HO.out.alloc _).alloc _,by omega,by omega⟩
 rw [← hbR,show bR+1=bX by omega]
 clear hbX hbR HLw HO
 generalize ((w.alloc (.cells #[.string R.name,.int .i64 R.width,.int .i64 R.height,vp,vs,.bool R.falls,.bool R.keeps,ve,.int .i64 R.blocked,.int .i64 R.quiet,.int .i64 R.aZ] 61)).alloc (.cells #[vt,.string X.comment,.slice (some ⟨g,o,none⟩) X.nodes.length nc,.int .i64 X.result] 79))=w0 at *
 have hdl:=sJ.out.size
 have hxl:=sJ.out.mF.lt
 have q2:=sJ.out.mF.cell 2 rfl
 have hgB:g<B:=by omega
 obtain ⟨c0,c1,c2,c3,c4⟩:=HC2.out _ sJ.out.low
 have hgw:g<w0.heap.size:=by omega
 have hil:(i:Int)<(X.nodes.length:Int):=by omega
 generalize (aG X.nodes i).comment=cm at *
 generalize (aG X.nodes i).m=mv at *
 generalize hpa:(aG X.nodes i).parent=pa at *
 have al2:=hid hpa
 clear hpa
 go_upto_region 2 with (fail)
 obtain ⟨bN,hbN⟩:∃ bN,bN=w0.heap.size:=⟨_,rfl⟩
 rw [← hbN]
 have N9:=hid (Box.new' w0 bN [.int .i64 pa,.int .i64 mv.src,.int .i64 mv.dst,.int .i64 mv.piece,.string cm] 75 hbN.symm)
 have xu:=hid (sJ.out.stays ((Below.refl w0.heap.size w0).alloc (Nat.le_refl _) (.cells #[.int .i64 pa,.int .i64 mv.src,.int .i64 mv.dst,.int .i64 mv.piece,.string cm] 75)))
 have hNd:bN≠db:=by omega
 clear hbN sJ c0 c1 c2 c3 c4 q2
 generalize w0.alloc (.cells #[.int .i64 pa,.int .i64 mv.src,.int .i64 mv.dst,.int .i64 mv.piece,.string cm] 75)=w1 at *
 have n4:=N9.out.cell 4 rfl
 have n0:=N9.out.cell 0 rfl
 have HCm:=hid (AB cm w1 hcs)
 generalize hce:dQ cm=ce at *
 clear hce
 go_upto_region 3 with (go_at_call 100; refine HCm.out.mono ?_; rintro e w5 ⟨rfl,rfl⟩)
 by_cases hce:ce=0
 rotate_left
 ·have HF:Hid (dU R X.nodes ds i=ce):=hid (by rw [HE.out,if_pos hce])
  go_wp2_with fail
  go_ret
  exact ⟨by rw [HF.out]; rfl,xu.out.low,fun e=>absurd (HF.out.symm.trans e) hce⟩
 subst hce
 have HE2:Hid (dU R X.nodes ds i=if (i:Int)≤pa∨wE X.nodes pa ((i:Int) - 1)=false then 3 else
  if qR X.nodes i=true then 7 else if dA R (dX X.nodes i)≠0 then dA R (dX X.nodes i) else if 20<uq X.nodes ds i then 2 else 0):=hid (by rw [HE.out,if_neg (by decide)])
 clear HE HCm
 have x0:=xu.out.mF.cell 0 rfl
 have x1:=xu.out.mF.cell 1 rfl
 have x2:=xu.out.mF.cell 2 rfl
 have x3:=xu.out.mF.cell 3 rfl
 have arR:=xu.out.mF.lt
 have arS:=N9.out.lt
 by_cases hpi:(i:Int)≤pa
 ·have HF:Hid (dU R X.nodes ds i=3):=hid (by rw [HE2.out,if_pos (.inl hpi)])
  go_wp2_with fail
  go_ret
  exact ⟨by rw [HF.out]; rfl,xu.out.low,fun e=>by rw [HF.out] at e; cases e⟩
 have HOn:=hid (on_any X vt (.slice (some ⟨g,o,none⟩) X.nodes.length nc) pa ((i:Int) - 1) i w1 (HX.out.below xu.out.low hB) HK.out (by omega) (by omega))
 unfold vP at HOn
 cases hob:wE X.nodes pa ((i:Int) - 1)
 ·have HF:Hid (dU R X.nodes ds i=3):=hid (by rw [HE2.out,if_pos (.inr hob)])
  rw [hob] at HOn
  clear hob
  go_wp2_with (go_at_call 147; refine HOn.out.mono ?_; rintro e w5 ⟨rfl,hb5⟩; have wO:=hid (xu.out.stays hb5).low; clear hb5)
  go_ret
  exact ⟨by rw [HF.out]; rfl,wO.out,fun e=>by rw [HF.out] at e; cases e⟩
 have xQ:Hid (dU R X.nodes ds i=if qR X.nodes i=true then 7 else if dA R (dX X.nodes i)≠0 then dA R (dX X.nodes i) else if 20<uq X.nodes ds i then 2 else 0):=hid (by
  rw [HE2.out,if_neg (by rintro (h | h); exact hpi h; rw [hob] at h; cases h)])
 rw [hob] at HOn
 clear hob HE2
 obtain ⟨d1,hd1⟩:∃ d1,d1=(if 0≤pa then ds.getD pa.toNat 0 else ds.getD i 0):=⟨_,rfl⟩
 have HD1:=hid hd1
 rw [← hd1] at YO
 have arT:0≤d1∧d1≤20:=by
  rw [hd1]
  split
  ·exact HD.out _
  ·exact HD.out _
 clear hd1
 go_upto_if 42 with (go_at_call 147; refine HOn.out.mono ?_; rintro e w5 ⟨rfl,hb5⟩; have TU:=hid (xu.out.stays hb5); have HN5:=hid (N9.out.stays hb5); have n05:=HN5.out.cell 0 rfl; have n15:=HN5.out.cell 1 rfl; clear hb5)
 clear xu N9 x0 x1 x2 x3 n4 n0 HOn
 go_cut [43] from 43 to 50 (fun v43 wx=>∃ o43:Value,o43=v43∧Hid (lT B W0 wx R vp vs ve X vt (.slice (some ⟨g,o,none⟩) X.nodes.length nc) bR bX db dc (ds.set i d1))∧Hid (Box wx bN [.int .i64 pa,.int .i64 mv.src,.int .i64 mv.dst,.int .i64 mv.piece,.string cm] 75))
 case first =>
  by_cases hp0:0≤pa
  ·obtain ⟨p,rfl⟩:∃ p:Nat,pa=(p:Int):=⟨pa.toNat,by omega⟩
   have hd2:ds.getD p 0=d1:=by rw [HD1.out,if_pos (by omega)]; rfl
   have arU:=TU.out.size
   have hpl:p<X.nodes.length:=by omega
   have cp:w5.cell? ⟨db,p,none⟩=some (.int .i64 d1):=by
    have:=TU.out.dp.cellAt p (by omega)
    rw [eY _ _ (by rw [TU.out.len]; exact hpl),hd2] at this
    exact this
   have ci:w5.cell? ⟨db,i,none⟩=some (.int .i64 (ds.getD i 0)):=by
    have:=TU.out.dp.cellAt i (by omega)
    rw [eY _ _ (by rw [TU.out.len]; exact hi)] at this
    exact this
   have fi:w5.frozen? ⟨db,i,none⟩=false:=TU.out.dp.frozenAt i
   have hpl':(p:Int)<(X.nodes.length:Int):=by omega
   have HS6:=hid (TU.out.set i d1)
   have HN6:=hid (HN5.out.far ⟨db,i,none⟩ (.int .i64 d1) hNd)
   clear hd2 HD1
   go_wp2_with fail
   go_meet
   exact ⟨_,rfl,HS6,HN6⟩
  ·have hd2:ds.getD i 0=d1:=by rw [HD1.out,if_neg hp0]
   have HS6:Hid (lT B W0 w5 R vp vs ve X vt (.slice (some ⟨g,o,none⟩) X.nodes.length nc) bR bX db dc (ds.set i d1)):=hid (by rw [← hd2,YK]; exact TU.out)
   clear hd2 HD1
   go_wp2_with fail
   go_meet
   exact ⟨_,rfl,HS6,HN5⟩
 case rest =>
  obtain ⟨o43,rfl,HS6,HN6⟩:=hcut
  have hsl:=fun w=>nX (P:=Tryz.prog) (s:=5) Tryz.underlying76 (fun _=>by kernel_rfl) (some ⟨g,o,none⟩) X.nodes.length nc i (by omega) w
  have x2:=HS6.out.mF.cell 2 rfl
  have arV:=HS6.out.mF.lt
  have arW:=HN6.out.lt
  go_upto_region 10 with (fail)
  go_loopw [56,12] (fun v56 v12 wr=>∃ (k:Nat) (o12:Value),o12=v12∧k≤i∧v56=.int .i64 k∧Hid (qR X.nodes i=((X.nodes.take i).drop k).any fun y=>y.parent == pa && y.m == mv)∧Hid (lT B W0 wr R vp vs ve X vt (.slice (some ⟨g,o,none⟩) X.nodes.length nc) bR bX db dc (ds.set i d1))∧Hid (Box wr bN [.int .i64 pa,.int .i64 mv.src,.int .i64 mv.dst,.int .i64 mv.piece,.string cm] 75)) (fun v _ _=>i - (intOf v).toNat)
  case atStart=>exact ⟨0,_,rfl,Nat.zero_le _,rfl,HTw,HS6,HN6⟩
  case round =>
   obtain ⟨k,o12,rfl,hk,rfl,HT,PW,HNr⟩:=hrel
   have hsz:=PW.out.size
   by_cases hlt:k<i
   ·obtain ⟨e0,e1,e2,e3,e4,-⟩:=HC.out k (by omega)
    have hgB:g<B:=by omega
    have c0:=(PW.out.low.cell (p:=⟨g,o+k * 5,none⟩) hgB).trans e0
    have c1:=(PW.out.low.cell (p:=⟨g,o+k * 5+1,none⟩) hgB).trans e1
    have c2:=(PW.out.low.cell (p:=⟨g,o+k * 5+2,none⟩) hgB).trans e2
    have c3:=(PW.out.low.cell (p:=⟨g,o+k * 5+3,none⟩) hgB).trans e3
    have c4:=(PW.out.low.cell (p:=⟨g,o+k * 5+4,none⟩) hgB).trans e4
    have hlen:(X.nodes.take i).length=i:=by rw [List.length_take]; omega
    have sJ:=hid (YL (fun y:aX=>y.parent == pa && y.m == mv) (X.nodes.take i) k (by omega))
    have HGt:Hid ((X.nodes.take i)[k]'(by omega)=aG X.nodes k):=hid (by unfold aG; rw [List.getElem_take,List.getD_eq_getElem?_getD,List.getElem?_eq_getElem (by omega)]; rfl)
    rw [HGt.out] at sJ
    clear e0 e1 e2 e3 e4 hlen HGt
    generalize (aG X.nodes k).comment=cm2 at *
    generalize (aG X.nodes k).m=mk at *
    generalize (aG X.nodes k).parent=pk at *
    have hgr:g<wr.heap.size:=by omega
    have hki:(k:Int)<(i:Int):=by omega
    go_upto_region 12 with (fail)
    obtain ⟨bY,hbY⟩:∃ bY,bY=wr.heap.size:=⟨_,rfl⟩
    rw [← hbY]
    have HYb:=hid (Box.new' wr bY [.int .i64 pk,.int .i64 mk.src,.int .i64 mk.dst,.int .i64 mk.piece,.string cm2] 75 hbY.symm)
    have HS7:=hid (PW.out.stays ((Below.refl wr.heap.size wr).alloc (Nat.le_refl _) (.cells #[.int .i64 pk,.int .i64 mk.src,.int .i64 mk.dst,.int .i64 mk.piece,.string cm2] 75)))
    have HN7:=hid (HNr.out.alloc (.cells #[.int .i64 pk,.int .i64 mk.src,.int .i64 mk.dst,.int .i64 mk.piece,.string cm2] 75))
    clear hbY PW HNr c0 c1 c2 c3 c4
    generalize wr.alloc (.cells #[.int .i64 pk,.int .i64 mk.src,.int .i64 mk.dst,.int .i64 mk.piece,.string cm2] 75)=wy at *
    have y0:=HYb.out.cell 0 rfl
    have y1:=HYb.out.cell 1 rfl
    have y2:=HYb.out.cell 2 rfl
    have y3:=HYb.out.cell 3 rfl
    have n0:=HN7.out.cell 0 rfl
    have n1:=HN7.out.cell 1 rfl
    have n2:=HN7.out.cell 2 rfl
    have n3:=HN7.out.cell 3 rfl
    have hyl:=HYb.out.lt
    have hnl:=HN7.out.lt
    by_cases hpp:pk=pa
    ·have hpb:(pk != pa)=false:=by simp [hpp]
     have heq:=fun w=>aac mk mv w
     by_cases hmm:mk=mv
     ·have HF:Hid (qR X.nodes i=true):=hid (by rw [HT.out,sJ.out,hpp,hmm]; simp)
      have HF2:Hid (dU R X.nodes ds i=7):=hid (by rw [xQ.out,if_pos HF.out])
      rw [decide_eq_true hmm] at heq
      clear HT sJ hpp hmm
      go_wp2_with fail
      go_ret
      exact ⟨by rw [HF2.out]; rfl,HS7.out.low,fun e=>by rw [HF2.out] at e; cases e⟩
     ·have HT2:Hid (qR X.nodes i=((X.nodes.take i).drop (k+1)).any fun y=>y.parent == pa && y.m == mv):=hid (by rw [HT.out,sJ.out]; simp [hmm])
      rw [decide_eq_false hmm] at heq
      clear HT sJ hpp hmm
      go_wp2_with fail
      go_roundw
      case rel=>exact ⟨k+1,_,rfl,by omega,by go_num,HT2,HS7,HN7⟩
      case measure=>simp [intOf]; omega
    ·have hpb:(pk != pa)=true:=by simp [hpp]
     have HT2:Hid (qR X.nodes i=((X.nodes.take i).drop (k+1)).any fun y=>y.parent == pa && y.m == mv):=hid (by rw [HT.out,sJ.out]; simp [hpp])
     clear HT sJ hpp
     go_wp2_with fail
     go_roundw
     case rel=>exact ⟨k+1,_,rfl,by omega,by go_num,HT2,HS7,HN7⟩
     case measure=>simp [intOf]; omega
   ·obtain rfl:k=i:=by omega
    have HF:Hid (qR X.nodes k=false):=hid (by rw [HT.out,List.drop_of_length_le (by rw [List.length_take]; omega)]; rfl)
    have EZ:Hid (dU R X.nodes ds k=if dA R (dX X.nodes k)≠0 then dA R (dX X.nodes k) else if 20<uq X.nodes ds k then 2 else 0):=hid (by rw [xQ.out,if_neg (by rw [HF.out]; decide)])
    clear HT xQ HTw HF HS6 HN6
    have x2:=PW.out.mF.cell 2 rfl
    have arX:=PW.out.mF.lt
    have arY:=HNr.out.lt
    have hBr:B≤wr.heap.size:=by omega
    have YG:=hid (Bd _ (X.nodes.take k) (fun y=>y.parent == pa) 149 #[.pointer (some ⟨bN,0,none⟩)] wr ((iQ.take HX.out.2.1 k (by omega)).below PW.out.low hB) UL (fun W x cs _ hE hb=>UK x cs pa bN W hE ((HNr.out.stays hb).cell 0 rfl) (HNr.out.stays hb).lt))
    rw [← HSb.out] at YG
    obtain ⟨d2,hd2⟩:∃ d2,d2=d1+(if Yf X.nodes k=true then 1 else 0):=⟨_,rfl⟩
    have HD2:=hid hd2
    rw [← hd2] at YO
    have arZ:0≤d2∧d2≤21:=by rw [hd2]; split <;> omega
    clear hd2
    have QA:Hid (Back X.nodes (k+1)):=hid (fun q hq=>by
     by_cases e:q=k
     ·subst e; rw [al2.out]; omega
     ·exact HK.out q (by omega))
    generalize Yf X.nodes k=sb at *
    go_upto_if 76 with (go_at_call 148; refine YG.out.mono ?_; rintro e w8 ⟨rfl,hb8⟩; have HS8:=hid (PW.out.stays hb8); clear hb8)
    clear PW HNr YG hsl HC HC2 HSb
    go_cut [77] from 77 to 82 (fun v77 wx=>∃ o77:Value,o77=v77∧Hid (lT B W0 wx R vp vs ve X vt (.slice (some ⟨g,o,none⟩) X.nodes.length nc) bR bX db dc (ds.set k d2)))
    case first =>
     have ar0:=HS8.out.size
     cases sb
     ·have e2:d2=d1:=by rw [HD2.out]; simp
      have Vu:Hid (lT B W0 w8 R vp vs ve X vt (.slice (some ⟨g,o,none⟩) X.nodes.length nc) bR bX db dc (ds.set k d2)):=hid (by rw [e2]; exact HS8.out)
      clear e2
      go_wp2_with fail
      go_meet
      exact ⟨_,rfl,Vu⟩
     ·have e2:d2=d1+1:=by rw [HD2.out]; simp
      have Vu:Hid (lT B W0 (w8.setCell ⟨db,k,none⟩ (.int .i64 (d1+1))) R vp vs ve X vt (.slice (some ⟨g,o,none⟩) X.nodes.length nc) bR bX db dc (ds.set k d2)):=hid (by
       have:=HS8.out.set k (d1+1)
       rw [List.set_set,← e2] at this
       rw [← e2]
       exact this)
      have ci:w8.cell? ⟨db,k,none⟩=some (.int .i64 d1):=by
       have:=HS8.out.dp.cellAt k (by omega)
       rw [eY _ _ (by rw [HS8.out.len]; exact hi),List.getD_eq_getElem?_getD,List.getElem?_set_self (by have:=HS8.out.len; rw [List.length_set] at this; omega)] at this
       exact this
      have fi:w8.frozen? ⟨db,k,none⟩=false:=HS8.out.dp.frozenAt k
      have W1:IntKind.i64.wrap (d1+1)=d1+1:=IntWalk.i64_in _ (by omega)
      clear e2
      go_wp2_with fail
      go_meet
      exact ⟨_,rfl,Vu⟩
    case rest =>
     obtain ⟨o77,rfl,Vu⟩:=hcut
     go_upto_region 18 with (fail)
     have G0:lT B W0 wc.drew R vp vs ve X vt (.slice (some ⟨g,o,none⟩) X.nodes.length nc) bR bX db dc (ds.set k d2):=Vu.out.stays (below_drewN (Below.refl _ _) 1)
     clear Vu
     refine wp_region_noPanic ?_
     refine bU (S:=(fun w'=>w'.cell? ⟨bR,0,none⟩=some (.string R.name)∧w'.cell? ⟨bR,1,none⟩=some (.int .i64 R.width)∧w'.cell? ⟨bR,2,none⟩=some (.int .i64 R.height)∧w'.cell? ⟨bR,3,none⟩=some vp∧w'.cell? ⟨bR,4,none⟩=some vs∧w'.cell? ⟨bR,5,none⟩=some (.bool R.falls)∧w'.cell? ⟨bR,6,none⟩=some (.bool R.keeps)∧w'.cell? ⟨bR,7,none⟩=some ve∧w'.cell? ⟨bR,8,none⟩=some (.int .i64 R.blocked)∧w'.cell? ⟨bR,9,none⟩=some (.int .i64 R.quiet)∧w'.cell? ⟨bR,10,none⟩=some (.int .i64 R.aZ)∧w'.cell? ⟨bX,0,none⟩=some vt∧w'.cell? ⟨bX,1,none⟩=some (.string X.comment)∧w'.cell? ⟨bX,2,none⟩=some (.slice (some ⟨g,o,none⟩) X.nodes.length nc)∧w'.cell? ⟨bX,3,none⟩=some (.int .i64 X.result))) (L:=[10]) (by kernel_rfl) (by and_intros <;> first | exact G0.xC.cell _ rfl | exact G0.mF.cell _ rfl) (fun hHeld=>?_)
     refine eH 0 ?_
     refine eH 1 ?_
     refine aJ 2 ?_
     refine ZT (rs:=[3,9]) ?_
     refine (bC.cons (by first | (simp only [List.getElem?_toArray,List.getElem?_cons_zero,List.getElem?_cons_succ] <;> rfl) | rfl) (fun K hK=>?_) (bC.cons (by first | (simp only [List.getElem?_toArray,List.getElem?_cons_zero,List.getElem?_cons_succ] <;> rfl) | rfl) (fun K hK=>?_) bC.nil))
     ·skip
      go_simp
      refine (Rw X vt (.slice (some ⟨g,o,none⟩) X.nodes.length nc) k (k+1) _ (HX.out.below G0.low hB) QA.out (by omega) (by omega) (by omega)).mono ?_
      rintro e y3 ⟨vw,rfl,PX,hb3⟩
      obtain ⟨wa,wcp,rfl⟩:=aH PX
      have G3:=G0.stays hb3
      have M3:=lJ PX
      clear hb3 PX
      refine hK.out _ _ (by and_intros <;> first | exact G3.xC.cell _ rfl | exact G3.mF.cell _ rfl) (fun hHeld=>?_)
      clear hK K
      refine ZT (rs:=[4,9]) ?_
      refine (bC.cons (by first | (simp only [List.getElem?_toArray,List.getElem?_cons_zero,List.getElem?_cons_succ] <;> rfl) | rfl) (fun K hK=>?_) (bC.cons (by first | (simp only [List.getElem?_toArray,List.getElem?_cons_zero,List.getElem?_cons_succ] <;> rfl) | rfl) (fun K hK=>?_) bC.nil))
      ·skip
       go_simp
       refine (Eo pq.out R vp vs ve _ (dX X.nodes k) _ (HR.out.below G3.low hB) HN.out M3).mono ?_
       rintro e y4 ⟨hb4,a1,a2,a3,n1,m1,n2,m2,n3,m3,px,py,rv,rfl⟩
       have G4:=G3.stays hb4
       clear hb4
       refine hK.out _ _ (by and_intros <;> first | exact G4.xC.cell _ rfl | exact G4.mF.cell _ rfl) (fun hHeld=>?_)
       clear hK K
       refine aJ 5 ?_
       refine aJ 6 ?_
       refine aJ 7 ?_
       refine aJ 8 ?_
       refine gI 9 fun K hK=>?_
       go_simp
       refine bg ?_
       intro y9 e9
       have P9:Box y9 y4.heap.size [.slice none 0 0,.slice none 0 0,.slice none 0 0,.int .i64 0,.int .i64 0] 158:=by rw [e9]; exact Box.new y4 _ _
       have hp1:B≤y4.heap.size:=by have:db<y4.heap.size:=G4.size.2; have:=G4.size.1; omega
       have hp2:y4.heap.size≠bR:=by have:bR<y4.heap.size:=G4.xC.lt; omega
       have hp3:y4.heap.size≠bX:=by have:bX<y4.heap.size:=G4.mF.lt; omega
       have MX:y4.heap.size≠db:=by have:db<y4.heap.size:=G4.size.2; omega
       have G9:lT B W0 y9 R vp vs ve X vt (.slice (some ⟨g,o,none⟩) X.nodes.length nc) bR bX db dc (ds.set k d2):=by rw [e9]; exact G4.stays ((Below.refl _ _).alloc (Nat.le_refl _) _)
       clear e9
       refine hK.out _ _ (by and_intros <;> first | exact G9.xC.cell _ rfl | exact G9.mF.cell _ rfl) (fun hHeld=>?_)
       clear hK K
       refine xU 10 fun K hK=>?_
       have pd0:=P9.cell 0 rfl
       have pd1:=P9.cell 1 rfl
       have pd2:=P9.cell 2 rfl
       have pd3:=P9.cell 3 rfl
       have pd4:=P9.cell 4 rfl
       have pf0:=P9.frozen 0
       have pf1:=P9.frozen 1
       have pf2:=P9.frozen 2
       have pf3:=P9.frozen 3
       have pf4:=P9.frozen 4
       go_simp
       refine bg ?_
       intro y10 e10
       have Vo:lT B W0 y10 R vp vs ve X vt (.slice (some ⟨g,o,none⟩) X.nodes.length nc) bR bX db dc (ds.set k d2):=by rw [e10]; exact ((((G9.far _ _ _ hp1 hp2 hp3 MX).far _ _ _ hp1 hp2 hp3 MX).far _ _ _ hp1 hp2 hp3 MX).far _ _ _ hp1 hp2 hp3 MX).far _ _ _ hp1 hp2 hp3 MX
       clear e10 pd0 pf0 pd1 pf1 pd2 pf2 pd3 pf3 pd4 pf4
       refine hK.out _ _ ?_
       clear hK K
       refine aJ 11 ?_
       refine aJ 12 ?_
       refine kW ?_
       have HG:=hid Vo
       have JW:=hid hHeld
       clear Vo JW
       by_cases MZ:dA R (dX X.nodes k)=0
       rotate_left
       ·have HF:Hid (dU R X.nodes ds k=dA R (dX X.nodes k)):=hid (by rw [EZ.out,if_pos MZ])
        generalize hrr:dA R (dX X.nodes k)=ru at *
        clear hrr
        go_wp2_with fail
        go_ret
        exact ⟨by rw [HF.out]; rfl,HG.out.low,fun e=>absurd (HF.out.symm.trans e) MZ⟩
       have QH:Hid (dU R X.nodes ds k=if 20<uq X.nodes ds k then 2 else 0):=hid (by rw [EZ.out,if_neg (fun h=>h MZ)])
       rw [MZ]
       clear MZ EZ
       have ah1:=HG.out.size
       have ci:y10.cell? ⟨db,k,none⟩=some (.int .i64 d2):=by
        have:=HG.out.dp.cellAt k (by omega)
        rw [eY _ _ (by rw [HG.out.len]; exact hi),List.getD_eq_getElem?_getD,List.getElem?_set_self (by have:=HG.out.len; rw [List.length_set] at this; omega)] at this
        exact this
       by_cases h20:20<d2
       ·have HF:Hid (dU R X.nodes ds k=2):=hid (by rw [QH.out,if_pos (by rw [YO.out]; exact h20)])
        go_wp2_with fail
        go_ret
        exact ⟨by rw [HF.out]; rfl,HG.out.low,fun e=>by rw [HF.out] at e; cases e⟩
       ·have HF:Hid (dU R X.nodes ds k=0):=hid (by rw [QH.out,if_neg (by rw [YO.out]; exact h20)])
        go_wp2_with fail
        go_ret
        exact ⟨by rw [HF.out]; rfl,HG.out.low,fun _=>by rw [YO.out]; exact HG.out.dp⟩
      ·skip
       go_simp
       refine bg ?_
       intro y9 e9
       have P9:Box y9 y3.heap.size [.slice none 0 0,.slice none 0 0,.slice none 0 0,.int .i64 0,.int .i64 0] 158:=by rw [e9]; exact Box.new y3 _ _
       have hp1:B≤y3.heap.size:=by have:db<y3.heap.size:=G3.size.2; have:=G3.size.1; omega
       have hp2:y3.heap.size≠bR:=by have:bR<y3.heap.size:=G3.xC.lt; omega
       have hp3:y3.heap.size≠bX:=by have:bX<y3.heap.size:=G3.mF.lt; omega
       have MX:y3.heap.size≠db:=by have:db<y3.heap.size:=G3.size.2; omega
       have G9:lT B W0 y9 R vp vs ve X vt (.slice (some ⟨g,o,none⟩) X.nodes.length nc) bR bX db dc (ds.set k d2):=by rw [e9]; exact G3.stays ((Below.refl _ _).alloc (Nat.le_refl _) _)
       have M9:iQ jM y9 (.slice wa (dX X.nodes k).length wcp) (dX X.nodes k):=by rw [e9]; exact M3.below ((Below.refl _ _).alloc (Nat.le_refl _) _) (Nat.le_refl _)
       clear e9
       refine hK.out _ _ (by and_intros <;> first | exact G9.xC.cell _ rfl | exact G9.mF.cell _ rfl) (fun hHeld=>?_)
       clear hK K
       refine gI 4 fun K hK=>?_
       go_simp
       refine (Eo pq.out R vp vs ve _ (dX X.nodes k) _ (HR.out.below G9.low hB) HN.out M9).mono ?_
       rintro e y4 ⟨hb4,a1,a2,a3,n1,m1,n2,m2,n3,m3,px,py,rv,rfl⟩
       have G4:=G9.stays hb4
       have P4:=P9.stays hb4
       clear hb4
       refine hK.out _ _ (by and_intros <;> first | exact G4.xC.cell _ rfl | exact G4.mF.cell _ rfl) (fun hHeld=>?_)
       clear hK K
       refine aJ 5 ?_
       refine aJ 6 ?_
       refine aJ 7 ?_
       refine aJ 8 ?_
       refine xU 10 fun K hK=>?_
       have pd0:=P4.cell 0 rfl
       have pd1:=P4.cell 1 rfl
       have pd2:=P4.cell 2 rfl
       have pd3:=P4.cell 3 rfl
       have pd4:=P4.cell 4 rfl
       have pf0:=P4.frozen 0
       have pf1:=P4.frozen 1
       have pf2:=P4.frozen 2
       have pf3:=P4.frozen 3
       have pf4:=P4.frozen 4
       go_simp
       refine bg ?_
       intro y10 e10
       have Vo:lT B W0 y10 R vp vs ve X vt (.slice (some ⟨g,o,none⟩) X.nodes.length nc) bR bX db dc (ds.set k d2):=by rw [e10]; exact ((((G4.far _ _ _ hp1 hp2 hp3 MX).far _ _ _ hp1 hp2 hp3 MX).far _ _ _ hp1 hp2 hp3 MX).far _ _ _ hp1 hp2 hp3 MX).far _ _ _ hp1 hp2 hp3 MX
       clear e10 pd0 pf0 pd1 pf1 pd2 pf2 pd3 pf3 pd4 pf4
       refine hK.out _ _ ?_
       clear hK K
       refine aJ 11 ?_
       refine aJ 12 ?_
       refine kW ?_
       have HG:=hid Vo
       have JW:=hid hHeld
       clear Vo JW
       by_cases MZ:dA R (dX X.nodes k)=0
       rotate_left
       ·have HF:Hid (dU R X.nodes ds k=dA R (dX X.nodes k)):=hid (by rw [EZ.out,if_pos MZ])
        generalize hrr:dA R (dX X.nodes k)=ru at *
        clear hrr
        go_wp2_with fail
        go_ret
        exact ⟨by rw [HF.out]; rfl,HG.out.low,fun e=>absurd (HF.out.symm.trans e) MZ⟩
       have QH:Hid (dU R X.nodes ds k=if 20<uq X.nodes ds k then 2 else 0):=hid (by rw [EZ.out,if_neg (fun h=>h MZ)])
       rw [MZ]
       clear MZ EZ
       have ah1:=HG.out.size
       have ci:y10.cell? ⟨db,k,none⟩=some (.int .i64 d2):=by
        have:=HG.out.dp.cellAt k (by omega)
        rw [eY _ _ (by rw [HG.out.len]; exact hi),List.getD_eq_getElem?_getD,List.getElem?_set_self (by have:=HG.out.len; rw [List.length_set] at this; omega)] at this
        exact this
       by_cases h20:20<d2
       ·have HF:Hid (dU R X.nodes ds k=2):=hid (by rw [QH.out,if_pos (by rw [YO.out]; exact h20)])
        go_wp2_with fail
        go_ret
        exact ⟨by rw [HF.out]; rfl,HG.out.low,fun e=>by rw [HF.out] at e; cases e⟩
       ·have HF:Hid (dU R X.nodes ds k=0):=hid (by rw [QH.out,if_neg (by rw [YO.out]; exact h20)])
        go_wp2_with fail
        go_ret
        exact ⟨by rw [HF.out]; rfl,HG.out.low,fun _=>by rw [YO.out]; exact HG.out.dp⟩
     ·skip
      go_simp
      refine bg ?_
      intro y9 e9
      have P9:Box y9 wc.heap.size [.slice none 0 0,.slice none 0 0,.slice none 0 0,.int .i64 0,.int .i64 0] 158:=by rw [e9]; exact Box.new wc.drew _ _
      have hp1:B≤wc.heap.size:=by have:db<wc.heap.size:=G0.size.2; have:=G0.size.1; omega
      have hp2:wc.heap.size≠bR:=by have:bR<wc.heap.size:=G0.xC.lt; omega
      have hp3:wc.heap.size≠bX:=by have:bX<wc.heap.size:=G0.mF.lt; omega
      have MX:wc.heap.size≠db:=by have:db<wc.heap.size:=G0.size.2; omega
      have G9:lT B W0 y9 R vp vs ve X vt (.slice (some ⟨g,o,none⟩) X.nodes.length nc) bR bX db dc (ds.set k d2):=by rw [e9]; exact G0.stays ((Below.refl _ _).alloc (Nat.le_refl _) _)
      clear e9
      refine hK.out _ _ (by and_intros <;> first | exact G9.xC.cell _ rfl | exact G9.mF.cell _ rfl) (fun hHeld=>?_)
      clear hK K
      refine gI 3 fun K hK=>?_
      go_simp
      refine (Rw X vt (.slice (some ⟨g,o,none⟩) X.nodes.length nc) k (k+1) _ (HX.out.below G9.low hB) QA.out (by omega) (by omega) (by omega)).mono ?_
      rintro e y3 ⟨vw,rfl,PX,hb3⟩
      obtain ⟨wa,wcp,rfl⟩:=aH PX
      have G3:=G9.stays hb3
      have P3:=P9.stays hb3
      have M3:=lJ PX
      clear hb3 PX
      refine hK.out _ _ (by and_intros <;> first | exact G3.xC.cell _ rfl | exact G3.mF.cell _ rfl) (fun hHeld=>?_)
      clear hK K
      refine gI 4 fun K hK=>?_
      go_simp
      refine (Eo pq.out R vp vs ve _ (dX X.nodes k) _ (HR.out.below G3.low hB) HN.out M3).mono ?_
      rintro e y4 ⟨hb4,a1,a2,a3,n1,m1,n2,m2,n3,m3,px,py,rv,rfl⟩
      have G4:=G3.stays hb4
      have P4:=P3.stays hb4
      clear hb4
      refine hK.out _ _ (by and_intros <;> first | exact G4.xC.cell _ rfl | exact G4.mF.cell _ rfl) (fun hHeld=>?_)
      clear hK K
      refine aJ 5 ?_
      refine aJ 6 ?_
      refine aJ 7 ?_
      refine aJ 8 ?_
      refine xU 10 fun K hK=>?_
      have pd0:=P4.cell 0 rfl
      have pd1:=P4.cell 1 rfl
      have pd2:=P4.cell 2 rfl
      have pd3:=P4.cell 3 rfl
      have pd4:=P4.cell 4 rfl
      have pf0:=P4.frozen 0
      have pf1:=P4.frozen 1
      have pf2:=P4.frozen 2
      have pf3:=P4.frozen 3
      have pf4:=P4.frozen 4
      go_simp
      refine bg ?_
      intro y10 e10
      have Vo:lT B W0 y10 R vp vs ve X vt (.slice (some ⟨g,o,none⟩) X.nodes.length nc) bR bX db dc (ds.set k d2):=by rw [e10]; exact ((((G4.far _ _ _ hp1 hp2 hp3 MX).far _ _ _ hp1 hp2 hp3 MX).far _ _ _ hp1 hp2 hp3 MX).far _ _ _ hp1 hp2 hp3 MX).far _ _ _ hp1 hp2 hp3 MX
      clear e10 pd0 pf0 pd1 pf1 pd2 pf2 pd3 pf3 pd4 pf4
      refine hK.out _ _ ?_
      clear hK K
      refine aJ 11 ?_
      refine aJ 12 ?_
      refine kW ?_
      have HG:=hid Vo
      have JW:=hid hHeld
      clear Vo JW
      by_cases MZ:dA R (dX X.nodes k)=0
      rotate_left
      ·have HF:Hid (dU R X.nodes ds k=dA R (dX X.nodes k)):=hid (by rw [EZ.out,if_pos MZ])
       generalize hrr:dA R (dX X.nodes k)=ru at *
       clear hrr
       go_wp2_with fail
       go_ret
       exact ⟨by rw [HF.out]; rfl,HG.out.low,fun e=>absurd (HF.out.symm.trans e) MZ⟩
      have QH:Hid (dU R X.nodes ds k=if 20<uq X.nodes ds k then 2 else 0):=hid (by rw [EZ.out,if_neg (fun h=>h MZ)])
      rw [MZ]
      clear MZ EZ
      have ah1:=HG.out.size
      have ci:y10.cell? ⟨db,k,none⟩=some (.int .i64 d2):=by
       have:=HG.out.dp.cellAt k (by omega)
       rw [eY _ _ (by rw [HG.out.len]; exact hi),List.getD_eq_getElem?_getD,List.getElem?_set_self (by have:=HG.out.len; rw [List.length_set] at this; omega)] at this
       exact this
      by_cases h20:20<d2
      ·have HF:Hid (dU R X.nodes ds k=2):=hid (by rw [QH.out,if_pos (by rw [YO.out]; exact h20)])
       go_wp2_with fail
       go_ret
       exact ⟨by rw [HF.out]; rfl,HG.out.low,fun e=>by rw [HF.out] at e; cases e⟩
      ·have HF:Hid (dU R X.nodes ds k=0):=hid (by rw [QH.out,if_neg (by rw [YO.out]; exact h20)])
       go_wp2_with fail
       go_ret
       exact ⟨by rw [HF.out]; rfl,HG.out.low,fun _=>by rw [YO.out]; exact HG.out.dp⟩
theorem aeD {R:au} {ns:List aX} {ds:List Int} {i:Nat} (hd:∀ k,0≤ds.getD k 0∧ds.getD k 0≤20) (h:dU R ns ds i=0):0≤uq ns ds i∧uq ns ds i≤20:=by
 constructor
 ·unfold uq
  have:=hd (aG ns i).parent.toNat
  have:=hd i
  split <;> split <;> omega
 ·unfold dU at h
  by_cases h1:dQ (aG ns i).comment≠0
  ·rw [if_pos h1] at h; exact absurd h h1
  rw [if_neg h1] at h
  by_cases h2:(i:Int)≤(aG ns i).parent∨wE ns (aG ns i).parent ((i:Int) - 1)=false
  ·rw [if_pos h2] at h; cases h
  rw [if_neg h2] at h
  by_cases h3:qR ns i=true
  ·rw [if_pos h3] at h; cases h
  rw [if_neg h3] at h
  by_cases h4:dA R (dX ns i)≠0
  ·rw [if_pos h4] at h; exact absurd h h4
  rw [if_neg h4] at h
  by_cases h5:20<uq ns ds i
  ·rw [if_pos h5] at h; cases h
  ·omega
theorem ah2 {ds:List Int} (hd:∀ k,0≤ds.getD k 0∧ds.getD k 0≤20) (i:Nat) (v:Int) (hv:0≤v∧v≤20) (k:Nat):0≤(ds.set i v).getD k 0∧(ds.set i v).getD k 0≤20:=by
 rw [List.getD_eq_getElem?_getD,List.getElem?_set]
 by_cases e:i=k
 ·rw [if_pos e]
  split
  ·exact hv
  ·simp
 ·rw [if_neg e,← List.getD_eq_getElem?_getD]; exact hd k
set_option maxRecDepth 100000 in
set_option maxHeartbeats 16000000 in
theorem Jr (HS:SortMvSaid) (R:au) (vp vs ve:Value) (X:iM) (vt vn:Value) (w:World) (hr:qo w R vp vs ve) (hnm:R.name.size≤maxLen) (hx:Vx w X vt vn) :
  Calls Tryz.prog 51 #[(.agg #[.string R.name,.int .i64 R.width,.int .i64 R.height,vp,vs,.bool R.falls,.bool R.keeps,ve,.int .i64 R.blocked,.int .i64 R.quiet,.int .i64 R.aZ]),vP X vt vn] w fun e w'=>e=.returned (.int .i64 (dI R X))∧Below w.heap.size w w':=by
 have pq:=hid HS
 have HR:=hid hr
 have HN:=hid hnm
 have HX:=hid hx
 have HE:Hid (dI R X=if aF R≠0 then aF R else if 10<X.tags.length∨200<X.nodes.length then 2 else if iO X.tags≠0 then iO X.tags else
  if X.result<0∨3<X.result then 4 else if dQ X.comment≠0 then dQ X.comment else iZ R X.nodes X.nodes.length 0 (List.replicate X.nodes.length 0)):=hid rfl
 obtain ⟨na,nc,rfl,hn1,hn2⟩:=hx.2.1.form
 obtain ⟨ta,tc,rfl,ht1,ht2⟩:=hx.1.form
 obtain ⟨i0,hi,hz0,hz1,hz2⟩:=info_parts info3
 have hcs:=hx.2.2
 unfold maxLen at hn2 ht2
 clear hr hnm hx HS
 unfold vP
 go_enter Tryz.func51,Tryz.ntmps51
 go_upto_region 1 with (fail)
 obtain ⟨bR,hbR⟩:∃ bR,bR=w.heap.size:=⟨_,rfl⟩
 obtain ⟨bX,hbX⟩:∃ bX,bX=w.heap.size+1:=⟨_,rfl⟩
 have HbR:Hid (Box ((w.alloc (.cells #[.string R.name,.int .i64 R.width,.int .i64 R.height,vp,vs,.bool R.falls,.bool R.keeps,ve,.int .i64 R.blocked,.int .i64 R.quiet,.int .i64 R.aZ] 61)).alloc (.cells #[.slice ta X.tags.length tc,.string X.comment,.slice na X.nodes.length nc,.int .i64 X.result] 79)) bR [.string R.name,.int .i64 R.width,.int .i64 R.height,vp,vs,.bool R.falls,.bool R.keeps,ve,.int .i64 R.blocked,.int .i64 R.quiet,.int .i64 R.aZ] 61):=hid ((Box.new' w bR [.string R.name,.int .i64 R.width,.int .i64 R.height,vp,vs,.bool R.falls,.bool R.keeps,ve,.int .i64 R.blocked,.int .i64 R.quiet,.int .i64 R.aZ] 61 hbR.symm).alloc _)
 have HbX:Hid (Box ((w.alloc (.cells #[.string R.name,.int .i64 R.width,.int .i64 R.height,vp,vs,.bool R.falls,.bool R.keeps,ve,.int .i64 R.blocked,.int .i64 R.quiet,.int .i64 R.aZ] 61)).alloc (.cells #[.slice ta X.tags.length tc,.string X.comment,.slice na X.nodes.length nc,.int .i64 X.result] 79)) bX [.slice ta X.tags.length tc,.string X.comment,.slice na X.nodes.length nc,.int .i64 X.result] 79):=hid (Box.new' (w.alloc (.cells #[.string R.name,.int .i64 R.width,.int .i64 R.height,vp,vs,.bool R.falls,.bool R.keeps,ve,.int .i64 R.blocked,.int .i64 R.quiet,.int .i64 R.aZ] 61)) bX [.slice ta X.tags.length tc,.string X.comment,.slice na X.nodes.length nc,.int .i64 X.result] 79 (by rw [World.size_alloc,hbX]))
 have HB:Hid (Below w.heap.size w ((w.alloc (.cells #[.string R.name,.int .i64 R.width,.int .i64 R.height,vp,vs,.bool R.falls,.bool R.keeps,ve,.int .i64 R.blocked,.int .i64 R.quiet,.int .i64 R.aZ] 61)).alloc (.cells #[.slice ta X.tags.length tc,.string X.comment,.slice na X.nodes.length nc,.int .i64 X.result] 79))):=hid (((Below.refl w.heap.size w).alloc (Nat.le_refl _) _).alloc (by rw [World.size_alloc]; omega) _)
 rw [← hbR,show bR+1=bX by omega]
 clear hbX hbR
 generalize ((w.alloc (.cells #[.string R.name,.int .i64 R.width,.int .i64 R.height,vp,vs,.bool R.falls,.bool R.keeps,ve,.int .i64 R.blocked,.int .i64 R.quiet,.int .i64 R.aZ] 61)).alloc (.cells #[.slice ta X.tags.length tc,.string X.comment,.slice na X.nodes.length nc,.int .i64 X.result] 79))=w0 at *
 refine wp_region_lit ?_
 refine aB (by rfl) 61 (.tmp 2) (by rfl) bR (by rfl) HbR.out Tryz.underlying61 (by rfl) (by kernel_rfl) ?_
 go_wp2_with fail
 refine (nY R vp vs ve _ (HR.out.below HB.out (Nat.le_refl _)) HN.out).mono ?_
 rintro e w1 ⟨rfl,hb1⟩
 have HB1:=hid (HB.out.trans (hb1.mono HB.out.size))
 have ah3:=hid (HbR.out.stays hb1)
 have UM:=hid (HbX.out.stays hb1)
 clear HB HbR HbX hb1
 by_cases hre:aF R=0
 rotate_left
 ·have HF:Hid (dI R X=aF R):=hid (by rw [HE.out,if_pos hre])
  generalize hrr:aF R=re at *
  clear hrr
  go_wp2_with fail
  go_ret
  exact ⟨by rw [HF.out]; rfl,HB1.out⟩
 have jR:Hid (dI R X=if 10<X.tags.length∨200<X.nodes.length then 2 else if iO X.tags≠0 then iO X.tags else
  if X.result<0∨3<X.result then 4 else if dQ X.comment≠0 then dQ X.comment else iZ R X.nodes X.nodes.length 0 (List.replicate X.nodes.length 0)):=hid (by rw [HE.out,if_neg (fun h=>h hre)])
 rw [hre]
 clear hre HE
 have x0:=UM.out.cell 0 rfl
 have x2:=UM.out.cell 2 rfl
 have hxl:=UM.out.lt
 by_cases ar1:(10:Int)<(X.tags.length:Int)
 ·have HF:Hid (dI R X=2):=hid (by rw [jR.out,if_pos (.inl (by omega))])
  go_wp2_with fail
  go_ret
  exact ⟨by rw [HF.out]; rfl,HB1.out⟩
 by_cases aoP:(200:Int)<(X.nodes.length:Int)
 ·have HF:Hid (dI R X=2):=hid (by rw [jR.out,if_pos (.inr (by omega))])
  go_wp2_with fail
  go_ret
  exact ⟨by rw [HF.out]; rfl,HB1.out⟩
 have HE2:Hid (dI R X=if iO X.tags≠0 then iO X.tags else
  if X.result<0∨3<X.result then 4 else if dQ X.comment≠0 then dQ X.comment else iZ R X.nodes X.nodes.length 0 (List.replicate X.nodes.length 0)):=hid (by rw [jR.out,if_neg (by omega)])
 clear jR
 have HTg:=fun w' hb=>YF X (.slice ta X.tags.length tc) (.slice na X.nodes.length nc) w' (HX.out.below hb (Nat.le_refl _)) (by omega)
 have HTg:=hid HTg
 go_upto_region 6 with (fail)
 refine wp_region_lit ?_
 refine aB (by rfl) 79 (.tmp 3) (by rfl) bX (by rfl) UM.out Tryz.underlying79 (by rfl) (by kernel_rfl) ?_
 go_wp2_with fail
 refine (HTg.out _ HB1.out).mono ?_
 rintro e w2 ⟨rfl,hb2⟩
 have HB2:=hid (HB1.out.trans (hb2.mono HB1.out.size))
 have ah4:=hid (ah3.out.stays hb2)
 have PY:=hid (UM.out.stays hb2)
 clear HB1 ah3 UM hb2 x0 x2 HTg
 by_cases hte:iO X.tags=0
 rotate_left
 ·have HF:Hid (dI R X=iO X.tags):=hid (by rw [HE2.out,if_pos hte])
  generalize hrr:iO X.tags=re at *
  clear hrr
  go_wp2_with fail
  go_ret
  exact ⟨by rw [HF.out]; rfl,HB2.out⟩
 have xQ:Hid (dI R X=if X.result<0∨3<X.result then 4 else if dQ X.comment≠0 then dQ X.comment else iZ R X.nodes X.nodes.length 0 (List.replicate X.nodes.length 0)):=hid (by rw [HE2.out,if_neg (fun h=>h hte)])
 rw [hte]
 clear hte HE2
 have x1:=PY.out.cell 1 rfl
 have x2:=PY.out.cell 2 rfl
 have x3:=PY.out.cell 3 rfl
 have hxl:=PY.out.lt
 by_cases hr0:X.result<0
 ·have HF:Hid (dI R X=4):=hid (by rw [xQ.out,if_pos (.inl hr0)])
  go_wp2_with fail
  go_ret
  exact ⟨by rw [HF.out]; rfl,HB2.out⟩
 by_cases hr3:3<X.result
 ·have HF:Hid (dI R X=4):=hid (by rw [xQ.out,if_pos (.inr hr3)])
  go_wp2_with fail
  go_ret
  exact ⟨by rw [HF.out]; rfl,HB2.out⟩
 have EZ:Hid (dI R X=if dQ X.comment≠0 then dQ X.comment else iZ R X.nodes X.nodes.length 0 (List.replicate X.nodes.length 0)):=hid (by rw [xQ.out,if_neg (by omega)])
 have HCm:=hid (AB X.comment w2 hcs)
 clear xQ
 by_cases hce:dQ X.comment=0
 rotate_left
 ·have HF:Hid (dI R X=dQ X.comment):=hid (by rw [EZ.out,if_pos hce])
  generalize hrr:dQ X.comment=re at *
  clear hrr
  go_wp2_with (go_at_call 100; refine HCm.out.mono ?_; rintro e w5 ⟨rfl,rfl⟩)
  go_ret
  exact ⟨by rw [HF.out]; rfl,HB2.out⟩
 have QH:Hid (dI R X=iZ R X.nodes X.nodes.length 0 (List.replicate X.nodes.length 0)):=hid (by rw [EZ.out,if_neg (fun h=>h hce)])
 rw [hce] at HCm
 clear hce EZ
 obtain ⟨bb,hbb⟩:∃ bb,bb=w2.heap.size:=⟨_,rfl⟩
 go_upto_region 15 with (first
  | (go_at_call 100; refine HCm.out.mono ?_; rintro e w5 ⟨rfl,rfl⟩)
  | (at_make; refine wpList_make_full _ rfl _ _ 22 rfl w2.heap.size 3 i0 (.int .i64 0) 1 Tryz.underlying22 hi hz0 hz1 .i64 .i64 X.nodes.length X.nodes.length X.nodes.length rfl rfl rfl rfl (by rw [hz2]; omega) (by unfold maxLen; omega) (Nat.le_refl _) ?_; intro w3 hown hgrow))
 rw [Fv] at hown
 rw [← hbb] at hown ⊢
 have qX:=hid hown
 have HB3:Hid (Below bb w2 w3):=hid (by rw [hbb]; exact Below.grown (Below.refl _ w2) hgrow (Nat.le_refl _) (fun q hq=>by cases hq))
 have al6:bR<bb:=by rw [hbb]; exact ah4.out.lt
 have ah5:bX<bb:=by rw [hbb]; exact PY.out.lt
 have zU:w2.heap.size≤bb:=by omega
 have ar2:bb≤w2.heap.size:=by omega
 have hw2:=HB2.out.size
 have zW:=(qX.out.lt bb rfl).2
 have x23:=(PY.out.below HB3.out ah5).cell 2 rfl
 clear hown hgrow hbb HCm x1 x2 x3
 have HD0:Hid (∀ k,0≤(List.replicate X.nodes.length (0:Int)).getD k 0∧(List.replicate X.nodes.length (0:Int)).getD k 0≤20):=hid (fun k=>by
  have:(List.replicate X.nodes.length (0:Int)).getD k 0=0:=by
   rw [List.getD_eq_getElem?_getD,List.getElem?_replicate]; split <;> rfl
  rw [this]; omega)
 go_wp2_with fail
 go_loopw [52,9,10] (fun v52 v9 v10 wr=>∃ (k:Nat) (o9 o10:Value) (ds:List Int),o9=v9∧o10=v10∧k≤X.nodes.length∧v52=.int .i64 k∧Hid (dI R X=iZ R X.nodes (X.nodes.length - k) k ds)∧Hid (rJ R X.nodes k)∧Hid (∀ j,0≤ds.getD j 0∧ds.getD j 0≤20)∧Hid (wr.ownsRow bb 3 1 (.slice (some ⟨bb,0,none⟩) X.nodes.length X.nodes.length) X.nodes.length (ints ds))∧Hid (Below bb w2 wr)) (fun v _ _ _=>X.nodes.length - (intOf v).toNat)
 case atStart=>exact ⟨0,_,_,List.replicate X.nodes.length 0,rfl,rfl,Nat.zero_le _,rfl,QH,hid ⟨fun k hk=>absurd hk (Nat.not_lt_zero _),fun k hk=>absurd hk (Nat.not_lt_zero _),fun k _ _ hk=>absurd hk (Nat.not_lt_zero _),fun k hk=>absurd hk (Nat.not_lt_zero _)⟩,HD0,qX,HB3⟩
 case round =>
  obtain ⟨k,o9,o10,ds,rfl,rfl,hk,rfl,HK,HNk,HDs,HO,bD⟩:=hrel
  by_cases hlt:k<X.nodes.length
  ·have UH:=hid (YN pq.out R vp vs ve X (.slice ta X.tags.length tc) (.slice na X.nodes.length nc) ds bb bb X.nodes.length k w2 wr (HR.out.below HB2.out (Nat.le_refl _)) HN.out (HX.out.below HB2.out (Nat.le_refl _)) zU bD.out HO.out hlt (by omega) HNk.out.back HDs.out)
   have al8:=hid (ah4.out.below bD.out al6)
   have al9:=hid (PY.out.below bD.out ah5)
   have HKs:Hid (dI R X=if dU R X.nodes ds k≠0 then dU R X.nodes ds k else iZ R X.nodes (X.nodes.length - (k+1)) (k+1) (ds.set k (uq X.nodes ds k))):=hid (by
    rw [HK.out,show X.nodes.length - k=(X.nodes.length - (k+1))+1 by omega,iZ])
   unfold vP at UH
   have hkl:(k:Int)<(X.nodes.length:Int):=by omega
   clear HK
   go_upto_region 18 with (fail)
   refine wp_region_lit ?_
   refine aB (by rfl) 61 (.tmp 2) (by rfl) bR (by rfl) al8.out Tryz.underlying61 (by rfl) (by kernel_rfl) ?_
   refine aB (by rfl) 79 (.tmp 3) (by rfl) bX (by rfl) al9.out Tryz.underlying79 (by rfl) (by kernel_rfl) ?_
   go_wp2_with fail
   refine UH.out.mono ?_
   rintro e w6 ⟨rfl,hb6,Ic⟩
   have ZF:=hid hb6
   clear hb6 UH
   by_cases hne:dU R X.nodes ds k=0
   ·have QE:=hid (Ic hne)
    have HK6:Hid (dI R X=iZ R X.nodes (X.nodes.length - (k+1)) (k+1) (ds.set k (uq X.nodes ds k))):=hid (by rw [HKs.out,if_neg (fun h=>h hne)])
    have HN6:=hid (Ea hlt HNk.out hne)
    have HD6:=hid (ah2 HDs.out k _ (aeD HDs.out hne))
    rw [hne]
    clear Ic hne HKs
    go_wp2_with fail
    go_roundw
    case rel=>exact ⟨k+1,_,_,_,rfl,rfl,by omega,by go_num,HK6,HN6,HD6,QE,ZF⟩
    case measure=>simp [intOf]; omega
   ·have HF:Hid (dI R X=dU R X.nodes ds k):=hid (by rw [HKs.out,if_pos hne])
    generalize hrr:dU R X.nodes ds k=re at *
    clear hrr Ic HKs
    go_wp2_with fail
    go_ret
    exact ⟨by rw [HF.out]; rfl,HB2.out.trans (ZF.out.mono (by omega))⟩
  ·obtain rfl:k=X.nodes.length:=by omega
   have HF:Hid (dI R X=0):=hid (by rw [HK.out,Nat.sub_self]; rfl)
   go_wp2_with fail
   go_ret
   exact ⟨by rw [HF.out]; rfl,HB2.out.trans (bD.out.mono (by omega))⟩
end Go.Proofs.YteablcielclaeaaGreatDoor
namespace Go.Proofs.YteablcielclaeaaGreatDoor
open Go.ChangeShapes Go.WideShapes Go.ChangeAt Go.RowKit
set_option linter.unusedVariables false
set_option maxRecDepth 100000
set_option maxHeartbeats 8000000
variable {R:au} {vp vs ve:Value}
end Go.Proofs.YteablcielclaeaaGreatDoor

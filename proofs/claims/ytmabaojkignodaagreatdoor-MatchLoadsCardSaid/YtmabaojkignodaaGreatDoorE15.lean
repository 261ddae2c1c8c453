/- GmB, GmC. -/
import Derived.Test.YtmabaojkignodaaGreatDoorE13
import Derived.Test.YtmabaojkignodaaGreatDoorE14
namespace Go.Proofs.YtmabaojkignodaaGreatDoor
open Go.ChangeShapes Go.WideShapes Go.ChangeAt Go.RowKit
set_option linter.unusedVariables false
set_option maxHeartbeats 4000000
set_option maxRecDepth 100000
open Go.Lib (hid)
structure Qx where
 x:jd
 v:Value
deriving Inhabited
def pq (l:List Qx):List Value:=l.flatMap fun r=>[.int .u8 r.x.letter,.int .i64 r.x.hand,.int .i64 r.x.promote,r.v]
theorem Am (r:Qx) (t:List Qx):pq (r :: t)=.int .u8 r.x.letter :: .int .i64 r.x.hand :: .int .i64 r.x.promote :: r.v :: pq t:=rfl
theorem En (l:List Qx) (r:Qx):pq l++[.int .u8 r.x.letter,.int .i64 r.x.hand,.int .i64 r.x.promote,r.v]=pq (l++[r]):=by simp [pq]
theorem yK:∀ (l:List Qx) (i:Nat) (h:i<l.length),((pq l).drop (i * 4)).take 4=[.int .u8 l[i].x.letter,.int .i64 l[i].x.hand,.int .i64 l[i].x.promote,l[i].v]
 | r :: t,0,_=>by rw [Am]; simp
 | r :: t,i+1,h=>by
  have ih:=yK t i (by simpa using h)
  rw [Am,show (i+1) * 4=i * 4+1+1+1+1 by omega]
  simp only [List.drop_succ_cons,List.getElem_cons_succ]
  exact ih
theorem Jz {w:World} {b:Nat} {v:Value} {ps:List jd} {rows:List Qx} (h:w.ownsRow b 145 4 v ps.length (pq rows)) (hm:rows.map (·.x)=ps) (hr:∀ r∈rows,gI jW w r.v r.x.ways):gI fK w v ps:=by
 subst hm
 refine gI.fD (el:=fK) (show w.ownsRow b 145 4 v (rows.map (·.x)).length (pq rows) by simpa using h) fun i hi=>?_
 have hi':i<rows.length:=by simpa using hi
 show fK.E w (rows.map (·.x))[i] (((pq rows).drop (i * 4)).take 4)
 rw [yK rows i hi',List.getElem_map]
 exact ⟨_,rfl,hr _ (List.getElem_mem hi')⟩
theorem UY (w:World) (x:ng) (cs:List Value) (h:jW.E w x cs):∀ u∈cs,u.oneCell'=true:=by
 simp only [jW] at h
 subst h
 intro u hu
 simp at hu
 rcases hu with rfl | rfl | rfl | rfl <;> rfl
theorem UZ (w:World) (x:ql) (cs:List Value) (h:kX.E w x cs):∀ u∈cs,u.oneCell'=true:=by
 simp only [kX] at h
 subst h
 intro u hu
 simp at hu
 rcases hu with rfl | rfl | rfl | rfl <;> rfl
theorem U0:(Tryz.prog.info? 145).map (fun i=>(i.zero,i.size,i.bytes))=some (some (.agg #[.int .u8 0,.int .i64 0,.int .i64 0,.slice none 0 0]),4,48):=by kernel_rfl
theorem U1 {x y z:Int} {a:Option Addr} {n c:Nat}:∀ u∈[Value.int .u8 x,.int .i64 y,.int .i64 z,.slice a n c],u.oneCell'=true:=by intro u hu; simp at hu; rcases hu with rfl | rfl | rfl | rfl <;> rfl
theorem Qy {ops:Array Oper} {rest:List Oper} {o:Oper} {a:Act} {Q:Exit→Act→World→Prop} (t e:TypeId) (z:Value) (k b:Nat)
  (hI:(Tryz.prog.info? e).map (fun i=>(i.zero,i.size,i.bytes))=some (some z,k,b)) (ht:Tryz.prog.underlying t=some (.slice e)) (hzs:z.cells.size=k) (hk:0<k) (hgd:o.guard=none) (s x:Operand)
  (ho:o.op=.call { callee:=.builtin .append,args:=#[s,x],argTypes:=#[t,t] }) (base:Nat) (v:Value) (n:Nat) (xs news:List Value) (W:World) (hown:W.ownsRow base e k v n xs) (hb:base≤W.heap.size)
  (hl:news.length=k) (h1:∀ u∈news,u.oneCell'=true) (hn:n+1≤100000000) (hbb:(n+1) * b≤140737488355328) (hs:a.eval s=v) (hx:a.eval x=.slice (some ⟨W.heap.size,0,none⟩) 1 1)
  (h:∀ g cap w',w'.ownsRow base e k (.slice (some ⟨g,0,none⟩) (n+1) cap) (n+1) (xs++news)→(W.alloc (.cells news.toArray e)).grownBy w' v.ownBlock→(v.ownBlock=some g∨W.heap.size≤g) →
   wpList Tryz.prog ops Q rest (a.put o.dst (.slice (some ⟨g,0,none⟩) (n+1) cap)) w'):wpList Tryz.prog ops Q (o :: rest) a (W.alloc (.cells news.toArray e)):=by
 obtain ⟨i,hi,hz,hsz,hby⟩:=jC hI
 refine wpList_append_lies _ hgd s x t ho base e i z k b ht hi hz hsz hby hzs hk v n xs hs (hown.alloc _) ⟨W.heap.size,0,none⟩ 1 1 news hx (by rw [hl,Nat.one_mul]) (Dk W news e) h1 (by decide) (by unfold maxLen; omega) hbb (by simp; omega) _ rfl ?_
 intro g cap w' hown' hg hat hlt
 refine h g cap w' hown' hg ?_
 rcases hat with e | e
 ·exact .inl e
 ·right; rw [e]; simp
theorem jZ {w:World} {base:Nat} {e:TypeId} {sz n:Nat} {v:Value} {xs:List Value} (h:w.ownsRow base e sz v n xs) {p:Addr} (hne:v.ownBlock≠some p.block) (u:Value):(w.setCell p u).ownsRow base e sz v n xs:=by
 refine ⟨h.1,?_⟩
 rcases h.2 with h0 | ⟨g,cap,cur,rfl,hb,hg,r⟩
 ·exact .inl h0
 ·exact .inr ⟨g,cap,cur,rfl,hb,(Below.heap_setCell w p u g (fun e=>hne (by rw [e]; rfl))).trans hg,r⟩
theorem Fr.U2 {S:Nat→Prop} {a w:World} (h:Fr S a w) {p:Addr} (hp:a.heap.size≤p.block) (u:Value):Fr S a (w.setCell p u):=
 ⟨h.os,h.tape,h.output,by simpa [World.setCell] using h.size,fun k hk hn=>(Below.heap_setCell _ _ _ _ (by omega)).trans (h.block k hk hn)⟩
def IW (b1 b2:Nat) (vo:Value):Nat→Prop:=fun k=>k=b1∨k=b2∨vo.ownBlock=some k
def Seen (lo:Nat) (w:World) (D:World→Prop):Prop:=∀ w',(∀ k,lo≤k→k<w.heap.size→w'.heap[k]?=w.heap[k]?)→D w'
theorem Seen.now {lo:Nat} {w:World} {D:World→Prop} (h:Seen lo w D):D w:=h w (fun _ _ _=>rfl)
theorem Seen.held {lo:Nat} {w w2:World} {D:World→Prop} {S:Nat→Prop} (h:Seen lo w D) (hb:Below w.heap.size w w2) (hS:∀ k,S k→k<lo∨w.heap.size≤k):Held S w2 D:=fun w' hw =>
 h w' fun k h1 h2=>(hw.block k (Nat.lt_of_lt_of_le h2 hb.size) (fun e=>by rcases hS k e with e | e <;> omega)).trans (hb.block k h2)
theorem wz {lo:Nat} {w w':World} {base:Nat} {e:TypeId} {sz n:Nat} {v:Value} {xs:List Value} (h:w.ownsRow base e sz v n xs) (hb:lo≤base) (hs:∀ k,lo≤k→k<w.heap.size→w'.heap[k]?=w.heap[k]?):w'.ownsRow base e sz v n xs:=by
 refine ⟨h.1,?_⟩
 rcases h.2 with h0 | ⟨g,cap,cur,rfl,hg,hx,r⟩
 ·exact .inl h0
 ·exact .inr ⟨g,cap,cur,rfl,hg,(hs g (by omega) (h.lt g rfl).2).trans hx,r⟩
def GZ (B:Nat) (w:World) (r:Qx):Prop:=∃ ws,w.ownsRow B 194 4 r.v r.x.ways.length ws∧∀ i (h:i<r.x.ways.length),jW.E w r.x.ways[i] ((ws.drop (i * 4)).take 4)
theorem GZ.rd {B:Nat} {w:World} {r:Qx} (h:GZ B w r):gI jW w r.v r.x.ways:=by
 obtain ⟨ws,h1,h2⟩:=h
 exact ji.rd (el:=jW) h1 h2
theorem GZ.seen {B lo:Nat} {w w':World} {r:Qx} (h:GZ B w r) (hb:lo≤B) (hs:∀ k,lo≤k→k<w.heap.size→w'.heap[k]?=w.heap[k]?):GZ B w' r:=by
 obtain ⟨ws,h1,h2⟩:=h
 exact ⟨ws,wz h1 hb hs,h2⟩
def Ns (R:aC) (w:World) (e:Ending) (w':World):Prop:=∃ vp vs ve,e=.returned (.agg #[.string R.name,.int .i64 R.width,.int .i64 R.height,vp,vs,.bool R.falls,.bool R.keeps,ve,.int .i64 R.blocked,.int .i64 R.quiet,.int .i64 R.bF])∧(Seen w.heap.size w' fun w''=>ru w'' R vp vs ve)∧Below w.heap.size w w'
theorem xP (R:aC) (vp vs ve:Value) (w:World) (hr:ru w R vp vs ve) (hp:R.pieces.length≤1000) (hs:R.start.length≤1000) (hen:R.ends.length≤1000) (hwl:∀ i,i<R.pieces.length→(R.pieces.getD i default).ways.length≤1000) :
  Calls Tryz.prog 43 #[.agg #[.string R.name,.int .i64 R.width,.int .i64 R.height,vp,vs,.bool R.falls,.bool R.keeps,ve,.int .i64 R.blocked,.int .i64 R.quiet,.int .i64 R.bF]] w (Ns R w):=by
 have HR:=hid hr
 have HW:=hid hwl
 obtain ⟨pa,pn,rfl,hp1,hp2⟩:=hr.1.form
 obtain ⟨sa,sn,rfl,hs1,hs2⟩:=hr.2.1.form
 obtain ⟨ea,en,rfl,he1,he2⟩:=hr.2.2.form
 unfold maxLen at hp2 hs2 he2
 clear hr hwl
 go_enter Tryz.func43,Tryz.ntmps43
 go_upto_region 1 with (fail)
 refine sV fun w0 B0 B1 dM hs_=>?_
 have HB:=hid dM
 have hz0:w.heap.size+1<w0.heap.size:=by omega
 have hsz0:w0.heap.size=w.heap.size+1+1:=by omega
 clear hs_ dM
 have xK:=hid (HR.out.below HB.out (Nat.le_refl _))
 have HX0:=hid B0
 have dn:=hid B1
 have Xe:=hid hsz0
 clear B0 B1 hsz0
 refine wp_region_lit ?_
 refine aB (by rfl) 46 (.tmp 1) (by rfl) w.heap.size (by rfl) HX0.out Tryz.underlying46 (by rfl) (by kernel_rfl) ?_
 go_upto_region 2 with (fail)
 have HY0:=hid (HX0.out.alloc (.cells #[.string R.name,.int .i64 R.width,.int .i64 R.height,.slice pa R.pieces.length pn,.slice sa R.start.length sn,.bool R.falls,.bool R.keeps,.slice ea R.ends.length en,.int .i64 R.blocked,.int .i64 R.quiet,.int .i64 R.bF] 46))
 have HY1:=hid (dn.out.alloc (.cells #[.string R.name,.int .i64 R.width,.int .i64 R.height,.slice pa R.pieces.length pn,.slice sa R.start.length sn,.bool R.falls,.bool R.keeps,.slice ea R.ends.length en,.int .i64 R.blocked,.int .i64 R.quiet,.int .i64 R.bF] 46))
 have HY2:=hid (Box.new' w0 (w.heap.size+1+1) [.string R.name,.int .i64 R.width,.int .i64 R.height,.slice pa R.pieces.length pn,.slice sa R.start.length sn,.bool R.falls,.bool R.keeps,.slice ea R.ends.length en,.int .i64 R.blocked,.int .i64 R.quiet,.int .i64 R.bF] 46 Xe.out)
 have Yg:=hid (HB.out.alloc HB.out.size (.cells #[.string R.name,.int .i64 R.width,.int .i64 R.height,.slice pa R.pieces.length pn,.slice sa R.start.length sn,.bool R.falls,.bool R.keeps,.slice ea R.ends.length en,.int .i64 R.blocked,.int .i64 R.quiet,.int .i64 R.bF] 46))
 rw [Xe.out]
 generalize (w0.alloc (.cells #[.string R.name,.int .i64 R.width,.int .i64 R.height,.slice pa R.pieces.length pn,.slice sa R.start.length sn,.bool R.falls,.bool R.keeps,.slice ea R.ends.length en,.int .i64 R.blocked,.int .i64 R.quiet,.int .i64 R.bF] 46))=w1 at *
 have d3:=HY2.out.cell 3 rfl
 have d3f:=HY2.out.frozen 3
 go_upto_region 3 with (fail)
 have HU0:=hid (HY0.out.far ⟨w.heap.size+1+1,3,none⟩ (.slice none 0 0) (by show ¬ w.heap.size=w.heap.size+1+1; omega))
 have HU1:=hid (HY1.out.far ⟨w.heap.size+1+1,3,none⟩ (.slice none 0 0) (by show ¬ w.heap.size+1=w.heap.size+1+1; omega))
 have HU2:Hid (Box (w1.setCell ⟨w.heap.size+1+1,3,none⟩ (.slice none 0 0)) (w.heap.size+1+1) ([.string R.name,.int .i64 R.width,.int .i64 R.height,.slice none 0 0,.slice sa R.start.length sn,.bool R.falls,.bool R.keeps,.slice ea R.ends.length en,.int .i64 R.blocked,.int .i64 R.quiet,.int .i64 R.bF]) 46):=hid (HY2.out.set 3 _)
 have HBU:=hid (Yg.out.setCell (p:=⟨w.heap.size+1+1,3,none⟩) (by show w.heap.size≤w.heap.size+1+1; omega) (.slice none 0 0))
 clear d3 d3f HX0 dn HY0 HY1 HY2 Yg HB xK hz0
 generalize (w1.setCell ⟨w.heap.size+1+1,3,none⟩ (.slice none 0 0))=w2 at *
 have e3:=HU0.out.cell 3 rfl
 go_wp2_with fail
 clear e3
 go_loopw [11,5] (fun vi vb wr=>∃ (k:Nat) (rows:List Qx) (vo:Value),k≤R.pieces.length∧vi=.int .i64 k∧Hid (rows.map (·.x)=R.pieces.take k)∧Hid (Box wr w.heap.size [.string R.name,.int .i64 R.width,.int .i64 R.height,.slice pa R.pieces.length pn,.slice sa R.start.length sn,.bool R.falls,.bool R.keeps,.slice ea R.ends.length en,.int .i64 R.blocked,.int .i64 R.quiet,.int .i64 R.bF] 46)∧Hid (Box wr (w.heap.size+1) [.string ⟨#[]⟩,.int .i64 0,.int .i64 0,.slice none 0 0,.slice none 0 0,.bool false,.bool false,.slice none 0 0,.int .i64 0,.int .i64 0,.int .i64 0] 46)∧Hid (Box wr (w.heap.size+1+1) ([.string R.name,.int .i64 R.width,.int .i64 R.height,vo,.slice sa R.start.length sn,.bool R.falls,.bool R.keeps,.slice ea R.ends.length en,.int .i64 R.blocked,.int .i64 R.quiet,.int .i64 R.bF]) 46) ∧
  Hid (wr.ownsRow (w.heap.size+1+1+1) 145 4 vo k (pq rows))∧Hid (Below w.heap.size w wr)∧Hid (∀ r∈rows,Held (IW (w.heap.size+1) (w.heap.size+1+1) vo) wr fun w'=>GZ (w.heap.size+1+1+1) w' r)) (fun i _ _=>R.pieces.length - (intOf i).toNat)
 case atStart=>exact ⟨0,[],.slice none 0 0,Nat.zero_le _,rfl,hid rfl,HU0,HU1,HU2,hid (World.ownsRow_nil _ _ _ _),HBU,hid (fun r hr=>by cases hr)⟩
 case round =>
  obtain ⟨k,rows,vo,hk,rfl,HM,HV0,HV1,HV2,HO,bC,U3⟩:=hrel
  have hz2:=HV2.out.lt
  by_cases hlt:k<R.pieces.length
  ·obtain ⟨g,o,hpa,hg,hcc⟩:=jP (HR.out.1.below bC.out (Nat.le_refl _)) (by omega)
   subst hpa
   obtain ⟨vw,c0,c1,c2,c3,hrw⟩:=hcc k hlt
   have hwk:=HW.out k hlt
   have HT:Hid (R.pieces.take (k+1)=R.pieces.take k++[R.pieces.getD k default]):=hid (by rw [List.take_succ_eq_append_getElem hlt,List.getD_eq_getElem?_getD,List.getElem?_eq_getElem hlt]; rfl)
   obtain ⟨wa,wc,rfl,hw1,hw2⟩:=hrw.form
   unfold maxLen at hw2
   have HWr:=hid hrw
   clear hcc hrw
   generalize R.pieces.getD k default=x at *
   go_upto_region 6 with (fail)
   have HPn:=hid (Box.new wr [.int .u8 x.letter,.int .i64 x.hand,.int .i64 x.promote,.slice wa x.ways.length wc] 145)
   have HA0:=hid (HV0.out.alloc (.cells #[.int .u8 x.letter,.int .i64 x.hand,.int .i64 x.promote,.slice wa x.ways.length wc] 145))
   have HA1:=hid (HV1.out.alloc (.cells #[.int .u8 x.letter,.int .i64 x.hand,.int .i64 x.promote,.slice wa x.ways.length wc] 145))
   have HA2:=hid (HV2.out.alloc (.cells #[.int .u8 x.letter,.int .i64 x.hand,.int .i64 x.promote,.slice wa x.ways.length wc] 145))
   have HAO:=hid (HO.out.alloc (.cells #[.int .u8 x.letter,.int .i64 x.hand,.int .i64 x.promote,.slice wa x.ways.length wc] 145))
   have HAB:=hid (bC.out.alloc bC.out.size (.cells #[.int .u8 x.letter,.int .i64 x.hand,.int .i64 x.promote,.slice wa x.ways.length wc] 145))
   have HAW:=hid (HWr.out.below ((Below.refl _ _).alloc (Nat.le_refl _) (.cells #[.int .u8 x.letter,.int .i64 x.hand,.int .i64 x.promote,.slice wa x.ways.length wc] 145)) (Nat.le_refl _))
   have HAF:=hid ((Fr.refl (IW (w.heap.size+1) (w.heap.size+1+1) vo) wr).alloc (.cells #[.int .u8 x.letter,.int .i64 x.hand,.int .i64 x.promote,.slice wa x.ways.length wc] 145))
   have hzA:wr.heap.size<(wr.alloc (.cells #[.int .u8 x.letter,.int .i64 x.hand,.int .i64 x.promote,.slice wa x.ways.length wc] 145)).heap.size:=by simp
   clear c0 c1 c2 c3
   generalize (wr.alloc (.cells #[.int .u8 x.letter,.int .i64 x.hand,.int .i64 x.promote,.slice wa x.ways.length wc] 145))=wa1 at *
   have p3:=HPn.out.cell 3 rfl
   go_wp2_with fail
   refine (Nl jW rfl UY _ x.ways wa1 HAW.out (by omega)).mono ?_
   rintro e wb ⟨vx,ws,rfl,how,hEw,hbb⟩
   obtain ⟨xa,xn,rfl⟩:=aI how
   have HB0:=hid (HA0.out.stays hbb)
   have HB1:=hid (HA1.out.stays hbb)
   have HB2:=hid (HA2.out.stays hbb)
   have HBO:=hid (bK HAO.out hbb)
   have U4:=hid (aj HAB.out hbb HAB.out.size)
   have HBP:=hid (HPn.out.stays hbb)
   have HBF:=hid (HAF.out.trans (Fr.jF (S:=IW (w.heap.size+1) (w.heap.size+1+1) vo) hbb) (dw.refl _ _))
   have hzB:=hbb.size
   have HOW:=hid how
   have HEW:=hid hEw
   have p3':=HBP.out.cell 3 rfl
   have p3f:=HBP.out.frozen 3
   clear p3 how hEw hbb HA0 HA1 HA2 HAO HAB HAF HPn HAW
   go_upto_region 7 with (fail)
   have HC0:=hid (HB0.out.far ⟨wr.heap.size,3,none⟩ (.slice xa x.ways.length xn) (by show ¬ w.heap.size=wr.heap.size; omega))
   have HC1:=hid (HB1.out.far ⟨wr.heap.size,3,none⟩ (.slice xa x.ways.length xn) (by show ¬ w.heap.size+1=wr.heap.size; omega))
   have HC2:=hid (HB2.out.far ⟨wr.heap.size,3,none⟩ (.slice xa x.ways.length xn) (by show ¬ w.heap.size+1+1=wr.heap.size; omega))
   have ZW:Hid (Box (wb.setCell ⟨wr.heap.size,3,none⟩ (.slice xa x.ways.length xn)) wr.heap.size [.int .u8 x.letter,.int .i64 x.hand,.int .i64 x.promote,.slice xa x.ways.length xn] 145):=hid (HBP.out.set 3 _)
   have Qz:∀ q,vo.ownBlock=some q→q≠wr.heap.size:=fun q hq=>by have:=(HO.out.lt q hq).2; omega
   have Yh:=hid (jZ HBO.out (p:=⟨wr.heap.size,3,none⟩) (fun e=>Qz _ e rfl) (.slice xa x.ways.length xn))
   have HCW:=hid (ownsRow_setCell_below HOW.out (a:=⟨wr.heap.size,3,none⟩) (by simpa using hzA) (.slice xa x.ways.length xn))
   have Dl:=hid (U4.out.setCell (p:=⟨wr.heap.size,3,none⟩) (by show w.heap.size≤wr.heap.size; omega) (.slice xa x.ways.length xn))
   have HCF:Hid (Fr (IW (w.heap.size+1) (w.heap.size+1+1) vo) wr (wb.setCell ⟨wr.heap.size,3,none⟩ (.slice xa x.ways.length xn))):=hid (HBF.out.U2 (p:=⟨wr.heap.size,3,none⟩) (Nat.le_refl _) _)
   have hzC:wb.heap.size=(wb.setCell ⟨wr.heap.size,3,none⟩ (.slice xa x.ways.length xn)).heap.size:=by simp [World.setCell]
   clear p3' p3f HB0 HB1 HB2 HBO U4 HBP HBF HOW Qz
   generalize (wb.setCell ⟨wr.heap.size,3,none⟩ (.slice xa x.ways.length xn))=wc1 at *
   have q0:=ZW.out.cell 0 rfl
   have q1:=ZW.out.cell 1 rfl
   have q2:=ZW.out.cell 2 rfl
   have q3:=ZW.out.cell 3 rfl
   have o3:=HC2.out.cell 3 rfl
   have hzW:=ZW.out.lt
   go_wp2_with (at_builtin; refine Qy 43 145 (.agg #[.int .u8 0,.int .i64 0,.int .i64 0,.slice none 0 0]) 4 48 U0 Tryz.underlying43 rfl (by decide) (by rfl) _ _ (by rfl) (w.heap.size+1+1+1) _ k (pq rows) [.int .u8 x.letter,.int .i64 x.hand,.int .i64 x.promote,.slice xa x.ways.length xn] wc1 Yh.out (by omega) rfl U1 (by omega) (by omega) (by rfl) (by rfl) ?_)
   intro g3 cap3 wd hown3 hg3 Yi
   have hnb:∀ b,b<w.heap.size+1+1+1→some b≠vo.ownBlock:=fun b hb e=>by have:=(Yh.out.lt b e.symm).1; omega
   have HD0:=hid ((HC0.out.alloc _).grown hg3 (hnb _ (by omega)))
   have HD1:=hid ((HC1.out.alloc _).grown hg3 (hnb _ (by omega)))
   have HD2:=hid ((HC2.out.alloc _).grown hg3 (hnb _ (by omega)))
   have IX:=hid (Below.grown (Dl.out.alloc Dl.out.size _) hg3 (by have:=Dl.out.size; simp; omega) (fun q hq=>by have:=(Yh.out.lt q hq).1; omega))
   have HDF:Hid (Fr (IW (w.heap.size+1) (w.heap.size+1+1) vo) wr wd):=hid ((HCF.out.alloc _).grown hg3 (fun q hq _=>.inr (.inr hq)))
   have HDC:Hid (Fr (IW (w.heap.size+1) (w.heap.size+1+1) vo) wc1 wd):=hid (((Fr.refl _ wc1).alloc _).grown hg3 (fun q hq _=>.inr (.inr hq)))
   have HDS:Hid (dw wr (IW (w.heap.size+1) (w.heap.size+1+1) vo) (IW (w.heap.size+1) (w.heap.size+1+1) (.slice (some ⟨g3,0,none⟩) (k+1) cap3))):=hid (fun q hq h=>by
    rcases h with h | h | h
    ·exact .inl h
    ·exact .inr (.inl h)
    ·obtain rfl:g3=q:=by simpa [Value.ownBlock] using h
     rcases Yi with e | e
     ·exact .inr (.inr e)
     ·omega)
   have aek:Hid (dw wc1 (IW (w.heap.size+1) (w.heap.size+1+1) vo) (IW (w.heap.size+1) (w.heap.size+1+1) (.slice (some ⟨g3,0,none⟩) (k+1) cap3))):=hid (fun q hq h=>by
    rcases h with h | h | h
    ·exact .inl h
    ·exact .inr (.inl h)
    ·obtain rfl:g3=q:=by simpa [Value.ownBlock] using h
     rcases Yi with e | e
     ·exact .inr (.inr e)
     ·omega)
   have HWN:Hid (Held (IW (w.heap.size+1) (w.heap.size+1+1) vo) wc1 fun w'=>GZ (w.heap.size+1+1+1) w' ⟨x,.slice xa x.ways.length xn⟩):=hid (fun w' hw=>⟨ws,own_base (gV HCW.out hw (fun q hq hS=>by
    have h1:=(HCW.out.lt q hq).1
    rcases hS with h | h | h
    ·omega
    ·omega
    ·have:=(HO.out.lt q h).2; omega)) (by omega),HEW.out⟩)
   have xH:=hid hown3
   have o3':=HD2.out.cell 3 rfl
   have mF:=HD2.out.frozen 3
   have hzD:w.heap.size+1+1<wd.heap.size:=HD2.out.lt
   clear q0 q1 q2 q3 o3 hown3 hg3 Yi hnb HC0 HC1 HC2 ZW Yh Dl HCF HCW
   go_wp2_with fail
   try simp only [Act.put]
   have HE2:Hid (Box (wd.setCell ⟨w.heap.size+1+1,3,none⟩ (.slice (some ⟨g3,0,none⟩) (k+1) cap3)) (w.heap.size+1+1) ([.string R.name,.int .i64 R.width,.int .i64 R.height,.slice (some ⟨g3,0,none⟩) (k+1) cap3,.slice sa R.start.length sn,.bool R.falls,.bool R.keeps,.slice ea R.ends.length en,.int .i64 R.blocked,.int .i64 R.quiet,.int .i64 R.bF]) 46):=hid (HD2.out.set 3 _)
   have HEF:Hid (Fr (IW (w.heap.size+1) (w.heap.size+1+1) (.slice (some ⟨g3,0,none⟩) (k+1) cap3)) wd (wd.setCell ⟨w.heap.size+1+1,3,none⟩ (.slice (some ⟨g3,0,none⟩) (k+1) cap3))):=hid ((Fr.refl _ _).setCell (.inr (.inl rfl)) _)
   go_roundw
   case rel=>exact ⟨k+1,rows++[⟨x,.slice xa x.ways.length xn⟩],.slice (some ⟨g3,0,none⟩) (k+1) cap3,by omega,by go_num,hid (by rw [HT.out,List.map_append,HM.out]; rfl),hid (HD0.out.far _ _ (by show ¬ w.heap.size=w.heap.size+1+1; omega)),hid (HD1.out.far _ _ (by show ¬ w.heap.size+1=w.heap.size+1+1; omega)),HE2,
    hid (by rw [← En]; exact ownsRow_setCell_below xH.out (by simp) _),hid (IX.out.setCell (by show w.heap.size≤w.heap.size+1+1; omega) _),hid (fun r hr=>by
     rcases List.mem_append.1 hr with h | h
     ·exact ((U3.out r h).step HDF.out HDS.out).step HEF.out (dw.refl _ _)
     ·obtain rfl:r=⟨x,.slice xa x.ways.length xn⟩:=by simpa using h
      exact (HWN.out.step HDC.out aek.out).step HEF.out (dw.refl _ _))⟩
   case measure=>simp [intOf]; omega
  ·obtain rfl:R.pieces.length=k:=by omega
   have ael:Hid (rows.map (·.x)=R.pieces):=hid (by rw [HM.out,List.take_of_length_le (Nat.le_refl _)])
   obtain ⟨oa,on,rfl⟩:=aI HO.out
   go_upto_region 9 with (fail)
   generalize wr=wq at *
   have B0z:=HV0.out.drew
   have B1z:=HV1.out.drew
   have B2z:=HV2.out.drew
   have Oz:wq.drew.ownsRow (w.heap.size+1+1+1) 145 4 (.slice oa R.pieces.length on) R.pieces.length (pq rows):=HO.out
   have Lz:Below w.heap.size w wq.drew:=aA bC.out
   have xK:Hid (∀ r∈rows,Held (IW (w.heap.size+1) (w.heap.size+1+1) (.slice oa R.pieces.length on)) wq.drew fun w'=>GZ (w.heap.size+1+1+1) w' r):=hid (fun r hr=>(U3.out r hr).step ((Fr.refl _ _).drew) (dw.refl _ _))
   have U3:=xK
   clear HV0 HV1 HV2 HO bC xK
   refine wp_region_noPanic ?_
   refine bG (S:=(fun w'=>w'.cell? ⟨w.heap.size,4,none⟩=some (.slice sa R.start.length sn)∧w'.cell? ⟨w.heap.size,7,none⟩=some (.slice ea R.ends.length en))) (L:=[7,9]) (by kernel_rfl) ⟨B0z.cell 4 rfl,B0z.cell 7 rfl⟩ (fun hHeld=>?_)
   refine aF 0 ?_
   refine aF 3 ?_
   refine dL 1 ?_
   refine dL 4 ?_
   refine dO 2 fun K hK=>?_
   go_simp
   refine (oL _ R.start _ (HR.out.2.1.below Lz (Nat.le_refl _)) (by omega)).mono ?_
   rintro e w2 ⟨vx,rfl,ho2,hb2⟩
   obtain ⟨Ug,Uh,rfl⟩:=aI ho2
   have B02:=B0z.stays hb2
   have B12:=B1z.stays hb2
   have B22:=B2z.stays hb2
   have L2:=aj Lz hb2 Lz.size
   have O2:=bK Oz hb2
   have F2:=Fr.jF (S:=IW (w.heap.size+1) (w.heap.size+1+1) (.slice oa R.pieces.length on)) hb2
   have I2:=ho2
   have G2:=B2z.lt
   clear hb2 ho2
   refine hK.out _ _ ⟨B02.cell 4 rfl,B02.cell 7 rfl⟩ (fun hHeld=>?_)
   clear hK K
   refine aF 6 ?_
   refine dO 5 fun K hK=>?_
   go_simp
   refine (Np kX rfl UZ _ R.ends _ (HR.out.2.2.below L2 (Nat.le_refl _)) (by omega)).mono ?_
   rintro e w5 ⟨vx,vs5,rfl,Xf,hE5,hb5⟩
   obtain ⟨U5,U6,rfl⟩:=aI Xf
   have B05:=B02.stays hb5
   have B15:=B12.stays hb5
   have B25:=B22.stays hb5
   have L5:=aj L2 hb5 L2.size
   have O5:=bK O2 hb5
   have F5:=F2.trans (Fr.jF (S:=IW (w.heap.size+1) (w.heap.size+1+1) (.slice oa R.pieces.length on)) hb5) (dw.refl _ _)
   have I5:=bK I2 hb5
   have J5:=Xf
   have G5:=B22.lt
   have G9:=hid hE5
   clear hb5 Xf hE5
   refine hK.out _ _ ⟨B05.cell 4 rfl,B05.cell 7 rfl⟩ (fun hHeld=>?_)
   clear hK K
   refine xE 7 fun K hK=>?_
   have d:=B25.cell 4 rfl
   have df:=B25.frozen 4
   go_simp
   refine aK ?_
   intro w7 e7
   have B27:Box w7 (w.heap.size+1+1) [.string R.name,.int .i64 R.width,.int .i64 R.height,.slice oa R.pieces.length on,.slice Ug R.start.length Uh,.bool R.falls,.bool R.keeps,.slice ea R.ends.length en,.int .i64 R.blocked,.int .i64 R.quiet,.int .i64 R.bF] 46:=by rw [e7]; exact B25.set 4 _
   have E7:=hid e7
   clear e7 d df
   refine hK.out _ _ ?_
   clear hK K
   refine aF 8 ?_
   refine xE 9 fun K hK=>?_
   have d:=B27.cell 7 rfl
   have df:=B27.frozen 7
   go_simp
   refine aK ?_
   intro w9 e9
   have B29:Box w9 (w.heap.size+1+1) [.string R.name,.int .i64 R.width,.int .i64 R.height,.slice oa R.pieces.length on,.slice Ug R.start.length Uh,.bool R.falls,.bool R.keeps,.slice U5 R.ends.length U6,.int .i64 R.blocked,.int .i64 R.quiet,.int .i64 R.bF] 46:=by rw [e9]; exact B27.set 7 _
   have E9:=hid e9
   clear e9 d df
   refine hK.out _ _ ?_
   clear hK K
   refine iE ?_
   have B19:Box w9 (w.heap.size+1) [.string ⟨#[]⟩,.int .i64 0,.int .i64 0,.slice none 0 0,.slice none 0 0,.bool false,.bool false,.slice none 0 0,.int .i64 0,.int .i64 0,.int .i64 0] 46:=by rw [E9.out,E7.out]; exact (B15.far ⟨w.heap.size+1+1,4,none⟩ _ (by show ¬ w.heap.size+1=w.heap.size+1+1; omega)).far ⟨w.heap.size+1+1,7,none⟩ _ (by show ¬ w.heap.size+1=w.heap.size+1+1; omega)
   have L9:Below w.heap.size w w9:=by rw [E9.out,E7.out]; exact (L5.setCell (by simp; omega) _).setCell (by simp; omega) _
   have F9:Fr (IW (w.heap.size+1) (w.heap.size+1+1) (.slice oa R.pieces.length on)) wq.drew w9:=by rw [E9.out,E7.out]; exact (F5.setCell (.inr (.inl rfl)) _).setCell (.inr (.inl rfl)) _
   have O9:w9.ownsRow (w.heap.size+1+1+1) 145 4 (.slice oa R.pieces.length on) R.pieces.length (pq rows):=by rw [E9.out,E7.out]; exact ownsRow_setCell_below (ownsRow_setCell_below O5 (by simp) _) (by simp) _
   have I9:=ownsRow_setCell_below (ownsRow_setCell_below I5 (a:=⟨w.heap.size+1+1,4,none⟩) (by simpa using G2) (.slice Ug R.start.length Uh)) (a:=⟨w.heap.size+1+1,7,none⟩) (by simpa using G2) (.slice U5 R.ends.length U6)
   have J9:=ownsRow_setCell_below (ownsRow_setCell_below J5 (a:=⟨w.heap.size+1+1,4,none⟩) (by simpa using G5) (.slice Ug R.start.length Uh)) (a:=⟨w.heap.size+1+1,7,none⟩) (by simpa using G5) (.slice U5 R.ends.length U6)
   rw [← E7.out,← E9.out] at I9 J9
   have U7:=hid B19
   have aep:=hid B29
   have yE:=hid L9
   have FI:=hid F9
   have IV:=hid O9
   have HI9:=hid I9
   have HJ9:=hid J9
   have HG2:=hid G2
   have HG5:=hid G5
   clear B19 B29 L9 F9 O9 I9 J9 E9 E7 B27 B05 B15 B25 L5 O5 F5 I5 J5 B02 B12 B22 L2 O2 F2 I2 hHeld
   go_upto_region 10 with (fail)
   refine wp_region_lit ?_
   refine aB (by rfl) 46 (.tmp 3) (by rfl) (w.heap.size+1+1) (by rfl) aep.out Tryz.underlying46 (by rfl) (by kernel_rfl) ?_
   refine aT (vs:=[.string R.name,.int .i64 R.width,.int .i64 R.height,.slice oa R.pieces.length on,.slice Ug R.start.length Uh,.bool R.falls,.bool R.keeps,.slice U5 R.ends.length U6,.int .i64 R.blocked,.int .i64 R.quiet,.int .i64 R.bF]) (by rfl) 46 (.tmp 2) (.tmp 34) (by rfl) (w.heap.size+1) (by rfl) (by rfl) U7.out rfl (by kernel_rfl) (by rfl) ?_
   have HS:=hid (U7.out.store (vs:=[.string R.name,.int .i64 R.width,.int .i64 R.height,.slice oa R.pieces.length on,.slice Ug R.start.length Uh,.bool R.falls,.bool R.keeps,.slice U5 R.ends.length U6,.int .i64 R.blocked,.int .i64 R.quiet,.int .i64 R.bF]) rfl)
   have HX:Hid (Seen w.heap.size (w9.setCells (w.heap.size+1) 0 [.string R.name,.int .i64 R.width,.int .i64 R.height,.slice oa R.pieces.length on,.slice Ug R.start.length Uh,.bool R.falls,.bool R.keeps,.slice U5 R.ends.length U6,.int .i64 R.blocked,.int .i64 R.quiet,.int .i64 R.bF]) fun w'=>ru w' R (.slice oa R.pieces.length on) (.slice Ug R.start.length Uh) (.slice U5 R.ends.length U6)):=hid (fun w' hs=>⟨Jz (wz (aQ IV.out (by omega) 0 _) (by omega) hs) ael.out (fun r hr=>((U3.out r hr _ (FI.out.setCells (.inl rfl) 0 _)).seen (by omega) hs).rd),kM.fD (wz (aQ HI9.out (by have:=HG2.out; omega) 0 _) (by have:=HG2.out; omega) hs),ji.rd (el:=kX) (wz (aQ HJ9.out (by have:=HG5.out; omega) 0 _) (by have:=HG5.out; omega) hs) G9.out⟩)
   have Gu:=hid (below_setCells yE.out (show w.heap.size≤w.heap.size+1 by omega) 0 [.string R.name,.int .i64 R.width,.int .i64 R.height,.slice oa R.pieces.length on,.slice Ug R.start.length Uh,.bool R.falls,.bool R.keeps,.slice U5 R.ends.length U6,.int .i64 R.blocked,.int .i64 R.quiet,.int .i64 R.bF])
   generalize (w9.setCells (w.heap.size+1) 0 [.string R.name,.int .i64 R.width,.int .i64 R.height,.slice oa R.pieces.length on,.slice Ug R.start.length Uh,.bool R.falls,.bool R.keeps,.slice U5 R.ends.length U6,.int .i64 R.blocked,.int .i64 R.quiet,.int .i64 R.bF])=wf at *
   go_wp2_with fail
   exact bodyPost_ret (dR rfl (by rfl) HS.out Tryz.underlying46 (by rfl) (by kernel_rfl)) rfl ⟨_,_,_,rfl,HX.out,Gu.out⟩
theorem He {w:World} {b base:Nat} {r:lD} (h:Box w b [r.vc,r.v0,r.v1,.int .i64 r.p.turn,.int .i64 r.p.quiet] 78) (hb:base≤b):w.ownsRow base 78 5 (.slice (some ⟨b,0,none⟩) 1 1) 1 (iD [r]):=
 ⟨by simp [iD],.inr ⟨b,1,_,rfl,hb,h,Nat.le_refl _,by unfold maxLen; decide,by simp,by simp [iD]⟩⟩
theorem iC.take {R:aC} {p:bg} {ms:List aN} (h:iC R p ms) (n:Nat):iC R p (ms.take n):=by
 intro k hk
 rw [List.length_take] at hk
 have:=h k (by omega)
 rw [List.take_take,Nat.min_eq_left (by omega),show (ms.take n).getD k default=ms.getD k default by rw [List.getD_eq_getElem?_getD,List.getD_eq_getElem?_getD,List.getElem?_take,if_pos (by omega)]]
 exact this
theorem U8:(Tryz.prog.info? 78).map (fun i=>(i.zero,i.size,i.bytes))=some (some (.agg #[.slice none 0 0,.slice none 0 0,.slice none 0 0,.int .i64 0,.int .i64 0]),5,88):=by kernel_rfl
theorem U9 {a a' a'':Option Addr} {n n' n'' c c' c'':Nat} {x y:Int}:∀ u∈[Value.slice a n c,.slice a' n' c',.slice a'' n'' c'',.int .i64 x,.int .i64 y],u.oneCell'=true:=by intro u hu; simp at hu; rcases hu with rfl | rfl | rfl | rfl | rfl <;> rfl
theorem Hf {w:World} {b:Nat} {cs:List Value} {t:TypeId} (h:Box w b cs t):∀ j u,cs[j]?=some u→w.cell? ((⟨b,0,none⟩:Addr).add j)=some u:=by
 intro j u hj
 have e2:(⟨b,0,none⟩:Addr).add j=⟨b,j,none⟩:=by unfold Addr.add; split <;> simp_all
 rw [e2]
 exact h.cell j hj
theorem aes {g g7 n c H lo:Nat} (h:Value.ownBlock (.slice (some ⟨g,0,none⟩) n c)=some g7∨g7=H) (hl:lo≤H):g7=g∨lo≤g7:=by
 rcases h with h | h
 ·left; simpa [Value.ownBlock] using h.symm
 ·right; omega
theorem aa2 {v:Value} {g8 H lo:Nat} (h:v.ownBlock=some g8∨g8=H) (hl:lo≤H):v.ownBlock=some g8∨lo≤g8:=by
 rcases h with h | h
 ·exact .inl h
 ·right; omega
theorem newS {S:Nat→Prop} {v:Value} {g7 H:Nat} (h:v.ownBlock=some g7∨g7=H) (hS:∀ q,v.ownBlock=some q→S q):S g7∨g7=H:=by
 rcases h with h | h
 ·exact .inl (hS _ h)
 ·exact .inr h
theorem Va {S:Nat→Prop} {w:World} {g7:Nat} (h:S g7∨g7=w.heap.size):dw w S (fun k=>S k∨k=g7):=fun k hk h'=>by
 rcases h' with h' | h'
 ·exact h'
 ·subst h'
  rcases h with h | h
  ·exact h
  ·omega
theorem Vb {S:Nat→Prop} {w:World} {v:Value} {g7 g8 H:Nat} (h:v.ownBlock=some g8∨H≤g8) (hS:∀ q,v.ownBlock=some q→S q) (hH:w.heap.size≤H):dw w (fun k=>S k∨k=g7) (fun k=>(S k∨k=g7)∨k=g8):=fun k hk h'=>by
 rcases h' with h' | h'
 ·exact h'
 ·subst h'
  rcases h with h | h
  ·exact .inl (hS _ h)
  ·omega
end Go.Proofs.YtmabaojkignodaaGreatDoor

/- GmB, GmC, PmG1, Tic, PmG2, ClaimWP. -/
import Derived.Test.YteablcielclaeaaGreatDoorP13
import Derived.Test.YteablcielclaeaaGreatDoorP14
import Derived.Laws.MakeOwn
namespace Go.Proofs.YteablcielclaeaaGreatDoor
open Go.ChangeShapes Go.WideShapes Go.ChangeAt Go.RowKit
set_option linter.unusedVariables false
set_option maxHeartbeats 4000000
set_option maxRecDepth 100000
open Go.Lib (hid)
structure XI where
 x:jk
 v:Value
deriving Inhabited
def qA (l:List XI):List Value:=l.flatMap fun r=>[.int .u8 r.x.letter,.int .i64 r.x.hand,.int .i64 r.x.promote,r.v]
theorem Dy (r:XI) (t:List XI):qA (r :: t)=.int .u8 r.x.letter :: .int .i64 r.x.hand :: .int .i64 r.x.promote :: r.v :: qA t:=rfl
theorem II (l:List XI) (r:XI):qA l++[.int .u8 r.x.letter,.int .i64 r.x.hand,.int .i64 r.x.promote,r.v]=qA (l++[r]):=by simp [qA]
theorem AV:∀ (l:List XI) (i:Nat) (h:i<l.length),((qA l).drop (i * 4)).take 4=[.int .u8 l[i].x.letter,.int .i64 l[i].x.hand,.int .i64 l[i].x.promote,l[i].v]
 | r :: t,0,_=>by rw [Dy]; simp
 | r :: t,i+1,h=>by
  have ih:=AV t i (by simpa using h)
  rw [Dy,show (i+1) * 4=i * 4+1+1+1+1 by omega]
  simp only [List.drop_succ_cons,List.getElem_cons_succ]
  exact ih
theorem Py {w:World} {b:Nat} {v:Value} {ps:List jk} {rows:List XI} (h:w.ownsRow b 137 4 v ps.length (qA rows)) (hm:rows.map (·.x)=ps) (hr:∀ r∈rows,iC sF w r.v r.x.ways):iC iF w v ps:=by
 subst hm
 refine iC.dB (el:=iF) (show w.ownsRow b 137 4 v (rows.map (·.x)).length (qA rows) by simpa using h) fun i hi=>?_
 have hi':i<rows.length:=by simpa using hi
 show iF.E w (rows.map (·.x))[i] (((qA rows).drop (i * 4)).take 4)
 rw [AV rows i hi',List.getElem_map]
 exact ⟨_,rfl,hr _ (List.getElem_mem hi')⟩
theorem BR (w:World) (x:uX) (cs:List Value) (h:sF.E w x cs):∀ u∈cs,u.oneCell'=true:=by
 simp only [sF] at h
 subst h
 intro u hu
 simp at hu
 rcases hu with rfl | rfl | rfl | rfl <;> rfl
theorem abr (w:World) (x:zD) (cs:List Value) (h:oN.E w x cs):∀ u∈cs,u.oneCell'=true:=by
 simp only [oN] at h
 subst h
 intro u hu
 simp at hu
 rcases hu with rfl | rfl | rfl | rfl <;> rfl
theorem abt:(Tryz.prog.info? 137).map (fun i=>(i.zero,i.size,i.bytes))=some (some (.agg #[.int .u8 0,.int .i64 0,.int .i64 0,.slice none 0 0]),4,48):=by kernel_rfl
theorem abu {x y z:Int} {a:Option Addr} {n c:Nat}:∀ u∈[Value.int .u8 x,.int .i64 y,.int .i64 z,.slice a n c],u.oneCell'=true:=by intro u hu; simp at hu; rcases hu with rfl | rfl | rfl | rfl <;> rfl
theorem XJ {ops:Array Oper} {rest:List Oper} {o:Oper} {a:Act} {Q:Exit→Act→World→Prop} (t e:TypeId) (z:Value) (k b:Nat)
  (hI:(Tryz.prog.info? e).map (fun i=>(i.zero,i.size,i.bytes))=some (some z,k,b)) (ht:Tryz.prog.underlying t=some (.slice e)) (hzs:z.cells.size=k) (hk:0<k) (hgd:o.guard=none) (s x:Operand)
  (ho:o.op=.call { callee:=.builtin .append,args:=#[s,x],argTypes:=#[t,t] }) (base:Nat) (v:Value) (n:Nat) (xs news:List Value) (W:World) (hown:W.ownsRow base e k v n xs) (hb:base≤W.heap.size)
  (hl:news.length=k) (h1:∀ u∈news,u.oneCell'=true) (hn:n+1≤100000000) (hbb:(n+1) * b≤140737488355328) (hs:a.eval s=v) (hx:a.eval x=.slice (some ⟨W.heap.size,0,none⟩) 1 1)
  (h:∀ g cap w',w'.ownsRow base e k (.slice (some ⟨g,0,none⟩) (n+1) cap) (n+1) (xs++news)→(W.alloc (.cells news.toArray e)).grownBy w' v.ownBlock→(v.ownBlock=some g∨W.heap.size≤g) →
   wpList Tryz.prog ops Q rest (a.put o.dst (.slice (some ⟨g,0,none⟩) (n+1) cap)) w'):wpList Tryz.prog ops Q (o :: rest) a (W.alloc (.cells news.toArray e)):=by
 obtain ⟨i,hi,hz,hsz,hby⟩:=nC hI
 refine wpList_append_lies _ hgd s x t ho base e i z k b ht hi hz hsz hby hzs hk v n xs hs (hown.alloc _) ⟨W.heap.size,0,none⟩ 1 1 news hx (by rw [hl,Nat.one_mul]) (zH W news e) h1 (by decide) (by unfold maxLen; omega) hbb (by simp; omega) _ rfl ?_
 intro g cap w' hown' hg hat hlt
 refine h g cap w' hown' hg ?_
 rcases hat with e | e
 ·exact .inl e
 ·right; rw [e]; simp
theorem sW {w:World} {base:Nat} {e:TypeId} {sz n:Nat} {v:Value} {xs:List Value} (h:w.ownsRow base e sz v n xs) {p:Addr} (hne:v.ownBlock≠some p.block) (u:Value):(w.setCell p u).ownsRow base e sz v n xs:=by
 refine ⟨h.1,?_⟩
 rcases h.2 with h0 | ⟨g,cap,cur,rfl,hb,hg,r⟩
 ·exact .inl h0
 ·exact .inr ⟨g,cap,cur,rfl,hb,(Below.heap_setCell w p u g (fun e=>hne (by rw [e]; rfl))).trans hg,r⟩
theorem Fr.abv {S:Nat→Prop} {a w:World} (h:Fr S a w) {p:Addr} (hp:a.heap.size≤p.block) (u:Value):Fr S a (w.setCell p u):=
 ⟨h.os,h.tape,h.output,by simpa [World.setCell] using h.size,fun k hk hn=>(Below.heap_setCell _ _ _ _ (by omega)).trans (h.block k hk hn)⟩
def Oq (b1 b2:Nat) (vo:Value):Nat→Prop:=fun k=>k=b1∨k=b2∨vo.ownBlock=some k
def Seen (lo:Nat) (w:World) (D:World→Prop):Prop:=∀ w',(∀ k,lo≤k→k<w.heap.size→w'.heap[k]?=w.heap[k]?)→D w'
theorem Seen.now {lo:Nat} {w:World} {D:World→Prop} (h:Seen lo w D):D w:=h w (fun _ _ _=>rfl)
theorem Seen.held {lo:Nat} {w w2:World} {D:World→Prop} {S:Nat→Prop} (h:Seen lo w D) (hb:Below w.heap.size w w2) (hS:∀ k,S k→k<lo∨w.heap.size≤k):Held S w2 D:=fun w' hw =>
 h w' fun k h1 h2=>(hw.block k (Nat.lt_of_lt_of_le h2 hb.size) (fun e=>by rcases hS k e with e | e <;> omega)).trans (hb.block k h2)
theorem yu {lo:Nat} {w w':World} {base:Nat} {e:TypeId} {sz n:Nat} {v:Value} {xs:List Value} (h:w.ownsRow base e sz v n xs) (hb:lo≤base) (hs:∀ k,lo≤k→k<w.heap.size→w'.heap[k]?=w.heap[k]?):w'.ownsRow base e sz v n xs:=by
 refine ⟨h.1,?_⟩
 rcases h.2 with h0 | ⟨g,cap,cur,rfl,hg,hx,r⟩
 ·exact .inl h0
 ·exact .inr ⟨g,cap,cur,rfl,hg,(hs g (by omega) (h.lt g rfl).2).trans hx,r⟩
def Lp (B:Nat) (w:World) (r:XI):Prop:=∃ ws,w.ownsRow B 197 4 r.v r.x.ways.length ws∧∀ i (h:i<r.x.ways.length),sF.E w r.x.ways[i] ((ws.drop (i * 4)).take 4)
theorem Lp.rd {B:Nat} {w:World} {r:XI} (h:Lp B w r):iC sF w r.v r.x.ways:=by
 obtain ⟨ws,h1,h2⟩:=h
 exact jw.rd (el:=sF) h1 h2
theorem Lp.seen {B lo:Nat} {w w':World} {r:XI} (h:Lp B w r) (hb:lo≤B) (hs:∀ k,lo≤k→k<w.heap.size→w'.heap[k]?=w.heap[k]?):Lp B w' r:=by
 obtain ⟨ws,h1,h2⟩:=h
 exact ⟨ws,yu h1 hb hs,h2⟩
def Ua (R:aA) (w:World) (e:Ending) (w':World):Prop:=∃ vp vs ve,e=.returned (.agg #[.string R.name,.int .i64 R.width,.int .i64 R.height,vp,vs,.bool R.falls,.bool R.keeps,ve,.int .i64 R.blocked,.int .i64 R.quiet,.int .i64 R.bC])∧(Seen w.heap.size w' fun w''=>pV w'' R vp vs ve)∧Below w.heap.size w w'
theorem zQ (R:aA) (vp vs ve:Value) (w:World) (hr:pV w R vp vs ve) (hp:R.pieces.length≤1000) (hs:R.start.length≤1000) (hen:R.ends.length≤1000) (hwl:∀ i,i<R.pieces.length→(R.pieces.getD i default).ways.length≤1000) :
  Calls Tryz.prog 42 #[.agg #[.string R.name,.int .i64 R.width,.int .i64 R.height,vp,vs,.bool R.falls,.bool R.keeps,ve,.int .i64 R.blocked,.int .i64 R.quiet,.int .i64 R.bC]] w (Ua R w):=by
 have HR:=hid hr
 have HW:=hid hwl
 obtain ⟨pa,pn,rfl,hp1,hp2⟩:=hr.1.form
 obtain ⟨sa,sn,rfl,hs1,hs2⟩:=hr.2.1.form
 obtain ⟨ea,en,rfl,he1,he2⟩:=hr.2.2.form
 unfold maxLen at hp2 hs2 he2
 clear hr hwl
 go_enter Tryz.func42,Tryz.ntmps42
 go_upto_region 1 with (fail)
 refine qQ fun w0 B0 B1 fJ hs_=>?_
 have HB:=hid fJ
 have hz0:w.heap.size+1<w0.heap.size:=by omega
 have hsz0:w0.heap.size=w.heap.size+1+1:=by omega
 clear hs_ fJ
 have AO:=hid (HR.out.below HB.out (Nat.le_refl _))
 have HX0:=hid B0
 have lu:=hid B1
 have HSZ:=hid hsz0
 clear B0 B1 hsz0
 refine wp_region_lit ?_
 refine aH (by rfl) 61 (.tmp 1) (by rfl) w.heap.size (by rfl) HX0.out Tryz.underlying61 (by rfl) (by kernel_rfl) ?_
 go_upto_region 2 with (fail)
 have HY0:=hid (HX0.out.alloc (.cells #[.string R.name,.int .i64 R.width,.int .i64 R.height,.slice pa R.pieces.length pn,.slice sa R.start.length sn,.bool R.falls,.bool R.keeps,.slice ea R.ends.length en,.int .i64 R.blocked,.int .i64 R.quiet,.int .i64 R.bC] 61))
 have HY1:=hid (lu.out.alloc (.cells #[.string R.name,.int .i64 R.width,.int .i64 R.height,.slice pa R.pieces.length pn,.slice sa R.start.length sn,.bool R.falls,.bool R.keeps,.slice ea R.ends.length en,.int .i64 R.blocked,.int .i64 R.quiet,.int .i64 R.bC] 61))
 have HY2:=hid (Box.new' w0 (w.heap.size+1+1) [.string R.name,.int .i64 R.width,.int .i64 R.height,.slice pa R.pieces.length pn,.slice sa R.start.length sn,.bool R.falls,.bool R.keeps,.slice ea R.ends.length en,.int .i64 R.blocked,.int .i64 R.quiet,.int .i64 R.bC] 61 HSZ.out)
 have HBY:=hid (HB.out.alloc HB.out.size (.cells #[.string R.name,.int .i64 R.width,.int .i64 R.height,.slice pa R.pieces.length pn,.slice sa R.start.length sn,.bool R.falls,.bool R.keeps,.slice ea R.ends.length en,.int .i64 R.blocked,.int .i64 R.quiet,.int .i64 R.bC] 61))
 rw [HSZ.out]
 generalize (w0.alloc (.cells #[.string R.name,.int .i64 R.width,.int .i64 R.height,.slice pa R.pieces.length pn,.slice sa R.start.length sn,.bool R.falls,.bool R.keeps,.slice ea R.ends.length en,.int .i64 R.blocked,.int .i64 R.quiet,.int .i64 R.bC] 61))=w1 at *
 have d3:=HY2.out.cell 3 rfl
 have d3f:=HY2.out.frozen 3
 go_upto_region 3 with (fail)
 have HU0:=hid (HY0.out.far ⟨w.heap.size+1+1,3,none⟩ (.slice none 0 0) (by show ¬ w.heap.size=w.heap.size+1+1; omega))
 have HU1:=hid (HY1.out.far ⟨w.heap.size+1+1,3,none⟩ (.slice none 0 0) (by show ¬ w.heap.size+1=w.heap.size+1+1; omega))
 have HU2:Hid (Box (w1.setCell ⟨w.heap.size+1+1,3,none⟩ (.slice none 0 0)) (w.heap.size+1+1) ([.string R.name,.int .i64 R.width,.int .i64 R.height,.slice none 0 0,.slice sa R.start.length sn,.bool R.falls,.bool R.keeps,.slice ea R.ends.length en,.int .i64 R.blocked,.int .i64 R.quiet,.int .i64 R.bC]) 61):=hid (HY2.out.set 3 _)
 have HBU:=hid (HBY.out.setCell (p:=⟨w.heap.size+1+1,3,none⟩) (by show w.heap.size≤w.heap.size+1+1; omega) (.slice none 0 0))
 clear d3 d3f HX0 lu HY0 HY1 HY2 HBY HB AO hz0
 generalize (w1.setCell ⟨w.heap.size+1+1,3,none⟩ (.slice none 0 0))=w2 at *
 have e3:=HU0.out.cell 3 rfl
 go_wp2_with fail
 clear e3
 go_loopw [11,5] (fun vi vb wr=>∃ (k:Nat) (rows:List XI) (vo:Value),k≤R.pieces.length∧vi=.int .i64 k∧Hid (rows.map (·.x)=R.pieces.take k)∧Hid (Box wr w.heap.size [.string R.name,.int .i64 R.width,.int .i64 R.height,.slice pa R.pieces.length pn,.slice sa R.start.length sn,.bool R.falls,.bool R.keeps,.slice ea R.ends.length en,.int .i64 R.blocked,.int .i64 R.quiet,.int .i64 R.bC] 61)∧Hid (Box wr (w.heap.size+1) [.string ⟨#[]⟩,.int .i64 0,.int .i64 0,.slice none 0 0,.slice none 0 0,.bool false,.bool false,.slice none 0 0,.int .i64 0,.int .i64 0,.int .i64 0] 61)∧Hid (Box wr (w.heap.size+1+1) ([.string R.name,.int .i64 R.width,.int .i64 R.height,vo,.slice sa R.start.length sn,.bool R.falls,.bool R.keeps,.slice ea R.ends.length en,.int .i64 R.blocked,.int .i64 R.quiet,.int .i64 R.bC]) 61) ∧
  Hid (wr.ownsRow (w.heap.size+1+1+1) 137 4 vo k (qA rows))∧Hid (Below w.heap.size w wr)∧Hid (∀ r∈rows,Held (Oq (w.heap.size+1) (w.heap.size+1+1) vo) wr fun w'=>Lp (w.heap.size+1+1+1) w' r)) (fun i _ _=>R.pieces.length - (intOf i).toNat)
 case atStart=>exact ⟨0,[],.slice none 0 0,Nat.zero_le _,rfl,hid rfl,HU0,HU1,HU2,hid (World.ownsRow_nil _ _ _ _),HBU,hid (fun r hr=>by cases hr)⟩
 case round =>
  obtain ⟨k,rows,vo,hk,rfl,HM,HV0,HV1,V4,HO,bn,DC⟩:=hrel
  have hz2:=V4.out.lt
  by_cases hlt:k<R.pieces.length
  ·obtain ⟨g,o,hpa,hg,hcc⟩:=lV (HR.out.1.below bn.out (Nat.le_refl _)) (by omega)
   subst hpa
   obtain ⟨vw,c0,c1,c2,c3,hrw⟩:=hcc k hlt
   have hwk:=HW.out k hlt
   have HT:Hid (R.pieces.take (k+1)=R.pieces.take k++[R.pieces.getD k default]):=hid (by rw [List.take_succ_eq_append_getElem hlt,List.getD_eq_getElem?_getD,List.getElem?_eq_getElem hlt]; rfl)
   obtain ⟨wa,wc,rfl,hw1,hw2⟩:=hrw.form
   unfold maxLen at hw2
   have HWr:=hid hrw
   clear hcc hrw
   generalize R.pieces.getD k default=x at *
   go_upto_region 6 with (fail)
   have HPn:=hid (Box.new wr [.int .u8 x.letter,.int .i64 x.hand,.int .i64 x.promote,.slice wa x.ways.length wc] 137)
   have HA0:=hid (HV0.out.alloc (.cells #[.int .u8 x.letter,.int .i64 x.hand,.int .i64 x.promote,.slice wa x.ways.length wc] 137))
   have HA1:=hid (HV1.out.alloc (.cells #[.int .u8 x.letter,.int .i64 x.hand,.int .i64 x.promote,.slice wa x.ways.length wc] 137))
   have HA2:=hid (V4.out.alloc (.cells #[.int .u8 x.letter,.int .i64 x.hand,.int .i64 x.promote,.slice wa x.ways.length wc] 137))
   have HAO:=hid (HO.out.alloc (.cells #[.int .u8 x.letter,.int .i64 x.hand,.int .i64 x.promote,.slice wa x.ways.length wc] 137))
   have HAB:=hid (bn.out.alloc bn.out.size (.cells #[.int .u8 x.letter,.int .i64 x.hand,.int .i64 x.promote,.slice wa x.ways.length wc] 137))
   have HAW:=hid (HWr.out.below ((Below.refl _ _).alloc (Nat.le_refl _) (.cells #[.int .u8 x.letter,.int .i64 x.hand,.int .i64 x.promote,.slice wa x.ways.length wc] 137)) (Nat.le_refl _))
   have HAF:=hid ((Fr.refl (Oq (w.heap.size+1) (w.heap.size+1+1) vo) wr).alloc (.cells #[.int .u8 x.letter,.int .i64 x.hand,.int .i64 x.promote,.slice wa x.ways.length wc] 137))
   have hzA:wr.heap.size<(wr.alloc (.cells #[.int .u8 x.letter,.int .i64 x.hand,.int .i64 x.promote,.slice wa x.ways.length wc] 137)).heap.size:=by simp
   clear c0 c1 c2 c3
   generalize (wr.alloc (.cells #[.int .u8 x.letter,.int .i64 x.hand,.int .i64 x.promote,.slice wa x.ways.length wc] 137))=wa1 at *
   have p3:=HPn.out.cell 3 rfl
   go_wp2_with fail
   refine (TU sF rfl BR _ x.ways wa1 HAW.out (by omega)).mono ?_
   rintro e wb ⟨vx,ws,rfl,how,hEw,hbb⟩
   obtain ⟨xa,xn,rfl⟩:=aG how
   have HB0:=hid (HA0.out.stays hbb)
   have HB1:=hid (HA1.out.stays hbb)
   have HB2:=hid (HA2.out.stays hbb)
   have HBO:=hid (aS HAO.out hbb)
   have HBB:=hid (ak HAB.out hbb HAB.out.size)
   have HBP:=hid (HPn.out.stays hbb)
   have HBF:=hid (HAF.out.trans (Fr.jM (S:=Oq (w.heap.size+1) (w.heap.size+1+1) vo) hbb) (iE.refl _ _))
   have hzB:=hbb.size
   have HOW:=hid how
   have HEW:=hid hEw
   have p3':=HBP.out.cell 3 rfl
   have p3f:=HBP.out.frozen 3
   clear p3 how hEw hbb HA0 HA1 HA2 HAO HAB HAF HPn HAW
   go_upto_region 7 with (fail)
   have HC0:=hid (HB0.out.far ⟨wr.heap.size,3,none⟩ (.slice xa x.ways.length xn) (by show ¬ w.heap.size=wr.heap.size; omega))
   have HC1:=hid (HB1.out.far ⟨wr.heap.size,3,none⟩ (.slice xa x.ways.length xn) (by show ¬ w.heap.size+1=wr.heap.size; omega))
   have HC2:=hid (HB2.out.far ⟨wr.heap.size,3,none⟩ (.slice xa x.ways.length xn) (by show ¬ w.heap.size+1+1=wr.heap.size; omega))
   have HCP:Hid (Box (wb.setCell ⟨wr.heap.size,3,none⟩ (.slice xa x.ways.length xn)) wr.heap.size [.int .u8 x.letter,.int .i64 x.hand,.int .i64 x.promote,.slice xa x.ways.length xn] 137):=hid (HBP.out.set 3 _)
   have XK:∀ q,vo.ownBlock=some q→q≠wr.heap.size:=fun q hq=>by have:=(HO.out.lt q hq).2; omega
   have HCO:=hid (sW HBO.out (p:=⟨wr.heap.size,3,none⟩) (fun e=>XK _ e rfl) (.slice xa x.ways.length xn))
   have HCW:=hid (ownsRow_setCell_below HOW.out (a:=⟨wr.heap.size,3,none⟩) (by simpa using hzA) (.slice xa x.ways.length xn))
   have TK:=hid (HBB.out.setCell (p:=⟨wr.heap.size,3,none⟩) (by show w.heap.size≤wr.heap.size; omega) (.slice xa x.ways.length xn))
   have HCF:Hid (Fr (Oq (w.heap.size+1) (w.heap.size+1+1) vo) wr (wb.setCell ⟨wr.heap.size,3,none⟩ (.slice xa x.ways.length xn))):=hid (HBF.out.abv (p:=⟨wr.heap.size,3,none⟩) (Nat.le_refl _) _)
   have hzC:wb.heap.size=(wb.setCell ⟨wr.heap.size,3,none⟩ (.slice xa x.ways.length xn)).heap.size:=by simp [World.setCell]
   clear p3' p3f HB0 HB1 HB2 HBO HBB HBP HBF HOW XK
   generalize (wb.setCell ⟨wr.heap.size,3,none⟩ (.slice xa x.ways.length xn))=wc1 at *
   have q0:=HCP.out.cell 0 rfl
   have q1:=HCP.out.cell 1 rfl
   have q2:=HCP.out.cell 2 rfl
   have q3:=HCP.out.cell 3 rfl
   have o3:=HC2.out.cell 3 rfl
   have hzW:=HCP.out.lt
   go_wp2_with (at_builtin; refine XJ 58 137 (.agg #[.int .u8 0,.int .i64 0,.int .i64 0,.slice none 0 0]) 4 48 abt Tryz.underlying58 rfl (by decide) (by rfl) _ _ (by rfl) (w.heap.size+1+1+1) _ k (qA rows) [.int .u8 x.letter,.int .i64 x.hand,.int .i64 x.promote,.slice xa x.ways.length xn] wc1 HCO.out (by omega) rfl abu (by omega) (by omega) (by rfl) (by rfl) ?_)
   intro g3 cap3 wd hown3 hg3 zS
   have hnb:∀ b,b<w.heap.size+1+1+1→some b≠vo.ownBlock:=fun b hb e=>by have:=(HCO.out.lt b e.symm).1; omega
   have HD0:=hid ((HC0.out.alloc _).grown hg3 (hnb _ (by omega)))
   have HD1:=hid ((HC1.out.alloc _).grown hg3 (hnb _ (by omega)))
   have HD2:=hid ((HC2.out.alloc _).grown hg3 (hnb _ (by omega)))
   have HDB:=hid (Below.grown (TK.out.alloc TK.out.size _) hg3 (by have:=TK.out.size; simp; omega) (fun q hq=>by have:=(HCO.out.lt q hq).1; omega))
   have HDF:Hid (Fr (Oq (w.heap.size+1) (w.heap.size+1+1) vo) wr wd):=hid ((HCF.out.alloc _).grown hg3 (fun q hq _=>.inr (.inr hq)))
   have HDC:Hid (Fr (Oq (w.heap.size+1) (w.heap.size+1+1) vo) wc1 wd):=hid (((Fr.refl _ wc1).alloc _).grown hg3 (fun q hq _=>.inr (.inr hq)))
   have HDS:Hid (iE wr (Oq (w.heap.size+1) (w.heap.size+1+1) vo) (Oq (w.heap.size+1) (w.heap.size+1+1) (.slice (some ⟨g3,0,none⟩) (k+1) cap3))):=hid (fun q hq h=>by
    rcases h with h | h | h
    ·exact .inl h
    ·exact .inr (.inl h)
    ·obtain rfl:g3=q:=by simpa [Value.ownBlock] using h
     rcases zS with e | e
     ·exact .inr (.inr e)
     ·omega)
   have am4:Hid (iE wc1 (Oq (w.heap.size+1) (w.heap.size+1+1) vo) (Oq (w.heap.size+1) (w.heap.size+1+1) (.slice (some ⟨g3,0,none⟩) (k+1) cap3))):=hid (fun q hq h=>by
    rcases h with h | h | h
    ·exact .inl h
    ·exact .inr (.inl h)
    ·obtain rfl:g3=q:=by simpa [Value.ownBlock] using h
     rcases zS with e | e
     ·exact .inr (.inr e)
     ·omega)
   have HWN:Hid (Held (Oq (w.heap.size+1) (w.heap.size+1+1) vo) wc1 fun w'=>Lp (w.heap.size+1+1+1) w' ⟨x,.slice xa x.ways.length xn⟩):=hid (fun w' hw=>⟨ws,own_base (fC HCW.out hw (fun q hq hS=>by
    have h1:=(HCW.out.lt q hq).1
    rcases hS with h | h | h
    ·omega
    ·omega
    ·have:=(HO.out.lt q h).2; omega)) (by omega),HEW.out⟩)
   have oz:=hid hown3
   have o3':=HD2.out.cell 3 rfl
   have nD:=HD2.out.frozen 3
   have hzD:w.heap.size+1+1<wd.heap.size:=HD2.out.lt
   clear q0 q1 q2 q3 o3 hown3 hg3 zS hnb HC0 HC1 HC2 HCP HCO TK HCF HCW
   go_wp2_with fail
   try simp only [Act.put]
   have HE2:Hid (Box (wd.setCell ⟨w.heap.size+1+1,3,none⟩ (.slice (some ⟨g3,0,none⟩) (k+1) cap3)) (w.heap.size+1+1) ([.string R.name,.int .i64 R.width,.int .i64 R.height,.slice (some ⟨g3,0,none⟩) (k+1) cap3,.slice sa R.start.length sn,.bool R.falls,.bool R.keeps,.slice ea R.ends.length en,.int .i64 R.blocked,.int .i64 R.quiet,.int .i64 R.bC]) 61):=hid (HD2.out.set 3 _)
   have HEF:Hid (Fr (Oq (w.heap.size+1) (w.heap.size+1+1) (.slice (some ⟨g3,0,none⟩) (k+1) cap3)) wd (wd.setCell ⟨w.heap.size+1+1,3,none⟩ (.slice (some ⟨g3,0,none⟩) (k+1) cap3))):=hid ((Fr.refl _ _).setCell (.inr (.inl rfl)) _)
   go_roundw
   case rel=>exact ⟨k+1,rows++[⟨x,.slice xa x.ways.length xn⟩],.slice (some ⟨g3,0,none⟩) (k+1) cap3,by omega,by go_num,hid (by rw [HT.out,List.map_append,HM.out]; rfl),hid (HD0.out.far _ _ (by show ¬ w.heap.size=w.heap.size+1+1; omega)),hid (HD1.out.far _ _ (by show ¬ w.heap.size+1=w.heap.size+1+1; omega)),HE2,
    hid (by rw [← II]; exact ownsRow_setCell_below oz.out (by simp) _),hid (HDB.out.setCell (by show w.heap.size≤w.heap.size+1+1; omega) _),hid (fun r hr=>by
     rcases List.mem_append.1 hr with h | h
     ·exact ((DC.out r h).step HDF.out HDS.out).step HEF.out (iE.refl _ _)
     ·obtain rfl:r=⟨x,.slice xa x.ways.length xn⟩:=by simpa using h
      exact (HWN.out.step HDC.out am4.out).step HEF.out (iE.refl _ _))⟩
   case measure=>simp [intOf]; omega
  ·obtain rfl:R.pieces.length=k:=by omega
   have am5:Hid (rows.map (·.x)=R.pieces):=hid (by rw [HM.out,List.take_of_length_le (Nat.le_refl _)])
   obtain ⟨oa,on,rfl⟩:=aG HO.out
   go_upto_region 9 with (fail)
   generalize wr=wq at *
   have B0z:=HV0.out.drew
   have B1z:=HV1.out.drew
   have B2z:=V4.out.drew
   have Oz:wq.drew.ownsRow (w.heap.size+1+1+1) 137 4 (.slice oa R.pieces.length on) R.pieces.length (qA rows):=HO.out
   have Lz:Below w.heap.size w wq.drew:=aK bn.out
   have AO:Hid (∀ r∈rows,Held (Oq (w.heap.size+1) (w.heap.size+1+1) (.slice oa R.pieces.length on)) wq.drew fun w'=>Lp (w.heap.size+1+1+1) w' r):=hid (fun r hr=>(DC.out r hr).step ((Fr.refl _ _).drew) (iE.refl _ _))
   have DC:=AO
   clear HV0 HV1 V4 HO bn AO
   refine wp_region_noPanic ?_
   refine bI (S:=(fun w'=>w'.cell? ⟨w.heap.size,4,none⟩=some (.slice sa R.start.length sn)∧w'.cell? ⟨w.heap.size,7,none⟩=some (.slice ea R.ends.length en))) (L:=[7,9]) (by kernel_rfl) ⟨B0z.cell 4 rfl,B0z.cell 7 rfl⟩ (fun hHeld=>?_)
   refine aC 0 ?_
   refine aC 3 ?_
   refine dV 1 ?_
   refine dV 4 ?_
   refine fH 2 fun K hK=>?_
   go_simp
   refine (lJ _ R.start _ (HR.out.2.1.below Lz (Nat.le_refl _)) (by omega)).mono ?_
   rintro e w2 ⟨vx,rfl,ho2,hb2⟩
   obtain ⟨sa2,sn2,rfl⟩:=aG ho2
   have B02:=B0z.stays hb2
   have B12:=B1z.stays hb2
   have B22:=B2z.stays hb2
   have L2:=ak Lz hb2 Lz.size
   have O2:=aS Oz hb2
   have F2:=Fr.jM (S:=Oq (w.heap.size+1) (w.heap.size+1+1) (.slice oa R.pieces.length on)) hb2
   have I2:=ho2
   have G2:=B2z.lt
   clear hb2 ho2
   refine hK.out _ _ ⟨B02.cell 4 rfl,B02.cell 7 rfl⟩ (fun hHeld=>?_)
   clear hK K
   refine aC 6 ?_
   refine fH 5 fun K hK=>?_
   go_simp
   refine (TV oN rfl abr _ R.ends _ (HR.out.2.2.below L2 (Nat.le_refl _)) (by omega)).mono ?_
   rintro e w5 ⟨vx,vs5,rfl,ho5,hE5,hb5⟩
   obtain ⟨ea5,en5,rfl⟩:=aG ho5
   have B05:=B02.stays hb5
   have B15:=B12.stays hb5
   have B25:=B22.stays hb5
   have L5:=ak L2 hb5 L2.size
   have O5:=aS O2 hb5
   have F5:=F2.trans (Fr.jM (S:=Oq (w.heap.size+1) (w.heap.size+1+1) (.slice oa R.pieces.length on)) hb5) (iE.refl _ _)
   have I5:=aS I2 hb5
   have J5:=ho5
   have G5:=B22.lt
   have HE5:=hid hE5
   clear hb5 ho5 hE5
   refine hK.out _ _ ⟨B05.cell 4 rfl,B05.cell 7 rfl⟩ (fun hHeld=>?_)
   clear hK K
   refine rP 7 fun K hK=>?_
   have d:=B25.cell 4 rfl
   have df:=B25.frozen 4
   go_simp
   refine aQ ?_
   intro w7 e7
   have B27:Box w7 (w.heap.size+1+1) [.string R.name,.int .i64 R.width,.int .i64 R.height,.slice oa R.pieces.length on,.slice sa2 R.start.length sn2,.bool R.falls,.bool R.keeps,.slice ea R.ends.length en,.int .i64 R.blocked,.int .i64 R.quiet,.int .i64 R.bC] 61:=by rw [e7]; exact B25.set 4 _
   have E7:=hid e7
   clear e7 d df
   refine hK.out _ _ ?_
   clear hK K
   refine aC 8 ?_
   refine rP 9 fun K hK=>?_
   have d:=B27.cell 7 rfl
   have df:=B27.frozen 7
   go_simp
   refine aQ ?_
   intro w9 e9
   have B29:Box w9 (w.heap.size+1+1) [.string R.name,.int .i64 R.width,.int .i64 R.height,.slice oa R.pieces.length on,.slice sa2 R.start.length sn2,.bool R.falls,.bool R.keeps,.slice ea5 R.ends.length en5,.int .i64 R.blocked,.int .i64 R.quiet,.int .i64 R.bC] 61:=by rw [e9]; exact B27.set 7 _
   have E9:=hid e9
   clear e9 d df
   refine hK.out _ _ ?_
   clear hK K
   refine jC ?_
   have B19:Box w9 (w.heap.size+1) [.string ⟨#[]⟩,.int .i64 0,.int .i64 0,.slice none 0 0,.slice none 0 0,.bool false,.bool false,.slice none 0 0,.int .i64 0,.int .i64 0,.int .i64 0] 61:=by rw [E9.out,E7.out]; exact (B15.far ⟨w.heap.size+1+1,4,none⟩ _ (by show ¬ w.heap.size+1=w.heap.size+1+1; omega)).far ⟨w.heap.size+1+1,7,none⟩ _ (by show ¬ w.heap.size+1=w.heap.size+1+1; omega)
   have L9:Below w.heap.size w w9:=by rw [E9.out,E7.out]; exact (L5.setCell (by simp; omega) _).setCell (by simp; omega) _
   have F9:Fr (Oq (w.heap.size+1) (w.heap.size+1+1) (.slice oa R.pieces.length on)) wq.drew w9:=by rw [E9.out,E7.out]; exact (F5.setCell (.inr (.inl rfl)) _).setCell (.inr (.inl rfl)) _
   have O9:w9.ownsRow (w.heap.size+1+1+1) 137 4 (.slice oa R.pieces.length on) R.pieces.length (qA rows):=by rw [E9.out,E7.out]; exact ownsRow_setCell_below (ownsRow_setCell_below O5 (by simp) _) (by simp) _
   have I9:=ownsRow_setCell_below (ownsRow_setCell_below I5 (a:=⟨w.heap.size+1+1,4,none⟩) (by simpa using G2) (.slice sa2 R.start.length sn2)) (a:=⟨w.heap.size+1+1,7,none⟩) (by simpa using G2) (.slice ea5 R.ends.length en5)
   have J9:=ownsRow_setCell_below (ownsRow_setCell_below J5 (a:=⟨w.heap.size+1+1,4,none⟩) (by simpa using G5) (.slice sa2 R.start.length sn2)) (a:=⟨w.heap.size+1+1,7,none⟩) (by simpa using G5) (.slice ea5 R.ends.length en5)
   rw [← E7.out,← E9.out] at I9 J9
   have XL:=hid B19
   have ana:=hid B29
   have KC:=hid L9
   have JW:=hid F9
   have BD:=hid O9
   have HI9:=hid I9
   have HJ9:=hid J9
   have HG2:=hid G2
   have HG5:=hid G5
   clear B19 B29 L9 F9 O9 I9 J9 E9 E7 B27 B05 B15 B25 L5 O5 F5 I5 J5 B02 B12 B22 L2 O2 F2 I2 hHeld
   go_upto_region 10 with (fail)
   refine wp_region_lit ?_
   refine aH (by rfl) 61 (.tmp 3) (by rfl) (w.heap.size+1+1) (by rfl) ana.out Tryz.underlying61 (by rfl) (by kernel_rfl) ?_
   refine aT (vs:=[.string R.name,.int .i64 R.width,.int .i64 R.height,.slice oa R.pieces.length on,.slice sa2 R.start.length sn2,.bool R.falls,.bool R.keeps,.slice ea5 R.ends.length en5,.int .i64 R.blocked,.int .i64 R.quiet,.int .i64 R.bC]) (by rfl) 61 (.tmp 2) (.tmp 34) (by rfl) (w.heap.size+1) (by rfl) (by rfl) XL.out rfl (by kernel_rfl) (by rfl) ?_
   have HS:=hid (XL.out.store (vs:=[.string R.name,.int .i64 R.width,.int .i64 R.height,.slice oa R.pieces.length on,.slice sa2 R.start.length sn2,.bool R.falls,.bool R.keeps,.slice ea5 R.ends.length en5,.int .i64 R.blocked,.int .i64 R.quiet,.int .i64 R.bC]) rfl)
   have HX:Hid (Seen w.heap.size (w9.setCells (w.heap.size+1) 0 [.string R.name,.int .i64 R.width,.int .i64 R.height,.slice oa R.pieces.length on,.slice sa2 R.start.length sn2,.bool R.falls,.bool R.keeps,.slice ea5 R.ends.length en5,.int .i64 R.blocked,.int .i64 R.quiet,.int .i64 R.bC]) fun w'=>pV w' R (.slice oa R.pieces.length on) (.slice sa2 R.start.length sn2) (.slice ea5 R.ends.length en5)):=hid (fun w' hs=>⟨Py (yu (aN BD.out (by omega) 0 _) (by omega) hs) am5.out (fun r hr=>((DC.out r hr _ (JW.out.setCells (.inl rfl) 0 _)).seen (by omega) hs).rd),fQ.dB (yu (aN HI9.out (by have:=HG2.out; omega) 0 _) (by have:=HG2.out; omega) hs),jw.rd (el:=oN) (yu (aN HJ9.out (by have:=HG5.out; omega) 0 _) (by have:=HG5.out; omega) hs) HE5.out⟩)
   have Ir:=hid (below_setCells KC.out (show w.heap.size≤w.heap.size+1 by omega) 0 [.string R.name,.int .i64 R.width,.int .i64 R.height,.slice oa R.pieces.length on,.slice sa2 R.start.length sn2,.bool R.falls,.bool R.keeps,.slice ea5 R.ends.length en5,.int .i64 R.blocked,.int .i64 R.quiet,.int .i64 R.bC])
   generalize (w9.setCells (w.heap.size+1) 0 [.string R.name,.int .i64 R.width,.int .i64 R.height,.slice oa R.pieces.length on,.slice sa2 R.start.length sn2,.bool R.falls,.bool R.keeps,.slice ea5 R.ends.length en5,.int .i64 R.blocked,.int .i64 R.quiet,.int .i64 R.bC])=wf at *
   go_wp2_with fail
   exact bodyPost_ret (dJ rfl (by rfl) HS.out Tryz.underlying61 (by rfl) (by kernel_rfl)) rfl ⟨_,_,_,rfl,HX.out,Ir.out⟩
theorem Lr {w:World} {b base:Nat} {r:lK} (h:Box w b [r.vc,r.v0,r.v1,.int .i64 r.p.turn,.int .i64 r.p.quiet] 158) (hb:base≤b):w.ownsRow base 158 5 (.slice (some ⟨b,0,none⟩) 1 1) 1 (jU [r]):=
 ⟨by simp [jU],.inr ⟨b,1,_,rfl,hb,h,Nat.le_refl _,by unfold maxLen; decide,by simp,by simp [jU]⟩⟩
def IJ (R:aA) (w:World) (e:Ending) (w':World):Prop:=
 (aJ R≠0∧e=.returned (.tuple #[.pointer none,.int .i64 (aJ R)])∧Below w.heap.size w w') ∨
 (aJ R=0∧∃ S b vp vs ve vl vm rows,e=.returned (.tuple #[.pointer (some ⟨b,0,none⟩),.int .i64 0])∧bJ S w.heap.size w' b R [] vp vs ve vl vm rows∧Below w.heap.size w w')
theorem iJ.take {R:aA} {p:bf} {ms:List aB} (h:iJ R p ms) (n:Nat):iJ R p (ms.take n):=by
 intro k hk
 rw [List.length_take] at hk
 have:=h k (by omega)
 rw [List.take_take,Nat.min_eq_left (by omega),show (ms.take n).getD k default=ms.getD k default by rw [List.getD_eq_getElem?_getD,List.getD_eq_getElem?_getD,List.getElem?_take,if_pos (by omega)]]
 exact this
theorem abz:(Tryz.prog.info? 158).map (fun i=>(i.zero,i.size,i.bytes))=some (some (.agg #[.slice none 0 0,.slice none 0 0,.slice none 0 0,.int .i64 0,.int .i64 0]),5,88):=by kernel_rfl
theorem abA {a a' a'':Option Addr} {n n' n'' c c' c'':Nat} {x y:Int}:∀ u∈[Value.slice a n c,.slice a' n' c',.slice a'' n'' c'',.int .i64 x,.int .i64 y],u.oneCell'=true:=by intro u hu; simp at hu; rcases hu with rfl | rfl | rfl | rfl | rfl <;> rfl
theorem Ls {w:World} {b:Nat} {cs:List Value} {t:TypeId} (h:Box w b cs t):∀ j u,cs[j]?=some u→w.cell? ((⟨b,0,none⟩:Addr).add j)=some u:=by
 intro j u hj
 have e2:(⟨b,0,none⟩:Addr).add j=⟨b,j,none⟩:=by unfold Addr.add; split <;> simp_all
 rw [e2]
 exact h.cell j hj
theorem anb {g g7 n c H lo:Nat} (h:Value.ownBlock (.slice (some ⟨g,0,none⟩) n c)=some g7∨g7=H) (hl:lo≤H):g7=g∨lo≤g7:=by
 rcases h with h | h
 ·left; simpa [Value.ownBlock] using h.symm
 ·right; omega
theorem ahS {v:Value} {g8 H lo:Nat} (h:v.ownBlock=some g8∨g8=H) (hl:lo≤H):v.ownBlock=some g8∨lo≤g8:=by
 rcases h with h | h
 ·exact .inl h
 ·right; omega
theorem newS {S:Nat→Prop} {v:Value} {g7 H:Nat} (h:v.ownBlock=some g7∨g7=H) (hS:∀ q,v.ownBlock=some q→S q):S g7∨g7=H:=by
 rcases h with h | h
 ·exact .inl (hS _ h)
 ·exact .inr h
theorem abB {S:Nat→Prop} {w:World} {g7:Nat} (h:S g7∨g7=w.heap.size):iE w S (fun k=>S k∨k=g7):=fun k hk h'=>by
 rcases h' with h' | h'
 ·exact h'
 ·subst h'
  rcases h with h | h
  ·exact h
  ·omega
theorem abC {S:Nat→Prop} {w:World} {v:Value} {g7 g8 H:Nat} (h:v.ownBlock=some g8∨H≤g8) (hS:∀ q,v.ownBlock=some q→S q) (hH:w.heap.size≤H):iE w (fun k=>S k∨k=g7) (fun k=>(S k∨k=g7)∨k=g8):=fun k hk h'=>by
 rcases h' with h' | h'
 ·exact h'
 ·subst h'
  rcases h with h | h
  ·exact .inl (hS _ h)
  ·omega
def DF (S:Nat→Prop) (base b:Nat) (R:aA) (ms:List aB) (m:aB) (vp vs ve:Value) (w:World) (e:Ending) (w':World):Prop:=
 (eu R ms m≠0∧e=.returned (.int .i64 (eu R ms m))∧Below w.heap.size w w') ∨
 (eu R ms m=0∧e=.returned (.int .i64 0)∧∃ S' XM V5 rows',bJ S' base w' b R (ms++[m]) vp vs ve XM V5 rows'∧iE w S S'∧Fr S w w')
theorem sZ {P:Program} {fn:Func} {tmps:Array Value} {a s s2:Nat} {t t':TypeId} {w:World} {b:Nat} {cs:List Value} {v v2:Value} {d:TypeDesc} (hr:fn.results=#[.cell a t,.tmp s,.tmp s2])
  (ha:tmps.getD a undef=.pointer (some ⟨b,0,none⟩)) (hs:tmps.getD s undef=v) (hs2:tmps.getD s2 undef=v2) (hc:Box w b cs t') (hu:P.underlying t=some d) (hd:d.isRow=true) (hi:(P.info? t).map (·.size)=some cs.length) :
  (results fn tmps).run P w=.ok (.tuple #[.agg cs.toArray,v,v2]) w:=by
 have hl:=run_loadVar_mid (P:=P) w b 0 t cs d hc.range hu hd hi
 have ha':tmps[a]?.getD undef=.pointer (some ⟨b,0,none⟩):=by simpa using ha
 have hs':tmps[s]?.getD undef=v:=by simpa using hs
 have hs2':tmps[s2]?.getD undef=v2:=by simpa using hs2
 unfold results
 rw [hr]
 simp [asAddr,ha',hs',hs2',hl]
def runFrom (R:aA):List aB→List aB→Int
 | _,[]=>0
 | ms,m :: t=>if eu R ms m≠0 then eu R ms m else runFrom R (ms++[m]) t
def jO (R:aA) (l:List aB):Int:=if aJ R≠0 then aJ R else runFrom R [] l
theorem IK (R:aA) (l:List aB) (k:Nat) (h:k<l.length):runFrom R (l.take k) (l.drop k)=if eu R (l.take k) (l.getD k default)≠0 then eu R (l.take k) (l.getD k default) else runFrom R (l.take (k+1)) (l.drop (k+1)):=by
 have e:l.getD k default=l[k]:=by rw [List.getD_eq_getElem?_getD,List.getElem?_eq_getElem h]; rfl
 rw [List.drop_eq_getElem_cons h,runFrom,e,List.take_succ_eq_append_getElem h]
def XO (R:aA) (l:List aB) (w:World) (e:Ending) (w':World):Prop:=
 (jO R l≠0∧e=.returned (.tuple #[xO,.int .i64 0,.int .i64 (jO R l)])∧Below w.heap.size w w') ∨
 (jO R l=0∧aJ R=0∧iJ R (aF R) l∧l.length≤400∧∃ vc v0 v1,e=.returned (.tuple #[sG (bV R l) vc v0 v1,.int .i64 (fZ R l),.int .i64 0])∧mF w.heap.size w' (bV R l) vc v0 v1∧Below w.heap.size w w')
end Go.Proofs.YteablcielclaeaaGreatDoor
namespace Go.Proofs.YteablcielclaeaaGreatDoor
open Go.ChangeShapes Go.WideShapes Go.ChangeAt Go.RowKit
set_option linter.unusedVariables false
set_option maxHeartbeats 2000000
set_option maxRecDepth 100000
structure fU where
 aV:Int
 move:aB
deriving Inhabited,DecidableEq
def pR:El fU where
 k:=4
 E:=fun _ x cs=>cs=[.int .i64 x.aV,.int .i64 x.move.src,.int .i64 x.move.dst,.int .i64 x.move.piece]
 mono:=fun h _ _=>h
 len:=fun h=>by subst h; rfl
def Ot (l:List fU) (pl:Int):List aB:=(l.filter fun x=>x.aV == pl).map (·.move)
def uI (l:List fU):Int:=if 4<(Ot l 0).length∨4<(Ot l 1).length then 2 else if l.any (fun x=>x.aV != 0 && x.aV != 1)=true then 4 else 0
end Go.Proofs.YteablcielclaeaaGreatDoor
namespace Go.Proofs.YteablcielclaeaaGreatDoor
open Go.ChangeShapes Go.WideShapes Go.ChangeAt Go.RowKit
set_option linter.unusedVariables false
set_option maxHeartbeats 2000000
set_option maxRecDepth 100000
open Go.Lib (hid)
theorem RF:(Tryz.prog.info? 173).map (fun i=>(i.zero,i.size,i.bytes))=some (some (.agg #[.int .i64 0,.int .i64 0,.int .i64 0,.int .i64 0]),4,32):=by kernel_rfl
theorem XP {α:Type} (el:El α) (hk:el.k=4) (h1:∀ (w:World) (x:α) (cs:List Value),el.E w x cs→∀ u∈cs,u.oneCell'=true) (v:Value) (xs:List α) (w:World) (h:iC el w v xs) (hl:xs.length≤1000000) :
  Calls Tryz.prog 60 #[v] w (jw el 173 xs w):=by
 obtain ⟨i0,hi,hz0,hz1,hz2⟩:=nC RF
 have hq:=fun (w:World) (a:Option Addr) (n c:Nat)=>Lib.run_eql_slice_nil (P:=Tryz.prog) w 87 173 a n c 0 0 Tryz.underlying87
 have hown0:(w.alloc (.cells #[] 173)).ownsRow w.heap.size 173 4 (.slice (some ⟨w.heap.size,0,none⟩) 0 0) 0 []:=World.ownsRow_made w #[] 0 (Nat.le_refl _) (by unfold maxLen; omega) rfl
 obtain ⟨a,n,c,vs,rfl,hn,hvl,hone,hE,hcell⟩:=qy h1 h
 rw [hk] at hvl
 have HR:=hid hE
 cases a with
 | none =>
  have hn0:n=0:=hcell.1 rfl
  subst hn0
  obtain rfl:xs=[]:=List.length_eq_zero_iff.1 hn.symm
  clear h hl hE hcell hown0 hn hvl hone HR hi hz0 hz1 hz2
  go_enter Tryz.func60,Tryz.ntmps60
  go_wp2
  go_ret
  exact ⟨_,[],rfl,World.ownsRow_nil _ _ _ _,(fun i hi=>by cases hi),Below.refl _ _⟩
 | some ad =>
  have hnews:∀ j u,vs[j]?=some u→(w.alloc (.cells #[] 173)).cell? (ad.add j)=some u:=fun j u hu=>by
   have hc:=hcell.2 ad rfl j u hu
   rw [World.cell?_of_block (w:=w) (a:=ad.add j) (Below.heap_alloc w _ _ (World.block_lt_of_cell? w _ hc))]
   exact hc
  have nX:=hid hown0
  have nY:=hid hnews
  have OU:=hid hvl
  have IC:=hid hone
  have hnl:n≤1000000:=by omega
  have HN:=hid hn
  clear hown0 hnews hcell h hE hvl hone hl hn
  go_enter Tryz.func60,Tryz.ntmps60
  go_wp2_with (at_builtin; refine wpList_append_own _ rfl _ _ 87 rfl w.heap.size 173 i0 (.agg #[.int .i64 0,.int .i64 0,.int .i64 0,.int .i64 0]) 4 32 Tryz.underlying87 hi hz0 hz1 hz2 rfl (by decide) _ 0 [] rfl nX.out ad n c vs rfl OU.out nY.out IC.out ?c3 ?c4 ?c5 ?_)
  case c3=>unfold maxLen; omega
  case c4=>omega
  case c5=>simp
  intro v' w2 hown' hgrow _
  try simp only [Nat.zero_add,List.nil_append] at hown'
  have hb:Below w.heap.size w w2:=Below.grown ((Below.refl _ w).alloc (Nat.le_refl _) _) hgrow (by simp) (fun q hq=>by simp [Value.ownBlock] at hq; omega)
  have HO:=hid hown'
  have HB:=hid hb
  clear hown' hgrow hb
  go_wp2
  go_ret
  exact ⟨v',vs,rfl,by rw [← HN.out,hk]; exact HO.out,fun i hi=>el.mono (HR.out i hi) HB.out (Nat.le_refl _),HB.out⟩
theorem XQ (w:World) (x:fU) (cs:List Value) (h:pR.E w x cs):∀ u∈cs,u.oneCell'=true:=by
 simp only [pR] at h
 subst h
 intro u hu
 simp at hu
 rcases hu with rfl | rfl | rfl | rfl <;> rfl
def jy (l:List fU):List Value:=l.flatMap fun m=>[.int .i64 m.aV,.int .i64 m.move.src,.int .i64 m.move.dst,.int .i64 m.move.piece]
theorem wO (m:fU) (t:List fU):jy (m :: t)=.int .i64 m.aV :: .int .i64 m.move.src :: .int .i64 m.move.dst :: .int .i64 m.move.piece :: jy t:=rfl
theorem Ub (l:List fU):(jy l).length=l.length * 4:=by
 induction l with
 | nil=>rfl
 | cons m t ih=>rw [wO]; simp only [List.length_cons,ih]; omega
theorem XR (l:List fU) (i:Nat) (h:i<l.length):(jy l)[i * 4]?=some (.int .i64 (l.getD i default).aV)∧(jy l)[i * 4+1]?=some (.int .i64 (l.getD i default).move.src)∧(jy l)[i * 4+2]?=some (.int .i64 (l.getD i default).move.dst) ∧
  (jy l)[i * 4+3]?=some (.int .i64 (l.getD i default).move.piece):=by
 induction l generalizing i with
 | nil=>simp at h
 | cons m t ih =>
  rw [wO]
  cases i with
  | zero=>simp
  | succ i =>
   obtain ⟨a,b,c,d⟩:=ih i (by simpa using h)
   rw [show (i+1) * 4=i * 4+1+1+1+1 by omega,show i * 4+1+1+1+1+1=i * 4+1+1+1+1+1 by rfl,show i * 4+1+1+1+1+2=i * 4+2+1+1+1+1 by omega,show i * 4+1+1+1+1+3=i * 4+3+1+1+1+1 by omega]
   simp only [List.getElem?_cons_succ,List.getD_cons_succ]
   exact ⟨a,b,c,d⟩
theorem Lu {w:World}:∀ (xs:List fU) (vs:List Value),vs.length=xs.length * 4→(∀ i (h:i<xs.length),pR.E w xs[i] ((vs.drop (i * 4)).take 4))→vs=jy xs
 | [],vs,hl,_=>by
  have:vs.length=0:=by simpa using hl
  rw [List.length_eq_zero_iff.1 this]; rfl
 | x :: t,vs,hl,h=>by
  have h0:vs.take 4=[.int .i64 x.aV,.int .i64 x.move.src,.int .i64 x.move.dst,.int .i64 x.move.piece]:=h 0 (by simp)
  have ih:=Lu (w:=w) t (vs.drop 4) (by simp at hl ⊢; omega) (fun i hi=>by
   have:=h (i+1) (by simpa using hi)
   rw [show (i+1) * 4=4+i * 4 by omega] at this
   rw [List.drop_drop]
   exact this)
  rw [wO,← ih,← List.take_append_drop 4 vs,h0]
  simp
theorem wP {w:World} {b:Nat} {v:Value} {xs:List fU} (h:w.ownsRow b 173 4 v xs.length (jy xs)):iC pR w v xs:=by
 refine iC.dB (el:=pR) h fun i hi=>?_
 obtain ⟨c0,c1,c2,c3⟩:=XR xs i hi
 have e:xs.getD i default=xs[i]:=by rw [List.getD_eq_getElem?_getD,List.getElem?_eq_getElem hi]; rfl
 rw [e] at c0 c1 c2 c3
 show ((jy xs).drop (i * 4)).take 4=_
 have hlen:=Ub xs
 apply List.ext_getElem?
 intro j
 by_cases hj:j<4
 ·rw [List.getElem?_take,if_pos hj,List.getElem?_drop]
  match j,hj with
  | 0,_=>exact c0
  | 1,_=>exact c1
  | 2,_=>exact c2
  | 3,_=>exact c3
 ·rw [List.getElem?_eq_none (by simp; omega),List.getElem?_eq_none (by simp; omega)]
theorem LC (v:Value) (xs:List fU) (w:World) (h:iC pR w v xs) (hl:xs.length≤1000000) :
  Calls Tryz.prog 60 #[v] w fun e w'=>∃ v',e=.returned v'∧w'.ownsRow w.heap.size 173 4 v' xs.length (jy xs)∧Below w.heap.size w w':=by
 refine (XP pR rfl XQ v xs w h hl).mono ?_
 rintro e w' ⟨v',vs,rfl,ho,hE,hb⟩
 have e1:=Lu xs vs ho.1 hE
 subst e1
 exact ⟨v',rfl,ho,hb⟩
def LD (l:List fU) (pl:Int):List fU:=l.filter fun x=>!(x.aV == pl)
end Go.Proofs.YteablcielclaeaaGreatDoor
namespace Go.Proofs.YteablcielclaeaaGreatDoor
open Go.ChangeShapes Go.WideShapes Go.ChangeAt Go.RowKit
set_option linter.unusedVariables false
def fE:aA:=⟨⟨#[84,73,67]⟩,3,3,[⟨83,5,0,[]⟩],List.replicate 9 0,false,false,[⟨0,0,3,false⟩],2,0,0⟩
def abD (w:World) (e:Ending) (w':World):Prop:=∃ vp vs ve,e=.returned (OE fE vp vs ve)∧pV w' fE vp vs ve∧Below w.heap.size w w'
theorem qB:aJ fE=0:=by decide +kernel
end Go.Proofs.YteablcielclaeaaGreatDoor
namespace Go.Proofs.YteablcielclaeaaGreatDoor
open Go.ChangeShapes Go.WideShapes Go.ChangeAt Go.RowKit
set_option linter.unusedVariables false
set_option maxHeartbeats 4000000
set_option maxRecDepth 100000
theorem iC.drop {α:Type} {el:El α} {w:World} {a:Option Addr} {n c:Nat} {xs:List α} (h:iC el w (.slice a n c) xs) (k:Nat) (hk:k≤xs.length):iC el w (.slice (iT a c k el.k) (xs.length - k) (c - k)) (xs.drop k):=by
 have hl:(xs.drop k).length=xs.length - k:=by rw [List.length_drop]
 rcases h with ⟨a',c',h,hm,hz⟩ | ⟨g,o,c',h1,h2,h3,h4,h5⟩
 ·simp only [Value.slice.injEq] at h
  obtain ⟨rfl,_,rfl⟩:=h
  exact .inl ⟨_,_,by rw [hz,Nat.zero_sub],by omega,by rw [hl]; omega⟩
 ·simp only [Value.slice.injEq] at h1
  obtain ⟨rfl,_,rfl⟩:=h1
  by_cases hck:xs.length - k=0
  ·exact .inl ⟨_,_,by rw [hck],by omega,by rw [hl]; exact hck⟩
  ·have hne:¬ c=k:=by omega
   refine .inr ⟨g,o+k * el.k,c - k,by rw [hl,iT,if_neg hne]; simp [lT],by omega,by omega,h4,fun i hi=>?_⟩
   rw [hl] at hi
   obtain ⟨cs,e,f⟩:=h5 (k+i) (by omega)
   refine ⟨cs,by simpa using e,fun q hq=>?_⟩
   have:=f q hq
   rw [Nat.add_mul,← Nat.add_assoc] at this
   exact this
theorem PD {P:Program} {fn:Func} {tmps:Array Value} {a s s2:Nat} {t t':TypeId} {w:World} {b:Nat} {cs:List Value} {v v2:Value} {d:TypeDesc} (hr:fn.results=#[.cell a t,.tmp s,.tmp s2])
  (ha:tmps.getD a undef=.pointer (some ⟨b,0,none⟩)) (hs:tmps.getD s undef=v) (hs2:tmps.getD s2 undef=v2) (hc:Box w b cs t') (hu:P.underlying t=some d) (hd:d.isRow=true) (hi:(P.info? t).map (·.size)=some cs.length) :
  (results fn tmps).run P w=.ok (.tuple #[.agg cs.toArray,v,v2]) w:=by
 have hl:=run_loadVar_mid (P:=P) w b 0 t cs d hc.range hu hd hi
 have ha':tmps[a]?.getD undef=.pointer (some ⟨b,0,none⟩):=by simpa using ha
 have hs':tmps[s]?.getD undef=v:=by simpa using hs
 have hs2':tmps[s2]?.getD undef=v2:=by simpa using hs2
 unfold results
 rw [hr]
 simp [asAddr,ha',hs',hs2',hl]
theorem DI {P:Program} {fn:Func} {tmps:Array Value} {a s s2 s3:Nat} {t t':TypeId} {w:World} {b:Nat} {cs:List Value} {v v2 v3:Value} {d:TypeDesc} (hr:fn.results=#[.cell a t,.tmp s,.tmp s2,.tmp s3])
  (ha:tmps.getD a undef=.pointer (some ⟨b,0,none⟩)) (hs:tmps.getD s undef=v) (hs2:tmps.getD s2 undef=v2) (hs3:tmps.getD s3 undef=v3) (hc:Box w b cs t') (hu:P.underlying t=some d) (hd:d.isRow=true) (hi:(P.info? t).map (·.size)=some cs.length) :
  (results fn tmps).run P w=.ok (.tuple #[.agg cs.toArray,v,v2,v3]) w:=by
 have hl:=run_loadVar_mid (P:=P) w b 0 t cs d hc.range hu hd hi
 have ha':tmps[a]?.getD undef=.pointer (some ⟨b,0,none⟩):=by simpa using ha
 have hs':tmps[s]?.getD undef=v:=by simpa using hs
 have hs2':tmps[s2]?.getD undef=v2:=by simpa using hs2
 have anc:tmps[s3]?.getD undef=v3:=by simpa using hs3
 unfold results
 rw [hr]
 simp [asAddr,ha',hs',hs2',anc,hl]
def wQ (p:bf) (l:List fU):Int:=jE (fun x=>x.aV == p.turn) l 0
def jP (R:aA) (p:bf) (l:List fU):Bool:=decide (0≤wQ p l) && decide ((l.getD (wQ p l).toNat default).move∈kC R p)
def bQ (R:aA) (p:bf) (l:List fU):aB:=if jP R p l=true then (l.getD (wQ p l).toNat default).move else ⟨0,0,0⟩
def aO (R:aA) (p:bf) (l:List fU):List fU:=if jP R p l=true then l.take (wQ p l).toNat++l.drop ((wQ p l).toNat+1) else LD l p.turn
def XT (R:aA) (p:bf) (l:List fU) (w:World) (e:Ending) (w':World):Prop:=
 ∃ v,e=.returned (.tuple #[.agg #[.int .i64 (bQ R p l).src,.int .i64 (bQ R p l).dst,.int .i64 (bQ R p l).piece],.bool (jP R p l),v])∧w'.ownsRow w.heap.size 173 4 v (aO R p l).length (jy (aO R p l))∧Below w.heap.size w w'
def ig (R:aA) (p:bf) (l:List fU):Int:=if jl R p≠0 then jl R p else uI l
def DJ (R:aA) (p:bf) (l:List fU) (w:World) (e:Ending) (w':World):Prop:=
 (ig R p l≠0∧e=.returned (.tuple #[.agg #[.int .i64 0,.int .i64 0,.int .i64 0],.bool false,.slice none 0 0,.int .i64 (ig R p l)])∧Below w.heap.size w w') ∨
 (ig R p l=0∧∃ v,e=.returned (.tuple #[.agg #[.int .i64 (bQ R p l).src,.int .i64 (bQ R p l).dst,.int .i64 (bQ R p l).piece],.bool (jP R p l),v,.int .i64 0])∧w'.ownsRow w.heap.size 173 4 v (aO R p l).length (jy (aO R p l))∧Below w.heap.size w w')
theorem PE {R:aA} {p:bf} {l:List fU} (h:ig R p l=0):jl R p=0∧uI l=0:=by
 unfold ig at h
 by_cases e:jl R p=0
 ·rw [if_neg (by simp [e])] at h; exact ⟨e,h⟩
 ·rw [if_pos e] at h; exact absurd h e
end Go.Proofs.YteablcielclaeaaGreatDoor
namespace Go.Proofs.YteablcielclaeaaGreatDoor
set_option linter.unusedVariables false
def ane (pl c:Int):Bool:=decide (0<c) && ((c - 1) % 2 == pl)
def tyC (cs:List Int) (pl:Int):Nat→List Int
 | 0=>[]
 | k+1=>if ane pl (cs.getD k 0)=true then tyC cs pl k++[(cs.getD k 0 - 1) / 2] else tyC cs pl k
def tyH (hs:List Int):Nat→List Int
 | 0=>[]
 | k+1=>if 0<hs.getD k 0 then tyH hs k++[(k:Int)] else tyH hs k
def nH (hs:List Int):Nat→Int
 | 0=>0
 | k+1=>if 0<hs.getD k 0 then nH hs k+hs.getD k 0 else nH hs k
def XU (p:bf) (pl:Int):List Int:=tyC p.cells pl p.cells.length++tyH (p.hand pl) (p.hand pl).length
def ang (p:bf) (pl:Int):Int:=((tyC p.cells pl p.cells.length).length:Int)+nH (p.hand pl) (p.hand pl).length
def ahT (R:aA) (piece:Int):Nat→Int→Bool
 | 0,_=>false
 | n+1,k=>if k=piece then true else if (R.pieces.getD k.toNat default).promote=0 then false else ahT R piece n ((R.pieces.getD k.toNat default).promote - 1)
def ahU (R:aA) (k:Int):Bool:=(R.pieces.getD k.toNat default).ways.any fun w=>!(w.take == 0)
def ahV (R:aA) (p:bf) (x:zD) (pl:Int):Bool:=
 if x.loses=true∨x.kind=2 then true
 else if (x.kind=0∧x.count≤ang p pl)∨(x.kind=1∧(XU p pl).any (ahT R x.piece (R.pieces.length+1))=true) then true
 else R.keeps && (XU p pl).any (ahU R)
def anh (R:aA) (p:bf) (pl:Int):Bool:=if R.blocked≠2 then true else R.ends.any fun x=>ahV R p x pl
theorem getD_set_ne {l:List Int} {i j:Nat} {v:Int} (h:i≠j):(l.set i v).getD j 0=l.getD j 0:=by
 rw [List.getD_eq_getElem?_getD,List.getElem?_set_ne h,← List.getD_eq_getElem?_getD]
end Go.Proofs.YteablcielclaeaaGreatDoor

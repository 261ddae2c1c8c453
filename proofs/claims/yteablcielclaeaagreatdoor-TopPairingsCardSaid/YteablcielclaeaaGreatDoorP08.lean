/- MvPlain, Opn, Box2, App, Mv1, Mv2. -/
import Derived.Test.YteablcielclaeaaGreatDoorP07
namespace Go.Proofs.YteablcielclaeaaGreatDoor
set_option linter.unusedVariables false
structure Ro (R:aA):Prop where
 w:1≤R.width∧R.width≤8
 h:1≤R.height∧R.height≤8
 np:1≤R.pieces.length∧R.pieces.length≤6
 pc:∀ i,i<R.pieces.length→(0≤(R.pieces.getD i default).hand∧(R.pieces.getD i default).hand≤64)∧(0≤(R.pieces.getD i default).promote∧(R.pieces.getD i default).promote≤R.pieces.length) ∧
  (R.pieces.getD i default).ways.length≤16∧∀ j,j<(R.pieces.getD i default).ways.length→iW ((R.pieces.getD i default).ways.getD j default)=true
 sl:(R.start.length:Int)=R.width * R.height
 sc:∀ c∈R.start,0≤c∧c≤2 * (R.pieces.length:Int)
 en:R.ends.length≤6
 ee:∀ i,i<R.ends.length→nT R.pieces.length (R.ends.getD i default)=0
 bl:0≤R.blocked∧R.blocked≤2
 qu:0≤R.quiet∧R.quiet≤200
 re:R.bC=0∨(2≤R.bC∧R.bC≤5)
theorem qP {n lo hi:Int} (h:¬ wb n lo hi=false):lo≤n∧n≤hi:=(nS _ _ _).1 (by cases hb:wb n lo hi <;> simp_all)
theorem KD {ps:List jk} {i:Nat} (h:eH ps i=0):(0≤(ps.getD i default).hand∧(ps.getD i default).hand≤64)∧(0≤(ps.getD i default).promote∧(ps.getD i default).promote≤ps.length) ∧
  (ps.getD i default).ways.length≤16∧∀ j,j<(ps.getD i default).ways.length→iW ((ps.getD i default).ways.getD j default)=true:=by
 unfold eH at h
 generalize ps.getD i default=x at *
 by_cases e1:x.letter<65∨90<x.letter
 ·rw [if_pos e1] at h; cases h
 rw [if_neg e1] at h
 by_cases e2:(ps.take i).any (fun q=>q.letter == x.letter)=true
 ·rw [if_pos e2] at h; cases h
 rw [if_neg e2] at h
 by_cases e3:wb x.hand 0 64=false∨wb x.promote 0 ps.length=false
 ·rw [if_pos e3] at h; cases h
 rw [if_neg e3] at h
 by_cases e4:16<x.ways.length
 ·rw [if_pos e4] at h; cases h
 rw [if_neg e4] at h
 by_cases e5:x.ways.all iW=true
 ·refine ⟨qP (fun e=>e3 (.inl e)),qP (fun e=>e3 (.inr e)),by omega,fun j hj=>?_⟩
  rw [List.all_eq_true] at e5
  rw [List.getD_eq_getElem?_getD,List.getElem?_eq_getElem hj]
  exact e5 _ (List.getElem_mem hj)
 ·rw [if_neg e5] at h; cases h
theorem Ik {R:aA} (h:aJ R=0):Ro R:=by
 obtain ⟨hw,hh,hn⟩:=BM h
 unfold aJ at h
 by_cases e1:sJ R.name=false
 ·rw [if_pos e1] at h; cases h
 rw [if_neg e1] at h
 by_cases e2:wb R.width 1 8=false∨wb R.height 1 8=false
 ·rw [if_pos e2] at h; cases h
 rw [if_neg e2] at h
 by_cases e3:dG R.pieces≠0
 ·rw [if_pos e3] at h; exact absurd h e3
 rw [if_neg e3] at h
 by_cases e4:(R.start.length:Int)≠R.width * R.height
 ·rw [if_pos e4] at h; cases h
 rw [if_neg e4] at h
 by_cases e5:R.start.any (fun c=>!wb c 0 (2 * (R.pieces.length:Int)))=true
 ·rw [if_pos e5] at h; cases h
 rw [if_neg e5] at h
 by_cases e6:jh R≠0
 ·rw [if_pos e6] at h; exact absurd h e6
 rw [if_neg e6] at h
 by_cases e7:wb R.blocked 0 2=false∨wb R.quiet 0 200=false∨(R.bC≠0∧wb R.bC 2 5=false)
 ·rw [if_pos e7] at h; cases h
 have e3':dG R.pieces=0:=by simpa using e3
 have e6':jh R=0:=by simpa using e6
 refine ⟨hw,hh,hn,fun i hi=>?_,by omega,fun c hc=>?_,?_,fun i hi=>?_,qP (fun e=>e7 (.inl e)),qP (fun e=>e7 (.inr (.inl e))),?_⟩
 ·unfold dG at e3'
  rw [if_neg (by omega),if_neg (by omega)] at e3'
  exact KD ((qM _ _ _).1 e3' i (Nat.zero_le _) (by omega))
 ·have:¬ wb c 0 (2 * (R.pieces.length:Int))=false:=fun e=>e5 (List.any_eq_true.2 ⟨c,hc,by simp [e]⟩)
  exact qP this
 ·unfold jh at e6'
  by_cases f:6<R.ends.length
  ·rw [if_pos f] at e6'; cases e6'
  ·omega
 ·unfold jh at e6'
  by_cases f:6<R.ends.length
  ·rw [if_pos f] at e6'; cases e6'
  ·rw [if_neg f] at e6'
   exact (qM _ _ _).1 e6' i (Nat.zero_le _) (by omega)
 ·by_cases f:R.bC=0
  ·exact .inl f
  ·exact .inr (qP (fun e=>e7 (.inr (.inr ⟨f,e⟩))))
structure qg (R:aA) (p:bf):Prop where
 r:Ro R
 cl:(p.cells.length:Int)=R.width * R.height
 l0:p.h0.length=R.pieces.length
 l1:p.h1.length=R.pieces.length
 cb:∀ c∈p.cells,0≤c∧c≤2 * (R.pieces.length:Int)
 b0:∀ c∈p.h0,0≤c∧c≤1000
 b1:∀ c∈p.h1,0≤c∧c≤1000
 tu:p.turn=0∨p.turn=1
 qu:0≤p.quiet∧p.quiet≤200
theorem aeo {R:aA} {p:bf} (h:jl R p=0):qg R p:=by
 unfold jl at h
 by_cases e1:aJ R≠0
 ·rw [if_pos e1] at h; exact absurd h e1
 rw [if_neg e1] at h
 have hr:aJ R=0:=by simpa using e1
 unfold fA at h
 by_cases e2:(p.cells.length:Int)≠R.width * R.height∨p.h0.length≠R.pieces.length∨p.h1.length≠R.pieces.length
 ·rw [if_pos e2] at h; cases h
 rw [if_neg e2] at h
 by_cases e3:p.cells.any (fun z=>!wb z 0 (2 * (R.pieces.length:Int)))=true∨(p.h0++p.h1).any (fun z=>!wb z 0 1000)=true∨(p.turn≠0∧p.turn≠1)∨p.quiet<0∨200<p.quiet
 ·rw [if_pos e3] at h; cases h
 refine ⟨Ik hr,by omega,by omega,by omega,fun c hc=>?_,fun c hc=>?_,fun c hc=>?_,by omega,by omega⟩
 ·exact qP fun e=>e3 (.inl (List.any_eq_true.2 ⟨c,hc,by simp [e]⟩))
 ·exact qP fun e=>e3 (.inr (.inl (List.any_eq_true.2 ⟨c,List.mem_append_left _ hc,by simp [e]⟩)))
 ·exact qP fun e=>e3 (.inr (.inl (List.any_eq_true.2 ⟨c,List.mem_append_right _ hc,by simp [e]⟩)))
theorem aep {R:aA} {p:bf} (hr:aJ R=0) (h:qg R p):jl R p=0:=by
 unfold jl
 rw [if_neg (by simpa using hr)]
 unfold fA
 rw [if_neg (by have:=h.cl; have:=h.l0; have:=h.l1; omega),if_neg]
 intro e
 rcases e with e | e | e | e | e
 ·obtain ⟨c,hc,e⟩:=List.any_eq_true.1 e
  rw [(nS _ _ _).2 (h.cb c hc)] at e
  cases e
 ·obtain ⟨c,hc,e⟩:=List.any_eq_true.1 e
  rw [(nS _ _ _).2 (by rcases List.mem_append.1 hc with hc | hc; exact h.b0 c hc; exact h.b1 c hc)] at e
  cases e
 ·have:=h.tu; omega
 ·have:=h.qu; omega
 ·have:=h.qu; omega
theorem qg.len {R:aA} {p:bf} (h:qg R p):p.cells.length≤64:=by
 have h1:=CU R.width R.height 8 8 h.r.w.1 h.r.w.2 h.r.h.1 h.r.h.2
 have h2:=h.cl
 omega
theorem qg.cell {R:aA} {p:bf} (h:qg R p) (i:Nat):0≤p.cells.getD i 0∧p.cells.getD i 0≤2 * (R.pieces.length:Int):=by
 by_cases hi:i<p.cells.length
 ·rw [List.getD_eq_getElem?_getD,List.getElem?_eq_getElem hi]
  exact h.cb _ (List.getElem_mem hi)
 ·rw [List.getD_eq_getElem?_getD,List.getElem?_eq_none (by omega)]
  simp; omega
def bf.hand (p:bf) (t:Int):List Int:=if t=0 then p.h0 else p.h1
def lU (W:Nat) (cells:List Int) (s:Nat):Bool:=(List.range (s / W)).all fun k=>cells.getD (s - (k+1) * W) 0 != 0
def je (R:aA) (p:bf) (s:Nat):List aB:=
 if p.cells.getD s 0≠0∨(R.falls=true∧R.width≤s∧lU R.width.toNat p.cells s=false) then []
 else (List.range (p.hand p.turn).length).filterMap fun k=>if 0<(p.hand p.turn).getD k 0 then some ⟨-1,s,k⟩ else none
def oP (R:aA) (p:bf):List aB:=(List.range p.cells.length).flatMap (je R p)
def iP (c turn:Int):Bool:=decide (0<c) && !((c - 1) % 2 == turn)
def dK (take c turn:Int):Bool:=(take == 0 && c == 0) || (take == 1 && (c == 0 || iP c turn)) || (take == 2 && iP c turn)
def fB (R:aA) (p:bf) (x:uX) (dy:Int):Nat→Int→Int→List Int
 | 0,_,_=>[]
 | n+1,a,b =>
  if a+x.dx<0∨R.width≤a+x.dx∨b+dy<0∨R.height≤b+dy then []
  else (if dK x.take (p.cells.getD ((b+dy) * R.width+(a+x.dx)).toNat 0) p.turn=true then [(b+dy) * R.width+(a+x.dx)] else []) ++
   if p.cells.getD ((b+dy) * R.width+(a+x.dx)).toNat 0≠0 then [] else fB R p x dy n (a+x.dx) (b+dy)
def iY (R:aA) (p:bf) (s:Int) (x:uX):List Int:=fB R p x (if p.turn=1 then -x.dy else x.dy) x.most.toNat (s % R.width) (s / R.width)
def nZ (R:aA) (aV s:Int):Bool:=if aV=0 then s / R.width == R.height - 1 else s / R.width == 0
def kS (R:aA) (p:bf) (s k t:Int):aB:=
 ⟨s,t,if 0<(R.pieces.getD k.toNat default).promote∧nZ R p.turn t=true then (R.pieces.getD k.toNat default).promote - 1 else k⟩
def iU (R:aA) (p:bf) (s:Nat):List aB:=
 if p.cells.getD s 0=0∨(p.cells.getD s 0 - 1) % 2≠p.turn then []
 else (R.pieces.getD ((p.cells.getD s 0 - 1) / 2).toNat default).ways.flatMap fun x=>(iY R p s x).map (kS R p s ((p.cells.getD s 0 - 1) / 2))
def pO (R:aA) (p:bf):List aB:=oP R p++(List.range p.cells.length).flatMap (iU R p)
end Go.Proofs.YteablcielclaeaaGreatDoor
namespace Go.Proofs.YteablcielclaeaaGreatDoor
open Go.ChangeShapes Go.WideShapes Go.ChangeAt Go.RowKit
section
variable {P:Program} {c:Code} {Q:Exit→Act→World→Prop} {a:Act} {w:World} {c0 c1 c2 c3:List Value} {t0 t1 t2 t3:TypeId}
theorem lX (h:∀ w0,Box w0 w.heap.size c0 t0→Below w.heap.size w w0→w0.heap.size=w.heap.size+1→c.wp P Q a w0):c.wp P Q a (w.alloc (.cells c0.toArray t0)):=
 h _ (Box.new w c0 t0) ((Below.refl _ _).alloc (Nat.le_refl _) _) (by simp)
theorem qQ (h:∀ w0,Box w0 w.heap.size c0 t0→Box w0 (w.heap.size+1) c1 t1→Below w.heap.size w w0→w0.heap.size=w.heap.size+1+1→c.wp P Q a w0):c.wp P Q a ((w.alloc (.cells c0.toArray t0)).alloc (.cells c1.toArray t1)):=
 lX (w:=w.alloc _) fun w0 b1 hb hs=>h w0 ((Box.new w c0 t0).below hb (by simp)) (by simpa using b1) (((Below.refl _ _).alloc (Nat.le_refl _) _).trans (hb.mono (by simp))) (by simpa using hs)
theorem KE (h:∀ w0,Box w0 w.heap.size c0 t0→Box w0 (w.heap.size+1) c1 t1→Box w0 (w.heap.size+1+1) c2 t2→Below w.heap.size w w0→w0.heap.size=w.heap.size+1+1+1→c.wp P Q a w0) :
  c.wp P Q a (((w.alloc (.cells c0.toArray t0)).alloc (.cells c1.toArray t1)).alloc (.cells c2.toArray t2)):=
 qQ (w:=w.alloc _) fun w0 b1 b2 hb hs=>h w0 ((Box.new w c0 t0).below hb (by simp)) (by simpa using b1) (by simpa using b2) (((Below.refl _ _).alloc (Nat.le_refl _) _).trans (hb.mono (by simp))) (by simpa using hs)
theorem amB (h:∀ w0,Box w0 w.heap.size c0 t0→Box w0 (w.heap.size+1) c1 t1→Box w0 (w.heap.size+1+1) c2 t2→Box w0 (w.heap.size+1+1+1) c3 t3→Below w.heap.size w w0→w0.heap.size=w.heap.size+1+1+1+1→c.wp P Q a w0) :
  c.wp P Q a ((((w.alloc (.cells c0.toArray t0)).alloc (.cells c1.toArray t1)).alloc (.cells c2.toArray t2)).alloc (.cells c3.toArray t3)):=
 KE (w:=w.alloc _) fun w0 b1 b2 b3 hb hs=>h w0 ((Box.new w c0 t0).below hb (by simp)) (by simpa using b1) (by simpa using b2) (by simpa using b3) (((Below.refl _ _).alloc (Nat.le_refl _) _).trans (hb.mono (by simp))) (by simpa using hs)
end
end Go.Proofs.YteablcielclaeaaGreatDoor
namespace Go.Proofs.YteablcielclaeaaGreatDoor
open Go.ChangeShapes Go.WideShapes Go.ChangeAt Go.RowKit
set_option linter.unusedVariables false
theorem Box.new' (w:World) (b:Nat) (cs:List Value) (t:TypeId) (h:w.heap.size=b):Box (w.alloc (.cells cs.toArray t)) b cs t:=by subst h; exact Box.new w cs t
theorem aK {B:Nat} {w W:World} (h:Below B w W):Below B w W.drew:=below_drewN h 1
theorem eP {w:World} {a:Option Addr} {c:Nat} {zs:List Int} (h:fQ w (.slice a zs.length c) zs) (hn:0<zs.length):∃ g o,a=some ⟨g,o,none⟩∧∀ i,i<zs.length→w.cell? ⟨g,o+i,none⟩=some (.int .i64 (zs.getD i 0)):=by
 obtain ⟨g,o,c',e,_,_,_,h4⟩:=h.some hn
 simp only [Value.slice.injEq] at e
 exact ⟨g,o,e.1,h4⟩
def Keeps (base:Nat) (W w':World):Prop:=W.heap.size≤w'.heap.size∧∀ B w0,Below B w0 W→B≤base→Below B w0 w'
theorem Keeps.below {base:Nat} {W w':World} (h:Keeps base W w') {B:Nat} {w0:World} (hb:Below B w0 W) (hB:B≤base):Below B w0 w':=h.2 B w0 hb hB
theorem zH (W:World) (news:List Value) (e:TypeId):∀ j u,news[j]?=some u→(W.alloc (.cells news.toArray e)).cell? ((⟨W.heap.size,0,none⟩:Addr).add j)=some u:=by
 intro j u hj
 have hb:=Box.new W news e
 have:=hb.cell j hj
 have e2:(⟨W.heap.size,0,none⟩:Addr).add j=⟨W.heap.size,j,none⟩:=by unfold Addr.add; split <;> simp_all
 rw [e2]
 exact this
theorem fV {ops:Array Oper} {rest:List Oper} {o:Oper} {a:Act} {Q:Exit→Act→World→Prop} (t e:TypeId) (z:Value) (k b:Nat)
  (hI:(Tryz.prog.info? e).map (fun i=>(i.zero,i.size,i.bytes))=some (some z,k,b)) (ht:Tryz.prog.underlying t=some (.slice e)) (hzs:z.cells.size=k) (hk:0<k) (hgd:o.guard=none) (s x:Operand)
  (ho:o.op=.call { callee:=.builtin .append,args:=#[s,x],argTypes:=#[t,t] }) (base:Nat) (v:Value) (n:Nat) (xs news:List Value) (W:World) (hown:W.ownsRow base e k v n xs) (hb:base≤W.heap.size)
  (hl:news.length=k) (h1:∀ u∈news,u.oneCell'=true) (hn:n+1≤100000000) (hbb:(n+1) * b≤140737488355328) (hs:a.eval s=v) (hx:a.eval x=.slice (some ⟨W.heap.size,0,none⟩) 1 1)
  (h:∀ g cap w',w'.ownsRow base e k (.slice (some ⟨g,0,none⟩) (n+1) cap) (n+1) (xs++news)→Keeps base W w'→(W.alloc (.cells news.toArray e)).grownBy w' v.ownBlock →
   wpList Tryz.prog ops Q rest (a.put o.dst (.slice (some ⟨g,0,none⟩) (n+1) cap)) w'):wpList Tryz.prog ops Q (o :: rest) a (W.alloc (.cells news.toArray e)):=by
 obtain ⟨i,hi,hz,hsz,hby⟩:∃ i,Tryz.prog.info? e=some i∧i.zero=some z∧i.size=k∧i.bytes=b:=by
  cases hh:Tryz.prog.info? e with
  | none=>rw [hh] at hI; cases hI
  | some i =>
   rw [hh] at hI
   simp only [Option.map_some,Option.some.injEq,Prod.mk.injEq] at hI
   exact ⟨i,rfl,hI.1,hI.2.1,hI.2.2⟩
 refine wpList_append_lies _ hgd s x t ho base e i z k b ht hi hz hsz hby hzs hk v n xs hs (hown.alloc _) ⟨W.heap.size,0,none⟩ 1 1 news hx (by rw [hl,Nat.one_mul]) (zH W news e) h1 (by decide) (by unfold maxLen; omega) hbb (by simp; omega) _ rfl ?_
 intro g cap w' hown' hg hat hlt
 refine h g cap w' hown' ⟨by have:=hg.size; simp at this; omega,fun B w0 hB0 hB=>?_⟩ hg
 have hlB:B≤W.heap.size:=Nat.le_trans hB hb
 exact Below.grown (hB0.alloc hlB _) hg (by simp; omega) (fun q hq=>by have:=(hown.lt q hq).1; omega)
theorem iH (zs:List Int) (z:Int):ints zs++[.int .i64 z]=ints (zs++[z]):=by simp [ints]
theorem gQ {z:Int}:∀ u∈[Value.int .i64 z],u.oneCell'=true:=by intro u hu; simp at hu; subst hu; rfl
def bK (l:List aB):List Value:=l.flatMap fun m=>[.int .i64 m.src,.int .i64 m.dst,.int .i64 m.piece]
theorem iV (l:List aB) (m:aB):bK l++[.int .i64 m.src,.int .i64 m.dst,.int .i64 m.piece]=bK (l++[m]):=by simp [bK]
theorem nM (l:List aB):(bK l).length=l.length * 3:=by
 induction l with
 | nil=>rfl
 | cons m t ih =>
  have e:bK (m :: t)=[.int .i64 m.src,.int .i64 m.dst,.int .i64 m.piece]++bK t:=rfl
  rw [e,List.length_append,ih,List.length_cons]
  simp; omega
theorem jq {x y z:Int}:∀ u∈[Value.int .i64 x,.int .i64 y,.int .i64 z],u.oneCell'=true:=by intro u hu; simp at hu; rcases hu with rfl | rfl | rfl <;> rfl
end Go.Proofs.YteablcielclaeaaGreatDoor
namespace Go.Proofs.YteablcielclaeaaGreatDoor
open Go.ChangeShapes Go.WideShapes Go.ChangeAt Go.RowKit
set_option linter.unusedVariables false
open Go.Lib (hid)
theorem TI (W:Nat) (cells:List Int) (s k:Nat) (hk:k<s / W):((List.range (s / W)).drop k).all (fun k=>cells.getD (s - (k+1) * W) 0 != 0) =
  (cells.getD (s - (k+1) * W) 0 != 0 && ((List.range (s / W)).drop (k+1)).all (fun k=>cells.getD (s - (k+1) * W) 0 != 0)):=by
 rw [List.drop_eq_getElem_cons (by simpa using hk),List.all_cons,List.getElem_range]
set_option maxRecDepth 100000 in
set_option maxHeartbeats 4000000 in
theorem O1 (R:aA) (vp vs ve:Value) (p:bf) (vc v0 v1:Value) (s:Nat) (w:World) (hp:fQ w vc p.cells) (K:qg R p) (hs:s<p.cells.length) :
  Calls Tryz.prog 224 #[(.agg #[.string R.name,.int .i64 R.width,.int .i64 R.height,vp,vs,.bool R.falls,.bool R.keeps,ve,.int .i64 R.blocked,.int .i64 R.quiet,.int .i64 R.bC]),(.agg #[vc,v0,v1,.int .i64 p.turn,.int .i64 p.quiet]),.int .i64 s] w fun e w'=>e=.returned (.bool (lU R.width.toNat p.cells s))∧Below w.heap.size w w':=by
 have HC:=hid hp
 obtain ⟨ac,cc,rfl,hc1,hc2⟩:=hp.form
 unfold maxLen at hc2
 have hlen:=K.len
 obtain ⟨hw1,hw2⟩:=K.r.w
 obtain ⟨W,hW⟩:∃ W:Nat,R.width=(W:Int):=⟨R.width.toNat,by omega⟩
 have HF:Hid (lU R.width.toNat p.cells s=((List.range (s / W)).drop 0).all (fun k=>p.cells.getD (s - (k+1) * W) 0 != 0)):=hid (by rw [hW]; rfl)
 have HW:=hid hW
 have HD:Hid (s / W * W≤s∧s<(s / W+1) * W):=hid ⟨Nat.div_mul_le_self _ _,by have:=Nat.lt_div_mul_add (a:=s) (b:=W) (by omega); rw [Nat.add_mul,Nat.one_mul]; exact this⟩
 clear hp hW
 go_enter Tryz.func224,Tryz.ntmps224
 go_upto_region 1 with (fail)
 refine qQ fun w0 B0 B1 fJ hs_=>?_
 have HB:=hid fJ
 have hz0:w.heap.size+1<w0.heap.size:=by omega
 clear hs_ fJ
 have JR:=hid (HC.out.below HB.out (Nat.le_refl _))
 have r1:w0.cell? ⟨w.heap.size,1,none⟩=some (.int .i64 R.width):=B0.cell 1 rfl
 have p0:w0.cell? ⟨w.heap.size+1,0,none⟩=some (.slice ac p.cells.length cc):=B1.cell 0 rfl
 obtain ⟨g,o,rfl,hcell⟩:=eP JR.out (by omega)
 have adx:=hid hcell
 clear hcell B0 B1
 go_wp2_with fail
 go_loop [2] (fun i=>∃ (k:Nat) (t:Int),i=.int .i64 t∧Hid (t=(s:Int) - (((k+1) * W:Nat):Int))∧Hid (k≤s / W)∧Hid (lU R.width.toNat p.cells s=((List.range (s / W)).drop k).all (fun k=>p.cells.getD (s - (k+1) * W) 0 != 0))∧-8≤t∧t≤64) (fun i=>(intOf i+8).toNat)
 case atStart=>exact ⟨0,_,rfl,hid (by rw [HW.out]; simp),hid (Nat.zero_le _),HF,by omega,by omega⟩
 case round =>
  obtain ⟨k,t,rfl,HT,HK,HFk,ht1,ht2⟩:=hrel
  by_cases hk:k<s / W
  ·have hkw:(k+1) * W≤s:=Nat.le_trans (Nat.mul_le_mul_right W hk) HD.out.1
   have ht0:0≤t:=by have:=HT.out; omega
   have hts:t.toNat=s - (k+1) * W:=by have:=HT.out; omega
   have hcl:w0.cell? ⟨g,o+t.toNat,none⟩=some (.int .i64 (p.cells.getD t.toNat 0)):=adx.out _ (by omega)
   have HST:Hid (lU R.width.toNat p.cells s=(p.cells.getD t.toNat 0 != 0 && ((List.range (s / W)).drop (k+1)).all (fun k=>p.cells.getD (s - (k+1) * W) 0 != 0))):=hid (by rw [HFk.out,TI _ _ _ _ hk,hts])
   have hlt:t<p.cells.length:=by omega
   have HT2:Hid (t - R.width=(s:Int) - (((k+1+1) * W:Nat):Int)):=hid (by rw [HT.out,HW.out,Nat.add_mul (k+1) 1 W,Nat.one_mul]; omega)
   have hkk:=hid hk
   clear hkw hts hk
   generalize p.cells.getD t.toNat 0=c at *
   by_cases hc0:c=0
   ·subst hc0
    have HE:Hid (lU R.width.toNat p.cells s=false):=hid (by rw [HST.out]; rfl)
    go_wp2_with fail
    go_ret
    exact ⟨by rw [HE.out]; rfl,HB.out⟩
   ·have HE:Hid (lU R.width.toNat p.cells s=((List.range (s / W)).drop (k+1)).all (fun k=>p.cells.getD (s - (k+1) * W) 0 != 0)):=hid (by rw [HST.out,show (c != 0)=true by simpa using hc0,Bool.true_and])
    go_wp2_with fail
    go_round
    case rel=>exact ⟨k+1,_,rfl,HT2,hid (by have:=hkk.out; omega),HE,by omega,by omega⟩
    case measure=>simp [intOf]; omega
  ·have ht0:t<0:=by
    have e:k=s / W:=by have:=HK.out; omega
    have h1:=HD.out.2
    rw [← e] at h1
    have:=HT.out
    omega
   have HE:Hid (lU R.width.toNat p.cells s=true):=hid (by rw [HFk.out,List.drop_of_length_le (by simp; omega)]; rfl)
   clear hk
   go_wp2_with fail
   go_ret
   exact ⟨by rw [HE.out]; rfl,HB.out⟩
end Go.Proofs.YteablcielclaeaaGreatDoor
namespace Go.Proofs.YteablcielclaeaaGreatDoor
open Go.ChangeShapes Go.WideShapes Go.ChangeAt Go.RowKit
set_option linter.unusedVariables false
set_option maxHeartbeats 4000000
set_option maxRecDepth 100000
open Go.Lib (hid)
theorem C9 (R:aA) (vp vs ve:Value) (pl s:Int) (w:World) (hR:Ro R) (hs0:0≤s) (hs:s≤1000) :
  Calls Tryz.prog 192 #[(.agg #[.string R.name,.int .i64 R.width,.int .i64 R.height,vp,vs,.bool R.falls,.bool R.keeps,ve,.int .i64 R.blocked,.int .i64 R.quiet,.int .i64 R.bC]),.int .i64 pl,.int .i64 s] w fun e w'=>e=.returned (.bool (nZ R pl s))∧Below w.heap.size w w':=by
 obtain ⟨hw1,hw2⟩:=hR.w
 obtain ⟨hh1,hh2⟩:=hR.h
 have hw0:¬ R.width=0:=by omega
 have HL:Hid (nZ R pl s=if pl=0 then s / R.width == R.height - 1 else s / R.width == 0):=hid rfl
 have q1:=Int.ediv_le_self R.width hs0
 have q2:0≤s / R.width:=Int.ediv_nonneg hs0 (by omega)
 by_cases hp:pl=0
 ·have HE:Hid (nZ R pl s=(s / R.width == R.height - 1)):=hid (by rw [HL.out,if_pos hp])
  have hp':(pl == 0)=true:=by simpa using hp
  clear hp HL
  go_enter Tryz.func192,Tryz.ntmps192
  go_upto_region 1 with (fail)
  refine lX fun w0 B0 fJ hs_=>?_
  have HB:=hid fJ
  have hz0:w.heap.size<w0.heap.size:=by omega
  clear hs_ fJ
  have r1:w0.cell? ⟨w.heap.size,1,none⟩=some (.int .i64 R.width):=B0.cell 1 rfl
  have r2:w0.cell? ⟨w.heap.size,2,none⟩=some (.int .i64 R.height):=B0.cell 2 rfl
  have eh:IntKind.i64.wrap (R.height - 1)=R.height - 1:=IntWalk.i64_in _ (by omega)
  have es:IntKind.i64.wrap (s.tdiv R.width)=s / R.width:=by rw [Int.tdiv_eq_ediv_of_nonneg hs0]; exact IntWalk.i64_in _ (by omega)
  go_wp2_with fail
  go_quiet (fail)
  go_wp2_with fail
  go_ret
  exact ⟨by rw [HE.out]; rfl,below_drewN HB.out _⟩
 ·have HE:Hid (nZ R pl s=(s / R.width == 0)):=hid (by rw [HL.out,if_neg hp])
  have hp':(pl == 0)=false:=by simpa using hp
  clear hp HL
  go_enter Tryz.func192,Tryz.ntmps192
  go_upto_region 1 with (fail)
  refine lX fun w0 B0 fJ hs_=>?_
  have HB:=hid fJ
  have hz0:w.heap.size<w0.heap.size:=by omega
  clear hs_ fJ
  have r1:w0.cell? ⟨w.heap.size,1,none⟩=some (.int .i64 R.width):=B0.cell 1 rfl
  go_wp2_with fail
  go_ret
  exact ⟨by rw [HE.out]; rfl,HB.out⟩
theorem oq:(Tryz.prog.info? 68).map (fun i=>(i.zero,i.size,i.bytes))=some (some (.agg #[.int .i64 0,.int .i64 0,.int .i64 0]),3,24):=by kernel_rfl
def kL (R:aA) (p:bf) (s k:Nat):Option aB:=if 0<(p.hand p.turn).getD k 0 then some ⟨-1,s,k⟩ else none
theorem ou {α:Type} (f:Nat→Option α) (j:Nat):(List.range (j+1)).filterMap f=(List.range j).filterMap f++(f j).toList:=by
 rw [List.range_succ,List.filterMap_append]
 cases h:f j <;> simp [h]
theorem gU {α:Type} (f:Nat→List α) (j:Nat):(List.range (j+1)).flatMap f=(List.range j).flatMap f++f j:=by
 rw [List.range_succ,List.flatMap_append]; simp
theorem xP (R:aA) (p:bf) (s j:Nat):((List.range j).filterMap (kL R p s)).length≤j:=by
 have:=List.length_filterMap_le (kL R p s) (List.range j)
 simpa using this
theorem oQ {α:Type} (f:Nat→List α) (b:Nat) (h:∀ k,(f k).length≤b):∀ n,((List.range n).flatMap f).length≤n * b
 | 0=>by simp
 | n+1=>by
  rw [gU,List.length_append,Nat.add_mul,Nat.one_mul]
  have:=oQ f b h n
  have:=h n
  omega
theorem Dc (R:aA) (p:bf) (s:Nat):(je R p s).length≤(p.hand p.turn).length:=by
 unfold je
 split
 ·simp
 ·exact xP R p s _
def zI (zs:List aB) (w:World) (e:Ending) (w':World):Prop:=∃ v,e=.returned v∧w'.ownsRow w.heap.size 68 3 v zs.length (bK zs)∧Below w.heap.size w w'
theorem sN {R:aA} {p:bf} (K:qg R p):(p.hand p.turn).length=R.pieces.length:=by
 unfold bf.hand
 have:=K.l0
 have:=K.l1
 split <;> omega
theorem Xf (R:aA) (vp vs ve:Value) (p:bf) (vc v0 v1:Value) (w:World) (hp:sH w p vc v0 v1) (K:qg R p) :
  Calls Tryz.prog 190 #[(.agg #[.string R.name,.int .i64 R.width,.int .i64 R.height,vp,vs,.bool R.falls,.bool R.keeps,ve,.int .i64 R.blocked,.int .i64 R.quiet,.int .i64 R.bC]),(.agg #[vc,v0,v1,.int .i64 p.turn,.int .i64 p.quiet])] w (zI (oP R p) w):=by
 have HC:=hid hp.1
 have H0:=hid hp.2.1
 have H1:=hid hp.2.2
 obtain ⟨ac,cc,rfl,hc1,hc2⟩:=hp.1.form
 obtain ⟨a0,c0,rfl,_,hk2⟩:=hp.2.1.form
 obtain ⟨a1,c1,rfl,_,hl2⟩:=hp.2.2.form
 unfold maxLen at hc2 hk2 hl2
 have hlen:=K.len
 obtain ⟨hw1,hw2⟩:=K.r.w
 have hnp:=K.r.np.2
 have hhl:(p.hand p.turn).length≤6:=by rw [sN K]; exact hnp
 have HZ:Hid (oP R p=(List.range p.cells.length).flatMap (je R p)):=hid rfl
 obtain ⟨ah,ch,su,hhc⟩:∃ (ah:Option Addr) (ch:Nat),Hid ((if p.turn=0 then (.slice a0 p.h0.length c0:Value) else .slice a1 p.h1.length c1)=.slice ah (p.hand p.turn).length ch)∧ch≤9223372036854775807:=by
  unfold bf.hand
  by_cases e:p.turn=0
  ·exact ⟨a0,c0,hid (by rw [if_pos e,if_pos e]),by omega⟩
  ·exact ⟨a1,c1,hid (by rw [if_neg e,if_neg e]),by omega⟩
 have HHa:Hid (fQ w (.slice ah (p.hand p.turn).length ch) (p.hand p.turn)):=hid (by
  have h:=su.out
  unfold bf.hand at h ⊢
  by_cases e:p.turn=0
  ·rw [if_pos e,if_pos e] at h; rw [if_pos e,← h]; exact H0.out
  ·rw [if_neg e,if_neg e] at h; rw [if_neg e,← h]; exact H1.out)
 obtain ⟨ht0,ht1⟩:0≤p.turn∧p.turn≤1:=by have:=K.tu; omega
 clear hp
 go_enter Tryz.func190,Tryz.ntmps190
 go_upto_region 1 with (fail)
 refine qQ fun w0 B0 B1 fJ hs_=>?_
 have HB:=hid fJ
 have hz0:w.heap.size+1<w0.heap.size:=by omega
 clear hs_ fJ
 have JR:=hid (HC.out.below HB.out (Nat.le_refl _))
 have H0w:=hid (H0.out.below HB.out (Nat.le_refl _))
 have H1w:=hid (H1.out.below HB.out (Nat.le_refl _))
 have HHw:=hid (HHa.out.below HB.out (Nat.le_refl _))
 have hcH:w0.cell? ⟨w.heap.size+1,1+p.turn.toNat,none⟩=some (.slice ah (p.hand p.turn).length ch):=by
  rw [← su.out]
  by_cases e:p.turn=0
  ·rw [if_pos e,e]; exact B1.cell 1 rfl
  ·have:p.turn=1:=by omega
   rw [if_neg e,this]; exact B1.cell 2 rfl
 have HCH:=hid hcH
 have dL:=hid B0
 have jv:=hid B1
 have hq0:w0.cell? ⟨w.heap.size+1,0,none⟩=some (.slice ac p.cells.length cc):=B1.cell 0 rfl
 clear B0 B1 hcH
 go_wp2_with fail
 go_loopw [5,13] (fun vo vi wr=>∃ (k:Nat) (out:List aB),k≤p.cells.length∧vi=.int .i64 k∧Hid (wr.ownsRow w0.heap.size 68 3 vo out.length (bK out))∧Hid (out=(List.range k).flatMap (je R p))∧Hid (Below w0.heap.size w0 wr)) (fun _ i _=>p.cells.length - (intOf i).toNat)
 case atStart=>exact ⟨0,[],Nat.zero_le _,rfl,hid (World.ownsRow_nil _ _ _ _),hid rfl,hid (Below.refl _ _)⟩
 case round =>
  obtain ⟨k,out,hk,rfl,HO,zJ,bn⟩:=hrel
  have hsz:=bn.out.size
  have hol:out.length≤384:=by
   rw [zJ.out]
   have h1:=oQ (je R p) 6 (fun k=>by have:=Dc R p k; omega) k
   omega
  clear hq0
  by_cases hlt:k<p.cells.length
  ·obtain ⟨gc,oc,ec,hcc⟩:=eP (JR.out.below bn.out (Nat.le_refl _)) (by omega)
   subst ec
   have hck:=hcc k hlt
   have q0:=(dL.out.below bn.out (by omega)).cell 0 rfl
   have q1:=(dL.out.below bn.out (by omega)).cell 1 rfl
   have q2:=(dL.out.below bn.out (by omega)).cell 2 rfl
   have q3:=(dL.out.below bn.out (by omega)).cell 3 rfl
   have q4:=(dL.out.below bn.out (by omega)).cell 4 rfl
   have q5:=(dL.out.below bn.out (by omega)).cell 5 rfl
   have q6:=(dL.out.below bn.out (by omega)).cell 6 rfl
   have q7:=(dL.out.below bn.out (by omega)).cell 7 rfl
   have q8:=(dL.out.below bn.out (by omega)).cell 8 rfl
   have q9:=(dL.out.below bn.out (by omega)).cell 9 rfl
   have q10:=(dL.out.below bn.out (by omega)).cell 10 rfl
   have e3:=(jv.out.below bn.out (by omega)).cell 3 rfl
   have e4:wr.cell? ⟨w.heap.size+1,1+p.turn.toNat,none⟩=some (.slice ah (p.hand p.turn).length ch):=(bn.out.cell (by show w.heap.size+1<w0.heap.size; omega)).trans HCH.out
   clear hcc
   have HPD:Hid (je R p k=if p.cells.getD k 0≠0∨(R.falls=true∧R.width≤(k:Int)∧lU R.width.toNat p.cells k=false) then [] else (List.range (p.hand p.turn).length).filterMap (kL R p k)):=hid rfl
   generalize p.cells.getD k 0=c at *
   by_cases hc0:c=0
   ·subst hc0
    cases hf:R.falls
    ·have HPA:Hid (je R p k=(List.range (p.hand p.turn).length).filterMap (kL R p k)):=hid (by rw [HPD.out,if_neg (by simp [hf])])
     clear HPD
     rw [hf] at q5
     go_wp2_with fail
     go_loopw [5,43] (fun vo vj wq=>∃ (j:Nat) (ms:List aB),j≤(p.hand p.turn).length∧vj=.int .i64 j∧Hid (wq.ownsRow w0.heap.size 68 3 vo ms.length (bK ms))∧Hid (ms=out++(List.range j).filterMap (kL R p k))∧Hid (Below w0.heap.size w0 wq)) (fun _ j _=>(p.hand p.turn).length - (intOf j).toNat)
     case atStart=>exact ⟨0,out,Nat.zero_le _,rfl,HO,hid (by simp),bn⟩
     case round =>
      obtain ⟨j,ms,hj,rfl,HO,JU,mD⟩:=hrel
      have TJ:=mD.out.size
      have hml:ms.length≤390:=by rw [JU.out,List.length_append]; have:=xP R p k j; omega
      by_cases hjl:j<(p.hand p.turn).length
      ·obtain ⟨gh,oh,eh,hch⟩:=eP (HHw.out.below mD.out (Nat.le_refl _)) (by omega)
       subst eh
       have hcj:=hch j hjl
       have HST:Hid ((List.range (j+1)).filterMap (kL R p k)=(List.range j).filterMap (kL R p k)++(kL R p k j).toList):=hid (ou _ _)
       clear hch
       by_cases hpos:0<(p.hand p.turn).getD j 0
       ·have Xg:Hid (kL R p k j=some ⟨-1,k,j⟩):=hid (by unfold kL; rw [if_pos hpos])
        generalize (p.hand p.turn).getD j 0=hv at *
        go_wp2_with (at_builtin; refine fV 80 68 (.agg #[.int .i64 0,.int .i64 0,.int .i64 0]) 3 24 oq Tryz.underlying80 rfl (by decide) (by rfl) _ _ (by rfl) (w0.heap.size) _ ms.length (bK ms) [.int .i64 (-1),.int .i64 k,.int .i64 j] wr HO.out (by omega) rfl jq (by omega) (by omega) (by rfl) (by rfl) ?_)
        intro g3 cap3 w3 hown3 dA _
        have oz:=hid hown3
        have HB3:=hid (dA.below mD.out (Nat.le_refl _))
        clear hown3 dA
        go_wp2_with fail
        go_roundw
        case rel=>exact ⟨j+1,ms++[⟨-1,k,j⟩],by omega,by go_num,hid (by rw [← iV,List.length_append]; exact oz.out),hid (by rw [HST.out,Xg.out,JU.out]; simp),HB3⟩
        case measure=>simp [intOf]; omega
       ·have Xg:Hid (kL R p k j=none):=hid (by unfold kL; rw [if_neg hpos])
        generalize (p.hand p.turn).getD j 0=hv at *
        go_wp2_with fail
        go_roundw
        case rel=>exact ⟨j+1,ms,by omega,by go_num,HO,hid (by rw [HST.out,Xg.out,JU.out]; simp),mD⟩
        case measure=>simp [intOf]; omega
      ·obtain rfl:j=(p.hand p.turn).length:=by omega
       have HE:Hid (ms=(List.range (k+1)).flatMap (je R p)):=hid (by rw [JU.out,gU,zJ.out,HPA.out])
       go_wp2_with fail
       go_roundw
       case rel=>exact ⟨k+1,ms,by omega,by go_num,HO,HE,mD⟩
       case measure=>simp [intOf]; omega
    ·rw [hf] at q5
     have HFT:=hid hf
     by_cases hsw:R.width≤(k:Int)
     ·have s0:=(jv.out.below bn.out (by omega)).cell 0 rfl
      have s1:=(jv.out.below bn.out (by omega)).cell 1 rfl
      have s2:=(jv.out.below bn.out (by omega)).cell 2 rfl
      have s4:=(jv.out.below bn.out (by omega)).cell 4 rfl
      have hfa:=O1 R vp vs ve p _ (.slice a0 p.h0.length c0) (.slice a1 p.h1.length c1) k _ (HC.out.below (ak HB.out bn.out HB.out.size) (Nat.le_refl _)) K hlt
      rw [hf] at hfa
      have HFA:=hid hfa
      clear hfa hf
      go_wp2_with fail
      refine HFA.out.mono ?_
      rintro e w5 ⟨rfl,hb5⟩
      have EY:=hid (ak bn.out hb5 bn.out.size)
      have O8:=hid (aS HO.out hb5)
      have hz5:=hb5.size
      have f3:=(jv.out.below EY.out (by omega)).cell 3 rfl
      have f4:w5.cell? ⟨w.heap.size+1,1+p.turn.toNat,none⟩=some (.slice ah (p.hand p.turn).length ch):=(EY.out.cell (by show w.heap.size+1<w0.heap.size; omega)).trans HCH.out
      clear hb5 q0 q1 q2 q3 q4 q5 q6 q7 q8 q9 q10 e3 e4 hck
      cases hfl:lU R.width.toNat p.cells k
      ·have HPA:Hid (je R p k=[]):=hid (by rw [HPD.out,if_pos (.inr ⟨HFT.out,hsw,hfl⟩)])
       clear HPD HO
       have HO:=O8
       go_wp2_with fail
       go_roundw
       case rel=>exact ⟨k+1,out,by omega,by go_num,HO,hid (by rw [gU,zJ.out,HPA.out,List.append_nil]),EY⟩
       case measure=>simp [intOf]; omega
      ·have HPA:Hid (je R p k=(List.range (p.hand p.turn).length).filterMap (kL R p k)):=hid (by rw [HPD.out,if_neg (by simp [hfl])])
       clear HPD HO
       have HO:=O8
       go_wp2_with fail
       go_loopw [5,43] (fun vo vj wq=>∃ (j:Nat) (ms:List aB),j≤(p.hand p.turn).length∧vj=.int .i64 j∧Hid (wq.ownsRow w0.heap.size 68 3 vo ms.length (bK ms))∧Hid (ms=out++(List.range j).filterMap (kL R p k))∧Hid (Below w0.heap.size w0 wq)) (fun _ j _=>(p.hand p.turn).length - (intOf j).toNat)
       case atStart=>exact ⟨0,out,Nat.zero_le _,rfl,HO,hid (by simp),EY⟩
       case round =>
        obtain ⟨j,ms,hj,rfl,HO,JU,mD⟩:=hrel
        have TJ:=mD.out.size
        have hml:ms.length≤390:=by rw [JU.out,List.length_append]; have:=xP R p k j; omega
        by_cases hjl:j<(p.hand p.turn).length
        ·obtain ⟨gh,oh,eh,hch⟩:=eP (HHw.out.below mD.out (Nat.le_refl _)) (by omega)
         subst eh
         have hcj:=hch j hjl
         have HST:Hid ((List.range (j+1)).filterMap (kL R p k)=(List.range j).filterMap (kL R p k)++(kL R p k j).toList):=hid (ou _ _)
         clear hch
         by_cases hpos:0<(p.hand p.turn).getD j 0
         ·have Xg:Hid (kL R p k j=some ⟨-1,k,j⟩):=hid (by unfold kL; rw [if_pos hpos])
          generalize (p.hand p.turn).getD j 0=hv at *
          go_wp2_with (at_builtin; refine fV 80 68 (.agg #[.int .i64 0,.int .i64 0,.int .i64 0]) 3 24 oq Tryz.underlying80 rfl (by decide) (by rfl) _ _ (by rfl) (w0.heap.size) _ ms.length (bK ms) [.int .i64 (-1),.int .i64 k,.int .i64 j] wr HO.out (by omega) rfl jq (by omega) (by omega) (by rfl) (by rfl) ?_)
          intro g3 cap3 w3 hown3 dA _
          have oz:=hid hown3
          have HB3:=hid (dA.below mD.out (Nat.le_refl _))
          clear hown3 dA
          go_wp2_with fail
          go_roundw
          case rel=>exact ⟨j+1,ms++[⟨-1,k,j⟩],by omega,by go_num,hid (by rw [← iV,List.length_append]; exact oz.out),hid (by rw [HST.out,Xg.out,JU.out]; simp),HB3⟩
          case measure=>simp [intOf]; omega
         ·have Xg:Hid (kL R p k j=none):=hid (by unfold kL; rw [if_neg hpos])
          generalize (p.hand p.turn).getD j 0=hv at *
          go_wp2_with fail
          go_roundw
          case rel=>exact ⟨j+1,ms,by omega,by go_num,HO,hid (by rw [HST.out,Xg.out,JU.out]; simp),mD⟩
          case measure=>simp [intOf]; omega
        ·obtain rfl:j=(p.hand p.turn).length:=by omega
         have HE:Hid (ms=(List.range (k+1)).flatMap (je R p)):=hid (by rw [JU.out,gU,zJ.out,HPA.out])
         go_wp2_with fail
         go_roundw
         case rel=>exact ⟨k+1,ms,by omega,by go_num,HO,HE,mD⟩
         case measure=>simp [intOf]; omega
     ·have HPA:Hid (je R p k=(List.range (p.hand p.turn).length).filterMap (kL R p k)):=hid (by rw [HPD.out,if_neg (by simp [hsw])])
      clear HPD
      go_wp2_with fail
      go_loopw [5,43] (fun vo vj wq=>∃ (j:Nat) (ms:List aB),j≤(p.hand p.turn).length∧vj=.int .i64 j∧Hid (wq.ownsRow w0.heap.size 68 3 vo ms.length (bK ms))∧Hid (ms=out++(List.range j).filterMap (kL R p k))∧Hid (Below w0.heap.size w0 wq)) (fun _ j _=>(p.hand p.turn).length - (intOf j).toNat)
      case atStart=>exact ⟨0,out,Nat.zero_le _,rfl,HO,hid (by simp),bn⟩
      case round =>
       obtain ⟨j,ms,hj,rfl,HO,JU,mD⟩:=hrel
       have TJ:=mD.out.size
       have hml:ms.length≤390:=by rw [JU.out,List.length_append]; have:=xP R p k j; omega
       by_cases hjl:j<(p.hand p.turn).length
       ·obtain ⟨gh,oh,eh,hch⟩:=eP (HHw.out.below mD.out (Nat.le_refl _)) (by omega)
        subst eh
        have hcj:=hch j hjl
        have HST:Hid ((List.range (j+1)).filterMap (kL R p k)=(List.range j).filterMap (kL R p k)++(kL R p k j).toList):=hid (ou _ _)
        clear hch
        by_cases hpos:0<(p.hand p.turn).getD j 0
        ·have Xg:Hid (kL R p k j=some ⟨-1,k,j⟩):=hid (by unfold kL; rw [if_pos hpos])
         generalize (p.hand p.turn).getD j 0=hv at *
         go_wp2_with (at_builtin; refine fV 80 68 (.agg #[.int .i64 0,.int .i64 0,.int .i64 0]) 3 24 oq Tryz.underlying80 rfl (by decide) (by rfl) _ _ (by rfl) (w0.heap.size) _ ms.length (bK ms) [.int .i64 (-1),.int .i64 k,.int .i64 j] wr HO.out (by omega) rfl jq (by omega) (by omega) (by rfl) (by rfl) ?_)
         intro g3 cap3 w3 hown3 dA _
         have oz:=hid hown3
         have HB3:=hid (dA.below mD.out (Nat.le_refl _))
         clear hown3 dA
         go_wp2_with fail
         go_roundw
         case rel=>exact ⟨j+1,ms++[⟨-1,k,j⟩],by omega,by go_num,hid (by rw [← iV,List.length_append]; exact oz.out),hid (by rw [HST.out,Xg.out,JU.out]; simp),HB3⟩
         case measure=>simp [intOf]; omega
        ·have Xg:Hid (kL R p k j=none):=hid (by unfold kL; rw [if_neg hpos])
         generalize (p.hand p.turn).getD j 0=hv at *
         go_wp2_with fail
         go_roundw
         case rel=>exact ⟨j+1,ms,by omega,by go_num,HO,hid (by rw [HST.out,Xg.out,JU.out]; simp),mD⟩
         case measure=>simp [intOf]; omega
       ·obtain rfl:j=(p.hand p.turn).length:=by omega
        have HE:Hid (ms=(List.range (k+1)).flatMap (je R p)):=hid (by rw [JU.out,gU,zJ.out,HPA.out])
        go_wp2_with fail
        go_roundw
        case rel=>exact ⟨k+1,ms,by omega,by go_num,HO,HE,mD⟩
        case measure=>simp [intOf]; omega
   ·have hc0':(c != 0)=true:=by simpa using hc0
    have HPA:Hid (je R p k=[]):=hid (by rw [HPD.out,if_pos (.inl hc0)])
    clear HPD hc0
    go_wp2_with fail
    go_roundw
    case rel=>exact ⟨k+1,out,by omega,by go_num,HO,hid (by rw [gU,zJ.out,HPA.out,List.append_nil]),bn⟩
    case measure=>simp [intOf]; omega
  ·obtain rfl:k=p.cells.length:=by omega
   have HE:Hid (oP R p=out):=hid (by rw [HZ.out,zJ.out])
   go_wp2_with fail
   go_ret
   exact ⟨_,rfl,by rw [HE.out]; exact (own_base HO.out (by omega)),ak HB.out bn.out HB.out.size⟩
end Go.Proofs.YteablcielclaeaaGreatDoor

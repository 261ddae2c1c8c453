/- JouGood, MaP, MaL, GxA, GxB. -/
import Derived.Test.YtmabaojkignodaaGreatDoorE17
import Derived.Lib.ItoaNum
namespace Go.Proofs.YtmabaojkignodaaGreatDoor
open Go.ChangeShapes Go.WideShapes Go.ChangeAt Go.RowKit
set_option linter.unusedVariables false
open Go.Lib (hid)
def gK (es:List iL):List Value:=es.flatMap fun e=>[.string e.txt,.int .u64 e.sum]
theorem uK (e:iL) (t:List iL):gK (e :: t)=.string e.txt :: .int .u64 e.sum :: gK t:=rfl
theorem Dy (es:List iL):(gK es).length=es.length * 2:=by
 induction es with
 | nil=>rfl
 | cons e t ih=>rw [uK]; simp [ih]; omega
theorem Et (a b:List iL):gK (a++b)=gK a++gK b:=by simp [gK]
theorem QM (es:List iL) (k:Nat) (h:k<es.length):(gK es)[k * 2]?=some (.string es[k].txt)∧(gK es)[k * 2+1]?=some (.int .u64 es[k].sum):=by
 induction es generalizing k with
 | nil=>simp at h
 | cons g t ih =>
  cases k with
  | zero=>exact ⟨rfl,rfl⟩
  | succ k =>
   have:=ih k (by simpa using h)
   have e:(k+1) * 2=k * 2+2:=by omega
   rw [e]
   exact this
theorem JJ (es:List iL) (k:Nat):(gK es).take (k * 2)=gK (es.take k):=by
 induction es generalizing k with
 | nil=>simp [gK]
 | cons g t ih =>
  cases k with
  | zero=>simp [gK]
  | succ k =>
   have e:(k+1) * 2=k * 2+1+1:=by omega
   rw [e,uK,List.take_succ_cons,List.take_succ_cons,ih,List.take_succ_cons,uK]
def zL (w:World) (v:Value) (es:List iL):Prop:=Rd w 2 es.length v (gK es)
theorem zL.below {w w':World} {v:Value} {es:List iL} {B:Nat} (h:zL w v es) (hb:Below B w w') (hB:w.heap.size≤B):zL w' v es:=Rd.below h hb hB
theorem zL.take {w:World} {a:Option Addr} {c:Nat} {es:List iL} (h:zL w (.slice a es.length c) es) (k:Nat) (hk:k≤es.length):zL w (.slice a k c) (es.take k):=by
 have:=Rd.take h k hk
 rw [JJ] at this
 unfold zL
 rw [List.length_take,Nat.min_eq_left hk]
 exact this
theorem zL.form {w:World} {v:Value} {es:List iL} (h:zL w v es):∃ a c,v=.slice a es.length c∧es.length≤c∧c≤maxLen ∧
  ∀ k (hk:k<es.length),∃ g o,a=some ⟨g,o,none⟩∧g<w.heap.size∧w.cell? ⟨g,o+k * 2,none⟩=some (.string es[k].txt)∧w.cell? ⟨g,o+k * 2+1,none⟩=some (.int .u64 es[k].sum):=by
 rcases h.2 with ⟨⟨a0,c0,h,hm⟩,hz⟩ | ⟨g,o,c,h',h1,h2,hc⟩
 ·exact ⟨a0,c0,by rw [h,hz],by omega,hm,fun k hk=>by omega⟩
 ·refine ⟨_,_,h',h1,h2,fun k hk=>⟨g,o,rfl,?_⟩⟩
  obtain ⟨q0,q1⟩:=QM es k hk
  have e0:=(hc (k * 2) (by omega)).trans q0
  have e1:=(hc (k * 2+1) (by omega)).trans q1
  exact ⟨World.block_lt_of_cell? w _ e0,e0,e1⟩
def qN (es:List iL):Int:=match es.getLast? with | none=>0 | some e=>e.sum
theorem last_any (v:Value) (es:List iL) (w:World) (h:zL w v es) :
  Calls Tryz.prog 91 #[v] w fun e w'=>e=.returned (.int .u64 (qN es))∧w=w':=by
 obtain ⟨a,c,rfl,h1,h2,hc⟩:=h.form
 unfold maxLen at h2
 cases es with
 | nil =>
  clear h hc
  simp only [List.length_nil]
  go_enter Tryz.func91,Tryz.ntmps91
  go_wp2_with fail
  go_ret
  exact ⟨rfl,rfl⟩
 | cons e0 t =>
  obtain ⟨g,o,rfl,hg,c0,c1⟩:=hc t.length (by simp)
  have HL:Hid (qN (e0 :: t)=((e0 :: t)[t.length]'(by simp)).sum):=hid (by
   unfold qN
   rw [List.getLast?_eq_getElem?]
   simp)
  have hlen:(e0 :: t).length=t.length+1:=rfl
  rw [hlen]
  have hq:((((t.length+1:Nat)):Int) == 0)=false:=by simp; omega
  have h3:t.length+1≤9223372036854775807:=by simp at h1; omega
  generalize ((e0 :: t)[t.length]'(by simp)).sum=z at *
  clear h hc c0 hlen h1
  go_enter Tryz.func91,Tryz.ntmps91
  go_wp2_with fail
  go_ret
  exact ⟨by rw [HL.out]; rfl,rfl⟩
def OkJ (es:List iL):Prop:=(∀ e∈es,e.txt.size≤200)∧∀ k (h:k<es.length),AB (qN (es.take k)) es[k]=0
theorem abe:Tryz.prog.underlying 61=some (.slice (Tryz.prog.elem 61)):=by kernel_rfl
theorem abf (w:World):(sizeOf (Tryz.prog.elem 61)).run Tryz.prog w=.ok 2 w:=by kernel_rfl
set_option maxHeartbeats 2000000 in
theorem Vt (v:Value) (es:List iL) (w:World) (h:zL w v es) (hok:OkJ es) (hlen:es.length≤1000) :
  Calls Tryz.prog 101 #[v] w (zK (es.length:Int) w):=by
 obtain ⟨a,c,rfl,h1,h2,hc⟩:=h.form
 unfold maxLen at h2
 have HJ:=hid h
 have HC:=hid hc
 have HK:=hid hok
 clear h hc hok
 go_enter Tryz.func101,Tryz.ntmps101
 go_wp2_with fail
 go_loopw [7] (fun i wr=>∃ k:Nat,k≤es.length∧i=.int .i64 k∧Below w.heap.size w wr) (fun i _=>es.length - (intOf i).toNat)
 case atStart=>exact ⟨0,Nat.zero_le _,rfl,Below.refl _ _⟩
 case round =>
  obtain ⟨k,hk,rfl,hbl⟩:=hrel
  by_cases hlt:k<es.length
  ·obtain ⟨g,o,rfl,hg,c0,c1⟩:=HC.out k hlt
   have d0:wr.cell? ⟨g,o+k * 2,none⟩=some (.string es[k].txt):=(hbl.cell (p:=⟨g,o+k * 2,none⟩) hg).trans c0
   have d1:wr.cell? ⟨g,o+k * 2+1,none⟩=some (.int .u64 es[k].sum):=(hbl.cell (p:=⟨g,o+k * 2+1,none⟩) hg).trans c1
   have hw:=HK.out.2 k hlt
   have hsz:=HK.out.1 es[k] (List.getElem_mem hlt)
   have ajP:=hbl.size
   have hgr:g<wr.heap.size:=by omega
   clear c0 c1
   have IY:=hid (fun (wx:World) (hx:Below w.heap.size w wx)=>last_any _ (es.take k) wx (zL.below (zL.take HJ.out k hk) hx (Nat.le_refl _)))
   generalize qN (es.take k)=lz at *
   generalize hek:es[k]=ek at *
   clear hek
   have HWr:=hid (fun wx=>NK lz ek wx (by omega))
   rw [hw] at HWr
   obtain ⟨s,n⟩:=ek
   unfold iL.val at HWr
   simp only at *
   have hba:Below w.heap.size w (wr.alloc (.cells #[.string s,.int .u64 n] 131)):=by go_grown
   have e0:(wr.alloc (.cells #[.string s,.int .u64 n] 131)).cell? ⟨wr.heap.size,0,none⟩=some (.string s):=by go_simp
   have e1:(wr.alloc (.cells #[.string s,.int .u64 n] 131)).cell? ⟨wr.heap.size,1,none⟩=some (.int .u64 n):=by go_simp
   have hk1:((k:Int) == 1000)=false:=by simp; omega
   have hsl:=fun w=>Jc abe abf (some ⟨g,o,none⟩) es.length c k (by omega) w
   go_wp2_with fail
   generalize (wr.alloc (.cells #[.string s,.int .u64 n] 131))=W at *
   clear d0 d1 hw
   have hbd:Below w.heap.size w W.drew:=hba.drew
   go_region_with (first | (go_at_call 91; refine (IY.out _ hbd).mono ?_; rintro e w' ⟨rfl,rfl⟩) | (go_at_call 102; refine (HWr.out _).mono ?_; rintro e w9 ⟨rfl,Eu⟩))
   all_goals
    have hb2:Below w.heap.size w w9:=hbd.trans (Eu.mono (by have:=hbd.size; simpa using this))
    clear Eu e0 e1 hsl
    go_wp2_with fail
    go_roundw
    case rel=>exact ⟨k+1,by omega,by go_num,hb2⟩
    case measure=>simp [intOf]; omega
  ·obtain rfl:k=es.length:=by omega
   go_wp2_with fail
   go_ret
   exact ⟨rfl,hbl⟩
structure nJ where
 ps:List (Int×Int)
 inc:Int
 delay:Int
structure oD where
 l0:Int
 l1:Int
 m0:Int
 m1:Int
 p0:Int
 p1:Int
 turn:Int
 since:Int
 st:Bool
 ak:Int
deriving DecidableEq,Inhabited
def kK (CR:nJ) (c:oD) (now:Int):Int:=if c.st=true then 0 else max 0 (now - c.since - CR.delay)
def NM (x:Int):Int:=if 100000000000<x then 100000000000 else x
def tK (x:Int):Int:=if 400<x then 400 else x
def aV (CR:nJ) (c:oD) (now:Int):oD:=
 if c.ak<0 then (if c.turn=0 then (if c.l0<kK CR c now then { c with ak:=0,l0:=0 } else c) else (if c.l1<kK CR c now then { c with ak:=1,l1:=0 } else c)) else c
def jK (CR:nJ) (p m:Int):Bool:=decide (0<(CR.ps.getD p.toNat (0,0)).1∧(CR.ps.getD p.toNat (0,0)).1≤tK (m+1))
def Dz (CR:nJ) (c:oD) (now l p m:Int):Int:=
 if jK CR p m=true then NM (NM (l - kK CR c now+CR.inc)+(CR.ps.getD (p.toNat+1) (0,0)).2) else NM (l - kK CR c now+CR.inc)
def dA (CR:nJ) (c:oD) (now:Int):oD:=
 if c.turn=0 then { c with l0:=Dz CR c now c.l0 c.p0 c.m0,m0:=if jK CR c.p0 c.m0=true then 0 else tK (c.m0+1),p0:=if jK CR c.p0 c.m0=true then c.p0+1 else c.p0,turn:=1,since:=now }
 else { c with l1:=Dz CR c now c.l1 c.p1 c.m1,m1:=if jK CR c.p1 c.m1=true then 0 else tK (c.m1+1),p1:=if jK CR c.p1 c.m1=true then c.p1+1 else c.p1,turn:=0,since:=now }
def aP (CR:nJ) (now:Int):oD:=⟨(CR.ps.getD 0 (0,0)).2,(CR.ps.getD 0 (0,0)).2,0,0,0,0,0,now,false,-1⟩
structure iW where
 b0:Int
 b1:Int
 aY:Int
 aZ:Int
 l10:Int
 aX:Int
deriving DecidableEq,Inhabited
def pO:iW:=⟨-1,-1,-1,-1,-1,-1⟩
def tN (o:iW) (k:Int):Int:=if k=0 then o.b0 else o.b1
def rW (o:iW) (k p:Int):Int:=if k=0 then (if p=0 then o.aY else o.aZ) else (if p=0 then o.l10 else o.aX)
def jm (au moves:Int):Int:=if moves % 2=au then (if 2≤moves then 2 else 0) else (if 1≤moves then 1 else 0)
def dH (o:iW) (k p n:Int):Int:=if ¬ (k=0∨k=1) then 1 else if 0≤tN o k then 7 else if rW o k p=n then 11 else if k=1∧jm p n=0 then 8 else 0
def qO (o:iW) (k p n:Int):iW:=
 if k=0 then (if p=0 then { o with b0:=0,aY:=n } else { o with b0:=1,aZ:=n }) else (if p=0 then { o with b1:=0,l10:=n } else { o with b1:=1,aX:=n })
def bU (o:iW) (k p n:Int):Int:=if ¬ (k=0∨k=1) then 1 else if tN o k≠1 - p then 10 else 0
def kE (o:iW):iW:={ o with b0:=-1,b1:=-1 }
def iM (o:iW) (k:Int):iW:=if k=0 then { o with b0:=-1 } else { o with b1:=-1 }
def qP (o:iW) (p:Int):iW:={ o with b0:=if o.b0=1 - p then -1 else o.b0,b1:=-1 }
def iO (o:iW) (n:Int):iW:=⟨-1,-1,min o.aY n,min o.aZ n,min o.l10 n,min o.aX n⟩
structure iY where
 kind:Int
 au:Int
 n:Int
 now:Int
 m:aN
deriving DecidableEq,Inhabited
def bV (e:iY):ByteArray:=
 ⟨(Lib.itoa e.kind++32 :: (Lib.itoa e.au++32 :: (Lib.itoa e.n++32 :: (Lib.itoa e.now++32 :: (Lib.itoa e.m.src++32 :: (Lib.itoa e.m.dst++32 :: Lib.itoa e.m.piece)))))).toArray⟩
def iT (now:Int):ByteArray:=⟨(([115,116,97,114,116,32]:List UInt8)++Lib.itoa now).toArray⟩
structure aG where
 R:aC
 CR:nJ
 ms:List aN
 res:Int
 reason:Int
 clk:oD
 off:iW
 aS:List bT
 last:Int
 jr:List iL
def aG.pos (M:aG):bg:=bn M.R M.ms
def aG.game (M:aG):Int:=fM M.R M.ms
def aG.over (M:aG):aG:=if M.game≠0∧M.res=0 then { M with res:=M.game,reason:=1 } else M
def aG.move (M:aG) (x:aN) (now:Int):aG:={ M with ms:=M.ms++[x],clk:=dA M.CR M.clk now,off:=qP M.off M.pos.turn }
def aG.runs (now:Int):Nat→aG→aG
 | 0,M=>M
 | f+1,M =>
  if M.game=0∧M.ms.length<400 then
   (if gB M.R M.pos M.aS=true then aG.runs now f (aG.move { M with aS:=aJ M.R M.pos M.aS } (bf M.R M.pos M.aS) now) else { M with aS:=aJ M.R M.pos M.aS })
  else M
def aG.jO (M:aG) (e:iY):aG×Int:=
 if M.pos.turn≠e.au then (M,12) else if e.m∉iy M.R M.pos then (M,13) else if M.ms.length=400 then (M,2) else (aG.runs e.now 400 (M.move e.m e.now),0)
def aG.eY (M:aG) (e:iY):aG×Int:=
 if M.pos.turn=e.au then (M,12) else if (oz M.aS e.au).length=4 then (M,9) else ({ M with aS:=M.aS++[⟨e.au,e.m⟩] },0)
def aG.dW (M:aG) (e:iY):aG×Int:=
 if e.kind=3 then (if bU M.off e.n e.au M.ms.length≠0 then (M,bU M.off e.n e.au M.ms.length) else ({ M with off:=iM M.off e.n },0))
 else (if dH M.off e.n e.au M.ms.length≠0 then (M,dH M.off e.n e.au M.ms.length) else ({ M with off:=qO M.off e.n e.au M.ms.length },0))
def aG.backTo (M:aG) (k:Nat) (now:Int):aG:=
 { M with ms:=M.ms.take (M.ms.length - k),off:=iO (kE M.off) ((M.ms.length - k:Nat):Int),clk:={ M.clk with turn:=(bn M.R (M.ms.take (M.ms.length - k))).turn,since:=now },aS:=[] }
def aG.gX (M:aG) (e:iY):aG×Int:=
 if bU M.off e.n e.au M.ms.length≠0 then (M,bU M.off e.n e.au M.ms.length)
 else if e.n=0 then ({ M with off:=kE M.off,res:=3,reason:=4 },0)
 else (M.backTo (jm (1 - e.au) M.ms.length).toNat e.now,0)
def gZ (R:aC) (p:bg) (au:Int):Int:=if Hr R p (1 - au)=true then 2 - au else 3
def aG.dK (M:aG) (e:iY):aG×Int:=
 if e.n=2 then
  (if (aV M.CR M.clk e.now).ak<0 then (M,10) else ({ M with clk:=aV M.CR M.clk e.now,res:=gZ M.R M.pos (aV M.CR M.clk e.now).ak,reason:=2 },0))
 else if e.n≠0∧e.n≠1 then (M,1) else if M.pos.turn≠e.au then (M,12)
 else if ¬ (e.n=0∧3≤iI M.R M.ms∨e.n=1∧20≤M.pos.quiet) then (M,10) else ({ M with res:=3,reason:=5 },0)
def aG.kind (M:aG) (e:iY):aG×Int:=
 if e.kind=0 then M.jO e else if e.kind=1∨e.kind=3 then M.dW e else if e.kind=2 then M.gX e else if e.kind=5 then M.dK e
 else if e.kind=6 then M.eY e else ({ M with res:=2 - e.au,reason:=3 },0)
def aG.nK (M:aG) (e:iY):Int:=
 if e.kind<0∨6<e.kind∨(e.au≠0∧e.au≠1) then 1 else if e.now<M.last∨100000000<e.now then 11 else if M.res≠0 then 14 else if M.jr.length=1000 then 9
 else if 0≤(aV M.CR M.clk e.now).ak∧e.kind≠4∧¬ (e.kind=5∧e.n=2) then 11 else 0
def jS (l:List iL) (t:ByteArray):iL:=⟨t,zh (qN l) t⟩
def aG.put (M:aG) (e:iY):aG:={ M with last:=e.now,jr:=M.jr++[jS M.jr (bV e)] }
def aG.go (M:aG) (e:iY):aG×Int:=if M.nK e≠0 then (M,M.nK e) else if (M.kind e).2≠0 then (M,(M.kind e).2) else ((M.kind e).1.put e |>.over,0)
def dh (R:aC) (CR:nJ) (now:Int):aG:=aG.over ⟨R,CR,[],0,0,aP CR now,pO,[],now,[jS [] (iT now)]⟩
theorem AL (M:aG) (e:iY) (h:(M.kind e).2≠0):(M.kind e).1=M:=by
 revert h
 unfold aG.kind aG.jO aG.dW aG.gX aG.dK aG.eY
 repeat' split
 all_goals first | (intro _; rfl) | (intro h; exact absurd rfl h)
structure xU (CR:nJ):Prop where
 n:1≤CR.ps.length∧CR.ps.length≤5
 inc:0≤CR.inc∧CR.inc≤100000000
 del:0≤CR.delay∧CR.delay≤100000000
 pm:∀ k,k<CR.ps.length→0≤(CR.ps.getD k (0,0)).1∧(CR.ps.getD k (0,0)).1≤400
 pt:∀ k,k<CR.ps.length→1≤(CR.ps.getD k (0,0)).2∧(CR.ps.getD k (0,0)).2≤100000000
 pz:∀ k,k<CR.ps.length→((CR.ps.getD k (0,0)).1=0↔k+1=CR.ps.length)
structure qV (CR:nJ) (c:oD):Prop where
 t:0≤c.turn∧c.turn≤1
 f : -1≤c.ak∧c.ak≤1
 s:0≤c.since∧c.since≤100000000
 p0:0≤c.p0∧c.p0≤(CR.ps.length:Int) - 1
 m0:0≤c.m0∧c.m0≤400
 l0:0≤c.l0∧c.l0≤100000000000
 p1:0≤c.p1∧c.p1≤(CR.ps.length:Int) - 1
 m1:0≤c.m1∧c.m1≤400
 l1:0≤c.l1∧c.l1≤100000000000
theorem NP {CR:nJ} {c:oD} {now:Int} (h:xU CR) (hs:c.since=now):kK CR c now=0:=by
 have:=h.del
 unfold kK
 split <;> omega
theorem QN {x:Int} (h:0≤x):0≤NM x∧NM x≤100000000000:=by unfold NM; split <;> omega
theorem Lr {x:Int} (h:0≤x):0≤tK x∧tK x≤400:=by unfold tK; split <;> omega
theorem JK {CR:nJ} {p m:Int} (h:xU CR) (hp:0≤p∧p≤(CR.ps.length:Int) - 1) (hf:jK CR p m=true):p+1≤(CR.ps.length:Int) - 1:=by
 unfold jK at hf
 have hf:=of_decide_eq_true hf
 have hz:=h.pz p.toNat (by omega)
 by_cases e:p.toNat+1=CR.ps.length
 ·have:=hz.2 e; omega
 ·omega
theorem QO {CR:nJ} {c:oD} {now l p m:Int} (h:xU CR) (hp:0≤p∧p≤(CR.ps.length:Int) - 1) (hu:kK CR c now≤l):0≤Dz CR c now l p m∧Dz CR c now l p m≤100000000000:=by
 have:=h.inc
 have hb:=QN (x:=l - kK CR c now+CR.inc) (by omega)
 unfold Dz
 by_cases hf:jK CR p m=true
 ·rw [if_pos hf]
  have h1:=JK h hp hf
  have h2:=h.pt (p.toNat+1) (by omega)
  exact QN (by omega)
 ·rw [if_neg hf]; exact hb
theorem Vu {CR:nJ} {c:oD} {now:Int} (h:xU CR) (k:qV CR c) (h0:0≤now) (h1:now≤100000000) (hu:kK CR c now≤if c.turn=0 then c.l0 else c.l1):qV CR (dA CR c now):=by
 unfold dA
 by_cases ht:c.turn=0
 ·rw [if_pos ht] at hu ⊢
  refine ⟨by dsimp only; decide,k.f,⟨h0,h1⟩,?_,?_,QO h k.p0 hu,k.p1,k.m1,k.l1⟩
  ·show 0≤(if jK CR c.p0 c.m0=true then c.p0+1 else c.p0)∧(if jK CR c.p0 c.m0=true then c.p0+1 else c.p0)≤(CR.ps.length:Int) - 1
   by_cases hf:jK CR c.p0 c.m0=true
   ·rw [if_pos hf]; have:=JK h k.p0 hf; have:=k.p0; omega
   ·rw [if_neg hf]; exact k.p0
  ·show 0≤(if jK CR c.p0 c.m0=true then 0 else tK (c.m0+1))∧(if jK CR c.p0 c.m0=true then 0 else tK (c.m0+1))≤400
   by_cases hf:jK CR c.p0 c.m0=true
   ·rw [if_pos hf]; omega
   ·rw [if_neg hf]; have:=k.m0; exact Lr (by omega)
 ·rw [if_neg ht] at hu ⊢
  refine ⟨by dsimp only; decide,k.f,⟨h0,h1⟩,k.p0,k.m0,k.l0,?_,?_,QO h k.p1 hu⟩
  ·show 0≤(if jK CR c.p1 c.m1=true then c.p1+1 else c.p1)∧(if jK CR c.p1 c.m1=true then c.p1+1 else c.p1)≤(CR.ps.length:Int) - 1
   by_cases hf:jK CR c.p1 c.m1=true
   ·rw [if_pos hf]; have:=JK h k.p1 hf; have:=k.p1; omega
   ·rw [if_neg hf]; exact k.p1
  ·show 0≤(if jK CR c.p1 c.m1=true then 0 else tK (c.m1+1))∧(if jK CR c.p1 c.m1=true then 0 else tK (c.m1+1))≤400
   by_cases hf:jK CR c.p1 c.m1=true
   ·rw [if_pos hf]; omega
   ·rw [if_neg hf]; have:=k.m1; exact Lr (by omega)
theorem JL (CR:nJ) (c:oD) (now:Int):(dA CR c now).since=now∧(dA CR c now).ak=c.ak∧(dA CR c now).st=c.st:=by
 unfold dA; split <;> exact ⟨rfl,rfl,rfl⟩
theorem JM {CR:nJ} {c:oD} (k:qV CR c) (now:Int):qV CR (aV CR c now):=by
 unfold aV
 repeat' split
 ·exact ⟨k.t,by dsimp only; decide,k.s,k.p0,k.m0,⟨Int.le_refl _,by dsimp only; decide⟩,k.p1,k.m1,k.l1⟩
 ·exact k
 ·exact ⟨k.t,by dsimp only; decide,k.s,k.p0,k.m0,k.l0,k.p1,k.m1,⟨Int.le_refl _,by dsimp only; decide⟩⟩
 ·exact k
 ·exact k
theorem NQ {CR:nJ} {c:oD} {now:Int} (hf:c.ak<0) (h:(aV CR c now).ak<0):kK CR c now≤if c.turn=0 then c.l0 else c.l1:=by
 unfold aV at h
 rw [if_pos hf] at h
 by_cases ht:c.turn=0
 ·rw [if_pos ht] at h ⊢
  by_cases hl:c.l0<kK CR c now
  ·rw [if_pos hl] at h; exact absurd h (by dsimp only; decide)
  ·omega
 ·rw [if_neg ht] at h ⊢
  by_cases hl:c.l1<kK CR c now
  ·rw [if_pos hl] at h; exact absurd h (by dsimp only; decide)
  ·omega
theorem DC (CR:nJ) (c:oD) (now:Int):(aV CR c now).since=c.since∧(aV CR c now).st=c.st:=by
 unfold aV; repeat' split
 all_goals exact ⟨rfl,rfl⟩
structure kF (o:iW):Prop where
 aY : -1≤o.aY∧o.aY≤400
 aZ : -1≤o.aZ∧o.aZ≤400
 l10 : -1≤o.l10∧o.l10≤400
 aX : -1≤o.aX∧o.aX≤400
 b0 : -1≤o.b0∧o.b0≤1
 b1 : -1≤o.b1∧o.b1≤1
 f00:¬ (o.b0=0∧o.aY = -1)
 f01:¬ (o.b0=1∧o.aZ = -1)
 f10:¬ (o.b1=0∧o.l10 = -1)
 f11:¬ (o.b1=1∧o.aX = -1)
theorem Yp:kF pO:=⟨by decide,by decide,by decide,by decide,by decide,by decide,by decide,by decide,by decide,by decide⟩
theorem Vw {o:iW} (h:kF o) (k p:Int) (n:Nat) (hn:n≤400):kF (qO o k p n):=by
 obtain ⟨a1,a2,a3,a4,a5,a6,a7,a8,a9,a10⟩:=h
 unfold qO
 repeat' split
 all_goals constructor <;> simp <;> omega
theorem xW {o:iW} (h:kF o):kF (kE o):=by
 obtain ⟨a1,a2,a3,a4,a5,a6,a7,a8,a9,a10⟩:=h
 unfold kE
 constructor <;> simp <;> omega
theorem JO {o:iW} (h:kF o) (k:Int):kF (iM o k):=by
 obtain ⟨a1,a2,a3,a4,a5,a6,a7,a8,a9,a10⟩:=h
 unfold iM
 repeat' split
 all_goals constructor <;> simp <;> omega
theorem Vx {o:iW} (h:kF o) (p:Int):kF (qP o p):=by
 obtain ⟨a1,a2,a3,a4,a5,a6,a7,a8,a9,a10⟩:=h
 unfold qP
 constructor <;> simp <;> (try split) <;> omega
theorem Vy {o:iW} (h:kF o) (n:Nat):kF (iO o n):=by
 obtain ⟨a1,a2,a3,a4,a5,a6,a7,a8,a9,a10⟩:=h
 unfold iO
 constructor <;> simp <;> omega
structure nM (l:List bT):Prop where
 n0:(oz l 0).length≤4
 n1:(oz l 1).length≤4
 pl:∀ x∈l,x.au=0∨x.au=1
theorem of_sub {l l':List bT} (h:List.Sublist l' l) (pl:Int):(oz l' pl).length≤(oz l pl).length:=by
 unfold oz
 rw [List.length_map,List.length_map]
 exact (h.filter _).length_le
theorem nM.sub {l l':List bT} (h:nM l) (hs:List.Sublist l' l):nM l':=
 ⟨Nat.le_trans (of_sub hs 0) h.n0,Nat.le_trans (of_sub hs 1) h.n1,fun x hx=>h.pl x (hs.subset hx)⟩
theorem QS (R:aC) (p:bg) (l:List bT):List.Sublist (aJ R p l) l:=by
 unfold aJ
 split
 ·generalize (rV p l).toNat=k
  have h:=List.Sublist.append (List.Sublist.refl (l.take k)) (List.Sublist.trans (List.drop_sublist 1 _) (List.Sublist.refl (l.drop k)))
  rw [List.drop_drop,List.take_append_drop] at h
  rw [Nat.add_comm] at h
  exact (by simpa [Nat.add_comm] using h)
 ·unfold pJ; exact List.filter_sublist
theorem nM.len {l:List bT} (h:nM l):l.length≤8:=by
 have key:∀ l:List bT,(∀ x∈l,x.au=0∨x.au=1)→l.length=(oz l 0).length+(oz l 1).length:=by
  intro l
  induction l with
  | nil=>intro _; rfl
  | cons x t ih =>
   intro hx
   have i:=ih (fun y hy=>hx y (List.mem_cons_of_mem _ hy))
   unfold oz at i ⊢
   rcases hx x (List.mem_cons_self ..) with e | e
   ·simp [List.filter_cons,e] at i ⊢; omega
   ·simp [List.filter_cons,e] at i ⊢; omega
 have:=key l h.pl
 have:=h.n0; have:=h.n1; omega
theorem nM.add {l:List bT} (h:nM l) (pl:Int) (m:aN) (hp:pl=0∨pl=1) (hf:(oz l pl).length≠4):nM (l++[⟨pl,m⟩]):=by
 have h0:=h.n0; have h1:=h.n1
 rcases hp with rfl | rfl
 ·refine ⟨?_,?_,?_⟩
  ·unfold oz at hf h0 ⊢; simp at hf h0 ⊢; omega
  ·unfold oz at h1 ⊢; simp at h1 ⊢; omega
  ·intro x hx; rcases List.mem_append.1 hx with hx | hx
   ·exact h.pl x hx
   ·rw [List.mem_singleton.1 hx]; exact .inl rfl
 ·refine ⟨?_,?_,?_⟩
  ·unfold oz at h0 ⊢; simp at h0 ⊢; omega
  ·unfold oz at hf h1 ⊢; simp at hf h1 ⊢; omega
  ·intro x hx; rcases List.mem_append.1 hx with hx | hx
   ·exact h.pl x hx
   ·rw [List.mem_singleton.1 hx]; exact .inr rfl
end Go.Proofs.YtmabaojkignodaaGreatDoor
namespace Go.Proofs.YtmabaojkignodaaGreatDoor.gx
open Go.ChangeShapes Go.WideShapes Go.ChangeAt Go.RowKit
set_option linter.unusedVariables false
def Held (X S:Nat→Prop) (w:World) (D:World→Prop):Prop:=∀ w',Fr (fun k=>S k∨X k) w w'→D w'
theorem Held.now {X S:Nat→Prop} {w:World} {D:World→Prop} (h:Held X S w D):D w:=h w (Fr.refl _ _)
theorem Held.Ls {X S S':Nat→Prop} {w w1:World} {D:World→Prop} (h:Held X S w D) (hf:Fr (fun k=>S k∨X k) w w1) (hs:dw w S S'):Held X S' w1 D:=fun w' hw=>h w' (hf.trans hw (fun k hk h'=>by rcases h' with h' | h'; exact .inl (hs k hk h'); exact .inr h'))
theorem Held.step {X S S':Nat→Prop} {w w1:World} {D:World→Prop} (h:Held X S w D) (hf:Fr S w w1) (hs:dw w S S'):Held X S' w1 D:=h.Ls (hf.mono (fun k _ h=>.inl h)) hs
theorem Held.imp {X S:Nat→Prop} {w:World} {D D':World→Prop} (h:Held X S w D) (hd:∀ w',D w'→D' w'):Held X S w D':=fun w' hw=>hd w' (h w' hw)
theorem Held.plain {X S:Nat→Prop} {w:World} {D:World→Prop} (h:Held X S w D):Go.Proofs.YtmabaojkignodaaGreatDoor.Held S w D:=fun w' hw=>h w' (hw.mono (fun k _ h=>.inl h))
theorem oZ {X S:Nat→Prop} {w:World} {base:Nat} {p:bg} {vc v0 v1:Value} (h:lu base w p vc v0 v1) (hS:∀ k,base≤k→k<w.heap.size→¬ (S k∨X k)):Held X S w fun w'=>lu base w' p vc v0 v1:=fun w' hw=>Go.Proofs.YtmabaojkignodaaGreatDoor.oZ h hS w' hw
theorem DF {lo:Nat} {w w2:World} {D:World→Prop} {X S:Nat→Prop} (h:Seen lo w D) (hb:Below w.heap.size w w2) (hS:∀ k,(S k∨X k)→k<lo∨w.heap.size≤k):Held X S w2 D:=fun w' hw=>h.held hb hS w' hw
structure bP (X S:Nat→Prop) (base:Nat) (w:World) (b:Nat) (R:aC) (ms:List aN) (vp vs ve vl vm:Value) (rows:List lD):Prop where
 box:Box w b [.string R.name,.int .i64 R.width,.int .i64 R.height,vp,vs,.bool R.falls,.bool R.keeps,ve,.int .i64 R.blocked,.int .i64 R.quiet,.int .i64 R.bF,vl,vm] 190
 sb:S b
 lo:∀ k,S k→base≤k∧k<w.heap.size
 rd:Held X S w fun w'=>ru w' R vp vs ve
 ol:w.ownsRow base 78 5 vl (ms.length+1) (iD rows)
 mp:rows.map (·.p)=vZ R ms
 rw:∀ r∈rows,Held X S w fun w'=>pX w' r.p r.vc r.v0 r.v1
 om:w.ownsRow base 52 3 vm ms.length (bJ ms)
 sl:∀ k,vl.ownBlock=some k→S k∧k≠b
 sm:∀ k,vm.ownBlock=some k→S k∧k≠b
 ap:vl.ownBlock=none∨vl.ownBlock≠vm.ownBlock
 lt:ms.length≤400
 la:iC R (aU R) ms
 re:aW R=0
variable {X S:Nat→Prop} {base:Nat} {w w':World} {b:Nat} {R:aC} {ms:List aN} {vp vs ve vl vm:Value} {rows:List lD}
theorem bP.plain (h:bP X S base w b R ms vp vs ve vl vm rows):Go.Proofs.YtmabaojkignodaaGreatDoor.bP S base w b R ms vp vs ve vl vm rows:=
 ⟨h.box,h.sb,h.lo,h.rd.plain,h.ol,h.mp,fun r hr=>(h.rw r hr).plain,h.om,h.sl,h.sm,h.ap,h.lt,h.la,h.re⟩
theorem bP.below (h:bP X S base w b R ms vp vs ve vl vm rows) (hb:Below w.heap.size w w'):bP X S base w' b R ms vp vs ve vl vm rows:=
 ⟨h.box.stays hb,h.sb,fun k hk=>⟨(h.lo k hk).1,Nat.lt_of_lt_of_le (h.lo k hk).2 hb.size⟩,h.rd.step (Fr.jF (S:=S) hb) (dw.refl _ _),bK h.ol hb,h.mp,fun r hr=>(h.rw r hr).step (Fr.jF (S:=S) hb) (dw.refl _ _),bK h.om hb,h.sl,h.sm,h.ap,h.lt,h.la,h.re⟩
theorem bP.pok (h:bP X S base w b R ms vp vs ve vl vm rows) (k:Nat) (hk:k≤ms.length):nV R (jQ R (aU R) (ms.take k)):=GL (GR h.re) h.la k hk
theorem bP.Ub (h:bP X S base w b R ms vp vs ve vl vm rows):nV R (bn R ms):=h.plain.Ub
theorem bP.other (h:bP X S base w b R ms vp vs ve vl vm rows) (hf:Fr X w w') (hx:∀ k,S k→¬ X k):bP X S base w' b R ms vp vs ve vl vm rows:=by
 have hF:Fr (fun k=>S k∨X k) w w':=hf.mono (fun k _ h=>.inr h)
 exact ⟨h.box.held hf (hx b h.sb),h.sb,fun k hk=>⟨(h.lo k hk).1,Nat.lt_of_lt_of_le (h.lo k hk).2 hf.size⟩,h.rd.Ls hF (dw.refl _ _),gV h.ol hf (fun k hk=>hx k (h.sl k hk).1),h.mp,fun r hr=>(h.rw r hr).Ls hF (dw.refl _ _),gV h.om hf (fun k hk=>hx k (h.sm k hk).1),h.sl,h.sm,h.ap,h.lt,h.la,h.re⟩
end Go.Proofs.YtmabaojkignodaaGreatDoor.gx
namespace Go.Proofs.YtmabaojkignodaaGreatDoor.gx
open Go.ChangeShapes Go.WideShapes Go.ChangeAt Go.RowKit
set_option linter.unusedVariables false
set_option maxHeartbeats 4000000
set_option maxRecDepth 100000
open Go.Lib (hid)
def Vz (R:aC) (w:World) (e:Ending) (w':World):Prop:=
 (aW R≠0∧e=.returned (.tuple #[.pointer none,.int .i64 (aW R)])∧Below w.heap.size w w') ∨
 (aW R=0∧∃ S b vp vs ve vl vm rows,e=.returned (.tuple #[.pointer (some ⟨b,0,none⟩),.int .i64 0])∧(∀ X:Nat→Prop,(∀ k,X k→k<w.heap.size∨w'.heap.size≤k)→bP X S w.heap.size w' b R [] vp vs ve vl vm rows)∧Below w.heap.size w w')
theorem VA (R:aC) (vp vs ve:Value) (w:World) (hr:ru w R vp vs ve) (hnm:R.name.size≤maxLen) :
  Calls Tryz.prog 41 #[(.agg #[.string R.name,.int .i64 R.width,.int .i64 R.height,vp,vs,.bool R.falls,.bool R.keeps,ve,.int .i64 R.blocked,.int .i64 R.quiet,.int .i64 R.bF])] w (Vz R w):=by
 have HR:=hid hr
 have HN:=hid hnm
 clear hr hnm
 go_enter Tryz.func41,Tryz.ntmps41
 go_upto_region 1 with (fail)
 refine lM fun w0 B0 dM hs_=>?_
 have HB:=hid dM
 have hz0:w.heap.size<w0.heap.size:=by omega
 clear hs_ dM
 have xK:=hid (HR.out.below HB.out (Nat.le_refl _))
 have HX0:=hid B0
 clear B0
 refine wp_region_lit ?_
 refine aB (by rfl) 46 (.tmp 1) (by rfl) w.heap.size (by rfl) HX0.out Tryz.underlying46 (by rfl) (by kernel_rfl) ?_
 go_wp2_with fail
 refine (aap R vp vs ve w0 xK.out HN.out).mono ?_
 rintro e w1 (⟨hbad,rfl,hb1⟩ | ⟨hre,c,c0,c1,rfl,ho1,hb1⟩)
 ·have Jr:=hid hbad
  have he':(aW R != 0)=true:=by simpa using hbad
  have HB1:=hid (aj HB.out hb1 HB.out.size)
  clear hbad hb1
  unfold zB
  go_wp2_with fail
  go_ret2
  exact .inl ⟨Jr.out,rfl,HB1.out.alloc HB1.out.size _⟩
 have hp1:=ho1.rd
 obtain ⟨xa,xn,rfl,-,-⟩:=hp1.1.form
 obtain ⟨xa0,uF,rfl,-,-⟩:=hp1.2.1.form
 obtain ⟨xa1,uG,rfl,-,-⟩:=hp1.2.2.form
 have hrk:=Eb hre
 have Ui:=hid hre
 have hl1:R.pieces.length≤1000:=by have:=hrk.np; omega
 have hl2:R.start.length≤1000:=by have:=zW hre; omega
 have hl3:R.ends.length≤1000:=by have:=hrk.en; omega
 have HWL:Hid (∀ i,i<R.pieces.length→(R.pieces.getD i default).ways.length≤1000):=hid (fun i hi=>by have:=(hrk.pc i hi).2.2.1; omega)
 have hy0:=(HX0.out.stays hb1).alloc (.cells #[.slice xa (aU R).cells.length xn,.slice xa0 (aU R).h0.length uF,.slice xa1 (aU R).h1.length uG,.int .i64 (aU R).turn,.int .i64 (aU R).quiet] 78)
 have hyp:=Box.new w1 [.slice xa (aU R).cells.length xn,.slice xa0 (aU R).h0.length uF,.slice xa1 (aU R).h1.length uG,.int .i64 (aU R).turn,.int .i64 (aU R).quiet] 78
 have hyl:=(aj HB.out hb1 HB.out.size).alloc (aj HB.out hb1 HB.out.size).size (.cells #[.slice xa (aU R).cells.length xn,.slice xa0 (aU R).h0.length uF,.slice xa1 (aU R).h1.length uG,.int .i64 (aU R).turn,.int .i64 (aU R).quiet] 78)
 have hyr:OwnB w.heap.size (w1.alloc (.cells #[.slice xa (aU R).cells.length xn,.slice xa0 (aU R).h0.length uF,.slice xa1 (aU R).h1.length uG,.int .i64 (aU R).turn,.int .i64 (aU R).quiet] 78)) (aU R) (.slice xa (aU R).cells.length xn) (.slice xa0 (aU R).h0.length uF) (.slice xa1 (aU R).h1.length uG):=⟨own_base (ho1.1.alloc _) HB.out.size,own_base (ho1.2.1.alloc _) HB.out.size,own_base (ho1.2.2.alloc _) HB.out.size⟩
 have hyw:w.heap.size≤(w1.alloc (.cells #[.slice xa (aU R).cells.length xn,.slice xa0 (aU R).h0.length uF,.slice xa1 (aU R).h1.length uG,.int .i64 (aU R).turn,.int .i64 (aU R).quiet] 78)).heap.size:=hyl.size
 have HY:=hid (And.intro hy0 (And.intro hyp (And.intro hyl (And.intro hyr hyw))))
 clear hre hrk hp1 ho1 hb1 hy0 hyp hyl hyr hyw HX0 HB xK hz0
 unfold xB
 go_upto_region 4 with (fail)
 generalize (w1.alloc (.cells #[.slice xa (aU R).cells.length xn,.slice xa0 (aU R).h0.length uF,.slice xa1 (aU R).h1.length uG,.int .i64 (aU R).turn,.int .i64 (aU R).quiet] 78))=wq at *
 obtain ⟨hy0,hyp,hyl,hyr,hyw⟩:=HY.out
 have tJ:Box wq.drew w.heap.size [.string R.name,.int .i64 R.width,.int .i64 R.height,vp,vs,.bool R.falls,.bool R.keeps,ve,.int .i64 R.blocked,.int .i64 R.quiet,.int .i64 R.bF] 46:=hy0
 have Dw:Box wq.drew w1.heap.size [.slice xa (aU R).cells.length xn,.slice xa0 (aU R).h0.length uF,.slice xa1 (aU R).h1.length uG,.int .i64 (aU R).turn,.int .i64 (aU R).quiet] 78:=hyp
 have Lz:Below w.heap.size w wq.drew:=aA hyl
 have Zz:Below wq.heap.size wq wq.drew:=aA (Below.refl _ _)
 have HPq:=hid hyr
 have HWQ:=hid hyw
 clear hy0 hyp hyl hyr hyw HY
 refine wp_region_noPanic ?_
 refine bG (S:=(fun w'=>w'.cell? ⟨w.heap.size,0,none⟩=some (.string R.name)∧w'.cell? ⟨w.heap.size,1,none⟩=some (.int .i64 R.width)∧w'.cell? ⟨w.heap.size,2,none⟩=some (.int .i64 R.height)∧w'.cell? ⟨w.heap.size,3,none⟩=some vp∧w'.cell? ⟨w.heap.size,4,none⟩=some vs∧w'.cell? ⟨w.heap.size,5,none⟩=some (.bool R.falls)∧w'.cell? ⟨w.heap.size,6,none⟩=some (.bool R.keeps)∧w'.cell? ⟨w.heap.size,7,none⟩=some ve∧w'.cell? ⟨w.heap.size,8,none⟩=some (.int .i64 R.blocked)∧w'.cell? ⟨w.heap.size,9,none⟩=some (.int .i64 R.quiet)∧w'.cell? ⟨w.heap.size,10,none⟩=some (.int .i64 R.bF)∧w'.cell? ⟨w1.heap.size,0,none⟩=some (.slice xa (aU R).cells.length xn)∧w'.cell? ⟨w1.heap.size,1,none⟩=some (.slice xa0 (aU R).h0.length uF)∧w'.cell? ⟨w1.heap.size,2,none⟩=some (.slice xa1 (aU R).h1.length uG)∧w'.cell? ⟨w1.heap.size,3,none⟩=some (.int .i64 (aU R).turn)∧w'.cell? ⟨w1.heap.size,4,none⟩=some (.int .i64 (aU R).quiet))) (L:=[]) (by kernel_rfl) (by and_intros <;> first | exact tJ.cell _ rfl | exact Dw.cell _ rfl) (fun hHeld=>?_)
 refine dL 0 ?_
 refine dL 2 ?_
 refine IL (rs:=[1,3]) ?_
 refine (aO.cons (by first | (simp only [List.getElem?_toArray,List.getElem?_cons_zero,List.getElem?_cons_succ] <;> rfl) | rfl) (fun K hK=>?_) (aO.cons (by first | (simp only [List.getElem?_toArray,List.getElem?_cons_zero,List.getElem?_cons_succ] <;> rfl) | rfl) (fun K hK=>?_) aO.nil))
 ·skip
  go_simp
  refine (xP R vp vs ve wq.drew (HR.out.below Lz (Nat.le_refl _)) (by omega) (by omega) (by omega) HWL.out).mono ?_
  rintro e kJ ⟨up,us,ue,rfl,hx1,hb1⟩
  have hc1:=hb1
  have BR1:=tJ.stays hb1
  have BP1:=Dw.stays hb1
  have L1:=aj Lz hb1 Lz.size
  have Z1:=Below.trans Zz (hb1.mono Zz.size)
  have X1:=hx1
  have C1:=Below.refl kJ.heap.size kJ
  clear hb1 hx1 hc1
  refine hK.out _ _ (by and_intros <;> first | exact BR1.cell _ rfl | exact BP1.cell _ rfl) (fun hHeld=>?_)
  clear hK K
  refine dO 3 fun K hK=>?_
  go_simp
  refine aK ?_
  intro w3 e3
  have hb3:Below kJ.heap.size kJ w3:=by rw [e3]; exact (Below.refl _ _).alloc (Nat.le_refl _) _
  have N3:Box w3 kJ.heap.size [.slice xa (aU R).cells.length xn,.slice xa0 (aU R).h0.length uF,.slice xa1 (aU R).h1.length uG,.int .i64 (aU R).turn,.int .i64 (aU R).quiet] 78:=by rw [e3]; exact Box.new' _ _ _ _ rfl
  have BR3:=BR1.stays hb3
  have BP3:=BP1.stays hb3
  have L3:=aj L1 hb3 L1.size
  have Z3:=Below.trans Z1 (hb3.mono Z1.size)
  have X3:=X1
  have D3:=hb3
  clear hb3 e3
  refine hK.out _ _ (by and_intros <;> first | exact BR3.cell _ rfl | exact BP3.cell _ rfl) (fun hHeld=>?_)
  clear hK K
  refine aF 4 ?_
  refine dO 5 fun K hK=>?_
  go_simp
  refine aK ?_
  intro w5 e5
  have hb5:Below w3.heap.size w3 w5:=by rw [e5]; exact (Below.refl _ _).alloc (Nat.le_refl _) _
  have G5:Box w5 w3.heap.size [.string R.name,.int .i64 R.width,.int .i64 R.height,up,us,.bool R.falls,.bool R.keeps,ue,.int .i64 R.blocked,.int .i64 R.quiet,.int .i64 R.bF,.slice (some ⟨kJ.heap.size,0,none⟩) 1 1,.slice none 0 0] 190:=by rw [e5]; exact Box.new' _ _ _ _ rfl
  have uZ:=BR3.stays hb5
  have FM:=BP3.stays hb5
  have L5:=aj L3 hb5 L3.size
  have Z5:=Below.trans Z3 (hb5.mono Z3.size)
  have N5:=N3.stays hb5
  have D5:=hb5
  clear hb5 e5
  refine hK.out _ _ (by and_intros <;> first | exact uZ.cell _ rfl | exact FM.cell _ rfl) (fun hHeld=>?_)
  clear hK K
  refine aF 6 ?_
  refine aF 7 ?_
  refine iE ?_
  have hS:∀ k,(fun k=>k=kJ.heap.size∨k=w3.heap.size) k→wq.heap.size≤k∧k<w5.heap.size:=fun k hk=>by
   rcases hk with rfl | rfl
   ·exact ⟨Z1.size,N5.lt⟩
   ·exact ⟨Z3.size,G5.lt⟩
  have hR:∀ X:Nat→Prop,(∀ k,X k→k<w.heap.size∨w5.heap.size≤k)→Held X (fun k=>k=kJ.heap.size∨k=w3.heap.size) w5 fun w'=>ru w' R up us ue:=fun X hX=>DF X1 (Below.trans D3 (D5.mono D3.size)) (fun k hk=>by rcases hk with (rfl | rfl) | hk; exact .inr (Nat.le_refl _); exact .inr D3.size; exact (hX k hk).imp (fun h=>Nat.lt_of_lt_of_le h HWQ.out) (Nat.le_trans (Nat.le_trans D3.size D5.size)))
  have hP:∀ X:Nat→Prop,(∀ k,X k→k<w.heap.size∨w5.heap.size≤k)→Held X (fun k=>k=kJ.heap.size∨k=w3.heap.size) w5 fun w'=>pX w' (aU R) (.slice xa (aU R).cells.length xn) (.slice xa0 (aU R).h0.length uF) (.slice xa1 (aU R).h1.length uG):=fun X hX=>fun w' hw=>by
   have hz:=Z5.size
   have hn:∀ {v:Value} {n:Nat} {xs:List Value},wq.ownsRow w.heap.size 3 1 v n xs→∀ k,v.ownBlock=some k→¬ ((fun k=>k=kJ.heap.size∨k=w3.heap.size) k∨X k):=fun ho k hk h=>by
    have hl:=ho.lt k hk
    rcases h with h | h
    ·have:=(hS k h).1; omega
    ·have:=hX k h; omega
   exact ⟨kM.fD (gV (bK HPq.out.1 Z5) hw (hn HPq.out.1)),kM.fD (gV (bK HPq.out.2.1 Z5) hw (hn HPq.out.2.1)),kM.fD (gV (bK HPq.out.2.2 Z5) hw (hn HPq.out.2.2))⟩
  have hol:w5.ownsRow wq.heap.size 78 5 (.slice (some ⟨kJ.heap.size,0,none⟩) 1 1) 1 (iD [⟨aU R,.slice xa (aU R).cells.length xn,.slice xa0 (aU R).h0.length uF,.slice xa1 (aU R).h1.length uG⟩]):=He N5 Z1.size
  have hGm:∀ X:Nat→Prop,(∀ k,X k→k<w.heap.size∨w5.heap.size≤k)→bP X (fun k=>k=kJ.heap.size∨k=w3.heap.size) w.heap.size w5 w3.heap.size R [] up us ue (.slice (some ⟨kJ.heap.size,0,none⟩) 1 1) (.slice none 0 0) [⟨aU R,.slice xa (aU R).cells.length xn,.slice xa0 (aU R).h0.length uF,.slice xa1 (aU R).h1.length uG⟩]:=fun X hX=>⟨G5,.inr rfl,fun k hk=>⟨Nat.le_trans HWQ.out (hS k hk).1,(hS k hk).2⟩,hR X hX,own_base hol HWQ.out,rfl,fun r hr=>by rw [List.mem_singleton.1 hr]; exact hP X hX,World.ownsRow_nil _ _ _ _,fun k hk=>⟨.inl (by simpa [Value.ownBlock] using hk.symm),(fun e=>by subst e; have h1:kJ.heap.size<_:=N3.lt; simp [Value.ownBlock] at hk; omega)⟩,(fun k hk=>by cases hk),.inr (by simp [Value.ownBlock]),by simp,iC.nil _ _,Ui.out⟩
  have NR:=hid hGm
  have QT:=hid L5
  clear hGm hol hP hR hS hHeld
  go_wp2_with fail
  go_ret2
  exact .inr ⟨Ui.out,_,_,_,_,_,_,_,_,rfl,NR.out,QT.out⟩
 ·skip
  go_simp
  refine aK ?_
  intro w3 e3
  have hb3:Below wq.drew.heap.size wq.drew w3:=by rw [e3]; exact (Below.refl _ _).alloc (Nat.le_refl _) _
  have N3:Box w3 wq.drew.heap.size [.slice xa (aU R).cells.length xn,.slice xa0 (aU R).h0.length uF,.slice xa1 (aU R).h1.length uG,.int .i64 (aU R).turn,.int .i64 (aU R).quiet] 78:=by rw [e3]; exact Box.new' _ _ _ _ rfl
  have BR3:=tJ.stays hb3
  have BP3:=Dw.stays hb3
  have L3:=aj Lz hb3 Lz.size
  have Z3:=Below.trans Zz (hb3.mono Zz.size)
  clear hb3 e3
  refine hK.out _ _ (by and_intros <;> first | exact BR3.cell _ rfl | exact BP3.cell _ rfl) (fun hHeld=>?_)
  clear hK K
  refine dO 1 fun K hK=>?_
  go_simp
  refine (xP R vp vs ve w3 (HR.out.below L3 (Nat.le_refl _)) (by omega) (by omega) (by omega) HWL.out).mono ?_
  rintro e kJ ⟨up,us,ue,rfl,hx1,hb1⟩
  have hc1:=hb1
  have BR1:=BR3.stays hb1
  have BP1:=BP3.stays hb1
  have L1:=aj L3 hb1 L3.size
  have Z1:=Below.trans Z3 (hb1.mono Z3.size)
  have X1:=hx1
  have C1:=hc1
  have N1:=N3.stays hb1
  clear hb1 hx1 hc1
  refine hK.out _ _ (by and_intros <;> first | exact BR1.cell _ rfl | exact BP1.cell _ rfl) (fun hHeld=>?_)
  clear hK K
  refine aF 4 ?_
  refine dO 5 fun K hK=>?_
  go_simp
  refine aK ?_
  intro w5 e5
  have hb5:Below kJ.heap.size kJ w5:=by rw [e5]; exact (Below.refl _ _).alloc (Nat.le_refl _) _
  have G5:Box w5 kJ.heap.size [.string R.name,.int .i64 R.width,.int .i64 R.height,up,us,.bool R.falls,.bool R.keeps,ue,.int .i64 R.blocked,.int .i64 R.quiet,.int .i64 R.bF,.slice (some ⟨wq.drew.heap.size,0,none⟩) 1 1,.slice none 0 0] 190:=by rw [e5]; exact Box.new' _ _ _ _ rfl
  have uZ:=BR1.stays hb5
  have FM:=BP1.stays hb5
  have L5:=aj L1 hb5 L1.size
  have Z5:=Below.trans Z1 (hb5.mono Z1.size)
  have N5:=N1.stays hb5
  have D5:=hb5
  clear hb5 e5
  refine hK.out _ _ (by and_intros <;> first | exact uZ.cell _ rfl | exact FM.cell _ rfl) (fun hHeld=>?_)
  clear hK K
  refine aF 6 ?_
  refine aF 7 ?_
  refine iE ?_
  have hS:∀ k,(fun k=>k=wq.drew.heap.size∨k=kJ.heap.size) k→wq.heap.size≤k∧k<w5.heap.size:=fun k hk=>by
   rcases hk with rfl | rfl
   ·exact ⟨Nat.le_refl _,N5.lt⟩
   ·exact ⟨Z1.size,G5.lt⟩
  have hR:∀ X:Nat→Prop,(∀ k,X k→k<w.heap.size∨w5.heap.size≤k)→Held X (fun k=>k=wq.drew.heap.size∨k=kJ.heap.size) w5 fun w'=>ru w' R up us ue:=fun X hX=>DF X1 D5 (fun k hk=>by rcases hk with (rfl | rfl) | hk; exact .inl N3.lt; exact .inr (Nat.le_refl _); exact (hX k hk).imp (fun h=>Nat.lt_trans (Nat.lt_of_lt_of_le h HWQ.out) N3.lt) (Nat.le_trans D5.size))
  have hP:∀ X:Nat→Prop,(∀ k,X k→k<w.heap.size∨w5.heap.size≤k)→Held X (fun k=>k=wq.drew.heap.size∨k=kJ.heap.size) w5 fun w'=>pX w' (aU R) (.slice xa (aU R).cells.length xn) (.slice xa0 (aU R).h0.length uF) (.slice xa1 (aU R).h1.length uG):=fun X hX=>fun w' hw=>by
   have hz:=Z5.size
   have hn:∀ {v:Value} {n:Nat} {xs:List Value},wq.ownsRow w.heap.size 3 1 v n xs→∀ k,v.ownBlock=some k→¬ ((fun k=>k=wq.drew.heap.size∨k=kJ.heap.size) k∨X k):=fun ho k hk h=>by
    have hl:=ho.lt k hk
    rcases h with h | h
    ·have:=(hS k h).1; omega
    ·have:=hX k h; omega
   exact ⟨kM.fD (gV (bK HPq.out.1 Z5) hw (hn HPq.out.1)),kM.fD (gV (bK HPq.out.2.1 Z5) hw (hn HPq.out.2.1)),kM.fD (gV (bK HPq.out.2.2 Z5) hw (hn HPq.out.2.2))⟩
  have hol:w5.ownsRow wq.heap.size 78 5 (.slice (some ⟨wq.drew.heap.size,0,none⟩) 1 1) 1 (iD [⟨aU R,.slice xa (aU R).cells.length xn,.slice xa0 (aU R).h0.length uF,.slice xa1 (aU R).h1.length uG⟩]):=He N5 (Nat.le_refl _)
  have hGm:∀ X:Nat→Prop,(∀ k,X k→k<w.heap.size∨w5.heap.size≤k)→bP X (fun k=>k=wq.drew.heap.size∨k=kJ.heap.size) w.heap.size w5 kJ.heap.size R [] up us ue (.slice (some ⟨wq.drew.heap.size,0,none⟩) 1 1) (.slice none 0 0) [⟨aU R,.slice xa (aU R).cells.length xn,.slice xa0 (aU R).h0.length uF,.slice xa1 (aU R).h1.length uG⟩]:=fun X hX=>⟨G5,.inr rfl,fun k hk=>⟨Nat.le_trans HWQ.out (hS k hk).1,(hS k hk).2⟩,hR X hX,own_base hol HWQ.out,rfl,fun r hr=>by rw [List.mem_singleton.1 hr]; exact hP X hX,World.ownsRow_nil _ _ _ _,fun k hk=>⟨.inl (by simpa [Value.ownBlock] using hk.symm),(fun e=>by subst e; have h1:wq.heap.size<_:=N1.lt; simp [Value.ownBlock] at hk; omega)⟩,(fun k hk=>by cases hk),.inr (by simp [Value.ownBlock]),by simp,iC.nil _ _,Ui.out⟩
  have NR:=hid hGm
  have QT:=hid L5
  clear hGm hol hP hR hS hHeld
  go_wp2_with fail
  go_ret2
  exact .inr ⟨Ui.out,_,_,_,_,_,_,_,_,rfl,NR.out,QT.out⟩
def QU (X S:Nat→Prop) (base b:Nat) (R:aC) (ms:List aN) (vp vs ve:Value) (w:World) (e:Ending) (w':World):Prop:=
 (ms.length=0∧e=.returned (.int .i64 8)∧Below w.heap.size w w') ∨
 ∃ n,ms.length=n+1∧e=.returned (.int .i64 0)∧∃ VB VD rows',bP X S base w' b R (ms.take n) vp vs ve VB VD rows'∧Fr S w w'
theorem QV {X S:Nat→Prop} {base b:Nat} {R:aC} {ms:List aN} {vp vs ve vl vm:Value} {rows:List lD} (w:World) (h:bP X S base w b R ms vp vs ve vl vm rows) (hb:base≤w.heap.size):Calls Tryz.prog 142 #[.pointer (some ⟨b,0,none⟩)] w (QU X S base b R ms vp vs ve w):=by
 have hlt:=h.box.lt
 have hms:=h.lt
 by_cases hz:ms.length=0
 ·have hc:=h.box.cell 12 rfl
  obtain ⟨x,y,rfl⟩:=aI h.om
  have HZ:=hid hz
  have hzI:((ms.length:Int) == 0)=true:=by simp [hz]
  clear h hz
  go_enter Tryz.func142,Tryz.ntmps142
  go_wp2_with fail
  go_ret
  exact .inl ⟨HZ.out,rfl,Below.refl _ _⟩
 obtain ⟨n,hn⟩:∃ n,ms.length=n+1:=⟨ms.length - 1,by omega⟩
 have ho:=h.ol
 have hm:=h.om
 rw [hn] at ho hm
 obtain ⟨g,c,hv⟩:=iq ho (by omega)
 obtain ⟨h',d,hv'⟩:=iq hm (by omega)
 subst hv hv'
 have hcap:=vU ho
 have hcap2:=vU hm
 have HG:=hid h
 have HL:=hid hn
 have LT:Hid ((ms.take n).length=n):=hid (by rw [List.length_take]; omega)
 have hbx:=h.box
 have hc12:=h.box.cell 12 rfl
 have hnb:n≤400:=by omega
 have hw1:IntKind.i64.wrap ((n:Int)+1)=(n:Int)+1:=IntWalk.i64_in _ (by omega)
 have hw2:IntKind.i64.wrap (n:Int)=(n:Int):=IntWalk.i64_in _ (by omega)
 have hw3:((n:Int)+1 == 0)=false:=by simp; omega
 have hsa:∀ w':World,(Instr.slice 188 (.slice (some ⟨g,0,none⟩) (n+1+1) c) none (some (.int .i64 ((n:Int)+1))) none).run Tryz.prog w'=.ok (.slice (some ⟨g,0,none⟩) (n+1) c) w':=fun w'=>by
  have q:=je (P:=Tryz.prog) (t:=188) (s:=5) Tryz.underlying188 (fun w=>by kernel_rfl) (some ⟨g,0,none⟩) (n+1+1) c (n+1) (by omega) w'
  rw [Int.natCast_succ] at q
  exact q
 have hsb:∀ w':World,(Instr.slice 64 (.slice (some ⟨h',0,none⟩) (n+1) d) none (some (.int .i64 (n:Int))) none).run Tryz.prog w'=.ok (.slice (some ⟨h',0,none⟩) n d) w':=fun w' =>
  je (P:=Tryz.prog) (t:=64) (s:=3) Tryz.underlying64 (fun w=>by kernel_rfl) (some ⟨h',0,none⟩) (n+1) d n (by omega) w'
 have dP:=hid hbx
 have HOz:=hid ho
 have HMz:=hid hm
 clear h hz hn hbx ho hm hms hcap hcap2
 go_enter Tryz.func142,Tryz.ntmps142
 go_upto_region 3 with (fail)
 generalize w=wq at *
 have By:=dP.out
 have Bz:=dP.out.drew
 have Oz:wq.drew.ownsRow base 78 5 (.slice (some ⟨g,0,none⟩) (n+1+1) c) (n+1+1) (iD rows):=HOz.out
 have Mz:wq.drew.ownsRow base 52 3 (.slice (some ⟨h',0,none⟩) (n+1) d) (n+1) (bJ ms):=HMz.out
 clear dP HOz HMz hc12
 refine wp_region_noPanic ?_
 refine bG (S:=(fun w'=>w'.cell? ⟨b,11,none⟩=some (.slice (some ⟨g,0,none⟩) (n+1+1) c)∧w'.cell? ⟨b,12,none⟩=some (.slice (some ⟨h',0,none⟩) (n+1) d))) (L:=[26,29]) (by kernel_rfl) ⟨Bz.cell 11 rfl,Bz.cell 12 rfl⟩ (fun hHeld=>?_)
 refine aF 0 ?_
 refine aF 1 ?_
 refine aF 2 ?_
 refine aF 6 ?_
 refine aF 13 ?_
 refine aF 17 ?_
 refine aF 3 ?_
 refine aF 7 ?_
 refine aF 14 ?_
 refine aF 18 ?_
 refine aF 4 ?_
 refine aF 8 ?_
 refine aF 15 ?_
 refine aF 19 ?_
 refine dL 5 ?_
 refine dL 9 ?_
 refine dL 16 ?_
 refine dL 20 ?_
 refine aF 10 ?_
 refine aF 21 ?_
 refine aF 11 ?_
 refine aF 22 ?_
 refine aF 12 ?_
 refine aF 23 ?_
 refine aF 24 ?_
 refine aF 25 ?_
 refine xE 26 fun K hK=>?_
 have dd:=By.cell 11 rfl
 have df:=By.frozen 11
 go_simp
 refine aK ?_
 intro w7 e7
 have E7:Hid (w7=wq.drew.setCell ⟨b,11,none⟩ (.slice (some ⟨g,0,none⟩) (n+1) c)):=hid e7
 have B7:Box w7 b [.string R.name,.int .i64 R.width,.int .i64 R.height,vp,vs,.bool R.falls,.bool R.keeps,ve,.int .i64 R.blocked,.int .i64 R.quiet,.int .i64 R.bF,.slice (some ⟨g,0,none⟩) (n+1) c,.slice (some ⟨h',0,none⟩) (n+1) d] 190:=by rw [E7.out]; exact Bz.set 11 _
 clear e7 dd df
 refine hK.out _ _ ?_
 clear hK K
 refine aF 27 ?_
 refine aF 28 ?_
 refine xE 29 fun K hK=>?_
 have dd:=B7.cell 12 rfl
 have df:=B7.frozen 12
 go_simp
 refine aK ?_
 intro w9 e9
 have B9:Box w9 b [.string R.name,.int .i64 R.width,.int .i64 R.height,vp,vs,.bool R.falls,.bool R.keeps,ve,.int .i64 R.blocked,.int .i64 R.quiet,.int .i64 R.bF,.slice (some ⟨g,0,none⟩) (n+1) c,.slice (some ⟨h',0,none⟩) n d] 190:=by rw [e9]; exact B7.set 12 _
 have F9:Fr S wq.drew w9:=by rw [e9,E7.out]; exact ((Fr.refl S _).setCell HG.out.sb _).setCell HG.out.sb _
 have O9:w9.ownsRow base 78 5 (.slice (some ⟨g,0,none⟩) (n+1) c) (n+1) ((iD rows).take ((n+1) * 5)):=by rw [e9,E7.out]; exact jZ (p:=⟨b,12,none⟩) (jZ (p:=⟨b,11,none⟩) (vT Oz (n+1) (by omega)) (fun e=>(HG.out.sl b e).2 rfl) _) (fun e=>(HG.out.sl b e).2 rfl) _
 have M9:w9.ownsRow base 52 3 (.slice (some ⟨h',0,none⟩) n d) n ((bJ ms).take (n * 3)):=by rw [e9,E7.out]; exact jZ (p:=⟨b,12,none⟩) (jZ (p:=⟨b,11,none⟩) (vT Mz n (by omega)) (fun e=>(HG.out.sm b e).2 rfl) _) (fun e=>(HG.out.sm b e).2 rfl) _
 have Z9:wq.drew.heap.size=w9.heap.size:=by rw [e9,E7.out]; simp [World.setCell]
 clear e9 E7 dd df
 refine hK.out _ _ ?_
 clear hK K
 refine iE ?_
 rw [Jv] at O9
 rw [Ac] at M9
 have hGn:bP X S base w9 b R (ms.take n) vp vs ve (.slice (some ⟨g,0,none⟩) (n+1) c) (.slice (some ⟨h',0,none⟩) n d) (rows.take (n+1)):=⟨B9,HG.out.sb,fun k hk=>⟨(HG.out.lo k hk).1,by rw [← Z9]; exact (HG.out.lo k hk).2⟩,(HG.out.rd.step (Fr.drew (Fr.refl S wq)) (dw.refl _ _)).step F9 (dw.refl _ _),by rw [LT.out]; exact O9,by rw [List.map_take,HG.out.mp]; exact Nk R ms n (by have:=HL.out; omega),fun r hr=>((HG.out.rw r (List.mem_of_mem_take hr)).step (Fr.drew (Fr.refl S wq)) (dw.refl _ _)).step F9 (dw.refl _ _),by rw [LT.out]; exact M9,HG.out.sl,HG.out.sm,HG.out.ap,by rw [LT.out]; have:=HG.out.lt; have:=HL.out; omega,HG.out.la.take n,HG.out.re⟩
 have HGn:=hid hGn
 have IZ:=hid ((Fr.drew (Fr.refl S wq)).trans F9 (dw.refl _ _))
 clear hGn B9 F9 O9 M9 Z9 B7 Bz By Oz Mz hHeld
 go_wp2_with fail
 go_ret
 exact .inr ⟨n,HL.out,rfl,_,_,_,HGn.out,IZ.out⟩
end Go.Proofs.YtmabaojkignodaaGreatDoor.gx

/- Mq1: MtP, IntsW, MtA, MtB, in one text. -/
import Derived.Test.YteablcielclaeaaGreatDoorC20
namespace Go.Proofs.YteablcielclaeaaGreatDoor
set_option linter.unusedVariables false
set_option maxHeartbeats 8000000
set_option maxRecDepth 100000
def Ed (R:au) (n:Int):ByteArray:=Utf8.encode (97+n % R.width)
def rowT (R:au) (n:Int):ByteArray:=Utf8.encode (49+n / R.width)
def JU (R:au) (n:Int):ByteArray:=Ed R n++rowT R n
def uy (R:au) (k:Int):ByteArray:=Utf8.encode (R.pieces.getD k.toNat default).letter
def Jg (p:aV) (m x:aA):Bool:=decide (0≤x.src) && !(x.src == m.src) && (x.dst == m.dst) && (p.cells.getD x.src.toNat 0 == p.cells.getD m.src.toNat 0)
def dh (p:aV) (l:List aA) (m:aA):List Int:=(l.filter (Jg p m)).map (·.src)
def markT (R:au) (p:aV) (l:List aA) (m:aA):ByteArray:=
 if (dh p l m).length=0 then ByteArray.empty
 else if (dh p l m).any (fun n=>n % R.width == m.src % R.width)=false then Ed R m.src
 else if (dh p l m).any (fun n=>n / R.width == m.src / R.width)=false then rowT R m.src
 else JU R m.src
def fH (p:aV) (m:aA):Int:=(p.cells.getD m.src.toNat 0 - 1) / 2
def Jh (p:aV) (m:aA):ByteArray:=if p.cells.getD m.dst.toNat 0≠0 then ⟨#[120]⟩ else ByteArray.empty
def PN (R:au) (p:aV) (m:aA):ByteArray:=if m.piece≠fH p m then ⟨#[61]⟩++uy R m.piece else ByteArray.empty
def lu (R:au) (p:aV) (l:List aA) (m:aA):ByteArray:=
 if m.src<0 then (uy R m.piece++⟨#[64]⟩)++JU R m.dst
 else (((uy R (fH p m)++markT R p l m)++Jh p m)++JU R m.dst)++PN R p m
def uz (b:ByteArray):List Nat:=b.data.toList.map UInt8.toNat
theorem rM (a b:ByteArray):uz (a++b)=uz a++uz b:=by
 unfold uz
 rw [ByteArray.data_append,Array.toList_append,List.map_append]
theorem mD (b:ByteArray):(uz b).length=b.size:=by
 unfold uz
 rw [List.length_map,Array.length_toList]; rfl
theorem Ji {n:Int} (h0:0≤n) (h1:n<128):uz (Utf8.encode n)=[n.toNat]:=by
 obtain ⟨k,rfl⟩:∃ k:Nat,n=k:=⟨n.toNat,by omega⟩
 have hk:k<128:=by omega
 have:∀ k:Fin 128,uz (Utf8.encode (k.val:Int))=[k.val]:=by decide +kernel
 simpa using this ⟨k,hk⟩
structure sF (R:au):Prop where
 rg:∀ i,i<R.pieces.length→65≤(R.pieces.getD i default).letter∧(R.pieces.getD i default).letter≤90
 ne:∀ i j,i<j→j<R.pieces.length→(R.pieces.getD i default).letter≠(R.pieces.getD j default).letter
theorem Jj {R:au} (h:aF R=0):sF R:=by
 have hp:dn R.pieces=0:=by
  unfold aF at h
  split at h
  ·omega
  ·split at h
   ·omega
   ·split at h
    ·rename_i q; exact absurd h q
    ·rename_i q; omega
 unfold dn at hp
 split at hp
 ·omega
 ·split at hp
  ·omega
  ·rw [nT] at hp
   have hq:∀ i,i<R.pieces.length→dZ R.pieces i=0:=fun i hi=>hp i (by omega) (by omega)
   refine ⟨fun i hi=>?_,fun i j hij hj=>?_⟩
   ·have:=hq i hi
    unfold dZ at this
    split at this
    ·omega
    ·omega
   ·have:=hq j hj
    unfold dZ at this
    split at this
    ·omega
    ·split at this
     ·omega
     ·rename_i q
      intro e
      apply q
      rw [List.any_eq_true]
      refine ⟨R.pieces.getD i default,?_,by rw [e]; simp⟩
      rw [List.getD_eq_getElem?_getD,List.getElem?_eq_getElem (by omega)]
      exact List.mem_take_iff_getElem.2 ⟨i,by omega,rfl⟩
theorem Jk {R:au} (L:sF R) {i j:Nat} (hi:i<R.pieces.length) (hj:j<R.pieces.length) (h:(R.pieces.getD i default).letter=(R.pieces.getD j default).letter):i=j:=by
 rcases Nat.lt_trichotomy i j with q | q | q
 ·exact absurd h (L.ne i j q hj)
 ·exact q
 ·exact absurd h.symm (L.ne j i q hi)
theorem uD {R:au} (L:sF R) {k:Int} (h0:0≤k) (h1:k<R.pieces.length):uz (uy R k)=[(R.pieces.getD k.toNat default).letter.toNat]:=by
 have:=L.rg k.toNat (by omega)
 exact Ji (by omega) (by omega)
theorem pJ {R:au} (K:Ou R) {n:Int} (h0:0≤n) (h1:n<R.width * R.height):0≤n % R.width∧n % R.width<8∧0≤n / R.width∧n / R.width<8:=by
 have hw:=K.w
 have hh:=K.h
 have a1:=Int.emod_nonneg n (show R.width≠0 by omega)
 have a2:=Int.emod_lt_of_pos n (show 0<R.width by omega)
 have a3:=Int.ediv_nonneg h0 (show 0≤R.width by omega)
 have a4:n / R.width<R.height:=Int.ediv_lt_of_lt_mul (by omega) (by rw [Int.mul_comm]; exact h1)
 omega
theorem Ee {R:au} (K:Ou R) {n:Int} (h0:0≤n) (h1:n<R.width * R.height):uz (Ed R n)=[97+(n % R.width).toNat]:=by
 have:=pJ K h0 h1
 unfold Ed
 rw [Ji (by omega) (by omega)]
 congr 1; omega
theorem Ef {R:au} (K:Ou R) {n:Int} (h0:0≤n) (h1:n<R.width * R.height):uz (rowT R n)=[49+(n / R.width).toNat]:=by
 have:=pJ K h0 h1
 unfold rowT
 rw [Ji (by omega) (by omega)]
 congr 1; omega
theorem BI {R:au} (K:Ou R) {n:Int} (h0:0≤n) (h1:n<R.width * R.height):uz (JU R n)=[97+(n % R.width).toNat,49+(n / R.width).toNat]:=by
 unfold JU
 rw [rM,Ee K h0 h1,Ef K h0 h1]; rfl
theorem oI {R:au} (K:Ou R) (p:aV) (l:List aA) (m:aA) (h0:0≤m.src) (h1:m.src<R.width * R.height) :
  ((dh p l m)=[]∧uz (markT R p l m)=[]) ∨
  ((∀ n∈dh p l m,n % R.width≠m.src % R.width)∧uz (markT R p l m)=[97+(m.src % R.width).toNat]) ∨
  ((∀ n∈dh p l m,n / R.width≠m.src / R.width)∧uz (markT R p l m)=[49+(m.src / R.width).toNat]) ∨
  uz (markT R p l m)=[97+(m.src % R.width).toNat,49+(m.src / R.width).toNat]:=by
 unfold markT
 by_cases e0:(dh p l m).length=0
 ·left; rw [if_pos e0]; exact ⟨List.length_eq_zero_iff.1 e0,rfl⟩
 rw [if_neg e0]
 by_cases e1:(dh p l m).any (fun n=>n % R.width == m.src % R.width)=false
 ·right; left
  rw [if_pos e1,Ee K h0 h1]
  refine ⟨fun n hn e=>?_,rfl⟩
  rw [List.any_eq_false] at e1
  exact e1 n hn (by simp [e])
 rw [if_neg e1]
 by_cases e2:(dh p l m).any (fun n=>n / R.width == m.src / R.width)=false
 ·right; right; left
  rw [if_pos e2,Ef K h0 h1]
  refine ⟨fun n hn e=>?_,rfl⟩
  rw [List.any_eq_false] at e2
  exact e2 n hn (by simp [e])
 rw [if_neg e2,BI K h0 h1]
 exact .inr (.inr (.inr rfl))
theorem nS {R:au} {p:aV} {m:aA} (h:m∈aW R p):m.src = -1∨(0≤m.src∧m.src.toNat<p.cells.length∧p.cells.getD m.src.toNat 0≠0∧(p.cells.getD m.src.toNat 0 - 1) % 2=p.turn):=by
 rw [tZ] at h
 unfold pU at h
 rcases List.mem_append.1 h with h | h
 ·obtain ⟨s,k,_,-,-,-,rfl⟩:=CW h
  exact .inl rfl
 ·obtain ⟨s,hs,hn,ht,x,-,t,-,rfl⟩:=zC h
  have e:(kP R p s ((p.cells.getD s 0 - 1) / 2) t).src=s:=rfl
  rw [e]
  exact .inr ⟨by omega,by simpa using hs,by simpa using fun e=>hn e.symm,by simpa using ht⟩
theorem uF {R:au} (L:sF R) {p:aV} (K:oK R p) {m:aA} (hm:m∈aW R p) (hs:0≤m.src) (l:List aA) :
  uz (lu R p l m)=(R.pieces.getD (fH p m).toNat default).letter.toNat :: (uz (markT R p l m)++(if p.cells.getD m.dst.toNat 0≠0 then [120] else [])++[97+(m.dst % R.width).toNat,49+(m.dst / R.width).toNat] ++
   (if m.piece≠fH p m then [61,(R.pieces.getD m.piece.toNat default).letter.toNat] else [])):=by
 have F:=jZ K hm
 obtain ⟨hd1,hd2⟩:=F.d
 have hcl:=K.cl
 have hc:=K.cell m.src.toNat
 have hk:0≤fH p m∧fH p m<R.pieces.length:=by
  rcases nS hm with e | ⟨-,-,e,-⟩
  ·omega
  ·unfold fH; omega
 unfold lu
 rw [if_neg (by omega)]
 simp only [rM]
 rw [uD L hk.1 hk.2,BI K.r hd1 (by omega)]
 have e1:uz (Jh p m)=if p.cells.getD m.dst.toNat 0≠0 then [120] else []:=by unfold Jh; split <;> rfl
 have e2:uz (PN R p m)=if m.piece≠fH p m then [61,(R.pieces.getD m.piece.toNat default).letter.toNat] else []:=by
  unfold PN
  split
  ·rw [rM,uD L F.k.1 F.k.2]; rfl
  ·rfl
 rw [e1,e2]
 simp
theorem Eh {R:au} (L:sF R) {p:aV} (K:oK R p) {m:aA} (hm:m∈aW R p) (hs:m.src = -1) (l:List aA) :
  uz (lu R p l m)=[(R.pieces.getD m.piece.toNat default).letter.toNat,64,97+(m.dst % R.width).toNat,49+(m.dst / R.width).toNat]:=by
 have F:=jZ K hm
 obtain ⟨hd1,hd2⟩:=F.d
 have hcl:=K.cl
 unfold lu
 rw [if_pos (by omega)]
 simp only [rM]
 rw [uD L F.k.1 F.k.2,BI K.r hd1 (by omega)]
 rfl
theorem Jl {R:au} (K:Ou R) {a b:Int} (ha0:0≤a) (ha:a<R.width * R.height) (hb0:0≤b) (hb:b<R.width * R.height) (h1:97+(a % R.width).toNat=97+(b % R.width).toNat) (h2:49+(a / R.width).toNat=49+(b / R.width).toNat):a=b:=by
 have p1:=pJ K ha0 ha
 have p2:=pJ K hb0 hb
 have e1:=Int.mul_ediv_add_emod a R.width
 have e2:=Int.mul_ediv_add_emod b R.width
 have q1:a / R.width=b / R.width:=by omega
 have q2:a % R.width=b % R.width:=by omega
 rw [q1,q2] at e1
 omega
theorem Ut {A A':Nat} {M M' X X':List Nat} {c r c' r':Nat} {P P':List Nat} (hr:49≤r∧r<57) (hr':49≤r'∧r'<57) (hP:P=[]∨∃ z,65≤z∧P=[61,z]) (hP':P'=[]∨∃ z,65≤z∧P'=[61,z])
  (h:A :: (M++X++[c,r]++P)=A' :: (M'++X'++[c',r']++P')):A=A'∧c=c'∧r=r'∧P=P'∧M++X=M'++X':=by
 obtain ⟨h0,h⟩:=List.cons.inj h
 have h2:=congrArg List.reverse h
 simp only [List.reverse_append,List.reverse_cons,List.reverse_nil,List.nil_append,List.cons_append] at h2
 refine ⟨h0,?_⟩
 have key:∀ {U V:List Nat},r :: c :: U=r' :: c' :: V→r=r'∧c=c'∧U=V:=fun e=>by
  simp only [List.cons.injEq] at e
  exact ⟨e.1,e.2.1,e.2.2⟩
 have fin:∀ {U V:List Nat},U.reverse=V.reverse→U=V:=fun e=>by simpa using congrArg List.reverse e
 rcases hP with rfl | ⟨z,hz,rfl⟩ <;> rcases hP' with rfl | ⟨z',hz',rfl⟩
 ·obtain ⟨a,b,e⟩:=key (by simpa using h2)
  refine ⟨b,a,rfl,fin ?_⟩
  simpa using e
 ·simp at h2
  omega
 ·simp at h2
  omega
 ·simp only [List.reverse_cons,List.reverse_nil,List.nil_append,List.cons_append,List.cons.injEq] at h2
  obtain ⟨e1,-,e⟩:=h2
  obtain ⟨a,b,e⟩:=key (by simpa using e)
  refine ⟨b,a,by rw [e1],fin ?_⟩
  simpa using e
theorem Rf {p:aV} {l:List aA} {m x:aA} (hx:x∈l) (h0:0≤x.src) (hne:x.src≠m.src) (hd:x.dst=m.dst) (hc:p.cells.getD x.src.toNat 0=p.cells.getD m.src.toNat 0):x.src∈dh p l m:=by
 unfold dh
 refine List.mem_map.2 ⟨x,List.mem_filter.2 ⟨hx,?_⟩,rfl⟩
 unfold Jg
 simp only [h0,decide_true,hd,hc,beq_self_eq_true,Bool.and_true,Bool.true_and]
 simp [hne]
theorem Yj {R:au} (L:sF R) {p:aV} (K:oK R p) {m m':aA} (hm:m∈aW R p) (hm':m'∈aW R p) (h:lu R p (aW R p) m=lu R p (aW R p) m'):m=m':=by
 have F:=jZ K hm
 have F':=jZ K hm'
 obtain ⟨hd1,hd2⟩:=F.d
 obtain ⟨aeo,arB⟩:=F'.d
 have hcl:=K.cl
 have hb:=congrArg uz h
 have hp:=L.rg m.piece.toNat (by have:=F.k; omega)
 have hp':=L.rg m'.piece.toNat (by have:=F'.k; omega)
 have gd:=pJ K.r hd1 (by omega)
 have gd':=pJ K.r aeo (by omega)
 have second:∀ {x:aA},x∈aW R p→0≤x.src→∀ {y:aA},y∈aW R p→y.src = -1→uz (lu R p (aW R p) x)≠uz (lu R p (aW R p) y):=by
  intro x hx hxs y hy hys e
  rw [uF L K hx hxs,Eh L K hy hys] at e
  have Fx:=jZ K hx
  have hxd:=Fx.d
  have hxl:=Fx.s
  simp only [List.cons.injEq] at e
  have e:=e.2
  have g:=pJ K.r hxs (by omega)
  have gx:=pJ K.r hxd.1 (by omega)
  rcases oI K.r p (aW R p) x hxs (by omega) with ⟨-,q⟩ | ⟨-,q⟩ | ⟨-,q⟩ | q <;> rw [q] at e
  ·split at e
   ·simp at e
   ·simp at e; omega
  ·simp at e; omega
  ·simp at e; omega
  ·simp at e; omega
 obtain ⟨s,d,k⟩:=m
 obtain ⟨s',d',k'⟩:=m'
 rcases nS hm with hs | ⟨hs,hsl,hsc,hst⟩ <;> rcases nS hm' with hs' | ⟨hs',alN,alO,hst'⟩
 ·rw [Eh L K hm hs,Eh L K hm' hs'] at hb
  simp only [List.cons.injEq] at hb
  have hd:=Jl K.r hd1 (by omega) aeo (by omega) hb.2.2.1 hb.2.2.2.1
  have hk:=Jk L (i:=k.toNat) (j:=k'.toNat) (by have:=F.k; simp only at this; omega) (by have:=F'.k; simp only at this; omega) (by have:=hb.1; simp only at hp hp' this ⊢; omega)
  have f1:=F.k.1
  have f2:=F'.k.1
  simp only at hd hs hs' f1 f2
  subst hd
  rw [hs,hs',show k=k' by omega]
 ·exact absurd hb.symm (second hm' hs' hm hs)
 ·exact absurd hb (second hm hs hm' hs')
 ·rw [uF L K hm hs,uF L K hm' hs'] at hb
  have prom:∀ {x:aA},65≤(R.pieces.getD x.piece.toNat default).letter→((if x.piece≠fH p x then [61,(R.pieces.getD x.piece.toNat default).letter.toNat] else [])=[]∨∃ z,65≤z∧(if x.piece≠fH p x then [61,(R.pieces.getD x.piece.toNat default).letter.toNat] else [])=[61,z]):=by
   intro x hx
   split
   ·exact .inr ⟨_,by omega,rfl⟩
   ·exact .inl rfl
  obtain ⟨hA,hc,hr,hP,hMX⟩:=Ut (by omega) (by omega) (prom hp.1) (prom hp'.1) hb
  have hd:=Jl K.r hd1 (by omega) aeo (by omega) hc hr
  have hc1:=K.cell s.toNat
  have hc2:=K.cell s'.toNat
  simp only at hd hs hs' hsl alN hsc alO hst hst' hc1 hc2
  subst hd
  have hkk:(fH p ⟨s,d,k⟩).toNat=(fH p ⟨s',d,k'⟩).toNat:=by
   refine Jk L ?_ ?_ ?_
   ·unfold fH; simp only; omega
   ·unfold fH; simp only; omega
   ·have r1:=L.rg (fH p ⟨s,d,k⟩).toNat (by unfold fH; simp only; omega)
    have r2:=L.rg (fH p ⟨s',d,k'⟩).toNat (by unfold fH; simp only; omega)
    omega
  have hkz:fH p ⟨s,d,k⟩=fH p ⟨s',d,k'⟩:=by
   unfold fH at hkk ⊢
   simp only at hkk ⊢
   omega
  have hcell:p.cells.getD s.toNat 0=p.cells.getD s'.toNat 0:=by
   unfold fH at hkz
   simp only at hkz
   omega
  have hM:uz (markT R p (aW R p) ⟨s,d,k⟩)=uz (markT R p (aW R p) ⟨s',d,k'⟩):=List.append_cancel_right hMX
  have hss:s=s':=by
   by_cases e:s=s'
   ·exact e
   ·exfalso
    have m1:s'∈dh p (aW R p) ⟨s,d,k⟩:=Rf (x:=⟨s',d,k'⟩) hm' hs' (fun q=>e q.symm) rfl hcell.symm
    have m2:s∈dh p (aW R p) ⟨s',d,k'⟩:=Rf (x:=⟨s,d,k⟩) hm hs e rfl hcell
    have g1:=pJ K.r hs (show s<_ by omega)
    have g2:=pJ K.r hs' (show s'<_ by omega)
    rcases oI K.r p (aW R p) ⟨s,d,k⟩ hs (show s<_ by omega) with ⟨q,-⟩ | ⟨q,z⟩ | ⟨q,z⟩ | z
    ·rw [q] at m1; cases m1
    all_goals
     rcases oI K.r p (aW R p) ⟨s',d,k'⟩ hs' (show s'<_ by omega) with ⟨q',-⟩ | ⟨q',z'⟩ | ⟨q',z'⟩ | z'
     ·rw [q'] at m2; cases m2
     all_goals
      rw [z,z'] at hM
      (try simp only [List.cons.injEq,and_true,reduceCtorEq,and_false] at hM) <;> first
       | omega
       | (have:=q _ m1; simp only at this; omega)
       | exact e (Jl K.r hs (show s<_ by omega) hs' (show s'<_ by omega) hM.1 hM.2)
  subst hss
  have hpk:k=k':=by
   simp only [hkz] at hP
   have f1:=F.k
   have f2:=F'.k
   simp only at f1 f2 hp hp'
   split at hP <;> split at hP
   ·simp only [List.cons.injEq,true_and,and_true] at hP
    have:=Jk L (i:=k.toNat) (j:=k'.toNat) (by omega) (by omega) (by omega)
    omega
   ·cases hP
   ·cases hP
   ·rename_i a b
    have a':k=fH p ⟨s,d,k'⟩:=by
     by_cases q:k=fH p ⟨s,d,k'⟩
     ·exact q
     ·exact absurd q a
    have b':k'=fH p ⟨s,d,k'⟩:=by
     by_cases q:k'=fH p ⟨s,d,k'⟩
     ·exact q
     ·exact absurd q b
    rw [a',← b']
  rw [hpk]
end Go.Proofs.YteablcielclaeaaGreatDoor
namespace Go.Proofs.YteablcielclaeaaGreatDoor
open Go.ChangeShapes Go.WideShapes Go.ChangeAt Go.RowKit
set_option linter.unusedVariables false
set_option maxHeartbeats 8000000
set_option maxRecDepth 100000
end Go.Proofs.YteablcielclaeaaGreatDoor
namespace Go.Proofs.YteablcielclaeaaGreatDoor
open Go.ChangeShapes Go.WideShapes Go.ChangeAt Go.RowKit
set_option linter.unusedVariables false
set_option maxHeartbeats 8000000
set_option maxRecDepth 100000
open Go.Lib (hid)
theorem Ei (R:au) (vp vs ve:Value) (n:Int) (w:World) (K:Ou R) (h0:0≤n) (h1:n<R.width * R.height) :
  Calls Tryz.prog 219 #[(.agg #[.string R.name,.int .i64 R.width,.int .i64 R.height,vp,vs,.bool R.falls,.bool R.keeps,ve,.int .i64 R.blocked,.int .i64 R.quiet,.int .i64 R.aZ]),.int .i64 n] w fun e w'=>e=.returned (.string (Ed R n))∧Below w.heap.size w w':=by
 have HD:Hid (Ed R n=Utf8.encode (97+n % R.width)):=hid rfl
 obtain ⟨hw1,hw2⟩:=K.w
 obtain ⟨s1,s2,s3,s4⟩:=pJ K h0 h1
 have ht:Int.tmod n R.width=n % R.width:=Int.tmod_eq_emod_of_nonneg h0
 have hwne:R.width≠0:=by omega
 clear K
 go_enter Tryz.func219,Tryz.ntmps219
 go_upto_region 1 with (fail)
 refine pV fun w0 B0 fG hs_=>?_
 have HB:=hid fG
 have hz0:w.heap.size<w0.heap.size:=by omega
 clear hs_ fG
 have HX:=hid B0
 clear B0
 have q1:=HX.out.cell 1 rfl
 generalize n % R.width=z at *
 go_wp2_with fail
 go_ret
 exact ⟨by rw [HD.out]; rfl,HB.out⟩
theorem Rh (R:au) (vp vs ve:Value) (n:Int) (w:World) (K:Ou R) (h0:0≤n) (h1:n<R.width * R.height) :
  Calls Tryz.prog 220 #[(.agg #[.string R.name,.int .i64 R.width,.int .i64 R.height,vp,vs,.bool R.falls,.bool R.keeps,ve,.int .i64 R.blocked,.int .i64 R.quiet,.int .i64 R.aZ]),.int .i64 n] w fun e w'=>e=.returned (.string (rowT R n))∧Below w.heap.size w w':=by
 have HD:Hid (rowT R n=Utf8.encode (49+n / R.width)):=hid rfl
 obtain ⟨hw1,hw2⟩:=K.w
 obtain ⟨s1,s2,s3,s4⟩:=pJ K h0 h1
 have ht:Int.tdiv n R.width=n / R.width:=Int.tdiv_eq_ediv_of_nonneg h0
 have hwne:R.width≠0:=by omega
 clear K
 go_enter Tryz.func220,Tryz.ntmps220
 go_upto_region 1 with (fail)
 refine pV fun w0 B0 fG hs_=>?_
 have HB:=hid fG
 have hz0:w.heap.size<w0.heap.size:=by omega
 clear hs_ fG
 have HX:=hid B0
 clear B0
 have q1:=HX.out.cell 1 rfl
 generalize n / R.width=z at *
 go_wp2_with fail
 go_ret
 exact ⟨by rw [HD.out]; rfl,HB.out⟩
theorem rO (R:au) (vp vs ve:Value) (n:Int) (w:World) (K:Ou R) (h0:0≤n) (h1:n<R.width * R.height) :
  Calls Tryz.prog 188 #[(.agg #[.string R.name,.int .i64 R.width,.int .i64 R.height,vp,vs,.bool R.falls,.bool R.keeps,ve,.int .i64 R.blocked,.int .i64 R.quiet,.int .i64 R.aZ]),.int .i64 n] w fun e w'=>e=.returned (.string (JU R n))∧Below w.heap.size w w':=by
 have HD:Hid (JU R n=Ed R n++rowT R n):=hid rfl
 have z1:(Ed R n).size=1:=by rw [← mD,Ee K h0 h1]; rfl
 have z2:(rowT R n).size=1:=by rw [← mD,Ef K h0 h1]; rfl
 have HK:=hid K
 clear K
 go_enter Tryz.func188,Tryz.ntmps188
 go_upto_region 1 with (fail)
 refine pV fun w0 B0 fG hs_=>?_
 have HB:=hid fG
 have hz0:w.heap.size<w0.heap.size:=by omega
 clear hs_ fG
 have Bz:Box w0.drew w.heap.size [.string R.name,.int .i64 R.width,.int .i64 R.height,vp,vs,.bool R.falls,.bool R.keeps,ve,.int .i64 R.blocked,.int .i64 R.quiet,.int .i64 R.aZ] 61:=B0
 have Lz:Below w.heap.size w w0.drew:=aP HB.out
 clear B0 HB hz0
 refine wp_region_noPanic ?_
 refine bU (S:=(fun w'=>w'.cell? ⟨w.heap.size,0,none⟩=some (.string R.name)∧w'.cell? ⟨w.heap.size,1,none⟩=some (.int .i64 R.width)∧w'.cell? ⟨w.heap.size,2,none⟩=some (.int .i64 R.height)∧w'.cell? ⟨w.heap.size,3,none⟩=some vp∧w'.cell? ⟨w.heap.size,4,none⟩=some vs∧w'.cell? ⟨w.heap.size,5,none⟩=some (.bool R.falls)∧w'.cell? ⟨w.heap.size,6,none⟩=some (.bool R.keeps)∧w'.cell? ⟨w.heap.size,7,none⟩=some ve∧w'.cell? ⟨w.heap.size,8,none⟩=some (.int .i64 R.blocked)∧w'.cell? ⟨w.heap.size,9,none⟩=some (.int .i64 R.quiet)∧w'.cell? ⟨w.heap.size,10,none⟩=some (.int .i64 R.aZ))) (L:=[]) (by kernel_rfl) (by and_intros <;> exact Bz.cell _ rfl) (fun hHeld=>?_)
 refine eH 0 ?_
 refine aJ 1 ?_
 refine eH 3 ?_
 refine aJ 4 ?_
 refine gI 2 fun K hK=>?_
 go_simp
 refine (Ei R vp vs ve n _ HK.out h0 h1).mono ?_
 rintro e w2 ⟨rfl,hb2⟩
 have B2:=Bz.stays hb2
 have L2:=aj Lz hb2 Lz.size
 clear hb2
 refine hK.out _ _ (by and_intros <;> exact B2.cell _ rfl) (fun hHeld=>?_)
 clear hK K
 refine gI 5 fun K hK=>?_
 go_simp
 refine (Rh R vp vs ve n _ HK.out h0 h1).mono ?_
 rintro e w5 ⟨rfl,hb5⟩
 have B5:=B2.stays hb5
 have L5:=aj L2 hb5 L2.size
 clear hb5
 refine hK.out _ _ (by and_intros <;> exact B5.cell _ rfl) (fun hHeld=>?_)
 clear hK K
 refine aJ 6 ?_
 refine aJ 7 ?_
 refine kW ?_
 have HL:=hid L5
 clear hHeld B2 L2 B5 L5 Bz Lz
 go_wp2_with fail
 go_ret
 exact ⟨by rw [HD.out]; rfl,HL.out⟩
theorem rP (R:au) (vp vs ve:Value) (k:Int) (w:World) (hr:iQ iD w vp R.pieces) (K:Ou R) (L:sF R) (h0:0≤k) (h1:k<R.pieces.length) :
  Calls Tryz.prog 187 #[(.agg #[.string R.name,.int .i64 R.width,.int .i64 R.height,vp,vs,.bool R.falls,.bool R.keeps,ve,.int .i64 R.blocked,.int .i64 R.quiet,.int .i64 R.aZ]),.int .i64 k] w fun e w'=>e=.returned (.string (uy R k))∧Below w.heap.size w w':=by
 have HD:Hid (uy R k=Utf8.encode (R.pieces.getD k.toNat default).letter):=hid rfl
 have HR:=hid hr
 obtain ⟨np1,np2⟩:=K.np
 obtain ⟨l1,l2⟩:=L.rg k.toNat (by omega)
 obtain ⟨a,c,rfl,hl1,hl2⟩:=hr.form
 unfold maxLen at hl2
 clear hr K L
 go_enter Tryz.func187,Tryz.ntmps187
 go_upto_region 1 with (fail)
 refine pV fun w0 B0 fG hs_=>?_
 have HB:=hid fG
 have hz0:w.heap.size<w0.heap.size:=by omega
 clear hs_ fG
 have HX:=hid B0
 clear B0
 have q3:=HX.out.cell 3 rfl
 obtain ⟨gp,op,rfl,hgp,hpc⟩:=lZ (HR.out.below HB.out (Nat.le_refl _)) (by omega)
 obtain ⟨vw,c0,-,-,-,-⟩:=hpc k.toNat (by omega)
 clear hpc
 generalize (R.pieces.getD k.toNat default).letter=z at *
 go_wp2_with fail
 go_ret
 exact ⟨by rw [HD.out]; rfl,HB.out⟩
theorem Uu:(Tryz.prog.info? 3).map (fun i=>(i.zero,i.size,i.bytes))=some (some (.int .i64 0),1,8):=by kernel_rfl
theorem Yk (p:aV) (l:List aA) (m:aA) (k:Nat) (h:k<l.length):dh p (l.take (k+1)) m=dh p (l.take k) m++(if Jg p m (l.getD k default)=true then [(l.getD k default).src] else []):=by
 unfold dh
 rw [List.take_succ_eq_append_getElem h,List.filter_append,List.map_append,List.getD_eq_getElem?_getD,List.getElem?_eq_getElem h]
 congr 1
 simp only [List.filter_cons,List.filter_nil,Option.getD_some]
 split <;> simp
theorem Ri (p:aV) (l:List aA) (m:aA):(dh p l m).length≤l.length:=by
 unfold dh
 rw [List.length_map]
 exact List.length_filter_le _ _
theorem abk (p:aV) (l:List aA) (m:aA) (hl:∀ x∈l,x.src<p.cells.length):∀ z∈dh p l m,0≤z∧z<p.cells.length:=by
 intro z hz
 unfold dh at hz
 obtain ⟨x,hx,rfl⟩:=List.mem_map.1 hz
 have:=(List.mem_filter.1 hx).2
 unfold Jg at this
 simp only [Bool.and_eq_true,decide_eq_true_eq] at this
 exact ⟨this.1.1.1,hl x (List.mem_filter.1 hx).1⟩
theorem abl (args:Array Value) (w:World):(callFunc 222 args).run Tryz.prog w=.ok (.enter 222 args) w:=by kernel_rfl
theorem abm (args:Array Value) (w:World):(callFunc 223 args).run Tryz.prog w=.ok (.enter 223 args) w:=by kernel_rfl
theorem abn (R:au) (vp vs ve:Value) (m:aA) (z:Int) (b0 b2:Nat) (w:World) (B0:Box w b0 [.string R.name,.int .i64 R.width,.int .i64 R.height,vp,vs,.bool R.falls,.bool R.keeps,ve,.int .i64 R.blocked,.int .i64 R.quiet,.int .i64 R.aZ] 61) (B2:Box w b2 [.int .i64 m.src,.int .i64 m.dst,.int .i64 m.piece] 68) (hw:1≤R.width) (hz:0≤z) (hm:0≤m.src) :
  Calls Tryz.prog 222 (#[.int .i64 z] ++ #[.pointer (some ⟨b0,0,none⟩),.pointer (some ⟨b2,0,none⟩)]) w fun e w'=>e=.returned (.bool (z % R.width == m.src % R.width))∧Below w.heap.size w w':=by
 show Calls Tryz.prog 222 #[.int .i64 z,.pointer (some ⟨b0,0,none⟩),.pointer (some ⟨b2,0,none⟩)] w _
 have q1:=B0.cell 1 rfl
 have x0:=B2.cell 0 rfl
 have t1:Int.tmod z R.width=z % R.width:=Int.tmod_eq_emod_of_nonneg hz
 have t2:Int.tmod m.src R.width=m.src % R.width:=Int.tmod_eq_emod_of_nonneg hm
 have hwne:R.width≠0:=by omega
 clear B0 B2
 go_enter Tryz.func222,Tryz.ntmps222
 go_upto_region 1 with (fail)
 go_quiet (fail)
 go_wp2_with fail
 go_ret
 exact ⟨rfl,below_drewN (Below.refl _ _) _⟩
theorem abo (R:au) (vp vs ve:Value) (m:aA) (z:Int) (b0 b2:Nat) (w:World) (B0:Box w b0 [.string R.name,.int .i64 R.width,.int .i64 R.height,vp,vs,.bool R.falls,.bool R.keeps,ve,.int .i64 R.blocked,.int .i64 R.quiet,.int .i64 R.aZ] 61) (B2:Box w b2 [.int .i64 m.src,.int .i64 m.dst,.int .i64 m.piece] 68) (hw:1≤R.width) (hz:0≤z) (hz2:z≤1000) (hm:0≤m.src) (hm2:m.src≤1000) :
  Calls Tryz.prog 223 (#[.int .i64 z] ++ #[.pointer (some ⟨b0,0,none⟩),.pointer (some ⟨b2,0,none⟩)]) w fun e w'=>e=.returned (.bool (z / R.width == m.src / R.width))∧Below w.heap.size w w':=by
 show Calls Tryz.prog 223 #[.int .i64 z,.pointer (some ⟨b0,0,none⟩),.pointer (some ⟨b2,0,none⟩)] w _
 have q1:=B0.cell 1 rfl
 have x0:=B2.cell 0 rfl
 have t1:Int.tdiv z R.width=z / R.width:=Int.tdiv_eq_ediv_of_nonneg hz
 have t2:Int.tdiv m.src R.width=m.src / R.width:=Int.tdiv_eq_ediv_of_nonneg hm
 have hwne:R.width≠0:=by omega
 have d1:=Int.ediv_nonneg hz (show 0≤R.width by omega)
 have d2:=Int.ediv_nonneg hm (show 0≤R.width by omega)
 have d3:=Int.ediv_le_self R.width hz
 have d4:=Int.ediv_le_self R.width hm
 generalize z / R.width=zq at *
 generalize m.src / R.width=mq at *
 clear B0 B2
 go_enter Tryz.func223,Tryz.ntmps223
 go_upto_region 1 with (fail)
 go_quiet (fail)
 go_wp2_with fail
 go_ret
 exact ⟨rfl,below_drewN (Below.refl _ _) _⟩
theorem Rj (f:FuncId) (caps:Array Value) (p:Int→Bool) (v:Value) (zs:List Int) (rb:Nat) (w:World) (B:Box w rb [v] 22) (h:iJ w v zs) (hf:∀ (args:Array Value) (w:World),(callFunc f args).run Tryz.prog w=.ok (.enter f args) w)
  (hc:∀ (W:World) (z:Int),z∈zs→Below w.heap.size w W→Calls Tryz.prog f (#[.int .i64 z]++caps) W fun e w'=>e=.returned (.bool (p z))∧Below W.heap.size W w') :
  Calls Tryz.prog 221 #[.func (.func f) #[] caps,.pointer (some ⟨rb,0,none⟩)] w fun e w'=>e=.returned (.bool (zs.any p))∧Below w.heap.size w w':=by
 have HC:=hid (yI v zs p f caps w h hf hc)
 have q0:=B.cell 0 rfl
 obtain ⟨a,c,rfl,h1,h2⟩:=h.form
 clear h hf hc B
 go_enter Tryz.func221,Tryz.ntmps221
 go_wp2_with fail
 refine HC.out.mono ?_
 rintro e w1 ⟨rfl,hb1⟩
 have HB1:=hid hb1
 clear hb1
 go_wp2_with fail
 go_ret
 exact ⟨rfl,HB1.out⟩
theorem Yl (R:au) (vp vs ve:Value) (p:aV) (vc v0 v1:Value) (m:aA) (v:Value) (l:List aA) (w:World) (hp:iJ w vc p.cells) (hl:iQ jM w v l) (K:oK R p) (hlf:∀ x∈l,x.src<p.cells.length) (hll:l.length≤1000000) (hm:0≤m.src∧m.src<p.cells.length) :
  Calls Tryz.prog 189 #[(.agg #[.string R.name,.int .i64 R.width,.int .i64 R.height,vp,vs,.bool R.falls,.bool R.keeps,ve,.int .i64 R.blocked,.int .i64 R.quiet,.int .i64 R.aZ]),(.agg #[vc,v0,v1,.int .i64 p.turn,.int .i64 p.quiet]),v,.agg #[.int .i64 m.src,.int .i64 m.dst,.int .i64 m.piece]] w fun e w'=>e=.returned (.string (markT R p l m))∧Below w.heap.size w w':=by
 have HD:Hid (markT R p l m=if (dh p l m).length=0 then ByteArray.empty
 else if (dh p l m).any (fun n=>n % R.width == m.src % R.width)=false then Ed R m.src
 else if (dh p l m).any (fun n=>n / R.width == m.src / R.width)=false then rowT R m.src
 else JU R m.src):=hid rfl
 have HP:=hid hp
 have HL:=hid hl
 have HK:=hid K
 have EO:=hid hlf
 obtain ⟨hm0,hm1⟩:=hm
 have hm2:m.src<R.width * R.height:=by have:=K.cl; omega
 have uS:=hid hm2
 obtain ⟨ac,cc,rfl,hc1,hc2⟩:=hp.form
 obtain ⟨al,cl,rfl,hl1,hl2⟩:=hl.form
 unfold maxLen at hc2 hl2
 obtain ⟨hw1,hw2⟩:=K.r.w
 clear hp hl K hlf hm2
 go_enter Tryz.func189,Tryz.ntmps189
 go_upto_region 2 with (fail)
 have B0:Box ((((w.alloc (.cells #[.string R.name,.int .i64 R.width,.int .i64 R.height,vp,vs,.bool R.falls,.bool R.keeps,ve,.int .i64 R.blocked,.int .i64 R.quiet,.int .i64 R.aZ] 61)).alloc (.cells #[.slice ac p.cells.length cc,v0,v1,.int .i64 p.turn,.int .i64 p.quiet] 158)).alloc (.cells #[.int .i64 m.src,.int .i64 m.dst,.int .i64 m.piece] 68)).alloc (.cells #[.slice none 0 0] 22)) (w.heap.size) [.string R.name,.int .i64 R.width,.int .i64 R.height,vp,vs,.bool R.falls,.bool R.keeps,ve,.int .i64 R.blocked,.int .i64 R.quiet,.int .i64 R.aZ] 61:=((((Box.new' w (w.heap.size) [.string R.name,.int .i64 R.width,.int .i64 R.height,vp,vs,.bool R.falls,.bool R.keeps,ve,.int .i64 R.blocked,.int .i64 R.quiet,.int .i64 R.aZ] 61 (by simp <;> omega)).alloc _).alloc _).alloc _)
 have B1:Box ((((w.alloc (.cells #[.string R.name,.int .i64 R.width,.int .i64 R.height,vp,vs,.bool R.falls,.bool R.keeps,ve,.int .i64 R.blocked,.int .i64 R.quiet,.int .i64 R.aZ] 61)).alloc (.cells #[.slice ac p.cells.length cc,v0,v1,.int .i64 p.turn,.int .i64 p.quiet] 158)).alloc (.cells #[.int .i64 m.src,.int .i64 m.dst,.int .i64 m.piece] 68)).alloc (.cells #[.slice none 0 0] 22)) (w.heap.size+1) [.slice ac p.cells.length cc,v0,v1,.int .i64 p.turn,.int .i64 p.quiet] 158:=(((Box.new' (w.alloc (.cells #[.string R.name,.int .i64 R.width,.int .i64 R.height,vp,vs,.bool R.falls,.bool R.keeps,ve,.int .i64 R.blocked,.int .i64 R.quiet,.int .i64 R.aZ] 61)) (w.heap.size+1) [.slice ac p.cells.length cc,v0,v1,.int .i64 p.turn,.int .i64 p.quiet] 158 (by simp <;> omega)).alloc _).alloc _)
 have B2:Box ((((w.alloc (.cells #[.string R.name,.int .i64 R.width,.int .i64 R.height,vp,vs,.bool R.falls,.bool R.keeps,ve,.int .i64 R.blocked,.int .i64 R.quiet,.int .i64 R.aZ] 61)).alloc (.cells #[.slice ac p.cells.length cc,v0,v1,.int .i64 p.turn,.int .i64 p.quiet] 158)).alloc (.cells #[.int .i64 m.src,.int .i64 m.dst,.int .i64 m.piece] 68)).alloc (.cells #[.slice none 0 0] 22)) (w.heap.size+1+1) [.int .i64 m.src,.int .i64 m.dst,.int .i64 m.piece] 68:=((Box.new' ((w.alloc (.cells #[.string R.name,.int .i64 R.width,.int .i64 R.height,vp,vs,.bool R.falls,.bool R.keeps,ve,.int .i64 R.blocked,.int .i64 R.quiet,.int .i64 R.aZ] 61)).alloc (.cells #[.slice ac p.cells.length cc,v0,v1,.int .i64 p.turn,.int .i64 p.quiet] 158)) (w.heap.size+1+1) [.int .i64 m.src,.int .i64 m.dst,.int .i64 m.piece] 68 (by simp <;> omega)).alloc _)
 have B3:Box ((((w.alloc (.cells #[.string R.name,.int .i64 R.width,.int .i64 R.height,vp,vs,.bool R.falls,.bool R.keeps,ve,.int .i64 R.blocked,.int .i64 R.quiet,.int .i64 R.aZ] 61)).alloc (.cells #[.slice ac p.cells.length cc,v0,v1,.int .i64 p.turn,.int .i64 p.quiet] 158)).alloc (.cells #[.int .i64 m.src,.int .i64 m.dst,.int .i64 m.piece] 68)).alloc (.cells #[.slice none 0 0] 22)) (w.heap.size+1+1+1) [.slice none 0 0] 22:=(Box.new' (((w.alloc (.cells #[.string R.name,.int .i64 R.width,.int .i64 R.height,vp,vs,.bool R.falls,.bool R.keeps,ve,.int .i64 R.blocked,.int .i64 R.quiet,.int .i64 R.aZ] 61)).alloc (.cells #[.slice ac p.cells.length cc,v0,v1,.int .i64 p.turn,.int .i64 p.quiet] 158)).alloc (.cells #[.int .i64 m.src,.int .i64 m.dst,.int .i64 m.piece] 68)) (w.heap.size+1+1+1) [.slice none 0 0] 22 (by simp <;> omega))
 have HB:Hid (Below w.heap.size w ((((w.alloc (.cells #[.string R.name,.int .i64 R.width,.int .i64 R.height,vp,vs,.bool R.falls,.bool R.keeps,ve,.int .i64 R.blocked,.int .i64 R.quiet,.int .i64 R.aZ] 61)).alloc (.cells #[.slice ac p.cells.length cc,v0,v1,.int .i64 p.turn,.int .i64 p.quiet] 158)).alloc (.cells #[.int .i64 m.src,.int .i64 m.dst,.int .i64 m.piece] 68)).alloc (.cells #[.slice none 0 0] 22))):=hid (((((Below.refl w.heap.size w).alloc (Nat.le_refl _) _).alloc (by simp <;> omega) _).alloc (by simp <;> omega) _).alloc (by simp <;> omega) _)
 have hz0:w.heap.size+1+1+1<((((w.alloc (.cells #[.string R.name,.int .i64 R.width,.int .i64 R.height,vp,vs,.bool R.falls,.bool R.keeps,ve,.int .i64 R.blocked,.int .i64 R.quiet,.int .i64 R.aZ] 61)).alloc (.cells #[.slice ac p.cells.length cc,v0,v1,.int .i64 p.turn,.int .i64 p.quiet] 158)).alloc (.cells #[.int .i64 m.src,.int .i64 m.dst,.int .i64 m.piece] 68)).alloc (.cells #[.slice none 0 0] 22)).heap.size:=by simp
 generalize ((((w.alloc (.cells #[.string R.name,.int .i64 R.width,.int .i64 R.height,vp,vs,.bool R.falls,.bool R.keeps,ve,.int .i64 R.blocked,.int .i64 R.quiet,.int .i64 R.aZ] 61)).alloc (.cells #[.slice ac p.cells.length cc,v0,v1,.int .i64 p.turn,.int .i64 p.quiet] 158)).alloc (.cells #[.int .i64 m.src,.int .i64 m.dst,.int .i64 m.piece] 68)).alloc (.cells #[.slice none 0 0] 22))=w0 at *
 have HX:=hid B0
 have HY:=hid B1
 have HZ:=hid B2
 have HV:=hid B3
 clear B0 B1 B2 B3
 have hz0':w.heap.size+3<w0.heap.size:=by omega
 go_wp2_with fail
 go_loopw [15,11] (fun vi a11 wr=>∃ (k:Nat) (vo:Value),k≤l.length∧vi=.int .i64 k∧Hid (Box wr (w.heap.size+3) [vo] 22)∧Hid (wr.ownsRow (w.heap.size+3+1) 3 1 vo (dh p (l.take k) m).length (ints (dh p (l.take k) m)))∧Hid (Below (w.heap.size+3) w0 wr)) (fun i _ _=>l.length - (intOf i).toNat)
 case atStart=>exact ⟨0,.slice none 0 0,Nat.zero_le _,rfl,HV,hid (World.ownsRow_nil _ _ _ _),hid (Below.refl _ _)⟩
 case round =>
  obtain ⟨k,vo,hk,rfl,HVr,HO,bD⟩:=hrel
  have hsz:=bD.out.size
  have BJ:=hid (HX.out.below bD.out (by omega))
  have HYr:=hid (HY.out.below bD.out (by omega))
  have HZr:=hid (HZ.out.below bD.out (by omega))
  have Oa:Hid (Below w.heap.size w wr):=hid (HB.out.trans (bD.out.mono (by omega)))
  by_cases hlt:k<l.length
  ·have hrl:(dh p (l.take k) m).length≤k:=by
    have:=Ri p (l.take k) m
    rw [List.length_take] at this; omega
   obtain ⟨gl,ol,rfl,hgl,hcc⟩:=wK (HL.out.below Oa.out (Nat.le_refl _)) (by omega)
   obtain ⟨c0,c1,c2⟩:=hcc k hlt
   have hxs:(l.getD k default).src<p.cells.length:=EO.out _ (by rw [List.getD_eq_getElem?_getD,List.getElem?_eq_getElem hlt]; exact List.getElem_mem _)
   have HST:=hid (Yk p l m k hlt)
   clear hcc
   generalize l.getD k default=x at *
   go_upto_region 5 with (fail)
   have dW:=hid (Box.new wr [.int .i64 x.src,.int .i64 x.dst,.int .i64 x.piece] 68)
   have hal:=((Below.refl wr.heap.size wr).alloc (Nat.le_refl _) (.cells #[.int .i64 x.src,.int .i64 x.dst,.int .i64 x.piece] 68))
   have Vp:=hid (BJ.out.stays hal)
   have HYx:=hid (HYr.out.stays hal)
   have HZx:=hid (HZr.out.stays hal)
   have HVx:=hid (HVr.out.stays hal)
   have HOx:=hid (aU HO.out hal)
   have dN:=hid (aj bD.out hal (by omega))
   have hzm:wr.heap.size<(wr.alloc (.cells #[.int .i64 x.src,.int .i64 x.dst,.int .i64 x.piece] 68)).heap.size:=by simp
   clear c0 c1 c2 hal BJ HYr HZr HVr HO bD Oa
   generalize (wr.alloc (.cells #[.int .i64 x.src,.int .i64 x.dst,.int .i64 x.piece] 68))=wx at *
   have alP:Hid (Below w.heap.size w wx):=hid (HB.out.trans (dN.out.mono (by omega)))
   have d0:=dW.out.cell 0 rfl
   have d1:=dW.out.cell 1 rfl
   have z0:=HZx.out.cell 0 rfl
   have z1:=HZx.out.cell 1 rfl
   have p0:=HYx.out.cell 0 rfl
   have rb0:=HVx.out.cell 0 rfl
   have rf0:=HVx.out.frozen 0
   have hrs:w.heap.size+3+1≤wx.heap.size:=by have:=HVx.out.lt; omega
   by_cases h0:0≤x.src
   rotate_left
   ·have HR:Hid (dh p (l.take (k+1)) m=dh p (l.take k) m):=hid (by rw [HST.out,if_neg (by unfold Jg; simp [h0])]; simp)
    have hg:decide (0≤x.src)=false:=by simpa using h0
    clear HST
    go_quiet (fail)
    go_wp2_with fail
    go_roundw
    case rel=>exact ⟨k+1,vo,by omega,by go_num,HVx,by rw [HR.out]; exact HOx,hid (below_drewN dN.out _)⟩
    case measure=>simp [intOf]; omega
   have hg:decide (0≤x.src)=true:=by simpa using h0
   by_cases h1:x.src=m.src
   ·have HR:Hid (dh p (l.take (k+1)) m=dh p (l.take k) m):=hid (by rw [HST.out,if_neg (by unfold Jg; simp [h1])]; simp)
    have hgb:(x.src != m.src)=false:=by simpa using h1
    clear HST h1
    go_quiet (fail)
    go_wp2_with fail
    go_roundw
    case rel=>exact ⟨k+1,vo,by omega,by go_num,HVx,by rw [HR.out]; exact HOx,hid (below_drewN dN.out _)⟩
    case measure=>simp [intOf]; omega
   have hgb:(x.src != m.src)=true:=by simpa using h1
   by_cases h2:x.dst=m.dst
   rotate_left
   ·have HR:Hid (dh p (l.take (k+1)) m=dh p (l.take k) m):=hid (by rw [HST.out,if_neg (by unfold Jg; simp [h2])]; simp)
    have hgc:(x.dst == m.dst)=false:=by simpa using h2
    clear HST h1 h2
    go_quiet (fail)
    go_wp2_with fail
    go_roundw
    case rel=>exact ⟨k+1,vo,by omega,by go_num,HVx,by rw [HR.out]; exact HOx,hid (below_drewN dN.out _)⟩
    case measure=>simp [intOf]; omega
   have hgc:(x.dst == m.dst)=true:=by simpa using h2
   obtain ⟨gc,oc,rfl,hcc⟩:=eu (HP.out.below alP.out (Nat.le_refl _)) (by omega)
   have e0:=hcc x.src.toNat (by omega)
   have e1:=hcc m.src.toNat (by omega)
   have HRB:Hid (Jg p m x=(p.cells.getD x.src.toNat 0 == p.cells.getD m.src.toNat 0)):=hid (by unfold Jg; simp [h0,h1,h2])
   clear hcc h1 h2
   generalize p.cells.getD x.src.toNat 0=cx at *
   generalize p.cells.getD m.src.toNat 0=cm at *
   by_cases h3:cx=cm
   rotate_left
   ·have HR:Hid (dh p (l.take (k+1)) m=dh p (l.take k) m):=hid (by rw [HST.out,if_neg (by rw [HRB.out]; simp [h3])]; simp)
    have hgd:(cx == cm)=false:=by simpa using h3
    clear HST h3 HRB
    go_quiet (fail)
    go_wp2_with fail
    go_roundw
    case rel=>exact ⟨k+1,vo,by omega,by go_num,HVx,by rw [HR.out]; exact HOx,hid (below_drewN dN.out _)⟩
    case measure=>simp [intOf]; omega
   have HR:Hid (dh p (l.take (k+1)) m=dh p (l.take k) m++[x.src]):=hid (by rw [HST.out,if_pos (by rw [HRB.out]; simp [h3])])
   have hgd:(cx == cm)=true:=by simpa using h3
   clear HST h3 HRB
   go_quiet (fail)
   obtain ⟨E,hE⟩:∃ E,dh p (l.take k) m=E:=⟨_,rfl⟩
   rw [hE] at HOx HR hrl
   clear hE
   go_wp2_with (at_builtin; refine fU 22 3 (.int .i64 0) 1 8 Uu Tryz.underlying22 rfl (by decide) (by rfl) _ _ (by rfl) (w.heap.size+3+1) _ E.length (ints E) [.int .i64 x.src] _ HOx.out hrs rfl lX (by omega) (by omega) (by rfl) (by rfl) ?_)
   intro g5 cap5 w5 hown5 hk5 hg5
   have hb5:=hk5.below (Below.refl (w.heap.size+3+1) _) (Nat.le_refl _)
   have HV5:Hid (Box w5 (w.heap.size+3) [vo] 22):=hid (Box.below (HVx.out.drewN _) hb5 (by omega))
   have hs5:wx.heap.size≤w5.heap.size:=hb5.size
   have r5:=HV5.out.cell 0 rfl
   have rf5:=HV5.out.frozen 0
   have FK:=hid hown5
   have wO:=hid ((below_drewN dN.out _).trans (hb5.mono (by omega)))
   clear hown5 hk5 hg5 hb5 rb0 rf0 d0 d1 z0 z1 p0 e0 e1
   go_wp2_with fail
   have HV6:=hid (HV5.out.set 0 (.slice (some ⟨g5,0,none⟩) (E.length+1) cap5))
   have QE:Hid ((w5.setCell ⟨w.heap.size+3,0,none⟩ (.slice (some ⟨g5,0,none⟩) (E.length+1) cap5)).ownsRow (w.heap.size+3+1) 3 1 (.slice (some ⟨g5,0,none⟩) (E.length+1) cap5) (dh p (l.take (k+1)) m).length (ints (dh p (l.take (k+1)) m))):=hid (by
    rw [HR.out,List.length_append,← gU]
    exact ownsRow_setCell_below FK.out (by simp) _)
   have ZF:=hid (wO.out.setCell (Nat.le_refl _) (p:=⟨w.heap.size+3,0,none⟩) (.slice (some ⟨g5,0,none⟩) (E.length+1) cap5))
   go_roundw
   case rel=>exact ⟨k+1,_,by omega,by go_num,HV6,QE,ZF⟩
   case measure=>simp [intOf]; omega
  ·obtain rfl:k=l.length:=by omega
   have HOl:Hid (wr.ownsRow (w.heap.size+3+1) 3 1 vo (dh p l m).length (ints (dh p l m))):=hid (by have:=HO.out; rwa [List.take_of_length_le (Nat.le_refl _)] at this)
   have HRP:=hid (abk p l m EO.out)
   have HI:=hid (iJ.dL HOl.out)
   obtain ⟨av,cv,rfl⟩:=aH HOl.out
   have hrl:=Ri p l m
   have rb0:=HVr.out.cell 0 rfl
   have x0:=HZr.out.cell 0 rfl
   have wY:=hid (Rj 222 #[.pointer (some ⟨w.heap.size,0,none⟩),.pointer (some ⟨w.heap.size+2,0,none⟩)] (fun n=>n % R.width == m.src % R.width) _ _ (w.heap.size+3) wr HVr.out HI.out abl (fun W z hz hW=>abn R vp vs ve m z _ _ W (BJ.out.stays hW) (HZr.out.stays hW) hw1 (HRP.out z hz).1 hm0))
   clear HO HOl
   generalize dh p l m=rv at *
   by_cases h0:rv.length=0
   ·have HE:Hid (markT R p l m=ByteArray.empty):=hid (by rw [HD.out,if_pos h0])
    have h0b:((rv.length:Int) == 0)=true:=by simp [h0]
    clear h0 HD
    go_wp2_with fail
    go_ret
    exact ⟨by rw [HE.out]; rfl,Oa.out⟩
   have HD1:Hid (markT R p l m=if rv.any (fun n=>n % R.width == m.src % R.width)=false then Ed R m.src
    else if rv.any (fun n=>n / R.width == m.src / R.width)=false then rowT R m.src else JU R m.src):=hid (by rw [HD.out,if_neg h0])
   have h0b:((rv.length:Int) == 0)=false:=by simp; intro e; exact h0 (by rw [e]; rfl)
   clear h0 HD
   go_wp2_with fail
   refine wY.out.mono ?_
   rintro e w1 ⟨rfl,hb1⟩
   have Ym:=hid (aj Oa.out hb1 Oa.out.size)
   have abp:=hid (BJ.out.stays hb1)
   have abq:=hid (HZr.out.stays hb1)
   have aep:=hid (HVr.out.stays hb1)
   have HI1:=hid (HI.out.below hb1 (Nat.le_refl _))
   clear hb1 wY Oa BJ HZr HVr HI rb0 x0
   have rb0:=aep.out.cell 0 rfl
   have x0:=abq.out.cell 0 rfl
   have vO:=hid (Rj 223 #[.pointer (some ⟨w.heap.size,0,none⟩),.pointer (some ⟨w.heap.size+2,0,none⟩)] (fun n=>n / R.width == m.src / R.width) _ _ (w.heap.size+3) w1 aep.out HI1.out abm (fun W z hz hW=>abo R vp vs ve m z _ _ W (abp.out.stays hW) (abq.out.stays hW) hw1 (HRP.out z hz).1 (by have:=(HRP.out z hz).2; have:=HK.out.len; omega) hm0 (by have:=HK.out.len; omega)))
   rcases h1:rv.any (fun n=>n % R.width == m.src % R.width) with _ | _
   ·have HE:Hid (markT R p l m=Ed R m.src):=hid (by rw [HD1.out,if_pos h1])
    clear h1 HD1
    go_upto_region 12 with (fail)
    refine wp_region_lit ?_
    refine aB (by rfl) 61 (.tmp 4) (by rfl) (w.heap.size) (by rfl) abp.out Tryz.underlying61 (by rfl) (by kernel_rfl) ?_
    go_wp2_with fail
    refine (Ei R vp vs ve m.src _ HK.out.r hm0 uS.out).mono ?_
    rintro e w9 ⟨rfl,xP⟩
    have HB2:=hid (aj Ym.out xP Ym.out.size)
    clear xP
    go_wp2_with fail
    go_ret
    exact ⟨by rw [HE.out]; rfl,HB2.out⟩
   have HD2:Hid (markT R p l m=if rv.any (fun n=>n / R.width == m.src / R.width)=false then rowT R m.src else JU R m.src):=hid (by rw [HD1.out,if_neg (by rw [h1]; decide)])
   clear h1 HD1
   go_wp2_with fail
   refine vO.out.mono ?_
   rintro e w2 ⟨rfl,hb2⟩
   have abr:=hid (aj Ym.out hb2 Ym.out.size)
   have ahE:=hid (abp.out.stays hb2)
   have alS:=hid (abq.out.stays hb2)
   clear hb2 vO Ym abp abq aep HI1 rb0 x0
   have x0:=alS.out.cell 0 rfl
   rcases h2:rv.any (fun n=>n / R.width == m.src / R.width) with _ | _
   ·have HE:Hid (markT R p l m=rowT R m.src):=hid (by rw [HD2.out,if_pos h2])
    clear h2 HD2
    go_upto_region 14 with (fail)
    refine wp_region_lit ?_
    refine aB (by rfl) 61 (.tmp 4) (by rfl) (w.heap.size) (by rfl) ahE.out Tryz.underlying61 (by rfl) (by kernel_rfl) ?_
    go_wp2_with fail
    refine (Rh R vp vs ve m.src _ HK.out.r hm0 uS.out).mono ?_
    rintro e w9 ⟨rfl,xP⟩
    have HB2:=hid (aj abr.out xP abr.out.size)
    clear xP
    go_wp2_with fail
    go_ret
    exact ⟨by rw [HE.out]; rfl,HB2.out⟩
   ·have HE:Hid (markT R p l m=JU R m.src):=hid (by rw [HD2.out,if_neg (by rw [h2]; decide)])
    clear h2 HD2
    go_upto_region 15 with (fail)
    refine wp_region_lit ?_
    refine aB (by rfl) 61 (.tmp 4) (by rfl) (w.heap.size) (by rfl) ahE.out Tryz.underlying61 (by rfl) (by kernel_rfl) ?_
    go_wp2_with fail
    refine (rO R vp vs ve m.src _ HK.out.r hm0 uS.out).mono ?_
    rintro e w9 ⟨rfl,xP⟩
    have HB2:=hid (aj abr.out xP abr.out.size)
    clear xP
    go_wp2_with fail
    go_ret
    exact ⟨by rw [HE.out]; rfl,HB2.out⟩
theorem zQ (b:ByteArray):b++ByteArray.empty=b:=by simp
theorem Gv {R:au} {p:aV} (K:oK R p) (l:List aA) (m:aA) (h0:0≤m.src) (h1:m.src<R.width * R.height):(markT R p l m).size≤2:=by
 rw [← mD]
 rcases oI K.r p l m h0 h1 with ⟨-,e⟩ | ⟨-,e⟩ | ⟨-,e⟩ | e <;> rw [e] <;> simp
structure aer (R:au) (p:aV) (m:aA):Prop where
 f:Fits R p m
 c:0≤m.src→p.cells.getD m.src.toNat 0≠0
theorem aes (R:au) (vp vs ve:Value) (p:aV) (vc v0 v1:Value) (m:aA) (v:Value) (l:List aA) (w:World) (hr:iQ iD w vp R.pieces) (hp:iJ w vc p.cells) (hl:iQ jM w v l) (K:oK R p) (L:sF R) (hlf:∀ x∈l,x.src<p.cells.length) (hll:l.length≤1000000) (F:aer R p m) :
  Calls Tryz.prog 154 #[(.agg #[.string R.name,.int .i64 R.width,.int .i64 R.height,vp,vs,.bool R.falls,.bool R.keeps,ve,.int .i64 R.blocked,.int .i64 R.quiet,.int .i64 R.aZ]),(.agg #[vc,v0,v1,.int .i64 p.turn,.int .i64 p.quiet]),v,.agg #[.int .i64 m.src,.int .i64 m.dst,.int .i64 m.piece]] w fun e w'=>e=.returned (.string (lu R p l m))∧Below w.heap.size w w':=by
 have HR:=hid hr
 have Vj:=hid hp
 have HL:=hid hl
 have HK:=hid K
 have TD:=hid L
 have EO:=hid hlf
 obtain ⟨hd1,hd2⟩:=F.f.d
 obtain ⟨hk1,hk2⟩:=F.f.k
 obtain ⟨hs9,hs1⟩:=F.f.s
 have HFC:=hid F.c
 have HD2:Hid (m.dst<R.width * R.height):=hid (by have:=K.cl; omega)
 have z1:(JU R m.dst).size=2:=by rw [← mD,BI K.r hd1 HD2.out]; rfl
 have z2:(uy R m.piece).size=1:=by rw [← mD,uD L hk1 hk2]; rfl
 obtain ⟨ac,cc,rfl,hc1,hc2⟩:=hp.form
 obtain ⟨al,cl,rfl,hl1,hl2⟩:=hl.form
 obtain ⟨gc,oc,rfl,-⟩:=eu hp (by omega)
 have HP:=hid Vj.out
 unfold maxLen at hc2 hl2
 clear hr hp hl K L hlf F Vj
 go_enter Tryz.func154,Tryz.ntmps154
 go_upto_region 1 with (fail)
 refine Ih fun w0 B0 B1 B2 fG hs_=>?_
 have HB:=hid fG
 have hz0:w.heap.size+1+1<w0.heap.size:=by omega
 clear hs_ fG
 have HX:=hid B0
 have HY:=hid B1
 have HZ:=hid B2
 clear B0 B1 B2
 have m0:=HZ.out.cell 0 rfl
 by_cases hs0:0≤m.src
 rotate_left
 ·have HOF:Hid (lu R p l m=(uy R m.piece++⟨#[64]⟩)++JU R m.dst):=hid (by unfold lu; rw [if_pos (by omega)])
  have z3:(⟨#[64]⟩:ByteArray).size=1:=rfl
  have z4:(uy R m.piece++⟨#[64]⟩:ByteArray).size=2:=by rw [ByteArray.size_append,z2]; rfl
  go_upto_region 2 with (fail)
  have Bz:=HX.out.drew
  have Pz:=HY.out.drew
  have Mz:=HZ.out.drew
  have Lz:Below w.heap.size w w0.drew:=aP HB.out
  clear HX HY HZ HB m0 hs0 hs9 hz0
  refine wp_region_noPanic ?_
  refine bU (S:=(fun w'=>w'.cell? ⟨w.heap.size,0,none⟩=some (.string R.name)∧w'.cell? ⟨w.heap.size,1,none⟩=some (.int .i64 R.width)∧w'.cell? ⟨w.heap.size,2,none⟩=some (.int .i64 R.height)∧w'.cell? ⟨w.heap.size,3,none⟩=some vp∧w'.cell? ⟨w.heap.size,4,none⟩=some vs∧w'.cell? ⟨w.heap.size,5,none⟩=some (.bool R.falls)∧w'.cell? ⟨w.heap.size,6,none⟩=some (.bool R.keeps)∧w'.cell? ⟨w.heap.size,7,none⟩=some ve∧w'.cell? ⟨w.heap.size,8,none⟩=some (.int .i64 R.blocked)∧w'.cell? ⟨w.heap.size,9,none⟩=some (.int .i64 R.quiet)∧w'.cell? ⟨w.heap.size,10,none⟩=some (.int .i64 R.aZ)∧w'.cell? ⟨w.heap.size+1,0,none⟩=some (.slice (some ⟨gc,oc,none⟩) p.cells.length cc)∧w'.cell? ⟨w.heap.size+1,1,none⟩=some v0∧w'.cell? ⟨w.heap.size+1,2,none⟩=some v1∧w'.cell? ⟨w.heap.size+1,3,none⟩=some (.int .i64 p.turn)∧w'.cell? ⟨w.heap.size+1,4,none⟩=some (.int .i64 p.quiet)∧w'.cell? ⟨w.heap.size+2,0,none⟩=some (.int .i64 m.src)∧w'.cell? ⟨w.heap.size+2,1,none⟩=some (.int .i64 m.dst)∧w'.cell? ⟨w.heap.size+2,2,none⟩=some (.int .i64 m.piece))) (L:=[]) (by kernel_rfl) (by and_intros <;> first | exact Bz.cell _ rfl | exact Pz.cell _ rfl | exact Mz.cell _ rfl) (fun hHeld=>?_)
  refine eH 0 ?_
  refine aJ 1 ?_
  refine eH 5 ?_
  refine aJ 6 ?_
  refine eH 2 ?_
  refine eH 7 ?_
  refine gI 3 fun K hK=>?_
  go_simp
  refine (rP R vp vs ve m.piece _ (HR.out.below Lz (Nat.le_refl _)) HK.out.r TD.out hk1 hk2).mono ?_
  rintro e w3 ⟨rfl,hb3⟩
  have B3:=Bz.stays hb3
  have P3:=Pz.stays hb3
  have M3:=Mz.stays hb3
  have L3:=aj Lz hb3 Lz.size
  clear hb3
  refine hK.out _ _ (by and_intros <;> first | exact B3.cell _ rfl | exact P3.cell _ rfl | exact M3.cell _ rfl) (fun hHeld=>?_)
  clear hK K
  refine aJ 4 ?_
  refine gI 8 fun K hK=>?_
  go_simp
  refine (rO R vp vs ve m.dst _ HK.out.r hd1 HD2.out).mono ?_
  rintro e w8 ⟨rfl,hb8⟩
  have B8:=B3.stays hb8
  have P8:=P3.stays hb8
  have M8:=M3.stays hb8
  have L8:=aj L3 hb8 L3.size
  clear hb8
  refine hK.out _ _ (by and_intros <;> first | exact B8.cell _ rfl | exact P8.cell _ rfl | exact M8.cell _ rfl) (fun hHeld=>?_)
  clear hK K
  refine aJ 9 ?_
  refine aJ 10 ?_
  refine kW ?_
  have Px:=hid L8
  clear hHeld B3 P3 M3 L3 B8 P8 M8 L8 Bz Pz Mz Lz
  go_wp2_with fail
  go_ret
  exact ⟨by rw [HOF.out]; rfl,Px.out⟩
 have hkc:=HK.out.cell m.src.toNat
 have hkn:=HFC.out hs0
 have HKZ:Hid (fH p m=(p.cells.getD m.src.toNat 0 - 1) / 2):=hid rfl
 have aaT:0≤fH p m:=by rw [HKZ.out]; omega
 have ahG:fH p m<R.pieces.length:=by rw [HKZ.out]; omega
 have arI:fH p m≤100:=by have:=HK.out.r.np; omega
 have QB:Hid (Jh p m=if p.cells.getD m.dst.toNat 0≠0 then ⟨#[120]⟩ else ByteArray.empty):=hid rfl
 have HPR:Hid (PN R p m=if m.piece≠fH p m then ⟨#[61]⟩++uy R m.piece else ByteArray.empty):=hid rfl
 have HOF:Hid (lu R p l m=(((uy R (fH p m)++markT R p l m)++Jh p m)++JU R m.dst)++PN R p m):=hid (by unfold lu; rw [if_neg (by omega)])
 have z3:(uy R (fH p m)).size=1:=by rw [← mD,uD TD.out aaT ahG]; rfl
 have z4:(markT R p l m).size≤2:=Gv HK.out l m hs0 (by have:=HK.out.cl; omega)
 obtain ⟨c1,c2,e3,hcc⟩:=eu (HP.out.below HB.out (Nat.le_refl _)) (by omega)
 obtain ⟨rfl,rfl⟩:gc=c1∧oc=c2:=by simpa using e3
 have cs:=hcc m.src.toNat (by omega)
 have p0:=HY.out.cell 0 rfl
 have hkd:Int.tdiv (p.cells.getD m.src.toNat 0 - 1) 2=fH p m:=by rw [HKZ.out]; exact Int.tdiv_eq_ediv_of_nonneg (by omega)
 have hkw:IntKind.i64.wrap (p.cells.getD m.src.toNat 0 - 1)=p.cells.getD m.src.toNat 0 - 1:=IntWalk.i64_in _ (by have:=HK.out.r.np; omega)
 clear hcc e3
 generalize p.cells.getD m.src.toNat 0=cz at *
 generalize fH p m=KZ at *
 have hnl:(decide (m.src<0))=false:=by simp; omega
 go_upto_region 4 with (fail)
 have Bz:=HX.out.drew
 have Pz:=HY.out.drew
 have Mz:=HZ.out.drew
 have Lz:Below w.heap.size w w0.drew:=aP HB.out
 clear HX HY HZ HB m0 hs9 hz0 hkc hkn cs p0 hkd hkw hnl
 refine wp_region_noPanic ?_
 refine bU (S:=(fun w'=>w'.cell? ⟨w.heap.size,0,none⟩=some (.string R.name)∧w'.cell? ⟨w.heap.size,1,none⟩=some (.int .i64 R.width)∧w'.cell? ⟨w.heap.size,2,none⟩=some (.int .i64 R.height)∧w'.cell? ⟨w.heap.size,3,none⟩=some vp∧w'.cell? ⟨w.heap.size,4,none⟩=some vs∧w'.cell? ⟨w.heap.size,5,none⟩=some (.bool R.falls)∧w'.cell? ⟨w.heap.size,6,none⟩=some (.bool R.keeps)∧w'.cell? ⟨w.heap.size,7,none⟩=some ve∧w'.cell? ⟨w.heap.size,8,none⟩=some (.int .i64 R.blocked)∧w'.cell? ⟨w.heap.size,9,none⟩=some (.int .i64 R.quiet)∧w'.cell? ⟨w.heap.size,10,none⟩=some (.int .i64 R.aZ)∧w'.cell? ⟨w.heap.size+1,0,none⟩=some (.slice (some ⟨gc,oc,none⟩) p.cells.length cc)∧w'.cell? ⟨w.heap.size+1,1,none⟩=some v0∧w'.cell? ⟨w.heap.size+1,2,none⟩=some v1∧w'.cell? ⟨w.heap.size+1,3,none⟩=some (.int .i64 p.turn)∧w'.cell? ⟨w.heap.size+1,4,none⟩=some (.int .i64 p.quiet)∧w'.cell? ⟨w.heap.size+2,0,none⟩=some (.int .i64 m.src)∧w'.cell? ⟨w.heap.size+2,1,none⟩=some (.int .i64 m.dst)∧w'.cell? ⟨w.heap.size+2,2,none⟩=some (.int .i64 m.piece))) (L:=[]) (by kernel_rfl) (by and_intros <;> first | exact Bz.cell _ rfl | exact Pz.cell _ rfl | exact Mz.cell _ rfl) (fun hHeld=>?_)
 refine eH 0 ?_
 refine aJ 1 ?_
 refine eH 3 ?_
 refine eH 4 ?_
 refine aJ 5 ?_
 refine eH 6 ?_
 refine gI 2 fun K hK=>?_
 go_simp
 refine (rP R vp vs ve KZ _ (HR.out.below Lz (Nat.le_refl _)) HK.out.r TD.out aaT ahG).mono ?_
 rintro e w2 ⟨rfl,hb2⟩
 have B2:=Bz.stays hb2
 have P2:=Pz.stays hb2
 have M2:=Mz.stays hb2
 have L2:=aj Lz hb2 Lz.size
 clear hb2
 refine hK.out _ _ (by and_intros <;> first | exact B2.cell _ rfl | exact P2.cell _ rfl | exact M2.cell _ rfl) (fun hHeld=>?_)
 clear hK K
 refine gI 7 fun K hK=>?_
 go_simp
 refine (Yl R vp vs ve p _ v0 v1 m _ l _ (HP.out.below L2 (Nat.le_refl _)) (HL.out.below L2 (Nat.le_refl _)) HK.out EO.out hll ⟨hs0,hs1⟩).mono ?_
 rintro e w7 ⟨rfl,hb7⟩
 have B7:=B2.stays hb7
 have P7:=P2.stays hb7
 have M7:=M2.stays hb7
 have L7:=aj L2 hb7 L2.size
 clear hb7
 refine hK.out _ _ (by and_intros <;> first | exact B7.cell _ rfl | exact P7.cell _ rfl | exact M7.cell _ rfl) (fun hHeld=>?_)
 clear hK K
 refine aJ 8 ?_
 refine aJ 9 ?_
 refine kW ?_
 have Px:=hid L7
 have Um:=hid B7
 have HPe:=hid P7
 have ZO:=hid M7
 clear hHeld B2 P2 M2 L2 B7 P7 M7 L7 Bz Pz Mz Lz
 generalize uy R KZ=A at *
 generalize markT R p l m=M at *
 obtain ⟨c1,c2,e3,hcc⟩:=eu (HP.out.below Px.out (Nat.le_refl _)) (by omega)
 obtain ⟨rfl,rfl⟩:gc=c1∧oc=c2:=by simpa using e3
 have cd:=hcc m.dst.toNat (by omega)
 have p0:=HPe.out.cell 0 rfl
 have m1:=ZO.out.cell 1 rfl
 have m2:=ZO.out.cell 2 rfl
 clear hcc e3
 generalize p.cells.getD m.dst.toNat 0=dd at *
 by_cases hdd:dd=0
 ·have hdb:(dd != 0)=false:=by simpa using hdd
  have HT0:Hid (Jh p m=ByteArray.empty):=hid (by rw [QB.out,if_neg (by simp [hdd])])
  clear hdd QB
  obtain ⟨X,hX⟩:∃ X,X=A++M:=⟨_,rfl⟩
  have HXe:Hid (A++M++Jh p m=X):=hid (by rw [HT0.out,hX]; exact zQ _)
  have hXs:X.size≤100:=by rw [hX,ByteArray.size_append]; omega
  rw [← hX]
  clear hX HT0
  go_wp2_with (refine aB (by rfl) 61 (.tmp 4) (by rfl) (w.heap.size) (by rfl) Um.out Tryz.underlying61 (by rfl) (by kernel_rfl) ?_)
  refine (rO R vp vs ve m.dst _ HK.out.r hd1 HD2.out).mono ?_
  rintro e wa ⟨rfl,hba⟩
  have Vy:=hid (Um.out.stays hba)
  have HMa:=hid (ZO.out.stays hba)
  have Po:=hid (aj Px.out hba Px.out.size)
  have Jm:Hid (lu R p l m=X++JU R m.dst++PN R p m):=hid (by rw [HOF.out,HXe.out])
  clear hba Um HPe ZO Px p0 m1 m2 cd HXe HOF
  have m2:=HMa.out.cell 2 rfl
  generalize JU R m.dst=Q at *
  have hY:(X++Q).size≤200:=by rw [ByteArray.size_append]; omega
  by_cases hpk:m.piece=KZ
  ·have hpb:(m.piece != KZ)=false:=by simpa using hpk
   have HE:Hid (lu R p l m=X++Q):=hid (by rw [Jm.out,HPR.out,if_neg (by simpa using hpk)]; exact zQ _)
   clear hpk Jm
   go_wp2_with fail
   go_ret
   exact ⟨by rw [HE.out]; rfl,Po.out⟩
  ·have hpb:(m.piece != KZ)=true:=by simpa using hpk
   have HE:Hid (lu R p l m=X++Q++(⟨#[61]⟩++uy R m.piece)):=hid (by rw [Jm.out,HPR.out,if_pos hpk])
   clear hpk Jm
   go_wp2_with (refine aB (by rfl) 61 (.tmp 4) (by rfl) (w.heap.size) (by rfl) Vy.out Tryz.underlying61 (by rfl) (by kernel_rfl) ?_)
   refine (rP R vp vs ve m.piece _ (HR.out.below Po.out (Nat.le_refl _)) HK.out.r TD.out hk1 hk2).mono ?_
   rintro e wb ⟨rfl,hbb⟩
   have HLb:=hid (aj Po.out hbb Po.out.size)
   clear hbb Vy HMa Po m2
   generalize uy R m.piece=G at *
   have hG:(⟨#[61]⟩++G:ByteArray).size≤20:=by rw [ByteArray.size_append]; have:(⟨#[61]⟩:ByteArray).size=1:=rfl; omega
   have hG1:(⟨#[61]⟩:ByteArray).size=1:=rfl
   go_wp2_with fail
   go_ret
   exact ⟨by rw [HE.out]; rfl,HLb.out⟩
 ·have hdb:(dd != 0)=true:=by simpa using hdd
  have HT0:Hid (Jh p m=⟨#[120]⟩):=hid (by rw [QB.out,if_pos (by simpa using hdd)])
  have hAM:(A++M).size≤50:=by rw [ByteArray.size_append]; omega
  have hx1:(⟨#[120]⟩:ByteArray).size=1:=rfl
  clear hdd QB
  obtain ⟨X,hX⟩:∃ X,X=A++M++⟨#[120]⟩:=⟨_,rfl⟩
  have HXe:Hid (A++M++Jh p m=X):=hid (by rw [HT0.out,hX])
  have hXs:X.size≤100:=by rw [hX,ByteArray.size_append]; omega
  clear HT0
  go_upto_region 7 with (fail)
  rw [← hX]
  clear hX hAM
  go_wp2_with (refine aB (by rfl) 61 (.tmp 4) (by rfl) (w.heap.size) (by rfl) Um.out Tryz.underlying61 (by rfl) (by kernel_rfl) ?_)
  refine (rO R vp vs ve m.dst _ HK.out.r hd1 HD2.out).mono ?_
  rintro e wa ⟨rfl,hba⟩
  have Vy:=hid (Um.out.stays hba)
  have HMa:=hid (ZO.out.stays hba)
  have Po:=hid (aj Px.out hba Px.out.size)
  have Jm:Hid (lu R p l m=X++JU R m.dst++PN R p m):=hid (by rw [HOF.out,HXe.out])
  clear hba Um HPe ZO Px p0 m1 m2 cd HXe HOF
  have m2:=HMa.out.cell 2 rfl
  generalize JU R m.dst=Q at *
  have hY:(X++Q).size≤200:=by rw [ByteArray.size_append]; omega
  by_cases hpk:m.piece=KZ
  ·have hpb:(m.piece != KZ)=false:=by simpa using hpk
   have HE:Hid (lu R p l m=X++Q):=hid (by rw [Jm.out,HPR.out,if_neg (by simpa using hpk)]; exact zQ _)
   clear hpk Jm
   go_wp2_with fail
   go_ret
   exact ⟨by rw [HE.out]; rfl,Po.out⟩
  ·have hpb:(m.piece != KZ)=true:=by simpa using hpk
   have HE:Hid (lu R p l m=X++Q++(⟨#[61]⟩++uy R m.piece)):=hid (by rw [Jm.out,HPR.out,if_pos hpk])
   clear hpk Jm
   go_wp2_with (refine aB (by rfl) 61 (.tmp 4) (by rfl) (w.heap.size) (by rfl) Vy.out Tryz.underlying61 (by rfl) (by kernel_rfl) ?_)
   refine (rP R vp vs ve m.piece _ (HR.out.below Po.out (Nat.le_refl _)) HK.out.r TD.out hk1 hk2).mono ?_
   rintro e wb ⟨rfl,hbb⟩
   have HLb:=hid (aj Po.out hbb Po.out.size)
   clear hbb Vy HMa Po m2
   generalize uy R m.piece=G at *
   have hG:(⟨#[61]⟩++G:ByteArray).size≤20:=by rw [ByteArray.size_append]; have:(⟨#[61]⟩:ByteArray).size=1:=rfl; omega
   have hG1:(⟨#[61]⟩:ByteArray).size=1:=rfl
   go_wp2_with fail
   go_ret
   exact ⟨by rw [HE.out]; rfl,HLb.out⟩
end Go.Proofs.YteablcielclaeaaGreatDoor

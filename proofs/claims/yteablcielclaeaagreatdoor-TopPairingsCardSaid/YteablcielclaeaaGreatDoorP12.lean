/- End2, End3, Same, MvI. -/
import Derived.Test.YteablcielclaeaaGreatDoorP11
namespace Go.Proofs.YteablcielclaeaaGreatDoor
open Go.ChangeShapes Go.WideShapes Go.ChangeAt Go.RowKit
set_option linter.unusedVariables false
open Go.Lib (hid)
def jL (R:aA) (p:bf) (x:zD) (mover:Int):Bool:=
 if x.kind=0 then qp R p mover x.count.toNat
 else if x.kind=1 then (List.range p.cells.length).any fun s=>p.cells.getD s 0 == 2 * x.piece+mover+1 && nZ R mover s
 else decide (((p.cells.countP (· == 2 * x.piece+1 - mover+1):Nat):Int)<x.count)
theorem endOk {np:Nat} {x:zD} (h:nT np x=0):(x.kind=0∧1≤x.count∧x.count≤64)∨(x.kind=1∧0≤x.piece∧x.piece≤(np:Int) - 1)∨(x.kind=2∧1≤x.count∧x.count≤64∧0≤x.piece∧x.piece≤(np:Int) - 1):=by
 unfold nT at h
 by_cases k0:(x.kind == 0)=true
 ·rw [if_pos k0] at h
  by_cases e:(wb x.count 1 64 && x.piece == 0)=true
  ·simp only [Bool.and_eq_true,nS] at e
   exact .inl ⟨by simpa using k0,e.1⟩
  ·rw [if_neg e] at h; cases h
 rw [if_neg k0] at h
 by_cases k1:(x.kind == 1)=true
 ·rw [if_pos k1] at h
  by_cases e:(x.count == 0 && wb x.piece 0 ((np:Int) - 1))=true
  ·simp only [Bool.and_eq_true,nS] at e
   exact .inr (.inl ⟨by simpa using k1,e.2⟩)
  ·rw [if_neg e] at h; cases h
 rw [if_neg k1] at h
 by_cases k2:(x.kind == 2)=true
 ·rw [if_pos k2] at h
  by_cases e:(wb x.count 1 64 && wb x.piece 0 ((np:Int) - 1))=true
  ·simp only [Bool.and_eq_true,nS] at e
   exact .inr (.inr ⟨by simpa using k2,e.1.1,e.1.2,e.2⟩)
  ·rw [if_neg e] at h; cases h
 rw [if_neg k2] at h; cases h
theorem Xu {n:Nat} {f:Nat→Bool} (h:∀ s,s<n→f s=false):(List.range n).any f=false:=by
 rw [List.any_eq_false]
 intro s hs
 rw [h s (by simpa using hs)]; simp
theorem TQ {n s:Nat} {f:Nat→Bool} (hs:s<n) (h:f s=true):(List.range n).any f=true:=by
 rw [List.any_eq_true]
 exact ⟨s,by simpa using hs,h⟩
theorem La (f:Int→Bool) (l:List Int) (k:Nat) (h:k<l.length):(l.take (k+1)).countP f=(l.take k).countP f+if f (l.getD k 0)=true then 1 else 0:=by
 rw [List.take_succ_eq_append_getElem h,List.countP_append,List.getD_eq_getElem?_getD,List.getElem?_eq_getElem h]
 simp [List.countP_cons]
set_option maxRecDepth 100000 in
set_option maxHeartbeats 4000000 in
theorem TR (R:aA) (vp vs ve:Value) (p:bf) (vc v0 v1:Value) (x:zD) (mv:Int) (w:World) (hp:fQ w vc p.cells) (K:qg R p) (hx:nT R.pieces.length x=0) (hm:mv=0∨mv=1) :
  Calls Tryz.prog 166 #[(.agg #[.string R.name,.int .i64 R.width,.int .i64 R.height,vp,vs,.bool R.falls,.bool R.keeps,ve,.int .i64 R.blocked,.int .i64 R.quiet,.int .i64 R.bC]),(.agg #[vc,v0,v1,.int .i64 p.turn,.int .i64 p.quiet]),.agg #[.int .i64 x.kind,.int .i64 x.piece,.int .i64 x.count,.bool x.loses],.int .i64 mv] w fun e w'=>e=.returned (.bool (jL R p x mv))∧Below w.heap.size w w':=by
 have HC:=hid hp
 obtain ⟨ac,cc,rfl,hc1,hc2⟩:=hp.form
 unfold maxLen at hc2
 have hlen:=K.len
 have hnp:=K.r.np.2
 have HD:Hid (jL R p x mv=if x.kind=0 then qp R p mv x.count.toNat else if x.kind=1 then (List.range p.cells.length).any fun s=>p.cells.getD s 0 == 2 * x.piece+mv+1 && nZ R mv s else decide (((p.cells.countP (· == 2 * x.piece+1 - mv+1):Nat):Int)<x.count)):=hid rfl
 obtain ⟨hm0,hm1⟩:0≤mv∧mv≤1:=by omega
 clear hp hm
 go_enter Tryz.func166,Tryz.ntmps166
 go_upto_region 1 with (fail)
 refine KE fun w0 B0 B1 B2 fJ hs_=>?_
 have HB:=hid fJ
 have hz0:w.heap.size+1+1<w0.heap.size:=by omega
 clear hs_ fJ
 have JR:=hid (HC.out.below HB.out (Nat.le_refl _))
 have dL:=hid B0
 have jv:=hid B1
 have JV:=hid B2
 have jg:Hid (Below w0.heap.size w0 w0):=hid (Below.refl _ _)
 have x0:=B2.cell 0 rfl
 have x1:=B2.cell 1 rfl
 have x2:=B2.cell 2 rfl
 clear B0 B1 B2
 rcases endOk hx with ⟨hk,hn1,hn2⟩ | ⟨hk,hp1,hp2⟩ | ⟨hk,hn1,hn2,hp1,hp2⟩
 ·obtain ⟨cnt,hcnt⟩:∃ cnt:Nat,x.count=(cnt:Int):=⟨x.count.toNat,by omega⟩
  have HE:Hid (jL R p x mv=qp R p mv cnt):=hid (by rw [HD.out,if_pos hk,hcnt]; rfl)
  have hcn:cnt≤64:=by omega
  rw [hk] at x0
  rw [hcnt] at x2
  clear HD hk hcnt hn1 hn2
  have q0:=(dL.out.below jg.out (by omega)).cell 0 rfl
  have q1:=(dL.out.below jg.out (by omega)).cell 1 rfl
  have q2:=(dL.out.below jg.out (by omega)).cell 2 rfl
  have q3:=(dL.out.below jg.out (by omega)).cell 3 rfl
  have q4:=(dL.out.below jg.out (by omega)).cell 4 rfl
  have q5:=(dL.out.below jg.out (by omega)).cell 5 rfl
  have q6:=(dL.out.below jg.out (by omega)).cell 6 rfl
  have q7:=(dL.out.below jg.out (by omega)).cell 7 rfl
  have q8:=(dL.out.below jg.out (by omega)).cell 8 rfl
  have q9:=(dL.out.below jg.out (by omega)).cell 9 rfl
  have q10:=(dL.out.below jg.out (by omega)).cell 10 rfl
  have e0:=(jv.out.below jg.out (by omega)).cell 0 rfl
  have e1:=(jv.out.below jg.out (by omega)).cell 1 rfl
  have e2:=(jv.out.below jg.out (by omega)).cell 2 rfl
  have e3:=(jv.out.below jg.out (by omega)).cell 3 rfl
  have e4:=(jv.out.below jg.out (by omega)).cell 4 rfl
  go_wp2_with fail
  refine (Xt R vp vs ve p _ v0 v1 mv cnt w0 JR.out K hcn).mono ?_
  rintro e w1 ⟨rfl,hb1⟩
  have HB1:=hid (ak HB.out hb1 HB.out.size)
  clear hb1
  go_wp2_with fail
  go_ret
  exact ⟨by rw [HE.out]; rfl,HB1.out⟩
 ·have HE:Hid (jL R p x mv=(List.range p.cells.length).any fun s=>p.cells.getD s 0 == 2 * x.piece+mv+1 && nZ R mv s):=hid (by rw [HD.out,if_neg (by omega),if_pos hk])
  rw [hk] at x0
  have e0:=jv.out.cell 0 rfl
  clear HD hk
  go_wp2_with fail
  clear e0
  go_loopw [29] (fun i wr=>∃ k:Nat,k≤p.cells.length∧i=.int .i64 k∧Hid (∀ s,s<k→(p.cells.getD s 0 == 2 * x.piece+mv+1 && nZ R mv s)=false)∧Hid (Below w0.heap.size w0 wr)) (fun i _=>p.cells.length - (intOf i).toNat)
  case atStart=>exact ⟨0,Nat.zero_le _,rfl,hid (fun s hs=>absurd hs (Nat.not_lt_zero _)),jg⟩
  case round =>
   obtain ⟨k,hk,rfl,HN,bn⟩:=hrel
   have hsz:=bn.out.size
   by_cases hlt:k<p.cells.length
   ·obtain ⟨gc,oc,ec,hcc⟩:=eP (JR.out.below bn.out (Nat.le_refl _)) (by omega)
    subst ec
    have hck:=hcc k hlt
    have z1:=(JV.out.below bn.out (by omega)).cell 1 rfl
    have HKD:Hid (∀ b:Bool,(p.cells.getD k 0 == 2 * x.piece+mv+1 && nZ R mv k)=b→b=false→∀ s,s<k+1→(p.cells.getD s 0 == 2 * x.piece+mv+1 && nZ R mv s)=false):=hid (fun b hb hbf s hs=>by
     by_cases e:s=k
     ·subst e; rw [hb,hbf]
     ·exact HN.out s (by omega))
    have abm:Hid ((p.cells.getD k 0 == 2 * x.piece+mv+1 && nZ R mv k)=true→jL R p x mv=true):=hid (fun h=>by rw [HE.out]; exact TQ hlt h)
    clear hcc
    have q0:=(dL.out.below bn.out (by omega)).cell 0 rfl
    have q1:=(dL.out.below bn.out (by omega)).cell 1 rfl
    have q2:=(dL.out.below bn.out (by omega)).cell 2 rfl
    have q3:=(dL.out.below bn.out (by omega)).cell 3 rfl
    have q4:=(dL.out.below bn.out (by omega)).cell 4 rfl
    have q5:=(dL.out.below bn.out (by omega)).cell 5 rfl
    have q6:=(dL.out.below bn.out (by omega)).cell 6 rfl
    have q7:=(dL.out.below bn.out (by omega)).cell 7 rfl
    have q8:=(dL.out.below bn.out (by omega)).cell 8 rfl
    have q9:=(dL.out.below bn.out (by omega)).cell 9 rfl
    have q10:=(dL.out.below bn.out (by omega)).cell 10 rfl
    have e0:=(jv.out.below bn.out (by omega)).cell 0 rfl
    have e1:=(jv.out.below bn.out (by omega)).cell 1 rfl
    have e2:=(jv.out.below bn.out (by omega)).cell 2 rfl
    have e3:=(jv.out.below bn.out (by omega)).cell 3 rfl
    have e4:=(jv.out.below bn.out (by omega)).cell 4 rfl
    generalize p.cells.getD k 0=c at *
    by_cases hcq:c=2 * x.piece+mv+1
    ·subst hcq
     go_wp2_with fail
     refine (C9 R vp vs ve mv k _ K.r (by omega) (by omega)).mono ?_
     rintro e w5 ⟨rfl,hb5⟩
     have EY:=hid (ak bn.out hb5 bn.out.size)
     clear hb5 z1 hck
     clear q0 q1 q2 q3 q4 q5 q6 q7 q8 q9 q10 e0 e1 e2 e3 e4
     cases hl:nZ R mv k
     ·have Lc:=hid (HKD.out false (by rw [hl]; simp) rfl)
      clear hl HKD abm
      go_wp2_with fail
      go_roundw
      case rel=>exact ⟨k+1,by omega,by go_num,Lc,EY⟩
      case measure=>simp [intOf]; omega
     ·have HT:=hid (abm.out (by rw [hl]; simp))
      clear hl HKD abm
      go_wp2_with fail
      go_ret
      exact ⟨by rw [HT.out]; rfl,ak HB.out EY.out HB.out.size⟩
    ·have aeD:(c == 2 * x.piece+mv+1)=false:=by simpa using hcq
     have Lc:=hid (HKD.out false (by rw [aeD]; simp) rfl)
     clear hcq HKD abm
     go_wp2_with fail
     go_roundw
     case rel=>exact ⟨k+1,by omega,by go_num,Lc,bn⟩
     case measure=>simp [intOf]; omega
   ·have HF:Hid (jL R p x mv=false):=hid (by rw [HE.out]; exact Xu (fun s hs=>HN.out s (by omega)))
    go_wp2_with fail
    go_ret
    exact ⟨by rw [HF.out]; rfl,ak HB.out bn.out HB.out.size⟩
 ·have HE:Hid (jL R p x mv=decide (((p.cells.countP (· == 2 * x.piece+1 - mv+1):Nat):Int)<x.count)):=hid (by rw [HD.out,if_neg (by omega),if_neg (by omega)])
  rw [hk] at x0
  have e0:=jv.out.cell 0 rfl
  clear HD hk
  go_wp2_with fail
  clear e0
  go_loop [11,52] (fun n i=>∃ k:Nat,k≤p.cells.length∧i=.int .i64 k∧n=.int .i64 ((p.cells.take k).countP (· == 2 * x.piece+1 - mv+1):Nat)) (fun _ i=>p.cells.length - (intOf i).toNat)
  case atStart=>exact ⟨0,Nat.zero_le _,rfl,by simp⟩
  case round =>
   obtain ⟨k,hk,rfl,rfl⟩:=hrel
   by_cases hlt:k<p.cells.length
   ·obtain ⟨gc,oc,ec,hcc⟩:=eP JR.out (by omega)
    subst ec
    have hck:=hcc k hlt
    have Rq:=hid (La (· == 2 * x.piece+1 - mv+1) p.cells k hlt)
    have hcl:(p.cells.take k).countP (· == 2 * x.piece+1 - mv+1)≤k:=Nat.le_trans List.countP_le_length (by rw [List.length_take]; omega)
    clear hcc
    generalize (p.cells.take k).countP (· == 2 * x.piece+1 - mv+1)=q at *
    generalize p.cells.getD k 0=c at *
    by_cases hcq:c=2 * x.piece+1 - mv+1
    ·subst hcq
     have HQ:Hid ((p.cells.take (k+1)).countP (· == 2 * x.piece+1 - mv+1)=q+1):=hid (by rw [Rq.out,if_pos (by simp)])
     clear Rq
     go_wp2_with fail
     go_round
     case rel=>exact ⟨k+1,by omega,by go_num,by rw [HQ.out]; go_num⟩
     case measure=>simp [intOf]; omega
    ·have aeD:(c == 2 * x.piece+1 - mv+1)=false:=by simpa using hcq
     have HQ:Hid ((p.cells.take (k+1)).countP (· == 2 * x.piece+1 - mv+1)=q):=hid (by rw [Rq.out,if_neg (by simp [aeD])]; rfl)
     clear hcq Rq
     go_wp2_with fail
     go_round
     case rel=>exact ⟨k+1,by omega,by go_num,by rw [HQ.out]⟩
     case measure=>simp [intOf]; omega
   ·obtain rfl:k=p.cells.length:=by omega
    have HTL:Hid ((p.cells.take p.cells.length).countP (· == 2 * x.piece+1 - mv+1)=p.cells.countP (· == 2 * x.piece+1 - mv+1)):=hid (by rw [List.take_of_length_le (Nat.le_refl _)])
    rw [HTL.out]
    go_wp2_with fail
    go_ret
    exact ⟨by rw [HE.out]; rfl,HB.out⟩
end Go.Proofs.YteablcielclaeaaGreatDoor
namespace Go.Proofs.YteablcielclaeaaGreatDoor
open Go.ChangeShapes Go.WideShapes Go.ChangeAt Go.RowKit
set_option linter.unusedVariables false
set_option maxHeartbeats 4000000
set_option maxRecDepth 100000
open Go.Lib (hid)
theorem Iy (v:Value) (xs:List zD) (p:zD→Bool) (f:FuncId) (caps:Array Value) (w:World) (h:iC oN w v xs) (hf:∀ (args:Array Value) (w:World),(callFunc f args).run Tryz.prog w=.ok (.enter f args) w)
  (hc:∀ (W:World) (x:zD) (cs:List Value),x∈xs→oN.E W x cs→Below w.heap.size w W→Calls Tryz.prog f (#[.agg cs.toArray]++caps) W fun e w'=>e=.returned (.bool (p x))∧Below W.heap.size W w') :
  Calls Tryz.prog 164 #[v,.func (.func f) #[] caps] w fun e w'=>e=.returned (.int .i64 (jE p xs 0))∧Below w.heap.size w w':=by
 obtain ⟨a,c,rfl,h1,h2⟩:=h.form
 unfold maxLen at h2
 have HR:=hid h
 have HC:=hid hc
 clear h hc
 go_enter Tryz.func164,Tryz.ntmps164
 go_wp2_with fail
 go_loopw [8] (fun i wr=>∃ k:Nat,k≤xs.length∧i=.int .i64 k∧Hid (jE p xs 0=jE p (xs.drop k) k)∧Below w.heap.size w wr) (fun i _=>xs.length - (intOf i).toNat)
 case atStart=>exact ⟨0,Nat.zero_le _,rfl,hid rfl,Below.refl _ _⟩
 case round =>
  obtain ⟨k,hk,rfl,HK,hbl⟩:=hrel
  by_cases hlt:k<xs.length
  ·obtain ⟨g,o,rfl,hg,hcc⟩:=(HR.out.below hbl (Nat.le_refl _)).some (by omega)
   obtain ⟨cs,hE,hcell⟩:=hcc k hlt
   have hcl:=oN.len hE
   simp only [oN] at hcl
   obtain ⟨c0,c1,c2,c3,rfl⟩:∃ c0 c1 c2 c3,cs=[c0,c1,c2,c3]:=by
    match cs,hcl with
    | [c0,c1,c2,c3],_=>exact ⟨_,_,_,_,rfl⟩
   have q0:=hcell 0 (by decide)
   have q1:=hcell 1 (by decide)
   have q2:=hcell 2 (by decide)
   have q3:=hcell 3 (by decide)
   simp only [oN,List.getElem?_cons_zero,List.getElem?_cons_succ,Nat.add_zero] at q0 q1 q2 q3
   have HS:=hid (zF p xs k hlt)
   have JQ:=hid (HC.out wr xs[k] [c0,c1,c2,c3] (List.getElem_mem hlt) hE hbl)
   have HB:=hid hbl
   clear hcell hcc hE hcl hbl
   generalize xs[k]=x at *
   go_wp2_with fail
   refine JQ.out.mono ?_
   rintro e w1 ⟨rfl,hb1⟩
   have HB1:=hid (ak HB.out hb1 HB.out.size)
   clear hb1
   cases hpx:p x
   ·go_wp2_with fail
    go_roundw
    case rel=>exact ⟨k+1,by omega,by go_num,hid (by rw [HK.out,HS.out,if_neg (by simp [hpx])]),HB1.out⟩
    case measure=>simp [intOf]; omega
   ·go_wp2_with fail
    go_ret
    exact ⟨by rw [HK.out,HS.out,if_pos hpx]; rfl,HB1.out⟩
  ·obtain rfl:k=xs.length:=by omega
   go_wp2_with fail
   go_ret
   exact ⟨by rw [HK.out]; simp [jE],hbl⟩
def dN (R:aA) (p:bf):Int:=
 if 0≤jE (fun x=>jL R p x (1 - p.turn)) R.ends 0 then
  (if (R.ends.getD (jE (fun x=>jL R p x (1 - p.turn)) R.ends 0).toNat default).loses=true then 1+p.turn else 1+(1 - p.turn))
 else if R.quiet≠0∧R.quiet≤p.quiet then 3
 else if 0<(dZ R p).length then 0
 else if R.blocked=0 then 1+(1 - p.turn)
 else if R.blocked=1 then 1+p.turn else 3
theorem Dn {α:Type} (f:α→Bool):∀ (l:List α) (k:Int),0≤k→jE f l k = -1∨(k≤jE f l k∧jE f l k<k+l.length)
 | [],k,_=>.inl rfl
 | x :: t,k,hk=>by
  unfold jE
  cases h:f x
  ·have ih:=Dn f t (k+1) (by omega)
   simp only [Bool.false_eq_true,if_false,List.length_cons]
   omega
  ·simp only [if_true,List.length_cons]
   omega
theorem qw (n:Int) (w:World) (h1:0≤n) (h2:n≤1):Calls Tryz.prog 167 #[.int .i64 n] w fun e w'=>e=.returned (.int .i64 (1+n))∧w=w':=by
 go_enter Tryz.func167,Tryz.ntmps167
 go_wp2
 go_ret
 exact ⟨rfl,rfl⟩
theorem Xv (R:aA) (vp vs ve:Value) (p:bf) (ac:Option Addr) (cc:Nat) (v0 v1:Value) (x:zD) (mv:Int) (b0 b1 b2:Nat) (w:World) (B0:Box w b0 [.string R.name,.int .i64 R.width,.int .i64 R.height,vp,vs,.bool R.falls,.bool R.keeps,ve,.int .i64 R.blocked,.int .i64 R.quiet,.int .i64 R.bC] 61) (B1:Box w b1 [.slice ac p.cells.length cc,v0,v1,.int .i64 p.turn,.int .i64 p.quiet] 158) (B2:Box w b2 [.int .i64 mv] 3)
  (hp:fQ w (.slice ac p.cells.length cc) p.cells) (K:qg R p) (hx:nT R.pieces.length x=0) (hm:mv=0∨mv=1) :
  Calls Tryz.prog 165 (#[.agg #[.int .i64 x.kind,.int .i64 x.piece,.int .i64 x.count,.bool x.loses]] ++ #[.pointer (some ⟨b0,0,none⟩),.pointer (some ⟨b1,0,none⟩),.pointer (some ⟨b2,0,none⟩)]) w fun e w'=>e=.returned (.bool (jL R p x mv))∧Below w.heap.size w w':=by
 show Calls Tryz.prog 165 #[.agg #[.int .i64 x.kind,.int .i64 x.piece,.int .i64 x.count,.bool x.loses],.pointer (some ⟨b0,0,none⟩),.pointer (some ⟨b1,0,none⟩),.pointer (some ⟨b2,0,none⟩)] w _
 have HHO:=fun (w':World) (h:Below w.heap.size w w')=>hid (TR R vp vs ve p _ v0 v1 x mv w' (hp.below h (Nat.le_refl _)) K hx hm)
 have HHh:=hid HHO
 have HX:=hid B0
 have HY:=hid B1
 have HZ:=hid B2
 clear B0 B1 B2 hp HHO
 go_enter Tryz.func165,Tryz.ntmps165
 go_upto_region 1 with (fail)
 refine lX fun w0 hb0 fJ hs_=>?_
 have HB:=hid fJ
 clear hs_ fJ
 have q0:=(HX.out.stays HB.out).cell 0 rfl
 have q1:=(HX.out.stays HB.out).cell 1 rfl
 have q2:=(HX.out.stays HB.out).cell 2 rfl
 have q3:=(HX.out.stays HB.out).cell 3 rfl
 have q4:=(HX.out.stays HB.out).cell 4 rfl
 have q5:=(HX.out.stays HB.out).cell 5 rfl
 have q6:=(HX.out.stays HB.out).cell 6 rfl
 have q7:=(HX.out.stays HB.out).cell 7 rfl
 have q8:=(HX.out.stays HB.out).cell 8 rfl
 have q9:=(HX.out.stays HB.out).cell 9 rfl
 have q10:=(HX.out.stays HB.out).cell 10 rfl
 have e0:=(HY.out.stays HB.out).cell 0 rfl
 have e1:=(HY.out.stays HB.out).cell 1 rfl
 have e2:=(HY.out.stays HB.out).cell 2 rfl
 have e3:=(HY.out.stays HB.out).cell 3 rfl
 have e4:=(HY.out.stays HB.out).cell 4 rfl
 have z0:=(HZ.out.stays HB.out).cell 0 rfl
 have x0:=hb0.cell 0 rfl
 have x1:=hb0.cell 1 rfl
 have x2:=hb0.cell 2 rfl
 have x3:=hb0.cell 3 rfl
 clear hb0
 go_wp2_with fail
 refine (HHh.out w0 HB.out).out.mono ?_
 rintro e w1 ⟨rfl,hb1⟩
 have HB1:=hid (ak HB.out hb1 HB.out.size)
 clear hb1
 clear q0 q1 q2 q3 q4 q5 q6 q7 q8 q9 q10 e0 e1 e2 e3 e4 z0 x0 x1 x2 x3
 go_wp2_with fail
 go_ret
 exact ⟨rfl,HB1.out⟩
theorem Xw (args:Array Value) (w:World):(callFunc 165 args).run Tryz.prog w=.ok (.enter 165 args) w:=by kernel_rfl
theorem Dp (HS:SortMvSaid) (R:aA) (vp vs ve:Value) (p:bf) (vc v0 v1:Value) (w:World) (hr:pV w R vp vs ve) (hp:sH w p vc v0 v1) (K:qg R p) :
  Calls Tryz.prog 121 #[(.agg #[.string R.name,.int .i64 R.width,.int .i64 R.height,vp,vs,.bool R.falls,.bool R.keeps,ve,.int .i64 R.blocked,.int .i64 R.quiet,.int .i64 R.bC]),(.agg #[vc,v0,v1,.int .i64 p.turn,.int .i64 p.quiet])] w fun e w'=>e=.returned (.int .i64 (dN R p))∧Below w.heap.size w w':=by
 have HR:=hid hr
 have HP:=hid hp
 have qo:=hid HS
 obtain ⟨ac,cc,rfl,hc1,hc2⟩:=hp.1.form
 obtain ⟨ae,ce,rfl,he1,he2⟩:=hr.2.2.form
 unfold maxLen at hc2 he2
 have htu:(1 - p.turn=0∨1 - p.turn=1):=by have:=K.tu; omega
 have ht0:0≤p.turn∧p.turn≤1:=by have:=K.tu; omega
 obtain ⟨ht1,ht2⟩:=ht0
 obtain ⟨atH,atI⟩:=K.qu
 obtain ⟨atJ,atK⟩:=K.r.qu
 obtain ⟨Iz,Dq⟩:=K.r.bl
 have HD:Hid (dN R p=if 0≤jE (fun x=>jL R p x (1 - p.turn)) R.ends 0 then (if (R.ends.getD (jE (fun x=>jL R p x (1 - p.turn)) R.ends 0).toNat default).loses=true then 1+p.turn else 1+(1 - p.turn))
  else if R.quiet≠0∧R.quiet≤p.quiet then 3 else if 0<(dZ R p).length then 0 else if R.blocked=0 then 1+(1 - p.turn) else if R.blocked=1 then 1+p.turn else 3):=hid rfl
 have HRG:=hid (Dn (fun x=>jL R p x (1 - p.turn)) R.ends 0 (by omega))
 clear hr hp HS
 go_enter Tryz.func121,Tryz.ntmps121
 go_upto_region 1 with (fail)
 refine qQ fun w0 B0 B1 fJ hs_=>?_
 have HB:=hid fJ
 have hz0:w.heap.size+1<w0.heap.size:=by omega
 clear hs_ fJ
 have AO:=hid (HR.out.below HB.out (Nat.le_refl _))
 have Fq:=hid (HP.out.below HB.out (Nat.le_refl _))
 have dL:=hid B0
 have jv:=hid B1
 have e2:=B1.cell 3 rfl
 clear B0 B1
 go_upto_region 2 with (fail)
 clear e2
 have hbm:=(Box.new' w0 w0.heap.size [.int .i64 (1 - p.turn)] 3 rfl)
 have eF:Hid (Below w0.heap.size w0 (w0.alloc (.cells #[.int .i64 (1 - p.turn)] 3))):=hid ((Below.refl w0.heap.size w0).alloc (Nat.le_refl _) _)
 generalize (w0.alloc (.cells #[.int .i64 (1 - p.turn)] 3))=w1 at *
 have JV:=hid hbm
 have q7:=(dL.out.below eF.out (by omega)).cell 7 rfl
 have hz1:=hbm.lt
 clear hbm
 have HIX:=hid (Iy (.slice ae R.ends.length ce) R.ends (fun x=>jL R p x (1 - p.turn)) 165 #[.pointer (some ⟨w.heap.size,0,none⟩),.pointer (some ⟨w.heap.size+1,0,none⟩),.pointer (some ⟨w0.heap.size,0,none⟩)] w1 (AO.out.2.2.below eF.out (Nat.le_refl _)) Xw
  (fun W x cs hx hE hW=>by
   simp only [oN] at hE
   subst hE
   obtain ⟨i,hi,rfl⟩:=List.mem_iff_getElem.1 hx
   have hee:=K.r.ee i hi
   rw [List.getD_eq_getElem?_getD,List.getElem?_eq_getElem hi] at hee
   exact Xv R vp vs _ p ac cc v0 v1 R.ends[i] (1 - p.turn) _ _ _ W ((dL.out.below eF.out (by omega)).below hW (by omega)) ((jv.out.below eF.out (by omega)).below hW (by omega)) (JV.out.below hW hz1) ((Fq.out.1.below eF.out (Nat.le_refl _)).below hW (Nat.le_refl _)) K hee htu))
 go_wp2_with fail
 refine HIX.out.mono ?_
 rintro e w2 ⟨rfl,hb2⟩
 have HB2:=hid (ak eF.out hb2 eF.out.size)
 have HZ2:=hid (JV.out.below hb2 hz1)
 have hs2:=HB2.out.size
 have hz2:=HZ2.out.lt
 clear hb2 q7 HIX
 generalize jE (fun x=>jL R p x (1 - p.turn)) R.ends 0=i at *
 have q0:=(dL.out.below HB2.out (by omega)).cell 0 rfl
 have q1:=(dL.out.below HB2.out (by omega)).cell 1 rfl
 have q2:=(dL.out.below HB2.out (by omega)).cell 2 rfl
 have q3:=(dL.out.below HB2.out (by omega)).cell 3 rfl
 have q4:=(dL.out.below HB2.out (by omega)).cell 4 rfl
 have q5:=(dL.out.below HB2.out (by omega)).cell 5 rfl
 have q6:=(dL.out.below HB2.out (by omega)).cell 6 rfl
 have q7:=(dL.out.below HB2.out (by omega)).cell 7 rfl
 have q8:=(dL.out.below HB2.out (by omega)).cell 8 rfl
 have q9:=(dL.out.below HB2.out (by omega)).cell 9 rfl
 have q10:=(dL.out.below HB2.out (by omega)).cell 10 rfl
 have e0:=(jv.out.below HB2.out (by omega)).cell 0 rfl
 have e1:=(jv.out.below HB2.out (by omega)).cell 1 rfl
 have e2:=(jv.out.below HB2.out (by omega)).cell 2 rfl
 have e3:=(jv.out.below HB2.out (by omega)).cell 3 rfl
 have e4:=(jv.out.below HB2.out (by omega)).cell 4 rfl
 have z0:=HZ2.out.cell 0 rfl
 by_cases hi:0≤i
 ·have hir:i<R.ends.length:=by have:=HRG.out; omega
  obtain ⟨ge,oe,eee,hge,hec⟩:=Gg (AO.out.2.2.below HB2.out (Nat.le_refl _)) (by omega)
  subst eee
  obtain ⟨-,-,-,hl⟩:=hec i.toNat (by omega)
  have HDi:Hid (dN R p=if (R.ends.getD i.toNat default).loses=true then 1+p.turn else 1+(1 - p.turn)):=hid (by rw [HD.out,if_pos hi])
  clear hec HD
  generalize (R.ends.getD i.toNat default).loses=lo at *
  cases lo
  ·have HE:Hid (dN R p=1+(1 - p.turn)):=hid (by rw [HDi.out]; rfl)
   go_wp2_with fail
   refine (qw (1 - p.turn) _ (by omega) (by omega)).mono ?_
   rintro e w' ⟨rfl,rfl⟩
   go_wp2_with fail
   go_ret
   exact ⟨by rw [HE.out]; rfl,ak HB.out HB2.out HB.out.size⟩
  ·have HE:Hid (dN R p=1+p.turn):=hid (by rw [HDi.out]; rfl)
   go_wp2_with fail
   refine (qw p.turn _ (by omega) (by omega)).mono ?_
   rintro e w' ⟨rfl,rfl⟩
   go_wp2_with fail
   go_ret
   exact ⟨by rw [HE.out]; rfl,ak HB.out HB2.out HB.out.size⟩
 have HD1:Hid (dN R p=if R.quiet≠0∧R.quiet≤p.quiet then 3 else if 0<(dZ R p).length then 0 else if R.blocked=0 then 1+(1 - p.turn) else if R.blocked=1 then 1+p.turn else 3):=hid (by rw [HD.out,if_neg hi])
 clear HD HRG
 have HLI:=fun (h:¬ (R.quiet≠0∧R.quiet≤p.quiet))=>hid (xW qo.out R vp vs _ p _ v0 v1 w2 (AO.out.below HB2.out (Nat.le_refl _)) (Fq.out.below HB2.out (Nat.le_refl _)) K)
 have HLh:=hid HLI
 clear HLI
 by_cases hq0:R.quiet=0
 ·have HD2:Hid (dN R p=if 0<(dZ R p).length then 0 else if R.blocked=0 then 1+(1 - p.turn) else if R.blocked=1 then 1+p.turn else 3):=hid (by rw [HD1.out,if_neg (by simp [hq0])])
  have HLz:=(HLh.out (by simp [hq0]))
  have ahM:(R.quiet != 0)=false:=by simpa using hq0
  clear hq0 HD1 HLh
  go_wp2_with fail
  refine HLz.out.mono ?_
  rintro e w3 ⟨vl,rfl,ho3,hb3⟩
  obtain ⟨al,cl,rfl⟩:=aG ho3
  have HB3:=hid (ak HB2.out hb3 HB2.out.size)
  have f3:=(jv.out.below HB3.out (by omega)).cell 3 rfl
  have f8:=(dL.out.below HB3.out (by omega)).cell 8 rfl
  have g0:=(HZ2.out.stays hb3).cell 0 rfl
  clear ho3 hb3 z0 HLz
  clear q0 q1 q2 q3 q4 q5 q6 q7 q8 q9 q10 e0 e1 e2 e3 e4
  generalize (dZ R p).length=ln at *
  by_cases hln:0<ln
  ·have HE:Hid (dN R p=0):=hid (by rw [HD2.out,if_pos hln])
   have aeF:(0:Int)<(ln:Int):=by omega
   go_wp2_with fail
   go_ret
   exact ⟨by rw [HE.out]; rfl,ak HB.out HB3.out HB.out.size⟩
  have aeF:¬ (0:Int)<(ln:Int):=by omega
  have HD3:Hid (dN R p=if R.blocked=0 then 1+(1 - p.turn) else if R.blocked=1 then 1+p.turn else 3):=hid (by rw [HD2.out,if_neg hln])
  clear hln HD2
  by_cases hb0:R.blocked=0
  ·have HE:Hid (dN R p=1+(1 - p.turn)):=hid (by rw [HD3.out,if_pos hb0])
   rw [hb0] at f8
   clear hb0
   go_wp2_with fail
   refine (qw (1 - p.turn) _ (by omega) (by omega)).mono ?_
   rintro e w' ⟨rfl,rfl⟩
   go_wp2_with fail
   go_ret
   exact ⟨by rw [HE.out]; rfl,ak HB.out HB3.out HB.out.size⟩
  by_cases hb1:R.blocked=1
  ·have HE:Hid (dN R p=1+p.turn):=hid (by rw [HD3.out,if_neg hb0,if_pos hb1])
   rw [hb1] at f8
   clear hb0 hb1
   go_wp2_with fail
   refine (qw p.turn _ (by omega) (by omega)).mono ?_
   rintro e w' ⟨rfl,rfl⟩
   go_wp2_with fail
   go_ret
   exact ⟨by rw [HE.out]; rfl,ak HB.out HB3.out HB.out.size⟩
  ·have HE:Hid (dN R p=3):=hid (by rw [HD3.out,if_neg hb0,if_neg hb1])
   have amQ:(R.blocked == 0)=false:=by simpa using hb0
   have hb1':(R.blocked == 1)=false:=by simpa using hb1
   clear hb0 hb1
   go_wp2_with fail
   go_ret
   exact ⟨by rw [HE.out]; rfl,ak HB.out HB3.out HB.out.size⟩
 by_cases hql:R.quiet≤p.quiet
 ·have HE:Hid (dN R p=3):=hid (by rw [HD1.out,if_pos ⟨hq0,hql⟩])
  have ahM:(R.quiet != 0)=true:=by simpa using hq0
  clear hq0 HD1 HLh
  go_wp2_with fail
  go_ret
  exact ⟨by rw [HE.out]; rfl,ak HB.out HB2.out HB.out.size⟩
 ·have HD2:Hid (dN R p=if 0<(dZ R p).length then 0 else if R.blocked=0 then 1+(1 - p.turn) else if R.blocked=1 then 1+p.turn else 3):=hid (by rw [HD1.out,if_neg (fun h=>hql h.2)])
  have HLz:=(HLh.out (fun h=>hql h.2))
  have ahM:(R.quiet != 0)=true:=by simpa using hq0
  clear hq0 HD1 HLh
  go_wp2_with fail
  refine HLz.out.mono ?_
  rintro e w3 ⟨vl,rfl,ho3,hb3⟩
  obtain ⟨al,cl,rfl⟩:=aG ho3
  have HB3:=hid (ak HB2.out hb3 HB2.out.size)
  have f3:=(jv.out.below HB3.out (by omega)).cell 3 rfl
  have f8:=(dL.out.below HB3.out (by omega)).cell 8 rfl
  have g0:=(HZ2.out.stays hb3).cell 0 rfl
  clear ho3 hb3 z0 HLz
  clear q0 q1 q2 q3 q4 q5 q6 q7 q8 q9 q10 e0 e1 e2 e3 e4
  generalize (dZ R p).length=ln at *
  by_cases hln:0<ln
  ·have HE:Hid (dN R p=0):=hid (by rw [HD2.out,if_pos hln])
   have aeF:(0:Int)<(ln:Int):=by omega
   go_wp2_with fail
   go_ret
   exact ⟨by rw [HE.out]; rfl,ak HB.out HB3.out HB.out.size⟩
  have aeF:¬ (0:Int)<(ln:Int):=by omega
  have HD3:Hid (dN R p=if R.blocked=0 then 1+(1 - p.turn) else if R.blocked=1 then 1+p.turn else 3):=hid (by rw [HD2.out,if_neg hln])
  clear hln HD2
  by_cases hb0:R.blocked=0
  ·have HE:Hid (dN R p=1+(1 - p.turn)):=hid (by rw [HD3.out,if_pos hb0])
   rw [hb0] at f8
   clear hb0
   go_wp2_with fail
   refine (qw (1 - p.turn) _ (by omega) (by omega)).mono ?_
   rintro e w' ⟨rfl,rfl⟩
   go_wp2_with fail
   go_ret
   exact ⟨by rw [HE.out]; rfl,ak HB.out HB3.out HB.out.size⟩
  by_cases hb1:R.blocked=1
  ·have HE:Hid (dN R p=1+p.turn):=hid (by rw [HD3.out,if_neg hb0,if_pos hb1])
   rw [hb1] at f8
   clear hb0 hb1
   go_wp2_with fail
   refine (qw p.turn _ (by omega) (by omega)).mono ?_
   rintro e w' ⟨rfl,rfl⟩
   go_wp2_with fail
   go_ret
   exact ⟨by rw [HE.out]; rfl,ak HB.out HB3.out HB.out.size⟩
  ·have HE:Hid (dN R p=3):=hid (by rw [HD3.out,if_neg hb0,if_neg hb1])
   have amQ:(R.blocked == 0)=false:=by simpa using hb0
   have hb1':(R.blocked == 1)=false:=by simpa using hb1
   clear hb0 hb1
   go_wp2_with fail
   go_ret
   exact ⟨by rw [HE.out]; rfl,ak HB.out HB3.out HB.out.size⟩
def kC (R:aA) (p:bf):List aB:=if dN R p=0 then dZ R p else []
theorem TS (HS:SortMvSaid) (R:aA) (vp vs ve:Value) (p:bf) (vc v0 v1:Value) (w:World) (hr:pV w R vp vs ve) (hp:sH w p vc v0 v1) (K:qg R p) :
  Calls Tryz.prog 126 #[(.agg #[.string R.name,.int .i64 R.width,.int .i64 R.height,vp,vs,.bool R.falls,.bool R.keeps,ve,.int .i64 R.blocked,.int .i64 R.quiet,.int .i64 R.bC]),(.agg #[vc,v0,v1,.int .i64 p.turn,.int .i64 p.quiet])] w (zI (kC R p) w):=by
 have HR:=hid hr
 have HP:=hid hp
 have qo:=hid HS
 clear hr hp HS
 go_enter Tryz.func126,Tryz.ntmps126
 go_upto_region 1 with (fail)
 refine qQ fun w0 B0 B1 fJ hs_=>?_
 have HB:=hid fJ
 have hz0:w.heap.size+1<w0.heap.size:=by omega
 clear hs_ fJ
 have AO:=hid (HR.out.below HB.out (Nat.le_refl _))
 have Fq:=hid (HP.out.below HB.out (Nat.le_refl _))
 have dL:=hid B0
 have jv:=hid B1
 clear B0 B1
 have jg:Hid (Below w0.heap.size w0 w0):=hid (Below.refl _ _)
 have q0:=(dL.out.below jg.out (by omega)).cell 0 rfl
 have q1:=(dL.out.below jg.out (by omega)).cell 1 rfl
 have q2:=(dL.out.below jg.out (by omega)).cell 2 rfl
 have q3:=(dL.out.below jg.out (by omega)).cell 3 rfl
 have q4:=(dL.out.below jg.out (by omega)).cell 4 rfl
 have q5:=(dL.out.below jg.out (by omega)).cell 5 rfl
 have q6:=(dL.out.below jg.out (by omega)).cell 6 rfl
 have q7:=(dL.out.below jg.out (by omega)).cell 7 rfl
 have q8:=(dL.out.below jg.out (by omega)).cell 8 rfl
 have q9:=(dL.out.below jg.out (by omega)).cell 9 rfl
 have q10:=(dL.out.below jg.out (by omega)).cell 10 rfl
 have e0:=(jv.out.below jg.out (by omega)).cell 0 rfl
 have e1:=(jv.out.below jg.out (by omega)).cell 1 rfl
 have e2:=(jv.out.below jg.out (by omega)).cell 2 rfl
 have e3:=(jv.out.below jg.out (by omega)).cell 3 rfl
 have e4:=(jv.out.below jg.out (by omega)).cell 4 rfl
 go_wp2_with fail
 refine (Dp qo.out R vp vs ve p vc v0 v1 w0 AO.out Fq.out K).mono ?_
 rintro e w1 ⟨rfl,hb1⟩
 have HB1:=hid hb1
 have hs1:=hb1.size
 clear hb1
 clear q0 q1 q2 q3 q4 q5 q6 q7 q8 q9 q10 e0 e1 e2 e3 e4
 have q0:=(dL.out.below HB1.out (by omega)).cell 0 rfl
 have q1:=(dL.out.below HB1.out (by omega)).cell 1 rfl
 have q2:=(dL.out.below HB1.out (by omega)).cell 2 rfl
 have q3:=(dL.out.below HB1.out (by omega)).cell 3 rfl
 have q4:=(dL.out.below HB1.out (by omega)).cell 4 rfl
 have q5:=(dL.out.below HB1.out (by omega)).cell 5 rfl
 have q6:=(dL.out.below HB1.out (by omega)).cell 6 rfl
 have q7:=(dL.out.below HB1.out (by omega)).cell 7 rfl
 have q8:=(dL.out.below HB1.out (by omega)).cell 8 rfl
 have q9:=(dL.out.below HB1.out (by omega)).cell 9 rfl
 have q10:=(dL.out.below HB1.out (by omega)).cell 10 rfl
 have e0:=(jv.out.below HB1.out (by omega)).cell 0 rfl
 have e1:=(jv.out.below HB1.out (by omega)).cell 1 rfl
 have e2:=(jv.out.below HB1.out (by omega)).cell 2 rfl
 have e3:=(jv.out.below HB1.out (by omega)).cell 3 rfl
 have e4:=(jv.out.below HB1.out (by omega)).cell 4 rfl
 by_cases hr0:dN R p=0
 ·have HE:Hid (kC R p=dZ R p):=hid (by unfold kC; rw [if_pos hr0])
  rw [hr0]
  clear hr0
  go_wp2_with fail
  refine (xW qo.out R vp vs ve p vc v0 v1 w1 (AO.out.below HB1.out (Nat.le_refl _)) (Fq.out.below HB1.out (Nat.le_refl _)) K).mono ?_
  rintro e w2 ⟨v,rfl,ho,hb2⟩
  have HO:=hid (own_base ho (show w.heap.size≤w1.heap.size by have:=HB.out.size; omega))
  have HB2:=hid (ak HB1.out hb2 HB1.out.size)
  clear ho hb2
  clear q0 q1 q2 q3 q4 q5 q6 q7 q8 q9 q10 e0 e1 e2 e3 e4
  go_wp2_with fail
  go_ret
  exact ⟨_,rfl,by rw [HE.out]; exact HO.out,ak HB.out HB2.out HB.out.size⟩
 ·have HE:Hid (kC R p=[]):=hid (by unfold kC; rw [if_neg hr0])
  have atL:(dN R p != 0)=true:=by simpa using hr0
  clear hr0
  go_wp2_with fail
  go_ret
  exact ⟨_,rfl,by rw [HE.out]; exact World.ownsRow_nil _ _ _ _,ak HB.out HB1.out HB.out.size⟩
end Go.Proofs.YteablcielclaeaaGreatDoor
namespace Go.Proofs.YteablcielclaeaaGreatDoor
open Go.ChangeShapes Go.WideShapes Go.ChangeAt Go.RowKit
set_option linter.unusedVariables false
set_option maxHeartbeats 1000000
set_option maxRecDepth 100000
open Go.Lib (hid)
theorem Po {xs ys:List Int} (hl:xs.length=ys.length) (h:∀ i,i<xs.length→xs.getD i 0=ys.getD i 0):xs=ys:=by
 refine List.ext_getElem hl fun i h1 h2=>?_
 have:=h i h1
 rw [List.getD_eq_getElem?_getD,List.getElem?_eq_getElem h1,List.getD_eq_getElem?_getD,List.getElem?_eq_getElem h2] at this
 simpa using this
theorem zM (v u:Value) (xs ys:List Int) (w:World) (h:fQ w v xs) (h':fQ w u ys) :
  Calls Tryz.prog 204 #[v,u] w fun e w'=>e=.returned (.bool (decide (xs=ys)))∧Below w.heap.size w w':=by
 have HX:=hid h
 have HY:=hid h'
 obtain ⟨a,c,rfl,h1,h2⟩:=h.form
 obtain ⟨b,d,rfl,h3,h4⟩:=h'.form
 unfold maxLen at h2 h4
 clear h h'
 by_cases hl:xs.length=ys.length
 rotate_left
 ·have HE:Hid (decide (xs=ys)=false):=hid (by simp; intro e; exact hl (by rw [e]))
  have hl':((xs.length:Int) != (ys.length:Int))=true:=by simp; omega
  clear hl
  go_enter Tryz.func204,Tryz.ntmps204
  go_wp2_with fail
  go_ret
  exact ⟨by rw [HE.out]; rfl,Below.refl _ _⟩
 have HL:=hid hl
 have hl':((xs.length:Int) != (ys.length:Int))=false:=by simp; omega
 clear hl
 go_enter Tryz.func204,Tryz.ntmps204
 go_wp2_with fail
 go_loopw [13] (fun i wr=>∃ k:Nat,k≤xs.length∧i=.int .i64 k∧Hid (∀ i,i<k→xs.getD i 0=ys.getD i 0)∧Hid (Below w.heap.size w wr)) (fun i _=>xs.length - (intOf i).toNat)
 case atStart=>exact ⟨0,Nat.zero_le _,rfl,hid (fun i hi=>absurd hi (Nat.not_lt_zero _)),hid (Below.refl _ _)⟩
 case round =>
  obtain ⟨k,hk,rfl,HA,HB⟩:=hrel
  have hxy:ys.length=xs.length:=HL.out.symm
  by_cases hlt:k<xs.length
  ·obtain ⟨g,o,rfl,hcx⟩:=eP (HX.out.below HB.out (Nat.le_refl _)) (by omega)
   obtain ⟨g2,o2,rfl,hcy⟩:=eP (HY.out.below HB.out (Nat.le_refl _)) (by omega)
   have c1:=hcx k hlt
   have c2:=hcy k (by omega)
   have hky:(k:Int)<(ys.length:Int):=by omega
   clear hcx hcy
   have HEQ:Hid (xs.getD k 0=ys.getD k 0→∀ i,i<k+1→xs.getD i 0=ys.getD i 0):=hid (fun e i hi=>by
    by_cases q:i=k
    ·subst q; exact e
    ·exact HA.out i (by omega))
   have Dh:Hid (xs.getD k 0≠ys.getD k 0→decide (xs=ys)=false):=hid (fun e=>by simp; intro q; exact e (by rw [q]))
   clear hxy
   generalize xs.getD k 0=x at *
   generalize ys.getD k 0=y at *
   by_cases hxe:x=y
   ·subst hxe
    have HA2:=hid (HEQ.out rfl)
    clear HEQ Dh
    go_wp2_with fail
    go_quiet (fail)
    go_wp2_with fail
    go_roundw
    case rel=>exact ⟨k+1,by omega,by go_num,HA2,hid (below_drewN HB.out _)⟩
    case measure=>simp [intOf]; omega
   ·have HF:=hid (Dh.out hxe)
    have hne:(x != y)=true:=by simpa using hxe
    clear HEQ Dh hxe
    go_wp2_with fail
    go_quiet (fail)
    go_wp2_with fail
    go_ret
    exact ⟨by rw [HF.out]; rfl,below_drewN HB.out _⟩
  ·have HT:Hid (decide (xs=ys)=true):=hid (by simp; exact Po HL.out (fun i hi=>HA.out i (by omega)))
   clear hxy
   go_wp2_with fail
   go_ret
   exact ⟨by rw [HT.out]; rfl,HB.out⟩
def sV (p q:bf):Bool:=decide (p.cells=q.cells) && decide (p.h0=q.h0) && decide (p.h1=q.h1) && p.turn == q.turn
theorem Xx (p q:bf) (vc v0 v1 uc u0 u1:Value) (w:World) (hp:sH w p vc v0 v1) (hq:sH w q uc u0 u1) :
  Calls Tryz.prog 168 #[(.agg #[vc,v0,v1,.int .i64 p.turn,.int .i64 p.quiet]),(.agg #[uc,u0,u1,.int .i64 q.turn,.int .i64 q.quiet])] w fun e w'=>e=.returned (.bool (sV p q))∧Below w.heap.size w w':=by
 have HP:=hid hp
 have HQ:=hid hq
 have HD:Hid (sV p q=(decide (p.cells=q.cells) && decide (p.h0=q.h0) && decide (p.h1=q.h1) && p.turn == q.turn)):=hid rfl
 obtain ⟨ac,cc,rfl,_,_⟩:=hp.1.form
 obtain ⟨a0,c0,rfl,_,_⟩:=hp.2.1.form
 obtain ⟨a1,c1,rfl,_,_⟩:=hp.2.2.form
 obtain ⟨bc,dc,rfl,_,_⟩:=hq.1.form
 obtain ⟨b0,d0,rfl,_,_⟩:=hq.2.1.form
 obtain ⟨b1,d1,rfl,_,_⟩:=hq.2.2.form
 clear hp hq
 go_enter Tryz.func168,Tryz.ntmps168
 go_upto_region 1 with (fail)
 refine qQ fun w0 B0 B1 fJ hs_=>?_
 have HB:=hid fJ
 have hz0:w.heap.size+1<w0.heap.size:=by omega
 clear hs_ fJ
 have Fq:=hid (HP.out.below HB.out (Nat.le_refl _))
 have HQw:=hid (HQ.out.below HB.out (Nat.le_refl _))
 have dL:=hid B0
 have jv:=hid B1
 have jg:Hid (Below w0.heap.size w0 w0):=hid (Below.refl _ _)
 clear B0 B1
 have x0:=(dL.out.below jg.out (by omega)).cell 0 rfl
 have y0:=(jv.out.below jg.out (by omega)).cell 0 rfl
 go_wp2_with fail
 refine (zM _ _ p.cells q.cells w0 Fq.out.1 HQw.out.1).mono ?_
 rintro e w1 ⟨rfl,hb1⟩
 have HB1:=hid hb1
 clear hb1 x0 y0
 have hs1:=HB1.out.size
 have x1:=(dL.out.below HB1.out (by omega)).cell 1 rfl
 have y1:=(jv.out.below HB1.out (by omega)).cell 1 rfl
 cases h1:decide (p.cells=q.cells)
 ·have HE:Hid (sV p q=false):=hid (by rw [HD.out,h1]; rfl)
  clear h1
  go_wp2_with fail
  go_ret
  exact ⟨by rw [HE.out]; rfl,ak HB.out HB1.out HB.out.size⟩
 have HH1:=hid h1
 clear h1
 go_wp2_with fail
 refine (zM _ _ p.h0 q.h0 w1 (Fq.out.2.1.below HB1.out (Nat.le_refl _)) (HQw.out.2.1.below HB1.out (Nat.le_refl _))).mono ?_
 rintro e w2 ⟨rfl,hb2⟩
 have HB2:=hid (ak HB1.out hb2 HB1.out.size)
 clear hb2 x1 y1
 have hs2:=HB2.out.size
 have x2:=(dL.out.below HB2.out (by omega)).cell 2 rfl
 have y2:=(jv.out.below HB2.out (by omega)).cell 2 rfl
 cases h2:decide (p.h0=q.h0)
 ·have HE:Hid (sV p q=false):=hid (by rw [HD.out,HH1.out,h2]; rfl)
  clear h2
  go_wp2_with fail
  go_ret
  exact ⟨by rw [HE.out]; rfl,ak HB.out HB2.out HB.out.size⟩
 have HH2:=hid h2
 clear h2
 go_wp2_with fail
 refine (zM _ _ p.h1 q.h1 w2 (Fq.out.2.2.below HB2.out (Nat.le_refl _)) (HQw.out.2.2.below HB2.out (Nat.le_refl _))).mono ?_
 rintro e w3 ⟨rfl,hb3⟩
 have HB3:=hid (ak HB2.out hb3 HB2.out.size)
 clear hb3 x2 y2
 have x3:=(dL.out.below HB3.out (by omega)).cell 3 rfl
 have y3:=(jv.out.below HB3.out (by omega)).cell 3 rfl
 cases h3:decide (p.h1=q.h1)
 ·have HE:Hid (sV p q=false):=hid (by rw [HD.out,HH1.out,HH2.out,h3]; rfl)
  clear h3
  go_wp2_with fail
  go_ret
  exact ⟨by rw [HE.out]; rfl,ak HB.out HB3.out HB.out.size⟩
 ·have HE:Hid (sV p q=(p.turn == q.turn)):=hid (by rw [HD.out,HH1.out,HH2.out,h3]; rfl)
  clear h3
  go_wp2_with fail
  go_ret
  exact ⟨by rw [HE.out]; rfl,ak HB.out HB3.out HB.out.size⟩
end Go.Proofs.YteablcielclaeaaGreatDoor
namespace Go.Proofs.YteablcielclaeaaGreatDoor
open Go.ChangeShapes Go.WideShapes Go.ChangeAt Go.RowKit
set_option linter.unusedVariables false
open Go.Lib (hid)
theorem oD {w:World} {b:Nat} {v:Value} {xs:List aB} (h:w.ownsRow b 68 3 v xs.length (bK xs)):iC jK w v xs:=by
 refine iC.dB (el:=jK) h fun i hi=>?_
 show ((bK xs).drop (i * 3)).take 3=_
 have hf:=gu xs i hi
 have e:xs.getD i default=xs[i]:=by rw [List.getD_eq_getElem?_getD,List.getElem?_eq_getElem hi]; rfl
 rw [e] at hf
 obtain ⟨f0,f1,f2⟩:=hf
 apply List.ext_getElem?
 intro j
 by_cases hj:j<3
 ·rw [List.getElem?_take_of_lt hj,List.getElem?_drop]
  have h3:j=0∨j=1∨j=2:=by omega
  rcases h3 with rfl | rfl | rfl
  ·rw [Nat.add_zero,f0]; rfl
  ·rw [f1]; rfl
  ·rw [f2]; rfl
 ·rw [List.getElem?_take_eq_none (by omega),List.getElem?_eq_none (by simp; omega)]
theorem Xy (v:Value) (m:aB) (xs:List aB) (w:World) (h:iC jK w v xs) :
  Calls Tryz.prog 169 #[v,.agg #[.int .i64 m.src,.int .i64 m.dst,.int .i64 m.piece]] w fun e w'=>e=.returned (.int .i64 (jE (fun y=>decide (m=y)) xs 0))∧Below w.heap.size w w':=by
 obtain ⟨a,c,rfl,h1,h2⟩:=h.form
 unfold maxLen at h2
 have HR:=hid h
 have heq:=aev
 clear h
 go_enter Tryz.func169,Tryz.ntmps169
 go_upto_region 1 with (fail)
 refine lX fun w0 hb0 fJ hs_=>?_
 have HB:=hid fJ
 clear hs_ fJ
 have dL:=hid hb0
 clear hb0
 go_wp2_with fail
 go_loopw [8] (fun i wr=>∃ k:Nat,k≤xs.length∧i=.int .i64 k∧Hid (jE (fun y=>decide (m=y)) xs 0=jE (fun y=>decide (m=y)) (xs.drop k) k)∧Hid (Below w0.heap.size w0 wr)) (fun i _=>xs.length - (intOf i).toNat)
 case atStart=>exact ⟨0,Nat.zero_le _,rfl,hid rfl,hid (Below.refl _ _)⟩
 case round =>
  obtain ⟨k,hk,rfl,HK,bn⟩:=hrel
  by_cases hlt:k<xs.length
  ·obtain ⟨g,o,rfl,hg,hcc⟩:=wK (HR.out.below (ak HB.out bn.out HB.out.size) (Nat.le_refl _)) (by omega)
   obtain ⟨c0,c1,c2⟩:=hcc k hlt
   have HS:=hid (zF (fun y=>decide (m=y)) xs k hlt)
   have HG:Hid (xs[k]=xs.getD k default):=hid (by rw [List.getD_eq_getElem?_getD,List.getElem?_eq_getElem hlt]; rfl)
   have x0:=(dL.out.stays bn.out).cell 0 rfl
   have x1:=(dL.out.stays bn.out).cell 1 rfl
   have x2:=(dL.out.stays bn.out).cell 2 rfl
   rw [HG.out] at HS
   clear hcc HG
   generalize xs.getD k default=y at *
   by_cases hmy:m=y
   ·subst hmy
    have HE:Hid (jE (fun y=>decide (m=y)) xs 0=k):=hid (by rw [HK.out,HS.out,if_pos (by simp)])
    clear HS
    go_wp2_with fail
    go_quiet (fail)
    go_wp2_with fail
    go_ret
    exact ⟨by rw [HE.out]; rfl,ak HB.out (below_drewN bn.out _) HB.out.size⟩
   ·have hd:decide (m=y)=false:=by simpa using hmy
    have HE:Hid (jE (fun y=>decide (m=y)) xs 0=jE (fun y=>decide (m=y)) (xs.drop (k+1)) ((k+1:Nat):Int)):=hid (by rw [HK.out,HS.out,if_neg (by simp [hmy])])
    clear HS hmy
    go_wp2_with fail
    go_quiet (fail)
    go_wp2_with fail
    go_roundw
    case rel=>exact ⟨k+1,by omega,by go_num,HE,hid (below_drewN bn.out _)⟩
    case measure=>simp [intOf]; omega
  ·obtain rfl:k=xs.length:=by omega
   have HE:Hid (jE (fun y=>decide (m=y)) xs 0 = -1):=hid (by rw [HK.out,List.drop_of_length_le (Nat.le_refl _)]; rfl)
   go_wp2_with fail
   go_ret
   exact ⟨by rw [HE.out]; rfl,ak HB.out bn.out HB.out.size⟩
theorem AU (v:Value) (m:aB) (xs:List aB) (w:World) (h:iC jK w v xs) :
  Calls Tryz.prog 125 #[v,.agg #[.int .i64 m.src,.int .i64 m.dst,.int .i64 m.piece]] w fun e w'=>e=.returned (.bool (decide (m∈xs)))∧Below w.heap.size w w':=by
 have HR:=hid h
 have HA:Hid (decide (0≤jE (fun y=>decide (m=y)) xs 0)=decide (m∈xs)):=hid (by
  rw [CO _ _ _ (by omega)]
  rw [Bool.eq_iff_iff]
  simp)
 obtain ⟨a,c,rfl,h1,h2⟩:=h.form
 clear h
 go_enter Tryz.func125,Tryz.ntmps125
 go_wp2_with fail
 refine (Xy _ m xs _ (HR.out.below ((Below.refl w.heap.size w).alloc (Nat.le_refl _) _) (Nat.le_refl _))).mono ?_
 rintro e w1 ⟨rfl,hb1⟩
 have HB1:=hid (ak ((Below.refl w.heap.size w).alloc (Nat.le_refl _) _) hb1 (by simp))
 clear hb1
 go_wp2_with fail
 go_ret
 exact ⟨by rw [← HA.out]; rfl,HB1.out⟩
end Go.Proofs.YteablcielclaeaaGreatDoor

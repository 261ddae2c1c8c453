/- TopR, TwSwA, TwIntsIx, TwSwP, TwPriv0, TwSwS. -/
import Derived.Test.YteablcielclaeaaGreatDoorP30
namespace Go.Proofs.YteablcielclaeaaGreatDoor
open Go.ChangeShapes Go.WideShapes Go.ChangeAt Go.RowKit
set_option linter.unusedVariables false
theorem acM:(Tryz.prog.info? 33).map (fun i=>(i.zero,i.size,i.bytes))=some (some (.agg #[.int .i64 0,.int .i64 0,.int .i64 0]),3,24):=by kernel_rfl
theorem Ju {x y z:Int}:∀ u∈[Value.int .i64 x,.int .i64 y,.int .i64 z],u.oneCell'=true:=by
 intro u hu
 simp only [List.mem_cons,List.not_mem_nil,or_false] at hu
 rcases hu with rfl | rfl | rfl <;> rfl
def okG (n:Nat) (g:eX):Prop:=0≤g.fst∧g.fst<n∧0≤g.snd∧g.snd<n∧g.fst≠g.snd∧0≤g.pts∧g.pts≤2
theorem xu (gs:List eX) (x y z:Int):iq gs++[.int .i64 x,.int .i64 y,.int .i64 z]=iq (gs++[⟨x,y,z⟩]):=by simp [iq]
theorem aoq (z:Int) : -2≤z.tmod 3∧z.tmod 3≤2∧0≤z.tmod 3 % 3∧z.tmod 3 % 3≤2:=by
 have h : -2≤z.tmod 3∧z.tmod 3≤2:=by
  by_cases hz:0≤z
  ·rw [Int.tmod_eq_emod_of_nonneg hz]; omega
  ·rw [show z = -(-z) by omega,Int.neg_tmod,Int.tmod_eq_emod_of_nonneg (by omega)]; omega
 omega
theorem SN {n:Int}:∀ gs:List eX,(∀ g∈gs,yV n g.fst g.snd=true∧0≤g.pts∧g.pts≤2)→l7 n gs=0
 | [],_=>rfl
 | g :: t,h=>by
  obtain ⟨h1,h2,h3⟩:=h g (List.mem_cons_self ..)
  rw [l7,if_neg (by rw [h1]; simp),if_neg (by omega)]
  exact SN t fun x hx=>h x (List.mem_cons_of_mem _ hx)
theorem afH {n:Nat} {gs:List eX} (h0:1≤n) (h1:n≤32) (hl:gs.length≤600) (hg:∀ g∈gs,okG n g):vJ n gs=0:=by
 unfold vJ
 rw [if_neg (by omega)]
 refine SN gs fun g hx=>?_
 obtain ⟨a,b,c,d,e,p,q⟩:=hg g hx
 exact ⟨by unfold yV; simp; omega,p,q⟩
end Go.Proofs.YteablcielclaeaaGreatDoor
namespace Go.Proofs.YteablcielclaeaaGreatDoor
open Go.ChangeShapes Go.WideShapes Go.ChangeAt Go.RowKit
set_option linter.unusedVariables false
set_option maxHeartbeats 4000000
set_option maxRecDepth 100000
open Go.Lib (hid)
structure dH where
 score:Int
 bZ:List Int
 colour:Int
 dX:Bool
deriving Inhabited,DecidableEq
def aZ (ps:List dH) (i:Nat):dH:=ps.getD i ⟨0,[],0,false⟩
def aor:El dH where
 k:=4
 E:=fun w x cs=>∃ v,cs=[.int .i64 x.score,v,.int .i64 x.colour,.bool x.dX]∧fQ w v x.bZ
 mono:=fun ⟨v,h,hr⟩ hb hB=>⟨v,h,hr.below hb hB⟩
 len:=fun ⟨v,h,_⟩=>by subst h; rfl
abbrev kZ (w:World) (s:Value) (ps:List dH):Prop:=iC aor w s ps
theorem kZ.some {w:World} {a:Option Addr} {n c:Nat} {ps:List dH} (h:kZ w (.slice a n c) ps) (hn:0<ps.length):∃ g o,a=some ⟨g,o,none⟩∧g<w.heap.size ∧
  ∀ i,i<ps.length→∃ v,w.cell? ⟨g,o+i * 4,none⟩=some (.int .i64 (aZ ps i).score)∧w.cell? ⟨g,o+i * 4+1,none⟩=some v∧w.cell? ⟨g,o+i * 4+2,none⟩=some (.int .i64 (aZ ps i).colour) ∧
   w.cell? ⟨g,o+i * 4+3,none⟩=some (.bool (aZ ps i).dX)∧fQ w v (aZ ps i).bZ:=by
 obtain ⟨g,o,ha,hg,hc⟩:=iC.some h hn
 refine ⟨g,o,ha,hg,fun i hi=>?_⟩
 obtain ⟨cs,⟨v,rfl,hr⟩,hj⟩:=hc i hi
 have e:aZ ps i=ps[i]:=by unfold aZ; rw [List.getD_eq_getElem?_getD,List.getElem?_eq_getElem hi]; rfl
 rw [e]
 exact ⟨v,hj 0 (by decide),hj 1 (by decide),hj 2 (by decide),hj 3 (by decide),hr⟩
def ji (ps:List dH) (i:Nat) (j:Int):Nat:=((aZ ps i).bZ.filter (fun k=>k == j)).length
theorem Vd (zs:List Int) (j:Int) (k:Nat) (h:k<zs.length):((zs.take (k+1)).filter (fun k=>k == j)).length=((zs.take k).filter (fun k=>k == j)).length+(if zs.getD k 0=j then 1 else 0):=by
 rw [List.take_add_one,List.filter_append,List.length_append,List.getElem?_eq_getElem h,List.getD_eq_getElem?_getD,List.getElem?_eq_getElem h]
 by_cases e:zs[k]=j <;> simp [e]
theorem Cj (s:Value) (ps:List dH) (i:Nat) (j:Int) (w:World) (h:kZ w s ps) (hi:i<ps.length) :
  Calls Tryz.prog 72 #[s,.int .i64 i,.int .i64 j] w fun e w'=>e=.returned (.int .i64 (ji ps i j))∧w=w':=by
 obtain ⟨a,c,rfl,h1,h2⟩:=h.form
 unfold maxLen at h2
 obtain ⟨g,o,rfl,hg,hc⟩:=kZ.some h (by omega)
 obtain ⟨v,-,cv,-,-,hv⟩:=hc i hi
 obtain ⟨a',c',rfl,h1',h2'⟩:=hv.form
 unfold maxLen at h2'
 have HR:=hid hv
 have HM:Hid (ji ps i j=(((aZ ps i).bZ.take (aZ ps i).bZ.length).filter (fun k=>k == j)).length):=hid (by rw [List.take_length]; rfl)
 clear h hc hv
 generalize (aZ ps i).bZ=zs at *
 have hi':(i:Int)<(ps.length:Int):=by omega
 have hi0:(0:Int)≤(i:Int):=by omega
 go_enter Tryz.func72,Tryz.ntmps72
 go_wp2_with fail
 go_loop [7,16] (fun m i=>∃ k:Nat,k≤zs.length∧i=.int .i64 k∧m=.int .i64 (((zs.take k).filter (fun k=>k == j)).length:Nat)) (fun m i=>zs.length - (intOf i).toNat)
 case atStart=>exact ⟨0,Nat.zero_le _,rfl,rfl⟩
 case round =>
  obtain ⟨k,hk,rfl,rfl⟩:=hrel
  by_cases hlt:k<zs.length
  ·obtain ⟨g',o',c'',he,_,_,_,hcell⟩:=HR.out.some (by omega)
   simp only [Value.slice.injEq] at he
   obtain ⟨rfl,_,rfl⟩:=he
   have ck:=hcell k hlt
   have HS:=hid (Vd zs j k hlt)
   have hle:((zs.take k).filter (fun k=>k == j)).length≤k:=Nat.le_trans (List.length_filter_le _ _) (by rw [List.length_take]; omega)
   clear hcell
   generalize zs.getD k 0=z at *
   generalize ((zs.take k).filter (fun k=>k == j)).length=m at *
   by_cases hz:z=j
   ·subst hz
    go_wp2_with fail
    go_round
    case rel=>exact ⟨k+1,by omega,by go_num,by rw [HS.out,if_pos rfl]; go_num⟩
    case measure=>simp [intOf]; omega
   ·go_wp2_with fail
    go_round
    case rel=>exact ⟨k+1,by omega,by go_num,by rw [HS.out,if_neg hz]; rfl⟩
    case measure=>simp [intOf]; omega
  ·obtain rfl:k=zs.length:=by omega
   go_wp2_with fail
   go_ret
   exact ⟨by rw [HM.out,List.take_length]; rfl,rfl⟩
def oJ (ps:List dH) (i j:Nat):Int:=100 * ((aZ ps i).score - (aZ ps j).score) * ((aZ ps i).score - (aZ ps j).score)+((aZ ps i).colour+(aZ ps j).colour) * ((aZ ps i).colour+(aZ ps j).colour)
theorem uj (d K:Int) (h1 : -K≤d) (h2:d≤K):0≤d * d∧d * d≤K * K:=by
 have a:0≤(K - d) * (K+d):=Int.mul_nonneg (by omega) (by omega)
 rw [Int.sub_mul,Int.mul_add,Int.mul_add,Int.mul_comm d K] at a
 constructor
 ·rcases Int.le_total 0 d with h | h
  ·exact Int.mul_nonneg h h
  ·exact Int.mul_nonneg_of_nonpos_of_nonpos h h
 ·omega
def Small (p:dH):Prop:=(0≤p.score∧p.score≤40)∧(-20≤p.colour∧p.colour≤20)
theorem acN (ps:List dH) (i j:Nat) (h1:Small (aZ ps i)) (h2:Small (aZ ps j)):0≤oJ ps i j∧oJ ps i j≤161600:=by
 unfold Small at h1 h2
 unfold oJ
 have a:=uj ((aZ ps i).score - (aZ ps j).score) 40 (by omega) (by omega)
 have b:=uj ((aZ ps i).colour+(aZ ps j).colour) 40 (by omega) (by omega)
 rw [Int.mul_assoc]
 omega
theorem Zh (s:Value) (ps:List dH) (i j:Nat) (w:World) (h:kZ w s ps) (hi:i<ps.length) (hj:j<ps.length) (hsi:Small (aZ ps i)) (hsj:Small (aZ ps j)) :
  Calls Tryz.prog 75 #[s,.int .i64 i,.int .i64 j] w fun e w'=>e=.returned (.int .i64 (oJ ps i j))∧∃ n,w'=w.drewN n:=by
 obtain ⟨a,c,rfl,h1,h2⟩:=h.form
 unfold maxLen at h2
 obtain ⟨g,o,rfl,hg,hc⟩:=kZ.some h (by omega)
 obtain ⟨v,a0,-,a2,-,-⟩:=hc i hi
 obtain ⟨v',b0,-,b2,-,-⟩:=hc j hj
 have HZ:Hid (oJ ps i j=100 * ((aZ ps i).score - (aZ ps j).score) * ((aZ ps i).score - (aZ ps j).score)+((aZ ps i).colour+(aZ ps j).colour) * ((aZ ps i).colour+(aZ ps j).colour)):=hid rfl
 unfold Small at hsi hsj
 clear h hc v v'
 generalize (aZ ps i).score=si at *
 generalize (aZ ps j).score=sj at *
 generalize (aZ ps i).colour=ci at *
 generalize (aZ ps j).colour=cj at *
 have k1:=uj (si - sj) 40 (by omega) (by omega)
 have k2:=uj (ci+cj) 40 (by omega) (by omega)
 have w0:IntKind.i64.wrap (si - sj)=si - sj:=IntWalk.i64_in _ (by omega)
 have w0':IntKind.i64.wrap (ci+cj)=ci+cj:=IntWalk.i64_in _ (by omega)
 have w1:IntKind.i64.wrap (100 * (si - sj))=100 * (si - sj):=IntWalk.i64_in _ (by omega)
 have w2:IntKind.i64.wrap (100 * (si - sj) * (si - sj))=100 * (si - sj) * (si - sj):=IntWalk.i64_in _ (by rw [Int.mul_assoc]; omega)
 have w3:IntKind.i64.wrap ((ci+cj) * (ci+cj))=(ci+cj) * (ci+cj):=IntWalk.i64_in _ (by omega)
 have w4:IntKind.i64.wrap (100 * (si - sj) * (si - sj)+(ci+cj) * (ci+cj))=100 * (si - sj) * (si - sj)+(ci+cj) * (ci+cj):=IntWalk.i64_in _ (by rw [Int.mul_assoc]; omega)
 have W1:=hid w1
 have W2:=hid w2
 have W3:=hid w3
 have W4:=hid w4
 clear w1 w2 w3 w4 k1 k2
 have hi':(i:Int)<(ps.length:Int):=by omega
 have hi0:(0:Int)≤(i:Int):=by omega
 have hj':(j:Int)<(ps.length:Int):=by omega
 have hj0:(0:Int)≤(j:Int):=by omega
 go_enter Tryz.func75,Tryz.ntmps75
 go_wp2_with fail
 go_quiet (fail)
 generalize si - sj=d at *
 generalize ci+cj=e at *
 have w1:=W1.out
 have w2:=W2.out
 have w3:=W3.out
 have w4:=W4.out
 go_wp2_with fail
 go_ret
 exact ⟨by rw [HZ.out]; rfl,_,rfl⟩
def FM (n i:Nat) (z:Int):Bool:=decide (z<0) || (decide ((n:Int)≤z) || decide (z=(i:Int)))
def Nj (n i:Nat) (p:dH):Prop:=Small p∧p.bZ.length≤20∧p.bZ.any (FM n i)=false
def yZ (ps:List dH) (i j:Nat):Prop:=ji ps i j=ji ps j i∧ji ps i j≤1
def um (ps:List dH):Prop:=(2≤ps.length∧ps.length≤8)∧(∀ i,i<ps.length→Nj ps.length i (aZ ps i))∧∀ i,i<ps.length→∀ j,j<i→yZ ps i j
def gW (ps:List dH) (c:Int):Prop:=
 (c=0∧um ps)∨(c=2∧(¬ (2≤ps.length∧ps.length≤8)∨∃ i,i<ps.length∧20<(aZ ps i).bZ.length))∨(c=4∧∃ i,i<ps.length∧¬ Small (aZ ps i)) ∨
 (c=3∧((∃ i,i<ps.length∧(aZ ps i).bZ.any (FM ps.length i)=true)∨∃ i,i<ps.length∧∃ j,j<i∧ji ps i j≠ji ps j i))∨(c=7∧∃ i,i<ps.length∧∃ j,j<i∧1<ji ps i j)
theorem kZ.drewN {w:World} {s:Value} {ps:List dH} (h:kZ w s ps) (n:Nat):kZ (w.drewN n) s ps:=iC.below h (below_drewN (Below.refl w.heap.size w) n) (Nat.le_refl _)
theorem ai6 {P:Program} {f:FuncId} {args:Array Value} {w:World} {n:Nat} {v:Value} (h:Calls P f args (w.drewN n) fun e w'=>e=.returned v∧w.drewN n=w') :
  Calls P f args (w.drewN n) fun e w''=>e=.returned v∧∃ m,w''=w.drewN m:=h.mono fun _ _ ⟨he,hm⟩=>⟨he,n,hm.symm⟩
theorem Ve (a:Option Addr) (n c i:Nat) (B1 B2:Nat) (z:Int) (w:World) (h1:w.cell? ⟨B1,0,none⟩=some (.slice a n c)) (h2:w.cell? ⟨B2,0,none⟩=some (.int .i64 i)) :
  Calls Tryz.prog 71 #[.int .i64 z,.pointer (some ⟨B1,0,none⟩),.pointer (some ⟨B2,0,none⟩)] w fun e w'=>e=.returned (.bool (FM n i z))∧w=w':=by
 have H:Hid (FM n i z=(decide (z<0) || (decide ((n:Int)≤z) || decide (z=(i:Int))))):=hid rfl
 by_cases h3:z<0
 ·go_enter Tryz.func71,Tryz.ntmps71
  go_wp2
  go_ret
  exact ⟨by rw [H.out]; simp [h3],rfl⟩
 ·by_cases h4:(n:Int)≤z
  ·go_enter Tryz.func71,Tryz.ntmps71
   go_wp2
   go_ret
   exact ⟨by rw [H.out,decide_eq_true h4]; simp,rfl⟩
  ·by_cases h5:z=(i:Int)
   ·subst h5
    go_enter Tryz.func71,Tryz.ntmps71
    go_wp2
    go_ret
    exact ⟨by rw [H.out]; simp,rfl⟩
   ·have HK:Hid (FM n i z=decide (z=(i:Int))):=hid (by rw [H.out,decide_eq_false h3,decide_eq_false h4]; simp)
    go_enter Tryz.func71,Tryz.ntmps71
    go_wp2
    go_ret
    exact ⟨by rw [HK.out]; rfl,rfl⟩
theorem Vf (args:Array Value) (w:World):(callFunc 71 args).run Tryz.prog w=.ok (.enter 71 args) w:=by kernel_rfl
theorem adX {B:Nat} {w W:World} (h:Below B w W) (n:Nat):Below B w (W.drewN n):=⟨h.os,h.tape,h.output,h.size,h.block⟩
theorem rG (s:Value) (ps:List dH) (w:World) (h:kZ w s ps) :
  Calls Tryz.prog 29 #[s] w fun e w'=>∃ c:Int,e=.returned (.int .i64 c)∧gW ps c∧Below w.heap.size w w':=by
 obtain ⟨a,c,rfl,h1,h2⟩:=h.form
 unfold maxLen at h2
 rcases (by omega:ps.length<2∨(2≤ps.length∧8<ps.length)∨(2≤ps.length∧ps.length≤8)) with hn | ⟨hn,hn'⟩ | ⟨hn,hn'⟩
 ·have HL:Hid (gW ps 2):=hid (.inr (.inl ⟨rfl,.inl (by omega)⟩))
  have hn2:(ps.length:Int)<2:=by omega
  clear h hn
  go_enter Tryz.func29,Tryz.ntmps29
  go_wp2
  go_ret
  exact ⟨2,rfl,HL.out,(Below.refl _ _).alloc (by go_size) _⟩
 ·have HL:Hid (gW ps 2):=hid (.inr (.inl ⟨rfl,.inl (by omega)⟩))
  have hn2:¬ (ps.length:Int)<2:=by omega
  have hn3:(8:Int)<(ps.length:Int):=by omega
  clear h hn hn'
  go_enter Tryz.func29,Tryz.ntmps29
  go_wp2
  go_ret
  exact ⟨2,rfl,HL.out,(Below.refl _ _).alloc (by go_size) _⟩
 obtain ⟨g,o,rfl,hg,-⟩:=kZ.some h (by omega)
 have HR:=hid h
 have HN:Hid (2≤ps.length∧ps.length≤8):=hid ⟨hn,hn'⟩
 have hn2:¬ (ps.length:Int)<2:=by omega
 have hn3:¬ (8:Int)<(ps.length:Int):=by omega
 clear h hn hn'
 go_enter Tryz.func29,Tryz.ntmps29
 go_upto_region 1 with (fail)
 refine lX fun w0 B0 fJ hs_=>?_
 have HB:=hid fJ
 have hz0:w.heap.size<w0.heap.size:=by omega
 clear hs_ fJ
 have hz0':=hz0
 have HX:=hid B0
 have cz:=HX.out.cell 0 rfl
 clear B0
 go_upto_region 4 with (fail)
 clear cz
 go_loopw [17,3,4,22,41,46] (fun vi v3 v4 v22 v41 v46 wr=>∃ k:Nat,k≤ps.length∧vi=.int .i64 k∧Hid (∀ j,j<k→Nj ps.length j (aZ ps j))∧Hid (Box wr w.heap.size [.slice (some ⟨g,o,none⟩) ps.length c] 43)∧Hid (Below w.heap.size w wr)) (fun i _ _ _ _ _ _=>ps.length - (intOf i).toNat)
 case atStart=>exact ⟨0,Nat.zero_le _,rfl,hid (fun j hj=>absurd hj (by omega)),HX,HB⟩
 case round =>
  obtain ⟨k,hk,rfl,Hk,zB,bn⟩:=hrel
  have hxl:w.heap.size<wr.heap.size:=zB.out.lt
  by_cases hlt:k<ps.length
  ·obtain ⟨g',o',he,hg',hc⟩:=kZ.some (iC.below HR.out bn.out (Nat.le_refl _)) (by omega)
   simp only [Option.some.injEq,Addr.mk.injEq,and_true] at he
   obtain ⟨rfl,rfl⟩:=he
   obtain ⟨v,a0,a1,a2,a3,hv⟩:=hc k hlt
   obtain ⟨va,vc,rfl,hv1,hv2⟩:=hv.form
   unfold maxLen at hv2
   have HS:Hid (Nj ps.length k (aZ ps k)→∀ j,j<k+1→Nj ps.length j (aZ ps j)):=hid (fun h j hj=>by
    by_cases e:j=k
    ·subst e; exact h
    ·exact Hk.out j (by omega))
   have HB4:Hid (¬ Small (aZ ps k)→gW ps 4):=hid (fun h=>.inr (.inr (.inl ⟨rfl,k,hlt,h⟩)))
   have HB2:Hid (20<(aZ ps k).bZ.length→gW ps 2):=hid (fun h=>.inr (.inl ⟨rfl,.inr ⟨k,hlt,h⟩⟩))
   have HB3:Hid ((aZ ps k).bZ.any (FM ps.length k)=true→gW ps 3):=hid (fun h=>.inr (.inr (.inr (.inl ⟨rfl,.inl ⟨k,hlt,h⟩⟩))))
   have HV:=hid hv
   have PS:Hid (Small (aZ ps k)↔((0≤(aZ ps k).score∧(aZ ps k).score≤40)∧(-20≤(aZ ps k).colour∧(aZ ps k).colour≤20))):=hid Iff.rfl
   have HOO:Hid (Nj ps.length k (aZ ps k)↔(Small (aZ ps k)∧(aZ ps k).bZ.length≤20∧(aZ ps k).bZ.any (FM ps.length k)=false)):=hid Iff.rfl
   generalize (aZ ps k)=pk at *
   generalize Small pk=smk at *
   generalize pk.score=sc at *
   generalize pk.bZ=bZ at *
   generalize pk.colour=co at *
   generalize pk.dX=by' at *
   have hki:(k:Int)<(ps.length:Int):=by omega
   clear hc hv Hk
   go_upto_region 6 with (fail)
   have DT:=hid ((zB.out.alloc (.cells #[.int .i64 (k:Int)] 3)).alloc (.cells #[.int .i64 sc,.slice va bZ.length vc,.int .i64 co,.bool by'] 49))
   have HI6:=hid ((Box.new wr [.int .i64 (k:Int)] 3).alloc (.cells #[.int .i64 sc,.slice va bZ.length vc,.int .i64 co,.bool by'] 49))
   have HP6:Hid (Box ((wr.alloc (.cells #[.int .i64 (k:Int)] 3)).alloc (.cells #[.int .i64 sc,.slice va bZ.length vc,.int .i64 co,.bool by'] 49)) (wr.heap.size+1) [.int .i64 sc,.slice va bZ.length vc,.int .i64 co,.bool by'] 49):=hid (Box.new' _ _ _ _ (by simp))
   have Oo:=hid ((bn.out.alloc (bn.out.size) (.cells #[.int .i64 (k:Int)] 3)).alloc (by have:=bn.out.size; simp; omega) (.cells #[.int .i64 sc,.slice va bZ.length vc,.int .i64 co,.bool by'] 49))
   have HV6:=hid (HV.out.below (((Below.refl _ wr).alloc (Nat.le_refl _) (.cells #[.int .i64 (k:Int)] 3)).alloc (by simp) (.cells #[.int .i64 sc,.slice va bZ.length vc,.int .i64 co,.bool by'] 49)) (Nat.le_refl _))
   clear a0 a1 a2 a3 zB bn HV
   generalize ((wr.alloc (.cells #[.int .i64 (k:Int)] 3)).alloc (.cells #[.int .i64 sc,.slice va bZ.length vc,.int .i64 co,.bool by'] 49))=wa at *
   have p0:=HP6.out.cell 0 rfl
   have p1:=HP6.out.cell 1 rfl
   have p2:=HP6.out.cell 2 rfl
   by_cases hs:(0≤sc∧sc≤40)∧(-20≤co∧co≤20)
   rotate_left
   ·have HE:=hid (HB4.out (fun h=>hs (PS.out.1 h)))
    have hcs:sc<0∨(¬ sc<0∧40<sc)∨(¬ sc<0∧¬ 40<sc∧co < -20)∨(¬ sc<0∧¬ 40<sc∧¬ co < -20∧20<co):=by omega
    clear hs HB4 HB2 HB3 PS HOO HS
    rcases hcs with q | ⟨q,q2⟩ | ⟨q,q2,q3⟩ | ⟨q,q2,q3,q4⟩
    all_goals
     go_wp2_with fail
     go_ret
     exact ⟨4,rfl,HE.out,Oo.out⟩
   have HSK:=hid (PS.out.2 hs)
   obtain ⟨⟨s1,s2⟩,s3,s4⟩:=hs
   have q1:¬ sc<0:=by omega
   have q2:¬ 40<sc:=by omega
   have q3:¬ co < -20:=by omega
   have q4:¬ 20<co:=by omega
   by_cases hol:20<bZ.length
   ·have HE:=hid (HB2.out hol)
    have hob:(20:Int)<(bZ.length:Int):=by omega
    clear HB4 HB2 HB3 PS HOO HS
    go_wp2_with fail
    go_ret
    exact ⟨2,rfl,HE.out,Oo.out⟩
   have hob:¬ (20:Int)<(bZ.length:Int):=by omega
   have x0:=DT.out.cell 0 rfl
   have i0:=HI6.out.cell 0 rfl
   go_upto_region 10 with (fail)
   go_wp2_with fail
   refine (jF _ bZ (FM ps.length k) 71 #[.pointer (some ⟨w.heap.size,0,none⟩),.pointer (some ⟨wr.heap.size,0,none⟩)] wa HV6.out Vf (fun z _=>by exact Ve (some ⟨g,o,none⟩) ps.length c k w.heap.size wr.heap.size z wa x0 i0)).mono ?_
   rintro e w9 ⟨rfl,rfl⟩
   cases hany:bZ.any (FM ps.length k)
   rotate_left
   ·have HE:=hid (HB3.out hany)
    clear hany HB4 HB2 HB3 PS HOO HS
    go_wp2_with fail
    go_ret
    exact ⟨3,rfl,HE.out,Oo.out⟩
   have Lc:=hid (HS.out (HOO.out.2 ⟨HSK.out,by omega,hany⟩))
   clear hany HB4 HB2 HB3 PS HOO HS
   go_wp2_with fail
   go_roundw
   case rel=>exact ⟨k+1,by omega,by go_num,Lc,DT,Oo⟩
   case measure=>simp [intOf]; omega
  ·obtain rfl:k=ps.length:=by omega
   have x0:=zB.out.cell 0 rfl
   go_upto_region 14 with (fail)
   clear x0
   obtain ⟨wA,hwA⟩:∃ wA:World,wA=wr:=⟨_,rfl⟩
   rw [← hwA] at zB bn hxl ⊢
   clear hwA
   go_loopw [54,5,58,6] (fun vi v5 v58 v6 wr=>∃ i:Nat,i≤ps.length∧vi=.int .i64 i∧Hid (∀ i',i'<i→∀ j,j<i'→yZ ps i' j)∧Hid (Box wr w.heap.size [.slice (some ⟨g,o,none⟩) ps.length c] 43)∧Hid (Below w.heap.size w wr)) (fun i _ _ _ _=>ps.length - (intOf i).toNat)
   case atStart=>exact ⟨0,Nat.zero_le _,rfl,hid (fun j hj=>absurd hj (by omega)),zB,bn⟩
   case round =>
    obtain ⟨i,hi,rfl,Hi,mZ,HB2⟩:=hrel
    by_cases hil:i<ps.length
    ·have HJ:Hid ((∀ j,j<i→yZ ps i j)→∀ i',i'<i+1→∀ j,j<i'→yZ ps i' j):=hid (fun h i' hi' j hj=>by
      by_cases e:i'=i
      ·subst e; exact h j hj
      ·exact Hi.out i' (by omega) j hj)
     clear Hi
     have hii:(i:Int)<(ps.length:Int):=by omega
     go_upto_region 17 with (fail)
     obtain ⟨wB,hwB⟩:∃ wB:World,wB=wr:=⟨_,rfl⟩
     rw [← hwB] at mZ HB2 ⊢
     clear hwB
     go_loopw [58,6] (fun vj v6 wr=>∃ j:Nat,j≤i∧vj=.int .i64 j∧Hid (∀ j',j'<j→yZ ps i j')∧Hid (Box wr w.heap.size [.slice (some ⟨g,o,none⟩) ps.length c] 43)∧Hid (Below w.heap.size w wr)) (fun j _ _=>i - (intOf j).toNat)
     case atStart=>exact ⟨0,Nat.zero_le _,rfl,hid (fun j hj=>absurd hj (by omega)),mZ,HB2⟩
     case round =>
      obtain ⟨j,hj,rfl,Hj,zW,HB3⟩:=hrel
      by_cases hjl:j<i
      ·have x0:=zW.out.cell 0 rfl
       have HQ:=hid (iC.below HR.out HB3.out (Nat.le_refl _))
       have hji:(j:Int)<(i:Int):=by omega
       have HJJ:Hid (yZ ps i j→∀ j',j'<j+1→yZ ps i j'):=hid (fun h j' hj'=>by
        by_cases e:j'=j
        ·subst e; exact h
        ·exact Hj.out j' (by omega))
       have A8:Hid (ji ps i j≠ji ps j i→gW ps 3):=hid (fun h=>.inr (.inr (.inr (.inl ⟨rfl,.inr ⟨i,hil,j,hjl,h⟩⟩))))
       have HE7:Hid (1<ji ps i j→gW ps 7):=hid (fun h=>.inr (.inr (.inr (.inr ⟨rfl,i,hil,j,hjl,h⟩))))
       have HT:Hid (yZ ps i j↔(ji ps i j=ji ps j i∧ji ps i j≤1)):=hid Iff.rfl
       clear Hj
       go_upto_region 19 with (fail)
       have hjn:j<ps.length:=by omega
       have M1:=hid (fun n:Nat=>ai6 (Cj (.slice (some ⟨g,o,none⟩) ps.length c) ps i j (wr.drewN n) (kZ.drewN HQ.out n) hil))
       have M2:=hid (fun n:Nat=>ai6 (Cj (.slice (some ⟨g,o,none⟩) ps.length c) ps j i (wr.drewN n) (kZ.drewN HQ.out n) hjn))
       generalize ji ps i j=mij at *
       generalize ji ps j i=mji at *
       go_quiet ((go_at_call 72; first | with_reducible exact M1.out _ | with_reducible exact M2.out _))
       have x1:(wr.drewN nq).cell? ⟨w.heap.size,0,none⟩=some (.slice (some ⟨g,o,none⟩) ps.length c):=x0
       by_cases hm:mij=mji
       rotate_left
       ·have HE:=hid (A8.out hm)
        have hmb:((mij:Int) != (mji:Int))=true:=by simp; omega
        have HB4:=hid (adX HB3.out nq)
        clear hm A8 HE7 HT HJJ HJ
        go_wp2_with fail
        go_ret
        exact ⟨3,rfl,HE.out,HB4.out⟩
       subst hm
       go_wp2_with fail
       refine (M1.out nq).mono ?_
       rintro e w5 ⟨rfl,m5,rfl⟩
       have Ye:=hid (zW.out.drewN m5)
       have EY:=hid (adX HB3.out m5)
       by_cases h7:1<mij
       ·have HE:=hid (HE7.out h7)
        have h7b:(1:Int)<(mij:Int):=by omega
        clear h7 A8 HE7 HT HJJ HJ
        go_wp2_with fail
        go_ret
        exact ⟨7,rfl,HE.out,EY.out⟩
       have h7b:¬ (1:Int)<(mij:Int):=by omega
       have Zi:=hid (HJJ.out (HT.out.2 ⟨by first | trivial | rfl,by omega⟩))
       clear h7 A8 HE7 HT HJJ HJ x0 x1
       go_wp2_with fail
       go_roundw
       case rel=>exact ⟨j+1,by omega,by go_num,Zi,Ye,EY⟩
       case measure=>simp [intOf]; omega
      ·obtain rfl:j=i:=by omega
       have Lc:=hid (HJ.out Hj.out)
       have hji:¬ (j:Int)<(j:Int):=by omega
       clear HJ Hj
       go_wp2_with fail
       go_roundw
       case rel=>exact ⟨j+1,by omega,by go_num,Lc,zW,HB3⟩
       case measure=>simp [intOf]; omega
    ·obtain rfl:i=ps.length:=by omega
     have OB:Hid (gW ps 0):=hid (.inl ⟨rfl,HN.out,Hk.out,Hi.out⟩)
     clear Hk Hi
     go_wp2_with fail
     go_ret
     exact ⟨0,rfl,OB.out,HB2.out⟩
end Go.Proofs.YteablcielclaeaaGreatDoor
namespace Go.Proofs.YteablcielclaeaaGreatDoor
open Go.ChangeShapes Go.WideShapes Go.ChangeAt Go.RowKit
set_option linter.unusedVariables false
open Go.Lib (hid)
def lq (x:Int):List Int→Int→Int
 | [],_=>-1
 | z :: t,k=>if (x == z)=true then k else lq x t (k+1)
theorem Nk (x:Int):∀ (l:List Int) (k:Int),0≤k→(decide (0≤lq x l k)=l.any (fun z=>x == z))
 | [],k,_=>by simp [lq]
 | z :: t,k,hk=>by
  have ih:=Nk x t (k+1) (by omega)
  unfold lq
  cases h:(x == z)
  ·simpa [h] using ih
  ·simp [h,hk]
theorem Vg (x:Int) (zs:List Int) (k:Nat) (h:k<zs.length):lq x (zs.drop k) k=if (x == zs.getD k 0)=true then (k:Int) else lq x (zs.drop (k+1)) ((k+1:Nat):Int):=by
 rw [List.drop_eq_getElem_cons h,lq]
 simp [List.getD,List.getElem?_eq_getElem h]
theorem uO (v:Value) (zs:List Int) (x:Int) (w:World) (h:fQ w v zs) :
  Calls Tryz.prog 74 #[v,.int .i64 x] w fun e w'=>e=.returned (.int .i64 (lq x zs 0))∧w=w':=by
 obtain ⟨a,c,rfl,h1,h2⟩:=h.form
 unfold maxLen at h2
 have HR:=hid h
 clear h
 go_enter Tryz.func74,Tryz.ntmps74
 go_wp2_with fail
 go_loop [8] (fun i=>∃ k:Nat,k≤zs.length∧i=.int .i64 k∧Hid (lq x zs 0=lq x (zs.drop k) k)) (fun i=>zs.length - (intOf i).toNat)
 case atStart=>exact ⟨0,Nat.zero_le _,rfl,hid rfl⟩
 case round =>
  obtain ⟨k,hk,rfl,HK⟩:=hrel
  by_cases hlt:k<zs.length
  ·obtain ⟨g,o,c',he,_,_,_,hcell⟩:=HR.out.some (by omega)
   simp only [Value.slice.injEq] at he
   obtain ⟨rfl,_,rfl⟩:=he
   have ck:=hcell k hlt
   have HS:=hid (Vg x zs k hlt)
   clear hcell
   generalize zs.getD k 0=z at *
   cases hp:(x == z)
   ·go_wp2_with fail
    go_round
    case rel=>exact ⟨k+1,by omega,by go_num,hid (by rw [HK.out,HS.out,if_neg (by simp [hp])])⟩
    case measure=>simp [intOf]; omega
   ·go_wp2_with fail
    go_ret
    exact ⟨by rw [HK.out,HS.out,if_pos hp]; rfl,rfl⟩
  ·obtain rfl:k=zs.length:=by omega
   go_wp2_with fail
   go_ret
   exact ⟨by rw [HK.out]; simp [lq],rfl⟩
def jX (ps:List dH):Nat→Bool→Int→List Int→(Option (List Int)×Int)→(Option (List Int)×Int)
 | 0,_,_,_,b=>b
 | f+1,dX,sum,bU,b =>
  if lq (-1) bU 0<0 then (if b.1=none∨sum<b.2 then (some bU,sum) else b)
  else
   let i:=(lq (-1) bU 0).toNat
   let b':=(List.range' (i+1) (ps.length - (i+1))).foldl (fun b j=>if bU.getD j 0<0∧ji ps i j=0 then jX ps f dX (sum+oJ ps i j) ((bU.set i j).set j i) b else b) b
   if dX=true∧(aZ ps i).dX=false then jX ps f false (sum+100 * (aZ ps i).score * (aZ ps i).score) (bU.set i ps.length) b' else b'
def Bf (ps:List dH):Option (List Int)×Int:=jX ps (ps.length+1) (decide (ps.length % 2=1)) 0 (List.replicate ps.length (-1)) (none,0)
theorem xA (x:Int):∀ (l:List Int) (k:Nat),0≤lq x l k→∃ i:Nat,lq x l k=(k+i:Nat)∧i<l.length∧l.getD i 0=x
 | [],k,h=>by unfold lq at h; omega
 | z :: t,k,h=>by
  unfold lq at h ⊢
  by_cases q:(x == z)=true
  ·rw [if_pos q]
   exact ⟨0,rfl,by simp,by simpa using (beq_iff_eq.1 q).symm⟩
  ·rw [if_neg q] at h ⊢
   obtain ⟨i,h1,h2,h3⟩:=xA x t (k+1) h
   exact ⟨i+1,by rw [show ((k:Int)+1)=((k+1:Nat):Int) by omega] at *; rw [h1]; omega,by simpa using h2,by simpa using h3⟩
theorem Hr (x:Int):∀ (l:List Int) (k:Nat),lq x l k<0→∀ i,i<l.length→l.getD i 0≠x
 | [],k,_,i,hi=>absurd hi (by simp)
 | z :: t,k,h,i,hi=>by
  unfold lq at h
  by_cases q:(x == z)=true
  ·rw [if_pos q] at h; omega
  ·rw [if_neg q] at h
   rcases i with _ | i
   ·simpa using fun e=>q (by simp [e])
   ·simpa using Hr x t (k+1) h i (by simpa using hi)
def Two (b h:Nat):Nat→Prop:=fun k=>k=b∨k=h
def Jv (S:Nat→Prop) (w:World) (vb:Value) (bo:Option (List Int)):Prop:=
 (bo=none∧vb=.slice none 0 0)∨∃ (l:List Int) (g c:Nat),bo=some l∧vb=.slice (some ⟨g,0,none⟩) l.length c∧Held S w (fun w'=>fQ w' vb l)
theorem Jv.step {S:Nat→Prop} {w w':World} {vb:Value} {bo:Option (List Int)} (h:Jv S w vb bo) (hf:Fr S w w'):Jv S w' vb bo:=by
 rcases h with h | ⟨l,g,c,h1,h2,h3⟩
 ·exact .inl h
 ·exact .inr ⟨l,g,c,h1,h2,h3.step hf (iE.refl _ _)⟩
structure St (ps:List dH) (va:Option Addr) (vc b h:Nat) (bU:List Int) (vb:Value) (bst:Option (List Int)×Int) (w:World):Prop where
 ne:b≠h
 box:Box w b [.slice va ps.length vc,.slice (some ⟨h,0,none⟩) ps.length ps.length,vb,.int .i64 bst.2] 106
 wit:Box w h (ints bU) 3
 rd:Held (Two b h) w (fun w'=>kZ w' (.slice va ps.length vc) ps)
 best:Jv (Two b h) w vb bst.1
theorem St.setW {ps:List dH} {va:Option Addr} {vc b h:Nat} {bU:List Int} {vb:Value} {bst:Option (List Int)×Int} {w:World} (s:St ps va vc b h bU vb bst w) (k:Nat) (v:Int):St ps va vc b h (bU.set k v) vb bst (w.setCell ⟨h,k,none⟩ (.int .i64 v)):=by
 have hf:Fr (Two b h) w (w.setCell ⟨h,k,none⟩ (.int .i64 v)):=(Fr.refl _ w).setCell (.inr rfl) _
 exact ⟨s.ne,s.box.far _ _ s.ne,by rw [← ints_set]; exact s.wit.set k _,s.rd.step hf (iE.refl _ _),s.best.step hf⟩
theorem St.same {ps:List dH} {va:Option Addr} {vc b h:Nat} {bU:List Int} {vb:Value} {bst:Option (List Int)×Int} {w w':World} (s:St ps va vc b h bU vb bst w) (hb:Below w.heap.size w w'):St ps va vc b h bU vb bst w':=
 ⟨s.ne,s.box.stays hb,s.wit.stays hb,s.rd.step (Fr.jM hb) (iE.refl _ _),s.best.step (Fr.jM hb)⟩
theorem St.drewN {ps:List dH} {va:Option Addr} {vc b h:Nat} {bU:List Int} {vb:Value} {bst:Option (List Int)×Int} {w:World} (s:St ps va vc b h bU vb bst w) (n:Nat):St ps va vc b h bU vb bst (w.drewN n):=s.same (below_drewN (Below.refl _ _) n)
theorem St.drew {ps:List dH} {va:Option Addr} {vc b h:Nat} {bU:List Int} {vb:Value} {bst:Option (List Int)×Int} {w:World} (s:St ps va vc b h bU vb bst w):St ps va vc b h bU vb bst w.drew:=s.same (below_drewN (Below.refl _ _) 1)
theorem St.news {ps:List dH} {va:Option Addr} {vc b h:Nat} {bU:List Int} {vb:Value} {bst:Option (List Int)×Int} {w w1:World} (s:St ps va vc b h bU vb bst w) (hl:bU.length=ps.length) (hp:0<ps.length) {v':Value} (ho:w1.ownsRow w.heap.size 3 1 v' bU.length (ints bU)) (hb:Below w.heap.size w w1) (sum:Int) :
  St ps va vc b h bU v' (some bU,sum) ((w1.setCell ⟨b,2,none⟩ v').setCell ⟨b,3,none⟩ (.int .i64 sum))∧Fr (Two b h) w ((w1.setCell ⟨b,2,none⟩ v').setCell ⟨b,3,none⟩ (.int .i64 sum)):=by
 have s1:=s.same hb
 have hf:Fr (Two b h) w1 ((w1.setCell ⟨b,2,none⟩ v').setCell ⟨b,3,none⟩ (.int .i64 sum)):=((Fr.refl _ w1).setCell (.inl rfl) _).setCell (.inl rfl) _
 have hbl:=s.box.lt
 have hhl:=s.wit.lt
 refine ⟨⟨s.ne,(s1.box.set 2 v').set 3 _,(s1.wit.far _ _ s.ne.symm).far _ _ s.ne.symm,s1.rd.step hf (iE.refl _ _),.inr ?_⟩,(Fr.jM hb).trans hf (iE.refl _ _)⟩
 have hH:Held (Two b h) w1 fun w'=>fQ w' v' bU:=(BQ ho (fun k h1 h2 hk=>by rcases hk with e | e <;> omega)).imp (fun _ h=>fQ.dB h)
 rcases ho.2 with ⟨-,h0⟩ | ⟨g',c',cur,hv,-⟩
 ·omega
 ·exact ⟨bU,g',c',rfl,hv,hH.step hf (iE.refl _ _)⟩
def Neg (bU:List Int):Prop:=∀ k,bU.getD k 0<0→bU.getD k 0 = -1
theorem jY (l:List Int) (i k:Nat) (v:Int) (h:i<l.length):(l.set i v).getD k 0=if k=i then v else l.getD k 0:=by
 simp only [List.getD_eq_getElem?_getD,List.getElem?_set]
 by_cases e:i=k
 ·subst e; simp [h]
 ·rw [if_neg e,if_neg (fun h=>e h.symm)]
theorem set_self (l:List Int) (i:Nat) (v:Int) (h:i<l.length) (hv:l.getD i 0=v):l.set i v=l:=by
 rw [List.getD_eq_getElem?_getD,List.getElem?_eq_getElem h] at hv
 subst hv
 simp
theorem ai9 (l:List Int) (i:Nat) (v:Int) (h:i<l.length) (hv:l.getD i 0 = -1):(l.set i v).set i (-1)=l:=by
 rw [List.set_set,set_self l i (-1) h hv]
theorem aja (l:List Int) (i j:Nat) (u v:Int) (hne:i≠j) (hi:i<l.length) (hj:j<l.length) (hvi:l.getD i 0 = -1) (hvj:l.getD j 0 = -1):(((l.set i u).set j v).set i (-1)).set j (-1)=l:=by
 rw [List.set_comm v (-1) (fun e=>hne e.symm),List.set_set,List.set_set,set_self l i (-1) hi hvi,set_self l j (-1) hj hvj]
def kN (bU:List Int):Nat:=bU.count (-1)
theorem nG (l:List Int) (i:Nat) (v:Int) (h:i<l.length) (hv:0≤v) (hi:l.getD i 0 = -1):kN (l.set i v)+1=kN l:=by
 unfold kN
 rw [List.getD_eq_getElem?_getD,List.getElem?_eq_getElem h] at hi
 rw [List.count_set h]
 have h1:l[i] = -1:=hi
 have h2:0<List.count (-1) l:=List.count_pos_iff.2 (by rw [← h1]; exact List.getElem_mem h)
 have h3:(v == (-1:Int))=false:=by simp; omega
 rw [h1,h3]
 simp
 omega
theorem Neg.set {l:List Int} (h:Neg l) (i:Nat) (v:Int) (hv:0≤v):Neg (l.set i v):=by
 intro k hk
 by_cases hi:i<l.length
 ·rw [jY l i k v hi] at hk ⊢
  by_cases e:k=i
  ·rw [if_pos e] at hk; omega
  ·rw [if_neg e] at hk ⊢; exact h k hk
 ·rw [List.set_eq_of_length_le (by omega)] at hk ⊢; exact h k hk
def Ep (ps:List dH) (f:Nat) (dX:Bool) (sum:Int) (bU:List Int) (i:Nat) (bst:Option (List Int)×Int) (j:Nat):Option (List Int)×Int:=
 if bU.getD j 0<0∧ji ps i j=0 then jX ps f dX (sum+oJ ps i j) ((bU.set i j).set j i) bst else bst
def jJ (ps:List dH) (f:Nat) (dX:Bool) (sum:Int) (bU:List Int) (i k:Nat) (bst:Option (List Int)×Int):Option (List Int)×Int:=
 (List.range' k (ps.length - k)).foldl (Ep ps f dX sum bU i) bst
theorem Ht (ps:List dH) (f:Nat) (dX:Bool) (sum:Int) (bU:List Int) (i k:Nat) (bst:Option (List Int)×Int) (h:k<ps.length) :
  jJ ps f dX sum bU i k bst=jJ ps f dX sum bU i (k+1) (Ep ps f dX sum bU i bst k):=by
 unfold jJ
 rw [show ps.length - k=(ps.length - (k+1))+1 by omega,List.range'_succ,List.foldl_cons]
theorem Nl (ps:List dH) (f:Nat) (dX:Bool) (sum:Int) (bU:List Int) (i:Nat) (bst:Option (List Int)×Int):jJ ps f dX sum bU i ps.length bst=bst:=by
 unfold jJ; simp
theorem Hw (ps:List dH) (f:Nat) (dX:Bool) (sum:Int) (bU:List Int) (bst:Option (List Int)×Int) (h:lq (-1) bU 0<0):jX ps (f+1) dX sum bU bst=if bst.1=none∨sum<bst.2 then (some bU,sum) else bst:=by
 rw [jX,if_pos h]
theorem Hz (ps:List dH) (f:Nat) (dX:Bool) (sum:Int) (bU:List Int) (bst:Option (List Int)×Int) (i:Nat) (h:lq (-1) bU 0=i):jX ps (f+1) dX sum bU bst =
  if dX=true∧(aZ ps i).dX=false then jX ps f false (sum+100 * (aZ ps i).score * (aZ ps i).score) (bU.set i ps.length) (jJ ps f dX sum bU i (i+1) bst) else jJ ps f dX sum bU i (i+1) bst:=by
 rw [jX,if_neg (by omega),h]
 rfl
def SearchSaid (ps:List dH) (g o vc b h:Nat) (f:Nat):Prop:=∀ (bU:List Int) (dX:Bool) (sum:Int) (bst:Option (List Int)×Int) (vb:Value) (w:World),bU.length=ps.length→kN bU<f→Neg bU→0≤sum→sum+200000 * (kN bU:Int)≤10000000→St ps (some ⟨g,o,none⟩) vc b h bU vb bst w →
 Calls Tryz.prog 31 #[.pointer (some ⟨b,0,none⟩),.bool dX,.int .i64 sum] w fun e w'=>e=.returned (.tuple #[])∧∃ vb',St ps (some ⟨g,o,none⟩) vc b h bU vb' (jX ps f dX sum bU bst) w'∧Fr (Two b h) w w'
set_option maxRecDepth 100000 in
set_option maxHeartbeats 8000000 in
theorem Np (ps:List dH) (g o vc b h f:Nat) (hn2:2≤ps.length) (MG:ps.length≤8) (bU:List Int) (dX:Bool) (sum:Int) (bst:Option (List Int)×Int) (vb:Value) (w:World) (hl:bU.length=ps.length) (hs:St ps (some ⟨g,o,none⟩) vc b h bU vb bst w) (hx:lq (-1) bU 0<0) :
 Calls Tryz.prog 31 #[.pointer (some ⟨b,0,none⟩),.bool dX,.int .i64 sum] w fun e w'=>e=.returned (.tuple #[])∧∃ vb',St ps (some ⟨g,o,none⟩) vc b h bU vb' (jX ps (f+1) dX sum bU bst) w'∧Fr (Two b h) w w':=by
 have hrd:fQ w (.slice (some ⟨h,0,none⟩) ps.length ps.length) bU:=by
  refine ⟨by rw [nR]; omega,.inr ⟨h,0,ps.length,by rw [hl],by omega,by unfold maxLen; omega,fun i hi=>?_⟩⟩
  rw [Nat.zero_add,hs.wit.cell i (dI bU i (by omega)),dI bU i (by omega)]
 have HR:=hid hrd
 have HS:=hid hs
 have HL:=hid hl
 have q0:=hs.box.cell 0 rfl
 have q1:=hs.box.cell 1 rfl
 have q2:=hs.box.cell 2 rfl
 have q3:=hs.box.cell 3 rfl
 have HF:=hid (Hw ps f dX sum bU bst hx)
 have H6:=hs.best
 obtain ⟨ix,hix⟩:∃ ix,lq (-1) bU 0=ix:=⟨_,rfl⟩
 rw [hix] at hx
 have HIX:=hid hix
 have hq:=fun (w:World) (a:Option Addr) (n c:Nat)=>Lib.run_eql_slice_nil (P:=Tryz.prog) w 22 3 a n c 0 0 Tryz.underlying22
 obtain ⟨bo,lv⟩:=bst
 have hcs:(bo=none∨sum<lv)∨¬ (bo=none∨sum<lv):=Classical.em _
 clear hs hrd hl hix
 rcases hcs with hnew | hold
 ·have HFn:Hid (jX ps (f+1) dX sum bU (bo,lv)=(some bU,sum)):=hid (by rw [HF.out,if_pos hnew])
  clear HF
  have aot:(∃ (c:Nat),vb=.slice none 0 0)∨(∃ (l:List Int) (g' c':Nat),vb=.slice (some ⟨g',0,none⟩) l.length c'∧sum<lv):=by
   rcases H6 with ⟨rfl,rfl⟩ | ⟨l,g',c',rfl,rfl,-⟩
   ·exact .inl ⟨0,rfl⟩
   ·exact .inr ⟨l,g',c',rfl,by rcases hnew with h | h; cases h; exact h⟩
  clear H6 hnew
  rcases aot with ⟨-,rfl⟩ | ⟨l,g',c',rfl,hlt⟩
  all_goals
   go_enter Tryz.func31,Tryz.ntmps31
   go_upto_region 3 with (go_at_call 74; refine (uO _ bU (-1) _ HR.out).mono ?_; rintro e w' ⟨rfl,rfl⟩; rw [HIX.out])
   go_wp2_with (go_at_call 22; refine (lJ _ bU _ HR.out (by have:=HL.out; omega)).mono ?_; rintro e w1 ⟨v',rfl,ho,hb⟩; obtain ⟨av,cv,rfl⟩:=aG ho; have HN:=hid (HS.out.news HL.out (by omega) ho hb sum); have BI:=HS.out.same hb; have z2:=BI.box.cell 2 rfl; have z3:=(BI.box.set 2 (.slice av bU.length cv)).cell 3 rfl; have f2:=BI.box.frozen 2; have f3:=(BI.box.set 2 (.slice av bU.length cv)).frozen 3; clear ho hb BI)
   refine bodyPost_ret (v:=.tuple #[]) (by simp [results,Tryz.results31,go_sem]) rfl ?_
   exact ⟨rfl,_,by rw [HFn.out]; exact HN.out.1,HN.out.2⟩
 ·have HFo:Hid (jX ps (f+1) dX sum bU (bo,lv)=(bo,lv)):=hid (by rw [HF.out,if_neg hold])
  clear HF
  obtain ⟨l,g',c',rfl,rfl,hlt⟩:∃ (l:List Int) (g' c':Nat),bo=some l∧vb=.slice (some ⟨g',0,none⟩) l.length c'∧¬ sum<lv:=by
   rcases H6 with ⟨rfl,rfl⟩ | ⟨l,g',c',rfl,rfl,-⟩
   ·exact absurd (.inl rfl) hold
   ·exact ⟨l,g',c',rfl,rfl,fun h=>hold (.inr h)⟩
  clear H6 hold
  go_enter Tryz.func31,Tryz.ntmps31
  go_wp2_with (go_at_call 74; refine (uO _ bU (-1) _ HR.out).mono ?_; rintro e w' ⟨rfl,rfl⟩; rw [HIX.out])
  refine bodyPost_ret (v:=.tuple #[]) (by simp [results,Tryz.results31,go_sem]) rfl ?_
  exact ⟨rfl,_,by rw [HFo.out]; exact HS.out,Fr.refl _ _⟩
end Go.Proofs.YteablcielclaeaaGreatDoor

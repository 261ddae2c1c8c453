/- MaH, MaI, MaJ, JouEq, Frame, JouBase, MaN. -/
import Derived.Test.YteablcielclaeaaGreatDoorP21
import Derived.Lib.LaidTab
import Derived.Lib.Join
import Derived.Carry
import Derived.Deep.Slices
import Derived.Deep.Strs
import Derived.ChangeMaps5
namespace Go.Proofs.YteablcielclaeaaGreatDoor
open Go.ChangeShapes Go.WideShapes Go.ChangeAt Go.RowKit
set_option linter.unusedVariables false
set_option maxHeartbeats 16000000
set_option maxRecDepth 100000
variable {X S:Nat→Prop} {base b:Nat} {M:aP} {B:kM}
end Go.Proofs.YteablcielclaeaaGreatDoor
namespace Go.Proofs.YteablcielclaeaaGreatDoor
open Go.ChangeShapes Go.WideShapes Go.ChangeAt Go.RowKit
set_option linter.unusedVariables false
variable {X S:Nat→Prop} {base b:Nat} {M:aP} {B:kM}
structure EvPre (M:aP) (ev:yA):Prop where
 nm:M.R.name.size≤maxLen
 cr:BX M.CR
 ck:tH M.CR M.clk
 sn:M.clk.since≤ev.now
 nw:ev.now≤100000000
 og:qF M.off
 pr:pq M.aX
 pl:ev.aV=0∨ev.aV=1
 gm:M.game=0
 mid:ev.kind=0→Mid M ev.now
def KindSaid (M:aP) (ev:yA):Prop:=∀ (X S:Nat→Prop) (base b:Nat) (B:kM) (w:World),aY X S base w b M B→base≤w.heap.size→EvPre M ev →
  Calls Tryz.prog 49 #[.pointer (some ⟨b,0,none⟩),.agg #[.int .i64 ev.kind,.int .i64 ev.aV,.int .i64 ev.n,.int .i64 ev.now,.int .i64 ev.m.src,.int .i64 ev.m.dst,.int .i64 ev.m.piece]] w fun e w'=>e=.returned (.int .i64 (M.kind ev).2)∧AZ X S base b w (M.kind ev).1 w'
end Go.Proofs.YteablcielclaeaaGreatDoor
namespace Go.Proofs.YteablcielclaeaaGreatDoor
open Go.ChangeShapes Go.WideShapes Go.ChangeAt Go.RowKit
set_option linter.unusedVariables false
open Go.Lib (hid)
def Tab (base:Nat) (w:World):Prop:=Lib.TabIs Tryz.prog w "internal/strconv.uint64pow10" .u64 Lib.pow10Tab∧∀ g,Tryz.prog.globalNamed "internal/strconv.uint64pow10" = some g→g<base
theorem Tab.below {base:Nat} {w w':World} (h:Tab base w) (hb:Below base w w'):Tab base w':=by
 refine ⟨?_,h.2⟩
 obtain ⟨h1,h2⟩:=h
 unfold Lib.TabIs World.var? at h1 ⊢
 cases hg:Tryz.prog.globalNamed "internal/strconv.uint64pow10" with
 | none=>rw [hg] at h1; cases h1
 | some g=>rw [hg] at h1; simp only [Option.bind_some] at h1 ⊢; rw [hb.block g (h2 g hg)]; exact h1
def ItoaSaid:Prop:=∀ (n:Int) (w:World),-9223372036854775808≤n→n≤9223372036854775807→Lib.TabIs Tryz.prog w "internal/strconv.uint64pow10" .u64 Lib.pow10Tab →
 Calls Tryz.prog 46 #[.int .i64 n] w fun e w'=>e=.returned (.string ⟨(Lib.itoa n).toArray⟩)∧Below w.heap.size w w'
def yL (ss:List ByteArray):List Value:=ss.map Value.string
def qG:Prop:=∀ (base:Nat) (v:Value) (xs:List ByteArray) (sep:ByteArray) (w:World),w.ownsRow base 9 1 v xs.length (yL xs)→xs.length≤1000→(∀ x∈xs,x.size≤1000000)→sep.size≤1000 →
 Calls Tryz.prog 55 #[v,.string sep] w fun e w'=>e=.returned (.string ⟨(Lib.join (xs.map (·.data.toList)) sep.data.toList).toArray⟩)∧Below w.heap.size w w'
def yM (ev:yA):List Int:=[ev.kind,ev.aV,ev.n,ev.now,ev.m.src,ev.m.dst,ev.m.piece]
def Ut (ev:yA):Prop:=∀ x∈yM ev,-9223372036854775808≤x∧x≤9223372036854775807
def Qb (n:Int):ByteArray:=⟨(Lib.itoa n).toArray⟩
theorem Uu:(Tryz.prog.info? 9).map (fun i=>(i.zero,i.size,i.bytes))=some (some (.string ByteArray.empty),1,16):=by kernel_rfl
theorem Yn {s:ByteArray}:∀ u∈[Value.string s],u.oneCell'=true:=by intro u hu; simp at hu; rw [hu]; rfl
theorem Qc (l:List ByteArray) (x:ByteArray):yL l++[.string x]=yL (l++[x]):=by simp [yL]
theorem ixE (a0 a1 a2 a3 a4 a5 a6:Int):∀ (k:Nat),k<7→∀ w:World,(Instr.index 210 (.agg #[.int .i64 a0,.int .i64 a1,.int .i64 a2,.int .i64 a3,.int .i64 a4,.int .i64 a5,.int .i64 a6]) (.int .i64 k)).run Tryz.prog w=.ok (.int .i64 ([a0,a1,a2,a3,a4,a5,a6].getD k 0)) w
 | 0,_,w=>by kernel_rfl
 | 1,_,w=>by kernel_rfl
 | 2,_,w=>by kernel_rfl
 | 3,_,w=>by kernel_rfl
 | 4,_,w=>by kernel_rfl
 | 5,_,w=>by kernel_rfl
 | 6,_,w=>by kernel_rfl
theorem I4:∀ (k u:Nat),u<10 ^ (k+1)→Lib.nDigits u≤k+1
 | 0,u,h=>by rw [Lib.nDigits_small (by simpa using h)]; exact Nat.le_refl _
 | k+1,u,h=>by
  by_cases q:u<10
  ·rw [Lib.nDigits_small q]; omega
  ·rw [Lib.nDigits_big q]
   have:=I4 k (u / 10) (by rw [Nat.pow_succ] at h; omega)
   omega
theorem Yo (n:Int) (h0 : -9223372036854775808≤n) (h1:n≤9223372036854775807):(Qb n).size≤20:=by
 show (Lib.itoa n).toArray.size≤20
 rw [List.size_toArray]
 unfold Lib.itoa
 split
 ·rw [List.length_cons]
  rw [Lib.decDigits_length]
  have:=I4 18 n.natAbs (show n.natAbs<10000000000000000000 by omega)
  omega
 ·rw [Lib.decDigits_length]
  have:=I4 18 n.toNat (show n.toNat<10000000000000000000 by omega)
  omega
set_option maxRecDepth 100000 in
set_option maxHeartbeats 8000000 in
theorem zY (HI:ItoaSaid) (HJ:qG) (ev:yA) (w:World) (hT:Tab w.heap.size w) (hok:Ut ev):Calls Tryz.prog 50 #[.agg #[.int .i64 ev.kind,.int .i64 ev.aV,.int .i64 ev.n,.int .i64 ev.now,.int .i64 ev.m.src,.int .i64 ev.m.dst,.int .i64 ev.m.piece]] w fun e w'=>e=.returned (.string (gV ev))∧Below w.heap.size w w':=by
 have HIh:=hid HI
 have HJh:=hid HJ
 have HT:=hid hT
 have HO:=hid hok
 have DV:Hid (gV ev=⟨(Lib.join (((yM ev).map Qb).map (·.data.toList)) [32]).toArray⟩):=hid (by simp [gV,yM,Qb,Lib.join,List.intercalate,List.intersperse])
 have hix:=ixE ev.kind ev.aV ev.n ev.now ev.m.src ev.m.dst ev.m.piece
 have HIx:=hid hix
 clear HI HJ hT hok hix
 go_enter Tryz.func50,Tryz.ntmps50
 go_upto_region 1 with (fail)
 refine lX fun w0 vZ fJ hs_=>?_
 have wV:=hid vZ
 have HB0:=hid fJ
 clear hs_ vZ fJ
 have e0:=wV.out.cell 0 rfl
 have e1:=wV.out.cell 1 rfl
 have e2:=wV.out.cell 2 rfl
 have e3:=wV.out.cell 3 rfl
 have e4:=wV.out.cell 4 rfl
 have e5:=wV.out.cell 5 rfl
 have e6:=wV.out.cell 6 rfl
 go_wp2_with fail
 clear e0 e1 e2 e3 e4 e5 e6
 have ab3:Hid (w0.ownsRow w.heap.size 9 1 (.slice none 0 0) 0 (yL [])):=hid (World.ownsRow_nil _ _ _ _)
 go_loopw [24,3,5] (fun v24 v3 v5 wr=>∃ (k:Nat) (o3 o5:Value),o3=v3∧o5=v5∧k≤7∧v24=.int .i64 k∧Hid (wr.ownsRow w.heap.size 9 1 o3 k (yL (((yM ev).map Qb).take k)))∧Hid (Below w.heap.size w wr)) (fun v _ _ _=>7 - (intOf v).toNat)
 case atStart=>exact ⟨0,_,_,rfl,rfl,Nat.zero_le _,rfl,ab3,HB0⟩
 case round =>
  obtain ⟨k,o3,o5,rfl,rfl,hk,rfl,HR,bn⟩:=hrel
  by_cases hlt:k<7
  ·have hlI:(k:Int)<7:=by omega
   have HLk:=hid hlt
   have hi:=HIx.out k hlt
   have HX:Hid (-9223372036854775808≤(yM ev).getD k 0∧(yM ev).getD k 0≤9223372036854775807):=hid (HO.out _ (by rw [List.getD_eq_getElem?_getD,List.getElem?_eq_getElem (show k<(yM ev).length from hlt)]; exact List.getElem_mem _))
   have HS2:Hid (((yM ev).map Qb).take (k+1)=((yM ev).map Qb).take k++[Qb ((yM ev).getD k 0)]):=hid (by
    have hl:k<((yM ev).map Qb).length:=by rw [List.length_map]; exact hlt
    rw [List.take_succ_eq_append_getElem hl,List.getElem_map,List.getD_eq_getElem?_getD,List.getElem?_eq_getElem (show k<(yM ev).length from hlt)]; rfl)
   rw [show [ev.kind,ev.aV,ev.n,ev.now,ev.m.src,ev.m.dst,ev.m.piece]=yM ev from rfl] at hi
   generalize (yM ev).getD k 0=x at *
   clear hlt
   go_wp2_with fail
   refine (HIh.out x wr HX.out.1 HX.out.2 (HT.out.below bn.out).1).mono ?_
   rintro e w1 ⟨rfl,hb1⟩
   have HB1:=hid (ak bn.out hb1 bn.out.size)
   have HR1:=hid (aS HR.out hb1)
   have hsz:w.heap.size≤w1.heap.size:=HB1.out.size
   rw [show (⟨(Lib.itoa x).toArray⟩:ByteArray)=Qb x from rfl]
   generalize Qb x=tx at *
   clear hb1 HR hi
   have aiv:k+1≤100000000:=by omega
   go_wp2_with (at_builtin; refine fV 155 9 (.string ByteArray.empty) 1 16 Uu Tryz.underlying155 rfl (by decide) (by rfl) _ _ (by rfl) w.heap.size _ k _ [.string tx] w1 HR1.out hsz rfl Yn aiv (by omega) (by rfl) (by rfl) ?_)
   intro g cap w2 hown2 Yp anE
   have HB2:=hid (Yp.below HB1.out (Nat.le_refl _))
   have HR2:Hid (w2.ownsRow w.heap.size 9 1 (.slice (some ⟨g,0,none⟩) (k+1) cap) (k+1) (yL (((yM ev).map Qb).take (k+1)))):=hid (by rw [HS2.out,← Qc]; exact hown2)
   clear hown2 Yp anE
   go_wp2_with fail
   go_roundw
   case rel=>exact ⟨k+1,_,_,rfl,rfl,by have:=HLk.out; omega,by go_num,HR2,HB2⟩
   case measure=>have:=HLk.out; simp [intOf]; omega
  obtain rfl:k=7:=by omega
  have Gv:Hid (wr.ownsRow w.heap.size 9 1 o3 ((yM ev).map Qb).length (yL ((yM ev).map Qb))):=hid (by have:=HR.out; rwa [List.take_of_length_le (by simp [yM])] at this)
  have hlI:¬ ((7:Nat):Int)<7:=by decide
  go_wp2_with fail
  refine (HJh.out w.heap.size o3 ((yM ev).map Qb) ⟨#[32]⟩ wr Gv.out (by simp [yM]) (fun x hx=>by
   obtain ⟨y,hy,rfl⟩:=List.mem_map.1 hx
   have:=Yo y (HO.out y hy).1 (HO.out y hy).2
   omega) (by decide)).mono ?_
  rintro e w1 ⟨rfl,hb1⟩
  have HB1:=hid (ak bn.out hb1 bn.out.size)
  clear hb1
  go_wp2_with fail
  go_ret
  exact ⟨by rw [DV.out]; rfl,HB1.out⟩
end Go.Proofs.YteablcielclaeaaGreatDoor
namespace Go.Proofs.YteablcielclaeaaGreatDoor
open Go.ChangeShapes Go.WideShapes Go.ChangeAt Go.RowKit
section
variable {H:Type} {enc:TypeId×Value→H} {P:Program} {W W':World}
theorem wu (hl:laidOutB P=true) (hb:Below W.heap.size W W'):∀ {ts:List TypeId} {vs:List Value} {ds:List (DataW H)} {ps:List MemPlace},
  (ts.all fun t=>P.readableRec t && decide (t<P.types.size))=true→DataW.TrodAll enc P W 0 (fun _=>true) true ts vs ds ps →
  DataW.TrodAll enc P W' 0 (fun b=>decide (b<W.heap.size)) true ts vs ds ps
 | [],[],[],_,_,h=>h
 | t :: ts,v :: vs,d :: ds,ps,ht,⟨p,q,h1,h2,e⟩=>by
  simp only [List.all_cons,Bool.and_eq_true,decide_eq_true_eq] at ht
  exact ⟨p,q,Below.trod hl ht.1.1 ht.1.2 h1 hb (by obtain ⟨m,hm⟩:=h1; exact DataW.trod_lt m _ _ _ hm),wu hl hb ht.2 h2,e⟩
variable {r:Reach} {base:Nat} {t u:TypeId} {v:Value} {w:World}
end
end Go.Proofs.YteablcielclaeaaGreatDoor
namespace Go.Proofs.YteablcielclaeaaGreatDoor
open Go.ChangeShapes Go.WideShapes Go.ChangeAt Go.RowKit
set_option linter.unusedVariables false
theorem text_size {s:ByteArray} (h:textE s=0):s.size≤200:=by
 unfold textE at h
 split at h
 ·cases h
 ·omega
theorem ab4:OkJ []:=⟨by simp,fun k h=>by simp at h⟩
theorem Mc {es:List jA} {s:ByteArray} (h:OkJ es) (ht:textE s=0):OkJ (es++[⟨s,BF (rQ es) s⟩]):=by
 refine ⟨fun e he=>?_,fun k hk=>?_⟩
 ·rcases List.mem_append.1 he with q | q
  ·exact h.1 e q
  ·simp at q; subst q; exact text_size ht
 ·rcases Nat.lt_or_ge k es.length with q | q
  ·rw [List.take_append_of_le_length (by omega),List.getElem_append_left q]
   exact h.2 k q
  ·have:k=es.length:=by simp at hk; omega
   subst this
   rw [List.take_left,List.getElem_append_right (by omega)]
   simp [DL,ht]
def strs (ss:List ByteArray):List Value:=ss.map Value.string
def RdS (w:World) (v:Value) (ss:List ByteArray):Prop:=Rd w 1 ss.length v (strs ss)
theorem RdS.form {w:World} {v:Value} {ss:List ByteArray} (h:RdS w v ss):∃ a c,v=.slice a ss.length c∧ss.length≤c∧c≤maxLen∧∀ k (hk:k<ss.length),∃ g o,a=some ⟨g,o,none⟩∧g<w.heap.size∧w.cell? ⟨g,o+k,none⟩=some (.string ss[k]):=by
 rcases h.2 with ⟨⟨a0,c0,h,hm⟩,hz⟩ | ⟨g,o,c,h',h1,h2,hc⟩
 ·exact ⟨a0,c0,by rw [h,hz],by omega,hm,fun k hk=>by omega⟩
 ·refine ⟨_,_,h',h1,h2,fun k hk=>⟨g,o,rfl,?_⟩⟩
  have e0:w.cell? ⟨g,o+k,none⟩=some (.string ss[k]):=by
   rw [hc k (by omega)]
   simp [strs,List.getElem?_eq_getElem hk]
  exact ⟨World.block_lt_of_cell? w _ e0,e0⟩
section
variable {H:Type} {enc:TypeId×Value→H} {P:Program} {W:World} {r:Reach} {base:Nat} {t e:TypeId} {v:Value} {d:DataW H} {p:List MemPlace}
theorem Md (hu:P.underlying t=some (.slice e)) (hv:Value.okWide P W r base t v):(∃ c,v=.slice none 0 0∧c=0)∨∃ g o len cap,v=.slice (some ⟨g,o,none⟩) len cap:=by
 simp only [Value.okWide,hu,Cell.okWide,Cell.ok] at hv
 split at hv <;> simp_all
 rename_i a len cap _
 obtain ⟨g,o,s⟩:=a
 have:=hv.2.2.2.1
 simp at this
 subst this
 exact ⟨g,o,rfl⟩
end
end Go.Proofs.YteablcielclaeaaGreatDoor
namespace Go.Proofs.YteablcielclaeaaGreatDoor
open Go.ChangeShapes Go.WideShapes Go.ChangeAt Go.RowKit
set_option linter.unusedVariables false
theorem yN (s:ByteArray) (h:∀ k (hk:k<s.size),Fv ((s[k]'hk).toNat:Int)=false):∀ f k,kT s f k = -1
 | 0,k=>rfl
 | f+1,k=>by
  unfold kT
  split
  ·rename_i hk
   rw [if_neg (by rw [h k hk]; decide)]
   exact yN s h f (k+1)
  ·rfl
def zZ (c:UInt8):Prop:=32≤c.toNat∧c.toNat≤126
theorem Yq (u:Nat):∀ c∈Lib.decDigits u,zZ c:=by
 intro c hc
 rw [Lib.decDigits_eq] at hc
 obtain ⟨t,-,rfl⟩:=List.mem_map.1 hc
 unfold Lib.dg zZ
 have:u / 10 ^ (Lib.nDigits u - 1 - t) % 10<10:=Nat.mod_lt _ (by decide)
 generalize u / 10 ^ (Lib.nDigits u - 1 - t) % 10=d at *
 rw [UInt8.toNat_ofNat']
 omega
theorem Yr (n:Int):∀ c∈Lib.itoa n,zZ c:=by
 intro c hc
 unfold Lib.itoa at hc
 split at hc
 ·rcases List.mem_cons.1 hc with rfl | hc
  ·exact ⟨by decide,by decide⟩
  ·exact Yq _ c hc
 ·exact Yq _ c hc
theorem DW (l:List UInt8) (hl:l.length≤200) (h:∀ c∈l,zZ c):textE ⟨l.toArray⟩=0:=by
 unfold textE AX
 rw [if_neg (by show ¬ 200<l.toArray.size; rw [List.size_toArray]; omega),yN,if_neg (by decide)]
 intro k hk
 have hk2:k<l.length:=by
  have:(⟨l.toArray⟩:ByteArray).size=l.length:=by show l.toArray.size=_; rw [List.size_toArray]
  omega
 have e:(⟨l.toArray⟩:ByteArray)[k]'hk=l[k]:=by
  show l.toArray[k]=l[k]
  rw [List.getElem_toArray]
 rw [e]
 have:=h _ (List.getElem_mem hk2)
 unfold zZ at this
 unfold Fv
 rw [decide_eq_false (by omega),decide_eq_false (by omega)]; rfl
theorem I7 (n:Int) (h0 : -9223372036854775808≤n) (h1:n≤9223372036854775807):(Lib.itoa n).length≤20:=by
 have:=Yo n h0 h1
 unfold Qb at this
 rwa [show (⟨(Lib.itoa n).toArray⟩:ByteArray).size=(Lib.itoa n).length by show (Lib.itoa n).toArray.size=_; rw [List.size_toArray]] at this
theorem oI {ev:yA} (h:Ut ev):textE (gV ev)=0:=by
 have hb:∀ x∈yM ev,(Lib.itoa x).length≤20:=fun x hx=>I7 x (h x hx).1 (h x hx).2
 unfold gV
 refine DW _ ?_ ?_
 ·have a0:=hb ev.kind (by simp [yM])
  have a1:=hb ev.aV (by simp [yM])
  have a2:=hb ev.n (by simp [yM])
  have a3:=hb ev.now (by simp [yM])
  have a4:=hb ev.m.src (by simp [yM])
  have a5:=hb ev.m.dst (by simp [yM])
  have a6:=hb ev.m.piece (by simp [yM])
  simp only [List.length_append,List.length_cons]
  omega
 ·intro c hc
  have h32:zZ 32:=⟨by decide,by decide⟩
  simp only [List.mem_append,List.mem_cons] at hc
  rcases hc with hc | rfl | hc | rfl | hc | rfl | hc | rfl | hc | rfl | hc | rfl | hc
  all_goals first | exact h32 | exact Yr _ c hc
theorem wW (ev:yA):textE (gV ev)=0→(gV ev).size≤200:=by
 intro h
 unfold textE at h
 split at h
 ·cases h
 ·omega
structure MInv (M:aP):Prop where
 nm:M.R.name.size≤maxLen
 cr:BX M.CR
 ck:tH M.CR M.clk
 st:M.clk.st=false
 fl:M.res=0→M.clk.ay<0
 sn:M.clk.since≤M.last
 la:0≤M.last∧M.last≤100000000
 og:qF M.off
 pr:pq M.aX
 jo:OkJ M.jr
 go:M.res=0→M.game=0
theorem DX {M:aP} {ev:yA} (h:M.mJ ev=0):(0≤ev.kind∧ev.kind≤6)∧(ev.aV=0∨ev.aV=1)∧(M.last≤ev.now∧ev.now≤100000000)∧M.res=0∧M.jr.length≠1000∧(ev.kind=4∨(ev.kind=5∧ev.n=2)∨(bH M.CR M.clk ev.now).ay<0):=by
 unfold aP.mJ at h
 split at h
 ·cases h
 split at h
 ·cases h
 split at h
 ·cases h
 split at h
 ·cases h
 split at h
 ·cases h
 refine ⟨by omega,by omega,by omega,by omega,by assumption,?_⟩
 rename_i h5
 by_cases a:ev.kind=4
 ·exact .inl a
 ·by_cases b:ev.kind=5∧ev.n=2
  ·exact .inr (.inl b)
  ·refine .inr (.inr ?_)
   by_cases c:0≤(bH M.CR M.clk ev.now).ay
   ·exact absurd ⟨c,a,b⟩ h5
   ·omega
theorem Cb {M:aP} {ev:yA} (h:MInv M) (hp:M.mJ ev=0):EvPre M ev:=by
 obtain ⟨h1,h2,h3,h4,h5,h6⟩:=DX hp
 have hsn:M.clk.since≤ev.now:=by have:=h.sn; omega
 refine ⟨h.nm,h.cr,h.ck,hsn,h3.2,h.og,h.pr,h2,h.go h4,fun hk=>?_⟩
 have hf:(bH M.CR M.clk ev.now).ay<0:=by
  rcases h6 with h6 | h6 | h6
  ·omega
  ·omega
  ·exact h6
 exact ⟨h.nm,h.cr,h.ck,hsn,h3.2,h.st,h.fl h4,h.og,h.pr,Uf (h.fl h4) hf⟩
end Go.Proofs.YteablcielclaeaaGreatDoor

/- MaH, MaI, MaJ, JouEq, Frame, JouBase, MaN. -/
import Derived.Test.YteablcielclaeaaGreatDoorC22
import Derived.Lib.LaidTab
import Derived.Lib.Join
import Derived.Carry
import Derived.Deep.Slices
import Derived.Deep.Strs
import Derived.ChangeMaps5
namespace Go.Proofs.YteablcielclaeaaGreatDoor
open Go.ChangeShapes Go.WideShapes Go.ChangeAt Go.RowKit
set_option linter.unusedVariables false
set_option maxHeartbeats 16000000
set_option maxRecDepth 100000
variable {X S:Nat→Prop} {base b:Nat} {M:aO} {B:mg}
end Go.Proofs.YteablcielclaeaaGreatDoor
namespace Go.Proofs.YteablcielclaeaaGreatDoor
open Go.ChangeShapes Go.WideShapes Go.ChangeAt Go.RowKit
set_option linter.unusedVariables false
variable {X S:Nat→Prop} {base b:Nat} {M:aO} {B:mg}
structure EvPre (M:aO) (ev:yD):Prop where
 nm:M.R.name.size≤maxLen
 cr:BD M.CR
 ck:um M.CR M.clk
 sn:M.clk.since≤ev.now
 nw:ev.now≤100000000
 og:qN M.off
 pr:pI M.aQ
 pl:ev.aT=0∨ev.aT=1
 gm:M.game=0
 mid:ev.kind=0→Mid M ev.now
def KindSaid (M:aO) (ev:yD):Prop:=∀ (X S:Nat→Prop) (base b:Nat) (B:mg) (w:World),aY X S base w b M B→base≤w.heap.size→EvPre M ev →
  Calls Tryz.prog 49 #[.pointer (some ⟨b,0,none⟩),.agg #[.int .i64 ev.kind,.int .i64 ev.aT,.int .i64 ev.n,.int .i64 ev.now,.int .i64 ev.m.src,.int .i64 ev.m.dst,.int .i64 ev.m.piece]] w fun e w'=>e=.returned (.int .i64 (M.kind ev).2)∧AA X S base b w (M.kind ev).1 w'
end Go.Proofs.YteablcielclaeaaGreatDoor
namespace Go.Proofs.YteablcielclaeaaGreatDoor
open Go.ChangeShapes Go.WideShapes Go.ChangeAt Go.RowKit
set_option linter.unusedVariables false
open Go.Lib (hid)
def Tab (base:Nat) (w:World):Prop:=Lib.TabIs Tryz.prog w "internal/strconv.uint64pow10" .u64 Lib.pow10Tab∧∀ g,Tryz.prog.globalNamed "internal/strconv.uint64pow10" = some g→g<base
theorem Tab.below {base:Nat} {w w':World} (h:Tab base w) (hb:Below base w w'):Tab base w':=by
 refine ⟨?_,h.2⟩
 obtain ⟨h1,h2⟩:=h
 unfold Lib.TabIs World.var? at h1 ⊢
 cases hg:Tryz.prog.globalNamed "internal/strconv.uint64pow10" with
 | none=>rw [hg] at h1; cases h1
 | some g=>rw [hg] at h1; simp only [Option.bind_some] at h1 ⊢; rw [hb.block g (h2 g hg)]; exact h1
def ItoaSaid:Prop:=∀ (n:Int) (w:World),-9223372036854775808≤n→n≤9223372036854775807→Lib.TabIs Tryz.prog w "internal/strconv.uint64pow10" .u64 Lib.pow10Tab →
 Calls Tryz.prog 46 #[.int .i64 n] w fun e w'=>e=.returned (.string ⟨(Lib.itoa n).toArray⟩)∧Below w.heap.size w w'
def yM (ss:List ByteArray):List Value:=ss.map Value.string
def qQ:Prop:=∀ (base:Nat) (v:Value) (xs:List ByteArray) (sep:ByteArray) (w:World),w.ownsRow base 9 1 v xs.length (yM xs)→xs.length≤1000→(∀ x∈xs,x.size≤1000000)→sep.size≤1000 →
 Calls Tryz.prog 55 #[v,.string sep] w fun e w'=>e=.returned (.string ⟨(Lib.join (xs.map (·.data.toList)) sep.data.toList).toArray⟩)∧Below w.heap.size w w'
def yN (ev:yD):List Int:=[ev.kind,ev.aT,ev.n,ev.now,ev.m.src,ev.m.dst,ev.m.piece]
def Uc (ev:yD):Prop:=∀ x∈yN ev,-9223372036854775808≤x∧x≤9223372036854775807
def Py (n:Int):ByteArray:=⟨(Lib.itoa n).toArray⟩
theorem Ud:(Tryz.prog.info? 9).map (fun i=>(i.zero,i.size,i.bytes))=some (some (.string ByteArray.empty),1,16):=by kernel_rfl
theorem XO {s:ByteArray}:∀ u∈[Value.string s],u.oneCell'=true:=by intro u hu; simp at hu; rw [hu]; rfl
theorem PD (l:List ByteArray) (x:ByteArray):yM l++[.string x]=yM (l++[x]):=by simp [yM]
theorem ixE (a0 a1 a2 a3 a4 a5 a6:Int):∀ (k:Nat),k<7→∀ w:World,(Instr.index 210 (.agg #[.int .i64 a0,.int .i64 a1,.int .i64 a2,.int .i64 a3,.int .i64 a4,.int .i64 a5,.int .i64 a6]) (.int .i64 k)).run Tryz.prog w=.ok (.int .i64 ([a0,a1,a2,a3,a4,a5,a6].getD k 0)) w
 | 0,_,w=>by kernel_rfl
 | 1,_,w=>by kernel_rfl
 | 2,_,w=>by kernel_rfl
 | 3,_,w=>by kernel_rfl
 | 4,_,w=>by kernel_rfl
 | 5,_,w=>by kernel_rfl
 | 6,_,w=>by kernel_rfl
theorem IX:∀ (k u:Nat),u<10 ^ (k+1)→Lib.nDigits u≤k+1
 | 0,u,h=>by rw [Lib.nDigits_small (by simpa using h)]; exact Nat.le_refl _
 | k+1,u,h=>by
  by_cases q:u<10
  ·rw [Lib.nDigits_small q]; omega
  ·rw [Lib.nDigits_big q]
   have:=IX k (u / 10) (by rw [Nat.pow_succ] at h; omega)
   omega
theorem XP (n:Int) (h0 : -9223372036854775808≤n) (h1:n≤9223372036854775807):(Py n).size≤20:=by
 show (Lib.itoa n).toArray.size≤20
 rw [List.size_toArray]
 unfold Lib.itoa
 split
 ·rw [List.length_cons]
  rw [Lib.decDigits_length]
  have:=IX 18 n.natAbs (show n.natAbs<10000000000000000000 by omega)
  omega
 ·rw [Lib.decDigits_length]
  have:=IX 18 n.toNat (show n.toNat<10000000000000000000 by omega)
  omega
set_option maxRecDepth 100000 in
set_option maxHeartbeats 8000000 in
theorem zM (HI:ItoaSaid) (HJ:qQ) (ev:yD) (w:World) (hT:Tab w.heap.size w) (hok:Uc ev):Calls Tryz.prog 50 #[.agg #[.int .i64 ev.kind,.int .i64 ev.aT,.int .i64 ev.n,.int .i64 ev.now,.int .i64 ev.m.src,.int .i64 ev.m.dst,.int .i64 ev.m.piece]] w fun e w'=>e=.returned (.string (gQ ev))∧Below w.heap.size w w':=by
 have HIh:=hid HI
 have ZN:=hid HJ
 have HT:=hid hT
 have HO:=hid hok
 have DL:Hid (gQ ev=⟨(Lib.join (((yN ev).map Py).map (·.data.toList)) [32]).toArray⟩):=hid (by simp [gQ,yN,Py,Lib.join,List.intercalate,List.intersperse])
 have hix:=ixE ev.kind ev.aT ev.n ev.now ev.m.src ev.m.dst ev.m.piece
 have HIx:=hid hix
 clear HI HJ hT hok hix
 go_enter Tryz.func50,Tryz.ntmps50
 go_upto_region 1 with (fail)
 refine pV fun w0 uo fG hs_=>?_
 have sN:=hid uo
 have HB0:=hid fG
 clear hs_ uo fG
 have e0:=sN.out.cell 0 rfl
 have e1:=sN.out.cell 1 rfl
 have e2:=sN.out.cell 2 rfl
 have e3:=sN.out.cell 3 rfl
 have e4:=sN.out.cell 4 rfl
 have e5:=sN.out.cell 5 rfl
 have e6:=sN.out.cell 6 rfl
 go_wp2_with fail
 clear e0 e1 e2 e3 e4 e5 e6
 have Mc:Hid (w0.ownsRow w.heap.size 9 1 (.slice none 0 0) 0 (yM [])):=hid (World.ownsRow_nil _ _ _ _)
 go_loopw [24,3,5] (fun v24 v3 v5 wr=>∃ (k:Nat) (o3 o5:Value),o3=v3∧o5=v5∧k≤7∧v24=.int .i64 k∧Hid (wr.ownsRow w.heap.size 9 1 o3 k (yM (((yN ev).map Py).take k)))∧Hid (Below w.heap.size w wr)) (fun v _ _ _=>7 - (intOf v).toNat)
 case atStart=>exact ⟨0,_,_,rfl,rfl,Nat.zero_le _,rfl,Mc,HB0⟩
 case round =>
  obtain ⟨k,o3,o5,rfl,rfl,hk,rfl,HR,bD⟩:=hrel
  by_cases hlt:k<7
  ·have hlI:(k:Int)<7:=by omega
   have HLk:=hid hlt
   have hi:=HIx.out k hlt
   have HX:Hid (-9223372036854775808≤(yN ev).getD k 0∧(yN ev).getD k 0≤9223372036854775807):=hid (HO.out _ (by rw [List.getD_eq_getElem?_getD,List.getElem?_eq_getElem (show k<(yN ev).length from hlt)]; exact List.getElem_mem _))
   have HS2:Hid (((yN ev).map Py).take (k+1)=((yN ev).map Py).take k++[Py ((yN ev).getD k 0)]):=hid (by
    have hl:k<((yN ev).map Py).length:=by rw [List.length_map]; exact hlt
    rw [List.take_succ_eq_append_getElem hl,List.getElem_map,List.getD_eq_getElem?_getD,List.getElem?_eq_getElem (show k<(yN ev).length from hlt)]; rfl)
   rw [show [ev.kind,ev.aT,ev.n,ev.now,ev.m.src,ev.m.dst,ev.m.piece]=yN ev from rfl] at hi
   generalize (yN ev).getD k 0=x at *
   clear hlt
   go_wp2_with fail
   refine (HIh.out x wr HX.out.1 HX.out.2 (HT.out.below bD.out).1).mono ?_
   rintro e w1 ⟨rfl,hb1⟩
   have HB1:=hid (aj bD.out hb1 bD.out.size)
   have HR1:=hid (aU HR.out hb1)
   have hsz:w.heap.size≤w1.heap.size:=HB1.out.size
   rw [show (⟨(Lib.itoa x).toArray⟩:ByteArray)=Py x from rfl]
   generalize Py x=tx at *
   clear hb1 HR hi
   have ahn:k+1≤100000000:=by omega
   go_wp2_with (at_builtin; refine fU 155 9 (.string ByteArray.empty) 1 16 Ud Tryz.underlying155 rfl (by decide) (by rfl) _ _ (by rfl) w.heap.size _ k _ [.string tx] w1 HR1.out hsz rfl XO ahn (by omega) (by rfl) (by rfl) ?_)
   intro g cap w2 hown2 XQ alv
   have HB2:=hid (XQ.below HB1.out (Nat.le_refl _))
   have HR2:Hid (w2.ownsRow w.heap.size 9 1 (.slice (some ⟨g,0,none⟩) (k+1) cap) (k+1) (yM (((yN ev).map Py).take (k+1)))):=hid (by rw [HS2.out,← PD]; exact hown2)
   clear hown2 XQ alv
   go_wp2_with fail
   go_roundw
   case rel=>exact ⟨k+1,_,_,rfl,rfl,by have:=HLk.out; omega,by go_num,HR2,HB2⟩
   case measure=>have:=HLk.out; simp [intOf]; omega
  obtain rfl:k=7:=by omega
  have QN:Hid (wr.ownsRow w.heap.size 9 1 o3 ((yN ev).map Py).length (yM ((yN ev).map Py))):=hid (by have:=HR.out; rwa [List.take_of_length_le (by simp [yN])] at this)
  have hlI:¬ ((7:Nat):Int)<7:=by decide
  go_wp2_with fail
  refine (ZN.out w.heap.size o3 ((yN ev).map Py) ⟨#[32]⟩ wr QN.out (by simp [yN]) (fun x hx=>by
   obtain ⟨y,hy,rfl⟩:=List.mem_map.1 hx
   have:=XP y (HO.out y hy).1 (HO.out y hy).2
   omega) (by decide)).mono ?_
  rintro e w1 ⟨rfl,hb1⟩
  have HB1:=hid (aj bD.out hb1 bD.out.size)
  clear hb1
  go_wp2_with fail
  go_ret
  exact ⟨by rw [DL.out]; rfl,HB1.out⟩
end Go.Proofs.YteablcielclaeaaGreatDoor
namespace Go.Proofs.YteablcielclaeaaGreatDoor
open Go.ChangeShapes Go.WideShapes Go.ChangeAt Go.RowKit
section
variable {H:Type} {enc:TypeId×Value→H} {P:Program} {W W':World}
theorem wu (hl:laidOutB P=true) (hb:Below W.heap.size W W'):∀ {ts:List TypeId} {vs:List Value} {ds:List (DataW H)} {ps:List MemPlace},
  (ts.all fun t=>P.readableRec t && decide (t<P.types.size))=true→DataW.TrodAll enc P W 0 (fun _=>true) true ts vs ds ps →
  DataW.TrodAll enc P W' 0 (fun b=>decide (b<W.heap.size)) true ts vs ds ps
 | [],[],[],_,_,h=>h
 | t :: ts,v :: vs,d :: ds,ps,ht,⟨p,q,h1,h2,e⟩=>by
  simp only [List.all_cons,Bool.and_eq_true,decide_eq_true_eq] at ht
  exact ⟨p,q,Below.trod hl ht.1.1 ht.1.2 h1 hb (by obtain ⟨m,hm⟩:=h1; exact DataW.trod_lt m _ _ _ hm),wu hl hb ht.2 h2,e⟩
variable {r:Reach} {base:Nat} {t u:TypeId} {v:Value} {w:World}
end
end Go.Proofs.YteablcielclaeaaGreatDoor
namespace Go.Proofs.YteablcielclaeaaGreatDoor
open Go.ChangeShapes Go.WideShapes Go.ChangeAt Go.RowKit
set_option linter.unusedVariables false
theorem text_size {s:ByteArray} (h:textE s=0):s.size≤200:=by
 unfold textE at h
 split at h
 ·cases h
 ·omega
theorem aa2:OkJ []:=⟨by simp,fun k h=>by simp at h⟩
theorem Md {es:List jB} {s:ByteArray} (h:OkJ es) (ht:textE s=0):OkJ (es++[⟨s,AZ (rZ es) s⟩]):=by
 refine ⟨fun e he=>?_,fun k hk=>?_⟩
 ·rcases List.mem_append.1 he with q | q
  ·exact h.1 e q
  ·simp at q; subst q; exact text_size ht
 ·rcases Nat.lt_or_ge k es.length with q | q
  ·rw [List.take_append_of_le_length (by omega),List.getElem_append_left q]
   exact h.2 k q
  ·have:k=es.length:=by simp at hk; omega
   subst this
   rw [List.take_left,List.getElem_append_right (by omega)]
   simp [Du,ht]
def strs (ss:List ByteArray):List Value:=ss.map Value.string
def RdS (w:World) (v:Value) (ss:List ByteArray):Prop:=Rd w 1 ss.length v (strs ss)
theorem RdS.form {w:World} {v:Value} {ss:List ByteArray} (h:RdS w v ss):∃ a c,v=.slice a ss.length c∧ss.length≤c∧c≤maxLen∧∀ k (hk:k<ss.length),∃ g o,a=some ⟨g,o,none⟩∧g<w.heap.size∧w.cell? ⟨g,o+k,none⟩=some (.string ss[k]):=by
 rcases h.2 with ⟨⟨a0,c0,h,hm⟩,hz⟩ | ⟨g,o,c,h',h1,h2,hc⟩
 ·exact ⟨a0,c0,by rw [h,hz],by omega,hm,fun k hk=>by omega⟩
 ·refine ⟨_,_,h',h1,h2,fun k hk=>⟨g,o,rfl,?_⟩⟩
  have e0:w.cell? ⟨g,o+k,none⟩=some (.string ss[k]):=by
   rw [hc k (by omega)]
   simp [strs,List.getElem?_eq_getElem hk]
  exact ⟨World.block_lt_of_cell? w _ e0,e0⟩
section
variable {H:Type} {enc:TypeId×Value→H} {P:Program} {W:World} {r:Reach} {base:Nat} {t e:TypeId} {v:Value} {d:DataW H} {p:List MemPlace}
theorem Me (hu:P.underlying t=some (.slice e)) (hv:Value.okWide P W r base t v):(∃ c,v=.slice none 0 0∧c=0)∨∃ g o len cap,v=.slice (some ⟨g,o,none⟩) len cap:=by
 simp only [Value.okWide,hu,Cell.okWide,Cell.ok] at hv
 split at hv <;> simp_all
 rename_i a len cap _
 obtain ⟨g,o,s⟩:=a
 have:=hv.2.2.2.1
 simp at this
 subst this
 exact ⟨g,o,rfl⟩
end
end Go.Proofs.YteablcielclaeaaGreatDoor
namespace Go.Proofs.YteablcielclaeaaGreatDoor
open Go.ChangeShapes Go.WideShapes Go.ChangeAt Go.RowKit
set_option linter.unusedVariables false
theorem yO (s:ByteArray) (h:∀ k (hk:k<s.size),EY ((s[k]'hk).toNat:Int)=false):∀ f k,kQ s f k = -1
 | 0,k=>rfl
 | f+1,k=>by
  unfold kQ
  split
  ·rename_i hk
   rw [if_neg (by rw [h k hk]; decide)]
   exact yO s h f (k+1)
  ·rfl
def zN (c:UInt8):Prop:=32≤c.toNat∧c.toNat≤126
theorem XR (u:Nat):∀ c∈Lib.decDigits u,zN c:=by
 intro c hc
 rw [Lib.decDigits_eq] at hc
 obtain ⟨t,-,rfl⟩:=List.mem_map.1 hc
 unfold Lib.dg zN
 have:u / 10 ^ (Lib.nDigits u - 1 - t) % 10<10:=Nat.mod_lt _ (by decide)
 generalize u / 10 ^ (Lib.nDigits u - 1 - t) % 10=d at *
 rw [UInt8.toNat_ofNat']
 omega
theorem XT (n:Int):∀ c∈Lib.itoa n,zN c:=by
 intro c hc
 unfold Lib.itoa at hc
 split at hc
 ·rcases List.mem_cons.1 hc with rfl | hc
  ·exact ⟨by decide,by decide⟩
  ·exact XR _ c hc
 ·exact XR _ c hc
theorem DT (l:List UInt8) (hl:l.length≤200) (h:∀ c∈l,zN c):textE ⟨l.toArray⟩=0:=by
 unfold textE Ar
 rw [if_neg (by show ¬ 200<l.toArray.size; rw [List.size_toArray]; omega),yO,if_neg (by decide)]
 intro k hk
 have hk2:k<l.length:=by
  have:(⟨l.toArray⟩:ByteArray).size=l.length:=by show l.toArray.size=_; rw [List.size_toArray]
  omega
 have e:(⟨l.toArray⟩:ByteArray)[k]'hk=l[k]:=by
  show l.toArray[k]=l[k]
  rw [List.getElem_toArray]
 rw [e]
 have:=h _ (List.getElem_mem hk2)
 unfold zN at this
 unfold EY
 rw [decide_eq_false (by omega),decide_eq_false (by omega)]; rfl
theorem IY (n:Int) (h0 : -9223372036854775808≤n) (h1:n≤9223372036854775807):(Lib.itoa n).length≤20:=by
 have:=XP n h0 h1
 unfold Py at this
 rwa [show (⟨(Lib.itoa n).toArray⟩:ByteArray).size=(Lib.itoa n).length by show (Lib.itoa n).toArray.size=_; rw [List.size_toArray]] at this
theorem oD {ev:yD} (h:Uc ev):textE (gQ ev)=0:=by
 have hb:∀ x∈yN ev,(Lib.itoa x).length≤20:=fun x hx=>IY x (h x hx).1 (h x hx).2
 unfold gQ
 refine DT _ ?_ ?_
 ·have a0:=hb ev.kind (by simp [yN])
  have a1:=hb ev.aT (by simp [yN])
  have a2:=hb ev.n (by simp [yN])
  have a3:=hb ev.now (by simp [yN])
  have a4:=hb ev.m.src (by simp [yN])
  have a5:=hb ev.m.dst (by simp [yN])
  have a6:=hb ev.m.piece (by simp [yN])
  simp only [List.length_append,List.length_cons]
  omega
 ·intro c hc
  have h32:zN 32:=⟨by decide,by decide⟩
  simp only [List.mem_append,List.mem_cons] at hc
  rcases hc with hc | rfl | hc | rfl | hc | rfl | hc | rfl | hc | rfl | hc | rfl | hc
  all_goals first | exact h32 | exact XT _ c hc
theorem xq (ev:yD):textE (gQ ev)=0→(gQ ev).size≤200:=by
 intro h
 unfold textE at h
 split at h
 ·cases h
 ·omega
structure MInv (M:aO):Prop where
 nm:M.R.name.size≤maxLen
 cr:BD M.CR
 ck:um M.CR M.clk
 st:M.clk.st=false
 fl:M.res=0→M.clk.ak<0
 sn:M.clk.since≤M.last
 la:0≤M.last∧M.last≤100000000
 og:qN M.off
 pr:pI M.aQ
 jo:OkJ M.jr
 go:M.res=0→M.game=0
theorem DU {M:aO} {ev:yD} (h:M.mP ev=0):(0≤ev.kind∧ev.kind≤6)∧(ev.aT=0∨ev.aT=1)∧(M.last≤ev.now∧ev.now≤100000000)∧M.res=0∧M.jr.length≠1000∧(ev.kind=4∨(ev.kind=5∧ev.n=2)∨(bK M.CR M.clk ev.now).ak<0):=by
 unfold aO.mP at h
 split at h
 ·cases h
 split at h
 ·cases h
 split at h
 ·cases h
 split at h
 ·cases h
 split at h
 ·cases h
 refine ⟨by omega,by omega,by omega,by omega,by assumption,?_⟩
 rename_i h5
 by_cases a:ev.kind=4
 ·exact .inl a
 ·by_cases b:ev.kind=5∧ev.n=2
  ·exact .inr (.inl b)
  ·refine .inr (.inr ?_)
   by_cases c:0≤(bK M.CR M.clk ev.now).ak
   ·exact absurd ⟨c,a,b⟩ h5
   ·omega
theorem BG {M:aO} {ev:yD} (h:MInv M) (hp:M.mP ev=0):EvPre M ev:=by
 obtain ⟨h1,h2,h3,h4,h5,h6⟩:=DU hp
 have hsn:M.clk.since≤ev.now:=by have:=h.sn; omega
 refine ⟨h.nm,h.cr,h.ck,hsn,h3.2,h.og,h.pr,h2,h.go h4,fun hk=>?_⟩
 have hf:(bK M.CR M.clk ev.now).ak<0:=by
  rcases h6 with h6 | h6 | h6
  ·omega
  ·omega
  ·exact h6
 exact ⟨h.nm,h.cr,h.ck,hsn,h3.2,h.st,h.fl h4,h.og,h.pr,TI (h.fl h4) hf⟩
end Go.Proofs.YteablcielclaeaaGreatDoor

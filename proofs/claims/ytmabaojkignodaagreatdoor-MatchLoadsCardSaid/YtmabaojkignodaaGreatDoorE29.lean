/- JouEq, Frame, JouBase, MaN. -/
import Derived.Carry
import Derived.Deep.Slices
import Derived.Deep.Strs
import Derived.ChangeMaps5
import Derived.Test.YtmabaojkignodaaGreatDoorE28
namespace Go.Proofs.YtmabaojkignodaaGreatDoor
open Go.ChangeShapes Go.WideShapes Go.ChangeAt Go.RowKit
set_option linter.unusedVariables false
open Go.Lib (hid)
def eqE (x y:iL):Bool:=decide (x.txt.toList=y.txt.toList) && decide (x.sum=y.sum)
theorem agR (s t:ByteArray) (n m:Int) (w:World):(binOp .neq 131 (.agg #[.string s,.int .u64 n]) (.agg #[.string t,.int .u64 m])).run Tryz.prog w=.ok (.bool (!eqE ⟨s,n⟩ ⟨t,m⟩)) w:=by
  go_simp
  unfold eqE
  by_cases h1:s.toList=t.toList <;> by_cases h2:n=m <;> simp [h1,h2]
def eqJ:List iL→List iL→Bool
  | [],[]=>true
  | x :: a,y :: b=>eqE x y && eqJ a b
  | _,_=>false
theorem aaM (a b:List iL) (k:Nat) (ha:k<a.length) (hb:k<b.length):eqJ (a.drop k) (b.drop k)=(eqE a[k] b[k] && eqJ (a.drop (k+1)) (b.drop (k+1))):=by
  rw [List.drop_eq_getElem_cons ha,List.drop_eq_getElem_cons hb,eqJ]
theorem aaN:∀ (a b:List iL),a.length≠b.length→eqJ a b=false
  | [],[],h=>absurd rfl h
  | x :: a,[],_=>rfl
  | [],y :: b,_=>rfl
  | x :: a,y :: b,h=>by rw [eqJ,aaN a b (by simpa using h),Bool.and_false]
set_option maxHeartbeats 1000000 in
theorem aax (va vb:Value) (a b:List iL) (w:World) (h1:zL w va a) (h2:zL w vb b) :
    Calls Tryz.prog 62 #[va,vb] w fun e w'=>e=.returned (.bool (eqJ a b))∧Below w.heap.size w w':=by
  obtain ⟨aa,ac,rfl,a1,a2,ha⟩:=h1.form
  obtain ⟨ba,bc,rfl,b1,b2,hb⟩:=h2.form
  unfold maxLen at a2 b2
  have HA:=hid ha
  have HB:=hid hb
  clear ha hb h1 h2
  by_cases hl:a.length=b.length
  · have HE:Hid (eqJ a b=eqJ (a.drop 0) (b.drop 0)):=hid rfl
    have HL:=hid hl
    rw [← hl]
    rw [← hl] at b1
    clear hl
    go_enter Tryz.func62,Tryz.ntmps62
    have hne:(((a.length:Int)) != (a.length:Int))=false:=by simp
    go_wp2_with fail
    go_loopw [13] (fun i wr=>∃ k:Nat,k≤a.length∧i=.int .i64 k∧Hid (eqJ a b=eqJ (a.drop k) (b.drop k))∧Below w.heap.size w wr) (fun i _=>a.length - (intOf i).toNat)
    case atStart=>exact ⟨0,Nat.zero_le _,rfl,HE,Below.refl _ _⟩
    case round =>
      obtain ⟨k,hk,rfl,HK,hbl⟩:=hrel
      by_cases hlt:k<a.length
      · have adw:k<b.length:=by rw [← HL.out]; exact hlt
        obtain ⟨g1,o1,rfl,hg1,c0,c1⟩:=HA.out k hlt
        obtain ⟨g2,o2,rfl,hg2,e0,e1⟩:=HB.out k adw
        have d0:wr.cell? ⟨g1,o1+k * 2,none⟩=some (.string a[k].txt):=(hbl.cell (p:=⟨g1,o1+k * 2,none⟩) hg1).trans c0
        have d1:wr.cell? ⟨g1,o1+k * 2+1,none⟩=some (.int .u64 a[k].sum):=(hbl.cell (p:=⟨g1,o1+k * 2+1,none⟩) hg1).trans c1
        have f0:wr.cell? ⟨g2,o2+k * 2,none⟩=some (.string b[k].txt):=(hbl.cell (p:=⟨g2,o2+k * 2,none⟩) hg2).trans e0
        have f1:wr.cell? ⟨g2,o2+k * 2+1,none⟩=some (.int .u64 b[k].sum):=(hbl.cell (p:=⟨g2,o2+k * 2+1,none⟩) hg2).trans e1
        have HS:=hid (aaM a b k hlt adw)
        clear c0 c1 e0 e1
        generalize a[k]=x at *
        generalize b[k]=y at *
        have hq0:0≤(k:Int):=by omega
        have hq1:(k:Int)<(a.length:Int):=by omega
        obtain ⟨s,n⟩:=x
        obtain ⟨t,m⟩:=y
        simp only at d0 d1 f0 f1
        have hn:=fun w=>agR s t n m w
        cases hxy:eqE ⟨s,n⟩ ⟨t,m⟩
        all_goals
          rw [hxy] at hn HS
          go_wp2_with fail
          go_quiet (fail)
          have hbq:=below_drewN hbl nq
          clear d0 d1 f0 f1 hn
          generalize wr.drewN nq=W at *
          go_wp2_with fail
          first
            | (go_ret; exact ⟨by rw [HK.out,HS.out]; rfl,hbq⟩)
            | (go_roundw
               case rel=>exact ⟨k+1,by omega,by go_num,hid (by rw [HK.out,HS.out]; rfl),hbq⟩
               case measure=>simp [intOf]; omega)
      · obtain rfl:k=a.length:=by omega
        go_wp2_with fail
        go_ret
        exact ⟨by rw [HK.out,List.drop_length,HL.out,List.drop_length]; rfl,hbl⟩
  · have HE:=hid (aaN a b hl)
    have hne:(((a.length:Int)) != (b.length:Int))=true:=by simp; omega
    go_enter Tryz.func62,Tryz.ntmps62
    go_wp2_with fail
    go_ret
    exact ⟨by rw [HE.out]; rfl,Below.refl _ _⟩
def abh (l m:List iL):Bool:=decide (m.length≤l.length) && eqJ (l.take m.length) m
theorem aai (va vb:Value) (a b:List iL) (w:World) (h1:zL w va a) (h2:zL w vb b) :
    Calls Tryz.prog 21 #[va,vb] w fun e w'=>e=.returned (.bool (abh a b))∧Below w.heap.size w w':=by
  obtain ⟨aa,ac,rfl,a1,a2,ha⟩:=h1.form
  obtain ⟨ba,bc,rfl,b1,b2,hb⟩:=h2.form
  unfold maxLen at a2 b2
  have HX:Hid (abh a b=(decide (b.length≤a.length) && eqJ (a.take b.length) b)):=hid rfl
  by_cases hl:b.length≤a.length
  · have HE:=hid (aax _ _ (a.take b.length) b w (zL.take h1 b.length hl) h2)
    have hsl:=fun w=>Jc abe abf aa a.length ac b.length (by omega) w
    clear ha hb h1 h2
    generalize eqJ (a.take b.length) b=q at *
    go_enter Tryz.func21,Tryz.ntmps21
    go_wp2_with fail
    refine HE.out.mono ?_
    rintro e w1 ⟨rfl,hb1⟩
    go_wp2_with fail
    go_ret
    exact ⟨by rw [HX.out]; simp [hl],hb1⟩
  · clear ha hb h1 h2
    go_enter Tryz.func21,Tryz.ntmps21
    go_wp2_with fail
    go_ret
    exact ⟨by rw [HX.out]; simp [hl],Below.refl _ _⟩
end Go.Proofs.YtmabaojkignodaaGreatDoor
namespace Go.Proofs.YtmabaojkignodaaGreatDoor
open Go.ChangeShapes Go.WideShapes Go.ChangeAt Go.RowKit
section
variable {H:Type} {enc:TypeId×Value→H} {P:Program} {W W':World}
theorem uh (hl:laidOutB P=true) (hb:Below W.heap.size W W'):∀ {ts:List TypeId} {vs:List Value} {ds:List (DataW H)} {ps:List MemPlace},
  (ts.all fun t=>P.readableRec t && decide (t<P.types.size))=true→DataW.TrodAll enc P W 0 (fun _=>true) true ts vs ds ps →
  DataW.TrodAll enc P W' 0 (fun b=>decide (b<W.heap.size)) true ts vs ds ps
 | [],[],[],_,_,h=>h
 | t :: ts,v :: vs,d :: ds,ps,ht,⟨p,q,h1,h2,e⟩=>by
  simp only [List.all_cons,Bool.and_eq_true,decide_eq_true_eq] at ht
  exact ⟨p,q,Below.trod hl ht.1.1 ht.1.2 h1 hb (by obtain ⟨m,hm⟩:=h1; exact DataW.trod_lt m _ _ _ hm),uh hl hb ht.2 h2,e⟩
variable {r:Reach} {base:Nat} {t u:TypeId} {v:Value} {w:World}
theorem aaq {e:TypeId} (hu:P.underlying u=some (.slice e)) (h:Cell.okWide P w r base u v):∃ a len cap,v=.slice a len cap:=by
 cases v <;> simp_all [Cell.okWide,Cell.ok]
theorem EX {fs:Array Field} {ts:List TypeId} (hs:P.underlying t=some (.struct fs)) (hts:P.cellTypes P.depth t=some ts) (hn:P.cellsOf t=ts.length)
  (h:Value.okWide P w r base t v):∃ cs:List Value,v=.agg cs.toArray∧cs.length=ts.length∧∀ (i:Nat) (x:Value),cs[i]?=some x→∃ u,ts[i]?=some u∧Cell.okWide P w r base u x:=by
 simp only [Value.okWide,hs] at h
 obtain ⟨cs,rfl,hsz,ts',abR,_,hc⟩:=h
 rw [hts] at abR
 cases abR
 refine ⟨cs.toList,by simp,by simpa [hn] using hsz,fun i x hi=>?_⟩
 have hi':cs[i]?=some x:=by simpa using hi
 obtain ⟨u,hu,hx⟩:=hc i x hi'
 have hlt:i<ts.length:=by
  have:=(Array.getElem?_eq_some_iff.1 hi').1
  omega
 rw [Nat.mod_eq_of_lt hlt] at hu
 exact ⟨u,hu,hx⟩
end
end Go.Proofs.YtmabaojkignodaaGreatDoor
namespace Go.Proofs.YtmabaojkignodaaGreatDoor
open Go.ChangeShapes Go.WideShapes Go.ChangeAt Go.RowKit
set_option linter.unusedVariables false
theorem aaP (x:iL):eqE x x=true:=by simp [eqE]
theorem aaj:∀ l:List iL,eqJ l l=true
 | []=>rfl
 | x :: t=>by rw [eqJ,aaP,aaj t]; rfl
theorem text_size {s:ByteArray} (h:textE s=0):s.size≤200:=by
 unfold textE at h
 split at h
 ·cases h
 ·omega
theorem Wj:OkJ []:=⟨by simp,fun k h=>by simp at h⟩
theorem Ir {es:List iL} {s:ByteArray} (h:OkJ es) (ht:textE s=0):OkJ (es++[⟨s,zh (qN es) s⟩]):=by
 refine ⟨fun e he=>?_,fun k hk=>?_⟩
 ·rcases List.mem_append.1 he with q | q
  ·exact h.1 e q
  ·simp at q; subst q; exact text_size ht
 ·rcases Nat.lt_or_ge k es.length with q | q
  ·rw [List.take_append_of_le_length (by omega),List.getElem_append_left q]
   exact h.2 k q
  ·have:k=es.length:=by simp at hk; omega
   subst this
   rw [List.take_left,List.getElem_append_right (by omega)]
   simp [AB,ht]
def strs (ss:List ByteArray):List Value:=ss.map Value.string
def RdS (w:World) (v:Value) (ss:List ByteArray):Prop:=Rd w 1 ss.length v (strs ss)
theorem RdS.form {w:World} {v:Value} {ss:List ByteArray} (h:RdS w v ss):∃ a c,v=.slice a ss.length c∧ss.length≤c∧c≤maxLen∧∀ k (hk:k<ss.length),∃ g o,a=some ⟨g,o,none⟩∧g<w.heap.size∧w.cell? ⟨g,o+k,none⟩=some (.string ss[k]):=by
 rcases h.2 with ⟨⟨a0,c0,h,hm⟩,hz⟩ | ⟨g,o,c,h',h1,h2,hc⟩
 ·exact ⟨a0,c0,by rw [h,hz],by omega,hm,fun k hk=>by omega⟩
 ·refine ⟨_,_,h',h1,h2,fun k hk=>⟨g,o,rfl,?_⟩⟩
  have e0:w.cell? ⟨g,o+k,none⟩=some (.string ss[k]):=by
   rw [hc k (by omega)]
   simp [strs,List.getElem?_eq_getElem hk]
  exact ⟨World.block_lt_of_cell? w _ e0,e0⟩
section
variable {H:Type} {enc:TypeId×Value→H} {P:Program} {W:World} {r:Reach} {base:Nat} {t e:TypeId} {v:Value} {d:DataW H} {p:List MemPlace}
end
end Go.Proofs.YtmabaojkignodaaGreatDoor
namespace Go.Proofs.YtmabaojkignodaaGreatDoor
open Go.ChangeShapes Go.WideShapes Go.ChangeAt Go.RowKit
set_option linter.unusedVariables false
theorem wX (s:ByteArray) (h:∀ k (hk:k<s.size),Ci ((s[k]'hk).toNat:Int)=false):∀ f k,kD s f k = -1
 | 0,k=>rfl
 | f+1,k=>by
  unfold kD
  split
  ·rename_i hk
   rw [if_neg (by rw [h k hk]; decide)]
   exact wX s h f (k+1)
  ·rfl
def yw (c:UInt8):Prop:=32≤c.toNat∧c.toNat≤126
theorem SB (u:Nat):∀ c∈Lib.decDigits u,yw c:=by
 intro c hc
 rw [Lib.decDigits_eq] at hc
 obtain ⟨t,-,rfl⟩:=List.mem_map.1 hc
 unfold Lib.dg yw
 have:u / 10 ^ (Lib.nDigits u - 1 - t) % 10<10:=Nat.mod_lt _ (by decide)
 generalize u / 10 ^ (Lib.nDigits u - 1 - t) % 10=d at *
 rw [UInt8.toNat_ofNat']
 omega
theorem SC (n:Int):∀ c∈Lib.itoa n,yw c:=by
 intro c hc
 unfold Lib.itoa at hc
 split at hc
 ·rcases List.mem_cons.1 hc with rfl | hc
  ·exact ⟨by decide,by decide⟩
  ·exact SB _ c hc
 ·exact SB _ c hc
theorem Bl (l:List UInt8) (hl:l.length≤200) (h:∀ c∈l,yw c):textE ⟨l.toArray⟩=0:=by
 unfold textE yO
 rw [if_neg (by show ¬ 200<l.toArray.size; rw [List.size_toArray]; omega),wX,if_neg (by decide)]
 intro k hk
 have hk2:k<l.length:=by
  have:(⟨l.toArray⟩:ByteArray).size=l.length:=by show l.toArray.size=_; rw [List.size_toArray]
  omega
 have e:(⟨l.toArray⟩:ByteArray)[k]'hk=l[k]:=by
  show l.toArray[k]=l[k]
  rw [List.getElem_toArray]
 rw [e]
 have:=h _ (List.getElem_mem hk2)
 unfold yw at this
 unfold Ci
 rw [decide_eq_false (by omega),decide_eq_false (by omega)]; rfl
theorem EY (n:Int) (h0 : -9223372036854775808≤n) (h1:n≤9223372036854775807):(Lib.itoa n).length≤20:=by
 have:=Ky n h0 h1
 unfold vF at this
 rwa [show (⟨(Lib.itoa n).toArray⟩:ByteArray).size=(Lib.itoa n).length by show (Lib.itoa n).toArray.size=_; rw [List.size_toArray]] at this
theorem lH {ev:iY} (h:wW ev):textE (bV ev)=0:=by
 have hb:∀ x∈mP ev,(Lib.itoa x).length≤20:=fun x hx=>EY x (h x hx).1 (h x hx).2
 unfold bV
 refine Bl _ ?_ ?_
 ·have a0:=hb ev.kind (by simp [mP])
  have a1:=hb ev.au (by simp [mP])
  have a2:=hb ev.n (by simp [mP])
  have a3:=hb ev.now (by simp [mP])
  have a4:=hb ev.m.src (by simp [mP])
  have a5:=hb ev.m.dst (by simp [mP])
  have a6:=hb ev.m.piece (by simp [mP])
  simp only [List.length_append,List.length_cons]
  omega
 ·intro c hc
  have h32:yw 32:=⟨by decide,by decide⟩
  simp only [List.mem_append,List.mem_cons] at hc
  rcases hc with hc | rfl | hc | rfl | hc | rfl | hc | rfl | hc | rfl | hc | rfl | hc
  all_goals first | exact h32 | exact SC _ c hc
theorem qJ (ev:iY):textE (bV ev)=0→(bV ev).size≤200:=by
 intro h
 unfold textE at h
 split at h
 ·cases h
 ·omega
structure MInv (M:aG):Prop where
 nm:M.R.name.size≤maxLen
 cr:xU M.CR
 ck:qV M.CR M.clk
 st:M.clk.st=false
 fl:M.res=0→M.clk.ak<0
 sn:M.clk.since≤M.last
 la:0≤M.last∧M.last≤100000000
 og:kF M.off
 pr:nM M.aS
 jo:OkJ M.jr
 go:M.res=0→M.game=0
theorem rX {M:aG} {ev:iY} (h:M.nK ev=0):(0≤ev.kind∧ev.kind≤6)∧(ev.au=0∨ev.au=1)∧(M.last≤ev.now∧ev.now≤100000000)∧M.res=0∧M.jr.length≠1000∧(ev.kind=4∨(ev.kind=5∧ev.n=2)∨(aV M.CR M.clk ev.now).ak<0):=by
 unfold aG.nK at h
 split at h
 ·cases h
 split at h
 ·cases h
 split at h
 ·cases h
 split at h
 ·cases h
 split at h
 ·cases h
 refine ⟨by omega,by omega,by omega,by omega,by assumption,?_⟩
 rename_i h5
 by_cases a:ev.kind=4
 ·exact .inl a
 ·by_cases b:ev.kind=5∧ev.n=2
  ·exact .inr (.inl b)
  ·refine .inr (.inr ?_)
   by_cases c:0≤(aV M.CR M.clk ev.now).ak
   ·exact absurd ⟨c,a,b⟩ h5
   ·omega
theorem zM {M:aG} {ev:iY} (h:MInv M) (hp:M.nK ev=0):EvPre M ev:=by
 obtain ⟨h1,h2,h3,h4,h5,h6⟩:=rX hp
 have hsn:M.clk.since≤ev.now:=by have:=h.sn; omega
 refine ⟨h.nm,h.cr,h.ck,hsn,h3.2,h.og,h.pr,h2,h.go h4,fun hk=>?_⟩
 have hf:(aV M.CR M.clk ev.now).ak<0:=by
  rcases h6 with h6 | h6 | h6
  ·omega
  ·omega
  ·exact h6
 exact ⟨h.nm,h.cr,h.ck,hsn,h3.2,h.st,h.fl h4,h.og,h.pr,NQ (h.fl h4) hf⟩
end Go.Proofs.YtmabaojkignodaaGreatDoor

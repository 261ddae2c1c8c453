/- MaW, MaX, RecA, MvRev, RecB, RecL, AnP, AnQ, AnR. -/
import Derived.Test.YteablcielclaeaaGreatDoorP24
import Derived.Laws.Externs
namespace Go.Proofs.YteablcielclaeaaGreatDoor
open Go.ChangeShapes Go.WideShapes Go.ChangeAt Go.RowKit
set_option linter.unusedVariables false
theorem ae8 (M:aP) (e:yA) (h:(M.go e).2≠0):(M.go e).1=M:=by
  revert h; unfold aP.go
  split
  · intro _; rfl
  split
  · intro _; rfl
  · intro h; exact absurd rfl h
theorem RU (M:aP):M.over.jr=M.jr∧M.over.last=M.last∧M.over.R=M.R∧M.over.CR=M.CR∧M.over.off=M.off∧M.over.aX=M.aX:=by
  unfold aP.over
  split <;> exact ⟨rfl,rfl,rfl,rfl,rfl,rfl⟩
theorem RV (M:aP) (h:M.over.res=0):M.over.game=0∧M.res=0:=by
  revert h; unfold aP.over
  split
  · intro h; rename_i hc; exact absurd h hc.1
  · intro h; rename_i hc
    refine ⟨Decidable.byContradiction fun hg=>hc ⟨hg,h⟩,h⟩
theorem MInv.over {M:aP} (nm:M.R.name.size≤maxLen) (cr:BX M.CR) (ck:tH M.CR M.clk) (st:M.clk.st=false) (fl:M.res=0→M.clk.ay<0) (sn:M.clk.since≤M.last) (la:0≤M.last∧M.last≤100000000) (og:qF M.off) (pr:pq M.aX) (jo:OkJ M.jr):MInv M.over:=by
  obtain ⟨j1,j2,j3,j4,j5,j6⟩:=RU M
  have jc:=(Cc M).2
  refine ⟨by rw [j3]; exact nm,by rw [j4]; exact cr,by rw [j4,jc]; exact ck,by rw [jc]; exact st,fun h=>?_,by rw [jc,j2]; exact sn,by rw [j2]; exact la,by rw [j5]; exact og,by rw [j6]; exact pr,by rw [j1]; exact jo,fun h=>(RV M h).1⟩
  rw [jc]; exact fl (RV M h).2
theorem YC {CR:qW} (h:BX CR) {now:Int} (h0:0≤now) (h1:now≤100000000):tH CR (aI CR now):=by
  have hn:=h.n
  have ht:=h.pt 0 (by omega)
  have hl:0≤(CR.ps.getD 0 (0,0)).2∧(CR.ps.getD 0 (0,0)).2≤100000000000:=by omega
  exact ⟨⟨Int.le_refl _,by show (0:Int)≤1; decide⟩,⟨Int.le_refl _,by show (-1:Int)≤1; decide⟩,⟨h0,h1⟩,⟨Int.le_refl _,by show (0:Int)≤_; omega⟩,⟨Int.le_refl _,by show (0:Int)≤400; decide⟩,hl,⟨Int.le_refl _,by show (0:Int)≤_; omega⟩,⟨Int.le_refl _,by show (0:Int)≤400; decide⟩,hl⟩
theorem YD (R:aA) (CR:qW) (now:Int) (hn:R.name.size≤maxLen) (h:BX CR) (h0:0≤now) (h1:now≤100000000):MInv (jW R CR now):=by
  unfold jW
  exact MInv.over hn h (YC h h0 h1) rfl (fun _=>by show (-1:Int)<0; decide) (Int.le_refl _) ⟨h0,h1⟩ aeM ⟨Nat.zero_le _,Nat.zero_le _,by simp⟩ (Mc (es:=[]) ab4 (DY now (by omega) (by omega)).1)
theorem Mid.runs (now:Int):∀ (f:Nat) (M:aP),Mid M now→Mid (aP.runs now f M) now∧(aP.runs now f M).jr=M.jr∧(aP.runs now f M).res=M.res
  | 0,M,h=>⟨h,rfl,rfl⟩
  | f+1,M,h=>by
    rw [aP.runs]
    split
    · split
      · obtain ⟨a,b,c⟩:=Mid.runs now f _ (h.rest.move (bQ M.R M.pos M.aX))
        exact ⟨a,b,c⟩
      · exact ⟨h.rest,rfl,rfl⟩
    · exact ⟨h,rfl,rfl⟩
theorem YE (R:aA) (ms:List aB):0≤(bV R ms).turn∧(bV R ms).turn≤1:=by
  have key:∀ (l:List aB) (p:bf),(0≤p.turn∧p.turn≤1)→0≤(l.foldl (bM R) p).turn∧(l.foldl (bM R) p).turn≤1:=by
    intro l
    induction l with
    | nil=>intro p h; exact h
    | cons x l ih =>
      intro p h
      refine ih _ ?_
      show 0≤1 - p.turn∧1 - p.turn≤1
      omega
  exact key ms (aF R) ⟨Int.le_refl _,by show (0:Int)≤1; decide⟩
structure KG (M:aP) (now:Int):Prop where
  ck:tH M.CR M.clk
  st:M.clk.st=false
  fl:M.res=0→M.clk.ay<0
  sn:M.clk.since≤now
  og:qF M.off
  pr:pq M.aX
theorem Mid.kg {M:aP} {now:Int} (h:Mid M now):KG M now:=⟨h.ck,h.st,fun _=>h.fl,h.sn,h.og,h.pr⟩
theorem KG.back {M:aP} {now:Int} (h:KG M now) (k:Nat) (h0:0≤now) (h1:now≤100000000) (hr:M.res=0):KG (M.backTo k now) now:=by
  have ht:=YE M.R (M.ms.take (M.ms.length - k))
  exact ⟨⟨ht,h.ck.f,⟨h0,h1⟩,h.ck.p0,h.ck.m0,h.ck.l0,h.ck.p1,h.ck.m1,h.ck.l1⟩,h.st,fun _=>h.fl hr,Int.le_refl _,abJ (Gt h.og) _,⟨Nat.zero_le _,Nat.zero_le _,fun x hx=>by cases hx⟩⟩
theorem UF (R:aA) (p:bf) (x:Int) (h:x≤1):IW R p x≠0:=by
  unfold IW
  split <;> omega
theorem acf {M:aP} {e:yA} (h:MInv M) (hp:M.mJ e=0) (hl:M.ms.length≤400) (hk:(M.kind e).2=0):KG (M.kind e).1 e.now:=by
  obtain ⟨h1,h2,h3,h4,h5,h6⟩:=DX hp
  have hm:=(Cb h hp).mid
  have h0:KG M e.now:=⟨h.ck,h.st,h.fl,by have:=h.sn; omega,h.og,h.pr⟩
  have hn0:0≤e.now:=by have:=h.la; omega
  revert hk
  unfold aP.kind
  split
  · rename_i hk0
    unfold aP.jQ
    split
    · intro h; dsimp only at h; omega
    split
    · intro h; dsimp only at h; omega
    split
    · intro h; dsimp only at h; omega
    · intro _; exact (Mid.runs e.now 400 _ ((hm hk0).move e.m)).1.kg
  split
  · unfold aP.yB
    split
    · split
      · intro h; rename_i hc; exact absurd h hc
      · intro _; exact ⟨h0.ck,h0.st,h0.fl,h0.sn,PN h0.og _,h0.pr⟩
    · split
      · intro h; rename_i hc; exact absurd h hc
      · intro _; exact ⟨h0.ck,h0.st,h0.fl,h0.sn,abH h0.og _ _ _ hl,h0.pr⟩
  split
  · unfold aP.tC
    split
    · intro h; rename_i hc; exact absurd h hc
    split
    · intro _; exact ⟨h0.ck,h0.st,fun _=>h0.fl h4,h0.sn,Gt h0.og,h0.pr⟩
    · intro _; exact h0.back _ hn0 h3.2 h4
  split
  · unfold aP.yC
    split
    · split
      · intro h; dsimp only at h; omega
      · intro _
        have lg:=aeL h0.ck e.now
        refine ⟨lg,?_,fun hr=>absurd hr (UF _ _ _ lg.f.2),?_,h0.og,h0.pr⟩
        · show (bH M.CR M.clk e.now).st=false; rw [(Gq _ _ _).2]; exact h0.st
        · show (bH M.CR M.clk e.now).since≤e.now; rw [(Gq _ _ _).1]; exact h0.sn
    split
    · intro h; dsimp only at h; omega
    split
    · intro h; dsimp only at h; omega
    split
    · intro h; dsimp only at h; omega
    · intro _; exact ⟨h0.ck,h0.st,fun _=>h0.fl h4,h0.sn,h0.og,h0.pr⟩
  split
  · unfold aP.qE
    split
    · intro h; dsimp only at h; omega
    split
    · intro h; dsimp only at h; omega
    · rename_i hc; intro _; exact ⟨h0.ck,h0.st,h0.fl,h0.sn,h0.og,h0.pr.add _ _ h2 hc⟩
  · intro _; exact ⟨h0.ck,h0.st,fun _=>h0.fl h4,h0.sn,h0.og,h0.pr⟩
theorem acg {M:aP} {e:yA} (h:MInv M) (hl:M.ms.length≤400) (hok:Ut e):MInv (M.go e).1:=by
  by_cases hz:(M.go e).2=0
  · revert hz
    unfold aP.go
    split
    · intro h; rename_i hc; exact absurd h hc
    split
    · intro h; rename_i hc; exact absurd h hc
    · rename_i hp hk
      intro _
      have hp0:M.mJ e=0:=Decidable.byContradiction hp
      have hk0:(M.kind e).2=0:=Decidable.byContradiction hk
      obtain ⟨h1,h2,h3,h4,h5,h6⟩:=DX hp0
      have k:=acf h hp0 hl hk0
      obtain ⟨q1,q2,q3⟩:=lM M e
      refine MInv.over (M:=(M.kind e).1.put e) ?_ ?_ k.ck k.st k.fl k.sn ⟨by have:=h.la; show 0≤e.now; omega,h3.2⟩ k.og k.pr ?_
      · show (M.kind e).1.R.name.size≤maxLen; rw [q2]; exact h.nm
      · show BX (M.kind e).1.CR; rw [q3]; exact h.cr
      · show OkJ ((M.kind e).1.jr++[mX (M.kind e).1.jr (gV e)])
        rw [q1]
        exact Mc h.jo (oI hok)
  · rw [ae8 M e hz]; exact h
theorem ae9 (R:aA) (CR:qW) (now:Int):(jW R CR now).ms.length=0:=by
  unfold jW
  rw [(Cc _).1]
  rfl
theorem afa (R:aA) (CR:qW) (now:Int):(jW R CR now).jr.length=1:=by
  unfold jW
  rw [(RU _).1]
  rfl
theorem YF:¬ Jb fE fG:=by
 intro h
 apply h
 refine ⟨by decide +kernel,?_⟩
 refine ⟨by decide,by decide,by decide,fun k hk=>?_⟩
 obtain rfl:k=0:=by have:k<1:=hk; omega
 decide
theorem afb:clk.dR fG.ps.length fG.inc fG.delay fG.ps:=by
 refine ⟨by decide,by decide,by decide,fun k hk=>?_⟩
 obtain rfl:k=0:=by have:k<1:=hk; omega
 decide
theorem YG:Ut gI:=by
 intro x hx
 have:x=0∨x=10∨x = -1∨x=4:=by
  simp only [yM,gI,List.mem_cons,List.not_mem_nil,or_false] at hx
  omega
 omega
theorem MH:∃ M0:aP,jW fE fG 0=M0∧MInv M0∧M0.jr.length<90∧M0.ms.length≤400∧(M0.go gI).2=0∧(M0.go gI).1.ms.length=1∧(M0.go gI).1.clk.l0=60990:=
 ⟨jW fE fG 0,rfl,YD fE fG 0 (by decide +kernel) (BX.of afb) (by decide) (by decide),by rw [afa]; decide,by rw [ae9]; decide,DZ.1,DZ.2.1,DZ.2.2⟩
structure GL where
 parent:Int
 m:aB
 comment:ByteArray
deriving Inhabited
structure anU where
 key:ByteArray
 value:ByteArray
deriving Inhabited
structure FB where
 tags:List anU
 comment:ByteArray
 nodes:List GL
 result:Int
deriving Inhabited
def kW (ns:List GL) (i:Nat):GL:=ns.getD i default
def Back (ns:List GL) (i:Nat):Prop:=∀ k,k<i→(kW ns k).parent<k
inductive BrZ where
 | mk (m:aB) (c:ByteArray) (kids:List BrZ)
def aiD (ns:List GL) (p:Int):List Nat:=(List.range ns.length).filter fun k=>(kW ns k).parent == p
def adS (ns:List GL):Nat→Int→List BrZ
 | 0,_=>[]
 | f+1,p=>(aiD ns p).map fun k=>.mk (kW ns k).m (kW ns k).comment (adS ns f (k:Int))
mutual
def aiE:List aB→BrZ→List (List aB)
 | pre,.mk m _ ks=>(pre++[m]) :: YH (pre++[m]) ks
def YH:List aB→List BrZ→List (List aB)
 | _,[]=>[]
 | pre,b :: l=>aiE pre b++YH pre l
end
end Go.Proofs.YteablcielclaeaaGreatDoor

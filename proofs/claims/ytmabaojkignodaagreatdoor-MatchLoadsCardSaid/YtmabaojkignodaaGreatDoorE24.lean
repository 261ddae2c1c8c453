/- MaC, MaD, MaM. -/
import Derived.Test.YtmabaojkignodaaGreatDoorE23
namespace Go.Proofs.YtmabaojkignodaaGreatDoor
open Go.ChangeShapes Go.WideShapes Go.ChangeAt Go.RowKit
set_option linter.unusedVariables false
def Bc (c:oD):Value:=.agg #[.int .i64 c.l0,.int .i64 c.l1,.int .i64 c.m0,.int .i64 c.m1,.int .i64 c.p0,.int .i64 c.p1,.int .i64 c.turn,.int .i64 c.since,.bool c.st,.int .i64 c.ak]
theorem xU.ok {CR:nJ} (h:xU CR):clk.cu CR.ps.length CR.inc CR.delay CR.ps:=by
 refine ⟨h.n,h.inc,h.del,fun k hk=>?_⟩
 have h1:=h.pm k hk; have h2:=h.pt k hk; have h3:=h.pz k hk
 unfold clk.jT
 rw [clk.dU h1,clk.dU h2,Bool.true_and,Bool.true_and,beq_iff_eq]
 by_cases e:(CR.ps.getD k (0,0)).1=0
 ·have:=h3.1 e
  rw [show ((CR.ps.getD k (0,0)).1 == 0)=true by simpa using e]
  exact (beq_iff_eq.2 (by omega)).symm
 ·have:¬ (k+1=CR.ps.length):=fun q=>e (h3.2 q)
  rw [show ((CR.ps.getD k (0,0)).1 == 0)=false by simpa using e]
  exact (beq_eq_false_iff_ne.2 (by omega)).symm
theorem xU.of {CR:nJ} (h:clk.cu CR.ps.length CR.inc CR.delay CR.ps):xU CR:=by
 have key:∀ k,k<CR.ps.length→(0≤(CR.ps.getD k (0,0)).1∧(CR.ps.getD k (0,0)).1≤400)∧(1≤(CR.ps.getD k (0,0)).2∧(CR.ps.getD k (0,0)).2≤100000000)∧((CR.ps.getD k (0,0)).1=0↔k+1=CR.ps.length):=fun k hk=>by
  have:=h.2.2.2 k hk
  unfold clk.jT at this
  rw [Bool.and_eq_true,Bool.and_eq_true] at this
  obtain ⟨h1,h2,h3⟩:=this
  refine ⟨clk.eP.1 h1,clk.eP.1 h2,?_⟩
  rw [beq_iff_eq] at h3
  constructor
  ·intro e
   rw [show ((CR.ps.getD k (0,0)).1 == 0)=true by simpa using e] at h3
   have:=beq_iff_eq.1 h3.symm
   omega
  ·intro e
   rw [show ((k:Int) == (CR.ps.length:Int) - 1)=true by rw [beq_iff_eq]; omega] at h3
   exact beq_iff_eq.1 h3
 exact ⟨h.1,h.2.1,h.2.2.1,fun k hk=>(key k hk).1,fun k hk=>(key k hk).2.1,fun k hk=>(key k hk).2.2⟩
theorem qV.ok {CR:nJ} {c:oD} (h:qV CR c):clk.gq CR.ps.length c.l0 c.l1 c.m0 c.m1 c.p0 c.p1 c.turn c.since c.ak:=⟨h.t,h.f,h.s,h.p0,h.m0,h.l0,h.p1,h.m1,h.l1⟩
theorem sK (CR:nJ) (c:oD) (now:Int) (pa:Option Addr) (pc:Nat) (w:World) (hr:xU CR) (hk:qV CR c) (h0:c.since≤now) (h1:now≤100000000) (hp:clk.dV w w.heap.size pa CR.ps.length CR.ps) :
  Calls Tryz.prog 49 #[.agg #[.slice pa CR.ps.length pc,.int .i64 CR.inc,.int .i64 CR.delay],.agg #[.int .i64 c.l0,.int .i64 c.l1,.int .i64 c.m0,.int .i64 c.m1,.int .i64 c.p0,.int .i64 c.p1,.int .i64 c.turn,.int .i64 c.since,.bool c.st,.int .i64 c.ak],.int .i64 now] w fun e w'=>e=.returned (.tuple #[Bc (aV CR c now),.int .i64 0])∧Below w.heap.size w w':=by
 have hn:CR.ps.length≤9223372036854775807:=by have:=hr.n; omega
 have e0:clk.bZ now c.since 100000000=true:=clk.dU ⟨h0,h1⟩
 have ho:=hr.ok
 have hc:=hk.ok
 have ht:=hk.t
 obtain ⟨l0,l1,m0,m1,p0,p1,turn,since,st,ak⟩:=c
 have hu:kK CR ⟨l0,l1,m0,m1,p0,p1,turn,since,st,ak⟩ now=clk.dI st CR.delay since now:=rfl
 unfold aV Bc
 rw [hu]
 dsimp only at *
 by_cases hf:ak<0
 ·rw [if_pos hf]
  by_cases h:turn=0
  ·subst h
   rw [if_pos rfl]
   by_cases hl:l0<clk.dI st CR.delay since now
   ·rw [if_pos hl]; exact clk.Ia pa _ pc _ _ CR.ps l0 l1 m0 m1 p0 p1 since ak st now w hn hp ho hc e0 hf hl
   ·rw [if_neg hl]; exact clk.yQ pa _ pc _ _ CR.ps l0 l1 m0 m1 p0 p1 since ak st now w hn hp ho hc e0 hf (by omega)
  ·obtain rfl:turn=1:=by omega
   rw [if_neg h]
   by_cases hl:l1<clk.dI st CR.delay since now
   ·rw [if_pos hl]; exact clk.Ib pa _ pc _ _ CR.ps l0 l1 m0 m1 p0 p1 since ak st now w hn hp ho hc e0 hf hl
   ·rw [if_neg hl]; exact clk.yR pa _ pc _ _ CR.ps l0 l1 m0 m1 p0 p1 since ak st now w hn hp ho hc e0 hf (by omega)
 ·rw [if_neg hf]; exact clk.NU pa _ pc _ _ CR.ps l0 l1 m0 m1 p0 p1 turn since ak st now w hn hp ho hc e0 (by omega)
theorem J8 (CR:nJ) (c:oD) (now:Int) (pa:Option Addr) (pc:Nat) (w:World) (hr:xU CR) (hk:qV CR c) (h0:c.since≤now) (h1:now≤100000000) (hs:c.st=false) (hf:c.ak<0) (hu:kK CR c now≤if c.turn=0 then c.l0 else c.l1)
  (hp:clk.dV w w.heap.size pa CR.ps.length CR.ps) :
  Calls Tryz.prog 186 #[.agg #[.slice pa CR.ps.length pc,.int .i64 CR.inc,.int .i64 CR.delay],.agg #[.int .i64 c.l0,.int .i64 c.l1,.int .i64 c.m0,.int .i64 c.m1,.int .i64 c.p0,.int .i64 c.p1,.int .i64 c.turn,.int .i64 c.since,.bool c.st,.int .i64 c.ak],.int .i64 now] w fun e w'=>e=.returned (.tuple #[Bc (dA CR c now),.int .i64 0])∧Below w.heap.size w w':=by
 have hn:CR.ps.length≤9223372036854775807:=by have:=hr.n; omega
 have e0:clk.bZ now c.since 100000000=true:=clk.dU ⟨h0,h1⟩
 have ho:=hr.ok
 have hc:=hk.ok
 have ht:=hk.t
 obtain ⟨l0,l1,m0,m1,p0,p1,turn,since,st,ak⟩:=c
 dsimp only at *
 subst hs
 have hu2:kK CR ⟨l0,l1,m0,m1,p0,p1,turn,since,false,ak⟩ now=clk.dI false CR.delay since now:=rfl
 unfold dA Bc Dz jK
 rw [hu2] at hu ⊢
 by_cases h:turn=0
 ·subst h
  rw [if_pos rfl] at hu ⊢
  refine (clk.J3 pa _ pc _ _ CR.ps l0 l1 m0 m1 p0 p1 since ak now w hn hp ho hc e0 hf hu).mono fun e w' h=>⟨h.1.trans ?_,h.2⟩
  simp only [decide_eq_true_eq]
  rfl
 ·obtain rfl:turn=1:=by omega
  rw [if_neg h] at hu ⊢
  refine (clk.J4 pa _ pc _ _ CR.ps l0 l1 m0 m1 p0 p1 since ak now w hn hp ho hc e0 hf hu).mono fun e w' h=>⟨h.1.trans ?_,h.2⟩
  simp only [decide_eq_true_eq]
  rfl
def EO (o:iW):Value:=.agg #[.int .i64 o.b0,.int .i64 o.b1,.int .i64 o.aY,.int .i64 o.aZ,.int .i64 o.l10,.int .i64 o.aX]
theorem kF.ok {o:iW} (h:kF o):off.lK o.b0 o.b1 o.aY o.aZ o.l10 o.aX:=by
 obtain ⟨⟨a1,a2⟩,⟨a3,a4⟩,⟨a5,a6⟩,⟨a7,a8⟩,⟨a9,a10⟩,⟨b1,b2⟩,c1,c2,c3,c4⟩:=h
 exact ⟨⟨a1,a2,a3,a4,a9,a10,c1,c2⟩,a5,a6,a7,a8,b1,b2,c3,c4⟩
def Xl:iW:=⟨0,0,0,0,0,0⟩
theorem V3 (o:iW) (k p:Int) (n:Nat) (w:World) (h:kF o) (hp:p=0∨p=1) (hn:n≤400) :
  Calls Tryz.prog 138 #[.agg #[.int .i64 o.b0,.int .i64 o.b1,.int .i64 o.aY,.int .i64 o.aZ,.int .i64 o.l10,.int .i64 o.aX],.int .i64 k,.int .i64 p,.int .i64 n] w fun e w'=>e=.returned (.tuple #[EO (if dH o k p n=0 then qO o k p n else Xl),.int .i64 (dH o k p n)])∧Below w.heap.size w w':=by
 have hok:=h.ok
 have n0:0≤(n:Int):=by omega
 have n1:(n:Int)≤400:=by omega
 by_cases hk:k=0∨k=1
 ·rcases hk with rfl | rfl <;> rcases hp with rfl | rfl
  ·by_cases hb:0≤o.b0
   ·skip
    have he:dH o 0 0 n=7:=by
     unfold dH
     rw [if_neg (show ¬ ¬ ((0:Int)=0∨(0:Int)=1) by decide),if_pos (show 0≤tN o 0 from hb)]
    rw [he]; exact off.Cj _ _ _ _ _ _ n w hok n0 n1 hb
   ·by_cases ht:o.aY=(n:Int)
    ·skip
     have he:dH o 0 0 n=11:=by
      unfold dH
      rw [if_neg (show ¬ ¬ ((0:Int)=0∨(0:Int)=1) by decide),if_neg (show ¬ 0≤tN o 0 from hb),if_pos (show rW o 0 0=n from ht)]
     rw [he]; exact off.Ew _ _ _ _ _ _ n w hok n0 n1 (by omega) (by simpa using ht)
    ·skip
     have he:dH o 0 0 n=0:=by
      unfold dH
      rw [if_neg (show ¬ ¬ ((0:Int)=0∨(0:Int)=1) by decide),if_neg (show ¬ 0≤tN o 0 from hb),if_neg (show ¬ rW o 0 0=n from ht),if_neg (fun h=>absurd h.1 (by decide))]
     rw [he]; exact off.JR _ _ _ _ _ _ n w hok n0 n1 (by omega) (by simpa using ht)
  ·by_cases hb:0≤o.b0
   ·skip
    have he:dH o 0 1 n=7:=by
     unfold dH
     rw [if_neg (show ¬ ¬ ((0:Int)=0∨(0:Int)=1) by decide),if_pos (show 0≤tN o 0 from hb)]
    rw [he]; exact off.Cm _ _ _ _ _ _ n w hok n0 n1 hb
   ·by_cases ht:o.aZ=(n:Int)
    ·skip
     have he:dH o 0 1 n=11:=by
      unfold dH
      rw [if_neg (show ¬ ¬ ((0:Int)=0∨(0:Int)=1) by decide),if_neg (show ¬ 0≤tN o 0 from hb),if_pos (show rW o 0 1=n from ht)]
     rw [he]; exact off.Ey _ _ _ _ _ _ n w hok n0 n1 (by omega) (by simpa using ht)
    ·skip
     have he:dH o 0 1 n=0:=by
      unfold dH
      rw [if_neg (show ¬ ¬ ((0:Int)=0∨(0:Int)=1) by decide),if_neg (show ¬ 0≤tN o 0 from hb),if_neg (show ¬ rW o 0 1=n from ht),if_neg (fun h=>absurd h.1 (by decide))]
     rw [he]; exact off.JU _ _ _ _ _ _ n w hok n0 n1 (by omega) (by simpa using ht)
  ·by_cases hb:0≤o.b1
   ·skip
    have he:dH o 1 0 n=7:=by
     unfold dH
     rw [if_neg (show ¬ ¬ ((1:Int)=0∨(1:Int)=1) by decide),if_pos (show 0≤tN o 1 from hb)]
    rw [he]; exact off.CB _ _ _ _ _ _ n w hok n0 n1 hb
   ·by_cases ht:o.l10=(n:Int)
    ·skip
     have he:dH o 1 0 n=11:=by
      unfold dH
      rw [if_neg (show ¬ ¬ ((1:Int)=0∨(1:Int)=1) by decide),if_neg (show ¬ 0≤tN o 1 from hb),if_pos (show rW o 1 0=n from ht)]
     rw [he]; exact off.EC _ _ _ _ _ _ n w hok n0 n1 (by omega) (by simpa using ht)
    ·by_cases hz:jm 0 n=0
     ·skip
      have he:dH o 1 0 n=8:=by
       unfold dH
       rw [if_neg (show ¬ ¬ ((1:Int)=0∨(1:Int)=1) by decide),if_neg (show ¬ 0≤tN o 1 from hb),if_neg (show ¬ rW o 1 0=n from ht),if_pos ⟨rfl,hz⟩]
      rw [he]; exact off.ED _ _ _ _ _ _ n w hok n0 n1 (by omega) (by simpa using ht) (show (jm 0 n == 0)=true by simpa using hz)
     ·skip
      have he:dH o 1 0 n=0:=by
       unfold dH
       rw [if_neg (show ¬ ¬ ((1:Int)=0∨(1:Int)=1) by decide),if_neg (show ¬ 0≤tN o 1 from hb),if_neg (show ¬ rW o 1 0=n from ht),if_neg (fun h=>hz h.2)]
      rw [he]; exact off.JV _ _ _ _ _ _ n w hok n0 n1 (by omega) (by simpa using ht) (show (jm 0 n == 0)=false by simpa using hz)
  ·by_cases hb:0≤o.b1
   ·skip
    have he:dH o 1 1 n=7:=by
     unfold dH
     rw [if_neg (show ¬ ¬ ((1:Int)=0∨(1:Int)=1) by decide),if_pos (show 0≤tN o 1 from hb)]
    rw [he]; exact off.CG _ _ _ _ _ _ n w hok n0 n1 hb
   ·by_cases ht:o.aX=(n:Int)
    ·skip
     have he:dH o 1 1 n=11:=by
      unfold dH
      rw [if_neg (show ¬ ¬ ((1:Int)=0∨(1:Int)=1) by decide),if_neg (show ¬ 0≤tN o 1 from hb),if_pos (show rW o 1 1=n from ht)]
     rw [he]; exact off.EF _ _ _ _ _ _ n w hok n0 n1 (by omega) (by simpa using ht)
    ·by_cases hz:jm 1 n=0
     ·skip
      have he:dH o 1 1 n=8:=by
       unfold dH
       rw [if_neg (show ¬ ¬ ((1:Int)=0∨(1:Int)=1) by decide),if_neg (show ¬ 0≤tN o 1 from hb),if_neg (show ¬ rW o 1 1=n from ht),if_pos ⟨rfl,hz⟩]
      rw [he]; exact off.EG _ _ _ _ _ _ n w hok n0 n1 (by omega) (by simpa using ht) (show (jm 1 n == 0)=true by simpa using hz)
     ·skip
      have he:dH o 1 1 n=0:=by
       unfold dH
       rw [if_neg (show ¬ ¬ ((1:Int)=0∨(1:Int)=1) by decide),if_neg (show ¬ 0≤tN o 1 from hb),if_neg (show ¬ rW o 1 1=n from ht),if_neg (fun h=>hz h.2)]
      rw [he]; exact off.JW _ _ _ _ _ _ n w hok n0 n1 (by omega) (by simpa using ht) (show (jm 1 n == 0)=false by simpa using hz)
 ·have he:dH o k p n=1:=by unfold dH; rw [if_pos hk]
  rw [he]
  exact off.NT _ _ _ _ _ _ k p n w hok (by omega)
theorem LH (fn:Bool) (o:iW) (k p:Int) (n:Nat) (w:World) (h:kF o) (hp:p=0∨p=1) (hn:n≤400) :
  Calls Tryz.prog (if fn=true then 140 else 139) #[.agg #[.int .i64 o.b0,.int .i64 o.b1,.int .i64 o.aY,.int .i64 o.aZ,.int .i64 o.l10,.int .i64 o.aX],.int .i64 k,.int .i64 p,.int .i64 n] w fun e w'=>e=.returned (.tuple #[EO (if bU o k p n=0 then (if fn=true then kE o else iM o k) else Xl),.int .i64 (bU o k p n)])∧Below w.heap.size w w':=by
 have hok:=h.ok
 have n0:0≤(n:Int):=by omega
 have n1:(n:Int)≤400:=by omega
 by_cases hk:k=0∨k=1
 ·cases fn <;> rcases hk with rfl | rfl <;> rcases hp with rfl | rfl
  ·by_cases hb:o.b0=1
   ·have he:bU o 0 0 n=0:=by
     unfold bU
     rw [if_neg (show ¬ ¬ ((0:Int)=0∨(0:Int)=1) by decide),if_neg (show ¬ tN o 0≠1 - 0 from fun h=>h hb)]
    rw [he]; exact off.CJ _ _ _ _ _ _ n w hok n0 n1 (by simpa using hb)
   ·have he:bU o 0 0 n=10:=by
     unfold bU
     rw [if_neg (show ¬ ¬ ((0:Int)=0∨(0:Int)=1) by decide),if_pos (show tN o 0≠1 - 0 from hb)]
    rw [he]; exact off.xY _ _ _ _ _ _ n w hok n0 n1 (by simpa using hb)
  ·by_cases hb:o.b0=0
   ·have he:bU o 0 1 n=0:=by
     unfold bU
     rw [if_neg (show ¬ ¬ ((0:Int)=0∨(0:Int)=1) by decide),if_neg (show ¬ tN o 0≠1 - 1 from fun h=>h hb)]
    rw [he]; exact off.CO _ _ _ _ _ _ n w hok n0 n1 (by simpa using hb)
   ·have he:bU o 0 1 n=10:=by
     unfold bU
     rw [if_neg (show ¬ ¬ ((0:Int)=0∨(0:Int)=1) by decide),if_pos (show tN o 0≠1 - 1 from hb)]
    rw [he]; exact off.xZ _ _ _ _ _ _ n w hok n0 n1 (by simpa using hb)
  ·by_cases hb:o.b1=1
   ·have he:bU o 1 0 n=0:=by
     unfold bU
     rw [if_neg (show ¬ ¬ ((1:Int)=0∨(1:Int)=1) by decide),if_neg (show ¬ tN o 1≠1 - 0 from fun h=>h hb)]
    rw [he]; exact off.CP _ _ _ _ _ _ n w hok n0 n1 (by simpa using hb)
   ·have he:bU o 1 0 n=10:=by
     unfold bU
     rw [if_neg (show ¬ ¬ ((1:Int)=0∨(1:Int)=1) by decide),if_pos (show tN o 1≠1 - 0 from hb)]
    rw [he]; exact off.yg _ _ _ _ _ _ n w hok n0 n1 (by simpa using hb)
  ·by_cases hb:o.b1=0
   ·have he:bU o 1 1 n=0:=by
     unfold bU
     rw [if_neg (show ¬ ¬ ((1:Int)=0∨(1:Int)=1) by decide),if_neg (show ¬ tN o 1≠1 - 1 from fun h=>h hb)]
    rw [he]; exact off.CQ _ _ _ _ _ _ n w hok n0 n1 (by simpa using hb)
   ·have he:bU o 1 1 n=10:=by
     unfold bU
     rw [if_neg (show ¬ ¬ ((1:Int)=0∨(1:Int)=1) by decide),if_pos (show tN o 1≠1 - 1 from hb)]
    rw [he]; exact off.yh _ _ _ _ _ _ n w hok n0 n1 (by simpa using hb)
  ·by_cases hb:o.b0=1
   ·have he:bU o 0 0 n=0:=by
     unfold bU
     rw [if_neg (show ¬ ¬ ((0:Int)=0∨(0:Int)=1) by decide),if_neg (show ¬ tN o 0≠1 - 0 from fun h=>h hb)]
    rw [he]; exact off.EH _ _ _ _ _ _ n w hok n0 n1 (by simpa using hb)
   ·have he:bU o 0 0 n=10:=by
     unfold bU
     rw [if_neg (show ¬ ¬ ((0:Int)=0∨(0:Int)=1) by decide),if_pos (show tN o 0≠1 - 0 from hb)]
    rw [he]; exact off.zi _ _ _ _ _ _ n w hok n0 n1 (by simpa using hb)
  ·by_cases hb:o.b0=0
   ·have he:bU o 0 1 n=0:=by
     unfold bU
     rw [if_neg (show ¬ ¬ ((0:Int)=0∨(0:Int)=1) by decide),if_neg (show ¬ tN o 0≠1 - 1 from fun h=>h hb)]
    rw [he]; exact off.EI _ _ _ _ _ _ n w hok n0 n1 (by simpa using hb)
   ·have he:bU o 0 1 n=10:=by
     unfold bU
     rw [if_neg (show ¬ ¬ ((0:Int)=0∨(0:Int)=1) by decide),if_pos (show tN o 0≠1 - 1 from hb)]
    rw [he]; exact off.zk _ _ _ _ _ _ n w hok n0 n1 (by simpa using hb)
  ·by_cases hb:o.b1=1
   ·have he:bU o 1 0 n=0:=by
     unfold bU
     rw [if_neg (show ¬ ¬ ((1:Int)=0∨(1:Int)=1) by decide),if_neg (show ¬ tN o 1≠1 - 0 from fun h=>h hb)]
    rw [he]; exact off.EK _ _ _ _ _ _ n w hok n0 n1 (by simpa using hb)
   ·have he:bU o 1 0 n=10:=by
     unfold bU
     rw [if_neg (show ¬ ¬ ((1:Int)=0∨(1:Int)=1) by decide),if_pos (show tN o 1≠1 - 0 from hb)]
    rw [he]; exact off.zl _ _ _ _ _ _ n w hok n0 n1 (by simpa using hb)
  ·by_cases hb:o.b1=0
   ·have he:bU o 1 1 n=0:=by
     unfold bU
     rw [if_neg (show ¬ ¬ ((1:Int)=0∨(1:Int)=1) by decide),if_neg (show ¬ tN o 1≠1 - 1 from fun h=>h hb)]
    rw [he]; exact off.EL _ _ _ _ _ _ n w hok n0 n1 (by simpa using hb)
   ·have he:bU o 1 1 n=10:=by
     unfold bU
     rw [if_neg (show ¬ ¬ ((1:Int)=0∨(1:Int)=1) by decide),if_pos (show tN o 1≠1 - 1 from hb)]
    rw [he]; exact off.zn _ _ _ _ _ _ n w hok n0 n1 (by simpa using hb)
 ·have he:bU o k p n=1:=by unfold bU; rw [if_pos hk]
  rw [he]
  cases fn
  ·exact off.EJ _ _ _ _ _ _ k p n w hok (by omega)
  ·exact off.H8 _ _ _ _ _ _ k p n w hok (by omega)
theorem V4 (o:iW) (p:Int) (w:World) (h:kF o) (hp:p=0∨p=1) :
  Calls Tryz.prog 187 #[.agg #[.int .i64 o.b0,.int .i64 o.b1,.int .i64 o.aY,.int .i64 o.aZ,.int .i64 o.l10,.int .i64 o.aX],.int .i64 p] w fun e w'=>e=.returned (.tuple #[EO (qP o p),.int .i64 0])∧Below w.heap.size w w':=by
 have hok:=h.ok
 unfold qP EO
 rcases hp with rfl | rfl
 ·by_cases hb:o.b0=1
  ·rw [if_pos (show o.b0=1 - 0 by omega)]; exact off.JX _ _ _ _ _ _ w hok (by simpa using hb)
  ·rw [if_neg (show ¬ o.b0=1 - 0 by omega)]; exact off.H6 _ _ _ _ _ _ w hok (by simpa using hb)
 ·by_cases hb:o.b0=0
  ·rw [if_pos (show o.b0=1 - 1 by omega)]; exact off.JY _ _ _ _ _ _ w hok (by simpa using hb)
  ·rw [if_neg (show ¬ o.b0=1 - 1 by omega)]; exact off.H7 _ _ _ _ _ _ w hok (by simpa using hb)
theorem V5 (o:iW) (n:Nat) (w:World) (h:kF o) (hn:n≤400) :
  Calls Tryz.prog 143 #[.agg #[.int .i64 o.b0,.int .i64 o.b1,.int .i64 o.aY,.int .i64 o.aZ,.int .i64 o.l10,.int .i64 o.aX],.int .i64 n] w fun e w'=>e=.returned (.tuple #[EO (iO o n),.int .i64 0])∧Below w.heap.size w w':=
 off.YE _ _ _ _ _ _ n w h.ok (by omega) (by omega)
end Go.Proofs.YtmabaojkignodaaGreatDoor
namespace Go.Proofs.YtmabaojkignodaaGreatDoor
open Go.ChangeShapes Go.WideShapes Go.ChangeAt Go.RowKit
set_option linter.unusedVariables false
open Go.Lib (hid)
theorem aH.RF {X S:Nat→Prop} {base:Nat} {w w':World} {b:Nat} {M:aG} {B:jv} (h:aH X S base w b M B) {S':Nat→Prop} {ms':List aN} {up us ue vl vm:Value} {rows:List lD} (hg:gx.bP (out1 X b) S' base w' B.g M.R ms' up us ue vl vm rows) (hs:dw w S S') (hf:Fr S w w') :
  aH X S' base w' b { M with ms:=ms' } B∧dD S b w w':=
 ⟨⟨h.box.held hf h.nb,fun hb=>h.nb (hs b h.box.lt hb),h.lo,⟨_,_,_,_,_,_,hg⟩,(h.rd.step hf hs).imp (fun _ h=>⟨h.rd,h.per,h.pc,h.pr,h.jr⟩),fun k hk=>⟨fun hc=>(h.nx k hk).1 (hs k (h.nx k hk).2 hc),Nat.lt_of_lt_of_le (h.nx k hk).2 hf.size⟩⟩,hf.mono (fun k _ h=>.inl h)⟩
theorem V6 (c:oD):(#[.int .i64 c.l0,.int .i64 c.l1,.int .i64 c.m0,.int .i64 c.m1,.int .i64 c.p0,.int .i64 c.p1,.int .i64 c.turn,.int .i64 c.since,.bool c.st,.int .i64 c.ak]:Array Value).all (·.oneCell')=true:=by simp [Value.oneCell']
structure wP (M:aG) (x:aN) (now:Int):Prop where
 pe:iV M.R M.ms x=0
 cr:xU M.CR
 ck:qV M.CR M.clk
 sn:M.clk.since≤now
 nw:now≤100000000
 st:M.clk.st=false
 fl:M.clk.ak<0
 us:kK M.CR M.clk now≤if M.clk.turn=0 then M.clk.l0 else M.clk.l1
 og:kF M.off
 tn:M.pos.turn=0∨M.pos.turn=1
variable {X S:Nat→Prop} {base b:Nat} {M:aG} {B:jv}
set_option maxRecDepth 100000 in
set_option maxHeartbeats 8000000 in
theorem move_any (HS:SortMvSaid) (x:aN) (now:Int) (w:World) (h:aH X S base w b M B) (hb:base≤w.heap.size) (hp:wP M x now):Calls Tryz.prog 136 #[.pointer (some ⟨b,0,none⟩),.agg #[.int .i64 x.src,.int .i64 x.dst,.int .i64 x.piece],.int .i64 now] w fun e w'=>e=.returned (.tuple #[])∧wM X S base b w (M.move x now) w':=by
 have lY:=hid HS
 have HM:=hid h
 have HC:=hid hp
 have qg:=hid hb
 have FP:=hid hp.pe
 have LJ:Hid (¬ S w.heap.size):=hid (fun hk=>by obtain ⟨up,us,ue,vl,vm,rows,hg⟩:=h.game; have:=(hg.lo _ hk).2; omega)
 clear h hb hp HS
 go_enter Tryz.func136,Tryz.ntmps136
 go_upto_region 1 with (fail)
 refine lM fun w0 jU dM hs_=>?_
 have HX0:=hid jU
 have HB0:=hid dM
 clear hs_ jU dM
 have iZ:=hid (HM.out.below HB0.out)
 go_wp2_with fail
 refine (lF w0 iZ.out).mono ?_
 rintro e w1 ⟨rfl,hb1⟩
 have HB1:=hid (aj HB0.out hb1 HB0.out.size)
 have dn:=hid (HX0.out.stays hb1)
 clear hb1 HX0 iZ HB0
 go_upto_region 2 with (fail)
 generalize w1=wq at *
 have L1:Below w.heap.size w wq.drew:=aA HB1.out
 have Mz:aH X S base wq.drew b M B:=HM.out.below L1
 have Xz:=dn.out.drew
 have Lb:base≤wq.drew.heap.size:=Nat.le_trans qg.out L1.size
 have HS0:Hid (∀ S',dw wq.drew S S'→dw w S S'):=hid (fun S' h k hk h'=>h k (Nat.lt_of_lt_of_le hk L1.size) h')
 have HF0:Hid (dD S b w wq.drew):=hid (dD.new L1)
 obtain ⟨up,us,ue,vl,vm,rows,Gz⟩:=Mz.game
 clear HB1 dn HM L1
 refine wp_region_noPanic ?_
 refine bG (S:=(fun w'=>w'.cell? ⟨b,14,none⟩=some (.pointer (some ⟨B.g,0,none⟩))∧w'.cell? ⟨w.heap.size,0,none⟩=some (.int .i64 x.src)∧w'.cell? ⟨w.heap.size,1,none⟩=some (.int .i64 x.dst)∧w'.cell? ⟨w.heap.size,2,none⟩=some (.int .i64 x.piece))) (L:=[]) (by kernel_rfl) ⟨Mz.box.cell 14 rfl,Xz.cell 0 rfl,Xz.cell 1 rfl,Xz.cell 2 rfl⟩ (fun hHeld=>?_)
 refine aF 0 ?_
 refine dL 4 ?_
 refine aF 1 ?_
 refine aF 2 ?_
 refine dL 3 ?_
 refine dO 5 fun K hK=>?_
 go_simp
 refine (gx.QX lY.out x _ Gz Lb (fun k hk=>Mz.wL k (.inr hk))).mono ?_
 rintro e w5 hp
 rcases hp with ⟨hn,-⟩ | ⟨-,rfl,S',VB,VD,rows',hg',hs,hf⟩
 ·exact absurd FP.out hn
 have MP:=Mz.RF hg' hs hf
 have X5:=Xz.held hf LJ.out
 clear hg' hf
 refine hK.out _ _ ⟨MP.1.box.cell 14 rfl,X5.cell 0 rfl,X5.cell 1 rfl,X5.cell 2 rfl⟩ (fun hHeld=>?_)
 clear hK K
 refine iE ?_
 have zu:=hid MP.1
 have Ko:=hid MP.2
 have HS5:=hid hs
 clear MP X5 hs hHeld Gz Mz Xz Lb
 go_upto_region 3 with (fail)
 have HFa:Hid (dD S b w w5.drew):=hid (Fr.drew (dD.trans HF0.out Ko.out (dw.refl _ _)))
 have HSa:Hid (dw w S S'):=hid (HS0.out S' HS5.out)
 clear HF0 HS0 Ko HS5
 generalize w5=wq at *
 have Mz:aH X S' base wq.drew b { M with ms:=M.ms++[x] } B:=zu.out.below (aA (Below.refl _ _))
 clear zu
 refine wp_region_noPanic ?_
 refine bG (S:=(fun w'=>w'.cell? ⟨b,11,none⟩=some (.slice B.pa M.CR.ps.length B.pc)∧w'.cell? ⟨b,12,none⟩=some (.int .i64 M.CR.inc)∧w'.cell? ⟨b,13,none⟩=some (.int .i64 M.CR.delay)∧w'.cell? ⟨b,18,none⟩=some (.int .i64 M.clk.l0)∧w'.cell? ⟨b,19,none⟩=some (.int .i64 M.clk.l1)∧w'.cell? ⟨b,20,none⟩=some (.int .i64 M.clk.m0)∧w'.cell? ⟨b,21,none⟩=some (.int .i64 M.clk.m1)∧w'.cell? ⟨b,22,none⟩=some (.int .i64 M.clk.p0)∧w'.cell? ⟨b,23,none⟩=some (.int .i64 M.clk.p1)∧w'.cell? ⟨b,24,none⟩=some (.int .i64 M.clk.turn)∧w'.cell? ⟨b,25,none⟩=some (.int .i64 M.clk.since)∧w'.cell? ⟨b,26,none⟩=some (.bool M.clk.st)∧w'.cell? ⟨b,27,none⟩=some (.int .i64 M.clk.ak))) (L:=[18]) (by kernel_rfl) (by and_intros <;> exact Mz.box.cell _ rfl) (fun hHeld=>?_)
 refine aF 0 ?_
 refine aF 1 ?_
 refine aF 5 ?_
 refine aF 10 ?_
 refine aF 2 ?_
 refine aF 6 ?_
 refine aF 3 ?_
 refine aF 7 ?_
 refine dL 4 ?_
 refine aF 8 ?_
 refine dL 9 ?_
 refine dO 11 fun K hK=>?_
 go_simp
 refine (J8 M.CR M.clk now B.pa B.pc _ HC.out.cr HC.out.ck HC.out.sn HC.out.nw HC.out.st HC.out.fl HC.out.us Mz.fr.per).mono ?_
 rintro e ku ⟨rfl,mJ⟩
 unfold Bc
 have M11:=Mz.below mJ
 have F11:=mJ
 refine hK.out _ _ (by and_intros <;> exact M11.box.cell _ rfl) (fun hHeld=>?_)
 clear hK K
 refine aF 12 ?_
 refine aF 13 ?_
 refine aF 14 ?_
 refine aF 15 ?_
 refine aF 16 ?_
 refine aF 17 ?_
 refine xE 18 fun K hK=>?_
 rw [if_pos (by rfl)]
 refine wp_store_mid 67 (.tmp 32) (.tmp 28) (by rfl) b 18 #[.int .i64 (dA M.CR M.clk now).l0,.int .i64 (dA M.CR M.clk now).l1,.int .i64 (dA M.CR M.clk now).m0,.int .i64 (dA M.CR M.clk now).m1,.int .i64 (dA M.CR M.clk now).p0,.int .i64 (dA M.CR M.clk now).p1,.int .i64 (dA M.CR M.clk now).turn,.int .i64 (dA M.CR M.clk now).since,.bool (dA M.CR M.clk now).st,.int .i64 (dA M.CR M.clk now).ak] (by rfl) (by rfl) (M11.box.has 18 10 (by simp [J6])) (by kernel_rfl) (V6 (dA M.CR M.clk now)) ?_
 refine aK ?_
 intro w18 e18
 have E18:=hid e18
 clear e18
 refine hK.out _ _ ?_
 clear hK K
 refine iE ?_
 have MP:=M11.put (M':={ M with ms:=M.ms++[x],clk:=(dA M.CR M.clk now) }) (B':=B) 18 [.int .i64 (dA M.CR M.clk now).l0,.int .i64 (dA M.CR M.clk now).l1,.int .i64 (dA M.CR M.clk now).m0,.int .i64 (dA M.CR M.clk now).m1,.int .i64 (dA M.CR M.clk now).p0,.int .i64 (dA M.CR M.clk now).p1,.int .i64 (dA M.CR M.clk now).turn,.int .i64 (dA M.CR M.clk now).since,.bool (dA M.CR M.clk now).st,.int .i64 (dA M.CR M.clk now).ak] (by simp) rfl rfl rfl rfl (M11.rd.imp (fun _ h=>⟨h.rd,h.per,h.pc,h.pr,h.jr⟩))
 have Kq:Hid (aH X S' base w18 b { M with ms:=M.ms++[x],clk:=(dA M.CR M.clk now) } B):=hid (by rw [E18.out]; exact MP.1)
 have aeY:Hid (dD S' b wq.drew w18):=hid (by rw [E18.out]; exact (dD.new F11).trans MP.2 (dw.refl _ _))
 clear MP E18 M11 F11 hHeld Mz
 go_upto_region 4 with (fail)
 generalize w18=w8 at *
 have c28:=Kq.out.box.cell 28 rfl
 have c29:=Kq.out.box.cell 29 rfl
 have c30:=Kq.out.box.cell 30 rfl
 have c31:=Kq.out.box.cell 31 rfl
 have c32:=Kq.out.box.cell 32 rfl
 have c33:=Kq.out.box.cell 33 rfl
 go_wp2_with fail
 refine (V4 M.off M.pos.turn w8 HC.out.og HC.out.tn).mono ?_
 rintro e w9 ⟨rfl,Eu⟩
 unfold EO
 have lG:=hid (Kq.out.below Eu)
 have FI:Hid (dD S' b w8 w9):=hid (dD.new Eu)
 clear Eu c28 c29 c30 c31 c32 c33
 have c28:=lG.out.box.cell 28 rfl
 have f28:=lG.out.box.frozen 28
 have c29:=lG.out.box.cell 29 rfl
 have f29:=lG.out.box.frozen 29
 have c30:=lG.out.box.cell 30 rfl
 have f30:=lG.out.box.frozen 30
 have c31:=lG.out.box.cell 31 rfl
 have f31:=lG.out.box.frozen 31
 have c32:=lG.out.box.cell 32 rfl
 have f32:=lG.out.box.frozen 32
 have c33:=lG.out.box.cell 33 rfl
 have f33:=lG.out.box.frozen 33
 have HP:=hid (lG.out.put (M':=M.move x now) (B':=B) 28 [.int .i64 (qP M.off M.pos.turn).b0,.int .i64 (qP M.off M.pos.turn).b1,.int .i64 (qP M.off M.pos.turn).aY,.int .i64 (qP M.off M.pos.turn).aZ,.int .i64 (qP M.off M.pos.turn).l10,.int .i64 (qP M.off M.pos.turn).aX] (by simp) rfl rfl rfl rfl (lG.out.rd.imp (fun _ h=>⟨h.rd,h.per,h.pc,h.pr,h.jr⟩)))
 generalize (qP M.off M.pos.turn)=om at *
 go_wp2_with fail
 go_end0
 exact ⟨rfl,S',B,HP.out.1,HSa.out,dD.trans HFa.out (aeY.out.trans (FI.out.trans HP.out.2 (dw.refl _ _)) (dw.refl _ _)) HSa.out⟩
end Go.Proofs.YtmabaojkignodaaGreatDoor
namespace Go.Proofs.YtmabaojkignodaaGreatDoor
open Go.ChangeShapes Go.WideShapes Go.ChangeAt Go.RowKit
set_option linter.unusedVariables false
structure Mid (M:aG) (now:Int):Prop where
 nm:M.R.name.size≤maxLen
 cr:xU M.CR
 ck:qV M.CR M.clk
 sn:M.clk.since≤now
 nw:now≤100000000
 st:M.clk.st=false
 fl:M.clk.ak<0
 og:kF M.off
 pr:nM M.aS
 us:kK M.CR M.clk now≤if M.clk.turn=0 then M.clk.l0 else M.clk.l1
theorem Mid.n0 {M:aG} {now:Int} (h:Mid M now):0≤now:=by have:=h.ck.s; have:=h.sn; omega
theorem Mid.move {M:aG} {now:Int} (h:Mid M now) (x:aN):Mid (M.move x now) now:=by
 have hr:=JL M.CR M.clk now
 have hg:qV M.CR (dA M.CR M.clk now):=Vu h.cr h.ck h.n0 h.nw h.us
 refine ⟨h.nm,h.cr,hg,?_,h.nw,?_,?_,Vx h.og _,h.pr,?_⟩
 ·show (dA M.CR M.clk now).since≤now; rw [hr.1]; exact Int.le_refl _
 ·show (dA M.CR M.clk now).st=false; rw [hr.2.2]; exact h.st
 ·show (dA M.CR M.clk now).ak<0; rw [hr.2.1]; exact h.fl
 ·show kK M.CR (dA M.CR M.clk now) now≤_
  rw [NP h.cr hr.1]
  have h0:=hg.l0; have h1:=hg.l1
  show 0≤if (dA M.CR M.clk now).turn=0 then (dA M.CR M.clk now).l0 else (dA M.CR M.clk now).l1
  split <;> omega
theorem Mid.rest {M:aG} {now:Int} (h:Mid M now):Mid { M with aS:=aJ M.R M.pos M.aS } now:=
 ⟨h.nm,h.cr,h.ck,h.sn,h.nw,h.st,h.fl,h.og,h.pr.sub (QS _ _ _),h.us⟩
theorem N8 (now:Int) (f:Nat) (M:aG) (h:M.game=0) (hl:M.ms.length<400) (hf:0<f) :
  aG.runs now f M=if gB M.R M.pos M.aS=true then aG.runs now (f - 1) (aG.move { M with aS:=aJ M.R M.pos M.aS } (bf M.R M.pos M.aS) now) else { M with aS:=aJ M.R M.pos M.aS }:=by
 obtain ⟨f,rfl⟩:∃ k,f=k+1:=⟨f - 1,by omega⟩
 rw [aG.runs,if_pos ⟨h,hl⟩]; rfl
theorem DL (now:Int) (f:Nat) (M:aG) (h:¬ (M.game=0∧M.ms.length<400)):aG.runs now f M=M:=by
 cases f with
 | zero=>rfl
 | succ f=>rw [aG.runs,if_neg h]
theorem Bd {R:aC} {p:bg} {l:List bT} (h:gB R p l=true):bf R p l∈iy R p:=by
 unfold bf
 rw [if_pos h]
 unfold gB at h
 rw [Bool.and_eq_true] at h
 exact of_decide_eq_true h.2
theorem Kr {R:aC} {p:bg} {m:aN} (h:m∈iy R p):m∈iF R p:=by
 unfold iy at h
 split at h
 ·exact h
 ·cases h
theorem sN {R:aC} {ms:List aN} {m:aN} (h1:fM R ms=0) (h2:m∈iy R (bn R ms)) (h3:ms.length≠400):iV R ms m=0:=by
 unfold iV
 rw [if_neg (by simp [h1]),if_neg (by simpa using Kr h2),if_neg h3]
theorem DN {l:List bT} (h:nM l):fO l=0:=by
 unfold fO
 have h0:=h.n0; have h1:=h.n1
 rw [if_neg (by omega),if_neg]
 intro hc
 rw [List.any_eq_true] at hc
 obtain ⟨x,hx,hb⟩:=hc
 rcases h.pl x hx with e | e <;> simp [e] at hb
end Go.Proofs.YtmabaojkignodaaGreatDoor

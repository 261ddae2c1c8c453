/- MaOp, ReO. -/
import Derived.Test.YtmabaojkignodaaGreatDoorD35
import Derived.Stop.LaidErr
import Derived.LaidMore
import Derived.ChangeSame
import Derived.ChangeVars
namespace Go.Proofs.YtmabaojkignodaaGreatDoor
open Go.ChangeShapes Go.WideShapes Go.ChangeAt Go.RowKit Go.Deep
set_option linter.unusedVariables false
set_option maxRecDepth 100000
section
variable {H:Type} {enc:TypeId×Value→H} {w:World}
theorem TR (fuel:Nat) (cs:List Value) (y:DataW H×List MemPlace) (h:DataW.trod enc Tryz.prog w 0 (fun _=>true) true fuel 154 cs=some y):∃ x,Bv.E w x cs:=by
 obtain ⟨xs,n,hlen,hxl,hf⟩:=DZ Tryz.underlying154 (by kernel_rfl) h
 obtain ⟨a,b,rfl⟩:∃ a b,cs=[a,b]:=by
  have hl:cs.length=2:=hlen.trans (by kernel_rfl)
  match cs,hl with
  | [a,b],_=>exact ⟨a,b,rfl⟩
 have hx:xs.length=2:=hxl
 obtain ⟨y0,y1,rfl⟩:∃ a b,xs=[a,b]:=by
  match xs,hx with
  | [a,b],_=>exact ⟨a,b,rfl⟩
 have f0:=hf 0 _ rfl
 have f1:=hf 1 _ rfl
 obtain ⟨n0,e0,-,-⟩:=DataW.trod_int Tryz.underlying3 f0
 obtain ⟨n1,e1,-,-⟩:=DataW.trod_int Tryz.underlying3 f1
 simp at e0 e1
 subst e0 e1
 exact ⟨(n0,n1),rfl⟩
theorem WO {r:Reach} {base:Nat} {v:Value} {d:DataW H} {p:List MemPlace} (hv:Value.okWide Tryz.prog w r base 49 v) (h:DataW.Trod enc Tryz.prog w 0 (fun _=>true) true 49 v d p) :
  ∃ (CR:nJ) (pa:Option Addr) (pc:Nat),v=.agg #[.slice pa CR.ps.length pc,.int .i64 CR.inc,.int .i64 CR.delay]∧clk.dV w w.heap.size pa CR.ps.length CR.ps∧CR.ps.length≤pc∧pc≤maxLen:=by
 obtain ⟨cs,rfl,hl,hcell⟩:=EX (ts:=[47,3,3]) Tryz.underlying49 (by kernel_rfl) (by kernel_rfl) hv
 obtain ⟨fuel,hf⟩:=h
 simp only [Value.cells] at hf
 obtain ⟨xs,n,_,_,_,hxl,hf⟩:=DataW.trod_struct Tryz.underlying49 hf
 obtain ⟨a,b,c,rfl⟩:=IE hl
 have hx:xs.length=3:=hxl
 obtain ⟨y0,y1,y2,rfl⟩:∃ a b c,xs=[a,b,c]:=by
  match xs,hx with
  | [a,b,c],_=>exact ⟨a,b,c,rfl⟩
 have f0:=XK hf 0 0 1 47 (by kernel_rfl) (by kernel_rfl)
 have f1:=XK hf 1 1 1 3 (by kernel_rfl) (by kernel_rfl)
 have f2:=XK hf 2 2 1 3 (by kernel_rfl) (by kernel_rfl)
 obtain ⟨n0,e0,-,-⟩:=DataW.trod_int Tryz.underlying3 f1
 obtain ⟨n1,e1,-,-⟩:=DataW.trod_int Tryz.underlying3 f2
 simp at e0 e1
 subst e0 e1
 obtain ⟨v',ps,hc,hr⟩:=open_list Bv Tryz.underlying47 (by kernel_rfl) (by decide) (TR (enc:=enc) (w:=w)) (by simpa using f0)
 simp at hc
 subst hc
 obtain ⟨pa,pc,rfl,h1,h2⟩:=hr.form
 exact ⟨⟨ps,n0,n1⟩,pa,pc,rfl,LQ hr,h1,h2⟩
theorem WQ (fuel:Nat) (cs:List Value) (y:DataW H×List MemPlace) (h:DataW.trod enc Tryz.prog w 0 (fun _=>true) true fuel 54 cs=some y):∃ x,TQ.E w x cs:=by
 obtain ⟨xs,n,_,_,hlen,hxl,hf⟩:=DataW.trod_struct Tryz.underlying54 h
 obtain ⟨a,b,c,d,e,f,g,rfl⟩:∃ a b c d e f g,cs=[a,b,c,d,e,f,g]:=by
  have hl:cs.length=7:=hlen.trans (by kernel_rfl)
  match cs,hl with
  | [a,b,c,d,e,f,g],_=>exact ⟨a,b,c,d,e,f,g,rfl⟩
 have hx:xs.length=5:=hxl
 obtain ⟨y0,y1,y2,y3,y4,rfl⟩:∃ a b c d e,xs=[a,b,c,d,e]:=by
  match xs,hx with
  | [a,b,c,d,e],_=>exact ⟨a,b,c,d,e,rfl⟩
 have f0:=XK hf 0 0 1 3 (by kernel_rfl) (by kernel_rfl)
 have f1:=XK hf 1 1 1 3 (by kernel_rfl) (by kernel_rfl)
 have f2:=XK hf 2 2 1 3 (by kernel_rfl) (by kernel_rfl)
 have f3:=XK hf 3 3 1 3 (by kernel_rfl) (by kernel_rfl)
 have f4:=XK hf 4 4 3 52 (by kernel_rfl) (by kernel_rfl)
 obtain ⟨ms,m,hml,hmx,hm⟩:=DZ Tryz.underlying52 (by kernel_rfl) f4
 have afX:ms.length=3:=hmx
 obtain ⟨z0,z1,z2,rfl⟩:∃ a b c,ms=[a,b,c]:=by
  match ms,afX with
  | [a,b,c],_=>exact ⟨a,b,c,rfl⟩
 have g0:=hm 0 _ rfl
 have g1:=hm 1 _ rfl
 have g2:=hm 2 _ rfl
 obtain ⟨n0,e0,-,w0⟩:=DataW.trod_int Tryz.underlying3 f0
 obtain ⟨n1,e1,-,w1⟩:=DataW.trod_int Tryz.underlying3 f1
 obtain ⟨n2,e2,-,w2⟩:=DataW.trod_int Tryz.underlying3 f2
 obtain ⟨n3,e3,-,w3⟩:=DataW.trod_int Tryz.underlying3 f3
 obtain ⟨n4,e4,-,w4⟩:=DataW.trod_int Tryz.underlying3 g0
 obtain ⟨n5,e5,-,w5⟩:=DataW.trod_int Tryz.underlying3 g1
 obtain ⟨n6,e6,-,w6⟩:=DataW.trod_int Tryz.underlying3 g2
 simp at e0 e1 e2 e3 e4 e5 e6
 subst e0 e1 e2 e3 e4 e5 e6
 refine ⟨⟨n0,n1,n2,n3,⟨n4,n5,n6⟩⟩,rfl,?_⟩
 have q1:IntKind.i64.min = -9223372036854775808:=rfl
 have q2:IntKind.i64.max=9223372036854775807:=rfl
 simp [Lit.wf,q1,q2] at w0 w1 w2 w3 w4 w5 w6
 intro x hx
 simp only [mP,List.mem_cons,List.not_mem_nil,or_false] at hx
 rcases hx with rfl | rfl | rfl | rfl | rfl | rfl | rfl <;> omega
theorem TS {r:Reach} {base:Nat} {v:Value} {d:DataW H} {p:List MemPlace} (hv:Value.okWide Tryz.prog w r base 50 v) (h:DataW.Trod enc Tryz.prog w 0 (fun _=>true) true 50 v d p):∃ xs,gI TQ w v xs:=
 KR TQ Tryz.underlying50 (by kernel_rfl) (by decide) (WQ (enc:=enc) (w:=w)) hv h
end
end Go.Proofs.YtmabaojkignodaaGreatDoor
namespace Go.Proofs.YtmabaojkignodaaGreatDoor
open Go.ChangeShapes Go.WideShapes Go.ChangeAt Go.RowKit Go.Deep
set_option linter.unusedVariables false
section
variable {H:Type} {enc:TypeId×Value→H} {w:World}
set_option maxRecDepth 100000 in
theorem abx (fuel:Nat) (cs:List Value) (y:DataW H×List MemPlace) (h:DataW.trod enc Tryz.prog w 0 (fun _=>true) true fuel 86 cs=some y):∃ (kd ev pl nn:Int) (m:aN),cs=[.int .i64 kd,.int .i64 ev,.int .i64 pl,.int .i64 nn,.int .i64 m.src,.int .i64 m.dst,.int .i64 m.piece]:=by
 obtain ⟨xs,n,_,_,hlen,hxl,hf⟩:=DataW.trod_struct Tryz.underlying86 h
 obtain ⟨a,b,c,d,e,f,g,rfl⟩:∃ a b c d e f g,cs=[a,b,c,d,e,f,g]:=by
  have hl:cs.length=7:=hlen.trans (by kernel_rfl)
  match cs,hl with
  | [a,b,c,d,e,f,g],_=>exact ⟨a,b,c,d,e,f,g,rfl⟩
 have hx:xs.length=5:=hxl
 obtain ⟨y0,y1,y2,y3,y4,rfl⟩:∃ a b c d e,xs=[a,b,c,d,e]:=by
  match xs,hx with
  | [a,b,c,d,e],_=>exact ⟨a,b,c,d,e,rfl⟩
 have f0:=XK hf 0 0 1 3 (by kernel_rfl) (by kernel_rfl)
 have f1:=XK hf 1 1 1 3 (by kernel_rfl) (by kernel_rfl)
 have f2:=XK hf 2 2 1 3 (by kernel_rfl) (by kernel_rfl)
 have f3:=XK hf 3 3 1 3 (by kernel_rfl) (by kernel_rfl)
 have f4:=XK hf 4 4 3 52 (by kernel_rfl) (by kernel_rfl)
 obtain ⟨ms,m,hml,hmx,hm⟩:=DZ Tryz.underlying52 (by kernel_rfl) f4
 have afX:ms.length=3:=hmx
 obtain ⟨z0,z1,z2,rfl⟩:∃ a b c,ms=[a,b,c]:=by
  match ms,afX with
  | [a,b,c],_=>exact ⟨a,b,c,rfl⟩
 have g0:=hm 0 _ rfl
 have g1:=hm 1 _ rfl
 have g2:=hm 2 _ rfl
 obtain ⟨n0,e0,-,-⟩:=DataW.trod_int Tryz.underlying3 f0
 obtain ⟨n1,e1,-,-⟩:=DataW.trod_int Tryz.underlying3 f1
 obtain ⟨n2,e2,-,-⟩:=DataW.trod_int Tryz.underlying3 f2
 obtain ⟨n3,e3,-,-⟩:=DataW.trod_int Tryz.underlying3 f3
 obtain ⟨n4,e4,-,-⟩:=DataW.trod_int Tryz.underlying3 g0
 obtain ⟨n5,e5,-,-⟩:=DataW.trod_int Tryz.underlying3 g1
 obtain ⟨n6,e6,-,-⟩:=DataW.trod_int Tryz.underlying3 g2
 simp at e0 e1 e2 e3 e4 e5 e6
 subst e0 e1 e2 e3 e4 e5 e6
 exact ⟨n0,n1,n2,n3,⟨n4,n5,n6⟩,rfl⟩
set_option maxRecDepth 100000 in
theorem abT {r:Reach} {base:Nat} {v:Value} {d:DataW H} {p:List MemPlace} (hv:Value.okWide Tryz.prog w r base 86 v) (h:DataW.Trod enc Tryz.prog w 0 (fun _=>true) true 86 v d p):∃ (kd ev pl nn:Int) (m:aN),v=.agg #[.int .i64 kd,.int .i64 ev,.int .i64 pl,.int .i64 nn,.int .i64 m.src,.int .i64 m.dst,.int .i64 m.piece]:=by
 obtain ⟨cs,rfl,hl,hcell⟩:=EX (ts:=[3,3,3,3,3,3,3]) Tryz.underlying86 (by kernel_rfl) (by kernel_rfl) hv
 obtain ⟨fuel,hf⟩:=h
 simp only [Value.cells] at hf
 obtain ⟨kd,ev,pl,nn,m,hx⟩:=abx (enc:=enc) (w:=w) _ _ _ hf
 exact ⟨kd,ev,pl,nn,m,by rw [← hx]⟩
end
end Go.Proofs.YtmabaojkignodaaGreatDoor

/- AnH, AnI, RdD, RdE, AnJ, RdF, RdG, Begin2, RdH, RdS, RecT, RecU, GyR. -/
import Derived.Test.YteablcielclaeaaGreatDoorC29
import Derived.Defers
import Derived.Recover
namespace Go.Proofs.YteablcielclaeaaGreatDoor
open Go.ChangeShapes Go.WideShapes Go.ChangeAt Go.RowKit
set_option linter.unusedVariables false
def Und (ns:List aX) (p:Int) (k:Nat):Prop:=k<ns.length∧Up ns (aG ns k).parent p
theorem Und.lt {ns:List aX} (hb:Back ns ns.length) {p:Int} {k:Nat} (h:Und ns p k):p<k:=by
 have h1:=hb k h.1
 have h2:=Yg hb h.2 (by have:=h.1; omega)
 omega
def qj (Ws:List Value) (k:Nat):Nat:=
 match Ws[k]? with
 | some (.pointer (some a))=>a.block
 | _=>0
theorem zV {Ws YB:List Value} {k:Nat} (h:YB[k]?=Ws[k]?):qj YB k=qj Ws k:=by unfold qj; rw [h]
theorem abA {Ws:List Value} {k g:Nat} (h:Ws[k]?=some (En g)):qj Ws k=g:=by unfold qj; rw [h]; rfl
def kv (w:World) (g:Nat):Value:=(w.cell? ⟨g,4,none⟩).getD (.slice none 0 0)
theorem ahK {w w':World} {g:Nat} (h:w'.heap[g]?=w.heap[g]?):kv w' g=kv w g:=by
 unfold kv
 rw [World.cell?_of_block (a:=⟨g,4,none⟩) h]
variable {tb te:TypeId}
def alZ:Nat→Prop:=fun _=>True
structure Nd (tb te:TypeId) (base:Nat) (w:World) (ns:List aX) (ord:Int→List Nat) (Ws:List Value) (k:Nat):Prop where
 here:Ws[k]?=some (En (qj Ws k))
 nd:alY alZ tb te base w ns ord (qj Ws) (fun k=>kv w (qj Ws k)) k
theorem Nd.lo {base:Nat} {w:World} {ns:List aX} {ord:Int→List Nat} {Ws:List Value} {k:Nat} (h:Nd tb te base w ns ord Ws k):base≤qj Ws k:=h.nd.lo
theorem Nd.hi {base:Nat} {w:World} {ns:List aX} {ord:Int→List Nat} {Ws:List Value} {k:Nat} (h:Nd tb te base w ns ord Ws k):qj Ws k<w.heap.size:=h.nd.box.lt
theorem Nd.row {base:Nat} {w:World} {ns:List aX} {ord:Int→List Nat} {Ws:List Value} {k:Nat} (h:Nd tb te base w ns ord Ws k):∀ g,(kv w (qj Ws k)).ownBlock=some g→base≤g∧g<w.heap.size:=h.nd.row.lt
theorem Nd.step {base base':Nat} {w w':World} {ns:List aX} {ord:Int→List Nat} {Ws YB:List Value} {k:Nat} (h:Nd tb te base w ns ord Ws k) (hb:base'≤base) (hA:w'.heap[qj Ws k]?=w.heap[qj Ws k]?)
  (hR:∀ g,(kv w (qj Ws k)).ownBlock=some g→w'.heap[g]?=w.heap[g]?) (hW:YB[k]?=Ws[k]?) (hO:∀ j∈ord (k:Int),YB[j]?=Ws[j]?):Nd tb te base' w' ns ord YB k∧kv w' (qj YB k)=kv w (qj Ws k):=by
 have ea:=zV hW
 have ek:=ahK hA
 have e2:kv w' (qj YB k)=kv w (qj Ws k):=by rw [ea,ek]
 refine ⟨⟨by rw [hW,ea]; exact h.here,?_⟩,e2⟩
 refine ⟨by rw [ea]; exact Nat.le_trans hb h.lo,?_,h.nd.sz,?_,?_⟩
 ·show Box w' (qj YB k) _ tb
  rw [e2,ea]
  exact hA.trans h.nd.box
 ·show w'.ownsRow base' te 1 (kv w' (qj YB k)) _ _
  rw [e2]
  have em:((ord (k:Int)).map fun j=>En (qj YB j))=(ord (k:Int)).map fun j=>En (qj Ws j):=List.map_congr_left fun j hj=>by rw [zV (hO j hj)]
  rw [em]
  exact rU (own_base h.nd.row hb) hR
 ·exact ⟨trivial,fun _ _=>trivial⟩
def Apart (w:World) (Ws:List Value) (k k':Nat):Prop:=qj Ws k≠qj Ws k'∧((kv w (qj Ws k)).ownBlock=none∨(kv w (qj Ws k)).ownBlock≠(kv w (qj Ws k')).ownBlock)
structure TS (tb te:TypeId) (base:Nat) (w0 w:World) (ns:List aX) (ord:Int→List Nat) (bw:Nat) (Ws0 Ws:List Value) (S:Nat→Prop) (v:Value) (js:List Nat):Prop where
 grow:w0.grownBy w (some bw)
 wh:Box w bw Ws te
 abC:Ws.length=Ws0.length
 aex:∀ k,¬ S k→Ws[k]?=Ws0[k]?
 nds:∀ k,S k→Nd tb te base w ns ord Ws k
 sep:∀ k k',S k→S k'→k≠k'→Apart w Ws k k'
 clo:∀ k,S k→∀ j∈ord (k:Int),S j
 sub:∀ j∈js,S j
 out:w.ownsRow base te 1 v js.length (js.map fun j=>En (qj Ws j))
 abD:∀ k,S k→v.ownBlock=none∨v.ownBlock≠(kv w (qj Ws k)).ownBlock
theorem uH {a b c:World} {r:Option Nat} (h:a.grownBy b r) (k:b.grownBy c r):a.grownBy c r:=
 ⟨k.os.trans h.os,k.tape.trans h.tape,k.output.trans h.output,Nat.le_trans h.size k.size,fun i h1 h2=>(k.block i (Nat.lt_of_lt_of_le h1 h.size) h2).trans (h.block i h1 h2)⟩
theorem UJ {a w:World} {r:Option Nat} (h:a.grownBy w r) (p:Addr) (u:Value) (hp:some p.block=r∨a.heap.size≤p.block):a.grownBy (w.setCell p u) r:=
 ⟨h.os,h.tape,h.output,by simpa using h.size,fun k h1 h2=>(Below.heap_setCell w p u k (by intro e; rcases hp with hp | hp; (· exact h2 (by rw [e]; exact hp)); omega)).trans (h.block k h1 h2)⟩
theorem TS.start {w:World} {ns:List aX} {ord:Int→List Nat} {bw:Nat} {Ws:List Value} (base:Nat) (hb:Box w bw Ws te):TS tb te base w w ns ord bw Ws Ws (fun _=>False) (.slice none 0 0) []:=
 ⟨⟨rfl,rfl,rfl,Nat.le_refl _,fun _ _ _=>rfl⟩,hb,rfl,fun _ _=>rfl,fun _ h=>h.elim,fun _ _ h=>h.elim,fun _ h=>h.elim,fun _ h=>(List.not_mem_nil h).elim,World.ownsRow_nil _ _ _ _,fun _ h=>h.elim⟩
theorem TS.node {base:Nat} {w1 wr w3 w4:World} {ns:List aX} {ord:Int→List Nat} {bw:Nat} {Ws0 Ws Ws1 EP:List Value} {S U:Nat→Prop} {v v4:Value} {js:List Nat} {c B:Nat}
  (h:TS tb te base w1 wr ns ord bw Ws0 Ws S v js) (hb1:base≤w1.heap.size) (hbw:bw<base) (hB:wr.heap.size=B) (hw1:Ws1=Ws.set c (En B)) (hc:c<Ws0.length)
  (hg3:wr.grownBy w3 (some bw)) (hs3:w3.heap.size=B+1) (hx3:Box w3 B [.int .i64 (aG ns c).m.src,.int .i64 (aG ns c).m.dst,.int .i64 (aG ns c).m.piece,.string (aG ns c).comment,.slice none 0 0] tb)
  (hsz:(aG ns c).comment.size≤maxLen) (h4:TS tb te (B+1) w3 w4 ns ord bw Ws1 EP U v4 (ord (c:Int))) (hcU:¬ U c) (hSc:¬ S c) (hSU:∀ k,U k→¬ S k) :
  TS tb te base w1 (w4.setCell ⟨B,4,none⟩ v4) ns ord bw Ws0 EP (fun k=>S k∨k=c∨U k) v js:=by
 have hwr:=h.grow.size
 have hbB:base≤B:=by omega
 have h34:=h4.grow.size
 have e1:∀ k,k≠c→Ws1[k]?=Ws[k]?:=fun k hk=>by rw [hw1,List.getElem?_set,if_neg (Ne.symm hk)]
 have e1c:Ws1[c]?=some (En B):=by rw [hw1,List.getElem?_set,if_pos rfl,if_pos (by rw [h.abC]; exact hc)]
 have e2:∀ k,¬ U k→EP[k]?=Ws1[k]?:=h4.aex
 have e2c:EP[c]?=some (En B):=by rw [e2 c hcU,e1c]
 have ac:qj EP c=B:=abA e2c
 have hbs:∀ g,base≤g→g<B→(w4.setCell ⟨B,4,none⟩ v4).heap[g]?=wr.heap[g]?:=fun g h1 h2=>by
  rw [Below.heap_setCell w4 _ v4 g (by show g≠B; omega),h4.grow.block g (by omega) (by simp; omega),hg3.block g (by omega) (by simp; omega)]
 have hbu:∀ g,B+1≤g→(w4.setCell ⟨B,4,none⟩ v4).heap[g]?=w4.heap[g]?:=fun g h1=>Below.heap_setCell w4 _ v4 g (by show g≠B; omega)
 have hx4:Box (w4.setCell ⟨B,4,none⟩ v4) B [.int .i64 (aG ns c).m.src,.int .i64 (aG ns c).m.dst,.int .i64 (aG ns c).m.piece,.string (aG ns c).comment,v4] tb:=by
  have hx:Box w4 B [.int .i64 (aG ns c).m.src,.int .i64 (aG ns c).m.dst,.int .i64 (aG ns c).m.piece,.string (aG ns c).comment,.slice none 0 0] tb:=(h4.grow.block B (by omega) (by simp; omega)).trans hx3
  exact hx.set 4 v4
 have kc:kv (w4.setCell ⟨B,4,none⟩ v4) B=v4:=by unfold kv; rw [hx4.cell 4 rfl]; rfl
 have YC:∀ k,S k→Nd tb te base (w4.setCell ⟨B,4,none⟩ v4) ns ord EP k∧kv (w4.setCell ⟨B,4,none⟩ v4) (qj EP k)=kv wr (qj Ws k):=fun k hk=>by
  have hn:=h.nds k hk
  have hW:∀ j,S j→EP[j]?=Ws[j]?:=fun j hj=>by rw [e2 j (fun hu=>hSU j hu hj),e1 j (fun e=>hSc (e ▸ hj))]
  exact hn.step (Nat.le_refl _) (hbs _ hn.lo (by rw [← hB]; exact hn.hi)) (fun g hg=>hbs g (hn.row g hg).1 (by rw [← hB]; exact (hn.row g hg).2)) (hW k hk) (fun j hj=>hW j (h.clo k hk j hj))
 have Fb:∀ k,U k→Nd tb te (B+1) (w4.setCell ⟨B,4,none⟩ v4) ns ord EP k∧kv (w4.setCell ⟨B,4,none⟩ v4) (qj EP k)=kv w4 (qj EP k):=fun k hk=>by
  have hn:=h4.nds k hk
  exact hn.step (Nat.le_refl _) (hbu _ hn.lo) (fun g hg=>hbu g (hn.row g hg).1) rfl (fun _ _=>rfl)
 have abE:∀ k,S k→qj EP k<B:=fun k hk=>by
  have hW:EP[k]?=Ws[k]?:=by rw [e2 k (fun hu=>hSU k hu hk),e1 k (fun e=>hSc (e ▸ hk))]
  rw [zV hW,← hB]; exact (h.nds k hk).hi
 have abG:∀ k,S k→∀ g,(kv (w4.setCell ⟨B,4,none⟩ v4) (qj EP k)).ownBlock=some g→g<B:=fun k hk g hg=>by
  rw [(YC k hk).2] at hg
  rw [← hB]; exact ((h.nds k hk).row g hg).2
 have aey:∀ k,U k→∀ g,(kv (w4.setCell ⟨B,4,none⟩ v4) (qj EP k)).ownBlock=some g→B+1≤g:=fun k hk g hg=>((Fb k hk).1.row g hg).1
 have abH:∀ g,v4.ownBlock=some g→B+1≤g:=fun g hg=>(h4.out.lt g hg).1
 have far:∀ (x y:Option Nat) (m:Nat),(∀ g,x=some g→g<m)→(∀ g,y=some g→m≤g)→x=none∨x≠y:=fun x y m hx hy=>by
  cases x with
  | none=>exact .inl rfl
  | some g=>exact .inr fun e=>by have h1:=hx g rfl; have h2:=hy g e.symm; omega
 have far':∀ (x y:Option Nat) (m:Nat),(∀ g,x=some g→m≤g)→(∀ g,y=some g→g<m)→x=none∨x≠y:=fun x y m hx hy=>by
  cases x with
  | none=>exact .inl rfl
  | some g=>exact .inr fun e=>by have h1:=hx g rfl; have h2:=hy g e.symm; omega
 refine ⟨?_,?_,?_,?_,?_,?_,?_,?_,?_,?_⟩
 ·exact UJ (uH (uH h.grow hg3) h4.grow) _ _ (.inr (by show w1.heap.size≤B; omega))
 ·exact h4.wh.far _ _ (by show bw≠B; omega)
 ·rw [h4.abC,hw1,List.length_set,h.abC]
 ·intro k hk
  rw [e2 k (fun hu=>hk (.inr (.inr hu))),e1 k (fun e=>hk (.inr (.inl e))),h.aex k (fun hs=>hk (.inl hs))]
 ·rintro k (hk | rfl | hk)
  ·exact (YC k hk).1
  ·refine ⟨by rw [e2c,ac],?_⟩
   refine ⟨by rw [ac]; exact hbB,?_,hsz,?_,?_⟩
   ·show Box _ (qj EP k) [_,_,_,_,kv _ (qj EP k)] tb
    rw [ac,kc]; exact hx4
   ·show World.ownsRow _ base te 1 (kv _ (qj EP k)) _ _
    rw [ac,kc]
    exact rU (own_base h4.out (by omega)) (fun g hg=>hbu g (abH g hg))
   ·exact ⟨trivial,fun _ _=>trivial⟩
  ·exact ((Fb k hk).1.step (by omega) rfl (fun _ _=>rfl) rfl (fun _ _=>rfl)).1
 ·rintro k k' hk hk' hne
  unfold Apart
  rcases hk with hk | rfl | hk <;> rcases hk' with hk' | rfl | hk'
  ·have hW:∀ j,S j→EP[j]?=Ws[j]?:=fun j hj=>by rw [e2 j (fun hu=>hSU j hu hj),e1 j (fun e=>hSc (e ▸ hj))]
   rw [(YC k hk).2,(YC k' hk').2,zV (hW k hk),zV (hW k' hk')]
   exact h.sep k k' hk hk' hne
  ·exact ⟨by have:=abE k hk; rw [ac]; omega,by rw [ac,kc]; exact far _ _ B (abG k hk) (fun g hg=>by have:=abH g hg; omega)⟩
  ·exact ⟨by have:=abE k hk; have:=(Fb k' hk').1.lo; omega,far _ _ B (abG k hk) (fun g hg=>by have:=aey k' hk' g hg; omega)⟩
  ·exact ⟨by have:=abE k' hk'; rw [ac]; omega,by rw [ac,kc]; exact far' _ _ B (fun g hg=>by have:=abH g hg; omega) (abG k' hk')⟩
  ·exact absurd rfl hne
  ·refine ⟨by have:=(Fb k' hk').1.lo; rw [ac]; omega,?_⟩
   rw [ac,kc,(Fb k' hk').2]
   exact h4.abD k' hk'
  ·exact ⟨by have:=abE k' hk'; have:=(Fb k hk).1.lo; omega,far' _ _ B (fun g hg=>by have:=aey k hk g hg; omega) (abG k' hk')⟩
  ·refine ⟨by have:=(Fb k hk).1.lo; rw [ac]; omega,?_⟩
   rw [ac,kc,(Fb k hk).2]
   rcases h4.abD k hk with h0 | h0
   ·cases hx:(kv w4 (qj EP k)).ownBlock with
    | none=>exact .inl rfl
    | some g=>rw [h0]; exact .inr (by simp)
   ·exact .inr (Ne.symm h0)
  ·rw [(Fb k hk).2,(Fb k' hk').2]
   exact h4.sep k k' hk hk' hne
 ·rintro k (hk | rfl | hk) j hj
  ·exact .inl (h.clo k hk j hj)
  ·exact .inr (.inr (h4.sub j hj))
  ·exact .inr (.inr (h4.clo k hk j hj))
 ·exact fun j hj=>.inl (h.sub j hj)
 ·have em:(js.map fun j=>En (qj EP j))=js.map fun j=>En (qj Ws j):=List.map_congr_left fun j hj=>by
   have hs:=h.sub j hj
   rw [zV (show EP[j]?=Ws[j]? by rw [e2 j (fun hu=>hSU j hu hs),e1 j (fun e=>hSc (e ▸ hs))])]
  rw [em]
  exact rU h.out (fun g hg=>hbs g (h.out.lt g hg).1 (by rw [← hB]; exact (h.out.lt g hg).2))
 ·have vo:∀ g,v.ownBlock=some g→g<B:=fun g hg=>by rw [← hB]; exact (h.out.lt g hg).2
  rintro k (hk | rfl | hk)
  ·rw [(YC k hk).2]; exact h.abD k hk
  ·rw [ac,kc]; exact far _ _ B vo (fun g hg=>by have:=abH g hg; omega)
  ·exact far _ _ B vo (fun g hg=>by have:=aey k hk g hg; omega)
theorem TS.back {base base':Nat} {w0 w1 w:World} {ns:List aX} {ord:Int→List Nat} {bw:Nat} {Ws0 Ws:List Value} {S:Nat→Prop} {v:Value} {js:List Nat} (h:TS tb te base w1 w ns ord bw Ws0 Ws S v js) (hb:base'≤base) (hg:w0.grownBy w1 (some bw)):TS tb te base' w0 w ns ord bw Ws0 Ws S v js:=
 ⟨uH hg h.grow,h.wh,h.abC,h.aex,fun k hk=>((h.nds k hk).step hb rfl (fun _ _=>rfl) rfl (fun _ _=>rfl)).1,h.sep,h.clo,h.sub,own_base h.out hb,h.abD⟩
end Go.Proofs.YteablcielclaeaaGreatDoor
namespace Go.Proofs.YteablcielclaeaaGreatDoor
open Go.ChangeShapes Go.WideShapes Go.ChangeAt Go.RowKit
set_option linter.unusedVariables false
theorem PV {ops:Array Oper} {rest:List Oper} {o:Oper} {a:Act} {Q:Exit→Act→World→Prop} (t e:TypeId) (z:Value) (k b:Nat)
  (hI:(Tryz.prog.info? e).map (fun i=>(i.zero,i.size,i.bytes))=some (some z,k,b)) (ht:Tryz.prog.underlying t=some (.slice e)) (hzs:z.cells.size=k) (hk:0<k) (hgd:o.guard=none) (s x:Operand)
  (ho:o.op=.call { callee:=.builtin .append,args:=#[s,x],argTypes:=#[t,t] }) (base:Nat) (v:Value) (n:Nat) (xs news:List Value) (W:World) (hown:W.ownsRow base e k v n xs) (hb:base≤W.heap.size)
  (hl:news.length=k) (h1:∀ u∈news,u.oneCell'=true) (hn:n+1≤100000000) (hbb:(n+1) * b≤140737488355328) (hs:a.eval s=v) (hx:a.eval x=.slice (some ⟨W.heap.size,0,none⟩) 1 1)
  (h:∀ g cap w',w'.ownsRow base e k (.slice (some ⟨g,0,none⟩) (n+1) cap) (n+1) (xs++news)→(v.ownBlock=some g∨W.heap.size≤g)→(W.alloc (.cells news.toArray e)).grownBy w' v.ownBlock →
   wpList Tryz.prog ops Q rest (a.put o.dst (.slice (some ⟨g,0,none⟩) (n+1) cap)) w'):wpList Tryz.prog ops Q (o :: rest) a (W.alloc (.cells news.toArray e)):=by
 obtain ⟨i,hi,hz,hsz,hby⟩:∃ i,Tryz.prog.info? e=some i∧i.zero=some z∧i.size=k∧i.bytes=b:=by
  cases hh:Tryz.prog.info? e with
  | none=>rw [hh] at hI; cases hI
  | some i =>
   rw [hh] at hI
   simp only [Option.map_some,Option.some.injEq,Prod.mk.injEq] at hI
   exact ⟨i,rfl,hI.1,hI.2.1,hI.2.2⟩
 refine wpList_append_lies _ hgd s x t ho base e i z k b ht hi hz hsz hby hzs hk v n xs hs (hown.alloc _) ⟨W.heap.size,0,none⟩ 1 1 news hx (by rw [hl,Nat.one_mul]) (zx W news e) h1 (by decide) (by unfold maxLen; omega) hbb (by simp; omega) _ rfl ?_
 intro g cap w' hown' hg hat hlt
 refine h g cap w' hown' ?_ hg
 rcases hat with hat | hat
 ·exact .inl hat
 ·exact .inr (by rw [hat]; simp)
end Go.Proofs.YteablcielclaeaaGreatDoor
namespace Go.Proofs.YteablcielclaeaaGreatDoor
open Go.ChangeShapes Go.WideShapes Go.ChangeAt Go.RowKit
set_option linter.unusedVariables false
set_option maxRecDepth 100000
set_option maxHeartbeats 8000000
variable {R:au} {vp vs ve x0 x1 x2 x3:Value}
end Go.Proofs.YteablcielclaeaaGreatDoor
namespace Go.Proofs.YteablcielclaeaaGreatDoor
open Go.ChangeShapes Go.WideShapes Go.ChangeAt Go.RowKit
set_option linter.unusedVariables false
def cnt (ks:List lS):Nat:=(jJ [] ks).length
theorem abI (ks:List lS) (pre:List aA):(jJ pre ks).length=cnt ks:=by
 have h1:=uY ks pre (-1) []
 have h2:=uY ks [] (-1) []
 unfold cnt; omega
theorem abJ (a b:List lS):cnt (a++b)=cnt a+cnt b:=by unfold cnt; rw [Gu,List.length_append]
theorem Rx (m:aA) (c:ByteArray) (kk:List lS):cnt [.mk m c kk]=cnt kk+1:=by
 unfold cnt
 rw [jJ,jJ,List.append_nil,Yi,List.length_cons,abI]; rfl
end Go.Proofs.YteablcielclaeaaGreatDoor
namespace Go.Proofs.YteablcielclaeaaGreatDoor
open Go.ChangeShapes Go.WideShapes Go.ChangeAt Go.RowKit
set_option linter.unusedVariables false
set_option maxRecDepth 100000
set_option maxHeartbeats 8000000
variable {R:au} {vp vs ve x0 x1 x2 x3:Value} {s:ByteArray}
end Go.Proofs.YteablcielclaeaaGreatDoor
namespace Go.Proofs.YteablcielclaeaaGreatDoor
open Go.ChangeShapes Go.WideShapes Go.ChangeAt Go.RowKit
set_option linter.unusedVariables false
set_option maxRecDepth 100000
set_option maxHeartbeats 8000000
end Go.Proofs.YteablcielclaeaaGreatDoor
namespace Go.Proofs.YteablcielclaeaaGreatDoor
open Go.ChangeShapes Go.WideShapes Go.ChangeAt Go.RowKit
set_option linter.unusedVariables false
end Go.Proofs.YteablcielclaeaaGreatDoor
namespace Go.Proofs.YteablcielclaeaaGreatDoor
open Go.ChangeShapes Go.WideShapes Go.ChangeAt Go.RowKit
set_option linter.unusedVariables false
set_option maxRecDepth 100000
set_option maxHeartbeats 8000000
variable {R:au} {vp vs ve:Value}
theorem MW (w:World):Calls Tryz.prog 56 #[] w fun e w'=>e=.returned (.agg #[.string ⟨#[42]⟩,.string ⟨#[49,45,48]⟩,.string ⟨#[48,45,49]⟩,.string ⟨#[49,47,50]⟩])∧Below w.heap.size w w':=by
 go_enter Tryz.func56,Tryz.ntmps56
 go_wp2_with fail
 have hbx:=Box.new w resV 166
 have q0:=hbx.cell 0 rfl
 have q1:=hbx.cell 1 rfl
 have q2:=hbx.cell 2 rfl
 have q3:=hbx.cell 3 rfl
 refine bodyPost_ret (dD rfl (by rfl) hbx Tryz.underlying166 (by rfl) (by kernel_rfl)) rfl ⟨rfl,(Below.refl _ _).alloc (Nat.le_refl _) _⟩
end Go.Proofs.YteablcielclaeaaGreatDoor
namespace Go.Proofs.YteablcielclaeaaGreatDoor
open Go.ChangeShapes Go.WideShapes Go.ChangeAt Go.RowKit
set_option linter.unusedVariables false
mutual
def szB (N:Nat):lS→Prop
 | .mk _ c ks=>c.size≤N∧JV N ks
def JV (N:Nat):List lS→Prop
 | []=>True
 | b :: l=>szB N b∧JV N l
end
end Go.Proofs.YteablcielclaeaaGreatDoor
namespace Go.Proofs.YteablcielclaeaaGreatDoor
open Go.ChangeShapes Go.WideShapes Go.ChangeAt Go.RowKit
set_option linter.unusedVariables false
open Go.Lib (hid)
theorem Jp (v:Value) (xs:List sO) (p:sO→Bool) (f:FuncId) (caps:Array Value) (w:World) (h:iQ wF w v xs) (hf:∀ (args:Array Value) (w:World),(callFunc f args).run Tryz.prog w=.ok (.enter f args) w)
  (hc:∀ (W:World) (x:sO) (cs:List Value),x∈xs→wF.E W x cs→Below w.heap.size w W→Calls Tryz.prog f (#[.agg cs.toArray]++caps) W fun e w'=>e=.returned (.bool (p x))∧Below W.heap.size W w') :
  Calls Tryz.prog 184 #[v,.func (.func f) #[] caps] w fun e w'=>e=.returned (.int .i64 (gJ p xs 0))∧Below w.heap.size w w':=by
 obtain ⟨a,c,rfl,h1,h2⟩:=h.form
 unfold maxLen at h2
 have HR:=hid h
 have HC:=hid hc
 clear h hc
 go_enter Tryz.func184,Tryz.ntmps184
 go_wp2_with fail
 go_loopw [8,5] (fun i v5 wr=>∃ (k:Nat) (o5:Value),o5=v5∧k≤xs.length∧i=.int .i64 k∧Hid (gJ p xs 0=gJ p (xs.drop k) k)∧Below w.heap.size w wr) (fun i _ _=>xs.length - (intOf i).toNat)
 case atStart=>exact ⟨0,_,rfl,Nat.zero_le _,rfl,hid rfl,Below.refl _ _⟩
 case round =>
  obtain ⟨k,o5,rfl,hk,rfl,HK,hbl⟩:=hrel
  by_cases hlt:k<xs.length
  ·obtain ⟨g,o,rfl,hg,hcc⟩:=(HR.out.below hbl (Nat.le_refl _)).some (by omega)
   obtain ⟨cs,hE,hcell⟩:=hcc k hlt
   have hcl:=wF.len hE
   simp only [wF] at hcl
   obtain ⟨c0,c1,rfl⟩:∃ c0 c1,cs=[c0,c1]:=by
    match cs,hcl with
    | [c0,c1],_=>exact ⟨_,_,rfl⟩
   have q0:=hcell 0 (by decide)
   have q1:=hcell 1 (by decide)
   simp only [wF,List.getElem?_cons_zero,List.getElem?_cons_succ,Nat.add_zero] at q0 q1
   have HS:=hid (qw p xs k hlt)
   have FD:=hid (HC.out wr xs[k] [c0,c1] (List.getElem_mem hlt) hE hbl)
   have HB:=hid hbl
   clear hcell hcc hE hcl hbl
   generalize xs[k]=x at *
   go_wp2_with fail
   refine FD.out.mono ?_
   rintro e w1 ⟨rfl,hb1⟩
   have HB1:=hid (aj HB.out hb1 HB.out.size)
   clear hb1
   cases hpx:p x
   ·go_wp2_with fail
    go_roundw
    case rel=>exact ⟨k+1,_,rfl,by omega,by go_num,hid (by rw [HK.out,HS.out,if_neg (by simp [hpx])]),HB1.out⟩
    case measure=>simp [intOf]; omega
   ·go_wp2_with fail
    go_ret
    exact ⟨by rw [HK.out,HS.out,if_pos hpx]; rfl,HB1.out⟩
  ·obtain rfl:k=xs.length:=by omega
   go_wp2_with fail
   go_ret
   exact ⟨by rw [HK.out]; simp [gJ],hbl⟩
theorem Bc (v:Value) (xs:List sO) (p:sO→Bool) (f:FuncId) (caps:Array Value) (w:World) (h:iQ wF w v xs) (hf:∀ (args:Array Value) (w:World),(callFunc f args).run Tryz.prog w=.ok (.enter f args) w)
  (hc:∀ (W:World) (x:sO) (cs:List Value),x∈xs→wF.E W x cs→Below w.heap.size w W→Calls Tryz.prog f (#[.agg cs.toArray]++caps) W fun e w'=>e=.returned (.bool (p x))∧Below W.heap.size W w') :
  Calls Tryz.prog 145 #[v,.func (.func f) #[] caps] w fun e w'=>e=.returned (.bool (xs.any p))∧Below w.heap.size w w':=by
 have HI:=hid (Jp v xs p f caps w h hf hc)
 have HA:=hid (qp p xs 0 (by omega))
 clear h hc hf
 go_enter Tryz.func145,Tryz.ntmps145
 go_wp2_with fail
 refine HI.out.mono ?_
 rintro e w' ⟨rfl,hb⟩
 go_wp2_with fail
 go_ret
 exact ⟨by rw [← HA.out]; rfl,hb⟩
theorem Jq (v:Value) (xs:List aX) (p:aX→Bool) (f:FuncId) (caps:Array Value) (w:World) (h:iQ oG w v xs) (hf:∀ (args:Array Value) (w:World),(callFunc f args).run Tryz.prog w=.ok (.enter f args) w)
  (hc:∀ (W:World) (x:aX) (cs:List Value),x∈xs→oG.E W x cs→Below w.heap.size w W→Calls Tryz.prog f (#[.agg cs.toArray]++caps) W fun e w'=>e=.returned (.bool (p x))∧Below W.heap.size W w') :
  Calls Tryz.prog 185 #[v,.func (.func f) #[] caps] w fun e w'=>e=.returned (.int .i64 (gJ p xs 0))∧Below w.heap.size w w':=by
 obtain ⟨a,c,rfl,h1,h2⟩:=h.form
 unfold maxLen at h2
 have HR:=hid h
 have HC:=hid hc
 clear h hc
 go_enter Tryz.func185,Tryz.ntmps185
 go_wp2_with fail
 go_loopw [8,5] (fun i v5 wr=>∃ (k:Nat) (o5:Value),o5=v5∧k≤xs.length∧i=.int .i64 k∧Hid (gJ p xs 0=gJ p (xs.drop k) k)∧Below w.heap.size w wr) (fun i _ _=>xs.length - (intOf i).toNat)
 case atStart=>exact ⟨0,_,rfl,Nat.zero_le _,rfl,hid rfl,Below.refl _ _⟩
 case round =>
  obtain ⟨k,o5,rfl,hk,rfl,HK,hbl⟩:=hrel
  by_cases hlt:k<xs.length
  ·obtain ⟨g,o,rfl,hg,hcc⟩:=(HR.out.below hbl (Nat.le_refl _)).some (by omega)
   obtain ⟨cs,hE,hcell⟩:=hcc k hlt
   have hcl:=oG.len hE
   simp only [oG] at hcl
   obtain ⟨c0,c1,c2,c3,c4,rfl⟩:∃ c0 c1 c2 c3 c4,cs=[c0,c1,c2,c3,c4]:=by
    match cs,hcl with
    | [c0,c1,c2,c3,c4],_=>exact ⟨_,_,_,_,_,rfl⟩
   have q0:=hcell 0 (by decide)
   have q1:=hcell 1 (by decide)
   have q2:=hcell 2 (by decide)
   have q3:=hcell 3 (by decide)
   have q4:=hcell 4 (by decide)
   simp only [oG,List.getElem?_cons_zero,List.getElem?_cons_succ,Nat.add_zero] at q0 q1 q2 q3 q4
   have HS:=hid (qw p xs k hlt)
   have FD:=hid (HC.out wr xs[k] [c0,c1,c2,c3,c4] (List.getElem_mem hlt) hE hbl)
   have HB:=hid hbl
   clear hcell hcc hE hcl hbl
   generalize xs[k]=x at *
   go_wp2_with fail
   refine FD.out.mono ?_
   rintro e w1 ⟨rfl,hb1⟩
   have HB1:=hid (aj HB.out hb1 HB.out.size)
   clear hb1
   cases hpx:p x
   ·go_wp2_with fail
    go_roundw
    case rel=>exact ⟨k+1,_,rfl,by omega,by go_num,hid (by rw [HK.out,HS.out,if_neg (by simp [hpx])]),HB1.out⟩
    case measure=>simp [intOf]; omega
   ·go_wp2_with fail
    go_ret
    exact ⟨by rw [HK.out,HS.out,if_pos hpx]; rfl,HB1.out⟩
  ·obtain rfl:k=xs.length:=by omega
   go_wp2_with fail
   go_ret
   exact ⟨by rw [HK.out]; simp [gJ],hbl⟩
theorem Bd (v:Value) (xs:List aX) (p:aX→Bool) (f:FuncId) (caps:Array Value) (w:World) (h:iQ oG w v xs) (hf:∀ (args:Array Value) (w:World),(callFunc f args).run Tryz.prog w=.ok (.enter f args) w)
  (hc:∀ (W:World) (x:aX) (cs:List Value),x∈xs→oG.E W x cs→Below w.heap.size w W→Calls Tryz.prog f (#[.agg cs.toArray]++caps) W fun e w'=>e=.returned (.bool (p x))∧Below W.heap.size W w') :
  Calls Tryz.prog 148 #[v,.func (.func f) #[] caps] w fun e w'=>e=.returned (.bool (xs.any p))∧Below w.heap.size w w':=by
 have HI:=hid (Jq v xs p f caps w h hf hc)
 have HA:=hid (qp p xs 0 (by omega))
 clear h hc hf
 go_enter Tryz.func148,Tryz.ntmps148
 go_wp2_with fail
 refine HI.out.mono ?_
 rintro e w' ⟨rfl,hb⟩
 go_wp2_with fail
 go_ret
 exact ⟨by rw [← HA.out]; rfl,hb⟩
theorem YD (x:sO) (cs:List Value) (k:ByteArray) (B:Nat) (w:World) (hE:wF.E w x cs) (h1:w.cell? ⟨B,0,none⟩=some (.string k)) (hB:B<w.heap.size) :
  Calls Tryz.prog 146 (#[.agg cs.toArray] ++ #[.pointer (some ⟨B,0,none⟩)]) w fun e w'=>e=.returned (.bool (x.key.toList == k.toList))∧Below w.heap.size w w':=by
 obtain ⟨rfl,-⟩:=hE
 obtain ⟨xk,xv⟩:=x
 show Calls Tryz.prog 146 #[.agg #[.string xk,.string xv],.pointer (some ⟨B,0,none⟩)] w _
 go_enter Tryz.func146,Tryz.ntmps146
 go_wp2
 go_ret
 exact ⟨rfl,(Below.refl _ _).alloc (by go_size) _⟩
theorem YE (args:Array Value) (w:World):(callFunc 146 args).run Tryz.prog w=.ok (.enter 146 args) w:=by kernel_rfl
theorem UK (x:aX) (cs:List Value) (p:Int) (B:Nat) (w:World) (hE:oG.E w x cs) (h1:w.cell? ⟨B,0,none⟩=some (.int .i64 p)) (hB:B<w.heap.size) :
  Calls Tryz.prog 149 (#[.agg cs.toArray] ++ #[.pointer (some ⟨B,0,none⟩)]) w fun e w'=>e=.returned (.bool (x.parent == p))∧Below w.heap.size w w':=by
 obtain ⟨rfl,-⟩:=hE
 obtain ⟨xp,⟨m1,m2,m3⟩,xc⟩:=x
 show Calls Tryz.prog 149 #[.agg #[.int .i64 xp,.int .i64 m1,.int .i64 m2,.int .i64 m3,.string xc],.pointer (some ⟨B,0,none⟩)] w _
 go_enter Tryz.func149,Tryz.ntmps149
 go_wp2
 go_ret
 exact ⟨rfl,(Below.refl _ _).alloc (by go_size) _⟩
theorem UL (args:Array Value) (w:World):(callFunc 149 args).run Tryz.prog w=.ok (.enter 149 args) w:=by kernel_rfl
set_option maxRecDepth 100000 in
set_option maxHeartbeats 4000000 in
theorem YF (X:iM) (vt vn:Value) (w:World) (h:Vx w X vt vn) (hl:X.tags.length≤10) :
  Calls Tryz.prog 99 #[vP X vt vn] w fun e w'=>e=.returned (.int .i64 (iO X.tags))∧Below w.heap.size w w':=by
 obtain ⟨ta,tc,rfl,h1,h2⟩:=h.1.form
 unfold maxLen at h2
 have HR:=hid h.1
 clear h
 unfold vP
 have sN:Hid (iO X.tags=kD (D9 X.tags) 0 (X.tags.length - 0)):=hid rfl
 go_enter Tryz.func99,Tryz.ntmps99
 go_upto_region 1 with (fail)
 obtain ⟨bb,hbb⟩:∃ bb,bb=w.heap.size:=⟨_,rfl⟩
 have hb0:=(Box.new' w bb [.slice ta X.tags.length tc,.string X.comment,vn,.int .i64 X.result] 79 hbb.symm)
 have HB:Hid (Below bb w (w.alloc (.cells #[.slice ta X.tags.length tc,.string X.comment,vn,.int .i64 X.result] 79))):=hid (by rw [hbb]; exact (Below.refl w.heap.size w).alloc (Nat.le_refl _) _)
 rw [← hbb]
 have zU:w.heap.size≤bb:=by omega
 clear hbb
 generalize (w.alloc (.cells #[.slice ta X.tags.length tc,.string X.comment,vn,.int .i64 X.result] 79))=w0 at *
 have HX:=hid hb0
 have q0:=hb0.cell 0 rfl
 have hw0:=hb0.lt
 clear hb0
 go_wp2_with fail
 go_loopw [8,3,4,13,18,23,28] (fun v8 v3 v4 v13 v18 v23 v28 wr=>∃ (k:Nat) (o3 o4 o13 o18 o23 o28:Value),o3=v3∧o4=v4∧o13=v13∧o18=v18∧o23=v23∧o28=v28∧k≤X.tags.length∧v8=.int .i64 k∧Hid (iO X.tags=kD (D9 X.tags) k (X.tags.length - k))∧Hid (Below bb w wr)∧Hid (Box wr bb [.slice ta X.tags.length tc,.string X.comment,vn,.int .i64 X.result] 79)) (fun v _ _ _ _ _ _ _=>X.tags.length - (intOf v).toNat)
 case atStart=>exact ⟨0,_,_,_,_,_,_,rfl,rfl,rfl,rfl,rfl,rfl,Nat.zero_le _,rfl,sN,HB,HX⟩
 case round =>
  obtain ⟨k,o3,o4,o13,o18,o23,o28,rfl,rfl,rfl,rfl,rfl,rfl,hk,rfl,HK,bD,BJ⟩:=hrel
  have hsr:=BJ.out.lt
  by_cases hlt:k<X.tags.length
  ·obtain ⟨g,o,rfl,hg,hc⟩:=Gq HR.out (by omega)
   obtain ⟨e0,e1,hs0,hs1⟩:=hc k hlt
   have hgb:g<bb:=by omega
   have c0:=(bD.out.cell (p:=⟨g,o+k * 2,none⟩) hgb).trans e0
   have c1:=(bD.out.cell (p:=⟨g,o+k * 2+1,none⟩) hgb).trans e1
   have sJ:=hid (wJ (D9 X.tags) k X.tags.length hlt)
   have HT:Hid (D9 X.tags k=if kM (X.tags.getD k default).key=false then 6 else if 40<(X.tags.getD k default).value.size then 2 else if kT (X.tags.getD k default).value quote=false then 3 else
    if (X.tags.take k).any (fun u=>u.key.toList == (X.tags.getD k default).key.toList)=true then 7 else 0):=hid rfl
   clear hc e0 e1
   generalize (X.tags.getD k default).key=ky at *
   generalize (X.tags.getD k default).value=vl at *
   have hgr:g<wr.heap.size:=by omega
   have hkl:(k:Int)<(X.tags.length:Int):=by omega
   go_upto_region 4 with (fail)
   obtain ⟨pb,hpb⟩:∃ pb,pb=wr.heap.size:=⟨_,rfl⟩
   rw [← hpb]
   have HP:=hid (Box.new' wr pb [.string ky,.string vl] 150 hpb.symm)
   have kX:=hid (bD.out.alloc (by omega) (.cells #[.string ky,.string vl] 150))
   have HXp:=hid (BJ.out.alloc (.cells #[.string ky,.string vl] 150))
   clear bD BJ c0 c1 hpb
   generalize wr.alloc (.cells #[.string ky,.string vl] 150)=wp at *
   have p0:=HP.out.cell 0 rfl
   have p1:=HP.out.cell 1 rfl
   have q0:=HXp.out.cell 0 rfl
   have arO:=HP.out.lt
   have hbw:=HXp.out.lt
   have JZ:=hid (JX ky wp hs0)
   have NU:=hid (wC vl quote wp hs1)
   have ahO:bb≤wp.heap.size:=by omega
   unfold maxLen at hs0 hs1
   cases hn:kM ky
   ·have HF:Hid (iO X.tags=6):=hid (by rw [HK.out,sJ.out,HT.out,if_pos hn]; rfl)
    rw [hn] at JZ
    clear hn NU HT HK sJ
    go_wp2_with (go_at_call 139; refine JZ.out.mono ?_; rintro e w1 ⟨rfl,rfl⟩)
    go_ret
    exact ⟨by rw [HF.out]; rfl,kX.out.mono zU⟩
   ·rw [hn] at JZ
    have HT2:Hid (D9 X.tags k=if 40<vl.size then 2 else if kT vl quote=false then 3 else if (X.tags.take k).any (fun u=>u.key.toList == ky.toList)=true then 7 else 0):=hid (by rw [HT.out,if_neg (by rw [hn]; decide)])
    clear hn HT
    by_cases h40:(40:Int)<(vl.size:Int)
    ·have HF:Hid (iO X.tags=2):=hid (by rw [HK.out,sJ.out,HT2.out,if_pos (show 40<vl.size by omega)]; rfl)
     clear NU HT2 HK sJ
     go_wp2_with (go_at_call 139; refine JZ.out.mono ?_; rintro e w1 ⟨rfl,rfl⟩)
     go_ret
     exact ⟨by rw [HF.out]; rfl,kX.out.mono zU⟩
    ·have HT3:Hid (D9 X.tags k=if kT vl quote=false then 3 else if (X.tags.take k).any (fun u=>u.key.toList == ky.toList)=true then 7 else 0):=hid (by rw [HT2.out,if_neg (show ¬ 40<vl.size by omega)])
     clear HT2
     unfold quote at NU HT3
     cases hp:kT vl ⟨#[34]⟩
     ·have HF:Hid (iO X.tags=3):=hid (by rw [HK.out,sJ.out,HT3.out,if_pos hp]; rfl)
      rw [hp] at NU
      clear hp HT3 HK sJ
      go_wp2_with (first | (go_at_call 139; refine JZ.out.mono ?_; rintro e w1 ⟨rfl,rfl⟩) | (go_at_call 144; refine NU.out.mono ?_; rintro e w1 ⟨rfl,rfl⟩))
      go_ret
      exact ⟨by rw [HF.out]; rfl,kX.out.mono zU⟩
     ·rw [hp] at NU
      have HT4:Hid (D9 X.tags k=if (X.tags.take k).any (fun u=>u.key.toList == ky.toList)=true then 7 else 0):=hid (by rw [HT3.out,if_neg (by rw [hp]; decide)])
      have hsl:=fun w=>nX (P:=Tryz.prog) (s:=2) Tryz.underlying77 (fun _=>by kernel_rfl) (some ⟨g,o,none⟩) X.tags.length tc k (by omega) w
      have YG:=hid (Bc _ (X.tags.take k) (fun u=>u.key.toList == ky.toList) 146 #[.pointer (some ⟨pb,0,none⟩)] wp ((iQ.take HR.out k (by omega)).below kX.out zU) YE (fun W x cs _ hE hb=>YD x cs ky pb W hE ((HP.out.stays hb).cell 0 rfl) (HP.out.stays hb).lt))
      clear hp HT3
      generalize (X.tags.take k).any (fun u=>u.key.toList == ky.toList)=tw at *
      cases tw
      ·go_wp2_with (first | (go_at_call 139; refine JZ.out.mono ?_; rintro e w1 ⟨rfl,rfl⟩) | (go_at_call 144; refine NU.out.mono ?_; rintro e w1 ⟨rfl,rfl⟩))
       refine YG.out.mono ?_
       rintro e w5 ⟨rfl,hb5⟩
       have wO:=hid (kX.out.trans (hb5.mono ahO))
       have OZ:=hid (HXp.out.stays hb5)
       have HK5:Hid (iO X.tags=kD (D9 X.tags) (k+1) (X.tags.length - (k+1))):=hid (by rw [HK.out,sJ.out,HT4.out]; rfl)
       clear hb5 HK sJ HT4 hsl
       go_wp2_with fail
       go_roundw
       case rel=>exact ⟨k+1,_,_,_,_,_,_,rfl,rfl,rfl,rfl,rfl,rfl,by omega,by go_num,HK5,wO,OZ⟩
       case measure=>simp [intOf]; omega
      ·go_wp2_with (first | (go_at_call 139; refine JZ.out.mono ?_; rintro e w1 ⟨rfl,rfl⟩) | (go_at_call 144; refine NU.out.mono ?_; rintro e w1 ⟨rfl,rfl⟩))
       refine YG.out.mono ?_
       rintro e w5 ⟨rfl,hb5⟩
       have wO:=hid (kX.out.trans (hb5.mono ahO))
       have HF:Hid (iO X.tags=7):=hid (by rw [HK.out,sJ.out,HT4.out]; rfl)
       clear hb5 HK sJ HT4 hsl
       go_wp2_with fail
       go_ret
       exact ⟨by rw [HF.out]; rfl,wO.out.mono zU⟩
  ·obtain rfl:k=X.tags.length:=by omega
   have HF:Hid (iO X.tags=0):=hid (by rw [HK.out,Nat.sub_self]; rfl)
   go_wp2_with fail
   go_ret
   exact ⟨by rw [HF.out]; rfl,bD.out.mono zU⟩
end Go.Proofs.YteablcielclaeaaGreatDoor
namespace Go.Proofs.YteablcielclaeaaGreatDoor.gy
open Go.ChangeShapes Go.WideShapes Go.ChangeAt Go.RowKit
set_option linter.unusedVariables false
open Go.Proofs.YteablcielclaeaaGreatDoor
open Go.Lib (hid)
def none':Nat→Prop:=fun _=>False
theorem YH {S:Nat→Prop} {w:World} {D:World→Prop} (h:Held S w D):gx.Held none' S w D:=fun w' hw=>h w' (hw.mono (fun k _ hk=>hk.elim id False.elim))
theorem YI {S:Nat→Prop} {w:World} {D:World→Prop} (h:gx.Held none' S w D):Held S w D:=h.plain
theorem al1 {S:Nat→Prop} {base:Nat} {w:World} {b:Nat} {R:au} {ms:List aA} {vp vs ve vl vm:Value} {rows:List lM} (h:bM S base w b R ms vp vs ve vl vm rows):gx.bM none' S base w b R ms vp vs ve vl vm rows:=
 ⟨h.box,h.sb,h.lo,YH h.rd,h.ol,h.mp,fun r hr=>YH (h.rw r hr),h.om,h.sl,h.sm,h.ap,h.lt,h.la,h.re⟩
theorem ahP {S:Nat→Prop} {base:Nat} {w:World} {b:Nat} {R:au} {ms:List aA} {vp vs ve vl vm:Value} {rows:List lM} (h:gx.bM none' S base w b R ms vp vs ve vl vm rows):bM S base w b R ms vp vs ve vl vm rows:=
 ⟨h.box,h.sb,h.lo,YI h.rd,h.ol,h.mp,fun r hr=>YI (h.rw r hr),h.om,h.sl,h.sm,h.ap,h.lt,h.la,h.re⟩
theorem BF (R:au) (vp vs ve:Value) (w:World) (hr:qo w R vp vs ve) (hnm:R.name.size≤maxLen) :
  Calls Tryz.prog 40 #[(.agg #[.string R.name,.int .i64 R.width,.int .i64 R.height,vp,vs,.bool R.falls,.bool R.keeps,ve,.int .i64 R.blocked,.int .i64 R.quiet,.int .i64 R.aZ])] w (IE R w):=
 (gx.BF R vp vs ve w hr hnm).mono fun e w' h=>by
  rcases h with h | ⟨h0,S,b,vp,vs,ve,vl,vm,rows,he,hg,hb⟩
  ·exact .inl h
  ·exact .inr ⟨h0,S,b,vp,vs,ve,vl,vm,rows,he,ahP (hg none' (fun k hk=>hk.elim)),hb⟩
theorem yG (HS:SortMvSaid) (m:aA) {S:Nat→Prop} {base b:Nat} {R:au} {ms:List aA} {vp vs ve vl vm:Value} {rows:List lM} (w:World) (h:bM S base w b R ms vp vs ve vl vm rows) (hb:base≤w.heap.size):Calls Tryz.prog 170 #[.pointer (some ⟨b,0,none⟩),.agg #[.int .i64 m.src,.int .i64 m.dst,.int .i64 m.piece]] w (Dk S base b R ms m vp vs ve w):=
 (gx.yG HS m w (al1 h) hb (fun k hk=>hk.elim)).mono fun e w' h=>by
  rcases h with h | ⟨h0,he,S',W9,Vl,rows',hg,h1,h2⟩
  ·exact .inl h
  ·exact .inr ⟨h0,he,S',W9,Vl,rows',ahP hg,h1,h2⟩
set_option maxRecDepth 100000 in
set_option maxHeartbeats 4000000 in
theorem YJ (HS:SortMvSaid) (R:au) (vp vs ve:Value) (v:Value) (l:List aA) (w:World) (hr:qo w R vp vs ve) (hnm:R.name.size≤maxLen) (hl:iQ jM w v l) :
  Calls Tryz.prog 150 #[(.agg #[.string R.name,.int .i64 R.width,.int .i64 R.height,vp,vs,.bool R.falls,.bool R.keeps,ve,.int .i64 R.blocked,.int .i64 R.quiet,.int .i64 R.aZ]),v] w (Xa R l w):=by
 have pq:=hid HS
 have HR:=hid hr
 have HN:=hid hnm
 have HL:=hid hl
 have HD:Hid (dA R l=if aF R≠0 then aF R else runFrom R [] l):=hid rfl
 obtain ⟨a,c,rfl,h1,h2⟩:=hl.form
 unfold maxLen at h2
 clear hr hnm hl HS
 go_enter Tryz.func150,Tryz.ntmps150
 go_upto_region 1 with (fail)
 refine vJ fun w0 B0 B1 fG hs_=>?_
 have HB:=hid fG
 have hz0:w.heap.size+1<w0.heap.size:=by omega
 clear hs_ fG
 have zh:=hid (HR.out.below HB.out (Nat.le_refl _))
 have HX0:=hid B0
 have nR:=hid B1
 clear B0 B1
 refine wp_region_lit ?_
 refine aB (by rfl) 61 (.tmp 2) (by rfl) w.heap.size (by rfl) HX0.out Tryz.underlying61 (by rfl) (by kernel_rfl) ?_
 go_wp2_with fail
 refine (BF R vp vs ve w0 zh.out HN.out).mono ?_
 rintro e w1 (⟨hbad,rfl,hb1⟩ | ⟨hre,S,b,up,us,ue,vl,vm,rows,rfl,hg1,hb1⟩)
 ·have HE:Hid (dA R l=aF R):=hid (by rw [HD.out,if_pos hbad])
  have Ik:=hid hbad
  have he':(aF R != 0)=true:=by simpa using hbad
  have HB1:=hid (aj HB.out hb1 HB.out.size)
  have gB:=hid (nR.out.stays hb1)
  clear hbad hb1
  go_wp2_with (refine aK (vs:=[.slice none 0 0,.slice none 0 0,.slice none 0 0,.int .i64 0,.int .i64 0]) (by rfl) 158 (.tmp 4) (.tmp 19) (by rfl) (w.heap.size+1) (by rfl) (by rfl) gB.out rfl (by kernel_rfl) (by rfl) ?_)
  exact bodyPost_ret (uh rfl (by rfl) (by rfl) (by rfl) (gB.out.store rfl) Tryz.underlying158 (by rfl) (by kernel_rfl)) rfl (.inl ⟨by rw [HE.out]; exact Ik.out,by rw [HE.out]; rfl,below_setCells HB1.out (by omega) 0 _⟩)
 have HD1:Hid (dA R l=runFrom R [] l):=hid (by rw [HD.out,if_neg (by simp [hre])])
 have QN:=hid hre
 have HG1:=hid hg1
 have HB1:=hid hb1
 clear hg1 hb1 hre HD
 go_wp2_with fail
 go_loopw [23,10,11] (fun vi Vl ve' wr=>∃ (k:Nat) (S:Nat→Prop) (vl vm:Value) (rows:List lM),k≤l.length∧vi=.int .i64 k∧Hid (dA R l=runFrom R (l.take k) (l.drop k))∧Hid (bM S w0.heap.size wr b R (l.take k) up us ue vl vm rows)∧Hid (Below w0.heap.size w0 wr)) (fun i _ _ _=>l.length - (intOf i).toNat)
 case atStart=>exact ⟨0,S,vl,vm,rows,Nat.zero_le _,rfl,HD1,HG1,HB1⟩
 case round =>
  obtain ⟨k,S,vl,vm,rows,hk,rfl,HDk,HG,bD⟩:=hrel
  have hsz:=bD.out.size
  have hwz:=HB.out.size
  have HY1:=hid (nR.out.stays bD.out)
  have Oa:=hid (aj HB.out bD.out HB.out.size)
  by_cases hlt:k<l.length
  ·obtain ⟨g,o,ha,hg,hcc⟩:=wK (HL.out.below Oa.out (Nat.le_refl _)) (by omega)
   subst ha
   obtain ⟨c0,c1,c2⟩:=hcc k hlt
   have HST:=hid (IG R l k hlt)
   have QB:Hid (l.take (k+1)=l.take k++[l.getD k default]):=hid (by rw [List.take_succ_eq_append_getElem hlt,List.getD_eq_getElem?_getD,List.getElem?_eq_getElem hlt]; rfl)
   clear hcc
   generalize l.getD k default=m at *
   go_upto_region 7 with (fail)
   have dW:=hid (Box.new wr [.int .i64 m.src,.int .i64 m.dst,.int .i64 m.piece] 68)
   have N8:=hid (HG.out.below ((Below.refl _ wr).alloc (Nat.le_refl _) (.cells #[.int .i64 m.src,.int .i64 m.dst,.int .i64 m.piece] 68)))
   have gG:=hid (bD.out.alloc hsz (.cells #[.int .i64 m.src,.int .i64 m.dst,.int .i64 m.piece] 68))
   have HZ1:=hid (HY1.out.alloc (.cells #[.int .i64 m.src,.int .i64 m.dst,.int .i64 m.piece] 68))
   have hzm:wr.heap.size<(wr.alloc (.cells #[.int .i64 m.src,.int .i64 m.dst,.int .i64 m.piece] 68)).heap.size:=by simp
   clear c0 c1 c2
   generalize (wr.alloc (.cells #[.int .i64 m.src,.int .i64 m.dst,.int .i64 m.piece] 68))=wn at *
   have d0:=dW.out.cell 0 rfl
   have d1:=dW.out.cell 1 rfl
   have d2:=dW.out.cell 2 rfl
   go_wp2_with fail
   refine (yG pq.out m wn N8.out gG.out.size).mono ?_
   rintro e w2 (⟨hbad,rfl,hb2⟩ | ⟨hok,rfl,S',W9,Vl,rows',hg2,hsh,hf2⟩)
   ·have HE:Hid (dA R l=dG R (l.take k) m):=hid (by rw [HDk.out,HST.out,if_pos hbad])
    have Ik:=hid hbad
    have he':(dG R (l.take k) m != 0)=true:=by simpa using hbad
    have HB2:=hid (aj HB.out (gG.out.trans (hb2.mono gG.out.size)) HB.out.size)
    have HZ2:=hid (HZ1.out.stays hb2)
    clear hbad hb2
    go_wp2_with (refine aK (vs:=[.slice none 0 0,.slice none 0 0,.slice none 0 0,.int .i64 0,.int .i64 0]) (by rfl) 158 (.tmp 4) (.tmp 32) (by rfl) (w.heap.size+1) (by rfl) (by rfl) HZ2.out rfl (by kernel_rfl) (by rfl) ?_)
    exact bodyPost_ret (uh rfl (by rfl) (by rfl) (by rfl) (HZ2.out.store rfl) Tryz.underlying158 (by rfl) (by kernel_rfl)) rfl (.inl ⟨by rw [HE.out]; exact Ik.out,by rw [HE.out]; rfl,below_setCells HB2.out (by omega) 0 _⟩)
   ·have HE:Hid (dA R l=runFrom R (l.take (k+1)) (l.drop (k+1))):=hid (by rw [HDk.out,HST.out,if_neg (by simp [hok])])
    have HG2:Hid (bM S' w0.heap.size w2 b R (l.take (k+1)) up us ue W9 Vl rows'):=hid (by rw [QB.out]; exact hg2)
    have HB2:=hid (gG.out.trans (N8.out.frame hf2 gG.out.size))
    clear hok hg2 hsh hf2
    go_wp2_with fail
    go_roundw
    case rel=>exact ⟨k+1,S',W9,Vl,rows',by omega,by go_num,HE,HG2,HB2⟩
    case measure=>simp [intOf]; omega
  ·obtain rfl:k=l.length:=by omega
   have Ry:Hid (bM S w0.heap.size wr b R l up us ue vl vm rows):=hid (by have:=HG.out; rwa [List.take_of_length_le (Nat.le_refl _)] at this)
   have HE:Hid (dA R l=0):=hid (by rw [HDk.out,List.drop_of_length_le (Nat.le_refl _)]; rfl)
   have HLA:=hid Ry.out.la
   have HLT:=hid Ry.out.lt
   clear HG HDk
   go_upto_region 11 with (fail)
   go_wp2_with fail
   refine (l9 wr Ry.out).mono ?_
   rintro e w2 ⟨yc,y0,y1,rfl,ho2,hb2⟩
   obtain ⟨ya,yn,rfl⟩:=aH ho2.1
   obtain ⟨Lr,TJ,rfl⟩:=aH ho2.2.1
   obtain ⟨Ls,TK,rfl⟩:=aH ho2.2.2.1
   have HG2:=hid (Ry.out.below hb2)
   have HZ2:=hid (HY1.out.stays hb2)
   have HB2:=hid (aj Oa.out hb2 Oa.out.size)
   have ET:=hid ho2
   have hz1:=HY1.out.lt
   clear hb2 ho2
   go_wp2_with fail
   refine (pG pq.out w2 HG2.out).mono ?_
   rintro e w3 ⟨rfl,hb3⟩
   have HZ3:=hid (HZ2.out.stays hb3)
   have HB3:=hid (aj HB2.out hb3 HB2.out.size)
   have qX:Hid (mM wr.heap.size w3 (bJ R l) (.slice ya (bJ R l).cells.length yn) (.slice Lr (bJ R l).h0.length TJ) (.slice Ls (bJ R l).h1.length TK)):=hid ⟨aU ET.out.1 hb3,aU ET.out.2.1 hb3,aU ET.out.2.2.1 hb3,ET.out.2.2.2⟩
   clear hb3
   go_wp2_with (refine aK (vs:=[.slice ya (bJ R l).cells.length yn,.slice Lr (bJ R l).h0.length TJ,.slice Ls (bJ R l).h1.length TK,.int .i64 (bJ R l).turn,.int .i64 (bJ R l).quiet]) (by rfl) 158 (.tmp 4) (.tmp 36) (by rfl) (w.heap.size+1) (by rfl) (by rfl) HZ3.out rfl (by kernel_rfl) (by rfl) ?_)
   exact bodyPost_ret (uh rfl (by rfl) (by rfl) (by rfl) (HZ3.out.store rfl) Tryz.underlying158 (by rfl) (by kernel_rfl)) rfl (.inr ⟨HE.out,QN.out,HLA.out,HLT.out,_,_,_,rfl,(qX.out.setCells hz1 0 _).base (by have:=Oa.out.size; omega),below_setCells HB3.out (by omega) 0 _⟩)
end Go.Proofs.YteablcielclaeaaGreatDoor.gy

/- Rd, IntsB, RdL, Eng, EngChkA, Own, EngIdx, Sub. -/
import Derived.Below
import Derived.Laws.AppendOwn
import Derived.Laws.OwnMore
import Derived.OpenShut
import Derived.Test.YteablcielclaeaaGreatDoorRows
import Derived.WalkKit
import Derived.ProofKit
import Derived.LoopTactic
import Derived.Outline
import Derived.Lib.Hide
import Derived.Handy
import Derived.WalkSpells
import Derived.WalkSmall
import Derived.BigQuiet
import Derived.Deep.AppendLies
import Derived.Deep.QuietTactic
namespace Go.Proofs.YteablcielclaeaaGreatDoor
open Go.RowKit
def Rd (w:World) (sz n:Nat) (v:Value) (xs:List Value):Prop:=
 xs.length=n * sz∧(((∃ a c,v=.slice a 0 c∧c≤maxLen)∧n=0)∨∃ g o c,v=.slice (some ⟨g,o,none⟩) n c∧n≤c∧c≤maxLen∧∀ i,i<n * sz→w.cell? ⟨g,o+i,none⟩=xs[i]?)
theorem Rd.below {w w':World} {sz n:Nat} {v:Value} {xs:List Value} {B:Nat} (h:Rd w sz n v xs) (hb:Below B w w') (hB:w.heap.size≤B):Rd w' sz n v xs:=by
 refine ⟨h.1,?_⟩
 rcases h.2 with h0 | ⟨g,o,c,hv,h1,h2,hc⟩
 ·exact .inl h0
 ·refine .inr ⟨g,o,c,hv,h1,h2,fun i hi=>?_⟩
  have hx:=hc i hi
  rw [List.getElem?_eq_getElem (by rw [h.1]; exact hi)] at hx
  have hlt:=World.block_lt_of_cell? w _ hx
  rw [hb.cell (p:=⟨g,o+i,none⟩) (Nat.lt_of_lt_of_le hlt hB)]
  exact hc i hi
theorem Rd.grown {w w':World} {sz n:Nat} {v:Value} {xs:List Value} {row:Option Nat} (h:Rd w sz n v xs) (hg:w.grownBy w' row) (hne:v.ownBlock=none∨v.ownBlock≠row):Rd w' sz n v xs:=by
 refine ⟨h.1,?_⟩
 rcases h.2 with h0 | ⟨g,o,c,hv,h1,h2,hc⟩
 ·exact .inl h0
 ·refine .inr ⟨g,o,c,hv,h1,h2,fun i hi=>?_⟩
  have hx:=hc i hi
  have hlen:i<xs.length:=by rw [h.1]; exact hi
  rw [List.getElem?_eq_getElem hlen] at hx ⊢
  refine hg.cell hx ?_
  subst hv
  rcases hne with h | h
  ·cases h
  ·exact h
theorem Rd.dB {w:World} {base:Nat} {e:TypeId} {sz n:Nat} {v:Value} {xs:List Value} (h:w.ownsRow base e sz v n xs):Rd w sz n v xs:=by
 refine ⟨h.1,?_⟩
 rcases h.2 with ⟨h0,h1⟩ | ⟨g,cap,cur,rfl,_,hg,hn,hm,hs,ht⟩
 ·exact .inl ⟨⟨none,0,h0,by unfold maxLen; omega⟩,h1⟩
 ·refine .inr ⟨g,0,cap,rfl,hn,hm,fun i hi=>?_⟩
  have:=h.cellAt i hi
  rw [Nat.zero_add]
  exact this
theorem Rd.nil (w:World) (sz:Nat):Rd w sz 0 (.slice none 0 0) []:=⟨by simp,.inl ⟨⟨none,0,rfl,by unfold maxLen; omega⟩,rfl⟩⟩
end Go.Proofs.YteablcielclaeaaGreatDoor
namespace Go.Proofs.YteablcielclaeaaGreatDoor
open Go.ChangeShapes Go.WideShapes Go.ChangeAt Go.RowKit
set_option linter.unusedVariables false
theorem info3:(Tryz.prog.info? 3).map (fun i=>(i.zero,i.size,i.bytes))=some (some (.int .i64 0),1,8):=by kernel_rfl
def ints (l:List Int):List Value:=l.map (Value.int .i64)
theorem nR (l:List Int):(ints l).length=l.length:=by simp [ints]
theorem dI (l:List Int) (i:Nat) (h:i<l.length):(ints l)[i]?=some (.int .i64 (l.getD i 0)):=by
 simp [ints,List.getD,List.getElem?_eq_getElem h]
theorem wJ (l:List Int):∀ u∈ints l,u.oneCell'=true:=by
 intro u hu
 simp only [ints,List.mem_map] at hu
 obtain ⟨a,_,rfl⟩:=hu
 rfl
theorem F8 (n:Nat):(madeCells (Value.cells (.int .i64 0)) (n * 1)).toList=ints (List.replicate n 0):=by
 apply List.ext_getElem
 ·simp [madeCells,ints]
 ·intro i h1 h2
  simp [madeCells,ints,Value.cells,Nat.mod_one]
theorem ints_set (l:List Int) (i:Nat) (d:Int):(ints l).set i (.int .i64 d)=ints (l.set i d):=by
 unfold ints; rw [List.map_set]
def fQ (w:World) (v:Value) (zs:List Int):Prop:=Rd w 1 zs.length v (ints zs)
theorem fQ.below {w w':World} {v:Value} {zs:List Int} {B:Nat} (h:fQ w v zs) (hb:Below B w w') (hB:w.heap.size≤B):fQ w' v zs:=Rd.below h hb hB
theorem fQ.form {w:World} {v:Value} {zs:List Int} (h:fQ w v zs):∃ a c,v=.slice a zs.length c∧zs.length≤c∧c≤maxLen:=by
 rcases h.2 with ⟨⟨a,c,h,hm⟩,hz⟩ | ⟨g,o,c,h,h1,h2,_⟩
 ·exact ⟨a,c,by rw [h,hz],by omega,hm⟩
 ·exact ⟨_,_,h,h1,h2⟩
theorem fQ.some {w:World} {v:Value} {zs:List Int} (h:fQ w v zs) (hn:0<zs.length):∃ g o c,v=.slice (some ⟨g,o,none⟩) zs.length c∧zs.length≤c∧c≤maxLen∧g<w.heap.size∧∀ i,i<zs.length→w.cell? ⟨g,o+i,none⟩=some (.int .i64 (zs.getD i 0)):=by
 rcases h.2 with ⟨h,hz⟩ | ⟨g,o,c,h',h1,h2,hc⟩
 ·omega
 ·refine ⟨g,o,c,h',h1,h2,?_,fun i hi=>?_⟩
  ·have:=hc 0 (by omega)
   rw [dI zs 0 hn] at this
   exact World.block_lt_of_cell? w _ this
  ·rw [hc i (by omega),dI zs i hi]
theorem dY {w:World} {base:Nat} {e:TypeId} {size:Nat} {v:Value} {n:Nat} {xs:List Value} (h:w.ownsRow base e size v n xs) (hn:0<n):∃ g c,v=.slice (some ⟨g,0,none⟩) n c:=by
 rcases h.2 with ⟨_,h0⟩ | ⟨g,c,_,h,_⟩
 ·omega
 ·exact ⟨g,c,h⟩
theorem own_base {w:World} {b b':Nat} {e:TypeId} {sz n:Nat} {v:Value} {xs:List Value} (h:w.ownsRow b e sz v n xs) (hb:b'≤b):w.ownsRow b' e sz v n xs:=by
 refine ⟨h.1,?_⟩
 rcases h.2 with h0 | ⟨g,c,cur,hv,hg,r⟩
 ·exact .inl h0
 ·exact .inr ⟨g,c,cur,hv,by omega,r⟩
theorem aS {w w':World} {b:Nat} {e:TypeId} {sz n:Nat} {v:Value} {xs:List Value} (h:w.ownsRow b e sz v n xs) (hb:Below w.heap.size w w'):w'.ownsRow b e sz v n xs:=
 h.kept (row:=none) ⟨hb.os,hb.tape,hb.output,hb.size,fun k hk _=>hb.block k hk⟩ (by rcases h.2 with ⟨rfl,_⟩ | ⟨g,c,cur,rfl,_⟩ <;> simp [Value.ownBlock])
theorem fQ.dB {w:World} {b:Nat} {v:Value} {zs:List Int} (h:w.ownsRow b 3 1 v zs.length (ints zs)):fQ w v zs:=Rd.dB h
structure El (α:Type) where
 k:Nat
 E:World→α→List Value→Prop
 mono:∀ {w w':World} {B:Nat} {x:α} {cs:List Value},E w x cs→Below B w w'→w.heap.size≤B→E w' x cs
 len:∀ {w:World} {x:α} {cs:List Value},E w x cs→cs.length=k
def iC {α:Type} (el:El α) (w:World) (v:Value) (xs:List α):Prop:=
 (∃ a c,v=.slice a 0 c∧c≤maxLen∧xs.length=0)∨∃ g o c,v=.slice (some ⟨g,o,none⟩) xs.length c∧xs.length≤c∧c≤maxLen∧g<w.heap.size ∧
  ∀ i (h:i<xs.length),∃ cs,el.E w xs[i] cs∧∀ j,j<el.k→w.cell? ⟨g,o+i * el.k+j,none⟩=cs[j]?
theorem iC.below {α:Type} {el:El α} {w w':World} {v:Value} {xs:List α} {B:Nat} (h:iC el w v xs) (hb:Below B w w') (hB:w.heap.size≤B):iC el w' v xs:=by
 rcases h with h | ⟨g,o,c,h1,h2,h3,h4,h5⟩
 ·exact .inl h
 ·refine .inr ⟨g,o,c,h1,h2,h3,Nat.lt_of_lt_of_le h4 hb.size,fun i hi=>?_⟩
  obtain ⟨cs,a,b⟩:=h5 i hi
  exact ⟨cs,el.mono a hb hB,fun j hj=>(hb.cell (Nat.lt_of_lt_of_le h4 hB)).trans (b j hj)⟩
theorem iC.form {α:Type} {el:El α} {w:World} {v:Value} {xs:List α} (h:iC el w v xs):∃ a c,v=.slice a xs.length c∧xs.length≤c∧c≤maxLen:=by
 rcases h with ⟨a,c,h,hm,hz⟩ | ⟨g,o,c,h1,h2,h3,_⟩
 ·exact ⟨a,c,by rw [h,hz],by omega,hm⟩
 ·exact ⟨_,_,h1,h2,h3⟩
theorem iC.some {α:Type} {el:El α} {w:World} {a:Option Addr} {n c:Nat} {xs:List α} (h:iC el w (.slice a n c) xs) (hn:0<xs.length):∃ g o,a=some ⟨g,o,none⟩∧g<w.heap.size ∧
  ∀ i (h:i<xs.length),∃ cs,el.E w xs[i] cs∧∀ j,j<el.k→w.cell? ⟨g,o+i * el.k+j,none⟩=cs[j]?:=by
 rcases h with ⟨_,_,_,_,hz⟩ | ⟨g,o,c,h1,h2,h3,h4,h5⟩
 ·omega
 ·simp only [Value.slice.injEq] at h1
  exact ⟨g,o,h1.1,h4,h5⟩
theorem iC.nil {α:Type} (el:El α) (w:World):iC el w (.slice none 0 0) []:=.inl ⟨none,0,rfl,by unfold maxLen; omega,rfl⟩
theorem iC.take {α:Type} {el:El α} {w:World} {a:Option Addr} {n c:Nat} {xs:List α} (h:iC el w (.slice a n c) xs) (k:Nat) (hk:k≤xs.length):iC el w (.slice a k c) (xs.take k):=by
 have hl:(xs.take k).length=k:=by rw [List.length_take]; omega
 rcases h with ⟨a',c',h,hm,hz⟩ | ⟨g,o,c',h1,h2,h3,h4,h5⟩
 ·simp only [Value.slice.injEq] at h
  obtain ⟨rfl,_,rfl⟩:=h
  have:k=0:=by omega
  subst this
  exact .inl ⟨_,_,rfl,hm,rfl⟩
 ·simp only [Value.slice.injEq] at h1
  obtain ⟨rfl,_,rfl⟩:=h1
  refine .inr ⟨g,o,c,by rw [hl],by omega,h3,h4,fun i hi=>?_⟩
  obtain ⟨cs,e,f⟩:=h5 i (by omega)
  exact ⟨cs,by simpa using e,f⟩
theorem iC.dB {α:Type} {el:El α} {w:World} {b:Nat} {t:TypeId} {v:Value} {xs:List α} {ys:List Value} (h:w.ownsRow b t el.k v xs.length ys)
  (hE:∀ i (h:i<xs.length),el.E w xs[i] ((ys.drop (i * el.k)).take el.k)):iC el w v xs:=by
 rcases h.2 with ⟨h0,h1⟩ | ⟨g,cap,cur,rfl,hb,hg,hn,hm,hs,ht⟩
 ·exact .inl ⟨none,0,h0,by unfold maxLen; omega,h1⟩
 ·have hlt:g<w.heap.size:=by
   by_cases hh:g<w.heap.size
   ·exact hh
   ·rw [Array.getElem?_eq_none (by omega)] at hg
    cases hg
  refine .inr ⟨g,0,cap,rfl,hn,hm,hlt,fun i hi=>⟨_,hE i hi,fun j hj=>?_⟩⟩
  have hm1:(i+1) * el.k≤xs.length * el.k:=Nat.mul_le_mul_right _ hi
  have hm2:(i+1) * el.k=i * el.k+el.k:=by rw [Nat.add_mul,Nat.one_mul]
  have:=h.cellAt (i * el.k+j) (by omega)
  rw [Nat.zero_add,this,List.getElem?_take,if_pos hj,List.getElem?_drop]
def mO (f:Nat→Int):Nat→Nat→Int
 | _,0=>0
 | k,m+1=>if f k=0 then mO f (k+1) m else f k
theorem CJ (f:Nat→Int) (k n:Nat) (h:k<n):mO f k (n - k)=if f k=0 then mO f (k+1) (n - (k+1)) else f k:=by
 obtain ⟨m,hm⟩:∃ m,n - k=m+1:=⟨n - k - 1,by omega⟩
 rw [hm,mO,show n - (k+1)=m by omega]
theorem qM (f:Nat→Int):∀ (m k:Nat),mO f k m=0↔∀ i,k≤i→i<k+m→f i=0
 | 0,k=>by simp [mO]; intro i _ _; omega
 | m+1,k=>by
  rw [mO]
  by_cases h:f k=0
  ·rw [if_pos h,qM f m (k+1)]
   constructor
   ·intro g i hi hj
    by_cases e:i=k
    ·subst e; exact h
    ·exact g i (by omega) (by omega)
   ·intro g i hi hj
    exact g i (by omega) (by omega)
  ·rw [if_neg h]
   constructor
   ·intro e; exact absurd e h
   ·intro g; exact absurd (g k (by omega) (by omega)) h
structure uX where
 dx:Int
 dy:Int
 most:Int
 take:Int
deriving Inhabited,DecidableEq
structure jk where
 letter:Int
 hand:Int
 promote:Int
 ways:List uX
deriving Inhabited,DecidableEq
structure zD where
 kind:Int
 piece:Int
 count:Int
 loses:Bool
deriving Inhabited,DecidableEq
structure aA where
 name:ByteArray
 width:Int
 height:Int
 pieces:List jk
 start:List Int
 falls:Bool
 keeps:Bool
 ends:List zD
 blocked:Int
 quiet:Int
 bC:Int
deriving Inhabited
structure bf where
 cells:List Int
 h0:List Int
 h1:List Int
 turn:Int
 quiet:Int
deriving Inhabited,DecidableEq
structure aB where
 src:Int
 dst:Int
 piece:Int
deriving Inhabited,DecidableEq
def sF:El uX where
 k:=4
 E:=fun _ x cs=>cs=[.int .i64 x.dx,.int .i64 x.dy,.int .i64 x.most,.int .i64 x.take]
 mono:=fun h _ _=>h
 len:=fun h=>by subst h; rfl
def iF:El jk where
 k:=4
 E:=fun w x cs=>∃ v,cs=[.int .u8 x.letter,.int .i64 x.hand,.int .i64 x.promote,v]∧iC sF w v x.ways
 mono:=fun ⟨v,h,hr⟩ hb hB=>⟨v,h,hr.below hb hB⟩
 len:=fun ⟨v,h,_⟩=>by subst h; rfl
def oN:El zD where
 k:=4
 E:=fun _ x cs=>cs=[.int .i64 x.kind,.int .i64 x.piece,.int .i64 x.count,.bool x.loses]
 mono:=fun h _ _=>h
 len:=fun h=>by subst h; rfl
def jK:El aB where
 k:=3
 E:=fun _ x cs=>cs=[.int .i64 x.src,.int .i64 x.dst,.int .i64 x.piece]
 mono:=fun h _ _=>h
 len:=fun h=>by subst h; rfl
def OE (R:aA) (vp vs ve:Value):Value:=
 .agg #[.string R.name,.int .i64 R.width,.int .i64 R.height,vp,vs,.bool R.falls,.bool R.keeps,ve,.int .i64 R.blocked,.int .i64 R.quiet,.int .i64 R.bC]
def pV (w:World) (R:aA) (vp vs ve:Value):Prop:=iC iF w vp R.pieces∧fQ w vs R.start∧iC oN w ve R.ends
theorem pV.below {w w':World} {R:aA} {vp vs ve:Value} {B:Nat} (h:pV w R vp vs ve) (hb:Below B w w') (hB:w.heap.size≤B):pV w' R vp vs ve:=
 ⟨h.1.below hb hB,h.2.1.below hb hB,h.2.2.below hb hB⟩
def sG (p:bf) (vc v0 v1:Value):Value:=.agg #[vc,v0,v1,.int .i64 p.turn,.int .i64 p.quiet]
def sH (w:World) (p:bf) (vc v0 v1:Value):Prop:=fQ w vc p.cells∧fQ w v0 p.h0∧fQ w v1 p.h1
theorem sH.below {w w':World} {p:bf} {vc v0 v1:Value} {B:Nat} (h:sH w p vc v0 v1) (hb:Below B w w') (hB:w.heap.size≤B):sH w' p vc v0 v1:=
 ⟨h.1.below hb hB,h.2.1.below hb hB,h.2.2.below hb hB⟩
theorem Gf {w:World} {a:Option Addr} {n c:Nat} {xs:List uX} (h:iC sF w (.slice a n c) xs) (hn:0<xs.length):∃ g o,a=some ⟨g,o,none⟩∧g<w.heap.size ∧
  ∀ i,i<xs.length→w.cell? ⟨g,o+i * 4,none⟩=some (.int .i64 (xs.getD i default).dx)∧w.cell? ⟨g,o+i * 4+1,none⟩=some (.int .i64 (xs.getD i default).dy) ∧
   w.cell? ⟨g,o+i * 4+2,none⟩=some (.int .i64 (xs.getD i default).most)∧w.cell? ⟨g,o+i * 4+3,none⟩=some (.int .i64 (xs.getD i default).take):=by
 obtain ⟨g,o,ha,hg,hc⟩:=h.some hn
 refine ⟨g,o,ha,hg,fun i hi=>?_⟩
 obtain ⟨cs,he,hx⟩:=hc i hi
 simp only [sF] at he hx
 subst he
 rw [List.getD_eq_getElem?_getD,List.getElem?_eq_getElem hi]
 exact ⟨hx 0 (by omega),hx 1 (by omega),hx 2 (by omega),hx 3 (by omega)⟩
theorem Gg {w:World} {a:Option Addr} {n c:Nat} {xs:List zD} (h:iC oN w (.slice a n c) xs) (hn:0<xs.length):∃ g o,a=some ⟨g,o,none⟩∧g<w.heap.size ∧
  ∀ i,i<xs.length→w.cell? ⟨g,o+i * 4,none⟩=some (.int .i64 (xs.getD i default).kind)∧w.cell? ⟨g,o+i * 4+1,none⟩=some (.int .i64 (xs.getD i default).piece) ∧
   w.cell? ⟨g,o+i * 4+2,none⟩=some (.int .i64 (xs.getD i default).count)∧w.cell? ⟨g,o+i * 4+3,none⟩=some (.bool (xs.getD i default).loses):=by
 obtain ⟨g,o,ha,hg,hc⟩:=h.some hn
 refine ⟨g,o,ha,hg,fun i hi=>?_⟩
 obtain ⟨cs,he,hx⟩:=hc i hi
 simp only [oN] at he hx
 subst he
 rw [List.getD_eq_getElem?_getD,List.getElem?_eq_getElem hi]
 exact ⟨hx 0 (by omega),hx 1 (by omega),hx 2 (by omega),hx 3 (by omega)⟩
theorem wK {w:World} {a:Option Addr} {n c:Nat} {xs:List aB} (h:iC jK w (.slice a n c) xs) (hn:0<xs.length):∃ g o,a=some ⟨g,o,none⟩∧g<w.heap.size ∧
  ∀ i,i<xs.length→w.cell? ⟨g,o+i * 3,none⟩=some (.int .i64 (xs.getD i default).src)∧w.cell? ⟨g,o+i * 3+1,none⟩=some (.int .i64 (xs.getD i default).dst) ∧
   w.cell? ⟨g,o+i * 3+2,none⟩=some (.int .i64 (xs.getD i default).piece):=by
 obtain ⟨g,o,ha,hg,hc⟩:=h.some hn
 refine ⟨g,o,ha,hg,fun i hi=>?_⟩
 obtain ⟨cs,he,hx⟩:=hc i hi
 simp only [jK] at he hx
 subst he
 rw [List.getD_eq_getElem?_getD,List.getElem?_eq_getElem hi]
 exact ⟨hx 0 (by omega),hx 1 (by omega),hx 2 (by omega)⟩
theorem lV {w:World} {a:Option Addr} {n c:Nat} {xs:List jk} (h:iC iF w (.slice a n c) xs) (hn:0<xs.length):∃ g o,a=some ⟨g,o,none⟩∧g<w.heap.size ∧
  ∀ i,i<xs.length→∃ v,w.cell? ⟨g,o+i * 4,none⟩=some (.int .u8 (xs.getD i default).letter)∧w.cell? ⟨g,o+i * 4+1,none⟩=some (.int .i64 (xs.getD i default).hand) ∧
   w.cell? ⟨g,o+i * 4+2,none⟩=some (.int .i64 (xs.getD i default).promote)∧w.cell? ⟨g,o+i * 4+3,none⟩=some v∧iC sF w v (xs.getD i default).ways:=by
 obtain ⟨g,o,ha,hg,hc⟩:=h.some hn
 refine ⟨g,o,ha,hg,fun i hi=>?_⟩
 obtain ⟨cs,⟨v,he,hr⟩,hx⟩:=hc i hi
 simp only [iF] at hx
 subst he
 rw [List.getD_eq_getElem?_getD,List.getElem?_eq_getElem hi]
 exact ⟨v,hx 0 (by omega),hx 1 (by omega),hx 2 (by omega),hx 3 (by omega),hr⟩
def wb (n lo hi:Int):Bool:=decide (lo≤n) && decide (n≤hi)
theorem nS (n lo hi:Int):wb n lo hi=true↔lo≤n∧n≤hi:=by simp [wb]
def OG (i:Nat) (c:Nat):Bool:=(decide (65≤c) && decide (c≤90)) || (decide (i≠0) && decide (48≤c) && decide (c≤57))
def jS (s:List UInt8) (k:Nat):Nat→Bool
 | 0=>true
 | m+1=>OG k (s.getD k 0).toNat && jS s (k+1) m
def sJ (s:ByteArray):Bool:=jS s.data.toList 0 s.size && decide (0<s.size) && decide (s.size≤8)
def iW (x:uX):Bool:=wb x.dx (-7) 7 && wb x.dy (-7) 7 && !(x.dx == 0 && x.dy == 0) && wb x.most 1 7 && wb x.take 0 2
def eH (ps:List jk) (i:Nat):Int:=
 if (ps.getD i default).letter<65∨90<(ps.getD i default).letter then 6
 else if (ps.take i).any (fun q=>q.letter == (ps.getD i default).letter)=true then 7
 else if wb (ps.getD i default).hand 0 64=false∨wb (ps.getD i default).promote 0 ps.length=false then 4
 else if 16<(ps.getD i default).ways.length then 2
 else if (ps.getD i default).ways.all iW=true then 0 else 4
def dG (ps:List jk):Int:=if ps.length=0 then 8 else if 6<ps.length then 2 else mO (eH ps) 0 ps.length
def nT (np:Nat) (x:zD):Int:=
 if (x.kind == 0)=true then (if (wb x.count 1 64 && x.piece == 0)=true then 0 else 4)
 else if (x.kind == 1)=true then (if (x.count == 0 && wb x.piece 0 ((np:Int) - 1))=true then 0 else 4)
 else if (x.kind == 2)=true then (if (wb x.count 1 64 && wb x.piece 0 ((np:Int) - 1))=true then 0 else 4)
 else 1
def jh (R:aA):Int:=if 6<R.ends.length then 2 else mO (fun i=>nT R.pieces.length (R.ends.getD i default)) 0 R.ends.length
def aJ (R:aA):Int:=
 if sJ R.name=false then 6
 else if wb R.width 1 8=false∨wb R.height 1 8=false then 4
 else if dG R.pieces≠0 then dG R.pieces
 else if (R.start.length:Int)≠R.width * R.height then 3
 else if R.start.any (fun c=>!wb c 0 (2 * (R.pieces.length:Int)))=true then 4
 else if jh R≠0 then jh R
 else if wb R.blocked 0 2=false∨wb R.quiet 0 200=false∨(R.bC≠0∧wb R.bC 2 5=false) then 4
 else 0
end Go.Proofs.YteablcielclaeaaGreatDoor
namespace Go.Proofs.YteablcielclaeaaGreatDoor
open Go.ChangeShapes Go.WideShapes Go.ChangeAt Go.RowKit
set_option linter.unusedVariables false
open Go.Lib (hid)
theorem au (n lo hi:Int) (w:World) :
    Calls Tryz.prog 140 #[.int .i64 n,.int .i64 lo,.int .i64 hi] w fun e w'=>e=.returned (.bool (wb n lo hi))∧w=w':=by
  by_cases h1:lo≤n <;> by_cases h2:n≤hi
  all_goals
    go_enter Tryz.func140,Tryz.ntmps140
    go_wp2
    go_ret
    exact ⟨by simp [wb,h1,h2],rfl⟩
theorem Fh (s:List UInt8) (k n:Nat) (h:k<n):jS s k (n - k)=(OG k (s.getD k 0).toNat && jS s (k+1) (n - (k+1))):=by
  obtain ⟨m,hm⟩:∃ m,n - k=m+1:=⟨n - k - 1,by omega⟩
  rw [hm,jS,show n - (k+1)=m by omega]
theorem byte_at (s:ByteArray) (k:Nat) (h:k<s.size):s.data.toList.getD k 0=s[k]:=by
  have h':k<s.data.size:=h
  rw [List.getD_eq_getElem?_getD,Array.getElem?_toList,Array.getElem?_eq_getElem h']
  rfl
theorem Tq (s:ByteArray):s.toList.isEmpty=decide (s.size=0):=by
  rw [ByteArray.toList_eq,Bool.eq_iff_iff,List.isEmpty_iff,decide_eq_true_eq]
  constructor
  · intro h
    have:s.data.toList.length=0:=by rw [h]; rfl
    simpa using this
  · intro h
    exact List.eq_nil_of_length_eq_zero (by simpa using h)
set_option maxHeartbeats 1000000 in
theorem WC (s:ByteArray) (w:World) (hs:s.size≤maxLen) :
    Calls Tryz.prog 139 #[.string s] w fun e w'=>e=.returned (.bool (sJ s))∧w=w':=by
  unfold maxLen at hs
  have HN:Hid (sJ s=(jS s.data.toList 0 s.size && decide (0<s.size) && decide (s.size≤8))):=hid rfl
  go_enter Tryz.func139,Tryz.ntmps139
  go_wp2
  go_loop [7] (fun i=>∃ k:Nat,k≤s.size∧i=.int .i64 k∧Hid (jS s.data.toList 0 s.size=jS s.data.toList k (s.size - k))) (fun i=>s.size - (intOf i).toNat)
  case atStart=>exact ⟨0,Nat.zero_le _,rfl,hid rfl⟩
  case round =>
    obtain ⟨k,hk,rfl,HK⟩:=hrel
    by_cases hlt:k<s.size
    · have HS:=hid (Fh s.data.toList k s.size hlt)
      have HB:=hid (byte_at s k hlt)
      have HC:Hid (OG k (s.data.toList.getD k 0).toNat=((decide (65≤s[k].toNat) && decide (s[k].toNat≤90)) || (decide (k≠0) && decide (48≤s[k].toNat) && decide (s[k].toNat≤57)))):=hid (by rw [HB.out]; rfl)
      have HB2:Hid (s[k].toNat<256):=hid s[k].toNat_lt
      have C3:Hid (decide (k≠0) = !((k:Int) == 0)):=hid (by by_cases e:k=0 <;> simp [e])
      cases hk0:((k:Int) == 0)
      all_goals
        by_cases c1:65≤(s[k].toNat:Int) <;> by_cases c2:(s[k].toNat:Int)≤90 <;> by_cases c4:48≤(s[k].toNat:Int) <;> by_cases c5:(s[k].toNat:Int)≤57
        all_goals try omega
        all_goals
          go_wp2
          first
            | (go_round
               case rel=>exact ⟨k+1,by omega,by go_num,hid (by rw [HK.out,HS.out,HC.out,C3.out,hk0]; first | (simp; done) | (simp; omega))⟩
               case measure=>simp [intOf]; omega)
            | (go_ret
               exact ⟨by rw [HN.out,HK.out,HS.out,HC.out,C3.out,hk0]; first | (simp; done) | (simp; omega),rfl⟩)
    · obtain rfl:k=s.size:=by omega
      have HE:Hid (jS s.data.toList 0 s.size=true):=hid (by rw [HK.out]; simp [jS])
      have HT2:Hid (decide (0<s.size) = !s.toList.isEmpty):=hid (by rw [Tq s]; by_cases e:s.size=0 <;> simp [e]; omega)
      by_cases h8:s.size≤8
      all_goals
        have h8':decide ((s.size:Int)≤8)=decide (s.size≤8):=by rw [Bool.eq_iff_iff]; simp; omega
        simp only [h8,decide_true,decide_false] at h8'
        cases ht:s.toList.isEmpty
        all_goals
          go_wp2
          go_ret
          exact ⟨by rw [HN.out,HE.out,HT2.out,ht]; simp [h8],rfl⟩
end Go.Proofs.YteablcielclaeaaGreatDoor
namespace Go.Proofs.YteablcielclaeaaGreatDoor
open Go.RowKit
set_option linter.unusedVariables false
theorem own_ne {w:World} {b b':Nat} {e e':TypeId} {sz sz' n n':Nat} {v v':Value} {xs xs':List Value} (h:w.ownsRow b e sz v n xs) (h':w.ownsRow b' e' sz' v' n' xs') (hne:e≠e'):v.ownBlock=none∨v.ownBlock≠v'.ownBlock:=by
 rcases h.2 with ⟨rfl,_⟩ | ⟨g,c,cur,rfl,_,hb,_⟩
 ·exact .inl rfl
 ·right
  rcases h'.2 with ⟨rfl,_⟩ | ⟨g',c',cur',rfl,_,hb',_⟩
  ·simp [Value.ownBlock]
  ·simp only [Value.ownBlock,ne_eq,Option.some.injEq]
   intro hg
   subst hg
   rw [hb] at hb'
   simp at hb'
   exact hne hb'.2
theorem pW {w:World} {b b' B:Nat} {e e':TypeId} {sz sz' n n':Nat} {v v':Value} {xs xs':List Value} (h:w.ownsRow b e sz v n xs) (hB:∀ k,v.ownBlock=some k→k<B) (h':w.ownsRow b' e' sz' v' n' xs') (hb:B≤b'):v.ownBlock=none∨v.ownBlock≠v'.ownBlock:=by
 cases hv:v.ownBlock with
 | none=>exact .inl rfl
 | some k =>
  right
  intro he
  have h1:=hB k hv
  have h2:=(h'.lt k he.symm).1
  omega
theorem amk (w:World) (p:Addr) (u:Value):w.grownBy (w.setCell p u) (some p.block):=
 ⟨rfl,rfl,rfl,by simp,fun k _ hk=>Below.heap_setCell w p u k (fun e=>hk (by rw [e]))⟩
theorem below_drewN {B:Nat} {w W:World} (h:Below B w W) (n:Nat):Below B w (W.drewN n):=⟨h.os,h.tape,h.output,h.size,h.block⟩
theorem J7 {P:Program} {f:FuncId} {args:Array Value} {w:World} {n:Nat} {v:Value} (h:∀ W:World,Calls P f args W fun e w'=>e=.returned v∧W=w') :
  Calls P f args (w.drewN n) fun e w''=>e=.returned v∧∃ m,w''=w.drewN m:=(h _).mono fun _ _ ⟨he,hm⟩=>⟨he,n,hm.symm⟩
theorem aG {w:World} {base:Nat} {e:TypeId} {size:Nat} {v:Value} {n:Nat} {xs:List Value} (h:w.ownsRow base e size v n xs):∃ a c,v=.slice a n c:=by
 rcases h.2 with ⟨h,h0⟩ | ⟨g,c,_,h,_⟩
 ·exact ⟨none,0,by rw [h,h0]⟩
 ·exact ⟨_,c,h⟩
def lenV:Value→Nat
 | .slice _ n _=>n
 | _=>0
end Go.Proofs.YteablcielclaeaaGreatDoor
namespace Go.Proofs.YteablcielclaeaaGreatDoor
open Go.ChangeShapes Go.WideShapes Go.ChangeAt Go.RowKit
set_option linter.unusedVariables false
open Go.Lib (hid)
theorem ak {w w1 w2:World} {B:Nat} (h1:Below B w w1) (h2:Below w1.heap.size w1 w2) (hB:B≤w1.heap.size):Below B w w2:=h1.trans (h2.mono hB)
def jE {α:Type} (p:α→Bool):List α→Int→Int
 | [],_=>-1
 | z :: t,k=>if p z=true then k else jE p t (k+1)
theorem CO {α:Type} (p:α→Bool):∀ (l:List α) (k:Int),0≤k→(decide (0≤jE p l k)=l.any p)
 | [],k,_=>by simp [jE]
 | z :: t,k,hk=>by
  have ih:=CO p t (k+1) (by omega)
  unfold jE
  cases h:p z
  ·simpa [h] using ih
  ·simp [h,hk]
theorem zF {α:Type} (p:α→Bool) (zs:List α) (k:Nat) (h:k<zs.length):jE p (zs.drop k) k=if p zs[k]=true then (k:Int) else jE p (zs.drop (k+1)) ((k+1:Nat):Int):=by
 rw [List.drop_eq_getElem_cons h,jE]
 simp
theorem Ig (v:Value) (xs:List jk) (p:jk→Bool) (f:FuncId) (caps:Array Value) (w:World) (h:iC iF w v xs) (hf:∀ (args:Array Value) (w:World),(callFunc f args).run Tryz.prog w=.ok (.enter f args) w)
  (hc:∀ (W:World) (x:jk) (cs:List Value),x∈xs→iF.E W x cs→Below w.heap.size w W→Calls Tryz.prog f (#[.agg cs.toArray]++caps) W fun e w'=>e=.returned (.bool (p x))∧Below W.heap.size W w') :
  Calls Tryz.prog 217 #[v,.func (.func f) #[] caps] w fun e w'=>e=.returned (.int .i64 (jE p xs 0))∧Below w.heap.size w w':=by
 obtain ⟨a,c,rfl,h1,h2⟩:=h.form
 unfold maxLen at h2
 have HR:=hid h
 have HC:=hid hc
 clear h hc
 go_enter Tryz.func217,Tryz.ntmps217
 go_wp2_with fail
 go_loopw [8] (fun i wr=>∃ k:Nat,k≤xs.length∧i=.int .i64 k∧Hid (jE p xs 0=jE p (xs.drop k) k)∧Below w.heap.size w wr) (fun i _=>xs.length - (intOf i).toNat)
 case atStart=>exact ⟨0,Nat.zero_le _,rfl,hid rfl,Below.refl _ _⟩
 case round =>
  obtain ⟨k,hk,rfl,HK,hbl⟩:=hrel
  by_cases hlt:k<xs.length
  ·obtain ⟨g,o,rfl,hg,hcc⟩:=(HR.out.below hbl (Nat.le_refl _)).some (by omega)
   obtain ⟨cs,hE,hcell⟩:=hcc k hlt
   have hcl:=iF.len hE
   simp only [iF] at hcl
   obtain ⟨c0,c1,c2,c3,rfl⟩:∃ c0 c1 c2 c3,cs=[c0,c1,c2,c3]:=by
    match cs,hcl with
    | [c0,c1,c2,c3],_=>exact ⟨_,_,_,_,rfl⟩
   have q0:=hcell 0 (by decide)
   have q1:=hcell 1 (by decide)
   have q2:=hcell 2 (by decide)
   have q3:=hcell 3 (by decide)
   simp only [iF,List.getElem?_cons_zero,List.getElem?_cons_succ,Nat.add_zero] at q0 q1 q2 q3
   have HS:=hid (zF p xs k hlt)
   have JQ:=hid (HC.out wr xs[k] [c0,c1,c2,c3] (List.getElem_mem hlt) hE hbl)
   have HB:=hid hbl
   clear hcell hcc hE hcl hbl
   generalize xs[k]=x at *
   go_wp2_with fail
   refine JQ.out.mono ?_
   rintro e w1 ⟨rfl,hb1⟩
   have HB1:=hid (ak HB.out hb1 HB.out.size)
   clear hb1
   cases hpx:p x
   ·go_wp2_with fail
    go_roundw
    case rel=>exact ⟨k+1,by omega,by go_num,hid (by rw [HK.out,HS.out,if_neg (by simp [hpx])]),HB1.out⟩
    case measure=>simp [intOf]; omega
   ·go_wp2_with fail
    go_ret
    exact ⟨by rw [HK.out,HS.out,if_pos hpx]; rfl,HB1.out⟩
  ·obtain rfl:k=xs.length:=by omega
   go_wp2_with fail
   go_ret
   exact ⟨by rw [HK.out]; simp [jE],hbl⟩
theorem Bo (v:Value) (xs:List jk) (p:jk→Bool) (f:FuncId) (caps:Array Value) (w:World) (h:iC iF w v xs) (hf:∀ (args:Array Value) (w:World),(callFunc f args).run Tryz.prog w=.ok (.enter f args) w)
  (hc:∀ (W:World) (x:jk) (cs:List Value),x∈xs→iF.E W x cs→Below w.heap.size w W→Calls Tryz.prog f (#[.agg cs.toArray]++caps) W fun e w'=>e=.returned (.bool (p x))∧Below W.heap.size W w') :
  Calls Tryz.prog 181 #[v,.func (.func f) #[] caps] w fun e w'=>e=.returned (.bool (xs.any p))∧Below w.heap.size w w':=by
 have HI:=hid (Ig v xs p f caps w h hf hc)
 have HA:=hid (CO p xs 0 (by omega))
 clear h hc hf
 go_enter Tryz.func181,Tryz.ntmps181
 go_wp2_with fail
 refine HI.out.mono ?_
 rintro e w' ⟨rfl,hb⟩
 go_wp2_with fail
 go_ret
 exact ⟨by rw [← HA.out]; rfl,hb⟩
end Go.Proofs.YteablcielclaeaaGreatDoor
namespace Go.Proofs.YteablcielclaeaaGreatDoor
open Go.RowKit
theorem lT (g o n:Nat):(⟨g,o,none⟩:Addr).add n=⟨g,o+n,none⟩:=by
 unfold Addr.add; split
 ·rename_i h; subst h; rfl
 ·rfl
def iT (a:Option Addr) (c k sz:Nat):Option Addr:=if c=k then a else a.map (·.add (k * sz))
theorem Rd.take {w:World} {sz n:Nat} {a:Option Addr} {c:Nat} {xs:List Value} (h:Rd w sz n (.slice a n c) xs) (k:Nat) (hk:k≤n):Rd w sz k (.slice a k c) (xs.take (k * sz)):=by
 have hle:k * sz≤n * sz:=Nat.mul_le_mul_right sz hk
 refine ⟨by rw [List.length_take,h.1]; omega,?_⟩
 rcases h.2 with ⟨⟨a',c',h0,hm⟩,hz⟩ | ⟨g,o,c',hv,h1,h2,hc⟩
 ·left
  simp only [Value.slice.injEq] at h0
  obtain ⟨rfl,_,rfl⟩:=h0
  obtain rfl:k=0:=by omega
  exact ⟨⟨_,_,rfl,hm⟩,rfl⟩
 ·simp only [Value.slice.injEq,true_and] at hv
  obtain ⟨rfl,rfl⟩:=hv
  refine .inr ⟨g,o,c,rfl,by omega,h2,fun i hi=>?_⟩
  rw [hc i (by omega),List.getElem?_take,if_pos hi]
theorem Rd.drop {w:World} {sz n:Nat} {a:Option Addr} {c:Nat} {xs:List Value} (h:Rd w sz n (.slice a n c) xs) (k:Nat) (hk:k≤n):Rd w sz (n - k) (.slice (iT a c k sz) (n - k) (c - k)) (xs.drop (k * sz)):=by
 have hle:k * sz≤n * sz:=Nat.mul_le_mul_right sz hk
 have hms:(n - k) * sz=n * sz - k * sz:=Nat.sub_mul n k sz
 refine ⟨by rw [List.length_drop,h.1,hms],?_⟩
 rcases h.2 with ⟨⟨a',c',h0,hm⟩,hz⟩ | ⟨g,o,c',hv,h1,h2,hc⟩
 ·left
  simp only [Value.slice.injEq] at h0
  obtain ⟨rfl,_,rfl⟩:=h0
  obtain rfl:k=0:=by omega
  subst hz
  exact ⟨⟨_,_,rfl,by omega⟩,rfl⟩
 ·simp only [Value.slice.injEq,true_and] at hv
  obtain ⟨rfl,rfl⟩:=hv
  unfold iT
  by_cases hck:c=k
  ·rw [if_pos hck]
   have hnk:n - k=0:=by omega
   refine .inr ⟨g,o,c - k,rfl,by omega,by unfold maxLen at *; omega,fun i hi=>?_⟩
   rw [hnk] at hi
   omega
  ·rw [if_neg hck]
   refine .inr ⟨g,o+k * sz,c - k,by simp [lT],by omega,by unfold maxLen at *; omega,fun i hi=>?_⟩
   rw [List.getElem?_drop,← hc (k * sz+i) (by omega),Nat.add_assoc]
theorem nU {P:Program} {t:TypeId} {s:Nat} (ht:P.underlying t=some (.slice (P.elem t))) (hs:∀ w:World,(sizeOf (P.elem t)).run P w=.ok s w) (a:Option Addr) (n c k:Nat) (hk:k≤c) (w:World) :
  (Instr.slice t (.slice a n c) none (some (.int .i64 (k:Int))) none).run P w=.ok (.slice a k c) w:=by
 rw [run_slice_h (P:=P) (w:=w) t a n c ht .i64 (k:Int) (by omega) (by omega)]
 rw [hs]
 simp only [Result.andThen,sliced,Int.toNat_natCast,Nat.zero_mul,Nat.sub_zero]
 split
 ·rfl
 ·cases a with
  | none=>rfl
  | some x=>simp [Addr.add]
theorem xJ {P:Program} {t:TypeId} {s:Nat} (ht:P.underlying t=some (.slice (P.elem t))) (hs:∀ w:World,(sizeOf (P.elem t)).run P w=.ok s w) (a:Option Addr) (n c k:Nat) (hk:k≤n) (w:World) :
  (Instr.slice t (.slice a n c) (some (.int .i64 (k:Int))) none none).run P w=.ok (.slice (iT a c k s) (n - k) (c - k)) w:=by
 rw [run_slice_l (P:=P) (w:=w) t a n c ht .i64 (k:Int) (by omega) (by omega)]
 rw [hs]
 simp only [Result.andThen,sliced,Int.toNat_natCast,iT]
theorem OH {P:Program} {t:TypeId} {s:Nat} (ht:P.underlying t=some (.slice (P.elem t))) (hs:∀ w:World,(sizeOf (P.elem t)).run P w=.ok s w) (a:Option Addr) (n c k:Nat) (hk:k≤c) (w:World) :
  (Instr.sliceAt t (.slice a n c) none (some (.int .i64 (k:Int))) none).run P w=.ok (.slice a k c) w:=by
 rw [run_sliceAt_slice (h:=ht)]; exact nU ht hs a n c k hk w
theorem CP {P:Program} {t:TypeId} {s:Nat} (ht:P.underlying t=some (.slice (P.elem t))) (hs:∀ w:World,(sizeOf (P.elem t)).run P w=.ok s w) (a:Option Addr) (n c k:Nat) (hk:k≤n) (w:World) :
  (Instr.sliceAt t (.slice a n c) (some (.int .i64 (k:Int))) none none).run P w=.ok (.slice (iT a c k s) (n - k) (c - k)) w:=by
 rw [run_sliceAt_slice (h:=ht)]; exact xJ ht hs a n c k hk w
end Go.Proofs.YteablcielclaeaaGreatDoor

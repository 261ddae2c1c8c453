/- SortMv, MvS. -/
import Derived.Shelf.SlSortCmp.NoneTotal
import Derived.Shelf.SlGeneric
import Derived.Ground.SlsfProg
import Derived.Test.YtmabaojkignodaaGreatDoorProg
import Derived.Test.YtmabaojkignodaaGreatDoorE10
import Derived.Sort.OwnSortedInts
namespace Go.Proofs
open Go.Shelf
def Tryz.KT:Go.Shelf.Ren:=⟨fun | 6=>154 | 15=>206 | 14=>205 | 28=>251 | 29=>219 | 20=>243 | 21=>244 | 22=>245 | 23=>246 | 24=>247 | 25=>248 | 26=>249 | 27=>250 | 46=>278 | 47=>279 | 48=>280 | 49=>281 | 50=>282 | 57=>289 | n=>n,fun | 22=>64 | 24=>52 | 25=>247 | 3=>3 | 39=>261 | 0=>0 | 53=>301 | 55=>129 | 4=>4 | 46=>324 | 45=>323 | 50=>132 | 5=>5 | 9=>9 | 66=>344 | 70=>348 | 76=>361 | 77=>362 | n=>n,fun | n=>n⟩
theorem Tryz.TT:Go.Proofs.SlLaysF0.n6 Tryz.prog Tryz.KT:={
  mixed:=by kernel_rfl
  f6:=⟨Tryz.f154.name,by decide,Tryz.func154.trans (congrArg some (by kernel_rfl))⟩
  f14:=⟨Tryz.f205.name,by decide,Tryz.func205.trans (congrArg some (by kernel_rfl))⟩
  f15:=Tryz.func206.trans (congrArg some (by kernel_rfl))
  f20:=⟨Tryz.f243.name,by decide,Tryz.func243.trans (congrArg some (by kernel_rfl))⟩
  f21:=⟨Tryz.f244.name,by decide,Tryz.func244.trans (congrArg some (by kernel_rfl))⟩
  f22:=⟨Tryz.f245.name,by decide,Tryz.func245.trans (congrArg some (by kernel_rfl))⟩
  f23:=⟨Tryz.f246.name,by decide,Tryz.func246.trans (congrArg some (by kernel_rfl))⟩
  f24:=⟨Tryz.f247.name,by decide,Tryz.func247.trans (congrArg some (by kernel_rfl))⟩
  f25:=⟨Tryz.f248.name,by decide,Tryz.func248.trans (congrArg some (by kernel_rfl))⟩
  f26:=⟨Tryz.f249.name,by decide,Tryz.func249.trans (congrArg some (by kernel_rfl))⟩
  f27:=⟨Tryz.f250.name,by decide,Tryz.func250.trans (congrArg some (by kernel_rfl))⟩
  f28:=Tryz.func251.trans (congrArg some (by kernel_rfl))
  f29:=Tryz.func219.trans (congrArg some (by kernel_rfl))
  f46:=⟨Tryz.f278.name,by decide,Tryz.func278.trans (congrArg some (by kernel_rfl))⟩
  f47:=Tryz.func279.trans (congrArg some (by kernel_rfl))
  f48:=Tryz.func280.trans (congrArg some (by kernel_rfl))
  f49:=⟨Tryz.f281.name,by decide,Tryz.func281.trans (congrArg some (by kernel_rfl))⟩
  f50:=⟨Tryz.f282.name,by decide,Tryz.func282.trans (congrArg some (by kernel_rfl))⟩
  f57:=⟨Tryz.f289.name,by decide,Tryz.func289.trans (congrArg some (by kernel_rfl))⟩
  t0:=Tryz.underlying0
  a0:=Tryz.isAgg0
  z0:=Tryz.sizeOf0
  v0:=Tryz.zeroValue0
  t3:=Tryz.underlying3
  a3:=Tryz.isAgg3
  z3:=Tryz.sizeOf3
  v3:=Tryz.zeroValue3
  t4:=Tryz.underlying4
  a4:=Tryz.isAgg4
  z4:=Tryz.sizeOf4
  v4:=Tryz.zeroValue4
  t5:=Tryz.underlying5
  a5:=Tryz.isAgg5
  z5:=Tryz.sizeOf5
  v5:=Tryz.zeroValue5
  t9:=Tryz.underlying9
  a9:=Tryz.isAgg9
  z9:=Tryz.sizeOf9
  v9:=Tryz.zeroValue9
  t22:=Tryz.underlying64
  a22:=Tryz.isAgg64
  z22:=Tryz.sizeOf64
  v22:=Tryz.zeroValue64
  t25:=Tryz.underlying247
  a25:=Tryz.isAgg247
  z25:=Tryz.sizeOf247
  v25:=Tryz.zeroValue247
  t39:=Tryz.underlying261
  a39:=Tryz.isAgg261
  z39:=Tryz.sizeOf261
  v39:=Tryz.zeroValue261
  t45:=Tryz.underlying323
  a45:=Tryz.isAgg323
  z45:=Tryz.sizeOf323
  v45:=Tryz.zeroValue323
  t46:=Tryz.underlying324
  a46:=Tryz.isAgg324
  z46:=Tryz.sizeOf324
  v46:=Tryz.zeroValue324
  t50:=Tryz.underlying132
  a50:=Tryz.isAgg132
  z50:=Tryz.sizeOf132
  v50:=Tryz.zeroValue132
  t53:=Tryz.underlying301
  a53:=Tryz.isAgg301
  z53:=Tryz.sizeOf301
  v53:=Tryz.zeroValue301
  t55:=Tryz.underlying129
  a55:=Tryz.isAgg129
  z55:=Tryz.sizeOf129
  v55:=Tryz.zeroValue129
  t66:=Tryz.underlying344
  a66:=Tryz.isAgg344
  z66:=Tryz.sizeOf344
  v66:=Tryz.zeroValue344
  t70:=Tryz.underlying348
  a70:=Tryz.isAgg348
  z70:=Tryz.sizeOf348
  v70:=Tryz.zeroValue348
  t76:=Tryz.underlying361
  a76:=Tryz.isAgg361
  z76:=Tryz.sizeOf361
  v76:=Tryz.zeroValue361
  t77:=Tryz.underlying362
  a77:=Tryz.isAgg362
  z77:=Tryz.sizeOf362
  v77:=Tryz.zeroValue362 }
open Go.RowKit Go.Lib Go.Sort in
theorem Tryz.OB {α:Type} [Inhabited α] (aE:∀ w,(isAgg 52).run Tryz.prog w=.ok true w) (zE:∀ w,(Go.sizeOf 52).run Tryz.prog w=.ok 3 w) (enc:α→List Value) (hk:∀ x,(enc x).length=3) (h1:∀ x,∀ v∈enc x,v.oneCell'=true) (cf:α→α→Int) (hO:SWO (ltOf cf)) (g:Nat) (cb:Array Value) (blk off cap:Nat) (d:Array α) (w:World)
    (eg:∀ args w,(callFunc g args).run Tryz.prog w=.ok (.enter g args) w) (hcmp:CmpLays Tryz.prog g cb enc 3 cf blk off d.size w) (hH:HoldsK enc 3 w blk off d) (hblk:blk<w.heap.size) (hsz:d.size<4611686018427387904) (hT:∀ x y,(ltOf cf) x y=false→(ltOf cf) y x=false→x=y) :
    Calls Tryz.prog 154 #[.slice (some ⟨blk,off,none⟩) d.size cap,.func (.func g) #[] cb] w fun e w' =>
      e=.returned (.tuple #[])∧∃ n os,w'=sortWorldK enc 3 w blk off n (d.toList.mergeSort fun x y=>!(ltOf cf) y x).toArray os:=AnyQ.slices_SortFunc_total Tryz.TT 3 aE zE enc hk h1 cf hO g cb blk off cap d w eg hcmp hH hblk hsz hT
theorem Tryz.TU (p:Option Addr) (cap:Nat) (fv:Value) (w:World):Calls Tryz.prog 154 #[.slice p 0 cap,fv] w fun e w'=>e=.returned (.tuple #[])∧w'=w:=AnyF.slices_SortFunc_none Tryz.TT p cap fv w
end Go.Proofs
namespace Go.Proofs.YtmabaojkignodaaGreatDoor
open Go.ChangeShapes Go.WideShapes Go.ChangeAt Go.RowKit Go.Shelf
set_option linter.unusedVariables false
theorem zO (a b:aN):Ec a b<0↔a.src<b.src∨(a.src=b.src∧(a.dst<b.dst∨(a.dst=b.dst∧a.piece<b.piece))):=by
 obtain ⟨a1,a2,a3⟩:=a
 obtain ⟨b1,b2,b3⟩:=b
 unfold Ec rG
 simp only [Ld]
 by_cases h1:a1<b1 <;> by_cases h2:b1<a1 <;> by_cases h3:a2<b2 <;> by_cases h4:b2<a2 <;> by_cases h5:a3<b3 <;> by_cases h6:b3<a3 <;> simp [h1,h2,h3,h4,h5,h6] <;> omega
theorem TV:Sort.SWO (ltOf Ec) where
 irrefl x:=by unfold ltOf; simp only [decide_eq_false_iff_not,zO]; omega
 trans x y z h1 h2:=by unfold ltOf at *; simp only [decide_eq_true_eq,zO] at *; omega
 ntrans x y z h1 h2:=by unfold ltOf at *; simp only [decide_eq_false_iff_not,zO] at *; omega
theorem KU (x y:aN) (h1:ltOf Ec x y=false) (h2:ltOf Ec y x=false):x=y:=by
 unfold ltOf at *
 simp only [decide_eq_false_iff_not,zO] at h1 h2
 obtain ⟨a1,a2,a3⟩:=x
 obtain ⟨b1,b2,b3⟩:=y
 simp only [aN.mk.injEq] at *
 omega
def BN (m:aN):List Value:=[.int .i64 m.src,.int .i64 m.dst,.int .i64 m.piece]
theorem IG (xs:List aN):Sort.flatK BN 3 xs.toArray=(bJ xs).toArray:=by
 apply Array.ext
 ·simp [mV]
 ·intro t h1 h2
  have ht:t<xs.length * 3:=by simpa using h1
  obtain ⟨q,r,hr,rfl⟩:∃ q r,r<3∧t=q * 3+r:=⟨t / 3,t % 3,Nat.mod_lt _ (by decide),by omega⟩
  have hq:q<xs.length:=by omega
  have e1:(q * 3+r) / 3=q:=by omega
  have e2:(q * 3+r) % 3=r:=by omega
  have hg:xs.toArray[q]! = xs.getD q default:=by
   rw [getElem!_pos _ q (by simpa using hq),List.getD_eq_getElem?_getD,List.getElem?_eq_getElem hq]; simp
  have hf:=fG xs q hq
  have hL:(Sort.flatK BN 3 xs.toArray)[q * 3+r]! = (bJ xs).toArray[q * 3+r]!:=by
   rw [Sort.get_flatK _ _ _ _ (by simpa using ht),e1,e2,hg]
   have h3:r=0∨r=1∨r=2:=by omega
   rcases h3 with rfl | rfl | rfl
   ·have:=hf.1; simp only [Nat.add_zero,List.getElem!_toArray]; rw [List.getElem!_eq_getElem?_getD,List.getElem!_eq_getElem?_getD,this]; rfl
   ·have:=hf.2.1; simp only [List.getElem!_toArray]; rw [List.getElem!_eq_getElem?_getD,List.getElem!_eq_getElem?_getD,this]; rfl
   ·have:=hf.2.2; simp only [List.getElem!_toArray]; rw [List.getElem!_eq_getElem?_getD,List.getElem!_eq_getElem?_getD,this]; rfl
  rw [getElem!_pos (Sort.flatK BN 3 xs.toArray) _ h1,getElem!_pos (bJ xs).toArray _ h2] at hL
  exact hL
theorem BO {w:World} {g:Nat} {cur:Array Value} {e:TypeId} {vs:List Value} (hb:w.heap[g]?=some (.cells cur e (0,0))) (ht:cur.toList.take vs.length=vs):Sort.Holds id w g 0 vs.toArray:=by
 intro j hj
 have hj':j<vs.length:=by simpa using hj
 refine ⟨?_,by simp [World.frozen?,hb]⟩
 have h1:(cur.toList.take vs.length)[j]?=vs[j]?:=by rw [ht]
 rw [List.getElem?_take_of_lt hj'] at h1
 simp only [World.cell?,hb,Nat.zero_add]
 simp only [Option.isSome_none,Bool.false_eq_true,if_false]
 rw [← Array.getElem?_toList,h1]
 simp [hj']
theorem heap_put {w:World} {g n:Nat} {os:Array Obj} {cur:Array Value} {e:TypeId} {fr:Nat×Nat} (d:Array Value) (hb:w.heap[g]?=some (.cells cur e fr)) :
  (Sort.grow (Sort.putRow id (Sort.ahead w n) g 0 d) os).heap[g]?=some (.cells (Sort.putCells id 0 d cur) e fr):=by
 have hg:g<w.heap.size:=(Array.getElem?_eq_some_iff.1 hb).1
 rw [Sort.heap_grow_old _ _ (by simpa using hg)]
 simp [Sort.putRow,Sort.mapBlock,Sort.ahead,Array.getElem?_modify,hb,Sort.onCells]
theorem OC {w:World} {g n:Nat} {os:Array Obj} (d:Array Value):w.grownBy (Sort.grow (Sort.putRow id (Sort.ahead w n) g 0 d) os) (some g):=by
 refine ⟨rfl,rfl,rfl,by simp,fun k hk hne=>?_⟩
 rw [Sort.heap_grow_old _ _ (by simpa using hk)]
 have:g≠k:=fun e=>hne (by rw [e])
 simp [Sort.putRow,Sort.mapBlock,Sort.ahead,Array.getElem?_modify,this]
theorem OD (cur:Array Value) (ts:List Value) (h:ts.length≤cur.size):(Sort.putCells id 0 ts.toArray cur).toList.take ts.length=ts:=by
 apply List.ext_getElem?
 intro j
 by_cases hj:j<ts.length
 ·rw [List.getElem?_take_of_lt hj,Array.getElem?_toList]
  simp [Sort.putCells,hj,show j<cur.size by omega]
 ·rw [List.getElem?_take_eq_none (by omega),List.getElem?_eq_none (by omega)]
theorem Fp:SortMvSaid:=by
 intro base v xs w h hl
 rcases h.2 with ⟨rfl,hz⟩ | ⟨g,cap,cur,rfl,hg,hb,hn,hm,hs,ht⟩
 ·obtain rfl:xs=[]:=List.length_eq_zero_iff.1 hz
  refine (Tryz.TU none 0 _ w).mono ?_
  rintro e w' ⟨rfl,rfl⟩
  exact ⟨rfl,by simpa [rJ] using h,⟨rfl,rfl,rfl,Nat.le_refl _,fun _ _ _=>rfl⟩⟩
 ·have hlt:g<w.heap.size:=(Array.getElem?_eq_some_iff.1 hb).1
  have hH:Sort.HoldsK BN 3 w g 0 xs.toArray:=by
   unfold Sort.HoldsK
   rw [IG]
   exact BO hb (by rw [mV]; exact ht)
  have hc:=Tryz.OB Tryz.isAgg52 Tryz.sizeOf52 BN (fun _=>rfl) (fun x v hv=>by simp [BN] at hv; rcases hv with rfl | rfl | rfl <;> rfl) Ec TV 155 #[] g 0 cap xs.toArray w
   (enters_of Tryz.func155 (by kernel_rfl) rfl) (fun _ _ _ _ x y=>UK x y _) hH hlt (by simp; omega) KU
  simp only [List.size_toArray] at hc
  refine hc.mono ?_
  rintro e w' ⟨rfl,n,os,rfl⟩
  have hsl:(rJ xs).length=xs.length:=List.length_mergeSort _
  refine ⟨rfl,?_,?_⟩
  ·show (Sort.grow (Sort.putRow id (Sort.ahead w n) g 0 (Sort.flatK BN 3 (rJ xs).toArray)) os).ownsRow base 52 3 _ _ _
   rw [IG]
   refine ⟨by rw [mV,hsl],.inr ⟨g,cap,_,rfl,hg,heap_put _ hb,hn,hm,by simp [Sort.putCells,hs],?_⟩⟩
   have h3:=OD cur (bJ (rJ xs)) (by rw [mV,hsl,hs]; omega)
   rw [mV,hsl] at h3
   exact h3
  ·exact OC _
end Go.Proofs.YtmabaojkignodaaGreatDoor

/- SortMv, MvS. -/
import Derived.Shelf.SlSortCmp.NoneTotal
import Derived.Shelf.SlGeneric
import Derived.Ground.SlsfProg
import Derived.Test.YteablcielclaeaaGreatDoorProg
import Derived.Test.YteablcielclaeaaGreatDoorP30
import Derived.Sort.OwnSortedInts
namespace Go.Proofs
open Go.Shelf
def Tryz.Qu:Go.Shelf.Ren:=⟨fun | 6=>193 | 15=>226 | 14=>225 | 28=>249 | 29=>199 | 20=>241 | 21=>242 | 22=>243 | 23=>244 | 24=>245 | 25=>246 | 26=>247 | 27=>248 | 46=>254 | 47=>255 | 48=>256 | 49=>257 | 50=>258 | 57=>260 | n=>n,fun | 22=>80 | 24=>68 | 25=>291 | 3=>3 | 39=>184 | 0=>0 | 53=>223 | 55=>203 | 4=>4 | 46=>324 | 45=>323 | 50=>328 | 5=>5 | 9=>9 | 66=>335 | 70=>339 | 76=>342 | 77=>343 | n=>n,fun | n=>n⟩
theorem Tryz.aaI:Go.Proofs.SlLaysF0.n6 Tryz.prog Tryz.Qu:={
  mixed:=by kernel_rfl
  f6:=⟨Tryz.f193.name,by decide,Tryz.func193.trans (congrArg some (by kernel_rfl))⟩
  f14:=⟨Tryz.f225.name,by decide,Tryz.func225.trans (congrArg some (by kernel_rfl))⟩
  f15:=Tryz.func226.trans (congrArg some (by kernel_rfl))
  f20:=⟨Tryz.f241.name,by decide,Tryz.func241.trans (congrArg some (by kernel_rfl))⟩
  f21:=⟨Tryz.f242.name,by decide,Tryz.func242.trans (congrArg some (by kernel_rfl))⟩
  f22:=⟨Tryz.f243.name,by decide,Tryz.func243.trans (congrArg some (by kernel_rfl))⟩
  f23:=⟨Tryz.f244.name,by decide,Tryz.func244.trans (congrArg some (by kernel_rfl))⟩
  f24:=⟨Tryz.f245.name,by decide,Tryz.func245.trans (congrArg some (by kernel_rfl))⟩
  f25:=⟨Tryz.f246.name,by decide,Tryz.func246.trans (congrArg some (by kernel_rfl))⟩
  f26:=⟨Tryz.f247.name,by decide,Tryz.func247.trans (congrArg some (by kernel_rfl))⟩
  f27:=⟨Tryz.f248.name,by decide,Tryz.func248.trans (congrArg some (by kernel_rfl))⟩
  f28:=Tryz.func249.trans (congrArg some (by kernel_rfl))
  f29:=Tryz.func199.trans (congrArg some (by kernel_rfl))
  f46:=⟨Tryz.f254.name,by decide,Tryz.func254.trans (congrArg some (by kernel_rfl))⟩
  f47:=Tryz.func255.trans (congrArg some (by kernel_rfl))
  f48:=Tryz.func256.trans (congrArg some (by kernel_rfl))
  f49:=⟨Tryz.f257.name,by decide,Tryz.func257.trans (congrArg some (by kernel_rfl))⟩
  f50:=⟨Tryz.f258.name,by decide,Tryz.func258.trans (congrArg some (by kernel_rfl))⟩
  f57:=⟨Tryz.f260.name,by decide,Tryz.func260.trans (congrArg some (by kernel_rfl))⟩
  t0:=Tryz.underlying0
  a0:=Tryz.isAgg0
  z0:=Tryz.sizeOf0
  v0:=Tryz.zeroValue0
  t3:=Tryz.underlying3
  a3:=Tryz.isAgg3
  z3:=Tryz.sizeOf3
  v3:=Tryz.zeroValue3
  t4:=Tryz.underlying4
  a4:=Tryz.isAgg4
  z4:=Tryz.sizeOf4
  v4:=Tryz.zeroValue4
  t5:=Tryz.underlying5
  a5:=Tryz.isAgg5
  z5:=Tryz.sizeOf5
  v5:=Tryz.zeroValue5
  t9:=Tryz.underlying9
  a9:=Tryz.isAgg9
  z9:=Tryz.sizeOf9
  v9:=Tryz.zeroValue9
  t22:=Tryz.underlying80
  a22:=Tryz.isAgg80
  z22:=Tryz.sizeOf80
  v22:=Tryz.zeroValue80
  t25:=Tryz.underlying291
  a25:=Tryz.isAgg291
  z25:=Tryz.sizeOf291
  v25:=Tryz.zeroValue291
  t39:=Tryz.underlying184
  a39:=Tryz.isAgg184
  z39:=Tryz.sizeOf184
  v39:=Tryz.zeroValue184
  t45:=Tryz.underlying323
  a45:=Tryz.isAgg323
  z45:=Tryz.sizeOf323
  v45:=Tryz.zeroValue323
  t46:=Tryz.underlying324
  a46:=Tryz.isAgg324
  z46:=Tryz.sizeOf324
  v46:=Tryz.zeroValue324
  t50:=Tryz.underlying328
  a50:=Tryz.isAgg328
  z50:=Tryz.sizeOf328
  v50:=Tryz.zeroValue328
  t53:=Tryz.underlying223
  a53:=Tryz.isAgg223
  z53:=Tryz.sizeOf223
  v53:=Tryz.zeroValue223
  t55:=Tryz.underlying203
  a55:=Tryz.isAgg203
  z55:=Tryz.sizeOf203
  v55:=Tryz.zeroValue203
  t66:=Tryz.underlying335
  a66:=Tryz.isAgg335
  z66:=Tryz.sizeOf335
  v66:=Tryz.zeroValue335
  t70:=Tryz.underlying339
  a70:=Tryz.isAgg339
  z70:=Tryz.sizeOf339
  v70:=Tryz.zeroValue339
  t76:=Tryz.underlying342
  a76:=Tryz.isAgg342
  z76:=Tryz.sizeOf342
  v76:=Tryz.zeroValue342
  t77:=Tryz.underlying343
  a77:=Tryz.isAgg343
  z77:=Tryz.sizeOf343
  v77:=Tryz.zeroValue343 }
open Go.RowKit Go.Lib Go.Sort in
theorem Tryz.VU {α:Type} [Inhabited α] (aE:∀ w,(isAgg 68).run Tryz.prog w=.ok true w) (zE:∀ w,(Go.sizeOf 68).run Tryz.prog w=.ok 3 w) (enc:α→List Value) (hk:∀ x,(enc x).length=3) (h1:∀ x,∀ v∈enc x,v.oneCell'=true) (cf:α→α→Int) (hO:SWO (ltOf cf)) (g:Nat) (cb:Array Value) (blk off cap:Nat) (d:Array α) (w:World)
    (eg:∀ args w,(callFunc g args).run Tryz.prog w=.ok (.enter g args) w) (hcmp:CmpLays Tryz.prog g cb enc 3 cf blk off d.size w) (hH:HoldsK enc 3 w blk off d) (hblk:blk<w.heap.size) (hsz:d.size<4611686018427387904) (hT:∀ x y,(ltOf cf) x y=false→(ltOf cf) y x=false→x=y) :
    Calls Tryz.prog 193 #[.slice (some ⟨blk,off,none⟩) d.size cap,.func (.func g) #[] cb] w fun e w' =>
      e=.returned (.tuple #[])∧∃ n os,w'=sortWorldK enc 3 w blk off n (d.toList.mergeSort fun x y=>!(ltOf cf) y x).toArray os:=AnyQ.slices_SortFunc_total Tryz.aaI 3 aE zE enc hk h1 cf hO g cb blk off cap d w eg hcmp hH hblk hsz hT
theorem Tryz.aaJ (p:Option Addr) (cap:Nat) (fv:Value) (w:World):Calls Tryz.prog 193 #[.slice p 0 cap,fv] w fun e w'=>e=.returned (.tuple #[])∧w'=w:=AnyF.slices_SortFunc_none Tryz.aaI p cap fv w
end Go.Proofs
namespace Go.Proofs.YteablcielclaeaaGreatDoor
open Go.ChangeShapes Go.WideShapes Go.ChangeAt Go.RowKit Go.Shelf
set_option linter.unusedVariables false
theorem CG (a b:aB):Il a b<0↔a.src<b.src∨(a.src=b.src∧(a.dst<b.dst∨(a.dst=b.dst∧a.piece<b.piece))):=by
 obtain ⟨a1,a2,a3⟩:=a
 obtain ⟨b1,b2,b3⟩:=b
 unfold Il ku
 simp only [Gl]
 by_cases h1:a1<b1 <;> by_cases h2:b1<a1 <;> by_cases h3:a2<b2 <;> by_cases h4:b2<a2 <;> by_cases h5:a3<b3 <;> by_cases h6:b3<a3 <;> simp [h1,h2,h3,h4,h5,h6] <;> omega
theorem aaK:Sort.SWO (ltOf Il) where
 irrefl x:=by unfold ltOf; simp only [decide_eq_false_iff_not,CG]; omega
 trans x y z h1 h2:=by unfold ltOf at *; simp only [decide_eq_true_eq,CG] at *; omega
 ntrans x y z h1 h2:=by unfold ltOf at *; simp only [decide_eq_false_iff_not,CG] at *; omega
theorem Ri (x y:aB) (h1:ltOf Il x y=false) (h2:ltOf Il y x=false):x=y:=by
 unfold ltOf at *
 simp only [decide_eq_false_iff_not,CG] at h1 h2
 obtain ⟨a1,a2,a3⟩:=x
 obtain ⟨b1,b2,b3⟩:=y
 simp only [aB.mk.injEq] at *
 omega
def EU (m:aB):List Value:=[.int .i64 m.src,.int .i64 m.dst,.int .i64 m.piece]
theorem Oh (xs:List aB):Sort.flatK EU 3 xs.toArray=(bK xs).toArray:=by
 apply Array.ext
 ·simp [nM]
 ·intro t h1 h2
  have ht:t<xs.length * 3:=by simpa using h1
  obtain ⟨q,r,hr,rfl⟩:∃ q r,r<3∧t=q * 3+r:=⟨t / 3,t % 3,Nat.mod_lt _ (by decide),by omega⟩
  have hq:q<xs.length:=by omega
  have e1:(q * 3+r) / 3=q:=by omega
  have e2:(q * 3+r) % 3=r:=by omega
  have hg:xs.toArray[q]! = xs.getD q default:=by
   rw [getElem!_pos _ q (by simpa using hq),List.getD_eq_getElem?_getD,List.getElem?_eq_getElem hq]; simp
  have hf:=gu xs q hq
  have hL:(Sort.flatK EU 3 xs.toArray)[q * 3+r]! = (bK xs).toArray[q * 3+r]!:=by
   rw [Sort.get_flatK _ _ _ _ (by simpa using ht),e1,e2,hg]
   have h3:r=0∨r=1∨r=2:=by omega
   rcases h3 with rfl | rfl | rfl
   ·have:=hf.1; simp only [Nat.add_zero,List.getElem!_toArray]; rw [List.getElem!_eq_getElem?_getD,List.getElem!_eq_getElem?_getD,this]; rfl
   ·have:=hf.2.1; simp only [List.getElem!_toArray]; rw [List.getElem!_eq_getElem?_getD,List.getElem!_eq_getElem?_getD,this]; rfl
   ·have:=hf.2.2; simp only [List.getElem!_toArray]; rw [List.getElem!_eq_getElem?_getD,List.getElem!_eq_getElem?_getD,this]; rfl
  rw [getElem!_pos (Sort.flatK EU 3 xs.toArray) _ h1,getElem!_pos (bK xs).toArray _ h2] at hL
  exact hL
theorem JM:SortMvSaid:=by
 intro base v xs w h hl
 rcases h.2 with ⟨rfl,hz⟩ | ⟨g,cap,cur,rfl,hg,hb,hn,hm,hs,ht⟩
 ·obtain rfl:xs=[]:=List.length_eq_zero_iff.1 hz
  refine (Tryz.aaJ none 0 _ w).mono ?_
  rintro e w' ⟨rfl,rfl⟩
  exact ⟨rfl,by simpa [ql] using h,⟨rfl,rfl,rfl,Nat.le_refl _,fun _ _ _=>rfl⟩⟩
 ·have hlt:g<w.heap.size:=(Array.getElem?_eq_some_iff.1 hb).1
  have hH:Sort.HoldsK EU 3 w g 0 xs.toArray:=by
   unfold Sort.HoldsK
   rw [Oh]
   exact ug hb (by rw [nM]; exact ht)
  have hc:=Tryz.VU Tryz.isAgg68 Tryz.sizeOf68 EU (fun _=>rfl) (fun x v hv=>by simp [EU] at hv; rcases hv with rfl | rfl | rfl <;> rfl) Il aaK 194 #[] g 0 cap xs.toArray w
   (enters_of Tryz.func194 (by kernel_rfl) rfl) (fun _ _ _ _ x y=>abe x y _) hH hlt (by simp; omega) Ri
  simp only [List.size_toArray] at hc
  refine hc.mono ?_
  rintro e w' ⟨rfl,n,os,rfl⟩
  have hsl:(ql xs).length=xs.length:=List.length_mergeSort _
  refine ⟨rfl,?_,?_⟩
  ·show (Sort.grow (Sort.putRow id (Sort.ahead w n) g 0 (Sort.flatK EU 3 (ql xs).toArray)) os).ownsRow base 68 3 _ _ _
   rw [Oh]
   refine ⟨by rw [nM,hsl],.inr ⟨g,cap,_,rfl,hg,heap_put _ hb,hn,hm,by simp [Sort.putCells,hs],?_⟩⟩
   have h3:=Ho cur (bK (ql xs)) (by rw [nM,hsl,hs]; omega)
   rw [nM,hsl] at h3
   exact h3
  ·exact Hl _
end Go.Proofs.YteablcielclaeaaGreatDoor

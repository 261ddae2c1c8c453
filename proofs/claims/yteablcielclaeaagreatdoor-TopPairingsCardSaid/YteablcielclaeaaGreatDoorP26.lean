/- Mq1, Cut, After, Mq2, MtE, RwP, RwQ, RwS, ClaimA. -/
import Derived.Test.YteablcielclaeaaGreatDoorP25
namespace Go.Proofs.YteablcielclaeaaGreatDoor
set_option linter.unusedVariables false
set_option maxHeartbeats 8000000
set_option maxRecDepth 100000
def D8 (R:aA) (n:Int):ByteArray:=Utf8.encode (97+n % R.width)
def rowT (R:aA) (n:Int):ByteArray:=Utf8.encode (49+n / R.width)
def J3 (R:aA) (n:Int):ByteArray:=D8 R n++rowT R n
def tJ (R:aA) (k:Int):ByteArray:=Utf8.encode (R.pieces.getD k.toNat default).letter
def MI (p:bf) (m x:aB):Bool:=decide (0≤x.src) && !(x.src == m.src) && (x.dst == m.dst) && (p.cells.getD x.src.toNat 0 == p.cells.getD m.src.toNat 0)
def dM (p:bf) (l:List aB) (m:aB):List Int:=(l.filter (MI p m)).map (·.src)
def markT (R:aA) (p:bf) (l:List aB) (m:aB):ByteArray:=
 if (dM p l m).length=0 then ByteArray.empty
 else if (dM p l m).any (fun n=>n % R.width == m.src % R.width)=false then D8 R m.src
 else if (dM p l m).any (fun n=>n / R.width == m.src / R.width)=false then rowT R m.src
 else J3 R m.src
def tK (p:bf) (m:aB):Int:=(p.cells.getD m.src.toNat 0 - 1) / 2
def Qe (p:bf) (m:aB):ByteArray:=if p.cells.getD m.dst.toNat 0≠0 then ⟨#[120]⟩ else ByteArray.empty
def YI (R:aA) (p:bf) (m:aB):ByteArray:=if m.piece≠tK p m then ⟨#[61]⟩++tJ R m.piece else ByteArray.empty
def GN (R:aA) (p:bf) (l:List aB) (m:aB):ByteArray:=
 if m.src<0 then (tJ R m.piece++⟨#[64]⟩)++J3 R m.dst
 else (((tJ R (tK p m)++markT R p l m)++Qe p m)++J3 R m.dst)++YI R p m
def OA (b:ByteArray):List Nat:=b.data.toList.map UInt8.toNat
theorem Qg (a b:ByteArray):OA (a++b)=OA a++OA b:=by
 unfold OA
 rw [ByteArray.data_append,Array.toList_append,List.map_append]
theorem qH (b:ByteArray):(OA b).length=b.size:=by
 unfold OA
 rw [List.length_map,Array.length_toList]; rfl
theorem Je {n:Int} (h0:0≤n) (h1:n<128):OA (Utf8.encode n)=[n.toNat]:=by
 obtain ⟨k,rfl⟩:∃ k:Nat,n=k:=⟨n.toNat,by omega⟩
 have hk:k<128:=by omega
 have:∀ k:Fin 128,OA (Utf8.encode (k.val:Int))=[k.val]:=by decide +kernel
 simpa using this ⟨k,hk⟩
structure GR (R:aA):Prop where
 rg:∀ i,i<R.pieces.length→65≤(R.pieces.getD i default).letter∧(R.pieces.getD i default).letter≤90
 ne:∀ i j,i<j→j<R.pieces.length→(R.pieces.getD i default).letter≠(R.pieces.getD j default).letter
theorem afc {R:aA} (h:aJ R=0):GR R:=by
 have hp:dG R.pieces=0:=by
  unfold aJ at h
  split at h
  ·omega
  ·split at h
   ·omega
   ·split at h
    ·rename_i q; exact absurd h q
    ·rename_i q; omega
 unfold dG at hp
 split at hp
 ·omega
 ·split at hp
  ·omega
  ·rw [qM] at hp
   have hq:∀ i,i<R.pieces.length→eH R.pieces i=0:=fun i hi=>hp i (by omega) (by omega)
   refine ⟨fun i hi=>?_,fun i j hij hj=>?_⟩
   ·have:=hq i hi
    unfold eH at this
    split at this
    ·omega
    ·omega
   ·have:=hq j hj
    unfold eH at this
    split at this
    ·omega
    ·split at this
     ·omega
     ·rename_i q
      intro e
      apply q
      rw [List.any_eq_true]
      refine ⟨R.pieces.getD i default,?_,by rw [e]; simp⟩
      rw [List.getD_eq_getElem?_getD,List.getElem?_eq_getElem (by omega)]
      exact List.mem_take_iff_getElem.2 ⟨i,by omega,rfl⟩
theorem MJ {R:aA} (L:GR R) {k:Int} (h0:0≤k) (h1:k<R.pieces.length):OA (tJ R k)=[(R.pieces.getD k.toNat default).letter.toNat]:=by
 have:=L.rg k.toNat (by omega)
 exact Je (by omega) (by omega)
theorem RX {R:aA} (K:Ro R) {n:Int} (h0:0≤n) (h1:n<R.width * R.height):0≤n % R.width∧n % R.width<8∧0≤n / R.width∧n / R.width<8:=by
 have hw:=K.w
 have hh:=K.h
 have a1:=Int.emod_nonneg n (show R.width≠0 by omega)
 have a2:=Int.emod_lt_of_pos n (show 0<R.width by omega)
 have a3:=Int.ediv_nonneg h0 (show 0≤R.width by omega)
 have a4:n / R.width<R.height:=Int.ediv_lt_of_lt_mul (by omega) (by rw [Int.mul_comm]; exact h1)
 omega
theorem D9 {R:aA} (K:Ro R) {n:Int} (h0:0≤n) (h1:n<R.width * R.height):OA (D8 R n)=[97+(n % R.width).toNat]:=by
 have:=RX K h0 h1
 unfold D8
 rw [Je (by omega) (by omega)]
 congr 1; omega
theorem Ea {R:aA} (K:Ro R) {n:Int} (h0:0≤n) (h1:n<R.width * R.height):OA (rowT R n)=[49+(n / R.width).toNat]:=by
 have:=RX K h0 h1
 unfold rowT
 rw [Je (by omega) (by omega)]
 congr 1; omega
theorem RY {R:aA} (K:Ro R) {n:Int} (h0:0≤n) (h1:n<R.width * R.height):OA (J3 R n)=[97+(n % R.width).toNat,49+(n / R.width).toNat]:=by
 unfold J3
 rw [Qg,D9 K h0 h1,Ea K h0 h1]; rfl
theorem Qh {R:aA} (K:Ro R) (p:bf) (l:List aB) (m:aB) (h0:0≤m.src) (h1:m.src<R.width * R.height) :
  ((dM p l m)=[]∧OA (markT R p l m)=[]) ∨
  ((∀ n∈dM p l m,n % R.width≠m.src % R.width)∧OA (markT R p l m)=[97+(m.src % R.width).toNat]) ∨
  ((∀ n∈dM p l m,n / R.width≠m.src / R.width)∧OA (markT R p l m)=[49+(m.src / R.width).toNat]) ∨
  OA (markT R p l m)=[97+(m.src % R.width).toNat,49+(m.src / R.width).toNat]:=by
 unfold markT
 by_cases e0:(dM p l m).length=0
 ·left; rw [if_pos e0]; exact ⟨List.length_eq_zero_iff.1 e0,rfl⟩
 rw [if_neg e0]
 by_cases e1:(dM p l m).any (fun n=>n % R.width == m.src % R.width)=false
 ·right; left
  rw [if_pos e1,D9 K h0 h1]
  refine ⟨fun n hn e=>?_,rfl⟩
  rw [List.any_eq_false] at e1
  exact e1 n hn (by simp [e])
 rw [if_neg e1]
 by_cases e2:(dM p l m).any (fun n=>n / R.width == m.src / R.width)=false
 ·right; right; left
  rw [if_pos e2,Ea K h0 h1]
  refine ⟨fun n hn e=>?_,rfl⟩
  rw [List.any_eq_false] at e2
  exact e2 n hn (by simp [e])
 rw [if_neg e2,RY K h0 h1]
 exact .inr (.inr (.inr rfl))
theorem UG {R:aA} {p:bf} {m:aB} (h:m∈dZ R p):m.src = -1∨(0≤m.src∧m.src.toNat<p.cells.length∧p.cells.getD m.src.toNat 0≠0∧(p.cells.getD m.src.toNat 0 - 1) % 2=p.turn):=by
 rw [sU] at h
 unfold pO at h
 rcases List.mem_append.1 h with h | h
 ·obtain ⟨s,k,_,-,-,-,rfl⟩:=Dl h
  exact .inl rfl
 ·obtain ⟨s,hs,hn,ht,x,-,t,-,rfl⟩:=zL h
  have e:(kS R p s ((p.cells.getD s 0 - 1) / 2) t).src=s:=rfl
  rw [e]
  exact .inr ⟨by omega,by simpa using hs,by simpa using fun e=>hn e.symm,by simpa using ht⟩
end Go.Proofs.YteablcielclaeaaGreatDoor
namespace Go.Proofs.YteablcielclaeaaGreatDoor
open Go.ChangeShapes Go.WideShapes Go.ChangeAt Go.RowKit
set_option linter.unusedVariables false
set_option maxHeartbeats 8000000
set_option maxRecDepth 100000
end Go.Proofs.YteablcielclaeaaGreatDoor
namespace Go.Proofs.YteablcielclaeaaGreatDoor
open Go.ChangeShapes Go.WideShapes Go.ChangeAt Go.RowKit
set_option linter.unusedVariables false
set_option maxHeartbeats 8000000
set_option maxRecDepth 100000
open Go.Lib (hid)
theorem Eb (R:aA) (vp vs ve:Value) (n:Int) (w:World) (K:Ro R) (h0:0≤n) (h1:n<R.width * R.height) :
  Calls Tryz.prog 219 #[(.agg #[.string R.name,.int .i64 R.width,.int .i64 R.height,vp,vs,.bool R.falls,.bool R.keeps,ve,.int .i64 R.blocked,.int .i64 R.quiet,.int .i64 R.bC]),.int .i64 n] w fun e w'=>e=.returned (.string (D8 R n))∧Below w.heap.size w w':=by
 have HD:Hid (D8 R n=Utf8.encode (97+n % R.width)):=hid rfl
 obtain ⟨hw1,hw2⟩:=K.w
 obtain ⟨s1,s2,s3,s4⟩:=RX K h0 h1
 have ht:Int.tmod n R.width=n % R.width:=Int.tmod_eq_emod_of_nonneg h0
 have hwne:R.width≠0:=by omega
 clear K
 go_enter Tryz.func219,Tryz.ntmps219
 go_upto_region 1 with (fail)
 refine lX fun w0 B0 fJ hs_=>?_
 have HB:=hid fJ
 have hz0:w.heap.size<w0.heap.size:=by omega
 clear hs_ fJ
 have HX:=hid B0
 clear B0
 have q1:=HX.out.cell 1 rfl
 generalize n % R.width=z at *
 go_wp2_with fail
 go_ret
 exact ⟨by rw [HD.out]; rfl,HB.out⟩
theorem RZ (R:aA) (vp vs ve:Value) (n:Int) (w:World) (K:Ro R) (h0:0≤n) (h1:n<R.width * R.height) :
  Calls Tryz.prog 220 #[(.agg #[.string R.name,.int .i64 R.width,.int .i64 R.height,vp,vs,.bool R.falls,.bool R.keeps,ve,.int .i64 R.blocked,.int .i64 R.quiet,.int .i64 R.bC]),.int .i64 n] w fun e w'=>e=.returned (.string (rowT R n))∧Below w.heap.size w w':=by
 have HD:Hid (rowT R n=Utf8.encode (49+n / R.width)):=hid rfl
 obtain ⟨hw1,hw2⟩:=K.w
 obtain ⟨s1,s2,s3,s4⟩:=RX K h0 h1
 have ht:Int.tdiv n R.width=n / R.width:=Int.tdiv_eq_ediv_of_nonneg h0
 have hwne:R.width≠0:=by omega
 clear K
 go_enter Tryz.func220,Tryz.ntmps220
 go_upto_region 1 with (fail)
 refine lX fun w0 B0 fJ hs_=>?_
 have HB:=hid fJ
 have hz0:w.heap.size<w0.heap.size:=by omega
 clear hs_ fJ
 have HX:=hid B0
 clear B0
 have q1:=HX.out.cell 1 rfl
 generalize n / R.width=z at *
 go_wp2_with fail
 go_ret
 exact ⟨by rw [HD.out]; rfl,HB.out⟩
theorem qZ (R:aA) (vp vs ve:Value) (n:Int) (w:World) (K:Ro R) (h0:0≤n) (h1:n<R.width * R.height) :
  Calls Tryz.prog 188 #[(.agg #[.string R.name,.int .i64 R.width,.int .i64 R.height,vp,vs,.bool R.falls,.bool R.keeps,ve,.int .i64 R.blocked,.int .i64 R.quiet,.int .i64 R.bC]),.int .i64 n] w fun e w'=>e=.returned (.string (J3 R n))∧Below w.heap.size w w':=by
 have HD:Hid (J3 R n=D8 R n++rowT R n):=hid rfl
 have z1:(D8 R n).size=1:=by rw [← qH,D9 K h0 h1]; rfl
 have z2:(rowT R n).size=1:=by rw [← qH,Ea K h0 h1]; rfl
 have HK:=hid K
 clear K
 go_enter Tryz.func188,Tryz.ntmps188
 go_upto_region 1 with (fail)
 refine lX fun w0 B0 fJ hs_=>?_
 have HB:=hid fJ
 have hz0:w.heap.size<w0.heap.size:=by omega
 clear hs_ fJ
 have Bz:Box w0.drew w.heap.size [.string R.name,.int .i64 R.width,.int .i64 R.height,vp,vs,.bool R.falls,.bool R.keeps,ve,.int .i64 R.blocked,.int .i64 R.quiet,.int .i64 R.bC] 61:=B0
 have Lz:Below w.heap.size w w0.drew:=aK HB.out
 clear B0 HB hz0
 refine wp_region_noPanic ?_
 refine bI (S:=(fun w'=>w'.cell? ⟨w.heap.size,0,none⟩=some (.string R.name)∧w'.cell? ⟨w.heap.size,1,none⟩=some (.int .i64 R.width)∧w'.cell? ⟨w.heap.size,2,none⟩=some (.int .i64 R.height)∧w'.cell? ⟨w.heap.size,3,none⟩=some vp∧w'.cell? ⟨w.heap.size,4,none⟩=some vs∧w'.cell? ⟨w.heap.size,5,none⟩=some (.bool R.falls)∧w'.cell? ⟨w.heap.size,6,none⟩=some (.bool R.keeps)∧w'.cell? ⟨w.heap.size,7,none⟩=some ve∧w'.cell? ⟨w.heap.size,8,none⟩=some (.int .i64 R.blocked)∧w'.cell? ⟨w.heap.size,9,none⟩=some (.int .i64 R.quiet)∧w'.cell? ⟨w.heap.size,10,none⟩=some (.int .i64 R.bC))) (L:=[]) (by kernel_rfl) (by and_intros <;> exact Bz.cell _ rfl) (fun hHeld=>?_)
 refine dV 0 ?_
 refine aC 1 ?_
 refine dV 3 ?_
 refine aC 4 ?_
 refine fH 2 fun K hK=>?_
 go_simp
 refine (Eb R vp vs ve n _ HK.out h0 h1).mono ?_
 rintro e w2 ⟨rfl,hb2⟩
 have B2:=Bz.stays hb2
 have L2:=ak Lz hb2 Lz.size
 clear hb2
 refine hK.out _ _ (by and_intros <;> exact B2.cell _ rfl) (fun hHeld=>?_)
 clear hK K
 refine fH 5 fun K hK=>?_
 go_simp
 refine (RZ R vp vs ve n _ HK.out h0 h1).mono ?_
 rintro e w5 ⟨rfl,hb5⟩
 have B5:=B2.stays hb5
 have L5:=ak L2 hb5 L2.size
 clear hb5
 refine hK.out _ _ (by and_intros <;> exact B5.cell _ rfl) (fun hHeld=>?_)
 clear hK K
 refine aC 6 ?_
 refine aC 7 ?_
 refine jC ?_
 have HL:=hid L5
 clear hHeld B2 L2 B5 L5 Bz Lz
 go_wp2_with fail
 go_ret
 exact ⟨by rw [HD.out]; rfl,HL.out⟩
theorem ru (R:aA) (vp vs ve:Value) (k:Int) (w:World) (hr:iC iF w vp R.pieces) (K:Ro R) (L:GR R) (h0:0≤k) (h1:k<R.pieces.length) :
  Calls Tryz.prog 187 #[(.agg #[.string R.name,.int .i64 R.width,.int .i64 R.height,vp,vs,.bool R.falls,.bool R.keeps,ve,.int .i64 R.blocked,.int .i64 R.quiet,.int .i64 R.bC]),.int .i64 k] w fun e w'=>e=.returned (.string (tJ R k))∧Below w.heap.size w w':=by
 have HD:Hid (tJ R k=Utf8.encode (R.pieces.getD k.toNat default).letter):=hid rfl
 have HR:=hid hr
 obtain ⟨np1,np2⟩:=K.np
 obtain ⟨l1,l2⟩:=L.rg k.toNat (by omega)
 obtain ⟨a,c,rfl,hl1,hl2⟩:=hr.form
 unfold maxLen at hl2
 clear hr K L
 go_enter Tryz.func187,Tryz.ntmps187
 go_upto_region 1 with (fail)
 refine lX fun w0 B0 fJ hs_=>?_
 have HB:=hid fJ
 have hz0:w.heap.size<w0.heap.size:=by omega
 clear hs_ fJ
 have HX:=hid B0
 clear B0
 have q3:=HX.out.cell 3 rfl
 obtain ⟨gp,op,rfl,hgp,hpc⟩:=lV (HR.out.below HB.out (Nat.le_refl _)) (by omega)
 obtain ⟨vw,c0,-,-,-,-⟩:=hpc k.toNat (by omega)
 clear hpc
 generalize (R.pieces.getD k.toNat default).letter=z at *
 go_wp2_with fail
 go_ret
 exact ⟨by rw [HD.out]; rfl,HB.out⟩
theorem UH:(Tryz.prog.info? 3).map (fun i=>(i.zero,i.size,i.bytes))=some (some (.int .i64 0),1,8):=by kernel_rfl
theorem YJ (p:bf) (l:List aB) (m:aB) (k:Nat) (h:k<l.length):dM p (l.take (k+1)) m=dM p (l.take k) m++(if MI p m (l.getD k default)=true then [(l.getD k default).src] else []):=by
 unfold dM
 rw [List.take_succ_eq_append_getElem h,List.filter_append,List.map_append,List.getD_eq_getElem?_getD,List.getElem?_eq_getElem h]
 congr 1
 simp only [List.filter_cons,List.filter_nil,Option.getD_some]
 split <;> simp
theorem Si (p:bf) (l:List aB) (m:aB):(dM p l m).length≤l.length:=by
 unfold dM
 rw [List.length_map]
 exact List.length_filter_le _ _
theorem ach (p:bf) (l:List aB) (m:aB) (hl:∀ x∈l,x.src<p.cells.length):∀ z∈dM p l m,0≤z∧z<p.cells.length:=by
 intro z hz
 unfold dM at hz
 obtain ⟨x,hx,rfl⟩:=List.mem_map.1 hz
 have:=(List.mem_filter.1 hx).2
 unfold MI at this
 simp only [Bool.and_eq_true,decide_eq_true_eq] at this
 exact ⟨this.1.1.1,hl x (List.mem_filter.1 hx).1⟩
theorem aci (args:Array Value) (w:World):(callFunc 222 args).run Tryz.prog w=.ok (.enter 222 args) w:=by kernel_rfl
theorem acj (args:Array Value) (w:World):(callFunc 223 args).run Tryz.prog w=.ok (.enter 223 args) w:=by kernel_rfl
theorem acn (R:aA) (vp vs ve:Value) (m:aB) (z:Int) (b0 b2:Nat) (w:World) (B0:Box w b0 [.string R.name,.int .i64 R.width,.int .i64 R.height,vp,vs,.bool R.falls,.bool R.keeps,ve,.int .i64 R.blocked,.int .i64 R.quiet,.int .i64 R.bC] 61) (B2:Box w b2 [.int .i64 m.src,.int .i64 m.dst,.int .i64 m.piece] 68) (hw:1≤R.width) (hz:0≤z) (hm:0≤m.src) :
  Calls Tryz.prog 222 (#[.int .i64 z] ++ #[.pointer (some ⟨b0,0,none⟩),.pointer (some ⟨b2,0,none⟩)]) w fun e w'=>e=.returned (.bool (z % R.width == m.src % R.width))∧Below w.heap.size w w':=by
 show Calls Tryz.prog 222 #[.int .i64 z,.pointer (some ⟨b0,0,none⟩),.pointer (some ⟨b2,0,none⟩)] w _
 have q1:=B0.cell 1 rfl
 have x0:=B2.cell 0 rfl
 have t1:Int.tmod z R.width=z % R.width:=Int.tmod_eq_emod_of_nonneg hz
 have t2:Int.tmod m.src R.width=m.src % R.width:=Int.tmod_eq_emod_of_nonneg hm
 have hwne:R.width≠0:=by omega
 clear B0 B2
 go_enter Tryz.func222,Tryz.ntmps222
 go_upto_region 1 with (fail)
 go_quiet (fail)
 go_wp2_with fail
 go_ret
 exact ⟨rfl,below_drewN (Below.refl _ _) _⟩
theorem aco (R:aA) (vp vs ve:Value) (m:aB) (z:Int) (b0 b2:Nat) (w:World) (B0:Box w b0 [.string R.name,.int .i64 R.width,.int .i64 R.height,vp,vs,.bool R.falls,.bool R.keeps,ve,.int .i64 R.blocked,.int .i64 R.quiet,.int .i64 R.bC] 61) (B2:Box w b2 [.int .i64 m.src,.int .i64 m.dst,.int .i64 m.piece] 68) (hw:1≤R.width) (hz:0≤z) (hz2:z≤1000) (hm:0≤m.src) (hm2:m.src≤1000) :
  Calls Tryz.prog 223 (#[.int .i64 z] ++ #[.pointer (some ⟨b0,0,none⟩),.pointer (some ⟨b2,0,none⟩)]) w fun e w'=>e=.returned (.bool (z / R.width == m.src / R.width))∧Below w.heap.size w w':=by
 show Calls Tryz.prog 223 #[.int .i64 z,.pointer (some ⟨b0,0,none⟩),.pointer (some ⟨b2,0,none⟩)] w _
 have q1:=B0.cell 1 rfl
 have x0:=B2.cell 0 rfl
 have t1:Int.tdiv z R.width=z / R.width:=Int.tdiv_eq_ediv_of_nonneg hz
 have t2:Int.tdiv m.src R.width=m.src / R.width:=Int.tdiv_eq_ediv_of_nonneg hm
 have hwne:R.width≠0:=by omega
 have d1:=Int.ediv_nonneg hz (show 0≤R.width by omega)
 have d2:=Int.ediv_nonneg hm (show 0≤R.width by omega)
 have d3:=Int.ediv_le_self R.width hz
 have d4:=Int.ediv_le_self R.width hm
 generalize z / R.width=zq at *
 generalize m.src / R.width=mq at *
 clear B0 B2
 go_enter Tryz.func223,Tryz.ntmps223
 go_upto_region 1 with (fail)
 go_quiet (fail)
 go_wp2_with fail
 go_ret
 exact ⟨rfl,below_drewN (Below.refl _ _) _⟩
theorem Sj (f:FuncId) (caps:Array Value) (p:Int→Bool) (v:Value) (zs:List Int) (rb:Nat) (w:World) (B:Box w rb [v] 22) (h:fQ w v zs) (hf:∀ (args:Array Value) (w:World),(callFunc f args).run Tryz.prog w=.ok (.enter f args) w)
  (hc:∀ (W:World) (z:Int),z∈zs→Below w.heap.size w W→Calls Tryz.prog f (#[.int .i64 z]++caps) W fun e w'=>e=.returned (.bool (p z))∧Below W.heap.size W w') :
  Calls Tryz.prog 221 #[.func (.func f) #[] caps,.pointer (some ⟨rb,0,none⟩)] w fun e w'=>e=.returned (.bool (zs.any p))∧Below w.heap.size w w':=by
 have HC:=hid (yJ v zs p f caps w h hf hc)
 have q0:=B.cell 0 rfl
 obtain ⟨a,c,rfl,h1,h2⟩:=h.form
 clear h hf hc B
 go_enter Tryz.func221,Tryz.ntmps221
 go_wp2_with fail
 refine HC.out.mono ?_
 rintro e w1 ⟨rfl,hb1⟩
 have HB1:=hid hb1
 clear hb1
 go_wp2_with fail
 go_ret
 exact ⟨rfl,HB1.out⟩
theorem YK (R:aA) (vp vs ve:Value) (p:bf) (vc v0 v1:Value) (m:aB) (v:Value) (l:List aB) (w:World) (hp:fQ w vc p.cells) (hl:iC jK w v l) (K:qg R p) (hlf:∀ x∈l,x.src<p.cells.length) (hll:l.length≤1000000) (hm:0≤m.src∧m.src<p.cells.length) :
  Calls Tryz.prog 189 #[(.agg #[.string R.name,.int .i64 R.width,.int .i64 R.height,vp,vs,.bool R.falls,.bool R.keeps,ve,.int .i64 R.blocked,.int .i64 R.quiet,.int .i64 R.bC]),(.agg #[vc,v0,v1,.int .i64 p.turn,.int .i64 p.quiet]),v,.agg #[.int .i64 m.src,.int .i64 m.dst,.int .i64 m.piece]] w fun e w'=>e=.returned (.string (markT R p l m))∧Below w.heap.size w w':=by
 have HD:Hid (markT R p l m=if (dM p l m).length=0 then ByteArray.empty
 else if (dM p l m).any (fun n=>n % R.width == m.src % R.width)=false then D8 R m.src
 else if (dM p l m).any (fun n=>n / R.width == m.src / R.width)=false then rowT R m.src
 else J3 R m.src):=hid rfl
 have HP:=hid hp
 have HL:=hid hl
 have HK:=hid K
 have E5:=hid hlf
 obtain ⟨hm0,hm1⟩:=hm
 have hm2:m.src<R.width * R.height:=by have:=K.cl; omega
 have sD:=hid hm2
 obtain ⟨ac,cc,rfl,hc1,hc2⟩:=hp.form
 obtain ⟨al,cl,rfl,hl1,hl2⟩:=hl.form
 unfold maxLen at hc2 hl2
 obtain ⟨hw1,hw2⟩:=K.r.w
 clear hp hl K hlf hm2
 go_enter Tryz.func189,Tryz.ntmps189
 go_upto_region 2 with (fail)
 have B0:Box ((((w.alloc (.cells #[.string R.name,.int .i64 R.width,.int .i64 R.height,vp,vs,.bool R.falls,.bool R.keeps,ve,.int .i64 R.blocked,.int .i64 R.quiet,.int .i64 R.bC] 61)).alloc (.cells #[.slice ac p.cells.length cc,v0,v1,.int .i64 p.turn,.int .i64 p.quiet] 158)).alloc (.cells #[.int .i64 m.src,.int .i64 m.dst,.int .i64 m.piece] 68)).alloc (.cells #[.slice none 0 0] 22)) (w.heap.size) [.string R.name,.int .i64 R.width,.int .i64 R.height,vp,vs,.bool R.falls,.bool R.keeps,ve,.int .i64 R.blocked,.int .i64 R.quiet,.int .i64 R.bC] 61:=((((Box.new' w (w.heap.size) [.string R.name,.int .i64 R.width,.int .i64 R.height,vp,vs,.bool R.falls,.bool R.keeps,ve,.int .i64 R.blocked,.int .i64 R.quiet,.int .i64 R.bC] 61 (by simp <;> omega)).alloc _).alloc _).alloc _)
 have B1:Box ((((w.alloc (.cells #[.string R.name,.int .i64 R.width,.int .i64 R.height,vp,vs,.bool R.falls,.bool R.keeps,ve,.int .i64 R.blocked,.int .i64 R.quiet,.int .i64 R.bC] 61)).alloc (.cells #[.slice ac p.cells.length cc,v0,v1,.int .i64 p.turn,.int .i64 p.quiet] 158)).alloc (.cells #[.int .i64 m.src,.int .i64 m.dst,.int .i64 m.piece] 68)).alloc (.cells #[.slice none 0 0] 22)) (w.heap.size+1) [.slice ac p.cells.length cc,v0,v1,.int .i64 p.turn,.int .i64 p.quiet] 158:=(((Box.new' (w.alloc (.cells #[.string R.name,.int .i64 R.width,.int .i64 R.height,vp,vs,.bool R.falls,.bool R.keeps,ve,.int .i64 R.blocked,.int .i64 R.quiet,.int .i64 R.bC] 61)) (w.heap.size+1) [.slice ac p.cells.length cc,v0,v1,.int .i64 p.turn,.int .i64 p.quiet] 158 (by simp <;> omega)).alloc _).alloc _)
 have B2:Box ((((w.alloc (.cells #[.string R.name,.int .i64 R.width,.int .i64 R.height,vp,vs,.bool R.falls,.bool R.keeps,ve,.int .i64 R.blocked,.int .i64 R.quiet,.int .i64 R.bC] 61)).alloc (.cells #[.slice ac p.cells.length cc,v0,v1,.int .i64 p.turn,.int .i64 p.quiet] 158)).alloc (.cells #[.int .i64 m.src,.int .i64 m.dst,.int .i64 m.piece] 68)).alloc (.cells #[.slice none 0 0] 22)) (w.heap.size+1+1) [.int .i64 m.src,.int .i64 m.dst,.int .i64 m.piece] 68:=((Box.new' ((w.alloc (.cells #[.string R.name,.int .i64 R.width,.int .i64 R.height,vp,vs,.bool R.falls,.bool R.keeps,ve,.int .i64 R.blocked,.int .i64 R.quiet,.int .i64 R.bC] 61)).alloc (.cells #[.slice ac p.cells.length cc,v0,v1,.int .i64 p.turn,.int .i64 p.quiet] 158)) (w.heap.size+1+1) [.int .i64 m.src,.int .i64 m.dst,.int .i64 m.piece] 68 (by simp <;> omega)).alloc _)
 have B3:Box ((((w.alloc (.cells #[.string R.name,.int .i64 R.width,.int .i64 R.height,vp,vs,.bool R.falls,.bool R.keeps,ve,.int .i64 R.blocked,.int .i64 R.quiet,.int .i64 R.bC] 61)).alloc (.cells #[.slice ac p.cells.length cc,v0,v1,.int .i64 p.turn,.int .i64 p.quiet] 158)).alloc (.cells #[.int .i64 m.src,.int .i64 m.dst,.int .i64 m.piece] 68)).alloc (.cells #[.slice none 0 0] 22)) (w.heap.size+1+1+1) [.slice none 0 0] 22:=(Box.new' (((w.alloc (.cells #[.string R.name,.int .i64 R.width,.int .i64 R.height,vp,vs,.bool R.falls,.bool R.keeps,ve,.int .i64 R.blocked,.int .i64 R.quiet,.int .i64 R.bC] 61)).alloc (.cells #[.slice ac p.cells.length cc,v0,v1,.int .i64 p.turn,.int .i64 p.quiet] 158)).alloc (.cells #[.int .i64 m.src,.int .i64 m.dst,.int .i64 m.piece] 68)) (w.heap.size+1+1+1) [.slice none 0 0] 22 (by simp <;> omega))
 have HB:Hid (Below w.heap.size w ((((w.alloc (.cells #[.string R.name,.int .i64 R.width,.int .i64 R.height,vp,vs,.bool R.falls,.bool R.keeps,ve,.int .i64 R.blocked,.int .i64 R.quiet,.int .i64 R.bC] 61)).alloc (.cells #[.slice ac p.cells.length cc,v0,v1,.int .i64 p.turn,.int .i64 p.quiet] 158)).alloc (.cells #[.int .i64 m.src,.int .i64 m.dst,.int .i64 m.piece] 68)).alloc (.cells #[.slice none 0 0] 22))):=hid (((((Below.refl w.heap.size w).alloc (Nat.le_refl _) _).alloc (by simp <;> omega) _).alloc (by simp <;> omega) _).alloc (by simp <;> omega) _)
 have hz0:w.heap.size+1+1+1<((((w.alloc (.cells #[.string R.name,.int .i64 R.width,.int .i64 R.height,vp,vs,.bool R.falls,.bool R.keeps,ve,.int .i64 R.blocked,.int .i64 R.quiet,.int .i64 R.bC] 61)).alloc (.cells #[.slice ac p.cells.length cc,v0,v1,.int .i64 p.turn,.int .i64 p.quiet] 158)).alloc (.cells #[.int .i64 m.src,.int .i64 m.dst,.int .i64 m.piece] 68)).alloc (.cells #[.slice none 0 0] 22)).heap.size:=by simp
 generalize ((((w.alloc (.cells #[.string R.name,.int .i64 R.width,.int .i64 R.height,vp,vs,.bool R.falls,.bool R.keeps,ve,.int .i64 R.blocked,.int .i64 R.quiet,.int .i64 R.bC] 61)).alloc (.cells #[.slice ac p.cells.length cc,v0,v1,.int .i64 p.turn,.int .i64 p.quiet] 158)).alloc (.cells #[.int .i64 m.src,.int .i64 m.dst,.int .i64 m.piece] 68)).alloc (.cells #[.slice none 0 0] 22))=w0 at *
 have HX:=hid B0
 have HY:=hid B1
 have HZ:=hid B2
 have HV:=hid B3
 clear B0 B1 B2 B3
 have hz0':w.heap.size+3<w0.heap.size:=by omega
 go_wp2_with fail
 go_loopw [15,11] (fun vi a11 wr=>∃ (k:Nat) (vo:Value),k≤l.length∧vi=.int .i64 k∧Hid (Box wr (w.heap.size+3) [vo] 22)∧Hid (wr.ownsRow (w.heap.size+3+1) 3 1 vo (dM p (l.take k) m).length (ints (dM p (l.take k) m)))∧Hid (Below (w.heap.size+3) w0 wr)) (fun i _ _=>l.length - (intOf i).toNat)
 case atStart=>exact ⟨0,.slice none 0 0,Nat.zero_le _,rfl,HV,hid (World.ownsRow_nil _ _ _ _),hid (Below.refl _ _)⟩
 case round =>
  obtain ⟨k,vo,hk,rfl,HVr,HO,bn⟩:=hrel
  have hsz:=bn.out.size
  have zB:=hid (HX.out.below bn.out (by omega))
  have HYr:=hid (HY.out.below bn.out (by omega))
  have HZr:=hid (HZ.out.below bn.out (by omega))
  have YL:Hid (Below w.heap.size w wr):=hid (HB.out.trans (bn.out.mono (by omega)))
  by_cases hlt:k<l.length
  ·have hrl:(dM p (l.take k) m).length≤k:=by
    have:=Si p (l.take k) m
    rw [List.length_take] at this; omega
   obtain ⟨gl,ol,rfl,hgl,hcc⟩:=wK (HL.out.below YL.out (Nat.le_refl _)) (by omega)
   obtain ⟨c0,c1,c2⟩:=hcc k hlt
   have hxs:(l.getD k default).src<p.cells.length:=E5.out _ (by rw [List.getD_eq_getElem?_getD,List.getElem?_eq_getElem hlt]; exact List.getElem_mem _)
   have HST:=hid (YJ p l m k hlt)
   clear hcc
   generalize l.getD k default=x at *
   go_upto_region 5 with (fail)
   have eF:=hid (Box.new wr [.int .i64 x.src,.int .i64 x.dst,.int .i64 x.piece] 68)
   have hal:=((Below.refl wr.heap.size wr).alloc (Nat.le_refl _) (.cells #[.int .i64 x.src,.int .i64 x.dst,.int .i64 x.piece] 68))
   have HXx:=hid (zB.out.stays hal)
   have HYx:=hid (HYr.out.stays hal)
   have HZx:=hid (HZr.out.stays hal)
   have Wh:=hid (HVr.out.stays hal)
   have HOx:=hid (aS HO.out hal)
   have dL:=hid (ak bn.out hal (by omega))
   have hzm:wr.heap.size<(wr.alloc (.cells #[.int .i64 x.src,.int .i64 x.dst,.int .i64 x.piece] 68)).heap.size:=by simp
   clear c0 c1 c2 hal zB HYr HZr HVr HO bn YL
   generalize (wr.alloc (.cells #[.int .i64 x.src,.int .i64 x.dst,.int .i64 x.piece] 68))=wx at *
   have anV:Hid (Below w.heap.size w wx):=hid (HB.out.trans (dL.out.mono (by omega)))
   have d0:=eF.out.cell 0 rfl
   have d1:=eF.out.cell 1 rfl
   have z0:=HZx.out.cell 0 rfl
   have z1:=HZx.out.cell 1 rfl
   have p0:=HYx.out.cell 0 rfl
   have rb0:=Wh.out.cell 0 rfl
   have rf0:=Wh.out.frozen 0
   have hrs:w.heap.size+3+1≤wx.heap.size:=by have:=Wh.out.lt; omega
   by_cases h0:0≤x.src
   rotate_left
   ·have HR:Hid (dM p (l.take (k+1)) m=dM p (l.take k) m):=hid (by rw [HST.out,if_neg (by unfold MI; simp [h0])]; simp)
    have hg:decide (0≤x.src)=false:=by simpa using h0
    clear HST
    go_quiet (fail)
    go_wp2_with fail
    go_roundw
    case rel=>exact ⟨k+1,vo,by omega,by go_num,Wh,by rw [HR.out]; exact HOx,hid (below_drewN dL.out _)⟩
    case measure=>simp [intOf]; omega
   have hg:decide (0≤x.src)=true:=by simpa using h0
   by_cases h1:x.src=m.src
   ·have HR:Hid (dM p (l.take (k+1)) m=dM p (l.take k) m):=hid (by rw [HST.out,if_neg (by unfold MI; simp [h1])]; simp)
    have hgb:(x.src != m.src)=false:=by simpa using h1
    clear HST h1
    go_quiet (fail)
    go_wp2_with fail
    go_roundw
    case rel=>exact ⟨k+1,vo,by omega,by go_num,Wh,by rw [HR.out]; exact HOx,hid (below_drewN dL.out _)⟩
    case measure=>simp [intOf]; omega
   have hgb:(x.src != m.src)=true:=by simpa using h1
   by_cases h2:x.dst=m.dst
   rotate_left
   ·have HR:Hid (dM p (l.take (k+1)) m=dM p (l.take k) m):=hid (by rw [HST.out,if_neg (by unfold MI; simp [h2])]; simp)
    have hgc:(x.dst == m.dst)=false:=by simpa using h2
    clear HST h1 h2
    go_quiet (fail)
    go_wp2_with fail
    go_roundw
    case rel=>exact ⟨k+1,vo,by omega,by go_num,Wh,by rw [HR.out]; exact HOx,hid (below_drewN dL.out _)⟩
    case measure=>simp [intOf]; omega
   have hgc:(x.dst == m.dst)=true:=by simpa using h2
   obtain ⟨gc,oc,rfl,hcc⟩:=eP (HP.out.below anV.out (Nat.le_refl _)) (by omega)
   have e0:=hcc x.src.toNat (by omega)
   have e1:=hcc m.src.toNat (by omega)
   have HRB:Hid (MI p m x=(p.cells.getD x.src.toNat 0 == p.cells.getD m.src.toNat 0)):=hid (by unfold MI; simp [h0,h1,h2])
   clear hcc h1 h2
   generalize p.cells.getD x.src.toNat 0=cx at *
   generalize p.cells.getD m.src.toNat 0=cm at *
   by_cases h3:cx=cm
   rotate_left
   ·have HR:Hid (dM p (l.take (k+1)) m=dM p (l.take k) m):=hid (by rw [HST.out,if_neg (by rw [HRB.out]; simp [h3])]; simp)
    have hgd:(cx == cm)=false:=by simpa using h3
    clear HST h3 HRB
    go_quiet (fail)
    go_wp2_with fail
    go_roundw
    case rel=>exact ⟨k+1,vo,by omega,by go_num,Wh,by rw [HR.out]; exact HOx,hid (below_drewN dL.out _)⟩
    case measure=>simp [intOf]; omega
   have HR:Hid (dM p (l.take (k+1)) m=dM p (l.take k) m++[x.src]):=hid (by rw [HST.out,if_pos (by rw [HRB.out]; simp [h3])])
   have hgd:(cx == cm)=true:=by simpa using h3
   clear HST h3 HRB
   go_quiet (fail)
   obtain ⟨E,hE⟩:∃ E,dM p (l.take k) m=E:=⟨_,rfl⟩
   rw [hE] at HOx HR hrl
   clear hE
   go_wp2_with (at_builtin; refine fV 22 3 (.int .i64 0) 1 8 UH Tryz.underlying22 rfl (by decide) (by rfl) _ _ (by rfl) (w.heap.size+3+1) _ E.length (ints E) [.int .i64 x.src] _ HOx.out hrs rfl gQ (by omega) (by omega) (by rfl) (by rfl) ?_)
   intro g5 cap5 w5 hown5 hk5 hg5
   have hb5:=hk5.below (Below.refl (w.heap.size+3+1) _) (Nat.le_refl _)
   have HV5:Hid (Box w5 (w.heap.size+3) [vo] 22):=hid (Box.below (Wh.out.drewN _) hb5 (by omega))
   have hs5:wx.heap.size≤w5.heap.size:=hb5.size
   have r5:=HV5.out.cell 0 rfl
   have rf5:=HV5.out.frozen 0
   have O8:=hid hown5
   have EY:=hid ((below_drewN dL.out _).trans (hb5.mono (by omega)))
   clear hown5 hk5 hg5 hb5 rb0 rf0 d0 d1 z0 z1 p0 e0 e1
   go_wp2_with fail
   have HV6:=hid (HV5.out.set 0 (.slice (some ⟨g5,0,none⟩) (E.length+1) cap5))
   have VZ:Hid ((w5.setCell ⟨w.heap.size+3,0,none⟩ (.slice (some ⟨g5,0,none⟩) (E.length+1) cap5)).ownsRow (w.heap.size+3+1) 3 1 (.slice (some ⟨g5,0,none⟩) (E.length+1) cap5) (dM p (l.take (k+1)) m).length (ints (dM p (l.take (k+1)) m))):=hid (by
    rw [HR.out,List.length_append,← iH]
    exact ownsRow_setCell_below O8.out (by simp) _)
   have Oo:=hid (EY.out.setCell (Nat.le_refl _) (p:=⟨w.heap.size+3,0,none⟩) (.slice (some ⟨g5,0,none⟩) (E.length+1) cap5))
   go_roundw
   case rel=>exact ⟨k+1,_,by omega,by go_num,HV6,VZ,Oo⟩
   case measure=>simp [intOf]; omega
  ·obtain rfl:k=l.length:=by omega
   have Qi:Hid (wr.ownsRow (w.heap.size+3+1) 3 1 vo (dM p l m).length (ints (dM p l m))):=hid (by have:=HO.out; rwa [List.take_of_length_le (Nat.le_refl _)] at this)
   have HRP:=hid (ach p l m E5.out)
   have HI:=hid (fQ.dB Qi.out)
   obtain ⟨av,cv,rfl⟩:=aG Qi.out
   have hrl:=Si p l m
   have rb0:=HVr.out.cell 0 rfl
   have x0:=HZr.out.cell 0 rfl
   have vF:=hid (Sj 222 #[.pointer (some ⟨w.heap.size,0,none⟩),.pointer (some ⟨w.heap.size+2,0,none⟩)] (fun n=>n % R.width == m.src % R.width) _ _ (w.heap.size+3) wr HVr.out HI.out aci (fun W z hz hW=>acn R vp vs ve m z _ _ W (zB.out.stays hW) (HZr.out.stays hW) hw1 (HRP.out z hz).1 hm0))
   clear HO Qi
   generalize dM p l m=rv at *
   by_cases h0:rv.length=0
   ·have HE:Hid (markT R p l m=ByteArray.empty):=hid (by rw [HD.out,if_pos h0])
    have h0b:((rv.length:Int) == 0)=true:=by simp [h0]
    clear h0 HD
    go_wp2_with fail
    go_ret
    exact ⟨by rw [HE.out]; rfl,YL.out⟩
   have HD1:Hid (markT R p l m=if rv.any (fun n=>n % R.width == m.src % R.width)=false then D8 R m.src
    else if rv.any (fun n=>n / R.width == m.src / R.width)=false then rowT R m.src else J3 R m.src):=hid (by rw [HD.out,if_neg h0])
   have h0b:((rv.length:Int) == 0)=false:=by simp; intro e; exact h0 (by rw [e]; rfl)
   clear h0 HD
   go_wp2_with fail
   refine vF.out.mono ?_
   rintro e w1 ⟨rfl,hb1⟩
   have YM:=hid (ak YL.out hb1 YL.out.size)
   have acr:=hid (zB.out.stays hb1)
   have acs:=hid (HZr.out.stays hb1)
   have afd:=hid (HVr.out.stays hb1)
   have HI1:=hid (HI.out.below hb1 (Nat.le_refl _))
   clear hb1 vF YL zB HZr HVr HI rb0 x0
   have rb0:=afd.out.cell 0 rfl
   have x0:=acs.out.cell 0 rfl
   have vG:=hid (Sj 223 #[.pointer (some ⟨w.heap.size,0,none⟩),.pointer (some ⟨w.heap.size+2,0,none⟩)] (fun n=>n / R.width == m.src / R.width) _ _ (w.heap.size+3) w1 afd.out HI1.out acj (fun W z hz hW=>aco R vp vs ve m z _ _ W (acr.out.stays hW) (acs.out.stays hW) hw1 (HRP.out z hz).1 (by have:=(HRP.out z hz).2; have:=HK.out.len; omega) hm0 (by have:=HK.out.len; omega)))
   rcases h1:rv.any (fun n=>n % R.width == m.src % R.width) with _ | _
   ·have HE:Hid (markT R p l m=D8 R m.src):=hid (by rw [HD1.out,if_pos h1])
    clear h1 HD1
    go_upto_region 12 with (fail)
    refine wp_region_lit ?_
    refine aH (by rfl) 61 (.tmp 4) (by rfl) (w.heap.size) (by rfl) acr.out Tryz.underlying61 (by rfl) (by kernel_rfl) ?_
    go_wp2_with fail
    refine (Eb R vp vs ve m.src _ HK.out.r hm0 sD.out).mono ?_
    rintro e w9 ⟨rfl,vW⟩
    have HB2:=hid (ak YM.out vW YM.out.size)
    clear vW
    go_wp2_with fail
    go_ret
    exact ⟨by rw [HE.out]; rfl,HB2.out⟩
   have HD2:Hid (markT R p l m=if rv.any (fun n=>n / R.width == m.src / R.width)=false then rowT R m.src else J3 R m.src):=hid (by rw [HD1.out,if_neg (by rw [h1]; decide)])
   clear h1 HD1
   go_wp2_with fail
   refine vG.out.mono ?_
   rintro e w2 ⟨rfl,hb2⟩
   have acu:=hid (ak YM.out hb2 YM.out.size)
   have aiG:=hid (acr.out.stays hb2)
   have anY:=hid (acs.out.stays hb2)
   clear hb2 vG YM acr acs afd HI1 rb0 x0
   have x0:=anY.out.cell 0 rfl
   rcases h2:rv.any (fun n=>n / R.width == m.src / R.width) with _ | _
   ·have HE:Hid (markT R p l m=rowT R m.src):=hid (by rw [HD2.out,if_pos h2])
    clear h2 HD2
    go_upto_region 14 with (fail)
    refine wp_region_lit ?_
    refine aH (by rfl) 61 (.tmp 4) (by rfl) (w.heap.size) (by rfl) aiG.out Tryz.underlying61 (by rfl) (by kernel_rfl) ?_
    go_wp2_with fail
    refine (RZ R vp vs ve m.src _ HK.out.r hm0 sD.out).mono ?_
    rintro e w9 ⟨rfl,vW⟩
    have HB2:=hid (ak acu.out vW acu.out.size)
    clear vW
    go_wp2_with fail
    go_ret
    exact ⟨by rw [HE.out]; rfl,HB2.out⟩
   ·have HE:Hid (markT R p l m=J3 R m.src):=hid (by rw [HD2.out,if_neg (by rw [h2]; decide)])
    clear h2 HD2
    go_upto_region 15 with (fail)
    refine wp_region_lit ?_
    refine aH (by rfl) 61 (.tmp 4) (by rfl) (w.heap.size) (by rfl) aiG.out Tryz.underlying61 (by rfl) (by kernel_rfl) ?_
    go_wp2_with fail
    refine (qZ R vp vs ve m.src _ HK.out.r hm0 sD.out).mono ?_
    rintro e w9 ⟨rfl,vW⟩
    have HB2:=hid (ak acu.out vW acu.out.size)
    clear vW
    go_wp2_with fail
    go_ret
    exact ⟨by rw [HE.out]; rfl,HB2.out⟩
theorem Ac (b:ByteArray):b++ByteArray.empty=b:=by simp
theorem UJ {R:aA} {p:bf} (K:qg R p) (l:List aB) (m:aB) (h0:0≤m.src) (h1:m.src<R.width * R.height):(markT R p l m).size≤2:=by
 rw [← qH]
 rcases Qh K.r p l m h0 h1 with ⟨-,e⟩ | ⟨-,e⟩ | ⟨-,e⟩ | e <;> rw [e] <;> simp
structure acv (R:aA) (p:bf) (m:aB):Prop where
 f:Fits R p m
 c:0≤m.src→p.cells.getD m.src.toNat 0≠0
theorem afe (R:aA) (vp vs ve:Value) (p:bf) (vc v0 v1:Value) (m:aB) (v:Value) (l:List aB) (w:World) (hr:iC iF w vp R.pieces) (hp:fQ w vc p.cells) (hl:iC jK w v l) (K:qg R p) (L:GR R) (hlf:∀ x∈l,x.src<p.cells.length) (hll:l.length≤1000000) (F:acv R p m) :
  Calls Tryz.prog 154 #[(.agg #[.string R.name,.int .i64 R.width,.int .i64 R.height,vp,vs,.bool R.falls,.bool R.keeps,ve,.int .i64 R.blocked,.int .i64 R.quiet,.int .i64 R.bC]),(.agg #[vc,v0,v1,.int .i64 p.turn,.int .i64 p.quiet]),v,.agg #[.int .i64 m.src,.int .i64 m.dst,.int .i64 m.piece]] w fun e w'=>e=.returned (.string (GN R p l m))∧Below w.heap.size w w':=by
 have HR:=hid hr
 have VX:=hid hp
 have HL:=hid hl
 have HK:=hid K
 have IV:=hid L
 have E5:=hid hlf
 obtain ⟨hd1,hd2⟩:=F.f.d
 obtain ⟨hk1,hk2⟩:=F.f.k
 obtain ⟨hs9,hs1⟩:=F.f.s
 have HFC:=hid F.c
 have HD2:Hid (m.dst<R.width * R.height):=hid (by have:=K.cl; omega)
 have z1:(J3 R m.dst).size=2:=by rw [← qH,RY K.r hd1 HD2.out]; rfl
 have z2:(tJ R m.piece).size=1:=by rw [← qH,MJ L hk1 hk2]; rfl
 obtain ⟨ac,cc,rfl,hc1,hc2⟩:=hp.form
 obtain ⟨al,cl,rfl,hl1,hl2⟩:=hl.form
 obtain ⟨gc,oc,rfl,-⟩:=eP hp (by omega)
 have HP:=hid VX.out
 unfold maxLen at hc2 hl2
 clear hr hp hl K L hlf F VX
 go_enter Tryz.func154,Tryz.ntmps154
 go_upto_region 1 with (fail)
 refine KE fun w0 B0 B1 B2 fJ hs_=>?_
 have HB:=hid fJ
 have hz0:w.heap.size+1+1<w0.heap.size:=by omega
 clear hs_ fJ
 have HX:=hid B0
 have HY:=hid B1
 have HZ:=hid B2
 clear B0 B1 B2
 have m0:=HZ.out.cell 0 rfl
 by_cases hs0:0≤m.src
 rotate_left
 ·have Wi:Hid (GN R p l m=(tJ R m.piece++⟨#[64]⟩)++J3 R m.dst):=hid (by unfold GN; rw [if_pos (by omega)])
  have z3:(⟨#[64]⟩:ByteArray).size=1:=rfl
  have z4:(tJ R m.piece++⟨#[64]⟩:ByteArray).size=2:=by rw [ByteArray.size_append,z2]; rfl
  go_upto_region 2 with (fail)
  have Bz:=HX.out.drew
  have Pz:=HY.out.drew
  have Mz:=HZ.out.drew
  have Lz:Below w.heap.size w w0.drew:=aK HB.out
  clear HX HY HZ HB m0 hs0 hs9 hz0
  refine wp_region_noPanic ?_
  refine bI (S:=(fun w'=>w'.cell? ⟨w.heap.size,0,none⟩=some (.string R.name)∧w'.cell? ⟨w.heap.size,1,none⟩=some (.int .i64 R.width)∧w'.cell? ⟨w.heap.size,2,none⟩=some (.int .i64 R.height)∧w'.cell? ⟨w.heap.size,3,none⟩=some vp∧w'.cell? ⟨w.heap.size,4,none⟩=some vs∧w'.cell? ⟨w.heap.size,5,none⟩=some (.bool R.falls)∧w'.cell? ⟨w.heap.size,6,none⟩=some (.bool R.keeps)∧w'.cell? ⟨w.heap.size,7,none⟩=some ve∧w'.cell? ⟨w.heap.size,8,none⟩=some (.int .i64 R.blocked)∧w'.cell? ⟨w.heap.size,9,none⟩=some (.int .i64 R.quiet)∧w'.cell? ⟨w.heap.size,10,none⟩=some (.int .i64 R.bC)∧w'.cell? ⟨w.heap.size+1,0,none⟩=some (.slice (some ⟨gc,oc,none⟩) p.cells.length cc)∧w'.cell? ⟨w.heap.size+1,1,none⟩=some v0∧w'.cell? ⟨w.heap.size+1,2,none⟩=some v1∧w'.cell? ⟨w.heap.size+1,3,none⟩=some (.int .i64 p.turn)∧w'.cell? ⟨w.heap.size+1,4,none⟩=some (.int .i64 p.quiet)∧w'.cell? ⟨w.heap.size+2,0,none⟩=some (.int .i64 m.src)∧w'.cell? ⟨w.heap.size+2,1,none⟩=some (.int .i64 m.dst)∧w'.cell? ⟨w.heap.size+2,2,none⟩=some (.int .i64 m.piece))) (L:=[]) (by kernel_rfl) (by and_intros <;> first | exact Bz.cell _ rfl | exact Pz.cell _ rfl | exact Mz.cell _ rfl) (fun hHeld=>?_)
  refine dV 0 ?_
  refine aC 1 ?_
  refine dV 5 ?_
  refine aC 6 ?_
  refine dV 2 ?_
  refine dV 7 ?_
  refine fH 3 fun K hK=>?_
  go_simp
  refine (ru R vp vs ve m.piece _ (HR.out.below Lz (Nat.le_refl _)) HK.out.r IV.out hk1 hk2).mono ?_
  rintro e w3 ⟨rfl,hb3⟩
  have B3:=Bz.stays hb3
  have P3:=Pz.stays hb3
  have M3:=Mz.stays hb3
  have L3:=ak Lz hb3 Lz.size
  clear hb3
  refine hK.out _ _ (by and_intros <;> first | exact B3.cell _ rfl | exact P3.cell _ rfl | exact M3.cell _ rfl) (fun hHeld=>?_)
  clear hK K
  refine aC 4 ?_
  refine fH 8 fun K hK=>?_
  go_simp
  refine (qZ R vp vs ve m.dst _ HK.out.r hd1 HD2.out).mono ?_
  rintro e w8 ⟨rfl,hb8⟩
  have B8:=B3.stays hb8
  have P8:=P3.stays hb8
  have M8:=M3.stays hb8
  have L8:=ak L3 hb8 L3.size
  clear hb8
  refine hK.out _ _ (by and_intros <;> first | exact B8.cell _ rfl | exact P8.cell _ rfl | exact M8.cell _ rfl) (fun hHeld=>?_)
  clear hK K
  refine aC 9 ?_
  refine aC 10 ?_
  refine jC ?_
  have UK:=hid L8
  clear hHeld B3 P3 M3 L3 B8 P8 M8 L8 Bz Pz Mz Lz
  go_wp2_with fail
  go_ret
  exact ⟨by rw [Wi.out]; rfl,UK.out⟩
 have hkc:=HK.out.cell m.src.toNat
 have hkn:=HFC.out hs0
 have HKZ:Hid (tK p m=(p.cells.getD m.src.toNat 0 - 1) / 2):=hid rfl
 have ae1:0≤tK p m:=by rw [HKZ.out]; omega
 have aiH:tK p m<R.pieces.length:=by rw [HKZ.out]; omega
 have auU:tK p m≤100:=by have:=HK.out.r.np; omega
 have Xp:Hid (Qe p m=if p.cells.getD m.dst.toNat 0≠0 then ⟨#[120]⟩ else ByteArray.empty):=hid rfl
 have HPR:Hid (YI R p m=if m.piece≠tK p m then ⟨#[61]⟩++tJ R m.piece else ByteArray.empty):=hid rfl
 have Wi:Hid (GN R p l m=(((tJ R (tK p m)++markT R p l m)++Qe p m)++J3 R m.dst)++YI R p m):=hid (by unfold GN; rw [if_neg (by omega)])
 have z3:(tJ R (tK p m)).size=1:=by rw [← qH,MJ IV.out ae1 aiH]; rfl
 have z4:(markT R p l m).size≤2:=UJ HK.out l m hs0 (by have:=HK.out.cl; omega)
 obtain ⟨c1,c2,e3,hcc⟩:=eP (HP.out.below HB.out (Nat.le_refl _)) (by omega)
 obtain ⟨rfl,rfl⟩:gc=c1∧oc=c2:=by simpa using e3
 have cs:=hcc m.src.toNat (by omega)
 have p0:=HY.out.cell 0 rfl
 have hkd:Int.tdiv (p.cells.getD m.src.toNat 0 - 1) 2=tK p m:=by rw [HKZ.out]; exact Int.tdiv_eq_ediv_of_nonneg (by omega)
 have hkw:IntKind.i64.wrap (p.cells.getD m.src.toNat 0 - 1)=p.cells.getD m.src.toNat 0 - 1:=IntWalk.i64_in _ (by have:=HK.out.r.np; omega)
 clear hcc e3
 generalize p.cells.getD m.src.toNat 0=cz at *
 generalize tK p m=KZ at *
 have hnl:(decide (m.src<0))=false:=by simp; omega
 go_upto_region 4 with (fail)
 have Bz:=HX.out.drew
 have Pz:=HY.out.drew
 have Mz:=HZ.out.drew
 have Lz:Below w.heap.size w w0.drew:=aK HB.out
 clear HX HY HZ HB m0 hs9 hz0 hkc hkn cs p0 hkd hkw hnl
 refine wp_region_noPanic ?_
 refine bI (S:=(fun w'=>w'.cell? ⟨w.heap.size,0,none⟩=some (.string R.name)∧w'.cell? ⟨w.heap.size,1,none⟩=some (.int .i64 R.width)∧w'.cell? ⟨w.heap.size,2,none⟩=some (.int .i64 R.height)∧w'.cell? ⟨w.heap.size,3,none⟩=some vp∧w'.cell? ⟨w.heap.size,4,none⟩=some vs∧w'.cell? ⟨w.heap.size,5,none⟩=some (.bool R.falls)∧w'.cell? ⟨w.heap.size,6,none⟩=some (.bool R.keeps)∧w'.cell? ⟨w.heap.size,7,none⟩=some ve∧w'.cell? ⟨w.heap.size,8,none⟩=some (.int .i64 R.blocked)∧w'.cell? ⟨w.heap.size,9,none⟩=some (.int .i64 R.quiet)∧w'.cell? ⟨w.heap.size,10,none⟩=some (.int .i64 R.bC)∧w'.cell? ⟨w.heap.size+1,0,none⟩=some (.slice (some ⟨gc,oc,none⟩) p.cells.length cc)∧w'.cell? ⟨w.heap.size+1,1,none⟩=some v0∧w'.cell? ⟨w.heap.size+1,2,none⟩=some v1∧w'.cell? ⟨w.heap.size+1,3,none⟩=some (.int .i64 p.turn)∧w'.cell? ⟨w.heap.size+1,4,none⟩=some (.int .i64 p.quiet)∧w'.cell? ⟨w.heap.size+2,0,none⟩=some (.int .i64 m.src)∧w'.cell? ⟨w.heap.size+2,1,none⟩=some (.int .i64 m.dst)∧w'.cell? ⟨w.heap.size+2,2,none⟩=some (.int .i64 m.piece))) (L:=[]) (by kernel_rfl) (by and_intros <;> first | exact Bz.cell _ rfl | exact Pz.cell _ rfl | exact Mz.cell _ rfl) (fun hHeld=>?_)
 refine dV 0 ?_
 refine aC 1 ?_
 refine dV 3 ?_
 refine dV 4 ?_
 refine aC 5 ?_
 refine dV 6 ?_
 refine fH 2 fun K hK=>?_
 go_simp
 refine (ru R vp vs ve KZ _ (HR.out.below Lz (Nat.le_refl _)) HK.out.r IV.out ae1 aiH).mono ?_
 rintro e w2 ⟨rfl,hb2⟩
 have B2:=Bz.stays hb2
 have P2:=Pz.stays hb2
 have M2:=Mz.stays hb2
 have L2:=ak Lz hb2 Lz.size
 clear hb2
 refine hK.out _ _ (by and_intros <;> first | exact B2.cell _ rfl | exact P2.cell _ rfl | exact M2.cell _ rfl) (fun hHeld=>?_)
 clear hK K
 refine fH 7 fun K hK=>?_
 go_simp
 refine (YK R vp vs ve p _ v0 v1 m _ l _ (HP.out.below L2 (Nat.le_refl _)) (HL.out.below L2 (Nat.le_refl _)) HK.out E5.out hll ⟨hs0,hs1⟩).mono ?_
 rintro e w7 ⟨rfl,hb7⟩
 have B7:=B2.stays hb7
 have P7:=P2.stays hb7
 have M7:=M2.stays hb7
 have L7:=ak L2 hb7 L2.size
 clear hb7
 refine hK.out _ _ (by and_intros <;> first | exact B7.cell _ rfl | exact P7.cell _ rfl | exact M7.cell _ rfl) (fun hHeld=>?_)
 clear hK K
 refine aC 8 ?_
 refine aC 9 ?_
 refine jC ?_
 have UK:=hid L7
 have V9:=hid B7
 have HPe:=hid P7
 have HMe:=hid M7
 clear hHeld B2 P2 M2 L2 B7 P7 M7 L7 Bz Pz Mz Lz
 generalize tJ R KZ=A at *
 generalize markT R p l m=M at *
 obtain ⟨c1,c2,e3,hcc⟩:=eP (HP.out.below UK.out (Nat.le_refl _)) (by omega)
 obtain ⟨rfl,rfl⟩:gc=c1∧oc=c2:=by simpa using e3
 have cd:=hcc m.dst.toNat (by omega)
 have p0:=HPe.out.cell 0 rfl
 have m1:=HMe.out.cell 1 rfl
 have m2:=HMe.out.cell 2 rfl
 clear hcc e3
 generalize p.cells.getD m.dst.toNat 0=dd at *
 by_cases hdd:dd=0
 ·have hdb:(dd != 0)=false:=by simpa using hdd
  have HT0:Hid (Qe p m=ByteArray.empty):=hid (by rw [Xp.out,if_neg (by simp [hdd])])
  clear hdd Xp
  obtain ⟨X,hX⟩:∃ X,X=A++M:=⟨_,rfl⟩
  have HXe:Hid (A++M++Qe p m=X):=hid (by rw [HT0.out,hX]; exact Ac _)
  have hXs:X.size≤100:=by rw [hX,ByteArray.size_append]; omega
  rw [← hX]
  clear hX HT0
  go_wp2_with (refine aH (by rfl) 61 (.tmp 4) (by rfl) (w.heap.size) (by rfl) V9.out Tryz.underlying61 (by rfl) (by kernel_rfl) ?_)
  refine (qZ R vp vs ve m.dst _ HK.out.r hd1 HD2.out).mono ?_
  rintro e wa ⟨rfl,hba⟩
  have Wj:=hid (V9.out.stays hba)
  have HMa:=hid (HMe.out.stays hba)
  have Wn:=hid (ak UK.out hba UK.out.size)
  have Jf:Hid (GN R p l m=X++J3 R m.dst++YI R p m):=hid (by rw [Wi.out,HXe.out])
  clear hba V9 HPe HMe UK p0 m1 m2 cd HXe Wi
  have m2:=HMa.out.cell 2 rfl
  generalize J3 R m.dst=Q at *
  have hY:(X++Q).size≤200:=by rw [ByteArray.size_append]; omega
  by_cases hpk:m.piece=KZ
  ·have hpb:(m.piece != KZ)=false:=by simpa using hpk
   have HE:Hid (GN R p l m=X++Q):=hid (by rw [Jf.out,HPR.out,if_neg (by simpa using hpk)]; exact Ac _)
   clear hpk Jf
   go_wp2_with fail
   go_ret
   exact ⟨by rw [HE.out]; rfl,Wn.out⟩
  ·have hpb:(m.piece != KZ)=true:=by simpa using hpk
   have HE:Hid (GN R p l m=X++Q++(⟨#[61]⟩++tJ R m.piece)):=hid (by rw [Jf.out,HPR.out,if_pos hpk])
   clear hpk Jf
   go_wp2_with (refine aH (by rfl) 61 (.tmp 4) (by rfl) (w.heap.size) (by rfl) Wj.out Tryz.underlying61 (by rfl) (by kernel_rfl) ?_)
   refine (ru R vp vs ve m.piece _ (HR.out.below Wn.out (Nat.le_refl _)) HK.out.r IV.out hk1 hk2).mono ?_
   rintro e wb ⟨rfl,hbb⟩
   have HLb:=hid (ak Wn.out hbb Wn.out.size)
   clear hbb Wj HMa Wn m2
   generalize tJ R m.piece=G at *
   have hG:(⟨#[61]⟩++G:ByteArray).size≤20:=by rw [ByteArray.size_append]; have:(⟨#[61]⟩:ByteArray).size=1:=rfl; omega
   have hG1:(⟨#[61]⟩:ByteArray).size=1:=rfl
   go_wp2_with fail
   go_ret
   exact ⟨by rw [HE.out]; rfl,HLb.out⟩
 ·have hdb:(dd != 0)=true:=by simpa using hdd
  have HT0:Hid (Qe p m=⟨#[120]⟩):=hid (by rw [Xp.out,if_pos (by simpa using hdd)])
  have hAM:(A++M).size≤50:=by rw [ByteArray.size_append]; omega
  have hx1:(⟨#[120]⟩:ByteArray).size=1:=rfl
  clear hdd Xp
  obtain ⟨X,hX⟩:∃ X,X=A++M++⟨#[120]⟩:=⟨_,rfl⟩
  have HXe:Hid (A++M++Qe p m=X):=hid (by rw [HT0.out,hX])
  have hXs:X.size≤100:=by rw [hX,ByteArray.size_append]; omega
  clear HT0
  go_upto_region 7 with (fail)
  rw [← hX]
  clear hX hAM
  go_wp2_with (refine aH (by rfl) 61 (.tmp 4) (by rfl) (w.heap.size) (by rfl) V9.out Tryz.underlying61 (by rfl) (by kernel_rfl) ?_)
  refine (qZ R vp vs ve m.dst _ HK.out.r hd1 HD2.out).mono ?_
  rintro e wa ⟨rfl,hba⟩
  have Wj:=hid (V9.out.stays hba)
  have HMa:=hid (HMe.out.stays hba)
  have Wn:=hid (ak UK.out hba UK.out.size)
  have Jf:Hid (GN R p l m=X++J3 R m.dst++YI R p m):=hid (by rw [Wi.out,HXe.out])
  clear hba V9 HPe HMe UK p0 m1 m2 cd HXe Wi
  have m2:=HMa.out.cell 2 rfl
  generalize J3 R m.dst=Q at *
  have hY:(X++Q).size≤200:=by rw [ByteArray.size_append]; omega
  by_cases hpk:m.piece=KZ
  ·have hpb:(m.piece != KZ)=false:=by simpa using hpk
   have HE:Hid (GN R p l m=X++Q):=hid (by rw [Jf.out,HPR.out,if_neg (by simpa using hpk)]; exact Ac _)
   clear hpk Jf
   go_wp2_with fail
   go_ret
   exact ⟨by rw [HE.out]; rfl,Wn.out⟩
  ·have hpb:(m.piece != KZ)=true:=by simpa using hpk
   have HE:Hid (GN R p l m=X++Q++(⟨#[61]⟩++tJ R m.piece)):=hid (by rw [Jf.out,HPR.out,if_pos hpk])
   clear hpk Jf
   go_wp2_with (refine aH (by rfl) 61 (.tmp 4) (by rfl) (w.heap.size) (by rfl) Wj.out Tryz.underlying61 (by rfl) (by kernel_rfl) ?_)
   refine (ru R vp vs ve m.piece _ (HR.out.below Wn.out (Nat.le_refl _)) HK.out.r IV.out hk1 hk2).mono ?_
   rintro e wb ⟨rfl,hbb⟩
   have HLb:=hid (ak Wn.out hbb Wn.out.size)
   clear hbb Wj HMa Wn m2
   generalize tJ R m.piece=G at *
   have hG:(⟨#[61]⟩++G:ByteArray).size≤20:=by rw [ByteArray.size_append]; have:(⟨#[61]⟩:ByteArray).size=1:=rfl; omega
   have hG1:(⟨#[61]⟩:ByteArray).size=1:=rfl
   go_wp2_with fail
   go_ret
   exact ⟨by rw [HE.out]; rfl,HLb.out⟩
end Go.Proofs.YteablcielclaeaaGreatDoor
namespace Go.Proofs.YteablcielclaeaaGreatDoor
open Go.ChangeShapes Go.WideShapes Go.ChangeAt Go.RowKit
set_option linter.unusedVariables false
theorem Fr.app {S:Nat→Prop} {w w':World} {o:Obj} {vo:Value} (hg:(w.alloc o).grownBy w' vo.ownBlock) (hS:∀ k,vo.ownBlock=some k→S k):Fr S w w':=((Fr.refl _ w).alloc o).grown hg (fun k hk _=>hS k hk)
theorem Box.app {w w':World} {b base:Nat} {cs:List Value} {t e:TypeId} {sz n:Nat} {vo:Value} {xs:List Value} {o:Obj} (h:Box w b cs t) (ho:w.ownsRow base e sz vo n xs) (hg:(w.alloc o).grownBy w' vo.ownBlock) (hb:b<base):Box w' b cs t:=
 (h.alloc o).grown hg (fun e=>by have:=(ho.lt b e.symm).1; omega)
theorem Below.app {w w0 w':World} {B base:Nat} {e:TypeId} {sz n:Nat} {vo:Value} {xs:List Value} {o:Obj} (h:Below B w0 w) (ho:w.ownsRow base e sz vo n xs) (hg:(w.alloc o).grownBy w' vo.ownBlock) (hb:B≤base) (hB:B≤w.heap.size):Below B w0 w':=
 Below.grown (h.alloc hB o) hg (by simp; omega) (fun k hk=>by have:=(ho.lt k hk).1; omega)
theorem yP:∀ l:List aB,(cZ l).length≤l.length
 | []=>by simp [cZ]
 | [x]=>by simp [cZ]
 | x :: y :: t=>by
  have ih:=yP (y :: t)
  by_cases h:x=y
  ·simp only [cZ,if_pos h,List.length_cons] at ih ⊢
   omega
  ·simp only [cZ,if_neg h,List.length_cons] at ih ⊢
   omega
theorem GU {R:aA} {p:bf} (K:qg R p):(dZ R p).length≤10000:=by
 have h1:=yP (ql (pO R p))
 have h2:(ql (pO R p)).length=(pO R p).length:=List.length_mergeSort _
 have h3:(oP R p).length≤(List.range p.cells.length).length * 6:=qj _ 6 _ (fun s _=>by
  unfold je
  split
  ·simp
  ·refine Nat.le_trans (List.length_filterMap_le _ _) ?_
   have:=sN K
   have:=K.r.np
   simp; omega)
 have h4:((List.range p.cells.length).flatMap (iU R p)).length≤(List.range p.cells.length).length * 112:=qj _ 112 _ (fun s _=>AL K.r p s)
 have h5:=K.len
 unfold dZ
 have h6:(pO R p).length=(oP R p).length+((List.range p.cells.length).flatMap (iU R p)).length:=by unfold pO; rw [List.length_append]
 simp only [List.length_range] at h3 h4
 omega
theorem acw {R:aA} {p:bf} {m:aB} (K:qg R p) (h:m∈dZ R p):acv R p m:=⟨xZ K h,fun h0=>by
 rcases UG h with e | ⟨-,-,e,-⟩
 ·omega
 ·exact e⟩
abbrev tN:=List UInt8
def bs (l:tN):ByteArray:=⟨l.toArray⟩
def an2 (c:UInt8):Bool:=c == 32 || c == 10
def blank (l:tN):tN:=l.dropWhile an2
def got (c:UInt8) (l:tN):Bool×tN:=
 match blank l with
 | []=>(false,[])
 | x :: t=>if x=c then (true,t) else (false,x :: t)
def aiJ:List tN:=[[42],[49,45,48],[48,45,49],[49,47,50]]
def qI:List tN→tN
 | []=>[]
 | [x]=>x
 | x :: y :: l=>x++32 :: qI (y :: l)
def Ec (R:aA) (p:bf) (m:aB) (c:ByteArray):List tN:=(GN R p (dZ R p) m).data.toList :: (if c.size=0 then [] else [123 :: (c.data.toList++[125])])
end Go.Proofs.YteablcielclaeaaGreatDoor

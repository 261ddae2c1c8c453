/- PmG1: Prem1, Prem2, PremF, Prem3, PremC, Prem4, in one text. -/
import Derived.Test.YtmabaojkignodaaGreatDoorE15
namespace Go.Proofs.YtmabaojkignodaaGreatDoor
open Go.ChangeShapes Go.WideShapes Go.ChangeAt Go.RowKit
set_option linter.unusedVariables false
set_option maxHeartbeats 2000000
set_option maxRecDepth 100000
open Go.Lib (hid)
structure bT where
 au:Int
 move:aN
deriving Inhabited,DecidableEq
def dF:El bT where
 k:=4
 E:=fun _ x cs=>cs=[.int .i64 x.au,.int .i64 x.move.src,.int .i64 x.move.dst,.int .i64 x.move.piece]
 mono:=fun h _ _=>h
 len:=fun h=>by subst h; rfl
theorem Ap {w:World} {a:Option Addr} {n c:Nat} {xs:List bT} (h:gI dF w (.slice a n c) xs) (hn:0<xs.length):∃ g o,a=some ⟨g,o,none⟩∧g<w.heap.size ∧
  ∀ i,i<xs.length→w.cell? ⟨g,o+i * 4,none⟩=some (.int .i64 (xs.getD i default).au)∧w.cell? ⟨g,o+i * 4+1,none⟩=some (.int .i64 (xs.getD i default).move.src) ∧
   w.cell? ⟨g,o+i * 4+2,none⟩=some (.int .i64 (xs.getD i default).move.dst)∧w.cell? ⟨g,o+i * 4+3,none⟩=some (.int .i64 (xs.getD i default).move.piece):=by
 obtain ⟨g,o,ha,hg,hc⟩:=h.some hn
 refine ⟨g,o,ha,hg,fun i hi=>?_⟩
 obtain ⟨cs,he,hx⟩:=hc i hi
 simp only [dF] at he hx
 subst he
 rw [List.getD_eq_getElem?_getD,List.getElem?_eq_getElem hi]
 exact ⟨hx 0 (by omega),hx 1 (by omega),hx 2 (by omega),hx 3 (by omega)⟩
def oz (l:List bT) (pl:Int):List aN:=(l.filter fun x=>x.au == pl).map (·.move)
theorem QA (l:List bT) (pl:Int) (k:Nat) (h:k<l.length):oz (l.take (k+1)) pl=oz (l.take k) pl++if (l.getD k default).au=pl then [(l.getD k default).move] else []:=by
 unfold oz
 rw [List.take_succ_eq_append_getElem h,List.filter_append,List.map_append,List.getD_eq_getElem?_getD,List.getElem?_eq_getElem h]
 congr 1
 by_cases e:l[k].au=pl <;> simp [e]
theorem Vd (l:List bT) (pl:Int):(oz l pl).length≤l.length:=by
 unfold oz
 rw [List.length_map]
 exact List.length_filter_le _ _
theorem Eo (v:Value) (l:List bT) (pl:Int) (w:World) (h:gI dF w v l) (hl:l.length≤1000000) :
  Calls Tryz.prog 195 #[v,.int .i64 pl] w (sD (oz l pl) w):=by
 have HR:=hid h
 obtain ⟨a,c,rfl,h1,h2⟩:=h.form
 unfold maxLen at h2
 clear h
 go_enter Tryz.func195,Tryz.ntmps195
 go_wp2_with fail
 go_loopw [5,10] (fun vo vi wr=>∃ (k:Nat) (out:List aN),k≤l.length∧vi=.int .i64 k∧Hid (out=oz (l.take k) pl)∧Hid (wr.ownsRow w.heap.size 52 3 vo out.length (bJ out))∧Hid (Below w.heap.size w wr)) (fun _ i _=>l.length - (intOf i).toNat)
 case atStart=>exact ⟨0,[],Nat.zero_le _,rfl,hid (by simp [oz]),hid (World.ownsRow_nil _ _ _ _),hid (Below.refl _ _)⟩
 case round =>
  obtain ⟨k,out,hk,rfl,qR,HO,HB⟩:=hrel
  have hsz:=HB.out.size
  have hol:out.length≤1000000:=by rw [qR.out]; have:=Vd (l.take k) pl; rw [List.length_take] at this; omega
  by_cases hlt:k<l.length
  ·obtain ⟨g,o,rfl,hg,hcc⟩:=Ap (HR.out.below HB.out (Nat.le_refl _)) (by omega)
   obtain ⟨c0,c1,c2,c3⟩:=hcc k hlt
   have HS:=hid (QA l pl k hlt)
   clear hcc
   generalize l.getD k default=x at *
   go_upto_region 5 with (fail)
   have hbx:=Box.new' wr wr.heap.size [.int .i64 x.au,.int .i64 x.move.src,.int .i64 x.move.dst,.int .i64 x.move.piece] 139 rfl
   have HOn:=hid (HO.out.alloc (.cells #[.int .i64 x.au,.int .i64 x.move.src,.int .i64 x.move.dst,.int .i64 x.move.piece] 139))
   have fH:=hid (HB.out.alloc hsz (.cells #[.int .i64 x.au,.int .i64 x.move.src,.int .i64 x.move.dst,.int .i64 x.move.piece] 139))
   clear c0 c1 c2 c3 HO HB
   generalize (wr.alloc (.cells #[.int .i64 x.au,.int .i64 x.move.src,.int .i64 x.move.dst,.int .i64 x.move.piece] 139))=wn at *
   have d0:=hbx.cell 0 rfl
   have d1:=hbx.cell 1 rfl
   have d2:=hbx.cell 2 rfl
   have d3:=hbx.cell 3 rfl
   have aa3:=fH.out.size
   have HO:=HOn
   clear hbx
   by_cases hp:x.au=pl
   ·have HS2:Hid (oz (l.take (k+1)) pl=out++[x.move]):=hid (by rw [HS.out,if_pos hp,qR.out])
    have hp':(x.au == pl)=true:=by simpa using hp
    clear hp HS
    go_wp2_with (at_builtin; refine gG 64 52 (.agg #[.int .i64 0,.int .i64 0,.int .i64 0]) 3 24 kZ Tryz.underlying64 rfl (by decide) (by rfl) _ _ (by rfl) (w.heap.size) _ out.length (bJ out) [.int .i64 x.move.src,.int .i64 x.move.dst,.int .i64 x.move.piece] wn HO.out aa3 rfl jg (by omega) (by omega) (by rfl) (by rfl) ?_)
    intro g3 cap3 w3 hown3 dS _
    have xH:=hid hown3
    have HB3:=hid (dS.below fH.out (Nat.le_refl _))
    clear hown3 dS
    go_wp2_with fail
    go_roundw
    case rel=>exact ⟨k+1,out++[x.move],by omega,by go_num,hid HS2.out.symm,hid (by rw [← gU,List.length_append]; exact xH.out),HB3⟩
    case measure=>simp [intOf]; omega
   ·have HS2:Hid (oz (l.take (k+1)) pl=out):=hid (by rw [HS.out,if_neg hp,qR.out,List.append_nil])
    have hp':(x.au == pl)=false:=by simpa using hp
    clear hp HS
    go_wp2_with fail
    go_roundw
    case rel=>exact ⟨k+1,out,by omega,by go_num,hid HS2.out.symm,HO,fH⟩
    case measure=>simp [intOf]; omega
  ·obtain rfl:k=l.length:=by omega
   have HE:Hid (oz l pl=out):=hid (by rw [qR.out,List.take_of_length_le (Nat.le_refl _)])
   go_wp2_with fail
   go_ret
   exact ⟨_,rfl,by rw [HE.out]; exact HO.out,HB.out⟩
theorem qH (v:Value) (xs:List bT) (p:bT→Bool) (f:FuncId) (caps:Array Value) (w:World) (h:gI dF w v xs) (hf:∀ (args:Array Value) (w:World),(callFunc f args).run Tryz.prog w=.ok (.enter f args) w)
  (hc:∀ (W:World) (x:bT) (cs:List Value),x∈xs→dF.E W x cs→Below w.heap.size w W→Calls Tryz.prog f (#[.agg cs.toArray]++caps) W fun e w'=>e=.returned (.bool (p x))∧Below W.heap.size W w') :
  Calls Tryz.prog 226 #[v,.func (.func f) #[] caps] w fun e w'=>e=.returned (.int .i64 (fP p xs 0))∧Below w.heap.size w w':=by
 obtain ⟨a,c,rfl,h1,h2⟩:=h.form
 unfold maxLen at h2
 have HR:=hid h
 have HC:=hid hc
 clear h hc
 go_enter Tryz.func226,Tryz.ntmps226
 go_wp2_with fail
 go_loopw [8] (fun i wr=>∃ k:Nat,k≤xs.length∧i=.int .i64 k∧Hid (fP p xs 0=fP p (xs.drop k) k)∧Below w.heap.size w wr) (fun i _=>xs.length - (intOf i).toNat)
 case atStart=>exact ⟨0,Nat.zero_le _,rfl,hid rfl,Below.refl _ _⟩
 case round =>
  obtain ⟨k,hk,rfl,HK,hbl⟩:=hrel
  by_cases hlt:k<xs.length
  ·obtain ⟨g,o,rfl,hg,hcc⟩:=(HR.out.below hbl (Nat.le_refl _)).some (by omega)
   obtain ⟨cs,hE,hcell⟩:=hcc k hlt
   have hcl:=dF.len hE
   simp only [dF] at hcl
   obtain ⟨c0,c1,c2,c3,rfl⟩:∃ c0 c1 c2 c3,cs=[c0,c1,c2,c3]:=by
    match cs,hcl with
    | [c0,c1,c2,c3],_=>exact ⟨_,_,_,_,rfl⟩
   have q0:=hcell 0 (by decide)
   have q1:=hcell 1 (by decide)
   have q2:=hcell 2 (by decide)
   have q3:=hcell 3 (by decide)
   simp only [dF,List.getElem?_cons_zero,List.getElem?_cons_succ,Nat.add_zero] at q0 q1 q2 q3
   have HS:=hid (oI p xs k hlt)
   have FT:=hid (HC.out wr xs[k] [c0,c1,c2,c3] (List.getElem_mem hlt) hE hbl)
   have HB:=hid hbl
   clear hcell hcc hE hcl hbl
   generalize xs[k]=x at *
   go_wp2_with fail
   refine FT.out.mono ?_
   rintro e w1 ⟨rfl,hb1⟩
   have HB1:=hid (aj HB.out hb1 HB.out.size)
   clear hb1
   cases hpx:p x
   ·go_wp2_with fail
    go_roundw
    case rel=>exact ⟨k+1,by omega,by go_num,hid (by rw [HK.out,HS.out,if_neg (by simp [hpx])]),HB1.out⟩
    case measure=>simp [intOf]; omega
   ·go_wp2_with fail
    go_ret
    exact ⟨by rw [HK.out,HS.out,if_pos hpx]; rfl,HB1.out⟩
  ·obtain rfl:k=xs.length:=by omega
   go_wp2_with fail
   go_ret
   exact ⟨by rw [HK.out]; simp [fP],hbl⟩
theorem yZ (v:Value) (xs:List bT) (p:bT→Bool) (f:FuncId) (caps:Array Value) (w:World) (h:gI dF w v xs) (hf:∀ (args:Array Value) (w:World),(callFunc f args).run Tryz.prog w=.ok (.enter f args) w)
  (hc:∀ (W:World) (x:bT) (cs:List Value),x∈xs→dF.E W x cs→Below w.heap.size w W→Calls Tryz.prog f (#[.agg cs.toArray]++caps) W fun e w'=>e=.returned (.bool (p x))∧Below W.heap.size W w') :
  Calls Tryz.prog 234 #[v,.func (.func f) #[] caps] w fun e w'=>e=.returned (.bool (xs.any p))∧Below w.heap.size w w':=by
 have HI:=hid (qH v xs p f caps w h hf hc)
 have HA:=hid (oH p xs 0 (by omega))
 clear h hc hf
 go_enter Tryz.func234,Tryz.ntmps234
 go_wp2_with fail
 refine HI.out.mono ?_
 rintro e w' ⟨rfl,hb⟩
 go_wp2_with fail
 go_ret
 exact ⟨by rw [← HA.out]; rfl,hb⟩
def fO (l:List bT):Int:=if 4<(oz l 0).length∨4<(oz l 1).length then 2 else if l.any (fun x=>x.au != 0 && x.au != 1)=true then 4 else 0
theorem QB (x:bT) (W:World):Calls Tryz.prog 235 #[.agg #[.int .i64 x.au,.int .i64 x.move.src,.int .i64 x.move.dst,.int .i64 x.move.piece]] W fun e w'=>e=.returned (.bool (x.au != 0 && x.au != 1))∧Below W.heap.size W w':=by
 by_cases h0:x.au=0
 ·have h0':(x.au != 0)=false:=by simpa using h0
  have HE:Hid ((x.au != 0 && x.au != 1)=false):=hid (by rw [h0']; rfl)
  clear h0
  go_enter Tryz.func235,Tryz.ntmps235
  go_wp2
  go_ret
  exact ⟨by rw [HE.out]; rfl,(Below.refl _ _).alloc (Nat.le_refl _) _⟩
 ·have h0':(x.au != 0)=true:=by simpa using h0
  have HE:Hid ((x.au != 0 && x.au != 1)=(x.au != 1)):=hid (by rw [h0']; rfl)
  clear h0
  go_enter Tryz.func235,Tryz.ntmps235
  go_wp2
  go_ret
  exact ⟨by rw [HE.out]; rfl,(Below.refl _ _).alloc (Nat.le_refl _) _⟩
theorem QC (args:Array Value) (w:World):(callFunc 235 args).run Tryz.prog w=.ok (.enter 235 args) w:=by kernel_rfl
theorem tH (v:Value) (l:List bT) (w:World) (h:gI dF w v l) (hl:l.length≤1000000) :
  Calls Tryz.prog 194 #[v] w fun e w'=>e=.returned (.int .i64 (fO l))∧Below w.heap.size w w':=by
 have HR:=hid h
 have HD:Hid (fO l=if 4<(oz l 0).length∨4<(oz l 1).length then 2 else if l.any (fun x=>x.au != 0 && x.au != 1)=true then 4 else 0):=hid rfl
 obtain ⟨a,c,rfl,h1,h2⟩:=h.form
 unfold maxLen at h2
 clear h
 go_enter Tryz.func194,Tryz.ntmps194
 go_wp2_with fail
 refine (Eo _ l 0 w HR.out hl).mono ?_
 rintro e w1 ⟨v1,rfl,ho1,hb1⟩
 obtain ⟨a1,c1,rfl⟩:=aI ho1
 have HB1:=hid hb1
 clear ho1 hb1
 generalize (oz l 0).length=n0 at *
 by_cases g0:4<n0
 ·have g0i:(4:Int)<(n0:Int):=by omega
  have HE:Hid (fO l=2):=hid (by rw [HD.out,if_pos (.inl g0)])
  go_wp2_with fail
  go_ret
  exact ⟨by rw [HE.out]; rfl,HB1.out⟩
 have g0i:¬ (4:Int)<(n0:Int):=by omega
 go_wp2_with fail
 refine (Eo _ l 1 w1 (HR.out.below HB1.out (Nat.le_refl _)) hl).mono ?_
 rintro e w2 ⟨v2,rfl,ho2,hb2⟩
 obtain ⟨a2,c2,rfl⟩:=aI ho2
 have HB2:=hid (aj HB1.out hb2 HB1.out.size)
 clear ho2 hb2
 generalize (oz l 1).length=n1 at *
 by_cases g1:4<n1
 ·have g1i:(4:Int)<(n1:Int):=by omega
  have HE:Hid (fO l=2):=hid (by rw [HD.out,if_pos (.inr g1)])
  go_wp2_with fail
  go_ret
  exact ⟨by rw [HE.out]; rfl,HB2.out⟩
 have g1i:¬ (4:Int)<(n1:Int):=by omega
 have HD2:Hid (fO l=if l.any (fun x=>x.au != 0 && x.au != 1)=true then 4 else 0):=hid (by rw [HD.out,if_neg (by omega)])
 have Yh:=hid (yZ (.slice a l.length c) l (fun x=>x.au != 0 && x.au != 1) 235 #[] w2 (HR.out.below HB2.out (Nat.le_refl _)) QC (fun W x cs hx hE hW=>by
  simp only [dF] at hE
  subst hE
  exact QB x W))
 clear HD g0 g1
 go_wp2_with fail
 refine Yh.out.mono ?_
 rintro e w3 ⟨rfl,hb3⟩
 have HB3:=hid (aj HB2.out hb3 HB2.out.size)
 clear hb3 Yh
 generalize l.any (fun x=>x.au != 0 && x.au != 1)=b at *
 cases b
 ·have HE:Hid (fO l=0):=hid (by rw [HD2.out]; rfl)
  go_wp2_with fail
  go_ret
  exact ⟨by rw [HE.out]; rfl,HB3.out⟩
 ·have HE:Hid (fO l=4):=hid (by rw [HD2.out]; rfl)
  go_wp2_with fail
  go_ret
  exact ⟨by rw [HE.out]; rfl,HB3.out⟩
theorem sF:(Tryz.prog.info? 139).map (fun i=>(i.zero,i.size,i.bytes))=some (some (.agg #[.int .i64 0,.int .i64 0,.int .i64 0,.int .i64 0]),4,32):=by kernel_rfl
theorem QD {α:Type} (el:El α) (hk:el.k=4) (h1:∀ (w:World) (x:α) (cs:List Value),el.E w x cs→∀ u∈cs,u.oneCell'=true) (v:Value) (xs:List α) (w:World) (h:gI el w v xs) (hl:xs.length≤1000000) :
  Calls Tryz.prog 59 #[v] w (ji el 139 xs w):=by
 obtain ⟨i0,hi,hz0,hz1,hz2⟩:=jC sF
 have hq:=fun (w:World) (a:Option Addr) (n c:Nat)=>Lib.run_eql_slice_nil (P:=Tryz.prog) w 71 139 a n c 0 0 Tryz.underlying71
 have hown0:(w.alloc (.cells #[] 139)).ownsRow w.heap.size 139 4 (.slice (some ⟨w.heap.size,0,none⟩) 0 0) 0 []:=World.ownsRow_made w #[] 0 (Nat.le_refl _) (by unfold maxLen; omega) rfl
 obtain ⟨a,n,c,vs,rfl,hn,hvl,hone,hE,hcell⟩:=mX h1 h
 rw [hk] at hvl
 have HR:=hid hE
 cases a with
 | none =>
  have hn0:n=0:=hcell.1 rfl
  subst hn0
  obtain rfl:xs=[]:=List.length_eq_zero_iff.1 hn.symm
  clear h hl hE hcell hown0 hn hvl hone HR hi hz0 hz1 hz2
  go_enter Tryz.func59,Tryz.ntmps59
  go_wp2
  go_ret
  exact ⟨_,[],rfl,World.ownsRow_nil _ _ _ _,(fun i hi=>by cases hi),Below.refl _ _⟩
 | some ad =>
  have hnews:∀ j u,vs[j]?=some u→(w.alloc (.cells #[] 139)).cell? (ad.add j)=some u:=fun j u hu=>by
   have hc:=hcell.2 ad rfl j u hu
   rw [World.cell?_of_block (w:=w) (a:=ad.add j) (Below.heap_alloc w _ _ (World.block_lt_of_cell? w _ hc))]
   exact hc
  have oM:=hid hown0
  have oN:=hid hnews
  have ML:=hid hvl
  have Ej:=hid hone
  have hnl:n≤1000000:=by omega
  have HN:=hid hn
  clear hown0 hnews hcell h hE hvl hone hl hn
  go_enter Tryz.func59,Tryz.ntmps59
  go_wp2_with (at_builtin; refine wpList_append_own _ rfl _ _ 71 rfl w.heap.size 139 i0 (.agg #[.int .i64 0,.int .i64 0,.int .i64 0,.int .i64 0]) 4 32 Tryz.underlying71 hi hz0 hz1 hz2 rfl (by decide) _ 0 [] rfl oM.out ad n c vs rfl ML.out oN.out Ej.out ?c3 ?c4 ?c5 ?_)
  case c3=>unfold maxLen; omega
  case c4=>omega
  case c5=>simp
  intro v' w2 hown' hgrow _
  try simp only [Nat.zero_add,List.nil_append] at hown'
  have hb:Below w.heap.size w w2:=Below.grown ((Below.refl _ w).alloc (Nat.le_refl _) _) hgrow (by simp) (fun q hq=>by simp [Value.ownBlock] at hq; omega)
  have HO:=hid hown'
  have HB:=hid hb
  clear hown' hgrow hb
  go_wp2
  go_ret
  exact ⟨v',vs,rfl,by rw [← HN.out,hk]; exact HO.out,fun i hi=>el.mono (HR.out i hi) HB.out (Nat.le_refl _),HB.out⟩
theorem Hg (w:World) (x:bT) (cs:List Value) (h:dF.E w x cs):∀ u∈cs,u.oneCell'=true:=by
 simp only [dF] at h
 subst h
 intro u hu
 simp at hu
 rcases hu with rfl | rfl | rfl | rfl <;> rfl
def bW (l:List bT):List Value:=l.flatMap fun m=>[.int .i64 m.au,.int .i64 m.move.src,.int .i64 m.move.dst,.int .i64 m.move.piece]
theorem jk (m:bT) (t:List bT):bW (m :: t)=.int .i64 m.au :: .int .i64 m.move.src :: .int .i64 m.move.dst :: .int .i64 m.move.piece :: bW t:=rfl
theorem mG (l:List bT) (m:bT):bW l++[.int .i64 m.au,.int .i64 m.move.src,.int .i64 m.move.dst,.int .i64 m.move.piece]=bW (l++[m]):=by simp [bW]
theorem sG (l:List bT):(bW l).length=l.length * 4:=by
 induction l with
 | nil=>rfl
 | cons m t ih=>rw [jk]; simp only [List.length_cons,ih]; omega
theorem Hl (l:List bT) (i:Nat) (h:i<l.length):(bW l)[i * 4]?=some (.int .i64 (l.getD i default).au)∧(bW l)[i * 4+1]?=some (.int .i64 (l.getD i default).move.src)∧(bW l)[i * 4+2]?=some (.int .i64 (l.getD i default).move.dst) ∧
  (bW l)[i * 4+3]?=some (.int .i64 (l.getD i default).move.piece):=by
 induction l generalizing i with
 | nil=>simp at h
 | cons m t ih =>
  rw [jk]
  cases i with
  | zero=>simp
  | succ i =>
   obtain ⟨a,b,c,d⟩:=ih i (by simpa using h)
   rw [show (i+1) * 4=i * 4+1+1+1+1 by omega,show i * 4+1+1+1+1+1=i * 4+1+1+1+1+1 by rfl,show i * 4+1+1+1+1+2=i * 4+2+1+1+1+1 by omega,show i * 4+1+1+1+1+3=i * 4+3+1+1+1+1 by omega]
   simp only [List.getElem?_cons_succ,List.getD_cons_succ]
   exact ⟨a,b,c,d⟩
theorem JA (l:List bT) (k:Nat):(bW l).take (k * 4)=bW (l.take k):=by
 induction l generalizing k with
 | nil=>simp [bW]
 | cons m t ih =>
  cases k with
  | zero=>simp [bW]
  | succ k =>
   rw [List.take_succ_cons,jk,jk,← ih k,show (k+1) * 4=k * 4+1+1+1+1 by omega]
   simp only [List.take_succ_cons]
theorem Nu (l:List bT) (i:Nat) (z:bT):putAt (bW l) (i * 4) [.int .i64 z.au,.int .i64 z.move.src,.int .i64 z.move.dst,.int .i64 z.move.piece]=bW (l.set i z):=by
 simp only [putAt]
 induction l generalizing i with
 | nil=>simp [bW]
 | cons m t ih =>
  cases i with
  | zero=>simp [jk]
  | succ i =>
   rw [List.set_cons_succ,jk,jk,← ih i,show (i+1) * 4=i * 4+1+1+1+1 by omega]
   simp [List.set_cons_succ]
theorem Aq {w:World}:∀ (xs:List bT) (vs:List Value),vs.length=xs.length * 4→(∀ i (h:i<xs.length),dF.E w xs[i] ((vs.drop (i * 4)).take 4))→vs=bW xs
 | [],vs,hl,_=>by
  have:vs.length=0:=by simpa using hl
  rw [List.length_eq_zero_iff.1 this]; rfl
 | x :: t,vs,hl,h=>by
  have h0:vs.take 4=[.int .i64 x.au,.int .i64 x.move.src,.int .i64 x.move.dst,.int .i64 x.move.piece]:=h 0 (by simp)
  have ih:=Aq (w:=w) t (vs.drop 4) (by simp at hl ⊢; omega) (fun i hi=>by
   have:=h (i+1) (by simpa using hi)
   rw [show (i+1) * 4=4+i * 4 by omega] at this
   rw [List.drop_drop]
   exact this)
  rw [jk,← ih,← List.take_append_drop 4 vs,h0]
  simp
theorem nI {w:World} {b:Nat} {v:Value} {xs:List bT} (h:w.ownsRow b 139 4 v xs.length (bW xs)):gI dF w v xs:=by
 refine gI.fD (el:=dF) h fun i hi=>?_
 obtain ⟨c0,c1,c2,c3⟩:=Hl xs i hi
 have e:xs.getD i default=xs[i]:=by rw [List.getD_eq_getElem?_getD,List.getElem?_eq_getElem hi]; rfl
 rw [e] at c0 c1 c2 c3
 show ((bW xs).drop (i * 4)).take 4=_
 have hlen:=sG xs
 apply List.ext_getElem?
 intro j
 by_cases hj:j<4
 ·rw [List.getElem?_take,if_pos hj,List.getElem?_drop]
  match j,hj with
  | 0,_=>exact c0
  | 1,_=>exact c1
  | 2,_=>exact c2
  | 3,_=>exact c3
 ·rw [List.getElem?_eq_none (by simp; omega),List.getElem?_eq_none (by simp; omega)]
theorem pF (v:Value) (xs:List bT) (w:World) (h:gI dF w v xs) (hl:xs.length≤1000000) :
  Calls Tryz.prog 59 #[v] w fun e w'=>∃ v',e=.returned v'∧w'.ownsRow w.heap.size 139 4 v' xs.length (bW xs)∧Below w.heap.size w w':=by
 refine (QD dF rfl Hg v xs w h hl).mono ?_
 rintro e w' ⟨v',vs,rfl,ho,hE,hb⟩
 have e1:=Aq xs vs ho.1 hE
 subst e1
 exact ⟨v',rfl,ho,hb⟩
theorem aa4 (n:Nat):(Builtin.zeroCells (Value.cells (.agg #[.int .i64 0,.int .i64 0,.int .i64 0,.int .i64 0])) n).toList=List.replicate (n * 4) (.int .i64 0):=by
 apply List.ext_getElem
 ·simp [Builtin.zeroCells,Value.cells]
 ·intro i h1 h2
  simp only [Builtin.zeroCells,Value.cells,Array.toList_map,Array.toList_range,List.getElem_map,List.getElem_range,List.getElem_replicate]
  have h3:i % 4=0∨i % 4=1∨i % 4=2∨i % 4=3:=by omega
  rcases h3 with h3 | h3 | h3 | h3 <;> simp [h3]
theorem JB (w:World) (ty:TypeId) (b o n c:Nat) (hn:0<n) (hc:∀ j,j<n * 4→(w.cell? ⟨b,o+j,none⟩).isSome=true) (hf:∀ j,j<n * 4→w.frozen? ⟨b,o+j,none⟩=false) :
  (Builtin.clear_ #[71] ty #[.slice (some ⟨b,o,none⟩) n c]).run Tryz.prog w=.ok (.tuple #[]) (w.setCells b o (List.replicate (n * 4) (.int .i64 0))):=by
 have hv:∀ w,(zeroValue 139).run Tryz.prog w=.ok (.agg #[.int .i64 0,.int .i64 0,.int .i64 0,.int .i64 0]) w:=fun w=>by kernel_rfl
 have hst:=run_storeCells_cells (P:=Tryz.prog) b o (List.replicate (n * 4) (.int .i64 0)) 0 w (by simpa using hc) (by simpa using hf) (by intro v hv'; rw [List.eq_of_mem_replicate hv']; rfl)
 simp only [Nat.add_zero] at hst
 obtain ⟨m,rfl⟩:∃ m,n=m+1:=⟨n - 1,by omega⟩
 simp [Builtin.clear_,run_underlying Tryz.underlying71,hv,aa4,hst]
theorem Dv {α:Type} (p:α→Bool):∀ (xs:List α) (k:Int),0≤k→fP p xs k = -1→xs.filter (fun x=>!p x)=xs
 | [],_,_,_=>rfl
 | x :: t,k,hk,h=>by
  unfold fP at h
  cases hx:p x
  ·rw [hx] at h
   rw [List.filter_cons,hx]
   simp only [Bool.not_false,if_true]
   rw [Dv p t (k+1) (by omega) (by simpa using h)]
  ·rw [hx] at h
   simp at h
   omega
theorem uH {α:Type} [Inhabited α] (p:α→Bool):∀ (xs:List α) (k:Int),0≤k→fP p xs k≠-1→∃ j:Nat,fP p xs k=k+j∧j<xs.length∧p (xs.getD j default)=true∧(xs.take j).filter (fun x=>!p x)=xs.take j
 | [],_,_,h=>by simp [fP] at h
 | x :: t,k,hk,h=>by
  unfold fP at h ⊢
  cases hx:p x
  ·rw [hx] at h
   simp only [Bool.false_eq_true,if_false] at h ⊢
   obtain ⟨j,h1,h2,h3,h4⟩:=uH p t (k+1) (by omega) h
   refine ⟨j+1,by rw [h1]; omega,by simp; omega,by simpa using h3,?_⟩
   rw [List.take_succ_cons,List.filter_cons,hx]
   simp only [Bool.not_false,if_true]
   rw [h4]
  ·exact ⟨0,by simp,by simp,by simpa using hx,by simp⟩
theorem yL {α:Type} [Inhabited α] (q:α→Bool) (xs:List α) (m:Nat) (h:m<xs.length):(xs.take (m+1)).filter q=(xs.take m).filter q++if q (xs.getD m default)=true then [xs.getD m default] else []:=by
 rw [List.take_succ_eq_append_getElem h,List.filter_append,List.getD_eq_getElem?_getD,List.getElem?_eq_getElem h]
 congr 1
 by_cases e:q xs[m]=true <;> simp [e]
theorem Ar {α:Type} {xs ys:List α} {o:Nat} (h:ys.drop o=xs.drop o) (i:Nat):ys.drop (o+i)=xs.drop (o+i):=by
 rw [← List.drop_drop,← List.drop_drop,h]
theorem Nv {α:Type} {xs ys:List α} {o:Nat} (h:ys.drop o=xs.drop o) (k:Nat) (z:α) (hk:k<o+1):(ys.set k z).drop (o+1)=xs.drop (o+1):=by
 rw [List.drop_set_of_lt hk]
 exact Ar h 1
theorem Nw {α:Type} (l:List α) (k:Nat) (z:α) (h:k<l.length):(l.set k z).take (k+1)=l.take k++[z]:=by
 rw [List.take_succ_eq_append_getElem (by simpa using h),List.take_set_of_le (Nat.le_refl _),List.getElem_set_self]
theorem JC {α:Type} [Inhabited α] {xs ys:List α} {o:Nat} (h:ys.drop o=xs.drop o):ys.getD o default=xs.getD o default:=by
 have:=congrArg (fun l=>l.getD 0 default) h
 simpa [List.getD_eq_getElem?_getD,List.getElem?_drop] using this
theorem pG {B:Nat} {w w1 w2:World} {row:Option Nat} (h:w.grownBy w1 row) (hb:Below w1.heap.size w1 w2):w.grownBy w2 row:=
 ⟨hb.os.trans h.os,hb.tape.trans h.tape,hb.output.trans h.output,Nat.le_trans h.size hb.size,fun k hk hn=>(hb.block k (Nat.lt_of_lt_of_le hk h.size)).trans (h.block k hk hn)⟩
def Ve (base:Nat) (v:Value) (xs:List bT) (w:World) (e:Ending) (w':World):Prop:=
 ∃ v',e=.returned v'∧w'.ownsRow base 139 4 v' xs.length (bW xs)∧w.grownBy w' v.ownBlock
theorem JD (base:Nat) (v:Value) (xs:List bT) (p:bT→Bool) (f:FuncId) (caps:Array Value) (w:World) (h:w.ownsRow base 139 4 v xs.length (bW xs)) (hl:xs.length≤1000000)
  (hf:∀ (args:Array Value) (w:World),(callFunc f args).run Tryz.prog w=.ok (.enter f args) w)
  (hc:∀ (W:World) (x:bT),w.grownBy W v.ownBlock→Calls Tryz.prog f (#[.agg #[.int .i64 x.au,.int .i64 x.move.src,.int .i64 x.move.dst,.int .i64 x.move.piece]]++caps) W fun e w'=>e=.returned (.bool (p x))∧Below W.heap.size W w') :
  Calls Tryz.prog 263 #[v,.func (.func f) #[] caps] w (Ve base v (xs.filter fun x=>!p x) w):=by
 have HO:=hid h
 have HC:=hid hc
 have HI:=hid (qH v xs p f caps w (nI h) hf (fun W x cs _ hE hb=>by
  simp only [dF] at hE
  subst hE
  exact hc W x (pG (B:=0) (lq w v.ownBlock) hb)))
 by_cases hn:fP p xs 0 = -1
 ·have HE:=hid (Dv p xs 0 (Int.le_refl _) hn)
  obtain ⟨a,c,rfl⟩:=aI h
  have HN:=hid hn
  clear h hc
  go_enter Tryz.func263,Tryz.ntmps263
  go_wp2_with fail
  refine HI.out.mono ?_
  rintro e w1 ⟨rfl,hb1⟩
  rw [hn]
  have HB:=hid hb1
  clear hb1 hn HI
  go_wp2_with fail
  go_ret
  exact ⟨_,rfl,by rw [HE.out]; exact bK HO.out HB.out,pG (B:=0) (lq _ _) HB.out⟩
 obtain ⟨i0,hi0,hi1,hpi,hti⟩:=uH p xs 0 (Int.le_refl _) hn
 simp only [Int.zero_add] at hi0
 have HTI:=hid hti
 have HPI:=hid hpi
 clear hn hti hpi
 obtain ⟨g,c,rfl⟩:=iq h (by omega)
 have hg:=h.lt g rfl
 clear h hc
 have ajD:((i0:Int) == -1)=false:=by simp
 go_enter Tryz.func263,Tryz.ntmps263
 go_wp2_with fail
 refine HI.out.mono ?_
 rintro e w1 ⟨rfl,hb1⟩
 rw [hi0]
 have HB:=hid hb1
 clear hb1 HI hi0
 go_wp2_with fail
 go_loopw [5,6,7] (fun vk vi vb wr=>∃ (k m:Nat) (ys:List bT),m≤xs.length∧vi=.int .i64 m∧vk=.int .i64 k∧k<m∧Hid (ys.length=xs.length)∧Hid (ys.drop m=xs.drop m)∧Hid (ys.take k=(xs.take m).filter fun x=>!p x)∧Hid (wr.ownsRow base 139 4 (.slice (some ⟨g,0,none⟩) xs.length c) xs.length (bW ys))∧Hid (w.grownBy wr (some g))) (fun _ i _ _=>xs.length - (intOf i).toNat)
 case atStart=>exact ⟨i0,i0+1,xs,by omega,by go_num,rfl,by omega,hid rfl,hid rfl,hid (by rw [yL _ _ _ hi1,HTI.out,HPI.out]; simp),hid (bK HO.out HB.out),hid (pG (B:=0) (lq _ _) HB.out)⟩
 case round =>
  obtain ⟨k,m,ys,hm,rfl,rfl,hk,Gn,W9,XU,BQ,Xa⟩:=hrel
  by_cases hlt:m<xs.length
  ·have hyl:=Gn.out
   have y1:ys.getD m default=xs.getD m default:=JC W9.out
   obtain ⟨q0,q1,q2,q3⟩:=Hl ys m (by omega)
   rw [y1] at q0 q1 q2 q3
   have c0:=(BQ.out.cellAt (m * 4) (by omega)).trans q0
   have c1:=(BQ.out.cellAt (m * 4+1) (by omega)).trans q1
   have c2:=(BQ.out.cellAt (m * 4+2) (by omega)).trans q2
   have c3:=(BQ.out.cellAt (m * 4+3) (by omega)).trans q3
   have HS:=hid (yL (fun x=>!p x) xs m hlt)
   clear q0 q1 q2 q3 y1 hyl
   generalize xs.getD m default=x at *
   have hgs:w.heap.size≤wr.heap.size:=Xa.out.size
   have hgr:g<wr.heap.size:=by omega
   go_upto_region 8 with (fail)
   have hbx:=Box.new' wr wr.heap.size [.int .i64 x.au,.int .i64 x.move.src,.int .i64 x.move.dst,.int .i64 x.move.piece] 139 rfl
   have HOn:=hid (BQ.out.alloc (.cells #[.int .i64 x.au,.int .i64 x.move.src,.int .i64 x.move.dst,.int .i64 x.move.piece] 139))
   have HGn:Hid (w.grownBy (wr.alloc (.cells #[.int .i64 x.au,.int .i64 x.move.src,.int .i64 x.move.dst,.int .i64 x.move.piece] 139)) (some g)):=hid (pG (B:=0) Xa.out ((Below.refl _ _).alloc (Nat.le_refl _) _))
   have aa3:wr.heap.size<(wr.alloc (.cells #[.int .i64 x.au,.int .i64 x.move.src,.int .i64 x.move.dst,.int .i64 x.move.piece] 139)).heap.size:=by simp
   clear c0 c1 c2 c3 BQ Xa
   generalize (wr.alloc (.cells #[.int .i64 x.au,.int .i64 x.move.src,.int .i64 x.move.dst,.int .i64 x.move.piece] 139))=wn at *
   have d0:=hbx.cell 0 rfl
   have d1:=hbx.cell 1 rfl
   have d2:=hbx.cell 2 rfl
   have d3:=hbx.cell 3 rfl
   have Yj:=hid hbx
   have FT:=hid (HC.out wn x HGn.out)
   clear hbx
   go_wp2_with fail
   refine FT.out.mono ?_
   rintro e w2 ⟨rfl,hb2⟩
   have HG2:=hid (pG (B:=0) HGn.out hb2)
   have uw:=hid (bK HOn.out hb2)
   have Vf:=hid (Yj.out.stays hb2)
   have hs2:=hb2.size
   have e0:=Vf.out.cell 0 rfl
   have e1:=Vf.out.cell 1 rfl
   have e2:=Vf.out.cell 2 rfl
   have e3:=Vf.out.cell 3 rfl
   clear d0 d1 d2 d3 hb2 FT HOn HGn Yj
   cases hpx:p x
   ·have HS2:Hid ((xs.take (m+1)).filter (fun x=>!p x)=ys.take k++[x]):=hid (by rw [HS.out,XU.out,hpx]; simp)
    have s:=fun j (h:j<xs.length * 4)=>List.getElem?_eq_getElem (l:=bW ys) (i:=j) (by rw [sG,Gn.out]; exact h)
    have s0:=(uw.out.cellAt (k * 4) (by omega)).trans (s _ (by omega))
    have s1:=(uw.out.cellAt (k * 4+1) (by omega)).trans (s _ (by omega))
    have s2:=(uw.out.cellAt (k * 4+2) (by omega)).trans (s _ (by omega))
    have s3:=(uw.out.cellAt (k * 4+3) (by omega)).trans (s _ (by omega))
    have f0:=uw.out.frozenAt (k * 4)
    have f1:=uw.out.frozenAt (k * 4+1)
    have f2:=uw.out.frozenAt (k * 4+2)
    have f3:=uw.out.frozenAt (k * 4+3)
    have Js:=vS [.int .i64 x.au,.int .i64 x.move.src,.int .i64 x.move.dst,.int .i64 x.move.piece] (bW ys) (k * 4) _ uw.out
    rw [Nu] at Js
    have kT:=hid Js
    have HDR:=hid (Nv W9.out k x (by omega))
    have MZ:Hid ((ys.set k x).take (k+1)=(xs.take (m+1)).filter fun x=>!p x):=hid (by rw [Nw ys k x (by rw [Gn.out]; omega),HS2.out])
    clear Js s
    go_wp2_with fail
    go_roundw
    case rel=>exact ⟨k+1,m+1,ys.set k x,by omega,by go_num,by go_num,by omega,hid (by rw [List.length_set]; exact Gn.out),HDR,MZ,hid kT.out.1,hid (l9 HG2.out kT.out.2)⟩
    case measure=>simp [intOf]; omega
   ·have HS2:Hid ((xs.take (m+1)).filter (fun x=>!p x)=ys.take k):=hid (by rw [HS.out,XU.out,hpx]; simp)
    go_wp2_with fail
    go_roundw
    case rel=>exact ⟨k,m+1,ys,by omega,by go_num,rfl,by omega,Gn,hid (Ar W9.out 1),hid HS2.out.symm,uw,HG2⟩
    case measure=>simp [intOf]; omega
  ·obtain rfl:m=xs.length:=by omega
   have HF:Hid (ys.take k=xs.filter fun x=>!p x):=hid (by rw [XU.out,List.take_of_length_le (Nat.le_refl _)])
   have PY:xs.length≤c:=vU BQ.out
   have hsl2:∀ w':World,(Instr.slice 71 (.slice (some ⟨g,0,none⟩) xs.length c) (some (.int .i64 (k:Int))) none none).run Tryz.prog w'=.ok (.slice (some ⟨g,k * 4,none⟩) (xs.length - k) (c - k)) w':=fun w'=>by
    rw [vI (P:=Tryz.prog) (t:=71) (s:=4) Tryz.underlying71 (fun w=>by kernel_rfl) (some ⟨g,0,none⟩) xs.length c k (by omega) w']
    simp [jA,show ¬ c=k by omega,qo]
   have adP:∀ w':World,(Instr.slice 71 (.slice (some ⟨g,0,none⟩) xs.length c) none (some (.int .i64 (k:Int))) none).run Tryz.prog w'=.ok (.slice (some ⟨g,0,none⟩) k c) w':=fun w'=>by
    exact je (P:=Tryz.prog) (t:=71) (s:=4) Tryz.underlying71 (fun w=>by kernel_rfl) (some ⟨g,0,none⟩) xs.length c k (by omega) w'
   have adQ:∀ ty,(Builtin.clear_ #[71] ty #[.slice (some ⟨g,k * 4,none⟩) (xs.length - k) (c - k)]).run Tryz.prog wr=.ok (.tuple #[]) (wr.setCells g (k * 4) (List.replicate ((xs.length - k) * 4) (.int .i64 0))):=fun ty =>
    JB wr ty g (k * 4) (xs.length - k) (c - k) (by omega) (fun q hq=>by rw [BQ.out.cellAt (k * 4+q) (by omega),List.getElem?_eq_getElem (by rw [sG,Gn.out]; omega)]; rfl) (fun q _=>BQ.out.frozenAt _)
   have kT:=hid (vS (List.replicate ((xs.length - k) * 4) (.int .i64 0)) (bW ys) (k * 4) _ BQ.out)
   have HLn:Hid ((xs.filter fun x=>!p x).length=k):=hid (by rw [← HF.out,List.length_take,Gn.out]; omega)
   have HKN:=hid hk
   clear hk PY
   go_wp2_with fail
   go_ret
   refine ⟨_,rfl,?_,l9 Xa.out kT.out.2⟩
   have h:=vT kT.out.1 k (by have:=HKN.out; omega)
   rw [uz _ _ _ _ (Nat.le_refl _),JA,HF.out] at h
   rw [HLn.out]
   exact h
theorem uI {w:World} (base:Nat) (ty:TypeId) (v:Value) (n c:Nat) (xs:List Value) (hown:w.ownsRow base 139 4 v n xs) :
  (Builtin.append_ #[71,71] ty #[v,.slice none 0 c]).run Tryz.prog w=.ok v w:=by
 obtain ⟨i,hi,hz0,hz1,hz2⟩:=jC sF
 rcases hown.2 with ⟨rfl,rfl⟩ | ⟨g,cap,cur,rfl,_,_,hnc,_⟩
 ·simp [Builtin.append_,run_underlying Tryz.underlying71,sizeOf,typeInfo,hi,Builtin.lenOf,Builtin.firstCells]
 ·simp [Builtin.append_,run_underlying Tryz.underlying71,sizeOf,typeInfo,hi,Builtin.lenOf,Builtin.firstCells,hnc,storeCells]
def yM (w:World) (e:Ending) (w':World):Prop:=∃ v',e=.returned v'∧w'.ownsRow w.heap.size 139 4 v' 0 []∧Below w.heap.size w w'
theorem Vg (k:Nat) (w:World) (hk:k≤1000000) :
  Calls Tryz.prog 265 #[.slice none 0 0,.int .i64 k] w (yM w):=by
 obtain ⟨i0,hi,hz0,hz1,hz2⟩:=jC sF
 have hsl0:∀ w:World,(Instr.slice 71 (.slice none 0 0) none (some (.int .i64 0)) none).run Tryz.prog w=.ok (.slice none 0 0) w:=fun w=>je (s:=4) Tryz.underlying71 (fun _=>by kernel_rfl) _ _ _ 0 (by omega) w
 by_cases h0:k=0
 ·subst h0
  go_enter Tryz.func265,Tryz.ntmps265
  go_wp2
  go_ret
  exact ⟨_,rfl,World.ownsRow_nil _ _ _ _,Below.refl _ _⟩
 ·have hr:=fun ty=>Lib.run_append_nil_zeros (P:=Tryz.prog) w 71 3 ty 139 i0 (.agg #[.int .i64 0,.int .i64 0,.int .i64 0,.int .i64 0]) .i64 .i64 Tryz.underlying71 Tryz.underlying3 hi hz0 k (by omega) (by omega) (by omega) (by rw [hz2]; omega)
  have hge:=grownCap_ge w k 0 139
  have hcm:grownCap w k 0 139≤maxLen:=grownCap_le_maxLen w k 0 139 (by unfold maxLen; omega)
  have HB:Hid (Below w.heap.size w (w.drew.alloc (.cells (Builtin.zeroCells (Value.cells (.agg #[.int .i64 0,.int .i64 0,.int .i64 0,.int .i64 0])) k++Builtin.zeroCells (Value.cells (.agg #[.int .i64 0,.int .i64 0,.int .i64 0,.int .i64 0])) (grownCap w k 0 139 - k)) 139))):=hid ((below_drewN (Below.refl _ _) 1).alloc (by simp) _)
  have HO:Hid ((w.drew.alloc (.cells (Builtin.zeroCells (Value.cells (.agg #[.int .i64 0,.int .i64 0,.int .i64 0,.int .i64 0])) k++Builtin.zeroCells (Value.cells (.agg #[.int .i64 0,.int .i64 0,.int .i64 0,.int .i64 0])) (grownCap w k 0 139 - k)) 139)).ownsRow w.heap.size 139 4 (.slice (some ⟨w.heap.size,0,none⟩) 0 (grownCap w k 0 139)) 0 []):=hid (World.ownsRow_made w.drew _ _ (by simp) hcm (by simp [Builtin.zeroCells,Value.cells]; omega))
  generalize (w.drew.alloc (.cells (Builtin.zeroCells (Value.cells (.agg #[.int .i64 0,.int .i64 0,.int .i64 0,.int .i64 0])) k++Builtin.zeroCells (Value.cells (.agg #[.int .i64 0,.int .i64 0,.int .i64 0,.int .i64 0])) (grownCap w k 0 139 - k)) 139))=w1 at *
  generalize grownCap w k 0 139=c at *
  have hsl1:∀ w':World,(Instr.slice 71 (.slice (some ⟨w.heap.size,0,none⟩) k c) none (some (.int .i64 0)) none).run Tryz.prog w'=.ok (.slice (some ⟨w.heap.size,0,none⟩) 0 c) w':=fun w'=>je (s:=4) Tryz.underlying71 (fun _=>by kernel_rfl) _ _ _ 0 (by omega) w'
  have hk0:(0:Int)<(k:Int):=by omega
  have HR:=hid hr
  clear hi hz0 hz1 hz2 hge hcm hr
  go_enter Tryz.func265,Tryz.ntmps265
  go_wp2_with (at_builtin; refine wpList_append_run rfl _ _ 71 3 rfl (.slice none 0 0) (.int .i64 k) (.slice (some ⟨w.heap.size,0,none⟩) k c) rfl rfl HR.out ?_)
  go_ret
  exact ⟨_,rfl,HO.out,HB.out⟩
theorem pI {w:World} {ops:Array Oper} {rest:List Oper} {o:Oper} {a:Act} {Q:Exit→Act→World→Prop} (hgd:o.guard=none) (s x:Operand)
  (ho:o.op=.call { callee:=.builtin .append,args:=#[s,x],argTypes:=#[71,71] })
  (base:Nat) (v:Value) (zs:List bT) (hs:a.eval s=v) (hown:w.ownsRow base 139 4 v zs.length (bW zs))
  (vs:Value) (ys:List bT) (hx:a.eval x=vs) (hr:gI dF w vs ys) (hlen:zs.length+ys.length≤1000000) (hbase:base≤w.heap.size)
  (h:∀ v' w',w'.ownsRow base 139 4 v' (zs++ys).length (bW (zs++ys))→w.grownBy w' v.ownBlock→wpList Tryz.prog ops Q rest (a.put o.dst v') w'):wpList Tryz.prog ops Q (o :: rest) a w:=by
 obtain ⟨i0,hi,hz0,hz1,hz2⟩:=jC sF
 obtain ⟨ad,n,c,css,rfl,hn,hcl,hone,hE,hcell⟩:=mX Hg hr
 have e1:=Aq (w:=w) ys css (by rw [hcl,hn]; rfl) hE
 subst e1
 subst hn
 cases ad with
 | none =>
  obtain rfl:ys=[]:=List.length_eq_zero_iff.1 (hcell.1 rfl)
  exact wpList_append_run hgd s x _ _ ho v _ v hs hx (fun ty=>uI base ty v _ c _ hown) (h v w (by simpa using hown) ⟨rfl,rfl,rfl,Nat.le_refl _,fun _ _ _=>rfl⟩)
 | some ad =>
  refine wpList_append_own _ hgd s x 71 ho base 139 i0 (.agg #[.int .i64 0,.int .i64 0,.int .i64 0,.int .i64 0]) 4 32 Tryz.underlying71 hi hz0 hz1 hz2 rfl (by decide) v zs.length (bW zs) hs hown ad ys.length c (bW ys) hx (by rw [sG]) (hcell.2 ad rfl) hone (by unfold maxLen; omega) (by omega) hbase ?_
  intro v' w2 ho2 hg2 _
  refine h v' w2 ?_ hg2
  have e:bW (zs++ys)=bW zs++bW ys:=by simp [bW]
  rw [e,List.length_append]
  exact ho2
def Ho (zs:List bT) (w:World) (e:Ending) (w':World):Prop:=∃ v',e=.returned v'∧w'.ownsRow w.heap.size 139 4 v' zs.length (bW zs)∧Below w.heap.size w w'
theorem Ny (v va vb:Value) (xs ys:List bT) (w:World) (h:XM w v va vb) (ha:gI dF w va xs) (hb:gI dF w vb ys) (hx:xs.length≤100000) (hy:ys.length≤100000) :
  Calls Tryz.prog 229 #[v] w (Ho (xs++ys) w):=by
 obtain ⟨g,o,c,rfl,hg,h0,h1⟩:=h
 have HA:=hid ha
 have HB:=hid hb
 obtain ⟨aa,ca,rfl,ha1,ha2⟩:=ha.form
 obtain ⟨ab,cb,rfl,hb1,hb2⟩:=hb.form
 clear ha hb
 unfold maxLen at ha2 hb2
 go_enter Tryz.func229,Tryz.ntmps229
 go_wp2_with fail
 go_loop [3,11] (fun s i=>(i=.int .i64 0∧s=.int .i64 0)∨(i=.int .i64 1∧s=.int .i64 xs.length)∨(i=.int .i64 2∧s=.int .i64 ((xs.length:Int)+ys.length))) (fun s i=>2 - (intOf i).toNat)
 case atStart=>exact .inl ⟨rfl,rfl⟩
 case round =>
  rcases hrel with ⟨rfl,rfl⟩ | ⟨rfl,rfl⟩ | ⟨rfl,rfl⟩
  ·go_wp2_with fail
   go_round
   case rel=>exact .inr (.inl ⟨rfl,rfl⟩)
   case measure=>decide
  ·go_wp2_with fail
   go_round
   case rel=>exact .inr (.inr ⟨rfl,rfl⟩)
   case measure=>decide
  ·have hG:Calls Tryz.prog 265 #[.slice none 0 0,.int .i64 ((xs.length:Int)+ys.length)] w (yM w):=by
    have:=Vg (xs.length+ys.length) w (by omega)
    rwa [Int.natCast_add] at this
   have HG:=hid hG
   clear hG
   go_wp2_with fail
   refine HG.out.mono ?_
   rintro e w1 ⟨v1,rfl,ho1,hb1⟩
   have IQ:=hid ho1
   have HB1:=hid hb1
   clear ho1 hb1
   go_wp2_with fail
   go_loopw [6,27] (fun v i wr=>∃ zs:List bT,((i=.int .i64 0∧zs=[])∨(i=.int .i64 1∧zs=xs)∨(i=.int .i64 2∧zs=xs++ys))∧Hid (wr.ownsRow w.heap.size 139 4 v zs.length (bW zs))∧Hid (Below w.heap.size w wr)) (fun _ i _=>2 - (intOf i).toNat)
   case atStart=>exact ⟨[],.inl ⟨rfl,rfl⟩,IQ,HB1⟩
   case round =>
    obtain ⟨zs,hi',HOr,bC⟩:=hrel
    have hsz:=bC.out.size
    have q0:=(bC.out.cell (p:=⟨g,o,none⟩) hg).trans h0
    have q1:=(bC.out.cell (p:=⟨g,o+1,none⟩) hg).trans h1
    have hgr:g<wr.heap.size:=by omega
    rcases hi' with ⟨rfl,rfl⟩ | ⟨rfl,rfl⟩ | ⟨rfl,rfl⟩
    ·go_wp2_with (at_builtin; refine pI rfl _ _ rfl w.heap.size _ [] rfl HOr.out _ xs rfl (HA.out.below bC.out (Nat.le_refl _)) (by simp; omega) hsz ?_)
     intro v' w2 ho2 hg2
     have HB2:=hid (below_grown bC.out HOr.out hg2 hsz)
     have uw:=hid ho2
     clear ho2 hg2
     go_wp2_with fail
     go_roundw
     case rel=>exact ⟨xs,.inr (.inl ⟨rfl,rfl⟩),hid (by simpa using uw.out),HB2⟩
     case measure=>decide
    ·go_wp2_with (at_builtin; refine pI rfl _ _ rfl w.heap.size _ zs rfl HOr.out _ ys rfl (HB.out.below bC.out (Nat.le_refl _)) (by omega) hsz ?_)
     intro v' w2 ho2 hg2
     have HB2:=hid (below_grown bC.out HOr.out hg2 hsz)
     have uw:=hid ho2
     clear ho2 hg2
     go_wp2_with fail
     go_roundw
     case rel=>exact ⟨zs++ys,.inr (.inr ⟨rfl,rfl⟩),hid (by have:=uw.out; rw [List.length_append]; exact this),HB2⟩
     case measure=>decide
    ·go_wp2_with fail
     go_ret
     exact ⟨_,rfl,HOr.out,bC.out⟩
def pJ (l:List bT) (pl:Int):List bT:=l.filter fun x=>!(x.au == pl)
theorem zI {w:World} {b:Nat} {cs:List Value} {t:TypeId} (h:Box w b cs t):∀ j u,cs[j]?=some u→w.cell? ((⟨b,0,none⟩:Addr).add j)=some u:=by
 intro j u hj
 have e2:(⟨b,0,none⟩:Addr).add j=⟨b,j,none⟩:=by unfold Addr.add; split <;> simp_all
 rw [e2]
 exact h.cell j hj
theorem sH {x y z t:Int}:∀ u∈[Value.int .i64 x,.int .i64 y,.int .i64 z,.int .i64 t],u.oneCell'=true:=by intro u hu; simp at hu; rcases hu with rfl | rfl | rfl | rfl <;> rfl
theorem Ep (x:bT) (pl:Int) (b:Nat) (W:World) (B:Box W b [.int .i64 pl] 3):Calls Tryz.prog 264 (#[.agg #[.int .i64 x.au,.int .i64 x.move.src,.int .i64 x.move.dst,.int .i64 x.move.piece]] ++ #[.pointer (some ⟨b,0,none⟩)]) W fun e w'=>e=.returned (.bool (x.au == pl))∧Below W.heap.size W w':=by
 show Calls Tryz.prog 264 #[.agg #[.int .i64 x.au,.int .i64 x.move.src,.int .i64 x.move.dst,.int .i64 x.move.piece],.pointer (some ⟨b,0,none⟩)] W _
 have hlt:=B.lt
 have hc:=B.cell 0 rfl
 clear B
 go_enter Tryz.func264,Tryz.ntmps264
 go_wp2
 go_ret
 exact ⟨rfl,(Below.refl _ _).alloc (Nat.le_refl _) _⟩
theorem Vh (args:Array Value) (w:World):(callFunc 264 args).run Tryz.prog w=.ok (.enter 264 args) w:=by kernel_rfl
theorem yN (v:Value) (l:List bT) (pl:Int) (w:World) (h:gI dF w v l) (hl:l.length≤100000) :
  Calls Tryz.prog 228 #[v,.int .i64 pl] w fun e w'=>∃ v',e=.returned v'∧w'.ownsRow w.heap.size 139 4 v' (pJ l pl).length (bW (pJ l pl))∧Below w.heap.size w w':=by
 have HR:=hid h
 obtain ⟨a,c,rfl,h1,h2⟩:=h.form
 unfold maxLen at h2
 clear h
 go_enter Tryz.func228,Tryz.ntmps228
 go_upto_region 1 with (fail)
 refine lM fun w0 B0 dM hs_=>?_
 have HB:=hid dM
 have hz0:w.heap.size<w0.heap.size:=by omega
 clear hs_ dM
 have xK:=hid (HR.out.below HB.out (Nat.le_refl _))
 have dP:=hid B0
 clear B0
 go_wp2_with fail
 refine (pF _ l w0 xK.out (by omega)).mono ?_
 rintro e w1 ⟨v1,rfl,ho1,hb1⟩
 have HD:=hid (JD w0.heap.size v1 l (fun x=>x.au == pl) 264 #[.pointer (some ⟨w.heap.size,0,none⟩)] w1 ho1 (by omega) Vh (fun W x hg=>Ep x pl w.heap.size W ((dP.out.stays hb1).grown hg (jX ho1 hz0))))
 have IQ:=hid ho1
 have HB1:=hid (aj HB.out hb1 HB.out.size)
 clear ho1 hb1
 obtain ⟨a1,c1,rfl⟩:=aI IQ.out
 go_wp2_with fail
 refine HD.out.mono ?_
 rintro e w2 ⟨v2,rfl,ho2,hg2⟩
 obtain ⟨a2,c2,rfl⟩:=aI ho2
 have uw:=hid (own_base ho2 HB.out.size)
 have HB2:=hid (Below.grown HB1.out hg2 HB1.out.size (fun q hq=>Nat.le_trans HB.out.size (IQ.out.lt q hq).1))
 clear ho2 hg2 HD
 go_wp2_with fail
 go_ret
 exact ⟨_,rfl,uw.out,HB2.out⟩
def jG (l:List bT) (pl:Int):Int:=if fO l≠0 then fO l else if pl≠0∧pl≠1 then 1 else if (oz l pl).length=4 then 9 else 0
def Vj (l:List bT) (pl:Int) (m:aN) (w:World) (e:Ending) (w':World):Prop:=
 (jG l pl≠0∧e=.returned (.tuple #[.slice none 0 0,.int .i64 (jG l pl)])∧Below w.heap.size w w') ∨
 (jG l pl=0∧∃ v,e=.returned (.tuple #[v,.int .i64 0])∧w'.ownsRow w.heap.size 139 4 v (l.length+1) (bW (l++[⟨pl,m⟩]))∧Below w.heap.size w w')
theorem Lm (v:Value) (l:List bT) (pl:Int) (m:aN) (w:World) (h:gI dF w v l) (hl:l.length≤100000) :
  Calls Tryz.prog 145 #[v,.int .i64 pl,.agg #[.int .i64 m.src,.int .i64 m.dst,.int .i64 m.piece]] w (Vj l pl m w):=by
 have HR:=hid h
 have HD:Hid (jG l pl=if fO l≠0 then fO l else if pl≠0∧pl≠1 then 1 else if (oz l pl).length=4 then 9 else 0):=hid rfl
 obtain ⟨a,c,rfl,h1,h2⟩:=h.form
 unfold maxLen at h2
 clear h
 go_enter Tryz.func145,Tryz.ntmps145
 go_upto_region 1 with (fail)
 refine lM fun w0 B0 dM hs_=>?_
 have HB:=hid dM
 have hz0:w.heap.size<w0.heap.size:=by omega
 clear hs_ dM
 have xK:=hid (HR.out.below HB.out (Nat.le_refl _))
 have dP:=hid B0
 clear B0
 go_wp2_with fail
 refine (tH _ l w0 xK.out (by omega)).mono ?_
 rintro e w1 ⟨rfl,hb1⟩
 have HB1:=hid (aj HB.out hb1 HB.out.size)
 have Vk:=hid (dP.out.stays hb1)
 clear hb1
 by_cases he:fO l=0
 rotate_left
 ·have HE:Hid (jG l pl=fO l):=hid (by rw [HD.out,if_pos he])
  have HN:=hid he
  have he':(fO l != 0)=true:=by simpa using he
  clear he HD
  go_wp2_with fail
  go_ret2
  exact .inl ⟨by rw [HE.out]; exact HN.out,by rw [HE.out]; rfl,HB1.out⟩
 rw [he]
 have HD1:Hid (jG l pl=if pl≠0∧pl≠1 then 1 else if (oz l pl).length=4 then 9 else 0):=hid (by rw [HD.out,if_neg (by simp [he])])
 clear he HD
 by_cases hp:pl≠0∧pl≠1
 ·have HE:Hid (jG l pl=1):=hid (by rw [HD1.out,if_pos hp])
  have p0:(pl != 0)=true:=by simpa using hp.1
  have p1:(pl != 1)=true:=by simpa using hp.2
  clear hp HD1
  go_wp2_with fail
  go_ret2
  exact .inl ⟨by rw [HE.out]; decide,by rw [HE.out]; rfl,HB1.out⟩
 have HD2:Hid (jG l pl=if (oz l pl).length=4 then 9 else 0):=hid (by rw [HD1.out,if_neg hp])
 have HP:=hid hp
 have hR1:=HR.out.below HB1.out (Nat.le_refl _)
 have HR1:=hid hR1
 clear hR1 HD1 hp xK HB
 by_cases hp0:pl=0
 ·subst hp0
  go_wp2_with fail
  refine (Eo _ l 0 w1 HR1.out (by omega)).mono ?_
  rintro e w2 ⟨v2,rfl,ho2,hb2⟩
  obtain ⟨a2,c2,rfl⟩:=aI ho2
  have HB2:=hid (aj HB1.out hb2 HB1.out.size)
  have QE:=hid (Vk.out.stays hb2)
  have HR2:=hid (HR1.out.below hb2 (Nat.le_refl _))
  clear ho2 hb2 HB1 HR1 Vk
  by_cases hf:(oz l 0).length=4
  ·have HE:Hid (jG l 0=9):=hid (by rw [HD2.out,if_pos hf])
   have hf':((oz l 0).length:Int)=4:=by omega
   clear HD2 hf
   go_wp2_with fail
   go_ret2
   exact .inl ⟨by rw [HE.out]; decide,by rw [HE.out]; rfl,HB2.out⟩
  have hD0:jG l 0=0:=by rw [HD2.out,if_neg hf]
  have hf':¬ ((oz l 0).length:Int)=4:=by omega
  have HD0:=hid hD0
  clear HD2 hf hD0
  obtain ⟨i0,hi0,hi1,hi2,hi3⟩:=jC sF
  have HI0:=hid hi0
  have HI1:=hid hi1
  have HI2:=hid hi2
  have HI3:=hid hi3
  clear hi0 hi1 hi2 hi3
  go_upto_region 8 with (fail)
  generalize w2=wq at *
  have Na:=QE.out.drew
  have Lz:Below w.heap.size w wq.drew:=aA HB2.out
  have Rz:gI dF wq.drew (.slice a l.length c) l:=HR2.out.below (aA (Below.refl _ _)) (Nat.le_refl _)
  have hD0:=HD0.out
  clear QE HB2 HR2 HD0 hf'
  refine wp_region_noPanic ?_
  refine bG (S:=(fun w'=>w'.cell? ⟨w.heap.size,0,none⟩=some (.int .i64 m.src)∧w'.cell? ⟨w.heap.size,1,none⟩=some (.int .i64 m.dst)∧w'.cell? ⟨w.heap.size,2,none⟩=some (.int .i64 m.piece))) (L:=[]) (by kernel_rfl) (by and_intros <;> exact Na.cell _ rfl) (fun hHeld=>?_)
  refine aF 0 ?_
  refine aF 2 ?_
  refine dL 3 ?_
  refine aF 4 ?_
  refine IL (rs:=[1,5]) ?_
  refine (aO.cons (by first | (simp only [List.getElem?_toArray,List.getElem?_cons_zero,List.getElem?_cons_succ] <;> rfl) | rfl) (fun K hK=>?_) (aO.cons (by first | (simp only [List.getElem?_toArray,List.getElem?_cons_zero,List.getElem?_cons_succ] <;> rfl) | rfl) (fun K hK=>?_) aO.nil))
  ·skip
   go_simp
   refine (pF _ l _ Rz (by omega)).mono ?_
   rintro e w1 ⟨vx,rfl,ho1,hb1⟩
   obtain ⟨an,cn,rfl⟩:=aI ho1
   have Nz:=Na.stays hb1
   have L1:=aj Lz hb1 Lz.size
   have O1:=own_base ho1 Na.lt
   clear hb1 ho1
   refine hK.out _ _ (by and_intros <;> exact Nz.cell _ rfl) (fun hHeld=>?_)
   clear hK K
   refine dO 5 fun K hK=>?_
   go_simp
   refine aK ?_
   intro w5 e5
   have vM:Box w5 w.heap.size [.int .i64 m.src,.int .i64 m.dst,.int .i64 m.piece] 52:=by rw [e5]; exact Nz.alloc _
   have N5:Box w5 w1.heap.size [.int .i64 (0),.int .i64 m.src,.int .i64 m.dst,.int .i64 m.piece] 139:=by rw [e5]; exact Box.new' _ _ _ _ rfl
   have L5:Below w.heap.size w w5:=by rw [e5]; exact L1.alloc L1.size _
   have O5:w5.ownsRow (w.heap.size+1) 139 4 (.slice an l.length cn) l.length (bW l):=by rw [e5]; exact O1.alloc _
   clear e5
   refine hK.out _ _ (by and_intros <;> exact vM.cell _ rfl) (fun hHeld=>?_)
   clear hK K
   refine dO 6 fun K hK=>?_
   rw [if_pos (by rfl)]
   refine wp_append_lies _ _ _ 71 rfl (w.heap.size+1) 139 i0 (.agg #[.int .i64 0,.int .i64 0,.int .i64 0,.int .i64 0]) 4 32 Tryz.underlying71 HI0.out HI1.out HI2.out HI3.out rfl (by decide) (.slice an l.length cn) l.length (bW l) rfl O5 ⟨w1.heap.size,0,none⟩ 1 1 [.int .i64 (0),.int .i64 m.src,.int .i64 m.dst,.int .i64 m.piece] rfl rfl (zI N5) sH (by decide) (by unfold maxLen; omega) (by omega) vM.lt w5.heap.size rfl ?_
   intro g6 c6 w6 uV oO hq6 FB
   have zC:Box w6 w.heap.size [.int .i64 m.src,.int .i64 m.dst,.int .i64 m.piece] 52:=vM.grown oO (jX O5 (Nat.lt_succ_self _))
   have L6:=Below.grown L5 oO L5.size (fun q hq=>Nat.le_trans (Nat.le_succ _) (O5.lt q hq).1)
   have O6:=uV
   clear uV oO hq6 FB
   refine hK.out _ _ (by and_intros <;> exact zC.cell _ rfl) (fun hHeld=>?_)
   clear hK K
   refine aF 7 ?_
   refine aF 8 ?_
   refine iE ?_
   have QF:w6.ownsRow w.heap.size 139 4 (.slice (some ⟨g6,0,none⟩) (l.length+1) c6) (l.length+1) (bW (l++[⟨0,m⟩])):=by rw [← mG]; exact own_base O6 (Nat.le_succ _)
   have Dp:=hid QF
   have yJ:=hid L6
   have HD3:=hid hD0
   clear O6 QF L6 hD0 hHeld
   go_wp2_with fail
   go_ret2
   exact .inr ⟨HD3.out,_,rfl,Dp.out,yJ.out⟩
  ·skip
   go_simp
   refine aK ?_
   intro w5 e5
   have vM:Box w5 w.heap.size [.int .i64 m.src,.int .i64 m.dst,.int .i64 m.piece] 52:=by rw [e5]; exact Na.alloc _
   have N5:Box w5 wq.drew.heap.size [.int .i64 (0),.int .i64 m.src,.int .i64 m.dst,.int .i64 m.piece] 139:=by rw [e5]; exact Box.new' _ _ _ _ rfl
   have L5:Below w.heap.size w w5:=by rw [e5]; exact Lz.alloc Lz.size _
   have R5:gI dF w5 (.slice a l.length c) l:=Rz.below (by rw [e5]; exact (Below.refl _ _).alloc (Nat.le_refl _) _) (Nat.le_refl _)
   clear e5
   refine hK.out _ _ (by and_intros <;> exact vM.cell _ rfl) (fun hHeld=>?_)
   clear hK K
   refine dO 1 fun K hK=>?_
   go_simp
   refine (pF _ l _ R5 (by omega)).mono ?_
   rintro e w1 ⟨vx,rfl,ho1,hb1⟩
   obtain ⟨an,cn,rfl⟩:=aI ho1
   have Nz:=vM.stays hb1
   have L1:=aj L5 hb1 L5.size
   have O1:=own_base ho1 vM.lt
   have N1:=N5.stays hb1
   clear hb1 ho1
   refine hK.out _ _ (by and_intros <;> exact Nz.cell _ rfl) (fun hHeld=>?_)
   clear hK K
   refine dO 6 fun K hK=>?_
   rw [if_pos (by rfl)]
   refine wp_append_lies _ _ _ 71 rfl (w.heap.size+1) 139 i0 (.agg #[.int .i64 0,.int .i64 0,.int .i64 0,.int .i64 0]) 4 32 Tryz.underlying71 HI0.out HI1.out HI2.out HI3.out rfl (by decide) (.slice an l.length cn) l.length (bW l) rfl O1 ⟨wq.drew.heap.size,0,none⟩ 1 1 [.int .i64 (0),.int .i64 m.src,.int .i64 m.dst,.int .i64 m.piece] rfl rfl (zI N1) sH (by decide) (by unfold maxLen; omega) (by omega) Nz.lt w1.heap.size rfl ?_
   intro g6 c6 w6 uV oO hq6 FB
   have zC:Box w6 w.heap.size [.int .i64 m.src,.int .i64 m.dst,.int .i64 m.piece] 52:=Nz.grown oO (jX O1 (Nat.lt_succ_self _))
   have L6:=Below.grown L1 oO L1.size (fun q hq=>Nat.le_trans (Nat.le_succ _) (O1.lt q hq).1)
   have O6:=uV
   clear uV oO hq6 FB
   refine hK.out _ _ (by and_intros <;> exact zC.cell _ rfl) (fun hHeld=>?_)
   clear hK K
   refine aF 7 ?_
   refine aF 8 ?_
   refine iE ?_
   have QF:w6.ownsRow w.heap.size 139 4 (.slice (some ⟨g6,0,none⟩) (l.length+1) c6) (l.length+1) (bW (l++[⟨0,m⟩])):=by rw [← mG]; exact own_base O6 (Nat.le_succ _)
   have Dp:=hid QF
   have yJ:=hid L6
   have HD3:=hid hD0
   clear O6 QF L6 hD0 hHeld
   go_wp2_with fail
   go_ret2
   exact .inr ⟨HD3.out,_,rfl,Dp.out,yJ.out⟩
 ·obtain rfl:pl=1:=by have:=HP.out; omega
  go_wp2_with fail
  refine (Eo _ l 1 w1 HR1.out (by omega)).mono ?_
  rintro e w2 ⟨v2,rfl,ho2,hb2⟩
  obtain ⟨a2,c2,rfl⟩:=aI ho2
  have HB2:=hid (aj HB1.out hb2 HB1.out.size)
  have QE:=hid (Vk.out.stays hb2)
  have HR2:=hid (HR1.out.below hb2 (Nat.le_refl _))
  clear ho2 hb2 HB1 HR1 Vk
  by_cases hf:(oz l 1).length=4
  ·have HE:Hid (jG l 1=9):=hid (by rw [HD2.out,if_pos hf])
   have hf':((oz l 1).length:Int)=4:=by omega
   clear HD2 hf
   go_wp2_with fail
   go_ret2
   exact .inl ⟨by rw [HE.out]; decide,by rw [HE.out]; rfl,HB2.out⟩
  have hD0:jG l 1=0:=by rw [HD2.out,if_neg hf]
  have hf':¬ ((oz l 1).length:Int)=4:=by omega
  have HD0:=hid hD0
  clear HD2 hf hD0
  obtain ⟨i0,hi0,hi1,hi2,hi3⟩:=jC sF
  have HI0:=hid hi0
  have HI1:=hid hi1
  have HI2:=hid hi2
  have HI3:=hid hi3
  clear hi0 hi1 hi2 hi3
  go_upto_region 8 with (fail)
  generalize w2=wq at *
  have Na:=QE.out.drew
  have Lz:Below w.heap.size w wq.drew:=aA HB2.out
  have Rz:gI dF wq.drew (.slice a l.length c) l:=HR2.out.below (aA (Below.refl _ _)) (Nat.le_refl _)
  have hD0:=HD0.out
  clear QE HB2 HR2 HD0 hf'
  refine wp_region_noPanic ?_
  refine bG (S:=(fun w'=>w'.cell? ⟨w.heap.size,0,none⟩=some (.int .i64 m.src)∧w'.cell? ⟨w.heap.size,1,none⟩=some (.int .i64 m.dst)∧w'.cell? ⟨w.heap.size,2,none⟩=some (.int .i64 m.piece))) (L:=[]) (by kernel_rfl) (by and_intros <;> exact Na.cell _ rfl) (fun hHeld=>?_)
  refine aF 0 ?_
  refine aF 2 ?_
  refine dL 3 ?_
  refine aF 4 ?_
  refine IL (rs:=[1,5]) ?_
  refine (aO.cons (by first | (simp only [List.getElem?_toArray,List.getElem?_cons_zero,List.getElem?_cons_succ] <;> rfl) | rfl) (fun K hK=>?_) (aO.cons (by first | (simp only [List.getElem?_toArray,List.getElem?_cons_zero,List.getElem?_cons_succ] <;> rfl) | rfl) (fun K hK=>?_) aO.nil))
  ·skip
   go_simp
   refine (pF _ l _ Rz (by omega)).mono ?_
   rintro e w1 ⟨vx,rfl,ho1,hb1⟩
   obtain ⟨an,cn,rfl⟩:=aI ho1
   have Nz:=Na.stays hb1
   have L1:=aj Lz hb1 Lz.size
   have O1:=own_base ho1 Na.lt
   clear hb1 ho1
   refine hK.out _ _ (by and_intros <;> exact Nz.cell _ rfl) (fun hHeld=>?_)
   clear hK K
   refine dO 5 fun K hK=>?_
   go_simp
   refine aK ?_
   intro w5 e5
   have vM:Box w5 w.heap.size [.int .i64 m.src,.int .i64 m.dst,.int .i64 m.piece] 52:=by rw [e5]; exact Nz.alloc _
   have N5:Box w5 w1.heap.size [.int .i64 (1),.int .i64 m.src,.int .i64 m.dst,.int .i64 m.piece] 139:=by rw [e5]; exact Box.new' _ _ _ _ rfl
   have L5:Below w.heap.size w w5:=by rw [e5]; exact L1.alloc L1.size _
   have O5:w5.ownsRow (w.heap.size+1) 139 4 (.slice an l.length cn) l.length (bW l):=by rw [e5]; exact O1.alloc _
   clear e5
   refine hK.out _ _ (by and_intros <;> exact vM.cell _ rfl) (fun hHeld=>?_)
   clear hK K
   refine dO 6 fun K hK=>?_
   rw [if_pos (by rfl)]
   refine wp_append_lies _ _ _ 71 rfl (w.heap.size+1) 139 i0 (.agg #[.int .i64 0,.int .i64 0,.int .i64 0,.int .i64 0]) 4 32 Tryz.underlying71 HI0.out HI1.out HI2.out HI3.out rfl (by decide) (.slice an l.length cn) l.length (bW l) rfl O5 ⟨w1.heap.size,0,none⟩ 1 1 [.int .i64 (1),.int .i64 m.src,.int .i64 m.dst,.int .i64 m.piece] rfl rfl (zI N5) sH (by decide) (by unfold maxLen; omega) (by omega) vM.lt w5.heap.size rfl ?_
   intro g6 c6 w6 uV oO hq6 FB
   have zC:Box w6 w.heap.size [.int .i64 m.src,.int .i64 m.dst,.int .i64 m.piece] 52:=vM.grown oO (jX O5 (Nat.lt_succ_self _))
   have L6:=Below.grown L5 oO L5.size (fun q hq=>Nat.le_trans (Nat.le_succ _) (O5.lt q hq).1)
   have O6:=uV
   clear uV oO hq6 FB
   refine hK.out _ _ (by and_intros <;> exact zC.cell _ rfl) (fun hHeld=>?_)
   clear hK K
   refine aF 7 ?_
   refine aF 8 ?_
   refine iE ?_
   have QF:w6.ownsRow w.heap.size 139 4 (.slice (some ⟨g6,0,none⟩) (l.length+1) c6) (l.length+1) (bW (l++[⟨1,m⟩])):=by rw [← mG]; exact own_base O6 (Nat.le_succ _)
   have Dp:=hid QF
   have yJ:=hid L6
   have HD3:=hid hD0
   clear O6 QF L6 hD0 hHeld
   go_wp2_with fail
   go_ret2
   exact .inr ⟨HD3.out,_,rfl,Dp.out,yJ.out⟩
  ·skip
   go_simp
   refine aK ?_
   intro w5 e5
   have vM:Box w5 w.heap.size [.int .i64 m.src,.int .i64 m.dst,.int .i64 m.piece] 52:=by rw [e5]; exact Na.alloc _
   have N5:Box w5 wq.drew.heap.size [.int .i64 (1),.int .i64 m.src,.int .i64 m.dst,.int .i64 m.piece] 139:=by rw [e5]; exact Box.new' _ _ _ _ rfl
   have L5:Below w.heap.size w w5:=by rw [e5]; exact Lz.alloc Lz.size _
   have R5:gI dF w5 (.slice a l.length c) l:=Rz.below (by rw [e5]; exact (Below.refl _ _).alloc (Nat.le_refl _) _) (Nat.le_refl _)
   clear e5
   refine hK.out _ _ (by and_intros <;> exact vM.cell _ rfl) (fun hHeld=>?_)
   clear hK K
   refine dO 1 fun K hK=>?_
   go_simp
   refine (pF _ l _ R5 (by omega)).mono ?_
   rintro e w1 ⟨vx,rfl,ho1,hb1⟩
   obtain ⟨an,cn,rfl⟩:=aI ho1
   have Nz:=vM.stays hb1
   have L1:=aj L5 hb1 L5.size
   have O1:=own_base ho1 vM.lt
   have N1:=N5.stays hb1
   clear hb1 ho1
   refine hK.out _ _ (by and_intros <;> exact Nz.cell _ rfl) (fun hHeld=>?_)
   clear hK K
   refine dO 6 fun K hK=>?_
   rw [if_pos (by rfl)]
   refine wp_append_lies _ _ _ 71 rfl (w.heap.size+1) 139 i0 (.agg #[.int .i64 0,.int .i64 0,.int .i64 0,.int .i64 0]) 4 32 Tryz.underlying71 HI0.out HI1.out HI2.out HI3.out rfl (by decide) (.slice an l.length cn) l.length (bW l) rfl O1 ⟨wq.drew.heap.size,0,none⟩ 1 1 [.int .i64 (1),.int .i64 m.src,.int .i64 m.dst,.int .i64 m.piece] rfl rfl (zI N1) sH (by decide) (by unfold maxLen; omega) (by omega) Nz.lt w1.heap.size rfl ?_
   intro g6 c6 w6 uV oO hq6 FB
   have zC:Box w6 w.heap.size [.int .i64 m.src,.int .i64 m.dst,.int .i64 m.piece] 52:=Nz.grown oO (jX O1 (Nat.lt_succ_self _))
   have L6:=Below.grown L1 oO L1.size (fun q hq=>Nat.le_trans (Nat.le_succ _) (O1.lt q hq).1)
   have O6:=uV
   clear uV oO hq6 FB
   refine hK.out _ _ (by and_intros <;> exact zC.cell _ rfl) (fun hHeld=>?_)
   clear hK K
   refine aF 7 ?_
   refine aF 8 ?_
   refine iE ?_
   have QF:w6.ownsRow w.heap.size 139 4 (.slice (some ⟨g6,0,none⟩) (l.length+1) c6) (l.length+1) (bW (l++[⟨1,m⟩])):=by rw [← mG]; exact own_base O6 (Nat.le_succ _)
   have Dp:=hid QF
   have yJ:=hid L6
   have HD3:=hid hD0
   clear O6 QF L6 hD0 hHeld
   go_wp2_with fail
   go_ret2
   exact .inr ⟨HD3.out,_,rfl,Dp.out,yJ.out⟩
end Go.Proofs.YtmabaojkignodaaGreatDoor

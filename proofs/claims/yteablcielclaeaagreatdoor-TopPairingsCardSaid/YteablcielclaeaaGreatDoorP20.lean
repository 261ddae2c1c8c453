/- Ko1, Ko2, Box3, IntsW, ClaimB, ClaimC, JouApp, MaA, MaB, MaC, MaD, MaM, MaE, MaF. -/
import Derived.BigRegion
import Derived.ChangeAlike
import Derived.Test.YteablcielclaeaaGreatDoorP19
namespace Go.Proofs.YteablcielclaeaaGreatDoor.off
open Go.ChangeShapes Go.WideShapes Go.ChangeAt Go.RowKit
set_option linter.unusedVariables false
set_option maxHeartbeats 4000000
theorem ix0 (a b:Value) (w:World):(Instr.index 81 (.agg #[a,b]) (.int .i64 0)).run Tryz.prog w=.ok a w:=
 vY (P:=Tryz.prog) #[a,b] 0 a w Tryz.underlying81 (by kernel_rfl) (by kernel_rfl) (by omega) (by omega) rfl
theorem ix1 (a b:Value) (w:World):(Instr.index 81 (.agg #[a,b]) (.int .i64 1)).run Tryz.prog w=.ok b w:=
 vY (P:=Tryz.prog) #[a,b] 1 b w Tryz.underlying81 (by kernel_rfl) (by kernel_rfl) (by omega) (by omega) rfl
attribute [local go_sem] ix0 ix1
def OkO (b0 b1 lC lD l10 lF:Int):Prop:=
 (-1≤lC∧lC≤400∧-1≤lD∧lD≤400∧-1≤b0∧b0≤1∧¬ (b0=0∧lC = -1)∧¬ (b0=1∧lD = -1)) ∧
 (-1≤l10∧l10≤400∧-1≤lF∧lF≤400∧-1≤b1∧b1≤1∧¬ (b1=0∧l10 = -1)∧¬ (b1=1∧lF = -1))
def iw (ok:Prop) (w:World) (e:Ending) (w':World):Prop:=∃ c:Int,e=.returned (.int .i64 c)∧(c=0↔ok)∧w=w'
theorem gK (b0 b1 lC lD l10 lF:Int) (w:World) :
  Calls Tryz.prog 211 #[.agg #[.int .i64 b0,.int .i64 b1,.int .i64 lC,.int .i64 lD,.int .i64 l10,.int .i64 lF]] w (iw (OkO b0 b1 lC lD l10 lF) (w.alloc (.cells #[.int .i64 b0,.int .i64 b1,.int .i64 lC,.int .i64 lD,.int .i64 l10,.int .i64 lF] 86))):=by
 have c0:b0<0∨b0=0∨b0=1∨1<b0:=by omega
 have c1:b1<0∨b1=0∨b1=1∨1<b1:=by omega
 rcases c0 with c0 | rfl | rfl | c0 <;> rcases c1 with c1 | rfl | rfl | c1
 all_goals
  go_enter Tryz.func211,Tryz.ntmps211
  go_wp2
  refine wp_loop_rounds 3 ?_
  repeat any_goals (first | (rw [rounds_succ]; go_wp2) | (refine wp_loop_rounds 3 ?_))
  all_goals
   go_ret
   refine ⟨_,rfl,?_,rfl⟩
   (try simp only [beq_iff_eq,beq_eq_false_iff_ne,ne_eq] at *)
   unfold OkO
   first | omega | (refine ⟨fun _=>?_,fun _=>by trivial⟩; omega)
end Go.Proofs.YteablcielclaeaaGreatDoor.off
namespace Go.Proofs.YteablcielclaeaaGreatDoor.off
open Go.ChangeShapes Go.WideShapes Go.ChangeAt Go.RowKit
set_option linter.unusedVariables false
set_option maxHeartbeats 4000000
open Go.Lib (hid)
def zX (kind aV moves:Int):Prop:=(kind=0∨kind=1)∧(aV=0∨aV=1)∧0≤moves∧moves≤400
theorem check_any (b0 b1 lC lD l10 lF kind aV moves:Int) (w:World) :
  Calls Tryz.prog 175 #[.agg #[.int .i64 b0,.int .i64 b1,.int .i64 lC,.int .i64 lD,.int .i64 l10,.int .i64 lF],.int .i64 kind,.int .i64 aV,.int .i64 moves] w (iw (OkO b0 b1 lC lD l10 lF∧zX kind aV moves) ((w.alloc (.cells #[.int .i64 b0,.int .i64 b1,.int .i64 lC,.int .i64 lD,.int .i64 l10,.int .i64 lF] 86)).alloc (.cells #[.int .i64 b0,.int .i64 b1,.int .i64 lC,.int .i64 lD,.int .i64 l10,.int .i64 lF] 86))):=by
 go_enter Tryz.func175,Tryz.ntmps175
 go_wp2_with fail
 refine (gK _ _ _ _ _ _ _).mono ?_
 rintro e w1 ⟨c,rfl,hc,rfl⟩
 by_cases h0:c=0
 ·have hok:=hid (hc.1 h0)
  subst h0
  clear hc
  go_wp2
  all_goals
   go_ret
   refine ⟨_,rfl,?_,rfl⟩
   unfold zX
   first | (refine ⟨fun _=>⟨hok.out,?_⟩,fun _=>by trivial⟩; omega) | (refine ⟨fun h=>?_,fun h=>?_⟩ <;> omega)
 ·have h1:(c != 0)=true:=by simpa using h0
  have hn:=hid (fun h=>h0 (hc.2 h))
  clear hc h0
  go_wp2
  go_ret
  exact ⟨_,rfl,⟨fun h=>by simp [h] at h1,fun h=>absurd h.1 hn.out⟩,rfl⟩
theorem PX (b0 b1 lC lD l10 lF:Int) (w:World) (hok:OkO b0 b1 lC lD l10 lF) (h:(b0 == 1)=true) :
  Calls Tryz.prog 172 #[.agg #[.int .i64 b0,.int .i64 b1,.int .i64 lC,.int .i64 lD,.int .i64 l10,.int .i64 lF],.int .i64 0] w (fun e w'=>e=.returned (.tuple #[.agg #[.int .i64 (-1),.int .i64 (-1),.int .i64 lC,.int .i64 lD,.int .i64 l10,.int .i64 lF],.int .i64 0])∧Below w.heap.size w w'):=by
 have H:=hid hok
 clear hok
 go_enter Tryz.func172,Tryz.ntmps172
 go_wp2_with fail
 refine (check_any b0 b1 lC lD l10 lF 0 0 0 _).mono ?_
 rintro e w1 ⟨c,rfl,hc,rfl⟩
 obtain rfl:c=0:=hc.2 ⟨H.out,by unfold zX; omega⟩
 clear hc
 go_wp2
 go_returns
 exact ⟨rfl,by go_grown⟩
theorem LW (b0 b1 lC lD l10 lF:Int) (w:World) (hok:OkO b0 b1 lC lD l10 lF) (h:(b0 == 1)=false) :
  Calls Tryz.prog 172 #[.agg #[.int .i64 b0,.int .i64 b1,.int .i64 lC,.int .i64 lD,.int .i64 l10,.int .i64 lF],.int .i64 0] w (fun e w'=>e=.returned (.tuple #[.agg #[.int .i64 b0,.int .i64 (-1),.int .i64 lC,.int .i64 lD,.int .i64 l10,.int .i64 lF],.int .i64 0])∧Below w.heap.size w w'):=by
 have H:=hid hok
 clear hok
 go_enter Tryz.func172,Tryz.ntmps172
 go_wp2_with fail
 refine (check_any b0 b1 lC lD l10 lF 0 0 0 _).mono ?_
 rintro e w1 ⟨c,rfl,hc,rfl⟩
 obtain rfl:c=0:=hc.2 ⟨H.out,by unfold zX; omega⟩
 clear hc
 go_wp2
 go_returns
 exact ⟨rfl,by go_grown⟩
theorem PY (b0 b1 lC lD l10 lF:Int) (w:World) (hok:OkO b0 b1 lC lD l10 lF) (h:(b0 == 0)=true) :
  Calls Tryz.prog 172 #[.agg #[.int .i64 b0,.int .i64 b1,.int .i64 lC,.int .i64 lD,.int .i64 l10,.int .i64 lF],.int .i64 1] w (fun e w'=>e=.returned (.tuple #[.agg #[.int .i64 (-1),.int .i64 (-1),.int .i64 lC,.int .i64 lD,.int .i64 l10,.int .i64 lF],.int .i64 0])∧Below w.heap.size w w'):=by
 have H:=hid hok
 clear hok
 go_enter Tryz.func172,Tryz.ntmps172
 go_wp2_with fail
 refine (check_any b0 b1 lC lD l10 lF 0 1 0 _).mono ?_
 rintro e w1 ⟨c,rfl,hc,rfl⟩
 obtain rfl:c=0:=hc.2 ⟨H.out,by unfold zX; omega⟩
 clear hc
 go_wp2
 go_returns
 exact ⟨rfl,by go_grown⟩
theorem LX (b0 b1 lC lD l10 lF:Int) (w:World) (hok:OkO b0 b1 lC lD l10 lF) (h:(b0 == 0)=false) :
  Calls Tryz.prog 172 #[.agg #[.int .i64 b0,.int .i64 b1,.int .i64 lC,.int .i64 lD,.int .i64 l10,.int .i64 lF],.int .i64 1] w (fun e w'=>e=.returned (.tuple #[.agg #[.int .i64 b0,.int .i64 (-1),.int .i64 lC,.int .i64 lD,.int .i64 l10,.int .i64 lF],.int .i64 0])∧Below w.heap.size w w'):=by
 have H:=hid hok
 clear hok
 go_enter Tryz.func172,Tryz.ntmps172
 go_wp2_with fail
 refine (check_any b0 b1 lC lD l10 lF 0 1 0 _).mono ?_
 rintro e w1 ⟨c,rfl,hc,rfl⟩
 obtain rfl:c=0:=hc.2 ⟨H.out,by unfold zX; omega⟩
 clear hc
 go_wp2
 go_returns
 exact ⟨rfl,by go_grown⟩
end Go.Proofs.YteablcielclaeaaGreatDoor.off
namespace Go.Proofs.YteablcielclaeaaGreatDoor
open Go.ChangeShapes Go.WideShapes Go.ChangeAt Go.RowKit
set_option linter.unusedVariables false
theorem Box.mid {w:World} {b:Nat} {cs:List Value} {t:TypeId} (h:Box w b cs t) (o:Nat) {l:List Value} (hl:(cs.drop o).take l.length=l):w.rangeAt b o l:=fun j v hv=>by
 refine h.cell (o+j) ?_
 rw [← hl,List.getElem?_take] at hv
 split at hv
 ·rwa [List.getElem?_drop] at hv
 ·cases hv
theorem Box.has {w:World} {b:Nat} {cs:List Value} {t:TypeId} (h:Box w b cs t) (o n:Nat) (hn:o+n≤cs.length):w.there b o n:=fun j hj=>by
 refine ⟨?_,h.frozen (o+j)⟩
 rw [h.cell (o+j) (v:=cs[o+j]'(by omega)) (List.getElem?_eq_getElem (by omega))]; rfl
def splice (cs:List Value) (o:Nat) (vs:List Value):List Value:=cs.take o++vs++cs.drop (o+vs.length)
theorem rV (b:Nat):∀ (vs cs:List Value) (o:Nat) (w:World) (t:TypeId),o+vs.length≤cs.length→Box w b cs t→Box (w.setCells b o vs) b (splice cs o vs) t
 | [],cs,o,w,t,hl,h=>by
  have e:splice cs o []=cs:=by simp [splice]
  rw [e]; exact h
 | v :: vs,cs,o,w,t,hl,h=>by
  have h1:Box (w.setCell ⟨b,o,none⟩ v) b (cs.set o v) t:=h.set o v
  have h2:=rV b vs (cs.set o v) (o+1) (w.setCell ⟨b,o,none⟩ v) t (by simp at hl ⊢; omega) h1
  have e:splice (cs.set o v) (o+1) vs=splice cs o (v :: vs):=by
   have ho:o<cs.length:=by simp at hl; omega
   unfold splice
   rw [List.drop_set_of_lt (by omega)]
   have:(cs.set o v).take (o+1)=cs.take o++[v]:=by
    rw [List.take_succ_eq_append_getElem (by simpa using ho),List.getElem_set_self,List.take_set_of_le (Nat.le_refl _)]
   rw [this]
   rw [List.append_assoc,List.append_assoc]
   simp only [List.singleton_append,List.length_cons,List.append_assoc,List.cons_append,List.nil_append]
   rw [show o+1+vs.length=o+(vs.length+1) by omega]
  rw [e] at h2
  exact h2
theorem Box.Yg {w:World} {b:Nat} {cs vs cs':List Value} {t:TypeId} (h:Box w b cs t) (o:Nat) (hl:o+vs.length≤cs.length) (he:splice cs o vs=cs'):Box (w.setCells b o vs) b cs' t:=he ▸ rV b vs cs o w t hl h
end Go.Proofs.YteablcielclaeaaGreatDoor
namespace Go.Proofs.YteablcielclaeaaGreatDoor
open Go.ChangeShapes Go.WideShapes Go.ChangeAt Go.RowKit
set_option linter.unusedVariables false
open Go.Lib (hid)
theorem DU (v:Value) (zs:List Int) (p:Int→Bool) (f:FuncId) (caps:Array Value) (w:World) (h:fQ w v zs) (hf:∀ (args:Array Value) (w:World),(callFunc f args).run Tryz.prog w=.ok (.enter f args) w)
  (hc:∀ (W:World) (z:Int),z∈zs→Below w.heap.size w W→Calls Tryz.prog f (#[.int .i64 z]++caps) W fun e w'=>e=.returned (.bool (p z))∧Below W.heap.size W w') :
  Calls Tryz.prog 77 #[v,.func (.func f) #[] caps] w fun e w'=>e=.returned (.int .i64 (wL p zs 0))∧Below w.heap.size w w':=by
 obtain ⟨a,c,rfl,h1,h2⟩:=h.form
 unfold maxLen at h2
 have HR:=hid h
 have HC:=hid hc
 clear h hc
 go_enter Tryz.func77,Tryz.ntmps77
 go_wp2_with fail
 go_loopw [8] (fun i wr=>∃ k:Nat,k≤zs.length∧i=.int .i64 k∧Hid (wL p zs 0=wL p (zs.drop k) k)∧Below w.heap.size w wr) (fun i _=>zs.length - (intOf i).toNat)
 case atStart=>exact ⟨0,Nat.zero_le _,rfl,hid rfl,Below.refl _ _⟩
 case round =>
  obtain ⟨k,hk,rfl,HK,hbl⟩:=hrel
  by_cases hlt:k<zs.length
  ·obtain ⟨g,o,rfl,hcell⟩:=eP (HR.out.below hbl (Nat.le_refl _)) (by omega)
   have ck:=hcell k hlt
   have HS:=hid (Gh p zs k hlt)
   have JQ:=hid (HC.out wr (zs.getD k 0) (by rw [List.getD_eq_getElem?_getD,List.getElem?_eq_getElem hlt]; exact List.getElem_mem hlt) hbl)
   have HB:=hid hbl
   clear hcell hbl
   generalize zs.getD k 0=z at *
   go_wp2_with fail
   refine JQ.out.mono ?_
   rintro e w1 ⟨rfl,hb1⟩
   have HB1:=hid (ak HB.out hb1 HB.out.size)
   clear hb1
   cases hp:p z
   ·go_wp2_with fail
    go_roundw
    case rel=>exact ⟨k+1,by omega,by go_num,hid (by rw [HK.out,HS.out,if_neg (by simp [hp])]),HB1.out⟩
    case measure=>simp [intOf]; omega
   ·go_wp2_with fail
    go_ret
    exact ⟨by rw [HK.out,HS.out,if_pos hp]; rfl,HB1.out⟩
  ·obtain rfl:k=zs.length:=by omega
   go_wp2_with fail
   go_ret
   exact ⟨by rw [HK.out]; simp [wL],hbl⟩
theorem yJ (v:Value) (zs:List Int) (p:Int→Bool) (f:FuncId) (caps:Array Value) (w:World) (h:fQ w v zs) (hf:∀ (args:Array Value) (w:World),(callFunc f args).run Tryz.prog w=.ok (.enter f args) w)
  (hc:∀ (W:World) (z:Int),z∈zs→Below w.heap.size w W→Calls Tryz.prog f (#[.int .i64 z]++caps) W fun e w'=>e=.returned (.bool (p z))∧Below W.heap.size W w') :
  Calls Tryz.prog 35 #[v,.func (.func f) #[] caps] w fun e w'=>e=.returned (.bool (zs.any p))∧Below w.heap.size w w':=by
 have HI:=hid (DU v zs p f caps w h hf hc)
 have HA:=hid (CS p zs 0 (by omega))
 clear h hc hf
 go_enter Tryz.func35,Tryz.ntmps35
 go_wp2_with fail
 refine HI.out.mono ?_
 rintro e w' ⟨rfl,hb⟩
 have HB:=hid hb
 clear hb
 go_wp2_with fail
 go_ret
 exact ⟨by rw [← HA.out]; rfl,HB.out⟩
end Go.Proofs.YteablcielclaeaaGreatDoor
namespace Go.Proofs.YteablcielclaeaaGreatDoor
open Go.ChangeShapes Go.WideShapes Go.ChangeAt Go.RowKit
set_option linter.unusedVariables false
set_option maxHeartbeats 4000000
set_option maxRecDepth 100000
end Go.Proofs.YteablcielclaeaaGreatDoor
namespace Go.Proofs.YteablcielclaeaaGreatDoor
open Go.ChangeShapes Go.WideShapes Go.ChangeAt Go.RowKit
set_option linter.unusedVariables false
open Go.Lib (hid)
theorem Yh (v:Value) (es:List jA) (w:World) (h:JX w v es) (hok:OkJ es) (hlen:es.length≤1000) :
  Calls Tryz.prog 84 #[v] w (IQ 0 w):=by
 have HG:=hid (abE v es w h hok hlen)
 obtain ⟨a,c,rfl,h1,h2,hc⟩:=h.form
 unfold maxLen at h2
 clear h hok hc
 go_enter Tryz.func84,Tryz.ntmps84
 go_wp2_with fail
 refine HG.out.mono ?_
 rintro e w1 ⟨rfl,hb⟩
 go_wp2_with fail
 go_ret
 exact ⟨rfl,hb⟩
theorem adO:(Tryz.prog.info? 205).map (fun i=>(i.zero,i.size,i.bytes))=some (some (.agg #[.string ByteArray.empty,.int .u64 0]),2,24):=by kernel_rfl
theorem Uk (es:List jA):∀ u∈iD es,u.oneCell'=true:=by
 intro u hu
 simp only [iD,List.mem_flatMap] at hu
 obtain ⟨e,_,hq⟩:=hu
 simp at hq
 rcases hq with rfl | rfl <;> rfl
def ais (es:List jA) (w:World) (v:Value) (w':World):Prop:=w'.ownsRow w.heap.size 205 2 v es.length (iD es)∧Below w.heap.size w w'
theorem PZ (v:Value) (es:List jA) (w:World) (h:JX w v es) (hl:es.length≤1000000) :
  Calls Tryz.prog 86 #[v] w fun e w'=>∃ v',e=.returned v'∧ais es w v' w':=by
 obtain ⟨i0,hi,hz0,hz1,hz2⟩:=info_parts adO
 have hq:=fun (w:World) (a:Option Addr) (n c:Nat)=>Lib.run_eql_slice_nil (P:=Tryz.prog) w 128 205 a n c 0 0 Tryz.underlying128
 have hform:(∃ c,v=.slice none 0 c∧es=[])∨∃ (ad:Addr) (c:Nat),v=.slice (some ad) es.length c∧es.length≤c∧c≤maxLen∧∀ j u,(iD es)[j]?=some u→(w.alloc (.cells #[] 205)).cell? (ad.add j)=some u:=by
  rcases h.2 with ⟨⟨a,c,rfl,hm⟩,hz⟩ | ⟨g,o,c,rfl,h1,h2,hc⟩
  ·obtain rfl:es=[]:=List.length_eq_zero_iff.1 hz
   cases a with
   | none=>exact .inl ⟨c,rfl,rfl⟩
   | some ad=>exact .inr ⟨ad,c,rfl,by simp,hm,fun j u hu=>by simp [iD] at hu⟩
  ·refine .inr ⟨⟨g,o,none⟩,c,rfl,h1,h2,fun j u hu=>?_⟩
   have hj:j<es.length * 2:=by
    have:=(List.getElem?_eq_some_iff.1 hu).1
    rwa [Gn] at this
   have hcell:=hc j hj
   rw [hu] at hcell
   have hlt:=World.block_lt_of_cell? w _ hcell
   rw [lT,World.cell?_of_block (w:=w) (a:=⟨g,o+j,none⟩) (Below.heap_alloc w _ g hlt)]
   exact hcell
 rcases hform with ⟨c,rfl,rfl⟩ | ⟨ad,c,rfl,h1,h2,hnews⟩
 ·clear h hl
  go_enter Tryz.func86,Tryz.ntmps86
  go_wp2
  go_ret
  exact ⟨_,rfl,World.ownsRow_nil _ _ _ _,Below.refl _ _⟩
 ·have hown0:(w.alloc (.cells #[] 205)).ownsRow w.heap.size 205 2 (.slice (some ⟨w.heap.size,0,none⟩) 0 0) 0 []:=World.ownsRow_made w #[] 0 (Nat.le_refl _) (by unfold maxLen; omega) rfl
  have nX:=hid hown0
  have nY:=hid hnews
  have OU:=hid (Gn es)
  have S1:=hid (Uk es)
  clear hown0 hnews h
  go_enter Tryz.func86,Tryz.ntmps86
  go_wp2_with (at_builtin; refine wpList_append_own _ rfl _ _ 128 rfl w.heap.size 205 i0 (.agg #[.string ByteArray.empty,.int .u64 0]) 2 24 Tryz.underlying128 hi hz0 hz1 hz2 rfl (by decide) _ 0 [] rfl nX.out ad es.length c (iD es) rfl OU.out nY.out S1.out ?c3 ?c4 ?c5 ?_)
  case c3=>unfold maxLen; omega
  case c4=>omega
  case c5=>simp
  intro v' w2 hown' hgrow _
  try simp only [Nat.zero_add,List.nil_append] at hown'
  have hb:Below w.heap.size w w2:=Below.grown ((Below.refl _ w).alloc (Nat.le_refl _) _) hgrow (by simp) (fun q hq=>by simp [Value.ownBlock] at hq; omega)
  have HO:=hid hown'
  clear hown' hgrow
  go_wp2
  go_ret
  exact ⟨v',rfl,HO.out,hb⟩
def appJ (es:List jA) (s:ByteArray):List jA×Int:=if textE s≠0 then ([],textE s) else (es++[⟨s,BF (rQ es) s⟩],0)
def abZ (r:List jA×Int) (w:World) (e:Ending) (w':World):Prop:=∃ v',e=.returned (.tuple #[v',.int .i64 r.2])∧ais r.1 w v' w'
set_option maxHeartbeats 1000000 in
theorem uJ (v:Value) (es:List jA) (s:ByteArray) (w:World) (h:JX w v es) (hok:OkJ es) (hlen:es.length≤100) (hs:s.size≤9223372036854775807) :
  Calls Tryz.prog 45 #[v,.string s] w (abZ (appJ es s) w):=by
 obtain ⟨i0,hi,hz0,hz1,hz2⟩:=info_parts adO
 have HC:=hid (Yh v es w h hok (by omega))
 have HT:=hid (fun w=>LH s w hs)
 have HR:Hid (appJ es s=if textE s≠0 then ([],textE s) else (es++[⟨s,BF (rQ es) s⟩],0)):=hid rfl
 have HJ:=hid h
 obtain ⟨a,c,rfl,h1,h2,hc⟩:=h.form
 unfold maxLen at h2
 clear h hok hc
 go_enter Tryz.func45,Tryz.ntmps45
 go_wp2_with fail
 refine HC.out.mono ?_
 rintro e w1 ⟨rfl,hb1⟩
 go_wp2_with fail
 refine (HT.out _).mono ?_
 rintro e w2 ⟨rfl,hb2⟩
 have Yi:=hb1.trans (hb2.mono hb1.size)
 have HJ2:=hid (HJ.out.below Yi (Nat.le_refl _))
 clear hb1 hb2
 cases hr:(textE s != 0)
 ·have hr0:textE s=0:=by simpa using hr
  have HR2:Hid (appJ es s=(es++[⟨s,BF (rQ es) s⟩],0)):=hid (by rw [HR.out,if_neg (by simpa using hr0)])
  rw [hr0]
  have hnf:(((es.length:Int)) == 1000)=false:=by simp; omega
  clear hr hr0 HR HT HC
  go_wp2_with fail
  refine (PZ _ es _ HJ2.out (by omega)).mono ?_
  rintro e w3 ⟨v3,rfl,ho3,hb3⟩
  have HJ3:=hid (HJ2.out.below hb3 (Nat.le_refl _))
  have oz:=hid ho3
  have anC:=Yi.trans (hb3.mono Yi.size)
  have hs3:=hb3.size
  have hs2:=Yi.size
  clear ho3 hb3
  go_wp2_with fail
  refine (last_any _ es _ HJ3.out).mono ?_
  rintro e w' ⟨rfl,rfl⟩
  go_wp2_with fail
  refine (RG (rQ es) s _ hs).mono ?_
  rintro e w' ⟨rfl,rfl⟩
  generalize BF (rQ es) s=z at *
  have Ul:=hid (oz.out.alloc (.cells #[.string s,.int .u64 z] 205))
  have S1:Hid (∀ u∈[Value.string s,.int .u64 z],u.oneCell'=true):=hid (fun u hu=>by simp at hu; rcases hu with rfl | rfl <;> rfl)
  have S2:Hid (es.length+1≤maxLen):=hid (by unfold maxLen; omega)
  have S3:Hid ((es.length+1) * 24≤140737488355328):=hid (by omega)
  have S4:Hid (w2.heap.size≤(w3.alloc (.cells #[.string s,.int .u64 z] 205)).heap.size):=hid (by simp; omega)
  have S5:Hid ((w3.alloc (.cells #[.string s,.int .u64 z] 205)).heap.size=w3.heap.size+1):=hid (by simp)
  have S0:Hid (0<1):=hid (by omega)
  go_wp2_with (at_builtin; refine wpList_append_lies _ rfl _ _ 128 rfl w2.heap.size 205 i0 (.agg #[.string ByteArray.empty,.int .u64 0]) 2 24 Tryz.underlying128 hi hz0 hz1 hz2 rfl (by decide) _ es.length (iD es) rfl Ul.out ⟨w3.heap.size,0,none⟩ 1 1 [.string s,.int .u64 z] rfl rfl (cell_two_new _ _ _ _) S1.out S0.out S2.out S3.out S4.out (w3.heap.size+1) S5.out ?_)
  intro g4 c4 w4 hown4 hgrow4 anD hlt4
  have hb4:Below w.heap.size w w4:=Below.grown (anC.alloc (by omega) _) hgrow4 (by simp; omega) (fun q hq=>by have:=(Ul.out.lt q hq).1; omega)
  have HO4:=hid hown4
  clear hown4 hgrow4 anD hlt4 Ul
  go_wp2_with fail
  go_ret2
  exact ⟨_,by rw [HR2.out]; rfl,by rw [HR2.out]; refine ⟨?_,hb4⟩; simp only [IU,List.length_append]; have:=HO4.out; exact ⟨by simpa [iD] using this.1,by
   rcases this.2 with ⟨q,_⟩ | ⟨g',cap',cur',q1,q2,q3⟩
   ·cases q
   ·exact .inr ⟨g',cap',cur',q1,by omega,q3⟩⟩⟩
 ·have hr':¬ textE s=0:=by simpa using hr
  have HR2:Hid (appJ es s=([],textE s)):=hid (by rw [HR.out,if_pos hr'])
  generalize textE s=t at *
  clear hr'
  go_wp2_with fail
  go_ret2
  exact ⟨_,by rw [HR2.out]; rfl,by rw [HR2.out]; exact ⟨World.ownsRow_nil _ _ _ _,Yi⟩⟩
structure kM where
  vp:Value
  vs:Value
  ve:Value
  pa:Option Addr
  pc:Nat
  g:Nat
  vr:Value
  vj:Value
def Um (M:aP) (B:kM):List Value:=
  [.string M.R.name,.int .i64 M.R.width,.int .i64 M.R.height,B.vp,B.vs,.bool M.R.falls,.bool M.R.keeps,B.ve,.int .i64 M.R.blocked,.int .i64 M.R.quiet,.int .i64 M.R.bC,
   .slice B.pa M.CR.ps.length B.pc,.int .i64 M.CR.inc,.int .i64 M.CR.delay,.pointer (some ⟨B.g,0,none⟩),.slice none 0 0,.int .i64 M.res,.int .i64 M.reason,
   .int .i64 M.clk.l0,.int .i64 M.clk.l1,.int .i64 M.clk.m0,.int .i64 M.clk.m1,.int .i64 M.clk.p0,.int .i64 M.clk.p1,.int .i64 M.clk.turn,.int .i64 M.clk.since,.bool M.clk.st,.int .i64 M.clk.ay,
   .int .i64 M.off.b0,.int .i64 M.off.b1,.int .i64 M.off.lC,.int .i64 M.off.lD,.int .i64 M.off.l10,.int .i64 M.off.lF,B.vr,.int .i64 M.last,B.vj]
structure Yj (M:aP) (B:kM) (w:World):Prop where
  rd:pV w M.R B.vp B.vs B.ve
  per:clk.gG w w.heap.size B.pa M.CR.ps.length M.CR.ps
  pc:M.CR.ps.length≤B.pc∧B.pc≤maxLen
  pr:iC pR w B.vr M.aX
  jr:JX w B.vj M.jr
def one1 (b:Nat):Nat→Prop:=fun k=>k=b
def noX:Nat→Prop:=fun _=>False
def out1 (X:Nat→Prop) (b:Nat):Nat→Prop:=fun k=>k=b∨X k
structure aY (X S:Nat→Prop) (base:Nat) (w:World) (b:Nat) (M:aP) (B:kM):Prop where
  box:Box w b (Um M B) 130
  nb:¬ S b
  lo:base≤b
  game:∃ up us ue vl vm rows,gx.bJ (out1 X b) S base w B.g M.R M.ms up us ue vl vm rows
  rd:gx.Held (out1 X b) S w (Yj M B)
  nx:∀ k,X k→¬ S k∧k<w.heap.size
theorem aY.fr {X S:Nat→Prop} {base:Nat} {w:World} {b:Nat} {M:aP} {B:kM} (h:aY X S base w b M B):Yj M B w:=h.rd.now
theorem aY.below {X S:Nat→Prop} {base:Nat} {w w':World} {b:Nat} {M:aP} {B:kM} (h:aY X S base w b M B) (hb:Below w.heap.size w w'):aY X S base w' b M B:=by
  obtain ⟨up,us,ue,vl,vm,rows,hg⟩:=h.game
  exact ⟨h.box.stays hb,h.nb,h.lo,⟨_,_,_,_,_,_,hg.below hb⟩,h.rd.step (Fr.jM (S:=S) hb) (iE.refl _ _),fun k hk=>⟨(h.nx k hk).1,Nat.lt_of_lt_of_le (h.nx k hk).2 hb.size⟩⟩
def iO (S:Nat→Prop) (b:Nat) (w w':World):Prop:=Fr (fun k=>S k∨one1 b k) w w'
theorem iO.refl (S:Nat→Prop) (b:Nat) (w:World):iO S b w w:=Fr.refl _ _
theorem iO.trans {S S':Nat→Prop} {b:Nat} {w w1 w2:World} (h:iO S b w w1) (k:iO S' b w1 w2) (hs:iE w S S'):iO S b w w2:=
  Fr.trans h k (fun i hi h'=>by rcases h' with h' | h'; exact .inl (hs i hi h'); exact .inr h')
theorem iO.new {S:Nat→Prop} {b:Nat} {w w':World} (h:Below w.heap.size w w'):iO S b w w':=Fr.jM h
theorem iO.base {X S:Nat→Prop} {base b:Nat} {w w':World} {M:aP} {B:kM} (m:aY X S base w b M B) (h:iO S b w w') (hb:base≤w.heap.size):Below base w w':=by
  obtain ⟨up,us,ue,vl,vm,rows,hg⟩:=m.game
  exact Fr.below h (fun k hk=>by rcases hk with hk | hk; exact (hg.lo k hk).1; rw [show k=b from hk]; exact m.lo) hb
theorem aY.put {X S:Nat→Prop} {base:Nat} {w:World} {b:Nat} {M M':aP} {B B':kM} (h:aY X S base w b M B) (o:Nat) (vs:List Value) (hl:o+vs.length≤37) (he:splice (Um M B) o vs=Um M' B') (hr:M'.R=M.R) (hm:M'.ms=M.ms) (hg:B'.g=B.g)
    (hd:gx.Held (out1 X b) S w (Yj M' B')):aY X S base (w.setCells b o vs) b M' B'∧iO S b w (w.setCells b o vs):=by
  have hf:iO S b w (w.setCells b o vs):=(Fr.refl _ _).setCells (.inr rfl) o vs
  obtain ⟨up,us,ue,vl,vm,rows,hgm⟩:=h.game
  have hfx:Fr (out1 X b) w (w.setCells b o vs):=(Fr.refl (out1 X b) w).setCells (b:=b) (show out1 X b b from .inl rfl) o vs
  refine ⟨⟨h.box.Yg o (by simpa [Um] using hl) he,h.nb,h.lo,⟨up,us,ue,vl,vm,rows,?_⟩,hd.RJ (hf.mono (fun k _ hk=>by rcases hk with hk | hk; exact .inl hk; exact .inr (.inl hk))) (iE.refl _ _),fun k hk=>⟨(h.nx k hk).1,Nat.lt_of_lt_of_le (h.nx k hk).2 hf.size⟩⟩,hf⟩
  rw [hr,hm,hg]
  exact hgm.other hfx (fun k hk hx=>by rcases hx with hx | hx; exact h.nb (by rw [← (show k=b from hx)]; exact hk); exact (h.nx k hx).1 hk)
theorem aY.LY {X S:Nat→Prop} {base b:Nat} {M:aP} {B:kM} {w:World} (h:aY X S base w b M B) (k:Nat) (hk:S k∨out1 X b k):k<w.heap.size:=by
  obtain ⟨up,us,ue,vl,vm,rows,hg⟩:=h.game
  rcases hk with hk | hk | hk
  · exact (hg.lo k hk).2
  · rw [hk]; exact h.box.lt
  · exact (h.nx k hk).2
end Go.Proofs.YteablcielclaeaaGreatDoor
namespace Go.Proofs.YteablcielclaeaaGreatDoor
open Go.ChangeShapes Go.WideShapes Go.ChangeAt Go.RowKit
set_option linter.unusedVariables false
set_option maxRecDepth 100000
open Go.Lib (hid)
def AZ (X S:Nat→Prop) (base b:Nat) (w:World) (M':aP) (w':World):Prop:=∃ S' B',aY X S' base w' b M' B'∧iE w S S'∧iO S b w w'
variable {X S:Nat→Prop} {base b:Nat} {M:aP} {B:kM}
theorem Un (a b c:Value) (t q:Int) (w:World):(Instr.field 158 (.agg #[a,b,c,.int .i64 t,.int .i64 q]) 2).run Tryz.prog w=.ok (.int .i64 t) w:=by kernel_rfl
theorem LZ (w:World) (h:aY X S base w b M B):Calls Tryz.prog 124 #[.pointer (some ⟨b,0,none⟩)] w fun e w'=>e=.returned (.int .i64 M.pos.turn)∧Below w.heap.size w w':=by
 obtain ⟨up,us,ue,vl,vm,rows,hg⟩:=h.game
 have HG:=hid hg.plain
 have HD:Hid (M.pos=bV M.R M.ms):=hid rfl
 have c14:=h.box.cell 14 rfl
 clear h hg
 go_enter Tryz.func124,Tryz.ntmps124
 go_wp2_with fail
 refine (lY w HG.out).mono ?_
 rintro e w1 ⟨vc,v0,v1,rfl,ho,hb⟩
 have HB:=hid hb
 clear hb ho
 have HT:Hid ((bV M.R M.ms).turn=M.pos.turn):=hid rfl
 have hfT:=Un vc v0 v1 (bV M.R M.ms).turn (bV M.R M.ms).quiet
 generalize (bV M.R M.ms).turn=tt at *
 generalize (bV M.R M.ms).quiet=qq at *
 go_wp2_with fail
 go_ret
 exact ⟨by rw [HT.out]; rfl,HB.out⟩
theorem RP (w:World) (h:aY X S base w b M B):Calls Tryz.prog 128 #[.pointer (some ⟨b,0,none⟩)] w fun e w'=>e=.returned (.int .i64 M.ms.length)∧Below w.heap.size w w':=by
 obtain ⟨up,us,ue,vl,vm,rows,hg⟩:=h.game
 have HG:=hid hg.plain
 have c14:=h.box.cell 14 rfl
 clear h hg
 go_enter Tryz.func128,Tryz.ntmps128
 go_wp2_with fail
 refine (vV w HG.out).mono ?_
 rintro e w1 ⟨v,rfl,ho,hb⟩
 obtain ⟨a,c,rfl⟩:=aG ho
 have HB:=hid hb
 clear hb ho
 go_wp2_with fail
 go_ret
 exact ⟨rfl,HB.out⟩
theorem yK (HS:SortMvSaid) (w:World) (h:aY X S base w b M B):Calls Tryz.prog 47 #[.pointer (some ⟨b,0,none⟩)] w fun e w'=>e=.returned (.tuple #[])∧AZ X S base b w M.over w':=by
 obtain ⟨up,us,ue,vl,vm,rows,hg⟩:=h.game
 have HG:=hid hg.plain
 have HM:=hid h
 have HD:Hid (fZ M.R M.ms=M.game):=hid rfl
 have qo:=hid HS
 have c14:=h.box.cell 14 rfl
 clear h hg HS
 go_enter Tryz.func47,Tryz.ntmps47
 go_wp2_with fail
 refine (oZ qo.out w HG.out).mono ?_
 rintro e w1 ⟨rfl,hb⟩
 rw [HD.out]
 have vF:=hid (HM.out.below hb)
 have Rw:Hid (iO S b w w1):=hid (iO.new hb)
 have HZ:=hid hb
 clear hb c14
 have c16:=vF.out.box.cell 16 rfl
 have f16:=vF.out.box.frozen 16
 have c17:=vF.out.box.cell 17 rfl
 have f17:=vF.out.box.frozen 17
 by_cases hr:M.res=0
 ·have HRz:=hid hr
  rw [hr] at c16
  clear hr
  by_cases hz:M.game=0
  ·have HO:Hid (M.over=M):=hid (by unfold aP.over; rw [if_neg (fun h=>h.1 hz)])
   rw [hz]
   clear hz
   go_wp2_with fail
   go_end0
   exact ⟨rfl,S,B,by rw [HO.out]; exact vF.out,iE.refl _ _,Rw.out⟩
  ·have HO:Hid (M.over={ M with res:=M.game,reason:=1 }):=hid (by unfold aP.over; rw [if_pos ⟨hz,HRz.out⟩])
   have hzb:(M.game != 0)=true:=by simpa using hz
   have HP:=hid (vF.out.put (M':={ M with res:=M.game,reason:=1 }) (B':=B) 16 [.int .i64 M.game,.int .i64 1] (by simp) rfl rfl rfl rfl (vF.out.rd.imp (fun _ h=>⟨h.rd,h.per,h.pc,h.pr,h.jr⟩)))
   clear hz
   generalize M.game=gm at *
   go_wp2_with fail
   go_end0
   exact ⟨rfl,S,B,by rw [HO.out]; exact HP.out.1,iE.refl _ _,Rw.out.trans HP.out.2 (iE.refl _ _)⟩
 ·have HO:Hid (M.over=M):=hid (by unfold aP.over; rw [if_neg (fun h=>hr h.2)])
  have hrb:(M.res == 0)=false:=by simpa using hr
  clear hr
  generalize M.game=gm at *
  go_wp2_with fail
  go_end0
  exact ⟨rfl,S,B,by rw [HO.out]; exact vF.out,iE.refl _ _,Rw.out⟩
end Go.Proofs.YteablcielclaeaaGreatDoor
namespace Go.Proofs.YteablcielclaeaaGreatDoor
open Go.ChangeShapes Go.WideShapes Go.ChangeAt Go.RowKit
set_option linter.unusedVariables false
def IZ (c:oG):Value:=.agg #[.int .i64 c.l0,.int .i64 c.l1,.int .i64 c.m0,.int .i64 c.m1,.int .i64 c.p0,.int .i64 c.p1,.int .i64 c.turn,.int .i64 c.since,.bool c.st,.int .i64 c.ay]
theorem BX.ok {CR:qW} (h:BX CR):clk.dR CR.ps.length CR.inc CR.delay CR.ps:=by
 refine ⟨h.n,h.inc,h.del,fun k hk=>?_⟩
 have h1:=h.pm k hk; have h2:=h.pt k hk; have h3:=h.pz k hk
 unfold clk.lZ
 rw [clk.eU h1,clk.eU h2,Bool.true_and,Bool.true_and,beq_iff_eq]
 by_cases e:(CR.ps.getD k (0,0)).1=0
 ·have:=h3.1 e
  rw [show ((CR.ps.getD k (0,0)).1 == 0)=true by simpa using e]
  exact (beq_iff_eq.2 (by omega)).symm
 ·have:¬ (k+1=CR.ps.length):=fun q=>e (h3.2 q)
  rw [show ((CR.ps.getD k (0,0)).1 == 0)=false by simpa using e]
  exact (beq_eq_false_iff_ne.2 (by omega)).symm
theorem BX.of {CR:qW} (h:clk.dR CR.ps.length CR.inc CR.delay CR.ps):BX CR:=by
 have key:∀ k,k<CR.ps.length→(0≤(CR.ps.getD k (0,0)).1∧(CR.ps.getD k (0,0)).1≤400)∧(1≤(CR.ps.getD k (0,0)).2∧(CR.ps.getD k (0,0)).2≤100000000)∧((CR.ps.getD k (0,0)).1=0↔k+1=CR.ps.length):=fun k hk=>by
  have:=h.2.2.2 k hk
  unfold clk.lZ at this
  rw [Bool.and_eq_true,Bool.and_eq_true] at this
  obtain ⟨h1,h2,h3⟩:=this
  refine ⟨clk.iK.1 h1,clk.iK.1 h2,?_⟩
  rw [beq_iff_eq] at h3
  constructor
  ·intro e
   rw [show ((CR.ps.getD k (0,0)).1 == 0)=true by simpa using e] at h3
   have:=beq_iff_eq.1 h3.symm
   omega
  ·intro e
   rw [show ((k:Int) == (CR.ps.length:Int) - 1)=true by rw [beq_iff_eq]; omega] at h3
   exact beq_iff_eq.1 h3
 exact ⟨h.1,h.2.1,h.2.2.1,fun k hk=>(key k hk).1,fun k hk=>(key k hk).2.1,fun k hk=>(key k hk).2.2⟩
theorem tH.ok {CR:qW} {c:oG} (h:tH CR c):clk.iQ CR.ps.length c.l0 c.l1 c.m0 c.m1 c.p0 c.p1 c.turn c.since c.ay:=⟨h.t,h.f,h.s,h.p0,h.m0,h.l0,h.p1,h.m1,h.l1⟩
def Yk (o:mG):Value:=.agg #[.int .i64 o.b0,.int .i64 o.b1,.int .i64 o.lC,.int .i64 o.lD,.int .i64 o.l10,.int .i64 o.lF]
theorem qF.ok {o:mG} (h:qF o):off.OkO o.b0 o.b1 o.lC o.lD o.l10 o.lF:=by
 obtain ⟨⟨a1,a2⟩,⟨a3,a4⟩,⟨a5,a6⟩,⟨a7,a8⟩,⟨a9,a10⟩,⟨b1,b2⟩,c1,c2,c3,c4⟩:=h
 exact ⟨⟨a1,a2,a3,a4,a9,a10,c1,c2⟩,a5,a6,a7,a8,b1,b2,c3,c4⟩
theorem ab1 (o:mG) (p:Int) (w:World) (h:qF o) (hp:p=0∨p=1) :
  Calls Tryz.prog 172 #[.agg #[.int .i64 o.b0,.int .i64 o.b1,.int .i64 o.lC,.int .i64 o.lD,.int .i64 o.l10,.int .i64 o.lF],.int .i64 p] w fun e w'=>e=.returned (.tuple #[Yk (rU o p),.int .i64 0])∧Below w.heap.size w w':=by
 have hok:=h.ok
 unfold rU Yk
 rcases hp with rfl | rfl
 ·by_cases hb:o.b0=1
  ·rw [if_pos (show o.b0=1 - 0 by omega)]; exact off.PX _ _ _ _ _ _ w hok (by simpa using hb)
  ·rw [if_neg (show ¬ o.b0=1 - 0 by omega)]; exact off.LW _ _ _ _ _ _ w hok (by simpa using hb)
 ·by_cases hb:o.b0=0
  ·rw [if_pos (show o.b0=1 - 1 by omega)]; exact off.PY _ _ _ _ _ _ w hok (by simpa using hb)
  ·rw [if_neg (show ¬ o.b0=1 - 1 by omega)]; exact off.LX _ _ _ _ _ _ w hok (by simpa using hb)
end Go.Proofs.YteablcielclaeaaGreatDoor
namespace Go.Proofs.YteablcielclaeaaGreatDoor
open Go.ChangeShapes Go.WideShapes Go.ChangeAt Go.RowKit
set_option linter.unusedVariables false
theorem aY.ae2 {X S:Nat→Prop} {base:Nat} {w w':World} {b:Nat} {M:aP} {B:kM} (h:aY X S base w b M B) {S':Nat→Prop} {ms':List aB} {up us ue vl vm:Value} {rows:List lK} (hg:gx.bJ (out1 X b) S' base w' B.g M.R ms' up us ue vl vm rows) (hs:iE w S S') (hf:Fr S w w') :
  aY X S' base w' b { M with ms:=ms' } B∧iO S b w w':=
 ⟨⟨h.box.held hf h.nb,fun hb=>h.nb (hs b h.box.lt hb),h.lo,⟨_,_,_,_,_,_,hg⟩,(h.rd.step hf hs).imp (fun _ h=>⟨h.rd,h.per,h.pc,h.pr,h.jr⟩),fun k hk=>⟨fun hc=>(h.nx k hk).1 (hs k (h.nx k hk).2 hc),Nat.lt_of_lt_of_le (h.nx k hk).2 hf.size⟩⟩,hf.mono (fun k _ h=>.inl h)⟩
theorem ab2 (c:oG):(#[.int .i64 c.l0,.int .i64 c.l1,.int .i64 c.m0,.int .i64 c.m1,.int .i64 c.p0,.int .i64 c.p1,.int .i64 c.turn,.int .i64 c.since,.bool c.st,.int .i64 c.ay]:Array Value).all (·.oneCell')=true:=by simp [Value.oneCell']
structure RQ (M:aP) (x:aB) (now:Int):Prop where
 pe:eu M.R M.ms x=0
 cr:BX M.CR
 ck:tH M.CR M.clk
 sn:M.clk.since≤now
 nw:now≤100000000
 st:M.clk.st=false
 fl:M.clk.ay<0
 us:kU M.CR M.clk now≤if M.clk.turn=0 then M.clk.l0 else M.clk.l1
 og:qF M.off
 tn:M.pos.turn=0∨M.pos.turn=1
variable {X S:Nat→Prop} {base b:Nat} {M:aP} {B:kM}
end Go.Proofs.YteablcielclaeaaGreatDoor
namespace Go.Proofs.YteablcielclaeaaGreatDoor
open Go.ChangeShapes Go.WideShapes Go.ChangeAt Go.RowKit
set_option linter.unusedVariables false
structure Mid (M:aP) (now:Int):Prop where
 nm:M.R.name.size≤maxLen
 cr:BX M.CR
 ck:tH M.CR M.clk
 sn:M.clk.since≤now
 nw:now≤100000000
 st:M.clk.st=false
 fl:M.clk.ay<0
 og:qF M.off
 pr:pq M.aX
 us:kU M.CR M.clk now≤if M.clk.turn=0 then M.clk.l0 else M.clk.l1
theorem Mid.n0 {M:aP} {now:Int} (h:Mid M now):0≤now:=by have:=h.ck.s; have:=h.sn; omega
theorem Mid.move {M:aP} {now:Int} (h:Mid M now) (x:aB):Mid (M.move x now) now:=by
 have hr:=PL M.CR M.clk now
 have hg:tH M.CR (dF M.CR M.clk now):=abG h.cr h.ck h.n0 h.nw h.us
 refine ⟨h.nm,h.cr,hg,?_,h.nw,?_,?_,abI h.og _,h.pr,?_⟩
 ·show (dF M.CR M.clk now).since≤now; rw [hr.1]; exact Int.le_refl _
 ·show (dF M.CR M.clk now).st=false; rw [hr.2.2]; exact h.st
 ·show (dF M.CR M.clk now).ay<0; rw [hr.2.1]; exact h.fl
 ·show kU M.CR (dF M.CR M.clk now) now≤_
  rw [Ue h.cr hr.1]
  have h0:=hg.l0; have h1:=hg.l1
  show 0≤if (dF M.CR M.clk now).turn=0 then (dF M.CR M.clk now).l0 else (dF M.CR M.clk now).l1
  split <;> omega
theorem Mid.rest {M:aP} {now:Int} (h:Mid M now):Mid { M with aX:=aO M.R M.pos M.aX } now:=
 ⟨h.nm,h.cr,h.ck,h.sn,h.nw,h.st,h.fl,h.og,h.pr.sub (X9 _ _ _),h.us⟩
theorem Uo (now:Int) (f:Nat) (M:aP) (h:M.game=0) (hl:M.ms.length<400) (hf:0<f) :
  aP.runs now f M=if jP M.R M.pos M.aX=true then aP.runs now (f - 1) (aP.move { M with aX:=aO M.R M.pos M.aX } (bQ M.R M.pos M.aX) now) else { M with aX:=aO M.R M.pos M.aX }:=by
 obtain ⟨f,rfl⟩:∃ k,f=k+1:=⟨f - 1,by omega⟩
 rw [aP.runs,if_pos ⟨h,hl⟩]; rfl
theorem Gx (now:Int) (f:Nat) (M:aP) (h:¬ (M.game=0∧M.ms.length<400)):aP.runs now f M=M:=by
 cases f with
 | zero=>rfl
 | succ f=>rw [aP.runs,if_neg h]
theorem Qa {R:aA} {p:bf} {m:aB} (h:m∈kC R p):m∈dZ R p:=by
 unfold kC at h
 split at h
 ·exact h
 ·cases h
theorem Ur {R:aA} {ms:List aB} {m:aB} (h1:fZ R ms=0) (h2:m∈kC R (bV R ms)) (h3:ms.length≠400):eu R ms m=0:=by
 unfold eu
 rw [if_neg (by simp [h1]),if_neg (by simpa using Qa h2),if_neg h3]
theorem Us {l:List fU} (h:pq l):uI l=0:=by
 unfold uI
 have h0:=h.n0; have h1:=h.n1
 rw [if_neg (by omega),if_neg]
 intro hc
 rw [List.any_eq_true] at hc
 obtain ⟨x,hx,hb⟩:=hc
 rcases h.pl x hx with e | e <;> simp [e] at hb
end Go.Proofs.YteablcielclaeaaGreatDoor
namespace Go.Proofs.YteablcielclaeaaGreatDoor
open Go.ChangeShapes Go.WideShapes Go.ChangeAt Go.RowKit
set_option linter.unusedVariables false
variable {X S:Nat→Prop} {base b:Nat} {M:aP} {B:kM}
def Yl (w:World) (b:Nat):Nat:=match w.cell? ⟨b,14,none⟩ with | some (.pointer (some a))=>(match w.cell? ⟨a.block,12,none⟩ with | some (.slice _ n _)=>n | _=>0) | _=>0
theorem Ym {w:World} (h:aY X S base w b M B):Yl w b=M.ms.length:=by
 obtain ⟨up,us,ue,vl,vm,rows,hg⟩:=h.game
 have c14:=h.box.cell 14 rfl
 obtain ⟨a,c,rfl⟩:=aG hg.om
 have c12:=hg.box.cell 12 rfl
 unfold Yl
 rw [c14]
 simp only [c12]
def NextSaid (P:List fU→Prop):Prop:=∀ (R:aA) (vp vs ve:Value) (p:bf) (vc v0 v1 v:Value) (l:List fU) (w:World),P l→pV w R vp vs ve→R.name.size≤maxLen→sH w p vc v0 v1→iC pR w v l→l.length≤1000 →
  Calls Tryz.prog 130 #[(.agg #[.string R.name,.int .i64 R.width,.int .i64 R.height,vp,vs,.bool R.falls,.bool R.keeps,ve,.int .i64 R.blocked,.int .i64 R.quiet,.int .i64 R.bC]),(.agg #[vc,v0,v1,.int .i64 p.turn,.int .i64 p.quiet]),v] w (DJ R p l w)
end Go.Proofs.YteablcielclaeaaGreatDoor
namespace Go.Proofs.YteablcielclaeaaGreatDoor
open Go.ChangeShapes Go.WideShapes Go.ChangeAt Go.RowKit
set_option linter.unusedVariables false
set_option maxHeartbeats 8000000
set_option maxRecDepth 100000
variable {X S:Nat→Prop} {base b:Nat} {M:aP} {B:kM}
end Go.Proofs.YteablcielclaeaaGreatDoor

/- Ko1, Ko2, Box3, IntsW, ClaimB, ClaimC, JouApp, MaA, MaB, MaC, MaD, MaM. -/
import Derived.BigRegion
import Derived.ChangeAlike
import Derived.Test.YteablcielclaeaaGreatDoorC19
namespace Go.Proofs.YteablcielclaeaaGreatDoor.off
open Go.ChangeShapes Go.WideShapes Go.ChangeAt Go.RowKit
set_option linter.unusedVariables false
set_option maxHeartbeats 4000000
theorem ix0 (a b:Value) (w:World):(Instr.index 81 (.agg #[a,b]) (.int .i64 0)).run Tryz.prog w=.ok a w:=
 pY (P:=Tryz.prog) #[a,b] 0 a w Tryz.underlying81 (by kernel_rfl) (by kernel_rfl) (by omega) (by omega) rfl
theorem ix1 (a b:Value) (w:World):(Instr.index 81 (.agg #[a,b]) (.int .i64 1)).run Tryz.prog w=.ok b w:=
 pY (P:=Tryz.prog) #[a,b] 1 b w Tryz.underlying81 (by kernel_rfl) (by kernel_rfl) (by omega) (by omega) rfl
attribute [local go_sem] ix0 ix1
def OkO (b0 b1 kY kZ l10 lq:Int):Prop:=
 (-1≤kY∧kY≤400∧-1≤kZ∧kZ≤400∧-1≤b0∧b0≤1∧¬ (b0=0∧kY = -1)∧¬ (b0=1∧kZ = -1)) ∧
 (-1≤l10∧l10≤400∧-1≤lq∧lq≤400∧-1≤b1∧b1≤1∧¬ (b1=0∧l10 = -1)∧¬ (b1=1∧lq = -1))
def iK (ok:Prop) (w:World) (e:Ending) (w':World):Prop:=∃ c:Int,e=.returned (.int .i64 c)∧(c=0↔ok)∧w=w'
theorem dP (b0 b1 kY kZ l10 lq:Int) (w:World) :
  Calls Tryz.prog 211 #[.agg #[.int .i64 b0,.int .i64 b1,.int .i64 kY,.int .i64 kZ,.int .i64 l10,.int .i64 lq]] w (iK (OkO b0 b1 kY kZ l10 lq) (w.alloc (.cells #[.int .i64 b0,.int .i64 b1,.int .i64 kY,.int .i64 kZ,.int .i64 l10,.int .i64 lq] 86))):=by
 have c0:b0<0∨b0=0∨b0=1∨1<b0:=by omega
 have c1:b1<0∨b1=0∨b1=1∨1<b1:=by omega
 rcases c0 with c0 | rfl | rfl | c0 <;> rcases c1 with c1 | rfl | rfl | c1
 all_goals
  go_enter Tryz.func211,Tryz.ntmps211
  go_wp2
  refine wp_loop_rounds 3 ?_
  repeat any_goals (first | (rw [rounds_succ]; go_wp2) | (refine wp_loop_rounds 3 ?_))
  all_goals
   go_ret
   refine ⟨_,rfl,?_,rfl⟩
   (try simp only [beq_iff_eq,beq_eq_false_iff_ne,ne_eq] at *)
   unfold OkO
   first | omega | (refine ⟨fun _=>?_,fun _=>by trivial⟩; omega)
end Go.Proofs.YteablcielclaeaaGreatDoor.off
namespace Go.Proofs.YteablcielclaeaaGreatDoor.off
open Go.ChangeShapes Go.WideShapes Go.ChangeAt Go.RowKit
set_option linter.unusedVariables false
set_option maxHeartbeats 4000000
open Go.Lib (hid)
def zL (kind aT moves:Int):Prop:=(kind=0∨kind=1)∧(aT=0∨aT=1)∧0≤moves∧moves≤400
theorem check_any (b0 b1 kY kZ l10 lq kind aT moves:Int) (w:World) :
  Calls Tryz.prog 175 #[.agg #[.int .i64 b0,.int .i64 b1,.int .i64 kY,.int .i64 kZ,.int .i64 l10,.int .i64 lq],.int .i64 kind,.int .i64 aT,.int .i64 moves] w (iK (OkO b0 b1 kY kZ l10 lq∧zL kind aT moves) ((w.alloc (.cells #[.int .i64 b0,.int .i64 b1,.int .i64 kY,.int .i64 kZ,.int .i64 l10,.int .i64 lq] 86)).alloc (.cells #[.int .i64 b0,.int .i64 b1,.int .i64 kY,.int .i64 kZ,.int .i64 l10,.int .i64 lq] 86))):=by
 go_enter Tryz.func175,Tryz.ntmps175
 go_wp2_with fail
 refine (dP _ _ _ _ _ _ _).mono ?_
 rintro e w1 ⟨c,rfl,hc,rfl⟩
 by_cases h0:c=0
 ·have hok:=hid (hc.1 h0)
  subst h0
  clear hc
  go_wp2
  all_goals
   go_ret
   refine ⟨_,rfl,?_,rfl⟩
   unfold zL
   first | (refine ⟨fun _=>⟨hok.out,?_⟩,fun _=>by trivial⟩; omega) | (refine ⟨fun h=>?_,fun h=>?_⟩ <;> omega)
 ·have h1:(c != 0)=true:=by simpa using h0
  have hn:=hid (fun h=>h0 (hc.2 h))
  clear hc h0
  go_wp2
  go_ret
  exact ⟨_,rfl,⟨fun h=>by simp [h] at h1,fun h=>absurd h.1 hn.out⟩,rfl⟩
theorem O8 (b0 b1 kY kZ l10 lq:Int) (w:World) (hok:OkO b0 b1 kY kZ l10 lq) (h:(b0 == 1)=true) :
  Calls Tryz.prog 172 #[.agg #[.int .i64 b0,.int .i64 b1,.int .i64 kY,.int .i64 kZ,.int .i64 l10,.int .i64 lq],.int .i64 0] w (fun e w'=>e=.returned (.tuple #[.agg #[.int .i64 (-1),.int .i64 (-1),.int .i64 kY,.int .i64 kZ,.int .i64 l10,.int .i64 lq],.int .i64 0])∧Below w.heap.size w w'):=by
 have H:=hid hok
 clear hok
 go_enter Tryz.func172,Tryz.ntmps172
 go_wp2_with fail
 refine (check_any b0 b1 kY kZ l10 lq 0 0 0 _).mono ?_
 rintro e w1 ⟨c,rfl,hc,rfl⟩
 obtain rfl:c=0:=hc.2 ⟨H.out,by unfold zL; omega⟩
 clear hc
 go_wp2
 go_returns
 exact ⟨rfl,by go_grown⟩
theorem LM (b0 b1 kY kZ l10 lq:Int) (w:World) (hok:OkO b0 b1 kY kZ l10 lq) (h:(b0 == 1)=false) :
  Calls Tryz.prog 172 #[.agg #[.int .i64 b0,.int .i64 b1,.int .i64 kY,.int .i64 kZ,.int .i64 l10,.int .i64 lq],.int .i64 0] w (fun e w'=>e=.returned (.tuple #[.agg #[.int .i64 b0,.int .i64 (-1),.int .i64 kY,.int .i64 kZ,.int .i64 l10,.int .i64 lq],.int .i64 0])∧Below w.heap.size w w'):=by
 have H:=hid hok
 clear hok
 go_enter Tryz.func172,Tryz.ntmps172
 go_wp2_with fail
 refine (check_any b0 b1 kY kZ l10 lq 0 0 0 _).mono ?_
 rintro e w1 ⟨c,rfl,hc,rfl⟩
 obtain rfl:c=0:=hc.2 ⟨H.out,by unfold zL; omega⟩
 clear hc
 go_wp2
 go_returns
 exact ⟨rfl,by go_grown⟩
theorem Pg (b0 b1 kY kZ l10 lq:Int) (w:World) (hok:OkO b0 b1 kY kZ l10 lq) (h:(b0 == 0)=true) :
  Calls Tryz.prog 172 #[.agg #[.int .i64 b0,.int .i64 b1,.int .i64 kY,.int .i64 kZ,.int .i64 l10,.int .i64 lq],.int .i64 1] w (fun e w'=>e=.returned (.tuple #[.agg #[.int .i64 (-1),.int .i64 (-1),.int .i64 kY,.int .i64 kZ,.int .i64 l10,.int .i64 lq],.int .i64 0])∧Below w.heap.size w w'):=by
 have H:=hid hok
 clear hok
 go_enter Tryz.func172,Tryz.ntmps172
 go_wp2_with fail
 refine (check_any b0 b1 kY kZ l10 lq 0 1 0 _).mono ?_
 rintro e w1 ⟨c,rfl,hc,rfl⟩
 obtain rfl:c=0:=hc.2 ⟨H.out,by unfold zL; omega⟩
 clear hc
 go_wp2
 go_returns
 exact ⟨rfl,by go_grown⟩
theorem LP (b0 b1 kY kZ l10 lq:Int) (w:World) (hok:OkO b0 b1 kY kZ l10 lq) (h:(b0 == 0)=false) :
  Calls Tryz.prog 172 #[.agg #[.int .i64 b0,.int .i64 b1,.int .i64 kY,.int .i64 kZ,.int .i64 l10,.int .i64 lq],.int .i64 1] w (fun e w'=>e=.returned (.tuple #[.agg #[.int .i64 b0,.int .i64 (-1),.int .i64 kY,.int .i64 kZ,.int .i64 l10,.int .i64 lq],.int .i64 0])∧Below w.heap.size w w'):=by
 have H:=hid hok
 clear hok
 go_enter Tryz.func172,Tryz.ntmps172
 go_wp2_with fail
 refine (check_any b0 b1 kY kZ l10 lq 0 1 0 _).mono ?_
 rintro e w1 ⟨c,rfl,hc,rfl⟩
 obtain rfl:c=0:=hc.2 ⟨H.out,by unfold zL; omega⟩
 clear hc
 go_wp2
 go_returns
 exact ⟨rfl,by go_grown⟩
end Go.Proofs.YteablcielclaeaaGreatDoor.off
namespace Go.Proofs.YteablcielclaeaaGreatDoor
open Go.ChangeShapes Go.WideShapes Go.ChangeAt Go.RowKit
set_option linter.unusedVariables false
theorem Box.mid {w:World} {b:Nat} {cs:List Value} {t:TypeId} (h:Box w b cs t) (o:Nat) {l:List Value} (hl:(cs.drop o).take l.length=l):w.rangeAt b o l:=fun j v hv=>by
 refine h.cell (o+j) ?_
 rw [← hl,List.getElem?_take] at hv
 split at hv
 ·rwa [List.getElem?_drop] at hv
 ·cases hv
theorem Box.has {w:World} {b:Nat} {cs:List Value} {t:TypeId} (h:Box w b cs t) (o n:Nat) (hn:o+n≤cs.length):w.there b o n:=fun j hj=>by
 refine ⟨?_,h.frozen (o+j)⟩
 rw [h.cell (o+j) (v:=cs[o+j]'(by omega)) (List.getElem?_eq_getElem (by omega))]; rfl
def splice (cs:List Value) (o:Nat) (vs:List Value):List Value:=cs.take o++vs++cs.drop (o+vs.length)
theorem sD (b:Nat):∀ (vs cs:List Value) (o:Nat) (w:World) (t:TypeId),o+vs.length≤cs.length→Box w b cs t→Box (w.setCells b o vs) b (splice cs o vs) t
 | [],cs,o,w,t,hl,h=>by
  have e:splice cs o []=cs:=by simp [splice]
  rw [e]; exact h
 | v :: vs,cs,o,w,t,hl,h=>by
  have h1:Box (w.setCell ⟨b,o,none⟩ v) b (cs.set o v) t:=h.set o v
  have h2:=sD b vs (cs.set o v) (o+1) (w.setCell ⟨b,o,none⟩ v) t (by simp at hl ⊢; omega) h1
  have e:splice (cs.set o v) (o+1) vs=splice cs o (v :: vs):=by
   have ho:o<cs.length:=by simp at hl; omega
   unfold splice
   rw [List.drop_set_of_lt (by omega)]
   have:(cs.set o v).take (o+1)=cs.take o++[v]:=by
    rw [List.take_succ_eq_append_getElem (by simpa using ho),List.getElem_set_self,List.take_set_of_le (Nat.le_refl _)]
   rw [this]
   rw [List.append_assoc,List.append_assoc]
   simp only [List.singleton_append,List.length_cons,List.append_assoc,List.cons_append,List.nil_append]
   rw [show o+1+vs.length=o+(vs.length+1) by omega]
  rw [e] at h2
  exact h2
theorem Box.Xx {w:World} {b:Nat} {cs vs cs':List Value} {t:TypeId} (h:Box w b cs t) (o:Nat) (hl:o+vs.length≤cs.length) (he:splice cs o vs=cs'):Box (w.setCells b o vs) b cs' t:=he ▸ sD b vs cs o w t hl h
end Go.Proofs.YteablcielclaeaaGreatDoor
namespace Go.Proofs.YteablcielclaeaaGreatDoor
open Go.ChangeShapes Go.WideShapes Go.ChangeAt Go.RowKit
set_option linter.unusedVariables false
open Go.Lib (hid)
theorem DI (v:Value) (zs:List Int) (p:Int→Bool) (f:FuncId) (caps:Array Value) (w:World) (h:iJ w v zs) (hf:∀ (args:Array Value) (w:World),(callFunc f args).run Tryz.prog w=.ok (.enter f args) w)
  (hc:∀ (W:World) (z:Int),z∈zs→Below w.heap.size w W→Calls Tryz.prog f (#[.int .i64 z]++caps) W fun e w'=>e=.returned (.bool (p z))∧Below W.heap.size W w') :
  Calls Tryz.prog 77 #[v,.func (.func f) #[] caps] w fun e w'=>e=.returned (.int .i64 (wL p zs 0))∧Below w.heap.size w w':=by
 obtain ⟨a,c,rfl,h1,h2⟩:=h.form
 unfold maxLen at h2
 have HR:=hid h
 have HC:=hid hc
 clear h hc
 go_enter Tryz.func77,Tryz.ntmps77
 go_wp2_with fail
 go_loopw [8] (fun i wr=>∃ k:Nat,k≤zs.length∧i=.int .i64 k∧Hid (wL p zs 0=wL p (zs.drop k) k)∧Below w.heap.size w wr) (fun i _=>zs.length - (intOf i).toNat)
 case atStart=>exact ⟨0,Nat.zero_le _,rfl,hid rfl,Below.refl _ _⟩
 case round =>
  obtain ⟨k,hk,rfl,HK,hbl⟩:=hrel
  by_cases hlt:k<zs.length
  ·obtain ⟨g,o,rfl,hcell⟩:=eu (HR.out.below hbl (Nat.le_refl _)) (by omega)
   have ck:=hcell k hlt
   have HS:=hid (FH p zs k hlt)
   have FD:=hid (HC.out wr (zs.getD k 0) (by rw [List.getD_eq_getElem?_getD,List.getElem?_eq_getElem hlt]; exact List.getElem_mem hlt) hbl)
   have HB:=hid hbl
   clear hcell hbl
   generalize zs.getD k 0=z at *
   go_wp2_with fail
   refine FD.out.mono ?_
   rintro e w1 ⟨rfl,hb1⟩
   have HB1:=hid (aj HB.out hb1 HB.out.size)
   clear hb1
   cases hp:p z
   ·go_wp2_with fail
    go_roundw
    case rel=>exact ⟨k+1,by omega,by go_num,hid (by rw [HK.out,HS.out,if_neg (by simp [hp])]),HB1.out⟩
    case measure=>simp [intOf]; omega
   ·go_wp2_with fail
    go_ret
    exact ⟨by rw [HK.out,HS.out,if_pos hp]; rfl,HB1.out⟩
  ·obtain rfl:k=zs.length:=by omega
   go_wp2_with fail
   go_ret
   exact ⟨by rw [HK.out]; simp [wL],hbl⟩
theorem yI (v:Value) (zs:List Int) (p:Int→Bool) (f:FuncId) (caps:Array Value) (w:World) (h:iJ w v zs) (hf:∀ (args:Array Value) (w:World),(callFunc f args).run Tryz.prog w=.ok (.enter f args) w)
  (hc:∀ (W:World) (z:Int),z∈zs→Below w.heap.size w W→Calls Tryz.prog f (#[.int .i64 z]++caps) W fun e w'=>e=.returned (.bool (p z))∧Below W.heap.size W w') :
  Calls Tryz.prog 35 #[v,.func (.func f) #[] caps] w fun e w'=>e=.returned (.bool (zs.any p))∧Below w.heap.size w w':=by
 have HI:=hid (DI v zs p f caps w h hf hc)
 have HA:=hid (Cc p zs 0 (by omega))
 clear h hc hf
 go_enter Tryz.func35,Tryz.ntmps35
 go_wp2_with fail
 refine HI.out.mono ?_
 rintro e w' ⟨rfl,hb⟩
 have HB:=hid hb
 clear hb
 go_wp2_with fail
 go_ret
 exact ⟨by rw [← HA.out]; rfl,HB.out⟩
end Go.Proofs.YteablcielclaeaaGreatDoor
namespace Go.Proofs.YteablcielclaeaaGreatDoor
open Go.ChangeShapes Go.WideShapes Go.ChangeAt Go.RowKit
set_option linter.unusedVariables false
set_option maxHeartbeats 4000000
set_option maxRecDepth 100000
end Go.Proofs.YteablcielclaeaaGreatDoor
namespace Go.Proofs.YteablcielclaeaaGreatDoor
open Go.ChangeShapes Go.WideShapes Go.ChangeAt Go.RowKit
set_option linter.unusedVariables false
open Go.Lib (hid)
theorem Xy (v:Value) (es:List jB) (w:World) (h:JL w v es) (hok:OkJ es) (hlen:es.length≤1000) :
  Calls Tryz.prog 84 #[v] w (IJ 0 w):=by
 have HG:=hid (aaB v es w h hok hlen)
 obtain ⟨a,c,rfl,h1,h2,hc⟩:=h.form
 unfold maxLen at h2
 clear h hok hc
 go_enter Tryz.func84,Tryz.ntmps84
 go_wp2_with fail
 refine HG.out.mono ?_
 rintro e w1 ⟨rfl,hb⟩
 go_wp2_with fail
 go_ret
 exact ⟨rfl,hb⟩
theorem acL:(Tryz.prog.info? 205).map (fun i=>(i.zero,i.size,i.bytes))=some (some (.agg #[.string ByteArray.empty,.int .u64 0]),2,24):=by kernel_rfl
theorem TN (es:List jB):∀ u∈iq es,u.oneCell'=true:=by
 intro u hu
 simp only [iq,List.mem_flatMap] at hu
 obtain ⟨e,_,hq⟩:=hu
 simp at hq
 rcases hq with rfl | rfl <;> rfl
def ahg (es:List jB) (w:World) (v:Value) (w':World):Prop:=w'.ownsRow w.heap.size 205 2 v es.length (iq es)∧Below w.heap.size w w'
theorem Ph (v:Value) (es:List jB) (w:World) (h:JL w v es) (hl:es.length≤1000000) :
  Calls Tryz.prog 86 #[v] w fun e w'=>∃ v',e=.returned v'∧ahg es w v' w':=by
 obtain ⟨i0,hi,hz0,hz1,hz2⟩:=info_parts acL
 have hq:=fun (w:World) (a:Option Addr) (n c:Nat)=>Lib.run_eql_slice_nil (P:=Tryz.prog) w 128 205 a n c 0 0 Tryz.underlying128
 have hform:(∃ c,v=.slice none 0 c∧es=[])∨∃ (ad:Addr) (c:Nat),v=.slice (some ad) es.length c∧es.length≤c∧c≤maxLen∧∀ j u,(iq es)[j]?=some u→(w.alloc (.cells #[] 205)).cell? (ad.add j)=some u:=by
  rcases h.2 with ⟨⟨a,c,rfl,hm⟩,hz⟩ | ⟨g,o,c,rfl,h1,h2,hc⟩
  ·obtain rfl:es=[]:=List.length_eq_zero_iff.1 hz
   cases a with
   | none=>exact .inl ⟨c,rfl,rfl⟩
   | some ad=>exact .inr ⟨ad,c,rfl,by simp,hm,fun j u hu=>by simp [iq] at hu⟩
  ·refine .inr ⟨⟨g,o,none⟩,c,rfl,h1,h2,fun j u hu=>?_⟩
   have hj:j<es.length * 2:=by
    have:=(List.getElem?_eq_some_iff.1 hu).1
    rwa [FT] at this
   have hcell:=hc j hj
   rw [hu] at hcell
   have hlt:=World.block_lt_of_cell? w _ hcell
   rw [oP,World.cell?_of_block (w:=w) (a:=⟨g,o+j,none⟩) (Below.heap_alloc w _ g hlt)]
   exact hcell
 rcases hform with ⟨c,rfl,rfl⟩ | ⟨ad,c,rfl,h1,h2,hnews⟩
 ·clear h hl
  go_enter Tryz.func86,Tryz.ntmps86
  go_wp2
  go_ret
  exact ⟨_,rfl,World.ownsRow_nil _ _ _ _,Below.refl _ _⟩
 ·have hown0:(w.alloc (.cells #[] 205)).ownsRow w.heap.size 205 2 (.slice (some ⟨w.heap.size,0,none⟩) 0 0) 0 []:=World.ownsRow_made w #[] 0 (Nat.le_refl _) (by unfold maxLen; omega) rfl
  have qy:=hid hown0
  have qA:=hid hnews
  have SL:=hid (FT es)
  have S1:=hid (TN es)
  clear hown0 hnews h
  go_enter Tryz.func86,Tryz.ntmps86
  go_wp2_with (at_builtin; refine wpList_append_own _ rfl _ _ 128 rfl w.heap.size 205 i0 (.agg #[.string ByteArray.empty,.int .u64 0]) 2 24 Tryz.underlying128 hi hz0 hz1 hz2 rfl (by decide) _ 0 [] rfl qy.out ad es.length c (iq es) rfl SL.out qA.out S1.out ?c3 ?c4 ?c5 ?_)
  case c3=>unfold maxLen; omega
  case c4=>omega
  case c5=>simp
  intro v' w2 hown' hgrow _
  try simp only [Nat.zero_add,List.nil_append] at hown'
  have hb:Below w.heap.size w w2:=Below.grown ((Below.refl _ w).alloc (Nat.le_refl _) _) hgrow (by simp) (fun q hq=>by simp [Value.ownBlock] at hq; omega)
  have HO:=hid hown'
  clear hown' hgrow
  go_wp2
  go_ret
  exact ⟨v',rfl,HO.out,hb⟩
def appJ (es:List jB) (s:ByteArray):List jB×Int:=if textE s≠0 then ([],textE s) else (es++[⟨s,AZ (rZ es) s⟩],0)
def aaU (r:List jB×Int) (w:World) (e:Ending) (w':World):Prop:=∃ v',e=.returned (.tuple #[v',.int .i64 r.2])∧ahg r.1 w v' w'
set_option maxHeartbeats 1000000 in
theorem uU (v:Value) (es:List jB) (s:ByteArray) (w:World) (h:JL w v es) (hok:OkJ es) (hlen:es.length≤100) (hs:s.size≤9223372036854775807) :
  Calls Tryz.prog 45 #[v,.string s] w (aaU (appJ es s) w):=by
 obtain ⟨i0,hi,hz0,hz1,hz2⟩:=info_parts acL
 have HC:=hid (Xy v es w h hok (by omega))
 have HT:=hid (fun w=>Lp s w hs)
 have HR:Hid (appJ es s=if textE s≠0 then ([],textE s) else (es++[⟨s,AZ (rZ es) s⟩],0)):=hid rfl
 have HJ:=hid h
 obtain ⟨a,c,rfl,h1,h2,hc⟩:=h.form
 unfold maxLen at h2
 clear h hok hc
 go_enter Tryz.func45,Tryz.ntmps45
 go_wp2_with fail
 refine HC.out.mono ?_
 rintro e w1 ⟨rfl,hb1⟩
 go_wp2_with fail
 refine (HT.out _).mono ?_
 rintro e w2 ⟨rfl,hb2⟩
 have XA:=hb1.trans (hb2.mono hb1.size)
 have HJ2:=hid (HJ.out.below XA (Nat.le_refl _))
 clear hb1 hb2
 cases hr:(textE s != 0)
 ·have hr0:textE s=0:=by simpa using hr
  have HR2:Hid (appJ es s=(es++[⟨s,AZ (rZ es) s⟩],0)):=hid (by rw [HR.out,if_neg (by simpa using hr0)])
  rw [hr0]
  have hnf:(((es.length:Int)) == 1000)=false:=by simp; omega
  clear hr hr0 HR HT HC
  go_wp2_with fail
  refine (Ph _ es _ HJ2.out (by omega)).mono ?_
  rintro e w3 ⟨v3,rfl,ho3,hb3⟩
  have HJ3:=hid (HJ2.out.below hb3 (Nat.le_refl _))
  have qX:=hid ho3
  have alh:=XA.trans (hb3.mono XA.size)
  have hs3:=hb3.size
  have hs2:=XA.size
  clear ho3 hb3
  go_wp2_with fail
  refine (last_any _ es _ HJ3.out).mono ?_
  rintro e w' ⟨rfl,rfl⟩
  go_wp2_with fail
  refine (QJ (rZ es) s _ hs).mono ?_
  rintro e w' ⟨rfl,rfl⟩
  generalize AZ (rZ es) s=z at *
  have Vs:=hid (qX.out.alloc (.cells #[.string s,.int .u64 z] 205))
  have S1:Hid (∀ u∈[Value.string s,.int .u64 z],u.oneCell'=true):=hid (fun u hu=>by simp at hu; rcases hu with rfl | rfl <;> rfl)
  have S2:Hid (es.length+1≤maxLen):=hid (by unfold maxLen; omega)
  have S3:Hid ((es.length+1) * 24≤140737488355328):=hid (by omega)
  have S4:Hid (w2.heap.size≤(w3.alloc (.cells #[.string s,.int .u64 z] 205)).heap.size):=hid (by simp; omega)
  have S5:Hid ((w3.alloc (.cells #[.string s,.int .u64 z] 205)).heap.size=w3.heap.size+1):=hid (by simp)
  have S0:Hid (0<1):=hid (by omega)
  go_wp2_with (at_builtin; refine wpList_append_lies _ rfl _ _ 128 rfl w2.heap.size 205 i0 (.agg #[.string ByteArray.empty,.int .u64 0]) 2 24 Tryz.underlying128 hi hz0 hz1 hz2 rfl (by decide) _ es.length (iq es) rfl Vs.out ⟨w3.heap.size,0,none⟩ 1 1 [.string s,.int .u64 z] rfl rfl (cell_two_new _ _ _ _) S1.out S0.out S2.out S3.out S4.out (w3.heap.size+1) S5.out ?_)
  intro g4 c4 w4 hown4 hgrow4 ali hlt4
  have hb4:Below w.heap.size w w4:=Below.grown (alh.alloc (by omega) _) hgrow4 (by simp; omega) (fun q hq=>by have:=(Vs.out.lt q hq).1; omega)
  have HO4:=hid hown4
  clear hown4 hgrow4 ali hlt4 Vs
  go_wp2_with fail
  go_ret2
  exact ⟨_,by rw [HR2.out]; rfl,by rw [HR2.out]; refine ⟨?_,hb4⟩; simp only [IK,List.length_append]; have:=HO4.out; exact ⟨by simpa [iq] using this.1,by
   rcases this.2 with ⟨q,_⟩ | ⟨g',cap',cur',q1,q2,q3⟩
   ·cases q
   ·exact .inr ⟨g',cap',cur',q1,by omega,q3⟩⟩⟩
 ·have hr':¬ textE s=0:=by simpa using hr
  have HR2:Hid (appJ es s=([],textE s)):=hid (by rw [HR.out,if_pos hr'])
  generalize textE s=t at *
  clear hr'
  go_wp2_with fail
  go_ret2
  exact ⟨_,by rw [HR2.out]; rfl,by rw [HR2.out]; exact ⟨World.ownsRow_nil _ _ _ _,XA⟩⟩
structure mg where
  vp:Value
  vs:Value
  ve:Value
  pa:Option Addr
  pc:Nat
  g:Nat
  vr:Value
  vj:Value
def TP (M:aO) (B:mg):List Value:=
  [.string M.R.name,.int .i64 M.R.width,.int .i64 M.R.height,B.vp,B.vs,.bool M.R.falls,.bool M.R.keeps,B.ve,.int .i64 M.R.blocked,.int .i64 M.R.quiet,.int .i64 M.R.aZ,
   .slice B.pa M.CR.ps.length B.pc,.int .i64 M.CR.inc,.int .i64 M.CR.delay,.pointer (some ⟨B.g,0,none⟩),.slice none 0 0,.int .i64 M.res,.int .i64 M.reason,
   .int .i64 M.clk.l0,.int .i64 M.clk.l1,.int .i64 M.clk.m0,.int .i64 M.clk.m1,.int .i64 M.clk.p0,.int .i64 M.clk.p1,.int .i64 M.clk.turn,.int .i64 M.clk.since,.bool M.clk.st,.int .i64 M.clk.ak,
   .int .i64 M.off.b0,.int .i64 M.off.b1,.int .i64 M.off.kY,.int .i64 M.off.kZ,.int .i64 M.off.l10,.int .i64 M.off.lq,B.vr,.int .i64 M.last,B.vj]
structure XB (M:aO) (B:mg) (w:World):Prop where
  rd:qo w M.R B.vp B.vs B.ve
  per:clk.eF w w.heap.size B.pa M.CR.ps.length M.CR.ps
  pc:M.CR.ps.length≤B.pc∧B.pc≤maxLen
  pr:iQ pW w B.vr M.aQ
  jr:JL w B.vj M.jr
def one1 (b:Nat):Nat→Prop:=fun k=>k=b
def noX:Nat→Prop:=fun _=>False
def out1 (X:Nat→Prop) (b:Nat):Nat→Prop:=fun k=>k=b∨X k
structure aY (X S:Nat→Prop) (base:Nat) (w:World) (b:Nat) (M:aO) (B:mg):Prop where
  box:Box w b (TP M B) 130
  nb:¬ S b
  lo:base≤b
  game:∃ up us ue vl vm rows,gx.bM (out1 X b) S base w B.g M.R M.ms up us ue vl vm rows
  rd:gx.Held (out1 X b) S w (XB M B)
  nx:∀ k,X k→¬ S k∧k<w.heap.size
theorem aY.fr {X S:Nat→Prop} {base:Nat} {w:World} {b:Nat} {M:aO} {B:mg} (h:aY X S base w b M B):XB M B w:=h.rd.now
theorem aY.below {X S:Nat→Prop} {base:Nat} {w w':World} {b:Nat} {M:aO} {B:mg} (h:aY X S base w b M B) (hb:Below w.heap.size w w'):aY X S base w' b M B:=by
  obtain ⟨up,us,ue,vl,vm,rows,hg⟩:=h.game
  exact ⟨h.box.stays hb,h.nb,h.lo,⟨_,_,_,_,_,_,hg.below hb⟩,h.rd.step (Fr.lK (S:=S) hb) (iI.refl _ _),fun k hk=>⟨(h.nx k hk).1,Nat.lt_of_lt_of_le (h.nx k hk).2 hb.size⟩⟩
def iC (S:Nat→Prop) (b:Nat) (w w':World):Prop:=Fr (fun k=>S k∨one1 b k) w w'
theorem iC.refl (S:Nat→Prop) (b:Nat) (w:World):iC S b w w:=Fr.refl _ _
theorem iC.trans {S S':Nat→Prop} {b:Nat} {w w1 w2:World} (h:iC S b w w1) (k:iC S' b w1 w2) (hs:iI w S S'):iC S b w w2:=
  Fr.trans h k (fun i hi h'=>by rcases h' with h' | h'; exact .inl (hs i hi h'); exact .inr h')
theorem iC.new {S:Nat→Prop} {b:Nat} {w w':World} (h:Below w.heap.size w w'):iC S b w w':=Fr.lK h
theorem iC.base {X S:Nat→Prop} {base b:Nat} {w w':World} {M:aO} {B:mg} (m:aY X S base w b M B) (h:iC S b w w') (hb:base≤w.heap.size):Below base w w':=by
  obtain ⟨up,us,ue,vl,vm,rows,hg⟩:=m.game
  exact Fr.below h (fun k hk=>by rcases hk with hk | hk; exact (hg.lo k hk).1; rw [show k=b from hk]; exact m.lo) hb
theorem aY.put {X S:Nat→Prop} {base:Nat} {w:World} {b:Nat} {M M':aO} {B B':mg} (h:aY X S base w b M B) (o:Nat) (vs:List Value) (hl:o+vs.length≤37) (he:splice (TP M B) o vs=TP M' B') (hr:M'.R=M.R) (hm:M'.ms=M.ms) (hg:B'.g=B.g)
    (hd:gx.Held (out1 X b) S w (XB M' B')):aY X S base (w.setCells b o vs) b M' B'∧iC S b w (w.setCells b o vs):=by
  have hf:iC S b w (w.setCells b o vs):=(Fr.refl _ _).setCells (.inr rfl) o vs
  obtain ⟨up,us,ue,vl,vm,rows,hgm⟩:=h.game
  have hfx:Fr (out1 X b) w (w.setCells b o vs):=(Fr.refl (out1 X b) w).setCells (b:=b) (show out1 X b b from .inl rfl) o vs
  refine ⟨⟨h.box.Xx o (by simpa [TP] using hl) he,h.nb,h.lo,⟨up,us,ue,vl,vm,rows,?_⟩,hd.QM (hf.mono (fun k _ hk=>by rcases hk with hk | hk; exact .inl hk; exact .inr (.inl hk))) (iI.refl _ _),fun k hk=>⟨(h.nx k hk).1,Nat.lt_of_lt_of_le (h.nx k hk).2 hf.size⟩⟩,hf⟩
  rw [hr,hm,hg]
  exact hgm.other hfx (fun k hk hx=>by rcases hx with hx | hx; exact h.nb (by rw [← (show k=b from hx)]; exact hk); exact (h.nx k hx).1 hk)
theorem aY.LQ {X S:Nat→Prop} {base b:Nat} {M:aO} {B:mg} {w:World} (h:aY X S base w b M B) (k:Nat) (hk:S k∨out1 X b k):k<w.heap.size:=by
  obtain ⟨up,us,ue,vl,vm,rows,hg⟩:=h.game
  rcases hk with hk | hk | hk
  · exact (hg.lo k hk).2
  · rw [hk]; exact h.box.lt
  · exact (h.nx k hk).2
end Go.Proofs.YteablcielclaeaaGreatDoor
namespace Go.Proofs.YteablcielclaeaaGreatDoor
open Go.ChangeShapes Go.WideShapes Go.ChangeAt Go.RowKit
set_option linter.unusedVariables false
set_option maxRecDepth 100000
open Go.Lib (hid)
def AA (X S:Nat→Prop) (base b:Nat) (w:World) (M':aO) (w':World):Prop:=∃ S' B',aY X S' base w' b M' B'∧iI w S S'∧iC S b w w'
variable {X S:Nat→Prop} {base b:Nat} {M:aO} {B:mg}
theorem TQ (a b c:Value) (t q:Int) (w:World):(Instr.field 158 (.agg #[a,b,c,.int .i64 t,.int .i64 q]) 2).run Tryz.prog w=.ok (.int .i64 t) w:=by kernel_rfl
theorem LU (w:World) (h:aY X S base w b M B):Calls Tryz.prog 124 #[.pointer (some ⟨b,0,none⟩)] w fun e w'=>e=.returned (.int .i64 M.pos.turn)∧Below w.heap.size w w':=by
 obtain ⟨up,us,ue,vl,vm,rows,hg⟩:=h.game
 have HG:=hid hg.plain
 have HD:Hid (M.pos=bJ M.R M.ms):=hid rfl
 have c14:=h.box.cell 14 rfl
 clear h hg
 go_enter Tryz.func124,Tryz.ntmps124
 go_wp2_with fail
 refine (l9 w HG.out).mono ?_
 rintro e w1 ⟨vc,v0,v1,rfl,ho,hb⟩
 have HB:=hid hb
 clear hb ho
 have HT:Hid ((bJ M.R M.ms).turn=M.pos.turn):=hid rfl
 have hfT:=TQ vc v0 v1 (bJ M.R M.ms).turn (bJ M.R M.ms).quiet
 generalize (bJ M.R M.ms).turn=tt at *
 generalize (bJ M.R M.ms).quiet=qq at *
 go_wp2_with fail
 go_ret
 exact ⟨by rw [HT.out]; rfl,HB.out⟩
theorem QV (w:World) (h:aY X S base w b M B):Calls Tryz.prog 128 #[.pointer (some ⟨b,0,none⟩)] w fun e w'=>e=.returned (.int .i64 M.ms.length)∧Below w.heap.size w w':=by
 obtain ⟨up,us,ue,vl,vm,rows,hg⟩:=h.game
 have HG:=hid hg.plain
 have c14:=h.box.cell 14 rfl
 clear h hg
 go_enter Tryz.func128,Tryz.ntmps128
 go_wp2_with fail
 refine (vZ w HG.out).mono ?_
 rintro e w1 ⟨v,rfl,ho,hb⟩
 obtain ⟨a,c,rfl⟩:=aH ho
 have HB:=hid hb
 clear hb ho
 go_wp2_with fail
 go_ret
 exact ⟨rfl,HB.out⟩
theorem yJ (HS:SortMvSaid) (w:World) (h:aY X S base w b M B):Calls Tryz.prog 47 #[.pointer (some ⟨b,0,none⟩)] w fun e w'=>e=.returned (.tuple #[])∧AA X S base b w M.over w':=by
 obtain ⟨up,us,ue,vl,vm,rows,hg⟩:=h.game
 have HG:=hid hg.plain
 have HM:=hid h
 have HD:Hid (dV M.R M.ms=M.game):=hid rfl
 have pq:=hid HS
 have c14:=h.box.cell 14 rfl
 clear h hg HS
 go_enter Tryz.func47,Tryz.ntmps47
 go_wp2_with fail
 refine (pG pq.out w HG.out).mono ?_
 rintro e w1 ⟨rfl,hb⟩
 rw [HD.out]
 have wY:=hid (HM.out.below hb)
 have HF1:Hid (iC S b w w1):=hid (iC.new hb)
 have HZ:=hid hb
 clear hb c14
 have c16:=wY.out.box.cell 16 rfl
 have f16:=wY.out.box.frozen 16
 have c17:=wY.out.box.cell 17 rfl
 have f17:=wY.out.box.frozen 17
 by_cases hr:M.res=0
 ·have HRz:=hid hr
  rw [hr] at c16
  clear hr
  by_cases hz:M.game=0
  ·have HO:Hid (M.over=M):=hid (by unfold aO.over; rw [if_neg (fun h=>h.1 hz)])
   rw [hz]
   clear hz
   go_wp2_with fail
   go_end0
   exact ⟨rfl,S,B,by rw [HO.out]; exact wY.out,iI.refl _ _,HF1.out⟩
  ·have HO:Hid (M.over={ M with res:=M.game,reason:=1 }):=hid (by unfold aO.over; rw [if_pos ⟨hz,HRz.out⟩])
   have hzb:(M.game != 0)=true:=by simpa using hz
   have HP:=hid (wY.out.put (M':={ M with res:=M.game,reason:=1 }) (B':=B) 16 [.int .i64 M.game,.int .i64 1] (by simp) rfl rfl rfl rfl (wY.out.rd.imp (fun _ h=>⟨h.rd,h.per,h.pc,h.pr,h.jr⟩)))
   clear hz
   generalize M.game=gm at *
   go_wp2_with fail
   go_end0
   exact ⟨rfl,S,B,by rw [HO.out]; exact HP.out.1,iI.refl _ _,HF1.out.trans HP.out.2 (iI.refl _ _)⟩
 ·have HO:Hid (M.over=M):=hid (by unfold aO.over; rw [if_neg (fun h=>hr h.2)])
  have hrb:(M.res == 0)=false:=by simpa using hr
  clear hr
  generalize M.game=gm at *
  go_wp2_with fail
  go_end0
  exact ⟨rfl,S,B,by rw [HO.out]; exact wY.out,iI.refl _ _,HF1.out⟩
end Go.Proofs.YteablcielclaeaaGreatDoor
namespace Go.Proofs.YteablcielclaeaaGreatDoor
open Go.ChangeShapes Go.WideShapes Go.ChangeAt Go.RowKit
set_option linter.unusedVariables false
def IU (c:pX):Value:=.agg #[.int .i64 c.l0,.int .i64 c.l1,.int .i64 c.m0,.int .i64 c.m1,.int .i64 c.p0,.int .i64 c.p1,.int .i64 c.turn,.int .i64 c.since,.bool c.st,.int .i64 c.ak]
theorem BD.ok {CR:sK} (h:BD CR):clk.dB CR.ps.length CR.inc CR.delay CR.ps:=by
 refine ⟨h.n,h.inc,h.del,fun k hk=>?_⟩
 have h1:=h.pm k hk; have h2:=h.pt k hk; have h3:=h.pz k hk
 unfold clk.kR
 rw [clk.eG h1,clk.eG h2,Bool.true_and,Bool.true_and,beq_iff_eq]
 by_cases e:(CR.ps.getD k (0,0)).1=0
 ·have:=h3.1 e
  rw [show ((CR.ps.getD k (0,0)).1 == 0)=true by simpa using e]
  exact (beq_iff_eq.2 (by omega)).symm
 ·have:¬ (k+1=CR.ps.length):=fun q=>e (h3.2 q)
  rw [show ((CR.ps.getD k (0,0)).1 == 0)=false by simpa using e]
  exact (beq_eq_false_iff_ne.2 (by omega)).symm
theorem BD.of {CR:sK} (h:clk.dB CR.ps.length CR.inc CR.delay CR.ps):BD CR:=by
 have key:∀ k,k<CR.ps.length→(0≤(CR.ps.getD k (0,0)).1∧(CR.ps.getD k (0,0)).1≤400)∧(1≤(CR.ps.getD k (0,0)).2∧(CR.ps.getD k (0,0)).2≤100000000)∧((CR.ps.getD k (0,0)).1=0↔k+1=CR.ps.length):=fun k hk=>by
  have:=h.2.2.2 k hk
  unfold clk.kR at this
  rw [Bool.and_eq_true,Bool.and_eq_true] at this
  obtain ⟨h1,h2,h3⟩:=this
  refine ⟨clk.fE.1 h1,clk.fE.1 h2,?_⟩
  rw [beq_iff_eq] at h3
  constructor
  ·intro e
   rw [show ((CR.ps.getD k (0,0)).1 == 0)=true by simpa using e] at h3
   have:=beq_iff_eq.1 h3.symm
   omega
  ·intro e
   rw [show ((k:Int) == (CR.ps.length:Int) - 1)=true by rw [beq_iff_eq]; omega] at h3
   exact beq_iff_eq.1 h3
 exact ⟨h.1,h.2.1,h.2.2.1,fun k hk=>(key k hk).1,fun k hk=>(key k hk).2.1,fun k hk=>(key k hk).2.2⟩
theorem um.ok {CR:sK} {c:pX} (h:um CR c):clk.gV CR.ps.length c.l0 c.l1 c.m0 c.m1 c.p0 c.p1 c.turn c.since c.ak:=⟨h.t,h.f,h.s,h.p0,h.m0,h.l0,h.p1,h.m1,h.l1⟩
theorem F8 (CR:sK) (c:pX) (now:Int) (pa:Option Addr) (pc:Nat) (w:World) (hr:BD CR) (hk:um CR c) (h0:c.since≤now) (h1:now≤100000000) (hp:clk.eF w w.heap.size pa CR.ps.length CR.ps) :
  Calls Tryz.prog 48 #[.agg #[.slice pa CR.ps.length pc,.int .i64 CR.inc,.int .i64 CR.delay],.agg #[.int .i64 c.l0,.int .i64 c.l1,.int .i64 c.m0,.int .i64 c.m1,.int .i64 c.p0,.int .i64 c.p1,.int .i64 c.turn,.int .i64 c.since,.bool c.st,.int .i64 c.ak],.int .i64 now] w fun e w'=>e=.returned (.tuple #[IU (bK CR c now),.int .i64 0])∧Below w.heap.size w w':=by
 have hn:CR.ps.length≤9223372036854775807:=by have:=hr.n; omega
 have e0:clk.bV now c.since 100000000=true:=clk.eG ⟨h0,h1⟩
 have ho:=hr.ok
 have hc:=hk.ok
 have ht:=hk.t
 obtain ⟨l0,l1,m0,m1,p0,p1,turn,since,st,ak⟩:=c
 have hu:lC CR ⟨l0,l1,m0,m1,p0,p1,turn,since,st,ak⟩ now=clk.dH st CR.delay since now:=rfl
 unfold bK IU
 rw [hu]
 dsimp only at *
 by_cases hf:ak<0
 ·rw [if_pos hf]
  by_cases h:turn=0
  ·subst h
   rw [if_pos rfl]
   by_cases hl:l0<clk.dH st CR.delay since now
   ·rw [if_pos hl]; exact clk.LG pa _ pc _ _ CR.ps l0 l1 m0 m1 p0 p1 since ak st now w hn hp ho hc e0 hf hl
   ·rw [if_neg hl]; exact clk.Au pa _ pc _ _ CR.ps l0 l1 m0 m1 p0 p1 since ak st now w hn hp ho hc e0 hf (by omega)
  ·obtain rfl:turn=1:=by omega
   rw [if_neg h]
   by_cases hl:l1<clk.dH st CR.delay since now
   ·rw [if_pos hl]; exact clk.LH pa _ pc _ _ CR.ps l0 l1 m0 m1 p0 p1 since ak st now w hn hp ho hc e0 hf hl
   ·rw [if_neg hl]; exact clk.Aw pa _ pc _ _ CR.ps l0 l1 m0 m1 p0 p1 since ak st now w hn hp ho hc e0 hf (by omega)
 ·rw [if_neg hf]; exact clk.TM pa _ pc _ _ CR.ps l0 l1 m0 m1 p0 p1 turn since ak st now w hn hp ho hc e0 (by omega)
theorem Pj (CR:sK) (c:pX) (now:Int) (pa:Option Addr) (pc:Nat) (w:World) (hr:BD CR) (hk:um CR c) (h0:c.since≤now) (h1:now≤100000000) (hs:c.st=false) (hf:c.ak<0) (hu:lC CR c now≤if c.turn=0 then c.l0 else c.l1)
  (hp:clk.eF w w.heap.size pa CR.ps.length CR.ps) :
  Calls Tryz.prog 171 #[.agg #[.slice pa CR.ps.length pc,.int .i64 CR.inc,.int .i64 CR.delay],.agg #[.int .i64 c.l0,.int .i64 c.l1,.int .i64 c.m0,.int .i64 c.m1,.int .i64 c.p0,.int .i64 c.p1,.int .i64 c.turn,.int .i64 c.since,.bool c.st,.int .i64 c.ak],.int .i64 now] w fun e w'=>e=.returned (.tuple #[IU (cZ CR c now),.int .i64 0])∧Below w.heap.size w w':=by
 have hn:CR.ps.length≤9223372036854775807:=by have:=hr.n; omega
 have e0:clk.bV now c.since 100000000=true:=clk.eG ⟨h0,h1⟩
 have ho:=hr.ok
 have hc:=hk.ok
 have ht:=hk.t
 obtain ⟨l0,l1,m0,m1,p0,p1,turn,since,st,ak⟩:=c
 dsimp only at *
 subst hs
 have hu2:lC CR ⟨l0,l1,m0,m1,p0,p1,turn,since,false,ak⟩ now=clk.dH false CR.delay since now:=rfl
 unfold cZ IU FU jV
 rw [hu2] at hu ⊢
 by_cases h:turn=0
 ·subst h
  rw [if_pos rfl] at hu ⊢
  refine (clk.OY pa _ pc _ _ CR.ps l0 l1 m0 m1 p0 p1 since ak now w hn hp ho hc e0 hf hu).mono fun e w' h=>⟨h.1.trans ?_,h.2⟩
  simp only [decide_eq_true_eq]
  rfl
 ·obtain rfl:turn=1:=by omega
  rw [if_neg h] at hu ⊢
  refine (clk.O1 pa _ pc _ _ CR.ps l0 l1 m0 m1 p0 p1 since ak now w hn hp ho hc e0 hf hu).mono fun e w' h=>⟨h.1.trans ?_,h.2⟩
  simp only [decide_eq_true_eq]
  rfl
def XC (o:mO):Value:=.agg #[.int .i64 o.b0,.int .i64 o.b1,.int .i64 o.kY,.int .i64 o.kZ,.int .i64 o.l10,.int .i64 o.lq]
theorem qN.ok {o:mO} (h:qN o):off.OkO o.b0 o.b1 o.kY o.kZ o.l10 o.lq:=by
 obtain ⟨⟨a1,a2⟩,⟨a3,a4⟩,⟨a5,a6⟩,⟨a7,a8⟩,⟨a9,a10⟩,⟨b1,b2⟩,c1,c2,c3,c4⟩:=h
 exact ⟨⟨a1,a2,a3,a4,a9,a10,c1,c2⟩,a5,a6,a7,a8,b1,b2,c3,c4⟩
theorem aaV (o:mO) (p:Int) (w:World) (h:qN o) (hp:p=0∨p=1) :
  Calls Tryz.prog 172 #[.agg #[.int .i64 o.b0,.int .i64 o.b1,.int .i64 o.kY,.int .i64 o.kZ,.int .i64 o.l10,.int .i64 o.lq],.int .i64 p] w fun e w'=>e=.returned (.tuple #[XC (su o p),.int .i64 0])∧Below w.heap.size w w':=by
 have hok:=h.ok
 unfold su XC
 rcases hp with rfl | rfl
 ·by_cases hb:o.b0=1
  ·rw [if_pos (show o.b0=1 - 0 by omega)]; exact off.O8 _ _ _ _ _ _ w hok (by simpa using hb)
  ·rw [if_neg (show ¬ o.b0=1 - 0 by omega)]; exact off.LM _ _ _ _ _ _ w hok (by simpa using hb)
 ·by_cases hb:o.b0=0
  ·rw [if_pos (show o.b0=1 - 1 by omega)]; exact off.Pg _ _ _ _ _ _ w hok (by simpa using hb)
  ·rw [if_neg (show ¬ o.b0=1 - 1 by omega)]; exact off.LP _ _ _ _ _ _ w hok (by simpa using hb)
end Go.Proofs.YteablcielclaeaaGreatDoor
namespace Go.Proofs.YteablcielclaeaaGreatDoor
open Go.ChangeShapes Go.WideShapes Go.ChangeAt Go.RowKit
set_option linter.unusedVariables false
open Go.Lib (hid)
theorem aY.ad3 {X S:Nat→Prop} {base:Nat} {w w':World} {b:Nat} {M:aO} {B:mg} (h:aY X S base w b M B) {S':Nat→Prop} {ms':List aA} {up us ue vl vm:Value} {rows:List lM} (hg:gx.bM (out1 X b) S' base w' B.g M.R ms' up us ue vl vm rows) (hs:iI w S S') (hf:Fr S w w') :
  aY X S' base w' b { M with ms:=ms' } B∧iC S b w w':=
 ⟨⟨h.box.held hf h.nb,fun hb=>h.nb (hs b h.box.lt hb),h.lo,⟨_,_,_,_,_,_,hg⟩,(h.rd.step hf hs).imp (fun _ h=>⟨h.rd,h.per,h.pc,h.pr,h.jr⟩),fun k hk=>⟨fun hc=>(h.nx k hk).1 (hs k (h.nx k hk).2 hc),Nat.lt_of_lt_of_le (h.nx k hk).2 hf.size⟩⟩,hf.mono (fun k _ h=>.inl h)⟩
theorem aaW (c:pX):(#[.int .i64 c.l0,.int .i64 c.l1,.int .i64 c.m0,.int .i64 c.m1,.int .i64 c.p0,.int .i64 c.p1,.int .i64 c.turn,.int .i64 c.since,.bool c.st,.int .i64 c.ak]:Array Value).all (·.oneCell')=true:=by simp [Value.oneCell']
structure yK (M:aO) (x:aA) (now:Int):Prop where
 pe:dG M.R M.ms x=0
 cr:BD M.CR
 ck:um M.CR M.clk
 sn:M.clk.since≤now
 nw:now≤100000000
 st:M.clk.st=false
 fl:M.clk.ak<0
 us:lC M.CR M.clk now≤if M.clk.turn=0 then M.clk.l0 else M.clk.l1
 og:qN M.off
 tn:M.pos.turn=0∨M.pos.turn=1
variable {X S:Nat→Prop} {base b:Nat} {M:aO} {B:mg}
set_option maxRecDepth 100000 in
set_option maxHeartbeats 8000000 in
theorem move_any (HS:SortMvSaid) (x:aA) (now:Int) (w:World) (h:aY X S base w b M B) (hb:base≤w.heap.size) (hp:yK M x now):Calls Tryz.prog 129 #[.pointer (some ⟨b,0,none⟩),.agg #[.int .i64 x.src,.int .i64 x.dst,.int .i64 x.piece],.int .i64 now] w fun e w'=>e=.returned (.tuple #[])∧AA X S base b w (M.move x now) w':=by
 have pq:=hid HS
 have HM:=hid h
 have HC:=hid hp
 have Ba:=hid hb
 have JM:=hid hp.pe
 have HSX:Hid (¬ S w.heap.size):=hid (fun hk=>by obtain ⟨up,us,ue,vl,vm,rows,hg⟩:=h.game; have:=(hg.lo _ hk).2; omega)
 clear h hb hp HS
 go_enter Tryz.func129,Tryz.ntmps129
 go_upto_region 1 with (fail)
 refine pV fun w0 uo fG hs_=>?_
 have HX0:=hid uo
 have HB0:=hid fG
 clear hs_ uo fG
 have DJ:=hid (HM.out.below HB0.out)
 go_wp2_with fail
 refine (LU w0 DJ.out).mono ?_
 rintro e w1 ⟨rfl,hb1⟩
 have HB1:=hid (aj HB0.out hb1 HB0.out.size)
 have nR:=hid (HX0.out.stays hb1)
 clear hb1 HX0 DJ HB0
 go_upto_region 2 with (fail)
 generalize w1=wq at *
 have L1:Below w.heap.size w wq.drew:=aP HB1.out
 have Mz:aY X S base wq.drew b M B:=HM.out.below L1
 have Xz:=nR.out.drew
 have Lb:base≤wq.drew.heap.size:=Nat.le_trans Ba.out L1.size
 have HS0:Hid (∀ S',iI wq.drew S S'→iI w S S'):=hid (fun S' h k hk h'=>h k (Nat.lt_of_lt_of_le hk L1.size) h')
 have HF0:Hid (iC S b w wq.drew):=hid (iC.new L1)
 obtain ⟨up,us,ue,vl,vm,rows,Gz⟩:=Mz.game
 clear HB1 nR HM L1
 refine wp_region_noPanic ?_
 refine bU (S:=(fun w'=>w'.cell? ⟨b,14,none⟩=some (.pointer (some ⟨B.g,0,none⟩))∧w'.cell? ⟨w.heap.size,0,none⟩=some (.int .i64 x.src)∧w'.cell? ⟨w.heap.size,1,none⟩=some (.int .i64 x.dst)∧w'.cell? ⟨w.heap.size,2,none⟩=some (.int .i64 x.piece))) (L:=[]) (by kernel_rfl) ⟨Mz.box.cell 14 rfl,Xz.cell 0 rfl,Xz.cell 1 rfl,Xz.cell 2 rfl⟩ (fun hHeld=>?_)
 refine aJ 0 ?_
 refine eH 4 ?_
 refine aJ 1 ?_
 refine aJ 2 ?_
 refine eH 3 ?_
 refine gI 5 fun K hK=>?_
 go_simp
 refine (gx.yG pq.out x _ Gz Lb (fun k hk=>Mz.LQ k (.inr hk))).mono ?_
 rintro e w5 hp
 rcases hp with ⟨hn,-⟩ | ⟨-,rfl,S',W9,Vl,rows',hg',hs,hf⟩
 ·exact absurd JM.out hn
 have MP:=Mz.ad3 hg' hs hf
 have X5:=Xz.held hf HSX.out
 clear hg' hf
 refine hK.out _ _ ⟨MP.1.box.cell 14 rfl,X5.cell 0 rfl,X5.cell 1 rfl,X5.cell 2 rfl⟩ (fun hHeld=>?_)
 clear hK K
 refine kW ?_
 have TR:=hid MP.1
 have TT:=hid MP.2
 have TU:=hid hs
 clear MP X5 hs hHeld Gz Mz Xz Lb
 go_upto_region 3 with (fail)
 have HFa:Hid (iC S b w w5.drew):=hid (Fr.drew (iC.trans HF0.out TT.out (iI.refl _ _)))
 have HSa:Hid (iI w S S'):=hid (HS0.out S' TU.out)
 clear HF0 HS0 TT TU
 generalize w5=wq at *
 have Mz:aY X S' base wq.drew b { M with ms:=M.ms++[x] } B:=TR.out.below (aP (Below.refl _ _))
 clear TR
 refine wp_region_noPanic ?_
 refine bU (S:=(fun w'=>w'.cell? ⟨b,11,none⟩=some (.slice B.pa M.CR.ps.length B.pc)∧w'.cell? ⟨b,12,none⟩=some (.int .i64 M.CR.inc)∧w'.cell? ⟨b,13,none⟩=some (.int .i64 M.CR.delay)∧w'.cell? ⟨b,18,none⟩=some (.int .i64 M.clk.l0)∧w'.cell? ⟨b,19,none⟩=some (.int .i64 M.clk.l1)∧w'.cell? ⟨b,20,none⟩=some (.int .i64 M.clk.m0)∧w'.cell? ⟨b,21,none⟩=some (.int .i64 M.clk.m1)∧w'.cell? ⟨b,22,none⟩=some (.int .i64 M.clk.p0)∧w'.cell? ⟨b,23,none⟩=some (.int .i64 M.clk.p1)∧w'.cell? ⟨b,24,none⟩=some (.int .i64 M.clk.turn)∧w'.cell? ⟨b,25,none⟩=some (.int .i64 M.clk.since)∧w'.cell? ⟨b,26,none⟩=some (.bool M.clk.st)∧w'.cell? ⟨b,27,none⟩=some (.int .i64 M.clk.ak))) (L:=[18]) (by kernel_rfl) (by and_intros <;> exact Mz.box.cell _ rfl) (fun hHeld=>?_)
 refine aJ 0 ?_
 refine aJ 1 ?_
 refine aJ 5 ?_
 refine aJ 10 ?_
 refine aJ 2 ?_
 refine aJ 6 ?_
 refine aJ 3 ?_
 refine aJ 7 ?_
 refine eH 4 ?_
 refine aJ 8 ?_
 refine eH 9 ?_
 refine gI 11 fun K hK=>?_
 go_simp
 refine (Pj M.CR M.clk now B.pa B.pc _ HC.out.cr HC.out.ck HC.out.sn HC.out.nw HC.out.st HC.out.fl HC.out.us Mz.fr.per).mono ?_
 rintro e w11 ⟨rfl,ahh⟩
 unfold IU
 have M11:=Mz.below ahh
 have F11:=ahh
 refine hK.out _ _ (by and_intros <;> exact M11.box.cell _ rfl) (fun hHeld=>?_)
 clear hK K
 refine aJ 12 ?_
 refine aJ 13 ?_
 refine aJ 14 ?_
 refine aJ 15 ?_
 refine aJ 16 ?_
 refine aJ 17 ?_
 refine xU 18 fun K hK=>?_
 rw [if_pos (by rfl)]
 refine wp_store_mid 83 (.tmp 32) (.tmp 28) (by rfl) b 18 #[.int .i64 (cZ M.CR M.clk now).l0,.int .i64 (cZ M.CR M.clk now).l1,.int .i64 (cZ M.CR M.clk now).m0,.int .i64 (cZ M.CR M.clk now).m1,.int .i64 (cZ M.CR M.clk now).p0,.int .i64 (cZ M.CR M.clk now).p1,.int .i64 (cZ M.CR M.clk now).turn,.int .i64 (cZ M.CR M.clk now).since,.bool (cZ M.CR M.clk now).st,.int .i64 (cZ M.CR M.clk now).ak] (by rfl) (by rfl) (M11.box.has 18 10 (by simp [TP])) (by kernel_rfl) (aaW (cZ M.CR M.clk now)) ?_
 refine bg ?_
 intro w18 e18
 have E18:=hid e18
 clear e18
 refine hK.out _ _ ?_
 clear hK K
 refine kW ?_
 have MP:=M11.put (M':={ M with ms:=M.ms++[x],clk:=(cZ M.CR M.clk now) }) (B':=B) 18 [.int .i64 (cZ M.CR M.clk now).l0,.int .i64 (cZ M.CR M.clk now).l1,.int .i64 (cZ M.CR M.clk now).m0,.int .i64 (cZ M.CR M.clk now).m1,.int .i64 (cZ M.CR M.clk now).p0,.int .i64 (cZ M.CR M.clk now).p1,.int .i64 (cZ M.CR M.clk now).turn,.int .i64 (cZ M.CR M.clk now).since,.bool (cZ M.CR M.clk now).st,.int .i64 (cZ M.CR M.clk now).ak] (by simp) rfl rfl rfl rfl (M11.rd.imp (fun _ h=>⟨h.rd,h.per,h.pc,h.pr,h.jr⟩))
 have Pm:Hid (aY X S' base w18 b { M with ms:=M.ms++[x],clk:=(cZ M.CR M.clk now) } B):=hid (by rw [E18.out]; exact MP.1)
 have alm:Hid (iC S' b wq.drew w18):=hid (by rw [E18.out]; exact (iC.new F11).trans MP.2 (iI.refl _ _))
 clear MP E18 M11 F11 hHeld Mz
 go_upto_region 4 with (fail)
 generalize w18=w8 at *
 have c28:=Pm.out.box.cell 28 rfl
 have c29:=Pm.out.box.cell 29 rfl
 have c30:=Pm.out.box.cell 30 rfl
 have c31:=Pm.out.box.cell 31 rfl
 have c32:=Pm.out.box.cell 32 rfl
 have c33:=Pm.out.box.cell 33 rfl
 go_wp2_with fail
 refine (aaV M.off M.pos.turn w8 HC.out.og HC.out.tn).mono ?_
 rintro e w9 ⟨rfl,xP⟩
 unfold XC
 have kS:=hid (Pm.out.below xP)
 have EX:Hid (iC S' b w8 w9):=hid (iC.new xP)
 clear xP c28 c29 c30 c31 c32 c33
 have c28:=kS.out.box.cell 28 rfl
 have f28:=kS.out.box.frozen 28
 have c29:=kS.out.box.cell 29 rfl
 have f29:=kS.out.box.frozen 29
 have c30:=kS.out.box.cell 30 rfl
 have f30:=kS.out.box.frozen 30
 have c31:=kS.out.box.cell 31 rfl
 have f31:=kS.out.box.frozen 31
 have c32:=kS.out.box.cell 32 rfl
 have f32:=kS.out.box.frozen 32
 have c33:=kS.out.box.cell 33 rfl
 have f33:=kS.out.box.frozen 33
 have HP:=hid (kS.out.put (M':=M.move x now) (B':=B) 28 [.int .i64 (su M.off M.pos.turn).b0,.int .i64 (su M.off M.pos.turn).b1,.int .i64 (su M.off M.pos.turn).kY,.int .i64 (su M.off M.pos.turn).kZ,.int .i64 (su M.off M.pos.turn).l10,.int .i64 (su M.off M.pos.turn).lq] (by simp) rfl rfl rfl rfl (kS.out.rd.imp (fun _ h=>⟨h.rd,h.per,h.pc,h.pr,h.jr⟩)))
 generalize (su M.off M.pos.turn)=om at *
 go_wp2_with fail
 go_end0
 exact ⟨rfl,S',B,HP.out.1,HSa.out,iC.trans HFa.out (alm.out.trans (EX.out.trans HP.out.2 (iI.refl _ _)) (iI.refl _ _)) HSa.out⟩
end Go.Proofs.YteablcielclaeaaGreatDoor
namespace Go.Proofs.YteablcielclaeaaGreatDoor
open Go.ChangeShapes Go.WideShapes Go.ChangeAt Go.RowKit
set_option linter.unusedVariables false
structure Mid (M:aO) (now:Int):Prop where
 nm:M.R.name.size≤maxLen
 cr:BD M.CR
 ck:um M.CR M.clk
 sn:M.clk.since≤now
 nw:now≤100000000
 st:M.clk.st=false
 fl:M.clk.ak<0
 og:qN M.off
 pr:pI M.aQ
 us:lC M.CR M.clk now≤if M.clk.turn=0 then M.clk.l0 else M.clk.l1
theorem Mid.n0 {M:aO} {now:Int} (h:Mid M now):0≤now:=by have:=h.ck.s; have:=h.sn; omega
theorem Mid.move {M:aO} {now:Int} (h:Mid M now) (x:aA):Mid (M.move x now) now:=by
 have hr:=OQ M.CR M.clk now
 have hg:um M.CR (cZ M.CR M.clk now):=aaC h.cr h.ck h.n0 h.nw h.us
 refine ⟨h.nm,h.cr,hg,?_,h.nw,?_,?_,aaE h.og _,h.pr,?_⟩
 ·show (cZ M.CR M.clk now).since≤now; rw [hr.1]; exact Int.le_refl _
 ·show (cZ M.CR M.clk now).st=false; rw [hr.2.2]; exact h.st
 ·show (cZ M.CR M.clk now).ak<0; rw [hr.2.1]; exact h.fl
 ·show lC M.CR (cZ M.CR M.clk now) now≤_
  rw [TG h.cr hr.1]
  have h0:=hg.l0; have h1:=hg.l1
  show 0≤if (cZ M.CR M.clk now).turn=0 then (cZ M.CR M.clk now).l0 else (cZ M.CR M.clk now).l1
  split <;> omega
theorem Mid.rest {M:aO} {now:Int} (h:Mid M now):Mid { M with aQ:=aI M.R M.pos M.aQ } now:=
 ⟨h.nm,h.cr,h.ck,h.sn,h.nw,h.st,h.fl,h.og,h.pr.sub (Xn _ _ _),h.us⟩
theorem TV (now:Int) (f:Nat) (M:aO) (h:M.game=0) (hl:M.ms.length<400) (hf:0<f) :
  aO.runs now f M=if jA M.R M.pos M.aQ=true then aO.runs now (f - 1) (aO.move { M with aQ:=aI M.R M.pos M.aQ } (bn M.R M.pos M.aQ) now) else { M with aQ:=aI M.R M.pos M.aQ }:=by
 obtain ⟨f,rfl⟩:∃ k,f=k+1:=⟨f - 1,by omega⟩
 rw [aO.runs,if_pos ⟨h,hl⟩]; rfl
theorem Gf (now:Int) (f:Nat) (M:aO) (h:¬ (M.game=0∧M.ms.length<400)):aO.runs now f M=M:=by
 cases f with
 | zero=>rfl
 | succ f=>rw [aO.runs,if_neg h]
theorem DK {R:au} {p:aV} {l:List fK} (h:jA R p l=true):bn R p l∈jP R p:=by
 unfold bn
 rw [if_pos h]
 unfold jA at h
 rw [Bool.and_eq_true] at h
 exact of_decide_eq_true h.2
theorem Pn {R:au} {p:aV} {m:aA} (h:m∈jP R p):m∈aW R p:=by
 unfold jP at h
 split at h
 ·exact h
 ·cases h
theorem uV {R:au} {ms:List aA} {m:aA} (h1:dV R ms=0) (h2:m∈jP R (bJ R ms)) (h3:ms.length≠400):dG R ms m=0:=by
 unfold dG
 rw [if_neg (by simp [h1]),if_neg (by simpa using Pn h2),if_neg h3]
theorem TW {l:List fK} (h:pI l):uT l=0:=by
 unfold uT
 have h0:=h.n0; have h1:=h.n1
 rw [if_neg (by omega),if_neg]
 intro hc
 rw [List.any_eq_true] at hc
 obtain ⟨x,hx,hb⟩:=hc
 rcases h.pl x hx with e | e <;> simp [e] at hb
end Go.Proofs.YteablcielclaeaaGreatDoor

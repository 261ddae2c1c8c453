/- TkKnSeeds2, TkIntsIdx, TkKnPlay, TkKnPlay2, TopPl, Rz1. -/
import Derived.Test.YteablcielclaeaaGreatDoorP35
import Derived.Deep.RegionLaw
namespace Go.Proofs.YteablcielclaeaaGreatDoor
open Go.ChangeShapes Go.WideShapes Go.ChangeAt Go.RowKit
set_option linter.unusedVariables false
open Go.Lib (hid)
theorem Vx (l:List Int) (k:Nat):l.set k (l.getD k 0)=l:=by
 apply List.ext_getElem?
 intro i
 rw [List.getElem?_set]
 split
 ·rename_i h
  subst h
  split
  ·rename_i h2
   rw [List.getD_eq_getElem?_getD,List.getElem?_eq_getElem h2]; rfl
  ·rename_i h2
   rw [List.getElem?_eq_none (by omega)]
 ·rfl
def ZX (l:List Int) (w:World) (e:Ending) (w':World):Prop:=∃ v,e=.returned v∧w'.ownsRow w.heap.size 3 1 v l.length (ints l)∧Below w.heap.size w w'
set_option maxHeartbeats 1000000 in
theorem Vy (n:Nat) (w:World) (h0:2≤n) (h1:n≤32) :
  Calls Tryz.prog 37 #[.int .i64 n] w (ZX (xC n) w):=by
 obtain ⟨i0,hi,hz0,hz1,hz2⟩:=info_parts info3
 have hk1:1≤EK n∧EK n≤5:=by unfold EK; split <;> (try split) <;> (try split) <;> (try split) <;> omega
 have HZ:Hid (xC n=(gY (EK n)).map (QT n)):=hid rfl
 go_enter Tryz.func37,Tryz.ntmps37
 go_wp2_with fail
 refine (NS n _ h0 h1).mono ?_
 rintro e w' ⟨rfl,rfl⟩
 generalize EK n=K at *
 have hown0:(w.alloc (.cells #[.int .i64 0] 3)).ownsRow w.heap.size 3 1 (.slice (some ⟨w.heap.size,0,none⟩) 1 1) 1 (ints (gY 0)):=⟨rfl,.inr ⟨w.heap.size,1,#[.int .i64 0],rfl,Nat.le_refl _,heap_alloc_new w _,Nat.le_refl _,by unfold maxLen; omega,rfl,rfl⟩⟩
 have HO:=hid hown0
 have hB:Below w.heap.size w (w.alloc (.cells #[.int .i64 0] 3)):=by go_grown
 clear hown0
 go_wp2_with fail
 go_loopw [3,13] (fun v i wr=>∃ r:Nat,r≤K∧i=.int .i64 r∧Hid (wr.ownsRow w.heap.size 3 1 v (gY r).length (ints (gY r)))∧Below w.heap.size w wr) (fun _ i _=>K - (intOf i).toNat)
 case atStart=>exact ⟨0,Nat.zero_le _,rfl,HO,hB⟩
 case round =>
  obtain ⟨r,hr,rfl,HO,hbl⟩:=hrel
  have hlen:1≤(gY r).length∧(gY r).length≤32:=by
   rw [Bh]
   have:2 ^ r≤2 ^ 5:=Nat.pow_le_pow_right (by omega) (by omega)
   have:0<2 ^ r:=Nat.pow_pos (by omega)
   omega
  obtain ⟨G,cap,hv⟩:=dY HO.out (by omega)
  subst hv
  have hG:=HO.out.lt G rfl
  have hsz:=hbl.size
  by_cases hlt:r<K
  ·have HS:Hid (gY (r+1)=nJ (gY r) (gY r).length):=hid rfl
   have HIn:=hid (EL r (by omega))
   generalize hl:gY r=l at *
   clear hl
   go_wp2_with fail
   obtain ⟨wo,rfl⟩:∃ wo:World,wo=wr:=⟨_,rfl⟩
   go_loopw [4,17] (fun v i wr=>∃ k:Nat,k≤l.length∧i=.int .i64 k∧Hid (wr.ownsRow wo.heap.size 3 1 v (2 * k) (ints (nJ l k)))∧Hid (wr.ownsRow w.heap.size 3 1 (.slice (some ⟨G,0,none⟩) l.length cap) l.length (ints l))∧wo.heap.size≤wr.heap.size∧Below w.heap.size w wr) (fun _ i _=>l.length - (intOf i).toNat)
   case atStart=>exact ⟨0,Nat.zero_le _,rfl,hid (World.ownsRow_nil _ _ _ _),HO,Nat.le_refl _,hbl⟩
   case round =>
    obtain ⟨k,hk,rfl,HN,HL,hwo,hbk⟩:=hrel
    by_cases hltk:k<l.length
    ·have ck:wr.cell? ⟨G,k,none⟩=some (.int .i64 (l.getD k 0)):=(HL.out.cellAt k (by omega)).trans (dI _ k hltk)
     have hb:=HIn.out k
     have HP:=hid (zl l k)
     have HPS:Hid (Tc l k=if ((k:Int) % 2 == 1)=true then [2 * (l.length:Int) - 1 - l.getD k 0,l.getD k 0] else [l.getD k 0,2 * (l.length:Int) - 1 - l.getD k 0]):=hid rfl
     generalize l.getD k 0=z at *
     have aiW:=hbk.size
     have hG2:=HL.out.lt G rfl
     have hm0:0≤(k:Int):=by omega
     have Ox:Hid (∀ x y:Int,(wr.alloc (.cells #[.int .i64 x,.int .i64 y] 3)).ownsRow wo.heap.size 3 1 u4 (2 * k) (ints (nJ l k))):=hid (fun x y=>HN.out.alloc _)
     cases hodd:((k:Int) % 2 == 1)
     all_goals
      go_wp2_with (at_builtin; refine wpList_append_own _ rfl _ _ 22 rfl wo.heap.size 3 i0 (.int .i64 0) 1 8 Tryz.underlying22 hi hz0 hz1 hz2 rfl (by decide) _ (2 * k) (ints (nJ l k)) rfl (Ox.out _ _) ⟨wr.heap.size,0,none⟩ 2 2 [.int .i64 _,.int .i64 _] rfl rfl (cell_two_new _ _ _ _) ?c2 ?c3 ?c4 ?c5 ?_)
      case c2=>intro u hu; simp at hu; rcases hu with rfl | rfl <;> rfl
      case c3=>unfold maxLen; omega
      case c4=>omega
      case c5=>simp; omega
      intro v' w1 hown' hgrow _
      have hbw:Below w.heap.size w w1:=Below.grown (hbk.alloc aiW _) hgrow (by simp; omega) (fun q hq=>by have:=(HN.out.lt q hq).1; omega)
      have hLw:=hid ((HL.out.alloc _).kept hgrow (Or.inr (fun hq=>by have:=(HN.out.lt G hq.symm).1; omega)))
      have hw1:wo.heap.size≤w1.heap.size:=by have:=hgrow.size; simp at this; omega
      have HO':=hid hown'
      clear hown' hgrow Ox
      go_wp2_with fail
      go_roundw
      case rel=>exact ⟨k+1,by omega,by go_num,hid (by rw [HP.out,HPS.out,hodd]; simpa [ints,Nat.mul_add] using HO'.out),hLw,hw1,hbw⟩
      case measure=>simp [intOf]; omega
    ·obtain rfl:k=l.length:=by omega
     go_wp2_with fail
     go_roundw
     case rel=>exact ⟨r+1,by omega,by go_num,hid (by rw [HS.out,Bg]; exact own_base HN.out (by omega)),hbk⟩
     case measure=>simp [intOf]; omega
  ·obtain rfl:r=K:=by omega
   have HIn:=hid (EL r (by omega))
   generalize hl:gY r=l at *
   clear hl
   go_wp2_with fail
   obtain ⟨wo,rfl⟩:∃ wo:World,wo=wr:=⟨_,rfl⟩
   go_loopw [43] (fun i wr=>∃ k:Nat,k≤l.length∧i=.int .i64 k∧Hid (wr.ownsRow w.heap.size 3 1 (.slice (some ⟨G,0,none⟩) l.length cap) l.length (ints (wG n l k)))∧Below w.heap.size w wr) (fun i _=>l.length - (intOf i).toNat)
   case atStart=>exact ⟨0,Nat.zero_le _,rfl,hid (by simpa [wG] using HO.out),hbl⟩
   case round =>
    obtain ⟨k,hk,rfl,HL,hbk⟩:=hrel
    by_cases hltk:k<l.length
    ·have ck:wr.cell? ⟨G,k,none⟩=some (.int .i64 (l.getD k 0)):=by
      rw [← Ic n l k hltk]
      exact (HL.out.cellAt k (by omega)).trans (dI _ k (by rw [Vw]; omega))
     have fk:wr.frozen? ⟨G,k,none⟩=false:=HL.out.frozenAt k
     have HST:=hid (QU n l k hltk)
     have HG:=hid (Ic n l k hltk)
     have hb:=HIn.out k
     have Gi:=hid (fun x=>(HL.out.stored k (.int .i64 x)).1)
     generalize l.getD k 0=z at *
     by_cases hz:(n:Int)≤z
     ·go_wp2_with fail
      go_roundw
      case rel=>exact ⟨k+1,by omega,by go_num,hid (by rw [HST.out,← ints_set]; unfold QT; rw [if_pos hz]; exact Gi.out _),hbk.setCell (by simp; omega) _⟩
      case measure=>simp [intOf]; omega
     ·go_wp2_with fail
      go_roundw
      case rel=>exact ⟨k+1,by omega,by go_num,hid (by rw [HST.out]; unfold QT; rw [if_neg hz,← HG.out,Vx]; exact HL.out),hbk⟩
      case measure=>simp [intOf]; omega
    ·obtain rfl:k=l.length:=by omega
     go_wp2_with fail
     go_ret
     exact ⟨_,rfl,by rw [HZ.out]; have:=HL.out; unfold wG at this; simpa using this,hbk⟩
theorem JF (v:Value) (zs:List Int) (x:Int) (w:World) (h:fQ w v zs) :
  Calls Tryz.prog 38 #[v,.int .i64 x] w fun e w'=>e=.returned (.bool (zs.any fun z=>x == z))∧w=w':=by
 have HI:=hid (uO v zs x w h)
 have HA:=hid (Nk x zs 0 (by omega))
 clear h
 go_enter Tryz.func38,Tryz.ntmps38
 go_wp2_with fail
 refine HI.out.mono ?_
 rintro e w' ⟨rfl,rfl⟩
 go_wp2_with fail
 go_ret
 exact ⟨by rw [← HA.out]; rfl,rfl⟩
def ZY (x:Int):Bool:=x != 0 && x != 2
theorem ac1 (x:Int) (w:World):Calls Tryz.prog 36 #[.int .i64 x] w fun e w'=>e=.returned (.bool (ZY x))∧w=w':=by
 have H:Hid (ZY x=(x != 0 && x != 2)):=hid rfl
 cases h0:(x != 0)
 all_goals
  go_enter Tryz.func36,Tryz.ntmps36
  go_wp2
  go_ret
  exact ⟨by rw [H.out,h0]; simp,rfl⟩
theorem ac2 (args:Array Value) (w:World):(callFunc 36 args).run Tryz.prog w=.ok (.enter 36 args) w:=by kernel_rfl
abbrev Z4:=Int×Int×Int
def flatK (gs:List Z4):List Value:=gs.flatMap fun g=>[.int .i64 g.1,.int .i64 g.2.1,.int .i64 g.2.2]
theorem oM (gs:List Z4) (g:Z4):flatK (gs++[g])=flatK gs++[.int .i64 g.1,.int .i64 g.2.1,.int .i64 g.2.2]:=by simp [flatK]
structure KS where
 out:List Z4
 next:List Int
 rs:List Int
def pI (a b:Int) (rs:List Int):Int:=if a<0∨b<0 then (if a<b then b else a) else match rs with | []=>-2 | r :: _=>if r=0 then b else a
def nextR (a b:Int) (rs:List Int):List Int:=if a<0∨b<0 then rs else rs.tail
def Z9 (round a b:Int) (s:KS):KS:=⟨s.out++[(round,a,b)],s.next++[pI a b s.rs],nextR a b s.rs⟩
def gZ (round:Int) (l:List Int) (s:KS):Nat→KS
 | 0=>s
 | m+1=>Z9 round (l.getD (2 * m) 0) (l.getD (2 * m+1) 0) (gZ round l s m)
def Td (l:List Int):Bool:=l.any fun z=>(-2:Int) == z
def wH:Nat→Nat→List Int→List Z4→List Int→List Int×List Z4×List Int
 | 0,_,l,out,rs=>(l,out,rs)
 | j+1,round,l,out,rs=>if Td l=true then (l,out,rs) else wH j (round+1) (gZ round l ⟨out,[],rs⟩ (2 ^ j)).next (gZ round l ⟨out,[],rs⟩ (2 ^ j)).out (gZ round l ⟨out,[],rs⟩ (2 ^ j)).rs
def Cm (r:List Int×List Z4×List Int):List Z4×Int×Int:=
 if r.2.2≠[] then ([],0,2) else if r.1.length=1 then (r.2.1,(if r.1.getD 0 0 < -1 then -1 else r.1.getD 0 0),0) else (r.2.1,-1,0)
def wI (n:Nat) (rs:List Int):List Z4×Int×Int:=if rs.any ZY=true then ([],0,4) else Cm (wH (EK n) 0 (xC n) [] rs)
theorem JH (round:Int) (l:List Int) (s:KS) (m:Nat):(gZ round l s m).out.length=s.out.length+m∧(gZ round l s m).next.length=s.next.length+m:=by
 induction m with
 | zero=>exact ⟨rfl,rfl⟩
 | succ m ih=>simp only [gZ,Z9,List.length_append,List.length_cons,List.length_nil]; omega
theorem ajK:(Tryz.prog.info? 117).map (fun i=>(i.zero,i.size,i.bytes))=some (some (.agg #[.int .i64 0,.int .i64 0,.int .i64 0]),3,24):=by kernel_rfl
theorem ajL:Tryz.prog.underlying 22=some (.slice (Tryz.prog.elem 22)):=by kernel_rfl
theorem ajM (w:World):(sizeOf (Tryz.prog.elem 22)).run Tryz.prog w=.ok 1 w:=by kernel_rfl
theorem EM (w:World) (a b c:Value) (t:TypeId):∀ j u,[a,b,c][j]?=some u→(w.alloc (.cells #[a,b,c] t)).cell? ((⟨w.heap.size,0,none⟩:Addr).add j)=some u:=by
 intro j u hu
 match j,hu with
 | 0,hu=>simp at hu; subst hu; simp [Addr.add]
 | 1,hu=>simp at hu; subst hu; simp [Addr.add]
 | 2,hu=>simp at hu; subst hu; simp [Addr.add]
 | j+3,hu=>simp at hu
theorem fQ.tail {w:World} {a:Option Addr} {c:Nat} {r:Int} {t:List Int} (h:fQ w (.slice a (t.length+1) c) (r :: t)):fQ w (.slice (iT a c 1 1) t.length (c - 1)) t:=by
 have:=Rd.drop (sz:=1) (n:=t.length+1) h 1 (by omega)
 simpa [fQ,ints] using this
def Vz (r:List Z4×Int×Int) (w:World) (e:Ending) (w':World):Prop:=
 ∃ v,e=.returned (.tuple #[v,.int .i64 r.2.1,.int .i64 r.2.2])∧w'.ownsRow w.heap.size 117 3 v r.1.length (flatK r.1)∧Below w.heap.size w w'
set_option maxRecDepth 100000 in
set_option maxHeartbeats 2000000 in
theorem ac3 (n:Nat) (v:Value) (NT:List Int) (w:World) (h0:2≤n) (h1:n≤32) (hr:fQ w v NT) (hb:NT.any ZY=false) :
  Calls Tryz.prog 11 #[.int .i64 n,v] w (Vz (wI n NT) w):=by
 obtain ⟨i0,hi,hz0,hz1,hz2⟩:=info_parts info3
 obtain ⟨j0,ki,kz0,kz1,kz2⟩:=info_parts ajK
 have HR:=hid (show wI n NT=Cm (wH (EK n) 0 (xC n) [] NT) by unfold wI; rw [if_neg (by simp [hb])])
 have HC:=hid (jF v NT ZY 36 #[] w hr ac2 (fun z _=>ac1 z w))
 rw [hb] at HC
 have HRS:=hid hr
 have hk5:EK n≤5:=by unfold EK; split <;> (try split) <;> (try split) <;> (try split) <;> omega
 have HSL:=hid (show (xC n).length=2 ^ EK n by unfold xC; rw [List.length_map,Bh])
 clear hb hr
 go_enter Tryz.func11,Tryz.ntmps11
 go_wp2_with fail
 refine (Vu n _ (by omega) (by omega)).mono ?_
 rintro e w' ⟨rfl,rfl⟩
 go_wp2_with fail
 refine HC.out.mono ?_
 rintro e w' ⟨rfl,rfl⟩
 go_wp2_with fail
 refine (Vy n _ h0 h1).mono ?_
 rintro e w1 ⟨vl,rfl,hown1,hb1⟩
 have VY:=hid hown1
 clear hown1
 generalize xC n=l0 at *
 generalize EK n=K at *
 have aoY:2 ^ K≤32:=Nat.le_trans (Nat.pow_le_pow_right (by omega) hk5) (by decide)
 go_wp2_with fail
 go_loopw [1,8,9,10] (fun vr vo vl rd wr=>∃ (j round:Nat) (l:List Int) (out:List Z4) (rs:List Int),rd=.int .i64 round∧round≤100 - j∧j≤5∧lenV vl=2 ^ j∧Hid (l.length=2 ^ j)∧Hid (out.length+l.length≤32)∧Hid (fQ w vr rs)∧Hid (wr.ownsRow w.heap.size 117 3 vo out.length (flatK out))∧Hid (wr.ownsRow w.heap.size 3 1 vl l.length (ints l))∧Hid (wH K 0 l0 [] NT=wH j round l out rs)∧Below w.heap.size w wr) (fun _ _ vl _ _=>lenV vl)
 case atStart=>exact ⟨K,0,l0,[],NT,rfl,by omega,hk5,by obtain ⟨a,c,rfl⟩:=aG VY.out; rw [← HSL.out]; rfl,HSL,hid (by rw [HSL.out]; simpa using aoY),HRS,hid (World.ownsRow_nil _ _ _ _),VY,hid rfl,hb1⟩
 case round =>
  obtain ⟨j,round,l,out,rs,rfl,hrd,hj5,hlv,HLL,HOL,uT,HOo,Qi,HP,hbl⟩:=hrel
  obtain ⟨ra,rc,hvr,avL,ao0⟩:=uT.out.form
  subst hvr
  obtain ⟨la,lc,hvl⟩:=aG Qi.out
  subst hvl
  unfold maxLen at ao0
  clear hlv
  have avM:l.length≤32:=by have:=HOL.out; omega
  have avN:out.length≤32:=by have:=HOL.out; omega
  have HCt:=hid (JF (.slice la l.length lc) l (-2) wr (fQ.dB Qi.out))
  cases j with
  | zero =>
   have hl1:l.length=1:=by rw [HLL.out]
   have HE:Hid (wI n NT=if rs≠[] then ([],0,2) else (out,(if l.getD 0 0 < -1 then -1 else l.getD 0 0),0)):=hid (by rw [HR.out,HP.out,wH,Cm]; simp only; rw [if_pos hl1])
   obtain ⟨g,c,hg⟩:=dY Qi.out (by omega)
   simp only [Value.slice.injEq,true_and] at hg
   obtain ⟨rfl,rfl⟩:=hg
   have c0:wr.cell? ⟨g,0,none⟩=some (.int .i64 (l.getD 0 0)):=(Qi.out.cellAt 0 (by omega)).trans (dI _ 0 (by omega))
   have yt:=hid hl1
   rw [hl1]
   clear hl1 HCt
   cases rs with
   | nil =>
    generalize l.getD 0 0=z at *
    by_cases hz:z < -1
    all_goals
     go_wp2_with fail
     go_region
     go_wp2_with fail
     go_ret3
     first | rw [show max z (-1)= -1 by omega] | rw [show max z (-1)=z by omega] | skip
     exact ⟨_,by rw [HE.out,if_neg (by simp)]; first | (rw [if_pos (by omega)]; rfl) | (rw [if_neg (by omega)]; rfl),by rw [HE.out,if_neg (by simp)]; exact HOo.out,hbl.drew⟩
   | cons r0 t =>
    have hlen:0<(r0 :: t).length:=by simp
    generalize (r0 :: t).length=q at *
    go_wp2_with fail
    go_ret3
    exact ⟨_,by rw [HE.out]; rfl,by rw [HE.out]; exact World.ownsRow_nil _ _ _ _,hbl⟩
  | succ j =>
   have hl2:2≤l.length:=by rw [HLL.out,Nat.pow_succ]; have:=Nat.pow_pos (n:=j) (show 0<2 by omega); omega
   cases hop:Td l
   ·have HP2:Hid (wH K 0 l0 [] NT=wH j (round+1) (gZ round l ⟨out,[],rs⟩ (2 ^ j)).next (gZ round l ⟨out,[],rs⟩ (2 ^ j)).out (gZ round l ⟨out,[],rs⟩ (2 ^ j)).rs):=hid (by rw [HP.out,wH,if_neg (by simp [hop])])
    have hop':(l.any fun z=>(-2:Int) == z)=false:=hop
    rw [hop'] at HCt
    clear hop hop' HP
    go_wp2_with fail
    refine HCt.out.mono ?_
    rintro e w' ⟨rfl,rfl⟩
    obtain ⟨g,c,hg⟩:=dY Qi.out (by omega)
    simp only [Value.slice.injEq,true_and] at hg
    obtain ⟨rfl,rfl⟩:=hg
    have hgl:=Qi.out.lt g rfl
    have hwo:=hbl.size
    go_wp2_with fail
    obtain ⟨wo,rfl⟩:∃ wo:World,wo=wr:=⟨_,rfl⟩
    go_loopw [1,8,11,12] (fun vr vo vn i wr=>∃ m:Nat,m≤2 ^ j∧i=.int .i64 ((2 * m:Nat):Int)∧Hid (fQ w vr (gZ round l ⟨out,[],rs⟩ m).rs)∧Hid (wr.ownsRow w.heap.size 117 3 vo (out.length+m) (flatK (gZ round l ⟨out,[],rs⟩ m).out))∧Hid (wr.ownsRow wo.heap.size 3 1 vn m (ints (gZ round l ⟨out,[],rs⟩ m).next))∧Hid (wr.ownsRow w.heap.size 3 1 (.slice (some ⟨g,0,none⟩) l.length lc) l.length (ints l))∧wo.heap.size≤wr.heap.size∧Below w.heap.size w wr) (fun _ _ _ i _=>l.length - (intOf i).toNat)
    case atStart=>exact ⟨0,Nat.zero_le _,rfl,uT,HOo,hid (World.ownsRow_nil _ _ _ _),Qi,Nat.le_refl _,hbl⟩
    case round =>
     obtain ⟨m,hm,rfl,HRm,HOm,EX,HLm,hwm,hbm⟩:=hrel
     obtain ⟨qa,qc,hvr,ao1,ao2⟩:=HRm.out.form
     subst hvr
     unfold maxLen at ao2
     by_cases hlt:m<2 ^ j
     ·have hml:2 * m+1<l.length:=by rw [HLL.out,Nat.pow_succ]; omega
      have c0:wr.cell? ⟨g,2 * m,none⟩=some (.int .i64 (l.getD (2 * m) 0)):=(HLm.out.cellAt (2 * m) (by omega)).trans (dI _ _ (by omega))
      have c1:wr.cell? ⟨g,2 * m+1,none⟩=some (.int .i64 (l.getD (2 * m+1) 0)):=(HLm.out.cellAt (2 * m+1) (by omega)).trans (dI _ _ (by omega))
      have HST:Hid (gZ round l ⟨out,[],rs⟩ (m+1)=Z9 round (l.getD (2 * m) 0) (l.getD (2 * m+1) 0) (gZ round l ⟨out,[],rs⟩ m)):=hid rfl
      generalize hs:gZ round l ⟨out,[],rs⟩ m=st at *
      clear hs
      obtain ⟨so,sn,sr⟩:=st
      simp only at *
      generalize l.getD (2 * m) 0=a at *
      generalize l.getD (2 * m+1) 0=b at *
      have aez:=hbm.size
      go_wp2_with fail
      go_quiet (fail)
      have HRq:=HRm
      have HOq:Hid ((wr.drewN nq).ownsRow w.heap.size 117 3 u8 (out.length+m) (flatK so)):=HOm
      have HNq:Hid ((wr.drewN nq).ownsRow wo.heap.size 3 1 u11 m (ints sn)):=EX
      have HLq:Hid ((wr.drewN nq).ownsRow w.heap.size 3 1 (.slice (some ⟨g,0,none⟩) l.length lc) l.length (ints l)):=HLm
      have hbq:=below_drewN hbm nq
      have hwq:wo.heap.size≤(wr.drewN nq).heap.size:=hwm
      clear c0 c1 HOm EX HLm hbm hwm aez
      generalize wr.drewN nq=W at *
      have hszW:=hbq.size
      have Ul:=hid (HOq.out.alloc (.cells #[.int .i64 (round:Int),.int .i64 a,.int .i64 b] 117))
      go_wp2_with (at_builtin; refine wpList_append_lies _ rfl _ _ 50 rfl w.heap.size 117 j0 (.agg #[.int .i64 0,.int .i64 0,.int .i64 0]) 3 24 Tryz.underlying50 ki kz0 kz1 kz2 rfl (by decide) _ (out.length+m) (flatK so) rfl Ul.out ⟨W.heap.size,0,none⟩ 1 1 [.int .i64 (round:Int),.int .i64 a,.int .i64 b] rfl rfl (EM _ _ _ _ _) ?c2 ?c2b ?c3 ?c4 ?c5 (W.heap.size+1) (by simp) ?_)
      case c2=>intro u hu; simp at hu; rcases hu with rfl | rfl | rfl <;> rfl
      case c2b=>omega
      case c3=>unfold maxLen; omega
      case c4=>omega
      case c5=>simp; omega
      intro g1 cap1 w2 hown2 hgrow2 ao5 hlt2
      have xH:=hid hown2
      have Lc:=hid ((HNq.out.alloc (.cells #[.int .i64 (round:Int),.int .i64 a,.int .i64 b] 117)).kept hgrow2 (own_ne (HNq.out.alloc _) Ul.out (by decide)))
      have HL2:=hid ((HLq.out.alloc (.cells #[.int .i64 (round:Int),.int .i64 a,.int .i64 b] 117)).kept hgrow2 (own_ne (HLq.out.alloc _) Ul.out (by decide)))
      have hb2:Below w.heap.size w w2:=Below.grown (hbq.alloc hszW _) hgrow2 (by simp; omega) (fun q hq=>(Ul.out.lt q hq).1)
      have hw2:wo.heap.size≤w2.heap.size:=by have:=hgrow2.size; simp at this; omega
      clear hown2 hgrow2 ao5 hlt2 Ul HOq HNq HLq hbq hwq hszW
      have hsz2:=hb2.size
      have hge:¬ (wo.heap.size≤g):=by omega
      by_cases hneg:a<0∨b<0
      ·obtain ⟨x,hx⟩:∃ x,(if a<b then b else a)=x:=⟨_,rfl⟩
       have hx2:max a b=x:=by rw [← hx]; split <;> omega
       have HV:Hid (pI a b sr=x):=hid (by unfold pI; rw [if_pos hneg]; exact hx)
       have V4:Hid (nextR a b sr=sr):=hid (by unfold nextR; rw [if_pos hneg])
       have zC:=hid (Lc.out.alloc (.cells #[.int .i64 x] 3))
       have hneg':a<0∨(0≤a∧b<0):=by omega
       clear hneg
       rcases hneg' with ha | ⟨ha,hb'⟩
       ·have tok:True:=trivial
        go_wp2_with (at_builtin; refine wpList_append_lies _ rfl _ _ 22 rfl wo.heap.size 3 i0 (.int .i64 0) 1 8 Tryz.underlying22 hi hz0 hz1 hz2 rfl (by decide) _ m (ints sn) rfl zC.out ⟨w2.heap.size,0,none⟩ 1 1 [.int .i64 x] rfl rfl (cell_one_new _ _ _) ?c2 ?c2b ?c3 ?c4 ?c5 (w2.heap.size+1) (by simp) ?_)
        case c2=>intro u hu; simp at hu; rw [hu]; rfl
        case c2b=>omega
        case c3=>unfold maxLen; omega
        case c4=>omega
        case c5=>simp; omega
        intro g3 cap3 w3 hown3 hgrow3 zS hlt3
        have oz:=hid ((xH.out.alloc (.cells #[.int .i64 x] 3)).kept hgrow3 (own_ne (xH.out.alloc (.cells #[.int .i64 x] 3)) zC.out (by decide)))
        have PW:=hid ((HL2.out.alloc (.cells #[.int .i64 x] 3)).kept hgrow3 (pW (HL2.out.alloc (.cells #[.int .i64 x] 3)) (fun q hq=>by simp [Value.ownBlock] at hq; omega) zC.out (Nat.le_refl wo.heap.size)))
        have hb3:Below w.heap.size w w3:=Below.grown (hb2.alloc hsz2 _) hgrow3 (by simp; omega) (fun q hq=>by have:=(zC.out.lt q hq).1; omega)
        have hw3:wo.heap.size≤w3.heap.size:=by have:=hgrow3.size; simp at this; omega
        have Zi:=hid hown3
        clear hown3 hgrow3 zS hlt3 zC xH HL2 Lc hb2 hw2 hsz2
        go_wp2_with fail
        go_roundw
        case rel=>exact ⟨m+1,by omega,by go_num,hid (by rw [HST.out]; show fQ w _ (nextR a b sr); rw [V4.out]; exact HRq.out),hid (by rw [HST.out]; show World.ownsRow _ _ _ _ _ _ (flatK (so++[((round:Int),a,b)])); rw [oM]; exact oz.out),hid (by rw [HST.out]; show World.ownsRow _ _ _ _ _ _ (ints (sn++[pI a b sr])); rw [HV.out]; simpa [ints] using Zi.out),PW,hw3,hb3⟩
        case measure=>simp [intOf]; omega
       ·have hxa:a=x:=by rw [← hx,if_neg (by omega)]
        subst hxa
        clear hx
        go_wp2_with (at_builtin; refine wpList_append_lies _ rfl _ _ 22 rfl wo.heap.size 3 i0 (.int .i64 0) 1 8 Tryz.underlying22 hi hz0 hz1 hz2 rfl (by decide) _ m (ints sn) rfl zC.out ⟨w2.heap.size,0,none⟩ 1 1 [.int .i64 a] rfl rfl (cell_one_new _ _ _) ?c2 ?c2b ?c3 ?c4 ?c5 (w2.heap.size+1) (by simp) ?_)
        case c2=>intro u hu; simp at hu; rw [hu]; rfl
        case c2b=>omega
        case c3=>unfold maxLen; omega
        case c4=>omega
        case c5=>simp; omega
        intro g3 cap3 w3 hown3 hgrow3 zS hlt3
        have oz:=hid ((xH.out.alloc (.cells #[.int .i64 a] 3)).kept hgrow3 (own_ne (xH.out.alloc (.cells #[.int .i64 a] 3)) zC.out (by decide)))
        have PW:=hid ((HL2.out.alloc (.cells #[.int .i64 a] 3)).kept hgrow3 (pW (HL2.out.alloc (.cells #[.int .i64 a] 3)) (fun q hq=>by simp [Value.ownBlock] at hq; omega) zC.out (Nat.le_refl wo.heap.size)))
        have hb3:Below w.heap.size w w3:=Below.grown (hb2.alloc hsz2 _) hgrow3 (by simp; omega) (fun q hq=>by have:=(zC.out.lt q hq).1; omega)
        have hw3:wo.heap.size≤w3.heap.size:=by have:=hgrow3.size; simp at this; omega
        have Zi:=hid hown3
        clear hown3 hgrow3 zS hlt3 zC xH HL2 Lc hb2 hw2 hsz2
        go_wp2_with fail
        go_roundw
        case rel=>exact ⟨m+1,by omega,by go_num,hid (by rw [HST.out]; show fQ w _ (nextR a b sr); rw [V4.out]; exact HRq.out),hid (by rw [HST.out]; show World.ownsRow _ _ _ _ _ _ (flatK (so++[((round:Int),a,b)])); rw [oM]; exact oz.out),hid (by rw [HST.out]; show World.ownsRow _ _ _ _ _ _ (ints (sn++[pI a b sr])); rw [HV.out]; simpa [ints] using Zi.out),PW,hw3,hb3⟩
        case measure=>simp [intOf]; omega
      ·have ha:0≤a:=by omega
       have hb':0≤b:=by omega
       cases sr with
       | nil =>
        have HV:Hid (pI a b [] = -2):=hid (by unfold pI; rw [if_neg hneg])
        have V4:Hid (nextR a b []=[]):=hid (by unfold nextR; rw [if_neg hneg]; rfl)
        have zC:=hid (Lc.out.alloc (.cells #[.int .i64 (-2)] 3))
        clear hneg
        go_wp2_with (at_builtin; refine wpList_append_lies _ rfl _ _ 22 rfl wo.heap.size 3 i0 (.int .i64 0) 1 8 Tryz.underlying22 hi hz0 hz1 hz2 rfl (by decide) _ m (ints sn) rfl zC.out ⟨w2.heap.size,0,none⟩ 1 1 [.int .i64 (-2)] rfl rfl (cell_one_new _ _ _) ?c2 ?c2b ?c3 ?c4 ?c5 (w2.heap.size+1) (by simp) ?_)
        case c2=>intro u hu; simp at hu; rw [hu]; rfl
        case c2b=>omega
        case c3=>unfold maxLen; omega
        case c4=>omega
        case c5=>simp; omega
        intro g3 cap3 w3 hown3 hgrow3 zS hlt3
        have oz:=hid ((xH.out.alloc (.cells #[.int .i64 (-2)] 3)).kept hgrow3 (own_ne (xH.out.alloc (.cells #[.int .i64 (-2)] 3)) zC.out (by decide)))
        have PW:=hid ((HL2.out.alloc (.cells #[.int .i64 (-2)] 3)).kept hgrow3 (pW (HL2.out.alloc (.cells #[.int .i64 (-2)] 3)) (fun q hq=>by simp [Value.ownBlock] at hq; omega) zC.out (Nat.le_refl wo.heap.size)))
        have hb3:Below w.heap.size w w3:=Below.grown (hb2.alloc hsz2 _) hgrow3 (by simp; omega) (fun q hq=>by have:=(zC.out.lt q hq).1; omega)
        have hw3:wo.heap.size≤w3.heap.size:=by have:=hgrow3.size; simp at this; omega
        have Zi:=hid hown3
        clear hown3 hgrow3 zS hlt3 zC xH HL2 Lc hb2 hw2 hsz2
        go_wp2_with fail
        go_roundw
        case rel=>exact ⟨m+1,by omega,by go_num,hid (by rw [HST.out]; show fQ w _ (nextR a b []); rw [V4.out]; exact HRq.out),hid (by rw [HST.out]; show World.ownsRow _ _ _ _ _ _ (flatK (so++[((round:Int),a,b)])); rw [oM]; exact oz.out),hid (by rw [HST.out]; show World.ownsRow _ _ _ _ _ _ (ints (sn++[pI a b []])); rw [HV.out]; simpa [ints] using Zi.out),PW,hw3,hb3⟩
        case measure=>simp [intOf]; omega
       | cons r0 t =>
        have V4:Hid (nextR a b (r0 :: t)=t):=hid (by unfold nextR; rw [if_neg hneg]; rfl)
        have HV:Hid (pI a b (r0 :: t)=if r0=0 then b else a):=hid (by unfold pI; rw [if_neg hneg])
        simp only [List.length_cons] at ao1 HRq HRm
        clear HRm
        have Vb:=hid (fQ.tail HRq.out)
        obtain ⟨rg,ro,rc',hrv,_,_,hrg,aac⟩:=HRq.out.some (by simp)
        simp only [Value.slice.injEq,List.length_cons] at hrv
        obtain ⟨rfl,_,rfl⟩:=hrv
        have cr0:=aac 0 (by simp)
        have cr:w2.cell? ⟨rg,ro,none⟩=some (.int .i64 r0):=(hb2.cell (p:=⟨rg,ro,none⟩) hrg).trans cr0
        have hds:∀ w:World,(Instr.sliceAt 22 (.slice (some ⟨rg,ro,none⟩) (t.length+1) qc) (some (.int .i64 1)) none none).run Tryz.prog w=.ok (.slice (iT (some ⟨rg,ro,none⟩) qc 1 1) t.length (qc - 1)) w:=fun w=>CP ajL ajM (some ⟨rg,ro,none⟩) (t.length+1) qc 1 (by omega) w
        clear aac cr0 hneg
        have hq0:(((t.length+1:Nat):Int) == 0)=false:=by simp; omega
        cases hr0:(r0 == 0)
        ·have zC:Hid ((w2.alloc (.cells #[.int .i64 a] 3)).drew.ownsRow wo.heap.size 3 1 u11 m (ints sn)):=hid (Lc.out.alloc (.cells #[.int .i64 a] 3))
         have Wh:Hid (pI a b (r0 :: t)=a):=hid (by rw [HV.out]; simp at hr0; simp [hr0])
         have s1:∀ u∈[Value.int .i64 a],u.oneCell'=true:=fun u hu=>by simp at hu; rw [hu]; rfl
         have s2:m+1≤maxLen:=by unfold maxLen; omega
         have s3:(m+1) * 8≤140737488355328:=by omega
         have s4:wo.heap.size≤(w2.alloc (.cells #[.int .i64 a] 3)).drew.heap.size:=by simp; omega
         have s5:(w2.alloc (.cells #[.int .i64 a] 3)).drew.heap.size=w2.heap.size+1:=by simp
         have S5:=hid s5
         have S1:=hid s1
         have S2:=hid s2
         have S4:=hid s4
         clear s5 s1 s2 s4 HV
         go_wp2_with fail
         go_region_law ((refine step_append_lies _ (by rfl) _ _ 22 (by rfl) wo.heap.size 3 i0 (.int .i64 0) 1 8 Tryz.underlying22 hi hz0 hz1 hz2 rfl (by decide) u11 m (ints sn) (by rfl) zC.out ⟨w2.heap.size,0,none⟩ 1 1 [.int .i64 a] (by rfl) rfl (cell_one_new _ _ _) S1.out (by omega) S2.out s3 S4.out (w2.heap.size+1) S5.out ?_; intro g3 cap3 w3 hown3 hgrow3 zS hlt3))
         have QL:(w2.alloc (.cells #[.int .i64 a] 3)).drew.ownsRow w.heap.size 117 3 (.slice (some ⟨g1,0,none⟩) (out.length+m+1) cap1) (out.length+m+1) (flatK so++[.int .i64 (round:Int),.int .i64 a,.int .i64 b]):=xH.out.alloc (.cells #[.int .i64 a] 3)
         have HLd:(w2.alloc (.cells #[.int .i64 a] 3)).drew.ownsRow w.heap.size 3 1 (.slice (some ⟨g,0,none⟩) l.length lc) l.length (ints l):=HL2.out.alloc (.cells #[.int .i64 a] 3)
         have oz:=hid (QL.kept hgrow3 (own_ne QL zC.out (by decide)))
         have PW:=hid (HLd.kept hgrow3 (pW HLd (fun q hq=>by simp [Value.ownBlock] at hq; omega) zC.out (Nat.le_refl wo.heap.size)))
         have hb3:Below w.heap.size w w3:=Below.grown (hb2.alloc hsz2 _).drew hgrow3 (by simp; omega) (fun q hq=>by have:=(zC.out.lt q hq).1; omega)
         have hw3:wo.heap.size≤w3.heap.size:=by have:=hgrow3.size; simp at this; omega
         have Zi:=hid hown3
         clear hown3 hgrow3 zS hlt3 zC xH HL2 Lc hb2 hw2 hsz2 hds QL HLd
         go_wp2_with fail
         go_roundw
         case rel=>exact ⟨m+1,by omega,by go_num,hid (by rw [HST.out]; show fQ w _ (nextR a b (r0 :: t)); rw [V4.out]; exact Vb.out),hid (by rw [HST.out]; show World.ownsRow _ _ _ _ _ _ (flatK (so++[((round:Int),a,b)])); rw [oM]; exact oz.out),hid (by rw [HST.out]; show World.ownsRow _ _ _ _ _ _ (ints (sn++[pI a b (r0 :: t)])); rw [Wh.out]; simpa [ints] using Zi.out),PW,hw3,hb3⟩
         case measure=>simp [intOf]; omega
        ·have zC:Hid ((w2.alloc (.cells #[.int .i64 b] 3)).drew.ownsRow wo.heap.size 3 1 u11 m (ints sn)):=hid (Lc.out.alloc (.cells #[.int .i64 b] 3))
         have Wh:Hid (pI a b (r0 :: t)=b):=hid (by rw [HV.out]; simp at hr0; simp [hr0])
         have s1:∀ u∈[Value.int .i64 b],u.oneCell'=true:=fun u hu=>by simp at hu; rw [hu]; rfl
         have s2:m+1≤maxLen:=by unfold maxLen; omega
         have s3:(m+1) * 8≤140737488355328:=by omega
         have s4:wo.heap.size≤(w2.alloc (.cells #[.int .i64 b] 3)).drew.heap.size:=by simp; omega
         have s5:(w2.alloc (.cells #[.int .i64 b] 3)).drew.heap.size=w2.heap.size+1:=by simp
         have S5:=hid s5
         have S1:=hid s1
         have S2:=hid s2
         have S4:=hid s4
         clear s5 s1 s2 s4 HV
         go_wp2_with fail
         go_region_law ((refine step_append_lies _ (by rfl) _ _ 22 (by rfl) wo.heap.size 3 i0 (.int .i64 0) 1 8 Tryz.underlying22 hi hz0 hz1 hz2 rfl (by decide) u11 m (ints sn) (by rfl) zC.out ⟨w2.heap.size,0,none⟩ 1 1 [.int .i64 b] (by rfl) rfl (cell_one_new _ _ _) S1.out (by omega) S2.out s3 S4.out (w2.heap.size+1) S5.out ?_; intro g3 cap3 w3 hown3 hgrow3 zS hlt3))
         have QL:(w2.alloc (.cells #[.int .i64 b] 3)).drew.ownsRow w.heap.size 117 3 (.slice (some ⟨g1,0,none⟩) (out.length+m+1) cap1) (out.length+m+1) (flatK so++[.int .i64 (round:Int),.int .i64 a,.int .i64 b]):=xH.out.alloc (.cells #[.int .i64 b] 3)
         have HLd:(w2.alloc (.cells #[.int .i64 b] 3)).drew.ownsRow w.heap.size 3 1 (.slice (some ⟨g,0,none⟩) l.length lc) l.length (ints l):=HL2.out.alloc (.cells #[.int .i64 b] 3)
         have oz:=hid (QL.kept hgrow3 (own_ne QL zC.out (by decide)))
         have PW:=hid (HLd.kept hgrow3 (pW HLd (fun q hq=>by simp [Value.ownBlock] at hq; omega) zC.out (Nat.le_refl wo.heap.size)))
         have hb3:Below w.heap.size w w3:=Below.grown (hb2.alloc hsz2 _).drew hgrow3 (by simp; omega) (fun q hq=>by have:=(zC.out.lt q hq).1; omega)
         have hw3:wo.heap.size≤w3.heap.size:=by have:=hgrow3.size; simp at this; omega
         have Zi:=hid hown3
         clear hown3 hgrow3 zS hlt3 zC xH HL2 Lc hb2 hw2 hsz2 hds QL HLd
         go_wp2_with fail
         go_roundw
         case rel=>exact ⟨m+1,by omega,by go_num,hid (by rw [HST.out]; show fQ w _ (nextR a b (r0 :: t)); rw [V4.out]; exact Vb.out),hid (by rw [HST.out]; show World.ownsRow _ _ _ _ _ _ (flatK (so++[((round:Int),a,b)])); rw [oM]; exact oz.out),hid (by rw [HST.out]; show World.ownsRow _ _ _ _ _ _ (ints (sn++[pI a b (r0 :: t)])); rw [Wh.out]; simpa [ints] using Zi.out),PW,hw3,hb3⟩
         case measure=>simp [intOf]; omega
     ·obtain rfl:m=2 ^ j:=by omega
      have hml:l.length=2 * 2 ^ j:=by rw [HLL.out,Nat.pow_succ]; omega
      have HLQ:Hid ((gZ round l ⟨out,[],rs⟩ (2 ^ j)).next.length=2 ^ j∧(gZ round l ⟨out,[],rs⟩ (2 ^ j)).out.length=out.length+2 ^ j):=hid (by have:=JH round l ⟨out,[],rs⟩ (2 ^ j); simp at this; omega)
      generalize gZ round l ⟨out,[],rs⟩ (2 ^ j)=st at *
      obtain ⟨so,sn,sr⟩:=st
      simp only at *
      obtain ⟨na,nc,hvn⟩:=aG EX.out
      subst hvn
      have avO:=HOL.out
      have hlo:l.length≤2 * 2 ^ j:=by omega
      have hlo2:2 * 2 ^ j≤l.length:=by omega
      have HQ1:Hid (sn.length=2 ^ j):=hid HLQ.out.1
      have HQ2:Hid (so.length=out.length+2 ^ j):=hid HLQ.out.2
      have hpj:0<2 ^ j:=Nat.pow_pos (by omega)
      clear hml HLL HLQ
      generalize hq:2 ^ j=q at *
      have HQ:=hid hq
      clear hq
      go_wp2_with fail
      go_roundw
      case rel=>exact ⟨j,round+1,sn,so,sr,by go_num,by omega,by omega,by rw [HQ.out]; rfl,hid (by rw [HQ.out]; exact HQ1.out),hid (by rw [HQ1.out,HQ2.out]; omega),HRm,hid (by rw [HQ2.out]; exact HOm.out),hid (by rw [HQ1.out]; exact own_base EX.out (by omega)),HP2,hbm⟩
      case measure=>simp [lenV]; omega
   ·have hop':(l.any fun z=>(-2:Int) == z)=true:=hop
    have hl1:¬ l.length=1:=by omega
    have HE:Hid (wI n NT=if rs≠[] then ([],0,2) else (out,-1,0)):=hid (by rw [HR.out,HP.out,wH,if_pos hop,Cm]; simp only; rw [if_neg hl1])
    rw [hop'] at HCt
    have avP:((l.length:Int) == 1)=false:=by simp; omega
    clear hop hop' HP hl1
    cases rs with
    | nil =>
     go_wp2_with fail
     refine HCt.out.mono ?_
     rintro e w' ⟨rfl,rfl⟩
     go_wp2_with fail
     go_ret3
     exact ⟨_,by rw [HE.out,if_neg (by simp)]; rfl,by rw [HE.out,if_neg (by simp)]; exact HOo.out,hbl⟩
    | cons r0 t =>
     have hlen:0<(r0 :: t).length:=by simp
     generalize (r0 :: t).length=q at *
     go_wp2_with fail
     refine HCt.out.mono ?_
     rintro e w' ⟨rfl,rfl⟩
     go_wp2_with fail
     go_ret3
     exact ⟨_,by rw [HE.out]; rfl,by rw [HE.out]; exact World.ownsRow_nil _ _ _ _,hbl⟩
def FQ (p:dH):Int:=if p.dX then p.score - 2 else p.score
def rX:dH:=⟨0,[],0,false⟩
structure JI (n r:Nat) (ps:List dH) (gs:List eX):Prop where
 len:ps.length=n
 ok:um ps
 sc:∀ i,i<n→0≤(aZ ps i).score∧(aZ ps i).score≤10 * r
 co:∀ i,i<n→-4 * (r:Int)≤(aZ ps i).colour∧(aZ ps i).colour≤4 * r
 op:∀ i,i<n→(aZ ps i).bZ.length≤r
 gok:∀ g∈gs,okG n g
 met:∀ g∈gs,∃ i j:Nat,i<n∧j<n∧g.fst=i∧g.snd=j∧ji ps i j≠0∧ji ps j i≠0
 sum:dh n (fun i=>FQ (aZ ps i))=2 * gs.length
 fst:r=0→ps=List.replicate n rX
theorem lS (n i:Nat):aZ (List.replicate n rX) i=rX:=by
 unfold aZ
 rw [List.getD_eq_getElem?_getD,List.getElem?_replicate]
 split <;> rfl
theorem xE:∀ (n:Nat) (f:Nat→Int),(∀ i,i<n→f i=0)→dh n f=0
 | 0,_,_=>rfl
 | n+1,f,h=>by rw [dh,xE n f (fun i hi=>h i (by omega)),h n (by omega)]; rfl
theorem QV (n:Nat) (h2:2≤n) (h8:n≤8):JI n 0 (List.replicate n rX) []:=by
 refine ⟨List.length_replicate,⟨by rw [List.length_replicate]; exact ⟨h2,h8⟩,fun i hi=>?_,fun i hi j hj=>?_⟩,fun i _=>?_,fun i _=>?_,fun i _=>?_,fun g hg=>(by cases hg),fun g hg=>(by cases hg),?_,fun _=>rfl⟩
 ·rw [lS]; exact ⟨by unfold Small rX; decide,by decide,rfl⟩
 ·unfold yZ ji
  rw [lS,lS]
  exact ⟨rfl,Nat.zero_le _⟩
 ·rw [lS]; exact ⟨Int.le_refl _,by decide⟩
 ·rw [lS]; exact ⟨by decide,by decide⟩
 ·rw [lS]; exact Nat.le_refl _
 ·rw [xE _ _ (fun i _=>by rw [lS]; rfl)]; rfl
def jR:List (Int×Int)→List Int→List eX
 | p :: ps,x :: xs=>⟨p.1,p.2,x⟩ :: jR ps xs
 | _,_=>[]
theorem pJ (p:Int×Int) (x:Int):∀ (l:List (Int×Int)) (xs:List Int),l.length=xs.length→jR (l++[p]) (xs++[x])=jR l xs++[⟨p.1,p.2,x⟩]
 | [],[],_=>rfl
 | [],_ :: _,h=>by cases h
 | _ :: _,[],h=>by cases h
 | q :: l,y :: xs,h=>by
  rw [List.cons_append,List.cons_append,jR,pJ p x l xs (by simpa using h),jR,List.cons_append]
theorem rM:∀ (l:List (Int×Int)) (xs:List Int),l.length=xs.length→(jR l xs).length=l.length
 | [],[],_=>rfl
 | [],_ :: _,h=>by cases h
 | _ :: _,[],h=>by cases h
 | q :: l,y :: xs,h=>by rw [jR,List.length_cons,rM l xs (by simpa using h),List.length_cons]
theorem rO:∀ (l:List (Int×Int)) (xs:List Int) (g:eX),g∈jR l xs→(g.fst,g.snd)∈l∧g.pts∈xs
 | [],_,g,h=>by cases h
 | _ :: _,[],g,h=>by cases h
 | q :: l,y :: xs,g,h=>by
  rw [jR] at h
  rcases List.mem_cons.1 h with rfl | h
  ·exact ⟨List.mem_cons_self ..,List.mem_cons_self ..⟩
  ·obtain ⟨a,b⟩:=rO l xs g h
   exact ⟨List.mem_cons_of_mem _ a,List.mem_cons_of_mem _ b⟩
theorem EN (z:Int):∀ (l:List (Int×Int)) (p:Int×Int),p∈l→(p.1=z∨p.2=z)→1≤nI l z
 | [],p,h,_=>by cases h
 | q :: l,p,h,e=>by
  have e1:nI (q :: l) z=nI [q] z+nI l z:=oL [q] l z
  rcases List.mem_cons.1 h with rfl | h
  ·rw [e1]
   have:1≤nI [p] z:=by
    unfold nI
    rcases e with e | e <;> rw [if_pos e] <;> omega
   omega
  ·have:=EN z l p h e
   omega
theorem QW {n r:Nat} {ps:List dH} {gs:List eX} (H:JI n r ps gs) {W:List Int} (hW:Whole ps W) (k:Nat) (hk:k<(dW ps W ps.length).length) (xs:List Int) (y:eX) (hy:y∈gs++jR ((dW ps W ps.length).take k) xs) :
  ¬ ((y.fst=(dW ps W ps.length)[k].1∧y.snd=(dW ps W ps.length)[k].2)∨(y.fst=(dW ps W ps.length)[k].2∧y.snd=(dW ps W ps.length)[k].1)):=by
 obtain ⟨i,j,hp,hi,hj,hij,-,-,m1,m2⟩:=jd hW _ (Nat.le_refl _) _ (List.getElem_mem hk)
 rcases List.mem_append.1 hy with hy | hy
 ·obtain ⟨a,b,ha,hb,ea,eb,q1,q2⟩:=H.met y hy
  rw [hp,ea,eb]
  rintro (⟨h1,h2⟩ | ⟨h1,h2⟩)
  ·obtain rfl:a=i:=by simp only at h1; omega
   obtain rfl:b=j:=by simp only at h2; omega
   exact q1 m1
  ·obtain rfl:a=j:=by simp only at h1; omega
   obtain rfl:b=i:=by simp only at h2; omega
   exact q1 m2
 ·obtain ⟨hm,-⟩:=rO _ _ _ hy
  have ho:=uP hW i hi
  have hs:dW ps W ps.length=(dW ps W ps.length).take k++([(dW ps W ps.length)[k]]++(dW ps W ps.length).drop (k+1)):=by
   rw [List.singleton_append,List.getElem_cons_drop,List.take_append_drop]
  have h2:nI [(dW ps W ps.length)[k]] (i:Int)≥1:=EN _ _ _ (List.mem_singleton.2 rfl) (.inl (by rw [hp]))
  have h3:nI (dW ps W ps.length) (i:Int)=nI ((dW ps W ps.length).take k) (i:Int)+(nI [(dW ps W ps.length)[k]] (i:Int)+nI ((dW ps W ps.length).drop (k+1)) (i:Int)):=by
   rw [← oL,← oL,← hs]
  have h4:nI ((dW ps W ps.length).take k) (i:Int)=0:=by
   have:(if W.getD i 0=(ps.length:Int) then 0 else 1)≤1:=by split <;> omega
   omega
  have hno:∀ p∈(dW ps W ps.length).take k,¬ (p.1=(i:Int)∨p.2=(i:Int)):=fun p hp' he=>by
   have:=EN _ _ _ hp' he
   omega
  have hn:=hno _ hm
  rw [hp]
  rintro (⟨h1,-⟩ | ⟨-,h1⟩)
  ·exact hn (.inl h1)
  ·exact hn (.inr h1)
theorem ac5 {n r:Nat} {ps:List dH} {gs:List eX} (H:JI n r ps gs) {W:List Int} (hW:Whole ps W) (k:Nat) (hk:k<(dW ps W ps.length).length):0≤(dW ps W ps.length)[k].1∧(dW ps W ps.length)[k].1<n∧0≤(dW ps W ps.length)[k].2∧(dW ps W ps.length)[k].2<n∧(dW ps W ps.length)[k].1≠(dW ps W ps.length)[k].2:=by
 obtain ⟨i,j,hp,hi,hj,hij,-⟩:=jd hW _ (Nat.le_refl _) _ (List.getElem_mem hk)
 rw [hp]
 have:=H.len
 simp only
 omega
theorem aad {n r:Nat} {ps:List dH} {gs:List eX} (H:JI n r ps gs) (hr:r<3) {W:List Int} (hW:Whole ps W) {off:Int} {f:Nat→dH} (hf:Fin1 ps W off f) {c:Int} (hc:gW (newL ps.length f) c):c=0:=by
 have h0:=Zx H.ok hW hf hc
 rcases h0 with h0 | h0 | h0
 ·exact h0
 ·exfalso
  subst h0
  unfold gW at hc
  rcases hc with ⟨h,-⟩ | ⟨-,h⟩ | ⟨h,-⟩ | ⟨h,-⟩ | ⟨h,-⟩
  ·cases h
  ·rw [zh] at h
   rcases h with h | ⟨i,hi,h⟩
   ·exact h H.ok.1
   ·rw [pG _ _ _ hi,hf.bZ i hi,List.length_append] at h
    have:=H.op i (by have:=H.len; omega)
    have h1:(if W.getD i 0=(ps.length:Int) then ([]:List Int) else [W.getD i 0]).length≤1:=by split <;> simp
    omega
  ·cases h
  ·cases h
  ·cases h
 ·exfalso
  subst h0
  unfold gW at hc
  rcases hc with ⟨h,-⟩ | ⟨h,-⟩ | ⟨-,h⟩ | ⟨h,-⟩ | ⟨h,-⟩
  ·cases h
  ·cases h
  ·rw [zh] at h
   obtain ⟨i,hi,h⟩:=h
   rw [pG _ _ _ hi] at h
   apply h
   have hl:=H.len
   have a1:=H.sc i (by omega)
   have a2:=H.co i (by omega)
   have a3:=hf.sc i hi
   have a4:=hf.sr i hi
   have a5:=hf.co i hi
   unfold Small
   omega
  ·cases h
  ·cases h
theorem afX {n r:Nat} {ps:List dH} {gs:List eX} (H:JI n r ps gs) {W:List Int} (hW:Whole ps W) {f:Nat→dH} (hf:Fin1 ps W (lH ps.length W ps.length) f) :
  dh n (fun i=>FQ (f i))=dh n (fun i=>FQ (aZ ps i))+2 * (dW ps W ps.length).length:=by
 have hl:=H.len
 subst hl
 have hg:=pF hW
 have hs:=hf.sum
 have key:∀ (g h:Nat→dH) (m:Nat),dh m (fun i=>FQ (g i)) - dh m (fun i=>FQ (h i))=(dh m (fun i=>(g i).score) - dh m (fun i=>(h i).score)) - 2 * dh m (fun i=>(if (g i).dX then 1 else 0) - (if (h i).dX then 1 else 0)):=by
  intro g h m
  induction m with
  | zero=>rfl
  | succ m ih =>
   simp only [dh]
   have e1:FQ (g m)=(g m).score - 2 * (if (g m).dX then 1 else 0):=by unfold FQ; cases (g m).dX <;> simp
   have e2:FQ (h m)=(h m).score - 2 * (if (h m).dX then 1 else 0):=by unfold FQ; cases (h m).dX <;> simp
   rw [e1,e2]
   generalize (if (g m).dX=true then (1:Int) else 0)=x at *
   generalize (if (h m).dX=true then (1:Int) else 0)=y at *
   omega
 have k:=key f (aZ ps) ps.length
 rcases Ew hW with ⟨h1,h2,-⟩ | ⟨i,h1,h2,h3,h4,-,-⟩
 ·have hz:dh ps.length (fun i=>(if (f i).dX then (1:Int) else 0) - (if (aZ ps i).dX then 1 else 0))=0:=xE _ _ (fun i hi=>by
   rw [hf.dX i hi,h1,decide_eq_false (by omega),Bool.or_false]
   omega)
  rw [hz] at k
  rw [h1,if_neg (by omega)] at hg
  omega
 ·have hz:dh ps.length (fun i=>(if (f i).dX then (1:Int) else 0) - (if (aZ ps i).dX then 1 else 0))=1:=by
   refine (sumTo_congr (fun z=>if (i:Int)=(z:Int) then 1 else 0) _ _ fun z hz=>?_).trans (Am ps.length i h1)
   rw [hf.dX z hz,h2]
   by_cases e:z=i
   ·rw [e,h4,decide_eq_true rfl,if_pos rfl]; rfl
   ·rw [decide_eq_false (by omega),Bool.or_false,if_neg (show ¬ ((i:Int)=(z:Int)) by omega)]
    omega
  rw [hz] at k
  rw [h2,if_pos (by omega)] at hg
  omega
theorem Tf {ps:List dH} {W:List Int} (h:Whole ps W) {off:Int} {f:Nat→dH} (hf:Fin1 ps W off f) (i j:Nat) (hi:i<ps.length) (hj:j<ps.length) (hm:ji ps i j≠0):ji (newL ps.length f) i j≠0:=by
 rw [uS h hf i j hi hj]; omega
theorem VA {n r:Nat} {ps:List dH} {gs:List eX} (H:JI n r ps gs) (hr:r<3) {W:List Int} (hW:Whole ps W) {f:Nat→dH} (hf:Fin1 ps W (lH ps.length W ps.length) f) (hc:gW (newL ps.length f) 0)
  (xs:List Int) (hx:(dW ps W ps.length).length=xs.length) (hx2:∀ x∈xs,0≤x∧x≤2):JI n (r+1) (newL ps.length f) (gs++jR (dW ps W ps.length) xs):=by
 have hl:=H.len
 have hok:um (newL ps.length f):=by
  rcases hc with ⟨-,h⟩ | ⟨h,-⟩ | ⟨h,-⟩ | ⟨h,-⟩ | ⟨h,-⟩
  ·exact h
  all_goals cases h
 refine ⟨by rw [zh,hl],hok,fun i hi=>?_,fun i hi=>?_,fun i hi=>?_,fun g hg=>?_,fun g hg=>?_,?_,fun h=>by omega⟩
 ·rw [pG _ _ _ (by omega)]
  have a1:=H.sc i hi
  have a3:=hf.sc i (by omega)
  have a4:=hf.sr i (by omega)
  omega
 ·rw [pG _ _ _ (by omega)]
  have a1:=H.co i hi
  have a4:=hf.co i (by omega)
  omega
 ·rw [pG _ _ _ (by omega),hf.bZ i (by omega),List.length_append]
  have:=H.op i hi
  have h1:(if W.getD i 0=(ps.length:Int) then ([]:List Int) else [W.getD i 0]).length≤1:=by split <;> simp
  omega
 ·rcases List.mem_append.1 hg with hg | hg
  ·exact H.gok g hg
  ·obtain ⟨hm,hp⟩:=rO _ _ _ hg
   obtain ⟨i,j,e,hi,hj,hij,-⟩:=jd hW _ (Nat.le_refl _) _ hm
   simp only [Prod.mk.injEq] at e
   have:=hx2 _ hp
   unfold okG
   rw [e.1,e.2]
   omega
 ·rcases List.mem_append.1 hg with hg | hg
  ·obtain ⟨i,j,hi,hj,e1,e2,m1,m2⟩:=H.met g hg
   exact ⟨i,j,hi,hj,e1,e2,Tf hW hf i j (by omega) (by omega) m1,Tf hW hf j i (by omega) (by omega) m2⟩
  ·obtain ⟨hm,hp⟩:=rO _ _ _ hg
   obtain ⟨i,j,e,hi,hj,hij,w1,w2,-⟩:=jd hW _ (Nat.le_refl _) _ hm
   simp only [Prod.mk.injEq] at e
   refine ⟨i,j,by omega,by omega,e.1,e.2,?_,?_⟩
   ·rw [uS hW hf i j hi hj,if_pos w1]; omega
   ·rw [uS hW hf j i hj hi,if_pos w2]; omega
 ·rw [sumTo_congr (fun i=>FQ (f i)) _ n (fun i hi=>by rw [pG _ _ _ (by omega)]),afX H hW hf,H.sum,List.length_append,rM _ _ hx]
  omega
theorem QX (n:Nat) (h4:4≤n) (h7:n≤7):(Bf (List.replicate n rX)).1≠none:=by
 have h:n=4∨n=5∨n=6∨n=7:=by omega
 rcases h with rfl | rfl | rfl | rfl <;> decide +kernel
def aae (n:Nat):Bool:=decide (tZ n false (kY n false)=0) && decide ((kY n false).length≤100) && ((kY n false).all fun r=>decide (r.length≤100)) && decide (((kY n false).length:Int)=iy n false) && decide ((wI n []).2.1 = -1∧(wI n []).2.2=0∧0<(wI n []).1.length)
theorem ac6 (n:Nat) (h4:4≤n) (h7:n≤7):aae n=true:=by
 have h:n=4∨n=5∨n=6∨n=7:=by omega
 rcases h with rfl | rfl | rfl | rfl <;> decide +kernel
theorem Bj (f:Nat→Int) (b:Int):∀ (n:Nat),(∀ i,i<n→-b≤f i∧f i≤b)→-(b * n)≤dh n f∧dh n f≤b * n
 | 0,_=>by simp [dh]
 | n+1,h=>by
  have ih:=Bj f b n (fun i hi=>h i (by omega))
  have:=h n (by omega)
  have e:b * ((n+1:Nat):Int)=b * n+b:=by rw [Int.natCast_add,Int.mul_add]; simp
  rw [dh,e]
  omega
theorem VB {n r:Nat} {ps:List dH} {gs:List eX} (H:JI n r ps gs) (hr:r≤3) (k:Nat) (hk:k≤n) : -(32 * (k:Int))≤dh k (fun i=>FQ (aZ ps i))∧dh k (fun i=>FQ (aZ ps i))≤32 * k:=
 Bj _ 32 k fun i hi=>by
  have:=H.sc i (by omega)
  unfold FQ
  split <;> omega
end Go.Proofs.YteablcielclaeaaGreatDoor
namespace Go.Proofs.YteablcielclaeaaGreatDoor.rz
open Go.ChangeShapes Go.WideShapes Go.ChangeAt Go.RowKit
set_option linter.unusedVariables false
open Go.Proofs.YteablcielclaeaaGreatDoor
open Go.Lib (hid)
theorem FT (s:ByteArray) (w:World):Calls Tryz.prog 144 #[.string ByteArray.empty,.string s] w fun e w'=>e=.returned (.bool true)∧w=w':=by
 have hz:ByteArray.empty.size=0:=rfl
 go_enter Tryz.func144,Tryz.ntmps144
 go_wp2_with fail
 go_loopw [8,5] (fun v8 v5 wr=>∃ o5:Value,o5=v5∧v8=.int .i64 0∧w=wr) (fun _ _ _=>0)
 case atStart=>exact ⟨_,rfl,rfl,rfl⟩
 case round =>
  obtain ⟨o5,rfl,rfl,rfl⟩:=hrel
  go_wp2_with fail
  go_ret
  exact ⟨rfl,rfl⟩
theorem Bl (w:World):Calls Tryz.prog 100 #[.string ByteArray.empty] w fun e w'=>e=.returned (.int .i64 0)∧w=w':=by
 have hz:ByteArray.empty.size=0:=rfl
 go_enter Tryz.func100,Tryz.ntmps100
 go_wp2_with fail
 refine (FT _ w).mono ?_
 rintro e w' ⟨rfl,rfl⟩
 go_wp2_with fail
 go_ret
 exact ⟨rfl,rfl⟩
variable {m:aB} {nb:Nat}
theorem aaf (w:World):Calls Tryz.prog 99 #[.agg #[.slice none 0 0,.string ByteArray.empty,.slice (some ⟨nb,0,none⟩) 1 1,.int .i64 0]] w fun e w'=>e=.returned (.int .i64 0)∧Below w.heap.size w w':=by
 go_enter Tryz.func99,Tryz.ntmps99
 go_upto_region 1 with (fail)
 refine lX ?_
 intro w0 xb hb hs
 obtain ⟨b,hbe⟩:∃ b,b=w.heap.size:=⟨_,rfl⟩
 rw [← hbe] at xb ⊢
 have HX:=hid xb
 have HB:=hid hb
 have hbl:b<w0.heap.size:=by omega
 clear xb hb hs hbe
 have x0:=HX.out.cell 0 rfl
 have x1:=HX.out.cell 1 rfl
 have x2:=HX.out.cell 2 rfl
 have x3:=HX.out.cell 3 rfl
 go_wp2_with fail
 go_loopw [8,3,4,13,18,23,28] (fun v8 v3 v4 v13 v18 v23 v28 wr=>∃ o3 o4 ZH VD o23 o28:Value,o3=v3∧o4=v4∧ZH=v13∧VD=v18∧o23=v23∧o28=v28∧v8=.int .i64 0∧w0=wr) (fun _ _ _ _ _ _ _ _=>0)
 case atStart=>exact ⟨_,_,_,_,_,_,rfl,rfl,rfl,rfl,rfl,rfl,rfl,rfl⟩
 case round =>
  obtain ⟨o3,o4,ZH,VD,o23,o28,rfl,rfl,rfl,rfl,rfl,rfl,rfl,rfl⟩:=hrel
  go_wp2_with fail
  go_ret
  exact ⟨rfl,HB.out⟩
theorem ac7 (w:World):Calls Tryz.prog 147 #[.agg #[.slice none 0 0,.string ByteArray.empty,.slice (some ⟨nb,0,none⟩) 1 1,.int .i64 0],.int .i64 (-1),.int .i64 (-1)] w fun e w'=>e=.returned (.bool true)∧Below w.heap.size w w':=by
 go_enter Tryz.func147,Tryz.ntmps147
 go_upto_region 1 with (fail)
 refine lX ?_
 intro w0 xb hb hs
 obtain ⟨b,hbe⟩:∃ b,b=w.heap.size:=⟨_,rfl⟩
 rw [← hbe] at xb ⊢
 have HX:=hid xb
 have HB:=hid hb
 have hbl:b<w0.heap.size:=by omega
 clear xb hb hs hbe
 have x0:=HX.out.cell 0 rfl
 have x1:=HX.out.cell 1 rfl
 have x2:=HX.out.cell 2 rfl
 have x3:=HX.out.cell 3 rfl
 go_wp2_with fail
 go_loopw [7] (fun v7 wr=>v7=.int .i64 (-1)∧w0=wr) (fun _ _=>0)
 case atStart=>exact ⟨rfl,rfl⟩
 case round =>
  obtain ⟨rfl,rfl⟩:=hrel
  go_wp2_with fail
  go_ret
  exact ⟨rfl,HB.out⟩
theorem VE (w:World) (hn:Box w nb [.int .i64 (-1),.int .i64 m.src,.int .i64 m.dst,.int .i64 m.piece,.string ByteArray.empty] 75):Calls Tryz.prog 103 #[.agg #[.slice none 0 0,.string ByteArray.empty,.slice (some ⟨nb,0,none⟩) 1 1,.int .i64 0],.int .i64 0] w fun e w'=>e=.returned (.slice none 0 0)∧Below w.heap.size w w':=by
 have HN:=hid hn
 clear hn
 go_enter Tryz.func103,Tryz.ntmps103
 go_upto_region 1 with (fail)
 refine lX ?_
 intro w0 xb hb hs
 obtain ⟨b,hbe⟩:∃ b,b=w.heap.size:=⟨_,rfl⟩
 rw [← hbe] at xb ⊢
 have HX:=hid xb
 have HB:=hid hb
 have hbl:b<w0.heap.size:=by omega
 clear xb hb hs hbe
 have x0:=HX.out.cell 0 rfl
 have x1:=HX.out.cell 1 rfl
 have x2:=HX.out.cell 2 rfl
 have x3:=HX.out.cell 3 rfl
 have HNw:=hid (HN.out.stays HB.out)
 go_wp2_with fail
 go_loopw [11,5,6,7] (fun v11 v5 v6 v7 wr=>∃ (k:Nat) (o6 o7:Value),o6=v6∧o7=v7∧k≤1∧v11=.int .i64 k∧v5=.slice none 0 0∧Hid (Below w0.heap.size w0 wr)) (fun v11 _ _ _ _=>1 - (intOf v11).toNat)
 case atStart=>exact ⟨0,_,_,rfl,rfl,Nat.zero_le _,rfl,rfl,hid (Below.refl _ _)⟩
 case round =>
  obtain ⟨k,o6,o7,rfl,rfl,hk,rfl,rfl,bn⟩:=hrel
  have hk2:k=0∨k=1:=by omega
  rcases hk2 with rfl | rfl
  ·have Fb:=(HNw.out).below bn.out HNw.out.lt
   have n0:=Fb.cell 0 rfl
   have n1:=Fb.cell 1 rfl
   have n2:=Fb.cell 2 rfl
   have n3:=Fb.cell 3 rfl
   have n4:=Fb.cell 4 rfl
   have hnl:=Fb.lt
   have hNew:=Box.new wr [.int .i64 (-1),.int .i64 m.src,.int .i64 m.dst,.int .i64 m.piece,.string ByteArray.empty] 75
   have fM:=hid (bn.out.alloc bn.out.size (.cells #[.int .i64 (-1),.int .i64 m.src,.int .i64 m.dst,.int .i64 m.piece,.string ByteArray.empty] 75))
   clear Fb
   go_upto_region 5 with (fail)
   generalize (wr.alloc (.cells #[.int .i64 (-1),.int .i64 m.src,.int .i64 m.dst,.int .i64 m.piece,.string ByteArray.empty] 75))=wA at *
   have q0:=hNew.cell 0 rfl
   clear hNew n0 n1 n2 n3 n4 hnl
   go_wp2_with fail
   go_roundw
   case rel=>exact ⟨1,_,_,rfl,rfl,Nat.le_refl _,rfl,rfl,fM⟩
   case measure=>simp [intOf]
  ·have HF:=hid (HB.out.trans (bn.out.mono HB.out.size))
   go_wp2_with fail
   go_ret
   exact ⟨rfl,HF.out⟩
end Go.Proofs.YteablcielclaeaaGreatDoor.rz

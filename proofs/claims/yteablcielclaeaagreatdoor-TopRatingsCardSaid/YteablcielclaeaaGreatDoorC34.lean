/- RwD, PmN. -/
import Derived.Test.YteablcielclaeaaGreatDoorC33
import Derived.Lib.Builder
import Derived.Lib.UnsafeStr
namespace Go.Proofs.YteablcielclaeaaGreatDoor
open Go.ChangeShapes Go.WideShapes Go.ChangeAt Go.RowKit
set_option linter.unusedVariables false
open Go.Lib (hid)
def VD (B b:Nat) (l:kC) (w:World):Prop:=Lib.IsBuilder 148 5 B b (Lib.byteCells l) w
theorem VD.below {B b:Nat} {l:kC} {w w':World} (h:VD B b l w) (hb:Below w.heap.size w w'):VD B b l w':=by
 rcases h with ⟨h1,v,h2,h3,h4⟩ | ⟨h1,v,h2,h3,h4⟩
 ·exact .inl ⟨h1,v,(hb.block b (by
   rcases Nat.lt_or_ge b w.heap.size with q | q
   ·exact q
   ·rw [Array.getElem?_eq_none q] at h2; cases h2)).trans h2,aU h3 hb,h4⟩
 ·exact .inr ⟨h1,v,(hb.block b (by
   rcases Nat.lt_or_ge b w.heap.size with q | q
   ·exact q
   ·rw [Array.getElem?_eq_none q] at h2; cases h2)).trans h2,aU h3 hb,h4⟩
def WriteSaid:Prop:=∀ (B b:Nat) (l:kC) (s:ByteArray) (w:World),VD B b l w→l.length+s.size≤100000000→B≤w.heap.size →
 Calls Tryz.prog 52 #[.pointer (some ⟨b,0,none⟩),.string s] w fun e w'=>e=.returned (.tuple #[.int .i64 s.size,.nilIface])∧VD B b (l++bt s) w'∧Below B w w'
def LenSaid:Prop:=∀ (B b:Nat) (l:kC) (w:World),VD B b l w→Calls Tryz.prog 57 #[.pointer (some ⟨b,0,none⟩)] w fun e w'=>e=.returned (.int .i64 l.length)∧w'=w
def StringSaid:Prop:=∀ (B b:Nat) (l:kC) (w:World),VD B b l w→B≤w.heap.size→Calls Tryz.prog 58 #[.pointer (some ⟨b,0,none⟩)] w fun e w'=>e=.returned (.string (bs l))∧Below B w w'
def mG (R:au) (X:iM):Int:=if dI R X≠0 then dI R X else if 8192<(wH R X).length then 2 else 0
def Et (R:au) (X:iM):ByteArray:=if mG R X=0 then bs (wH R X) else ⟨#[]⟩
theorem RP {l:List sO} (h:iO l=0):∀ i,i<l.length→(l.getD i default).key.size≤8∧(l.getD i default).value.size≤40:=fun i hi=>by
 have h1:D9 l i=0:=by
  unfold iO at h
  rw [nT] at h
  exact h i (Nat.zero_le _) (by omega)
 unfold D9 at h1
 by_cases hk:kM (l.getD i default).key=false
 ·rw [if_pos hk] at h1; cases h1
 rw [if_neg hk] at h1
 by_cases hv:40<(l.getD i default).value.size
 ·rw [if_pos hv] at h1; cases h1
 refine ⟨?_,by omega⟩
 have hk':kM (l.getD i default).key=true:=by simpa using hk
 unfold kM at hk'
 simp only [Bool.and_eq_true,decide_eq_true_eq] at hk'
 exact hk'.2
theorem Eu (l:List sO):∀ i,i<l.length→pK (l.take (i+1))=pK (l.take i)++UD (l.getD i default):=fun i hi=>by
 have e:l.take (i+1)=l.take i++[l.getD i default]:=by
  rw [List.take_add_one,List.getD_eq_getElem?_getD,List.getElem?_eq_getElem hi]; rfl
 unfold pK
 rw [e,List.flatMap_append]; simp
theorem zZ {l:List sO} (h:iO l=0):∀ i,i≤l.length→(pK (l.take i)).length≤54 * i
 | 0,_=>by rw [List.take_zero]; exact Nat.le_refl _
 | i+1,hi=>by
  have ih:=zZ h i (by omega)
  obtain ⟨h1,h2⟩:=RP h i (by omega)
  rw [Eu l i (by omega),List.length_append,YX]; omega
theorem RQ {N:Nat} {ns:List aX} (h:∀ i,i<ns.length→(aG ns i).comment.size≤N):∀ (f:Nat) (p:Int),JV N (eU ns f p)
 | 0,p=>by rw [eU,JV]; trivial
 | f+1,p=>by
  rw [rV]
  have hall:∀ k∈lF ns p,szB N (wI ns f k):=fun k hk=>by
   unfold wI
   rw [szB]
   exact ⟨h k (yT hk).1,RQ h f k⟩
  generalize lF ns p=l at hall
  induction l with
  | nil=>rw [List.map_nil,JV]; trivial
  | cons k l ih =>
   rw [List.map_cons,JV]
   exact ⟨hall k (List.mem_cons_self ..),ih fun j hj=>hall j (List.mem_cons_of_mem _ hj)⟩
theorem YZ {c:ByteArray} (h:dQ c=0):c.size≤60:=by
 unfold dQ at h
 split at h
 ·cases h
 ·omega
structure Y1 (R:au) (X:iM):Prop where
 r:aF R=0
 back:Back X.nodes X.nodes.length
 nl:X.nodes.length≤200
 leg:oM R (aC R) (trees X)
 sz:JV 1000 (trees X)
 cn:cnt (trees X)≤200
 tl:X.tags.length≤10
 te:iO X.tags=0
 rs:0≤X.result∧X.result≤3
 cs:X.comment.size≤60
 tot:(kU R (aC R) (trees X)).length≤400∧tot (kU R (aC R) (trees X))≤208000
theorem abR {R:au} {X:iM} (h:dI R X=0):Y1 R X:=by
 obtain ⟨h1,h2,h3⟩:=lQ h
 obtain ⟨c1,c2,c3,c4,c5⟩:=Ro h
 have hs:JV 1000 (trees X):=RQ (fun i hi=>by have:=YZ (c1 i hi); omega) _ _
 have hl:=UC h
 have hc:cnt (trees X)≤200:=by have:=Uy h; unfold cnt; omega
 have ht:=(Js R (trees X) hs).1 _ hl
 exact ⟨h1,h2.back,h3,hl,hs,hc,c5,c2,c3,YZ c4,by omega,by omega⟩
def Ew (X:iM):List kC:=if X.comment.size=0 then [] else [123 :: (bt X.comment++[125])]
theorem xG (w:World) (o:Obj):Below w.heap.size w (w.alloc o):=(Below.refl _ _).alloc (Nat.le_refl _) _
set_option maxRecDepth 100000
set_option maxHeartbeats 8000000
theorem GX (HS:SortMvSaid) (HJ:qV) (HWr:WriteSaid) (HLn:LenSaid) (sJ:StringSaid) (R:au) (vp vs ve:Value) (X:iM) (ta na:Option Addr) (tc nc:Nat) (w:World) (hr:qo w R vp vs ve) (hnm:R.name.size≤maxLen) (hx:Vx w X (.slice ta X.tags.length tc) (.slice na X.nodes.length nc)) :
  Calls Tryz.prog 17 #[(.agg #[.string R.name,.int .i64 R.width,.int .i64 R.height,vp,vs,.bool R.falls,.bool R.keeps,ve,.int .i64 R.blocked,.int .i64 R.quiet,.int .i64 R.aZ]),.agg #[.slice ta X.tags.length tc,.string X.comment,.slice na X.nodes.length nc,.int .i64 X.result]] w fun e w'=>e=.returned (.tuple #[.string (Et R X),.int .i64 (mG R X)])∧Below w.heap.size w w':=by
 have pq:=hid HS
 have ZN:=hid HJ
 have HWh:=hid HWr
 have HLh:=hid HLn
 have HTh:=hid sJ
 have HX:=hid hx
 have HR:=hid hr
 have JZ:=hid hnm
 have HTE:Hid (mG R X=if dI R X≠0 then dI R X else if 8192<(wH R X).length then 2 else 0):=hid rfl
 have lY:Hid (Et R X=if mG R X=0 then bs (wH R X) else ⟨#[]⟩):=hid rfl
 have QB:Hid (dI R X=0→Y1 R X):=hid abR
 have HTB:Hid (wH R X=pK X.tags++(ny (Em R X)++[10])):=hid rfl
 obtain ⟨E,hE⟩:∃ E,E=dI R X:=⟨_,rfl⟩
 have hck:=fun w' h1 h2=>Jr HS R vp vs ve X (.slice ta X.tags.length tc) (.slice na X.nodes.length nc) w' h1 hnm h2
 unfold vP at hck
 rw [← hE] at HTE QB hck
 have FD:=hid hck
 generalize mG R X=TE at HTE lY ⊢
 generalize Et R X=TZ at lY ⊢
 clear HS HJ HWr HLn sJ hx hr hnm hck hE
 go_enter Tryz.func17,Tryz.ntmps17
 go_upto_region 1 with (fail)
 refine vJ ?_
 intro w0 xb2 xb3 hB0 hS0
 have HB:=hid hB0
 obtain ⟨b3,hb3⟩:∃ b3,b3=w.heap.size+1:=⟨_,rfl⟩
 rw [← hb3] at xb3 ⊢
 obtain ⟨b2,hb2⟩:∃ b2,b2=w.heap.size:=⟨_,rfl⟩
 rw [← hb2] at xb2 ⊢
 have zX:w.heap.size≤b2:=by omega
 have Hb2:=hid xb2
 have amh:w.heap.size≤b3:=by omega
 have ao3:b2<b3:=by omega
 have Hb3:=hid xb3
 have hS:b3<w0.heap.size:=by omega
 clear hB0 hS0 xb2 hb2 xb3 hb3
 have r0:=Hb2.out.cell 0 rfl
 have r1:=Hb2.out.cell 1 rfl
 have r2:=Hb2.out.cell 2 rfl
 have r3:=Hb2.out.cell 3 rfl
 have r4:=Hb2.out.cell 4 rfl
 have r5:=Hb2.out.cell 5 rfl
 have r6:=Hb2.out.cell 6 rfl
 have r7:=Hb2.out.cell 7 rfl
 have r8:=Hb2.out.cell 8 rfl
 have r9:=Hb2.out.cell 9 rfl
 have r10:=Hb2.out.cell 10 rfl
 have x0:=Hb3.out.cell 0 rfl
 have x1:=Hb3.out.cell 1 rfl
 have x2:=Hb3.out.cell 2 rfl
 have x3:=Hb3.out.cell 3 rfl
 go_wp2_with fail
 refine (FD.out w0 (HR.out.below HB.out (Nat.le_refl _)) (HX.out.below HB.out (Nat.le_refl _))).mono ?_
 rintro e w1 ⟨rfl,hb1⟩
 have HR1:=hid (Hb2.out.stays hb1)
 have nR:=hid (Hb3.out.stays hb1)
 have ql:=hid (aj HB.out hb1 HB.out.size)
 clear r0 r1 r2 r3 r4 r5 r6 r7 r8 r9 r10 x0 x1 x2 x3 hb1 Hb2 Hb3 HB
 by_cases h0:E=0
 ·subst h0
  have Nk:=hid (QB.out rfl)
  go_upto_region 5 with (fail)
  refine pV ?_
  intro w2 xB hbl hbs
  obtain ⟨B,hB⟩:∃ B,B=w1.heap.size:=⟨_,rfl⟩
  rw [← hB] at xB hbl hbs ⊢
  have HB0:Hid (VD B B (pK (X.tags.take 0)) w2):=hid (.inl ⟨Nat.le_refl _,.slice none 0 0,xB,World.ownsRow_nil _ _ _ _,by simp [Value.ownBlock]⟩)
  have HL2:Hid (Below B w1 w2):=hid hbl
  have aio:b2<B:=by have:=HR1.out.lt; omega
  have aeW:b3<B:=by have:=nR.out.lt; omega
  have hwB:w.heap.size≤B:=by have:=ql.out.size; omega
  have HR2:=hid (HR1.out.below hbl aio)
  have oJ:=hid (nR.out.below hbl aeW)
  have x0:=oJ.out.cell 0 rfl
  have hs2:B<w2.heap.size:=by omega
  have hB1:B≤w1.heap.size:=by omega
  clear xB hbl hbs hB
  go_wp2_with fail
  clear x0
  go_loopw [22,9] (fun v22 v9 wr=>∃ (i:Nat) (o9:Value),o9=v9∧i≤X.tags.length∧v22=.int .i64 i∧Hid (VD B B (pK (X.tags.take i)) wr)∧Hid (Below B w1 wr)) (fun v _ _=>X.tags.length - (intOf v).toNat)
  case atStart=>exact ⟨0,_,rfl,Nat.zero_le _,rfl,HB0,HL2⟩
  case round =>
   obtain ⟨i,o9,rfl,hi,rfl,bD,RN⟩:=hrel
   have hBr:B≤wr.heap.size:=by have:=RN.out.size; omega
   have HWr:=hid (ql.out.trans (RN.out.mono hwB))
   have HI:=hid hi
   by_cases hlt:i<X.tags.length
   ·have aan:(i:Int)<(X.tags.length:Int):=by omega
    have htl:=Nk.out.tl
    obtain ⟨gt,ot,rfl,hgt,hts⟩:=Gq HX.out.1 (by omega)
    obtain ⟨t1,t2,-⟩:=hts i hlt
    obtain ⟨s1,s2⟩:=RP Nk.out.te i hlt
    have HTk:=hid (Eu X.tags i hlt)
    have htk:=zZ Nk.out.te i (by omega)
    obtain ⟨lt,hlt'⟩:∃ lt,lt=pK (X.tags.take i):=⟨_,rfl⟩
    obtain ⟨tg,htg⟩:∃ tg,tg=X.tags.getD i default:=⟨_,rfl⟩
    rw [← htg] at t1 t2 s1 s2 HTk
    rw [← hlt'] at bD HTk htk
    have k1:wr.cell? ⟨gt,ot+i * 2,none⟩=some (.string tg.key):=(HWr.out.cell (p:=⟨gt,ot+i * 2,none⟩) hgt).trans t1
    have k2:wr.cell? ⟨gt,ot+i * 2+1,none⟩=some (.string tg.value):=(HWr.out.cell (p:=⟨gt,ot+i * 2+1,none⟩) hgt).trans t2
    obtain ⟨ky,hky⟩:∃ ky,ky=tg.key:=⟨_,rfl⟩
    obtain ⟨va,hva⟩:∃ va,va=tg.value:=⟨_,rfl⟩
    have HTG:Hid (UD tg=bt (⟨#[91]⟩++ky++⟨#[32,34]⟩++va++⟨#[34,93,10]⟩)):=hid (by rw [hky,hva]; unfold UD; simp [bt])
    rw [← hky] at k1 s1
    rw [← hva] at k2 s2
    have hs1:¬ 9223372036854775807<1+ky.size:=by omega
    have hs2:¬ 9223372036854775807<1+ky.size+2:=by omega
    have hs3:¬ 9223372036854775807<1+ky.size+2+va.size:=by omega
    have hs4:¬ 9223372036854775807<1+ky.size+2+va.size+3:=by omega
    clear hlt' htg hky hva t1 t2
    have HLT:=hid hlt
    clear hlt hi
    go_wp2_with fail
    have hsz:(⟨#[91]⟩++ky++⟨#[32,34]⟩++va++⟨#[34,93,10]⟩:ByteArray).size=ky.size+va.size+6:=by
     rw [ByteArray.size_append,ByteArray.size_append,ByteArray.size_append,ByteArray.size_append]
     show 1+ky.size+2+va.size+3=_
     omega
    refine (HWh.out B B lt _ _ (bD.out.below (xG wr _)) (by rw [hsz]; have:=HLT.out; omega) (by simp; omega)).mono ?_
    rintro e w5 ⟨rfl,hb5,hl5⟩
    have wO:Hid (VD B B (pK (X.tags.take (i+1))) w5):=hid (by rw [HTk.out,HTG.out]; exact hb5)
    have OU:Hid (Below B w1 w5):=hid (RN.out.trans (((xG wr _).mono hBr).trans hl5))
    clear hb5 hl5 hsz bD RN HWr HTk HTG
    go_wp2_with fail
    go_roundw
    case rel=>exact ⟨i+1,_,rfl,HLT.out,by go_num,wO,OU⟩
    case measure=>have:=HLT.out; simp [intOf]; omega
   ·obtain rfl:i=X.tags.length:=by omega
    have aan:¬ (X.tags.length:Int)<(X.tags.length:Int):=by omega
    have Um:Hid (VD B B (pK X.tags) wr):=hid (by have:=bD.out; rwa [List.take_of_length_le (Nat.le_refl _)] at this)
    have HRr:=hid (HR1.out.below RN.out aio)
    have BJ:=hid (nR.out.below RN.out aeW)
    have x1:=BJ.out.cell 1 rfl
    have ash:=BJ.out.lt
    have asi:=HRr.out.lt
    clear hlt hi HI bD HB0 HL2 HR2 oJ
    go_upto_if 38 with (fail)
    go_cut [10] from 38 to 46 (fun v10 wx=>∃ oL,oL=v10∧Hid (wx.ownsRow wr.heap.size 9 1 oL (Ew X).length (gW (Ew X)))∧Hid (Below wr.heap.size wr wx))
    case first =>
     by_cases hz:X.comment.size=0
     ·have hem:X.comment.toList.isEmpty=true:=by
       rw [Lib.toList_data]
       have:X.comment.data.toList=[]:=List.length_eq_zero_iff.1 (by simpa using hz)
       rw [this]; rfl
      have HC:Hid (Ew X=[]):=hid (by unfold Ew; rw [if_pos hz])
      clear hz
      rw [hem]
      go_wp2_with fail
      go_meet
      exact ⟨_,rfl,hid (by rw [HC.out]; exact World.ownsRow_nil _ _ _ _),hid (Below.refl _ _)⟩
     ·have hem:X.comment.toList.isEmpty=false:=by
       rw [Lib.toList_data]
       cases h:X.comment.data.toList with
       | nil=>exact absurd (by have:=congrArg List.length h; simpa using this) hz
       | cons _ _=>rfl
      have hcs:=Nk.out.cs
      obtain ⟨tx,htx⟩:∃ tx,tx=(⟨#[123]⟩++X.comment++⟨#[125]⟩:ByteArray):=⟨_,rfl⟩
      have HTX:=hid htx.symm
      have HC:Hid (Ew X=[bt tx]):=hid (by unfold Ew; rw [if_neg hz,htx]; simp [bt])
      have hs1:¬ 9223372036854775807<1+X.comment.size:=by omega
      have hs2:¬ 9223372036854775807<1+X.comment.size+1:=by omega
      clear hz htx
      rw [hem]
      go_wp2_with (at_builtin; rw [HTX.out]; refine PV 155 9 (.string ⟨#[]⟩) 1 16 BM Tryz.underlying155 rfl (by decide) (by rfl) _ _ (by rfl) wr.heap.size (.slice none 0 0) 0 [] [.string tx] wr (World.ownsRow_nil _ _ _ _) (Nat.le_refl _) rfl (by intro u hu; simp at hu; subst hu; rfl) (by omega) (by omega) (by rfl) (by rfl) ?_)
      intro g6 cap6 w7 hown6 YQ Nb
      have QU:=hid (Below.grown ((Below.refl wr.heap.size wr).alloc (Nat.le_refl _) (.cells #[.string tx] 9)) Nb (by simp) (fun j hj=>by simp [Value.ownBlock] at hj))
      have KE:=hid hown6
      clear hown6 YQ Nb
      go_wp2_with fail
      go_meet
      exact ⟨_,rfl,hid (by rw [HC.out]; exact KE.out),QU⟩
    case rest =>
     obtain ⟨oL,rfl,NW,ZP⟩:=hcut
     obtain ⟨wA,rfl⟩:∃ wA:World,wA=wc:=⟨_,rfl⟩
     have QD:=hid (Um.out.below ZP.out)
     have UY:=hid (HRr.out.stays ZP.out)
     have HXA:=hid (BJ.out.stays ZP.out)
     have HLA:=hid (RN.out.trans (ZP.out.mono hBr))
     have hcl:(Ew X).length≤1:=by unfold Ew; split <;> simp
     have hrA:=ZP.out.size
     have asj:=UY.out.lt
     have asl:=HXA.out.lt
     obtain ⟨cl,aeX⟩:∃ cl,cl=Ew X:=⟨_,rfl⟩
     rw [← aeX] at NW hcl
     have aip:=hid aeX
     clear aeX
     obtain ⟨ola,olc,rfl⟩:=aH NW.out
     have HWA:=hid (ql.out.trans (HLA.out.mono hwB))
     have r0:=UY.out.cell 0 rfl
     have r1:=UY.out.cell 1 rfl
     have r2:=UY.out.cell 2 rfl
     have r3:=UY.out.cell 3 rfl
     have r4:=UY.out.cell 4 rfl
     have r5:=UY.out.cell 5 rfl
     have r6:=UY.out.cell 6 rfl
     have r7:=UY.out.cell 7 rfl
     have r8:=UY.out.cell 8 rfl
     have r9:=UY.out.cell 9 rfl
     have r10:=UY.out.cell 10 rfl
     clear x1
     go_wp2_with fail
     refine (CB R vp vs ve wA (HR.out.below HWA.out (Nat.le_refl _)) JZ.out).mono ?_
     rintro e w7 (⟨h,-⟩ | ⟨-,vc,v0,v1,rfl,vK,hb7⟩)
     ·exact absurd Nk.out.r h
     obtain ⟨pa,pc,rfl⟩:=aH vK.1
     obtain ⟨pa0,pc0,rfl⟩:=aH vK.2.1
     obtain ⟨pa1,pc1,rfl⟩:=aH vK.2.2
     have HP7:Hid (tJ w7 (aC R) (.slice pa (aC R).cells.length pc) (.slice pa0 (aC R).h0.length pc0) (.slice pa1 (aC R).h1.length pc1)):=hid ⟨iJ.dL vK.1,iJ.dL vK.2.1,iJ.dL vK.2.2⟩
     have HC7:=hid (aj ZP.out hb7 ZP.out.size)
     have hr7:=HC7.out.size
     have QU:=hid (RN.out.trans (HC7.out.mono hBr))
     have HW7:=hid (ql.out.trans (QU.out.mono hwB))
     have vN:=hid (HRr.out.stays HC7.out)
     have Vr:=hid (BJ.out.stays HC7.out)
     have air:=hid (aU NW.out hb7)
     have ams:=vN.out.lt
     have amu:=Vr.out.lt
     clear hb7 vK r0 r1 r2 r3 r4 r5 r6 r7 r8 r9 r10 NW ZP HWA HLA HXA UY QD
     unfold sH
     have r0:=vN.out.cell 0 rfl
     have r1:=vN.out.cell 1 rfl
     have r2:=vN.out.cell 2 rfl
     have r3:=vN.out.cell 3 rfl
     have r4:=vN.out.cell 4 rfl
     have r5:=vN.out.cell 5 rfl
     have r6:=vN.out.cell 6 rfl
     have r7:=vN.out.cell 7 rfl
     have r8:=vN.out.cell 8 rfl
     have r9:=vN.out.cell 9 rfl
     have r10:=vN.out.cell 10 rfl
     have x0:=Vr.out.cell 0 rfl
     have x1:=Vr.out.cell 1 rfl
     have x2:=Vr.out.cell 2 rfl
     have x3:=Vr.out.cell 3 rfl
     have HN0:=hid (Box.new w7 [.slice none 0 0,.slice none 0 0,.slice none 0 0,.int .i64 0,.int .i64 0] 158)
     have hWW:Below w7.heap.size w7 ((w7.alloc (.cells #[.slice pa (aC R).cells.length pc,.slice pa0 (aC R).h0.length pc0,.slice pa1 (aC R).h1.length pc1,.int .i64 (aC R).turn,.int .i64 (aC R).quiet] 158)).alloc (.cells #[.string R.name,.int .i64 R.width,.int .i64 R.height,vp,vs,.bool R.falls,.bool R.keeps,ve,.int .i64 R.blocked,.int .i64 R.quiet,.int .i64 R.aZ,.slice ta X.tags.length tc,.string X.comment,.slice na X.nodes.length nc,.int .i64 X.result] Vz)):=((Below.refl _ _).alloc (Nat.le_refl _) _).alloc (by simp) _
     have hbw:Box ((w7.alloc (.cells #[.slice pa (aC R).cells.length pc,.slice pa0 (aC R).h0.length pc0,.slice pa1 (aC R).h1.length pc1,.int .i64 (aC R).turn,.int .i64 (aC R).quiet] 158)).alloc (.cells #[.string R.name,.int .i64 R.width,.int .i64 R.height,vp,vs,.bool R.falls,.bool R.keeps,ve,.int .i64 R.blocked,.int .i64 R.quiet,.int .i64 R.aZ,.slice ta X.tags.length tc,.string X.comment,.slice na X.nodes.length nc,.int .i64 X.result] Vz)) (w7.heap.size+1) [.string R.name,.int .i64 R.width,.int .i64 R.height,vp,vs,.bool R.falls,.bool R.keeps,ve,.int .i64 R.blocked,.int .i64 R.quiet,.int .i64 R.aZ,.slice ta X.tags.length tc,.string X.comment,.slice na X.nodes.length nc,.int .i64 X.result] Vz:=Box.new' _ _ _ _ (by simp)
     have HAf:=hid (PZ pq.out ZN.out (Jj Nk.out.r) X Nk.out.back (by have:=Nk.out.nl; omega) ta na tc nc (w7.heap.size+1) (X.nodes.length+1) (-1) (aC R) (.slice pa (aC R).cells.length pc) (.slice pa0 (aC R).h0.length pc0) (.slice pa1 (aC R).h1.length pc1) _ hbw (HR.out.below (aj HW7.out hWW HW7.out.size) (Nat.le_refl _)) (HX.out.below (aj HW7.out hWW HW7.out.size) (Nat.le_refl _)) (HP7.out.below hWW (Nat.le_refl _)) (yw Nk.out.r) (by omega) Nk.out.leg Nk.out.sz Nk.out.cn)
     have HWW:=hid hWW
     clear hWW hbw
     go_wp2_with (refine aK (vs:=[.slice pa (aC R).cells.length pc,.slice pa0 (aC R).h0.length pc0,.slice pa1 (aC R).h1.length pc1,.int .i64 (aC R).turn,.int .i64 (aC R).quiet]) (by rfl) 158 (.tmp 11) (.tmp 49) w7.heap.size (by rfl) [.slice pa (aC R).cells.length pc,.slice pa0 (aC R).h0.length pc0,.slice pa1 (aC R).h1.length pc1,.int .i64 (aC R).turn,.int .i64 (aC R).quiet] (by rfl) (by rfl) HN0.out rfl (by kernel_rfl) (by rfl) ?_)
     refine HAf.out.mono ?_
     rintro e w9 ⟨v9,rfl,ho9,xP⟩
     have HC9:=hid (aj (aj HC7.out HWW.out HC7.out.size) xP (aj HC7.out HWW.out HC7.out.size).size)
     have aeZ:=hid (aU (aU air.out HWW.out) xP)
     obtain ⟨ty,hty⟩:∃ ty,ty=kU R (aC R) (eU X.nodes (X.nodes.length+1) (-1)):=⟨_,rfl⟩
     have HTY:Hid (ty=kU R (aC R) (trees X)):=hid hty
     have htt:=Nk.out.tot
     rw [← HTY.out] at htt
     rw [← hty] at ho9
     obtain ⟨la,hla⟩:∃ la,la=cl++ty:=⟨_,rfl⟩
     have asq:la.length≤401:=by rw [hla,List.length_append]; omega
     have amv:=hid hla
     clear hty r0 r1 r2 r3 r4 r5 r6 r7 r8 r9 r10 x0 x1 x2 x3 HN0 HAf HP7 vN Vr air QU HW7 ams amu
     go_wp2_with (at_builtin; refine YR (by rfl) _ _ (by rfl) wr.heap.size (.slice ola cl.length olc) cl (by rfl) aeZ.out ((w7.alloc (.cells #[.slice pa (aC R).cells.length pc,.slice pa0 (aC R).h0.length pc0,.slice pa1 (aC R).h1.length pc1,.int .i64 (aC R).turn,.int .i64 (aC R).quiet] 158)).alloc (.cells #[.string R.name,.int .i64 R.width,.int .i64 R.height,vp,vs,.bool R.falls,.bool R.keeps,ve,.int .i64 R.blocked,.int .i64 R.quiet,.int .i64 R.aZ,.slice ta X.tags.length tc,.string X.comment,.slice na X.nodes.length nc,.int .i64 X.result] Vz)).heap.size v9 ty (by rfl) ho9 (by omega) HC9.out.size ?_)
     intro v10 w10 mW ait
     rw [← hla] at mW
     try rw [show cl.length+ty.length=la.length by rw [hla,List.length_append]] at mW
     have amw:=hid mW
     have aiu:=hid (below_grown HC9.out aeZ.out ait HC9.out.size)
     have wX:=hid (BJ.out.stays aiu.out)
     obtain ⟨la0,lc0,rfl⟩:=aH mW
     have htl:(∀ x∈la,x.length≤1000000)∧tot la≤300000:=by
      have e1:tot cl≤63:=by
       rw [aip.out]
       unfold Ew
       split
       ·show 0≤_; omega
       ·have:=Nk.out.cs
        rw [jX]
        show _+0≤_
        simp only [List.length_cons,List.length_append,List.length_nil,aew]
        omega
      have e2:tot la≤300000:=by rw [hla,BN]; omega
      exact ⟨fun x hx=>by have:=BO hx; omega,e2⟩
     have HTL:=hid htl
     clear hla mW ait ho9 xP HC9 aeZ HC7 HWW htl
     go_wp2_with fail
     obtain ⟨rs,hrs⟩:∃ rs,rs=bs (UE X.result):=⟨_,rfl⟩
     have HIX:∀ w',(Instr.index 166 (.agg #[.string ⟨#[42]⟩,.string ⟨#[49,45,48]⟩,.string ⟨#[48,45,49]⟩,.string ⟨#[49,47,50]⟩]) (.int .i64 X.result)).run Tryz.prog w'=.ok (.string rs) w':=by
      have h:X.result=0∨X.result=1∨X.result=2∨X.result=3:=by have:=Nk.out.rs; omega
      rw [hrs]
      rcases h with h | h | h | h <;> rw [h] <;> intro w' <;> kernel_rfl
     have HRS:=hid hrs
     have hrl:(UE X.result).length≤3:=abQ _
     have htg:=zZ Nk.out.te X.tags.length (Nat.le_refl _)
     rw [List.take_of_length_le (Nat.le_refl _)] at htg
     have htl:=Nk.out.tl
     have HTT:=hid HTL.out.2
     obtain ⟨lp,hlp⟩:∃ lp,lp=la++[UE X.result]:=⟨_,rfl⟩
     have HLP:Hid (lp=Em R X):=hid (by rw [hlp,amv.out,aip.out,HTY.out]; unfold Em Ew; rw [List.append_assoc])
     have htp:lp.length≤402∧tot lp≤300004:=by
      refine ⟨by rw [hlp,List.length_append]; show la.length+1≤_; omega,?_⟩
      rw [hlp,BN,jX]
      show _+(_+0)≤_
      have:=HTT.out
      omega
     have HTP:=hid htp
     have amx:=hid hlp
     obtain ⟨j,hj⟩:∃ j,j=bs (ny lp):=⟨_,rfl⟩
     have hjs:j.size≤300004:=by rw [hj,Ru]; have:=qU lp; omega
     have HTX:Hid (pK X.tags++bt (j++⟨#[10]⟩)=wH R X):=hid (by rw [HTB.out,hj,HLP.out]; simp [bt,bs])
     have HJE:=hid hj
     obtain ⟨tx,htx⟩:∃ tx,tx=(j++⟨#[10]⟩:ByteArray):=⟨_,rfl⟩
     have htz:(pK X.tags).length+tx.size≤100000000:=by
      rw [htx,ByteArray.size_append]
      show _+(j.size+1)≤_
      omega
     rw [← htx] at HTX
     have HTJ:=hid htx.symm
     clear htx
     have hs1:¬ 9223372036854775807<j.size+1:=by omega
     clear hrs htp hlp hj
     have Lz:Below wr.heap.size wr w10.drew:=aiu.out.drew
     have Xz:=wX.out.drew
     have Rz:World.ownsRow w10.drew wr.heap.size 9 1 (.slice la0 la.length lc0) la.length (gW la):=amw.out
     refine wp_region_noPanic ?_
     refine bU (S:=(fun w'=>w'.cell? ⟨b3,3,none⟩=some (.int .i64 X.result))) (L:=[]) (by kernel_rfl) (Xz.cell 3 rfl) (fun hHeld=>?_)
     refine aJ 0 ?_
     refine aJ 2 ?_
     refine eH 3 ?_
     refine gI 1 fun K hK=>?_
     go_simp
     refine (MW w10.drew).mono ?_
     rintro e wZ ⟨rfl,oN⟩
     have qg:=aj Lz oN Lz.size
     have QW:=Xz.stays oN
     have R20:=aU Rz oN
     refine hK.out _ _ (QW.cell 3 rfl) (fun hHeld=>?_)
     clear hK K
     refine aJ 4 ?_
     refine gI 5 fun K hK=>?_
     go_simp
     refine bg ?_
     intro jC e21
     have zX:Below wZ.heap.size wZ jC:=by rw [e21]; exact xG wZ _
     have N21:Box jC wZ.heap.size [.string rs] 9:=by rw [e21]; exact Box.new' _ _ _ _ rfl
     have DN:=aj qg zX qg.size
     have Pq:=QW.stays zX
     have R21:=aU R20 zX
     clear e21
     have Dj:jC.ownsRow wZ.heap.size 9 1 (.slice (some ⟨wZ.heap.size,0,none⟩) 1 1) 1 (gW [UE X.result]):=by rw [Es,← HRS.out]; exact ⟨by simp [gW],.inr ⟨wZ.heap.size,1,#[.string rs],rfl,Nat.le_refl _,N21,Nat.le_refl _,by decide,rfl,rfl⟩⟩
     refine hK.out _ _ (Pq.cell 3 rfl) (fun hHeld=>?_)
     clear hK K
     refine gI 6 fun K hK=>?_
     rw [if_pos (by rfl)]
     refine pO _ _ rfl wr.heap.size (.slice la0 la.length lc0) la rfl R21 wZ.heap.size (.slice (some ⟨wZ.heap.size,0,none⟩) 1 1) [UE X.result] rfl Dj (by show la.length+1≤_; omega) DN.size ?_
     intro v30 w30 Fe aiv
     rw [← amx.out] at Fe
     have BP:=below_grown DN R21 aiv DN.size
     have X30:=BJ.out.stays BP
     obtain ⟨amB,amC,rfl⟩:=aH Fe
     refine hK.out _ _ (X30.cell 3 rfl) (fun hHeld=>?_)
     clear hK K
     refine gI 7 fun K hK=>?_
     go_simp
     refine (ZN.out wr.heap.size (.slice amB lp.length amC) lp w30 Fe (by have:=HTP.out.1; omega) (fun x hx=>by have h1:=BO hx; have:=HTP.out.2; omega)).mono ?_
     rw [← HJE.out]
     rintro e w40 ⟨rfl,ae0⟩
     have GV:=aj BP ae0 BP.size
     have X40:=X30.stays ae0
     refine hK.out _ _ (X40.cell 3 rfl) (fun hHeld=>?_)
     clear hK K
     refine aJ 8 ?_
     refine gI 9 fun K hK=>?_
     go_simp
     rw [HTJ.out]
     have ac8:=Um.out.below GV
     have aiw:B≤w40.heap.size:=by have:=GV.size; omega
     refine (HWh.out B B (pK X.tags) tx w40 ac8 htz aiw).mono ?_
     rintro e w50 ⟨rfl,aix,abT⟩
     have X50:=X40.below abT aeW
     refine hK.out _ _ (X50.cell 3 rfl) (fun hHeld=>?_)
     clear hK K
     refine kW ?_
     have ae1:Hid (VD B B (wH R X) w50):=hid (by rw [← HTX.out]; exact aix)
     have aiy:Hid (Below w.heap.size w w50):=hid ((ql.out.trans ((RN.out.trans (GV.mono hBr)).mono hwB)).trans (abT.mono hwB))
     have amE:B≤w50.heap.size:=by have:=GV.size; have:=abT.size; omega
     obtain ⟨tb,htb⟩:∃ tb,tb=wH R X:=⟨_,rfl⟩
     rw [← htb] at ae1 HTE lY
     clear hHeld Lz Xz Rz qg QW R20 DN Pq R21 BP X30 GV X40 X50 oN zX ae0 aix abT ac8 aiw htz Fe aiv N21 Dj HIX hs1 htb
     go_wp2_with fail
     refine (HLh.out B B tb w50 ae1.out).mono ?_
     rintro e w51 ⟨rfl,rfl⟩
     by_cases hbig:8192<tb.length
     ·have hbI:(8192:Int)<(tb.length:Int):=by omega
      have jR:Hid (TE=2):=hid (by rw [HTE.out,if_neg (by simp),if_pos hbig])
      clear hbig
      go_wp2_with fail
      go_ret2
      exact ⟨by rw [lY.out,jR.out,if_neg (by decide)]; rfl,aiy.out⟩
     ·have hbI:¬ (8192:Int)<(tb.length:Int):=by omega
      have jR:Hid (TE=0):=hid (by rw [HTE.out,if_neg (by simp),if_neg hbig])
      clear hbig
      go_wp2_with fail
      refine (HTh.out B B tb w51 ae1.out amE).mono ?_
      rintro e w52 ⟨rfl,aiz⟩
      have amF:=hid (aiy.out.trans (aiz.mono hwB))
      clear aiz
      go_wp2_with fail
      go_ret2
      exact ⟨by rw [lY.out,jR.out,if_pos rfl]; rfl,amF.out⟩
 ·have h0':¬ E=0:=h0
  have sN:=hid h0
  have jR:Hid (TE=E):=hid (by rw [HTE.out,if_pos h0])
  clear h0
  go_wp2_with fail
  go_ret2
  exact ⟨by rw [lY.out,jR.out,if_neg sN.out]; rfl,ql.out⟩
end Go.Proofs.YteablcielclaeaaGreatDoor
namespace Go.Proofs.YteablcielclaeaaGreatDoor
open Go.ChangeShapes Go.WideShapes Go.ChangeAt Go.RowKit
set_option linter.unusedVariables false
set_option maxHeartbeats 4000000
set_option maxRecDepth 100000
open Go.Lib (hid)
theorem of_nil (x:Option Addr) (c:Nat) (pl:Int) (w:World):Calls Tryz.prog 180 #[.slice x 0 c,.int .i64 pl] w fun e w'=>e=.returned (.slice none 0 0)∧w=w':=by
 go_enter Tryz.func180,Tryz.ntmps180
 go_wp2_with fail
 go_loopw [5,10] (fun vo vi wr=>vo=.slice none 0 0∧vi=.int .i64 0∧w=wr) (fun _ _ _=>0)
 case atStart=>exact ⟨rfl,rfl,rfl⟩
 case round =>
  obtain ⟨rfl,rfl,rfl⟩:=hrel
  go_wp2_with fail
  go_ret
  exact ⟨rfl,rfl⟩
theorem xH (x:Option Addr) (c:Nat) (f:FuncId) (caps:Array Value) (w:World):Calls Tryz.prog 207 #[.slice x 0 c,.func (.func f) #[] caps] w fun e w'=>e=.returned (.int .i64 (-1))∧w=w':=by
 go_enter Tryz.func207,Tryz.ntmps207
 go_wp2_with fail
 go_loopw [8] (fun vi wr=>vi=.int .i64 0∧w=wr) (fun _ _=>0)
 case atStart=>exact ⟨rfl,rfl⟩
 case round =>
  obtain ⟨rfl,rfl⟩:=hrel
  go_wp2_with fail
  go_ret
  exact ⟨rfl,rfl⟩
theorem Fg (x:Option Addr) (c:Nat) (f:FuncId) (caps:Array Value) (w:World):Calls Tryz.prog 215 #[.slice x 0 c,.func (.func f) #[] caps] w fun e w'=>e=.returned (.bool false)∧w=w':=by
 go_enter Tryz.func215,Tryz.ntmps215
 go_wp2_with fail
 refine (xH x c f caps w).mono ?_
 rintro e w' ⟨rfl,rfl⟩
 go_wp2_with fail
 go_ret
 exact ⟨rfl,rfl⟩
theorem Fh (x:Option Addr) (c:Nat) (w:World):Calls Tryz.prog 179 #[.slice x 0 c] w fun e w'=>e=.returned (.int .i64 0)∧w=w':=by
 go_enter Tryz.func179,Tryz.ntmps179
 go_wp2_with fail
 refine (of_nil x c 0 w).mono ?_
 rintro e w' ⟨rfl,rfl⟩
 go_wp2_with fail
 refine (of_nil x c 1 w).mono ?_
 rintro e w' ⟨rfl,rfl⟩
 go_wp2_with fail
 refine (Fg x c _ _ w).mono ?_
 rintro e w' ⟨rfl,rfl⟩
 go_wp2_with fail
 go_ret
 exact ⟨rfl,rfl⟩
theorem clone_nil (x:Option Addr) (c:Nat) (hc:c≤maxLen) (w:World):Calls Tryz.prog 60 #[.slice x 0 c] w fun e w'=>∃ y c',e=.returned (.slice y 0 c')∧w'.ownsRow w.heap.size 173 4 (.slice y 0 c') 0 []∧Below w.heap.size w w':=by
 obtain ⟨i0,hi,hz0,hz1,hz2⟩:=nI QI
 have hq:=fun (w:World) (a:Option Addr) (n c:Nat)=>Lib.run_eql_slice_nil (P:=Tryz.prog) w 87 173 a n c 0 0 Tryz.underlying87
 exact Calls.mono (Lj _ [] w (.inl ⟨_,_,rfl,hc,rfl⟩) (by decide)) fun e w' ⟨v,he,ho,hb⟩=>by
  obtain ⟨y,c',rfl⟩:=aH ho
  exact ⟨y,c',he,ho,hb⟩
theorem Nl (x:Option Addr) (c:Nat) (f:FuncId) (caps:Array Value) (w:World):Calls Tryz.prog 231 #[.slice x 0 c,.func (.func f) #[] caps] w fun e w'=>e=.returned (.slice x 0 c)∧w=w':=by
 go_enter Tryz.func231,Tryz.ntmps231
 go_wp2_with fail
 refine (xH x c f caps w).mono ?_
 rintro e w' ⟨rfl,rfl⟩
 go_wp2_with fail
 go_ret
 exact ⟨rfl,rfl⟩
theorem Np (x:Option Addr) (c:Nat) (hc:c≤maxLen) (pl:Int) (w:World):Calls Tryz.prog 209 #[.slice x 0 c,.int .i64 pl] w fun e w'=>∃ y c',e=.returned (.slice y 0 c')∧w'.ownsRow w.heap.size 173 4 (.slice y 0 c') 0 []∧Below w.heap.size w w':=by
 go_enter Tryz.func209,Tryz.ntmps209
 go_upto_region 1 with (fail)
 have HB:=hid (show Below w.heap.size w (w.alloc (.cells #[.int .i64 pl] 3)) from (Below.refl _ _).alloc (Nat.le_refl _) _)
 generalize w.alloc (.cells #[.int .i64 pl] 3)=w0 at *
 go_wp2_with fail
 refine (clone_nil x c hc w0).mono ?_
 rintro e w1 ⟨y,c',rfl,ho,hb⟩
 have HO:=hid (own_base ho HB.out.size)
 have HB1:=hid (aj HB.out hb HB.out.size)
 clear ho hb
 go_wp2_with fail
 refine (Nl y c' _ _ w1).mono ?_
 rintro e w' ⟨rfl,rfl⟩
 go_wp2_with fail
 go_ret
 exact ⟨_,_,rfl,HO.out,HB1.out⟩
theorem Qa (R:au) (vp vs ve:Value) (p:aV) (vc v0 v1:Value) (x:Option Addr) (c:Nat) (w:World) (hr:qo w R vp vs ve) (hnm:R.name.size≤maxLen) (hp:tJ w p vc v0 v1) :
  Calls Tryz.prog 173 #[(.agg #[.string R.name,.int .i64 R.width,.int .i64 R.height,vp,vs,.bool R.falls,.bool R.keeps,ve,.int .i64 R.blocked,.int .i64 R.quiet,.int .i64 R.aZ]),(.agg #[vc,v0,v1,.int .i64 p.turn,.int .i64 p.quiet]),.slice x 0 c] w fun e w'=>e=.returned (.int .i64 (gY R p []))∧Below w.heap.size w w':=by
 have HR:=hid hr
 have HN:=hid hnm
 have HP:=hid hp
 have HD:Hid (gY R p []=if fB R p≠0 then fB R p else uT []):=hid rfl
 clear hr hp hnm
 go_enter Tryz.func173,Tryz.ntmps173
 go_upto_region 1 with (fail)
 refine vJ fun w0 B0 B1 fG hs_=>?_
 have HB:=hid fG
 have hz0:w.heap.size+1<w0.heap.size:=by omega
 clear hs_ fG
 have zh:=hid (HR.out.below HB.out (Nat.le_refl _))
 have EW:=hid (HP.out.below HB.out (Nat.le_refl _))
 have HX0:=hid B0
 have nR:=hid B1
 clear B0 B1
 refine wp_region_lit ?_
 refine aB (by rfl) 61 (.tmp 3) (by rfl) (w.heap.size) (by rfl) HX0.out Tryz.underlying61 (by rfl) (by kernel_rfl) ?_
 refine aB (by rfl) 158 (.tmp 4) (by rfl) (w.heap.size+1) (by rfl) nR.out Tryz.underlying158 (by rfl) (by kernel_rfl) ?_
 go_wp2_with fail
 refine (Cj R vp vs ve p vc v0 v1 w0 zh.out HN.out EW.out).mono ?_
 rintro e w1 ⟨rfl,hb1⟩
 have HB1:=hid (aj HB.out hb1 HB.out.size)
 clear hb1
 by_cases he:fB R p=0
 rotate_left
 ·have HE:Hid (gY R p []=fB R p):=hid (by rw [HD.out,if_pos he])
  have he':(fB R p != 0)=true:=by simpa using he
  clear he HD
  go_wp2_with fail
  go_ret
  exact ⟨by rw [HE.out]; rfl,HB1.out⟩
 have HE:Hid (gY R p []=uT []):=hid (by rw [HD.out,if_neg (by simp [he])])
 rw [he]
 clear he HD
 go_wp2_with fail
 refine (Fh x c w1).mono ?_
 rintro e w2 ⟨rfl,rfl⟩
 go_wp2_with fail
 go_ret
 exact ⟨by rw [HE.out]; rfl,HB1.out⟩
theorem Y2 (R:au) (vp vs ve:Value) (p:aV) (vc v0 v1:Value) (x:Option Addr) (c:Nat) (hc:c≤maxLen) (w:World) (hr:qo w R vp vs ve) (hp:tJ w p vc v0 v1) (K:oK R p) :
  Calls Tryz.prog 174 #[(.agg #[.string R.name,.int .i64 R.width,.int .i64 R.height,vp,vs,.bool R.falls,.bool R.keeps,ve,.int .i64 R.blocked,.int .i64 R.quiet,.int .i64 R.aZ]),(.agg #[vc,v0,v1,.int .i64 p.turn,.int .i64 p.quiet]),.slice x 0 c] w (Xe R p [] w):=by
 have HR:=hid hr
 have HP:=hid hp
 have HK:=hid K
 clear hr hp K
 go_enter Tryz.func174,Tryz.ntmps174
 go_upto_region 1 with (fail)
 refine Ih fun w0 B0 B1 B2 fG hs_=>?_
 have HB:=hid fG
 have hz0:w.heap.size+1+1<w0.heap.size:=by omega
 clear hs_ fG
 have zh:=hid (HR.out.below HB.out (Nat.le_refl _))
 have EW:=hid (HP.out.below HB.out (Nat.le_refl _))
 have HX0:=hid B0
 have nR:=hid B1
 have oJ:=hid B2
 clear B0 B1 B2
 go_wp2_with fail
 refine (xH x c _ _ w0).mono ?_
 rintro e w1 ⟨rfl,rfl⟩
 have aiA:=HX0
 have aiB:=nR
 have aiC:=oJ
 have HB1:=HB
 clear HX0 nR oJ zh EW HB
 have hok:jA R p []=false:=rfl
 have jR:Hid (jA R p []=false):=hid hok
 have HE2:Hid (bn R p []=⟨0,0,0⟩):=hid rfl
 have xQ:Hid (aI R p []=[]):=hid rfl
 clear hok
 go_upto_region 2 with (fail)
 generalize w0=wq at *
 have BRz:=aiA.out.drew
 have BPz:=aiB.out.drew
 have BMz:=aiC.out.drew
 have Lz:Below w.heap.size w wq.drew:=aP HB1.out
 clear aiA aiB aiC HB1
 refine wp_region_noPanic ?_
 refine bU (S:=(fun _=>True)) (L:=[]) (by kernel_rfl) trivial (fun hHeld=>?_)
 refine aJ 0 ?_
 refine aJ 1 ?_
 refine aJ 2 ?_
 refine vW 3 ?_
 refine vW 4 ?_
 refine vW 6 ?_
 refine vW 7 ?_
 refine vW 5 ?_
 refine vW 8 ?_
 refine vW 9 ?_
 refine vW 10 ?_
 refine vW 11 ?_
 refine vW 12 ?_
 refine aJ 13 ?_
 refine kW ?_
 have BRy:Box wq.drew (w.heap.size) [.string R.name,.int .i64 R.width,.int .i64 R.height,vp,vs,.bool R.falls,.bool R.keeps,ve,.int .i64 R.blocked,.int .i64 R.quiet,.int .i64 R.aZ] 61:=BRz
 have q3:=BPz.cell 3 rfl
 have HLn:=hid Lz
 have dW:=hid BMz
 go_wp2_with fail
 refine (Np x c hc p.turn _).mono ?_
 rintro e w7 ⟨a7,c7,rfl,vK,hb7⟩
 have HB7:=hid (aj HLn.out hb7 HLn.out.size)
 have HM7:=hid (dW.out.stays hb7)
 have KE:=hid vK
 have amG:=dW.out.lt
 clear vK hb7
 go_wp2_with (refine aK (vs:=[.int .i64 0,.int .i64 0,.int .i64 0]) (by rfl) 68 (.tmp 6) (.tmp 27) (by rfl) (w.heap.size+1+1) (by rfl) (by rfl) HM7.out rfl (by kernel_rfl) (by rfl) ?_)
 exact bodyPost_ret (OI rfl (by rfl) (by rfl) (by rfl) (HM7.out.store rfl) Tryz.underlying68 (by rfl) (by kernel_rfl)) rfl ⟨_,by rw [jR.out,HE2.out]; rfl,by rw [xQ.out]; exact own_base (aS KE.out amG 0 _) HLn.out.size,below_setCells HB7.out (by omega) 0 _⟩
theorem Y3 (R:au) (vp vs ve:Value) (p:aV) (vc v0 v1:Value) (x:Option Addr) (c:Nat) (hc:c≤maxLen) (w:World) (hr:qo w R vp vs ve) (hnm:R.name.size≤maxLen) (hp:tJ w p vc v0 v1) :
  Calls Tryz.prog 130 #[(.agg #[.string R.name,.int .i64 R.width,.int .i64 R.height,vp,vs,.bool R.falls,.bool R.keeps,ve,.int .i64 R.blocked,.int .i64 R.quiet,.int .i64 R.aZ]),(.agg #[vc,v0,v1,.int .i64 p.turn,.int .i64 p.quiet]),.slice x 0 c] w (Dp R p [] w):=by
 have HR:=hid hr
 have HN:=hid hnm
 have HP:=hid hp
 clear hr hp hnm
 go_enter Tryz.func130,Tryz.ntmps130
 go_upto_region 1 with (fail)
 refine Ih fun w0 B0 B1 B2 fG hs_=>?_
 have HB:=hid fG
 have hz0:w.heap.size+1+1<w0.heap.size:=by omega
 clear hs_ fG
 have zh:=hid (HR.out.below HB.out (Nat.le_refl _))
 have EW:=hid (HP.out.below HB.out (Nat.le_refl _))
 have HX0:=hid B0
 have nR:=hid B1
 have oJ:=hid B2
 clear B0 B1 B2
 refine wp_region_lit ?_
 refine aB (by rfl) 61 (.tmp 3) (by rfl) (w.heap.size) (by rfl) HX0.out Tryz.underlying61 (by rfl) (by kernel_rfl) ?_
 refine aB (by rfl) 158 (.tmp 4) (by rfl) (w.heap.size+1) (by rfl) nR.out Tryz.underlying158 (by rfl) (by kernel_rfl) ?_
 go_wp2_with fail
 refine (Qa R vp vs ve p vc v0 v1 x c w0 zh.out HN.out EW.out).mono ?_
 rintro e w1 ⟨rfl,hb1⟩
 have HB1:=hid (aj HB.out hb1 HB.out.size)
 have I4:=hid (HX0.out.stays hb1)
 have gB:=hid (nR.out.stays hb1)
 have abU:=hid (oJ.out.stays hb1)
 clear hb1 HX0 nR oJ
 by_cases he:gY R p []=0
 rotate_left
 ·have Ik:=hid he
  have he':(gY R p [] != 0)=true:=by simpa using he
  clear he
  go_wp2_with (refine aK (vs:=[.int .i64 0,.int .i64 0,.int .i64 0]) (by rfl) 68 (.tmp 6) (.tmp 20) (by rfl) (w.heap.size+1+1) (by rfl) (by rfl) abU.out rfl (by kernel_rfl) (by rfl) ?_)
  exact bodyPost_ret (Dn rfl (by rfl) (by rfl) (by rfl) (by rfl) (abU.out.store rfl) Tryz.underlying68 (by rfl) (by kernel_rfl)) rfl (.inl ⟨Ik.out,rfl,below_setCells HB1.out (by omega) 0 _⟩)
 have Ik:=hid he
 have HK:=hid (Ig (OJ he).1)
 rw [he]
 clear he
 go_upto_region 4 with (fail)
 refine wp_region_lit ?_
 refine aB (by rfl) 61 (.tmp 3) (by rfl) (w.heap.size) (by rfl) I4.out Tryz.underlying61 (by rfl) (by kernel_rfl) ?_
 refine aB (by rfl) 158 (.tmp 4) (by rfl) (w.heap.size+1) (by rfl) gB.out Tryz.underlying158 (by rfl) (by kernel_rfl) ?_
 go_wp2_with fail
 refine (Y2 R vp vs ve p vc v0 v1 x c hc w1 (HR.out.below HB1.out (Nat.le_refl _)) (HP.out.below HB1.out (Nat.le_refl _)) HK.out).mono ?_
 rintro e w2 ⟨v2,rfl,ho2,hb2⟩
 obtain ⟨a2,c2,rfl⟩:=aH ho2
 have hs1:=hb2.size
 have aiD:=hid ((abU.out.stays hb2).alloc (.cells #[.int .i64 (bn R p []).src,.int .i64 (bn R p []).dst,.int .i64 (bn R p []).piece] 68))
 have HZ1:=hid abU.out.lt
 have HB2:=hid ((aj HB1.out hb2 HB1.out.size).alloc (aj HB1.out hb2 HB1.out.size).size (.cells #[.int .i64 (bn R p []).src,.int .i64 (bn R p []).dst,.int .i64 (bn R p []).piece] 68))
 have ET:=hid (ho2.alloc (.cells #[.int .i64 (bn R p []).src,.int .i64 (bn R p []).dst,.int .i64 (bn R p []).piece] 68))
 have Ub:=hid (Box.new w2 [.int .i64 (bn R p []).src,.int .i64 (bn R p []).dst,.int .i64 (bn R p []).piece] 68)
 clear hb2 ho2
 go_upto_region 5 with (fail)
 generalize (w2.alloc (.cells #[.int .i64 (bn R p []).src,.int .i64 (bn R p []).dst,.int .i64 (bn R p []).piece] 68))=w3 at *
 refine wp_region_lit ?_
 refine aB (by rfl) 68 (.tmp 11) (by rfl) w2.heap.size (by rfl) Ub.out Tryz.underlying68 (by rfl) (by kernel_rfl) ?_
 go_wp2_with (refine aK (vs:=[.int .i64 (bn R p []).src,.int .i64 (bn R p []).dst,.int .i64 (bn R p []).piece]) (by rfl) 68 (.tmp 6) (.tmp 30) (by rfl) (w.heap.size+1+1) (by rfl) (by rfl) aiD.out rfl (by kernel_rfl) (by rfl) ?_)
 exact bodyPost_ret (Dn rfl (by rfl) (by rfl) (by rfl) (by rfl) (aiD.out.store rfl) Tryz.underlying68 (by rfl) (by kernel_rfl)) rfl (.inr ⟨Ik.out,_,rfl,own_base (aS ET.out HZ1.out 0 _) HB1.out.size,below_setCells HB2.out (by omega) 0 _⟩)
theorem Fj (R:au) (vp vs ve:Value) (p:aV) (vc v0 v1 v:Value) (l:List fK) (w:World) (h0:l=[]) (hr:qo w R vp vs ve) (hn:R.name.size≤maxLen) (hp:tJ w p vc v0 v1) (hl:iQ pW w v l) :
  Calls Tryz.prog 130 #[(.agg #[.string R.name,.int .i64 R.width,.int .i64 R.height,vp,vs,.bool R.falls,.bool R.keeps,ve,.int .i64 R.blocked,.int .i64 R.quiet,.int .i64 R.aZ]),(.agg #[vc,v0,v1,.int .i64 p.turn,.int .i64 p.quiet]),v] w (Dp R p l w):=by
 obtain ⟨x,c,rfl,h1,h2⟩:=hl.form
 subst h0
 exact Y3 R vp vs ve p vc v0 v1 x c h2 w hr hn hp
end Go.Proofs.YteablcielclaeaaGreatDoor

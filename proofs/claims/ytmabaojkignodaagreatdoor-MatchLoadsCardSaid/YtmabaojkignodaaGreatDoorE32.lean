/- MaU, MaV, MaW, LdP. -/
import Derived.Test.YtmabaojkignodaaGreatDoorE31
import Derived.Lib.AtoiAllCases
import Derived.Lib.SplitLaws
namespace Go.Proofs.YtmabaojkignodaaGreatDoor
open Go.ChangeShapes Go.WideShapes Go.ChangeAt Go.RowKit
set_option linter.unusedVariables false
open Go.Lib (hid)
variable {X S:Nat→Prop} {base b:Nat} {M:aG} {B:jv}
theorem BD (now:Int) (h0 : -9223372036854775808≤now) (h1:now≤9223372036854775807):textE (iT now)=0∧(iT now).size≤200:=by
 have hl:=EY now h0 h1
 have hle:(([115,116,97,114,116,32]:List UInt8)++Lib.itoa now).length≤200:=by simp; omega
 refine ⟨Bl _ hle (fun c hc=>?_),?_⟩
 ·rcases List.mem_append.1 hc with h | h
  ·simp only [List.mem_cons,List.not_mem_nil,or_false] at h
   rcases h with rfl | rfl | rfl | rfl | rfl | rfl <;> exact ⟨by decide,by decide⟩
  ·exact SC now c h
 ·show (([115,116,97,114,116,32]:List UInt8)++Lib.itoa now).toArray.size≤200
  rw [List.size_toArray]; exact hle
def Fa (R:aC) (CR:nJ):Prop:=¬ (aW R=0∧clk.cu CR.ps.length CR.inc CR.delay CR.ps)
def aaf (X:Nat→Prop) (R:aC) (CR:nJ) (now:Int) (w:World) (e:Ending) (w':World):Prop:=
 (∃ c:Int,(c≠0∧Fa R CR)∧e=.returned (.tuple #[.pointer none,.int .i64 c])∧Below w.heap.size w w') ∨
 (aW R=0∧xU CR∧∃ base S b B,e=.returned (.tuple #[.pointer (some ⟨b,0,none⟩),.int .i64 0])∧aH X S base w' b (dh R CR now) B∧w.heap.size≤base∧base≤w'.heap.size∧Below w.heap.size w w')
theorem sQ {w w':World} {bb n sz:Nat} {e:TypeId} {v:Value} {xs:List Value} (h:w.ownsRow bb e sz v n xs) (hb:∀ k,v.ownBlock=some k→w'.heap[k]?=w.heap[k]?):w'.ownsRow bb e sz v n xs:=by
 refine ⟨h.1,?_⟩
 rcases h.2 with h0 | ⟨g,c,cur,hv,hg,hbk,r⟩
 ·exact .inl h0
 ·exact .inr ⟨g,c,cur,hv,hg,by rw [hb g (by rw [hv]; rfl)]; exact hbk,r⟩
set_option maxRecDepth 100000 in
set_option maxHeartbeats 8000000 in
theorem aag (X:Nat→Prop) (HSo:SortMvSaid) (HI:ItoaSaid) (R:aC) (CR:nJ) (vp vs ve:Value) (pa:Option Addr) (pc:Nat) (now:Int) (w:World) (hr:ru w R vp vs ve) (hnm:R.name.size≤maxLen) (hp:clk.dV w w.heap.size pa CR.ps.length CR.ps) (h1:CR.ps.length≤pc) (h2:pc≤maxLen) (h0:0≤now) (hn8:now≤100000000) (ht:Tab w.heap.size w) (hX:∀ k,X k→k<w.heap.size) :
  Calls Tryz.prog 13 #[.agg #[.string R.name,.int .i64 R.width,.int .i64 R.height,vp,vs,.bool R.falls,.bool R.keeps,ve,.int .i64 R.blocked,.int .i64 R.quiet,.int .i64 R.bF],.agg #[.slice pa CR.ps.length pc,.int .i64 CR.inc,.int .i64 CR.delay],.int .i64 now] w (aaf X R CR now w):=by
 have HS:=hid HSo
 have HIt:=hid HI
 have HR:=hid hr
 have OG:=hid hnm
 have HP:=hid hp
 have iH:=hid (And.intro h1 h2)
 have nT:=hid ht
 have HXo:=hid hX
 clear HSo HI hr hnm hp h1 h2 ht hX
 go_enter Tryz.func13,Tryz.ntmps13
 go_upto_region 1 with (fail)
 refine sV fun w0 jU DJ dM hs_=>?_
 have HX0:=hid jU
 have dn:=hid DJ
 have HB:=hid dM
 have HW0:Hid (w0.heap.size=w.heap.size+2):=hid (by omega)
 clear hs_ jU DJ dM
 have HN:=hid (gx.VA R vp vs ve w0 (HR.out.below HB.out (Nat.le_refl _)) OG.out)
 refine wp_region_lit ?_
 refine aB (by rfl) 46 (.tmp 3) (by rfl) (w.heap.size) (by rfl) HX0.out Tryz.underlying46 (by rfl) (by kernel_rfl) ?_
 go_wp2_with fail
 refine HN.out.mono ?_
 rintro e w1 (⟨hre,rfl,hb1⟩ | ⟨hre,S,g,gp,gs,ge,vl,vm,rows,rfl,Xx,hb1⟩)
 ·have HB1:=hid (HB.out.trans (hb1.mono HB.out.size))
  have HE:=hid hre
  have UA:Hid (Fa R CR):=hid (fun hc=>hre hc.1)
  have akr:(aW R != 0)=true:=by simpa using hre
  generalize aW R=er at *
  clear hre hb1
  go_wp2_with fail
  go_ret2
  exact .inl ⟨er,⟨HE.out,UA.out⟩,rfl,HB1.out⟩
 have HB1:=hid (HB.out.trans (hb1.mono HB.out.size))
 have oC:=hid (HX0.out.stays hb1)
 have dZ:=hid (dn.out.stays hb1)
 have NR:=hid Xx
 have Ui:=hid hre
 have MF:=hid (Oe CR pa pc now w1 (HP.out.below HB1.out) (by have:=iH.out; omega) h0 hn8)
 clear hb1 Xx hre HN
 go_upto_region 4 with (fail)
 refine wp_region_lit ?_
 refine aB (by rfl) 49 (.tmp 4) (by rfl) (w.heap.size+1) (by rfl) dZ.out Tryz.underlying49 (by rfl) (by kernel_rfl) ?_
 try simp only [Act.put,qw,qx,qy]
 refine wpList_plain (by rfl) (fun K hK=>?_)
 go_simp
 refine hK _ _ ?_
 clear hK K
 try simp only [Act.put,qw,qx,qy]
 refine wpList_plain (by rfl) (fun K hK=>?_)
 go_simp
 refine MF.out.mono ?_
 rintro e w2 (⟨c,⟨hcz,hnr⟩,rfl,hb2⟩ | ⟨hcg,rfl,hb2⟩)
 ·have HB2:=hid (HB1.out.trans (hb2.mono HB1.out.size))
  have HE:=hid hcz
  have UA:Hid (Fa R CR):=hid (fun hc=>hnr hc.2)
  clear hnr
  have hcb:(c != 0)=true:=by simpa using hcz
  clear hcz hb2
  refine hK _ _ ?_
  clear hK K
  try simp only [Act.put,qw,qx,qy]
  refine wpList_plain (by rfl) (fun K hK=>?_)
  go_simp
  refine hK _ _ ?_
  clear hK K
  try simp only [Act.put,qw,qx,qy]
  refine wpList_plain (by rfl) (fun K hK=>?_)
  go_simp
  refine hK _ _ ?_
  clear hK K
  try simp only [Act.put,qw,qx,qy]
  refine wpList_plain (by rfl) (fun K hK=>?_)
  go_simp
  refine hK _ _ ?_
  clear hK K
  try simp only [Act.put,qw,qx,qy]
  refine wpList_plain (by rfl) (fun K hK=>?_)
  go_simp
  refine hK _ _ ?_
  clear hK K
  try simp only [Act.put,qw,qx,qy]
  refine pW ?_
  intro w3 e3
  have CS:Hid (Box w3 w2.heap.size [.int .i64 0,.int .i64 0,.int .i64 0,.int .i64 0,.int .i64 0,.int .i64 0,.int .i64 0,.int .i64 0,.bool false,.int .i64 0] 67):=hid (by rw [e3]; exact Box.new' _ _ _ _ rfl)
  have HB3:Hid (Below w.heap.size w w3):=hid (by rw [e3]; exact HB2.out.alloc HB2.out.size _)
  clear e3
  refine aT (vs:=[.int .i64 0,.int .i64 0,.int .i64 0,.int .i64 0,.int .i64 0,.int .i64 0,.int .i64 0,.int .i64 0,.bool false,.int .i64 0]) (by rfl) 67 (.tmp 10) (.tmp 24) (by rfl) w2.heap.size (by rfl) (by rfl) CS.out (by rfl) (by kernel_rfl) (by rfl) ?_
  have HB4:=hid (below_setCells HB3.out HB2.out.size 0 [.int .i64 0,.int .i64 0,.int .i64 0,.int .i64 0,.int .i64 0,.int .i64 0,.int .i64 0,.int .i64 0,.bool false,.int .i64 0])
  generalize w3.setCells w2.heap.size 0 [.int .i64 0,.int .i64 0,.int .i64 0,.int .i64 0,.int .i64 0,.int .i64 0,.int .i64 0,.int .i64 0,.bool false,.int .i64 0]=w4 at *
  go_wp2_with fail
  go_ret2
  exact .inl ⟨c,⟨HE.out,UA.out⟩,rfl,HB4.out⟩
 have HB2:=hid (HB1.out.trans (hb2.mono HB1.out.size))
 have Y3:=hid hcg
 have Ol:=hid (oC.out.stays hb2)
 have Om:=hid (dZ.out.stays hb2)
 have Hb2:=hid hb2
 clear hcg hb2 MF
 refine hK _ _ ?_
 clear hK K
 unfold Bc
 try simp only [Act.put,qw,qx,qy]
 refine wpList_plain (by rfl) (fun K hK=>?_)
 go_simp
 refine hK _ _ ?_
 clear hK K
 try simp only [Act.put,qw,qx,qy]
 refine wpList_plain (by rfl) (fun K hK=>?_)
 go_simp
 refine hK _ _ ?_
 clear hK K
 try simp only [Act.put,qw,qx,qy]
 refine wpList_plain (by rfl) (fun K hK=>?_)
 go_simp
 refine hK _ _ ?_
 clear hK K
 try simp only [Act.put,qw,qx,qy]
 refine wpList_plain (by rfl) (fun K hK=>?_)
 go_simp
 refine hK _ _ ?_
 clear hK K
 try simp only [Act.put,qw,qx,qy]
 refine pW ?_
 intro w3 e3
 have CS:Hid (Box w3 w2.heap.size [.int .i64 0,.int .i64 0,.int .i64 0,.int .i64 0,.int .i64 0,.int .i64 0,.int .i64 0,.int .i64 0,.bool false,.int .i64 0] 67):=hid (by rw [e3]; exact Box.new' _ _ _ _ rfl)
 have aft:Hid (Below w2.heap.size w2 w3):=hid (by rw [e3]; exact (Below.refl _ _).alloc (Nat.le_refl _) _)
 have Hb3:Hid (Below w1.heap.size w1 w3):=hid (by rw [e3]; exact Hb2.out.alloc Hb2.out.size _)
 clear e3
 refine aT (vs:=[.int .i64 (aP CR now).l0,.int .i64 (aP CR now).l1,.int .i64 (aP CR now).m0,.int .i64 (aP CR now).m1,.int .i64 (aP CR now).p0,.int .i64 (aP CR now).p1,.int .i64 (aP CR now).turn,.int .i64 (aP CR now).since,.bool (aP CR now).st,.int .i64 (aP CR now).ak]) (by rfl) 67 (.tmp 10) (.tmp 24) (by rfl) w2.heap.size (by rfl) (by rfl) CS.out (by rfl) (by kernel_rfl) (by rfl) ?_
 have HXc:=hid (CS.out.store (vs:=[.int .i64 (aP CR now).l0,.int .i64 (aP CR now).l1,.int .i64 (aP CR now).m0,.int .i64 (aP CR now).m1,.int .i64 (aP CR now).p0,.int .i64 (aP CR now).p1,.int .i64 (aP CR now).turn,.int .i64 (aP CR now).since,.bool (aP CR now).st,.int .i64 (aP CR now).ak]) rfl)
 have Hb4:=hid (below_setCells Hb3.out Hb2.out.size 0 [.int .i64 (aP CR now).l0,.int .i64 (aP CR now).l1,.int .i64 (aP CR now).m0,.int .i64 (aP CR now).m1,.int .i64 (aP CR now).p0,.int .i64 (aP CR now).p1,.int .i64 (aP CR now).turn,.int .i64 (aP CR now).since,.bool (aP CR now).st,.int .i64 (aP CR now).ak])
 have abZ:Hid (Below w2.heap.size w2 (w3.setCells w2.heap.size 0 [.int .i64 (aP CR now).l0,.int .i64 (aP CR now).l1,.int .i64 (aP CR now).m0,.int .i64 (aP CR now).m1,.int .i64 (aP CR now).p0,.int .i64 (aP CR now).p1,.int .i64 (aP CR now).turn,.int .i64 (aP CR now).since,.bool (aP CR now).st,.int .i64 (aP CR now).ak])):=hid (below_setCells aft.out (Nat.le_refl _) 0 [.int .i64 (aP CR now).l0,.int .i64 (aP CR now).l1,.int .i64 (aP CR now).m0,.int .i64 (aP CR now).m1,.int .i64 (aP CR now).p0,.int .i64 (aP CR now).p1,.int .i64 (aP CR now).turn,.int .i64 (aP CR now).since,.bool (aP CR now).st,.int .i64 (aP CR now).ak])
 generalize w3.setCells w2.heap.size 0 [.int .i64 (aP CR now).l0,.int .i64 (aP CR now).l1,.int .i64 (aP CR now).m0,.int .i64 (aP CR now).m1,.int .i64 (aP CR now).p0,.int .i64 (aP CR now).p1,.int .i64 (aP CR now).turn,.int .i64 (aP CR now).since,.bool (aP CR now).st,.int .i64 (aP CR now).ak]=w4 at *
 have afu:=hid (Ol.out.stays abZ.out)
 have afv:=hid (Om.out.stays abZ.out)
 go_upto_region 7 with (fail)
 have HB4:=hid (HB1.out.trans (Hb4.out.mono HB1.out.size))
 have hrk:=Eb Ui.out
 have hl1:R.pieces.length≤1000:=by have:=hrk.np; omega
 have hl2:R.start.length≤1000:=by have:=zW Ui.out; omega
 have hl3:R.ends.length≤1000:=by have:=hrk.en; omega
 have HWL:Hid (∀ i,i<R.pieces.length→(R.pieces.getD i default).ways.length≤1000):=hid (fun i hi=>by have:=(hrk.pc i hi).2.2.1; omega)
 have Bz:Box w4.drew w.heap.size [.string R.name,.int .i64 R.width,.int .i64 R.height,vp,vs,.bool R.falls,.bool R.keeps,ve,.int .i64 R.blocked,.int .i64 R.quiet,.int .i64 R.bF] 46:=afu.out.drew
 have Cz:Box w4.drew (w.heap.size+1) [.slice pa CR.ps.length pc,.int .i64 CR.inc,.int .i64 CR.delay] 49:=afv.out.drew
 have Lz:Below w4.drew.heap.size w4.drew w4.drew:=Below.refl _ _
 refine wp_region_noPanic ?_
 refine bG (S:=(fun w'=>w'.cell? ⟨w.heap.size,0,none⟩=some (.string R.name)∧w'.cell? ⟨w.heap.size,1,none⟩=some (.int .i64 R.width)∧w'.cell? ⟨w.heap.size,2,none⟩=some (.int .i64 R.height)∧w'.cell? ⟨w.heap.size,3,none⟩=some vp∧w'.cell? ⟨w.heap.size,4,none⟩=some vs∧w'.cell? ⟨w.heap.size,5,none⟩=some (.bool R.falls)∧w'.cell? ⟨w.heap.size,6,none⟩=some (.bool R.keeps)∧w'.cell? ⟨w.heap.size,7,none⟩=some ve∧w'.cell? ⟨w.heap.size,8,none⟩=some (.int .i64 R.blocked)∧w'.cell? ⟨w.heap.size,9,none⟩=some (.int .i64 R.quiet)∧w'.cell? ⟨w.heap.size,10,none⟩=some (.int .i64 R.bF)∧w'.cell? ⟨w.heap.size+1,0,none⟩=some (.slice pa CR.ps.length pc)∧w'.cell? ⟨w.heap.size+1,1,none⟩=some (.int .i64 CR.inc)∧w'.cell? ⟨w.heap.size+1,2,none⟩=some (.int .i64 CR.delay))) (L:=[]) (by kernel_rfl) (by and_intros <;> first | exact Bz.cell _ rfl | exact Cz.cell _ rfl) (fun hHeld=>?_)
 refine dL 0 ?_
 refine dL 2 ?_
 refine aF 4 ?_
 refine aF 5 ?_
 refine dO 1 fun K hK=>?_
 go_simp
 refine (xP R vp vs ve w4.drew (HR.out.below HB4.out.drew (Nat.le_refl _)) hl1 hl2 hl3 HWL.out).mono ?_
 rintro e wa ⟨up,us,ue,rfl,Xy,hbb⟩
 have ab1:=hid Xy
 have Hba:=hid hbb
 have B1:=Bz.stays hbb
 have C1:=Cz.stays hbb
 have L1:=aj Lz hbb Lz.size
 clear hbb Xy
 refine hK.out _ _ (by and_intros <;> first | exact B1.cell _ rfl | exact C1.cell _ rfl) (fun hHeld=>?_)
 clear hK K
 refine dO 3 fun K hK=>?_
 go_simp
 refine (Oj CR pa pc wa (HP.out.below (HB4.out.drew.trans (Hba.out.mono HB4.out.drew.size))) iH.out.1 iH.out.2 (by have:=Y3.out.n; omega)).mono ?_
 rintro e wb ⟨pa',pc',vs',rfl,hown,hrd,hbb⟩
 have UL:=hid hown
 have HRl:=hid hrd
 have Wq:=hid hbb
 have ab2:CR.ps.length≤pc'∧pc'≤maxLen:=by obtain ⟨a9,c9,e9,q1,q2⟩:=hrd.form; simp only [Value.slice.injEq,true_and] at e9; omega
 have afw:=hid ab2
 have B3:=B1.stays hbb
 have C3:=C1.stays hbb
 have L3:=aj L1 hbb L1.size
 clear hbb hown hrd ab2
 refine hK.out _ _ (by and_intros <;> first | exact B3.cell _ rfl | exact C3.cell _ rfl) (fun hHeld=>?_)
 clear hK K
 refine aF 6 ?_
 refine dO 7 fun K hK=>?_
 go_simp
 refine aK ?_
 intro wc ec
 have hbb:Below wb.heap.size wb wc:=by rw [ec]; exact (Below.refl _ _).alloc (Nat.le_refl _) _
 have HXm:=hid (show Box wc wb.heap.size _ 119 by rw [ec]; exact Box.new' _ _ _ _ rfl)
 have Hbc:=hid hbb
 have B7:=B3.stays hbb
 have C7:=C3.stays hbb
 have L7:=aj L3 hbb L3.size
 clear hbb ec
 refine hK.out _ _ (by and_intros <;> first | exact B7.cell _ rfl | exact C7.cell _ rfl) (fun hHeld=>?_)
 clear hK K
 refine aF 8 ?_
 refine iE ?_
 go_upto_region 8 with (fail)
 have hs1:=Hb4.out.size
 have hs2:w4.heap.size≤wa.heap.size:=Hba.out.size
 have hs3:=Wq.out.size
 have hs4:=Hbc.out.size
 have hbm:=HXm.out.lt
 have H1c:Hid (Below w1.heap.size w1 wc):=hid ((Hb4.out.drew.trans (Hba.out.mono hs1)).trans ((Wq.out.mono (by omega)).trans (Hbc.out.mono (by omega))))
 have SI:∀ k,S k→k<w1.heap.size:=fun k hk=>((NR.out (fun _=>False) (fun _ h=>h.elim)).lo k hk).2
 have ab3:∀ k,S k→w0.heap.size≤k:=fun k hk=>((NR.out (fun _=>False) (fun _ h=>h.elim)).lo k hk).1
 have HMa:Hid (aH X S w0.heap.size wc wb.heap.size ⟨R,CR,[],0,0,⟨0,0,0,0,0,0,0,0,false,0⟩,⟨0,0,0,0,0,0⟩,[],now,[]⟩ ⟨up,us,ue,pa',pc',g,.slice none 0 0,.slice none 0 0⟩):=hid ⟨HXm.out,fun hk=>by have:=SI _ hk; omega,by have:=HB1.out.size; have:=HW0.out; have:=(NR.out (fun _=>False) (fun _ h=>h.elim)); have:=ab3 _ this.sb; have:=SI _ (NR.out (fun _=>False) (fun _ h=>h.elim)).sb; omega,
  ⟨_,_,_,_,_,_,(NR.out (out1 X wb.heap.size) (fun k hk=>by rcases hk with hk | hk; (right; rw [hk]; omega); (left; have:=HXo.out k hk; have:=HW0.out; omega))).below H1c.out⟩,fun w' hw=>by
   have Qz:∀ k,w4.heap.size≤k→k<wb.heap.size→w'.heap[k]?=wb.heap[k]?:=fun k hk1 hk2=>by
    rw [hw.block k (by omega) (fun h=>by rcases h with h | h; exact absurd (SI k h) (by omega); (rcases h with h | h; exact absurd h (by omega); have:=HXo.out k h; have:=HW0.out; have:=HB1.out.size; omega)),Hbc.out.block k hk2]
   refine ⟨ab1.out w' (fun k hk1 hk2=>?_),⟨rfl,fun hn=>?_⟩,afw.out,gI.nil _ _,Rd.nil _ _⟩
   ·rw [Qz k hk1 (by omega),Wq.out.block k hk2]
   ·obtain ⟨b',off,hA,hlt,hc⟩:=(LQ HRl.out).2 hn
    subst hA
    have hbl:=UL.out.lt b' rfl
    have he:=Qz b' (by omega) hbl.2
    refine ⟨b',off,rfl,by have:=hw.size; omega,fun k hk=>?_⟩
    rw [World.cell?_of_block (w:=wb) (a:=⟨b',off+k * 2,none⟩) he,World.cell?_of_block (w:=wb) (a:=⟨b',off+k * 2+1,none⟩) he]
    exact hc k hk,fun k hk=>⟨fun h=>by have:=ab3 k h; have:=HXo.out k hk; have:=HW0.out; omega,by have:=HXo.out k hk; have:=HB1.out.size; omega⟩⟩
 have H4c:Hid (Below w4.heap.size w4 wc):=hid (((Below.refl w4.heap.size w4).drew.trans (Hba.out.mono (Nat.le_refl _))).trans ((Wq.out.mono (by omega)).trans (Hbc.out.mono (by omega))))
 have Kz:Box wc.drew w2.heap.size [.int .i64 (aP CR now).l0,.int .i64 (aP CR now).l1,.int .i64 (aP CR now).m0,.int .i64 (aP CR now).m1,.int .i64 (aP CR now).p0,.int .i64 (aP CR now).p1,.int .i64 (aP CR now).turn,.int .i64 (aP CR now).since,.bool (aP CR now).st,.int .i64 (aP CR now).ak] 67:=(HXc.out.stays H4c.out).drew
 have Mz:=HMa.out.below ((Below.refl wc.heap.size wc).drew)
 refine wp_region_noPanic ?_
 refine bG (S:=(fun w'=>w'.cell? ⟨w2.heap.size,0,none⟩=some (.int .i64 (aP CR now).l0)∧w'.cell? ⟨w2.heap.size,1,none⟩=some (.int .i64 (aP CR now).l1)∧w'.cell? ⟨w2.heap.size,2,none⟩=some (.int .i64 (aP CR now).m0)∧w'.cell? ⟨w2.heap.size,3,none⟩=some (.int .i64 (aP CR now).m1)∧w'.cell? ⟨w2.heap.size,4,none⟩=some (.int .i64 (aP CR now).p0)∧w'.cell? ⟨w2.heap.size,5,none⟩=some (.int .i64 (aP CR now).p1)∧w'.cell? ⟨w2.heap.size,6,none⟩=some (.int .i64 (aP CR now).turn)∧w'.cell? ⟨w2.heap.size,7,none⟩=some (.int .i64 (aP CR now).since)∧w'.cell? ⟨w2.heap.size,8,none⟩=some (.bool (aP CR now).st)∧w'.cell? ⟨w2.heap.size,9,none⟩=some (.int .i64 (aP CR now).ak))) (L:=[6]) (by kernel_rfl) (by and_intros <;> exact Kz.cell _ rfl) (fun hHeld=>?_)
 refine aF 0 ?_
 refine dL 1 ?_
 refine dO 2 fun K hK=>?_
 go_simp
 refine (KC wc.drew).mono ?_
 rintro e wd ⟨rfl,hbb⟩
 unfold EO
 have K2:=Kz.stays hbb
 have M2:=Mz.below hbb
 have Hcd:=hid (show Below wc.heap.size wc wd from ((Below.refl wc.heap.size wc).drew).trans hbb)
 clear hbb
 refine hK.out _ _ (by and_intros <;> exact K2.cell _ rfl) (fun hHeld=>?_)
 clear hK K
 refine aF 3 ?_
 refine aF 4 ?_
 refine aF 5 ?_
 refine xE 6 fun K hK=>?_
 rw [if_pos (by rfl)]
 refine wp_store_mid 73 (.tmp 42) (.tmp 40) (by rfl) wb.heap.size 15 #[.slice none 0 0,.int .i64 0,.int .i64 0,.int .i64 (aP CR now).l0,.int .i64 (aP CR now).l1,.int .i64 (aP CR now).m0,.int .i64 (aP CR now).m1,.int .i64 (aP CR now).p0,.int .i64 (aP CR now).p1,.int .i64 (aP CR now).turn,.int .i64 (aP CR now).since,.bool (aP CR now).st,.int .i64 (aP CR now).ak,.int .i64 pO.b0,.int .i64 pO.b1,.int .i64 pO.aY,.int .i64 pO.aZ,.int .i64 pO.l10,.int .i64 pO.aX,.slice none 0 0] (by rfl) (by rfl) (M2.box.has 15 20 (by simp [J6])) (by kernel_rfl) (by simp [Value.oneCell']) ?_
 refine aK ?_
 intro we ee
 have P6:=M2.put (M':=⟨R,CR,[],0,0,aP CR now,pO,[],now,[]⟩) (B':=⟨up,us,ue,pa',pc',g,.slice none 0 0,.slice none 0 0⟩) 15 [.slice none 0 0,.int .i64 0,.int .i64 0,.int .i64 (aP CR now).l0,.int .i64 (aP CR now).l1,.int .i64 (aP CR now).m0,.int .i64 (aP CR now).m1,.int .i64 (aP CR now).p0,.int .i64 (aP CR now).p1,.int .i64 (aP CR now).turn,.int .i64 (aP CR now).since,.bool (aP CR now).st,.int .i64 (aP CR now).ak,.int .i64 pO.b0,.int .i64 pO.b1,.int .i64 pO.aY,.int .i64 pO.aZ,.int .i64 pO.l10,.int .i64 pO.aX,.slice none 0 0] (by simp) rfl rfl rfl rfl (M2.rd.imp (fun _ h=>⟨h.rd,h.per,h.pc,h.pr,h.jr⟩))
 have HMe:Hid (aH X S w0.heap.size we wb.heap.size ⟨R,CR,[],0,0,aP CR now,pO,[],now,[]⟩ ⟨up,us,ue,pa',pc',g,.slice none 0 0,.slice none 0 0⟩):=hid (by rw [ee]; exact P6.1)
 have HFe:Hid (dD S wb.heap.size wd we):=hid (by rw [ee]; exact P6.2)
 clear P6 ee
 refine hK.out _ _ ?_
 clear hK K
 refine iE ?_
 go_upto_region 9 with (fail)
 have HBe:Hid (Below w.heap.size w we):=hid (by
  have q1:Below w.heap.size w wd:=(HB4.out.trans (H4c.out.mono HB4.out.size)).trans (Hcd.out.mono (by have:=H4c.out.size; have:=HB4.out.size; omega))
  have q2:=dD.base M2 HFe.out (by have:=HW0.out; have:=H1c.out.size; have:=Hcd.out.size; have:=SI _ (NR.out (fun _=>False) (fun _ h=>h.elim)).sb; have:=ab3 _ (NR.out (fun _=>False) (fun _ h=>h.elim)).sb; omega)
  exact q1.trans (q2.mono (by have:=HW0.out; omega)))
 have HTe:=hid (nT.out.below HBe.out)
 have akv:=HMe
 clear Mz Kz K2 M2 HMa
 go_wp2_with fail
 refine (HIt.out now we (by omega) (by omega) HTe.out.1).mono ?_
 rintro e wf ⟨rfl,hbf⟩
 obtain ⟨it,hit⟩:∃ it:ByteArray,it=⟨(Lib.itoa now).toArray⟩:=⟨_,rfl⟩
 have ahH:it.size≤20:=by rw [hit]; show (Lib.itoa now).toArray.size≤20; rw [List.size_toArray]; exact EY now (by omega) (by omega)
 have akw:(⟨#[115,116,97,114,116,32]⟩:ByteArray).size=6:=rfl
 have afB:Hid ((⟨#[115,116,97,114,116,32]⟩:ByteArray)++it=iT now):=hid (by rw [hit]; unfold iT; apply ByteArray.ext; rw [ByteArray.data_append]; simp)
 rw [← hit]
 clear hit
 go_wp2_with fail
 rw [afB.out]
 have HTx:=hid (BD now (by omega) (by omega))
 have hJ:appJ [] (iT now)=([jS [] (iT now)],0):=by unfold appJ; rw [if_neg (by rw [HTx.out.1]; simp)]; rfl
 have hap:=sJ (.slice none 0 0) [] (iT now) wf (Rd.nil _ _) ⟨by simp,fun k h=>by cases h⟩ (by simp) (by have:=HTx.out.2; omega)
 rw [hJ] at hap
 refine hap.mono ?_
 rintro e wg ⟨vj,rfl,hoj,hbg⟩
 obtain ⟨ja,jc,hvj⟩:=aI hoj
 subst hvj
 have Y7:Below we.heap.size we wg:=hbf.trans (hbg.mono hbf.size)
 have Mg:=HMe.out.below Y7
 have hjb:∀ k,(Value.slice ja 1 jc).ownBlock=some k→wf.heap.size≤k∧k<wg.heap.size:=fun k hk=>hoj.lt k hk
 have hsb:wb.heap.size<wf.heap.size:=by have:=HMe.out.box.lt; have:=hbf.size; omega
 have P9:=Mg.put (M':=⟨R,CR,[],0,0,aP CR now,pO,[],now,[jS [] (iT now)]⟩) (B':=⟨up,us,ue,pa',pc',g,.slice none 0 0,.slice ja 1 jc⟩) 36 [.slice ja 1 jc] (by simp) rfl rfl rfl rfl (fun w' hw=>by
  have ho:=Mg.rd w' hw
  exact ⟨ho.rd,ho.per,ho.pc,ho.pr,Rd.fD (sQ hoj (fun k hk=>hw.block k (hjb k hk).2 (fun h=>by
   have:=(hjb k hk).1
   rcases h with h | h
   ·have:=SI k h; have:=H1c.out.size; have:=Hcd.out.size; have:=HFe.out.size; have:=hbf.size; omega
   ·rcases h with h | h
    ·rw [h] at this; omega
    ·have:=HXo.out k h; have:=HB1.out.size; have:=Hcd.out.size; have:=H1c.out.size; have:=HFe.out.size; have:=hbf.size; omega)))⟩)
 have lG:Hid (aH X S w0.heap.size (wg.setCell ⟨wb.heap.size,36,none⟩ (.slice ja 1 jc)) wb.heap.size ⟨R,CR,[],0,0,aP CR now,pO,[],now,[jS [] (iT now)]⟩ ⟨up,us,ue,pa',pc',g,.slice none 0 0,.slice ja 1 jc⟩):=hid P9.1
 have c36:=Mg.box.cell 36 rfl
 have f36:=Mg.box.frozen 36
 have bI:Hid (Below w.heap.size w (wg.setCell ⟨wb.heap.size,36,none⟩ (.slice ja 1 jc))):=hid ((HBe.out.trans (Y7.mono HBe.out.size)).setCell (by have:=lG.out.lo; have:=HW0.out; show w.heap.size≤wb.heap.size; omega) _)
 clear P9 Mg hoj hbg hbf Y7 hap hJ
 go_upto_region 10 with (fail)
 generalize wg.setCell ⟨wb.heap.size,36,none⟩ (.slice ja 1 jc)=w9 at *
 have hs9:w0.heap.size≤w9.heap.size:=by have:=lG.out.box.lt; have:=lG.out.lo; omega
 go_wp2_with fail
 refine (wO HS.out w9 lG.out).mono ?_
 rintro e wh ⟨rfl,S',B',hMh,hsh,hFh⟩
 have HMh:=hid hMh
 have HBh:Hid (Below w.heap.size w wh):=hid (bI.out.trans ((dD.base lG.out hFh hs9).mono (by have:=HW0.out; omega)))
 have lY:=hid (Nat.le_trans hs9 hFh.size)
 clear hMh hsh hFh
 go_wp2_with fail
 go_ret2
 exact .inr ⟨Ui.out,Y3.out,_,S',_,B',rfl,HMh.out,by have:=HW0.out; omega,lY.out,HBh.out⟩
def SH (R:aC) (CR:nJ) (now:Int) (w:World) (e:Ending) (w':World):Prop:=aaf Ut R CR now w e w'
theorem BF (HSo:SortMvSaid) (HI:ItoaSaid) (R:aC) (CR:nJ) (vp vs ve:Value) (pa:Option Addr) (pc:Nat) (now:Int) (w:World) (hr:ru w R vp vs ve) (hnm:R.name.size≤maxLen) (hp:clk.dV w w.heap.size pa CR.ps.length CR.ps) (h1:CR.ps.length≤pc) (h2:pc≤maxLen) (h0:0≤now) (hn8:now≤100000000) (ht:Tab w.heap.size w) :
  Calls Tryz.prog 13 #[.agg #[.string R.name,.int .i64 R.width,.int .i64 R.height,vp,vs,.bool R.falls,.bool R.keeps,ve,.int .i64 R.blocked,.int .i64 R.quiet,.int .i64 R.bF],.agg #[.slice pa CR.ps.length pc,.int .i64 CR.inc,.int .i64 CR.delay],.int .i64 now] w (SH R CR now w):=
 aag Ut HSo HI R CR vp vs ve pa pc now w hr hnm hp h1 h2 h0 hn8 ht (fun _ h=>h.elim)
end Go.Proofs.YtmabaojkignodaaGreatDoor
namespace Go.Proofs.YtmabaojkignodaaGreatDoor
open Go.ChangeShapes Go.WideShapes Go.ChangeAt Go.RowKit
set_option linter.unusedVariables false
def ab5:iY:=⟨0,0,0,10,⟨-1,4,0⟩⟩
theorem abB:ab5.m∈iF fJ (aU fJ):=vW.2 (by decide +kernel)
theorem SK (p:bg) (m:aN) (h1:¬ 0≤fP (fun x=>jE fJ p x (1 - p.turn)) fJ.ends 0) (h2:¬ (fJ.quiet≠0∧fJ.quiet≤p.quiet)) (hm:m∈uy fJ p):dJ fJ p=0:=by
 unfold dJ
 rw [if_neg h1,if_neg h2,if_pos (List.length_pos_of_mem (vW.2 hm))]
theorem Ws:dJ fJ (bn fJ [])=0:=SK _ ab5.m (by decide +kernel) (by decide +kernel) (by decide +kernel)
theorem Wu {ms:List aN} (h:dJ fJ (bn fJ ms)=0):fM fJ ms=0:=by
 unfold fM
 rw [if_neg (fun hc=>hc.2.1 rfl),h]
theorem Wv:dh fJ nO 0=⟨fJ,nO,[],0,0,aP nO 0,pO,[],0,[jS [] (iT 0)]⟩:=by
 unfold dh aG.over
 rw [if_neg (fun hc=>hc.1 (Wu Ws))]
theorem abj:(dA nO (aP nO 0) 10).l0=60990:=by decide +kernel
theorem abk:(dh fJ nO 0).nK ab5=0:=by
 rw [Wv]
 unfold aG.nK
 rw [if_neg (by decide +kernel),if_neg (by decide +kernel),if_neg (by decide +kernel),if_neg (by show ¬ (1=1000); decide),if_neg (by decide +kernel)]
theorem aaS:(dh fJ nO 0).kind ab5=(aG.runs 10 400 ((dh fJ nO 0).move ab5.m 10),0):=by
 rw [Wv]
 unfold aG.kind
 rw [if_pos (show ab5.kind=0 from rfl)]
 unfold aG.jO
 rw [if_neg (by decide +kernel),if_neg (by show ¬¬ ab5.m∈iy fJ (bn fJ []); unfold iy; rw [if_pos Ws]; exact fun hc=>hc abB),if_neg (by show ¬ (0=400); decide)]
 rfl
theorem aaT (M:aG) (h:M.aS=[]):(aG.runs 10 400 M).ms=M.ms∧(aG.runs 10 400 M).clk=M.clk∧(aG.runs 10 400 M).R=M.R:=by
 rw [aG.runs]
 split
 ·rw [if_neg (by rw [h]; unfold gB; rw [show rV M.pos [] = -1 from rfl]; simp)]
  exact ⟨rfl,rfl,rfl⟩
 ·exact ⟨rfl,rfl,rfl⟩
theorem Fb (M:aG):M.over.ms=M.ms∧M.over.clk=M.clk:=by
 unfold aG.over
 split
 ·exact ⟨rfl,rfl⟩
 ·exact ⟨rfl,rfl⟩
theorem aad:((dh fJ nO 0).go ab5).2=0∧((dh fJ nO 0).go ab5).1.ms.length=1∧((dh fJ nO 0).go ab5).1.clk.l0=60990:=by
 unfold aG.go
 rw [abk,aaS,if_neg (show ¬ (0:Int)≠0 from fun hc=>hc rfl),if_neg (show ¬ (0:Int)≠0 from fun hc=>hc rfl)]
 have hp:((dh fJ nO 0).move ab5.m 10).aS=[]:=by rw [Wv]; rfl
 have hr:=aaT _ hp
 have hm:((dh fJ nO 0).move ab5.m 10).ms=[ab5.m]:=by rw [Wv]; rfl
 have hc:((dh fJ nO 0).move ab5.m 10).clk=dA nO (aP nO 0) 10:=by rw [Wv]; rfl
 refine ⟨rfl,?_,?_⟩
 ·show (aG.over (aG.put (aG.runs 10 400 ((dh fJ nO 0).move ab5.m 10)) ab5)).ms.length=1
  rw [(Fb _).1]
  show (aG.runs 10 400 ((dh fJ nO 0).move ab5.m 10)).ms.length=1
  rw [hr.1,hm]
  rfl
 ·show (aG.over (aG.put (aG.runs 10 400 ((dh fJ nO 0).move ab5.m 10)) ab5)).clk.l0=60990
  rw [(Fb _).2]
  show (aG.runs 10 400 ((dh fJ nO 0).move ab5.m 10)).clk.l0=60990
  rw [hr.2.1,hc]
  exact abj
theorem SL (M:aG) (e:iY) (h:(M.go e).2≠0):(M.go e).1=M:=by
  revert h; unfold aG.go
  split
  · intro _; rfl
  split
  · intro _; rfl
  · intro h; exact absurd rfl h
theorem sS (M:aG):M.over.jr=M.jr∧M.over.last=M.last∧M.over.R=M.R∧M.over.CR=M.CR∧M.over.off=M.off∧M.over.aS=M.aS:=by
  unfold aG.over
  split <;> exact ⟨rfl,rfl,rfl,rfl,rfl,rfl⟩
theorem LU (M:aG) (h:M.over.res=0):M.over.game=0∧M.res=0:=by
  revert h; unfold aG.over
  split
  · intro h; rename_i hc; exact absurd h hc.1
  · intro h; rename_i hc
    refine ⟨Decidable.byContradiction fun hg=>hc ⟨hg,h⟩,h⟩
theorem abC (M:aG) (e:iY) (h:(M.go e).2=0):(M.go e).1.jr.length=M.jr.length+1:=by
  revert h; unfold aG.go
  split
  · intro h; rename_i hc; exact absurd h hc
  split
  · intro h; rename_i hc; exact absurd h hc
  · intro _
    show (aG.over (aG.put (M.kind e).1 e)).jr.length=_
    rw [(sS _).1]
    show ((M.kind e).1.jr++[_]).length=_
    rw [(jD M e).1,List.length_append]; rfl
theorem MInv.over {M:aG} (nm:M.R.name.size≤maxLen) (cr:xU M.CR) (ck:qV M.CR M.clk) (st:M.clk.st=false) (fl:M.res=0→M.clk.ak<0) (sn:M.clk.since≤M.last) (la:0≤M.last∧M.last≤100000000) (og:kF M.off) (pr:nM M.aS) (jo:OkJ M.jr):MInv M.over:=by
  obtain ⟨j1,j2,j3,j4,j5,j6⟩:=sS M
  have jc:=(Fb M).2
  refine ⟨by rw [j3]; exact nm,by rw [j4]; exact cr,by rw [j4,jc]; exact ck,by rw [jc]; exact st,fun h=>?_,by rw [jc,j2]; exact sn,by rw [j2]; exact la,by rw [j5]; exact og,by rw [j6]; exact pr,by rw [j1]; exact jo,fun h=>(LU M h).1⟩
  rw [jc]; exact fl (LU M h).2
theorem SN {CR:nJ} (h:xU CR) {now:Int} (h0:0≤now) (h1:now≤100000000):qV CR (aP CR now):=by
  have hn:=h.n
  have ht:=h.pt 0 (by omega)
  have hl:0≤(CR.ps.getD 0 (0,0)).2∧(CR.ps.getD 0 (0,0)).2≤100000000000:=by omega
  exact ⟨⟨Int.le_refl _,by show (0:Int)≤1; decide⟩,⟨Int.le_refl _,by show (-1:Int)≤1; decide⟩,⟨h0,h1⟩,⟨Int.le_refl _,by show (0:Int)≤_; omega⟩,⟨Int.le_refl _,by show (0:Int)≤400; decide⟩,hl,⟨Int.le_refl _,by show (0:Int)≤_; omega⟩,⟨Int.le_refl _,by show (0:Int)≤400; decide⟩,hl⟩
theorem BG (R:aC) (CR:nJ) (now:Int) (hn:R.name.size≤maxLen) (h:xU CR) (h0:0≤now) (h1:now≤100000000):MInv (dh R CR now):=by
  unfold dh
  exact MInv.over hn h (SN h h0 h1) rfl (fun _=>by show (-1:Int)<0; decide) (Int.le_refl _) ⟨h0,h1⟩ Yp ⟨Nat.zero_le _,Nat.zero_le _,by simp⟩ (Ir (es:=[]) Wj (BD now (by omega) (by omega)).1)
theorem Mid.runs (now:Int):∀ (f:Nat) (M:aG),Mid M now→Mid (aG.runs now f M) now∧(aG.runs now f M).jr=M.jr∧(aG.runs now f M).res=M.res
  | 0,M,h=>⟨h,rfl,rfl⟩
  | f+1,M,h=>by
    rw [aG.runs]
    split
    · split
      · obtain ⟨a,b,c⟩:=Mid.runs now f _ (h.rest.move (bf M.R M.pos M.aS))
        exact ⟨a,b,c⟩
      · exact ⟨h.rest,rfl,rfl⟩
    · exact ⟨h,rfl,rfl⟩
theorem SQ (R:aC) (ms:List aN):0≤(bn R ms).turn∧(bn R ms).turn≤1:=by
  have key:∀ (l:List aN) (p:bg),(0≤p.turn∧p.turn≤1)→0≤(l.foldl (bY R) p).turn∧(l.foldl (bY R) p).turn≤1:=by
    intro l
    induction l with
    | nil=>intro p h; exact h
    | cons x l ih =>
      intro p h
      refine ih _ ?_
      show 0≤1 - p.turn∧1 - p.turn≤1
      omega
  exact key ms (aU R) ⟨Int.le_refl _,by show (0:Int)≤1; decide⟩
structure KG (M:aG) (now:Int):Prop where
  ck:qV M.CR M.clk
  st:M.clk.st=false
  fl:M.res=0→M.clk.ak<0
  sn:M.clk.since≤now
  og:kF M.off
  pr:nM M.aS
theorem Mid.kg {M:aG} {now:Int} (h:Mid M now):KG M now:=⟨h.ck,h.st,fun _=>h.fl,h.sn,h.og,h.pr⟩
theorem KG.back {M:aG} {now:Int} (h:KG M now) (k:Nat) (h0:0≤now) (h1:now≤100000000) (hr:M.res=0):KG (M.backTo k now) now:=by
  have ht:=SQ M.R (M.ms.take (M.ms.length - k))
  exact ⟨⟨ht,h.ck.f,⟨h0,h1⟩,h.ck.p0,h.ck.m0,h.ck.l0,h.ck.p1,h.ck.m1,h.ck.l1⟩,h.st,fun _=>h.fl hr,Int.le_refl _,Vy (xW h.og) _,⟨Nat.zero_le _,Nat.zero_le _,fun x hx=>by cases hx⟩⟩
theorem Oo (R:aC) (p:bg) (x:Int) (h:x≤1):gZ R p x≠0:=by
  unfold gZ
  split <;> omega
theorem Wx {M:aG} {e:iY} (h:MInv M) (hp:M.nK e=0) (hl:M.ms.length≤400) (hk:(M.kind e).2=0):KG (M.kind e).1 e.now:=by
  obtain ⟨h1,h2,h3,h4,h5,h6⟩:=rX hp
  have hm:=(zM h hp).mid
  have h0:KG M e.now:=⟨h.ck,h.st,h.fl,by have:=h.sn; omega,h.og,h.pr⟩
  have hn0:0≤e.now:=by have:=h.la; omega
  revert hk
  unfold aG.kind
  split
  · rename_i hk0
    unfold aG.jO
    split
    · intro h; dsimp only at h; omega
    split
    · intro h; dsimp only at h; omega
    split
    · intro h; dsimp only at h; omega
    · intro _; exact (Mid.runs e.now 400 _ ((hm hk0).move e.m)).1.kg
  split
  · unfold aG.dW
    split
    · split
      · intro h; rename_i hc; exact absurd h hc
      · intro _; exact ⟨h0.ck,h0.st,h0.fl,h0.sn,JO h0.og _,h0.pr⟩
    · split
      · intro h; rename_i hc; exact absurd h hc
      · intro _; exact ⟨h0.ck,h0.st,h0.fl,h0.sn,Vw h0.og _ _ _ hl,h0.pr⟩
  split
  · unfold aG.gX
    split
    · intro h; rename_i hc; exact absurd h hc
    split
    · intro _; exact ⟨h0.ck,h0.st,fun _=>h0.fl h4,h0.sn,xW h0.og,h0.pr⟩
    · intro _; exact h0.back _ hn0 h3.2 h4
  split
  · unfold aG.dK
    split
    · split
      · intro h; dsimp only at h; omega
      · intro _
        have lg:=JM h0.ck e.now
        refine ⟨lg,?_,fun hr=>absurd hr (Oo _ _ _ lg.f.2),?_,h0.og,h0.pr⟩
        · show (aV M.CR M.clk e.now).st=false; rw [(DC _ _ _).2]; exact h0.st
        · show (aV M.CR M.clk e.now).since≤e.now; rw [(DC _ _ _).1]; exact h0.sn
    split
    · intro h; dsimp only at h; omega
    split
    · intro h; dsimp only at h; omega
    split
    · intro h; dsimp only at h; omega
    · intro _; exact ⟨h0.ck,h0.st,fun _=>h0.fl h4,h0.sn,h0.og,h0.pr⟩
  split
  · unfold aG.eY
    split
    · intro h; dsimp only at h; omega
    split
    · intro h; dsimp only at h; omega
    · rename_i hc; intro _; exact ⟨h0.ck,h0.st,h0.fl,h0.sn,h0.og,h0.pr.add _ _ h2 hc⟩
  · intro _; exact ⟨h0.ck,h0.st,fun _=>h0.fl h4,h0.sn,h0.og,h0.pr⟩
theorem Wy {M:aG} {e:iY} (h:MInv M) (hl:M.ms.length≤400) (hok:wW e):MInv (M.go e).1:=by
  by_cases hz:(M.go e).2=0
  · revert hz
    unfold aG.go
    split
    · intro h; rename_i hc; exact absurd h hc
    split
    · intro h; rename_i hc; exact absurd h hc
    · rename_i hp hk
      intro _
      have hp0:M.nK e=0:=Decidable.byContradiction hp
      have hk0:(M.kind e).2=0:=Decidable.byContradiction hk
      obtain ⟨h1,h2,h3,h4,h5,h6⟩:=rX hp0
      have k:=Wx h hp0 hl hk0
      obtain ⟨q1,q2,q3⟩:=jD M e
      refine MInv.over (M:=(M.kind e).1.put e) ?_ ?_ k.ck k.st k.fl k.sn ⟨by have:=h.la; show 0≤e.now; omega,h3.2⟩ k.og k.pr ?_
      · show (M.kind e).1.R.name.size≤maxLen; rw [q2]; exact h.nm
      · show xU (M.kind e).1.CR; rw [q3]; exact h.cr
      · show OkJ ((M.kind e).1.jr++[jS (M.kind e).1.jr (bV e)])
        rw [q1]
        exact Ir h.jo (lH hok)
  · rw [SL M e hz]; exact h
theorem LV (now:Int):∀ (f:Nat) (M:aG),M.ms.length≤400→(aG.runs now f M).ms.length≤400
  | 0,M,h=>h
  | f+1,M,h=>by
    rw [aG.runs]
    split
    · rename_i hc
      split
      · refine LV now f _ ?_
        show (M.ms++[_]).length≤400
        rw [List.length_append]
        have h1:=hc.2
        show M.ms.length+1≤400
        omega
      · exact h
    · exact h
theorem WA (M:aG) (e:iY) (h:M.ms.length≤400):(M.kind e).1.ms.length≤400:=by
  unfold aG.kind aG.jO aG.dW aG.gX aG.dK aG.eY aG.backTo
  repeat' split
  all_goals first
    | exact h
    | (refine LV _ _ _ ?_
       show (M.ms++[_]).length≤400
       rw [List.length_append]
       show M.ms.length+1≤400
       omega)
    | exact Nat.le_trans (by rw [List.length_take]; exact Nat.min_le_right _ _) h
theorem ab6 (M:aG) (e:iY) (h:M.ms.length≤400):(M.go e).1.ms.length≤400:=by
  unfold aG.go
  split
  · exact h
  split
  · exact h
  · show (aG.over (aG.put (M.kind e).1 e)).ms.length≤400
    rw [(Fb _).1]
    exact WA M e h
theorem KD (R:aC) (CR:nJ) (now:Int):(dh R CR now).ms.length=0:=by
  unfold dh
  rw [(Fb _).1]
  rfl
theorem Y8 (R:aC) (CR:nJ) (now:Int):(dh R CR now).jr.length=1:=by
  unfold dh
  rw [(sS _).1]
  rfl
theorem LW (c:UInt8):∀ (l:List UInt8) (acc v:Nat),Lib.parseUint10 acc l=.ok v→Lib.parseUint10 acc (l++[c])=Lib.parseUint10 v [c]
 | [],acc,v,h=>by
  simp only [Lib.parseUint10] at h
  injection h with h
  rw [h]; rfl
 | a :: l,acc,v,h=>by
  rw [List.cons_append]
  rw [Lib.parseUint10] at h ⊢
  split at h
  ·rename_i h1
   rw [if_pos h1]
   split at h
   ·cases h
   rename_i h2
   rw [if_neg h2]
   split at h
   ·cases h
   rename_i h3
   rw [if_neg h3]
   exact LW c l _ v h
  ·cases h
theorem Y9 (u:Nat):u<18446744073709551616→Lib.parseUint10 0 (Lib.decDigits u)=.ok u:=by
 induction u using Nat.strongRecOn with
 | _ u ih =>
  intro hu
  by_cases h:u<10
  ·rw [Lib.decDigits,dif_pos h,Lib.parseUint10,if_pos (by rw [UInt8.toNat_ofNat']; omega),if_neg (by omega),if_neg (by rw [UInt8.toNat_ofNat']; omega),Lib.parseUint10]
   congr 1
   rw [UInt8.toNat_ofNat']; omega
  ·rw [Lib.decDigits,dif_neg h,LW _ _ _ _ (ih (u / 10) (by omega) (by omega)),Lib.parseUint10,if_pos (by rw [UInt8.toNat_ofNat']; omega),if_neg (by omega),if_neg (by rw [UInt8.toNat_ofNat']; omega),Lib.parseUint10]
   congr 1
   rw [UInt8.toNat_ofNat']; omega
theorem Fe (u:Nat):∀ c∈Lib.decDigits u,48≤c.toNat∧c.toNat≤57:=by
 intro c hc
 rw [Lib.decDigits_eq] at hc
 obtain ⟨t,-,rfl⟩:=List.mem_map.1 hc
 unfold Lib.dg
 have:u / 10 ^ (Lib.nDigits u - 1 - t) % 10<10:=Nat.mod_lt _ (by decide)
 generalize u / 10 ^ (Lib.nDigits u - 1 - t) % 10=d at *
 rw [UInt8.toNat_ofNat']
 omega
theorem SS (u:Nat):Lib.decDigits u≠[]:=fun h=>by
 have h1:=Lib.decDigits_length u
 have h2:=Lib.nDigits_pos u
 rw [h] at h1
 simp at h1
 omega
theorem LX (u:Nat) (hu:u<18446744073709551616):Lib.parseMag (Lib.decDigits u)=.ok u:=by
 unfold Lib.parseMag
 rw [if_neg (SS u),Y9 u hu]
theorem Oq (n:Int) (h0 : -9223372036854775808≤n) (h1:n≤9223372036854775807):Lib.atoiAll (Lib.itoa n)=.ok n:=by
 unfold Lib.itoa
 split
 ·rw [Lib.atoiAll_minus,LX _ (by omega)]
  unfold Lib.signed
  dsimp only
  rw [if_neg (by omega)]
  congr 1
  omega
 ·rename_i hn
  have hd:=Fe n.toNat
  have hm:=LX n.toNat (by omega)
  revert hd hm
  cases hl:Lib.decDigits n.toNat with
  | nil=>exact absurd hl (SS _)
  | cons c r =>
   intro hd hm
   have hc:=hd c (by simp)
   rw [Lib.atoiAll_plain c r (by omega) (by omega),hm]
   unfold Lib.signless
   dsimp only
   rw [if_neg (by omega)]
   congr 1
   omega
theorem SV (n:Int):(32:UInt8)∉Lib.itoa n:=by
 intro h
 unfold Lib.itoa at h
 split at h
 ·rcases List.mem_cons.1 h with h | h
  ·exact absurd h (by decide)
  ·exact absurd (Fe _ _ h).1 (by decide)
 ·exact absurd (Fe _ _ h).1 (by decide)
theorem Iw:∀ (a r:List UInt8),(32:UInt8)∉a→Lib.index (a++32 :: r) [32]=(a.length:Int)
 | [],r,_=>by rw [List.nil_append,Lib.index]; simp [List.isPrefixOf]
 | c :: a,r,h=>by
  have hc:c≠32:=fun e=>h (by simp [e])
  have ih:=Iw a r (fun hm=>h (List.mem_cons_of_mem _ hm))
  rw [List.cons_append,Lib.index]
  have hp:([32]:List UInt8).isPrefixOf (c :: (a++32 :: r))=false:=by simp [List.isPrefixOf,Ne.symm hc]
  rw [hp,ih]
  have:¬ (((a.length:Int)) == -1)=true:=fun e=>by have:=beq_iff_eq.1 e; omega
  simp only [Bool.false_eq_true,if_false,if_neg this,List.length_cons]
  omega
def rY:List (List UInt8)→List UInt8
 | []=>[]
 | [a]=>a
 | a :: b :: t=>a++32 :: rY (b :: t)
theorem wY:∀ (l:List (List UInt8)) (a:List UInt8),(∀ x∈a :: l,(32:UInt8)∉x)→Lib.splitK [32] 0 l.length (rY (a :: l))=a :: l∧Lib.count (rY (a :: l)) [32]=l.length
 | [],a,h=>⟨rfl,by
   show Lib.count a [32]=0
   rw [Lib.count_one,List.count_eq_zero]
   exact h a (by simp)⟩
 | b :: t,a,h=>by
  obtain ⟨i1,i2⟩:=wY t b (fun x hx=>h x (List.mem_cons_of_mem _ hx))
  have ha:=h a (by simp)
  have hx:=Iw a (rY (b :: t)) ha
  constructor
  ·show Lib.splitK [32] 0 (t.length+1) (a++32 :: rY (b :: t))=_
   rw [Lib.splitK,hx,if_neg (fun e=>by have:=beq_iff_eq.1 e; omega)]
   rw [show ((a.length:Int)).toNat+0=a.length by omega,List.take_left' rfl]
   congr 1
   rw [show ((a.length:Int)).toNat+[(32:UInt8)].length=(a++[32]).length by simp,show a++32 :: rY (b :: t)=(a++[32])++rY (b :: t) by simp,List.drop_left' rfl]
   exact i1
  ·show Lib.count (a++32 :: rY (b :: t)) [32]=t.length+1
   rw [Lib.count_one] at i2 ⊢
   rw [List.count_append,List.count_cons_self,i2,List.count_eq_zero.2 ha]
   omega
theorem bytes_inj {a b:ByteArray} (h:a.data.toList=b.data.toList):a=b:=by
 obtain ⟨⟨a⟩⟩:=a
 obtain ⟨⟨b⟩⟩:=b
 have:a=b:=h
 rw [this]
theorem Iy (ev:iY):Lib.countB (bV ev) ⟨#[32]⟩=6∧Lib.splitB ⟨#[32]⟩ 0 6 (bV ev)=(mP ev).map vF:=by
 have key:=wY [Lib.itoa ev.au,Lib.itoa ev.n,Lib.itoa ev.now,Lib.itoa ev.m.src,Lib.itoa ev.m.dst,Lib.itoa ev.m.piece] (Lib.itoa ev.kind) (fun x hx=>by
  have:∃ n,x=Lib.itoa n:=by
   simp only [List.mem_cons,List.not_mem_nil,or_false] at hx
   rcases hx with rfl | rfl | rfl | rfl | rfl | rfl | rfl <;> exact ⟨_,rfl⟩
  obtain ⟨n,rfl⟩:=this
  exact SV n)
 refine ⟨key.2,?_⟩
 have h:=Lib.splitB_data ⟨#[32]⟩ 0 6 (bV ev)
 have h2:(Lib.splitB ⟨#[32]⟩ 0 6 (bV ev)).map (·.data.toList)=((mP ev).map vF).map (·.data.toList):=h.trans key.1
 exact (List.map_inj_right (fun a b hab=>bytes_inj hab)).1 h2
def goes (M:aG) (es:List iY):aG:=es.foldl (fun M e=>(M.go e).1) M
def nP:aG→List iY→Prop
 | _,[]=>True
 | M,e :: t=>(M.go e).2=0∧nP (M.go e).1 t
theorem DW (M:aG) (es:List iY) (e:iY):goes M (es++[e])=((goes M es).go e).1:=by unfold goes; rw [List.foldl_append]; rfl
theorem wZ:∀ (es:List iY) (M:aG) (t:List iY),nP M (es++t)↔nP M es∧nP (goes M es) t
 | [],M,t=>by show nP M t↔True∧nP M t; rw [true_and]
 | e :: es,M,t=>by
  show ((M.go e).2=0∧nP (M.go e).1 (es++t))↔((M.go e).2=0∧nP (M.go e).1 es)∧nP (goes (M.go e).1 es) t
  rw [wZ es,and_assoc]
theorem SY {M:aG} {es:List iY} {e:iY} (h:nP M es) (he:((goes M es).go e).2=0):nP M (es++[e]):=(wZ _ _ _).2 ⟨h,he,trivial⟩
theorem BH {M:aG} {es:List iY} (h:nP M es) (k:Nat):nP M (es.take k):=((wZ (es.take k) M (es.drop k)).1 (by rw [List.take_append_drop]; exact h)).1
theorem Za {M:aG} {es:List iY} (h:nP M es) (k:Nat) (hk:k<es.length):((goes M (es.take k)).go es[k]).2=0:=by
 have h2:=((wZ (es.take k) M (es.drop k)).1 (by rw [List.take_append_drop]; exact h)).2
 rw [List.drop_eq_getElem_cons hk] at h2
 exact h2.1
theorem DX {M:aG} {es:List iY} (k:Nat) (hk:k<es.length):goes M (es.take (k+1))=((goes M (es.take k)).go es[k]).1:=by
 rw [List.take_add_one,List.getElem?_eq_getElem hk]
 exact DW _ _ _
theorem Zb (M:aG) (e:iY) (h:(M.go e).2=0):(M.go e).1.jr=M.jr++[jS M.jr (bV e)]:=by
 revert h; unfold aG.go
 split
 ·intro h; rename_i hc; exact absurd h hc
 split
 ·intro h; rename_i hc; exact absurd h hc
 ·intro _
  show (aG.over (aG.put (M.kind e).1 e)).jr=_
  rw [(sS _).1]
  show (M.kind e).1.jr++[jS (M.kind e).1.jr (bV e)]=_
  rw [(jD M e).1]
theorem qK:∀ (t:List iY) (M:aG),nP M t→∃ r,(goes M t).jr=M.jr++r∧r.length=t.length∧r.map iL.txt=t.map bV
 | [],M,_=>⟨[],by simp [goes],rfl,rfl⟩
 | e :: t,M,h=>by
  obtain ⟨r,h1,h2,h3⟩:=qK t (M.go e).1 h.2
  refine ⟨jS M.jr (bV e) :: r,?_,by simp [h2],by rw [List.map_cons,h3]; rfl⟩
  show (goes (M.go e).1 t).jr=_
  rw [h1,Zb M e h.1]
  simp
theorem xg:∀ (es:List iY) (M:aG),MInv M→M.ms.length≤400→(∀ e∈es,wW e)→MInv (goes M es)∧(goes M es).ms.length≤400
 | [],M,h,hl,_=>⟨h,hl⟩
 | e :: es,M,h,hl,ho=>xg es (M.go e).1 (Wy h hl (ho e (by simp))) (ab6 M e hl) (fun x hx=>ho x (by simp [hx]))
theorem xq (R:aC) (CR:nJ) (now:Int):(dh R CR now).jr=[jS [] (iT now)]:=by unfold dh; rw [(sS _).1]
theorem yA {R:aC} {CR:nJ} {es:List iY} (h:nP (dh R CR 0) es):(goes (dh R CR 0) es).jr.length=es.length+1:=by
 obtain ⟨q,f1,f2,-⟩:=qK _ _ h
 rw [f1,xq,List.length_append,f2]
 simp
 omega
theorem WC {R:aC} {CR:nJ} {es:List iY} (h:nP (dh R CR 0) es) (hk:0<(goes (dh R CR 0) es).jr.length):(goes (dh R CR 0) es).jr[0].txt=iT 0:=by
 obtain ⟨q,f1,f2,-⟩:=qK _ _ h
 rw [xq] at f1
 simp only [f1]
 rfl
theorem XA {R:aC} {CR:nJ} {es:List iY} (h:nP (dh R CR 0) es) (k:Nat) (hk:k<es.length) (hk2:k+1<(goes (dh R CR 0) es).jr.length):(goes (dh R CR 0) es).jr[k+1].txt=bV es[k]:=by
 obtain ⟨q,f1,f2,f3⟩:=qK _ _ h
 rw [xq] at f1
 have hq:k<q.length:=by omega
 have e1:(goes (dh R CR 0) es).jr[k+1]=q[k]:=by simp only [f1]; rfl
 rw [e1]
 have e2:(q.map iL.txt)[k]?=(es.map bV)[k]?:=by rw [f3]
 rw [List.getElem?_map,List.getElem?_map,List.getElem?_eq_getElem hq,List.getElem?_eq_getElem hk] at e2
 exact Option.some.inj e2
end Go.Proofs.YtmabaojkignodaaGreatDoor

/- RwD, PmN, H10, TbRobGames, TbRobPlain, Maps. -/
import Derived.Test.YteablcielclaeaaGreatDoorP27
import Derived.Lib.Builder
import Derived.Lib.UnsafeStr
import Derived.Maps.Own
import Derived.Maps.OwnOps
import Derived.Maps.Views
import Derived.DeepKeys5
import Derived.WideKeyEntry
namespace Go.Proofs.YteablcielclaeaaGreatDoor
open Go.ChangeShapes Go.WideShapes Go.ChangeAt Go.RowKit
set_option linter.unusedVariables false
def BAt (B b:Nat) (l:tN) (w:World):Prop:=Lib.IsBuilder 148 5 B b (Lib.byteCells l) w
theorem BAt.below {B b:Nat} {l:tN} {w w':World} (h:BAt B b l w) (hb:Below w.heap.size w w'):BAt B b l w':=by
 rcases h with ⟨h1,v,h2,h3,h4⟩ | ⟨h1,v,h2,h3,h4⟩
 ·exact .inl ⟨h1,v,(hb.block b (by
   rcases Nat.lt_or_ge b w.heap.size with q | q
   ·exact q
   ·rw [Array.getElem?_eq_none q] at h2; cases h2)).trans h2,aS h3 hb,h4⟩
 ·exact .inr ⟨h1,v,(hb.block b (by
   rcases Nat.lt_or_ge b w.heap.size with q | q
   ·exact q
   ·rw [Array.getElem?_eq_none q] at h2; cases h2)).trans h2,aS h3 hb,h4⟩
def WriteSaid:Prop:=∀ (B b:Nat) (l:tN) (s:ByteArray) (w:World),BAt B b l w→l.length+s.size≤100000000→B≤w.heap.size →
 Calls Tryz.prog 52 #[.pointer (some ⟨b,0,none⟩),.string s] w fun e w'=>e=.returned (.tuple #[.int .i64 s.size,.nilIface])∧BAt B b (l++bt s) w'∧Below B w w'
def LenSaid:Prop:=∀ (B b:Nat) (l:tN) (w:World),BAt B b l w→Calls Tryz.prog 57 #[.pointer (some ⟨b,0,none⟩)] w fun e w'=>e=.returned (.int .i64 l.length)∧w'=w
def StringSaid:Prop:=∀ (B b:Nat) (l:tN) (w:World),BAt B b l w→B≤w.heap.size→Calls Tryz.prog 58 #[.pointer (some ⟨b,0,none⟩)] w fun e w'=>e=.returned (.string (bs l))∧Below B w w'
theorem Qm (w:World) (o:Obj):Below w.heap.size w (w.alloc o):=(Below.refl _ _).alloc (Nat.le_refl _) _
set_option maxRecDepth 100000
set_option maxHeartbeats 8000000
end Go.Proofs.YteablcielclaeaaGreatDoor
namespace Go.Proofs.YteablcielclaeaaGreatDoor
open Go.ChangeShapes Go.WideShapes Go.ChangeAt Go.RowKit
set_option linter.unusedVariables false
set_option maxHeartbeats 4000000
set_option maxRecDepth 100000
open Go.Lib (hid)
theorem of_nil (x:Option Addr) (c:Nat) (pl:Int) (w:World):Calls Tryz.prog 180 #[.slice x 0 c,.int .i64 pl] w fun e w'=>e=.returned (.slice none 0 0)∧w=w':=by
 go_enter Tryz.func180,Tryz.ntmps180
 go_wp2_with fail
 go_loopw [5,10] (fun vo vi wr=>vo=.slice none 0 0∧vi=.int .i64 0∧w=wr) (fun _ _ _=>0)
 case atStart=>exact ⟨rfl,rfl,rfl⟩
 case round =>
  obtain ⟨rfl,rfl,rfl⟩:=hrel
  go_wp2_with fail
  go_ret
  exact ⟨rfl,rfl⟩
theorem wX (x:Option Addr) (c:Nat) (f:FuncId) (caps:Array Value) (w:World):Calls Tryz.prog 207 #[.slice x 0 c,.func (.func f) #[] caps] w fun e w'=>e=.returned (.int .i64 (-1))∧w=w':=by
 go_enter Tryz.func207,Tryz.ntmps207
 go_wp2_with fail
 go_loopw [8] (fun vi wr=>vi=.int .i64 0∧w=wr) (fun _ _=>0)
 case atStart=>exact ⟨rfl,rfl⟩
 case round =>
  obtain ⟨rfl,rfl⟩:=hrel
  go_wp2_with fail
  go_ret
  exact ⟨rfl,rfl⟩
theorem FC (x:Option Addr) (c:Nat) (f:FuncId) (caps:Array Value) (w:World):Calls Tryz.prog 215 #[.slice x 0 c,.func (.func f) #[] caps] w fun e w'=>e=.returned (.bool false)∧w=w':=by
 go_enter Tryz.func215,Tryz.ntmps215
 go_wp2_with fail
 refine (wX x c f caps w).mono ?_
 rintro e w' ⟨rfl,rfl⟩
 go_wp2_with fail
 go_ret
 exact ⟨rfl,rfl⟩
theorem FD (x:Option Addr) (c:Nat) (w:World):Calls Tryz.prog 179 #[.slice x 0 c] w fun e w'=>e=.returned (.int .i64 0)∧w=w':=by
 go_enter Tryz.func179,Tryz.ntmps179
 go_wp2_with fail
 refine (of_nil x c 0 w).mono ?_
 rintro e w' ⟨rfl,rfl⟩
 go_wp2_with fail
 refine (of_nil x c 1 w).mono ?_
 rintro e w' ⟨rfl,rfl⟩
 go_wp2_with fail
 refine (FC x c _ _ w).mono ?_
 rintro e w' ⟨rfl,rfl⟩
 go_wp2_with fail
 go_ret
 exact ⟨rfl,rfl⟩
theorem clone_nil (x:Option Addr) (c:Nat) (hc:c≤maxLen) (w:World):Calls Tryz.prog 60 #[.slice x 0 c] w fun e w'=>∃ y c',e=.returned (.slice y 0 c')∧w'.ownsRow w.heap.size 173 4 (.slice y 0 c') 0 []∧Below w.heap.size w w':=by
 obtain ⟨i0,hi,hz0,hz1,hz2⟩:=nC RF
 have hq:=fun (w:World) (a:Option Addr) (n c:Nat)=>Lib.run_eql_slice_nil (P:=Tryz.prog) w 87 173 a n c 0 0 Tryz.underlying87
 exact Calls.mono (LC _ [] w (.inl ⟨_,_,rfl,hc,rfl⟩) (by decide)) fun e w' ⟨v,he,ho,hb⟩=>by
  obtain ⟨y,c',rfl⟩:=aG ho
  exact ⟨y,c',he,ho,hb⟩
theorem MO (x:Option Addr) (c:Nat) (f:FuncId) (caps:Array Value) (w:World):Calls Tryz.prog 231 #[.slice x 0 c,.func (.func f) #[] caps] w fun e w'=>e=.returned (.slice x 0 c)∧w=w':=by
 go_enter Tryz.func231,Tryz.ntmps231
 go_wp2_with fail
 refine (wX x c f caps w).mono ?_
 rintro e w' ⟨rfl,rfl⟩
 go_wp2_with fail
 go_ret
 exact ⟨rfl,rfl⟩
theorem MQ (x:Option Addr) (c:Nat) (hc:c≤maxLen) (pl:Int) (w:World):Calls Tryz.prog 209 #[.slice x 0 c,.int .i64 pl] w fun e w'=>∃ y c',e=.returned (.slice y 0 c')∧w'.ownsRow w.heap.size 173 4 (.slice y 0 c') 0 []∧Below w.heap.size w w':=by
 go_enter Tryz.func209,Tryz.ntmps209
 go_upto_region 1 with (fail)
 have HB:=hid (show Below w.heap.size w (w.alloc (.cells #[.int .i64 pl] 3)) from (Below.refl _ _).alloc (Nat.le_refl _) _)
 generalize w.alloc (.cells #[.int .i64 pl] 3)=w0 at *
 go_wp2_with fail
 refine (clone_nil x c hc w0).mono ?_
 rintro e w1 ⟨y,c',rfl,ho,hb⟩
 have HO:=hid (own_base ho HB.out.size)
 have HB1:=hid (ak HB.out hb HB.out.size)
 clear ho hb
 go_wp2_with fail
 refine (MO y c' _ _ w1).mono ?_
 rintro e w' ⟨rfl,rfl⟩
 go_wp2_with fail
 go_ret
 exact ⟨_,_,rfl,HO.out,HB1.out⟩
theorem Qn (R:aA) (vp vs ve:Value) (p:bf) (vc v0 v1:Value) (x:Option Addr) (c:Nat) (w:World) (hr:pV w R vp vs ve) (hnm:R.name.size≤maxLen) (hp:sH w p vc v0 v1) :
  Calls Tryz.prog 173 #[(.agg #[.string R.name,.int .i64 R.width,.int .i64 R.height,vp,vs,.bool R.falls,.bool R.keeps,ve,.int .i64 R.blocked,.int .i64 R.quiet,.int .i64 R.bC]),(.agg #[vc,v0,v1,.int .i64 p.turn,.int .i64 p.quiet]),.slice x 0 c] w fun e w'=>e=.returned (.int .i64 (ig R p []))∧Below w.heap.size w w':=by
 have HR:=hid hr
 have HN:=hid hnm
 have HP:=hid hp
 have HD:Hid (ig R p []=if jl R p≠0 then jl R p else uI []):=hid rfl
 clear hr hp hnm
 go_enter Tryz.func173,Tryz.ntmps173
 go_upto_region 1 with (fail)
 refine qQ fun w0 B0 B1 fJ hs_=>?_
 have HB:=hid fJ
 have hz0:w.heap.size+1<w0.heap.size:=by omega
 clear hs_ fJ
 have AO:=hid (HR.out.below HB.out (Nat.le_refl _))
 have Fq:=hid (HP.out.below HB.out (Nat.le_refl _))
 have HX0:=hid B0
 have lu:=hid B1
 clear B0 B1
 refine wp_region_lit ?_
 refine aH (by rfl) 61 (.tmp 3) (by rfl) (w.heap.size) (by rfl) HX0.out Tryz.underlying61 (by rfl) (by kernel_rfl) ?_
 refine aH (by rfl) 158 (.tmp 4) (by rfl) (w.heap.size+1) (by rfl) lu.out Tryz.underlying158 (by rfl) (by kernel_rfl) ?_
 go_wp2_with fail
 refine (CV R vp vs ve p vc v0 v1 w0 AO.out HN.out Fq.out).mono ?_
 rintro e w1 ⟨rfl,hb1⟩
 have HB1:=hid (ak HB.out hb1 HB.out.size)
 clear hb1
 by_cases he:jl R p=0
 rotate_left
 ·have HE:Hid (ig R p []=jl R p):=hid (by rw [HD.out,if_pos he])
  have he':(jl R p != 0)=true:=by simpa using he
  clear he HD
  go_wp2_with fail
  go_ret
  exact ⟨by rw [HE.out]; rfl,HB1.out⟩
 have HE:Hid (ig R p []=uI []):=hid (by rw [HD.out,if_neg (by simp [he])])
 rw [he]
 clear he HD
 go_wp2_with fail
 refine (FD x c w1).mono ?_
 rintro e w2 ⟨rfl,rfl⟩
 go_wp2_with fail
 go_ret
 exact ⟨by rw [HE.out]; rfl,HB1.out⟩
theorem YT (R:aA) (vp vs ve:Value) (p:bf) (vc v0 v1:Value) (x:Option Addr) (c:Nat) (hc:c≤maxLen) (w:World) (hr:pV w R vp vs ve) (hp:sH w p vc v0 v1) (K:qg R p) :
  Calls Tryz.prog 174 #[(.agg #[.string R.name,.int .i64 R.width,.int .i64 R.height,vp,vs,.bool R.falls,.bool R.keeps,ve,.int .i64 R.blocked,.int .i64 R.quiet,.int .i64 R.bC]),(.agg #[vc,v0,v1,.int .i64 p.turn,.int .i64 p.quiet]),.slice x 0 c] w (XT R p [] w):=by
 have HR:=hid hr
 have HP:=hid hp
 have HK:=hid K
 clear hr hp K
 go_enter Tryz.func174,Tryz.ntmps174
 go_upto_region 1 with (fail)
 refine KE fun w0 B0 B1 B2 fJ hs_=>?_
 have HB:=hid fJ
 have hz0:w.heap.size+1+1<w0.heap.size:=by omega
 clear hs_ fJ
 have AO:=hid (HR.out.below HB.out (Nat.le_refl _))
 have Fq:=hid (HP.out.below HB.out (Nat.le_refl _))
 have HX0:=hid B0
 have lu:=hid B1
 have mZ:=hid B2
 clear B0 B1 B2
 go_wp2_with fail
 refine (wX x c _ _ w0).mono ?_
 rintro e w1 ⟨rfl,rfl⟩
 have aiQ:=HX0
 have aiR:=lu
 have aiS:=mZ
 have HB1:=HB
 clear HX0 lu mZ AO Fq HB
 have hok:jP R p []=false:=rfl
 have nO:Hid (jP R p []=false):=hid hok
 have HE2:Hid (bQ R p []=⟨0,0,0⟩):=hid rfl
 have A8:Hid (aO R p []=[]):=hid rfl
 clear hok
 go_upto_region 2 with (fail)
 generalize w0=wq at *
 have BRz:=aiQ.out.drew
 have BPz:=aiR.out.drew
 have BMz:=aiS.out.drew
 have Lz:Below w.heap.size w wq.drew:=aK HB1.out
 clear aiQ aiR aiS HB1
 refine wp_region_noPanic ?_
 refine bI (S:=(fun _=>True)) (L:=[]) (by kernel_rfl) trivial (fun hHeld=>?_)
 refine aC 0 ?_
 refine aC 1 ?_
 refine aC 2 ?_
 refine pK 3 ?_
 refine pK 4 ?_
 refine pK 6 ?_
 refine pK 7 ?_
 refine pK 5 ?_
 refine pK 8 ?_
 refine pK 9 ?_
 refine pK 10 ?_
 refine pK 11 ?_
 refine pK 12 ?_
 refine aC 13 ?_
 refine jC ?_
 have BRy:Box wq.drew (w.heap.size) [.string R.name,.int .i64 R.width,.int .i64 R.height,vp,vs,.bool R.falls,.bool R.keeps,ve,.int .i64 R.blocked,.int .i64 R.quiet,.int .i64 R.bC] 61:=BRz
 have q3:=BPz.cell 3 rfl
 have HLn:=hid Lz
 have eF:=hid BMz
 go_wp2_with fail
 refine (MQ x c hc p.turn _).mono ?_
 rintro e w7 ⟨a7,c7,rfl,uZ,hb7⟩
 have TN:=hid (ak HLn.out hb7 HLn.out.size)
 have HM7:=hid (eF.out.stays hb7)
 have Pm:=hid uZ
 have aob:=eF.out.lt
 clear uZ hb7
 go_wp2_with (refine aT (vs:=[.int .i64 0,.int .i64 0,.int .i64 0]) (by rfl) 68 (.tmp 6) (.tmp 27) (by rfl) (w.heap.size+1+1) (by rfl) (by rfl) HM7.out rfl (by kernel_rfl) (by rfl) ?_)
 exact bodyPost_ret (PD rfl (by rfl) (by rfl) (by rfl) (HM7.out.store rfl) Tryz.underlying68 (by rfl) (by kernel_rfl)) rfl ⟨_,by rw [nO.out,HE2.out]; rfl,by rw [A8.out]; exact own_base (aN Pm.out aob 0 _) HLn.out.size,below_setCells TN.out (by omega) 0 _⟩
theorem YU (R:aA) (vp vs ve:Value) (p:bf) (vc v0 v1:Value) (x:Option Addr) (c:Nat) (hc:c≤maxLen) (w:World) (hr:pV w R vp vs ve) (hnm:R.name.size≤maxLen) (hp:sH w p vc v0 v1) :
  Calls Tryz.prog 130 #[(.agg #[.string R.name,.int .i64 R.width,.int .i64 R.height,vp,vs,.bool R.falls,.bool R.keeps,ve,.int .i64 R.blocked,.int .i64 R.quiet,.int .i64 R.bC]),(.agg #[vc,v0,v1,.int .i64 p.turn,.int .i64 p.quiet]),.slice x 0 c] w (DJ R p [] w):=by
 have HR:=hid hr
 have HN:=hid hnm
 have HP:=hid hp
 clear hr hp hnm
 go_enter Tryz.func130,Tryz.ntmps130
 go_upto_region 1 with (fail)
 refine KE fun w0 B0 B1 B2 fJ hs_=>?_
 have HB:=hid fJ
 have hz0:w.heap.size+1+1<w0.heap.size:=by omega
 clear hs_ fJ
 have AO:=hid (HR.out.below HB.out (Nat.le_refl _))
 have Fq:=hid (HP.out.below HB.out (Nat.le_refl _))
 have HX0:=hid B0
 have lu:=hid B1
 have mZ:=hid B2
 clear B0 B1 B2
 refine wp_region_lit ?_
 refine aH (by rfl) 61 (.tmp 3) (by rfl) (w.heap.size) (by rfl) HX0.out Tryz.underlying61 (by rfl) (by kernel_rfl) ?_
 refine aH (by rfl) 158 (.tmp 4) (by rfl) (w.heap.size+1) (by rfl) lu.out Tryz.underlying158 (by rfl) (by kernel_rfl) ?_
 go_wp2_with fail
 refine (Qn R vp vs ve p vc v0 v1 x c w0 AO.out HN.out Fq.out).mono ?_
 rintro e w1 ⟨rfl,hb1⟩
 have HB1:=hid (ak HB.out hb1 HB.out.size)
 have Ja:=hid (HX0.out.stays hb1)
 have gJ:=hid (lu.out.stays hb1)
 have acB:=hid (mZ.out.stays hb1)
 clear hb1 HX0 lu mZ
 by_cases he:ig R p []=0
 rotate_left
 ·have Dh:=hid he
  have he':(ig R p [] != 0)=true:=by simpa using he
  clear he
  go_wp2_with (refine aT (vs:=[.int .i64 0,.int .i64 0,.int .i64 0]) (by rfl) 68 (.tmp 6) (.tmp 20) (by rfl) (w.heap.size+1+1) (by rfl) (by rfl) acB.out rfl (by kernel_rfl) (by rfl) ?_)
  exact bodyPost_ret (DI rfl (by rfl) (by rfl) (by rfl) (by rfl) (acB.out.store rfl) Tryz.underlying68 (by rfl) (by kernel_rfl)) rfl (.inl ⟨Dh.out,rfl,below_setCells HB1.out (by omega) 0 _⟩)
 have Dh:=hid he
 have HK:=hid (aeo (PE he).1)
 rw [he]
 clear he
 go_upto_region 4 with (fail)
 refine wp_region_lit ?_
 refine aH (by rfl) 61 (.tmp 3) (by rfl) (w.heap.size) (by rfl) Ja.out Tryz.underlying61 (by rfl) (by kernel_rfl) ?_
 refine aH (by rfl) 158 (.tmp 4) (by rfl) (w.heap.size+1) (by rfl) gJ.out Tryz.underlying158 (by rfl) (by kernel_rfl) ?_
 go_wp2_with fail
 refine (YT R vp vs ve p vc v0 v1 x c hc w1 (HR.out.below HB1.out (Nat.le_refl _)) (HP.out.below HB1.out (Nat.le_refl _)) HK.out).mono ?_
 rintro e w2 ⟨v2,rfl,ho2,hb2⟩
 obtain ⟨a2,c2,rfl⟩:=aG ho2
 have hs1:=hb2.size
 have aiT:=hid ((acB.out.stays hb2).alloc (.cells #[.int .i64 (bQ R p []).src,.int .i64 (bQ R p []).dst,.int .i64 (bQ R p []).piece] 68))
 have HZ1:=hid acB.out.lt
 have HB2:=hid ((ak HB1.out hb2 HB1.out.size).alloc (ak HB1.out hb2 HB1.out.size).size (.cells #[.int .i64 (bQ R p []).src,.int .i64 (bQ R p []).dst,.int .i64 (bQ R p []).piece] 68))
 have xH:=hid (ho2.alloc (.cells #[.int .i64 (bQ R p []).src,.int .i64 (bQ R p []).dst,.int .i64 (bQ R p []).piece] 68))
 have HXn:=hid (Box.new w2 [.int .i64 (bQ R p []).src,.int .i64 (bQ R p []).dst,.int .i64 (bQ R p []).piece] 68)
 clear hb2 ho2
 go_upto_region 5 with (fail)
 generalize (w2.alloc (.cells #[.int .i64 (bQ R p []).src,.int .i64 (bQ R p []).dst,.int .i64 (bQ R p []).piece] 68))=w3 at *
 refine wp_region_lit ?_
 refine aH (by rfl) 68 (.tmp 11) (by rfl) w2.heap.size (by rfl) HXn.out Tryz.underlying68 (by rfl) (by kernel_rfl) ?_
 go_wp2_with (refine aT (vs:=[.int .i64 (bQ R p []).src,.int .i64 (bQ R p []).dst,.int .i64 (bQ R p []).piece]) (by rfl) 68 (.tmp 6) (.tmp 30) (by rfl) (w.heap.size+1+1) (by rfl) (by rfl) aiT.out rfl (by kernel_rfl) (by rfl) ?_)
 exact bodyPost_ret (DI rfl (by rfl) (by rfl) (by rfl) (by rfl) (aiT.out.store rfl) Tryz.underlying68 (by rfl) (by kernel_rfl)) rfl (.inr ⟨Dh.out,_,rfl,own_base (aN xH.out HZ1.out 0 _) HB1.out.size,below_setCells HB2.out (by omega) 0 _⟩)
theorem FH (R:aA) (vp vs ve:Value) (p:bf) (vc v0 v1 v:Value) (l:List fU) (w:World) (h0:l=[]) (hr:pV w R vp vs ve) (hn:R.name.size≤maxLen) (hp:sH w p vc v0 v1) (hl:iC pR w v l) :
  Calls Tryz.prog 130 #[(.agg #[.string R.name,.int .i64 R.width,.int .i64 R.height,vp,vs,.bool R.falls,.bool R.keeps,ve,.int .i64 R.blocked,.int .i64 R.quiet,.int .i64 R.bC]),(.agg #[vc,v0,v1,.int .i64 p.turn,.int .i64 p.quiet]),v] w (DJ R p l w):=by
 obtain ⟨x,c,rfl,h1,h2⟩:=hl.form
 subst h0
 exact YU R vp vs ve p vc v0 v1 x c h2 w hr hn hp
end Go.Proofs.YteablcielclaeaaGreatDoor
namespace Go.Proofs.YteablcielclaeaaGreatDoor
open Go.ChangeShapes Go.WideShapes Go.ChangeAt Go.RowKit
set_option linter.unusedVariables false
set_option maxHeartbeats 16000000
set_option maxRecDepth 100000
open Go.Lib (hid)
variable {X S:Nat→Prop} {base b:Nat} {M:aP} {B:kM}
theorem UW (ev:yA) (k0:ev.kind=0) (HD:∀ w,aY X S base w b M B→base≤w.heap.size→Mid M ev.now→M.game=0→Calls Tryz.prog 93 #[.pointer (some ⟨b,0,none⟩),.agg #[.int .i64 ev.kind,.int .i64 ev.aV,.int .i64 ev.n,.int .i64 ev.now,.int .i64 ev.m.src,.int .i64 ev.m.dst,.int .i64 ev.m.piece]] w fun e w'=>e=.returned (.int .i64 (M.jQ ev).2)∧AZ X S base b w (M.jQ ev).1 w') (w:World) (h:aY X S base w b M B) (hb:base≤w.heap.size) (hp:EvPre M ev):Calls Tryz.prog 49 #[.pointer (some ⟨b,0,none⟩),.agg #[.int .i64 ev.kind,.int .i64 ev.aV,.int .i64 ev.n,.int .i64 ev.now,.int .i64 ev.m.src,.int .i64 ev.m.dst,.int .i64 ev.m.piece]] w fun e w'=>e=.returned (.int .i64 (M.kind ev).2)∧AZ X S base b w (M.kind ev).1 w':=by
 have HDo:=hid HD
 have HK0:=hid k0
 clear HD k0
 have HP:=hid hp
 have HDK:Hid (M.kind ev=if ev.kind=0 then M.jQ ev else if ev.kind=1∨ev.kind=3 then M.yB ev else if ev.kind=2 then M.tC ev else if ev.kind=5 then M.yC ev else if ev.kind=6 then M.qE ev else ({ M with res:=2 - ev.aV,reason:=3 },0)):=hid rfl
 clear hp
 have HM:=hid h
 have Fa:=hid hb
 have Jg:Hid (¬ S w.heap.size):=hid (fun hk=>by obtain ⟨up,us,ue,vl,vm,rows,hg⟩:=h.game; have:=(hg.lo _ hk).2; omega)
 have HEb:Hid (b<w.heap.size):=hid h.box.lt
 clear h hb
 go_enter Tryz.func49,Tryz.ntmps49
 go_upto_region 1 with (fail)
 refine lX fun w0 vZ fJ hs_=>?_
 have wV:=hid vZ
 have HB0:=hid fJ
 clear hs_ vZ fJ
 have Aa:=hid (HM.out.below HB0.out)
 have aoc:Hid (base≤w0.heap.size):=hid (Nat.le_trans Fa.out HB0.out.size)
 have e0:=wV.out.cell 0 rfl
 have e1:=wV.out.cell 1 rfl
 have e2:=wV.out.cell 2 rfl
 have e3:=wV.out.cell 3 rfl
 have e4:=wV.out.cell 4 rfl
 have e5:=wV.out.cell 5 rfl
 have e6:=wV.out.cell 6 rfl
 have k0:=HK0.out
 have hk0:(ev.kind == 0)=true:=by simpa using k0
 have HD2:Hid (M.kind ev=M.jQ ev):=hid (by rw [HDK.out,if_pos k0])
 have rD:=hid (HP.out.mid k0)
 clear k0 HDK
 go_wp2_with fail
 refine (HDo.out w0 Aa.out aoc.out rD.out HP.out.gm).mono ?_
 rintro e w1 ⟨rfl,S1,B1,hm,hs,hf⟩
 have vF:=hid hm
 have BI:Hid (iE w S S1):=hid (fun k hk h=>hs k (Nat.lt_of_lt_of_le hk HB0.out.size) h)
 have Rw:Hid (iO S b w w1):=hid ((iO.new HB0.out).trans hf (iE.refl _ _))
 clear hm hs hf
 rw [← HD2.out] at vF ⊢
 go_wp2_with fail
 go_ret
 exact ⟨rfl,S1,B1,vF.out,BI.out,Rw.out⟩
theorem Af (w:World):Calls Tryz.prog 14 #[] w (abD w):=by
 obtain ⟨i0,hi,hz0,hz1,hz2⟩:=info_parts info3
 have hmk:∀ w':World,(Instr.makeSlice 22 (.int .i64 9) (.int .i64 9)).run Tryz.prog w'=.ok (.slice (some ⟨w'.heap.size,0,none⟩) 9 9) (w'.alloc (.cells #[.int .i64 0,.int .i64 0,.int .i64 0,.int .i64 0,.int .i64 0,.int .i64 0,.int .i64 0,.int .i64 0,.int .i64 0] 3)):=fun w'=>by
  rw [run_make w' 22 3 i0 (.int .i64 0) Tryz.underlying22 hi hz0 .i64 .i64 9 9 (by decide) (by decide) (by rw [hz2]; decide) (by decide),hz1]
  kernel_rfl
 clear hi hz0 hz1 hz2
 go_enter Tryz.func14,Tryz.ntmps14
 go_wp2
 refine bodyPost_ret (v:=OE fE (.slice (some ⟨w.heap.size+1,0,none⟩) 1 1) (.slice (some ⟨w.heap.size+1+1,0,none⟩) 9 9) (.slice (some ⟨w.heap.size+1+1+1,0,none⟩) 1 1)) (by simp [results,Tryz.results14,go_sem,OE,fE]) rfl ⟨_,_,_,rfl,⟨?_,?_,?_⟩,by go_grown⟩
 ·refine .inr ⟨w.heap.size+1,0,1,rfl,Nat.le_refl _,by unfold maxLen; decide,by simp,fun i h=>?_⟩
  obtain rfl:i=0:=by simp [fE] at h; exact h
  refine ⟨[.int .u8 83,.int .i64 5,.int .i64 0,.slice none 0 0],⟨.slice none 0 0,rfl,iC.nil _ _⟩,fun j hj=>?_⟩
  simp only [iF] at hj
  rcases j with _ | _ | _ | _ | j
  all_goals first | (simp [go_sem]; done) | omega
 ·refine ⟨rfl,.inr ⟨w.heap.size+1+1,0,9,rfl,Nat.le_refl _,by unfold maxLen; decide,fun i hi=>?_⟩⟩
  have hi':i<9:=by simpa [fE] using hi
  rcases i with _ | _ | _ | _ | _ | _ | _ | _ | _ | i
  all_goals first | (simp [go_sem,ints,fE]; done) | omega
 ·refine .inr ⟨w.heap.size+1+1+1,0,1,rfl,Nat.le_refl _,by unfold maxLen; decide,by simp,fun i h=>?_⟩
  obtain rfl:i=0:=by simp [fE] at h; exact h
  refine ⟨[.int .i64 0,.int .i64 0,.int .i64 3,.bool false],rfl,fun j hj=>?_⟩
  simp only [oN] at hj
  rcases j with _ | _ | _ | _ | j
  all_goals first | (simp [go_sem]; done) | omega
theorem Jh (w:World):Calls Tryz.prog 15 #[] w fun e w'=>e=.returned (.agg #[.slice (some ⟨w.heap.size+1,0,none⟩) 1 1,.int .i64 1000,.int .i64 0])∧clk.gG w' w'.heap.size (some ⟨w.heap.size+1,0,none⟩) 1 fG.ps∧Below w.heap.size w w':=by
 go_enter Tryz.func15,Tryz.ntmps15
 go_upto_region 1 with (fail)
 go_wp2_with fail
 have HX:=(Box.new w [.slice (some ⟨w.heap.size+1,0,none⟩) 1 1,.int .i64 1000,.int .i64 0] 65).alloc (.cells #[.int .i64 0,.int .i64 60000] 141)
 have HY:=Box.new' (w.alloc (.cells #[.slice (some ⟨w.heap.size+1,0,none⟩) 1 1,.int .i64 1000,.int .i64 0] 65)) (w.heap.size+1) [.int .i64 0,.int .i64 60000] 141 (by simp)
 have HB:Below w.heap.size w ((w.alloc (.cells #[.slice (some ⟨w.heap.size+1,0,none⟩) 1 1,.int .i64 1000,.int .i64 0] 65)).alloc (.cells #[.int .i64 0,.int .i64 60000] 141)):=((Below.refl w.heap.size w).alloc (Nat.le_refl _) _).alloc (by simp) _
 refine bodyPost_ret (dJ rfl (by rfl) HX Tryz.underlying65 (by rfl) (by kernel_rfl)) rfl ⟨rfl,⟨rfl,fun _=>⟨w.heap.size+1,0,rfl,HY.lt,fun k hk=>?_⟩⟩,HB⟩
 obtain rfl:k=0:=by omega
 exact ⟨HY.cell 0 rfl,HY.cell 1 rfl⟩
theorem Sz:jO fE [gI.m]=0:=by
 have h:eu fE [] gI.m=0:=by
  unfold eu
  rw [if_neg (fun hc=>hc (RS Jd)),if_neg (fun hc=>hc Jc)]
  rfl
 unfold jO
 rw [if_neg (fun hc=>hc qB),runFrom,if_neg (fun hc=>hc h),runFrom]
theorem afq (l:List aB):(GN fE (aF fE) l gI.m).data.toList=[83,64,98,50]:=by
 unfold GN
 rw [if_pos (by decide)]
 decide +kernel
theorem aiU (w:World) (a0 a1 a2 a3 a4 a5 a6 a7 a8 a9 a10 a11 a12 a13 a14 a15 a16 a17 a18 a19:Value):(Instr.field 89 (.agg #[a0,a1,a2,a3,a4,a5,a6,a7,a8,a9,a10,a11,a12,a13,a14,a15,a16,a17,a18,a19]) 0).run Tryz.prog w=.ok a0 w:=by kernel_rfl
theorem aY.aod {w:World} (h:aY X S base w b M B) (k:Nat) (hk:S k∨one1 b k):k<w.heap.size:=by
 obtain ⟨up,us,ue,vl,vm,rows,hg⟩:=h.game
 rcases hk with hk | hk
 ·exact (hg.lo k hk).2
 ·rw [show k=b from hk]; exact h.box.lt
structure afr:Prop where
 so:SortMvSaid
 it:ItoaSaid
 jm:qG
 jb:Ae
 wr:WriteSaid
 ln:LenSaid
 st:StringSaid
end Go.Proofs.YteablcielclaeaaGreatDoor
namespace Go.Proofs.YteablcielclaeaaGreatDoor
open Go.ChangeShapes Go.WideShapes Go.ChangeAt Go.RowKit
set_option linter.unusedVariables false
open Go.Lib (hid)
def iZ (n:Int):Int:=n+n % 2 - 1
theorem MR (n:Int) (w:World) (h0:0≤n) (h1:n≤1000) :
  Calls Tryz.prog 62 #[.int .i64 n] w fun e w'=>e=.returned (.int .i64 (iZ n))∧w=w':=by
 go_enter Tryz.func62,Tryz.ntmps62
 go_wp2
 go_ret
 exact ⟨rfl,rfl⟩
def iy (n:Int) (tw:Bool):Int:=if tw=true then 2 * iZ n else iZ n
theorem Qo (n:Int) (tw:Bool) (w:World) (h0:2≤n) (h1:n≤32) :
  Calls Tryz.prog 61 #[.int .i64 n,.bool tw] w fun e w'=>e=.returned (.int .i64 (iy n tw))∧w=w':=by
 have hb:1≤iZ n∧iZ n≤31:=by unfold iZ; omega
 cases tw
 all_goals
  go_enter Tryz.func61,Tryz.ntmps61
  go_wp2_with (go_at_call 62; refine (MR _ _ (by omega) (by omega)).mono ?_; rintro e w' ⟨rfl,rfl⟩)
  go_ret
  exact ⟨rfl,rfl⟩
theorem GX (n:Int) (tw:Bool) (w:World) (h0:2≤n) (h1:n≤32) :
  Calls Tryz.prog 19 #[.int .i64 n,.bool tw] w fun e w'=>e=.returned (.tuple #[.int .i64 (iy n tw),.int .i64 0])∧w=w':=by
 go_enter Tryz.func19,Tryz.ntmps19
 go_wp2_with (go_at_call 61; refine (Qo _ _ _ (by omega) (by omega)).mono ?_; rintro e w' ⟨rfl,rfl⟩)
 go_ret2
 exact ⟨rfl,rfl⟩
def flat (gs:List (Int×Int)):List Value:=gs.flatMap fun g=>[.int .i64 g.1,.int .i64 g.2]
theorem UY (gs:List (Int×Int)) (g:Int×Int):flat (gs++[g])=flat gs++[.int .i64 g.1,.int .i64 g.2]:=by simp [flat]
def Gs (w:World) (B:Nat) (tu:Bool) (gs:List (Int×Int)):Prop:=
 w.heap[B]?=some (.cells #[.bool tu] 4 (0,0))∧∃ v,w.heap[B+1]?=some (.cells #[v] 29 (0,0))∧w.ownsRow (B+2) 31 2 v gs.length (flat gs)∧B+2≤w.heap.size
def Ji (tu first:Bool) (a b:Int):Int×Int:=if (first == tu)=true then (b,a) else (a,b)
theorem afs:(Tryz.prog.info? 31).map (fun i=>(i.zero,i.size,i.bytes))=some (some (.agg #[.int .i64 0,.int .i64 0]),2,16):=by kernel_rfl
theorem YV {w:World} {base:Nat} {e:TypeId} {size:Nat} {v:Value} {n:Nat} {xs:List Value} (h:w.ownsRow base e size v n xs) (hn:0<n):∃ g c,v=.slice (some ⟨g,0,none⟩) n c:=by
 rcases h.2 with ⟨_,h0⟩ | ⟨g,c,_,h,_⟩
 ·omega
 ·exact ⟨g,c,h⟩
def YW (B:Nat) (tu:Bool) (gs:List (Int×Int)) (w:World) (e:Ending) (w':World):Prop:=e=.returned (.tuple #[])∧Gs w' B tu gs∧Below B w w'
theorem Gs.step {w w1:World} {B:Nat} {tu:Bool} {gs:List (Int×Int)} {g:Int×Int} {v v':Value} (o:Obj) (hB:w.heap[B]?=some (.cells #[.bool tu] 4 (0,0))) (hv:w.heap[B+1]?=some (.cells #[v] 29 (0,0)))
  (hsz:B+2≤w.heap.size) (hown:w.ownsRow (B+2) 31 2 v gs.length (flat gs)) (hown':w1.ownsRow (B+2) 31 2 v' (gs.length+1) (flat gs++[.int .i64 g.1,.int .i64 g.2])) (hg:(w.alloc o).grownBy w1 v.ownBlock) :
  (Gs (w1.setCell ⟨B+1,0,none⟩ v') B tu (gs++[g])∧Below B w (w1.setCell ⟨B+1,0,none⟩ v'))∧w1.heap[B+1]?=some (.cells #[v] 29 (0,0)):=by
 have hsz1:w.heap.size+1≤w1.heap.size:=by have:=hg.size; simpa using this
 have far:∀ k,k<B+2→some k≠v.ownBlock:=by
  intro k hk e
  rcases hown.2 with ⟨rfl,_⟩ | ⟨g',cap,cur,rfl,hge,_⟩
  ·cases e
  ·simp [Value.ownBlock] at e; omega
 have blk:∀ k,k<B+2→w1.heap[k]?=w.heap[k]?:=fun k hk=>by
  rw [hg.block k (by simp; omega) (far k hk)]
  exact Below.heap_alloc w o k (by omega)
 have hB1:w1.heap[B]?=some (.cells #[.bool tu] 4 (0,0)):=by rw [blk B (by omega)]; exact hB
 have hv1:w1.heap[B+1]?=some (.cells #[v] 29 (0,0)):=by rw [blk (B+1) (by omega)]; exact hv
 refine ⟨⟨⟨?_,v',?_,?_,by simpa using (by omega:B+2≤w1.heap.size)⟩,?_⟩,hv1⟩
 ·rw [Below.heap_setCell w1 ⟨B+1,0,none⟩ v' B (by simp)]; exact hB1
 ·exact one_setCell hv1
 ·rw [UY,List.length_append]
  exact ownsRow_setCell_below hown' (by simp) _
 ·refine Below.setCell ?_ (by simp) _
  exact ⟨hg.os,hg.tape,hg.output,by omega,fun k hk=>blk k (by omega)⟩
set_option maxHeartbeats 1000000 in
theorem add_any (a b:Int) (first tu:Bool) (gs:List (Int×Int)) (B:Nat) (w:World) (h:Gs w B tu gs) (hlen:gs.length≤100) :
  Calls Tryz.prog 63 #[.int .i64 a,.int .i64 b,.bool first,.pointer (some ⟨B,0,none⟩),.pointer (some ⟨B+1,0,none⟩)] w (YW B tu (gs++[Ji tu first a b]) w):=by
 obtain ⟨hB,v,hv,hown,hsz⟩:=h
 obtain ⟨i0,hi,hz0,hz1,hz2⟩:=info_parts afs
 have cT:w.cell? ⟨B,0,none⟩=some (.bool tu):=cell_of_one hB
 have cO:w.cell? ⟨B+1,0,none⟩=some v:=cell_of_one hv
 have fO:w.frozen? ⟨B+1,0,none⟩=false:=free_of_one hv
 cases first <;> cases tu
 all_goals
  go_enter Tryz.func63,Tryz.ntmps63
  go_wp2_with (at_builtin; refine wpList_append_own _ rfl _ _ 29 rfl (B+2) 31 i0 (.agg #[.int .i64 0,.int .i64 0]) 2 16 Tryz.underlying29 hi hz0 hz1 hz2 rfl (by decide) v gs.length (flat gs) rfl (hown.alloc _) ⟨w.heap.size,0,none⟩ 1 1 [.int .i64 _,.int .i64 _] rfl rfl (cell_two_new _ _ _ _) ?c2 ?c3 ?c4 ?c5 ?_)
  case c2=>intro u hu; simp at hu; rcases hu with rfl | rfl <;> rfl
  case c3=>unfold maxLen; omega
  case c4=>omega
  case c5=>simp; omega
  intro v' w1 hown' hgrow _
  obtain ⟨gg,cap',rfl⟩:=YV hown' (by omega)
  (first | obtain ⟨hpost,hv1⟩:=Gs.step (g:=(a,b)) _ hB hv hsz hown hown' hgrow | obtain ⟨hpost,hv1⟩:=Gs.step (g:=(b,a)) _ hB hv hsz hown hown' hgrow)
  have HP:=hid hpost
  clear hpost hown' hgrow hown hv hB cT cO fO hsz
  have cO:w1.cell? ⟨B+1,0,none⟩=some v:=cell_of_one hv1
  have fO:w1.frozen? ⟨B+1,0,none⟩=false:=free_of_one hv1
  clear hv1
  go_wp2
  go_returns
  exact ⟨rfl,HP.out.1,HP.out.2⟩
def g0 (n h r:Int) (tu:Bool):List (Int×Int):=if (n % 2 == 0)=true then [Ji tu (r % 2 == 0) r (n - 1)] else []
def gi (h r:Int) (tu:Bool) (i:Int):Int×Int:=Ji tu (i % 2 == 0) ((r+i) % h) ((r+h - i) % h)
def MV (n h r:Int) (tu:Bool) (k:Nat):List (Int×Int):=g0 n h r tu++(List.range k).map fun j:Nat=>gi h r tu ((j:Int)+1)
theorem MW (n h r:Int) (tu:Bool) (k:Nat):MV n h r tu (k+1)=MV n h r tu k++[gi h r tu ((k:Int)+1)]:=by
 unfold MV; rw [List.range_succ,List.map_append,List.append_assoc]; rfl
theorem SA (n h r:Int) (tu:Bool) (k:Nat):(MV n h r tu k).length≤k+1:=by
 unfold MV g0; split <;> simp <;> omega
def tX (n round:Int):List (Int×Int):=MV n (iZ n) (round % iZ n) (decide (iZ n≤round)) ((iZ n+1) / 2 - 1).toNat
def UZ (gs:List (Int×Int)) (w:World) (e:Ending) (w':World):Prop:=∃ v,e=.returned v∧w'.ownsRow (w.heap.size+2) 31 2 v gs.length (flat gs)∧Below w.heap.size w w'
theorem Gs.start (w:World) (tu:Bool):Gs ((w.alloc (.cells #[.bool tu] 4)).alloc (.cells #[.slice none 0 0] 29)) w.heap.size tu []:=by
 refine ⟨?_,.slice none 0 0,?_,World.ownsRow_nil _ _ _ _,by simp⟩
 ·rw [Below.heap_alloc _ _ _ (by simp)]; exact heap_alloc_new w _
 ·have:=heap_alloc_new (w.alloc (.cells #[.bool tu] 4)) (.cells #[.slice none 0 0] 29)
  simpa using this
theorem Gs.drew {w:World} {B:Nat} {tu:Bool} {gs:List (Int×Int)} (h:Gs w B tu gs):Gs w.drew B tu gs:=h
theorem Gs.cells {w:World} {B:Nat} {tu:Bool} {gs:List (Int×Int)} (h:Gs w B tu gs):∃ v,w.cell? ⟨B+1,0,none⟩=some v∧w.ownsRow (B+2) 31 2 v gs.length (flat gs):=by
 obtain ⟨_,v,hv,hown,_⟩:=h
 exact ⟨v,cell_of_one hv,hown⟩
set_option maxHeartbeats 2000000 in
theorem U0 (n round:Int) (w:World) (h0:2≤n) (h1:n≤32) (hr0:0≤round) (hr1:round≤100) :
  Calls Tryz.prog 20 #[.int .i64 n,.int .i64 round] w (UZ (tX n round) w):=by
 have hmf:∀ (fn:Fn) (first cap:Array Value) (w:World),(Instr.makeFunc fn first cap).run Tryz.prog w=.ok (.func fn first cap) w:=fun _ _ _ _=>rfl
 have hb:1≤iZ n∧iZ n≤31:=by unfold iZ; omega
 have HG:Hid (tX n round=MV n (iZ n) (round % iZ n) (decide (iZ n≤round)) ((iZ n+1) / 2 - 1).toNat):=hid rfl
 have hr:0≤round % iZ n∧round % iZ n<iZ n:=⟨Int.emod_nonneg _ (by omega),Int.emod_lt_of_pos _ (by omega)⟩
 go_enter Tryz.func20,Tryz.ntmps20
 go_wp2_with fail
 refine (MR _ _ (by omega) (by omega)).mono ?_
 rintro e w' ⟨rfl,rfl⟩
 generalize iZ n=h at *
 have hh:(h == 0)=false:=by simp; omega
 cases he:(n % 2 == 0)
 ·go_wp2_with fail
  generalize round % h=r at *
  generalize decide (h≤round)=tu at *
  have H0:Hid (MV n h r tu 0=[]):=hid (by unfold MV g0; simp [he])
  have hgs:=Gs.start w tu
  have hbel:Below w.heap.size w ((w.alloc (.cells #[.bool tu] 4)).alloc (.cells #[.slice none 0 0] 29)):=by go_grown
  rw [← H0.out] at hgs
  have HGS:=hid hgs
  clear hgs
  go_loopw [10] (fun i wr=>∃ k:Nat,(k:Int)≤(h+1) / 2 - 1∧i=.int .i64 ((k:Int)+1)∧Hid (Gs wr w.heap.size tu (MV n h r tu k))∧Below w.heap.size w wr) (fun i _=>100 - (intOf i).toNat)
  case atStart=>exact ⟨0,by omega,rfl,HGS,hbel⟩
  case round =>
   obtain ⟨k,hk,rfl,HK,hbl⟩:=hrel
   have hl:=SA n h r tu k
   have HN:=hid (MW n h r tu k)
   by_cases hlt:(k:Int)+1≤(h+1) / 2 - 1
   ·have a1:0≤r+((k:Int)+1):=by omega
    have a2:0≤r+h - ((k:Int)+1):=by omega
    have a3:0≤(k:Int)+1:=by omega
    go_wp2_with fail
    go_region_with (go_at_call 63; refine (add_any _ _ _ tu (MV n h r tu k) w.heap.size _ (Gs.drew HK.out) (by omega)).mono ?_; rintro e w1 ⟨rfl,hg1,hb1⟩)
    all_goals
     have Dq:Below w.heap.size w w1:=(hbl.drew).trans hb1
     have V8:Hid (Gs w1 w.heap.size tu (MV n h r tu (k+1))):=hid (by rw [HN.out]; unfold gi; first | (rw [← Int.tmod_eq_emod_of_nonneg a2]; exact hg1) | (rw [← Int.tmod_eq_emod_of_nonneg a1]; exact hg1))
     clear hg1 hb1 hbl HK
     go_wp2_with fail
     go_roundw
     case rel=>exact ⟨k+1,by omega,by go_num,V8,Dq⟩
     case measure=>simp [intOf]; omega
   ·obtain ⟨v,cv,hown⟩:=HK.out.cells
    have ek:((h+1) / 2 - 1).toNat=k:=by omega
    have HO:=hid hown
    clear hown
    have HE:=hid ek
    clear ek
    go_wp2_with fail
    go_ret
    exact ⟨v,rfl,by rw [HG.out,HE.out]; exact HO.out,hbl⟩
 ·go_wp2_with fail
  generalize round % h=r at *
  generalize decide (h≤round)=tu at *
  have H0:Hid (MV n h r tu 0=[Ji tu (r % 2 == 0) r (n - 1)]):=hid (by unfold MV g0; simp [he])
  refine (add_any r (n - 1) (r % 2 == 0) tu [] w.heap.size _ (Gs.start w tu) (by simp)).mono ?_
  rintro e w1 ⟨rfl,hgs,hb1⟩
  have hbel:Below w.heap.size w w1:=Below.trans (by go_grown) hb1
  rw [List.nil_append,← H0.out] at hgs
  clear hb1
  go_wp2_with fail
  have HGS:=hid hgs
  clear hgs
  go_loopw [10] (fun i wr=>∃ k:Nat,(k:Int)≤(h+1) / 2 - 1∧i=.int .i64 ((k:Int)+1)∧Hid (Gs wr w.heap.size tu (MV n h r tu k))∧Below w.heap.size w wr) (fun i _=>100 - (intOf i).toNat)
  case atStart=>exact ⟨0,by omega,rfl,HGS,hbel⟩
  case round =>
   obtain ⟨k,hk,rfl,HK,hbl⟩:=hrel
   have hl:=SA n h r tu k
   have HN:=hid (MW n h r tu k)
   by_cases hlt:(k:Int)+1≤(h+1) / 2 - 1
   ·have a1:0≤r+((k:Int)+1):=by omega
    have a2:0≤r+h - ((k:Int)+1):=by omega
    have a3:0≤(k:Int)+1:=by omega
    go_wp2_with fail
    go_region_with (go_at_call 63; refine (add_any _ _ _ tu (MV n h r tu k) w.heap.size _ (Gs.drew HK.out) (by omega)).mono ?_; rintro e w1 ⟨rfl,hg1,hb1⟩)
    all_goals
     have Dq:Below w.heap.size w w1:=(hbl.drew).trans hb1
     have V8:Hid (Gs w1 w.heap.size tu (MV n h r tu (k+1))):=hid (by rw [HN.out]; unfold gi; first | (rw [← Int.tmod_eq_emod_of_nonneg a2]; exact hg1) | (rw [← Int.tmod_eq_emod_of_nonneg a1]; exact hg1))
     clear hg1 hb1 hbl HK
     go_wp2_with fail
     go_roundw
     case rel=>exact ⟨k+1,by omega,by go_num,V8,Dq⟩
     case measure=>simp [intOf]; omega
   ·obtain ⟨v,cv,hown⟩:=HK.out.cells
    have ek:((h+1) / 2 - 1).toNat=k:=by omega
    have HO:=hid hown
    clear hown
    have HE:=hid ek
    clear ek
    go_wp2_with fail
    go_ret
    exact ⟨v,rfl,by rw [HG.out,HE.out]; exact HO.out,hbl⟩
end Go.Proofs.YteablcielclaeaaGreatDoor
namespace Go.Proofs.YteablcielclaeaaGreatDoor
set_option linter.unusedVariables false
def tY (n:Int) (g:Int×Int):Bool:=decide (0≤g.1) && decide (g.1<n) && decide (0≤g.2) && decide (g.2<n) && !(g.1 == g.2)
def aiV:Bool:=(List.range 33).all fun n=>(List.range 62).all fun r=>decide (n<2) || (tX n r).all (tY n)
theorem Qp:aiV=true:=by decide +kernel
theorem YX (n round:Nat) (h0:2≤n) (h1:n≤32) (hr:round<62):∀ g∈tX n round,(0≤g.1∧g.1<n∧0≤g.2∧g.2<n∧g.1≠g.2):=by
 have h:=List.all_eq_true.1 Qp n (List.mem_range.2 (by omega))
 have h2:=List.all_eq_true.1 h round (List.mem_range.2 (by omega))
 rw [Bool.or_eq_true,decide_eq_true_eq] at h2
 have h3:=h2.resolve_left (by omega)
 intro g hg
 have h4:=List.all_eq_true.1 h3 g hg
 simp only [tY,Bool.and_eq_true,decide_eq_true_eq,Bool.not_eq_true',beq_eq_false_iff_ne] at h4
 omega
end Go.Proofs.YteablcielclaeaaGreatDoor
namespace Go.Proofs.YteablcielclaeaaGreatDoor
open Go.Maps
open Classical in
noncomputable def upd {α:Type} (f:Value→α) (key:Value) (v:α):Value→α:=fun x=>if x=key then v else f x
theorem upd_same {α:Type} (f:Value→α) (key:Value) (v:α):upd f key v key=v:=by simp [upd]
theorem fP {α:Type} (f:Value→α) {key x:Value} (v:α) (h:x≠key):upd f key v x=f x:=by simp [upd,h]
section
variable {P:Program} {k e t:TypeId} {w:World} {b n:Nat}
theorem GY {H:Type} {R:Value→Option (DataW H×List MemPlace)} {D:DataW H} (h:w.ownsMap P k R b n D):IsMap D:=by
 obtain ⟨es,clock,_,_,_,rfl⟩:=h
 exact ⟨_,rfl⟩
def dn (w:World) (P:Program) (k e:TypeId) (b n:Nat) (f:Value→Int):Prop:=
 ∃ D:DataW Unit,w.ownsMap P k (plainElem P e) b n D∧∀ key kl,keyOf P k key=some kl→D.atKey kl (.lit (.int .i64 0))=.lit (.int .i64 (f key))
def dO (w:World) (P:Program) (k e:TypeId) (b n:Nat) (f:Value→Bool):Prop:=
 ∃ D:DataW Unit,w.ownsMap P k (plainElem P e) b n D∧∀ key kl,keyOf P k key=some kl→D.atKey kl (.lit (.bool false))=.lit (.bool (f key))
theorem yT (w:World) (P:Program) (k e:TypeId):dn (w.alloc (.map #[] 0)) P k e w.heap.size 0 (fun _=>0):=
 ⟨.map [],World.ownsMap_made w P k _,fun _ _ _=>rfl⟩
theorem FI (w:World) (P:Program) (k e:TypeId):dO (w.alloc (.map #[] 0)) P k e w.heap.size 0 (fun _=>false):=
 ⟨.map [],World.ownsMap_made w P k _,fun _ _ _=>rfl⟩
theorem dn.lt {f:Value→Int} (h:dn w P k e b n f):b<w.heap.size:=by obtain ⟨D,h,_⟩:=h; exact h.lt
theorem dO.lt {f:Value→Bool} (h:dO w P k e b n f):b<w.heap.size:=by obtain ⟨D,h,_⟩:=h; exact h.lt
theorem dn.kept {f:Value→Int} {w':World} {row:Option Nat} (h:dn w P k e b n f) (hg:w.grownBy w' row) (hne:some b≠row):dn w' P k e b n f:=by
 obtain ⟨D,h,ha⟩:=h; exact ⟨D,h.kept hg hne,ha⟩
theorem dO.kept {f:Value→Bool} {w':World} {row:Option Nat} (h:dO w P k e b n f) (hg:w.grownBy w' row) (hne:some b≠row):dO w' P k e b n f:=by
 obtain ⟨D,h,ha⟩:=h; exact ⟨D,h.kept hg hne,ha⟩
theorem dn.alloc {f:Value→Int} (h:dn w P k e b n f) (o:Obj):dn (w.alloc o) P k e b n f:=by obtain ⟨D,h,ha⟩:=h; exact ⟨D,h.alloc o,ha⟩
theorem dO.alloc {f:Value→Bool} (h:dO w P k e b n f) (o:Obj):dO (w.alloc o) P k e b n f:=by obtain ⟨D,h,ha⟩:=h; exact ⟨D,h.alloc o,ha⟩
theorem dn.mono {f:Value→Int} (h:dn w P k e b n f) {m:Nat} (hm:n≤m):dn w P k e b m f:=by obtain ⟨D,h,ha⟩:=h; exact ⟨D,h.mono hm,ha⟩
theorem dO.mono {f:Value→Bool} (h:dO w P k e b n f) {m:Nat} (hm:n≤m):dO w P k e b m f:=by obtain ⟨D,h,ha⟩:=h; exact ⟨D,h.mono hm,ha⟩
theorem dn.congr {f g:Value→Int} (h:dn w P k e b n f) (hfg:∀ x,f x=g x):dn w P k e b n g:=by obtain rfl:f=g:=funext hfg; exact h
theorem dO.congr {f g:Value→Bool} (h:dO w P k e b n f) (hfg:∀ x,f x=g x):dO w P k e b n g:=by obtain rfl:f=g:=funext hfg; exact h
theorem wY {H:Type} (he:P.underlying e=some .bool) {v:Value} {z:DataW H×List MemPlace} (h:plainElem P e v=some z):∃ a,v=.bool a∧z=(.lit (.bool a),[]):=by
 unfold plainElem at h
 rw [he] at h
 cases v <;> simp at h
 subst h
 exact ⟨_,rfl,rfl⟩
theorem dn.look {f:Value→Int} (h:dn w P k e b n f) (K:Keyed P k) (ht:P.underlying t=some (.map k e)) (he:P.underlying e=some (.int .i64)) (hz:(zeroValue e).run P w=.ok (.int .i64 0) w)
  {key:Value} (hkey:∃ kl,keyOf P k key=some kl):(Instr.lookup t (.map (some b)) key false).run P w=.ok (.int .i64 (f key)) w∧(Lit.int .i64 (f key)).wf=true:=by
 obtain ⟨D,h,ha⟩:=h
 obtain ⟨kl,hkey⟩:=hkey
 obtain ⟨c,hrun,hat,hwc⟩:=h.lookup_int K ht he hz hkey
 have:=ha key kl hkey
 rw [hat] at this
 simp only [DataW.lit.injEq,Lit.int.injEq,true_and] at this
 subst this
 exact ⟨hrun,hwc⟩
theorem dO.look {f:Value→Bool} (h:dO w P k e b n f) (K:Keyed P k) (ht:P.underlying t=some (.map k e)) (he:P.underlying e=some .bool) (hz:(zeroValue e).run P w=.ok (.bool false) w)
  {key:Value} (hkey:∃ kl,keyOf P k key=some kl):(Instr.lookup t (.map (some b)) key false).run P w=.ok (.bool (f key)) w:=by
 obtain ⟨D,h,ha⟩:=h
 obtain ⟨kl,hkey⟩:=hkey
 obtain ⟨v,ps,hrun,hv⟩:=h.lookup K ht hz (plainElem_bool he false) hkey
 obtain ⟨c,rfl,hc⟩:=wY he hv
 simp only [Prod.mk.injEq] at hc
 have:=ha key kl hkey
 rw [hc.1] at this
 simp only [DataW.lit.injEq,Lit.bool.injEq] at this
 subst this
 exact hrun
theorem dn.store {f:Value→Int} (h:dn w P k e b n f) (K:Keyed P k) (ht:P.underlying t=some (.map k e)) (he:P.underlying e=some (.int .i64)) (hn:n<maxLen)
  {key:Value} (hkey:∃ kl,keyOf P k key=some kl) {v:Int} (hv:(Lit.int .i64 v).wf=true) :
  ∃ w',(Instr.mapUpdate t (.map (some b)) key (.int .i64 v)).run P w=.ok () w'∧dn w' P k e b (n+1) (upd f key v)∧w.grownBy w' (some b):=by
 obtain ⟨D,h,ha⟩:=h
 obtain ⟨kl,hkey⟩:=hkey
 obtain ⟨w',hrun,hown,hg⟩:=h.update K ht hn hkey (plainElem_int he hv)
 refine ⟨w',hrun,⟨_,hown,fun key' kl' hk'=>?_⟩,hg⟩
 by_cases hx:key'=key
 ·subst hx
  rw [hkey] at hk'
  cases hk'
  rw [upd_same,atKey_put_same (GY h) (K.key hkey)]
 ·have hl:kl'≠kl:=fun hl=>hx (K.inj (hl ▸ hk') hkey)
  rw [fP f _ hx,atKey_put_other hl]
  exact ha _ _ hk'
theorem dO.store {f:Value→Bool} (h:dO w P k e b n f) (K:Keyed P k) (ht:P.underlying t=some (.map k e)) (he:P.underlying e=some .bool) (hn:n<maxLen)
  {key:Value} (hkey:∃ kl,keyOf P k key=some kl) (v:Bool) :
  ∃ w',(Instr.mapUpdate t (.map (some b)) key (.bool v)).run P w=.ok () w'∧dO w' P k e b (n+1) (upd f key v)∧w.grownBy w' (some b):=by
 obtain ⟨D,h,ha⟩:=h
 obtain ⟨kl,hkey⟩:=hkey
 obtain ⟨w',hrun,hown,hg⟩:=h.update K ht hn hkey (plainElem_bool he v)
 refine ⟨w',hrun,⟨_,hown,fun key' kl' hk'=>?_⟩,hg⟩
 by_cases hx:key'=key
 ·subst hx
  rw [hkey] at hk'
  cases hk'
  rw [upd_same,atKey_put_same (GY h) (K.key hkey)]
 ·have hl:kl'≠kl:=fun hl=>hx (K.inj (hl ▸ hk') hkey)
  rw [fP f _ hx,atKey_put_other hl]
  exact ha _ _ hk'
open Go.MapKept Go.WideElems Go.ChangeMaps in
theorem dn.entry {f:Value→Int} (h:dn w P k e b n f) (K:Keyed P k) (ht:P.underlying t=some (.map k e)) (he:P.underlying e=some (.int .i64)) (hz:∀ u:World,(zeroValue e).run P u=.ok (.int .i64 0) u) (hn:n<maxLen)
  {key:Value} (hkey:∃ kl,keyOf P k key=some kl) :
  ∃ (st:Nat) (w1:World),(Instr.mapEntry t (.map (some b)) key).run P w=.ok (.tuple #[.int .i64 (f key),goInt st]) w1∧dn w1 P k e b (n+1) f∧w.grownBy w1 (some b) ∧
   ∀ v:Int,(Lit.int .i64 v).wf=true→∃ w2,(Instr.entryStore t (.map (some b)) (goInt st) (.int .i64 v)).run P w1=.ok () w2∧dn w2 P k e b (n+1) (upd f key v)∧w.grownBy w2 (some b):=by
 have hlook:=(h.look K ht he (hz w) hkey).1
 have hst:=fun (v:Int) (hv:(Lit.int .i64 v).wf=true)=>h.store K ht he hn hkey hv
 obtain ⟨D,⟨es,clock,hb,F,hs,hD⟩,ha⟩:=id h
 obtain ⟨kl,hkl⟩:=hkey
 have hgr:∀ o:Obj,w.grownBy { w with heap:=w.heap.setIfInBounds b o } (some b):=fun o=>⟨rfl,rfl,rfl,by simp,fun i _ hi=>by
  have hne:b≠i:=fun hh=>hi (by rw [hh])
  simp [hne]⟩
 have hbs:b<w.heap.size:=(Array.getElem?_eq_some_iff.1 hb).1
 have hset:∀ o:Obj,({ w with heap:=w.heap.setIfInBounds b o }:World).heap[b]?=some o:=fun o=>by simp [hbs]
 obtain ⟨s1,s2,_⟩:=F.stamped
 rcases K.find w hkl es.toList F.keys with ⟨h1,h2⟩ | ⟨j,e0,h1,h2,h3⟩
 ·have aof:∀ v:Value,(Instr.mapUpdate t (.map (some b)) key v).run P w=.ok () { w with heap:=w.heap.setIfInBounds b (.map (es.push ⟨key,v,clock⟩) (clock+1)) }:=fun v=>by
   simp [Instr.mapUpdate,run_underlying ht,MapKept.run_getObj_map hb,K.check w false hkl,h1,MapKept.run_setObj_map _ hb,Result.andThen]
  have h0:f key=0:=by
   have:(Instr.lookup t (.map (some b)) key false).run P w=.ok (.int .i64 0) w:=by
    simp [Instr.lookup,run_underlying ht,MapKept.run_getObj_map hb,K.check w _ hkl,h1,hz,Result.andThen]
   rw [hlook] at this
   simpa using this
  have hfin:∀ v:Int,(Lit.int .i64 v).wf=true→dn { w with heap:=w.heap.setIfInBounds b (.map (es.push ⟨key,.int .i64 v,clock⟩) (clock+1)) } P k e b (n+1) (upd f key v):=fun v hv=>by
   obtain ⟨w',hr,hm,_⟩:=hst v hv
   rw [aof] at hr
   cases hr
   exact hm
  refine ⟨clock,{ w with heap:=w.heap.setIfInBounds b (.map (es.push ⟨key,.int .i64 0,clock⟩) (clock+1)) },?_,?_,hgr _,fun v hv=>⟨_,?_,hfin v hv,hgr _⟩⟩
  ·rw [h0]
   simp [Instr.mapEntry,run_underlying ht,MapKept.run_getObj_map hb,K.check w false hkl,h1,hz,MapKept.run_setObj_map _ hb,Result.andThen]
  ·refine (hfin 0 (by decide)).congr fun x=>?_
   by_cases hx:x=key
   ·rw [hx,upd_same,h0]
   ·rw [fP f _ hx]
  ·have hidx:(es.push ⟨key,.int .i64 0,clock⟩).findIdx? (fun e=>((e.born:Nat):Int) == ((clock:Nat):Int))=some es.size:=by
    rw [findIdx_arr]
    have:=findIdx_born (l:=(es.push ⟨key,.int .i64 0,clock⟩).toList) (j:=es.size) (e0:=⟨key,.int .i64 0,clock⟩) (by
     simp only [Array.toList_push,List.map_append,List.map_cons,List.map_nil]
     refine List.nodup_append.2 ⟨s2,by simp,fun a ha c hc e1=>?_⟩
     simp only [List.mem_singleton] at hc
     obtain ⟨x,hx,rfl⟩:=List.mem_map.1 ha
     have:=s1 x hx
     omega) (by simp)
    exact this
   have hmod:(es.push ⟨key,.int .i64 0,clock⟩).modify es.size (fun e=>{ e with val:=.int .i64 v })=es.push ⟨key,.int .i64 v,clock⟩:=by
    apply Array.ext'
    rw [Array.toList_modify,Array.toList_push,Array.toList_push,← Array.length_toList,modify_last]
   simp [Instr.entryStore,MapKept.run_getObj_map (hset _),asInt,asIntOf,goInt,hidx,hmod,MapKept.run_setObj_map _ (hset _),Result.andThen]
 ·have hj:es[j]?=some e0:=by simpa using h2
  have hval:e0.val=.int .i64 (f key):=by
   have:(Instr.lookup t (.map (some b)) key false).run P w=.ok e0.val w:=by
    simp [Instr.lookup,run_underlying ht,MapKept.run_getObj_map hb,K.check w _ hkl,h1,Result.andThen]
   rw [hlook] at this
   simpa using this.symm
  have hsame:es.modify j (fun e=>{ e with key:=key })=es:=by
   apply Array.ext'
   rw [Array.toList_modify,modify_eq_set _ _ _ _ h2]
   have:({ e0 with key:=key }:MapEntry)=e0:=by rw [← h3]
   rw [this]
   exact set_self _ _ _ h2
  have hfin:∀ v:Int,(Lit.int .i64 v).wf=true→dn { w with heap:=w.heap.setIfInBounds b (.map (es.modify j (fun e'=>{ e' with key:=key,val:=.int .i64 v })) clock) } P k e b (n+1) (upd f key v):=fun v hv=>by
   obtain ⟨w',hr,hm,_⟩:=hst v hv
   have:(Instr.mapUpdate t (.map (some b)) key (.int .i64 v)).run P w=.ok () { w with heap:=w.heap.setIfInBounds b (.map (es.modify j (fun e'=>{ e' with key:=key,val:=.int .i64 v })) clock) }:=by
    simp [Instr.mapUpdate,run_underlying ht,MapKept.run_getObj_map hb,K.check w false hkl,h1,hj,h3,K.stays w hkl,MapKept.run_setObj_map _ hb,Result.andThen]
   rw [this] at hr
   cases hr
   exact hm
  refine ⟨e0.born,{ w with heap:=w.heap.setIfInBounds b (.map es clock) },?_,⟨D,⟨es,clock,hset _,F,by omega,hD⟩,ha⟩,hgr _,fun v hv=>⟨_,?_,hfin v hv,hgr _⟩⟩
  ·simp [Instr.mapEntry,run_underlying ht,MapKept.run_getObj_map hb,K.check w false hkl,h1,hj,h3,K.stays w hkl,hsame,MapKept.run_setObj_map _ hb,Result.andThen,hval]
  ·have hidx:es.findIdx? (fun e=>((e.born:Nat):Int) == ((e0.born:Nat):Int))=some j:=by
    rw [findIdx_arr]
    exact findIdx_born s2 h2
   have hmod:es.modify j (fun e=>{ e with val:=.int .i64 v })=es.modify j (fun e'=>{ e' with key:=key,val:=.int .i64 v }):=by
    apply Array.ext'
    rw [Array.toList_modify,Array.toList_modify,modify_eq_set _ _ _ _ h2,modify_eq_set _ _ _ _ h2,← h3]
   simp [Instr.entryStore,MapKept.run_getObj_map (hset _),asInt,asIntOf,goInt,hidx,hmod,MapKept.run_setObj_map _ (hset _),Result.andThen]
end
end Go.Proofs.YteablcielclaeaaGreatDoor

/- The contract of moves.way. -/
import Derived.Test.YteablcielclaeaaGreatDoorP08
namespace Go.Proofs.YteablcielclaeaaGreatDoor
open Go.ChangeShapes Go.WideShapes Go.ChangeAt Go.RowKit
set_option linter.unusedVariables false
open Go.Lib (hid)
theorem KF {x:uX} (h:iW x=true):(-7≤x.dx∧x.dx≤7)∧(-7≤x.dy∧x.dy≤7)∧(1≤x.most∧x.most≤7)∧(x.take=0∨x.take=1∨x.take=2):=by
 unfold iW at h
 simp only [Bool.and_eq_true,nS] at h
 omega
theorem oU (R:aA) (p:bf) (x:uX) (dy:Int):∀ (n:Nat) (a b:Int),(fB R p x dy n a b).length≤n
 | 0,a,b=>by simp [fB]
 | n+1,a,b=>by
  rw [fB]
  have ih:=oU R p x dy n (a+x.dx) (b+dy)
  split
  ·simp
  ·rw [List.length_append]
   split <;> split <;> simp <;> omega
theorem inside {W H x y:Int} (h1:0≤x) (h2:x<W) (h3:0≤y) (h4:y<H):0≤y * W+x∧y * W+x<W * H:=by
 have a:=Int.mul_nonneg h3 (show 0≤W by omega)
 have b:(y+1) * W≤H * W:=Int.mul_le_mul_of_nonneg_right (by omega) (by omega)
 rw [Int.add_mul,Int.one_mul,Int.mul_comm H W] at b
 omega
theorem row_in {len s:Nat} {W H:Int} (hl:(len:Int)=W * H) (hW:0<W) (hs:s<len):(s:Int) / W<H:=Int.ediv_lt_of_lt_mul hW (by rw [Int.mul_comm]; omega)
def abb (zs:List Int) (w:World) (e:Ending) (w':World):Prop:=∃ v,e=.returned v∧w'.ownsRow w.heap.size 3 1 v zs.length (ints zs)∧Below w.heap.size w w'
set_option maxRecDepth 100000 in
set_option maxHeartbeats 4000000 in
theorem abd (R:aA) (vp vs ve:Value) (p:bf) (vc v0 v1:Value) (s:Nat) (x:uX) (w:World) (hp:fQ w vc p.cells) (K:qg R p) (hs:s<p.cells.length) (hx:iW x=true) :
  Calls Tryz.prog 191 #[(.agg #[.string R.name,.int .i64 R.width,.int .i64 R.height,vp,vs,.bool R.falls,.bool R.keeps,ve,.int .i64 R.blocked,.int .i64 R.quiet,.int .i64 R.bC]),(.agg #[vc,v0,v1,.int .i64 p.turn,.int .i64 p.quiet]),.int .i64 s,(.agg #[.int .i64 x.dx,.int .i64 x.dy,.int .i64 x.most,.int .i64 x.take])] w (abb (iY R p s x) w):=by
 have HC:=hid hp
 obtain ⟨ac,cc,rfl,hc1,hc2⟩:=hp.form
 unfold maxLen at hc2
 have hlen:=K.len
 obtain ⟨hw1,hw2⟩:=K.r.w
 obtain ⟨hh1,hh2⟩:=K.r.h
 have hnp:=K.r.np.2
 obtain ⟨⟨x1,x2⟩,⟨x3,x4⟩,⟨x5,x6⟩,x7⟩:=KF hx
 have Xh:=hid K.cl
 have TK:=hid K.cell
 have HWZ:Hid (iY R p s x=fB R p x (if p.turn=1 then -x.dy else x.dy) x.most.toNat (s % R.width) (s / R.width)):=hid rfl
 have ht:=K.tu
 have q1:(s:Int).tdiv R.width=s / R.width:=Int.tdiv_eq_ediv_of_nonneg (by omega)
 have q2:(s:Int).tmod R.width=s % R.width:=Int.tmod_eq_emod_of_nonneg (by omega)
 have q3:=Int.emod_nonneg (s:Int) (show R.width≠0 by omega)
 have q4:=Int.emod_lt_of_pos (s:Int) (show 0<R.width by omega)
 have q5:0≤(s:Int) / R.width:=Int.ediv_nonneg (by omega) (by omega)
 have q6:(s:Int) / R.width≤s:=Int.ediv_le_self _ (by omega)
 have HQ1:=hid q1
 have HQ2:=hid q2
 have hw0:¬ R.width=0:=by omega
 clear hp hx q1 q2
 go_enter Tryz.func191,Tryz.ntmps191
 go_upto_region 1 with (fail)
 refine KE fun w0 B0 B1 B2 fJ hs_=>?_
 have HB:=hid fJ
 have hz0:w.heap.size+1+1<w0.heap.size:=by omega
 clear hs_ fJ
 have JR:=hid (HC.out.below HB.out (Nat.le_refl _))
 have dL:=hid B0
 have jv:=hid B1
 have JV:=hid B2
 have r1:w0.cell? ⟨w.heap.size,1,none⟩=some (.int .i64 R.width):=B0.cell 1 rfl
 have p2:w0.cell? ⟨w.heap.size+1,3,none⟩=some (.int .i64 p.turn):=B1.cell 3 rfl
 have z1:w0.cell? ⟨w.heap.size+1+1,1,none⟩=some (.int .i64 x.dy):=B2.cell 1 rfl
 have z2:w0.cell? ⟨w.heap.size+1+1,2,none⟩=some (.int .i64 x.most):=B2.cell 2 rfl
 clear B0 B1 B2
 obtain ⟨g,o,rfl,hcell⟩:=eP JR.out (by omega)
 have adx:=hid hcell
 clear hcell
 obtain ⟨n,hn⟩:∃ n:Nat,x.most=(n:Int):=⟨x.most.toNat,by omega⟩
 rw [hn] at z2
 have HN:Hid (x.most.toNat=n):=hid (by omega)
 have hn7:n≤7:=by omega
 clear hn x5 x6
 cases hb:(p.turn == 1)
 ·have hd1 : -7≤x.dy:=by omega
  have hd2:x.dy≤7:=by omega
  have VX:Hid ([]++fB R p x (x.dy) (n - 0) (s % R.width) (s / R.width)=iY R p s x):=hid (by rw [HWZ.out,if_neg (by simpa using hb),HN.out]; rfl)
  have HLZ:Hid ((iY R p s x).length≤n):=hid (by rw [HWZ.out,HN.out]; exact oU _ _ _ _ _ _ _)
  clear HWZ
  go_wp2_with fail
  go_quiet (fail)
  go_wp2_with fail
  go_loopw [9,11,12,32] (fun vo vx vy vi wr=>∃ (k:Nat) (X Y:Int) (out:List Int),k≤n∧vi=.int .i64 k∧vx=.int .i64 X∧vy=.int .i64 Y∧0≤X∧X<R.width∧0≤Y∧Y<R.height∧Hid (wr.ownsRow w0.heap.size 3 1 vo out.length (ints out))∧Hid (out++fB R p x (x.dy) (n - k) X Y=iY R p s x)∧Hid (Below w0.heap.size w0 wr)) (fun _ _ _ i _=>n - (intOf i).toNat)
  case atStart=>exact ⟨0,_,_,[],Nat.zero_le _,rfl,rfl,rfl,q3,q4,q5,row_in Xh.out (by omega) hs,hid (World.ownsRow_nil _ _ _ _),VX,hid (below_drewN (Below.refl _ _) _)⟩
  case round =>
   obtain ⟨k,X,Y,out,hk,rfl,rfl,rfl,hX1,hX2,hY1,hY2,HO,HP,bn⟩:=hrel
   have hsz:=bn.out.size
   have hol:out.length≤7:=by
    have h1:=congrArg List.length HP.out
    rw [List.length_append] at h1
    have:=HLZ.out
    omega
   by_cases hlt:k<n
   ·have HST:Hid (out++fB R p x (x.dy) (n - (k+1)+1) X Y=iY R p s x):=hid (by rw [← HP.out,show n - (k+1)+1=n - k by omega])
    have e1:=(JV.out.below bn.out (by omega)).cell 0 rfl
    have e2:=(dL.out.below bn.out (by omega)).cell 1 rfl
    have e3:=(dL.out.below bn.out (by omega)).cell 2 rfl
    clear HP r1 p2 z1 z2
    by_cases hin:X+x.dx<0∨R.width≤X+x.dx∨Y+x.dy<0∨R.height≤Y+x.dy
    ·have HE:Hid (iY R p s x=out):=hid (by rw [← HST.out,fB,if_pos hin,List.append_nil])
     by_cases o1:X+x.dx<0
     ·go_wp2_with fail
      go_ret
      exact ⟨_,rfl,by rw [HE.out]; exact (own_base HO.out (by omega)),ak HB.out bn.out HB.out.size⟩
     by_cases o2:R.width≤X+x.dx
     ·go_wp2_with fail
      go_ret
      exact ⟨_,rfl,by rw [HE.out]; exact (own_base HO.out (by omega)),ak HB.out bn.out HB.out.size⟩
     by_cases o3:Y+x.dy<0
     ·go_wp2_with fail
      go_ret
      exact ⟨_,rfl,by rw [HE.out]; exact (own_base HO.out (by omega)),ak HB.out bn.out HB.out.size⟩
     have o4:R.height≤Y+x.dy:=by omega
     clear hin
     go_wp2_with fail
     go_ret
     exact ⟨_,rfl,by rw [HE.out]; exact (own_base HO.out (by omega)),ak HB.out bn.out HB.out.size⟩
    ·have n1:0≤X+x.dx:=by omega
     have n2:X+x.dx<R.width:=by omega
     have n3:0≤Y+x.dy:=by omega
     have n4:Y+x.dy<R.height:=by omega
     obtain ⟨i1,i2⟩:=inside n1 n2 n3 n4
     rw [← Xh.out] at i2
     have m1:0≤(Y+x.dy) * R.width:=Int.mul_nonneg n3 (by omega)
     have m2:(Y+x.dy) * R.width≤64:=by omega
     obtain ⟨g2,o2,eg,hcr⟩:=eP (JR.out.below bn.out (Nat.le_refl _)) (by omega)
     simp only [Option.some.injEq,Addr.mk.injEq,and_true] at eg
     obtain ⟨rfl,rfl⟩:=eg
     have hce:=hcr ((Y+x.dy) * R.width+(X+x.dx)).toNat (by omega)
     obtain ⟨b1,b2⟩:=TK.out ((Y+x.dy) * R.width+(X+x.dx)).toNat
     have e5:=(JV.out.below bn.out (by omega)).cell 3 rfl
     have e6:=(jv.out.below bn.out (by omega)).cell 0 rfl
     have e7:=(jv.out.below bn.out (by omega)).cell 3 rfl
     have jf:Hid (out++((if dK x.take (p.cells.getD ((Y+x.dy) * R.width+(X+x.dx)).toNat 0) p.turn=true then [(Y+x.dy) * R.width+(X+x.dx)] else [])++if p.cells.getD ((Y+x.dy) * R.width+(X+x.dx)).toNat 0≠0 then [] else fB R p x (x.dy) (n - (k+1)) (X+x.dx) (Y+x.dy))=iY R p s x):=hid (by rw [← HST.out,fB,if_neg hin])
     clear hcr hin HST
     generalize p.cells.getD ((Y+x.dy) * R.width+(X+x.dx)).toNat 0=c at *
     rcases x7 with et | et | et
     ·rw [et] at e5 jf
      clear et
      by_cases c0:c=0
      ·subst c0
       have oC:Hid (dK 0 0 p.turn=true):=hid (by unfold dK iP; simp)
       clear b1 b2
       go_wp2_with (at_builtin; refine fV 22 3 (.int .i64 0) 1 8 info3 Tryz.underlying22 rfl (by decide) (by rfl) _ _ (by rfl) (w0.heap.size) _ out.length (ints out) [.int .i64 ((Y+x.dy) * R.width+(X+x.dx))] wr HO.out (by omega) rfl gQ (by omega) (by omega) (by rfl) (by rfl) ?_)
       intro g3 cap3 w3 hown3 dA _
       have oz:=hid hown3
       have Pg:=hid dA
       clear hown3 dA
       go_wp2_with fail
       go_roundw
       case rel=>exact ⟨k+1,_,_,out++[(Y+x.dy) * R.width+(X+x.dx)],by omega,by go_num,rfl,rfl,n1,n2,n3,n4,hid (by rw [← iH,List.length_append]; exact oz.out),hid (by rw [← jf.out,oC.out,if_pos rfl,if_neg (by simp),List.append_assoc]),hid (Pg.out.below bn.out (Nat.le_refl _))⟩
       case measure=>simp [intOf]; omega
      have c1:0<c:=by omega
      have c0':(c != 0)=true:=by simpa using c0
      have Xi:(c == 0)=false:=by simpa using c0
      cases hpar:((c - 1) % 2 == p.turn)
      ·have qh:((c - 1) % 2 != p.turn)=true:=by simp [bne,hpar]
       have oC:Hid (dK 0 c p.turn=false):=hid (by unfold dK iP; simp [c1,c0,hpar])
       have HE:Hid (iY R p s x=out++[]):=hid (by rw [← jf.out,oC.out,if_pos c0]; simp)
       clear jf oC
       clear c0
       go_wp2_with fail
       go_ret
       exact ⟨_,rfl,by rw [HE.out,List.append_nil]; exact (own_base HO.out (by omega)),ak HB.out bn.out HB.out.size⟩
      ·have qh:((c - 1) % 2 != p.turn)=false:=by simp [bne,hpar]
       have oC:Hid (dK 0 c p.turn=false):=hid (by unfold dK iP; simp [c0,hpar])
       have HE:Hid (iY R p s x=out++[]):=hid (by rw [← jf.out,oC.out,if_pos c0]; simp)
       clear jf oC
       clear c0
       go_wp2_with fail
       go_ret
       exact ⟨_,rfl,by rw [HE.out,List.append_nil]; exact (own_base HO.out (by omega)),ak HB.out bn.out HB.out.size⟩
     ·rw [et] at e5 jf
      clear et
      by_cases c0:c=0
      ·subst c0
       have oC:Hid (dK 1 0 p.turn=true):=hid (by unfold dK iP; simp)
       clear b1 b2
       go_wp2_with (at_builtin; refine fV 22 3 (.int .i64 0) 1 8 info3 Tryz.underlying22 rfl (by decide) (by rfl) _ _ (by rfl) (w0.heap.size) _ out.length (ints out) [.int .i64 ((Y+x.dy) * R.width+(X+x.dx))] wr HO.out (by omega) rfl gQ (by omega) (by omega) (by rfl) (by rfl) ?_)
       intro g3 cap3 w3 hown3 dA _
       have oz:=hid hown3
       have Pg:=hid dA
       clear hown3 dA
       go_wp2_with fail
       go_roundw
       case rel=>exact ⟨k+1,_,_,out++[(Y+x.dy) * R.width+(X+x.dx)],by omega,by go_num,rfl,rfl,n1,n2,n3,n4,hid (by rw [← iH,List.length_append]; exact oz.out),hid (by rw [← jf.out,oC.out,if_pos rfl,if_neg (by simp),List.append_assoc]),hid (Pg.out.below bn.out (Nat.le_refl _))⟩
       case measure=>simp [intOf]; omega
      have c1:0<c:=by omega
      have c0':(c != 0)=true:=by simpa using c0
      have Xi:(c == 0)=false:=by simpa using c0
      cases hpar:((c - 1) % 2 == p.turn)
      ·have qh:((c - 1) % 2 != p.turn)=true:=by simp [bne,hpar]
       have oC:Hid (dK 1 c p.turn=true):=hid (by unfold dK iP; simp [c1,hpar])
       have HE:Hid (iY R p s x=out++[(Y+x.dy) * R.width+(X+x.dx)]):=hid (by rw [← jf.out,oC.out,if_pos c0]; simp)
       clear jf oC
       clear c0
       go_wp2_with (at_builtin; refine fV 22 3 (.int .i64 0) 1 8 info3 Tryz.underlying22 rfl (by decide) (by rfl) _ _ (by rfl) (w0.heap.size) _ out.length (ints out) [.int .i64 ((Y+x.dy) * R.width+(X+x.dx))] wr HO.out (by omega) rfl gQ (by omega) (by omega) (by rfl) (by rfl) ?_)
       intro g3 cap3 w3 hown3 dA _
       have oz:=hid hown3
       have Pg:=hid dA
       clear hown3 dA
       go_wp2_with fail
       go_ret
       exact ⟨_,rfl,by rw [HE.out,← iH,List.length_append]; exact (own_base oz.out (by omega)),ak HB.out (Pg.out.below bn.out (Nat.le_refl _)) HB.out.size⟩
      ·have qh:((c - 1) % 2 != p.turn)=false:=by simp [bne,hpar]
       have oC:Hid (dK 1 c p.turn=false):=hid (by unfold dK iP; simp [c0,hpar])
       have HE:Hid (iY R p s x=out++[]):=hid (by rw [← jf.out,oC.out,if_pos c0]; simp)
       clear jf oC
       clear c0
       go_wp2_with fail
       go_ret
       exact ⟨_,rfl,by rw [HE.out,List.append_nil]; exact (own_base HO.out (by omega)),ak HB.out bn.out HB.out.size⟩
     ·rw [et] at e5 jf
      clear et
      by_cases c0:c=0
      ·subst c0
       have oC:Hid (dK 2 0 p.turn=false):=hid (by unfold dK iP; simp)
       clear b1 b2
       go_wp2_with fail
       go_roundw
       case rel=>exact ⟨k+1,_,_,out,by omega,by go_num,rfl,rfl,n1,n2,n3,n4,HO,hid (by rw [← jf.out,oC.out,if_neg (by simp),if_neg (by simp),List.nil_append]),bn⟩
       case measure=>simp [intOf]; omega
      have c1:0<c:=by omega
      have c0':(c != 0)=true:=by simpa using c0
      have Xi:(c == 0)=false:=by simpa using c0
      cases hpar:((c - 1) % 2 == p.turn)
      ·have qh:((c - 1) % 2 != p.turn)=true:=by simp [bne,hpar]
       have oC:Hid (dK 2 c p.turn=true):=hid (by unfold dK iP; simp [c1,hpar])
       have HE:Hid (iY R p s x=out++[(Y+x.dy) * R.width+(X+x.dx)]):=hid (by rw [← jf.out,oC.out,if_pos c0]; simp)
       clear jf oC
       clear c0
       go_wp2_with (at_builtin; refine fV 22 3 (.int .i64 0) 1 8 info3 Tryz.underlying22 rfl (by decide) (by rfl) _ _ (by rfl) (w0.heap.size) _ out.length (ints out) [.int .i64 ((Y+x.dy) * R.width+(X+x.dx))] wr HO.out (by omega) rfl gQ (by omega) (by omega) (by rfl) (by rfl) ?_)
       intro g3 cap3 w3 hown3 dA _
       have oz:=hid hown3
       have Pg:=hid dA
       clear hown3 dA
       go_wp2_with fail
       go_ret
       exact ⟨_,rfl,by rw [HE.out,← iH,List.length_append]; exact (own_base oz.out (by omega)),ak HB.out (Pg.out.below bn.out (Nat.le_refl _)) HB.out.size⟩
      ·have qh:((c - 1) % 2 != p.turn)=false:=by simp [bne,hpar]
       have oC:Hid (dK 2 c p.turn=false):=hid (by unfold dK iP; simp [hpar])
       have HE:Hid (iY R p s x=out++[]):=hid (by rw [← jf.out,oC.out,if_pos c0]; simp)
       clear jf oC
       clear c0
       go_wp2_with fail
       go_ret
       exact ⟨_,rfl,by rw [HE.out,List.append_nil]; exact (own_base HO.out (by omega)),ak HB.out bn.out HB.out.size⟩
   ·obtain rfl:k=n:=by omega
    have HE:Hid (iY R p s x=out):=hid (by rw [← HP.out,Nat.sub_self,fB,List.append_nil])
    go_wp2_with fail
    go_ret
    exact ⟨_,rfl,by rw [HE.out]; exact (own_base HO.out (by omega)),ak HB.out bn.out HB.out.size⟩
 ·have hd1 : -7≤-x.dy:=by omega
  have hd2 : -x.dy≤7:=by omega
  have VX:Hid ([]++fB R p x (-x.dy) (n - 0) (s % R.width) (s / R.width)=iY R p s x):=hid (by rw [HWZ.out,if_pos (by simpa using hb),HN.out]; rfl)
  have HLZ:Hid ((iY R p s x).length≤n):=hid (by rw [HWZ.out,HN.out]; exact oU _ _ _ _ _ _ _)
  clear HWZ
  go_wp2_with fail
  go_quiet (fail)
  go_wp2_with fail
  go_loopw [9,11,12,32] (fun vo vx vy vi wr=>∃ (k:Nat) (X Y:Int) (out:List Int),k≤n∧vi=.int .i64 k∧vx=.int .i64 X∧vy=.int .i64 Y∧0≤X∧X<R.width∧0≤Y∧Y<R.height∧Hid (wr.ownsRow w0.heap.size 3 1 vo out.length (ints out))∧Hid (out++fB R p x (-x.dy) (n - k) X Y=iY R p s x)∧Hid (Below w0.heap.size w0 wr)) (fun _ _ _ i _=>n - (intOf i).toNat)
  case atStart=>exact ⟨0,_,_,[],Nat.zero_le _,rfl,rfl,rfl,q3,q4,q5,row_in Xh.out (by omega) hs,hid (World.ownsRow_nil _ _ _ _),VX,hid (below_drewN (Below.refl _ _) _)⟩
  case round =>
   obtain ⟨k,X,Y,out,hk,rfl,rfl,rfl,hX1,hX2,hY1,hY2,HO,HP,bn⟩:=hrel
   have hsz:=bn.out.size
   have hol:out.length≤7:=by
    have h1:=congrArg List.length HP.out
    rw [List.length_append] at h1
    have:=HLZ.out
    omega
   by_cases hlt:k<n
   ·have HST:Hid (out++fB R p x (-x.dy) (n - (k+1)+1) X Y=iY R p s x):=hid (by rw [← HP.out,show n - (k+1)+1=n - k by omega])
    have e1:=(JV.out.below bn.out (by omega)).cell 0 rfl
    have e2:=(dL.out.below bn.out (by omega)).cell 1 rfl
    have e3:=(dL.out.below bn.out (by omega)).cell 2 rfl
    clear HP r1 p2 z1 z2
    by_cases hin:X+x.dx<0∨R.width≤X+x.dx∨Y + -x.dy<0∨R.height≤Y + -x.dy
    ·have HE:Hid (iY R p s x=out):=hid (by rw [← HST.out,fB,if_pos hin,List.append_nil])
     by_cases o1:X+x.dx<0
     ·go_wp2_with fail
      go_ret
      exact ⟨_,rfl,by rw [HE.out]; exact (own_base HO.out (by omega)),ak HB.out bn.out HB.out.size⟩
     by_cases o2:R.width≤X+x.dx
     ·go_wp2_with fail
      go_ret
      exact ⟨_,rfl,by rw [HE.out]; exact (own_base HO.out (by omega)),ak HB.out bn.out HB.out.size⟩
     by_cases o3:Y + -x.dy<0
     ·go_wp2_with fail
      go_ret
      exact ⟨_,rfl,by rw [HE.out]; exact (own_base HO.out (by omega)),ak HB.out bn.out HB.out.size⟩
     have o4:R.height≤Y + -x.dy:=by omega
     clear hin
     go_wp2_with fail
     go_ret
     exact ⟨_,rfl,by rw [HE.out]; exact (own_base HO.out (by omega)),ak HB.out bn.out HB.out.size⟩
    ·have n1:0≤X+x.dx:=by omega
     have n2:X+x.dx<R.width:=by omega
     have n3:0≤Y + -x.dy:=by omega
     have n4:Y + -x.dy<R.height:=by omega
     obtain ⟨i1,i2⟩:=inside n1 n2 n3 n4
     rw [← Xh.out] at i2
     have m1:0≤(Y + -x.dy) * R.width:=Int.mul_nonneg n3 (by omega)
     have m2:(Y + -x.dy) * R.width≤64:=by omega
     obtain ⟨g2,o2,eg,hcr⟩:=eP (JR.out.below bn.out (Nat.le_refl _)) (by omega)
     simp only [Option.some.injEq,Addr.mk.injEq,and_true] at eg
     obtain ⟨rfl,rfl⟩:=eg
     have hce:=hcr ((Y + -x.dy) * R.width+(X+x.dx)).toNat (by omega)
     obtain ⟨b1,b2⟩:=TK.out ((Y + -x.dy) * R.width+(X+x.dx)).toNat
     have e5:=(JV.out.below bn.out (by omega)).cell 3 rfl
     have e6:=(jv.out.below bn.out (by omega)).cell 0 rfl
     have e7:=(jv.out.below bn.out (by omega)).cell 3 rfl
     have jf:Hid (out++((if dK x.take (p.cells.getD ((Y + -x.dy) * R.width+(X+x.dx)).toNat 0) p.turn=true then [(Y + -x.dy) * R.width+(X+x.dx)] else [])++if p.cells.getD ((Y + -x.dy) * R.width+(X+x.dx)).toNat 0≠0 then [] else fB R p x (-x.dy) (n - (k+1)) (X+x.dx) (Y + -x.dy))=iY R p s x):=hid (by rw [← HST.out,fB,if_neg hin])
     clear hcr hin HST
     generalize p.cells.getD ((Y + -x.dy) * R.width+(X+x.dx)).toNat 0=c at *
     rcases x7 with et | et | et
     ·rw [et] at e5 jf
      clear et
      by_cases c0:c=0
      ·subst c0
       have oC:Hid (dK 0 0 p.turn=true):=hid (by unfold dK iP; simp)
       clear b1 b2
       go_wp2_with (at_builtin; refine fV 22 3 (.int .i64 0) 1 8 info3 Tryz.underlying22 rfl (by decide) (by rfl) _ _ (by rfl) (w0.heap.size) _ out.length (ints out) [.int .i64 ((Y + -x.dy) * R.width+(X+x.dx))] wr HO.out (by omega) rfl gQ (by omega) (by omega) (by rfl) (by rfl) ?_)
       intro g3 cap3 w3 hown3 dA _
       have oz:=hid hown3
       have Pg:=hid dA
       clear hown3 dA
       go_wp2_with fail
       go_roundw
       case rel=>exact ⟨k+1,_,_,out++[(Y + -x.dy) * R.width+(X+x.dx)],by omega,by go_num,rfl,rfl,n1,n2,n3,n4,hid (by rw [← iH,List.length_append]; exact oz.out),hid (by rw [← jf.out,oC.out,if_pos rfl,if_neg (by simp),List.append_assoc]),hid (Pg.out.below bn.out (Nat.le_refl _))⟩
       case measure=>simp [intOf]; omega
      have c1:0<c:=by omega
      have c0':(c != 0)=true:=by simpa using c0
      have Xi:(c == 0)=false:=by simpa using c0
      cases hpar:((c - 1) % 2 == p.turn)
      ·have qh:((c - 1) % 2 != p.turn)=true:=by simp [bne,hpar]
       have oC:Hid (dK 0 c p.turn=false):=hid (by unfold dK iP; simp [c1,c0,hpar])
       have HE:Hid (iY R p s x=out++[]):=hid (by rw [← jf.out,oC.out,if_pos c0]; simp)
       clear jf oC
       clear c0
       go_wp2_with fail
       go_ret
       exact ⟨_,rfl,by rw [HE.out,List.append_nil]; exact (own_base HO.out (by omega)),ak HB.out bn.out HB.out.size⟩
      ·have qh:((c - 1) % 2 != p.turn)=false:=by simp [bne,hpar]
       have oC:Hid (dK 0 c p.turn=false):=hid (by unfold dK iP; simp [c0,hpar])
       have HE:Hid (iY R p s x=out++[]):=hid (by rw [← jf.out,oC.out,if_pos c0]; simp)
       clear jf oC
       clear c0
       go_wp2_with fail
       go_ret
       exact ⟨_,rfl,by rw [HE.out,List.append_nil]; exact (own_base HO.out (by omega)),ak HB.out bn.out HB.out.size⟩
     ·rw [et] at e5 jf
      clear et
      by_cases c0:c=0
      ·subst c0
       have oC:Hid (dK 1 0 p.turn=true):=hid (by unfold dK iP; simp)
       clear b1 b2
       go_wp2_with (at_builtin; refine fV 22 3 (.int .i64 0) 1 8 info3 Tryz.underlying22 rfl (by decide) (by rfl) _ _ (by rfl) (w0.heap.size) _ out.length (ints out) [.int .i64 ((Y + -x.dy) * R.width+(X+x.dx))] wr HO.out (by omega) rfl gQ (by omega) (by omega) (by rfl) (by rfl) ?_)
       intro g3 cap3 w3 hown3 dA _
       have oz:=hid hown3
       have Pg:=hid dA
       clear hown3 dA
       go_wp2_with fail
       go_roundw
       case rel=>exact ⟨k+1,_,_,out++[(Y + -x.dy) * R.width+(X+x.dx)],by omega,by go_num,rfl,rfl,n1,n2,n3,n4,hid (by rw [← iH,List.length_append]; exact oz.out),hid (by rw [← jf.out,oC.out,if_pos rfl,if_neg (by simp),List.append_assoc]),hid (Pg.out.below bn.out (Nat.le_refl _))⟩
       case measure=>simp [intOf]; omega
      have c1:0<c:=by omega
      have c0':(c != 0)=true:=by simpa using c0
      have Xi:(c == 0)=false:=by simpa using c0
      cases hpar:((c - 1) % 2 == p.turn)
      ·have qh:((c - 1) % 2 != p.turn)=true:=by simp [bne,hpar]
       have oC:Hid (dK 1 c p.turn=true):=hid (by unfold dK iP; simp [c1,hpar])
       have HE:Hid (iY R p s x=out++[(Y + -x.dy) * R.width+(X+x.dx)]):=hid (by rw [← jf.out,oC.out,if_pos c0]; simp)
       clear jf oC
       clear c0
       go_wp2_with (at_builtin; refine fV 22 3 (.int .i64 0) 1 8 info3 Tryz.underlying22 rfl (by decide) (by rfl) _ _ (by rfl) (w0.heap.size) _ out.length (ints out) [.int .i64 ((Y + -x.dy) * R.width+(X+x.dx))] wr HO.out (by omega) rfl gQ (by omega) (by omega) (by rfl) (by rfl) ?_)
       intro g3 cap3 w3 hown3 dA _
       have oz:=hid hown3
       have Pg:=hid dA
       clear hown3 dA
       go_wp2_with fail
       go_ret
       exact ⟨_,rfl,by rw [HE.out,← iH,List.length_append]; exact (own_base oz.out (by omega)),ak HB.out (Pg.out.below bn.out (Nat.le_refl _)) HB.out.size⟩
      ·have qh:((c - 1) % 2 != p.turn)=false:=by simp [bne,hpar]
       have oC:Hid (dK 1 c p.turn=false):=hid (by unfold dK iP; simp [c0,hpar])
       have HE:Hid (iY R p s x=out++[]):=hid (by rw [← jf.out,oC.out,if_pos c0]; simp)
       clear jf oC
       clear c0
       go_wp2_with fail
       go_ret
       exact ⟨_,rfl,by rw [HE.out,List.append_nil]; exact (own_base HO.out (by omega)),ak HB.out bn.out HB.out.size⟩
     ·rw [et] at e5 jf
      clear et
      by_cases c0:c=0
      ·subst c0
       have oC:Hid (dK 2 0 p.turn=false):=hid (by unfold dK iP; simp)
       clear b1 b2
       go_wp2_with fail
       go_roundw
       case rel=>exact ⟨k+1,_,_,out,by omega,by go_num,rfl,rfl,n1,n2,n3,n4,HO,hid (by rw [← jf.out,oC.out,if_neg (by simp),if_neg (by simp),List.nil_append]),bn⟩
       case measure=>simp [intOf]; omega
      have c1:0<c:=by omega
      have c0':(c != 0)=true:=by simpa using c0
      have Xi:(c == 0)=false:=by simpa using c0
      cases hpar:((c - 1) % 2 == p.turn)
      ·have qh:((c - 1) % 2 != p.turn)=true:=by simp [bne,hpar]
       have oC:Hid (dK 2 c p.turn=true):=hid (by unfold dK iP; simp [c1,hpar])
       have HE:Hid (iY R p s x=out++[(Y + -x.dy) * R.width+(X+x.dx)]):=hid (by rw [← jf.out,oC.out,if_pos c0]; simp)
       clear jf oC
       clear c0
       go_wp2_with (at_builtin; refine fV 22 3 (.int .i64 0) 1 8 info3 Tryz.underlying22 rfl (by decide) (by rfl) _ _ (by rfl) (w0.heap.size) _ out.length (ints out) [.int .i64 ((Y + -x.dy) * R.width+(X+x.dx))] wr HO.out (by omega) rfl gQ (by omega) (by omega) (by rfl) (by rfl) ?_)
       intro g3 cap3 w3 hown3 dA _
       have oz:=hid hown3
       have Pg:=hid dA
       clear hown3 dA
       go_wp2_with fail
       go_ret
       exact ⟨_,rfl,by rw [HE.out,← iH,List.length_append]; exact (own_base oz.out (by omega)),ak HB.out (Pg.out.below bn.out (Nat.le_refl _)) HB.out.size⟩
      ·have qh:((c - 1) % 2 != p.turn)=false:=by simp [bne,hpar]
       have oC:Hid (dK 2 c p.turn=false):=hid (by unfold dK iP; simp [hpar])
       have HE:Hid (iY R p s x=out++[]):=hid (by rw [← jf.out,oC.out,if_pos c0]; simp)
       clear jf oC
       clear c0
       go_wp2_with fail
       go_ret
       exact ⟨_,rfl,by rw [HE.out,List.append_nil]; exact (own_base HO.out (by omega)),ak HB.out bn.out HB.out.size⟩
   ·obtain rfl:k=n:=by omega
    have HE:Hid (iY R p s x=out):=hid (by rw [← HP.out,Nat.sub_self,fB,List.append_nil])
    go_wp2_with fail
    go_ret
    exact ⟨_,rfl,by rw [HE.out]; exact (own_base HO.out (by omega)),ak HB.out bn.out HB.out.size⟩
end Go.Proofs.YteablcielclaeaaGreatDoor

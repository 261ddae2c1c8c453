/- The contract of rules.pieces. -/
import Derived.Test.YteablcielclaeaaGreatDoorP01
namespace Go.Proofs.YteablcielclaeaaGreatDoor
open Go.ChangeShapes Go.WideShapes Go.ChangeAt Go.RowKit
set_option linter.unusedVariables false
open Go.Lib (hid)
theorem WE (x:jk) (cs:List Value) (l:Int) (B:Nat) (w:World) (hE:iF.E w x cs) (h1:w.cell? ⟨B,0,none⟩=some (.int .u8 l)) (hB:B<w.heap.size) :
  Calls Tryz.prog 182 (#[.agg cs.toArray] ++ #[.pointer (some ⟨B,0,none⟩)]) w fun e w'=>e=.returned (.bool (x.letter == l))∧Below w.heap.size w w':=by
 obtain ⟨v,rfl,-⟩:=hE
 obtain ⟨xl,xh,xp,xw⟩:=x
 show Calls Tryz.prog 182 #[.agg #[.int .u8 xl,.int .i64 xh,.int .i64 xp,v],.pointer (some ⟨B,0,none⟩)] w _
 go_enter Tryz.func182,Tryz.ntmps182
 go_wp2
 go_ret
 exact ⟨rfl,(Below.refl _ _).alloc (by go_size) _⟩
theorem WG (args:Array Value) (w:World):(callFunc 182 args).run Tryz.prog w=.ok (.enter 182 args) w:=by kernel_rfl
theorem WH (ws:List uX) (k:Nat) (h:k<ws.length):(ws.drop k).all iW=(iW (ws.getD k default) && (ws.drop (k+1)).all iW):=by
 rw [List.drop_eq_getElem_cons h,List.all_cons,List.getD_eq_getElem?_getD,List.getElem?_eq_getElem h]; rfl
theorem J8 (ps:List jk) (i:Nat) (x:jk) (h:ps.getD i default=x):eH ps i=if x.letter<65∨90<x.letter then 6
 else if (ps.take i).any (fun q=>q.letter == x.letter)=true then 7
 else if wb x.hand 0 64=false∨wb x.promote 0 ps.length=false then 4
 else if 16<x.ways.length then 2
 else if x.ways.all iW=true then 0 else 4:=by subst h; rfl
set_option maxRecDepth 100000 in
set_option maxHeartbeats 4000000 in
theorem OI (R:aA) (vp vs ve:Value) (w:World) (h:pV w R vp vs ve) :
  Calls Tryz.prog 141 #[(.agg #[.string R.name,.int .i64 R.width,.int .i64 R.height,vp,vs,.bool R.falls,.bool R.keeps,ve,.int .i64 R.blocked,.int .i64 R.quiet,.int .i64 R.bC])] w fun e w'=>e=.returned (.int .i64 (dG R.pieces))∧Below w.heap.size w w':=by
 obtain ⟨hp,hs,he⟩:=h
 obtain ⟨ap,cp,rfl,hp1,hp2⟩:=hp.form
 unfold maxLen at hp2
 have HC:Hid (dG R.pieces=if R.pieces.length=0 then 8 else if 6<R.pieces.length then 2 else mO (eH R.pieces) 0 R.pieces.length):=hid rfl
 generalize R.pieces=ps at *
 have HP:=hid hp
 clear hs he hp
 rcases (by omega:ps.length=0∨6<ps.length∨(1≤ps.length∧ps.length≤6)) with h0 | h6 | ⟨h0,h6⟩
 ·have HR:Hid (dG ps=8):=hid (by rw [HC.out,if_pos h0])
  have q0:((ps.length:Int) == 0)=true:=by simp [h0]
  clear h0 HC
  go_enter Tryz.func141,Tryz.ntmps141
  go_wp2
  go_ret
  exact ⟨by rw [HR.out]; rfl,(Below.refl _ _).alloc (by go_size) _⟩
 ·have HR:Hid (dG ps=2):=hid (by rw [HC.out,if_neg (by omega),if_pos h6])
  have q0:((ps.length:Int) == 0)=false:=by rw [beq_eq_false_iff_ne]; omega
  have h6':(6:Int)<(ps.length:Int):=by omega
  clear HC
  go_enter Tryz.func141,Tryz.ntmps141
  go_wp2
  go_ret
  exact ⟨by rw [HR.out]; rfl,(Below.refl _ _).alloc (by go_size) _⟩
 ·have q0:((ps.length:Int) == 0)=false:=by rw [beq_eq_false_iff_ne]; omega
  have h6':¬ (6:Int)<(ps.length:Int):=by omega
  have HR:Hid (dG ps=mO (eH ps) 0 ps.length):=hid (by rw [HC.out,if_neg (by omega),if_neg (by omega)])
  clear HC
  go_enter Tryz.func141,Tryz.ntmps141
  go_wp2_with fail
  go_loopw [18] (fun i wr=>∃ k:Nat,k≤ps.length∧i=.int .i64 k∧Hid (mO (eH ps) 0 ps.length=mO (eH ps) k (ps.length - k))∧Below (w.heap.size+1) (w.alloc (.cells #[.string R.name,.int .i64 R.width,.int .i64 R.height,(.slice ap ps.length cp),vs,.bool R.falls,.bool R.keeps,ve,.int .i64 R.blocked,.int .i64 R.quiet,.int .i64 R.bC] 61)) wr) (fun i _=>ps.length - (intOf i).toNat)
  case atStart=>exact ⟨0,Nat.zero_le _,rfl,hid rfl,Below.refl _ _⟩
  case round =>
   obtain ⟨k,hk,rfl,HK,hbl⟩:=hrel
   have hz:=hbl.size
   simp at hz
   have hz1:w.heap.size<wr.heap.size:=by omega
   have hbel:Below w.heap.size w wr:=((Below.refl _ _).alloc (by go_size) _).trans (hbl.mono (by go_size))
   by_cases hlt:k<ps.length
   ·have HS:=hid (CJ (eH ps) k ps.length hlt)
    have OJ:=hid (HP.out.below hbel (Nat.le_refl _))
    obtain ⟨g,o,rfl,hg,hc⟩:=lV OJ.out (by omega)
    obtain ⟨vw,d0,d1,d2,d3,hw⟩:=hc k hlt
    have q3:wr.cell? ⟨w.heap.size,3,none⟩=some (.slice (some ⟨g,o,none⟩) ps.length cp):=(hbl.cell (by simp)).trans (by simp [go_sem])
    have hk0:(0:Int)≤(k:Int):=by omega
    have hk1:(k:Int)<(ps.length:Int):=by omega
    generalize hx:ps.getD k default=x at *
    have HX:=hid (J8 ps k x hx)
    have HB:=hid hbl
    have HBE:=hid hbel
    clear hc hx hbl hbel
    obtain ⟨xl,xh,xp,xw⟩:=x
    simp only at d0 d1 d2 d3 hw HX
    obtain ⟨aw,cw,rfl,hw1,hw2⟩:=hw.form
    unfold maxLen at hw2
    have HW:=hid hw
    clear hw
    have hsl:∀ w:World,(Instr.slice 58 (.slice (some ⟨g,o,none⟩) ps.length cp) none (some (.int .i64 (k:Int))) none).run Tryz.prog w=.ok (.slice (some ⟨g,o,none⟩) k cp) w:=fun w=>nU (s:=4) Tryz.underlying58 (fun _=>by kernel_rfl) _ _ _ _ (by omega) w
    have HSL:=hid hsl
    clear hsl
    by_cases c1:xl<65
    ·have HE:Hid (eH ps k=6):=hid (by rw [HX.out,if_pos (.inl c1)])
     go_wp2_with fail
     go_ret
     exact ⟨by rw [HR.out,HK.out,HS.out,if_neg (by rw [HE.out]; decide),HE.out]; rfl,HBE.out.alloc (by go_size) _⟩
    by_cases c2:90<xl
    ·have HE:Hid (eH ps k=6):=hid (by rw [HX.out,if_pos (.inr c2)])
     go_wp2_with fail
     go_ret
     exact ⟨by rw [HR.out,HK.out,HS.out,if_neg (by rw [HE.out]; decide),HE.out]; rfl,HBE.out.alloc (by go_size) _⟩
    have hsl:=HSL.out
    go_wp2_with fail
    refine (Bo _ (ps.take k) (fun q=>q.letter == xl) 182 _ _ ((OJ.out.take k (by omega)).below ((Below.refl _ _).alloc (by go_size) _) (by go_size)) WG (fun W x cs _ hE hb=>WE x cs xl _ W hE ((hb.cell (by go_size)).trans (by simp [go_sem])) (by have:=hb.size; simp at this; omega))).mono ?_
    rintro e w1 ⟨rfl,hb1⟩
    have hs1:=hb1.size
    simp at hs1
    have z1:w.heap.size<w1.heap.size:=by omega
    have z2:wr.heap.size<w1.heap.size:=by omega
    have e0:w1.cell? ⟨wr.heap.size,0,none⟩=some (.int .u8 xl):=(hb1.cell (by go_size)).trans (by simp [go_sem])
    have e1:w1.cell? ⟨wr.heap.size,1,none⟩=some (.int .i64 xh):=(hb1.cell (by go_size)).trans (by simp [go_sem])
    have e2:w1.cell? ⟨wr.heap.size,2,none⟩=some (.int .i64 xp):=(hb1.cell (by go_size)).trans (by simp [go_sem])
    have e3:w1.cell? ⟨wr.heap.size,3,none⟩=some (.slice aw xw.length cw):=(hb1.cell (by go_size)).trans (by simp [go_sem])
    have e4:w1.cell? ⟨w.heap.size,3,none⟩=some (.slice (some ⟨g,o,none⟩) ps.length cp):=(hb1.cell (by go_size)).trans (by rw [World.cell?_alloc_past _ _ _ hz1]; exact q3)
    have HB1:Hid (Below (w.heap.size+1) (w.alloc (.cells #[.string R.name,.int .i64 R.width,.int .i64 R.height,(.slice (some ⟨g,o,none⟩) ps.length cp),vs,.bool R.falls,.bool R.keeps,ve,.int .i64 R.blocked,.int .i64 R.quiet,.int .i64 R.bC] 61)) w1):=hid ((HB.out.alloc (by go_size) _).trans (hb1.mono (by go_size)))
    have HW1:=hid (((HW.out.below ((Below.refl wr.heap.size wr).alloc (by go_size) (.cells #[.int .u8 xl,.int .i64 xh,.int .i64 xp,.slice aw xw.length cw] 137)) (Nat.le_refl _)).below hb1 (by go_size)))
    have qN:Hid (Below w.heap.size w w1):=hid (((Below.refl _ _).alloc (by go_size) _).trans (HB1.out.mono (by go_size)))
    clear hb1 d0 d1 d2 d3 q3
    cases t1:(ps.take k).any (fun q=>q.letter == xl)
    rotate_left
    ·have HE:Hid (eH ps k=7):=hid (by rw [HX.out,if_neg (by omega),if_pos t1])
     go_wp2_with fail
     go_ret
     exact ⟨by rw [HR.out,HK.out,HS.out,if_neg (by rw [HE.out]; decide),HE.out]; rfl,qN.out⟩
    cases t2:wb xh 0 64
    ·have HE:Hid (eH ps k=4):=hid (by rw [HX.out,if_neg (by omega),if_neg (by simp [t1]),if_pos (.inl t2)])
     go_wp2_with (go_at_call 140; refine (au _ _ _ _).mono ?_; rintro e w' ⟨rfl,rfl⟩)
     go_ret
     exact ⟨by rw [HR.out,HK.out,HS.out,if_neg (by rw [HE.out]; decide),HE.out]; rfl,qN.out⟩
    cases t3:wb xp 0 ps.length
    ·have HE:Hid (eH ps k=4):=hid (by rw [HX.out,if_neg (by omega),if_neg (by simp [t1]),if_pos (.inr t3)])
     go_wp2_with (go_at_call 140; refine (au _ _ _ _).mono ?_; rintro e w' ⟨rfl,rfl⟩)
     go_ret
     exact ⟨by rw [HR.out,HK.out,HS.out,if_neg (by rw [HE.out]; decide),HE.out]; rfl,qN.out⟩
    by_cases t4:16<xw.length
    ·have HE:Hid (eH ps k=2):=hid (by rw [HX.out,if_neg (by omega),if_neg (by simp [t1]),if_neg (by simp [t2,t3]),if_pos t4])
     have t4':(16:Int)<(xw.length:Int):=by omega
     go_wp2_with (go_at_call 140; refine (au _ _ _ _).mono ?_; rintro e w' ⟨rfl,rfl⟩)
     go_ret
     exact ⟨by rw [HR.out,HK.out,HS.out,if_neg (by rw [HE.out]; decide),HE.out]; rfl,qN.out⟩
    have t4':¬ (16:Int)<(xw.length:Int):=by omega
    have HE:Hid (eH ps k=if xw.all iW=true then 0 else 4):=hid (by rw [HX.out,if_neg (by omega),if_neg (by simp [t1]),if_neg (by simp [t2,t3]),if_neg (by omega)])
    have HT1:=hid t1
    have HT2:=hid t2
    have HT3:=hid t3
    go_wp2_with (go_at_call 140; refine (au _ _ _ _).mono ?_; rintro e w' ⟨rfl,rfl⟩)
    clear t1 t2 t3 e0 e1 e2 e3 e4 HX HSL
    go_loopw [61] (fun i wr2=>∃ m:Nat,m≤xw.length∧i=.int .i64 m∧Hid (xw.all iW=(xw.drop m).all iW)∧Below w1.heap.size w1 wr2) (fun i _=>xw.length - (intOf i).toNat)
    case atStart=>exact ⟨0,Nat.zero_le _,rfl,hid rfl,Below.refl _ _⟩
    case round =>
     obtain ⟨m,hm,rfl,HM,hbm⟩:=hrel
     by_cases hlm:m<xw.length
     ·obtain ⟨g2,o2,rfl,hg2,hc2⟩:=Gf (HW1.out.below hbm (Nat.le_refl _)) (by omega)
      obtain ⟨d0,d1,d2,d3⟩:=hc2 m hlm
      have WI:=hid (WH xw m hlm)
      have hm0:(0:Int)≤(m:Int):=by omega
      have hm1:(m:Int)<(xw.length:Int):=by omega
      have eF:=hid hbm
      clear hc2 hbm
      generalize xw.getD m default=y at *
      obtain ⟨y1,y2,y3,y4⟩:=y
      simp only at d0 d1 d2 d3
      have HY:Hid (iW ⟨y1,y2,y3,y4⟩=(wb y1 (-7) 7 && wb y2 (-7) 7 && !(y1 == 0 && y2 == 0) && wb y3 1 7 && wb y4 0 2)):=hid rfl
      cases b1:wb y1 (-7) 7
      ·skip
       have hy:iW ⟨y1,y2,y3,y4⟩=false:=by rw [HY.out]; simp [b1]
       have Hy:=hid hy
       clear hy
       go_wp2_with (go_at_call 140; refine (au _ _ _ _).mono ?_; rintro e w' ⟨rfl,rfl⟩)
       go_ret
       exact ⟨by rw [HR.out,HK.out,HS.out,HE.out,HM.out,WI.out,Hy.out]; rfl,(qN.out.trans (eF.out.mono (by have:=qN.out.size; omega))).alloc (by have:=eF.out.size; have:=qN.out.size; omega) _⟩
      cases b2:wb y2 (-7) 7
      ·skip
       have hy:iW ⟨y1,y2,y3,y4⟩=false:=by rw [HY.out]; simp [b2]
       have Hy:=hid hy
       clear hy
       go_wp2_with (go_at_call 140; refine (au _ _ _ _).mono ?_; rintro e w' ⟨rfl,rfl⟩)
       go_ret
       exact ⟨by rw [HR.out,HK.out,HS.out,HE.out,HM.out,WI.out,Hy.out]; rfl,(qN.out.trans (eF.out.mono (by have:=qN.out.size; omega))).alloc (by have:=eF.out.size; have:=qN.out.size; omega) _⟩
      rcases (by cases (y1 == 0) <;> cases (y2 == 0) <;> simp:((y1 == 0)=true∧(y2 == 0)=true)∨((y1 == 0)=true∧(y2 == 0)=false)∨(y1 == 0)=false) with ⟨b3,b4⟩ | b34
      ·skip
       have hy:iW ⟨y1,y2,y3,y4⟩=false:=by rw [HY.out]; simp [b3,b4]
       have Hy:=hid hy
       clear hy
       go_wp2_with (go_at_call 140; refine (au _ _ _ _).mono ?_; rintro e w' ⟨rfl,rfl⟩)
       go_ret
       exact ⟨by rw [HR.out,HK.out,HS.out,HE.out,HM.out,WI.out,Hy.out]; rfl,(qN.out.trans (eF.out.mono (by have:=qN.out.size; omega))).alloc (by have:=eF.out.size; have:=qN.out.size; omega) _⟩
      rcases b34 with ⟨b3,b4⟩ | b3
      all_goals
       cases b5:wb y3 1 7
       ·have hy:iW ⟨y1,y2,y3,y4⟩=false:=by rw [HY.out]; simp [b5]
        have Hy:=hid hy
        clear hy
        go_wp2_with (go_at_call 140; refine (au _ _ _ _).mono ?_; rintro e w' ⟨rfl,rfl⟩)
        go_ret
        exact ⟨by rw [HR.out,HK.out,HS.out,HE.out,HM.out,WI.out,Hy.out]; rfl,(qN.out.trans (eF.out.mono (by have:=qN.out.size; omega))).alloc (by have:=eF.out.size; have:=qN.out.size; omega) _⟩
       cases b6:wb y4 0 2
       ·have hy:iW ⟨y1,y2,y3,y4⟩=false:=by rw [HY.out]; simp [b6]
        have Hy:=hid hy
        clear hy
        go_wp2_with (go_at_call 140; refine (au _ _ _ _).mono ?_; rintro e w' ⟨rfl,rfl⟩)
        go_ret
        exact ⟨by rw [HR.out,HK.out,HS.out,HE.out,HM.out,WI.out,Hy.out]; rfl,(qN.out.trans (eF.out.mono (by have:=qN.out.size; omega))).alloc (by have:=eF.out.size; have:=qN.out.size; omega) _⟩
       have hy:iW ⟨y1,y2,y3,y4⟩=true:=by rw [HY.out,b1,b2,b3,b5,b6]; first | rfl | (rw [b4]; rfl)
       have Hy:=hid hy
       clear hy
       go_wp2_with (go_at_call 140; refine (au _ _ _ _).mono ?_; rintro e w' ⟨rfl,rfl⟩)
       go_roundw
       case rel=>exact ⟨m+1,by omega,by go_num,hid (by rw [HM.out,WI.out,Hy.out,Bool.true_and]),eF.out.alloc eF.out.size _⟩
       case measure=>simp [intOf]; omega
     ·obtain rfl:m=xw.length:=by omega
      have HZ:Hid (eH ps k=0):=hid (by rw [HE.out,HM.out]; simp)
      go_wp2_with fail
      go_roundw
      case rel=>exact ⟨k+1,by omega,by go_num,hid (by rw [HK.out,HS.out,if_pos HZ.out]),HB1.out.trans (hbm.mono (by omega))⟩
      case measure=>simp [intOf]; omega
   ·obtain rfl:k=ps.length:=by omega
    go_wp2_with fail
    go_ret
    exact ⟨by rw [HR.out,HK.out,Nat.sub_self]; rfl,hbel⟩
end Go.Proofs.YteablcielclaeaaGreatDoor

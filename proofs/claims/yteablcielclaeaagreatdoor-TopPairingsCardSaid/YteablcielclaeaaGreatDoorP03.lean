/- EngCond, IntsFunc, EngRules. -/
import Derived.Test.YteablcielclaeaaGreatDoorP02
namespace Go.Proofs.YteablcielclaeaaGreatDoor
open Go.ChangeShapes Go.WideShapes Go.ChangeAt Go.RowKit
set_option linter.unusedVariables false
open Go.Lib (hid)
set_option maxRecDepth 100000 in
set_option maxHeartbeats 4000000 in
theorem CQ (R:aA) (vp vs ve:Value) (w:World) (h:pV w R vp vs ve) (hn:1≤R.pieces.length) :
    Calls Tryz.prog 143 #[(.agg #[.string R.name,.int .i64 R.width,.int .i64 R.height,vp,vs,.bool R.falls,.bool R.keeps,ve,.int .i64 R.blocked,.int .i64 R.quiet,.int .i64 R.bC])] w fun e w'=>e=.returned (.int .i64 (jh R))∧Below w.heap.size w w':=by
  obtain ⟨hp,hs,he⟩:=h
  obtain ⟨ap,cp,rfl,hp1,hp2⟩:=hp.form
  obtain ⟨ae,ce,rfl,he1,he2⟩:=he.form
  unfold maxLen at hp2 he2
  have HC:Hid (jh R=if 6<R.ends.length then 2 else mO (fun i=>nT R.pieces.length (R.ends.getD i default)) 0 R.ends.length):=hid rfl
  generalize hlp:R.pieces.length=np at *
  generalize hes:R.ends=es at *
  have HE:=hid he
  clear hlp hes hp hs he
  by_cases h6:6<es.length
  · have h6':(6:Int)<(es.length:Int):=by omega
    go_enter Tryz.func143,Tryz.ntmps143
    go_wp2
    go_ret
    exact ⟨by rw [HC.out,if_pos h6]; rfl,(Below.refl _ _).alloc (by go_size) _⟩
  · have h6':¬ (6:Int)<(es.length:Int):=by omega
    go_enter Tryz.func143,Tryz.ntmps143
    go_wp2_with fail
    go_loopw [14] (fun i wr=>∃ k:Nat,k≤es.length∧i=.int .i64 k∧Hid (mO (fun i=>nT np (es.getD i default)) 0 es.length=mO (fun i=>nT np (es.getD i default)) k (es.length - k))∧Below (w.heap.size+1) (w.alloc (.cells #[.string R.name,.int .i64 R.width,.int .i64 R.height,(.slice ap np cp),vs,.bool R.falls,.bool R.keeps,(.slice ae es.length ce),.int .i64 R.blocked,.int .i64 R.quiet,.int .i64 R.bC] 61)) wr) (fun i _=>es.length - (intOf i).toNat)
    case atStart=>exact ⟨0,Nat.zero_le _,rfl,hid rfl,Below.refl _ _⟩
    case round =>
      obtain ⟨k,hk,rfl,HK,hbl⟩:=hrel
      have hz:=hbl.size
      simp at hz
      have hz1:w.heap.size<wr.heap.size:=by omega
      have hbel:Below w.heap.size w wr:=((Below.refl _ _).alloc (by go_size) _).trans (hbl.mono (by go_size))
      by_cases hlt:k<es.length
      · have HS:=hid (CJ (fun i=>nT np (es.getD i default)) k es.length hlt)
        obtain ⟨g,o,rfl,hg,hc⟩:=Gg (HE.out.below hbel (Nat.le_refl _)) (by omega)
        obtain ⟨d0,d1,d2,d3⟩:=hc k hlt
        have q3:wr.cell? ⟨w.heap.size,3,none⟩=some (.slice ap np cp):=(hbl.cell (by simp)).trans (by simp [go_sem])
        have hk0:(0:Int)≤(k:Int):=by omega
        have hk1:(k:Int)<(es.length:Int):=by omega
        have hw1:IntKind.i64.wrap ((np:Int) - 1)=(np:Int) - 1:=IntWalk.i64_in _ (by omega)
        clear hc
        generalize es.getD k default=x at *
        obtain ⟨xk,xp,xc,xl⟩:=x
        simp only at d0 d1 d2 d3
        have HX:Hid (nT np ⟨xk,xp,xc,xl⟩=if (xk == 0)=true then (if (wb xc 1 64 && xp == 0)=true then 0 else 4) else if (xk == 1)=true then (if (xc == 0 && wb xp 0 ((np:Int) - 1))=true then 0 else 4) else if (xk == 2)=true then (if (wb xc 1 64 && wb xp 0 ((np:Int) - 1))=true then 0 else 4) else 1):=hid rfl
        cases k0:(xk == 0)
        · cases k1:(xk == 1)
          · cases k2:(xk == 2)
            · skip
              have mZ:=HX.out
              simp only [k0,k1,k2,if_false,Bool.false_eq_true] at mZ
              clear HX
              have HX:=hid mZ
              clear mZ
              go_wp2_with fail
              go_quiet ((go_at_call 140; exact J7 (au _ _ _)))
              go_wp2_with fail
              first
                | (go_roundw
                   case rel=>exact ⟨k+1,by omega,by go_num,hid (by rw [HK.out,HS.out,if_pos HX.out]),below_drewN (hbl.alloc (by go_size) _) _⟩
                   case measure=>simp [intOf]; omega)
                | (go_ret
                   exact ⟨by rw [HC.out,if_neg (by omega),HK.out,HS.out,if_neg (by rw [HX.out]; decide),HX.out]; rfl,below_drewN (hbel.alloc (by go_size) _) _⟩)
            · cases b1:wb xc 1 64 <;> cases b2:wb xp 0 ((np:Int) - 1)
              all_goals
                have mZ:=HX.out
                simp only [k0,k1,k2,b1,b2,Bool.and_true,Bool.and_false,Bool.true_and,Bool.false_and,if_true,if_false,Bool.false_eq_true] at mZ
                clear HX
                have HX:=hid mZ
                clear mZ
                go_wp2_with fail
                go_quiet ((go_at_call 140; exact J7 (au _ _ _)))
                go_wp2_with fail
                first
                  | (go_roundw
                     case rel=>exact ⟨k+1,by omega,by go_num,hid (by rw [HK.out,HS.out,if_pos HX.out]),below_drewN (hbl.alloc (by go_size) _) _⟩
                     case measure=>simp [intOf]; omega)
                  | (go_ret
                     exact ⟨by rw [HC.out,if_neg (by omega),HK.out,HS.out,if_neg (by rw [HX.out]; decide),HX.out]; rfl,below_drewN (hbel.alloc (by go_size) _) _⟩)
          · cases b4:(xc == 0) <;> cases b2:wb xp 0 ((np:Int) - 1)
            all_goals
              have mZ:=HX.out
              simp only [k0,k1,b4,b2,Bool.and_true,Bool.and_false,if_true,if_false,Bool.false_eq_true] at mZ
              clear HX
              have HX:=hid mZ
              clear mZ
              go_wp2_with fail
              go_quiet ((go_at_call 140; exact J7 (au _ _ _)))
              go_wp2_with fail
              first
                | (go_roundw
                   case rel=>exact ⟨k+1,by omega,by go_num,hid (by rw [HK.out,HS.out,if_pos HX.out]),below_drewN (hbl.alloc (by go_size) _) _⟩
                   case measure=>simp [intOf]; omega)
                | (go_ret
                   exact ⟨by rw [HC.out,if_neg (by omega),HK.out,HS.out,if_neg (by rw [HX.out]; decide),HX.out]; rfl,below_drewN (hbel.alloc (by go_size) _) _⟩)
        · cases b1:wb xc 1 64 <;> cases b3:(xp == 0)
          all_goals
            have mZ:=HX.out
            simp only [k0,b1,b3,Bool.and_true,Bool.and_false,Bool.true_and,Bool.false_and,if_true,if_false,Bool.false_eq_true] at mZ
            clear HX
            have HX:=hid mZ
            clear mZ
            go_wp2_with fail
            go_quiet ((go_at_call 140; exact J7 (au _ _ _)))
            go_wp2_with fail
            first
              | (go_roundw
                 case rel=>exact ⟨k+1,by omega,by go_num,hid (by rw [HK.out,HS.out,if_pos HX.out]),below_drewN (hbl.alloc (by go_size) _) _⟩
                 case measure=>simp [intOf]; omega)
              | (go_ret
                 exact ⟨by rw [HC.out,if_neg (by omega),HK.out,HS.out,if_neg (by rw [HX.out]; decide),HX.out]; rfl,below_drewN (hbel.alloc (by go_size) _) _⟩)
      · obtain rfl:k=es.length:=by omega
        go_wp2_with fail
        go_ret
        exact ⟨by rw [HC.out,if_neg (by omega),HK.out,Nat.sub_self]; rfl,hbel⟩
def wL (p:Int→Bool):List Int→Int→Int
 | [],_=>-1
 | z :: t,k=>if p z=true then k else wL p t (k+1)
theorem CS (p:Int→Bool):∀ (l:List Int) (k:Int),0≤k→(decide (0≤wL p l k)=l.any p)
 | [],k,_=>by simp [wL]
 | z :: t,k,hk=>by
  have ih:=CS p t (k+1) (by omega)
  unfold wL
  cases h:p z
  ·simpa [h] using ih
  ·simp [h,hk]
theorem Gh (p:Int→Bool) (zs:List Int) (k:Nat) (h:k<zs.length):wL p (zs.drop k) k=if p (zs.getD k 0)=true then (k:Int) else wL p (zs.drop (k+1)) ((k+1:Nat):Int):=by
 rw [List.drop_eq_getElem_cons h,wL]
 simp [List.getD,List.getElem?_eq_getElem h]
theorem Fj (v:Value) (zs:List Int) (p:Int→Bool) (f:FuncId) (caps:Array Value) (w:World) (h:fQ w v zs) (hf:∀ (args:Array Value) (w:World),(callFunc f args).run Tryz.prog w=.ok (.enter f args) w)
  (hc:∀ z∈zs,Calls Tryz.prog f (#[.int .i64 z]++caps) w fun e w'=>e=.returned (.bool (p z))∧w=w') :
  Calls Tryz.prog 77 #[v,.func (.func f) #[] caps] w fun e w'=>e=.returned (.int .i64 (wL p zs 0))∧w=w':=by
 obtain ⟨a,c,rfl,h1,h2⟩:=h.form
 unfold maxLen at h2
 have HR:=hid h
 have HC:=hid hc
 clear h hc
 go_enter Tryz.func77,Tryz.ntmps77
 go_wp2_with fail
 go_loop [8] (fun i=>∃ k:Nat,k≤zs.length∧i=.int .i64 k∧Hid (wL p zs 0=wL p (zs.drop k) k)) (fun i=>zs.length - (intOf i).toNat)
 case atStart=>exact ⟨0,Nat.zero_le _,rfl,hid rfl⟩
 case round =>
  obtain ⟨k,hk,rfl,HK⟩:=hrel
  by_cases hlt:k<zs.length
  ·obtain ⟨g,o,c',he,_,_,_,hcell⟩:=HR.out.some (by omega)
   simp only [Value.slice.injEq] at he
   obtain ⟨rfl,_,rfl⟩:=he
   have ck:=hcell k hlt
   have HS:=hid (Gh p zs k hlt)
   have JQ:=hid (HC.out (zs.getD k 0) (by rw [List.getD_eq_getElem?_getD,List.getElem?_eq_getElem hlt]; exact List.getElem_mem hlt))
   clear hcell
   generalize zs.getD k 0=z at *
   go_wp2_with fail
   refine JQ.out.mono ?_
   rintro e w' ⟨rfl,rfl⟩
   cases hp:p z
   ·go_wp2_with fail
    go_round
    case rel=>exact ⟨k+1,by omega,by go_num,hid (by rw [HK.out,HS.out,if_neg (by simp [hp])])⟩
    case measure=>simp [intOf]; omega
   ·go_wp2_with fail
    go_ret
    exact ⟨by rw [HK.out,HS.out,if_pos hp]; rfl,rfl⟩
  ·obtain rfl:k=zs.length:=by omega
   go_wp2_with fail
   go_ret
   exact ⟨by rw [HK.out]; simp [wL],rfl⟩
theorem jF (v:Value) (zs:List Int) (p:Int→Bool) (f:FuncId) (caps:Array Value) (w:World) (h:fQ w v zs) (hf:∀ (args:Array Value) (w:World),(callFunc f args).run Tryz.prog w=.ok (.enter f args) w)
  (hc:∀ z∈zs,Calls Tryz.prog f (#[.int .i64 z]++caps) w fun e w'=>e=.returned (.bool (p z))∧w=w') :
  Calls Tryz.prog 35 #[v,.func (.func f) #[] caps] w fun e w'=>e=.returned (.bool (zs.any p))∧w=w':=by
 have HI:=hid (Fj v zs p f caps w h hf hc)
 have HA:=hid (CS p zs 0 (by omega))
 clear h hc hf
 go_enter Tryz.func35,Tryz.ntmps35
 go_wp2_with fail
 refine HI.out.mono ?_
 rintro e w' ⟨rfl,rfl⟩
 go_wp2_with fail
 go_ret
 exact ⟨by rw [← HA.out]; rfl,rfl⟩
theorem WJ (a:Option Addr) (n c B:Nat) (z:Int) (w:World) (hn:n≤6) (h1:w.cell? ⟨B,3,none⟩=some (.slice a n c)) :
  Calls Tryz.prog 142 (#[.int .i64 z] ++ #[.pointer (some ⟨B,0,none⟩)]) w fun e w'=>e=.returned (.bool (!wb z 0 (2 * (n:Int))))∧w=w':=by
 show Calls Tryz.prog 142 #[.int .i64 z,.pointer (some ⟨B,0,none⟩)] w _
 go_enter Tryz.func142,Tryz.ntmps142
 go_wp2_with (go_at_call 140; refine (au _ _ _ _).mono ?_; rintro e w' ⟨rfl,rfl⟩)
 go_ret
 exact ⟨rfl,rfl⟩
theorem WL (args:Array Value) (w:World):(callFunc 142 args).run Tryz.prog w=.ok (.enter 142 args) w:=by kernel_rfl
theorem CU (a b A B:Int) (h1:1≤a) (h2:a≤A) (h3:1≤b) (h4:b≤B):1≤a * b∧a * b≤A * B:=by
 have e1:1 * 1≤a * b:=Int.mul_le_mul h1 h3 (by omega) (by omega)
 have e2:a * b≤A * B:=Int.mul_le_mul h2 h4 (by omega) (by omega)
 omega
theorem pV.alloc {w:World} {R:aA} {vp vs ve:Value} (h:pV w R vp vs ve) (o:Obj):pV (w.alloc o) R vp vs ve:=h.below ((Below.refl _ _).alloc (Nat.le_refl _) _) (Nat.le_refl _)
set_option maxRecDepth 100000 in
set_option maxHeartbeats 4000000 in
theorem nV (R:aA) (vp vs ve:Value) (w:World) (h:pV w R vp vs ve) (hnm:R.name.size≤maxLen) :
  Calls Tryz.prog 98 #[(.agg #[.string R.name,.int .i64 R.width,.int .i64 R.height,vp,vs,.bool R.falls,.bool R.keeps,ve,.int .i64 R.blocked,.int .i64 R.quiet,.int .i64 R.bC])] w fun e w'=>e=.returned (.int .i64 (aJ R))∧Below w.heap.size w w':=by
 have HR:=hid h
 obtain ⟨hp,hs,he⟩:=h
 obtain ⟨ap,cp,rfl,hp1,hp2⟩:=hp.form
 obtain ⟨sa,cs,rfl,hs1,hs2⟩:=hs.form
 have Gi:=hid hs
 unfold maxLen at hp2 hs2
 clear hp hs he
 have HN:=hid hnm
 have HC:Hid (aJ R=if sJ R.name=false then 6
 else if wb R.width 1 8=false∨wb R.height 1 8=false then 4
 else if dG R.pieces≠0 then dG R.pieces
 else if (R.start.length:Int)≠R.width * R.height then 3
 else if R.start.any (fun c=>!wb c 0 (2 * (R.pieces.length:Int)))=true then 4
 else if jh R≠0 then jh R
 else if wb R.blocked 0 2=false∨wb R.quiet 0 200=false∨(R.bC≠0∧wb R.bC 2 5=false) then 4
 else 0):=hid rfl
 have hNm:=WC R.name ((w.alloc (.cells #[.string R.name,.int .i64 R.width,.int .i64 R.height,(.slice ap R.pieces.length cp),(.slice sa R.start.length cs),.bool R.falls,.bool R.keeps,ve,.int .i64 R.blocked,.int .i64 R.quiet,.int .i64 R.bC] 61))) hnm
 have EX:=hid hNm
 clear hnm hNm
 cases t1:sJ R.name
 ·have HE:Hid (aJ R=6):=hid (by rw [HC.out,if_pos t1])
  go_enter Tryz.func98,Tryz.ntmps98
  go_wp2_with (go_at_call 139; refine EX.out.mono ?_; rintro e w' ⟨rfl,rfl⟩)
  go_ret
  exact ⟨by rw [HE.out]; rfl,(Below.refl _ _).alloc (by go_size) _⟩
 cases t2:wb R.width 1 8
 ·have HE:Hid (aJ R=4):=hid (by rw [HC.out,if_neg (by simp [t1]),if_pos (.inl t2)])
  go_enter Tryz.func98,Tryz.ntmps98
  go_wp2_with (first | (go_at_call 139; refine EX.out.mono ?_; rintro e w' ⟨rfl,rfl⟩) | (go_at_call 140; refine (au _ _ _ _).mono ?_; rintro e w' ⟨rfl,rfl⟩))
  go_ret
  exact ⟨by rw [HE.out]; rfl,(Below.refl _ _).alloc (by go_size) _⟩
 cases t3:wb R.height 1 8
 ·have HE:Hid (aJ R=4):=hid (by rw [HC.out,if_neg (by simp [t1]),if_pos (.inr t3)])
  go_enter Tryz.func98,Tryz.ntmps98
  go_wp2_with (first | (go_at_call 139; refine EX.out.mono ?_; rintro e w' ⟨rfl,rfl⟩) | (go_at_call 140; refine (au _ _ _ _).mono ?_; rintro e w' ⟨rfl,rfl⟩))
  go_ret
  exact ⟨by rw [HE.out]; rfl,(Below.refl _ _).alloc (by go_size) _⟩
 have hw:=(nS _ _ _).1 t2
 have hh:=(nS _ _ _).1 t3
 have HC2:=hid (by have:=HC.out; rw [if_neg (by simp [t1]),if_neg (by simp [t2,t3])] at this; exact this)
 clear HC
 go_enter Tryz.func98,Tryz.ntmps98
 go_wp2_with (first | (go_at_call 139; refine EX.out.mono ?_; rintro e w' ⟨rfl,rfl⟩) | (go_at_call 140; refine (au _ _ _ _).mono ?_; rintro e w' ⟨rfl,rfl⟩))
 refine (OI R _ _ _ _ (HR.out.alloc _)).mono ?_
 rintro e w1 ⟨rfl,hb1⟩
 have z1:w.heap.size<w1.heap.size:=by have:=hb1.size; simp at this; omega
 have HB1:Hid (Below w.heap.size w w1):=hid (((Below.refl _ _).alloc (by go_size) _).trans (hb1.mono (by go_size)))
 have q0:w1.cell? ⟨w.heap.size,0,none⟩=some (.string R.name):=(hb1.cell (by simp)).trans (by simp [go_sem])
 have q1:w1.cell? ⟨w.heap.size,1,none⟩=some (.int .i64 R.width):=(hb1.cell (by simp)).trans (by simp [go_sem])
 have q2:w1.cell? ⟨w.heap.size,2,none⟩=some (.int .i64 R.height):=(hb1.cell (by simp)).trans (by simp [go_sem])
 have q3:w1.cell? ⟨w.heap.size,3,none⟩=some (.slice ap R.pieces.length cp):=(hb1.cell (by simp)).trans (by simp [go_sem])
 have q4:w1.cell? ⟨w.heap.size,4,none⟩=some (.slice sa R.start.length cs):=(hb1.cell (by simp)).trans (by simp [go_sem])
 have q5:w1.cell? ⟨w.heap.size,5,none⟩=some (.bool R.falls):=(hb1.cell (by simp)).trans (by simp [go_sem])
 have q6:w1.cell? ⟨w.heap.size,6,none⟩=some (.bool R.keeps):=(hb1.cell (by simp)).trans (by simp [go_sem])
 have q7:w1.cell? ⟨w.heap.size,7,none⟩=some ve:=(hb1.cell (by simp)).trans (by simp [go_sem])
 have q8:w1.cell? ⟨w.heap.size,8,none⟩=some (.int .i64 R.blocked):=(hb1.cell (by simp)).trans (by simp [go_sem])
 have q9:w1.cell? ⟨w.heap.size,9,none⟩=some (.int .i64 R.quiet):=(hb1.cell (by simp)).trans (by simp [go_sem])
 have q10:w1.cell? ⟨w.heap.size,10,none⟩=some (.int .i64 R.bC):=(hb1.cell (by simp)).trans (by simp [go_sem])
 clear hb1 EX t1 t2 t3
 cases t4:(dG R.pieces == 0)
 ·have t4':(dG R.pieces != 0)=true:=by simp [bne,t4]
  have HE:Hid (aJ R=dG R.pieces):=hid (by rw [HC2.out,if_pos (by simpa using t4)])
  go_wp2_with fail
  go_ret
  exact ⟨by rw [HE.out]; rfl,HB1.out⟩
 have t4':(dG R.pieces != 0)=false:=by simp [bne,t4]
 have VX:Hid (dG R.pieces=0):=hid (by simpa using t4)
 have hnp:1≤R.pieces.length∧R.pieces.length≤6:=by
  have:=VX.out
  unfold dG at this
  by_cases e1:R.pieces.length=0
  ·rw [if_pos e1] at this; cases this
  ·by_cases e2:6<R.pieces.length
   ·rw [if_neg e1,if_pos e2] at this; cases this
   ·omega
 have HC3:=hid (by have:=HC2.out; rw [if_neg (by simp [VX.out])] at this; exact this)
 clear HC2 t4
 have hwh:1≤R.width * R.height∧R.width * R.height≤64:=CU R.width R.height 8 8 hw.1 hw.2 hh.1 hh.2
 cases t5:((R.start.length:Int) == R.width * R.height)
 ·have t5':((R.start.length:Int) != R.width * R.height)=true:=by simp [bne,t5]
  have HE:Hid (aJ R=3):=hid (by rw [HC3.out,if_pos (by simpa using t5)])
  go_wp2_with fail
  go_ret
  exact ⟨by rw [HE.out]; rfl,HB1.out⟩
 have t5':((R.start.length:Int) != R.width * R.height)=false:=by simp [bne,t5]
 have HC4:=hid (by have:=HC3.out; rw [if_neg (by simpa using t5)] at this; exact this)
 clear HC3 t5
 go_wp2_with fail
 refine (jF _ R.start (fun z=>!wb z 0 (2 * (R.pieces.length:Int))) 142 _ _ (Gi.out.below HB1.out (Nat.le_refl _)) WL (fun z _=>WJ _ _ _ _ z _ (by omega) q3)).mono ?_
 rintro e w' ⟨rfl,rfl⟩
 cases t6:R.start.any (fun c=>!wb c 0 (2 * (R.pieces.length:Int)))
 rotate_left
 ·have HE:Hid (aJ R=4):=hid (by rw [HC4.out,if_pos t6])
  go_wp2_with fail
  go_ret
  exact ⟨by rw [HE.out]; rfl,HB1.out⟩
 have HC5:=hid (by have:=HC4.out; rw [if_neg (by simp [t6])] at this; exact this)
 clear HC4
 go_wp2_with fail
 refine (CQ R _ _ _ _ (HR.out.below HB1.out (Nat.le_refl _)) hnp.1).mono ?_
 rintro e w2 ⟨rfl,hb2⟩
 have z2:w.heap.size<w2.heap.size:=by have:=hb2.size; omega
 have HB2:Hid (Below w.heap.size w w2):=hid (HB1.out.trans (hb2.mono (by omega)))
 have r0:=(hb2.cell (p:=⟨w.heap.size,0,none⟩) z1).trans q0
 have r1:=(hb2.cell (p:=⟨w.heap.size,1,none⟩) z1).trans q1
 have r2:=(hb2.cell (p:=⟨w.heap.size,2,none⟩) z1).trans q2
 have r3:=(hb2.cell (p:=⟨w.heap.size,3,none⟩) z1).trans q3
 have r4:=(hb2.cell (p:=⟨w.heap.size,4,none⟩) z1).trans q4
 have r5:=(hb2.cell (p:=⟨w.heap.size,5,none⟩) z1).trans q5
 have r6:=(hb2.cell (p:=⟨w.heap.size,6,none⟩) z1).trans q6
 have r7:=(hb2.cell (p:=⟨w.heap.size,7,none⟩) z1).trans q7
 have r8:=(hb2.cell (p:=⟨w.heap.size,8,none⟩) z1).trans q8
 have r9:=(hb2.cell (p:=⟨w.heap.size,9,none⟩) z1).trans q9
 have r10:=(hb2.cell (p:=⟨w.heap.size,10,none⟩) z1).trans q10
 clear hb2 q0 q1 q2 q3 q4 q5 q6 q7 q8 q9 q10 t6
 cases t7:(jh R == 0)
 ·have t7':(jh R != 0)=true:=by simp [bne,t7]
  have HE:Hid (aJ R=jh R):=hid (by rw [HC5.out,if_pos (by simpa using t7)])
  go_wp2_with fail
  go_ret
  exact ⟨by rw [HE.out]; rfl,HB2.out⟩
 have t7':(jh R != 0)=false:=by simp [bne,t7]
 have HC6:=hid (by have:=HC5.out; rw [if_neg (by simpa using t7)] at this; exact this)
 clear HC5 t7
 cases t8:wb R.blocked 0 2
 ·have HE:Hid (aJ R=4):=hid (by rw [HC6.out,if_pos (.inl t8)])
  go_wp2_with (go_at_call 140; refine (au _ _ _ _).mono ?_; rintro e w' ⟨rfl,rfl⟩)
  go_ret
  exact ⟨by rw [HE.out]; rfl,HB2.out⟩
 cases t9:wb R.quiet 0 200
 ·have HE:Hid (aJ R=4):=hid (by rw [HC6.out,if_pos (.inr (.inl t9))])
  go_wp2_with (go_at_call 140; refine (au _ _ _ _).mono ?_; rintro e w' ⟨rfl,rfl⟩)
  go_ret
  exact ⟨by rw [HE.out]; rfl,HB2.out⟩
 cases t10:(R.bC == 0)
 ·have amq:(R.bC != 0)=true:=by simp [bne,t10]
  cases t11:wb R.bC 2 5
  ·have HE:Hid (aJ R=4):=hid (by rw [HC6.out,if_pos (.inr (.inr ⟨by simpa using t10,t11⟩))])
   go_wp2_with (go_at_call 140; refine (au _ _ _ _).mono ?_; rintro e w' ⟨rfl,rfl⟩)
   go_ret
   exact ⟨by rw [HE.out]; rfl,HB2.out⟩
  have HE:Hid (aJ R=0):=hid (by rw [HC6.out,if_neg (by simp [t8,t9,t11])])
  go_wp2_with (go_at_call 140; refine (au _ _ _ _).mono ?_; rintro e w' ⟨rfl,rfl⟩)
  go_ret
  exact ⟨by rw [HE.out]; rfl,HB2.out⟩
 have amq:(R.bC != 0)=false:=by simp [bne,t10]
 have amr:Hid (R.bC=0):=hid (by simpa using t10)
 have HE:Hid (aJ R=0):=hid (by rw [HC6.out,if_neg (by simp [t8,t9,amr.out])])
 go_wp2_with (go_at_call 140; refine (au _ _ _ _).mono ?_; rintro e w' ⟨rfl,rfl⟩)
 go_ret
 exact ⟨by rw [HE.out]; rfl,HB2.out⟩
end Go.Proofs.YteablcielclaeaaGreatDoor

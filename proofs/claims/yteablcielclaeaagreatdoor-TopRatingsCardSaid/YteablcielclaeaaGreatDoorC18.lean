/- clock.Check, Valid, Look. -/
import Derived.Test.YteablcielclaeaaGreatDoorC17
namespace Go.Proofs.YteablcielclaeaaGreatDoor.clk
open Go.ChangeShapes Go.WideShapes Go.ChangeAt Go.RowKit
set_option linter.unusedVariables false
set_option maxHeartbeats 1000000
open Go.Lib (hid)
theorem ig {W w1:World} (hb:Below W.heap.size W w1):(∀ b o,b<W.heap.size→w1.cell? ⟨b,o,none⟩=W.cell? ⟨b,o,none⟩)∧(∀ b o,b<W.heap.size→w1.frozen? ⟨b,o,none⟩=W.frozen? ⟨b,o,none⟩):=
 ⟨fun b o h=>hb.cell (p:=⟨b,o,none⟩) h,fun b o h=>hb.frozen (p:=⟨b,o,none⟩) h⟩
def bV (n lo hi:Int):Bool:=decide (lo≤n∧n≤hi)
theorem ay (n lo hi:Int) (w:World) :
  Calls Tryz.prog 80 #[.int .i64 n,.int .i64 lo,.int .i64 hi] w fun e w'=>e=.returned (.bool (bV n lo hi))∧w=w':=by
 by_cases h1:lo≤n
 ·by_cases h2:n≤hi
  ·have H:=hid (show bV n lo hi=true by unfold bV; rw [decide_eq_true_eq]; omega)
   go_enter Tryz.func80,Tryz.ntmps80
   go_wp2
   go_ret
   exact ⟨by rw [H.out]; rfl,rfl⟩
  ·have H:=hid (show bV n lo hi=false by unfold bV; rw [decide_eq_false_iff_not]; omega)
   go_enter Tryz.func80,Tryz.ntmps80
   go_wp2
   go_ret
   exact ⟨by rw [H.out]; rfl,rfl⟩
 ·have H:=hid (show bV n lo hi=false by unfold bV; rw [decide_eq_false_iff_not]; omega)
  go_enter Tryz.func80,Tryz.ntmps80
  go_wp2
  go_ret
  exact ⟨by rw [H.out]; rfl,rfl⟩
def eF (w:World) (B:Nat) (A:Option Addr) (n:Nat) (ps:List (Int×Int)):Prop:=
 ps.length=n∧(0<n→∃ b off,A=some ⟨b,off,none⟩∧b<B∧∀ k,k<n→w.cell? ⟨b,off+k * 2,none⟩=some (.int .i64 (ps.getD k (0,0)).1)∧w.cell? ⟨b,off+k * 2+1,none⟩=some (.int .i64 (ps.getD k (0,0)).2))
def kR (n:Nat) (k:Nat) (p:Int×Int):Bool:=bV p.1 0 400 && (bV p.2 1 100000000 && ((p.1 == 0) == ((k:Int) == (n:Int) - 1)))
def dB (n:Nat) (inc delay:Int) (ps:List (Int×Int)):Prop:=
 (1≤n∧n≤5)∧(0≤inc∧inc≤100000000)∧(0≤delay∧delay≤100000000)∧∀ k,k<n→kR n k (ps.getD k (0,0))=true
def iK (ok:Prop) (w:World) (e:Ending) (w':World):Prop:=∃ c:Int,e=.returned (.int .i64 c)∧(c=0↔ok)∧Below w.heap.size w w'
theorem eG {n lo hi:Int} (h:lo≤n∧n≤hi):bV n lo hi=true:=by unfold bV; simpa using h
theorem wW {n lo hi:Int} (h:¬ (lo≤n∧n≤hi)):bV n lo hi=false:=by unfold bV; rw [decide_eq_false_iff_not]; exact h
theorem fE {n lo hi:Int}:bV n lo hi=true↔lo≤n∧n≤hi:=by unfold bV; simp
theorem dP (A:Option Addr) (n cap:Nat) (inc delay:Int) (ps:List (Int×Int)) (w:World) (hn:n≤9223372036854775807) (hp:eF w w.heap.size A n ps) :
  Calls Tryz.prog 79 #[.agg #[.slice A n cap,.int .i64 inc,.int .i64 delay]] w (iK (dB n inc delay ps) w):=by
 by_cases h1:1≤n∧n≤5
 ·obtain ⟨h1,h2⟩:=h1
  obtain ⟨hl,hp⟩:=hp
  obtain ⟨b,off,rfl,hb,hcells⟩:=hp (by omega)
  have Hc:=hid hcells
  clear hl hp hcells
  have e1:bV n 1 5=true:=eG (by omega)
  by_cases h3:0≤inc∧inc≤100000000
  ·have e3:=eG h3
   by_cases h4:0≤delay∧delay≤100000000
   ·have e4:=eG h4
    go_enter Tryz.func79,Tryz.ntmps79
    go_wp2_with (go_at_call 80; refine (ay _ _ _ _).mono ?_; rintro e w' ⟨rfl,rfl⟩)
    go_loopw [23] (fun i wr=>∃ k:Nat,k≤n∧i=.int .i64 k∧Hid (∀ j,j<k→kR n j (ps.getD j (0,0))=true)∧Below (w.alloc (.cells #[.slice (some ⟨b,off,none⟩) n cap,.int .i64 inc,.int .i64 delay] 65)).heap.size (w.alloc (.cells #[.slice (some ⟨b,off,none⟩) n cap,.int .i64 inc,.int .i64 delay] 65)) wr) (fun i _=>n - (intOf i).toNat)
    case atStart=>exact ⟨0,Nat.zero_le _,rfl,hid (fun j hj=>absurd hj (by omega)),Below.refl _ _⟩
    case round =>
     obtain ⟨k,hk,rfl,Hk,hbl⟩:=hrel
     obtain ⟨hcell,hfr⟩:=ig hbl
     have hz:=hbl.size
     simp at hz
     have hz1:w.heap.size<wr.heap.size:=by omega
     have hz2:b<wr.heap.size:=by omega
     by_cases hlt:k<n
     ·obtain ⟨c1,c2⟩:=Hc.out k hlt
      have HS:Hid (kR n k (ps.getD k (0,0))=true→∀ j,j<k+1→kR n j (ps.getD j (0,0))=true):=hid (fun h j hj=>by
       by_cases e:j=k
       ·subst e; exact h
       ·exact Hk.out j (by omega))
      have HF:Hid (kR n k (ps.getD k (0,0))=false→¬ dB n inc delay ps):=hid (fun h hr=>by have:=hr.2.2.2 k hlt; rw [h] at this; cases this)
      generalize ps.getD k (0,0)=q at *
      obtain ⟨qm,qt⟩:=q
      go_wp2_with (go_at_call 80; refine (ay _ _ _ _).mono ?_; rintro e w' ⟨rfl,rfl⟩)
      ·have hq:kR n k (qm,qt)=false:=by simp_all [kR]
       go_ret
       exact ⟨_,rfl,⟨(fun h=>by cases h),fun h=>absurd h (HF.out hq)⟩,(((Below.refl _ _).alloc (by go_size) _).trans (hbl.mono (by go_size))).alloc (by go_size) _⟩
      ·have hq:kR n k (qm,qt)=false:=by simp_all [kR]
       go_ret
       exact ⟨_,rfl,⟨(fun h=>by cases h),fun h=>absurd h (HF.out hq)⟩,(((Below.refl _ _).alloc (by go_size) _).trans (hbl.mono (by go_size))).alloc (by go_size) _⟩
      ·have hq:kR n k (qm,qt)=true:=by simp_all [kR]
       go_roundw
       case rel=>exact ⟨k+1,by omega,by go_num,hid (HS.out hq),hbl.alloc (by go_size) _⟩
       case measure=>simp [intOf]; omega
      ·have hq:kR n k (qm,qt)=false:=by simp_all [kR]
       go_ret
       exact ⟨_,rfl,⟨(fun h=>by cases h),fun h=>absurd h (HF.out hq)⟩,(((Below.refl _ _).alloc (by go_size) _).trans (hbl.mono (by go_size))).alloc (by go_size) _⟩
     ·go_wp2
      go_ret
      refine ⟨_,rfl,⟨fun _=>⟨⟨h1,h2⟩,h3,h4,fun j hj=>Hk.out j (by omega)⟩,fun _=>rfl⟩,?_⟩
      exact ((Below.refl _ _).alloc (Nat.le_refl _) _).trans (hbl.mono (by go_size))
   ·have e4:=wW h4
    go_enter Tryz.func79,Tryz.ntmps79
    go_wp2_with (go_at_call 80; refine (ay _ _ _ _).mono ?_; rintro e w' ⟨rfl,rfl⟩)
    go_ret
    exact ⟨_,rfl,⟨(fun h=>by cases h),fun h=>absurd h.2.2.1 h4⟩,by go_grown⟩
  ·have e3:=wW h3
   go_enter Tryz.func79,Tryz.ntmps79
   go_wp2_with (go_at_call 80; refine (ay _ _ _ _).mono ?_; rintro e w' ⟨rfl,rfl⟩)
   go_ret
   exact ⟨_,rfl,⟨(fun h=>by cases h),fun h=>absurd h.2.1 h3⟩,by go_grown⟩
 ·have e1:bV n 1 5=false:=wW (by omega)
  have H1:=hid h1
  clear h1
  go_enter Tryz.func79,Tryz.ntmps79
  go_wp2_with (go_at_call 80; refine (ay _ _ _ _).mono ?_; rintro e w' ⟨rfl,rfl⟩)
  go_ret
  exact ⟨_,rfl,⟨(fun h=>by cases h),fun h=>absurd h.1 H1.out⟩,by go_grown⟩
theorem still {P:Program} {f:FuncId} {args:Array Value} {W:World} {v:Value} {Q:World→Prop} (h:Calls P f args W fun e w'=>e=.returned v∧W=w') (hq:Q W) :
  Calls P f args W fun e w''=>e=.returned v∧Q w'':=h.mono fun _ _ ⟨he,hw⟩=>⟨he,hw ▸ hq⟩
def gV (n:Nat) (l0 l1 m0 m1 p0 p1 turn since ak:Int):Prop:=(0≤turn∧turn≤1)∧((-1)≤ak∧ak≤1)∧(0≤since∧since≤100000000)∧(0≤p0∧p0≤((n:Int) - 1))∧(0≤m0∧m0≤400)∧(0≤l0∧l0≤100000000000)∧(0≤p1∧p1≤((n:Int) - 1))∧(0≤m1∧m1≤400)∧(0≤l1∧l1≤100000000000)
theorem eF.mono {w w':World} {B B':Nat} {A:Option Addr} {n:Nat} {ps:List (Int×Int)} (h:eF w B A n ps) (hB:B≤B') (hb:∀ p:Addr,p.block<B→w'.cell? p=w.cell? p):eF w' B' A n ps:=by
 refine ⟨h.1,fun hn=>?_⟩
 obtain ⟨b,off,rfl,hlt,hc⟩:=h.2 hn
 exact ⟨b,off,rfl,by omega,fun k hk=>⟨(hb _ hlt).trans (hc k hk).1,(hb _ hlt).trans (hc k hk).2⟩⟩
theorem eF.alloc {w:World} {A:Option Addr} {n:Nat} {ps:List (Int×Int)} (h:eF w w.heap.size A n ps) (o:Obj):eF (w.alloc o) (w.alloc o).heap.size A n ps:=
 h.mono (by simp) (fun p hp=>World.cell?_alloc_lt w o p hp)
theorem eF.below {w w':World} {A:Option Addr} {n:Nat} {ps:List (Int×Int)} (h:eF w w.heap.size A n ps) (hb:Below w.heap.size w w'):eF w' w'.heap.size A n ps:=
 h.mono hb.size (fun p hp=>hb.cell hp)
theorem OW (A:Option Addr) (n cap:Nat) (inc delay:Int) (ps:List (Int×Int)) (l0 l1 m0 m1 p0 p1 turn since ak:Int) (st:Bool) (w:World) (hn:n≤9223372036854775807) (hp:eF w w.heap.size A n ps) (h:¬ dB n inc delay ps) :
  Calls Tryz.prog 91 #[.agg #[.slice A n cap,.int .i64 inc,.int .i64 delay],.agg #[.int .i64 l0,.int .i64 l1,.int .i64 m0,.int .i64 m1,.int .i64 p0,.int .i64 p1,.int .i64 turn,.int .i64 since,.bool st,.int .i64 ak]] w (iK (dB n inc delay ps∧gV n l0 l1 m0 m1 p0 p1 turn since ak) w):=by
 have H:=hid h
 clear h
 have hP:=hid ((hp.alloc (.cells #[.slice A n cap,.int .i64 inc,.int .i64 delay] 65)).alloc (.cells #[.int .i64 l0,.int .i64 l1,.int .i64 m0,.int .i64 m1,.int .i64 p0,.int .i64 p1,.int .i64 turn,.int .i64 since,.bool st,.int .i64 ak] 83))
 clear hp
 go_enter Tryz.func91,Tryz.ntmps91
 go_wp2_with fail
 refine (dP A n cap inc delay ps _ hn (hP.out)).mono ?_
 rintro e w1 ⟨c,rfl,hc,hb⟩
 have h1:(c != 0)=true:=by rw [bne_iff_ne]; exact fun h0=>H.out (hc.1 h0)
 clear hc
 go_wp2
 go_ret
 exact ⟨_,rfl,⟨fun h=>by simp [h] at h1,fun h=>absurd h.1 H.out⟩,((((Below.refl w.heap.size w).alloc (by go_size) _).alloc (by go_size) _).trans (hb.mono (by go_size)))⟩
theorem aaJ (A:Option Addr) (n cap:Nat) (inc delay:Int) (ps:List (Int×Int)) (l0 l1 m0 m1 p0 p1 turn since ak:Int) (st:Bool) (w:World) (hn:n≤9223372036854775807) (hp:eF w w.heap.size A n ps) (hr:dB n inc delay ps) (e0:bV turn 0 1=false) :
  Calls Tryz.prog 91 #[.agg #[.slice A n cap,.int .i64 inc,.int .i64 delay],.agg #[.int .i64 l0,.int .i64 l1,.int .i64 m0,.int .i64 m1,.int .i64 p0,.int .i64 p1,.int .i64 turn,.int .i64 since,.bool st,.int .i64 ak]] w (iK (dB n inc delay ps∧gV n l0 l1 m0 m1 p0 p1 turn since ak) w):=by
 have H:=hid hr
 clear hr
 have FP:n≤5:=H.out.1.2
 have hn1:1≤n:=H.out.1.1
 have HC:Hid (¬ gV n l0 l1 m0 m1 p0 p1 turn since ak):=hid (fun h=>by have:=eG (h.1); rw [e0] at this; cases this)
 have hP:=hid ((hp.alloc (.cells #[.slice A n cap,.int .i64 inc,.int .i64 delay] 65)).alloc (.cells #[.int .i64 l0,.int .i64 l1,.int .i64 m0,.int .i64 m1,.int .i64 p0,.int .i64 p1,.int .i64 turn,.int .i64 since,.bool st,.int .i64 ak] 83))
 clear hp
 go_enter Tryz.func91,Tryz.ntmps91
 go_wp2_with fail
 refine (dP A n cap inc delay ps _ hn (hP.out)).mono ?_
 rintro e w1 ⟨c,rfl,hc,hb⟩
 obtain rfl:c=0:=hc.2 H.out
 clear hc
 obtain ⟨hcell,hfr⟩:=ig hb
 have hs:=hb.size
 (try simp only [World.size_alloc] at hs)
 go_wp2_with (go_at_call 80; refine (ay _ _ _ _).mono ?_; rintro e w' ⟨rfl,rfl⟩)
 refine wp_loop_rounds 3 ?_
 rw [rounds_succ]
 go_wp2_with (go_at_call 80; refine (ay _ _ _ _).mono ?_; rintro e w' ⟨rfl,rfl⟩)
 go_quiet ((go_at_call 80; exact still (ay _ _ _ _) ⟨_,rfl⟩))
 go_wp2_with (go_at_call 80; refine (ay _ _ _ _).mono ?_; rintro e w' ⟨rfl,rfl⟩)
 rw [rounds_succ]
 go_wp2_with (go_at_call 80; refine (ay _ _ _ _).mono ?_; rintro e w' ⟨rfl,rfl⟩)
 go_quiet ((go_at_call 80; exact still (ay _ _ _ _) ⟨_,rfl⟩))
 go_wp2_with (go_at_call 80; refine (ay _ _ _ _).mono ?_; rintro e w' ⟨rfl,rfl⟩)
 rw [rounds_succ]
 go_wp2_with (go_at_call 80; refine (ay _ _ _ _).mono ?_; rintro e w' ⟨rfl,rfl⟩)
 go_ret
 exact ⟨_,rfl,⟨(fun h=>by cases h),fun h=>absurd h.2 HC.out⟩,below_drewN ((((Below.refl w.heap.size w).alloc (by go_size) _).alloc (by go_size) _).trans (hb.mono (by go_size))) _⟩
theorem aaK (A:Option Addr) (n cap:Nat) (inc delay:Int) (ps:List (Int×Int)) (l0 l1 m0 m1 p0 p1 turn since ak:Int) (st:Bool) (w:World) (hn:n≤9223372036854775807) (hp:eF w w.heap.size A n ps) (hr:dB n inc delay ps) (e0:bV turn 0 1=true) (e1:bV ak (-1) 1=false) :
  Calls Tryz.prog 91 #[.agg #[.slice A n cap,.int .i64 inc,.int .i64 delay],.agg #[.int .i64 l0,.int .i64 l1,.int .i64 m0,.int .i64 m1,.int .i64 p0,.int .i64 p1,.int .i64 turn,.int .i64 since,.bool st,.int .i64 ak]] w (iK (dB n inc delay ps∧gV n l0 l1 m0 m1 p0 p1 turn since ak) w):=by
 have H:=hid hr
 clear hr
 have FP:n≤5:=H.out.1.2
 have hn1:1≤n:=H.out.1.1
 have HC:Hid (¬ gV n l0 l1 m0 m1 p0 p1 turn since ak):=hid (fun h=>by have:=eG (h.2.1); rw [e1] at this; cases this)
 have hP:=hid ((hp.alloc (.cells #[.slice A n cap,.int .i64 inc,.int .i64 delay] 65)).alloc (.cells #[.int .i64 l0,.int .i64 l1,.int .i64 m0,.int .i64 m1,.int .i64 p0,.int .i64 p1,.int .i64 turn,.int .i64 since,.bool st,.int .i64 ak] 83))
 clear hp
 go_enter Tryz.func91,Tryz.ntmps91
 go_wp2_with fail
 refine (dP A n cap inc delay ps _ hn (hP.out)).mono ?_
 rintro e w1 ⟨c,rfl,hc,hb⟩
 obtain rfl:c=0:=hc.2 H.out
 clear hc
 obtain ⟨hcell,hfr⟩:=ig hb
 have hs:=hb.size
 (try simp only [World.size_alloc] at hs)
 go_wp2_with (go_at_call 80; refine (ay _ _ _ _).mono ?_; rintro e w' ⟨rfl,rfl⟩)
 refine wp_loop_rounds 3 ?_
 rw [rounds_succ]
 go_wp2_with (go_at_call 80; refine (ay _ _ _ _).mono ?_; rintro e w' ⟨rfl,rfl⟩)
 go_quiet ((go_at_call 80; exact still (ay _ _ _ _) ⟨_,rfl⟩))
 go_wp2_with (go_at_call 80; refine (ay _ _ _ _).mono ?_; rintro e w' ⟨rfl,rfl⟩)
 rw [rounds_succ]
 go_wp2_with (go_at_call 80; refine (ay _ _ _ _).mono ?_; rintro e w' ⟨rfl,rfl⟩)
 go_quiet ((go_at_call 80; exact still (ay _ _ _ _) ⟨_,rfl⟩))
 go_wp2_with (go_at_call 80; refine (ay _ _ _ _).mono ?_; rintro e w' ⟨rfl,rfl⟩)
 rw [rounds_succ]
 go_wp2_with (go_at_call 80; refine (ay _ _ _ _).mono ?_; rintro e w' ⟨rfl,rfl⟩)
 go_ret
 exact ⟨_,rfl,⟨(fun h=>by cases h),fun h=>absurd h.2 HC.out⟩,below_drewN ((((Below.refl w.heap.size w).alloc (by go_size) _).alloc (by go_size) _).trans (hb.mono (by go_size))) _⟩
theorem aaL (A:Option Addr) (n cap:Nat) (inc delay:Int) (ps:List (Int×Int)) (l0 l1 m0 m1 p0 p1 turn since ak:Int) (st:Bool) (w:World) (hn:n≤9223372036854775807) (hp:eF w w.heap.size A n ps) (hr:dB n inc delay ps) (e0:bV turn 0 1=true) (e1:bV ak (-1) 1=true) (e2:bV since 0 100000000=false) :
  Calls Tryz.prog 91 #[.agg #[.slice A n cap,.int .i64 inc,.int .i64 delay],.agg #[.int .i64 l0,.int .i64 l1,.int .i64 m0,.int .i64 m1,.int .i64 p0,.int .i64 p1,.int .i64 turn,.int .i64 since,.bool st,.int .i64 ak]] w (iK (dB n inc delay ps∧gV n l0 l1 m0 m1 p0 p1 turn since ak) w):=by
 have H:=hid hr
 clear hr
 have FP:n≤5:=H.out.1.2
 have hn1:1≤n:=H.out.1.1
 have HC:Hid (¬ gV n l0 l1 m0 m1 p0 p1 turn since ak):=hid (fun h=>by have:=eG (h.2.2.1); rw [e2] at this; cases this)
 have hP:=hid ((hp.alloc (.cells #[.slice A n cap,.int .i64 inc,.int .i64 delay] 65)).alloc (.cells #[.int .i64 l0,.int .i64 l1,.int .i64 m0,.int .i64 m1,.int .i64 p0,.int .i64 p1,.int .i64 turn,.int .i64 since,.bool st,.int .i64 ak] 83))
 clear hp
 go_enter Tryz.func91,Tryz.ntmps91
 go_wp2_with fail
 refine (dP A n cap inc delay ps _ hn (hP.out)).mono ?_
 rintro e w1 ⟨c,rfl,hc,hb⟩
 obtain rfl:c=0:=hc.2 H.out
 clear hc
 obtain ⟨hcell,hfr⟩:=ig hb
 have hs:=hb.size
 (try simp only [World.size_alloc] at hs)
 go_wp2_with (go_at_call 80; refine (ay _ _ _ _).mono ?_; rintro e w' ⟨rfl,rfl⟩)
 refine wp_loop_rounds 3 ?_
 rw [rounds_succ]
 go_wp2_with (go_at_call 80; refine (ay _ _ _ _).mono ?_; rintro e w' ⟨rfl,rfl⟩)
 go_quiet ((go_at_call 80; exact still (ay _ _ _ _) ⟨_,rfl⟩))
 go_wp2_with (go_at_call 80; refine (ay _ _ _ _).mono ?_; rintro e w' ⟨rfl,rfl⟩)
 rw [rounds_succ]
 go_wp2_with (go_at_call 80; refine (ay _ _ _ _).mono ?_; rintro e w' ⟨rfl,rfl⟩)
 go_quiet ((go_at_call 80; exact still (ay _ _ _ _) ⟨_,rfl⟩))
 go_wp2_with (go_at_call 80; refine (ay _ _ _ _).mono ?_; rintro e w' ⟨rfl,rfl⟩)
 rw [rounds_succ]
 go_wp2_with (go_at_call 80; refine (ay _ _ _ _).mono ?_; rintro e w' ⟨rfl,rfl⟩)
 go_ret
 exact ⟨_,rfl,⟨(fun h=>by cases h),fun h=>absurd h.2 HC.out⟩,below_drewN ((((Below.refl w.heap.size w).alloc (by go_size) _).alloc (by go_size) _).trans (hb.mono (by go_size))) _⟩
theorem aaM (A:Option Addr) (n cap:Nat) (inc delay:Int) (ps:List (Int×Int)) (l0 l1 m0 m1 p0 p1 turn since ak:Int) (st:Bool) (w:World) (hn:n≤9223372036854775807) (hp:eF w w.heap.size A n ps) (hr:dB n inc delay ps) (e0:bV turn 0 1=true) (e1:bV ak (-1) 1=true) (e2:bV since 0 100000000=true) (e3:bV p0 0 ((n:Int) - 1)=false) :
  Calls Tryz.prog 91 #[.agg #[.slice A n cap,.int .i64 inc,.int .i64 delay],.agg #[.int .i64 l0,.int .i64 l1,.int .i64 m0,.int .i64 m1,.int .i64 p0,.int .i64 p1,.int .i64 turn,.int .i64 since,.bool st,.int .i64 ak]] w (iK (dB n inc delay ps∧gV n l0 l1 m0 m1 p0 p1 turn since ak) w):=by
 have H:=hid hr
 clear hr
 have FP:n≤5:=H.out.1.2
 have hn1:1≤n:=H.out.1.1
 have HC:Hid (¬ gV n l0 l1 m0 m1 p0 p1 turn since ak):=hid (fun h=>by have:=eG (h.2.2.2.1); rw [e3] at this; cases this)
 have hP:=hid ((hp.alloc (.cells #[.slice A n cap,.int .i64 inc,.int .i64 delay] 65)).alloc (.cells #[.int .i64 l0,.int .i64 l1,.int .i64 m0,.int .i64 m1,.int .i64 p0,.int .i64 p1,.int .i64 turn,.int .i64 since,.bool st,.int .i64 ak] 83))
 clear hp
 go_enter Tryz.func91,Tryz.ntmps91
 go_wp2_with fail
 refine (dP A n cap inc delay ps _ hn (hP.out)).mono ?_
 rintro e w1 ⟨c,rfl,hc,hb⟩
 obtain rfl:c=0:=hc.2 H.out
 clear hc
 obtain ⟨hcell,hfr⟩:=ig hb
 have hs:=hb.size
 (try simp only [World.size_alloc] at hs)
 go_wp2_with (go_at_call 80; refine (ay _ _ _ _).mono ?_; rintro e w' ⟨rfl,rfl⟩)
 refine wp_loop_rounds 3 ?_
 rw [rounds_succ]
 go_wp2_with (go_at_call 80; refine (ay _ _ _ _).mono ?_; rintro e w' ⟨rfl,rfl⟩)
 go_quiet ((go_at_call 80; exact still (ay _ _ _ _) ⟨_,rfl⟩))
 go_wp2_with (go_at_call 80; refine (ay _ _ _ _).mono ?_; rintro e w' ⟨rfl,rfl⟩)
 rw [rounds_succ]
 go_wp2_with (go_at_call 80; refine (ay _ _ _ _).mono ?_; rintro e w' ⟨rfl,rfl⟩)
 go_quiet ((go_at_call 80; exact still (ay _ _ _ _) ⟨_,rfl⟩))
 go_wp2_with (go_at_call 80; refine (ay _ _ _ _).mono ?_; rintro e w' ⟨rfl,rfl⟩)
 rw [rounds_succ]
 go_wp2_with (go_at_call 80; refine (ay _ _ _ _).mono ?_; rintro e w' ⟨rfl,rfl⟩)
 go_ret
 exact ⟨_,rfl,⟨(fun h=>by cases h),fun h=>absurd h.2 HC.out⟩,below_drewN ((((Below.refl w.heap.size w).alloc (by go_size) _).alloc (by go_size) _).trans (hb.mono (by go_size))) _⟩
theorem aaN (A:Option Addr) (n cap:Nat) (inc delay:Int) (ps:List (Int×Int)) (l0 l1 m0 m1 p0 p1 turn since ak:Int) (st:Bool) (w:World) (hn:n≤9223372036854775807) (hp:eF w w.heap.size A n ps) (hr:dB n inc delay ps) (e0:bV turn 0 1=true) (e1:bV ak (-1) 1=true) (e2:bV since 0 100000000=true) (e3:bV p0 0 ((n:Int) - 1)=true) (e4:bV m0 0 400=false) :
  Calls Tryz.prog 91 #[.agg #[.slice A n cap,.int .i64 inc,.int .i64 delay],.agg #[.int .i64 l0,.int .i64 l1,.int .i64 m0,.int .i64 m1,.int .i64 p0,.int .i64 p1,.int .i64 turn,.int .i64 since,.bool st,.int .i64 ak]] w (iK (dB n inc delay ps∧gV n l0 l1 m0 m1 p0 p1 turn since ak) w):=by
 have H:=hid hr
 clear hr
 have FP:n≤5:=H.out.1.2
 have hn1:1≤n:=H.out.1.1
 have HC:Hid (¬ gV n l0 l1 m0 m1 p0 p1 turn since ak):=hid (fun h=>by have:=eG (h.2.2.2.2.1); rw [e4] at this; cases this)
 have hP:=hid ((hp.alloc (.cells #[.slice A n cap,.int .i64 inc,.int .i64 delay] 65)).alloc (.cells #[.int .i64 l0,.int .i64 l1,.int .i64 m0,.int .i64 m1,.int .i64 p0,.int .i64 p1,.int .i64 turn,.int .i64 since,.bool st,.int .i64 ak] 83))
 clear hp
 go_enter Tryz.func91,Tryz.ntmps91
 go_wp2_with fail
 refine (dP A n cap inc delay ps _ hn (hP.out)).mono ?_
 rintro e w1 ⟨c,rfl,hc,hb⟩
 obtain rfl:c=0:=hc.2 H.out
 clear hc
 obtain ⟨hcell,hfr⟩:=ig hb
 have hs:=hb.size
 (try simp only [World.size_alloc] at hs)
 go_wp2_with (go_at_call 80; refine (ay _ _ _ _).mono ?_; rintro e w' ⟨rfl,rfl⟩)
 refine wp_loop_rounds 3 ?_
 rw [rounds_succ]
 go_wp2_with (go_at_call 80; refine (ay _ _ _ _).mono ?_; rintro e w' ⟨rfl,rfl⟩)
 go_quiet ((go_at_call 80; exact still (ay _ _ _ _) ⟨_,rfl⟩))
 go_wp2_with (go_at_call 80; refine (ay _ _ _ _).mono ?_; rintro e w' ⟨rfl,rfl⟩)
 rw [rounds_succ]
 go_wp2_with (go_at_call 80; refine (ay _ _ _ _).mono ?_; rintro e w' ⟨rfl,rfl⟩)
 go_quiet ((go_at_call 80; exact still (ay _ _ _ _) ⟨_,rfl⟩))
 go_wp2_with (go_at_call 80; refine (ay _ _ _ _).mono ?_; rintro e w' ⟨rfl,rfl⟩)
 rw [rounds_succ]
 go_wp2_with (go_at_call 80; refine (ay _ _ _ _).mono ?_; rintro e w' ⟨rfl,rfl⟩)
 go_ret
 exact ⟨_,rfl,⟨(fun h=>by cases h),fun h=>absurd h.2 HC.out⟩,below_drewN ((((Below.refl w.heap.size w).alloc (by go_size) _).alloc (by go_size) _).trans (hb.mono (by go_size))) _⟩
theorem aaO (A:Option Addr) (n cap:Nat) (inc delay:Int) (ps:List (Int×Int)) (l0 l1 m0 m1 p0 p1 turn since ak:Int) (st:Bool) (w:World) (hn:n≤9223372036854775807) (hp:eF w w.heap.size A n ps) (hr:dB n inc delay ps) (e0:bV turn 0 1=true) (e1:bV ak (-1) 1=true) (e2:bV since 0 100000000=true) (e3:bV p0 0 ((n:Int) - 1)=true) (e4:bV m0 0 400=true) (e5:bV l0 0 100000000000=false) :
  Calls Tryz.prog 91 #[.agg #[.slice A n cap,.int .i64 inc,.int .i64 delay],.agg #[.int .i64 l0,.int .i64 l1,.int .i64 m0,.int .i64 m1,.int .i64 p0,.int .i64 p1,.int .i64 turn,.int .i64 since,.bool st,.int .i64 ak]] w (iK (dB n inc delay ps∧gV n l0 l1 m0 m1 p0 p1 turn since ak) w):=by
 have H:=hid hr
 clear hr
 have FP:n≤5:=H.out.1.2
 have hn1:1≤n:=H.out.1.1
 have HC:Hid (¬ gV n l0 l1 m0 m1 p0 p1 turn since ak):=hid (fun h=>by have:=eG (h.2.2.2.2.2.1); rw [e5] at this; cases this)
 have hP:=hid ((hp.alloc (.cells #[.slice A n cap,.int .i64 inc,.int .i64 delay] 65)).alloc (.cells #[.int .i64 l0,.int .i64 l1,.int .i64 m0,.int .i64 m1,.int .i64 p0,.int .i64 p1,.int .i64 turn,.int .i64 since,.bool st,.int .i64 ak] 83))
 clear hp
 go_enter Tryz.func91,Tryz.ntmps91
 go_wp2_with fail
 refine (dP A n cap inc delay ps _ hn (hP.out)).mono ?_
 rintro e w1 ⟨c,rfl,hc,hb⟩
 obtain rfl:c=0:=hc.2 H.out
 clear hc
 obtain ⟨hcell,hfr⟩:=ig hb
 have hs:=hb.size
 (try simp only [World.size_alloc] at hs)
 go_wp2_with (go_at_call 80; refine (ay _ _ _ _).mono ?_; rintro e w' ⟨rfl,rfl⟩)
 refine wp_loop_rounds 3 ?_
 rw [rounds_succ]
 go_wp2_with (go_at_call 80; refine (ay _ _ _ _).mono ?_; rintro e w' ⟨rfl,rfl⟩)
 go_quiet ((go_at_call 80; exact still (ay _ _ _ _) ⟨_,rfl⟩))
 go_wp2_with (go_at_call 80; refine (ay _ _ _ _).mono ?_; rintro e w' ⟨rfl,rfl⟩)
 rw [rounds_succ]
 go_wp2_with (go_at_call 80; refine (ay _ _ _ _).mono ?_; rintro e w' ⟨rfl,rfl⟩)
 go_quiet ((go_at_call 80; exact still (ay _ _ _ _) ⟨_,rfl⟩))
 go_wp2_with (go_at_call 80; refine (ay _ _ _ _).mono ?_; rintro e w' ⟨rfl,rfl⟩)
 rw [rounds_succ]
 go_wp2_with (go_at_call 80; refine (ay _ _ _ _).mono ?_; rintro e w' ⟨rfl,rfl⟩)
 go_ret
 exact ⟨_,rfl,⟨(fun h=>by cases h),fun h=>absurd h.2 HC.out⟩,below_drewN ((((Below.refl w.heap.size w).alloc (by go_size) _).alloc (by go_size) _).trans (hb.mono (by go_size))) _⟩
theorem aaP (A:Option Addr) (n cap:Nat) (inc delay:Int) (ps:List (Int×Int)) (l0 l1 m0 m1 p0 p1 turn since ak:Int) (st:Bool) (w:World) (hn:n≤9223372036854775807) (hp:eF w w.heap.size A n ps) (hr:dB n inc delay ps) (e0:bV turn 0 1=true) (e1:bV ak (-1) 1=true) (e2:bV since 0 100000000=true) (e3:bV p0 0 ((n:Int) - 1)=true) (e4:bV m0 0 400=true) (e5:bV l0 0 100000000000=true) (e6:bV p1 0 ((n:Int) - 1)=false) :
  Calls Tryz.prog 91 #[.agg #[.slice A n cap,.int .i64 inc,.int .i64 delay],.agg #[.int .i64 l0,.int .i64 l1,.int .i64 m0,.int .i64 m1,.int .i64 p0,.int .i64 p1,.int .i64 turn,.int .i64 since,.bool st,.int .i64 ak]] w (iK (dB n inc delay ps∧gV n l0 l1 m0 m1 p0 p1 turn since ak) w):=by
 have H:=hid hr
 clear hr
 have FP:n≤5:=H.out.1.2
 have hn1:1≤n:=H.out.1.1
 have HC:Hid (¬ gV n l0 l1 m0 m1 p0 p1 turn since ak):=hid (fun h=>by have:=eG (h.2.2.2.2.2.2.1); rw [e6] at this; cases this)
 have hP:=hid ((hp.alloc (.cells #[.slice A n cap,.int .i64 inc,.int .i64 delay] 65)).alloc (.cells #[.int .i64 l0,.int .i64 l1,.int .i64 m0,.int .i64 m1,.int .i64 p0,.int .i64 p1,.int .i64 turn,.int .i64 since,.bool st,.int .i64 ak] 83))
 clear hp
 go_enter Tryz.func91,Tryz.ntmps91
 go_wp2_with fail
 refine (dP A n cap inc delay ps _ hn (hP.out)).mono ?_
 rintro e w1 ⟨c,rfl,hc,hb⟩
 obtain rfl:c=0:=hc.2 H.out
 clear hc
 obtain ⟨hcell,hfr⟩:=ig hb
 have hs:=hb.size
 (try simp only [World.size_alloc] at hs)
 go_wp2_with (go_at_call 80; refine (ay _ _ _ _).mono ?_; rintro e w' ⟨rfl,rfl⟩)
 refine wp_loop_rounds 3 ?_
 rw [rounds_succ]
 go_wp2_with (go_at_call 80; refine (ay _ _ _ _).mono ?_; rintro e w' ⟨rfl,rfl⟩)
 go_quiet ((go_at_call 80; exact still (ay _ _ _ _) ⟨_,rfl⟩))
 go_wp2_with (go_at_call 80; refine (ay _ _ _ _).mono ?_; rintro e w' ⟨rfl,rfl⟩)
 rw [rounds_succ]
 go_wp2_with (go_at_call 80; refine (ay _ _ _ _).mono ?_; rintro e w' ⟨rfl,rfl⟩)
 go_quiet ((go_at_call 80; exact still (ay _ _ _ _) ⟨_,rfl⟩))
 go_wp2_with (go_at_call 80; refine (ay _ _ _ _).mono ?_; rintro e w' ⟨rfl,rfl⟩)
 rw [rounds_succ]
 go_wp2_with (go_at_call 80; refine (ay _ _ _ _).mono ?_; rintro e w' ⟨rfl,rfl⟩)
 go_ret
 exact ⟨_,rfl,⟨(fun h=>by cases h),fun h=>absurd h.2 HC.out⟩,below_drewN ((((Below.refl w.heap.size w).alloc (by go_size) _).alloc (by go_size) _).trans (hb.mono (by go_size))) _⟩
theorem aaQ (A:Option Addr) (n cap:Nat) (inc delay:Int) (ps:List (Int×Int)) (l0 l1 m0 m1 p0 p1 turn since ak:Int) (st:Bool) (w:World) (hn:n≤9223372036854775807) (hp:eF w w.heap.size A n ps) (hr:dB n inc delay ps) (e0:bV turn 0 1=true) (e1:bV ak (-1) 1=true) (e2:bV since 0 100000000=true) (e3:bV p0 0 ((n:Int) - 1)=true) (e4:bV m0 0 400=true) (e5:bV l0 0 100000000000=true) (e6:bV p1 0 ((n:Int) - 1)=true) (e7:bV m1 0 400=false) :
  Calls Tryz.prog 91 #[.agg #[.slice A n cap,.int .i64 inc,.int .i64 delay],.agg #[.int .i64 l0,.int .i64 l1,.int .i64 m0,.int .i64 m1,.int .i64 p0,.int .i64 p1,.int .i64 turn,.int .i64 since,.bool st,.int .i64 ak]] w (iK (dB n inc delay ps∧gV n l0 l1 m0 m1 p0 p1 turn since ak) w):=by
 have H:=hid hr
 clear hr
 have FP:n≤5:=H.out.1.2
 have hn1:1≤n:=H.out.1.1
 have HC:Hid (¬ gV n l0 l1 m0 m1 p0 p1 turn since ak):=hid (fun h=>by have:=eG (h.2.2.2.2.2.2.2.1); rw [e7] at this; cases this)
 have hP:=hid ((hp.alloc (.cells #[.slice A n cap,.int .i64 inc,.int .i64 delay] 65)).alloc (.cells #[.int .i64 l0,.int .i64 l1,.int .i64 m0,.int .i64 m1,.int .i64 p0,.int .i64 p1,.int .i64 turn,.int .i64 since,.bool st,.int .i64 ak] 83))
 clear hp
 go_enter Tryz.func91,Tryz.ntmps91
 go_wp2_with fail
 refine (dP A n cap inc delay ps _ hn (hP.out)).mono ?_
 rintro e w1 ⟨c,rfl,hc,hb⟩
 obtain rfl:c=0:=hc.2 H.out
 clear hc
 obtain ⟨hcell,hfr⟩:=ig hb
 have hs:=hb.size
 (try simp only [World.size_alloc] at hs)
 go_wp2_with (go_at_call 80; refine (ay _ _ _ _).mono ?_; rintro e w' ⟨rfl,rfl⟩)
 refine wp_loop_rounds 3 ?_
 rw [rounds_succ]
 go_wp2_with (go_at_call 80; refine (ay _ _ _ _).mono ?_; rintro e w' ⟨rfl,rfl⟩)
 go_quiet ((go_at_call 80; exact still (ay _ _ _ _) ⟨_,rfl⟩))
 go_wp2_with (go_at_call 80; refine (ay _ _ _ _).mono ?_; rintro e w' ⟨rfl,rfl⟩)
 rw [rounds_succ]
 go_wp2_with (go_at_call 80; refine (ay _ _ _ _).mono ?_; rintro e w' ⟨rfl,rfl⟩)
 go_quiet ((go_at_call 80; exact still (ay _ _ _ _) ⟨_,rfl⟩))
 go_wp2_with (go_at_call 80; refine (ay _ _ _ _).mono ?_; rintro e w' ⟨rfl,rfl⟩)
 rw [rounds_succ]
 go_wp2_with (go_at_call 80; refine (ay _ _ _ _).mono ?_; rintro e w' ⟨rfl,rfl⟩)
 go_ret
 exact ⟨_,rfl,⟨(fun h=>by cases h),fun h=>absurd h.2 HC.out⟩,below_drewN ((((Below.refl w.heap.size w).alloc (by go_size) _).alloc (by go_size) _).trans (hb.mono (by go_size))) _⟩
theorem aaR (A:Option Addr) (n cap:Nat) (inc delay:Int) (ps:List (Int×Int)) (l0 l1 m0 m1 p0 p1 turn since ak:Int) (st:Bool) (w:World) (hn:n≤9223372036854775807) (hp:eF w w.heap.size A n ps) (hr:dB n inc delay ps) (e0:bV turn 0 1=true) (e1:bV ak (-1) 1=true) (e2:bV since 0 100000000=true) (e3:bV p0 0 ((n:Int) - 1)=true) (e4:bV m0 0 400=true) (e5:bV l0 0 100000000000=true) (e6:bV p1 0 ((n:Int) - 1)=true) (e7:bV m1 0 400=true) (e8:bV l1 0 100000000000=false) :
  Calls Tryz.prog 91 #[.agg #[.slice A n cap,.int .i64 inc,.int .i64 delay],.agg #[.int .i64 l0,.int .i64 l1,.int .i64 m0,.int .i64 m1,.int .i64 p0,.int .i64 p1,.int .i64 turn,.int .i64 since,.bool st,.int .i64 ak]] w (iK (dB n inc delay ps∧gV n l0 l1 m0 m1 p0 p1 turn since ak) w):=by
 have H:=hid hr
 clear hr
 have FP:n≤5:=H.out.1.2
 have hn1:1≤n:=H.out.1.1
 have HC:Hid (¬ gV n l0 l1 m0 m1 p0 p1 turn since ak):=hid (fun h=>by have:=eG (h.2.2.2.2.2.2.2.2); rw [e8] at this; cases this)
 have hP:=hid ((hp.alloc (.cells #[.slice A n cap,.int .i64 inc,.int .i64 delay] 65)).alloc (.cells #[.int .i64 l0,.int .i64 l1,.int .i64 m0,.int .i64 m1,.int .i64 p0,.int .i64 p1,.int .i64 turn,.int .i64 since,.bool st,.int .i64 ak] 83))
 clear hp
 go_enter Tryz.func91,Tryz.ntmps91
 go_wp2_with fail
 refine (dP A n cap inc delay ps _ hn (hP.out)).mono ?_
 rintro e w1 ⟨c,rfl,hc,hb⟩
 obtain rfl:c=0:=hc.2 H.out
 clear hc
 obtain ⟨hcell,hfr⟩:=ig hb
 have hs:=hb.size
 (try simp only [World.size_alloc] at hs)
 go_wp2_with (go_at_call 80; refine (ay _ _ _ _).mono ?_; rintro e w' ⟨rfl,rfl⟩)
 refine wp_loop_rounds 3 ?_
 rw [rounds_succ]
 go_wp2_with (go_at_call 80; refine (ay _ _ _ _).mono ?_; rintro e w' ⟨rfl,rfl⟩)
 go_quiet ((go_at_call 80; exact still (ay _ _ _ _) ⟨_,rfl⟩))
 go_wp2_with (go_at_call 80; refine (ay _ _ _ _).mono ?_; rintro e w' ⟨rfl,rfl⟩)
 rw [rounds_succ]
 go_wp2_with (go_at_call 80; refine (ay _ _ _ _).mono ?_; rintro e w' ⟨rfl,rfl⟩)
 go_quiet ((go_at_call 80; exact still (ay _ _ _ _) ⟨_,rfl⟩))
 go_wp2_with (go_at_call 80; refine (ay _ _ _ _).mono ?_; rintro e w' ⟨rfl,rfl⟩)
 rw [rounds_succ]
 go_wp2_with (go_at_call 80; refine (ay _ _ _ _).mono ?_; rintro e w' ⟨rfl,rfl⟩)
 go_ret
 exact ⟨_,rfl,⟨(fun h=>by cases h),fun h=>absurd h.2 HC.out⟩,below_drewN ((((Below.refl w.heap.size w).alloc (by go_size) _).alloc (by go_size) _).trans (hb.mono (by go_size))) _⟩
theorem aaS (A:Option Addr) (n cap:Nat) (inc delay:Int) (ps:List (Int×Int)) (l0 l1 m0 m1 p0 p1 turn since ak:Int) (st:Bool) (w:World) (hn:n≤9223372036854775807) (hp:eF w w.heap.size A n ps) (hr:dB n inc delay ps) (e0:bV turn 0 1=true) (e1:bV ak (-1) 1=true) (e2:bV since 0 100000000=true) (e3:bV p0 0 ((n:Int) - 1)=true) (e4:bV m0 0 400=true) (e5:bV l0 0 100000000000=true) (e6:bV p1 0 ((n:Int) - 1)=true) (e7:bV m1 0 400=true) (e8:bV l1 0 100000000000=true) :
  Calls Tryz.prog 91 #[.agg #[.slice A n cap,.int .i64 inc,.int .i64 delay],.agg #[.int .i64 l0,.int .i64 l1,.int .i64 m0,.int .i64 m1,.int .i64 p0,.int .i64 p1,.int .i64 turn,.int .i64 since,.bool st,.int .i64 ak]] w (iK (dB n inc delay ps∧gV n l0 l1 m0 m1 p0 p1 turn since ak) w):=by
 have H:=hid hr
 clear hr
 have FP:n≤5:=H.out.1.2
 have hn1:1≤n:=H.out.1.1
 have q0:=fE.1 e0
 have q1:=fE.1 e1
 have q2:=fE.1 e2
 have q3:=fE.1 e3
 have q4:=fE.1 e4
 have q5:=fE.1 e5
 have q6:=fE.1 e6
 have q7:=fE.1 e7
 have q8:=fE.1 e8
 have HC:Hid (gV n l0 l1 m0 m1 p0 p1 turn since ak):=hid ⟨q0,q1,q2,q3,q4,q5,q6,q7,q8⟩
 clear q0
 clear q1
 clear q2
 clear q3
 clear q4
 clear q5
 clear q6
 clear q7
 clear q8
 have hP:=hid ((hp.alloc (.cells #[.slice A n cap,.int .i64 inc,.int .i64 delay] 65)).alloc (.cells #[.int .i64 l0,.int .i64 l1,.int .i64 m0,.int .i64 m1,.int .i64 p0,.int .i64 p1,.int .i64 turn,.int .i64 since,.bool st,.int .i64 ak] 83))
 clear hp
 go_enter Tryz.func91,Tryz.ntmps91
 go_wp2_with fail
 refine (dP A n cap inc delay ps _ hn (hP.out)).mono ?_
 rintro e w1 ⟨c,rfl,hc,hb⟩
 obtain rfl:c=0:=hc.2 H.out
 clear hc
 obtain ⟨hcell,hfr⟩:=ig hb
 have hs:=hb.size
 (try simp only [World.size_alloc] at hs)
 go_wp2_with (go_at_call 80; refine (ay _ _ _ _).mono ?_; rintro e w' ⟨rfl,rfl⟩)
 refine wp_loop_rounds 3 ?_
 rw [rounds_succ]
 go_wp2_with (go_at_call 80; refine (ay _ _ _ _).mono ?_; rintro e w' ⟨rfl,rfl⟩)
 go_quiet ((go_at_call 80; exact still (ay _ _ _ _) ⟨_,rfl⟩))
 go_wp2_with (go_at_call 80; refine (ay _ _ _ _).mono ?_; rintro e w' ⟨rfl,rfl⟩)
 rw [rounds_succ]
 go_wp2_with (go_at_call 80; refine (ay _ _ _ _).mono ?_; rintro e w' ⟨rfl,rfl⟩)
 go_quiet ((go_at_call 80; exact still (ay _ _ _ _) ⟨_,rfl⟩))
 go_wp2_with (go_at_call 80; refine (ay _ _ _ _).mono ?_; rintro e w' ⟨rfl,rfl⟩)
 rw [rounds_succ]
 go_wp2_with (go_at_call 80; refine (ay _ _ _ _).mono ?_; rintro e w' ⟨rfl,rfl⟩)
 go_ret
 exact ⟨_,rfl,⟨fun _=>⟨H.out,HC.out⟩,fun _=>rfl⟩,below_drewN ((((Below.refl w.heap.size w).alloc (by go_size) _).alloc (by go_size) _).trans (hb.mono (by go_size))) _⟩
theorem qO (A:Option Addr) (n cap:Nat) (inc delay:Int) (ps:List (Int×Int)) (l0 l1 m0 m1 p0 p1 turn since ak:Int) (st:Bool) (w:World) (hn:n≤9223372036854775807) (hp:eF w w.heap.size A n ps):
  Calls Tryz.prog 91 #[.agg #[.slice A n cap,.int .i64 inc,.int .i64 delay],.agg #[.int .i64 l0,.int .i64 l1,.int .i64 m0,.int .i64 m1,.int .i64 p0,.int .i64 p1,.int .i64 turn,.int .i64 since,.bool st,.int .i64 ak]] w (iK (dB n inc delay ps∧gV n l0 l1 m0 m1 p0 p1 turn since ak) w):=by
 by_cases hr:dB n inc delay ps
 ·cases e0:bV turn 0 1
  ·exact aaJ A n cap inc delay ps l0 l1 m0 m1 p0 p1 turn since ak st w hn hp hr e0
  ·cases e1:bV ak (-1) 1
   ·exact aaK A n cap inc delay ps l0 l1 m0 m1 p0 p1 turn since ak st w hn hp hr e0 e1
   ·cases e2:bV since 0 100000000
    ·exact aaL A n cap inc delay ps l0 l1 m0 m1 p0 p1 turn since ak st w hn hp hr e0 e1 e2
    ·cases e3:bV p0 0 ((n:Int) - 1)
     ·exact aaM A n cap inc delay ps l0 l1 m0 m1 p0 p1 turn since ak st w hn hp hr e0 e1 e2 e3
     ·cases e4:bV m0 0 400
      ·exact aaN A n cap inc delay ps l0 l1 m0 m1 p0 p1 turn since ak st w hn hp hr e0 e1 e2 e3 e4
      ·cases e5:bV l0 0 100000000000
       ·exact aaO A n cap inc delay ps l0 l1 m0 m1 p0 p1 turn since ak st w hn hp hr e0 e1 e2 e3 e4 e5
       ·cases e6:bV p1 0 ((n:Int) - 1)
        ·exact aaP A n cap inc delay ps l0 l1 m0 m1 p0 p1 turn since ak st w hn hp hr e0 e1 e2 e3 e4 e5 e6
        ·cases e7:bV m1 0 400
         ·exact aaQ A n cap inc delay ps l0 l1 m0 m1 p0 p1 turn since ak st w hn hp hr e0 e1 e2 e3 e4 e5 e6 e7
         ·cases e8:bV l1 0 100000000000
          ·exact aaR A n cap inc delay ps l0 l1 m0 m1 p0 p1 turn since ak st w hn hp hr e0 e1 e2 e3 e4 e5 e6 e7 e8
          ·exact aaS A n cap inc delay ps l0 l1 m0 m1 p0 p1 turn since ak st w hn hp hr e0 e1 e2 e3 e4 e5 e6 e7 e8
 ·exact OW A n cap inc delay ps l0 l1 m0 m1 p0 p1 turn since ak st w hn hp hr
def dH (st:Bool) (delay since now:Int):Int:=if st=true then 0 else max 0 (now - since - delay)
theorem QS (st:Bool) (delay since now:Int) (h1:0≤since) (h2:0≤delay) (h3:0≤now) (h4:now≤100000000):0≤dH st delay since now∧dH st delay since now≤100000000:=by
 unfold dH; split <;> omega
theorem qP (A:Option Addr) (n cap:Nat) (inc delay:Int) (l0 l1 m0 m1 p0 p1 turn since ak:Int) (st:Bool) (now:Int) (w:World) (h1:0≤since) (h1':since≤100000000) (h2:0≤delay) (h2':delay≤100000000) (h3:0≤now) (h4:now≤100000000) :
  Calls Tryz.prog 92 #[.agg #[.slice A n cap,.int .i64 inc,.int .i64 delay],.agg #[.int .i64 l0,.int .i64 l1,.int .i64 m0,.int .i64 m1,.int .i64 p0,.int .i64 p1,.int .i64 turn,.int .i64 since,.bool st,.int .i64 ak],.int .i64 now] w fun e w'=>e=.returned (.int .i64 (dH st delay since now))∧(w.alloc (.cells #[.slice A n cap,.int .i64 inc,.int .i64 delay] 65)).alloc (.cells #[.int .i64 l0,.int .i64 l1,.int .i64 m0,.int .i64 m1,.int .i64 p0,.int .i64 p1,.int .i64 turn,.int .i64 since,.bool st,.int .i64 ak] 83)=w':=by
 cases st
 ·by_cases h:0<now - since - delay
  ·have H:=hid (show dH false delay since now=now - since - delay by unfold dH; simp; omega)
   go_enter Tryz.func92,Tryz.ntmps92
   go_wp2
   go_ret
   exact ⟨by rw [H.out]; rfl,rfl⟩
  ·have H:=hid (show dH false delay since now=0 by unfold dH; simp; omega)
   go_enter Tryz.func92,Tryz.ntmps92
   go_wp2
   go_ret
   exact ⟨by rw [H.out]; rfl,rfl⟩
 ·have H:=hid (show dH true delay since now=0 by unfold dH; simp)
  go_enter Tryz.func92,Tryz.ntmps92
  go_wp2
  go_ret
  exact ⟨by rw [H.out]; rfl,rfl⟩
theorem TM (A:Option Addr) (n cap:Nat) (inc delay:Int) (ps:List (Int×Int)) (l0 l1 m0 m1 p0 p1 turn since ak:Int) (st:Bool) (now:Int) (w:World) (hn:n≤9223372036854775807) (hp:eF w w.heap.size A n ps)
  (hr:dB n inc delay ps) (hk:gV n l0 l1 m0 m1 p0 p1 turn since ak) (e0:bV now since 100000000=true) (hf:0≤ak) :
  Calls Tryz.prog 48 #[.agg #[.slice A n cap,.int .i64 inc,.int .i64 delay],.agg #[.int .i64 l0,.int .i64 l1,.int .i64 m0,.int .i64 m1,.int .i64 p0,.int .i64 p1,.int .i64 turn,.int .i64 since,.bool st,.int .i64 ak],.int .i64 now] w
   (fun e w'=>e=.returned (.tuple #[.agg #[.int .i64 l0,.int .i64 l1,.int .i64 m0,.int .i64 m1,.int .i64 p0,.int .i64 p1,.int .i64 turn,.int .i64 since,.bool st,.int .i64 ak],.int .i64 0])∧Below w.heap.size w w'):=by
 have H:=hid hr
 have HC:=hid hk
 clear hr hk
 have hf':decide (ak<0)=false:=by simp; omega
 have hP:=hid (((hp.alloc (.cells #[.slice A n cap,.int .i64 inc,.int .i64 delay] 65)).alloc (.cells #[.int .i64 l0,.int .i64 l1,.int .i64 m0,.int .i64 m1,.int .i64 p0,.int .i64 p1,.int .i64 turn,.int .i64 since,.bool st,.int .i64 ak] 83)).alloc (.cells #[.int .i64 0,.int .i64 0,.int .i64 0,.int .i64 0,.int .i64 0,.int .i64 0,.int .i64 0,.int .i64 0,.bool false,.int .i64 0] 83))
 clear hp
 go_enter Tryz.func48,Tryz.ntmps48
 go_wp2_with fail
 refine (qO A n cap inc delay ps l0 l1 m0 m1 p0 p1 turn since ak st _ hn (hP.out)).mono ?_
 rintro e w1 ⟨c,rfl,hc,hb⟩
 obtain rfl:c=0:=hc.2 ⟨H.out,HC.out⟩
 clear hc
 obtain ⟨hcell,hfr⟩:=ig hb
 have hs:=hb.size
 (try simp only [World.size_alloc] at hs)
 have hz0:w.heap.size<w1.heap.size:=by omega
 have hz1:w.heap.size+1<w1.heap.size:=by omega
 have hz2:w.heap.size+1+1<w1.heap.size:=by omega
 have hbel:=(((((Below.refl w.heap.size w).alloc (by go_size) _).alloc (by go_size) _).alloc (by go_size) _).trans (hb.mono (by go_size)))
 go_wp2_with (go_at_call 80; refine (ay _ _ _ _).mono ?_; rintro e w' ⟨rfl,rfl⟩)
 go_quiet (fail)
 go_wp2
 refine bodyPost_ret (v:=.tuple #[.agg #[.int .i64 l0,.int .i64 l1,.int .i64 m0,.int .i64 m1,.int .i64 p0,.int .i64 p1,.int .i64 turn,.int .i64 since,.bool st,.int .i64 ak],.int .i64 0]) (by simp [results,Tryz.results48,go_sem,hcell]) rfl ?_
 have acJ:=below_drewN hbel nq
 refine ⟨rfl,?_⟩
 go_grown
theorem Au (A:Option Addr) (n cap:Nat) (inc delay:Int) (ps:List (Int×Int)) (l0 l1 m0 m1 p0 p1 since ak:Int) (st:Bool) (now:Int) (w:World) (hn:n≤9223372036854775807) (hp:eF w w.heap.size A n ps)
  (hr:dB n inc delay ps) (hk:gV n l0 l1 m0 m1 p0 p1 0 since ak) (e0:bV now since 100000000=true) (hf:ak<0) (hu:dH st delay since now≤l0) :
  Calls Tryz.prog 48 #[.agg #[.slice A n cap,.int .i64 inc,.int .i64 delay],.agg #[.int .i64 l0,.int .i64 l1,.int .i64 m0,.int .i64 m1,.int .i64 p0,.int .i64 p1,.int .i64 0,.int .i64 since,.bool st,.int .i64 ak],.int .i64 now] w
   (fun e w'=>e=.returned (.tuple #[.agg #[.int .i64 l0,.int .i64 l1,.int .i64 m0,.int .i64 m1,.int .i64 p0,.int .i64 p1,.int .i64 0,.int .i64 since,.bool st,.int .i64 ak],.int .i64 0])∧Below w.heap.size w w'):=by
 have OX:=fE.1 e0
 have hsn:=hk.2.2.1
 have hdl:=hr.2.2.1
 have H:=hid hr
 have HC:=hid hk
 clear hr hk
 have hf':decide (ak<0)=true:=by simp; omega
 have hP:=hid (((hp.alloc (.cells #[.slice A n cap,.int .i64 inc,.int .i64 delay] 65)).alloc (.cells #[.int .i64 l0,.int .i64 l1,.int .i64 m0,.int .i64 m1,.int .i64 p0,.int .i64 p1,.int .i64 0,.int .i64 since,.bool st,.int .i64 ak] 83)).alloc (.cells #[.int .i64 0,.int .i64 0,.int .i64 0,.int .i64 0,.int .i64 0,.int .i64 0,.int .i64 0,.int .i64 0,.bool false,.int .i64 0] 83))
 clear hp
 go_enter Tryz.func48,Tryz.ntmps48
 go_wp2_with fail
 refine (qO A n cap inc delay ps l0 l1 m0 m1 p0 p1 0 since ak st _ hn (hP.out)).mono ?_
 rintro e w1 ⟨c,rfl,hc,hb⟩
 obtain rfl:c=0:=hc.2 ⟨H.out,HC.out⟩
 clear hc
 obtain ⟨hcell,hfr⟩:=ig hb
 have hs:=hb.size
 (try simp only [World.size_alloc] at hs)
 have hz0:w.heap.size<w1.heap.size:=by omega
 have hz1:w.heap.size+1<w1.heap.size:=by omega
 have hz2:w.heap.size+1+1<w1.heap.size:=by omega
 have hbel:=(((((Below.refl w.heap.size w).alloc (by go_size) _).alloc (by go_size) _).alloc (by go_size) _).trans (hb.mono (by go_size)))
 go_wp2_with (go_at_call 80; refine (ay _ _ _ _).mono ?_; rintro e w' ⟨rfl,rfl⟩)
 have c0:w1.cell? ⟨w.heap.size,0,none⟩=some (.slice A n cap):=by simp [hcell,go_sem]
 have c1:w1.cell? ⟨w.heap.size,1,none⟩=some (.int .i64 inc):=by simp [hcell,go_sem]
 have c2:w1.cell? ⟨w.heap.size,2,none⟩=some (.int .i64 delay):=by simp [hcell,go_sem]
 have c3:w1.cell? ⟨w.heap.size+1,0,none⟩=some (.int .i64 l0):=by simp [hcell,go_sem]
 have c4:w1.cell? ⟨w.heap.size+1,1,none⟩=some (.int .i64 l1):=by simp [hcell,go_sem]
 have c5:w1.cell? ⟨w.heap.size+1,2,none⟩=some (.int .i64 m0):=by simp [hcell,go_sem]
 have c6:w1.cell? ⟨w.heap.size+1,3,none⟩=some (.int .i64 m1):=by simp [hcell,go_sem]
 have c7:w1.cell? ⟨w.heap.size+1,4,none⟩=some (.int .i64 p0):=by simp [hcell,go_sem]
 have c8:w1.cell? ⟨w.heap.size+1,5,none⟩=some (.int .i64 p1):=by simp [hcell,go_sem]
 have c9:w1.cell? ⟨w.heap.size+1,6,none⟩=some (.int .i64 0):=by simp [hcell,go_sem]
 have c10:w1.cell? ⟨w.heap.size+1,7,none⟩=some (.int .i64 since):=by simp [hcell,go_sem]
 have c11:w1.cell? ⟨w.heap.size+1,8,none⟩=some (.bool st):=by simp [hcell,go_sem]
 have c12:w1.cell? ⟨w.heap.size+1,9,none⟩=some (.int .i64 ak):=by simp [hcell,go_sem]
 have Dy:=hid hcell
 have Hfr:=hid hfr
 clear hcell hfr
 go_region_held3 (fun w'=>w'.cell? ⟨w.heap.size,0,none⟩=some (.slice A n cap)∧w'.cell? ⟨w.heap.size,1,none⟩=some (.int .i64 inc)∧w'.cell? ⟨w.heap.size,2,none⟩=some (.int .i64 delay)∧w'.cell? ⟨w.heap.size+1,0,none⟩=some (.int .i64 l0)∧w'.cell? ⟨w.heap.size+1,1,none⟩=some (.int .i64 l1)∧w'.cell? ⟨w.heap.size+1,2,none⟩=some (.int .i64 m0)∧w'.cell? ⟨w.heap.size+1,3,none⟩=some (.int .i64 m1)∧w'.cell? ⟨w.heap.size+1,4,none⟩=some (.int .i64 p0)∧w'.cell? ⟨w.heap.size+1,5,none⟩=some (.int .i64 p1)∧w'.cell? ⟨w.heap.size+1,6,none⟩=some (.int .i64 0)∧w'.cell? ⟨w.heap.size+1,7,none⟩=some (.int .i64 since)∧w'.cell? ⟨w.heap.size+1,8,none⟩=some (.bool st)∧w'.cell? ⟨w.heap.size+1,9,none⟩=some (.int .i64 ak)) (go_keep) (first | (go_at_call 92; refine (qP A n cap inc delay l0 l1 m0 m1 p0 p1 0 since ak st now _ (by omega) (by omega) (by omega) (by omega) (by omega) (by omega)).mono ?_; rintro e w' ⟨rfl,rfl⟩))
 generalize hW2:((w1.alloc (.cells #[.slice A n cap,.int .i64 inc,.int .i64 delay] 65)).alloc (.cells #[.int .i64 l0,.int .i64 l1,.int .i64 m0,.int .i64 m1,.int .i64 p0,.int .i64 p1,.int .i64 0,.int .i64 since,.bool st,.int .i64 ak] 83)).drew=w2
 have hb2:Below (((w.alloc (.cells #[.slice A n cap,.int .i64 inc,.int .i64 delay] 65)).alloc (.cells #[.int .i64 l0,.int .i64 l1,.int .i64 m0,.int .i64 m1,.int .i64 p0,.int .i64 p1,.int .i64 0,.int .i64 since,.bool st,.int .i64 ak] 83)).alloc (.cells #[.int .i64 0,.int .i64 0,.int .i64 0,.int .i64 0,.int .i64 0,.int .i64 0,.int .i64 0,.int .i64 0,.bool false,.int .i64 0] 83)).heap.size (((w.alloc (.cells #[.slice A n cap,.int .i64 inc,.int .i64 delay] 65)).alloc (.cells #[.int .i64 l0,.int .i64 l1,.int .i64 m0,.int .i64 m1,.int .i64 p0,.int .i64 p1,.int .i64 0,.int .i64 since,.bool st,.int .i64 ak] 83)).alloc (.cells #[.int .i64 0,.int .i64 0,.int .i64 0,.int .i64 0,.int .i64 0,.int .i64 0,.int .i64 0,.int .i64 0,.bool false,.int .i64 0] 83)) w2:=by rw [← hW2]; exact ((hb.alloc (by go_size) _).alloc (by go_size) _).drew
 clear hW2 Dy Hfr hbel hs hz0 hz1 hz2
 obtain ⟨hcell,hfr⟩:=ig hb2
 have hs:=hb2.size
 (try simp only [World.size_alloc] at hs)
 have hz0:w.heap.size<w2.heap.size:=by omega
 have hz1:w.heap.size+1<w2.heap.size:=by omega
 have hz2:w.heap.size+1+1<w2.heap.size:=by omega
 have hbel:=(((((Below.refl w.heap.size w).alloc (by go_size) _).alloc (by go_size) _).alloc (by go_size) _).trans (hb2.mono (by go_size)))
 clear c0 c1 c2 c3 c4 c5 c6 c7 c8 c9 c10 c11 c12
 go_wp2
 refine bodyPost_ret (v:=.tuple #[.agg #[.int .i64 l0,.int .i64 l1,.int .i64 m0,.int .i64 m1,.int .i64 p0,.int .i64 p1,.int .i64 0,.int .i64 since,.bool st,.int .i64 ak],.int .i64 0]) (by simp [results,Tryz.results48,go_sem,hcell]) rfl ?_
 refine ⟨rfl,?_⟩
 go_grown
theorem LG (A:Option Addr) (n cap:Nat) (inc delay:Int) (ps:List (Int×Int)) (l0 l1 m0 m1 p0 p1 since ak:Int) (st:Bool) (now:Int) (w:World) (hn:n≤9223372036854775807) (hp:eF w w.heap.size A n ps)
  (hr:dB n inc delay ps) (hk:gV n l0 l1 m0 m1 p0 p1 0 since ak) (e0:bV now since 100000000=true) (hf:ak<0) (hu:l0<dH st delay since now) :
  Calls Tryz.prog 48 #[.agg #[.slice A n cap,.int .i64 inc,.int .i64 delay],.agg #[.int .i64 l0,.int .i64 l1,.int .i64 m0,.int .i64 m1,.int .i64 p0,.int .i64 p1,.int .i64 0,.int .i64 since,.bool st,.int .i64 ak],.int .i64 now] w
   (fun e w'=>e=.returned (.tuple #[.agg #[.int .i64 0,.int .i64 l1,.int .i64 m0,.int .i64 m1,.int .i64 p0,.int .i64 p1,.int .i64 0,.int .i64 since,.bool st,.int .i64 0],.int .i64 0])∧Below w.heap.size w w'):=by
 have OX:=fE.1 e0
 have hsn:=hk.2.2.1
 have hdl:=hr.2.2.1
 have H:=hid hr
 have HC:=hid hk
 clear hr hk
 have hf':decide (ak<0)=true:=by simp; omega
 have hP:=hid (((hp.alloc (.cells #[.slice A n cap,.int .i64 inc,.int .i64 delay] 65)).alloc (.cells #[.int .i64 l0,.int .i64 l1,.int .i64 m0,.int .i64 m1,.int .i64 p0,.int .i64 p1,.int .i64 0,.int .i64 since,.bool st,.int .i64 ak] 83)).alloc (.cells #[.int .i64 0,.int .i64 0,.int .i64 0,.int .i64 0,.int .i64 0,.int .i64 0,.int .i64 0,.int .i64 0,.bool false,.int .i64 0] 83))
 clear hp
 go_enter Tryz.func48,Tryz.ntmps48
 go_wp2_with fail
 refine (qO A n cap inc delay ps l0 l1 m0 m1 p0 p1 0 since ak st _ hn (hP.out)).mono ?_
 rintro e w1 ⟨c,rfl,hc,hb⟩
 obtain rfl:c=0:=hc.2 ⟨H.out,HC.out⟩
 clear hc
 obtain ⟨hcell,hfr⟩:=ig hb
 have hs:=hb.size
 (try simp only [World.size_alloc] at hs)
 have hz0:w.heap.size<w1.heap.size:=by omega
 have hz1:w.heap.size+1<w1.heap.size:=by omega
 have hz2:w.heap.size+1+1<w1.heap.size:=by omega
 have hbel:=(((((Below.refl w.heap.size w).alloc (by go_size) _).alloc (by go_size) _).alloc (by go_size) _).trans (hb.mono (by go_size)))
 go_wp2_with (go_at_call 80; refine (ay _ _ _ _).mono ?_; rintro e w' ⟨rfl,rfl⟩)
 have c0:w1.cell? ⟨w.heap.size,0,none⟩=some (.slice A n cap):=by simp [hcell,go_sem]
 have c1:w1.cell? ⟨w.heap.size,1,none⟩=some (.int .i64 inc):=by simp [hcell,go_sem]
 have c2:w1.cell? ⟨w.heap.size,2,none⟩=some (.int .i64 delay):=by simp [hcell,go_sem]
 have c3:w1.cell? ⟨w.heap.size+1,0,none⟩=some (.int .i64 l0):=by simp [hcell,go_sem]
 have c4:w1.cell? ⟨w.heap.size+1,1,none⟩=some (.int .i64 l1):=by simp [hcell,go_sem]
 have c5:w1.cell? ⟨w.heap.size+1,2,none⟩=some (.int .i64 m0):=by simp [hcell,go_sem]
 have c6:w1.cell? ⟨w.heap.size+1,3,none⟩=some (.int .i64 m1):=by simp [hcell,go_sem]
 have c7:w1.cell? ⟨w.heap.size+1,4,none⟩=some (.int .i64 p0):=by simp [hcell,go_sem]
 have c8:w1.cell? ⟨w.heap.size+1,5,none⟩=some (.int .i64 p1):=by simp [hcell,go_sem]
 have c9:w1.cell? ⟨w.heap.size+1,6,none⟩=some (.int .i64 0):=by simp [hcell,go_sem]
 have c10:w1.cell? ⟨w.heap.size+1,7,none⟩=some (.int .i64 since):=by simp [hcell,go_sem]
 have c11:w1.cell? ⟨w.heap.size+1,8,none⟩=some (.bool st):=by simp [hcell,go_sem]
 have c12:w1.cell? ⟨w.heap.size+1,9,none⟩=some (.int .i64 ak):=by simp [hcell,go_sem]
 have Dy:=hid hcell
 have Hfr:=hid hfr
 clear hcell hfr
 go_region_held3 (fun w'=>w'.cell? ⟨w.heap.size,0,none⟩=some (.slice A n cap)∧w'.cell? ⟨w.heap.size,1,none⟩=some (.int .i64 inc)∧w'.cell? ⟨w.heap.size,2,none⟩=some (.int .i64 delay)∧w'.cell? ⟨w.heap.size+1,0,none⟩=some (.int .i64 l0)∧w'.cell? ⟨w.heap.size+1,1,none⟩=some (.int .i64 l1)∧w'.cell? ⟨w.heap.size+1,2,none⟩=some (.int .i64 m0)∧w'.cell? ⟨w.heap.size+1,3,none⟩=some (.int .i64 m1)∧w'.cell? ⟨w.heap.size+1,4,none⟩=some (.int .i64 p0)∧w'.cell? ⟨w.heap.size+1,5,none⟩=some (.int .i64 p1)∧w'.cell? ⟨w.heap.size+1,6,none⟩=some (.int .i64 0)∧w'.cell? ⟨w.heap.size+1,7,none⟩=some (.int .i64 since)∧w'.cell? ⟨w.heap.size+1,8,none⟩=some (.bool st)∧w'.cell? ⟨w.heap.size+1,9,none⟩=some (.int .i64 ak)) (go_keep) (first | (go_at_call 92; refine (qP A n cap inc delay l0 l1 m0 m1 p0 p1 0 since ak st now _ (by omega) (by omega) (by omega) (by omega) (by omega) (by omega)).mono ?_; rintro e w' ⟨rfl,rfl⟩))
 generalize hW2:((w1.alloc (.cells #[.slice A n cap,.int .i64 inc,.int .i64 delay] 65)).alloc (.cells #[.int .i64 l0,.int .i64 l1,.int .i64 m0,.int .i64 m1,.int .i64 p0,.int .i64 p1,.int .i64 0,.int .i64 since,.bool st,.int .i64 ak] 83)).drew=w2
 have hb2:Below (((w.alloc (.cells #[.slice A n cap,.int .i64 inc,.int .i64 delay] 65)).alloc (.cells #[.int .i64 l0,.int .i64 l1,.int .i64 m0,.int .i64 m1,.int .i64 p0,.int .i64 p1,.int .i64 0,.int .i64 since,.bool st,.int .i64 ak] 83)).alloc (.cells #[.int .i64 0,.int .i64 0,.int .i64 0,.int .i64 0,.int .i64 0,.int .i64 0,.int .i64 0,.int .i64 0,.bool false,.int .i64 0] 83)).heap.size (((w.alloc (.cells #[.slice A n cap,.int .i64 inc,.int .i64 delay] 65)).alloc (.cells #[.int .i64 l0,.int .i64 l1,.int .i64 m0,.int .i64 m1,.int .i64 p0,.int .i64 p1,.int .i64 0,.int .i64 since,.bool st,.int .i64 ak] 83)).alloc (.cells #[.int .i64 0,.int .i64 0,.int .i64 0,.int .i64 0,.int .i64 0,.int .i64 0,.int .i64 0,.int .i64 0,.bool false,.int .i64 0] 83)) w2:=by rw [← hW2]; exact ((hb.alloc (by go_size) _).alloc (by go_size) _).drew
 clear hW2 Dy Hfr hbel hs hz0 hz1 hz2
 obtain ⟨hcell,hfr⟩:=ig hb2
 have hs:=hb2.size
 (try simp only [World.size_alloc] at hs)
 have hz0:w.heap.size<w2.heap.size:=by omega
 have hz1:w.heap.size+1<w2.heap.size:=by omega
 have hz2:w.heap.size+1+1<w2.heap.size:=by omega
 have hbel:=(((((Below.refl w.heap.size w).alloc (by go_size) _).alloc (by go_size) _).alloc (by go_size) _).trans (hb2.mono (by go_size)))
 clear c0 c1 c2 c3 c4 c5 c6 c7 c8 c9 c10 c11 c12
 go_wp2
 refine bodyPost_ret (v:=.tuple #[.agg #[.int .i64 0,.int .i64 l1,.int .i64 m0,.int .i64 m1,.int .i64 p0,.int .i64 p1,.int .i64 0,.int .i64 since,.bool st,.int .i64 0],.int .i64 0]) (by simp [results,Tryz.results48,go_sem,hcell]) rfl ?_
 refine ⟨rfl,?_⟩
 go_grown
theorem Aw (A:Option Addr) (n cap:Nat) (inc delay:Int) (ps:List (Int×Int)) (l0 l1 m0 m1 p0 p1 since ak:Int) (st:Bool) (now:Int) (w:World) (hn:n≤9223372036854775807) (hp:eF w w.heap.size A n ps)
  (hr:dB n inc delay ps) (hk:gV n l0 l1 m0 m1 p0 p1 1 since ak) (e0:bV now since 100000000=true) (hf:ak<0) (hu:dH st delay since now≤l1) :
  Calls Tryz.prog 48 #[.agg #[.slice A n cap,.int .i64 inc,.int .i64 delay],.agg #[.int .i64 l0,.int .i64 l1,.int .i64 m0,.int .i64 m1,.int .i64 p0,.int .i64 p1,.int .i64 1,.int .i64 since,.bool st,.int .i64 ak],.int .i64 now] w
   (fun e w'=>e=.returned (.tuple #[.agg #[.int .i64 l0,.int .i64 l1,.int .i64 m0,.int .i64 m1,.int .i64 p0,.int .i64 p1,.int .i64 1,.int .i64 since,.bool st,.int .i64 ak],.int .i64 0])∧Below w.heap.size w w'):=by
 have OX:=fE.1 e0
 have hsn:=hk.2.2.1
 have hdl:=hr.2.2.1
 have H:=hid hr
 have HC:=hid hk
 clear hr hk
 have hf':decide (ak<0)=true:=by simp; omega
 have hP:=hid (((hp.alloc (.cells #[.slice A n cap,.int .i64 inc,.int .i64 delay] 65)).alloc (.cells #[.int .i64 l0,.int .i64 l1,.int .i64 m0,.int .i64 m1,.int .i64 p0,.int .i64 p1,.int .i64 1,.int .i64 since,.bool st,.int .i64 ak] 83)).alloc (.cells #[.int .i64 0,.int .i64 0,.int .i64 0,.int .i64 0,.int .i64 0,.int .i64 0,.int .i64 0,.int .i64 0,.bool false,.int .i64 0] 83))
 clear hp
 go_enter Tryz.func48,Tryz.ntmps48
 go_wp2_with fail
 refine (qO A n cap inc delay ps l0 l1 m0 m1 p0 p1 1 since ak st _ hn (hP.out)).mono ?_
 rintro e w1 ⟨c,rfl,hc,hb⟩
 obtain rfl:c=0:=hc.2 ⟨H.out,HC.out⟩
 clear hc
 obtain ⟨hcell,hfr⟩:=ig hb
 have hs:=hb.size
 (try simp only [World.size_alloc] at hs)
 have hz0:w.heap.size<w1.heap.size:=by omega
 have hz1:w.heap.size+1<w1.heap.size:=by omega
 have hz2:w.heap.size+1+1<w1.heap.size:=by omega
 have hbel:=(((((Below.refl w.heap.size w).alloc (by go_size) _).alloc (by go_size) _).alloc (by go_size) _).trans (hb.mono (by go_size)))
 go_wp2_with (go_at_call 80; refine (ay _ _ _ _).mono ?_; rintro e w' ⟨rfl,rfl⟩)
 have c0:w1.cell? ⟨w.heap.size,0,none⟩=some (.slice A n cap):=by simp [hcell,go_sem]
 have c1:w1.cell? ⟨w.heap.size,1,none⟩=some (.int .i64 inc):=by simp [hcell,go_sem]
 have c2:w1.cell? ⟨w.heap.size,2,none⟩=some (.int .i64 delay):=by simp [hcell,go_sem]
 have c3:w1.cell? ⟨w.heap.size+1,0,none⟩=some (.int .i64 l0):=by simp [hcell,go_sem]
 have c4:w1.cell? ⟨w.heap.size+1,1,none⟩=some (.int .i64 l1):=by simp [hcell,go_sem]
 have c5:w1.cell? ⟨w.heap.size+1,2,none⟩=some (.int .i64 m0):=by simp [hcell,go_sem]
 have c6:w1.cell? ⟨w.heap.size+1,3,none⟩=some (.int .i64 m1):=by simp [hcell,go_sem]
 have c7:w1.cell? ⟨w.heap.size+1,4,none⟩=some (.int .i64 p0):=by simp [hcell,go_sem]
 have c8:w1.cell? ⟨w.heap.size+1,5,none⟩=some (.int .i64 p1):=by simp [hcell,go_sem]
 have c9:w1.cell? ⟨w.heap.size+1,6,none⟩=some (.int .i64 1):=by simp [hcell,go_sem]
 have c10:w1.cell? ⟨w.heap.size+1,7,none⟩=some (.int .i64 since):=by simp [hcell,go_sem]
 have c11:w1.cell? ⟨w.heap.size+1,8,none⟩=some (.bool st):=by simp [hcell,go_sem]
 have c12:w1.cell? ⟨w.heap.size+1,9,none⟩=some (.int .i64 ak):=by simp [hcell,go_sem]
 have Dy:=hid hcell
 have Hfr:=hid hfr
 clear hcell hfr
 go_region_held3 (fun w'=>w'.cell? ⟨w.heap.size,0,none⟩=some (.slice A n cap)∧w'.cell? ⟨w.heap.size,1,none⟩=some (.int .i64 inc)∧w'.cell? ⟨w.heap.size,2,none⟩=some (.int .i64 delay)∧w'.cell? ⟨w.heap.size+1,0,none⟩=some (.int .i64 l0)∧w'.cell? ⟨w.heap.size+1,1,none⟩=some (.int .i64 l1)∧w'.cell? ⟨w.heap.size+1,2,none⟩=some (.int .i64 m0)∧w'.cell? ⟨w.heap.size+1,3,none⟩=some (.int .i64 m1)∧w'.cell? ⟨w.heap.size+1,4,none⟩=some (.int .i64 p0)∧w'.cell? ⟨w.heap.size+1,5,none⟩=some (.int .i64 p1)∧w'.cell? ⟨w.heap.size+1,6,none⟩=some (.int .i64 1)∧w'.cell? ⟨w.heap.size+1,7,none⟩=some (.int .i64 since)∧w'.cell? ⟨w.heap.size+1,8,none⟩=some (.bool st)∧w'.cell? ⟨w.heap.size+1,9,none⟩=some (.int .i64 ak)) (go_keep) (first | (go_at_call 92; refine (qP A n cap inc delay l0 l1 m0 m1 p0 p1 1 since ak st now _ (by omega) (by omega) (by omega) (by omega) (by omega) (by omega)).mono ?_; rintro e w' ⟨rfl,rfl⟩))
 generalize hW2:((w1.alloc (.cells #[.slice A n cap,.int .i64 inc,.int .i64 delay] 65)).alloc (.cells #[.int .i64 l0,.int .i64 l1,.int .i64 m0,.int .i64 m1,.int .i64 p0,.int .i64 p1,.int .i64 1,.int .i64 since,.bool st,.int .i64 ak] 83)).drew=w2
 have hb2:Below (((w.alloc (.cells #[.slice A n cap,.int .i64 inc,.int .i64 delay] 65)).alloc (.cells #[.int .i64 l0,.int .i64 l1,.int .i64 m0,.int .i64 m1,.int .i64 p0,.int .i64 p1,.int .i64 1,.int .i64 since,.bool st,.int .i64 ak] 83)).alloc (.cells #[.int .i64 0,.int .i64 0,.int .i64 0,.int .i64 0,.int .i64 0,.int .i64 0,.int .i64 0,.int .i64 0,.bool false,.int .i64 0] 83)).heap.size (((w.alloc (.cells #[.slice A n cap,.int .i64 inc,.int .i64 delay] 65)).alloc (.cells #[.int .i64 l0,.int .i64 l1,.int .i64 m0,.int .i64 m1,.int .i64 p0,.int .i64 p1,.int .i64 1,.int .i64 since,.bool st,.int .i64 ak] 83)).alloc (.cells #[.int .i64 0,.int .i64 0,.int .i64 0,.int .i64 0,.int .i64 0,.int .i64 0,.int .i64 0,.int .i64 0,.bool false,.int .i64 0] 83)) w2:=by rw [← hW2]; exact ((hb.alloc (by go_size) _).alloc (by go_size) _).drew
 clear hW2 Dy Hfr hbel hs hz0 hz1 hz2
 obtain ⟨hcell,hfr⟩:=ig hb2
 have hs:=hb2.size
 (try simp only [World.size_alloc] at hs)
 have hz0:w.heap.size<w2.heap.size:=by omega
 have hz1:w.heap.size+1<w2.heap.size:=by omega
 have hz2:w.heap.size+1+1<w2.heap.size:=by omega
 have hbel:=(((((Below.refl w.heap.size w).alloc (by go_size) _).alloc (by go_size) _).alloc (by go_size) _).trans (hb2.mono (by go_size)))
 clear c0 c1 c2 c3 c4 c5 c6 c7 c8 c9 c10 c11 c12
 go_wp2
 refine bodyPost_ret (v:=.tuple #[.agg #[.int .i64 l0,.int .i64 l1,.int .i64 m0,.int .i64 m1,.int .i64 p0,.int .i64 p1,.int .i64 1,.int .i64 since,.bool st,.int .i64 ak],.int .i64 0]) (by simp [results,Tryz.results48,go_sem,hcell]) rfl ?_
 refine ⟨rfl,?_⟩
 go_grown
theorem LH (A:Option Addr) (n cap:Nat) (inc delay:Int) (ps:List (Int×Int)) (l0 l1 m0 m1 p0 p1 since ak:Int) (st:Bool) (now:Int) (w:World) (hn:n≤9223372036854775807) (hp:eF w w.heap.size A n ps)
  (hr:dB n inc delay ps) (hk:gV n l0 l1 m0 m1 p0 p1 1 since ak) (e0:bV now since 100000000=true) (hf:ak<0) (hu:l1<dH st delay since now) :
  Calls Tryz.prog 48 #[.agg #[.slice A n cap,.int .i64 inc,.int .i64 delay],.agg #[.int .i64 l0,.int .i64 l1,.int .i64 m0,.int .i64 m1,.int .i64 p0,.int .i64 p1,.int .i64 1,.int .i64 since,.bool st,.int .i64 ak],.int .i64 now] w
   (fun e w'=>e=.returned (.tuple #[.agg #[.int .i64 l0,.int .i64 0,.int .i64 m0,.int .i64 m1,.int .i64 p0,.int .i64 p1,.int .i64 1,.int .i64 since,.bool st,.int .i64 1],.int .i64 0])∧Below w.heap.size w w'):=by
 have OX:=fE.1 e0
 have hsn:=hk.2.2.1
 have hdl:=hr.2.2.1
 have H:=hid hr
 have HC:=hid hk
 clear hr hk
 have hf':decide (ak<0)=true:=by simp; omega
 have hP:=hid (((hp.alloc (.cells #[.slice A n cap,.int .i64 inc,.int .i64 delay] 65)).alloc (.cells #[.int .i64 l0,.int .i64 l1,.int .i64 m0,.int .i64 m1,.int .i64 p0,.int .i64 p1,.int .i64 1,.int .i64 since,.bool st,.int .i64 ak] 83)).alloc (.cells #[.int .i64 0,.int .i64 0,.int .i64 0,.int .i64 0,.int .i64 0,.int .i64 0,.int .i64 0,.int .i64 0,.bool false,.int .i64 0] 83))
 clear hp
 go_enter Tryz.func48,Tryz.ntmps48
 go_wp2_with fail
 refine (qO A n cap inc delay ps l0 l1 m0 m1 p0 p1 1 since ak st _ hn (hP.out)).mono ?_
 rintro e w1 ⟨c,rfl,hc,hb⟩
 obtain rfl:c=0:=hc.2 ⟨H.out,HC.out⟩
 clear hc
 obtain ⟨hcell,hfr⟩:=ig hb
 have hs:=hb.size
 (try simp only [World.size_alloc] at hs)
 have hz0:w.heap.size<w1.heap.size:=by omega
 have hz1:w.heap.size+1<w1.heap.size:=by omega
 have hz2:w.heap.size+1+1<w1.heap.size:=by omega
 have hbel:=(((((Below.refl w.heap.size w).alloc (by go_size) _).alloc (by go_size) _).alloc (by go_size) _).trans (hb.mono (by go_size)))
 go_wp2_with (go_at_call 80; refine (ay _ _ _ _).mono ?_; rintro e w' ⟨rfl,rfl⟩)
 have c0:w1.cell? ⟨w.heap.size,0,none⟩=some (.slice A n cap):=by simp [hcell,go_sem]
 have c1:w1.cell? ⟨w.heap.size,1,none⟩=some (.int .i64 inc):=by simp [hcell,go_sem]
 have c2:w1.cell? ⟨w.heap.size,2,none⟩=some (.int .i64 delay):=by simp [hcell,go_sem]
 have c3:w1.cell? ⟨w.heap.size+1,0,none⟩=some (.int .i64 l0):=by simp [hcell,go_sem]
 have c4:w1.cell? ⟨w.heap.size+1,1,none⟩=some (.int .i64 l1):=by simp [hcell,go_sem]
 have c5:w1.cell? ⟨w.heap.size+1,2,none⟩=some (.int .i64 m0):=by simp [hcell,go_sem]
 have c6:w1.cell? ⟨w.heap.size+1,3,none⟩=some (.int .i64 m1):=by simp [hcell,go_sem]
 have c7:w1.cell? ⟨w.heap.size+1,4,none⟩=some (.int .i64 p0):=by simp [hcell,go_sem]
 have c8:w1.cell? ⟨w.heap.size+1,5,none⟩=some (.int .i64 p1):=by simp [hcell,go_sem]
 have c9:w1.cell? ⟨w.heap.size+1,6,none⟩=some (.int .i64 1):=by simp [hcell,go_sem]
 have c10:w1.cell? ⟨w.heap.size+1,7,none⟩=some (.int .i64 since):=by simp [hcell,go_sem]
 have c11:w1.cell? ⟨w.heap.size+1,8,none⟩=some (.bool st):=by simp [hcell,go_sem]
 have c12:w1.cell? ⟨w.heap.size+1,9,none⟩=some (.int .i64 ak):=by simp [hcell,go_sem]
 have Dy:=hid hcell
 have Hfr:=hid hfr
 clear hcell hfr
 go_region_held3 (fun w'=>w'.cell? ⟨w.heap.size,0,none⟩=some (.slice A n cap)∧w'.cell? ⟨w.heap.size,1,none⟩=some (.int .i64 inc)∧w'.cell? ⟨w.heap.size,2,none⟩=some (.int .i64 delay)∧w'.cell? ⟨w.heap.size+1,0,none⟩=some (.int .i64 l0)∧w'.cell? ⟨w.heap.size+1,1,none⟩=some (.int .i64 l1)∧w'.cell? ⟨w.heap.size+1,2,none⟩=some (.int .i64 m0)∧w'.cell? ⟨w.heap.size+1,3,none⟩=some (.int .i64 m1)∧w'.cell? ⟨w.heap.size+1,4,none⟩=some (.int .i64 p0)∧w'.cell? ⟨w.heap.size+1,5,none⟩=some (.int .i64 p1)∧w'.cell? ⟨w.heap.size+1,6,none⟩=some (.int .i64 1)∧w'.cell? ⟨w.heap.size+1,7,none⟩=some (.int .i64 since)∧w'.cell? ⟨w.heap.size+1,8,none⟩=some (.bool st)∧w'.cell? ⟨w.heap.size+1,9,none⟩=some (.int .i64 ak)) (go_keep) (first | (go_at_call 92; refine (qP A n cap inc delay l0 l1 m0 m1 p0 p1 1 since ak st now _ (by omega) (by omega) (by omega) (by omega) (by omega) (by omega)).mono ?_; rintro e w' ⟨rfl,rfl⟩))
 generalize hW2:((w1.alloc (.cells #[.slice A n cap,.int .i64 inc,.int .i64 delay] 65)).alloc (.cells #[.int .i64 l0,.int .i64 l1,.int .i64 m0,.int .i64 m1,.int .i64 p0,.int .i64 p1,.int .i64 1,.int .i64 since,.bool st,.int .i64 ak] 83)).drew=w2
 have hb2:Below (((w.alloc (.cells #[.slice A n cap,.int .i64 inc,.int .i64 delay] 65)).alloc (.cells #[.int .i64 l0,.int .i64 l1,.int .i64 m0,.int .i64 m1,.int .i64 p0,.int .i64 p1,.int .i64 1,.int .i64 since,.bool st,.int .i64 ak] 83)).alloc (.cells #[.int .i64 0,.int .i64 0,.int .i64 0,.int .i64 0,.int .i64 0,.int .i64 0,.int .i64 0,.int .i64 0,.bool false,.int .i64 0] 83)).heap.size (((w.alloc (.cells #[.slice A n cap,.int .i64 inc,.int .i64 delay] 65)).alloc (.cells #[.int .i64 l0,.int .i64 l1,.int .i64 m0,.int .i64 m1,.int .i64 p0,.int .i64 p1,.int .i64 1,.int .i64 since,.bool st,.int .i64 ak] 83)).alloc (.cells #[.int .i64 0,.int .i64 0,.int .i64 0,.int .i64 0,.int .i64 0,.int .i64 0,.int .i64 0,.int .i64 0,.bool false,.int .i64 0] 83)) w2:=by rw [← hW2]; exact ((hb.alloc (by go_size) _).alloc (by go_size) _).drew
 clear hW2 Dy Hfr hbel hs hz0 hz1 hz2
 obtain ⟨hcell,hfr⟩:=ig hb2
 have hs:=hb2.size
 (try simp only [World.size_alloc] at hs)
 have hz0:w.heap.size<w2.heap.size:=by omega
 have hz1:w.heap.size+1<w2.heap.size:=by omega
 have hz2:w.heap.size+1+1<w2.heap.size:=by omega
 have hbel:=(((((Below.refl w.heap.size w).alloc (by go_size) _).alloc (by go_size) _).alloc (by go_size) _).trans (hb2.mono (by go_size)))
 clear c0 c1 c2 c3 c4 c5 c6 c7 c8 c9 c10 c11 c12
 go_wp2
 refine bodyPost_ret (v:=.tuple #[.agg #[.int .i64 l0,.int .i64 0,.int .i64 m0,.int .i64 m1,.int .i64 p0,.int .i64 p1,.int .i64 1,.int .i64 since,.bool st,.int .i64 1],.int .i64 0]) (by simp [results,Tryz.results48,go_sem,hcell]) rfl ?_
 refine ⟨rfl,?_⟩
 go_grown
end Go.Proofs.YteablcielclaeaaGreatDoor.clk

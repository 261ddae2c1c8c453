/- clock.Check, Valid, Look. -/
import Derived.Test.YteablcielclaeaaGreatDoorP17
namespace Go.Proofs.YteablcielclaeaaGreatDoor.clk
open Go.ChangeShapes Go.WideShapes Go.ChangeAt Go.RowKit
set_option linter.unusedVariables false
set_option maxHeartbeats 1000000
open Go.Lib (hid)
theorem kR {W w1:World} (hb:Below W.heap.size W w1):(∀ b o,b<W.heap.size→w1.cell? ⟨b,o,none⟩=W.cell? ⟨b,o,none⟩)∧(∀ b o,b<W.heap.size→w1.frozen? ⟨b,o,none⟩=W.frozen? ⟨b,o,none⟩):=
 ⟨fun b o h=>hb.cell (p:=⟨b,o,none⟩) h,fun b o h=>hb.frozen (p:=⟨b,o,none⟩) h⟩
def dD (n lo hi:Int):Bool:=decide (lo≤n∧n≤hi)
theorem au (n lo hi:Int) (w:World) :
  Calls Tryz.prog 80 #[.int .i64 n,.int .i64 lo,.int .i64 hi] w fun e w'=>e=.returned (.bool (dD n lo hi))∧w=w':=by
 by_cases h1:lo≤n
 ·by_cases h2:n≤hi
  ·have H:=hid (show dD n lo hi=true by unfold dD; rw [decide_eq_true_eq]; omega)
   go_enter Tryz.func80,Tryz.ntmps80
   go_wp2
   go_ret
   exact ⟨by rw [H.out]; rfl,rfl⟩
  ·have H:=hid (show dD n lo hi=false by unfold dD; rw [decide_eq_false_iff_not]; omega)
   go_enter Tryz.func80,Tryz.ntmps80
   go_wp2
   go_ret
   exact ⟨by rw [H.out]; rfl,rfl⟩
 ·have H:=hid (show dD n lo hi=false by unfold dD; rw [decide_eq_false_iff_not]; omega)
  go_enter Tryz.func80,Tryz.ntmps80
  go_wp2
  go_ret
  exact ⟨by rw [H.out]; rfl,rfl⟩
def gG (w:World) (B:Nat) (A:Option Addr) (n:Nat) (ps:List (Int×Int)):Prop:=
 ps.length=n∧(0<n→∃ b off,A=some ⟨b,off,none⟩∧b<B∧∀ k,k<n→w.cell? ⟨b,off+k * 2,none⟩=some (.int .i64 (ps.getD k (0,0)).1)∧w.cell? ⟨b,off+k * 2+1,none⟩=some (.int .i64 (ps.getD k (0,0)).2))
def lZ (n:Nat) (k:Nat) (p:Int×Int):Bool:=dD p.1 0 400 && (dD p.2 1 100000000 && ((p.1 == 0) == ((k:Int) == (n:Int) - 1)))
def dR (n:Nat) (inc delay:Int) (ps:List (Int×Int)):Prop:=
 (1≤n∧n≤5)∧(0≤inc∧inc≤100000000)∧(0≤delay∧delay≤100000000)∧∀ k,k<n→lZ n k (ps.getD k (0,0))=true
def iw (ok:Prop) (w:World) (e:Ending) (w':World):Prop:=∃ c:Int,e=.returned (.int .i64 c)∧(c=0↔ok)∧Below w.heap.size w w'
theorem eU {n lo hi:Int} (h:lo≤n∧n≤hi):dD n lo hi=true:=by unfold dD; simpa using h
theorem wU {n lo hi:Int} (h:¬ (lo≤n∧n≤hi)):dD n lo hi=false:=by unfold dD; rw [decide_eq_false_iff_not]; exact h
theorem iK {n lo hi:Int}:dD n lo hi=true↔lo≤n∧n≤hi:=by unfold dD; simp
theorem gK (A:Option Addr) (n cap:Nat) (inc delay:Int) (ps:List (Int×Int)) (w:World) (hn:n≤9223372036854775807) (hp:gG w w.heap.size A n ps) :
  Calls Tryz.prog 79 #[.agg #[.slice A n cap,.int .i64 inc,.int .i64 delay]] w (iw (dR n inc delay ps) w):=by
 by_cases h1:1≤n∧n≤5
 ·obtain ⟨h1,h2⟩:=h1
  obtain ⟨hl,hp⟩:=hp
  obtain ⟨b,off,rfl,hb,hcells⟩:=hp (by omega)
  have Hc:=hid hcells
  clear hl hp hcells
  have e1:dD n 1 5=true:=eU (by omega)
  by_cases h3:0≤inc∧inc≤100000000
  ·have e3:=eU h3
   by_cases h4:0≤delay∧delay≤100000000
   ·have e4:=eU h4
    go_enter Tryz.func79,Tryz.ntmps79
    go_wp2_with (go_at_call 80; refine (au _ _ _ _).mono ?_; rintro e w' ⟨rfl,rfl⟩)
    go_loopw [23] (fun i wr=>∃ k:Nat,k≤n∧i=.int .i64 k∧Hid (∀ j,j<k→lZ n j (ps.getD j (0,0))=true)∧Below (w.alloc (.cells #[.slice (some ⟨b,off,none⟩) n cap,.int .i64 inc,.int .i64 delay] 65)).heap.size (w.alloc (.cells #[.slice (some ⟨b,off,none⟩) n cap,.int .i64 inc,.int .i64 delay] 65)) wr) (fun i _=>n - (intOf i).toNat)
    case atStart=>exact ⟨0,Nat.zero_le _,rfl,hid (fun j hj=>absurd hj (by omega)),Below.refl _ _⟩
    case round =>
     obtain ⟨k,hk,rfl,Hk,hbl⟩:=hrel
     obtain ⟨hcell,hfr⟩:=kR hbl
     have hz:=hbl.size
     simp at hz
     have hz1:w.heap.size<wr.heap.size:=by omega
     have hz2:b<wr.heap.size:=by omega
     by_cases hlt:k<n
     ·obtain ⟨c1,c2⟩:=Hc.out k hlt
      have HS:Hid (lZ n k (ps.getD k (0,0))=true→∀ j,j<k+1→lZ n j (ps.getD j (0,0))=true):=hid (fun h j hj=>by
       by_cases e:j=k
       ·subst e; exact h
       ·exact Hk.out j (by omega))
      have HF:Hid (lZ n k (ps.getD k (0,0))=false→¬ dR n inc delay ps):=hid (fun h hr=>by have:=hr.2.2.2 k hlt; rw [h] at this; cases this)
      generalize ps.getD k (0,0)=q at *
      obtain ⟨qm,qt⟩:=q
      go_wp2_with (go_at_call 80; refine (au _ _ _ _).mono ?_; rintro e w' ⟨rfl,rfl⟩)
      ·have hq:lZ n k (qm,qt)=false:=by simp_all [lZ]
       go_ret
       exact ⟨_,rfl,⟨(fun h=>by cases h),fun h=>absurd h (HF.out hq)⟩,(((Below.refl _ _).alloc (by go_size) _).trans (hbl.mono (by go_size))).alloc (by go_size) _⟩
      ·have hq:lZ n k (qm,qt)=false:=by simp_all [lZ]
       go_ret
       exact ⟨_,rfl,⟨(fun h=>by cases h),fun h=>absurd h (HF.out hq)⟩,(((Below.refl _ _).alloc (by go_size) _).trans (hbl.mono (by go_size))).alloc (by go_size) _⟩
      ·have hq:lZ n k (qm,qt)=true:=by simp_all [lZ]
       go_roundw
       case rel=>exact ⟨k+1,by omega,by go_num,hid (HS.out hq),hbl.alloc (by go_size) _⟩
       case measure=>simp [intOf]; omega
      ·have hq:lZ n k (qm,qt)=false:=by simp_all [lZ]
       go_ret
       exact ⟨_,rfl,⟨(fun h=>by cases h),fun h=>absurd h (HF.out hq)⟩,(((Below.refl _ _).alloc (by go_size) _).trans (hbl.mono (by go_size))).alloc (by go_size) _⟩
     ·go_wp2
      go_ret
      refine ⟨_,rfl,⟨fun _=>⟨⟨h1,h2⟩,h3,h4,fun j hj=>Hk.out j (by omega)⟩,fun _=>rfl⟩,?_⟩
      exact ((Below.refl _ _).alloc (Nat.le_refl _) _).trans (hbl.mono (by go_size))
   ·have e4:=wU h4
    go_enter Tryz.func79,Tryz.ntmps79
    go_wp2_with (go_at_call 80; refine (au _ _ _ _).mono ?_; rintro e w' ⟨rfl,rfl⟩)
    go_ret
    exact ⟨_,rfl,⟨(fun h=>by cases h),fun h=>absurd h.2.2.1 h4⟩,by go_grown⟩
  ·have e3:=wU h3
   go_enter Tryz.func79,Tryz.ntmps79
   go_wp2_with (go_at_call 80; refine (au _ _ _ _).mono ?_; rintro e w' ⟨rfl,rfl⟩)
   go_ret
   exact ⟨_,rfl,⟨(fun h=>by cases h),fun h=>absurd h.2.1 h3⟩,by go_grown⟩
 ·have e1:dD n 1 5=false:=wU (by omega)
  have H1:=hid h1
  clear h1
  go_enter Tryz.func79,Tryz.ntmps79
  go_wp2_with (go_at_call 80; refine (au _ _ _ _).mono ?_; rintro e w' ⟨rfl,rfl⟩)
  go_ret
  exact ⟨_,rfl,⟨(fun h=>by cases h),fun h=>absurd h.1 H1.out⟩,by go_grown⟩
theorem still {P:Program} {f:FuncId} {args:Array Value} {W:World} {v:Value} {Q:World→Prop} (h:Calls P f args W fun e w'=>e=.returned v∧W=w') (hq:Q W) :
  Calls P f args W fun e w''=>e=.returned v∧Q w'':=h.mono fun _ _ ⟨he,hw⟩=>⟨he,hw ▸ hq⟩
def iQ (n:Nat) (l0 l1 m0 m1 p0 p1 turn since ay:Int):Prop:=(0≤turn∧turn≤1)∧((-1)≤ay∧ay≤1)∧(0≤since∧since≤100000000)∧(0≤p0∧p0≤((n:Int) - 1))∧(0≤m0∧m0≤400)∧(0≤l0∧l0≤100000000000)∧(0≤p1∧p1≤((n:Int) - 1))∧(0≤m1∧m1≤400)∧(0≤l1∧l1≤100000000000)
theorem gG.mono {w w':World} {B B':Nat} {A:Option Addr} {n:Nat} {ps:List (Int×Int)} (h:gG w B A n ps) (hB:B≤B') (hb:∀ p:Addr,p.block<B→w'.cell? p=w.cell? p):gG w' B' A n ps:=by
 refine ⟨h.1,fun hn=>?_⟩
 obtain ⟨b,off,rfl,hlt,hc⟩:=h.2 hn
 exact ⟨b,off,rfl,by omega,fun k hk=>⟨(hb _ hlt).trans (hc k hk).1,(hb _ hlt).trans (hc k hk).2⟩⟩
theorem gG.alloc {w:World} {A:Option Addr} {n:Nat} {ps:List (Int×Int)} (h:gG w w.heap.size A n ps) (o:Obj):gG (w.alloc o) (w.alloc o).heap.size A n ps:=
 h.mono (by simp) (fun p hp=>World.cell?_alloc_lt w o p hp)
theorem gG.below {w w':World} {A:Option Addr} {n:Nat} {ps:List (Int×Int)} (h:gG w w.heap.size A n ps) (hb:Below w.heap.size w w'):gG w' w'.heap.size A n ps:=
 h.mono hb.size (fun p hp=>hb.cell hp)
theorem PU (A:Option Addr) (n cap:Nat) (inc delay:Int) (ps:List (Int×Int)) (l0 l1 m0 m1 p0 p1 turn since ay:Int) (st:Bool) (w:World) (hn:n≤9223372036854775807) (hp:gG w w.heap.size A n ps) (h:¬ dR n inc delay ps) :
  Calls Tryz.prog 91 #[.agg #[.slice A n cap,.int .i64 inc,.int .i64 delay],.agg #[.int .i64 l0,.int .i64 l1,.int .i64 m0,.int .i64 m1,.int .i64 p0,.int .i64 p1,.int .i64 turn,.int .i64 since,.bool st,.int .i64 ay]] w (iw (dR n inc delay ps∧iQ n l0 l1 m0 m1 p0 p1 turn since ay) w):=by
 have H:=hid h
 clear h
 have hP:=hid ((hp.alloc (.cells #[.slice A n cap,.int .i64 inc,.int .i64 delay] 65)).alloc (.cells #[.int .i64 l0,.int .i64 l1,.int .i64 m0,.int .i64 m1,.int .i64 p0,.int .i64 p1,.int .i64 turn,.int .i64 since,.bool st,.int .i64 ay] 83))
 clear hp
 go_enter Tryz.func91,Tryz.ntmps91
 go_wp2_with fail
 refine (gK A n cap inc delay ps _ hn (hP.out)).mono ?_
 rintro e w1 ⟨c,rfl,hc,hb⟩
 have h1:(c != 0)=true:=by rw [bne_iff_ne]; exact fun h0=>H.out (hc.1 h0)
 clear hc
 go_wp2
 go_ret
 exact ⟨_,rfl,⟨fun h=>by simp [h] at h1,fun h=>absurd h.1 H.out⟩,((((Below.refl w.heap.size w).alloc (by go_size) _).alloc (by go_size) _).trans (hb.mono (by go_size)))⟩
theorem abN (A:Option Addr) (n cap:Nat) (inc delay:Int) (ps:List (Int×Int)) (l0 l1 m0 m1 p0 p1 turn since ay:Int) (st:Bool) (w:World) (hn:n≤9223372036854775807) (hp:gG w w.heap.size A n ps) (hr:dR n inc delay ps) (e0:dD turn 0 1=false) :
  Calls Tryz.prog 91 #[.agg #[.slice A n cap,.int .i64 inc,.int .i64 delay],.agg #[.int .i64 l0,.int .i64 l1,.int .i64 m0,.int .i64 m1,.int .i64 p0,.int .i64 p1,.int .i64 turn,.int .i64 since,.bool st,.int .i64 ay]] w (iw (dR n inc delay ps∧iQ n l0 l1 m0 m1 p0 p1 turn since ay) w):=by
 have H:=hid hr
 clear hr
 have IE:n≤5:=H.out.1.2
 have hn1:1≤n:=H.out.1.1
 have HC:Hid (¬ iQ n l0 l1 m0 m1 p0 p1 turn since ay):=hid (fun h=>by have:=eU (h.1); rw [e0] at this; cases this)
 have hP:=hid ((hp.alloc (.cells #[.slice A n cap,.int .i64 inc,.int .i64 delay] 65)).alloc (.cells #[.int .i64 l0,.int .i64 l1,.int .i64 m0,.int .i64 m1,.int .i64 p0,.int .i64 p1,.int .i64 turn,.int .i64 since,.bool st,.int .i64 ay] 83))
 clear hp
 go_enter Tryz.func91,Tryz.ntmps91
 go_wp2_with fail
 refine (gK A n cap inc delay ps _ hn (hP.out)).mono ?_
 rintro e w1 ⟨c,rfl,hc,hb⟩
 obtain rfl:c=0:=hc.2 H.out
 clear hc
 obtain ⟨hcell,hfr⟩:=kR hb
 have hs:=hb.size
 (try simp only [World.size_alloc] at hs)
 go_wp2_with (go_at_call 80; refine (au _ _ _ _).mono ?_; rintro e w' ⟨rfl,rfl⟩)
 refine wp_loop_rounds 3 ?_
 rw [rounds_succ]
 go_wp2_with (go_at_call 80; refine (au _ _ _ _).mono ?_; rintro e w' ⟨rfl,rfl⟩)
 go_quiet ((go_at_call 80; exact still (au _ _ _ _) ⟨_,rfl⟩))
 go_wp2_with (go_at_call 80; refine (au _ _ _ _).mono ?_; rintro e w' ⟨rfl,rfl⟩)
 rw [rounds_succ]
 go_wp2_with (go_at_call 80; refine (au _ _ _ _).mono ?_; rintro e w' ⟨rfl,rfl⟩)
 go_quiet ((go_at_call 80; exact still (au _ _ _ _) ⟨_,rfl⟩))
 go_wp2_with (go_at_call 80; refine (au _ _ _ _).mono ?_; rintro e w' ⟨rfl,rfl⟩)
 rw [rounds_succ]
 go_wp2_with (go_at_call 80; refine (au _ _ _ _).mono ?_; rintro e w' ⟨rfl,rfl⟩)
 go_ret
 exact ⟨_,rfl,⟨(fun h=>by cases h),fun h=>absurd h.2 HC.out⟩,below_drewN ((((Below.refl w.heap.size w).alloc (by go_size) _).alloc (by go_size) _).trans (hb.mono (by go_size))) _⟩
theorem abO (A:Option Addr) (n cap:Nat) (inc delay:Int) (ps:List (Int×Int)) (l0 l1 m0 m1 p0 p1 turn since ay:Int) (st:Bool) (w:World) (hn:n≤9223372036854775807) (hp:gG w w.heap.size A n ps) (hr:dR n inc delay ps) (e0:dD turn 0 1=true) (e1:dD ay (-1) 1=false) :
  Calls Tryz.prog 91 #[.agg #[.slice A n cap,.int .i64 inc,.int .i64 delay],.agg #[.int .i64 l0,.int .i64 l1,.int .i64 m0,.int .i64 m1,.int .i64 p0,.int .i64 p1,.int .i64 turn,.int .i64 since,.bool st,.int .i64 ay]] w (iw (dR n inc delay ps∧iQ n l0 l1 m0 m1 p0 p1 turn since ay) w):=by
 have H:=hid hr
 clear hr
 have IE:n≤5:=H.out.1.2
 have hn1:1≤n:=H.out.1.1
 have HC:Hid (¬ iQ n l0 l1 m0 m1 p0 p1 turn since ay):=hid (fun h=>by have:=eU (h.2.1); rw [e1] at this; cases this)
 have hP:=hid ((hp.alloc (.cells #[.slice A n cap,.int .i64 inc,.int .i64 delay] 65)).alloc (.cells #[.int .i64 l0,.int .i64 l1,.int .i64 m0,.int .i64 m1,.int .i64 p0,.int .i64 p1,.int .i64 turn,.int .i64 since,.bool st,.int .i64 ay] 83))
 clear hp
 go_enter Tryz.func91,Tryz.ntmps91
 go_wp2_with fail
 refine (gK A n cap inc delay ps _ hn (hP.out)).mono ?_
 rintro e w1 ⟨c,rfl,hc,hb⟩
 obtain rfl:c=0:=hc.2 H.out
 clear hc
 obtain ⟨hcell,hfr⟩:=kR hb
 have hs:=hb.size
 (try simp only [World.size_alloc] at hs)
 go_wp2_with (go_at_call 80; refine (au _ _ _ _).mono ?_; rintro e w' ⟨rfl,rfl⟩)
 refine wp_loop_rounds 3 ?_
 rw [rounds_succ]
 go_wp2_with (go_at_call 80; refine (au _ _ _ _).mono ?_; rintro e w' ⟨rfl,rfl⟩)
 go_quiet ((go_at_call 80; exact still (au _ _ _ _) ⟨_,rfl⟩))
 go_wp2_with (go_at_call 80; refine (au _ _ _ _).mono ?_; rintro e w' ⟨rfl,rfl⟩)
 rw [rounds_succ]
 go_wp2_with (go_at_call 80; refine (au _ _ _ _).mono ?_; rintro e w' ⟨rfl,rfl⟩)
 go_quiet ((go_at_call 80; exact still (au _ _ _ _) ⟨_,rfl⟩))
 go_wp2_with (go_at_call 80; refine (au _ _ _ _).mono ?_; rintro e w' ⟨rfl,rfl⟩)
 rw [rounds_succ]
 go_wp2_with (go_at_call 80; refine (au _ _ _ _).mono ?_; rintro e w' ⟨rfl,rfl⟩)
 go_ret
 exact ⟨_,rfl,⟨(fun h=>by cases h),fun h=>absurd h.2 HC.out⟩,below_drewN ((((Below.refl w.heap.size w).alloc (by go_size) _).alloc (by go_size) _).trans (hb.mono (by go_size))) _⟩
theorem abP (A:Option Addr) (n cap:Nat) (inc delay:Int) (ps:List (Int×Int)) (l0 l1 m0 m1 p0 p1 turn since ay:Int) (st:Bool) (w:World) (hn:n≤9223372036854775807) (hp:gG w w.heap.size A n ps) (hr:dR n inc delay ps) (e0:dD turn 0 1=true) (e1:dD ay (-1) 1=true) (e2:dD since 0 100000000=false) :
  Calls Tryz.prog 91 #[.agg #[.slice A n cap,.int .i64 inc,.int .i64 delay],.agg #[.int .i64 l0,.int .i64 l1,.int .i64 m0,.int .i64 m1,.int .i64 p0,.int .i64 p1,.int .i64 turn,.int .i64 since,.bool st,.int .i64 ay]] w (iw (dR n inc delay ps∧iQ n l0 l1 m0 m1 p0 p1 turn since ay) w):=by
 have H:=hid hr
 clear hr
 have IE:n≤5:=H.out.1.2
 have hn1:1≤n:=H.out.1.1
 have HC:Hid (¬ iQ n l0 l1 m0 m1 p0 p1 turn since ay):=hid (fun h=>by have:=eU (h.2.2.1); rw [e2] at this; cases this)
 have hP:=hid ((hp.alloc (.cells #[.slice A n cap,.int .i64 inc,.int .i64 delay] 65)).alloc (.cells #[.int .i64 l0,.int .i64 l1,.int .i64 m0,.int .i64 m1,.int .i64 p0,.int .i64 p1,.int .i64 turn,.int .i64 since,.bool st,.int .i64 ay] 83))
 clear hp
 go_enter Tryz.func91,Tryz.ntmps91
 go_wp2_with fail
 refine (gK A n cap inc delay ps _ hn (hP.out)).mono ?_
 rintro e w1 ⟨c,rfl,hc,hb⟩
 obtain rfl:c=0:=hc.2 H.out
 clear hc
 obtain ⟨hcell,hfr⟩:=kR hb
 have hs:=hb.size
 (try simp only [World.size_alloc] at hs)
 go_wp2_with (go_at_call 80; refine (au _ _ _ _).mono ?_; rintro e w' ⟨rfl,rfl⟩)
 refine wp_loop_rounds 3 ?_
 rw [rounds_succ]
 go_wp2_with (go_at_call 80; refine (au _ _ _ _).mono ?_; rintro e w' ⟨rfl,rfl⟩)
 go_quiet ((go_at_call 80; exact still (au _ _ _ _) ⟨_,rfl⟩))
 go_wp2_with (go_at_call 80; refine (au _ _ _ _).mono ?_; rintro e w' ⟨rfl,rfl⟩)
 rw [rounds_succ]
 go_wp2_with (go_at_call 80; refine (au _ _ _ _).mono ?_; rintro e w' ⟨rfl,rfl⟩)
 go_quiet ((go_at_call 80; exact still (au _ _ _ _) ⟨_,rfl⟩))
 go_wp2_with (go_at_call 80; refine (au _ _ _ _).mono ?_; rintro e w' ⟨rfl,rfl⟩)
 rw [rounds_succ]
 go_wp2_with (go_at_call 80; refine (au _ _ _ _).mono ?_; rintro e w' ⟨rfl,rfl⟩)
 go_ret
 exact ⟨_,rfl,⟨(fun h=>by cases h),fun h=>absurd h.2 HC.out⟩,below_drewN ((((Below.refl w.heap.size w).alloc (by go_size) _).alloc (by go_size) _).trans (hb.mono (by go_size))) _⟩
theorem abQ (A:Option Addr) (n cap:Nat) (inc delay:Int) (ps:List (Int×Int)) (l0 l1 m0 m1 p0 p1 turn since ay:Int) (st:Bool) (w:World) (hn:n≤9223372036854775807) (hp:gG w w.heap.size A n ps) (hr:dR n inc delay ps) (e0:dD turn 0 1=true) (e1:dD ay (-1) 1=true) (e2:dD since 0 100000000=true) (e3:dD p0 0 ((n:Int) - 1)=false) :
  Calls Tryz.prog 91 #[.agg #[.slice A n cap,.int .i64 inc,.int .i64 delay],.agg #[.int .i64 l0,.int .i64 l1,.int .i64 m0,.int .i64 m1,.int .i64 p0,.int .i64 p1,.int .i64 turn,.int .i64 since,.bool st,.int .i64 ay]] w (iw (dR n inc delay ps∧iQ n l0 l1 m0 m1 p0 p1 turn since ay) w):=by
 have H:=hid hr
 clear hr
 have IE:n≤5:=H.out.1.2
 have hn1:1≤n:=H.out.1.1
 have HC:Hid (¬ iQ n l0 l1 m0 m1 p0 p1 turn since ay):=hid (fun h=>by have:=eU (h.2.2.2.1); rw [e3] at this; cases this)
 have hP:=hid ((hp.alloc (.cells #[.slice A n cap,.int .i64 inc,.int .i64 delay] 65)).alloc (.cells #[.int .i64 l0,.int .i64 l1,.int .i64 m0,.int .i64 m1,.int .i64 p0,.int .i64 p1,.int .i64 turn,.int .i64 since,.bool st,.int .i64 ay] 83))
 clear hp
 go_enter Tryz.func91,Tryz.ntmps91
 go_wp2_with fail
 refine (gK A n cap inc delay ps _ hn (hP.out)).mono ?_
 rintro e w1 ⟨c,rfl,hc,hb⟩
 obtain rfl:c=0:=hc.2 H.out
 clear hc
 obtain ⟨hcell,hfr⟩:=kR hb
 have hs:=hb.size
 (try simp only [World.size_alloc] at hs)
 go_wp2_with (go_at_call 80; refine (au _ _ _ _).mono ?_; rintro e w' ⟨rfl,rfl⟩)
 refine wp_loop_rounds 3 ?_
 rw [rounds_succ]
 go_wp2_with (go_at_call 80; refine (au _ _ _ _).mono ?_; rintro e w' ⟨rfl,rfl⟩)
 go_quiet ((go_at_call 80; exact still (au _ _ _ _) ⟨_,rfl⟩))
 go_wp2_with (go_at_call 80; refine (au _ _ _ _).mono ?_; rintro e w' ⟨rfl,rfl⟩)
 rw [rounds_succ]
 go_wp2_with (go_at_call 80; refine (au _ _ _ _).mono ?_; rintro e w' ⟨rfl,rfl⟩)
 go_quiet ((go_at_call 80; exact still (au _ _ _ _) ⟨_,rfl⟩))
 go_wp2_with (go_at_call 80; refine (au _ _ _ _).mono ?_; rintro e w' ⟨rfl,rfl⟩)
 rw [rounds_succ]
 go_wp2_with (go_at_call 80; refine (au _ _ _ _).mono ?_; rintro e w' ⟨rfl,rfl⟩)
 go_ret
 exact ⟨_,rfl,⟨(fun h=>by cases h),fun h=>absurd h.2 HC.out⟩,below_drewN ((((Below.refl w.heap.size w).alloc (by go_size) _).alloc (by go_size) _).trans (hb.mono (by go_size))) _⟩
theorem abR (A:Option Addr) (n cap:Nat) (inc delay:Int) (ps:List (Int×Int)) (l0 l1 m0 m1 p0 p1 turn since ay:Int) (st:Bool) (w:World) (hn:n≤9223372036854775807) (hp:gG w w.heap.size A n ps) (hr:dR n inc delay ps) (e0:dD turn 0 1=true) (e1:dD ay (-1) 1=true) (e2:dD since 0 100000000=true) (e3:dD p0 0 ((n:Int) - 1)=true) (e4:dD m0 0 400=false) :
  Calls Tryz.prog 91 #[.agg #[.slice A n cap,.int .i64 inc,.int .i64 delay],.agg #[.int .i64 l0,.int .i64 l1,.int .i64 m0,.int .i64 m1,.int .i64 p0,.int .i64 p1,.int .i64 turn,.int .i64 since,.bool st,.int .i64 ay]] w (iw (dR n inc delay ps∧iQ n l0 l1 m0 m1 p0 p1 turn since ay) w):=by
 have H:=hid hr
 clear hr
 have IE:n≤5:=H.out.1.2
 have hn1:1≤n:=H.out.1.1
 have HC:Hid (¬ iQ n l0 l1 m0 m1 p0 p1 turn since ay):=hid (fun h=>by have:=eU (h.2.2.2.2.1); rw [e4] at this; cases this)
 have hP:=hid ((hp.alloc (.cells #[.slice A n cap,.int .i64 inc,.int .i64 delay] 65)).alloc (.cells #[.int .i64 l0,.int .i64 l1,.int .i64 m0,.int .i64 m1,.int .i64 p0,.int .i64 p1,.int .i64 turn,.int .i64 since,.bool st,.int .i64 ay] 83))
 clear hp
 go_enter Tryz.func91,Tryz.ntmps91
 go_wp2_with fail
 refine (gK A n cap inc delay ps _ hn (hP.out)).mono ?_
 rintro e w1 ⟨c,rfl,hc,hb⟩
 obtain rfl:c=0:=hc.2 H.out
 clear hc
 obtain ⟨hcell,hfr⟩:=kR hb
 have hs:=hb.size
 (try simp only [World.size_alloc] at hs)
 go_wp2_with (go_at_call 80; refine (au _ _ _ _).mono ?_; rintro e w' ⟨rfl,rfl⟩)
 refine wp_loop_rounds 3 ?_
 rw [rounds_succ]
 go_wp2_with (go_at_call 80; refine (au _ _ _ _).mono ?_; rintro e w' ⟨rfl,rfl⟩)
 go_quiet ((go_at_call 80; exact still (au _ _ _ _) ⟨_,rfl⟩))
 go_wp2_with (go_at_call 80; refine (au _ _ _ _).mono ?_; rintro e w' ⟨rfl,rfl⟩)
 rw [rounds_succ]
 go_wp2_with (go_at_call 80; refine (au _ _ _ _).mono ?_; rintro e w' ⟨rfl,rfl⟩)
 go_quiet ((go_at_call 80; exact still (au _ _ _ _) ⟨_,rfl⟩))
 go_wp2_with (go_at_call 80; refine (au _ _ _ _).mono ?_; rintro e w' ⟨rfl,rfl⟩)
 rw [rounds_succ]
 go_wp2_with (go_at_call 80; refine (au _ _ _ _).mono ?_; rintro e w' ⟨rfl,rfl⟩)
 go_ret
 exact ⟨_,rfl,⟨(fun h=>by cases h),fun h=>absurd h.2 HC.out⟩,below_drewN ((((Below.refl w.heap.size w).alloc (by go_size) _).alloc (by go_size) _).trans (hb.mono (by go_size))) _⟩
theorem abS (A:Option Addr) (n cap:Nat) (inc delay:Int) (ps:List (Int×Int)) (l0 l1 m0 m1 p0 p1 turn since ay:Int) (st:Bool) (w:World) (hn:n≤9223372036854775807) (hp:gG w w.heap.size A n ps) (hr:dR n inc delay ps) (e0:dD turn 0 1=true) (e1:dD ay (-1) 1=true) (e2:dD since 0 100000000=true) (e3:dD p0 0 ((n:Int) - 1)=true) (e4:dD m0 0 400=true) (e5:dD l0 0 100000000000=false) :
  Calls Tryz.prog 91 #[.agg #[.slice A n cap,.int .i64 inc,.int .i64 delay],.agg #[.int .i64 l0,.int .i64 l1,.int .i64 m0,.int .i64 m1,.int .i64 p0,.int .i64 p1,.int .i64 turn,.int .i64 since,.bool st,.int .i64 ay]] w (iw (dR n inc delay ps∧iQ n l0 l1 m0 m1 p0 p1 turn since ay) w):=by
 have H:=hid hr
 clear hr
 have IE:n≤5:=H.out.1.2
 have hn1:1≤n:=H.out.1.1
 have HC:Hid (¬ iQ n l0 l1 m0 m1 p0 p1 turn since ay):=hid (fun h=>by have:=eU (h.2.2.2.2.2.1); rw [e5] at this; cases this)
 have hP:=hid ((hp.alloc (.cells #[.slice A n cap,.int .i64 inc,.int .i64 delay] 65)).alloc (.cells #[.int .i64 l0,.int .i64 l1,.int .i64 m0,.int .i64 m1,.int .i64 p0,.int .i64 p1,.int .i64 turn,.int .i64 since,.bool st,.int .i64 ay] 83))
 clear hp
 go_enter Tryz.func91,Tryz.ntmps91
 go_wp2_with fail
 refine (gK A n cap inc delay ps _ hn (hP.out)).mono ?_
 rintro e w1 ⟨c,rfl,hc,hb⟩
 obtain rfl:c=0:=hc.2 H.out
 clear hc
 obtain ⟨hcell,hfr⟩:=kR hb
 have hs:=hb.size
 (try simp only [World.size_alloc] at hs)
 go_wp2_with (go_at_call 80; refine (au _ _ _ _).mono ?_; rintro e w' ⟨rfl,rfl⟩)
 refine wp_loop_rounds 3 ?_
 rw [rounds_succ]
 go_wp2_with (go_at_call 80; refine (au _ _ _ _).mono ?_; rintro e w' ⟨rfl,rfl⟩)
 go_quiet ((go_at_call 80; exact still (au _ _ _ _) ⟨_,rfl⟩))
 go_wp2_with (go_at_call 80; refine (au _ _ _ _).mono ?_; rintro e w' ⟨rfl,rfl⟩)
 rw [rounds_succ]
 go_wp2_with (go_at_call 80; refine (au _ _ _ _).mono ?_; rintro e w' ⟨rfl,rfl⟩)
 go_quiet ((go_at_call 80; exact still (au _ _ _ _) ⟨_,rfl⟩))
 go_wp2_with (go_at_call 80; refine (au _ _ _ _).mono ?_; rintro e w' ⟨rfl,rfl⟩)
 rw [rounds_succ]
 go_wp2_with (go_at_call 80; refine (au _ _ _ _).mono ?_; rintro e w' ⟨rfl,rfl⟩)
 go_ret
 exact ⟨_,rfl,⟨(fun h=>by cases h),fun h=>absurd h.2 HC.out⟩,below_drewN ((((Below.refl w.heap.size w).alloc (by go_size) _).alloc (by go_size) _).trans (hb.mono (by go_size))) _⟩
theorem abT (A:Option Addr) (n cap:Nat) (inc delay:Int) (ps:List (Int×Int)) (l0 l1 m0 m1 p0 p1 turn since ay:Int) (st:Bool) (w:World) (hn:n≤9223372036854775807) (hp:gG w w.heap.size A n ps) (hr:dR n inc delay ps) (e0:dD turn 0 1=true) (e1:dD ay (-1) 1=true) (e2:dD since 0 100000000=true) (e3:dD p0 0 ((n:Int) - 1)=true) (e4:dD m0 0 400=true) (e5:dD l0 0 100000000000=true) (e6:dD p1 0 ((n:Int) - 1)=false) :
  Calls Tryz.prog 91 #[.agg #[.slice A n cap,.int .i64 inc,.int .i64 delay],.agg #[.int .i64 l0,.int .i64 l1,.int .i64 m0,.int .i64 m1,.int .i64 p0,.int .i64 p1,.int .i64 turn,.int .i64 since,.bool st,.int .i64 ay]] w (iw (dR n inc delay ps∧iQ n l0 l1 m0 m1 p0 p1 turn since ay) w):=by
 have H:=hid hr
 clear hr
 have IE:n≤5:=H.out.1.2
 have hn1:1≤n:=H.out.1.1
 have HC:Hid (¬ iQ n l0 l1 m0 m1 p0 p1 turn since ay):=hid (fun h=>by have:=eU (h.2.2.2.2.2.2.1); rw [e6] at this; cases this)
 have hP:=hid ((hp.alloc (.cells #[.slice A n cap,.int .i64 inc,.int .i64 delay] 65)).alloc (.cells #[.int .i64 l0,.int .i64 l1,.int .i64 m0,.int .i64 m1,.int .i64 p0,.int .i64 p1,.int .i64 turn,.int .i64 since,.bool st,.int .i64 ay] 83))
 clear hp
 go_enter Tryz.func91,Tryz.ntmps91
 go_wp2_with fail
 refine (gK A n cap inc delay ps _ hn (hP.out)).mono ?_
 rintro e w1 ⟨c,rfl,hc,hb⟩
 obtain rfl:c=0:=hc.2 H.out
 clear hc
 obtain ⟨hcell,hfr⟩:=kR hb
 have hs:=hb.size
 (try simp only [World.size_alloc] at hs)
 go_wp2_with (go_at_call 80; refine (au _ _ _ _).mono ?_; rintro e w' ⟨rfl,rfl⟩)
 refine wp_loop_rounds 3 ?_
 rw [rounds_succ]
 go_wp2_with (go_at_call 80; refine (au _ _ _ _).mono ?_; rintro e w' ⟨rfl,rfl⟩)
 go_quiet ((go_at_call 80; exact still (au _ _ _ _) ⟨_,rfl⟩))
 go_wp2_with (go_at_call 80; refine (au _ _ _ _).mono ?_; rintro e w' ⟨rfl,rfl⟩)
 rw [rounds_succ]
 go_wp2_with (go_at_call 80; refine (au _ _ _ _).mono ?_; rintro e w' ⟨rfl,rfl⟩)
 go_quiet ((go_at_call 80; exact still (au _ _ _ _) ⟨_,rfl⟩))
 go_wp2_with (go_at_call 80; refine (au _ _ _ _).mono ?_; rintro e w' ⟨rfl,rfl⟩)
 rw [rounds_succ]
 go_wp2_with (go_at_call 80; refine (au _ _ _ _).mono ?_; rintro e w' ⟨rfl,rfl⟩)
 go_ret
 exact ⟨_,rfl,⟨(fun h=>by cases h),fun h=>absurd h.2 HC.out⟩,below_drewN ((((Below.refl w.heap.size w).alloc (by go_size) _).alloc (by go_size) _).trans (hb.mono (by go_size))) _⟩
theorem abU (A:Option Addr) (n cap:Nat) (inc delay:Int) (ps:List (Int×Int)) (l0 l1 m0 m1 p0 p1 turn since ay:Int) (st:Bool) (w:World) (hn:n≤9223372036854775807) (hp:gG w w.heap.size A n ps) (hr:dR n inc delay ps) (e0:dD turn 0 1=true) (e1:dD ay (-1) 1=true) (e2:dD since 0 100000000=true) (e3:dD p0 0 ((n:Int) - 1)=true) (e4:dD m0 0 400=true) (e5:dD l0 0 100000000000=true) (e6:dD p1 0 ((n:Int) - 1)=true) (e7:dD m1 0 400=false) :
  Calls Tryz.prog 91 #[.agg #[.slice A n cap,.int .i64 inc,.int .i64 delay],.agg #[.int .i64 l0,.int .i64 l1,.int .i64 m0,.int .i64 m1,.int .i64 p0,.int .i64 p1,.int .i64 turn,.int .i64 since,.bool st,.int .i64 ay]] w (iw (dR n inc delay ps∧iQ n l0 l1 m0 m1 p0 p1 turn since ay) w):=by
 have H:=hid hr
 clear hr
 have IE:n≤5:=H.out.1.2
 have hn1:1≤n:=H.out.1.1
 have HC:Hid (¬ iQ n l0 l1 m0 m1 p0 p1 turn since ay):=hid (fun h=>by have:=eU (h.2.2.2.2.2.2.2.1); rw [e7] at this; cases this)
 have hP:=hid ((hp.alloc (.cells #[.slice A n cap,.int .i64 inc,.int .i64 delay] 65)).alloc (.cells #[.int .i64 l0,.int .i64 l1,.int .i64 m0,.int .i64 m1,.int .i64 p0,.int .i64 p1,.int .i64 turn,.int .i64 since,.bool st,.int .i64 ay] 83))
 clear hp
 go_enter Tryz.func91,Tryz.ntmps91
 go_wp2_with fail
 refine (gK A n cap inc delay ps _ hn (hP.out)).mono ?_
 rintro e w1 ⟨c,rfl,hc,hb⟩
 obtain rfl:c=0:=hc.2 H.out
 clear hc
 obtain ⟨hcell,hfr⟩:=kR hb
 have hs:=hb.size
 (try simp only [World.size_alloc] at hs)
 go_wp2_with (go_at_call 80; refine (au _ _ _ _).mono ?_; rintro e w' ⟨rfl,rfl⟩)
 refine wp_loop_rounds 3 ?_
 rw [rounds_succ]
 go_wp2_with (go_at_call 80; refine (au _ _ _ _).mono ?_; rintro e w' ⟨rfl,rfl⟩)
 go_quiet ((go_at_call 80; exact still (au _ _ _ _) ⟨_,rfl⟩))
 go_wp2_with (go_at_call 80; refine (au _ _ _ _).mono ?_; rintro e w' ⟨rfl,rfl⟩)
 rw [rounds_succ]
 go_wp2_with (go_at_call 80; refine (au _ _ _ _).mono ?_; rintro e w' ⟨rfl,rfl⟩)
 go_quiet ((go_at_call 80; exact still (au _ _ _ _) ⟨_,rfl⟩))
 go_wp2_with (go_at_call 80; refine (au _ _ _ _).mono ?_; rintro e w' ⟨rfl,rfl⟩)
 rw [rounds_succ]
 go_wp2_with (go_at_call 80; refine (au _ _ _ _).mono ?_; rintro e w' ⟨rfl,rfl⟩)
 go_ret
 exact ⟨_,rfl,⟨(fun h=>by cases h),fun h=>absurd h.2 HC.out⟩,below_drewN ((((Below.refl w.heap.size w).alloc (by go_size) _).alloc (by go_size) _).trans (hb.mono (by go_size))) _⟩
theorem abV (A:Option Addr) (n cap:Nat) (inc delay:Int) (ps:List (Int×Int)) (l0 l1 m0 m1 p0 p1 turn since ay:Int) (st:Bool) (w:World) (hn:n≤9223372036854775807) (hp:gG w w.heap.size A n ps) (hr:dR n inc delay ps) (e0:dD turn 0 1=true) (e1:dD ay (-1) 1=true) (e2:dD since 0 100000000=true) (e3:dD p0 0 ((n:Int) - 1)=true) (e4:dD m0 0 400=true) (e5:dD l0 0 100000000000=true) (e6:dD p1 0 ((n:Int) - 1)=true) (e7:dD m1 0 400=true) (e8:dD l1 0 100000000000=false) :
  Calls Tryz.prog 91 #[.agg #[.slice A n cap,.int .i64 inc,.int .i64 delay],.agg #[.int .i64 l0,.int .i64 l1,.int .i64 m0,.int .i64 m1,.int .i64 p0,.int .i64 p1,.int .i64 turn,.int .i64 since,.bool st,.int .i64 ay]] w (iw (dR n inc delay ps∧iQ n l0 l1 m0 m1 p0 p1 turn since ay) w):=by
 have H:=hid hr
 clear hr
 have IE:n≤5:=H.out.1.2
 have hn1:1≤n:=H.out.1.1
 have HC:Hid (¬ iQ n l0 l1 m0 m1 p0 p1 turn since ay):=hid (fun h=>by have:=eU (h.2.2.2.2.2.2.2.2); rw [e8] at this; cases this)
 have hP:=hid ((hp.alloc (.cells #[.slice A n cap,.int .i64 inc,.int .i64 delay] 65)).alloc (.cells #[.int .i64 l0,.int .i64 l1,.int .i64 m0,.int .i64 m1,.int .i64 p0,.int .i64 p1,.int .i64 turn,.int .i64 since,.bool st,.int .i64 ay] 83))
 clear hp
 go_enter Tryz.func91,Tryz.ntmps91
 go_wp2_with fail
 refine (gK A n cap inc delay ps _ hn (hP.out)).mono ?_
 rintro e w1 ⟨c,rfl,hc,hb⟩
 obtain rfl:c=0:=hc.2 H.out
 clear hc
 obtain ⟨hcell,hfr⟩:=kR hb
 have hs:=hb.size
 (try simp only [World.size_alloc] at hs)
 go_wp2_with (go_at_call 80; refine (au _ _ _ _).mono ?_; rintro e w' ⟨rfl,rfl⟩)
 refine wp_loop_rounds 3 ?_
 rw [rounds_succ]
 go_wp2_with (go_at_call 80; refine (au _ _ _ _).mono ?_; rintro e w' ⟨rfl,rfl⟩)
 go_quiet ((go_at_call 80; exact still (au _ _ _ _) ⟨_,rfl⟩))
 go_wp2_with (go_at_call 80; refine (au _ _ _ _).mono ?_; rintro e w' ⟨rfl,rfl⟩)
 rw [rounds_succ]
 go_wp2_with (go_at_call 80; refine (au _ _ _ _).mono ?_; rintro e w' ⟨rfl,rfl⟩)
 go_quiet ((go_at_call 80; exact still (au _ _ _ _) ⟨_,rfl⟩))
 go_wp2_with (go_at_call 80; refine (au _ _ _ _).mono ?_; rintro e w' ⟨rfl,rfl⟩)
 rw [rounds_succ]
 go_wp2_with (go_at_call 80; refine (au _ _ _ _).mono ?_; rintro e w' ⟨rfl,rfl⟩)
 go_ret
 exact ⟨_,rfl,⟨(fun h=>by cases h),fun h=>absurd h.2 HC.out⟩,below_drewN ((((Below.refl w.heap.size w).alloc (by go_size) _).alloc (by go_size) _).trans (hb.mono (by go_size))) _⟩
theorem abW (A:Option Addr) (n cap:Nat) (inc delay:Int) (ps:List (Int×Int)) (l0 l1 m0 m1 p0 p1 turn since ay:Int) (st:Bool) (w:World) (hn:n≤9223372036854775807) (hp:gG w w.heap.size A n ps) (hr:dR n inc delay ps) (e0:dD turn 0 1=true) (e1:dD ay (-1) 1=true) (e2:dD since 0 100000000=true) (e3:dD p0 0 ((n:Int) - 1)=true) (e4:dD m0 0 400=true) (e5:dD l0 0 100000000000=true) (e6:dD p1 0 ((n:Int) - 1)=true) (e7:dD m1 0 400=true) (e8:dD l1 0 100000000000=true) :
  Calls Tryz.prog 91 #[.agg #[.slice A n cap,.int .i64 inc,.int .i64 delay],.agg #[.int .i64 l0,.int .i64 l1,.int .i64 m0,.int .i64 m1,.int .i64 p0,.int .i64 p1,.int .i64 turn,.int .i64 since,.bool st,.int .i64 ay]] w (iw (dR n inc delay ps∧iQ n l0 l1 m0 m1 p0 p1 turn since ay) w):=by
 have H:=hid hr
 clear hr
 have IE:n≤5:=H.out.1.2
 have hn1:1≤n:=H.out.1.1
 have q0:=iK.1 e0
 have q1:=iK.1 e1
 have q2:=iK.1 e2
 have q3:=iK.1 e3
 have q4:=iK.1 e4
 have q5:=iK.1 e5
 have q6:=iK.1 e6
 have q7:=iK.1 e7
 have q8:=iK.1 e8
 have HC:Hid (iQ n l0 l1 m0 m1 p0 p1 turn since ay):=hid ⟨q0,q1,q2,q3,q4,q5,q6,q7,q8⟩
 clear q0
 clear q1
 clear q2
 clear q3
 clear q4
 clear q5
 clear q6
 clear q7
 clear q8
 have hP:=hid ((hp.alloc (.cells #[.slice A n cap,.int .i64 inc,.int .i64 delay] 65)).alloc (.cells #[.int .i64 l0,.int .i64 l1,.int .i64 m0,.int .i64 m1,.int .i64 p0,.int .i64 p1,.int .i64 turn,.int .i64 since,.bool st,.int .i64 ay] 83))
 clear hp
 go_enter Tryz.func91,Tryz.ntmps91
 go_wp2_with fail
 refine (gK A n cap inc delay ps _ hn (hP.out)).mono ?_
 rintro e w1 ⟨c,rfl,hc,hb⟩
 obtain rfl:c=0:=hc.2 H.out
 clear hc
 obtain ⟨hcell,hfr⟩:=kR hb
 have hs:=hb.size
 (try simp only [World.size_alloc] at hs)
 go_wp2_with (go_at_call 80; refine (au _ _ _ _).mono ?_; rintro e w' ⟨rfl,rfl⟩)
 refine wp_loop_rounds 3 ?_
 rw [rounds_succ]
 go_wp2_with (go_at_call 80; refine (au _ _ _ _).mono ?_; rintro e w' ⟨rfl,rfl⟩)
 go_quiet ((go_at_call 80; exact still (au _ _ _ _) ⟨_,rfl⟩))
 go_wp2_with (go_at_call 80; refine (au _ _ _ _).mono ?_; rintro e w' ⟨rfl,rfl⟩)
 rw [rounds_succ]
 go_wp2_with (go_at_call 80; refine (au _ _ _ _).mono ?_; rintro e w' ⟨rfl,rfl⟩)
 go_quiet ((go_at_call 80; exact still (au _ _ _ _) ⟨_,rfl⟩))
 go_wp2_with (go_at_call 80; refine (au _ _ _ _).mono ?_; rintro e w' ⟨rfl,rfl⟩)
 rw [rounds_succ]
 go_wp2_with (go_at_call 80; refine (au _ _ _ _).mono ?_; rintro e w' ⟨rfl,rfl⟩)
 go_ret
 exact ⟨_,rfl,⟨fun _=>⟨H.out,HC.out⟩,fun _=>rfl⟩,below_drewN ((((Below.refl w.heap.size w).alloc (by go_size) _).alloc (by go_size) _).trans (hb.mono (by go_size))) _⟩
theorem Uj (A:Option Addr) (n cap:Nat) (inc delay:Int) (ps:List (Int×Int)) (l0 l1 m0 m1 p0 p1 turn since ay:Int) (st:Bool) (w:World) (hn:n≤9223372036854775807) (hp:gG w w.heap.size A n ps):
  Calls Tryz.prog 91 #[.agg #[.slice A n cap,.int .i64 inc,.int .i64 delay],.agg #[.int .i64 l0,.int .i64 l1,.int .i64 m0,.int .i64 m1,.int .i64 p0,.int .i64 p1,.int .i64 turn,.int .i64 since,.bool st,.int .i64 ay]] w (iw (dR n inc delay ps∧iQ n l0 l1 m0 m1 p0 p1 turn since ay) w):=by
 by_cases hr:dR n inc delay ps
 ·cases e0:dD turn 0 1
  ·exact abN A n cap inc delay ps l0 l1 m0 m1 p0 p1 turn since ay st w hn hp hr e0
  ·cases e1:dD ay (-1) 1
   ·exact abO A n cap inc delay ps l0 l1 m0 m1 p0 p1 turn since ay st w hn hp hr e0 e1
   ·cases e2:dD since 0 100000000
    ·exact abP A n cap inc delay ps l0 l1 m0 m1 p0 p1 turn since ay st w hn hp hr e0 e1 e2
    ·cases e3:dD p0 0 ((n:Int) - 1)
     ·exact abQ A n cap inc delay ps l0 l1 m0 m1 p0 p1 turn since ay st w hn hp hr e0 e1 e2 e3
     ·cases e4:dD m0 0 400
      ·exact abR A n cap inc delay ps l0 l1 m0 m1 p0 p1 turn since ay st w hn hp hr e0 e1 e2 e3 e4
      ·cases e5:dD l0 0 100000000000
       ·exact abS A n cap inc delay ps l0 l1 m0 m1 p0 p1 turn since ay st w hn hp hr e0 e1 e2 e3 e4 e5
       ·cases e6:dD p1 0 ((n:Int) - 1)
        ·exact abT A n cap inc delay ps l0 l1 m0 m1 p0 p1 turn since ay st w hn hp hr e0 e1 e2 e3 e4 e5 e6
        ·cases e7:dD m1 0 400
         ·exact abU A n cap inc delay ps l0 l1 m0 m1 p0 p1 turn since ay st w hn hp hr e0 e1 e2 e3 e4 e5 e6 e7
         ·cases e8:dD l1 0 100000000000
          ·exact abV A n cap inc delay ps l0 l1 m0 m1 p0 p1 turn since ay st w hn hp hr e0 e1 e2 e3 e4 e5 e6 e7 e8
          ·exact abW A n cap inc delay ps l0 l1 m0 m1 p0 p1 turn since ay st w hn hp hr e0 e1 e2 e3 e4 e5 e6 e7 e8
 ·exact PU A n cap inc delay ps l0 l1 m0 m1 p0 p1 turn since ay st w hn hp hr
def iL (st:Bool) (delay since now:Int):Int:=if st=true then 0 else max 0 (now - since - delay)
theorem abX (st:Bool) (delay since now:Int) (h1:0≤since) (h2:0≤delay) (h3:0≤now) (h4:now≤100000000):0≤iL st delay since now∧iL st delay since now≤100000000:=by
 unfold iL; split <;> omega
theorem LU (A:Option Addr) (n cap:Nat) (inc delay:Int) (l0 l1 m0 m1 p0 p1 turn since ay:Int) (st:Bool) (now:Int) (w:World) (h1:0≤since) (h1':since≤100000000) (h2:0≤delay) (h2':delay≤100000000) (h3:0≤now) (h4:now≤100000000) :
  Calls Tryz.prog 92 #[.agg #[.slice A n cap,.int .i64 inc,.int .i64 delay],.agg #[.int .i64 l0,.int .i64 l1,.int .i64 m0,.int .i64 m1,.int .i64 p0,.int .i64 p1,.int .i64 turn,.int .i64 since,.bool st,.int .i64 ay],.int .i64 now] w fun e w'=>e=.returned (.int .i64 (iL st delay since now))∧(w.alloc (.cells #[.slice A n cap,.int .i64 inc,.int .i64 delay] 65)).alloc (.cells #[.int .i64 l0,.int .i64 l1,.int .i64 m0,.int .i64 m1,.int .i64 p0,.int .i64 p1,.int .i64 turn,.int .i64 since,.bool st,.int .i64 ay] 83)=w':=by
 cases st
 ·by_cases h:0<now - since - delay
  ·have H:=hid (show iL false delay since now=now - since - delay by unfold iL; simp; omega)
   go_enter Tryz.func92,Tryz.ntmps92
   go_wp2
   go_ret
   exact ⟨by rw [H.out]; rfl,rfl⟩
  ·have H:=hid (show iL false delay since now=0 by unfold iL; simp; omega)
   go_enter Tryz.func92,Tryz.ntmps92
   go_wp2
   go_ret
   exact ⟨by rw [H.out]; rfl,rfl⟩
 ·have H:=hid (show iL true delay since now=0 by unfold iL; simp)
  go_enter Tryz.func92,Tryz.ntmps92
  go_wp2
  go_ret
  exact ⟨by rw [H.out]; rfl,rfl⟩
theorem AY (A:Option Addr) (n cap:Nat) (inc delay:Int) (ps:List (Int×Int)) (l0 l1 m0 m1 p0 p1 since ay:Int) (st:Bool) (now:Int) (w:World) (hn:n≤9223372036854775807) (hp:gG w w.heap.size A n ps)
  (hr:dR n inc delay ps) (hk:iQ n l0 l1 m0 m1 p0 p1 0 since ay) (e0:dD now since 100000000=true) (hf:ay<0) (hu:iL st delay since now≤l0) :
  Calls Tryz.prog 48 #[.agg #[.slice A n cap,.int .i64 inc,.int .i64 delay],.agg #[.int .i64 l0,.int .i64 l1,.int .i64 m0,.int .i64 m1,.int .i64 p0,.int .i64 p1,.int .i64 0,.int .i64 since,.bool st,.int .i64 ay],.int .i64 now] w
   (fun e w'=>e=.returned (.tuple #[.agg #[.int .i64 l0,.int .i64 l1,.int .i64 m0,.int .i64 m1,.int .i64 p0,.int .i64 p1,.int .i64 0,.int .i64 since,.bool st,.int .i64 ay],.int .i64 0])∧Below w.heap.size w w'):=by
 have anv:=iK.1 e0
 have hsn:=hk.2.2.1
 have hdl:=hr.2.2.1
 have H:=hid hr
 have HC:=hid hk
 clear hr hk
 have hf':decide (ay<0)=true:=by simp; omega
 have hP:=hid (((hp.alloc (.cells #[.slice A n cap,.int .i64 inc,.int .i64 delay] 65)).alloc (.cells #[.int .i64 l0,.int .i64 l1,.int .i64 m0,.int .i64 m1,.int .i64 p0,.int .i64 p1,.int .i64 0,.int .i64 since,.bool st,.int .i64 ay] 83)).alloc (.cells #[.int .i64 0,.int .i64 0,.int .i64 0,.int .i64 0,.int .i64 0,.int .i64 0,.int .i64 0,.int .i64 0,.bool false,.int .i64 0] 83))
 clear hp
 go_enter Tryz.func48,Tryz.ntmps48
 go_wp2_with fail
 refine (Uj A n cap inc delay ps l0 l1 m0 m1 p0 p1 0 since ay st _ hn (hP.out)).mono ?_
 rintro e w1 ⟨c,rfl,hc,hb⟩
 obtain rfl:c=0:=hc.2 ⟨H.out,HC.out⟩
 clear hc
 obtain ⟨hcell,hfr⟩:=kR hb
 have hs:=hb.size
 (try simp only [World.size_alloc] at hs)
 have hz0:w.heap.size<w1.heap.size:=by omega
 have hz1:w.heap.size+1<w1.heap.size:=by omega
 have hz2:w.heap.size+1+1<w1.heap.size:=by omega
 have hbel:=(((((Below.refl w.heap.size w).alloc (by go_size) _).alloc (by go_size) _).alloc (by go_size) _).trans (hb.mono (by go_size)))
 go_wp2_with (go_at_call 80; refine (au _ _ _ _).mono ?_; rintro e w' ⟨rfl,rfl⟩)
 have c0:w1.cell? ⟨w.heap.size,0,none⟩=some (.slice A n cap):=by simp [hcell,go_sem]
 have c1:w1.cell? ⟨w.heap.size,1,none⟩=some (.int .i64 inc):=by simp [hcell,go_sem]
 have c2:w1.cell? ⟨w.heap.size,2,none⟩=some (.int .i64 delay):=by simp [hcell,go_sem]
 have c3:w1.cell? ⟨w.heap.size+1,0,none⟩=some (.int .i64 l0):=by simp [hcell,go_sem]
 have c4:w1.cell? ⟨w.heap.size+1,1,none⟩=some (.int .i64 l1):=by simp [hcell,go_sem]
 have c5:w1.cell? ⟨w.heap.size+1,2,none⟩=some (.int .i64 m0):=by simp [hcell,go_sem]
 have c6:w1.cell? ⟨w.heap.size+1,3,none⟩=some (.int .i64 m1):=by simp [hcell,go_sem]
 have c7:w1.cell? ⟨w.heap.size+1,4,none⟩=some (.int .i64 p0):=by simp [hcell,go_sem]
 have c8:w1.cell? ⟨w.heap.size+1,5,none⟩=some (.int .i64 p1):=by simp [hcell,go_sem]
 have c9:w1.cell? ⟨w.heap.size+1,6,none⟩=some (.int .i64 0):=by simp [hcell,go_sem]
 have c10:w1.cell? ⟨w.heap.size+1,7,none⟩=some (.int .i64 since):=by simp [hcell,go_sem]
 have c11:w1.cell? ⟨w.heap.size+1,8,none⟩=some (.bool st):=by simp [hcell,go_sem]
 have c12:w1.cell? ⟨w.heap.size+1,9,none⟩=some (.int .i64 ay):=by simp [hcell,go_sem]
 have ain:=hid hcell
 have Hfr:=hid hfr
 clear hcell hfr
 go_region_held3 (fun w'=>w'.cell? ⟨w.heap.size,0,none⟩=some (.slice A n cap)∧w'.cell? ⟨w.heap.size,1,none⟩=some (.int .i64 inc)∧w'.cell? ⟨w.heap.size,2,none⟩=some (.int .i64 delay)∧w'.cell? ⟨w.heap.size+1,0,none⟩=some (.int .i64 l0)∧w'.cell? ⟨w.heap.size+1,1,none⟩=some (.int .i64 l1)∧w'.cell? ⟨w.heap.size+1,2,none⟩=some (.int .i64 m0)∧w'.cell? ⟨w.heap.size+1,3,none⟩=some (.int .i64 m1)∧w'.cell? ⟨w.heap.size+1,4,none⟩=some (.int .i64 p0)∧w'.cell? ⟨w.heap.size+1,5,none⟩=some (.int .i64 p1)∧w'.cell? ⟨w.heap.size+1,6,none⟩=some (.int .i64 0)∧w'.cell? ⟨w.heap.size+1,7,none⟩=some (.int .i64 since)∧w'.cell? ⟨w.heap.size+1,8,none⟩=some (.bool st)∧w'.cell? ⟨w.heap.size+1,9,none⟩=some (.int .i64 ay)) (go_keep) (first | (go_at_call 92; refine (LU A n cap inc delay l0 l1 m0 m1 p0 p1 0 since ay st now _ (by omega) (by omega) (by omega) (by omega) (by omega) (by omega)).mono ?_; rintro e w' ⟨rfl,rfl⟩))
 generalize hW2:((w1.alloc (.cells #[.slice A n cap,.int .i64 inc,.int .i64 delay] 65)).alloc (.cells #[.int .i64 l0,.int .i64 l1,.int .i64 m0,.int .i64 m1,.int .i64 p0,.int .i64 p1,.int .i64 0,.int .i64 since,.bool st,.int .i64 ay] 83)).drew=w2
 have hb2:Below (((w.alloc (.cells #[.slice A n cap,.int .i64 inc,.int .i64 delay] 65)).alloc (.cells #[.int .i64 l0,.int .i64 l1,.int .i64 m0,.int .i64 m1,.int .i64 p0,.int .i64 p1,.int .i64 0,.int .i64 since,.bool st,.int .i64 ay] 83)).alloc (.cells #[.int .i64 0,.int .i64 0,.int .i64 0,.int .i64 0,.int .i64 0,.int .i64 0,.int .i64 0,.int .i64 0,.bool false,.int .i64 0] 83)).heap.size (((w.alloc (.cells #[.slice A n cap,.int .i64 inc,.int .i64 delay] 65)).alloc (.cells #[.int .i64 l0,.int .i64 l1,.int .i64 m0,.int .i64 m1,.int .i64 p0,.int .i64 p1,.int .i64 0,.int .i64 since,.bool st,.int .i64 ay] 83)).alloc (.cells #[.int .i64 0,.int .i64 0,.int .i64 0,.int .i64 0,.int .i64 0,.int .i64 0,.int .i64 0,.int .i64 0,.bool false,.int .i64 0] 83)) w2:=by rw [← hW2]; exact ((hb.alloc (by go_size) _).alloc (by go_size) _).drew
 clear hW2 ain Hfr hbel hs hz0 hz1 hz2
 obtain ⟨hcell,hfr⟩:=kR hb2
 have hs:=hb2.size
 (try simp only [World.size_alloc] at hs)
 have hz0:w.heap.size<w2.heap.size:=by omega
 have hz1:w.heap.size+1<w2.heap.size:=by omega
 have hz2:w.heap.size+1+1<w2.heap.size:=by omega
 have hbel:=(((((Below.refl w.heap.size w).alloc (by go_size) _).alloc (by go_size) _).alloc (by go_size) _).trans (hb2.mono (by go_size)))
 clear c0 c1 c2 c3 c4 c5 c6 c7 c8 c9 c10 c11 c12
 go_wp2
 refine bodyPost_ret (v:=.tuple #[.agg #[.int .i64 l0,.int .i64 l1,.int .i64 m0,.int .i64 m1,.int .i64 p0,.int .i64 p1,.int .i64 0,.int .i64 since,.bool st,.int .i64 ay],.int .i64 0]) (by simp [results,Tryz.results48,go_sem,hcell]) rfl ?_
 refine ⟨rfl,?_⟩
 go_grown
end Go.Proofs.YteablcielclaeaaGreatDoor.clk

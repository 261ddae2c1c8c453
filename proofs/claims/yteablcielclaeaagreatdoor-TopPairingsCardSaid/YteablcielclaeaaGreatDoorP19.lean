/- clock.ready, clock.Press where all is well. -/
import Derived.Test.YteablcielclaeaaGreatDoorP18
import Derived.Deep.DeepCutAuto
import Derived.Deep.DrawnRows
namespace Go.Proofs.YteablcielclaeaaGreatDoor.clk
open Go.ChangeShapes Go.WideShapes Go.ChangeAt Go.RowKit
set_option linter.unusedVariables false
set_option maxHeartbeats 8000000
set_option maxRecDepth 100000
open Go.Lib (hid)
theorem zV (A:Option Addr) (n cap:Nat) (inc delay:Int) (ps:List (Int×Int)) (l0 l1 m0 m1 p0 p1 since ay:Int) (now:Int) (w:World) (hn:n≤9223372036854775807) (hp:gG w w.heap.size A n ps) (hr:dR n inc delay ps) (hk:iQ n l0 l1 m0 m1 p0 p1 0 since ay) (e0:dD now since 100000000=true) (hf:ay<0) (hu:iL false delay since now≤l0) :
  Calls Tryz.prog 205 #[.agg #[.slice A n cap,.int .i64 inc,.int .i64 delay],.agg #[.int .i64 l0,.int .i64 l1,.int .i64 m0,.int .i64 m1,.int .i64 p0,.int .i64 p1,.int .i64 0,.int .i64 since,.bool false,.int .i64 ay],.int .i64 now,.bool false] w (fun e w'=>e=.returned (.tuple #[.agg #[.int .i64 l0,.int .i64 l1,.int .i64 m0,.int .i64 m1,.int .i64 p0,.int .i64 p1,.int .i64 0,.int .i64 since,.bool false,.int .i64 ay],.int .i64 0])∧Below w.heap.size w w'):=by
 have H:=hid hr
 have HC:=hid hk
 clear hr hk
 have hP:=hid (((hp.alloc (.cells #[.slice A n cap,.int .i64 inc,.int .i64 delay] 65)).alloc (.cells #[.int .i64 l0,.int .i64 l1,.int .i64 m0,.int .i64 m1,.int .i64 p0,.int .i64 p1,.int .i64 0,.int .i64 since,.bool false,.int .i64 ay] 83)).alloc (.cells #[.int .i64 0,.int .i64 0,.int .i64 0,.int .i64 0,.int .i64 0,.int .i64 0,.int .i64 0,.int .i64 0,.bool false,.int .i64 0] 83))
 clear hp
 go_enter Tryz.func205,Tryz.ntmps205
 go_wp2_with fail
 refine (AY A n cap inc delay ps l0 l1 m0 m1 p0 p1 since ay false now _ hn hP.out H.out HC.out e0 hf hu).mono ?_
 rintro e w1 ⟨rfl,hb⟩
 obtain ⟨hcell,hfr⟩:=kR hb
 have hs:=hb.size
 (try simp only [World.size_alloc] at hs)
 have hz0:w.heap.size<w1.heap.size:=by omega
 have hz1:w.heap.size+1<w1.heap.size:=by omega
 have hz2:w.heap.size+1+1<w1.heap.size:=by omega
 have hbel:=((((Below.refl w.heap.size w).alloc (by go_size) _).alloc (by go_size) _).alloc (by go_size) _).trans (hb.mono (by go_size))
 go_upto_region 2 with (fail)
 generalize hW:((((((((((w1.setCell ⟨w.heap.size+1,0,none⟩ (.int .i64 l0)).setCell ⟨w.heap.size+1,1,none⟩ (.int .i64 l1)).setCell ⟨w.heap.size+1,2,none⟩ (.int .i64 m0)).setCell ⟨w.heap.size+1,3,none⟩ (.int .i64 m1)).setCell ⟨w.heap.size+1,4,none⟩ (.int .i64 p0)).setCell ⟨w.heap.size+1,5,none⟩ (.int .i64 p1)).setCell ⟨w.heap.size+1,6,none⟩ (.int .i64 0)).setCell ⟨w.heap.size+1,7,none⟩ (.int .i64 since)).setCell ⟨w.heap.size+1,8,none⟩ (.bool false)).setCell ⟨w.heap.size+1,9,none⟩ (.int .i64 ay))=w2
 have r0:w2.cell? ⟨w.heap.size,0,none⟩=some (.slice A n cap):=by rw [← hW]; simp [hcell,go_sem]
 have r1:w2.cell? ⟨w.heap.size,1,none⟩=some (.int .i64 inc):=by rw [← hW]; simp [hcell,go_sem]
 have r2:w2.cell? ⟨w.heap.size,2,none⟩=some (.int .i64 delay):=by rw [← hW]; simp [hcell,go_sem]
 have c0:w2.cell? ⟨w.heap.size+1,0,none⟩=some (.int .i64 l0):=by rw [← hW]; simp [hcell,go_sem]
 have c1:w2.cell? ⟨w.heap.size+1,1,none⟩=some (.int .i64 l1):=by rw [← hW]; simp [hcell,go_sem]
 have c2:w2.cell? ⟨w.heap.size+1,2,none⟩=some (.int .i64 m0):=by rw [← hW]; simp [hcell,go_sem]
 have c3:w2.cell? ⟨w.heap.size+1,3,none⟩=some (.int .i64 m1):=by rw [← hW]; simp [hcell,go_sem]
 have c4:w2.cell? ⟨w.heap.size+1,4,none⟩=some (.int .i64 p0):=by rw [← hW]; simp [hcell,go_sem]
 have c5:w2.cell? ⟨w.heap.size+1,5,none⟩=some (.int .i64 p1):=by rw [← hW]; simp [hcell,go_sem]
 have c6:w2.cell? ⟨w.heap.size+1,6,none⟩=some (.int .i64 0):=by rw [← hW]; simp [hcell,go_sem]
 have c7:w2.cell? ⟨w.heap.size+1,7,none⟩=some (.int .i64 since):=by rw [← hW]; simp [hcell,go_sem]
 have c8:w2.cell? ⟨w.heap.size+1,8,none⟩=some (.bool false):=by rw [← hW]; simp [hcell,go_sem]
 have c9:w2.cell? ⟨w.heap.size+1,9,none⟩=some (.int .i64 ay):=by rw [← hW]; simp [hcell,go_sem]
 have g0:w2.frozen? ⟨w.heap.size+1,0,none⟩=false:=by rw [← hW]; simp [hfr,go_sem]
 have g1:w2.frozen? ⟨w.heap.size+1,1,none⟩=false:=by rw [← hW]; simp [hfr,go_sem]
 have g2:w2.frozen? ⟨w.heap.size+1,2,none⟩=false:=by rw [← hW]; simp [hfr,go_sem]
 have g3:w2.frozen? ⟨w.heap.size+1,3,none⟩=false:=by rw [← hW]; simp [hfr,go_sem]
 have g4:w2.frozen? ⟨w.heap.size+1,4,none⟩=false:=by rw [← hW]; simp [hfr,go_sem]
 have g5:w2.frozen? ⟨w.heap.size+1,5,none⟩=false:=by rw [← hW]; simp [hfr,go_sem]
 have g6:w2.frozen? ⟨w.heap.size+1,6,none⟩=false:=by rw [← hW]; simp [hfr,go_sem]
 have g7:w2.frozen? ⟨w.heap.size+1,7,none⟩=false:=by rw [← hW]; simp [hfr,go_sem]
 have g8:w2.frozen? ⟨w.heap.size+1,8,none⟩=false:=by rw [← hW]; simp [hfr,go_sem]
 have g9:w2.frozen? ⟨w.heap.size+1,9,none⟩=false:=by rw [← hW]; simp [hfr,go_sem]
 have z0:w2.cell? ⟨w.heap.size+1+1,0,none⟩=some (.int .i64 0):=by rw [← hW]; simp [hcell,go_sem]
 have z1:w2.cell? ⟨w.heap.size+1+1,1,none⟩=some (.int .i64 0):=by rw [← hW]; simp [hcell,go_sem]
 have z2:w2.cell? ⟨w.heap.size+1+1,2,none⟩=some (.int .i64 0):=by rw [← hW]; simp [hcell,go_sem]
 have z3:w2.cell? ⟨w.heap.size+1+1,3,none⟩=some (.int .i64 0):=by rw [← hW]; simp [hcell,go_sem]
 have z4:w2.cell? ⟨w.heap.size+1+1,4,none⟩=some (.int .i64 0):=by rw [← hW]; simp [hcell,go_sem]
 have z5:w2.cell? ⟨w.heap.size+1+1,5,none⟩=some (.int .i64 0):=by rw [← hW]; simp [hcell,go_sem]
 have z6:w2.cell? ⟨w.heap.size+1+1,6,none⟩=some (.int .i64 0):=by rw [← hW]; simp [hcell,go_sem]
 have z7:w2.cell? ⟨w.heap.size+1+1,7,none⟩=some (.int .i64 0):=by rw [← hW]; simp [hcell,go_sem]
 have z8:w2.cell? ⟨w.heap.size+1+1,8,none⟩=some (.bool false):=by rw [← hW]; simp [hcell,go_sem]
 have z9:w2.cell? ⟨w.heap.size+1+1,9,none⟩=some (.int .i64 0):=by rw [← hW]; simp [hcell,go_sem]
 have f0:w2.frozen? ⟨w.heap.size+1+1,0,none⟩=false:=by rw [← hW]; simp [hfr,go_sem]
 have f1:w2.frozen? ⟨w.heap.size+1+1,1,none⟩=false:=by rw [← hW]; simp [hfr,go_sem]
 have f2:w2.frozen? ⟨w.heap.size+1+1,2,none⟩=false:=by rw [← hW]; simp [hfr,go_sem]
 have f3:w2.frozen? ⟨w.heap.size+1+1,3,none⟩=false:=by rw [← hW]; simp [hfr,go_sem]
 have f4:w2.frozen? ⟨w.heap.size+1+1,4,none⟩=false:=by rw [← hW]; simp [hfr,go_sem]
 have f5:w2.frozen? ⟨w.heap.size+1+1,5,none⟩=false:=by rw [← hW]; simp [hfr,go_sem]
 have f6:w2.frozen? ⟨w.heap.size+1+1,6,none⟩=false:=by rw [← hW]; simp [hfr,go_sem]
 have f7:w2.frozen? ⟨w.heap.size+1+1,7,none⟩=false:=by rw [← hW]; simp [hfr,go_sem]
 have f8:w2.frozen? ⟨w.heap.size+1+1,8,none⟩=false:=by rw [← hW]; simp [hfr,go_sem]
 have f9:w2.frozen? ⟨w.heap.size+1+1,9,none⟩=false:=by rw [← hW]; simp [hfr,go_sem]
 have hs':w2.heap.size=w1.heap.size:=by rw [← hW]; simp
 have y0:w.heap.size<w2.heap.size:=by omega
 have y1:w.heap.size+1<w2.heap.size:=by omega
 have y2:w.heap.size+1+1<w2.heap.size:=by omega
 have aq3:Below w.heap.size w w2:=by rw [← hW]; go_grown
 clear hW hcell hfr hbel hs hs' hz0 hz1 hz2 hb
 go_wp2
 refine bodyPost_ret (v:=.tuple #[.agg #[.int .i64 l0,.int .i64 l1,.int .i64 m0,.int .i64 m1,.int .i64 p0,.int .i64 p1,.int .i64 0,.int .i64 since,.bool false,.int .i64 ay],.int .i64 0]) (by simp [results,Tryz.results205,go_sem, *]) rfl ?_
 refine ⟨rfl,?_⟩
 go_grown
end Go.Proofs.YteablcielclaeaaGreatDoor.clk
namespace Go.Proofs.YteablcielclaeaaGreatDoor.clk
open Go.ChangeShapes Go.WideShapes Go.ChangeAt Go.RowKit
set_option linter.unusedVariables false
set_option maxHeartbeats 8000000
set_option maxRecDepth 100000
set_option linter.unusedSimpArgs false
open Go.Lib (hid)
attribute [local go_sem ↓] Go.wp_at_zero Go.wp_at_succ
def jI (x:Int):Int:=if 100000000000<x then 100000000000 else x
def yI (x:Int):Int:=if 400<x then 400 else x
theorem kD {P:Program} {ops:Array Oper} {K:Act→World→Prop} {Q:Exit→Act→World→Prop} {op:Oper} {a:Act} {w:World} {v:Value} (hg:op.guard=none) (ho:op.op=.assign (.const v))
  (h:K (a.put op.dst v) w):wpList P ops (Exit.then K Q) [op] a w:=by
 refine wpList_plain hg fun K' hK=>?_
 unfold Oper.wp execOp
 simp only [ho,Act.eval,Sem.run_pure]
 exact hK _ _ h
theorem below_setCells {w w1:World} {B b:Nat} (h:Below B w w1) (hb:B≤b):∀ (o:Nat) (vs:List Value),Below B w (w1.setCells b o vs):=by
 intro o vs
 induction vs generalizing w1 o with
 | nil=>exact h
 | cons v r ih=>exact ih (h.setCell hb _) _
theorem qX {P:Program} {ops:Array Oper} {Q:Exit→Act→World→Prop} {rest:List Oper} {a:Act} {W:World} (h:∀ w',w'=W→wpList P ops Q rest a w'):wpList P ops Q rest a W:=h _ rfl
theorem PV (A:Option Addr) (n cap:Nat) (inc delay:Int) (ps:List (Int×Int)) (l0 l1 m0 m1 p0 p1 since ay:Int) (now:Int) (w:World) (hn:n≤9223372036854775807) (hp:gG w w.heap.size A n ps) (hr:dR n inc delay ps) (hk:iQ n l0 l1 m0 m1 p0 p1 0 since ay) (e0:dD now since 100000000=true) (hf:ay<0) (hu:iL false delay since now≤l0) :
  Calls Tryz.prog 171 #[.agg #[.slice A n cap,.int .i64 inc,.int .i64 delay],.agg #[.int .i64 l0,.int .i64 l1,.int .i64 m0,.int .i64 m1,.int .i64 p0,.int .i64 p1,.int .i64 0,.int .i64 since,.bool false,.int .i64 ay],.int .i64 now] w (fun e w'=>e=.returned (.tuple #[.agg #[.int .i64 (if (0<(ps.getD p0.toNat (0,0)).1∧(ps.getD p0.toNat (0,0)).1≤(yI (m0+1))) then jI ((jI (l0 - iL false delay since now+inc))+(ps.getD (p0.toNat+1) (0,0)).2) else (jI (l0 - iL false delay since now+inc))),.int .i64 l1,.int .i64 (if (0<(ps.getD p0.toNat (0,0)).1∧(ps.getD p0.toNat (0,0)).1≤(yI (m0+1))) then 0 else (yI (m0+1))),.int .i64 m1,.int .i64 (if (0<(ps.getD p0.toNat (0,0)).1∧(ps.getD p0.toNat (0,0)).1≤(yI (m0+1))) then p0+1 else p0),.int .i64 p1,.int .i64 1,.int .i64 now,.bool false,.int .i64 ay],.int .i64 0])∧Below w.heap.size w w'):=by
 have anv:=iK.1 e0
 have hsn:=hk.2.2.1
 have hdl:=hr.2.2.1
 have hub:=abX false delay since now (by omega) (by omega) (by omega) (by omega)
 have hlb:0≤l0∧l0≤100000000000:=hk.2.2.2.2.2.1
 have hmb:0≤m0∧m0≤400:=hk.2.2.2.2.1
 have hpb:0≤p0∧p0≤(n:Int) - 1:=hk.2.2.2.1
 have hib:0≤inc∧inc≤100000000:=hr.2.1
 have IE:n≤5:=hr.1.2
 obtain ⟨k,rfl⟩:∃ k:Nat,p0=k:=⟨p0.toNat,by omega⟩
 rw [Int.toNat_natCast]
 have hkn:k<n:=by omega
 obtain ⟨b,off,rfl,hbB,hpc⟩:=hp.2 (by omega)
 have q0:=(hpc k hkn).1
 have hq:=hr.2.2.2 k hkn
 have hq1:0<(ps.getD k (0,0)).1→k+1<n:=by
  intro h
  unfold lZ at hq
  simp only [Bool.and_eq_true,beq_iff_eq] at hq
  have h2:=hq.2.2
  have h3:((ps.getD k (0,0)).1 == 0)=false:=by rw [beq_eq_false_iff_ne]; omega
  rw [h3] at h2
  have h4:=beq_eq_false_iff_ne.1 h2.symm
  omega
 have hqb:∀ j,j<n→1≤(ps.getD j (0,0)).2∧(ps.getD j (0,0)).2≤100000000:=by
  intro j hj
  have h:=hr.2.2.2 j hj
  unfold lZ at h
  simp only [Bool.and_eq_true] at h
  exact iK.1 h.2.1
 have Hq1:=hid hq1
 have Hqb:=hid hqb
 have Hpc:=hid hpc
 clear hq hq1 hqb hpc
 have H:=hid hr
 have HC:=hid hk
 clear hr hk
 go_enter Tryz.func171,Tryz.ntmps171
 go_upto_region 1 with (fail)
 refine KE fun w0 vZ Yd y2_ fJ hs_=>?_
 have HR:=hid vZ
 have HX:=hid Yd
 have HZ:=hid y2_
 have HB:=hid fJ
 clear hs_ vZ Yd y2_ fJ
 refine wp_region_lit ?_
 refine aH (by rfl) 65 (.tmp 3) (by rfl) (w.heap.size) (by rfl) HR.out Tryz.underlying65 (by rfl) (by kernel_rfl) ?_
 refine aH (by rfl) 83 (.tmp 4) (by rfl) (w.heap.size+1) (by rfl) HX.out Tryz.underlying83 (by rfl) (by kernel_rfl) ?_
 go_wp2_with fail
 refine (zV _ n cap inc delay ps l0 l1 m0 m1 k p1 since ay now w0 hn (hp.below HB.out) H.out HC.out e0 hf hu).mono ?_
 rintro e w1 ⟨rfl,hb⟩
 have HB1:=hid (HB.out.trans (hb.mono HB.out.size))
 have HR1:=hid (HR.out.stays hb)
 have lu:=hid (HX.out.stays hb)
 have HZ1:=hid (HZ.out.stays hb)
 clear hb HR HX HZ HB
 rename_i K1 q1 K2 q2
 refine q2 _ _ ?_
 clear q2 K2
 refine wpList_plain (by rfl) (fun K hK=>?_)
 go_simp
 refine hK _ _ ?_
 clear hK K
 try simp only [Act.put,vO,vP,vS]
 refine wpList_plain (by rfl) (fun K hK=>?_)
 go_simp
 refine hK _ _ ?_
 clear hK K
 try simp only [Act.put,vO,vP,vS]
 refine wpList_plain (by rfl) (fun K hK=>?_)
 go_simp
 refine hK _ _ ?_
 clear hK K
 try simp only [Act.put,vO,vP,vS]
 refine aT (vs:=[.int .i64 l0,.int .i64 l1,.int .i64 m0,.int .i64 m1,.int .i64 k,.int .i64 p1,.int .i64 0,.int .i64 since,.bool false,.int .i64 ay]) (by rfl) 83 (.tmp 4) (.tmp 16) (by rfl) (w.heap.size+1) (by rfl) (by rfl) lu.out rfl (by kernel_rfl) (by rfl) ?_
 have mZ:=hid (lu.out.store (vs:=[.int .i64 l0,.int .i64 l1,.int .i64 m0,.int .i64 m1,.int .i64 k,.int .i64 p1,.int .i64 0,.int .i64 since,.bool false,.int .i64 ay]) rfl)
 have HB2:=hid (below_setCells HB1.out (Nat.le_succ _) 0 [.int .i64 l0,.int .i64 l1,.int .i64 m0,.int .i64 m1,.int .i64 k,.int .i64 p1,.int .i64 0,.int .i64 since,.bool false,.int .i64 ay])
 have HR2:=hid (HR1.out.OV (b':=w.heap.size+1) (by omega) 0 [.int .i64 l0,.int .i64 l1,.int .i64 m0,.int .i64 m1,.int .i64 k,.int .i64 p1,.int .i64 0,.int .i64 since,.bool false,.int .i64 ay])
 have HZ2:=hid (HZ1.out.OV (b':=w.heap.size+1) (by omega) 0 [.int .i64 l0,.int .i64 l1,.int .i64 m0,.int .i64 m1,.int .i64 k,.int .i64 p1,.int .i64 0,.int .i64 since,.bool false,.int .i64 ay])
 refine qX ?_
 intro w2 e2
 rw [← e2] at mZ HB2 HR2 HZ2
 clear e2 lu HB1 HR1 HZ1
 have c6:=mZ.out.cell 6 rfl
 go_upto_region 5 with (fail)
 clear c6
 generalize w2=wq at *
 have Rz:=HR2.out.drew
 have Xz:=mZ.out.drew
 have Zz:=HZ2.out.drew
 have Lz:Below w.heap.size w wq.drew:=aK HB2.out
 have hmin:(if (100000000000:Int)<IntKind.i64.wrap (IntKind.i64.wrap (l0 - iL false delay since now)+inc) then 100000000000 else IntKind.i64.wrap (IntKind.i64.wrap (l0 - iL false delay since now)+inc))=jI (l0 - iL false delay since now+inc):=by rw [IntWalk.i64_in (l0 - iL false delay since now) (by omega),IntWalk.i64_in _ (by omega)]; rfl
 have aio:=hid hmin
 clear hmin HR2 mZ HZ2 HB2 H HC
 refine wp_region_noPanic ?_
 refine bI (S:=(fun w'=>w'.cell? ⟨w.heap.size+1,0,none⟩=some (.int .i64 l0)∧w'.cell? ⟨w.heap.size,0,none⟩=some (.slice (some ⟨b,off,none⟩) n cap)∧w'.cell? ⟨w.heap.size,1,none⟩=some (.int .i64 inc)∧w'.cell? ⟨w.heap.size,2,none⟩=some (.int .i64 delay)∧w'.rangeAt (w.heap.size+1) 0 [.int .i64 l0,.int .i64 l1,.int .i64 m0,.int .i64 m1,.int .i64 k,.int .i64 p1,.int .i64 0,.int .i64 since,.bool false,.int .i64 ay])) (L:=[16]) (by kernel_rfl) ⟨Xz.cell 0 rfl,Rz.cell 0 rfl,Rz.cell 1 rfl,Rz.cell 2 rfl,Xz.range⟩ (fun hHeld=>?_)
 refine aC 0 ?_
 refine aC 1 ?_
 refine aC 2 ?_
 refine dV 5 ?_
 try simp only [Act.put,vO,vP,vS]
 refine adr (i:=6) (v:=.agg #[.int .i64 l0,.int .i64 l1,.int .i64 m0,.int .i64 m1,.int .i64 k,.int .i64 p1,.int .i64 0,.int .i64 since,.bool false,.int .i64 ay]) rfl (by kernel_rfl) (by kernel_rfl) (by kernel_rfl) (by kernel_rfl) rfl (by kernel_rfl) (by kernel_rfl) (fun _ _ _ h=>h) (yieldsIf_load_mid (by rfl) 83 (.tmp 4) (by rfl) (w.heap.size+1) 0 (by rfl) [.int .i64 l0,.int .i64 l1,.int .i64 m0,.int .i64 m1,.int .i64 k,.int .i64 p1,.int .i64 0,.int .i64 since,.bool false,.int .i64 ay] _ (fun _ hw=>hw.2.2.2.2) Tryz.underlying83 (by rfl) (by kernel_rfl)) (by assumption) ?_
 refine aC 7 ?_
 refine aC 10 ?_
 refine aC 14 ?_
 refine aC 3 ?_
 refine dV 11 ?_
 refine dV 4 ?_
 refine fH 8 fun K hK=>?_
 go_simp
 refine (LU (some ⟨b,off,none⟩) n cap inc delay l0 l1 m0 m1 k p1 0 since ay false now _ (by omega) (by omega) (by omega) (by omega) (by omega) (by omega)).mono ?_
 rintro e w8 ⟨rfl,hw8⟩
 have hbb:Below wq.drew.heap.size wq.drew w8:=by rw [← hw8]; exact ((Below.refl _ _).alloc (Nat.le_refl _) _).alloc (by simp) _
 have X8:=Xz.stays hbb
 have R8:=Rz.stays hbb
 have Z8:=Zz.stays hbb
 have L8:=ak Lz hbb Lz.size
 clear hbb hw8
 refine hK.out _ _ ⟨X8.cell 0 rfl,R8.cell 0 rfl,R8.cell 1 rfl,R8.cell 2 rfl,X8.range⟩ (fun hHeld=>?_)
 clear hK K
 refine aC 9 ?_
 refine aC 12 ?_
 refine aC 13 ?_
 refine aC 15 ?_
 refine rP 16 fun K hK=>?_
 have dd:=X8.cell 0 rfl
 have df:=X8.frozen 0
 go_simp
 refine aQ ?_
 intro w16 e16
 rw [aio.out] at e16
 have zW:=hid (X8.set 0 (.int .i64 (jI (l0 - iL false delay since now+inc))))
 have HR3:=hid (R8.far ⟨w.heap.size+1,0,none⟩ (.int .i64 (jI (l0 - iL false delay since now+inc))) (by show w.heap.size≠w.heap.size+1; omega))
 have HZ3:=hid (Z8.far ⟨w.heap.size+1,0,none⟩ (.int .i64 (jI (l0 - iL false delay since now+inc))) (by show w.heap.size+1+1≠w.heap.size+1; omega))
 have PW:=hid (L8.setCell (p:=⟨w.heap.size+1,0,none⟩) (Nat.le_succ _) (.int .i64 (jI (l0 - iL false delay since now+inc))))
 rw [← e16] at zW HR3 HZ3 PW
 clear e16 dd df
 refine hK.out _ _ ?_
 clear hK K
 refine jC ?_
 clear hHeld
 generalize w16=w3 at *
 have hLb:0≤jI (l0 - iL false delay since now+inc)∧jI (l0 - iL false delay since now+inc)≤100000000000:=by unfold jI; split <;> omega
 have hMb:0≤yI (m0+1)∧yI (m0+1)≤400:=by unfold yI; split <;> omega
 have aip:(if (400:Int)<m0+1 then 400 else m0+1)=yI (m0+1):=rfl
 have Ov:Hid (Box w3 (w.heap.size+1) [.int .i64 ((jI (l0 - iL false delay since now+inc))),.int .i64 l1,.int .i64 m0,.int .i64 m1,.int .i64 k,.int .i64 p1,.int .i64 0,.int .i64 since,.bool false,.int .i64 ay] 83):=hid zW.out
 clear zW
 generalize KM:yI (m0+1)=M at *
 generalize KL:jI (l0 - iL false delay since now+inc)=L at *
 generalize KX:(ps.getD k (0,0)).1=X at *
 have HM:=hid KM
 have HL:=hid KL
 have HXx:=hid KX
 clear KM KL KX
 have cm:=Ov.out.cell 2 rfl
 have fm:=Ov.out.frozen 2
 have hz:w.heap.size+1<w3.heap.size:=Ov.out.lt
 have HR4:=HR3
 have HZ4:=HZ3
 have HL4:=PW
 clear HR3 HZ3 PW aio
 have r0:=HR4.out.cell 0 rfl
 have cp:=Ov.out.cell 4 rfl
 have cq:w3.cell? ⟨b,off+k * 2,none⟩=some (.int .i64 X):=HXx.out ▸ ((kR HL4.out).1 _ _ hbB).trans (Hpc.out k hkn).1
 have hkz:(k:Int)<(n:Int):=by omega
 have hb3:b<w3.heap.size:=Nat.lt_of_lt_of_le hbB HL4.out.size
 go_upto_region 7 with (fail)
 clear cm fm aip r0 cp cq
 have Ye:Hid (Box (w3.setCell ⟨w.heap.size+1,2,none⟩ (.int .i64 M)) (w.heap.size+1) [.int .i64 L,.int .i64 l1,.int .i64 M,.int .i64 m1,.int .i64 k,.int .i64 p1,.int .i64 0,.int .i64 since,.bool false,.int .i64 ay] 83):=hid (Ov.out.set 2 _)
 have HR5:=hid (HR4.out.far ⟨w.heap.size+1,2,none⟩ (.int .i64 M) (by show w.heap.size≠w.heap.size+1; omega))
 have HZ5:=hid (HZ4.out.far ⟨w.heap.size+1,2,none⟩ (.int .i64 M) (by show w.heap.size+1+1≠w.heap.size+1; omega))
 have Ya:=hid (HL4.out.setCell (p:=⟨w.heap.size+1,2,none⟩) (Nat.le_succ _) (.int .i64 M))
 generalize w3.setCell ⟨w.heap.size+1,2,none⟩ (.int .i64 M)=w5 at *
 clear Ov HR4 HZ4 HL4 hz hb3
 have r0:=HR5.out.cell 0 rfl
 have cp:=Ye.out.cell 4 rfl
 have cq:w5.cell? ⟨b,off+k * 2,none⟩=some (.int .i64 X):=HXx.out ▸ ((kR Ya.out).1 _ _ hbB).trans (Hpc.out k hkn).1
 go_quiet (fail)
 have DT:=hid (Ye.out.drewN nq)
 have HR6:=hid (HR5.out.drewN nq)
 have HZ6:=hid (HZ5.out.drewN nq)
 have V3:=hid (below_drewN Ya.out nq)
 generalize w5.drewN nq=w6 at *
 clear Ye HR5 HZ5 Ya r0 cp cq
 by_cases hc:0<X∧X≤M
 ·have HC:=hid hc
  obtain ⟨h1,h2⟩:=hc
  have aiq:k+1<n:=Hq1.out h1
  have hY:=Hqb.out (k+1) aiq
  generalize KY:(ps.getD (k+1) (0,0)).2=Y at *
  have HY:=hid KY
  clear KY
  have ae1:(k:Int)+1<(n:Int):=by omega
  have auA:(0:Int)≤(k:Int)+1:=by omega
  have cm:=DT.out.cell 2 rfl
  have fm:=DT.out.frozen 2
  have cp:=DT.out.cell 4 rfl
  have fp:=DT.out.frozen 4
  go_upto_region 11 with (fail)
  clear cm fm cp fp
  have HX7:Hid (Box ((w6.setCell ⟨w.heap.size+1,2,none⟩ (.int .i64 0)).setCell ⟨w.heap.size+1,4,none⟩ (.int .i64 (k+1))) (w.heap.size+1) [.int .i64 L,.int .i64 l1,.int .i64 0,.int .i64 m1,.int .i64 (k+1),.int .i64 p1,.int .i64 0,.int .i64 since,.bool false,.int .i64 ay] 83):=hid ((DT.out.set 2 _).set 4 _)
  have zA:=hid ((HR6.out.far ⟨w.heap.size+1,2,none⟩ (.int .i64 0) (by show w.heap.size≠w.heap.size+1; omega)).far ⟨w.heap.size+1,4,none⟩ (.int .i64 (k+1)) (by show w.heap.size≠w.heap.size+1; omega))
  have HZ7:=hid ((HZ6.out.far ⟨w.heap.size+1,2,none⟩ (.int .i64 0) (by show w.heap.size+1+1≠w.heap.size+1; omega)).far ⟨w.heap.size+1,4,none⟩ (.int .i64 (k+1)) (by show w.heap.size+1+1≠w.heap.size+1; omega))
  have HL7:=hid ((V3.out.setCell (p:=⟨w.heap.size+1,2,none⟩) (Nat.le_succ _) (.int .i64 0)).setCell (p:=⟨w.heap.size+1,4,none⟩) (Nat.le_succ _) (.int .i64 (k+1)))
  generalize (w6.setCell ⟨w.heap.size+1,2,none⟩ (.int .i64 0)).setCell ⟨w.heap.size+1,4,none⟩ (.int .i64 (k+1))=w7 at *
  generalize w7=wq at *
  have Rz:=zA.out.drew
  have Xz:=HX7.out.drew
  have Zz:=HZ7.out.drew
  have Lz:Below w.heap.size w wq.drew:=aK HL7.out
  have Yz:wq.drew.cell? ⟨b,off+(k+1) * 2+1,none⟩=some (.int .i64 Y):=HY.out ▸ ((kR Lz).1 _ _ hbB).trans (Hpc.out (k+1) aiq).2
  have adL:(if (100000000000:Int)<IntKind.i64.wrap (L+Y) then 100000000000 else IntKind.i64.wrap (L+Y))=jI (L+Y):=by rw [IntWalk.i64_in (L+Y) (by omega)]; rfl
  have air:=hid adL
  clear adL HR6 DT HZ6 V3 zA HX7 HZ7 HL7
  refine wp_region_noPanic ?_
  refine bI (S:=(fun w'=>w'.cell? ⟨w.heap.size+1,0,none⟩=some (.int .i64 L)∧w'.cell? ⟨w.heap.size,0,none⟩=some (.slice (some ⟨b,off,none⟩) n cap)∧w'.cell? ⟨w.heap.size+1,4,none⟩=some (.int .i64 (k+1))∧w'.cell? ⟨b,off+(k+1) * 2+1,none⟩=some (.int .i64 Y))) (L:=[18]) (by kernel_rfl) ⟨Xz.cell 0 rfl,Rz.cell 0 rfl,Xz.cell 4 rfl,Yz⟩ (fun hHeld=>?_)
  refine aC 0 ?_
  refine aC 1 ?_
  refine aC 2 ?_
  refine aC 5 ?_
  refine aC 7 ?_
  refine aC 8 ?_
  refine aC 16 ?_
  refine aC 3 ?_
  refine dV 6 ?_
  refine aC 9 ?_
  refine dV 4 ?_
  refine dV 10 ?_
  refine aC 11 ?_
  refine aC 12 ?_
  refine dV 13 ?_
  refine aC 14 ?_
  refine aC 15 ?_
  refine aC 17 ?_
  refine rP 18 fun K hK=>?_
  have dd:=Xz.cell 0 rfl
  have df:=Xz.frozen 0
  go_simp
  refine aQ ?_
  intro w16 e16
  rw [air.out] at e16
  clear dd df
  have LV:Hid (Box w16 (w.heap.size+1) [.int .i64 ((jI (L+Y))),.int .i64 l1,.int .i64 0,.int .i64 m1,.int .i64 (k+1),.int .i64 p1,.int .i64 0,.int .i64 since,.bool false,.int .i64 ay] 83):=hid (e16 ▸ Xz.set 0 (.int .i64 (jI (L+Y))))
  have anz:Hid (Box w16 (w.heap.size+1+1) [.int .i64 0,.int .i64 0,.int .i64 0,.int .i64 0,.int .i64 0,.int .i64 0,.int .i64 0,.int .i64 0,.bool false,.int .i64 0] 83):=hid (e16 ▸ Zz.far ⟨w.heap.size+1,0,none⟩ (.int .i64 (jI (L+Y))) (by show w.heap.size+1+1≠w.heap.size+1; omega))
  have anA:Hid (Below w.heap.size w w16):=hid (e16 ▸ Lz.setCell (p:=⟨w.heap.size+1,0,none⟩) (Nat.le_succ _) (.int .i64 (jI (L+Y))))
  clear e16
  refine hK.out _ _ ?_
  clear hK K
  refine jC ?_
  clear hHeld Xz Rz Zz Lz Yz
  generalize w16=w10 at *
  have f6:=LV.out.frozen 6
  have f7:=LV.out.frozen 7
  have c2:=LV.out.cell 2 rfl
  have c6:=LV.out.cell 6 rfl
  have c7:=LV.out.cell 7 rfl
  go_upto_region 13 with (fail)
  clear f6 f7 c2 c6 c7
  have HX8:Hid (Box ((w10.setCell ⟨w.heap.size+1,6,none⟩ (.int .i64 1)).setCell ⟨w.heap.size+1,7,none⟩ (.int .i64 now)) (w.heap.size+1) [.int .i64 ((jI (L+Y))),.int .i64 l1,.int .i64 0,.int .i64 m1,.int .i64 (k+1),.int .i64 p1,.int .i64 1,.int .i64 now,.bool false,.int .i64 ay] 83):=hid ((LV.out.set 6 _).set 7 _)
  have Yf:=hid ((anz.out.far ⟨w.heap.size+1,6,none⟩ (.int .i64 1) (by show w.heap.size+1+1≠w.heap.size+1; omega)).far ⟨w.heap.size+1,7,none⟩ (.int .i64 now) (by show w.heap.size+1+1≠w.heap.size+1; omega))
  have EZ:=hid ((anA.out.setCell (p:=⟨w.heap.size+1,6,none⟩) (Nat.le_succ _) (.int .i64 1)).setCell (p:=⟨w.heap.size+1,7,none⟩) (Nat.le_succ _) (.int .i64 now))
  generalize (w10.setCell ⟨w.heap.size+1,6,none⟩ (.int .i64 1)).setCell ⟨w.heap.size+1,7,none⟩ (.int .i64 now)=w8 at *
  refine wp_region_lit ?_
  refine aH (by rfl) 83 (.tmp 4) (by rfl) (w.heap.size+1) (by rfl) HX8.out Tryz.underlying83 (by rfl) (by kernel_rfl) ?_
  refine aT (vs:=[.int .i64 ((jI (L+Y))),.int .i64 l1,.int .i64 0,.int .i64 m1,.int .i64 (k+1),.int .i64 p1,.int .i64 1,.int .i64 now,.bool false,.int .i64 ay]) (by rfl) 83 (.tmp 6) (.tmp 101) (by rfl) (w.heap.size+1+1) (by rfl) (by rfl) Yf.out rfl (by kernel_rfl) (by rfl) ?_
  have xY:=hid (Yf.out.store (vs:=[.int .i64 ((jI (L+Y))),.int .i64 l1,.int .i64 0,.int .i64 m1,.int .i64 (k+1),.int .i64 p1,.int .i64 1,.int .i64 now,.bool false,.int .i64 ay]) rfl)
  have KC:=hid (below_setCells EZ.out (show w.heap.size≤w.heap.size+1+1 by omega) 0 [.int .i64 ((jI (L+Y))),.int .i64 l1,.int .i64 0,.int .i64 m1,.int .i64 (k+1),.int .i64 p1,.int .i64 1,.int .i64 now,.bool false,.int .i64 ay])
  refine qX ?_
  intro w9 e9
  rw [← e9] at xY KC
  clear e9 HX8 Yf EZ
  rename_i K hKx
  refine kD (by rfl) (by rfl) (hKx _ _ (wp_ret ?_))
  clear hKx K
  exact bodyPost_ret (kE (v:=.int .i64 0) rfl (by rfl) (by rfl) xY.out Tryz.underlying83 (by rfl) (by kernel_rfl)) rfl ⟨by rw [HM.out,HL.out,HXx.out,if_pos HC.out,if_pos HC.out,if_pos HC.out,HY.out],KC.out⟩
 ·have HC:=hid hc
  have hXs:X≤0∨(0<X∧M<X):=by omega
  clear hc
  rcases hXs with h1 | ⟨h1,h2⟩
  ·have f6:=DT.out.frozen 6
   have f7:=DT.out.frozen 7
   have c2:=DT.out.cell 2 rfl
   have c6:=DT.out.cell 6 rfl
   have c7:=DT.out.cell 7 rfl
   go_upto_region 13 with (fail)
   clear f6 f7 c2 c6 c7
   have HX8:Hid (Box ((w6.setCell ⟨w.heap.size+1,6,none⟩ (.int .i64 1)).setCell ⟨w.heap.size+1,7,none⟩ (.int .i64 now)) (w.heap.size+1) [.int .i64 L,.int .i64 l1,.int .i64 M,.int .i64 m1,.int .i64 k,.int .i64 p1,.int .i64 1,.int .i64 now,.bool false,.int .i64 ay] 83):=hid ((DT.out.set 6 _).set 7 _)
   have Yf:=hid ((HZ6.out.far ⟨w.heap.size+1,6,none⟩ (.int .i64 1) (by show w.heap.size+1+1≠w.heap.size+1; omega)).far ⟨w.heap.size+1,7,none⟩ (.int .i64 now) (by show w.heap.size+1+1≠w.heap.size+1; omega))
   have EZ:=hid ((V3.out.setCell (p:=⟨w.heap.size+1,6,none⟩) (Nat.le_succ _) (.int .i64 1)).setCell (p:=⟨w.heap.size+1,7,none⟩) (Nat.le_succ _) (.int .i64 now))
   generalize (w6.setCell ⟨w.heap.size+1,6,none⟩ (.int .i64 1)).setCell ⟨w.heap.size+1,7,none⟩ (.int .i64 now)=w8 at *
   refine wp_region_lit ?_
   refine aH (by rfl) 83 (.tmp 4) (by rfl) (w.heap.size+1) (by rfl) HX8.out Tryz.underlying83 (by rfl) (by kernel_rfl) ?_
   refine aT (vs:=[.int .i64 L,.int .i64 l1,.int .i64 M,.int .i64 m1,.int .i64 k,.int .i64 p1,.int .i64 1,.int .i64 now,.bool false,.int .i64 ay]) (by rfl) 83 (.tmp 6) (.tmp 101) (by rfl) (w.heap.size+1+1) (by rfl) (by rfl) Yf.out rfl (by kernel_rfl) (by rfl) ?_
   have xY:=hid (Yf.out.store (vs:=[.int .i64 L,.int .i64 l1,.int .i64 M,.int .i64 m1,.int .i64 k,.int .i64 p1,.int .i64 1,.int .i64 now,.bool false,.int .i64 ay]) rfl)
   have KC:=hid (below_setCells EZ.out (show w.heap.size≤w.heap.size+1+1 by omega) 0 [.int .i64 L,.int .i64 l1,.int .i64 M,.int .i64 m1,.int .i64 k,.int .i64 p1,.int .i64 1,.int .i64 now,.bool false,.int .i64 ay])
   refine qX ?_
   intro w9 e9
   rw [← e9] at xY KC
   clear e9 HX8 Yf EZ
   rename_i K hKx
   refine kD (by rfl) (by rfl) (hKx _ _ (wp_ret ?_))
   clear hKx K
   exact bodyPost_ret (kE (v:=.int .i64 0) rfl (by rfl) (by rfl) xY.out Tryz.underlying83 (by rfl) (by kernel_rfl)) rfl ⟨by rw [HM.out,HL.out,HXx.out,if_neg HC.out,if_neg HC.out,if_neg HC.out],KC.out⟩
  ·have f6:=DT.out.frozen 6
   have f7:=DT.out.frozen 7
   have c2:=DT.out.cell 2 rfl
   have c6:=DT.out.cell 6 rfl
   have c7:=DT.out.cell 7 rfl
   go_upto_region 13 with (fail)
   clear f6 f7 c2 c6 c7
   have HX8:Hid (Box ((w6.setCell ⟨w.heap.size+1,6,none⟩ (.int .i64 1)).setCell ⟨w.heap.size+1,7,none⟩ (.int .i64 now)) (w.heap.size+1) [.int .i64 L,.int .i64 l1,.int .i64 M,.int .i64 m1,.int .i64 k,.int .i64 p1,.int .i64 1,.int .i64 now,.bool false,.int .i64 ay] 83):=hid ((DT.out.set 6 _).set 7 _)
   have Yf:=hid ((HZ6.out.far ⟨w.heap.size+1,6,none⟩ (.int .i64 1) (by show w.heap.size+1+1≠w.heap.size+1; omega)).far ⟨w.heap.size+1,7,none⟩ (.int .i64 now) (by show w.heap.size+1+1≠w.heap.size+1; omega))
   have EZ:=hid ((V3.out.setCell (p:=⟨w.heap.size+1,6,none⟩) (Nat.le_succ _) (.int .i64 1)).setCell (p:=⟨w.heap.size+1,7,none⟩) (Nat.le_succ _) (.int .i64 now))
   generalize (w6.setCell ⟨w.heap.size+1,6,none⟩ (.int .i64 1)).setCell ⟨w.heap.size+1,7,none⟩ (.int .i64 now)=w8 at *
   refine wp_region_lit ?_
   refine aH (by rfl) 83 (.tmp 4) (by rfl) (w.heap.size+1) (by rfl) HX8.out Tryz.underlying83 (by rfl) (by kernel_rfl) ?_
   refine aT (vs:=[.int .i64 L,.int .i64 l1,.int .i64 M,.int .i64 m1,.int .i64 k,.int .i64 p1,.int .i64 1,.int .i64 now,.bool false,.int .i64 ay]) (by rfl) 83 (.tmp 6) (.tmp 101) (by rfl) (w.heap.size+1+1) (by rfl) (by rfl) Yf.out rfl (by kernel_rfl) (by rfl) ?_
   have xY:=hid (Yf.out.store (vs:=[.int .i64 L,.int .i64 l1,.int .i64 M,.int .i64 m1,.int .i64 k,.int .i64 p1,.int .i64 1,.int .i64 now,.bool false,.int .i64 ay]) rfl)
   have KC:=hid (below_setCells EZ.out (show w.heap.size≤w.heap.size+1+1 by omega) 0 [.int .i64 L,.int .i64 l1,.int .i64 M,.int .i64 m1,.int .i64 k,.int .i64 p1,.int .i64 1,.int .i64 now,.bool false,.int .i64 ay])
   refine qX ?_
   intro w9 e9
   rw [← e9] at xY KC
   clear e9 HX8 Yf EZ
   rename_i K hKx
   refine kD (by rfl) (by rfl) (hKx _ _ (wp_ret ?_))
   clear hKx K
   exact bodyPost_ret (kE (v:=.int .i64 0) rfl (by rfl) (by rfl) xY.out Tryz.underlying83 (by rfl) (by kernel_rfl)) rfl ⟨by rw [HM.out,HL.out,HXx.out,if_neg HC.out,if_neg HC.out,if_neg HC.out],KC.out⟩
end Go.Proofs.YteablcielclaeaaGreatDoor.clk

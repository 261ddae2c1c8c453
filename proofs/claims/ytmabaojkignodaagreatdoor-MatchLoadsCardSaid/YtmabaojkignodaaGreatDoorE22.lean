/- Ko1, Ko2, Box3, IntsW. -/
import Derived.Test.YtmabaojkignodaaGreatDoorE19
import Derived.BigRegion
import Derived.ChangeAlike
namespace Go.Proofs.YtmabaojkignodaaGreatDoor.off
open Go.ChangeShapes Go.WideShapes Go.ChangeAt Go.RowKit
set_option linter.unusedVariables false
set_option maxHeartbeats 4000000
theorem ix0 (a b:Value) (w:World):(Instr.index 65 (.agg #[a,b]) (.int .i64 0)).run Tryz.prog w=.ok a w:=
 tV (P:=Tryz.prog) #[a,b] 0 a w Tryz.underlying65 (by kernel_rfl) (by kernel_rfl) (by omega) (by omega) rfl
theorem ix1 (a b:Value) (w:World):(Instr.index 65 (.agg #[a,b]) (.int .i64 1)).run Tryz.prog w=.ok b w:=
 tV (P:=Tryz.prog) #[a,b] 1 b w Tryz.underlying65 (by kernel_rfl) (by kernel_rfl) (by omega) (by omega) rfl
attribute [local go_sem] ix0 ix1
def lK (b0 b1 aY aZ l10 aX:Int):Prop:=
 (-1≤aY∧aY≤400∧-1≤aZ∧aZ≤400∧-1≤b0∧b0≤1∧¬ (b0=0∧aY = -1)∧¬ (b0=1∧aZ = -1)) ∧
 (-1≤l10∧l10≤400∧-1≤aX∧aX≤400∧-1≤b1∧b1≤1∧¬ (b1=0∧l10 = -1)∧¬ (b1=1∧aX = -1))
def ig (ok:Prop) (w:World) (e:Ending) (w':World):Prop:=∃ c:Int,e=.returned (.int .i64 c)∧(c=0↔ok)∧w=w'
theorem fA (b0 b1 aY aZ l10 aX:Int) (w:World) :
  Calls Tryz.prog 230 #[.agg #[.int .i64 b0,.int .i64 b1,.int .i64 aY,.int .i64 aZ,.int .i64 l10,.int .i64 aX]] w (ig (lK b0 b1 aY aZ l10 aX) (w.alloc (.cells #[.int .i64 b0,.int .i64 b1,.int .i64 aY,.int .i64 aZ,.int .i64 l10,.int .i64 aX] 70))):=by
 have c0:b0<0∨b0=0∨b0=1∨1<b0:=by omega
 have c1:b1<0∨b1=0∨b1=1∨1<b1:=by omega
 rcases c0 with c0 | rfl | rfl | c0 <;> rcases c1 with c1 | rfl | rfl | c1
 all_goals
  go_enter Tryz.func230,Tryz.ntmps230
  go_wp2
  refine wp_loop_rounds 3 ?_
  repeat any_goals (first | (rw [rounds_succ]; go_wp2) | (refine wp_loop_rounds 3 ?_))
  all_goals
   go_ret
   refine ⟨_,rfl,?_,rfl⟩
   (try simp only [beq_iff_eq,beq_eq_false_iff_ne,ne_eq] at *)
   unfold lK
   first | omega | (refine ⟨fun _=>?_,fun _=>by trivial⟩; omega)
end Go.Proofs.YtmabaojkignodaaGreatDoor.off
namespace Go.Proofs.YtmabaojkignodaaGreatDoor.off
open Go.ChangeShapes Go.WideShapes Go.ChangeAt Go.RowKit
set_option linter.unusedVariables false
set_option maxHeartbeats 4000000
open Go.Lib (hid)
def eH (kind au moves:Int):Prop:=(kind=0∨kind=1)∧(au=0∨au=1)∧0≤moves∧moves≤400
theorem check_any (b0 b1 aY aZ l10 aX kind au moves:Int) (w:World) :
  Calls Tryz.prog 190 #[.agg #[.int .i64 b0,.int .i64 b1,.int .i64 aY,.int .i64 aZ,.int .i64 l10,.int .i64 aX],.int .i64 kind,.int .i64 au,.int .i64 moves] w (ig (lK b0 b1 aY aZ l10 aX∧eH kind au moves) ((w.alloc (.cells #[.int .i64 b0,.int .i64 b1,.int .i64 aY,.int .i64 aZ,.int .i64 l10,.int .i64 aX] 70)).alloc (.cells #[.int .i64 b0,.int .i64 b1,.int .i64 aY,.int .i64 aZ,.int .i64 l10,.int .i64 aX] 70))):=by
 go_enter Tryz.func190,Tryz.ntmps190
 go_wp2_with fail
 refine (fA _ _ _ _ _ _ _).mono ?_
 rintro e w1 ⟨c,rfl,hc,rfl⟩
 by_cases h0:c=0
 ·have hok:=hid (hc.1 h0)
  subst h0
  clear hc
  go_wp2
  all_goals
   go_ret
   refine ⟨_,rfl,?_,rfl⟩
   unfold eH
   first | (refine ⟨fun _=>⟨hok.out,?_⟩,fun _=>by trivial⟩; omega) | (refine ⟨fun h=>?_,fun h=>?_⟩ <;> omega)
 ·have h1:(c != 0)=true:=by simpa using h0
  have hn:=hid (fun h=>h0 (hc.2 h))
  clear hc h0
  go_wp2
  go_ret
  exact ⟨_,rfl,⟨fun h=>by simp [h] at h1,fun h=>absurd h.1 hn.out⟩,rfl⟩
def yP (au moves:Int):Int:=if moves % 2=au then (if 2≤moves then 2 else 0) else (if 1≤moves then 1 else 0)
theorem pR (au moves:Int) (w:World) (hp:au=0∨au=1) (h0:0≤moves) (h1:moves≤400) :
  Calls Tryz.prog 141 #[.int .i64 au,.int .i64 moves] w fun e w'=>e=.returned (.int .i64 (yP au moves))∧w=w':=by
 rcases hp with rfl | rfl
 all_goals
  go_enter Tryz.func141,Tryz.ntmps141
  go_wp2
  all_goals
   go_ret
   refine ⟨congrArg (fun n=>Ending.returned (Value.int .i64 n)) (?_:(_:Int)=yP _ moves),rfl⟩
   simp only [beq_iff_eq,beq_eq_false_iff_ne] at *
   unfold yP
   split <;> (try split) <;> omega
theorem Cj (b0 b1 aY aZ l10 aX n:Int) (w:World) (hok:lK b0 b1 aY aZ l10 aX) (hn0:0≤n) (hn1:n≤400) (h:0≤b0) :
  Calls Tryz.prog 138 #[.agg #[.int .i64 b0,.int .i64 b1,.int .i64 aY,.int .i64 aZ,.int .i64 l10,.int .i64 aX],.int .i64 0,.int .i64 0,.int .i64 n] w (fun e w'=>e=.returned (.tuple #[.agg #[.int .i64 0,.int .i64 0,.int .i64 0,.int .i64 0,.int .i64 0,.int .i64 0],.int .i64 7])∧Below w.heap.size w w'):=by
 have H:=hid hok
 clear hok
 go_enter Tryz.func138,Tryz.ntmps138
 go_wp2_with fail
 refine (check_any b0 b1 aY aZ l10 aX 0 0 n _).mono ?_
 rintro e w1 ⟨c,rfl,hc,rfl⟩
 obtain rfl:c=0:=hc.2 ⟨H.out,by unfold eH; omega⟩
 clear hc
 go_wp2
 go_returns
 exact ⟨rfl,by go_grown⟩
theorem Ew (b0 b1 aY aZ l10 aX n:Int) (w:World) (hok:lK b0 b1 aY aZ l10 aX) (hn0:0≤n) (hn1:n≤400) (h:b0<0) (h2:(aY == n)=true) :
  Calls Tryz.prog 138 #[.agg #[.int .i64 b0,.int .i64 b1,.int .i64 aY,.int .i64 aZ,.int .i64 l10,.int .i64 aX],.int .i64 0,.int .i64 0,.int .i64 n] w (fun e w'=>e=.returned (.tuple #[.agg #[.int .i64 0,.int .i64 0,.int .i64 0,.int .i64 0,.int .i64 0,.int .i64 0],.int .i64 11])∧Below w.heap.size w w'):=by
 have H:=hid hok
 clear hok
 go_enter Tryz.func138,Tryz.ntmps138
 go_wp2_with fail
 refine (check_any b0 b1 aY aZ l10 aX 0 0 n _).mono ?_
 rintro e w1 ⟨c,rfl,hc,rfl⟩
 obtain rfl:c=0:=hc.2 ⟨H.out,by unfold eH; omega⟩
 clear hc
 go_wp2
 go_returns
 exact ⟨rfl,by go_grown⟩
theorem JR (b0 b1 aY aZ l10 aX n:Int) (w:World) (hok:lK b0 b1 aY aZ l10 aX) (hn0:0≤n) (hn1:n≤400) (h:b0<0) (h2:(aY == n)=false) :
  Calls Tryz.prog 138 #[.agg #[.int .i64 b0,.int .i64 b1,.int .i64 aY,.int .i64 aZ,.int .i64 l10,.int .i64 aX],.int .i64 0,.int .i64 0,.int .i64 n] w (fun e w'=>e=.returned (.tuple #[.agg #[.int .i64 0,.int .i64 b1,.int .i64 n,.int .i64 aZ,.int .i64 l10,.int .i64 aX],.int .i64 0])∧Below w.heap.size w w'):=by
 have H:=hid hok
 clear hok
 go_enter Tryz.func138,Tryz.ntmps138
 go_wp2_with fail
 refine (check_any b0 b1 aY aZ l10 aX 0 0 n _).mono ?_
 rintro e w1 ⟨c,rfl,hc,rfl⟩
 obtain rfl:c=0:=hc.2 ⟨H.out,by unfold eH; omega⟩
 clear hc
 go_wp2
 go_region
 all_goals (go_wp2; go_returns; exact ⟨rfl,by go_grown⟩)
theorem Cm (b0 b1 aY aZ l10 aX n:Int) (w:World) (hok:lK b0 b1 aY aZ l10 aX) (hn0:0≤n) (hn1:n≤400) (h:0≤b0) :
  Calls Tryz.prog 138 #[.agg #[.int .i64 b0,.int .i64 b1,.int .i64 aY,.int .i64 aZ,.int .i64 l10,.int .i64 aX],.int .i64 0,.int .i64 1,.int .i64 n] w (fun e w'=>e=.returned (.tuple #[.agg #[.int .i64 0,.int .i64 0,.int .i64 0,.int .i64 0,.int .i64 0,.int .i64 0],.int .i64 7])∧Below w.heap.size w w'):=by
 have H:=hid hok
 clear hok
 go_enter Tryz.func138,Tryz.ntmps138
 go_wp2_with fail
 refine (check_any b0 b1 aY aZ l10 aX 0 1 n _).mono ?_
 rintro e w1 ⟨c,rfl,hc,rfl⟩
 obtain rfl:c=0:=hc.2 ⟨H.out,by unfold eH; omega⟩
 clear hc
 go_wp2
 go_returns
 exact ⟨rfl,by go_grown⟩
theorem Ey (b0 b1 aY aZ l10 aX n:Int) (w:World) (hok:lK b0 b1 aY aZ l10 aX) (hn0:0≤n) (hn1:n≤400) (h:b0<0) (h2:(aZ == n)=true) :
  Calls Tryz.prog 138 #[.agg #[.int .i64 b0,.int .i64 b1,.int .i64 aY,.int .i64 aZ,.int .i64 l10,.int .i64 aX],.int .i64 0,.int .i64 1,.int .i64 n] w (fun e w'=>e=.returned (.tuple #[.agg #[.int .i64 0,.int .i64 0,.int .i64 0,.int .i64 0,.int .i64 0,.int .i64 0],.int .i64 11])∧Below w.heap.size w w'):=by
 have H:=hid hok
 clear hok
 go_enter Tryz.func138,Tryz.ntmps138
 go_wp2_with fail
 refine (check_any b0 b1 aY aZ l10 aX 0 1 n _).mono ?_
 rintro e w1 ⟨c,rfl,hc,rfl⟩
 obtain rfl:c=0:=hc.2 ⟨H.out,by unfold eH; omega⟩
 clear hc
 go_wp2
 go_returns
 exact ⟨rfl,by go_grown⟩
theorem JU (b0 b1 aY aZ l10 aX n:Int) (w:World) (hok:lK b0 b1 aY aZ l10 aX) (hn0:0≤n) (hn1:n≤400) (h:b0<0) (h2:(aZ == n)=false) :
  Calls Tryz.prog 138 #[.agg #[.int .i64 b0,.int .i64 b1,.int .i64 aY,.int .i64 aZ,.int .i64 l10,.int .i64 aX],.int .i64 0,.int .i64 1,.int .i64 n] w (fun e w'=>e=.returned (.tuple #[.agg #[.int .i64 1,.int .i64 b1,.int .i64 aY,.int .i64 n,.int .i64 l10,.int .i64 aX],.int .i64 0])∧Below w.heap.size w w'):=by
 have H:=hid hok
 clear hok
 go_enter Tryz.func138,Tryz.ntmps138
 go_wp2_with fail
 refine (check_any b0 b1 aY aZ l10 aX 0 1 n _).mono ?_
 rintro e w1 ⟨c,rfl,hc,rfl⟩
 obtain rfl:c=0:=hc.2 ⟨H.out,by unfold eH; omega⟩
 clear hc
 go_wp2
 go_region
 all_goals (go_wp2; go_returns; exact ⟨rfl,by go_grown⟩)
theorem CB (b0 b1 aY aZ l10 aX n:Int) (w:World) (hok:lK b0 b1 aY aZ l10 aX) (hn0:0≤n) (hn1:n≤400) (h:0≤b1) :
  Calls Tryz.prog 138 #[.agg #[.int .i64 b0,.int .i64 b1,.int .i64 aY,.int .i64 aZ,.int .i64 l10,.int .i64 aX],.int .i64 1,.int .i64 0,.int .i64 n] w (fun e w'=>e=.returned (.tuple #[.agg #[.int .i64 0,.int .i64 0,.int .i64 0,.int .i64 0,.int .i64 0,.int .i64 0],.int .i64 7])∧Below w.heap.size w w'):=by
 have H:=hid hok
 clear hok
 go_enter Tryz.func138,Tryz.ntmps138
 go_wp2_with fail
 refine (check_any b0 b1 aY aZ l10 aX 1 0 n _).mono ?_
 rintro e w1 ⟨c,rfl,hc,rfl⟩
 obtain rfl:c=0:=hc.2 ⟨H.out,by unfold eH; omega⟩
 clear hc
 go_wp2
 go_returns
 exact ⟨rfl,by go_grown⟩
theorem EC (b0 b1 aY aZ l10 aX n:Int) (w:World) (hok:lK b0 b1 aY aZ l10 aX) (hn0:0≤n) (hn1:n≤400) (h:b1<0) (h2:(l10 == n)=true) :
  Calls Tryz.prog 138 #[.agg #[.int .i64 b0,.int .i64 b1,.int .i64 aY,.int .i64 aZ,.int .i64 l10,.int .i64 aX],.int .i64 1,.int .i64 0,.int .i64 n] w (fun e w'=>e=.returned (.tuple #[.agg #[.int .i64 0,.int .i64 0,.int .i64 0,.int .i64 0,.int .i64 0,.int .i64 0],.int .i64 11])∧Below w.heap.size w w'):=by
 have H:=hid hok
 clear hok
 go_enter Tryz.func138,Tryz.ntmps138
 go_wp2_with fail
 refine (check_any b0 b1 aY aZ l10 aX 1 0 n _).mono ?_
 rintro e w1 ⟨c,rfl,hc,rfl⟩
 obtain rfl:c=0:=hc.2 ⟨H.out,by unfold eH; omega⟩
 clear hc
 go_wp2
 go_returns
 exact ⟨rfl,by go_grown⟩
theorem ED (b0 b1 aY aZ l10 aX n:Int) (w:World) (hok:lK b0 b1 aY aZ l10 aX) (hn0:0≤n) (hn1:n≤400) (h:b1<0) (h2:(l10 == n)=false) (h3:(yP 0 n == 0)=true) :
  Calls Tryz.prog 138 #[.agg #[.int .i64 b0,.int .i64 b1,.int .i64 aY,.int .i64 aZ,.int .i64 l10,.int .i64 aX],.int .i64 1,.int .i64 0,.int .i64 n] w (fun e w'=>e=.returned (.tuple #[.agg #[.int .i64 0,.int .i64 0,.int .i64 0,.int .i64 0,.int .i64 0,.int .i64 0],.int .i64 8])∧Below w.heap.size w w'):=by
 have H:=hid hok
 clear hok
 go_enter Tryz.func138,Tryz.ntmps138
 go_wp2_with fail
 refine (check_any b0 b1 aY aZ l10 aX 1 0 n _).mono ?_
 rintro e w1 ⟨c,rfl,hc,rfl⟩
 obtain rfl:c=0:=hc.2 ⟨H.out,by unfold eH; omega⟩
 clear hc
 go_wp2_with (go_at_call 141; refine (pR _ _ _ (by omega) (by omega) (by omega)).mono ?_; rintro e w' ⟨rfl,rfl⟩)
 go_returns
 exact ⟨rfl,by go_grown⟩
theorem JV (b0 b1 aY aZ l10 aX n:Int) (w:World) (hok:lK b0 b1 aY aZ l10 aX) (hn0:0≤n) (hn1:n≤400) (h:b1<0) (h2:(l10 == n)=false) (h3:(yP 0 n == 0)=false) :
  Calls Tryz.prog 138 #[.agg #[.int .i64 b0,.int .i64 b1,.int .i64 aY,.int .i64 aZ,.int .i64 l10,.int .i64 aX],.int .i64 1,.int .i64 0,.int .i64 n] w (fun e w'=>e=.returned (.tuple #[.agg #[.int .i64 b0,.int .i64 0,.int .i64 aY,.int .i64 aZ,.int .i64 n,.int .i64 aX],.int .i64 0])∧Below w.heap.size w w'):=by
 have H:=hid hok
 clear hok
 go_enter Tryz.func138,Tryz.ntmps138
 go_wp2_with fail
 refine (check_any b0 b1 aY aZ l10 aX 1 0 n _).mono ?_
 rintro e w1 ⟨c,rfl,hc,rfl⟩
 obtain rfl:c=0:=hc.2 ⟨H.out,by unfold eH; omega⟩
 clear hc
 go_wp2_with (go_at_call 141; refine (pR _ _ _ (by omega) (by omega) (by omega)).mono ?_; rintro e w' ⟨rfl,rfl⟩)
 go_region
 all_goals (go_wp2; go_returns; exact ⟨rfl,by go_grown⟩)
theorem CG (b0 b1 aY aZ l10 aX n:Int) (w:World) (hok:lK b0 b1 aY aZ l10 aX) (hn0:0≤n) (hn1:n≤400) (h:0≤b1) :
  Calls Tryz.prog 138 #[.agg #[.int .i64 b0,.int .i64 b1,.int .i64 aY,.int .i64 aZ,.int .i64 l10,.int .i64 aX],.int .i64 1,.int .i64 1,.int .i64 n] w (fun e w'=>e=.returned (.tuple #[.agg #[.int .i64 0,.int .i64 0,.int .i64 0,.int .i64 0,.int .i64 0,.int .i64 0],.int .i64 7])∧Below w.heap.size w w'):=by
 have H:=hid hok
 clear hok
 go_enter Tryz.func138,Tryz.ntmps138
 go_wp2_with fail
 refine (check_any b0 b1 aY aZ l10 aX 1 1 n _).mono ?_
 rintro e w1 ⟨c,rfl,hc,rfl⟩
 obtain rfl:c=0:=hc.2 ⟨H.out,by unfold eH; omega⟩
 clear hc
 go_wp2
 go_returns
 exact ⟨rfl,by go_grown⟩
theorem EF (b0 b1 aY aZ l10 aX n:Int) (w:World) (hok:lK b0 b1 aY aZ l10 aX) (hn0:0≤n) (hn1:n≤400) (h:b1<0) (h2:(aX == n)=true) :
  Calls Tryz.prog 138 #[.agg #[.int .i64 b0,.int .i64 b1,.int .i64 aY,.int .i64 aZ,.int .i64 l10,.int .i64 aX],.int .i64 1,.int .i64 1,.int .i64 n] w (fun e w'=>e=.returned (.tuple #[.agg #[.int .i64 0,.int .i64 0,.int .i64 0,.int .i64 0,.int .i64 0,.int .i64 0],.int .i64 11])∧Below w.heap.size w w'):=by
 have H:=hid hok
 clear hok
 go_enter Tryz.func138,Tryz.ntmps138
 go_wp2_with fail
 refine (check_any b0 b1 aY aZ l10 aX 1 1 n _).mono ?_
 rintro e w1 ⟨c,rfl,hc,rfl⟩
 obtain rfl:c=0:=hc.2 ⟨H.out,by unfold eH; omega⟩
 clear hc
 go_wp2
 go_returns
 exact ⟨rfl,by go_grown⟩
theorem EG (b0 b1 aY aZ l10 aX n:Int) (w:World) (hok:lK b0 b1 aY aZ l10 aX) (hn0:0≤n) (hn1:n≤400) (h:b1<0) (h2:(aX == n)=false) (h3:(yP 1 n == 0)=true) :
  Calls Tryz.prog 138 #[.agg #[.int .i64 b0,.int .i64 b1,.int .i64 aY,.int .i64 aZ,.int .i64 l10,.int .i64 aX],.int .i64 1,.int .i64 1,.int .i64 n] w (fun e w'=>e=.returned (.tuple #[.agg #[.int .i64 0,.int .i64 0,.int .i64 0,.int .i64 0,.int .i64 0,.int .i64 0],.int .i64 8])∧Below w.heap.size w w'):=by
 have H:=hid hok
 clear hok
 go_enter Tryz.func138,Tryz.ntmps138
 go_wp2_with fail
 refine (check_any b0 b1 aY aZ l10 aX 1 1 n _).mono ?_
 rintro e w1 ⟨c,rfl,hc,rfl⟩
 obtain rfl:c=0:=hc.2 ⟨H.out,by unfold eH; omega⟩
 clear hc
 go_wp2_with (go_at_call 141; refine (pR _ _ _ (by omega) (by omega) (by omega)).mono ?_; rintro e w' ⟨rfl,rfl⟩)
 go_returns
 exact ⟨rfl,by go_grown⟩
theorem JW (b0 b1 aY aZ l10 aX n:Int) (w:World) (hok:lK b0 b1 aY aZ l10 aX) (hn0:0≤n) (hn1:n≤400) (h:b1<0) (h2:(aX == n)=false) (h3:(yP 1 n == 0)=false) :
  Calls Tryz.prog 138 #[.agg #[.int .i64 b0,.int .i64 b1,.int .i64 aY,.int .i64 aZ,.int .i64 l10,.int .i64 aX],.int .i64 1,.int .i64 1,.int .i64 n] w (fun e w'=>e=.returned (.tuple #[.agg #[.int .i64 b0,.int .i64 1,.int .i64 aY,.int .i64 aZ,.int .i64 l10,.int .i64 n],.int .i64 0])∧Below w.heap.size w w'):=by
 have H:=hid hok
 clear hok
 go_enter Tryz.func138,Tryz.ntmps138
 go_wp2_with fail
 refine (check_any b0 b1 aY aZ l10 aX 1 1 n _).mono ?_
 rintro e w1 ⟨c,rfl,hc,rfl⟩
 obtain rfl:c=0:=hc.2 ⟨H.out,by unfold eH; omega⟩
 clear hc
 go_wp2_with (go_at_call 141; refine (pR _ _ _ (by omega) (by omega) (by omega)).mono ?_; rintro e w' ⟨rfl,rfl⟩)
 go_region
 all_goals (go_wp2; go_returns; exact ⟨rfl,by go_grown⟩)
theorem AO (b0 b1 aY aZ l10 aX n:Int) (w:World) (hok:lK b0 b1 aY aZ l10 aX) (hn0:0≤n) (hn1:n≤400) (h:(b0 != 1)=false) :
  Calls Tryz.prog 191 #[.agg #[.int .i64 b0,.int .i64 b1,.int .i64 aY,.int .i64 aZ,.int .i64 l10,.int .i64 aX],.int .i64 0,.int .i64 0,.int .i64 n] w (fun e w'=>e=.returned (.int .i64 0)∧((w.alloc (.cells #[.int .i64 b0,.int .i64 b1,.int .i64 aY,.int .i64 aZ,.int .i64 l10,.int .i64 aX] 70)).alloc (.cells #[.int .i64 b0,.int .i64 b1,.int .i64 aY,.int .i64 aZ,.int .i64 l10,.int .i64 aX] 70)).alloc (.cells #[.int .i64 b0,.int .i64 b1,.int .i64 aY,.int .i64 aZ,.int .i64 l10,.int .i64 aX] 70)=w'):=by
 have H:=hid hok
 clear hok
 go_enter Tryz.func191,Tryz.ntmps191
 go_wp2_with fail
 refine (check_any b0 b1 aY aZ l10 aX 0 0 n _).mono ?_
 rintro e w1 ⟨c,rfl,hc,rfl⟩
 obtain rfl:c=0:=hc.2 ⟨H.out,by unfold eH; omega⟩
 clear hc
 go_wp2
 go_ret
 exact ⟨rfl,rfl⟩
theorem tX (b0 b1 aY aZ l10 aX n:Int) (w:World) (hok:lK b0 b1 aY aZ l10 aX) (hn0:0≤n) (hn1:n≤400) (h:(b0 != 1)=true) :
  Calls Tryz.prog 191 #[.agg #[.int .i64 b0,.int .i64 b1,.int .i64 aY,.int .i64 aZ,.int .i64 l10,.int .i64 aX],.int .i64 0,.int .i64 0,.int .i64 n] w (fun e w'=>e=.returned (.int .i64 10)∧((w.alloc (.cells #[.int .i64 b0,.int .i64 b1,.int .i64 aY,.int .i64 aZ,.int .i64 l10,.int .i64 aX] 70)).alloc (.cells #[.int .i64 b0,.int .i64 b1,.int .i64 aY,.int .i64 aZ,.int .i64 l10,.int .i64 aX] 70)).alloc (.cells #[.int .i64 b0,.int .i64 b1,.int .i64 aY,.int .i64 aZ,.int .i64 l10,.int .i64 aX] 70)=w'):=by
 have H:=hid hok
 clear hok
 go_enter Tryz.func191,Tryz.ntmps191
 go_wp2_with fail
 refine (check_any b0 b1 aY aZ l10 aX 0 0 n _).mono ?_
 rintro e w1 ⟨c,rfl,hc,rfl⟩
 obtain rfl:c=0:=hc.2 ⟨H.out,by unfold eH; omega⟩
 clear hc
 go_wp2
 go_ret
 exact ⟨rfl,rfl⟩
theorem CJ (b0 b1 aY aZ l10 aX n:Int) (w:World) (hok:lK b0 b1 aY aZ l10 aX) (hn0:0≤n) (hn1:n≤400) (h:(b0 != 1)=false) :
  Calls Tryz.prog 139 #[.agg #[.int .i64 b0,.int .i64 b1,.int .i64 aY,.int .i64 aZ,.int .i64 l10,.int .i64 aX],.int .i64 0,.int .i64 0,.int .i64 n] w (fun e w'=>e=.returned (.tuple #[.agg #[.int .i64 (-1),.int .i64 b1,.int .i64 aY,.int .i64 aZ,.int .i64 l10,.int .i64 aX],.int .i64 0])∧Below w.heap.size w w'):=by
 have H:=hid hok
 clear hok
 go_enter Tryz.func139,Tryz.ntmps139
 go_wp2_with fail
 refine (AO b0 b1 aY aZ l10 aX n _ H.out hn0 hn1 h).mono ?_
 rintro e w1 ⟨rfl,rfl⟩
 go_wp2
 go_returns
 exact ⟨rfl,by go_grown⟩
theorem xY (b0 b1 aY aZ l10 aX n:Int) (w:World) (hok:lK b0 b1 aY aZ l10 aX) (hn0:0≤n) (hn1:n≤400) (h:(b0 != 1)=true) :
  Calls Tryz.prog 139 #[.agg #[.int .i64 b0,.int .i64 b1,.int .i64 aY,.int .i64 aZ,.int .i64 l10,.int .i64 aX],.int .i64 0,.int .i64 0,.int .i64 n] w (fun e w'=>e=.returned (.tuple #[.agg #[.int .i64 0,.int .i64 0,.int .i64 0,.int .i64 0,.int .i64 0,.int .i64 0],.int .i64 10])∧Below w.heap.size w w'):=by
 have H:=hid hok
 clear hok
 go_enter Tryz.func139,Tryz.ntmps139
 go_wp2_with fail
 refine (tX b0 b1 aY aZ l10 aX n _ H.out hn0 hn1 h).mono ?_
 rintro e w1 ⟨rfl,rfl⟩
 go_wp2
 go_returns
 exact ⟨rfl,by go_grown⟩
theorem EH (b0 b1 aY aZ l10 aX n:Int) (w:World) (hok:lK b0 b1 aY aZ l10 aX) (hn0:0≤n) (hn1:n≤400) (h:(b0 != 1)=false) :
  Calls Tryz.prog 140 #[.agg #[.int .i64 b0,.int .i64 b1,.int .i64 aY,.int .i64 aZ,.int .i64 l10,.int .i64 aX],.int .i64 0,.int .i64 0,.int .i64 n] w (fun e w'=>e=.returned (.tuple #[.agg #[.int .i64 (-1),.int .i64 (-1),.int .i64 aY,.int .i64 aZ,.int .i64 l10,.int .i64 aX],.int .i64 0])∧Below w.heap.size w w'):=by
 have H:=hid hok
 clear hok
 go_enter Tryz.func140,Tryz.ntmps140
 go_wp2_with fail
 refine (AO b0 b1 aY aZ l10 aX n _ H.out hn0 hn1 h).mono ?_
 rintro e w1 ⟨rfl,rfl⟩
 go_wp2
 go_returns
 exact ⟨rfl,by go_grown⟩
theorem AP (b0 b1 aY aZ l10 aX n:Int) (w:World) (hok:lK b0 b1 aY aZ l10 aX) (hn0:0≤n) (hn1:n≤400) (h:(b0 != 0)=false) :
  Calls Tryz.prog 191 #[.agg #[.int .i64 b0,.int .i64 b1,.int .i64 aY,.int .i64 aZ,.int .i64 l10,.int .i64 aX],.int .i64 0,.int .i64 1,.int .i64 n] w (fun e w'=>e=.returned (.int .i64 0)∧((w.alloc (.cells #[.int .i64 b0,.int .i64 b1,.int .i64 aY,.int .i64 aZ,.int .i64 l10,.int .i64 aX] 70)).alloc (.cells #[.int .i64 b0,.int .i64 b1,.int .i64 aY,.int .i64 aZ,.int .i64 l10,.int .i64 aX] 70)).alloc (.cells #[.int .i64 b0,.int .i64 b1,.int .i64 aY,.int .i64 aZ,.int .i64 l10,.int .i64 aX] 70)=w'):=by
 have H:=hid hok
 clear hok
 go_enter Tryz.func191,Tryz.ntmps191
 go_wp2_with fail
 refine (check_any b0 b1 aY aZ l10 aX 0 1 n _).mono ?_
 rintro e w1 ⟨c,rfl,hc,rfl⟩
 obtain rfl:c=0:=hc.2 ⟨H.out,by unfold eH; omega⟩
 clear hc
 go_wp2
 go_ret
 exact ⟨rfl,rfl⟩
theorem tY (b0 b1 aY aZ l10 aX n:Int) (w:World) (hok:lK b0 b1 aY aZ l10 aX) (hn0:0≤n) (hn1:n≤400) (h:(b0 != 0)=true) :
  Calls Tryz.prog 191 #[.agg #[.int .i64 b0,.int .i64 b1,.int .i64 aY,.int .i64 aZ,.int .i64 l10,.int .i64 aX],.int .i64 0,.int .i64 1,.int .i64 n] w (fun e w'=>e=.returned (.int .i64 10)∧((w.alloc (.cells #[.int .i64 b0,.int .i64 b1,.int .i64 aY,.int .i64 aZ,.int .i64 l10,.int .i64 aX] 70)).alloc (.cells #[.int .i64 b0,.int .i64 b1,.int .i64 aY,.int .i64 aZ,.int .i64 l10,.int .i64 aX] 70)).alloc (.cells #[.int .i64 b0,.int .i64 b1,.int .i64 aY,.int .i64 aZ,.int .i64 l10,.int .i64 aX] 70)=w'):=by
 have H:=hid hok
 clear hok
 go_enter Tryz.func191,Tryz.ntmps191
 go_wp2_with fail
 refine (check_any b0 b1 aY aZ l10 aX 0 1 n _).mono ?_
 rintro e w1 ⟨c,rfl,hc,rfl⟩
 obtain rfl:c=0:=hc.2 ⟨H.out,by unfold eH; omega⟩
 clear hc
 go_wp2
 go_ret
 exact ⟨rfl,rfl⟩
theorem CO (b0 b1 aY aZ l10 aX n:Int) (w:World) (hok:lK b0 b1 aY aZ l10 aX) (hn0:0≤n) (hn1:n≤400) (h:(b0 != 0)=false) :
  Calls Tryz.prog 139 #[.agg #[.int .i64 b0,.int .i64 b1,.int .i64 aY,.int .i64 aZ,.int .i64 l10,.int .i64 aX],.int .i64 0,.int .i64 1,.int .i64 n] w (fun e w'=>e=.returned (.tuple #[.agg #[.int .i64 (-1),.int .i64 b1,.int .i64 aY,.int .i64 aZ,.int .i64 l10,.int .i64 aX],.int .i64 0])∧Below w.heap.size w w'):=by
 have H:=hid hok
 clear hok
 go_enter Tryz.func139,Tryz.ntmps139
 go_wp2_with fail
 refine (AP b0 b1 aY aZ l10 aX n _ H.out hn0 hn1 h).mono ?_
 rintro e w1 ⟨rfl,rfl⟩
 go_wp2
 go_returns
 exact ⟨rfl,by go_grown⟩
theorem xZ (b0 b1 aY aZ l10 aX n:Int) (w:World) (hok:lK b0 b1 aY aZ l10 aX) (hn0:0≤n) (hn1:n≤400) (h:(b0 != 0)=true) :
  Calls Tryz.prog 139 #[.agg #[.int .i64 b0,.int .i64 b1,.int .i64 aY,.int .i64 aZ,.int .i64 l10,.int .i64 aX],.int .i64 0,.int .i64 1,.int .i64 n] w (fun e w'=>e=.returned (.tuple #[.agg #[.int .i64 0,.int .i64 0,.int .i64 0,.int .i64 0,.int .i64 0,.int .i64 0],.int .i64 10])∧Below w.heap.size w w'):=by
 have H:=hid hok
 clear hok
 go_enter Tryz.func139,Tryz.ntmps139
 go_wp2_with fail
 refine (tY b0 b1 aY aZ l10 aX n _ H.out hn0 hn1 h).mono ?_
 rintro e w1 ⟨rfl,rfl⟩
 go_wp2
 go_returns
 exact ⟨rfl,by go_grown⟩
theorem EI (b0 b1 aY aZ l10 aX n:Int) (w:World) (hok:lK b0 b1 aY aZ l10 aX) (hn0:0≤n) (hn1:n≤400) (h:(b0 != 0)=false) :
  Calls Tryz.prog 140 #[.agg #[.int .i64 b0,.int .i64 b1,.int .i64 aY,.int .i64 aZ,.int .i64 l10,.int .i64 aX],.int .i64 0,.int .i64 1,.int .i64 n] w (fun e w'=>e=.returned (.tuple #[.agg #[.int .i64 (-1),.int .i64 (-1),.int .i64 aY,.int .i64 aZ,.int .i64 l10,.int .i64 aX],.int .i64 0])∧Below w.heap.size w w'):=by
 have H:=hid hok
 clear hok
 go_enter Tryz.func140,Tryz.ntmps140
 go_wp2_with fail
 refine (AP b0 b1 aY aZ l10 aX n _ H.out hn0 hn1 h).mono ?_
 rintro e w1 ⟨rfl,rfl⟩
 go_wp2
 go_returns
 exact ⟨rfl,by go_grown⟩
theorem AQ (b0 b1 aY aZ l10 aX n:Int) (w:World) (hok:lK b0 b1 aY aZ l10 aX) (hn0:0≤n) (hn1:n≤400) (h:(b1 != 1)=false) :
  Calls Tryz.prog 191 #[.agg #[.int .i64 b0,.int .i64 b1,.int .i64 aY,.int .i64 aZ,.int .i64 l10,.int .i64 aX],.int .i64 1,.int .i64 0,.int .i64 n] w (fun e w'=>e=.returned (.int .i64 0)∧((w.alloc (.cells #[.int .i64 b0,.int .i64 b1,.int .i64 aY,.int .i64 aZ,.int .i64 l10,.int .i64 aX] 70)).alloc (.cells #[.int .i64 b0,.int .i64 b1,.int .i64 aY,.int .i64 aZ,.int .i64 l10,.int .i64 aX] 70)).alloc (.cells #[.int .i64 b0,.int .i64 b1,.int .i64 aY,.int .i64 aZ,.int .i64 l10,.int .i64 aX] 70)=w'):=by
 have H:=hid hok
 clear hok
 go_enter Tryz.func191,Tryz.ntmps191
 go_wp2_with fail
 refine (check_any b0 b1 aY aZ l10 aX 1 0 n _).mono ?_
 rintro e w1 ⟨c,rfl,hc,rfl⟩
 obtain rfl:c=0:=hc.2 ⟨H.out,by unfold eH; omega⟩
 clear hc
 go_wp2
 go_ret
 exact ⟨rfl,rfl⟩
theorem tZ (b0 b1 aY aZ l10 aX n:Int) (w:World) (hok:lK b0 b1 aY aZ l10 aX) (hn0:0≤n) (hn1:n≤400) (h:(b1 != 1)=true) :
  Calls Tryz.prog 191 #[.agg #[.int .i64 b0,.int .i64 b1,.int .i64 aY,.int .i64 aZ,.int .i64 l10,.int .i64 aX],.int .i64 1,.int .i64 0,.int .i64 n] w (fun e w'=>e=.returned (.int .i64 10)∧((w.alloc (.cells #[.int .i64 b0,.int .i64 b1,.int .i64 aY,.int .i64 aZ,.int .i64 l10,.int .i64 aX] 70)).alloc (.cells #[.int .i64 b0,.int .i64 b1,.int .i64 aY,.int .i64 aZ,.int .i64 l10,.int .i64 aX] 70)).alloc (.cells #[.int .i64 b0,.int .i64 b1,.int .i64 aY,.int .i64 aZ,.int .i64 l10,.int .i64 aX] 70)=w'):=by
 have H:=hid hok
 clear hok
 go_enter Tryz.func191,Tryz.ntmps191
 go_wp2_with fail
 refine (check_any b0 b1 aY aZ l10 aX 1 0 n _).mono ?_
 rintro e w1 ⟨c,rfl,hc,rfl⟩
 obtain rfl:c=0:=hc.2 ⟨H.out,by unfold eH; omega⟩
 clear hc
 go_wp2
 go_ret
 exact ⟨rfl,rfl⟩
theorem CP (b0 b1 aY aZ l10 aX n:Int) (w:World) (hok:lK b0 b1 aY aZ l10 aX) (hn0:0≤n) (hn1:n≤400) (h:(b1 != 1)=false) :
  Calls Tryz.prog 139 #[.agg #[.int .i64 b0,.int .i64 b1,.int .i64 aY,.int .i64 aZ,.int .i64 l10,.int .i64 aX],.int .i64 1,.int .i64 0,.int .i64 n] w (fun e w'=>e=.returned (.tuple #[.agg #[.int .i64 b0,.int .i64 (-1),.int .i64 aY,.int .i64 aZ,.int .i64 l10,.int .i64 aX],.int .i64 0])∧Below w.heap.size w w'):=by
 have H:=hid hok
 clear hok
 go_enter Tryz.func139,Tryz.ntmps139
 go_wp2_with fail
 refine (AQ b0 b1 aY aZ l10 aX n _ H.out hn0 hn1 h).mono ?_
 rintro e w1 ⟨rfl,rfl⟩
 go_wp2
 go_returns
 exact ⟨rfl,by go_grown⟩
theorem yg (b0 b1 aY aZ l10 aX n:Int) (w:World) (hok:lK b0 b1 aY aZ l10 aX) (hn0:0≤n) (hn1:n≤400) (h:(b1 != 1)=true) :
  Calls Tryz.prog 139 #[.agg #[.int .i64 b0,.int .i64 b1,.int .i64 aY,.int .i64 aZ,.int .i64 l10,.int .i64 aX],.int .i64 1,.int .i64 0,.int .i64 n] w (fun e w'=>e=.returned (.tuple #[.agg #[.int .i64 0,.int .i64 0,.int .i64 0,.int .i64 0,.int .i64 0,.int .i64 0],.int .i64 10])∧Below w.heap.size w w'):=by
 have H:=hid hok
 clear hok
 go_enter Tryz.func139,Tryz.ntmps139
 go_wp2_with fail
 refine (tZ b0 b1 aY aZ l10 aX n _ H.out hn0 hn1 h).mono ?_
 rintro e w1 ⟨rfl,rfl⟩
 go_wp2
 go_returns
 exact ⟨rfl,by go_grown⟩
theorem AU (b0 b1 aY aZ l10 aX n:Int) (w:World) (hok:lK b0 b1 aY aZ l10 aX) (hn0:0≤n) (hn1:n≤400) (h:(b1 != 0)=false) :
  Calls Tryz.prog 191 #[.agg #[.int .i64 b0,.int .i64 b1,.int .i64 aY,.int .i64 aZ,.int .i64 l10,.int .i64 aX],.int .i64 1,.int .i64 1,.int .i64 n] w (fun e w'=>e=.returned (.int .i64 0)∧((w.alloc (.cells #[.int .i64 b0,.int .i64 b1,.int .i64 aY,.int .i64 aZ,.int .i64 l10,.int .i64 aX] 70)).alloc (.cells #[.int .i64 b0,.int .i64 b1,.int .i64 aY,.int .i64 aZ,.int .i64 l10,.int .i64 aX] 70)).alloc (.cells #[.int .i64 b0,.int .i64 b1,.int .i64 aY,.int .i64 aZ,.int .i64 l10,.int .i64 aX] 70)=w'):=by
 have H:=hid hok
 clear hok
 go_enter Tryz.func191,Tryz.ntmps191
 go_wp2_with fail
 refine (check_any b0 b1 aY aZ l10 aX 1 1 n _).mono ?_
 rintro e w1 ⟨c,rfl,hc,rfl⟩
 obtain rfl:c=0:=hc.2 ⟨H.out,by unfold eH; omega⟩
 clear hc
 go_wp2
 go_ret
 exact ⟨rfl,rfl⟩
theorem uf (b0 b1 aY aZ l10 aX n:Int) (w:World) (hok:lK b0 b1 aY aZ l10 aX) (hn0:0≤n) (hn1:n≤400) (h:(b1 != 0)=true) :
  Calls Tryz.prog 191 #[.agg #[.int .i64 b0,.int .i64 b1,.int .i64 aY,.int .i64 aZ,.int .i64 l10,.int .i64 aX],.int .i64 1,.int .i64 1,.int .i64 n] w (fun e w'=>e=.returned (.int .i64 10)∧((w.alloc (.cells #[.int .i64 b0,.int .i64 b1,.int .i64 aY,.int .i64 aZ,.int .i64 l10,.int .i64 aX] 70)).alloc (.cells #[.int .i64 b0,.int .i64 b1,.int .i64 aY,.int .i64 aZ,.int .i64 l10,.int .i64 aX] 70)).alloc (.cells #[.int .i64 b0,.int .i64 b1,.int .i64 aY,.int .i64 aZ,.int .i64 l10,.int .i64 aX] 70)=w'):=by
 have H:=hid hok
 clear hok
 go_enter Tryz.func191,Tryz.ntmps191
 go_wp2_with fail
 refine (check_any b0 b1 aY aZ l10 aX 1 1 n _).mono ?_
 rintro e w1 ⟨c,rfl,hc,rfl⟩
 obtain rfl:c=0:=hc.2 ⟨H.out,by unfold eH; omega⟩
 clear hc
 go_wp2
 go_ret
 exact ⟨rfl,rfl⟩
theorem CQ (b0 b1 aY aZ l10 aX n:Int) (w:World) (hok:lK b0 b1 aY aZ l10 aX) (hn0:0≤n) (hn1:n≤400) (h:(b1 != 0)=false) :
  Calls Tryz.prog 139 #[.agg #[.int .i64 b0,.int .i64 b1,.int .i64 aY,.int .i64 aZ,.int .i64 l10,.int .i64 aX],.int .i64 1,.int .i64 1,.int .i64 n] w (fun e w'=>e=.returned (.tuple #[.agg #[.int .i64 b0,.int .i64 (-1),.int .i64 aY,.int .i64 aZ,.int .i64 l10,.int .i64 aX],.int .i64 0])∧Below w.heap.size w w'):=by
 have H:=hid hok
 clear hok
 go_enter Tryz.func139,Tryz.ntmps139
 go_wp2_with fail
 refine (AU b0 b1 aY aZ l10 aX n _ H.out hn0 hn1 h).mono ?_
 rintro e w1 ⟨rfl,rfl⟩
 go_wp2
 go_returns
 exact ⟨rfl,by go_grown⟩
theorem yh (b0 b1 aY aZ l10 aX n:Int) (w:World) (hok:lK b0 b1 aY aZ l10 aX) (hn0:0≤n) (hn1:n≤400) (h:(b1 != 0)=true) :
  Calls Tryz.prog 139 #[.agg #[.int .i64 b0,.int .i64 b1,.int .i64 aY,.int .i64 aZ,.int .i64 l10,.int .i64 aX],.int .i64 1,.int .i64 1,.int .i64 n] w (fun e w'=>e=.returned (.tuple #[.agg #[.int .i64 0,.int .i64 0,.int .i64 0,.int .i64 0,.int .i64 0,.int .i64 0],.int .i64 10])∧Below w.heap.size w w'):=by
 have H:=hid hok
 clear hok
 go_enter Tryz.func139,Tryz.ntmps139
 go_wp2_with fail
 refine (uf b0 b1 aY aZ l10 aX n _ H.out hn0 hn1 h).mono ?_
 rintro e w1 ⟨rfl,rfl⟩
 go_wp2
 go_returns
 exact ⟨rfl,by go_grown⟩
theorem JX (b0 b1 aY aZ l10 aX:Int) (w:World) (hok:lK b0 b1 aY aZ l10 aX) (h:(b0 == 1)=true) :
  Calls Tryz.prog 187 #[.agg #[.int .i64 b0,.int .i64 b1,.int .i64 aY,.int .i64 aZ,.int .i64 l10,.int .i64 aX],.int .i64 0] w (fun e w'=>e=.returned (.tuple #[.agg #[.int .i64 (-1),.int .i64 (-1),.int .i64 aY,.int .i64 aZ,.int .i64 l10,.int .i64 aX],.int .i64 0])∧Below w.heap.size w w'):=by
 have H:=hid hok
 clear hok
 go_enter Tryz.func187,Tryz.ntmps187
 go_wp2_with fail
 refine (check_any b0 b1 aY aZ l10 aX 0 0 0 _).mono ?_
 rintro e w1 ⟨c,rfl,hc,rfl⟩
 obtain rfl:c=0:=hc.2 ⟨H.out,by unfold eH; omega⟩
 clear hc
 go_wp2
 go_returns
 exact ⟨rfl,by go_grown⟩
theorem H6 (b0 b1 aY aZ l10 aX:Int) (w:World) (hok:lK b0 b1 aY aZ l10 aX) (h:(b0 == 1)=false) :
  Calls Tryz.prog 187 #[.agg #[.int .i64 b0,.int .i64 b1,.int .i64 aY,.int .i64 aZ,.int .i64 l10,.int .i64 aX],.int .i64 0] w (fun e w'=>e=.returned (.tuple #[.agg #[.int .i64 b0,.int .i64 (-1),.int .i64 aY,.int .i64 aZ,.int .i64 l10,.int .i64 aX],.int .i64 0])∧Below w.heap.size w w'):=by
 have H:=hid hok
 clear hok
 go_enter Tryz.func187,Tryz.ntmps187
 go_wp2_with fail
 refine (check_any b0 b1 aY aZ l10 aX 0 0 0 _).mono ?_
 rintro e w1 ⟨c,rfl,hc,rfl⟩
 obtain rfl:c=0:=hc.2 ⟨H.out,by unfold eH; omega⟩
 clear hc
 go_wp2
 go_returns
 exact ⟨rfl,by go_grown⟩
theorem JY (b0 b1 aY aZ l10 aX:Int) (w:World) (hok:lK b0 b1 aY aZ l10 aX) (h:(b0 == 0)=true) :
  Calls Tryz.prog 187 #[.agg #[.int .i64 b0,.int .i64 b1,.int .i64 aY,.int .i64 aZ,.int .i64 l10,.int .i64 aX],.int .i64 1] w (fun e w'=>e=.returned (.tuple #[.agg #[.int .i64 (-1),.int .i64 (-1),.int .i64 aY,.int .i64 aZ,.int .i64 l10,.int .i64 aX],.int .i64 0])∧Below w.heap.size w w'):=by
 have H:=hid hok
 clear hok
 go_enter Tryz.func187,Tryz.ntmps187
 go_wp2_with fail
 refine (check_any b0 b1 aY aZ l10 aX 0 1 0 _).mono ?_
 rintro e w1 ⟨c,rfl,hc,rfl⟩
 obtain rfl:c=0:=hc.2 ⟨H.out,by unfold eH; omega⟩
 clear hc
 go_wp2
 go_returns
 exact ⟨rfl,by go_grown⟩
theorem H7 (b0 b1 aY aZ l10 aX:Int) (w:World) (hok:lK b0 b1 aY aZ l10 aX) (h:(b0 == 0)=false) :
  Calls Tryz.prog 187 #[.agg #[.int .i64 b0,.int .i64 b1,.int .i64 aY,.int .i64 aZ,.int .i64 l10,.int .i64 aX],.int .i64 1] w (fun e w'=>e=.returned (.tuple #[.agg #[.int .i64 b0,.int .i64 (-1),.int .i64 aY,.int .i64 aZ,.int .i64 l10,.int .i64 aX],.int .i64 0])∧Below w.heap.size w w'):=by
 have H:=hid hok
 clear hok
 go_enter Tryz.func187,Tryz.ntmps187
 go_wp2_with fail
 refine (check_any b0 b1 aY aZ l10 aX 0 1 0 _).mono ?_
 rintro e w1 ⟨c,rfl,hc,rfl⟩
 obtain rfl:c=0:=hc.2 ⟨H.out,by unfold eH; omega⟩
 clear hc
 go_wp2
 go_returns
 exact ⟨rfl,by go_grown⟩
theorem AV (b0 b1 aY aZ l10 aX kind au moves:Int) (w:World) (hok:lK b0 b1 aY aZ l10 aX) (hk:kind≠0∧kind≠1) :
  Calls Tryz.prog 190 #[.agg #[.int .i64 b0,.int .i64 b1,.int .i64 aY,.int .i64 aZ,.int .i64 l10,.int .i64 aX],.int .i64 kind,.int .i64 au,.int .i64 moves] w fun e w'=>e=.returned (.int .i64 1)∧((w.alloc (.cells #[.int .i64 b0,.int .i64 b1,.int .i64 aY,.int .i64 aZ,.int .i64 l10,.int .i64 aX] 70)).alloc (.cells #[.int .i64 b0,.int .i64 b1,.int .i64 aY,.int .i64 aZ,.int .i64 l10,.int .i64 aX] 70))=w':=by
 have H:=hid hok
 clear hok
 obtain ⟨hk0,hk1⟩:=hk
 go_enter Tryz.func190,Tryz.ntmps190
 go_wp2_with fail
 refine (fA _ _ _ _ _ _ _).mono ?_
 rintro e w1 ⟨c,rfl,hc,rfl⟩
 obtain rfl:c=0:=hc.2 H.out
 clear hc
 go_wp2
 all_goals
  go_ret
  exact ⟨rfl,rfl⟩
theorem DI (b0 b1 aY aZ l10 aX k p n:Int) (w:World) (hok:lK b0 b1 aY aZ l10 aX) (hk:k≠0∧k≠1) :
  Calls Tryz.prog 191 #[.agg #[.int .i64 b0,.int .i64 b1,.int .i64 aY,.int .i64 aZ,.int .i64 l10,.int .i64 aX],.int .i64 k,.int .i64 p,.int .i64 n] w fun e w'=>e=.returned (.int .i64 1)∧(((w.alloc (.cells #[.int .i64 b0,.int .i64 b1,.int .i64 aY,.int .i64 aZ,.int .i64 l10,.int .i64 aX] 70)).alloc (.cells #[.int .i64 b0,.int .i64 b1,.int .i64 aY,.int .i64 aZ,.int .i64 l10,.int .i64 aX] 70)).alloc (.cells #[.int .i64 b0,.int .i64 b1,.int .i64 aY,.int .i64 aZ,.int .i64 l10,.int .i64 aX] 70))=w':=by
 have H:=hid hok
 have HK:=hid hk
 clear hok hk
 go_enter Tryz.func191,Tryz.ntmps191
 go_wp2_with fail
 refine (AV b0 b1 aY aZ l10 aX k p n _ H.out HK.out).mono ?_
 rintro e w1 ⟨rfl,rfl⟩
 go_wp2
 go_ret
 exact ⟨rfl,rfl⟩
theorem NT (b0 b1 aY aZ l10 aX k p n:Int) (w:World) (hok:lK b0 b1 aY aZ l10 aX) (hk:k≠0∧k≠1) :
  Calls Tryz.prog 138 #[.agg #[.int .i64 b0,.int .i64 b1,.int .i64 aY,.int .i64 aZ,.int .i64 l10,.int .i64 aX],.int .i64 k,.int .i64 p,.int .i64 n] w fun e w'=>e=.returned (.tuple #[.agg #[.int .i64 0,.int .i64 0,.int .i64 0,.int .i64 0,.int .i64 0,.int .i64 0],.int .i64 1])∧Below w.heap.size w w':=by
 have H:=hid hok
 have HK:=hid hk
 clear hok hk
 go_enter Tryz.func138,Tryz.ntmps138
 go_wp2_with fail
 refine (AV b0 b1 aY aZ l10 aX k p n _ H.out HK.out).mono ?_
 rintro e w1 ⟨rfl,rfl⟩
 go_wp2
 go_returns
 exact ⟨rfl,by go_grown⟩
theorem H8 (b0 b1 aY aZ l10 aX k p n:Int) (w:World) (hok:lK b0 b1 aY aZ l10 aX) (hk:k≠0∧k≠1) :
  Calls Tryz.prog 140 #[.agg #[.int .i64 b0,.int .i64 b1,.int .i64 aY,.int .i64 aZ,.int .i64 l10,.int .i64 aX],.int .i64 k,.int .i64 p,.int .i64 n] w fun e w'=>e=.returned (.tuple #[.agg #[.int .i64 0,.int .i64 0,.int .i64 0,.int .i64 0,.int .i64 0,.int .i64 0],.int .i64 1])∧Below w.heap.size w w':=by
 have H:=hid hok
 have HK:=hid hk
 clear hok hk
 go_enter Tryz.func140,Tryz.ntmps140
 go_wp2_with fail
 refine (DI b0 b1 aY aZ l10 aX k p n _ H.out HK.out).mono ?_
 rintro e w1 ⟨rfl,rfl⟩
 go_wp2
 go_returns
 exact ⟨rfl,by go_grown⟩
theorem EJ (b0 b1 aY aZ l10 aX k p n:Int) (w:World) (hok:lK b0 b1 aY aZ l10 aX) (hk:k≠0∧k≠1) :
  Calls Tryz.prog 139 #[.agg #[.int .i64 b0,.int .i64 b1,.int .i64 aY,.int .i64 aZ,.int .i64 l10,.int .i64 aX],.int .i64 k,.int .i64 p,.int .i64 n] w fun e w'=>e=.returned (.tuple #[.agg #[.int .i64 0,.int .i64 0,.int .i64 0,.int .i64 0,.int .i64 0,.int .i64 0],.int .i64 1])∧Below w.heap.size w w':=by
 have H:=hid hok
 have HK:=hid hk
 clear hok hk
 go_enter Tryz.func139,Tryz.ntmps139
 go_wp2_with fail
 refine (DI b0 b1 aY aZ l10 aX k p n _ H.out HK.out).mono ?_
 rintro e w1 ⟨rfl,rfl⟩
 go_wp2
 go_returns
 exact ⟨rfl,by go_grown⟩
theorem zi (b0 b1 aY aZ l10 aX n:Int) (w:World) (hok:lK b0 b1 aY aZ l10 aX) (hn0:0≤n) (hn1:n≤400) (h:(b0 != 1)=true) :
  Calls Tryz.prog 140 #[.agg #[.int .i64 b0,.int .i64 b1,.int .i64 aY,.int .i64 aZ,.int .i64 l10,.int .i64 aX],.int .i64 0,.int .i64 0,.int .i64 n] w (fun e w'=>e=.returned (.tuple #[.agg #[.int .i64 0,.int .i64 0,.int .i64 0,.int .i64 0,.int .i64 0,.int .i64 0],.int .i64 10])∧Below w.heap.size w w'):=by
 have H:=hid hok
 clear hok
 go_enter Tryz.func140,Tryz.ntmps140
 go_wp2_with fail
 refine (tX b0 b1 aY aZ l10 aX n _ H.out hn0 hn1 h).mono ?_
 rintro e w1 ⟨rfl,rfl⟩
 go_wp2
 go_returns
 exact ⟨rfl,by go_grown⟩
theorem zk (b0 b1 aY aZ l10 aX n:Int) (w:World) (hok:lK b0 b1 aY aZ l10 aX) (hn0:0≤n) (hn1:n≤400) (h:(b0 != 0)=true) :
  Calls Tryz.prog 140 #[.agg #[.int .i64 b0,.int .i64 b1,.int .i64 aY,.int .i64 aZ,.int .i64 l10,.int .i64 aX],.int .i64 0,.int .i64 1,.int .i64 n] w (fun e w'=>e=.returned (.tuple #[.agg #[.int .i64 0,.int .i64 0,.int .i64 0,.int .i64 0,.int .i64 0,.int .i64 0],.int .i64 10])∧Below w.heap.size w w'):=by
 have H:=hid hok
 clear hok
 go_enter Tryz.func140,Tryz.ntmps140
 go_wp2_with fail
 refine (tY b0 b1 aY aZ l10 aX n _ H.out hn0 hn1 h).mono ?_
 rintro e w1 ⟨rfl,rfl⟩
 go_wp2
 go_returns
 exact ⟨rfl,by go_grown⟩
theorem EK (b0 b1 aY aZ l10 aX n:Int) (w:World) (hok:lK b0 b1 aY aZ l10 aX) (hn0:0≤n) (hn1:n≤400) (h:(b1 != 1)=false) :
  Calls Tryz.prog 140 #[.agg #[.int .i64 b0,.int .i64 b1,.int .i64 aY,.int .i64 aZ,.int .i64 l10,.int .i64 aX],.int .i64 1,.int .i64 0,.int .i64 n] w (fun e w'=>e=.returned (.tuple #[.agg #[.int .i64 (-1),.int .i64 (-1),.int .i64 aY,.int .i64 aZ,.int .i64 l10,.int .i64 aX],.int .i64 0])∧Below w.heap.size w w'):=by
 have H:=hid hok
 clear hok
 go_enter Tryz.func140,Tryz.ntmps140
 go_wp2_with fail
 refine (AQ b0 b1 aY aZ l10 aX n _ H.out hn0 hn1 h).mono ?_
 rintro e w1 ⟨rfl,rfl⟩
 go_wp2
 go_returns
 exact ⟨rfl,by go_grown⟩
theorem zl (b0 b1 aY aZ l10 aX n:Int) (w:World) (hok:lK b0 b1 aY aZ l10 aX) (hn0:0≤n) (hn1:n≤400) (h:(b1 != 1)=true) :
  Calls Tryz.prog 140 #[.agg #[.int .i64 b0,.int .i64 b1,.int .i64 aY,.int .i64 aZ,.int .i64 l10,.int .i64 aX],.int .i64 1,.int .i64 0,.int .i64 n] w (fun e w'=>e=.returned (.tuple #[.agg #[.int .i64 0,.int .i64 0,.int .i64 0,.int .i64 0,.int .i64 0,.int .i64 0],.int .i64 10])∧Below w.heap.size w w'):=by
 have H:=hid hok
 clear hok
 go_enter Tryz.func140,Tryz.ntmps140
 go_wp2_with fail
 refine (tZ b0 b1 aY aZ l10 aX n _ H.out hn0 hn1 h).mono ?_
 rintro e w1 ⟨rfl,rfl⟩
 go_wp2
 go_returns
 exact ⟨rfl,by go_grown⟩
theorem EL (b0 b1 aY aZ l10 aX n:Int) (w:World) (hok:lK b0 b1 aY aZ l10 aX) (hn0:0≤n) (hn1:n≤400) (h:(b1 != 0)=false) :
  Calls Tryz.prog 140 #[.agg #[.int .i64 b0,.int .i64 b1,.int .i64 aY,.int .i64 aZ,.int .i64 l10,.int .i64 aX],.int .i64 1,.int .i64 1,.int .i64 n] w (fun e w'=>e=.returned (.tuple #[.agg #[.int .i64 (-1),.int .i64 (-1),.int .i64 aY,.int .i64 aZ,.int .i64 l10,.int .i64 aX],.int .i64 0])∧Below w.heap.size w w'):=by
 have H:=hid hok
 clear hok
 go_enter Tryz.func140,Tryz.ntmps140
 go_wp2_with fail
 refine (AU b0 b1 aY aZ l10 aX n _ H.out hn0 hn1 h).mono ?_
 rintro e w1 ⟨rfl,rfl⟩
 go_wp2
 go_returns
 exact ⟨rfl,by go_grown⟩
theorem zn (b0 b1 aY aZ l10 aX n:Int) (w:World) (hok:lK b0 b1 aY aZ l10 aX) (hn0:0≤n) (hn1:n≤400) (h:(b1 != 0)=true) :
  Calls Tryz.prog 140 #[.agg #[.int .i64 b0,.int .i64 b1,.int .i64 aY,.int .i64 aZ,.int .i64 l10,.int .i64 aX],.int .i64 1,.int .i64 1,.int .i64 n] w (fun e w'=>e=.returned (.tuple #[.agg #[.int .i64 0,.int .i64 0,.int .i64 0,.int .i64 0,.int .i64 0,.int .i64 0],.int .i64 10])∧Below w.heap.size w w'):=by
 have H:=hid hok
 clear hok
 go_enter Tryz.func140,Tryz.ntmps140
 go_wp2_with fail
 refine (uf b0 b1 aY aZ l10 aX n _ H.out hn0 hn1 h).mono ?_
 rintro e w1 ⟨rfl,rfl⟩
 go_wp2
 go_returns
 exact ⟨rfl,by go_grown⟩
theorem EM (a n:Int):(if n<a then n else a)=min a n:=by omega
theorem YE (b0 b1 aY aZ l10 aX n:Int) (w:World) (hok:lK b0 b1 aY aZ l10 aX) (hn0:0≤n) (hn1:n≤400) :
  Calls Tryz.prog 143 #[.agg #[.int .i64 b0,.int .i64 b1,.int .i64 aY,.int .i64 aZ,.int .i64 l10,.int .i64 aX],.int .i64 n] w (fun e w'=>e=.returned (.tuple #[.agg #[.int .i64 (-1),.int .i64 (-1),.int .i64 (min aY n),.int .i64 (min aZ n),.int .i64 (min l10 n),.int .i64 (min aX n)],.int .i64 0])∧Below w.heap.size w w'):=by
 have H:=hid hok
 clear hok
 have i0:=ix0
 have i1:=ix1
 have m00:=EM aY n
 have m01:=EM aZ n
 have m10:=EM l10 n
 have m11:=EM aX n
 generalize min aY n=x00 at *
 generalize min aZ n=x01 at *
 generalize min l10 n=x10 at *
 generalize min aX n=x11 at *
 go_enter Tryz.func143,Tryz.ntmps143
 go_wp2_with fail
 refine (check_any b0 b1 aY aZ l10 aX 0 0 n _).mono ?_
 rintro e w1 ⟨c,rfl,hc,rfl⟩
 obtain rfl:c=0:=hc.2 ⟨H.out,by unfold eH; omega⟩
 clear hc
 go_wp2
 refine wp_loop_rounds 3 ?_
 repeat any_goals (first | (rw [rounds_succ]; go_wp2) | (refine wp_loop_rounds 3 ?_))
 all_goals
  go_returns
  exact ⟨rfl,by go_grown⟩
end Go.Proofs.YtmabaojkignodaaGreatDoor.off
namespace Go.Proofs.YtmabaojkignodaaGreatDoor
open Go.ChangeShapes Go.WideShapes Go.ChangeAt Go.RowKit
set_option linter.unusedVariables false
theorem Box.mid {w:World} {b:Nat} {cs:List Value} {t:TypeId} (h:Box w b cs t) (o:Nat) {l:List Value} (hl:(cs.drop o).take l.length=l):w.rangeAt b o l:=fun j v hv=>by
 refine h.cell (o+j) ?_
 rw [← hl,List.getElem?_take] at hv
 split at hv
 ·rwa [List.getElem?_drop] at hv
 ·cases hv
theorem Box.has {w:World} {b:Nat} {cs:List Value} {t:TypeId} (h:Box w b cs t) (o n:Nat) (hn:o+n≤cs.length):w.there b o n:=fun j hj=>by
 refine ⟨?_,h.frozen (o+j)⟩
 rw [h.cell (o+j) (v:=cs[o+j]'(by omega)) (List.getElem?_eq_getElem (by omega))]; rfl
def splice (cs:List Value) (o:Nat) (vs:List Value):List Value:=cs.take o++vs++cs.drop (o+vs.length)
theorem qQ (b:Nat):∀ (vs cs:List Value) (o:Nat) (w:World) (t:TypeId),o+vs.length≤cs.length→Box w b cs t→Box (w.setCells b o vs) b (splice cs o vs) t
 | [],cs,o,w,t,hl,h=>by
  have e:splice cs o []=cs:=by simp [splice]
  rw [e]; exact h
 | v :: vs,cs,o,w,t,hl,h=>by
  have h1:Box (w.setCell ⟨b,o,none⟩ v) b (cs.set o v) t:=h.set o v
  have h2:=qQ b vs (cs.set o v) (o+1) (w.setCell ⟨b,o,none⟩ v) t (by simp at hl ⊢; omega) h1
  have e:splice (cs.set o v) (o+1) vs=splice cs o (v :: vs):=by
   have ho:o<cs.length:=by simp at hl; omega
   unfold splice
   rw [List.drop_set_of_lt (by omega)]
   have:(cs.set o v).take (o+1)=cs.take o++[v]:=by
    rw [List.take_succ_eq_append_getElem (by simpa using ho),List.getElem_set_self,List.take_set_of_le (Nat.le_refl _)]
   rw [this]
   rw [List.append_assoc,List.append_assoc]
   simp only [List.singleton_append,List.length_cons,List.append_assoc,List.cons_append,List.nil_append]
   rw [show o+1+vs.length=o+(vs.length+1) by omega]
  rw [e] at h2
  exact h2
theorem Box.Q8 {w:World} {b:Nat} {cs vs cs':List Value} {t:TypeId} (h:Box w b cs t) (o:Nat) (hl:o+vs.length≤cs.length) (he:splice cs o vs=cs'):Box (w.setCells b o vs) b cs' t:=he ▸ qQ b vs cs o w t hl h
end Go.Proofs.YtmabaojkignodaaGreatDoor
namespace Go.Proofs.YtmabaojkignodaaGreatDoor
open Go.ChangeShapes Go.WideShapes Go.ChangeAt Go.RowKit
set_option linter.unusedVariables false
open Go.Lib (hid)
theorem AX (v:Value) (zs:List Int) (p:Int→Bool) (f:FuncId) (caps:Array Value) (w:World) (h:kM w v zs) (hf:∀ (args:Array Value) (w:World),(callFunc f args).run Tryz.prog w=.ok (.enter f args) w)
  (hc:∀ (W:World) (z:Int),z∈zs→Below w.heap.size w W→Calls Tryz.prog f (#[.int .i64 z]++caps) W fun e w'=>e=.returned (.bool (p z))∧Below W.heap.size W w') :
  Calls Tryz.prog 173 #[v,.func (.func f) #[] caps] w fun e w'=>e=.returned (.int .i64 (uo p zs 0))∧Below w.heap.size w w':=by
 obtain ⟨a,c,rfl,h1,h2⟩:=h.form
 unfold maxLen at h2
 have HR:=hid h
 have HC:=hid hc
 clear h hc
 go_enter Tryz.func173,Tryz.ntmps173
 go_wp2_with fail
 go_loopw [8] (fun i wr=>∃ k:Nat,k≤zs.length∧i=.int .i64 k∧Hid (uo p zs 0=uo p (zs.drop k) k)∧Below w.heap.size w wr) (fun i _=>zs.length - (intOf i).toNat)
 case atStart=>exact ⟨0,Nat.zero_le _,rfl,hid rfl,Below.refl _ _⟩
 case round =>
  obtain ⟨k,hk,rfl,HK,hbl⟩:=hrel
  by_cases hlt:k<zs.length
  ·obtain ⟨g,o,rfl,hcell⟩:=eU (HR.out.below hbl (Nat.le_refl _)) (by omega)
   have ck:=hcell k hlt
   have HS:=hid (Di p zs k hlt)
   have FT:=hid (HC.out wr (zs.getD k 0) (by rw [List.getD_eq_getElem?_getD,List.getElem?_eq_getElem hlt]; exact List.getElem_mem hlt) hbl)
   have HB:=hid hbl
   clear hcell hbl
   generalize zs.getD k 0=z at *
   go_wp2_with fail
   refine FT.out.mono ?_
   rintro e w1 ⟨rfl,hb1⟩
   have HB1:=hid (aj HB.out hb1 HB.out.size)
   clear hb1
   cases hp:p z
   ·go_wp2_with fail
    go_roundw
    case rel=>exact ⟨k+1,by omega,by go_num,hid (by rw [HK.out,HS.out,if_neg (by simp [hp])]),HB1.out⟩
    case measure=>simp [intOf]; omega
   ·go_wp2_with fail
    go_ret
    exact ⟨by rw [HK.out,HS.out,if_pos hp]; rfl,HB1.out⟩
  ·obtain rfl:k=zs.length:=by omega
   go_wp2_with fail
   go_ret
   exact ⟨by rw [HK.out]; simp [uo],hbl⟩
theorem kG (v:Value) (zs:List Int) (p:Int→Bool) (f:FuncId) (caps:Array Value) (w:World) (h:kM w v zs) (hf:∀ (args:Array Value) (w:World),(callFunc f args).run Tryz.prog w=.ok (.enter f args) w)
  (hc:∀ (W:World) (z:Int),z∈zs→Below w.heap.size w W→Calls Tryz.prog f (#[.int .i64 z]++caps) W fun e w'=>e=.returned (.bool (p z))∧Below W.heap.size W w') :
  Calls Tryz.prog 122 #[v,.func (.func f) #[] caps] w fun e w'=>e=.returned (.bool (zs.any p))∧Below w.heap.size w w':=by
 have HI:=hid (AX v zs p f caps w h hf hc)
 have HA:=hid (zU p zs 0 (by omega))
 clear h hc hf
 go_enter Tryz.func122,Tryz.ntmps122
 go_wp2_with fail
 refine HI.out.mono ?_
 rintro e w' ⟨rfl,hb⟩
 have HB:=hid hb
 clear hb
 go_wp2_with fail
 go_ret
 exact ⟨by rw [← HA.out]; rfl,HB.out⟩
end Go.Proofs.YtmabaojkignodaaGreatDoor

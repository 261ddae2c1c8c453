/- TrChange, TrRatGame, TrRatAll, TrSum, TsStA, TsStB, TsStP. -/
import Derived.Test.YteablcielclaeaaGreatDoorC35
import Derived.Sort.LotA
namespace Go.Proofs.YteablcielclaeaaGreatDoor
open Go.ChangeShapes Go.WideShapes Go.ChangeAt Go.RowKit
set_option linter.unusedVariables false
open Go.Lib (hid)
def nM (n:Int):Bool:=decide (n < -1000000∨1000000<n)
theorem Hf {n:Int} (h:n < -1000000∨1000000<n):nM n=true:=by unfold nM; simpa using h
theorem lV {n:Int} (h:nM n=false) : -1000000≤n∧n≤1000000:=by unfold nM at h; simp at h; exact h
theorem pR (n:Int) (w:World) :
  Calls Tryz.prog 109 #[.int .i64 n] w fun e w'=>e=.returned (.bool (nM n))∧w=w':=by
 by_cases h1:n < -1000000
 ·have H:=hid (Hf (Or.inl h1))
  go_enter Tryz.func109,Tryz.ntmps109
  go_wp2
  go_ret
  exact ⟨by rw [H.out]; rfl,rfl⟩
 ·by_cases h2:1000000<n
  ·have H:=hid (Hf (Or.inr h2))
   go_enter Tryz.func109,Tryz.ntmps109
   go_wp2
   go_ret
   exact ⟨by rw [H.out]; rfl,rfl⟩
  ·have H:=hid (show nM n=false by unfold nM; rw [decide_eq_false_iff_not]; omega)
   go_enter Tryz.func109,Tryz.ntmps109
   go_wp2
   go_ret
   exact ⟨by rw [H.out]; rfl,rfl⟩
def eP (a b p f:Int):Int×Int:=
 if nM a=true∨nM b=true then (0,4) else if p<0∨2<p then (0,1) else if f<1∨64<f then (0,4) else (f * (50 * p - expect (a - b)),0)
set_option maxHeartbeats 1000000 in
theorem Qi (a b p f:Int) (w:World) :
  Calls Tryz.prog 110 #[.int .i64 a,.int .i64 b,.int .i64 p,.int .i64 f] w fun e w'=>e=.returned (.tuple #[.int .i64 (eP a b p f).1,.int .i64 (eP a b p f).2])∧w=w':=by
 by_cases ha:nM a=true
 ·have H:=hid (show eP a b p f=(0,4) by unfold eP; rw [if_pos (Or.inl ha)])
  go_enter Tryz.func110,Tryz.ntmps110
  go_wp2_with (go_at_call 109; refine (pR _ _).mono ?_; rintro e w' ⟨rfl,rfl⟩)
  go_ret2
  exact ⟨by rw [H.out]; rfl,rfl⟩
 ·have ha':nM a=false:=by simpa using ha
  clear ha
  by_cases hb:nM b=true
  ·have H:=hid (show eP a b p f=(0,4) by unfold eP; rw [if_pos (Or.inr hb)])
   go_enter Tryz.func110,Tryz.ntmps110
   go_wp2_with (go_at_call 109; refine (pR _ _).mono ?_; rintro e w' ⟨rfl,rfl⟩)
   go_ret2
   exact ⟨by rw [H.out]; rfl,rfl⟩
  ·have hb':nM b=false:=by simpa using hb
   clear hb
   have hn:¬ (nM a=true∨nM b=true):=by simp [ha',hb']
   have a1:=lV ha'
   have b1:=lV hb'
   by_cases hp:p<0
   ·have H:=hid (show eP a b p f=(0,1) by unfold eP; rw [if_neg hn,if_pos (Or.inl hp)])
    clear hn
    go_enter Tryz.func110,Tryz.ntmps110
    go_wp2_with (go_at_call 109; refine (pR _ _).mono ?_; rintro e w' ⟨rfl,rfl⟩)
    go_ret2
    exact ⟨by rw [H.out]; rfl,rfl⟩
   ·by_cases hp2:2<p
    ·have H:=hid (show eP a b p f=(0,1) by unfold eP; rw [if_neg hn,if_pos (Or.inr hp2)])
     clear hn
     go_enter Tryz.func110,Tryz.ntmps110
     go_wp2_with (go_at_call 109; refine (pR _ _).mono ?_; rintro e w' ⟨rfl,rfl⟩)
     go_ret2
     exact ⟨by rw [H.out]; rfl,rfl⟩
    ·by_cases hf:f<1
     ·have H:=hid (show eP a b p f=(0,4) by unfold eP; rw [if_neg hn,if_neg (by omega),if_pos (Or.inl hf)])
      clear hn
      go_enter Tryz.func110,Tryz.ntmps110
      go_wp2_with (go_at_call 109; refine (pR _ _).mono ?_; rintro e w' ⟨rfl,rfl⟩)
      go_ret2
      exact ⟨by rw [H.out]; rfl,rfl⟩
     ·by_cases hf2:64<f
      ·have H:=hid (show eP a b p f=(0,4) by unfold eP; rw [if_neg hn,if_neg (by omega),if_pos (Or.inr hf2)])
       clear hn
       go_enter Tryz.func110,Tryz.ntmps110
       go_wp2_with (go_at_call 109; refine (pR _ _).mono ?_; rintro e w' ⟨rfl,rfl⟩)
       go_ret2
       exact ⟨by rw [H.out]; rfl,rfl⟩
      ·have H:=hid (show eP a b p f=(f * (50 * p - expect (a - b)),0) by unfold eP; rw [if_neg hn,if_neg (by omega),if_neg (by omega)])
       clear hn
       have he:=Nv (a - b)
       have hm:f * (50 * p - expect (a - b))≤64 * 200:=Int.le_trans (Int.mul_le_mul_of_nonneg_left (by omega:50 * p - expect (a - b)≤200) (by omega)) (by omega)
       have hm2 : -(64 * 200)≤f * (50 * p - expect (a - b)):=Int.le_trans (by omega) (Int.mul_le_mul_of_nonneg_left (by omega : -200≤50 * p - expect (a - b)) (by omega))
       go_enter Tryz.func110,Tryz.ntmps110
       go_wp2_with (first | (go_at_call 109; refine (pR _ _).mono ?_; rintro e w' ⟨rfl,rfl⟩) | (go_at_call 157; refine (Qh _ _ (by omega) (by omega)).mono ?_; rintro e w' ⟨rfl,rfl⟩))
       go_ret2
       exact ⟨by rw [H.out]; rfl,rfl⟩
end Go.Proofs.YteablcielclaeaaGreatDoor
namespace Go.Proofs.YteablcielclaeaaGreatDoor
open Go.ChangeShapes Go.WideShapes Go.ChangeAt Go.RowKit
set_option linter.unusedVariables false
set_option maxHeartbeats 1000000
set_option maxRecDepth 100000
open Go.Lib (hid)
theorem ab2 (args:Array Value) (w:World):(callFunc 109 args).run Tryz.prog w=.ok (.enter 109 args) w:=by kernel_rfl
def dR (zs:List Int):Int:=if zs.length<1∨64<zs.length then 2 else if zs.any nM=true then 4 else 0
theorem dP (v:Value) (zs:List Int) (w:World) (h:iJ w v zs) :
  Calls Tryz.prog 64 #[v] w fun e w'=>e=.returned (.int .i64 (dR zs))∧w=w':=by
 obtain ⟨a,c,rfl,h1,h2⟩:=h.form
 unfold maxLen at h2
 have HC:=hid (lH _ zs nM 109 #[] w h ab2 (fun z _=>pR z w))
 clear h
 by_cases hb:zs.length<1∨64<zs.length
 ·have HR:=hid (show dR zs=2 by unfold dR; rw [if_pos hb])
  clear HC
  rcases hb with hb | hb
  all_goals
   go_enter Tryz.func64,Tryz.ntmps64
   go_wp2
   go_ret
   exact ⟨by rw [HR.out]; rfl,rfl⟩
 ·have HR:=hid (show dR zs=if zs.any nM=true then 4 else 0 by unfold dR; rw [if_neg hb])
  have b1:1≤zs.length:=by omega
  have b2:zs.length≤64:=by omega
  clear hb
  go_enter Tryz.func64,Tryz.ntmps64
  go_wp2_with fail
  refine HC.out.mono ?_
  rintro e w' ⟨rfl,rfl⟩
  cases ha:zs.any nM
  all_goals
   go_wp2
   go_ret
   exact ⟨by rw [HR.out,ha]; rfl,rfl⟩
structure cu where
 fst:Int
 snd:Int
 pts:Int
def cu.val (g:cu):Value:=.agg #[.int .i64 g.fst,.int .i64 g.snd,.int .i64 g.pts]
def Fq (n:Nat) (g:cu):Bool:=decide (g.fst<0) || decide ((n:Int)≤g.fst) || decide (g.snd<0) || decide ((n:Int)≤g.snd) || g.fst == g.snd
def fF (zs:List Int) (g:cu) (f:Int):Int×Int:=if Fq zs.length g=true then (0,3) else eP (zs.getD g.fst.toNat 0) (zs.getD g.snd.toNat 0) g.pts f
def ab3 (r:Int×Int) (w:World) (e:Ending) (w':World):Prop:=e=.returned (.tuple #[.int .i64 r.1,.int .i64 r.2])∧Below w.heap.size w w'
theorem EC (v:Value) (zs:List Int) (g:cu) (f:Int) (w:World) (h:iJ w v zs) :
  Calls Tryz.prog 65 #[v,g.val,.int .i64 f] w (ab3 (fF zs g f) w):=by
 obtain ⟨a,c,rfl,h1,h2⟩:=h.form
 unfold maxLen at h2
 obtain ⟨x,y,p⟩:=g
 unfold cu.val
 simp only
 by_cases hb:Fq zs.length ⟨x,y,p⟩=true
 ·have HR:=hid (show fF zs ⟨x,y,p⟩ f=(0,3) by unfold fF; rw [if_pos hb])
  have hb':x<0∨(0≤x∧(zs.length:Int)≤x)∨(0≤x∧x<zs.length∧y<0)∨(0≤x∧x<zs.length∧0≤y∧(zs.length:Int)≤y)∨(0≤x∧x<zs.length∧0≤y∧y<zs.length∧x=y):=by
   simp [Fq] at hb; omega
  clear hb h
  rcases hb' with q | ⟨q1,q2⟩ | ⟨q1,q2,q3⟩ | ⟨q1,q2,q3,q4⟩ | ⟨q1,q2,q3,q4,rfl⟩
  all_goals
   go_enter Tryz.func65,Tryz.ntmps65
   go_wp2
   go_ret2
   exact ⟨by rw [HR.out]; rfl,by go_grown⟩
 ·have HR:=hid (show fF zs ⟨x,y,p⟩ f=eP (zs.getD x.toNat 0) (zs.getD y.toNat 0) p f by unfold fF; rw [if_neg hb])
  have hb':0≤x∧x<zs.length∧0≤y∧y<zs.length∧¬ x=y:=by
   simp [Fq] at hb; omega
  clear hb
  obtain ⟨q1,q2,q3,q4,q5⟩:=hb'
  obtain ⟨i,rfl⟩:∃ i:Nat,x=(i:Int):=⟨x.toNat,by omega⟩
  obtain ⟨j,rfl⟩:∃ i:Nat,y=(i:Int):=⟨y.toNat,by omega⟩
  obtain ⟨g,o,c',he,_,_,hg,hcell⟩:=h.some (by omega)
  simp only [Value.slice.injEq] at he
  obtain ⟨rfl,_,rfl⟩:=he
  have ci:=hcell i (by omega)
  have cj:=hcell j (by omega)
  simp only [Int.toNat_natCast] at HR
  have q6:i<zs.length:=by omega
  have q7:j<zs.length:=by omega
  have q8:(((i:Int)) == (j:Int))=false:=by simpa using q5
  have HCh:=hid (fun w=>Qi (zs.getD i 0) (zs.getD j 0) p f w)
  clear hcell h q5
  generalize zs.getD i 0=zi at *
  generalize zs.getD j 0=zj at *
  generalize eP zi zj p f=r at *
  go_enter Tryz.func65,Tryz.ntmps65
  go_wp2_with fail
  have hbel:Below w.heap.size w (w.alloc (.cells #[.int .i64 (i:Int),.int .i64 (j:Int),.int .i64 p] 33)):=by go_grown
  have d0:(w.alloc (.cells #[.int .i64 (i:Int),.int .i64 (j:Int),.int .i64 p] 33)).cell? ⟨w.heap.size,0,none⟩=some (.int .i64 (i:Int)):=by go_simp
  have d1:(w.alloc (.cells #[.int .i64 (i:Int),.int .i64 (j:Int),.int .i64 p] 33)).cell? ⟨w.heap.size,1,none⟩=some (.int .i64 (j:Int)):=by go_simp
  have d2:(w.alloc (.cells #[.int .i64 (i:Int),.int .i64 (j:Int),.int .i64 p] 33)).cell? ⟨w.heap.size,2,none⟩=some (.int .i64 p):=by go_simp
  have d3:(w.alloc (.cells #[.int .i64 (i:Int),.int .i64 (j:Int),.int .i64 p] 33)).cell? ⟨g,o+i,none⟩=some (.int .i64 zi):=by go_simp
  have d4:(w.alloc (.cells #[.int .i64 (i:Int),.int .i64 (j:Int),.int .i64 p] 33)).cell? ⟨g,o+j,none⟩=some (.int .i64 zj):=by go_simp
  generalize (w.alloc (.cells #[.int .i64 (i:Int),.int .i64 (j:Int),.int .i64 p] 33))=W at *
  clear ci cj
  go_quiet ((go_at_call 110; exact FC HCh.out))
  go_wp2
  go_ret2
  exact ⟨by rw [HR.out]; rfl,below_drewN hbel _⟩
def Ac (n a b:Int):Int:=min (min (max (max n (-1000000 - a)) (b - 1000000)) (1000000 - a)) (b+1000000)
def AP (zs:List Int) (i j:Nat) (n:Int):List Int:=(zs.set i (zs.getD i 0+n)).set j (zs.getD j 0 - n)
def iy (zs:List Int) (g:cu) (f:Int):List Int×Int:=
 if dR zs≠0 then ([],dR zs) else if (fF zs g f).2≠0 then ([],(fF zs g f).2)
 else (AP zs g.fst.toNat g.snd.toNat (Ac (fF zs g f).1 (zs.getD g.fst.toNat 0) (zs.getD g.snd.toNat 0)),0)
def RY (r:List Int×Int) (w:World) (e:Ending) (w':World):Prop:=
 ∃ v',e=.returned (.tuple #[v',.int .i64 r.2])∧w'.ownsRow w.heap.size 3 1 v' r.1.length (ints r.1)∧Below w.heap.size w w'
theorem Va (a b p f:Int) (h:(eP a b p f).2=0):(-1000000≤a∧a≤1000000)∧(-1000000≤b∧b≤1000000)∧-6400≤(eP a b p f).1∧(eP a b p f).1≤6400:=by
 unfold eP at h ⊢
 split at h
 ·cases h
 ·rename_i h1
  split at h
  ·cases h
  ·rename_i h2
   split at h
   ·cases h
   ·rename_i h3
    rw [if_neg h1,if_neg h2,if_neg h3]
    have q1:=lV (Bool.eq_false_iff.2 fun q=>h1 (Or.inl q))
    have q2:=lV (Bool.eq_false_iff.2 fun q=>h1 (Or.inr q))
    have q3:=Nv (a - b)
    have q4:1≤f∧f≤64:=by omega
    have q5 : -100≤50 * p - expect (a - b)∧50 * p - expect (a - b)≤100:=by omega
    refine ⟨q1,q2,?_,?_⟩
    ·simp only
     generalize 50 * p - expect (a - b)=t at *
     have:f * (-100)≤f * t:=Int.mul_le_mul_of_nonneg_left (by omega) (by omega)
     omega
    ·simp only
     generalize 50 * p - expect (a - b)=t at *
     have:f * t≤f * 100:=Int.mul_le_mul_of_nonneg_left (by omega) (by omega)
     omega
theorem Zi (v:Value) (zs:List Int) (g:cu) (f:Int) (w:World) (h:iJ w v zs) :
  Calls Tryz.prog 23 #[v,g.val,.int .i64 f] w (RY (iy zs g f) w):=by
 obtain ⟨i0,hi,hz0,hz1,hz2⟩:=info_parts info3
 have hW:Below w.heap.size w (w.alloc (.cells #[.int .i64 g.fst,.int .i64 g.snd,.int .i64 g.pts] 33)):=by go_grown
 have H0:=hid (h.below hW (Nat.le_refl _))
 by_cases hc:dR zs=0
 ·have hlen:1≤zs.length∧zs.length≤64:=by
   unfold dR at hc
   split at hc
   ·cases hc
   ·omega
  obtain ⟨gb,o,c,rfl,h1,h2,hgb,hcell⟩:=h.some (by omega)
  unfold maxLen at h2
  by_cases hg:(fF zs g f).2=0
  ·have hbad:Fq zs.length g=false:=by
    cases hb:Fq zs.length g
    ·rfl
    ·unfold fF at hg; rw [if_pos hb] at hg; cases hg
   have hij:0≤g.fst∧g.fst<zs.length∧0≤g.snd∧g.snd<zs.length∧¬ g.fst=g.snd:=by
    simp [Fq] at hbad; omega
   have hcr:=Va (zs.getD g.fst.toNat 0) (zs.getD g.snd.toNat 0) g.pts f (by unfold fF at hg; rw [if_neg (by simp [hbad])] at hg; exact hg)
   have hcg:fF zs g f=eP (zs.getD g.fst.toNat 0) (zs.getD g.snd.toNat 0) g.pts f:=by unfold fF; rw [if_neg (by simp [hbad])]
   rw [← hcg] at hcr
   have HR:=hid (show iy zs g f=(AP zs g.fst.toNat g.snd.toNat (Ac (fF zs g f).1 (zs.getD g.fst.toNat 0) (zs.getD g.snd.toNat 0)),0) by unfold iy; rw [if_neg (by simpa using hc),if_neg (by simpa using hg)])
   have HCH:=hid (fun (w:World) (h:iJ w (.slice (some ⟨gb,o,none⟩) zs.length c) zs)=>EC _ zs g f w h)
   have HCK:=hid (dP _ zs _ H0.out)
   have NW:=hid (fun (w:World) (h:iJ w (.slice (some ⟨gb,o,none⟩) zs.length c) zs)=>lI _ zs w h (by omega))
   rw [hc] at HCK
   clear hc hbad hcg
   obtain ⟨x,y,p⟩:=g
   unfold cu.val at *
   simp only at *
   obtain ⟨q1,q2,q3,q4,q5⟩:=hij
   obtain ⟨i,rfl⟩:∃ i:Nat,x=(i:Int):=⟨x.toNat,by omega⟩
   obtain ⟨j,rfl⟩:∃ i:Nat,y=(i:Int):=⟨y.toNat,by omega⟩
   simp only [Int.toNat_natCast] at *
   have q6:i<zs.length:=by omega
   have q7:j<zs.length:=by omega
   have ci:=hcell i q6
   have cj:=hcell j q7
   clear hcell h
   generalize fF zs ⟨(i:Int),(j:Int),p⟩ f=r at *
   obtain ⟨rn,re⟩:=r
   simp only at hg hcr
   subst hg
   go_enter Tryz.func23,Tryz.ntmps23
   go_wp2_with fail
   refine HCK.out.mono ?_
   rintro e w' ⟨rfl,rfl⟩
   go_wp2_with fail
   refine (HCH.out _ H0.out).mono ?_
   rintro e w1 ⟨rfl,hb1⟩
   have ab4:Below w.heap.size w w1:=hW.trans (hb1.mono (by simp))
   have d0:w1.cell? ⟨w.heap.size,0,none⟩=some (.int .i64 (i:Int)):=(hb1.cell (p:=⟨w.heap.size,0,none⟩) (by simp)).trans (by go_simp)
   have d1:w1.cell? ⟨w.heap.size,1,none⟩=some (.int .i64 (j:Int)):=(hb1.cell (p:=⟨w.heap.size,1,none⟩) (by simp)).trans (by go_simp)
   have d3:w1.cell? ⟨gb,o+i,none⟩=some (.int .i64 (zs.getD i 0)):=(ab4.cell (p:=⟨gb,o+i,none⟩) hgb).trans ci
   have d4:w1.cell? ⟨gb,o+j,none⟩=some (.int .i64 (zs.getD j 0)):=(ab4.cell (p:=⟨gb,o+j,none⟩) hgb).trans cj
   have H1:=hid (H0.out.below hb1 (Nat.le_refl _))
   have hs1:w.heap.size+1≤w1.heap.size:=by have:=hb1.size; simpa using this
   clear hb1 ci cj
   generalize hzi:zs.getD i 0=zi at *
   generalize hzj:zs.getD j 0=zj at *
   go_wp2_with fail
   go_quiet (fail)
   have amM:=below_drewN ab4 nq
   have H1q:Hid (iJ (w1.drewN nq) (.slice (some ⟨gb,o,none⟩) zs.length c) zs):=H1
   have e0:(w1.drewN nq).cell? ⟨w.heap.size,0,none⟩=some (.int .i64 (i:Int)):=d0
   have e1:(w1.drewN nq).cell? ⟨w.heap.size,1,none⟩=some (.int .i64 (j:Int)):=d1
   have asK:w.heap.size+1≤(w1.drewN nq).heap.size:=hs1
   clear d0 d1 d3 d4 H1 ab4 hs1
   generalize w1.drewN nq=W at *
   have HF:Hid (∀ (w2:World) (G cap:Nat) (n:Int),n=Ac rn zi zj→w2.ownsRow W.heap.size 3 1 (.slice (some ⟨G,0,none⟩) zs.length cap) zs.length (ints zs)→Below w.heap.size w w2 →
     ∃ v',Ending.returned (.tuple #[.slice (some ⟨G,0,none⟩) zs.length cap,.int .i64 0])=.returned (.tuple #[v',.int .i64 (iy zs ⟨(i:Int),(j:Int),p⟩ f).2])∧((w2.setCell ⟨G,i,none⟩ (.int .i64 (zi+n))).setCell ⟨G,j,none⟩ (.int .i64 (zj - n))).ownsRow w.heap.size 3 1 v' (iy zs ⟨(i:Int),(j:Int),p⟩ f).1.length (ints (iy zs ⟨(i:Int),(j:Int),p⟩ f).1)∧Below w.heap.size w ((w2.setCell ⟨G,i,none⟩ (.int .i64 (zi+n))).setCell ⟨G,j,none⟩ (.int .i64 (zj - n)))):=hid (fun w2 G cap n hn ho hb2=>by
    refine ⟨_,by rw [HR.out],?_,(hb2.setCell (by have:=(ho.lt G rfl).1; simp; omega) _).setCell (by have:=(ho.lt G rfl).1; simp; omega) _⟩
    rw [HR.out]
    have:=own_base (ZR (i:=i) (j:=j) (x:=zi+n) (y:=zj - n) ho) (show w.heap.size≤W.heap.size by omega)
    simp only [AP,hzi,hzj,List.length_set]
    rw [← hn]
    exact this)
   clear HR
   go_wp2_with fail
   all_goals
    refine (NW.out _ H1q.out).mono ?_
    rintro e w2 ⟨v',rfl,hown2,hb2⟩
    obtain ⟨G,cap,rfl⟩:=dY hown2 (by omega)
    have k0:w2.cell? ⟨w.heap.size,0,none⟩=some (.int .i64 (i:Int)):=(hb2.cell (p:=⟨w.heap.size,0,none⟩) (by simp; omega)).trans e0
    have k1:w2.cell? ⟨w.heap.size,1,none⟩=some (.int .i64 (j:Int)):=(hb2.cell (p:=⟨w.heap.size,1,none⟩) (by simp; omega)).trans e1
    have k2:w2.cell? ⟨G,i,none⟩=some (.int .i64 zi):=by rw [← hzi]; exact (hown2.cellAt i (by omega)).trans (eY _ i (by omega))
    have k3:w2.cell? ⟨G,j,none⟩=some (.int .i64 zj):=by rw [← hzj]; exact (hown2.cellAt j (by omega)).trans (eY _ j (by omega))
    have f2:w2.frozen? ⟨G,i,none⟩=false:=hown2.frozenAt i
    have f3:w2.frozen? ⟨G,j,none⟩=false:=hown2.frozenAt j
    have hGl:=hown2.lt G rfl
    have n1:¬ G=w.heap.size:=by omega
    have n2:¬ w.heap.size=G:=by omega
    have n3:¬ i=j:=by omega
    have n4:¬ j=i:=by omega
    have hbw:Below w.heap.size w w2:=amM.trans (hb2.mono (by omega))
    have HO:=hid hown2
    have HZI:=hid hzi
    have HZJ:=hid hzj
    clear hown2 hb2 hzi hzj
    go_wp2_with fail
    go_ret2
    exact HF.out _ _ _ _ (by unfold Ac; omega) HO.out hbw
  ·have HR:=hid (show iy zs g f=([],(fF zs g f).2) by unfold iy; rw [if_neg (by simpa using hc),if_pos hg])
   have hg':((fF zs g f).2 != 0)=true:=by simpa using hg
   have HG:=hid hc
   have HCH:=hid (fun (w:World) (h:iJ w (.slice (some ⟨gb,o,none⟩) zs.length c) zs)=>EC _ zs g f w h)
   have HCK:=hid (dP _ zs _ H0.out)
   rw [hc] at HCK
   clear hg hc h hcell
   obtain ⟨x,y,p⟩:=g
   unfold cu.val at *
   simp only at *
   generalize fF zs ⟨x,y,p⟩ f=r at *
   go_enter Tryz.func23,Tryz.ntmps23
   go_wp2_with fail
   refine HCK.out.mono ?_
   rintro e w' ⟨rfl,rfl⟩
   go_wp2_with fail
   refine (HCH.out _ H0.out).mono ?_
   rintro e w1 ⟨rfl,hb1⟩
   go_wp2_with fail
   go_ret2
   exact ⟨_,by rw [HR.out]; rfl,by rw [HR.out]; exact World.ownsRow_nil _ _ _ _,hW.trans (hb1.mono (by simp))⟩
 ·have HR:=hid (show iy zs g f=([],dR zs) by unfold iy; rw [if_pos hc])
  have hc':(dR zs != 0)=true:=by simpa using hc
  have HCK:=hid (dP _ zs _ H0.out)
  clear hc h
  obtain ⟨x,y,p⟩:=g
  unfold cu.val at *
  simp only at *
  generalize dR zs=r at *
  go_enter Tryz.func23,Tryz.ntmps23
  go_wp2_with fail
  refine HCK.out.mono ?_
  rintro e w' ⟨rfl,rfl⟩
  go_wp2_with fail
  go_ret2
  exact ⟨_,by rw [HR.out]; rfl,by rw [HR.out]; exact World.ownsRow_nil _ _ _ _,hW⟩
end Go.Proofs.YteablcielclaeaaGreatDoor
namespace Go.Proofs.YteablcielclaeaaGreatDoor
open Go.ChangeShapes Go.WideShapes Go.ChangeAt Go.RowKit
set_option linter.unusedVariables false
open Go.Lib (hid)
def jK (gs:List cu):List Value:=gs.flatMap fun g=>[.int .i64 g.fst,.int .i64 g.snd,.int .i64 g.pts]
theorem Zj (gs:List cu) (k:Nat) (h:k<gs.length):(jK gs)[k * 3]?=some (.int .i64 gs[k].fst)∧(jK gs)[k * 3+1]?=some (.int .i64 gs[k].snd)∧(jK gs)[k * 3+2]?=some (.int .i64 gs[k].pts):=by
 induction gs generalizing k with
 | nil=>simp at h
 | cons g t ih =>
  cases k with
  | zero=>exact ⟨rfl,rfl,rfl⟩
  | succ k =>
   have:=ih k (by simpa using h)
   have e:(k+1) * 3=k * 3+3:=by omega
   rw [e]
   exact this
def ED (w:World) (v:Value) (gs:List cu):Prop:=Rd w 3 gs.length v (jK gs)
theorem ED.below {w w':World} {v:Value} {gs:List cu} {B:Nat} (h:ED w v gs) (hb:Below B w w') (hB:w.heap.size≤B):ED w' v gs:=Rd.below h hb hB
theorem ED.form {w:World} {v:Value} {gs:List cu} (h:ED w v gs):∃ a c,v=.slice a gs.length c∧gs.length≤c∧c≤maxLen ∧
  ∀ k (hk:k<gs.length),∃ g o,a=some ⟨g,o,none⟩∧g<w.heap.size∧w.cell? ⟨g,o+k * 3,none⟩=some (.int .i64 gs[k].fst)∧w.cell? ⟨g,o+k * 3+1,none⟩=some (.int .i64 gs[k].snd)∧w.cell? ⟨g,o+k * 3+2,none⟩=some (.int .i64 gs[k].pts):=by
 rcases h.2 with ⟨⟨a,c,h,hm⟩,hz⟩ | ⟨g,o,c,h',h1,h2,hc⟩
 ·exact ⟨a,c,by rw [h,hz],by omega,hm,fun k hk=>by omega⟩
 ·refine ⟨_,_,h',h1,h2,fun k hk=>⟨g,o,rfl,?_⟩⟩
  obtain ⟨q0,q1,q2⟩:=Zj gs k hk
  have e0:=(hc (k * 3) (by omega)).trans q0
  have e1:=(hc (k * 3+1) (by omega)).trans q1
  have e2:=(hc (k * 3+2) (by omega)).trans q2
  exact ⟨World.block_lt_of_cell? w _ e0,e0,e1,e2⟩
def kV (zs:List Int) (n:Nat):Int:=if dR zs≠0 then dR zs else if 256<n then 2 else 0
theorem Jz (v vg:Value) (zs:List Int) (gs:List cu) (w:World) (h:iJ w v zs) (hg:ED w vg gs) :
  Calls Tryz.prog 21 #[v,vg] w fun e w'=>e=.returned (.int .i64 (kV zs gs.length))∧w=w':=by
 obtain ⟨a,c,rfl,h1,h2,_⟩:=hg.form
 unfold maxLen at h2
 have HC:=hid (dP v zs w h)
 have HR:Hid (kV zs gs.length=if dR zs≠0 then dR zs else if 256<gs.length then 2 else 0):=hid rfl
 clear h hg
 generalize dR zs=r at *
 cases hr:(r != 0)
 ·have hr0:r=0:=by simpa using hr
  subst hr0
  clear hr
  by_cases hn:256<gs.length
  ·go_enter Tryz.func21,Tryz.ntmps21
   go_wp2_with fail
   refine HC.out.mono ?_
   rintro e w' ⟨rfl,rfl⟩
   go_wp2
   go_ret
   exact ⟨by rw [HR.out,if_neg (by simp),if_pos hn]; rfl,rfl⟩
  ·go_enter Tryz.func21,Tryz.ntmps21
   go_wp2_with fail
   refine HC.out.mono ?_
   rintro e w' ⟨rfl,rfl⟩
   go_wp2
   go_ret
   exact ⟨by rw [HR.out,if_neg (by simp),if_neg hn]; rfl,rfl⟩
 ·go_enter Tryz.func21,Tryz.ntmps21
  go_wp2_with fail
  refine HC.out.mono ?_
  rintro e w' ⟨rfl,rfl⟩
  go_wp2
  go_ret
  exact ⟨by rw [HR.out,if_pos (by simpa using hr)]; rfl,rfl⟩
def jL (f:Int):List Int→List cu→List Int×Int
 | zs,[]=>(zs,0)
 | zs,g :: t=>if (iy zs g f).2≠0 then ([],(iy zs g f).2) else jL f (iy zs g f).1 t
def vT (zs:List Int) (gs:List cu) (f:Int):List Int×Int:=if kV zs gs.length≠0 then ([],kV zs gs.length) else jL f zs gs
theorem Qj (f:Int) (zs:List Int) (gs:List cu) (k:Nat) (h:k<gs.length):jL f zs (gs.drop k)=if (iy zs gs[k] f).2≠0 then ([],(iy zs gs[k] f).2) else jL f (iy zs gs[k] f).1 (gs.drop (k+1)):=by
 rw [List.drop_eq_getElem_cons h,jL]
set_option maxHeartbeats 1000000 in
theorem Zk (v vg:Value) (zs:List Int) (gs:List cu) (f:Int) (w:World) (h:iJ w v zs) (hg:ED w vg gs) :
  Calls Tryz.prog 7 #[v,vg,.int .i64 f] w (RY (vT zs gs f) w):=by
 have HCA:=hid (Jz v vg zs gs w h hg)
 obtain ⟨a,c,rfl,h1,h2,hcells⟩:=hg.form
 unfold maxLen at h2
 have HG:=hid hcells
 have HI:=hid h
 by_cases hc:kV zs gs.length=0
 ·have hlen:zs.length≤64:=by
   unfold kV at hc
   split at hc
   ·contradiction
   ·rename_i hh
    have:dR zs=0:=by simpa using hh
    unfold dR at this
    split at this
    ·cases this
    ·omega
  have HR:=hid (show vT zs gs f=jL f zs gs by unfold vT; rw [if_neg (by simpa using hc)])
  rw [hc] at HCA
  clear hc h hg hcells
  go_enter Tryz.func7,Tryz.ntmps7
  go_wp2_with fail
  refine HCA.out.mono ?_
  rintro e w' ⟨rfl,rfl⟩
  go_wp2_with fail
  refine (lI v zs w HI.out (by omega)).mono ?_
  rintro e w1 ⟨v1,rfl,hown1,hb1⟩
  have HO:=hid hown1
  clear hown1
  go_wp2_with fail
  go_loopw [9,23] (fun x i wr=>∃ k:Nat,k≤gs.length∧i=.int .i64 k∧Hid (∃ zs',wr.ownsRow w.heap.size 3 1 x zs'.length (ints zs')∧jL f zs gs=jL f zs' (gs.drop k))∧Below w.heap.size w wr) (fun _ i _=>gs.length - (intOf i).toNat)
  case atStart=>exact ⟨0,Nat.zero_le _,rfl,hid ⟨zs,HO.out,rfl⟩,hb1⟩
  case round =>
   obtain ⟨k,hk,rfl,HK,hbl⟩:=hrel
   by_cases hlt:k<gs.length
   ·obtain ⟨gb,o,rfl,hgb,c0,c1,c2⟩:=HG.out k hlt
    have d0:=(hbl.cell (p:=⟨gb,o+k * 3,none⟩) hgb).trans c0
    have d1:=(hbl.cell (p:=⟨gb,o+k * 3+1,none⟩) hgb).trans c1
    have d2:=(hbl.cell (p:=⟨gb,o+k * 3+2,none⟩) hgb).trans c2
    clear c0 c1 c2
    obtain ⟨zs',hown,hfold⟩:=HK.out
    rw [Qj f zs' gs k hlt] at hfold
    have HF:=hid hfold
    have ET:=hid hown
    clear hown hfold HK HO
    have hsz:=hbl.size
    generalize gs[k]=gk at *
    have hba:Below w.heap.size w (wr.alloc (.cells #[.int .i64 gk.fst,.int .i64 gk.snd,.int .i64 gk.pts] 33)):=by go_grown
    have HGa:=hid (Zi _ zs' gk f _ (iJ.dL (ET.out.alloc (.cells #[.int .i64 gk.fst,.int .i64 gk.snd,.int .i64 gk.pts] 33))))
    obtain ⟨x,y,p⟩:=gk
    unfold cu.val at HGa
    simp only at *
    generalize iy zs' ⟨x,y,p⟩ f=r at *
    go_wp2_with fail
    refine HGa.out.mono ?_
    rintro e w2 ⟨v2,rfl,hown2,hb2⟩
    have hbw:Below w.heap.size w w2:=hba.trans (hb2.mono (by simp; omega))
    have qX:=hid (own_base hown2 (show w.heap.size≤(wr.alloc (.cells #[.int .i64 x,.int .i64 y,.int .i64 p] 33)).heap.size by simp; omega))
    clear hown2 hb2 ET HGa d0 d1 d2
    cases hr:(r.2 != 0)
    ·go_wp2_with fail
     go_roundw
     case rel=>exact ⟨k+1,by omega,by go_num,hid ⟨r.1,qX.out,by rw [HF.out,if_neg (by simpa using hr)]⟩,hbw⟩
     case measure=>simp [intOf]; omega
    ·go_wp2_with fail
     go_ret2
     exact ⟨_,by rw [HR.out,HF.out,if_pos (by simpa using hr)]; rfl,by rw [HR.out,HF.out,if_pos (by simpa using hr)]; exact World.ownsRow_nil _ _ _ _,hbw⟩
   ·obtain rfl:k=gs.length:=by omega
    obtain ⟨zs',hown,hfold⟩:=HK.out
    rw [List.drop_length,jL] at hfold
    have HF:=hid hfold
    have ET:=hid hown
    clear hown hfold
    go_wp2_with fail
    go_ret2
    exact ⟨_,by rw [HR.out,HF.out]; rfl,by rw [HR.out,HF.out]; exact ET.out,hbl⟩
 ·have HR:=hid (show vT zs gs f=([],kV zs gs.length) by unfold vT; rw [if_pos hc])
  have hr:(kV zs gs.length != 0)=true:=by simpa using hc
  generalize kV zs gs.length=r at *
  clear hc h hg hcells
  go_enter Tryz.func7,Tryz.ntmps7
  go_wp2_with fail
  refine HCA.out.mono ?_
  rintro e w' ⟨rfl,rfl⟩
  go_wp2_with fail
  go_ret2
  exact ⟨_,by rw [HR.out]; rfl,by rw [HR.out]; exact World.ownsRow_nil _ _ _ _,Below.refl _ _⟩
theorem EF (zs:List Int) (i j:Nat) (n:Int):(AP zs i j n).length=zs.length:=by simp [AP]
theorem Nw {zs:List Int} (h:zs.any nM=false) (i:Nat) : -1000000≤zs.getD i 0∧zs.getD i 0≤1000000:=by
 by_cases hi:i<zs.length
 ·rw [List.getD_eq_getElem?_getD,List.getElem?_eq_getElem hi]
  exact lV (List.any_eq_false.1 h _ (List.getElem_mem hi) |> fun q=>by simpa using q)
 ·rw [List.getD_eq_getElem?_getD,List.getElem?_eq_none (by omega)]; simp
theorem Ny {zs:List Int} (h:zs.any nM=false) (i:Nat) (x:Int) (hx : -1000000≤x∧x≤1000000):(zs.set i x).any nM=false:=by
 rw [List.any_eq_false] at h ⊢
 intro y hy
 rcases List.mem_or_eq_of_mem_set hy with q | q
 ·exact h y q
 ·subst q
  simp [nM]; omega
theorem AQ {zs:List Int}:dR zs=0↔1≤zs.length∧zs.length≤64∧zs.any nM=false:=by
 unfold dR
 split
 ·simp; omega
 ·split
  ·rename_i h; simp [h]
  ·rename_i h; simp only [Bool.not_eq_true] at h; simp [h]; omega
theorem Nz (zs:List Int) (g:cu) (f:Int) (h:(iy zs g f).2=0):dR (iy zs g f).1=0:=by
 unfold iy at h ⊢
 by_cases hc:dR zs=0
 ·rw [if_neg (by simpa using hc)] at h ⊢
  by_cases hg:(fF zs g f).2=0
  ·rw [if_neg (by simpa using hg)] at h ⊢
   simp only
   have hz:=AQ.1 hc
   have hi:=Nw hz.2.2 g.fst.toNat
   have hj:=Nw hz.2.2 g.snd.toNat
   rw [AQ,EF]
   refine ⟨hz.1,hz.2.1,?_⟩
   unfold AP
   generalize (fF zs g f).1=n
   generalize zs.getD g.fst.toNat 0=a at *
   generalize zs.getD g.snd.toNat 0=b at *
   refine Ny (Ny hz.2.2 _ _ ?_) _ _ ?_
   ·unfold Ac; omega
   ·unfold Ac; omega
  ·rw [if_pos hg] at h
   exact absurd h hg
 ·rw [if_pos hc] at h
  exact absurd h hc
theorem NC {f:Int} {zs:List Int} {g:cu} {t:List cu} (h:(iy zs g f).2=0):jL f zs (g :: t)=jL f (iy zs g f).1 t:=by
 rw [jL,if_neg (by simpa using h)]
theorem ND {f:Int} {zs:List Int} {g:cu} {t:List cu} (h:¬ (iy zs g f).2=0):jL f zs (g :: t)=([],(iy zs g f).2):=by
 rw [jL,if_pos h]
theorem AU (f:Int):∀ (gs:List cu) (zs:List Int),dR zs=0→(jL f zs gs).2=0→dR (jL f zs gs).1=0
 | [],zs,hz,_=>hz
 | g :: t,zs,hz,h=>by
  by_cases hg:(iy zs g f).2=0
  ·rw [NC hg] at h ⊢
   exact AU f t _ (Nz zs g f hg) h
  ·rw [ND hg] at h
   exact absurd h hg
theorem ab5 {zs:List Int} {gs:List cu} {f:Int} (h:¬ dR zs=0):vT zs gs f=([],dR zs):=by
 unfold vT kV
 simp [h]
def RZ (m:Int) (l:List Int):Prop:=∀ i:Nat,-m≤l.getD i 0∧l.getD i 0≤m
theorem Zl (l:List Int) (i j:Nat) (x:Int):(l.set i x).getD j 0=if i=j∧i<l.length then x else l.getD j 0:=by
 rw [List.getD_eq_getElem?_getD,List.getElem?_set,List.getD_eq_getElem?_getD]
 by_cases h:i=j
 ·subst h
  by_cases h2:i<l.length <;> simp [h2]
 ·simp [h]
theorem uK {zs:List Int} (h:dR zs=0):RZ 1000000 zs:=by
 intro i
 unfold dR at h
 split at h
 ·cases h
 ·split at h
  ·cases h
  ·rename_i hh
   simp only [Bool.not_eq_true] at hh
   by_cases hi:i<zs.length
   ·rw [List.getD_eq_getElem?_getD,List.getElem?_eq_getElem hi]
    exact lV (List.any_eq_false.1 hh _ (List.getElem_mem hi) |> fun q=>by simpa using q)
   ·rw [List.getD_eq_getElem?_getD,List.getElem?_eq_none (by omega)]; simp
theorem NG (l:List Int) (i:Nat) (x:Int) (h:i<l.length):(l.set i x).sum=l.sum - l.getD i 0+x:=by
 induction l generalizing i with
 | nil=>simp at h
 | cons a t ih =>
  cases i with
  | zero=>simp; omega
  | succ i =>
   have:=ih i (by simpa using h)
   simp only [List.set_cons_succ,List.sum_cons,List.getD_cons_succ] at this ⊢
   omega
theorem Vb (l:List Int) (i j:Nat) (n:Int) (hi:i<l.length) (hj:j<l.length) (hij:i≠j):(AP l i j n).sum=l.sum:=by
 unfold AP
 rw [NG _ _ _ (by simpa using hj),NG _ _ _ hi,Zl,if_neg (by omega)]
 omega
theorem Qk {zs:List Int} {g:cu} {f:Int} (h:(fF zs g f).2=0):g.fst.toNat<zs.length∧g.snd.toNat<zs.length∧g.fst.toNat≠g.snd.toNat:=by
 have hbad:Fq zs.length g=false:=by
  cases hb:Fq zs.length g
  ·rfl
  ·unfold fF at h; rw [if_pos hb] at h; cases h
 simp [Fq] at hbad
 omega
theorem Vd {zs:List Int} {g:cu} {f:Int} (h:(iy zs g f).2=0):(iy zs g f).1.length=zs.length∧(iy zs g f).1.sum=zs.sum:=by
 unfold iy at h ⊢
 by_cases hc:dR zs=0
 ·rw [if_neg (by simpa using hc)] at h ⊢
  by_cases hg:(fF zs g f).2=0
  ·rw [if_neg (by simpa using hg)]
   obtain ⟨q1,q2,q3⟩:=Qk hg
   exact ⟨EF _ _ _ _,Vb _ _ _ _ q1 q2 q3⟩
  ·rw [if_pos hg] at h
   exact absurd h hg
 ·rw [if_pos hc] at h
  exact absurd h hc
theorem Hg (f:Int):∀ (gs:List cu) (zs:List Int),(jL f zs gs).2=0→(jL f zs gs).1.length=zs.length∧(jL f zs gs).1.sum=zs.sum
 | [],zs,_=>⟨rfl,rfl⟩
 | g :: t,zs,h=>by
  by_cases hg:(iy zs g f).2=0
  ·rw [NC hg] at h ⊢
   obtain ⟨q1,q2⟩:=Hg f t _ h
   obtain ⟨q3,q4⟩:=Vd hg
   exact ⟨q1.trans q3,q2.trans q4⟩
  ·rw [ND hg] at h
   exact absurd h hg
theorem Zm {zs:List Int} {gs:List cu} {f:Int} (h:(vT zs gs f).2=0):dR zs=0∧(vT zs gs f).1.length=zs.length∧(vT zs gs f).1.sum=zs.sum∧dR (vT zs gs f).1=0:=by
 by_cases hz:dR zs=0
 ·unfold vT at h ⊢
  by_cases hc:kV zs gs.length=0
  ·rw [if_neg (by simpa using hc)] at h ⊢
   obtain ⟨q1,q2⟩:=Hg f gs zs h
   exact ⟨hz,q1,q2,AU f gs zs hz h⟩
  ·rw [if_pos hc] at h
   exact absurd h hc
 ·rw [ab5 hz] at h
  exact absurd h hz
theorem Ad (l:List Int) (k:Nat) (h:k<l.length):(l.take (k+1)).sum=(l.take k).sum+l.getD k 0:=by
 rw [List.take_succ_eq_append_getElem h,List.sum_append]
 simp [List.getD,List.getElem?_eq_getElem h]
theorem Zn {l:List Int} (h:RZ 1000000 l) (k:Nat) : -(1000000 * (k:Int))≤(l.take k).sum∧(l.take k).sum≤1000000 * (k:Int):=by
 induction k with
 | zero=>simp
 | succ k ih =>
  by_cases hk:k<l.length
  ·rw [Ad l k hk]
   have:=h k
   omega
  ·rw [List.take_of_length_le (by omega)]
   rw [List.take_of_length_le (by omega)] at ih
   omega
theorem ab6 {w:World} {b:Nat} {a:Option Addr} {n c:Nat} {l:List Int} (h:w.ownsRow b 3 1 (.slice a n c) n (ints l)) (hl:l.length=n) (k:Nat) (hk:k<n):∃ g,a=some ⟨g,0,none⟩∧w.cell? ⟨g,k,none⟩=some (.int .i64 (l.getD k 0)):=by
 obtain ⟨g,c',q⟩:=dY h (by omega)
 simp only [Value.slice.injEq,true_and] at q
 obtain ⟨rfl,rfl⟩:=q
 exact ⟨g,rfl,(h.cellAt k (by omega)).trans (eY _ k (by omega))⟩
theorem Ql (gs:List cu) (k:Nat):(jK gs).take (k * 3)=jK (gs.take k):=by
 induction gs generalizing k with
 | nil=>simp [jK]
 | cons g t ih =>
  cases k with
  | zero=>simp [jK]
  | succ k =>
   have e1:jK (g :: t)=.int .i64 g.fst :: .int .i64 g.snd :: .int .i64 g.pts :: jK t:=rfl
   have e2:jK (g :: t.take k)=.int .i64 g.fst :: .int .i64 g.snd :: .int .i64 g.pts :: jK (t.take k):=rfl
   rw [e1,List.take_succ_cons,e2,show (k+1) * 3=k * 3+1+1+1 by omega,List.take_succ_cons,List.take_succ_cons,List.take_succ_cons,ih]
theorem ED.take {w:World} {a:Option Addr} {c:Nat} {gs:List cu} (h:ED w (.slice a gs.length c) gs) (k:Nat) (hk:k≤gs.length):ED w (.slice a k c) (gs.take k):=by
 have:=Rd.take h k hk
 rw [Ql] at this
 unfold ED
 rw [List.length_take,Nat.min_eq_left hk]
 exact this
def yX (n:Int) (a b:Int):Bool:=decide (0≤a) && decide (a<n) && decide (0≤b) && decide (b<n) && decide (a≠b)
theorem EG (n a b:Int) (w:World):Calls Tryz.prog 66 #[.int .i64 n,.int .i64 a,.int .i64 b] w fun e w'=>e=.returned (.bool (yX n a b))∧w=w':=by
 have hc:a<0∨(0≤a∧n≤a)∨(0≤a∧a<n∧b<0)∨(0≤a∧a<n∧0≤b∧n≤b)∨(0≤a∧a<n∧0≤b∧b<n∧a=b)∨(0≤a∧a<n∧0≤b∧b<n∧¬ a=b):=by omega
 have HT:Hid (yX n a b=(decide (0≤a) && decide (a<n) && decide (0≤b) && decide (b<n) && decide (a≠b))):=hid rfl
 rcases hc with q | ⟨q1,q2⟩ | ⟨q1,q2,q3⟩ | ⟨q1,q2,q3,q4⟩ | ⟨q1,q2,q3,q4,q5⟩ | ⟨q1,q2,q3,q4,q5⟩
 all_goals
  go_enter Tryz.func66,Tryz.ntmps66
  go_wp2
  go_ret
  first
   | exact ⟨by rw [show yX n a b=false by unfold yX; simp; omega]; rfl,rfl⟩
   | exact ⟨by rw [show yX n a b=true by unfold yX; simp; omega]; rfl,rfl⟩
   | exact ⟨by rw [show yX n a b=(a != b) by (have p1:decide (0≤a)=true:=decide_eq_true q1; have p2:decide (a<n)=true:=decide_eq_true q2; have p3:decide (0≤b)=true:=decide_eq_true q3; have p4:decide (b<n)=true:=decide_eq_true q4; unfold yX; rw [p1,p2,p3,p4]; by_cases h:a=b <;> simp [h])]; rfl,rfl⟩
def mJ (n:Int):List cu→Int
 | []=>0
 | g :: t=>if yX n g.fst g.snd=false then 3 else if g.pts<0∨2<g.pts then 4 else mJ n t
def vU (n:Int) (gs:List cu):Int:=if n<1∨32<n∨600<gs.length then 2 else mJ n gs
theorem Qm (n:Int) (gs:List cu) (k:Nat) (h:k<gs.length):mJ n (gs.drop k)=if yX n gs[k].fst gs[k].snd=false then 3 else if gs[k].pts<0∨2<gs[k].pts then 4 else mJ n (gs.drop (k+1)):=by
 rw [List.drop_eq_getElem_cons h,mJ]
set_option maxHeartbeats 1000000 in
theorem Qn (n:Int) (vg:Value) (gs:List cu) (w:World) (hg:ED w vg gs):Calls Tryz.prog 24 #[.int .i64 n,vg] w fun e w'=>e=.returned (.int .i64 (vU n gs))∧Below w.heap.size w w':=by
 obtain ⟨a,c,rfl,h1,h2,hcells⟩:=hg.form
 unfold maxLen at h2
 have HG:=hid hcells
 clear hg hcells
 by_cases hb:n<1∨32<n∨600<gs.length
 ·have HR:=hid (show vU n gs=2 by unfold vU; rw [if_pos hb])
  have hb':n<1∨(¬ n<1∧32<n)∨(¬ n<1∧¬ 32<n∧600<(gs.length:Int)):=by omega
  clear hb
  rcases hb' with q | ⟨q1,q2⟩ | ⟨q1,q2,q3⟩
  all_goals
   go_enter Tryz.func24,Tryz.ntmps24
   go_wp2
   go_ret
   exact ⟨by rw [HR.out]; rfl,Below.refl _ _⟩
 ·have HR:=hid (show vU n gs=mJ n gs by unfold vU; rw [if_neg hb])
  have q1:¬ n<1:=by omega
  have q2:¬ 32<n:=by omega
  have q3:¬ 600<(gs.length:Int):=by omega
  clear hb
  go_enter Tryz.func24,Tryz.ntmps24
  go_wp2_with fail
  go_loopw [20] (fun i wr=>∃ k:Nat,k≤gs.length∧i=.int .i64 k∧Hid (mJ n gs=mJ n (gs.drop k))∧Below w.heap.size w wr) (fun i _=>gs.length - (intOf i).toNat)
  case atStart=>exact ⟨0,Nat.zero_le _,rfl,hid rfl,Below.refl _ _⟩
  case round =>
   obtain ⟨k,hk,rfl,HK,hbl⟩:=hrel
   by_cases hlt:k<gs.length
   ·obtain ⟨gb,o,rfl,hgb,c0,c1,c2⟩:=HG.out k hlt
    have d0:=(hbl.cell (p:=⟨gb,o+k * 3,none⟩) hgb).trans c0
    have d1:=(hbl.cell (p:=⟨gb,o+k * 3+1,none⟩) hgb).trans c1
    have d2:=(hbl.cell (p:=⟨gb,o+k * 3+2,none⟩) hgb).trans c2
    clear c0 c1 c2
    have HS:=hid (Qm n gs k hlt)
    have hsz:=hbl.size
    have hlz:(k:Int)<gs.length:=by omega
    generalize gs[k]=gk at *
    obtain ⟨x,y,p⟩:=gk
    simp only at *
    cases hw:yX n x y
    ·go_wp2_with (refine (EG _ _ _ _).mono ?_; rintro e w' ⟨rfl,rfl⟩; rw [hw])
     go_ret
     exact ⟨by rw [HR.out,HK.out,HS.out,if_pos (by rw [hw])]; rfl,by go_grown⟩
    ·by_cases hp:p<0∨2<p
     ·have hp':p<0∨(¬ p<0∧2<p):=by omega
      have HS2:=hid (show mJ n gs=4 by rw [HK.out,HS.out,if_neg (by simp [hw]),if_pos hp])
      clear hp
      rcases hp' with hp | ⟨hp1,hp2⟩
      all_goals
       go_wp2_with (refine (EG _ _ _ _).mono ?_; rintro e w' ⟨rfl,rfl⟩; rw [hw])
       go_ret
       exact ⟨by rw [HR.out,HS2.out]; rfl,by go_grown⟩
     ·have hp1:¬ p<0:=by omega
      have hp2:¬ 2<p:=by omega
      have HS2:=hid (show mJ n gs=mJ n (gs.drop (k+1)) by rw [HK.out,HS.out,if_neg (by simp [hw]),if_neg hp])
      clear hp
      go_wp2_with (refine (EG _ _ _ _).mono ?_; rintro e w' ⟨rfl,rfl⟩; rw [hw])
      go_roundw
      case rel=>exact ⟨k+1,by omega,by go_num,HS2,by go_grown⟩
      case measure=>simp [intOf]; omega
   ·obtain rfl:k=gs.length:=by omega
    have HF:=hid (show mJ n gs=0 by rw [HK.out,List.drop_length,mJ])
    go_wp2_with fail
    go_ret
    exact ⟨by rw [HR.out,HF.out]; rfl,hbl⟩
structure Si (n:Int) (g:cu):Prop where
 a0:0≤g.fst
 a1:g.fst<n
 b0:0≤g.snd
 b1:g.snd<n
 ne:g.fst≠g.snd
 p0:0≤g.pts
 p1:g.pts≤2
theorem Hl {n:Int}:∀ {gs:List cu},mJ n gs=0→∀ k (hk:k<gs.length),Si n gs[k]
 | [],_,k,hk=>by simp at hk
 | g :: t,h,k,hk=>by
  unfold mJ at h
  split at h
  ·cases h
  ·rename_i h1
   split at h
   ·cases h
   ·rename_i h2
    cases k with
    | zero =>
     simp [yX] at h1
     obtain ⟨r1,r2,r3,r4,r5⟩:=h1
     exact ⟨r1,r2,r3,r4,r5,by show 0≤g.pts; omega,by show g.pts≤2; omega⟩
    | succ k=>exact Hl h k (by simpa using hk)
theorem Zo {n:Int} {gs:List cu} (h:vU n gs=0):(1≤n∧n≤32∧gs.length≤600)∧∀ k (hk:k<gs.length),Si n gs[k]:=by
 unfold vU at h
 split at h
 ·cases h
 ·exact ⟨by omega,Hl h⟩
theorem JA (l:List Int) (i j:Nat) (x:Int):(l.set i x).getD j 0=if i=j∧i<l.length then x else l.getD j 0:=by
 rw [List.getD_eq_getElem?_getD,List.getElem?_set,List.getD_eq_getElem?_getD]
 by_cases h:i=j
 ·subst h
  by_cases h2:i<l.length <;> simp [h2]
 ·simp [h]
theorem JB:∀ (l:List Int) (i:Nat) (x:Int),i<l.length→(l.set i x).sum=l.sum - l.getD i 0+x
 | [],i,x,h=>by simp at h
 | a :: t,0,x,_=>by simp; omega
 | a :: t,i+1,x,h=>by
  have:=JB t i x (by simpa using h)
  simp only [List.set_cons_succ,List.sum_cons,List.getD_cons_succ,this]
  omega
def Zp (z:List Int) (i j:Nat) (p:Int):List Int:=(z.set i (z.getD i 0+p)).set j (z.getD j 0+(2 - p))
structure JC (n k:Nat) (z:List Int):Prop where
 len:z.length=n
 sum:z.sum=2 * k
 bnd:∀ i:Nat,0≤z.getD i 0∧z.getD i 0≤2 * k
theorem JC.add {n k:Nat} {z:List Int} (h:JC n k z) (i j:Nat) (p:Int) (hi:i<n) (hj:j<n) (hij:i≠j) (hp:0≤p) (hp2:p≤2):JC n (k+1) (Zp z i j p):=by
 refine ⟨by simp [Zp,h.len],?_,fun q=>?_⟩
 ·unfold Zp
  rw [JB _ j _ (by simp [h.len,hj]),JB _ i _ (by rw [h.len]; exact hi),JA,if_neg (by omega),h.sum]
  push_cast
  omega
 ·have h1:=h.bnd i
  have h2:=h.bnd j
  have h3:=h.bnd q
  unfold Zp
  rw [JA,JA]
  push_cast
  split
  ·omega
  ·split <;> omega
theorem JC.zero (n:Nat):JC n 0 (List.replicate n 0):=⟨by simp,by simp,fun i=>by rw [List.getD_eq_getElem?_getD,List.getElem?_replicate]; split <;> simp⟩
def Qo (n k:Nat) (w:World) (e:Ending) (w':World):Prop:=∃ v z,e=.returned v∧w'.ownsRow w.heap.size 3 1 v n (ints z)∧JC n k z∧Below w.heap.size w w'
set_option maxHeartbeats 1000000 in
theorem EH (n:Nat) (vg:Value) (gs:List cu) (w:World) (hg:ED w vg gs) (hgs:gs.length≤600) (h0:1≤n) (h32:n≤32) (hgood:∀ k (hk:k<gs.length),Si n gs[k]) :
  Calls Tryz.prog 25 #[.int .i64 (n:Int),vg] w (Qo n gs.length w):=by
 obtain ⟨i0,hi,hz0,hz1,hz2⟩:=info_parts info3
 obtain ⟨a,c,rfl,h1,h2,hcells⟩:=hg.form
 unfold maxLen at h2
 have HG:=hid hcells
 have Zq:=hid hgood
 clear hg hcells hgood
 go_enter Tryz.func25,Tryz.ntmps25
 go_wp2_with (at_make; refine wpList_make_full _ rfl _ _ 22 rfl w.heap.size 3 i0 (.int .i64 0) 1 Tryz.underlying22 hi hz0 hz1 .i64 .i64 n n n rfl rfl rfl rfl (by rw [hz2]; omega) (by unfold maxLen; omega) (Nat.le_refl _) ?_; intro w1 hown hgrow)
 have hb1:Below w.heap.size w w1:=Below.grown (Below.refl _ w) hgrow (Nat.le_refl _) (fun q hq=>by simp [Value.ownBlock] at hq)
 rw [Fv] at hown
 have HO:=hid hown
 clear hown hgrow
 go_loopw [12] (fun i wr=>∃ k:Nat,k≤gs.length∧i=.int .i64 k∧Hid (∃ z,wr.ownsRow w.heap.size 3 1 (.slice (some ⟨w.heap.size,0,none⟩) n n) n (ints z)∧JC n k z)∧Below w.heap.size w wr) (fun i _=>gs.length - (intOf i).toNat)
 case atStart=>exact ⟨0,Nat.zero_le _,rfl,hid ⟨_,HO.out,JC.zero n⟩,hb1⟩
 case round =>
  obtain ⟨k,hk,rfl,HK,hbl⟩:=hrel
  by_cases hlt:k<gs.length
  ·obtain ⟨gb,o,rfl,hgb,c0,c1,c2⟩:=HG.out k hlt
   have d0:=(hbl.cell (p:=⟨gb,o+k * 3,none⟩) hgb).trans c0
   have d1:=(hbl.cell (p:=⟨gb,o+k * 3+1,none⟩) hgb).trans c1
   have d2:=(hbl.cell (p:=⟨gb,o+k * 3+2,none⟩) hgb).trans c2
   clear c0 c1 c2
   have hsz:=hbl.size
   have hlz:(k:Int)<gs.length:=by omega
   obtain ⟨r1,r2,r3,r4,r5,r6,r7⟩:=Zq.out k hlt
   obtain ⟨z,hown,hz⟩:=HK.out
   have HW:=hid hown
   have HZ:=hid hz
   have hG:w.heap.size<wr.heap.size:=(hown.lt w.heap.size rfl).2
   have hzl:=hz.len
   clear hown HK
   generalize gs[k]=gk at *
   obtain ⟨x,y,p⟩:=gk
   simp only at *
   obtain ⟨i,rfl⟩:∃ i:Nat,x=(i:Int):=⟨x.toNat,by omega⟩
   obtain ⟨j,rfl⟩:∃ i:Nat,y=(i:Int):=⟨y.toNat,by omega⟩
   have q6:i<n:=by omega
   have q7:j<n:=by omega
   have n3:¬ i=j:=by omega
   have n4:¬ j=i:=by omega
   have n1:¬ w.heap.size=wr.heap.size:=by omega
   have n2:¬ wr.heap.size=w.heap.size:=by omega
   have k2:wr.cell? ⟨w.heap.size,i,none⟩=some (.int .i64 (z.getD i 0)):=(HW.out.cellAt i (by omega)).trans (eY _ i (by omega))
   have k3:wr.cell? ⟨w.heap.size,j,none⟩=some (.int .i64 (z.getD j 0)):=(HW.out.cellAt j (by omega)).trans (eY _ j (by omega))
   have f2:wr.frozen? ⟨w.heap.size,i,none⟩=false:=HW.out.frozenAt i
   have f3:wr.frozen? ⟨w.heap.size,j,none⟩=false:=HW.out.frozenAt j
   obtain ⟨b1,b1'⟩:=hz.bnd i
   obtain ⟨b2,b2'⟩:=hz.bnd j
   have HN:=hid (hz.add i j p q6 q7 n3 r6 r7)
   have HFin:Hid (((((wr.setCell ⟨w.heap.size,i,none⟩ (.int .i64 (z.getD i 0+p))).setCell ⟨w.heap.size,j,none⟩ (.int .i64 (z.getD j 0+(2 - p)))).alloc (.cells #[.int .i64 (i:Int),.int .i64 (j:Int),.int .i64 p] 33)).drew.drew).ownsRow w.heap.size 3 1 (.slice (some ⟨w.heap.size,0,none⟩) n n) n (ints (Zp z i j p))):=hid (by
    have h2:=(HW.out.stored i (.int .i64 (z.getD i 0+p))).1
    have h3:=(h2.stored j (.int .i64 (z.getD j 0+(2 - p)))).1
    rw [ints_set,ints_set] at h3
    exact (h3.alloc _).drew.drew)
   clear hz HW
   generalize hzi:z.getD i 0=zi at *
   generalize hzj:z.getD j 0=zj at *
   clear hzi hzj
   go_wp2_with fail
   go_region
   go_wp2_with fail
   go_region
   go_wp2_with fail
   go_roundw
   case rel=>exact ⟨k+1,by omega,by go_num,hid ⟨_,HFin.out,HN.out⟩,by go_grown⟩
   case measure=>simp [intOf]; omega
  ·obtain rfl:k=gs.length:=by omega
   obtain ⟨z,hown,hz⟩:=HK.out
   have HW:=hid hown
   clear hown HK
   go_wp2_with fail
   go_ret
   exact ⟨_,z,rfl,HW.out,hz,hbl⟩
end Go.Proofs.YteablcielclaeaaGreatDoor
namespace Go.Proofs.YteablcielclaeaaGreatDoor
open Go.Sort
set_option linter.unusedVariables false
variable {α:Type} {lt:α→α→Bool}
variable [Inhabited α]
section
variable {a s m e b:Nat} {d d':Array α}
end
structure adb (lt:α→α→Bool) (d:Array α) (p s0 r0 s r:Nat):Prop where
 lo:s0≤s
 mid:s≤r
 hi:r≤r0
 left:∀ c,s0≤c→c<s→lt d[p - c]! d[c]! = false
 right:∀ c,r≤c→c<r0→lt d[p - c]! d[c]! = true
section
variable {lo hi q h:Nat} {d:Array α} {x:α}
end
section
variable {a m b p s0 r0 s r:Nat} {d:Array α}
theorem adb.start (hsr:s0≤r0):adb lt d p s0 r0 s0 r0:=⟨Nat.le_refl _,hsr,Nat.le_refl _,fun c h1 h2=>by omega,fun c h1 h2=>by omega⟩
end
end Go.Proofs.YteablcielclaeaaGreatDoor

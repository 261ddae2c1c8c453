/- TbRobChk, TbRobChk2, TbRobAllP, TbRobAll, TrExpect, TrChange, TrRatGame, TrRatAll, TrSum, TsStA, TsStB, TsStP. -/
import Derived.Test.YteablcielclaeaaGreatDoorP28
import Derived.Maps.AppendAt
import Derived.Sort.LotA
namespace Go.Proofs.YteablcielclaeaaGreatDoor
open Go.ChangeShapes Go.WideShapes Go.ChangeAt Go.RowKit Go.Maps
set_option linter.unusedVariables false
theorem two_any (n a b:Int) (w:World) :
  Calls Tryz.prog 39 #[.int .i64 n,.int .i64 a,.int .i64 b] w fun e w'=>e=.returned (.bool (tY n (a,b)))∧w=w':=by
 go_enter Tryz.func39,Tryz.ntmps39
 go_wp2
 all_goals
  go_ret
  refine ⟨?_,rfl⟩
  unfold tY
  simp_all <;> first | rfl | omega
def Ba (seen:List (Int×Int)) (a:Int):Bool:=seen.any fun g=>g.1 == a || g.2 == a
def Ei (n:Int):List (Int×Int)→List (Int×Int)→Int
 | _,[]=>0
 | seen,g :: t=>if tY n g=true then (if (Ba seen g.1 || Ba seen g.2)=true then 7 else Ei n (seen++[g]) t) else 4
def qJ (n:Int):List (List (Int×Int))→Int
 | []=>0
 | r :: t=>if Ei n [] r=0 then qJ n t else Ei n [] r
def rY (gs:List (Int×Int)) (p:Int×Int):Int:=((gs.filter (· == p)).length:Nat)
def lN (tw:Bool) (gs:List (Int×Int)) (a b:Int):Bool:=if tw=true then rY gs (a,b) == 1 && rY gs (b,a) == 1 else rY gs (a,b)+rY gs (b,a) == 1
def kX (n:Nat) (tw:Bool) (gs:List (Int×Int)):Bool:=(List.range n).all fun a=>(List.range a).all fun b=>lN tw gs a b
def tZ (n:Nat) (tw:Bool) (rows:List (List (Int×Int))):Int:=
 if (rows.length:Int)≠iy n tw then 3 else if qJ n rows≠0 then qJ n rows else if kX n tw rows.flatten=true then 0 else 8
theorem wZ {α:Type} (l:List α) (k:Nat) (h:k<l.length):l.take (k+1)=l.take k++[l[k]]:=List.take_succ_eq_append_getElem h
theorem U1 (n:Int) (row:List (Int×Int)) (k:Nat) (h:k<row.length):Ei n (row.take k) (row.drop k)=if tY n row[k]=true then (if (Ba (row.take k) row[k].1 || Ba (row.take k) row[k].2)=true then 7 else Ei n (row.take (k+1)) (row.drop (k+1))) else 4:=by
 rw [List.drop_eq_getElem_cons h,Ei,wZ row k h]
theorem Qq (n:Int) (rows:List (List (Int×Int))) (r:Nat) (h:r<rows.length):qJ n (rows.drop r)=if Ei n [] rows[r]=0 then qJ n (rows.drop (r+1)) else Ei n [] rows[r]:=by
 rw [List.drop_eq_getElem_cons h,qJ]
theorem Jj (gs:List (Int×Int)) (p:Int×Int):0≤rY gs p∧rY gs p≤gs.length:=by
 unfold rY; have:=List.length_filter_le (· == p) gs; omega
theorem Bc (rows:List (List (Int×Int))) (m:Nat) (h:∀ r∈rows,r.length≤m):rows.flatten.length≤rows.length * m:=by
 induction rows with
 | nil=>simp
 | cons a t ih =>
  have h1:=h a (by simp)
  have h2:=ih (fun r hr=>h r (by simp [hr]))
  simp only [List.flatten_cons,List.length_append,List.length_cons,Nat.add_mul]
  omega
theorem Jk (rows:List (List (Int×Int))) (r:Nat) (h:r<rows.length):(rows.take (r+1)).flatten=(rows.take r).flatten++rows[r]:=by
 rw [wZ rows r h,List.flatten_append]; simp
def qK (g:Int×Int):Value:=.agg #[.int .i64 g.1,.int .i64 g.2]
theorem U2 {g h:Int×Int} (e:qK g=qK h):g=h:=by
 unfold qK at e
 simp at e
 exact Prod.ext e.1 e.2
open Classical in
noncomputable def uf (gs:List (Int×Int)) (x:Value):Int:=((gs.filter fun g=>decide (qK g=x)).length:Nat)
open Classical in
noncomputable def rW (seen:List (Int×Int)) (x:Value):Bool:=seen.any fun g=>decide (Value.int .i64 g.1=x) || decide (Value.int .i64 g.2=x)
theorem Ce (gs:List (Int×Int)) (p:Int×Int):uf gs (qK p)=rY gs p:=by
 unfold uf rY
 congr 2
 apply List.filter_congr
 intro g _
 rw [Bool.eq_iff_iff]
 simp only [decide_eq_true_eq,beq_iff_eq]
 exact ⟨U2,fun h=>by rw [h]⟩
theorem YZ (seen:List (Int×Int)) (a:Int):rW seen (.int .i64 a)=Ba seen a:=by
 unfold rW Ba
 congr 1
 funext g
 rw [Bool.eq_iff_iff]
 simp
theorem U3 (gs:List (Int×Int)) (g:Int×Int):uf (gs++[g])=upd (uf gs) (qK g) (uf gs (qK g)+1):=by
 funext x
 by_cases hx:x=qK g
 ·subst hx
  rw [upd_same]
  unfold uf
  simp [List.filter_append]
 ·rw [fP _ _ hx]
  unfold uf
  have:¬ qK g=x:=fun e=>hx e.symm
  simp [List.filter_append,this]
theorem Qr (seen:List (Int×Int)) (g:Int×Int):rW (seen++[g])=upd (upd (rW seen) (.int .i64 g.1) true) (.int .i64 g.2) true:=by
 funext x
 by_cases hx:x=.int .i64 g.2
 ·subst hx; rw [upd_same]; unfold rW; simp
 ·rw [fP _ _ hx]
  by_cases hy:x=.int .i64 g.1
  ·subst hy; rw [upd_same]; unfold rW; simp
  ·rw [fP _ _ hy]
   unfold rW
   have h1:¬ Value.int .i64 g.1=x:=fun e=>hy e.symm
   have h2:¬ Value.int .i64 g.2=x:=fun e=>hx e.symm
   simp [h1,h2]
theorem Y1 {α:Type} (f:Value→α) (a b:Value) (v:α):upd (upd f a v) b v=upd (upd f b v) a v:=by
 funext x
 by_cases ha:x=a
 ·subst ha
  rw [upd_same]
  by_cases hb:x=b
  ·subst hb; rw [upd_same]
  ·rw [fP _ _ hb,upd_same]
 ·rw [fP (upd f b v) v ha]
  by_cases hb:x=b
  ·subst hb; rw [upd_same,upd_same]
  ·rw [fP _ _ hb,fP _ _ hb,fP _ _ ha]
theorem U4:laidOutB Tryz.prog=true:=by kernel_rfl
theorem U5:decide (Tryz.prog.types.size+2≤10000)=true:=by kernel_rfl
theorem Y2:decide (31<Tryz.prog.types.size)=true:=by kernel_rfl
theorem Qs:Tryz.prog.keyType 31=true:=by kernel_rfl
theorem Y3:Keyed Tryz.prog 31:=Keyed.of_law (deep_law_gate U4 (of_decide_eq_true U5) (of_decide_eq_true Y2) Qs (by rw [Tryz.underlying31]))
theorem vI:Keyed Tryz.prog 3:=int_keyed Tryz.underlying3
theorem Bd (w:World):(zeroValue 3).run Tryz.prog w=.ok (.int .i64 0) w:=by kernel_rfl
theorem adT (w:World):(zeroValue 4).run Tryz.prog w=.ok (.bool false) w:=by kernel_rfl
theorem yU {a:Int} (h0:0≤a) (h1:a≤1000):∃ kl,keyOf Tryz.prog 3 (.int .i64 a)=some kl:=⟨_,keyOf_int_mk Tryz.underlying3 (WalkArith.wf_i64 (by omega))⟩
theorem keyOf_pair {P:Program} {t ti:TypeId} {f1 f2:Field} (hu:P.underlying t=some (.struct #[f1,f2])) (hi:P.underlying ti=some (.int .i64)) (h1:f1.type=ti) (h2:f2.type=ti) (o1:f1.offset=0) (o2:f2.offset=1)
  (n1:(f1.name != "_")=true) (n2:(f2.name != "_")=true) (hk:P.keyType t=true) (c2:P.cellsOf t=2) (c1:P.cellsOf ti=1) (h0:P.types.size≠0) {a b:Int} (wa:(Lit.int .i64 a).wf=true) (wb:(Lit.int .i64 b).wf=true) :
  ∃ kl,keyOf P t (.agg #[.int .i64 a,.int .i64 b])=some kl:=by
 obtain ⟨m,hm⟩:∃ m,P.types.size=m+1:=⟨P.types.size - 1,by omega⟩
 unfold keyOf
 simp [hu,hk,Value.formed,c2,hm,Program.keyLits,Value.cells,n1,n2,h1,h2,o1,o2,c1,hi,wa,wb]
theorem U6:Tryz.prog.keyType 31=true:=by kernel_rfl
theorem Qv:Tryz.prog.cellsOf 31=2:=by kernel_rfl
theorem Qw:Tryz.prog.cellsOf 3=1:=by kernel_rfl
theorem Qx:(Tryz.prog.types.size == 0)=false:=by kernel_rfl
theorem Jl {a b:Int} (ha:0≤a∧a≤1000) (hb:0≤b∧b≤1000):∃ kl,keyOf Tryz.prog 31 (qK (a,b))=some kl:=
 have hz:=Qx
 keyOf_pair Tryz.underlying31 Tryz.underlying3 rfl rfl rfl rfl rfl rfl U6 Qv Qw (fun h=>by simp [h] at hz) (WalkArith.wf_i64 (by omega)) (WalkArith.wf_i64 (by omega))
end Go.Proofs.YteablcielclaeaaGreatDoor
namespace Go.Proofs.YteablcielclaeaaGreatDoor
open Go.ChangeShapes Go.WideShapes Go.ChangeAt Go.RowKit Go.Maps
set_option linter.unusedVariables false
open Go.Lib (hid)
def SB (w:World) (v:Value) (rows:List (List (Int×Int))):Prop:=
 ∃ vs:List Value,Rd w 1 rows.length v vs∧∀ j (h:j<rows.length),∃ u,vs[j]?=some u∧Rd w 2 rows[j].length u (flat rows[j])
theorem acC (gs:List (Int×Int)) (k:Nat) (h:k<gs.length):(flat gs)[k * 2]?=some (.int .i64 gs[k].1)∧(flat gs)[k * 2+1]?=some (.int .i64 gs[k].2):=by
 induction gs generalizing k with
 | nil=>simp at h
 | cons g t ih =>
  cases k with
  | zero=>exact ⟨rfl,rfl⟩
  | succ k =>
   have:=ih k (by simpa using h)
   have e:(k+1) * 2=k * 2+2:=by omega
   rw [e]
   exact this
theorem Jm {z zs zr re x y c:Int} (HZ:z=if zs≠0 then zs else x) (HE:zs=zr) (HES:zr=if re=0 then y else re) (h:re=c) (hc:c≠0):z=c:=by
 subst h
 rw [if_neg hc] at HES
 rw [HZ,HE,HES,if_pos hc]
theorem GZ {tw:Bool} {gs:List (Int×Int)} {a b:Nat} (h:∀ b'<b,lN tw gs (a:Nat) (b':Nat)=true) (hb:lN tw gs a b=true):∀ b'<b+1,lN tw gs (a:Nat) (b':Nat)=true:=fun b' hb' =>
 (Nat.lt_or_ge b' b).elim (fun q=>h b' q) (fun q=>by
  obtain rfl:b'=b:=by omega
  exact hb)
theorem Qy {tw:Bool} {gs:List (Int×Int)} {a:Nat} (h:∀ a'<a,∀ b'<a',lN tw gs (a':Nat) (b':Nat)=true) (hb:∀ b'<a,lN tw gs (a:Nat) (b':Nat)=true):∀ a'<a+1,∀ b'<a',lN tw gs (a':Nat) (b':Nat)=true:=fun a' ha' b' hb'=>by
 rcases Nat.lt_or_ge a' a with q | q
 ·exact h a' q b' hb'
 ·obtain rfl:a'=a:=by omega
  exact hb b' hb'
theorem Ej {tw:Bool} {gs:List (Int×Int)} {n a b:Nat} (ha:a<n) (hb:b<a) (h:lN tw gs a b=false):¬ kX n tw gs=true:=by
 unfold kX
 rw [List.all_eq_true]
 intro q
 have:=List.all_eq_true.1 (q a (List.mem_range.2 ha)) b (List.mem_range.2 hb)
 rw [h] at this
 cases this
def iw (c:Int) (w:World) (e:Ending) (w':World):Prop:=e=.returned (.int .i64 c)∧Below w.heap.size w w'
set_option maxHeartbeats 2000000 in
theorem Qz (n:Nat) (tw:Bool) (rows:List (List (Int×Int))) (v:Value) (w:World) (h0:2≤n) (h1:n≤32) (hS:SB w v rows) (hl:rows.length≤100) (hrl:∀ r∈rows,r.length≤100) (hk:(rows.length:Int)=iy n tw) :
  Calls Tryz.prog 12 #[.int .i64 n,.bool tw,v] w (iw (tZ n tw rows) w):=by
 have hmm:=@run_makeMap Tryz.prog
 have hpos:1≤rows.length:=by
  have:1≤iy n tw:=by unfold iy iZ; split <;> omega
  omega
 obtain ⟨vs,⟨_,hv⟩,hrows⟩:=hS
 rcases hv with ⟨_,hz⟩ | ⟨g,o,c,rfl,_,_,hcells⟩
 ·omega
 have HZ:=hid (show tZ n tw rows=if qJ n rows≠0 then qJ n rows else if kX n tw rows.flatten=true then 0 else 8 by unfold tZ; rw [if_neg (by simpa using hk)])
 have HR:=hid hrows
 have HC:=hid hcells
 have HK:=hid hk
 have HRL:=hid hrl
 clear hrows hcells hk hrl
 go_enter Tryz.func12,Tryz.ntmps12
 go_wp2_with fail
 refine (GX n tw _ (by omega) (by omega)).mono ?_
 rintro e w' ⟨rfl,rfl⟩
 rw [← HK.out]
 go_wp2_with fail
 have Aa:=hid (yT w Tryz.prog 31 3)
 have hB0:Below w.heap.size w (w.alloc (.map #[] 0)):=by go_grown
 go_loopw [35] (fun i wr=>∃ r:Nat,r≤rows.length∧i=.int .i64 r∧Hid (dn wr Tryz.prog 31 3 w.heap.size (100 * r) (uf (rows.take r).flatten))∧Hid (qJ n rows=qJ n (rows.drop r))∧Below w.heap.size w wr) (fun i _=>rows.length - (intOf i).toNat)
 case atStart=>exact ⟨0,by omega,rfl,Aa,hid rfl,hB0⟩
 case round =>
  obtain ⟨r,hr,rfl,HM,HE,hbl⟩:=hrel
  by_cases hlt:r<rows.length
  ·obtain ⟨u,hu,hRd⟩:=HR.out r hlt
   have cu:wr.cell? ⟨g,o+r,none⟩=some u:=by
    have:=HC.out r (by omega)
    rw [hu] at this
    rw [hbl.cell (p:=⟨g,o+r,none⟩) (World.block_lt_of_cell? w _ this)]
    exact this
   have hsz:w.heap.size<wr.heap.size:=HM.out.lt
   have hrl:=HRL.out rows[r] (List.getElem_mem hlt)
   have HES:=hid (Qq n rows r hlt)
   have HFT:=hid (Jk rows r hlt)
   obtain ⟨hfl,hform⟩:=hRd
   have hlen:rows[r].length≤100:=hrl
   have hBel:Below w.heap.size w (wr.alloc (.map #[] 0)):=by go_grown
   have HN0:=hid (FI wr Tryz.prog 3 4)
   have vF:=hid (HM.out.alloc (.map #[] 0))
   clear HM
   generalize hrow:rows[r]=row at *
   clear hrow hu hrl
   obtain ⟨wo,rfl⟩:∃ wo:World,wo=wr:=⟨_,rfl⟩
   have HF:Hid (∃ a c',u=.slice a row.length c'∧∀ k (hk:k<row.length),∃ gg oo,a=some ⟨gg,oo,none⟩∧∀ wx,Below w.heap.size w wx→wx.cell? ⟨gg,oo+k * 2,none⟩=some (.int .i64 row[k].1)∧wx.cell? ⟨gg,oo+k * 2+1,none⟩=some (.int .i64 row[k].2)):=hid (by
    rcases hform with ⟨⟨a0,c0,h,-⟩,hz⟩ | ⟨gg,oo,cc,h,_,_,hc⟩
    ·exact ⟨a0,c0,by rw [h,hz],fun k hk=>by omega⟩
    ·refine ⟨_,_,h,fun k hk=>⟨gg,oo,rfl,fun wx hb=>?_⟩⟩
     have q:=acC row k hk
     have e1:=hc (k * 2) (by omega)
     have e2:=hc (k * 2+1) (by omega)
     rw [q.1] at e1
     rw [q.2,← Nat.add_assoc] at e2
     exact ⟨(hb.cell (p:=⟨gg,oo+k * 2,none⟩) (World.block_lt_of_cell? w _ e1)).trans e1,(hb.cell (p:=⟨gg,oo+k * 2+1,none⟩) (World.block_lt_of_cell? w _ e2)).trans e2⟩)
   clear hform hfl
   obtain ⟨a,c',rfl,hcl⟩:=HF.out
   clear HF
   have Xh:=hid hcl
   clear hcl
   go_wp2_with fail
   go_loopw [42] (fun i wr=>∃ k:Nat,k≤row.length∧i=.int .i64 k∧Hid (dn wr Tryz.prog 31 3 w.heap.size (100 * r+k) (uf ((rows.take r).flatten++row.take k)))∧Hid (dO wr Tryz.prog 3 4 wo.heap.size (2 * k) (rW (row.take k)))∧Hid (Ei n [] row=Ei n (row.take k) (row.drop k))∧Below w.heap.size w wr) (fun i _=>row.length - (intOf i).toNat)
   case atStart=>exact ⟨0,by omega,rfl,hid (by simpa using vF.out),hid (HN0.out.congr fun x=>by simp [rW]),hid rfl,hBel⟩
   case round =>
    obtain ⟨k,hk,rfl,HMk,HNk,HEk,hblk⟩:=hrel
    by_cases hltk:k<row.length
    ·obtain ⟨gg,oo,rfl,hcl⟩:=Xh.out k hltk
     obtain ⟨c1,c2⟩:=hcl _ hblk
     clear hcl
     have HS:=hid (U1 n row k hltk)
     have HT:=hid (wZ row k hltk)
     have aiW:wo.heap.size<wr.heap.size:=HNk.out.lt
     have aez:w.heap.size<wr.heap.size:=HMk.out.lt
     generalize hgk:row[k]=gk at *
     clear hgk
     obtain ⟨ga,gb⟩:=gk
     simp only at c1 c2
     go_wp2_with fail
     refine (two_any _ _ _ _).mono ?_
     rintro e w' ⟨rfl,rfl⟩
     cases hok:tY (n:Int) (ga,gb)
     ·go_wp2
      go_ret
      refine ⟨?_,?_⟩
      ·rw [Jm HZ.out HE.out HES.out (c:=4) (by rw [HEk.out,HS.out,hok]; rfl) (by omega)]
       rfl
      ·go_grown
     ·have hg4:0≤ga∧ga<n∧0≤gb∧gb<n∧ga≠gb:=by
       simp only [tY,Bool.and_eq_true,decide_eq_true_eq,Bool.not_eq_true',beq_eq_false_iff_ne] at hok
       omega
      obtain ⟨ha0,ha1,hb0,hb1,hab⟩:=hg4
      have kA:=yU ha0 (by omega:ga≤1000)
      have kB:=yU hb0 (by omega:gb≤1000)
      have kP:=Jl (a:=ga) (b:=gb) ⟨ha0,by omega⟩ ⟨hb0,by omega⟩
      have mB:=HNk.out.alloc (.cells #[.int .i64 ga,.int .i64 gb] 31)
      have mI:=HMk.out.alloc (.cells #[.int .i64 ga,.int .i64 gb] 31)
      have hbW:Below w.heap.size w (wr.alloc (.cells #[.int .i64 ga,.int .i64 gb] 31)):=by go_grown
      have x1:(wr.alloc (.cells #[.int .i64 ga,.int .i64 gb] 31)).cell? ⟨wr.heap.size,0,none⟩=some (.int .i64 ga):=by go_simp
      have x2:(wr.alloc (.cells #[.int .i64 ga,.int .i64 gb] 31)).cell? ⟨wr.heap.size,1,none⟩=some (.int .i64 gb):=by go_simp
      clear c1 c2
      have lA:=mB.look vI Tryz.underlying119 Tryz.underlying4 (adT _) kA
      have lB:=mB.look vI Tryz.underlying119 Tryz.underlying4 (adT _) kB
      rw [YZ] at lA lB
      have HmB:=hid mB
      have HmI:=hid mI
      clear mB mI HMk HNk hblk
      generalize (wr.alloc (.cells #[.int .i64 ga,.int .i64 gb] 31))=W at *
      generalize hsA:Ba (row.take k) ga=sA at *
      generalize hsB:Ba (row.take k) gb=sB at *
      have HsA:=hid hsA
      have HsB:=hid hsB
      clear hsA hsB
      have hW1:wo.heap.size<W.heap.size:=HmB.out.lt
      have hW2:w.heap.size<W.heap.size:=HmI.out.lt
      have hW3:wr.heap.size<W.heap.size:=World.block_lt_of_cell? W _ x1
      cases sA
      ·cases sB
       ·go_wp2_with fail
        have mB0:dO W.drew Tryz.prog 3 4 wo.heap.size (2 * k) (rW (row.take k)):=HmB.out
        have Wq:dn W.drew Tryz.prog 31 3 w.heap.size (100 * r+k) (uf ((rows.take r).flatten++row.take k)):=HmI.out
        obtain ⟨wA,rA,mA,gA⟩:=mB0.store vI Tryz.underlying119 Tryz.underlying4 (by unfold maxLen; omega) kA true
        obtain ⟨wAB,rAB,mAB,gAB⟩:=mA.store vI Tryz.underlying119 Tryz.underlying4 (by unfold maxLen; omega) kB true
        obtain ⟨wB,rB,mBb,gB⟩:=mB0.store vI Tryz.underlying119 Tryz.underlying4 (by unfold maxLen; omega) kB true
        obtain ⟨wBA,rBA,mBA,gBA⟩:=mBb.store vI Tryz.underlying119 Tryz.underlying4 (by unfold maxLen; omega) kA true
        have y1:W.drew.cell? ⟨wr.heap.size,0,none⟩=some (.int .i64 ga):=x1
        have y2:W.drew.cell? ⟨wr.heap.size,1,none⟩=some (.int .i64 gb):=x2
        have ne1:some wr.heap.size≠some wo.heap.size:=by simp; omega
        have ne2:some w.heap.size≠some wo.heap.size:=by simp; omega
        have a1:wA.cell? ⟨wr.heap.size,0,none⟩=some (.int .i64 ga):=gA.cell y1 ne1
        have a2:wA.cell? ⟨wr.heap.size,1,none⟩=some (.int .i64 gb):=gA.cell y2 ne1
        have b1:wB.cell? ⟨wr.heap.size,0,none⟩=some (.int .i64 ga):=gB.cell y1 ne1
        have b2:wB.cell? ⟨wr.heap.size,1,none⟩=some (.int .i64 gb):=gB.cell y2 ne1
        have hbd:Below w.heap.size w W.drew:=hbW.drew
        have HAB:=hid (show _∧_∧_∧_∧_ from ⟨gAB.cell a1 ne1,gAB.cell a2 ne1,mAB,(Wq.kept gA ne2).kept gAB ne2,(hbd.grown gA (by simpa using Nat.le_of_lt hW2) (fun j hj=>by cases hj; omega)).grown gAB (by have:=gA.size; simp at this; omega) (fun j hj=>by cases hj; omega)⟩)
        have Iq:=hid (show _∧_∧_∧_∧_ from ⟨gBA.cell b1 ne1,gBA.cell b2 ne1,(by rw [Y1] at mBA; exact mBA:dO wBA Tryz.prog 3 4 wo.heap.size (2 * k+1+1) (upd (upd (rW (row.take k)) (.int .i64 ga) true) (.int .i64 gb) true)),(Wq.kept gB ne2).kept gBA ne2,(hbd.grown gB (by simpa using Nat.le_of_lt hW2) (fun j hj=>by cases hj; omega)).grown gBA (by have:=gB.size; simp at this; omega) (fun j hj=>by cases hj; omega)⟩)
        clear mB0 Wq mA mAB mBb mBA gA gAB gB gBA ne1 ne2 x1 x2 lA lB
        go_region
        all_goals
         (first | (clear HAB rAB wAB; revert Iq rBA; generalize wBA=W3; intro rBA HQ; clear rBA) | (clear Iq rBA wBA; revert HAB rAB; generalize wAB=W3; intro rAB HQ; clear rAB))
         clear rA rB a1 a2 b1 b2 y1 y2
         obtain ⟨x1,x2,mB,mI,hb3⟩:=HQ.out
         have Wq:dn W3.drew Tryz.prog 31 3 w.heap.size (100 * r+k) (uf ((rows.take r).flatten++row.take k)):=mI
         have mB0:dO W3.drew Tryz.prog 3 4 wo.heap.size (2 * k+1+1) (upd (upd (rW (row.take k)) (.int .i64 ga) true) (.int .i64 gb) true):=mB
         have hb4:Below w.heap.size w W3.drew:=hb3.drew
         have hlm:w.heap.size<W3.drew.heap.size:=Wq.lt
         have y1:W3.drew.cell? ⟨wr.heap.size,0,none⟩=some (.int .i64 ga):=x1
         have y2:W3.drew.cell? ⟨wr.heap.size,1,none⟩=some (.int .i64 gb):=x2
         obtain ⟨st,w1,rE,mE,gE,hst⟩:=Wq.entry Y3 Tryz.underlying118 Tryz.underlying3 Bd (by unfold maxLen; omega) kP
         obtain ⟨rL,_⟩:=Wq.look Y3 Tryz.underlying118 Tryz.underlying3 (Bd _) kP
         obtain ⟨rL1,_⟩:=mE.look Y3 Tryz.underlying118 Tryz.underlying3 (Bd _) kP
         have hcb:=Jj ((rows.take r).flatten++row.take k) (ga,gb)
         have hlen2:((rows.take r).flatten++row.take k).length≤100000:=by
          have q1:=Bc (rows.take r) 100 (fun x hx=>HRL.out x (List.mem_of_mem_take hx))
          have q2:(rows.take r).length≤100:=by rw [List.length_take]; omega
          have q3:(row.take k).length≤100:=by rw [List.length_take]; omega
          rw [List.length_append]
          have:(rows.take r).length * 100≤100 * 100:=Nat.mul_le_mul_right _ q2
          omega
         obtain ⟨w2,rS,mS,gS⟩:=hst (uf ((rows.take r).flatten++row.take k) (qK (ga,gb))+1) (by rw [Ce]; exact WalkArith.wf_i64 (by omega))
         have ne3:some wo.heap.size≠some w.heap.size:=by simp; have:=hbl.size; omega
         have HQ2:=hid (show _∧_∧_ from ⟨mS,mB0.kept gS ne3,hb4.grown gS (Nat.le_of_lt hlm) (fun j hj=>by cases hj; omega)⟩)
         rw [Ce] at rE rL rL1 rS
         have HX:=hid (Ce ((rows.take r).flatten++row.take k) (ga,gb))
         have HTT:=hid (U3 ((rows.take r).flatten++row.take k) (ga,gb))
         clear hst mS mE gS gE Wq mB0 mB mI HmB HmI HQ
         generalize rY ((rows.take r).flatten++row.take k) (ga,gb)=q at *
         unfold qK at rE rL rL1
         unfold goInt at rE rS
         have hwq:IntKind.i64.wrap (q+1)=q+1:=IntWalk.i64_in _ (by omega)
         go_wp2_with fail
         go_region
         all_goals
          clear rE rL rL1 rS y1 y2 x1 x2 hwq
          go_wp2_with fail
          go_roundw
          case rel=>exact ⟨k+1,by omega,by go_num,hid (by rw [HT.out,← List.append_assoc,HTT.out]; exact HQ2.out.1),hid (by rw [HT.out,Qr]; exact HQ2.out.2.1),hid (by rw [HEk.out,HS.out,hok]; rfl),HQ2.out.2.2⟩
          case measure=>simp [intOf]; omega
       ·go_wp2
        go_ret
        exact ⟨by rw [Jm HZ.out HE.out HES.out (c:=7) (by rw [HEk.out,HS.out,hok]; rfl) (by omega)]; rfl,hbW⟩
      ·go_wp2
       go_ret
       exact ⟨by rw [Jm HZ.out HE.out HES.out (c:=7) (by rw [HEk.out,HS.out,hok]; rfl) (by omega)]; rfl,hbW⟩
    ·obtain rfl:k=row.length:=by omega
     go_wp2_with fail
     go_roundw
     case rel=>exact ⟨r+1,by omega,by go_num,hid (by rw [HFT.out]; have:=HMk.out; rw [List.take_length] at this; exact this.mono (by omega)),hid (by rw [HE.out,HES.out,if_pos]; have:=HEk.out; rw [this]; simp [Ei]),hblk⟩
     case measure=>simp [intOf]; omega
  ·obtain rfl:r=rows.length:=by omega
   have sD:Hid (dn wr Tryz.prog 31 3 w.heap.size (100 * rows.length) (uf rows.flatten)):=hid (by have:=HM.out; rwa [List.take_length] at this)
   have wV:Hid (qJ n rows=0):=hid (by rw [HE.out]; simp [qJ])
   have HZ2:Hid (tZ n tw rows=if kX n tw rows.flatten=true then 0 else 8):=hid (by rw [HZ.out,if_neg (by rw [wV.out]; simp)])
   have hfl:rows.flatten.length≤10000:=by
    have:=Bc rows 100 HRL.out
    have:rows.length * 100≤100 * 100:=Nat.mul_le_mul_right _ hl
    omega
   clear HM HE HZ wV HC HR HRL HK
   generalize rows.flatten=gs at *
   go_wp2_with fail
   obtain ⟨wo,rfl⟩:∃ wo:World,wo=wr:=⟨_,rfl⟩
   go_loopw [78] (fun i wr=>∃ a:Nat,a≤n∧i=.int .i64 a∧Hid (dn wr Tryz.prog 31 3 w.heap.size (100 * rows.length) (uf gs))∧Hid (∀ a'<a,∀ b'<a',lN tw gs (a':Nat) (b':Nat)=true)∧Below w.heap.size w wr) (fun i _=>n - (intOf i).toNat)
   case atStart=>exact ⟨0,by omega,rfl,sD,hid (fun _ h=>by omega),hbl⟩
   case round =>
    obtain ⟨a,ha,rfl,HMa,HPa,hba⟩:=hrel
    by_cases afv:a<n
    ·go_wp2_with fail
     obtain ⟨wo2,rfl⟩:∃ wo:World,wo=wr:=⟨_,rfl⟩
     go_loopw [82] (fun i wr=>∃ b:Nat,b≤a∧i=.int .i64 b∧Hid (dn wr Tryz.prog 31 3 w.heap.size (100 * rows.length) (uf gs))∧Hid (∀ b'<b,lN tw gs (a:Nat) (b':Nat)=true)∧Below w.heap.size w wr) (fun i _=>a - (intOf i).toNat)
     case atStart=>exact ⟨0,by omega,rfl,HMa,hid (fun _ h=>by omega),hba⟩
     case round =>
      obtain ⟨b,hb,rfl,HMb,HPb,hbb⟩:=hrel
      by_cases afw:b<a
      ·have Wq:dn wr.drew Tryz.prog 31 3 w.heap.size (100 * rows.length) (uf gs):=HMb.out
       have r1:=(Wq.look Y3 Tryz.underlying118 Tryz.underlying3 (Bd _) (Jl (a:=a) (b:=b) ⟨by omega,by omega⟩ ⟨by omega,by omega⟩)).1
       have r2:=(Wq.look Y3 Tryz.underlying118 Tryz.underlying3 (Bd _) (Jl (a:=b) (b:=a) ⟨by omega,by omega⟩ ⟨by omega,by omega⟩)).1
       rw [Ce] at r1 r2
       have q1:=Jj gs (a,b)
       have q2:=Jj gs (b,a)
       have OB:=hid (show lN tw gs a b=if tw=true then rY gs (a,b) == 1 && rY gs (b,a) == 1 else rY gs (a,b)+rY gs (b,a) == 1 from rfl)
       generalize rY gs (a,b)=x at *
       generalize rY gs (b,a)=y at *
       unfold qK at r1 r2
       clear Wq
       go_wp2_with fail
       go_region
       have hM:Hid (dn wr.drew Tryz.prog 31 3 w.heap.size (100 * rows.length) (uf gs)):=HMb
       have hB:Below w.heap.size w wr.drew:=hbb.drew
       clear r1 r2 HMb hbb
       generalize wr.drew=W at *
       cases tw
       ·cases t:(x+y != 1)
        ·go_wp2
         go_roundw
         case rel=>exact ⟨b+1,by omega,by go_num,hM,hid (GZ HPb.out (by rw [OB.out]; simpa using t)),hB⟩
         case measure=>simp [intOf]; omega
        ·go_wp2
         go_ret
         exact ⟨by rw [HZ2.out,if_neg (Ej afv afw (by rw [OB.out]; simpa using t))]; rfl,hB⟩
       ·cases t:(x != 1)
        ·cases t2:(y != 1)
         ·go_wp2
          go_roundw
          case rel=>exact ⟨b+1,by omega,by go_num,hM,hid (GZ HPb.out (by rw [OB.out]; simp at t t2; simp [t,t2])),hB⟩
          case measure=>simp [intOf]; omega
         ·go_wp2
          go_ret
          exact ⟨by rw [HZ2.out,if_neg (Ej afv afw (by rw [OB.out]; simp at t t2; simp [t,t2]))]; rfl,hB⟩
        ·go_wp2
         go_ret
         exact ⟨by rw [HZ2.out,if_neg (Ej afv afw (by rw [OB.out]; simp at t; simp [t]))]; rfl,hB⟩
      ·obtain rfl:b=a:=by omega
       go_wp2_with fail
       go_roundw
       case rel=>exact ⟨b+1,by omega,by go_num,HMb,hid (Qy HPa.out HPb.out),hbb⟩
       case measure=>simp [intOf]; omega
    ·obtain rfl:a=n:=by omega
     go_wp2_with fail
     go_ret
     refine ⟨?_,hba⟩
     rw [HZ2.out,if_pos]
     ·rfl
     ·unfold kX
      rw [List.all_eq_true]
      intro a' h1
      rw [List.all_eq_true]
      intro b' h2
      exact HPa.out a' (List.mem_range.1 h1) b' (List.mem_range.1 h2)
end Go.Proofs.YteablcielclaeaaGreatDoor
namespace Go.Proofs.YteablcielclaeaaGreatDoor
set_option linter.unusedVariables false
def kY (n:Nat) (tw:Bool):List (List (Int×Int)):=(List.range (iy n tw).toNat).map fun r:Nat=>tX n r
def goM (code:Int×Int→Nat):List (Int×Int)→Nat→Option Nat
 | [],m=>some m
 | g :: t,m=>if m.testBit (code g)=true then none else goM code t (m ||| 1 <<< code g)
theorem U7 (code:Int×Int→Nat):∀ (gs:List (Int×Int)) (m m':Nat),goM code gs m=some m'→∀ c,gs.countP (fun g=>code g == c)+(if m.testBit c=true then 1 else 0)=if m'.testBit c=true then 1 else 0:=by
 intro gs
 induction gs with
 | nil=>intro m m' h c; simp [goM] at h; subst h; simp
 | cons g t ih =>
  intro m m' h c
  unfold goM at h
  split at h
  ·cases h
  ·rename_i hm
   have:=ih _ _ h c
   rw [← this,List.countP_cons]
   have hb:(m ||| 1 <<< code g).testBit c=(m.testBit c || (code g == c)):=by
    rw [Nat.testBit_or,Nat.one_shiftLeft,Nat.testBit_two_pow]
    rfl
   rw [hb]
   by_cases hc:code g=c
   ·subst hc
    simp [hm]
   ·simp [hc]
def MX (g:Int×Int):Nat:=if g.1<g.2 then g.2.toNat * 32+g.1.toNat else g.1.toNat * 32+g.2.toNat
def SC (g:Int×Int):Nat:=g.1.toNat * 32+g.2.toNat
def adU (n:Nat) (tw:Bool) (m:Nat):Bool:=(List.range n).all fun a=>(List.range a).all fun b=>m.testBit (a * 32+b) && (!tw || m.testBit (b * 32+a))
def Jo (n:Nat) (tw:Bool):Bool:=qJ n (kY n tw) == 0 && match goM (if tw=true then SC else MX) (kY n tw).flatten 0 with | some m=>adU n tw m | none=>false
theorem rF (gs:List (Int×Int)) (p:Int×Int):rY gs p=((gs.countP fun g=>g == p:Nat):Int):=by
 unfold rY; rw [List.countP_eq_length_filter]
theorem FK (n:Nat) (tw:Bool) (gs:List (Int×Int)) (hn:n≤32) (hg:∀ g∈gs,0≤g.1∧g.1<n∧0≤g.2∧g.2<n∧g.1≠g.2) (m:Nat) (h:goM (if tw=true then SC else MX) gs 0=some m) (hf:adU n tw m=true):kX n tw gs=true:=by
 unfold kX
 rw [List.all_eq_true]
 intro a ha
 rw [List.all_eq_true]
 intro b hb
 have ha':=List.mem_range.1 ha
 have hb':=List.mem_range.1 hb
 have hbit:=List.all_eq_true.1 (List.all_eq_true.1 hf a ha) b hb
 have hs:=U7 _ gs 0 m h
 cases tw
 ·simp only [Bool.false_eq_true,if_false] at hs
  have h1:=hs (a * 32+b)
  simp at hbit h1
  rw [hbit] at h1
  simp only [if_true] at h1
  unfold lN
  rw [if_neg (by simp),rF,rF]
  have key:∀ l:List (Int×Int),(∀ g∈l,0≤g.1∧g.1<n∧0≤g.2∧g.2<n∧g.1≠g.2)→l.countP (fun g=>MX g == a * 32+b)=l.countP (fun g=>g == ((a:Int),(b:Int)))+l.countP (fun g=>g == ((b:Int),(a:Int))):=by
   intro l
   induction l with
   | nil=>intro _; rfl
   | cons g t ih =>
    intro hl
    have hg':=hl g (by simp)
    rw [List.countP_cons,List.countP_cons,List.countP_cons,ih (fun x hx=>hl x (by simp [hx]))]
    obtain ⟨x,y⟩:=g
    simp only at hg'
    have e1:(MX (x,y) == a * 32+b)=((x,y) == ((a:Int),(b:Int)) || (x,y) == ((b:Int),(a:Int))):=by
     rw [Bool.eq_iff_iff]
     simp only [beq_iff_eq,Bool.or_eq_true,Prod.mk.injEq,MX]
     split <;> omega
    have e2:¬ (((x,y) == ((a:Int),(b:Int)))=true∧((x,y) == ((b:Int),(a:Int)))=true):=by
     simp only [beq_iff_eq,Prod.mk.injEq]; omega
    rw [e1]
    cases hx:((x,y) == ((a:Int),(b:Int))) <;> cases hy:((x,y) == ((b:Int),(a:Int))) <;> simp [hx,hy] at e2 ⊢ <;> omega
  have:=key gs hg
  simp
  omega
 ·simp only [if_true] at hs
  have key:∀ (p q:Nat),p<32→q<32→gs.countP (fun g=>SC g == p * 32+q)=gs.countP (fun g=>g == ((p:Int),(q:Int))):=by
   intro p q hp hq
   apply List.countP_congr
   intro g hg1
   have:=hg g hg1
   obtain ⟨x,y⟩:=g
   simp only [beq_iff_eq,Prod.mk.injEq,SC] at this ⊢
   omega
  simp at hbit
  have h1:=hs (a * 32+b)
  have h2:=hs (b * 32+a)
  rw [hbit.1] at h1
  rw [hbit.2] at h2
  rw [key a b (by omega) (by omega)] at h1
  rw [key b a (by omega) (by omega)] at h2
  simp at h1 h2
  unfold lN
  rw [if_pos rfl,rF,rF]
  simp
  omega
theorem acD (n:Nat) (tw:Bool) (h0:2≤n) (h1:n≤32):∀ g∈(kY n tw).flatten,0≤g.1∧g.1<n∧0≤g.2∧g.2<n∧g.1≠g.2:=by
 intro g hg
 obtain ⟨l,hl,hgl⟩:=List.mem_flatten.1 hg
 obtain ⟨r,hr,rfl⟩:=List.mem_map.1 hl
 have hr':=List.mem_range.1 hr
 have:iy n tw≤62:=by unfold iy iZ; split <;> omega
 exact YX n r h0 h1 (by omega) g hgl
theorem Y4 (n:Nat) (tw:Bool) (h0:2≤n) (h1:n≤32):((kY n tw).length:Int)=iy n tw:=by
 have:1≤iy n tw:=by unfold iy iZ; split <;> omega
 unfold kY; simp; omega
theorem Y7 (n:Nat) (tw:Bool) (h0:2≤n) (h1:n≤32) (h:Jo n tw=true):tZ n tw (kY n tw)=0∧kX n tw (kY n tw).flatten=true:=by
 unfold Jo at h
 rw [Bool.and_eq_true,beq_iff_eq] at h
 obtain ⟨ha,hb⟩:=h
 have hp:kX n tw (kY n tw).flatten=true:=by
  split at hb
  ·rename_i m hm
   exact FK n tw _ h1 (acD n tw h0 h1) m hm hb
  ·cases hb
 refine ⟨?_,hp⟩
 unfold tZ
 rw [if_neg (by simpa using Y4 n tw h0 h1),if_neg (by simpa using ha),if_pos hp]
theorem U8:((List.range 33).all fun n=>decide (n<2) || (Jo n true && Jo n false))=true:=by decide +kernel
theorem whole (n:Nat) (tw:Bool) (h0:2≤n) (h1:n≤32):tZ n tw (kY n tw)=0∧kX n tw (kY n tw).flatten=true:=by
 have h:=List.all_eq_true.1 U8 n (List.mem_range.2 (by omega))
 rw [Bool.or_eq_true,decide_eq_true_eq] at h
 have h3:=h.resolve_left (by omega)
 rw [Bool.and_eq_true] at h3
 refine Y7 n tw h0 h1 ?_
 cases tw
 ·exact h3.2
 ·exact h3.1
end Go.Proofs.YteablcielclaeaaGreatDoor
namespace Go.Proofs.YteablcielclaeaaGreatDoor
open Go.ChangeShapes Go.WideShapes Go.ChangeAt Go.RowKit
set_option linter.unusedVariables false
open Go.Lib (hid)
theorem Y8 {w:World} {b b':Nat} {e:TypeId} {sz n:Nat} {v:Value} {xs:List Value} (h:w.ownsRow b e sz v n xs) (hb:b'≤b):w.ownsRow b' e sz v n xs:=by
 refine ⟨h.1,?_⟩
 rcases h.2 with h0 | ⟨g,c,cur,hv,hg,r⟩
 ·exact .inl h0
 ·exact .inr ⟨g,c,cur,hv,by omega,r⟩
theorem own_below {w w':World} {b:Nat} {e:TypeId} {sz n:Nat} {v:Value} {xs:List Value} (h:w.ownsRow b e sz v n xs) (hb:Below w.heap.size w w'):w'.ownsRow b e sz v n xs:=
 h.kept (row:=none) ⟨hb.os,hb.tape,hb.output,hb.size,fun k hk _=>hb.block k hk⟩ (by rcases h.2 with ⟨rfl,_⟩ | ⟨g,c,cur,rfl,_⟩ <;> simp [Value.ownBlock])
def Made (w:World) (B:Nat) (v:Value) (vs:List Value) (rows:List (List (Int×Int))):Prop:=
 w.ownsRow B 29 1 v rows.length vs∧∀ j (h:j<rows.length),∃ u,vs[j]?=some u∧w.ownsRow B 31 2 u rows[j].length (flat rows[j])
theorem Made.sched {w:World} {B:Nat} {v:Value} {vs:List Value} {rows:List (List (Int×Int))} (h:Made w B v vs rows):SB w v rows:=
 ⟨vs,Rd.dB h.1,fun j hj=>by obtain ⟨u,hu,ho⟩:=h.2 j hj; exact ⟨u,hu,Rd.dB ho⟩⟩
def Y9 (rows:List (List (Int×Int))) (w:World) (e:Ending) (w':World):Prop:=
 ∃ v vs,e=.returned (.tuple #[v,.int .i64 0])∧Made w' w.heap.size v vs rows∧Below w.heap.size w w'
theorem info30:(Tryz.prog.info? 29).map (fun i=>(i.zero,i.size,i.bytes))=some (some (.slice none 0 0),1,24):=by kernel_rfl
theorem Made.step {w w1 w2:World} {B:Nat} {v v' u:Value} {vs:List Value} {rows:List (List (Int×Int))} {row:List (Int×Int)} (o:Obj) (h:Made w B v vs rows) (hb1:Below w.heap.size w w1) (hu:w1.ownsRow B 31 2 u row.length (flat row))
  (hown:w2.ownsRow B 29 1 v' (rows.length+1) (vs++[u])) (hg:(w1.alloc o).grownBy w2 v.ownBlock):Made w2 B v' (vs++[u]) (rows++[row]):=by
 have hv1:=(own_below h.1 hb1).alloc o
 have hvl:vs.length=rows.length:=by have:=h.1.1; omega
 refine ⟨by simpa using hown,fun j hj=>?_⟩
 rcases Nat.lt_or_ge j rows.length with hlt | hge
 ·obtain ⟨x,hx,hox⟩:=h.2 j hlt
  refine ⟨x,by rw [List.getElem?_append_left (by omega)]; exact hx,?_⟩
  have:=(own_below hox hb1).alloc o
  rw [List.getElem_append_left hlt]
  exact this.kept hg (own_ne this hv1 (by decide))
 ·have:j=rows.length:=by simp at hj; omega
  subst this
  refine ⟨u,by rw [List.getElem?_append_right (by omega),hvl]; simp,?_⟩
  rw [List.getElem_append_right (by omega)]
  simp only [Nat.sub_self,List.getElem_cons_zero]
  have:=hu.alloc o
  exact this.kept hg (own_ne this hv1 (by decide))
set_option maxHeartbeats 1000000 in
theorem afx (n:Nat) (tw:Bool) (w:World) (h0:2≤n) (h1:n≤32) :
  Calls Tryz.prog 6 #[.int .i64 n,.bool tw] w (Y9 (kY n tw) w):=by
 obtain ⟨i0,hi,hz0,hz1,hz2⟩:=info_parts info30
 have hk:1≤iy n tw∧iy n tw≤62:=by unfold iy iZ; split <;> omega
 have HA:Hid (kY n tw=(List.range (iy n tw).toNat).map fun r:Nat=>tX n r):=hid rfl
 go_enter Tryz.func6,Tryz.ntmps6
 go_wp2_with fail
 refine (GX n tw _ (by omega) (by omega)).mono ?_
 rintro e w' ⟨rfl,rfl⟩
 generalize iy n tw=KI at *
 obtain ⟨K,rfl⟩:∃ K:Nat,KI=(K:Int):=⟨KI.toNat,by omega⟩
 rw [Int.toNat_natCast] at HA
 go_wp2_with fail
 go_loopw [8,20] (fun v i wr=>∃ r:Nat,r≤K∧i=.int .i64 r∧Hid (∃ vs,Made wr w.heap.size v vs ((List.range r).map fun r:Nat=>tX n r))∧Below w.heap.size w wr) (fun _ i _=>K - (intOf i).toNat)
 case atStart=>exact ⟨0,by omega,rfl,hid ⟨[],World.ownsRow_nil _ _ _ _,fun j h=>by simp at h⟩,Below.refl _ _⟩
 case round =>
  obtain ⟨r,hr,rfl,HM,hbl⟩:=hrel
  by_cases hlt:r<K
  ·have hsz:=hbl.size
   go_wp2_with fail
   refine (U0 n r _ (by omega) (by omega) (by omega) (by omega)).mono ?_
   rintro e w1 ⟨u,rfl,hown,hb1⟩
   obtain ⟨vs,hm⟩:=HM.out
   have hlen:(List.map (fun r:Nat=>tX n r) (List.range r)).length=r:=by simp
   have hv1:=own_below hm.1 hb1
   rw [hlen] at hv1
   have hu1:=Y8 hown (show w.heap.size≤wr.heap.size+2 by omega)
   have hsz1:=hb1.size
   have Iz:Below w.heap.size w w1:=hbl.trans (hb1.mono hsz)
   obtain ⟨ua,un,uc,rfl⟩:∃ a n c,u=.slice a n c:=by
    rcases hown.2 with ⟨h,_⟩ | ⟨g,c,_,h,_⟩
    ·exact ⟨_,_,_,h⟩
    ·exact ⟨_,_,_,h⟩
   have Hm:=hid hm
   have Hu:=hid hu1
   clear hm hown hu1
   go_wp2_with (at_builtin; go_loud (refine wpList_append_own _ rfl _ _ 24 rfl w.heap.size 29 i0 (.slice none 0 0) 1 24 Tryz.underlying24 hi hz0 hz1 hz2 rfl (by decide) _ r vs rfl (hv1.alloc _) ⟨w1.heap.size,0,none⟩ 1 1 [.slice ua un uc] rfl rfl (cell_one_new _ _ _) ?c2 ?c3 ?c4 ?c5 ?_))
   case c2=>intro x hx; simp at hx; rw [hx]; rfl
   case c3=>unfold maxLen; omega
   case c4=>omega
   case c5=>simp; omega
   intro v' w2 hown' hgrow _
   have sD:=hid (Made.step _ Hm.out hb1 Hu.out (by rw [hlen]; exact hown') hgrow)
   have Dq:Below w.heap.size w w2:=Below.grown (Iz.alloc (by omega) _) hgrow (by simp; omega) (fun k hk=>(hv1.lt k hk).1)
   clear hown' hgrow hv1 Hm Hu hb1 HM
   go_wp2_with fail
   go_roundw
   case rel=>exact ⟨r+1,by omega,by go_num,hid ⟨_,by rw [List.range_succ,List.map_append]; exact sD.out⟩,Dq⟩
   case measure=>simp [intOf]; omega
  ·obtain rfl:r=K:=by omega
   go_wp2_with fail
   go_ret2
   obtain ⟨vs,hm⟩:=HM.out
   exact ⟨_,vs,rfl,by rw [HA.out]; exact hm,hbl⟩
end Go.Proofs.YteablcielclaeaaGreatDoor
namespace Go.Proofs.YteablcielclaeaaGreatDoor
open Go.ChangeShapes Go.WideShapes Go.ChangeAt Go.RowKit
set_option linter.unusedVariables false
set_option maxHeartbeats 1000000
set_option maxRecDepth 100000
structure eX where
 fst:Int
 snd:Int
 pts:Int
def eX.val (g:eX):Value:=.agg #[.int .i64 g.fst,.int .i64 g.snd,.int .i64 g.pts]
end Go.Proofs.YteablcielclaeaaGreatDoor
namespace Go.Proofs.YteablcielclaeaaGreatDoor
open Go.ChangeShapes Go.WideShapes Go.ChangeAt Go.RowKit
set_option linter.unusedVariables false
def iq (gs:List eX):List Value:=gs.flatMap fun g=>[.int .i64 g.fst,.int .i64 g.snd,.int .i64 g.pts]
theorem MZ (gs:List eX) (k:Nat) (h:k<gs.length):(iq gs)[k * 3]?=some (.int .i64 gs[k].fst)∧(iq gs)[k * 3+1]?=some (.int .i64 gs[k].snd)∧(iq gs)[k * 3+2]?=some (.int .i64 gs[k].pts):=by
 induction gs generalizing k with
 | nil=>simp at h
 | cons g t ih =>
  cases k with
  | zero=>exact ⟨rfl,rfl,rfl⟩
  | succ k =>
   have:=ih k (by simpa using h)
   have e:(k+1) * 3=k * 3+3:=by omega
   rw [e]
   exact this
def G9 (w:World) (v:Value) (gs:List eX):Prop:=Rd w 3 gs.length v (iq gs)
theorem G9.below {w w':World} {v:Value} {gs:List eX} {B:Nat} (h:G9 w v gs) (hb:Below B w w') (hB:w.heap.size≤B):G9 w' v gs:=Rd.below h hb hB
theorem G9.form {w:World} {v:Value} {gs:List eX} (h:G9 w v gs):∃ a c,v=.slice a gs.length c∧gs.length≤c∧c≤maxLen ∧
  ∀ k (hk:k<gs.length),∃ g o,a=some ⟨g,o,none⟩∧g<w.heap.size∧w.cell? ⟨g,o+k * 3,none⟩=some (.int .i64 gs[k].fst)∧w.cell? ⟨g,o+k * 3+1,none⟩=some (.int .i64 gs[k].snd)∧w.cell? ⟨g,o+k * 3+2,none⟩=some (.int .i64 gs[k].pts):=by
 rcases h.2 with ⟨⟨a,c,h,hm⟩,hz⟩ | ⟨g,o,c,h',h1,h2,hc⟩
 ·exact ⟨a,c,by rw [h,hz],by omega,hm,fun k hk=>by omega⟩
 ·refine ⟨_,_,h',h1,h2,fun k hk=>⟨g,o,rfl,?_⟩⟩
  obtain ⟨q0,q1,q2⟩:=MZ gs k hk
  have e0:=(hc (k * 3) (by omega)).trans q0
  have e1:=(hc (k * 3+1) (by omega)).trans q1
  have e2:=(hc (k * 3+2) (by omega)).trans q2
  exact ⟨World.block_lt_of_cell? w _ e0,e0,e1,e2⟩
end Go.Proofs.YteablcielclaeaaGreatDoor
namespace Go.Proofs.YteablcielclaeaaGreatDoor
open Go.ChangeShapes Go.WideShapes Go.ChangeAt Go.RowKit
set_option linter.unusedVariables false
open Go.Lib (hid)
theorem QA (gs:List eX) (k:Nat):(iq gs).take (k * 3)=iq (gs.take k):=by
 induction gs generalizing k with
 | nil=>simp [iq]
 | cons g t ih =>
  cases k with
  | zero=>simp [iq]
  | succ k =>
   have e1:iq (g :: t)=.int .i64 g.fst :: .int .i64 g.snd :: .int .i64 g.pts :: iq t:=rfl
   have e2:iq (g :: t.take k)=.int .i64 g.fst :: .int .i64 g.snd :: .int .i64 g.pts :: iq (t.take k):=rfl
   rw [e1,List.take_succ_cons,e2,show (k+1) * 3=k * 3+1+1+1 by omega,List.take_succ_cons,List.take_succ_cons,List.take_succ_cons,ih]
theorem G9.take {w:World} {a:Option Addr} {c:Nat} {gs:List eX} (h:G9 w (.slice a gs.length c) gs) (k:Nat) (hk:k≤gs.length):G9 w (.slice a k c) (gs.take k):=by
 have:=Rd.take h k hk
 rw [QA] at this
 unfold G9
 rw [List.length_take,Nat.min_eq_left hk]
 exact this
def yV (n:Int) (a b:Int):Bool:=decide (0≤a) && decide (a<n) && decide (0≤b) && decide (b<n) && decide (a≠b)
theorem Em (n a b:Int) (w:World):Calls Tryz.prog 66 #[.int .i64 n,.int .i64 a,.int .i64 b] w fun e w'=>e=.returned (.bool (yV n a b))∧w=w':=by
 have hc:a<0∨(0≤a∧n≤a)∨(0≤a∧a<n∧b<0)∨(0≤a∧a<n∧0≤b∧n≤b)∨(0≤a∧a<n∧0≤b∧b<n∧a=b)∨(0≤a∧a<n∧0≤b∧b<n∧¬ a=b):=by omega
 have HT:Hid (yV n a b=(decide (0≤a) && decide (a<n) && decide (0≤b) && decide (b<n) && decide (a≠b))):=hid rfl
 rcases hc with q | ⟨q1,q2⟩ | ⟨q1,q2,q3⟩ | ⟨q1,q2,q3,q4⟩ | ⟨q1,q2,q3,q4,q5⟩ | ⟨q1,q2,q3,q4,q5⟩
 all_goals
  go_enter Tryz.func66,Tryz.ntmps66
  go_wp2
  go_ret
  first
   | exact ⟨by rw [show yV n a b=false by unfold yV; simp; omega]; rfl,rfl⟩
   | exact ⟨by rw [show yV n a b=true by unfold yV; simp; omega]; rfl,rfl⟩
   | exact ⟨by rw [show yV n a b=(a != b) by (have p1:decide (0≤a)=true:=decide_eq_true q1; have p2:decide (a<n)=true:=decide_eq_true q2; have p3:decide (0≤b)=true:=decide_eq_true q3; have p4:decide (b<n)=true:=decide_eq_true q4; unfold yV; rw [p1,p2,p3,p4]; by_cases h:a=b <;> simp [h])]; rfl,rfl⟩
def l7 (n:Int):List eX→Int
 | []=>0
 | g :: t=>if yV n g.fst g.snd=false then 3 else if g.pts<0∨2<g.pts then 4 else l7 n t
def vJ (n:Int) (gs:List eX):Int:=if n<1∨32<n∨600<gs.length then 2 else l7 n gs
theorem QB (n:Int) (gs:List eX) (k:Nat) (h:k<gs.length):l7 n (gs.drop k)=if yV n gs[k].fst gs[k].snd=false then 3 else if gs[k].pts<0∨2<gs[k].pts then 4 else l7 n (gs.drop (k+1)):=by
 rw [List.drop_eq_getElem_cons h,l7]
set_option maxHeartbeats 1000000 in
theorem QC (n:Int) (vg:Value) (gs:List eX) (w:World) (hg:G9 w vg gs):Calls Tryz.prog 24 #[.int .i64 n,vg] w fun e w'=>e=.returned (.int .i64 (vJ n gs))∧Below w.heap.size w w':=by
 obtain ⟨a,c,rfl,h1,h2,hcells⟩:=hg.form
 unfold maxLen at h2
 have HG:=hid hcells
 clear hg hcells
 by_cases hb:n<1∨32<n∨600<gs.length
 ·have HR:=hid (show vJ n gs=2 by unfold vJ; rw [if_pos hb])
  have hb':n<1∨(¬ n<1∧32<n)∨(¬ n<1∧¬ 32<n∧600<(gs.length:Int)):=by omega
  clear hb
  rcases hb' with q | ⟨q1,q2⟩ | ⟨q1,q2,q3⟩
  all_goals
   go_enter Tryz.func24,Tryz.ntmps24
   go_wp2
   go_ret
   exact ⟨by rw [HR.out]; rfl,Below.refl _ _⟩
 ·have HR:=hid (show vJ n gs=l7 n gs by unfold vJ; rw [if_neg hb])
  have q1:¬ n<1:=by omega
  have q2:¬ 32<n:=by omega
  have q3:¬ 600<(gs.length:Int):=by omega
  clear hb
  go_enter Tryz.func24,Tryz.ntmps24
  go_wp2_with fail
  go_loopw [20] (fun i wr=>∃ k:Nat,k≤gs.length∧i=.int .i64 k∧Hid (l7 n gs=l7 n (gs.drop k))∧Below w.heap.size w wr) (fun i _=>gs.length - (intOf i).toNat)
  case atStart=>exact ⟨0,Nat.zero_le _,rfl,hid rfl,Below.refl _ _⟩
  case round =>
   obtain ⟨k,hk,rfl,HK,hbl⟩:=hrel
   by_cases hlt:k<gs.length
   ·obtain ⟨gb,o,rfl,hgb,c0,c1,c2⟩:=HG.out k hlt
    have d0:=(hbl.cell (p:=⟨gb,o+k * 3,none⟩) hgb).trans c0
    have d1:=(hbl.cell (p:=⟨gb,o+k * 3+1,none⟩) hgb).trans c1
    have d2:=(hbl.cell (p:=⟨gb,o+k * 3+2,none⟩) hgb).trans c2
    clear c0 c1 c2
    have HS:=hid (QB n gs k hlt)
    have hsz:=hbl.size
    have hlz:(k:Int)<gs.length:=by omega
    generalize gs[k]=gk at *
    obtain ⟨x,y,p⟩:=gk
    simp only at *
    cases hw:yV n x y
    ·go_wp2_with (refine (Em _ _ _ _).mono ?_; rintro e w' ⟨rfl,rfl⟩; rw [hw])
     go_ret
     exact ⟨by rw [HR.out,HK.out,HS.out,if_pos (by rw [hw])]; rfl,by go_grown⟩
    ·by_cases hp:p<0∨2<p
     ·have hp':p<0∨(¬ p<0∧2<p):=by omega
      have HS2:=hid (show l7 n gs=4 by rw [HK.out,HS.out,if_neg (by simp [hw]),if_pos hp])
      clear hp
      rcases hp' with hp | ⟨hp1,hp2⟩
      all_goals
       go_wp2_with (refine (Em _ _ _ _).mono ?_; rintro e w' ⟨rfl,rfl⟩; rw [hw])
       go_ret
       exact ⟨by rw [HR.out,HS2.out]; rfl,by go_grown⟩
     ·have hp1:¬ p<0:=by omega
      have hp2:¬ 2<p:=by omega
      have HS2:=hid (show l7 n gs=l7 n (gs.drop (k+1)) by rw [HK.out,HS.out,if_neg (by simp [hw]),if_neg hp])
      clear hp
      go_wp2_with (refine (Em _ _ _ _).mono ?_; rintro e w' ⟨rfl,rfl⟩; rw [hw])
      go_roundw
      case rel=>exact ⟨k+1,by omega,by go_num,HS2,by go_grown⟩
      case measure=>simp [intOf]; omega
   ·obtain rfl:k=gs.length:=by omega
    have HF:=hid (show l7 n gs=0 by rw [HK.out,List.drop_length,l7])
    go_wp2_with fail
    go_ret
    exact ⟨by rw [HR.out,HF.out]; rfl,hbl⟩
structure SE (n:Int) (g:eX):Prop where
 a0:0≤g.fst
 a1:g.fst<n
 b0:0≤g.snd
 b1:g.snd<n
 ne:g.fst≠g.snd
 p0:0≤g.pts
 p1:g.pts≤2
theorem He {n:Int}:∀ {gs:List eX},l7 n gs=0→∀ k (hk:k<gs.length),SE n gs[k]
 | [],_,k,hk=>by simp at hk
 | g :: t,h,k,hk=>by
  unfold l7 at h
  split at h
  ·cases h
  ·rename_i h1
   split at h
   ·cases h
   ·rename_i h2
    cases k with
    | zero =>
     simp [yV] at h1
     obtain ⟨r1,r2,r3,r4,r5⟩:=h1
     exact ⟨r1,r2,r3,r4,r5,by show 0≤g.pts; omega,by show g.pts≤2; omega⟩
    | succ k=>exact He h k (by simpa using hk)
theorem Za {n:Int} {gs:List eX} (h:vJ n gs=0):(1≤n∧n≤32∧gs.length≤600)∧∀ k (hk:k<gs.length),SE n gs[k]:=by
 unfold vJ at h
 split at h
 ·cases h
 ·exact ⟨by omega,He h⟩
theorem Jp (l:List Int) (i j:Nat) (x:Int):(l.set i x).getD j 0=if i=j∧i<l.length then x else l.getD j 0:=by
 rw [List.getD_eq_getElem?_getD,List.getElem?_set,List.getD_eq_getElem?_getD]
 by_cases h:i=j
 ·subst h
  by_cases h2:i<l.length <;> simp [h2]
 ·simp [h]
theorem Jq:∀ (l:List Int) (i:Nat) (x:Int),i<l.length→(l.set i x).sum=l.sum - l.getD i 0+x
 | [],i,x,h=>by simp at h
 | a :: t,0,x,_=>by simp; omega
 | a :: t,i+1,x,h=>by
  have:=Jq t i x (by simpa using h)
  simp only [List.set_cons_succ,List.sum_cons,List.getD_cons_succ,this]
  omega
def Zb (z:List Int) (i j:Nat) (p:Int):List Int:=(z.set i (z.getD i 0+p)).set j (z.getD j 0+(2 - p))
structure Jr (n k:Nat) (z:List Int):Prop where
 len:z.length=n
 sum:z.sum=2 * k
 bnd:∀ i:Nat,0≤z.getD i 0∧z.getD i 0≤2 * k
theorem Jr.add {n k:Nat} {z:List Int} (h:Jr n k z) (i j:Nat) (p:Int) (hi:i<n) (hj:j<n) (hij:i≠j) (hp:0≤p) (hp2:p≤2):Jr n (k+1) (Zb z i j p):=by
 refine ⟨by simp [Zb,h.len],?_,fun q=>?_⟩
 ·unfold Zb
  rw [Jq _ j _ (by simp [h.len,hj]),Jq _ i _ (by rw [h.len]; exact hi),Jp,if_neg (by omega),h.sum]
  push_cast
  omega
 ·have h1:=h.bnd i
  have h2:=h.bnd j
  have h3:=h.bnd q
  unfold Zb
  rw [Jp,Jp]
  push_cast
  split
  ·omega
  ·split <;> omega
theorem Jr.zero (n:Nat):Jr n 0 (List.replicate n 0):=⟨by simp,by simp,fun i=>by rw [List.getD_eq_getElem?_getD,List.getElem?_replicate]; split <;> simp⟩
def QD (n k:Nat) (w:World) (e:Ending) (w':World):Prop:=∃ v z,e=.returned v∧w'.ownsRow w.heap.size 3 1 v n (ints z)∧Jr n k z∧Below w.heap.size w w'
set_option maxHeartbeats 1000000 in
theorem En (n:Nat) (vg:Value) (gs:List eX) (w:World) (hg:G9 w vg gs) (hgs:gs.length≤600) (h0:1≤n) (h32:n≤32) (hgood:∀ k (hk:k<gs.length),SE n gs[k]) :
  Calls Tryz.prog 25 #[.int .i64 (n:Int),vg] w (QD n gs.length w):=by
 obtain ⟨i0,hi,hz0,hz1,hz2⟩:=info_parts info3
 obtain ⟨a,c,rfl,h1,h2,hcells⟩:=hg.form
 unfold maxLen at h2
 have HG:=hid hcells
 have Zc:=hid hgood
 clear hg hcells hgood
 go_enter Tryz.func25,Tryz.ntmps25
 go_wp2_with (at_make; refine wpList_make_full _ rfl _ _ 22 rfl w.heap.size 3 i0 (.int .i64 0) 1 Tryz.underlying22 hi hz0 hz1 .i64 .i64 n n n rfl rfl rfl rfl (by rw [hz2]; omega) (by unfold maxLen; omega) (Nat.le_refl _) ?_; intro w1 hown hgrow)
 have hb1:Below w.heap.size w w1:=Below.grown (Below.refl _ w) hgrow (Nat.le_refl _) (fun q hq=>by simp [Value.ownBlock] at hq)
 rw [F8] at hown
 have HO:=hid hown
 clear hown hgrow
 go_loopw [12] (fun i wr=>∃ k:Nat,k≤gs.length∧i=.int .i64 k∧Hid (∃ z,wr.ownsRow w.heap.size 3 1 (.slice (some ⟨w.heap.size,0,none⟩) n n) n (ints z)∧Jr n k z)∧Below w.heap.size w wr) (fun i _=>gs.length - (intOf i).toNat)
 case atStart=>exact ⟨0,Nat.zero_le _,rfl,hid ⟨_,HO.out,Jr.zero n⟩,hb1⟩
 case round =>
  obtain ⟨k,hk,rfl,HK,hbl⟩:=hrel
  by_cases hlt:k<gs.length
  ·obtain ⟨gb,o,rfl,hgb,c0,c1,c2⟩:=HG.out k hlt
   have d0:=(hbl.cell (p:=⟨gb,o+k * 3,none⟩) hgb).trans c0
   have d1:=(hbl.cell (p:=⟨gb,o+k * 3+1,none⟩) hgb).trans c1
   have d2:=(hbl.cell (p:=⟨gb,o+k * 3+2,none⟩) hgb).trans c2
   clear c0 c1 c2
   have hsz:=hbl.size
   have hlz:(k:Int)<gs.length:=by omega
   obtain ⟨r1,r2,r3,r4,r5,r6,r7⟩:=Zc.out k hlt
   obtain ⟨z,hown,hz⟩:=HK.out
   have HW:=hid hown
   have HZ:=hid hz
   have hG:w.heap.size<wr.heap.size:=(hown.lt w.heap.size rfl).2
   have hzl:=hz.len
   clear hown HK
   generalize gs[k]=gk at *
   obtain ⟨x,y,p⟩:=gk
   simp only at *
   obtain ⟨i,rfl⟩:∃ i:Nat,x=(i:Int):=⟨x.toNat,by omega⟩
   obtain ⟨j,rfl⟩:∃ i:Nat,y=(i:Int):=⟨y.toNat,by omega⟩
   have q6:i<n:=by omega
   have q7:j<n:=by omega
   have n3:¬ i=j:=by omega
   have n4:¬ j=i:=by omega
   have n1:¬ w.heap.size=wr.heap.size:=by omega
   have n2:¬ wr.heap.size=w.heap.size:=by omega
   have k2:wr.cell? ⟨w.heap.size,i,none⟩=some (.int .i64 (z.getD i 0)):=(HW.out.cellAt i (by omega)).trans (dI _ i (by omega))
   have k3:wr.cell? ⟨w.heap.size,j,none⟩=some (.int .i64 (z.getD j 0)):=(HW.out.cellAt j (by omega)).trans (dI _ j (by omega))
   have f2:wr.frozen? ⟨w.heap.size,i,none⟩=false:=HW.out.frozenAt i
   have f3:wr.frozen? ⟨w.heap.size,j,none⟩=false:=HW.out.frozenAt j
   obtain ⟨b1,b1'⟩:=hz.bnd i
   obtain ⟨b2,b2'⟩:=hz.bnd j
   have HN:=hid (hz.add i j p q6 q7 n3 r6 r7)
   have HFin:Hid (((((wr.setCell ⟨w.heap.size,i,none⟩ (.int .i64 (z.getD i 0+p))).setCell ⟨w.heap.size,j,none⟩ (.int .i64 (z.getD j 0+(2 - p)))).alloc (.cells #[.int .i64 (i:Int),.int .i64 (j:Int),.int .i64 p] 33)).drew.drew).ownsRow w.heap.size 3 1 (.slice (some ⟨w.heap.size,0,none⟩) n n) n (ints (Zb z i j p))):=hid (by
    have h2:=(HW.out.stored i (.int .i64 (z.getD i 0+p))).1
    have h3:=(h2.stored j (.int .i64 (z.getD j 0+(2 - p)))).1
    rw [ints_set,ints_set] at h3
    exact (h3.alloc _).drew.drew)
   clear hz HW
   generalize hzi:z.getD i 0=zi at *
   generalize hzj:z.getD j 0=zj at *
   clear hzi hzj
   go_wp2_with fail
   go_region
   go_wp2_with fail
   go_region
   go_wp2_with fail
   go_roundw
   case rel=>exact ⟨k+1,by omega,by go_num,hid ⟨_,HFin.out,HN.out⟩,by go_grown⟩
   case measure=>simp [intOf]; omega
  ·obtain rfl:k=gs.length:=by omega
   obtain ⟨z,hown,hz⟩:=HK.out
   have HW:=hid hown
   clear hown HK
   go_wp2_with fail
   go_ret
   exact ⟨_,z,rfl,HW.out,hz,hbl⟩
end Go.Proofs.YteablcielclaeaaGreatDoor
namespace Go.Proofs.YteablcielclaeaaGreatDoor
open Go.Sort
set_option linter.unusedVariables false
variable {α:Type} {lt:α→α→Bool}
variable [Inhabited α]
section
variable {a s m e b:Nat} {d d':Array α}
end
section
variable {lo hi q h:Nat} {d:Array α} {x:α}
end
section
variable {a m b p s0 r0 s r:Nat} {d:Array α}
end
end Go.Proofs.YteablcielclaeaaGreatDoor

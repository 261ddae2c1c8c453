/- ClaimP, AnS, RwT, RwU, RdP, RdA, RdB, RdC, AnM, RecC, AnN, AnT, AnU, AnV, AnG, AnH, AnI, RdD, RdE, AnJ, RdF, RdG, Begin2, RdH, RdS, RecT, RecU, GyR, RecN, RecK, RdI, RwA, RwV, RwB, RwC, RwW. -/
import Derived.Test.YteablcielclaeaaGreatDoorP26
import Derived.Lib.SlTrimSet
import Derived.Lib.IndexAny
import Derived.Lib.IndexMore
import Derived.Deep.CutRange
import Derived.Defers
import Derived.Recover
namespace Go.Proofs.YteablcielclaeaaGreatDoor
set_option linter.unusedVariables false
section
variable {R:aA} {l:List aB}
end
end Go.Proofs.YteablcielclaeaaGreatDoor
namespace Go.Proofs.YteablcielclaeaaGreatDoor
open Go.ChangeShapes Go.WideShapes Go.ChangeAt Go.RowKit
set_option linter.unusedVariables false
def trees (X:FB):List BrZ:=adS X.nodes (X.nodes.length+1) (-1)
def bt (b:ByteArray):tN:=b.data.toList
end Go.Proofs.YteablcielclaeaaGreatDoor
namespace Go.Proofs.YteablcielclaeaaGreatDoor
open Go.ChangeShapes Go.WideShapes Go.ChangeAt Go.RowKit
set_option linter.unusedVariables false
def Mx (base:Nat) (w:World):Prop:=∃ (g:Nat) (m:Int),Tryz.prog.globalNamed "internal/bytealg.MaxLen" = some g∧g<base∧w.cell? ⟨g,0,none⟩=some (.int .i64 m)
theorem Mx.below {base:Nat} {w w':World} (h:Mx base w) (hb:Below base w w'):Mx base w':=by
 obtain ⟨g,m,h1,h2,h3⟩:=h
 exact ⟨g,m,h1,h2,by rw [Below.cell hb h2]; exact h3⟩
theorem Mx.mono {base base':Nat} {w:World} (h:Mx base w) (hb:base≤base'):Mx base' w:=by
 obtain ⟨g,m,h1,h2,h3⟩:=h
 exact ⟨g,m,h1,Nat.lt_of_lt_of_le h2 hb,h3⟩
theorem Mx.fr {b:Nat} {w w':World} (h:Mx b w) (hf:Fr (· = b) w w') (hb:b<w.heap.size):Mx b w':=by
 obtain ⟨g,m,h1,h2,h3⟩:=h
 exact ⟨g,m,h1,h2,by rw [World.cell?_of_block (w:=w) (hf.block g (by omega) (show ¬ g=b by omega))]; exact h3⟩
theorem aff (s:ByteArray):(bt s).length=s.size:=Array.length_toList
theorem acy (l:tN):(bs l).size=l.length:=by simp [bs,ByteArray.size]
set_option maxRecDepth 100000
set_option maxHeartbeats 8000000
variable {R:aA} {vp vs ve x0 x1 x2 x3:Value}
end Go.Proofs.YteablcielclaeaaGreatDoor
namespace Go.Proofs.YteablcielclaeaaGreatDoor
open Go.ChangeShapes Go.WideShapes Go.ChangeAt Go.RowKit
set_option linter.unusedVariables false
structure RdH (b:Nat) (R:aA) (vp vs ve:Value) (w:World):Prop where
 rd:Held (· = b) w fun w'=>pV w' R vp vs ve
 nm:R.name.size≤maxLen
 re:aJ R=0
 mx:Mx b w
 bl:b<w.heap.size
theorem RdH.step {b:Nat} {R:aA} {vp vs ve:Value} {w w':World} (h:RdH b R vp vs ve w) (hf:Fr (· = b) w w'):RdH b R vp vs ve w':=
 ⟨h.rd.step hf (iE.refl _ _),h.nm,h.re,h.mx.fr hf h.bl,Nat.lt_of_lt_of_le h.bl hf.size⟩
set_option maxRecDepth 100000
set_option maxHeartbeats 8000000
variable {R:aA} {vp vs ve x0 x1 x2 x3:Value}
end Go.Proofs.YteablcielclaeaaGreatDoor
namespace Go.Proofs.YteablcielclaeaaGreatDoor
open Go.ChangeShapes Go.WideShapes Go.ChangeAt Go.RowKit
set_option linter.unusedVariables false
def resV:List Value:=aiJ.map fun x=>.string (bs x)
set_option maxRecDepth 100000
set_option maxHeartbeats 8000000
end Go.Proofs.YteablcielclaeaaGreatDoor
namespace Go.Proofs.YteablcielclaeaaGreatDoor
open Go.ChangeShapes Go.WideShapes Go.ChangeAt Go.RowKit
set_option linter.unusedVariables false
variable {q:Nat→Prop} {tb te:TypeId}
end Go.Proofs.YteablcielclaeaaGreatDoor
namespace Go.Proofs.YteablcielclaeaaGreatDoor
open Go.ChangeShapes Go.WideShapes Go.ChangeAt Go.RowKit
set_option linter.unusedVariables false
end Go.Proofs.YteablcielclaeaaGreatDoor
namespace Go.Proofs.YteablcielclaeaaGreatDoor
open Go.ChangeShapes Go.WideShapes Go.ChangeAt Go.RowKit
set_option linter.unusedVariables false
variable {q:Nat→Prop} {tb te:TypeId}
end Go.Proofs.YteablcielclaeaaGreatDoor
namespace Go.Proofs.YteablcielclaeaaGreatDoor
open Go.ChangeShapes Go.WideShapes Go.ChangeAt Go.RowKit
set_option linter.unusedVariables false
variable {tb te:TypeId}
end Go.Proofs.YteablcielclaeaaGreatDoor
namespace Go.Proofs.YteablcielclaeaaGreatDoor
open Go.ChangeShapes Go.WideShapes Go.ChangeAt Go.RowKit
set_option linter.unusedVariables false
theorem afg {ops:Array Oper} {rest:List Oper} {o:Oper} {a:Act} {Q:Exit→Act→World→Prop} (t e:TypeId) (z:Value) (k b:Nat)
  (hI:(Tryz.prog.info? e).map (fun i=>(i.zero,i.size,i.bytes))=some (some z,k,b)) (ht:Tryz.prog.underlying t=some (.slice e)) (hzs:z.cells.size=k) (hk:0<k) (hgd:o.guard=none) (s x:Operand)
  (ho:o.op=.call { callee:=.builtin .append,args:=#[s,x],argTypes:=#[t,t] }) (base:Nat) (v:Value) (n:Nat) (xs news:List Value) (W:World) (hown:W.ownsRow base e k v n xs) (hb:base≤W.heap.size)
  (hl:news.length=k) (h1:∀ u∈news,u.oneCell'=true) (hn:n+1≤100000000) (hbb:(n+1) * b≤140737488355328) (hs:a.eval s=v) (hx:a.eval x=.slice (some ⟨W.heap.size,0,none⟩) 1 1)
  (h:∀ g cap w',w'.ownsRow base e k (.slice (some ⟨g,0,none⟩) (n+1) cap) (n+1) (xs++news)→(v.ownBlock=some g∨W.heap.size≤g)→(W.alloc (.cells news.toArray e)).grownBy w' v.ownBlock →
   wpList Tryz.prog ops Q rest (a.put o.dst (.slice (some ⟨g,0,none⟩) (n+1) cap)) w'):wpList Tryz.prog ops Q (o :: rest) a (W.alloc (.cells news.toArray e)):=by
 obtain ⟨i,hi,hz,hsz,hby⟩:∃ i,Tryz.prog.info? e=some i∧i.zero=some z∧i.size=k∧i.bytes=b:=by
  cases hh:Tryz.prog.info? e with
  | none=>rw [hh] at hI; cases hI
  | some i =>
   rw [hh] at hI
   simp only [Option.map_some,Option.some.injEq,Prod.mk.injEq] at hI
   exact ⟨i,rfl,hI.1,hI.2.1,hI.2.2⟩
 refine wpList_append_lies _ hgd s x t ho base e i z k b ht hi hz hsz hby hzs hk v n xs hs (hown.alloc _) ⟨W.heap.size,0,none⟩ 1 1 news hx (by rw [hl,Nat.one_mul]) (zH W news e) h1 (by decide) (by unfold maxLen; omega) hbb (by simp; omega) _ rfl ?_
 intro g cap w' hown' hg hat hlt
 refine h g cap w' hown' ?_ hg
 rcases hat with hat | hat
 ·exact .inl hat
 ·exact .inr (by rw [hat]; simp)
end Go.Proofs.YteablcielclaeaaGreatDoor
namespace Go.Proofs.YteablcielclaeaaGreatDoor
open Go.ChangeShapes Go.WideShapes Go.ChangeAt Go.RowKit
set_option linter.unusedVariables false
set_option maxRecDepth 100000
set_option maxHeartbeats 8000000
variable {R:aA} {vp vs ve x0 x1 x2 x3:Value}
end Go.Proofs.YteablcielclaeaaGreatDoor
namespace Go.Proofs.YteablcielclaeaaGreatDoor
open Go.ChangeShapes Go.WideShapes Go.ChangeAt Go.RowKit
set_option linter.unusedVariables false
def cnt (ks:List BrZ):Nat:=(YH [] ks).length
end Go.Proofs.YteablcielclaeaaGreatDoor
namespace Go.Proofs.YteablcielclaeaaGreatDoor
open Go.ChangeShapes Go.WideShapes Go.ChangeAt Go.RowKit
set_option linter.unusedVariables false
set_option maxRecDepth 100000
set_option maxHeartbeats 8000000
variable {R:aA} {vp vs ve x0 x1 x2 x3:Value} {s:ByteArray}
end Go.Proofs.YteablcielclaeaaGreatDoor
namespace Go.Proofs.YteablcielclaeaaGreatDoor
open Go.ChangeShapes Go.WideShapes Go.ChangeAt Go.RowKit
set_option linter.unusedVariables false
set_option maxRecDepth 100000
set_option maxHeartbeats 8000000
end Go.Proofs.YteablcielclaeaaGreatDoor
namespace Go.Proofs.YteablcielclaeaaGreatDoor
open Go.ChangeShapes Go.WideShapes Go.ChangeAt Go.RowKit
set_option linter.unusedVariables false
end Go.Proofs.YteablcielclaeaaGreatDoor
namespace Go.Proofs.YteablcielclaeaaGreatDoor
open Go.ChangeShapes Go.WideShapes Go.ChangeAt Go.RowKit
set_option linter.unusedVariables false
set_option maxRecDepth 100000
set_option maxHeartbeats 8000000
variable {R:aA} {vp vs ve:Value}
theorem MK (w:World):Calls Tryz.prog 56 #[] w fun e w'=>e=.returned (.agg #[.string ⟨#[42]⟩,.string ⟨#[49,45,48]⟩,.string ⟨#[48,45,49]⟩,.string ⟨#[49,47,50]⟩])∧Below w.heap.size w w':=by
 go_enter Tryz.func56,Tryz.ntmps56
 go_wp2_with fail
 have hbx:=Box.new w resV 166
 have q0:=hbx.cell 0 rfl
 have q1:=hbx.cell 1 rfl
 have q2:=hbx.cell 2 rfl
 have q3:=hbx.cell 3 rfl
 refine bodyPost_ret (dJ rfl (by rfl) hbx Tryz.underlying166 (by rfl) (by kernel_rfl)) rfl ⟨rfl,(Below.refl _ _).alloc (Nat.le_refl _) _⟩
end Go.Proofs.YteablcielclaeaaGreatDoor
namespace Go.Proofs.YteablcielclaeaaGreatDoor
open Go.ChangeShapes Go.WideShapes Go.ChangeAt Go.RowKit
set_option linter.unusedVariables false
end Go.Proofs.YteablcielclaeaaGreatDoor
namespace Go.Proofs.YteablcielclaeaaGreatDoor.gy
open Go.ChangeShapes Go.WideShapes Go.ChangeAt Go.RowKit
set_option linter.unusedVariables false
open Go.Proofs.YteablcielclaeaaGreatDoor
open Go.Lib (hid)
def none':Nat→Prop:=fun _=>False
theorem YN {S:Nat→Prop} {w:World} {D:World→Prop} (h:Held S w D):gx.Held none' S w D:=fun w' hw=>h w' (hw.mono (fun k _ hk=>hk.elim id False.elim))
theorem YO {S:Nat→Prop} {w:World} {D:World→Prop} (h:gx.Held none' S w D):Held S w D:=h.plain
theorem an4 {S:Nat→Prop} {base:Nat} {w:World} {b:Nat} {R:aA} {ms:List aB} {vp vs ve vl vm:Value} {rows:List lK} (h:bJ S base w b R ms vp vs ve vl vm rows):gx.bJ none' S base w b R ms vp vs ve vl vm rows:=
 ⟨h.box,h.sb,h.lo,YN h.rd,h.ol,h.mp,fun r hr=>YN (h.rw r hr),h.om,h.sl,h.sm,h.ap,h.lt,h.la,h.re⟩
theorem aiK {S:Nat→Prop} {base:Nat} {w:World} {b:Nat} {R:aA} {ms:List aB} {vp vs ve vl vm:Value} {rows:List lK} (h:gx.bJ none' S base w b R ms vp vs ve vl vm rows):bJ S base w b R ms vp vs ve vl vm rows:=
 ⟨h.box,h.sb,h.lo,YO h.rd,h.ol,h.mp,fun r hr=>YO (h.rw r hr),h.om,h.sl,h.sm,h.ap,h.lt,h.la,h.re⟩
theorem BZ (R:aA) (vp vs ve:Value) (w:World) (hr:pV w R vp vs ve) (hnm:R.name.size≤maxLen) :
  Calls Tryz.prog 40 #[(.agg #[.string R.name,.int .i64 R.width,.int .i64 R.height,vp,vs,.bool R.falls,.bool R.keeps,ve,.int .i64 R.blocked,.int .i64 R.quiet,.int .i64 R.bC])] w (IJ R w):=
 (gx.BZ R vp vs ve w hr hnm).mono fun e w' h=>by
  rcases h with h | ⟨h0,S,b,vp,vs,ve,vl,vm,rows,he,hg,hb⟩
  ·exact .inl h
  ·exact .inr ⟨h0,S,b,vp,vs,ve,vl,vm,rows,he,aiK (hg none' (fun k hk=>hk.elim)),hb⟩
theorem yD (HS:SortMvSaid) (m:aB) {S:Nat→Prop} {base b:Nat} {R:aA} {ms:List aB} {vp vs ve vl vm:Value} {rows:List lK} (w:World) (h:bJ S base w b R ms vp vs ve vl vm rows) (hb:base≤w.heap.size):Calls Tryz.prog 170 #[.pointer (some ⟨b,0,none⟩),.agg #[.int .i64 m.src,.int .i64 m.dst,.int .i64 m.piece]] w (DF S base b R ms m vp vs ve w):=
 (gx.yD HS m w (an4 h) hb (fun k hk=>hk.elim)).mono fun e w' h=>by
  rcases h with h | ⟨h0,he,S',XM,V5,rows',hg,h1,h2⟩
  ·exact .inl h
  ·exact .inr ⟨h0,he,S',XM,V5,rows',aiK hg,h1,h2⟩
set_option maxRecDepth 100000 in
set_option maxHeartbeats 4000000 in
theorem YP (HS:SortMvSaid) (R:aA) (vp vs ve:Value) (v:Value) (l:List aB) (w:World) (hr:pV w R vp vs ve) (hnm:R.name.size≤maxLen) (hl:iC jK w v l) :
  Calls Tryz.prog 150 #[(.agg #[.string R.name,.int .i64 R.width,.int .i64 R.height,vp,vs,.bool R.falls,.bool R.keeps,ve,.int .i64 R.blocked,.int .i64 R.quiet,.int .i64 R.bC]),v] w (XO R l w):=by
 have qo:=hid HS
 have HR:=hid hr
 have HN:=hid hnm
 have HL:=hid hl
 have HD:Hid (jO R l=if aJ R≠0 then aJ R else runFrom R [] l):=hid rfl
 obtain ⟨a,c,rfl,h1,h2⟩:=hl.form
 unfold maxLen at h2
 clear hr hnm hl HS
 go_enter Tryz.func150,Tryz.ntmps150
 go_upto_region 1 with (fail)
 refine qQ fun w0 B0 B1 fJ hs_=>?_
 have HB:=hid fJ
 have hz0:w.heap.size+1<w0.heap.size:=by omega
 clear hs_ fJ
 have AO:=hid (HR.out.below HB.out (Nat.le_refl _))
 have HX0:=hid B0
 have lu:=hid B1
 clear B0 B1
 refine wp_region_lit ?_
 refine aH (by rfl) 61 (.tmp 2) (by rfl) w.heap.size (by rfl) HX0.out Tryz.underlying61 (by rfl) (by kernel_rfl) ?_
 go_wp2_with fail
 refine (BZ R vp vs ve w0 AO.out HN.out).mono ?_
 rintro e w1 (⟨hbad,rfl,hb1⟩ | ⟨hre,S,b,up,us,ue,vl,vm,rows,rfl,hg1,hb1⟩)
 ·have HE:Hid (jO R l=aJ R):=hid (by rw [HD.out,if_pos hbad])
  have Dh:=hid hbad
  have he':(aJ R != 0)=true:=by simpa using hbad
  have HB1:=hid (ak HB.out hb1 HB.out.size)
  have gJ:=hid (lu.out.stays hb1)
  clear hbad hb1
  go_wp2_with (refine aT (vs:=[.slice none 0 0,.slice none 0 0,.slice none 0 0,.int .i64 0,.int .i64 0]) (by rfl) 158 (.tmp 4) (.tmp 19) (by rfl) (w.heap.size+1) (by rfl) (by rfl) gJ.out rfl (by kernel_rfl) (by rfl) ?_)
  exact bodyPost_ret (sZ rfl (by rfl) (by rfl) (by rfl) (gJ.out.store rfl) Tryz.underlying158 (by rfl) (by kernel_rfl)) rfl (.inl ⟨by rw [HE.out]; exact Dh.out,by rw [HE.out]; rfl,below_setCells HB1.out (by omega) 0 _⟩)
 have HD1:Hid (jO R l=runFrom R [] l):=hid (by rw [HD.out,if_neg (by simp [hre])])
 have Gv:=hid hre
 have V8:=hid hg1
 have HB1:=hid hb1
 clear hg1 hb1 hre HD
 go_wp2_with fail
 go_loopw [23,10,11] (fun vi V5 ve' wr=>∃ (k:Nat) (S:Nat→Prop) (vl vm:Value) (rows:List lK),k≤l.length∧vi=.int .i64 k∧Hid (jO R l=runFrom R (l.take k) (l.drop k))∧Hid (bJ S w0.heap.size wr b R (l.take k) up us ue vl vm rows)∧Hid (Below w0.heap.size w0 wr)) (fun i _ _ _=>l.length - (intOf i).toNat)
 case atStart=>exact ⟨0,S,vl,vm,rows,Nat.zero_le _,rfl,HD1,V8,HB1⟩
 case round =>
  obtain ⟨k,S,vl,vm,rows,hk,rfl,HDk,HG,bn⟩:=hrel
  have hsz:=bn.out.size
  have hwz:=HB.out.size
  have HY1:=hid (lu.out.stays bn.out)
  have YL:=hid (ak HB.out bn.out HB.out.size)
  by_cases hlt:k<l.length
  ·obtain ⟨g,o,ha,hg,hcc⟩:=wK (HL.out.below YL.out (Nat.le_refl _)) (by omega)
   subst ha
   obtain ⟨c0,c1,c2⟩:=hcc k hlt
   have HST:=hid (IK R l k hlt)
   have Xp:Hid (l.take (k+1)=l.take k++[l.getD k default]):=hid (by rw [List.take_succ_eq_append_getElem hlt,List.getD_eq_getElem?_getD,List.getElem?_eq_getElem hlt]; rfl)
   clear hcc
   generalize l.getD k default=m at *
   go_upto_region 7 with (fail)
   have eF:=hid (Box.new wr [.int .i64 m.src,.int .i64 m.dst,.int .i64 m.piece] 68)
   have Ou:=hid (HG.out.below ((Below.refl _ wr).alloc (Nat.le_refl _) (.cells #[.int .i64 m.src,.int .i64 m.dst,.int .i64 m.piece] 68)))
   have fM:=hid (bn.out.alloc hsz (.cells #[.int .i64 m.src,.int .i64 m.dst,.int .i64 m.piece] 68))
   have HZ1:=hid (HY1.out.alloc (.cells #[.int .i64 m.src,.int .i64 m.dst,.int .i64 m.piece] 68))
   have hzm:wr.heap.size<(wr.alloc (.cells #[.int .i64 m.src,.int .i64 m.dst,.int .i64 m.piece] 68)).heap.size:=by simp
   clear c0 c1 c2
   generalize (wr.alloc (.cells #[.int .i64 m.src,.int .i64 m.dst,.int .i64 m.piece] 68))=wn at *
   have d0:=eF.out.cell 0 rfl
   have d1:=eF.out.cell 1 rfl
   have d2:=eF.out.cell 2 rfl
   go_wp2_with fail
   refine (yD qo.out m wn Ou.out fM.out.size).mono ?_
   rintro e w2 (⟨hbad,rfl,hb2⟩ | ⟨hok,rfl,S',XM,V5,rows',hg2,hsh,hf2⟩)
   ·have HE:Hid (jO R l=eu R (l.take k) m):=hid (by rw [HDk.out,HST.out,if_pos hbad])
    have Dh:=hid hbad
    have he':(eu R (l.take k) m != 0)=true:=by simpa using hbad
    have HB2:=hid (ak HB.out (fM.out.trans (hb2.mono fM.out.size)) HB.out.size)
    have HZ2:=hid (HZ1.out.stays hb2)
    clear hbad hb2
    go_wp2_with (refine aT (vs:=[.slice none 0 0,.slice none 0 0,.slice none 0 0,.int .i64 0,.int .i64 0]) (by rfl) 158 (.tmp 4) (.tmp 32) (by rfl) (w.heap.size+1) (by rfl) (by rfl) HZ2.out rfl (by kernel_rfl) (by rfl) ?_)
    exact bodyPost_ret (sZ rfl (by rfl) (by rfl) (by rfl) (HZ2.out.store rfl) Tryz.underlying158 (by rfl) (by kernel_rfl)) rfl (.inl ⟨by rw [HE.out]; exact Dh.out,by rw [HE.out]; rfl,below_setCells HB2.out (by omega) 0 _⟩)
   ·have HE:Hid (jO R l=runFrom R (l.take (k+1)) (l.drop (k+1))):=hid (by rw [HDk.out,HST.out,if_neg (by simp [hok])])
    have HG2:Hid (bJ S' w0.heap.size w2 b R (l.take (k+1)) up us ue XM V5 rows'):=hid (by rw [Xp.out]; exact hg2)
    have HB2:=hid (fM.out.trans (Ou.out.frame hf2 fM.out.size))
    clear hok hg2 hsh hf2
    go_wp2_with fail
    go_roundw
    case rel=>exact ⟨k+1,S',XM,V5,rows',by omega,by go_num,HE,HG2,HB2⟩
    case measure=>simp [intOf]; omega
  ·obtain rfl:k=l.length:=by omega
   have HGl:Hid (bJ S w0.heap.size wr b R l up us ue vl vm rows):=hid (by have:=HG.out; rwa [List.take_of_length_le (Nat.le_refl _)] at this)
   have HE:Hid (jO R l=0):=hid (by rw [HDk.out,List.drop_of_length_le (Nat.le_refl _)]; rfl)
   have HLA:=hid HGl.out.la
   have HLT:=hid HGl.out.lt
   clear HG HDk
   go_upto_region 11 with (fail)
   go_wp2_with fail
   refine (lY wr HGl.out).mono ?_
   rintro e w2 ⟨yc,y0,y1,rfl,ho2,hb2⟩
   obtain ⟨ya,yn,rfl⟩:=aG ho2.1
   obtain ⟨LJ,Ug,rfl⟩:=aG ho2.2.1
   obtain ⟨LK,Uh,rfl⟩:=aG ho2.2.2.1
   have HG2:=hid (HGl.out.below hb2)
   have HZ2:=hid (HY1.out.stays hb2)
   have HB2:=hid (ak YL.out hb2 YL.out.size)
   have xH:=hid ho2
   have hz1:=HY1.out.lt
   clear hb2 ho2
   go_wp2_with fail
   refine (oZ qo.out w2 HG2.out).mono ?_
   rintro e w3 ⟨rfl,hb3⟩
   have HZ3:=hid (HZ2.out.stays hb3)
   have HB3:=hid (ak HB2.out hb3 HB2.out.size)
   have oz:Hid (mF wr.heap.size w3 (bV R l) (.slice ya (bV R l).cells.length yn) (.slice LJ (bV R l).h0.length Ug) (.slice LK (bV R l).h1.length Uh)):=hid ⟨aS xH.out.1 hb3,aS xH.out.2.1 hb3,aS xH.out.2.2.1 hb3,xH.out.2.2.2⟩
   clear hb3
   go_wp2_with (refine aT (vs:=[.slice ya (bV R l).cells.length yn,.slice LJ (bV R l).h0.length Ug,.slice LK (bV R l).h1.length Uh,.int .i64 (bV R l).turn,.int .i64 (bV R l).quiet]) (by rfl) 158 (.tmp 4) (.tmp 36) (by rfl) (w.heap.size+1) (by rfl) (by rfl) HZ3.out rfl (by kernel_rfl) (by rfl) ?_)
   exact bodyPost_ret (sZ rfl (by rfl) (by rfl) (by rfl) (HZ3.out.store rfl) Tryz.underlying158 (by rfl) (by kernel_rfl)) rfl (.inr ⟨HE.out,Gv.out,HLA.out,HLT.out,_,_,_,rfl,(oz.out.setCells hz1 0 _).base (by have:=YL.out.size; omega),below_setCells HB3.out (by omega) 0 _⟩)
end Go.Proofs.YteablcielclaeaaGreatDoor.gy
namespace Go.Proofs.YteablcielclaeaaGreatDoor
open Go.ChangeShapes Go.WideShapes Go.ChangeAt Go.RowKit
set_option linter.unusedVariables false
theorem Ed (HS:SortMvSaid) (R:aA) (vp vs ve:Value) (v:Value) (l:List aB) (w:World) (hr:pV w R vp vs ve) (hnm:R.name.size≤maxLen) (hl:iC jK w v l) :
  Calls Tryz.prog 150 #[(.agg #[.string R.name,.int .i64 R.width,.int .i64 R.height,vp,vs,.bool R.falls,.bool R.keeps,ve,.int .i64 R.blocked,.int .i64 R.quiet,.int .i64 R.bC]),v] w fun e w'=>Below w.heap.size w w'∧∃ (a1 a2 a3:Option Addr) (n1 c1 n2 c2 n3 c3:Nat) (x y rv:Int),e=.returned (.tuple #[.agg #[.slice a1 n1 c1,.slice a2 n2 c2,.slice a3 n3 c3,.int .i64 x,.int .i64 y],.int .i64 rv,.int .i64 (jO R l)]):=by
 refine (gy.YP HS R vp vs ve v l w hr hnm hl).mono fun e w' hp=>?_
 rcases hp with ⟨-,rfl,hb⟩ | ⟨h0,-,-,-,vc,v0,v1,rfl,ho,hb⟩
 ·exact ⟨hb,none,none,none,0,0,0,0,0,0,0,0,0,rfl⟩
 ·obtain ⟨h1,h2,h3,-⟩:=ho
  obtain ⟨a1,c1,rfl⟩:=aG h1
  obtain ⟨a2,c2,rfl⟩:=aG h2
  obtain ⟨a3,c3,rfl⟩:=aG h3
  exact ⟨hb,a1,a2,a3,_,c1,_,c2,_,c3,_,_,_,by rw [h0]; rfl⟩
end Go.Proofs.YteablcielclaeaaGreatDoor
namespace Go.Proofs.YteablcielclaeaaGreatDoor
open Go.ChangeShapes Go.WideShapes Go.ChangeAt Go.RowKit
set_option linter.unusedVariables false
set_option maxRecDepth 100000
set_option maxHeartbeats 8000000
variable {R:aA} {vp vs ve:Value}
end Go.Proofs.YteablcielclaeaaGreatDoor
namespace Go.Proofs.YteablcielclaeaaGreatDoor
open Go.ChangeShapes Go.WideShapes Go.ChangeAt Go.RowKit
set_option linter.unusedVariables false
open Go.Lib (hid)
abbrev Wp:TypeId:=163
set_option maxRecDepth 100000
set_option maxHeartbeats 8000000
variable {R:aA} {vp vs ve:Value}
theorem Sl:(Tryz.prog.info? 9).map (fun i=>(i.zero,i.size,i.bytes))=some (some (.string ⟨#[]⟩),1,16):=by kernel_rfl
theorem YQ {p:bf} (K:qg R p):∀ x∈dZ R p,x.src<p.cells.length:=fun x hx=>(xZ K hx).s.2
def iR (l:List tN):List Value:=l.map fun x=>.string (bs x)
theorem YR (HS:SortMvSaid) (X:FB) (ta:Option Addr) (tc gn on nc n b:Nat) (p:bf) (vc v0 v1:Value) (w:World) (hb:Box w b [.string R.name,.int .i64 R.width,.int .i64 R.height,vp,vs,.bool R.falls,.bool R.keeps,ve,.int .i64 R.blocked,.int .i64 R.quiet,.int .i64 R.bC,.slice ta X.tags.length tc,.string X.comment,.slice (some ⟨gn,on,none⟩) X.nodes.length nc,.int .i64 X.result] Wp) (hr:pV w R vp vs ve) (hp:sH w p vc v0 v1) (K:qg R p) (L:GR R) (hll:(dZ R p).length≤1000000)
  (hn:n<X.nodes.length) (hcs:(kW X.nodes n).comment.size≤1000) (hO:acv R p (kW X.nodes n).m) (hgl:gn<w.heap.size) (hnd:∀ i,i<X.nodes.length→w.cell? ⟨gn,on+i * 5,none⟩=some (.int .i64 (kW X.nodes i).parent)∧w.cell? ⟨gn,on+i * 5+1,none⟩=some (.int .i64 (kW X.nodes i).m.src) ∧
   w.cell? ⟨gn,on+i * 5+2,none⟩=some (.int .i64 (kW X.nodes i).m.dst)∧w.cell? ⟨gn,on+i * 5+3,none⟩=some (.int .i64 (kW X.nodes i).m.piece)∧w.cell? ⟨gn,on+i * 5+4,none⟩=some (.string (kW X.nodes i).comment)∧(kW X.nodes i).comment.size≤maxLen) :
  Calls Tryz.prog 106 #[.pointer (some ⟨b,0,none⟩),(.agg #[vc,v0,v1,.int .i64 p.turn,.int .i64 p.quiet]),.int .i64 n] w fun e w'=>∃ v,e=.returned v∧w'.ownsRow w.heap.size 9 1 v (Ec R p (kW X.nodes n).m (kW X.nodes n).comment).length (iR (Ec R p (kW X.nodes n).m (kW X.nodes n).comment))∧Below w.heap.size w w':=by
 have qo:=hid HS
 have HR:=hid hr
 have HP:=hid hp
 have HK:=hid K
 have IV:=hid L
 have HOf:=hid hO
 have bn:=hid hb
 obtain ⟨-,n1,n2,n3,n4,n5⟩:=hnd n hn
 obtain ⟨m,hm⟩:∃ m,m=(kW X.nodes n).m:=⟨_,rfl⟩
 obtain ⟨c,hc⟩:∃ c,c=(kW X.nodes n).comment:=⟨_,rfl⟩
 rw [← hm] at n1 n2 n3 HOf ⊢
 rw [← hc] at n4 n5 hcs ⊢
 have HN:=hid (And.intro n1 (And.intro n2 (And.intro n3 n4)))
 have hbl:=hb.lt
 clear hb hr hp K L hO hnd HS hm hc n1 n2 n3 n4
 have hn1:(n:Int)<(X.nodes.length:Int):=by omega
 go_enter Tryz.func106,Tryz.ntmps106
 go_upto_region 1 with (fail)
 refine lX ?_
 intro w0 xbP hB0 hS0
 have HB:=hid hB0
 obtain ⟨bP,hbP⟩:∃ bP,bP=w.heap.size:=⟨_,rfl⟩
 rw [← hbP] at xbP ⊢
 have auX:w.heap.size≤bP:=by omega
 have HbP:=hid xbP
 have hS:bP<w0.heap.size:=by omega
 clear hB0 hS0 xbP hbP
 obtain ⟨wq,rfl⟩:∃ wq:World,wq=w0:=⟨_,rfl⟩
 have Dz:Box wq.drew b [.string R.name,.int .i64 R.width,.int .i64 R.height,vp,vs,.bool R.falls,.bool R.keeps,ve,.int .i64 R.blocked,.int .i64 R.quiet,.int .i64 R.bC,.slice ta X.tags.length tc,.string X.comment,.slice (some ⟨gn,on,none⟩) X.nodes.length nc,.int .i64 X.result] Wp:=(bn.out.stays HB.out:Box wq b [.string R.name,.int .i64 R.width,.int .i64 R.height,vp,vs,.bool R.falls,.bool R.keeps,ve,.int .i64 R.blocked,.int .i64 R.quiet,.int .i64 R.bC,.slice ta X.tags.length tc,.string X.comment,.slice (some ⟨gn,on,none⟩) X.nodes.length nc,.int .i64 X.result] Wp)
 have Ez:=HbP.out.drew
 have Lz:Below w.heap.size w wq.drew:=HB.out.drew
 have mz0:wq.drew.cell? ⟨gn,on+n * 5+1,none⟩=some (.int .i64 m.src):=(HB.out.cell (p:=⟨gn,on+n * 5+1,none⟩) hgl).trans HN.out.1
 have mz1:wq.drew.cell? ⟨gn,on+n * 5+2,none⟩=some (.int .i64 m.dst):=(HB.out.cell (p:=⟨gn,on+n * 5+2,none⟩) hgl).trans HN.out.2.1
 have mz2:wq.drew.cell? ⟨gn,on+n * 5+3,none⟩=some (.int .i64 m.piece):=(HB.out.cell (p:=⟨gn,on+n * 5+3,none⟩) hgl).trans HN.out.2.2.1
 have HRz:=HR.out.below Lz (Nat.le_refl _)
 have yQ:=HP.out.below Lz (Nat.le_refl _)
 refine wp_region_noPanic ?_
 refine bI (S:=(fun w'=>w'.cell? ⟨b,0,none⟩=some (.string R.name)∧w'.cell? ⟨b,1,none⟩=some (.int .i64 R.width)∧w'.cell? ⟨b,2,none⟩=some (.int .i64 R.height)∧w'.cell? ⟨b,3,none⟩=some vp∧w'.cell? ⟨b,4,none⟩=some vs∧w'.cell? ⟨b,5,none⟩=some (.bool R.falls)∧w'.cell? ⟨b,6,none⟩=some (.bool R.keeps)∧w'.cell? ⟨b,7,none⟩=some ve∧w'.cell? ⟨b,8,none⟩=some (.int .i64 R.blocked)∧w'.cell? ⟨b,9,none⟩=some (.int .i64 R.quiet)∧w'.cell? ⟨b,10,none⟩=some (.int .i64 R.bC)∧w'.cell? ⟨b,13,none⟩=some (.slice (some ⟨gn,on,none⟩) X.nodes.length nc)∧w'.cell? ⟨bP,0,none⟩=some vc∧w'.cell? ⟨bP,1,none⟩=some v0∧w'.cell? ⟨bP,2,none⟩=some v1∧w'.cell? ⟨bP,3,none⟩=some (.int .i64 p.turn)∧w'.cell? ⟨bP,4,none⟩=some (.int .i64 p.quiet)∧w'.cell? ⟨gn,on+n * 5+1,none⟩=some (.int .i64 m.src)∧w'.cell? ⟨gn,on+n * 5+2,none⟩=some (.int .i64 m.dst)∧w'.cell? ⟨gn,on+n * 5+3,none⟩=some (.int .i64 m.piece))) (L:=[]) (by kernel_rfl) ⟨Dz.cell 0 rfl,Dz.cell 1 rfl,Dz.cell 2 rfl,Dz.cell 3 rfl,Dz.cell 4 rfl,Dz.cell 5 rfl,Dz.cell 6 rfl,Dz.cell 7 rfl,Dz.cell 8 rfl,Dz.cell 9 rfl,Dz.cell 10 rfl,Dz.cell 13 rfl,Ez.cell 0 rfl,Ez.cell 1 rfl,Ez.cell 2 rfl,Ez.cell 3 rfl,Ez.cell 4 rfl,mz0,mz1,mz2⟩ (fun hHeld=>?_)
 refine aC 0 ?_
 refine dV 4 ?_
 refine aC 5 ?_
 refine dV 9 ?_
 refine aC 11 ?_
 refine aC 16 ?_
 refine aC 1 ?_
 refine aC 6 ?_
 refine aC 12 ?_
 refine aC 2 ?_
 refine aC 7 ?_
 refine aC 13 ?_
 refine dV 3 ?_
 refine dV 8 ?_
 refine aC 14 ?_
 refine dV 15 ?_
 refine aC 17 ?_
 refine aC 18 ?_
 refine dV 19 ?_
 refine fH 10 fun K hK=>?_
 go_simp
 refine (xW qo.out R vp vs ve p vc v0 v1 wq.drew HRz yQ HK.out).mono ?_
 rintro e w10 ⟨vx,rfl,qY,mM⟩
 obtain ⟨xa,xc,rfl⟩:=aG qY
 have xI:=Dz.stays mM
 have yH:=Ez.stays mM
 have zU:=ak Lz mM Lz.size
 have UL:=(mM.cell (p:=⟨gn,on+n * 5+1,none⟩) (by show gn<_; have:=Lz.size; omega)).trans mz0
 have UM:=(mM.cell (p:=⟨gn,on+n * 5+2,none⟩) (by show gn<_; have:=Lz.size; omega)).trans mz1
 have UN:=(mM.cell (p:=⟨gn,on+n * 5+3,none⟩) (by show gn<_; have:=Lz.size; omega)).trans mz2
 refine hK.out _ _ ⟨xI.cell 0 rfl,xI.cell 1 rfl,xI.cell 2 rfl,xI.cell 3 rfl,xI.cell 4 rfl,xI.cell 5 rfl,xI.cell 6 rfl,xI.cell 7 rfl,xI.cell 8 rfl,xI.cell 9 rfl,xI.cell 10 rfl,xI.cell 13 rfl,yH.cell 0 rfl,yH.cell 1 rfl,yH.cell 2 rfl,yH.cell 3 rfl,yH.cell 4 rfl,UL,UM,UN⟩ (fun hHeld=>?_)
 clear hK K
 refine fH 20 fun K hK=>?_
 go_simp
 refine (afe R vp vs ve p vc v0 v1 m (.slice xa (dZ R p).length xc) (dZ R p) w10 (HR.out.below zU (Nat.le_refl _)).1 (HP.out.below zU (Nat.le_refl _)).1 (oD qY) HK.out IV.out (YQ HK.out) hll HOf.out).mono ?_
 rintro e yR ⟨rfl,vH⟩
 have ML:=xI.stays vH
 have BG:=yH.stays vH
 have wz:=ak zU vH zU.size
 have afk:=(vH.cell (p:=⟨gn,on+n * 5+1,none⟩) (by show gn<_; have:=zU.size; omega)).trans UL
 have afl:=(vH.cell (p:=⟨gn,on+n * 5+2,none⟩) (by show gn<_; have:=zU.size; omega)).trans UM
 have afm:=(vH.cell (p:=⟨gn,on+n * 5+3,none⟩) (by show gn<_; have:=zU.size; omega)).trans UN
 refine hK.out _ _ ⟨ML.cell 0 rfl,ML.cell 1 rfl,ML.cell 2 rfl,ML.cell 3 rfl,ML.cell 4 rfl,ML.cell 5 rfl,ML.cell 6 rfl,ML.cell 7 rfl,ML.cell 8 rfl,ML.cell 9 rfl,ML.cell 10 rfl,ML.cell 13 rfl,BG.cell 0 rfl,BG.cell 1 rfl,BG.cell 2 rfl,BG.cell 3 rfl,BG.cell 4 rfl,afk,afl,afm⟩ (fun hHeld=>?_)
 clear hK K
 refine fH 21 fun K hK=>?_
 go_simp
 refine aQ ?_
 intro jB e21
 have BH:Below yR.heap.size yR jB:=by rw [e21]; exact (Below.refl _ _).alloc (Nat.le_refl _) _
 have Qj:Box jB yR.heap.size [.string (GN R p (dZ R p) m)] 9:=by rw [e21]; exact Box.new' _ _ _ _ rfl
 have Sm:=ML.stays BH
 have J4:=BG.stays BH
 have Ee:=ak wz BH wz.size
 have aiL:=(BH.cell (p:=⟨gn,on+n * 5+1,none⟩) (by show gn<_; have:=wz.size; omega)).trans afk
 have aiM:=(BH.cell (p:=⟨gn,on+n * 5+2,none⟩) (by show gn<_; have:=wz.size; omega)).trans afl
 have aiN:=(BH.cell (p:=⟨gn,on+n * 5+3,none⟩) (by show gn<_; have:=wz.size; omega)).trans afm
 clear e21
 refine hK.out _ _ ⟨Sm.cell 0 rfl,Sm.cell 1 rfl,Sm.cell 2 rfl,Sm.cell 3 rfl,Sm.cell 4 rfl,Sm.cell 5 rfl,Sm.cell 6 rfl,Sm.cell 7 rfl,Sm.cell 8 rfl,Sm.cell 9 rfl,Sm.cell 10 rfl,Sm.cell 13 rfl,J4.cell 0 rfl,J4.cell 1 rfl,J4.cell 2 rfl,J4.cell 3 rfl,J4.cell 4 rfl,aiL,aiM,aiN⟩ (fun hHeld=>?_)
 clear hK K
 refine aC 22 ?_
 refine jC ?_
 have q4:jB.cell? ⟨gn,on+n * 5+4,none⟩=some (.string c):=(Ee.cell (p:=⟨gn,on+n * 5+4,none⟩) hgl).trans HN.out.2.2.2
 have d13:=Sm.cell 13 rfl
 have hX:w.heap.size≤yR.heap.size:=wz.size
 generalize yR.heap.size=gX at Qj hX ⊢
 have DC:Hid (jB.ownsRow w.heap.size 9 1 (.slice (some ⟨gX,0,none⟩) 1 1) 1 [.string (GN R p (dZ R p) m)]):=hid ⟨by simp,.inr ⟨gX,1,#[.string (GN R p (dZ R p) m)],rfl,hX,Qj,Nat.le_refl _,by decide,rfl,rfl⟩⟩
 have afn:=hid Ee
 clear hHeld Dz Ez Lz xI yH zU ML BG wz Sm J4 Ee Qj mM vH BH qY mz0 mz1 mz2 UL UM UN afk afl afm aiL aiM aiN HRz yQ
 by_cases hc0:c.size=0
 ·have hemp:c.toList.isEmpty=true:=by
   rw [Lib.toList_data]
   have:c.data.toList=[]:=List.length_eq_zero_iff.1 (by simpa using hc0)
   rw [this]; rfl
  have HOT:Hid (Ec R p m c=[bt (GN R p (dZ R p) m)]):=hid (by unfold Ec; rw [if_pos hc0]; rfl)
  clear hc0
  go_wp2_with fail
  go_ret
  exact ⟨_,rfl,by rw [HOT.out]; exact DC.out,afn.out⟩
 ·have hemp:c.toList.isEmpty=false:=by
   rw [Lib.toList_data]
   cases h:c.data.toList with
   | nil=>exact absurd (by have:=congrArg List.length h; simpa using this) hc0
   | cons _ _=>rfl
  have HOT:Hid (Ec R p m c=[bt (GN R p (dZ R p) m)]++[bt (⟨#[123]⟩++c++⟨#[125]⟩)]):=hid (by unfold Ec; rw [if_neg hc0]; simp [bt])
  clear hc0
  have afo:w.heap.size≤jB.heap.size:=afn.out.size
  have hs1:¬ 9223372036854775807<1+c.size:=by omega
  have hs2:¬ 9223372036854775807<1+c.size+1:=by omega
  obtain ⟨tx,htx⟩:∃ tx,tx=(⟨#[123]⟩++c++⟨#[125]⟩:ByteArray):=⟨_,rfl⟩
  have HTX:=hid htx.symm
  rw [HTX.out] at HOT
  clear htx
  go_wp2_with (at_builtin; rw [HTX.out]; refine afg 155 9 (.string ⟨#[]⟩) 1 16 Sl Tryz.underlying155 rfl (by decide) (by rfl) _ _ (by rfl) w.heap.size _ 1 [.string (GN R p (dZ R p) m)] [.string tx] jB DC.out afo rfl (by intro u hu; simp at hu; subst hu; rfl) (by omega) (by omega) (by rfl) (by rfl) ?_)
  intro g6 cap6 w7 hown6 an6 aiO
  have HL7:=hid (Below.grown (afn.out.alloc afo (.cells #[.string tx] 9)) aiO (by have:=afo; simp; omega) (fun j hj=>by have:=(DC.out.lt j hj).1; omega))
  have Pm:=hid hown6
  clear hown6 an6 aiO
  go_wp2_with fail
  go_ret
  exact ⟨_,rfl,by rw [HOT.out]; exact Pm.out,HL7.out⟩
end Go.Proofs.YteablcielclaeaaGreatDoor
namespace Go.Proofs.YteablcielclaeaaGreatDoor
open Go.ChangeShapes Go.WideShapes Go.ChangeAt Go.RowKit
set_option linter.unusedVariables false
def tot (l:List tN):Nat:=(l.map fun x=>x.length+1).sum
theorem Ef (x:tN) (l:List tN):tot (x :: l)=x.length+1+tot l:=by unfold tot; rw [List.map_cons,List.sum_cons]
theorem GV:∀ l:List tN,(qI l).length≤tot l
 | []=>Nat.zero_le _
 | [x]=>by rw [qI,Ef]; omega
 | x :: y :: l=>by
  have:=GV (y :: l)
  rw [qI,Ef,List.length_append,List.length_cons]; omega
end Go.Proofs.YteablcielclaeaaGreatDoor
namespace Go.Proofs.YteablcielclaeaaGreatDoor
open Go.ChangeShapes Go.WideShapes Go.ChangeAt Go.RowKit
set_option linter.unusedVariables false
open Go.Lib (hid)
theorem UO (l:List tN):(iR l).length=l.length:=by simp [iR]
theorem UQ (a b:List tN):iR a++iR b=iR (a++b):=by simp [iR]
theorem MN (l:List tN):∀ u∈iR l,u.oneCell'=true:=by
 intro u hu
 obtain ⟨x,-,rfl⟩:=List.mem_map.1 hu
 rfl
theorem Ad (w:World) (c base:Nat) (i:TypeInfo) (hi:Tryz.prog.info? 9=some i) (ty:TypeId) (v:Value) (n:Nat) (xs:List Value) (hown:w.ownsRow base 9 1 v n xs) :
  (Builtin.append_ #[155,155] ty #[v,.slice none 0 c]).run Tryz.prog w=.ok v w:=by
 rcases hown.2 with ⟨rfl,rfl⟩ | ⟨g,cap,cur,rfl,_,_,hnc,_⟩
 ·simp [Builtin.append_,run_underlying Tryz.underlying155,sizeOf,typeInfo,hi,Builtin.lenOf,Builtin.firstCells]
 ·simp [Builtin.append_,run_underlying Tryz.underlying155,sizeOf,typeInfo,hi,Builtin.lenOf,Builtin.firstCells,hnc,storeCells]
theorem UR {w:World} {base:Nat} {e:TypeId} {ad:Addr} {n c:Nat} {xs:List Value} (h:w.ownsRow base e 1 (.slice (some ad) n c) n xs):∀ j u,xs[j]?=some u→w.cell? (ad.add j)=some u:=by
 rcases h.2 with ⟨h0,-⟩ | ⟨g,cap,cur,hv,hg,hb,hnc,hcm,hsz,ht⟩
 ·cases h0
 simp only [Value.slice.injEq,Option.some.injEq] at hv
 obtain ⟨rfl,-,rfl⟩:=hv
 intro j u hu
 have hj:j<n:=by
  have h1:=(List.getElem?_eq_some_iff.1 hu).1
  have h2:=h.1
  omega
 have e1:(⟨g,0,none⟩:Addr).add j=⟨g,j,none⟩:=by unfold Addr.add; split <;> simp_all
 rw [e1]
 have e2:cur.toList[j]?=some u:=by
  rw [← ht,List.getElem?_take] at hu
  split at hu
  ·exact hu
  ·cases hu
 exact Box.cell (cs:=cur.toList) (t:=e) (by unfold Box; rw [hb]) j e2
theorem tV {w:World} {o:Oper} {a:Act} {K:Act→World→Prop} {Q:Exit→Act→World→Prop} (s x:Operand)
  (ho:o.op=.call { callee:=.builtin .append,args:=#[s,x],argTypes:=#[155,155] })
  (base:Nat) (v:Value) (xs:List tN) (hs:a.eval s=v) (hown:w.ownsRow base 9 1 v xs.length (iR xs))
  (Sv:Nat) (v2:Value) (ys:List tN) (hx:a.eval x=v2) (hown2:w.ownsRow Sv 9 1 v2 ys.length (iR ys)) (hlen:xs.length+ys.length≤1000000) (hbase:base≤w.heap.size)
  (h:∀ v' w',w'.ownsRow base 9 1 v' (xs++ys).length (iR (xs++ys))→w.grownBy w' v.ownBlock→K (a.put o.dst v') w'):o.wp Tryz.prog a w K Q:=by
 obtain ⟨i0,hi,hz0,hz1,hz2⟩:∃ i,Tryz.prog.info? 9=some i∧i.zero=some (.string ⟨#[]⟩)∧i.size=1∧i.bytes=16:=by
  have:=Sl
  cases hi:Tryz.prog.info? 9 with
  | none=>rw [hi] at this; cases this
  | some i =>
   rw [hi] at this
   simp only [Option.map_some,Option.some.injEq,Prod.mk.injEq] at this
   exact ⟨i,rfl,this.1,this.2.1,this.2.2⟩
 obtain ⟨sa,c,rfl⟩:=aG hown2
 cases sa with
 | none =>
  have hz:ys.length=0:=by
   rcases hown2.2 with ⟨-,hz⟩ | ⟨g,o',c',e,-⟩
   ·exact hz
   ·cases e
  obtain rfl:ys=[]:=List.length_eq_zero_iff.1 hz
  have hrun:=Ad w c base i0 hi o.type v _ _ hown
  have hx':a.eval x=.slice none 0 c:=hx
  unfold Oper.wp
  simp [execOp,ho,resolve,invoke,builtin,hs,hx',hrun,Result.andThen]
  exact h v w (by simpa using hown) ⟨rfl,rfl,rfl,Nat.le_refl _,fun _ _ _=>rfl⟩
 | some ad =>
  refine wp_append_own _ s x 155 ho base 9 i0 (.string ⟨#[]⟩) 1 16 Tryz.underlying155 hi hz0 hz1 hz2 rfl (by decide) v xs.length (iR xs) hs hown ad ys.length c (iR ys) hx (by rw [UO]; omega) (UR hown2) (MN ys) (by unfold maxLen; omega) (by omega) hbase ?_
  intro v' w2 ho2 hg2 _
  refine h v' w2 ?_ hg2
  rw [← UQ,List.length_append]
  exact ho2
theorem YS {w:World} {ops:Array Oper} {rest:List Oper} {o:Oper} {a:Act} {Q:Exit→Act→World→Prop} (hgd:o.guard=none) (s x:Operand)
  (ho:o.op=.call { callee:=.builtin .append,args:=#[s,x],argTypes:=#[155,155] })
  (base:Nat) (v:Value) (xs:List tN) (hs:a.eval s=v) (hown:w.ownsRow base 9 1 v xs.length (iR xs))
  (Sv:Nat) (v2:Value) (ys:List tN) (hx:a.eval x=v2) (hown2:w.ownsRow Sv 9 1 v2 ys.length (iR ys)) (hlen:xs.length+ys.length≤1000000) (hbase:base≤w.heap.size)
  (h:∀ v' w',w'.ownsRow base 9 1 v' (xs++ys).length (iR (xs++ys))→w.grownBy w' v.ownBlock→wpList Tryz.prog ops Q rest (a.put o.dst v') w'):wpList Tryz.prog ops Q (o :: rest) a w:=
 wpList_plain hgd fun _ hK=>tV s x ho base v xs hs hown Sv v2 ys hx hown2 hlen hbase fun v' w' h1 h2=>hK _ _ (h v' w' h1 h2)
set_option maxRecDepth 100000
set_option maxHeartbeats 8000000
variable {R:aA} {vp vs ve:Value}
def yS (w:World) (gn on:Nat) (X:FB):Prop:=gn<w.heap.size∧∀ i,i<X.nodes.length→w.cell? ⟨gn,on+i * 5,none⟩=some (.int .i64 (kW X.nodes i).parent)∧w.cell? ⟨gn,on+i * 5+1,none⟩=some (.int .i64 (kW X.nodes i).m.src) ∧
   w.cell? ⟨gn,on+i * 5+2,none⟩=some (.int .i64 (kW X.nodes i).m.dst)∧w.cell? ⟨gn,on+i * 5+3,none⟩=some (.int .i64 (kW X.nodes i).m.piece)∧w.cell? ⟨gn,on+i * 5+4,none⟩=some (.string (kW X.nodes i).comment)∧(kW X.nodes i).comment.size≤maxLen
theorem yS.below {w w':World} {B gn on:Nat} {X:FB} (h:yS w gn on X) (hb:Below B w w') (hB:w.heap.size≤B):yS w' gn on X:=
 ⟨by have:=h.1; have:=hb.size; omega,fun i hi=>by
  have hg:gn<B:=by have:=h.1; omega
  obtain ⟨h0,h1,h2,h3,h4,h5⟩:=h.2 i hi
  exact ⟨(hb.cell (p:=⟨gn,on+i * 5,none⟩) hg).trans h0,(hb.cell (p:=⟨gn,on+i * 5+1,none⟩) hg).trans h1,(hb.cell (p:=⟨gn,on+i * 5+2,none⟩) hg).trans h2,(hb.cell (p:=⟨gn,on+i * 5+3,none⟩) hg).trans h3,(hb.cell (p:=⟨gn,on+i * 5+4,none⟩) hg).trans h4,h5⟩⟩
theorem UU (X:FB) (ta:Option Addr) (tc gn on nc n b b3 b4:Nat) (p:bf) (vc v0 v1:Value) (w:World) (hb:Box w b [.string R.name,.int .i64 R.width,.int .i64 R.height,vp,vs,.bool R.falls,.bool R.keeps,ve,.int .i64 R.blocked,.int .i64 R.quiet,.int .i64 R.bC,.slice ta X.tags.length tc,.string X.comment,.slice (some ⟨gn,on,none⟩) X.nodes.length nc,.int .i64 X.result] Wp) (h3:Box w b3 [.pointer (some ⟨b,0,none⟩)] 161) (h4:Box w b4 [vc,v0,v1,.int .i64 p.turn,.int .i64 p.quiet] 158) (hp:sH w p vc v0 v1) (K:qg R p)
  (hn:n<X.nodes.length) (hm:(kW X.nodes n).m∈dZ R p) (hnd:yS w gn on X) :
  Calls Tryz.prog 104 (#[.int .i64 n] ++ #[.pointer (some ⟨b3,0,none⟩),.pointer (some ⟨b4,0,none⟩)]) w (KR R p (kW X.nodes n).m w):=by
 have HP:=hid hp
 have HK:=hid K
 have bn:=hid hb
 have HB3:=hid h3
 have HB4:=hid h4
 obtain ⟨hgl,hnd⟩:=hnd
 obtain ⟨-,n1,n2,n3,-,-⟩:=hnd n hn
 obtain ⟨m,hme⟩:∃ m,m=(kW X.nodes n).m:=⟨_,rfl⟩
 rw [← hme] at n1 n2 n3 hm ⊢
 have HM:=hid hm
 have HN:=hid (And.intro n1 (And.intro n2 n3))
 have hbl:=hb.lt
 have Eh:=h3.lt
 have Qk:=h4.lt
 clear hb h3 h4 hp K hnd hme hm n1 n2 n3
 have hn1:(n:Int)<(X.nodes.length:Int):=by omega
 go_enter Tryz.func104,Tryz.ntmps104
 go_upto_region 1 with (fail)
 refine lX ?_
 intro w0 xbO hB0 hS0
 have HB:=hid hB0
 obtain ⟨bO,hbO⟩:∃ bO,bO=w.heap.size:=⟨_,rfl⟩
 rw [← hbO] at xbO ⊢
 have an8:w.heap.size≤bO:=by omega
 have HbO:=hid xbO
 have hS:bO<w0.heap.size:=by omega
 clear hB0 hS0 xbO hbO
 obtain ⟨wq,rfl⟩:∃ wq:World,wq=w0:=⟨_,rfl⟩
 have Az:Box wq.drew b3 [.pointer (some ⟨b,0,none⟩)] 161:=(HB3.out.stays HB.out:Box wq b3 [.pointer (some ⟨b,0,none⟩)] 161)
 have Dz:Box wq.drew b [.string R.name,.int .i64 R.width,.int .i64 R.height,vp,vs,.bool R.falls,.bool R.keeps,ve,.int .i64 R.blocked,.int .i64 R.quiet,.int .i64 R.bC,.slice ta X.tags.length tc,.string X.comment,.slice (some ⟨gn,on,none⟩) X.nodes.length nc,.int .i64 X.result] Wp:=(bn.out.stays HB.out:Box wq b [.string R.name,.int .i64 R.width,.int .i64 R.height,vp,vs,.bool R.falls,.bool R.keeps,ve,.int .i64 R.blocked,.int .i64 R.quiet,.int .i64 R.bC,.slice ta X.tags.length tc,.string X.comment,.slice (some ⟨gn,on,none⟩) X.nodes.length nc,.int .i64 X.result] Wp)
 have Ez:Box wq.drew b4 [vc,v0,v1,.int .i64 p.turn,.int .i64 p.quiet] 158:=(HB4.out.stays HB.out:Box wq b4 [vc,v0,v1,.int .i64 p.turn,.int .i64 p.quiet] 158)
 have Oz:=HbO.out.drew
 have Lz:Below w.heap.size w wq.drew:=HB.out.drew
 have mz0:wq.drew.cell? ⟨gn,on+n * 5+1,none⟩=some (.int .i64 m.src):=(HB.out.cell (p:=⟨gn,on+n * 5+1,none⟩) hgl).trans HN.out.1
 have mz1:wq.drew.cell? ⟨gn,on+n * 5+2,none⟩=some (.int .i64 m.dst):=(HB.out.cell (p:=⟨gn,on+n * 5+2,none⟩) hgl).trans HN.out.2.1
 have mz2:wq.drew.cell? ⟨gn,on+n * 5+3,none⟩=some (.int .i64 m.piece):=(HB.out.cell (p:=⟨gn,on+n * 5+3,none⟩) hgl).trans HN.out.2.2
 have yQ:=HP.out.below Lz (Nat.le_refl _)
 refine wp_region_noPanic ?_
 refine bI (S:=(fun w'=>w'.cell? ⟨b3,0,none⟩=some (.pointer (some ⟨b,0,none⟩))∧w'.cell? ⟨b,0,none⟩=some (.string R.name)∧w'.cell? ⟨b,1,none⟩=some (.int .i64 R.width)∧w'.cell? ⟨b,2,none⟩=some (.int .i64 R.height)∧w'.cell? ⟨b,3,none⟩=some vp∧w'.cell? ⟨b,4,none⟩=some vs∧w'.cell? ⟨b,5,none⟩=some (.bool R.falls)∧w'.cell? ⟨b,6,none⟩=some (.bool R.keeps)∧w'.cell? ⟨b,7,none⟩=some ve∧w'.cell? ⟨b,8,none⟩=some (.int .i64 R.blocked)∧w'.cell? ⟨b,9,none⟩=some (.int .i64 R.quiet)∧w'.cell? ⟨b,10,none⟩=some (.int .i64 R.bC)∧w'.cell? ⟨b,13,none⟩=some (.slice (some ⟨gn,on,none⟩) X.nodes.length nc)∧w'.cell? ⟨b4,0,none⟩=some vc∧w'.cell? ⟨b4,1,none⟩=some v0∧w'.cell? ⟨b4,2,none⟩=some v1∧w'.cell? ⟨b4,3,none⟩=some (.int .i64 p.turn)∧w'.cell? ⟨b4,4,none⟩=some (.int .i64 p.quiet)∧w'.cell? ⟨gn,on+n * 5+1,none⟩=some (.int .i64 m.src)∧w'.cell? ⟨gn,on+n * 5+2,none⟩=some (.int .i64 m.dst)∧w'.cell? ⟨gn,on+n * 5+3,none⟩=some (.int .i64 m.piece))) (L:=[15]) (by kernel_rfl) ⟨Az.cell 0 rfl,Dz.cell 0 rfl,Dz.cell 1 rfl,Dz.cell 2 rfl,Dz.cell 3 rfl,Dz.cell 4 rfl,Dz.cell 5 rfl,Dz.cell 6 rfl,Dz.cell 7 rfl,Dz.cell 8 rfl,Dz.cell 9 rfl,Dz.cell 10 rfl,Dz.cell 13 rfl,Ez.cell 0 rfl,Ez.cell 1 rfl,Ez.cell 2 rfl,Ez.cell 3 rfl,Ez.cell 4 rfl,mz0,mz1,mz2⟩ (fun hHeld=>?_)
 refine dV 0 ?_
 refine dV 4 ?_
 refine dV 5 ?_
 refine aC 10 ?_
 refine aC 1 ?_
 refine aC 6 ?_
 refine aC 2 ?_
 refine aC 7 ?_
 refine dV 3 ?_
 refine aC 8 ?_
 refine dV 9 ?_
 refine aC 11 ?_
 refine aC 12 ?_
 refine dV 13 ?_
 refine fH 14 fun K hK=>?_
 go_simp
 refine (Ll R vp vs ve p vc v0 v1 m wq.drew yQ HK.out (xZ HK.out HM.out)).mono ?_
 rintro e w10 ⟨yc,y0,y1,rfl,qY,mM⟩
 obtain ⟨ya,yk,rfl⟩:=aG qY.1
 obtain ⟨LJ,yk0,rfl⟩:=aG qY.2.1
 obtain ⟨LK,yk1,rfl⟩:=aG qY.2.2.1
 have A10:=Az.stays mM
 have xI:=Dz.stays mM
 have yH:=Ez.stays mM
 have Gw:=Oz.stays mM
 have zU:=ak Lz mM Lz.size
 have UL:=(mM.cell (p:=⟨gn,on+n * 5+1,none⟩) (by show gn<_; have:=Lz.size; omega)).trans mz0
 have UM:=(mM.cell (p:=⟨gn,on+n * 5+2,none⟩) (by show gn<_; have:=Lz.size; omega)).trans mz1
 have UN:=(mM.cell (p:=⟨gn,on+n * 5+3,none⟩) (by show gn<_; have:=Lz.size; omega)).trans mz2
 unfold sG
 refine hK.out _ _ ⟨A10.cell 0 rfl,xI.cell 0 rfl,xI.cell 1 rfl,xI.cell 2 rfl,xI.cell 3 rfl,xI.cell 4 rfl,xI.cell 5 rfl,xI.cell 6 rfl,xI.cell 7 rfl,xI.cell 8 rfl,xI.cell 9 rfl,xI.cell 10 rfl,xI.cell 13 rfl,yH.cell 0 rfl,yH.cell 1 rfl,yH.cell 2 rfl,yH.cell 3 rfl,yH.cell 4 rfl,UL,UM,UN⟩ (fun hHeld=>?_)
 clear hK K
 refine rP 15 fun K hK=>?_
 have d0:=Gw.cell 0 rfl
 have d1:=Gw.cell 1 rfl
 have d2:=Gw.cell 2 rfl
 have d3:=Gw.cell 3 rfl
 have d4:=Gw.cell 4 rfl
 have f0:=Gw.frozen 0
 have f1:=Gw.frozen 1
 have f2:=Gw.frozen 2
 have f3:=Gw.frozen 3
 have f4:=Gw.frozen 4
 have dl:=Gw.lt
 go_simp
 refine aQ ?_
 intro w6 e6
 have hw6:w6=w10.setCells bO 0 [.slice ya (bM R p m).cells.length yk,.slice LJ (bM R p m).h0.length yk0,.slice LK (bM R p m).h1.length yk1,.int .i64 (bM R p m).turn,.int .i64 (bM R p m).quiet]:=by rw [e6]; rfl
 have O6:Box w6 bO [.slice ya (bM R p m).cells.length yk,.slice LJ (bM R p m).h0.length yk0,.slice LK (bM R p m).h1.length yk1,.int .i64 (bM R p m).turn,.int .i64 (bM R p m).quiet] 158:=by rw [hw6]; exact Gw.store rfl
 have L6:Below w.heap.size w w6:=by rw [hw6]; exact below_setCells zU an8 0 _
 have OW6:mF w.heap.size w6 (bM R p m) (.slice ya (bM R p m).cells.length yk) (.slice LJ (bM R p m).h0.length yk0) (.slice LK (bM R p m).h1.length yk1):=by rw [hw6]; exact (mF.setCells qY (by show bO<_; exact Oz.lt) 0 _).base (by have:=Lz.size; exact this)
 clear e6 hw6 d0 d1 d2 d3 d4 f0 f1 f2 f3 f4 dl
 refine hK.out _ _ ?_
 clear hK K
 refine jC ?_
 have VZ:=hid O6
 have V3:=hid L6
 have HW6:=hid OW6
 clear hHeld Az Dz Ez Oz Lz A10 xI yH Gw zU O6 L6 OW6 mM qY mz0 mz1 mz2 UL UM UN yQ
 go_wp2_with fail
 exact bodyPost_ret (dJ rfl (by rfl) VZ.out Tryz.underlying158 (by rfl) (by kernel_rfl)) rfl ⟨_,_,_,rfl,HW6.out,V3.out⟩
end Go.Proofs.YteablcielclaeaaGreatDoor
namespace Go.Proofs.YteablcielclaeaaGreatDoor
open Go.ChangeShapes Go.WideShapes Go.ChangeAt Go.RowKit
set_option linter.unusedVariables false
def Ae:Prop:=∀ (base:Nat) (v:Value) (xs:List tN) (w:World),w.ownsRow base 9 1 v xs.length (iR xs)→xs.length≤1000→(∀ x∈xs,x.length≤1000000) →
 Calls Tryz.prog 55 #[v,.string ⟨#[32]⟩] w fun e w'=>e=.returned (.string (bs (qI xs)))∧Below w.heap.size w w'
theorem Ql (x:tN) (l:List tN):iR (x :: l)=.string (bs x) :: iR l:=rfl
set_option maxRecDepth 100000
set_option maxHeartbeats 8000000
variable {R:aA} {vp vs ve:Value}
end Go.Proofs.YteablcielclaeaaGreatDoor
namespace Go.Proofs.YteablcielclaeaaGreatDoor
open Go.ChangeShapes Go.WideShapes Go.ChangeAt Go.RowKit
set_option linter.unusedVariables false
end Go.Proofs.YteablcielclaeaaGreatDoor

/- JouText, JouSum, JouGood, MaP, MaL, GxA, GxB. -/
import Derived.WalkLawsBesides
import Derived.Laws.RangeAny
import Derived.Deep.RegionWith
import Derived.Test.YteablcielclaeaaGreatDoorP15
import Derived.Lib.ItoaNum
namespace Go.Proofs.YteablcielclaeaaGreatDoor
open Go.ChangeShapes Go.WideShapes Go.ChangeAt Go.RowKit
set_option linter.unusedVariables false
open Go.Lib (hid)
def Fv (c:Int):Bool:=decide (c<32) || decide (126<c)
theorem DK (c:Int) (w:World):Calls Tryz.prog 119 #[.int .i32 c] w fun e w'=>e=.returned (.bool (Fv c))∧w=w':=by
 have H:Hid (Fv c=(decide (c<32) || decide (126<c))):=hid rfl
 by_cases h:c<32
 ·go_enter Tryz.func119,Tryz.ntmps119
  go_wp2
  go_ret
  exact ⟨by rw [H.out]; simp [h],rfl⟩
 ·go_enter Tryz.func119,Tryz.ntmps119
  go_wp2
  go_ret
  exact ⟨by rw [H.out]; simp; omega,rfl⟩
theorem ahW (args:Array Value) (w:World):(callFunc 119 args).run Tryz.prog w=.ok (.enter 119 args) w:=by kernel_rfl
def kT (s:ByteArray):Nat→Nat→Int
 | 0,_=>-1
 | f+1,k=>if h:k<s.size then (if Fv ((s[k]'h).toNat:Int)=true then (k:Int) else kT s f (k+1)) else -1
def AX (s:ByteArray):Int:=kT s s.size 0
theorem IL (s:ByteArray) (k:Nat) (h:k<s.size):kT s (s.size - k) k=if Fv ((s[k]'h).toNat:Int)=true then (k:Int) else kT s (s.size - (k+1)) (k+1):=by
 have e:s.size - k=(s.size - (k+1))+1:=by omega
 rw [e,kT,dif_pos h]
theorem LG (s:ByteArray):kT s (s.size - s.size) s.size = -1:=by simp [kT]
set_option maxHeartbeats 1000000 in
theorem yw (s:ByteArray) (w:World) (hs:s.size≤9223372036854775807) :
  Calls Tryz.prog 159 #[.string s,.func (.func 119) #[] #[],.bool true] w fun e w'=>e=.returned (.int .i64 (AX s))∧Below w.heap.size w w':=by
 have HB:Hid (AX s=kT s (s.size - 0) 0):=hid rfl
 have hcf:=ahW
 go_enter Tryz.func159,Tryz.ntmps159
 go_wp2_with fail
 go_loopw [7] (fun _ wr=>∃ k:Nat,k≤s.size∧wr=w.iter s k∧Hid (AX s=kT s (s.size - k) k)) (fun _ wr=>s.size - wr.iterPos w.heap.size)
 case atStart=>exact ⟨0,Nat.zero_le _,rfl,HB⟩
 case round =>
  obtain ⟨k,hk,rfl,HK⟩:=hrel
  have hbel:∀ p,Below w.heap.size w (w.iter s p):=fun p=>(Below.refl _ w).alloc (Nat.le_refl _) _
  have aeK:=hid hbel
  clear hbel
  by_cases hlt:k<s.size
  ·have HS:=hid (IL s k hlt)
   cases hb:Fv ((s[k]'hlt).toNat:Int)
   ·have hr:32≤(s[k]'hlt).toNat∧(s[k]'hlt).toNat≤126:=by
     simp [Fv] at hb; omega
    have hnx:=fun ty=>run_next_ascii (P:=Tryz.prog) w s k ty hlt (by omega)
    have HC:=hid (fun w=>DK ((s[k]'hlt).toNat:Int) w)
    rw [hb] at HC
    rw [hb] at HS
    clear hb
    generalize (s[k]'hlt).toNat=b at *
    go_wp2_with fail
    refine (HC.out _).mono ?_
    rintro e w' ⟨rfl,rfl⟩
    go_wp2_with fail
    go_roundw
    case rel=>exact ⟨k+1,by omega,rfl,hid (by rw [HK.out,HS.out]; rfl)⟩
    case measure=>simp; omega
   ·rw [hb] at HS
    by_cases h8:(s[k]'hlt).toNat<128
    ·have hnx:=fun ty=>run_next_ascii (P:=Tryz.prog) w s k ty hlt h8
     have HC:=hid (fun w=>DK ((s[k]'hlt).toNat:Int) w)
     rw [hb] at HC
     clear hb
     generalize (s[k]'hlt).toNat=b at *
     go_wp2_with fail
     refine (HC.out _).mono ?_
     rintro e w' ⟨rfl,rfl⟩
     go_wp2_with fail
     go_ret
     exact ⟨by rw [HK.out,HS.out]; rfl,aeK.out _⟩
    ·have hnx:=fun ty=>run_next_any (P:=Tryz.prog) w s k ty hlt
     have hd:=decode_high s k hlt (by omega)
     have HC:=hid (fun w=>DK (((Utf8.decode s k).1:Nat):Int) w)
     have hbc:Fv (((Utf8.decode s k).1:Nat):Int)=true:=by simp [Fv]; omega
     rw [hbc] at HC
     clear hb hbc hd h8
     generalize Utf8.decode s k=dd at *
     obtain ⟨d1,d2⟩:=dd
     simp only at *
     go_wp2_with fail
     refine (HC.out _).mono ?_
     rintro e w' ⟨rfl,rfl⟩
     go_wp2_with fail
     go_ret
     exact ⟨by rw [HK.out,HS.out]; rfl,aeK.out _⟩
  ·obtain rfl:k=s.size:=by omega
   have hnx:=fun ty=>run_next_end (P:=Tryz.prog) w s s.size ty (by omega)
   go_wp2_with fail
   go_ret
   exact ⟨by rw [HK.out,LG]; rfl,aeK.out _⟩
theorem zT (s:ByteArray) (w:World) (hs:s.size≤9223372036854775807) :
  Calls Tryz.prog 118 #[.string s,.func (.func 119) #[] #[]] w fun e w'=>e=.returned (.int .i64 (AX s))∧Below w.heap.size w w':=by
 go_enter Tryz.func118,Tryz.ntmps118
 go_wp2_with fail
 refine (yw s w hs).mono ?_
 rintro e w1 ⟨rfl,hb⟩
 go_wp2_with fail
 go_ret
 exact ⟨rfl,hb⟩
def textE (s:ByteArray):Int:=if 200<s.size then 2 else if 0≤AX s then 3 else 0
theorem LH (s:ByteArray) (w:World) (hs:s.size≤9223372036854775807) :
  Calls Tryz.prog 85 #[.string s] w fun e w'=>e=.returned (.int .i64 (textE s))∧Below w.heap.size w w':=by
 have H:Hid (textE s=if 200<s.size then 2 else if 0≤AX s then 3 else 0):=hid rfl
 by_cases h:200<s.size
 ·go_enter Tryz.func85,Tryz.ntmps85
  go_wp2_with fail
  go_ret
  exact ⟨by rw [H.out,if_pos h]; rfl,Below.refl _ _⟩
 ·have HI:=hid (zT s w hs)
  generalize AX s=b at *
  by_cases hb:0≤b
  all_goals
   go_enter Tryz.func85,Tryz.ntmps85
   go_wp2_with fail
   refine HI.out.mono ?_
   rintro e w1 ⟨rfl,hb1⟩
   go_wp2_with fail
   go_ret
   exact ⟨by rw [H.out,if_neg (by omega)]; first | (rw [if_pos (by omega)]; rfl) | (rw [if_neg (by omega)]; rfl),hb1⟩
theorem XV {k:IntKind} {a b:Int} (h:a=b):Ending.returned (.int k a)=.returned (.int k b):=by rw [h]
def yx (x c:Int):Int:=IntKind.u64.wrap (bits BinOp.xor IntKind.u64 x (IntKind.u64.wrap c) * 1099511628211)
def sumTo (s:ByteArray) (b:Int):Nat→Int
 | 0=>bits BinOp.xor IntKind.u64 b 14695981039346656037
 | k+1=>if h:k<s.size then yx (sumTo s b k) ((s[k]'h).toNat:Int) else sumTo s b k
def BF (b:Int) (s:ByteArray):Int:=yx (sumTo s b s.size) (s.size:Int)
theorem PG (s:ByteArray) (b:Int) (k:Nat) (h:k<s.size):sumTo s b (k+1)=yx (sumTo s b k) ((s[k]'h).toNat:Int):=by
 rw [sumTo,dif_pos h]
theorem RG (b:Int) (s:ByteArray) (w:World) (hs:s.size≤9223372036854775807) :
  Calls Tryz.prog 87 #[.int .u64 b,.string s] w fun e w'=>e=.returned (.int .u64 (BF b s))∧w=w':=by
 have HZ:Hid (BF b s=yx (sumTo s b s.size) (s.size:Int)):=hid rfl
 have H0:Hid (sumTo s b 0=bits BinOp.xor IntKind.u64 b 14695981039346656037):=hid rfl
 go_enter Tryz.func87,Tryz.ntmps87
 go_wp2_with fail
 go_loop [5,11] (fun h i=>∃ k:Nat,k≤s.size∧i=.int .i64 k∧h=.int .u64 (sumTo s b k)) (fun _ i=>s.size - (intOf i).toNat)
 case atStart=>exact ⟨0,Nat.zero_le _,rfl,by rw [H0.out]⟩
 case round =>
  obtain ⟨k,hk,rfl,rfl⟩:=hrel
  by_cases hlt:k<s.size
  ·have HS:=hid (PG s b k hlt)
   generalize sumTo s b k=x at *
   go_wp2_with fail
   go_round
   case rel=>exact ⟨k+1,by omega,by go_num,by rw [HS.out]; rfl⟩
   case measure=>simp [intOf]; omega
  ·obtain rfl:k=s.size:=by omega
   generalize sumTo s b s.size=x at *
   go_wp2_with fail
   go_ret
   exact ⟨XV (by rw [HZ.out,yx,IntWalk.u64_in (s.size:Int) (by omega)]),rfl⟩
structure jA where
 txt:ByteArray
 sum:Int
def jA.val (e:jA):Value:=.agg #[.string e.txt,.int .u64 e.sum]
def DL (b:Int) (e:jA):Int:=if textE e.txt≠0 then textE e.txt else if e.sum≠BF b e.txt then 15 else 0
def IQ (c:Int) (w:World) (e:Ending) (w':World):Prop:=e=.returned (.int .i64 c)∧Below w.heap.size w w'
set_option maxHeartbeats 1000000 in
theorem Uc (b:Int) (x:jA) (w:World) (hs:x.txt.size≤9223372036854775807) :
  Calls Tryz.prog 117 #[.int .u64 b,x.val] w (IQ (DL b x) w):=by
 have HR:Hid (DL b x=if textE x.txt≠0 then textE x.txt else if x.sum≠BF b x.txt then 15 else 0):=hid rfl
 obtain ⟨s,n⟩:=x
 unfold jA.val
 simp only at *
 have HT:=hid (fun w=>LH s w hs)
 have HS:=hid (fun w=>RG b s w hs)
 have hb0:Below w.heap.size w (w.alloc (.cells #[.string s,.int .u64 n] 205)):=by go_grown
 cases hr:(textE s != 0)
 ·have hr0:textE s=0:=by simpa using hr
  rw [hr0] at HT
  have HR2:Hid (DL b ⟨s,n⟩=if n≠BF b s then 15 else 0):=hid (by rw [HR.out,if_neg (by simpa using hr0)])
  clear hr hr0 HR
  generalize BF b s=z at *
  go_enter Tryz.func117,Tryz.ntmps117
  go_wp2_with fail
  refine (HT.out _).mono ?_
  rintro e w1 ⟨rfl,hb1⟩
  have d0:w1.cell? ⟨w.heap.size,0,none⟩=some (.string s):=(hb1.cell (p:=⟨w.heap.size,0,none⟩) (by simp)).trans (by go_simp)
  have d1:w1.cell? ⟨w.heap.size,1,none⟩=some (.int .u64 n):=(hb1.cell (p:=⟨w.heap.size,1,none⟩) (by simp)).trans (by go_simp)
  have hbw:=hb0.trans (hb1.mono (by simp))
  clear hb1
  go_wp2_with fail
  go_quiet ((go_at_call 87; exact J7 HS.out))
  have hbq:=below_drewN hbw nq
  clear d0 d1
  generalize w1.drewN nq=W at *
  cases hz:(n != z)
  all_goals
   go_wp2_with fail
   go_ret
   exact ⟨by rw [HR2.out]; simp at hz; simp [hz],hbq⟩
 ·generalize textE s=t at *
  go_enter Tryz.func117,Tryz.ntmps117
  go_wp2_with fail
  refine (HT.out _).mono ?_
  rintro e w1 ⟨rfl,hb1⟩
  go_wp2_with fail
  go_ret
  exact ⟨by rw [HR.out,if_pos (by simpa using hr)]; rfl,hb0.trans (hb1.mono (by simp))⟩
def iD (es:List jA):List Value:=es.flatMap fun e=>[.string e.txt,.int .u64 e.sum]
theorem wR (e:jA) (t:List jA):iD (e :: t)=.string e.txt :: .int .u64 e.sum :: iD t:=rfl
theorem Gn (es:List jA):(iD es).length=es.length * 2:=by
 induction es with
 | nil=>rfl
 | cons e t ih=>rw [wR]; simp [ih]; omega
theorem IU (a b:List jA):iD (a++b)=iD a++iD b:=by simp [iD]
theorem XW (es:List jA) (k:Nat) (h:k<es.length):(iD es)[k * 2]?=some (.string es[k].txt)∧(iD es)[k * 2+1]?=some (.int .u64 es[k].sum):=by
 induction es generalizing k with
 | nil=>simp at h
 | cons g t ih =>
  cases k with
  | zero=>exact ⟨rfl,rfl⟩
  | succ k =>
   have:=ih k (by simpa using h)
   have e:(k+1) * 2=k * 2+2:=by omega
   rw [e]
   exact this
theorem PI (es:List jA) (k:Nat):(iD es).take (k * 2)=iD (es.take k):=by
 induction es generalizing k with
 | nil=>simp [iD]
 | cons g t ih =>
  cases k with
  | zero=>simp [iD]
  | succ k =>
   have e:(k+1) * 2=k * 2+1+1:=by omega
   rw [e,wR,List.take_succ_cons,List.take_succ_cons,ih,List.take_succ_cons,wR]
def JX (w:World) (v:Value) (es:List jA):Prop:=Rd w 2 es.length v (iD es)
theorem JX.below {w w':World} {v:Value} {es:List jA} {B:Nat} (h:JX w v es) (hb:Below B w w') (hB:w.heap.size≤B):JX w' v es:=Rd.below h hb hB
theorem JX.take {w:World} {a:Option Addr} {c:Nat} {es:List jA} (h:JX w (.slice a es.length c) es) (k:Nat) (hk:k≤es.length):JX w (.slice a k c) (es.take k):=by
 have:=Rd.take h k hk
 rw [PI] at this
 unfold JX
 rw [List.length_take,Nat.min_eq_left hk]
 exact this
theorem JX.form {w:World} {v:Value} {es:List jA} (h:JX w v es):∃ a c,v=.slice a es.length c∧es.length≤c∧c≤maxLen ∧
  ∀ k (hk:k<es.length),∃ g o,a=some ⟨g,o,none⟩∧g<w.heap.size∧w.cell? ⟨g,o+k * 2,none⟩=some (.string es[k].txt)∧w.cell? ⟨g,o+k * 2+1,none⟩=some (.int .u64 es[k].sum):=by
 rcases h.2 with ⟨⟨a0,c0,h,hm⟩,hz⟩ | ⟨g,o,c,h',h1,h2,hc⟩
 ·exact ⟨a0,c0,by rw [h,hz],by omega,hm,fun k hk=>by omega⟩
 ·refine ⟨_,_,h',h1,h2,fun k hk=>⟨g,o,rfl,?_⟩⟩
  obtain ⟨q0,q1⟩:=XW es k hk
  have e0:=(hc (k * 2) (by omega)).trans q0
  have e1:=(hc (k * 2+1) (by omega)).trans q1
  exact ⟨World.block_lt_of_cell? w _ e0,e0,e1⟩
def rQ (es:List jA):Int:=match es.getLast? with | none=>0 | some e=>e.sum
theorem last_any (v:Value) (es:List jA) (w:World) (h:JX w v es) :
  Calls Tryz.prog 88 #[v] w fun e w'=>e=.returned (.int .u64 (rQ es))∧w=w':=by
 obtain ⟨a,c,rfl,h1,h2,hc⟩:=h.form
 unfold maxLen at h2
 cases es with
 | nil =>
  clear h hc
  simp only [List.length_nil]
  go_enter Tryz.func88,Tryz.ntmps88
  go_wp2_with fail
  go_ret
  exact ⟨rfl,rfl⟩
 | cons e0 t =>
  obtain ⟨g,o,rfl,hg,c0,c1⟩:=hc t.length (by simp)
  have HL:Hid (rQ (e0 :: t)=((e0 :: t)[t.length]'(by simp)).sum):=hid (by
   unfold rQ
   rw [List.getLast?_eq_getElem?]
   simp)
  have hlen:(e0 :: t).length=t.length+1:=rfl
  rw [hlen]
  have hq:((((t.length+1:Nat)):Int) == 0)=false:=by simp; omega
  have h3:t.length+1≤9223372036854775807:=by simp at h1; omega
  generalize ((e0 :: t)[t.length]'(by simp)).sum=z at *
  clear h hc c0 hlen h1
  go_enter Tryz.func88,Tryz.ntmps88
  go_wp2_with fail
  go_ret
  exact ⟨by rw [HL.out]; rfl,rfl⟩
def OkJ (es:List jA):Prop:=(∀ e∈es,e.txt.size≤200)∧∀ k (h:k<es.length),DL (rQ (es.take k)) es[k]=0
theorem ahX:Tryz.prog.underlying 128=some (.slice (Tryz.prog.elem 128)):=by kernel_rfl
theorem ahY (w:World):(sizeOf (Tryz.prog.elem 128)).run Tryz.prog w=.ok 2 w:=by kernel_rfl
set_option maxHeartbeats 2000000 in
theorem abE (v:Value) (es:List jA) (w:World) (h:JX w v es) (hok:OkJ es) (hlen:es.length≤1000) :
  Calls Tryz.prog 116 #[v] w (IQ (es.length:Int) w):=by
 obtain ⟨a,c,rfl,h1,h2,hc⟩:=h.form
 unfold maxLen at h2
 have HJ:=hid h
 have HC:=hid hc
 have HK:=hid hok
 clear h hc hok
 go_enter Tryz.func116,Tryz.ntmps116
 go_wp2_with fail
 go_loopw [7] (fun i wr=>∃ k:Nat,k≤es.length∧i=.int .i64 k∧Below w.heap.size w wr) (fun i _=>es.length - (intOf i).toNat)
 case atStart=>exact ⟨0,Nat.zero_le _,rfl,Below.refl _ _⟩
 case round =>
  obtain ⟨k,hk,rfl,hbl⟩:=hrel
  by_cases hlt:k<es.length
  ·obtain ⟨g,o,rfl,hg,c0,c1⟩:=HC.out k hlt
   have d0:wr.cell? ⟨g,o+k * 2,none⟩=some (.string es[k].txt):=(hbl.cell (p:=⟨g,o+k * 2,none⟩) hg).trans c0
   have d1:wr.cell? ⟨g,o+k * 2+1,none⟩=some (.int .u64 es[k].sum):=(hbl.cell (p:=⟨g,o+k * 2+1,none⟩) hg).trans c1
   have hw:=HK.out.2 k hlt
   have hsz:=HK.out.1 es[k] (List.getElem_mem hlt)
   have aup:=hbl.size
   have hgr:g<wr.heap.size:=by omega
   clear c0 c1
   have IV:=hid (fun (wx:World) (hx:Below w.heap.size w wx)=>last_any _ (es.take k) wx (JX.below (JX.take HJ.out k hk) hx (Nat.le_refl _)))
   generalize rQ (es.take k)=lz at *
   generalize hek:es[k]=ek at *
   clear hek
   have HWr:=hid (fun wx=>Uc lz ek wx (by omega))
   rw [hw] at HWr
   obtain ⟨s,n⟩:=ek
   unfold jA.val at HWr
   simp only at *
   have hba:Below w.heap.size w (wr.alloc (.cells #[.string s,.int .u64 n] 205)):=by go_grown
   have e0:(wr.alloc (.cells #[.string s,.int .u64 n] 205)).cell? ⟨wr.heap.size,0,none⟩=some (.string s):=by go_simp
   have e1:(wr.alloc (.cells #[.string s,.int .u64 n] 205)).cell? ⟨wr.heap.size,1,none⟩=some (.int .u64 n):=by go_simp
   have hk1:((k:Int) == 1000)=false:=by simp; omega
   have hsl:=fun w=>OH ahX ahY (some ⟨g,o,none⟩) es.length c k (by omega) w
   go_wp2_with fail
   generalize (wr.alloc (.cells #[.string s,.int .u64 n] 205))=W at *
   clear d0 d1 hw
   have hbd:Below w.heap.size w W.drew:=hba.drew
   go_region_with (first | (go_at_call 88; refine (IV.out _ hbd).mono ?_; rintro e w' ⟨rfl,rfl⟩) | (go_at_call 117; refine (HWr.out _).mono ?_; rintro e w9 ⟨rfl,vW⟩))
   all_goals
    have hb2:Below w.heap.size w w9:=hbd.trans (vW.mono (by have:=hbd.size; simpa using this))
    clear vW e0 e1 hsl
    go_wp2_with fail
    go_roundw
    case rel=>exact ⟨k+1,by omega,by go_num,hb2⟩
    case measure=>simp [intOf]; omega
  ·obtain rfl:k=es.length:=by omega
   go_wp2_with fail
   go_ret
   exact ⟨rfl,hbl⟩
structure qW where
 ps:List (Int×Int)
 inc:Int
 delay:Int
structure oG where
 l0:Int
 l1:Int
 m0:Int
 m1:Int
 p0:Int
 p1:Int
 turn:Int
 since:Int
 st:Bool
 ay:Int
deriving DecidableEq,Inhabited
def kU (CR:qW) (c:oG) (now:Int):Int:=if c.st=true then 0 else max 0 (now - c.since - CR.delay)
def Ud (x:Int):Int:=if 100000000000<x then 100000000000 else x
def vX (x:Int):Int:=if 400<x then 400 else x
def bH (CR:qW) (c:oG) (now:Int):oG:=
 if c.ay<0 then (if c.turn=0 then (if c.l0<kU CR c now then { c with ay:=0,l0:=0 } else c) else (if c.l1<kU CR c now then { c with ay:=1,l1:=0 } else c)) else c
def jV (CR:qW) (p m:Int):Bool:=decide (0<(CR.ps.getD p.toNat (0,0)).1∧(CR.ps.getD p.toNat (0,0)).1≤vX (m+1))
def Gp (CR:qW) (c:oG) (now l p m:Int):Int:=
 if jV CR p m=true then Ud (Ud (l - kU CR c now+CR.inc)+(CR.ps.getD (p.toNat+1) (0,0)).2) else Ud (l - kU CR c now+CR.inc)
def dF (CR:qW) (c:oG) (now:Int):oG:=
 if c.turn=0 then { c with l0:=Gp CR c now c.l0 c.p0 c.m0,m0:=if jV CR c.p0 c.m0=true then 0 else vX (c.m0+1),p0:=if jV CR c.p0 c.m0=true then c.p0+1 else c.p0,turn:=1,since:=now }
 else { c with l1:=Gp CR c now c.l1 c.p1 c.m1,m1:=if jV CR c.p1 c.m1=true then 0 else vX (c.m1+1),p1:=if jV CR c.p1 c.m1=true then c.p1+1 else c.p1,turn:=0,since:=now }
def aI (CR:qW) (now:Int):oG:=⟨(CR.ps.getD 0 (0,0)).2,(CR.ps.getD 0 (0,0)).2,0,0,0,0,0,now,false,-1⟩
structure mG where
 b0:Int
 b1:Int
 lC:Int
 lD:Int
 l10:Int
 lF:Int
deriving DecidableEq,Inhabited
def qC:mG:=⟨-1,-1,-1,-1,-1,-1⟩
def byO (o:mG) (k:Int):Int:=if k=0 then o.b0 else o.b1
def ahZ (o:mG) (k p:Int):Int:=if k=0 then (if p=0 then o.lC else o.lD) else (if p=0 then o.l10 else o.lF)
def XY (aV moves:Int):Int:=if moves % 2=aV then (if 2≤moves then 2 else 0) else (if 1≤moves then 1 else 0)
def adJ (o:mG) (k p n:Int):Int:=if ¬ (k=0∨k=1) then 1 else if 0≤byO o k then 7 else if ahZ o k p=n then 11 else if k=1∧XY p n=0 then 8 else 0
def XZ (o:mG) (k p n:Int):mG:=
 if k=0 then (if p=0 then { o with b0:=0,lC:=n } else { o with b0:=1,lD:=n }) else (if p=0 then { o with b1:=0,l10:=n } else { o with b1:=1,lF:=n })
def RH (o:mG) (k p n:Int):Int:=if ¬ (k=0∨k=1) then 1 else if byO o k≠1 - p then 10 else 0
def BU (o:mG):mG:={ o with b0:=-1,b1:=-1 }
def DN (o:mG) (k:Int):mG:=if k=0 then { o with b0:=-1 } else { o with b1:=-1 }
def rU (o:mG) (p:Int):mG:={ o with b0:=if o.b0=1 - p then -1 else o.b0,b1:=-1 }
def X0 (o:mG) (n:Int):mG:=⟨-1,-1,min o.lC n,min o.lD n,min o.l10 n,min o.lF n⟩
structure yA where
 kind:Int
 aV:Int
 n:Int
 now:Int
 m:aB
deriving DecidableEq,Inhabited
def gV (e:yA):ByteArray:=
 ⟨(Lib.itoa e.kind++32 :: (Lib.itoa e.aV++32 :: (Lib.itoa e.n++32 :: (Lib.itoa e.now++32 :: (Lib.itoa e.m.src++32 :: (Lib.itoa e.m.dst++32 :: Lib.itoa e.m.piece)))))).toArray⟩
def oH (now:Int):ByteArray:=⟨(([115,116,97,114,116,32]:List UInt8)++Lib.itoa now).toArray⟩
structure aP where
 R:aA
 CR:qW
 ms:List aB
 res:Int
 reason:Int
 clk:oG
 off:mG
 aX:List fU
 last:Int
 jr:List jA
def aP.pos (M:aP):bf:=bV M.R M.ms
def aP.game (M:aP):Int:=fZ M.R M.ms
def aP.over (M:aP):aP:=if M.game≠0∧M.res=0 then { M with res:=M.game,reason:=1 } else M
def aP.move (M:aP) (x:aB) (now:Int):aP:={ M with ms:=M.ms++[x],clk:=dF M.CR M.clk now,off:=rU M.off M.pos.turn }
def aP.runs (now:Int):Nat→aP→aP
 | 0,M=>M
 | f+1,M =>
  if M.game=0∧M.ms.length<400 then
   (if jP M.R M.pos M.aX=true then aP.runs now f (aP.move { M with aX:=aO M.R M.pos M.aX } (bQ M.R M.pos M.aX) now) else { M with aX:=aO M.R M.pos M.aX })
  else M
def aP.jQ (M:aP) (e:yA):aP×Int:=
 if M.pos.turn≠e.aV then (M,12) else if e.m∉kC M.R M.pos then (M,13) else if M.ms.length=400 then (M,2) else (aP.runs e.now 400 (M.move e.m e.now),0)
def aP.qE (M:aP) (e:yA):aP×Int:=
 if M.pos.turn=e.aV then (M,12) else if (Ot M.aX e.aV).length=4 then (M,9) else ({ M with aX:=M.aX++[⟨e.aV,e.m⟩] },0)
def aP.yB (M:aP) (e:yA):aP×Int:=
 if e.kind=3 then (if RH M.off e.n e.aV M.ms.length≠0 then (M,RH M.off e.n e.aV M.ms.length) else ({ M with off:=DN M.off e.n },0))
 else (if adJ M.off e.n e.aV M.ms.length≠0 then (M,adJ M.off e.n e.aV M.ms.length) else ({ M with off:=XZ M.off e.n e.aV M.ms.length },0))
def aP.backTo (M:aP) (k:Nat) (now:Int):aP:=
 { M with ms:=M.ms.take (M.ms.length - k),off:=X0 (BU M.off) ((M.ms.length - k:Nat):Int),clk:={ M.clk with turn:=(bV M.R (M.ms.take (M.ms.length - k))).turn,since:=now },aX:=[] }
def aP.tC (M:aP) (e:yA):aP×Int:=
 if RH M.off e.n e.aV M.ms.length≠0 then (M,RH M.off e.n e.aV M.ms.length)
 else if e.n=0 then ({ M with off:=BU M.off,res:=3,reason:=4 },0)
 else (M.backTo (XY (1 - e.aV) M.ms.length).toNat e.now,0)
def IW (R:aA) (p:bf) (aV:Int):Int:=if anh R p (1 - aV)=true then 2 - aV else 3
def aP.yC (M:aP) (e:yA):aP×Int:=
 if e.n=2 then
  (if (bH M.CR M.clk e.now).ay<0 then (M,10) else ({ M with clk:=bH M.CR M.clk e.now,res:=IW M.R M.pos (bH M.CR M.clk e.now).ay,reason:=2 },0))
 else if e.n≠0∧e.n≠1 then (M,1) else if M.pos.turn≠e.aV then (M,12)
 else if ¬ (e.n=0∧3≤zO M.R M.ms∨e.n=1∧20≤M.pos.quiet) then (M,10) else ({ M with res:=3,reason:=5 },0)
def aP.kind (M:aP) (e:yA):aP×Int:=
 if e.kind=0 then M.jQ e else if e.kind=1∨e.kind=3 then M.yB e else if e.kind=2 then M.tC e else if e.kind=5 then M.yC e
 else if e.kind=6 then M.qE e else ({ M with res:=2 - e.aV,reason:=3 },0)
def aP.mJ (M:aP) (e:yA):Int:=
 if e.kind<0∨6<e.kind∨(e.aV≠0∧e.aV≠1) then 1 else if e.now<M.last∨100000000<e.now then 11 else if M.res≠0 then 14 else if M.jr.length=1000 then 9
 else if 0≤(bH M.CR M.clk e.now).ay∧e.kind≠4∧¬ (e.kind=5∧e.n=2) then 11 else 0
def mX (l:List jA) (t:ByteArray):jA:=⟨t,BF (rQ l) t⟩
def aP.put (M:aP) (e:yA):aP:={ M with last:=e.now,jr:=M.jr++[mX M.jr (gV e)] }
def aP.go (M:aP) (e:yA):aP×Int:=if M.mJ e≠0 then (M,M.mJ e) else if (M.kind e).2≠0 then (M,(M.kind e).2) else ((M.kind e).1.put e |>.over,0)
def jW (R:aA) (CR:qW) (now:Int):aP:=aP.over ⟨R,CR,[],0,0,aI CR now,qC,[],now,[mX [] (oH now)]⟩
theorem DR (M:aP) (e:yA) (h:(M.kind e).2≠0):(M.kind e).1=M:=by
 revert h
 unfold aP.kind aP.jQ aP.yB aP.tC aP.yC aP.qE
 repeat' split
 all_goals first | (intro _; rfl) | (intro h; exact absurd rfl h)
structure BX (CR:qW):Prop where
 n:1≤CR.ps.length∧CR.ps.length≤5
 inc:0≤CR.inc∧CR.inc≤100000000
 del:0≤CR.delay∧CR.delay≤100000000
 pm:∀ k,k<CR.ps.length→0≤(CR.ps.getD k (0,0)).1∧(CR.ps.getD k (0,0)).1≤400
 pt:∀ k,k<CR.ps.length→1≤(CR.ps.getD k (0,0)).2∧(CR.ps.getD k (0,0)).2≤100000000
 pz:∀ k,k<CR.ps.length→((CR.ps.getD k (0,0)).1=0↔k+1=CR.ps.length)
structure tH (CR:qW) (c:oG):Prop where
 t:0≤c.turn∧c.turn≤1
 f : -1≤c.ay∧c.ay≤1
 s:0≤c.since∧c.since≤100000000
 p0:0≤c.p0∧c.p0≤(CR.ps.length:Int) - 1
 m0:0≤c.m0∧c.m0≤400
 l0:0≤c.l0∧c.l0≤100000000000
 p1:0≤c.p1∧c.p1≤(CR.ps.length:Int) - 1
 m1:0≤c.m1∧c.m1≤400
 l1:0≤c.l1∧c.l1≤100000000000
theorem Ue {CR:qW} {c:oG} {now:Int} (h:BX CR) (hs:c.since=now):kU CR c now=0:=by
 have:=h.del
 unfold kU
 split <;> omega
theorem X6 {x:Int} (h:0≤x):0≤Ud x∧Ud x≤100000000000:=by unfold Ud; split <;> omega
theorem RI {x:Int} (h:0≤x):0≤vX x∧vX x≤400:=by unfold vX; split <;> omega
theorem PK {CR:qW} {p m:Int} (h:BX CR) (hp:0≤p∧p≤(CR.ps.length:Int) - 1) (hf:jV CR p m=true):p+1≤(CR.ps.length:Int) - 1:=by
 unfold jV at hf
 have hf:=of_decide_eq_true hf
 have hz:=h.pz p.toNat (by omega)
 by_cases e:p.toNat+1=CR.ps.length
 ·have:=hz.2 e; omega
 ·omega
theorem X7 {CR:qW} {c:oG} {now l p m:Int} (h:BX CR) (hp:0≤p∧p≤(CR.ps.length:Int) - 1) (hu:kU CR c now≤l):0≤Gp CR c now l p m∧Gp CR c now l p m≤100000000000:=by
 have:=h.inc
 have hb:=X6 (x:=l - kU CR c now+CR.inc) (by omega)
 unfold Gp
 by_cases hf:jV CR p m=true
 ·rw [if_pos hf]
  have h1:=PK h hp hf
  have h2:=h.pt (p.toNat+1) (by omega)
  exact X6 (by omega)
 ·rw [if_neg hf]; exact hb
theorem abG {CR:qW} {c:oG} {now:Int} (h:BX CR) (k:tH CR c) (h0:0≤now) (h1:now≤100000000) (hu:kU CR c now≤if c.turn=0 then c.l0 else c.l1):tH CR (dF CR c now):=by
 unfold dF
 by_cases ht:c.turn=0
 ·rw [if_pos ht] at hu ⊢
  refine ⟨by dsimp only; decide,k.f,⟨h0,h1⟩,?_,?_,X7 h k.p0 hu,k.p1,k.m1,k.l1⟩
  ·show 0≤(if jV CR c.p0 c.m0=true then c.p0+1 else c.p0)∧(if jV CR c.p0 c.m0=true then c.p0+1 else c.p0)≤(CR.ps.length:Int) - 1
   by_cases hf:jV CR c.p0 c.m0=true
   ·rw [if_pos hf]; have:=PK h k.p0 hf; have:=k.p0; omega
   ·rw [if_neg hf]; exact k.p0
  ·show 0≤(if jV CR c.p0 c.m0=true then 0 else vX (c.m0+1))∧(if jV CR c.p0 c.m0=true then 0 else vX (c.m0+1))≤400
   by_cases hf:jV CR c.p0 c.m0=true
   ·rw [if_pos hf]; omega
   ·rw [if_neg hf]; have:=k.m0; exact RI (by omega)
 ·rw [if_neg ht] at hu ⊢
  refine ⟨by dsimp only; decide,k.f,⟨h0,h1⟩,k.p0,k.m0,k.l0,?_,?_,X7 h k.p1 hu⟩
  ·show 0≤(if jV CR c.p1 c.m1=true then c.p1+1 else c.p1)∧(if jV CR c.p1 c.m1=true then c.p1+1 else c.p1)≤(CR.ps.length:Int) - 1
   by_cases hf:jV CR c.p1 c.m1=true
   ·rw [if_pos hf]; have:=PK h k.p1 hf; have:=k.p1; omega
   ·rw [if_neg hf]; exact k.p1
  ·show 0≤(if jV CR c.p1 c.m1=true then 0 else vX (c.m1+1))∧(if jV CR c.p1 c.m1=true then 0 else vX (c.m1+1))≤400
   by_cases hf:jV CR c.p1 c.m1=true
   ·rw [if_pos hf]; omega
   ·rw [if_neg hf]; have:=k.m1; exact RI (by omega)
theorem PL (CR:qW) (c:oG) (now:Int):(dF CR c now).since=now∧(dF CR c now).ay=c.ay∧(dF CR c now).st=c.st:=by
 unfold dF; split <;> exact ⟨rfl,rfl,rfl⟩
theorem aeL {CR:qW} {c:oG} (k:tH CR c) (now:Int):tH CR (bH CR c now):=by
 unfold bH
 repeat' split
 ·exact ⟨k.t,by dsimp only; decide,k.s,k.p0,k.m0,⟨Int.le_refl _,by dsimp only; decide⟩,k.p1,k.m1,k.l1⟩
 ·exact k
 ·exact ⟨k.t,by dsimp only; decide,k.s,k.p0,k.m0,k.l0,k.p1,k.m1,⟨Int.le_refl _,by dsimp only; decide⟩⟩
 ·exact k
 ·exact k
theorem Uf {CR:qW} {c:oG} {now:Int} (hf:c.ay<0) (h:(bH CR c now).ay<0):kU CR c now≤if c.turn=0 then c.l0 else c.l1:=by
 unfold bH at h
 rw [if_pos hf] at h
 by_cases ht:c.turn=0
 ·rw [if_pos ht] at h ⊢
  by_cases hl:c.l0<kU CR c now
  ·rw [if_pos hl] at h; exact absurd h (by dsimp only; decide)
  ·omega
 ·rw [if_neg ht] at h ⊢
  by_cases hl:c.l1<kU CR c now
  ·rw [if_pos hl] at h; exact absurd h (by dsimp only; decide)
  ·omega
theorem Gq (CR:qW) (c:oG) (now:Int):(bH CR c now).since=c.since∧(bH CR c now).st=c.st:=by
 unfold bH; repeat' split
 all_goals exact ⟨rfl,rfl⟩
structure qF (o:mG):Prop where
 lC : -1≤o.lC∧o.lC≤400
 lD : -1≤o.lD∧o.lD≤400
 l10 : -1≤o.l10∧o.l10≤400
 lF : -1≤o.lF∧o.lF≤400
 b0 : -1≤o.b0∧o.b0≤1
 b1 : -1≤o.b1∧o.b1≤1
 f00:¬ (o.b0=0∧o.lC = -1)
 f01:¬ (o.b0=1∧o.lD = -1)
 f10:¬ (o.b1=0∧o.l10 = -1)
 f11:¬ (o.b1=1∧o.lF = -1)
theorem aeM:qF qC:=⟨by decide,by decide,by decide,by decide,by decide,by decide,by decide,by decide,by decide,by decide⟩
theorem abH {o:mG} (h:qF o) (k p:Int) (n:Nat) (hn:n≤400):qF (XZ o k p n):=by
 obtain ⟨a1,a2,a3,a4,a5,a6,a7,a8,a9,a10⟩:=h
 unfold XZ
 repeat' split
 all_goals constructor <;> simp <;> omega
theorem Gt {o:mG} (h:qF o):qF (BU o):=by
 obtain ⟨a1,a2,a3,a4,a5,a6,a7,a8,a9,a10⟩:=h
 unfold BU
 constructor <;> simp <;> omega
theorem PN {o:mG} (h:qF o) (k:Int):qF (DN o k):=by
 obtain ⟨a1,a2,a3,a4,a5,a6,a7,a8,a9,a10⟩:=h
 unfold DN
 repeat' split
 all_goals constructor <;> simp <;> omega
theorem abI {o:mG} (h:qF o) (p:Int):qF (rU o p):=by
 obtain ⟨a1,a2,a3,a4,a5,a6,a7,a8,a9,a10⟩:=h
 unfold rU
 constructor <;> simp <;> (try split) <;> omega
theorem abJ {o:mG} (h:qF o) (n:Nat):qF (X0 o n):=by
 obtain ⟨a1,a2,a3,a4,a5,a6,a7,a8,a9,a10⟩:=h
 unfold X0
 constructor <;> simp <;> omega
structure pq (l:List fU):Prop where
 n0:(Ot l 0).length≤4
 n1:(Ot l 1).length≤4
 pl:∀ x∈l,x.aV=0∨x.aV=1
theorem of_sub {l l':List fU} (h:List.Sublist l' l) (pl:Int):(Ot l' pl).length≤(Ot l pl).length:=by
 unfold Ot
 rw [List.length_map,List.length_map]
 exact (h.filter _).length_le
theorem pq.sub {l l':List fU} (h:pq l) (hs:List.Sublist l' l):pq l':=
 ⟨Nat.le_trans (of_sub hs 0) h.n0,Nat.le_trans (of_sub hs 1) h.n1,fun x hx=>h.pl x (hs.subset hx)⟩
theorem X9 (R:aA) (p:bf) (l:List fU):List.Sublist (aO R p l) l:=by
 unfold aO
 split
 ·generalize (wQ p l).toNat=k
  have h:=List.Sublist.append (List.Sublist.refl (l.take k)) (List.Sublist.trans (List.drop_sublist 1 _) (List.Sublist.refl (l.drop k)))
  rw [List.drop_drop,List.take_append_drop] at h
  rw [Nat.add_comm] at h
  exact (by simpa [Nat.add_comm] using h)
 ·unfold LD; exact List.filter_sublist
theorem pq.len {l:List fU} (h:pq l):l.length≤8:=by
 have key:∀ l:List fU,(∀ x∈l,x.aV=0∨x.aV=1)→l.length=(Ot l 0).length+(Ot l 1).length:=by
  intro l
  induction l with
  | nil=>intro _; rfl
  | cons x t ih =>
   intro hx
   have i:=ih (fun y hy=>hx y (List.mem_cons_of_mem _ hy))
   unfold Ot at i ⊢
   rcases hx x (List.mem_cons_self ..) with e | e
   ·simp [List.filter_cons,e] at i ⊢; omega
   ·simp [List.filter_cons,e] at i ⊢; omega
 have:=key l h.pl
 have:=h.n0; have:=h.n1; omega
theorem pq.add {l:List fU} (h:pq l) (pl:Int) (m:aB) (hp:pl=0∨pl=1) (hf:(Ot l pl).length≠4):pq (l++[⟨pl,m⟩]):=by
 have h0:=h.n0; have h1:=h.n1
 rcases hp with rfl | rfl
 ·refine ⟨?_,?_,?_⟩
  ·unfold Ot at hf h0 ⊢; simp at hf h0 ⊢; omega
  ·unfold Ot at h1 ⊢; simp at h1 ⊢; omega
  ·intro x hx; rcases List.mem_append.1 hx with hx | hx
   ·exact h.pl x hx
   ·rw [List.mem_singleton.1 hx]; exact .inl rfl
 ·refine ⟨?_,?_,?_⟩
  ·unfold Ot at h0 ⊢; simp at h0 ⊢; omega
  ·unfold Ot at hf h1 ⊢; simp at hf h1 ⊢; omega
  ·intro x hx; rcases List.mem_append.1 hx with hx | hx
   ·exact h.pl x hx
   ·rw [List.mem_singleton.1 hx]; exact .inr rfl
end Go.Proofs.YteablcielclaeaaGreatDoor
namespace Go.Proofs.YteablcielclaeaaGreatDoor.gx
open Go.ChangeShapes Go.WideShapes Go.ChangeAt Go.RowKit
set_option linter.unusedVariables false
def Held (X S:Nat→Prop) (w:World) (D:World→Prop):Prop:=∀ w',Fr (fun k=>S k∨X k) w w'→D w'
theorem Held.now {X S:Nat→Prop} {w:World} {D:World→Prop} (h:Held X S w D):D w:=h w (Fr.refl _ _)
theorem Held.RJ {X S S':Nat→Prop} {w w1:World} {D:World→Prop} (h:Held X S w D) (hf:Fr (fun k=>S k∨X k) w w1) (hs:iE w S S'):Held X S' w1 D:=fun w' hw=>h w' (hf.trans hw (fun k hk h'=>by rcases h' with h' | h'; exact .inl (hs k hk h'); exact .inr h'))
theorem Held.step {X S S':Nat→Prop} {w w1:World} {D:World→Prop} (h:Held X S w D) (hf:Fr S w w1) (hs:iE w S S'):Held X S' w1 D:=h.RJ (hf.mono (fun k _ h=>.inl h)) hs
theorem Held.imp {X S:Nat→Prop} {w:World} {D D':World→Prop} (h:Held X S w D) (hd:∀ w',D w'→D' w'):Held X S w D':=fun w' hw=>hd w' (h w' hw)
theorem Held.plain {X S:Nat→Prop} {w:World} {D:World→Prop} (h:Held X S w D):Go.Proofs.YteablcielclaeaaGreatDoor.Held S w D:=fun w' hw=>h w' (hw.mono (fun k _ h=>.inl h))
theorem zN {X S:Nat→Prop} {w:World} {base:Nat} {p:bf} {vc v0 v1:Value} (h:mF base w p vc v0 v1) (hS:∀ k,base≤k→k<w.heap.size→¬ (S k∨X k)):Held X S w fun w'=>mF base w' p vc v0 v1:=fun w' hw=>Go.Proofs.YteablcielclaeaaGreatDoor.zN h hS w' hw
theorem Gu {lo:Nat} {w w2:World} {D:World→Prop} {X S:Nat→Prop} (h:Seen lo w D) (hb:Below w.heap.size w w2) (hS:∀ k,(S k∨X k)→k<lo∨w.heap.size≤k):Held X S w2 D:=fun w' hw=>h.held hb hS w' hw
structure bJ (X S:Nat→Prop) (base:Nat) (w:World) (b:Nat) (R:aA) (ms:List aB) (vp vs ve vl vm:Value) (rows:List lK):Prop where
 box:Box w b [.string R.name,.int .i64 R.width,.int .i64 R.height,vp,vs,.bool R.falls,.bool R.keeps,ve,.int .i64 R.blocked,.int .i64 R.quiet,.int .i64 R.bC,vl,vm] 193
 sb:S b
 lo:∀ k,S k→base≤k∧k<w.heap.size
 rd:Held X S w fun w'=>pV w' R vp vs ve
 ol:w.ownsRow base 158 5 vl (ms.length+1) (jU rows)
 mp:rows.map (·.p)=Dw R ms
 rw:∀ r∈rows,Held X S w fun w'=>sH w' r.p r.vc r.v0 r.v1
 om:w.ownsRow base 68 3 vm ms.length (bK ms)
 sl:∀ k,vl.ownBlock=some k→S k∧k≠b
 sm:∀ k,vm.ownBlock=some k→S k∧k≠b
 ap:vl.ownBlock=none∨vl.ownBlock≠vm.ownBlock
 lt:ms.length≤400
 la:iJ R (aF R) ms
 re:aJ R=0
variable {X S:Nat→Prop} {base:Nat} {w w':World} {b:Nat} {R:aA} {ms:List aB} {vp vs ve vl vm:Value} {rows:List lK}
theorem bJ.plain (h:bJ X S base w b R ms vp vs ve vl vm rows):Go.Proofs.YteablcielclaeaaGreatDoor.bJ S base w b R ms vp vs ve vl vm rows:=
 ⟨h.box,h.sb,h.lo,h.rd.plain,h.ol,h.mp,fun r hr=>(h.rw r hr).plain,h.om,h.sl,h.sm,h.ap,h.lt,h.la,h.re⟩
theorem bJ.below (h:bJ X S base w b R ms vp vs ve vl vm rows) (hb:Below w.heap.size w w'):bJ X S base w' b R ms vp vs ve vl vm rows:=
 ⟨h.box.stays hb,h.sb,fun k hk=>⟨(h.lo k hk).1,Nat.lt_of_lt_of_le (h.lo k hk).2 hb.size⟩,h.rd.step (Fr.jM (S:=S) hb) (iE.refl _ _),aS h.ol hb,h.mp,fun r hr=>(h.rw r hr).step (Fr.jM (S:=S) hb) (iE.refl _ _),aS h.om hb,h.sl,h.sm,h.ap,h.lt,h.la,h.re⟩
theorem bJ.pok (h:bJ X S base w b R ms vp vs ve vl vm rows) (k:Nat) (hk:k≤ms.length):qg R (kH R (aF R) (ms.take k)):=Ld (qx h.re) h.la k hk
theorem bJ.nok (h:bJ X S base w b R ms vp vs ve vl vm rows):qg R (bV R ms):=h.plain.nok
theorem bJ.other (h:bJ X S base w b R ms vp vs ve vl vm rows) (hf:Fr X w w') (hx:∀ k,S k→¬ X k):bJ X S base w' b R ms vp vs ve vl vm rows:=by
 have hF:Fr (fun k=>S k∨X k) w w':=hf.mono (fun k _ h=>.inr h)
 exact ⟨h.box.held hf (hx b h.sb),h.sb,fun k hk=>⟨(h.lo k hk).1,Nat.lt_of_lt_of_le (h.lo k hk).2 hf.size⟩,h.rd.RJ hF (iE.refl _ _),fC h.ol hf (fun k hk=>hx k (h.sl k hk).1),h.mp,fun r hr=>(h.rw r hr).RJ hF (iE.refl _ _),fC h.om hf (fun k hk=>hx k (h.sm k hk).1),h.sl,h.sm,h.ap,h.lt,h.la,h.re⟩
end Go.Proofs.YteablcielclaeaaGreatDoor.gx
namespace Go.Proofs.YteablcielclaeaaGreatDoor.gx
open Go.ChangeShapes Go.WideShapes Go.ChangeAt Go.RowKit
set_option linter.unusedVariables false
set_option maxHeartbeats 4000000
set_option maxRecDepth 100000
open Go.Lib (hid)
def IJ (R:aA) (w:World) (e:Ending) (w':World):Prop:=
 (aJ R≠0∧e=.returned (.tuple #[.pointer none,.int .i64 (aJ R)])∧Below w.heap.size w w') ∨
 (aJ R=0∧∃ S b vp vs ve vl vm rows,e=.returned (.tuple #[.pointer (some ⟨b,0,none⟩),.int .i64 0])∧(∀ X:Nat→Prop,(∀ k,X k→k<w.heap.size∨w'.heap.size≤k)→bJ X S w.heap.size w' b R [] vp vs ve vl vm rows)∧Below w.heap.size w w')
theorem BZ (R:aA) (vp vs ve:Value) (w:World) (hr:pV w R vp vs ve) (hnm:R.name.size≤maxLen) :
  Calls Tryz.prog 40 #[(.agg #[.string R.name,.int .i64 R.width,.int .i64 R.height,vp,vs,.bool R.falls,.bool R.keeps,ve,.int .i64 R.blocked,.int .i64 R.quiet,.int .i64 R.bC])] w (IJ R w):=by
 have HR:=hid hr
 have HN:=hid hnm
 clear hr hnm
 go_enter Tryz.func40,Tryz.ntmps40
 go_upto_region 1 with (fail)
 refine lX fun w0 B0 fJ hs_=>?_
 have HB:=hid fJ
 have hz0:w.heap.size<w0.heap.size:=by omega
 clear hs_ fJ
 have AO:=hid (HR.out.below HB.out (Nat.le_refl _))
 have HX0:=hid B0
 clear B0
 refine wp_region_lit ?_
 refine aH (by rfl) 61 (.tmp 1) (by rfl) w.heap.size (by rfl) HX0.out Tryz.underlying61 (by rfl) (by kernel_rfl) ?_
 go_wp2_with fail
 refine (CX R vp vs ve w0 AO.out HN.out).mono ?_
 rintro e w1 (⟨hbad,rfl,hb1⟩ | ⟨hre,c,c0,c1,rfl,ho1,hb1⟩)
 ·have Dh:=hid hbad
  have he':(aJ R != 0)=true:=by simpa using hbad
  have HB1:=hid (ak HB.out hb1 HB.out.size)
  clear hbad hb1
  unfold xO
  go_wp2_with fail
  go_ret2
  exact .inl ⟨Dh.out,rfl,HB1.out.alloc HB1.out.size _⟩
 have hp1:=ho1.rd
 obtain ⟨xa,xn,rfl,-,-⟩:=hp1.1.form
 obtain ⟨xa0,vT,rfl,-,-⟩:=hp1.2.1.form
 obtain ⟨xa1,vU,rfl,-,-⟩:=hp1.2.2.form
 have hrk:=Ik hre
 have Gv:=hid hre
 have hl1:R.pieces.length≤1000:=by have:=hrk.np; omega
 have hl2:R.start.length≤1000:=by have:=CW hre; omega
 have hl3:R.ends.length≤1000:=by have:=hrk.en; omega
 have HWL:Hid (∀ i,i<R.pieces.length→(R.pieces.getD i default).ways.length≤1000):=hid (fun i hi=>by have:=(hrk.pc i hi).2.2.1; omega)
 have hy0:=(HX0.out.stays hb1).alloc (.cells #[.slice xa (aF R).cells.length xn,.slice xa0 (aF R).h0.length vT,.slice xa1 (aF R).h1.length vU,.int .i64 (aF R).turn,.int .i64 (aF R).quiet] 158)
 have hyp:=Box.new w1 [.slice xa (aF R).cells.length xn,.slice xa0 (aF R).h0.length vT,.slice xa1 (aF R).h1.length vU,.int .i64 (aF R).turn,.int .i64 (aF R).quiet] 158
 have hyl:=(ak HB.out hb1 HB.out.size).alloc (ak HB.out hb1 HB.out.size).size (.cells #[.slice xa (aF R).cells.length xn,.slice xa0 (aF R).h0.length vT,.slice xa1 (aF R).h1.length vU,.int .i64 (aF R).turn,.int .i64 (aF R).quiet] 158)
 have hyr:OwnB w.heap.size (w1.alloc (.cells #[.slice xa (aF R).cells.length xn,.slice xa0 (aF R).h0.length vT,.slice xa1 (aF R).h1.length vU,.int .i64 (aF R).turn,.int .i64 (aF R).quiet] 158)) (aF R) (.slice xa (aF R).cells.length xn) (.slice xa0 (aF R).h0.length vT) (.slice xa1 (aF R).h1.length vU):=⟨own_base (ho1.1.alloc _) HB.out.size,own_base (ho1.2.1.alloc _) HB.out.size,own_base (ho1.2.2.alloc _) HB.out.size⟩
 have hyw:w.heap.size≤(w1.alloc (.cells #[.slice xa (aF R).cells.length xn,.slice xa0 (aF R).h0.length vT,.slice xa1 (aF R).h1.length vU,.int .i64 (aF R).turn,.int .i64 (aF R).quiet] 158)).heap.size:=hyl.size
 have HY:=hid (And.intro hy0 (And.intro hyp (And.intro hyl (And.intro hyr hyw))))
 clear hre hrk hp1 ho1 hb1 hy0 hyp hyl hyr hyw HX0 HB AO hz0
 unfold sG
 go_upto_region 4 with (fail)
 generalize (w1.alloc (.cells #[.slice xa (aF R).cells.length xn,.slice xa0 (aF R).h0.length vT,.slice xa1 (aF R).h1.length vU,.int .i64 (aF R).turn,.int .i64 (aF R).quiet] 158))=wq at *
 obtain ⟨hy0,hyp,hyl,hyr,hyw⟩:=HY.out
 have BRz:Box wq.drew w.heap.size [.string R.name,.int .i64 R.width,.int .i64 R.height,vp,vs,.bool R.falls,.bool R.keeps,ve,.int .i64 R.blocked,.int .i64 R.quiet,.int .i64 R.bC] 61:=hy0
 have BPz:Box wq.drew w1.heap.size [.slice xa (aF R).cells.length xn,.slice xa0 (aF R).h0.length vT,.slice xa1 (aF R).h1.length vU,.int .i64 (aF R).turn,.int .i64 (aF R).quiet] 158:=hyp
 have Lz:Below w.heap.size w wq.drew:=aK hyl
 have Zz:Below wq.heap.size wq wq.drew:=aK (Below.refl _ _)
 have V6:=hid hyr
 have HWQ:=hid hyw
 clear hy0 hyp hyl hyr hyw HY
 refine wp_region_noPanic ?_
 refine bI (S:=(fun w'=>w'.cell? ⟨w.heap.size,0,none⟩=some (.string R.name)∧w'.cell? ⟨w.heap.size,1,none⟩=some (.int .i64 R.width)∧w'.cell? ⟨w.heap.size,2,none⟩=some (.int .i64 R.height)∧w'.cell? ⟨w.heap.size,3,none⟩=some vp∧w'.cell? ⟨w.heap.size,4,none⟩=some vs∧w'.cell? ⟨w.heap.size,5,none⟩=some (.bool R.falls)∧w'.cell? ⟨w.heap.size,6,none⟩=some (.bool R.keeps)∧w'.cell? ⟨w.heap.size,7,none⟩=some ve∧w'.cell? ⟨w.heap.size,8,none⟩=some (.int .i64 R.blocked)∧w'.cell? ⟨w.heap.size,9,none⟩=some (.int .i64 R.quiet)∧w'.cell? ⟨w.heap.size,10,none⟩=some (.int .i64 R.bC)∧w'.cell? ⟨w1.heap.size,0,none⟩=some (.slice xa (aF R).cells.length xn)∧w'.cell? ⟨w1.heap.size,1,none⟩=some (.slice xa0 (aF R).h0.length vT)∧w'.cell? ⟨w1.heap.size,2,none⟩=some (.slice xa1 (aF R).h1.length vU)∧w'.cell? ⟨w1.heap.size,3,none⟩=some (.int .i64 (aF R).turn)∧w'.cell? ⟨w1.heap.size,4,none⟩=some (.int .i64 (aF R).quiet))) (L:=[]) (by kernel_rfl) (by and_intros <;> first | exact BRz.cell _ rfl | exact BPz.cell _ rfl) (fun hHeld=>?_)
 refine dV 0 ?_
 refine dV 2 ?_
 refine Tv (rs:=[1,3]) ?_
 refine (aU.cons (by first | (simp only [List.getElem?_toArray,List.getElem?_cons_zero,List.getElem?_cons_succ] <;> rfl) | rfl) (fun K hK=>?_) (aU.cons (by first | (simp only [List.getElem?_toArray,List.getElem?_cons_zero,List.getElem?_cons_succ] <;> rfl) | rfl) (fun K hK=>?_) aU.nil))
 ·skip
  go_simp
  refine (zQ R vp vs ve wq.drew (HR.out.below Lz (Nat.le_refl _)) (by omega) (by omega) (by omega) HWL.out).mono ?_
  rintro e jB ⟨up,us,ue,rfl,hx1,hb1⟩
  have hc1:=hb1
  have BR1:=BRz.stays hb1
  have BP1:=BPz.stays hb1
  have L1:=ak Lz hb1 Lz.size
  have Z1:=Below.trans Zz (hb1.mono Zz.size)
  have X1:=hx1
  have C1:=Below.refl jB.heap.size jB
  clear hb1 hx1 hc1
  refine hK.out _ _ (by and_intros <;> first | exact BR1.cell _ rfl | exact BP1.cell _ rfl) (fun hHeld=>?_)
  clear hK K
  refine fH 3 fun K hK=>?_
  go_simp
  refine aQ ?_
  intro w3 e3
  have hb3:Below jB.heap.size jB w3:=by rw [e3]; exact (Below.refl _ _).alloc (Nat.le_refl _) _
  have N3:Box w3 jB.heap.size [.slice xa (aF R).cells.length xn,.slice xa0 (aF R).h0.length vT,.slice xa1 (aF R).h1.length vU,.int .i64 (aF R).turn,.int .i64 (aF R).quiet] 158:=by rw [e3]; exact Box.new' _ _ _ _ rfl
  have V7:=BR1.stays hb3
  have BP3:=BP1.stays hb3
  have L3:=ak L1 hb3 L1.size
  have Z3:=Below.trans Z1 (hb3.mono Z1.size)
  have X3:=X1
  have D3:=hb3
  clear hb3 e3
  refine hK.out _ _ (by and_intros <;> first | exact V7.cell _ rfl | exact BP3.cell _ rfl) (fun hHeld=>?_)
  clear hK K
  refine aC 4 ?_
  refine fH 5 fun K hK=>?_
  go_simp
  refine aQ ?_
  intro w5 e5
  have hb5:Below w3.heap.size w3 w5:=by rw [e5]; exact (Below.refl _ _).alloc (Nat.le_refl _) _
  have G5:Box w5 w3.heap.size [.string R.name,.int .i64 R.width,.int .i64 R.height,up,us,.bool R.falls,.bool R.keeps,ue,.int .i64 R.blocked,.int .i64 R.quiet,.int .i64 R.bC,.slice (some ⟨jB.heap.size,0,none⟩) 1 1,.slice none 0 0] 193:=by rw [e5]; exact Box.new' _ _ _ _ rfl
  have BR5:=V7.stays hb5
  have BP5:=BP3.stays hb5
  have L5:=ak L3 hb5 L3.size
  have Z5:=Below.trans Z3 (hb5.mono Z3.size)
  have N5:=N3.stays hb5
  have D5:=hb5
  clear hb5 e5
  refine hK.out _ _ (by and_intros <;> first | exact BR5.cell _ rfl | exact BP5.cell _ rfl) (fun hHeld=>?_)
  clear hK K
  refine aC 6 ?_
  refine aC 7 ?_
  refine jC ?_
  have hS:∀ k,(fun k=>k=jB.heap.size∨k=w3.heap.size) k→wq.heap.size≤k∧k<w5.heap.size:=fun k hk=>by
   rcases hk with rfl | rfl
   ·exact ⟨Z1.size,N5.lt⟩
   ·exact ⟨Z3.size,G5.lt⟩
  have hR:∀ X:Nat→Prop,(∀ k,X k→k<w.heap.size∨w5.heap.size≤k)→Held X (fun k=>k=jB.heap.size∨k=w3.heap.size) w5 fun w'=>pV w' R up us ue:=fun X hX=>Gu X1 (Below.trans D3 (D5.mono D3.size)) (fun k hk=>by rcases hk with (rfl | rfl) | hk; exact .inr (Nat.le_refl _); exact .inr D3.size; exact (hX k hk).imp (fun h=>Nat.lt_of_lt_of_le h HWQ.out) (Nat.le_trans (Nat.le_trans D3.size D5.size)))
  have hP:∀ X:Nat→Prop,(∀ k,X k→k<w.heap.size∨w5.heap.size≤k)→Held X (fun k=>k=jB.heap.size∨k=w3.heap.size) w5 fun w'=>sH w' (aF R) (.slice xa (aF R).cells.length xn) (.slice xa0 (aF R).h0.length vT) (.slice xa1 (aF R).h1.length vU):=fun X hX=>fun w' hw=>by
   have hz:=Z5.size
   have hn:∀ {v:Value} {n:Nat} {xs:List Value},wq.ownsRow w.heap.size 3 1 v n xs→∀ k,v.ownBlock=some k→¬ ((fun k=>k=jB.heap.size∨k=w3.heap.size) k∨X k):=fun ho k hk h=>by
    have hl:=ho.lt k hk
    rcases h with h | h
    ·have:=(hS k h).1; omega
    ·have:=hX k h; omega
   exact ⟨fQ.dB (fC (aS V6.out.1 Z5) hw (hn V6.out.1)),fQ.dB (fC (aS V6.out.2.1 Z5) hw (hn V6.out.2.1)),fQ.dB (fC (aS V6.out.2.2 Z5) hw (hn V6.out.2.2))⟩
  have hol:w5.ownsRow wq.heap.size 158 5 (.slice (some ⟨jB.heap.size,0,none⟩) 1 1) 1 (jU [⟨aF R,.slice xa (aF R).cells.length xn,.slice xa0 (aF R).h0.length vT,.slice xa1 (aF R).h1.length vU⟩]):=Lr N5 Z1.size
  have hGm:∀ X:Nat→Prop,(∀ k,X k→k<w.heap.size∨w5.heap.size≤k)→bJ X (fun k=>k=jB.heap.size∨k=w3.heap.size) w.heap.size w5 w3.heap.size R [] up us ue (.slice (some ⟨jB.heap.size,0,none⟩) 1 1) (.slice none 0 0) [⟨aF R,.slice xa (aF R).cells.length xn,.slice xa0 (aF R).h0.length vT,.slice xa1 (aF R).h1.length vU⟩]:=fun X hX=>⟨G5,.inr rfl,fun k hk=>⟨Nat.le_trans HWQ.out (hS k hk).1,(hS k hk).2⟩,hR X hX,own_base hol HWQ.out,rfl,fun r hr=>by rw [List.mem_singleton.1 hr]; exact hP X hX,World.ownsRow_nil _ _ _ _,fun k hk=>⟨.inl (by simpa [Value.ownBlock] using hk.symm),(fun e=>by subst e; have h1:jB.heap.size<_:=N3.lt; simp [Value.ownBlock] at hk; omega)⟩,(fun k hk=>by cases hk),.inr (by simp [Value.ownBlock]),by simp,iJ.nil _ _,Gv.out⟩
  have Ou:=hid hGm
  have Ya:=hid L5
  clear hGm hol hP hR hS hHeld
  go_wp2_with fail
  go_ret2
  exact .inr ⟨Gv.out,_,_,_,_,_,_,_,_,rfl,Ou.out,Ya.out⟩
 ·skip
  go_simp
  refine aQ ?_
  intro w3 e3
  have hb3:Below wq.drew.heap.size wq.drew w3:=by rw [e3]; exact (Below.refl _ _).alloc (Nat.le_refl _) _
  have N3:Box w3 wq.drew.heap.size [.slice xa (aF R).cells.length xn,.slice xa0 (aF R).h0.length vT,.slice xa1 (aF R).h1.length vU,.int .i64 (aF R).turn,.int .i64 (aF R).quiet] 158:=by rw [e3]; exact Box.new' _ _ _ _ rfl
  have V7:=BRz.stays hb3
  have BP3:=BPz.stays hb3
  have L3:=ak Lz hb3 Lz.size
  have Z3:=Below.trans Zz (hb3.mono Zz.size)
  clear hb3 e3
  refine hK.out _ _ (by and_intros <;> first | exact V7.cell _ rfl | exact BP3.cell _ rfl) (fun hHeld=>?_)
  clear hK K
  refine fH 1 fun K hK=>?_
  go_simp
  refine (zQ R vp vs ve w3 (HR.out.below L3 (Nat.le_refl _)) (by omega) (by omega) (by omega) HWL.out).mono ?_
  rintro e jB ⟨up,us,ue,rfl,hx1,hb1⟩
  have hc1:=hb1
  have BR1:=V7.stays hb1
  have BP1:=BP3.stays hb1
  have L1:=ak L3 hb1 L3.size
  have Z1:=Below.trans Z3 (hb1.mono Z3.size)
  have X1:=hx1
  have C1:=hc1
  have N1:=N3.stays hb1
  clear hb1 hx1 hc1
  refine hK.out _ _ (by and_intros <;> first | exact BR1.cell _ rfl | exact BP1.cell _ rfl) (fun hHeld=>?_)
  clear hK K
  refine aC 4 ?_
  refine fH 5 fun K hK=>?_
  go_simp
  refine aQ ?_
  intro w5 e5
  have hb5:Below jB.heap.size jB w5:=by rw [e5]; exact (Below.refl _ _).alloc (Nat.le_refl _) _
  have G5:Box w5 jB.heap.size [.string R.name,.int .i64 R.width,.int .i64 R.height,up,us,.bool R.falls,.bool R.keeps,ue,.int .i64 R.blocked,.int .i64 R.quiet,.int .i64 R.bC,.slice (some ⟨wq.drew.heap.size,0,none⟩) 1 1,.slice none 0 0] 193:=by rw [e5]; exact Box.new' _ _ _ _ rfl
  have BR5:=BR1.stays hb5
  have BP5:=BP1.stays hb5
  have L5:=ak L1 hb5 L1.size
  have Z5:=Below.trans Z1 (hb5.mono Z1.size)
  have N5:=N1.stays hb5
  have D5:=hb5
  clear hb5 e5
  refine hK.out _ _ (by and_intros <;> first | exact BR5.cell _ rfl | exact BP5.cell _ rfl) (fun hHeld=>?_)
  clear hK K
  refine aC 6 ?_
  refine aC 7 ?_
  refine jC ?_
  have hS:∀ k,(fun k=>k=wq.drew.heap.size∨k=jB.heap.size) k→wq.heap.size≤k∧k<w5.heap.size:=fun k hk=>by
   rcases hk with rfl | rfl
   ·exact ⟨Nat.le_refl _,N5.lt⟩
   ·exact ⟨Z1.size,G5.lt⟩
  have hR:∀ X:Nat→Prop,(∀ k,X k→k<w.heap.size∨w5.heap.size≤k)→Held X (fun k=>k=wq.drew.heap.size∨k=jB.heap.size) w5 fun w'=>pV w' R up us ue:=fun X hX=>Gu X1 D5 (fun k hk=>by rcases hk with (rfl | rfl) | hk; exact .inl N3.lt; exact .inr (Nat.le_refl _); exact (hX k hk).imp (fun h=>Nat.lt_trans (Nat.lt_of_lt_of_le h HWQ.out) N3.lt) (Nat.le_trans D5.size))
  have hP:∀ X:Nat→Prop,(∀ k,X k→k<w.heap.size∨w5.heap.size≤k)→Held X (fun k=>k=wq.drew.heap.size∨k=jB.heap.size) w5 fun w'=>sH w' (aF R) (.slice xa (aF R).cells.length xn) (.slice xa0 (aF R).h0.length vT) (.slice xa1 (aF R).h1.length vU):=fun X hX=>fun w' hw=>by
   have hz:=Z5.size
   have hn:∀ {v:Value} {n:Nat} {xs:List Value},wq.ownsRow w.heap.size 3 1 v n xs→∀ k,v.ownBlock=some k→¬ ((fun k=>k=wq.drew.heap.size∨k=jB.heap.size) k∨X k):=fun ho k hk h=>by
    have hl:=ho.lt k hk
    rcases h with h | h
    ·have:=(hS k h).1; omega
    ·have:=hX k h; omega
   exact ⟨fQ.dB (fC (aS V6.out.1 Z5) hw (hn V6.out.1)),fQ.dB (fC (aS V6.out.2.1 Z5) hw (hn V6.out.2.1)),fQ.dB (fC (aS V6.out.2.2 Z5) hw (hn V6.out.2.2))⟩
  have hol:w5.ownsRow wq.heap.size 158 5 (.slice (some ⟨wq.drew.heap.size,0,none⟩) 1 1) 1 (jU [⟨aF R,.slice xa (aF R).cells.length xn,.slice xa0 (aF R).h0.length vT,.slice xa1 (aF R).h1.length vU⟩]):=Lr N5 (Nat.le_refl _)
  have hGm:∀ X:Nat→Prop,(∀ k,X k→k<w.heap.size∨w5.heap.size≤k)→bJ X (fun k=>k=wq.drew.heap.size∨k=jB.heap.size) w.heap.size w5 jB.heap.size R [] up us ue (.slice (some ⟨wq.drew.heap.size,0,none⟩) 1 1) (.slice none 0 0) [⟨aF R,.slice xa (aF R).cells.length xn,.slice xa0 (aF R).h0.length vT,.slice xa1 (aF R).h1.length vU⟩]:=fun X hX=>⟨G5,.inr rfl,fun k hk=>⟨Nat.le_trans HWQ.out (hS k hk).1,(hS k hk).2⟩,hR X hX,own_base hol HWQ.out,rfl,fun r hr=>by rw [List.mem_singleton.1 hr]; exact hP X hX,World.ownsRow_nil _ _ _ _,fun k hk=>⟨.inl (by simpa [Value.ownBlock] using hk.symm),(fun e=>by subst e; have h1:wq.heap.size<_:=N1.lt; simp [Value.ownBlock] at hk; omega)⟩,(fun k hk=>by cases hk),.inr (by simp [Value.ownBlock]),by simp,iJ.nil _ _,Gv.out⟩
  have Ou:=hid hGm
  have Ya:=hid L5
  clear hGm hol hP hR hS hHeld
  go_wp2_with fail
  go_ret2
  exact .inr ⟨Gv.out,_,_,_,_,_,_,_,_,rfl,Ou.out,Ya.out⟩
end Go.Proofs.YteablcielclaeaaGreatDoor.gx

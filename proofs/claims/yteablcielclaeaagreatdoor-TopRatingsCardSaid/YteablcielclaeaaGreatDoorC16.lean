/- JouText, JouSum, JouGood, MaP, MaL, GxA, GxB. -/
import Derived.WalkLawsBesides
import Derived.Laws.RangeAny
import Derived.Deep.RegionWith
import Derived.Test.YteablcielclaeaaGreatDoorC15
import Derived.Lib.ItoaNum
namespace Go.Proofs.YteablcielclaeaaGreatDoor
open Go.ChangeShapes Go.WideShapes Go.ChangeAt Go.RowKit
set_option linter.unusedVariables false
open Go.Lib (hid)
def EY (c:Int):Bool:=decide (c<32) || decide (126<c)
theorem Dq (c:Int) (w:World):Calls Tryz.prog 119 #[.int .i32 c] w fun e w'=>e=.returned (.bool (EY c))∧w=w':=by
 have H:Hid (EY c=(decide (c<32) || decide (126<c))):=hid rfl
 by_cases h:c<32
 ·go_enter Tryz.func119,Tryz.ntmps119
  go_wp2
  go_ret
  exact ⟨by rw [H.out]; simp [h],rfl⟩
 ·go_enter Tryz.func119,Tryz.ntmps119
  go_wp2
  go_ret
  exact ⟨by rw [H.out]; simp; omega,rfl⟩
theorem agM (args:Array Value) (w:World):(callFunc 119 args).run Tryz.prog w=.ok (.enter 119 args) w:=by kernel_rfl
def kQ (s:ByteArray):Nat→Nat→Int
 | 0,_=>-1
 | f+1,k=>if h:k<s.size then (if EY ((s[k]'h).toNat:Int)=true then (k:Int) else kQ s f (k+1)) else -1
def Ar (s:ByteArray):Int:=kQ s s.size 0
theorem II (s:ByteArray) (k:Nat) (h:k<s.size):kQ s (s.size - k) k=if EY ((s[k]'h).toNat:Int)=true then (k:Int) else kQ s (s.size - (k+1)) (k+1):=by
 have e:s.size - k=(s.size - (k+1))+1:=by omega
 rw [e,kQ,dif_pos h]
theorem Lm (s:ByteArray):kQ s (s.size - s.size) s.size = -1:=by simp [kQ]
set_option maxHeartbeats 1000000 in
theorem yB (s:ByteArray) (w:World) (hs:s.size≤9223372036854775807) :
  Calls Tryz.prog 159 #[.string s,.func (.func 119) #[] #[],.bool true] w fun e w'=>e=.returned (.int .i64 (Ar s))∧Below w.heap.size w w':=by
 have HB:Hid (Ar s=kQ s (s.size - 0) 0):=hid rfl
 have hcf:=agM
 go_enter Tryz.func159,Tryz.ntmps159
 go_wp2_with fail
 go_loopw [7] (fun _ wr=>∃ k:Nat,k≤s.size∧wr=w.iter s k∧Hid (Ar s=kQ s (s.size - k) k)) (fun _ wr=>s.size - wr.iterPos w.heap.size)
 case atStart=>exact ⟨0,Nat.zero_le _,rfl,HB⟩
 case round =>
  obtain ⟨k,hk,rfl,HK⟩:=hrel
  have hbel:∀ p,Below w.heap.size w (w.iter s p):=fun p=>(Below.refl _ w).alloc (Nat.le_refl _) _
  have adD:=hid hbel
  clear hbel
  by_cases hlt:k<s.size
  ·have HS:=hid (II s k hlt)
   cases hb:EY ((s[k]'hlt).toNat:Int)
   ·have hr:32≤(s[k]'hlt).toNat∧(s[k]'hlt).toNat≤126:=by
     simp [EY] at hb; omega
    have hnx:=fun ty=>run_next_ascii (P:=Tryz.prog) w s k ty hlt (by omega)
    have HC:=hid (fun w=>Dq ((s[k]'hlt).toNat:Int) w)
    rw [hb] at HC
    rw [hb] at HS
    clear hb
    generalize (s[k]'hlt).toNat=b at *
    go_wp2_with fail
    refine (HC.out _).mono ?_
    rintro e w' ⟨rfl,rfl⟩
    go_wp2_with fail
    go_roundw
    case rel=>exact ⟨k+1,by omega,rfl,hid (by rw [HK.out,HS.out]; rfl)⟩
    case measure=>simp; omega
   ·rw [hb] at HS
    by_cases h8:(s[k]'hlt).toNat<128
    ·have hnx:=fun ty=>run_next_ascii (P:=Tryz.prog) w s k ty hlt h8
     have HC:=hid (fun w=>Dq ((s[k]'hlt).toNat:Int) w)
     rw [hb] at HC
     clear hb
     generalize (s[k]'hlt).toNat=b at *
     go_wp2_with fail
     refine (HC.out _).mono ?_
     rintro e w' ⟨rfl,rfl⟩
     go_wp2_with fail
     go_ret
     exact ⟨by rw [HK.out,HS.out]; rfl,adD.out _⟩
    ·have hnx:=fun ty=>run_next_any (P:=Tryz.prog) w s k ty hlt
     have hd:=decode_high s k hlt (by omega)
     have HC:=hid (fun w=>Dq (((Utf8.decode s k).1:Nat):Int) w)
     have hbc:EY (((Utf8.decode s k).1:Nat):Int)=true:=by simp [EY]; omega
     rw [hbc] at HC
     clear hb hbc hd h8
     generalize Utf8.decode s k=dd at *
     obtain ⟨d1,d2⟩:=dd
     simp only at *
     go_wp2_with fail
     refine (HC.out _).mono ?_
     rintro e w' ⟨rfl,rfl⟩
     go_wp2_with fail
     go_ret
     exact ⟨by rw [HK.out,HS.out]; rfl,adD.out _⟩
  ·obtain rfl:k=s.size:=by omega
   have hnx:=fun ty=>run_next_end (P:=Tryz.prog) w s s.size ty (by omega)
   go_wp2_with fail
   go_ret
   exact ⟨by rw [HK.out,Lm]; rfl,adD.out _⟩
theorem zI (s:ByteArray) (w:World) (hs:s.size≤9223372036854775807) :
  Calls Tryz.prog 118 #[.string s,.func (.func 119) #[] #[]] w fun e w'=>e=.returned (.int .i64 (Ar s))∧Below w.heap.size w w':=by
 go_enter Tryz.func118,Tryz.ntmps118
 go_wp2_with fail
 refine (yB s w hs).mono ?_
 rintro e w1 ⟨rfl,hb⟩
 go_wp2_with fail
 go_ret
 exact ⟨rfl,hb⟩
def textE (s:ByteArray):Int:=if 200<s.size then 2 else if 0≤Ar s then 3 else 0
theorem Lp (s:ByteArray) (w:World) (hs:s.size≤9223372036854775807) :
  Calls Tryz.prog 85 #[.string s] w fun e w'=>e=.returned (.int .i64 (textE s))∧Below w.heap.size w w':=by
 have H:Hid (textE s=if 200<s.size then 2 else if 0≤Ar s then 3 else 0):=hid rfl
 by_cases h:200<s.size
 ·go_enter Tryz.func85,Tryz.ntmps85
  go_wp2_with fail
  go_ret
  exact ⟨by rw [H.out,if_pos h]; rfl,Below.refl _ _⟩
 ·have HI:=hid (zI s w hs)
  generalize Ar s=b at *
  by_cases hb:0≤b
  all_goals
   go_enter Tryz.func85,Tryz.ntmps85
   go_wp2_with fail
   refine HI.out.mono ?_
   rintro e w1 ⟨rfl,hb1⟩
   go_wp2_with fail
   go_ret
   exact ⟨by rw [H.out,if_neg (by omega)]; first | (rw [if_pos (by omega)]; rfl) | (rw [if_neg (by omega)]; rfl),hb1⟩
theorem Xg {k:IntKind} {a b:Int} (h:a=b):Ending.returned (.int k a)=.returned (.int k b):=by rw [h]
def yC (x c:Int):Int:=IntKind.u64.wrap (bits BinOp.xor IntKind.u64 x (IntKind.u64.wrap c) * 1099511628211)
def sumTo (s:ByteArray) (b:Int):Nat→Int
 | 0=>bits BinOp.xor IntKind.u64 b 14695981039346656037
 | k+1=>if h:k<s.size then yC (sumTo s b k) ((s[k]'h).toNat:Int) else sumTo s b k
def AZ (b:Int) (s:ByteArray):Int:=yC (sumTo s b s.size) (s.size:Int)
theorem OL (s:ByteArray) (b:Int) (k:Nat) (h:k<s.size):sumTo s b (k+1)=yC (sumTo s b k) ((s[k]'h).toNat:Int):=by
 rw [sumTo,dif_pos h]
theorem QJ (b:Int) (s:ByteArray) (w:World) (hs:s.size≤9223372036854775807) :
  Calls Tryz.prog 87 #[.int .u64 b,.string s] w fun e w'=>e=.returned (.int .u64 (AZ b s))∧w=w':=by
 have HZ:Hid (AZ b s=yC (sumTo s b s.size) (s.size:Int)):=hid rfl
 have H0:Hid (sumTo s b 0=bits BinOp.xor IntKind.u64 b 14695981039346656037):=hid rfl
 go_enter Tryz.func87,Tryz.ntmps87
 go_wp2_with fail
 go_loop [5,11] (fun h i=>∃ k:Nat,k≤s.size∧i=.int .i64 k∧h=.int .u64 (sumTo s b k)) (fun _ i=>s.size - (intOf i).toNat)
 case atStart=>exact ⟨0,Nat.zero_le _,rfl,by rw [H0.out]⟩
 case round =>
  obtain ⟨k,hk,rfl,rfl⟩:=hrel
  by_cases hlt:k<s.size
  ·have HS:=hid (OL s b k hlt)
   generalize sumTo s b k=x at *
   go_wp2_with fail
   go_round
   case rel=>exact ⟨k+1,by omega,by go_num,by rw [HS.out]; rfl⟩
   case measure=>simp [intOf]; omega
  ·obtain rfl:k=s.size:=by omega
   generalize sumTo s b s.size=x at *
   go_wp2_with fail
   go_ret
   exact ⟨Xg (by rw [HZ.out,yC,IntWalk.u64_in (s.size:Int) (by omega)]),rfl⟩
structure jB where
 txt:ByteArray
 sum:Int
def jB.val (e:jB):Value:=.agg #[.string e.txt,.int .u64 e.sum]
def Du (b:Int) (e:jB):Int:=if textE e.txt≠0 then textE e.txt else if e.sum≠AZ b e.txt then 15 else 0
def IJ (c:Int) (w:World) (e:Ending) (w':World):Prop:=e=.returned (.int .i64 c)∧Below w.heap.size w w'
set_option maxHeartbeats 1000000 in
theorem TB (b:Int) (x:jB) (w:World) (hs:x.txt.size≤9223372036854775807) :
  Calls Tryz.prog 117 #[.int .u64 b,x.val] w (IJ (Du b x) w):=by
 have HR:Hid (Du b x=if textE x.txt≠0 then textE x.txt else if x.sum≠AZ b x.txt then 15 else 0):=hid rfl
 obtain ⟨s,n⟩:=x
 unfold jB.val
 simp only at *
 have HT:=hid (fun w=>Lp s w hs)
 have HS:=hid (fun w=>QJ b s w hs)
 have hb0:Below w.heap.size w (w.alloc (.cells #[.string s,.int .u64 n] 205)):=by go_grown
 cases hr:(textE s != 0)
 ·have hr0:textE s=0:=by simpa using hr
  rw [hr0] at HT
  have HR2:Hid (Du b ⟨s,n⟩=if n≠AZ b s then 15 else 0):=hid (by rw [HR.out,if_neg (by simpa using hr0)])
  clear hr hr0 HR
  generalize AZ b s=z at *
  go_enter Tryz.func117,Tryz.ntmps117
  go_wp2_with fail
  refine (HT.out _).mono ?_
  rintro e w1 ⟨rfl,hb1⟩
  have d0:w1.cell? ⟨w.heap.size,0,none⟩=some (.string s):=(hb1.cell (p:=⟨w.heap.size,0,none⟩) (by simp)).trans (by go_simp)
  have d1:w1.cell? ⟨w.heap.size,1,none⟩=some (.int .u64 n):=(hb1.cell (p:=⟨w.heap.size,1,none⟩) (by simp)).trans (by go_simp)
  have hbw:=hb0.trans (hb1.mono (by simp))
  clear hb1
  go_wp2_with fail
  go_quiet ((go_at_call 87; exact FC HS.out))
  have hbq:=below_drewN hbw nq
  clear d0 d1
  generalize w1.drewN nq=W at *
  cases hz:(n != z)
  all_goals
   go_wp2_with fail
   go_ret
   exact ⟨by rw [HR2.out]; simp at hz; simp [hz],hbq⟩
 ·generalize textE s=t at *
  go_enter Tryz.func117,Tryz.ntmps117
  go_wp2_with fail
  refine (HT.out _).mono ?_
  rintro e w1 ⟨rfl,hb1⟩
  go_wp2_with fail
  go_ret
  exact ⟨by rw [HR.out,if_pos (by simpa using hr)]; rfl,hb0.trans (hb1.mono (by simp))⟩
def iq (es:List jB):List Value:=es.flatMap fun e=>[.string e.txt,.int .u64 e.sum]
theorem wU (e:jB) (t:List jB):iq (e :: t)=.string e.txt :: .int .u64 e.sum :: iq t:=rfl
theorem FT (es:List jB):(iq es).length=es.length * 2:=by
 induction es with
 | nil=>rfl
 | cons e t ih=>rw [wU]; simp [ih]; omega
theorem IK (a b:List jB):iq (a++b)=iq a++iq b:=by simp [iq]
theorem Xh (es:List jB) (k:Nat) (h:k<es.length):(iq es)[k * 2]?=some (.string es[k].txt)∧(iq es)[k * 2+1]?=some (.int .u64 es[k].sum):=by
 induction es generalizing k with
 | nil=>simp at h
 | cons g t ih =>
  cases k with
  | zero=>exact ⟨rfl,rfl⟩
  | succ k =>
   have:=ih k (by simpa using h)
   have e:(k+1) * 2=k * 2+2:=by omega
   rw [e]
   exact this
theorem OM (es:List jB) (k:Nat):(iq es).take (k * 2)=iq (es.take k):=by
 induction es generalizing k with
 | nil=>simp [iq]
 | cons g t ih =>
  cases k with
  | zero=>simp [iq]
  | succ k =>
   have e:(k+1) * 2=k * 2+1+1:=by omega
   rw [e,wU,List.take_succ_cons,List.take_succ_cons,ih,List.take_succ_cons,wU]
def JL (w:World) (v:Value) (es:List jB):Prop:=Rd w 2 es.length v (iq es)
theorem JL.below {w w':World} {v:Value} {es:List jB} {B:Nat} (h:JL w v es) (hb:Below B w w') (hB:w.heap.size≤B):JL w' v es:=Rd.below h hb hB
theorem JL.take {w:World} {a:Option Addr} {c:Nat} {es:List jB} (h:JL w (.slice a es.length c) es) (k:Nat) (hk:k≤es.length):JL w (.slice a k c) (es.take k):=by
 have:=Rd.take h k hk
 rw [OM] at this
 unfold JL
 rw [List.length_take,Nat.min_eq_left hk]
 exact this
theorem JL.form {w:World} {v:Value} {es:List jB} (h:JL w v es):∃ a c,v=.slice a es.length c∧es.length≤c∧c≤maxLen ∧
  ∀ k (hk:k<es.length),∃ g o,a=some ⟨g,o,none⟩∧g<w.heap.size∧w.cell? ⟨g,o+k * 2,none⟩=some (.string es[k].txt)∧w.cell? ⟨g,o+k * 2+1,none⟩=some (.int .u64 es[k].sum):=by
 rcases h.2 with ⟨⟨a0,c0,h,hm⟩,hz⟩ | ⟨g,o,c,h',h1,h2,hc⟩
 ·exact ⟨a0,c0,by rw [h,hz],by omega,hm,fun k hk=>by omega⟩
 ·refine ⟨_,_,h',h1,h2,fun k hk=>⟨g,o,rfl,?_⟩⟩
  obtain ⟨q0,q1⟩:=Xh es k hk
  have e0:=(hc (k * 2) (by omega)).trans q0
  have e1:=(hc (k * 2+1) (by omega)).trans q1
  exact ⟨World.block_lt_of_cell? w _ e0,e0,e1⟩
def rZ (es:List jB):Int:=match es.getLast? with | none=>0 | some e=>e.sum
theorem last_any (v:Value) (es:List jB) (w:World) (h:JL w v es) :
  Calls Tryz.prog 88 #[v] w fun e w'=>e=.returned (.int .u64 (rZ es))∧w=w':=by
 obtain ⟨a,c,rfl,h1,h2,hc⟩:=h.form
 unfold maxLen at h2
 cases es with
 | nil =>
  clear h hc
  simp only [List.length_nil]
  go_enter Tryz.func88,Tryz.ntmps88
  go_wp2_with fail
  go_ret
  exact ⟨rfl,rfl⟩
 | cons e0 t =>
  obtain ⟨g,o,rfl,hg,c0,c1⟩:=hc t.length (by simp)
  have HL:Hid (rZ (e0 :: t)=((e0 :: t)[t.length]'(by simp)).sum):=hid (by
   unfold rZ
   rw [List.getLast?_eq_getElem?]
   simp)
  have hlen:(e0 :: t).length=t.length+1:=rfl
  rw [hlen]
  have hq:((((t.length+1:Nat)):Int) == 0)=false:=by simp; omega
  have h3:t.length+1≤9223372036854775807:=by simp at h1; omega
  generalize ((e0 :: t)[t.length]'(by simp)).sum=z at *
  clear h hc c0 hlen h1
  go_enter Tryz.func88,Tryz.ntmps88
  go_wp2_with fail
  go_ret
  exact ⟨by rw [HL.out]; rfl,rfl⟩
def OkJ (es:List jB):Prop:=(∀ e∈es,e.txt.size≤200)∧∀ k (h:k<es.length),Du (rZ (es.take k)) es[k]=0
theorem agN:Tryz.prog.underlying 128=some (.slice (Tryz.prog.elem 128)):=by kernel_rfl
theorem agO (w:World):(sizeOf (Tryz.prog.elem 128)).run Tryz.prog w=.ok 2 w:=by kernel_rfl
set_option maxHeartbeats 2000000 in
theorem aaB (v:Value) (es:List jB) (w:World) (h:JL w v es) (hok:OkJ es) (hlen:es.length≤1000) :
  Calls Tryz.prog 116 #[v] w (IJ (es.length:Int) w):=by
 obtain ⟨a,c,rfl,h1,h2,hc⟩:=h.form
 unfold maxLen at h2
 have HJ:=hid h
 have HC:=hid hc
 have HK:=hid hok
 clear h hc hok
 go_enter Tryz.func116,Tryz.ntmps116
 go_wp2_with fail
 go_loopw [7] (fun i wr=>∃ k:Nat,k≤es.length∧i=.int .i64 k∧Below w.heap.size w wr) (fun i _=>es.length - (intOf i).toNat)
 case atStart=>exact ⟨0,Nat.zero_le _,rfl,Below.refl _ _⟩
 case round =>
  obtain ⟨k,hk,rfl,hbl⟩:=hrel
  by_cases hlt:k<es.length
  ·obtain ⟨g,o,rfl,hg,c0,c1⟩:=HC.out k hlt
   have d0:wr.cell? ⟨g,o+k * 2,none⟩=some (.string es[k].txt):=(hbl.cell (p:=⟨g,o+k * 2,none⟩) hg).trans c0
   have d1:wr.cell? ⟨g,o+k * 2+1,none⟩=some (.int .u64 es[k].sum):=(hbl.cell (p:=⟨g,o+k * 2+1,none⟩) hg).trans c1
   have hw:=HK.out.2 k hlt
   have hsz:=HK.out.1 es[k] (List.getElem_mem hlt)
   have aqQ:=hbl.size
   have hgr:g<wr.heap.size:=by omega
   clear c0 c1
   have TD:=hid (fun (wx:World) (hx:Below w.heap.size w wx)=>last_any _ (es.take k) wx (JL.below (JL.take HJ.out k hk) hx (Nat.le_refl _)))
   generalize rZ (es.take k)=lz at *
   generalize hek:es[k]=ek at *
   clear hek
   have HWr:=hid (fun wx=>TB lz ek wx (by omega))
   rw [hw] at HWr
   obtain ⟨s,n⟩:=ek
   unfold jB.val at HWr
   simp only at *
   have hba:Below w.heap.size w (wr.alloc (.cells #[.string s,.int .u64 n] 205)):=by go_grown
   have e0:(wr.alloc (.cells #[.string s,.int .u64 n] 205)).cell? ⟨wr.heap.size,0,none⟩=some (.string s):=by go_simp
   have e1:(wr.alloc (.cells #[.string s,.int .u64 n] 205)).cell? ⟨wr.heap.size,1,none⟩=some (.int .u64 n):=by go_simp
   have hk1:((k:Int) == 1000)=false:=by simp; omega
   have hsl:=fun w=>BZ agN agO (some ⟨g,o,none⟩) es.length c k (by omega) w
   go_wp2_with fail
   generalize (wr.alloc (.cells #[.string s,.int .u64 n] 205))=W at *
   clear d0 d1 hw
   have hbd:Below w.heap.size w W.drew:=hba.drew
   go_region_with (first | (go_at_call 88; refine (TD.out _ hbd).mono ?_; rintro e w' ⟨rfl,rfl⟩) | (go_at_call 117; refine (HWr.out _).mono ?_; rintro e w9 ⟨rfl,xP⟩))
   all_goals
    have hb2:Below w.heap.size w w9:=hbd.trans (xP.mono (by have:=hbd.size; simpa using this))
    clear xP e0 e1 hsl
    go_wp2_with fail
    go_roundw
    case rel=>exact ⟨k+1,by omega,by go_num,hb2⟩
    case measure=>simp [intOf]; omega
  ·obtain rfl:k=es.length:=by omega
   go_wp2_with fail
   go_ret
   exact ⟨rfl,hbl⟩
structure sK where
 ps:List (Int×Int)
 inc:Int
 delay:Int
structure pX where
 l0:Int
 l1:Int
 m0:Int
 m1:Int
 p0:Int
 p1:Int
 turn:Int
 since:Int
 st:Bool
 ak:Int
deriving DecidableEq,Inhabited
def lC (CR:sK) (c:pX) (now:Int):Int:=if c.st=true then 0 else max 0 (now - c.since - CR.delay)
def TF (x:Int):Int:=if 100000000000<x then 100000000000 else x
def wo (x:Int):Int:=if 400<x then 400 else x
def bK (CR:sK) (c:pX) (now:Int):pX:=
 if c.ak<0 then (if c.turn=0 then (if c.l0<lC CR c now then { c with ak:=0,l0:=0 } else c) else (if c.l1<lC CR c now then { c with ak:=1,l1:=0 } else c)) else c
def jV (CR:sK) (p m:Int):Bool:=decide (0<(CR.ps.getD p.toNat (0,0)).1∧(CR.ps.getD p.toNat (0,0)).1≤wo (m+1))
def FU (CR:sK) (c:pX) (now l p m:Int):Int:=
 if jV CR p m=true then TF (TF (l - lC CR c now+CR.inc)+(CR.ps.getD (p.toNat+1) (0,0)).2) else TF (l - lC CR c now+CR.inc)
def cZ (CR:sK) (c:pX) (now:Int):pX:=
 if c.turn=0 then { c with l0:=FU CR c now c.l0 c.p0 c.m0,m0:=if jV CR c.p0 c.m0=true then 0 else wo (c.m0+1),p0:=if jV CR c.p0 c.m0=true then c.p0+1 else c.p0,turn:=1,since:=now }
 else { c with l1:=FU CR c now c.l1 c.p1 c.m1,m1:=if jV CR c.p1 c.m1=true then 0 else wo (c.m1+1),p1:=if jV CR c.p1 c.m1=true then c.p1+1 else c.p1,turn:=0,since:=now }
def aN (CR:sK) (now:Int):pX:=⟨(CR.ps.getD 0 (0,0)).2,(CR.ps.getD 0 (0,0)).2,0,0,0,0,0,now,false,-1⟩
structure mO where
 b0:Int
 b1:Int
 kY:Int
 kZ:Int
 l10:Int
 lq:Int
deriving DecidableEq,Inhabited
def qL:mO:=⟨-1,-1,-1,-1,-1,-1⟩
def byO (o:mO) (k:Int):Int:=if k=0 then o.b0 else o.b1
def agP (o:mO) (k p:Int):Int:=if k=0 then (if p=0 then o.kY else o.kZ) else (if p=0 then o.l10 else o.lq)
def Xi (aT moves:Int):Int:=if moves % 2=aT then (if 2≤moves then 2 else 0) else (if 1≤moves then 1 else 0)
def acG (o:mO) (k p n:Int):Int:=if ¬ (k=0∨k=1) then 1 else if 0≤byO o k then 7 else if agP o k p=n then 11 else if k=1∧Xi p n=0 then 8 else 0
def Xj (o:mO) (k p n:Int):mO:=
 if k=0 then (if p=0 then { o with b0:=0,kY:=n } else { o with b0:=1,kZ:=n }) else (if p=0 then { o with b1:=0,l10:=n } else { o with b1:=1,lq:=n })
def QK (o:mO) (k p n:Int):Int:=if ¬ (k=0∨k=1) then 1 else if byO o k≠1 - p then 10 else 0
def BA (o:mO):mO:={ o with b0:=-1,b1:=-1 }
def Dv (o:mO) (k:Int):mO:=if k=0 then { o with b0:=-1 } else { o with b1:=-1 }
def su (o:mO) (p:Int):mO:={ o with b0:=if o.b0=1 - p then -1 else o.b0,b1:=-1 }
def Xk (o:mO) (n:Int):mO:=⟨-1,-1,min o.kY n,min o.kZ n,min o.l10 n,min o.lq n⟩
structure yD where
 kind:Int
 aT:Int
 n:Int
 now:Int
 m:aA
deriving DecidableEq,Inhabited
def gQ (e:yD):ByteArray:=
 ⟨(Lib.itoa e.kind++32 :: (Lib.itoa e.aT++32 :: (Lib.itoa e.n++32 :: (Lib.itoa e.now++32 :: (Lib.itoa e.m.src++32 :: (Lib.itoa e.m.dst++32 :: Lib.itoa e.m.piece)))))).toArray⟩
def oC (now:Int):ByteArray:=⟨(([115,116,97,114,116,32]:List UInt8)++Lib.itoa now).toArray⟩
structure aO where
 R:au
 CR:sK
 ms:List aA
 res:Int
 reason:Int
 clk:pX
 off:mO
 aQ:List fK
 last:Int
 jr:List jB
def aO.pos (M:aO):aV:=bJ M.R M.ms
def aO.game (M:aO):Int:=dV M.R M.ms
def aO.over (M:aO):aO:=if M.game≠0∧M.res=0 then { M with res:=M.game,reason:=1 } else M
def aO.move (M:aO) (x:aA) (now:Int):aO:={ M with ms:=M.ms++[x],clk:=cZ M.CR M.clk now,off:=su M.off M.pos.turn }
def aO.runs (now:Int):Nat→aO→aO
 | 0,M=>M
 | f+1,M =>
  if M.game=0∧M.ms.length<400 then
   (if jA M.R M.pos M.aQ=true then aO.runs now f (aO.move { M with aQ:=aI M.R M.pos M.aQ } (bn M.R M.pos M.aQ) now) else { M with aQ:=aI M.R M.pos M.aQ })
  else M
def aO.jQ (M:aO) (e:yD):aO×Int:=
 if M.pos.turn≠e.aT then (M,12) else if e.m∉jP M.R M.pos then (M,13) else if M.ms.length=400 then (M,2) else (aO.runs e.now 400 (M.move e.m e.now),0)
def aO.qM (M:aO) (e:yD):aO×Int:=
 if M.pos.turn=e.aT then (M,12) else if (N7 M.aQ e.aT).length=4 then (M,9) else ({ M with aQ:=M.aQ++[⟨e.aT,e.m⟩] },0)
def aO.yE (M:aO) (e:yD):aO×Int:=
 if e.kind=3 then (if QK M.off e.n e.aT M.ms.length≠0 then (M,QK M.off e.n e.aT M.ms.length) else ({ M with off:=Dv M.off e.n },0))
 else (if acG M.off e.n e.aT M.ms.length≠0 then (M,acG M.off e.n e.aT M.ms.length) else ({ M with off:=Xj M.off e.n e.aT M.ms.length },0))
def aO.backTo (M:aO) (k:Nat) (now:Int):aO:=
 { M with ms:=M.ms.take (M.ms.length - k),off:=Xk (BA M.off) ((M.ms.length - k:Nat):Int),clk:={ M.clk with turn:=(bJ M.R (M.ms.take (M.ms.length - k))).turn,since:=now },aQ:=[] }
def aO.uj (M:aO) (e:yD):aO×Int:=
 if QK M.off e.n e.aT M.ms.length≠0 then (M,QK M.off e.n e.aT M.ms.length)
 else if e.n=0 then ({ M with off:=BA M.off,res:=3,reason:=4 },0)
 else (M.backTo (Xi (1 - e.aT) M.ms.length).toNat e.now,0)
def IL (R:au) (p:aV) (aT:Int):Int:=if ak2 R p (1 - aT)=true then 2 - aT else 3
def aO.yF (M:aO) (e:yD):aO×Int:=
 if e.n=2 then
  (if (bK M.CR M.clk e.now).ak<0 then (M,10) else ({ M with clk:=bK M.CR M.clk e.now,res:=IL M.R M.pos (bK M.CR M.clk e.now).ak,reason:=2 },0))
 else if e.n≠0∧e.n≠1 then (M,1) else if M.pos.turn≠e.aT then (M,12)
 else if ¬ (e.n=0∧3≤zG M.R M.ms∨e.n=1∧20≤M.pos.quiet) then (M,10) else ({ M with res:=3,reason:=5 },0)
def aO.kind (M:aO) (e:yD):aO×Int:=
 if e.kind=0 then M.jQ e else if e.kind=1∨e.kind=3 then M.yE e else if e.kind=2 then M.uj e else if e.kind=5 then M.yF e
 else if e.kind=6 then M.qM e else ({ M with res:=2 - e.aT,reason:=3 },0)
def aO.mP (M:aO) (e:yD):Int:=
 if e.kind<0∨6<e.kind∨(e.aT≠0∧e.aT≠1) then 1 else if e.now<M.last∨100000000<e.now then 11 else if M.res≠0 then 14 else if M.jr.length=1000 then 9
 else if 0≤(bK M.CR M.clk e.now).ak∧e.kind≠4∧¬ (e.kind=5∧e.n=2) then 11 else 0
def ni (l:List jB) (t:ByteArray):jB:=⟨t,AZ (rZ l) t⟩
def aO.put (M:aO) (e:yD):aO:={ M with last:=e.now,jr:=M.jr++[ni M.jr (gQ e)] }
def aO.go (M:aO) (e:yD):aO×Int:=if M.mP e≠0 then (M,M.mP e) else if (M.kind e).2≠0 then (M,(M.kind e).2) else ((M.kind e).1.put e |>.over,0)
def mQ (R:au) (CR:sK) (now:Int):aO:=aO.over ⟨R,CR,[],0,0,aN CR now,qL,[],now,[ni [] (oC now)]⟩
theorem Dw (M:aO) (e:yD) (h:(M.kind e).2≠0):(M.kind e).1=M:=by
 revert h
 unfold aO.kind aO.jQ aO.yE aO.uj aO.yF aO.qM
 repeat' split
 all_goals first | (intro _; rfl) | (intro h; exact absurd rfl h)
structure BD (CR:sK):Prop where
 n:1≤CR.ps.length∧CR.ps.length≤5
 inc:0≤CR.inc∧CR.inc≤100000000
 del:0≤CR.delay∧CR.delay≤100000000
 pm:∀ k,k<CR.ps.length→0≤(CR.ps.getD k (0,0)).1∧(CR.ps.getD k (0,0)).1≤400
 pt:∀ k,k<CR.ps.length→1≤(CR.ps.getD k (0,0)).2∧(CR.ps.getD k (0,0)).2≤100000000
 pz:∀ k,k<CR.ps.length→((CR.ps.getD k (0,0)).1=0↔k+1=CR.ps.length)
structure um (CR:sK) (c:pX):Prop where
 t:0≤c.turn∧c.turn≤1
 f : -1≤c.ak∧c.ak≤1
 s:0≤c.since∧c.since≤100000000
 p0:0≤c.p0∧c.p0≤(CR.ps.length:Int) - 1
 m0:0≤c.m0∧c.m0≤400
 l0:0≤c.l0∧c.l0≤100000000000
 p1:0≤c.p1∧c.p1≤(CR.ps.length:Int) - 1
 m1:0≤c.m1∧c.m1≤400
 l1:0≤c.l1∧c.l1≤100000000000
theorem TG {CR:sK} {c:pX} {now:Int} (h:BD CR) (hs:c.since=now):lC CR c now=0:=by
 have:=h.del
 unfold lC
 split <;> omega
theorem Xl {x:Int} (h:0≤x):0≤TF x∧TF x≤100000000000:=by unfold TF; split <;> omega
theorem QL {x:Int} (h:0≤x):0≤wo x∧wo x≤400:=by unfold wo; split <;> omega
theorem OO {CR:sK} {p m:Int} (h:BD CR) (hp:0≤p∧p≤(CR.ps.length:Int) - 1) (hf:jV CR p m=true):p+1≤(CR.ps.length:Int) - 1:=by
 unfold jV at hf
 have hf:=of_decide_eq_true hf
 have hz:=h.pz p.toNat (by omega)
 by_cases e:p.toNat+1=CR.ps.length
 ·have:=hz.2 e; omega
 ·omega
theorem Xm {CR:sK} {c:pX} {now l p m:Int} (h:BD CR) (hp:0≤p∧p≤(CR.ps.length:Int) - 1) (hu:lC CR c now≤l):0≤FU CR c now l p m∧FU CR c now l p m≤100000000000:=by
 have:=h.inc
 have hb:=Xl (x:=l - lC CR c now+CR.inc) (by omega)
 unfold FU
 by_cases hf:jV CR p m=true
 ·rw [if_pos hf]
  have h1:=OO h hp hf
  have h2:=h.pt (p.toNat+1) (by omega)
  exact Xl (by omega)
 ·rw [if_neg hf]; exact hb
theorem aaC {CR:sK} {c:pX} {now:Int} (h:BD CR) (k:um CR c) (h0:0≤now) (h1:now≤100000000) (hu:lC CR c now≤if c.turn=0 then c.l0 else c.l1):um CR (cZ CR c now):=by
 unfold cZ
 by_cases ht:c.turn=0
 ·rw [if_pos ht] at hu ⊢
  refine ⟨by dsimp only; decide,k.f,⟨h0,h1⟩,?_,?_,Xm h k.p0 hu,k.p1,k.m1,k.l1⟩
  ·show 0≤(if jV CR c.p0 c.m0=true then c.p0+1 else c.p0)∧(if jV CR c.p0 c.m0=true then c.p0+1 else c.p0)≤(CR.ps.length:Int) - 1
   by_cases hf:jV CR c.p0 c.m0=true
   ·rw [if_pos hf]; have:=OO h k.p0 hf; have:=k.p0; omega
   ·rw [if_neg hf]; exact k.p0
  ·show 0≤(if jV CR c.p0 c.m0=true then 0 else wo (c.m0+1))∧(if jV CR c.p0 c.m0=true then 0 else wo (c.m0+1))≤400
   by_cases hf:jV CR c.p0 c.m0=true
   ·rw [if_pos hf]; omega
   ·rw [if_neg hf]; have:=k.m0; exact QL (by omega)
 ·rw [if_neg ht] at hu ⊢
  refine ⟨by dsimp only; decide,k.f,⟨h0,h1⟩,k.p0,k.m0,k.l0,?_,?_,Xm h k.p1 hu⟩
  ·show 0≤(if jV CR c.p1 c.m1=true then c.p1+1 else c.p1)∧(if jV CR c.p1 c.m1=true then c.p1+1 else c.p1)≤(CR.ps.length:Int) - 1
   by_cases hf:jV CR c.p1 c.m1=true
   ·rw [if_pos hf]; have:=OO h k.p1 hf; have:=k.p1; omega
   ·rw [if_neg hf]; exact k.p1
  ·show 0≤(if jV CR c.p1 c.m1=true then 0 else wo (c.m1+1))∧(if jV CR c.p1 c.m1=true then 0 else wo (c.m1+1))≤400
   by_cases hf:jV CR c.p1 c.m1=true
   ·rw [if_pos hf]; omega
   ·rw [if_neg hf]; have:=k.m1; exact QL (by omega)
theorem OQ (CR:sK) (c:pX) (now:Int):(cZ CR c now).since=now∧(cZ CR c now).ak=c.ak∧(cZ CR c now).st=c.st:=by
 unfold cZ; split <;> exact ⟨rfl,rfl,rfl⟩
theorem adE {CR:sK} {c:pX} (k:um CR c) (now:Int):um CR (bK CR c now):=by
 unfold bK
 repeat' split
 ·exact ⟨k.t,by dsimp only; decide,k.s,k.p0,k.m0,⟨Int.le_refl _,by dsimp only; decide⟩,k.p1,k.m1,k.l1⟩
 ·exact k
 ·exact ⟨k.t,by dsimp only; decide,k.s,k.p0,k.m0,k.l0,k.p1,k.m1,⟨Int.le_refl _,by dsimp only; decide⟩⟩
 ·exact k
 ·exact k
theorem TI {CR:sK} {c:pX} {now:Int} (hf:c.ak<0) (h:(bK CR c now).ak<0):lC CR c now≤if c.turn=0 then c.l0 else c.l1:=by
 unfold bK at h
 rw [if_pos hf] at h
 by_cases ht:c.turn=0
 ·rw [if_pos ht] at h ⊢
  by_cases hl:c.l0<lC CR c now
  ·rw [if_pos hl] at h; exact absurd h (by dsimp only; decide)
  ·omega
 ·rw [if_neg ht] at h ⊢
  by_cases hl:c.l1<lC CR c now
  ·rw [if_pos hl] at h; exact absurd h (by dsimp only; decide)
  ·omega
theorem FV (CR:sK) (c:pX) (now:Int):(bK CR c now).since=c.since∧(bK CR c now).st=c.st:=by
 unfold bK; repeat' split
 all_goals exact ⟨rfl,rfl⟩
structure qN (o:mO):Prop where
 kY : -1≤o.kY∧o.kY≤400
 kZ : -1≤o.kZ∧o.kZ≤400
 l10 : -1≤o.l10∧o.l10≤400
 lq : -1≤o.lq∧o.lq≤400
 b0 : -1≤o.b0∧o.b0≤1
 b1 : -1≤o.b1∧o.b1≤1
 f00:¬ (o.b0=0∧o.kY = -1)
 f01:¬ (o.b0=1∧o.kZ = -1)
 f10:¬ (o.b1=0∧o.l10 = -1)
 f11:¬ (o.b1=1∧o.lq = -1)
theorem adF:qN qL:=⟨by decide,by decide,by decide,by decide,by decide,by decide,by decide,by decide,by decide,by decide⟩
theorem aaD {o:mO} (h:qN o) (k p:Int) (n:Nat) (hn:n≤400):qN (Xj o k p n):=by
 obtain ⟨a1,a2,a3,a4,a5,a6,a7,a8,a9,a10⟩:=h
 unfold Xj
 repeat' split
 all_goals constructor <;> simp <;> omega
theorem FX {o:mO} (h:qN o):qN (BA o):=by
 obtain ⟨a1,a2,a3,a4,a5,a6,a7,a8,a9,a10⟩:=h
 unfold BA
 constructor <;> simp <;> omega
theorem OT {o:mO} (h:qN o) (k:Int):qN (Dv o k):=by
 obtain ⟨a1,a2,a3,a4,a5,a6,a7,a8,a9,a10⟩:=h
 unfold Dv
 repeat' split
 all_goals constructor <;> simp <;> omega
theorem aaE {o:mO} (h:qN o) (p:Int):qN (su o p):=by
 obtain ⟨a1,a2,a3,a4,a5,a6,a7,a8,a9,a10⟩:=h
 unfold su
 constructor <;> simp <;> (try split) <;> omega
theorem aaF {o:mO} (h:qN o) (n:Nat):qN (Xk o n):=by
 obtain ⟨a1,a2,a3,a4,a5,a6,a7,a8,a9,a10⟩:=h
 unfold Xk
 constructor <;> simp <;> omega
structure pI (l:List fK):Prop where
 n0:(N7 l 0).length≤4
 n1:(N7 l 1).length≤4
 pl:∀ x∈l,x.aT=0∨x.aT=1
theorem of_sub {l l':List fK} (h:List.Sublist l' l) (pl:Int):(N7 l' pl).length≤(N7 l pl).length:=by
 unfold N7
 rw [List.length_map,List.length_map]
 exact (h.filter _).length_le
theorem pI.sub {l l':List fK} (h:pI l) (hs:List.Sublist l' l):pI l':=
 ⟨Nat.le_trans (of_sub hs 0) h.n0,Nat.le_trans (of_sub hs 1) h.n1,fun x hx=>h.pl x (hs.subset hx)⟩
theorem Xn (R:au) (p:aV) (l:List fK):List.Sublist (aI R p l) l:=by
 unfold aI
 split
 ·generalize (wS p l).toNat=k
  have h:=List.Sublist.append (List.Sublist.refl (l.take k)) (List.Sublist.trans (List.drop_sublist 1 _) (List.Sublist.refl (l.drop k)))
  rw [List.drop_drop,List.take_append_drop] at h
  rw [Nat.add_comm] at h
  exact (by simpa [Nat.add_comm] using h)
 ·unfold Ll; exact List.filter_sublist
theorem pI.len {l:List fK} (h:pI l):l.length≤8:=by
 have key:∀ l:List fK,(∀ x∈l,x.aT=0∨x.aT=1)→l.length=(N7 l 0).length+(N7 l 1).length:=by
  intro l
  induction l with
  | nil=>intro _; rfl
  | cons x t ih =>
   intro hx
   have i:=ih (fun y hy=>hx y (List.mem_cons_of_mem _ hy))
   unfold N7 at i ⊢
   rcases hx x (List.mem_cons_self ..) with e | e
   ·simp [List.filter_cons,e] at i ⊢; omega
   ·simp [List.filter_cons,e] at i ⊢; omega
 have:=key l h.pl
 have:=h.n0; have:=h.n1; omega
theorem pI.add {l:List fK} (h:pI l) (pl:Int) (m:aA) (hp:pl=0∨pl=1) (hf:(N7 l pl).length≠4):pI (l++[⟨pl,m⟩]):=by
 have h0:=h.n0; have h1:=h.n1
 rcases hp with rfl | rfl
 ·refine ⟨?_,?_,?_⟩
  ·unfold N7 at hf h0 ⊢; simp at hf h0 ⊢; omega
  ·unfold N7 at h1 ⊢; simp at h1 ⊢; omega
  ·intro x hx; rcases List.mem_append.1 hx with hx | hx
   ·exact h.pl x hx
   ·rw [List.mem_singleton.1 hx]; exact .inl rfl
 ·refine ⟨?_,?_,?_⟩
  ·unfold N7 at h0 ⊢; simp at h0 ⊢; omega
  ·unfold N7 at hf h1 ⊢; simp at hf h1 ⊢; omega
  ·intro x hx; rcases List.mem_append.1 hx with hx | hx
   ·exact h.pl x hx
   ·rw [List.mem_singleton.1 hx]; exact .inr rfl
end Go.Proofs.YteablcielclaeaaGreatDoor
namespace Go.Proofs.YteablcielclaeaaGreatDoor.gx
open Go.ChangeShapes Go.WideShapes Go.ChangeAt Go.RowKit
set_option linter.unusedVariables false
def Held (X S:Nat→Prop) (w:World) (D:World→Prop):Prop:=∀ w',Fr (fun k=>S k∨X k) w w'→D w'
theorem Held.now {X S:Nat→Prop} {w:World} {D:World→Prop} (h:Held X S w D):D w:=h w (Fr.refl _ _)
theorem Held.QM {X S S':Nat→Prop} {w w1:World} {D:World→Prop} (h:Held X S w D) (hf:Fr (fun k=>S k∨X k) w w1) (hs:iI w S S'):Held X S' w1 D:=fun w' hw=>h w' (hf.trans hw (fun k hk h'=>by rcases h' with h' | h'; exact .inl (hs k hk h'); exact .inr h'))
theorem Held.step {X S S':Nat→Prop} {w w1:World} {D:World→Prop} (h:Held X S w D) (hf:Fr S w w1) (hs:iI w S S'):Held X S' w1 D:=h.QM (hf.mono (fun k _ h=>.inl h)) hs
theorem Held.imp {X S:Nat→Prop} {w:World} {D D':World→Prop} (h:Held X S w D) (hd:∀ w',D w'→D' w'):Held X S w D':=fun w' hw=>hd w' (h w' hw)
theorem Held.plain {X S:Nat→Prop} {w:World} {D:World→Prop} (h:Held X S w D):Go.Proofs.YteablcielclaeaaGreatDoor.Held S w D:=fun w' hw=>h w' (hw.mono (fun k _ h=>.inl h))
theorem zF {X S:Nat→Prop} {w:World} {base:Nat} {p:aV} {vc v0 v1:Value} (h:mM base w p vc v0 v1) (hS:∀ k,base≤k→k<w.heap.size→¬ (S k∨X k)):Held X S w fun w'=>mM base w' p vc v0 v1:=fun w' hw=>Go.Proofs.YteablcielclaeaaGreatDoor.zF h hS w' hw
theorem FY {lo:Nat} {w w2:World} {D:World→Prop} {X S:Nat→Prop} (h:Seen lo w D) (hb:Below w.heap.size w w2) (hS:∀ k,(S k∨X k)→k<lo∨w.heap.size≤k):Held X S w2 D:=fun w' hw=>h.held hb hS w' hw
structure bM (X S:Nat→Prop) (base:Nat) (w:World) (b:Nat) (R:au) (ms:List aA) (vp vs ve vl vm:Value) (rows:List lM):Prop where
 box:Box w b [.string R.name,.int .i64 R.width,.int .i64 R.height,vp,vs,.bool R.falls,.bool R.keeps,ve,.int .i64 R.blocked,.int .i64 R.quiet,.int .i64 R.aZ,vl,vm] 193
 sb:S b
 lo:∀ k,S k→base≤k∧k<w.heap.size
 rd:Held X S w fun w'=>qo w' R vp vs ve
 ol:w.ownsRow base 158 5 vl (ms.length+1) (jU rows)
 mp:rows.map (·.p)=Df R ms
 rw:∀ r∈rows,Held X S w fun w'=>tJ w' r.p r.vc r.v0 r.v1
 om:w.ownsRow base 68 3 vm ms.length (bf ms)
 sl:∀ k,vl.ownBlock=some k→S k∧k≠b
 sm:∀ k,vm.ownBlock=some k→S k∧k≠b
 ap:vl.ownBlock=none∨vl.ownBlock≠vm.ownBlock
 lt:ms.length≤400
 la:gZ R (aC R) ms
 re:aF R=0
variable {X S:Nat→Prop} {base:Nat} {w w':World} {b:Nat} {R:au} {ms:List aA} {vp vs ve vl vm:Value} {rows:List lM}
theorem bM.plain (h:bM X S base w b R ms vp vs ve vl vm rows):Go.Proofs.YteablcielclaeaaGreatDoor.bM S base w b R ms vp vs ve vl vm rows:=
 ⟨h.box,h.sb,h.lo,h.rd.plain,h.ol,h.mp,fun r hr=>(h.rw r hr).plain,h.om,h.sl,h.sm,h.ap,h.lt,h.la,h.re⟩
theorem bM.below (h:bM X S base w b R ms vp vs ve vl vm rows) (hb:Below w.heap.size w w'):bM X S base w' b R ms vp vs ve vl vm rows:=
 ⟨h.box.stays hb,h.sb,fun k hk=>⟨(h.lo k hk).1,Nat.lt_of_lt_of_le (h.lo k hk).2 hb.size⟩,h.rd.step (Fr.lK (S:=S) hb) (iI.refl _ _),aU h.ol hb,h.mp,fun r hr=>(h.rw r hr).step (Fr.lK (S:=S) hb) (iI.refl _ _),aU h.om hb,h.sl,h.sm,h.ap,h.lt,h.la,h.re⟩
theorem bM.pok (h:bM X S base w b R ms vp vs ve vl vm rows) (k:Nat) (hk:k≤ms.length):oK R (kG R (aC R) (ms.take k)):=CZ (yw h.re) h.la k hk
theorem bM.nok (h:bM X S base w b R ms vp vs ve vl vm rows):oK R (bJ R ms):=h.plain.nok
theorem bM.other (h:bM X S base w b R ms vp vs ve vl vm rows) (hf:Fr X w w') (hx:∀ k,S k→¬ X k):bM X S base w' b R ms vp vs ve vl vm rows:=by
 have hF:Fr (fun k=>S k∨X k) w w':=hf.mono (fun k _ h=>.inr h)
 exact ⟨h.box.held hf (hx b h.sb),h.sb,fun k hk=>⟨(h.lo k hk).1,Nat.lt_of_lt_of_le (h.lo k hk).2 hf.size⟩,h.rd.QM hF (iI.refl _ _),fD h.ol hf (fun k hk=>hx k (h.sl k hk).1),h.mp,fun r hr=>(h.rw r hr).QM hF (iI.refl _ _),fD h.om hf (fun k hk=>hx k (h.sm k hk).1),h.sl,h.sm,h.ap,h.lt,h.la,h.re⟩
end Go.Proofs.YteablcielclaeaaGreatDoor.gx
namespace Go.Proofs.YteablcielclaeaaGreatDoor.gx
open Go.ChangeShapes Go.WideShapes Go.ChangeAt Go.RowKit
set_option linter.unusedVariables false
set_option maxHeartbeats 4000000
set_option maxRecDepth 100000
open Go.Lib (hid)
def IE (R:au) (w:World) (e:Ending) (w':World):Prop:=
 (aF R≠0∧e=.returned (.tuple #[.pointer none,.int .i64 (aF R)])∧Below w.heap.size w w') ∨
 (aF R=0∧∃ S b vp vs ve vl vm rows,e=.returned (.tuple #[.pointer (some ⟨b,0,none⟩),.int .i64 0])∧(∀ X:Nat→Prop,(∀ k,X k→k<w.heap.size∨w'.heap.size≤k)→bM X S w.heap.size w' b R [] vp vs ve vl vm rows)∧Below w.heap.size w w')
theorem BF (R:au) (vp vs ve:Value) (w:World) (hr:qo w R vp vs ve) (hnm:R.name.size≤maxLen) :
  Calls Tryz.prog 40 #[(.agg #[.string R.name,.int .i64 R.width,.int .i64 R.height,vp,vs,.bool R.falls,.bool R.keeps,ve,.int .i64 R.blocked,.int .i64 R.quiet,.int .i64 R.aZ])] w (IE R w):=by
 have HR:=hid hr
 have HN:=hid hnm
 clear hr hnm
 go_enter Tryz.func40,Tryz.ntmps40
 go_upto_region 1 with (fail)
 refine pV fun w0 B0 fG hs_=>?_
 have HB:=hid fG
 have hz0:w.heap.size<w0.heap.size:=by omega
 clear hs_ fG
 have zh:=hid (HR.out.below HB.out (Nat.le_refl _))
 have HX0:=hid B0
 clear B0
 refine wp_region_lit ?_
 refine aB (by rfl) 61 (.tmp 1) (by rfl) w.heap.size (by rfl) HX0.out Tryz.underlying61 (by rfl) (by kernel_rfl) ?_
 go_wp2_with fail
 refine (CB R vp vs ve w0 zh.out HN.out).mono ?_
 rintro e w1 (⟨hbad,rfl,hb1⟩ | ⟨hre,c,c0,c1,rfl,ho1,hb1⟩)
 ·have Ik:=hid hbad
  have he':(aF R != 0)=true:=by simpa using hbad
  have HB1:=hid (aj HB.out hb1 HB.out.size)
  clear hbad hb1
  unfold xX
  go_wp2_with fail
  go_ret2
  exact .inl ⟨Ik.out,rfl,HB1.out.alloc HB1.out.size _⟩
 have hp1:=ho1.rd
 obtain ⟨xa,xn,rfl,-,-⟩:=hp1.1.form
 obtain ⟨xa0,vX,rfl,-,-⟩:=hp1.2.1.form
 obtain ⟨xa1,vY,rfl,-,-⟩:=hp1.2.2.form
 have hrk:=Ie hre
 have QN:=hid hre
 have hl1:R.pieces.length≤1000:=by have:=hrk.np; omega
 have hl2:R.start.length≤1000:=by have:=Cm hre; omega
 have hl3:R.ends.length≤1000:=by have:=hrk.en; omega
 have HWL:Hid (∀ i,i<R.pieces.length→(R.pieces.getD i default).ways.length≤1000):=hid (fun i hi=>by have:=(hrk.pc i hi).2.2.1; omega)
 have hy0:=(HX0.out.stays hb1).alloc (.cells #[.slice xa (aC R).cells.length xn,.slice xa0 (aC R).h0.length vX,.slice xa1 (aC R).h1.length vY,.int .i64 (aC R).turn,.int .i64 (aC R).quiet] 158)
 have hyp:=Box.new w1 [.slice xa (aC R).cells.length xn,.slice xa0 (aC R).h0.length vX,.slice xa1 (aC R).h1.length vY,.int .i64 (aC R).turn,.int .i64 (aC R).quiet] 158
 have hyl:=(aj HB.out hb1 HB.out.size).alloc (aj HB.out hb1 HB.out.size).size (.cells #[.slice xa (aC R).cells.length xn,.slice xa0 (aC R).h0.length vX,.slice xa1 (aC R).h1.length vY,.int .i64 (aC R).turn,.int .i64 (aC R).quiet] 158)
 have hyr:OwnB w.heap.size (w1.alloc (.cells #[.slice xa (aC R).cells.length xn,.slice xa0 (aC R).h0.length vX,.slice xa1 (aC R).h1.length vY,.int .i64 (aC R).turn,.int .i64 (aC R).quiet] 158)) (aC R) (.slice xa (aC R).cells.length xn) (.slice xa0 (aC R).h0.length vX) (.slice xa1 (aC R).h1.length vY):=⟨own_base (ho1.1.alloc _) HB.out.size,own_base (ho1.2.1.alloc _) HB.out.size,own_base (ho1.2.2.alloc _) HB.out.size⟩
 have hyw:w.heap.size≤(w1.alloc (.cells #[.slice xa (aC R).cells.length xn,.slice xa0 (aC R).h0.length vX,.slice xa1 (aC R).h1.length vY,.int .i64 (aC R).turn,.int .i64 (aC R).quiet] 158)).heap.size:=hyl.size
 have HY:=hid (And.intro hy0 (And.intro hyp (And.intro hyl (And.intro hyr hyw))))
 clear hre hrk hp1 ho1 hb1 hy0 hyp hyl hyr hyw HX0 HB zh hz0
 unfold sH
 go_upto_region 4 with (fail)
 generalize (w1.alloc (.cells #[.slice xa (aC R).cells.length xn,.slice xa0 (aC R).h0.length vX,.slice xa1 (aC R).h1.length vY,.int .i64 (aC R).turn,.int .i64 (aC R).quiet] 158))=wq at *
 obtain ⟨hy0,hyp,hyl,hyr,hyw⟩:=HY.out
 have BRz:Box wq.drew w.heap.size [.string R.name,.int .i64 R.width,.int .i64 R.height,vp,vs,.bool R.falls,.bool R.keeps,ve,.int .i64 R.blocked,.int .i64 R.quiet,.int .i64 R.aZ] 61:=hy0
 have BPz:Box wq.drew w1.heap.size [.slice xa (aC R).cells.length xn,.slice xa0 (aC R).h0.length vX,.slice xa1 (aC R).h1.length vY,.int .i64 (aC R).turn,.int .i64 (aC R).quiet] 158:=hyp
 have Lz:Below w.heap.size w wq.drew:=aP hyl
 have Zz:Below wq.heap.size wq wq.drew:=aP (Below.refl _ _)
 have Vm:=hid hyr
 have HWQ:=hid hyw
 clear hy0 hyp hyl hyr hyw HY
 refine wp_region_noPanic ?_
 refine bU (S:=(fun w'=>w'.cell? ⟨w.heap.size,0,none⟩=some (.string R.name)∧w'.cell? ⟨w.heap.size,1,none⟩=some (.int .i64 R.width)∧w'.cell? ⟨w.heap.size,2,none⟩=some (.int .i64 R.height)∧w'.cell? ⟨w.heap.size,3,none⟩=some vp∧w'.cell? ⟨w.heap.size,4,none⟩=some vs∧w'.cell? ⟨w.heap.size,5,none⟩=some (.bool R.falls)∧w'.cell? ⟨w.heap.size,6,none⟩=some (.bool R.keeps)∧w'.cell? ⟨w.heap.size,7,none⟩=some ve∧w'.cell? ⟨w.heap.size,8,none⟩=some (.int .i64 R.blocked)∧w'.cell? ⟨w.heap.size,9,none⟩=some (.int .i64 R.quiet)∧w'.cell? ⟨w.heap.size,10,none⟩=some (.int .i64 R.aZ)∧w'.cell? ⟨w1.heap.size,0,none⟩=some (.slice xa (aC R).cells.length xn)∧w'.cell? ⟨w1.heap.size,1,none⟩=some (.slice xa0 (aC R).h0.length vX)∧w'.cell? ⟨w1.heap.size,2,none⟩=some (.slice xa1 (aC R).h1.length vY)∧w'.cell? ⟨w1.heap.size,3,none⟩=some (.int .i64 (aC R).turn)∧w'.cell? ⟨w1.heap.size,4,none⟩=some (.int .i64 (aC R).quiet))) (L:=[]) (by kernel_rfl) (by and_intros <;> first | exact BRz.cell _ rfl | exact BPz.cell _ rfl) (fun hHeld=>?_)
 refine eH 0 ?_
 refine eH 2 ?_
 refine ZT (rs:=[1,3]) ?_
 refine (bC.cons (by first | (simp only [List.getElem?_toArray,List.getElem?_cons_zero,List.getElem?_cons_succ] <;> rfl) | rfl) (fun K hK=>?_) (bC.cons (by first | (simp only [List.getElem?_toArray,List.getElem?_cons_zero,List.getElem?_cons_succ] <;> rfl) | rfl) (fun K hK=>?_) bC.nil))
 ·skip
  go_simp
  refine (zH R vp vs ve wq.drew (HR.out.below Lz (Nat.le_refl _)) (by omega) (by omega) (by omega) HWL.out).mono ?_
  rintro e jC ⟨up,us,ue,rfl,hx1,hb1⟩
  have hc1:=hb1
  have BR1:=BRz.stays hb1
  have BP1:=BPz.stays hb1
  have L1:=aj Lz hb1 Lz.size
  have Z1:=Below.trans Zz (hb1.mono Zz.size)
  have X1:=hx1
  have C1:=Below.refl jC.heap.size jC
  clear hb1 hx1 hc1
  refine hK.out _ _ (by and_intros <;> first | exact BR1.cell _ rfl | exact BP1.cell _ rfl) (fun hHeld=>?_)
  clear hK K
  refine gI 3 fun K hK=>?_
  go_simp
  refine bg ?_
  intro w3 e3
  have hb3:Below jC.heap.size jC w3:=by rw [e3]; exact (Below.refl _ _).alloc (Nat.le_refl _) _
  have N3:Box w3 jC.heap.size [.slice xa (aC R).cells.length xn,.slice xa0 (aC R).h0.length vX,.slice xa1 (aC R).h1.length vY,.int .i64 (aC R).turn,.int .i64 (aC R).quiet] 158:=by rw [e3]; exact Box.new' _ _ _ _ rfl
  have BR3:=BR1.stays hb3
  have BP3:=BP1.stays hb3
  have L3:=aj L1 hb3 L1.size
  have Z3:=Below.trans Z1 (hb3.mono Z1.size)
  have X3:=X1
  have D3:=hb3
  clear hb3 e3
  refine hK.out _ _ (by and_intros <;> first | exact BR3.cell _ rfl | exact BP3.cell _ rfl) (fun hHeld=>?_)
  clear hK K
  refine aJ 4 ?_
  refine gI 5 fun K hK=>?_
  go_simp
  refine bg ?_
  intro w5 e5
  have hb5:Below w3.heap.size w3 w5:=by rw [e5]; exact (Below.refl _ _).alloc (Nat.le_refl _) _
  have G5:Box w5 w3.heap.size [.string R.name,.int .i64 R.width,.int .i64 R.height,up,us,.bool R.falls,.bool R.keeps,ue,.int .i64 R.blocked,.int .i64 R.quiet,.int .i64 R.aZ,.slice (some ⟨jC.heap.size,0,none⟩) 1 1,.slice none 0 0] 193:=by rw [e5]; exact Box.new' _ _ _ _ rfl
  have BR5:=BR3.stays hb5
  have BP5:=BP3.stays hb5
  have L5:=aj L3 hb5 L3.size
  have Z5:=Below.trans Z3 (hb5.mono Z3.size)
  have N5:=N3.stays hb5
  have D5:=hb5
  clear hb5 e5
  refine hK.out _ _ (by and_intros <;> first | exact BR5.cell _ rfl | exact BP5.cell _ rfl) (fun hHeld=>?_)
  clear hK K
  refine aJ 6 ?_
  refine aJ 7 ?_
  refine kW ?_
  have hS:∀ k,(fun k=>k=jC.heap.size∨k=w3.heap.size) k→wq.heap.size≤k∧k<w5.heap.size:=fun k hk=>by
   rcases hk with rfl | rfl
   ·exact ⟨Z1.size,N5.lt⟩
   ·exact ⟨Z3.size,G5.lt⟩
  have hR:∀ X:Nat→Prop,(∀ k,X k→k<w.heap.size∨w5.heap.size≤k)→Held X (fun k=>k=jC.heap.size∨k=w3.heap.size) w5 fun w'=>qo w' R up us ue:=fun X hX=>FY X1 (Below.trans D3 (D5.mono D3.size)) (fun k hk=>by rcases hk with (rfl | rfl) | hk; exact .inr (Nat.le_refl _); exact .inr D3.size; exact (hX k hk).imp (fun h=>Nat.lt_of_lt_of_le h HWQ.out) (Nat.le_trans (Nat.le_trans D3.size D5.size)))
  have hP:∀ X:Nat→Prop,(∀ k,X k→k<w.heap.size∨w5.heap.size≤k)→Held X (fun k=>k=jC.heap.size∨k=w3.heap.size) w5 fun w'=>tJ w' (aC R) (.slice xa (aC R).cells.length xn) (.slice xa0 (aC R).h0.length vX) (.slice xa1 (aC R).h1.length vY):=fun X hX=>fun w' hw=>by
   have hz:=Z5.size
   have hn:∀ {v:Value} {n:Nat} {xs:List Value},wq.ownsRow w.heap.size 3 1 v n xs→∀ k,v.ownBlock=some k→¬ ((fun k=>k=jC.heap.size∨k=w3.heap.size) k∨X k):=fun ho k hk h=>by
    have hl:=ho.lt k hk
    rcases h with h | h
    ·have:=(hS k h).1; omega
    ·have:=hX k h; omega
   exact ⟨iJ.dL (fD (aU Vm.out.1 Z5) hw (hn Vm.out.1)),iJ.dL (fD (aU Vm.out.2.1 Z5) hw (hn Vm.out.2.1)),iJ.dL (fD (aU Vm.out.2.2 Z5) hw (hn Vm.out.2.2))⟩
  have hol:w5.ownsRow wq.heap.size 158 5 (.slice (some ⟨jC.heap.size,0,none⟩) 1 1) 1 (jU [⟨aC R,.slice xa (aC R).cells.length xn,.slice xa0 (aC R).h0.length vX,.slice xa1 (aC R).h1.length vY⟩]):=Ld N5 Z1.size
  have hGm:∀ X:Nat→Prop,(∀ k,X k→k<w.heap.size∨w5.heap.size≤k)→bM X (fun k=>k=jC.heap.size∨k=w3.heap.size) w.heap.size w5 w3.heap.size R [] up us ue (.slice (some ⟨jC.heap.size,0,none⟩) 1 1) (.slice none 0 0) [⟨aC R,.slice xa (aC R).cells.length xn,.slice xa0 (aC R).h0.length vX,.slice xa1 (aC R).h1.length vY⟩]:=fun X hX=>⟨G5,.inr rfl,fun k hk=>⟨Nat.le_trans HWQ.out (hS k hk).1,(hS k hk).2⟩,hR X hX,own_base hol HWQ.out,rfl,fun r hr=>by rw [List.mem_singleton.1 hr]; exact hP X hX,World.ownsRow_nil _ _ _ _,fun k hk=>⟨.inl (by simpa [Value.ownBlock] using hk.symm),(fun e=>by subst e; have h1:jC.heap.size<_:=N3.lt; simp [Value.ownBlock] at hk; omega)⟩,(fun k hk=>by cases hk),.inr (by simp [Value.ownBlock]),by simp,gZ.nil _ _,QN.out⟩
  have N8:=hid hGm
  have OU:=hid L5
  clear hGm hol hP hR hS hHeld
  go_wp2_with fail
  go_ret2
  exact .inr ⟨QN.out,_,_,_,_,_,_,_,_,rfl,N8.out,OU.out⟩
 ·skip
  go_simp
  refine bg ?_
  intro w3 e3
  have hb3:Below wq.drew.heap.size wq.drew w3:=by rw [e3]; exact (Below.refl _ _).alloc (Nat.le_refl _) _
  have N3:Box w3 wq.drew.heap.size [.slice xa (aC R).cells.length xn,.slice xa0 (aC R).h0.length vX,.slice xa1 (aC R).h1.length vY,.int .i64 (aC R).turn,.int .i64 (aC R).quiet] 158:=by rw [e3]; exact Box.new' _ _ _ _ rfl
  have BR3:=BRz.stays hb3
  have BP3:=BPz.stays hb3
  have L3:=aj Lz hb3 Lz.size
  have Z3:=Below.trans Zz (hb3.mono Zz.size)
  clear hb3 e3
  refine hK.out _ _ (by and_intros <;> first | exact BR3.cell _ rfl | exact BP3.cell _ rfl) (fun hHeld=>?_)
  clear hK K
  refine gI 1 fun K hK=>?_
  go_simp
  refine (zH R vp vs ve w3 (HR.out.below L3 (Nat.le_refl _)) (by omega) (by omega) (by omega) HWL.out).mono ?_
  rintro e jC ⟨up,us,ue,rfl,hx1,hb1⟩
  have hc1:=hb1
  have BR1:=BR3.stays hb1
  have BP1:=BP3.stays hb1
  have L1:=aj L3 hb1 L3.size
  have Z1:=Below.trans Z3 (hb1.mono Z3.size)
  have X1:=hx1
  have C1:=hc1
  have N1:=N3.stays hb1
  clear hb1 hx1 hc1
  refine hK.out _ _ (by and_intros <;> first | exact BR1.cell _ rfl | exact BP1.cell _ rfl) (fun hHeld=>?_)
  clear hK K
  refine aJ 4 ?_
  refine gI 5 fun K hK=>?_
  go_simp
  refine bg ?_
  intro w5 e5
  have hb5:Below jC.heap.size jC w5:=by rw [e5]; exact (Below.refl _ _).alloc (Nat.le_refl _) _
  have G5:Box w5 jC.heap.size [.string R.name,.int .i64 R.width,.int .i64 R.height,up,us,.bool R.falls,.bool R.keeps,ue,.int .i64 R.blocked,.int .i64 R.quiet,.int .i64 R.aZ,.slice (some ⟨wq.drew.heap.size,0,none⟩) 1 1,.slice none 0 0] 193:=by rw [e5]; exact Box.new' _ _ _ _ rfl
  have BR5:=BR1.stays hb5
  have BP5:=BP1.stays hb5
  have L5:=aj L1 hb5 L1.size
  have Z5:=Below.trans Z1 (hb5.mono Z1.size)
  have N5:=N1.stays hb5
  have D5:=hb5
  clear hb5 e5
  refine hK.out _ _ (by and_intros <;> first | exact BR5.cell _ rfl | exact BP5.cell _ rfl) (fun hHeld=>?_)
  clear hK K
  refine aJ 6 ?_
  refine aJ 7 ?_
  refine kW ?_
  have hS:∀ k,(fun k=>k=wq.drew.heap.size∨k=jC.heap.size) k→wq.heap.size≤k∧k<w5.heap.size:=fun k hk=>by
   rcases hk with rfl | rfl
   ·exact ⟨Nat.le_refl _,N5.lt⟩
   ·exact ⟨Z1.size,G5.lt⟩
  have hR:∀ X:Nat→Prop,(∀ k,X k→k<w.heap.size∨w5.heap.size≤k)→Held X (fun k=>k=wq.drew.heap.size∨k=jC.heap.size) w5 fun w'=>qo w' R up us ue:=fun X hX=>FY X1 D5 (fun k hk=>by rcases hk with (rfl | rfl) | hk; exact .inl N3.lt; exact .inr (Nat.le_refl _); exact (hX k hk).imp (fun h=>Nat.lt_trans (Nat.lt_of_lt_of_le h HWQ.out) N3.lt) (Nat.le_trans D5.size))
  have hP:∀ X:Nat→Prop,(∀ k,X k→k<w.heap.size∨w5.heap.size≤k)→Held X (fun k=>k=wq.drew.heap.size∨k=jC.heap.size) w5 fun w'=>tJ w' (aC R) (.slice xa (aC R).cells.length xn) (.slice xa0 (aC R).h0.length vX) (.slice xa1 (aC R).h1.length vY):=fun X hX=>fun w' hw=>by
   have hz:=Z5.size
   have hn:∀ {v:Value} {n:Nat} {xs:List Value},wq.ownsRow w.heap.size 3 1 v n xs→∀ k,v.ownBlock=some k→¬ ((fun k=>k=wq.drew.heap.size∨k=jC.heap.size) k∨X k):=fun ho k hk h=>by
    have hl:=ho.lt k hk
    rcases h with h | h
    ·have:=(hS k h).1; omega
    ·have:=hX k h; omega
   exact ⟨iJ.dL (fD (aU Vm.out.1 Z5) hw (hn Vm.out.1)),iJ.dL (fD (aU Vm.out.2.1 Z5) hw (hn Vm.out.2.1)),iJ.dL (fD (aU Vm.out.2.2 Z5) hw (hn Vm.out.2.2))⟩
  have hol:w5.ownsRow wq.heap.size 158 5 (.slice (some ⟨wq.drew.heap.size,0,none⟩) 1 1) 1 (jU [⟨aC R,.slice xa (aC R).cells.length xn,.slice xa0 (aC R).h0.length vX,.slice xa1 (aC R).h1.length vY⟩]):=Ld N5 (Nat.le_refl _)
  have hGm:∀ X:Nat→Prop,(∀ k,X k→k<w.heap.size∨w5.heap.size≤k)→bM X (fun k=>k=wq.drew.heap.size∨k=jC.heap.size) w.heap.size w5 jC.heap.size R [] up us ue (.slice (some ⟨wq.drew.heap.size,0,none⟩) 1 1) (.slice none 0 0) [⟨aC R,.slice xa (aC R).cells.length xn,.slice xa0 (aC R).h0.length vX,.slice xa1 (aC R).h1.length vY⟩]:=fun X hX=>⟨G5,.inr rfl,fun k hk=>⟨Nat.le_trans HWQ.out (hS k hk).1,(hS k hk).2⟩,hR X hX,own_base hol HWQ.out,rfl,fun r hr=>by rw [List.mem_singleton.1 hr]; exact hP X hX,World.ownsRow_nil _ _ _ _,fun k hk=>⟨.inl (by simpa [Value.ownBlock] using hk.symm),(fun e=>by subst e; have h1:wq.heap.size<_:=N1.lt; simp [Value.ownBlock] at hk; omega)⟩,(fun k hk=>by cases hk),.inr (by simp [Value.ownBlock]),by simp,gZ.nil _ _,QN.out⟩
  have N8:=hid hGm
  have OU:=hid L5
  clear hGm hol hP hR hS hHeld
  go_wp2_with fail
  go_ret2
  exact .inr ⟨QN.out,_,_,_,_,_,_,_,_,rfl,N8.out,OU.out⟩
end Go.Proofs.YteablcielclaeaaGreatDoor.gx

/- MaW, MaX, RecA, MvRev, RecB, RecL, AnP, AnQ. -/
import Derived.Test.YteablcielclaeaaGreatDoorC25
import Derived.Laws.Externs
namespace Go.Proofs.YteablcielclaeaaGreatDoor
open Go.ChangeShapes Go.WideShapes Go.ChangeAt Go.RowKit
set_option linter.unusedVariables false
theorem aeh (M:aO) (e:yD) (h:(M.go e).2≠0):(M.go e).1=M:=by
  revert h; unfold aO.go
  split
  · intro _; rfl
  split
  · intro _; rfl
  · intro h; exact absurd rfl h
theorem Q5 (M:aO):M.over.jr=M.jr∧M.over.last=M.last∧M.over.R=M.R∧M.over.CR=M.CR∧M.over.off=M.off∧M.over.aQ=M.aQ:=by
  unfold aO.over
  split <;> exact ⟨rfl,rfl,rfl,rfl,rfl,rfl⟩
theorem Q8 (M:aO) (h:M.over.res=0):M.over.game=0∧M.res=0:=by
  revert h; unfold aO.over
  split
  · intro h; rename_i hc; exact absurd h hc.1
  · intro h; rename_i hc
    refine ⟨Decidable.byContradiction fun hg=>hc ⟨hg,h⟩,h⟩
theorem MInv.over {M:aO} (nm:M.R.name.size≤maxLen) (cr:BD M.CR) (ck:um M.CR M.clk) (st:M.clk.st=false) (fl:M.res=0→M.clk.ak<0) (sn:M.clk.since≤M.last) (la:0≤M.last∧M.last≤100000000) (og:qN M.off) (pr:pI M.aQ) (jo:OkJ M.jr):MInv M.over:=by
  obtain ⟨j1,j2,j3,j4,j5,j6⟩:=Q5 M
  have jc:=(BH M).2
  refine ⟨by rw [j3]; exact nm,by rw [j4]; exact cr,by rw [j4,jc]; exact ck,by rw [jc]; exact st,fun h=>?_,by rw [jc,j2]; exact sn,by rw [j2]; exact la,by rw [j5]; exact og,by rw [j6]; exact pr,by rw [j1]; exact jo,fun h=>(Q8 M h).1⟩
  rw [jc]; exact fl (Q8 M h).2
theorem Ya {CR:sK} (h:BD CR) {now:Int} (h0:0≤now) (h1:now≤100000000):um CR (aN CR now):=by
  have hn:=h.n
  have ht:=h.pt 0 (by omega)
  have hl:0≤(CR.ps.getD 0 (0,0)).2∧(CR.ps.getD 0 (0,0)).2≤100000000000:=by omega
  exact ⟨⟨Int.le_refl _,by show (0:Int)≤1; decide⟩,⟨Int.le_refl _,by show (-1:Int)≤1; decide⟩,⟨h0,h1⟩,⟨Int.le_refl _,by show (0:Int)≤_; omega⟩,⟨Int.le_refl _,by show (0:Int)≤400; decide⟩,hl,⟨Int.le_refl _,by show (0:Int)≤_; omega⟩,⟨Int.le_refl _,by show (0:Int)≤400; decide⟩,hl⟩
theorem Yb (R:au) (CR:sK) (now:Int) (hn:R.name.size≤maxLen) (h:BD CR) (h0:0≤now) (h1:now≤100000000):MInv (mQ R CR now):=by
  unfold mQ
  exact MInv.over hn h (Ya h h0 h1) rfl (fun _=>by show (-1:Int)<0; decide) (Int.le_refl _) ⟨h0,h1⟩ adF ⟨Nat.zero_le _,Nat.zero_le _,by simp⟩ (Md (es:=[]) aa2 (DX now (by omega) (by omega)).1)
theorem Mid.runs (now:Int):∀ (f:Nat) (M:aO),Mid M now→Mid (aO.runs now f M) now∧(aO.runs now f M).jr=M.jr∧(aO.runs now f M).res=M.res
  | 0,M,h=>⟨h,rfl,rfl⟩
  | f+1,M,h=>by
    rw [aO.runs]
    split
    · split
      · obtain ⟨a,b,c⟩:=Mid.runs now f _ (h.rest.move (bn M.R M.pos M.aQ))
        exact ⟨a,b,c⟩
      · exact ⟨h.rest,rfl,rfl⟩
    · exact ⟨h,rfl,rfl⟩
theorem Yc (R:au) (ms:List aA):0≤(bJ R ms).turn∧(bJ R ms).turn≤1:=by
  have key:∀ (l:List aA) (p:aV),(0≤p.turn∧p.turn≤1)→0≤(l.foldl (bF R) p).turn∧(l.foldl (bF R) p).turn≤1:=by
    intro l
    induction l with
    | nil=>intro p h; exact h
    | cons x l ih =>
      intro p h
      refine ih _ ?_
      show 0≤1 - p.turn∧1 - p.turn≤1
      omega
  exact key ms (aC R) ⟨Int.le_refl _,by show (0:Int)≤1; decide⟩
structure KG (M:aO) (now:Int):Prop where
  ck:um M.CR M.clk
  st:M.clk.st=false
  fl:M.res=0→M.clk.ak<0
  sn:M.clk.since≤now
  og:qN M.off
  pr:pI M.aQ
theorem Mid.kg {M:aO} {now:Int} (h:Mid M now):KG M now:=⟨h.ck,h.st,fun _=>h.fl,h.sn,h.og,h.pr⟩
theorem KG.back {M:aO} {now:Int} (h:KG M now) (k:Nat) (h0:0≤now) (h1:now≤100000000) (hr:M.res=0):KG (M.backTo k now) now:=by
  have ht:=Yc M.R (M.ms.take (M.ms.length - k))
  exact ⟨⟨ht,h.ck.f,⟨h0,h1⟩,h.ck.p0,h.ck.m0,h.ck.l0,h.ck.p1,h.ck.m1,h.ck.l1⟩,h.st,fun _=>h.fl hr,Int.le_refl _,aaF (FX h.og) _,⟨Nat.zero_le _,Nat.zero_le _,fun x hx=>by cases hx⟩⟩
theorem Un (R:au) (p:aV) (x:Int) (h:x≤1):IL R p x≠0:=by
  unfold IL
  split <;> omega
theorem abe {M:aO} {e:yD} (h:MInv M) (hp:M.mP e=0) (hl:M.ms.length≤400) (hk:(M.kind e).2=0):KG (M.kind e).1 e.now:=by
  obtain ⟨h1,h2,h3,h4,h5,h6⟩:=DU hp
  have hm:=(BG h hp).mid
  have h0:KG M e.now:=⟨h.ck,h.st,h.fl,by have:=h.sn; omega,h.og,h.pr⟩
  have hn0:0≤e.now:=by have:=h.la; omega
  revert hk
  unfold aO.kind
  split
  · rename_i hk0
    unfold aO.jQ
    split
    · intro h; dsimp only at h; omega
    split
    · intro h; dsimp only at h; omega
    split
    · intro h; dsimp only at h; omega
    · intro _; exact (Mid.runs e.now 400 _ ((hm hk0).move e.m)).1.kg
  split
  · unfold aO.yE
    split
    · split
      · intro h; rename_i hc; exact absurd h hc
      · intro _; exact ⟨h0.ck,h0.st,h0.fl,h0.sn,OT h0.og _,h0.pr⟩
    · split
      · intro h; rename_i hc; exact absurd h hc
      · intro _; exact ⟨h0.ck,h0.st,h0.fl,h0.sn,aaD h0.og _ _ _ hl,h0.pr⟩
  split
  · unfold aO.uj
    split
    · intro h; rename_i hc; exact absurd h hc
    split
    · intro _; exact ⟨h0.ck,h0.st,fun _=>h0.fl h4,h0.sn,FX h0.og,h0.pr⟩
    · intro _; exact h0.back _ hn0 h3.2 h4
  split
  · unfold aO.yF
    split
    · split
      · intro h; dsimp only at h; omega
      · intro _
        have lg:=adE h0.ck e.now
        refine ⟨lg,?_,fun hr=>absurd hr (Un _ _ _ lg.f.2),?_,h0.og,h0.pr⟩
        · show (bK M.CR M.clk e.now).st=false; rw [(FV _ _ _).2]; exact h0.st
        · show (bK M.CR M.clk e.now).since≤e.now; rw [(FV _ _ _).1]; exact h0.sn
    split
    · intro h; dsimp only at h; omega
    split
    · intro h; dsimp only at h; omega
    split
    · intro h; dsimp only at h; omega
    · intro _; exact ⟨h0.ck,h0.st,fun _=>h0.fl h4,h0.sn,h0.og,h0.pr⟩
  split
  · unfold aO.qM
    split
    · intro h; dsimp only at h; omega
    split
    · intro h; dsimp only at h; omega
    · rename_i hc; intro _; exact ⟨h0.ck,h0.st,h0.fl,h0.sn,h0.og,h0.pr.add _ _ h2 hc⟩
  · intro _; exact ⟨h0.ck,h0.st,fun _=>h0.fl h4,h0.sn,h0.og,h0.pr⟩
theorem abf {M:aO} {e:yD} (h:MInv M) (hl:M.ms.length≤400) (hok:Uc e):MInv (M.go e).1:=by
  by_cases hz:(M.go e).2=0
  · revert hz
    unfold aO.go
    split
    · intro h; rename_i hc; exact absurd h hc
    split
    · intro h; rename_i hc; exact absurd h hc
    · rename_i hp hk
      intro _
      have hp0:M.mP e=0:=Decidable.byContradiction hp
      have hk0:(M.kind e).2=0:=Decidable.byContradiction hk
      obtain ⟨h1,h2,h3,h4,h5,h6⟩:=DU hp0
      have k:=abe h hp0 hl hk0
      obtain ⟨q1,q2,q3⟩:=lN M e
      refine MInv.over (M:=(M.kind e).1.put e) ?_ ?_ k.ck k.st k.fl k.sn ⟨by have:=h.la; show 0≤e.now; omega,h3.2⟩ k.og k.pr ?_
      · show (M.kind e).1.R.name.size≤maxLen; rw [q2]; exact h.nm
      · show BD (M.kind e).1.CR; rw [q3]; exact h.cr
      · show OkJ ((M.kind e).1.jr++[ni (M.kind e).1.jr (gQ e)])
        rw [q1]
        exact Md h.jo (oD hok)
  · rw [aeh M e hz]; exact h
theorem aei (R:au) (CR:sK) (now:Int):(mQ R CR now).ms.length=0:=by
  unfold mQ
  rw [(BH _).1]
  rfl
theorem aej (R:au) (CR:sK) (now:Int):(mQ R CR now).jr.length=1:=by
  unfold mQ
  rw [(Q5 _).1]
  rfl
theorem Yd:¬ I7 fJ iw:=by
 intro h
 apply h
 refine ⟨by decide +kernel,?_⟩
 refine ⟨by decide,by decide,by decide,fun k hk=>?_⟩
 obtain rfl:k=0:=by have:k<1:=hk; omega
 decide
theorem aek:clk.dB iw.ps.length iw.inc iw.delay iw.ps:=by
 refine ⟨by decide,by decide,by decide,fun k hk=>?_⟩
 obtain rfl:k=0:=by have:k<1:=hk; omega
 decide
theorem Ye:Uc gq:=by
 intro x hx
 have:x=0∨x=10∨x = -1∨x=4:=by
  simp only [yN,gq,List.mem_cons,List.not_mem_nil,or_false] at hx
  omega
 omega
theorem MH:∃ M0:aO,mQ fJ iw 0=M0∧MInv M0∧M0.jr.length<90∧M0.ms.length≤400∧(M0.go gq).2=0∧(M0.go gq).1.ms.length=1∧(M0.go gq).1.clk.l0=60990:=
 ⟨mQ fJ iw 0,rfl,Yb fJ iw 0 (by decide +kernel) (BD.of aek) (by decide) (by decide),by rw [aej]; decide,by rw [aei]; decide,DY.1,DY.2.1,DY.2.2⟩
end Go.Proofs.YteablcielclaeaaGreatDoor
namespace Go.Proofs.YteablcielclaeaaGreatDoor
open Go.ChangeShapes Go.WideShapes Go.ChangeAt Go.RowKit
set_option linter.unusedVariables false
open Go.Lib (hid)
theorem abg (s:ByteArray) (c:Int) (w:World):(callFunc 240 #[.string s,.int .u8 c]).run Tryz.prog w=.ok (.value (.int .i64 (firstIdx s c.toNat.toUInt8))) w:=by
 rw [run_callFunc_extern (e:=Extern.BytealgIndexByte.indexByte) Tryz.func240 (by kernel_rfl) (by kernel_rfl) (by kernel_rfl) (by kernel_rfl),run_indexByte_string]
 rfl
theorem Uo (s:ByteArray) (c:Int) (w:World):Calls Tryz.prog 218 #[.string s,.int .u8 c] w fun e w'=>e=.returned (.int .i64 (firstIdx s c.toNat.toUInt8))∧w=w':=by
 have hx:=abg s c
 go_enter Tryz.func218,Tryz.ntmps218
 go_wp2_with fail
 go_ret
 exact ⟨rfl,rfl⟩
theorem MI (s:ByteArray) (c:Int) (w:World):Calls Tryz.prog 183 #[.string s,.int .u8 c] w fun e w'=>e=.returned (.int .i64 (firstIdx s c.toNat.toUInt8))∧w=w':=by
 go_enter Tryz.func183,Tryz.ntmps183
 go_wp2_with (go_at_call 218; refine (Uo s c w).mono ?_; rintro e w1 ⟨rfl,rfl⟩)
 go_ret
 exact ⟨rfl,rfl⟩
def Ur (nt:ByteArray) (b:UInt8):Bool:=!(decide (b.toNat<32) || (decide (126<b.toNat) || decide (0≤firstIdx nt b)))
def jH (nt:ByteArray) (l:List UInt8):Nat→Nat→Bool
 | _,0=>true
 | k,m+1=>Ur nt (l.getD k 0) && jH nt l (k+1) m
def kT (s nt:ByteArray):Bool:=jH nt s.data.toList 0 s.size
theorem DZ (nt:ByteArray) (l:List UInt8) (k n:Nat) (h:k<n):jH nt l k (n - k)=(Ur nt (l.getD k 0) && jH nt l (k+1) (n - (k+1))):=by
 rw [show n - k=(n - (k+1))+1 by omega]; rfl
def braces:ByteArray:=⟨#[123,125]⟩
def quote:ByteArray:=⟨#[34]⟩
def dQ (s:ByteArray):Int:=if 60<s.size then 2 else if kT s braces=false then 3 else 0
set_option maxHeartbeats 2000000 in
theorem wC (s nt:ByteArray) (w:World) (hs:s.size≤maxLen) :
  Calls Tryz.prog 144 #[.string s,.string nt] w fun e w'=>e=.returned (.bool (kT s nt))∧w=w':=by
 unfold maxLen at hs
 have HN:Hid (kT s nt=jH nt s.data.toList 0 s.size):=hid rfl
 go_enter Tryz.func144,Tryz.ntmps144
 go_wp2_with fail
 go_loop [8,5] (fun i v5=>∃ (k:Nat) (o:Value),o=v5∧k≤s.size∧i=.int .i64 k∧Hid (jH nt s.data.toList 0 s.size=jH nt s.data.toList k (s.size - k))) (fun i _=>s.size - (intOf i).toNat)
 case atStart=>exact ⟨0,_,rfl,Nat.zero_le _,rfl,hid rfl⟩
 case round =>
  obtain ⟨k,o,rfl,hk,rfl,HK⟩:=hrel
  by_cases hlt:k<s.size
  ·have HS:=hid (DZ nt s.data.toList k s.size hlt)
   have HB:=hid (byte_at s k hlt)
   have HC:Hid (Ur nt (s.data.toList.getD k 0) = !(decide (s[k].toNat<32) || (decide (126<s[k].toNat) || decide (0≤firstIdx nt s[k])))):=hid (by rw [HB.out]; rfl)
   have HU:Hid (((s[k].toNat:Nat):Int).toNat.toUInt8=s[k]):=hid (by simp)
   by_cases c1:(s[k].toNat:Int)<32
   ·go_wp2_with fail
    go_ret
    exact ⟨by rw [HN.out,HK.out,HS.out,HC.out,decide_eq_true (show s[k].toNat<32 by omega)]; rfl,rfl⟩
   ·by_cases c2:(126:Int)<(s[k].toNat:Int)
    ·go_wp2_with fail
     go_ret
     exact ⟨by rw [HN.out,HK.out,HS.out,HC.out,decide_eq_true (show 126<s[k].toNat by omega)]; simp,rfl⟩
    ·have HI:=hid (MI nt (s[k].toNat:Int) w)
     rw [HU.out] at HI
     have HC2:Hid (Ur nt (s.data.toList.getD k 0) = !decide (0≤firstIdx nt s[k])):=hid (by rw [HC.out,decide_eq_false (show ¬ s[k].toNat<32 by omega),decide_eq_false (show ¬ 126<s[k].toNat by omega)]; rfl)
     generalize firstIdx nt s[k]=q at *
     by_cases c3:0≤q
     ·go_wp2_with (go_at_call 183; refine HI.out.mono ?_; rintro e w1 ⟨rfl,rfl⟩)
      go_ret
      exact ⟨by rw [HN.out,HK.out,HS.out,HC2.out,decide_eq_true c3]; rfl,rfl⟩
     ·go_wp2_with (go_at_call 183; refine HI.out.mono ?_; rintro e w1 ⟨rfl,rfl⟩)
      go_round
      case rel=>exact ⟨k+1,_,rfl,by omega,by go_num,hid (by rw [HK.out,HS.out,HC2.out,decide_eq_false (show ¬ 0≤q by omega)]; rfl)⟩
      case measure=>simp [intOf]; omega
  ·obtain rfl:k=s.size:=by omega
   go_wp2_with fail
   go_ret
   exact ⟨by rw [HN.out,HK.out,Nat.sub_self]; rfl,rfl⟩
theorem AB (s:ByteArray) (w:World) (hs:s.size≤maxLen) :
  Calls Tryz.prog 100 #[.string s] w fun e w'=>e=.returned (.int .i64 (dQ s))∧w=w':=by
 have HC:Hid (dQ s=if 60<s.size then 2 else if kT s braces=false then 3 else 0):=hid rfl
 have HP:Hid (Calls Tryz.prog 144 #[.string s,.string { data:=#[123,125] }] w fun e w'=>e=.returned (.bool (kT s braces))∧w=w'):=hid (wC s braces w hs)
 unfold maxLen at hs
 go_enter Tryz.func100,Tryz.ntmps100
 by_cases h60:(60:Int)<(s.size:Int)
 ·go_wp2_with fail
  go_ret
  exact ⟨by rw [HC.out,if_pos (by omega)]; rfl,rfl⟩
 ·cases hb:kT s braces
  ·rw [hb] at HP
   go_wp2_with (go_at_call 144; refine HP.out.mono ?_; rintro e w1 ⟨rfl,rfl⟩)
   go_ret
   exact ⟨by rw [HC.out,if_neg (by omega),if_pos hb]; rfl,rfl⟩
  ·rw [hb] at HP
   go_wp2_with (go_at_call 144; refine HP.out.mono ?_; rintro e w1 ⟨rfl,rfl⟩)
   go_ret
   exact ⟨by rw [HC.out,if_neg (by omega),if_neg (by rw [hb]; decide)]; rfl,rfl⟩
theorem Gm:∀ (l:List aA) (i:Nat) (m:aA),i<l.length→(((bf l).set (i * 3) (.int .i64 m.src)).set (i * 3+1) (.int .i64 m.dst)).set (i * 3+2) (.int .i64 m.piece)=bf (l.set i m)
 | [],i,m,h=>absurd h (Nat.not_lt_zero _)
 | x :: t,0,m,h=>by simp [bf]
 | x :: t,i+1,m,h=>by
  have ih:=Gm t i m (by simpa using h)
  have e:bf (x :: t)=[.int .i64 x.src,.int .i64 x.dst,.int .i64 x.piece]++bf t:=by simp [bf]
  have e2:bf (x :: t.set i m)=[.int .i64 x.src,.int .i64 x.dst,.int .i64 x.piece]++bf (t.set i m):=by simp [bf]
  rw [List.set_cons_succ,e2,← ih,e,show (i+1) * 3=i * 3+3 by omega]
  simp [List.set_append]
theorem Gn:∀ (l:List aA) (i:Nat),i<l.length→(bf l)[i * 3]?=some (.int .i64 (l.getD i default).src)∧(bf l)[i * 3+1]?=some (.int .i64 (l.getD i default).dst)∧(bf l)[i * 3+2]?=some (.int .i64 (l.getD i default).piece)
 | [],i,h=>absurd h (Nat.not_lt_zero _)
 | x :: t,0,h=>by simp [bf]
 | x :: t,i+1,h=>by
  have ih:=Gn t i (by simpa using h)
  rw [show (i+1) * 3=i * 3+3 by omega]
  simpa [bf] using ih
theorem Ja {w:World} {base G n c:Nat} {ms:List aA} (h:w.ownsRow base 68 3 (.slice (some ⟨G,0,none⟩) n c) n (bf ms)) (i:Nat) (hi:i<ms.length) :
  w.cell? ⟨G,i * 3,none⟩=some (.int .i64 (ms.getD i default).src)∧w.cell? ⟨G,i * 3+1,none⟩=some (.int .i64 (ms.getD i default).dst)∧w.cell? ⟨G,i * 3+2,none⟩=some (.int .i64 (ms.getD i default).piece):=by
 have hl:=h.1
 rw [kE] at hl
 obtain ⟨a,b,d⟩:=Gn ms i hi
 exact ⟨(h.cellAt _ (by omega)).trans a,(h.cellAt _ (by omega)).trans b,(h.cellAt _ (by omega)).trans d⟩
theorem MJ {w:World} {base G n c:Nat} {ms:List aA} (h:w.ownsRow base 68 3 (.slice (some ⟨G,0,none⟩) n c) n (bf ms)) (i:Nat) (m:aA) (hi:i<ms.length) :
  (((w.setCell ⟨G,i * 3,none⟩ (.int .i64 m.src)).setCell ⟨G,i * 3+1,none⟩ (.int .i64 m.dst)).setCell ⟨G,i * 3+2,none⟩ (.int .i64 m.piece)).ownsRow base 68 3 (.slice (some ⟨G,0,none⟩) n c) n (bf (ms.set i m)):=by
 have h1:=(((h.stored (i * 3) (.int .i64 m.src)).1.stored (i * 3+1) (.int .i64 m.dst)).1.stored (i * 3+2) (.int .i64 m.piece)).1
 rw [Gm ms i m hi] at h1
 exact h1
theorem D8 {base G:Nat} {w0 w:World} (h:Below base w0 w) (hG:base≤G) (i:Nat) (m:aA) :
  Below base w0 (((w.setCell ⟨G,i * 3,none⟩ (.int .i64 m.src)).setCell ⟨G,i * 3+1,none⟩ (.int .i64 m.dst)).setCell ⟨G,i * 3+2,none⟩ (.int .i64 m.piece)):=
 ((h.setCell (p:=⟨G,i * 3,none⟩) hG _).setCell (p:=⟨G,i * 3+1,none⟩) hG _).setCell (p:=⟨G,i * 3+2,none⟩) hG _
def Fa (n k j:Nat):Nat:=if j<k∨n - 1 - j<k then n - 1 - j else j
theorem Gp (l:List aA) (i j:Nat) (m:aA) (hi:i<l.length):(l.set i m).getD j default=if j=i then m else l.getD j default:=by
 simp only [List.getD_eq_getElem?_getD,List.getElem?_set]
 by_cases e:i=j
 ·subst e; simp [hi]
 ·rw [if_neg e,if_neg (fun h=>e h.symm)]
theorem abh (zs ys:List aA) (n k:Nat) (hk:k+k+1<n) (hn:zs.length=n) (hl:ys.length=n) (h:∀ j,j<n→ys.getD j default=zs.getD (Fa n k j) default) :
  ∀ j,j<n→((ys.set k (ys.getD (n - 1 - k) default)).set (n - 1 - k) (ys.getD k default)).getD j default=zs.getD (Fa n (k+1) j) default:=by
 intro j hj
 rw [Gp _ _ _ _ (by rw [List.length_set]; omega),Gp _ _ _ _ (by omega)]
 by_cases e1:j=n - 1 - k
 ·rw [if_pos e1,h k (by omega)]
  congr 1
  unfold Fa
  rw [if_neg (by omega),if_pos (by omega)]
  omega
 ·rw [if_neg e1]
  by_cases e2:j=k
  ·rw [if_pos e2,h (n - 1 - k) (by omega)]
   congr 1
   unfold Fa
   rw [if_neg (by omega),if_pos (by omega)]
   omega
  ·rw [if_neg e2,h j hj]
   congr 1
   unfold Fa
   by_cases e3:j<k∨n - 1 - j<k
   ·rw [if_pos e3,if_pos (by omega)]
   ·rw [if_neg e3,if_neg (by omega)]
theorem ael (zs ys:List aA) (n k:Nat) (hk:¬ k+k+1<n) (hn:zs.length=n) (hl:ys.length=n) (h:∀ j,j<n→ys.getD j default=zs.getD (Fa n k j) default):ys=zs.reverse:=by
 apply List.ext_getElem (by rw [List.length_reverse,hl,hn])
 intro j h1 h2
 have:=h j (by omega)
 have e:Fa n k j=n - 1 - j:=by
  unfold Fa
  by_cases e3:j<k∨n - 1 - j<k
  ·rw [if_pos e3]
  ·rw [if_neg e3]; omega
 rw [e,List.getD_eq_getElem?_getD,List.getD_eq_getElem?_getD,List.getElem?_eq_getElem h1,List.getElem?_eq_getElem (by omega)] at this
 rw [List.getElem_reverse]
 simp only [Option.getD_some] at this
 rw [this]
 congr 1
 omega
set_option maxRecDepth 100000 in
set_option maxHeartbeats 4000000 in
theorem Jb (zs:List aA) (G n c base:Nat) (w0 w:World) (h:w.ownsRow base 68 3 (.slice (some ⟨G,0,none⟩) n c) n (bf zs)) (hb:Below base w0 w) (hn:n≤1000000) :
  Calls Tryz.prog 186 #[.slice (some ⟨G,0,none⟩) n c] w fun e w'=>e=.returned (.tuple #[])∧w'.ownsRow base 68 3 (.slice (some ⟨G,0,none⟩) n c) n (bf zs.reverse)∧Below base w0 w':=by
 have HO:=hid h
 have HB:=hid hb
 have HZ:Hid (zs.length=n):=hid (by have:=h.1; rw [kE] at this; omega)
 have hgb:base≤G:=(h.lt G rfl).1
 have hgl:=(h.lt G rfl).2
 clear h hb
 go_enter Tryz.func186,Tryz.ntmps186
 go_wp2_with fail
 go_loopw [2,3] (fun i j wr=>∃ (k:Nat) (ys:List aA),k+k≤n+1∧i=.int .i64 k∧j=.int .i64 ((n:Int) - 1 - k)∧Hid (ys.length=n)∧Hid (∀ j,j<n→ys.getD j default=zs.getD (Fa n k j) default)∧Hid (wr.ownsRow base 68 3 (.slice (some ⟨G,0,none⟩) n c) n (bf ys))∧Hid (Below base w0 wr)) (fun i _ _=>n - (intOf i).toNat)
 case atStart=>exact ⟨0,zs,by omega,rfl,(by congr 1; try omega),HZ,hid (fun j hj=>by unfold Fa; rw [if_neg (by omega)]),HO,HB⟩
 case round =>
  obtain ⟨k,ys,hk,rfl,rfl,HL,HY,HOr,bD⟩:=hrel
  by_cases hlt:k+k+1<n
  ·have HSW:=hid (abh zs ys n k hlt HZ.out HL.out HY.out)
   obtain ⟨dy0,dy1,dy2⟩:=Ja HOr.out k (by rw [HL.out]; omega)
   obtain ⟨dz0,dz1,dz2⟩:=Ja HOr.out (n - 1 - k) (by rw [HL.out]; omega)
   have hG:=(HOr.out.lt G rfl).2
   generalize ys.getD k default=y at *
   generalize ys.getD (n - 1 - k) default=z at *
   have b1:(0:Int)≤(k:Int):=by omega
   have b2:(k:Int)<(n:Int):=by omega
   have b3:(0:Int)≤(n:Int) - 1 - (k:Int):=by omega
   have b4:(n:Int) - 1 - (k:Int)<(n:Int):=by omega
   have b5:((n:Int) - 1 - (k:Int)).toNat=n - 1 - k:=by omega
   have b6:(k:Int)<(n:Int) - 1 - (k:Int):=by omega
   have b7:(k:Int)≤(n:Int) - 1:=by omega
   go_wp2_with fail
   refine wp_region_noPanic ?_
   refine bU (S:=(fun w'=>w'.cell? ⟨G,k * 3,none⟩=some (.int .i64 y.src)∧w'.cell? ⟨G,k * 3+1,none⟩=some (.int .i64 y.dst)∧w'.cell? ⟨G,k * 3+2,none⟩=some (.int .i64 y.piece)∧w'.cell? ⟨G,(n - 1 - k) * 3,none⟩=some (.int .i64 z.src)∧w'.cell? ⟨G,(n - 1 - k) * 3+1,none⟩=some (.int .i64 z.dst)∧w'.cell? ⟨G,(n - 1 - k) * 3+2,none⟩=some (.int .i64 z.piece))) (L:=[13,15]) (by kernel_rfl) ⟨dy0,dy1,dy2,dz0,dz1,dz2⟩ (fun hHeld=>?_)
   refine aJ 0 ?_
   refine aJ 1 ?_
   refine aJ 2 ?_
   refine aJ 3 ?_
   refine aJ 4 ?_
   refine aJ 5 ?_
   refine aJ 8 ?_
   refine aJ 9 ?_
   refine aJ 6 ?_
   refine aJ 10 ?_
   refine eH 7 ?_
   refine eH 11 ?_
   refine aJ 12 ?_
   refine xU 13 fun K hK=>?_
   obtain ⟨d1,d2,d3,-⟩:=hHeld
   have f0:wr.frozen? ⟨G,k * 3,none⟩=false:=HOr.out.frozenAt (k * 3)
   have f1:wr.frozen? ⟨G,k * 3+1,none⟩=false:=HOr.out.frozenAt (k * 3+1)
   have f2:wr.frozen? ⟨G,k * 3+2,none⟩=false:=HOr.out.frozenAt (k * 3+2)
   go_simp
   refine bg ?_
   intro rX e13
   have O13:rX.ownsRow base 68 3 (.slice (some ⟨G,0,none⟩) n c) n (bf (ys.set k z)):=by
    rw [e13]
    exact MJ (HOr.out) k z (by rw [HL.out]; omega)
   have B13:Below base w0 rX:=by rw [e13]; exact below_drewN (D8 bD.out hgb k z) 1
   clear e13 d1 d2 d3 f0 f1 f2
   refine hK.out _ _ ?_
   clear hK K
   refine aJ 14 ?_
   refine xU 15 fun K hK=>?_
   have hz:=Ja O13 (n - 1 - k) (by rw [List.length_set,HL.out]; omega)
   obtain ⟨d1,d2,d3⟩:=hz
   have f0:rX.frozen? ⟨G,(n - 1 - k) * 3,none⟩=false:=O13.frozenAt ((n - 1 - k) * 3)
   have f1:rX.frozen? ⟨G,(n - 1 - k) * 3+1,none⟩=false:=O13.frozenAt ((n - 1 - k) * 3+1)
   have f2:rX.frozen? ⟨G,(n - 1 - k) * 3+2,none⟩=false:=O13.frozenAt ((n - 1 - k) * 3+2)
   go_simp
   refine bg ?_
   intro w15 e15
   have O15:w15.ownsRow base 68 3 (.slice (some ⟨G,0,none⟩) n c) n (bf ((ys.set k z).set (n - 1 - k) y)):=by
    rw [e15]
    exact MJ O13 (n - 1 - k) y (by rw [List.length_set,HL.out]; omega)
   have B15:Below base w0 w15:=by rw [e15]; exact D8 B13 hgb (n - 1 - k) y
   clear e15 d1 d2 d3 f0 f1 f2 O13 B13
   refine hK.out _ _ ?_
   clear hK K
   refine kW ?_
   go_wp2_with fail
   go_roundw
   case rel=>exact ⟨k+1,(ys.set k z).set (n - 1 - k) y,by omega,by go_num,by congr 1; omega,hid (by rw [List.length_set,List.length_set]; exact HL.out),hid HSW.out,hid O15,hid B15⟩
   case measure=>simp [intOf]; omega
  ·have HE:=hid (ael zs ys n k hlt HZ.out HL.out HY.out)
   have b6:¬ (k:Int)<(n:Int) - 1 - (k:Int):=by omega
   go_wp2_with fail
   go_end0
   exact ⟨rfl,by rw [← HE.out]; exact HOr.out,bD.out⟩
structure aX where
 parent:Int
 m:aA
 comment:ByteArray
deriving Inhabited
structure sO where
 key:ByteArray
 value:ByteArray
deriving Inhabited
structure iM where
 tags:List sO
 comment:ByteArray
 nodes:List aX
 result:Int
deriving Inhabited
def D9 (l:List sO) (i:Nat):Int:=
 if kM (l.getD i default).key=false then 6 else if 40<(l.getD i default).value.size then 2 else if kT (l.getD i default).value quote=false then 3 else
  if (l.take i).any (fun u=>u.key.toList == (l.getD i default).key.toList)=true then 7 else 0
def iO (l:List sO):Int:=kD (D9 l) 0 l.length
def aG (ns:List aX) (i:Nat):aX:=ns.getD i default
def JR (ns:List aX):Nat→Int→List Nat
 | 0,_=>[]
 | f+1,n=>if n<0 then [] else n.toNat :: JR ns f (aG ns n.toNat).parent
def zO (ns:List aX) (n:Int):List Nat:=JR ns (n.toNat+1) n
def Back (ns:List aX) (i:Nat):Prop:=∀ k,k<i→(aG ns k).parent<k
theorem Jc (ns:List aX) (n:Int) (h:n<0):∀ f,JR ns f n=[]
 | 0=>rfl
 | f+1=>by unfold JR; rw [if_pos h]
theorem Jd {ns:List aX} {i:Nat} (h:Back ns i):∀ (f:Nat) (n:Int),n<i→n.toNat<f→JR ns f n=zO ns n
 | 0,_,_,hf=>absurd hf (Nat.not_lt_zero _)
 | f+1,n,hn,hf=>by
  unfold zO JR
  by_cases h0:n<0
  ·rw [if_pos h0,if_pos h0]
  ·rw [if_neg h0,if_neg h0]
   have hp:=h n.toNat (by omega)
   congr 1
   by_cases hz:(aG ns n.toNat).parent<0
   ·rw [Jc ns _ hz,Jc ns _ hz]
   ·rw [Jd h f (aG ns n.toNat).parent (by omega) (by omega)]
    unfold zO
    rw [← zO]
    exact (Jd h n.toNat (aG ns n.toNat).parent (by omega) (by omega)).symm
theorem Je (ns:List aX) (n:Int) (h:n<0):zO ns n=[]:=by unfold zO JR; rw [if_pos h]
theorem rH {ns:List aX} {i:Nat} (h:Back ns i) (n:Nat) (hn:n<i):zO ns (n:Int)=n :: zO ns (aG ns n).parent:=by
 have hp:=h n hn
 unfold zO
 rw [JR,if_neg (by omega),Int.toNat_natCast]
 congr 1
 by_cases hz:(aG ns n).parent<0
 ·rw [← zO,Je ns _ hz]
  cases n with
  | zero=>rfl
  | succ m=>rw [JR,if_pos hz]
 ·exact Jd h n _ (by omega) (by omega)
def wE (ns:List aX) (node last:Int):Bool:=(zO ns last).any (fun (k:Nat)=>(k:Int) == node) || node == -1
def dX (ns:List aX) (n:Int):List aA:=((zO ns n).map fun k=>(aG ns k).m).reverse
theorem Q9 (ns:List aX) (n:Int) (h:n<0):dX ns n=[]:=by unfold dX; rw [Je ns n h]; rfl
theorem MK {ns:List aX} {i:Nat} (h:Back ns i) (n:Nat) (hn:n<i):dX ns (n:Int)=dX ns (aG ns n).parent++[(aG ns n).m]:=by
 unfold dX; rw [rH h n hn,List.map_cons,List.reverse_cons]
def qR (ns:List aX) (i:Nat):Bool:=(ns.take i).any fun y=>y.parent == (aG ns i).parent && y.m == (aG ns i).m
def Yf (ns:List aX) (i:Nat):Bool:=(ns.take i).any fun y=>y.parent == (aG ns i).parent
def uq (ns:List aX) (ds:List Int) (i:Nat):Int:=(if 0≤(aG ns i).parent then ds.getD (aG ns i).parent.toNat 0 else ds.getD i 0)+(if Yf ns i=true then 1 else 0)
def oG:El aX where
 k:=5
 E:=fun w x cs=>cs=[.int .i64 x.parent,.int .i64 x.m.src,.int .i64 x.m.dst,.int .i64 x.m.piece,.string x.comment]∧x.comment.size≤maxLen
 mono:=fun h _ _=>h
 len:=fun h=>by rw [h.1]; rfl
def wF:El sO where
 k:=2
 E:=fun w x cs=>cs=[.string x.key,.string x.value]∧x.key.size≤maxLen∧x.value.size≤maxLen
 mono:=fun h _ _=>h
 len:=fun h=>by rw [h.1]; rfl
def Vx (w:World) (X:iM) (vt vn:Value):Prop:=iQ wF w vt X.tags∧iQ oG w vn X.nodes∧X.comment.size≤maxLen
def vP (X:iM) (vt vn:Value):Value:=.agg #[vt,.string X.comment,vn,.int .i64 X.result]
theorem Vx.below {w w':World} {X:iM} {vt vn:Value} {B:Nat} (h:Vx w X vt vn) (hb:Below B w w') (hB:w.heap.size≤B):Vx w' X vt vn:=⟨h.1.below hb hB,h.2.1.below hb hB,h.2.2⟩
theorem oH {w:World} {a:Option Addr} {n c:Nat} {ns:List aX} (h:iQ oG w (.slice a n c) ns) (hn:0<ns.length):∃ g o,a=some ⟨g,o,none⟩∧g<w.heap.size ∧
  ∀ i,i<ns.length→w.cell? ⟨g,o+i * 5,none⟩=some (.int .i64 (aG ns i).parent)∧w.cell? ⟨g,o+i * 5+1,none⟩=some (.int .i64 (aG ns i).m.src) ∧
   w.cell? ⟨g,o+i * 5+2,none⟩=some (.int .i64 (aG ns i).m.dst)∧w.cell? ⟨g,o+i * 5+3,none⟩=some (.int .i64 (aG ns i).m.piece)∧w.cell? ⟨g,o+i * 5+4,none⟩=some (.string (aG ns i).comment)∧(aG ns i).comment.size≤maxLen:=by
 obtain ⟨g,o,ha,hg,hc⟩:=iQ.some h hn
 refine ⟨g,o,ha,hg,fun i hi=>?_⟩
 obtain ⟨cs,⟨rfl,hs⟩,hj⟩:=hc i hi
 have e:aG ns i=ns[i]:=by unfold aG; rw [List.getD_eq_getElem?_getD,List.getElem?_eq_getElem hi]; rfl
 rw [e]
 exact ⟨hj 0 (by decide),hj 1 (by decide),hj 2 (by decide),hj 3 (by decide),hj 4 (by decide),hs⟩
theorem Gq {w:World} {a:Option Addr} {n c:Nat} {ts:List sO} (h:iQ wF w (.slice a n c) ts) (hn:0<ts.length):∃ g o,a=some ⟨g,o,none⟩∧g<w.heap.size ∧
  ∀ i,i<ts.length→w.cell? ⟨g,o+i * 2,none⟩=some (.string (ts.getD i default).key)∧w.cell? ⟨g,o+i * 2+1,none⟩=some (.string (ts.getD i default).value)∧(ts.getD i default).key.size≤maxLen∧(ts.getD i default).value.size≤maxLen:=by
 obtain ⟨g,o,ha,hg,hc⟩:=iQ.some h hn
 refine ⟨g,o,ha,hg,fun i hi=>?_⟩
 obtain ⟨cs,⟨rfl,hs⟩,hj⟩:=hc i hi
 have e:ts.getD i default=ts[i]:=by rw [List.getD_eq_getElem?_getD,List.getElem?_eq_getElem hi]; rfl
 rw [e]
 exact ⟨hj 0 (by decide),hj 1 (by decide),hs⟩
set_option maxRecDepth 100000 in
set_option maxHeartbeats 2000000 in
theorem on_any (X:iM) (vt vn:Value) (nd last:Int) (i:Nat) (w:World) (h:Vx w X vt vn) (hb:Back X.nodes i) (hi:i≤X.nodes.length) (hl:last<i) :
  Calls Tryz.prog 147 #[vP X vt vn,.int .i64 nd,.int .i64 last] w fun e w'=>e=.returned (.bool (wE X.nodes nd last))∧Below w.heap.size w w':=by
 obtain ⟨na,nc,rfl,h1,h2⟩:=h.2.1.form
 unfold maxLen at h2
 have HR:=hid h.2.1
 have HO:Hid (wE X.nodes nd last=((zO X.nodes last).any (fun (k:Nat)=>(k:Int) == nd) || nd == -1)):=hid rfl
 have HK:=hid hb
 clear h hb
 unfold vP
 go_enter Tryz.func147,Tryz.ntmps147
 go_upto_region 1 with (fail)
 refine pV fun w0 hb0 fG hs_=>?_
 have HB:=hid fG
 clear hs_ fG
 have q2:=hb0.cell 2 rfl
 have hw0:=hb0.lt
 have zh:=hid (iQ.below HR.out HB.out (Nat.le_refl _))
 clear hb0 HR
 go_wp2_with fail
 go_loop [7] (fun v7=>∃ n:Int,v7=.int .i64 n∧n<i∧Hid ((zO X.nodes last).any (fun (k:Nat)=>(k:Int) == nd)=(zO X.nodes n).any (fun (k:Nat)=>(k:Int) == nd))) (fun v=>(intOf v+1).toNat)
 case atStart=>exact ⟨last,rfl,hl,hid rfl⟩
 case round =>
  obtain ⟨n,rfl,hn,HU⟩:=hrel
  by_cases h0:0≤n
  ·obtain ⟨m,rfl⟩:∃ m:Nat,n=(m:Int):=⟨n.toNat,by omega⟩
   obtain ⟨g,o,rfl,hg,hc⟩:=oH zh.out (by omega)
   obtain ⟨c0,-⟩:=hc m (by omega)
   have HC:=hid (rH HK.out m (by omega))
   have hpm:=HK.out m (by omega)
   clear hc
   generalize (aG X.nodes m).parent=p at *
   by_cases hmn:(m:Int)=nd
   ·subst hmn
    go_wp2_with fail
    go_ret
    exact ⟨by rw [HO.out,HU.out,HC.out]; simp,HB.out⟩
   ·have hmb:((m:Int) == nd)=false:=by simp; omega
    have hml:(m:Int)<(X.nodes.length:Int):=by omega
    have ZH:Hid ((zO X.nodes last).any (fun (k:Nat)=>(k:Int) == nd)=(zO X.nodes p).any (fun (k:Nat)=>(k:Int) == nd)):=hid (by rw [HU.out,HC.out,List.any_cons,hmb,Bool.false_or])
    go_wp2_with fail
    go_round
    case rel=>exact ⟨p,rfl,by omega,ZH⟩
    case measure=>simp [intOf]; omega
  ·have ZH:Hid (wE X.nodes nd last=(nd == -1)):=hid (by rw [HO.out,HU.out,Je X.nodes n (by omega)]; rfl)
   go_wp2_with fail
   go_ret
   exact ⟨by rw [ZH.out]; rfl,HB.out⟩
def dU (R:au) (ns:List aX) (ds:List Int) (i:Nat):Int:=
 if dQ (aG ns i).comment≠0 then dQ (aG ns i).comment else if (i:Int)≤(aG ns i).parent∨wE ns (aG ns i).parent ((i:Int) - 1)=false then 3 else
  if qR ns i=true then 7 else if dA R (dX ns i)≠0 then dA R (dX ns i) else if 20<uq ns ds i then 2 else 0
def iZ (R:au) (ns:List aX):Nat→Nat→List Int→Int
 | 0,_,_=>0
 | m+1,i,ds=>if dU R ns ds i≠0 then dU R ns ds i else iZ R ns m (i+1) (ds.set i (uq ns ds i))
def dI (R:au) (X:iM):Int:=
 if aF R≠0 then aF R else if 10<X.tags.length∨200<X.nodes.length then 2 else if iO X.tags≠0 then iO X.tags else
  if X.result<0∨3<X.result then 4 else if dQ X.comment≠0 then dQ X.comment else iZ R X.nodes X.nodes.length 0 (List.replicate X.nodes.length 0)
structure rJ (R:au) (ns:List aX) (i:Nat):Prop where
 back:Back ns i
 low:∀ k,k<i→-1≤(aG ns k).parent
 twin:∀ k j,j<k→k<i→(aG ns j).parent=(aG ns k).parent→(aG ns j).m≠(aG ns k).m
 run:∀ k:Nat,k<i→dA R (dX ns k)=0
theorem Ea {R:au} {ns:List aX} {ds:List Int} {i:Nat} (hi:i<ns.length) (h:rJ R ns i) (e:dU R ns ds i=0):rJ R ns (i+1):=by
 unfold dU at e
 by_cases h1:dQ (aG ns i).comment≠0
 ·rw [if_pos h1] at e; exact absurd e h1
 rw [if_neg h1] at e
 by_cases h2:(i:Int)≤(aG ns i).parent∨wE ns (aG ns i).parent ((i:Int) - 1)=false
 ·rw [if_pos h2] at e; cases e
 rw [if_neg h2] at e
 by_cases h3:qR ns i=true
 ·rw [if_pos h3] at e; cases e
 rw [if_neg h3] at e
 by_cases h4:dA R (dX ns i)≠0
 ·rw [if_pos h4] at e; exact absurd e h4
 have hlow : -1≤(aG ns i).parent:=by
  have ho:wE ns (aG ns i).parent ((i:Int) - 1)=true:=by
   cases hb:wE ns (aG ns i).parent ((i:Int) - 1)
   ·exact absurd (.inr hb) h2
   ·rfl
  unfold wE at ho
  rw [Bool.or_eq_true,List.any_eq_true] at ho
  rcases ho with ⟨k,-,hk⟩ | hk
  ·simp only [beq_iff_eq] at hk; omega
  ·simp only [beq_iff_eq] at hk; omega
 refine ⟨fun k hk=>?_,fun k hk=>?_,fun k j hj hk hp=>?_,fun k hk=>?_⟩
 ·by_cases ek:k=i
  ·subst ek; omega
  ·exact h.back k (by omega)
 ·by_cases ek:k=i
  ·subst ek; exact hlow
  ·exact h.low k (by omega)
 ·by_cases ek:k=i
  ·subst ek
   intro hm
   apply h3
   unfold qR
   rw [List.any_eq_true]
   have hjl:j<ns.length:=by omega
   refine ⟨ns[j],?_,?_⟩
   ·rw [List.mem_take_iff_getElem]
    exact ⟨j,by omega,rfl⟩
   ·have e1:aG ns j=ns[j]:=by unfold aG; rw [List.getD_eq_getElem?_getD,List.getElem?_eq_getElem hjl]; rfl
    rw [← e1,hp,hm]
    simp
  ·exact h.twin k j hj (by omega) hp
 ·by_cases ek:k=i
  ·subst ek
   cases Classical.em (dA R (dX ns (k:Int))=0) with
   | inl h=>exact h
   | inr h=>exact absurd h h4
  ·exact h.run k (by omega)
theorem AL {R:au} {ns:List aX}:∀ (m i:Nat) (ds:List Int),i+m=ns.length→rJ R ns i→iZ R ns m i ds=0→rJ R ns ns.length
 | 0,i,ds,hm,h,_=>by rw [← hm]; exact h
 | m+1,i,ds,hm,h,e=>by
  rw [iZ] at e
  by_cases h1:dU R ns ds i≠0
  ·rw [if_pos h1] at e; exact absurd e h1
  ·rw [if_neg h1] at e
   have h0:dU R ns ds i=0:=by
    cases Classical.em (dU R ns ds i=0) with
    | inl h=>exact h
    | inr h=>exact absurd h h1
   exact AL m (i+1) _ (by omega) (Ea (by omega) h h0) e
theorem lQ {R:au} {X:iM} (h:dI R X=0):aF R=0∧rJ R X.nodes X.nodes.length∧X.nodes.length≤200:=by
 unfold dI at h
 by_cases h1:aF R≠0
 ·rw [if_pos h1] at h; exact absurd h h1
 rw [if_neg h1] at h
 have h1:aF R=0:=by
  cases Classical.em (aF R=0) with
  | inl h=>exact h
  | inr h=>exact absurd h h1
 by_cases h2:10<X.tags.length∨200<X.nodes.length
 ·rw [if_pos h2] at h; cases h
 rw [if_neg h2] at h
 by_cases h3:iO X.tags≠0
 ·rw [if_pos h3] at h; exact absurd h h3
 rw [if_neg h3] at h
 by_cases h4:X.result<0∨3<X.result
 ·rw [if_pos h4] at h; cases h
 rw [if_neg h4] at h
 by_cases h5:dQ X.comment≠0
 ·rw [if_pos h5] at h; exact absurd h h5
 rw [if_neg h5] at h
 exact ⟨h1,AL _ 0 _ (by omega) ⟨fun k hk=>absurd hk (Nat.not_lt_zero _),fun k hk=>absurd hk (Nat.not_lt_zero _),fun k _ _ hk=>absurd hk (Nat.not_lt_zero _),fun k hk=>absurd hk (Nat.not_lt_zero _)⟩ h,by omega⟩
inductive lS where
 | mk (m:aA) (c:ByteArray) (kids:List lS)
def lF (ns:List aX) (p:Int):List Nat:=(List.range ns.length).filter fun k=>(aG ns k).parent == p
def eU (ns:List aX):Nat→Int→List lS
 | 0,_=>[]
 | f+1,p=>(lF ns p).map fun k=>.mk (aG ns k).m (aG ns k).comment (eU ns f (k:Int))
mutual
def wG:lS→Int→List aX→List aX
 | .mk m c ks,p,out=>kH ks (out.length:Int) (out++[⟨p,m,c⟩])
def kH:List lS→Int→List aX→List aX
 | [],_,out=>out
 | b :: l,p,out=>kH l p (wG b p out)
end
inductive jd (ns:List aX):Int→Nat→Nat→Prop where
 | nil (p:Int) (a:Nat):jd ns p a a
 | cons (p:Int) (a e b:Nat) (hp:(aG ns a).parent=p) (h1:jd ns (a:Int) (a+1) e) (h2:jd ns p e b):jd ns p a b
theorem jd.le {ns:List aX} {p:Int} {a b:Nat} (h:jd ns p a b):a≤b:=by
 induction h with
 | nil=>exact Nat.le_refl _
 | cons p a e b hp h1 h2 i1 i2=>omega
theorem jd.par {ns:List aX} {p:Int} {a b:Nat} (h:jd ns p a b) (k:Nat) (hk:a≤k∧k<b):(aG ns k).parent=p∨((a:Int)≤(aG ns k).parent∧(aG ns k).parent<k):=by
 induction h with
 | nil=>omega
 | cons p a e b hp h1 h2 i1 i2 =>
  have l1:=h1.le
  by_cases e0:k=a
  ·subst e0; exact .inl hp
  by_cases e1:k<e
  ·rcases i1 ⟨by omega,e1⟩ with h | h
   ·exact .inr (by omega)
   ·exact .inr (by omega)
  ·rcases i2 ⟨by omega,hk.2⟩ with h | h
   ·exact .inl h
   ·exact .inr (by omega)
inductive Up (ns:List aX):Int→Int→Prop where
 | here (k:Int):Up ns k k
 | step (k:Nat) (q:Int) (h:Up ns (aG ns k).parent q):Up ns (k:Int) q
theorem ahB {ns:List aX} {p:Int} {a b:Nat} (h:jd ns p a b) {k q:Int} (hu:Up ns k q):(a:Int)≤k→k<b→((a:Int)≤q∧q<b)∨Up ns p q:=by
 induction hu with
 | here k=>intro h1 h2; exact .inl ⟨h1,h2⟩
 | step k q hs ih =>
  intro h1 h2
  rcases h.par k ⟨by omega,by omega⟩ with e | ⟨e1,e2⟩
  ·rw [e] at hs; exact .inr hs
  ·exact ih e1 (by omega)
theorem Yg {ns:List aX} {n:Nat} (hb:Back ns n) {k q:Int} (hu:Up ns k q):k<n→q≤k:=by
 induction hu with
 | here k=>intro _; exact Int.le_refl _
 | step k q hs ih =>
  intro hk
  have h1:=hb k (by omega)
  have:=ih (by omega)
  omega
theorem jd.snoc {ns:List aX} {n:Nat} (hb:Back ns n) {p:Int} {a b:Nat} (h:jd ns p a b) (hbn:b≤n) (hpa:p<a) (hq:(aG ns b).parent=p∨(a<b∧(a:Int)≤(aG ns b).parent∧Up ns ((b:Int) - 1) (aG ns b).parent)):jd ns p a (b+1):=by
 induction h with
 | nil p a =>
  rcases hq with hq | hq
  ·exact .cons p a (a+1) (a+1) hq (.nil _ _) (.nil _ _)
  ·omega
 | cons p a e b hp h1 h2 i1 i2 =>
  have l1:=h1.le
  have l2:=h2.le
  by_cases hqp:(aG ns b).parent=p
  ·exact .cons p a e (b+1) hp h1 (i2 hbn (by omega) (.inl hqp))
  rcases hq with hq | ⟨q1,q2,q3⟩
  ·exact absurd hq hqp
  by_cases eb:e<b
  ·refine .cons p a e (b+1) hp h1 (i2 hbn (by omega) (.inr ⟨eb,?_,q3⟩))
   rcases ahB h2 q3 (by omega) (by omega) with hh | hh
   ·exact hh.1
   ·have:=Yg hb hh (by omega)
    omega
  ·have ee:e=b:=by omega
   subst ee
   refine .cons p a (e+1) (e+1) hp (i1 hbn (by omega) ?_) (.nil _ _)
   by_cases ha:(aG ns e).parent=(a:Int)
   ·exact .inl ha
   ·refine .inr ⟨?_,by omega,q3⟩
    rcases Nat.lt_or_ge (a+1) e with h | h
    ·exact h
    ·have he:e=a+1:=by omega
     subst he
     have:=Yg hb q3 (by omega)
     omega
theorem Eb {ns:List aX}:∀ (f:Nat) (n:Int) (k:Nat),k∈JR ns f n→Up ns n (k:Int)
 | 0,_,_,h=>by cases h
 | f+1,n,k,h=>by
  unfold JR at h
  split at h
  ·cases h
  ·rename_i hn
   rcases List.mem_cons.1 h with rfl | h
   ·rw [Int.toNat_of_nonneg (by omega)]; exact .here _
   ·have:=Eb f _ k h
    have hs:=Up.step n.toNat _ this
    rwa [Int.toNat_of_nonneg (by omega)] at hs
theorem ahC {ns:List aX} {q last:Int} (h:wE ns q last=true):q = -1∨(0≤q∧Up ns last q):=by
 unfold wE at h
 rw [Bool.or_eq_true,List.any_eq_true] at h
 rcases h with ⟨k,hk,hq⟩ | h
 ·simp only [beq_iff_eq] at hq
  subst hq
  exact .inr ⟨by omega,Eb _ _ _ hk⟩
 ·simp only [beq_iff_eq] at h
  exact .inl h
theorem xA {R:au} {ns:List aX}:∀ (m i:Nat) (ds:List Int),iZ R ns m i ds=0→∀ j,i≤j→j<i+m→∃ ds',dU R ns ds' j=0
 | 0,i,ds,_,j,h1,h2=>by omega
 | m+1,i,ds,e,j,h1,h2=>by
  rw [iZ] at e
  by_cases h0:dU R ns ds i≠0
  ·rw [if_pos h0] at e; exact absurd e h0
  ·rw [if_neg h0] at e
   by_cases ej:j=i
   ·subst ej; exact ⟨ds,Decidable.byContradiction h0⟩
   ·exact xA m (i+1) _ e j (by omega) (by omega)
theorem abj {R:au} {ns:List aX} {ds:List Int} {i:Nat} (e:dU R ns ds i=0):wE ns (aG ns i).parent ((i:Int) - 1)=true:=by
 unfold dU at e
 by_cases h1:dQ (aG ns i).comment≠0
 ·rw [if_pos h1] at e; exact absurd e h1
 rw [if_neg h1] at e
 by_cases h2:(i:Int)≤(aG ns i).parent∨wE ns (aG ns i).parent ((i:Int) - 1)=false
 ·rw [if_pos h2] at e; cases e
 cases hb:wE ns (aG ns i).parent ((i:Int) - 1)
 ·exact absurd (.inr hb) h2
 ·rfl
theorem aem {R:au} {X:iM} (h:dI R X=0):∀ i,i<X.nodes.length→wE X.nodes (aG X.nodes i).parent ((i:Int) - 1)=true:=by
 obtain ⟨h1,-,h2⟩:=lQ h
 unfold dI at h
 rw [if_neg (by simp [h1])] at h
 split at h
 ·cases h
 split at h
 ·rename_i hc; exact absurd h hc
 split at h
 ·cases h
 split at h
 ·rename_i hc; exact absurd h hc
 intro i hi
 obtain ⟨ds,hd⟩:=xA _ 0 _ h i (Nat.zero_le _) (by omega)
 exact abj hd
theorem Gt {ns:List aX} (hb:Back ns ns.length) (ho:∀ i,i<ns.length→wE ns (aG ns i).parent ((i:Int) - 1)=true):∀ n,n≤ns.length→jd ns (-1) 0 n
 | 0,_=>.nil _ _
 | n+1,h=>by
  have ih:=Gt hb ho n (by omega)
  refine ih.snoc (n:=n) (fun k hk=>hb k (by omega)) (Nat.le_refl _) (by decide) ?_
  rcases ahC (ho n (by omega)) with e | ⟨e1,e2⟩
  ·exact .inl e
  ·by_cases h0:n=0
   ·subst h0
    have:=hb 0 (by omega)
    omega
   ·exact .inr ⟨by omega,by omega,e2⟩
def jE (ns:List aX) (p:Int) (a b:Nat):List Nat:=(List.range' a (b - a)).filter fun k=>(aG ns k).parent == p
theorem PG (ns:List aX) (p:Int) (a:Nat):jE ns p a a=[]:=by unfold jE; rw [Nat.sub_self]; rfl
theorem Jf (a b c:Nat) (h1:a≤b) (h2:b≤c):List.range' a (c - a)=List.range' a (b - a)++List.range' b (c - b):=by
 have:c - a=(b - a)+(c - b):=by omega
 rw [this,← List.range'_append_1,show a+(b - a)=b by omega]
theorem nK (ns:List aX) (p:Int) (a b c:Nat) (h1:a≤b) (h2:b≤c):jE ns p a c=jE ns p a b++jE ns p b c:=by
 unfold jE; rw [Jf a b c h1 h2,List.filter_append]
theorem uw (ns:List aX) (p:Int) (a b:Nat) (h:∀ k,a≤k→k<b→(aG ns k).parent≠p):jE ns p a b=[]:=by
 unfold jE
 rw [List.filter_eq_nil_iff]
 intro k hk
 rw [List.mem_range'_1] at hk
 simpa using h k hk.1 (by omega)
theorem PI (ns:List aX) (p:Int) (a:Nat) (h:(aG ns a).parent=p):jE ns p a (a+1)=[a]:=by
 unfold jE
 rw [show a+1 - a=1 by omega]
 simp [List.range'_one,h]
theorem ML (ns:List aX) (p:Int) (a b:Nat) (h1:a≤b) (h2:b≤ns.length) (h:∀ k,k<ns.length→(aG ns k).parent=p→a≤k∧k<b):lF ns p=jE ns p a b:=by
 have e:lF ns p=jE ns p 0 ns.length:=by unfold lF jE; rw [List.range_eq_range',Nat.sub_zero]
 rw [e,nK ns p 0 a ns.length (Nat.zero_le _) (by omega),nK ns p a b ns.length h1 h2]
 rw [uw ns p 0 a (fun k _ hk he=>by have:=h k (by omega) he; omega),uw ns p b ns.length (fun k hk hl he=>by have:=h k hl he; omega)]
 simp
theorem jd.kids {ns:List aX} {p:Int} {a e b:Nat} (hp:(aG ns a).parent=p) (h1:jd ns (a:Int) (a+1) e) (h2:jd ns p e b) (hpa:p<a):jE ns p a b=a :: jE ns p e b:=by
 have l1:=h1.le
 have l2:=h2.le
 rw [nK ns p a (a+1) b (by omega) (by omega),nK ns p (a+1) e b l1 l2,PI ns p a hp,uw ns p (a+1) e (fun k k1 k2 he=>by
  rcases h1.par k ⟨k1,k2⟩ with h | h
  ·omega
  ·omega)]
 rfl
def aen (ns:List aX) (f:Nat) (k:Nat):lS:=.mk (aG ns k).m (aG ns k).comment (eU ns f (k:Int))
theorem Us (ns:List aX) (a:Nat) (h:a<ns.length):ns.take a++[⟨(aG ns a).parent,(aG ns a).m,(aG ns a).comment⟩]=ns.take (a+1):=by
 have e:aG ns a=ns[a]:=by unfold aG; rw [List.getD_eq_getElem?_getD,List.getElem?_eq_getElem h]; rfl
 rw [List.take_succ_eq_append_getElem h,e]
theorem MN {ns:List aX} (hb:Back ns ns.length) {p:Int} {a b:Nat} (h:jd ns p a b):b≤ns.length→p<a→(∀ k,k<ns.length→(a:Int)≤(aG ns k).parent→(aG ns k).parent<b→k<b)→∀ f,b - a≤f→kH ((jE ns p a b).map (aen ns f)) p (ns.take a)=ns.take b:=by
 induction h with
 | nil p a=>intro _ _ _ f _; rw [PG]; rfl
 | cons p a e b hp h1 h2 i1 i2 =>
  intro hbn hpa hsep f hf
  have l1:=h1.le
  have l2:=h2.le
  rw [jd.kids hp h1 h2 hpa,List.map_cons,kH]
  obtain ⟨g,rfl⟩:∃ g,f=g+1:=⟨f - 1,by omega⟩
  have hk:lF ns (a:Int)=jE ns (a:Int) (a+1) e:=ML ns _ _ _ l1 (by omega) (fun k hk he=>by
   have h3:=hb k hk
   have h4:=hsep k hk (by omega) (by omega)
   refine ⟨by omega,?_⟩
   rcases Nat.lt_or_ge k e with h | h
   ·exact h
   ·rcases h2.par k ⟨h,h4⟩ with h5 | h5 <;> omega)
  have hB:wG (aen ns (g+1) a) p (ns.take a)=ns.take e:=by
   unfold aen
   rw [wG,eU,hk]
   have hl:(ns.take a).length=a:=by rw [List.length_take]; omega
   rw [hl,← hp,Us ns a (by omega)]
   refine i1 (by omega) (by omega) (fun k hk q1 q2=>?_) g (by omega)
   have h4:=hsep k hk (by omega) (by omega)
   rcases Nat.lt_or_ge k e with h | h
   ·exact h
   ·rcases h2.par k ⟨h,h4⟩ with h5 | h5 <;> omega
  rw [hB]
  exact i2 hbn (by omega) (fun k hk q1 q2=>hsep k hk (by omega) q2) (g+1) (by omega)
theorem Yh {R:au} {X:iM} (h:dI R X=0):kH (eU X.nodes (X.nodes.length+1) (-1)) (-1) []=X.nodes:=by
 have hb:=(lQ h).2.1.back
 have hlow:=(lQ h).2.1.low
 have hf:=Gt hb (aem h) X.nodes.length (Nat.le_refl _)
 have:=MN hb hf (Nat.le_refl _) (by decide) (fun k hk _ _=>hk) X.nodes.length (by omega)
 rw [List.take_zero,List.take_of_length_le (Nat.le_refl _)] at this
 rw [eU,ML X.nodes (-1) 0 X.nodes.length (Nat.zero_le _) (Nat.le_refl _) (fun k hk _=>⟨Nat.zero_le _,hk⟩)]
 exact this
def lS.mv:lS→aA
 | .mk m _ _=>m
def lS.cm:lS→ByteArray
 | .mk _ c _=>c
def lS.ks:lS→List lS
 | .mk _ _ ks=>ks
mutual
def Ec:List aA→lS→List (List aA)
 | pre,.mk m _ ks=>(pre++[m]) :: jJ (pre++[m]) ks
def jJ:List aA→List lS→List (List aA)
 | _,[]=>[]
 | pre,b :: l=>Ec pre b++jJ pre l
end
theorem Yi (pre:List aA) (b:lS):Ec pre b=(pre++[b.mv]) :: jJ (pre++[b.mv]) b.ks:=by cases b; rw [Ec]; rfl
theorem Gu (pre:List aA):∀ (p l:List lS),jJ pre (p++l)=jJ pre p++jJ pre l
 | [],l=>by rw [jJ]; rfl
 | z :: p,l=>by show jJ pre (z :: (p++l))=_; rw [jJ,jJ,Gu pre p l,List.append_assoc]
mutual
theorem PK:∀ (b:lS) (pre:List aA) (p:Int) (out:List aX),(wG b p out).length=out.length+(Ec pre b).length
 | .mk m c ks,pre,p,out=>by
  rw [wG,uY ks (pre++[m]),Ec]
  simp only [List.length_append,List.length_cons,List.length_nil]
  omega
theorem uY:∀ (l:List lS) (pre:List aA) (p:Int) (out:List aX),(kH l p out).length=out.length+(jJ pre l).length
 | [],pre,p,out=>by rw [kH,jJ]; rfl
 | b :: l,pre,p,out=>by
  rw [kH,uY l pre,PK b pre,jJ,List.length_append]
  omega
end
end Go.Proofs.YteablcielclaeaaGreatDoor

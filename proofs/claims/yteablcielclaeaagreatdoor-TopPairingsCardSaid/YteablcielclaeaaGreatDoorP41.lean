/- slices.SortStableFunc at fewer than 20 rows of a table: they are sorted by insertion alone. -/
import Derived.Test.YteablcielclaeaaGreatDoorP40
namespace Go.Proofs.YteablcielclaeaaGreatDoor
open Go.ChangeShapes Go.WideShapes Go.ChangeAt Go.RowKit Go.Shelf Go.Lib Go.Sort
set_option linter.unusedVariables false
set_option maxHeartbeats 8000000
set_option maxRecDepth 100000
open Go.Lib (hid)
def ak2:Go.Shelf.Ren:=⟨fun x=>if x=20 then 111 else x,fun x=>if x=22 then 36 else if x=24 then 41 else if x=25 then 101 else x,fun x=>x⟩
theorem ap0:SlLaysF0.n20 Tryz.prog ak2 where
 mixed:=by kernel_rfl
 f20:=⟨Tryz.f111.name,by kernel_rfl,by kernel_rfl⟩
 t0:=by kernel_rfl
 a0:=fun w=>by kernel_rfl
 z0:=fun w=>by kernel_rfl
 v0:=fun w=>by kernel_rfl
 t3:=by kernel_rfl
 a3:=fun w=>by kernel_rfl
 z3:=fun w=>by kernel_rfl
 v3:=fun w=>by kernel_rfl
 t4:=by kernel_rfl
 a4:=fun w=>by kernel_rfl
 z4:=fun w=>by kernel_rfl
 v4:=fun w=>by kernel_rfl
 t22:=by kernel_rfl
 a22:=fun w=>by kernel_rfl
 z22:=fun w=>by kernel_rfl
 v22:=fun w=>by kernel_rfl
 t25:=by kernel_rfl
 a25:=fun w=>by kernel_rfl
 z25:=fun w=>by kernel_rfl
 v25:=fun w=>by kernel_rfl
section
variable {α:Type} [Inhabited α] {enc:α→List Value} {k:Nat} {w0 W:World} {blk off:Nat} {d d0:Array α} {cf:α→α→Int}
theorem VW {P:Program} {g:Nat} {cb:Array Value} (S:SWK enc k w0 blk off d W) (hblk:blk<w0.heap.size) (hC:CmpLays P g cb enc k cf blk off d0.size w0) (hs:d.size=d0.size):CmpLays P g cb enc k cf blk off d.size W:=by
 intro m os dk hdk x y
 have h:=(S.on hblk m dk os hdk).cmp hC (by omega) x y 0 #[]
 rw [grow_empty] at h
 exact h
theorem ins_any (hk:∀ x,(enc x).length=8) (cap:Nat) (cb:Array Value) (g:Nat) (hC:CmpLays Tryz.prog g cb enc 8 cf blk off d0.size w0) (eg:∀ args w,(callFunc g args).run Tryz.prog w=.ok (.enter g args) w) (hS:SWO (ltOf cf)) (R:RowK enc 8 w0 blk off d0) (hs:d0.size=d.size) (S:SWK enc 8 w0 blk off d W) (a b:Nat) (hab:a≤b) (hb:b≤d.size) (hsz:d.size<4611686018427387904) :
  Calls Tryz.prog 111 #[.slice (some ⟨blk,off,none⟩) d.size cap,.int .i64 a,.int .i64 b,.func (.func g) #[] cb] W (zy d (ltOf cf) a b enc 8 w0 blk off):=by
 have h:=AnyQ.insertionSortCmpFunc ap0 8 (fun w=>by kernel_rfl) (fun w=>by kernel_rfl) enc hk R.h1 cf g cb blk off cap a b d W eg (VW S R.hblk hC hs.symm) (S.holds R.hblk R.hH hs.symm) (S.lt R.hblk) hab hb hsz
 have hf:ak2.f 20=111:=rfl
 rw [hf] at h
 refine h.mono ?_
 rintro e w' ⟨rfl,n,os,rfl⟩
 have hi:=insertionSort_holds hS d a b hab hb
 exact ⟨rfl,_,S.on R.hblk n _ os hi.1.1,hi.1.1,hi.1,hi.2⟩
end
variable {α:Type} [Inhabited α] {k:Nat} {enc:α→List Value} {blk off:Nat} {d0:Array α} {w0:World} {cf:α→α→Int}
def InsSaid (P:Program) {α:Type} [Inhabited α] (k:Nat) (enc:α→List Value) (blk off:Nat) (w0:World) (cf:α→α→Int) (g:Nat) (cb:Array Value) (cap n:Nat):Prop:=
 ∀ (d:Array α) (w:World) (az bz:Int) (a b:Nat),az=a→bz=b→d.size=n→SWK enc k w0 blk off d w→a≤b→b≤n →
  Calls P 111 #[.slice (some ⟨blk,off,none⟩) n cap,.int .i64 az,.int .i64 bz,.func (.func g) #[] cb] w (zy d (ltOf cf) a b enc k w0 blk off)
theorem Rj (g:Nat) (cb:Array Value) (cap:Nat) (n:Nat) (d:Array α) (w:World) (HI:InsSaid Tryz.prog k enc blk off w0 cf g cb cap n) (hdn:d.size=n) (hn:n<20) (S:SWK enc k w0 blk off d w) :
  Calls Tryz.prog 67 #[.slice (some ⟨blk,off,none⟩) n cap,.int .i64 n,.func (.func g) #[] cb] w (zy d (ltOf cf) 0 n enc k w0 blk off):=by
 have HIn:=hid HI
 have S0:=hid S
 have HDN:=hid hdn
 have hltz:¬ (20:Int)≤(n:Int):=by omega
 have hlt2:¬ (20:Int)<(n:Int):=by omega
 clear S HI hdn
 go_enter Tryz.func67,Tryz.ntmps67
 go_wp2_with fail
 go_loopw [7,8] (fun s7 s8 wr=>s7=.int .i64 0∧s8=.int .i64 20∧w=wr) (fun _ _ _=>0)
 case atStart=>exact ⟨rfl,rfl,rfl⟩
 case round =>
  obtain ⟨rfl,rfl,rfl⟩:=hrel
  go_upto_region 7 with (go_at_call 111; refine (HIn.out d w 0 n 0 n (by simp) rfl HDN.out S0.out (Nat.zero_le _) (Nat.le_refl _)).mono ?_; rintro e' w' ⟨rfl,d1,S2',z1,p1,s1⟩)
  have HF:=hid (show zy d (ltOf cf) 0 n enc k w0 blk off (.returned (.tuple #[])) w' from ⟨rfl,d1,S2',z1,p1,s1⟩)
  clear S2' z1 p1 s1
  go_wp2_with fail
  go_loopw [6] (fun s6 wr=>s6=.int .i64 20∧w'=wr) (fun _ _=>0)
  case atStart=>exact ⟨rfl,rfl⟩
  case round =>
   obtain ⟨rfl,rfl⟩:=hrel
   go_wp2_with fail
   first | go_end0 | go_ret
   exact HF.out
theorem aaL (g:Nat) (cb:Array Value) (cap:Nat) (n:Nat) (d:Array α) (w:World) (HI:InsSaid Tryz.prog k enc blk off w0 cf g cb cap n) (hdn:d.size=n) (hn:n<20) (S:SWK enc k w0 blk off d w) :
  Calls Tryz.prog 27 #[.slice (some ⟨blk,off,none⟩) n cap,.func (.func g) #[] cb] w (zy d (ltOf cf) 0 n enc k w0 blk off):=by
 have Gi:=hid (Rj g cb cap n d w HI hdn hn S)
 clear S HI
 go_enter Tryz.func27,Tryz.ntmps27
 go_wp2_with (go_at_call 67; refine Gi.out.mono ?_; rintro e' w' ⟨rfl,h⟩)
 first | go_end0 | go_ret
 exact ⟨rfl,h⟩
theorem EW:SortRowsSaid:=by
 intro base g cap rs w h1 h32 hown
 have hlt:g<w.heap.size:=(hown.lt g rfl).2
 have R:RowK encR 8 w g 0 rs.toArray:=⟨fun _=>rfl,Nc,Hq hown,hlt⟩
 have S:=SWK.start (Hq hown)
 have hC:CmpLays Tryz.prog 28 #[] encR 8 BJ g 0 rs.toArray.size w:=fun m os dk _ x y=>by
  have:=Hf x y (sortWorldK encR 8 w g 0 m dk os)
  simpa using this
 have eg:∀ args w,(callFunc 28 args).run Tryz.prog w=.ok (.enter 28 args) w:=enters_of Tryz.func28 (by kernel_rfl) rfl
 have hsz:rs.toArray.size=rs.length:=by simp
 have HI:InsSaid Tryz.prog 8 encR g 0 w BJ 28 #[] cap rs.length:=fun d w1 az bz a b ha hb hd S1 hab hbn=>by
  subst ha; subst hb
  rw [← hd]
  exact ins_any (fun _=>rfl) cap #[] _ hC eg SI R (by rw [hsz,hd]) S1 a b hab (by omega) (by omega)
 refine (aaL _ #[] cap rs.length rs.toArray w HI hsz h32 S).mono ?_
 rintro e w' ⟨rfl,d',⟨n,os,rfl⟩,hz,hp,hs⟩
 obtain ⟨ts,rfl⟩:∃ ts:List dU,d'=ts.toArray:=⟨d'.toList,by simp⟩
 have hl:ts.length=rs.length:=by simpa using hz
 have hperm:ts.Perm rs:=by
  have:=hp.2.2
  simpa [List.take_of_length_le (Nat.le_of_eq hl),hl] using this
 obtain ⟨o1,o2⟩:=acF (n:=n) (os:=os) hown hl
 refine ⟨rfl,ts,hl,hperm,fun i j hi hj hij=>?_,o1,o2⟩
 have:=hs i j (Nat.zero_le _) hij (by omega)
 rwa [getElem!_pos ts.toArray j (by simpa using hj),getElem!_pos ts.toArray i (by simpa using hi)] at this
end Go.Proofs.YteablcielclaeaaGreatDoor

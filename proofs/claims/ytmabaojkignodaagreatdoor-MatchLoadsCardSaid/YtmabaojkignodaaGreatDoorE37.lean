/- The shelf's contracts, as the walks take them; the table and the variable that the library reads, out of the row's condition and the world's shape. -/
import Derived.Test.YtmabaojkignodaaGreatDoorE34
import Derived.Test.YtmabaojkignodaaGreatDoorE35
import Derived.Test.YtmabaojkignodaaGreatDoorE36
import Derived.Shelf.Vars
import Derived.Stop.Joined
namespace Go.Proofs.YtmabaojkignodaaGreatDoor
open Go.ChangeShapes Go.WideShapes Go.ChangeAt Go.RowKit
set_option linter.unusedVariables false
theorem IJ {W:World} (h:laidMetH Tryz.prog Rows.refereeLegalRow.laid W):Tab W.heap.size W:=by
 have h':=h
 rw [MakeChecks.laidMetH_plain _ _ _ (by kernel_rfl)] at h'
 have h2:laidMet Tryz.prog (("math/bits.deBruijn32tab",Rows.laid_math_bits_deBruijn32tab) :: ("math/bits.deBruijn64tab",Rows.laid_math_bits_deBruijn64tab) :: ("internal/strconv.uint64pow10",Rows.laid_internal_strconv_uint64pow10) :: Rows.refereeLegalRow.laid.drop 3) W:=h'
 have hg:Tryz.prog.globalNamed "internal/strconv.uint64pow10" = some 0:=by kernel_rfl
 have ht:Lib.TabIs Tryz.prog W "internal/strconv.uint64pow10" .u64 Lib.pow10Tab:=
  Lib.tabIs_of_head hg (t:=300) (e:=129) (n:=20) (by kernel_rfl) (by kernel_rfl) (by kernel_rfl) (by kernel_rfl) (by kernel_rfl) h2.tail.tail
 refine ⟨ht,fun g hg'=>?_⟩
 obtain rfl:=Option.some.inj (hg.symm.trans hg')
 exact World.block_lt_of_cell? W ⟨0,0,none⟩ (ht.cell hg 0 (by decide))
theorem Dc {W:World} (h:W.ShapedOpen Tryz.prog):LY W.heap.size W:=by
 obtain ⟨m,hm⟩:=cell_of_shapedOpen_int (P:=Tryz.prog) (g:=3) (t:=3) (zero:=#[.int .i64 0]) (k:=.i64) h (of_decide_eq_true (by kernel_rfl)) (by kernel_rfl) rfl (by kernel_rfl) (by kernel_rfl) Tryz.underlying3
 exact ⟨3,m,by kernel_rfl,World.block_lt_of_cell? W ⟨3,0,none⟩ hm,hm⟩
theorem KW:ItoaSaid:=fun n w h0 h1 ht=>(Tryz.strconv_Itoa n h0 h1 w ht).mono fun e w2 ⟨he,k,os,hw⟩=>⟨he,by rw [hw]; exact ⟨rfl,rfl,rfl,by simp [Sort.grow,World.drewN],fun j hj=>by simp [Sort.grow,World.drewN,Array.getElem?_append,hj]⟩⟩
theorem join_le (sep:List UInt8) (hs:sep.length≤1000):∀ (xs:List (List UInt8)),(∀ x∈xs,x.length≤1000000)→(Lib.join xs sep).length≤1001000 * xs.length
 | [],_=>by simp [Lib.join,List.intercalate]
 | [x],h=>by have:=h x (by simp); simp [Lib.join,List.intercalate]; omega
 | x :: y :: t,h=>by
  have ih:=join_le sep hs (y :: t) (fun z hz=>h z (by simp only [List.mem_cons] at hz ⊢; exact .inr hz))
  have:=h x (by simp)
  have e:Lib.join (x :: y :: t) sep=x++(sep++Lib.join (y :: t) sep):=by simp [Lib.join,List.intercalate]
  rw [e,List.length_append,List.length_append]
  simp only [List.length_cons] at ih ⊢
  omega
theorem KZ:sO:=by
 intro base v xs sep w ho hl hx hs
 cases xs with
 | nil =>
  obtain ⟨a,c,rfl⟩:=aI ho
  exact (Tryz.strings_Join_none a c sep w).mono fun e w' ⟨he,hw⟩=>⟨he,hw ▸ Below.refl _ _⟩
 | cons x t =>
  have hrd:=Rd.fD ho
  obtain ⟨g,c,rfl⟩:=iq ho (by simp)
  have hcap:(x :: t).length≤c:=by
   obtain ⟨-,h⟩:=hrd
   rcases h with ⟨h,-⟩ | ⟨g',o',c',h1,h2,-⟩
   ·simp at h
   ·simp only [Value.slice.injEq] at h1
    omega
  have hsz:=join_le sep.data.toList (by rw [Array.length_toList]; exact hs) ((x :: t).map (·.data.toList)) (fun z hz=>by
   obtain ⟨y,hy,rfl⟩:=List.mem_map.1 hz
   rw [Array.length_toList]
   exact hx y hy)
  rw [List.length_map] at hsz
  refine (Tryz.strings_Join g 0 c (x :: t) sep w ?_ (ho.lt g rfl).2 (by omega) hcap (by omega)).mono fun e w' ⟨he,hb⟩=>⟨he,hb⟩
  intro j y hj
  have hjl:j<(x :: t).length:=(List.getElem?_eq_some_iff.1 hj).1
  have:=ho.cellAt j (by omega)
  rw [Nat.zero_add,this]
  unfold nN
  rw [List.getElem?_map,hj]; rfl
theorem IK:SplitSaid:=by
 intro s w hs hM
 obtain ⟨g,m,hg,-,hm⟩:=hM
 have h0:Tryz.prog.globalNamed "internal/bytealg.MaxLen" = some 3:=by kernel_rfl
 obtain rfl:g=3:=(Option.some.inj (h0.symm.trans hg)).symm
 refine (Tryz.strings_Split s Ot m w (by omega) hm (by decide)).mono fun e w' ⟨he,hw⟩=>⟨_,he,?_,?_⟩
 ·have hlen:=Lib.splitB_all Ot (by decide) 0 _ s rfl
  rw [hw,hlen]
  refine ⟨by unfold nN; rw [List.length_map,hlen,Nat.mul_one],.inr ⟨w.heap.size,Lib.countB s Ot+1,(nN (Lib.splitB Ot 0 (Lib.countB s Ot) s)).toArray,rfl,Nat.le_refl _,Box.new w _ _,Nat.le_refl _,?_,?_,?_⟩⟩
  ·have:=Lib.countB_le Ot (by decide) s.size s (Nat.le_refl _); unfold maxLen; omega
  ·simp [nN,hlen]
  ·simp [nN,hlen]
   exact List.take_of_length_le (by simp [hlen])
 ·rw [hw]; exact (Below.refl _ _).alloc (Nat.le_refl _) _
theorem Fz {w:World} {t:TypeId} {l:ByteArray}:Below w.heap.size w (Lib.bytesWorld w t l):=⟨rfl,rfl,rfl,by rw [Lib.bytesWorld_size]; omega,fun j hj=>Lib.bytesWorld_at_old w t l j hj⟩
theorem La:AtoiSaid:=fun s n w hs h=>(Tryz.strconv_Atoi_ok s (by omega) n h w).mono fun e w' ⟨he,hw⟩=>⟨he,by
 rcases hw with hw | ⟨t,hw⟩
 ·rw [hw]; exact Below.refl _ _
 ·rw [hw]; exact Fz⟩
theorem Lc:CutPSaid:=fun s p w=>(Tryz.strings_CutPrefix s p w).mono fun e w' ⟨he,hw⟩=>⟨he,hw ▸ Below.refl _ _⟩
theorem OE:LdS:=⟨Fp,KW,KZ,La,IK,Lc⟩
end Go.Proofs.YtmabaojkignodaaGreatDoor

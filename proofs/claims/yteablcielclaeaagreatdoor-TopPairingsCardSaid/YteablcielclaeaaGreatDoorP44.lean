/- The shelf's contracts, as the walks take them; the table that the library reads, out of the row's condition. -/
import Derived.Test.YteablcielclaeaaGreatDoorP42
import Derived.Test.YteablcielclaeaaGreatDoorP41
import Derived.Test.YteablcielclaeaaGreatDoorP43
import Derived.LaidMore
import Derived.Shelf.Vars
import Derived.Stop.LaidErr
import Derived.Stop.Joined
namespace Go.Proofs.YteablcielclaeaaGreatDoor
open Go.ChangeShapes Go.WideShapes Go.ChangeAt Go.RowKit
set_option linter.unusedVariables false
theorem Oi {W:World} (h:laidMetH Tryz.prog Rows.topRatingsRow.laid W):Tab W.heap.size W:=by
 have h':=h
 rw [MakeChecks.laidMetH_plain _ _ _ (by kernel_rfl)] at h'
 have h2:laidMet Tryz.prog (("math/bits.deBruijn32tab",Rows.laid_math_bits_deBruijn32tab) :: ("math/bits.deBruijn64tab",Rows.laid_math_bits_deBruijn64tab) :: ("internal/strconv.uint64pow10",Rows.laid_internal_strconv_uint64pow10) :: Rows.topRatingsRow.laid.drop 3) W:=h'
 have hg:Tryz.prog.globalNamed "internal/strconv.uint64pow10" = some 0:=by kernel_rfl
 have ht:Lib.TabIs Tryz.prog W "internal/strconv.uint64pow10" .u64 Lib.pow10Tab:=
  Lib.tabIs_of_head hg (t:=295) (e:=203) (n:=20) (by kernel_rfl) (by kernel_rfl) (by kernel_rfl) (by kernel_rfl) (by kernel_rfl) h2.tail.tail
 refine ⟨ht,fun g hg'=>?_⟩
 obtain rfl:=Option.some.inj (hg.symm.trans hg')
 exact World.block_lt_of_cell? W ⟨0,0,none⟩ (ht.cell hg 0 (by decide))
theorem Rk:ItoaSaid:=fun n w h0 h1 ht=>(Tryz.strconv_Itoa n h0 h1 w ht).mono fun e w2 ⟨he,k,os,hw⟩=>⟨he,by rw [hw]; exact ⟨rfl,rfl,rfl,by simp [Sort.grow,World.drewN],fun j hj=>by simp [Sort.grow,World.drewN,Array.getElem?_append,hj]⟩⟩
theorem join_le (sep:List UInt8) (hs:sep.length≤1000):∀ (xs:List (List UInt8)),(∀ x∈xs,x.length≤1000000)→(Lib.join xs sep).length≤1001000 * xs.length
 | [],_=>by simp [Lib.join,List.intercalate]
 | [x],h=>by have:=h x (by simp); simp [Lib.join,List.intercalate]; omega
 | x :: y :: t,h=>by
  have ih:=join_le sep hs (y :: t) (fun z hz=>h z (by simp only [List.mem_cons] at hz ⊢; exact .inr hz))
  have:=h x (by simp)
  have e:Lib.join (x :: y :: t) sep=x++(sep++Lib.join (y :: t) sep):=by simp [Lib.join,List.intercalate]
  rw [e,List.length_append,List.length_append]
  simp only [List.length_cons] at ih ⊢
  omega
theorem Rl:qG:=by
 intro base v xs sep w ho hl hx hs
 cases xs with
 | nil =>
  obtain ⟨a,c,rfl⟩:=aG ho
  exact (Tryz.strings_Join_none a c sep w).mono fun e w' ⟨he,hw⟩=>⟨he,hw ▸ Below.refl _ _⟩
 | cons x t =>
  have hrd:=Rd.dB ho
  obtain ⟨g,c,rfl⟩:=dY ho (by simp)
  have hcap:(x :: t).length≤c:=by
   obtain ⟨-,h⟩:=hrd
   rcases h with ⟨h,-⟩ | ⟨g',o',c',h1,h2,-⟩
   ·simp at h
   ·simp only [Value.slice.injEq] at h1
    omega
  have hsz:=join_le sep.data.toList (by rw [Array.length_toList]; exact hs) ((x :: t).map (·.data.toList)) (fun z hz=>by
   obtain ⟨y,hy,rfl⟩:=List.mem_map.1 hz
   rw [Array.length_toList]
   exact hx y hy)
  rw [List.length_map] at hsz
  refine (Tryz.strings_Join g 0 c (x :: t) sep w ?_ (ho.lt g rfl).2 (by omega) hcap (by omega)).mono fun e w' ⟨he,hb⟩=>⟨he,hb⟩
  intro j y hj
  have hjl:j<(x :: t).length:=(List.getElem?_eq_some_iff.1 hj).1
  have:=ho.cellAt j (by omega)
  rw [Nat.zero_add,this]
  unfold yL
  rw [List.getElem?_map,hj]; rfl
theorem Ar:∀ l:List tN,Lib.join l [32]=qI l
 | []=>rfl
 | [x]=>by simp [Lib.join,List.intercalate,qI]
 | x :: y :: l=>by
  have ih:=Ar (y :: l)
  have e:Lib.join (x :: y :: l) [32]=x++([32]++Lib.join (y :: l) [32]):=by simp [Lib.join,List.intercalate]
  rw [e,ih]; rfl
theorem aaM:∀ (l:List tN),(∀ x∈l,x.length≤1000000)→tot l≤1000001 * l.length
 | [],_=>Nat.le_refl _
 | x :: l,h=>by
  have h1:=h x (List.mem_cons_self ..)
  have h2:=aaM l (fun y hy=>h y (List.mem_cons_of_mem _ hy))
  rw [Ef,List.length_cons]; omega
theorem Oj:Ae:=by
 intro base v xs w ho hl hx
 cases xs with
 | nil =>
  obtain ⟨a,c,rfl⟩:=aG ho
  exact (Tryz.strings_Join_none a c ⟨#[32]⟩ w).mono fun e w' ⟨he,hw⟩=>⟨he,hw ▸ Below.refl _ _⟩
 | cons x t =>
  have hrd:=Rd.dB ho
  obtain ⟨g,c,rfl⟩:=dY ho (by simp)
  have hcap:(x :: t).length≤c:=by
   obtain ⟨-,h⟩:=hrd
   rcases h with ⟨h,-⟩ | ⟨g',o',c',h1,h2,-⟩
   ·simp at h
   ·simp only [Value.slice.injEq] at h1
    omega
  have hmm:((x :: t).map bs).map (·.data.toList)=x :: t:=by
   rw [List.map_map]
   have:(fun (y:ByteArray)=>y.data.toList) ∘ bs=id:=by funext y; simp [bs]
   rw [this,List.map_id]
  have hjl:(Lib.join (((x :: t).map bs).map (·.data.toList)) (⟨#[32]⟩:ByteArray).data.toList).length≤140737488355328:=by
   rw [hmm]
   show (Lib.join (x :: t) [32]).length≤_
   rw [Ar]
   have h1:=GV (x :: t)
   have h2:=aaM (x :: t) hx
   omega
  have hj:=Tryz.strings_Join g 0 c ((x :: t).map bs) ⟨#[32]⟩ w (fun j y hj=>by
   rw [List.getElem?_map] at hj
   have:=ho.cellAt j (by
    have:=(List.getElem?_eq_some_iff.1 (Option.map_eq_some_iff.1 hj).choose_spec.1).1
    rw [Nat.mul_one]; exact this)
   rw [Nat.zero_add,this]
   unfold iR
   rw [List.getElem?_map]
   obtain ⟨z,hz,rfl⟩:=Option.map_eq_some_iff.1 hj
   rw [hz]; rfl) (ho.lt g rfl).2 (by rw [List.length_map]; omega) (by rw [List.length_map]; exact hcap) hjl
  rw [List.length_map,hmm] at hj
  refine hj.mono fun e w' ⟨he,hb⟩=>⟨?_,hb⟩
  rw [he]
  show Ending.returned (.string ⟨(Lib.join (x :: t) [32]).toArray⟩)=_
  rw [Ar]; rfl
theorem write_holds:WriteSaid:=fun B b l s w h hl hB=>by
 have hc:Lib.byteCells (l++bt s)=Lib.byteCells l++Lib.strCells s:=by rw [Lib.byteCells_append]; rfl
 exact (Any.Builder_WriteString { Tryz.lays156 with } Tryz.Builder_Extra_156 B b (Lib.byteCells l) s w h (by rw [Lib.byteCells_length]; omega) hB).mono fun e w' ⟨he,h1,hb⟩=>⟨he,.inr (by rw [hc]; exact h1),hb⟩
theorem len_holds:LenSaid:=fun B b l w h=>(Tryz.Builder_Len B b (Lib.byteCells l) w h).mono fun e w' ⟨he,hw⟩=>⟨by rw [he,Lib.byteCells_length],hw⟩
theorem JO:StringSaid:=fun B b l w h hB=>(Tryz.Builder_String_any B b l w h hB).mono fun e w' ⟨he,hb⟩=>⟨he,hb⟩
theorem Rn:afr:=⟨JM,Rk,Rl,Oj,write_holds,len_holds,JO⟩
end Go.Proofs.YteablcielclaeaaGreatDoor

/- The shelf's contracts, as the reader's and the writer's walks take them. -/
import Derived.Test.YthklhndcdijneaaGreatDoorC35
import Derived.Test.YthklhndcdijneaaGreatDoorC38
import Derived.Laws.RangeAny
namespace Go.Proofs.YthklhndcdijneaaGreatDoor
open Go.ChangeShapes Go.WideShapes Go.ChangeAt Go.RowKit
set_option linter.unusedVariables false
theorem trim_holds : TrimSaid := fun s w =>
 (Tryz.strings_TrimLeft_laid s ⟨#[32, 10]⟩ w (by decide) (by
  intro j b hj
  rcases j with _ | _ | j
  ·obtain rfl := Option.some.inj hj; decide
  ·obtain rfl := Option.some.inj hj; decide
  ·cases hj)).mono fun e w' ⟨he, hb⟩ => ⟨by rw [he]; show Ending.returned (.string ⟨(Lib.trimLeftS (bt s) [32, 10]).toArray⟩) = _; rw [trim_blank]; rfl, hb⟩
theorem below_drewAll {w : World} : ∀ n, Below w.heap.size w (w.drewN n) := fun n => below_drewN (Below.refl _ _) n
theorem cut_holds : CutSaid := by
 intro s sep w hs hM
 obtain ⟨g, m, hg, -, hm⟩ := hM
 have h0 : Tryz.prog.globalNamed "internal/bytealg.MaxLen" = some 0 := by kernel_rfl
 obtain rfl : g = 0 := (Option.some.inj (h0.symm.trans hg)).symm
 refine (Tryz.strings_Cut s sep m w (by omega) hm).mono fun e w' ⟨he, n, hw⟩ => ⟨he, hw ▸ below_drewAll n⟩
theorem clone_holds : CloneSaid := by
 intro s w hs
 go_enter Tryz.func76, Tryz.ntmps76
 go_wp2_with fail
 refine (Tryz.stringslite_Clone s w (by omega)).mono ?_
 rintro e w1 ⟨rfl, hb⟩
 go_wp2_with fail
 go_ret
 exact ⟨rfl, hb⟩
theorem joinB_lib : ∀ l : List Byt, Lib.join l [32] = joinB l
 | [] => rfl
 | [x] => by simp [Lib.join, List.intercalate, joinB]
 | x :: y :: l => by
  have ih := joinB_lib (y :: l)
  have e : Lib.join (x :: y :: l) [32] = x ++ ([32] ++ Lib.join (y :: l) [32]) := by simp [Lib.join, List.intercalate]
  rw [e, ih]; rfl
theorem tot_le : ∀ (l : List Byt), (∀ x ∈ l, x.length ≤ 1000000) → tot l ≤ 1000001 * l.length
 | [], _ => Nat.le_refl _
 | x :: l, h => by
  have h1 := h x (List.mem_cons_self ..)
  have h2 := tot_le l (fun y hy => h y (List.mem_cons_of_mem _ hy))
  rw [tot_cons, List.length_cons]; omega
theorem joinb_holds : JoinSaidB := by
 intro base v xs w ho hl hx
 cases xs with
 | nil =>
  obtain ⟨a, c, rfl⟩ := own_form2 ho
  exact (Tryz.strings_Join_none a c ⟨#[32]⟩ w).mono fun e w' ⟨he, hw⟩ => ⟨he, hw ▸ Below.refl _ _⟩
 | cons x t =>
  have hrd := Rd.of_own ho
  obtain ⟨g, c, rfl⟩ := own_some ho (by simp)
  have hcap : (x :: t).length ≤ c := by
   obtain ⟨-, h⟩ := hrd
   rcases h with ⟨h, -⟩ | ⟨g', o', c', h1, h2, -⟩
   ·simp at h
   ·simp only [Value.slice.injEq] at h1
    omega
  have hmm : ((x :: t).map bs).map (·.data.toList) = x :: t := by
   rw [List.map_map]
   have : (fun (y : ByteArray) => y.data.toList) ∘ bs = id := by funext y; simp [bs]
   rw [this, List.map_id]
  have hjl : (Lib.join (((x :: t).map bs).map (·.data.toList)) (⟨#[32]⟩ : ByteArray).data.toList).length ≤ 140737488355328 := by
   rw [hmm]
   show (Lib.join (x :: t) [32]).length ≤ _
   rw [joinB_lib]
   have h1 := joinB_len (x :: t)
   have h2 := tot_le (x :: t) hx
   omega
  have hj := Tryz.strings_Join g 0 c ((x :: t).map bs) ⟨#[32]⟩ w (fun j y hj => by
   rw [List.getElem?_map] at hj
   have := ho.cellAt j (by
    have := (List.getElem?_eq_some_iff.1 (Option.map_eq_some_iff.1 hj).choose_spec.1).1
    rw [Nat.mul_one]; exact this)
   rw [Nat.zero_add, this]
   unfold strsB
   rw [List.getElem?_map]
   obtain ⟨z, hz, rfl⟩ := Option.map_eq_some_iff.1 hj
   rw [hz]; rfl) (ho.lt g rfl).2 (by rw [List.length_map]; omega) (by rw [List.length_map]; exact hcap) hjl
  rw [List.length_map, hmm] at hj
  refine hj.mono fun e w' ⟨he, hb⟩ => ⟨?_, hb⟩
  rw [he]
  show Ending.returned (.string ⟨(Lib.join (x :: t) [32]).toArray⟩) = _
  rw [joinB_lib]; rfl
theorem write_holds : WriteSaid := fun B b l s w h hl hB => by
 have hc : Lib.byteCells (l ++ bt s) = Lib.byteCells l ++ Lib.strCells s := by rw [Lib.byteCells_append]; rfl
 exact (Any.Builder_WriteString { Tryz.lays156 with } Tryz.Builder_Extra_156 B b (Lib.byteCells l) s w h (by rw [Lib.byteCells_length]; omega) hB).mono fun e w' ⟨he, h1, hb⟩ => ⟨he, .inr (by rw [hc]; exact h1), hb⟩
theorem len_holds : LenSaid := fun B b l w h => (Tryz.Builder_Len B b (Lib.byteCells l) w h).mono fun e w' ⟨he, hw⟩ => ⟨by rw [he, Lib.byteCells_length], hw⟩
theorem string_holds : StringSaid := fun B b l w h hB => (Tryz.Builder_String_any B b l w h hB).mono fun e w' ⟨he, hb⟩ => ⟨he, hb⟩
end Go.Proofs.YthklhndcdijneaaGreatDoor

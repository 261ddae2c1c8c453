/- The shelf's contracts, as the journal's walks take them; the table and the variable that the library reads, out of the row's condition and the world's shape. -/
import Derived.Test.YtmobangdckiffaaDoorC04
import Derived.Test.YtmobangdckiffaaDoorC05
import Derived.Test.YtmobangdckiffaaDoorRows
import Derived.Lib.LaidTab
import Derived.LaidMore
import Derived.Shelf.Vars
import Derived.Stop.LaidErr
import Derived.Stop.Joined
namespace Go.Proofs.YtmobangdckiffaaDoor
open Go.ChangeShapes Go.WideShapes Go.ChangeAt Go.RowKit
set_option linter.unusedVariables false
theorem hex_mem {c : UInt8} (h : isHex c = true) : digHB.data.toList.contains c = true := by
 have : ∀ n : Fin 256, isHex (UInt8.ofNat n.val) = true → digHB.data.toList.contains (UInt8.ofNat n.val) = true := by decide +kernel
 have e : UInt8.ofNat c.toNat = c := UInt8.ofNat_toNat
 have := this ⟨c.toNat, c.toNat_lt⟩
 simp only [e] at this
 exact this h
theorem drop_all {l cs : Byj} (h : ∀ c ∈ l, cs.contains c = true) : l.dropWhile (cs.contains ·) = [] := by
 induction l with
 | nil => rfl
 | cons x t ih => rw [List.dropWhile_cons_of_pos (h x (List.mem_cons_self ..))]; exact ih fun c hc => h c (List.mem_cons_of_mem _ hc)
theorem trim_all {l cs : Byj} (h : ∀ c ∈ l, cs.contains c = true) : Lib.trimS l cs = [] := by
 have h1 : Lib.trimRightS l cs = [] := by
  unfold Lib.trimRightS
  rw [drop_all (fun c hc => h c (List.mem_reverse.1 hc))]; rfl
 unfold Lib.trimS
 rw [h1]; rfl
theorem trimj_holds : TrimJ := fun s w hs hx =>
 (Tryd.strings_Trim_laid s digHB w (by omega) (by decide) (ascii_of_all (by decide))).mono fun e w' ⟨he, hb⟩ => ⟨by rw [he, trim_all (fun c hc => hex_mem (hx c hc))], hb⟩
theorem drewAllJ {w : World} : ∀ n, Below w.heap.size w (w.drewN n) := fun n => below_drewN (Below.refl _ _) n
theorem cutj_holds : CutJ := by
 intro l w hs hM
 obtain ⟨g, m, hg, -, hm⟩ := hM
 have h0 : Tryd.prog.globalNamed "internal/bytealg.MaxLen" = some 1 := by kernel_rfl
 obtain rfl : g = 1 := (Option.some.inj (h0.symm.trans hg)).symm
 refine (Tryd.strings_Cut (sj l) ⟨#[10]⟩ m w (by rw [sj_size]; omega) hm).mono fun e w' ⟨he, n, hw⟩ => ⟨?_, hw ▸ drewAllJ n⟩
 rw [he]; rfl
theorem clonej_holds : CloneJ := by
 intro s w hs
 go_enter Tryd.func34, Tryd.ntmps34
 go_wp2_with fail
 refine (Tryd.stringslite_Clone s w (by omega)).mono ?_
 rintro e w1 ⟨rfl, hb⟩
 go_wp2_with fail
 go_ret
 exact ⟨rfl, hb⟩
theorem rep_zeros : ∀ n, Lib.repeatL [48] n = List.replicate n (48 : UInt8)
 | 0 => rfl
 | n + 1 => by rw [Lib.repeatL, rep_zeros n, List.replicate_succ]; rfl
theorem repj_holds : RepJ := fun n w hn =>
 (Tryd.strings_Repeat ⟨#[48]⟩ n w (by omega) (by show 1 * n ≤ _; omega)).mono fun e w' ⟨he, hb⟩ => ⟨by
  rw [he]
  show Ending.returned (.string ⟨(Lib.repeatL [48] n).toArray⟩) = _
  rw [rep_zeros]; rfl, hb⟩
theorem writej_holds : WriteJ := fun B b l s w h hl hB => by
 have hc : Lib.byteCells (l ++ bj s) = Lib.byteCells l ++ Lib.strCells s := by rw [Lib.byteCells_append]; rfl
 exact (Any.Builder_WriteString { Tryd.lays105 with } Tryd.Builder_Extra_105 B b (Lib.byteCells l) s w h (by rw [Lib.byteCells_length]; omega) hB).mono fun e w' ⟨he, h1, hb⟩ => ⟨he, .inr (by rw [hc]; exact h1), hb⟩
theorem stringj_holds : StringJ := fun B b l w h hB => (Tryd.Builder_String_any B b l w h hB).mono fun e w' ⟨he, hb⟩ => ⟨he, hb⟩
def tzTab : List Int := [0,1,56,2,57,49,28,3,61,58,42,50,38,29,17,4,62,47,59,36,45,43,51,22,53,39,33,30,24,18,12,5,63,55,48,27,60,41,37,16,46,35,44,21,52,32,23,11,54,26,40,15,34,20,31,10,25,14,19,9,13,8,7,6]
theorem tz_of_laid {W : World} (h : laidMetH Tryd.prog Rows.journalCutRow.laid W) : Tz W.heap.size W := by
 have h' := h
 rw [MakeChecks.laidMetH_plain _ _ _ (by kernel_rfl)] at h'
 have h2 : laidMet Tryd.prog (("math/bits.deBruijn32tab", Rows.laid_math_bits_deBruijn32tab) :: ("math/bits.deBruijn64tab", Rows.laid_math_bits_deBruijn64tab) :: Rows.journalCutRow.laid.drop 2) W := h'
 have hg : Tryd.prog.globalNamed "math/bits.deBruijn64tab" = some 5 := by kernel_rfl
 have ht : Lib.TabIs Tryd.prog W "math/bits.deBruijn64tab" .u8 tzTab :=
  Lib.tabIs_of_head hg (t := 122) (e := 5) (n := 64) (by kernel_rfl) (by kernel_rfl) (by kernel_rfl) (by kernel_rfl) (by kernel_rfl) h2.tail
 have hc := ht.cell hg 15 (by decide)
 exact ⟨5, hg, World.block_lt_of_cell? W ⟨5, 15, none⟩ hc, hc⟩
theorem mxj_of_shaped {W : World} (h : W.ShapedOpen Tryd.prog) : MxJ W.heap.size W := by
 obtain ⟨m, hm⟩ := cell_of_shapedOpen_int (P := Tryd.prog) (g := 1) (t := 3) (zero := #[.int .i64 0]) (k := .i64) h (of_decide_eq_true (by kernel_rfl)) (by kernel_rfl) rfl (by kernel_rfl) (by kernel_rfl) Tryd.underlying3
 exact ⟨1, m, by kernel_rfl, World.block_lt_of_cell? W ⟨1, 0, none⟩ hm, hm⟩
end Go.Proofs.YtmobangdckiffaaDoor

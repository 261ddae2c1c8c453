/- The contracts of journal.Check, slices.Clone at entries, journal.Append, slices.Equal at entries and journal.Extends. -/
import Derived.Test.YtomjjbhdpaegkaaJouGood
namespace Go.Proofs.Ytomjjbhdpaegkaa
open Go.ChangeShapes Go.WideShapes Go.ChangeAt Go.RowKit
set_option linter.unusedVariables false

theorem Check_ok (v : Value) (es : List EntZ) (w : World) (h : RdJ w v es) (hok : OkJ es) (hlen : es.length ≤ 1000) :
    Calls Try.prog 9 #[v] w (ErrPost 0 w) := by
  have HG := Lib.hid (Good_ok v es w h hok hlen)
  obtain ⟨a, c, rfl, h1, h2, hc⟩ := h.form
  unfold maxLen at h2
  clear h hok hc
  go_enter Try.func9, Try.ntmps9
  go_wp2_with fail
  refine HG.out.mono ?_
  rintro e w1 ⟨rfl, hb⟩
  go_wp2_with fail
  go_ret
  exact ⟨rfl, hb⟩

theorem infoJ : (Try.prog.info? 34).map (fun i => (i.zero, i.size, i.bytes)) = some (some (.agg #[.string ByteArray.empty, .int .u64 0]), 2, 24) := by kernel_rfl
theorem flatJ_one (es : List EntZ) : ∀ u ∈ flatJ es, u.oneCell' = true := by
  intro u hu
  simp only [flatJ, List.mem_flatMap] at hu
  obtain ⟨e, _, hq⟩ := hu
  simp at hq
  rcases hq with rfl | rfl <;> rfl

def OwnJ (es : List EntZ) (w : World) (v : Value) (w' : World) : Prop := w'.ownsRow w.heap.size 34 2 v es.length (flatJ es) ∧ Below w.heap.size w w'

theorem CloneJ_any (v : Value) (es : List EntZ) (w : World) (h : RdJ w v es) (hl : es.length ≤ 1000000) :
    Calls Try.prog 11 #[v] w fun e w' => ∃ v', e = .returned v' ∧ OwnJ es w v' w' := by
  obtain ⟨i0, hi, hz0, hz1, hz2⟩ := info_parts infoJ
  have hq := fun (w : World) (a : Option Addr) (n c : Nat) => Lib.run_eql_slice_nil (P := Try.prog) w 24 34 a n c 0 0 Try.underlying24
  rcases h.2 with ⟨rfl, hz⟩ | ⟨g, o, c, rfl, h1, h2, hc⟩
  · obtain rfl : es = [] := List.length_eq_zero_iff.1 hz
    clear h hl
    go_enter Try.func11, Try.ntmps11
    go_wp2
    go_ret
    exact ⟨_, rfl, World.ownsRow_nil _ _ _ _, Below.refl _ _⟩
  · have hown0 : (w.alloc (.cells #[] 34)).ownsRow w.heap.size 34 2 (.slice (some ⟨w.heap.size, 0, none⟩) 0 0) 0 [] := World.ownsRow_made w #[] 0 (Nat.le_refl _) (by unfold maxLen; omega) rfl
    have hnews : ∀ j u, (flatJ es)[j]? = some u → (w.alloc (.cells #[] 34)).cell? ((⟨g, o, none⟩ : Addr).add j) = some u := by
      intro j u hu
      have hj : j < es.length * 2 := by
        have := (List.getElem?_eq_some_iff.1 hu).1
        rwa [flatJ_len] at this
      have hcell := hc j hj
      rw [hu] at hcell
      have hlt := World.block_lt_of_cell? w _ hcell
      rw [add_off, World.cell?_of_block (w := w) (a := ⟨g, o + j, none⟩) (Below.heap_alloc w _ g hlt)]
      exact hcell
    have Hown0 := Lib.hid hown0
    have Hnews := Lib.hid hnews
    have Hil := Lib.hid (flatJ_len es)
    have S1 := Lib.hid (flatJ_one es)
    clear hown0 hnews hc h
    go_enter Try.func11, Try.ntmps11
    go_wp2_with (at_builtin; refine wpList_append_own _ rfl _ _ 24 rfl w.heap.size 34 i0 (.agg #[.string ByteArray.empty, .int .u64 0]) 2 24 Try.underlying24 hi hz0 hz1 hz2 rfl (by decide) _ 0 [] rfl Hown0.out ⟨g, o, none⟩ es.length c (flatJ es) rfl Hil.out Hnews.out S1.out ?c3 ?c4 ?c5 ?_)
    case c3 => unfold maxLen; omega
    case c4 => omega
    case c5 => simp
    intro v' w2 hown' hgrow _
    try simp only [Nat.zero_add, List.nil_append] at hown'
    have hb : Below w.heap.size w w2 := Below.grown ((Below.refl _ w).alloc (Nat.le_refl _) _) hgrow (by simp) (fun q hq => by simp [Value.ownBlock] at hq; omega)
    have HO := Lib.hid hown'
    clear hown' hgrow
    go_wp2
    go_ret
    exact ⟨v', rfl, HO.out, hb⟩

def appJ (es : List EntZ) (s : ByteArray) : List EntZ × Int := if textE s ≠ 0 then ([], textE s) else (es ++ [⟨s, sumZ (lastZ es) s⟩], 0)
def AppPost (r : List EntZ × Int) (w : World) (e : Ending) (w' : World) : Prop := ∃ v', e = .returned (.tuple #[v', .int .i64 r.2]) ∧ OwnJ r.1 w v' w'

set_option maxHeartbeats 1000000 in
theorem Append_ok (v : Value) (es : List EntZ) (s : ByteArray) (w : World) (h : RdJ w v es) (hok : OkJ es) (hlen : es.length ≤ 100) (hs : s.size ≤ 9223372036854775807) :
    Calls Try.prog 6 #[v, .string s] w (AppPost (appJ es s) w) := by
  obtain ⟨i0, hi, hz0, hz1, hz2⟩ := info_parts infoJ
  have HC := Lib.hid (Check_ok v es w h hok (by omega))
  have HT := Lib.hid (fun w => text_any s w hs)
  have HR : Hid (appJ es s = if textE s ≠ 0 then ([], textE s) else (es ++ [⟨s, sumZ (lastZ es) s⟩], 0)) := Lib.hid rfl
  have HJ := Lib.hid h
  obtain ⟨a, c, rfl, h1, h2, hc⟩ := h.form
  unfold maxLen at h2
  clear h hok hc
  go_enter Try.func6, Try.ntmps6
  go_wp2_with fail
  refine HC.out.mono ?_
  rintro e w1 ⟨rfl, hb1⟩
  go_wp2_with fail
  refine (HT.out _).mono ?_
  rintro e w2 ⟨rfl, hb2⟩
  have hb02 := hb1.trans (hb2.mono hb1.size)
  have HJ2 := Lib.hid (HJ.out.below hb02 (Nat.le_refl _))
  clear hb1 hb2
  cases hr : (textE s != 0)
  · have hr0 : textE s = 0 := by simpa using hr
    have HR2 : Hid (appJ es s = (es ++ [⟨s, sumZ (lastZ es) s⟩], 0)) := Lib.hid (by rw [HR.out, if_neg (by simpa using hr0)])
    rw [hr0]
    have hnf : (((es.length : Int)) == 1000) = false := by simp; omega
    clear hr hr0 HR HT HC
    go_wp2_with fail
    refine (CloneJ_any _ es _ HJ2.out (by omega)).mono ?_
    rintro e w3 ⟨v3, rfl, ho3, hb3⟩
    have HJ3 := Lib.hid (HJ2.out.below hb3 (Nat.le_refl _))
    have HO3 := Lib.hid ho3
    have hb03 := hb02.trans (hb3.mono hb02.size)
    have hs3 := hb3.size
    have hs2 := hb02.size
    clear ho3 hb3
    go_wp2_with fail
    refine (last_any _ es _ HJ3.out).mono ?_
    rintro e w' ⟨rfl, rfl⟩
    go_wp2_with fail
    refine (Sum_any (lastZ es) s _ hs).mono ?_
    rintro e w' ⟨rfl, rfl⟩
    generalize sumZ (lastZ es) s = z at *
    have HOa := Lib.hid (HO3.out.alloc (.cells #[.string s, .int .u64 z] 34))
    have S1 : Hid (∀ u ∈ [Value.string s, .int .u64 z], u.oneCell' = true) := Lib.hid (fun u hu => by simp at hu; rcases hu with rfl | rfl <;> rfl)
    have S2 : Hid (es.length + 1 ≤ maxLen) := Lib.hid (by unfold maxLen; omega)
    have S3 : Hid ((es.length + 1) * 24 ≤ 140737488355328) := Lib.hid (by omega)
    have S4 : Hid (w2.heap.size ≤ (w3.alloc (.cells #[.string s, .int .u64 z] 34)).heap.size) := Lib.hid (by simp; omega)
    have S5 : Hid ((w3.alloc (.cells #[.string s, .int .u64 z] 34)).heap.size = w3.heap.size + 1) := Lib.hid (by simp)
    have S0 : Hid (0 < 1) := Lib.hid (by omega)
    go_wp2_with (at_builtin; refine wpList_append_lies _ rfl _ _ 24 rfl w2.heap.size 34 i0 (.agg #[.string ByteArray.empty, .int .u64 0]) 2 24 Try.underlying24 hi hz0 hz1 hz2 rfl (by decide) _ es.length (flatJ es) rfl HOa.out ⟨w3.heap.size, 0, none⟩ 1 1 [.string s, .int .u64 z] rfl rfl (cell_two_new _ _ _ _) S1.out S0.out S2.out S3.out S4.out (w3.heap.size + 1) S5.out ?_)
    intro g4 c4 w4 hown4 hgrow4 hat4 hlt4
    have hb4 : Below w.heap.size w w4 := Below.grown (hb03.alloc (by omega) _) hgrow4 (by simp; omega) (fun q hq => by have := (HOa.out.lt q hq).1; omega)
    have HO4 := Lib.hid hown4
    clear hown4 hgrow4 hat4 hlt4 HOa
    go_wp2_with fail
    go_ret2
    exact ⟨_, by rw [HR2.out]; rfl, by rw [HR2.out]; refine ⟨?_, hb4⟩; simp only [flatJ_append, List.length_append]; have := HO4.out; exact ⟨by simpa [flatJ] using this.1, by
      rcases this.2 with ⟨q, _⟩ | ⟨g', cap', cur', q1, q2, q3⟩
      · cases q
      · exact .inr ⟨g', cap', cur', q1, by omega, q3⟩⟩⟩
  · have hr' : ¬ textE s = 0 := by simpa using hr
    have HR2 : Hid (appJ es s = ([], textE s)) := Lib.hid (by rw [HR.out, if_pos hr'])
    generalize textE s = t at *
    clear hr'
    go_wp2_with fail
    go_ret2
    exact ⟨_, by rw [HR2.out]; rfl, by rw [HR2.out]; exact ⟨World.ownsRow_nil _ _ _ _, hb02⟩⟩
end Go.Proofs.Ytomjjbhdpaegkaa

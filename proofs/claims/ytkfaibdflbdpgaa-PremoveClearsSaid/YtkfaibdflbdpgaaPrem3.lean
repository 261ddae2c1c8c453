/- slices.DeleteFunc at PremoveMove. -/
import Derived.Test.YtkfaibdflbdpgaaPremF
namespace Go.Proofs.Ytkfaibdflbdpgaa
open Go.ChangeShapes Go.WideShapes Go.ChangeAt Go.RowKit
set_option linter.unusedVariables false

def DelPost (base : Nat) (v : Value) (xs : List PremZ) (w : World) (e : Ending) (w' : World) : Prop :=
  ∃ v', e = .returned v' ∧ w'.ownsRow base 121 4 v' xs.length (flatP xs) ∧ w.grownBy w' v.ownBlock
set_option maxRecDepth 100000 in
set_option maxHeartbeats 2000000 in
theorem delete_any (base : Nat) (v : Value) (xs : List PremZ) (p : PremZ → Bool) (f : FuncId) (caps : Array Value) (w : World) (h : w.ownsRow base 121 4 v xs.length (flatP xs)) (hl : xs.length ≤ 1000000)
    (hf : ∀ (args : Array Value) (w : World), (callFunc f args).run Try.prog w = .ok (.enter f args) w)
    (hc : ∀ (W : World) (x : PremZ), w.grownBy W v.ownBlock → Calls Try.prog f (#[.agg #[.int .i64 x.player, .int .i64 x.move.src, .int .i64 x.move.dst, .int .i64 x.move.piece]] ++ caps) W fun e w' => e = .returned (.bool (p x)) ∧ Below W.heap.size W w') :
    Calls Try.prog 132 #[v, .func (.func f) #[] caps] w (DelPost base v (xs.filter fun x => !p x) w) := by
  have HO := Lib.hid h
  have HC := Lib.hid hc
  have HI := Lib.hid (IndexFunc_pm v xs p f caps w (rdP_of_own h) hf (fun W x cs _ hE hb => by
    simp only [premEl] at hE
    subst hE
    exact hc W x (grown_new (B := 0) (grown_refl1 w v.ownBlock) hb)))
  by_cases hn : idxL p xs 0 = -1
  · have HE := Lib.hid (idxL_none p xs 0 (Int.le_refl _) hn)
    obtain ⟨a, c, rfl⟩ := own_form2 h
    have HN := Lib.hid hn
    clear h hc
    go_enter Try.func132, Try.ntmps132
    go_wp2_with fail
    refine HI.out.mono ?_
    rintro e w1 ⟨rfl, hb1⟩
    rw [hn]
    have HB := Lib.hid hb1
    clear hb1 hn HI
    go_wp2_with fail
    go_ret
    exact ⟨_, rfl, by rw [HE.out]; exact own_stays HO.out HB.out, grown_new (B := 0) (grown_refl1 _ _) HB.out⟩
  obtain ⟨i0, hi0, hi1, hpi, hti⟩ := idxL_found p xs 0 (Int.le_refl _) hn
  simp only [Int.zero_add] at hi0
  have HTI := Lib.hid hti
  have HPI := Lib.hid hpi
  clear hn hti hpi
  obtain ⟨g, c, rfl⟩ := own_some h (by omega)
  have hg := h.lt g rfl
  clear h hc
  have hi0n : ((i0 : Int) == -1) = false := by simp
  go_enter Try.func132, Try.ntmps132
  go_wp2_with fail
  refine HI.out.mono ?_
  rintro e w1 ⟨rfl, hb1⟩
  rw [hi0]
  have HB := Lib.hid hb1
  clear hb1 HI hi0
  go_wp2_with fail
  go_loopw [5, 6, 7] (fun vk vi vb wr => ∃ (k m : Nat) (ys : List PremZ), m ≤ xs.length ∧ vi = .int .i64 m ∧ vk = .int .i64 k ∧ k < m ∧ Hid (ys.length = xs.length) ∧ Hid (ys.drop m = xs.drop m) ∧ Hid (ys.take k = (xs.take m).filter fun x => !p x) ∧ Hid (wr.ownsRow base 121 4 (.slice (some ⟨g, 0, none⟩) xs.length c) xs.length (flatP ys)) ∧ Hid (w.grownBy wr (some g))) (fun _ i _ _ => xs.length - (intOf i).toNat)
  case atStart => exact ⟨i0, i0 + 1, xs, by omega, by go_num, rfl, by omega, Lib.hid rfl, Lib.hid rfl, Lib.hid (by rw [filter_snoc _ _ _ hi1, HTI.out, HPI.out]; simp), Lib.hid (own_stays HO.out HB.out), Lib.hid (grown_new (B := 0) (grown_refl1 _ _) HB.out)⟩
  case round =>
    obtain ⟨k, m, ys, hm, rfl, rfl, hk, HYL, HYD, HYT, HOy, HGy⟩ := hrel
    by_cases hlt : m < xs.length
    · have hyl := HYL.out
      have y1 : ys.getD m default = xs.getD m default := getD_dropP HYD.out
      obtain ⟨q0, q1, q2, q3⟩ := flatP_at ys m (by omega)
      rw [y1] at q0 q1 q2 q3
      have c0 := (HOy.out.cellAt (m * 4) (by omega)).trans q0
      have c1 := (HOy.out.cellAt (m * 4 + 1) (by omega)).trans q1
      have c2 := (HOy.out.cellAt (m * 4 + 2) (by omega)).trans q2
      have c3 := (HOy.out.cellAt (m * 4 + 3) (by omega)).trans q3
      have HS := Lib.hid (filter_snoc (fun x => !p x) xs m hlt)
      clear q0 q1 q2 q3 y1 hyl
      generalize xs.getD m default = x at *
      have hgs : w.heap.size ≤ wr.heap.size := HGy.out.size
      have hgr : g < wr.heap.size := by omega
      go_upto_region 8 with (fail)
      have hbx := Box.new' wr wr.heap.size [.int .i64 x.player, .int .i64 x.move.src, .int .i64 x.move.dst, .int .i64 x.move.piece] 121 rfl
      have HOn := Lib.hid (HOy.out.alloc (.cells #[.int .i64 x.player, .int .i64 x.move.src, .int .i64 x.move.dst, .int .i64 x.move.piece] 121))
      have HGn : Hid (w.grownBy (wr.alloc (.cells #[.int .i64 x.player, .int .i64 x.move.src, .int .i64 x.move.dst, .int .i64 x.move.piece] 121)) (some g)) := Lib.hid (grown_new (B := 0) HGy.out ((Below.refl _ _).alloc (Nat.le_refl _) _))
      have hszn : wr.heap.size < (wr.alloc (.cells #[.int .i64 x.player, .int .i64 x.move.src, .int .i64 x.move.dst, .int .i64 x.move.piece] 121)).heap.size := by simp
      clear c0 c1 c2 c3 HOy HGy
      generalize (wr.alloc (.cells #[.int .i64 x.player, .int .i64 x.move.src, .int .i64 x.move.dst, .int .i64 x.move.piece] 121)) = wn at *
      have d0 := hbx.cell 0 rfl
      have d1 := hbx.cell 1 rfl
      have d2 := hbx.cell 2 rfl
      have d3 := hbx.cell 3 rfl
      have HBX := Lib.hid hbx
      have HCk := Lib.hid (HC.out wn x HGn.out)
      clear hbx
      go_wp2_with fail
      refine HCk.out.mono ?_
      rintro e w2 ⟨rfl, hb2⟩
      have HG2 := Lib.hid (grown_new (B := 0) HGn.out hb2)
      have HO2 := Lib.hid (own_stays HOn.out hb2)
      have HBX2 := Lib.hid (HBX.out.stays hb2)
      have hs2 := hb2.size
      have e0 := HBX2.out.cell 0 rfl
      have e1 := HBX2.out.cell 1 rfl
      have e2 := HBX2.out.cell 2 rfl
      have e3 := HBX2.out.cell 3 rfl
      clear d0 d1 d2 d3 hb2 HCk HOn HGn HBX
      cases hpx : p x
      · have HS2 : Hid ((xs.take (m + 1)).filter (fun x => !p x) = ys.take k ++ [x]) := Lib.hid (by rw [HS.out, HYT.out, hpx]; simp)
        have s := fun j (h : j < xs.length * 4) => List.getElem?_eq_getElem (l := flatP ys) (i := j) (by rw [flatP_len, HYL.out]; exact h)
        have s0 := (HO2.out.cellAt (k * 4) (by omega)).trans (s _ (by omega))
        have s1 := (HO2.out.cellAt (k * 4 + 1) (by omega)).trans (s _ (by omega))
        have s2 := (HO2.out.cellAt (k * 4 + 2) (by omega)).trans (s _ (by omega))
        have s3 := (HO2.out.cellAt (k * 4 + 3) (by omega)).trans (s _ (by omega))
        have f0 := HO2.out.frozenAt (k * 4)
        have f1 := HO2.out.frozenAt (k * 4 + 1)
        have f2 := HO2.out.frozenAt (k * 4 + 2)
        have f3 := HO2.out.frozenAt (k * 4 + 3)
        have HPut := own_put [.int .i64 x.player, .int .i64 x.move.src, .int .i64 x.move.dst, .int .i64 x.move.piece] (flatP ys) (k * 4) _ HO2.out
        rw [flatP_put] at HPut
        have HPh := Lib.hid HPut
        have HDR := Lib.hid (drop_putP HYD.out k x (by omega))
        have HTK : Hid ((ys.set k x).take (k + 1) = (xs.take (m + 1)).filter fun x => !p x) := Lib.hid (by rw [take_putP ys k x (by rw [HYL.out]; omega), HS2.out])
        clear HPut s
        go_wp2_with fail
        go_roundw
        case rel => exact ⟨k + 1, m + 1, ys.set k x, by omega, by go_num, by go_num, by omega, Lib.hid (by rw [List.length_set]; exact HYL.out), HDR, HTK, Lib.hid HPh.out.1, Lib.hid (grown_trans1 HG2.out HPh.out.2)⟩
        case measure => simp [intOf]; omega
      · have HS2 : Hid ((xs.take (m + 1)).filter (fun x => !p x) = ys.take k) := Lib.hid (by rw [HS.out, HYT.out, hpx]; simp)
        go_wp2_with fail
        go_roundw
        case rel => exact ⟨k, m + 1, ys, by omega, by go_num, rfl, by omega, HYL, Lib.hid (drop_moreP HYD.out 1), Lib.hid HS2.out.symm, HO2, HG2⟩
        case measure => simp [intOf]; omega
    · obtain rfl : m = xs.length := by omega
      have HF : Hid (ys.take k = xs.filter fun x => !p x) := Lib.hid (by rw [HYT.out, List.take_of_length_le (Nat.le_refl _)])
      have hcapx : xs.length ≤ c := own_cap' HOy.out
      have hsl2 : ∀ w' : World, (Instr.slice 62 (.slice (some ⟨g, 0, none⟩) xs.length c) (some (.int .i64 (k : Int))) none none).run Try.prog w' = .ok (.slice (some ⟨g, k * 4, none⟩) (xs.length - k) (c - k)) w' := fun w' => by
        rw [run_drop (P := Try.prog) (t := 62) (s := 4) Try.underlying62 (fun w => by kernel_rfl) (some ⟨g, 0, none⟩) xs.length c k (by omega) w']
        simp [subAddr, show ¬ c = k by omega, add_off]
      have hsl3 : ∀ w' : World, (Instr.slice 62 (.slice (some ⟨g, 0, none⟩) xs.length c) none (some (.int .i64 (k : Int))) none).run Try.prog w' = .ok (.slice (some ⟨g, 0, none⟩) k c) w' := fun w' => by
        exact run_take (P := Try.prog) (t := 62) (s := 4) Try.underlying62 (fun w => by kernel_rfl) (some ⟨g, 0, none⟩) xs.length c k (by omega) w'
      have hclr : ∀ ty, (Builtin.clear_ #[62] ty #[.slice (some ⟨g, k * 4, none⟩) (xs.length - k) (c - k)]).run Try.prog wr = .ok (.tuple #[]) (wr.setCells g (k * 4) (List.replicate ((xs.length - k) * 4) (.int .i64 0))) := fun ty =>
        run_clear4 wr ty g (k * 4) (xs.length - k) (c - k) (by omega) (fun q hq => by rw [HOy.out.cellAt (k * 4 + q) (by omega), List.getElem?_eq_getElem (by rw [flatP_len, HYL.out]; omega)]; rfl) (fun q _ => HOy.out.frozenAt _)
      have HPh := Lib.hid (own_put (List.replicate ((xs.length - k) * 4) (.int .i64 0)) (flatP ys) (k * 4) _ HOy.out)
      have HLn : Hid ((xs.filter fun x => !p x).length = k) := Lib.hid (by rw [← HF.out, List.length_take, HYL.out]; omega)
      have HKN := Lib.hid hk
      clear hk hcapx
      go_wp2_with fail
      go_ret
      refine ⟨_, rfl, ?_, grown_trans1 HGy.out HPh.out.2⟩
      have h := own_take HPh.out.1 k (by have := HKN.out; omega)
      rw [putAt_take _ _ _ _ (Nat.le_refl _), flatP_take, HF.out] at h
      rw [HLn.out]
      exact h

end Go.Proofs.Ytkfaibdflbdpgaa

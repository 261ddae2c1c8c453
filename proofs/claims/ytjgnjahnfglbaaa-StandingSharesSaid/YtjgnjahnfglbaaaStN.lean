/- tables, and the walk of StandingSums. -/
import Derived.Test.YtjgnjahnfglbaaaStM
namespace Go.Proofs.Ytjgnjahnfglbaaa
open Go.ChangeShapes Go.WideShapes Go.ChangeAt Go.RowKit
set_option linter.unusedVariables false

theorem elemG : Try.prog.underlying 22 = some (.slice (Try.prog.elem 22)) := by kernel_rfl
theorem sizeG (w : World) : (sizeOf (Try.prog.elem 22)).run Try.prog w = .ok 3 w := by kernel_rfl
theorem minN (x m : Nat) (hx : x ≤ 9223372036854775807) : ∃ y : Nat, (if (m : Int) < (x : Int) then (m : Int) else (x : Int)) = (y : Int) ∧ y ≤ x ∧ y ≤ m := by
  by_cases h : (m : Int) < (x : Int)
  · exact ⟨m, by rw [if_pos h], by omega, Nat.le_refl _⟩
  · exact ⟨x, by rw [if_neg h], Nat.le_refl _, by omega⟩
set_option maxRecDepth 100000 in
theorem tables_any (HS : SortRowsSaid) (w : World) : Calls Try.prog 5 #[] w fun e w' => e = .returned (.bool true) ∧ Below w.heap.size w w' := by
  have HT := Lib.hid (Table_any HS 1 (.slice none 0 0) [] w (Rd.nil _ _))
  go_enter Try.func5, Try.ntmps5
  go_wp2_with fail
  refine HT.out.mono ?_
  rintro e w1 (⟨h, -, -⟩ | ⟨-, G, cap, rs, rfl, hown, hok, hb⟩)
  · exact absurd rfl h
  · have hl : rs.length = 1 := hok.len
    have hf : rs[0].fr = 1 := by
      rw [(hok.fr 0 (by omega)).1]
      have h0 : cntLt rs rs[0] = 0 := by
        obtain ⟨r, rfl⟩ : ∃ r, rs = [r] := List.length_eq_one_iff.1 hl
        unfold cntLt
        have : ¬ cfR r r < 0 := (ltR_false r r).1 (ltR_swo.irrefl r)
        simp [this]
      rw [h0]; rfl
    have c6 : w1.cell? ⟨G, 6, none⟩ = some (.int .i64 1) := by
      have := row_cells hown rfl 0 (by omega) rfl 6 (by omega) (v := .int .i64 rs[0].fr) rfl
      rw [hf] at this
      simpa using this
    rw [hl]
    clear hown hok hf
    go_wp2_with fail
    first
      | (go_ret; exact ⟨rfl, hb⟩)
      | (go_quiet (fail); go_wp2_with fail; go_ret; exact ⟨rfl, hb⟩)
def sumP (rs : List RowZ) (k : Nat) : Int := ((rs.take k).map (·.pts)).sum
theorem sumP_step (rs : List RowZ) (k : Nat) (hk : k < rs.length) : sumP rs (k + 1) = sumP rs k + rs[k].pts := by
  unfold sumP
  rw [List.take_succ_eq_append_getElem hk, List.map_append, List.sum_append]
  simp
theorem sumP_bnd {n m : Nat} {rs : List RowZ} (h : TabOk n m rs) : ∀ k, k ≤ rs.length → 0 ≤ sumP rs k ∧ sumP rs k ≤ 2 * m * k
  | 0, _ => by unfold sumP; simp
  | k + 1, hk => by
    have ih := sumP_bnd h k (by omega)
    have hb := h.pb k (by omega)
    rw [sumP_step rs k (by omega)]
    have : (2 * (m : Int)) * ((k + 1 : Nat) : Int) = 2 * m * k + 2 * m := by push_cast; rw [Int.mul_add, Int.mul_one]
    omega
set_option maxRecDepth 100000 in
set_option maxHeartbeats 8000000 in
theorem sums_walk (HS : SortRowsSaid) (n : Int) (vg : Value) (gs0 : List GameZ) (w : World) (hg : RdG w vg gs0) : Calls Try.prog 3 #[.int .i64 n, vg] w fun e w' => e = .returned (.bool true) ∧ Below w.heap.size w w' := by
  obtain ⟨ga, gc, rfl, g1, g2, _⟩ := hg.form
  unfold maxLen at g2
  obtain ⟨L, hL⟩ : ∃ L, L = min gs0.length 60 := ⟨_, rfl⟩
  have m1 : L ≤ gs0.length := by omega
  have m2 : L ≤ 60 := by omega
  have HL := Lib.hid hL
  have HG0 := Lib.hid (RdG.take hg L m1)
  have HSo := Lib.hid HS
  have hgl : (gs0.take L).length = L := by rw [List.length_take]; omega
  clear hg HS hL
  generalize gs0.take L = gs at HG0 hgl
  go_enter Try.func3, Try.ntmps3
  go_wp2_with fail
  refine (tables_any HSo.out w).mono ?_
  rintro e w1 ⟨rfl, hb1⟩
  have HG1 := Lib.hid (RdG.below HG0.out hb1 (Nat.le_refl _))
  have HT := Lib.hid (fun w2 (h : RdG w2 (.slice ga L gc) gs) => Table_any HSo.out n _ gs w2 h)
  go_wp2_with fail
  rw [show (min ((gs0.length : Nat) : Int) 60).toNat = L by have := HL.out; omega]
  refine (HT.out w1 HG1.out).mono ?_
  rintro e w2 (⟨hc, rfl, hb2⟩ | ⟨hc, G, cap, rs, rfl, hown, hok, hb2⟩)
  · have hb02 : Below w.heap.size w w2 := hb1.trans (hb2.mono hb1.size)
    generalize chkS n gs = cc at *
    go_wp2_with fail
    go_ret
    exact ⟨rfl, hb02⟩
  · have hb02 : Below w.heap.size w w2 := hb1.trans (hb2.mono hb1.size)
    obtain ⟨⟨q1, q2, q3⟩, -⟩ := good_chk hc
    obtain ⟨N, rfl⟩ : ∃ N : Nat, n = (N : Int) := ⟨n.toNat, by omega⟩
    rw [Int.toNat_natCast, hgl] at hok
    have hrl : rs.length = N := hok.len
    have hG := hown.lt G rfl
    have HO := Lib.hid hown
    have HOk := Lib.hid hok
    have HSum := Lib.hid (fun k hk => sumP_bnd hok k hk)
    have HFin : Hid (sumP rs rs.length = 2 * (L : Int)) := Lib.hid (by unfold sumP; rw [List.take_length, hok.sum])
    have HN := Lib.hid hrl
    have hr32 : rs.length ≤ 32 := by omega
    clear hc hown hok hb1 hb2 HT hrl
    go_wp2_with fail
    go_loopw [30, 7] (fun i s wr => ∃ k : Nat, k ≤ rs.length ∧ i = .int .i64 k ∧ s = .int .i64 (sumP rs k) ∧ Below w2.heap.size w2 wr) (fun i _ _ => rs.length - (intOf i).toNat)
    case atStart => exact ⟨0, Nat.zero_le _, rfl, rfl, Below.refl _ _⟩
    case round =>
      obtain ⟨k, hk, rfl, rfl, hbl⟩ := hrel
      by_cases hlt : k < rs.length
      · have hlz : (k : Int) < (rs.length : Int) := by omega
        obtain ⟨x, hx⟩ : ∃ x, rs[k] = x := ⟨_, rfl⟩
        have hownr := own_stays HO.out hbl
        have hGr : G < wr.heap.size := Nat.lt_of_lt_of_le hG.2 hbl.size
        obtain ⟨b1, b2⟩ := HSum.out k hk
        obtain ⟨b3, b4⟩ := HSum.out (k + 1) hlt
        have HSt := Lib.hid (sumP_step rs k hlt)
        rw [sumP_step rs k hlt, hx] at b3 b4
        have hmk : 2 * (L : Int) * (k : Int) ≤ 4000 := by
          have h1 : 2 * (L : Int) * (k : Int) ≤ 120 * (k : Int) := Int.mul_le_mul_of_nonneg_right (by omega) (by omega)
          have := HN.out
          omega
        have hmk1 : 2 * (L : Int) * ((k + 1 : Nat) : Int) ≤ 4000 := by
          have h1 : 2 * (L : Int) * ((k + 1 : Nat) : Int) ≤ 120 * ((k + 1 : Nat) : Int) := Int.mul_le_mul_of_nonneg_right (by omega) (by omega)
          have := HN.out
          omega
        have c1 : sumP rs k ≤ 4000 := by omega
        have c2 : sumP rs k + x.pts ≤ 4000 := by omega
        have a0 : wr.cell? ⟨G, k * 8, none⟩ = some (.int .i64 x.pl) := row_cells hownr rfl k hlt hx 0 (by omega) rfl
        have a1 : wr.cell? ⟨G, k * 8 + 1, none⟩ = some (.int .i64 x.pts) := row_cells hownr rfl k hlt hx 1 (by omega) rfl
        have a2 : wr.cell? ⟨G, k * 8 + 2, none⟩ = some (.int .i64 x.b0) := row_cells hownr rfl k hlt hx 2 (by omega) rfl
        have a3 : wr.cell? ⟨G, k * 8 + 3, none⟩ = some (.int .i64 x.b1) := row_cells hownr rfl k hlt hx 3 (by omega) rfl
        have a4 : wr.cell? ⟨G, k * 8 + 4, none⟩ = some (.int .i64 x.b2) := row_cells hownr rfl k hlt hx 4 (by omega) rfl
        have a5 : wr.cell? ⟨G, k * 8 + 5, none⟩ = some (.int .i64 x.b3) := row_cells hownr rfl k hlt hx 5 (by omega) rfl
        have a6 : wr.cell? ⟨G, k * 8 + 6, none⟩ = some (.int .i64 x.fr) := row_cells hownr rfl k hlt hx 6 (by omega) rfl
        have a7 : wr.cell? ⟨G, k * 8 + 7, none⟩ = some (.int .i64 x.to) := row_cells hownr rfl k hlt hx 7 (by omega) rfl
        have HX := Lib.hid hx
        have HBl := Lib.hid hbl
        clear b2 b4 hmk hmk1
        generalize sumP rs k = sk at *
        rcases Nat.eq_zero_or_pos k with hk0 | hk0
        · subst hk0
          go_wp2_with fail
          go_quiet (fail)
          go_wp2_with fail
          go_roundw
          case rel => exact ⟨1, by omega, rfl, by rw [HSt.out, HX.out], below_drewN (HBl.out.alloc HBl.out.size _) _⟩
          case measure => simp [intOf]; omega
        · obtain ⟨p, rfl⟩ : ∃ p, k = p + 1 := ⟨k - 1, by omega⟩
          obtain ⟨mo1, mo2⟩ := HOk.out.mono p (p + 1) (by omega) hlt (by omega)
          rw [hx] at mo1 mo2
          obtain ⟨y, hy⟩ : ∃ y, rs[p] = y := ⟨_, rfl⟩
          rw [hy] at mo1 mo2
          have e1 : wr.cell? ⟨G, p * 8 + 1, none⟩ = some (.int .i64 y.pts) := row_cells hownr rfl p (by omega) hy 1 (by omega) rfl
          have e6 : wr.cell? ⟨G, p * 8 + 6, none⟩ = some (.int .i64 y.fr) := row_cells hownr rfl p (by omega) hy 6 (by omega) rfl
          have hp0 : (0 : Int) < (p : Int) + 1 := by omega
          have hpl : (p : Int) < (rs.length : Int) := by omega
          have hwp : IntKind.i64.wrap (p : Int) = (p : Int) := by rw [IntKind.wrap_i64]; omega
          have n1 : ¬ y.pts < x.pts := by omega
          have n2 : ¬ x.fr < y.fr := by omega
          clear hx hy hownr
          go_wp2_with fail
          go_quiet (fail)
          go_wp2_with fail
          go_roundw
          case rel => exact ⟨p + 1 + 1, by omega, by go_num, by rw [HSt.out, HX.out], below_drewN (HBl.out.alloc HBl.out.size _) _⟩
          case measure => simp [intOf]; omega
      · obtain rfl : k = rs.length := by omega
        have hF := HFin.out
        have hN := HN.out
        rw [hN] at hF
        have hb9 : Below w.heap.size w wr := hb02.trans (hbl.mono hb02.size)
        go_wp2_with fail
        go_ret
        exact ⟨rfl, hb9⟩
end Go.Proofs.Ytjgnjahnfglbaaa

/- standing.Table. -/
import Derived.Test.YtjgnjahnfglbaaaStL
namespace Go.Proofs.Ytjgnjahnfglbaaa
open Go.ChangeShapes Go.WideShapes Go.ChangeAt Go.RowKit
set_option linter.unusedVariables false

def TabPost (n : Int) (gs : List GameZ) (w : World) (e : Ending) (w' : World) : Prop :=
  (chkS n gs ≠ 0 ∧ e = .returned (.tuple #[.slice none 0 0, .int .i64 (chkS n gs)]) ∧ Below w.heap.size w w') ∨
  (chkS n gs = 0 ∧ ∃ g cap rs, e = .returned (.tuple #[.slice (some ⟨g, 0, none⟩) rs.length cap, .int .i64 0]) ∧ w'.ownsRow w.heap.size 30 8 (.slice (some ⟨g, 0, none⟩) rs.length cap) rs.length (flatR rs) ∧ TabOk n.toNat gs.length rs ∧ Below w.heap.size w w')
theorem row_info : (Try.prog.info? 30).map (fun i => (i.zero, i.size, i.bytes)) = some (some (.agg #[.int .i64 0, .int .i64 0, .int .i64 0, .int .i64 0, .int .i64 0, .int .i64 0, .int .i64 0, .int .i64 0]), 8, 64) := by kernel_rfl
theorem below_grow {w : World} (n : Nat) (os : Array Obj) : Below w.heap.size w (Sort.grow (w.drewN n) os) :=
  ⟨rfl, rfl, rfl, by rw [Sort.size_grow]; exact Nat.le_add_right _ _, fun k hk => by rw [Sort.heap_grow_old (w.drewN n) os hk]; rfl⟩
set_option maxRecDepth 100000 in
set_option maxHeartbeats 8000000 in
theorem Table_any (HS : SortRowsSaid) (n : Int) (vg : Value) (gs : List GameZ) (w : World) (hg : RdG w vg gs) : Calls Try.prog 6 #[.int .i64 n, vg] w (TabPost n gs w) := by
  have HCk := Lib.hid (Check_any n vg gs w hg)
  have HR := Lib.hid hg
  have HSo := Lib.hid HS
  by_cases hc : chkS n gs = 0
  · obtain ⟨⟨q1, q2, q3⟩, hgood⟩ := good_chk hc
    obtain ⟨N, rfl⟩ : ∃ N : Nat, n = (N : Int) := ⟨n.toNat, by omega⟩
    have hN1 : 1 ≤ N := by omega
    have hN2 : N ≤ 32 := by omega
    have HP := Lib.hid (fun w1 (h : RdG w1 vg gs) => points_any N vg gs w1 h q3 hN1 hN2 hgood)
    have HB := Lib.hid (fun pl w1 (h : RdG w1 vg gs) => breaks_any N vg gs pl w1 h q3 hN1 hN2 hgood)
    have HC0 := Lib.hid hc
    rw [hc] at HCk
    clear hg HS hc hgood q1 q2 q3
    go_enter Try.func6, Try.ntmps6
    go_wp2_with fail
    refine HCk.out.mono ?_
    rintro e w1 ⟨rfl, hb1⟩
    go_wp2_with fail
    refine (HP.out w1 (RdG.below HR.out hb1 (Nat.le_refl _))).mono ?_
    rintro e w2 ⟨v2, z, rfl, hown2, hz, hb2⟩
    obtain ⟨G2, cap2, rfl⟩ := own_some hown2 (by omega)
    have hbw2 : Below w.heap.size w w2 := hb1.trans (hb2.mono hb1.size)
    have HZ := Lib.hid hz
    have hzl := hz.len
    have HO2 := Lib.hid hown2
    have HB2 := Lib.hid hbw2
    have hG2 := (hown2.lt G2 rfl).2
    clear hown2 hz hb1 hb2 hbw2
    go_wp2_with fail
    go_loopw [24, 7] (fun i v wr => ∃ k : Nat, k ≤ N ∧ i = .int .i64 k ∧ Hid (∃ rs : List RowZ, wr.ownsRow w2.heap.size 30 8 v k (flatR rs) ∧ rs.length = k ∧ rs.map (·.pts) = z.take k ∧ (∀ r ∈ rs, r.fr = 0 ∧ r.to = 0)) ∧ Below w2.heap.size w2 wr) (fun i _ _ => N - (intOf i).toNat)
    case atStart => exact ⟨0, Nat.zero_le _, rfl, Lib.hid ⟨[], World.ownsRow_nil _ _ _ _, rfl, rfl, by simp⟩, Below.refl _ _⟩
    case round =>
      obtain ⟨k, hk, rfl, HK, hbl⟩ := hrel
      by_cases hlt : k < N
      · have hlz : (k : Int) < (N : Int) := by omega
        have ck : wr.cell? ⟨G2, k, none⟩ = some (.int .i64 (z.getD k 0)) := (hbl.cell (p := ⟨G2, k, none⟩) hG2).trans ((HO2.out.cellAt k (by omega)).trans (ints_get _ k (by omega)))
        have hbw : Below w.heap.size w wr := HB2.out.trans (hbl.mono HB2.out.size)
        have hbr := HB.out (k : Int) wr (RdG.below HR.out hbw (Nat.le_refl _))
        unfold BreaksPost four at hbr
        have HBr := Lib.hid hbr
        clear hbr
        obtain ⟨rs, hown, hrl, hrm, hr0⟩ := HK.out
        obtain ⟨av, cv, rfl⟩ := own_form2 hown
        have HOw := Lib.hid hown
        have HRl := Lib.hid hrl
        have HRm := Lib.hid hrm
        have HR0 := Lib.hid hr0
        have HZk := Lib.hid (show z.take (k + 1) = z.take k ++ [z.getD k 0] by
          rw [List.take_succ_eq_append_getElem (show k < z.length by omega)]; congr 2; rw [List.getD_eq_getElem?_getD, List.getElem?_eq_getElem (show k < z.length by omega)]; rfl)
        clear hown hrl hrm hr0 HK
        generalize z.getD k 0 = zk at *
        go_wp2_with fail
        refine HBr.out.mono ?_
        rintro e w3 ⟨b0, b1, b2, b3, rfl, hb3⟩
        have HO3 := Lib.hid (own_stays HOw.out hb3)
        have hs3 : w2.heap.size ≤ w3.heap.size := Nat.le_trans hbl.size hb3.size
        have HB3 : Hid (Below w2.heap.size w2 w3) := Lib.hid (hbl.trans (hb3.mono hbl.size))
        go_wp2_with (at_builtin; refine app_new 24 30 (.agg #[.int .i64 0, .int .i64 0, .int .i64 0, .int .i64 0, .int .i64 0, .int .i64 0, .int .i64 0, .int .i64 0]) 8 64 row_info Try.underlying24 rfl (by decide) (by rfl) _ _ (by rfl) w2.heap.size _ k (flatR rs) (encR ⟨k, zk, b0, b1, b2, b3, 0, 0⟩) w3 HO3.out hs3 rfl (encR_one _) (by omega) (by omega) (by rfl) (by rfl) ?_; intro g4 cap4 w4 hown4 hkeep hgr)
        have HO4 := Lib.hid hown4
        have HB4 : Hid (Below w2.heap.size w2 w4) := Lib.hid (hkeep.below HB3.out (Nat.le_refl _))
        clear hown4 hkeep hgr
        go_wp2_with fail
        go_roundw
        case rel =>
          refine ⟨k + 1, by omega, by go_num, Lib.hid ⟨rs ++ [⟨k, zk, b0, b1, b2, b3, 0, 0⟩], ?_, by rw [List.length_append, HRl.out]; rfl, by rw [List.map_append, HRm.out, HZk.out]; rfl, fun r hr => ?_⟩, HB4.out⟩
          · rw [flatR_append]; exact HO4.out
          · rcases List.mem_append.1 hr with h | h
            · exact HR0.out r h
            · simp only [List.mem_singleton] at h; subst h; exact ⟨rfl, rfl⟩
        case measure => simp [intOf]; omega
      · obtain rfl : k = N := by omega
        obtain ⟨rs, hown, hrl, hrm, hr0⟩ := HK.out
        rw [show z.take k = z by rw [List.take_of_length_le (by omega)]] at hrm
        obtain ⟨G, cap, rfl⟩ := own_some hown (by omega)
        obtain rfl := hrl
        have hGb := hown.lt G rfl
        have HSr := Lib.hid (HSo.out w2.heap.size G cap rs wr hN1 hN2 hown)
        have HRm := Lib.hid hrm
        have HR0 := Lib.hid hr0
        clear hown hrm hr0 HK
        go_wp2_with fail
        refine HSr.out.mono ?_
        rintro e w5 ⟨rfl, S, hSl, hSp, hSs, hown5, hg5⟩
        have hb5 : Below w2.heap.size w2 w5 := Below.grown hbl hg5 hbl.size (fun q hq => by simp at hq; subst hq; exact hGb.1)
        have HSp := Lib.hid hSp
        have HSs := Lib.hid hSs
        have HS0 : Hid (∀ r ∈ S, r.fr = 0 ∧ r.to = 0) := Lib.hid fun r hr => HR0.out r (hSp.mem_iff.1 hr)
        have HO5 := Lib.hid hown5
        have HG5 := Lib.hid hb5
        have hG5 : G < w5.heap.size := (hown5.lt G rfl).2
        clear hSp hSs hown5 hg5 hb5
        have hSN : S.length = rs.length := hSl
        go_wp2_with fail
        go_loopw [44] (fun i wr => ∃ k : Nat, k ≤ rs.length ∧ i = .int .i64 k ∧ Hid (∃ T, wr.ownsRow w2.heap.size 30 8 (.slice (some ⟨G, 0, none⟩) rs.length cap) rs.length (flatR T) ∧ Out S T k) ∧ Below w2.heap.size w2 wr) (fun i _ => rs.length - (intOf i).toNat)
        case atStart => exact ⟨0, Nat.zero_le _, rfl, Lib.hid ⟨S, HO5.out, Out.start S⟩, HG5.out⟩
        case round =>
          obtain ⟨k, hk, rfl, HK, hbl2⟩ := hrel
          by_cases hlt : k < rs.length
          · obtain ⟨T, hown, hOut⟩ := HK.out
            have hTl : T.length = rs.length := by rw [hOut.len, hSN]
            have hkS : k < S.length := by omega
            have hkT : k < T.length := by omega
            have hTk : T[k] = S[k] := hOut.rest k hkT hkS (Nat.le_refl _)
            have hlz : (k : Int) < (rs.length : Int) := by omega
            have c6 : wr.cell? ⟨G, k * 8 + 6, none⟩ = some (.int .i64 S[k].fr) := row_cells hown hTl k hkT hTk 6 (by omega) rfl
            have f6 : wr.frozen? ⟨G, k * 8 + 6, none⟩ = false := hown.frozenAt (k * 8 + 6)
            have HM0 := Lib.hid (hOut.mid hkS (HS0.out _ (List.getElem_mem hkS)).2)
            have HO6 : Hid ((wr.setCell ⟨G, k * 8 + 6, none⟩ (.int .i64 1)).ownsRow w2.heap.size 30 8 (.slice (some ⟨G, 0, none⟩) rs.length cap) rs.length (flatR (T.set k { S[k] with fr := 1 }))) := Lib.hid (by
              have := (hown.stored (k * 8 + 6) (.int .i64 1)).1
              rw [flatR_set T k 6 hkT (by omega) (.int .i64 1) { S[k] with fr := 1 } (by rw [hTk]; rfl)] at this
              exact this)
            have HB6 : Hid (Below w2.heap.size w2 (wr.setCell ⟨G, k * 8 + 6, none⟩ (.int .i64 1))) := Lib.hid (hbl2.setCell hGb.1 _)
            obtain ⟨sk, hsk⟩ : ∃ sk, sk = S[k] := ⟨_, rfl⟩
            have HSK := Lib.hid hsk
            have hS0 : ¬ G < w2.heap.size := by omega
            clear hown hOut HK
            go_wp2_with fail
            go_loopw [53] (fun i wr3 => ∃ q : Nat, q ≤ rs.length ∧ i = .int .i64 q ∧ Hid (∃ T, wr3.ownsRow w2.heap.size 30 8 (.slice (some ⟨G, 0, none⟩) rs.length cap) rs.length (flatR T) ∧ Mid S T k (finR (S.take q) sk)) ∧ Below w2.heap.size w2 wr3) (fun i _ => rs.length - (intOf i).toNat)
            case atStart => exact ⟨0, Nat.zero_le _, rfl, Lib.hid ⟨_, HO6.out, by rw [HSK.out]; exact HM0.out⟩, HB6.out⟩
            case round =>
              clear hsk hTk c6 f6
              obtain ⟨q, hq, rfl, HQ, hbl3⟩ := hrel
              by_cases hq2 : q < rs.length
              · skip
                obtain ⟨T2, hown2, hMid⟩ := HQ.out
                have hT2l : T2.length = rs.length := by rw [hMid.len, hSN]
                have hqT : q < T2.length := by omega
                have hkT2 : k < T2.length := by omega
                have hqS : q < S.length := by omega
                have hqz : (q : Int) < (rs.length : Int) := by omega
                obtain ⟨x, hx⟩ : ∃ x, T2[q] = x := ⟨_, rfl⟩
                obtain ⟨y, hy⟩ : ∃ y, finR (S.take q) sk = y := ⟨_, rfl⟩
                have hyT : T2[k] = y := by rw [← hy]; exact hMid.here hkT2
                have hcf : cfR x y = cfR S[q] sk := by
                  rw [← hx, hMid.cf hkS ⟨_, _, by rw [← HSK.out]; rfl⟩ hqT hqS, ← hy]; rfl
                have hbn := fin_bnd S sk q
                rw [hy] at hbn
                obtain ⟨y1, y2, y3, y4⟩ := hbn
                have HMid : Hid (Mid S T2 k y) := Lib.hid (by rw [← hy]; exact hMid)
                have HY := Lib.hid hy
                have HCf := Lib.hid hcf
                have HX := Lib.hid hx
                have HYT := Lib.hid hyT
                have HLE := Lib.hid (show y.fr ≤ 33 ∧ y.to ≤ 64 by omega)
                have a0 : wr.cell? ⟨G, q * 8, none⟩ = some (.int .i64 x.pl) := row_cells hown2 hT2l q hqT hx 0 (by omega) rfl
                have a1 : wr.cell? ⟨G, q * 8 + 1, none⟩ = some (.int .i64 x.pts) := row_cells hown2 hT2l q hqT hx 1 (by omega) rfl
                have a2 : wr.cell? ⟨G, q * 8 + 2, none⟩ = some (.int .i64 x.b0) := row_cells hown2 hT2l q hqT hx 2 (by omega) rfl
                have a3 : wr.cell? ⟨G, q * 8 + 3, none⟩ = some (.int .i64 x.b1) := row_cells hown2 hT2l q hqT hx 3 (by omega) rfl
                have a4 : wr.cell? ⟨G, q * 8 + 4, none⟩ = some (.int .i64 x.b2) := row_cells hown2 hT2l q hqT hx 4 (by omega) rfl
                have a5 : wr.cell? ⟨G, q * 8 + 5, none⟩ = some (.int .i64 x.b3) := row_cells hown2 hT2l q hqT hx 5 (by omega) rfl
                have a6 : wr.cell? ⟨G, q * 8 + 6, none⟩ = some (.int .i64 x.fr) := row_cells hown2 hT2l q hqT hx 6 (by omega) rfl
                have a7 : wr.cell? ⟨G, q * 8 + 7, none⟩ = some (.int .i64 x.to) := row_cells hown2 hT2l q hqT hx 7 (by omega) rfl
                have HO8 := Lib.hid (hown2.alloc (.cells (encR x).toArray 30))
                have hBx := Box.new wr (encR x) 30
                have HB8 : Hid (Below w2.heap.size w2 (wr.alloc (.cells (encR x).toArray 30))) := Lib.hid (hbl3.alloc hbl3.size _)
                obtain ⟨bx, hbx⟩ : ∃ b, b = wr.heap.size := ⟨_, rfl⟩
                have hbG : G < bx := by rw [hbx]; exact (hown2.lt G rfl).2
                clear hown2 hMid HQ hx hy hyT hcf
                unfold encR at HO8 hBx HB8
                go_upto_region 18 with (fail)
                obtain ⟨wq, hwq⟩ : ∃ wq, wq = wr.alloc (.cells [.int .i64 x.pl, .int .i64 x.pts, .int .i64 x.b0, .int .i64 x.b1, .int .i64 x.b2, .int .i64 x.b3, .int .i64 x.fr, .int .i64 x.to].toArray 30) := ⟨_, rfl⟩
                rw [← hwq] at HO8 hBx HB8 ⊢
                rw [← hbx] at hBx ⊢
                clear hwq hbx a0 a1 a2 a3 a4 a5 a6 a7
                have A0 : ∀ n os, (Sort.grow (wq.drewN n) os).cell? ⟨bx, 0, none⟩ = some (.int .i64 x.pl) := fun n os => cell_grown (by exact hBx.lt) (hBx.cell 0 rfl) n os
                have A1 : ∀ n os, (Sort.grow (wq.drewN n) os).cell? ⟨bx, 1, none⟩ = some (.int .i64 x.pts) := fun n os => cell_grown (by exact hBx.lt) (hBx.cell 1 rfl) n os
                have A2 : ∀ n os, (Sort.grow (wq.drewN n) os).cell? ⟨bx, 2, none⟩ = some (.int .i64 x.b0) := fun n os => cell_grown (by exact hBx.lt) (hBx.cell 2 rfl) n os
                have A3 : ∀ n os, (Sort.grow (wq.drewN n) os).cell? ⟨bx, 3, none⟩ = some (.int .i64 x.b1) := fun n os => cell_grown (by exact hBx.lt) (hBx.cell 3 rfl) n os
                have A4 : ∀ n os, (Sort.grow (wq.drewN n) os).cell? ⟨bx, 4, none⟩ = some (.int .i64 x.b2) := fun n os => cell_grown (by exact hBx.lt) (hBx.cell 4 rfl) n os
                have A5 : ∀ n os, (Sort.grow (wq.drewN n) os).cell? ⟨bx, 5, none⟩ = some (.int .i64 x.b3) := fun n os => cell_grown (by exact hBx.lt) (hBx.cell 5 rfl) n os
                have A6 : ∀ n os, (Sort.grow (wq.drewN n) os).cell? ⟨bx, 6, none⟩ = some (.int .i64 x.fr) := fun n os => cell_grown (by exact hBx.lt) (hBx.cell 6 rfl) n os
                have A7 : ∀ n os, (Sort.grow (wq.drewN n) os).cell? ⟨bx, 7, none⟩ = some (.int .i64 x.to) := fun n os => cell_grown (by exact hBx.lt) (hBx.cell 7 rfl) n os
                have D0 : ∀ n os, (Sort.grow (wq.drewN n) os).cell? ⟨G, k * 8, none⟩ = some (.int .i64 y.pl) := fun n os => cell_grown (by show G < wq.heap.size; exact Nat.lt_trans hbG hBx.lt) (row_cells HO8.out hT2l k hkT2 HYT.out 0 (by omega) rfl) n os
                have D1 : ∀ n os, (Sort.grow (wq.drewN n) os).cell? ⟨G, k * 8 + 1, none⟩ = some (.int .i64 y.pts) := fun n os => cell_grown (by show G < wq.heap.size; exact Nat.lt_trans hbG hBx.lt) (row_cells HO8.out hT2l k hkT2 HYT.out 1 (by omega) rfl) n os
                have D2 : ∀ n os, (Sort.grow (wq.drewN n) os).cell? ⟨G, k * 8 + 2, none⟩ = some (.int .i64 y.b0) := fun n os => cell_grown (by show G < wq.heap.size; exact Nat.lt_trans hbG hBx.lt) (row_cells HO8.out hT2l k hkT2 HYT.out 2 (by omega) rfl) n os
                have D3 : ∀ n os, (Sort.grow (wq.drewN n) os).cell? ⟨G, k * 8 + 3, none⟩ = some (.int .i64 y.b1) := fun n os => cell_grown (by show G < wq.heap.size; exact Nat.lt_trans hbG hBx.lt) (row_cells HO8.out hT2l k hkT2 HYT.out 3 (by omega) rfl) n os
                have D4 : ∀ n os, (Sort.grow (wq.drewN n) os).cell? ⟨G, k * 8 + 4, none⟩ = some (.int .i64 y.b2) := fun n os => cell_grown (by show G < wq.heap.size; exact Nat.lt_trans hbG hBx.lt) (row_cells HO8.out hT2l k hkT2 HYT.out 4 (by omega) rfl) n os
                have D5 : ∀ n os, (Sort.grow (wq.drewN n) os).cell? ⟨G, k * 8 + 5, none⟩ = some (.int .i64 y.b3) := fun n os => cell_grown (by show G < wq.heap.size; exact Nat.lt_trans hbG hBx.lt) (row_cells HO8.out hT2l k hkT2 HYT.out 5 (by omega) rfl) n os
                have D6 : ∀ n os, (Sort.grow (wq.drewN n) os).cell? ⟨G, k * 8 + 6, none⟩ = some (.int .i64 y.fr) := fun n os => cell_grown (by show G < wq.heap.size; exact Nat.lt_trans hbG hBx.lt) (row_cells HO8.out hT2l k hkT2 HYT.out 6 (by omega) rfl) n os
                have D7 : ∀ n os, (Sort.grow (wq.drewN n) os).cell? ⟨G, k * 8 + 7, none⟩ = some (.int .i64 y.to) := fun n os => cell_grown (by show G < wq.heap.size; exact Nat.lt_trans hbG hBx.lt) (row_cells HO8.out hT2l k hkT2 HYT.out 7 (by omega) rfl) n os
                have mixed : Try.prog.follows .mixedOrders = true := by kernel_rfl
                go_quiet_grown (first | (go_at_call 12; exact Calls.grown_of (order_any x y _)))
                have HB9 : Hid (Below w2.heap.size w2 (Sort.grow (wq.drewN nq) osq)) := Lib.hid (HB8.out.trans ((below_grow nq osq).mono HB8.out.size))
                have HO9 := Lib.hid (own_stays HO8.out (below_grow nq osq))
                clear A0 A1 A2 A3 A4 A5 A6 A7 D0 D1 D2 D3 D4 D5 D6 D7 HO8 HB8 hBx
                generalize Sort.grow (wq.drewN nq) osq = w5 at HB9 HO9 ⊢
                have e6 : w5.cell? ⟨G, k * 8 + 6, none⟩ = some (.int .i64 y.fr) := row_cells HO9.out hT2l k hkT2 HYT.out 6 (by omega) rfl
                have e7 : w5.cell? ⟨G, k * 8 + 7, none⟩ = some (.int .i64 y.to) := row_cells HO9.out hT2l k hkT2 HYT.out 7 (by omega) rfl
                have g6 : w5.frozen? ⟨G, k * 8 + 6, none⟩ = false := HO9.out.frozenAt (k * 8 + 6)
                have g7 : w5.frozen? ⟨G, k * 8 + 7, none⟩ = false := HO9.out.frozenAt (k * 8 + 7)
                obtain ⟨y33, y64⟩ := HLE.out
                generalize cfR x y = cc at HCf ⊢
                have HSet6 : Hid ((flatR T2).set (k * 8 + 6) (.int .i64 (y.fr + 1)) = flatR (T2.set k { y with fr := y.fr + 1 })) := Lib.hid (flatR_set T2 k 6 hkT2 (by omega) _ _ (by rw [HYT.out]; rfl))
                have HSet7 : Hid ((flatR T2).set (k * 8 + 7) (.int .i64 (y.to + 1)) = flatR (T2.set k { y with to := y.to + 1 })) := Lib.hid (flatR_set T2 k 7 hkT2 (by omega) _ _ (by rw [HYT.out]; rfl))
                have HSet67 : Hid ((flatR (T2.set k { y with fr := y.fr + 1 })).set (k * 8 + 7) (.int .i64 (y.to + 1)) = flatR (T2.set k { y with fr := y.fr + 1, to := y.to + 1 })) := Lib.hid (by
                  rw [flatR_set (T2.set k { y with fr := y.fr + 1 }) k 7 (by simpa using hkT2) (by omega) _ { y with fr := y.fr + 1, to := y.to + 1 } (by rw [List.getElem_set_self]; rfl), List.set_set])
                rcases Int.lt_trichotomy cc 0 with h | h | h
                · have HM9 : Hid (Mid S (T2.set k { y with fr := y.fr + 1, to := y.to + 1 }) k (finR (S.take (q + 1)) sk)) := Lib.hid (by rw [fin_lt S sk q hqS (by rw [← HCf.out]; exact h), HY.out]; exact HMid.out.set)
                  have HOa : Hid (((w5.setCell ⟨G, k * 8 + 6, none⟩ (.int .i64 (y.fr + 1))).setCell ⟨G, k * 8 + 7, none⟩ (.int .i64 (y.to + 1))).ownsRow w2.heap.size 30 8 (.slice (some ⟨G, 0, none⟩) rs.length cap) rs.length (flatR (T2.set k { y with fr := y.fr + 1, to := y.to + 1 }))) := Lib.hid (by
                    have h1 := (HO9.out.stored (k * 8 + 6) (.int .i64 (y.fr + 1))).1
                    rw [HSet6.out] at h1
                    have h2 := (h1.stored (k * 8 + 7) (.int .i64 (y.to + 1))).1
                    rw [HSet67.out] at h2
                    exact h2)
                  have HBa : Hid (Below w2.heap.size w2 ((w5.setCell ⟨G, k * 8 + 6, none⟩ (.int .i64 (y.fr + 1))).setCell ⟨G, k * 8 + 7, none⟩ (.int .i64 (y.to + 1)))) := Lib.hid ((HB9.out.setCell hGb.1 _).setCell hGb.1 _)
                  go_wp2_with fail
                  go_roundw
                  case rel => exact ⟨q + 1, by omega, by go_num, Lib.hid ⟨_, HOa.out, HM9.out⟩, HBa.out⟩
                  case measure => simp [intOf]; omega
                · subst h
                  have HM9 : Hid (Mid S (T2.set k { y with to := y.to + 1 }) k (finR (S.take (q + 1)) sk)) := Lib.hid (by rw [fin_eq S sk q hqS HCf.out.symm, HY.out]; exact HMid.out.set)
                  have HOa : Hid ((w5.setCell ⟨G, k * 8 + 7, none⟩ (.int .i64 (y.to + 1))).ownsRow w2.heap.size 30 8 (.slice (some ⟨G, 0, none⟩) rs.length cap) rs.length (flatR (T2.set k { y with to := y.to + 1 }))) := Lib.hid (by
                    have h2 := (HO9.out.stored (k * 8 + 7) (.int .i64 (y.to + 1))).1
                    rw [HSet7.out] at h2
                    exact h2)
                  have HBa : Hid (Below w2.heap.size w2 (w5.setCell ⟨G, k * 8 + 7, none⟩ (.int .i64 (y.to + 1)))) := Lib.hid (HB9.out.setCell hGb.1 _)
                  go_wp2_with fail
                  go_roundw
                  case rel => exact ⟨q + 1, by omega, by go_num, Lib.hid ⟨_, HOa.out, HM9.out⟩, HBa.out⟩
                  case measure => simp [intOf]; omega
                · have h0 : ¬ cc < 0 := by omega
                  have h1 : ¬ cc = 0 := by omega
                  have HM9 : Hid (Mid S T2 k (finR (S.take (q + 1)) sk)) := Lib.hid (by rw [fin_gt S sk q hqS (by rw [← HCf.out]; exact h), HY.out]; exact HMid.out)
                  go_wp2_with fail
                  go_roundw
                  case rel => exact ⟨q + 1, by omega, by go_num, Lib.hid ⟨_, HO9.out, HM9.out⟩, HB9.out⟩
                  case measure => simp [intOf]; omega
              · obtain rfl : q = rs.length := by omega
                obtain ⟨T2, hown2, hMid⟩ := HQ.out
                have HO7 := Lib.hid hown2
                have HOut : Hid (Out S T2 (k + 1)) := Lib.hid (Mid.out hkS (by rw [hSN, ← HSK.out]; exact hMid))
                clear hown2 hMid HQ
                go_wp2_with fail
                go_roundw
                case rel => exact ⟨k + 1, by omega, by go_num, Lib.hid ⟨T2, HO7.out, HOut.out⟩, hbl3⟩
                case measure => simp [intOf]; omega
          · obtain rfl : k = rs.length := by omega
            obtain ⟨T, hown, hOut⟩ := HK.out
            have hTl : T.length = rs.length := by rw [hOut.len, hSN]
            have HF := Lib.hid (tab_ok HZ.out HRm.out HSp.out HSs.out hOut.len (fun j h h' => hOut.done j h h' (by omega)))
            have HO7 := Lib.hid (own_base hown HB2.out.size)
            have HTl := Lib.hid hTl
            have HB7 : Hid (Below w.heap.size w _) := Lib.hid (HB2.out.trans (hbl2.mono HB2.out.size))
            clear hown hOut HK
            go_wp2_with fail
            go_ret2
            refine .inr ⟨HC0.out, G, cap, T, by rw [HTl.out]; rfl, by rw [HTl.out]; exact HO7.out, by rw [Int.toNat_natCast]; exact HF.out, HB7.out⟩
  · have HC := Lib.hid hc
    have hcz : ¬ chkS n gs = 0 := hc
    clear hg HS hc
    generalize hcc : chkS n gs = cc at *
    go_enter Try.func6, Try.ntmps6
    go_wp2_with fail
    refine HCk.out.mono ?_
    rintro e w1 ⟨rfl, hb1⟩
    go_wp2_with fail
    go_ret2
    exact .inl ⟨by rw [hcc]; exact HC.out, by rw [hcc]; rfl, hb1⟩
end Go.Proofs.Ytjgnjahnfglbaaa

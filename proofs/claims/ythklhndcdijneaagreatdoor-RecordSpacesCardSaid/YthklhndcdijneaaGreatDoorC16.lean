/- The contract of moves.Make. -/
import Derived.Test.YthklhndcdijneaaGreatDoorC13
import Derived.Test.YthklhndcdijneaaGreatDoorC09
import Derived.Test.YthklhndcdijneaaGreatDoorC05
namespace Go.Proofs.YthklhndcdijneaaGreatDoor
open Go.ChangeShapes Go.WideShapes Go.ChangeAt Go.RowKit
set_option linter.unusedVariables false
theorem getD_set' (l : List Int) (k : Nat) (z : Int) (i : Nat) : (l.set k z).getD i 0 = if k = i ∧ i < l.length then z else l.getD i 0 := by
 rw [List.getD_eq_getElem?_getD, List.getElem?_set, List.getD_eq_getElem?_getD]
 by_cases h : k = i
 ·subst h
  by_cases h2 : k < l.length
  ·simp [h2]
  ·simp [h2]
 ·simp [h]
set_option maxRecDepth 100000 in
set_option maxHeartbeats 4000000 in
theorem Make_any (R : RulesZ) (vp vs ve : Value) (p : PosZ) (vc v0 v1 : Value) (m : MoveZ) (w : World) (hp : RdP w p vc v0 v1) (K : POk R p) (F : Fits R p m) :
  Calls Tryz.prog 46 #[(.agg #[.string R.name, .int .i64 R.width, .int .i64 R.height, vp, vs, .bool R.falls, .bool R.keeps, ve, .int .i64 R.blocked, .int .i64 R.quiet, .int .i64 R.rept]), (.agg #[vc, v0, v1, .int .i64 p.turn, .int .i64 p.quiet]), .agg #[.int .i64 m.src, .int .i64 m.dst, .int .i64 m.piece]] w (MakePost R p m w) := by
 have HP := Lib.hid hp
 have hlen := K.len
 have hnp := K.r.np
 obtain ⟨hd1, hd2⟩ := F.d
 obtain ⟨hs1, hs2⟩ := F.s
 obtain ⟨hk1, hk2⟩ := F.k
 have HB0h := Lib.hid K.b0
 have HB1h := Lib.hid K.b1
 have HCB := Lib.hid (K.cell m.dst.toNat)
 obtain ⟨hq1, hq2⟩ := K.qu
 have hl0 := K.l0
 have hl1 := K.l1
 have HL0 := Lib.hid hl0
 have HL1 := Lib.hid hl1
 obtain ⟨ht0, ht1⟩ : 0 ≤ p.turn ∧ p.turn ≤ 1 := by have := K.tu; omega
 have HHL : Hid ((p.hand p.turn).length = R.pieces.length) := Lib.hid (by unfold PosZ.hand; split <;> omega)
 have HHB : Hid (∀ i, 0 ≤ (p.hand p.turn).getD i 0 ∧ (p.hand p.turn).getD i 0 ≤ 1000) := Lib.hid (fun i => by
  have hb : ∀ c ∈ p.hand p.turn, 0 ≤ c ∧ c ≤ 1000 := by unfold PosZ.hand; split; exact K.b0; exact K.b1
  by_cases hi : i < (p.hand p.turn).length
  ·rw [List.getD_eq_getElem?_getD, List.getElem?_eq_getElem hi]; exact hb _ (List.getElem_mem hi)
  ·rw [List.getD_eq_getElem?_getD, List.getElem?_eq_none (by omega)]; simp)
 clear hp hl0 hl1
 go_enter Tryz.func46, Tryz.ntmps46
 go_upto_region 1 with (fail)
 refine opn4 fun w0 B0 B1 B2 B3 yb_ hs_ => ?_
 have HB := Lib.hid yb_
 have hz0 : w.heap.size + 1 + 1 + 1 < w0.heap.size := by omega
 clear hs_ yb_
 have HPw := Lib.hid (HP.out.below HB.out (Nat.le_refl _))
 have HBr := Lib.hid B0
 have HBp := Lib.hid B1
 have HBm := Lib.hid B2
 have HBz := Lib.hid B3
 have a0 := B1.cell 0 rfl
 have a1 := B1.cell 1 rfl
 have a2 := B1.cell 2 rfl
 have a3 := B1.cell 3 rfl
 have a4 := B1.cell 4 rfl
 clear B0 B1 B2 B3
 go_wp2_with fail
 refine (Copy_any p vc v0 v1 w0 HPw.out (by omega) (by rw [HL0.out]; omega) (by rw [HL1.out]; omega)).mono ?_
 rintro e w1 ⟨xc, x0, x1, rfl, hown, hb1⟩
 have HLC : 0 < p.cells.length := by omega
 obtain ⟨gc, cc, rfl⟩ := own_some hown.1 HLC
 obtain ⟨g0, c0n, rfl⟩ := own_some hown.2.1 (by rw [HL0.out]; omega)
 obtain ⟨g1, c1n, rfl⟩ := own_some hown.2.2.1 (by rw [HL1.out]; omega)
 clear a0 a1 a2 a3 a4
 unfold posV
 go_upto_region 2 with (fail)
 have hs1' := hb1.size
 have HH9 : Hid (Hold w0.heap.size (w1.alloc (.cells #[(Value.slice (some ⟨gc, 0, none⟩) p.cells.length cc), (Value.slice (some ⟨g0, 0, none⟩) p.h0.length c0n), (Value.slice (some ⟨g1, 0, none⟩) p.h1.length c1n), .int .i64 p.turn, .int .i64 p.quiet] 66)) w1.heap.size p.cells (L0 p.turn (p.hand p.turn) p.h0) (L1 p.turn (p.hand p.turn) p.h1) (Value.slice (some ⟨gc, 0, none⟩) p.cells.length cc) (Value.slice (some ⟨g0, 0, none⟩) p.h0.length c0n) (Value.slice (some ⟨g1, 0, none⟩) p.h1.length c1n) p.turn p.quiet) := Lib.hid (by
  have e0 : L0 p.turn (p.hand p.turn) p.h0 = p.h0 := by unfold L0 PosZ.hand; split <;> rfl
  have e1 : L1 p.turn (p.hand p.turn) p.h1 = p.h1 := by unfold L1 PosZ.hand; split <;> rfl
  rw [e0, e1]
  exact ⟨Box.new' w1 w1.heap.size [(Value.slice (some ⟨gc, 0, none⟩) p.cells.length cc), (Value.slice (some ⟨g0, 0, none⟩) p.h0.length c0n), (Value.slice (some ⟨g1, 0, none⟩) p.h1.length c1n), .int .i64 p.turn, .int .i64 p.quiet] _ rfl, hown.1.alloc _, hown.2.1.alloc _, hown.2.2.1.alloc _, hown.2.2.2.1, hown.2.2.2.2.1, hown.2.2.2.2.2, fun k hk => by
   rcases hk with hk | hk | hk
   ·have := (hown.1.lt k hk).2; omega
   ·have := (hown.2.1.lt k hk).2; omega
   ·have := (hown.2.2.1.lt k hk).2; omega⟩)
 have HB9 : Hid (Below w0.heap.size w0 (w1.alloc (.cells #[(Value.slice (some ⟨gc, 0, none⟩) p.cells.length cc), (Value.slice (some ⟨g0, 0, none⟩) p.h0.length c0n), (Value.slice (some ⟨g1, 0, none⟩) p.h1.length c1n), .int .i64 p.turn, .int .i64 p.quiet] 66))) := Lib.hid (hb1.alloc hs1' _)
 clear hown hb1
 generalize (w1.alloc (.cells #[(Value.slice (some ⟨gc, 0, none⟩) p.cells.length cc), (Value.slice (some ⟨g0, 0, none⟩) p.h0.length c0n), (Value.slice (some ⟨g1, 0, none⟩) p.h1.length c1n), .int .i64 p.turn, .int .i64 p.quiet] 66)) = w2 at *
 have hgc := (HH9.out.oc.lt gc rfl).2
 have hbc := (HH9.out.oc.lt gc rfl).1
 obtain ⟨gh, ch, HVH', hgh, hbh, -, -⟩ := row_at HH9.out.oh (by rw [HHL.out]; omega)
 have HVH := Lib.hid HVH'
 clear HVH'
 have hzb := HH9.out.box.lt
 have m0 := (HBm.out.below HB9.out (by omega)).cell 0 rfl
 have m1 := (HBm.out.below HB9.out (by omega)).cell 1 rfl
 have m2 := (HBm.out.below HB9.out (by omega)).cell 2 rfl
 have p3 := (HBp.out.below HB9.out (by omega)).cell 3 rfl
 have p4 := (HBp.out.below HB9.out (by omega)).cell 4 rfl
 have r6 := (HBr.out.below HB9.out (by omega)).cell 6 rfl
 have o0 := HH9.out.box.cell 0 rfl
 have oh := HH9.out.ch ht0 ht1
 have o3 := HH9.out.box.cell 3 rfl
 have o4 := HH9.out.box.cell 4 rfl
 have o3f := HH9.out.box.frozen 3
 have o4f := HH9.out.box.frozen 4
 rw [HVH.out] at oh
 obtain ⟨gx, cx, ex, hgx, hbx, hcx, hfx⟩ := row_at HH9.out.oc HLC
 simp only [Value.slice.injEq, Option.some.injEq, Addr.mk.injEq, and_true, true_and] at ex
 obtain ⟨rfl, -⟩ := ex
 have hck := hcx m.dst.toNat (by omega)
 obtain ⟨hcb1, hcb2⟩ := HCB.out
 obtain ⟨tk, htk⟩ : ∃ tk, p.cells.getD m.dst.toNat 0 = tk := ⟨_, rfl⟩
 rw [htk] at hck hcb1 hcb2
 clear hcx hfx
 have HTK := Lib.hid htk
 clear htk
 go_upto_region 3 with (fail)
 clear hck
 have HMC : Hid (makeCells p m = (if 0 ≤ m.src then p.cells.set m.src.toNat 0 else p.cells).set m.dst.toNat (2 * m.piece + p.turn + 1)) := Lib.hid rfl
 have HMH : Hid (makeHand R p m = (let h1 := if 0 ≤ m.src then p.hand p.turn else (p.hand p.turn).set m.piece.toNat ((p.hand p.turn).getD m.piece.toNat 0 - 1); if 0 < tk ∧ R.keeps = true then h1.set ((tk - 1) / 2).toNat (if 1000 < h1.getD ((tk - 1) / 2).toNat 0 + 1 then 1000 else h1.getD ((tk - 1) / 2).toNat 0 + 1) else h1)) := Lib.hid (by rw [← HTK.out]; rfl)
 have HMQ : Hid ((makeZ R p m).quiet = if 0 < tk ∨ m.src < 0 then 0 else if 200 < p.quiet + 1 then 200 else p.quiet + 1) := Lib.hid (by rw [← HTK.out]; rfl)
 have hhg : R.pieces.length ≤ (p.hand p.turn).length := by rw [HHL.out]; exact Nat.le_refl _
 by_cases hs : 0 ≤ m.src
 ·have HCS : Hid (makeCells p m = (p.cells.set m.src.toNat 0).set m.dst.toNat (2 * m.piece + p.turn + 1)) := Lib.hid (by rw [HMC.out, if_pos hs])
  obtain ⟨gx, cx, ex, hgx, hbx, hcx, hfx⟩ := row_at HH9.out.oc HLC
  simp only [Value.slice.injEq, Option.some.injEq, Addr.mk.injEq, and_true, true_and] at ex
  obtain ⟨rfl, -⟩ := ex
  have ck := hcx m.src.toNat (by omega)
  have cf := hfx m.src.toNat
  clear hcx hfx
  go_upto_region 6 with (fail)
  clear ck cf
  clear m0 m1 m2 p3 p4 r6 o0 oh o3 o4 o3f o4f
  have HHn := Lib.hid (HH9.out.setC (c := cc) rfl m.src.toNat 0)
  have HBn := Lib.hid (Below.setCell HB9.out (p := ⟨gc, m.src.toNat, none⟩) hbc (.int .i64 0))
  clear HH9 HB9
  generalize (w2.setCell ⟨gc, m.src.toNat, none⟩ (.int .i64 0)) = w3 at *
  have HH9 := HHn
  have HB9 := HBn
  clear HHn HBn
  have HHBl : Hid (∀ i, -1 ≤ (p.hand p.turn).getD i 0 ∧ (p.hand p.turn).getD i 0 ≤ 1000) := Lib.hid (fun i => by have := HHB.out i; omega)
  have HVCl : Hid ((Value.slice (some ⟨gc, 0, none⟩) p.cells.length cc) = .slice (some ⟨gc, 0, none⟩) (p.cells.set m.src.toNat 0).length cc) := Lib.hid (by simp)
  have m0 := (HBm.out.below HB9.out (by omega)).cell 0 rfl
  have m1 := (HBm.out.below HB9.out (by omega)).cell 1 rfl
  have m2 := (HBm.out.below HB9.out (by omega)).cell 2 rfl
  have p3 := (HBp.out.below HB9.out (by omega)).cell 3 rfl
  have p4 := (HBp.out.below HB9.out (by omega)).cell 4 rfl
  have r6 := (HBr.out.below HB9.out (by omega)).cell 6 rfl
  have o0 := HH9.out.box.cell 0 rfl
  have oh := HH9.out.ch ht0 ht1
  have o3 := HH9.out.box.cell 3 rfl
  have o4 := HH9.out.box.cell 4 rfl
  have o3f := HH9.out.box.frozen 3
  have o4f := HH9.out.box.frozen 4
  rw [HVH.out] at oh
  obtain ⟨gx, cx, ex, hgx, hbx, hcx, hfx⟩ := row_at HH9.out.oc (by first | omega | (simp; omega))
  simp only [Value.slice.injEq, Option.some.injEq, Addr.mk.injEq, and_true] at ex
  obtain ⟨rfl, -⟩ := ex
  have ck := hcx m.dst.toNat (by first | omega | (simp; omega))
  have cf := hfx m.dst.toNat
  clear hcx hfx
  go_upto_region 7 with (fail)
  clear ck cf
  clear m0 m1 m2 p3 p4 r6 o0 oh o3 o4 o3f o4f
  have HHn := Lib.hid (HH9.out.setC HVCl.out m.dst.toNat (2 * m.piece + p.turn + 1))
  have HBn := Lib.hid (Below.setCell HB9.out (p := ⟨gc, m.dst.toNat, none⟩) hbc (.int .i64 (2 * m.piece + p.turn + 1)))
  clear HH9 HB9
  generalize (w3.setCell ⟨gc, m.dst.toNat, none⟩ (.int .i64 (2 * m.piece + p.turn + 1))) = w4 at *
  have HH9 := HHn
  have HB9 := HBn
  clear HHn HBn
  by_cases htk0 : 0 < tk
  ·cases hkp : R.keeps
   ·have HLF : Hid (makeHand R p m = (p.hand p.turn)) := Lib.hid (by rw [HMH.out]; simp [hkp, hs])
    rw [hkp] at HBr
    have m0 := (HBm.out.below HB9.out (by omega)).cell 0 rfl
    have m1 := (HBm.out.below HB9.out (by omega)).cell 1 rfl
    have m2 := (HBm.out.below HB9.out (by omega)).cell 2 rfl
    have p3 := (HBp.out.below HB9.out (by omega)).cell 3 rfl
    have p4 := (HBp.out.below HB9.out (by omega)).cell 4 rfl
    have r6 := (HBr.out.below HB9.out (by omega)).cell 6 rfl
    have o0 := HH9.out.box.cell 0 rfl
    have oh := HH9.out.ch ht0 ht1
    have o3 := HH9.out.box.cell 3 rfl
    have o4 := HH9.out.box.cell 4 rfl
    have o3f := HH9.out.box.frozen 3
    have o4f := HH9.out.box.frozen 4
    rw [HVH.out] at oh
    obtain ⟨mq, hmq⟩ : ∃ mq : Int, (if (200 : Int) < p.quiet + 1 then 200 else p.quiet + 1) = mq := ⟨_, rfl⟩
    go_upto_region 11 with (fail)
    clear m0 m1 m2 p3 p4 r6 o0 oh o3 o4 o3f o4f
    have HMq := Lib.hid hmq
    clear hmq
    have HHn := Lib.hid (HH9.out.setQ mq)
    have HBn := Lib.hid (Below.setCell HB9.out (p := ⟨w1.heap.size, 4, none⟩) hs1' (.int .i64 mq))
    clear HH9 HB9
    generalize (w4.setCell ⟨w1.heap.size, 4, none⟩ (.int .i64 mq)) = wq1 at *
    have HH9 := HHn
    have HB9 := HBn
    clear HHn HBn
    have m0 := (HBm.out.below HB9.out (by omega)).cell 0 rfl
    have m1 := (HBm.out.below HB9.out (by omega)).cell 1 rfl
    have m2 := (HBm.out.below HB9.out (by omega)).cell 2 rfl
    have p3 := (HBp.out.below HB9.out (by omega)).cell 3 rfl
    have p4 := (HBp.out.below HB9.out (by omega)).cell 4 rfl
    have r6 := (HBr.out.below HB9.out (by omega)).cell 6 rfl
    have o0 := HH9.out.box.cell 0 rfl
    have oh := HH9.out.ch ht0 ht1
    have o3 := HH9.out.box.cell 3 rfl
    have o4 := HH9.out.box.cell 4 rfl
    have o3f := HH9.out.box.frozen 3
    have o4f := HH9.out.box.frozen 4
    rw [HVH.out] at oh
    go_upto_region 13 with (fail)
    clear m0 m1 m2 p3 p4 r6 o0 oh o3 o4 o3f o4f
    have HHn := Lib.hid (HH9.out.setQ 0)
    have HBn := Lib.hid (Below.setCell HB9.out (p := ⟨w1.heap.size, 4, none⟩) hs1' (.int .i64 0))
    clear HH9 HB9
    generalize (wq1.setCell ⟨w1.heap.size, 4, none⟩ (.int .i64 0)) = wq2 at *
    have HH9 := HHn
    have HB9 := HBn
    clear HHn HBn
    have m0 := (HBm.out.below HB9.out (by omega)).cell 0 rfl
    have m1 := (HBm.out.below HB9.out (by omega)).cell 1 rfl
    have m2 := (HBm.out.below HB9.out (by omega)).cell 2 rfl
    have p3 := (HBp.out.below HB9.out (by omega)).cell 3 rfl
    have p4 := (HBp.out.below HB9.out (by omega)).cell 4 rfl
    have r6 := (HBr.out.below HB9.out (by omega)).cell 6 rfl
    have o0 := HH9.out.box.cell 0 rfl
    have oh := HH9.out.ch ht0 ht1
    have o3 := HH9.out.box.cell 3 rfl
    have o4 := HH9.out.box.cell 4 rfl
    have o3f := HH9.out.box.frozen 3
    have o4f := HH9.out.box.frozen 4
    rw [HVH.out] at oh
    go_upto_region 14 with (fail)
    clear m0 m1 m2 p3 p4 r6 o0 oh o3 o4 o3f o4f
    have HHn := Lib.hid (HH9.out.setT (1 - p.turn))
    have HBn := Lib.hid (Below.setCell HB9.out (p := ⟨w1.heap.size, 3, none⟩) hs1' (.int .i64 (1 - p.turn)))
    clear HH9 HB9
    generalize (wq2.setCell ⟨w1.heap.size, 3, none⟩ (.int .i64 (1 - p.turn))) = wq3 at *
    have HH9 := HHn
    have HB9 := HBn
    clear HHn HBn
    have HQ : Hid ((makeZ R p m).quiet = 0) := Lib.hid (by rw [HMQ.out, if_pos (.inl htk0)])
    have HZ9 := Lib.hid (HBz.out.below HB9.out (by omega))
    refine wp_region_lit ?_
    refine wpList_load_box (by rfl) 66 (.tmp 7) (by rfl) w1.heap.size (by rfl) HH9.out.box Tryz.underlying66 (by rfl) (by kernel_rfl) ?_
    refine wpList_store_box (vs := [(Value.slice (some ⟨gc, 0, none⟩) p.cells.length cc), (Value.slice (some ⟨g0, 0, none⟩) p.h0.length c0n), (Value.slice (some ⟨g1, 0, none⟩) p.h1.length c1n), .int .i64 (1 - p.turn), .int .i64 (0)]) (by rfl) 66 (.tmp 6) (.tmp 92) (by rfl) (w.heap.size + 1 + 1 + 1) (by rfl) (by rfl) HZ9.out rfl (by kernel_rfl) (by rfl) ?_
    have HS := Lib.hid (HZ9.out.store (vs := [(Value.slice (some ⟨gc, 0, none⟩) p.cells.length cc), (Value.slice (some ⟨g0, 0, none⟩) p.h0.length c0n), (Value.slice (some ⟨g1, 0, none⟩) p.h1.length c1n), .int .i64 (1 - p.turn), .int .i64 (0)]) rfl)
    have HRc := Lib.hid (own_base (own_setCells HH9.out.oc (b := w.heap.size + 1 + 1 + 1) (by omega) 0 [(Value.slice (some ⟨gc, 0, none⟩) p.cells.length cc), (Value.slice (some ⟨g0, 0, none⟩) p.h0.length c0n), (Value.slice (some ⟨g1, 0, none⟩) p.h1.length c1n), .int .i64 (1 - p.turn), .int .i64 (0)]) (show w.heap.size ≤ w0.heap.size by omega))
    have HR0 := Lib.hid (own_base (own_setCells HH9.out.o0 (b := w.heap.size + 1 + 1 + 1) (by omega) 0 [(Value.slice (some ⟨gc, 0, none⟩) p.cells.length cc), (Value.slice (some ⟨g0, 0, none⟩) p.h0.length c0n), (Value.slice (some ⟨g1, 0, none⟩) p.h1.length c1n), .int .i64 (1 - p.turn), .int .i64 (0)]) (show w.heap.size ≤ w0.heap.size by omega))
    have HR1 := Lib.hid (own_base (own_setCells HH9.out.o1 (b := w.heap.size + 1 + 1 + 1) (by omega) 0 [(Value.slice (some ⟨gc, 0, none⟩) p.cells.length cc), (Value.slice (some ⟨g0, 0, none⟩) p.h0.length c0n), (Value.slice (some ⟨g1, 0, none⟩) p.h1.length c1n), .int .i64 (1 - p.turn), .int .i64 (0)]) (show w.heap.size ≤ w0.heap.size by omega))
    have HLf := Lib.hid (below_setCells (below_trans HB.out HB9.out HB.out.size) (show w.heap.size ≤ w.heap.size + 1 + 1 + 1 by omega) 0 [(Value.slice (some ⟨gc, 0, none⟩) p.cells.length cc), (Value.slice (some ⟨g0, 0, none⟩) p.h0.length c0n), (Value.slice (some ⟨g1, 0, none⟩) p.h1.length c1n), .int .i64 (1 - p.turn), .int .i64 (0)])
    generalize (wq3.setCells (w.heap.size + 1 + 1 + 1) 0 [(Value.slice (some ⟨gc, 0, none⟩) p.cells.length cc), (Value.slice (some ⟨g0, 0, none⟩) p.h0.length c0n), (Value.slice (some ⟨g1, 0, none⟩) p.h1.length c1n), .int .i64 (1 - p.turn), .int .i64 (0)]) = wf at *
    go_wp2_with fail
    exact bodyPost_ret (results_one rfl (by rfl) HS.out Tryz.underlying66 (by rfl) (by kernel_rfl)) rfl ⟨_, _, _, by unfold posV; rw [HQ.out]; rfl, ⟨by show World.ownsRow _ _ _ _ _ (makeCells p m).length (ints (makeCells p m)); rw [HCS.out]; exact HRc.out, by show World.ownsRow _ _ _ _ _ (if p.turn = 0 then makeHand R p m else p.h0).length (ints (if p.turn = 0 then makeHand R p m else p.h0)); rw [HLF.out]; exact HR0.out, by show World.ownsRow _ _ _ _ _ (if p.turn = 0 then p.h1 else makeHand R p m).length (ints (if p.turn = 0 then p.h1 else makeHand R p m)); rw [HLF.out]; exact HR1.out, HH9.out.c0, HH9.out.c1, HH9.out.d01⟩, HLf.out⟩
   ·rw [hkp] at HBr
    have HVHl : Hid ((if p.turn = 0 then (Value.slice (some ⟨g0, 0, none⟩) p.h0.length c0n) else (Value.slice (some ⟨g1, 0, none⟩) p.h1.length c1n)) = .slice (some ⟨gh, 0, none⟩) ((p.hand p.turn)).length ch) := Lib.hid (by first | exact HVH.out | (rw [HVH.out]; simp))
    have m0 := (HBm.out.below HB9.out (by omega)).cell 0 rfl
    have m1 := (HBm.out.below HB9.out (by omega)).cell 1 rfl
    have m2 := (HBm.out.below HB9.out (by omega)).cell 2 rfl
    have p3 := (HBp.out.below HB9.out (by omega)).cell 3 rfl
    have p4 := (HBp.out.below HB9.out (by omega)).cell 4 rfl
    have r6 := (HBr.out.below HB9.out (by omega)).cell 6 rfl
    have o0 := HH9.out.box.cell 0 rfl
    have oh := HH9.out.ch ht0 ht1
    have o3 := HH9.out.box.cell 3 rfl
    have o4 := HH9.out.box.cell 4 rfl
    have o3f := HH9.out.box.frozen 3
    have o4f := HH9.out.box.frozen 4
    rw [HVH.out] at oh
    obtain ⟨gx, cx, ex, hgx, hbx, hcx, hfx⟩ := row_at HH9.out.oh (by first | omega | (simp; omega))
    rw [HVH.out] at ex
    simp only [Value.slice.injEq, Option.some.injEq, Addr.mk.injEq, and_true, true_and] at ex
    obtain ⟨rfl, -⟩ := ex
    have hidx : ((tk - 1) / 2).toNat < ((p.hand p.turn)).length := by first | omega | (simp; omega)
    have ck := hcx ((tk - 1) / 2).toNat hidx
    have cf : w4.drew.frozen? ⟨gh, ((tk - 1) / 2).toNat, none⟩ = false := hfx ((tk - 1) / 2).toNat
    clear hcx hfx
    obtain ⟨xh, hxh⟩ : ∃ xh, ((p.hand p.turn)).getD ((tk - 1) / 2).toNat 0 = xh := ⟨_, rfl⟩
    rw [hxh] at ck
    have hxb : -1 ≤ xh ∧ xh ≤ 1000 := by rw [← hxh]; exact HHBl.out _
    obtain ⟨hxb1, hxb2⟩ := hxb
    have HXH := Lib.hid hxh
    clear hxh
    obtain ⟨mn, hmn⟩ : ∃ mn : Int, (if (1000 : Int) < xh + 1 then 1000 else xh + 1) = mn := ⟨_, rfl⟩
    go_upto_region 9 with (fail)
    have ht2 : p.turn < 2 := by omega
    have hi0 : 0 ≤ (tk - 1) / 2 := by omega
    have hi1 : (tk - 1) / 2 < (((p.hand p.turn).length : Nat) : Int) := by omega
    have hwr : IntKind.i64.wrap (xh + 1) = xh + 1 := IntWalk.i64_in _ (by omega)
    have ck0 : w4.drew.cell? ⟨gh, ((tk - 1) / 2).toNat, none⟩ = some (.int .i64 xh) := ck
    refine wp_region_noPanic ?_
    refine beginL (S := (fun w' => w'.cell? ⟨w.heap.size + 1, 3, none⟩ = some (.int .i64 p.turn) ∧ w'.cell? ⟨w1.heap.size, 1 + p.turn.toNat, none⟩ = some (.slice (some ⟨gh, 0, none⟩) (p.hand p.turn).length ch) ∧ w'.cell? ⟨gh, ((tk - 1) / 2).toNat, none⟩ = some (.int .i64 xh))) (L := [17]) (by kernel_rfl) ⟨p3, oh, ck0⟩ (fun hHeld => ?_)
    refine tkW 0 ?_
    refine tkW 2 ?_
    refine tkW 5 ?_
    refine tkW 6 ?_
    refine tkW 8 ?_
    refine tkW 11 ?_
    refine tkL 1 ?_
    refine tkL 7 ?_
    refine tkW 3 ?_
    refine tkW 9 ?_
    refine tkL 4 ?_
    refine tkL 10 ?_
    refine tkW 12 ?_
    refine tkL 13 ?_
    refine tkW 14 ?_
    refine tkW 15 ?_
    refine tkW 16 ?_
    refine ltL 17 fun K hK => ?_
    go_simp
    refine K_world ?_
    intro w8 e8
    have HHn := Lib.hid (HH9.out.setH HVHl.out ((tk - 1) / 2).toNat (mn)).drew
    have HBn := Lib.hid (below_drew' (Below.setCell HB9.out (p := ⟨gh, ((tk - 1) / 2).toNat, none⟩) hbh (.int .i64 (mn))))
    rw [← e8] at HHn HBn
    clear HH9 HB9 e8
    have HH9 := HHn
    have HB9 := HBn
    clear HHn HBn
    refine hK.out _ _ ?_
    clear hK K
    refine dnN ?_
    clear hHeld ck ck0 cf ht2 hi0 hi1 hwr
    clear m0 m1 m2 p3 p4 r6 o0 oh o3 o4 o3f o4f
    have HMN := Lib.hid hmn
    clear hmn
    go_upto_region 10 with (fail)
    have HLF : Hid (makeHand R p m = ((p.hand p.turn)).set ((tk - 1) / 2).toNat mn) := Lib.hid (by rw [HMH.out]; simp only [hkp, hs, htk0, if_true, and_self]; rw [HXH.out, HMN.out])
    have m0 := (HBm.out.below HB9.out (by omega)).cell 0 rfl
    have m1 := (HBm.out.below HB9.out (by omega)).cell 1 rfl
    have m2 := (HBm.out.below HB9.out (by omega)).cell 2 rfl
    have p3 := (HBp.out.below HB9.out (by omega)).cell 3 rfl
    have p4 := (HBp.out.below HB9.out (by omega)).cell 4 rfl
    have r6 := (HBr.out.below HB9.out (by omega)).cell 6 rfl
    have o0 := HH9.out.box.cell 0 rfl
    have oh := HH9.out.ch ht0 ht1
    have o3 := HH9.out.box.cell 3 rfl
    have o4 := HH9.out.box.cell 4 rfl
    have o3f := HH9.out.box.frozen 3
    have o4f := HH9.out.box.frozen 4
    rw [HVH.out] at oh
    obtain ⟨mq, hmq⟩ : ∃ mq : Int, (if (200 : Int) < p.quiet + 1 then 200 else p.quiet + 1) = mq := ⟨_, rfl⟩
    go_upto_region 11 with (fail)
    clear m0 m1 m2 p3 p4 r6 o0 oh o3 o4 o3f o4f
    have HMq := Lib.hid hmq
    clear hmq
    have HHn := Lib.hid (HH9.out.setQ mq)
    have HBn := Lib.hid (Below.setCell HB9.out (p := ⟨w1.heap.size, 4, none⟩) hs1' (.int .i64 mq))
    clear HH9 HB9
    generalize (w8.setCell ⟨w1.heap.size, 4, none⟩ (.int .i64 mq)) = wq1 at *
    have HH9 := HHn
    have HB9 := HBn
    clear HHn HBn
    have m0 := (HBm.out.below HB9.out (by omega)).cell 0 rfl
    have m1 := (HBm.out.below HB9.out (by omega)).cell 1 rfl
    have m2 := (HBm.out.below HB9.out (by omega)).cell 2 rfl
    have p3 := (HBp.out.below HB9.out (by omega)).cell 3 rfl
    have p4 := (HBp.out.below HB9.out (by omega)).cell 4 rfl
    have r6 := (HBr.out.below HB9.out (by omega)).cell 6 rfl
    have o0 := HH9.out.box.cell 0 rfl
    have oh := HH9.out.ch ht0 ht1
    have o3 := HH9.out.box.cell 3 rfl
    have o4 := HH9.out.box.cell 4 rfl
    have o3f := HH9.out.box.frozen 3
    have o4f := HH9.out.box.frozen 4
    rw [HVH.out] at oh
    go_upto_region 13 with (fail)
    clear m0 m1 m2 p3 p4 r6 o0 oh o3 o4 o3f o4f
    have HHn := Lib.hid (HH9.out.setQ 0)
    have HBn := Lib.hid (Below.setCell HB9.out (p := ⟨w1.heap.size, 4, none⟩) hs1' (.int .i64 0))
    clear HH9 HB9
    generalize (wq1.setCell ⟨w1.heap.size, 4, none⟩ (.int .i64 0)) = wq2 at *
    have HH9 := HHn
    have HB9 := HBn
    clear HHn HBn
    have m0 := (HBm.out.below HB9.out (by omega)).cell 0 rfl
    have m1 := (HBm.out.below HB9.out (by omega)).cell 1 rfl
    have m2 := (HBm.out.below HB9.out (by omega)).cell 2 rfl
    have p3 := (HBp.out.below HB9.out (by omega)).cell 3 rfl
    have p4 := (HBp.out.below HB9.out (by omega)).cell 4 rfl
    have r6 := (HBr.out.below HB9.out (by omega)).cell 6 rfl
    have o0 := HH9.out.box.cell 0 rfl
    have oh := HH9.out.ch ht0 ht1
    have o3 := HH9.out.box.cell 3 rfl
    have o4 := HH9.out.box.cell 4 rfl
    have o3f := HH9.out.box.frozen 3
    have o4f := HH9.out.box.frozen 4
    rw [HVH.out] at oh
    go_upto_region 14 with (fail)
    clear m0 m1 m2 p3 p4 r6 o0 oh o3 o4 o3f o4f
    have HHn := Lib.hid (HH9.out.setT (1 - p.turn))
    have HBn := Lib.hid (Below.setCell HB9.out (p := ⟨w1.heap.size, 3, none⟩) hs1' (.int .i64 (1 - p.turn)))
    clear HH9 HB9
    generalize (wq2.setCell ⟨w1.heap.size, 3, none⟩ (.int .i64 (1 - p.turn))) = wq3 at *
    have HH9 := HHn
    have HB9 := HBn
    clear HHn HBn
    have HQ : Hid ((makeZ R p m).quiet = 0) := Lib.hid (by rw [HMQ.out, if_pos (.inl htk0)])
    have HZ9 := Lib.hid (HBz.out.below HB9.out (by omega))
    refine wp_region_lit ?_
    refine wpList_load_box (by rfl) 66 (.tmp 7) (by rfl) w1.heap.size (by rfl) HH9.out.box Tryz.underlying66 (by rfl) (by kernel_rfl) ?_
    refine wpList_store_box (vs := [(Value.slice (some ⟨gc, 0, none⟩) p.cells.length cc), (Value.slice (some ⟨g0, 0, none⟩) p.h0.length c0n), (Value.slice (some ⟨g1, 0, none⟩) p.h1.length c1n), .int .i64 (1 - p.turn), .int .i64 (0)]) (by rfl) 66 (.tmp 6) (.tmp 92) (by rfl) (w.heap.size + 1 + 1 + 1) (by rfl) (by rfl) HZ9.out rfl (by kernel_rfl) (by rfl) ?_
    have HS := Lib.hid (HZ9.out.store (vs := [(Value.slice (some ⟨gc, 0, none⟩) p.cells.length cc), (Value.slice (some ⟨g0, 0, none⟩) p.h0.length c0n), (Value.slice (some ⟨g1, 0, none⟩) p.h1.length c1n), .int .i64 (1 - p.turn), .int .i64 (0)]) rfl)
    have HRc := Lib.hid (own_base (own_setCells HH9.out.oc (b := w.heap.size + 1 + 1 + 1) (by omega) 0 [(Value.slice (some ⟨gc, 0, none⟩) p.cells.length cc), (Value.slice (some ⟨g0, 0, none⟩) p.h0.length c0n), (Value.slice (some ⟨g1, 0, none⟩) p.h1.length c1n), .int .i64 (1 - p.turn), .int .i64 (0)]) (show w.heap.size ≤ w0.heap.size by omega))
    have HR0 := Lib.hid (own_base (own_setCells HH9.out.o0 (b := w.heap.size + 1 + 1 + 1) (by omega) 0 [(Value.slice (some ⟨gc, 0, none⟩) p.cells.length cc), (Value.slice (some ⟨g0, 0, none⟩) p.h0.length c0n), (Value.slice (some ⟨g1, 0, none⟩) p.h1.length c1n), .int .i64 (1 - p.turn), .int .i64 (0)]) (show w.heap.size ≤ w0.heap.size by omega))
    have HR1 := Lib.hid (own_base (own_setCells HH9.out.o1 (b := w.heap.size + 1 + 1 + 1) (by omega) 0 [(Value.slice (some ⟨gc, 0, none⟩) p.cells.length cc), (Value.slice (some ⟨g0, 0, none⟩) p.h0.length c0n), (Value.slice (some ⟨g1, 0, none⟩) p.h1.length c1n), .int .i64 (1 - p.turn), .int .i64 (0)]) (show w.heap.size ≤ w0.heap.size by omega))
    have HLf := Lib.hid (below_setCells (below_trans HB.out HB9.out HB.out.size) (show w.heap.size ≤ w.heap.size + 1 + 1 + 1 by omega) 0 [(Value.slice (some ⟨gc, 0, none⟩) p.cells.length cc), (Value.slice (some ⟨g0, 0, none⟩) p.h0.length c0n), (Value.slice (some ⟨g1, 0, none⟩) p.h1.length c1n), .int .i64 (1 - p.turn), .int .i64 (0)])
    generalize (wq3.setCells (w.heap.size + 1 + 1 + 1) 0 [(Value.slice (some ⟨gc, 0, none⟩) p.cells.length cc), (Value.slice (some ⟨g0, 0, none⟩) p.h0.length c0n), (Value.slice (some ⟨g1, 0, none⟩) p.h1.length c1n), .int .i64 (1 - p.turn), .int .i64 (0)]) = wf at *
    go_wp2_with fail
    exact bodyPost_ret (results_one rfl (by rfl) HS.out Tryz.underlying66 (by rfl) (by kernel_rfl)) rfl ⟨_, _, _, by unfold posV; rw [HQ.out]; rfl, ⟨by show World.ownsRow _ _ _ _ _ (makeCells p m).length (ints (makeCells p m)); rw [HCS.out]; exact HRc.out, by show World.ownsRow _ _ _ _ _ (if p.turn = 0 then makeHand R p m else p.h0).length (ints (if p.turn = 0 then makeHand R p m else p.h0)); rw [HLF.out]; exact HR0.out, by show World.ownsRow _ _ _ _ _ (if p.turn = 0 then p.h1 else makeHand R p m).length (ints (if p.turn = 0 then p.h1 else makeHand R p m)); rw [HLF.out]; exact HR1.out, HH9.out.c0, HH9.out.c1, HH9.out.d01⟩, HLf.out⟩
  ·have HLF : Hid (makeHand R p m = (p.hand p.turn)) := Lib.hid (by rw [HMH.out]; simp [htk0, hs])
   have m0 := (HBm.out.below HB9.out (by omega)).cell 0 rfl
   have m1 := (HBm.out.below HB9.out (by omega)).cell 1 rfl
   have m2 := (HBm.out.below HB9.out (by omega)).cell 2 rfl
   have p3 := (HBp.out.below HB9.out (by omega)).cell 3 rfl
   have p4 := (HBp.out.below HB9.out (by omega)).cell 4 rfl
   have r6 := (HBr.out.below HB9.out (by omega)).cell 6 rfl
   have o0 := HH9.out.box.cell 0 rfl
   have oh := HH9.out.ch ht0 ht1
   have o3 := HH9.out.box.cell 3 rfl
   have o4 := HH9.out.box.cell 4 rfl
   have o3f := HH9.out.box.frozen 3
   have o4f := HH9.out.box.frozen 4
   rw [HVH.out] at oh
   obtain ⟨mq, hmq⟩ : ∃ mq : Int, (if (200 : Int) < p.quiet + 1 then 200 else p.quiet + 1) = mq := ⟨_, rfl⟩
   go_upto_region 11 with (fail)
   clear m0 m1 m2 p3 p4 r6 o0 oh o3 o4 o3f o4f
   have HMq := Lib.hid hmq
   clear hmq
   have HHn := Lib.hid (HH9.out.setQ mq)
   have HBn := Lib.hid (Below.setCell HB9.out (p := ⟨w1.heap.size, 4, none⟩) hs1' (.int .i64 mq))
   clear HH9 HB9
   generalize (w4.setCell ⟨w1.heap.size, 4, none⟩ (.int .i64 mq)) = wq1 at *
   have HH9 := HHn
   have HB9 := HBn
   clear HHn HBn
   have m0 := (HBm.out.below HB9.out (by omega)).cell 0 rfl
   have m1 := (HBm.out.below HB9.out (by omega)).cell 1 rfl
   have m2 := (HBm.out.below HB9.out (by omega)).cell 2 rfl
   have p3 := (HBp.out.below HB9.out (by omega)).cell 3 rfl
   have p4 := (HBp.out.below HB9.out (by omega)).cell 4 rfl
   have r6 := (HBr.out.below HB9.out (by omega)).cell 6 rfl
   have o0 := HH9.out.box.cell 0 rfl
   have oh := HH9.out.ch ht0 ht1
   have o3 := HH9.out.box.cell 3 rfl
   have o4 := HH9.out.box.cell 4 rfl
   have o3f := HH9.out.box.frozen 3
   have o4f := HH9.out.box.frozen 4
   rw [HVH.out] at oh
   go_upto_region 13 with (fail)
   clear m0 m1 m2 p3 p4 r6 o0 oh o3 o4 o3f o4f
   have m0 := (HBm.out.below HB9.out (by omega)).cell 0 rfl
   have m1 := (HBm.out.below HB9.out (by omega)).cell 1 rfl
   have m2 := (HBm.out.below HB9.out (by omega)).cell 2 rfl
   have p3 := (HBp.out.below HB9.out (by omega)).cell 3 rfl
   have p4 := (HBp.out.below HB9.out (by omega)).cell 4 rfl
   have r6 := (HBr.out.below HB9.out (by omega)).cell 6 rfl
   have o0 := HH9.out.box.cell 0 rfl
   have oh := HH9.out.ch ht0 ht1
   have o3 := HH9.out.box.cell 3 rfl
   have o4 := HH9.out.box.cell 4 rfl
   have o3f := HH9.out.box.frozen 3
   have o4f := HH9.out.box.frozen 4
   rw [HVH.out] at oh
   go_upto_region 14 with (fail)
   clear m0 m1 m2 p3 p4 r6 o0 oh o3 o4 o3f o4f
   have HHn := Lib.hid (HH9.out.setT (1 - p.turn))
   have HBn := Lib.hid (Below.setCell HB9.out (p := ⟨w1.heap.size, 3, none⟩) hs1' (.int .i64 (1 - p.turn)))
   clear HH9 HB9
   generalize (wq1.setCell ⟨w1.heap.size, 3, none⟩ (.int .i64 (1 - p.turn))) = wq3 at *
   have HH9 := HHn
   have HB9 := HBn
   clear HHn HBn
   have HQ : Hid ((makeZ R p m).quiet = mq) := Lib.hid (by rw [HMQ.out, if_neg (by omega), HMq.out])
   have HZ9 := Lib.hid (HBz.out.below HB9.out (by omega))
   refine wp_region_lit ?_
   refine wpList_load_box (by rfl) 66 (.tmp 7) (by rfl) w1.heap.size (by rfl) HH9.out.box Tryz.underlying66 (by rfl) (by kernel_rfl) ?_
   refine wpList_store_box (vs := [(Value.slice (some ⟨gc, 0, none⟩) p.cells.length cc), (Value.slice (some ⟨g0, 0, none⟩) p.h0.length c0n), (Value.slice (some ⟨g1, 0, none⟩) p.h1.length c1n), .int .i64 (1 - p.turn), .int .i64 (mq)]) (by rfl) 66 (.tmp 6) (.tmp 92) (by rfl) (w.heap.size + 1 + 1 + 1) (by rfl) (by rfl) HZ9.out rfl (by kernel_rfl) (by rfl) ?_
   have HS := Lib.hid (HZ9.out.store (vs := [(Value.slice (some ⟨gc, 0, none⟩) p.cells.length cc), (Value.slice (some ⟨g0, 0, none⟩) p.h0.length c0n), (Value.slice (some ⟨g1, 0, none⟩) p.h1.length c1n), .int .i64 (1 - p.turn), .int .i64 (mq)]) rfl)
   have HRc := Lib.hid (own_base (own_setCells HH9.out.oc (b := w.heap.size + 1 + 1 + 1) (by omega) 0 [(Value.slice (some ⟨gc, 0, none⟩) p.cells.length cc), (Value.slice (some ⟨g0, 0, none⟩) p.h0.length c0n), (Value.slice (some ⟨g1, 0, none⟩) p.h1.length c1n), .int .i64 (1 - p.turn), .int .i64 (mq)]) (show w.heap.size ≤ w0.heap.size by omega))
   have HR0 := Lib.hid (own_base (own_setCells HH9.out.o0 (b := w.heap.size + 1 + 1 + 1) (by omega) 0 [(Value.slice (some ⟨gc, 0, none⟩) p.cells.length cc), (Value.slice (some ⟨g0, 0, none⟩) p.h0.length c0n), (Value.slice (some ⟨g1, 0, none⟩) p.h1.length c1n), .int .i64 (1 - p.turn), .int .i64 (mq)]) (show w.heap.size ≤ w0.heap.size by omega))
   have HR1 := Lib.hid (own_base (own_setCells HH9.out.o1 (b := w.heap.size + 1 + 1 + 1) (by omega) 0 [(Value.slice (some ⟨gc, 0, none⟩) p.cells.length cc), (Value.slice (some ⟨g0, 0, none⟩) p.h0.length c0n), (Value.slice (some ⟨g1, 0, none⟩) p.h1.length c1n), .int .i64 (1 - p.turn), .int .i64 (mq)]) (show w.heap.size ≤ w0.heap.size by omega))
   have HLf := Lib.hid (below_setCells (below_trans HB.out HB9.out HB.out.size) (show w.heap.size ≤ w.heap.size + 1 + 1 + 1 by omega) 0 [(Value.slice (some ⟨gc, 0, none⟩) p.cells.length cc), (Value.slice (some ⟨g0, 0, none⟩) p.h0.length c0n), (Value.slice (some ⟨g1, 0, none⟩) p.h1.length c1n), .int .i64 (1 - p.turn), .int .i64 (mq)])
   generalize (wq3.setCells (w.heap.size + 1 + 1 + 1) 0 [(Value.slice (some ⟨gc, 0, none⟩) p.cells.length cc), (Value.slice (some ⟨g0, 0, none⟩) p.h0.length c0n), (Value.slice (some ⟨g1, 0, none⟩) p.h1.length c1n), .int .i64 (1 - p.turn), .int .i64 (mq)]) = wf at *
   go_wp2_with fail
   exact bodyPost_ret (results_one rfl (by rfl) HS.out Tryz.underlying66 (by rfl) (by kernel_rfl)) rfl ⟨_, _, _, by unfold posV; rw [HQ.out]; rfl, ⟨by show World.ownsRow _ _ _ _ _ (makeCells p m).length (ints (makeCells p m)); rw [HCS.out]; exact HRc.out, by show World.ownsRow _ _ _ _ _ (if p.turn = 0 then makeHand R p m else p.h0).length (ints (if p.turn = 0 then makeHand R p m else p.h0)); rw [HLF.out]; exact HR0.out, by show World.ownsRow _ _ _ _ _ (if p.turn = 0 then p.h1 else makeHand R p m).length (ints (if p.turn = 0 then p.h1 else makeHand R p m)); rw [HLF.out]; exact HR1.out, HH9.out.c0, HH9.out.c1, HH9.out.d01⟩, HLf.out⟩
 ·have HCS : Hid (makeCells p m = p.cells.set m.dst.toNat (2 * m.piece + p.turn + 1)) := Lib.hid (by rw [HMC.out, if_neg hs])
  clear m0 m1 m2 p3 p4 r6 o0 oh o3 o4 o3f o4f
  have HVHl : Hid ((if p.turn = 0 then (Value.slice (some ⟨g0, 0, none⟩) p.h0.length c0n) else (Value.slice (some ⟨g1, 0, none⟩) p.h1.length c1n)) = .slice (some ⟨gh, 0, none⟩) (p.hand p.turn).length ch) := Lib.hid (by first | exact HVH.out | (rw [HVH.out]; simp))
  have m0 := (HBm.out.below HB9.out (by omega)).cell 0 rfl
  have m1 := (HBm.out.below HB9.out (by omega)).cell 1 rfl
  have m2 := (HBm.out.below HB9.out (by omega)).cell 2 rfl
  have p3 := (HBp.out.below HB9.out (by omega)).cell 3 rfl
  have p4 := (HBp.out.below HB9.out (by omega)).cell 4 rfl
  have r6 := (HBr.out.below HB9.out (by omega)).cell 6 rfl
  have o0 := HH9.out.box.cell 0 rfl
  have oh := HH9.out.ch ht0 ht1
  have o3 := HH9.out.box.cell 3 rfl
  have o4 := HH9.out.box.cell 4 rfl
  have o3f := HH9.out.box.frozen 3
  have o4f := HH9.out.box.frozen 4
  rw [HVH.out] at oh
  obtain ⟨gx, cx, ex, hgx, hbx, hcx, hfx⟩ := row_at HH9.out.oh (by first | omega | (simp; omega))
  rw [HVH.out] at ex
  simp only [Value.slice.injEq, Option.some.injEq, Addr.mk.injEq, and_true, true_and] at ex
  obtain ⟨rfl, -⟩ := ex
  have hidx : (m.piece).toNat < (p.hand p.turn).length := by first | omega | (simp; omega)
  have ck := hcx (m.piece).toNat hidx
  have cf := hfx (m.piece).toNat
  clear hcx hfx
  obtain ⟨xp, hxp⟩ : ∃ xp, (p.hand p.turn).getD (m.piece).toNat 0 = xp := ⟨_, rfl⟩
  rw [hxp] at ck
  have hxb : 0 ≤ xp ∧ xp ≤ 1000 := by rw [← hxp]; exact HHB.out _
  obtain ⟨hxp1, hxp2⟩ := hxb
  have HXP := Lib.hid hxp
  clear hxp
  go_upto_region 5 with (fail)
  go_region
  clear ck cf
  clear m0 m1 m2 p3 p4 r6 o0 oh o3 o4 o3f o4f
  have HHn := Lib.hid ((HH9.out.setH HVHl.out (m.piece).toNat (xp - 1)).drew)
  have HBn := Lib.hid (below_drew' (Below.setCell HB9.out (p := ⟨gh, (m.piece).toNat, none⟩) hbh (.int .i64 (xp - 1))))
  clear HH9 HB9
  generalize (w2.setCell ⟨gh, (m.piece).toNat, none⟩ (.int .i64 (xp - 1))).drew = w3 at *
  have HH9 := HHn
  have HB9 := HBn
  clear HHn HBn
  go_upto_region 6 with (fail)
  have HHBl : Hid (∀ i, -1 ≤ ((p.hand p.turn).set m.piece.toNat (xp - 1)).getD i 0 ∧ ((p.hand p.turn).set m.piece.toNat (xp - 1)).getD i 0 ≤ 1000) := Lib.hid (fun i => by rw [getD_set']; split; omega; have := HHB.out i; omega)
  have HVCl : Hid ((Value.slice (some ⟨gc, 0, none⟩) p.cells.length cc) = .slice (some ⟨gc, 0, none⟩) (p.cells).length cc) := Lib.hid (by simp)
  have m0 := (HBm.out.below HB9.out (by omega)).cell 0 rfl
  have m1 := (HBm.out.below HB9.out (by omega)).cell 1 rfl
  have m2 := (HBm.out.below HB9.out (by omega)).cell 2 rfl
  have p3 := (HBp.out.below HB9.out (by omega)).cell 3 rfl
  have p4 := (HBp.out.below HB9.out (by omega)).cell 4 rfl
  have r6 := (HBr.out.below HB9.out (by omega)).cell 6 rfl
  have o0 := HH9.out.box.cell 0 rfl
  have oh := HH9.out.ch ht0 ht1
  have o3 := HH9.out.box.cell 3 rfl
  have o4 := HH9.out.box.cell 4 rfl
  have o3f := HH9.out.box.frozen 3
  have o4f := HH9.out.box.frozen 4
  rw [HVH.out] at oh
  obtain ⟨gx, cx, ex, hgx, hbx, hcx, hfx⟩ := row_at HH9.out.oc (by first | omega | (simp; omega))
  simp only [Value.slice.injEq, Option.some.injEq, Addr.mk.injEq, and_true, true_and] at ex
  obtain ⟨rfl, -⟩ := ex
  have ck := hcx m.dst.toNat (by first | omega | (simp; omega))
  have cf := hfx m.dst.toNat
  clear hcx hfx
  go_upto_region 7 with (fail)
  clear ck cf
  clear m0 m1 m2 p3 p4 r6 o0 oh o3 o4 o3f o4f
  have HHn := Lib.hid (HH9.out.setC HVCl.out m.dst.toNat (2 * m.piece + p.turn + 1))
  have HBn := Lib.hid (Below.setCell HB9.out (p := ⟨gc, m.dst.toNat, none⟩) hbc (.int .i64 (2 * m.piece + p.turn + 1)))
  clear HH9 HB9
  generalize (w3.setCell ⟨gc, m.dst.toNat, none⟩ (.int .i64 (2 * m.piece + p.turn + 1))) = w4 at *
  have HH9 := HHn
  have HB9 := HBn
  clear HHn HBn
  by_cases htk0 : 0 < tk
  ·cases hkp : R.keeps
   ·have HLF : Hid (makeHand R p m = ((p.hand p.turn).set m.piece.toNat (xp - 1))) := Lib.hid (by rw [HMH.out, ← HXP.out]; simp [hkp, hs])
    rw [hkp] at HBr
    have m0 := (HBm.out.below HB9.out (by omega)).cell 0 rfl
    have m1 := (HBm.out.below HB9.out (by omega)).cell 1 rfl
    have m2 := (HBm.out.below HB9.out (by omega)).cell 2 rfl
    have p3 := (HBp.out.below HB9.out (by omega)).cell 3 rfl
    have p4 := (HBp.out.below HB9.out (by omega)).cell 4 rfl
    have r6 := (HBr.out.below HB9.out (by omega)).cell 6 rfl
    have o0 := HH9.out.box.cell 0 rfl
    have oh := HH9.out.ch ht0 ht1
    have o3 := HH9.out.box.cell 3 rfl
    have o4 := HH9.out.box.cell 4 rfl
    have o3f := HH9.out.box.frozen 3
    have o4f := HH9.out.box.frozen 4
    rw [HVH.out] at oh
    obtain ⟨mq, hmq⟩ : ∃ mq : Int, (if (200 : Int) < p.quiet + 1 then 200 else p.quiet + 1) = mq := ⟨_, rfl⟩
    go_upto_region 11 with (fail)
    clear m0 m1 m2 p3 p4 r6 o0 oh o3 o4 o3f o4f
    have HMq := Lib.hid hmq
    clear hmq
    have HHn := Lib.hid (HH9.out.setQ mq)
    have HBn := Lib.hid (Below.setCell HB9.out (p := ⟨w1.heap.size, 4, none⟩) hs1' (.int .i64 mq))
    clear HH9 HB9
    generalize (w4.setCell ⟨w1.heap.size, 4, none⟩ (.int .i64 mq)) = wq1 at *
    have HH9 := HHn
    have HB9 := HBn
    clear HHn HBn
    have m0 := (HBm.out.below HB9.out (by omega)).cell 0 rfl
    have m1 := (HBm.out.below HB9.out (by omega)).cell 1 rfl
    have m2 := (HBm.out.below HB9.out (by omega)).cell 2 rfl
    have p3 := (HBp.out.below HB9.out (by omega)).cell 3 rfl
    have p4 := (HBp.out.below HB9.out (by omega)).cell 4 rfl
    have r6 := (HBr.out.below HB9.out (by omega)).cell 6 rfl
    have o0 := HH9.out.box.cell 0 rfl
    have oh := HH9.out.ch ht0 ht1
    have o3 := HH9.out.box.cell 3 rfl
    have o4 := HH9.out.box.cell 4 rfl
    have o3f := HH9.out.box.frozen 3
    have o4f := HH9.out.box.frozen 4
    rw [HVH.out] at oh
    go_upto_region 13 with (fail)
    clear m0 m1 m2 p3 p4 r6 o0 oh o3 o4 o3f o4f
    have HHn := Lib.hid (HH9.out.setQ 0)
    have HBn := Lib.hid (Below.setCell HB9.out (p := ⟨w1.heap.size, 4, none⟩) hs1' (.int .i64 0))
    clear HH9 HB9
    generalize (wq1.setCell ⟨w1.heap.size, 4, none⟩ (.int .i64 0)) = wq2 at *
    have HH9 := HHn
    have HB9 := HBn
    clear HHn HBn
    have m0 := (HBm.out.below HB9.out (by omega)).cell 0 rfl
    have m1 := (HBm.out.below HB9.out (by omega)).cell 1 rfl
    have m2 := (HBm.out.below HB9.out (by omega)).cell 2 rfl
    have p3 := (HBp.out.below HB9.out (by omega)).cell 3 rfl
    have p4 := (HBp.out.below HB9.out (by omega)).cell 4 rfl
    have r6 := (HBr.out.below HB9.out (by omega)).cell 6 rfl
    have o0 := HH9.out.box.cell 0 rfl
    have oh := HH9.out.ch ht0 ht1
    have o3 := HH9.out.box.cell 3 rfl
    have o4 := HH9.out.box.cell 4 rfl
    have o3f := HH9.out.box.frozen 3
    have o4f := HH9.out.box.frozen 4
    rw [HVH.out] at oh
    go_upto_region 14 with (fail)
    clear m0 m1 m2 p3 p4 r6 o0 oh o3 o4 o3f o4f
    have HHn := Lib.hid (HH9.out.setT (1 - p.turn))
    have HBn := Lib.hid (Below.setCell HB9.out (p := ⟨w1.heap.size, 3, none⟩) hs1' (.int .i64 (1 - p.turn)))
    clear HH9 HB9
    generalize (wq2.setCell ⟨w1.heap.size, 3, none⟩ (.int .i64 (1 - p.turn))) = wq3 at *
    have HH9 := HHn
    have HB9 := HBn
    clear HHn HBn
    have HQ : Hid ((makeZ R p m).quiet = 0) := Lib.hid (by rw [HMQ.out, if_pos (.inl htk0)])
    have HZ9 := Lib.hid (HBz.out.below HB9.out (by omega))
    refine wp_region_lit ?_
    refine wpList_load_box (by rfl) 66 (.tmp 7) (by rfl) w1.heap.size (by rfl) HH9.out.box Tryz.underlying66 (by rfl) (by kernel_rfl) ?_
    refine wpList_store_box (vs := [(Value.slice (some ⟨gc, 0, none⟩) p.cells.length cc), (Value.slice (some ⟨g0, 0, none⟩) p.h0.length c0n), (Value.slice (some ⟨g1, 0, none⟩) p.h1.length c1n), .int .i64 (1 - p.turn), .int .i64 (0)]) (by rfl) 66 (.tmp 6) (.tmp 92) (by rfl) (w.heap.size + 1 + 1 + 1) (by rfl) (by rfl) HZ9.out rfl (by kernel_rfl) (by rfl) ?_
    have HS := Lib.hid (HZ9.out.store (vs := [(Value.slice (some ⟨gc, 0, none⟩) p.cells.length cc), (Value.slice (some ⟨g0, 0, none⟩) p.h0.length c0n), (Value.slice (some ⟨g1, 0, none⟩) p.h1.length c1n), .int .i64 (1 - p.turn), .int .i64 (0)]) rfl)
    have HRc := Lib.hid (own_base (own_setCells HH9.out.oc (b := w.heap.size + 1 + 1 + 1) (by omega) 0 [(Value.slice (some ⟨gc, 0, none⟩) p.cells.length cc), (Value.slice (some ⟨g0, 0, none⟩) p.h0.length c0n), (Value.slice (some ⟨g1, 0, none⟩) p.h1.length c1n), .int .i64 (1 - p.turn), .int .i64 (0)]) (show w.heap.size ≤ w0.heap.size by omega))
    have HR0 := Lib.hid (own_base (own_setCells HH9.out.o0 (b := w.heap.size + 1 + 1 + 1) (by omega) 0 [(Value.slice (some ⟨gc, 0, none⟩) p.cells.length cc), (Value.slice (some ⟨g0, 0, none⟩) p.h0.length c0n), (Value.slice (some ⟨g1, 0, none⟩) p.h1.length c1n), .int .i64 (1 - p.turn), .int .i64 (0)]) (show w.heap.size ≤ w0.heap.size by omega))
    have HR1 := Lib.hid (own_base (own_setCells HH9.out.o1 (b := w.heap.size + 1 + 1 + 1) (by omega) 0 [(Value.slice (some ⟨gc, 0, none⟩) p.cells.length cc), (Value.slice (some ⟨g0, 0, none⟩) p.h0.length c0n), (Value.slice (some ⟨g1, 0, none⟩) p.h1.length c1n), .int .i64 (1 - p.turn), .int .i64 (0)]) (show w.heap.size ≤ w0.heap.size by omega))
    have HLf := Lib.hid (below_setCells (below_trans HB.out HB9.out HB.out.size) (show w.heap.size ≤ w.heap.size + 1 + 1 + 1 by omega) 0 [(Value.slice (some ⟨gc, 0, none⟩) p.cells.length cc), (Value.slice (some ⟨g0, 0, none⟩) p.h0.length c0n), (Value.slice (some ⟨g1, 0, none⟩) p.h1.length c1n), .int .i64 (1 - p.turn), .int .i64 (0)])
    generalize (wq3.setCells (w.heap.size + 1 + 1 + 1) 0 [(Value.slice (some ⟨gc, 0, none⟩) p.cells.length cc), (Value.slice (some ⟨g0, 0, none⟩) p.h0.length c0n), (Value.slice (some ⟨g1, 0, none⟩) p.h1.length c1n), .int .i64 (1 - p.turn), .int .i64 (0)]) = wf at *
    go_wp2_with fail
    exact bodyPost_ret (results_one rfl (by rfl) HS.out Tryz.underlying66 (by rfl) (by kernel_rfl)) rfl ⟨_, _, _, by unfold posV; rw [HQ.out]; rfl, ⟨by show World.ownsRow _ _ _ _ _ (makeCells p m).length (ints (makeCells p m)); rw [HCS.out]; exact HRc.out, by show World.ownsRow _ _ _ _ _ (if p.turn = 0 then makeHand R p m else p.h0).length (ints (if p.turn = 0 then makeHand R p m else p.h0)); rw [HLF.out]; exact HR0.out, by show World.ownsRow _ _ _ _ _ (if p.turn = 0 then p.h1 else makeHand R p m).length (ints (if p.turn = 0 then p.h1 else makeHand R p m)); rw [HLF.out]; exact HR1.out, HH9.out.c0, HH9.out.c1, HH9.out.d01⟩, HLf.out⟩
   ·rw [hkp] at HBr
    have HVHl : Hid ((if p.turn = 0 then (Value.slice (some ⟨g0, 0, none⟩) p.h0.length c0n) else (Value.slice (some ⟨g1, 0, none⟩) p.h1.length c1n)) = .slice (some ⟨gh, 0, none⟩) (((p.hand p.turn).set m.piece.toNat (xp - 1))).length ch) := Lib.hid (by first | exact HVH.out | (rw [HVH.out]; simp))
    have m0 := (HBm.out.below HB9.out (by omega)).cell 0 rfl
    have m1 := (HBm.out.below HB9.out (by omega)).cell 1 rfl
    have m2 := (HBm.out.below HB9.out (by omega)).cell 2 rfl
    have p3 := (HBp.out.below HB9.out (by omega)).cell 3 rfl
    have p4 := (HBp.out.below HB9.out (by omega)).cell 4 rfl
    have r6 := (HBr.out.below HB9.out (by omega)).cell 6 rfl
    have o0 := HH9.out.box.cell 0 rfl
    have oh := HH9.out.ch ht0 ht1
    have o3 := HH9.out.box.cell 3 rfl
    have o4 := HH9.out.box.cell 4 rfl
    have o3f := HH9.out.box.frozen 3
    have o4f := HH9.out.box.frozen 4
    rw [HVH.out] at oh
    obtain ⟨gx, cx, ex, hgx, hbx, hcx, hfx⟩ := row_at HH9.out.oh (by first | omega | (simp; omega))
    rw [HVH.out] at ex
    simp only [Value.slice.injEq, Option.some.injEq, Addr.mk.injEq, and_true] at ex
    obtain ⟨rfl, -⟩ := ex
    have hidx : ((tk - 1) / 2).toNat < (((p.hand p.turn).set m.piece.toNat (xp - 1))).length := by first | omega | (simp; omega)
    have ck := hcx ((tk - 1) / 2).toNat hidx
    have cf : w4.drew.frozen? ⟨gh, ((tk - 1) / 2).toNat, none⟩ = false := hfx ((tk - 1) / 2).toNat
    clear hcx hfx
    obtain ⟨xh, hxh⟩ : ∃ xh, (((p.hand p.turn).set m.piece.toNat (xp - 1))).getD ((tk - 1) / 2).toNat 0 = xh := ⟨_, rfl⟩
    rw [hxh] at ck
    have hxb : -1 ≤ xh ∧ xh ≤ 1000 := by rw [← hxh]; exact HHBl.out _
    obtain ⟨hxb1, hxb2⟩ := hxb
    have HXH := Lib.hid hxh
    clear hxh
    obtain ⟨mn, hmn⟩ : ∃ mn : Int, (if (1000 : Int) < xh + 1 then 1000 else xh + 1) = mn := ⟨_, rfl⟩
    go_upto_region 9 with (fail)
    have ht2 : p.turn < 2 := by omega
    have hi0 : 0 ≤ (tk - 1) / 2 := by omega
    have hi1 : (tk - 1) / 2 < (((p.hand p.turn).length : Nat) : Int) := by omega
    have hwr : IntKind.i64.wrap (xh + 1) = xh + 1 := IntWalk.i64_in _ (by omega)
    have ck0 : w4.drew.cell? ⟨gh, ((tk - 1) / 2).toNat, none⟩ = some (.int .i64 xh) := ck
    refine wp_region_noPanic ?_
    refine beginL (S := (fun w' => w'.cell? ⟨w.heap.size + 1, 3, none⟩ = some (.int .i64 p.turn) ∧ w'.cell? ⟨w1.heap.size, 1 + p.turn.toNat, none⟩ = some (.slice (some ⟨gh, 0, none⟩) (p.hand p.turn).length ch) ∧ w'.cell? ⟨gh, ((tk - 1) / 2).toNat, none⟩ = some (.int .i64 xh))) (L := [17]) (by kernel_rfl) ⟨p3, oh, ck0⟩ (fun hHeld => ?_)
    refine tkW 0 ?_
    refine tkW 2 ?_
    refine tkW 5 ?_
    refine tkW 6 ?_
    refine tkW 8 ?_
    refine tkW 11 ?_
    refine tkL 1 ?_
    refine tkL 7 ?_
    refine tkW 3 ?_
    refine tkW 9 ?_
    refine tkL 4 ?_
    refine tkL 10 ?_
    refine tkW 12 ?_
    refine tkL 13 ?_
    refine tkW 14 ?_
    refine tkW 15 ?_
    refine tkW 16 ?_
    refine ltL 17 fun K hK => ?_
    go_simp
    refine K_world ?_
    intro w8 e8
    have HHn := Lib.hid (HH9.out.setH HVHl.out ((tk - 1) / 2).toNat (mn)).drew
    have HBn := Lib.hid (below_drew' (Below.setCell HB9.out (p := ⟨gh, ((tk - 1) / 2).toNat, none⟩) hbh (.int .i64 (mn))))
    rw [← e8] at HHn HBn
    clear HH9 HB9 e8
    have HH9 := HHn
    have HB9 := HBn
    clear HHn HBn
    refine hK.out _ _ ?_
    clear hK K
    refine dnN ?_
    clear hHeld ck ck0 cf ht2 hi0 hi1 hwr
    clear m0 m1 m2 p3 p4 r6 o0 oh o3 o4 o3f o4f
    have HMN := Lib.hid hmn
    clear hmn
    go_upto_region 10 with (fail)
    have HLF : Hid (makeHand R p m = (((p.hand p.turn).set m.piece.toNat (xp - 1))).set ((tk - 1) / 2).toNat mn) := Lib.hid (by rw [HMH.out]; simp only [hkp, hs, htk0, if_true, if_false, and_self]; rw [HXP.out]; rw [HXH.out, HMN.out])
    have m0 := (HBm.out.below HB9.out (by omega)).cell 0 rfl
    have m1 := (HBm.out.below HB9.out (by omega)).cell 1 rfl
    have m2 := (HBm.out.below HB9.out (by omega)).cell 2 rfl
    have p3 := (HBp.out.below HB9.out (by omega)).cell 3 rfl
    have p4 := (HBp.out.below HB9.out (by omega)).cell 4 rfl
    have r6 := (HBr.out.below HB9.out (by omega)).cell 6 rfl
    have o0 := HH9.out.box.cell 0 rfl
    have oh := HH9.out.ch ht0 ht1
    have o3 := HH9.out.box.cell 3 rfl
    have o4 := HH9.out.box.cell 4 rfl
    have o3f := HH9.out.box.frozen 3
    have o4f := HH9.out.box.frozen 4
    rw [HVH.out] at oh
    obtain ⟨mq, hmq⟩ : ∃ mq : Int, (if (200 : Int) < p.quiet + 1 then 200 else p.quiet + 1) = mq := ⟨_, rfl⟩
    go_upto_region 11 with (fail)
    clear m0 m1 m2 p3 p4 r6 o0 oh o3 o4 o3f o4f
    have HMq := Lib.hid hmq
    clear hmq
    have HHn := Lib.hid (HH9.out.setQ mq)
    have HBn := Lib.hid (Below.setCell HB9.out (p := ⟨w1.heap.size, 4, none⟩) hs1' (.int .i64 mq))
    clear HH9 HB9
    generalize (w8.setCell ⟨w1.heap.size, 4, none⟩ (.int .i64 mq)) = wq1 at *
    have HH9 := HHn
    have HB9 := HBn
    clear HHn HBn
    have m0 := (HBm.out.below HB9.out (by omega)).cell 0 rfl
    have m1 := (HBm.out.below HB9.out (by omega)).cell 1 rfl
    have m2 := (HBm.out.below HB9.out (by omega)).cell 2 rfl
    have p3 := (HBp.out.below HB9.out (by omega)).cell 3 rfl
    have p4 := (HBp.out.below HB9.out (by omega)).cell 4 rfl
    have r6 := (HBr.out.below HB9.out (by omega)).cell 6 rfl
    have o0 := HH9.out.box.cell 0 rfl
    have oh := HH9.out.ch ht0 ht1
    have o3 := HH9.out.box.cell 3 rfl
    have o4 := HH9.out.box.cell 4 rfl
    have o3f := HH9.out.box.frozen 3
    have o4f := HH9.out.box.frozen 4
    rw [HVH.out] at oh
    go_upto_region 13 with (fail)
    clear m0 m1 m2 p3 p4 r6 o0 oh o3 o4 o3f o4f
    have HHn := Lib.hid (HH9.out.setQ 0)
    have HBn := Lib.hid (Below.setCell HB9.out (p := ⟨w1.heap.size, 4, none⟩) hs1' (.int .i64 0))
    clear HH9 HB9
    generalize (wq1.setCell ⟨w1.heap.size, 4, none⟩ (.int .i64 0)) = wq2 at *
    have HH9 := HHn
    have HB9 := HBn
    clear HHn HBn
    have m0 := (HBm.out.below HB9.out (by omega)).cell 0 rfl
    have m1 := (HBm.out.below HB9.out (by omega)).cell 1 rfl
    have m2 := (HBm.out.below HB9.out (by omega)).cell 2 rfl
    have p3 := (HBp.out.below HB9.out (by omega)).cell 3 rfl
    have p4 := (HBp.out.below HB9.out (by omega)).cell 4 rfl
    have r6 := (HBr.out.below HB9.out (by omega)).cell 6 rfl
    have o0 := HH9.out.box.cell 0 rfl
    have oh := HH9.out.ch ht0 ht1
    have o3 := HH9.out.box.cell 3 rfl
    have o4 := HH9.out.box.cell 4 rfl
    have o3f := HH9.out.box.frozen 3
    have o4f := HH9.out.box.frozen 4
    rw [HVH.out] at oh
    go_upto_region 14 with (fail)
    clear m0 m1 m2 p3 p4 r6 o0 oh o3 o4 o3f o4f
    have HHn := Lib.hid (HH9.out.setT (1 - p.turn))
    have HBn := Lib.hid (Below.setCell HB9.out (p := ⟨w1.heap.size, 3, none⟩) hs1' (.int .i64 (1 - p.turn)))
    clear HH9 HB9
    generalize (wq2.setCell ⟨w1.heap.size, 3, none⟩ (.int .i64 (1 - p.turn))) = wq3 at *
    have HH9 := HHn
    have HB9 := HBn
    clear HHn HBn
    have HQ : Hid ((makeZ R p m).quiet = 0) := Lib.hid (by rw [HMQ.out, if_pos (.inl htk0)])
    have HZ9 := Lib.hid (HBz.out.below HB9.out (by omega))
    refine wp_region_lit ?_
    refine wpList_load_box (by rfl) 66 (.tmp 7) (by rfl) w1.heap.size (by rfl) HH9.out.box Tryz.underlying66 (by rfl) (by kernel_rfl) ?_
    refine wpList_store_box (vs := [(Value.slice (some ⟨gc, 0, none⟩) p.cells.length cc), (Value.slice (some ⟨g0, 0, none⟩) p.h0.length c0n), (Value.slice (some ⟨g1, 0, none⟩) p.h1.length c1n), .int .i64 (1 - p.turn), .int .i64 (0)]) (by rfl) 66 (.tmp 6) (.tmp 92) (by rfl) (w.heap.size + 1 + 1 + 1) (by rfl) (by rfl) HZ9.out rfl (by kernel_rfl) (by rfl) ?_
    have HS := Lib.hid (HZ9.out.store (vs := [(Value.slice (some ⟨gc, 0, none⟩) p.cells.length cc), (Value.slice (some ⟨g0, 0, none⟩) p.h0.length c0n), (Value.slice (some ⟨g1, 0, none⟩) p.h1.length c1n), .int .i64 (1 - p.turn), .int .i64 (0)]) rfl)
    have HRc := Lib.hid (own_base (own_setCells HH9.out.oc (b := w.heap.size + 1 + 1 + 1) (by omega) 0 [(Value.slice (some ⟨gc, 0, none⟩) p.cells.length cc), (Value.slice (some ⟨g0, 0, none⟩) p.h0.length c0n), (Value.slice (some ⟨g1, 0, none⟩) p.h1.length c1n), .int .i64 (1 - p.turn), .int .i64 (0)]) (show w.heap.size ≤ w0.heap.size by omega))
    have HR0 := Lib.hid (own_base (own_setCells HH9.out.o0 (b := w.heap.size + 1 + 1 + 1) (by omega) 0 [(Value.slice (some ⟨gc, 0, none⟩) p.cells.length cc), (Value.slice (some ⟨g0, 0, none⟩) p.h0.length c0n), (Value.slice (some ⟨g1, 0, none⟩) p.h1.length c1n), .int .i64 (1 - p.turn), .int .i64 (0)]) (show w.heap.size ≤ w0.heap.size by omega))
    have HR1 := Lib.hid (own_base (own_setCells HH9.out.o1 (b := w.heap.size + 1 + 1 + 1) (by omega) 0 [(Value.slice (some ⟨gc, 0, none⟩) p.cells.length cc), (Value.slice (some ⟨g0, 0, none⟩) p.h0.length c0n), (Value.slice (some ⟨g1, 0, none⟩) p.h1.length c1n), .int .i64 (1 - p.turn), .int .i64 (0)]) (show w.heap.size ≤ w0.heap.size by omega))
    have HLf := Lib.hid (below_setCells (below_trans HB.out HB9.out HB.out.size) (show w.heap.size ≤ w.heap.size + 1 + 1 + 1 by omega) 0 [(Value.slice (some ⟨gc, 0, none⟩) p.cells.length cc), (Value.slice (some ⟨g0, 0, none⟩) p.h0.length c0n), (Value.slice (some ⟨g1, 0, none⟩) p.h1.length c1n), .int .i64 (1 - p.turn), .int .i64 (0)])
    generalize (wq3.setCells (w.heap.size + 1 + 1 + 1) 0 [(Value.slice (some ⟨gc, 0, none⟩) p.cells.length cc), (Value.slice (some ⟨g0, 0, none⟩) p.h0.length c0n), (Value.slice (some ⟨g1, 0, none⟩) p.h1.length c1n), .int .i64 (1 - p.turn), .int .i64 (0)]) = wf at *
    go_wp2_with fail
    exact bodyPost_ret (results_one rfl (by rfl) HS.out Tryz.underlying66 (by rfl) (by kernel_rfl)) rfl ⟨_, _, _, by unfold posV; rw [HQ.out]; rfl, ⟨by show World.ownsRow _ _ _ _ _ (makeCells p m).length (ints (makeCells p m)); rw [HCS.out]; exact HRc.out, by show World.ownsRow _ _ _ _ _ (if p.turn = 0 then makeHand R p m else p.h0).length (ints (if p.turn = 0 then makeHand R p m else p.h0)); rw [HLF.out]; exact HR0.out, by show World.ownsRow _ _ _ _ _ (if p.turn = 0 then p.h1 else makeHand R p m).length (ints (if p.turn = 0 then p.h1 else makeHand R p m)); rw [HLF.out]; exact HR1.out, HH9.out.c0, HH9.out.c1, HH9.out.d01⟩, HLf.out⟩
  ·have HLF : Hid (makeHand R p m = ((p.hand p.turn).set m.piece.toNat (xp - 1))) := Lib.hid (by rw [HMH.out, ← HXP.out]; simp [htk0, hs])
   have m0 := (HBm.out.below HB9.out (by omega)).cell 0 rfl
   have m1 := (HBm.out.below HB9.out (by omega)).cell 1 rfl
   have m2 := (HBm.out.below HB9.out (by omega)).cell 2 rfl
   have p3 := (HBp.out.below HB9.out (by omega)).cell 3 rfl
   have p4 := (HBp.out.below HB9.out (by omega)).cell 4 rfl
   have r6 := (HBr.out.below HB9.out (by omega)).cell 6 rfl
   have o0 := HH9.out.box.cell 0 rfl
   have oh := HH9.out.ch ht0 ht1
   have o3 := HH9.out.box.cell 3 rfl
   have o4 := HH9.out.box.cell 4 rfl
   have o3f := HH9.out.box.frozen 3
   have o4f := HH9.out.box.frozen 4
   rw [HVH.out] at oh
   obtain ⟨mq, hmq⟩ : ∃ mq : Int, (if (200 : Int) < p.quiet + 1 then 200 else p.quiet + 1) = mq := ⟨_, rfl⟩
   go_upto_region 11 with (fail)
   clear m0 m1 m2 p3 p4 r6 o0 oh o3 o4 o3f o4f
   have HMq := Lib.hid hmq
   clear hmq
   have HHn := Lib.hid (HH9.out.setQ mq)
   have HBn := Lib.hid (Below.setCell HB9.out (p := ⟨w1.heap.size, 4, none⟩) hs1' (.int .i64 mq))
   clear HH9 HB9
   generalize (w4.setCell ⟨w1.heap.size, 4, none⟩ (.int .i64 mq)) = wq1 at *
   have HH9 := HHn
   have HB9 := HBn
   clear HHn HBn
   have m0 := (HBm.out.below HB9.out (by omega)).cell 0 rfl
   have m1 := (HBm.out.below HB9.out (by omega)).cell 1 rfl
   have m2 := (HBm.out.below HB9.out (by omega)).cell 2 rfl
   have p3 := (HBp.out.below HB9.out (by omega)).cell 3 rfl
   have p4 := (HBp.out.below HB9.out (by omega)).cell 4 rfl
   have r6 := (HBr.out.below HB9.out (by omega)).cell 6 rfl
   have o0 := HH9.out.box.cell 0 rfl
   have oh := HH9.out.ch ht0 ht1
   have o3 := HH9.out.box.cell 3 rfl
   have o4 := HH9.out.box.cell 4 rfl
   have o3f := HH9.out.box.frozen 3
   have o4f := HH9.out.box.frozen 4
   rw [HVH.out] at oh
   go_upto_region 13 with (fail)
   clear m0 m1 m2 p3 p4 r6 o0 oh o3 o4 o3f o4f
   have HHn := Lib.hid (HH9.out.setQ 0)
   have HBn := Lib.hid (Below.setCell HB9.out (p := ⟨w1.heap.size, 4, none⟩) hs1' (.int .i64 0))
   clear HH9 HB9
   generalize (wq1.setCell ⟨w1.heap.size, 4, none⟩ (.int .i64 0)) = wq2 at *
   have HH9 := HHn
   have HB9 := HBn
   clear HHn HBn
   have m0 := (HBm.out.below HB9.out (by omega)).cell 0 rfl
   have m1 := (HBm.out.below HB9.out (by omega)).cell 1 rfl
   have m2 := (HBm.out.below HB9.out (by omega)).cell 2 rfl
   have p3 := (HBp.out.below HB9.out (by omega)).cell 3 rfl
   have p4 := (HBp.out.below HB9.out (by omega)).cell 4 rfl
   have r6 := (HBr.out.below HB9.out (by omega)).cell 6 rfl
   have o0 := HH9.out.box.cell 0 rfl
   have oh := HH9.out.ch ht0 ht1
   have o3 := HH9.out.box.cell 3 rfl
   have o4 := HH9.out.box.cell 4 rfl
   have o3f := HH9.out.box.frozen 3
   have o4f := HH9.out.box.frozen 4
   rw [HVH.out] at oh
   go_upto_region 14 with (fail)
   clear m0 m1 m2 p3 p4 r6 o0 oh o3 o4 o3f o4f
   have HHn := Lib.hid (HH9.out.setT (1 - p.turn))
   have HBn := Lib.hid (Below.setCell HB9.out (p := ⟨w1.heap.size, 3, none⟩) hs1' (.int .i64 (1 - p.turn)))
   clear HH9 HB9
   generalize (wq2.setCell ⟨w1.heap.size, 3, none⟩ (.int .i64 (1 - p.turn))) = wq3 at *
   have HH9 := HHn
   have HB9 := HBn
   clear HHn HBn
   have HQ : Hid ((makeZ R p m).quiet = 0) := Lib.hid (by rw [HMQ.out, if_pos (.inr (by omega))])
   have HZ9 := Lib.hid (HBz.out.below HB9.out (by omega))
   refine wp_region_lit ?_
   refine wpList_load_box (by rfl) 66 (.tmp 7) (by rfl) w1.heap.size (by rfl) HH9.out.box Tryz.underlying66 (by rfl) (by kernel_rfl) ?_
   refine wpList_store_box (vs := [(Value.slice (some ⟨gc, 0, none⟩) p.cells.length cc), (Value.slice (some ⟨g0, 0, none⟩) p.h0.length c0n), (Value.slice (some ⟨g1, 0, none⟩) p.h1.length c1n), .int .i64 (1 - p.turn), .int .i64 (0)]) (by rfl) 66 (.tmp 6) (.tmp 92) (by rfl) (w.heap.size + 1 + 1 + 1) (by rfl) (by rfl) HZ9.out rfl (by kernel_rfl) (by rfl) ?_
   have HS := Lib.hid (HZ9.out.store (vs := [(Value.slice (some ⟨gc, 0, none⟩) p.cells.length cc), (Value.slice (some ⟨g0, 0, none⟩) p.h0.length c0n), (Value.slice (some ⟨g1, 0, none⟩) p.h1.length c1n), .int .i64 (1 - p.turn), .int .i64 (0)]) rfl)
   have HRc := Lib.hid (own_base (own_setCells HH9.out.oc (b := w.heap.size + 1 + 1 + 1) (by omega) 0 [(Value.slice (some ⟨gc, 0, none⟩) p.cells.length cc), (Value.slice (some ⟨g0, 0, none⟩) p.h0.length c0n), (Value.slice (some ⟨g1, 0, none⟩) p.h1.length c1n), .int .i64 (1 - p.turn), .int .i64 (0)]) (show w.heap.size ≤ w0.heap.size by omega))
   have HR0 := Lib.hid (own_base (own_setCells HH9.out.o0 (b := w.heap.size + 1 + 1 + 1) (by omega) 0 [(Value.slice (some ⟨gc, 0, none⟩) p.cells.length cc), (Value.slice (some ⟨g0, 0, none⟩) p.h0.length c0n), (Value.slice (some ⟨g1, 0, none⟩) p.h1.length c1n), .int .i64 (1 - p.turn), .int .i64 (0)]) (show w.heap.size ≤ w0.heap.size by omega))
   have HR1 := Lib.hid (own_base (own_setCells HH9.out.o1 (b := w.heap.size + 1 + 1 + 1) (by omega) 0 [(Value.slice (some ⟨gc, 0, none⟩) p.cells.length cc), (Value.slice (some ⟨g0, 0, none⟩) p.h0.length c0n), (Value.slice (some ⟨g1, 0, none⟩) p.h1.length c1n), .int .i64 (1 - p.turn), .int .i64 (0)]) (show w.heap.size ≤ w0.heap.size by omega))
   have HLf := Lib.hid (below_setCells (below_trans HB.out HB9.out HB.out.size) (show w.heap.size ≤ w.heap.size + 1 + 1 + 1 by omega) 0 [(Value.slice (some ⟨gc, 0, none⟩) p.cells.length cc), (Value.slice (some ⟨g0, 0, none⟩) p.h0.length c0n), (Value.slice (some ⟨g1, 0, none⟩) p.h1.length c1n), .int .i64 (1 - p.turn), .int .i64 (0)])
   generalize (wq3.setCells (w.heap.size + 1 + 1 + 1) 0 [(Value.slice (some ⟨gc, 0, none⟩) p.cells.length cc), (Value.slice (some ⟨g0, 0, none⟩) p.h0.length c0n), (Value.slice (some ⟨g1, 0, none⟩) p.h1.length c1n), .int .i64 (1 - p.turn), .int .i64 (0)]) = wf at *
   go_wp2_with fail
   exact bodyPost_ret (results_one rfl (by rfl) HS.out Tryz.underlying66 (by rfl) (by kernel_rfl)) rfl ⟨_, _, _, by unfold posV; rw [HQ.out]; rfl, ⟨by show World.ownsRow _ _ _ _ _ (makeCells p m).length (ints (makeCells p m)); rw [HCS.out]; exact HRc.out, by show World.ownsRow _ _ _ _ _ (if p.turn = 0 then makeHand R p m else p.h0).length (ints (if p.turn = 0 then makeHand R p m else p.h0)); rw [HLF.out]; exact HR0.out, by show World.ownsRow _ _ _ _ _ (if p.turn = 0 then p.h1 else makeHand R p m).length (ints (if p.turn = 0 then p.h1 else makeHand R p m)); rw [HLF.out]; exact HR1.out, HH9.out.c0, HH9.out.c1, HH9.out.d01⟩, HLf.out⟩
end Go.Proofs.YthklhndcdijneaaGreatDoor

/- The walk of the law PremovePlays. -/
import Derived.Test.YtkfaibdflbdpgaaPremAb
import Derived.Test.YtkfaibdflbdpgaaAfter
import Derived.Test.YtkfaibdflbdpgaaSame
import Derived.Test.YtkfaibdflbdpgaaFrame
namespace Go.Proofs.Ytkfaibdflbdpgaa.premovePlays
open Go.ChangeShapes Go.WideShapes Go.ChangeAt Go.RowKit
set_option linter.unusedVariables false

theorem minN (a : Nat) (b : Int) (hb : 0 ≤ b) : ∃ m : Nat, (if b < (a : Int) then b else (a : Int)) = (m : Int) ∧ m ≤ a ∧ (m : Int) ≤ b := by
  by_cases h : b < a
  · exact ⟨b.toNat, by rw [if_pos (by omega)]; omega, by omega, by omega⟩
  · exact ⟨a, by rw [if_neg (by omega)], by omega, by omega⟩
theorem rules_of_pos {R : RulesZ} {p : PosZ} (h : posErr R p = 0) : rulesErr R = 0 := by
  unfold posErr at h
  by_cases e : rulesErr R = 0
  · exact e
  · rw [if_pos e] at h; exact absurd h e
theorem same_self (p : PosZ) : sameZ p p = true := by simp [sameZ]
set_option maxRecDepth 100000 in
set_option maxHeartbeats 8000000 in
theorem walk (HS : SortMvSaid) (R : RulesZ) (vp vs ve : Value) (p : PosZ) (pc p0 p1 : Value) (v : Value) (l0 : List PremZ) (w : World) (hr : RdR w R vp vs ve) (hnm : R.name.size ≤ maxLen) (hp : RdP w p pc p0 p1) (h : RdL premEl w v l0) :
    Calls Try.prog 7 #[(.agg #[.string R.name, .int .i64 R.width, .int .i64 R.height, vp, vs, .bool R.falls, .bool R.keeps, ve, .int .i64 R.blocked, .int .i64 R.quiet, .int .i64 R.rept]), .agg #[pc, p0, p1, .int .i64 p.turn, .int .i64 p.quiet], v] w fun e w' => e = .returned (.bool true) ∧ Below w.heap.size w w' := by
  have HSh := Lib.hid HS
  have HR := Lib.hid hr
  have HN := Lib.hid hnm
  have HP := Lib.hid hp
  have HL := Lib.hid h
  obtain ⟨a, c, rfl, h1, h2⟩ := h.form
  unfold maxLen at h2
  obtain ⟨n, hk, k1, k2⟩ := minN l0.length 12 (by omega)
  obtain ⟨l, hl⟩ : ∃ l, l = l0.take n := ⟨_, rfl⟩
  have hll : l.length = n := by rw [hl, List.length_take]; omega
  have HLt := Lib.hid (show RdL premEl w (.slice a l.length c) l by rw [hll, hl]; exact h.take n k1)
  have hsl : ∀ w' : World, (Instr.slice 62 (.slice a l0.length c) none (some (.int .i64 (n : Int))) none).run Try.prog w' = .ok (.slice a n c) w' := fun w' =>
    run_take (P := Try.prog) (t := 62) (s := 4) Try.underlying62 (fun w => by kernel_rfl) a l0.length c n (by omega) w'
  have hsla : ∀ w' : World, (Instr.sliceAt 62 (.slice a l0.length c) none (some (.int .i64 (n : Int))) none).run Try.prog w' = .ok (.slice a n c) w' := fun w' =>
    run_takeAt (P := Try.prog) (t := 62) (s := 4) Try.underlying62 (fun w => by kernel_rfl) a l0.length c n (by omega) w'
  subst hll
  clear h HS hl hr hnm hp
  go_enter Try.func7, Try.ntmps7
  go_upto_region 1 with (fail)
  have B0 : Box ((w.alloc (.cells #[.string R.name, .int .i64 R.width, .int .i64 R.height, vp, vs, .bool R.falls, .bool R.keeps, ve, .int .i64 R.blocked, .int .i64 R.quiet, .int .i64 R.rept] 26)).alloc (.cells #[pc, p0, p1, .int .i64 p.turn, .int .i64 p.quiet] 37)) (w.heap.size) [.string R.name, .int .i64 R.width, .int .i64 R.height, vp, vs, .bool R.falls, .bool R.keeps, ve, .int .i64 R.blocked, .int .i64 R.quiet, .int .i64 R.rept] 26 := ((Box.new' w (w.heap.size) [.string R.name, .int .i64 R.width, .int .i64 R.height, vp, vs, .bool R.falls, .bool R.keeps, ve, .int .i64 R.blocked, .int .i64 R.quiet, .int .i64 R.rept] 26 (by simp <;> omega)).alloc _)
  have B1 : Box ((w.alloc (.cells #[.string R.name, .int .i64 R.width, .int .i64 R.height, vp, vs, .bool R.falls, .bool R.keeps, ve, .int .i64 R.blocked, .int .i64 R.quiet, .int .i64 R.rept] 26)).alloc (.cells #[pc, p0, p1, .int .i64 p.turn, .int .i64 p.quiet] 37)) (w.heap.size + 1) [pc, p0, p1, .int .i64 p.turn, .int .i64 p.quiet] 37 := (Box.new' (w.alloc (.cells #[.string R.name, .int .i64 R.width, .int .i64 R.height, vp, vs, .bool R.falls, .bool R.keeps, ve, .int .i64 R.blocked, .int .i64 R.quiet, .int .i64 R.rept] 26)) (w.heap.size + 1) [pc, p0, p1, .int .i64 p.turn, .int .i64 p.quiet] 37 (by simp <;> omega))
  have HB : Hid (Below w.heap.size w ((w.alloc (.cells #[.string R.name, .int .i64 R.width, .int .i64 R.height, vp, vs, .bool R.falls, .bool R.keeps, ve, .int .i64 R.blocked, .int .i64 R.quiet, .int .i64 R.rept] 26)).alloc (.cells #[pc, p0, p1, .int .i64 p.turn, .int .i64 p.quiet] 37))) := Lib.hid (((Below.refl w.heap.size w).alloc (Nat.le_refl _) _).alloc (by simp <;> omega) _)
  have hz0 : w.heap.size + 1 < ((w.alloc (.cells #[.string R.name, .int .i64 R.width, .int .i64 R.height, vp, vs, .bool R.falls, .bool R.keeps, ve, .int .i64 R.blocked, .int .i64 R.quiet, .int .i64 R.rept] 26)).alloc (.cells #[pc, p0, p1, .int .i64 p.turn, .int .i64 p.quiet] 37)).heap.size := by simp
  generalize ((w.alloc (.cells #[.string R.name, .int .i64 R.width, .int .i64 R.height, vp, vs, .bool R.falls, .bool R.keeps, ve, .int .i64 R.blocked, .int .i64 R.quiet, .int .i64 R.rept] 26)).alloc (.cells #[pc, p0, p1, .int .i64 p.turn, .int .i64 p.quiet] 37)) = w0 at *
  have HRw := Lib.hid (HR.out.below HB.out (Nat.le_refl _))
  have HPw := Lib.hid (HP.out.below HB.out (Nat.le_refl _))
  have HX0 := Lib.hid B0
  have HX1 := Lib.hid B1
  have HLtw := Lib.hid (HLt.out.below HB.out (Nat.le_refl _))
  clear B0 B1 HL
  go_wp2_with fail
  refine (announces_any HSh.out w0).mono ?_
  rintro e w1 ⟨rfl, hb1⟩
  have HB1 := Lib.hid (below_trans HB.out hb1 HB.out.size)
  have HX01 := Lib.hid (HX0.out.stays hb1)
  have HX11 := Lib.hid (HX1.out.stays hb1)
  have HL1 := Lib.hid (HLtw.out.below hb1 (Nat.le_refl _))
  clear hb1 HX0 HX1 HLtw HB hz0 HRw HPw
  go_upto_region 4 with (fail)
  clear hsl hsla hk
  refine wp_region_lit ?_
  refine wpList_load_box (by rfl) 26 (.tmp 3) (by rfl) (w.heap.size) (by rfl) HX01.out Try.underlying26 (by rfl) (by kernel_rfl) ?_
  go_wp2_with fail
  refine (great_any R vp vs ve w1 (HR.out.2.1.below HB1.out (Nat.le_refl _))).mono ?_
  rintro e w2 ⟨rfl, hb2⟩
  have HB2 := Lib.hid (below_trans HB1.out hb2 HB1.out.size)
  have HX02 := Lib.hid (HX01.out.stays hb2)
  have HX12 := Lib.hid (HX11.out.stays hb2)
  have HL2 := Lib.hid (HL1.out.below hb2 (Nat.le_refl _))
  clear hb2 HX01 HX11 HL1
  generalize decide (20 < (R.start.length : Int)) = gr at *
  cases gr
  rotate_left
  · go_wp2_with fail
    go_ret
    exact ⟨rfl, HB2.out⟩
  go_upto_region 6 with (fail)
  refine wp_region_lit ?_
  refine wpList_load_box (by rfl) 26 (.tmp 3) (by rfl) (w.heap.size) (by rfl) HX02.out Try.underlying26 (by rfl) (by kernel_rfl) ?_
  refine wpList_load_box (by rfl) 37 (.tmp 4) (by rfl) (w.heap.size + 1) (by rfl) HX12.out Try.underlying37 (by rfl) (by kernel_rfl) ?_
  go_wp2_with fail
  refine (Run_any HSh.out R vp vs ve p pc p0 p1 _ l w2 (HR.out.below HB2.out (Nat.le_refl _)) HN.out (HP.out.below HB2.out (Nat.le_refl _)) HL2.out (by omega)).mono ?_
  rintro e w3 (⟨hbad, rfl, hb3⟩ | ⟨hE, vo, qc, q0, q1, vl, made, q, rest, rfl, hom, hoq, hol, hla, hq, hlen, hof, hb3⟩)
  · have he' : (pcheckErr R p l != 0) = true := by simpa using hbad
    have HB3 := Lib.hid (below_trans HB2.out hb3 HB2.out.size)
    clear hbad hb3
    unfold zeroPos
    go_wp2_with fail
    go_ret
    exact ⟨rfl, HB3.out.alloc HB3.out.size _⟩
  obtain ⟨ma, mn, rfl⟩ := own_form2 hom
  obtain ⟨la, ln, rfl⟩ := own_form2 hol
  obtain ⟨qa, qn, rfl⟩ := own_form2 hoq.1
  obtain ⟨qa0, qn0, rfl⟩ := own_form2 hoq.2.1
  obtain ⟨qa1, qn1, rfl⟩ := own_form2 hoq.2.2.1
  unfold posV
  have hz1 : w.heap.size + 1 < w2.heap.size := HX12.out.lt
  have hz3 := hb3.size
  have HB3 := Lib.hid ((below_trans HB2.out hb3 HB2.out.size).alloc (below_trans HB2.out hb3 HB2.out.size).size (.cells #[.slice qa q.cells.length qn, .slice qa0 q.h0.length qn0, .slice qa1 q.h1.length qn1, .int .i64 q.turn, .int .i64 q.quiet] 37))
  have HX03 := Lib.hid ((HX02.out.stays hb3).alloc (.cells #[.slice qa q.cells.length qn, .slice qa0 q.h0.length qn0, .slice qa1 q.h1.length qn1, .int .i64 q.turn, .int .i64 q.quiet] 37))
  have HX13 := Lib.hid ((HX12.out.stays hb3).alloc (.cells #[.slice qa q.cells.length qn, .slice qa0 q.h0.length qn0, .slice qa1 q.h1.length qn1, .int .i64 q.turn, .int .i64 q.quiet] 37))
  have HXq := Lib.hid (Box.new w3 [.slice qa q.cells.length qn, .slice qa0 q.h0.length qn0, .slice qa1 q.h1.length qn1, .int .i64 q.turn, .int .i64 q.quiet] 37)
  have HOm := Lib.hid (own_new (S := fun k => k = w.heap.size + 1) (hom.alloc (.cells #[.slice qa q.cells.length qn, .slice qa0 q.h0.length qn0, .slice qa1 q.h1.length qn1, .int .i64 q.turn, .int .i64 q.quiet] 37)) (fun k h1 _ hk => by subst hk; omega))
  have HOl := Lib.hid (own_new (S := fun k => k = w.heap.size + 1) (hol.alloc (.cells #[.slice qa q.cells.length qn, .slice qa0 q.h0.length qn0, .slice qa1 q.h1.length qn1, .int .i64 q.turn, .int .i64 q.quiet] 37)) (fun k h1 _ hk => by subst hk; omega))
  have HOq := Lib.hid (ownP_held (S := fun k => k = w.heap.size + 1) (w := w3.alloc (.cells #[.slice qa q.cells.length qn, .slice qa0 q.h0.length qn0, .slice qa1 q.h1.length qn1, .int .i64 q.turn, .int .i64 q.quiet] 37)) ⟨hoq.1.alloc _, hoq.2.1.alloc _, hoq.2.2.1.alloc _, hoq.2.2.2⟩ (fun k h1 _ hk => by subst hk; omega))
  have HPp : Hid (Held (fun k => k = w.heap.size + 1) (w3.alloc (.cells #[.slice qa q.cells.length qn, .slice qa0 q.h0.length qn0, .slice qa1 q.h1.length qn1, .int .i64 q.turn, .int .i64 q.quiet] 37)) fun w' => RdP w' p pc p0 p1) := Lib.hid (Held.old (B := w.heap.size) (fun w' hw => HP.out.below (HB3.out.trans hw) (Nat.le_refl _)) (fun k hk => by subst hk; omega) HB3.out.size)
  have HKp := Lib.hid (pok_of (pcheck_pos hE).1)
  have HRe := Lib.hid (rules_of_pos (pcheck_pos hE).1)
  have HLA := Lib.hid hla
  have HQ := Lib.hid hq
  have HOF := Lib.hid hof
  have HLE := Lib.hid hlen
  have hml : made.length ≤ 12 := by omega
  have hrl : rest.length ≤ 12 := by omega
  have hzq : w.heap.size + 1 < w3.heap.size := by omega
  have hzq2 : w3.heap.size < (w3.alloc (.cells #[.slice qa q.cells.length qn, .slice qa0 q.h0.length qn0, .slice qa1 q.h1.length qn1, .int .i64 q.turn, .int .i64 q.quiet] 37)).heap.size := by simp
  clear hom hoq hol hla hq hof hlen hb3 hE HX02 HX12 HL2 hz1 hz3
  go_upto_region 7 with (fail)
  generalize (w3.alloc (.cells #[.slice qa q.cells.length qn, .slice qa0 q.h0.length qn0, .slice qa1 q.h1.length qn1, .int .i64 q.turn, .int .i64 q.quiet] 37)) = w6 at *
  go_wp2_with fail
  go_loopw [46, 12, 13] (fun vi vm vf wr => ∃ (k : Nat) (vc v0 v1 : Value), k ≤ made.length ∧ vi = .int .i64 k ∧ Hid (Box wr w.heap.size [.string R.name, .int .i64 R.width, .int .i64 R.height, vp, vs, .bool R.falls, .bool R.keeps, ve, .int .i64 R.blocked, .int .i64 R.quiet, .int .i64 R.rept] 26) ∧ Hid (Box wr (w.heap.size + 1) [vc, v0, v1, .int .i64 (posAt R p (made.take k)).turn, .int .i64 (posAt R p (made.take k)).quiet] 37) ∧ Hid (Box wr w3.heap.size [.slice qa q.cells.length qn, .slice qa0 q.h0.length qn0, .slice qa1 q.h1.length qn1, .int .i64 q.turn, .int .i64 q.quiet] 37) ∧
    Hid (Fr (fun k => k = w.heap.size + 1) w6 wr) ∧ Hid (Below w.heap.size w wr) ∧ Hid (Held (fun k => k = w.heap.size + 1) wr fun w' => RdP w' (posAt R p (made.take k)) vc v0 v1)) (fun i _ _ _ => made.length - (intOf i).toNat)
  case atStart => exact ⟨0, pc, p0, p1, Nat.zero_le _, rfl, HX03, HX13, HXq, Lib.hid (Fr.refl _ _), HB3, HPp⟩
  case round =>
    obtain ⟨k, vc, v0, v1, hkk, rfl, HY0, HY1, HYq, HFr, HBr, HHp⟩ := hrel
    by_cases hlt : k < made.length
    · have hom := HOm.out wr HFr.out
      obtain ⟨gm, gc, hgm⟩ := own_some hom (by omega)
      simp only [Value.slice.injEq] at hgm
      obtain ⟨rfl, -, rfl⟩ := hgm
      obtain ⟨q0, q1, q2⟩ := flatM_at made k hlt
      have c0 := (hom.cellAt (k * 3) (by omega)).trans q0
      have c1 := (hom.cellAt (k * 3 + 1) (by omega)).trans q1
      have c2 := (hom.cellAt (k * 3 + 2) (by omega)).trans q2
      have hgl := (hom.lt gm rfl).2
      have HMem := Lib.hid (HLA.out k hlt)
      have HKk := Lib.hid (posAt_ok HKp.out HLA.out k hkk)
      have HPt := Lib.hid (posAt_take R p made k hlt)
      clear hom q0 q1 q2
      generalize hqk : posAt R p (made.take k) = qk at *
      generalize hmk : made.getD k default = mk at *
      clear hqk hmk
      go_upto_region 13 with (fail)
      have HBm := Lib.hid (Box.new wr [.int .i64 mk.src, .int .i64 mk.dst, .int .i64 mk.piece] 42)
      have HZ0 := Lib.hid (HY0.out.alloc (.cells #[.int .i64 mk.src, .int .i64 mk.dst, .int .i64 mk.piece] 42))
      have HZ1 := Lib.hid (HY1.out.alloc (.cells #[.int .i64 mk.src, .int .i64 mk.dst, .int .i64 mk.piece] 42))
      have HZq := Lib.hid (HYq.out.alloc (.cells #[.int .i64 mk.src, .int .i64 mk.dst, .int .i64 mk.piece] 42))
      have HFn := Lib.hid (HFr.out.alloc (.cells #[.int .i64 mk.src, .int .i64 mk.dst, .int .i64 mk.piece] 42))
      have HBn := Lib.hid (HBr.out.alloc HBr.out.size (.cells #[.int .i64 mk.src, .int .i64 mk.dst, .int .i64 mk.piece] 42))
      have HRp := Lib.hid (HHp.out _ ((Fr.refl _ wr).alloc (.cells #[.int .i64 mk.src, .int .i64 mk.dst, .int .i64 mk.piece] 42)))
      have hzm : wr.heap.size < (wr.alloc (.cells #[.int .i64 mk.src, .int .i64 mk.dst, .int .i64 mk.piece] 42)).heap.size := by simp
      clear c0 c1 c2 hgl HFr HBr
      generalize (wr.alloc (.cells #[.int .i64 mk.src, .int .i64 mk.dst, .int .i64 mk.piece] 42)) = wn at *
      have d0 := HBm.out.cell 0 rfl
      have d1 := HBm.out.cell 1 rfl
      have d2 := HBm.out.cell 2 rfl
      refine wp_region_lit ?_
      refine wpList_load_box (by rfl) 26 (.tmp 3) (by rfl) (w.heap.size) (by rfl) HZ0.out Try.underlying26 (by rfl) (by kernel_rfl) ?_
      refine wpList_load_box (by rfl) 37 (.tmp 4) (by rfl) (w.heap.size + 1) (by rfl) HZ1.out Try.underlying37 (by rfl) (by kernel_rfl) ?_
      go_wp2_with fail
      refine (After_any HSh.out R vp vs ve qk vc v0 v1 mk wn (HR.out.below HBn.out (Nat.le_refl _)) HN.out HRp.out).mono ?_
      rintro e w7 (⟨hbad, -⟩ | ⟨-, hbad, -⟩ | ⟨-, -, yc, y0, y1, rfl, hoy, hb7⟩)
      · exact absurd (pos_of HRe.out HKk.out) hbad
      · exact absurd HMem.out hbad
      obtain ⟨ya, yn, rfl⟩ := own_form2 hoy.1
      obtain ⟨ya0, yn0, rfl⟩ := own_form2 hoy.2.1
      obtain ⟨ya1, yn1, rfl⟩ := own_form2 hoy.2.2.1
      have HW0 := Lib.hid (HZ0.out.stays hb7)
      have HW1 := Lib.hid (HZ1.out.stays hb7)
      have HWq := Lib.hid (HZq.out.stays hb7)
      have HF7 := Lib.hid (HFn.out.trans (Fr.of_new (S := fun k => k = w.heap.size + 1) hb7) (Shr.refl _ _))
      have HB7 := Lib.hid (below_trans HBn.out hb7 HBn.out.size)
      have hz1n := HZ1.out.lt
      have HOy := Lib.hid (ownP_held (S := fun k => k = w.heap.size + 1) hoy (fun k h1 _ hk => by subst hk; omega))
      clear hoy hb7 HZ0 HZ1 HZq HFn HBn
      unfold posV
      have z0 := HW1.out.cell 0 rfl
      have zf0 := HW1.out.frozen 0
      have z1 := HW1.out.cell 1 rfl
      have zf1 := HW1.out.frozen 1
      have z2 := HW1.out.cell 2 rfl
      have zf2 := HW1.out.frozen 2
      have z3 := HW1.out.cell 3 rfl
      have zf3 := HW1.out.frozen 3
      have z4 := HW1.out.cell 4 rfl
      have zf4 := HW1.out.frozen 4
      have HF8 : Hid (Fr (fun k => k = w.heap.size + 1) w7 (w7.setCells (w.heap.size + 1) 0 [.slice ya (makeZ R qk mk).cells.length yn, .slice ya0 (makeZ R qk mk).h0.length yn0, .slice ya1 (makeZ R qk mk).h1.length yn1, .int .i64 (makeZ R qk mk).turn, .int .i64 (makeZ R qk mk).quiet])) := Lib.hid ((Fr.refl (fun k => k = w.heap.size + 1) w7).setCells (show (fun k => k = w.heap.size + 1) (w.heap.size + 1) from rfl) 0 _)
      have HA0 : Hid (Box (w7.setCells (w.heap.size + 1) 0 [.slice ya (makeZ R qk mk).cells.length yn, .slice ya0 (makeZ R qk mk).h0.length yn0, .slice ya1 (makeZ R qk mk).h1.length yn1, .int .i64 (makeZ R qk mk).turn, .int .i64 (makeZ R qk mk).quiet]) w.heap.size [.string R.name, .int .i64 R.width, .int .i64 R.height, vp, vs, .bool R.falls, .bool R.keeps, ve, .int .i64 R.blocked, .int .i64 R.quiet, .int .i64 R.rept] 26) := Lib.hid (HW0.out.farAll (by omega) 0 _)
      have HA1 : Hid (Box (w7.setCells (w.heap.size + 1) 0 [.slice ya (makeZ R qk mk).cells.length yn, .slice ya0 (makeZ R qk mk).h0.length yn0, .slice ya1 (makeZ R qk mk).h1.length yn1, .int .i64 (makeZ R qk mk).turn, .int .i64 (makeZ R qk mk).quiet]) (w.heap.size + 1) [.slice ya (makeZ R qk mk).cells.length yn, .slice ya0 (makeZ R qk mk).h0.length yn0, .slice ya1 (makeZ R qk mk).h1.length yn1, .int .i64 (posAt R p (made.take (k + 1))).turn, .int .i64 (posAt R p (made.take (k + 1))).quiet] 37) := Lib.hid (by rw [HPt.out]; exact HW1.out.store rfl)
      have HAq : Hid (Box (w7.setCells (w.heap.size + 1) 0 [.slice ya (makeZ R qk mk).cells.length yn, .slice ya0 (makeZ R qk mk).h0.length yn0, .slice ya1 (makeZ R qk mk).h1.length yn1, .int .i64 (makeZ R qk mk).turn, .int .i64 (makeZ R qk mk).quiet]) w3.heap.size [.slice qa q.cells.length qn, .slice qa0 q.h0.length qn0, .slice qa1 q.h1.length qn1, .int .i64 q.turn, .int .i64 q.quiet] 37) := Lib.hid (HWq.out.farAll (by omega) 0 _)
      have HAF : Hid (Fr (fun k => k = w.heap.size + 1) w6 (w7.setCells (w.heap.size + 1) 0 [.slice ya (makeZ R qk mk).cells.length yn, .slice ya0 (makeZ R qk mk).h0.length yn0, .slice ya1 (makeZ R qk mk).h1.length yn1, .int .i64 (makeZ R qk mk).turn, .int .i64 (makeZ R qk mk).quiet])) := Lib.hid (HF7.out.trans HF8.out (Shr.refl _ _))
      have HAB : Hid (Below w.heap.size w (w7.setCells (w.heap.size + 1) 0 [.slice ya (makeZ R qk mk).cells.length yn, .slice ya0 (makeZ R qk mk).h0.length yn0, .slice ya1 (makeZ R qk mk).h1.length yn1, .int .i64 (makeZ R qk mk).turn, .int .i64 (makeZ R qk mk).quiet])) := Lib.hid (below_setCells HB7.out (by omega) 0 _)
      have HAH : Hid (Held (fun k => k = w.heap.size + 1) (w7.setCells (w.heap.size + 1) 0 [.slice ya (makeZ R qk mk).cells.length yn, .slice ya0 (makeZ R qk mk).h0.length yn0, .slice ya1 (makeZ R qk mk).h1.length yn1, .int .i64 (makeZ R qk mk).turn, .int .i64 (makeZ R qk mk).quiet]) fun w' => RdP w' (posAt R p (made.take (k + 1))) (.slice ya (makeZ R qk mk).cells.length yn) (.slice ya0 (makeZ R qk mk).h0.length yn0) (.slice ya1 (makeZ R qk mk).h1.length yn1)) := Lib.hid (by rw [HPt.out]; exact fun w' hw => (HOy.out w' (HF8.out.trans hw (Shr.refl _ _))).rd)
      go_wp2_with fail
      try simp only [Act.put]
      go_roundw
      case rel => exact ⟨k + 1, (.slice ya (makeZ R qk mk).cells.length yn), (.slice ya0 (makeZ R qk mk).h0.length yn0), (.slice ya1 (makeZ R qk mk).h1.length yn1), by omega, by go_num, HA0, HA1, HAq, HAF, HAB, HAH⟩
      case measure => simp [intOf]; omega
    · obtain rfl : k = made.length := by omega
      have hq : posAt R p (made.take made.length) = q := by rw [List.take_of_length_le (Nat.le_refl _), HQ.out]
      rw [hq] at HY1 HHp
      clear hq
      have HRl := Lib.hid (rdP_of_own (HOl.out wr HFr.out))
      have HRq := Lib.hid (HOq.out wr HFr.out).rd
      have HRp := Lib.hid HHp.out.now
      have t2 := HYq.out.cell 3 rfl
      have hzr := HYq.out.lt
      go_upto_region 17 with (fail)
      refine wp_region_lit ?_
      refine wpList_load_box (by rfl) 37 (.tmp 4) (by rfl) (w.heap.size + 1) (by rfl) HY1.out Try.underlying37 (by rfl) (by kernel_rfl) ?_
      refine wpList_load_box (by rfl) 37 (.tmp 8) (by rfl) (w3.heap.size) (by rfl) HYq.out Try.underlying37 (by rfl) (by kernel_rfl) ?_
      go_wp2_with fail
      refine (Same_any q q vc v0 v1 _ _ _ wr HRp.out HRq.out).mono ?_
      rintro e w8 ⟨rfl, hb8⟩
      rw [same_self]
      have HB8 := Lib.hid (below_trans HBr.out hb8 HBr.out.size)
      have HRl8 := Lib.hid (HRl.out.below hb8 (Nat.le_refl _))
      have t28 := (HYq.out.stays hb8).cell 3 rfl
      have hzr8 : w3.heap.size < w8.heap.size := Nat.lt_of_lt_of_le hzr hb8.size
      have hwr : IntKind.i64.wrap ((made.length : Int) + (rest.length : Int)) = (made.length : Int) + (rest.length : Int) := IntWalk.i64_in _ (by omega)
      have hcmp : (made.length : Int) + (rest.length : Int) ≤ (l.length : Int) := by have := HLE.out; omega
      clear hb8 t2 hzr
      go_wp2_with fail
      refine (of_any _ rest q.turn w8 HRl8.out (by omega)).mono ?_
      rintro e w9 ⟨v9, rfl, ho9, hb9⟩
      rw [HOF.out] at ho9
      obtain ⟨a9, c9, rfl⟩ := own_form2 ho9
      have HB9 := Lib.hid (below_trans HB8.out hb9 HB8.out.size)
      clear ho9 hb9
      go_wp2_with fail
      go_ret
      exact ⟨rfl, HB9.out⟩

end Go.Proofs.Ytkfaibdflbdpgaa.premovePlays

/- ClaimC, JouApp, MaA, MaB. -/
import Derived.Test.YtnodagljaoonjaaGreatDoorC27
import Derived.Test.YtnodagljaoonjaaGreatDoorC09
import Derived.Test.YtnodagljaoonjaaGreatDoorC08
import Derived.Test.YtnodagljaoonjaaGreatDoorC21
import Derived.Test.YtnodagljaoonjaaGreatDoorC23
import Derived.Test.YtnodagljaoonjaaGreatDoorC25
import Derived.BigQuiet
import Derived.Deep.Cut
import Derived.Deep.QuietTactic
namespace Go.Proofs.YtnodagljaoonjaaGreatDoor
open Go.ChangeShapes Go.WideShapes Go.ChangeAt Go.RowKit
set_option linter.unusedVariables false
set_option maxHeartbeats 4000000
set_option maxRecDepth 100000
theorem bec_step {R : RulesZ} {piece k : Int} {i : Nat} (h : i < R.pieces.length + 1) : becZ R piece (R.pieces.length + 1 - i) k = if k = piece then true else if (R.pieces.getD k.toNat default).promote = 0 then false else becZ R piece (R.pieces.length + 1 - (i + 1)) ((R.pieces.getD k.toNat default).promote - 1) := by
 rw [show R.pieces.length + 1 - i = (R.pieces.length - i) + 1 by omega, show R.pieces.length + 1 - (i + 1) = R.pieces.length - i by omega]
 rfl
theorem becomes_any (R : RulesZ) (vp vs ve : Value) (k0 piece : Int) (w : World) (hr : RdL pieceEl w vp R.pieces) (K : ROk R) (h0 : 0 ≤ k0) (h1 : k0 < R.pieces.length) :
  Calls Tryz.prog 198 #[(.agg #[.string R.name, .int .i64 R.width, .int .i64 R.height, vp, vs, .bool R.falls, .bool R.keeps, ve, .int .i64 R.blocked, .int .i64 R.quiet, .int .i64 R.rept]), .int .i64 k0, .int .i64 piece] w fun e w' => e = .returned (.bool (becZ R piece (R.pieces.length + 1) k0)) ∧ Below w.heap.size w w' := by
 have HR := Lib.hid hr
 have HK := Lib.hid K
 obtain ⟨np1, np2⟩ := K.np
 obtain ⟨a, c, rfl, hl1, hl2⟩ := hr.form
 unfold maxLen at hl2
 clear hr K
 go_enter Tryz.func198, Tryz.ntmps198
 go_upto_region 1 with (fail)
 refine opn1 fun w0 B0 yb_ hs_ => ?_
 have HB := Lib.hid yb_
 have hz0 : w.heap.size < w0.heap.size := by omega
 clear hs_ yb_
 have HX := Lib.hid B0
 clear B0
 have q3 := HX.out.cell 3 rfl
 go_wp2_with fail
 go_loop [11, 1] (fun vi vk => ∃ (i : Nat) (k : Int), i ≤ R.pieces.length + 1 ∧ vi = .int .i64 i ∧ vk = .int .i64 k ∧ 0 ≤ k ∧ k < R.pieces.length ∧ Hid (becZ R piece (R.pieces.length + 1) k0 = becZ R piece (R.pieces.length + 1 - i) k)) (fun i _ => R.pieces.length + 1 - (intOf i).toNat)
 case atStart => exact ⟨0, k0, Nat.zero_le _, rfl, rfl, h0, h1, Lib.hid rfl⟩
 case round =>
  obtain ⟨i, k, hi, rfl, rfl, k0', k1', HE⟩ := hrel
  by_cases hlt : i < R.pieces.length + 1
  ·have HS := Lib.hid (bec_step (R := R) (piece := piece) (k := k) hlt)
   obtain ⟨gp, op, rfl, hgp, hpc⟩ := pieces_some (HR.out.below HB.out (Nat.le_refl _)) (by omega)
   obtain ⟨vw, -, -, c2, -, -⟩ := hpc k.toNat (by omega)
   have hpr := (HK.out.pc k.toNat (by omega)).2.1
   clear hpc
   generalize (R.pieces.getD k.toNat default).promote = pr at *
   obtain ⟨hpr1, hpr2⟩ := hpr
   by_cases hkp : k = piece
   ·have HF : Hid (becZ R piece (R.pieces.length + 1) k0 = true) := Lib.hid (by rw [HE.out, HS.out, if_pos hkp])
    have hkb : (k == piece) = true := by simpa using hkp
    clear hkp
    go_wp2_with fail
    go_ret
    exact ⟨by rw [HF.out]; rfl, HB.out⟩
   have hkb : (k == piece) = false := by simpa using hkp
   by_cases hz : pr = 0
   ·have HF : Hid (becZ R piece (R.pieces.length + 1) k0 = false) := Lib.hid (by rw [HE.out, HS.out, if_neg hkp, if_pos hz])
    have hzb : (pr == 0) = true := by simpa using hz
    clear hkp hz
    go_wp2_with fail
    go_ret
    exact ⟨by rw [HF.out]; rfl, HB.out⟩
   ·have HF : Hid (becZ R piece (R.pieces.length + 1) k0 = becZ R piece (R.pieces.length + 1 - (i + 1)) (pr - 1)) := Lib.hid (by rw [HE.out, HS.out, if_neg hkp, if_neg hz])
    have hzb : (pr == 0) = false := by simpa using hz
    have hr1 : 0 ≤ pr - 1 ∧ pr - 1 < R.pieces.length := by omega
    have hwr : IntKind.i64.wrap (pr - 1) = pr - 1 := IntWalk.i64_in _ (by omega)
    clear hkp hz
    go_wp2_with fail
    go_round
    case rel => exact ⟨i + 1, pr - 1, by omega, by go_num, rfl, hr1.1, hr1.2, HF⟩
    case measure => simp [intOf]; omega
  ·obtain rfl : i = R.pieces.length + 1 := by omega
   go_wp2_with fail
   go_ret
   exact ⟨by rw [HE.out, Nat.sub_self]; rfl, HB.out⟩
theorem callAb1 (args : Array Value) (w : World) : (callFunc 197 args).run Tryz.prog w = .ok (.enter 197 args) w := by kernel_rfl
theorem callAb2 (args : Array Value) (w : World) : (callFunc 199 args).run Tryz.prog w = .ok (.enter 199 args) w := by kernel_rfl
theorem callAb21 (args : Array Value) (w : World) : (callFunc 201 args).run Tryz.prog w = .ok (.enter 201 args) w := by kernel_rfl
theorem callAbA (args : Array Value) (w : World) : (callFunc 166 args).run Tryz.prog w = .ok (.enter 166 args) w := by kernel_rfl
theorem ab21_any (x : WayZ) (w : World) : Calls Tryz.prog 201 (#[.agg #[.int .i64 x.dx, .int .i64 x.dy, .int .i64 x.most, .int .i64 x.take]] ++ #[]) w fun e w' => e = .returned (.bool (!(x.take == 0))) ∧ Below w.heap.size w w' := by
 show Calls Tryz.prog 201 #[.agg #[.int .i64 x.dx, .int .i64 x.dy, .int .i64 x.most, .int .i64 x.take]] w _
 go_enter Tryz.func201, Tryz.ntmps201
 go_wp2_with fail
 go_ret
 exact ⟨rfl, (Below.refl _ _).alloc (Nat.le_refl _) _⟩
theorem ab2_any (R : RulesZ) (vp vs ve : Value) (k : Int) (b0 : Nat) (w : World) (B0 : Box w b0 [.string R.name, .int .i64 R.width, .int .i64 R.height, vp, vs, .bool R.falls, .bool R.keeps, ve, .int .i64 R.blocked, .int .i64 R.quiet, .int .i64 R.rept] 26) (hr : RdL pieceEl w vp R.pieces) (K : ROk R) (h0 : 0 ≤ k) (h1 : k < R.pieces.length) :
  Calls Tryz.prog 199 (#[.int .i64 k] ++ #[.pointer (some ⟨b0, 0, none⟩)]) w fun e w' => e = .returned (.bool (takeZ R k)) ∧ Below w.heap.size w w' := by
 show Calls Tryz.prog 199 #[.int .i64 k, .pointer (some ⟨b0, 0, none⟩)] w _
 have HD : Hid (takeZ R k = (R.pieces.getD k.toNat default).ways.any fun w => !(w.take == 0)) := Lib.hid rfl
 obtain ⟨np1, np2⟩ := K.np
 obtain ⟨a, c, rfl, hl1, hl2⟩ := hr.form
 unfold maxLen at hl2
 obtain ⟨gp, op, rfl, hgp, hpc⟩ := pieces_some hr (by omega)
 obtain ⟨vw, -, -, -, c3, hw⟩ := hpc k.toNat (by omega)
 have q3 := B0.cell 3 rfl
 have HW := Lib.hid (ContainsFunc_wy vw (R.pieces.getD k.toNat default).ways (fun w => !(w.take == 0)) 201 #[] w hw callAb21 (fun W x cs hx hE hW => by
  simp only [wayEl] at hE
  subst hE
  exact ab21_any x W))
 generalize (R.pieces.getD k.toNat default).ways = ws at *
 clear hpc hr K B0 hw
 go_enter Tryz.func199, Tryz.ntmps199
 go_wp2_with fail
 refine HW.out.mono ?_
 rintro e w1 ⟨rfl, hb1⟩
 have HB1 := Lib.hid hb1
 clear hb1 c3 q3
 go_wp2_with fail
 go_ret
 exact ⟨by rw [HD.out]; rfl, HB1.out⟩
theorem ab1_any (R : RulesZ) (vp vs ve : Value) (x : EndZ) (k : Int) (b0 b2 : Nat) (w : World) (B0 : Box w b0 [.string R.name, .int .i64 R.width, .int .i64 R.height, vp, vs, .bool R.falls, .bool R.keeps, ve, .int .i64 R.blocked, .int .i64 R.quiet, .int .i64 R.rept] 26) (B2 : Box w b2 [.int .i64 x.kind, .int .i64 x.piece, .int .i64 x.count, .bool x.loses] 108) (hr : RdL pieceEl w vp R.pieces) (K : ROk R) (h0 : 0 ≤ k) (h1 : k < R.pieces.length) :
  Calls Tryz.prog 197 (#[.int .i64 k] ++ #[.pointer (some ⟨b0, 0, none⟩), .pointer (some ⟨b2, 0, none⟩)]) w fun e w' => e = .returned (.bool (becZ R x.piece (R.pieces.length + 1) k)) ∧ Below w.heap.size w w' := by
 show Calls Tryz.prog 197 #[.int .i64 k, .pointer (some ⟨b0, 0, none⟩), .pointer (some ⟨b2, 0, none⟩)] w _
 have HBE := Lib.hid (becomes_any R vp vs ve k x.piece w hr K h0 h1)
 have HX := Lib.hid B0
 have x1 := B2.cell 1 rfl
 clear B0 B2 hr K
 go_enter Tryz.func197, Tryz.ntmps197
 go_upto_region 1 with (fail)
 refine wp_region_lit ?_
 refine wpList_load_box (by rfl) 26 (.tmp 1) (by rfl) (b0) (by rfl) HX.out Tryz.underlying26 (by rfl) (by kernel_rfl) ?_
 go_wp2_with fail
 refine HBE.out.mono ?_
 rintro e w1 ⟨rfl, hb1⟩
 have HB1 := Lib.hid hb1
 clear hb1 x1
 go_wp2_with fail
 go_ret
 exact ⟨rfl, HB1.out⟩
theorem types_k {R : RulesZ} {p : PosZ} (K : POk R p) (pl : Int) : ∀ k ∈ typesZ p pl, 0 ≤ k ∧ k < R.pieces.length := by
 have hc : ∀ n, ∀ k ∈ tyC p.cells pl n, 0 ≤ k ∧ k < R.pieces.length := by
  intro n
  induction n with
  | zero => intro k hk; simp [tyC] at hk
  | succ n ih =>
   intro k hk
   unfold tyC at hk
   split at hk
   ·rename_i q
    rcases List.mem_append.1 hk with h | h
    ·exact ih k h
    ·obtain rfl : k = (p.cells.getD n 0 - 1) / 2 := by simpa using h
     have := K.cell n
     rw [ownC_iff] at q
     omega
   ·exact ih k hk
 have hh : ∀ n, n ≤ (p.hand pl).length → ∀ k ∈ tyH (p.hand pl) n, 0 ≤ k ∧ k < R.pieces.length := by
  have hl : (p.hand pl).length = R.pieces.length := by unfold PosZ.hand; split; exact K.l0; exact K.l1
  intro n
  induction n with
  | zero => intro _ k hk; simp [tyH] at hk
  | succ n ih =>
   intro hn k hk
   unfold tyH at hk
   split at hk
   ·rcases List.mem_append.1 hk with h | h
    ·exact ih (by omega) k h
    ·obtain rfl : k = (n : Int) := by simpa using h
     omega
   ·exact ih (by omega) k hk
 intro k hk
 rcases List.mem_append.1 hk with h | h
 ·exact hc _ k h
 ·exact hh _ (Nat.le_refl _) k h
theorem types_len {R : RulesZ} {p : PosZ} (K : POk R p) (pl : Int) : (typesZ p pl).length ≤ 128 ∧ 0 ≤ numZ p pl ∧ numZ p pl ≤ 100000 := by
 have h1 := tyC_lt p.cells pl p.cells.length
 have h2 := tyH_lt (p.hand pl) (p.hand pl).length
 have h3 := K.len
 have hl : (p.hand pl).length = R.pieces.length := by unfold PosZ.hand; split; exact K.l0; exact K.l1
 have hb : ∀ c ∈ p.hand pl, 0 ≤ c ∧ c ≤ 1000 := by unfold PosZ.hand; split; exact K.b0; exact K.b1
 have h4 := nH_nonneg (p.hand pl) (p.hand pl).length
 have h5 := nH_le hb (p.hand pl).length (Nat.le_refl _)
 have h6 := K.r.np
 unfold typesZ numZ
 rw [List.length_append]
 omega
theorem able_any (R : RulesZ) (vp vs ve : Value) (p : PosZ) (vc v0 v1 : Value) (x : EndZ) (pl : Int) (w : World) (hr : RdL pieceEl w vp R.pieces) (hp : RdP w p vc v0 v1) (K : POk R p) (hx : endErr R.pieces.length x = 0) (hpl : pl = 0 ∨ pl = 1) :
  Calls Tryz.prog 167 #[(.agg #[.string R.name, .int .i64 R.width, .int .i64 R.height, vp, vs, .bool R.falls, .bool R.keeps, ve, .int .i64 R.blocked, .int .i64 R.quiet, .int .i64 R.rept]), (.agg #[vc, v0, v1, .int .i64 p.turn, .int .i64 p.quiet]), (.agg #[.int .i64 x.kind, .int .i64 x.piece, .int .i64 x.count, .bool x.loses]), .int .i64 pl] w fun e w' => e = .returned (.bool (ableZ R p x pl)) ∧ Below w.heap.size w w' := by
 have HD : Hid (ableZ R p x pl = if x.loses = true ∨ x.kind = 2 then true
 else if (x.kind = 0 ∧ x.count ≤ numZ p pl) ∨ (x.kind = 1 ∧ (typesZ p pl).any (becZ R x.piece (R.pieces.length + 1)) = true) then true
 else R.keeps && (typesZ p pl).any (takeZ R)) := Lib.hid rfl
 have HR := Lib.hid hr
 have HP := Lib.hid hp
 have HK := Lib.hid K
 have HTK := Lib.hid (types_k K pl)
 obtain ⟨tl1, tl2, tl3⟩ := types_len K pl
 have hxo := endOk hx
 have hk3 : x.kind = 0 ∨ x.kind = 1 ∨ x.kind = 2 := by rcases hxo with h | h | h <;> omega
 clear hr hp K hx hxo
 go_enter Tryz.func167, Tryz.ntmps167
 go_upto_region 1 with (fail)
 refine opn3 fun w0 B0 B1 B2 yb_ hs_ => ?_
 have HB := Lib.hid yb_
 have hz0 : w.heap.size + 1 + 1 < w0.heap.size := by omega
 clear hs_ yb_
 have HX := Lib.hid B0
 have HY := Lib.hid B1
 have HZ := Lib.hid B2
 clear B0 B1 B2
 refine wp_region_lit ?_
 refine wpList_load_box (by rfl) 59 (.tmp 5) (by rfl) (w.heap.size + 1) (by rfl) HY.out Tryz.underlying59 (by rfl) (by kernel_rfl) ?_
 go_wp2_with fail
 refine (types_any p vc v0 v1 pl w0 (HP.out.below HB.out (Nat.le_refl _)) HK.out hpl).mono ?_
 rintro e w1 ⟨vt, rfl, ho1, hb1⟩
 have HB1 := Lib.hid (below_trans HB.out hb1 HB.out.size)
 have HX1 := Lib.hid (HX.out.below hb1 (by omega))
 have HZ1 := Lib.hid (HZ.out.below hb1 (by omega))
 have HT1 := Lib.hid (RdI.of_own ho1)
 have hz1 : w.heap.size + 2 < w1.heap.size := by have := hb1.size; omega
 obtain ⟨at1, ct1, rfl⟩ := own_form2 ho1
 clear hb1 HX HY HZ ho1 hz0
 have HCA := Lib.hid (ContainsFuncW_any _ (typesZ p pl) (takeZ R) 199 #[.pointer (some ⟨w.heap.size, 0, none⟩)] w1 HT1.out callAb2 (fun W z hz hW => ab2_any R vp vs ve z _ W (HX1.out.stays hW) ((HR.out.below HB1.out (Nat.le_refl _)).below hW (by have := HB1.out.size; omega)) HK.out.r (HTK.out z hz).1 (HTK.out z hz).2))
 have HCB := Lib.hid (ContainsFuncW_any _ (typesZ p pl) (becZ R x.piece (R.pieces.length + 1)) 197 #[.pointer (some ⟨w.heap.size, 0, none⟩), .pointer (some ⟨w.heap.size + 2, 0, none⟩)] w1 HT1.out callAb1 (fun W z hz hW => ab1_any R vp vs ve x z _ _ W (HX1.out.stays hW) (HZ1.out.stays hW) ((HR.out.below HB1.out (Nat.le_refl _)).below hW (by have := HB1.out.size; omega)) HK.out.r (HTK.out z hz).1 (HTK.out z hz).2))
 have q6 := HX1.out.cell 6 rfl
 have x0 := HZ1.out.cell 0 rfl
 have x2 := HZ1.out.cell 2 rfl
 have x3 := HZ1.out.cell 3 rfl
 generalize typesZ p pl = ts at *
 generalize numZ p pl = nz at *
 by_cases hA : x.loses = true ∨ x.kind = 2
 ·have HE : Hid (ableZ R p x pl = true) := Lib.hid (by rw [HD.out, if_pos hA])
  clear HD HCA HCB
  rcases hl : x.loses with _ | _
  ·rw [hl] at x3 hA
   have hk : (x.kind == 2) = true := by simpa using hA
   clear hA
   go_wp2_with fail
   go_ret
   exact ⟨by rw [HE.out]; rfl, HB1.out⟩
  ·rw [hl] at x3
   clear hA
   go_wp2_with fail
   go_ret
   exact ⟨by rw [HE.out]; rfl, HB1.out⟩
 have HD1 : Hid (ableZ R p x pl = if (x.kind = 0 ∧ x.count ≤ nz) ∨ (x.kind = 1 ∧ ts.any (becZ R x.piece (R.pieces.length + 1)) = true) then true
  else R.keeps && ts.any (takeZ R)) := Lib.hid (by rw [HD.out, if_neg hA])
 have hlo : x.loses = false := by cases h : x.loses; rfl; exact absurd (.inl h) hA
 have hkk : x.kind = 0 ∨ x.kind = 1 := by rcases hk3 with h | h | h; exact .inl h; exact .inr h; exact absurd (.inr h) hA
 rw [hlo] at x3
 clear hA HD hk3 hlo
 rcases hkk with hk0 | hk1
 ·rw [hk0] at x0
  have HD2 : Hid (ableZ R p x pl = if x.count ≤ nz then true else R.keeps && ts.any (takeZ R)) := Lib.hid (by
   rw [HD1.out]
   by_cases q : x.count ≤ nz
   ·rw [if_pos (.inl ⟨hk0, q⟩), if_pos q]
   ·rw [if_neg (by rw [hk0]; simp [q]), if_neg q])
  clear HD1 hk0 HCB
  by_cases hc : x.count ≤ nz
  ·have HE : Hid (ableZ R p x pl = true) := Lib.hid (by rw [HD2.out, if_pos hc])
   clear HD2
   go_wp2_with fail
   go_ret
   exact ⟨by rw [HE.out]; rfl, HB1.out⟩
  have HE : Hid (ableZ R p x pl = (R.keeps && ts.any (takeZ R))) := Lib.hid (by rw [HD2.out, if_neg hc])
  clear HD2
  rcases hkeep : R.keeps with _ | _
  ·have HF : Hid (ableZ R p x pl = false) := Lib.hid (by rw [HE.out, hkeep]; rfl)
   rw [hkeep] at q6
   clear HE hkeep HCA
   go_wp2_with fail
   go_ret
   exact ⟨by rw [HF.out]; rfl, HB1.out⟩
  ·have HF : Hid (ableZ R p x pl = ts.any (takeZ R)) := Lib.hid (by rw [HE.out, hkeep]; rfl)
   rw [hkeep] at q6
   clear HE hkeep
   go_wp2_with fail
   refine HCA.out.mono ?_
   rintro e w3 ⟨rfl, hb3⟩
   have HB3 := Lib.hid (below_trans HB1.out hb3 HB1.out.size)
   clear hb3
   go_wp2_with fail
   go_ret
   exact ⟨by rw [HF.out]; rfl, HB3.out⟩
 ·rw [hk1] at x0
  have HD2 : Hid (ableZ R p x pl = if ts.any (becZ R x.piece (R.pieces.length + 1)) = true then true else R.keeps && ts.any (takeZ R)) := Lib.hid (by
   rw [HD1.out]
   by_cases q : ts.any (becZ R x.piece (R.pieces.length + 1)) = true
   ·rw [if_pos (.inr ⟨hk1, q⟩), if_pos q]
   ·rw [if_neg (by rw [hk1]; simp [q]), if_neg q])
  clear HD1 hk1
  go_wp2_with fail
  refine HCB.out.mono ?_
  rintro e w2 ⟨rfl, hb2⟩
  have HB2 := Lib.hid (below_trans HB1.out hb2 HB1.out.size)
  have HX2 := Lib.hid (HX1.out.stays hb2)
  have HT2 := Lib.hid (HT1.out.below hb2 (Nat.le_refl _))
  clear hb2 HCB HCA q6 x0 x2 x3 HZ1
  have HCA := Lib.hid (ContainsFuncW_any _ ts (takeZ R) 199 #[.pointer (some ⟨w.heap.size, 0, none⟩)] w2 HT2.out callAb2 (fun W z hz hW => ab2_any R vp vs ve z _ W (HX2.out.stays hW) ((HR.out.below HB2.out (Nat.le_refl _)).below hW (by have := HB2.out.size; omega)) HK.out.r (HTK.out z hz).1 (HTK.out z hz).2))
  have q6 := HX2.out.cell 6 rfl
  rcases hany : ts.any (becZ R x.piece (R.pieces.length + 1)) with _ | _
  rotate_left
  ·have HE : Hid (ableZ R p x pl = true) := Lib.hid (by rw [HD2.out, hany]; rfl)
   clear HD2 hany
   go_wp2_with fail
   go_ret
   exact ⟨by rw [HE.out]; rfl, HB2.out⟩
  have HE : Hid (ableZ R p x pl = (R.keeps && ts.any (takeZ R))) := Lib.hid (by rw [HD2.out, hany]; rfl)
  clear HD2 hany
  rcases hkeep : R.keeps with _ | _
  ·have HF : Hid (ableZ R p x pl = false) := Lib.hid (by rw [HE.out, hkeep]; rfl)
   rw [hkeep] at q6
   clear HE hkeep HCA
   go_wp2_with fail
   go_ret
   exact ⟨by rw [HF.out]; rfl, HB2.out⟩
  ·have HF : Hid (ableZ R p x pl = ts.any (takeZ R)) := Lib.hid (by rw [HE.out, hkeep]; rfl)
   rw [hkeep] at q6
   clear HE hkeep
   go_wp2_with fail
   refine HCA.out.mono ?_
   rintro e w3 ⟨rfl, hb3⟩
   have HB3 := Lib.hid (below_trans HB2.out hb3 HB2.out.size)
   clear hb3
   go_wp2_with fail
   go_ret
   exact ⟨by rw [HF.out]; rfl, HB3.out⟩
theorem aba1_any (R : RulesZ) (vp vs ve : Value) (p : PosZ) (vc v0 v1 : Value) (x : EndZ) (pl : Int) (b0 b1 b2 : Nat) (w : World) (B0 : Box w b0 [.string R.name, .int .i64 R.width, .int .i64 R.height, vp, vs, .bool R.falls, .bool R.keeps, ve, .int .i64 R.blocked, .int .i64 R.quiet, .int .i64 R.rept] 26) (B1 : Box w b1 [vc, v0, v1, .int .i64 p.turn, .int .i64 p.quiet] 59) (B2 : Box w b2 [.int .i64 pl] 3)
  (hr : RdL pieceEl w vp R.pieces) (hp : RdP w p vc v0 v1) (K : POk R p) (hx : endErr R.pieces.length x = 0) (hpl : pl = 0 ∨ pl = 1) :
  Calls Tryz.prog 166 (#[(.agg #[.int .i64 x.kind, .int .i64 x.piece, .int .i64 x.count, .bool x.loses])] ++ #[.pointer (some ⟨b0, 0, none⟩), .pointer (some ⟨b1, 0, none⟩), .pointer (some ⟨b2, 0, none⟩)]) w fun e w' => e = .returned (.bool (ableZ R p x pl)) ∧ Below w.heap.size w w' := by
 show Calls Tryz.prog 166 #[(.agg #[.int .i64 x.kind, .int .i64 x.piece, .int .i64 x.count, .bool x.loses]), .pointer (some ⟨b0, 0, none⟩), .pointer (some ⟨b1, 0, none⟩), .pointer (some ⟨b2, 0, none⟩)] w _
 have HHO := fun (w' : World) (h : Below w.heap.size w w') => Lib.hid (able_any R vp vs ve p vc v0 v1 x pl w' (hr.below h (Nat.le_refl _)) (hp.below h (Nat.le_refl _)) K hx hpl)
 have HHh := Lib.hid HHO
 have HX := Lib.hid B0
 have HY := Lib.hid B1
 have HZ := Lib.hid B2
 clear B0 B1 B2 hp HHO hr
 go_enter Tryz.func166, Tryz.ntmps166
 go_upto_region 1 with (fail)
 refine opn1 fun w0 hb0 yb_ hs_ => ?_
 have HB := Lib.hid yb_
 clear hs_ yb_
 have HX0 := Lib.hid (HX.out.stays HB.out)
 have HY0 := Lib.hid (HY.out.stays HB.out)
 have HZ0 := Lib.hid hb0
 have z0 := (HZ.out.stays HB.out).cell 0 rfl
 clear hb0
 refine wp_region_lit ?_
 refine wpList_load_box (by rfl) 26 (.tmp 1) (by rfl) (b0) (by rfl) HX0.out Tryz.underlying26 (by rfl) (by kernel_rfl) ?_
 refine wpList_load_box (by rfl) 59 (.tmp 2) (by rfl) (b1) (by rfl) HY0.out Tryz.underlying59 (by rfl) (by kernel_rfl) ?_
 refine wpList_load_box (by rfl) 108 (.tmp 4) (by rfl) (w.heap.size) (by rfl) HZ0.out Tryz.underlying108 (by rfl) (by kernel_rfl) ?_
 go_wp2_with fail
 refine (HHh.out w0 HB.out).out.mono ?_
 rintro e w1 ⟨rfl, hb1⟩
 have HB1 := Lib.hid (below_trans HB.out hb1 HB.out.size)
 clear hb1 z0
 go_wp2_with fail
 go_ret
 exact ⟨rfl, HB1.out⟩
def ableErr (R : RulesZ) (p : PosZ) (pl : Int) : Int := if posErr R p ≠ 0 then posErr R p else if pl ≠ 0 ∧ pl ≠ 1 then 1 else 0
def ableR (R : RulesZ) (p : PosZ) (pl : Int) : Bool := if ableErr R p pl ≠ 0 then false else canZ R p pl
theorem Able_any (R : RulesZ) (vp vs ve : Value) (p : PosZ) (vc v0 v1 : Value) (pl : Int) (w : World) (hr : RdR w R vp vs ve) (hnm : R.name.size ≤ maxLen) (hp : RdP w p vc v0 v1) :
  Calls Tryz.prog 132 #[(.agg #[.string R.name, .int .i64 R.width, .int .i64 R.height, vp, vs, .bool R.falls, .bool R.keeps, ve, .int .i64 R.blocked, .int .i64 R.quiet, .int .i64 R.rept]), (.agg #[vc, v0, v1, .int .i64 p.turn, .int .i64 p.quiet]), .int .i64 pl] w fun e w' => e = .returned (.tuple #[.bool (ableR R p pl), .int .i64 (ableErr R p pl)]) ∧ Below w.heap.size w w' := by
 have HD : Hid (ableErr R p pl = if posErr R p ≠ 0 then posErr R p else if pl ≠ 0 ∧ pl ≠ 1 then 1 else 0) := Lib.hid rfl
 have HQ : Hid (ableR R p pl = if ableErr R p pl ≠ 0 then false else canZ R p pl) := Lib.hid rfl
 have HCD : Hid (canZ R p pl = if R.blocked ≠ 2 then true else R.ends.any fun x => ableZ R p x pl) := Lib.hid rfl
 have HR := Lib.hid hr
 have HP := Lib.hid hp
 have HN := Lib.hid hnm
 obtain ⟨ae, ce, rfl, hl1, hl2⟩ := hr.2.2.form
 unfold maxLen at hl2
 clear hr hp hnm
 go_enter Tryz.func132, Tryz.ntmps132
 go_upto_region 1 with (fail)
 refine opn3 fun w0 B0 B1 B2 yb_ hs_ => ?_
 have HB := Lib.hid yb_
 have hz0 : w.heap.size + 1 + 1 < w0.heap.size := by omega
 clear hs_ yb_
 have HX := Lib.hid B0
 have HY := Lib.hid B1
 have HZ := Lib.hid B2
 clear B0 B1 B2
 refine wp_region_lit ?_
 refine wpList_load_box (by rfl) 26 (.tmp 3) (by rfl) (w.heap.size) (by rfl) HX.out Tryz.underlying26 (by rfl) (by kernel_rfl) ?_
 refine wpList_load_box (by rfl) 59 (.tmp 4) (by rfl) (w.heap.size + 1) (by rfl) HY.out Tryz.underlying59 (by rfl) (by kernel_rfl) ?_
 go_wp2_with fail
 refine (placeCheck_any R vp vs _ p vc v0 v1 w0 (HR.out.below HB.out (Nat.le_refl _)) HN.out (HP.out.below HB.out (Nat.le_refl _))).mono ?_
 rintro e w1 ⟨rfl, hb1⟩
 have HB1 := Lib.hid (below_trans HB.out hb1 HB.out.size)
 have HX1 := Lib.hid (HX.out.below hb1 (by omega))
 have HY1 := Lib.hid (HY.out.below hb1 (by omega))
 have HZ1 := Lib.hid (HZ.out.below hb1 (by omega))
 have hz1 : w.heap.size + 2 < w1.heap.size := by have := hb1.size; omega
 clear hb1 HX HY HZ hz0
 have z0 := HZ1.out.cell 0 rfl
 by_cases he : posErr R p = 0
 rotate_left
 ·have hE : ableErr R p pl = posErr R p := by rw [HD.out, if_pos he]
  have HE := Lib.hid hE
  have HG : Hid (ableR R p pl = false) := Lib.hid (by rw [HQ.out, hE, if_pos he])
  have heb : (posErr R p != 0) = true := by simpa using he
  clear hE he HQ HD HCD
  go_wp2_with fail
  go_ret2
  exact ⟨by rw [HG.out, HE.out]; rfl, HB1.out⟩
 have HZE := Lib.hid he
 have HD1 : Hid (ableErr R p pl = if pl ≠ 0 ∧ pl ≠ 1 then 1 else 0) := Lib.hid (by rw [HD.out, if_neg (by simp [he])])
 rw [he]
 clear he HD
 by_cases hpl : pl = 0 ∨ pl = 1
 rotate_left
 ·have hp0 : (pl != 0) = true := by simp; omega
  have hp1 : (pl != 1) = true := by simp; omega
  have hE : ableErr R p pl = 1 := by rw [HD1.out, if_pos (by omega)]
  have HE := Lib.hid hE
  have HG : Hid (ableR R p pl = false) := Lib.hid (by rw [HQ.out, hE]; rfl)
  clear hE hpl HQ HD1 HCD
  go_wp2_with fail
  go_ret2
  exact ⟨by rw [HG.out, HE.out]; rfl, HB1.out⟩
 have hE : ableErr R p pl = 0 := by rw [HD1.out, if_neg (by omega)]
 have HE := Lib.hid hE
 have HG : Hid (ableR R p pl = canZ R p pl) := Lib.hid (by rw [HQ.out, hE]; rfl)
 have HPL := Lib.hid hpl
 clear hE HD1 HQ
 have HK := Lib.hid (pok_of HZE.out)
 have HCE := Lib.hid (ContainsFunc_en _ R.ends (fun x => ableZ R p x pl) 166 #[.pointer (some ⟨w.heap.size, 0, none⟩), .pointer (some ⟨w.heap.size + 1, 0, none⟩), .pointer (some ⟨w.heap.size + 2, 0, none⟩)] w1 (HR.out.2.2.below HB1.out (Nat.le_refl _)) callAbA (fun W x cs hx hE hW => by
  simp only [endEl] at hE
  subst hE
  obtain ⟨i, hi, rfl⟩ := List.mem_iff_getElem.1 hx
  have hee := HK.out.r.ee i hi
  rw [List.getD_eq_getElem?_getD, List.getElem?_eq_getElem hi] at hee
  exact aba1_any R vp vs _ p vc v0 v1 R.ends[i] pl _ _ _ W (HX1.out.stays hW) (HY1.out.stays hW) (HZ1.out.stays hW) ((HR.out.1.below HB1.out (Nat.le_refl _)).below hW (by have := HB1.out.size; omega)) ((HP.out.below HB1.out (Nat.le_refl _)).below hW (by have := HB1.out.size; omega)) HK.out hee HPL.out))
 have q7 := HX1.out.cell 7 rfl
 have q8 := HX1.out.cell 8 rfl
 have hpx : ((pl != 0) = true ∧ (pl != 1) = false) ∨ (pl != 0) = false := by rcases hpl with h | h <;> simp [h]
 clear hpl
 by_cases hb2 : R.blocked = 2
 ·have HF : Hid (ableR R p pl = R.ends.any fun x => ableZ R p x pl) := Lib.hid (by rw [HG.out, HCD.out, if_neg (by simp [hb2])])
  rw [hb2] at q8
  clear hb2 HG HCD
  rcases hpx with ⟨hp0, hp1⟩ | hp0
  ·go_wp2_with fail
   refine HCE.out.mono ?_
   rintro e w2 ⟨rfl, hb2⟩
   have HB2 := Lib.hid (below_trans HB1.out hb2 HB1.out.size)
   clear hb2
   go_wp2_with fail
   go_ret2
   exact ⟨by rw [HF.out, HE.out]; rfl, HB2.out⟩
  ·go_wp2_with fail
   refine HCE.out.mono ?_
   rintro e w2 ⟨rfl, hb2⟩
   have HB2 := Lib.hid (below_trans HB1.out hb2 HB1.out.size)
   clear hb2
   go_wp2_with fail
   go_ret2
   exact ⟨by rw [HF.out, HE.out]; rfl, HB2.out⟩
 ·have HF : Hid (ableR R p pl = true) := Lib.hid (by rw [HG.out, HCD.out, if_pos hb2])
  have hbb : (R.blocked != 2) = true := by simpa using hb2
  clear hb2 HG HCD
  rcases hpx with ⟨hp0, hp1⟩ | hp0
  ·go_wp2_with fail
   go_ret2
   exact ⟨by rw [HF.out, HE.out]; rfl, HB1.out⟩
  ·go_wp2_with fail
   go_ret2
   exact ⟨by rw [HF.out, HE.out]; rfl, HB1.out⟩
end Go.Proofs.YtnodagljaoonjaaGreatDoor
namespace Go.Proofs.YtnodagljaoonjaaGreatDoor
open Go.ChangeShapes Go.WideShapes Go.ChangeAt Go.RowKit
set_option linter.unusedVariables false
theorem Check_ok (v : Value) (es : List EntZ) (w : World) (h : RdJ w v es) (hok : OkJ es) (hlen : es.length ≤ 1000) :
  Calls Tryz.prog 40 #[v] w (ErrPost 0 w) := by
 have HG := Lib.hid (Good_ok v es w h hok hlen)
 obtain ⟨a, c, rfl, h1, h2, hc⟩ := h.form
 unfold maxLen at h2
 clear h hok hc
 go_enter Tryz.func40, Tryz.ntmps40
 go_wp2_with fail
 refine HG.out.mono ?_
 rintro e w1 ⟨rfl, hb⟩
 go_wp2_with fail
 go_ret
 exact ⟨rfl, hb⟩
theorem infoJ : (Tryz.prog.info? 90).map (fun i => (i.zero, i.size, i.bytes)) = some (some (.agg #[.string ByteArray.empty, .int .u64 0]), 2, 24) := by kernel_rfl
theorem flatJ_one (es : List EntZ) : ∀ u ∈ flatJ es, u.oneCell' = true := by
 intro u hu
 simp only [flatJ, List.mem_flatMap] at hu
 obtain ⟨e, _, hq⟩ := hu
 simp at hq
 rcases hq with rfl | rfl <;> rfl
def OwnJ (es : List EntZ) (w : World) (v : Value) (w' : World) : Prop := w'.ownsRow w.heap.size 90 2 v es.length (flatJ es) ∧ Below w.heap.size w w'
theorem CloneJ_any (v : Value) (es : List EntZ) (w : World) (h : RdJ w v es) (hl : es.length ≤ 1000000) :
  Calls Tryz.prog 31 #[v] w fun e w' => ∃ v', e = .returned v' ∧ OwnJ es w v' w' := by
 obtain ⟨i0, hi, hz0, hz1, hz2⟩ := info_parts infoJ
 have hq := fun (w : World) (a : Option Addr) (n c : Nat) => Lib.run_eql_slice_nil (P := Tryz.prog) w 52 90 a n c 0 0 Tryz.underlying52
 have hform : (∃ c, v = .slice none 0 c ∧ es = []) ∨ ∃ (ad : Addr) (c : Nat), v = .slice (some ad) es.length c ∧ es.length ≤ c ∧ c ≤ maxLen ∧ ∀ j u, (flatJ es)[j]? = some u → (w.alloc (.cells #[] 90)).cell? (ad.add j) = some u := by
  rcases h.2 with ⟨⟨a, c, rfl, hm⟩, hz⟩ | ⟨g, o, c, rfl, h1, h2, hc⟩
  ·obtain rfl : es = [] := List.length_eq_zero_iff.1 hz
   cases a with
   | none => exact .inl ⟨c, rfl, rfl⟩
   | some ad => exact .inr ⟨ad, c, rfl, by simp, hm, fun j u hu => by simp [flatJ] at hu⟩
  ·refine .inr ⟨⟨g, o, none⟩, c, rfl, h1, h2, fun j u hu => ?_⟩
   have hj : j < es.length * 2 := by
    have := (List.getElem?_eq_some_iff.1 hu).1
    rwa [flatJ_len] at this
   have hcell := hc j hj
   rw [hu] at hcell
   have hlt := World.block_lt_of_cell? w _ hcell
   rw [add_off, World.cell?_of_block (w := w) (a := ⟨g, o + j, none⟩) (Below.heap_alloc w _ g hlt)]
   exact hcell
 rcases hform with ⟨c, rfl, rfl⟩ | ⟨ad, c, rfl, h1, h2, hnews⟩
 ·clear h hl
  go_enter Tryz.func31, Tryz.ntmps31
  go_wp2
  go_ret
  exact ⟨_, rfl, World.ownsRow_nil _ _ _ _, Below.refl _ _⟩
 ·have hown0 : (w.alloc (.cells #[] 90)).ownsRow w.heap.size 90 2 (.slice (some ⟨w.heap.size, 0, none⟩) 0 0) 0 [] := World.ownsRow_made w #[] 0 (Nat.le_refl _) (by unfold maxLen; omega) rfl
  have Hown0 := Lib.hid hown0
  have Hnews := Lib.hid hnews
  have Hil := Lib.hid (flatJ_len es)
  have S1 := Lib.hid (flatJ_one es)
  clear hown0 hnews h
  go_enter Tryz.func31, Tryz.ntmps31
  go_wp2_with (at_builtin; refine wpList_append_own _ rfl _ _ 52 rfl w.heap.size 90 i0 (.agg #[.string ByteArray.empty, .int .u64 0]) 2 24 Tryz.underlying52 hi hz0 hz1 hz2 rfl (by decide) _ 0 [] rfl Hown0.out ad es.length c (flatJ es) rfl Hil.out Hnews.out S1.out ?c3 ?c4 ?c5 ?_)
  case c3 => unfold maxLen; omega
  case c4 => omega
  case c5 => simp
  intro v' w2 hown' hgrow _
  try simp only [Nat.zero_add, List.nil_append] at hown'
  have hb : Below w.heap.size w w2 := Below.grown ((Below.refl _ w).alloc (Nat.le_refl _) _) hgrow (by simp) (fun q hq => by simp [Value.ownBlock] at hq; omega)
  have HO := Lib.hid hown'
  clear hown' hgrow
  go_wp2
  go_ret
  exact ⟨v', rfl, HO.out, hb⟩
def appJ (es : List EntZ) (s : ByteArray) : List EntZ × Int := if textE s ≠ 0 then ([], textE s) else (es ++ [⟨s, sumZ (lastJ es) s⟩], 0)
def AppPost (r : List EntZ × Int) (w : World) (e : Ending) (w' : World) : Prop := ∃ v', e = .returned (.tuple #[v', .int .i64 r.2]) ∧ OwnJ r.1 w v' w'
set_option maxHeartbeats 1000000 in
theorem Append_ok (v : Value) (es : List EntZ) (s : ByteArray) (w : World) (h : RdJ w v es) (hok : OkJ es) (hlen : es.length ≤ 100) (hs : s.size ≤ 9223372036854775807) :
  Calls Tryz.prog 26 #[v, .string s] w (AppPost (appJ es s) w) := by
 obtain ⟨i0, hi, hz0, hz1, hz2⟩ := info_parts infoJ
 have HC := Lib.hid (Check_ok v es w h hok (by omega))
 have HT := Lib.hid (fun w => text_any s w hs)
 have HR : Hid (appJ es s = if textE s ≠ 0 then ([], textE s) else (es ++ [⟨s, sumZ (lastJ es) s⟩], 0)) := Lib.hid rfl
 have HJ := Lib.hid h
 obtain ⟨a, c, rfl, h1, h2, hc⟩ := h.form
 unfold maxLen at h2
 clear h hok hc
 go_enter Tryz.func26, Tryz.ntmps26
 go_wp2_with fail
 refine HC.out.mono ?_
 rintro e w1 ⟨rfl, hb1⟩
 go_wp2_with fail
 refine (HT.out _).mono ?_
 rintro e w2 ⟨rfl, hb2⟩
 have hb02 := hb1.trans (hb2.mono hb1.size)
 have HJ2 := Lib.hid (HJ.out.below hb02 (Nat.le_refl _))
 clear hb1 hb2
 cases hr : (textE s != 0)
 ·have hr0 : textE s = 0 := by simpa using hr
  have HR2 : Hid (appJ es s = (es ++ [⟨s, sumZ (lastJ es) s⟩], 0)) := Lib.hid (by rw [HR.out, if_neg (by simpa using hr0)])
  rw [hr0]
  have hnf : (((es.length : Int)) == 1000) = false := by simp; omega
  clear hr hr0 HR HT HC
  go_wp2_with fail
  refine (CloneJ_any _ es _ HJ2.out (by omega)).mono ?_
  rintro e w3 ⟨v3, rfl, ho3, hb3⟩
  have HJ3 := Lib.hid (HJ2.out.below hb3 (Nat.le_refl _))
  have HO3 := Lib.hid ho3
  have hb03 := hb02.trans (hb3.mono hb02.size)
  have hs3 := hb3.size
  have hs2 := hb02.size
  clear ho3 hb3
  go_wp2_with fail
  refine (last_any _ es _ HJ3.out).mono ?_
  rintro e w' ⟨rfl, rfl⟩
  go_wp2_with fail
  refine (Sum_any (lastJ es) s _ hs).mono ?_
  rintro e w' ⟨rfl, rfl⟩
  generalize sumZ (lastJ es) s = z at *
  have HOa := Lib.hid (HO3.out.alloc (.cells #[.string s, .int .u64 z] 90))
  have S1 : Hid (∀ u ∈ [Value.string s, .int .u64 z], u.oneCell' = true) := Lib.hid (fun u hu => by simp at hu; rcases hu with rfl | rfl <;> rfl)
  have S2 : Hid (es.length + 1 ≤ maxLen) := Lib.hid (by unfold maxLen; omega)
  have S3 : Hid ((es.length + 1) * 24 ≤ 140737488355328) := Lib.hid (by omega)
  have S4 : Hid (w2.heap.size ≤ (w3.alloc (.cells #[.string s, .int .u64 z] 90)).heap.size) := Lib.hid (by simp; omega)
  have S5 : Hid ((w3.alloc (.cells #[.string s, .int .u64 z] 90)).heap.size = w3.heap.size + 1) := Lib.hid (by simp)
  have S0 : Hid (0 < 1) := Lib.hid (by omega)
  go_wp2_with (at_builtin; refine wpList_append_lies _ rfl _ _ 52 rfl w2.heap.size 90 i0 (.agg #[.string ByteArray.empty, .int .u64 0]) 2 24 Tryz.underlying52 hi hz0 hz1 hz2 rfl (by decide) _ es.length (flatJ es) rfl HOa.out ⟨w3.heap.size, 0, none⟩ 1 1 [.string s, .int .u64 z] rfl rfl (cell_two_new _ _ _ _) S1.out S0.out S2.out S3.out S4.out (w3.heap.size + 1) S5.out ?_)
  intro g4 c4 w4 hown4 hgrow4 hat4 hlt4
  have hb4 : Below w.heap.size w w4 := Below.grown (hb03.alloc (by omega) _) hgrow4 (by simp; omega) (fun q hq => by have := (HOa.out.lt q hq).1; omega)
  have HO4 := Lib.hid hown4
  clear hown4 hgrow4 hat4 hlt4 HOa
  go_wp2_with fail
  go_ret2
  exact ⟨_, by rw [HR2.out]; rfl, by rw [HR2.out]; refine ⟨?_, hb4⟩; simp only [flatJ_append, List.length_append]; have := HO4.out; exact ⟨by simpa [flatJ] using this.1, by
   rcases this.2 with ⟨q, _⟩ | ⟨g', cap', cur', q1, q2, q3⟩
   ·cases q
   ·exact .inr ⟨g', cap', cur', q1, by omega, q3⟩⟩⟩
 ·have hr' : ¬ textE s = 0 := by simpa using hr
  have HR2 : Hid (appJ es s = ([], textE s)) := Lib.hid (by rw [HR.out, if_pos hr'])
  generalize textE s = t at *
  clear hr'
  go_wp2_with fail
  go_ret2
  exact ⟨_, by rw [HR2.out]; rfl, by rw [HR2.out]; exact ⟨World.ownsRow_nil _ _ _ _, hb02⟩⟩
end Go.Proofs.YtnodagljaoonjaaGreatDoor
namespace Go.Proofs.YtnodagljaoonjaaGreatDoor
open Go.ChangeShapes Go.WideShapes Go.ChangeAt Go.RowKit
set_option linter.unusedVariables false
/-- where a match's data lie. -/
structure MatB where
  vp : Value
  vs : Value
  ve : Value
  pa : Option Addr
  pc : Nat
  g : Nat
  vr : Value
  vj : Value
def matV (M : MatZ) (B : MatB) : List Value :=
  [.string M.R.name, .int .i64 M.R.width, .int .i64 M.R.height, B.vp, B.vs, .bool M.R.falls, .bool M.R.keeps, B.ve, .int .i64 M.R.blocked, .int .i64 M.R.quiet, .int .i64 M.R.rept,
   .slice B.pa M.CR.ps.length B.pc, .int .i64 M.CR.inc, .int .i64 M.CR.delay, .pointer (some ⟨B.g, 0, none⟩), .slice none 0 0, .int .i64 M.res, .int .i64 M.reason,
   .int .i64 M.clk.l0, .int .i64 M.clk.l1, .int .i64 M.clk.m0, .int .i64 M.clk.m1, .int .i64 M.clk.p0, .int .i64 M.clk.p1, .int .i64 M.clk.turn, .int .i64 M.clk.since, .bool M.clk.st, .int .i64 M.clk.fallen,
   .int .i64 M.off.b0, .int .i64 M.off.b1, .int .i64 M.off.l00, .int .i64 M.off.l01, .int .i64 M.off.l10, .int .i64 M.off.l11, B.vr, .int .i64 M.last, B.vj]
/-- what is read through the match's cells, and lies outside what it and its game write. -/
structure MatRd (M : MatZ) (B : MatB) (w : World) : Prop where
  rd : RdR w M.R B.vp B.vs B.ve
  per : clk.PerAt w w.heap.size B.pa M.CR.ps.length M.CR.ps
  pc : M.CR.ps.length ≤ B.pc ∧ B.pc ≤ maxLen
  pr : RdL premEl w B.vr M.prem
  jr : RdJ w B.vj M.jr
def one1 (b : Nat) : Nat → Prop := fun k => k = b
/-- a match in block b whose game writes the blocks S. -/
structure MatchAt (S : Nat → Prop) (base : Nat) (w : World) (b : Nat) (M : MatZ) (B : MatB) : Prop where
  box : Box w b (matV M B) 78
  nb : ¬ S b
  lo : base ≤ b
  game : ∃ up us ue vl vm rows, gx.GameAt (one1 b) S base w B.g M.R M.ms up us ue vl vm rows
  rd : gx.Held (one1 b) S w (MatRd M B)
theorem MatchAt.fr {S : Nat → Prop} {base : Nat} {w : World} {b : Nat} {M : MatZ} {B : MatB} (h : MatchAt S base w b M B) : MatRd M B w := h.rd.now
theorem MatchAt.below {S : Nat → Prop} {base : Nat} {w w' : World} {b : Nat} {M : MatZ} {B : MatB} (h : MatchAt S base w b M B) (hb : Below w.heap.size w w') : MatchAt S base w' b M B := by
  obtain ⟨up, us, ue, vl, vm, rows, hg⟩ := h.game
  exact ⟨h.box.stays hb, h.nb, h.lo, ⟨_, _, _, _, _, _, hg.below hb⟩, h.rd.step (Fr.of_new (S := S) hb) (Shr.refl _ _)⟩
/-- what a match changes: its own block, its game's blocks. -/
def MFr (S : Nat → Prop) (b : Nat) (w w' : World) : Prop := Fr (fun k => S k ∨ one1 b k) w w'
theorem MFr.refl (S : Nat → Prop) (b : Nat) (w : World) : MFr S b w w := Fr.refl _ _
theorem MFr.trans {S S' : Nat → Prop} {b : Nat} {w w1 w2 : World} (h : MFr S b w w1) (k : MFr S' b w1 w2) (hs : Shr w S S') : MFr S b w w2 :=
  Fr.trans h k (fun i hi h' => by rcases h' with h' | h'; exact .inl (hs i hi h'); exact .inr h')
theorem MFr.new {S : Nat → Prop} {b : Nat} {w w' : World} (h : Below w.heap.size w w') : MFr S b w w' := Fr.of_new h
theorem MFr.base {S : Nat → Prop} {base b : Nat} {w w' : World} {M : MatZ} {B : MatB} (m : MatchAt S base w b M B) (h : MFr S b w w') (hb : base ≤ w.heap.size) : Below base w w' := by
  obtain ⟨up, us, ue, vl, vm, rows, hg⟩ := m.game
  exact Fr.below h (fun k hk => by rcases hk with hk | hk; exact (hg.lo k hk).1; rw [show k = b from hk]; exact m.lo) hb
/-- cells of the match's block are written; what is read through the new cells is told anew. -/
theorem MatchAt.put {S : Nat → Prop} {base : Nat} {w : World} {b : Nat} {M M' : MatZ} {B B' : MatB} (h : MatchAt S base w b M B) (o : Nat) (vs : List Value) (hl : o + vs.length ≤ 37) (he : splice (matV M B) o vs = matV M' B') (hr : M'.R = M.R) (hm : M'.ms = M.ms) (hg : B'.g = B.g)
    (hd : gx.Held (one1 b) S w (MatRd M' B')) : MatchAt S base (w.setCells b o vs) b M' B' ∧ MFr S b w (w.setCells b o vs) := by
  have hf : MFr S b w (w.setCells b o vs) := (Fr.refl _ _).setCells (.inr rfl) o vs
  obtain ⟨up, us, ue, vl, vm, rows, hgm⟩ := h.game
  have hfx : Fr (one1 b) w (w.setCells b o vs) := (Fr.refl (one1 b) w).setCells (b := b) (show one1 b b from rfl) o vs
  refine ⟨⟨h.box.storeMid o (by simpa [matV] using hl) he, h.nb, h.lo, ⟨up, us, ue, vl, vm, rows, ?_⟩, hd.stepX hf (Shr.refl _ _)⟩, hf⟩
  rw [hr, hm, hg]
  exact hgm.other hfx (fun k hk hx => h.nb (by rw [← (show k = b from hx)]; exact hk))
end Go.Proofs.YtnodagljaoonjaaGreatDoor
namespace Go.Proofs.YtnodagljaoonjaaGreatDoor
open Go.ChangeShapes Go.WideShapes Go.ChangeAt Go.RowKit
set_option linter.unusedVariables false
set_option maxRecDepth 100000
/-- the match has become M'. -/
def MPost (S : Nat → Prop) (base b : Nat) (w : World) (M' : MatZ) (w' : World) : Prop := ∃ S' B', MatchAt S' base w' b M' B' ∧ Shr w S S' ∧ MFr S b w w'
variable {S : Nat → Prop} {base b : Nat} {M : MatZ} {B : MatB}
theorem fieldTurn (a b c : Value) (t q : Int) (w : World) : (Instr.field 59 (.agg #[a, b, c, .int .i64 t, .int .i64 q]) 2).run Tryz.prog w = .ok (.int .i64 t) w := by kernel_rfl
theorem fieldQuiet (a b c : Value) (t q : Int) (w : World) : (Instr.field 59 (.agg #[a, b, c, .int .i64 t, .int .i64 q]) 3).run Tryz.prog w = .ok (.int .i64 q) w := by kernel_rfl
theorem turn_any (w : World) (h : MatchAt S base w b M B) : Calls Tryz.prog 81 #[.pointer (some ⟨b, 0, none⟩)] w fun e w' => e = .returned (.int .i64 M.pos.turn) ∧ Below w.heap.size w w' := by
 obtain ⟨up, us, ue, vl, vm, rows, hg⟩ := h.game
 have HG := Lib.hid hg.plain
 have HD : Hid (M.pos = nowZ M.R M.ms) := Lib.hid rfl
 have c14 := h.box.cell 14 rfl
 clear h hg
 go_enter Tryz.func81, Tryz.ntmps81
 go_wp2_with fail
 refine (gamePos_any w HG.out).mono ?_
 rintro e w1 ⟨vc, v0, v1, rfl, ho, hb⟩
 have HB := Lib.hid hb
 clear hb ho
 have HT : Hid ((nowZ M.R M.ms).turn = M.pos.turn) := Lib.hid rfl
 have hfT := fieldTurn vc v0 v1 (nowZ M.R M.ms).turn (nowZ M.R M.ms).quiet
 generalize (nowZ M.R M.ms).turn = tt at *
 generalize (nowZ M.R M.ms).quiet = qq at *
 go_wp2_with fail
 go_ret
 exact ⟨by rw [HT.out]; rfl, HB.out⟩
theorem count_m (w : World) (h : MatchAt S base w b M B) : Calls Tryz.prog 83 #[.pointer (some ⟨b, 0, none⟩)] w fun e w' => e = .returned (.int .i64 M.ms.length) ∧ Below w.heap.size w w' := by
 obtain ⟨up, us, ue, vl, vm, rows, hg⟩ := h.game
 have HG := Lib.hid hg.plain
 have c14 := h.box.cell 14 rfl
 clear h hg
 go_enter Tryz.func83, Tryz.ntmps83
 go_wp2_with fail
 refine (gameMoves_any w HG.out).mono ?_
 rintro e w1 ⟨v, rfl, ho, hb⟩
 obtain ⟨a, c, rfl⟩ := own_form2 ho
 have HB := Lib.hid hb
 clear hb ho
 go_wp2_with fail
 go_ret
 exact ⟨rfl, HB.out⟩
theorem over_any (HS : SortMvSaid) (w : World) (h : MatchAt S base w b M B) : Calls Tryz.prog 28 #[.pointer (some ⟨b, 0, none⟩)] w fun e w' => e = .returned (.tuple #[]) ∧ MPost S base b w M.over w' := by
 obtain ⟨up, us, ue, vl, vm, rows, hg⟩ := h.game
 have HG := Lib.hid hg.plain
 have HM := Lib.hid h
 have HD : Hid (gameRes M.R M.ms = M.game) := Lib.hid rfl
 have HSh := Lib.hid HS
 have c14 := h.box.cell 14 rfl
 clear h hg HS
 go_enter Tryz.func28, Tryz.ntmps28
 go_wp2_with fail
 refine (gameRes_any HSh.out w HG.out).mono ?_
 rintro e w1 ⟨rfl, hb⟩
 rw [HD.out]
 have HM1 := Lib.hid (HM.out.below hb)
 have HF1 : Hid (MFr S b w w1) := Lib.hid (MFr.new hb)
 have HZ := Lib.hid hb
 clear hb c14
 have c16 := HM1.out.box.cell 16 rfl
 have f16 := HM1.out.box.frozen 16
 have c17 := HM1.out.box.cell 17 rfl
 have f17 := HM1.out.box.frozen 17
 by_cases hr : M.res = 0
 ·have HRz := Lib.hid hr
  rw [hr] at c16
  clear hr
  by_cases hz : M.game = 0
  ·have HO : Hid (M.over = M) := Lib.hid (by unfold MatZ.over; rw [if_neg (fun h => h.1 hz)])
   rw [hz]
   clear hz
   go_wp2_with fail
   go_end0
   exact ⟨rfl, S, B, by rw [HO.out]; exact HM1.out, Shr.refl _ _, HF1.out⟩
  ·have HO : Hid (M.over = { M with res := M.game, reason := 1 }) := Lib.hid (by unfold MatZ.over; rw [if_pos ⟨hz, HRz.out⟩])
   have hzb : (M.game != 0) = true := by simpa using hz
   have HP := Lib.hid (HM1.out.put (M' := { M with res := M.game, reason := 1 }) (B' := B) 16 [.int .i64 M.game, .int .i64 1] (by simp) rfl rfl rfl rfl (HM1.out.rd.imp (fun _ h => ⟨h.rd, h.per, h.pc, h.pr, h.jr⟩)))
   clear hz
   generalize M.game = gm at *
   go_wp2_with fail
   go_end0
   exact ⟨rfl, S, B, by rw [HO.out]; exact HP.out.1, Shr.refl _ _, HF1.out.trans HP.out.2 (Shr.refl _ _)⟩
 ·have HO : Hid (M.over = M) := Lib.hid (by unfold MatZ.over; rw [if_neg (fun h => hr h.2)])
  have hrb : (M.res == 0) = false := by simpa using hr
  clear hr
  generalize M.game = gm at *
  go_wp2_with fail
  go_end0
  exact ⟨rfl, S, B, by rw [HO.out]; exact HM1.out, Shr.refl _ _, HF1.out⟩
end Go.Proofs.YtnodagljaoonjaaGreatDoor

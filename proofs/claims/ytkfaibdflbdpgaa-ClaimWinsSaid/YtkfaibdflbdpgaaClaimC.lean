/- The contracts of claim.becomes, able, Able. -/
import Derived.Test.YtkfaibdflbdpgaaClaimB
import Derived.Test.YtkfaibdflbdpgaaEngBegin
namespace Go.Proofs.Ytkfaibdflbdpgaa
open Go.ChangeShapes Go.WideShapes Go.ChangeAt Go.RowKit
set_option linter.unusedVariables false

theorem bec_step {R : RulesZ} {piece k : Int} {i : Nat} (h : i < R.pieces.length + 1) : becZ R piece (R.pieces.length + 1 - i) k = if k = piece then true else if (R.pieces.getD k.toNat default).promote = 0 then false else becZ R piece (R.pieces.length + 1 - (i + 1)) ((R.pieces.getD k.toNat default).promote - 1) := by
  rw [show R.pieces.length + 1 - i = (R.pieces.length - i) + 1 by omega, show R.pieces.length + 1 - (i + 1) = R.pieces.length - i by omega]
  rfl
set_option maxRecDepth 100000 in
set_option maxHeartbeats 2000000 in
theorem becomes_any (R : RulesZ) (vp vs ve : Value) (k0 piece : Int) (w : World) (hr : RdL pieceEl w vp R.pieces) (K : ROk R) (h0 : 0 ≤ k0) (h1 : k0 < R.pieces.length) :
    Calls Try.prog 140 #[(.agg #[.string R.name, .int .i64 R.width, .int .i64 R.height, vp, vs, .bool R.falls, .bool R.keeps, ve, .int .i64 R.blocked, .int .i64 R.quiet, .int .i64 R.rept]), .int .i64 k0, .int .i64 piece] w fun e w' => e = .returned (.bool (becZ R piece (R.pieces.length + 1) k0)) ∧ Below w.heap.size w w' := by
  have HR := Lib.hid hr
  have HK := Lib.hid K
  obtain ⟨np1, np2⟩ := K.np
  obtain ⟨a, c, rfl, hl1, hl2⟩ := hr.form
  unfold maxLen at hl2
  clear hr K
  go_enter Try.func140, Try.ntmps140
  go_upto_region 1 with (fail)
  have B0 : Box (w.alloc (.cells #[.string R.name, .int .i64 R.width, .int .i64 R.height, (.slice a R.pieces.length c), vs, .bool R.falls, .bool R.keeps, ve, .int .i64 R.blocked, .int .i64 R.quiet, .int .i64 R.rept] 26)) (w.heap.size) [.string R.name, .int .i64 R.width, .int .i64 R.height, (.slice a R.pieces.length c), vs, .bool R.falls, .bool R.keeps, ve, .int .i64 R.blocked, .int .i64 R.quiet, .int .i64 R.rept] 26 := (Box.new' w (w.heap.size) [.string R.name, .int .i64 R.width, .int .i64 R.height, (.slice a R.pieces.length c), vs, .bool R.falls, .bool R.keeps, ve, .int .i64 R.blocked, .int .i64 R.quiet, .int .i64 R.rept] 26 (by simp <;> omega))
  have HB : Hid (Below w.heap.size w (w.alloc (.cells #[.string R.name, .int .i64 R.width, .int .i64 R.height, (.slice a R.pieces.length c), vs, .bool R.falls, .bool R.keeps, ve, .int .i64 R.blocked, .int .i64 R.quiet, .int .i64 R.rept] 26))) := Lib.hid ((Below.refl w.heap.size w).alloc (Nat.le_refl _) _)
  have hz0 : w.heap.size < (w.alloc (.cells #[.string R.name, .int .i64 R.width, .int .i64 R.height, (.slice a R.pieces.length c), vs, .bool R.falls, .bool R.keeps, ve, .int .i64 R.blocked, .int .i64 R.quiet, .int .i64 R.rept] 26)).heap.size := by simp
  generalize (w.alloc (.cells #[.string R.name, .int .i64 R.width, .int .i64 R.height, (.slice a R.pieces.length c), vs, .bool R.falls, .bool R.keeps, ve, .int .i64 R.blocked, .int .i64 R.quiet, .int .i64 R.rept] 26)) = w0 at *
  have HX := Lib.hid B0
  clear B0
  have q3 := HX.out.cell 3 rfl
  go_wp2_with fail
  go_loop [11, 1] (fun vi vk => ∃ (i : Nat) (k : Int), i ≤ R.pieces.length + 1 ∧ vi = .int .i64 i ∧ vk = .int .i64 k ∧ 0 ≤ k ∧ k < R.pieces.length ∧ Hid (becZ R piece (R.pieces.length + 1) k0 = becZ R piece (R.pieces.length + 1 - i) k)) (fun i _ => R.pieces.length + 1 - (intOf i).toNat)
  case atStart => exact ⟨0, k0, Nat.zero_le _, rfl, rfl, h0, h1, Lib.hid rfl⟩
  case round =>
    obtain ⟨i, k, hi, rfl, rfl, k0', k1', HE⟩ := hrel
    by_cases hlt : i < R.pieces.length + 1
    · have HS := Lib.hid (bec_step (R := R) (piece := piece) (k := k) hlt)
      obtain ⟨gp, op, rfl, hgp, hpc⟩ := pieces_some (HR.out.below HB.out (Nat.le_refl _)) (by omega)
      obtain ⟨vw, -, -, c2, -, -⟩ := hpc k.toNat (by omega)
      have hpr := (HK.out.pc k.toNat (by omega)).2.1
      clear hpc
      generalize (R.pieces.getD k.toNat default).promote = pr at *
      obtain ⟨hpr1, hpr2⟩ := hpr
      by_cases hkp : k = piece
      · have HF : Hid (becZ R piece (R.pieces.length + 1) k0 = true) := Lib.hid (by rw [HE.out, HS.out, if_pos hkp])
        have hkb : (k == piece) = true := by simpa using hkp
        clear hkp
        go_wp2_with fail
        go_ret
        exact ⟨by rw [HF.out]; rfl, HB.out⟩
      have hkb : (k == piece) = false := by simpa using hkp
      by_cases hz : pr = 0
      · have HF : Hid (becZ R piece (R.pieces.length + 1) k0 = false) := Lib.hid (by rw [HE.out, HS.out, if_neg hkp, if_pos hz])
        have hzb : (pr == 0) = true := by simpa using hz
        clear hkp hz
        go_wp2_with fail
        go_ret
        exact ⟨by rw [HF.out]; rfl, HB.out⟩
      · have HF : Hid (becZ R piece (R.pieces.length + 1) k0 = becZ R piece (R.pieces.length + 1 - (i + 1)) (pr - 1)) := Lib.hid (by rw [HE.out, HS.out, if_neg hkp, if_neg hz])
        have hzb : (pr == 0) = false := by simpa using hz
        have hr1 : 0 ≤ pr - 1 ∧ pr - 1 < R.pieces.length := by omega
        have hwr : IntKind.i64.wrap (pr - 1) = pr - 1 := IntWalk.i64_in _ (by omega)
        clear hkp hz
        go_wp2_with fail
        go_round
        case rel => exact ⟨i + 1, pr - 1, by omega, by go_num, rfl, hr1.1, hr1.2, HF⟩
        case measure => simp [intOf]; omega
    · obtain rfl : i = R.pieces.length + 1 := by omega
      go_wp2_with fail
      go_ret
      exact ⟨by rw [HE.out, Nat.sub_self]; rfl, HB.out⟩
theorem callAb1 (args : Array Value) (w : World) : (callFunc 139 args).run Try.prog w = .ok (.enter 139 args) w := by kernel_rfl
theorem callAb2 (args : Array Value) (w : World) : (callFunc 141 args).run Try.prog w = .ok (.enter 141 args) w := by kernel_rfl
theorem callAb21 (args : Array Value) (w : World) : (callFunc 143 args).run Try.prog w = .ok (.enter 143 args) w := by kernel_rfl
theorem callAbA (args : Array Value) (w : World) : (callFunc 85 args).run Try.prog w = .ok (.enter 85 args) w := by kernel_rfl
theorem ab21_any (x : WayZ) (w : World) : Calls Try.prog 143 (#[.agg #[.int .i64 x.dx, .int .i64 x.dy, .int .i64 x.most, .int .i64 x.take]] ++ #[]) w fun e w' => e = .returned (.bool (!(x.take == 0))) ∧ Below w.heap.size w w' := by
  show Calls Try.prog 143 #[.agg #[.int .i64 x.dx, .int .i64 x.dy, .int .i64 x.most, .int .i64 x.take]] w _
  go_enter Try.func143, Try.ntmps143
  go_wp2_with fail
  go_ret
  exact ⟨rfl, (Below.refl _ _).alloc (Nat.le_refl _) _⟩
set_option maxRecDepth 100000 in
theorem ab2_any (R : RulesZ) (vp vs ve : Value) (k : Int) (b0 : Nat) (w : World) (B0 : Box w b0 [.string R.name, .int .i64 R.width, .int .i64 R.height, vp, vs, .bool R.falls, .bool R.keeps, ve, .int .i64 R.blocked, .int .i64 R.quiet, .int .i64 R.rept] 26) (hr : RdL pieceEl w vp R.pieces) (K : ROk R) (h0 : 0 ≤ k) (h1 : k < R.pieces.length) :
    Calls Try.prog 141 (#[.int .i64 k] ++ #[.pointer (some ⟨b0, 0, none⟩)]) w fun e w' => e = .returned (.bool (takeZ R k)) ∧ Below w.heap.size w w' := by
  show Calls Try.prog 141 #[.int .i64 k, .pointer (some ⟨b0, 0, none⟩)] w _
  have HD : Hid (takeZ R k = (R.pieces.getD k.toNat default).ways.any fun w => !(w.take == 0)) := Lib.hid rfl
  obtain ⟨np1, np2⟩ := K.np
  obtain ⟨a, c, rfl, hl1, hl2⟩ := hr.form
  unfold maxLen at hl2
  obtain ⟨gp, op, rfl, hgp, hpc⟩ := pieces_some hr (by omega)
  obtain ⟨vw, -, -, -, c3, hw⟩ := hpc k.toNat (by omega)
  have q3 := B0.cell 3 rfl
  have HW := Lib.hid (ContainsFunc_wy vw (R.pieces.getD k.toNat default).ways (fun w => !(w.take == 0)) 143 #[] w hw callAb21 (fun W x cs hx hE hW => by
    simp only [wayEl] at hE
    subst hE
    exact ab21_any x W))
  generalize (R.pieces.getD k.toNat default).ways = ws at *
  clear hpc hr K B0 hw
  go_enter Try.func141, Try.ntmps141
  go_wp2_with fail
  refine HW.out.mono ?_
  rintro e w1 ⟨rfl, hb1⟩
  have HB1 := Lib.hid hb1
  clear hb1 c3 q3
  go_wp2_with fail
  go_ret
  exact ⟨by rw [HD.out]; rfl, HB1.out⟩
set_option maxRecDepth 100000 in
theorem ab1_any (R : RulesZ) (vp vs ve : Value) (x : EndZ) (k : Int) (b0 b2 : Nat) (w : World) (B0 : Box w b0 [.string R.name, .int .i64 R.width, .int .i64 R.height, vp, vs, .bool R.falls, .bool R.keeps, ve, .int .i64 R.blocked, .int .i64 R.quiet, .int .i64 R.rept] 26) (B2 : Box w b2 [.int .i64 x.kind, .int .i64 x.piece, .int .i64 x.count, .bool x.loses] 132) (hr : RdL pieceEl w vp R.pieces) (K : ROk R) (h0 : 0 ≤ k) (h1 : k < R.pieces.length) :
    Calls Try.prog 139 (#[.int .i64 k] ++ #[.pointer (some ⟨b0, 0, none⟩), .pointer (some ⟨b2, 0, none⟩)]) w fun e w' => e = .returned (.bool (becZ R x.piece (R.pieces.length + 1) k)) ∧ Below w.heap.size w w' := by
  show Calls Try.prog 139 #[.int .i64 k, .pointer (some ⟨b0, 0, none⟩), .pointer (some ⟨b2, 0, none⟩)] w _
  have HBE := Lib.hid (becomes_any R vp vs ve k x.piece w hr K h0 h1)
  have HX := Lib.hid B0
  have x1 := B2.cell 1 rfl
  clear B0 B2 hr K
  go_enter Try.func139, Try.ntmps139
  go_upto_region 1 with (fail)
  refine wp_region_lit ?_
  refine wpList_load_box (by rfl) 26 (.tmp 1) (by rfl) (b0) (by rfl) HX.out Try.underlying26 (by rfl) (by kernel_rfl) ?_
  go_wp2_with fail
  refine HBE.out.mono ?_
  rintro e w1 ⟨rfl, hb1⟩
  have HB1 := Lib.hid hb1
  clear hb1 x1
  go_wp2_with fail
  go_ret
  exact ⟨rfl, HB1.out⟩

theorem types_k {R : RulesZ} {p : PosZ} (K : POk R p) (pl : Int) : ∀ k ∈ typesZ p pl, 0 ≤ k ∧ k < R.pieces.length := by
  have hc : ∀ n, ∀ k ∈ tyC p.cells pl n, 0 ≤ k ∧ k < R.pieces.length := by
    intro n
    induction n with
    | zero => intro k hk; simp [tyC] at hk
    | succ n ih =>
      intro k hk
      unfold tyC at hk
      split at hk
      · rename_i q
        rcases List.mem_append.1 hk with h | h
        · exact ih k h
        · obtain rfl : k = (p.cells.getD n 0 - 1) / 2 := by simpa using h
          have := K.cell n
          rw [ownC_iff] at q
          omega
      · exact ih k hk
  have hh : ∀ n, n ≤ (p.hand pl).length → ∀ k ∈ tyH (p.hand pl) n, 0 ≤ k ∧ k < R.pieces.length := by
    have hl : (p.hand pl).length = R.pieces.length := by unfold PosZ.hand; split; exact K.l0; exact K.l1
    intro n
    induction n with
    | zero => intro _ k hk; simp [tyH] at hk
    | succ n ih =>
      intro hn k hk
      unfold tyH at hk
      split at hk
      · rcases List.mem_append.1 hk with h | h
        · exact ih (by omega) k h
        · obtain rfl : k = (n : Int) := by simpa using h
          omega
      · exact ih (by omega) k hk
  intro k hk
  rcases List.mem_append.1 hk with h | h
  · exact hc _ k h
  · exact hh _ (Nat.le_refl _) k h
theorem types_len {R : RulesZ} {p : PosZ} (K : POk R p) (pl : Int) : (typesZ p pl).length ≤ 128 ∧ 0 ≤ numZ p pl ∧ numZ p pl ≤ 100000 := by
  have h1 := tyC_lt p.cells pl p.cells.length
  have h2 := tyH_lt (p.hand pl) (p.hand pl).length
  have h3 := K.len
  have hl : (p.hand pl).length = R.pieces.length := by unfold PosZ.hand; split; exact K.l0; exact K.l1
  have hb : ∀ c ∈ p.hand pl, 0 ≤ c ∧ c ≤ 1000 := by unfold PosZ.hand; split; exact K.b0; exact K.b1
  have h4 := nH_nonneg (p.hand pl) (p.hand pl).length
  have h5 := nH_le hb (p.hand pl).length (Nat.le_refl _)
  have h6 := K.r.np
  unfold typesZ numZ
  rw [List.length_append]
  omega
set_option maxRecDepth 100000 in
set_option maxHeartbeats 4000000 in
theorem able_any (R : RulesZ) (vp vs ve : Value) (p : PosZ) (vc v0 v1 : Value) (x : EndZ) (pl : Int) (w : World) (hr : RdL pieceEl w vp R.pieces) (hp : RdP w p vc v0 v1) (K : POk R p) (hx : endErr R.pieces.length x = 0) (hpl : pl = 0 ∨ pl = 1) :
    Calls Try.prog 86 #[(.agg #[.string R.name, .int .i64 R.width, .int .i64 R.height, vp, vs, .bool R.falls, .bool R.keeps, ve, .int .i64 R.blocked, .int .i64 R.quiet, .int .i64 R.rept]), (.agg #[vc, v0, v1, .int .i64 p.turn, .int .i64 p.quiet]), (.agg #[.int .i64 x.kind, .int .i64 x.piece, .int .i64 x.count, .bool x.loses]), .int .i64 pl] w fun e w' => e = .returned (.bool (ableZ R p x pl)) ∧ Below w.heap.size w w' := by
  have HD : Hid (ableZ R p x pl = if x.loses = true ∨ x.kind = 2 then true
  else if (x.kind = 0 ∧ x.count ≤ numZ p pl) ∨ (x.kind = 1 ∧ (typesZ p pl).any (becZ R x.piece (R.pieces.length + 1)) = true) then true
  else R.keeps && (typesZ p pl).any (takeZ R)) := Lib.hid rfl
  have HR := Lib.hid hr
  have HP := Lib.hid hp
  have HK := Lib.hid K
  have HTK := Lib.hid (types_k K pl)
  obtain ⟨tl1, tl2, tl3⟩ := types_len K pl
  have hxo := endOk hx
  have hk3 : x.kind = 0 ∨ x.kind = 1 ∨ x.kind = 2 := by rcases hxo with h | h | h <;> omega
  clear hr hp K hx hxo
  go_enter Try.func86, Try.ntmps86
  go_upto_region 1 with (fail)
  have B0 : Box (((w.alloc (.cells #[.string R.name, .int .i64 R.width, .int .i64 R.height, vp, vs, .bool R.falls, .bool R.keeps, ve, .int .i64 R.blocked, .int .i64 R.quiet, .int .i64 R.rept] 26)).alloc (.cells #[vc, v0, v1, .int .i64 p.turn, .int .i64 p.quiet] 37)).alloc (.cells #[.int .i64 x.kind, .int .i64 x.piece, .int .i64 x.count, .bool x.loses] 132)) (w.heap.size) [.string R.name, .int .i64 R.width, .int .i64 R.height, vp, vs, .bool R.falls, .bool R.keeps, ve, .int .i64 R.blocked, .int .i64 R.quiet, .int .i64 R.rept] 26 := (((Box.new' w (w.heap.size) [.string R.name, .int .i64 R.width, .int .i64 R.height, vp, vs, .bool R.falls, .bool R.keeps, ve, .int .i64 R.blocked, .int .i64 R.quiet, .int .i64 R.rept] 26 (by simp <;> omega)).alloc _).alloc _)
  have B1 : Box (((w.alloc (.cells #[.string R.name, .int .i64 R.width, .int .i64 R.height, vp, vs, .bool R.falls, .bool R.keeps, ve, .int .i64 R.blocked, .int .i64 R.quiet, .int .i64 R.rept] 26)).alloc (.cells #[vc, v0, v1, .int .i64 p.turn, .int .i64 p.quiet] 37)).alloc (.cells #[.int .i64 x.kind, .int .i64 x.piece, .int .i64 x.count, .bool x.loses] 132)) (w.heap.size + 1) [vc, v0, v1, .int .i64 p.turn, .int .i64 p.quiet] 37 := ((Box.new' (w.alloc (.cells #[.string R.name, .int .i64 R.width, .int .i64 R.height, vp, vs, .bool R.falls, .bool R.keeps, ve, .int .i64 R.blocked, .int .i64 R.quiet, .int .i64 R.rept] 26)) (w.heap.size + 1) [vc, v0, v1, .int .i64 p.turn, .int .i64 p.quiet] 37 (by simp <;> omega)).alloc _)
  have B2 : Box (((w.alloc (.cells #[.string R.name, .int .i64 R.width, .int .i64 R.height, vp, vs, .bool R.falls, .bool R.keeps, ve, .int .i64 R.blocked, .int .i64 R.quiet, .int .i64 R.rept] 26)).alloc (.cells #[vc, v0, v1, .int .i64 p.turn, .int .i64 p.quiet] 37)).alloc (.cells #[.int .i64 x.kind, .int .i64 x.piece, .int .i64 x.count, .bool x.loses] 132)) (w.heap.size + 1 + 1) [.int .i64 x.kind, .int .i64 x.piece, .int .i64 x.count, .bool x.loses] 132 := (Box.new' ((w.alloc (.cells #[.string R.name, .int .i64 R.width, .int .i64 R.height, vp, vs, .bool R.falls, .bool R.keeps, ve, .int .i64 R.blocked, .int .i64 R.quiet, .int .i64 R.rept] 26)).alloc (.cells #[vc, v0, v1, .int .i64 p.turn, .int .i64 p.quiet] 37)) (w.heap.size + 1 + 1) [.int .i64 x.kind, .int .i64 x.piece, .int .i64 x.count, .bool x.loses] 132 (by simp <;> omega))
  have HB : Hid (Below w.heap.size w (((w.alloc (.cells #[.string R.name, .int .i64 R.width, .int .i64 R.height, vp, vs, .bool R.falls, .bool R.keeps, ve, .int .i64 R.blocked, .int .i64 R.quiet, .int .i64 R.rept] 26)).alloc (.cells #[vc, v0, v1, .int .i64 p.turn, .int .i64 p.quiet] 37)).alloc (.cells #[.int .i64 x.kind, .int .i64 x.piece, .int .i64 x.count, .bool x.loses] 132))) := Lib.hid ((((Below.refl w.heap.size w).alloc (Nat.le_refl _) _).alloc (by simp <;> omega) _).alloc (by simp <;> omega) _)
  have hz0 : w.heap.size + 1 + 1 < (((w.alloc (.cells #[.string R.name, .int .i64 R.width, .int .i64 R.height, vp, vs, .bool R.falls, .bool R.keeps, ve, .int .i64 R.blocked, .int .i64 R.quiet, .int .i64 R.rept] 26)).alloc (.cells #[vc, v0, v1, .int .i64 p.turn, .int .i64 p.quiet] 37)).alloc (.cells #[.int .i64 x.kind, .int .i64 x.piece, .int .i64 x.count, .bool x.loses] 132)).heap.size := by simp
  generalize (((w.alloc (.cells #[.string R.name, .int .i64 R.width, .int .i64 R.height, vp, vs, .bool R.falls, .bool R.keeps, ve, .int .i64 R.blocked, .int .i64 R.quiet, .int .i64 R.rept] 26)).alloc (.cells #[vc, v0, v1, .int .i64 p.turn, .int .i64 p.quiet] 37)).alloc (.cells #[.int .i64 x.kind, .int .i64 x.piece, .int .i64 x.count, .bool x.loses] 132)) = w0 at *
  have HX := Lib.hid B0
  have HY := Lib.hid B1
  have HZ := Lib.hid B2
  clear B0 B1 B2
  refine wp_region_lit ?_
  refine wpList_load_box (by rfl) 37 (.tmp 5) (by rfl) (w.heap.size + 1) (by rfl) HY.out Try.underlying37 (by rfl) (by kernel_rfl) ?_
  go_wp2_with fail
  refine (types_any p vc v0 v1 pl w0 (HP.out.below HB.out (Nat.le_refl _)) HK.out hpl).mono ?_
  rintro e w1 ⟨vt, rfl, ho1, hb1⟩
  have HB1 := Lib.hid (below_trans HB.out hb1 HB.out.size)
  have HX1 := Lib.hid (HX.out.below hb1 (by omega))
  have HZ1 := Lib.hid (HZ.out.below hb1 (by omega))
  have HT1 := Lib.hid (RdI.of_own ho1)
  have hz1 : w.heap.size + 2 < w1.heap.size := by have := hb1.size; omega
  obtain ⟨at1, ct1, rfl⟩ := own_form2 ho1
  clear hb1 HX HY HZ ho1 hz0
  have HCA := Lib.hid (ContainsFuncW_any _ (typesZ p pl) (takeZ R) 141 #[.pointer (some ⟨w.heap.size, 0, none⟩)] w1 HT1.out callAb2 (fun W z hz hW => ab2_any R vp vs ve z _ W (HX1.out.stays hW) ((HR.out.below HB1.out (Nat.le_refl _)).below hW (by have := HB1.out.size; omega)) HK.out.r (HTK.out z hz).1 (HTK.out z hz).2))
  have HCB := Lib.hid (ContainsFuncW_any _ (typesZ p pl) (becZ R x.piece (R.pieces.length + 1)) 139 #[.pointer (some ⟨w.heap.size, 0, none⟩), .pointer (some ⟨w.heap.size + 2, 0, none⟩)] w1 HT1.out callAb1 (fun W z hz hW => ab1_any R vp vs ve x z _ _ W (HX1.out.stays hW) (HZ1.out.stays hW) ((HR.out.below HB1.out (Nat.le_refl _)).below hW (by have := HB1.out.size; omega)) HK.out.r (HTK.out z hz).1 (HTK.out z hz).2))
  have q6 := HX1.out.cell 6 rfl
  have x0 := HZ1.out.cell 0 rfl
  have x2 := HZ1.out.cell 2 rfl
  have x3 := HZ1.out.cell 3 rfl
  generalize typesZ p pl = ts at *
  generalize numZ p pl = nz at *
  by_cases hA : x.loses = true ∨ x.kind = 2
  · have HE : Hid (ableZ R p x pl = true) := Lib.hid (by rw [HD.out, if_pos hA])
    clear HD HCA HCB
    rcases hl : x.loses with _ | _
    · rw [hl] at x3 hA
      have hk : (x.kind == 2) = true := by simpa using hA
      clear hA
      go_wp2_with fail
      go_ret
      exact ⟨by rw [HE.out]; rfl, HB1.out⟩
    · rw [hl] at x3
      clear hA
      go_wp2_with fail
      go_ret
      exact ⟨by rw [HE.out]; rfl, HB1.out⟩
  have HD1 : Hid (ableZ R p x pl = if (x.kind = 0 ∧ x.count ≤ nz) ∨ (x.kind = 1 ∧ ts.any (becZ R x.piece (R.pieces.length + 1)) = true) then true
    else R.keeps && ts.any (takeZ R)) := Lib.hid (by rw [HD.out, if_neg hA])
  have hlo : x.loses = false := by cases h : x.loses; rfl; exact absurd (.inl h) hA
  have hkk : x.kind = 0 ∨ x.kind = 1 := by rcases hk3 with h | h | h; exact .inl h; exact .inr h; exact absurd (.inr h) hA
  rw [hlo] at x3
  clear hA HD hk3 hlo
  rcases hkk with hk0 | hk1
  · rw [hk0] at x0
    have HD2 : Hid (ableZ R p x pl = if x.count ≤ nz then true else R.keeps && ts.any (takeZ R)) := Lib.hid (by
      rw [HD1.out]
      by_cases q : x.count ≤ nz
      · rw [if_pos (.inl ⟨hk0, q⟩), if_pos q]
      · rw [if_neg (by rw [hk0]; simp [q]), if_neg q])
    clear HD1 hk0 HCB
    by_cases hc : x.count ≤ nz
    · have HE : Hid (ableZ R p x pl = true) := Lib.hid (by rw [HD2.out, if_pos hc])
      clear HD2
      go_wp2_with fail
      go_ret
      exact ⟨by rw [HE.out]; rfl, HB1.out⟩
    have HE : Hid (ableZ R p x pl = (R.keeps && ts.any (takeZ R))) := Lib.hid (by rw [HD2.out, if_neg hc])
    clear HD2
    rcases hkeep : R.keeps with _ | _
    · have HF : Hid (ableZ R p x pl = false) := Lib.hid (by rw [HE.out, hkeep]; rfl)
      rw [hkeep] at q6
      clear HE hkeep HCA
      go_wp2_with fail
      go_ret
      exact ⟨by rw [HF.out]; rfl, HB1.out⟩
    · have HF : Hid (ableZ R p x pl = ts.any (takeZ R)) := Lib.hid (by rw [HE.out, hkeep]; rfl)
      rw [hkeep] at q6
      clear HE hkeep
      go_wp2_with fail
      refine HCA.out.mono ?_
      rintro e w3 ⟨rfl, hb3⟩
      have HB3 := Lib.hid (below_trans HB1.out hb3 HB1.out.size)
      clear hb3
      go_wp2_with fail
      go_ret
      exact ⟨by rw [HF.out]; rfl, HB3.out⟩
  · rw [hk1] at x0
    have HD2 : Hid (ableZ R p x pl = if ts.any (becZ R x.piece (R.pieces.length + 1)) = true then true else R.keeps && ts.any (takeZ R)) := Lib.hid (by
      rw [HD1.out]
      by_cases q : ts.any (becZ R x.piece (R.pieces.length + 1)) = true
      · rw [if_pos (.inr ⟨hk1, q⟩), if_pos q]
      · rw [if_neg (by rw [hk1]; simp [q]), if_neg q])
    clear HD1 hk1
    go_wp2_with fail
    refine HCB.out.mono ?_
    rintro e w2 ⟨rfl, hb2⟩
    have HB2 := Lib.hid (below_trans HB1.out hb2 HB1.out.size)
    have HX2 := Lib.hid (HX1.out.stays hb2)
    have HT2 := Lib.hid (HT1.out.below hb2 (Nat.le_refl _))
    clear hb2 HCB HCA q6 x0 x2 x3 HZ1
    have HCA := Lib.hid (ContainsFuncW_any _ ts (takeZ R) 141 #[.pointer (some ⟨w.heap.size, 0, none⟩)] w2 HT2.out callAb2 (fun W z hz hW => ab2_any R vp vs ve z _ W (HX2.out.stays hW) ((HR.out.below HB2.out (Nat.le_refl _)).below hW (by have := HB2.out.size; omega)) HK.out.r (HTK.out z hz).1 (HTK.out z hz).2))
    have q6 := HX2.out.cell 6 rfl
    rcases hany : ts.any (becZ R x.piece (R.pieces.length + 1)) with _ | _
    rotate_left
    · have HE : Hid (ableZ R p x pl = true) := Lib.hid (by rw [HD2.out, hany]; rfl)
      clear HD2 hany
      go_wp2_with fail
      go_ret
      exact ⟨by rw [HE.out]; rfl, HB2.out⟩
    have HE : Hid (ableZ R p x pl = (R.keeps && ts.any (takeZ R))) := Lib.hid (by rw [HD2.out, hany]; rfl)
    clear HD2 hany
    rcases hkeep : R.keeps with _ | _
    · have HF : Hid (ableZ R p x pl = false) := Lib.hid (by rw [HE.out, hkeep]; rfl)
      rw [hkeep] at q6
      clear HE hkeep HCA
      go_wp2_with fail
      go_ret
      exact ⟨by rw [HF.out]; rfl, HB2.out⟩
    · have HF : Hid (ableZ R p x pl = ts.any (takeZ R)) := Lib.hid (by rw [HE.out, hkeep]; rfl)
      rw [hkeep] at q6
      clear HE hkeep
      go_wp2_with fail
      refine HCA.out.mono ?_
      rintro e w3 ⟨rfl, hb3⟩
      have HB3 := Lib.hid (below_trans HB2.out hb3 HB2.out.size)
      clear hb3
      go_wp2_with fail
      go_ret
      exact ⟨by rw [HF.out]; rfl, HB3.out⟩

set_option maxRecDepth 100000 in
theorem aba1_any (R : RulesZ) (vp vs ve : Value) (p : PosZ) (vc v0 v1 : Value) (x : EndZ) (pl : Int) (b0 b1 b2 : Nat) (w : World) (B0 : Box w b0 [.string R.name, .int .i64 R.width, .int .i64 R.height, vp, vs, .bool R.falls, .bool R.keeps, ve, .int .i64 R.blocked, .int .i64 R.quiet, .int .i64 R.rept] 26) (B1 : Box w b1 [vc, v0, v1, .int .i64 p.turn, .int .i64 p.quiet] 37) (B2 : Box w b2 [.int .i64 pl] 3)
    (hr : RdL pieceEl w vp R.pieces) (hp : RdP w p vc v0 v1) (K : POk R p) (hx : endErr R.pieces.length x = 0) (hpl : pl = 0 ∨ pl = 1) :
    Calls Try.prog 85 (#[(.agg #[.int .i64 x.kind, .int .i64 x.piece, .int .i64 x.count, .bool x.loses])] ++ #[.pointer (some ⟨b0, 0, none⟩), .pointer (some ⟨b1, 0, none⟩), .pointer (some ⟨b2, 0, none⟩)]) w fun e w' => e = .returned (.bool (ableZ R p x pl)) ∧ Below w.heap.size w w' := by
  show Calls Try.prog 85 #[(.agg #[.int .i64 x.kind, .int .i64 x.piece, .int .i64 x.count, .bool x.loses]), .pointer (some ⟨b0, 0, none⟩), .pointer (some ⟨b1, 0, none⟩), .pointer (some ⟨b2, 0, none⟩)] w _
  have HHO := fun (w' : World) (h : Below w.heap.size w w') => Lib.hid (able_any R vp vs ve p vc v0 v1 x pl w' (hr.below h (Nat.le_refl _)) (hp.below h (Nat.le_refl _)) K hx hpl)
  have HHh := Lib.hid HHO
  have HX := Lib.hid B0
  have HY := Lib.hid B1
  have HZ := Lib.hid B2
  clear B0 B1 B2 hp HHO hr
  go_enter Try.func85, Try.ntmps85
  go_upto_region 1 with (fail)
  have hb0 := (Box.new' w w.heap.size [.int .i64 x.kind, .int .i64 x.piece, .int .i64 x.count, .bool x.loses] 132 rfl)
  have HB : Hid (Below w.heap.size w (w.alloc (.cells #[.int .i64 x.kind, .int .i64 x.piece, .int .i64 x.count, .bool x.loses] 132))) := Lib.hid ((Below.refl w.heap.size w).alloc (Nat.le_refl _) _)
  generalize (w.alloc (.cells #[.int .i64 x.kind, .int .i64 x.piece, .int .i64 x.count, .bool x.loses] 132)) = w0 at *
  have HX0 := Lib.hid (HX.out.stays HB.out)
  have HY0 := Lib.hid (HY.out.stays HB.out)
  have HZ0 := Lib.hid hb0
  have z0 := (HZ.out.stays HB.out).cell 0 rfl
  clear hb0
  refine wp_region_lit ?_
  refine wpList_load_box (by rfl) 26 (.tmp 1) (by rfl) (b0) (by rfl) HX0.out Try.underlying26 (by rfl) (by kernel_rfl) ?_
  refine wpList_load_box (by rfl) 37 (.tmp 2) (by rfl) (b1) (by rfl) HY0.out Try.underlying37 (by rfl) (by kernel_rfl) ?_
  refine wpList_load_box (by rfl) 132 (.tmp 4) (by rfl) (w.heap.size) (by rfl) HZ0.out Try.underlying132 (by rfl) (by kernel_rfl) ?_
  go_wp2_with fail
  refine (HHh.out w0 HB.out).out.mono ?_
  rintro e w1 ⟨rfl, hb1⟩
  have HB1 := Lib.hid (below_trans HB.out hb1 HB.out.size)
  clear hb1 z0
  go_wp2_with fail
  go_ret
  exact ⟨rfl, HB1.out⟩
def ableErr (R : RulesZ) (p : PosZ) (pl : Int) : Int := if posErr R p ≠ 0 then posErr R p else if pl ≠ 0 ∧ pl ≠ 1 then 1 else 0
def ableR (R : RulesZ) (p : PosZ) (pl : Int) : Bool := if ableErr R p pl ≠ 0 then false else canZ R p pl
set_option maxRecDepth 100000 in
set_option maxHeartbeats 4000000 in
theorem Able_any (R : RulesZ) (vp vs ve : Value) (p : PosZ) (vc v0 v1 : Value) (pl : Int) (w : World) (hr : RdR w R vp vs ve) (hnm : R.name.size ≤ maxLen) (hp : RdP w p vc v0 v1) :
    Calls Try.prog 45 #[(.agg #[.string R.name, .int .i64 R.width, .int .i64 R.height, vp, vs, .bool R.falls, .bool R.keeps, ve, .int .i64 R.blocked, .int .i64 R.quiet, .int .i64 R.rept]), (.agg #[vc, v0, v1, .int .i64 p.turn, .int .i64 p.quiet]), .int .i64 pl] w fun e w' => e = .returned (.tuple #[.bool (ableR R p pl), .int .i64 (ableErr R p pl)]) ∧ Below w.heap.size w w' := by
  have HD : Hid (ableErr R p pl = if posErr R p ≠ 0 then posErr R p else if pl ≠ 0 ∧ pl ≠ 1 then 1 else 0) := Lib.hid rfl
  have HQ : Hid (ableR R p pl = if ableErr R p pl ≠ 0 then false else canZ R p pl) := Lib.hid rfl
  have HCD : Hid (canZ R p pl = if R.blocked ≠ 2 then true else R.ends.any fun x => ableZ R p x pl) := Lib.hid rfl
  have HR := Lib.hid hr
  have HP := Lib.hid hp
  have HN := Lib.hid hnm
  obtain ⟨ae, ce, rfl, hl1, hl2⟩ := hr.2.2.form
  unfold maxLen at hl2
  clear hr hp hnm
  go_enter Try.func45, Try.ntmps45
  go_upto_region 1 with (fail)
  have B0 : Box (((w.alloc (.cells #[.string R.name, .int .i64 R.width, .int .i64 R.height, vp, vs, .bool R.falls, .bool R.keeps, (.slice ae R.ends.length ce), .int .i64 R.blocked, .int .i64 R.quiet, .int .i64 R.rept] 26)).alloc (.cells #[vc, v0, v1, .int .i64 p.turn, .int .i64 p.quiet] 37)).alloc (.cells #[.int .i64 pl] 3)) (w.heap.size) [.string R.name, .int .i64 R.width, .int .i64 R.height, vp, vs, .bool R.falls, .bool R.keeps, (.slice ae R.ends.length ce), .int .i64 R.blocked, .int .i64 R.quiet, .int .i64 R.rept] 26 := (((Box.new' w (w.heap.size) [.string R.name, .int .i64 R.width, .int .i64 R.height, vp, vs, .bool R.falls, .bool R.keeps, (.slice ae R.ends.length ce), .int .i64 R.blocked, .int .i64 R.quiet, .int .i64 R.rept] 26 (by simp <;> omega)).alloc _).alloc _)
  have B1 : Box (((w.alloc (.cells #[.string R.name, .int .i64 R.width, .int .i64 R.height, vp, vs, .bool R.falls, .bool R.keeps, (.slice ae R.ends.length ce), .int .i64 R.blocked, .int .i64 R.quiet, .int .i64 R.rept] 26)).alloc (.cells #[vc, v0, v1, .int .i64 p.turn, .int .i64 p.quiet] 37)).alloc (.cells #[.int .i64 pl] 3)) (w.heap.size + 1) [vc, v0, v1, .int .i64 p.turn, .int .i64 p.quiet] 37 := ((Box.new' (w.alloc (.cells #[.string R.name, .int .i64 R.width, .int .i64 R.height, vp, vs, .bool R.falls, .bool R.keeps, (.slice ae R.ends.length ce), .int .i64 R.blocked, .int .i64 R.quiet, .int .i64 R.rept] 26)) (w.heap.size + 1) [vc, v0, v1, .int .i64 p.turn, .int .i64 p.quiet] 37 (by simp <;> omega)).alloc _)
  have B2 : Box (((w.alloc (.cells #[.string R.name, .int .i64 R.width, .int .i64 R.height, vp, vs, .bool R.falls, .bool R.keeps, (.slice ae R.ends.length ce), .int .i64 R.blocked, .int .i64 R.quiet, .int .i64 R.rept] 26)).alloc (.cells #[vc, v0, v1, .int .i64 p.turn, .int .i64 p.quiet] 37)).alloc (.cells #[.int .i64 pl] 3)) (w.heap.size + 1 + 1) [.int .i64 pl] 3 := (Box.new' ((w.alloc (.cells #[.string R.name, .int .i64 R.width, .int .i64 R.height, vp, vs, .bool R.falls, .bool R.keeps, (.slice ae R.ends.length ce), .int .i64 R.blocked, .int .i64 R.quiet, .int .i64 R.rept] 26)).alloc (.cells #[vc, v0, v1, .int .i64 p.turn, .int .i64 p.quiet] 37)) (w.heap.size + 1 + 1) [.int .i64 pl] 3 (by simp <;> omega))
  have HB : Hid (Below w.heap.size w (((w.alloc (.cells #[.string R.name, .int .i64 R.width, .int .i64 R.height, vp, vs, .bool R.falls, .bool R.keeps, (.slice ae R.ends.length ce), .int .i64 R.blocked, .int .i64 R.quiet, .int .i64 R.rept] 26)).alloc (.cells #[vc, v0, v1, .int .i64 p.turn, .int .i64 p.quiet] 37)).alloc (.cells #[.int .i64 pl] 3))) := Lib.hid ((((Below.refl w.heap.size w).alloc (Nat.le_refl _) _).alloc (by simp <;> omega) _).alloc (by simp <;> omega) _)
  have hz0 : w.heap.size + 1 + 1 < (((w.alloc (.cells #[.string R.name, .int .i64 R.width, .int .i64 R.height, vp, vs, .bool R.falls, .bool R.keeps, (.slice ae R.ends.length ce), .int .i64 R.blocked, .int .i64 R.quiet, .int .i64 R.rept] 26)).alloc (.cells #[vc, v0, v1, .int .i64 p.turn, .int .i64 p.quiet] 37)).alloc (.cells #[.int .i64 pl] 3)).heap.size := by simp
  generalize (((w.alloc (.cells #[.string R.name, .int .i64 R.width, .int .i64 R.height, vp, vs, .bool R.falls, .bool R.keeps, (.slice ae R.ends.length ce), .int .i64 R.blocked, .int .i64 R.quiet, .int .i64 R.rept] 26)).alloc (.cells #[vc, v0, v1, .int .i64 p.turn, .int .i64 p.quiet] 37)).alloc (.cells #[.int .i64 pl] 3)) = w0 at *
  have HX := Lib.hid B0
  have HY := Lib.hid B1
  have HZ := Lib.hid B2
  clear B0 B1 B2
  refine wp_region_lit ?_
  refine wpList_load_box (by rfl) 26 (.tmp 3) (by rfl) (w.heap.size) (by rfl) HX.out Try.underlying26 (by rfl) (by kernel_rfl) ?_
  refine wpList_load_box (by rfl) 37 (.tmp 4) (by rfl) (w.heap.size + 1) (by rfl) HY.out Try.underlying37 (by rfl) (by kernel_rfl) ?_
  go_wp2_with fail
  refine (placeCheck_any R vp vs _ p vc v0 v1 w0 (HR.out.below HB.out (Nat.le_refl _)) HN.out (HP.out.below HB.out (Nat.le_refl _))).mono ?_
  rintro e w1 ⟨rfl, hb1⟩
  have HB1 := Lib.hid (below_trans HB.out hb1 HB.out.size)
  have HX1 := Lib.hid (HX.out.below hb1 (by omega))
  have HY1 := Lib.hid (HY.out.below hb1 (by omega))
  have HZ1 := Lib.hid (HZ.out.below hb1 (by omega))
  have hz1 : w.heap.size + 2 < w1.heap.size := by have := hb1.size; omega
  clear hb1 HX HY HZ hz0
  have z0 := HZ1.out.cell 0 rfl
  by_cases he : posErr R p = 0
  rotate_left
  · have hE : ableErr R p pl = posErr R p := by rw [HD.out, if_pos he]
    have HE := Lib.hid hE
    have HG : Hid (ableR R p pl = false) := Lib.hid (by rw [HQ.out, hE, if_pos he])
    have heb : (posErr R p != 0) = true := by simpa using he
    clear hE he HQ HD HCD
    go_wp2_with fail
    go_ret2
    exact ⟨by rw [HG.out, HE.out]; rfl, HB1.out⟩
  have HZE := Lib.hid he
  have HD1 : Hid (ableErr R p pl = if pl ≠ 0 ∧ pl ≠ 1 then 1 else 0) := Lib.hid (by rw [HD.out, if_neg (by simp [he])])
  rw [he]
  clear he HD
  by_cases hpl : pl = 0 ∨ pl = 1
  rotate_left
  · have hp0 : (pl != 0) = true := by simp; omega
    have hp1 : (pl != 1) = true := by simp; omega
    have hE : ableErr R p pl = 1 := by rw [HD1.out, if_pos (by omega)]
    have HE := Lib.hid hE
    have HG : Hid (ableR R p pl = false) := Lib.hid (by rw [HQ.out, hE]; rfl)
    clear hE hpl HQ HD1 HCD
    go_wp2_with fail
    go_ret2
    exact ⟨by rw [HG.out, HE.out]; rfl, HB1.out⟩
  have hE : ableErr R p pl = 0 := by rw [HD1.out, if_neg (by omega)]
  have HE := Lib.hid hE
  have HG : Hid (ableR R p pl = canZ R p pl) := Lib.hid (by rw [HQ.out, hE]; rfl)
  have HPL := Lib.hid hpl
  clear hE HD1 HQ
  have HK := Lib.hid (pok_of HZE.out)
  have HCE := Lib.hid (ContainsFunc_en _ R.ends (fun x => ableZ R p x pl) 85 #[.pointer (some ⟨w.heap.size, 0, none⟩), .pointer (some ⟨w.heap.size + 1, 0, none⟩), .pointer (some ⟨w.heap.size + 2, 0, none⟩)] w1 (HR.out.2.2.below HB1.out (Nat.le_refl _)) callAbA (fun W x cs hx hE hW => by
    simp only [endEl] at hE
    subst hE
    obtain ⟨i, hi, rfl⟩ := List.mem_iff_getElem.1 hx
    have hee := HK.out.r.ee i hi
    rw [List.getD_eq_getElem?_getD, List.getElem?_eq_getElem hi] at hee
    exact aba1_any R vp vs _ p vc v0 v1 R.ends[i] pl _ _ _ W (HX1.out.stays hW) (HY1.out.stays hW) (HZ1.out.stays hW) ((HR.out.1.below HB1.out (Nat.le_refl _)).below hW (by have := HB1.out.size; omega)) ((HP.out.below HB1.out (Nat.le_refl _)).below hW (by have := HB1.out.size; omega)) HK.out hee HPL.out))
  have q7 := HX1.out.cell 7 rfl
  have q8 := HX1.out.cell 8 rfl
  have hpx : ((pl != 0) = true ∧ (pl != 1) = false) ∨ (pl != 0) = false := by rcases hpl with h | h <;> simp [h]
  clear hpl
  by_cases hb2 : R.blocked = 2
  · have HF : Hid (ableR R p pl = R.ends.any fun x => ableZ R p x pl) := Lib.hid (by rw [HG.out, HCD.out, if_neg (by simp [hb2])])
    rw [hb2] at q8
    clear hb2 HG HCD
    rcases hpx with ⟨hp0, hp1⟩ | hp0
    · go_wp2_with fail
      refine HCE.out.mono ?_
      rintro e w2 ⟨rfl, hb2⟩
      have HB2 := Lib.hid (below_trans HB1.out hb2 HB1.out.size)
      clear hb2
      go_wp2_with fail
      go_ret2
      exact ⟨by rw [HF.out, HE.out]; rfl, HB2.out⟩
    · go_wp2_with fail
      refine HCE.out.mono ?_
      rintro e w2 ⟨rfl, hb2⟩
      have HB2 := Lib.hid (below_trans HB1.out hb2 HB1.out.size)
      clear hb2
      go_wp2_with fail
      go_ret2
      exact ⟨by rw [HF.out, HE.out]; rfl, HB2.out⟩
  · have HF : Hid (ableR R p pl = true) := Lib.hid (by rw [HG.out, HCD.out, if_pos hb2])
    have hbb : (R.blocked != 2) = true := by simpa using hb2
    clear hb2 HG HCD
    rcases hpx with ⟨hp0, hp1⟩ | hp0
    · go_wp2_with fail
      go_ret2
      exact ⟨by rw [HF.out, HE.out]; rfl, HB1.out⟩
    · go_wp2_with fail
      go_ret2
      exact ⟨by rw [HF.out, HE.out]; rfl, HB1.out⟩

end Go.Proofs.Ytkfaibdflbdpgaa

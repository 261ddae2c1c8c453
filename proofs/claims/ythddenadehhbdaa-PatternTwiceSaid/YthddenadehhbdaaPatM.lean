/- The contract of pattern.Mirror. -/
import Derived.Test.YthddenadehhbdaaPatC
import Derived.Test.YthddenadehhbdaaIntsRev
namespace Go.Proofs.Ythddenadehhbdaa
open Go.ChangeShapes Go.WideShapes Go.ChangeAt Go.RowKit
set_option linter.unusedVariables false

/-- the square that stands where j stood, in a row of W. -/
def mir (W j : Nat) : Nat := j / W * W + (W - 1 - j % W)
def mirK (W k j : Nat) : Nat := if j / W < k then mir W j else j
theorem mir_lt {W H j : Nat} (hW : 0 < W) (h : j < W * H) : mir W j < W * H := by
  unfold mir
  have h1 : j / W < H := Nat.div_lt_of_lt_mul h
  have h2 : (j / W + 1) * W ≤ H * W := Nat.mul_le_mul_right W h1
  rw [Nat.add_mul, Nat.one_mul] at h2
  have h3 := Nat.mul_comm W H
  omega
theorem mir_mir {W j : Nat} (hW : 0 < W) : mir W (mir W j) = j := by
  unfold mir
  have hm := Nat.mod_lt j hW
  have h1 : (j / W * W + (W - 1 - j % W)) / W = j / W := by
    rw [Nat.mul_comm, Nat.mul_add_div hW, show (W - 1 - j % W) / W = 0 from Nat.div_eq_of_lt (by omega), Nat.add_zero]
  have h2 : (j / W * W + (W - 1 - j % W)) % W = W - 1 - j % W := by
    rw [Nat.mul_comm, Nat.mul_add_mod, Nat.mod_eq_of_lt (by omega)]
  rw [h1, h2]
  have := Nat.div_add_mod j W
  rw [Nat.mul_comm] at this
  omega
theorem row_of {W k j : Nat} (hW : 0 < W) : (k * W ≤ j ∧ j < k * W + W) ↔ j / W = k := by
  constructor
  · rintro ⟨h1, h2⟩
    rw [Nat.div_eq_iff hW]
    omega
  · intro h
    subst h
    have h1 := Nat.div_add_mod j W
    have h2 := Nat.mod_lt j hW
    rw [Nat.mul_comm] at h1
    omega
theorem mir_step (zs ys ts : List Int) (W H k : Nat) (hW : 0 < W) (hk : k < H) (hl : zs.length = W * H) (h : ∀ j, j < zs.length → ys.getD j 0 = zs.getD (mirK W k j) 0)
    (ht : ∀ j, j < zs.length → ts.getD j 0 = ys.getD (if k * W ≤ j ∧ j < k * W + W then k * W + (k * W + W - 1 - j) else j) 0) :
    ∀ j, j < zs.length → ts.getD j 0 = zs.getD (mirK W (k + 1) j) 0 := by
  intro j hj
  rw [ht j hj]
  by_cases e : j / W = k
  · have hr := (row_of hW).2 e
    rw [if_pos hr]
    have h2 : (k + 1) * W ≤ H * W := Nat.mul_le_mul_right W hk
    rw [Nat.add_mul, Nat.one_mul] at h2
    have h3 := Nat.mul_comm W H
    have hlt : k * W + (k * W + W - 1 - j) < zs.length := by omega
    rw [h _ hlt]
    congr 1
    unfold mirK
    have e2 : (k * W + (k * W + W - 1 - j)) / W = k := (row_of hW).1 (by omega)
    rw [if_neg (by omega), if_pos (by omega)]
    unfold mir
    rw [e]
    have h1 := Nat.div_add_mod j W
    have hm := Nat.mod_lt j hW
    rw [Nat.mul_comm, e] at h1
    omega
  · rw [if_neg (fun hr => e ((row_of hW).1 hr)), h j hj]
    congr 1
    unfold mirK
    by_cases e3 : j / W < k
    · rw [if_pos e3, if_pos (by omega)]
    · rw [if_neg e3, if_neg (by omega)]
set_option maxRecDepth 100000 in
theorem run_part (a b G n c : Nat) (w : World) (h1 : a < b) (h2 : b ≤ c) : (Instr.slice 28 (.slice (some ⟨G, 0, none⟩) n c) (some (.int .i64 (a : Int))) (some (.int .i64 (b : Int))) none).run Try.prog w = .ok (.slice (some ⟨G, a, none⟩) (b - a) (c - a)) w := by
  rw [run_slice_lh (P := Try.prog) (w := w) 28 (some ⟨G, 0, none⟩) n c Try.underlying28 .i64 .i64 (a : Int) (b : Int) (by omega) (by omega) (by omega)]
  have hs : (sizeOf (Try.prog.elem 28)).run Try.prog w = .ok 1 w := by kernel_rfl
  rw [hs]
  simp only [Result.andThen, sliced, Int.toNat_natCast, Nat.mul_one]
  rw [if_neg (by omega)]
  simp [add_off]

theorem own_cap {w : World} {b : Nat} {e : TypeId} {sz n g c : Nat} {xs : List Value} (h : w.ownsRow b e sz (.slice (some ⟨g, 0, none⟩) n c) n xs) : n ≤ c := by
  rcases h.2 with ⟨h0, _⟩ | ⟨g', c', cur, hv, _, _, hn, _⟩
  · cases h0
  · simp only [Value.slice.injEq, true_and] at hv
    omega
def zeroPat : Value := .agg #[.int .i64 0, .int .i64 0, .slice none 0 0, .int .i64 0]
def MirrorPost (R : RulesZ) (x : PatZ) (w : World) (e : Ending) (w' : World) : Prop :=
  (patErr R x ≠ 0 ∧ e = .returned (.tuple #[zeroPat, .int .i64 (patErr R x)]) ∧ Below w.heap.size w w') ∨
  (patErr R x = 0 ∧ ∃ (v : Value) (ys : List Int), e = .returned (.tuple #[.agg #[.int .i64 x.width, .int .i64 x.height, v, .int .i64 x.turn], .int .i64 0]) ∧ RdI w' v ys ∧ ys.length = x.cells.length ∧
    (∀ j, j < x.cells.length → ys.getD j 0 = x.cells.getD (mir x.width.toNat j) 0) ∧ Below w.heap.size w w')
set_option maxRecDepth 100000 in
set_option maxHeartbeats 4000000 in
theorem Mirror_any (R : RulesZ) (vp vs ve : Value) (x : PatZ) (vx : Value) (w : World) (h : RdR w R vp vs ve) (hnm : R.name.size ≤ maxLen) (hx : RdI w vx x.cells) :
    Calls Try.prog 16 #[(.agg #[.string R.name, .int .i64 R.width, .int .i64 R.height, vp, vs, .bool R.falls, .bool R.keeps, ve, .int .i64 R.blocked, .int .i64 R.quiet, .int .i64 R.rept]), .agg #[.int .i64 x.width, .int .i64 x.height, vx, .int .i64 x.turn]] w (MirrorPost R x w) := by
  have HR := Lib.hid h
  have HX := Lib.hid hx
  have HN := Lib.hid hnm
  obtain ⟨ax, cx, rfl, hx1, hx2⟩ := hx.form
  unfold maxLen at hx2
  clear h hnm hx
  by_cases t0 : patErr R x = 0
  rotate_left
  · obtain ⟨W, H, xc, xt⟩ := x
    simp only at *
    have HT := Lib.hid t0
    have t0' : (patErr R ⟨W, H, xc, xt⟩ != 0) = true := by simpa using t0
    clear t0
    go_enter Try.func16, Try.ntmps16
    go_wp2_with fail
    refine (patCheck_any R vp vs ve ⟨W, H, xc, xt⟩ _ _ (((HR.out.alloc _).alloc _).alloc _) HN.out (((HX.out.alloc _).alloc _).alloc _)).mono ?_
    rintro e w1 ⟨rfl, hb1⟩
    have hs1 := hb1.size
    simp at hs1
    have z0 : w.heap.size < w1.heap.size := by omega
    have z1 : w.heap.size + 1 < w1.heap.size := by omega
    have z2 : w.heap.size + 1 + 1 < w1.heap.size := by omega
    obtain ⟨hcell, hfr⟩ := bcell hb1
    have hbel : Below w.heap.size w w1 := (((((Below.refl _ _).alloc (Nat.le_refl _) _).alloc (by go_size) _).alloc (by go_size) _).trans (hb1.mono (by go_size)))
    clear hb1
    go_wp2_with fail
    refine bodyPost_ret (v := .tuple #[zeroPat, .int .i64 (patErr R ⟨W, H, xc, xt⟩)]) (by simp [results, Try.results16, go_sem, zeroPat, hcell]) rfl (.inl ⟨HT.out, rfl, ?_⟩)
    go_grown
  obtain ⟨hr0, hxw, hxh, hxl, -, -⟩ := patOk t0
  obtain ⟨hw, hh, -⟩ := rulesOk hr0
  obtain ⟨xw, xh, xc, xt⟩ := x
  simp only at hxw hxh hxl hx1 hx2
  obtain ⟨W, rfl⟩ : ∃ W : Nat, xw = (W : Int) := ⟨xw.toNat, by omega⟩
  obtain ⟨H, rfl⟩ : ∃ H : Nat, xh = (H : Int) := ⟨xh.toNat, by omega⟩
  have HL : Hid (xc.length = W * H) := Lib.hid (by exact_mod_cast hxl)
  have hwh : W * H ≤ 8 * 8 := Nat.mul_le_mul (by omega) (by omega)
  have HT := Lib.hid t0
  have t0' : (patErr R ⟨W, H, xc, xt⟩ != 0) = false := by simpa using t0
  have hlen : xc.length ≤ 64 := by have := HL.out; omega
  clear t0 hxl hr0
  go_enter Try.func16, Try.ntmps16
  go_wp2_with fail
  refine (patCheck_any R vp vs ve ⟨W, H, xc, xt⟩ _ _ (((HR.out.alloc _).alloc _).alloc _) HN.out (((HX.out.alloc _).alloc _).alloc _)).mono ?_
  rintro e w1 ⟨rfl, hb1⟩
  have hs1 := hb1.size
  simp at hs1
  have z0 : w.heap.size < w1.heap.size := by omega
  have z1 : w.heap.size + 1 < w1.heap.size := by omega
  have z2 : w.heap.size + 1 + 1 < w1.heap.size := by omega
  have b1 : Box w1 (w.heap.size + 1) [.int .i64 W, .int .i64 H, .slice ax xc.length cx, .int .i64 xt] 45 := by
    have hbx := Box.new (w.alloc (.cells #[.string R.name, .int .i64 R.width, .int .i64 R.height, vp, vs, .bool R.falls, .bool R.keeps, ve, .int .i64 R.blocked, .int .i64 R.quiet, .int .i64 R.rept] 43)) [.int .i64 W, .int .i64 H, .slice ax xc.length cx, .int .i64 xt] 45
    rw [World.size_alloc] at hbx
    exact (hbx.alloc _).below hb1 (by go_size)
  have b2 : Box w1 (w.heap.size + 1 + 1) [.int .i64 0, .int .i64 0, .slice none 0 0, .int .i64 0] 45 := by
    have hbx := Box.new ((w.alloc (.cells #[.string R.name, .int .i64 R.width, .int .i64 R.height, vp, vs, .bool R.falls, .bool R.keeps, ve, .int .i64 R.blocked, .int .i64 R.quiet, .int .i64 R.rept] 43)).alloc (.cells #[.int .i64 W, .int .i64 H, .slice ax xc.length cx, .int .i64 xt] 45)) [.int .i64 0, .int .i64 0, .slice none 0 0, .int .i64 0] 45
    rw [World.size_alloc, World.size_alloc] at hbx
    exact hbx.below hb1 (by go_size)
  have x0 := b1.cell 0 rfl
  have x1 := b1.cell 1 rfl
  have x2 := b1.cell 2 rfl
  have x3 := b1.cell 3 rfl
  have HB : Hid (Below w.heap.size w w1) := Lib.hid (((((Below.refl _ _).alloc (Nat.le_refl _) _).alloc (by go_size) _).alloc (by go_size) _).trans (hb1.mono (by go_size)))
  have HB1 := Lib.hid b1
  have HB2 := Lib.hid b2
  clear hb1 hs1 b1 b2
  go_wp2_with fail
  refine (Clone_any _ xc _ ((HX.out.below HB.out (Nat.le_refl _)).alloc _) (by omega)).mono ?_
  rintro e w2 ⟨vv, rfl, ho2, hb2⟩
  have HBo : Box w2 w1.heap.size [.int .i64 W, .int .i64 H, .slice ax xc.length cx, .int .i64 xt] 45 := (Box.new w1 _ _).stays hb2
  obtain ⟨G, c, rfl⟩ : ∃ G c, vv = .slice (some ⟨G, 0, none⟩) xc.length c := own_some ho2 (by have := HL.out; have : 0 < W * H := Nat.mul_pos (by omega) (by omega); omega)
  rw [World.size_alloc] at ho2
  have hG := (ho2.lt G rfl).1
  have hs2 := hb2.size
  simp at hs2
  have y0 : w2.cell? ⟨w1.heap.size, 2, none⟩ = some (.slice ax xc.length cx) := HBo.cell 2 rfl
  have y1 : w2.frozen? ⟨w1.heap.size, 2, none⟩ = false := HBo.frozen 2
  have y2 : w2.cell? ⟨w.heap.size + 1, 1, none⟩ = some (.int .i64 H) := ((HB1.out.alloc _).stays hb2).cell 1 rfl
  have y3 : w2.cell? ⟨w.heap.size + 1, 0, none⟩ = some (.int .i64 W) := ((HB1.out.alloc _).stays hb2).cell 0 rfl
  have yz1 : w.heap.size + 1 < w2.heap.size := by omega
  have yz2 : w1.heap.size < w2.heap.size := by omega
  have yne : ¬ w.heap.size + 1 = w1.heap.size := by omega
  have HB1' := Lib.hid ((HB1.out.alloc (.cells #[.int .i64 W, .int .i64 H, .slice ax xc.length cx, .int .i64 xt] 45)).stays hb2)
  have HB2' := Lib.hid ((HB2.out.alloc (.cells #[.int .i64 W, .int .i64 H, .slice ax xc.length cx, .int .i64 xt] 45)).stays hb2)
  have HBel2 : Hid (Below w.heap.size w w2) := Lib.hid ((HB.out.alloc (by omega) _).trans (hb2.mono (by simp; omega)))
  have HO2 := Lib.hid ho2
  have HBo' := Lib.hid HBo
  clear ho2 hb2 HBo x0 x1 x2 x3
  go_wp2_with fail
  have hcap : xc.length ≤ c := own_cap HO2.out
  go_loopw [23] (fun i wr => ∃ (k : Nat) (ys : List Int), k ≤ H ∧ i = .int .i64 k ∧ Hid (ys.length = xc.length) ∧ Hid (∀ j, j < xc.length → ys.getD j 0 = xc.getD (mirK W k j) 0) ∧ Hid (wr.ownsRow (w1.heap.size + 1) 3 1 (.slice (some ⟨G, 0, none⟩) xc.length c) xc.length (ints ys)) ∧ Hid (Below (w1.heap.size + 1) (w2.setCell ⟨w1.heap.size, 2, none⟩ (.slice (some ⟨G, 0, none⟩) xc.length c)) wr)) (fun i _ => H - (intOf i).toNat)
  case atStart => exact ⟨0, xc, Nat.zero_le _, rfl, Lib.hid rfl, Lib.hid (fun j hj => by congr 1), Lib.hid (ownsRow_setCell_below HO2.out (by simp) _), Lib.hid (Below.refl _ _)⟩
  case round =>
    obtain ⟨k, ys, hk, rfl, HYL, HY, HOr, HBr⟩ := hrel
    have hsz := HBr.out.size
    have hBo : Box wr w1.heap.size [.int .i64 W, .int .i64 H, .slice (some ⟨G, 0, none⟩) xc.length c, .int .i64 xt] 45 := (HBo'.out.set 2 (.slice (some ⟨G, 0, none⟩) xc.length c)).below HBr.out (by omega)
    have hBx : Box wr (w.heap.size + 1) [.int .i64 W, .int .i64 H, .slice ax xc.length cx, .int .i64 xt] 45 := (HB1'.out.far _ _ yne).below HBr.out (by omega)
    have hBz : Box wr (w.heap.size + 1 + 1) [.int .i64 0, .int .i64 0, .slice none 0 0, .int .i64 0] 45 := (HB2'.out.far ⟨w1.heap.size, 2, none⟩ (.slice (some ⟨G, 0, none⟩) xc.length c) (by show ¬ w.heap.size + 1 + 1 = w1.heap.size; omega)).below HBr.out (by omega)
    have HBw : Hid (Below w.heap.size w wr) := Lib.hid ((HBel2.out.setCell (by show w.heap.size ≤ w1.heap.size; omega) _).trans (HBr.out.mono (by omega)))
    have o2 := hBo.cell 2 rfl
    have o3 := hBx.cell 0 rfl
    have zr1 := hBo.lt
    have zr2 := hBx.lt
    by_cases hlt : k < H
    · have m1 : (k + 1) * W ≤ H * W := Nat.mul_le_mul_right W hlt
      have m2 : (k + 1) * W = k * W + W := by rw [Nat.add_mul, Nat.one_mul]
      have m3 := Nat.mul_comm W H
      have hl := HL.out
      have i1 : (0 : Int) ≤ (k : Int) * (W : Int) := by rw [← Int.natCast_mul]; omega
      have i2 : (k : Int) * (W : Int) ≤ 64 := by rw [← Int.natCast_mul]; omega
      have i3 : (0 : Int) ≤ ((k : Int) + 1) * (W : Int) := by
        have h : (0 : Int) ≤ (((k + 1) * W : Nat) : Int) := by omega
        rw [Int.natCast_mul, Int.natCast_succ] at h; exact h
      have i4 : ((k : Int) + 1) * (W : Int) ≤ 64 := by
        have h : (((k + 1) * W : Nat) : Int) ≤ 64 := by omega
        rw [Int.natCast_mul, Int.natCast_succ] at h; exact h
      have hsl : ∀ w' : World, (Instr.slice 28 (.slice (some ⟨G, 0, none⟩) xc.length c) (some (.int .i64 ((k : Int) * (W : Int)))) (some (.int .i64 (((k : Int) + 1) * (W : Int)))) none).run Try.prog w' = .ok (.slice (some ⟨G, k * W, none⟩) W (c - k * W)) w' := fun w' => by
        have h := run_part (k * W) ((k + 1) * W) G xc.length c w' (by omega) (by omega)
        rw [Int.natCast_mul, Int.natCast_mul, Int.natCast_succ, show (k + 1) * W - k * W = W by omega] at h
        exact h
      have HRev := Lib.hid (Reverse_any ys G c (k * W) W (c - k * W) (w1.heap.size + 1) wr (by rw [HYL.out]; exact HOr.out) (by rw [HYL.out]; omega) (by rw [HYL.out]; omega))
      clear m1 m2 m3 hl hBo hBx hBz hsz
      go_wp2_with fail
      refine HRev.out.mono ?_
      rintro e w4 ⟨rfl, ts, htl, hts, ho4, hg4⟩
      have HTL : Hid (ts.length = xc.length) := Lib.hid (by rw [htl, HYL.out])
      have HTS := Lib.hid (mir_step xc ys ts W H k (by omega) hlt HL.out HY.out (fun j hj => hts j (by rw [HYL.out]; exact hj)))
      have HO4 : Hid (w4.ownsRow (w1.heap.size + 1) 3 1 (.slice (some ⟨G, 0, none⟩) xc.length c) xc.length (ints ts)) := Lib.hid (by rw [HYL.out] at ho4; exact ho4)
      have HB4 := Lib.hid (Below.grown HBr.out hg4 (by have := zr1; omega) (fun q hq => by cases hq; exact hG))
      clear htl hts ho4 hg4
      go_wp2_with fail
      go_roundw
      case rel => exact ⟨k + 1, ts, by omega, by go_num, HTL, HTS, HO4, HB4⟩
      case measure => simp [intOf]; omega
    · obtain rfl : H = k := by omega
      have HF : Hid (∀ j, j < xc.length → ys.getD j 0 = xc.getD (mir W j) 0) := Lib.hid (fun j hj => by
        rw [HY.out j hj]
        unfold mirK
        rw [if_pos (Nat.div_lt_of_lt_mul (by have := HL.out; omega))])
      have HBoh := Lib.hid hBo
      have HBzh := Lib.hid hBz
      clear hBo hBx hBz o2 o3
      go_upto_region 11 with (fail)
      refine wp_region_lit ?_
      refine wpList_load_box (by rfl) 45 (.tmp 7) (by rfl) w1.heap.size (by rfl) HBoh.out Try.underlying45 (by rfl) (by kernel_rfl) ?_
      refine wpList_store_box (vs := [.int .i64 W, .int .i64 H, .slice (some ⟨G, 0, none⟩) xc.length c, .int .i64 xt]) (by rfl) 45 (.tmp 4) (.tmp 40) (by rfl) (w.heap.size + 1 + 1) (by rfl) (by rfl) HBzh.out rfl (by kernel_rfl) (by rfl) ?_
      have H9 := Lib.hid (HBzh.out.store (vs := [.int .i64 W, .int .i64 H, .slice (some ⟨G, 0, none⟩) xc.length c, .int .i64 xt]) rfl)
      have HR9 : Hid (RdI (wr.setCells (w.heap.size + 1 + 1) 0 [.int .i64 W, .int .i64 H, .slice (some ⟨G, 0, none⟩) xc.length c, .int .i64 xt]) (.slice (some ⟨G, 0, none⟩) xc.length c) ys) := Lib.hid (RdI.of_own (by rw [HYL.out]; exact own_setCells HOr.out (by omega) 0 _))
      have HL9 := Lib.hid (below_setCells HBw.out (show w.heap.size ≤ w.heap.size + 1 + 1 by omega) 0 [.int .i64 W, .int .i64 H, .slice (some ⟨G, 0, none⟩) xc.length c, .int .i64 xt])
      generalize (wr.setCells (w.heap.size + 1 + 1) 0 [.int .i64 W, .int .i64 H, .slice (some ⟨G, 0, none⟩) xc.length c, .int .i64 xt]) = w9 at *
      go_wp2_with fail
      exact bodyPost_ret (results_box rfl (by rfl) (by rfl) H9.out Try.underlying45 (by rfl) (by kernel_rfl)) rfl (.inr ⟨HT.out, _, ys, rfl, HR9.out, HYL.out, HF.out, HL9.out⟩)

end Go.Proofs.Ythddenadehhbdaa

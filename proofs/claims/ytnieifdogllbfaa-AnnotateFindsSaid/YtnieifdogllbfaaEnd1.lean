/- The contract of ends.line. -/
import Derived.Test.YtnieifdogllbfaaMvPlain
import Derived.Test.YtnieifdogllbfaaBox2
import Derived.Test.YtnieifdogllbfaaOwn
namespace Go.Proofs.Ytnieifdogllbfaa
open Go.ChangeShapes Go.WideShapes Go.ChangeAt Go.RowKit
set_option linter.unusedVariables false

/-- a piece of the player stands there. -/
def ownZ (R : RulesZ) (p : PosZ) (pl x y : Int) : Bool :=
  if x < 0 ∨ R.width ≤ x ∨ y < 0 ∨ R.height ≤ y then false
  else decide (0 < p.cells.getD (y * R.width + x).toNat 0) && ((p.cells.getD (y * R.width + x).toNat 0 - 1) % 2 == pl)
def dxZ (j : Int) : Int := if j = 1 then 0 else 1
def dyZ (j : Int) : Int := if j = 0 then 0 else if j = 3 then -1 else 1
def lineAt (R : RulesZ) (p : PosZ) (pl : Int) (cnt : Nat) (s : Nat) (j : Int) : Bool :=
  (List.range cnt).all fun i => ownZ R p pl ((s : Int) % R.width + i * dxZ j) ((s : Int) / R.width + i * dyZ j)
def lineZ (R : RulesZ) (p : PosZ) (pl : Int) (cnt : Nat) : Bool := (List.range p.cells.length).any fun s => (List.range 4).any fun j => lineAt R p pl cnt s j
theorem lineZ_true {R : RulesZ} {p : PosZ} {pl : Int} {cnt s : Nat} {j : Int} (hs : s < p.cells.length) (h0 : 0 ≤ j) (h4 : j < 4) (h : lineAt R p pl cnt s j = true) : lineZ R p pl cnt = true := by
  unfold lineZ
  rw [List.any_eq_true]
  refine ⟨s, by simpa using hs, ?_⟩
  rw [List.any_eq_true]
  exact ⟨j.toNat, by simp; omega, by rw [Int.toNat_of_nonneg h0]; exact h⟩
theorem lineZ_false {R : RulesZ} {p : PosZ} {pl : Int} {cnt : Nat} (h : ∀ s, s < p.cells.length → ∀ j : Int, 0 ≤ j → j < 4 → lineAt R p pl cnt s j = false) : lineZ R p pl cnt = false := by
  unfold lineZ
  rw [List.any_eq_false]
  intro s hs
  rw [Bool.not_eq_true, List.any_eq_false]
  intro j hj
  rw [h s (by simpa using hs) j (by omega) (by simp at hj; omega)]
  simp
theorem all_upto {f : Nat → Bool} {n k : Nat} (h : ∀ i, i < k → f i = true) (hk : k = n) : (List.range n).all f = true := by
  subst hk
  rw [List.all_eq_true]
  intro i hi
  exact h i (by simpa using hi)
theorem all_not {f : Nat → Bool} {n k : Nat} (hk : k < n) (h : f k = false) : (List.range n).all f = false := by
  rw [List.all_eq_false]
  exact ⟨k, by simpa using hk, by simp [h]⟩
theorem inside2 {W H x y : Int} (h1 : 0 ≤ x) (h2 : x < W) (h3 : 0 ≤ y) (h4 : y < H) : 0 ≤ y * W + x ∧ y * W + x < W * H := by
  have a := Int.mul_nonneg h3 (show 0 ≤ W by omega)
  have b : (y + 1) * W ≤ H * W := Int.mul_le_mul_of_nonneg_right (by omega) (by omega)
  rw [Int.add_mul, Int.one_mul, Int.mul_comm H W] at b
  omega
theorem row_in2 {len s : Nat} {W H : Int} (hl : (len : Int) = W * H) (hW : 0 < W) (hs : s < len) : (s : Int) / W < H := Int.ediv_lt_of_lt_mul hW (by rw [Int.mul_comm]; omega)

set_option maxRecDepth 100000 in
theorem own_any (R : RulesZ) (vp vs ve : Value) (p : PosZ) (ac : Option Addr) (cc : Nat) (v0 v1 : Value) (pl x y : Int) (b0 b1 b2 : Nat) (w : World) (B0 : Box w b0 [.string R.name, .int .i64 R.width, .int .i64 R.height, vp, vs, .bool R.falls, .bool R.keeps, ve, .int .i64 R.blocked, .int .i64 R.quiet, .int .i64 R.rept] 26) (B1 : Box w b1 [.slice ac p.cells.length cc, v0, v1, .int .i64 p.turn, .int .i64 p.quiet] 43) (B2 : Box w b2 [.int .i64 pl] 3)
    (hp : RdI w (.slice ac p.cells.length cc) p.cells) (K : POk R p) (hx1 : -100 ≤ x) (hx2 : x ≤ 100) (hy1 : -100 ≤ y) (hy2 : y ≤ 100) :
    Calls Try.prog 89 (#[.int .i64 x, .int .i64 y] ++ #[.pointer (some ⟨b0, 0, none⟩), .pointer (some ⟨b1, 0, none⟩), .pointer (some ⟨b2, 0, none⟩)]) w fun e w' => e = .returned (.bool (ownZ R p pl x y)) ∧ w = w' := by
  show Calls Try.prog 89 #[.int .i64 x, .int .i64 y, .pointer (some ⟨b0, 0, none⟩), .pointer (some ⟨b1, 0, none⟩), .pointer (some ⟨b2, 0, none⟩)] w _
  have HD : Hid (ownZ R p pl x y = if x < 0 ∨ R.width ≤ x ∨ y < 0 ∨ R.height ≤ y then false else decide (0 < p.cells.getD (y * R.width + x).toNat 0) && ((p.cells.getD (y * R.width + x).toNat 0 - 1) % 2 == pl)) := Lib.hid rfl
  have HCL := Lib.hid K.cl
  have HCB := Lib.hid K.cell
  have hlen := K.len
  obtain ⟨hw1, hw2⟩ := K.r.w
  obtain ⟨hh1, hh2⟩ := K.r.h
  have hnp := K.r.np.2
  have r1 := B0.cell 1 rfl
  have r2 := B0.cell 2 rfl
  have e0 := B1.cell 0 rfl
  have z0 := B2.cell 0 rfl
  have HP := Lib.hid hp
  obtain ⟨a', c', hv, hc1, hc2⟩ := hp.form
  unfold maxLen at hc2
  clear B0 B1 B2 hp
  by_cases o1 : x < 0
  · have HE : Hid (ownZ R p pl x y = false) := Lib.hid (by rw [HD.out, if_pos (.inl o1)])
    go_enter Try.func89, Try.ntmps89
    go_wp2
    go_ret
    exact ⟨by rw [HE.out]; rfl, rfl⟩
  by_cases o2 : R.width ≤ x
  · have HE : Hid (ownZ R p pl x y = false) := Lib.hid (by rw [HD.out, if_pos (.inr (.inl o2))])
    go_enter Try.func89, Try.ntmps89
    go_wp2
    go_ret
    exact ⟨by rw [HE.out]; rfl, rfl⟩
  by_cases o3 : y < 0
  · have HE : Hid (ownZ R p pl x y = false) := Lib.hid (by rw [HD.out, if_pos (.inr (.inr (.inl o3)))])
    go_enter Try.func89, Try.ntmps89
    go_wp2
    go_ret
    exact ⟨by rw [HE.out]; rfl, rfl⟩
  by_cases o4 : R.height ≤ y
  · have HE : Hid (ownZ R p pl x y = false) := Lib.hid (by rw [HD.out, if_pos (.inr (.inr (.inr o4)))])
    go_enter Try.func89, Try.ntmps89
    go_wp2
    go_ret
    exact ⟨by rw [HE.out]; rfl, rfl⟩
  have HD2 : Hid (ownZ R p pl x y = (decide (0 < p.cells.getD (y * R.width + x).toNat 0) && ((p.cells.getD (y * R.width + x).toNat 0 - 1) % 2 == pl))) := Lib.hid (by rw [HD.out, if_neg (by omega)])
  obtain ⟨i1, i2⟩ := inside2 (show 0 ≤ x by omega) (show x < R.width by omega) (show 0 ≤ y by omega) (show y < R.height by omega)
  rw [← HCL.out] at i2
  have m1 : 0 ≤ y * R.width := Int.mul_nonneg (by omega) (by omega)
  have m2 : y * R.width ≤ 64 := by omega
  obtain ⟨g, o, rfl, hcell⟩ := cells_rd HP.out (by omega)
  have hce := hcell (y * R.width + x).toNat (by omega)
  obtain ⟨b1', b2'⟩ := HCB.out (y * R.width + x).toNat
  clear hcell HD hv
  generalize p.cells.getD (y * R.width + x).toNat 0 = c at *
  by_cases hc0 : 0 < c
  · have HE : Hid (ownZ R p pl x y = ((c - 1) % 2 == pl)) := Lib.hid (by rw [HD2.out]; simp [hc0])
    go_enter Try.func89, Try.ntmps89
    go_wp2
    go_ret
    exact ⟨by rw [HE.out]; rfl, rfl⟩
  · have HE : Hid (ownZ R p pl x y = false) := Lib.hid (by rw [HD2.out]; simp [hc0])
    go_enter Try.func89, Try.ntmps89
    go_wp2
    go_ret
    exact ⟨by rw [HE.out]; rfl, rfl⟩
theorem callOwn (args : Array Value) (w : World) : (callFunc 89 args).run Try.prog w = .ok (.enter 89 args) w := by kernel_rfl

theorem own_in {R : RulesZ} {p : PosZ} {pl x y : Int} (h : ownZ R p pl x y = true) : 0 ≤ x ∧ x < R.width ∧ 0 ≤ y ∧ y < R.height := by
  unfold ownZ at h
  by_cases e : x < 0 ∨ R.width ≤ x ∨ y < 0 ∨ R.height ≤ y
  · rw [if_pos e] at h; cases h
  · omega
theorem dx_step (n : Nat) (d : Int) : ((n + 1 : Nat) : Int) * d = (n : Int) * d + d := by rw [Int.natCast_succ, Int.add_mul, Int.one_mul]
set_option maxRecDepth 100000 in
set_option maxHeartbeats 4000000 in
theorem line_any (R : RulesZ) (vp vs ve : Value) (p : PosZ) (vc v0 v1 : Value) (pl : Int) (cnt : Nat) (w : World) (hp : RdI w vc p.cells) (K : POk R p) (hcnt : cnt ≤ 64) :
    Calls Try.prog 76 #[(.agg #[.string R.name, .int .i64 R.width, .int .i64 R.height, vp, vs, .bool R.falls, .bool R.keeps, ve, .int .i64 R.blocked, .int .i64 R.quiet, .int .i64 R.rept]), (.agg #[vc, v0, v1, .int .i64 p.turn, .int .i64 p.quiet]), .int .i64 pl, .int .i64 cnt] w fun e w' => e = .returned (.bool (lineZ R p pl cnt)) ∧ Below w.heap.size w w' := by
  have HC := Lib.hid hp
  obtain ⟨ac, cc, rfl, hc1, hc2⟩ := hp.form
  unfold maxLen at hc2
  have hlen := K.len
  obtain ⟨hw1, hw2⟩ := K.r.w
  obtain ⟨hh1, hh2⟩ := K.r.h
  have HCL := Lib.hid K.cl
  clear hp
  go_enter Try.func76, Try.ntmps76
  go_upto_region 1 with (fail)
  have B0 : Box (((w.alloc (.cells #[.string R.name, .int .i64 R.width, .int .i64 R.height, vp, vs, .bool R.falls, .bool R.keeps, ve, .int .i64 R.blocked, .int .i64 R.quiet, .int .i64 R.rept] 26)).alloc (.cells #[.slice ac p.cells.length cc, v0, v1, .int .i64 p.turn, .int .i64 p.quiet] 43)).alloc (.cells #[.int .i64 pl] 3)) (w.heap.size) [.string R.name, .int .i64 R.width, .int .i64 R.height, vp, vs, .bool R.falls, .bool R.keeps, ve, .int .i64 R.blocked, .int .i64 R.quiet, .int .i64 R.rept] 26 := (((Box.new' w (w.heap.size) [.string R.name, .int .i64 R.width, .int .i64 R.height, vp, vs, .bool R.falls, .bool R.keeps, ve, .int .i64 R.blocked, .int .i64 R.quiet, .int .i64 R.rept] 26 (by simp <;> omega)).alloc _).alloc _)
  have B1 : Box (((w.alloc (.cells #[.string R.name, .int .i64 R.width, .int .i64 R.height, vp, vs, .bool R.falls, .bool R.keeps, ve, .int .i64 R.blocked, .int .i64 R.quiet, .int .i64 R.rept] 26)).alloc (.cells #[.slice ac p.cells.length cc, v0, v1, .int .i64 p.turn, .int .i64 p.quiet] 43)).alloc (.cells #[.int .i64 pl] 3)) (w.heap.size + 1) [.slice ac p.cells.length cc, v0, v1, .int .i64 p.turn, .int .i64 p.quiet] 43 := ((Box.new' (w.alloc (.cells #[.string R.name, .int .i64 R.width, .int .i64 R.height, vp, vs, .bool R.falls, .bool R.keeps, ve, .int .i64 R.blocked, .int .i64 R.quiet, .int .i64 R.rept] 26)) (w.heap.size + 1) [.slice ac p.cells.length cc, v0, v1, .int .i64 p.turn, .int .i64 p.quiet] 43 (by simp <;> omega)).alloc _)
  have B2 : Box (((w.alloc (.cells #[.string R.name, .int .i64 R.width, .int .i64 R.height, vp, vs, .bool R.falls, .bool R.keeps, ve, .int .i64 R.blocked, .int .i64 R.quiet, .int .i64 R.rept] 26)).alloc (.cells #[.slice ac p.cells.length cc, v0, v1, .int .i64 p.turn, .int .i64 p.quiet] 43)).alloc (.cells #[.int .i64 pl] 3)) (w.heap.size + 1 + 1) [.int .i64 pl] 3 := (Box.new' ((w.alloc (.cells #[.string R.name, .int .i64 R.width, .int .i64 R.height, vp, vs, .bool R.falls, .bool R.keeps, ve, .int .i64 R.blocked, .int .i64 R.quiet, .int .i64 R.rept] 26)).alloc (.cells #[.slice ac p.cells.length cc, v0, v1, .int .i64 p.turn, .int .i64 p.quiet] 43)) (w.heap.size + 1 + 1) [.int .i64 pl] 3 (by simp <;> omega))
  have HB : Hid (Below w.heap.size w (((w.alloc (.cells #[.string R.name, .int .i64 R.width, .int .i64 R.height, vp, vs, .bool R.falls, .bool R.keeps, ve, .int .i64 R.blocked, .int .i64 R.quiet, .int .i64 R.rept] 26)).alloc (.cells #[.slice ac p.cells.length cc, v0, v1, .int .i64 p.turn, .int .i64 p.quiet] 43)).alloc (.cells #[.int .i64 pl] 3))) := Lib.hid ((((Below.refl w.heap.size w).alloc (Nat.le_refl _) _).alloc (by simp <;> omega) _).alloc (by simp <;> omega) _)
  have hz0 : w.heap.size + 1 + 1 < (((w.alloc (.cells #[.string R.name, .int .i64 R.width, .int .i64 R.height, vp, vs, .bool R.falls, .bool R.keeps, ve, .int .i64 R.blocked, .int .i64 R.quiet, .int .i64 R.rept] 26)).alloc (.cells #[.slice ac p.cells.length cc, v0, v1, .int .i64 p.turn, .int .i64 p.quiet] 43)).alloc (.cells #[.int .i64 pl] 3)).heap.size := by simp
  generalize (((w.alloc (.cells #[.string R.name, .int .i64 R.width, .int .i64 R.height, vp, vs, .bool R.falls, .bool R.keeps, ve, .int .i64 R.blocked, .int .i64 R.quiet, .int .i64 R.rept] 26)).alloc (.cells #[.slice ac p.cells.length cc, v0, v1, .int .i64 p.turn, .int .i64 p.quiet] 43)).alloc (.cells #[.int .i64 pl] 3)) = w0 at *
  have HCw := Lib.hid (HC.out.below HB.out (Nat.le_refl _))
  have HB0 := Lib.hid B0
  have HB1 := Lib.hid B1
  have HB2 := Lib.hid B2
  have e0 := B1.cell 0 rfl
  clear B0 B1 B2
  go_wp2_with fail
  clear e0
  go_loopw [20] (fun i wr => ∃ k : Nat, k ≤ p.cells.length ∧ i = .int .i64 k ∧ Hid (∀ s, s < k → ∀ j : Int, 0 ≤ j → j < 4 → lineAt R p pl cnt s j = false) ∧ Hid (Below w0.heap.size w0 wr)) (fun i _ => p.cells.length - (intOf i).toNat)
  case atStart => exact ⟨0, Nat.zero_le _, rfl, Lib.hid (fun s hs => absurd hs (Nat.not_lt_zero _)), Lib.hid (Below.refl _ _)⟩
  case round =>
    obtain ⟨k, hk, rfl, HF1, HBr⟩ := hrel
    by_cases hlt : k < p.cells.length
    · have hw0 : ¬ R.width = 0 := by omega
      have q3 := Int.emod_nonneg (k : Int) (show R.width ≠ 0 by omega)
      have q4 := Int.emod_lt_of_pos (k : Int) (show 0 < R.width by omega)
      have q5 : 0 ≤ (k : Int) / R.width := Int.ediv_nonneg (by omega) (by omega)
      have q6 := row_in2 HCL.out (by omega) hlt
      go_wp2_with fail
      go_loopw [28] (fun i wr => ∃ j : Int, 0 ≤ j ∧ j ≤ 4 ∧ i = .int .i64 j ∧ Hid (∀ i : Int, 0 ≤ i → i < j → lineAt R p pl cnt k i = false) ∧ Hid (Below w0.heap.size w0 wr)) (fun i _ => (4 - intOf i).toNat)
      case atStart => exact ⟨0, by omega, by omega, rfl, Lib.hid (fun i h0 h1 => by omega), HBr⟩
      case round =>
       obtain ⟨j, hj0, hj4, rfl, HJ, HBr⟩ := hrel
       have hsz := HBr.out.size
       have hj : j = 0 ∨ j = 1 ∨ j = 2 ∨ j = 3 ∨ j = 4 := by omega
       clear hj0 hj4
       rcases hj with rfl | rfl | rfl | rfl | rfl
       · obtain ⟨wB, rfl⟩ : ∃ wB : World, wB = wr := ⟨_, rfl⟩
         have hix : ∀ w' : World, (Instr.index 141 (.agg #[.int .i64 1, .int .i64 0, .int .i64 0, .int .i64 1, .int .i64 1, .int .i64 1, .int .i64 1, .int .i64 (-1)]) (.int .i64 0)).run Try.prog w' = .ok (.agg #[.int .i64 (1), .int .i64 (0)]) w' := fun w' => by kernel_rfl
         go_wp2_with fail
         have hbd := (Box.new' wB wB.heap.size [.int .i64 (1), .int .i64 (0)] 140 rfl)
         have HBn := Lib.hid (HBr.out.alloc hsz (.cells #[.int .i64 (1), .int .i64 (0)] 140))
         generalize (wB.alloc (.cells #[.int .i64 (1), .int .i64 (0)] 140)) = wn at *
         have hzn := hbd.lt
         have r1 := (HB0.out.below HBn.out (by omega)).cell 1 rfl
         have HBd := Lib.hid hbd
         clear hbd
         go_quiet (fail)
         go_wp2_with fail
         clear r1
         go_loopw [13, 14, 15] (fun vx vy vn wr => ∃ (n : Nat) (X Y : Int), n ≤ cnt ∧ vn = .int .i64 n ∧ vx = .int .i64 X ∧ vy = .int .i64 Y ∧ Hid (X = (k : Int) % R.width + n * dxZ 0) ∧ Hid (Y = (k : Int) / R.width + n * dyZ 0) ∧ -1 ≤ X ∧ X ≤ 9 ∧ -1 ≤ Y ∧ Y ≤ 9 ∧ Hid (∀ i, i < n → ownZ R p pl ((k : Int) % R.width + i * dxZ 0) ((k : Int) / R.width + i * dyZ 0) = true) ∧ Hid (Below wn.heap.size wn wr)) (fun _ _ n _ => cnt - (intOf n).toNat)
         case atStart => exact ⟨0, _, _, Nat.zero_le _, rfl, rfl, rfl, Lib.hid (by simp), Lib.hid (by simp), by omega, by omega, by omega, by omega, Lib.hid (fun i hi => absurd hi (Nat.not_lt_zero _)), Lib.hid (below_drewN (Below.refl _ _) _)⟩
         case round =>
           obtain ⟨n, X, Y, hn, rfl, rfl, rfl, HX, HY, hX1, hX2, hY1, hY2, HA, HBq⟩ := hrel
           have hszq := HBq.out.size
           have HB3 := Lib.hid (below_trans HBn.out HBq.out HBn.out.size)
           by_cases hnc : n < cnt
           · have hnci : (n : Int) < (cnt : Int) := by omega
             have hcf := callOwn
             have HOW := Lib.hid (own_any R vp vs ve p ac cc v0 v1 pl X Y _ _ _ wr (HB0.out.below HB3.out (by omega)) (HB1.out.below HB3.out (by omega)) (HB2.out.below HB3.out (by omega)) (HCw.out.below HB3.out (Nat.le_refl _)) K (by omega) (by omega) (by omega) (by omega))
             go_wp2_with fail
             refine HOW.out.mono ?_
             rintro e w' ⟨rfl, rfl⟩
             cases how : ownZ R p pl X Y
             · have HF : Hid (lineAt R p pl cnt k 0 = false) := Lib.hid (by unfold lineAt; exact all_not hnc (by rw [← HX.out, ← HY.out]; exact how))
               have hne : ((n : Int) == (cnt : Int)) = false := by simp; omega
               clear how
               go_wp2_with fail
               go_roundw
               case rel => exact ⟨1, by omega, by omega, rfl, Lib.hid (fun i h0 h1 => by
                 by_cases e : i = 0
                 · subst e; exact HF.out
                 · exact HJ.out i h0 (by omega)), HB3⟩
               case measure => simp [intOf]
             · have HIN : Hid (0 ≤ X ∧ X < R.width ∧ 0 ≤ Y ∧ Y < R.height) := Lib.hid (own_in how)
               have hin := HIN.out
               have HA2 : Hid (∀ i, i < n + 1 → ownZ R p pl ((k : Int) % R.width + i * dxZ 0) ((k : Int) / R.width + i * dyZ 0) = true) := Lib.hid (fun i hi => by
                 by_cases e : i = n
                 · subst e; rw [← HX.out, ← HY.out]; exact how
                 · exact HA.out i (by omega))
               have d0 := (HBd.out.stays HBq.out).cell 0 rfl
               have d1 := (HBd.out.stays HBq.out).cell 1 rfl
               clear how
               go_wp2_with fail
               go_quiet (fail)
               go_wp2_with fail
               go_roundw
               case rel => exact ⟨n + 1, _, _, by omega, by go_num, rfl, rfl, Lib.hid (by rw [HX.out, dx_step]; simp [dxZ]; try omega), Lib.hid (by rw [HY.out, dx_step]; simp [dyZ]; try omega), by omega, by omega, by omega, by omega, HA2, Lib.hid (below_drewN HBq.out _)⟩
               case measure => simp [intOf]; omega
           · obtain rfl : n = cnt := by omega
             have HT : Hid (lineZ R p pl n = true) := Lib.hid (lineZ_true hlt (by decide) (by decide) (show lineAt R p pl n k 0 = true from by unfold lineAt; exact all_upto HA.out rfl))
             go_wp2_with fail
             go_ret
             exact ⟨by rw [HT.out]; rfl, below_trans HB.out HB3.out HB.out.size⟩
       · obtain ⟨wB, rfl⟩ : ∃ wB : World, wB = wr := ⟨_, rfl⟩
         have hix : ∀ w' : World, (Instr.index 141 (.agg #[.int .i64 1, .int .i64 0, .int .i64 0, .int .i64 1, .int .i64 1, .int .i64 1, .int .i64 1, .int .i64 (-1)]) (.int .i64 1)).run Try.prog w' = .ok (.agg #[.int .i64 (0), .int .i64 (1)]) w' := fun w' => by kernel_rfl
         go_wp2_with fail
         have hbd := (Box.new' wB wB.heap.size [.int .i64 (0), .int .i64 (1)] 140 rfl)
         have HBn := Lib.hid (HBr.out.alloc hsz (.cells #[.int .i64 (0), .int .i64 (1)] 140))
         generalize (wB.alloc (.cells #[.int .i64 (0), .int .i64 (1)] 140)) = wn at *
         have hzn := hbd.lt
         have r1 := (HB0.out.below HBn.out (by omega)).cell 1 rfl
         have HBd := Lib.hid hbd
         clear hbd
         go_quiet (fail)
         go_wp2_with fail
         clear r1
         go_loopw [13, 14, 15] (fun vx vy vn wr => ∃ (n : Nat) (X Y : Int), n ≤ cnt ∧ vn = .int .i64 n ∧ vx = .int .i64 X ∧ vy = .int .i64 Y ∧ Hid (X = (k : Int) % R.width + n * dxZ 1) ∧ Hid (Y = (k : Int) / R.width + n * dyZ 1) ∧ -1 ≤ X ∧ X ≤ 9 ∧ -1 ≤ Y ∧ Y ≤ 9 ∧ Hid (∀ i, i < n → ownZ R p pl ((k : Int) % R.width + i * dxZ 1) ((k : Int) / R.width + i * dyZ 1) = true) ∧ Hid (Below wn.heap.size wn wr)) (fun _ _ n _ => cnt - (intOf n).toNat)
         case atStart => exact ⟨0, _, _, Nat.zero_le _, rfl, rfl, rfl, Lib.hid (by simp), Lib.hid (by simp), by omega, by omega, by omega, by omega, Lib.hid (fun i hi => absurd hi (Nat.not_lt_zero _)), Lib.hid (below_drewN (Below.refl _ _) _)⟩
         case round =>
           obtain ⟨n, X, Y, hn, rfl, rfl, rfl, HX, HY, hX1, hX2, hY1, hY2, HA, HBq⟩ := hrel
           have hszq := HBq.out.size
           have HB3 := Lib.hid (below_trans HBn.out HBq.out HBn.out.size)
           by_cases hnc : n < cnt
           · have hnci : (n : Int) < (cnt : Int) := by omega
             have hcf := callOwn
             have HOW := Lib.hid (own_any R vp vs ve p ac cc v0 v1 pl X Y _ _ _ wr (HB0.out.below HB3.out (by omega)) (HB1.out.below HB3.out (by omega)) (HB2.out.below HB3.out (by omega)) (HCw.out.below HB3.out (Nat.le_refl _)) K (by omega) (by omega) (by omega) (by omega))
             go_wp2_with fail
             refine HOW.out.mono ?_
             rintro e w' ⟨rfl, rfl⟩
             cases how : ownZ R p pl X Y
             · have HF : Hid (lineAt R p pl cnt k 1 = false) := Lib.hid (by unfold lineAt; exact all_not hnc (by rw [← HX.out, ← HY.out]; exact how))
               have hne : ((n : Int) == (cnt : Int)) = false := by simp; omega
               clear how
               go_wp2_with fail
               go_roundw
               case rel => exact ⟨2, by omega, by omega, rfl, Lib.hid (fun i h0 h1 => by
                 by_cases e : i = 1
                 · subst e; exact HF.out
                 · exact HJ.out i h0 (by omega)), HB3⟩
               case measure => simp [intOf]
             · have HIN : Hid (0 ≤ X ∧ X < R.width ∧ 0 ≤ Y ∧ Y < R.height) := Lib.hid (own_in how)
               have hin := HIN.out
               have HA2 : Hid (∀ i, i < n + 1 → ownZ R p pl ((k : Int) % R.width + i * dxZ 1) ((k : Int) / R.width + i * dyZ 1) = true) := Lib.hid (fun i hi => by
                 by_cases e : i = n
                 · subst e; rw [← HX.out, ← HY.out]; exact how
                 · exact HA.out i (by omega))
               have d0 := (HBd.out.stays HBq.out).cell 0 rfl
               have d1 := (HBd.out.stays HBq.out).cell 1 rfl
               clear how
               go_wp2_with fail
               go_quiet (fail)
               go_wp2_with fail
               go_roundw
               case rel => exact ⟨n + 1, _, _, by omega, by go_num, rfl, rfl, Lib.hid (by rw [HX.out, dx_step]; simp [dxZ]; try omega), Lib.hid (by rw [HY.out, dx_step]; simp [dyZ]; try omega), by omega, by omega, by omega, by omega, HA2, Lib.hid (below_drewN HBq.out _)⟩
               case measure => simp [intOf]; omega
           · obtain rfl : n = cnt := by omega
             have HT : Hid (lineZ R p pl n = true) := Lib.hid (lineZ_true hlt (by decide) (by decide) (show lineAt R p pl n k 1 = true from by unfold lineAt; exact all_upto HA.out rfl))
             go_wp2_with fail
             go_ret
             exact ⟨by rw [HT.out]; rfl, below_trans HB.out HB3.out HB.out.size⟩
       · obtain ⟨wB, rfl⟩ : ∃ wB : World, wB = wr := ⟨_, rfl⟩
         have hix : ∀ w' : World, (Instr.index 141 (.agg #[.int .i64 1, .int .i64 0, .int .i64 0, .int .i64 1, .int .i64 1, .int .i64 1, .int .i64 1, .int .i64 (-1)]) (.int .i64 2)).run Try.prog w' = .ok (.agg #[.int .i64 (1), .int .i64 (1)]) w' := fun w' => by kernel_rfl
         go_wp2_with fail
         have hbd := (Box.new' wB wB.heap.size [.int .i64 (1), .int .i64 (1)] 140 rfl)
         have HBn := Lib.hid (HBr.out.alloc hsz (.cells #[.int .i64 (1), .int .i64 (1)] 140))
         generalize (wB.alloc (.cells #[.int .i64 (1), .int .i64 (1)] 140)) = wn at *
         have hzn := hbd.lt
         have r1 := (HB0.out.below HBn.out (by omega)).cell 1 rfl
         have HBd := Lib.hid hbd
         clear hbd
         go_quiet (fail)
         go_wp2_with fail
         clear r1
         go_loopw [13, 14, 15] (fun vx vy vn wr => ∃ (n : Nat) (X Y : Int), n ≤ cnt ∧ vn = .int .i64 n ∧ vx = .int .i64 X ∧ vy = .int .i64 Y ∧ Hid (X = (k : Int) % R.width + n * dxZ 2) ∧ Hid (Y = (k : Int) / R.width + n * dyZ 2) ∧ -1 ≤ X ∧ X ≤ 9 ∧ -1 ≤ Y ∧ Y ≤ 9 ∧ Hid (∀ i, i < n → ownZ R p pl ((k : Int) % R.width + i * dxZ 2) ((k : Int) / R.width + i * dyZ 2) = true) ∧ Hid (Below wn.heap.size wn wr)) (fun _ _ n _ => cnt - (intOf n).toNat)
         case atStart => exact ⟨0, _, _, Nat.zero_le _, rfl, rfl, rfl, Lib.hid (by simp), Lib.hid (by simp), by omega, by omega, by omega, by omega, Lib.hid (fun i hi => absurd hi (Nat.not_lt_zero _)), Lib.hid (below_drewN (Below.refl _ _) _)⟩
         case round =>
           obtain ⟨n, X, Y, hn, rfl, rfl, rfl, HX, HY, hX1, hX2, hY1, hY2, HA, HBq⟩ := hrel
           have hszq := HBq.out.size
           have HB3 := Lib.hid (below_trans HBn.out HBq.out HBn.out.size)
           by_cases hnc : n < cnt
           · have hnci : (n : Int) < (cnt : Int) := by omega
             have hcf := callOwn
             have HOW := Lib.hid (own_any R vp vs ve p ac cc v0 v1 pl X Y _ _ _ wr (HB0.out.below HB3.out (by omega)) (HB1.out.below HB3.out (by omega)) (HB2.out.below HB3.out (by omega)) (HCw.out.below HB3.out (Nat.le_refl _)) K (by omega) (by omega) (by omega) (by omega))
             go_wp2_with fail
             refine HOW.out.mono ?_
             rintro e w' ⟨rfl, rfl⟩
             cases how : ownZ R p pl X Y
             · have HF : Hid (lineAt R p pl cnt k 2 = false) := Lib.hid (by unfold lineAt; exact all_not hnc (by rw [← HX.out, ← HY.out]; exact how))
               have hne : ((n : Int) == (cnt : Int)) = false := by simp; omega
               clear how
               go_wp2_with fail
               go_roundw
               case rel => exact ⟨3, by omega, by omega, rfl, Lib.hid (fun i h0 h1 => by
                 by_cases e : i = 2
                 · subst e; exact HF.out
                 · exact HJ.out i h0 (by omega)), HB3⟩
               case measure => simp [intOf]
             · have HIN : Hid (0 ≤ X ∧ X < R.width ∧ 0 ≤ Y ∧ Y < R.height) := Lib.hid (own_in how)
               have hin := HIN.out
               have HA2 : Hid (∀ i, i < n + 1 → ownZ R p pl ((k : Int) % R.width + i * dxZ 2) ((k : Int) / R.width + i * dyZ 2) = true) := Lib.hid (fun i hi => by
                 by_cases e : i = n
                 · subst e; rw [← HX.out, ← HY.out]; exact how
                 · exact HA.out i (by omega))
               have d0 := (HBd.out.stays HBq.out).cell 0 rfl
               have d1 := (HBd.out.stays HBq.out).cell 1 rfl
               clear how
               go_wp2_with fail
               go_quiet (fail)
               go_wp2_with fail
               go_roundw
               case rel => exact ⟨n + 1, _, _, by omega, by go_num, rfl, rfl, Lib.hid (by rw [HX.out, dx_step]; simp [dxZ]; try omega), Lib.hid (by rw [HY.out, dx_step]; simp [dyZ]; try omega), by omega, by omega, by omega, by omega, HA2, Lib.hid (below_drewN HBq.out _)⟩
               case measure => simp [intOf]; omega
           · obtain rfl : n = cnt := by omega
             have HT : Hid (lineZ R p pl n = true) := Lib.hid (lineZ_true hlt (by decide) (by decide) (show lineAt R p pl n k 2 = true from by unfold lineAt; exact all_upto HA.out rfl))
             go_wp2_with fail
             go_ret
             exact ⟨by rw [HT.out]; rfl, below_trans HB.out HB3.out HB.out.size⟩
       · obtain ⟨wB, rfl⟩ : ∃ wB : World, wB = wr := ⟨_, rfl⟩
         have hix : ∀ w' : World, (Instr.index 141 (.agg #[.int .i64 1, .int .i64 0, .int .i64 0, .int .i64 1, .int .i64 1, .int .i64 1, .int .i64 1, .int .i64 (-1)]) (.int .i64 3)).run Try.prog w' = .ok (.agg #[.int .i64 (1), .int .i64 (-1)]) w' := fun w' => by kernel_rfl
         go_wp2_with fail
         have hbd := (Box.new' wB wB.heap.size [.int .i64 (1), .int .i64 (-1)] 140 rfl)
         have HBn := Lib.hid (HBr.out.alloc hsz (.cells #[.int .i64 (1), .int .i64 (-1)] 140))
         generalize (wB.alloc (.cells #[.int .i64 (1), .int .i64 (-1)] 140)) = wn at *
         have hzn := hbd.lt
         have r1 := (HB0.out.below HBn.out (by omega)).cell 1 rfl
         have HBd := Lib.hid hbd
         clear hbd
         go_quiet (fail)
         go_wp2_with fail
         clear r1
         go_loopw [13, 14, 15] (fun vx vy vn wr => ∃ (n : Nat) (X Y : Int), n ≤ cnt ∧ vn = .int .i64 n ∧ vx = .int .i64 X ∧ vy = .int .i64 Y ∧ Hid (X = (k : Int) % R.width + n * dxZ 3) ∧ Hid (Y = (k : Int) / R.width + n * dyZ 3) ∧ -1 ≤ X ∧ X ≤ 9 ∧ -1 ≤ Y ∧ Y ≤ 9 ∧ Hid (∀ i, i < n → ownZ R p pl ((k : Int) % R.width + i * dxZ 3) ((k : Int) / R.width + i * dyZ 3) = true) ∧ Hid (Below wn.heap.size wn wr)) (fun _ _ n _ => cnt - (intOf n).toNat)
         case atStart => exact ⟨0, _, _, Nat.zero_le _, rfl, rfl, rfl, Lib.hid (by simp), Lib.hid (by simp), by omega, by omega, by omega, by omega, Lib.hid (fun i hi => absurd hi (Nat.not_lt_zero _)), Lib.hid (below_drewN (Below.refl _ _) _)⟩
         case round =>
           obtain ⟨n, X, Y, hn, rfl, rfl, rfl, HX, HY, hX1, hX2, hY1, hY2, HA, HBq⟩ := hrel
           have hszq := HBq.out.size
           have HB3 := Lib.hid (below_trans HBn.out HBq.out HBn.out.size)
           by_cases hnc : n < cnt
           · have hnci : (n : Int) < (cnt : Int) := by omega
             have hcf := callOwn
             have HOW := Lib.hid (own_any R vp vs ve p ac cc v0 v1 pl X Y _ _ _ wr (HB0.out.below HB3.out (by omega)) (HB1.out.below HB3.out (by omega)) (HB2.out.below HB3.out (by omega)) (HCw.out.below HB3.out (Nat.le_refl _)) K (by omega) (by omega) (by omega) (by omega))
             go_wp2_with fail
             refine HOW.out.mono ?_
             rintro e w' ⟨rfl, rfl⟩
             cases how : ownZ R p pl X Y
             · have HF : Hid (lineAt R p pl cnt k 3 = false) := Lib.hid (by unfold lineAt; exact all_not hnc (by rw [← HX.out, ← HY.out]; exact how))
               have hne : ((n : Int) == (cnt : Int)) = false := by simp; omega
               clear how
               go_wp2_with fail
               go_roundw
               case rel => exact ⟨4, by omega, by omega, rfl, Lib.hid (fun i h0 h1 => by
                 by_cases e : i = 3
                 · subst e; exact HF.out
                 · exact HJ.out i h0 (by omega)), HB3⟩
               case measure => simp [intOf]
             · have HIN : Hid (0 ≤ X ∧ X < R.width ∧ 0 ≤ Y ∧ Y < R.height) := Lib.hid (own_in how)
               have hin := HIN.out
               have HA2 : Hid (∀ i, i < n + 1 → ownZ R p pl ((k : Int) % R.width + i * dxZ 3) ((k : Int) / R.width + i * dyZ 3) = true) := Lib.hid (fun i hi => by
                 by_cases e : i = n
                 · subst e; rw [← HX.out, ← HY.out]; exact how
                 · exact HA.out i (by omega))
               have d0 := (HBd.out.stays HBq.out).cell 0 rfl
               have d1 := (HBd.out.stays HBq.out).cell 1 rfl
               clear how
               go_wp2_with fail
               go_quiet (fail)
               go_wp2_with fail
               go_roundw
               case rel => exact ⟨n + 1, _, _, by omega, by go_num, rfl, rfl, Lib.hid (by rw [HX.out, dx_step]; simp [dxZ]; try omega), Lib.hid (by rw [HY.out, dx_step]; simp [dyZ]; try omega), by omega, by omega, by omega, by omega, HA2, Lib.hid (below_drewN HBq.out _)⟩
               case measure => simp [intOf]; omega
           · obtain rfl : n = cnt := by omega
             have HT : Hid (lineZ R p pl n = true) := Lib.hid (lineZ_true hlt (by decide) (by decide) (show lineAt R p pl n k 3 = true from by unfold lineAt; exact all_upto HA.out rfl))
             go_wp2_with fail
             go_ret
             exact ⟨by rw [HT.out]; rfl, below_trans HB.out HB3.out HB.out.size⟩
       · go_wp2_with fail
         go_roundw
         case rel => exact ⟨k + 1, by omega, by go_num, Lib.hid (fun s hs i h0 h1 => by
          by_cases e : s = k
          · subst e; exact HJ.out i h0 h1
          · exact HF1.out s (by omega) i h0 h1), HBr⟩
         case measure => simp [intOf]; omega
    · have HE : Hid (lineZ R p pl cnt = false) := Lib.hid (lineZ_false (fun s hs => HF1.out s (by omega)))
      go_wp2_with fail
      go_ret
      exact ⟨by rw [HE.out]; rfl, below_trans HB.out HBr.out HB.out.size⟩

end Go.Proofs.Ytnieifdogllbfaa

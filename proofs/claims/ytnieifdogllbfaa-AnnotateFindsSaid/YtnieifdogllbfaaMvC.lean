/- The order by which moves.List sorts. -/
import Derived.Test.YtnieifdogllbfaaMvPlain
import Derived.Test.YtnieifdogllbfaaApp
import Derived.Sort.Grow
namespace Go.Proofs.Ytnieifdogllbfaa
open Go.ChangeShapes Go.WideShapes Go.ChangeAt Go.RowKit
set_option linter.unusedVariables false

def cmpZ (a b : Int) : Int := if a < b then -1 else if b < a then 1 else 0
def orZ : List Int → Int
  | [] => 0
  | x :: t => if x = 0 then orZ t else x
def ordM (a b : MoveZ) : Int := orZ [cmpZ a.src b.src, cmpZ a.dst b.dst, cmpZ a.piece b.piece]
theorem isNaN_any (x : Int) (w : World) : Calls Try.prog 75 #[.int .i64 x] w fun e w' => e = .returned (.bool false) ∧ w = w' := by
  go_enter Try.func75, Try.ntmps75
  go_wp2
  go_ret
  exact ⟨by simp, rfl⟩
theorem compare_any (x y : Int) (w : World) : Calls Try.prog 63 #[.int .i64 x, .int .i64 y] w fun e w' => e = .returned (.int .i64 (cmpZ x y)) ∧ w = w' := by
  by_cases h1 : x < y
  · have HE : Hid (cmpZ x y = -1) := Lib.hid (by unfold cmpZ; rw [if_pos h1])
    go_enter Try.func63, Try.ntmps63
    go_wp2_with (go_at_call 75; refine (isNaN_any _ _).mono ?_; rintro e w' ⟨rfl, rfl⟩)
    go_ret
    exact ⟨by rw [HE.out]; rfl, rfl⟩
  · by_cases h2 : y < x
    · have HE : Hid (cmpZ x y = 1) := Lib.hid (by unfold cmpZ; rw [if_neg h1, if_pos h2])
      go_enter Try.func63, Try.ntmps63
      go_wp2_with (go_at_call 75; refine (isNaN_any _ _).mono ?_; rintro e w' ⟨rfl, rfl⟩)
      go_ret
      exact ⟨by rw [HE.out]; rfl, rfl⟩
    · have HE : Hid (cmpZ x y = 0) := Lib.hid (by unfold cmpZ; rw [if_neg h1, if_neg h2])
      go_enter Try.func63, Try.ntmps63
      go_wp2_with (go_at_call 75; refine (isNaN_any _ _).mono ?_; rintro e w' ⟨rfl, rfl⟩)
      go_ret
      exact ⟨by rw [HE.out]; rfl, rfl⟩
theorem orZ_at (zs : List Int) (k : Nat) (h : k < zs.length) : orZ (zs.drop k) = if zs.getD k 0 = 0 then orZ (zs.drop (k + 1)) else zs.getD k 0 := by
  rw [List.drop_eq_getElem_cons h, orZ, List.getD_eq_getElem?_getD, List.getElem?_eq_getElem h]; rfl
theorem or_any (v : Value) (zs : List Int) (w : World) (h : RdI w v zs) (hl : zs.length ≤ 1000000) : Calls Try.prog 62 #[v] w fun e w' => e = .returned (.int .i64 (orZ zs)) ∧ w = w' := by
  have HR := Lib.hid h
  obtain ⟨a, c, rfl, h1, h2⟩ := h.form
  unfold maxLen at h2
  have H0 : Hid (orZ zs = orZ (zs.drop 0)) := Lib.hid rfl
  clear h
  go_enter Try.func62, Try.ntmps62
  go_wp2
  go_loop [8] (fun i => ∃ k : Nat, k ≤ zs.length ∧ i = .int .i64 k ∧ Hid (orZ zs = orZ (zs.drop k))) (fun i => zs.length - (intOf i).toNat)
  case atStart => exact ⟨0, Nat.zero_le _, rfl, H0⟩
  case round =>
    obtain ⟨k, hk, rfl, HK⟩ := hrel
    by_cases hlt : k < zs.length
    · obtain ⟨g, o, rfl, hcell⟩ := cells_rd HR.out (by omega)
      have hc := hcell k hlt
      have HS := Lib.hid (orZ_at zs k hlt)
      clear hcell
      generalize zs.getD k 0 = z at *
      by_cases hz : z = 0
      · subst hz
        go_wp2_with fail
        go_round
        case rel => exact ⟨k + 1, by omega, by go_num, Lib.hid (by rw [HK.out, HS.out, if_pos rfl])⟩
        case measure => simp [intOf]; omega
      · have hz' : (z != 0) = true := by simpa using hz
        have HE : Hid (orZ zs = z) := Lib.hid (by rw [HK.out, HS.out, if_neg hz])
        clear hz
        go_wp2_with fail
        go_ret
        exact ⟨by rw [HE.out]; rfl, rfl⟩
    · have HE : Hid (orZ zs = 0) := Lib.hid (by rw [HK.out, List.drop_of_length_le (by omega)]; rfl)
      go_wp2_with fail
      go_ret
      exact ⟨by rw [HE.out]; rfl, rfl⟩
theorem grow3 (W : World) (a b c : Obj) : (((W.alloc a).alloc b).alloc c).drew = Sort.grow (W.drewN 1) #[a, b, c] := by
  rw [Sort.alloc_eq_grow, Sort.alloc_eq_grow, Sort.alloc_eq_grow, Sort.grow_grow, Sort.grow_grow, Sort.drew_grow]; rfl
theorem K_world' {w : World} {p : World → Prop} (h : ∀ w', w' = w → p w') : p w := h w rfl
theorem read3 {w w' : World} {x y z : Int} (h : w' = (w.alloc (.cells #[.int .i64 x, .int .i64 y, .int .i64 z] 3)).drew) : RdI w' (.slice (some ⟨w.heap.size, 0, none⟩) 3 3) [x, y, z] := by
  subst h
  refine ⟨rfl, .inr ⟨w.heap.size, 0, 3, rfl, Nat.le_refl _, by unfold maxLen; decide, fun i hi => ?_⟩⟩
  have hi' : i = 0 ∨ i = 1 ∨ i = 2 := by simp at hi; omega
  have hb := Box.new w [.int .i64 x, .int .i64 y, .int .i64 z] 3
  have hb' : Box (w.alloc (.cells #[.int .i64 x, .int .i64 y, .int .i64 z] 3)).drew w.heap.size [.int .i64 x, .int .i64 y, .int .i64 z] 3 := hb
  rcases hi' with rfl | rfl | rfl
  · exact hb'.cell 0 rfl
  · exact hb'.cell 1 rfl
  · exact hb'.cell 2 rfl

set_option maxRecDepth 100000 in
set_option maxHeartbeats 1000000 in
theorem ord_any (x y : MoveZ) (W : World) : Calls Try.prog 61 #[.agg #[.int .i64 x.src, .int .i64 x.dst, .int .i64 x.piece], .agg #[.int .i64 y.src, .int .i64 y.dst, .int .i64 y.piece]] W fun e w' => e = .returned (.int .i64 (ordM x y)) ∧ ∃ q os', w' = Sort.grow (W.drewN q) os' := by
  have HO : Hid (ordM x y = orZ [cmpZ x.src y.src, cmpZ x.dst y.dst, cmpZ x.piece y.piece]) := Lib.hid rfl
  go_enter Try.func61, Try.ntmps61
  go_upto_region 1 with (fail)
  have bx := (Box.new' W W.heap.size [.int .i64 x.src, .int .i64 x.dst, .int .i64 x.piece] 57 rfl).alloc (.cells #[.int .i64 y.src, .int .i64 y.dst, .int .i64 y.piece] 57)
  have by' := Box.new' (W.alloc (.cells #[.int .i64 x.src, .int .i64 x.dst, .int .i64 x.piece] 57)) (W.heap.size + 1) [.int .i64 y.src, .int .i64 y.dst, .int .i64 y.piece] 57 (by simp)
  have hW : Hid (((W.alloc (.cells #[.int .i64 x.src, .int .i64 x.dst, .int .i64 x.piece] 57)).alloc (.cells #[.int .i64 y.src, .int .i64 y.dst, .int .i64 y.piece] 57)) = ((W.alloc (.cells #[.int .i64 x.src, .int .i64 x.dst, .int .i64 x.piece] 57)).alloc (.cells #[.int .i64 y.src, .int .i64 y.dst, .int .i64 y.piece] 57))) := Lib.hid rfl
  generalize hw0 : ((W.alloc (.cells #[.int .i64 x.src, .int .i64 x.dst, .int .i64 x.piece] 57)).alloc (.cells #[.int .i64 y.src, .int .i64 y.dst, .int .i64 y.piece] 57)) = w0 at bx by' ⊢
  have HW := Lib.hid hw0.symm
  clear hw0 hW
  have Bx : Box w0.drew W.heap.size [.int .i64 x.src, .int .i64 x.dst, .int .i64 x.piece] 57 := bx
  have By : Box w0.drew (W.heap.size + 1) [.int .i64 y.src, .int .i64 y.dst, .int .i64 y.piece] 57 := by'
  clear bx by'
  refine wp_region_noPanic ?_
  refine beginL (S := (fun w' => w'.cell? ⟨W.heap.size, 0, none⟩ = some (.int .i64 x.src) ∧ w'.cell? ⟨W.heap.size, 1, none⟩ = some (.int .i64 x.dst) ∧ w'.cell? ⟨W.heap.size, 2, none⟩ = some (.int .i64 x.piece) ∧ w'.cell? ⟨W.heap.size + 1, 0, none⟩ = some (.int .i64 y.src) ∧ w'.cell? ⟨W.heap.size + 1, 1, none⟩ = some (.int .i64 y.dst) ∧ w'.cell? ⟨W.heap.size + 1, 2, none⟩ = some (.int .i64 y.piece))) (L := []) (by kernel_rfl) ⟨Bx.cell 0 rfl, Bx.cell 1 rfl, Bx.cell 2 rfl, By.cell 0 rfl, By.cell 1 rfl, By.cell 2 rfl⟩ (fun hHeld => ?_)
  refine takeW (i := 0) (oi := { dst := some 5, op := Op.fieldAddr 57 (Operand.tmp 2) 0, type := 0, pos := "moves.go:83", after := #[], guard := none }) (v := ?va1) rfl (by kernel_rfl) (by kernel_rfl) (by kernel_rfl) rfl (fun _ _ _ h => h) (Or.inl ⟨by rfl, ?ya1⟩) (fun _ => by assumption) ?ra1
  case ya1 => (intro w _; go_simp; first | done | (with_reducible rfl))
  try simp only [Act.put, List.setIfInBounds_toArray, List.set_cons_zero, List.set_cons_succ]
  refine takeW (i := 2) (oi := { dst := some 7, op := Op.fieldAddr 57 (Operand.tmp 3) 0, type := 0, pos := "moves.go:83", after := #[], guard := none }) (v := ?va2) rfl (by kernel_rfl) (by kernel_rfl) (by kernel_rfl) rfl (fun _ _ _ h => h) (Or.inl ⟨by rfl, ?ya2⟩) (fun _ => by assumption) ?ra2
  case ya2 => (intro w _; go_simp; first | done | (with_reducible rfl))
  try simp only [Act.put, List.setIfInBounds_toArray, List.set_cons_zero, List.set_cons_succ]
  refine takeW (i := 5) (oi := { dst := some 10, op := Op.fieldAddr 57 (Operand.tmp 2) 1, type := 0, pos := "moves.go:83", after := #[], guard := none }) (v := ?va3) rfl (by kernel_rfl) (by kernel_rfl) (by kernel_rfl) rfl (fun _ _ _ h => h) (Or.inl ⟨by rfl, ?ya3⟩) (fun _ => by assumption) ?ra3
  case ya3 => (intro w _; go_simp; first | done | (with_reducible rfl))
  try simp only [Act.put, List.setIfInBounds_toArray, List.set_cons_zero, List.set_cons_succ]
  refine takeW (i := 7) (oi := { dst := some 12, op := Op.fieldAddr 57 (Operand.tmp 3) 1, type := 0, pos := "moves.go:83", after := #[], guard := none }) (v := ?va4) rfl (by kernel_rfl) (by kernel_rfl) (by kernel_rfl) rfl (fun _ _ _ h => h) (Or.inl ⟨by rfl, ?ya4⟩) (fun _ => by assumption) ?ra4
  case ya4 => (intro w _; go_simp; first | done | (with_reducible rfl))
  try simp only [Act.put, List.setIfInBounds_toArray, List.set_cons_zero, List.set_cons_succ]
  refine takeW (i := 10) (oi := { dst := some 15, op := Op.fieldAddr 57 (Operand.tmp 2) 2, type := 0, pos := "moves.go:83", after := #[], guard := none }) (v := ?va5) rfl (by kernel_rfl) (by kernel_rfl) (by kernel_rfl) rfl (fun _ _ _ h => h) (Or.inl ⟨by rfl, ?ya5⟩) (fun _ => by assumption) ?ra5
  case ya5 => (intro w _; go_simp; first | done | (with_reducible rfl))
  try simp only [Act.put, List.setIfInBounds_toArray, List.set_cons_zero, List.set_cons_succ]
  refine takeW (i := 12) (oi := { dst := some 17, op := Op.fieldAddr 57 (Operand.tmp 3) 2, type := 0, pos := "moves.go:83", after := #[], guard := none }) (v := ?va6) rfl (by kernel_rfl) (by kernel_rfl) (by kernel_rfl) rfl (fun _ _ _ h => h) (Or.inl ⟨by rfl, ?ya6⟩) (fun _ => by assumption) ?ra6
  case ya6 => (intro w _; go_simp; first | done | (with_reducible rfl))
  try simp only [Act.put, List.setIfInBounds_toArray, List.set_cons_zero, List.set_cons_succ]
  refine takeL (i := 1) (oi := { dst := some 6, op := Op.load 3 (Operand.tmp 5), type := 3, pos := "moves.go:83", after := #[{ on := 0, ground := Ground.data }], guard := none }) (v := ?va7) rfl (by kernel_rfl) (by kernel_rfl) (by kernel_rfl) (by kernel_rfl) rfl (by kernel_rfl) (by kernel_rfl) (fun _ _ _ h => h) (Or.inl ⟨by rfl, ?ya7⟩) (by assumption) ?ra7
  case ya7 => (intro w hSw; (try dsimp only at hSw); go_simp; first | done | (with_reducible rfl))
  try simp only [Act.put, List.setIfInBounds_toArray, List.set_cons_zero, List.set_cons_succ]
  refine takeL (i := 3) (oi := { dst := some 8, op := Op.load 3 (Operand.tmp 7), type := 3, pos := "moves.go:83", after := #[{ on := 2, ground := Ground.data }], guard := none }) (v := ?va8) rfl (by kernel_rfl) (by kernel_rfl) (by kernel_rfl) (by kernel_rfl) rfl (by kernel_rfl) (by kernel_rfl) (fun _ _ _ h => h) (Or.inl ⟨by rfl, ?ya8⟩) (by assumption) ?ra8
  case ya8 => (intro w hSw; (try dsimp only at hSw); go_simp; first | done | (with_reducible rfl))
  try simp only [Act.put, List.setIfInBounds_toArray, List.set_cons_zero, List.set_cons_succ]
  refine takeL (i := 6) (oi := { dst := some 11, op := Op.load 3 (Operand.tmp 10), type := 3, pos := "moves.go:83", after := #[{ on := 5, ground := Ground.data }], guard := none }) (v := ?va9) rfl (by kernel_rfl) (by kernel_rfl) (by kernel_rfl) (by kernel_rfl) rfl (by kernel_rfl) (by kernel_rfl) (fun _ _ _ h => h) (Or.inl ⟨by rfl, ?ya9⟩) (by assumption) ?ra9
  case ya9 => (intro w hSw; (try dsimp only at hSw); go_simp; first | done | (with_reducible rfl))
  try simp only [Act.put, List.setIfInBounds_toArray, List.set_cons_zero, List.set_cons_succ]
  refine takeL (i := 8) (oi := { dst := some 13, op := Op.load 3 (Operand.tmp 12), type := 3, pos := "moves.go:83", after := #[{ on := 7, ground := Ground.data }], guard := none }) (v := ?va10) rfl (by kernel_rfl) (by kernel_rfl) (by kernel_rfl) (by kernel_rfl) rfl (by kernel_rfl) (by kernel_rfl) (fun _ _ _ h => h) (Or.inl ⟨by rfl, ?ya10⟩) (by assumption) ?ra10
  case ya10 => (intro w hSw; (try dsimp only at hSw); go_simp; first | done | (with_reducible rfl))
  try simp only [Act.put, List.setIfInBounds_toArray, List.set_cons_zero, List.set_cons_succ]
  refine takeL (i := 11) (oi := { dst := some 16, op := Op.load 3 (Operand.tmp 15), type := 3, pos := "moves.go:83", after := #[{ on := 10, ground := Ground.data }], guard := none }) (v := ?va11) rfl (by kernel_rfl) (by kernel_rfl) (by kernel_rfl) (by kernel_rfl) rfl (by kernel_rfl) (by kernel_rfl) (fun _ _ _ h => h) (Or.inl ⟨by rfl, ?ya11⟩) (by assumption) ?ra11
  case ya11 => (intro w hSw; (try dsimp only at hSw); go_simp; first | done | (with_reducible rfl))
  try simp only [Act.put, List.setIfInBounds_toArray, List.set_cons_zero, List.set_cons_succ]
  refine takeL (i := 13) (oi := { dst := some 18, op := Op.load 3 (Operand.tmp 17), type := 3, pos := "moves.go:83", after := #[{ on := 12, ground := Ground.data }], guard := none }) (v := ?va12) rfl (by kernel_rfl) (by kernel_rfl) (by kernel_rfl) (by kernel_rfl) rfl (by kernel_rfl) (by kernel_rfl) (fun _ _ _ h => h) (Or.inl ⟨by rfl, ?ya12⟩) (by assumption) ?ra12
  case ya12 => (intro w hSw; (try dsimp only at hSw); go_simp; first | done | (with_reducible rfl))
  try simp only [Act.put, List.setIfInBounds_toArray, List.set_cons_zero, List.set_cons_succ]
  refine readyL (rs := [4]) (by kernel_rfl) (by simp) ?_
  refine (AllReadyL.cons (o := { dst := some 9, op := Op.call { callee := Callee.value (Operand.func 63), args := #[Operand.tmp 6, Operand.tmp 8], argTypes := #[3, 3] }, type := 3, pos := "moves.go:83", after := #[{ on := 1, ground := Ground.data }, { on := 3, ground := Ground.data }], guard := none }) rfl (fun K hK => ?_) AllReadyL.nil)
  go_simp
  refine (compare_any _ _ _).mono ?_
  rintro e w' ⟨rfl, rfl⟩
  refine hK.out _ _ ⟨Bx.cell 0 rfl, Bx.cell 1 rfl, Bx.cell 2 rfl, By.cell 0 rfl, By.cell 1 rfl, By.cell 2 rfl⟩ (fun hHeld => ?_)
  clear hK K
  try simp only [Act.put, List.setIfInBounds_toArray, List.set_cons_zero, List.set_cons_succ]
  refine readyL (rs := [9]) (by kernel_rfl) (by simp) ?_
  refine (AllReadyL.cons (o := { dst := some 14, op := Op.call { callee := Callee.value (Operand.func 63), args := #[Operand.tmp 11, Operand.tmp 13], argTypes := #[3, 3] }, type := 3, pos := "moves.go:83", after := #[{ on := 6, ground := Ground.data }, { on := 8, ground := Ground.data }, { on := 4, ground := Ground.chain }], guard := none }) rfl (fun K hK => ?_) AllReadyL.nil)
  go_simp
  refine (compare_any _ _ _).mono ?_
  rintro e w' ⟨rfl, rfl⟩
  refine hK.out _ _ ⟨Bx.cell 0 rfl, Bx.cell 1 rfl, Bx.cell 2 rfl, By.cell 0 rfl, By.cell 1 rfl, By.cell 2 rfl⟩ (fun hHeld => ?_)
  clear hK K
  try simp only [Act.put, List.setIfInBounds_toArray, List.set_cons_zero, List.set_cons_succ]
  refine readyL (rs := [14]) (by kernel_rfl) (by simp) ?_
  refine (AllReadyL.cons (o := { dst := some 19, op := Op.call { callee := Callee.value (Operand.func 63), args := #[Operand.tmp 16, Operand.tmp 18], argTypes := #[3, 3] }, type := 3, pos := "moves.go:83", after := #[{ on := 11, ground := Ground.data }, { on := 13, ground := Ground.data }, { on := 9, ground := Ground.chain }], guard := none }) rfl (fun K hK => ?_) AllReadyL.nil)
  go_simp
  refine (compare_any _ _ _).mono ?_
  rintro e w' ⟨rfl, rfl⟩
  refine hK.out _ _ ⟨Bx.cell 0 rfl, Bx.cell 1 rfl, Bx.cell 2 rfl, By.cell 0 rfl, By.cell 1 rfl, By.cell 2 rfl⟩ (fun hHeld => ?_)
  clear hK K
  try simp only [Act.put, List.setIfInBounds_toArray, List.set_cons_zero, List.set_cons_succ]
  refine readyL (rs := [15]) (by kernel_rfl) (by simp) ?_
  refine (AllReadyL.cons (o := { dst := some 20, op := Op.buildSlice 23 3 #[(0, Operand.tmp 9), (1, Operand.tmp 14), (2, Operand.tmp 19)], type := 23, pos := "moves.go:83", after := #[{ on := 4, ground := Ground.data }, { on := 9, ground := Ground.data }, { on := 14, ground := Ground.data }], guard := none }) rfl (fun K hK => ?_) AllReadyL.nil)
  go_simp
  refine K_world' ?_
  intro w9 e9
  have Bx9 : Box w9 W.heap.size [.int .i64 x.src, .int .i64 x.dst, .int .i64 x.piece] 57 := by rw [e9]; exact Bx.alloc _
  have By9 : Box w9 (W.heap.size + 1) [.int .i64 y.src, .int .i64 y.dst, .int .i64 y.piece] 57 := by rw [e9]; exact By.alloc _
  have HR9 := Lib.hid (read3 e9)
  have E9 := Lib.hid e9
  clear e9
  refine hK.out _ _ ⟨Bx9.cell 0 rfl, Bx9.cell 1 rfl, Bx9.cell 2 rfl, By9.cell 0 rfl, By9.cell 1 rfl, By9.cell 2 rfl⟩ (fun hHeld => ?_)
  clear hK K
  try simp only [Act.put, List.setIfInBounds_toArray, List.set_cons_zero, List.set_cons_succ]
  refine readyL (rs := [16]) (by kernel_rfl) (by simp) ?_
  refine (AllReadyL.cons (o := { dst := some 21, op := Op.call { callee := Callee.value (Operand.func 62), args := #[Operand.tmp 20], argTypes := #[23] }, type := 3, pos := "moves.go:83", after := #[{ on := 15, ground := Ground.data }, { on := 14, ground := Ground.chain }], guard := none }) rfl (fun K hK => ?_) AllReadyL.nil)
  go_simp
  refine (or_any _ _ _ HR9.out (by simp)).mono ?_
  rintro e w' ⟨rfl, rfl⟩
  refine hK.out _ _ ⟨Bx9.cell 0 rfl, Bx9.cell 1 rfl, Bx9.cell 2 rfl, By9.cell 0 rfl, By9.cell 1 rfl, By9.cell 2 rfl⟩ (fun hHeld => ?_)
  clear hK K
  try simp only [Act.put, List.setIfInBounds_toArray, List.set_cons_zero, List.set_cons_succ]
  refine takeW (i := 17) (oi := { dst := some 4, op := Op.assign (Operand.tmp 21), type := 3, pos := "moves.go:83", after := #[{ on := 16, ground := Ground.data }, { on := 16, ground := Ground.chain }, { on := 0, ground := Ground.phase }, { on := 1, ground := Ground.phase }, { on := 2, ground := Ground.phase }, { on := 3, ground := Ground.phase }, { on := 4, ground := Ground.phase }, { on := 5, ground := Ground.phase }, { on := 6, ground := Ground.phase }, { on := 7, ground := Ground.phase }, { on := 8, ground := Ground.phase }, { on := 9, ground := Ground.phase }, { on := 10, ground := Ground.phase }, { on := 11, ground := Ground.phase }, { on := 12, ground := Ground.phase }, { on := 13, ground := Ground.phase }, { on := 14, ground := Ground.phase }, { on := 15, ground := Ground.phase }, { on := 16, ground := Ground.phase }], guard := none }) (v := ?va13) rfl (by kernel_rfl) (by kernel_rfl) (by kernel_rfl) rfl (fun _ _ _ h => h) (Or.inl ⟨by rfl, ?ya13⟩) (fun _ => by assumption) ?ra13
  case ya13 => (intro w _; go_simp; first | done | (with_reducible rfl))
  try simp only [Act.put, List.setIfInBounds_toArray, List.set_cons_zero, List.set_cons_succ]
  refine doneL (by kernel_rfl) ?_ _
  refine NoPanic.normal ?_
  go_wp2_with fail
  go_ret
  exact ⟨rfl, 1, #[.cells #[.int .i64 x.src, .int .i64 x.dst, .int .i64 x.piece] 57, .cells #[.int .i64 y.src, .int .i64 y.dst, .int .i64 y.piece] 57, .cells #[.int .i64 (cmpZ x.src y.src), .int .i64 (cmpZ x.dst y.dst), .int .i64 (cmpZ x.piece y.piece)] 3], by rw [E9.out, HW.out, grow3]⟩

end Go.Proofs.Ytnieifdogllbfaa

/- standing.order: rows of a table compared. -/
import Derived.Test.YtjgnjahnfglbaaaStB
import Derived.Test.YtjgnjahnfglbaaaStP
import Derived.Test.YtjgnjahnfglbaaaBox
import Derived.Test.YtjgnjahnfglbaaaHeldL
import Derived.Deep.Cut
import Derived.Shelf.SlSortCmp.KitK
namespace Go.Proofs.Ytjgnjahnfglbaaa
open Go.ChangeShapes Go.WideShapes Go.ChangeAt Go.RowKit
set_option linter.unusedVariables false

theorem cells_rd {w : World} {a : Option Addr} {c : Nat} {zs : List Int} (h : RdI w (.slice a zs.length c) zs) (hn : 0 < zs.length) : ∃ g o, a = some ⟨g, o, none⟩ ∧ ∀ i, i < zs.length → w.cell? ⟨g, o + i, none⟩ = some (.int .i64 (zs.getD i 0)) := by
  obtain ⟨g, o, c', e, _, _, _, h4⟩ := h.some hn
  simp only [Value.slice.injEq] at e
  exact ⟨g, o, e.1, h4⟩

def cmpZ (a b : Int) : Int := if a < b then -1 else if b < a then 1 else 0
def orZ : List Int → Int
  | [] => 0
  | x :: t => if x = 0 then orZ t else x
theorem isNaN_any (x : Int) (w : World) : Calls Try.prog 23 #[.int .i64 x] w fun e w' => e = .returned (.bool false) ∧ w = w' := by
  go_enter Try.func23, Try.ntmps23
  go_wp2
  go_ret
  exact ⟨by simp, rfl⟩
theorem compare_any (x y : Int) (w : World) : Calls Try.prog 18 #[.int .i64 x, .int .i64 y] w fun e w' => e = .returned (.int .i64 (cmpZ x y)) ∧ w = w' := by
  by_cases h1 : x < y
  · have HE : Hid (cmpZ x y = -1) := Lib.hid (by unfold cmpZ; rw [if_pos h1])
    go_enter Try.func18, Try.ntmps18
    go_wp2_with (go_at_call 23; refine (isNaN_any _ _).mono ?_; rintro e w' ⟨rfl, rfl⟩)
    go_ret
    exact ⟨by rw [HE.out]; rfl, rfl⟩
  · by_cases h2 : y < x
    · have HE : Hid (cmpZ x y = 1) := Lib.hid (by unfold cmpZ; rw [if_neg h1, if_pos h2])
      go_enter Try.func18, Try.ntmps18
      go_wp2_with (go_at_call 23; refine (isNaN_any _ _).mono ?_; rintro e w' ⟨rfl, rfl⟩)
      go_ret
      exact ⟨by rw [HE.out]; rfl, rfl⟩
    · have HE : Hid (cmpZ x y = 0) := Lib.hid (by unfold cmpZ; rw [if_neg h1, if_neg h2])
      go_enter Try.func18, Try.ntmps18
      go_wp2_with (go_at_call 23; refine (isNaN_any _ _).mono ?_; rintro e w' ⟨rfl, rfl⟩)
      go_ret
      exact ⟨by rw [HE.out]; rfl, rfl⟩
theorem orZ_at (zs : List Int) (k : Nat) (h : k < zs.length) : orZ (zs.drop k) = if zs.getD k 0 = 0 then orZ (zs.drop (k + 1)) else zs.getD k 0 := by
  rw [List.drop_eq_getElem_cons h, orZ, List.getD_eq_getElem?_getD, List.getElem?_eq_getElem h]; rfl
theorem or_any (v : Value) (zs : List Int) (w : World) (h : RdI w v zs) (hl : zs.length ≤ 1000000) : Calls Try.prog 17 #[v] w fun e w' => e = .returned (.int .i64 (orZ zs)) ∧ w = w' := by
  have HR := Lib.hid h
  obtain ⟨a, c, rfl, h1, h2⟩ := h.form
  unfold maxLen at h2
  have H0 : Hid (orZ zs = orZ (zs.drop 0)) := Lib.hid rfl
  clear h
  go_enter Try.func17, Try.ntmps17
  go_wp2
  go_loop [8] (fun i => ∃ k : Nat, k ≤ zs.length ∧ i = .int .i64 k ∧ Hid (orZ zs = orZ (zs.drop k))) (fun i => zs.length - (intOf i).toNat)
  case atStart => exact ⟨0, Nat.zero_le _, rfl, H0⟩
  case round =>
    obtain ⟨k, hk, rfl, HK⟩ := hrel
    by_cases hlt : k < zs.length
    · obtain ⟨g, o, rfl, hcell⟩ := cells_rd HR.out (by omega)
      have hc := hcell k hlt
      have HS := Lib.hid (orZ_at zs k hlt)
      clear hcell
      generalize zs.getD k 0 = z at *
      by_cases hz : z = 0
      · subst hz
        go_wp2_with fail
        go_round
        case rel => exact ⟨k + 1, by omega, by go_num, Lib.hid (by rw [HK.out, HS.out, if_pos rfl])⟩
        case measure => simp [intOf]; omega
      · have hz' : (z != 0) = true := by simpa using hz
        have HE : Hid (orZ zs = z) := Lib.hid (by rw [HK.out, HS.out, if_neg hz])
        clear hz
        go_wp2_with fail
        go_ret
        exact ⟨by rw [HE.out]; rfl, rfl⟩
    · have HE : Hid (orZ zs = 0) := Lib.hid (by rw [HK.out, List.drop_of_length_le (by omega)]; rfl)
      go_wp2_with fail
      go_ret
      exact ⟨by rw [HE.out]; rfl, rfl⟩
theorem grow3 (W : World) (a b c : Obj) : (((W.alloc a).alloc b).alloc c).drew = Sort.grow (W.drewN 1) #[a, b, c] := by
  rw [Sort.alloc_eq_grow, Sort.alloc_eq_grow, Sort.alloc_eq_grow, Sort.grow_grow, Sort.grow_grow, Sort.drew_grow]; rfl
theorem K_world' {w : World} {p : World → Prop} (h : ∀ w', w' = w → p w') : p w := h w rfl

/-- lists of one length, compared. -/
def cmpL : List Int → List Int → Int
  | a :: s, b :: t => if cmpZ a b = 0 then cmpL s t else cmpZ a b
  | _, _ => 0
theorem cmpL_step (xs ys : List Int) (k : Nat) (hl : xs.length = ys.length) (hk : k < xs.length) : cmpL (xs.drop k) (ys.drop k) = if cmpZ (xs.getD k 0) (ys.getD k 0) = 0 then cmpL (xs.drop (k + 1)) (ys.drop (k + 1)) else cmpZ (xs.getD k 0) (ys.getD k 0) := by
  rw [List.drop_eq_getElem_cons hk, List.drop_eq_getElem_cons (show k < ys.length by omega), cmpL]
  simp [List.getD, hk, show k < ys.length by omega]
theorem Compare_any (v1 v2 : Value) (xs ys : List Int) (w : World) (h1 : RdI w v1 xs) (h2 : RdI w v2 ys) (hl : ys.length = xs.length) :
    Calls Try.prog 19 #[v1, v2] w fun e w' => e = .returned (.int .i64 (cmpL xs ys)) ∧ w = w' := by
  obtain ⟨a, c, rfl, q1, q2⟩ := h1.form
  obtain ⟨a', c', hv, q3, q4⟩ := h2.form
  rw [hl] at hv q3
  subst hv
  unfold maxLen at q2 q4
  have HX := Lib.hid h1
  have HY := Lib.hid h2
  have HL := Lib.hid hl
  clear h1 h2 hl
  go_enter Try.func19, Try.ntmps19
  go_wp2_with fail
  go_loop [11] (fun i => ∃ k : Nat, k ≤ xs.length ∧ i = .int .i64 k ∧ Hid (cmpL xs ys = cmpL (xs.drop k) (ys.drop k))) (fun i => xs.length - (intOf i).toNat)
  case atStart => exact ⟨0, Nat.zero_le _, rfl, Lib.hid rfl⟩
  case round =>
    obtain ⟨k, hk, rfl, HK⟩ := hrel
    by_cases hlt : k < xs.length
    · obtain ⟨g, o, c1, he, _, _, _, hcell⟩ := HX.out.some (by omega)
      simp only [Value.slice.injEq] at he
      obtain ⟨rfl, _, rfl⟩ := he
      obtain ⟨g', o', c2, he, _, _, _, hcell'⟩ := HY.out.some (by rw [HL.out]; omega)
      rw [HL.out] at he
      simp only [Value.slice.injEq] at he
      obtain ⟨rfl, _, rfl⟩ := he
      have ck := hcell k hlt
      have ck' := hcell' k (by rw [HL.out]; exact hlt)
      have hlz : (k : Int) < xs.length := by omega
      have HS := Lib.hid (cmpL_step xs ys k HL.out.symm hlt)
      clear hcell hcell'
      generalize xs.getD k 0 = x at *
      generalize ys.getD k 0 = y at *
      by_cases hz : cmpZ x y = 0
      · have HS2 := Lib.hid (show cmpL xs ys = cmpL (xs.drop (k + 1)) (ys.drop (k + 1)) by rw [HK.out, HS.out, if_pos hz])
        go_wp2_with (refine (compare_any _ _ _).mono ?_; rintro e w' ⟨rfl, rfl⟩)
        go_round
        case rel => exact ⟨k + 1, by omega, by go_num, HS2⟩
        case measure => simp [intOf]; omega
      · have HS2 := Lib.hid (show cmpL xs ys = cmpZ x y by rw [HK.out, HS.out, if_neg hz])
        go_wp2_with (refine (compare_any _ _ _).mono ?_; rintro e w' ⟨rfl, rfl⟩)
        go_ret
        exact ⟨by rw [HS2.out]; rfl, rfl⟩
    · obtain rfl : k = xs.length := by omega
      have HE := Lib.hid (show cmpL xs ys = 0 by rw [HK.out, List.drop_length, cmpL]; intro a s b t h; cases h)
      go_wp2_with fail
      go_ret
      exact ⟨by rw [HE.out]; rfl, rfl⟩


/-! ### rows -/
structure RowZ where
  pl : Int
  pts : Int
  b0 : Int
  b1 : Int
  b2 : Int
  b3 : Int
  fr : Int
  to : Int
deriving Inhabited
def encR (r : RowZ) : List Value := [.int .i64 r.pl, .int .i64 r.pts, .int .i64 r.b0, .int .i64 r.b1, .int .i64 r.b2, .int .i64 r.b3, .int .i64 r.fr, .int .i64 r.to]
def cfR (x y : RowZ) : Int := orZ [cmpZ y.pts x.pts, cmpL [y.b0, y.b1, y.b2, y.b3] [x.b0, x.b1, x.b2, x.b3]]
theorem rd_mid {w : World} {b : Nat} {v0 v1 v6 v7 : Value} {b0 b1 b2 b3 : Int} {t : TypeId} (h : Box w b [v0, v1, .int .i64 b0, .int .i64 b1, .int .i64 b2, .int .i64 b3, v6, v7] t) : RdI w (.slice (some ⟨b, 2, none⟩) 4 4) [b0, b1, b2, b3] := by
  refine ⟨rfl, .inr ⟨b, 2, 4, rfl, Nat.le_refl _, by unfold maxLen; decide, fun i hi => ?_⟩⟩
  have hi' : i = 0 ∨ i = 1 ∨ i = 2 ∨ i = 3 := by simp at hi; omega
  rcases hi' with rfl | rfl | rfl | rfl
  · exact h.cell 2 rfl
  · exact h.cell 3 rfl
  · exact h.cell 4 rfl
  · exact h.cell 5 rfl
theorem read2 {w w' : World} {x y : Int} (h : w' = (w.alloc (.cells #[.int .i64 x, .int .i64 y] 3)).drew) : RdI w' (.slice (some ⟨w.heap.size, 0, none⟩) 2 2) [x, y] := by
  subst h
  refine ⟨rfl, .inr ⟨w.heap.size, 0, 2, rfl, Nat.le_refl _, by unfold maxLen; decide, fun i hi => ?_⟩⟩
  have hi' : i = 0 ∨ i = 1 := by simp at hi; omega
  have hb := Box.new w [.int .i64 x, .int .i64 y] 3
  have hb' : Box (w.alloc (.cells #[.int .i64 x, .int .i64 y] 3)).drew w.heap.size [.int .i64 x, .int .i64 y] 3 := hb
  rcases hi' with rfl | rfl
  · exact hb'.cell 0 rfl
  · exact hb'.cell 1 rfl

set_option maxRecDepth 100000 in
set_option maxHeartbeats 1000000 in
theorem order_any (x y : RowZ) (W : World) : Calls Try.prog 12 #[.agg (encR x).toArray, .agg (encR y).toArray] W fun e w' => e = .returned (.int .i64 (cfR x y)) ∧ ∃ q os', w' = Sort.grow (W.drewN q) os' := by
  have HO : Hid (cfR x y = orZ [cmpZ y.pts x.pts, cmpL [y.b0, y.b1, y.b2, y.b3] [x.b0, x.b1, x.b2, x.b3]]) := Lib.hid rfl
  unfold encR
  go_enter Try.func12, Try.ntmps12
  go_upto_region 1 with (fail)
  have bx := (Box.new W [.int .i64 x.pl, .int .i64 x.pts, .int .i64 x.b0, .int .i64 x.b1, .int .i64 x.b2, .int .i64 x.b3, .int .i64 x.fr, .int .i64 x.to] 30).alloc (.cells #[.int .i64 y.pl, .int .i64 y.pts, .int .i64 y.b0, .int .i64 y.b1, .int .i64 y.b2, .int .i64 y.b3, .int .i64 y.fr, .int .i64 y.to] 30)
  have by' : Box ((W.alloc (.cells #[.int .i64 x.pl, .int .i64 x.pts, .int .i64 x.b0, .int .i64 x.b1, .int .i64 x.b2, .int .i64 x.b3, .int .i64 x.fr, .int .i64 x.to] 30)).alloc (.cells #[.int .i64 y.pl, .int .i64 y.pts, .int .i64 y.b0, .int .i64 y.b1, .int .i64 y.b2, .int .i64 y.b3, .int .i64 y.fr, .int .i64 y.to] 30)) (W.heap.size + 1) [.int .i64 y.pl, .int .i64 y.pts, .int .i64 y.b0, .int .i64 y.b1, .int .i64 y.b2, .int .i64 y.b3, .int .i64 y.fr, .int .i64 y.to] 30 := by
    have := Box.new (W.alloc (.cells #[.int .i64 x.pl, .int .i64 x.pts, .int .i64 x.b0, .int .i64 x.b1, .int .i64 x.b2, .int .i64 x.b3, .int .i64 x.fr, .int .i64 x.to] 30)) [.int .i64 y.pl, .int .i64 y.pts, .int .i64 y.b0, .int .i64 y.b1, .int .i64 y.b2, .int .i64 y.b3, .int .i64 y.fr, .int .i64 y.to] 30
    rw [World.size_alloc] at this
    exact this
  generalize hw0 : ((W.alloc (.cells #[.int .i64 x.pl, .int .i64 x.pts, .int .i64 x.b0, .int .i64 x.b1, .int .i64 x.b2, .int .i64 x.b3, .int .i64 x.fr, .int .i64 x.to] 30)).alloc (.cells #[.int .i64 y.pl, .int .i64 y.pts, .int .i64 y.b0, .int .i64 y.b1, .int .i64 y.b2, .int .i64 y.b3, .int .i64 y.fr, .int .i64 y.to] 30)) = w0 at bx by' ⊢
  have HW := Lib.hid hw0.symm
  clear hw0
  have Bx : Box w0.drew W.heap.size [.int .i64 x.pl, .int .i64 x.pts, .int .i64 x.b0, .int .i64 x.b1, .int .i64 x.b2, .int .i64 x.b3, .int .i64 x.fr, .int .i64 x.to] 30 := bx
  have By : Box w0.drew (W.heap.size + 1) [.int .i64 y.pl, .int .i64 y.pts, .int .i64 y.b0, .int .i64 y.b1, .int .i64 y.b2, .int .i64 y.b3, .int .i64 y.fr, .int .i64 y.to] 30 := by'
  clear bx by'
  refine wp_region_noPanic ?_
  refine beginL (S := (fun w' => w'.cell? ⟨W.heap.size, 1, none⟩ = some (.int .i64 x.pts) ∧ w'.cell? ⟨W.heap.size + 1, 1, none⟩ = some (.int .i64 y.pts))) (L := []) (by kernel_rfl) ⟨Bx.cell 1 rfl, By.cell 1 rfl⟩ (fun hHeld => ?_)
  refine takeW (i := 0) (oi := { dst := some 5, op := Op.fieldAddr 30 (Operand.tmp 3) 1, type := 0, pos := "standing.go:89", after := #[], guard := none }) (v := ?va1) rfl (by kernel_rfl) (by kernel_rfl) (by kernel_rfl) rfl (fun _ _ _ h => h) (Or.inl ⟨by rfl, ?ya1⟩) (fun _ => by assumption) ?ra1
  case ya1 => (intro w _; go_simp; first | done | (with_reducible rfl) | (rw [if_neg (by omega)]))
  try simp only [Act.put, List.setIfInBounds_toArray, List.set_cons_zero, List.set_cons_succ]
  refine takeW (i := 2) (oi := { dst := some 7, op := Op.fieldAddr 30 (Operand.tmp 2) 1, type := 0, pos := "standing.go:89", after := #[], guard := none }) (v := ?va2) rfl (by kernel_rfl) (by kernel_rfl) (by kernel_rfl) rfl (fun _ _ _ h => h) (Or.inl ⟨by rfl, ?ya2⟩) (fun _ => by assumption) ?ra2
  case ya2 => (intro w _; go_simp; first | done | (with_reducible rfl) | (rw [if_neg (by omega)]))
  try simp only [Act.put, List.setIfInBounds_toArray, List.set_cons_zero, List.set_cons_succ]
  refine takeW (i := 5) (oi := { dst := some 10, op := Op.fieldAddr 30 (Operand.tmp 3) 2, type := 0, pos := "standing.go:89", after := #[], guard := none }) (v := ?va3) rfl (by kernel_rfl) (by kernel_rfl) (by kernel_rfl) rfl (fun _ _ _ h => h) (Or.inl ⟨by rfl, ?ya3⟩) (fun _ => by assumption) ?ra3
  case ya3 => (intro w _; go_simp; first | done | (with_reducible rfl) | (rw [if_neg (by omega)]))
  try simp only [Act.put, List.setIfInBounds_toArray, List.set_cons_zero, List.set_cons_succ]
  refine takeW (i := 7) (oi := { dst := some 12, op := Op.fieldAddr 30 (Operand.tmp 2) 2, type := 0, pos := "standing.go:89", after := #[], guard := none }) (v := ?va4) rfl (by kernel_rfl) (by kernel_rfl) (by kernel_rfl) rfl (fun _ _ _ h => h) (Or.inl ⟨by rfl, ?ya4⟩) (fun _ => by assumption) ?ra4
  case ya4 => (intro w _; go_simp; first | done | (with_reducible rfl) | (rw [if_neg (by omega)]))
  try simp only [Act.put, List.setIfInBounds_toArray, List.set_cons_zero, List.set_cons_succ]
  refine takeL (i := 1) (oi := { dst := some 6, op := Op.load 3 (Operand.tmp 5), type := 3, pos := "standing.go:89", after := #[{ on := 0, ground := Ground.data }], guard := none }) (v := ?va5) rfl (by kernel_rfl) (by kernel_rfl) (by kernel_rfl) (by kernel_rfl) rfl (by kernel_rfl) (by kernel_rfl) (fun _ _ _ h => h) (Or.inl ⟨by rfl, ?ya5⟩) (by assumption) ?ra5
  case ya5 => (intro w hSw; (try dsimp only at hSw); go_simp; first | done | (with_reducible rfl))
  try simp only [Act.put, List.setIfInBounds_toArray, List.set_cons_zero, List.set_cons_succ]
  refine takeL (i := 3) (oi := { dst := some 8, op := Op.load 3 (Operand.tmp 7), type := 3, pos := "standing.go:89", after := #[{ on := 2, ground := Ground.data }], guard := none }) (v := ?va6) rfl (by kernel_rfl) (by kernel_rfl) (by kernel_rfl) (by kernel_rfl) rfl (by kernel_rfl) (by kernel_rfl) (fun _ _ _ h => h) (Or.inl ⟨by rfl, ?ya6⟩) (by assumption) ?ra6
  case ya6 => (intro w hSw; (try dsimp only at hSw); go_simp; first | done | (with_reducible rfl))
  try simp only [Act.put, List.setIfInBounds_toArray, List.set_cons_zero, List.set_cons_succ]
  refine takeW (i := 6) (oi := { dst := some 11, op := Op.slice 28 (Operand.tmp 10) none none none, type := 32, pos := "standing.go:89", after := #[{ on := 5, ground := Ground.data }], guard := none }) (v := ?va7) rfl (by kernel_rfl) (by kernel_rfl) (by kernel_rfl) rfl (fun _ _ _ h => h) (Or.inl ⟨by rfl, ?ya7⟩) (fun _ => by assumption) ?ra7
  case ya7 => (intro w _; go_simp; first | done | (with_reducible rfl) | (rw [if_neg (by omega)]))
  try simp only [Act.put, List.setIfInBounds_toArray, List.set_cons_zero, List.set_cons_succ]
  refine takeW (i := 8) (oi := { dst := some 13, op := Op.slice 28 (Operand.tmp 12) none none none, type := 32, pos := "standing.go:89", after := #[{ on := 7, ground := Ground.data }], guard := none }) (v := ?va8) rfl (by kernel_rfl) (by kernel_rfl) (by kernel_rfl) rfl (fun _ _ _ h => h) (Or.inl ⟨by rfl, ?ya8⟩) (fun _ => by assumption) ?ra8
  case ya8 => (intro w _; go_simp; first | done | (with_reducible rfl) | (rw [if_neg (by omega)]))
  try simp only [Act.put, List.setIfInBounds_toArray, List.set_cons_zero, List.set_cons_succ]
  refine readyL (rs := [4]) (by kernel_rfl) (by simp) ?_
  refine (AllReadyL.cons (o := { dst := some 9, op := Op.call { callee := Callee.value (Operand.func 18), args := #[Operand.tmp 6, Operand.tmp 8], argTypes := #[3, 3] }, type := 3, pos := "standing.go:89", after := #[{ on := 1, ground := Ground.data }, { on := 3, ground := Ground.data }], guard := none }) rfl (fun K hK => ?_) AllReadyL.nil)
  go_simp
  refine (compare_any _ _ _).mono ?_
  rintro e w' ⟨rfl, rfl⟩
  refine hK.out _ _ ⟨Bx.cell 1 rfl, By.cell 1 rfl⟩ (fun hHeld => ?_)
  clear hK K
  try simp only [Act.put, List.setIfInBounds_toArray, List.set_cons_zero, List.set_cons_succ]
  refine readyL (rs := [9]) (by kernel_rfl) (by simp) ?_
  refine (AllReadyL.cons (o := { dst := some 14, op := Op.call { callee := Callee.value (Operand.func 19), args := #[Operand.tmp 11, Operand.tmp 13], argTypes := #[32, 32] }, type := 3, pos := "standing.go:89", after := #[{ on := 6, ground := Ground.data }, { on := 8, ground := Ground.data }, { on := 4, ground := Ground.chain }], guard := none }) rfl (fun K hK => ?_) AllReadyL.nil)
  go_simp
  refine (Compare_any _ _ _ _ _ (rd_mid By) (rd_mid Bx) rfl).mono ?_
  rintro e w' ⟨rfl, rfl⟩
  refine hK.out _ _ ⟨Bx.cell 1 rfl, By.cell 1 rfl⟩ (fun hHeld => ?_)
  clear hK K
  try simp only [Act.put, List.setIfInBounds_toArray, List.set_cons_zero, List.set_cons_succ]
  refine readyL (rs := [10]) (by kernel_rfl) (by simp) ?_
  refine (AllReadyL.cons (o := { dst := some 15, op := Op.buildSlice 32 2 #[(0, Operand.tmp 9), (1, Operand.tmp 14)], type := 32, pos := "standing.go:89", after := #[{ on := 4, ground := Ground.data }, { on := 9, ground := Ground.data }], guard := none }) rfl (fun K hK => ?_) AllReadyL.nil)
  go_simp
  refine K_world' ?_
  intro w9 e9
  have Bx9 : Box w9 W.heap.size [.int .i64 x.pl, .int .i64 x.pts, .int .i64 x.b0, .int .i64 x.b1, .int .i64 x.b2, .int .i64 x.b3, .int .i64 x.fr, .int .i64 x.to] 30 := by rw [e9]; exact Bx.alloc _
  have By9 : Box w9 (W.heap.size + 1) [.int .i64 y.pl, .int .i64 y.pts, .int .i64 y.b0, .int .i64 y.b1, .int .i64 y.b2, .int .i64 y.b3, .int .i64 y.fr, .int .i64 y.to] 30 := by rw [e9]; exact By.alloc _
  have HR9 := Lib.hid (read2 e9)
  have E9 := Lib.hid e9
  clear e9
  refine hK.out _ _ ⟨Bx9.cell 1 rfl, By9.cell 1 rfl⟩ (fun hHeld => ?_)
  clear hK K
  try simp only [Act.put, List.setIfInBounds_toArray, List.set_cons_zero, List.set_cons_succ]
  refine readyL (rs := [11]) (by kernel_rfl) (by simp) ?_
  refine (AllReadyL.cons (o := { dst := some 16, op := Op.call { callee := Callee.value (Operand.func 17), args := #[Operand.tmp 15], argTypes := #[32] }, type := 3, pos := "standing.go:89", after := #[{ on := 10, ground := Ground.data }, { on := 9, ground := Ground.chain }], guard := none }) rfl (fun K hK => ?_) AllReadyL.nil)
  go_simp
  refine (or_any _ _ _ HR9.out (by simp)).mono ?_
  rintro e w' ⟨rfl, rfl⟩
  refine hK.out _ _ ⟨Bx9.cell 1 rfl, By9.cell 1 rfl⟩ (fun hHeld => ?_)
  clear hK K
  try simp only [Act.put, List.setIfInBounds_toArray, List.set_cons_zero, List.set_cons_succ]
  refine takeW (i := 12) (oi := { dst := some 4, op := Op.assign (Operand.tmp 16), type := 3, pos := "standing.go:89", after := #[{ on := 11, ground := Ground.data }, { on := 11, ground := Ground.chain }, { on := 0, ground := Ground.phase }, { on := 1, ground := Ground.phase }, { on := 2, ground := Ground.phase }, { on := 3, ground := Ground.phase }, { on := 4, ground := Ground.phase }, { on := 5, ground := Ground.phase }, { on := 6, ground := Ground.phase }, { on := 7, ground := Ground.phase }, { on := 8, ground := Ground.phase }, { on := 9, ground := Ground.phase }, { on := 10, ground := Ground.phase }, { on := 11, ground := Ground.phase }], guard := none }) (v := ?va9) rfl (by kernel_rfl) (by kernel_rfl) (by kernel_rfl) rfl (fun _ _ _ h => h) (Or.inl ⟨by rfl, ?ya9⟩) (fun _ => by assumption) ?ra9
  case ya9 => (intro w _; go_simp; first | done | (with_reducible rfl) | (rw [if_neg (by omega)]))
  try simp only [Act.put, List.setIfInBounds_toArray, List.set_cons_zero, List.set_cons_succ]
  refine doneL (by kernel_rfl) ?_ _
  refine NoPanic.normal ?_
  go_wp2_with fail
  go_ret
  exact ⟨rfl, 1, #[.cells #[.int .i64 x.pl, .int .i64 x.pts, .int .i64 x.b0, .int .i64 x.b1, .int .i64 x.b2, .int .i64 x.b3, .int .i64 x.fr, .int .i64 x.to] 30, .cells #[.int .i64 y.pl, .int .i64 y.pts, .int .i64 y.b0, .int .i64 y.b1, .int .i64 y.b2, .int .i64 y.b3, .int .i64 y.fr, .int .i64 y.to] 30, .cells #[.int .i64 (cmpZ y.pts x.pts), .int .i64 (cmpL [y.b0, y.b1, y.b2, y.b3] [x.b0, x.b1, x.b2, x.b3])] 3], by rw [E9.out, HW.out, grow3]⟩

end Go.Proofs.Ytjgnjahnfglbaaa

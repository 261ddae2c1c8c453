/- MvC, MvK. -/
import Derived.Test.YthklhndcdijneaaGreatDoorC09
import Derived.Test.YthklhndcdijneaaGreatDoorC05
import Derived.Sort.Grow
import Derived.Lib.SliceRun
import Derived.Laws.StructEq
import Derived.Deep.MidRow
import Derived.Test.YthklhndcdijneaaGreatDoorC01
namespace Go.Proofs.YthklhndcdijneaaGreatDoor
open Go.ChangeShapes Go.WideShapes Go.ChangeAt Go.RowKit
set_option linter.unusedVariables false
def cmpZ (a b : Int) : Int := if a < b then -1 else if b < a then 1 else 0
def orZ : List Int → Int
 | [] => 0
 | x :: t => if x = 0 then orZ t else x
def ordM (a b : MoveZ) : Int := orZ [cmpZ a.src b.src, cmpZ a.dst b.dst, cmpZ a.piece b.piece]
theorem isNaN_any (x : Int) (w : World) : Calls Tryz.prog 127 #[.int .i64 x] w fun e w' => e = .returned (.bool false) ∧ w = w' := by
 go_enter Tryz.func127, Tryz.ntmps127
 go_wp2
 go_ret
 exact ⟨by simp, rfl⟩
theorem compare_any (x y : Int) (w : World) : Calls Tryz.prog 97 #[.int .i64 x, .int .i64 y] w fun e w' => e = .returned (.int .i64 (cmpZ x y)) ∧ w = w' := by
 by_cases h1 : x < y
 ·have HE : Hid (cmpZ x y = -1) := Lib.hid (by unfold cmpZ; rw [if_pos h1])
  go_enter Tryz.func97, Tryz.ntmps97
  go_wp2_with (go_at_call 127; refine (isNaN_any _ _).mono ?_; rintro e w' ⟨rfl, rfl⟩)
  go_ret
  exact ⟨by rw [HE.out]; rfl, rfl⟩
 ·by_cases h2 : y < x
  ·have HE : Hid (cmpZ x y = 1) := Lib.hid (by unfold cmpZ; rw [if_neg h1, if_pos h2])
   go_enter Tryz.func97, Tryz.ntmps97
   go_wp2_with (go_at_call 127; refine (isNaN_any _ _).mono ?_; rintro e w' ⟨rfl, rfl⟩)
   go_ret
   exact ⟨by rw [HE.out]; rfl, rfl⟩
  ·have HE : Hid (cmpZ x y = 0) := Lib.hid (by unfold cmpZ; rw [if_neg h1, if_neg h2])
   go_enter Tryz.func97, Tryz.ntmps97
   go_wp2_with (go_at_call 127; refine (isNaN_any _ _).mono ?_; rintro e w' ⟨rfl, rfl⟩)
   go_ret
   exact ⟨by rw [HE.out]; rfl, rfl⟩
theorem orZ_at (zs : List Int) (k : Nat) (h : k < zs.length) : orZ (zs.drop k) = if zs.getD k 0 = 0 then orZ (zs.drop (k + 1)) else zs.getD k 0 := by
 rw [List.drop_eq_getElem_cons h, orZ, List.getD_eq_getElem?_getD, List.getElem?_eq_getElem h]; rfl
theorem or_any (v : Value) (zs : List Int) (w : World) (h : RdI w v zs) (hl : zs.length ≤ 1000000) : Calls Tryz.prog 96 #[v] w fun e w' => e = .returned (.int .i64 (orZ zs)) ∧ w = w' := by
 have HR := Lib.hid h
 obtain ⟨a, c, rfl, h1, h2⟩ := h.form
 unfold maxLen at h2
 have H0 : Hid (orZ zs = orZ (zs.drop 0)) := Lib.hid rfl
 clear h
 go_enter Tryz.func96, Tryz.ntmps96
 go_wp2
 go_loop [8] (fun i => ∃ k : Nat, k ≤ zs.length ∧ i = .int .i64 k ∧ Hid (orZ zs = orZ (zs.drop k))) (fun i => zs.length - (intOf i).toNat)
 case atStart => exact ⟨0, Nat.zero_le _, rfl, H0⟩
 case round =>
  obtain ⟨k, hk, rfl, HK⟩ := hrel
  by_cases hlt : k < zs.length
  ·obtain ⟨g, o, rfl, hcell⟩ := cells_rd HR.out (by omega)
   have hc := hcell k hlt
   have HS := Lib.hid (orZ_at zs k hlt)
   clear hcell
   generalize zs.getD k 0 = z at *
   by_cases hz : z = 0
   ·subst hz
    go_wp2_with fail
    go_round
    case rel => exact ⟨k + 1, by omega, by go_num, Lib.hid (by rw [HK.out, HS.out, if_pos rfl])⟩
    case measure => simp [intOf]; omega
   ·have hz' : (z != 0) = true := by simpa using hz
    have HE : Hid (orZ zs = z) := Lib.hid (by rw [HK.out, HS.out, if_neg hz])
    clear hz
    go_wp2_with fail
    go_ret
    exact ⟨by rw [HE.out]; rfl, rfl⟩
  ·have HE : Hid (orZ zs = 0) := Lib.hid (by rw [HK.out, List.drop_of_length_le (by omega)]; rfl)
   go_wp2_with fail
   go_ret
   exact ⟨by rw [HE.out]; rfl, rfl⟩
theorem grow3 (W : World) (a b c : Obj) : (((W.alloc a).alloc b).alloc c).drew = Sort.grow (W.drewN 1) #[a, b, c] := by
 rw [Sort.alloc_eq_grow, Sort.alloc_eq_grow, Sort.alloc_eq_grow, Sort.grow_grow, Sort.grow_grow, Sort.drew_grow]; rfl
theorem K_world' {w : World} {p : World → Prop} (h : ∀ w', w' = w → p w') : p w := h w rfl
theorem read3 {w w' : World} {x y z : Int} (h : w' = (w.alloc (.cells #[.int .i64 x, .int .i64 y, .int .i64 z] 3)).drew) : RdI w' (.slice (some ⟨w.heap.size, 0, none⟩) 3 3) [x, y, z] := by
 subst h
 refine ⟨rfl, .inr ⟨w.heap.size, 0, 3, rfl, Nat.le_refl _, by unfold maxLen; decide, fun i hi => ?_⟩⟩
 have hi' : i = 0 ∨ i = 1 ∨ i = 2 := by simp at hi; omega
 have hb := Box.new w [.int .i64 x, .int .i64 y, .int .i64 z] 3
 have hb' : Box (w.alloc (.cells #[.int .i64 x, .int .i64 y, .int .i64 z] 3)).drew w.heap.size [.int .i64 x, .int .i64 y, .int .i64 z] 3 := hb
 rcases hi' with rfl | rfl | rfl
 ·exact hb'.cell 0 rfl
 ·exact hb'.cell 1 rfl
 ·exact hb'.cell 2 rfl
set_option maxRecDepth 100000 in
set_option maxHeartbeats 1000000 in
theorem ord_any (x y : MoveZ) (W : World) : Calls Tryz.prog 95 #[.agg #[.int .i64 x.src, .int .i64 x.dst, .int .i64 x.piece], .agg #[.int .i64 y.src, .int .i64 y.dst, .int .i64 y.piece]] W fun e w' => e = .returned (.int .i64 (ordM x y)) ∧ ∃ q os', w' = Sort.grow (W.drewN q) os' := by
 have HO : Hid (ordM x y = orZ [cmpZ x.src y.src, cmpZ x.dst y.dst, cmpZ x.piece y.piece]) := Lib.hid rfl
 go_enter Tryz.func95, Tryz.ntmps95
 go_upto_region 1 with (fail)
 have bx := (Box.new' W W.heap.size [.int .i64 x.src, .int .i64 x.dst, .int .i64 x.piece] 44 rfl).alloc (.cells #[.int .i64 y.src, .int .i64 y.dst, .int .i64 y.piece] 44)
 have by' := Box.new' (W.alloc (.cells #[.int .i64 x.src, .int .i64 x.dst, .int .i64 x.piece] 44)) (W.heap.size + 1) [.int .i64 y.src, .int .i64 y.dst, .int .i64 y.piece] 44 (by simp)
 have hW : Hid (((W.alloc (.cells #[.int .i64 x.src, .int .i64 x.dst, .int .i64 x.piece] 44)).alloc (.cells #[.int .i64 y.src, .int .i64 y.dst, .int .i64 y.piece] 44)) = ((W.alloc (.cells #[.int .i64 x.src, .int .i64 x.dst, .int .i64 x.piece] 44)).alloc (.cells #[.int .i64 y.src, .int .i64 y.dst, .int .i64 y.piece] 44))) := Lib.hid rfl
 generalize hw0 : ((W.alloc (.cells #[.int .i64 x.src, .int .i64 x.dst, .int .i64 x.piece] 44)).alloc (.cells #[.int .i64 y.src, .int .i64 y.dst, .int .i64 y.piece] 44)) = w0 at bx by' ⊢
 have HW := Lib.hid hw0.symm
 clear hw0 hW
 have Bx : Box w0.drew W.heap.size [.int .i64 x.src, .int .i64 x.dst, .int .i64 x.piece] 44 := bx
 have By : Box w0.drew (W.heap.size + 1) [.int .i64 y.src, .int .i64 y.dst, .int .i64 y.piece] 44 := by'
 clear bx by'
 refine wp_region_noPanic ?_
 refine beginL (S := (fun w' => w'.cell? ⟨W.heap.size, 0, none⟩ = some (.int .i64 x.src) ∧ w'.cell? ⟨W.heap.size, 1, none⟩ = some (.int .i64 x.dst) ∧ w'.cell? ⟨W.heap.size, 2, none⟩ = some (.int .i64 x.piece) ∧ w'.cell? ⟨W.heap.size + 1, 0, none⟩ = some (.int .i64 y.src) ∧ w'.cell? ⟨W.heap.size + 1, 1, none⟩ = some (.int .i64 y.dst) ∧ w'.cell? ⟨W.heap.size + 1, 2, none⟩ = some (.int .i64 y.piece))) (L := []) (by kernel_rfl) (by and_intros <;> first | exact Bx.cell _ rfl | exact By.cell _ rfl) (fun hHeld => ?_)
 refine tkW 0 ?_
 refine tkW 2 ?_
 refine tkW 5 ?_
 refine tkW 7 ?_
 refine tkW 10 ?_
 refine tkW 12 ?_
 refine tkL 1 ?_
 refine tkL 3 ?_
 refine tkL 6 ?_
 refine tkL 8 ?_
 refine tkL 11 ?_
 refine tkL 13 ?_
 refine cnL 4 fun K hK => ?_
 go_simp
 refine (compare_any _ _ _).mono ?_
 rintro e w' ⟨rfl, rfl⟩
 refine hK.out _ _ (by and_intros <;> first | exact Bx.cell _ rfl | exact By.cell _ rfl) (fun hHeld => ?_)
 clear hK K
 refine cnL 9 fun K hK => ?_
 go_simp
 refine (compare_any _ _ _).mono ?_
 rintro e w' ⟨rfl, rfl⟩
 refine hK.out _ _ (by and_intros <;> first | exact Bx.cell _ rfl | exact By.cell _ rfl) (fun hHeld => ?_)
 clear hK K
 refine cnL 14 fun K hK => ?_
 go_simp
 refine (compare_any _ _ _).mono ?_
 rintro e w' ⟨rfl, rfl⟩
 refine hK.out _ _ (by and_intros <;> first | exact Bx.cell _ rfl | exact By.cell _ rfl) (fun hHeld => ?_)
 clear hK K
 refine cnL 15 fun K hK => ?_
 go_simp
 refine K_world' ?_
 intro w9 e9
 have Bx9 : Box w9 W.heap.size [.int .i64 x.src, .int .i64 x.dst, .int .i64 x.piece] 44 := by rw [e9]; exact Bx.alloc _
 have By9 : Box w9 (W.heap.size + 1) [.int .i64 y.src, .int .i64 y.dst, .int .i64 y.piece] 44 := by rw [e9]; exact By.alloc _
 have HR9 := Lib.hid (read3 e9)
 have E9 := Lib.hid e9
 clear e9
 refine hK.out _ _ (by and_intros <;> first | exact Bx9.cell _ rfl | exact By9.cell _ rfl) (fun hHeld => ?_)
 clear hK K
 refine cnL 16 fun K hK => ?_
 go_simp
 refine (or_any _ _ _ HR9.out (by simp)).mono ?_
 rintro e w' ⟨rfl, rfl⟩
 refine hK.out _ _ (by and_intros <;> first | exact Bx9.cell _ rfl | exact By9.cell _ rfl) (fun hHeld => ?_)
 clear hK K
 refine tkW 17 ?_
 refine dnN ?_
 go_wp2_with fail
 go_ret
 exact ⟨rfl, 1, #[.cells #[.int .i64 x.src, .int .i64 x.dst, .int .i64 x.piece] 44, .cells #[.int .i64 y.src, .int .i64 y.dst, .int .i64 y.piece] 44, .cells #[.int .i64 (cmpZ x.src y.src), .int .i64 (cmpZ x.dst y.dst), .int .i64 (cmpZ x.piece y.piece)] 3], by rw [E9.out, HW.out, grow3]⟩
end Go.Proofs.YthklhndcdijneaaGreatDoor
namespace Go.Proofs.YthklhndcdijneaaGreatDoor
open Go.ChangeShapes Go.WideShapes Go.ChangeAt Go.RowKit
set_option linter.unusedVariables false
def compactZ : List MoveZ → List MoveZ
 | [] => []
 | [x] => [x]
 | x :: y :: t => if x = y then compactZ (y :: t) else x :: compactZ (y :: t)
theorem compact_snoc (a b : MoveZ) : ∀ l : List MoveZ, compactZ (l ++ [a] ++ [b]) = compactZ (l ++ [a]) ++ (if a = b then [] else [b])
 | [] => by by_cases h : a = b <;> simp [compactZ, h]
 | [x] => by
  have ih := compact_snoc a b []
  simp only [List.nil_append] at ih
  by_cases h : x = a
  ·simp only [List.cons_append, List.nil_append, compactZ, if_pos h] at ih ⊢
   exact ih
  ·simp only [List.cons_append, List.nil_append, compactZ, if_neg h] at ih ⊢
   rw [ih]
 | x :: y :: t => by
  have ih := compact_snoc a b (y :: t)
  simp only [List.cons_append] at ih ⊢
  by_cases h : x = y
  ·simp only [compactZ, if_pos h]; exact ih
  ·simp only [compactZ, if_neg h]; rw [ih]; rfl
theorem compact_take (xs : List MoveZ) (j : Nat) (h : j + 1 < xs.length) : compactZ (xs.take (j + 2)) = compactZ (xs.take (j + 1)) ++ (if xs.getD j default = xs.getD (j + 1) default then [] else [xs.getD (j + 1) default]) := by
 have e1 : xs.take (j + 1) = xs.take j ++ [xs.getD j default] := by
  rw [List.take_succ_eq_append_getElem (by omega), List.getD_eq_getElem?_getD, List.getElem?_eq_getElem (by omega)]; rfl
 have e2 : xs.take (j + 2) = xs.take j ++ [xs.getD j default] ++ [xs.getD (j + 1) default] := by
  rw [List.take_succ_eq_append_getElem (by omega), e1, List.getD_eq_getElem?_getD (i := j + 1), List.getElem?_eq_getElem (by omega)]; rfl
 rw [e2, compact_snoc, e1]
theorem compact_one (xs : List MoveZ) (h : xs.length < 2) : compactZ xs = xs := by
 match xs, h with
 | [], _ => rfl
 | [x], _ => rfl
/-- a list that is written from a place on. -/
def putAt : List Value → Nat → List Value → List Value
 | xs, _, [] => xs
 | xs, o, v :: t => putAt (xs.set o v) (o + 1) t
theorem putAt_take : ∀ (vs xs : List Value) (o m : Nat), m ≤ o → (putAt xs o vs).take m = xs.take m
 | [], _, _, _, _ => rfl
 | v :: t, xs, o, m, h => by
  rw [putAt, putAt_take t _ _ m (by omega)]
  rw [List.take_set_of_le h]
theorem own_put {base : Nat} {e : TypeId} {sz n g cap : Nat} : ∀ (vs xs : List Value) (o : Nat) (w : World), w.ownsRow base e sz (.slice (some ⟨g, 0, none⟩) n cap) n xs →
  (w.setCells g o vs).ownsRow base e sz (.slice (some ⟨g, 0, none⟩) n cap) n (putAt xs o vs) ∧ w.grownBy (w.setCells g o vs) (some g)
 | [], xs, o, w, h => ⟨h, ⟨rfl, rfl, rfl, Nat.le_refl _, fun _ _ _ => rfl⟩⟩
 | v :: t, xs, o, w, h => by
  have h1 := h.stored o v
  have h2 := own_put t (xs.set o v) (o + 1) _ h1.1
  exact ⟨h2.1, ⟨h2.2.os.trans h1.2.os, h2.2.tape.trans h1.2.tape, h2.2.output.trans h1.2.output, Nat.le_trans h1.2.size h2.2.size, fun k hk hn => (h2.2.block k (Nat.lt_of_lt_of_le hk h1.2.size) hn).trans (h1.2.block k hk hn)⟩⟩
theorem own_take {base : Nat} {e : TypeId} {sz n g cap : Nat} {xs : List Value} {w : World} (h : w.ownsRow base e sz (.slice (some ⟨g, 0, none⟩) n cap) n xs) (k : Nat) (hk : k ≤ n) :
  w.ownsRow base e sz (.slice (some ⟨g, 0, none⟩) k cap) k (xs.take (k * sz)) := by
 have hle : k * sz ≤ n * sz := Nat.mul_le_mul_right sz hk
 refine ⟨by rw [List.length_take, h.1]; omega, ?_⟩
 rcases h.2 with ⟨h0, _⟩ | ⟨g', cap', cur, hv, hb, hg, hn, hm, hs, ht⟩
 ·cases h0
 ·simp only [Value.slice.injEq, Option.some.injEq, Addr.mk.injEq, and_true, true_and] at hv
  obtain ⟨rfl, rfl⟩ := hv
  refine .inr ⟨g, cap, cur, rfl, hb, hg, by omega, hm, hs, ?_⟩
  rw [← ht, List.take_take, Nat.min_eq_left hle]
theorem flatM_at (l : List MoveZ) (i : Nat) (h : i < l.length) : (flatM l)[i * 3]? = some (.int .i64 (l.getD i default).src) ∧ (flatM l)[i * 3 + 1]? = some (.int .i64 (l.getD i default).dst) ∧ (flatM l)[i * 3 + 2]? = some (.int .i64 (l.getD i default).piece) := by
 induction l generalizing i with
 | nil => simp at h
 | cons m t ih =>
  have e : flatM (m :: t) = [.int .i64 m.src, .int .i64 m.dst, .int .i64 m.piece] ++ flatM t := rfl
  rw [e]
  cases i with
  | zero => simp
  | succ i =>
   obtain ⟨a, b, c⟩ := ih i (by simpa using h)
   have f : ∀ k, ([Value.int .i64 m.src, .int .i64 m.dst, .int .i64 m.piece] ++ flatM t)[(i + 1) * 3 + k]? = (flatM t)[i * 3 + k]? := fun k => by
    rw [List.getElem?_append_right (by simp; omega)]
    congr 1
    simp; omega
   have f0 := f 0
   simp only [Nat.add_zero] at f0
   rw [f0, f 1, f 2]
   simp only [List.getD_cons_succ]
   exact ⟨a, b, c⟩
theorem flatM_take (l : List MoveZ) (k : Nat) : (flatM l).take (k * 3) = flatM (l.take k) := by
 induction l generalizing k with
 | nil => simp [flatM]
 | cons m t ih =>
  have e : flatM (m :: t) = [.int .i64 m.src, .int .i64 m.dst, .int .i64 m.piece] ++ flatM t := rfl
  cases k with
  | zero => simp [flatM]
  | succ k =>
   rw [e, List.take_succ_cons]
   have e2 : flatM (m :: t.take k) = [.int .i64 m.src, .int .i64 m.dst, .int .i64 m.piece] ++ flatM (t.take k) := rfl
   rw [e2, ← ih k, show (k + 1) * 3 = 3 + k * 3 by omega]
   rw [List.take_append, List.take_of_length_le (by simp)]
   simp
theorem flatM_put (l : List MoveZ) (i : Nat) (z : MoveZ) : putAt (flatM l) (i * 3) [.int .i64 z.src, .int .i64 z.dst, .int .i64 z.piece] = flatM (l.set i z) := by
 simp only [putAt]
 induction l generalizing i with
 | nil => simp [flatM]
 | cons m t ih =>
  have e : flatM (m :: t) = .int .i64 m.src :: .int .i64 m.dst :: .int .i64 m.piece :: flatM t := rfl
  cases i with
  | zero => simp [flatM]
  | succ i =>
   have e2 : flatM ((m :: t).set (i + 1) z) = .int .i64 m.src :: .int .i64 m.dst :: .int .i64 m.piece :: flatM (t.set i z) := rfl
   rw [e, e2, ← ih i, show (i + 1) * 3 = i * 3 + 1 + 1 + 1 by omega]
   simp [List.set_cons_succ]
theorem zero3 (n : Nat) : (Builtin.zeroCells (Value.cells (.agg #[.int .i64 0, .int .i64 0, .int .i64 0])) n).toList = List.replicate (n * 3) (.int .i64 0) := by
 apply List.ext_getElem
 ·simp [Builtin.zeroCells, Value.cells]
 ·intro i h1 h2
  simp only [Builtin.zeroCells, Value.cells, Array.toList_map, Array.toList_range, List.getElem_map, List.getElem_range, List.getElem_replicate]
  have h3 : i % 3 = 0 ∨ i % 3 = 1 ∨ i % 3 = 2 := by omega
  rcases h3 with h3 | h3 | h3 <;> simp [h3]
theorem run_clear3 (w : World) (ty : TypeId) (b o n c : Nat) (hn : 0 < n) (hc : ∀ j, j < n * 3 → (w.cell? ⟨b, o + j, none⟩).isSome = true) (hf : ∀ j, j < n * 3 → w.frozen? ⟨b, o + j, none⟩ = false) :
  (Builtin.clear_ #[100] ty #[.slice (some ⟨b, o, none⟩) n c]).run Tryz.prog w = .ok (.tuple #[]) (w.setCells b o (List.replicate (n * 3) (.int .i64 0))) := by
 have hv : ∀ w, (zeroValue 44).run Tryz.prog w = .ok (.agg #[.int .i64 0, .int .i64 0, .int .i64 0]) w := fun w => by kernel_rfl
 have hst := run_storeCells_cells (P := Tryz.prog) b o (List.replicate (n * 3) (.int .i64 0)) 0 w (by simpa using hc) (by simpa using hf) (by intro v hv'; rw [List.eq_of_mem_replicate hv']; rfl)
 simp only [Nat.add_zero] at hst
 obtain ⟨m, rfl⟩ : ∃ m, n = m + 1 := ⟨n - 1, by omega⟩
 simp [Builtin.clear_, run_underlying Tryz.underlying100, hv, zero3, hst]
theorem eqlM (x y : MoveZ) (w : World) : (binOp .eql 44 (.agg #[.int .i64 x.src, .int .i64 x.dst, .int .i64 x.piece]) (.agg #[.int .i64 y.src, .int .i64 y.dst, .int .i64 y.piece])).run Tryz.prog w = .ok (.bool (decide (x = y))) w := by
 have u3 := Tryz.underlying3
 have a3 := Tryz.isAgg3
 have z3 := Tryz.sizeOf3
 have hS : Tryz.prog.underlying 44 = some (.struct (Tryz.prog.fieldsOf 44)) := by kernel_rfl
 have hp : Tryz.prog.stoodInHeld 44 = false := by kernel_rfl
 rw [run_eql_struct, show (10000 : Nat) = 9999 + 1 from rfl, run_equalIn_agg w 9999 44 _ _ hS hp]
 simp only [Program.fieldsOf, Tryz.underlying44]
 obtain ⟨x1, x2, x3⟩ := x
 obtain ⟨y1, y2, y3⟩ := y
 go_simp
 by_cases h1 : x1 = y1 <;> by_cases h2 : x2 = y2 <;> by_cases h3 : x3 = y3 <;> simp [h1, h2, h3]
theorem neqM (x y : MoveZ) (w : World) : (binOp .neq 44 (.agg #[.int .i64 x.src, .int .i64 x.dst, .int .i64 x.piece]) (.agg #[.int .i64 y.src, .int .i64 y.dst, .int .i64 y.piece])).run Tryz.prog w = .ok (.bool (!decide (x = y))) w := by
 have h := eqlM x y w
 rw [run_eql_struct] at h
 rw [run_neq_struct]
 cases hh : (Op.equalIn 10000 44 (.agg #[.int .i64 x.src, .int .i64 x.dst, .int .i64 x.piece]) (.agg #[.int .i64 y.src, .int .i64 y.dst, .int .i64 y.piece])).run Tryz.prog w with
 | ok b w' => rw [hh] at h; simp only [Result.andThen_ok, Result.ok.injEq, Value.bool.injEq] at h ⊢; exact ⟨by rw [h.1], h.2⟩
 | _ => rw [hh] at h; simp [Result.andThen] at h
theorem take_next (xs : List MoveZ) (j : Nat) (h : j + 1 < xs.length) (m : MoveZ) (hm : xs.getD (j + 1) default = m) : xs.take (j + 1 + 1) = xs.take (j + 1) ++ [m] := by
 rw [List.take_succ_eq_append_getElem h, ← hm, List.getD_eq_getElem?_getD, List.getElem?_eq_getElem h]; rfl
theorem getD_drop {xs ys : List MoveZ} {o : Nat} (h : ys.drop o = xs.drop o) (i : Nat) : ys.getD (o + i) default = xs.getD (o + i) default := by
 have := congrArg (fun l => l.getD i default) h
 simpa [List.getD_eq_getElem?_getD, List.getElem?_drop] using this
theorem drop_more {xs ys : List MoveZ} {o : Nat} (h : ys.drop o = xs.drop o) (i : Nat) : ys.drop (o + i) = xs.drop (o + i) := by
 rw [← List.drop_drop, ← List.drop_drop, h]
theorem own_cap' {w : World} {b : Nat} {e : TypeId} {sz n g c : Nat} {xs : List Value} (h : w.ownsRow b e sz (.slice (some ⟨g, 0, none⟩) n c) n xs) : n ≤ c := by
 rcases h.2 with ⟨h0, _⟩ | ⟨g', c', cur, hv, _, _, hn, _⟩
 ·cases h0
 ·simp only [Value.slice.injEq, true_and] at hv
  omega
theorem drop_put {xs ys : List MoveZ} {o : Nat} (h : ys.drop o = xs.drop o) (k : Nat) (z : MoveZ) (hk : k < o + 1) : (ys.set k z).drop (o + 1) = xs.drop (o + 1) := by
 rw [List.drop_set_of_lt hk]
 exact drop_more h 1
theorem take_put (l : List MoveZ) (k : Nat) (z : MoveZ) (h : k < l.length) : (l.set k z).take (k + 1) = l.take k ++ [z] := by
 rw [List.take_succ_eq_append_getElem (by simpa using h), List.take_set_of_le (Nat.le_refl _), List.getElem_set_self]
def CompactPost (base : Nat) (v : Value) (xs : List MoveZ) (w : World) (e : Ending) (w' : World) : Prop :=
 ∃ v', e = .returned v' ∧ w'.ownsRow base 44 3 v' (compactZ xs).length (flatM (compactZ xs)) ∧ w.grownBy w' v.ownBlock
theorem grown_drew1 {w w1 : World} {row : Option Nat} (h : w.grownBy w1 row) (n : Nat) : w.grownBy (w1.drewN n) row := ⟨h.os, h.tape, h.output, h.size, h.block⟩
theorem grown_refl1 (w : World) (row : Option Nat) : w.grownBy w row := ⟨rfl, rfl, rfl, Nat.le_refl _, fun _ _ _ => rfl⟩
theorem grown_trans1 {w w1 w2 : World} {row : Option Nat} (h1 : w.grownBy w1 row) (h2 : w1.grownBy w2 row) : w.grownBy w2 row :=
 ⟨h2.os.trans h1.os, h2.tape.trans h1.tape, h2.output.trans h1.output, Nat.le_trans h1.size h2.size, fun k hk hn => (h2.block k (Nat.lt_of_lt_of_le hk h1.size) hn).trans (h1.block k hk hn)⟩
set_option maxRecDepth 100000 in
set_option maxHeartbeats 2000000 in
theorem compact_any (base : Nat) (v : Value) (xs : List MoveZ) (w : World) (h : w.ownsRow base 44 3 v xs.length (flatM xs)) (hl : xs.length ≤ 1000000) :
  Calls Tryz.prog 98 #[v] w (CompactPost base v xs w) := by
 have HO := Lib.hid h
 by_cases h2 : xs.length < 2
 ·have HE := Lib.hid (compact_one xs h2)
  obtain ⟨a, c, rfl⟩ := own_form2 h
  clear h
  go_enter Tryz.func98, Tryz.ntmps98
  go_wp2
  go_ret
  exact ⟨_, rfl, by rw [HE.out]; exact HO.out, grown_refl1 _ _⟩
 obtain ⟨g, c, rfl⟩ := own_some h (by omega)
 have hg := h.lt g rfl
 clear h
 have heq := eqlM
 have hneq := neqM
 have h2i : ¬ ((xs.length : Int) < 2) := by omega
 go_enter Tryz.func98, Tryz.ntmps98
 go_wp2_with fail
 go_loopw [3] (fun i wr => ∃ j : Nat, j + 1 ≤ xs.length ∧ i = .int .i64 ((j : Int) + 1) ∧ Hid (compactZ (xs.take (j + 1)) = xs.take (j + 1)) ∧ Hid (wr.ownsRow base 44 3 (.slice (some ⟨g, 0, none⟩) xs.length c) xs.length (flatM xs)) ∧ Hid (w.grownBy wr (some g))) (fun i _ => xs.length - (intOf i).toNat)
 case atStart => exact ⟨0, by omega, by simp, Lib.hid (compact_one _ (by rw [List.length_take]; omega)), HO, Lib.hid (grown_refl1 _ _)⟩
 case round =>
  obtain ⟨j, hj, rfl, HC, HOr, HG⟩ := hrel
  by_cases hlt : j + 1 < xs.length
  ·have hlti : (j : Int) + 1 < (xs.length : Int) := by omega
   have c0 := (HOr.out.cellAt (j * 3) (by omega)).trans (flatM_at xs j (by omega)).1
   have c1 := (HOr.out.cellAt (j * 3 + 1) (by omega)).trans (flatM_at xs j (by omega)).2.1
   have c2 := (HOr.out.cellAt (j * 3 + 2) (by omega)).trans (flatM_at xs j (by omega)).2.2
   have d0 := (HOr.out.cellAt ((j + 1) * 3) (by omega)).trans (flatM_at xs (j + 1) hlt).1
   have d1 := (HOr.out.cellAt ((j + 1) * 3 + 1) (by omega)).trans (flatM_at xs (j + 1) hlt).2.1
   have d2 := (HOr.out.cellAt ((j + 1) * 3 + 2) (by omega)).trans (flatM_at xs (j + 1) hlt).2.2
   have HCT := Lib.hid (compact_take xs j hlt)
   generalize xs.getD j default = m1 at *
   generalize hm2 : xs.getD (j + 1) default = m2 at *
   have HM2 := Lib.hid hm2
   clear hm2
   by_cases he : m1 = m2
   rotate_left
   ·have hd : decide (m2 = m1) = false := by simpa using fun e => he e.symm
    have HNE := Lib.hid he
    clear he
    go_wp2_with fail
    go_quiet (fail)
    go_wp2_with fail
    go_roundw
    case rel => exact ⟨j + 1, by omega, by go_num, Lib.hid (by rw [HCT.out, if_neg HNE.out, HC.out]; exact (take_next xs j hlt _ HM2.out).symm), HOr, Lib.hid (grown_drew1 HG.out _)⟩
    case measure => simp [intOf]; omega
   subst he
   have HC1 : Hid (xs.take (j + 1) = compactZ (xs.take (j + 1 + (0 + 1)))) := Lib.hid (by rw [show j + 1 + (0 + 1) = j + 2 by omega, HCT.out, if_pos rfl, List.append_nil, HC.out])
   have hcap : xs.length ≤ c := own_cap' HOr.out
   have hsl : ∀ w' : World, (Instr.slice 100 (.slice (some ⟨g, 0, none⟩) xs.length c) (some (.int .i64 ((j : Int) + 1))) none none).run Tryz.prog w' = .ok (.slice (some ⟨g, (j + 1) * 3, none⟩) (xs.length - (j + 1)) (c - (j + 1))) w' := fun w' => by
    have h := run_drop (P := Tryz.prog) (t := 100) (s := 3) Tryz.underlying100 (fun w => by kernel_rfl) (some ⟨g, 0, none⟩) xs.length c (j + 1) (by omega) w'
    rw [Int.natCast_succ] at h
    rw [h]
    simp [subAddr, show ¬ c = j + 1 by omega, add_off]
   have HSL := Lib.hid hsl
   have HCAP := Lib.hid hcap
   clear HC HCT hcap
   go_wp2_with fail
   go_quiet (fail)
   go_wp2_with fail
   clear c0 c1 c2 d0 d1 d2 hsl
   go_loopw [3, 5] (fun vk vi wr => ∃ (k m : Nat) (ys : List MoveZ), m + 1 ≤ xs.length - (j + 1) ∧ vi = .int .i64 ((m : Int) + 1) ∧ vk = .int .i64 k ∧ k ≤ j + m + 1 ∧ Hid (ys.length = xs.length) ∧ Hid (ys.drop (j + 1 + m) = xs.drop (j + 1 + m)) ∧ Hid (ys.take k = compactZ (xs.take (j + 1 + (m + 1)))) ∧ Hid (wr.ownsRow base 44 3 (.slice (some ⟨g, 0, none⟩) xs.length c) xs.length (flatM ys)) ∧ Hid (w.grownBy wr (some g))) (fun _ i _ => xs.length - (intOf i).toNat)
   case atStart => exact ⟨j + 1, 0, xs, by omega, by simp, by simp, by omega, Lib.hid rfl, Lib.hid rfl, HC1, HOr, Lib.hid (grown_drew1 HG.out _)⟩
   case round =>
    obtain ⟨k, m, ys, hm, rfl, rfl, hk, HYL, HYD, HYT, HOy, HGy⟩ := hrel
    by_cases hlt2 : m + 1 < xs.length - (j + 1)
    ·have hlt2i : (m : Int) + 1 < ((xs.length - (j + 1) : Nat) : Int) := by omega
     have y1 : ys.getD (j + 1 + m) default = xs.getD (j + 1 + m) default := getD_drop HYD.out 0
     have y2 : ys.getD (j + 1 + m + 1) default = xs.getD (j + 1 + m + 1) default := getD_drop HYD.out 1
     have hyl := HYL.out
     have c0 : wr.cell? ⟨g, (j + 1) * 3 + m * 3, none⟩ = some (.int .i64 (xs.getD (j + 1 + m) default).src) := by rw [← y1, show (j + 1) * 3 + m * 3 = (j + 1 + m) * 3 by omega]; exact (HOy.out.cellAt ((j + 1 + m) * 3) (by omega)).trans (flatM_at ys (j + 1 + m) (by omega)).1
     have c1 : wr.cell? ⟨g, (j + 1) * 3 + m * 3 + 1, none⟩ = some (.int .i64 (xs.getD (j + 1 + m) default).dst) := by rw [← y1, show (j + 1) * 3 + m * 3 + 1 = (j + 1 + m) * 3 + 1 by omega]; exact (HOy.out.cellAt ((j + 1 + m) * 3 + 1) (by omega)).trans (flatM_at ys (j + 1 + m) (by omega)).2.1
     have c2 : wr.cell? ⟨g, (j + 1) * 3 + m * 3 + 2, none⟩ = some (.int .i64 (xs.getD (j + 1 + m) default).piece) := by rw [← y1, show (j + 1) * 3 + m * 3 + 2 = (j + 1 + m) * 3 + 2 by omega]; exact (HOy.out.cellAt ((j + 1 + m) * 3 + 2) (by omega)).trans (flatM_at ys (j + 1 + m) (by omega)).2.2
     have d0 : wr.cell? ⟨g, (j + 1) * 3 + (m + 1) * 3, none⟩ = some (.int .i64 (xs.getD (j + 1 + m + 1) default).src) := by rw [← y2, show (j + 1) * 3 + (m + 1) * 3 = (j + 1 + m + 1) * 3 by omega]; exact (HOy.out.cellAt ((j + 1 + m + 1) * 3) (by omega)).trans (flatM_at ys (j + 1 + m + 1) (by omega)).1
     have d1 : wr.cell? ⟨g, (j + 1) * 3 + (m + 1) * 3 + 1, none⟩ = some (.int .i64 (xs.getD (j + 1 + m + 1) default).dst) := by rw [← y2, show (j + 1) * 3 + (m + 1) * 3 + 1 = (j + 1 + m + 1) * 3 + 1 by omega]; exact (HOy.out.cellAt ((j + 1 + m + 1) * 3 + 1) (by omega)).trans (flatM_at ys (j + 1 + m + 1) (by omega)).2.1
     have d2 : wr.cell? ⟨g, (j + 1) * 3 + (m + 1) * 3 + 2, none⟩ = some (.int .i64 (xs.getD (j + 1 + m + 1) default).piece) := by rw [← y2, show (j + 1) * 3 + (m + 1) * 3 + 2 = (j + 1 + m + 1) * 3 + 2 by omega]; exact (HOy.out.cellAt ((j + 1 + m + 1) * 3 + 2) (by omega)).trans (flatM_at ys (j + 1 + m + 1) (by omega)).2.2
     have HCT := Lib.hid (compact_take xs (j + 1 + m) (by omega))
     clear y1 y2 hyl
     generalize xs.getD (j + 1 + m) default = b1 at *
     generalize xs.getD (j + 1 + m + 1) default = b2 at *
     by_cases he2 : b1 = b2
     ·subst he2
      go_wp2_with fail
      go_quiet (fail)
      go_wp2_with fail
      go_roundw
      case rel => exact ⟨k, m + 1, ys, by omega, by go_num, rfl, by omega, HYL, Lib.hid (drop_more HYD.out 1), Lib.hid (by rw [HYT.out, show j + 1 + (m + 1 + 1) = j + 1 + m + 2 by omega, HCT.out, if_pos trivial, List.append_nil]; rfl), HOy, Lib.hid (grown_drew1 HGy.out _)⟩
      case measure => simp [intOf]; omega
     ·have hd : decide (b2 = b1) = false := by simpa using fun e => he2 e.symm
      have HNE := Lib.hid he2
      clear he2
      go_wp2_with fail
      go_quiet (fail)
      have HOq : Hid ((wr.drewN nq).ownsRow base 44 3 (.slice (some ⟨g, 0, none⟩) xs.length c) xs.length (flatM ys)) := HOy
      have s0 := (HOq.out.cellAt (k * 3) (by omega)).trans (flatM_at ys k (by rw [HYL.out]; omega)).1
      have s1 := (HOq.out.cellAt (k * 3 + 1) (by omega)).trans (flatM_at ys k (by rw [HYL.out]; omega)).2.1
      have s2 := (HOq.out.cellAt (k * 3 + 2) (by omega)).trans (flatM_at ys k (by rw [HYL.out]; omega)).2.2
      have f0 := HOq.out.frozenAt (k * 3)
      have f1 := HOq.out.frozenAt (k * 3 + 1)
      have f2 := HOq.out.frozenAt (k * 3 + 2)
      have HPut := own_put [.int .i64 b2.src, .int .i64 b2.dst, .int .i64 b2.piece] (flatM ys) (k * 3) _ HOq.out
      rw [flatM_put] at HPut
      have HPh := Lib.hid HPut
      have HGq := Lib.hid (grown_drew1 HGy.out nq)
      have HDR := Lib.hid (drop_put HYD.out k b2 (by omega))
      have HTK : Hid ((ys.set k b2).take (k + 1) = compactZ (xs.take (j + 1 + (m + 1 + 1)))) := Lib.hid (by rw [take_put ys k b2 (by rw [HYL.out]; omega), HYT.out, show j + 1 + (m + 1 + 1) = j + 1 + m + 2 by omega, HCT.out, if_neg HNE.out]; rfl)
      clear HPut
      go_wp2_with fail
      go_roundw
      case rel => exact ⟨k + 1, m + 1, ys.set k b2, by omega, by go_num, by go_num, by omega, Lib.hid (by rw [List.length_set]; exact HYL.out), HDR, HTK, Lib.hid HPh.out.1, Lib.hid (grown_trans1 HGq.out HPh.out.2)⟩
      case measure => simp [intOf]; omega
    ·have hmn : j + 1 + (m + 1) = xs.length := by omega
     have HF : Hid (ys.take k = compactZ xs) := Lib.hid (by rw [HYT.out, hmn, List.take_of_length_le (Nat.le_refl _)])
     have hkn : k < xs.length := by omega
     have hcapx := HCAP.out
     have hsl2 : ∀ w' : World, (Instr.slice 100 (.slice (some ⟨g, 0, none⟩) xs.length c) (some (.int .i64 (k : Int))) none none).run Tryz.prog w' = .ok (.slice (some ⟨g, k * 3, none⟩) (xs.length - k) (c - k)) w' := fun w' => by
      rw [run_drop (P := Tryz.prog) (t := 100) (s := 3) Tryz.underlying100 (fun w => by kernel_rfl) (some ⟨g, 0, none⟩) xs.length c k (by omega) w']
      simp [subAddr, show ¬ c = k by omega, add_off]
     have hsl3 : ∀ w' : World, (Instr.slice 100 (.slice (some ⟨g, 0, none⟩) xs.length c) none (some (.int .i64 (k : Int))) none).run Tryz.prog w' = .ok (.slice (some ⟨g, 0, none⟩) k c) w' := fun w' => by
      exact run_take (P := Tryz.prog) (t := 100) (s := 3) Tryz.underlying100 (fun w => by kernel_rfl) (some ⟨g, 0, none⟩) xs.length c k (by omega) w'
     have hclr : ∀ ty, (Builtin.clear_ #[100] ty #[.slice (some ⟨g, k * 3, none⟩) (xs.length - k) (c - k)]).run Tryz.prog wr = .ok (.tuple #[]) (wr.setCells g (k * 3) (List.replicate ((xs.length - k) * 3) (.int .i64 0))) := fun ty =>
      run_clear3 wr ty g (k * 3) (xs.length - k) (c - k) (by omega) (fun q hq => by rw [HOy.out.cellAt (k * 3 + q) (by omega), List.getElem?_eq_getElem (by rw [flatM_len, HYL.out]; omega)]; rfl) (fun q _ => HOy.out.frozenAt _)
     have HPh := Lib.hid (own_put (List.replicate ((xs.length - k) * 3) (.int .i64 0)) (flatM ys) (k * 3) _ HOy.out)
     have HLn : Hid ((compactZ xs).length = k) := Lib.hid (by rw [← HF.out, List.length_take, HYL.out]; omega)
     have HKN := Lib.hid hkn
     clear hmn hkn hcapx
     go_wp2_with fail
     go_ret
     refine ⟨_, rfl, ?_, grown_trans1 HGy.out HPh.out.2⟩
     have h := own_take HPh.out.1 k (by have := HKN.out; omega)
     rw [putAt_take _ _ _ _ (Nat.le_refl _), flatM_take, HF.out] at h
     rw [HLn.out]
     exact h
  ·obtain he : j + 1 = xs.length := by omega
   have HE : Hid (compactZ xs = xs) := Lib.hid (by have := HC.out; rw [he, List.take_of_length_le (Nat.le_refl _)] at this; exact this)
   have HEQ := Lib.hid he
   clear he
   go_wp2_with fail
   go_ret
   exact ⟨_, rfl, by rw [HE.out]; exact HOr.out, HG.out⟩
end Go.Proofs.YthklhndcdijneaaGreatDoor

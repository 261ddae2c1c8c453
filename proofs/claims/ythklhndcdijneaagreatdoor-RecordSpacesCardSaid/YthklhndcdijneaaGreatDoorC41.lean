/- SortMv, MvS. -/
import Derived.Shelf.SlSortCmp.NoneTotal
import Derived.Shelf.SlGeneric
import Derived.Ground.SlsfProg
import Derived.Test.YthklhndcdijneaaGreatDoorProg
import Derived.Test.YthklhndcdijneaaGreatDoorC12
import Derived.Sort.OwnSortedInts
namespace Go.Proofs
open Go.Shelf
def Tryz.sortMv_ren : Go.Shelf.Ren := ⟨fun | 6 => 94 | 15 => 126 | 14 => 125 | 28 => 147 | 29 => 148 | 20 => 139 | 21 => 140 | 22 => 141 | 23 => 142 | 24 => 143 | 25 => 144 | 26 => 145 | 27 => 146 | 46 => 153 | 47 => 154 | 48 => 155 | 49 => 156 | 50 => 157 | 57 => 160 | n => n, fun | 22 => 100 | 24 => 44 | 25 => 159 | 3 => 3 | 39 => 184 | 0 => 0 | 53 => 204 | 55 => 206 | 4 => 4 | 46 => 197 | 45 => 196 | 50 => 201 | 5 => 5 | 9 => 9 | 66 => 211 | 70 => 215 | 76 => 223 | 77 => 224 | n => n, fun | n => n⟩
theorem Tryz.sortMv : Go.Proofs.SlLaysF0.n6 Tryz.prog Tryz.sortMv_ren := {
  mixed := by kernel_rfl
  f6 := ⟨Tryz.f94.name, by decide, Tryz.func94.trans (congrArg some (by kernel_rfl))⟩
  f14 := ⟨Tryz.f125.name, by decide, Tryz.func125.trans (congrArg some (by kernel_rfl))⟩
  f15 := Tryz.func126.trans (congrArg some (by kernel_rfl))
  f20 := ⟨Tryz.f139.name, by decide, Tryz.func139.trans (congrArg some (by kernel_rfl))⟩
  f21 := ⟨Tryz.f140.name, by decide, Tryz.func140.trans (congrArg some (by kernel_rfl))⟩
  f22 := ⟨Tryz.f141.name, by decide, Tryz.func141.trans (congrArg some (by kernel_rfl))⟩
  f23 := ⟨Tryz.f142.name, by decide, Tryz.func142.trans (congrArg some (by kernel_rfl))⟩
  f24 := ⟨Tryz.f143.name, by decide, Tryz.func143.trans (congrArg some (by kernel_rfl))⟩
  f25 := ⟨Tryz.f144.name, by decide, Tryz.func144.trans (congrArg some (by kernel_rfl))⟩
  f26 := ⟨Tryz.f145.name, by decide, Tryz.func145.trans (congrArg some (by kernel_rfl))⟩
  f27 := ⟨Tryz.f146.name, by decide, Tryz.func146.trans (congrArg some (by kernel_rfl))⟩
  f28 := Tryz.func147.trans (congrArg some (by kernel_rfl))
  f29 := Tryz.func148.trans (congrArg some (by kernel_rfl))
  f46 := ⟨Tryz.f153.name, by decide, Tryz.func153.trans (congrArg some (by kernel_rfl))⟩
  f47 := Tryz.func154.trans (congrArg some (by kernel_rfl))
  f48 := Tryz.func155.trans (congrArg some (by kernel_rfl))
  f49 := ⟨Tryz.f156.name, by decide, Tryz.func156.trans (congrArg some (by kernel_rfl))⟩
  f50 := ⟨Tryz.f157.name, by decide, Tryz.func157.trans (congrArg some (by kernel_rfl))⟩
  f57 := ⟨Tryz.f160.name, by decide, Tryz.func160.trans (congrArg some (by kernel_rfl))⟩
  t0 := Tryz.underlying0
  a0 := Tryz.isAgg0
  z0 := Tryz.sizeOf0
  v0 := Tryz.zeroValue0
  t3 := Tryz.underlying3
  a3 := Tryz.isAgg3
  z3 := Tryz.sizeOf3
  v3 := Tryz.zeroValue3
  t4 := Tryz.underlying4
  a4 := Tryz.isAgg4
  z4 := Tryz.sizeOf4
  v4 := Tryz.zeroValue4
  t5 := Tryz.underlying5
  a5 := Tryz.isAgg5
  z5 := Tryz.sizeOf5
  v5 := Tryz.zeroValue5
  t9 := Tryz.underlying9
  a9 := Tryz.isAgg9
  z9 := Tryz.sizeOf9
  v9 := Tryz.zeroValue9
  t22 := Tryz.underlying100
  a22 := Tryz.isAgg100
  z22 := Tryz.sizeOf100
  v22 := Tryz.zeroValue100
  t25 := Tryz.underlying159
  a25 := Tryz.isAgg159
  z25 := Tryz.sizeOf159
  v25 := Tryz.zeroValue159
  t39 := Tryz.underlying184
  a39 := Tryz.isAgg184
  z39 := Tryz.sizeOf184
  v39 := Tryz.zeroValue184
  t45 := Tryz.underlying196
  a45 := Tryz.isAgg196
  z45 := Tryz.sizeOf196
  v45 := Tryz.zeroValue196
  t46 := Tryz.underlying197
  a46 := Tryz.isAgg197
  z46 := Tryz.sizeOf197
  v46 := Tryz.zeroValue197
  t50 := Tryz.underlying201
  a50 := Tryz.isAgg201
  z50 := Tryz.sizeOf201
  v50 := Tryz.zeroValue201
  t53 := Tryz.underlying204
  a53 := Tryz.isAgg204
  z53 := Tryz.sizeOf204
  v53 := Tryz.zeroValue204
  t55 := Tryz.underlying206
  a55 := Tryz.isAgg206
  z55 := Tryz.sizeOf206
  v55 := Tryz.zeroValue206
  t66 := Tryz.underlying211
  a66 := Tryz.isAgg211
  z66 := Tryz.sizeOf211
  v66 := Tryz.zeroValue211
  t70 := Tryz.underlying215
  a70 := Tryz.isAgg215
  z70 := Tryz.sizeOf215
  v70 := Tryz.zeroValue215
  t76 := Tryz.underlying223
  a76 := Tryz.isAgg223
  z76 := Tryz.sizeOf223
  v76 := Tryz.zeroValue223
  t77 := Tryz.underlying224
  a77 := Tryz.isAgg224
  z77 := Tryz.sizeOf224
  v77 := Tryz.zeroValue224 }
open Go.RowKit Go.Lib Go.Sort in
theorem Tryz.sortMoves {α : Type} [Inhabited α] (aE : ∀ w, (isAgg 44).run Tryz.prog w = .ok true w) (zE : ∀ w, (Go.sizeOf 44).run Tryz.prog w = .ok 3 w) (enc : α → List Value) (hk : ∀ x, (enc x).length = 3) (h1 : ∀ x, ∀ v ∈ enc x, v.oneCell' = true) (cf : α → α → Int) (hO : SWO (ltOf cf)) (g : Nat) (cb : Array Value) (blk off cap : Nat) (d : Array α) (w : World)
    (eg : ∀ args w, (callFunc g args).run Tryz.prog w = .ok (.enter g args) w) (hcmp : CmpLays Tryz.prog g cb enc 3 cf blk off d.size w) (hH : HoldsK enc 3 w blk off d) (hblk : blk < w.heap.size) (hsz : d.size < 4611686018427387904) (hT : ∀ x y, (ltOf cf) x y = false → (ltOf cf) y x = false → x = y) :
    Calls Tryz.prog 94 #[.slice (some ⟨blk, off, none⟩) d.size cap, .func (.func g) #[] cb] w fun e w' =>
      e = .returned (.tuple #[]) ∧ ∃ n os, w' = sortWorldK enc 3 w blk off n (d.toList.mergeSort fun x y => !(ltOf cf) y x).toArray os := AnyQ.slices_SortFunc_total Tryz.sortMv 3 aE zE enc hk h1 cf hO g cb blk off cap d w eg hcmp hH hblk hsz hT
theorem Tryz.sortNone (p : Option Addr) (cap : Nat) (fv : Value) (w : World) : Calls Tryz.prog 94 #[.slice p 0 cap, fv] w fun e w' => e = .returned (.tuple #[]) ∧ w' = w := AnyF.slices_SortFunc_none Tryz.sortMv p cap fv w
end Go.Proofs
namespace Go.Proofs.YthklhndcdijneaaGreatDoor
open Go.ChangeShapes Go.WideShapes Go.ChangeAt Go.RowKit Go.Shelf
set_option linter.unusedVariables false
/-! ### the order -/
theorem ordM_lt (a b : MoveZ) : ordM a b < 0 ↔ a.src < b.src ∨ (a.src = b.src ∧ (a.dst < b.dst ∨ (a.dst = b.dst ∧ a.piece < b.piece))) := by
 obtain ⟨a1, a2, a3⟩ := a
 obtain ⟨b1, b2, b3⟩ := b
 unfold ordM cmpZ
 simp only [orZ]
 by_cases h1 : a1 < b1 <;> by_cases h2 : b1 < a1 <;> by_cases h3 : a2 < b2 <;> by_cases h4 : b2 < a2 <;> by_cases h5 : a3 < b3 <;> by_cases h6 : b3 < a3 <;> simp [h1, h2, h3, h4, h5, h6] <;> omega
theorem ordM_swo : Sort.SWO (ltOf ordM) where
 irrefl x := by unfold ltOf; simp only [decide_eq_false_iff_not, ordM_lt]; omega
 trans x y z h1 h2 := by unfold ltOf at *; simp only [decide_eq_true_eq, ordM_lt] at *; omega
 ntrans x y z h1 h2 := by unfold ltOf at *; simp only [decide_eq_false_iff_not, ordM_lt] at *; omega
theorem ordM_total (x y : MoveZ) (h1 : ltOf ordM x y = false) (h2 : ltOf ordM y x = false) : x = y := by
 unfold ltOf at *
 simp only [decide_eq_false_iff_not, ordM_lt] at h1 h2
 obtain ⟨a1, a2, a3⟩ := x
 obtain ⟨b1, b2, b3⟩ := y
 simp only [MoveZ.mk.injEq] at *
 omega
/-! ### the row -/
def encMv (m : MoveZ) : List Value := [.int .i64 m.src, .int .i64 m.dst, .int .i64 m.piece]
theorem flatK_mv (xs : List MoveZ) : Sort.flatK encMv 3 xs.toArray = (flatM xs).toArray := by
 apply Array.ext
 ·simp [flatM_len]
 ·intro t h1 h2
  have ht : t < xs.length * 3 := by simpa using h1
  obtain ⟨q, r, hr, rfl⟩ : ∃ q r, r < 3 ∧ t = q * 3 + r := ⟨t / 3, t % 3, Nat.mod_lt _ (by decide), by omega⟩
  have hq : q < xs.length := by omega
  have e1 : (q * 3 + r) / 3 = q := by omega
  have e2 : (q * 3 + r) % 3 = r := by omega
  have hg : xs.toArray[q]! = xs.getD q default := by
   rw [getElem!_pos _ q (by simpa using hq), List.getD_eq_getElem?_getD, List.getElem?_eq_getElem hq]; simp
  have hf := flatM_at xs q hq
  have hL : (Sort.flatK encMv 3 xs.toArray)[q * 3 + r]! = (flatM xs).toArray[q * 3 + r]! := by
   rw [Sort.get_flatK _ _ _ _ (by simpa using ht), e1, e2, hg]
   have h3 : r = 0 ∨ r = 1 ∨ r = 2 := by omega
   rcases h3 with rfl | rfl | rfl
   ·have := hf.1; simp only [Nat.add_zero, List.getElem!_toArray]; rw [List.getElem!_eq_getElem?_getD, List.getElem!_eq_getElem?_getD, this]; rfl
   ·have := hf.2.1; simp only [List.getElem!_toArray]; rw [List.getElem!_eq_getElem?_getD, List.getElem!_eq_getElem?_getD, this]; rfl
   ·have := hf.2.2; simp only [List.getElem!_toArray]; rw [List.getElem!_eq_getElem?_getD, List.getElem!_eq_getElem?_getD, this]; rfl
  rw [getElem!_pos (Sort.flatK encMv 3 xs.toArray) _ h1, getElem!_pos (flatM xs).toArray _ h2] at hL
  exact hL
theorem holds_of_cells {w : World} {g : Nat} {cur : Array Value} {e : TypeId} {vs : List Value} (hb : w.heap[g]? = some (.cells cur e (0, 0))) (ht : cur.toList.take vs.length = vs) : Sort.Holds id w g 0 vs.toArray := by
 intro j hj
 have hj' : j < vs.length := by simpa using hj
 refine ⟨?_, by simp [World.frozen?, hb]⟩
 have h1 : (cur.toList.take vs.length)[j]? = vs[j]? := by rw [ht]
 rw [List.getElem?_take_of_lt hj'] at h1
 simp only [World.cell?, hb, Nat.zero_add]
 simp only [Option.isSome_none, Bool.false_eq_true, if_false]
 rw [← Array.getElem?_toList, h1]
 simp [hj']
theorem heap_put {w : World} {g n : Nat} {os : Array Obj} {cur : Array Value} {e : TypeId} {fr : Nat × Nat} (d : Array Value) (hb : w.heap[g]? = some (.cells cur e fr)) :
  (Sort.grow (Sort.putRow id (Sort.ahead w n) g 0 d) os).heap[g]? = some (.cells (Sort.putCells id 0 d cur) e fr) := by
 have hg : g < w.heap.size := (Array.getElem?_eq_some_iff.1 hb).1
 rw [Sort.heap_grow_old _ _ (by simpa using hg)]
 simp [Sort.putRow, Sort.mapBlock, Sort.ahead, Array.getElem?_modify, hb, Sort.onCells]
theorem grown_put {w : World} {g n : Nat} {os : Array Obj} (d : Array Value) : w.grownBy (Sort.grow (Sort.putRow id (Sort.ahead w n) g 0 d) os) (some g) := by
 refine ⟨rfl, rfl, rfl, by simp, fun k hk hne => ?_⟩
 rw [Sort.heap_grow_old _ _ (by simpa using hk)]
 have : g ≠ k := fun e => hne (by rw [e])
 simp [Sort.putRow, Sort.mapBlock, Sort.ahead, Array.getElem?_modify, this]
theorem take_put' (cur : Array Value) (ts : List Value) (h : ts.length ≤ cur.size) : (Sort.putCells id 0 ts.toArray cur).toList.take ts.length = ts := by
 apply List.ext_getElem?
 intro j
 by_cases hj : j < ts.length
 ·rw [List.getElem?_take_of_lt hj, Array.getElem?_toList]
  simp [Sort.putCells, hj, show j < cur.size by omega]
 ·rw [List.getElem?_take_eq_none (by omega), List.getElem?_eq_none (by omega)]
theorem sortMv_holds : SortMvSaid := by
 intro base v xs w h hl
 rcases h.2 with ⟨rfl, hz⟩ | ⟨g, cap, cur, rfl, hg, hb, hn, hm, hs, ht⟩
 ·obtain rfl : xs = [] := List.length_eq_zero_iff.1 hz
  refine (Tryz.sortNone none 0 _ w).mono ?_
  rintro e w' ⟨rfl, rfl⟩
  exact ⟨rfl, by simpa [sortZ] using h, ⟨rfl, rfl, rfl, Nat.le_refl _, fun _ _ _ => rfl⟩⟩
 ·have hlt : g < w.heap.size := (Array.getElem?_eq_some_iff.1 hb).1
  have hH : Sort.HoldsK encMv 3 w g 0 xs.toArray := by
   unfold Sort.HoldsK
   rw [flatK_mv]
   exact holds_of_cells hb (by rw [flatM_len]; exact ht)
  have hc := Tryz.sortMoves Tryz.isAgg44 Tryz.sizeOf44 encMv (fun _ => rfl) (fun x v hv => by simp [encMv] at hv; rcases hv with rfl | rfl | rfl <;> rfl) ordM ordM_swo 95 #[] g 0 cap xs.toArray w
   (enters_of Tryz.func95 (by kernel_rfl) rfl) (fun _ _ _ _ x y => ord_any x y _) hH hlt (by simp; omega) ordM_total
  simp only [List.size_toArray] at hc
  refine hc.mono ?_
  rintro e w' ⟨rfl, n, os, rfl⟩
  have hsl : (sortZ xs).length = xs.length := List.length_mergeSort _
  refine ⟨rfl, ?_, ?_⟩
  ·show (Sort.grow (Sort.putRow id (Sort.ahead w n) g 0 (Sort.flatK encMv 3 (sortZ xs).toArray)) os).ownsRow base 44 3 _ _ _
   rw [flatK_mv]
   refine ⟨by rw [flatM_len, hsl], .inr ⟨g, cap, _, rfl, hg, heap_put _ hb, hn, hm, by simp [Sort.putCells, hs], ?_⟩⟩
   have h3 := take_put' cur (flatM (sortZ xs)) (by rw [flatM_len, hsl, hs]; omega)
   rw [flatM_len, hsl] at h3
   exact h3
  ·exact grown_put _
end Go.Proofs.YthklhndcdijneaaGreatDoor

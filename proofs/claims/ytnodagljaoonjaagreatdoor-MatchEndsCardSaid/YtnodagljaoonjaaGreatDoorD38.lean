/- MaY, OpenR, OpenM, OpenP, OpenV, MaOp, GxR, MaRs. -/
import Derived.Test.YtnodagljaoonjaaGreatDoorD37
import Derived.Test.YtnodagljaoonjaaGreatDoorC09
import Derived.Test.YtnodagljaoonjaaGreatDoorC05
import Derived.Test.YtnodagljaoonjaaGreatDoorC01
import Derived.Test.YtnodagljaoonjaaGreatDoorC34
import Derived.Deep.Slices
import Derived.Deep.Fields
import Derived.Stop.LaidErr
import Derived.LaidMore
import Derived.ChangeSame
import Derived.ChangeVars
import Derived.ProofKit
import Derived.Test.YtnodagljaoonjaaGreatDoorC23
namespace Go.Proofs.YtnodagljaoonjaaGreatDoor
open Go.ChangeShapes Go.WideShapes Go.ChangeAt Go.RowKit
set_option linter.unusedVariables false
variable {S : Nat → Prop} {base b : Nat} {M : MatZ} {B : MatB}
def evEl : El EvZ where
 k := 7
 E := fun _ x cs => cs = [.int .i64 x.kind, .int .i64 x.player, .int .i64 x.n, .int .i64 x.now, .int .i64 x.m.src, .int .i64 x.m.dst, .int .i64 x.m.piece] ∧ evOk x
 mono := fun h _ _ => h
 len := fun h => by rw [h.1]; rfl
theorem evs_at {w : World} {a : Option Addr} {n c : Nat} {xs : List EvZ} (h : RdL evEl w (.slice a n c) xs) (i : Nat) (hi : i < xs.length) : ∃ g o, a = some ⟨g, o, none⟩ ∧ g < w.heap.size ∧ evOk xs[i] ∧ w.cell? ⟨g, o + i * 7, none⟩ = some (.int .i64 xs[i].kind) ∧ w.cell? ⟨g, o + i * 7 + 1, none⟩ = some (.int .i64 xs[i].player) ∧
  w.cell? ⟨g, o + i * 7 + 2, none⟩ = some (.int .i64 xs[i].n) ∧ w.cell? ⟨g, o + i * 7 + 3, none⟩ = some (.int .i64 xs[i].now) ∧ w.cell? ⟨g, o + i * 7 + 4, none⟩ = some (.int .i64 xs[i].m.src) ∧ w.cell? ⟨g, o + i * 7 + 5, none⟩ = some (.int .i64 xs[i].m.dst) ∧ w.cell? ⟨g, o + i * 7 + 6, none⟩ = some (.int .i64 xs[i].m.piece) := by
 obtain ⟨g, o, ha, hg, hc⟩ := h.some (by omega)
 obtain ⟨cs, ⟨rfl, hok⟩, hx⟩ := hc i hi
 exact ⟨g, o, ha, hg, hok, hx 0 (by show 0 < 7; omega), hx 1 (by show 1 < 7; omega), hx 2 (by show 2 < 7; omega), hx 3 (by show 3 < 7; omega), hx 4 (by show 4 < 7; omega), hx 5 (by show 5 < 7; omega), hx 6 (by show 6 < 7; omega)⟩
theorem great_anyG (R : RulesZ) (vp vs ve : Value) (w : World) (h : RdI w vs R.start) : Calls Tryz.prog 7 #[(.agg #[.string R.name, .int .i64 R.width, .int .i64 R.height, vp, vs, .bool R.falls, .bool R.keeps, ve, .int .i64 R.blocked, .int .i64 R.quiet, .int .i64 R.rept])] w fun e w' => e = .returned (.bool (decide (20 < (R.start.length : Int)))) ∧ Below w.heap.size w w' := by
 obtain ⟨a, c, rfl, h1, h2⟩ := h.form
 unfold maxLen at h2
 clear h
 go_enter Tryz.func7, Tryz.ntmps7
 go_wp2
 go_ret
 exact ⟨rfl, (Below.refl _ _).alloc (Nat.le_refl _) _⟩
theorem MatchAt.lows {w : World} (h : MatchAt S base w b M B) (k : Nat) (hk : S k ∨ one1 b k) : k < w.heap.size := by
 obtain ⟨up, us, ue, vl, vm, rows, hg⟩ := h.game
 rcases hk with hk | hk
 ·exact (hg.lo k hk).2
 ·rw [show k = b from hk]; exact h.box.lt
theorem box_match {wA w w' : World} {bx : Nat} {cs : List Value} {t : TypeId} (hA : ∀ k, S k ∨ one1 b k → k < wA.heap.size) (ho : Box w bx cs t) (hb : wA.heap.size ≤ bx) (hf : MFr S b w w') : Box w' bx cs t :=
 (hf.block bx ho.lt (fun hc => by have := hA bx hc; omega)).trans ho
end Go.Proofs.YtnodagljaoonjaaGreatDoor
namespace Go.Proofs.YtnodagljaoonjaaGreatDoor
open Go.ChangeShapes Go.WideShapes Go.ChangeAt Go.RowKit Go.Deep
set_option linter.unusedVariables false
set_option maxRecDepth 100000
section
variable {H : Type} {enc : TypeId × Value → H} {P : Program} {w : World}
theorem block_lt' {w : World} {p : Addr} {v : Value} (h : w.cell? p = some v) : p.block < w.heap.size := by
 rcases Nat.lt_or_ge p.block w.heap.size with hlt | hge
 ·exact hlt
 ·simp [World.cell?, Array.getElem?_eq_none hge] at h
theorem add_none' (b off n : Nat) : (⟨b, off, none⟩ : Addr).add n = ⟨b, off + n, none⟩ := by
 unfold Addr.add; split
 ·rename_i h; subst h; rfl
 ·rfl
/-- a slice whose elements are opened by hel. -/
theorem open_list {α : Type} (el : El α) {t e : TypeId} (hu : P.underlying t = some (.slice e)) (hC : P.cellsOf e = el.k) (hk : 0 < el.k)
  (hel : ∀ fuel cs y, DataW.trod enc P w 0 (fun _ => true) true fuel e cs = some y → ∃ x, el.E w x cs)
  {fuel : Nat} {cs : List Value} {y : DataW H × List MemPlace} (h : DataW.trod enc P w 0 (fun _ => true) true fuel t cs = some y) : ∃ v xs, cs = [v] ∧ RdL el w v xs := by
 rcases open_slice hu h with ⟨rfl, _⟩ | ⟨a, len, cap, m, n, D, Pl, rfl, hb, hl, hm, hmm, hx, hi⟩
 ·exact ⟨_, [], rfl, RdL.nil el w⟩
 ·simp only [if_true] at hmm
  obtain rfl : cap = m := hmm.symm
  by_cases h0 : len = 0
  ·subst h0
   exact ⟨_, [], rfl, .inl ⟨_, _, rfl, hm, rfl⟩⟩
  ·have hall : ∀ i : Fin len, ∃ x : α, ∃ cs', w.cells? 0 (a.add (i.1 * el.k)) el.k = some cs' ∧ el.E w x cs' := fun i => by
    obtain ⟨cs', h1, h2⟩ := hi i.1 (by omega)
    rw [hC] at h1
    obtain ⟨x, hx⟩ := hel _ _ _ h2
    exact ⟨x, cs', h1, hx⟩
   have hspot : a.spot = none ∧ a.block < w.heap.size := by
    obtain ⟨x, cs', h1, h2⟩ := hall ⟨0, by omega⟩
    have h3 := (World.cells?_some h1).2.2 0 hk
    have hl' := el.len h2
    rw [List.getElem?_eq_getElem (by omega)] at h3
    have h4 : w.cell? a = some cs'[0] := by simpa [Addr.add] using h3
    exact ⟨World.cell?_spot h4, block_lt' h4⟩
   obtain ⟨g, o, s⟩ := a
   obtain ⟨rfl, hg⟩ := hspot
   simp only at hg
   refine ⟨_, List.ofFn fun i => Classical.choose (hall i), rfl, .inr ⟨g, o, cap, by simp, by simpa using hl, hm, hg, fun i hi' => ?_⟩⟩
   have hi2 : i < len := by simpa using hi'
   obtain ⟨cs', h1, h2⟩ := Classical.choose_spec (hall ⟨i, hi2⟩)
   refine ⟨cs', by simpa using h2, fun j hj => ?_⟩
   have := (World.cells?_some h1).2.2 j hj
   rw [add_none', add_none'] at this
   exact this
theorem trod_flat {base : Nat} {spare : Nat → Bool} {held : Bool} {t : TypeId} {fs : Array Field} {fuel : Nat} {cs : List Value} {x : DataW H × List MemPlace} (ht : P.underlying t = some (.struct fs)) (h1 : oneCellFields P fs = true)
  (h : DataW.trod enc P w base spare held fuel t cs = some x) : ∃ (xs : List (DataW H × List MemPlace)) (n : Nat), cs.length = P.cellsOf t ∧ xs.length = fs.size ∧ ∀ (i : Nat) (f : Field), fs[i]? = some f → DataW.trod enc P w base spare held n f.type ((cs.drop i).take 1) = xs[i]? := by
 obtain ⟨xs, n, _, _, hl, hx, hf⟩ := DataW.trod_struct ht h
 refine ⟨xs, n, hl, hx, fun i f hi => ?_⟩
 obtain ⟨o, q⟩ := hone_of h1 i f hi
 have := hf i f hi
 rw [o, q] at this
 exact this
theorem four_cells {cs : List Value} (h : cs.length = 4) : ∃ a b c d, cs = [a, b, c, d] := by
 match cs, h with
 | [a, b, c, d], _ => exact ⟨a, b, c, d, rfl⟩
theorem three_cells {cs : List Value} (h : cs.length = 3) : ∃ a b c, cs = [a, b, c] := by
 match cs, h with
 | [a, b, c], _ => exact ⟨a, b, c, rfl⟩
theorem open_way (fuel : Nat) (cs : List Value) (y : DataW H × List MemPlace) (h : DataW.trod enc Tryz.prog w 0 (fun _ => true) true fuel 120 cs = some y) : ∃ x, wayEl.E w x cs := by
 obtain ⟨xs, n, hlen, hxl, hf⟩ := trod_flat Tryz.underlying120 (by kernel_rfl) h
 obtain ⟨a, b, c, d, rfl⟩ := four_cells (hlen.trans (by kernel_rfl))
 have hx : xs.length = 4 := hxl
 obtain ⟨y0, y1, y2, y3, rfl⟩ : ∃ a b c d, xs = [a, b, c, d] := by
  match xs, hx with
  | [a, b, c, d], _ => exact ⟨a, b, c, d, rfl⟩
 have f0 := hf 0 _ rfl
 have f1 := hf 1 _ rfl
 have f2 := hf 2 _ rfl
 have f3 := hf 3 _ rfl
 obtain ⟨n0, e0, -, -⟩ := DataW.trod_int Tryz.underlying3 f0
 obtain ⟨n1, e1, -, -⟩ := DataW.trod_int Tryz.underlying3 f1
 obtain ⟨n2, e2, -, -⟩ := DataW.trod_int Tryz.underlying3 f2
 obtain ⟨n3, e3, -, -⟩ := DataW.trod_int Tryz.underlying3 f3
 simp at e0 e1 e2 e3
 subst e0 e1 e2 e3
 exact ⟨⟨n0, n1, n2, n3⟩, rfl⟩
theorem open_piece (fuel : Nat) (cs : List Value) (y : DataW H × List MemPlace) (h : DataW.trod enc Tryz.prog w 0 (fun _ => true) true fuel 106 cs = some y) : ∃ x, pieceEl.E w x cs := by
 obtain ⟨xs, n, hlen, hxl, hf⟩ := trod_flat Tryz.underlying106 (by kernel_rfl) h
 obtain ⟨a, b, c, d, rfl⟩ := four_cells (hlen.trans (by kernel_rfl))
 have hx : xs.length = 4 := hxl
 obtain ⟨y0, y1, y2, y3, rfl⟩ : ∃ a b c d, xs = [a, b, c, d] := by
  match xs, hx with
  | [a, b, c, d], _ => exact ⟨a, b, c, d, rfl⟩
 have f0 := hf 0 _ rfl
 have f1 := hf 1 _ rfl
 have f2 := hf 2 _ rfl
 have f3 := hf 3 _ rfl
 obtain ⟨n0, e0, -, -⟩ := DataW.trod_int Tryz.underlying5 f0
 obtain ⟨n1, e1, -, -⟩ := DataW.trod_int Tryz.underlying3 f1
 obtain ⟨n2, e2, -, -⟩ := DataW.trod_int Tryz.underlying3 f2
 obtain ⟨v, ws, e3, hr⟩ := open_list wayEl Tryz.underlying104 (by kernel_rfl) (by decide) (open_way (enc := enc) (w := w)) f3
 simp at e0 e1 e2 e3
 subst e0 e1 e2 e3
 exact ⟨⟨n0, n1, n2, ws⟩, d, rfl, hr⟩
theorem open_end (fuel : Nat) (cs : List Value) (y : DataW H × List MemPlace) (h : DataW.trod enc Tryz.prog w 0 (fun _ => true) true fuel 108 cs = some y) : ∃ x, endEl.E w x cs := by
 obtain ⟨xs, n, hlen, hxl, hf⟩ := trod_flat Tryz.underlying108 (by kernel_rfl) h
 obtain ⟨a, b, c, d, rfl⟩ := four_cells (hlen.trans (by kernel_rfl))
 have hx : xs.length = 4 := hxl
 obtain ⟨y0, y1, y2, y3, rfl⟩ : ∃ a b c d, xs = [a, b, c, d] := by
  match xs, hx with
  | [a, b, c, d], _ => exact ⟨a, b, c, d, rfl⟩
 have f0 := hf 0 _ rfl
 have f1 := hf 1 _ rfl
 have f2 := hf 2 _ rfl
 have f3 := hf 3 _ rfl
 obtain ⟨n0, e0, -, -⟩ := DataW.trod_int Tryz.underlying3 f0
 obtain ⟨n1, e1, -, -⟩ := DataW.trod_int Tryz.underlying3 f1
 obtain ⟨n2, e2, -, -⟩ := DataW.trod_int Tryz.underlying3 f2
 obtain ⟨n3, e3, -⟩ := DataW.trod_bool Tryz.underlying4 f3
 simp at e0 e1 e2 e3
 subst e0 e1 e2 e3
 exact ⟨⟨n0, n1, n2, n3⟩, rfl⟩
theorem cellOk_spot {r : Reach} {base : Nat} {t e : TypeId} {v : Value} (hu : P.underlying t = some (.slice e)) (hv : Cell.okWide P w r base t v) : (∃ len cap, v = .slice none len cap) ∨ ∃ g o len cap, v = .slice (some ⟨g, o, none⟩) len cap := by
 obtain ⟨a, len, cap, rfl⟩ := cell_slice hu hv
 cases a with
 | none => exact .inl ⟨_, _, rfl⟩
 | some a =>
  obtain ⟨g, o, s⟩ := a
  simp [Cell.okWide, Cell.ok, hu] at hv
  have := hv.2.2.2.1
  subst this
  exact .inr ⟨g, o, _, _, rfl⟩
/-- a slice of integers in a cell. -/
theorem open_ints_cell {r : Reach} {base : Nat} {t e : TypeId} {v : Value} {fuel : Nat} {y : DataW H × List MemPlace} (hu : P.underlying t = some (.slice e)) (he : P.underlying e = some (.int .i64)) (hc : P.cellsOf e = 1)
  (hv : Cell.okWide P w r base t v) (h : DataW.trod enc P w 0 (fun _ => true) true fuel t [v] = some y) : ∃ zs, RdI w v zs := by
 rcases cellOk_spot hu hv with ⟨len, cap, rfl⟩ | ⟨g, o, len, cap, rfl⟩
 ·rcases open_ints hu he hc h with ⟨hcs, _⟩ | ⟨a, len', cap', zs, hcs, _⟩
  ·simp at hcs
   obtain ⟨rfl, rfl⟩ := hcs
   exact ⟨[], Rd.nil _ _⟩
  ·simp at hcs
 ·rcases open_ints hu he hc h with ⟨hcs, _⟩ | ⟨a, len', cap', zs, hcs, _, hl, hm, hz, _, hcell, hwz⟩
  ·simp at hcs
  ·simp at hcs
   obtain ⟨rfl, rfl, rfl⟩ := hcs
   simp only [if_true] at hz
   refine ⟨zs.take len, by simp [ints], .inr ⟨g, o, cap, by simp [hz, hl], by simp [hz, hl], hm, fun i hi => ?_⟩⟩
   have hi' : i < len := by simp at hi; omega
   have := hcell i (by omega)
   rw [add_none'] at this
   rw [this, ints_get _ i (by simp; omega)]
   congr 2
   simp [List.getD, hi']
theorem open_R {r : Reach} {base : Nat} {v : Value} {d : DataW H} {p : List MemPlace} (hv : Value.okWide Tryz.prog w r base 26 v) (h : DataW.Trod enc Tryz.prog w 0 (fun _ => true) true 26 v d p) :
  ∃ (R : RulesZ) (vp vs ve : Value), v = rulesV R vp vs ve ∧ RdR w R vp vs ve ∧ R.name.size ≤ maxLen := by
 obtain ⟨cs, rfl, hl, hcell⟩ := okWide_cells (ts := [9, 3, 3, 22, 23, 4, 4, 24, 3, 3, 3]) Tryz.underlying26 (by kernel_rfl) (by kernel_rfl) hv
 obtain ⟨fuel, hf⟩ := h
 simp only [Value.cells] at hf
 obtain ⟨xs, n, _, hxl, hf⟩ := trod_flat Tryz.underlying26 (by kernel_rfl) hf
 obtain ⟨k0, k1, k2, k3, k4, k5, k6, k7, k8, k9, k10, rfl⟩ : ∃ k0 k1 k2 k3 k4 k5 k6 k7 k8 k9 k10, cs = [k0, k1, k2, k3, k4, k5, k6, k7, k8, k9, k10] := by
  match cs, hl with
  | [k0, k1, k2, k3, k4, k5, k6, k7, k8, k9, k10], _ => exact ⟨k0, k1, k2, k3, k4, k5, k6, k7, k8, k9, k10, rfl⟩
 have hx : xs.length = 11 := hxl
 obtain ⟨y0, y1, y2, y3, y4, y5, y6, y7, y8, y9, y10, rfl⟩ : ∃ k0 k1 k2 k3 k4 k5 k6 k7 k8 k9 k10, xs = [k0, k1, k2, k3, k4, k5, k6, k7, k8, k9, k10] := by
  match xs, hx with
  | [k0, k1, k2, k3, k4, k5, k6, k7, k8, k9, k10], _ => exact ⟨k0, k1, k2, k3, k4, k5, k6, k7, k8, k9, k10, rfl⟩
 have ci : Tryz.prog.cellsOf 3 = 1 := by kernel_rfl
 have f0 := hf 0 _ rfl
 have f1 := hf 1 _ rfl
 have f2 := hf 2 _ rfl
 have f3 := hf 3 _ rfl
 have f4 := hf 4 _ rfl
 have f5 := hf 5 _ rfl
 have f6 := hf 6 _ rfl
 have f7 := hf 7 _ rfl
 have f8 := hf 8 _ rfl
 have f9 := hf 9 _ rfl
 have f10 := hf 10 _ rfl
 obtain ⟨s, e0, -, hs⟩ := DataW.trod_string Tryz.underlying9 f0
 obtain ⟨n1, e1, -, -⟩ := DataW.trod_int Tryz.underlying3 f1
 obtain ⟨n2, e2, -, -⟩ := DataW.trod_int Tryz.underlying3 f2
 obtain ⟨v3, ps, e3, hp⟩ := open_list pieceEl Tryz.underlying22 (by kernel_rfl) (by decide) (open_piece (enc := enc) (w := w)) f3
 obtain ⟨b5, e5, -⟩ := DataW.trod_bool Tryz.underlying4 f5
 obtain ⟨b6, e6, -⟩ := DataW.trod_bool Tryz.underlying4 f6
 obtain ⟨v7, es, e7, he⟩ := open_list endEl Tryz.underlying24 (by kernel_rfl) (by decide) (open_end (enc := enc) (w := w)) f7
 obtain ⟨n8, e8, -, -⟩ := DataW.trod_int Tryz.underlying3 f8
 obtain ⟨n9, e9, -, -⟩ := DataW.trod_int Tryz.underlying3 f9
 obtain ⟨n10, e10, -, -⟩ := DataW.trod_int Tryz.underlying3 f10
 simp at e0 e1 e2 e3 e5 e6 e7 e8 e9 e10
 subst e0 e1 e2 e3 e5 e6 e7 e8 e9 e10
 obtain ⟨u, hu, hc4⟩ := hcell 4 k4 rfl
 simp at hu
 subst hu
 obtain ⟨zs, hz⟩ := open_ints_cell Tryz.underlying23 Tryz.underlying3 ci hc4 (by simpa using f4)
 exact ⟨⟨s, n1, n2, ps, zs, b5, b6, es, n8, n9, n10⟩, k3, k4, k7, rfl, ⟨hp, hz, he⟩, hs⟩
end
end Go.Proofs.YtnodagljaoonjaaGreatDoor
namespace Go.Proofs.YtnodagljaoonjaaGreatDoor
open Go.ChangeShapes Go.WideShapes Go.ChangeAt Go.RowKit Go.Deep
set_option linter.unusedVariables false
section
variable {H : Type} {enc : TypeId × Value → H} {w : World}
end
end Go.Proofs.YtnodagljaoonjaaGreatDoor
namespace Go.Proofs.YtnodagljaoonjaaGreatDoor
open Go.ChangeShapes Go.WideShapes Go.ChangeAt Go.RowKit Go.Deep
set_option linter.unusedVariables false
section
variable {H : Type} {enc : TypeId × Value → H} {w : World}
theorem fld {P : Program} {base : Nat} {spare : Nat → Bool} {held : Bool} {fs : Array Field} {n : Nat} {cs : List Value} {xs : List (DataW H × List MemPlace)}
  (hf : ∀ (i : Nat) (f : Field), fs[i]? = some f → DataW.trod enc P w base spare held n f.type ((cs.drop f.offset).take (P.cellsOf f.type)) = xs[i]?) (i o k : Nat) (ti : TypeId)
  (h : (fs[i]?.map fun f => (f.offset, f.type)) = some (o, ti)) (hk : P.cellsOf ti = k) : DataW.trod enc P w base spare held n ti ((cs.drop o).take k) = xs[i]? := by
 simp only [Option.map_eq_some_iff, Prod.mk.injEq] at h
 obtain ⟨f, hi, rfl, rfl⟩ := h
 have := hf i f hi
 rw [hk] at this
 exact this
end
end Go.Proofs.YtnodagljaoonjaaGreatDoor
namespace Go.Proofs.YtnodagljaoonjaaGreatDoor
open Go.ChangeShapes Go.WideShapes Go.ChangeAt Go.RowKit Go.Deep
set_option linter.unusedVariables false
section
variable {H : Type} {enc : TypeId × Value → H} {w : World}
theorem okWide_spot2 {P : Program} {r : Reach} {base : Nat} {t e : TypeId} {v : Value} (hu : P.underlying t = some (.slice e)) (hv : Value.okWide P w r base t v) : (∃ c, v = .slice none 0 0 ∧ c = 0) ∨ ∃ g o len cap, v = .slice (some ⟨g, o, none⟩) len cap := by
 simp only [Value.okWide, hu, Cell.okWide, Cell.ok] at hv
 split at hv <;> simp_all
 rename_i a len cap _
 obtain ⟨g, o, s⟩ := a
 have := hv.2.2.2.1
 simp at this
 subst this
 exact ⟨g, o, rfl⟩
theorem open_listV {α : Type} (el : El α) {P : Program} {r : Reach} {base : Nat} {t e : TypeId} {v : Value} {d : DataW H} {p : List MemPlace} (hu : P.underlying t = some (.slice e)) (hC : P.cellsOf e = el.k) (hk : 0 < el.k)
  (hel : ∀ fuel cs y, DataW.trod enc P w 0 (fun _ => true) true fuel e cs = some y → ∃ x, el.E w x cs) (hv : Value.okWide P w r base t v) (h : DataW.Trod enc P w 0 (fun _ => true) true t v d p) : ∃ xs, RdL el w v xs := by
 obtain ⟨fuel, hf⟩ := h
 rcases okWide_spot2 hu hv with ⟨_, rfl, _⟩ | ⟨g, o, len, cap, rfl⟩
 ·exact ⟨[], RdL.nil _ _⟩
 ·obtain ⟨v', xs, hc, hr⟩ := open_list el hu hC hk hel hf
  simp [Value.cells] at hc
  subst hc
  exact ⟨xs, hr⟩
end
end Go.Proofs.YtnodagljaoonjaaGreatDoor
namespace Go.Proofs.YtnodagljaoonjaaGreatDoor
open Go.ChangeShapes Go.WideShapes Go.ChangeAt Go.RowKit Go.Deep
set_option linter.unusedVariables false
set_option maxRecDepth 100000
section
variable {H : Type} {enc : TypeId × Value → H} {w : World}
theorem open_per (fuel : Nat) (cs : List Value) (y : DataW H × List MemPlace) (h : DataW.trod enc Tryz.prog w 0 (fun _ => true) true fuel 110 cs = some y) : ∃ x, perEl.E w x cs := by
 obtain ⟨xs, n, hlen, hxl, hf⟩ := trod_flat Tryz.underlying110 (by kernel_rfl) h
 obtain ⟨a, b, rfl⟩ : ∃ a b, cs = [a, b] := by
  have hl : cs.length = 2 := hlen.trans (by kernel_rfl)
  match cs, hl with
  | [a, b], _ => exact ⟨a, b, rfl⟩
 have hx : xs.length = 2 := hxl
 obtain ⟨y0, y1, rfl⟩ : ∃ a b, xs = [a, b] := by
  match xs, hx with
  | [a, b], _ => exact ⟨a, b, rfl⟩
 have f0 := hf 0 _ rfl
 have f1 := hf 1 _ rfl
 obtain ⟨n0, e0, -, -⟩ := DataW.trod_int Tryz.underlying3 f0
 obtain ⟨n1, e1, -, -⟩ := DataW.trod_int Tryz.underlying3 f1
 simp at e0 e1
 subst e0 e1
 exact ⟨(n0, n1), rfl⟩
theorem open_CR {r : Reach} {base : Nat} {v : Value} {d : DataW H} {p : List MemPlace} (hv : Value.okWide Tryz.prog w r base 29 v) (h : DataW.Trod enc Tryz.prog w 0 (fun _ => true) true 29 v d p) :
  ∃ (CR : CrZ) (pa : Option Addr) (pc : Nat), v = .agg #[.slice pa CR.ps.length pc, .int .i64 CR.inc, .int .i64 CR.delay] ∧ clk.PerAt w w.heap.size pa CR.ps.length CR.ps ∧ CR.ps.length ≤ pc ∧ pc ≤ maxLen := by
 obtain ⟨cs, rfl, hl, hcell⟩ := okWide_cells (ts := [27, 3, 3]) Tryz.underlying29 (by kernel_rfl) (by kernel_rfl) hv
 obtain ⟨fuel, hf⟩ := h
 simp only [Value.cells] at hf
 obtain ⟨xs, n, _, _, _, hxl, hf⟩ := DataW.trod_struct Tryz.underlying29 hf
 obtain ⟨a, b, c, rfl⟩ := three_cells hl
 have hx : xs.length = 3 := hxl
 obtain ⟨y0, y1, y2, rfl⟩ : ∃ a b c, xs = [a, b, c] := by
  match xs, hx with
  | [a, b, c], _ => exact ⟨a, b, c, rfl⟩
 have f0 := fld hf 0 0 1 27 (by kernel_rfl) (by kernel_rfl)
 have f1 := fld hf 1 1 1 3 (by kernel_rfl) (by kernel_rfl)
 have f2 := fld hf 2 2 1 3 (by kernel_rfl) (by kernel_rfl)
 obtain ⟨n0, e0, -, -⟩ := DataW.trod_int Tryz.underlying3 f1
 obtain ⟨n1, e1, -, -⟩ := DataW.trod_int Tryz.underlying3 f2
 simp at e0 e1
 subst e0 e1
 obtain ⟨v', ps, hc, hr⟩ := open_list perEl Tryz.underlying27 (by kernel_rfl) (by decide) (open_per (enc := enc) (w := w)) (by simpa using f0)
 simp at hc
 subst hc
 obtain ⟨pa, pc, rfl, h1, h2⟩ := hr.form
 exact ⟨⟨ps, n0, n1⟩, pa, pc, rfl, rdl_per hr, h1, h2⟩
theorem open_ev (fuel : Nat) (cs : List Value) (y : DataW H × List MemPlace) (h : DataW.trod enc Tryz.prog w 0 (fun _ => true) true fuel 40 cs = some y) : ∃ x, evEl.E w x cs := by
 obtain ⟨xs, n, _, _, hlen, hxl, hf⟩ := DataW.trod_struct Tryz.underlying40 h
 obtain ⟨a, b, c, d, e, f, g, rfl⟩ : ∃ a b c d e f g, cs = [a, b, c, d, e, f, g] := by
  have hl : cs.length = 7 := hlen.trans (by kernel_rfl)
  match cs, hl with
  | [a, b, c, d, e, f, g], _ => exact ⟨a, b, c, d, e, f, g, rfl⟩
 have hx : xs.length = 5 := hxl
 obtain ⟨y0, y1, y2, y3, y4, rfl⟩ : ∃ a b c d e, xs = [a, b, c, d, e] := by
  match xs, hx with
  | [a, b, c, d, e], _ => exact ⟨a, b, c, d, e, rfl⟩
 have f0 := fld hf 0 0 1 3 (by kernel_rfl) (by kernel_rfl)
 have f1 := fld hf 1 1 1 3 (by kernel_rfl) (by kernel_rfl)
 have f2 := fld hf 2 2 1 3 (by kernel_rfl) (by kernel_rfl)
 have f3 := fld hf 3 3 1 3 (by kernel_rfl) (by kernel_rfl)
 have f4 := fld hf 4 4 3 38 (by kernel_rfl) (by kernel_rfl)
 obtain ⟨ms, m, hml, hmx, hm⟩ := trod_flat Tryz.underlying38 (by kernel_rfl) f4
 have hmx3 : ms.length = 3 := hmx
 obtain ⟨z0, z1, z2, rfl⟩ : ∃ a b c, ms = [a, b, c] := by
  match ms, hmx3 with
  | [a, b, c], _ => exact ⟨a, b, c, rfl⟩
 have g0 := hm 0 _ rfl
 have g1 := hm 1 _ rfl
 have g2 := hm 2 _ rfl
 obtain ⟨n0, e0, -, w0⟩ := DataW.trod_int Tryz.underlying3 f0
 obtain ⟨n1, e1, -, w1⟩ := DataW.trod_int Tryz.underlying3 f1
 obtain ⟨n2, e2, -, w2⟩ := DataW.trod_int Tryz.underlying3 f2
 obtain ⟨n3, e3, -, w3⟩ := DataW.trod_int Tryz.underlying3 f3
 obtain ⟨n4, e4, -, w4⟩ := DataW.trod_int Tryz.underlying3 g0
 obtain ⟨n5, e5, -, w5⟩ := DataW.trod_int Tryz.underlying3 g1
 obtain ⟨n6, e6, -, w6⟩ := DataW.trod_int Tryz.underlying3 g2
 simp at e0 e1 e2 e3 e4 e5 e6
 subst e0 e1 e2 e3 e4 e5 e6
 refine ⟨⟨n0, n1, n2, n3, ⟨n4, n5, n6⟩⟩, rfl, ?_⟩
 have q1 : IntKind.i64.min = -9223372036854775808 := rfl
 have q2 : IntKind.i64.max = 9223372036854775807 := rfl
 simp [Lit.wf, q1, q2] at w0 w1 w2 w3 w4 w5 w6
 intro x hx
 simp only [evL, List.mem_cons, List.not_mem_nil, or_false] at hx
 rcases hx with rfl | rfl | rfl | rfl | rfl | rfl | rfl <;> omega
theorem open_evs {r : Reach} {base : Nat} {v : Value} {d : DataW H} {p : List MemPlace} (hv : Value.okWide Tryz.prog w r base 30 v) (h : DataW.Trod enc Tryz.prog w 0 (fun _ => true) true 30 v d p) : ∃ xs, RdL evEl w v xs :=
 open_listV evEl Tryz.underlying30 (by kernel_rfl) (by decide) (open_ev (enc := enc) (w := w)) hv h
theorem open_evV {r : Reach} {base : Nat} {v : Value} {d : DataW H} {p : List MemPlace} (hv : Value.okWide Tryz.prog w r base 40 v) (h : DataW.Trod enc Tryz.prog w 0 (fun _ => true) true 40 v d p) : ∃ x : EvZ, v = .agg #[.int .i64 x.kind, .int .i64 x.player, .int .i64 x.n, .int .i64 x.now, .int .i64 x.m.src, .int .i64 x.m.dst, .int .i64 x.m.piece] ∧ evOk x := by
 obtain ⟨cs, rfl, hl, hcell⟩ := okWide_cells (ts := [3, 3, 3, 3, 3, 3, 3]) Tryz.underlying40 (by kernel_rfl) (by kernel_rfl) hv
 obtain ⟨fuel, hf⟩ := h
 simp only [Value.cells] at hf
 obtain ⟨x, hx, hok⟩ := open_ev (enc := enc) (w := w) _ _ _ hf
 exact ⟨x, by rw [← hx], hok⟩
end
end Go.Proofs.YtnodagljaoonjaaGreatDoor
namespace Go.Proofs.YtnodagljaoonjaaGreatDoor.gx
open Go.ChangeShapes Go.WideShapes Go.ChangeAt Go.RowKit
set_option linter.unusedVariables false
theorem results_c2g {P : Program} {fn : Func} {tmps : Array Value} {a s s2 : Nat} {t t' : TypeId} {w : World} {b : Nat} {cs : List Value} {v v2 : Value} {d : TypeDesc} (hr : fn.results = #[.cell a t, .tmp s, .tmp s2])
  (ha : tmps.getD a undef = .pointer (some ⟨b, 0, none⟩)) (hs : tmps.getD s undef = v) (hs2 : tmps.getD s2 undef = v2) (hc : Box w b cs t') (hu : P.underlying t = some d) (hd : d.isRow = true) (hi : (P.info? t).map (·.size) = some cs.length) :
  (results fn tmps).run P w = .ok (.tuple #[.agg cs.toArray, v, v2]) w := by
 have hl := run_loadVar_mid (P := P) w b 0 t cs d hc.range hu hd hi
 have ha' : tmps[a]?.getD undef = .pointer (some ⟨b, 0, none⟩) := by simpa using ha
 have hs' : tmps[s]?.getD undef = v := by simpa using hs
 have hs2' : tmps[s2]?.getD undef = v2 := by simpa using hs2
 unfold results
 rw [hr]
 simp [asAddr, ha', hs', hs2', hl]
def runFrom (R : RulesZ) : List MoveZ → List MoveZ → Int
 | _, [] => 0
 | ms, m :: t => if playErr R ms m ≠ 0 then playErr R ms m else runFrom R (ms ++ [m]) t
def runErr (R : RulesZ) (l : List MoveZ) : Int := if rulesErr R ≠ 0 then rulesErr R else runFrom R [] l
theorem runFrom_step (R : RulesZ) (l : List MoveZ) (k : Nat) (h : k < l.length) : runFrom R (l.take k) (l.drop k) = if playErr R (l.take k) (l.getD k default) ≠ 0 then playErr R (l.take k) (l.getD k default) else runFrom R (l.take (k + 1)) (l.drop (k + 1)) := by
 have e : l.getD k default = l[k] := by rw [List.getD_eq_getElem?_getD, List.getElem?_eq_getElem h]; rfl
 rw [List.drop_eq_getElem_cons h, runFrom, e, List.take_succ_eq_append_getElem h]
def PRunPost (R : RulesZ) (l : List MoveZ) (w : World) (e : Ending) (w' : World) : Prop :=
 (runErr R l ≠ 0 ∧ e = .returned (.tuple #[zeroPos, .int .i64 0, .int .i64 (runErr R l)]) ∧ Below w.heap.size w w') ∨
 (runErr R l = 0 ∧ rulesErr R = 0 ∧ LegalAll R (beginZ R) l ∧ l.length ≤ 400 ∧ ∃ vc v0 v1, e = .returned (.tuple #[posV (nowZ R l) vc v0 v1, .int .i64 (gameRes R l), .int .i64 0]) ∧ OwnP w.heap.size w' (nowZ R l) vc v0 v1 ∧ Below w.heap.size w w')
set_option maxRecDepth 100000 in
set_option maxHeartbeats 4000000 in
theorem PRun_any (HS : SortMvSaid) (R : RulesZ) (vp vs ve : Value) (v : Value) (l : List MoveZ) (w : World) (hr : RdR w R vp vs ve) (hnm : R.name.size ≤ maxLen) (hl : RdL moveEl w v l) :
  Calls Tryz.prog 13 #[(.agg #[.string R.name, .int .i64 R.width, .int .i64 R.height, vp, vs, .bool R.falls, .bool R.keeps, ve, .int .i64 R.blocked, .int .i64 R.quiet, .int .i64 R.rept]), v] w (PRunPost R l w) := by
 have HSh := Lib.hid HS
 have HR := Lib.hid hr
 have HN := Lib.hid hnm
 have HL := Lib.hid hl
 have HD : Hid (runErr R l = if rulesErr R ≠ 0 then rulesErr R else runFrom R [] l) := Lib.hid rfl
 obtain ⟨a, c, rfl, h1, h2⟩ := hl.form
 unfold maxLen at h2
 clear hr hnm hl HS
 go_enter Tryz.func13, Tryz.ntmps13
 go_upto_region 1 with (fail)
 refine opn2 fun w0 B0 B1 yb_ hs_ => ?_
 have HB := Lib.hid yb_
 have hz0 : w.heap.size + 1 < w0.heap.size := by omega
 clear hs_ yb_
 have HRw := Lib.hid (HR.out.below HB.out (Nat.le_refl _))
 have HX0 := Lib.hid B0
 have HX1 := Lib.hid B1
 clear B0 B1
 refine wp_region_lit ?_
 refine wpList_load_box (by rfl) 26 (.tmp 2) (by rfl) w.heap.size (by rfl) HX0.out Tryz.underlying26 (by rfl) (by kernel_rfl) ?_
 go_wp2_with fail
 refine (New_any R vp vs ve w0 HRw.out HN.out).mono ?_
 rintro e w1 (⟨hbad, rfl, hb1⟩ | ⟨hre, S, b, up, us, ue, vl, vm, rows, rfl, hg1, hb1⟩)
 ·have HE : Hid (runErr R l = rulesErr R) := Lib.hid (by rw [HD.out, if_pos hbad])
  have HNE := Lib.hid hbad
  have he' : (rulesErr R != 0) = true := by simpa using hbad
  have HB1 := Lib.hid (below_trans HB.out hb1 HB.out.size)
  have HX11 := Lib.hid (HX1.out.stays hb1)
  clear hbad hb1
  go_wp2_with (refine wpList_store_box (vs := [.slice none 0 0, .slice none 0 0, .slice none 0 0, .int .i64 0, .int .i64 0]) (by rfl) 59 (.tmp 4) (.tmp 19) (by rfl) (w.heap.size + 1) (by rfl) (by rfl) HX11.out rfl (by kernel_rfl) (by rfl) ?_)
  exact bodyPost_ret (results_c2g rfl (by rfl) (by rfl) (by rfl) (HX11.out.store rfl) Tryz.underlying59 (by rfl) (by kernel_rfl)) rfl (.inl ⟨by rw [HE.out]; exact HNE.out, by rw [HE.out]; rfl, below_setCells HB1.out (by omega) 0 _⟩)
 have HD1 : Hid (runErr R l = runFrom R [] l) := Lib.hid (by rw [HD.out, if_neg (by simp [hre])])
 have HRe := Lib.hid hre
 have HG1 := Lib.hid (hg1 (fun _ => False) (fun _ h => h.elim))
 have HB1 := Lib.hid hb1
 clear hg1 hb1 hre HD
 go_wp2_with fail
 go_loopw [23, 10, 11] (fun vi vm' ve' wr => ∃ (k : Nat) (S : Nat → Prop) (vl vm : Value) (rows : List PosV), k ≤ l.length ∧ vi = .int .i64 k ∧ Hid (runErr R l = runFrom R (l.take k) (l.drop k)) ∧ Hid (GameAt (fun _ => False) S w0.heap.size wr b R (l.take k) up us ue vl vm rows) ∧ Hid (Below w0.heap.size w0 wr)) (fun i _ _ _ => l.length - (intOf i).toNat)
 case atStart => exact ⟨0, S, vl, vm, rows, Nat.zero_le _, rfl, HD1, HG1, HB1⟩
 case round =>
  obtain ⟨k, S, vl, vm, rows, hk, rfl, HDk, HG, HBr⟩ := hrel
  have hsz := HBr.out.size
  have hwz := HB.out.size
  have HY1 := Lib.hid (HX1.out.stays HBr.out)
  have HBw := Lib.hid (below_trans HB.out HBr.out HB.out.size)
  by_cases hlt : k < l.length
  ·obtain ⟨g, o, ha, hg, hcc⟩ := moves_some (HL.out.below HBw.out (Nat.le_refl _)) (by omega)
   subst ha
   obtain ⟨c0, c1, c2⟩ := hcc k hlt
   have HST := Lib.hid (runFrom_step R l k hlt)
   have HTK : Hid (l.take (k + 1) = l.take k ++ [l.getD k default]) := Lib.hid (by rw [List.take_succ_eq_append_getElem hlt, List.getD_eq_getElem?_getD, List.getElem?_eq_getElem hlt]; rfl)
   clear hcc
   generalize l.getD k default = m at *
   go_upto_region 7 with (fail)
   have HBm := Lib.hid (Box.new wr [.int .i64 m.src, .int .i64 m.dst, .int .i64 m.piece] 38)
   have HGm := Lib.hid (HG.out.below ((Below.refl _ wr).alloc (Nat.le_refl _) (.cells #[.int .i64 m.src, .int .i64 m.dst, .int .i64 m.piece] 38)))
   have HBn := Lib.hid (HBr.out.alloc hsz (.cells #[.int .i64 m.src, .int .i64 m.dst, .int .i64 m.piece] 38))
   have HZ1 := Lib.hid (HY1.out.alloc (.cells #[.int .i64 m.src, .int .i64 m.dst, .int .i64 m.piece] 38))
   have hzm : wr.heap.size < (wr.alloc (.cells #[.int .i64 m.src, .int .i64 m.dst, .int .i64 m.piece] 38)).heap.size := by simp
   clear c0 c1 c2
   generalize (wr.alloc (.cells #[.int .i64 m.src, .int .i64 m.dst, .int .i64 m.piece] 38)) = wn at *
   have d0 := HBm.out.cell 0 rfl
   have d1 := HBm.out.cell 1 rfl
   have d2 := HBm.out.cell 2 rfl
   go_wp2_with fail
   refine (Play_any HSh.out m wn HGm.out HBn.out.size (fun _ h => h.elim)).mono ?_
   rintro e w2 (⟨hbad, rfl, hb2⟩ | ⟨hok, rfl, S', vl', vm', rows', hg2, hsh, hf2⟩)
   ·have HE : Hid (runErr R l = playErr R (l.take k) m) := Lib.hid (by rw [HDk.out, HST.out, if_pos hbad])
    have HNE := Lib.hid hbad
    have he' : (playErr R (l.take k) m != 0) = true := by simpa using hbad
    have HB2 := Lib.hid (below_trans HB.out (HBn.out.trans (hb2.mono HBn.out.size)) HB.out.size)
    have HZ2 := Lib.hid (HZ1.out.stays hb2)
    clear hbad hb2
    go_wp2_with (refine wpList_store_box (vs := [.slice none 0 0, .slice none 0 0, .slice none 0 0, .int .i64 0, .int .i64 0]) (by rfl) 59 (.tmp 4) (.tmp 32) (by rfl) (w.heap.size + 1) (by rfl) (by rfl) HZ2.out rfl (by kernel_rfl) (by rfl) ?_)
    exact bodyPost_ret (results_c2g rfl (by rfl) (by rfl) (by rfl) (HZ2.out.store rfl) Tryz.underlying59 (by rfl) (by kernel_rfl)) rfl (.inl ⟨by rw [HE.out]; exact HNE.out, by rw [HE.out]; rfl, below_setCells HB2.out (by omega) 0 _⟩)
   ·have HE : Hid (runErr R l = runFrom R (l.take (k + 1)) (l.drop (k + 1))) := Lib.hid (by rw [HDk.out, HST.out, if_neg (by simp [hok])])
    have HG2 : Hid (GameAt (fun _ => False) S' w0.heap.size w2 b R (l.take (k + 1)) up us ue vl' vm' rows') := Lib.hid (by rw [HTK.out]; exact hg2)
    have HB2 := Lib.hid (HBn.out.trans (HGm.out.plain.frame hf2 HBn.out.size))
    clear hok hg2 hsh hf2
    go_wp2_with fail
    go_roundw
    case rel => exact ⟨k + 1, S', vl', vm', rows', by omega, by go_num, HE, HG2, HB2⟩
    case measure => simp [intOf]; omega
  ·obtain rfl : k = l.length := by omega
   have HGl : Hid (GameAt (fun _ => False) S w0.heap.size wr b R l up us ue vl vm rows) := Lib.hid (by have := HG.out; rwa [List.take_of_length_le (Nat.le_refl _)] at this)
   have HE : Hid (runErr R l = 0) := Lib.hid (by rw [HDk.out, List.drop_of_length_le (Nat.le_refl _)]; rfl)
   have HLA := Lib.hid HGl.out.la
   have HLT := Lib.hid HGl.out.lt
   clear HG HDk
   go_upto_region 11 with (fail)
   go_wp2_with fail
   refine (gamePos_any wr HGl.out.plain).mono ?_
   rintro e w2 ⟨yc, y0, y1, rfl, ho2, hb2⟩
   obtain ⟨ya, yn, rfl⟩ := own_form2 ho2.1
   obtain ⟨ya0, yn0, rfl⟩ := own_form2 ho2.2.1
   obtain ⟨ya1, yn1, rfl⟩ := own_form2 ho2.2.2.1
   have HG2 := Lib.hid (HGl.out.below hb2)
   have HZ2 := Lib.hid (HY1.out.stays hb2)
   have HB2 := Lib.hid (below_trans HBw.out hb2 HBw.out.size)
   have HO2 := Lib.hid ho2
   have hz1 := HY1.out.lt
   clear hb2 ho2
   go_wp2_with fail
   refine (gameRes_any HSh.out w2 HG2.out.plain).mono ?_
   rintro e w3 ⟨rfl, hb3⟩
   have HZ3 := Lib.hid (HZ2.out.stays hb3)
   have HB3 := Lib.hid (below_trans HB2.out hb3 HB2.out.size)
   have HO3 : Hid (OwnP wr.heap.size w3 (nowZ R l) (.slice ya (nowZ R l).cells.length yn) (.slice ya0 (nowZ R l).h0.length yn0) (.slice ya1 (nowZ R l).h1.length yn1)) := Lib.hid ⟨own_stays HO2.out.1 hb3, own_stays HO2.out.2.1 hb3, own_stays HO2.out.2.2.1 hb3, HO2.out.2.2.2⟩
   clear hb3
   go_wp2_with (refine wpList_store_box (vs := [.slice ya (nowZ R l).cells.length yn, .slice ya0 (nowZ R l).h0.length yn0, .slice ya1 (nowZ R l).h1.length yn1, .int .i64 (nowZ R l).turn, .int .i64 (nowZ R l).quiet]) (by rfl) 59 (.tmp 4) (.tmp 36) (by rfl) (w.heap.size + 1) (by rfl) (by rfl) HZ3.out rfl (by kernel_rfl) (by rfl) ?_)
   exact bodyPost_ret (results_c2g rfl (by rfl) (by rfl) (by rfl) (HZ3.out.store rfl) Tryz.underlying59 (by rfl) (by kernel_rfl)) rfl (.inr ⟨HE.out, HRe.out, HLA.out, HLT.out, _, _, _, rfl, (HO3.out.setCells hz1 0 _).base (by have := HBw.out.size; omega), below_setCells HB3.out (by omega) 0 _⟩)
end Go.Proofs.YtnodagljaoonjaaGreatDoor.gx
namespace Go.Proofs.YtnodagljaoonjaaGreatDoor
open Go.ChangeShapes Go.WideShapes Go.ChangeAt Go.RowKit
set_option linter.unusedVariables false
/-- the result is that of the moves, or has another reason. -/
structure RInv (M : MatZ) : Prop where
  op : M.res = 0 → M.reason = 0 ∧ M.game = 0
  cl : M.res ≠ 0 → (M.reason = 1 ↔ M.game ≠ 0) ∧ (M.game ≠ 0 → M.game = M.res)
theorem over_game (M : MatZ) : M.over.game = M.game := by
  unfold MatZ.over; split <;> rfl
theorem RInv.over {M : MatZ} (h0 : M.res = 0 → M.reason = 0) (h1 : M.res ≠ 0 → M.reason ≠ 1 ∧ M.game = 0) : RInv M.over := by
  have hg := over_game M
  unfold MatZ.over at hg ⊢
  split
  · rename_i hc
    rw [if_pos hc] at hg
    refine ⟨fun h => absurd h hc.1, fun _ => ?_⟩
    rw [hg]
    exact ⟨⟨fun _ => hc.1, fun _ => rfl⟩, fun _ => rfl⟩
  · rename_i hc
    refine ⟨fun h => ⟨h0 h, Decidable.byContradiction fun hn => hc ⟨hn, h⟩⟩, fun h => ?_⟩
    obtain ⟨a, b⟩ := h1 h
    exact ⟨⟨fun hr => absurd hr a, fun hn => absurd b hn⟩, fun hn => absurd b hn⟩
theorem RInv_new (R : RulesZ) (CR : CrZ) (now : Int) : RInv (newM R CR now) := by
  unfold newM
  exact RInv.over (fun _ => rfl) (fun h => absurd rfl h)
theorem runs_res (now : Int) : ∀ (f : Nat) (M : MatZ), (MatZ.runs now f M).res = M.res ∧ (MatZ.runs now f M).reason = M.reason
  | 0, M => ⟨rfl, rfl⟩
  | f + 1, M => by
    rw [MatZ.runs]
    split
    · split
      · exact runs_res now f _
      · exact ⟨rfl, rfl⟩
    · exact ⟨rfl, rfl⟩
/-- what an event leaves, ahead of the end's test. -/
theorem kind_res {M : MatZ} {e : EvZ} (h : RInv M) (hr : M.res = 0) (hpl : e.player = 0 ∨ e.player = 1) (hf : (lookC M.CR M.clk e.now).fallen ≤ 1) : ((M.kind e).1.res = 0 → (M.kind e).1.reason = 0) ∧ ((M.kind e).1.res ≠ 0 → (M.kind e).1.reason ≠ 1 ∧ (M.kind e).1.game = 0) := by
  obtain ⟨h1, h2⟩ := h.op hr
  have same : ∀ N : MatZ, N.res = M.res → N.reason = M.reason → (N.res = 0 → N.reason = 0) ∧ (N.res ≠ 0 → N.reason ≠ 1 ∧ N.game = 0) := fun N a b => ⟨fun _ => b.trans h1, fun hn => absurd (a.trans hr) hn⟩
  unfold MatZ.kind
  split
  · unfold MatZ.doMove
    split
    · exact same _ rfl rfl
    split
    · exact same _ rfl rfl
    split
    · exact same _ rfl rfl
    · obtain ⟨a, b⟩ := runs_res e.now 400 (M.move e.m e.now)
      exact same _ a b
  split
  · unfold MatZ.doOffer
    split <;> split <;> exact same _ rfl rfl
  split
  · unfold MatZ.doAccept
    split
    · exact same _ rfl rfl
    split
    · exact ⟨fun h => absurd h (show (3 : Int) ≠ 0 by decide), fun _ => ⟨show (4 : Int) ≠ 1 by decide, h2⟩⟩
    · exact same _ rfl rfl
  split
  · unfold MatZ.doClaim
    split
    · split
      · exact same _ rfl rfl
      · exact ⟨fun h => absurd h (fallen_ne _ _ _ hf), fun _ => ⟨show (2 : Int) ≠ 1 by decide, h2⟩⟩
    split
    · exact same _ rfl rfl
    split
    · exact same _ rfl rfl
    split
    · exact same _ rfl rfl
    · exact ⟨fun h => absurd h (show (3 : Int) ≠ 0 by decide), fun _ => ⟨show (5 : Int) ≠ 1 by decide, h2⟩⟩
  split
  · unfold MatZ.doPremove
    split
    · exact same _ rfl rfl
    split
    · exact same _ rfl rfl
    · exact same _ rfl rfl
  · exact ⟨fun h => absurd (show 2 - e.player = 0 from h) (by omega), fun _ => ⟨show (3 : Int) ≠ 1 by decide, h2⟩⟩
theorem RInv_go {M : MatZ} {e : EvZ} (h : RInv M) (hi : MInv M) : RInv (M.go e).1 := by
  by_cases hz : (M.go e).2 = 0
  · revert hz
    unfold MatZ.go
    split
    · intro h; rename_i hc; exact absurd h hc
    split
    · intro h; rename_i hc; exact absurd h hc
    · rename_i hp hk
      intro _
      have hp0 : M.preE e = 0 := Decidable.byContradiction hp
      obtain ⟨h1, h2, h3, h4, h5, h6⟩ := pre_zero hp0
      obtain ⟨a, b⟩ := kind_res h h4 h2 (look_g hi.ck e.now).f.2
      exact RInv.over (M := (M.kind e).1.put e) a b
  · rw [go_bad M e hz]; exact h
/-- after the end nothing is accepted. -/
theorem go_over {M : MatZ} (e : EvZ) (h : M.res ≠ 0) : (M.go e).2 ≠ 0 := by
  unfold MatZ.go
  have hp : M.preE e ≠ 0 := by
    unfold MatZ.preE
    split
    · decide
    split
    · decide
    first | decide | (rw [if_pos h]; decide)
  rw [if_pos hp]
  exact hp
theorem runFrom_zer (R : RulesZ) : ∀ (t ms : List MoveZ), gx.runFrom R ms t = 0 ↔ ∀ j, j < t.length → playErr R (ms ++ t.take j) (t.getD j default) = 0
  | [], ms => by simp [gx.runFrom]
  | m :: t, ms => by
    rw [gx.runFrom]
    have ih := runFrom_zer R t (ms ++ [m])
    constructor
    · intro h j hj
      by_cases e : playErr R ms m ≠ 0
      · rw [if_pos e] at h; exact absurd h e
      rw [if_neg e] at h
      cases j with
      | zero => simpa using e
      | succ j =>
        have := ih.1 h j (by simpa using hj)
        simpa using this
    · intro h
      have h0 := h 0 (by simp)
      simp at h0
      rw [if_neg (by simp [h0])]
      refine ih.2 fun j hj => ?_
      have := h (j + 1) (by simpa using hj)
      simpa using this
theorem runErr_zero (R : RulesZ) (l : List MoveZ) : gx.runErr R l = 0 ↔ rulesErr R = 0 ∧ ∀ j, j < l.length → playErr R (l.take j) (l.getD j default) = 0 := by
  unfold gx.runErr
  by_cases e : rulesErr R = 0
  · rw [if_neg (by simp [e]), runFrom_zer]
    simp [e]
  · rw [if_pos e]
    exact ⟨fun h => absurd h e, fun h => absurd h.1 e⟩
theorem getD_low (l r : List MoveZ) (j : Nat) (h : j < l.length) : (l ++ r).getD j default = l.getD j default := by
  rw [List.getD_eq_getElem?_getD, List.getD_eq_getElem?_getD, List.getElem?_append_left h]
theorem run_snoc {R : RulesZ} {l : List MoveZ} {m : MoveZ} (h : gx.runErr R l = 0) (hp : playErr R l m = 0) : gx.runErr R (l ++ [m]) = 0 := by
  obtain ⟨h0, h1⟩ := (runErr_zero R l).1 h
  refine (runErr_zero R _).2 ⟨h0, fun j hj => ?_⟩
  rw [List.length_append] at hj
  by_cases e : j < l.length
  · rw [getD_low l [m] j e, List.take_append_of_le_length (by omega)]
    exact h1 j e
  · have ej : j = l.length := by have : j < l.length + 1 := hj; omega
    subst ej
    rw [List.take_left, List.getD_eq_getElem?_getD, List.getElem?_append_right (Nat.le_refl _), Nat.sub_self]
    exact hp
theorem runTakeZ {R : RulesZ} {l : List MoveZ} (h : gx.runErr R l = 0) (k : Nat) : gx.runErr R (l.take k) = 0 := by
  obtain ⟨h0, h1⟩ := (runErr_zero R l).1 h
  refine (runErr_zero R _).2 ⟨h0, fun j hj => ?_⟩
  rw [List.length_take] at hj
  have := h1 j (by omega)
  rw [List.take_take, Nat.min_eq_left (by omega), show (l.take k).getD j default = l.getD j default by rw [List.getD_eq_getElem?_getD, List.getD_eq_getElem?_getD, List.getElem?_take, if_pos (by omega)]]
  exact this
theorem playZeroZ {R : RulesZ} {ms : List MoveZ} {m : MoveZ} (h0 : gameRes R ms = 0) (h1 : m ∈ movesZ R (nowZ R ms)) (h2 : ms.length ≠ 400) : playErr R ms m = 0 := by
  have hm : m ∈ listZ R (nowZ R ms) := by
    unfold movesZ at h1
    split at h1
    · exact h1
    · cases h1
  unfold playErr
  rw [if_neg (fun h => h h0), if_neg (fun h => h hm), if_neg h2]
theorem nextMemZ {R : RulesZ} {p : PosZ} {l : List PremZ} (h : nextOk R p l = true) : nextMv R p l ∈ movesZ R p := by
  unfold nextMv
  rw [if_pos h]
  unfold nextOk at h
  simp only [Bool.and_eq_true, decide_eq_true_eq] at h
  exact h.2
theorem runs_run (now : Int) : ∀ (f : Nat) (M : MatZ), gx.runErr M.R M.ms = 0 → gx.runErr M.R (MatZ.runs now f M).ms = 0
  | 0, M, h => h
  | f + 1, M, h => by
    rw [MatZ.runs]
    split
    · rename_i hc
      split
      · rename_i hn
        exact runs_run now f (MatZ.move { M with prem := nextRest M.R M.pos M.prem } (nextMv M.R M.pos M.prem) now) (show gx.runErr M.R (M.ms ++ [nextMv M.R M.pos M.prem]) = 0 from run_snoc h (playZeroZ hc.1 (nextMemZ hn) (by have := hc.2; omega)))
      · exact h
    · exact h
theorem kind_run {M : MatZ} {e : EvZ} (h : gx.runErr M.R M.ms = 0) (hg : M.game = 0) : gx.runErr M.R (M.kind e).1.ms = 0 := by
  unfold MatZ.kind MatZ.doMove MatZ.doOffer MatZ.doAccept MatZ.doClaim MatZ.doPremove MatZ.backTo
  repeat' split
  all_goals first
    | exact h
    | exact runTakeZ h _
    | (rename_i hm hl
       exact runs_run e.now 400 (M.move e.m e.now) (run_snoc h (playZeroZ hg (Decidable.byContradiction hm) hl)))
theorem go_run {M : MatZ} {e : EvZ} (h : gx.runErr M.R M.ms = 0) (hi : RInv M) : gx.runErr M.R (M.go e).1.ms = 0 := by
  by_cases hz : (M.go e).2 = 0
  · revert hz
    unfold MatZ.go
    split
    · intro h; rename_i hc; exact absurd h hc
    split
    · intro h; rename_i hc; exact absurd h hc
    · rename_i hp hk
      intro _
      have hp0 : M.preE e = 0 := Decidable.byContradiction hp
      obtain ⟨h1, h2, h3, h4, h5, h6⟩ := pre_zero hp0
      show gx.runErr M.R (MatZ.over (MatZ.put (M.kind e).1 e)).ms = 0
      rw [(over_ms _).1]
      exact kind_run h (hi.op h4).2
  · rw [go_bad M e hz]; exact h
theorem go_R (M : MatZ) (e : EvZ) : (M.go e).1.R = M.R := by
  unfold MatZ.go
  split
  · rfl
  split
  · rfl
  · show (MatZ.over (MatZ.put (M.kind e).1 e)).R = M.R
    rw [(over_jr _).2.2.1]
    exact (kind_keep M e).2.1
theorem new_R (R : RulesZ) (CR : CrZ) (now : Int) : (newM R CR now).R = R := by
  unfold newM
  rw [(over_jr _).2.2.1]
end Go.Proofs.YtnodagljaoonjaaGreatDoor

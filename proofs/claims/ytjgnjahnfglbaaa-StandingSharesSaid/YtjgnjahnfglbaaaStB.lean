/- standing.points and standing.breaks. -/
import Derived.Test.YtjgnjahnfglbaaaStA
namespace Go.Proofs.Ytjgnjahnfglbaaa
open Go.ChangeShapes Go.WideShapes Go.ChangeAt Go.RowKit
set_option linter.unusedVariables false

structure GoodG (n : Int) (g : GameZ) : Prop where
  a0 : 0 ≤ g.fst
  a1 : g.fst < n
  b0 : 0 ≤ g.snd
  b1 : g.snd < n
  ne : g.fst ≠ g.snd
  p0 : 0 ≤ g.pts
  p1 : g.pts ≤ 2
theorem good_fold {n : Int} : ∀ {gs : List GameZ}, foldC n gs = 0 → ∀ k (hk : k < gs.length), GoodG n gs[k]
  | [], _, k, hk => by simp at hk
  | g :: t, h, k, hk => by
    unfold foldC at h
    split at h
    · cases h
    · rename_i h1
      split at h
      · cases h
      · rename_i h2
        cases k with
        | zero =>
          simp [twoB] at h1
          obtain ⟨r1, r2, r3, r4, r5⟩ := h1
          exact ⟨r1, r2, r3, r4, r5, by show 0 ≤ g.pts; omega, by show g.pts ≤ 2; omega⟩
        | succ k => exact good_fold h k (by simpa using hk)
theorem good_chk {n : Int} {gs : List GameZ} (h : chkS n gs = 0) : (1 ≤ n ∧ n ≤ 32 ∧ gs.length ≤ 600) ∧ ∀ k (hk : k < gs.length), GoodG n gs[k] := by
  unfold chkS at h
  split at h
  · cases h
  · exact ⟨by omega, good_fold h⟩
theorem set_get (l : List Int) (i j : Nat) (x : Int) : (l.set i x).getD j 0 = if i = j ∧ i < l.length then x else l.getD j 0 := by
  rw [List.getD_eq_getElem?_getD, List.getElem?_set, List.getD_eq_getElem?_getD]
  by_cases h : i = j
  · subst h
    by_cases h2 : i < l.length <;> simp [h2]
  · simp [h]
theorem sum_set : ∀ (l : List Int) (i : Nat) (x : Int), i < l.length → (l.set i x).sum = l.sum - l.getD i 0 + x
  | [], i, x, h => by simp at h
  | a :: t, 0, x, _ => by simp; omega
  | a :: t, i + 1, x, h => by
    have := sum_set t i x (by simpa using h)
    simp only [List.set_cons_succ, List.sum_cons, List.getD_cons_succ, this]
    omega
def addP (z : List Int) (i j : Nat) (p : Int) : List Int := (z.set i (z.getD i 0 + p)).set j (z.getD j 0 + (2 - p))
structure PtOk (n k : Nat) (z : List Int) : Prop where
  len : z.length = n
  sum : z.sum = 2 * k
  bnd : ∀ i : Nat, 0 ≤ z.getD i 0 ∧ z.getD i 0 ≤ 2 * k
theorem PtOk.add {n k : Nat} {z : List Int} (h : PtOk n k z) (i j : Nat) (p : Int) (hi : i < n) (hj : j < n) (hij : i ≠ j) (hp : 0 ≤ p) (hp2 : p ≤ 2) : PtOk n (k + 1) (addP z i j p) := by
  refine ⟨by simp [addP, h.len], ?_, fun q => ?_⟩
  · unfold addP
    rw [sum_set _ j _ (by simp [h.len, hj]), sum_set _ i _ (by rw [h.len]; exact hi), set_get, if_neg (by omega), h.sum]
    push_cast
    omega
  · have h1 := h.bnd i
    have h2 := h.bnd j
    have h3 := h.bnd q
    unfold addP
    rw [set_get, set_get]
    push_cast
    split
    · omega
    · split <;> omega
theorem PtOk.zero (n : Nat) : PtOk n 0 (List.replicate n 0) := ⟨by simp, by simp, fun i => by rw [List.getD_eq_getElem?_getD, List.getElem?_replicate]; split <;> simp⟩

def PointsPost (n k : Nat) (w : World) (e : Ending) (w' : World) : Prop := ∃ v z, e = .returned v ∧ w'.ownsRow w.heap.size 3 1 v n (ints z) ∧ PtOk n k z ∧ Below w.heap.size w w'
set_option maxHeartbeats 1000000 in
theorem points_any (n : Nat) (vg : Value) (gs : List GameZ) (w : World) (hg : RdG w vg gs) (hgs : gs.length ≤ 600) (h0 : 1 ≤ n) (h32 : n ≤ 32) (hgood : ∀ k (hk : k < gs.length), GoodG n gs[k]) :
    Calls Try.prog 9 #[.int .i64 (n : Int), vg] w (PointsPost n gs.length w) := by
  obtain ⟨i0, hi, hz0, hz1, hz2⟩ := info_parts info3
  obtain ⟨a, c, rfl, h1, h2, hcells⟩ := hg.form
  unfold maxLen at h2
  have HG := Lib.hid hcells
  have HGood := Lib.hid hgood
  clear hg hcells hgood
  go_enter Try.func9, Try.ntmps9
  go_wp2_with (at_make; refine wpList_make_full _ rfl _ _ 32 rfl w.heap.size 3 i0 (.int .i64 0) 1 Try.underlying32 hi hz0 hz1 .i64 .i64 n n n rfl rfl rfl rfl (by rw [hz2]; omega) (by unfold maxLen; omega) (Nat.le_refl _) ?_; intro w1 hown hgrow)
  have hb1 : Below w.heap.size w w1 := Below.grown (Below.refl _ w) hgrow (Nat.le_refl _) (fun q hq => by simp [Value.ownBlock] at hq)
  rw [made_ints] at hown
  have HO := Lib.hid hown
  clear hown hgrow
  go_loopw [12] (fun i wr => ∃ k : Nat, k ≤ gs.length ∧ i = .int .i64 k ∧ Hid (∃ z, wr.ownsRow w.heap.size 3 1 (.slice (some ⟨w.heap.size, 0, none⟩) n n) n (ints z) ∧ PtOk n k z) ∧ Below w.heap.size w wr) (fun i _ => gs.length - (intOf i).toNat)
  case atStart => exact ⟨0, Nat.zero_le _, rfl, Lib.hid ⟨_, HO.out, PtOk.zero n⟩, hb1⟩
  case round =>
    obtain ⟨k, hk, rfl, HK, hbl⟩ := hrel
    by_cases hlt : k < gs.length
    · obtain ⟨gb, o, rfl, hgb, c0, c1, c2⟩ := HG.out k hlt
      have d0 := (hbl.cell (p := ⟨gb, o + k * 3, none⟩) hgb).trans c0
      have d1 := (hbl.cell (p := ⟨gb, o + k * 3 + 1, none⟩) hgb).trans c1
      have d2 := (hbl.cell (p := ⟨gb, o + k * 3 + 2, none⟩) hgb).trans c2
      clear c0 c1 c2
      have hsz := hbl.size
      have hlz : (k : Int) < gs.length := by omega
      obtain ⟨r1, r2, r3, r4, r5, r6, r7⟩ := HGood.out k hlt
      obtain ⟨z, hown, hz⟩ := HK.out
      have HW := Lib.hid hown
      have HZ := Lib.hid hz
      have hG : w.heap.size < wr.heap.size := (hown.lt w.heap.size rfl).2
      have hzl := hz.len
      clear hown HK
      generalize gs[k] = gk at *
      obtain ⟨x, y, p⟩ := gk
      simp only at *
      obtain ⟨i, rfl⟩ : ∃ i : Nat, x = (i : Int) := ⟨x.toNat, by omega⟩
      obtain ⟨j, rfl⟩ : ∃ i : Nat, y = (i : Int) := ⟨y.toNat, by omega⟩
      have q6 : i < n := by omega
      have q7 : j < n := by omega
      have n3 : ¬ i = j := by omega
      have n4 : ¬ j = i := by omega
      have n1 : ¬ w.heap.size = wr.heap.size := by omega
      have n2 : ¬ wr.heap.size = w.heap.size := by omega
      have k2 : wr.cell? ⟨w.heap.size, i, none⟩ = some (.int .i64 (z.getD i 0)) := (HW.out.cellAt i (by omega)).trans (ints_get _ i (by omega))
      have k3 : wr.cell? ⟨w.heap.size, j, none⟩ = some (.int .i64 (z.getD j 0)) := (HW.out.cellAt j (by omega)).trans (ints_get _ j (by omega))
      have f2 : wr.frozen? ⟨w.heap.size, i, none⟩ = false := HW.out.frozenAt i
      have f3 : wr.frozen? ⟨w.heap.size, j, none⟩ = false := HW.out.frozenAt j
      obtain ⟨b1, b1'⟩ := hz.bnd i
      obtain ⟨b2, b2'⟩ := hz.bnd j
      have HN := Lib.hid (hz.add i j p q6 q7 n3 r6 r7)
      have HFin : Hid (((((wr.setCell ⟨w.heap.size, i, none⟩ (.int .i64 (z.getD i 0 + p))).setCell ⟨w.heap.size, j, none⟩ (.int .i64 (z.getD j 0 + (2 - p)))).alloc (.cells #[.int .i64 (i : Int), .int .i64 (j : Int), .int .i64 p] 44)).drew.drew).ownsRow w.heap.size 3 1 (.slice (some ⟨w.heap.size, 0, none⟩) n n) n (ints (addP z i j p))) := Lib.hid (by
        have h2 := (HW.out.stored i (.int .i64 (z.getD i 0 + p))).1
        have h3 := (h2.stored j (.int .i64 (z.getD j 0 + (2 - p)))).1
        rw [ints_set, ints_set] at h3
        exact (h3.alloc _).drew.drew)
      clear hz HW
      generalize hzi : z.getD i 0 = zi at *
      generalize hzj : z.getD j 0 = zj at *
      clear hzi hzj
      go_wp2_with fail
      go_region
      go_wp2_with fail
      go_region
      go_wp2_with fail
      go_roundw
      case rel => exact ⟨k + 1, by omega, by go_num, Lib.hid ⟨_, HFin.out, HN.out⟩, by go_grown⟩
      case measure => simp [intOf]; omega
    · obtain rfl : k = gs.length := by omega
      obtain ⟨z, hown, hz⟩ := HK.out
      have HW := Lib.hid hown
      clear hown HK
      go_wp2_with fail
      go_ret
      exact ⟨_, z, rfl, HW.out, hz, hbl⟩
end Go.Proofs.Ytjgnjahnfglbaaa

/- slices.Reverse at a part of a row of integers that the call owns. -/
import Derived.Test.YthddenadehhbdaaIntsB
import Derived.Test.YthddenadehhbdaaHeldL
import Derived.Test.YthddenadehhbdaaBox
import Derived.Test.YthddenadehhbdaaOwn
namespace Go.Proofs.Ythddenadehhbdaa
open Go.ChangeShapes Go.WideShapes Go.ChangeAt Go.RowKit
set_option linter.unusedVariables false

/-- the part of n elements from number q on, the first k and the last k of them exchanged. -/
def swapAt (q n k j : Nat) : Nat := if q ≤ j ∧ j < q + n ∧ (j - q < k ∨ q + n - 1 - j < k) then q + (q + n - 1 - j) else j
def RevPost (zs : List Int) (q n : Nat) (G c : Nat) (base : Nat) (w0 w : World) (e : Ending) (w' : World) : Prop :=
  e = .returned (.tuple #[]) ∧ ∃ ys : List Int, ys.length = zs.length ∧ (∀ j, j < zs.length → ys.getD j 0 = zs.getD (if q ≤ j ∧ j < q + n then q + (q + n - 1 - j) else j) 0) ∧
    w'.ownsRow base 3 1 (.slice (some ⟨G, 0, none⟩) zs.length c) zs.length (ints ys) ∧ w.grownBy w' (some G)
theorem swap_step (zs ys : List Int) (q n k : Nat) (hk : k + k + 1 < n) (hq : q + n ≤ zs.length) (hl : ys.length = zs.length) (h : ∀ j, j < zs.length → ys.getD j 0 = zs.getD (swapAt q n k j) 0) :
    ∀ j, j < zs.length → ((ys.set (q + k) (ys.getD (q + (n - 1 - k)) 0)).set (q + (n - 1 - k)) (ys.getD (q + k) 0)).getD j 0 = zs.getD (swapAt q n (k + 1) j) 0 := by
  intro j hj
  have g : ∀ (l : List Int) (i : Nat) (v : Int), i < l.length → (l.set i v).getD j 0 = if j = i then v else l.getD j 0 := by
    intro l i v hi
    simp only [List.getD_eq_getElem?_getD, List.getElem?_set]
    by_cases e : i = j
    · subst e; simp [hi]
    · rw [if_neg e, if_neg (fun h => e h.symm)]
  rw [g _ _ _ (by rw [List.length_set]; omega), g _ _ _ (by omega)]
  by_cases e1 : j = q + (n - 1 - k)
  · rw [if_pos e1, h (q + k) (by omega)]
    congr 1
    unfold swapAt
    rw [if_neg (by omega), if_pos (by omega)]
    omega
  · rw [if_neg e1]
    by_cases e2 : j = q + k
    · rw [if_pos e2, h (q + (n - 1 - k)) (by omega)]
      congr 1
      unfold swapAt
      rw [if_neg (by omega), if_pos (by omega)]
      omega
    · rw [if_neg e2, h j hj]
      congr 1
      unfold swapAt
      by_cases e3 : q ≤ j ∧ j < q + n ∧ (j - q < k ∨ q + n - 1 - j < k)
      · rw [if_pos e3, if_pos (by omega)]
      · rw [if_neg e3, if_neg (by omega)]
theorem swap_end (q n k j : Nat) (hk : ¬ k + k + 1 < n) (zs : List Int) : zs.getD (swapAt q n k j) 0 = zs.getD (if q ≤ j ∧ j < q + n then q + (q + n - 1 - j) else j) 0 := by
  congr 1
  unfold swapAt
  by_cases h : q ≤ j ∧ j < q + n ∧ (j - q < k ∨ q + n - 1 - j < k)
  · rw [if_pos h, if_pos (by omega)]
  · by_cases h2 : q ≤ j ∧ j < q + n
    · rw [if_neg h, if_pos h2]; omega
    · rw [if_neg h, if_neg h2]

theorem grown_trans {w w1 w2 : World} {row : Option Nat} (h1 : w.grownBy w1 row) (h2 : w1.grownBy w2 row) : w.grownBy w2 row :=
  ⟨h2.os.trans h1.os, h2.tape.trans h1.tape, h2.output.trans h1.output, Nat.le_trans h1.size h2.size, fun k hk hn => (h2.block k (Nat.lt_of_lt_of_le hk h1.size) hn).trans (h1.block k hk hn)⟩
theorem grown_drew {w w1 : World} {row : Option Nat} (h : w.grownBy w1 row) : w.grownBy w1.drew row := ⟨h.os, h.tape, h.output, h.size, h.block⟩
theorem grown_refl (w : World) (row : Option Nat) : w.grownBy w row := ⟨rfl, rfl, rfl, Nat.le_refl _, fun _ _ _ => rfl⟩
set_option maxRecDepth 100000 in
set_option maxHeartbeats 4000000 in
theorem Reverse_any (zs : List Int) (G c q n cc base : Nat) (w : World) (h : w.ownsRow base 3 1 (.slice (some ⟨G, 0, none⟩) zs.length c) zs.length (ints zs)) (hq : q + n ≤ zs.length) (hl : zs.length ≤ 1000000) :
    Calls Try.prog 38 #[.slice (some ⟨G, q, none⟩) n cc] w (RevPost zs q n G c base w w) := by
  have HO := Lib.hid h
  clear h
  go_enter Try.func38, Try.ntmps38
  go_wp2_with fail
  go_loopw [2, 3] (fun i j wr => ∃ (k : Nat) (ys : List Int), k + k ≤ n + 1 ∧ i = .int .i64 k ∧ j = .int .i64 ((n : Int) - 1 - k) ∧ ys.length = zs.length ∧ Hid (∀ j, j < zs.length → ys.getD j 0 = zs.getD (swapAt q n k j) 0) ∧ Hid (wr.ownsRow base 3 1 (.slice (some ⟨G, 0, none⟩) zs.length c) zs.length (ints ys)) ∧ Hid (w.grownBy wr (some G))) (fun i _ _ => n - (intOf i).toNat)
  case atStart => exact ⟨0, zs, by omega, rfl, by congr 1; omega, rfl, Lib.hid (fun j hj => by congr 1; unfold swapAt; rw [if_neg (by omega)]), HO, Lib.hid (grown_refl _ _)⟩
  case round =>
    obtain ⟨k, ys, hk, rfl, rfl, hyl, HY, HOr, HGr⟩ := hrel
    have HL := Lib.hid hyl
    have hyl' : zs.length ≤ ys.length := by omega
    clear hyl
    by_cases hlt : k + k + 1 < n
    · have HSW := Lib.hid (swap_step zs ys q n k hlt hq HL.out HY.out)
      have dy : wr.cell? ⟨G, q + k, none⟩ = some (.int .i64 (ys.getD (q + k) 0)) := by rw [HOr.out.cellAt _ (by omega), ints_get _ _ (by omega)]
      have dz : wr.cell? ⟨G, q + (n - 1 - k), none⟩ = some (.int .i64 (ys.getD (q + (n - 1 - k)) 0)) := by rw [HOr.out.cellAt _ (by omega), ints_get _ _ (by omega)]
      generalize ys.getD (q + k) 0 = y at *
      generalize ys.getD (q + (n - 1 - k)) 0 = z at *
      have b1 : (0 : Int) ≤ (k : Int) := by omega
      have b2 : (k : Int) < (n : Int) := by omega
      have b3 : (0 : Int) ≤ (n : Int) - 1 - (k : Int) := by omega
      have b4 : (n : Int) - 1 - (k : Int) < (n : Int) := by omega
      have b5 : ((n : Int) - 1 - (k : Int)).toNat = n - 1 - k := by omega
      have b6 : (k : Int) < (n : Int) - 1 - (k : Int) := by omega
      have b7 : (k : Int) ≤ (n : Int) - 1 := by omega
      go_wp2_with fail
      refine wp_region_noPanic ?_
      refine beginL (S := (fun w' => w'.cell? ⟨G, q + k, none⟩ = some (.int .i64 y) ∧ w'.cell? ⟨G, q + (n - 1 - k), none⟩ = some (.int .i64 z))) (L := [13, 15]) (by kernel_rfl) ⟨dy, dz⟩ (fun hHeld => ?_)
      refine takeW (i := 0) (oi := { dst := some 14, op := Op.move (Operand.tmp 0), type := 28, pos := "slices.go:485", after := #[], guard := none }) (v := ?va1) rfl (by kernel_rfl) (by kernel_rfl) (by kernel_rfl) rfl (fun _ _ _ h => h) (Or.inl ⟨by rfl, ?ya1⟩) (fun _ => by assumption) ?ra1
      case ya1 => (intro w _; go_simp; first | done | (with_reducible rfl))
      try simp only [Act.put, List.setIfInBounds_toArray, List.set_cons_zero, List.set_cons_succ]
      refine takeW (i := 1) (oi := { dst := some 15, op := Op.move (Operand.tmp 2), type := 3, pos := "slices.go:485", after := #[], guard := none }) (v := ?va2) rfl (by kernel_rfl) (by kernel_rfl) (by kernel_rfl) rfl (fun _ _ _ h => h) (Or.inl ⟨by rfl, ?ya2⟩) (fun _ => by assumption) ?ra2
      case ya2 => (intro w _; go_simp; first | done | (with_reducible rfl))
      try simp only [Act.put, List.setIfInBounds_toArray, List.set_cons_zero, List.set_cons_succ]
      refine takeW (i := 2) (oi := { dst := some 16, op := Op.move (Operand.tmp 0), type := 28, pos := "slices.go:485", after := #[{ on := 13, ground := Ground.gcOnly Departure.lateStores }], guard := none }) (v := ?va3) rfl (by kernel_rfl) (by kernel_rfl) (by kernel_rfl) rfl (fun _ _ _ h => h) (Or.inl ⟨by rfl, ?ya3⟩) (fun _ => by assumption) ?ra3
      case ya3 => (intro w _; go_simp; first | done | (with_reducible rfl))
      try simp only [Act.put, List.setIfInBounds_toArray, List.set_cons_zero, List.set_cons_succ]
      refine takeW (i := 3) (oi := { dst := some 17, op := Op.move (Operand.tmp 3), type := 3, pos := "slices.go:485", after := #[{ on := 13, ground := Ground.gcOnly Departure.lateStores }], guard := none }) (v := ?va4) rfl (by kernel_rfl) (by kernel_rfl) (by kernel_rfl) rfl (fun _ _ _ h => h) (Or.inl ⟨by rfl, ?ya4⟩) (fun _ => by assumption) ?ra4
      case ya4 => (intro w _; go_simp; first | done | (with_reducible rfl))
      try simp only [Act.put, List.setIfInBounds_toArray, List.set_cons_zero, List.set_cons_succ]
      refine takeW (i := 4) (oi := { dst := some 18, op := Op.move (Operand.tmp 0), type := 28, pos := "slices.go:485", after := #[], guard := none }) (v := ?va5) rfl (by kernel_rfl) (by kernel_rfl) (by kernel_rfl) rfl (fun _ _ _ h => h) (Or.inl ⟨by rfl, ?ya5⟩) (fun _ => by assumption) ?ra5
      case ya5 => (intro w _; go_simp; first | done | (with_reducible rfl))
      try simp only [Act.put, List.setIfInBounds_toArray, List.set_cons_zero, List.set_cons_succ]
      refine takeW (i := 5) (oi := { dst := some 19, op := Op.move (Operand.tmp 3), type := 3, pos := "slices.go:485", after := #[], guard := none }) (v := ?va6) rfl (by kernel_rfl) (by kernel_rfl) (by kernel_rfl) rfl (fun _ _ _ h => h) (Or.inl ⟨by rfl, ?ya6⟩) (fun _ => by assumption) ?ra6
      case ya6 => (intro w _; go_simp; first | done | (with_reducible rfl))
      try simp only [Act.put, List.setIfInBounds_toArray, List.set_cons_zero, List.set_cons_succ]
      refine takeW (i := 8) (oi := { dst := some 22, op := Op.move (Operand.tmp 0), type := 28, pos := "slices.go:485", after := #[], guard := none }) (v := ?va7) rfl (by kernel_rfl) (by kernel_rfl) (by kernel_rfl) rfl (fun _ _ _ h => h) (Or.inl ⟨by rfl, ?ya7⟩) (fun _ => by assumption) ?ra7
      case ya7 => (intro w _; go_simp; first | done | (with_reducible rfl))
      try simp only [Act.put, List.setIfInBounds_toArray, List.set_cons_zero, List.set_cons_succ]
      refine takeW (i := 9) (oi := { dst := some 23, op := Op.move (Operand.tmp 2), type := 3, pos := "slices.go:485", after := #[], guard := none }) (v := ?va8) rfl (by kernel_rfl) (by kernel_rfl) (by kernel_rfl) rfl (fun _ _ _ h => h) (Or.inl ⟨by rfl, ?ya8⟩) (fun _ => by assumption) ?ra8
      case ya8 => (intro w _; go_simp; first | done | (with_reducible rfl))
      try simp only [Act.put, List.setIfInBounds_toArray, List.set_cons_zero, List.set_cons_succ]
      refine takeW (i := 6) (oi := { dst := some 20, op := Op.indexAddr 28 (Operand.tmp 18) (Operand.tmp 19), type := 0, pos := "slices.go:485", after := #[{ on := 4, ground := Ground.data }, { on := 5, ground := Ground.data }], guard := none }) (v := ?va9) rfl (by kernel_rfl) (by kernel_rfl) (by kernel_rfl) rfl (fun _ _ _ h => h) (Or.inl ⟨by rfl, ?ya9⟩) (fun _ => by assumption) ?ra9
      case ya9 => (intro w _; go_simp; first | done | (with_reducible rfl))
      try simp only [Act.put, List.setIfInBounds_toArray, List.set_cons_zero, List.set_cons_succ]
      refine takeW (i := 10) (oi := { dst := some 24, op := Op.indexAddr 28 (Operand.tmp 22) (Operand.tmp 23), type := 0, pos := "slices.go:485", after := #[{ on := 8, ground := Ground.data }, { on := 9, ground := Ground.data }], guard := none }) (v := ?va10) rfl (by kernel_rfl) (by kernel_rfl) (by kernel_rfl) rfl (fun _ _ _ h => h) (Or.inl ⟨by rfl, ?ya10⟩) (fun _ => by assumption) ?ra10
      case ya10 => (intro w _; go_simp; first | done | (with_reducible rfl))
      try simp only [Act.put, List.setIfInBounds_toArray, List.set_cons_zero, List.set_cons_succ]
      refine takeL (i := 7) (oi := { dst := some 21, op := Op.load 3 (Operand.tmp 20), type := 3, pos := "slices.go:485", after := #[{ on := 6, ground := Ground.data }], guard := none }) (v := ?va11) rfl (by kernel_rfl) (by kernel_rfl) (by kernel_rfl) (by kernel_rfl) rfl (by kernel_rfl) (by kernel_rfl) (fun _ _ _ h => h) (Or.inl ⟨by rfl, ?ya11⟩) (by assumption) ?ra11
      case ya11 => (intro w hSw; (try dsimp only at hSw); go_simp; first | done | (with_reducible rfl))
      try simp only [Act.put, List.setIfInBounds_toArray, List.set_cons_zero, List.set_cons_succ]
      refine takeL (i := 11) (oi := { dst := some 25, op := Op.load 3 (Operand.tmp 24), type := 3, pos := "slices.go:485", after := #[{ on := 10, ground := Ground.data }], guard := none }) (v := ?va12) rfl (by kernel_rfl) (by kernel_rfl) (by kernel_rfl) (by kernel_rfl) rfl (by kernel_rfl) (by kernel_rfl) (fun _ _ _ h => h) (Or.inl ⟨by rfl, ?ya12⟩) (by assumption) ?ra12
      case ya12 => (intro w hSw; (try dsimp only at hSw); go_simp; first | done | (with_reducible rfl))
      try simp only [Act.put, List.setIfInBounds_toArray, List.set_cons_zero, List.set_cons_succ]
      refine takeW (i := 12) (oi := { dst := some 26, op := Op.indexAddr 28 (Operand.tmp 14) (Operand.tmp 15), type := 0, pos := "slices.go:485", after := #[{ on := 0, ground := Ground.data }, { on := 1, ground := Ground.data }, { on := 0, ground := Ground.phase }, { on := 1, ground := Ground.phase }, { on := 2, ground := Ground.textOnly Departure.lateStores }, { on := 3, ground := Ground.textOnly Departure.lateStores }, { on := 4, ground := Ground.phase }, { on := 5, ground := Ground.phase }, { on := 6, ground := Ground.phase }, { on := 7, ground := Ground.phase }, { on := 8, ground := Ground.textOnly Departure.lateStores }, { on := 9, ground := Ground.textOnly Departure.lateStores }, { on := 10, ground := Ground.textOnly Departure.lateStoresUnsure }, { on := 11, ground := Ground.phase }], guard := none }) (v := ?va13) rfl (by kernel_rfl) (by kernel_rfl) (by kernel_rfl) rfl (fun _ _ _ h => h) (Or.inl ⟨by rfl, ?ya13⟩) (fun _ => by assumption) ?ra13
      case ya13 => (intro w _; go_simp; first | done | (with_reducible rfl))
      try simp only [Act.put, List.setIfInBounds_toArray, List.set_cons_zero, List.set_cons_succ]
      refine readyL (rs := [13]) (by kernel_rfl) (by simp) ?_
      refine (AllReadyL.late (o := { dst := none, op := Op.store 3 (Operand.tmp 26) (Operand.tmp 21), type := 0, pos := "slices.go:485", after := #[{ on := 12, ground := Ground.data }, { on := 7, ground := Ground.data }, { on := 0, ground := Ground.phase }, { on := 1, ground := Ground.phase }, { on := 2, ground := Ground.textOnly Departure.lateStores }, { on := 3, ground := Ground.textOnly Departure.lateStores }, { on := 4, ground := Ground.phase }, { on := 5, ground := Ground.phase }, { on := 6, ground := Ground.phase }, { on := 7, ground := Ground.phase }, { on := 8, ground := Ground.textOnly Departure.lateStores }, { on := 9, ground := Ground.textOnly Departure.lateStores }, { on := 10, ground := Ground.textOnly Departure.lateStoresUnsure }, { on := 11, ground := Ground.phase }], guard := none }) rfl (by kernel_rfl) (fun K hK => ?_) AllReadyL.nil)
      have d1 := hHeld.1
      have d2 : wr.drew.frozen? ⟨G, q + k, none⟩ = false := HOr.out.frozenAt (q + k)
      go_simp
      refine K_world ?_
      intro w13 e13
      have O13 : w13.ownsRow base 3 1 (.slice (some ⟨G, 0, none⟩) zs.length c) zs.length (ints (ys.set (q + k) z)) := by
        rw [e13, ← ints_set]
        have HOd : wr.drew.ownsRow base 3 1 (.slice (some ⟨G, 0, none⟩) zs.length c) zs.length (ints ys) := HOr.out
        exact (HOd.stored (q + k) (.int .i64 z)).1
      have G13 : w.grownBy w13 (some G) := by rw [e13]; exact grown_trans (grown_drew HGr.out) (setG _ _ _)
      clear e13 d1 d2
      refine hK.out _ _ ?_
      clear hK K
      try simp only [Act.put, List.setIfInBounds_toArray, List.set_cons_zero, List.set_cons_succ]
      refine takeW (i := 14) (oi := { dst := some 27, op := Op.indexAddr 28 (Operand.tmp 16) (Operand.tmp 17), type := 0, pos := "slices.go:485", after := #[{ on := 2, ground := Ground.data }, { on := 3, ground := Ground.data }, { on := 0, ground := Ground.phase }, { on := 1, ground := Ground.phase }, { on := 2, ground := Ground.phase }, { on := 3, ground := Ground.phase }, { on := 4, ground := Ground.phase }, { on := 5, ground := Ground.phase }, { on := 6, ground := Ground.phase }, { on := 7, ground := Ground.phase }, { on := 8, ground := Ground.phase }, { on := 9, ground := Ground.phase }, { on := 10, ground := Ground.phase }, { on := 11, ground := Ground.phase }, { on := 12, ground := Ground.phase }, { on := 13, ground := Ground.phase }], guard := none }) (v := ?va14) rfl (by kernel_rfl) (by kernel_rfl) (by kernel_rfl) rfl (fun _ _ _ h => h) (Or.inl ⟨by rfl, ?ya14⟩) (fun he => by cases he) ?ra14
      case ya14 => (intro w _; go_simp; first | done | (with_reducible rfl))
      try simp only [Act.put, List.setIfInBounds_toArray, List.set_cons_zero, List.set_cons_succ]
      refine readyL (rs := [15]) (by kernel_rfl) (by simp) ?_
      refine (AllReadyL.late (o := { dst := none, op := Op.store 3 (Operand.tmp 27) (Operand.tmp 25), type := 0, pos := "slices.go:485", after := #[{ on := 14, ground := Ground.data }, { on := 11, ground := Ground.data }, { on := 13, ground := Ground.chain }, { on := 0, ground := Ground.phase }, { on := 1, ground := Ground.phase }, { on := 2, ground := Ground.phase }, { on := 3, ground := Ground.phase }, { on := 4, ground := Ground.phase }, { on := 5, ground := Ground.phase }, { on := 6, ground := Ground.phase }, { on := 7, ground := Ground.phase }, { on := 8, ground := Ground.phase }, { on := 9, ground := Ground.phase }, { on := 10, ground := Ground.phase }, { on := 11, ground := Ground.phase }, { on := 12, ground := Ground.phase }, { on := 13, ground := Ground.phase }], guard := none }) rfl (by kernel_rfl) (fun K hK => ?_) AllReadyL.nil)
      have d3 : w13.cell? ⟨G, q + (n - 1 - k), none⟩ = some (.int .i64 ((ys.set (q + k) z).getD (q + (n - 1 - k)) 0)) := by rw [O13.cellAt _ (by omega), ints_get _ _ (by rw [List.length_set]; omega)]
      have d4 := O13.frozenAt (q + (n - 1 - k))
      go_simp
      refine K_world ?_
      intro w15 e15
      have O15 : w15.ownsRow base 3 1 (.slice (some ⟨G, 0, none⟩) zs.length c) zs.length (ints ((ys.set (q + k) z).set (q + (n - 1 - k)) y)) := by
        rw [e15, ← ints_set]
        exact (O13.stored (q + (n - 1 - k)) (.int .i64 y)).1
      have G15 : w.grownBy w15 (some G) := by rw [e15]; exact grown_trans G13 (setG _ _ _)
      clear e15 d3 d4 O13 G13
      refine hK.out _ _ ?_
      clear hK K
      try simp only [Act.put, List.setIfInBounds_toArray, List.set_cons_zero, List.set_cons_succ]
      refine doneL (by kernel_rfl) ?_ _
      refine NoPanic.normal ?_
      go_wp2_with fail
      go_roundw
      case rel => exact ⟨k + 1, (ys.set (q + k) z).set (q + (n - 1 - k)) y, by omega, by go_num, by congr 1; omega, by rw [List.length_set, List.length_set]; exact HL.out, Lib.hid HSW.out, Lib.hid O15, Lib.hid G15⟩
      case measure => simp [intOf]; omega

    · have HE := Lib.hid (fun j (hj : j < zs.length) => (HY.out j hj).trans (swap_end q n k j hlt zs))
      have b6 : ¬ (k : Int) < (n : Int) - 1 - (k : Int) := by omega
      go_wp2_with fail
      refine bodyPost_ret (v := .tuple #[]) (by simp [results, Try.results38, go_sem]) rfl ?_
      exact ⟨rfl, ys, HL.out, HE.out, HOr.out, HGr.out⟩

end Go.Proofs.Ythddenadehhbdaa

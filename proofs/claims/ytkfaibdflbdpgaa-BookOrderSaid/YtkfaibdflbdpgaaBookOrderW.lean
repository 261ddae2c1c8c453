/- BookOrder: the walk. -/
import Derived.Test.YtkfaibdflbdpgaaBq3
import Derived.Test.YtkfaibdflbdpgaaFrame
namespace Go.Proofs.Ytkfaibdflbdpgaa.bookOrder
open Go.ChangeShapes Go.WideShapes Go.ChangeAt Go.RowKit
set_option linter.unusedVariables false

theorem min40 (n : Nat) : ∃ m : Nat, (if (40 : Int) < (n : Int) then (40 : Int) else (n : Int)) = (m : Int) ∧ m ≤ n ∧ Hid (m = min n 40) := by
  by_cases h : (40 : Int) < n
  · exact ⟨40, by rw [if_pos h]; rfl, by omega, Lib.hid (by omega)⟩
  · exact ⟨n, by rw [if_neg h], Nat.le_refl _, Lib.hid (by omega)⟩
set_option maxRecDepth 100000 in
set_option maxHeartbeats 8000000 in
theorem walk (HS : SortMvSaid) (va vb : Value) (la lb : List BkZ) (w : World) (ha : RdL bkEl w va la) (hb : RdL bkEl w vb lb) :
    Calls Try.prog 12 #[va, vb] w fun e w' => e = .returned (.bool true) ∧ Below w.heap.size w w' := by
  have HSh := Lib.hid HS
  have HA := Lib.hid ha
  have HBk := Lib.hid hb
  obtain ⟨aa, ca, rfl, h1, h2⟩ := ha.form
  obtain ⟨ab, cb, rfl, h3, h4⟩ := hb.form
  unfold maxLen at h2 h4
  clear ha hb HS
  go_enter Try.func12, Try.ntmps12
  go_wp2_with fail
  refine (books_any HSh.out w).mono ?_
  rintro e w1 ⟨rfl, hb1⟩
  have HL1 := Lib.hid hb1
  obtain ⟨na, hna, hna2, HNA⟩ := min40 la.length
  obtain ⟨nb, hnb, hnb2, HNB⟩ := min40 lb.length
  have HA1 := Lib.hid ((HA.out.below hb1 (Nat.le_refl _)).take na hna2)
  have HB1 := Lib.hid ((HBk.out.below hb1 (Nat.le_refl _)).take nb hnb2)
  have hla : (la.take na).length = na := by rw [List.length_take]; omega
  have hlb : (lb.take nb).length = nb := by rw [List.length_take]; omega
  obtain ⟨xa, hxa⟩ : ∃ xa, la.take na = xa := ⟨_, rfl⟩
  obtain ⟨xb, hxb⟩ : ∃ xb, lb.take nb = xb := ⟨_, rfl⟩
  rw [hxa] at HA1 hla
  rw [hxb] at HB1 hlb
  clear hxa hxb hb1
  have i1 : (0 : Int) ≤ (na : Int) := by omega
  have i2 : (na : Int) ≤ (ca : Int) := by omega
  have i3 : (0 : Int) ≤ (nb : Int) := by omega
  have i4 : (nb : Int) ≤ (cb : Int) := by omega
  have HLA := Lib.hid hla
  have HLB := Lib.hid hlb
  clear hla hlb
  go_upto_region 3 with (fail)
  generalize w1 = wq at *
  have HAz : RdL bkEl wq.drew (.slice aa na ca) xa := HA1.out.below (below_drewN (Below.refl _ _) 1) (Nat.le_refl _)
  have HBz : RdL bkEl wq.drew (.slice ab nb cb) xb := HB1.out.below (below_drewN (Below.refl _ _) 1) (Nat.le_refl _)
  have Lz : Below w.heap.size w wq.drew := below_drewN HL1.out 1
  clear HA1 HB1 HL1
  refine wp_region_noPanic ?_
  refine beginL (S := (fun _ => True)) (L := []) (by kernel_rfl) trivial (fun hHeld => ?_)
  refine takeW (i := 0) (oi := { dst := some 11, op := Op.move (Operand.tmp 0), type := 88, pos := "games.go:326", after := #[], guard := none }) (v := ?va1) rfl (by kernel_rfl) (by kernel_rfl) (by kernel_rfl) rfl (fun _ _ _ h => h) (Or.inl ⟨by rfl, ?ya1⟩) (fun _ => by assumption) ?ra1
  case ya1 => (intro w _; go_simp; first | done | (with_reducible rfl))
  try simp only [Act.put, List.setIfInBounds_toArray, List.set_cons_zero, List.set_cons_succ]
  refine takeW (i := 1) (oi := { dst := some 12, op := Op.move (Operand.tmp 0), type := 88, pos := "games.go:326", after := #[], guard := none }) (v := ?va2) rfl (by kernel_rfl) (by kernel_rfl) (by kernel_rfl) rfl (fun _ _ _ h => h) (Or.inl ⟨by rfl, ?ya2⟩) (fun _ => by assumption) ?ra2
  case ya2 => (intro w _; go_simp; first | done | (with_reducible rfl))
  try simp only [Act.put, List.setIfInBounds_toArray, List.set_cons_zero, List.set_cons_succ]
  refine takeW (i := 5) (oi := { dst := some 16, op := Op.move (Operand.tmp 1), type := 88, pos := "games.go:326", after := #[], guard := none }) (v := ?va3) rfl (by kernel_rfl) (by kernel_rfl) (by kernel_rfl) rfl (fun _ _ _ h => h) (Or.inl ⟨by rfl, ?ya3⟩) (fun _ => by assumption) ?ra3
  case ya3 => (intro w _; go_simp; first | done | (with_reducible rfl))
  try simp only [Act.put, List.setIfInBounds_toArray, List.set_cons_zero, List.set_cons_succ]
  refine takeW (i := 6) (oi := { dst := some 17, op := Op.move (Operand.tmp 1), type := 88, pos := "games.go:326", after := #[], guard := none }) (v := ?va4) rfl (by kernel_rfl) (by kernel_rfl) (by kernel_rfl) rfl (fun _ _ _ h => h) (Or.inl ⟨by rfl, ?ya4⟩) (fun _ => by assumption) ?ra4
  case ya4 => (intro w _; go_simp; first | done | (with_reducible rfl))
  try simp only [Act.put, List.setIfInBounds_toArray, List.set_cons_zero, List.set_cons_succ]
  refine takeW (i := 2) (oi := { dst := some 13, op := Op.call { callee := Callee.builtin Builtin.len, args := #[Operand.tmp 12], argTypes := #[88] }, type := 3, pos := "games.go:326", after := #[{ on := 1, ground := Ground.data }], guard := none }) (v := ?va5) rfl (by kernel_rfl) (by kernel_rfl) (by kernel_rfl) rfl (fun _ _ _ h => h) (Or.inl ⟨by rfl, ?ya5⟩) (fun _ => by assumption) ?ra5
  case ya5 => (intro w _; go_simp; first | done | (with_reducible rfl))
  try simp only [Act.put, List.setIfInBounds_toArray, List.set_cons_zero, List.set_cons_succ]
  refine takeW (i := 7) (oi := { dst := some 18, op := Op.call { callee := Callee.builtin Builtin.len, args := #[Operand.tmp 17], argTypes := #[88] }, type := 3, pos := "games.go:326", after := #[{ on := 6, ground := Ground.data }], guard := none }) (v := ?va6) rfl (by kernel_rfl) (by kernel_rfl) (by kernel_rfl) rfl (fun _ _ _ h => h) (Or.inl ⟨by rfl, ?ya6⟩) (fun _ => by assumption) ?ra6
  case ya6 => (intro w _; go_simp; first | done | (with_reducible rfl))
  try simp only [Act.put, List.setIfInBounds_toArray, List.set_cons_zero, List.set_cons_succ]
  refine takeW (i := 3) (oi := { dst := some 14, op := Op.call { callee := Callee.builtin Builtin.min, args := #[Operand.tmp 13, Operand.const (Value.int IntKind.i64 40)], argTypes := #[3, 3] }, type := 3, pos := "games.go:326", after := #[{ on := 2, ground := Ground.data }], guard := none }) (v := ?va7) rfl (by kernel_rfl) (by kernel_rfl) (by kernel_rfl) rfl (fun _ _ _ h => h) (Or.inl ⟨by rfl, ?ya7⟩) (fun _ => by assumption) ?ra7
  case ya7 => (intro w _; go_simp; first | done | (with_reducible rfl))
  try simp only [Act.put, List.setIfInBounds_toArray, List.set_cons_zero, List.set_cons_succ]
  refine takeW (i := 8) (oi := { dst := some 19, op := Op.call { callee := Callee.builtin Builtin.min, args := #[Operand.tmp 18, Operand.const (Value.int IntKind.i64 40)], argTypes := #[3, 3] }, type := 3, pos := "games.go:326", after := #[{ on := 7, ground := Ground.data }], guard := none }) (v := ?va8) rfl (by kernel_rfl) (by kernel_rfl) (by kernel_rfl) rfl (fun _ _ _ h => h) (Or.inl ⟨by rfl, ?ya8⟩) (fun _ => by assumption) ?ra8
  case ya8 => (intro w _; go_simp; first | done | (with_reducible rfl))
  try simp only [Act.put, List.setIfInBounds_toArray, List.set_cons_zero, List.set_cons_succ]
  refine takeW (i := 4) (oi := { dst := some 15, op := Op.slice 88 (Operand.tmp 11) none (some (Operand.tmp 14)) none, type := 88, pos := "games.go:326", after := #[{ on := 0, ground := Ground.data }, { on := 3, ground := Ground.data }], guard := none }) (v := ?va9) rfl (by kernel_rfl) (by kernel_rfl) (by kernel_rfl) rfl (fun _ _ _ h => h) (Or.inl ⟨by rfl, ?ya9⟩) (fun _ => by assumption) ?ra9
  case ya9 => (intro w _; go_simp; first | done | (with_reducible rfl))
  try simp only [Act.put, List.setIfInBounds_toArray, List.set_cons_zero, List.set_cons_succ]
  refine takeW (i := 9) (oi := { dst := some 20, op := Op.slice 88 (Operand.tmp 16) none (some (Operand.tmp 19)) none, type := 88, pos := "games.go:326", after := #[{ on := 5, ground := Ground.data }, { on := 8, ground := Ground.data }], guard := none }) (v := ?va10) rfl (by kernel_rfl) (by kernel_rfl) (by kernel_rfl) rfl (fun _ _ _ h => h) (Or.inl ⟨by rfl, ?ya10⟩) (fun _ => by assumption) ?ra10
  case ya10 => (intro w _; go_simp; first | done | (with_reducible rfl))
  try simp only [Act.put, List.setIfInBounds_toArray, List.set_cons_zero, List.set_cons_succ]
  refine takeW (i := 10) (oi := { dst := some 0, op := Op.assign (Operand.tmp 15), type := 88, pos := "games.go:326", after := #[{ on := 4, ground := Ground.data }, { on := 0, ground := Ground.phase }, { on := 1, ground := Ground.phase }, { on := 2, ground := Ground.phase }, { on := 3, ground := Ground.phase }, { on := 4, ground := Ground.phase }, { on := 5, ground := Ground.textOnly Departure.lateStores }, { on := 6, ground := Ground.textOnly Departure.lateStores }, { on := 7, ground := Ground.textOnly Departure.lateStoresUnsure }, { on := 8, ground := Ground.textOnly Departure.lateStoresUnsure }, { on := 9, ground := Ground.textOnly Departure.lateStoresUnsure }], guard := none }) (v := ?va11) rfl (by kernel_rfl) (by kernel_rfl) (by kernel_rfl) rfl (fun _ _ _ h => h) (Or.inl ⟨by rfl, ?ya11⟩) (fun _ => by assumption) ?ra11
  case ya11 => (intro w _; go_simp; first | done | (with_reducible rfl))
  try simp only [Act.put, List.setIfInBounds_toArray, List.set_cons_zero, List.set_cons_succ]
  refine takeW (i := 11) (oi := { dst := some 1, op := Op.assign (Operand.tmp 20), type := 88, pos := "games.go:326", after := #[{ on := 9, ground := Ground.data }, { on := 10, ground := Ground.chain }, { on := 0, ground := Ground.phase }, { on := 1, ground := Ground.phase }, { on := 2, ground := Ground.phase }, { on := 3, ground := Ground.phase }, { on := 4, ground := Ground.phase }, { on := 5, ground := Ground.phase }, { on := 6, ground := Ground.phase }, { on := 7, ground := Ground.phase }, { on := 8, ground := Ground.phase }, { on := 9, ground := Ground.phase }, { on := 10, ground := Ground.phase }], guard := none }) (v := ?va12) rfl (by kernel_rfl) (by kernel_rfl) (by kernel_rfl) rfl (fun _ _ _ h => h) (Or.inl ⟨by rfl, ?ya12⟩) (fun _ => by assumption) ?ra12
  case ya12 => (intro w _; go_simp; first | done | (with_reducible rfl))
  try simp only [Act.put, List.setIfInBounds_toArray, List.set_cons_zero, List.set_cons_succ]
  refine doneL (by kernel_rfl) ?_ _
  refine NoPanic.normal ?_
  have HA2 := Lib.hid HAz
  have HB2 := Lib.hid HBz
  have HL2 := Lib.hid Lz
  clear HAz HBz Lz hHeld
  go_wp2_with fail
  refine (merge_any _ _ xa xb _ HA2.out HB2.out).mono ?_
  rintro e w3 (⟨hbad, rfl, hb3⟩ | ⟨hok, v3, rfl, ho3, hb3⟩)
  · have HL3 := Lib.hid (below_trans HL2.out hb3 HL2.out.size)
    have HB3 := Lib.hid (HB2.out.below hb3 (Nat.le_refl _))
    have HA3 := Lib.hid (HA2.out.below hb3 (Nat.le_refl _))
    have he' : (mergeErr xa xb == 0) = false := by simpa using hbad
    have hbad2 : mergeErr xb xa ≠ 0 := fun q => hbad (merge_err.2 q)
    have HBD := Lib.hid hbad2
    clear hbad hb3 hbad2
    go_wp2_with fail
    refine (merge_any _ _ xb xa _ HB3.out HA3.out).mono ?_
    rintro e w4 (⟨hbad4, rfl, hb4⟩ | ⟨hok4, -⟩)
    rotate_left
    · exact absurd hok4 HBD.out
    have HL4 := Lib.hid (below_trans HL3.out hb4 HL3.out.size)
    have he4 : (mergeErr xb xa == 0) = false := by simpa using hbad4
    clear hbad4 hb4
    go_wp2_with fail
    refine (sameBook_any _ _ [] [] w4 (RdL.nil _ _) (RdL.nil _ _) (by simp)).mono ?_
    rintro e w5 ⟨rfl, hb5⟩
    have HL5 := Lib.hid (below_trans HL4.out hb5 HL4.out.size)
    clear hb5
    go_wp2_with fail
    go_ret
    exact ⟨rfl, HL5.out⟩
  · have HL3 := Lib.hid (below_trans HL2.out hb3 HL2.out.size)
    have HB3 := Lib.hid (HB2.out.below hb3 (Nat.le_refl _))
    have HA3 := Lib.hid (HA2.out.below hb3 (Nat.le_refl _))
    have HO3 := Lib.hid (rdK_of_own ho3)
    obtain ⟨a3, c3, rfl⟩ := own_form2 ho3
    have HOK2 := Lib.hid (merge_err.1 hok)
    have HEQ := Lib.hid (mergeErr_same (merge_ok hok).1 (merge_ok hok).2)
    have hlf : (foldB xa xb).length ≤ 1000000 := by
      have h1 := (bookErr_ok (merge_ok hok).1).1
      have h2 := (bookErr_ok (merge_ok hok).2).1
      have := (foldB_len xa xb).2
      omega
    clear hok hb3 ho3
    go_wp2_with fail
    refine (merge_any _ _ xb xa _ HB3.out HA3.out).mono ?_
    rintro e w4 (⟨hbad4, -⟩ | ⟨-, v4, rfl, ho4, hb4⟩)
    · exact absurd HOK2.out hbad4
    have HL4 := Lib.hid (below_trans HL3.out hb4 HL3.out.size)
    have HO34 := Lib.hid (HO3.out.below hb4 (Nat.le_refl _))
    rw [← HEQ.out] at ho4
    have HO4 := Lib.hid (rdK_of_own ho4)
    obtain ⟨a4, c4, rfl⟩ := own_form2 ho4
    clear hb4 ho4
    go_wp2_with fail
    refine (sameBook_any _ _ (foldB xa xb) (foldB xa xb) w4 HO34.out HO4.out hlf).mono ?_
    rintro e w5 ⟨rfl, hb5⟩
    have HL5 := Lib.hid (below_trans HL4.out hb5 HL4.out.size)
    clear hb5
    have hdd : decide (foldB xa xb = foldB xa xb) = true := by simp
    rw [hdd]
    go_wp2_with fail
    go_ret
    exact ⟨rfl, HL5.out⟩

end Go.Proofs.Ytkfaibdflbdpgaa.bookOrder

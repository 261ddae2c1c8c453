/- The contracts of perft.walk, Check, Tree. -/
import Derived.Test.YtaacfoeleblfbaaEnd3
import Derived.Test.YtaacfoeleblfbaaMvR
import Derived.Test.YtaacfoeleblfbaaMake
import Derived.Test.YtaacfoeleblfbaaMvLaw
import Derived.Test.YtaacfoeleblfbaaPriv
import Derived.Test.YtaacfoeleblfbaaEngBegin
import Derived.BigQuiet
namespace Go.Proofs.Ytaacfoeleblfbaa
open Go.ChangeShapes Go.WideShapes Go.ChangeAt Go.RowKit
set_option linter.unusedVariables false

theorem compact_len3 : ∀ l : List MoveZ, (compactZ l).length ≤ l.length
  | [] => by simp [compactZ]
  | [x] => by simp [compactZ]
  | x :: y :: t => by
    have ih := compact_len3 (y :: t)
    by_cases h : x = y
    · simp only [compactZ, if_pos h, List.length_cons] at ih ⊢
      omega
    · simp only [compactZ, if_neg h, List.length_cons] at ih ⊢
      omega
theorem list_len3 {R : RulesZ} {p : PosZ} (K : POk R p) : (listZ R p).length ≤ 10000 := by
  have h1 := compact_len3 (sortZ (rawZ R p))
  have h2 : (sortZ (rawZ R p)).length = (rawZ R p).length := List.length_mergeSort _
  have h3 : (putsZ R p).length ≤ (List.range p.cells.length).length * 6 := flatL_len _ 6 _ (fun s _ => by
    unfold putsAt
    split
    · simp
    · refine Nat.le_trans (List.length_filterMap_le _ _) ?_
      have := hand_len K
      have := K.r.np
      simp; omega)
  have h4 : ((List.range p.cells.length).flatMap (stepsAt R p)).length ≤ (List.range p.cells.length).length * 112 := flatL_len _ 112 _ (fun s _ => stepsAt_len K.r p s)
  have h5 := K.len
  unfold listZ
  have h6 : (rawZ R p).length = (putsZ R p).length + ((List.range p.cells.length).flatMap (stepsAt R p)).length := by unfold rawZ; rw [List.length_append]
  simp only [List.length_range] at h3 h4
  omega
/-- the positions of a search. -/
def nodes (R : RulesZ) : Nat → PosZ → Nat
  | 0, _ => 1
  | d + 1, p => 1 + ((movesZ R p).map fun m => nodes R d (makeZ R p m)).sum
def totZ (R : RulesZ) (d : Nat) (p : PosZ) (k : Nat) : Nat := (((movesZ R p).take k).map fun m => nodes R d (makeZ R p m)).sum
theorem tot_succ (R : RulesZ) (d : Nat) (p : PosZ) (k : Nat) (h : k < (movesZ R p).length) : totZ R d p (k + 1) = totZ R d p k + nodes R d (makeZ R p ((movesZ R p).getD k default)) := by
  unfold totZ
  rw [List.take_succ_eq_append_getElem h, List.map_append, List.sum_append, List.getD_eq_getElem?_getD, List.getElem?_eq_getElem h]
  simp
theorem tot_le (R : RulesZ) (d : Nat) (p : PosZ) (k : Nat) : totZ R d p k + 1 ≤ nodes R (d + 1) p := by
  have e : nodes R (d + 1) p = 1 + ((movesZ R p).map fun m => nodes R d (makeZ R p m)).sum := rfl
  rw [e]
  unfold totZ
  have h2 := List.take_append_drop k (movesZ R p)
  rw [← h2] at *
  rw [List.map_append, List.sum_append]
  rw [List.take_append_drop]
  omega
theorem tot_all (R : RulesZ) (d : Nat) (p : PosZ) : totZ R d p (movesZ R p).length + 1 = nodes R (d + 1) p := by
  have e : nodes R (d + 1) p = 1 + ((movesZ R p).map fun m => nodes R d (makeZ R p m)).sum := rfl
  rw [e]
  unfold totZ
  rw [List.take_of_length_le (Nat.le_refl _)]
  omega
theorem moves_mem {R : RulesZ} {p : PosZ} {m : MoveZ} (h : m ∈ movesZ R p) : m ∈ listZ R p := by
  unfold movesZ at h
  split at h
  · exact h
  · cases h
theorem moves_len {R : RulesZ} {p : PosZ} (K : POk R p) : (movesZ R p).length ≤ 10000 := by
  unfold movesZ
  split
  · exact list_len3 K
  · simp

def WalkPost (R : RulesZ) (vp vs ve : Value) (d : Nat) (p : PosZ) (b n : Nat) (w : World) (e : Ending) (w' : World) : Prop :=
  ∃ n' l' : Nat, e = .returned (.bool (decide (n + nodes R d p ≤ 50000))) ∧ Box w' b [.string R.name, .int .i64 R.width, .int .i64 R.height, vp, vs, .bool R.falls, .bool R.keeps, ve, .int .i64 R.blocked, .int .i64 R.quiet, .int .i64 R.rept, .int .i64 (n' : Nat), .int .i64 (l' : Nat)] 86 ∧ (n + nodes R d p ≤ 50000 → n' = n + nodes R d p) ∧ l' ≤ n' ∧ n' ≤ 50001 ∧ Fr (fun k => k = b) w w'
def WalkSaid (R : RulesZ) (vp vs ve : Value) (d : Nat) : Prop := ∀ (p : PosZ) (vc v0 v1 : Value) (b n l : Nat) (w : World), Box w b [.string R.name, .int .i64 R.width, .int .i64 R.height, vp, vs, .bool R.falls, .bool R.keeps, ve, .int .i64 R.blocked, .int .i64 R.quiet, .int .i64 R.rept, .int .i64 (n : Nat), .int .i64 (l : Nat)] 86 → Held (fun k => k = b) w (fun w' => RdR w' R vp vs ve) → Held (fun k => k = b) w (fun w' => RdP w' p vc v0 v1) → POk R p → l ≤ n → n ≤ 50000 →
  Calls Try.prog 49 #[.pointer (some ⟨b, 0, none⟩), (.agg #[vc, v0, v1, .int .i64 p.turn, .int .i64 p.quiet]), .int .i64 (d : Int)] w (WalkPost R vp vs ve d p b n w)
set_option maxRecDepth 100000 in
set_option maxHeartbeats 8000000 in
theorem walk_any (HS : SortMvSaid) (R : RulesZ) (vp vs ve : Value) : ∀ d : Nat, d ≤ 12 → WalkSaid R vp vs ve d := by
  intro d
  induction d with
  | zero =>
    intro _ p vc v0 v1 b n l w hB hr hp K hln hn
    have HB := Lib.hid hB
    have hlt := hB.lt
    have HN0 : Hid (nodes R 0 p = 1) := Lib.hid rfl
    clear hB hr hp K
    go_enter Try.func49, Try.ntmps49
    go_upto_region 1 with (fail)
    have hal := ((Below.refl w.heap.size w).alloc (Nat.le_refl _) (.cells #[vc, v0, v1, .int .i64 p.turn, .int .i64 p.quiet] 29))
    have HF : Hid (Fr (fun k => k = b) w (w.alloc (.cells #[vc, v0, v1, .int .i64 p.turn, .int .i64 p.quiet] 29))) := Lib.hid (Fr.of_new hal)
    have HB1 := Lib.hid (HB.out.stays hal)
    clear hal
    generalize (w.alloc (.cells #[vc, v0, v1, .int .i64 p.turn, .int .i64 p.quiet] 29)) = w0 at *
    have q11 := HB1.out.cell 11 rfl
    have f11 := HB1.out.frozen 11
    have hw1 : IntKind.i64.wrap ((n : Int) + 1) = (n : Int) + 1 := IntWalk.i64_in _ (by omega)
    go_upto_region 2 with (fail)
    have HB2 := Lib.hid (HB1.out.set 11 (.int .i64 ((n : Int) + 1)))
    have HF2 : Hid (Fr (fun k => k = b) w (w0.setCell ⟨b, 11, none⟩ (.int .i64 ((n : Int) + 1)))) := Lib.hid (HF.out.setCell (by rfl) _)
    simp only [List.set_cons_succ, List.set_cons_zero] at HB2
    clear q11 f11
    generalize (w0.setCell ⟨b, 11, none⟩ (.int .i64 ((n : Int) + 1))) = w1 at *
    replace HB2 : Hid (Box w1 b [.string R.name, .int .i64 R.width, .int .i64 R.height, vp, vs, .bool R.falls, .bool R.keeps, ve, .int .i64 R.blocked, .int .i64 R.quiet, .int .i64 R.rept, .int .i64 (n + 1 : Nat), .int .i64 (l : Nat)] 86) := Lib.hid (by have h := HB2.out; rw [show ((n : Int) + 1) = ((n + 1 : Nat) : Int) by rfl] at h; exact h)
    have q11 := HB2.out.cell 11 rfl
    have q12 := HB2.out.cell 12 rfl
    have f12 := HB2.out.frozen 12
    obtain ⟨z, hz⟩ : ∃ z : Int, ((n + 1 : Nat) : Int) = z := ⟨_, rfl⟩
    rw [hz] at q11
    have HZ := Lib.hid hz
    by_cases hbig : 50000 < n + 1
    · have hbi : (50000 : Int) < z := by omega
      clear hbig hz
      have HFA : Hid (decide (n + nodes R 0 p ≤ 50000) = false) := Lib.hid (by rw [HN0.out]; have := HZ.out; simp; omega)
      go_wp2_with fail
      go_ret
      exact ⟨n + 1, l, by rw [HFA.out]; rfl, HB2.out, fun q => absurd (decide_eq_true q) (by rw [HFA.out]; decide), by omega, by omega, HF2.out⟩
    · have hbi : ¬ (50000 : Int) < z := by omega
      have HNB := Lib.hid hbig
      clear hbig hz
      have HFA : Hid (decide (n + nodes R 0 p ≤ 50000) = true) := Lib.hid (by rw [HN0.out]; have := HNB.out; simp; omega)
      have hw2 : IntKind.i64.wrap ((l : Int) + 1) = (l : Int) + 1 := IntWalk.i64_in _ (by omega)
      go_wp2_with fail
      have HB3 := Lib.hid (HB2.out.set 12 (.int .i64 ((l : Int) + 1)))
      simp only [List.set_cons_succ, List.set_cons_zero] at HB3
      replace HB3 : Hid (Box (w1.setCell ⟨b, 12, none⟩ (.int .i64 ((l : Int) + 1))) b [.string R.name, .int .i64 R.width, .int .i64 R.height, vp, vs, .bool R.falls, .bool R.keeps, ve, .int .i64 R.blocked, .int .i64 R.quiet, .int .i64 R.rept, .int .i64 (n + 1 : Nat), .int .i64 (l + 1 : Nat)] 86) := Lib.hid (by have h := HB3.out; exact h)
      go_ret
      exact ⟨n + 1, l + 1, by rw [HFA.out]; rfl, HB3.out, fun _ => by rw [HN0.out], by omega, (by have := HNB.out; omega), HF2.out.setCell (by rfl) _⟩
  | succ d ih =>
    intro hd p vc v0 v1 b n l w hB hr hp K hln hn
    have HSh := Lib.hid HS
    have HIH := Lib.hid (ih (by omega))
    have HB := Lib.hid hB
    have hlt := hB.lt
    have HR := Lib.hid hr
    have HP := Lib.hid hp
    have HK := Lib.hid K
    have hbw : b ≠ w.heap.size := by omega
    have hml := moves_len K
    obtain ⟨ac, cc, hv, hc1, hc2⟩ := hp.now.1.form
    obtain ⟨ac0, cc0, hv0, -, -⟩ := hp.now.2.1.form
    obtain ⟨ac1, cc1, hv1, -, -⟩ := hp.now.2.2.form
    subst hv hv0 hv1
    unfold maxLen at hc2
    clear hB hr hp K ih HS
    go_enter Try.func49, Try.ntmps49
    go_upto_region 1 with (fail)
    have hal := ((Below.refl w.heap.size w).alloc (Nat.le_refl _) (.cells #[.slice ac p.cells.length cc, .slice ac0 p.h0.length cc0, .slice ac1 p.h1.length cc1, .int .i64 p.turn, .int .i64 p.quiet] 29))
    have HF : Hid (Fr (fun k => k = b) w (w.alloc (.cells #[.slice ac p.cells.length cc, .slice ac0 p.h0.length cc0, .slice ac1 p.h1.length cc1, .int .i64 p.turn, .int .i64 p.quiet] 29))) := Lib.hid (Fr.of_new hal)
    have HB1 := Lib.hid (HB.out.stays hal)
    have HP1 := Lib.hid (Box.new w [.slice ac p.cells.length cc, .slice ac0 p.h0.length cc0, .slice ac1 p.h1.length cc1, .int .i64 p.turn, .int .i64 p.quiet] 29)
    clear hal HB
    generalize (w.alloc (.cells #[.slice ac p.cells.length cc, .slice ac0 p.h0.length cc0, .slice ac1 p.h1.length cc1, .int .i64 p.turn, .int .i64 p.quiet] 29)) = w0 at *
    have q11 := HB1.out.cell 11 rfl
    have f11 := HB1.out.frozen 11
    have hw1 : IntKind.i64.wrap ((n : Int) + 1) = (n : Int) + 1 := IntWalk.i64_in _ (by omega)
    go_upto_region 2 with (fail)
    have HB2 := Lib.hid (HB1.out.set 11 (.int .i64 ((n : Int) + 1)))
    have HF2 : Hid (Fr (fun k => k = b) w (w0.setCell ⟨b, 11, none⟩ (.int .i64 ((n : Int) + 1)))) := Lib.hid (HF.out.setCell (by rfl) _)
    have HP2 := Lib.hid (HP1.out.far ⟨b, 11, none⟩ (.int .i64 ((n : Int) + 1)) (fun e => hbw e.symm))
    simp only [List.set_cons_succ, List.set_cons_zero] at HB2
    clear q11 f11 HF HB1 HP1
    generalize (w0.setCell ⟨b, 11, none⟩ (.int .i64 ((n : Int) + 1))) = w1 at *
    replace HB2 : Hid (Box w1 b [.string R.name, .int .i64 R.width, .int .i64 R.height, vp, vs, .bool R.falls, .bool R.keeps, ve, .int .i64 R.blocked, .int .i64 R.quiet, .int .i64 R.rept, .int .i64 (n + 1 : Nat), .int .i64 (l : Nat)] 86) := Lib.hid (by have h := HB2.out; rw [show ((n : Int) + 1) = ((n + 1 : Nat) : Int) by rfl] at h; exact h)
    have q11 := HB2.out.cell 11 rfl
    obtain ⟨z, hz⟩ : ∃ z : Int, ((n + 1 : Nat) : Int) = z := ⟨_, rfl⟩
    rw [hz] at q11
    by_cases hbig : 50000 < n + 1
    · have hbi : (50000 : Int) < z := by omega
      have HFA : Hid (decide (n + nodes R (d + 1) p ≤ 50000) = false) := Lib.hid (by have := tot_le R d p 0; simp; omega)
      clear hbig hz
      go_wp2_with fail
      go_ret
      exact ⟨n + 1, l, by rw [HFA.out]; rfl, HB2.out, fun q => absurd (decide_eq_true q) (by rw [HFA.out]; decide), by omega, by omega, HF2.out⟩
    have hbi : ¬ (50000 : Int) < z := by omega
    have HNB := Lib.hid hbig
    clear hbig hz
    have hdz : (((d + 1 : Nat) : Int) == 0) = false := by simp; omega
    go_upto_region 7 with (fail)
    have Bz : Box w1.drew b [.string R.name, .int .i64 R.width, .int .i64 R.height, vp, vs, .bool R.falls, .bool R.keeps, ve, .int .i64 R.blocked, .int .i64 R.quiet, .int .i64 R.rept, .int .i64 (n + 1 : Nat), .int .i64 (l : Nat)] 86 := HB2.out
    have Pz : Box w1.drew w.heap.size [.slice ac p.cells.length cc, .slice ac0 p.h0.length cc0, .slice ac1 p.h1.length cc1, .int .i64 p.turn, .int .i64 p.quiet] 29 := HP2.out
    have Fz : Fr (fun k => k = b) w w1.drew := HF2.out.drew
    have Rz : Held (fun k => k = b) w1.drew fun w' => RdR w' R vp vs ve := HR.out.step Fz (Shr.refl _ _)
    have Qz : Held (fun k => k = b) w1.drew fun w' => RdP w' p (.slice ac p.cells.length cc) (.slice ac0 p.h0.length cc0) (.slice ac1 p.h1.length cc1) := HP.out.step Fz (Shr.refl _ _)
    clear HB2 HP2 HF2 q11 hdz hbi
    refine wp_region_noPanic ?_
    refine beginL (S := (fun w' => w'.cell? ⟨b, 0, none⟩ = some (.string R.name) ∧ w'.cell? ⟨b, 1, none⟩ = some (.int .i64 R.width) ∧ w'.cell? ⟨b, 2, none⟩ = some (.int .i64 R.height) ∧ w'.cell? ⟨b, 3, none⟩ = some vp ∧ w'.cell? ⟨b, 4, none⟩ = some vs ∧ w'.cell? ⟨b, 5, none⟩ = some (.bool R.falls) ∧ w'.cell? ⟨b, 6, none⟩ = some (.bool R.keeps) ∧ w'.cell? ⟨b, 7, none⟩ = some ve ∧ w'.cell? ⟨b, 8, none⟩ = some (.int .i64 R.blocked) ∧ w'.cell? ⟨b, 9, none⟩ = some (.int .i64 R.quiet) ∧ w'.cell? ⟨b, 10, none⟩ = some (.int .i64 R.rept) ∧ w'.cell? ⟨w.heap.size, 0, none⟩ = some (.slice ac p.cells.length cc) ∧ w'.cell? ⟨w.heap.size, 1, none⟩ = some (.slice ac0 p.h0.length cc0) ∧ w'.cell? ⟨w.heap.size, 2, none⟩ = some (.slice ac1 p.h1.length cc1) ∧ w'.cell? ⟨w.heap.size, 3, none⟩ = some (.int .i64 p.turn) ∧ w'.cell? ⟨w.heap.size, 4, none⟩ = some (.int .i64 p.quiet))) (L := []) (by kernel_rfl) ⟨Bz.cell 0 rfl, Bz.cell 1 rfl, Bz.cell 2 rfl, Bz.cell 3 rfl, Bz.cell 4 rfl, Bz.cell 5 rfl, Bz.cell 6 rfl, Bz.cell 7 rfl, Bz.cell 8 rfl, Bz.cell 9 rfl, Bz.cell 10 rfl, Pz.cell 0 rfl, Pz.cell 1 rfl, Pz.cell 2 rfl, Pz.cell 3 rfl, Pz.cell 4 rfl⟩ (fun hHeld => ?_)
    refine takeW (i := 0) (oi := { dst := some 30, op := Op.move (Operand.tmp 0), type := 84, pos := "perft.go:27", after := #[], guard := none }) (v := ?va11) rfl (by kernel_rfl) (by kernel_rfl) (by kernel_rfl) rfl (fun _ _ _ h => h) (Or.inl ⟨by rfl, ?ya11⟩) (fun _ => by assumption) ?ra11
    case ya11 => (intro w _; go_simp; first | done | (with_reducible rfl) | (rw [if_neg (by omega)]))
    try simp only [Act.put, List.setIfInBounds_toArray, List.set_cons_zero, List.set_cons_succ]
    refine takeL (i := 4) (oi := { dst := some 34, op := Op.load 29 (Operand.tmp 4), type := 29, pos := "perft.go:27", after := #[], guard := none }) (v := ?va12) rfl (by kernel_rfl) (by kernel_rfl) (by kernel_rfl) (by kernel_rfl) rfl (by kernel_rfl) (by kernel_rfl) (fun _ _ _ h => h) (Or.inl ⟨by rfl, ?ya12⟩) (by assumption) ?ra12
    case ya12 => (intro w hSw; (try dsimp only at hSw); go_simp; first | done | (with_reducible rfl))
    try simp only [Act.put, List.setIfInBounds_toArray, List.set_cons_zero, List.set_cons_succ]
    refine takeW (i := 7) (oi := { dst := some 37, op := Op.move (Operand.const (Value.int IntKind.i64 0)), type := 3, pos := "perft.go:27", after := #[], guard := none }) (v := ?va13) rfl (by kernel_rfl) (by kernel_rfl) (by kernel_rfl) rfl (fun _ _ _ h => h) (Or.inl ⟨by rfl, ?ya13⟩) (fun _ => by assumption) ?ra13
    case ya13 => (intro w _; go_simp; first | done | (with_reducible rfl) | (rw [if_neg (by omega)]))
    try simp only [Act.put, List.setIfInBounds_toArray, List.set_cons_zero, List.set_cons_succ]
    refine takeW (i := 1) (oi := { dst := some 31, op := Op.nilCheck (Operand.tmp 30), type := 0, pos := "perft.go:27", after := #[{ on := 0, ground := Ground.data }], guard := none }) (v := ?va14) rfl (by kernel_rfl) (by kernel_rfl) (by kernel_rfl) rfl (fun _ _ _ h => h) (Or.inl ⟨by rfl, ?ya14⟩) (fun _ => by assumption) ?ra14
    case ya14 => (intro w _; go_simp; first | done | (with_reducible rfl) | (rw [if_neg (by omega)]))
    try simp only [Act.put, List.setIfInBounds_toArray, List.set_cons_zero, List.set_cons_succ]
    refine takeW (i := 2) (oi := { dst := some 32, op := Op.fieldAddr 86 (Operand.tmp 31) 0, type := 0, pos := "perft.go:27", after := #[{ on := 1, ground := Ground.data }], guard := none }) (v := ?va15) rfl (by kernel_rfl) (by kernel_rfl) (by kernel_rfl) rfl (fun _ _ _ h => h) (Or.inl ⟨by rfl, ?ya15⟩) (fun _ => by assumption) ?ra15
    case ya15 => (intro w _; go_simp; first | done | (with_reducible rfl) | (rw [if_neg (by omega)]))
    try simp only [Act.put, List.setIfInBounds_toArray, List.set_cons_zero, List.set_cons_succ]
    refine takeL (i := 3) (oi := { dst := some 33, op := Op.load 26 (Operand.tmp 32), type := 26, pos := "perft.go:27", after := #[{ on := 2, ground := Ground.data }], guard := none }) (v := ?va16) rfl (by kernel_rfl) (by kernel_rfl) (by kernel_rfl) (by kernel_rfl) rfl (by kernel_rfl) (by kernel_rfl) (fun _ _ _ h => h) (Or.inl ⟨by rfl, ?ya16⟩) (by assumption) ?ra16
    case ya16 => (intro w hSw; (try dsimp only at hSw); go_simp; first | done | (with_reducible rfl))
    try simp only [Act.put, List.setIfInBounds_toArray, List.set_cons_zero, List.set_cons_succ]
    refine readyL (rs := [5]) (by kernel_rfl) (by simp) ?_
    refine (AllReadyL.cons (o := { dst := some 35, op := Op.call { callee := Callee.value (Operand.func 62), args := #[Operand.tmp 33, Operand.tmp 34], argTypes := #[26, 29] }, type := 93, pos := "perft.go:27", after := #[{ on := 3, ground := Ground.data }, { on := 4, ground := Ground.data }], guard := none }) rfl (fun K hK => ?_) AllReadyL.nil)
    go_simp
    refine (Moves_any HSh.out R vp vs ve p (.slice ac p.cells.length cc) (.slice ac0 p.h0.length cc0) (.slice ac1 p.h1.length cc1) _ Rz.now Qz.now HK.out).mono ?_
    rintro e w5 ⟨vm, rfl, ho5, hb5⟩
    have B5 := Bz.stays hb5
    have P5 := Pz.stays hb5
    have F5 := Fz.trans (Fr.of_new (S := fun k => k = b) hb5) (Shr.refl _ _)
    have R5 := Rz.step (Fr.of_new (S := fun k => k = b) hb5) (Shr.refl _ _)
    have Q5 := Qz.step (Fr.of_new (S := fun k => k = b) hb5) (Shr.refl _ _)
    have M5 : Held (fun k => k = b) w5 fun w' => RdL moveEl w' vm (movesZ R p) := (own_new ho5 (fun k h1 h2 hk => by have := Bz.lt; have h3 : k = b := hk; omega)).imp (fun _ h => rdM_of_own h)
    obtain ⟨am, cm, rfl⟩ := own_form2 ho5
    clear hb5 ho5
    refine hK.out _ _ ⟨B5.cell 0 rfl, B5.cell 1 rfl, B5.cell 2 rfl, B5.cell 3 rfl, B5.cell 4 rfl, B5.cell 5 rfl, B5.cell 6 rfl, B5.cell 7 rfl, B5.cell 8 rfl, B5.cell 9 rfl, B5.cell 10 rfl, P5.cell 0 rfl, P5.cell 1 rfl, P5.cell 2 rfl, P5.cell 3 rfl, P5.cell 4 rfl⟩ (fun hHeld => ?_)
    clear hK K
    try simp only [Act.put, List.setIfInBounds_toArray, List.set_cons_zero, List.set_cons_succ]
    refine takeW (i := 6) (oi := { dst := some 36, op := Op.call { callee := Callee.builtin Builtin.len, args := #[Operand.tmp 35], argTypes := #[93] }, type := 3, pos := "perft.go:27", after := #[{ on := 5, ground := Ground.data }], guard := none }) (v := ?va17) rfl (by kernel_rfl) (by kernel_rfl) (by kernel_rfl) rfl (fun _ _ _ h => h) (Or.inl ⟨by rfl, ?ya17⟩) (fun _ => by assumption) ?ra17
    case ya17 => (intro w _; go_simp; first | done | (with_reducible rfl) | (rw [if_neg (by omega)]))
    try simp only [Act.put, List.setIfInBounds_toArray, List.set_cons_zero, List.set_cons_succ]
    refine doneL (by kernel_rfl) ?_ _
    refine NoPanic.normal ?_
    have HB := Lib.hid B5
    have HP := Lib.hid P5
    have HF := Lib.hid F5
    have HRr := Lib.hid R5
    have HQq := Lib.hid Q5
    have HM := Lib.hid M5
    clear hHeld Bz Pz Fz Rz Qz B5 P5 F5 R5 Q5 M5
    go_wp2_with fail
    go_loopw [37, 8] (fun vi a8 wr => ∃ (k nk lk : Nat), k ≤ (movesZ R p).length ∧ vi = .int .i64 k ∧ Hid (nk = n + 1 + totZ R d p k) ∧ Hid (Box wr b [.string R.name, .int .i64 R.width, .int .i64 R.height, vp, vs, .bool R.falls, .bool R.keeps, ve, .int .i64 R.blocked, .int .i64 R.quiet, .int .i64 R.rept, .int .i64 (nk : Nat), .int .i64 (lk : Nat)] 86) ∧ lk ≤ nk ∧ nk ≤ 50000 ∧ Hid (Fr (fun k => k = b) w5 wr)) (fun i _ _ => (movesZ R p).length - (intOf i).toNat)
    case atStart => exact ⟨0, n + 1, l, Nat.zero_le _, rfl, Lib.hid (by unfold totZ; simp), HB, by omega, (by have := HNB.out; omega), Lib.hid (Fr.refl _ _)⟩
    case round =>
      obtain ⟨k, nk, lk, hk, rfl, HNK, HBr, hlk, hnk, HFr⟩ := hrel
      have HPr := Lib.hid (HP.out.held HFr.out (fun e => hbw e.symm))
      by_cases hlt : k < (movesZ R p).length
      · have HMr := Lib.hid (HM.out _ HFr.out)
        obtain ⟨gm, om, ha, hgm, hcc⟩ := moves_some HMr.out (by omega)
        subst ha
        obtain ⟨c0, c1, c2⟩ := hcc k hlt
        have hmem : (movesZ R p).getD k default ∈ movesZ R p := by rw [List.getD_eq_getElem?_getD, List.getElem?_eq_getElem hlt]; exact List.getElem_mem _
        have HFt := Lib.hid (fits_of HK.out (moves_mem hmem))
        have HKm := Lib.hid (make_ok HK.out (moves_mem hmem))
        obtain ⟨m, hm⟩ : ∃ m, (movesZ R p).getD k default = m := ⟨_, rfl⟩
        rw [hm] at c0 c1 c2 HFt HKm
        have HMD := Lib.hid hm
        clear hcc hmem hm
        go_upto_region 10 with (fail)
        have HBm := Lib.hid (Box.new wr [.int .i64 m.src, .int .i64 m.dst, .int .i64 m.piece] 70)
        have hal := ((Below.refl wr.heap.size wr).alloc (Nat.le_refl _) (.cells #[.int .i64 m.src, .int .i64 m.dst, .int .i64 m.piece] 70))
        have HBx := Lib.hid (HBr.out.stays hal)
        have HPx := Lib.hid (HPr.out.stays hal)
        have HFx := Lib.hid (HFr.out.trans (Fr.of_new (S := fun k => k = b) hal) (Shr.refl _ _))
        have hbx : wr.heap.size ≠ b := by have := HBr.out.lt; omega
        obtain ⟨bx, hbxe⟩ : ∃ bx, bx = wr.heap.size := ⟨_, rfl⟩
        rw [← hbxe] at HBm hbx ⊢
        replace hbx : b ≠ bx := fun e => hbx e.symm
        clear c0 c1 c2 hal hbxe HBr HPr HFr HMr
        generalize (wr.alloc (.cells #[.int .i64 m.src, .int .i64 m.dst, .int .i64 m.piece] 70)) = wq at *
        have hwd : IntKind.i64.wrap (d : Int) = (d : Int) := IntWalk.i64_in _ (by omega)
        have Bz : Box wq.drew b [.string R.name, .int .i64 R.width, .int .i64 R.height, vp, vs, .bool R.falls, .bool R.keeps, ve, .int .i64 R.blocked, .int .i64 R.quiet, .int .i64 R.rept, .int .i64 (nk : Nat), .int .i64 (lk : Nat)] 86 := HBx.out
        have Pz : Box wq.drew w.heap.size [.slice ac p.cells.length cc, .slice ac0 p.h0.length cc0, .slice ac1 p.h1.length cc1, .int .i64 p.turn, .int .i64 p.quiet] 29 := HPx.out
        have Mz : Box wq.drew bx [.int .i64 m.src, .int .i64 m.dst, .int .i64 m.piece] 70 := HBm.out
        have Fz : Fr (fun k => k = b) w5 wq.drew := HFx.out.drew
        have Rz : Held (fun k => k = b) wq.drew fun w' => RdR w' R vp vs ve := HRr.out.step Fz (Shr.refl _ _)
        have Qz : Held (fun k => k = b) wq.drew fun w' => RdP w' p (.slice ac p.cells.length cc) (.slice ac0 p.h0.length cc0) (.slice ac1 p.h1.length cc1) := HQq.out.step Fz (Shr.refl _ _)
        clear HBm HBx HPx HFx
        refine wp_region_noPanic ?_
        refine beginL (S := (fun w' => w'.cell? ⟨b, 0, none⟩ = some (.string R.name) ∧ w'.cell? ⟨b, 1, none⟩ = some (.int .i64 R.width) ∧ w'.cell? ⟨b, 2, none⟩ = some (.int .i64 R.height) ∧ w'.cell? ⟨b, 3, none⟩ = some vp ∧ w'.cell? ⟨b, 4, none⟩ = some vs ∧ w'.cell? ⟨b, 5, none⟩ = some (.bool R.falls) ∧ w'.cell? ⟨b, 6, none⟩ = some (.bool R.keeps) ∧ w'.cell? ⟨b, 7, none⟩ = some ve ∧ w'.cell? ⟨b, 8, none⟩ = some (.int .i64 R.blocked) ∧ w'.cell? ⟨b, 9, none⟩ = some (.int .i64 R.quiet) ∧ w'.cell? ⟨b, 10, none⟩ = some (.int .i64 R.rept) ∧ w'.cell? ⟨w.heap.size, 0, none⟩ = some (.slice ac p.cells.length cc) ∧ w'.cell? ⟨w.heap.size, 1, none⟩ = some (.slice ac0 p.h0.length cc0) ∧ w'.cell? ⟨w.heap.size, 2, none⟩ = some (.slice ac1 p.h1.length cc1) ∧ w'.cell? ⟨w.heap.size, 3, none⟩ = some (.int .i64 p.turn) ∧ w'.cell? ⟨w.heap.size, 4, none⟩ = some (.int .i64 p.quiet) ∧ w'.cell? ⟨bx, 0, none⟩ = some (.int .i64 m.src) ∧ w'.cell? ⟨bx, 1, none⟩ = some (.int .i64 m.dst) ∧ w'.cell? ⟨bx, 2, none⟩ = some (.int .i64 m.piece))) (L := []) (by kernel_rfl) ⟨Bz.cell 0 rfl, Bz.cell 1 rfl, Bz.cell 2 rfl, Bz.cell 3 rfl, Bz.cell 4 rfl, Bz.cell 5 rfl, Bz.cell 6 rfl, Bz.cell 7 rfl, Bz.cell 8 rfl, Bz.cell 9 rfl, Bz.cell 10 rfl, Pz.cell 0 rfl, Pz.cell 1 rfl, Pz.cell 2 rfl, Pz.cell 3 rfl, Pz.cell 4 rfl, Mz.cell 0 rfl, Mz.cell 1 rfl, Mz.cell 2 rfl⟩ (fun hHeld => ?_)
        refine takeW (i := 0) (oi := { dst := some 41, op := Op.move (Operand.tmp 0), type := 84, pos := "perft.go:28", after := #[], guard := none }) (v := ?va1) rfl (by kernel_rfl) (by kernel_rfl) (by kernel_rfl) rfl (fun _ _ _ h => h) (Or.inl ⟨by rfl, ?ya1⟩) (fun _ => by assumption) ?ra1
        case ya1 => (intro w _; go_simp; first | done | (with_reducible rfl) | (rw [if_neg (by omega)]))
        try simp only [Act.put, List.setIfInBounds_toArray, List.set_cons_zero, List.set_cons_succ]
        refine takeW (i := 1) (oi := { dst := some 42, op := Op.move (Operand.tmp 0), type := 84, pos := "perft.go:28", after := #[], guard := none }) (v := ?va2) rfl (by kernel_rfl) (by kernel_rfl) (by kernel_rfl) rfl (fun _ _ _ h => h) (Or.inl ⟨by rfl, ?ya2⟩) (fun _ => by assumption) ?ra2
        case ya2 => (intro w _; go_simp; first | done | (with_reducible rfl) | (rw [if_neg (by omega)]))
        try simp only [Act.put, List.setIfInBounds_toArray, List.set_cons_zero, List.set_cons_succ]
        refine takeL (i := 5) (oi := { dst := some 46, op := Op.load 29 (Operand.tmp 4), type := 29, pos := "perft.go:28", after := #[], guard := none }) (v := ?va3) rfl (by kernel_rfl) (by kernel_rfl) (by kernel_rfl) (by kernel_rfl) rfl (by kernel_rfl) (by kernel_rfl) (fun _ _ _ h => h) (Or.inl ⟨by rfl, ?ya3⟩) (by assumption) ?ra3
        case ya3 => (intro w hSw; (try dsimp only at hSw); go_simp; first | done | (with_reducible rfl))
        try simp only [Act.put, List.setIfInBounds_toArray, List.set_cons_zero, List.set_cons_succ]
        refine takeL (i := 6) (oi := { dst := some 47, op := Op.load 70 (Operand.tmp 8), type := 70, pos := "perft.go:28", after := #[], guard := none }) (v := ?va4) rfl (by kernel_rfl) (by kernel_rfl) (by kernel_rfl) (by kernel_rfl) rfl (by kernel_rfl) (by kernel_rfl) (fun _ _ _ h => h) (Or.inl ⟨by rfl, ?ya4⟩) (by assumption) ?ra4
        case ya4 => (intro w hSw; (try dsimp only at hSw); go_simp; first | done | (with_reducible rfl))
        try simp only [Act.put, List.setIfInBounds_toArray, List.set_cons_zero, List.set_cons_succ]
        refine takeW (i := 8) (oi := { dst := some 49, op := Op.move (Operand.tmp 2), type := 3, pos := "perft.go:28", after := #[], guard := none }) (v := ?va5) rfl (by kernel_rfl) (by kernel_rfl) (by kernel_rfl) rfl (fun _ _ _ h => h) (Or.inl ⟨by rfl, ?ya5⟩) (fun _ => by assumption) ?ra5
        case ya5 => (intro w _; go_simp; first | done | (with_reducible rfl) | (rw [if_neg (by omega)]))
        try simp only [Act.put, List.setIfInBounds_toArray, List.set_cons_zero, List.set_cons_succ]
        refine takeW (i := 2) (oi := { dst := some 43, op := Op.nilCheck (Operand.tmp 42), type := 0, pos := "perft.go:28", after := #[{ on := 1, ground := Ground.data }], guard := none }) (v := ?va6) rfl (by kernel_rfl) (by kernel_rfl) (by kernel_rfl) rfl (fun _ _ _ h => h) (Or.inl ⟨by rfl, ?ya6⟩) (fun _ => by assumption) ?ra6
        case ya6 => (intro w _; go_simp; first | done | (with_reducible rfl) | (rw [if_neg (by omega)]))
        try simp only [Act.put, List.setIfInBounds_toArray, List.set_cons_zero, List.set_cons_succ]
        refine takeW (i := 9) (oi := { dst := some 50, op := Op.binOp BinOp.sub 3 (Operand.tmp 49) (Operand.const (Value.int IntKind.i64 1)) 3, type := 3, pos := "perft.go:28", after := #[{ on := 8, ground := Ground.data }], guard := none }) (v := ?va7) rfl (by kernel_rfl) (by kernel_rfl) (by kernel_rfl) rfl (fun _ _ _ h => h) (Or.inl ⟨by rfl, ?ya7⟩) (fun _ => by assumption) ?ra7
        case ya7 => (intro w _; go_simp; first | done | (with_reducible rfl) | (rw [if_neg (by omega)]))
        try simp only [Act.put, List.setIfInBounds_toArray, List.set_cons_zero, List.set_cons_succ]
        refine takeW (i := 3) (oi := { dst := some 44, op := Op.fieldAddr 86 (Operand.tmp 43) 0, type := 0, pos := "perft.go:28", after := #[{ on := 2, ground := Ground.data }], guard := none }) (v := ?va8) rfl (by kernel_rfl) (by kernel_rfl) (by kernel_rfl) rfl (fun _ _ _ h => h) (Or.inl ⟨by rfl, ?ya8⟩) (fun _ => by assumption) ?ra8
        case ya8 => (intro w _; go_simp; first | done | (with_reducible rfl) | (rw [if_neg (by omega)]))
        try simp only [Act.put, List.setIfInBounds_toArray, List.set_cons_zero, List.set_cons_succ]
        refine takeL (i := 4) (oi := { dst := some 45, op := Op.load 26 (Operand.tmp 44), type := 26, pos := "perft.go:28", after := #[{ on := 3, ground := Ground.data }], guard := none }) (v := ?va9) rfl (by kernel_rfl) (by kernel_rfl) (by kernel_rfl) (by kernel_rfl) rfl (by kernel_rfl) (by kernel_rfl) (fun _ _ _ h => h) (Or.inl ⟨by rfl, ?ya9⟩) (by assumption) ?ra9
        case ya9 => (intro w hSw; (try dsimp only at hSw); go_simp; first | done | (with_reducible rfl))
        try simp only [Act.put, List.setIfInBounds_toArray, List.set_cons_zero, List.set_cons_succ]
        refine readyL (rs := [7]) (by kernel_rfl) (by simp) ?_
        refine (AllReadyL.cons (o := { dst := some 48, op := Op.call { callee := Callee.value (Operand.func 57), args := #[Operand.tmp 45, Operand.tmp 46, Operand.tmp 47], argTypes := #[26, 29, 70] }, type := 29, pos := "perft.go:28", after := #[{ on := 4, ground := Ground.data }, { on := 5, ground := Ground.data }, { on := 6, ground := Ground.data }], guard := none }) rfl (fun K hK => ?_) AllReadyL.nil)
        go_simp
        refine (Make_any R vp vs ve p (.slice ac p.cells.length cc) (.slice ac0 p.h0.length cc0) (.slice ac1 p.h1.length cc1) m _ Qz.now HK.out HFt.out).mono ?_
        rintro e w7 ⟨yc, y0, y1, rfl, ho7, hb7⟩
        have B7 := Bz.stays hb7
        have P7 := Pz.stays hb7
        have M7 := Mz.stays hb7
        have F7 := Fz.trans (Fr.of_new (S := fun k => k = b) hb7) (Shr.refl _ _)
        have R7 := Rz.step (Fr.of_new (S := fun k => k = b) hb7) (Shr.refl _ _)
        have N7 : Held (fun k => k = b) w7 fun w' => RdP w' (makeZ R p m) yc y0 y1 := (ownP_held ho7 (fun k h1 h2 hk => by have := Bz.lt; have h3 : k = b := hk; omega)).imp (fun _ h => h.rd)
        clear hb7 ho7
        unfold posV
        refine hK.out _ _ ⟨B7.cell 0 rfl, B7.cell 1 rfl, B7.cell 2 rfl, B7.cell 3 rfl, B7.cell 4 rfl, B7.cell 5 rfl, B7.cell 6 rfl, B7.cell 7 rfl, B7.cell 8 rfl, B7.cell 9 rfl, B7.cell 10 rfl, P7.cell 0 rfl, P7.cell 1 rfl, P7.cell 2 rfl, P7.cell 3 rfl, P7.cell 4 rfl, M7.cell 0 rfl, M7.cell 1 rfl, M7.cell 2 rfl⟩ (fun hHeld => ?_)
        clear hK K
        try simp only [Act.put, List.setIfInBounds_toArray, List.set_cons_zero, List.set_cons_succ]
        refine readyL (rs := [10]) (by kernel_rfl) (by simp) ?_
        refine (AllReadyL.cons (o := { dst := some 51, op := Op.call { callee := Callee.value (Operand.func 49), args := #[Operand.tmp 41, Operand.tmp 48, Operand.tmp 50], argTypes := #[84, 29, 3] }, type := 4, pos := "perft.go:28", after := #[{ on := 0, ground := Ground.data }, { on := 7, ground := Ground.data }, { on := 9, ground := Ground.data }, { on := 7, ground := Ground.chain }], guard := none }) rfl (fun K hK => ?_) AllReadyL.nil)
        go_simp
        try rw [hwd]
        refine (HIH.out (makeZ R p m) yc y0 y1 b nk lk w7 B7 R7 N7 HKm.out hlk hnk).mono ?_
        rintro e w10 ⟨n', l', rfl, B10, he10, hl10, hn10, hf10⟩
        have P10 := P7.held hf10 (fun e => hbw e.symm)
        have M10 := M7.held hf10 (fun e => hbx e.symm)
        have F10 := F7.trans hf10 (Shr.refl _ _)
        have HE10 := Lib.hid he10
        clear he10 hf10
        refine hK.out _ _ ⟨B10.cell 0 rfl, B10.cell 1 rfl, B10.cell 2 rfl, B10.cell 3 rfl, B10.cell 4 rfl, B10.cell 5 rfl, B10.cell 6 rfl, B10.cell 7 rfl, B10.cell 8 rfl, B10.cell 9 rfl, B10.cell 10 rfl, P10.cell 0 rfl, P10.cell 1 rfl, P10.cell 2 rfl, P10.cell 3 rfl, P10.cell 4 rfl, M10.cell 0 rfl, M10.cell 1 rfl, M10.cell 2 rfl⟩ (fun hHeld => ?_)
        clear hK K
        try simp only [Act.put, List.setIfInBounds_toArray, List.set_cons_zero, List.set_cons_succ]
        refine takeW (i := 11) (oi := { dst := some 52, op := Op.unOp UnOp.not 4 (Operand.tmp 51), type := 4, pos := "perft.go:28", after := #[{ on := 10, ground := Ground.data }], guard := none }) (v := ?va10) rfl (by kernel_rfl) (by kernel_rfl) (by kernel_rfl) rfl (fun _ _ _ h => h) (Or.inl ⟨by rfl, ?ya10⟩) (fun _ => by assumption) ?ra10
        case ya10 => (intro w _; go_simp; first | done | (with_reducible rfl) | (rw [if_neg (by omega)]))
        try simp only [Act.put, List.setIfInBounds_toArray, List.set_cons_zero, List.set_cons_succ]
        refine doneL (by kernel_rfl) ?_ _
        refine NoPanic.normal ?_
        have HB10 := Lib.hid B10
        have HF10 := Lib.hid F10
        clear hHeld Bz Pz Mz Fz B7 P7 M7 F7 B10 P10 M10 F10 Rz Qz R7 N7
        have HTS := Lib.hid (tot_succ R d p k hlt)
        by_cases hok : nk + nodes R d (makeZ R p m) ≤ 50000
        rotate_left
        · have hbad : decide (nk + nodes R d (makeZ R p m) ≤ 50000) = false := by simpa using hok
          have HFA : Hid (decide (n + nodes R (d + 1) p ≤ 50000) = false) := Lib.hid (by
            have h1 := HTS.out; rw [HMD.out] at h1
            have h2 := tot_le R d p (k + 1)
            have h3 := HNK.out
            simp; omega)
          rw [hbad]
          clear hok hbad HTS
          go_wp2_with fail
          go_ret
          exact ⟨n', l', by rw [HFA.out]; rfl, HB10.out, fun q => absurd (decide_eq_true q) (by rw [HFA.out]; decide), hl10, hn10, HF.out.trans HF10.out (Shr.refl _ _)⟩
        · have hgood : decide (nk + nodes R d (makeZ R p m) ≤ 50000) = true := by simpa using hok
          have hn' := HE10.out hok
          have HNN : Hid (n' = n + 1 + totZ R d p (k + 1)) := Lib.hid (by
            have h1 := HTS.out; rw [HMD.out] at h1
            have h3 := HNK.out
            omega)
          have hn5 : n' ≤ 50000 := by omega
          rw [hgood]
          clear hok hgood HTS HE10 hn'
          go_wp2_with fail
          go_roundw
          case rel => exact ⟨k + 1, n', l', by omega, by go_num, HNN, HB10, hl10, hn5, HF10⟩
          case measure => simp [intOf]; omega
      · obtain rfl : k = (movesZ R p).length := by omega
        have HTA := Lib.hid (tot_all R d p)
        have HTR : Hid (decide (n + nodes R (d + 1) p ≤ 50000) = true ∧ nk = n + nodes R (d + 1) p) := Lib.hid (by
          have h1 := HTA.out
          have h2 := HNK.out
          exact ⟨by simp; omega, by omega⟩)
        clear HTA
        go_wp2_with fail
        go_ret
        exact ⟨nk, lk, by rw [HTR.out.1]; rfl, HBr.out, fun _ => HTR.out.2, hlk, by omega, HF.out.trans HFr.out (Shr.refl _ _)⟩

def treeErr (R : RulesZ) (p : PosZ) (d : Int) : Int := if posErr R p ≠ 0 then posErr R p else if d < 0 ∨ 12 < d then 1 else if 50000 < nodes R d.toNat p then 17 else 0
def treeZ (R : RulesZ) (p : PosZ) (d : Int) : Int := if treeErr R p d = 0 then (nodes R d.toNat p : Int) else 0
set_option maxRecDepth 100000 in
set_option maxHeartbeats 4000000 in
theorem Check_any (HS : SortMvSaid) (R : RulesZ) (vp vs ve : Value) (p : PosZ) (vc v0 v1 : Value) (d : Int) (w : World) (hr : RdR w R vp vs ve) (hnm : R.name.size ≤ maxLen) (hp : RdP w p vc v0 v1) :
    Calls Try.prog 30 #[(.agg #[.string R.name, .int .i64 R.width, .int .i64 R.height, vp, vs, .bool R.falls, .bool R.keeps, ve, .int .i64 R.blocked, .int .i64 R.quiet, .int .i64 R.rept]), (.agg #[vc, v0, v1, .int .i64 p.turn, .int .i64 p.quiet]), .int .i64 d] w fun e w' => ∃ l : Int, e = .returned (.tuple #[.int .i64 (treeZ R p d), .int .i64 l, .int .i64 (treeErr R p d)]) ∧ Below w.heap.size w w' := by
  have HD : Hid (treeErr R p d = if posErr R p ≠ 0 then posErr R p else if d < 0 ∨ 12 < d then 1 else if 50000 < nodes R d.toNat p then 17 else 0) := Lib.hid rfl
  have HQ : Hid (treeZ R p d = if treeErr R p d = 0 then (nodes R d.toNat p : Int) else 0) := Lib.hid rfl
  have HSh := Lib.hid HS
  have HR := Lib.hid hr
  have HN := Lib.hid hnm
  have HP := Lib.hid hp
  obtain ⟨ac, cc, hv, hc1, hc2⟩ := hp.1.form
  obtain ⟨ac0, cc0, hv0, -, -⟩ := hp.2.1.form
  obtain ⟨ac1, cc1, hv1, -, -⟩ := hp.2.2.form
  subst hv hv0 hv1
  unfold maxLen at hc2
  clear hr hnm hp HS
  go_enter Try.func30, Try.ntmps30
  go_upto_region 1 with (fail)
  have B0 : Box ((w.alloc (.cells #[.string R.name, .int .i64 R.width, .int .i64 R.height, vp, vs, .bool R.falls, .bool R.keeps, ve, .int .i64 R.blocked, .int .i64 R.quiet, .int .i64 R.rept] 26)).alloc (.cells #[.slice ac p.cells.length cc, .slice ac0 p.h0.length cc0, .slice ac1 p.h1.length cc1, .int .i64 p.turn, .int .i64 p.quiet] 29)) (w.heap.size) [.string R.name, .int .i64 R.width, .int .i64 R.height, vp, vs, .bool R.falls, .bool R.keeps, ve, .int .i64 R.blocked, .int .i64 R.quiet, .int .i64 R.rept] 26 := ((Box.new' w (w.heap.size) [.string R.name, .int .i64 R.width, .int .i64 R.height, vp, vs, .bool R.falls, .bool R.keeps, ve, .int .i64 R.blocked, .int .i64 R.quiet, .int .i64 R.rept] 26 (by simp <;> omega)).alloc _)
  have B1 : Box ((w.alloc (.cells #[.string R.name, .int .i64 R.width, .int .i64 R.height, vp, vs, .bool R.falls, .bool R.keeps, ve, .int .i64 R.blocked, .int .i64 R.quiet, .int .i64 R.rept] 26)).alloc (.cells #[.slice ac p.cells.length cc, .slice ac0 p.h0.length cc0, .slice ac1 p.h1.length cc1, .int .i64 p.turn, .int .i64 p.quiet] 29)) (w.heap.size + 1) [.slice ac p.cells.length cc, .slice ac0 p.h0.length cc0, .slice ac1 p.h1.length cc1, .int .i64 p.turn, .int .i64 p.quiet] 29 := (Box.new' (w.alloc (.cells #[.string R.name, .int .i64 R.width, .int .i64 R.height, vp, vs, .bool R.falls, .bool R.keeps, ve, .int .i64 R.blocked, .int .i64 R.quiet, .int .i64 R.rept] 26)) (w.heap.size + 1) [.slice ac p.cells.length cc, .slice ac0 p.h0.length cc0, .slice ac1 p.h1.length cc1, .int .i64 p.turn, .int .i64 p.quiet] 29 (by simp <;> omega))
  have HB : Hid (Below w.heap.size w ((w.alloc (.cells #[.string R.name, .int .i64 R.width, .int .i64 R.height, vp, vs, .bool R.falls, .bool R.keeps, ve, .int .i64 R.blocked, .int .i64 R.quiet, .int .i64 R.rept] 26)).alloc (.cells #[.slice ac p.cells.length cc, .slice ac0 p.h0.length cc0, .slice ac1 p.h1.length cc1, .int .i64 p.turn, .int .i64 p.quiet] 29))) := Lib.hid (((Below.refl w.heap.size w).alloc (Nat.le_refl _) _).alloc (by simp <;> omega) _)
  have hz0 : w.heap.size + 1 < ((w.alloc (.cells #[.string R.name, .int .i64 R.width, .int .i64 R.height, vp, vs, .bool R.falls, .bool R.keeps, ve, .int .i64 R.blocked, .int .i64 R.quiet, .int .i64 R.rept] 26)).alloc (.cells #[.slice ac p.cells.length cc, .slice ac0 p.h0.length cc0, .slice ac1 p.h1.length cc1, .int .i64 p.turn, .int .i64 p.quiet] 29)).heap.size := by simp
  generalize ((w.alloc (.cells #[.string R.name, .int .i64 R.width, .int .i64 R.height, vp, vs, .bool R.falls, .bool R.keeps, ve, .int .i64 R.blocked, .int .i64 R.quiet, .int .i64 R.rept] 26)).alloc (.cells #[.slice ac p.cells.length cc, .slice ac0 p.h0.length cc0, .slice ac1 p.h1.length cc1, .int .i64 p.turn, .int .i64 p.quiet] 29)) = w0 at *
  have HX := Lib.hid B0
  have HY := Lib.hid B1
  clear B0 B1
  refine wp_region_lit ?_
  refine wpList_load_box (by rfl) 26 (.tmp 3) (by rfl) (w.heap.size) (by rfl) HX.out Try.underlying26 (by rfl) (by kernel_rfl) ?_
  refine wpList_load_box (by rfl) 29 (.tmp 4) (by rfl) (w.heap.size + 1) (by rfl) HY.out Try.underlying29 (by rfl) (by kernel_rfl) ?_
  go_wp2_with fail
  refine (placeCheck_any R vp vs ve p _ _ _ w0 (HR.out.below HB.out (Nat.le_refl _)) HN.out (HP.out.below HB.out (Nat.le_refl _))).mono ?_
  rintro e w1 ⟨rfl, hb1⟩
  have HB1 := Lib.hid (below_trans HB.out hb1 HB.out.size)
  have HX1 := Lib.hid (HX.out.below hb1 (by omega))
  have HY1 := Lib.hid (HY.out.below hb1 (by omega))
  clear hb1 HX HY
  by_cases he : posErr R p = 0
  rotate_left
  · have hE : treeErr R p d = posErr R p := by rw [HD.out, if_pos he]
    have HE := Lib.hid hE
    have HG : Hid (treeZ R p d = 0) := Lib.hid (by rw [HQ.out, hE, if_neg he])
    have heb : (posErr R p != 0) = true := by simpa using he
    clear hE he HD HQ
    go_wp2_with fail
    go_ret3
    exact ⟨0, by rw [HE.out, HG.out]; rfl, HB1.out⟩
  have HZE := Lib.hid he
  have HK := Lib.hid (pok_of he)
  have HD1 : Hid (treeErr R p d = if d < 0 ∨ 12 < d then 1 else if 50000 < nodes R d.toNat p then 17 else 0) := Lib.hid (by rw [HD.out, if_neg (by simp [he])])
  rw [he]
  clear he HD
  by_cases hd : d < 0 ∨ 12 < d
  · have hE : treeErr R p d = 1 := by rw [HD1.out, if_pos hd]
    have HE := Lib.hid hE
    have HG : Hid (treeZ R p d = 0) := Lib.hid (by rw [HQ.out, hE]; rfl)
    have hdd : d < 0 ∨ (¬ d < 0 ∧ 12 < d) := by omega
    clear hE hd HD1 HQ
    rcases hdd with h | ⟨h, h'⟩
    · go_wp2_with fail
      go_ret3
      exact ⟨0, by rw [HE.out, HG.out]; rfl, HB1.out⟩
    · go_wp2_with fail
      go_ret3
      exact ⟨0, by rw [HE.out, HG.out]; rfl, HB1.out⟩
  have HD2 : Hid (treeErr R p d = if 50000 < nodes R d.toNat p then 17 else 0) := Lib.hid (by rw [HD1.out, if_neg hd])
  obtain ⟨dn, rfl⟩ : ∃ dn : Nat, d = dn := ⟨d.toNat, by omega⟩
  have hdn : dn ≤ 12 := by omega
  have hd0 : ¬ ((dn : Int) < 0) := by omega
  have hd1 : ¬ ((12 : Int) < dn) := by omega
  rw [Int.toNat_natCast] at HD2 HQ
  clear hd HD1
  go_upto_region 6 with (fail)
  refine wp_region_lit ?_
  refine wpList_load_box (by rfl) 26 (.tmp 3) (by rfl) (w.heap.size) (by rfl) HX1.out Try.underlying26 (by rfl) (by kernel_rfl) ?_
  go_upto_region 7 with (fail)
  have HBb := Lib.hid (Box.new w1 [.string R.name, .int .i64 R.width, .int .i64 R.height, vp, vs, .bool R.falls, .bool R.keeps, ve, .int .i64 R.blocked, .int .i64 R.quiet, .int .i64 R.rept, .int .i64 0, .int .i64 0] 86)
  have hal := ((Below.refl w1.heap.size w1).alloc (Nat.le_refl _) (.cells #[.string R.name, .int .i64 R.width, .int .i64 R.height, vp, vs, .bool R.falls, .bool R.keeps, ve, .int .i64 R.blocked, .int .i64 R.quiet, .int .i64 R.rept, .int .i64 0, .int .i64 0] 86))
  have HX2 := Lib.hid (HX1.out.stays hal)
  have HY2 := Lib.hid (HY1.out.stays hal)
  have HB2 := Lib.hid (below_trans HB1.out hal HB1.out.size)
  have hsz1 : w.heap.size ≤ w1.heap.size := HB1.out.size
  obtain ⟨b, hb⟩ : ∃ b, b = w1.heap.size := ⟨_, rfl⟩
  rw [← hb] at HBb hsz1 ⊢
  clear hal hb HX1 HY1 HB1
  generalize (w1.alloc (.cells #[.string R.name, .int .i64 R.width, .int .i64 R.height, vp, vs, .bool R.falls, .bool R.keeps, ve, .int .i64 R.blocked, .int .i64 R.quiet, .int .i64 R.rept, .int .i64 0, .int .i64 0] 86)) = w2 at *
  have HRh : Hid (Held (fun k => k = b) w2 fun w' => RdR w' R vp vs ve) := Lib.hid (Held.old (B := w.heap.size) (fun w' hw => HR.out.below (HB2.out.trans hw) (Nat.le_refl _)) (fun k hk => by have h3 : k = b := hk; omega) HB2.out.size)
  have HPh : Hid (Held (fun k => k = b) w2 fun w' => RdP w' p (.slice ac p.cells.length cc) (.slice ac0 p.h0.length cc0) (.slice ac1 p.h1.length cc1)) := Lib.hid (Held.old (B := w.heap.size) (fun w' hw => HP.out.below (HB2.out.trans hw) (Nat.le_refl _)) (fun k hk => by have h3 : k = b := hk; omega) HB2.out.size)
  go_wp2_with (first | (refine wpList_load_box (by rfl) 29 (.tmp 4) (by rfl) (w.heap.size + 1) (by rfl) HY2.out Try.underlying29 (by rfl) (by kernel_rfl) ?_))
  refine (walk_any HSh.out R vp vs ve dn hdn p _ _ _ b 0 0 w2 HBb.out HRh.out HPh.out HK.out (Nat.le_refl _) (by omega)).mono ?_
  rintro e w3 ⟨n', l', rfl, hb3, he3, hl3, hn3, hf3⟩
  have HB3 := Lib.hid (HB2.out.trans (hf3.below (B := w.heap.size) (fun k hk => by have h3 : k = b := hk; omega) HB2.out.size))
  have HBb3 := Lib.hid hb3
  have HE3 := Lib.hid he3
  clear hb3 hf3 he3 HX2 HY2 HBb HRh HPh HB2
  rw [Nat.zero_add] at HE3 ⊢
  by_cases hbig : nodes R dn p ≤ 50000
  · have hgood : decide (nodes R dn p ≤ 50000) = true := by simpa using hbig
    have hE : treeErr R p dn = 0 := by rw [HD2.out, if_neg (by omega)]
    have HE := Lib.hid hE
    have HG : Hid (treeZ R p dn = (n' : Int)) := Lib.hid (by rw [HQ.out, if_pos hE, HE3.out hbig])
    rw [hgood]
    clear hE hbig hgood HD2 HQ HE3
    have q11 := HBb3.out.cell 11 rfl
    have q12 := HBb3.out.cell 12 rfl
    go_upto_region 9 with (fail)
    go_quiet (fail)
    go_wp2_with fail
    go_ret3
    exact ⟨l', by rw [HE.out, HG.out]; rfl, below_drewN HB3.out _⟩
  · have hbadb : decide (nodes R dn p ≤ 50000) = false := by simpa using hbig
    have hE : treeErr R p dn = 17 := by rw [HD2.out, if_pos (by omega)]
    have HE := Lib.hid hE
    have HG : Hid (treeZ R p dn = 0) := Lib.hid (by rw [HQ.out, hE]; rfl)
    rw [hbadb]
    clear hE hbig hbadb HD2 HQ HE3
    go_wp2_with fail
    go_ret3
    exact ⟨0, by rw [HE.out, HG.out]; rfl, HB3.out⟩
set_option maxRecDepth 100000 in
theorem Tree_any (HS : SortMvSaid) (R : RulesZ) (vp vs ve : Value) (p : PosZ) (vc v0 v1 : Value) (d : Int) (w : World) (hr : RdR w R vp vs ve) (hnm : R.name.size ≤ maxLen) (hp : RdP w p vc v0 v1) :
    Calls Try.prog 19 #[(.agg #[.string R.name, .int .i64 R.width, .int .i64 R.height, vp, vs, .bool R.falls, .bool R.keeps, ve, .int .i64 R.blocked, .int .i64 R.quiet, .int .i64 R.rept]), (.agg #[vc, v0, v1, .int .i64 p.turn, .int .i64 p.quiet]), .int .i64 d] w fun e w' => e = .returned (.tuple #[.int .i64 (treeZ R p d), .int .i64 (treeErr R p d)]) ∧ Below w.heap.size w w' := by
  have HSh := Lib.hid HS
  have HR := Lib.hid hr
  have HN := Lib.hid hnm
  have HP := Lib.hid hp
  clear hr hnm hp HS
  go_enter Try.func19, Try.ntmps19
  go_upto_region 1 with (fail)
  have B0 : Box ((w.alloc (.cells #[.string R.name, .int .i64 R.width, .int .i64 R.height, vp, vs, .bool R.falls, .bool R.keeps, ve, .int .i64 R.blocked, .int .i64 R.quiet, .int .i64 R.rept] 26)).alloc (.cells #[vc, v0, v1, .int .i64 p.turn, .int .i64 p.quiet] 29)) (w.heap.size) [.string R.name, .int .i64 R.width, .int .i64 R.height, vp, vs, .bool R.falls, .bool R.keeps, ve, .int .i64 R.blocked, .int .i64 R.quiet, .int .i64 R.rept] 26 := ((Box.new' w (w.heap.size) [.string R.name, .int .i64 R.width, .int .i64 R.height, vp, vs, .bool R.falls, .bool R.keeps, ve, .int .i64 R.blocked, .int .i64 R.quiet, .int .i64 R.rept] 26 (by simp <;> omega)).alloc _)
  have B1 : Box ((w.alloc (.cells #[.string R.name, .int .i64 R.width, .int .i64 R.height, vp, vs, .bool R.falls, .bool R.keeps, ve, .int .i64 R.blocked, .int .i64 R.quiet, .int .i64 R.rept] 26)).alloc (.cells #[vc, v0, v1, .int .i64 p.turn, .int .i64 p.quiet] 29)) (w.heap.size + 1) [vc, v0, v1, .int .i64 p.turn, .int .i64 p.quiet] 29 := (Box.new' (w.alloc (.cells #[.string R.name, .int .i64 R.width, .int .i64 R.height, vp, vs, .bool R.falls, .bool R.keeps, ve, .int .i64 R.blocked, .int .i64 R.quiet, .int .i64 R.rept] 26)) (w.heap.size + 1) [vc, v0, v1, .int .i64 p.turn, .int .i64 p.quiet] 29 (by simp <;> omega))
  have HB : Hid (Below w.heap.size w ((w.alloc (.cells #[.string R.name, .int .i64 R.width, .int .i64 R.height, vp, vs, .bool R.falls, .bool R.keeps, ve, .int .i64 R.blocked, .int .i64 R.quiet, .int .i64 R.rept] 26)).alloc (.cells #[vc, v0, v1, .int .i64 p.turn, .int .i64 p.quiet] 29))) := Lib.hid (((Below.refl w.heap.size w).alloc (Nat.le_refl _) _).alloc (by simp <;> omega) _)
  have hz0 : w.heap.size + 1 < ((w.alloc (.cells #[.string R.name, .int .i64 R.width, .int .i64 R.height, vp, vs, .bool R.falls, .bool R.keeps, ve, .int .i64 R.blocked, .int .i64 R.quiet, .int .i64 R.rept] 26)).alloc (.cells #[vc, v0, v1, .int .i64 p.turn, .int .i64 p.quiet] 29)).heap.size := by simp
  generalize ((w.alloc (.cells #[.string R.name, .int .i64 R.width, .int .i64 R.height, vp, vs, .bool R.falls, .bool R.keeps, ve, .int .i64 R.blocked, .int .i64 R.quiet, .int .i64 R.rept] 26)).alloc (.cells #[vc, v0, v1, .int .i64 p.turn, .int .i64 p.quiet] 29)) = w0 at *
  have HX := Lib.hid B0
  have HY := Lib.hid B1
  clear B0 B1
  refine wp_region_lit ?_
  refine wpList_load_box (by rfl) 26 (.tmp 3) (by rfl) (w.heap.size) (by rfl) HX.out Try.underlying26 (by rfl) (by kernel_rfl) ?_
  refine wpList_load_box (by rfl) 29 (.tmp 4) (by rfl) (w.heap.size + 1) (by rfl) HY.out Try.underlying29 (by rfl) (by kernel_rfl) ?_
  go_wp2_with fail
  refine (Check_any HSh.out R vp vs ve p vc v0 v1 d w0 (HR.out.below HB.out (Nat.le_refl _)) HN.out (HP.out.below HB.out (Nat.le_refl _))).mono ?_
  rintro e w1 ⟨l, rfl, hb1⟩
  have HB1 := Lib.hid (below_trans HB.out hb1 HB.out.size)
  clear hb1
  go_wp2_with fail
  go_ret2
  exact ⟨rfl, HB1.out⟩

end Go.Proofs.Ytaacfoeleblfbaa

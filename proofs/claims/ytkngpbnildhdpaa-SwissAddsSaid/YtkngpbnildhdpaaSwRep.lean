/- slices.Repeat at one int, n = 2 .. 8 times. -/
import Derived.Test.YtkngpbnildhdpaaIntsB
import Derived.Test.YtkngpbnildhdpaaOwn
import Derived.Test.YtkngpbnildhdpaaBox
import Derived.Test.YtkngpbnildhdpaaSub
import Derived.Test.YtkngpbnildhdpaaHeldL
import Derived.Laws.CopyOwn
import Derived.Laws.Bits64b
import Derived.BigQuiet
import Derived.Deep.Cut
import Derived.Deep.QuietTactic
namespace Go.Proofs.Ytkngpbnildhdpaa
open Go.ChangeShapes Go.WideShapes Go.ChangeAt Go.RowKit
set_option linter.unusedVariables false

theorem wp_copyK {P : Program} (w : World) {o : Oper} {a : Act} {K : Act → World → Prop} {Q : Exit → Act → World → Prop} (d s : Operand) (t t' : TypeId)
    (ho : o.op = .call { callee := .builtin .copy, args := #[d, s], argTypes := #[t, t'] }) (v u : Value) (hd : a.eval d = v) (hs : a.eval s = u) {v' : Value} {w' : World}
    (hr : (Builtin.copy_ #[t, t'] o.type #[v, u]).run P w = .ok v' w') (h : K (a.put o.dst v') w') : o.wp P a w K Q := by
  unfold Oper.wp execOp
  simp only [ho, resolve, invoke, builtin, Sem.run_bind, Sem.run_pure, Result.andThen_ok, List.map_toArray, List.map_cons, List.map_nil, hd, hs, hr]
  exact h
theorem wpList_copyK {P : Program} (w : World) {ops : Array Oper} {rest : List Oper} {o : Oper} {a : Act} {Q : Exit → Act → World → Prop} (hgd : o.guard = none) (d s : Operand) (t t' : TypeId)
    (ho : o.op = .call { callee := .builtin .copy, args := #[d, s], argTypes := #[t, t'] }) (v u : Value) (hd : a.eval d = v) (hs : a.eval s = u) {v' : Value} {w' : World}
    (hr : (Builtin.copy_ #[t, t'] o.type #[v, u]).run P w = .ok v' w') (h : wpList P ops Q rest (a.put o.dst v') w') : wpList P ops Q (o :: rest) a w :=
  wpList_plain hgd fun _ hK => wp_copyK w d s t t' ho v u hd hs hr (hK _ _ h)

theorem Mul64_one (n : Nat) (h2 : 2 ≤ n) (h8 : n ≤ 8) (w : World) :
    Calls Try.prog 25 #[.int .u64 1, .int .u64 n] w fun e w' => e = .returned (.tuple #[.int .u64 0, .int .u64 n]) ∧ w = w' := by
  rcases (by omega : n = 2 ∨ n = 3 ∨ n = 4 ∨ n = 5 ∨ n = 6 ∨ n = 7 ∨ n = 8) with rfl | rfl | rfl | rfl | rfl | rfl | rfl
  all_goals
    go_enter Try.func25, Try.ntmps25
    go_wp2_with fail
    go_ret2
    exact ⟨rfl, rfl⟩
theorem Mul_one (n : Nat) (h2 : 2 ≤ n) (h8 : n ≤ 8) (w : World) :
    Calls Try.prog 21 #[.int .u64 1, .int .u64 n] w fun e w' => e = .returned (.tuple #[.int .u64 0, .int .u64 n]) ∧ w = w' := by
  go_enter Try.func21, Try.ntmps21
  go_wp2_with (go_at_call 25; refine (Mul64_one n h2 h8 _).mono ?_; rintro e w' ⟨rfl, rfl⟩)
  go_ret2
  exact ⟨rfl, rfl⟩
def fillZ (n k : Nat) : List Int := List.replicate k (-1) ++ List.replicate (n - k) 0
theorem fill_len (n k : Nat) (h : k ≤ n) : (fillZ n k).length = n := by unfold fillZ; simp; omega
theorem sz_int (w : World) : (sizeOf 3).run Try.prog w = .ok 1 w := by kernel_rfl
theorem ints_app (l m : List Int) : ints (l ++ m) = ints l ++ ints m := by simp [ints]
theorem ints_take (l : List Int) (k : Nat) : (ints l).take k = ints (l.take k) := by simp [ints, List.map_take]
theorem ints_drop (l : List Int) (k : Nat) : (ints l).drop k = ints (l.drop k) := by simp [ints, List.map_drop]
/-- cells of -1 are laid behind those that are there. -/
theorem copy_step (n k m g : Nat) (w : World) (h : Box w g (ints (fillZ n k)) 3) (a : Addr) (sl sc : Nat) (hm : Nat.min sl (n - k) = m) (hk : k + m ≤ n) (hsrc : ∀ j v, (ints (List.replicate m (-1)))[j]? = some v → w.cell? (a.add j) = some v) :
    ∃ w2, (∀ ty, (Builtin.copy_ #[28, 28] ty #[.slice (some ⟨g, k, none⟩) (n - k) (n - k), .slice (some a) sl sc]).run Try.prog w = .ok (.int .i64 (m : Int)) w2) ∧ Box w2 g (ints (fillZ n (k + m))) 3 ∧ (∀ B W, B ≤ g → Below B W w → Below B W w2) ∧ w.heap.size ≤ w2.heap.size := by
  have hl : (ints (List.replicate m (-1))).length = m := by simp [ints]
  have hfl : (ints (fillZ n k)).length = n := by rw [ints_len, fill_len n k (by omega)]
  have hr := fun ty => run_copy_row (P := Try.prog) w 28 28 ty 3 g k (n - k) (n - k) a sl sc _ 3 (ints (List.replicate m (-1))) Try.underlying28 (by kernel_rfl) h (by rw [hl, hm]) hsrc (by rw [hl, List.size_toArray, hfl]; exact hk) (ints_cell1 _)
  rw [hl] at hr
  refine ⟨_, fun ty => hr ty, ?_, fun B W hB hb => below_setRow hb hB _, Nat.le_of_eq (by simp [World.setRow])⟩
  have h2 := setRow_heap w g _ (((ints (fillZ n k)).toArray.toList.take k ++ ints (List.replicate m (-1)) ++ (ints (fillZ n k)).toArray.toList.drop (k + m)).toArray) 3 _ h
  unfold Box
  rw [h2]
  congr 2
  have e : fillZ n (k + m) = (fillZ n k).take k ++ List.replicate m (-1) ++ (fillZ n k).drop (k + m) := by
    unfold fillZ
    rw [List.take_append_of_le_length (by simp), List.take_of_length_le (by simp), List.drop_append, List.drop_of_length_le (by simp), List.drop_replicate, List.length_replicate, List.nil_append, ← List.replicate_append_replicate, show n - k - (k + m - k) = n - (k + m) by omega]
  rw [e, ints_app, ints_app, ← ints_take, ← ints_drop]
theorem fill_src (w : World) (g n k m : Nat) (h : Box w g (ints (fillZ n k)) 3) (hm : m ≤ k) : ∀ j v, (ints (List.replicate m (-1)))[j]? = some v → w.cell? ((⟨g, 0, none⟩ : Addr).add j) = some v := by
  intro j v hj
  have hjl : j < m := by have := (List.getElem?_eq_some_iff.1 hj).1; simpa [ints] using this
  have hv : v = .int .i64 (-1) := by simp [ints, hjl] at hj; exact hj.symm
  rw [add_off, Nat.zero_add]
  refine h.cell j ?_
  rw [hv]
  unfold fillZ
  rw [ints_app, List.getElem?_append_left (by simp [ints]; omega)]
  simp [ints, show j < k by omega]

set_option maxRecDepth 100000 in
set_option maxHeartbeats 4000000 in
theorem Repeat_any (n g o c : Nat) (w : World) (h2 : 2 ≤ n) (h8 : n ≤ 8) (hg : w.cell? ⟨g, o, none⟩ = some (.int .i64 (-1))) :
    Calls Try.prog 11 #[.slice (some ⟨g, o, none⟩) 1 c, .int .i64 n] w fun e w' => e = .returned (.slice (some ⟨w.heap.size, 0, none⟩) n n) ∧ Box w' w.heap.size (ints (List.replicate n (-1))) 3 ∧ Below w.heap.size w w' := by
  obtain ⟨i0, hi, hz0, hz1, hz2⟩ := info_parts info3
  have hlt := World.block_lt_of_cell? w _ hg
  have HG := Lib.hid hg
  have hd : ∀ (k : Nat), k ≤ n → ∀ w' : World, (Instr.slice 28 (.slice (some ⟨w.heap.size, 0, none⟩) n n) (some (.int .i64 (k : Int))) none none).run Try.prog w' = .ok (.slice (subAddr (some ⟨w.heap.size, 0, none⟩) n k 1) (n - k) (n - k)) w' := fun k hk w' =>
    run_drop (P := Try.prog) (t := 28) (s := 1) Try.underlying28 (fun w => sz_int w) _ n n k hk w'
  have ht : ∀ (k : Nat), k ≤ n → ∀ w' : World, (Instr.slice 28 (.slice (some ⟨w.heap.size, 0, none⟩) n n) none (some (.int .i64 (k : Int))) none).run Try.prog w' = .ok (.slice (some ⟨w.heap.size, 0, none⟩) k n) w' := fun k hk w' =>
    run_take (P := Try.prog) (t := 28) (s := 1) Try.underlying28 (fun w => sz_int w) _ n n k hk w'
  have HD := Lib.hid hd
  have HT := Lib.hid ht
  clear hg hd ht
  have e1 : ¬ (n : Int) < 0 := by omega
  have e2 : IntKind.u64.wrap (n : Int) = n := by rw [IntKind.wrap_u64]; omega
  have e3 : IntKind.i64.wrap (n : Int) = n := by rw [IntKind.wrap_i64]; omega
  have e4 : ¬ (9223372036854775807 : Int) < (n : Int) := by omega
  go_enter Try.func11, Try.ntmps11
  go_upto_region 6 with (go_at_call 21; refine (Mul_one n h2 h8 _).mono ?_; rintro e w' ⟨rfl, rfl⟩)
  go_upto_region 7 with (at_make; refine wpList_make_full _ rfl _ _ 28 rfl w.heap.size 3 i0 (.int .i64 0) 1 Try.underlying28 hi hz0 hz1 .i64 .i64 n n n rfl rfl rfl rfl (by rw [hz2]; omega) (by unfold maxLen; omega) (Nat.le_refl _) ?_; intro w2 hown hgrow)
  have hbx : Box w2 w.heap.size (ints (fillZ n 0)) 3 := by
    rcases hown.2 with ⟨h, _⟩ | ⟨g', c', cur, hv, _, hb, _, _, hcs, htk⟩
    · cases h
    · simp only [Value.slice.injEq, Option.some.injEq, Addr.mk.injEq, and_true, true_and] at hv
      obtain ⟨rfl, rfl⟩ := hv
      unfold Box
      rw [hb]
      congr 2
      rw [List.take_of_length_le (by rw [Array.length_toList]; omega), made_ints] at htk
      unfold fillZ
      rw [Nat.sub_zero, List.replicate_zero, List.nil_append, ← htk]
  have hb2 : Below w.heap.size w w2 := Below.grown (Below.refl _ w) hgrow (Nat.le_refl _) (fun q hq => by simp at hq)
  have hg2 : w2.cell? ⟨g, o, none⟩ = some (.int .i64 (-1)) := by rw [hb2.cell (show (⟨g, o, none⟩ : Addr).block < w.heap.size from hlt)]; exact HG.out
  obtain ⟨w3, hcp, hb3, hbel, -⟩ := copy_step n 0 1 w.heap.size w2 hbx ⟨g, o, none⟩ 1 c (by rw [Nat.sub_zero]; exact Nat.min_eq_left (by omega)) (by omega) (fun j v hj => by
    have hjl : j < 1 := by have := (List.getElem?_eq_some_iff.1 hj).1; simpa [ints] using this
    obtain rfl : j = 0 := by omega
    have hv : v = .int .i64 (-1) := by simp [ints] at hj; exact hj.symm
    rw [hv, add_off]; exact hg2)
  rw [Nat.sub_zero] at hcp
  have HB3 := Lib.hid hb3
  have HL3 := Lib.hid (hbel _ _ (Nat.le_refl _) hb2)
  clear hbx hb2 hg2 hown hgrow hb3 hbel
  go_upto_region 8 with (refine wpList_copyK _ rfl _ _ 28 28 rfl _ _ rfl rfl (hcp _) ?_)
  clear hcp
  go_loopw [8] (fun v8 wr => ∃ k : Nat, 1 ≤ k ∧ k ≤ n ∧ v8 = .int .i64 k ∧ Hid (Box wr w.heap.size (ints (fillZ n k)) 3) ∧ Hid (Below w.heap.size w wr)) (fun i _ => n - (intOf i).toNat)
  case atStart => exact ⟨1, by omega, by omega, rfl, HB3, HL3⟩
  case round =>
    obtain ⟨k, hk1, hk, rfl, HBr, HLr⟩ := hrel
    by_cases hkn : k < n
    · have hd := HD.out k hk
      have ht := HT.out k hk
      rw [show subAddr (some ⟨w.heap.size, 0, none⟩) n k 1 = some ⟨w.heap.size, k, none⟩ by unfold subAddr; rw [if_neg (by omega)]; simp [add_off]] at hd
      obtain ⟨m, hm⟩ : ∃ m, Nat.min k (n - k) = m := ⟨_, rfl⟩
      have hm1 : m ≤ k := by rw [← hm]; exact Nat.min_le_left _ _
      have hm2 : k + m ≤ n := by have : m ≤ n - k := by rw [← hm]; exact Nat.min_le_right _ _
                                 omega
      have hm3 : 1 ≤ m := by rw [← hm]; exact Nat.le_min.2 ⟨hk1, by omega⟩
      have hki : (k : Int) < (n : Int) := by omega
      obtain ⟨w4, hcp, hb4, hbel, hsz4⟩ := copy_step n k m w.heap.size wr.drew HBr.out.drew ⟨w.heap.size, 0, none⟩ k n hm hm2 (fill_src wr.drew w.heap.size n k m HBr.out.drew hm1)
      have HB4 := Lib.hid hb4
      have HL4 := Lib.hid (hbel _ _ (Nat.le_refl _) (below_drewN HLr.out 1))
      have hw : IntKind.i64.wrap ((k : Int) + (m : Int)) = ((k + m : Nat) : Int) := by rw [IntKind.wrap_i64]; omega
      clear hb4 hbel hm
      go_upto_region 9 with (fail)
      refine wp_region_noPanic ?_
      refine beginL (S := (fun _ => True)) (L := []) (by kernel_rfl) trivial (fun hHeld => ?_)
      refine takeW (i := 0) (oi := { dst := some 38, op := Op.move (Operand.tmp 8), type := 3, pos := "slices.go:528", after := #[], guard := none }) (v := ?va1) rfl (by kernel_rfl) (by kernel_rfl) (by kernel_rfl) rfl (fun _ _ _ h => h) (Or.inl ⟨by rfl, ?ya1⟩) (fun _ => by assumption) ?ra1
      case ya1 => (intro w _; go_simp; first | done | (with_reducible rfl) | (rw [if_neg (by omega)]))
      try simp only [Act.put, List.setIfInBounds_toArray, List.set_cons_zero, List.set_cons_succ]
      refine takeW (i := 1) (oi := { dst := some 39, op := Op.move (Operand.tmp 7), type := 28, pos := "slices.go:528", after := #[], guard := none }) (v := ?va2) rfl (by kernel_rfl) (by kernel_rfl) (by kernel_rfl) rfl (fun _ _ _ h => h) (Or.inl ⟨by rfl, ?ya2⟩) (fun _ => by assumption) ?ra2
      case ya2 => (intro w _; go_simp; first | done | (with_reducible rfl) | (rw [if_neg (by omega)]))
      try simp only [Act.put, List.setIfInBounds_toArray, List.set_cons_zero, List.set_cons_succ]
      refine takeW (i := 2) (oi := { dst := some 40, op := Op.move (Operand.tmp 8), type := 3, pos := "slices.go:528", after := #[], guard := none }) (v := ?va3) rfl (by kernel_rfl) (by kernel_rfl) (by kernel_rfl) rfl (fun _ _ _ h => h) (Or.inl ⟨by rfl, ?ya3⟩) (fun _ => by assumption) ?ra3
      case ya3 => (intro w _; go_simp; first | done | (with_reducible rfl) | (rw [if_neg (by omega)]))
      try simp only [Act.put, List.setIfInBounds_toArray, List.set_cons_zero, List.set_cons_succ]
      refine takeW (i := 4) (oi := { dst := some 42, op := Op.move (Operand.tmp 7), type := 28, pos := "slices.go:528", after := #[], guard := none }) (v := ?va4) rfl (by kernel_rfl) (by kernel_rfl) (by kernel_rfl) rfl (fun _ _ _ h => h) (Or.inl ⟨by rfl, ?ya4⟩) (fun _ => by assumption) ?ra4
      case ya4 => (intro w _; go_simp; first | done | (with_reducible rfl) | (rw [if_neg (by omega)]))
      try simp only [Act.put, List.setIfInBounds_toArray, List.set_cons_zero, List.set_cons_succ]
      refine takeW (i := 5) (oi := { dst := some 43, op := Op.move (Operand.tmp 8), type := 3, pos := "slices.go:528", after := #[], guard := none }) (v := ?va5) rfl (by kernel_rfl) (by kernel_rfl) (by kernel_rfl) rfl (fun _ _ _ h => h) (Or.inl ⟨by rfl, ?ya5⟩) (fun _ => by assumption) ?ra5
      case ya5 => (intro w _; go_simp; first | done | (with_reducible rfl) | (rw [if_neg (by omega)]))
      try simp only [Act.put, List.setIfInBounds_toArray, List.set_cons_zero, List.set_cons_succ]
      refine takeW (i := 3) (oi := { dst := some 41, op := Op.slice 28 (Operand.tmp 39) (some (Operand.tmp 40)) none none, type := 28, pos := "slices.go:528", after := #[{ on := 1, ground := Ground.data }, { on := 2, ground := Ground.data }], guard := none }) (v := ?va6) rfl (by kernel_rfl) (by kernel_rfl) (by kernel_rfl) rfl (fun _ _ _ h => h) (Or.inl ⟨by rfl, ?ya6⟩) (fun _ => by assumption) ?ra6
      case ya6 => (intro w _; go_simp; first | done | (with_reducible rfl) | (rw [if_neg (by omega)]))
      try simp only [Act.put, List.setIfInBounds_toArray, List.set_cons_zero, List.set_cons_succ]
      refine takeW (i := 6) (oi := { dst := some 44, op := Op.slice 28 (Operand.tmp 42) none (some (Operand.tmp 43)) none, type := 28, pos := "slices.go:528", after := #[{ on := 4, ground := Ground.data }, { on := 5, ground := Ground.data }], guard := none }) (v := ?va7) rfl (by kernel_rfl) (by kernel_rfl) (by kernel_rfl) rfl (fun _ _ _ h => h) (Or.inl ⟨by rfl, ?ya7⟩) (fun _ => by assumption) ?ra7
      case ya7 => (intro w _; go_simp; first | done | (with_reducible rfl) | (rw [if_neg (by omega)]))
      try simp only [Act.put, List.setIfInBounds_toArray, List.set_cons_zero, List.set_cons_succ]
      refine readyL (rs := [7]) (by kernel_rfl) (by simp) ?_
      refine (AllReadyL.cons (o := { dst := some 45, op := Op.call { callee := Callee.builtin Builtin.copy, args := #[Operand.tmp 41, Operand.tmp 44], argTypes := #[28, 28] }, type := 3, pos := "slices.go:528", after := #[{ on := 3, ground := Ground.data }, { on := 6, ground := Ground.data }], guard := none }) rfl (fun K hK => ?_) AllReadyL.nil)
      rw [if_pos (by rfl)]
      refine wp_copyK _ _ _ 28 28 rfl _ _ rfl rfl (hcp _) ?_
      refine hK.out _ _ trivial (fun hHeld => ?_)
      clear hK K
      try simp only [Act.put, List.setIfInBounds_toArray, List.set_cons_zero, List.set_cons_succ]
      refine takeW (i := 8) (oi := { dst := some 46, op := Op.binOp BinOp.add 3 (Operand.tmp 38) (Operand.tmp 45) 3, type := 3, pos := "slices.go:528", after := #[{ on := 0, ground := Ground.data }, { on := 7, ground := Ground.data }], guard := none }) (v := ?va8) rfl (by kernel_rfl) (by kernel_rfl) (by kernel_rfl) rfl (fun _ _ _ h => h) (Or.inl ⟨by rfl, ?ya8⟩) (fun _ => by assumption) ?ra8
      case ya8 => (intro w _; go_simp; first | done | (with_reducible rfl) | (rw [if_neg (by omega)]))
      try simp only [Act.put, List.setIfInBounds_toArray, List.set_cons_zero, List.set_cons_succ]
      refine takeW (i := 9) (oi := { dst := some 8, op := Op.assign (Operand.tmp 46), type := 3, pos := "slices.go:528", after := #[{ on := 8, ground := Ground.data }, { on := 7, ground := Ground.chain }, { on := 0, ground := Ground.phase }, { on := 1, ground := Ground.phase }, { on := 2, ground := Ground.phase }, { on := 3, ground := Ground.phase }, { on := 4, ground := Ground.phase }, { on := 5, ground := Ground.phase }, { on := 6, ground := Ground.phase }, { on := 7, ground := Ground.phase }, { on := 8, ground := Ground.phase }], guard := none }) (v := ?va9) rfl (by kernel_rfl) (by kernel_rfl) (by kernel_rfl) rfl (fun _ _ _ h => h) (Or.inl ⟨by rfl, ?ya9⟩) (fun _ => by assumption) ?ra9
      case ya9 => (intro w _; go_simp; first | done | (with_reducible rfl) | (rw [if_neg (by omega)]))
      try simp only [Act.put, List.setIfInBounds_toArray, List.set_cons_zero, List.set_cons_succ]
      refine doneL (by kernel_rfl) ?_ _
      refine NoPanic.normal ?_
      clear hHeld hcp
      go_wp2_with fail
      go_roundw
      case rel => exact ⟨k + m, by omega, hm2, by go_num, HB4, HL4⟩
      case measure => simp [intOf]; omega
    · obtain rfl : k = n := by omega
      have HE : Hid (Box wr w.heap.size (ints (List.replicate k (-1))) 3) := Lib.hid (by
        have := HBr.out
        rwa [show fillZ k k = List.replicate k (-1) by unfold fillZ; simp] at this)
      go_wp2_with fail
      go_ret
      exact ⟨rfl, HE.out, HLr.out⟩
end Go.Proofs.Ytkngpbnildhdpaa

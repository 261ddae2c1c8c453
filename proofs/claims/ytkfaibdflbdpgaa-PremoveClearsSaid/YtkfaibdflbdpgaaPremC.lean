/- slices.Concat at PremoveMove. -/
import Derived.Test.YtkfaibdflbdpgaaPremF
import Derived.Test.YtkfaibdflbdpgaaIntsConc
namespace Go.Proofs.Ytkfaibdflbdpgaa
open Go.ChangeShapes Go.WideShapes Go.ChangeAt Go.RowKit
set_option linter.unusedVariables false


theorem run_append_none_pm {w : World} (base : Nat) (ty : TypeId) (v : Value) (n c : Nat) (xs : List Value) (hown : w.ownsRow base 121 4 v n xs) :
    (Builtin.append_ #[62, 62] ty #[v, .slice none 0 c]).run Try.prog w = .ok v w := by
  obtain ⟨i, hi, hz0, hz1, hz2⟩ := info_of info_pm
  rcases hown.2 with ⟨rfl, rfl⟩ | ⟨g, cap, cur, rfl, _, _, hnc, _⟩
  · simp [Builtin.append_, run_underlying Try.underlying62, sizeOf, typeInfo, hi, Builtin.lenOf, Builtin.firstCells]
  · simp [Builtin.append_, run_underlying Try.underlying62, sizeOf, typeInfo, hi, Builtin.lenOf, Builtin.firstCells, hnc, storeCells]
def GrowPost_pm (w : World) (e : Ending) (w' : World) : Prop := ∃ v', e = .returned v' ∧ w'.ownsRow w.heap.size 121 4 v' 0 [] ∧ Below w.heap.size w w'
set_option maxRecDepth 100000 in
theorem Grow_pm (k : Nat) (w : World) (hk : k ≤ 1000000) :
    Calls Try.prog 168 #[.slice none 0 0, .int .i64 k] w (GrowPost_pm w) := by
  obtain ⟨i0, hi, hz0, hz1, hz2⟩ := info_of info_pm
  have hsl0 : ∀ w : World, (Instr.slice 62 (.slice none 0 0) none (some (.int .i64 0)) none).run Try.prog w = .ok (.slice none 0 0) w := fun w => run_take (s := 4) Try.underlying62 (fun _ => by kernel_rfl) _ _ _ 0 (by omega) w
  by_cases h0 : k = 0
  · subst h0
    go_enter Try.func168, Try.ntmps168
    go_wp2
    go_ret
    exact ⟨_, rfl, World.ownsRow_nil _ _ _ _, Below.refl _ _⟩
  · have hr := fun ty => Lib.run_append_nil_zeros (P := Try.prog) w 62 3 ty 121 i0 (.agg #[.int .i64 0, .int .i64 0, .int .i64 0, .int .i64 0]) .i64 .i64 Try.underlying62 Try.underlying3 hi hz0 k (by omega) (by omega) (by omega) (by rw [hz2]; omega)
    have hge := grownCap_ge w k 0 121
    have hcm : grownCap w k 0 121 ≤ maxLen := grownCap_le_maxLen w k 0 121 (by unfold maxLen; omega)
    have HB : Hid (Below w.heap.size w (w.drew.alloc (.cells (Builtin.zeroCells (Value.cells (.agg #[.int .i64 0, .int .i64 0, .int .i64 0, .int .i64 0])) k ++ Builtin.zeroCells (Value.cells (.agg #[.int .i64 0, .int .i64 0, .int .i64 0, .int .i64 0])) (grownCap w k 0 121 - k)) 121))) := Lib.hid ((below_drewN (Below.refl _ _) 1).alloc (by simp) _)
    have HO : Hid ((w.drew.alloc (.cells (Builtin.zeroCells (Value.cells (.agg #[.int .i64 0, .int .i64 0, .int .i64 0, .int .i64 0])) k ++ Builtin.zeroCells (Value.cells (.agg #[.int .i64 0, .int .i64 0, .int .i64 0, .int .i64 0])) (grownCap w k 0 121 - k)) 121)).ownsRow w.heap.size 121 4 (.slice (some ⟨w.heap.size, 0, none⟩) 0 (grownCap w k 0 121)) 0 []) := Lib.hid (World.ownsRow_made w.drew _ _ (by simp) hcm (by simp [Builtin.zeroCells, Value.cells]; omega))
    generalize (w.drew.alloc (.cells (Builtin.zeroCells (Value.cells (.agg #[.int .i64 0, .int .i64 0, .int .i64 0, .int .i64 0])) k ++ Builtin.zeroCells (Value.cells (.agg #[.int .i64 0, .int .i64 0, .int .i64 0, .int .i64 0])) (grownCap w k 0 121 - k)) 121)) = w1 at *
    generalize grownCap w k 0 121 = c at *
    have hsl1 : ∀ w' : World, (Instr.slice 62 (.slice (some ⟨w.heap.size, 0, none⟩) k c) none (some (.int .i64 0)) none).run Try.prog w' = .ok (.slice (some ⟨w.heap.size, 0, none⟩) 0 c) w' := fun w' => run_take (s := 4) Try.underlying62 (fun _ => by kernel_rfl) _ _ _ 0 (by omega) w'
    have hk0 : (0 : Int) < (k : Int) := by omega
    have HR := Lib.hid hr
    clear hi hz0 hz1 hz2 hge hcm hr
    go_enter Try.func168, Try.ntmps168
    go_wp2_with (at_builtin; refine wpList_append_run rfl _ _ 62 3 rfl (.slice none 0 0) (.int .i64 k) (.slice (some ⟨w.heap.size, 0, none⟩) k c) rfl rfl HR.out ?_)
    go_ret
    exact ⟨_, rfl, HO.out, HB.out⟩
theorem wpList_append_pm {w : World} {ops : Array Oper} {rest : List Oper} {o : Oper} {a : Act} {Q : Exit → Act → World → Prop} (hgd : o.guard = none) (s x : Operand)
    (ho : o.op = .call { callee := .builtin .append, args := #[s, x], argTypes := #[62, 62] })
    (base : Nat) (v : Value) (zs : List PremZ) (hs : a.eval s = v) (hown : w.ownsRow base 121 4 v zs.length (flatP zs))
    (vs : Value) (ys : List PremZ) (hx : a.eval x = vs) (hr : RdL premEl w vs ys) (hlen : zs.length + ys.length ≤ 1000000) (hbase : base ≤ w.heap.size)
    (h : ∀ v' w', w'.ownsRow base 121 4 v' (zs ++ ys).length (flatP (zs ++ ys)) → w.grownBy w' v.ownBlock → wpList Try.prog ops Q rest (a.put o.dst v') w') : wpList Try.prog ops Q (o :: rest) a w := by
  obtain ⟨i0, hi, hz0, hz1, hz2⟩ := info_of info_pm
  obtain ⟨ad, n, c, css, rfl, hn, hcl, hone, hE, hcell⟩ := rdl_cells prem_one hr
  have e1 := flatP_of (w := w) ys css (by rw [hcl, hn]; rfl) hE
  subst e1
  subst hn
  cases ad with
  | none =>
    obtain rfl : ys = [] := List.length_eq_zero_iff.1 (hcell.1 rfl)
    exact wpList_append_run hgd s x _ _ ho v _ v hs hx (fun ty => run_append_none_pm base ty v _ c _ hown) (h v w (by simpa using hown) ⟨rfl, rfl, rfl, Nat.le_refl _, fun _ _ _ => rfl⟩)
  | some ad =>
    refine wpList_append_own _ hgd s x 62 ho base 121 i0 (.agg #[.int .i64 0, .int .i64 0, .int .i64 0, .int .i64 0]) 4 32 Try.underlying62 hi hz0 hz1 hz2 rfl (by decide) v zs.length (flatP zs) hs hown ad ys.length c (flatP ys) hx (by rw [flatP_len]) (hcell.2 ad rfl) hone (by unfold maxLen; omega) (by omega) hbase ?_
    intro v' w2 ho2 hg2 _
    refine h v' w2 ?_ hg2
    have e : flatP (zs ++ ys) = flatP zs ++ flatP ys := by simp [flatP]
    rw [e, List.length_append]
    exact ho2
def ConcPost_pm (zs : List PremZ) (w : World) (e : Ending) (w' : World) : Prop := ∃ v', e = .returned v' ∧ w'.ownsRow w.heap.size 121 4 v' zs.length (flatP zs) ∧ Below w.heap.size w w'
set_option maxRecDepth 100000 in
set_option maxHeartbeats 1000000 in
theorem Concat_pm (v va vb : Value) (xs ys : List PremZ) (w : World) (h : RdII w v va vb) (ha : RdL premEl w va xs) (hb : RdL premEl w vb ys) (hx : xs.length ≤ 100000) (hy : ys.length ≤ 100000) :
    Calls Try.prog 137 #[v] w (ConcPost_pm (xs ++ ys) w) := by
  obtain ⟨g, o, c, rfl, hg, h0, h1⟩ := h
  have HA := Lib.hid ha
  have HB := Lib.hid hb
  obtain ⟨aa, ca, rfl, ha1, ha2⟩ := ha.form
  obtain ⟨ab, cb, rfl, hb1, hb2⟩ := hb.form
  clear ha hb
  unfold maxLen at ha2 hb2
  go_enter Try.func137, Try.ntmps137
  go_wp2_with fail
  go_loop [3, 11] (fun s i => (i = .int .i64 0 ∧ s = .int .i64 0) ∨ (i = .int .i64 1 ∧ s = .int .i64 xs.length) ∨ (i = .int .i64 2 ∧ s = .int .i64 ((xs.length : Int) + ys.length))) (fun s i => 2 - (intOf i).toNat)
  case atStart => exact .inl ⟨rfl, rfl⟩
  case round =>
    rcases hrel with ⟨rfl, rfl⟩ | ⟨rfl, rfl⟩ | ⟨rfl, rfl⟩
    · go_wp2_with fail
      go_round
      case rel => exact .inr (.inl ⟨rfl, rfl⟩)
      case measure => decide
    · go_wp2_with fail
      go_round
      case rel => exact .inr (.inr ⟨rfl, rfl⟩)
      case measure => decide
    · have hG : Calls Try.prog 168 #[.slice none 0 0, .int .i64 ((xs.length : Int) + ys.length)] w (GrowPost_pm w) := by
        have := Grow_pm (xs.length + ys.length) w (by omega)
        rwa [Int.natCast_add] at this
      have HG := Lib.hid hG
      clear hG
      go_wp2_with fail
      refine HG.out.mono ?_
      rintro e w1 ⟨v1, rfl, ho1, hb1⟩
      have HO1 := Lib.hid ho1
      have HB1 := Lib.hid hb1
      clear ho1 hb1
      go_wp2_with fail
      go_loopw [6, 27] (fun v i wr => ∃ zs : List PremZ, ((i = .int .i64 0 ∧ zs = []) ∨ (i = .int .i64 1 ∧ zs = xs) ∨ (i = .int .i64 2 ∧ zs = xs ++ ys)) ∧ Hid (wr.ownsRow w.heap.size 121 4 v zs.length (flatP zs)) ∧ Hid (Below w.heap.size w wr)) (fun _ i _ => 2 - (intOf i).toNat)
      case atStart => exact ⟨[], .inl ⟨rfl, rfl⟩, HO1, HB1⟩
      case round =>
        obtain ⟨zs, hi', HOr, HBr⟩ := hrel
        have hsz := HBr.out.size
        have q0 := (HBr.out.cell (p := ⟨g, o, none⟩) hg).trans h0
        have q1 := (HBr.out.cell (p := ⟨g, o + 1, none⟩) hg).trans h1
        have hgr : g < wr.heap.size := by omega
        rcases hi' with ⟨rfl, rfl⟩ | ⟨rfl, rfl⟩ | ⟨rfl, rfl⟩
        · go_wp2_with (at_builtin; refine wpList_append_pm rfl _ _ rfl w.heap.size _ [] rfl HOr.out _ xs rfl (HA.out.below HBr.out (Nat.le_refl _)) (by simp; omega) hsz ?_)
          intro v' w2 ho2 hg2
          have HB2 := Lib.hid (below_grown HBr.out HOr.out hg2 hsz)
          have HO2 := Lib.hid ho2
          clear ho2 hg2
          go_wp2_with fail
          go_roundw
          case rel => exact ⟨xs, .inr (.inl ⟨rfl, rfl⟩), Lib.hid (by simpa using HO2.out), HB2⟩
          case measure => decide
        · go_wp2_with (at_builtin; refine wpList_append_pm rfl _ _ rfl w.heap.size _ zs rfl HOr.out _ ys rfl (HB.out.below HBr.out (Nat.le_refl _)) (by omega) hsz ?_)
          intro v' w2 ho2 hg2
          have HB2 := Lib.hid (below_grown HBr.out HOr.out hg2 hsz)
          have HO2 := Lib.hid ho2
          clear ho2 hg2
          go_wp2_with fail
          go_roundw
          case rel => exact ⟨zs ++ ys, .inr (.inr ⟨rfl, rfl⟩), Lib.hid (by have := HO2.out; rw [List.length_append]; exact this), HB2⟩
          case measure => decide
        · go_wp2_with fail
          go_ret
          exact ⟨_, rfl, HOr.out, HBr.out⟩

end Go.Proofs.Ytkfaibdflbdpgaa

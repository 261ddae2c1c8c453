/- The contracts of premove.without, Clear, Add. -/
import Derived.Test.YtkfaibdflbdpgaaPrem3
import Derived.Test.YtkfaibdflbdpgaaHeldL
namespace Go.Proofs.Ytkfaibdflbdpgaa
open Go.ChangeShapes Go.WideShapes Go.ChangeAt Go.RowKit
set_option linter.unusedVariables false

def withoutZ (l : List PremZ) (pl : Int) : List PremZ := l.filter fun x => !(x.player == pl)
theorem box_src {w : World} {b : Nat} {cs : List Value} {t : TypeId} (h : Box w b cs t) : ∀ j u, cs[j]? = some u → w.cell? ((⟨b, 0, none⟩ : Addr).add j) = some u := by
  intro j u hj
  have e2 : (⟨b, 0, none⟩ : Addr).add j = ⟨b, j, none⟩ := by unfold Addr.add; split <;> simp_all
  rw [e2]
  exact h.cell j hj
theorem four_ints {x y z t : Int} : ∀ u ∈ [Value.int .i64 x, .int .i64 y, .int .i64 z, .int .i64 t], u.oneCell' = true := by intro u hu; simp at hu; rcases hu with rfl | rfl | rfl | rfl <;> rfl
theorem without1_any (x : PremZ) (pl : Int) (b : Nat) (W : World) (B : Box W b [.int .i64 pl] 3) : Calls Try.prog 133 (#[.agg #[.int .i64 x.player, .int .i64 x.move.src, .int .i64 x.move.dst, .int .i64 x.move.piece]] ++ #[.pointer (some ⟨b, 0, none⟩)]) W fun e w' => e = .returned (.bool (x.player == pl)) ∧ Below W.heap.size W w' := by
  show Calls Try.prog 133 #[.agg #[.int .i64 x.player, .int .i64 x.move.src, .int .i64 x.move.dst, .int .i64 x.move.piece], .pointer (some ⟨b, 0, none⟩)] W _
  have hlt := B.lt
  have hc := B.cell 0 rfl
  clear B
  go_enter Try.func133, Try.ntmps133
  go_wp2
  go_ret
  exact ⟨rfl, (Below.refl _ _).alloc (Nat.le_refl _) _⟩
theorem callWo1 (args : Array Value) (w : World) : (callFunc 133 args).run Try.prog w = .ok (.enter 133 args) w := by kernel_rfl
set_option maxRecDepth 100000 in
theorem without_any (v : Value) (l : List PremZ) (pl : Int) (w : World) (h : RdL premEl w v l) (hl : l.length ≤ 100000) :
    Calls Try.prog 78 #[v, .int .i64 pl] w fun e w' => ∃ v', e = .returned v' ∧ w'.ownsRow w.heap.size 121 4 v' (withoutZ l pl).length (flatP (withoutZ l pl)) ∧ Below w.heap.size w w' := by
  have HR := Lib.hid h
  obtain ⟨a, c, rfl, h1, h2⟩ := h.form
  unfold maxLen at h2
  clear h
  go_enter Try.func78, Try.ntmps78
  go_upto_region 1 with (fail)
  have B0 : Box (w.alloc (.cells #[.int .i64 pl] 3)) (w.heap.size) [.int .i64 pl] 3 := (Box.new' w (w.heap.size) [.int .i64 pl] 3 (by simp <;> omega))
  have HB : Hid (Below w.heap.size w (w.alloc (.cells #[.int .i64 pl] 3))) := Lib.hid ((Below.refl w.heap.size w).alloc (Nat.le_refl _) _)
  have hz0 : w.heap.size < (w.alloc (.cells #[.int .i64 pl] 3)).heap.size := by simp
  generalize (w.alloc (.cells #[.int .i64 pl] 3)) = w0 at *
  have HRw := Lib.hid (HR.out.below HB.out (Nat.le_refl _))
  have HBx := Lib.hid B0
  clear B0
  go_wp2_with fail
  refine (clone_pm _ l w0 HRw.out (by omega)).mono ?_
  rintro e w1 ⟨v1, rfl, ho1, hb1⟩
  have HD := Lib.hid (delete_any w0.heap.size v1 l (fun x => x.player == pl) 133 #[.pointer (some ⟨w.heap.size, 0, none⟩)] w1 ho1 (by omega) callWo1 (fun W x hg => without1_any x pl w.heap.size W ((HBx.out.stays hb1).grown hg (own_far ho1 hz0))))
  have HO1 := Lib.hid ho1
  have HB1 := Lib.hid (below_trans HB.out hb1 HB.out.size)
  clear ho1 hb1
  obtain ⟨a1, c1, rfl⟩ := own_form2 HO1.out
  go_wp2_with fail
  refine HD.out.mono ?_
  rintro e w2 ⟨v2, rfl, ho2, hg2⟩
  obtain ⟨a2, c2, rfl⟩ := own_form2 ho2
  have HO2 := Lib.hid (own_base ho2 HB.out.size)
  have HB2 := Lib.hid (Below.grown HB1.out hg2 HB1.out.size (fun q hq => Nat.le_trans HB.out.size (HO1.out.lt q hq).1))
  clear ho2 hg2 HD
  go_wp2_with fail
  go_ret
  exact ⟨_, rfl, HO2.out, HB2.out⟩
def ClearPost (l : List PremZ) (pl : Int) (w : World) (e : Ending) (w' : World) : Prop :=
  (premErr l ≠ 0 ∧ e = .returned (.tuple #[.slice none 0 0, .int .i64 (premErr l)]) ∧ Below w.heap.size w w') ∨
  (premErr l = 0 ∧ ∃ v, e = .returned (.tuple #[v, .int .i64 0]) ∧ w'.ownsRow w.heap.size 121 4 v (withoutZ l pl).length (flatP (withoutZ l pl)) ∧ Below w.heap.size w w')
set_option maxRecDepth 100000 in
theorem Clear_any (v : Value) (l : List PremZ) (pl : Int) (w : World) (h : RdL premEl w v l) (hl : l.length ≤ 100000) :
    Calls Try.prog 37 #[v, .int .i64 pl] w (ClearPost l pl w) := by
  have HR := Lib.hid h
  obtain ⟨a, c, rfl, h1, h2⟩ := h.form
  unfold maxLen at h2
  clear h
  go_enter Try.func37, Try.ntmps37
  go_wp2_with fail
  refine (premCheck_any _ l w HR.out (by omega)).mono ?_
  rintro e w1 ⟨rfl, hb1⟩
  have HB1 := Lib.hid hb1
  clear hb1
  by_cases he : premErr l = 0
  rotate_left
  · have HN := Lib.hid he
    have he' : (premErr l != 0) = true := by simpa using he
    clear he
    go_wp2_with fail
    go_ret2
    exact .inl ⟨HN.out, rfl, HB1.out⟩
  have HN := Lib.hid he
  rw [he]
  clear he
  go_wp2_with fail
  refine (without_any _ l pl w1 (HR.out.below HB1.out (Nat.le_refl _)) hl).mono ?_
  rintro e w2 ⟨v2, rfl, ho2, hb2⟩
  obtain ⟨a2, c2, rfl⟩ := own_form2 ho2
  have HO2 := Lib.hid (own_base ho2 HB1.out.size)
  have HB2 := Lib.hid (below_trans HB1.out hb2 HB1.out.size)
  clear ho2 hb2
  go_wp2_with fail
  go_ret2
  exact .inr ⟨HN.out, _, rfl, HO2.out, HB2.out⟩

def addErr (l : List PremZ) (pl : Int) : Int := if premErr l ≠ 0 then premErr l else if pl ≠ 0 ∧ pl ≠ 1 then 1 else if (ofZ l pl).length = 4 then 9 else 0
def AddPost (l : List PremZ) (pl : Int) (m : MoveZ) (w : World) (e : Ending) (w' : World) : Prop :=
  (addErr l pl ≠ 0 ∧ e = .returned (.tuple #[.slice none 0 0, .int .i64 (addErr l pl)]) ∧ Below w.heap.size w w') ∨
  (addErr l pl = 0 ∧ ∃ v, e = .returned (.tuple #[v, .int .i64 0]) ∧ w'.ownsRow w.heap.size 121 4 v (l.length + 1) (flatP (l ++ [⟨pl, m⟩])) ∧ Below w.heap.size w w')
set_option maxRecDepth 100000 in
set_option maxHeartbeats 1000000 in
theorem Add_any (v : Value) (l : List PremZ) (pl : Int) (m : MoveZ) (w : World) (h : RdL premEl w v l) (hl : l.length ≤ 100000) :
    Calls Try.prog 38 #[v, .int .i64 pl, .agg #[.int .i64 m.src, .int .i64 m.dst, .int .i64 m.piece]] w (AddPost l pl m w) := by
  have HR := Lib.hid h
  have HD : Hid (addErr l pl = if premErr l ≠ 0 then premErr l else if pl ≠ 0 ∧ pl ≠ 1 then 1 else if (ofZ l pl).length = 4 then 9 else 0) := Lib.hid rfl
  obtain ⟨a, c, rfl, h1, h2⟩ := h.form
  unfold maxLen at h2
  clear h
  go_enter Try.func38, Try.ntmps38
  go_upto_region 1 with (fail)
  have B0 : Box (w.alloc (.cells #[.int .i64 m.src, .int .i64 m.dst, .int .i64 m.piece] 42)) (w.heap.size) [.int .i64 m.src, .int .i64 m.dst, .int .i64 m.piece] 42 := (Box.new' w (w.heap.size) [.int .i64 m.src, .int .i64 m.dst, .int .i64 m.piece] 42 (by simp <;> omega))
  have HB : Hid (Below w.heap.size w (w.alloc (.cells #[.int .i64 m.src, .int .i64 m.dst, .int .i64 m.piece] 42))) := Lib.hid ((Below.refl w.heap.size w).alloc (Nat.le_refl _) _)
  have hz0 : w.heap.size < (w.alloc (.cells #[.int .i64 m.src, .int .i64 m.dst, .int .i64 m.piece] 42)).heap.size := by simp
  generalize (w.alloc (.cells #[.int .i64 m.src, .int .i64 m.dst, .int .i64 m.piece] 42)) = w0 at *
  have HRw := Lib.hid (HR.out.below HB.out (Nat.le_refl _))
  have HBx := Lib.hid B0
  clear B0
  go_wp2_with fail
  refine (premCheck_any _ l w0 HRw.out (by omega)).mono ?_
  rintro e w1 ⟨rfl, hb1⟩
  have HB1 := Lib.hid (below_trans HB.out hb1 HB.out.size)
  have HBx1 := Lib.hid (HBx.out.stays hb1)
  clear hb1
  by_cases he : premErr l = 0
  rotate_left
  · have HE : Hid (addErr l pl = premErr l) := Lib.hid (by rw [HD.out, if_pos he])
    have HN := Lib.hid he
    have he' : (premErr l != 0) = true := by simpa using he
    clear he HD
    go_wp2_with fail
    go_ret2
    exact .inl ⟨by rw [HE.out]; exact HN.out, by rw [HE.out]; rfl, HB1.out⟩
  rw [he]
  have HD1 : Hid (addErr l pl = if pl ≠ 0 ∧ pl ≠ 1 then 1 else if (ofZ l pl).length = 4 then 9 else 0) := Lib.hid (by rw [HD.out, if_neg (by simp [he])])
  clear he HD
  by_cases hp : pl ≠ 0 ∧ pl ≠ 1
  · have HE : Hid (addErr l pl = 1) := Lib.hid (by rw [HD1.out, if_pos hp])
    have p0 : (pl != 0) = true := by simpa using hp.1
    have p1 : (pl != 1) = true := by simpa using hp.2
    clear hp HD1
    go_wp2_with fail
    go_ret2
    exact .inl ⟨by rw [HE.out]; decide, by rw [HE.out]; rfl, HB1.out⟩
  have HD2 : Hid (addErr l pl = if (ofZ l pl).length = 4 then 9 else 0) := Lib.hid (by rw [HD1.out, if_neg hp])
  have HP := Lib.hid hp
  have hR1 := HR.out.below HB1.out (Nat.le_refl _)
  have HR1 := Lib.hid hR1
  clear hR1 HD1 hp HRw HB
  by_cases hp0 : pl = 0
  · subst hp0
    go_wp2_with fail
    refine (of_any _ l 0 w1 HR1.out (by omega)).mono ?_
    rintro e w2 ⟨v2, rfl, ho2, hb2⟩
    obtain ⟨a2, c2, rfl⟩ := own_form2 ho2
    have HB2 := Lib.hid (below_trans HB1.out hb2 HB1.out.size)
    have HBx2 := Lib.hid (HBx1.out.stays hb2)
    have HR2 := Lib.hid (HR1.out.below hb2 (Nat.le_refl _))
    clear ho2 hb2 HB1 HR1 HBx1
    by_cases hf : (ofZ l 0).length = 4
    · have HE : Hid (addErr l 0 = 9) := Lib.hid (by rw [HD2.out, if_pos hf])
      have hf' : ((ofZ l 0).length : Int) = 4 := by omega
      clear HD2 hf
      go_wp2_with fail
      go_ret2
      exact .inl ⟨by rw [HE.out]; decide, by rw [HE.out]; rfl, HB2.out⟩
    have hD0 : addErr l 0 = 0 := by rw [HD2.out, if_neg hf]
    have hf' : ¬ ((ofZ l 0).length : Int) = 4 := by omega
    have HD0 := Lib.hid hD0
    clear HD2 hf hD0
    obtain ⟨i0, hi0, hi1, hi2, hi3⟩ := info_of info_pm
    have HI0 := Lib.hid hi0
    have HI1 := Lib.hid hi1
    have HI2 := Lib.hid hi2
    have HI3 := Lib.hid hi3
    clear hi0 hi1 hi2 hi3
    go_upto_region 8 with (fail)
    generalize w2 = wq at *
    have Bxz : Box wq.drew w.heap.size [.int .i64 m.src, .int .i64 m.dst, .int .i64 m.piece] 42 := HBx2.out
    have Lz : Below w.heap.size w wq.drew := below_drew' HB2.out
    have Rz : RdL premEl wq.drew (.slice a l.length c) l := HR2.out.below (below_drew' (Below.refl _ _)) (Nat.le_refl _)
    have hD0 := HD0.out
    clear HBx2 HB2 HR2 HD0 hf'
    refine wp_region_noPanic ?_
    refine beginL (S := (fun w' => w'.cell? ⟨w.heap.size, 0, none⟩ = some (.int .i64 m.src) ∧ w'.cell? ⟨w.heap.size, 1, none⟩ = some (.int .i64 m.dst) ∧ w'.cell? ⟨w.heap.size, 2, none⟩ = some (.int .i64 m.piece))) (L := []) (by kernel_rfl) ⟨Bxz.cell 0 rfl, Bxz.cell 1 rfl, Bxz.cell 2 rfl⟩ (fun hHeld => ?_)
    refine takeW (i := 0) (oi := { dst := some 25, op := Op.move (Operand.tmp 0), type := 62, pos := "premove.go:49", after := #[], guard := none }) (v := ?va1x0) rfl (by kernel_rfl) (by kernel_rfl) (by kernel_rfl) rfl (fun _ _ _ h => h) (Or.inl ⟨by rfl, ?ya1x0⟩) (fun _ => by assumption) ?ra1x0
    case ya1x0 => (intro w _; go_simp; first | done | (with_reducible rfl))
    try simp only [Act.put, List.setIfInBounds_toArray, List.set_cons_zero, List.set_cons_succ]
    refine takeW (i := 2) (oi := { dst := some 27, op := Op.move (Operand.tmp 1), type := 3, pos := "premove.go:49", after := #[], guard := none }) (v := ?va2x0) rfl (by kernel_rfl) (by kernel_rfl) (by kernel_rfl) rfl (fun _ _ _ h => h) (Or.inl ⟨by rfl, ?ya2x0⟩) (fun _ => by assumption) ?ra2x0
    case ya2x0 => (intro w _; go_simp; first | done | (with_reducible rfl))
    try simp only [Act.put, List.setIfInBounds_toArray, List.set_cons_zero, List.set_cons_succ]
    refine takeL (i := 3) (oi := { dst := some 28, op := Op.load 42 (Operand.tmp 5), type := 42, pos := "premove.go:49", after := #[], guard := none }) (v := ?va3x0) rfl (by kernel_rfl) (by kernel_rfl) (by kernel_rfl) (by kernel_rfl) rfl (by kernel_rfl) (by kernel_rfl) (fun _ _ _ h => h) (Or.inl ⟨by rfl, ?ya3x0⟩) (by assumption) ?ra3x0
    case ya3x0 => (intro w hSw; (try dsimp only at hSw); go_simp; first | done | (with_reducible rfl))
    try simp only [Act.put, List.setIfInBounds_toArray, List.set_cons_zero, List.set_cons_succ]
    refine takeW (i := 4) (oi := { dst := some 29, op := Op.build 121 #[(0, Operand.tmp 27), (1, Operand.tmp 28)], type := 121, pos := "premove.go:49", after := #[{ on := 2, ground := Ground.data }, { on := 3, ground := Ground.data }], guard := none }) (v := ?va4x0) rfl (by kernel_rfl) (by kernel_rfl) (by kernel_rfl) rfl (fun _ _ _ h => h) (Or.inl ⟨by rfl, ?ya4x0⟩) (fun _ => by assumption) ?ra4x0
    case ya4x0 => (intro w _; go_simp; first | done | (with_reducible rfl))
    try simp only [Act.put, List.setIfInBounds_toArray, List.set_cons_zero, List.set_cons_succ]
    refine readyL (rs := [1, 5]) (by kernel_rfl) (by simp) ?_
    refine (AllReadyL.cons (o := { dst := some 26, op := Op.call { callee := Callee.value (Operand.func 79), args := #[Operand.tmp 25], argTypes := #[62] }, type := 62, pos := "premove.go:49", after := #[{ on := 0, ground := Ground.data }], guard := none }) rfl (fun K hK => ?_) (AllReadyL.cons (o := { dst := some 30, op := Op.buildSlice 62 1 #[(0, Operand.tmp 29)], type := 62, pos := "premove.go:49", after := #[{ on := 4, ground := Ground.data }], guard := none }) rfl (fun K hK => ?_) AllReadyL.nil))
    · skip
      go_simp
      refine (clone_pm _ l _ Rz (by omega)).mono ?_
      rintro e w1 ⟨vx, rfl, ho1, hb1⟩
      obtain ⟨an, cn, rfl⟩ := own_form2 ho1
      have Bx1 := Bxz.stays hb1
      have L1 := below_trans Lz hb1 Lz.size
      have O1 := own_base ho1 Bxz.lt
      clear hb1 ho1
      refine hK.out _ _ ⟨Bx1.cell 0 rfl, Bx1.cell 1 rfl, Bx1.cell 2 rfl⟩ (fun hHeld => ?_)
      clear hK K
      try simp only [Act.put, List.setIfInBounds_toArray, List.set_cons_zero, List.set_cons_succ]
      refine readyL (rs := [5]) (by kernel_rfl) (by simp) ?_
      refine (AllReadyL.cons (o := { dst := some 30, op := Op.buildSlice 62 1 #[(0, Operand.tmp 29)], type := 62, pos := "premove.go:49", after := #[{ on := 4, ground := Ground.data }], guard := none }) rfl (fun K hK => ?_) AllReadyL.nil)
      go_simp
      refine K_world ?_
      intro w5 e5
      have Bx5 : Box w5 w.heap.size [.int .i64 m.src, .int .i64 m.dst, .int .i64 m.piece] 42 := by rw [e5]; exact Bx1.alloc _
      have N5 : Box w5 w1.heap.size [.int .i64 (0), .int .i64 m.src, .int .i64 m.dst, .int .i64 m.piece] 121 := by rw [e5]; exact Box.new' _ _ _ _ rfl
      have L5 : Below w.heap.size w w5 := by rw [e5]; exact L1.alloc L1.size _
      have O5 : w5.ownsRow (w.heap.size + 1) 121 4 (.slice an l.length cn) l.length (flatP l) := by rw [e5]; exact O1.alloc _
      clear e5
      refine hK.out _ _ ⟨Bx5.cell 0 rfl, Bx5.cell 1 rfl, Bx5.cell 2 rfl⟩ (fun hHeld => ?_)
      clear hK K
      try simp only [Act.put, List.setIfInBounds_toArray, List.set_cons_zero, List.set_cons_succ]
      refine readyL (rs := [6]) (by kernel_rfl) (by simp) ?_
      refine (AllReadyL.cons (o := { dst := some 31, op := Op.call { callee := Callee.builtin Builtin.append, args := #[Operand.tmp 26, Operand.tmp 30], argTypes := #[62, 62] }, type := 62, pos := "premove.go:49", after := #[{ on := 1, ground := Ground.data }, { on := 5, ground := Ground.data }, { on := 1, ground := Ground.chain }], guard := none }) rfl (fun K hK => ?_) AllReadyL.nil)
      rw [if_pos (by rfl)]
      refine wp_append_lies _ _ _ 62 rfl (w.heap.size + 1) 121 i0 (.agg #[.int .i64 0, .int .i64 0, .int .i64 0, .int .i64 0]) 4 32 Try.underlying62 HI0.out HI1.out HI2.out HI3.out rfl (by decide) (.slice an l.length cn) l.length (flatP l) rfl O5 ⟨w1.heap.size, 0, none⟩ 1 1 [.int .i64 (0), .int .i64 m.src, .int .i64 m.dst, .int .i64 m.piece] rfl rfl (box_src N5) four_ints (by decide) (by unfold maxLen; omega) (by omega) Bx5.lt w5.heap.size rfl ?_
      intro g6 c6 w6 ho6 hg6 hq6 hl6
      have Bx6 : Box w6 w.heap.size [.int .i64 m.src, .int .i64 m.dst, .int .i64 m.piece] 42 := Bx5.grown hg6 (own_far O5 (Nat.lt_succ_self _))
      have L6 := Below.grown L5 hg6 L5.size (fun q hq => Nat.le_trans (Nat.le_succ _) (O5.lt q hq).1)
      have O6 := ho6
      clear ho6 hg6 hq6 hl6
      refine hK.out _ _ ⟨Bx6.cell 0 rfl, Bx6.cell 1 rfl, Bx6.cell 2 rfl⟩ (fun hHeld => ?_)
      clear hK K
      try simp only [Act.put, List.setIfInBounds_toArray, List.set_cons_zero, List.set_cons_succ]
      refine takeW (i := 7) (oi := { dst := some 6, op := Op.assign (Operand.tmp 31), type := 62, pos := "premove.go:49", after := #[{ on := 6, ground := Ground.data }, { on := 6, ground := Ground.chain }, { on := 0, ground := Ground.phase }, { on := 1, ground := Ground.phase }, { on := 2, ground := Ground.phase }, { on := 3, ground := Ground.phase }, { on := 4, ground := Ground.phase }, { on := 5, ground := Ground.phase }, { on := 6, ground := Ground.phase }], guard := none }) (v := ?va5x0) rfl (by kernel_rfl) (by kernel_rfl) (by kernel_rfl) rfl (fun _ _ _ h => h) (Or.inl ⟨by rfl, ?ya5x0⟩) (fun _ => by assumption) ?ra5x0
      case ya5x0 => (intro w _; go_simp; first | done | (with_reducible rfl))
      try simp only [Act.put, List.setIfInBounds_toArray, List.set_cons_zero, List.set_cons_succ]
      refine takeW (i := 8) (oi := { dst := some 7, op := Op.assign (Operand.const (Value.int IntKind.i64 0)), type := 29, pos := "premove.go:49", after := #[{ on := 7, ground := Ground.chain }, { on := 0, ground := Ground.phase }, { on := 1, ground := Ground.phase }, { on := 2, ground := Ground.phase }, { on := 3, ground := Ground.phase }, { on := 4, ground := Ground.phase }, { on := 5, ground := Ground.phase }, { on := 6, ground := Ground.phase }, { on := 7, ground := Ground.phase }], guard := none }) (v := ?va6x0) rfl (by kernel_rfl) (by kernel_rfl) (by kernel_rfl) rfl (fun _ _ _ h => h) (Or.inl ⟨by rfl, ?ya6x0⟩) (fun _ => by assumption) ?ra6x0
      case ya6x0 => (intro w _; go_simp; first | done | (with_reducible rfl))
      try simp only [Act.put, List.setIfInBounds_toArray, List.set_cons_zero, List.set_cons_succ]
      refine doneL (by kernel_rfl) ?_ _
      refine NoPanic.normal ?_
      have O6b : w6.ownsRow w.heap.size 121 4 (.slice (some ⟨g6, 0, none⟩) (l.length + 1) c6) (l.length + 1) (flatP (l ++ [⟨0, m⟩])) := by rw [← flatP_append]; exact own_base O6 (Nat.le_succ _)
      have HO6 := Lib.hid O6b
      have HL6 := Lib.hid L6
      have HD3 := Lib.hid hD0
      clear O6 O6b L6 hD0 hHeld
      go_wp2_with fail
      go_ret2
      exact .inr ⟨HD3.out, _, rfl, HO6.out, HL6.out⟩
    · skip
      go_simp
      refine K_world ?_
      intro w5 e5
      have Bx5 : Box w5 w.heap.size [.int .i64 m.src, .int .i64 m.dst, .int .i64 m.piece] 42 := by rw [e5]; exact Bxz.alloc _
      have N5 : Box w5 wq.drew.heap.size [.int .i64 (0), .int .i64 m.src, .int .i64 m.dst, .int .i64 m.piece] 121 := by rw [e5]; exact Box.new' _ _ _ _ rfl
      have L5 : Below w.heap.size w w5 := by rw [e5]; exact Lz.alloc Lz.size _
      have R5 : RdL premEl w5 (.slice a l.length c) l := Rz.below (by rw [e5]; exact (Below.refl _ _).alloc (Nat.le_refl _) _) (Nat.le_refl _)
      clear e5
      refine hK.out _ _ ⟨Bx5.cell 0 rfl, Bx5.cell 1 rfl, Bx5.cell 2 rfl⟩ (fun hHeld => ?_)
      clear hK K
      try simp only [Act.put, List.setIfInBounds_toArray, List.set_cons_zero, List.set_cons_succ]
      refine readyL (rs := [1]) (by kernel_rfl) (by simp) ?_
      refine (AllReadyL.cons (o := { dst := some 26, op := Op.call { callee := Callee.value (Operand.func 79), args := #[Operand.tmp 25], argTypes := #[62] }, type := 62, pos := "premove.go:49", after := #[{ on := 0, ground := Ground.data }], guard := none }) rfl (fun K hK => ?_) AllReadyL.nil)
      go_simp
      refine (clone_pm _ l _ R5 (by omega)).mono ?_
      rintro e w1 ⟨vx, rfl, ho1, hb1⟩
      obtain ⟨an, cn, rfl⟩ := own_form2 ho1
      have Bx1 := Bx5.stays hb1
      have L1 := below_trans L5 hb1 L5.size
      have O1 := own_base ho1 Bx5.lt
      have N1 := N5.stays hb1
      clear hb1 ho1
      refine hK.out _ _ ⟨Bx1.cell 0 rfl, Bx1.cell 1 rfl, Bx1.cell 2 rfl⟩ (fun hHeld => ?_)
      clear hK K
      try simp only [Act.put, List.setIfInBounds_toArray, List.set_cons_zero, List.set_cons_succ]
      refine readyL (rs := [6]) (by kernel_rfl) (by simp) ?_
      refine (AllReadyL.cons (o := { dst := some 31, op := Op.call { callee := Callee.builtin Builtin.append, args := #[Operand.tmp 26, Operand.tmp 30], argTypes := #[62, 62] }, type := 62, pos := "premove.go:49", after := #[{ on := 1, ground := Ground.data }, { on := 5, ground := Ground.data }, { on := 1, ground := Ground.chain }], guard := none }) rfl (fun K hK => ?_) AllReadyL.nil)
      rw [if_pos (by rfl)]
      refine wp_append_lies _ _ _ 62 rfl (w.heap.size + 1) 121 i0 (.agg #[.int .i64 0, .int .i64 0, .int .i64 0, .int .i64 0]) 4 32 Try.underlying62 HI0.out HI1.out HI2.out HI3.out rfl (by decide) (.slice an l.length cn) l.length (flatP l) rfl O1 ⟨wq.drew.heap.size, 0, none⟩ 1 1 [.int .i64 (0), .int .i64 m.src, .int .i64 m.dst, .int .i64 m.piece] rfl rfl (box_src N1) four_ints (by decide) (by unfold maxLen; omega) (by omega) Bx1.lt w1.heap.size rfl ?_
      intro g6 c6 w6 ho6 hg6 hq6 hl6
      have Bx6 : Box w6 w.heap.size [.int .i64 m.src, .int .i64 m.dst, .int .i64 m.piece] 42 := Bx1.grown hg6 (own_far O1 (Nat.lt_succ_self _))
      have L6 := Below.grown L1 hg6 L1.size (fun q hq => Nat.le_trans (Nat.le_succ _) (O1.lt q hq).1)
      have O6 := ho6
      clear ho6 hg6 hq6 hl6
      refine hK.out _ _ ⟨Bx6.cell 0 rfl, Bx6.cell 1 rfl, Bx6.cell 2 rfl⟩ (fun hHeld => ?_)
      clear hK K
      try simp only [Act.put, List.setIfInBounds_toArray, List.set_cons_zero, List.set_cons_succ]
      refine takeW (i := 7) (oi := { dst := some 6, op := Op.assign (Operand.tmp 31), type := 62, pos := "premove.go:49", after := #[{ on := 6, ground := Ground.data }, { on := 6, ground := Ground.chain }, { on := 0, ground := Ground.phase }, { on := 1, ground := Ground.phase }, { on := 2, ground := Ground.phase }, { on := 3, ground := Ground.phase }, { on := 4, ground := Ground.phase }, { on := 5, ground := Ground.phase }, { on := 6, ground := Ground.phase }], guard := none }) (v := ?va7x0) rfl (by kernel_rfl) (by kernel_rfl) (by kernel_rfl) rfl (fun _ _ _ h => h) (Or.inl ⟨by rfl, ?ya7x0⟩) (fun _ => by assumption) ?ra7x0
      case ya7x0 => (intro w _; go_simp; first | done | (with_reducible rfl))
      try simp only [Act.put, List.setIfInBounds_toArray, List.set_cons_zero, List.set_cons_succ]
      refine takeW (i := 8) (oi := { dst := some 7, op := Op.assign (Operand.const (Value.int IntKind.i64 0)), type := 29, pos := "premove.go:49", after := #[{ on := 7, ground := Ground.chain }, { on := 0, ground := Ground.phase }, { on := 1, ground := Ground.phase }, { on := 2, ground := Ground.phase }, { on := 3, ground := Ground.phase }, { on := 4, ground := Ground.phase }, { on := 5, ground := Ground.phase }, { on := 6, ground := Ground.phase }, { on := 7, ground := Ground.phase }], guard := none }) (v := ?va8x0) rfl (by kernel_rfl) (by kernel_rfl) (by kernel_rfl) rfl (fun _ _ _ h => h) (Or.inl ⟨by rfl, ?ya8x0⟩) (fun _ => by assumption) ?ra8x0
      case ya8x0 => (intro w _; go_simp; first | done | (with_reducible rfl))
      try simp only [Act.put, List.setIfInBounds_toArray, List.set_cons_zero, List.set_cons_succ]
      refine doneL (by kernel_rfl) ?_ _
      refine NoPanic.normal ?_
      have O6b : w6.ownsRow w.heap.size 121 4 (.slice (some ⟨g6, 0, none⟩) (l.length + 1) c6) (l.length + 1) (flatP (l ++ [⟨0, m⟩])) := by rw [← flatP_append]; exact own_base O6 (Nat.le_succ _)
      have HO6 := Lib.hid O6b
      have HL6 := Lib.hid L6
      have HD3 := Lib.hid hD0
      clear O6 O6b L6 hD0 hHeld
      go_wp2_with fail
      go_ret2
      exact .inr ⟨HD3.out, _, rfl, HO6.out, HL6.out⟩
  · obtain rfl : pl = 1 := by have := HP.out; omega
    go_wp2_with fail
    refine (of_any _ l 1 w1 HR1.out (by omega)).mono ?_
    rintro e w2 ⟨v2, rfl, ho2, hb2⟩
    obtain ⟨a2, c2, rfl⟩ := own_form2 ho2
    have HB2 := Lib.hid (below_trans HB1.out hb2 HB1.out.size)
    have HBx2 := Lib.hid (HBx1.out.stays hb2)
    have HR2 := Lib.hid (HR1.out.below hb2 (Nat.le_refl _))
    clear ho2 hb2 HB1 HR1 HBx1
    by_cases hf : (ofZ l 1).length = 4
    · have HE : Hid (addErr l 1 = 9) := Lib.hid (by rw [HD2.out, if_pos hf])
      have hf' : ((ofZ l 1).length : Int) = 4 := by omega
      clear HD2 hf
      go_wp2_with fail
      go_ret2
      exact .inl ⟨by rw [HE.out]; decide, by rw [HE.out]; rfl, HB2.out⟩
    have hD0 : addErr l 1 = 0 := by rw [HD2.out, if_neg hf]
    have hf' : ¬ ((ofZ l 1).length : Int) = 4 := by omega
    have HD0 := Lib.hid hD0
    clear HD2 hf hD0
    obtain ⟨i0, hi0, hi1, hi2, hi3⟩ := info_of info_pm
    have HI0 := Lib.hid hi0
    have HI1 := Lib.hid hi1
    have HI2 := Lib.hid hi2
    have HI3 := Lib.hid hi3
    clear hi0 hi1 hi2 hi3
    go_upto_region 8 with (fail)
    generalize w2 = wq at *
    have Bxz : Box wq.drew w.heap.size [.int .i64 m.src, .int .i64 m.dst, .int .i64 m.piece] 42 := HBx2.out
    have Lz : Below w.heap.size w wq.drew := below_drew' HB2.out
    have Rz : RdL premEl wq.drew (.slice a l.length c) l := HR2.out.below (below_drew' (Below.refl _ _)) (Nat.le_refl _)
    have hD0 := HD0.out
    clear HBx2 HB2 HR2 HD0 hf'
    refine wp_region_noPanic ?_
    refine beginL (S := (fun w' => w'.cell? ⟨w.heap.size, 0, none⟩ = some (.int .i64 m.src) ∧ w'.cell? ⟨w.heap.size, 1, none⟩ = some (.int .i64 m.dst) ∧ w'.cell? ⟨w.heap.size, 2, none⟩ = some (.int .i64 m.piece))) (L := []) (by kernel_rfl) ⟨Bxz.cell 0 rfl, Bxz.cell 1 rfl, Bxz.cell 2 rfl⟩ (fun hHeld => ?_)
    refine takeW (i := 0) (oi := { dst := some 25, op := Op.move (Operand.tmp 0), type := 62, pos := "premove.go:49", after := #[], guard := none }) (v := ?va1x1) rfl (by kernel_rfl) (by kernel_rfl) (by kernel_rfl) rfl (fun _ _ _ h => h) (Or.inl ⟨by rfl, ?ya1x1⟩) (fun _ => by assumption) ?ra1x1
    case ya1x1 => (intro w _; go_simp; first | done | (with_reducible rfl))
    try simp only [Act.put, List.setIfInBounds_toArray, List.set_cons_zero, List.set_cons_succ]
    refine takeW (i := 2) (oi := { dst := some 27, op := Op.move (Operand.tmp 1), type := 3, pos := "premove.go:49", after := #[], guard := none }) (v := ?va2x1) rfl (by kernel_rfl) (by kernel_rfl) (by kernel_rfl) rfl (fun _ _ _ h => h) (Or.inl ⟨by rfl, ?ya2x1⟩) (fun _ => by assumption) ?ra2x1
    case ya2x1 => (intro w _; go_simp; first | done | (with_reducible rfl))
    try simp only [Act.put, List.setIfInBounds_toArray, List.set_cons_zero, List.set_cons_succ]
    refine takeL (i := 3) (oi := { dst := some 28, op := Op.load 42 (Operand.tmp 5), type := 42, pos := "premove.go:49", after := #[], guard := none }) (v := ?va3x1) rfl (by kernel_rfl) (by kernel_rfl) (by kernel_rfl) (by kernel_rfl) rfl (by kernel_rfl) (by kernel_rfl) (fun _ _ _ h => h) (Or.inl ⟨by rfl, ?ya3x1⟩) (by assumption) ?ra3x1
    case ya3x1 => (intro w hSw; (try dsimp only at hSw); go_simp; first | done | (with_reducible rfl))
    try simp only [Act.put, List.setIfInBounds_toArray, List.set_cons_zero, List.set_cons_succ]
    refine takeW (i := 4) (oi := { dst := some 29, op := Op.build 121 #[(0, Operand.tmp 27), (1, Operand.tmp 28)], type := 121, pos := "premove.go:49", after := #[{ on := 2, ground := Ground.data }, { on := 3, ground := Ground.data }], guard := none }) (v := ?va4x1) rfl (by kernel_rfl) (by kernel_rfl) (by kernel_rfl) rfl (fun _ _ _ h => h) (Or.inl ⟨by rfl, ?ya4x1⟩) (fun _ => by assumption) ?ra4x1
    case ya4x1 => (intro w _; go_simp; first | done | (with_reducible rfl))
    try simp only [Act.put, List.setIfInBounds_toArray, List.set_cons_zero, List.set_cons_succ]
    refine readyL (rs := [1, 5]) (by kernel_rfl) (by simp) ?_
    refine (AllReadyL.cons (o := { dst := some 26, op := Op.call { callee := Callee.value (Operand.func 79), args := #[Operand.tmp 25], argTypes := #[62] }, type := 62, pos := "premove.go:49", after := #[{ on := 0, ground := Ground.data }], guard := none }) rfl (fun K hK => ?_) (AllReadyL.cons (o := { dst := some 30, op := Op.buildSlice 62 1 #[(0, Operand.tmp 29)], type := 62, pos := "premove.go:49", after := #[{ on := 4, ground := Ground.data }], guard := none }) rfl (fun K hK => ?_) AllReadyL.nil))
    · skip
      go_simp
      refine (clone_pm _ l _ Rz (by omega)).mono ?_
      rintro e w1 ⟨vx, rfl, ho1, hb1⟩
      obtain ⟨an, cn, rfl⟩ := own_form2 ho1
      have Bx1 := Bxz.stays hb1
      have L1 := below_trans Lz hb1 Lz.size
      have O1 := own_base ho1 Bxz.lt
      clear hb1 ho1
      refine hK.out _ _ ⟨Bx1.cell 0 rfl, Bx1.cell 1 rfl, Bx1.cell 2 rfl⟩ (fun hHeld => ?_)
      clear hK K
      try simp only [Act.put, List.setIfInBounds_toArray, List.set_cons_zero, List.set_cons_succ]
      refine readyL (rs := [5]) (by kernel_rfl) (by simp) ?_
      refine (AllReadyL.cons (o := { dst := some 30, op := Op.buildSlice 62 1 #[(0, Operand.tmp 29)], type := 62, pos := "premove.go:49", after := #[{ on := 4, ground := Ground.data }], guard := none }) rfl (fun K hK => ?_) AllReadyL.nil)
      go_simp
      refine K_world ?_
      intro w5 e5
      have Bx5 : Box w5 w.heap.size [.int .i64 m.src, .int .i64 m.dst, .int .i64 m.piece] 42 := by rw [e5]; exact Bx1.alloc _
      have N5 : Box w5 w1.heap.size [.int .i64 (1), .int .i64 m.src, .int .i64 m.dst, .int .i64 m.piece] 121 := by rw [e5]; exact Box.new' _ _ _ _ rfl
      have L5 : Below w.heap.size w w5 := by rw [e5]; exact L1.alloc L1.size _
      have O5 : w5.ownsRow (w.heap.size + 1) 121 4 (.slice an l.length cn) l.length (flatP l) := by rw [e5]; exact O1.alloc _
      clear e5
      refine hK.out _ _ ⟨Bx5.cell 0 rfl, Bx5.cell 1 rfl, Bx5.cell 2 rfl⟩ (fun hHeld => ?_)
      clear hK K
      try simp only [Act.put, List.setIfInBounds_toArray, List.set_cons_zero, List.set_cons_succ]
      refine readyL (rs := [6]) (by kernel_rfl) (by simp) ?_
      refine (AllReadyL.cons (o := { dst := some 31, op := Op.call { callee := Callee.builtin Builtin.append, args := #[Operand.tmp 26, Operand.tmp 30], argTypes := #[62, 62] }, type := 62, pos := "premove.go:49", after := #[{ on := 1, ground := Ground.data }, { on := 5, ground := Ground.data }, { on := 1, ground := Ground.chain }], guard := none }) rfl (fun K hK => ?_) AllReadyL.nil)
      rw [if_pos (by rfl)]
      refine wp_append_lies _ _ _ 62 rfl (w.heap.size + 1) 121 i0 (.agg #[.int .i64 0, .int .i64 0, .int .i64 0, .int .i64 0]) 4 32 Try.underlying62 HI0.out HI1.out HI2.out HI3.out rfl (by decide) (.slice an l.length cn) l.length (flatP l) rfl O5 ⟨w1.heap.size, 0, none⟩ 1 1 [.int .i64 (1), .int .i64 m.src, .int .i64 m.dst, .int .i64 m.piece] rfl rfl (box_src N5) four_ints (by decide) (by unfold maxLen; omega) (by omega) Bx5.lt w5.heap.size rfl ?_
      intro g6 c6 w6 ho6 hg6 hq6 hl6
      have Bx6 : Box w6 w.heap.size [.int .i64 m.src, .int .i64 m.dst, .int .i64 m.piece] 42 := Bx5.grown hg6 (own_far O5 (Nat.lt_succ_self _))
      have L6 := Below.grown L5 hg6 L5.size (fun q hq => Nat.le_trans (Nat.le_succ _) (O5.lt q hq).1)
      have O6 := ho6
      clear ho6 hg6 hq6 hl6
      refine hK.out _ _ ⟨Bx6.cell 0 rfl, Bx6.cell 1 rfl, Bx6.cell 2 rfl⟩ (fun hHeld => ?_)
      clear hK K
      try simp only [Act.put, List.setIfInBounds_toArray, List.set_cons_zero, List.set_cons_succ]
      refine takeW (i := 7) (oi := { dst := some 6, op := Op.assign (Operand.tmp 31), type := 62, pos := "premove.go:49", after := #[{ on := 6, ground := Ground.data }, { on := 6, ground := Ground.chain }, { on := 0, ground := Ground.phase }, { on := 1, ground := Ground.phase }, { on := 2, ground := Ground.phase }, { on := 3, ground := Ground.phase }, { on := 4, ground := Ground.phase }, { on := 5, ground := Ground.phase }, { on := 6, ground := Ground.phase }], guard := none }) (v := ?va5x1) rfl (by kernel_rfl) (by kernel_rfl) (by kernel_rfl) rfl (fun _ _ _ h => h) (Or.inl ⟨by rfl, ?ya5x1⟩) (fun _ => by assumption) ?ra5x1
      case ya5x1 => (intro w _; go_simp; first | done | (with_reducible rfl))
      try simp only [Act.put, List.setIfInBounds_toArray, List.set_cons_zero, List.set_cons_succ]
      refine takeW (i := 8) (oi := { dst := some 7, op := Op.assign (Operand.const (Value.int IntKind.i64 0)), type := 29, pos := "premove.go:49", after := #[{ on := 7, ground := Ground.chain }, { on := 0, ground := Ground.phase }, { on := 1, ground := Ground.phase }, { on := 2, ground := Ground.phase }, { on := 3, ground := Ground.phase }, { on := 4, ground := Ground.phase }, { on := 5, ground := Ground.phase }, { on := 6, ground := Ground.phase }, { on := 7, ground := Ground.phase }], guard := none }) (v := ?va6x1) rfl (by kernel_rfl) (by kernel_rfl) (by kernel_rfl) rfl (fun _ _ _ h => h) (Or.inl ⟨by rfl, ?ya6x1⟩) (fun _ => by assumption) ?ra6x1
      case ya6x1 => (intro w _; go_simp; first | done | (with_reducible rfl))
      try simp only [Act.put, List.setIfInBounds_toArray, List.set_cons_zero, List.set_cons_succ]
      refine doneL (by kernel_rfl) ?_ _
      refine NoPanic.normal ?_
      have O6b : w6.ownsRow w.heap.size 121 4 (.slice (some ⟨g6, 0, none⟩) (l.length + 1) c6) (l.length + 1) (flatP (l ++ [⟨1, m⟩])) := by rw [← flatP_append]; exact own_base O6 (Nat.le_succ _)
      have HO6 := Lib.hid O6b
      have HL6 := Lib.hid L6
      have HD3 := Lib.hid hD0
      clear O6 O6b L6 hD0 hHeld
      go_wp2_with fail
      go_ret2
      exact .inr ⟨HD3.out, _, rfl, HO6.out, HL6.out⟩
    · skip
      go_simp
      refine K_world ?_
      intro w5 e5
      have Bx5 : Box w5 w.heap.size [.int .i64 m.src, .int .i64 m.dst, .int .i64 m.piece] 42 := by rw [e5]; exact Bxz.alloc _
      have N5 : Box w5 wq.drew.heap.size [.int .i64 (1), .int .i64 m.src, .int .i64 m.dst, .int .i64 m.piece] 121 := by rw [e5]; exact Box.new' _ _ _ _ rfl
      have L5 : Below w.heap.size w w5 := by rw [e5]; exact Lz.alloc Lz.size _
      have R5 : RdL premEl w5 (.slice a l.length c) l := Rz.below (by rw [e5]; exact (Below.refl _ _).alloc (Nat.le_refl _) _) (Nat.le_refl _)
      clear e5
      refine hK.out _ _ ⟨Bx5.cell 0 rfl, Bx5.cell 1 rfl, Bx5.cell 2 rfl⟩ (fun hHeld => ?_)
      clear hK K
      try simp only [Act.put, List.setIfInBounds_toArray, List.set_cons_zero, List.set_cons_succ]
      refine readyL (rs := [1]) (by kernel_rfl) (by simp) ?_
      refine (AllReadyL.cons (o := { dst := some 26, op := Op.call { callee := Callee.value (Operand.func 79), args := #[Operand.tmp 25], argTypes := #[62] }, type := 62, pos := "premove.go:49", after := #[{ on := 0, ground := Ground.data }], guard := none }) rfl (fun K hK => ?_) AllReadyL.nil)
      go_simp
      refine (clone_pm _ l _ R5 (by omega)).mono ?_
      rintro e w1 ⟨vx, rfl, ho1, hb1⟩
      obtain ⟨an, cn, rfl⟩ := own_form2 ho1
      have Bx1 := Bx5.stays hb1
      have L1 := below_trans L5 hb1 L5.size
      have O1 := own_base ho1 Bx5.lt
      have N1 := N5.stays hb1
      clear hb1 ho1
      refine hK.out _ _ ⟨Bx1.cell 0 rfl, Bx1.cell 1 rfl, Bx1.cell 2 rfl⟩ (fun hHeld => ?_)
      clear hK K
      try simp only [Act.put, List.setIfInBounds_toArray, List.set_cons_zero, List.set_cons_succ]
      refine readyL (rs := [6]) (by kernel_rfl) (by simp) ?_
      refine (AllReadyL.cons (o := { dst := some 31, op := Op.call { callee := Callee.builtin Builtin.append, args := #[Operand.tmp 26, Operand.tmp 30], argTypes := #[62, 62] }, type := 62, pos := "premove.go:49", after := #[{ on := 1, ground := Ground.data }, { on := 5, ground := Ground.data }, { on := 1, ground := Ground.chain }], guard := none }) rfl (fun K hK => ?_) AllReadyL.nil)
      rw [if_pos (by rfl)]
      refine wp_append_lies _ _ _ 62 rfl (w.heap.size + 1) 121 i0 (.agg #[.int .i64 0, .int .i64 0, .int .i64 0, .int .i64 0]) 4 32 Try.underlying62 HI0.out HI1.out HI2.out HI3.out rfl (by decide) (.slice an l.length cn) l.length (flatP l) rfl O1 ⟨wq.drew.heap.size, 0, none⟩ 1 1 [.int .i64 (1), .int .i64 m.src, .int .i64 m.dst, .int .i64 m.piece] rfl rfl (box_src N1) four_ints (by decide) (by unfold maxLen; omega) (by omega) Bx1.lt w1.heap.size rfl ?_
      intro g6 c6 w6 ho6 hg6 hq6 hl6
      have Bx6 : Box w6 w.heap.size [.int .i64 m.src, .int .i64 m.dst, .int .i64 m.piece] 42 := Bx1.grown hg6 (own_far O1 (Nat.lt_succ_self _))
      have L6 := Below.grown L1 hg6 L1.size (fun q hq => Nat.le_trans (Nat.le_succ _) (O1.lt q hq).1)
      have O6 := ho6
      clear ho6 hg6 hq6 hl6
      refine hK.out _ _ ⟨Bx6.cell 0 rfl, Bx6.cell 1 rfl, Bx6.cell 2 rfl⟩ (fun hHeld => ?_)
      clear hK K
      try simp only [Act.put, List.setIfInBounds_toArray, List.set_cons_zero, List.set_cons_succ]
      refine takeW (i := 7) (oi := { dst := some 6, op := Op.assign (Operand.tmp 31), type := 62, pos := "premove.go:49", after := #[{ on := 6, ground := Ground.data }, { on := 6, ground := Ground.chain }, { on := 0, ground := Ground.phase }, { on := 1, ground := Ground.phase }, { on := 2, ground := Ground.phase }, { on := 3, ground := Ground.phase }, { on := 4, ground := Ground.phase }, { on := 5, ground := Ground.phase }, { on := 6, ground := Ground.phase }], guard := none }) (v := ?va7x1) rfl (by kernel_rfl) (by kernel_rfl) (by kernel_rfl) rfl (fun _ _ _ h => h) (Or.inl ⟨by rfl, ?ya7x1⟩) (fun _ => by assumption) ?ra7x1
      case ya7x1 => (intro w _; go_simp; first | done | (with_reducible rfl))
      try simp only [Act.put, List.setIfInBounds_toArray, List.set_cons_zero, List.set_cons_succ]
      refine takeW (i := 8) (oi := { dst := some 7, op := Op.assign (Operand.const (Value.int IntKind.i64 0)), type := 29, pos := "premove.go:49", after := #[{ on := 7, ground := Ground.chain }, { on := 0, ground := Ground.phase }, { on := 1, ground := Ground.phase }, { on := 2, ground := Ground.phase }, { on := 3, ground := Ground.phase }, { on := 4, ground := Ground.phase }, { on := 5, ground := Ground.phase }, { on := 6, ground := Ground.phase }, { on := 7, ground := Ground.phase }], guard := none }) (v := ?va8x1) rfl (by kernel_rfl) (by kernel_rfl) (by kernel_rfl) rfl (fun _ _ _ h => h) (Or.inl ⟨by rfl, ?ya8x1⟩) (fun _ => by assumption) ?ra8x1
      case ya8x1 => (intro w _; go_simp; first | done | (with_reducible rfl))
      try simp only [Act.put, List.setIfInBounds_toArray, List.set_cons_zero, List.set_cons_succ]
      refine doneL (by kernel_rfl) ?_ _
      refine NoPanic.normal ?_
      have O6b : w6.ownsRow w.heap.size 121 4 (.slice (some ⟨g6, 0, none⟩) (l.length + 1) c6) (l.length + 1) (flatP (l ++ [⟨1, m⟩])) := by rw [← flatP_append]; exact own_base O6 (Nat.le_succ _)
      have HO6 := Lib.hid O6b
      have HL6 := Lib.hid L6
      have HD3 := Lib.hid hD0
      clear O6 O6b L6 hD0 hHeld
      go_wp2_with fail
      go_ret2
      exact .inr ⟨HD3.out, _, rfl, HO6.out, HL6.out⟩

end Go.Proofs.Ytkfaibdflbdpgaa

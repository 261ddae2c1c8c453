/- The walk of the law PremoveClears. -/
import Derived.Test.YtkfaibdflbdpgaaPrem6
import Derived.Test.YtkfaibdflbdpgaaOpenPM
import Derived.Test.YtkfaibdflbdpgaaFrame
namespace Go.Proofs.Ytkfaibdflbdpgaa.premoveClears
open Go.ChangeShapes Go.WideShapes Go.ChangeAt Go.RowKit
set_option linter.unusedVariables false

theorem of_without (l : List PremZ) (pl : Int) : ofZ (withoutZ l pl) pl = [] := by
  unfold ofZ withoutZ
  rw [List.filter_filter]
  have : (l.filter fun x => (x.player == pl) && !(x.player == pl)) = [] := by
    rw [List.filter_eq_nil_iff]
    intro x _
    cases x.player == pl <;> simp
  rw [this]; rfl
theorem of_without_other (l : List PremZ) (pl q : Int) (h : q ≠ pl) : ofZ (withoutZ l pl) q = ofZ l q := by
  unfold ofZ withoutZ
  rw [List.filter_filter]
  congr 1
  apply List.filter_congr
  intro x _
  by_cases e : x.player = q
  · subst e; simp [h]
  · simp [e]
theorem ofZ_add (l : List PremZ) (pl : Int) (m : MoveZ) : ofZ (l ++ [⟨pl, m⟩]) pl = ofZ l pl ++ [m] := by
  simp [ofZ, List.filter_append]
theorem minN (a : Nat) (b : Int) (hb : 0 ≤ b) : ∃ m : Nat, (if b < (a : Int) then b else (a : Int)) = (m : Int) ∧ m ≤ a ∧ (m : Int) ≤ b := by
  by_cases h : b < a
  · exact ⟨b.toNat, by rw [if_pos (by omega)]; omega, by omega, by omega⟩
  · exact ⟨a, by rw [if_neg (by omega)], by omega, by omega⟩
theorem addErr_prem {l : List PremZ} {pl : Int} (h : premErr l ≠ 0) : addErr l pl = premErr l := by unfold addErr; rw [if_pos h]
set_option maxRecDepth 100000 in
set_option maxHeartbeats 8000000 in
theorem walk (HS : SortMvSaid) (v : Value) (l0 : List PremZ) (pl : Int) (m : MoveZ) (w : World) (h : RdL premEl w v l0) :
    Calls Try.prog 6 #[v, .int .i64 pl, .agg #[.int .i64 m.src, .int .i64 m.dst, .int .i64 m.piece]] w fun e w' => e = .returned (.bool true) ∧ Below w.heap.size w w' := by
  have HSh := Lib.hid HS
  have HL := Lib.hid h
  obtain ⟨a, c, rfl, h1, h2⟩ := h.form
  unfold maxLen at h2
  obtain ⟨k, hk, k1, k2⟩ := minN l0.length 12 (by omega)
  obtain ⟨l, hl⟩ : ∃ l, l = l0.take k := ⟨_, rfl⟩
  have hll : l.length = k := by rw [hl, List.length_take]; omega
  have HLt := Lib.hid (show RdL premEl w (.slice a l.length c) l by rw [hll, hl]; exact h.take k k1)
  have hsl : ∀ w' : World, (Instr.slice 62 (.slice a l0.length c) none (some (.int .i64 (k : Int))) none).run Try.prog w' = .ok (.slice a k c) w' := fun w' =>
    run_take (P := Try.prog) (t := 62) (s := 4) Try.underlying62 (fun w => by kernel_rfl) a l0.length c k (by omega) w'
  have hsla : ∀ w' : World, (Instr.sliceAt 62 (.slice a l0.length c) none (some (.int .i64 (k : Int))) none).run Try.prog w' = .ok (.slice a k c) w' := fun w' =>
    run_takeAt (P := Try.prog) (t := 62) (s := 4) Try.underlying62 (fun w => by kernel_rfl) a l0.length c k (by omega) w'
  subst hll
  clear h HS hl
  go_enter Try.func6, Try.ntmps6
  go_upto_region 1 with (fail)
  have B0 : Box (w.alloc (.cells #[.int .i64 m.src, .int .i64 m.dst, .int .i64 m.piece] 42)) (w.heap.size) [.int .i64 m.src, .int .i64 m.dst, .int .i64 m.piece] 42 := (Box.new' w (w.heap.size) [.int .i64 m.src, .int .i64 m.dst, .int .i64 m.piece] 42 (by simp <;> omega))
  have HB : Hid (Below w.heap.size w (w.alloc (.cells #[.int .i64 m.src, .int .i64 m.dst, .int .i64 m.piece] 42))) := Lib.hid ((Below.refl w.heap.size w).alloc (Nat.le_refl _) _)
  have hz0 : w.heap.size < (w.alloc (.cells #[.int .i64 m.src, .int .i64 m.dst, .int .i64 m.piece] 42)).heap.size := by simp
  generalize (w.alloc (.cells #[.int .i64 m.src, .int .i64 m.dst, .int .i64 m.piece] 42)) = w0 at *
  have HLw := Lib.hid (HL.out.below HB.out (Nat.le_refl _))
  have HM := Lib.hid B0
  have HLtw := Lib.hid (HLt.out.below HB.out (Nat.le_refl _))
  clear B0 HLw HL HLt
  go_wp2_with fail
  refine (announces_any HSh.out w0).mono ?_
  rintro e w1 ⟨rfl, hb1⟩
  have HB1 := Lib.hid (below_trans HB.out hb1 HB.out.size)
  have HM1 := Lib.hid (HM.out.stays hb1)
  have HL1 := Lib.hid (HLtw.out.below hb1 (Nat.le_refl _))
  clear hb1 HM HLtw HB hz0
  go_wp2_with fail
  refine (Clear_any _ l pl w1 HL1.out (by omega)).mono ?_
  rintro e w2 (⟨hbad, rfl, hb2⟩ | ⟨hE, v2, rfl, ho2, hb2⟩)
  · have HB2 := Lib.hid (below_trans HB1.out hb2 HB1.out.size)
    have HM2 := Lib.hid (HM1.out.stays hb2)
    have HL2 := Lib.hid (HL1.out.below hb2 (Nat.le_refl _))
    have HBad := Lib.hid hbad
    have he : (premErr l == 0) = false := by simpa using hbad
    have he' : (premErr l != 0) = true := by simpa using hbad
    have d0 := HM2.out.cell 0 rfl
    have d1 := HM2.out.cell 1 rfl
    have d2 := HM2.out.cell 2 rfl
    have hlt := HM2.out.lt
    clear hb2 hbad
    go_wp2_with fail
    refine (Add_any _ l pl m w2 HL2.out (by omega)).mono ?_
    rintro e w3 (⟨-, rfl, hb3⟩ | ⟨hok, -⟩)
    · rw [addErr_prem HBad.out]
      have HB3 := Lib.hid (below_trans HB2.out hb3 HB2.out.size)
      clear hb3
      go_wp2_with fail
      go_ret
      exact ⟨rfl, HB3.out⟩
    · rw [addErr_prem HBad.out] at hok
      exact absurd hok HBad.out
  have HE := Lib.hid hE
  have HB2 := Lib.hid (below_trans HB1.out hb2 HB1.out.size)
  have HM2 := Lib.hid (HM1.out.stays hb2)
  have HL2 := Lib.hid (HL1.out.below hb2 (Nat.le_refl _))
  obtain ⟨a2, c2, rfl⟩ := own_form2 ho2
  have HO2 := Lib.hid ho2
  have d0 := HM2.out.cell 0 rfl
  have d1 := HM2.out.cell 1 rfl
  have d2 := HM2.out.cell 2 rfl
  have hlt := HM2.out.lt
  clear hb2 ho2 hE HB1 HM1 HL1
  by_cases hp0 : pl = 0
  · subst hp0
    go_wp2_with fail
    refine (Add_any _ l 0 m w2 HL2.out (by omega)).mono ?_
    rintro e w3 (⟨hbad, rfl, hb3⟩ | ⟨hok, v3, rfl, ho3, hb3⟩)
    · have hf : (addErr l (0) != 0) = true := by simpa using hbad
      have HB3 := Lib.hid (below_trans HB2.out hb3 HB2.out.size)
      have HM3 := Lib.hid (HM2.out.stays hb3)
      have HL3 := Lib.hid (HL2.out.below hb3 (Nat.le_refl _))
      have HOa := Lib.hid (own_stays HO2.out hb3)
      clear hb3 hbad
      go_wp2_with fail
      refine (of_any _ (withoutZ l 0) 0 w3 (rdP_of_own HOa.out) (by have := List.length_filter_le (fun x : PremZ => !(x.player == 0)) l; unfold withoutZ; omega)).mono ?_
      rintro e wa ⟨va, rfl, hoa, hba⟩
      rw [of_without] at hoa
      obtain ⟨aa, ca, rfl⟩ := own_form2 hoa
      have HBa := Lib.hid (below_trans HB3.out hba HB3.out.size)
      have HMa := Lib.hid (HM3.out.stays hba)
      have HLa := Lib.hid (HL3.out.below hba (Nat.le_refl _))
      have HOb := Lib.hid (own_stays HOa.out hba)
      clear hoa hba
      go_wp2_with fail
      refine (of_any _ (withoutZ l 0) (1) wa (rdP_of_own HOb.out) (by have := List.length_filter_le (fun x : PremZ => !(x.player == 0)) l; unfold withoutZ; omega)).mono ?_
      rintro e wb ⟨vb, rfl, hob, hbb⟩
      obtain ⟨ab, cb, rfl⟩ := own_form2 hob
      have HRb := Lib.hid (rdM_of_own hob)
      have HBb := Lib.hid (below_trans HBa.out hbb HBa.out.size)
      have HMb := Lib.hid (HMa.out.stays hbb)
      have HLb := Lib.hid (HLa.out.below hbb (Nat.le_refl _))
      clear hob hbb
      go_wp2_with fail
      refine (of_any _ l (1) wb HLb.out (by omega)).mono ?_
      rintro e wc ⟨vc, rfl, hoc, hbc⟩
      obtain ⟨ac, cc, rfl⟩ := own_form2 hoc
      have HRc := Lib.hid (rdM_of_own hoc)
      have HRd := Lib.hid (HRb.out.below hbc (Nat.le_refl _))
      have HBc := Lib.hid (below_trans HBb.out hbc HBb.out.size)
      have HMc := Lib.hid (HMb.out.stays hbc)
      have HLc := Lib.hid (HLb.out.below hbc (Nat.le_refl _))
      clear hoc hbc
      go_wp2_with fail
      refine (sameLine_any _ _ _ _ wc HRd.out HRc.out (by have := ofZ_len (withoutZ l 0) (1); have := List.length_filter_le (fun x : PremZ => !(x.player == 0)) l; unfold withoutZ at *; omega)).mono ?_
      rintro e wd ⟨rfl, hbd⟩
      rw [of_without_other l 0 1 (by decide)]
      have hdt : decide (ofZ l 1 = ofZ l 1) = true := by simp
      rw [hdt]
      have HBd := Lib.hid (below_trans HBc.out hbd HBc.out.size)
      have HMd := Lib.hid (HMc.out.stays hbd)
      have HLd := Lib.hid (HLc.out.below hbd (Nat.le_refl _))
      clear hbd
      go_wp2_with fail
      go_ret
      exact ⟨rfl, HBd.out⟩
    · have HO3 := Lib.hid ho3
      obtain ⟨a3, c3, rfl⟩ := own_form2 ho3
      have HB3 := Lib.hid (below_trans HB2.out hb3 HB2.out.size)
      have HM3 := Lib.hid (HM2.out.stays hb3)
      have HL3 := Lib.hid (HL2.out.below hb3 (Nat.le_refl _))
      have HOa := Lib.hid (own_stays HO2.out hb3)
      clear hb3 ho3 hok
      go_wp2_with fail
      refine (of_any _ (withoutZ l 0) 0 w3 (rdP_of_own HOa.out) (by have := List.length_filter_le (fun x : PremZ => !(x.player == 0)) l; unfold withoutZ; omega)).mono ?_
      rintro e wa ⟨va, rfl, hoa, hba⟩
      rw [of_without] at hoa
      obtain ⟨aa, ca, rfl⟩ := own_form2 hoa
      have HBa := Lib.hid (below_trans HB3.out hba HB3.out.size)
      have HMa := Lib.hid (HM3.out.stays hba)
      have HLa := Lib.hid (HL3.out.below hba (Nat.le_refl _))
      have HOb := Lib.hid (own_stays HOa.out hba)
      have HOx := Lib.hid (own_stays HO3.out hba)
      clear hoa hba
      go_wp2_with fail
      refine (of_any _ (withoutZ l 0) (1) wa (rdP_of_own HOb.out) (by have := List.length_filter_le (fun x : PremZ => !(x.player == 0)) l; unfold withoutZ; omega)).mono ?_
      rintro e wb ⟨vb, rfl, hob, hbb⟩
      obtain ⟨ab, cb, rfl⟩ := own_form2 hob
      have HRb := Lib.hid (rdM_of_own hob)
      have HBb := Lib.hid (below_trans HBa.out hbb HBa.out.size)
      have HMb := Lib.hid (HMa.out.stays hbb)
      have HLb := Lib.hid (HLa.out.below hbb (Nat.le_refl _))
      have HOy := Lib.hid (own_stays HOx.out hbb)
      clear hob hbb
      go_wp2_with fail
      refine (of_any _ l (1) wb HLb.out (by omega)).mono ?_
      rintro e wc ⟨vc, rfl, hoc, hbc⟩
      obtain ⟨ac, cc, rfl⟩ := own_form2 hoc
      have HRc := Lib.hid (rdM_of_own hoc)
      have HRd := Lib.hid (HRb.out.below hbc (Nat.le_refl _))
      have HBc := Lib.hid (below_trans HBb.out hbc HBb.out.size)
      have HMc := Lib.hid (HMb.out.stays hbc)
      have HLc := Lib.hid (HLb.out.below hbc (Nat.le_refl _))
      have HOz := Lib.hid (own_stays HOy.out hbc)
      clear hoc hbc
      go_wp2_with fail
      refine (sameLine_any _ _ _ _ wc HRd.out HRc.out (by have := ofZ_len (withoutZ l 0) (1); have := List.length_filter_le (fun x : PremZ => !(x.player == 0)) l; unfold withoutZ at *; omega)).mono ?_
      rintro e wd ⟨rfl, hbd⟩
      rw [of_without_other l 0 1 (by decide)]
      have hdt : decide (ofZ l 1 = ofZ l 1) = true := by simp
      rw [hdt]
      have HBd := Lib.hid (below_trans HBc.out hbd HBc.out.size)
      have HMd := Lib.hid (HMc.out.stays hbd)
      have HLd := Lib.hid (HLc.out.below hbd (Nat.le_refl _))
      have HOw := Lib.hid (own_stays HOz.out hbd)
      clear hbd
      clear HO3 HB3 HM3 HL3 HBa HMa HLa HBb HMb HLb HBc HMc HLc HOa HOb HOx HOy HOz HRb HRc HRd
      have HO3 := HOw
      have HB3 := HBd
      have HM3 := HMd
      have HL3 := HLd
      clear HOw HBd HMd HLd
      go_wp2_with fail
      refine (of_any _ (l ++ [⟨0, m⟩]) 0 wd (rdP_of_own (by rw [List.length_append]; exact HO3.out)) (by rw [List.length_append]; simp; omega)).mono ?_
      rintro e w4 ⟨v4, rfl, ho4, hb4⟩
      rw [ofZ_add] at ho4
      rw [List.length_append, List.length_singleton] at ho4
      obtain ⟨go, co, rfl⟩ := own_some ho4 (by omega)
      obtain ⟨n1, hn1⟩ : ∃ n1, n1 = (ofZ l 0).length := ⟨_, rfl⟩
      have HN1 := Lib.hid hn1.symm
      obtain ⟨p0, p1, p2⟩ := flatM_at (ofZ l 0 ++ [m]) n1 (by rw [List.length_append]; simp; omega)
      rw [show (ofZ l 0 ++ [m]).getD n1 default = m by rw [hn1]; simp [List.getD_eq_getElem?_getD]] at p0 p1 p2
      rw [← hn1] at ho4
      have C0 := (ho4.cellAt (n1 * 3) (by omega)).trans p0
      have C1 := (ho4.cellAt (n1 * 3 + 1) (by omega)).trans p1
      have C2 := (ho4.cellAt (n1 * 3 + 2) (by omega)).trans p2
      have HGo := Lib.hid (ho4.lt go rfl).2
      have HB4 := Lib.hid (below_trans HB3.out hb4 HB3.out.size)
      have HM4 := Lib.hid (HM3.out.stays hb4)
      have HL4 := Lib.hid (HL3.out.below hb4 (Nat.le_refl _))
      have hn1b : n1 ≤ 1000 := by have := ofZ_len l (0); omega
      have HC0 := Lib.hid C0
      have HC1 := Lib.hid C1
      have HC2 := Lib.hid C2
      clear ho4 hb4 hn1 p0 p1 p2 C0 C1 C2
      have hw1 : IntKind.i64.wrap ((n1 : Int) + 1) = (n1 : Int) + 1 := IntWalk.i64_in _ (by omega)
      have hw2 : IntKind.i64.wrap ((n1 : Int) + 1 - 1) = (n1 : Int) := by rw [Int.add_sub_cancel]; exact IntWalk.i64_in _ (by omega)
      have hn1l : (n1 : Int) < (n1 : Int) + 1 := by omega
      have hwd : IntKind.i64.wrap (n1 : Int) = (n1 : Int) := IntWalk.i64_in _ (by omega)
      have heqm : ∀ w, (binOp .eql 42 (.agg #[.int .i64 m.src, .int .i64 m.dst, .int .i64 m.piece]) (.agg #[.int .i64 m.src, .int .i64 m.dst, .int .i64 m.piece])).run Try.prog w = .ok (.bool true) w := fun w => by have h := eqlM m m w; rw [show decide (m = m) = true by simp] at h; exact h
      have hcast : (((n1 + 1 : Nat)) : Int) = (n1 : Int) + 1 := by omega
      go_upto_region 11 with (fail)
      generalize w4 = wq at *
      have Bmz : Box wq.drew (w.heap.size) [.int .i64 m.src, .int .i64 m.dst, .int .i64 m.piece] 42 := HM4.out
      have Lz : Below w.heap.size w wq.drew := below_drew' HB4.out
      have Rlz : RdL premEl wq.drew (.slice a l.length c) l := HL4.out.below (below_drew' (Below.refl _ _)) (Nat.le_refl _)
      have GOz : go < wq.drew.heap.size := HGo.out
      have C0z : wq.drew.cell? ⟨go, n1 * 3, none⟩ = some (.int .i64 m.src) := HC0.out
      have C1z : wq.drew.cell? ⟨go, n1 * 3 + 1, none⟩ = some (.int .i64 m.dst) := HC1.out
      have C2z : wq.drew.cell? ⟨go, n1 * 3 + 2, none⟩ = some (.int .i64 m.piece) := HC2.out
      clear HM4 HB4 HL4 HGo HC0 HC1 HC2
      refine wp_region_noPanic ?_
      refine beginL (S := (fun w' => w'.cell? ⟨w.heap.size, 0, none⟩ = some (.int .i64 m.src) ∧ w'.cell? ⟨w.heap.size, 1, none⟩ = some (.int .i64 m.dst) ∧ w'.cell? ⟨w.heap.size, 2, none⟩ = some (.int .i64 m.piece) ∧ w'.cell? ⟨go, n1 * 3, none⟩ = some (.int .i64 m.src) ∧ w'.cell? ⟨go, n1 * 3 + 1, none⟩ = some (.int .i64 m.dst) ∧ w'.cell? ⟨go, n1 * 3 + 2, none⟩ = some (.int .i64 m.piece))) (L := []) (by kernel_rfl) ⟨Bmz.cell 0 rfl, Bmz.cell 1 rfl, Bmz.cell 2 rfl, C0z, C1z, C2z⟩ (fun hHeld => ?_)
      refine takeW (i := 0) (oi := { dst := some 69, op := Op.move (Operand.tmp 11), type := 32, pos := "play.go:141", after := #[], guard := none }) (v := ?va1p) rfl (by kernel_rfl) (by kernel_rfl) (by kernel_rfl) rfl (fun _ _ _ h => h) (Or.inl ⟨by rfl, ?ya1p⟩) (fun _ => by assumption) ?ra1p
      case ya1p => (intro w _; go_simp; first | done | (with_reducible rfl))
      try simp only [Act.put, List.setIfInBounds_toArray, List.set_cons_zero, List.set_cons_succ]
      refine takeW (i := 2) (oi := { dst := some 71, op := Op.move (Operand.tmp 0), type := 62, pos := "play.go:141", after := #[], guard := none }) (v := ?va2p) rfl (by kernel_rfl) (by kernel_rfl) (by kernel_rfl) rfl (fun _ _ _ h => h) (Or.inl ⟨by rfl, ?ya2p⟩) (fun _ => by assumption) ?ra2p
      case ya2p => (intro w _; go_simp; first | done | (with_reducible rfl))
      try simp only [Act.put, List.setIfInBounds_toArray, List.set_cons_zero, List.set_cons_succ]
      refine takeW (i := 3) (oi := { dst := some 72, op := Op.move (Operand.tmp 1), type := 3, pos := "play.go:141", after := #[], guard := none }) (v := ?va3p) rfl (by kernel_rfl) (by kernel_rfl) (by kernel_rfl) rfl (fun _ _ _ h => h) (Or.inl ⟨by rfl, ?ya3p⟩) (fun _ => by assumption) ?ra3p
      case ya3p => (intro w _; go_simp; first | done | (with_reducible rfl))
      try simp only [Act.put, List.setIfInBounds_toArray, List.set_cons_zero, List.set_cons_succ]
      refine takeW (i := 1) (oi := { dst := some 70, op := Op.call { callee := Callee.builtin Builtin.len, args := #[Operand.tmp 69], argTypes := #[32] }, type := 3, pos := "play.go:141", after := #[{ on := 0, ground := Ground.data }], guard := none }) (v := ?va4p) rfl (by kernel_rfl) (by kernel_rfl) (by kernel_rfl) rfl (fun _ _ _ h => h) (Or.inl ⟨by rfl, ?ya4p⟩) (fun _ => by assumption) ?ra4p
      case ya4p => (intro w _; go_simp; first | done | (with_reducible rfl))
      try simp only [Act.put, List.setIfInBounds_toArray, List.set_cons_zero, List.set_cons_succ]
      refine readyL (rs := [4]) (by kernel_rfl) (by simp) ?_
      refine (AllReadyL.cons (o := { dst := some 73, op := Op.call { callee := Callee.value (Operand.func 39), args := #[Operand.tmp 71, Operand.tmp 72], argTypes := #[62, 3] }, type := 32, pos := "play.go:141", after := #[{ on := 2, ground := Ground.data }, { on := 3, ground := Ground.data }], guard := none }) rfl (fun K hK => ?_) AllReadyL.nil)
      go_simp
      refine (of_any _ l 0 _ Rlz (by omega)).mono ?_
      rintro e w4 ⟨v4, rfl, ho4, hb4⟩
      obtain ⟨a4, c4, rfl⟩ := own_form2 ho4
      have Bm4 := Bmz.stays hb4
      have L4 := below_trans Lz hb4 Lz.size
      have C04 := (hb4.cell GOz).trans C0z
      have C14 := (hb4.cell GOz).trans C1z
      have C24 := (hb4.cell GOz).trans C2z
      rw [HN1.out]
      clear hb4 ho4
      refine hK.out _ _ ⟨Bm4.cell 0 rfl, Bm4.cell 1 rfl, Bm4.cell 2 rfl, C04, C14, C24⟩ (fun hHeld => ?_)
      clear hK K
      try simp only [Act.put, List.setIfInBounds_toArray, List.set_cons_zero, List.set_cons_succ]
      refine takeW (i := 5) (oi := { dst := some 74, op := Op.call { callee := Callee.builtin Builtin.len, args := #[Operand.tmp 73], argTypes := #[32] }, type := 3, pos := "play.go:141", after := #[{ on := 4, ground := Ground.data }], guard := none }) (v := ?va5p) rfl (by kernel_rfl) (by kernel_rfl) (by kernel_rfl) rfl (fun _ _ _ h => h) (Or.inl ⟨by rfl, ?ya5p⟩) (fun _ => by assumption) ?ra5p
      case ya5p => (intro w _; go_simp; first | done | (with_reducible rfl))
      try simp only [Act.put, List.setIfInBounds_toArray, List.set_cons_zero, List.set_cons_succ]
      refine takeW (i := 6) (oi := { dst := some 75, op := Op.binOp BinOp.add 3 (Operand.tmp 74) (Operand.const (Value.int IntKind.i64 1)) 3, type := 3, pos := "play.go:141", after := #[{ on := 5, ground := Ground.data }], guard := none }) (v := ?va6p) rfl (by kernel_rfl) (by kernel_rfl) (by kernel_rfl) rfl (fun _ _ _ h => h) (Or.inl ⟨by rfl, ?ya6p⟩) (fun _ => by assumption) ?ra6p
      case ya6p => (intro w _; go_simp; first | done | (with_reducible rfl))
      try simp only [Act.put, List.setIfInBounds_toArray, List.set_cons_zero, List.set_cons_succ]
      refine takeW (i := 7) (oi := { dst := some 76, op := Op.binOp BinOp.eql 3 (Operand.tmp 70) (Operand.tmp 75) 3, type := 4, pos := "play.go:141", after := #[{ on := 1, ground := Ground.data }, { on := 6, ground := Ground.data }], guard := none }) (v := ?va7p) rfl (by kernel_rfl) (by kernel_rfl) (by kernel_rfl) rfl (fun _ _ _ h => h) (Or.inl ⟨by rfl, ?ya7p⟩) (fun _ => by assumption) ?ra7p
      case ya7p => (intro w _; go_simp; first | done | (with_reducible rfl))
      try simp only [Act.put, List.setIfInBounds_toArray, List.set_cons_zero, List.set_cons_succ]
      refine takeW (i := 8) (oi := { dst := some 77, op := Op.move (Operand.tmp 76), type := 4, pos := "play.go:141", after := #[{ on := 7, ground := Ground.data }, { on := 4, ground := Ground.chain }], guard := none }) (v := ?va8p) rfl (by kernel_rfl) (by kernel_rfl) (by kernel_rfl) rfl (fun _ _ _ h => h) (Or.inl ⟨by rfl, ?ya8p⟩) (fun _ => by assumption) ?ra8p
      case ya8p => (intro w _; go_simp; first | done | (with_reducible rfl))
      try simp only [Act.put, List.setIfInBounds_toArray, List.set_cons_zero, List.set_cons_succ]
      refine takeW (i := 9) (oi := { dst := some 78, op := Op.move (Operand.tmp 11), type := 32, pos := "play.go:141", after := #[{ on := 8, ground := Ground.guard }], guard := some (8, true) }) (v := ?va9p) rfl (by kernel_rfl) (by kernel_rfl) (by kernel_rfl) rfl (fun _ _ _ h => h) (Or.inl ⟨by rfl, ?ya9p⟩) (fun _ => by assumption) ?ra9p
      case ya9p => (intro w _; go_simp; first | done | (with_reducible rfl))
      try simp only [Act.put, List.setIfInBounds_toArray, List.set_cons_zero, List.set_cons_succ]
      refine takeW (i := 10) (oi := { dst := some 79, op := Op.move (Operand.tmp 11), type := 32, pos := "play.go:141", after := #[{ on := 8, ground := Ground.guard }], guard := some (8, true) }) (v := ?va10p) rfl (by kernel_rfl) (by kernel_rfl) (by kernel_rfl) rfl (fun _ _ _ h => h) (Or.inl ⟨by rfl, ?ya10p⟩) (fun _ => by assumption) ?ra10p
      case ya10p => (intro w _; go_simp; first | done | (with_reducible rfl))
      try simp only [Act.put, List.setIfInBounds_toArray, List.set_cons_zero, List.set_cons_succ]
      refine takeL (i := 15) (oi := { dst := some 84, op := Op.load 42 (Operand.tmp 5), type := 42, pos := "play.go:141", after := #[{ on := 8, ground := Ground.guard }], guard := some (8, true) }) (v := ?va11p) rfl (by kernel_rfl) (by kernel_rfl) (by kernel_rfl) (by kernel_rfl) rfl (by kernel_rfl) (by kernel_rfl) (fun _ _ _ h => h) (Or.inl ⟨by rfl, ?ya11p⟩) (by assumption) ?ra11p
      case ya11p => (intro w hSw; (try dsimp only at hSw); go_simp; first | done | (with_reducible rfl))
      try simp only [Act.put, List.setIfInBounds_toArray, List.set_cons_zero, List.set_cons_succ]
      refine takeW (i := 11) (oi := { dst := some 80, op := Op.call { callee := Callee.builtin Builtin.len, args := #[Operand.tmp 79], argTypes := #[32] }, type := 3, pos := "play.go:141", after := #[{ on := 10, ground := Ground.data }, { on := 8, ground := Ground.guard }], guard := some (8, true) }) (v := ?va12p) rfl (by kernel_rfl) (by kernel_rfl) (by kernel_rfl) rfl (fun _ _ _ h => h) (Or.inl ⟨by rfl, ?ya12p⟩) (fun _ => by assumption) ?ra12p
      case ya12p => (intro w _; go_simp; first | done | (with_reducible rfl))
      try simp only [Act.put, List.setIfInBounds_toArray, List.set_cons_zero, List.set_cons_succ]
      refine takeW (i := 12) (oi := { dst := some 81, op := Op.binOp BinOp.sub 3 (Operand.tmp 80) (Operand.const (Value.int IntKind.i64 1)) 3, type := 3, pos := "play.go:141", after := #[{ on := 11, ground := Ground.data }, { on := 8, ground := Ground.guard }], guard := some (8, true) }) (v := ?va13p) rfl (by kernel_rfl) (by kernel_rfl) (by kernel_rfl) rfl (fun _ _ _ h => h) (Or.inl ⟨by rfl, ?ya13p⟩) (fun _ => by assumption) ?ra13p
      case ya13p => (intro w _; go_simp; first | done | (with_reducible rfl))
      try simp only [Act.put, List.setIfInBounds_toArray, List.set_cons_zero, List.set_cons_succ]
      refine takeW (i := 13) (oi := { dst := some 82, op := Op.indexAddr 32 (Operand.tmp 78) (Operand.tmp 81), type := 0, pos := "play.go:141", after := #[{ on := 9, ground := Ground.data }, { on := 12, ground := Ground.data }, { on := 8, ground := Ground.guard }], guard := some (8, true) }) (v := ?va14p) rfl (by kernel_rfl) (by kernel_rfl) (by kernel_rfl) rfl (fun _ _ _ h => h) (Or.inl ⟨by rfl, ?ya14p⟩) (fun _ => by assumption) ?ra14p
      case ya14p => (intro w _; go_simp; first | done | (with_reducible rfl))
      try simp only [Act.put, List.setIfInBounds_toArray, List.set_cons_zero, List.set_cons_succ]
      refine takeL (i := 14) (oi := { dst := some 83, op := Op.load 42 (Operand.tmp 82), type := 42, pos := "play.go:141", after := #[{ on := 13, ground := Ground.data }, { on := 8, ground := Ground.guard }], guard := some (8, true) }) (v := ?va15p) rfl (by kernel_rfl) (by kernel_rfl) (by kernel_rfl) (by kernel_rfl) rfl (by kernel_rfl) (by kernel_rfl) (fun _ _ _ h => h) (Or.inl ⟨by rfl, ?ya15p⟩) (by assumption) ?ra15p
      case ya15p => (intro w hSw; (try dsimp only at hSw); go_simp; first | done | (with_reducible rfl))
      try simp only [Act.put, List.setIfInBounds_toArray, List.set_cons_zero, List.set_cons_succ]
      refine takeW (i := 16) (oi := { dst := some 85, op := Op.binOp BinOp.eql 42 (Operand.tmp 83) (Operand.tmp 84) 42, type := 4, pos := "play.go:141", after := #[{ on := 14, ground := Ground.data }, { on := 15, ground := Ground.data }, { on := 8, ground := Ground.guard }], guard := some (8, true) }) (v := ?va16p) rfl (by kernel_rfl) (by kernel_rfl) (by kernel_rfl) rfl (fun _ _ _ h => h) (Or.inl ⟨by rfl, ?ya16p⟩) (fun _ => by assumption) ?ra16p
      case ya16p => (intro w _; go_simp; first | done | (with_reducible rfl))
      try simp only [Act.put, List.setIfInBounds_toArray, List.set_cons_zero, List.set_cons_succ]
      refine takeW (i := 17) (oi := { dst := some 86, op := Op.pick (Operand.tmp 77) (Operand.tmp 85) (Operand.const (Value.bool false)), type := 4, pos := "play.go:141", after := #[{ on := 8, ground := Ground.data }, { on := 16, ground := Ground.data }], guard := none }) (v := ?va17p) rfl (by kernel_rfl) (by kernel_rfl) (by kernel_rfl) rfl (fun _ _ _ h => h) (Or.inl ⟨by rfl, ?ya17p⟩) (fun _ => by assumption) ?ra17p
      case ya17p => (intro w _; go_simp; first | done | (with_reducible rfl))
      try simp only [Act.put, List.setIfInBounds_toArray, List.set_cons_zero, List.set_cons_succ]
      refine takeW (i := 18) (oi := { dst := some 6, op := Op.assign (Operand.tmp 86), type := 4, pos := "play.go:141", after := #[{ on := 17, ground := Ground.data }, { on := 8, ground := Ground.chain }, { on := 0, ground := Ground.phase }, { on := 1, ground := Ground.phase }, { on := 2, ground := Ground.phase }, { on := 3, ground := Ground.phase }, { on := 4, ground := Ground.phase }, { on := 5, ground := Ground.phase }, { on := 6, ground := Ground.phase }, { on := 7, ground := Ground.phase }, { on := 8, ground := Ground.phase }, { on := 9, ground := Ground.phase }, { on := 10, ground := Ground.phase }, { on := 11, ground := Ground.phase }, { on := 12, ground := Ground.phase }, { on := 13, ground := Ground.phase }, { on := 14, ground := Ground.phase }, { on := 15, ground := Ground.phase }, { on := 16, ground := Ground.phase }, { on := 17, ground := Ground.phase }], guard := none }) (v := ?va18p) rfl (by kernel_rfl) (by kernel_rfl) (by kernel_rfl) rfl (fun _ _ _ h => h) (Or.inl ⟨by rfl, ?ya18p⟩) (fun _ => by assumption) ?ra18p
      case ya18p => (intro w _; go_simp; first | done | (with_reducible rfl))
      try simp only [Act.put, List.setIfInBounds_toArray, List.set_cons_zero, List.set_cons_succ]
      refine doneL (by kernel_rfl) ?_ _
      refine NoPanic.normal ?_
      have HL4z := Lib.hid L4
      go_wp2_with fail
      go_ret
      exact ⟨rfl, HL4z.out⟩
  by_cases hp1 : pl = 1
  · subst hp1
    go_wp2_with fail
    refine (Add_any _ l 1 m w2 HL2.out (by omega)).mono ?_
    rintro e w3 (⟨hbad, rfl, hb3⟩ | ⟨hok, v3, rfl, ho3, hb3⟩)
    · have hf : (addErr l (1) != 0) = true := by simpa using hbad
      have HB3 := Lib.hid (below_trans HB2.out hb3 HB2.out.size)
      have HM3 := Lib.hid (HM2.out.stays hb3)
      have HL3 := Lib.hid (HL2.out.below hb3 (Nat.le_refl _))
      have HOa := Lib.hid (own_stays HO2.out hb3)
      clear hb3 hbad
      go_wp2_with fail
      refine (of_any _ (withoutZ l 1) 1 w3 (rdP_of_own HOa.out) (by have := List.length_filter_le (fun x : PremZ => !(x.player == 1)) l; unfold withoutZ; omega)).mono ?_
      rintro e wa ⟨va, rfl, hoa, hba⟩
      rw [of_without] at hoa
      obtain ⟨aa, ca, rfl⟩ := own_form2 hoa
      have HBa := Lib.hid (below_trans HB3.out hba HB3.out.size)
      have HMa := Lib.hid (HM3.out.stays hba)
      have HLa := Lib.hid (HL3.out.below hba (Nat.le_refl _))
      have HOb := Lib.hid (own_stays HOa.out hba)
      clear hoa hba
      go_wp2_with fail
      refine (of_any _ (withoutZ l 1) (0) wa (rdP_of_own HOb.out) (by have := List.length_filter_le (fun x : PremZ => !(x.player == 1)) l; unfold withoutZ; omega)).mono ?_
      rintro e wb ⟨vb, rfl, hob, hbb⟩
      obtain ⟨ab, cb, rfl⟩ := own_form2 hob
      have HRb := Lib.hid (rdM_of_own hob)
      have HBb := Lib.hid (below_trans HBa.out hbb HBa.out.size)
      have HMb := Lib.hid (HMa.out.stays hbb)
      have HLb := Lib.hid (HLa.out.below hbb (Nat.le_refl _))
      clear hob hbb
      go_wp2_with fail
      refine (of_any _ l (0) wb HLb.out (by omega)).mono ?_
      rintro e wc ⟨vc, rfl, hoc, hbc⟩
      obtain ⟨ac, cc, rfl⟩ := own_form2 hoc
      have HRc := Lib.hid (rdM_of_own hoc)
      have HRd := Lib.hid (HRb.out.below hbc (Nat.le_refl _))
      have HBc := Lib.hid (below_trans HBb.out hbc HBb.out.size)
      have HMc := Lib.hid (HMb.out.stays hbc)
      have HLc := Lib.hid (HLb.out.below hbc (Nat.le_refl _))
      clear hoc hbc
      go_wp2_with fail
      refine (sameLine_any _ _ _ _ wc HRd.out HRc.out (by have := ofZ_len (withoutZ l 1) (0); have := List.length_filter_le (fun x : PremZ => !(x.player == 1)) l; unfold withoutZ at *; omega)).mono ?_
      rintro e wd ⟨rfl, hbd⟩
      rw [of_without_other l 1 0 (by decide)]
      have hdt : decide (ofZ l 0 = ofZ l 0) = true := by simp
      rw [hdt]
      have HBd := Lib.hid (below_trans HBc.out hbd HBc.out.size)
      have HMd := Lib.hid (HMc.out.stays hbd)
      have HLd := Lib.hid (HLc.out.below hbd (Nat.le_refl _))
      clear hbd
      go_wp2_with fail
      go_ret
      exact ⟨rfl, HBd.out⟩
    · have HO3 := Lib.hid ho3
      obtain ⟨a3, c3, rfl⟩ := own_form2 ho3
      have HB3 := Lib.hid (below_trans HB2.out hb3 HB2.out.size)
      have HM3 := Lib.hid (HM2.out.stays hb3)
      have HL3 := Lib.hid (HL2.out.below hb3 (Nat.le_refl _))
      have HOa := Lib.hid (own_stays HO2.out hb3)
      clear hb3 ho3 hok
      go_wp2_with fail
      refine (of_any _ (withoutZ l 1) 1 w3 (rdP_of_own HOa.out) (by have := List.length_filter_le (fun x : PremZ => !(x.player == 1)) l; unfold withoutZ; omega)).mono ?_
      rintro e wa ⟨va, rfl, hoa, hba⟩
      rw [of_without] at hoa
      obtain ⟨aa, ca, rfl⟩ := own_form2 hoa
      have HBa := Lib.hid (below_trans HB3.out hba HB3.out.size)
      have HMa := Lib.hid (HM3.out.stays hba)
      have HLa := Lib.hid (HL3.out.below hba (Nat.le_refl _))
      have HOb := Lib.hid (own_stays HOa.out hba)
      have HOx := Lib.hid (own_stays HO3.out hba)
      clear hoa hba
      go_wp2_with fail
      refine (of_any _ (withoutZ l 1) (0) wa (rdP_of_own HOb.out) (by have := List.length_filter_le (fun x : PremZ => !(x.player == 1)) l; unfold withoutZ; omega)).mono ?_
      rintro e wb ⟨vb, rfl, hob, hbb⟩
      obtain ⟨ab, cb, rfl⟩ := own_form2 hob
      have HRb := Lib.hid (rdM_of_own hob)
      have HBb := Lib.hid (below_trans HBa.out hbb HBa.out.size)
      have HMb := Lib.hid (HMa.out.stays hbb)
      have HLb := Lib.hid (HLa.out.below hbb (Nat.le_refl _))
      have HOy := Lib.hid (own_stays HOx.out hbb)
      clear hob hbb
      go_wp2_with fail
      refine (of_any _ l (0) wb HLb.out (by omega)).mono ?_
      rintro e wc ⟨vc, rfl, hoc, hbc⟩
      obtain ⟨ac, cc, rfl⟩ := own_form2 hoc
      have HRc := Lib.hid (rdM_of_own hoc)
      have HRd := Lib.hid (HRb.out.below hbc (Nat.le_refl _))
      have HBc := Lib.hid (below_trans HBb.out hbc HBb.out.size)
      have HMc := Lib.hid (HMb.out.stays hbc)
      have HLc := Lib.hid (HLb.out.below hbc (Nat.le_refl _))
      have HOz := Lib.hid (own_stays HOy.out hbc)
      clear hoc hbc
      go_wp2_with fail
      refine (sameLine_any _ _ _ _ wc HRd.out HRc.out (by have := ofZ_len (withoutZ l 1) (0); have := List.length_filter_le (fun x : PremZ => !(x.player == 1)) l; unfold withoutZ at *; omega)).mono ?_
      rintro e wd ⟨rfl, hbd⟩
      rw [of_without_other l 1 0 (by decide)]
      have hdt : decide (ofZ l 0 = ofZ l 0) = true := by simp
      rw [hdt]
      have HBd := Lib.hid (below_trans HBc.out hbd HBc.out.size)
      have HMd := Lib.hid (HMc.out.stays hbd)
      have HLd := Lib.hid (HLc.out.below hbd (Nat.le_refl _))
      have HOw := Lib.hid (own_stays HOz.out hbd)
      clear hbd
      clear HO3 HB3 HM3 HL3 HBa HMa HLa HBb HMb HLb HBc HMc HLc HOa HOb HOx HOy HOz HRb HRc HRd
      have HO3 := HOw
      have HB3 := HBd
      have HM3 := HMd
      have HL3 := HLd
      clear HOw HBd HMd HLd
      go_wp2_with fail
      refine (of_any _ (l ++ [⟨1, m⟩]) 1 wd (rdP_of_own (by rw [List.length_append]; exact HO3.out)) (by rw [List.length_append]; simp; omega)).mono ?_
      rintro e w4 ⟨v4, rfl, ho4, hb4⟩
      rw [ofZ_add] at ho4
      rw [List.length_append, List.length_singleton] at ho4
      obtain ⟨go, co, rfl⟩ := own_some ho4 (by omega)
      obtain ⟨n1, hn1⟩ : ∃ n1, n1 = (ofZ l 1).length := ⟨_, rfl⟩
      have HN1 := Lib.hid hn1.symm
      obtain ⟨p0, p1, p2⟩ := flatM_at (ofZ l 1 ++ [m]) n1 (by rw [List.length_append]; simp; omega)
      rw [show (ofZ l 1 ++ [m]).getD n1 default = m by rw [hn1]; simp [List.getD_eq_getElem?_getD]] at p0 p1 p2
      rw [← hn1] at ho4
      have C0 := (ho4.cellAt (n1 * 3) (by omega)).trans p0
      have C1 := (ho4.cellAt (n1 * 3 + 1) (by omega)).trans p1
      have C2 := (ho4.cellAt (n1 * 3 + 2) (by omega)).trans p2
      have HGo := Lib.hid (ho4.lt go rfl).2
      have HB4 := Lib.hid (below_trans HB3.out hb4 HB3.out.size)
      have HM4 := Lib.hid (HM3.out.stays hb4)
      have HL4 := Lib.hid (HL3.out.below hb4 (Nat.le_refl _))
      have hn1b : n1 ≤ 1000 := by have := ofZ_len l (1); omega
      have HC0 := Lib.hid C0
      have HC1 := Lib.hid C1
      have HC2 := Lib.hid C2
      clear ho4 hb4 hn1 p0 p1 p2 C0 C1 C2
      have hw1 : IntKind.i64.wrap ((n1 : Int) + 1) = (n1 : Int) + 1 := IntWalk.i64_in _ (by omega)
      have hw2 : IntKind.i64.wrap ((n1 : Int) + 1 - 1) = (n1 : Int) := by rw [Int.add_sub_cancel]; exact IntWalk.i64_in _ (by omega)
      have hn1l : (n1 : Int) < (n1 : Int) + 1 := by omega
      have hwd : IntKind.i64.wrap (n1 : Int) = (n1 : Int) := IntWalk.i64_in _ (by omega)
      have heqm : ∀ w, (binOp .eql 42 (.agg #[.int .i64 m.src, .int .i64 m.dst, .int .i64 m.piece]) (.agg #[.int .i64 m.src, .int .i64 m.dst, .int .i64 m.piece])).run Try.prog w = .ok (.bool true) w := fun w => by have h := eqlM m m w; rw [show decide (m = m) = true by simp] at h; exact h
      have hcast : (((n1 + 1 : Nat)) : Int) = (n1 : Int) + 1 := by omega
      go_upto_region 11 with (fail)
      generalize w4 = wq at *
      have Bmz : Box wq.drew (w.heap.size) [.int .i64 m.src, .int .i64 m.dst, .int .i64 m.piece] 42 := HM4.out
      have Lz : Below w.heap.size w wq.drew := below_drew' HB4.out
      have Rlz : RdL premEl wq.drew (.slice a l.length c) l := HL4.out.below (below_drew' (Below.refl _ _)) (Nat.le_refl _)
      have GOz : go < wq.drew.heap.size := HGo.out
      have C0z : wq.drew.cell? ⟨go, n1 * 3, none⟩ = some (.int .i64 m.src) := HC0.out
      have C1z : wq.drew.cell? ⟨go, n1 * 3 + 1, none⟩ = some (.int .i64 m.dst) := HC1.out
      have C2z : wq.drew.cell? ⟨go, n1 * 3 + 2, none⟩ = some (.int .i64 m.piece) := HC2.out
      clear HM4 HB4 HL4 HGo HC0 HC1 HC2
      refine wp_region_noPanic ?_
      refine beginL (S := (fun w' => w'.cell? ⟨w.heap.size, 0, none⟩ = some (.int .i64 m.src) ∧ w'.cell? ⟨w.heap.size, 1, none⟩ = some (.int .i64 m.dst) ∧ w'.cell? ⟨w.heap.size, 2, none⟩ = some (.int .i64 m.piece) ∧ w'.cell? ⟨go, n1 * 3, none⟩ = some (.int .i64 m.src) ∧ w'.cell? ⟨go, n1 * 3 + 1, none⟩ = some (.int .i64 m.dst) ∧ w'.cell? ⟨go, n1 * 3 + 2, none⟩ = some (.int .i64 m.piece))) (L := []) (by kernel_rfl) ⟨Bmz.cell 0 rfl, Bmz.cell 1 rfl, Bmz.cell 2 rfl, C0z, C1z, C2z⟩ (fun hHeld => ?_)
      refine takeW (i := 0) (oi := { dst := some 69, op := Op.move (Operand.tmp 11), type := 32, pos := "play.go:141", after := #[], guard := none }) (v := ?va19q) rfl (by kernel_rfl) (by kernel_rfl) (by kernel_rfl) rfl (fun _ _ _ h => h) (Or.inl ⟨by rfl, ?ya19q⟩) (fun _ => by assumption) ?ra19q
      case ya19q => (intro w _; go_simp; first | done | (with_reducible rfl))
      try simp only [Act.put, List.setIfInBounds_toArray, List.set_cons_zero, List.set_cons_succ]
      refine takeW (i := 2) (oi := { dst := some 71, op := Op.move (Operand.tmp 0), type := 62, pos := "play.go:141", after := #[], guard := none }) (v := ?va20q) rfl (by kernel_rfl) (by kernel_rfl) (by kernel_rfl) rfl (fun _ _ _ h => h) (Or.inl ⟨by rfl, ?ya20q⟩) (fun _ => by assumption) ?ra20q
      case ya20q => (intro w _; go_simp; first | done | (with_reducible rfl))
      try simp only [Act.put, List.setIfInBounds_toArray, List.set_cons_zero, List.set_cons_succ]
      refine takeW (i := 3) (oi := { dst := some 72, op := Op.move (Operand.tmp 1), type := 3, pos := "play.go:141", after := #[], guard := none }) (v := ?va21q) rfl (by kernel_rfl) (by kernel_rfl) (by kernel_rfl) rfl (fun _ _ _ h => h) (Or.inl ⟨by rfl, ?ya21q⟩) (fun _ => by assumption) ?ra21q
      case ya21q => (intro w _; go_simp; first | done | (with_reducible rfl))
      try simp only [Act.put, List.setIfInBounds_toArray, List.set_cons_zero, List.set_cons_succ]
      refine takeW (i := 1) (oi := { dst := some 70, op := Op.call { callee := Callee.builtin Builtin.len, args := #[Operand.tmp 69], argTypes := #[32] }, type := 3, pos := "play.go:141", after := #[{ on := 0, ground := Ground.data }], guard := none }) (v := ?va22q) rfl (by kernel_rfl) (by kernel_rfl) (by kernel_rfl) rfl (fun _ _ _ h => h) (Or.inl ⟨by rfl, ?ya22q⟩) (fun _ => by assumption) ?ra22q
      case ya22q => (intro w _; go_simp; first | done | (with_reducible rfl))
      try simp only [Act.put, List.setIfInBounds_toArray, List.set_cons_zero, List.set_cons_succ]
      refine readyL (rs := [4]) (by kernel_rfl) (by simp) ?_
      refine (AllReadyL.cons (o := { dst := some 73, op := Op.call { callee := Callee.value (Operand.func 39), args := #[Operand.tmp 71, Operand.tmp 72], argTypes := #[62, 3] }, type := 32, pos := "play.go:141", after := #[{ on := 2, ground := Ground.data }, { on := 3, ground := Ground.data }], guard := none }) rfl (fun K hK => ?_) AllReadyL.nil)
      go_simp
      refine (of_any _ l 1 _ Rlz (by omega)).mono ?_
      rintro e w4 ⟨v4, rfl, ho4, hb4⟩
      obtain ⟨a4, c4, rfl⟩ := own_form2 ho4
      have Bm4 := Bmz.stays hb4
      have L4 := below_trans Lz hb4 Lz.size
      have C04 := (hb4.cell GOz).trans C0z
      have C14 := (hb4.cell GOz).trans C1z
      have C24 := (hb4.cell GOz).trans C2z
      rw [HN1.out]
      clear hb4 ho4
      refine hK.out _ _ ⟨Bm4.cell 0 rfl, Bm4.cell 1 rfl, Bm4.cell 2 rfl, C04, C14, C24⟩ (fun hHeld => ?_)
      clear hK K
      try simp only [Act.put, List.setIfInBounds_toArray, List.set_cons_zero, List.set_cons_succ]
      refine takeW (i := 5) (oi := { dst := some 74, op := Op.call { callee := Callee.builtin Builtin.len, args := #[Operand.tmp 73], argTypes := #[32] }, type := 3, pos := "play.go:141", after := #[{ on := 4, ground := Ground.data }], guard := none }) (v := ?va23q) rfl (by kernel_rfl) (by kernel_rfl) (by kernel_rfl) rfl (fun _ _ _ h => h) (Or.inl ⟨by rfl, ?ya23q⟩) (fun _ => by assumption) ?ra23q
      case ya23q => (intro w _; go_simp; first | done | (with_reducible rfl))
      try simp only [Act.put, List.setIfInBounds_toArray, List.set_cons_zero, List.set_cons_succ]
      refine takeW (i := 6) (oi := { dst := some 75, op := Op.binOp BinOp.add 3 (Operand.tmp 74) (Operand.const (Value.int IntKind.i64 1)) 3, type := 3, pos := "play.go:141", after := #[{ on := 5, ground := Ground.data }], guard := none }) (v := ?va24q) rfl (by kernel_rfl) (by kernel_rfl) (by kernel_rfl) rfl (fun _ _ _ h => h) (Or.inl ⟨by rfl, ?ya24q⟩) (fun _ => by assumption) ?ra24q
      case ya24q => (intro w _; go_simp; first | done | (with_reducible rfl))
      try simp only [Act.put, List.setIfInBounds_toArray, List.set_cons_zero, List.set_cons_succ]
      refine takeW (i := 7) (oi := { dst := some 76, op := Op.binOp BinOp.eql 3 (Operand.tmp 70) (Operand.tmp 75) 3, type := 4, pos := "play.go:141", after := #[{ on := 1, ground := Ground.data }, { on := 6, ground := Ground.data }], guard := none }) (v := ?va25q) rfl (by kernel_rfl) (by kernel_rfl) (by kernel_rfl) rfl (fun _ _ _ h => h) (Or.inl ⟨by rfl, ?ya25q⟩) (fun _ => by assumption) ?ra25q
      case ya25q => (intro w _; go_simp; first | done | (with_reducible rfl))
      try simp only [Act.put, List.setIfInBounds_toArray, List.set_cons_zero, List.set_cons_succ]
      refine takeW (i := 8) (oi := { dst := some 77, op := Op.move (Operand.tmp 76), type := 4, pos := "play.go:141", after := #[{ on := 7, ground := Ground.data }, { on := 4, ground := Ground.chain }], guard := none }) (v := ?va26q) rfl (by kernel_rfl) (by kernel_rfl) (by kernel_rfl) rfl (fun _ _ _ h => h) (Or.inl ⟨by rfl, ?ya26q⟩) (fun _ => by assumption) ?ra26q
      case ya26q => (intro w _; go_simp; first | done | (with_reducible rfl))
      try simp only [Act.put, List.setIfInBounds_toArray, List.set_cons_zero, List.set_cons_succ]
      refine takeW (i := 9) (oi := { dst := some 78, op := Op.move (Operand.tmp 11), type := 32, pos := "play.go:141", after := #[{ on := 8, ground := Ground.guard }], guard := some (8, true) }) (v := ?va27q) rfl (by kernel_rfl) (by kernel_rfl) (by kernel_rfl) rfl (fun _ _ _ h => h) (Or.inl ⟨by rfl, ?ya27q⟩) (fun _ => by assumption) ?ra27q
      case ya27q => (intro w _; go_simp; first | done | (with_reducible rfl))
      try simp only [Act.put, List.setIfInBounds_toArray, List.set_cons_zero, List.set_cons_succ]
      refine takeW (i := 10) (oi := { dst := some 79, op := Op.move (Operand.tmp 11), type := 32, pos := "play.go:141", after := #[{ on := 8, ground := Ground.guard }], guard := some (8, true) }) (v := ?va28q) rfl (by kernel_rfl) (by kernel_rfl) (by kernel_rfl) rfl (fun _ _ _ h => h) (Or.inl ⟨by rfl, ?ya28q⟩) (fun _ => by assumption) ?ra28q
      case ya28q => (intro w _; go_simp; first | done | (with_reducible rfl))
      try simp only [Act.put, List.setIfInBounds_toArray, List.set_cons_zero, List.set_cons_succ]
      refine takeL (i := 15) (oi := { dst := some 84, op := Op.load 42 (Operand.tmp 5), type := 42, pos := "play.go:141", after := #[{ on := 8, ground := Ground.guard }], guard := some (8, true) }) (v := ?va29q) rfl (by kernel_rfl) (by kernel_rfl) (by kernel_rfl) (by kernel_rfl) rfl (by kernel_rfl) (by kernel_rfl) (fun _ _ _ h => h) (Or.inl ⟨by rfl, ?ya29q⟩) (by assumption) ?ra29q
      case ya29q => (intro w hSw; (try dsimp only at hSw); go_simp; first | done | (with_reducible rfl))
      try simp only [Act.put, List.setIfInBounds_toArray, List.set_cons_zero, List.set_cons_succ]
      refine takeW (i := 11) (oi := { dst := some 80, op := Op.call { callee := Callee.builtin Builtin.len, args := #[Operand.tmp 79], argTypes := #[32] }, type := 3, pos := "play.go:141", after := #[{ on := 10, ground := Ground.data }, { on := 8, ground := Ground.guard }], guard := some (8, true) }) (v := ?va30q) rfl (by kernel_rfl) (by kernel_rfl) (by kernel_rfl) rfl (fun _ _ _ h => h) (Or.inl ⟨by rfl, ?ya30q⟩) (fun _ => by assumption) ?ra30q
      case ya30q => (intro w _; go_simp; first | done | (with_reducible rfl))
      try simp only [Act.put, List.setIfInBounds_toArray, List.set_cons_zero, List.set_cons_succ]
      refine takeW (i := 12) (oi := { dst := some 81, op := Op.binOp BinOp.sub 3 (Operand.tmp 80) (Operand.const (Value.int IntKind.i64 1)) 3, type := 3, pos := "play.go:141", after := #[{ on := 11, ground := Ground.data }, { on := 8, ground := Ground.guard }], guard := some (8, true) }) (v := ?va31q) rfl (by kernel_rfl) (by kernel_rfl) (by kernel_rfl) rfl (fun _ _ _ h => h) (Or.inl ⟨by rfl, ?ya31q⟩) (fun _ => by assumption) ?ra31q
      case ya31q => (intro w _; go_simp; first | done | (with_reducible rfl))
      try simp only [Act.put, List.setIfInBounds_toArray, List.set_cons_zero, List.set_cons_succ]
      refine takeW (i := 13) (oi := { dst := some 82, op := Op.indexAddr 32 (Operand.tmp 78) (Operand.tmp 81), type := 0, pos := "play.go:141", after := #[{ on := 9, ground := Ground.data }, { on := 12, ground := Ground.data }, { on := 8, ground := Ground.guard }], guard := some (8, true) }) (v := ?va32q) rfl (by kernel_rfl) (by kernel_rfl) (by kernel_rfl) rfl (fun _ _ _ h => h) (Or.inl ⟨by rfl, ?ya32q⟩) (fun _ => by assumption) ?ra32q
      case ya32q => (intro w _; go_simp; first | done | (with_reducible rfl))
      try simp only [Act.put, List.setIfInBounds_toArray, List.set_cons_zero, List.set_cons_succ]
      refine takeL (i := 14) (oi := { dst := some 83, op := Op.load 42 (Operand.tmp 82), type := 42, pos := "play.go:141", after := #[{ on := 13, ground := Ground.data }, { on := 8, ground := Ground.guard }], guard := some (8, true) }) (v := ?va33q) rfl (by kernel_rfl) (by kernel_rfl) (by kernel_rfl) (by kernel_rfl) rfl (by kernel_rfl) (by kernel_rfl) (fun _ _ _ h => h) (Or.inl ⟨by rfl, ?ya33q⟩) (by assumption) ?ra33q
      case ya33q => (intro w hSw; (try dsimp only at hSw); go_simp; first | done | (with_reducible rfl))
      try simp only [Act.put, List.setIfInBounds_toArray, List.set_cons_zero, List.set_cons_succ]
      refine takeW (i := 16) (oi := { dst := some 85, op := Op.binOp BinOp.eql 42 (Operand.tmp 83) (Operand.tmp 84) 42, type := 4, pos := "play.go:141", after := #[{ on := 14, ground := Ground.data }, { on := 15, ground := Ground.data }, { on := 8, ground := Ground.guard }], guard := some (8, true) }) (v := ?va34q) rfl (by kernel_rfl) (by kernel_rfl) (by kernel_rfl) rfl (fun _ _ _ h => h) (Or.inl ⟨by rfl, ?ya34q⟩) (fun _ => by assumption) ?ra34q
      case ya34q => (intro w _; go_simp; first | done | (with_reducible rfl))
      try simp only [Act.put, List.setIfInBounds_toArray, List.set_cons_zero, List.set_cons_succ]
      refine takeW (i := 17) (oi := { dst := some 86, op := Op.pick (Operand.tmp 77) (Operand.tmp 85) (Operand.const (Value.bool false)), type := 4, pos := "play.go:141", after := #[{ on := 8, ground := Ground.data }, { on := 16, ground := Ground.data }], guard := none }) (v := ?va35q) rfl (by kernel_rfl) (by kernel_rfl) (by kernel_rfl) rfl (fun _ _ _ h => h) (Or.inl ⟨by rfl, ?ya35q⟩) (fun _ => by assumption) ?ra35q
      case ya35q => (intro w _; go_simp; first | done | (with_reducible rfl))
      try simp only [Act.put, List.setIfInBounds_toArray, List.set_cons_zero, List.set_cons_succ]
      refine takeW (i := 18) (oi := { dst := some 6, op := Op.assign (Operand.tmp 86), type := 4, pos := "play.go:141", after := #[{ on := 17, ground := Ground.data }, { on := 8, ground := Ground.chain }, { on := 0, ground := Ground.phase }, { on := 1, ground := Ground.phase }, { on := 2, ground := Ground.phase }, { on := 3, ground := Ground.phase }, { on := 4, ground := Ground.phase }, { on := 5, ground := Ground.phase }, { on := 6, ground := Ground.phase }, { on := 7, ground := Ground.phase }, { on := 8, ground := Ground.phase }, { on := 9, ground := Ground.phase }, { on := 10, ground := Ground.phase }, { on := 11, ground := Ground.phase }, { on := 12, ground := Ground.phase }, { on := 13, ground := Ground.phase }, { on := 14, ground := Ground.phase }, { on := 15, ground := Ground.phase }, { on := 16, ground := Ground.phase }, { on := 17, ground := Ground.phase }], guard := none }) (v := ?va36q) rfl (by kernel_rfl) (by kernel_rfl) (by kernel_rfl) rfl (fun _ _ _ h => h) (Or.inl ⟨by rfl, ?ya36q⟩) (fun _ => by assumption) ?ra36q
      case ya36q => (intro w _; go_simp; first | done | (with_reducible rfl))
      try simp only [Act.put, List.setIfInBounds_toArray, List.set_cons_zero, List.set_cons_succ]
      refine doneL (by kernel_rfl) ?_ _
      refine NoPanic.normal ?_
      have HL4z := Lib.hid L4
      go_wp2_with fail
      go_ret
      exact ⟨rfl, HL4z.out⟩
  have HP : Hid (pl ≠ 0 ∧ pl ≠ 1) := Lib.hid ⟨hp0, hp1⟩
  have q0 : (pl == 0) = false := by simpa using hp0
  have q1 : (pl == 1) = false := by simpa using hp1
  obtain ⟨q, hq⟩ : ∃ q, IntKind.i64.wrap (1 - pl) = q := ⟨_, rfl⟩
  clear hp0 hp1
  go_wp2_with fail
  refine (Add_any _ l pl m w2 HL2.out (by omega)).mono ?_
  rintro e w3 (⟨hbad, rfl, hb3⟩ | ⟨hok, v3, rfl, ho3, hb3⟩)
  · have hf : (addErr l (pl) != 0) = true := by simpa using hbad
    have HB3 := Lib.hid (below_trans HB2.out hb3 HB2.out.size)
    have HM3 := Lib.hid (HM2.out.stays hb3)
    have HL3 := Lib.hid (HL2.out.below hb3 (Nat.le_refl _))
    have HOa := Lib.hid (own_stays HO2.out hb3)
    clear hb3 hbad
    go_wp2_with fail
    refine (of_any _ (withoutZ l pl) pl w3 (rdP_of_own HOa.out) (by have := List.length_filter_le (fun x : PremZ => !(x.player == pl)) l; unfold withoutZ; omega)).mono ?_
    rintro e wa ⟨va, rfl, hoa, hba⟩
    rw [of_without] at hoa
    obtain ⟨aa, ca, rfl⟩ := own_form2 hoa
    have HBa := Lib.hid (below_trans HB3.out hba HB3.out.size)
    have HMa := Lib.hid (HM3.out.stays hba)
    have HLa := Lib.hid (HL3.out.below hba (Nat.le_refl _))
    have HOb := Lib.hid (own_stays HOa.out hba)
    clear hoa hba
    go_wp2_with fail
    refine (of_any _ (withoutZ l pl) (q) wa (rdP_of_own HOb.out) (by have := List.length_filter_le (fun x : PremZ => !(x.player == pl)) l; unfold withoutZ; omega)).mono ?_
    rintro e wb ⟨vb, rfl, hob, hbb⟩
    obtain ⟨ab, cb, rfl⟩ := own_form2 hob
    have HRb := Lib.hid (rdM_of_own hob)
    have HBb := Lib.hid (below_trans HBa.out hbb HBa.out.size)
    have HMb := Lib.hid (HMa.out.stays hbb)
    have HLb := Lib.hid (HLa.out.below hbb (Nat.le_refl _))
    clear hob hbb
    go_wp2_with fail
    refine (of_any _ l (q) wb HLb.out (by omega)).mono ?_
    rintro e wc ⟨vc, rfl, hoc, hbc⟩
    obtain ⟨ac, cc, rfl⟩ := own_form2 hoc
    have HRc := Lib.hid (rdM_of_own hoc)
    have HRd := Lib.hid (HRb.out.below hbc (Nat.le_refl _))
    have HBc := Lib.hid (below_trans HBb.out hbc HBb.out.size)
    have HMc := Lib.hid (HMb.out.stays hbc)
    have HLc := Lib.hid (HLb.out.below hbc (Nat.le_refl _))
    clear hoc hbc
    go_wp2_with fail
    refine (sameLine_any _ _ _ _ wc HRd.out HRc.out (by have := ofZ_len (withoutZ l pl) (q); have := List.length_filter_le (fun x : PremZ => !(x.player == pl)) l; unfold withoutZ at *; omega)).mono ?_
    rintro e wd ⟨rfl, hbd⟩
    have HBd := Lib.hid (below_trans HBc.out hbd HBc.out.size)
    have HMd := Lib.hid (HMc.out.stays hbd)
    have HLd := Lib.hid (HLc.out.below hbd (Nat.le_refl _))
    clear hbd
    generalize decide (ofZ (withoutZ l pl) q = ofZ l q) = bb at *
    cases bb
    · go_wp2_with fail
      go_ret
      exact ⟨rfl, HBd.out⟩
    · go_wp2_with fail
      go_ret
      exact ⟨rfl, HBd.out⟩
  · exact absurd hok (by rw [addErr, if_neg (by rw [HE.out]; simp), if_pos HP.out]; decide)

end Go.Proofs.Ytkfaibdflbdpgaa.premoveClears

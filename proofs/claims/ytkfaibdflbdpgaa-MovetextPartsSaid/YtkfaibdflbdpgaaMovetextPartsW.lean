/- The walk of the law MovetextParts. -/
import Derived.Test.YtkfaibdflbdpgaaMq2
import Derived.Test.YtkfaibdflbdpgaaCq1
namespace Go.Proofs.Ytkfaibdflbdpgaa.movetextParts
open Go.ChangeShapes Go.WideShapes Go.ChangeAt Go.RowKit
set_option linter.unusedVariables false

theorem lineT_take (R : RulesZ) (l : List MoveZ) (n : Nat) (h : n ≤ l.length) : lineT R (l.take n) (l.take n).length = (lineT R l l.length).take n := by
  have hl : (l.take n).length = n := by rw [List.length_take]; omega
  rw [hl]
  unfold lineT
  rw [← List.map_take, List.take_range, Nat.min_eq_left h]
  refine List.map_congr_left fun j hj => ?_
  have hj' := List.mem_range.1 hj
  unfold textAt
  rw [List.take_take, Nat.min_eq_left (by omega), show (l.take n).getD j default = l.getD j default by rw [List.getD_eq_getElem?_getD, List.getD_eq_getElem?_getD, List.getElem?_take, if_pos (by omega)]]
theorem join_size_pos (sep : ByteArray) : ∀ (xs : List ByteArray), xs ≠ [] → (∀ x ∈ xs, 1 ≤ x.size) → 1 ≤ (joinT sep xs).size
  | [], h, _ => absurd rfl h
  | [x], _, h => h x (by simp)
  | x :: y :: t, _, h => by
    unfold joinT
    rw [ByteArray.size_append, ByteArray.size_append]
    have := h x (by simp)
    omega
theorem join_size_le (sep : ByteArray) (hs : sep.size ≤ 10) : ∀ (xs : List ByteArray), (∀ x ∈ xs, x.size ≤ 100) → (joinT sep xs).size ≤ 110 * xs.length
  | [], _ => by simp [joinT]
  | [x], h => by have := h x (by simp); unfold joinT; simp; omega
  | x :: y :: t, h => by
    have ih := join_size_le sep hs (y :: t) (fun z hz => h z (by simp only [List.mem_cons] at hz ⊢; exact .inr hz))
    have := h x (by simp)
    unfold joinT
    rw [ByteArray.size_append, ByteArray.size_append]
    simp only [List.length_cons] at ih ⊢
    omega
/-- the text of the first elements begins the text; it is the whole just if there are no others. -/
theorem join_take (sep : ByteArray) : ∀ (xs : List ByteArray) (n : Nat), n ≤ xs.length → (∀ x ∈ xs, 1 ≤ x.size) → ∃ r : ByteArray, joinT sep xs = joinT sep (xs.take n) ++ r ∧ (n = xs.length ↔ r.size = 0)
  | xs, 0, _, hx => by
    refine ⟨joinT sep xs, by simp [joinT], ?_⟩
    cases xs with
    | nil => simp [joinT]
    | cons x t =>
      have := join_size_pos sep (x :: t) (by simp) hx
      simp only [List.length_cons]
      omega
  | [], n + 1, h, _ => by simp at h
  | [x], n + 1, h, _ => by
    obtain rfl : n = 0 := by simpa using h
    exact ⟨ByteArray.empty, by simp [joinT], by simp⟩
  | x :: y :: t, n + 1, h, hx => by
    cases n with
    | zero =>
      refine ⟨sep ++ joinT sep (y :: t), by simp [joinT, ByteArray.append_assoc], ?_⟩
      have := join_size_pos sep (y :: t) (by simp) (fun z hz => hx z (by simp only [List.mem_cons] at hz ⊢; exact .inr hz))
      rw [ByteArray.size_append]
      simp only [List.length_cons]
      omega
    | succ n =>
      obtain ⟨r, e, hr⟩ := join_take sep (y :: t) (n + 1) (by simpa using h) (fun z hz => hx z (by simp only [List.mem_cons] at hz ⊢; exact .inr hz))
      refine ⟨r, ?_, ?_⟩
      · rw [show joinT sep (x :: y :: t) = x ++ sep ++ joinT sep (y :: t) by rfl, e]
        rw [List.take_succ_cons, List.take_succ_cons]
        rw [List.take_succ_cons]
        rw [show joinT sep (x :: y :: t.take n) = x ++ sep ++ joinT sep (y :: t.take n) by rfl]
        simp only [ByteArray.append_assoc]
      · rw [← hr]
        simp only [List.length_cons]
        omega
/-- what the law says. -/
theorem parts_law {R : RulesZ} {l : List MoveZ} {n : Nat} (hn : n ≤ l.length) (hl : l.length ≤ 40) (h : runErr R l = 0) : runErr R (l.take n) = 0 ∧
    ∃ r : ByteArray, joinT ⟨#[32]⟩ (lineT R l l.length) = joinT ⟨#[32]⟩ (lineT R (l.take n) (l.take n).length) ++ r ∧ (n = l.length ↔ r.size = 0) ∧ (joinT ⟨#[32]⟩ (lineT R l l.length)).size ≤ 4400 := by
  obtain ⟨hr, hp, hla, hpre⟩ := run_ok h
  have hsz : ∀ x ∈ lineT R l l.length, 1 ≤ x.size ∧ x.size ≤ 20 := by
    intro x hx
    unfold lineT at hx
    obtain ⟨j, hj, rfl⟩ := List.mem_map.1 hx
    have hj' := List.mem_range.1 hj
    exact ofT_size (let_ok hr) (posAt_ok (begin_ok hr) hla j (by omega)) (hla j hj')
  refine ⟨hpre n hn, ?_⟩
  rw [lineT_take R l n hn]
  obtain ⟨r, e, hrr⟩ := join_take ⟨#[32]⟩ (lineT R l l.length) n (by rw [lineT_len]; exact hn) (fun x hx => (hsz x hx).1)
  rw [lineT_len] at hrr
  have hs := join_size_le ⟨#[32]⟩ (by decide) (lineT R l l.length) (fun x hx => by have := (hsz x hx).2; omega)
  rw [lineT_len] at hs
  exact ⟨r, e, hrr, by omega⟩
theorem ext_left (a b : ByteArray) : (a ++ b).extract 0 a.size = a := by rw [ByteArray.extract_append_size_left, ByteArray.extract_zero_size]
theorem clampM (n : Int) (L : Nat) : ∃ k : Nat, k ≤ L ∧ (if 0 < (if (L : Int) < n then (L : Int) else n) then (if (L : Int) < n then (L : Int) else n) else 0) = (k : Int) := by
  by_cases h1 : (L : Int) < n
  · rw [if_pos h1]
    by_cases h2 : 0 < (L : Int)
    · exact ⟨L, Nat.le_refl _, by rw [if_pos h2]⟩
    · exact ⟨0, Nat.zero_le _, by rw [if_neg h2]; rfl⟩
  · rw [if_neg h1]
    by_cases h2 : 0 < n
    · exact ⟨n.toNat, by omega, by rw [if_pos h2]; omega⟩
    · exact ⟨0, Nat.zero_le _, by rw [if_neg h2]; rfl⟩

set_option maxRecDepth 100000 in
set_option maxHeartbeats 8000000 in
theorem walk (HS : SortMvSaid) (HJ : JoinSaid) (R : RulesZ) (vp vs ve : Value) (v : Value) (l0 : List MoveZ) (n : Int) (w : World) (hr : RdR w R vp vs ve) (hnm : R.name.size ≤ maxLen) (h : RdL moveEl w v l0) :
    Calls Try.prog 10 #[(.agg #[.string R.name, .int .i64 R.width, .int .i64 R.height, vp, vs, .bool R.falls, .bool R.keeps, ve, .int .i64 R.blocked, .int .i64 R.quiet, .int .i64 R.rept]), v, .int .i64 n] w fun e w' => e = .returned (.bool true) ∧ Below w.heap.size w w' := by
  have HSh := Lib.hid HS
  have HJh := Lib.hid HJ
  have HR := Lib.hid hr
  have HN := Lib.hid hnm
  have HL := Lib.hid h
  clear h HS hr hnm HJ
  go_enter Try.func10, Try.ntmps10
  go_upto_region 1 with (fail)
  have B0 : Box (w.alloc (.cells #[.string R.name, .int .i64 R.width, .int .i64 R.height, vp, vs, .bool R.falls, .bool R.keeps, ve, .int .i64 R.blocked, .int .i64 R.quiet, .int .i64 R.rept] 26)) (w.heap.size) [.string R.name, .int .i64 R.width, .int .i64 R.height, vp, vs, .bool R.falls, .bool R.keeps, ve, .int .i64 R.blocked, .int .i64 R.quiet, .int .i64 R.rept] 26 := (Box.new' w (w.heap.size) [.string R.name, .int .i64 R.width, .int .i64 R.height, vp, vs, .bool R.falls, .bool R.keeps, ve, .int .i64 R.blocked, .int .i64 R.quiet, .int .i64 R.rept] 26 (by simp <;> omega))
  have HB : Hid (Below w.heap.size w (w.alloc (.cells #[.string R.name, .int .i64 R.width, .int .i64 R.height, vp, vs, .bool R.falls, .bool R.keeps, ve, .int .i64 R.blocked, .int .i64 R.quiet, .int .i64 R.rept] 26))) := Lib.hid ((Below.refl w.heap.size w).alloc (Nat.le_refl _) _)
  have hz0 : w.heap.size < (w.alloc (.cells #[.string R.name, .int .i64 R.width, .int .i64 R.height, vp, vs, .bool R.falls, .bool R.keeps, ve, .int .i64 R.blocked, .int .i64 R.quiet, .int .i64 R.rept] 26)).heap.size := by simp
  generalize (w.alloc (.cells #[.string R.name, .int .i64 R.width, .int .i64 R.height, vp, vs, .bool R.falls, .bool R.keeps, ve, .int .i64 R.blocked, .int .i64 R.quiet, .int .i64 R.rept] 26)) = w0 at *
  have HRw := Lib.hid (HR.out.below HB.out (Nat.le_refl _))
  have HLw := Lib.hid (HL.out.below HB.out (Nat.le_refl _))
  have HX0 := Lib.hid B0
  clear B0
  go_wp2_with fail
  refine (writes_any HSh.out w0).mono ?_
  rintro e w1 ⟨rfl, hb1⟩
  have HB1 := Lib.hid (below_trans HB.out hb1 HB.out.size)
  have HX1 := Lib.hid (HX0.out.stays hb1)
  have HL1 := Lib.hid (HLw.out.below hb1 (Nat.le_refl _))
  clear hb1 HX0 HLw HRw HL HB hz0
  go_wp2_with fail
  refine (cut_any v l0 w1 HL1.out).mono ?_
  rintro e w2 ⟨rfl, v2, rfl, hl2⟩
  obtain ⟨l, hl⟩ : ∃ l, l = l0.take 40 := ⟨_, rfl⟩
  have hl40 : l.length ≤ 40 := by rw [hl, List.length_take]; omega
  rw [← hl] at hl2
  obtain ⟨a, c, rfl, h1, h2⟩ := hl2.form
  unfold maxLen at h2
  have HL2 := Lib.hid hl2
  clear hl hl2 HL1
  obtain ⟨k, hk, hkk⟩ := clampM n l.length
  obtain ⟨mn, hmn⟩ : ∃ mn, (if (l.length : Int) < n then (l.length : Int) else n) = mn := ⟨_, rfl⟩
  rw [hmn] at hkk
  go_upto_region 5 with (fail)
  clear hmn hkk
  refine wp_region_lit ?_
  refine wpList_load_box (by rfl) 26 (.tmp 3) (by rfl) (w.heap.size) (by rfl) HX1.out Try.underlying26 (by rfl) (by kernel_rfl) ?_
  go_wp2_with fail
  refine (great_anyG R vp vs ve w2 (HR.out.2.1.below HB1.out (Nat.le_refl _))).mono ?_
  rintro e w3 ⟨rfl, hb3⟩
  have HB3 := Lib.hid (below_trans HB1.out hb3 HB1.out.size)
  have HX3 := Lib.hid (HX1.out.stays hb3)
  have HM3 := Lib.hid hb3
  clear hb3 HX1
  generalize decide (20 < (R.start.length : Int)) = gr at *
  cases gr
  rotate_left
  · go_wp2_with fail
    go_ret
    exact ⟨rfl, HB3.out⟩
  go_upto_region 7 with (fail)
  refine wp_region_lit ?_
  refine wpList_load_box (by rfl) 26 (.tmp 3) (by rfl) (w.heap.size) (by rfl) HX3.out Try.underlying26 (by rfl) (by kernel_rfl) ?_
  go_wp2_with fail
  refine (Line_any HSh.out HJh.out R vp vs ve _ l w3 (HR.out.below HB3.out (Nat.le_refl _)) HN.out (HL2.out.below HM3.out (Nat.le_refl _))).mono ?_
  rintro e w4 ⟨he4, hb4⟩
  obtain ⟨s, hs⟩ : ∃ s, s = (if runErr R l = 0 then joinT ⟨#[32]⟩ (lineT R l l.length) else ByteArray.empty) := ⟨_, rfl⟩
  obtain ⟨er, her⟩ : ∃ er, er = runErr R l := ⟨_, rfl⟩
  rw [← hs, ← her] at he4
  subst he4
  have HSS := Lib.hid hs
  have HER := Lib.hid her
  have HB4 := Lib.hid (below_trans HB3.out hb4 HB3.out.size)
  have HX4 := Lib.hid (HX3.out.stays hb4)
  have HM4 := Lib.hid (below_trans HM3.out hb4 HM3.out.size)
  clear hs her hb4 HB3 HX3 HM3
  have hsl : ∀ w' : World, (Instr.slice 32 (.slice a l.length c) none (some (.int .i64 (k : Int))) none).run Try.prog w' = .ok (.slice a k c) w' := fun w' =>
    run_take (P := Try.prog) (t := 32) (s := 3) Try.underlying32 (fun w => by kernel_rfl) a l.length c k (by omega) w'
  go_upto_region 8 with (fail)
  generalize w4 = wq at *
  have Bz : Box wq.drew w.heap.size [.string R.name, .int .i64 R.width, .int .i64 R.height, vp, vs, .bool R.falls, .bool R.keeps, ve, .int .i64 R.blocked, .int .i64 R.quiet, .int .i64 R.rept] 26 := HX4.out
  have Lz : Below w.heap.size w wq.drew := below_drew' HB4.out
  have Mz : Below w2.heap.size w2 wq.drew := below_drew' HM4.out
  have HTL : Hid ((l.take k).length = k) := Lib.hid (by rw [List.length_take]; omega)
  obtain ⟨t, ht⟩ : ∃ t, t = (if runErr R (l.take k) = 0 then joinT ⟨#[32]⟩ (lineT R (l.take k) (l.take k).length) else ByteArray.empty) := ⟨_, rfl⟩
  obtain ⟨ft, hft⟩ : ∃ ft, ft = runErr R (l.take k) := ⟨_, rfl⟩
  have HTT := Lib.hid ht
  have HFT := Lib.hid hft
  clear HX4 HB4 HM4 ht hft
  refine wp_region_noPanic ?_
  refine beginL (S := (fun w' => w'.cell? ⟨w.heap.size, 0, none⟩ = some (.string R.name) ∧ w'.cell? ⟨w.heap.size, 1, none⟩ = some (.int .i64 R.width) ∧ w'.cell? ⟨w.heap.size, 2, none⟩ = some (.int .i64 R.height) ∧ w'.cell? ⟨w.heap.size, 3, none⟩ = some vp ∧ w'.cell? ⟨w.heap.size, 4, none⟩ = some vs ∧ w'.cell? ⟨w.heap.size, 5, none⟩ = some (.bool R.falls) ∧ w'.cell? ⟨w.heap.size, 6, none⟩ = some (.bool R.keeps) ∧ w'.cell? ⟨w.heap.size, 7, none⟩ = some ve ∧ w'.cell? ⟨w.heap.size, 8, none⟩ = some (.int .i64 R.blocked) ∧ w'.cell? ⟨w.heap.size, 9, none⟩ = some (.int .i64 R.quiet) ∧ w'.cell? ⟨w.heap.size, 10, none⟩ = some (.int .i64 R.rept))) (L := []) (by kernel_rfl) ⟨Bz.cell 0 rfl, Bz.cell 1 rfl, Bz.cell 2 rfl, Bz.cell 3 rfl, Bz.cell 4 rfl, Bz.cell 5 rfl, Bz.cell 6 rfl, Bz.cell 7 rfl, Bz.cell 8 rfl, Bz.cell 9 rfl, Bz.cell 10 rfl⟩ (fun hHeld => ?_)
  refine takeL (i := 0) (oi := { dst := some 29, op := Op.load 26 (Operand.tmp 3), type := 26, pos := "games.go:113", after := #[], guard := none }) (v := ?va1) rfl (by kernel_rfl) (by kernel_rfl) (by kernel_rfl) (by kernel_rfl) rfl (by kernel_rfl) (by kernel_rfl) (fun _ _ _ h => h) (Or.inl ⟨by rfl, ?ya1⟩) (by assumption) ?ra1
  case ya1 => (intro w hSw; (try dsimp only at hSw); go_simp; first | done | (with_reducible rfl))
  try simp only [Act.put, List.setIfInBounds_toArray, List.set_cons_zero, List.set_cons_succ]
  refine takeW (i := 1) (oi := { dst := some 30, op := Op.move (Operand.tmp 1), type := 32, pos := "games.go:113", after := #[], guard := none }) (v := ?va2) rfl (by kernel_rfl) (by kernel_rfl) (by kernel_rfl) rfl (fun _ _ _ h => h) (Or.inl ⟨by rfl, ?ya2⟩) (fun _ => by assumption) ?ra2
  case ya2 => (intro w _; go_simp; first | done | (with_reducible rfl) | (rw [if_neg (by omega)]))
  try simp only [Act.put, List.setIfInBounds_toArray, List.set_cons_zero, List.set_cons_succ]
  refine takeW (i := 2) (oi := { dst := some 31, op := Op.move (Operand.tmp 2), type := 3, pos := "games.go:113", after := #[], guard := none }) (v := ?va3) rfl (by kernel_rfl) (by kernel_rfl) (by kernel_rfl) rfl (fun _ _ _ h => h) (Or.inl ⟨by rfl, ?ya3⟩) (fun _ => by assumption) ?ra3
  case ya3 => (intro w _; go_simp; first | done | (with_reducible rfl) | (rw [if_neg (by omega)]))
  try simp only [Act.put, List.setIfInBounds_toArray, List.set_cons_zero, List.set_cons_succ]
  refine takeW (i := 3) (oi := { dst := some 32, op := Op.slice 32 (Operand.tmp 30) none (some (Operand.tmp 31)) none, type := 32, pos := "games.go:113", after := #[{ on := 1, ground := Ground.data }, { on := 2, ground := Ground.data }], guard := none }) (v := ?va4) rfl (by kernel_rfl) (by kernel_rfl) (by kernel_rfl) rfl (fun _ _ _ h => h) (Or.inl ⟨by rfl, ?ya4⟩) (fun _ => by assumption) ?ra4
  case ya4 => (intro w _; go_simp; first | done | (with_reducible rfl) | (rw [if_neg (by omega)]))
  try simp only [Act.put, List.setIfInBounds_toArray, List.set_cons_zero, List.set_cons_succ]
  refine readyL (rs := [4]) (by kernel_rfl) (by simp) ?_
  refine (AllReadyL.cons (o := { dst := some 33, op := Op.call { callee := Callee.value (Operand.func 48), args := #[Operand.tmp 29, Operand.tmp 32], argTypes := #[26, 32] }, type := 55, pos := "games.go:113", after := #[{ on := 0, ground := Ground.data }, { on := 3, ground := Ground.data }], guard := none }) rfl (fun K hK => ?_) AllReadyL.nil)
  go_simp
  refine (Line_any HSh.out HJh.out R vp vs ve _ (l.take k) _ (HR.out.below Lz (Nat.le_refl _)) HN.out (RdL.take (HL2.out.below Mz (Nat.le_refl _)) k (by omega))).mono ?_
  rintro e w8 ⟨he8, hb8⟩
  rw [← HTT.out, ← HFT.out] at he8
  subst he8
  have B8 := Bz.stays hb8
  have L8 := below_trans Lz hb8 Lz.size
  clear hb8
  refine hK.out _ _ ⟨B8.cell 0 rfl, B8.cell 1 rfl, B8.cell 2 rfl, B8.cell 3 rfl, B8.cell 4 rfl, B8.cell 5 rfl, B8.cell 6 rfl, B8.cell 7 rfl, B8.cell 8 rfl, B8.cell 9 rfl, B8.cell 10 rfl⟩ (fun hHeld => ?_)
  clear hK K
  try simp only [Act.put, List.setIfInBounds_toArray, List.set_cons_zero, List.set_cons_succ]
  refine takeW (i := 5) (oi := { dst := some 28, op := Op.move (Operand.tmp 33), type := 55, pos := "games.go:113", after := #[{ on := 4, ground := Ground.data }], guard := none }) (v := ?va5) rfl (by kernel_rfl) (by kernel_rfl) (by kernel_rfl) rfl (fun _ _ _ h => h) (Or.inl ⟨by rfl, ?ya5⟩) (fun _ => by assumption) ?ra5
  case ya5 => (intro w _; go_simp; first | done | (with_reducible rfl) | (rw [if_neg (by omega)]))
  try simp only [Act.put, List.setIfInBounds_toArray, List.set_cons_zero, List.set_cons_succ]
  refine takeW (i := 6) (oi := { dst := some 34, op := Op.extract (Operand.tmp 28) 0, type := 9, pos := "games.go:113", after := #[{ on := 5, ground := Ground.data }], guard := none }) (v := ?va6) rfl (by kernel_rfl) (by kernel_rfl) (by kernel_rfl) rfl (fun _ _ _ h => h) (Or.inl ⟨by rfl, ?ya6⟩) (fun _ => by assumption) ?ra6
  case ya6 => (intro w _; go_simp; first | done | (with_reducible rfl) | (rw [if_neg (by omega)]))
  try simp only [Act.put, List.setIfInBounds_toArray, List.set_cons_zero, List.set_cons_succ]
  refine takeW (i := 7) (oi := { dst := some 35, op := Op.extract (Operand.tmp 28) 1, type := 29, pos := "games.go:113", after := #[{ on := 5, ground := Ground.data }, { on := 8, ground := Ground.gcOnly Departure.lateStores }], guard := none }) (v := ?va7) rfl (by kernel_rfl) (by kernel_rfl) (by kernel_rfl) rfl (fun _ _ _ h => h) (Or.inl ⟨by rfl, ?ya7⟩) (fun _ => by assumption) ?ra7
  case ya7 => (intro w _; go_simp; first | done | (with_reducible rfl) | (rw [if_neg (by omega)]))
  try simp only [Act.put, List.setIfInBounds_toArray, List.set_cons_zero, List.set_cons_succ]
  refine takeW (i := 8) (oi := { dst := some 9, op := Op.assign (Operand.tmp 34), type := 9, pos := "games.go:113", after := #[{ on := 6, ground := Ground.data }, { on := 4, ground := Ground.chain }, { on := 0, ground := Ground.phase }, { on := 1, ground := Ground.phase }, { on := 2, ground := Ground.phase }, { on := 3, ground := Ground.phase }, { on := 4, ground := Ground.phase }, { on := 5, ground := Ground.phase }, { on := 6, ground := Ground.phase }, { on := 7, ground := Ground.textOnly Departure.lateStores }], guard := none }) (v := ?va8) rfl (by kernel_rfl) (by kernel_rfl) (by kernel_rfl) rfl (fun _ _ _ h => h) (Or.inl ⟨by rfl, ?ya8⟩) (fun _ => by assumption) ?ra8
  case ya8 => (intro w _; go_simp; first | done | (with_reducible rfl) | (rw [if_neg (by omega)]))
  try simp only [Act.put, List.setIfInBounds_toArray, List.set_cons_zero, List.set_cons_succ]
  refine takeW (i := 9) (oi := { dst := some 10, op := Op.assign (Operand.tmp 35), type := 29, pos := "games.go:113", after := #[{ on := 7, ground := Ground.data }, { on := 8, ground := Ground.chain }, { on := 0, ground := Ground.phase }, { on := 1, ground := Ground.phase }, { on := 2, ground := Ground.phase }, { on := 3, ground := Ground.phase }, { on := 4, ground := Ground.phase }, { on := 5, ground := Ground.phase }, { on := 6, ground := Ground.phase }, { on := 7, ground := Ground.phase }, { on := 8, ground := Ground.phase }], guard := none }) (v := ?va9) rfl (by kernel_rfl) (by kernel_rfl) (by kernel_rfl) rfl (fun _ _ _ h => h) (Or.inl ⟨by rfl, ?ya9⟩) (fun _ => by assumption) ?ra9
  case ya9 => (intro w _; go_simp; first | done | (with_reducible rfl) | (rw [if_neg (by omega)]))
  try simp only [Act.put, List.setIfInBounds_toArray, List.set_cons_zero, List.set_cons_succ]
  refine doneL (by kernel_rfl) ?_ _
  refine NoPanic.normal ?_
  have HL8 := Lib.hid L8
  clear hHeld B8 L8 Bz Lz Mz
  by_cases he : er = 0
  rotate_left
  · have heb : (er != 0) = true := by simpa using he
    have hse : s = ⟨#[]⟩ := by rw [HSS.out, if_neg (by rw [← HER.out]; exact he)]; rfl
    rw [hse]
    clear he hse
    go_wp2_with fail
    go_ret
    exact ⟨rfl, HL8.out⟩
  obtain ⟨e1, r, e2, e3, e4⟩ := parts_law hk hl40 (by rw [← HER.out]; exact he)
  have hs2 : s = joinT ⟨#[32]⟩ (lineT R l l.length) := by rw [HSS.out, if_pos (by rw [← HER.out]; exact he)]
  have ht2 : t = joinT ⟨#[32]⟩ (lineT R (l.take k) (l.take k).length) := by rw [HTT.out, if_pos e1]
  have hf0 : ft = 0 := by rw [HFT.out, e1]
  rw [← hs2] at e4
  have HSR : Hid (s = t ++ r) := Lib.hid (by rw [hs2, e2, ht2])
  have hsz : s.size = t.size + r.size := by rw [HSR.out, ByteArray.size_append]
  have hle : ((t.size : Int) ≤ (s.size : Int)) := by omega
  have hsub : ∀ w' : World, (Instr.slice 9 (.string s) none (some (.int .i64 (t.size : Int))) none).run Try.prog w' = .ok (.string t) w' := fun w' => by
    have e5 := run_slice_string_h (P := Try.prog) w' 9 s Try.underlying9 IntKind.i64 (t.size : Int) (by omega) (by omega)
    rw [show s.extract 0 (t.size : Int).toNat = t by rw [HSR.out, Int.toNat_natCast]; exact ext_left t r] at e5
    exact e5
  have hq : (((k : Int) == (l.length : Int)) == ((t.size : Int) == (s.size : Int))) = true := by
    by_cases q : k = l.length
    · have : t.size = s.size := by have := e3.1 q; omega
      rw [q, this]; simp
    · have h1 : ((k : Int) == (l.length : Int)) = false := by simp; omega
      have h2 : ((t.size : Int) == (s.size : Int)) = false := by
        have := fun z => q (e3.2 z)
        simp; omega
      rw [h1, h2]; rfl
  clear hsz
  rw [he, hf0]
  have HQ := Lib.hid hq
  clear e1 e2 e3 hs2 ht2 he hf0 hq
  go_wp2_with fail
  go_ret
  exact ⟨by rw [← HQ.out]; rfl, HL8.out⟩

end Go.Proofs.Ytkfaibdflbdpgaa.movetextParts

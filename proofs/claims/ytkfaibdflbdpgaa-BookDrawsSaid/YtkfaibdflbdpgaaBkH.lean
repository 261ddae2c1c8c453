/- zob.Key, book.list, Moves, Choose. -/
import Derived.Test.YtkfaibdflbdpgaaBq3
import Derived.Test.YtkfaibdflbdpgaaBkDrawP
namespace Go.Proofs.Ytkfaibdflbdpgaa
open Go.ChangeShapes Go.WideShapes Go.ChangeAt Go.RowKit
set_option linter.unusedVariables false

noncomputable def keyR (R : RulesZ) (p : PosZ) : Value := if posErr R p = 0 then .tuple #[.int .u64 (keyZ p), .int .i64 0] else .tuple #[.int .u64 0, .int .i64 (posErr R p)]
theorem Key_any (R : RulesZ) (vp vs ve : Value) (p : PosZ) (vc v0 v1 : Value) (w : World) (h : RdR w R vp vs ve) (hnm : R.name.size ≤ maxLen) (hp : RdP w p vc v0 v1) :
    Calls Try.prog 98 #[(.agg #[.string R.name, .int .i64 R.width, .int .i64 R.height, vp, vs, .bool R.falls, .bool R.keeps, ve, .int .i64 R.blocked, .int .i64 R.quiet, .int .i64 R.rept]), (.agg #[vc, v0, v1, .int .i64 p.turn, .int .i64 p.quiet])] w fun e w' => e = .returned (keyR R p) ∧ Below w.heap.size w w' := by
  have HR := Lib.hid h
  have HP := Lib.hid hp
  have HN := Lib.hid hnm
  clear h hp hnm
  go_enter Try.func98, Try.ntmps98
  go_upto_region 1 with (fail)
  have B0 : Box ((w.alloc (.cells #[.string R.name, .int .i64 R.width, .int .i64 R.height, vp, vs, .bool R.falls, .bool R.keeps, ve, .int .i64 R.blocked, .int .i64 R.quiet, .int .i64 R.rept] 26)).alloc (.cells #[vc, v0, v1, .int .i64 p.turn, .int .i64 p.quiet] 37)) (w.heap.size) [.string R.name, .int .i64 R.width, .int .i64 R.height, vp, vs, .bool R.falls, .bool R.keeps, ve, .int .i64 R.blocked, .int .i64 R.quiet, .int .i64 R.rept] 26 := ((Box.new' w (w.heap.size) [.string R.name, .int .i64 R.width, .int .i64 R.height, vp, vs, .bool R.falls, .bool R.keeps, ve, .int .i64 R.blocked, .int .i64 R.quiet, .int .i64 R.rept] 26 (by simp <;> omega)).alloc _)
  have B1 : Box ((w.alloc (.cells #[.string R.name, .int .i64 R.width, .int .i64 R.height, vp, vs, .bool R.falls, .bool R.keeps, ve, .int .i64 R.blocked, .int .i64 R.quiet, .int .i64 R.rept] 26)).alloc (.cells #[vc, v0, v1, .int .i64 p.turn, .int .i64 p.quiet] 37)) (w.heap.size + 1) [vc, v0, v1, .int .i64 p.turn, .int .i64 p.quiet] 37 := (Box.new' (w.alloc (.cells #[.string R.name, .int .i64 R.width, .int .i64 R.height, vp, vs, .bool R.falls, .bool R.keeps, ve, .int .i64 R.blocked, .int .i64 R.quiet, .int .i64 R.rept] 26)) (w.heap.size + 1) [vc, v0, v1, .int .i64 p.turn, .int .i64 p.quiet] 37 (by simp <;> omega))
  have HB : Hid (Below w.heap.size w ((w.alloc (.cells #[.string R.name, .int .i64 R.width, .int .i64 R.height, vp, vs, .bool R.falls, .bool R.keeps, ve, .int .i64 R.blocked, .int .i64 R.quiet, .int .i64 R.rept] 26)).alloc (.cells #[vc, v0, v1, .int .i64 p.turn, .int .i64 p.quiet] 37))) := Lib.hid (((Below.refl w.heap.size w).alloc (Nat.le_refl _) _).alloc (by simp <;> omega) _)
  have hz0 : w.heap.size + 1 < ((w.alloc (.cells #[.string R.name, .int .i64 R.width, .int .i64 R.height, vp, vs, .bool R.falls, .bool R.keeps, ve, .int .i64 R.blocked, .int .i64 R.quiet, .int .i64 R.rept] 26)).alloc (.cells #[vc, v0, v1, .int .i64 p.turn, .int .i64 p.quiet] 37)).heap.size := by simp
  generalize ((w.alloc (.cells #[.string R.name, .int .i64 R.width, .int .i64 R.height, vp, vs, .bool R.falls, .bool R.keeps, ve, .int .i64 R.blocked, .int .i64 R.quiet, .int .i64 R.rept] 26)).alloc (.cells #[vc, v0, v1, .int .i64 p.turn, .int .i64 p.quiet] 37)) = w0 at *
  have HRw := Lib.hid (HR.out.below HB.out (Nat.le_refl _))
  have HPw := Lib.hid (HP.out.below HB.out (Nat.le_refl _))
  have HB0 := Lib.hid B0
  have HB1 := Lib.hid B1
  clear B0 B1
  refine wp_region_lit ?_
  refine wpList_load_box (by rfl) 26 (.tmp 2) (by rfl) (w.heap.size) (by rfl) HB0.out Try.underlying26 (by rfl) (by kernel_rfl) ?_
  refine wpList_load_box (by rfl) 37 (.tmp 3) (by rfl) (w.heap.size + 1) (by rfl) HB1.out Try.underlying37 (by rfl) (by kernel_rfl) ?_
  go_wp2_with fail
  refine (placeCheck_any R vp vs ve p vc v0 v1 w0 HRw.out HN.out HPw.out).mono ?_
  rintro e w1 ⟨rfl, hb1⟩
  have HL1 := Lib.hid (below_trans HB.out hb1 HB.out.size)
  have HC1 := Lib.hid (HB1.out.stays hb1)
  clear hb1 HB0 HB1
  by_cases he : posErr R p = 0
  rotate_left
  · have HE : Hid (keyR R p = .tuple #[.int .u64 0, .int .i64 (posErr R p)]) := Lib.hid (by unfold keyR; exact if_neg he)
    have he' : (posErr R p != 0) = true := by simpa using he
    clear he
    go_wp2_with fail
    go_ret2
    exact ⟨by rw [HE.out]; rfl, HL1.out⟩
  · have HE : Hid (keyR R p = .tuple #[.int .u64 (keyZ p), .int .i64 0]) := Lib.hid (by unfold keyR; exact if_pos he)
    have HK := Lib.hid (pok_of he)
    have HCB : Hid (∀ c ∈ p.cells, 0 ≤ c ∧ c ≤ 1000) := Lib.hid (fun c hc => by have := HK.out.cb c hc; have := HK.out.r.np; omega)
    rw [he]
    clear he
    go_upto_region 4 with (fail)
    refine wp_region_lit ?_
    refine wpList_load_box (by rfl) 37 (.tmp 3) (by rfl) (w.heap.size + 1) (by rfl) HC1.out Try.underlying37 (by rfl) (by kernel_rfl) ?_
    go_wp2_with fail
    refine (of_any p vc v0 v1 w1 (HP.out.below HL1.out (Nat.le_refl _)) HK.out.len (by have := HK.out.l0; have := HK.out.r.np; omega) (by have := HK.out.l1; have := HK.out.r.np; omega) HCB.out).mono ?_
    rintro e w2 ⟨rfl, hb2⟩
    have HL2 := Lib.hid (below_trans HL1.out hb2 HL1.out.size)
    clear hb2
    go_wp2_with fail
    go_ret2
    exact ⟨by rw [HE.out]; rfl, HL2.out⟩
set_option maxRecDepth 100000 in
set_option maxHeartbeats 8000000 in
theorem bkList_any (HS : SortMvSaid) (R : RulesZ) (vp vs ve : Value) (vb : Value) (b : List BkZ) (p : PosZ) (vc v0 v1 : Value) (w : World) (hr : RdR w R vp vs ve) (hb : RdL bkEl w vb b) (hp : RdP w p vc v0 v1) (K : POk R p) (hl : b.length ≤ 1000) :
    Calls Try.prog 99 #[(.agg #[.string R.name, .int .i64 R.width, .int .i64 R.height, vp, vs, .bool R.falls, .bool R.keeps, ve, .int .i64 R.blocked, .int .i64 R.quiet, .int .i64 R.rept]), vb, (.agg #[vc, v0, v1, .int .i64 p.turn, .int .i64 p.quiet])] w fun e w' => ∃ v, e = .returned v ∧ w'.ownsRow w.heap.size 98 5 v (entsTo (keyZ p) (listZ R p) b).length (flatK (entsTo (keyZ p) (listZ R p) b)) ∧ Below w.heap.size w w' := by
  have HSh := Lib.hid HS
  have HR := Lib.hid hr
  have HP := Lib.hid hp
  have HBk := Lib.hid hb
  have HK := Lib.hid K
  have HCB : Hid (∀ c ∈ p.cells, 0 ≤ c ∧ c ≤ 1000) := Lib.hid (fun c hc => by have := K.cb c hc; have := K.r.np; omega)
  obtain ⟨a, c, rfl, h1, h2⟩ := hb.form
  unfold maxLen at h2
  clear hr hb hp HS K
  go_enter Try.func99, Try.ntmps99
  go_upto_region 1 with (fail)
  have B0 : Box ((w.alloc (.cells #[.string R.name, .int .i64 R.width, .int .i64 R.height, vp, vs, .bool R.falls, .bool R.keeps, ve, .int .i64 R.blocked, .int .i64 R.quiet, .int .i64 R.rept] 26)).alloc (.cells #[vc, v0, v1, .int .i64 p.turn, .int .i64 p.quiet] 37)) (w.heap.size) [.string R.name, .int .i64 R.width, .int .i64 R.height, vp, vs, .bool R.falls, .bool R.keeps, ve, .int .i64 R.blocked, .int .i64 R.quiet, .int .i64 R.rept] 26 := ((Box.new' w (w.heap.size) [.string R.name, .int .i64 R.width, .int .i64 R.height, vp, vs, .bool R.falls, .bool R.keeps, ve, .int .i64 R.blocked, .int .i64 R.quiet, .int .i64 R.rept] 26 (by simp <;> omega)).alloc _)
  have B1 : Box ((w.alloc (.cells #[.string R.name, .int .i64 R.width, .int .i64 R.height, vp, vs, .bool R.falls, .bool R.keeps, ve, .int .i64 R.blocked, .int .i64 R.quiet, .int .i64 R.rept] 26)).alloc (.cells #[vc, v0, v1, .int .i64 p.turn, .int .i64 p.quiet] 37)) (w.heap.size + 1) [vc, v0, v1, .int .i64 p.turn, .int .i64 p.quiet] 37 := (Box.new' (w.alloc (.cells #[.string R.name, .int .i64 R.width, .int .i64 R.height, vp, vs, .bool R.falls, .bool R.keeps, ve, .int .i64 R.blocked, .int .i64 R.quiet, .int .i64 R.rept] 26)) (w.heap.size + 1) [vc, v0, v1, .int .i64 p.turn, .int .i64 p.quiet] 37 (by simp <;> omega))
  have HB : Hid (Below w.heap.size w ((w.alloc (.cells #[.string R.name, .int .i64 R.width, .int .i64 R.height, vp, vs, .bool R.falls, .bool R.keeps, ve, .int .i64 R.blocked, .int .i64 R.quiet, .int .i64 R.rept] 26)).alloc (.cells #[vc, v0, v1, .int .i64 p.turn, .int .i64 p.quiet] 37))) := Lib.hid (((Below.refl w.heap.size w).alloc (Nat.le_refl _) _).alloc (by simp <;> omega) _)
  have hz0 : w.heap.size + 1 < ((w.alloc (.cells #[.string R.name, .int .i64 R.width, .int .i64 R.height, vp, vs, .bool R.falls, .bool R.keeps, ve, .int .i64 R.blocked, .int .i64 R.quiet, .int .i64 R.rept] 26)).alloc (.cells #[vc, v0, v1, .int .i64 p.turn, .int .i64 p.quiet] 37)).heap.size := by simp
  generalize ((w.alloc (.cells #[.string R.name, .int .i64 R.width, .int .i64 R.height, vp, vs, .bool R.falls, .bool R.keeps, ve, .int .i64 R.blocked, .int .i64 R.quiet, .int .i64 R.rept] 26)).alloc (.cells #[vc, v0, v1, .int .i64 p.turn, .int .i64 p.quiet] 37)) = w0 at *
  have HB0 := Lib.hid B0
  have HB1 := Lib.hid B1
  clear B0 B1
  generalize w0 = wq at *
  have BRz : Box wq.drew w.heap.size [.string R.name, .int .i64 R.width, .int .i64 R.height, vp, vs, .bool R.falls, .bool R.keeps, ve, .int .i64 R.blocked, .int .i64 R.quiet, .int .i64 R.rept] 26 := HB0.out
  have BPz : Box wq.drew (w.heap.size + 1) [vc, v0, v1, .int .i64 p.turn, .int .i64 p.quiet] 37 := HB1.out
  have Lz : Below w.heap.size w wq.drew := below_drew' HB.out
  clear HB0 HB1 HB
  refine wp_region_noPanic ?_
  refine beginL (S := (fun w' => w'.cell? ⟨w.heap.size, 0, none⟩ = some (.string R.name) ∧ w'.cell? ⟨w.heap.size, 1, none⟩ = some (.int .i64 R.width) ∧ w'.cell? ⟨w.heap.size, 2, none⟩ = some (.int .i64 R.height) ∧ w'.cell? ⟨w.heap.size, 3, none⟩ = some vp ∧ w'.cell? ⟨w.heap.size, 4, none⟩ = some vs ∧ w'.cell? ⟨w.heap.size, 5, none⟩ = some (.bool R.falls) ∧ w'.cell? ⟨w.heap.size, 6, none⟩ = some (.bool R.keeps) ∧ w'.cell? ⟨w.heap.size, 7, none⟩ = some ve ∧ w'.cell? ⟨w.heap.size, 8, none⟩ = some (.int .i64 R.blocked) ∧ w'.cell? ⟨w.heap.size, 9, none⟩ = some (.int .i64 R.quiet) ∧ w'.cell? ⟨w.heap.size, 10, none⟩ = some (.int .i64 R.rept) ∧ w'.cell? ⟨w.heap.size + 1, 0, none⟩ = some vc ∧ w'.cell? ⟨w.heap.size + 1, 1, none⟩ = some v0 ∧ w'.cell? ⟨w.heap.size + 1, 2, none⟩ = some v1 ∧ w'.cell? ⟨w.heap.size + 1, 3, none⟩ = some (.int .i64 p.turn) ∧ w'.cell? ⟨w.heap.size + 1, 4, none⟩ = some (.int .i64 p.quiet))) (L := []) (by kernel_rfl) ⟨BRz.cell 0 rfl, BRz.cell 1 rfl, BRz.cell 2 rfl, BRz.cell 3 rfl, BRz.cell 4 rfl, BRz.cell 5 rfl, BRz.cell 6 rfl, BRz.cell 7 rfl, BRz.cell 8 rfl, BRz.cell 9 rfl, BRz.cell 10 rfl, BPz.cell 0 rfl, BPz.cell 1 rfl, BPz.cell 2 rfl, BPz.cell 3 rfl, BPz.cell 4 rfl⟩ (fun hHeld => ?_)
  refine takeL (i := 0) (oi := { dst := some 12, op := Op.load 37 (Operand.tmp 5), type := 37, pos := "book.go:95", after := #[], guard := none }) (v := ?va1) rfl (by kernel_rfl) (by kernel_rfl) (by kernel_rfl) (by kernel_rfl) rfl (by kernel_rfl) (by kernel_rfl) (fun _ _ _ h => h) (Or.inl ⟨by rfl, ?ya1⟩) (by assumption) ?ra1
  case ya1 => (intro w hSw; (try dsimp only at hSw); go_simp; first | done | (with_reducible rfl))
  try simp only [Act.put, List.setIfInBounds_toArray, List.set_cons_zero, List.set_cons_succ]
  refine takeL (i := 2) (oi := { dst := some 14, op := Op.load 26 (Operand.tmp 3), type := 26, pos := "book.go:95", after := #[], guard := none }) (v := ?va2) rfl (by kernel_rfl) (by kernel_rfl) (by kernel_rfl) (by kernel_rfl) rfl (by kernel_rfl) (by kernel_rfl) (fun _ _ _ h => h) (Or.inl ⟨by rfl, ?ya2⟩) (by assumption) ?ra2
  case ya2 => (intro w hSw; (try dsimp only at hSw); go_simp; first | done | (with_reducible rfl))
  try simp only [Act.put, List.setIfInBounds_toArray, List.set_cons_zero, List.set_cons_succ]
  refine takeL (i := 3) (oi := { dst := some 15, op := Op.load 37 (Operand.tmp 5), type := 37, pos := "book.go:95", after := #[], guard := none }) (v := ?va3) rfl (by kernel_rfl) (by kernel_rfl) (by kernel_rfl) (by kernel_rfl) rfl (by kernel_rfl) (by kernel_rfl) (fun _ _ _ h => h) (Or.inl ⟨by rfl, ?ya3⟩) (by assumption) ?ra3
  case ya3 => (intro w hSw; (try dsimp only at hSw); go_simp; first | done | (with_reducible rfl))
  try simp only [Act.put, List.setIfInBounds_toArray, List.set_cons_zero, List.set_cons_succ]
  refine readyL (rs := [1]) (by kernel_rfl) (by simp) ?_
  refine (AllReadyL.cons (o := { dst := some 13, op := Op.call { callee := Callee.value (Operand.func 94), args := #[Operand.tmp 12], argTypes := #[37] }, type := 96, pos := "book.go:95", after := #[{ on := 0, ground := Ground.data }], guard := none }) rfl (fun K hK => ?_) AllReadyL.nil)
  go_simp
  refine (of_any p vc v0 v1 _ (HP.out.below Lz (Nat.le_refl _)) HK.out.len (by have := HK.out.l0; have := HK.out.r.np; omega) (by have := HK.out.l1; have := HK.out.r.np; omega) HCB.out).mono ?_
  rintro e w2 ⟨rfl, hb2⟩
  have BR2 := BRz.stays hb2
  have BP2 := BPz.stays hb2
  have L2 := below_trans Lz hb2 Lz.size
  clear hb2
  refine hK.out _ _ ⟨BR2.cell 0 rfl, BR2.cell 1 rfl, BR2.cell 2 rfl, BR2.cell 3 rfl, BR2.cell 4 rfl, BR2.cell 5 rfl, BR2.cell 6 rfl, BR2.cell 7 rfl, BR2.cell 8 rfl, BR2.cell 9 rfl, BR2.cell 10 rfl, BP2.cell 0 rfl, BP2.cell 1 rfl, BP2.cell 2 rfl, BP2.cell 3 rfl, BP2.cell 4 rfl⟩ (fun hHeld => ?_)
  clear hK K
  try simp only [Act.put, List.setIfInBounds_toArray, List.set_cons_zero, List.set_cons_succ]
  refine readyL (rs := [4]) (by kernel_rfl) (by simp) ?_
  refine (AllReadyL.cons (o := { dst := some 16, op := Op.call { callee := Callee.value (Operand.func 62), args := #[Operand.tmp 14, Operand.tmp 15], argTypes := #[26, 37] }, type := 32, pos := "book.go:95", after := #[{ on := 2, ground := Ground.data }, { on := 3, ground := Ground.data }, { on := 1, ground := Ground.chain }], guard := none }) rfl (fun K hK => ?_) AllReadyL.nil)
  go_simp
  refine (List_any HSh.out R vp vs ve p vc v0 v1 w2 (HR.out.below L2 (Nat.le_refl _)) (HP.out.below L2 (Nat.le_refl _)) HK.out).mono ?_
  rintro e w3 ⟨vm, rfl, ho3, hb3⟩
  have BR3 := BR2.stays hb3
  have BP3 := BP2.stays hb3
  have L3 := below_trans L2 hb3 L2.size
  clear hb3
  refine hK.out _ _ ⟨BR3.cell 0 rfl, BR3.cell 1 rfl, BR3.cell 2 rfl, BR3.cell 3 rfl, BR3.cell 4 rfl, BR3.cell 5 rfl, BR3.cell 6 rfl, BR3.cell 7 rfl, BR3.cell 8 rfl, BR3.cell 9 rfl, BR3.cell 10 rfl, BP3.cell 0 rfl, BP3.cell 1 rfl, BP3.cell 2 rfl, BP3.cell 3 rfl, BP3.cell 4 rfl⟩ (fun hHeld => ?_)
  clear hK K
  try simp only [Act.put, List.setIfInBounds_toArray, List.set_cons_zero, List.set_cons_succ]
  refine takeW (i := 5) (oi := { dst := some 7, op := Op.assign (Operand.tmp 13), type := 96, pos := "book.go:95", after := #[{ on := 1, ground := Ground.data }, { on := 4, ground := Ground.chain }, { on := 0, ground := Ground.phase }, { on := 1, ground := Ground.phase }, { on := 2, ground := Ground.textOnly Departure.lateStores }, { on := 3, ground := Ground.textOnly Departure.lateStores }, { on := 4, ground := Ground.textOnly Departure.lateStoresUnsure }], guard := none }) (v := ?va4) rfl (by kernel_rfl) (by kernel_rfl) (by kernel_rfl) rfl (fun _ _ _ h => h) (Or.inl ⟨by rfl, ?ya4⟩) (fun _ => by assumption) ?ra4
  case ya4 => (intro w _; go_simp; first | done | (with_reducible rfl))
  try simp only [Act.put, List.setIfInBounds_toArray, List.set_cons_zero, List.set_cons_succ]
  refine takeW (i := 6) (oi := { dst := some 8, op := Op.assign (Operand.tmp 16), type := 32, pos := "book.go:95", after := #[{ on := 4, ground := Ground.data }, { on := 5, ground := Ground.chain }, { on := 0, ground := Ground.phase }, { on := 1, ground := Ground.phase }, { on := 2, ground := Ground.phase }, { on := 3, ground := Ground.phase }, { on := 4, ground := Ground.phase }, { on := 5, ground := Ground.phase }], guard := none }) (v := ?va5) rfl (by kernel_rfl) (by kernel_rfl) (by kernel_rfl) rfl (fun _ _ _ h => h) (Or.inl ⟨by rfl, ?ya5⟩) (fun _ => by assumption) ?ra5
  case ya5 => (intro w _; go_simp; first | done | (with_reducible rfl))
  try simp only [Act.put, List.setIfInBounds_toArray, List.set_cons_zero, List.set_cons_succ]
  refine doneL (by kernel_rfl) ?_ _
  refine NoPanic.normal ?_
  have HL3 := Lib.hid L3
  have HM3 := Lib.hid (rdM_of_own ho3)
  obtain ⟨am, cm, rfl⟩ := own_form2 ho3
  have hs3 : w.heap.size ≤ w3.heap.size := L3.size
  clear hHeld BR2 BP2 BR3 BP3 BRz BPz Lz L2 L3 ho3
  obtain ⟨key, hkey⟩ : ∃ key, keyZ p = key := ⟨_, rfl⟩
  obtain ⟨ms, hms⟩ : ∃ ms, listZ R p = ms := ⟨_, rfl⟩
  have HKE := Lib.hid hkey
  have HME := Lib.hid hms
  rw [hms] at HM3 ⊢
  rw [hkey]
  clear hkey hms
  go_wp2_with fail
  go_loopw [19, 9, 11] (fun vi vo a1 wr => ∃ (k : Nat) (o : Value), o = vo ∧ k ≤ b.length ∧ vi = .int .i64 k ∧ Hid (wr.ownsRow w3.heap.size 98 5 vo (entsTo key ms (b.take k)).length (flatK (entsTo key ms (b.take k)))) ∧ Hid (Below w3.heap.size w3 wr)) (fun i _ _ _ => b.length - (intOf i).toNat)
  case atStart => exact ⟨0, _, rfl, Nat.zero_le _, rfl, Lib.hid (World.ownsRow_nil _ _ _ _), Lib.hid (Below.refl _ _)⟩
  case round =>
    obtain ⟨k, vo, rfl, hk, rfl, HO, HBr⟩ := hrel
    have hrs : w3.heap.size ≤ wr.heap.size := HBr.out.size
    have HBw := Lib.hid (below_trans HL3.out HBr.out HL3.out.size)
    by_cases hkl : k < b.length
    · obtain ⟨g, ob, rfl, hg, hcc⟩ := bks_some (HBk.out.below HBw.out (Nat.le_refl _)) (by omega)
      obtain ⟨c0, c1, c2, c3, c4⟩ := hcc k hkl
      have HST := Lib.hid (ents_snoc key ms b k hkl)
      have HEL : Hid ((entsTo key ms (b.take k)).length ≤ 1000) := Lib.hid (by have := ents_len key ms (b.take k); rw [List.length_take] at this; omega)
      clear hcc
      generalize b.getD k default = x at *
      go_upto_region 6 with (fail)
      have HX := Lib.hid (Box.new wr [.int .u64 x.key, .int .i64 x.m.src, .int .i64 x.m.dst, .int .i64 x.m.piece, .int .i64 x.wt] 98)
      have HO2 := Lib.hid (HO.out.alloc (.cells #[.int .u64 x.key, .int .i64 x.m.src, .int .i64 x.m.dst, .int .i64 x.m.piece, .int .i64 x.wt] 98))
      have HB2 := Lib.hid (HBr.out.alloc hrs (.cells #[.int .u64 x.key, .int .i64 x.m.src, .int .i64 x.m.dst, .int .i64 x.m.piece, .int .i64 x.wt] 98))
      obtain ⟨bx, hbx⟩ : ∃ bx, bx = wr.heap.size := ⟨_, rfl⟩
      rw [← hbx] at HX ⊢
      have hbx3 : w3.heap.size ≤ bx := by omega
      have HNX : Hid (∀ k, vo.ownBlock = some k → k ≠ bx) := Lib.hid (fun k hk => by have := (HO.out.lt k hk).2; omega)
      clear hbx c0 c1 c2 c3 c4 hg HO HBr hrs HBw
      generalize (wr.alloc (.cells #[.int .u64 x.key, .int .i64 x.m.src, .int .i64 x.m.dst, .int .i64 x.m.piece, .int .i64 x.wt] 98)) = wn at *
      have d0 := HX.out.cell 0 rfl
      have d1 := HX.out.cell 1 rfl
      have d2 := HX.out.cell 2 rfl
      have d3 := HX.out.cell 3 rfl
      by_cases hke : x.key = key
      rotate_left
      · have HE : Hid (entsTo key ms (b.take (k + 1)) = entsTo key ms (b.take k)) := Lib.hid (by rw [HST.out, if_neg (by simp [hke]), List.append_nil])
        have hke' : (x.key == key) = false := by simpa using hke
        clear hke HST
        go_wp2_with fail
        go_roundw
        case rel => exact ⟨k + 1, _, rfl, by omega, by go_num, Lib.hid (by rw [HE.out]; exact HO2.out), HB2⟩
        case measure => simp [intOf]; omega
      have hke' : (x.key == key) = true := by simpa using hke
      clear hke
      go_wp2_with fail
      refine (contains_mv _ x.m ms wn (HM3.out.below HB2.out (Nat.le_refl _))).mono ?_
      rintro e w4 ⟨rfl, hb4⟩
      have HX4 := Lib.hid (HX.out.stays hb4)
      have HO4 := Lib.hid (own_stays HO2.out hb4)
      have HB4 := Lib.hid (below_trans HB2.out hb4 HB2.out.size)
      have hs4 : w3.heap.size ≤ w4.heap.size := HB4.out.size
      clear hb4 HX HO2 HB2 d0 d1 d2 d3
      by_cases hmm : x.m ∈ ms
      rotate_left
      · have HE : Hid (entsTo key ms (b.take (k + 1)) = entsTo key ms (b.take k)) := Lib.hid (by rw [HST.out, if_neg (by simp [hmm]), List.append_nil])
        have hd : decide (x.m ∈ ms) = false := by simpa using hmm
        rw [hd]
        clear hmm HST hd hke'
        go_wp2_with fail
        go_roundw
        case rel => exact ⟨k + 1, _, rfl, by omega, by go_num, Lib.hid (by rw [HE.out]; exact HO4.out), HB4⟩
        case measure => simp [intOf]; omega
      have HE : Hid (entsTo key ms (b.take (k + 1)) = entsTo key ms (b.take k) ++ [x]) := Lib.hid (by rw [HST.out, if_pos (by simp [hke', hmm])])
      have hd : decide (x.m ∈ ms) = true := by simpa using hmm
      rw [hd]
      clear hmm HST hd hke'
      have d0 := HX4.out.cell 0 rfl
      have d1 := HX4.out.cell 1 rfl
      have d2 := HX4.out.cell 2 rfl
      have d3 := HX4.out.cell 3 rfl
      have d4 := HX4.out.cell 4 rfl
      have hel := HEL.out
      clear HEL
      obtain ⟨E, hE⟩ : ∃ E, entsTo key ms (b.take k) = E := ⟨_, rfl⟩
      rw [hE] at HO4 HE hel
      clear hE
      go_wp2_with (at_builtin; refine app_newC 88 98 (.agg #[.int .u64 0, .int .i64 0, .int .i64 0, .int .i64 0, .int .i64 0]) 5 40 info_bk Try.underlying88 rfl (by decide) (by rfl) _ _ (by rfl) w3.heap.size _ E.length (flatK E) [.int .u64 x.key, .int .i64 x.m.src, .int .i64 x.m.dst, .int .i64 x.m.piece, .int .i64 x.wt] w4 HO4.out hs4 rfl five_bk (by omega) (by omega) (by rfl) (by rfl) ?_)
      intro g5 cap5 w5 hown5 hg5 hat5
      have HB5 := Lib.hid (Below.app HB4.out HO4.out hg5 (Nat.le_refl _) hs4)
      have HO5 : Hid (w5.ownsRow w3.heap.size 98 5 (.slice (some ⟨g5, 0, none⟩) (E.length + 1) cap5) (entsTo key ms (b.take (k + 1))).length (flatK (entsTo key ms (b.take (k + 1))))) := Lib.hid (by
        rw [HE.out, flatK_append, List.length_append]; exact hown5)
      clear hown5 hg5 hat5 HO4 HB4 HX4 d0 d1 d2 d3 d4 HE hel
      go_wp2_with fail
      go_roundw
      case rel => exact ⟨k + 1, _, rfl, by omega, by go_num, HO5, HB5⟩
      case measure => simp [intOf]; omega
    · obtain rfl : k = b.length := by omega
      have HOE : Hid (wr.ownsRow w.heap.size 98 5 vo (entsTo key ms b).length (flatK (entsTo key ms b))) := Lib.hid (by
        have := HO.out
        rw [List.take_of_length_le (Nat.le_refl _)] at this
        exact own_base this hs3)
      obtain ⟨av, cv, rfl⟩ := own_form2 HOE.out
      clear HO
      go_wp2_with fail
      go_ret
      exact ⟨.slice av _ cv, rfl, by rw [HKE.out, HME.out]; exact HOE.out, HBw.out⟩
def bmErr (R : RulesZ) (b : List BkZ) (p : PosZ) : Int := if bookErr b ≠ 0 then bookErr b else posErr R p
def BkMovesPost (R : RulesZ) (b : List BkZ) (p : PosZ) (w : World) (e : Ending) (w' : World) : Prop :=
  (bmErr R b p ≠ 0 ∧ e = .returned (.tuple #[.slice none 0 0, .int .i64 (bmErr R b p)]) ∧ Below w.heap.size w w') ∨
  (bmErr R b p = 0 ∧ POk R p ∧ ∃ v, e = .returned (.tuple #[v, .int .i64 0]) ∧ w'.ownsRow w.heap.size 98 5 v (entsTo (keyZ p) (listZ R p) b).length (flatK (entsTo (keyZ p) (listZ R p) b)) ∧ Below w.heap.size w w')
set_option maxRecDepth 100000 in
set_option maxHeartbeats 4000000 in
theorem bkMoves_any (HS : SortMvSaid) (R : RulesZ) (vp vs ve : Value) (vb : Value) (b : List BkZ) (p : PosZ) (vc v0 v1 : Value) (w : World) (hr : RdR w R vp vs ve) (hnm : R.name.size ≤ maxLen) (hb : RdL bkEl w vb b) (hp : RdP w p vc v0 v1) :
    Calls Try.prog 54 #[(.agg #[.string R.name, .int .i64 R.width, .int .i64 R.height, vp, vs, .bool R.falls, .bool R.keeps, ve, .int .i64 R.blocked, .int .i64 R.quiet, .int .i64 R.rept]), vb, (.agg #[vc, v0, v1, .int .i64 p.turn, .int .i64 p.quiet])] w (BkMovesPost R b p w) := by
  have HSh := Lib.hid HS
  have HR := Lib.hid hr
  have HP := Lib.hid hp
  have HN := Lib.hid hnm
  have HBk := Lib.hid hb
  have HD : Hid (bmErr R b p = if bookErr b ≠ 0 then bookErr b else posErr R p) := Lib.hid rfl
  obtain ⟨a, c, rfl, h1, h2⟩ := hb.form
  unfold maxLen at h2
  clear hr hb hp HS hnm
  go_enter Try.func54, Try.ntmps54
  go_upto_region 1 with (fail)
  have B0 : Box ((w.alloc (.cells #[.string R.name, .int .i64 R.width, .int .i64 R.height, vp, vs, .bool R.falls, .bool R.keeps, ve, .int .i64 R.blocked, .int .i64 R.quiet, .int .i64 R.rept] 26)).alloc (.cells #[vc, v0, v1, .int .i64 p.turn, .int .i64 p.quiet] 37)) (w.heap.size) [.string R.name, .int .i64 R.width, .int .i64 R.height, vp, vs, .bool R.falls, .bool R.keeps, ve, .int .i64 R.blocked, .int .i64 R.quiet, .int .i64 R.rept] 26 := ((Box.new' w (w.heap.size) [.string R.name, .int .i64 R.width, .int .i64 R.height, vp, vs, .bool R.falls, .bool R.keeps, ve, .int .i64 R.blocked, .int .i64 R.quiet, .int .i64 R.rept] 26 (by simp <;> omega)).alloc _)
  have B1 : Box ((w.alloc (.cells #[.string R.name, .int .i64 R.width, .int .i64 R.height, vp, vs, .bool R.falls, .bool R.keeps, ve, .int .i64 R.blocked, .int .i64 R.quiet, .int .i64 R.rept] 26)).alloc (.cells #[vc, v0, v1, .int .i64 p.turn, .int .i64 p.quiet] 37)) (w.heap.size + 1) [vc, v0, v1, .int .i64 p.turn, .int .i64 p.quiet] 37 := (Box.new' (w.alloc (.cells #[.string R.name, .int .i64 R.width, .int .i64 R.height, vp, vs, .bool R.falls, .bool R.keeps, ve, .int .i64 R.blocked, .int .i64 R.quiet, .int .i64 R.rept] 26)) (w.heap.size + 1) [vc, v0, v1, .int .i64 p.turn, .int .i64 p.quiet] 37 (by simp <;> omega))
  have HB : Hid (Below w.heap.size w ((w.alloc (.cells #[.string R.name, .int .i64 R.width, .int .i64 R.height, vp, vs, .bool R.falls, .bool R.keeps, ve, .int .i64 R.blocked, .int .i64 R.quiet, .int .i64 R.rept] 26)).alloc (.cells #[vc, v0, v1, .int .i64 p.turn, .int .i64 p.quiet] 37))) := Lib.hid (((Below.refl w.heap.size w).alloc (Nat.le_refl _) _).alloc (by simp <;> omega) _)
  have hz0 : w.heap.size + 1 < ((w.alloc (.cells #[.string R.name, .int .i64 R.width, .int .i64 R.height, vp, vs, .bool R.falls, .bool R.keeps, ve, .int .i64 R.blocked, .int .i64 R.quiet, .int .i64 R.rept] 26)).alloc (.cells #[vc, v0, v1, .int .i64 p.turn, .int .i64 p.quiet] 37)).heap.size := by simp
  generalize ((w.alloc (.cells #[.string R.name, .int .i64 R.width, .int .i64 R.height, vp, vs, .bool R.falls, .bool R.keeps, ve, .int .i64 R.blocked, .int .i64 R.quiet, .int .i64 R.rept] 26)).alloc (.cells #[vc, v0, v1, .int .i64 p.turn, .int .i64 p.quiet] 37)) = w0 at *
  have HB0 := Lib.hid B0
  have HB1 := Lib.hid B1
  clear B0 B1
  go_wp2_with fail
  refine (bkCheck_any _ b w0 (HBk.out.below HB.out (Nat.le_refl _))).mono ?_
  rintro e w1 ⟨rfl, hb1⟩
  have HL1 := Lib.hid (below_trans HB.out hb1 HB.out.size)
  have HC0 := Lib.hid (HB0.out.stays hb1)
  have HC1 := Lib.hid (HB1.out.stays hb1)
  clear hb1 HB0 HB1
  by_cases he : bookErr b = 0
  rotate_left
  · have HNE : Hid (bmErr R b p = bookErr b) := Lib.hid (by rw [HD.out, if_pos he])
    have HNZ := Lib.hid he
    have he' : (bookErr b != 0) = true := by simpa using he
    clear he
    go_wp2_with fail
    go_ret2
    exact .inl ⟨by rw [HNE.out]; exact HNZ.out, by rw [HNE.out]; rfl, HL1.out⟩
  have HE0 := Lib.hid he
  have HD1 : Hid (bmErr R b p = posErr R p) := Lib.hid (by rw [HD.out, if_neg (fun q => q he)])
  rw [he]
  clear he
  go_upto_region 4 with (fail)
  refine wp_region_lit ?_
  refine wpList_load_box (by rfl) 26 (.tmp 3) (by rfl) (w.heap.size) (by rfl) HC0.out Try.underlying26 (by rfl) (by kernel_rfl) ?_
  refine wpList_load_box (by rfl) 37 (.tmp 5) (by rfl) (w.heap.size + 1) (by rfl) HC1.out Try.underlying37 (by rfl) (by kernel_rfl) ?_
  go_wp2_with fail
  refine (Key_any R vp vs ve p vc v0 v1 w1 (HR.out.below HL1.out (Nat.le_refl _)) HN.out (HP.out.below HL1.out (Nat.le_refl _))).mono ?_
  rintro e w2 ⟨rfl, hb2⟩
  have HL2 := Lib.hid (below_trans HL1.out hb2 HL1.out.size)
  have HD0 := Lib.hid (HC0.out.stays hb2)
  have HDp := Lib.hid (HC1.out.stays hb2)
  clear hb2 HC0 HC1
  by_cases he : posErr R p = 0
  rotate_left
  · have HNZ := Lib.hid he
    have he' : (posErr R p != 0) = true := by simpa using he
    rw [show keyR R p = .tuple #[.int .u64 0, .int .i64 (posErr R p)] by unfold keyR; exact if_neg he]
    clear he
    go_wp2_with fail
    go_ret2
    exact .inl ⟨by rw [HD1.out]; exact HNZ.out, by rw [HD1.out]; rfl, HL2.out⟩
  have HE1 : Hid (bmErr R b p = 0) := Lib.hid (by rw [HD1.out, he])
  have HK := Lib.hid (pok_of he)
  have HSW := Lib.hid (bookErr_ok HE0.out)
  rw [show keyR R p = .tuple #[.int .u64 (keyZ p), .int .i64 0] by unfold keyR; exact if_pos he]
  clear he
  have q0 := HD0.out.cell 0 rfl
  have q1 := HD0.out.cell 1 rfl
  have q2 := HD0.out.cell 2 rfl
  have q3 := HD0.out.cell 3 rfl
  have q4 := HD0.out.cell 4 rfl
  have q5 := HD0.out.cell 5 rfl
  have q6 := HD0.out.cell 6 rfl
  have q7 := HD0.out.cell 7 rfl
  have q8 := HD0.out.cell 8 rfl
  have q9 := HD0.out.cell 9 rfl
  have q10 := HD0.out.cell 10 rfl
  have p0 := HDp.out.cell 0 rfl
  have p1 := HDp.out.cell 1 rfl
  have p2 := HDp.out.cell 2 rfl
  have p3 := HDp.out.cell 3 rfl
  have p4 := HDp.out.cell 4 rfl
  go_wp2_with fail
  refine (bkList_any HSh.out R vp vs ve _ b p vc v0 v1 w2 (HR.out.below HL2.out (Nat.le_refl _)) (HBk.out.below HL2.out (Nat.le_refl _)) (HP.out.below HL2.out (Nat.le_refl _)) HK.out HSW.out.1).mono ?_
  rintro e w3 ⟨v, rfl, ho, hb3⟩
  clear q0 q1 q2 q3 q4 q5 q6 q7 q8 q9 q10 p0 p1 p2 p3 p4
  have HL3 := Lib.hid (below_trans HL2.out hb3 HL2.out.size)
  have HO3 := Lib.hid (own_base ho HL2.out.size)
  clear ho hb3
  go_wp2_with fail
  go_ret2
  exact .inr ⟨HE1.out, HK.out, _, rfl, HO3.out, HL3.out⟩
theorem ents_wt {key : Int} {ms : List MoveZ} {b : List BkZ} (h : WtB b) : WtB (entsTo key ms b) := fun x hx => h x (ents_mem hx)
theorem bm_book {R : RulesZ} {b : List BkZ} {p : PosZ} (h : bmErr R b p = 0) : bookErr b = 0 := by
  unfold bmErr at h
  by_cases e : bookErr b = 0
  · exact e
  · rw [if_pos e] at h; exact absurd h e
set_option maxRecDepth 100000 in
set_option maxHeartbeats 8000000 in
theorem Choose_ok (HS : SortMvSaid) (R : RulesZ) (vp vs ve : Value) (vb : Value) (b : List BkZ) (p : PosZ) (vc v0 v1 : Value) (draw : Int) (x : BkZ) (w : World) (hr : RdR w R vp vs ve) (hnm : R.name.size ≤ maxLen) (hb : RdL bkEl w vb b) (hp : RdP w p vc v0 v1) (hbm : bmErr R b p = 0)
    (hn : 0 < (entsTo (keyZ p) (listZ R p) b).length) (hd0 : 0 ≤ draw) (hd1 : draw ≤ 1000000000000) (hx : pickB (entsTo (keyZ p) (listZ R p) b) (draw % sumW (entsTo (keyZ p) (listZ R p) b)) = some x) :
    Calls Try.prog 55 #[(.agg #[.string R.name, .int .i64 R.width, .int .i64 R.height, vp, vs, .bool R.falls, .bool R.keeps, ve, .int .i64 R.blocked, .int .i64 R.quiet, .int .i64 R.rept]), vb, (.agg #[vc, v0, v1, .int .i64 p.turn, .int .i64 p.quiet]), .int .i64 draw] w fun e w' => e = .returned (.tuple #[.agg #[.int .i64 x.m.src, .int .i64 x.m.dst, .int .i64 x.m.piece], .int .i64 0]) ∧ Below w.heap.size w w' := by
  have HSh := Lib.hid HS
  have HR := Lib.hid hr
  have HP := Lib.hid hp
  have HN := Lib.hid hnm
  have HBk := Lib.hid hb
  have HBM := Lib.hid hbm
  have HEL := Lib.hid (Nat.le_trans (ents_len (keyZ p) (listZ R p) b) (bookErr_ok (bm_book hbm)).1)
  have HW := Lib.hid (ents_wt (key := keyZ p) (ms := listZ R p) (bookErr_ok (bm_book hbm)).2.2)
  have HPX := Lib.hid hx
  have HEN := Lib.hid hn
  clear hr hb hp HS hnm hbm hx hn
  go_enter Try.func55, Try.ntmps55
  go_upto_region 1 with (fail)
  have B0 : Box (((w.alloc (.cells #[.string R.name, .int .i64 R.width, .int .i64 R.height, vp, vs, .bool R.falls, .bool R.keeps, ve, .int .i64 R.blocked, .int .i64 R.quiet, .int .i64 R.rept] 26)).alloc (.cells #[vc, v0, v1, .int .i64 p.turn, .int .i64 p.quiet] 37)).alloc (.cells #[.int .i64 0, .int .i64 0, .int .i64 0] 42)) (w.heap.size) [.string R.name, .int .i64 R.width, .int .i64 R.height, vp, vs, .bool R.falls, .bool R.keeps, ve, .int .i64 R.blocked, .int .i64 R.quiet, .int .i64 R.rept] 26 := (((Box.new' w (w.heap.size) [.string R.name, .int .i64 R.width, .int .i64 R.height, vp, vs, .bool R.falls, .bool R.keeps, ve, .int .i64 R.blocked, .int .i64 R.quiet, .int .i64 R.rept] 26 (by simp <;> omega)).alloc _).alloc _)
  have B1 : Box (((w.alloc (.cells #[.string R.name, .int .i64 R.width, .int .i64 R.height, vp, vs, .bool R.falls, .bool R.keeps, ve, .int .i64 R.blocked, .int .i64 R.quiet, .int .i64 R.rept] 26)).alloc (.cells #[vc, v0, v1, .int .i64 p.turn, .int .i64 p.quiet] 37)).alloc (.cells #[.int .i64 0, .int .i64 0, .int .i64 0] 42)) (w.heap.size + 1) [vc, v0, v1, .int .i64 p.turn, .int .i64 p.quiet] 37 := ((Box.new' (w.alloc (.cells #[.string R.name, .int .i64 R.width, .int .i64 R.height, vp, vs, .bool R.falls, .bool R.keeps, ve, .int .i64 R.blocked, .int .i64 R.quiet, .int .i64 R.rept] 26)) (w.heap.size + 1) [vc, v0, v1, .int .i64 p.turn, .int .i64 p.quiet] 37 (by simp <;> omega)).alloc _)
  have B2 : Box (((w.alloc (.cells #[.string R.name, .int .i64 R.width, .int .i64 R.height, vp, vs, .bool R.falls, .bool R.keeps, ve, .int .i64 R.blocked, .int .i64 R.quiet, .int .i64 R.rept] 26)).alloc (.cells #[vc, v0, v1, .int .i64 p.turn, .int .i64 p.quiet] 37)).alloc (.cells #[.int .i64 0, .int .i64 0, .int .i64 0] 42)) (w.heap.size + 1 + 1) [.int .i64 0, .int .i64 0, .int .i64 0] 42 := (Box.new' ((w.alloc (.cells #[.string R.name, .int .i64 R.width, .int .i64 R.height, vp, vs, .bool R.falls, .bool R.keeps, ve, .int .i64 R.blocked, .int .i64 R.quiet, .int .i64 R.rept] 26)).alloc (.cells #[vc, v0, v1, .int .i64 p.turn, .int .i64 p.quiet] 37)) (w.heap.size + 1 + 1) [.int .i64 0, .int .i64 0, .int .i64 0] 42 (by simp <;> omega))
  have HB : Hid (Below w.heap.size w (((w.alloc (.cells #[.string R.name, .int .i64 R.width, .int .i64 R.height, vp, vs, .bool R.falls, .bool R.keeps, ve, .int .i64 R.blocked, .int .i64 R.quiet, .int .i64 R.rept] 26)).alloc (.cells #[vc, v0, v1, .int .i64 p.turn, .int .i64 p.quiet] 37)).alloc (.cells #[.int .i64 0, .int .i64 0, .int .i64 0] 42))) := Lib.hid ((((Below.refl w.heap.size w).alloc (Nat.le_refl _) _).alloc (by simp <;> omega) _).alloc (by simp <;> omega) _)
  have hz0 : w.heap.size + 1 + 1 < (((w.alloc (.cells #[.string R.name, .int .i64 R.width, .int .i64 R.height, vp, vs, .bool R.falls, .bool R.keeps, ve, .int .i64 R.blocked, .int .i64 R.quiet, .int .i64 R.rept] 26)).alloc (.cells #[vc, v0, v1, .int .i64 p.turn, .int .i64 p.quiet] 37)).alloc (.cells #[.int .i64 0, .int .i64 0, .int .i64 0] 42)).heap.size := by simp
  generalize (((w.alloc (.cells #[.string R.name, .int .i64 R.width, .int .i64 R.height, vp, vs, .bool R.falls, .bool R.keeps, ve, .int .i64 R.blocked, .int .i64 R.quiet, .int .i64 R.rept] 26)).alloc (.cells #[vc, v0, v1, .int .i64 p.turn, .int .i64 p.quiet] 37)).alloc (.cells #[.int .i64 0, .int .i64 0, .int .i64 0] 42)) = w0 at *
  have HB0 := Lib.hid B0
  have HB1 := Lib.hid B1
  have HB2 := Lib.hid B2
  clear B0 B1 B2
  have q0 := HB0.out.cell 0 rfl
  have q1 := HB0.out.cell 1 rfl
  have q2 := HB0.out.cell 2 rfl
  have q3 := HB0.out.cell 3 rfl
  have q4 := HB0.out.cell 4 rfl
  have q5 := HB0.out.cell 5 rfl
  have q6 := HB0.out.cell 6 rfl
  have q7 := HB0.out.cell 7 rfl
  have q8 := HB0.out.cell 8 rfl
  have q9 := HB0.out.cell 9 rfl
  have q10 := HB0.out.cell 10 rfl
  have p0 := HB1.out.cell 0 rfl
  have p1 := HB1.out.cell 1 rfl
  have p2 := HB1.out.cell 2 rfl
  have p3 := HB1.out.cell 3 rfl
  have p4 := HB1.out.cell 4 rfl
  go_wp2_with fail
  refine (bkMoves_any HSh.out R vp vs ve vb b p vc v0 v1 w0 (HR.out.below HB.out (Nat.le_refl _)) HN.out (HBk.out.below HB.out (Nat.le_refl _)) (HP.out.below HB.out (Nat.le_refl _))).mono ?_
  rintro e w1 (⟨hbad, -⟩ | ⟨-, -, v, rfl, ho, hb1⟩)
  · exact absurd HBM.out hbad
  clear q0 q1 q2 q3 q4 q5 q6 q7 q8 q9 q10 p0 p1 p2 p3 p4
  have HL1 := Lib.hid (below_trans HB.out hb1 HB.out.size)
  have HC2 := Lib.hid (HB2.out.stays hb1)
  obtain ⟨E, hE⟩ : ∃ E, entsTo (keyZ p) (listZ R p) b = E := ⟨_, rfl⟩
  rw [hE] at ho HEL HW HPX HEN
  clear hE hb1 HB0 HB1 HB2 HP HBk HR HBM
  have hel := HEL.out
  have hen := HEN.out
  have HM := Lib.hid (rdK_of_own ho)
  obtain ⟨ge, ce, rfl⟩ := own_some ho (by omega)
  have hs1 : w.heap.size + 2 < w1.heap.size := HC2.out.lt
  clear ho HEL HEN
  go_wp2_with fail
  go_loopw [41, 12, 14] (fun vi vn a1 wr => ∃ (k : Nat) (n : Int), k ≤ E.length ∧ vi = .int .i64 k ∧ vn = .int .i64 n ∧ Hid (n = sumW (E.take k)) ∧ 0 ≤ n ∧ n ≤ 1000000 * k ∧ Hid (Below w1.heap.size w1 wr)) (fun i _ _ _ => E.length - (intOf i).toNat)
  case atStart => exact ⟨0, 0, Nat.zero_le _, rfl, rfl, Lib.hid rfl, by omega, by omega, Lib.hid (Below.refl _ _)⟩
  case round =>
    obtain ⟨k, n, hk, rfl, rfl, HNK, hn0, hn1, HBr⟩ := hrel
    have hrs := HBr.out.size
    by_cases hkl : k < E.length
    · obtain ⟨g, ob, hga, hg, hcc⟩ := bks_some (HM.out.below HBr.out (Nat.le_refl _)) (by omega)
      simp only [Option.some.injEq, Addr.mk.injEq, and_true] at hga
      obtain ⟨rfl, rfl⟩ := hga
      obtain ⟨c0, c1, c2, c3, c4⟩ := hcc k hkl
      rw [Nat.zero_add] at c0 c1 c2 c3 c4
      have hwt : 1 ≤ (E.getD k default).wt ∧ (E.getD k default).wt ≤ 1000000 := HW.out _ (by rw [List.getD_eq_getElem?_getD, List.getElem?_eq_getElem hkl]; exact List.getElem_mem _)
      have HST : Hid (sumW (E.take (k + 1)) = sumW (E.take k) + (E.getD k default).wt) := Lib.hid (sumW_take E k hkl)
      clear hcc
      generalize E.getD k default = y at *
      obtain ⟨hw0, hw1⟩ := hwt
      have HNE : Hid (n + y.wt = sumW (E.take (k + 1))) := Lib.hid (by rw [HST.out, HNK.out])
      have HB2 := Lib.hid (HBr.out.alloc hrs (.cells #[.int .u64 y.key, .int .i64 y.m.src, .int .i64 y.m.dst, .int .i64 y.m.piece, .int .i64 y.wt] 98))
      go_wp2_with fail
      go_roundw
      case rel => exact ⟨k + 1, n + y.wt, by omega, by go_num, rfl, HNE, by omega, by omega, HB2⟩
      case measure => simp [intOf]; omega
    · obtain rfl : k = E.length := by omega
      have HSE : Hid (n = sumW E) := Lib.hid (by rw [HNK.out, List.take_of_length_le (Nat.le_refl _)])
      have hn2 : 1 ≤ n := by have := (sumW_bound E HW.out).1; have := HSE.out; omega
      have HPN : Hid (pickB (E.drop 0) (draw % n) = some x) := Lib.hid (by rw [HSE.out]; exact HPX.out)
      have ht0 : 0 ≤ draw % n := Int.emod_nonneg _ (by omega)
      have ht1 : draw % n < n := Int.emod_lt_of_pos _ (by omega)
      have HC2r := Lib.hid (HC2.out.stays HBr.out)
      have HLr := Lib.hid (below_trans HL1.out HBr.out HL1.out.size)
      have hn3 : n ≠ 0 := by omega
      clear HPX HNK HSE hn2 hkl HC2
      go_wp2_with fail
      obtain ⟨wA, rfl⟩ : ∃ wA : World, wA = wr := ⟨_, rfl⟩
      go_loopw [55, 15, 17] (fun vi vn a1 wr => ∃ (k : Nat) (t : Int), k ≤ E.length ∧ vi = .int .i64 k ∧ vn = .int .i64 t ∧ Hid (pickB (E.drop k) t = some x) ∧ 0 ≤ t ∧ t ≤ 1000000000 ∧ Hid (Below wA.heap.size wA wr)) (fun i _ _ _ => E.length - (intOf i).toNat)
      case atStart => exact ⟨0, _, Nat.zero_le _, rfl, rfl, HPN, ht0, by omega, Lib.hid (Below.refl _ _)⟩
      case round =>
        obtain ⟨k, t, hk, rfl, rfl, HPK, ht2, ht3, HBq⟩ := hrel
        have hqs := HBq.out.size
        have HBrq := Lib.hid (below_trans HBr.out HBq.out HBr.out.size)
        by_cases hkl : k < E.length
        · obtain ⟨g, ob, hga, hg, hcc⟩ := bks_some (HM.out.below HBrq.out (Nat.le_refl _)) (by omega)
          simp only [Option.some.injEq, Addr.mk.injEq, and_true] at hga
          obtain ⟨rfl, rfl⟩ := hga
          obtain ⟨c0, c1, c2, c3, c4⟩ := hcc k hkl
          rw [Nat.zero_add] at c0 c1 c2 c3 c4
          have hwt : 1 ≤ (E.getD k default).wt ∧ (E.getD k default).wt ≤ 1000000 := HW.out _ (by rw [List.getD_eq_getElem?_getD, List.getElem?_eq_getElem hkl]; exact List.getElem_mem _)
          have HST := Lib.hid ((pickB_drop E k t hkl).symm.trans HPK.out)
          clear hcc
          generalize E.getD k default = y at *
          obtain ⟨hw0, hw1⟩ := hwt
          by_cases hlt : t - y.wt < 0
          · have HYX : Hid (y = x) := Lib.hid (by have := HST.out; rw [if_pos hlt] at this; exact Option.some.inj this)
            have HXq := Lib.hid ((HC2r.out.stays HBq.out).alloc (.cells #[.int .u64 y.key, .int .i64 y.m.src, .int .i64 y.m.dst, .int .i64 y.m.piece, .int .i64 y.wt] 98))
            have HLq := Lib.hid ((below_trans HLr.out HBq.out HLr.out.size).alloc (below_trans HLr.out HBq.out HLr.out.size).size (.cells #[.int .u64 y.key, .int .i64 y.m.src, .int .i64 y.m.dst, .int .i64 y.m.piece, .int .i64 y.wt] 98))
            have z0 := HXq.out.cell 0 rfl
            have z1 := HXq.out.cell 1 rfl
            have z2 := HXq.out.cell 2 rfl
            have zf0 := HXq.out.frozen 0
            have zf1 := HXq.out.frozen 1
            have zf2 := HXq.out.frozen 2
            go_wp2_with fail
            have B3 := ((HXq.out.set 0 (.int .i64 y.m.src)).set 1 (.int .i64 y.m.dst)).set 2 (.int .i64 y.m.piece)
            have L3 := below_setCells HLq.out (show w.heap.size ≤ w.heap.size + 1 + 1 by omega) 0 [.int .i64 y.m.src, .int .i64 y.m.dst, .int .i64 y.m.piece]
            simp only [World.setCells, Nat.zero_add] at L3
            simp only [List.set_cons_zero, List.set_cons_succ] at B3
            clear z0 z1 z2 zf0 zf1 zf2 HXq HLq
            rw [HYX.out] at B3 L3 ⊢
            generalize ((((wr.alloc (.cells #[.int .u64 x.key, .int .i64 x.m.src, .int .i64 x.m.dst, .int .i64 x.m.piece, .int .i64 x.wt] 98)).setCell ⟨w.heap.size + 1 + 1, 0, none⟩ (.int .i64 x.m.src)).setCell ⟨w.heap.size + 1 + 1, 1, none⟩ (.int .i64 x.m.dst)).setCell ⟨w.heap.size + 1 + 1, 2, none⟩ (.int .i64 x.m.piece)) = wz at *
            refine bodyPost_ret (results_box rfl (by rfl) (by rfl) B3 Try.underlying42 (by rfl) (by kernel_rfl)) rfl ⟨rfl, ?_⟩
            exact L3
          · have HPS : Hid (pickB (E.drop (k + 1)) (t - y.wt) = some x) := Lib.hid (by have := HST.out; rw [if_neg hlt] at this; exact this)
            have HB2 := Lib.hid (HBq.out.alloc hqs (.cells #[.int .u64 y.key, .int .i64 y.m.src, .int .i64 y.m.dst, .int .i64 y.m.piece, .int .i64 y.wt] 98))
            go_wp2_with fail
            go_roundw
            case rel => exact ⟨k + 1, t - y.wt, by omega, by go_num, rfl, HPS, by omega, by omega, HB2⟩
            case measure => simp [intOf]; omega
        · obtain rfl : k = E.length := by omega
          have := HPK.out
          rw [List.drop_of_length_le (Nat.le_refl _)] at this
          cases this

end Go.Proofs.Ytkfaibdflbdpgaa

/- The walk of the law ClaimWins. -/
import Derived.Test.YtkfaibdflbdpgaaClaimC
import Derived.Test.YtkfaibdflbdpgaaClaimP
import Derived.Test.YtkfaibdflbdpgaaOpenV
import Derived.Test.YtkfaibdflbdpgaaFrame
namespace Go.Proofs.Ytkfaibdflbdpgaa.claimWins
open Go.ChangeShapes Go.WideShapes Go.ChangeAt Go.RowKit
set_option linter.unusedVariables false
theorem wins_law {R : RulesZ} {l : List MoveZ} {n : Nat} (hn : l.length = n + 1) (hf : runErr R l = 0) (hx : gameRes R l = 1 ∨ gameRes R l = 2) :
    runErr R (l.take n) = 0 ∧ ableErr R (nowZ R (l.take n)) (gameRes R l - 1) = 0 ∧ ableR R (nowZ R (l.take n)) (gameRes R l - 1) = true := by
  obtain ⟨hr, hp, hla, hpre⟩ := run_ok hf
  have K0 : POk R (nowZ R (l.take n)) := posAt_ok (begin_ok hr) hla n (by omega)
  have hpos := pos_of hr K0
  have h0 : ableErr R (nowZ R (l.take n)) (gameRes R l - 1) = 0 := by
    unfold ableErr
    rw [if_neg (by simp [hpos]), if_neg (by omega)]
  refine ⟨hpre n (by omega), h0, ?_⟩
  unfold ableR
  rw [if_neg (by simp [h0])]
  have hm := hla n (by omega)
  have hnow : nowZ R l = makeZ R (nowZ R (l.take n)) (l.getD n default) := by
    have := posAt_take R (beginZ R) l n (by omega)
    rw [List.take_of_length_le (by omega)] at this
    exact this
  have hres : resultZ R (nowZ R l) = gameRes R l := by
    unfold gameRes at hx ⊢
    split at hx
    · omega
    · rename_i q; rw [if_neg q]
  rw [hnow] at hres
  exact claim_wins K0 hm (by omega) (by omega)

/-- plain.Run in one form. -/
theorem PRun_one (HS : SortMvSaid) (R : RulesZ) (vp vs ve : Value) (v : Value) (l : List MoveZ) (w : World) (hr : RdR w R vp vs ve) (hnm : R.name.size ≤ maxLen) (hl : RdL moveEl w v l) :
    Calls Try.prog 44 #[(.agg #[.string R.name, .int .i64 R.width, .int .i64 R.height, vp, vs, .bool R.falls, .bool R.keeps, ve, .int .i64 R.blocked, .int .i64 R.quiet, .int .i64 R.rept]), v] w fun e w' => ∃ (q : PosZ) (a0 a1 a2 : Option Addr) (c0 c1 c2 : Nat) (x er : Int), e = .returned (.tuple #[.agg #[.slice a0 q.cells.length c0, .slice a1 q.h0.length c1, .slice a2 q.h1.length c2, .int .i64 q.turn, .int .i64 q.quiet], .int .i64 x, .int .i64 er]) ∧
      (∀ S : Nat → Prop, (∀ k, w.heap.size ≤ k → k < w'.heap.size → ¬ S k) → Held S w' fun w2 => RdP w2 q (.slice a0 q.cells.length c0) (.slice a1 q.h0.length c1) (.slice a2 q.h1.length c2)) ∧ er = runErr R l ∧ (er = 0 → q = nowZ R l ∧ x = gameRes R l) ∧ Below w.heap.size w w' := by
  refine (PRun_any HS R vp vs ve v l w hr hnm hl).mono ?_
  rintro e w' (⟨hbad, rfl, hb⟩ | ⟨hok, -, -, -, yc, y0, y1, rfl, ho, hb⟩)
  · exact ⟨⟨[], [], [], 0, 0⟩, none, none, none, 0, 0, 0, 0, _, rfl, fun S _ w2 _ => ⟨(Rd.nil w2 1 : RdI w2 (.slice none 0 0) []), (Rd.nil w2 1 : RdI w2 (.slice none 0 0) []), (Rd.nil w2 1 : RdI w2 (.slice none 0 0) [])⟩, rfl, fun h => absurd h hbad, hb⟩
  · obtain ⟨ya, yn, rfl⟩ := own_form2 ho.1
    obtain ⟨ya0, yn0, rfl⟩ := own_form2 ho.2.1
    obtain ⟨ya1, yn1, rfl⟩ := own_form2 ho.2.2.1
    exact ⟨nowZ R l, ya, ya0, ya1, yn, yn0, yn1, _, _, rfl, fun S hS => (ownP_held ho hS).imp fun _ h => h.rd, hok.symm, fun _ => ⟨rfl, rfl⟩, hb⟩
set_option maxRecDepth 100000 in
set_option maxHeartbeats 8000000 in
theorem walk (HS : SortMvSaid) (R : RulesZ) (vp vs ve : Value) (v : Value) (l0 : List MoveZ) (w : World) (hr : RdR w R vp vs ve) (hnm : R.name.size ≤ maxLen) (h : RdL moveEl w v l0) :
    Calls Try.prog 8 #[(.agg #[.string R.name, .int .i64 R.width, .int .i64 R.height, vp, vs, .bool R.falls, .bool R.keeps, ve, .int .i64 R.blocked, .int .i64 R.quiet, .int .i64 R.rept]), v] w fun e w' => e = .returned (.bool true) ∧ Below w.heap.size w w' := by
  have HSh := Lib.hid HS
  have HR := Lib.hid hr
  have HN := Lib.hid hnm
  have HL := Lib.hid h
  clear h HS hr hnm
  go_enter Try.func8, Try.ntmps8
  go_upto_region 1 with (fail)
  have B0 : Box (w.alloc (.cells #[.string R.name, .int .i64 R.width, .int .i64 R.height, vp, vs, .bool R.falls, .bool R.keeps, ve, .int .i64 R.blocked, .int .i64 R.quiet, .int .i64 R.rept] 26)) (w.heap.size) [.string R.name, .int .i64 R.width, .int .i64 R.height, vp, vs, .bool R.falls, .bool R.keeps, ve, .int .i64 R.blocked, .int .i64 R.quiet, .int .i64 R.rept] 26 := (Box.new' w (w.heap.size) [.string R.name, .int .i64 R.width, .int .i64 R.height, vp, vs, .bool R.falls, .bool R.keeps, ve, .int .i64 R.blocked, .int .i64 R.quiet, .int .i64 R.rept] 26 (by simp <;> omega))
  have HB : Hid (Below w.heap.size w (w.alloc (.cells #[.string R.name, .int .i64 R.width, .int .i64 R.height, vp, vs, .bool R.falls, .bool R.keeps, ve, .int .i64 R.blocked, .int .i64 R.quiet, .int .i64 R.rept] 26))) := Lib.hid ((Below.refl w.heap.size w).alloc (Nat.le_refl _) _)
  have hz0 : w.heap.size < (w.alloc (.cells #[.string R.name, .int .i64 R.width, .int .i64 R.height, vp, vs, .bool R.falls, .bool R.keeps, ve, .int .i64 R.blocked, .int .i64 R.quiet, .int .i64 R.rept] 26)).heap.size := by simp
  generalize (w.alloc (.cells #[.string R.name, .int .i64 R.width, .int .i64 R.height, vp, vs, .bool R.falls, .bool R.keeps, ve, .int .i64 R.blocked, .int .i64 R.quiet, .int .i64 R.rept] 26)) = w0 at *
  have HRw := Lib.hid (HR.out.below HB.out (Nat.le_refl _))
  have HLw := Lib.hid (HL.out.below HB.out (Nat.le_refl _))
  have HX0 := Lib.hid B0
  clear B0
  go_wp2_with fail
  refine (claims_any HSh.out w0).mono ?_
  rintro e w1 ⟨rfl, hb1⟩
  have HB1 := Lib.hid (below_trans HB.out hb1 HB.out.size)
  have HX1 := Lib.hid (HX0.out.stays hb1)
  have HL1 := Lib.hid (HLw.out.below hb1 (Nat.le_refl _))
  clear hb1 HX0 HLw HRw HL HB hz0
  go_wp2_with fail
  refine (cut_any v l0 w1 HL1.out).mono ?_
  rintro e w2 ⟨rfl, v2, rfl, hl2⟩
  obtain ⟨l, hl⟩ : ∃ l, l = l0.take 40 := ⟨_, rfl⟩
  have hl40 : l.length ≤ 40 := by rw [hl, List.length_take]; omega
  rw [← hl] at hl2
  obtain ⟨a, c, rfl, h1, h2⟩ := hl2.form
  unfold maxLen at h2
  have HL2 := Lib.hid hl2
  clear hl hl2 HL1
  go_upto_region 4 with (fail)
  refine wp_region_lit ?_
  refine wpList_load_box (by rfl) 26 (.tmp 2) (by rfl) (w.heap.size) (by rfl) HX1.out Try.underlying26 (by rfl) (by kernel_rfl) ?_
  go_wp2_with fail
  refine (great_anyG R vp vs ve w2 (HR.out.2.1.below HB1.out (Nat.le_refl _))).mono ?_
  rintro e w3 ⟨rfl, hb3⟩
  have HB3 := Lib.hid (below_trans HB1.out hb3 HB1.out.size)
  have HX3 := Lib.hid (HX1.out.stays hb3)
  have HM3 := Lib.hid hb3
  clear hb3
  generalize decide (20 < (R.start.length : Int)) = gr at *
  cases gr
  rotate_left
  · go_wp2_with fail
    go_ret
    exact ⟨rfl, HB3.out⟩
  by_cases h0 : l.length = 0
  · have h0b : ((l.length : Int) == 0) = true := by simp [h0]
    clear h0
    go_wp2_with fail
    go_ret
    exact ⟨rfl, HB3.out⟩
  have h0b : ((l.length : Int) == 0) = false := by simp; intro e; exact h0 (by rw [e]; rfl)
  obtain ⟨n, hn⟩ : ∃ n, l.length = n + 1 := ⟨l.length - 1, by omega⟩
  have hwn : IntKind.i64.wrap ((l.length : Int) - 1) = (n : Int) := by rw [hn, Int.natCast_succ, Int.add_sub_cancel]; exact IntWalk.i64_in _ (by omega)
  have hsl : ∀ w' : World, (Instr.slice 32 (.slice a l.length c) none (some (.int .i64 (n : Int))) none).run Try.prog w' = .ok (.slice a n c) w' := fun w' =>
    run_take (P := Try.prog) (t := 32) (s := 3) Try.underlying32 (fun w => by kernel_rfl) a l.length c n (by omega) w'
  have HNL := Lib.hid hn
  have hnl : n < l.length := by omega
  clear h0 hn
  go_upto_region 6 with (fail)
  generalize w3 = wq at *
  have Bz : Box wq.drew w.heap.size [.string R.name, .int .i64 R.width, .int .i64 R.height, vp, vs, .bool R.falls, .bool R.keeps, ve, .int .i64 R.blocked, .int .i64 R.quiet, .int .i64 R.rept] 26 := HX3.out
  have Lz : Below w.heap.size w wq.drew := below_drew' HB3.out
  have Mz : Below w2.heap.size w2 wq.drew := below_drew' HM3.out
  clear HX3 HB3 HM3 h0b
  refine wp_region_noPanic ?_
  refine beginL (S := (fun w' => w'.cell? ⟨w.heap.size, 0, none⟩ = some (.string R.name) ∧ w'.cell? ⟨w.heap.size, 1, none⟩ = some (.int .i64 R.width) ∧ w'.cell? ⟨w.heap.size, 2, none⟩ = some (.int .i64 R.height) ∧ w'.cell? ⟨w.heap.size, 3, none⟩ = some vp ∧ w'.cell? ⟨w.heap.size, 4, none⟩ = some vs ∧ w'.cell? ⟨w.heap.size, 5, none⟩ = some (.bool R.falls) ∧ w'.cell? ⟨w.heap.size, 6, none⟩ = some (.bool R.keeps) ∧ w'.cell? ⟨w.heap.size, 7, none⟩ = some ve ∧ w'.cell? ⟨w.heap.size, 8, none⟩ = some (.int .i64 R.blocked) ∧ w'.cell? ⟨w.heap.size, 9, none⟩ = some (.int .i64 R.quiet) ∧ w'.cell? ⟨w.heap.size, 10, none⟩ = some (.int .i64 R.rept))) (L := [12]) (by kernel_rfl) ⟨Bz.cell 0 rfl, Bz.cell 1 rfl, Bz.cell 2 rfl, Bz.cell 3 rfl, Bz.cell 4 rfl, Bz.cell 5 rfl, Bz.cell 6 rfl, Bz.cell 7 rfl, Bz.cell 8 rfl, Bz.cell 9 rfl, Bz.cell 10 rfl⟩ (fun hHeld => ?_)
  refine takeL (i := 0) (oi := { dst := some 25, op := Op.load 26 (Operand.tmp 2), type := 26, pos := "play.go:216", after := #[], guard := none }) (v := ?va1) rfl (by kernel_rfl) (by kernel_rfl) (by kernel_rfl) (by kernel_rfl) rfl (by kernel_rfl) (by kernel_rfl) (fun _ _ _ h => h) (Or.inl ⟨by rfl, ?ya1⟩) (by assumption) ?ra1
  case ya1 => (intro w hSw; (try dsimp only at hSw); go_simp; first | done | (with_reducible rfl))
  try simp only [Act.put, List.setIfInBounds_toArray, List.set_cons_zero, List.set_cons_succ]
  refine takeW (i := 1) (oi := { dst := some 26, op := Op.move (Operand.tmp 1), type := 32, pos := "play.go:216", after := #[], guard := none }) (v := ?va2) rfl (by kernel_rfl) (by kernel_rfl) (by kernel_rfl) rfl (fun _ _ _ h => h) (Or.inl ⟨by rfl, ?ya2⟩) (fun _ => by assumption) ?ra2
  case ya2 => (intro w _; go_simp; first | done | (with_reducible rfl) | (rw [if_neg (by omega)]))
  try simp only [Act.put, List.setIfInBounds_toArray, List.set_cons_zero, List.set_cons_succ]
  refine takeW (i := 2) (oi := { dst := some 27, op := Op.move (Operand.tmp 1), type := 32, pos := "play.go:216", after := #[], guard := none }) (v := ?va3) rfl (by kernel_rfl) (by kernel_rfl) (by kernel_rfl) rfl (fun _ _ _ h => h) (Or.inl ⟨by rfl, ?ya3⟩) (fun _ => by assumption) ?ra3
  case ya3 => (intro w _; go_simp; first | done | (with_reducible rfl) | (rw [if_neg (by omega)]))
  try simp only [Act.put, List.setIfInBounds_toArray, List.set_cons_zero, List.set_cons_succ]
  refine takeW (i := 3) (oi := { dst := some 28, op := Op.call { callee := Callee.builtin Builtin.len, args := #[Operand.tmp 27], argTypes := #[32] }, type := 3, pos := "play.go:216", after := #[{ on := 2, ground := Ground.data }], guard := none }) (v := ?va4) rfl (by kernel_rfl) (by kernel_rfl) (by kernel_rfl) rfl (fun _ _ _ h => h) (Or.inl ⟨by rfl, ?ya4⟩) (fun _ => by assumption) ?ra4
  case ya4 => (intro w _; go_simp; first | done | (with_reducible rfl) | (rw [if_neg (by omega)]))
  try simp only [Act.put, List.setIfInBounds_toArray, List.set_cons_zero, List.set_cons_succ]
  refine takeW (i := 4) (oi := { dst := some 29, op := Op.binOp BinOp.sub 3 (Operand.tmp 28) (Operand.const (Value.int IntKind.i64 1)) 3, type := 3, pos := "play.go:216", after := #[{ on := 3, ground := Ground.data }], guard := none }) (v := ?va5) rfl (by kernel_rfl) (by kernel_rfl) (by kernel_rfl) rfl (fun _ _ _ h => h) (Or.inl ⟨by rfl, ?ya5⟩) (fun _ => by assumption) ?ra5
  case ya5 => (intro w _; go_simp; first | done | (with_reducible rfl) | (rw [if_neg (by omega)]))
  try simp only [Act.put, List.setIfInBounds_toArray, List.set_cons_zero, List.set_cons_succ]
  refine takeW (i := 5) (oi := { dst := some 30, op := Op.slice 32 (Operand.tmp 26) none (some (Operand.tmp 29)) none, type := 32, pos := "play.go:216", after := #[{ on := 1, ground := Ground.data }, { on := 4, ground := Ground.data }], guard := none }) (v := ?va6) rfl (by kernel_rfl) (by kernel_rfl) (by kernel_rfl) rfl (fun _ _ _ h => h) (Or.inl ⟨by rfl, ?ya6⟩) (fun _ => by assumption) ?ra6
  case ya6 => (intro w _; go_simp; first | done | (with_reducible rfl) | (rw [if_neg (by omega)]))
  try simp only [Act.put, List.setIfInBounds_toArray, List.set_cons_zero, List.set_cons_succ]
  refine readyL (rs := [6, 11]) (by kernel_rfl) (by simp) ?_
  refine (AllReadyL.cons (o := { dst := some 31, op := Op.call { callee := Callee.value (Operand.func 44), args := #[Operand.tmp 25, Operand.tmp 30], argTypes := #[26, 32] }, type := 73, pos := "play.go:216", after := #[{ on := 0, ground := Ground.data }, { on := 5, ground := Ground.data }], guard := none }) rfl (fun K hK => ?_) (AllReadyL.cons (o := { dst := some 5, op := Op.alloc 37, type := 0, pos := "play.go:216", after := #[], guard := none }) rfl (fun K hK => ?_) AllReadyL.nil))
  · skip
    go_simp
    refine (PRun_one HSh.out R vp vs ve _ (l.take n) _ (HR.out.below Lz (Nat.le_refl _)) HN.out (RdL.take (HL2.out.below Mz (Nat.le_refl _)) n (by omega))).mono ?_
    rintro e w6 ⟨q6, a06, a16, a26, c06, c16, c26, x6, er6, rfl, hh6, her6, hok6, hb6⟩
    have HER6 := Lib.hid her6
    have HOK6 := Lib.hid hok6
    clear her6 hok6
    have B6 := Bz.stays hb6
    have L6 := below_trans Lz hb6 Lz.size
    have M6 := below_trans Mz hb6 Mz.size
    have P6 : Held (fun k => k = w6.heap.size) w6 fun w' => RdP w' q6 (.slice a06 q6.cells.length c06) (.slice a16 q6.h0.length c16) (.slice a26 q6.h1.length c26) := hh6 _ (fun k _ hk hk2 => by omega)
    have Z6 : w2.heap.size ≤ w6.heap.size := M6.size
    clear hb6 hh6
    refine hK.out _ _ ⟨B6.cell 0 rfl, B6.cell 1 rfl, B6.cell 2 rfl, B6.cell 3 rfl, B6.cell 4 rfl, B6.cell 5 rfl, B6.cell 6 rfl, B6.cell 7 rfl, B6.cell 8 rfl, B6.cell 9 rfl, B6.cell 10 rfl⟩ (fun hHeld => ?_)
    clear hK K
    try simp only [Act.put, List.setIfInBounds_toArray, List.set_cons_zero, List.set_cons_succ]
    refine takeW (i := 7) (oi := { dst := some 24, op := Op.move (Operand.tmp 31), type := 73, pos := "play.go:216", after := #[{ on := 6, ground := Ground.data }], guard := none }) (v := ?va7) rfl (by kernel_rfl) (by kernel_rfl) (by kernel_rfl) rfl (fun _ _ _ h => h) (Or.inl ⟨by rfl, ?ya7⟩) (fun _ => by assumption) ?ra7
    case ya7 => (intro w _; go_simp; first | done | (with_reducible rfl) | (rw [if_neg (by omega)]))
    try simp only [Act.put, List.setIfInBounds_toArray, List.set_cons_zero, List.set_cons_succ]
    refine takeW (i := 8) (oi := { dst := some 32, op := Op.extract (Operand.tmp 24) 0, type := 37, pos := "play.go:216", after := #[{ on := 7, ground := Ground.data }], guard := none }) (v := ?va8) rfl (by kernel_rfl) (by kernel_rfl) (by kernel_rfl) rfl (fun _ _ _ h => h) (Or.inl ⟨by rfl, ?ya8⟩) (fun _ => by assumption) ?ra8
    case ya8 => (intro w _; go_simp; first | done | (with_reducible rfl) | (rw [if_neg (by omega)]))
    try simp only [Act.put, List.setIfInBounds_toArray, List.set_cons_zero, List.set_cons_succ]
    refine takeW (i := 9) (oi := { dst := some 33, op := Op.extract (Operand.tmp 24) 1, type := 3, pos := "play.go:216", after := #[{ on := 7, ground := Ground.data }, { on := 12, ground := Ground.gcOnly Departure.lateStores }], guard := none }) (v := ?va9) rfl (by kernel_rfl) (by kernel_rfl) (by kernel_rfl) rfl (fun _ _ _ h => h) (Or.inl ⟨by rfl, ?ya9⟩) (fun _ => by assumption) ?ra9
    case ya9 => (intro w _; go_simp; first | done | (with_reducible rfl) | (rw [if_neg (by omega)]))
    try simp only [Act.put, List.setIfInBounds_toArray, List.set_cons_zero, List.set_cons_succ]
    refine takeW (i := 10) (oi := { dst := some 34, op := Op.extract (Operand.tmp 24) 2, type := 29, pos := "play.go:216", after := #[{ on := 7, ground := Ground.data }, { on := 13, ground := Ground.gcOnly Departure.lateStores }], guard := none }) (v := ?va10) rfl (by kernel_rfl) (by kernel_rfl) (by kernel_rfl) rfl (fun _ _ _ h => h) (Or.inl ⟨by rfl, ?ya10⟩) (fun _ => by assumption) ?ra10
    case ya10 => (intro w _; go_simp; first | done | (with_reducible rfl) | (rw [if_neg (by omega)]))
    try simp only [Act.put, List.setIfInBounds_toArray, List.set_cons_zero, List.set_cons_succ]
    refine readyL (rs := [11]) (by kernel_rfl) (by simp) ?_
    refine (AllReadyL.cons (o := { dst := some 5, op := Op.alloc 37, type := 0, pos := "play.go:216", after := #[], guard := none }) rfl (fun K hK => ?_) AllReadyL.nil)
    go_simp
    refine K_world ?_
    intro w11 e11
    have hb11 : Below w6.heap.size w6 w11 := by rw [e11]; exact (Below.refl _ _).alloc (Nat.le_refl _) _
    have X11 : Box w11 w6.heap.size [.slice none 0 0, .slice none 0 0, .slice none 0 0, .int .i64 0, .int .i64 0] 37 := by rw [e11]; exact Box.new' _ _ _ _ rfl
    have B11 := B6.stays hb11
    have L11 := below_trans L6 hb11 L6.size
    have M11 := below_trans M6 hb11 M6.size
    have P11 := P6.step (Fr.of_new (S := fun k => k = w6.heap.size) hb11) (Shr.refl _ _)
    clear hb11 e11
    refine hK.out _ _ ⟨B11.cell 0 rfl, B11.cell 1 rfl, B11.cell 2 rfl, B11.cell 3 rfl, B11.cell 4 rfl, B11.cell 5 rfl, B11.cell 6 rfl, B11.cell 7 rfl, B11.cell 8 rfl, B11.cell 9 rfl, B11.cell 10 rfl⟩ (fun hHeld => ?_)
    clear hK K
    try simp only [Act.put, List.setIfInBounds_toArray, List.set_cons_zero, List.set_cons_succ]
    refine readyL (rs := [12]) (by kernel_rfl) (by simp) ?_
    refine (AllReadyL.late (o := { dst := none, op := Op.store 37 (Operand.tmp 5) (Operand.tmp 32), type := 0, pos := "play.go:216", after := #[{ on := 11, ground := Ground.data }, { on := 8, ground := Ground.data }, { on := 6, ground := Ground.chain }, { on := 0, ground := Ground.phase }, { on := 1, ground := Ground.phase }, { on := 2, ground := Ground.phase }, { on := 3, ground := Ground.phase }, { on := 4, ground := Ground.phase }, { on := 5, ground := Ground.phase }, { on := 6, ground := Ground.phase }, { on := 7, ground := Ground.phase }, { on := 8, ground := Ground.phase }, { on := 9, ground := Ground.textOnly Departure.lateStores }, { on := 10, ground := Ground.textOnly Departure.lateStores }, { on := 11, ground := Ground.phase }], guard := none }) rfl (by kernel_rfl) (fun K hK => ?_) AllReadyL.nil)
    have d0 := X11.cell 0 rfl
    have d1 := X11.cell 1 rfl
    have d2 := X11.cell 2 rfl
    have d3 := X11.cell 3 rfl
    have d4 := X11.cell 4 rfl
    have df0 := X11.frozen 0
    have df1 := X11.frozen 1
    have df2 := X11.frozen 2
    have df3 := X11.frozen 3
    have df4 := X11.frozen 4
    go_simp
    refine K_world ?_
    intro w12 e12
    have E12 : w12 = w11.setCells (w6.heap.size) 0 [.slice a06 q6.cells.length c06, .slice a16 q6.h0.length c16, .slice a26 q6.h1.length c26, .int .i64 q6.turn, .int .i64 q6.quiet] := e12
    clear e12 d0 df0 d1 df1 d2 df2 d3 df3 d4 df4
    have hz12 : w2.heap.size ≤ w6.heap.size := Z6
    have hz11 : w.heap.size < w2.heap.size := HX1.out.lt
    have X12 : Box w12 (w6.heap.size) [.slice a06 q6.cells.length c06, .slice a16 q6.h0.length c16, .slice a26 q6.h1.length c26, .int .i64 q6.turn, .int .i64 q6.quiet] 37 := by rw [E12]; exact X11.store rfl
    have B12 : Box w12 w.heap.size [.string R.name, .int .i64 R.width, .int .i64 R.height, vp, vs, .bool R.falls, .bool R.keeps, ve, .int .i64 R.blocked, .int .i64 R.quiet, .int .i64 R.rept] 26 := by rw [E12]; exact B11.farAll (show w.heap.size ≠ w6.heap.size by omega) 0 _
    have L12 : Below w.heap.size w w12 := by rw [E12]; exact below_setCells L11 (show w.heap.size ≤ w6.heap.size by omega) 0 _
    have M12 : Below w2.heap.size w2 w12 := by rw [E12]; exact below_setCells M11 (show w2.heap.size ≤ w6.heap.size by omega) 0 _
    have P12 : Held (fun k => k = w6.heap.size) w12 fun w' => RdP w' q6 (.slice a06 q6.cells.length c06) (.slice a16 q6.h0.length c16) (.slice a26 q6.h1.length c26) := P11.step (by rw [E12]; exact (Fr.refl _ _).setCells (by rfl) 0 _) (Shr.refl _ _)
    clear E12 hz12 hz11
    refine hK.out _ _ ?_
    clear hK K
    try simp only [Act.put, List.setIfInBounds_toArray, List.set_cons_zero, List.set_cons_succ]
    refine takeW (i := 13) (oi := { dst := some 6, op := Op.assign (Operand.tmp 33), type := 3, pos := "play.go:216", after := #[{ on := 9, ground := Ground.data }, { on := 12, ground := Ground.chain }, { on := 0, ground := Ground.phase }, { on := 1, ground := Ground.phase }, { on := 2, ground := Ground.phase }, { on := 3, ground := Ground.phase }, { on := 4, ground := Ground.phase }, { on := 5, ground := Ground.phase }, { on := 6, ground := Ground.phase }, { on := 7, ground := Ground.phase }, { on := 8, ground := Ground.phase }, { on := 9, ground := Ground.phase }, { on := 10, ground := Ground.textOnly Departure.lateStores }, { on := 11, ground := Ground.phase }, { on := 12, ground := Ground.phase }], guard := none }) (v := ?va11) rfl (by kernel_rfl) (by kernel_rfl) (by kernel_rfl) rfl (fun _ _ _ h => h) (Or.inl ⟨by rfl, ?ya11⟩) (fun he => by cases he) ?ra11
    case ya11 => (intro w _; go_simp; first | done | (with_reducible rfl) | (rw [if_neg (by omega)]))
    try simp only [Act.put, List.setIfInBounds_toArray, List.set_cons_zero, List.set_cons_succ]
    refine takeW (i := 14) (oi := { dst := some 7, op := Op.assign (Operand.tmp 34), type := 29, pos := "play.go:216", after := #[{ on := 10, ground := Ground.data }, { on := 13, ground := Ground.chain }, { on := 0, ground := Ground.phase }, { on := 1, ground := Ground.phase }, { on := 2, ground := Ground.phase }, { on := 3, ground := Ground.phase }, { on := 4, ground := Ground.phase }, { on := 5, ground := Ground.phase }, { on := 6, ground := Ground.phase }, { on := 7, ground := Ground.phase }, { on := 8, ground := Ground.phase }, { on := 9, ground := Ground.phase }, { on := 10, ground := Ground.phase }, { on := 11, ground := Ground.phase }, { on := 12, ground := Ground.phase }, { on := 13, ground := Ground.phase }], guard := none }) (v := ?va12) rfl (by kernel_rfl) (by kernel_rfl) (by kernel_rfl) rfl (fun _ _ _ h => h) (Or.inl ⟨by rfl, ?ya12⟩) (fun he => by cases he) ?ra12
    case ya12 => (intro w _; go_simp; first | done | (with_reducible rfl) | (rw [if_neg (by omega)]))
    try simp only [Act.put, List.setIfInBounds_toArray, List.set_cons_zero, List.set_cons_succ]
    refine doneL (by kernel_rfl) ?_ _
    refine NoPanic.normal ?_
    have HX12 := Lib.hid X12
    have HB12 := Lib.hid B12
    have HL12 := Lib.hid L12
    have HM12 := Lib.hid M12
    have HP12 := Lib.hid P12.now
    clear X12 B12 L12 M12 P12 hHeld Bz Lz Mz B6 L6 M6 P6 B11 L11 M11 X11 P11 Z6
    go_upto_region 7 with (fail)
    refine wp_region_lit ?_
    refine wpList_load_box (by rfl) 26 (.tmp 2) (by rfl) (w.heap.size) (by rfl) HB12.out Try.underlying26 (by rfl) (by kernel_rfl) ?_
    go_wp2_with fail
    refine (PRun_one HSh.out R vp vs ve _ l w12 (HR.out.below HL12.out (Nat.le_refl _)) HN.out (HL2.out.below HM12.out (Nat.le_refl _))).mono ?_
    rintro e w7 ⟨q7, a07, a17, a27, c07, c17, c27, x7, er7, rfl, -, her7, hok7, hb7⟩
    have HER7 := Lib.hid her7
    have HOK7 := Lib.hid hok7
    have HX7 := Lib.hid ((HX12.out.stays hb7).alloc (.cells #[.slice a07 q7.cells.length c07, .slice a17 q7.h0.length c17, .slice a27 q7.h1.length c27, .int .i64 q7.turn, .int .i64 q7.quiet] 37))
    have HB7 := Lib.hid ((HB12.out.stays hb7).alloc (.cells #[.slice a07 q7.cells.length c07, .slice a17 q7.h0.length c17, .slice a27 q7.h1.length c27, .int .i64 q7.turn, .int .i64 q7.quiet] 37))
    have hl7 := below_trans HL12.out hb7 HL12.out.size
    have HL7 := Lib.hid (hl7.alloc hl7.size (.cells #[.slice a07 q7.cells.length c07, .slice a17 q7.h0.length c17, .slice a27 q7.h1.length c27, .int .i64 q7.turn, .int .i64 q7.quiet] 37))
    have hp7 := (HP12.out.below hb7 (Nat.le_refl _))
    have HP7 := Lib.hid (hp7.below ((Below.refl w7.heap.size w7).alloc (Nat.le_refl _) (.cells #[.slice a07 q7.cells.length c07, .slice a17 q7.h0.length c17, .slice a27 q7.h1.length c27, .int .i64 q7.turn, .int .i64 q7.quiet] 37)) (Nat.le_refl _))
    clear her7 hok7 hb7 hl7 hp7 HX12 HB12 HL12 HM12 HP12
    go_upto_region 8 with (fail)
    generalize (w7.alloc (.cells #[.slice a07 q7.cells.length c07, .slice a17 q7.h0.length c17, .slice a27 q7.h1.length c27, .int .i64 q7.turn, .int .i64 q7.quiet] 37)) = w8 at *
    by_cases h6 : er6 = 0
    rotate_left
    · have h6b : (er6 != 0) = true := by simpa using h6
      clear h6
      go_wp2_with fail
      go_ret
      exact ⟨rfl, HL7.out⟩
    by_cases h7 : er7 = 0
    rotate_left
    · have h7b : (er7 != 0) = true := by simpa using h7
      clear h7
      rw [h6]
      clear h6
      go_wp2_with fail
      go_ret
      exact ⟨rfl, HL7.out⟩
    by_cases hx : x7 = 1 ∨ x7 = 2
    rotate_left
    · have x1 : (x7 != 1) = true := by simp; omega
      have x2 : (x7 != 2) = true := by simp; omega
      rw [h6, h7]
      clear h6 h7 hx
      go_wp2_with fail
      go_ret
      exact ⟨rfl, HL7.out⟩
    obtain ⟨hq6, -⟩ := HOK6.out h6
    obtain ⟨-, hx7⟩ := HOK7.out h7
    obtain ⟨w0', e1', e2'⟩ := wins_law (R := R) (l := l) (n := n) HNL.out (by rw [← HER7.out]; exact h7) (by rw [← hx7]; exact hx)
    rw [← hq6, ← hx7] at e1' e2'
    have HE1 := Lib.hid e1'
    have HE2 := Lib.hid e2'
    have hwx : IntKind.i64.wrap (x7 - 1) = x7 - 1 := IntWalk.i64_in _ (by omega)
    have hxx : ((x7 != 1) = true ∧ (x7 != 2) = false) ∨ (x7 != 1) = false := by rcases hx with h | h <;> simp [h]
    clear hq6 hx7 w0' e1' e2' hx
    rw [h6, h7]
    clear h6 h7
    rcases hxx with ⟨x1, x2⟩ | x1
    · go_upto_region 10 with (fail)
      refine wp_region_lit ?_
      refine wpList_load_box (by rfl) 26 (.tmp 2) (by rfl) (w.heap.size) (by rfl) HB7.out Try.underlying26 (by rfl) (by kernel_rfl) ?_
      refine wpList_load_box (by rfl) 37 (.tmp 5) (by rfl) (w6.heap.size) (by rfl) HX7.out Try.underlying37 (by rfl) (by kernel_rfl) ?_
      go_wp2_with fail
      refine (Able_any R vp vs ve q6 (.slice a06 q6.cells.length c06) (.slice a16 q6.h0.length c16) (.slice a26 q6.h1.length c26) (x7 - 1) w8 (HR.out.below HL7.out (Nat.le_refl _)) HN.out HP7.out).mono ?_
      rintro e w9 ⟨he9, hb9⟩
      rw [HE1.out, HE2.out] at he9
      subst he9
      have HL9 := Lib.hid (below_trans HL7.out hb9 HL7.out.size)
      clear hb9
      go_wp2_with fail
      go_ret
      exact ⟨rfl, HL9.out⟩
    · go_upto_region 10 with (fail)
      refine wp_region_lit ?_
      refine wpList_load_box (by rfl) 26 (.tmp 2) (by rfl) (w.heap.size) (by rfl) HB7.out Try.underlying26 (by rfl) (by kernel_rfl) ?_
      refine wpList_load_box (by rfl) 37 (.tmp 5) (by rfl) (w6.heap.size) (by rfl) HX7.out Try.underlying37 (by rfl) (by kernel_rfl) ?_
      go_wp2_with fail
      refine (Able_any R vp vs ve q6 (.slice a06 q6.cells.length c06) (.slice a16 q6.h0.length c16) (.slice a26 q6.h1.length c26) (x7 - 1) w8 (HR.out.below HL7.out (Nat.le_refl _)) HN.out HP7.out).mono ?_
      rintro e w9 ⟨he9, hb9⟩
      rw [HE1.out, HE2.out] at he9
      subst he9
      have HL9 := Lib.hid (below_trans HL7.out hb9 HL7.out.size)
      clear hb9
      go_wp2_with fail
      go_ret
      exact ⟨rfl, HL9.out⟩
  · skip
    go_simp
    refine K_world ?_
    intro w11 e11
    have hb11 : Below wq.drew.heap.size wq.drew w11 := by rw [e11]; exact (Below.refl _ _).alloc (Nat.le_refl _) _
    have X11 : Box w11 wq.heap.size [.slice none 0 0, .slice none 0 0, .slice none 0 0, .int .i64 0, .int .i64 0] 37 := by rw [e11]; exact Box.new' _ _ _ _ rfl
    have B11 := Bz.stays hb11
    have L11 := below_trans Lz hb11 Lz.size
    have M11 := below_trans Mz hb11 Mz.size
    clear hb11 e11
    refine hK.out _ _ ⟨B11.cell 0 rfl, B11.cell 1 rfl, B11.cell 2 rfl, B11.cell 3 rfl, B11.cell 4 rfl, B11.cell 5 rfl, B11.cell 6 rfl, B11.cell 7 rfl, B11.cell 8 rfl, B11.cell 9 rfl, B11.cell 10 rfl⟩ (fun hHeld => ?_)
    clear hK K
    try simp only [Act.put, List.setIfInBounds_toArray, List.set_cons_zero, List.set_cons_succ]
    refine readyL (rs := [6]) (by kernel_rfl) (by simp) ?_
    refine (AllReadyL.cons (o := { dst := some 31, op := Op.call { callee := Callee.value (Operand.func 44), args := #[Operand.tmp 25, Operand.tmp 30], argTypes := #[26, 32] }, type := 73, pos := "play.go:216", after := #[{ on := 0, ground := Ground.data }, { on := 5, ground := Ground.data }], guard := none }) rfl (fun K hK => ?_) AllReadyL.nil)
    go_simp
    refine (PRun_one HSh.out R vp vs ve _ (l.take n) _ (HR.out.below L11 (Nat.le_refl _)) HN.out (RdL.take (HL2.out.below M11 (Nat.le_refl _)) n (by omega))).mono ?_
    rintro e w6 ⟨q6, a06, a16, a26, c06, c16, c26, x6, er6, rfl, hh6, her6, hok6, hb6⟩
    have HER6 := Lib.hid her6
    have HOK6 := Lib.hid hok6
    clear her6 hok6
    have B6 := B11.stays hb6
    have L6 := below_trans L11 hb6 L11.size
    have M6 := below_trans M11 hb6 M11.size
    have X6 := X11.stays hb6
    have P6 : Held (fun k => k = wq.heap.size) w6 fun w' => RdP w' q6 (.slice a06 q6.cells.length c06) (.slice a16 q6.h0.length c16) (.slice a26 q6.h1.length c26) := hh6 _ (fun k hk _ hk2 => by have := X11.lt; omega)
    clear hb6 hh6
    refine hK.out _ _ ⟨B6.cell 0 rfl, B6.cell 1 rfl, B6.cell 2 rfl, B6.cell 3 rfl, B6.cell 4 rfl, B6.cell 5 rfl, B6.cell 6 rfl, B6.cell 7 rfl, B6.cell 8 rfl, B6.cell 9 rfl, B6.cell 10 rfl⟩ (fun hHeld => ?_)
    clear hK K
    try simp only [Act.put, List.setIfInBounds_toArray, List.set_cons_zero, List.set_cons_succ]
    refine takeW (i := 7) (oi := { dst := some 24, op := Op.move (Operand.tmp 31), type := 73, pos := "play.go:216", after := #[{ on := 6, ground := Ground.data }], guard := none }) (v := ?va13) rfl (by kernel_rfl) (by kernel_rfl) (by kernel_rfl) rfl (fun _ _ _ h => h) (Or.inl ⟨by rfl, ?ya13⟩) (fun _ => by assumption) ?ra13
    case ya13 => (intro w _; go_simp; first | done | (with_reducible rfl) | (rw [if_neg (by omega)]))
    try simp only [Act.put, List.setIfInBounds_toArray, List.set_cons_zero, List.set_cons_succ]
    refine takeW (i := 8) (oi := { dst := some 32, op := Op.extract (Operand.tmp 24) 0, type := 37, pos := "play.go:216", after := #[{ on := 7, ground := Ground.data }], guard := none }) (v := ?va14) rfl (by kernel_rfl) (by kernel_rfl) (by kernel_rfl) rfl (fun _ _ _ h => h) (Or.inl ⟨by rfl, ?ya14⟩) (fun _ => by assumption) ?ra14
    case ya14 => (intro w _; go_simp; first | done | (with_reducible rfl) | (rw [if_neg (by omega)]))
    try simp only [Act.put, List.setIfInBounds_toArray, List.set_cons_zero, List.set_cons_succ]
    refine takeW (i := 9) (oi := { dst := some 33, op := Op.extract (Operand.tmp 24) 1, type := 3, pos := "play.go:216", after := #[{ on := 7, ground := Ground.data }, { on := 12, ground := Ground.gcOnly Departure.lateStores }], guard := none }) (v := ?va15) rfl (by kernel_rfl) (by kernel_rfl) (by kernel_rfl) rfl (fun _ _ _ h => h) (Or.inl ⟨by rfl, ?ya15⟩) (fun _ => by assumption) ?ra15
    case ya15 => (intro w _; go_simp; first | done | (with_reducible rfl) | (rw [if_neg (by omega)]))
    try simp only [Act.put, List.setIfInBounds_toArray, List.set_cons_zero, List.set_cons_succ]
    refine takeW (i := 10) (oi := { dst := some 34, op := Op.extract (Operand.tmp 24) 2, type := 29, pos := "play.go:216", after := #[{ on := 7, ground := Ground.data }, { on := 13, ground := Ground.gcOnly Departure.lateStores }], guard := none }) (v := ?va16) rfl (by kernel_rfl) (by kernel_rfl) (by kernel_rfl) rfl (fun _ _ _ h => h) (Or.inl ⟨by rfl, ?ya16⟩) (fun _ => by assumption) ?ra16
    case ya16 => (intro w _; go_simp; first | done | (with_reducible rfl) | (rw [if_neg (by omega)]))
    try simp only [Act.put, List.setIfInBounds_toArray, List.set_cons_zero, List.set_cons_succ]
    refine readyL (rs := [12]) (by kernel_rfl) (by simp) ?_
    refine (AllReadyL.late (o := { dst := none, op := Op.store 37 (Operand.tmp 5) (Operand.tmp 32), type := 0, pos := "play.go:216", after := #[{ on := 11, ground := Ground.data }, { on := 8, ground := Ground.data }, { on := 6, ground := Ground.chain }, { on := 0, ground := Ground.phase }, { on := 1, ground := Ground.phase }, { on := 2, ground := Ground.phase }, { on := 3, ground := Ground.phase }, { on := 4, ground := Ground.phase }, { on := 5, ground := Ground.phase }, { on := 6, ground := Ground.phase }, { on := 7, ground := Ground.phase }, { on := 8, ground := Ground.phase }, { on := 9, ground := Ground.textOnly Departure.lateStores }, { on := 10, ground := Ground.textOnly Departure.lateStores }, { on := 11, ground := Ground.phase }], guard := none }) rfl (by kernel_rfl) (fun K hK => ?_) AllReadyL.nil)
    have d0 := X6.cell 0 rfl
    have d1 := X6.cell 1 rfl
    have d2 := X6.cell 2 rfl
    have d3 := X6.cell 3 rfl
    have d4 := X6.cell 4 rfl
    have df0 := X6.frozen 0
    have df1 := X6.frozen 1
    have df2 := X6.frozen 2
    have df3 := X6.frozen 3
    have df4 := X6.frozen 4
    go_simp
    refine K_world ?_
    intro w12 e12
    have E12 : w12 = w6.setCells (wq.heap.size) 0 [.slice a06 q6.cells.length c06, .slice a16 q6.h0.length c16, .slice a26 q6.h1.length c26, .int .i64 q6.turn, .int .i64 q6.quiet] := e12
    clear e12 d0 df0 d1 df1 d2 df2 d3 df3 d4 df4
    have hz12 : w2.heap.size ≤ wq.heap.size := Mz.size
    have hz11 : w.heap.size < w2.heap.size := HX1.out.lt
    have X12 : Box w12 (wq.heap.size) [.slice a06 q6.cells.length c06, .slice a16 q6.h0.length c16, .slice a26 q6.h1.length c26, .int .i64 q6.turn, .int .i64 q6.quiet] 37 := by rw [E12]; exact X6.store rfl
    have B12 : Box w12 w.heap.size [.string R.name, .int .i64 R.width, .int .i64 R.height, vp, vs, .bool R.falls, .bool R.keeps, ve, .int .i64 R.blocked, .int .i64 R.quiet, .int .i64 R.rept] 26 := by rw [E12]; exact B6.farAll (show w.heap.size ≠ wq.heap.size by omega) 0 _
    have L12 : Below w.heap.size w w12 := by rw [E12]; exact below_setCells L6 (show w.heap.size ≤ wq.heap.size by omega) 0 _
    have M12 : Below w2.heap.size w2 w12 := by rw [E12]; exact below_setCells M6 (show w2.heap.size ≤ wq.heap.size by omega) 0 _
    have P12 : Held (fun k => k = wq.heap.size) w12 fun w' => RdP w' q6 (.slice a06 q6.cells.length c06) (.slice a16 q6.h0.length c16) (.slice a26 q6.h1.length c26) := P6.step (by rw [E12]; exact (Fr.refl _ _).setCells (by rfl) 0 _) (Shr.refl _ _)
    clear E12 hz12 hz11
    refine hK.out _ _ ?_
    clear hK K
    try simp only [Act.put, List.setIfInBounds_toArray, List.set_cons_zero, List.set_cons_succ]
    refine takeW (i := 13) (oi := { dst := some 6, op := Op.assign (Operand.tmp 33), type := 3, pos := "play.go:216", after := #[{ on := 9, ground := Ground.data }, { on := 12, ground := Ground.chain }, { on := 0, ground := Ground.phase }, { on := 1, ground := Ground.phase }, { on := 2, ground := Ground.phase }, { on := 3, ground := Ground.phase }, { on := 4, ground := Ground.phase }, { on := 5, ground := Ground.phase }, { on := 6, ground := Ground.phase }, { on := 7, ground := Ground.phase }, { on := 8, ground := Ground.phase }, { on := 9, ground := Ground.phase }, { on := 10, ground := Ground.textOnly Departure.lateStores }, { on := 11, ground := Ground.phase }, { on := 12, ground := Ground.phase }], guard := none }) (v := ?va17) rfl (by kernel_rfl) (by kernel_rfl) (by kernel_rfl) rfl (fun _ _ _ h => h) (Or.inl ⟨by rfl, ?ya17⟩) (fun he => by cases he) ?ra17
    case ya17 => (intro w _; go_simp; first | done | (with_reducible rfl) | (rw [if_neg (by omega)]))
    try simp only [Act.put, List.setIfInBounds_toArray, List.set_cons_zero, List.set_cons_succ]
    refine takeW (i := 14) (oi := { dst := some 7, op := Op.assign (Operand.tmp 34), type := 29, pos := "play.go:216", after := #[{ on := 10, ground := Ground.data }, { on := 13, ground := Ground.chain }, { on := 0, ground := Ground.phase }, { on := 1, ground := Ground.phase }, { on := 2, ground := Ground.phase }, { on := 3, ground := Ground.phase }, { on := 4, ground := Ground.phase }, { on := 5, ground := Ground.phase }, { on := 6, ground := Ground.phase }, { on := 7, ground := Ground.phase }, { on := 8, ground := Ground.phase }, { on := 9, ground := Ground.phase }, { on := 10, ground := Ground.phase }, { on := 11, ground := Ground.phase }, { on := 12, ground := Ground.phase }, { on := 13, ground := Ground.phase }], guard := none }) (v := ?va18) rfl (by kernel_rfl) (by kernel_rfl) (by kernel_rfl) rfl (fun _ _ _ h => h) (Or.inl ⟨by rfl, ?ya18⟩) (fun he => by cases he) ?ra18
    case ya18 => (intro w _; go_simp; first | done | (with_reducible rfl) | (rw [if_neg (by omega)]))
    try simp only [Act.put, List.setIfInBounds_toArray, List.set_cons_zero, List.set_cons_succ]
    refine doneL (by kernel_rfl) ?_ _
    refine NoPanic.normal ?_
    have HX12 := Lib.hid X12
    have HB12 := Lib.hid B12
    have HL12 := Lib.hid L12
    have HM12 := Lib.hid M12
    have HP12 := Lib.hid P12.now
    clear X12 B12 L12 M12 P12 hHeld Bz Lz Mz B6 L6 M6 P6 B11 L11 M11 X11 X6
    go_upto_region 7 with (fail)
    refine wp_region_lit ?_
    refine wpList_load_box (by rfl) 26 (.tmp 2) (by rfl) (w.heap.size) (by rfl) HB12.out Try.underlying26 (by rfl) (by kernel_rfl) ?_
    go_wp2_with fail
    refine (PRun_one HSh.out R vp vs ve _ l w12 (HR.out.below HL12.out (Nat.le_refl _)) HN.out (HL2.out.below HM12.out (Nat.le_refl _))).mono ?_
    rintro e w7 ⟨q7, a07, a17, a27, c07, c17, c27, x7, er7, rfl, -, her7, hok7, hb7⟩
    have HER7 := Lib.hid her7
    have HOK7 := Lib.hid hok7
    have HX7 := Lib.hid ((HX12.out.stays hb7).alloc (.cells #[.slice a07 q7.cells.length c07, .slice a17 q7.h0.length c17, .slice a27 q7.h1.length c27, .int .i64 q7.turn, .int .i64 q7.quiet] 37))
    have HB7 := Lib.hid ((HB12.out.stays hb7).alloc (.cells #[.slice a07 q7.cells.length c07, .slice a17 q7.h0.length c17, .slice a27 q7.h1.length c27, .int .i64 q7.turn, .int .i64 q7.quiet] 37))
    have hl7 := below_trans HL12.out hb7 HL12.out.size
    have HL7 := Lib.hid (hl7.alloc hl7.size (.cells #[.slice a07 q7.cells.length c07, .slice a17 q7.h0.length c17, .slice a27 q7.h1.length c27, .int .i64 q7.turn, .int .i64 q7.quiet] 37))
    have hp7 := (HP12.out.below hb7 (Nat.le_refl _))
    have HP7 := Lib.hid (hp7.below ((Below.refl w7.heap.size w7).alloc (Nat.le_refl _) (.cells #[.slice a07 q7.cells.length c07, .slice a17 q7.h0.length c17, .slice a27 q7.h1.length c27, .int .i64 q7.turn, .int .i64 q7.quiet] 37)) (Nat.le_refl _))
    clear her7 hok7 hb7 hl7 hp7 HX12 HB12 HL12 HM12 HP12
    go_upto_region 8 with (fail)
    generalize (w7.alloc (.cells #[.slice a07 q7.cells.length c07, .slice a17 q7.h0.length c17, .slice a27 q7.h1.length c27, .int .i64 q7.turn, .int .i64 q7.quiet] 37)) = w8 at *
    by_cases h6 : er6 = 0
    rotate_left
    · have h6b : (er6 != 0) = true := by simpa using h6
      clear h6
      go_wp2_with fail
      go_ret
      exact ⟨rfl, HL7.out⟩
    by_cases h7 : er7 = 0
    rotate_left
    · have h7b : (er7 != 0) = true := by simpa using h7
      clear h7
      rw [h6]
      clear h6
      go_wp2_with fail
      go_ret
      exact ⟨rfl, HL7.out⟩
    by_cases hx : x7 = 1 ∨ x7 = 2
    rotate_left
    · have x1 : (x7 != 1) = true := by simp; omega
      have x2 : (x7 != 2) = true := by simp; omega
      rw [h6, h7]
      clear h6 h7 hx
      go_wp2_with fail
      go_ret
      exact ⟨rfl, HL7.out⟩
    obtain ⟨hq6, -⟩ := HOK6.out h6
    obtain ⟨-, hx7⟩ := HOK7.out h7
    obtain ⟨w0', e1', e2'⟩ := wins_law (R := R) (l := l) (n := n) HNL.out (by rw [← HER7.out]; exact h7) (by rw [← hx7]; exact hx)
    rw [← hq6, ← hx7] at e1' e2'
    have HE1 := Lib.hid e1'
    have HE2 := Lib.hid e2'
    have hwx : IntKind.i64.wrap (x7 - 1) = x7 - 1 := IntWalk.i64_in _ (by omega)
    have hxx : ((x7 != 1) = true ∧ (x7 != 2) = false) ∨ (x7 != 1) = false := by rcases hx with h | h <;> simp [h]
    clear hq6 hx7 w0' e1' e2' hx
    rw [h6, h7]
    clear h6 h7
    rcases hxx with ⟨x1, x2⟩ | x1
    · go_upto_region 10 with (fail)
      refine wp_region_lit ?_
      refine wpList_load_box (by rfl) 26 (.tmp 2) (by rfl) (w.heap.size) (by rfl) HB7.out Try.underlying26 (by rfl) (by kernel_rfl) ?_
      refine wpList_load_box (by rfl) 37 (.tmp 5) (by rfl) (wq.heap.size) (by rfl) HX7.out Try.underlying37 (by rfl) (by kernel_rfl) ?_
      go_wp2_with fail
      refine (Able_any R vp vs ve q6 (.slice a06 q6.cells.length c06) (.slice a16 q6.h0.length c16) (.slice a26 q6.h1.length c26) (x7 - 1) w8 (HR.out.below HL7.out (Nat.le_refl _)) HN.out HP7.out).mono ?_
      rintro e w9 ⟨he9, hb9⟩
      rw [HE1.out, HE2.out] at he9
      subst he9
      have HL9 := Lib.hid (below_trans HL7.out hb9 HL7.out.size)
      clear hb9
      go_wp2_with fail
      go_ret
      exact ⟨rfl, HL9.out⟩
    · go_upto_region 10 with (fail)
      refine wp_region_lit ?_
      refine wpList_load_box (by rfl) 26 (.tmp 2) (by rfl) (w.heap.size) (by rfl) HB7.out Try.underlying26 (by rfl) (by kernel_rfl) ?_
      refine wpList_load_box (by rfl) 37 (.tmp 5) (by rfl) (wq.heap.size) (by rfl) HX7.out Try.underlying37 (by rfl) (by kernel_rfl) ?_
      go_wp2_with fail
      refine (Able_any R vp vs ve q6 (.slice a06 q6.cells.length c06) (.slice a16 q6.h0.length c16) (.slice a26 q6.h1.length c26) (x7 - 1) w8 (HR.out.below HL7.out (Nat.le_refl _)) HN.out HP7.out).mono ?_
      rintro e w9 ⟨he9, hb9⟩
      rw [HE1.out, HE2.out] at he9
      subst he9
      have HL9 := Lib.hid (below_trans HL7.out hb9 HL7.out.size)
      clear hb9
      go_wp2_with fail
      go_ret
      exact ⟨rfl, HL9.out⟩
end Go.Proofs.Ytkfaibdflbdpgaa.claimWins

/- GmC: GameD, GameR, in one text. -/
import Derived.Test.YtnieifdogllbfaaGmB
/- The contract of plain's Play. -/
namespace Go.Proofs.Ytnieifdogllbfaa
open Go.ChangeShapes Go.WideShapes Go.ChangeAt Go.RowKit
set_option linter.unusedVariables false

theorem info_pv : (Try.prog.info? 43).map (fun i => (i.zero, i.size, i.bytes)) = some (some (.agg #[.slice none 0 0, .slice none 0 0, .slice none 0 0, .int .i64 0, .int .i64 0]), 5, 88) := by kernel_rfl
theorem five_pv {a a' a'' : Option Addr} {n n' n'' c c' c'' : Nat} {x y : Int} : ∀ u ∈ [Value.slice a n c, .slice a' n' c', .slice a'' n'' c'', .int .i64 x, .int .i64 y], u.oneCell' = true := by intro u hu; simp at hu; rcases hu with rfl | rfl | rfl | rfl | rfl <;> rfl
theorem box_srcV {w : World} {b : Nat} {cs : List Value} {t : TypeId} (h : Box w b cs t) : ∀ j u, cs[j]? = some u → w.cell? ((⟨b, 0, none⟩ : Addr).add j) = some u := by
  intro j u hj
  have e2 : (⟨b, 0, none⟩ : Addr).add j = ⟨b, j, none⟩ := by unfold Addr.add; split <;> simp_all
  rw [e2]
  exact h.cell j hj
theorem newQ {g g7 n c H lo : Nat} (h : Value.ownBlock (.slice (some ⟨g, 0, none⟩) n c) = some g7 ∨ g7 = H) (hl : lo ≤ H) : g7 = g ∨ lo ≤ g7 := by
  rcases h with h | h
  · left; simpa [Value.ownBlock] using h.symm
  · right; omega
theorem newQ2 {v : Value} {g8 H lo : Nat} (h : v.ownBlock = some g8 ∨ g8 = H) (hl : lo ≤ H) : v.ownBlock = some g8 ∨ lo ≤ g8 := by
  rcases h with h | h
  · exact .inl h
  · right; omega
theorem newS {S : Nat → Prop} {v : Value} {g7 H : Nat} (h : v.ownBlock = some g7 ∨ g7 = H) (hS : ∀ q, v.ownBlock = some q → S q) : S g7 ∨ g7 = H := by
  rcases h with h | h
  · exact .inl (hS _ h)
  · exact .inr h
theorem shr_one {S : Nat → Prop} {w : World} {g7 : Nat} (h : S g7 ∨ g7 = w.heap.size) : Shr w S (fun k => S k ∨ k = g7) := fun k hk h' => by
  rcases h' with h' | h'
  · exact h'
  · subst h'
    rcases h with h | h
    · exact h
    · omega
theorem shr_two {S : Nat → Prop} {w : World} {v : Value} {g7 g8 H : Nat} (h : v.ownBlock = some g8 ∨ H ≤ g8) (hS : ∀ q, v.ownBlock = some q → S q) (hH : w.heap.size ≤ H) : Shr w (fun k => S k ∨ k = g7) (fun k => (S k ∨ k = g7) ∨ k = g8) := fun k hk h' => by
  rcases h' with h' | h'
  · exact h'
  · subst h'
    rcases h with h | h
    · exact .inl (hS _ h)
    · omega
def PlayPost (S : Nat → Prop) (base b : Nat) (R : RulesZ) (ms : List MoveZ) (m : MoveZ) (vp vs ve : Value) (w : World) (e : Ending) (w' : World) : Prop :=
  (playErr R ms m ≠ 0 ∧ e = .returned (.int .i64 (playErr R ms m)) ∧ Below w.heap.size w w') ∨
  (playErr R ms m = 0 ∧ e = .returned (.int .i64 0) ∧ ∃ S' vl' vm' rows', GameAt S' base w' b R (ms ++ [m]) vp vs ve vl' vm' rows' ∧ Shr w S S' ∧ Fr S w w')
set_option maxRecDepth 100000 in
set_option maxHeartbeats 4000000 in
theorem Play_any (HS : SortMvSaid) (m : MoveZ) {S : Nat → Prop} {base b : Nat} {R : RulesZ} {ms : List MoveZ} {vp vs ve vl vm : Value} {rows : List PosV} (w : World) (h : GameAt S base w b R ms vp vs ve vl vm rows) (hb : base ≤ w.heap.size) : Calls Try.prog 21 #[.pointer (some ⟨b, 0, none⟩), .agg #[.int .i64 m.src, .int .i64 m.dst, .int .i64 m.piece]] w (PlayPost S base b R ms m vp vs ve w) := by
  have HSh := Lib.hid HS
  obtain ⟨g, c, hv⟩ := own_some h.ol (by omega)
  subst hv
  have HG := Lib.hid h
  have HK := Lib.hid h.nok
  have HBB := Lib.hid hb
  have HGB := Lib.hid h.box.lt
  have HOL : Hid (∀ q, Value.ownBlock (.slice (some ⟨g, 0, none⟩) (ms.length + 1) c) = some q → q < w.heap.size) := Lib.hid (fun q hq => (h.ol.lt q hq).2)
  have HOM : Hid (∀ q, vm.ownBlock = some q → q < w.heap.size) := Lib.hid (fun q hq => (h.om.lt q hq).2)
  have HSL : Hid (∀ q, S q → q < w.heap.size) := Lib.hid (fun q hq => (h.lo q hq).2)
  have HSLb : Hid (g = b → False) := Lib.hid (fun e => (h.sl g rfl).2 e)
  clear h HS hb
  go_enter Try.func21, Try.ntmps21
  go_upto_region 1 with (fail)
  have HBm := Lib.hid (Box.new w [.int .i64 m.src, .int .i64 m.dst, .int .i64 m.piece] 57)
  have HL0 := Lib.hid ((Below.refl w.heap.size w).alloc (Nat.le_refl _) (.cells #[.int .i64 m.src, .int .i64 m.dst, .int .i64 m.piece] 57))
  have HG0 := Lib.hid (HG.out.below ((Below.refl _ w).alloc (Nat.le_refl _) (.cells #[.int .i64 m.src, .int .i64 m.dst, .int .i64 m.piece] 57)))
  generalize (w.alloc (.cells #[.int .i64 m.src, .int .i64 m.dst, .int .i64 m.piece] 57)) = w0 at *
  go_wp2_with fail
  refine (gameRes_any HSh.out w0 HG0.out).mono ?_
  rintro e w1 ⟨rfl, hb1⟩
  have HG1 := Lib.hid (HG0.out.below hb1)
  have HBm1 := Lib.hid (HBm.out.stays hb1)
  have HL1 := Lib.hid (below_trans HL0.out hb1 HL0.out.size)
  clear hb1 HG0 HBm HL0
  by_cases hr0 : gameRes R ms = 0
  rotate_left
  · have HPE : Hid (playErr R ms m = 14) := Lib.hid (by unfold playErr; rw [if_pos hr0])
    have hrb : (gameRes R ms != 0) = true := by simpa using hr0
    clear hr0
    go_wp2_with fail
    go_ret
    exact .inl ⟨by rw [HPE.out]; decide, by rw [HPE.out]; rfl, HL1.out⟩
  have HR0 := Lib.hid hr0
  rw [hr0]
  clear hr0
  go_upto_region 3 with (fail)
  generalize w1 = wq at *
  have Gz : GameAt S base wq.drew b R ms vp vs ve (.slice (some ⟨g, 0, none⟩) (ms.length + 1) c) vm rows := HG1.out.below (below_drew' (Below.refl _ _))
  have Bmz : Box wq.drew w.heap.size [.int .i64 m.src, .int .i64 m.dst, .int .i64 m.piece] 57 := HBm1.out
  have Lz : Below w.heap.size w wq.drew := below_drew' HL1.out
  clear HG1 HBm1 HL1
  refine wp_region_noPanic ?_
  refine beginL (S := (fun w' => w'.cell? ⟨b, 0, none⟩ = some (.string R.name) ∧ w'.cell? ⟨b, 1, none⟩ = some (.int .i64 R.width) ∧ w'.cell? ⟨b, 2, none⟩ = some (.int .i64 R.height) ∧ w'.cell? ⟨b, 3, none⟩ = some vp ∧ w'.cell? ⟨b, 4, none⟩ = some vs ∧ w'.cell? ⟨b, 5, none⟩ = some (.bool R.falls) ∧ w'.cell? ⟨b, 6, none⟩ = some (.bool R.keeps) ∧ w'.cell? ⟨b, 7, none⟩ = some ve ∧ w'.cell? ⟨b, 8, none⟩ = some (.int .i64 R.blocked) ∧ w'.cell? ⟨b, 9, none⟩ = some (.int .i64 R.quiet) ∧ w'.cell? ⟨b, 10, none⟩ = some (.int .i64 R.rept) ∧ w'.cell? ⟨w.heap.size, 0, none⟩ = some (.int .i64 m.src) ∧ w'.cell? ⟨w.heap.size, 1, none⟩ = some (.int .i64 m.dst) ∧ w'.cell? ⟨w.heap.size, 2, none⟩ = some (.int .i64 m.piece))) (L := []) (by kernel_rfl) ⟨Gz.box.cell 0 rfl, Gz.box.cell 1 rfl, Gz.box.cell 2 rfl, Gz.box.cell 3 rfl, Gz.box.cell 4 rfl, Gz.box.cell 5 rfl, Gz.box.cell 6 rfl, Gz.box.cell 7 rfl, Gz.box.cell 8 rfl, Gz.box.cell 9 rfl, Gz.box.cell 10 rfl, Bmz.cell 0 rfl, Bmz.cell 1 rfl, Bmz.cell 2 rfl⟩ (fun hHeld => ?_)
  refine takeW (i := 0) (oi := { dst := some 10, op := Op.move (Operand.tmp 0), type := 58, pos := "plain.go:38", after := #[], guard := none }) (v := ?va1) rfl (by kernel_rfl) (by kernel_rfl) (by kernel_rfl) rfl (fun _ _ _ h => h) (Or.inl ⟨by rfl, ?ya1⟩) (fun _ => by assumption) ?ra1
  case ya1 => (intro w _; go_simp; first | done | (with_reducible rfl))
  try simp only [Act.put, List.setIfInBounds_toArray, List.set_cons_zero, List.set_cons_succ]
  refine takeW (i := 4) (oi := { dst := some 14, op := Op.move (Operand.tmp 0), type := 58, pos := "plain.go:38", after := #[], guard := none }) (v := ?va2) rfl (by kernel_rfl) (by kernel_rfl) (by kernel_rfl) rfl (fun _ _ _ h => h) (Or.inl ⟨by rfl, ?ya2⟩) (fun _ => by assumption) ?ra2
  case ya2 => (intro w _; go_simp; first | done | (with_reducible rfl))
  try simp only [Act.put, List.setIfInBounds_toArray, List.set_cons_zero, List.set_cons_succ]
  refine takeL (i := 7) (oi := { dst := some 17, op := Op.load 57 (Operand.tmp 3), type := 57, pos := "plain.go:38", after := #[], guard := none }) (v := ?va3) rfl (by kernel_rfl) (by kernel_rfl) (by kernel_rfl) (by kernel_rfl) rfl (by kernel_rfl) (by kernel_rfl) (fun _ _ _ h => h) (Or.inl ⟨by rfl, ?ya3⟩) (by assumption) ?ra3
  case ya3 => (intro w hSw; (try dsimp only at hSw); go_simp; first | done | (with_reducible rfl))
  try simp only [Act.put, List.setIfInBounds_toArray, List.set_cons_zero, List.set_cons_succ]
  refine takeW (i := 1) (oi := { dst := some 11, op := Op.nilCheck (Operand.tmp 10), type := 0, pos := "plain.go:38", after := #[{ on := 0, ground := Ground.data }], guard := none }) (v := ?va4) rfl (by kernel_rfl) (by kernel_rfl) (by kernel_rfl) rfl (fun _ _ _ h => h) (Or.inl ⟨by rfl, ?ya4⟩) (fun _ => by assumption) ?ra4
  case ya4 => (intro w _; go_simp; first | done | (with_reducible rfl))
  try simp only [Act.put, List.setIfInBounds_toArray, List.set_cons_zero, List.set_cons_succ]
  refine takeW (i := 2) (oi := { dst := some 12, op := Op.fieldAddr 90 (Operand.tmp 11) 0, type := 0, pos := "plain.go:38", after := #[{ on := 1, ground := Ground.data }], guard := none }) (v := ?va5) rfl (by kernel_rfl) (by kernel_rfl) (by kernel_rfl) rfl (fun _ _ _ h => h) (Or.inl ⟨by rfl, ?ya5⟩) (fun _ => by assumption) ?ra5
  case ya5 => (intro w _; go_simp; first | done | (with_reducible rfl))
  try simp only [Act.put, List.setIfInBounds_toArray, List.set_cons_zero, List.set_cons_succ]
  refine takeL (i := 3) (oi := { dst := some 13, op := Op.load 26 (Operand.tmp 12), type := 26, pos := "plain.go:38", after := #[{ on := 2, ground := Ground.data }], guard := none }) (v := ?va6) rfl (by kernel_rfl) (by kernel_rfl) (by kernel_rfl) (by kernel_rfl) rfl (by kernel_rfl) (by kernel_rfl) (fun _ _ _ h => h) (Or.inl ⟨by rfl, ?ya6⟩) (by assumption) ?ra6
  case ya6 => (intro w hSw; (try dsimp only at hSw); go_simp; first | done | (with_reducible rfl))
  try simp only [Act.put, List.setIfInBounds_toArray, List.set_cons_zero, List.set_cons_succ]
  refine readyL (rs := [5]) (by kernel_rfl) (by simp) ?_
  refine (AllReadyL.cons (o := { dst := some 15, op := Op.call { callee := Callee.value (Operand.func 42), args := #[Operand.tmp 14], argTypes := #[58] }, type := 43, pos := "plain.go:38", after := #[{ on := 4, ground := Ground.data }], guard := none }) rfl (fun K hK => ?_) AllReadyL.nil)
  go_simp
  refine (now_any _ Gz).mono ?_
  rintro e w5 ⟨nc, n0, n1, rfl, hn5, hb5⟩
  have G5 := Gz.below hb5
  have Bm5 := Bmz.stays hb5
  have L5 := below_trans Lz hb5 Lz.size
  have N5 := hn5.now
  clear hb5 hn5
  refine hK.out _ _ ⟨G5.box.cell 0 rfl, G5.box.cell 1 rfl, G5.box.cell 2 rfl, G5.box.cell 3 rfl, G5.box.cell 4 rfl, G5.box.cell 5 rfl, G5.box.cell 6 rfl, G5.box.cell 7 rfl, G5.box.cell 8 rfl, G5.box.cell 9 rfl, G5.box.cell 10 rfl, Bm5.cell 0 rfl, Bm5.cell 1 rfl, Bm5.cell 2 rfl⟩ (fun hHeld => ?_)
  clear hK K
  try simp only [Act.put, List.setIfInBounds_toArray, List.set_cons_zero, List.set_cons_succ]
  refine readyL (rs := [6]) (by kernel_rfl) (by simp) ?_
  refine (AllReadyL.cons (o := { dst := some 16, op := Op.call { callee := Callee.value (Operand.func 41), args := #[Operand.tmp 13, Operand.tmp 15], argTypes := #[26, 43] }, type := 36, pos := "plain.go:38", after := #[{ on := 3, ground := Ground.data }, { on := 5, ground := Ground.data }, { on := 5, ground := Ground.chain }], guard := none }) rfl (fun K hK => ?_) AllReadyL.nil)
  go_simp
  refine (List_any HSh.out R vp vs ve (nowZ R ms) nc n0 n1 _ G5.rd.now N5 HK.out).mono ?_
  rintro e w6 ⟨vx, rfl, ho6, hb6⟩
  obtain ⟨a6, c6, rfl⟩ := own_form2 ho6
  have G6 := G5.below hb6
  have Bm6 := Bm5.stays hb6
  have L6 := below_trans L5 hb6 L5.size
  have R6 := rdM_of_own ho6
  clear hb6 ho6
  refine hK.out _ _ ⟨G6.box.cell 0 rfl, G6.box.cell 1 rfl, G6.box.cell 2 rfl, G6.box.cell 3 rfl, G6.box.cell 4 rfl, G6.box.cell 5 rfl, G6.box.cell 6 rfl, G6.box.cell 7 rfl, G6.box.cell 8 rfl, G6.box.cell 9 rfl, G6.box.cell 10 rfl, Bm6.cell 0 rfl, Bm6.cell 1 rfl, Bm6.cell 2 rfl⟩ (fun hHeld => ?_)
  clear hK K
  try simp only [Act.put, List.setIfInBounds_toArray, List.set_cons_zero, List.set_cons_succ]
  refine readyL (rs := [8]) (by kernel_rfl) (by simp) ?_
  refine (AllReadyL.cons (o := { dst := some 18, op := Op.call { callee := Callee.value (Operand.func 40), args := #[Operand.tmp 16, Operand.tmp 17], argTypes := #[36, 57] }, type := 4, pos := "plain.go:38", after := #[{ on := 6, ground := Ground.data }, { on := 7, ground := Ground.data }, { on := 6, ground := Ground.chain }], guard := none }) rfl (fun K hK => ?_) AllReadyL.nil)
  go_simp
  refine (contains_mv _ m _ _ R6).mono ?_
  rintro e w8 ⟨rfl, hb8⟩
  have G8 := G6.below hb8
  have Bm8 := Bm6.stays hb8
  have L8 := below_trans L6 hb8 L6.size
  clear hb8
  refine hK.out _ _ ⟨G8.box.cell 0 rfl, G8.box.cell 1 rfl, G8.box.cell 2 rfl, G8.box.cell 3 rfl, G8.box.cell 4 rfl, G8.box.cell 5 rfl, G8.box.cell 6 rfl, G8.box.cell 7 rfl, G8.box.cell 8 rfl, G8.box.cell 9 rfl, G8.box.cell 10 rfl, Bm8.cell 0 rfl, Bm8.cell 1 rfl, Bm8.cell 2 rfl⟩ (fun hHeld => ?_)
  clear hK K
  try simp only [Act.put, List.setIfInBounds_toArray, List.set_cons_zero, List.set_cons_succ]
  refine takeW (i := 9) (oi := { dst := some 19, op := Op.unOp UnOp.not 4 (Operand.tmp 18), type := 4, pos := "plain.go:38", after := #[{ on := 8, ground := Ground.data }], guard := none }) (v := ?va7) rfl (by kernel_rfl) (by kernel_rfl) (by kernel_rfl) rfl (fun _ _ _ h => h) (Or.inl ⟨by rfl, ?ya7⟩) (fun _ => by assumption) ?ra7
  case ya7 => (intro w _; go_simp; first | done | (with_reducible rfl))
  try simp only [Act.put, List.setIfInBounds_toArray, List.set_cons_zero, List.set_cons_succ]
  refine takeW (i := 10) (oi := { dst := some 9, op := Op.assign (Operand.tmp 19), type := 4, pos := "plain.go:38", after := #[{ on := 9, ground := Ground.data }, { on := 8, ground := Ground.chain }], guard := none }) (v := ?va8) rfl (by kernel_rfl) (by kernel_rfl) (by kernel_rfl) rfl (fun _ _ _ h => h) (Or.inl ⟨by rfl, ?ya8⟩) (fun _ => by assumption) ?ra8
  case ya8 => (intro w _; go_simp; first | done | (with_reducible rfl))
  try simp only [Act.put, List.setIfInBounds_toArray, List.set_cons_zero, List.set_cons_succ]
  refine doneL (by kernel_rfl) ?_ _
  refine NoPanic.normal ?_
  have HG8 := Lib.hid G8
  have HBm8 := Lib.hid Bm8
  have HL8 := Lib.hid L8
  clear G8 Bm8 L8 G6 Bm6 L6 G5 Bm5 L5 N5 R6 Gz Bmz Lz hHeld
  by_cases hmm : m ∈ listZ R (nowZ R ms)
  rotate_left
  · have HPE : Hid (playErr R ms m = 13) := Lib.hid (by unfold playErr; rw [if_neg (by simp [HR0.out]), if_pos hmm])
    have hd : decide (m ∈ listZ R (nowZ R ms)) = false := by simpa using hmm
    clear hmm
    rw [hd]
    go_wp2_with fail
    go_ret
    exact .inl ⟨by rw [HPE.out]; decide, by rw [HPE.out]; rfl, HL8.out⟩
  have hd : decide (m ∈ listZ R (nowZ R ms)) = true := by simpa using hmm
  rw [hd]
  have HMem := Lib.hid hmm
  have HF := Lib.hid (fits_of HK.out hmm)
  have hc12 := HG8.out.box.cell 12 rfl
  have hbl := HG8.out.box.lt
  obtain ⟨xv, xc, hvm⟩ := own_form2 HG8.out.om
  clear hmm hd
  by_cases hfl : ms.length = 400
  · have HPE : Hid (playErr R ms m = 9) := Lib.hid (by unfold playErr; rw [if_neg (by simp [HR0.out]), if_neg (by simp [HMem.out]), if_pos hfl])
    have hflI : ((ms.length : Int) == 400) = true := by simp [hfl]
    clear hfl
    rw [hvm] at hc12
    go_wp2_with fail
    go_ret
    exact .inl ⟨by rw [HPE.out]; decide, by rw [HPE.out]; rfl, HL8.out⟩
  have HPE : Hid (playErr R ms m = 0) := Lib.hid (by unfold playErr; rw [if_neg (by simp [HR0.out]), if_neg (by simp [HMem.out]), if_neg hfl])
  have hflI : ((ms.length : Int) == 400) = false := by simp; omega
  have HLT : Hid (ms.length < 400) := Lib.hid (by have := HG8.out.lt; omega)
  have hlm : ms.length ≤ 400 := HG8.out.lt
  clear hfl
  rw [hvm] at hc12
  go_upto_region 7 with (fail)
  clear hc12 hbl hvm hflI
  obtain ⟨i0, hi0, hi1, hi2, hi3⟩ := info_of info_pv
  obtain ⟨j0, hj0, hj1, hj2, hj3⟩ := info_of infoMove
  have HI0 := Lib.hid hi0
  have HI1 := Lib.hid hi1
  have HI2 := Lib.hid hi2
  have HI3 := Lib.hid hi3
  have HJ0 := Lib.hid hj0
  have HJ1 := Lib.hid hj1
  have HJ2 := Lib.hid hj2
  have HJ3 := Lib.hid hj3
  clear hi0 hi1 hi2 hi3 hj0 hj1 hj2 hj3
  generalize w8 = wq at *
  have Gz : GameAt S base wq.drew b R ms vp vs ve (.slice (some ⟨g, 0, none⟩) (ms.length + 1) c) vm rows := HG8.out.below (below_drew' (Below.refl _ _))
  have Bmz : Box wq.drew w.heap.size [.int .i64 m.src, .int .i64 m.dst, .int .i64 m.piece] 57 := HBm8.out
  have Lz : Below w.heap.size w wq.drew := below_drew' HL8.out
  clear HG8 HBm8 HL8
  refine wp_region_noPanic ?_
  refine beginL (S := (fun w' => w'.cell? ⟨b, 0, none⟩ = some (.string R.name) ∧ w'.cell? ⟨b, 1, none⟩ = some (.int .i64 R.width) ∧ w'.cell? ⟨b, 2, none⟩ = some (.int .i64 R.height) ∧ w'.cell? ⟨b, 3, none⟩ = some vp ∧ w'.cell? ⟨b, 4, none⟩ = some vs ∧ w'.cell? ⟨b, 5, none⟩ = some (.bool R.falls) ∧ w'.cell? ⟨b, 6, none⟩ = some (.bool R.keeps) ∧ w'.cell? ⟨b, 7, none⟩ = some ve ∧ w'.cell? ⟨b, 8, none⟩ = some (.int .i64 R.blocked) ∧ w'.cell? ⟨b, 9, none⟩ = some (.int .i64 R.quiet) ∧ w'.cell? ⟨b, 10, none⟩ = some (.int .i64 R.rept) ∧ w'.cell? ⟨b, 11, none⟩ = some (.slice (some ⟨g, 0, none⟩) (ms.length + 1) c) ∧ w'.cell? ⟨w.heap.size, 0, none⟩ = some (.int .i64 m.src) ∧ w'.cell? ⟨w.heap.size, 1, none⟩ = some (.int .i64 m.dst) ∧ w'.cell? ⟨w.heap.size, 2, none⟩ = some (.int .i64 m.piece))) (L := [17]) (by kernel_rfl) ⟨Gz.box.cell 0 rfl, Gz.box.cell 1 rfl, Gz.box.cell 2 rfl, Gz.box.cell 3 rfl, Gz.box.cell 4 rfl, Gz.box.cell 5 rfl, Gz.box.cell 6 rfl, Gz.box.cell 7 rfl, Gz.box.cell 8 rfl, Gz.box.cell 9 rfl, Gz.box.cell 10 rfl, Gz.box.cell 11 rfl, Bmz.cell 0 rfl, Bmz.cell 1 rfl, Bmz.cell 2 rfl⟩ (fun hHeld => ?_)
  refine takeW (i := 0) (oi := { dst := some 27, op := Op.move (Operand.tmp 0), type := 58, pos := "plain.go:43", after := #[], guard := none }) (v := ?va101) rfl (by kernel_rfl) (by kernel_rfl) (by kernel_rfl) rfl (fun _ _ _ h => h) (Or.inl ⟨by rfl, ?ya101⟩) (fun _ => by assumption) ?ra101
  case ya101 => (intro w _; go_simp; first | done | (with_reducible rfl))
  try simp only [Act.put, List.setIfInBounds_toArray, List.set_cons_zero, List.set_cons_succ]
  refine takeW (i := 1) (oi := { dst := some 28, op := Op.move (Operand.tmp 0), type := 58, pos := "plain.go:43", after := #[], guard := none }) (v := ?va102) rfl (by kernel_rfl) (by kernel_rfl) (by kernel_rfl) rfl (fun _ _ _ h => h) (Or.inl ⟨by rfl, ?ya102⟩) (fun _ => by assumption) ?ra102
  case ya102 => (intro w _; go_simp; first | done | (with_reducible rfl))
  try simp only [Act.put, List.setIfInBounds_toArray, List.set_cons_zero, List.set_cons_succ]
  refine takeW (i := 5) (oi := { dst := some 32, op := Op.move (Operand.tmp 0), type := 58, pos := "plain.go:43", after := #[], guard := none }) (v := ?va103) rfl (by kernel_rfl) (by kernel_rfl) (by kernel_rfl) rfl (fun _ _ _ h => h) (Or.inl ⟨by rfl, ?ya103⟩) (fun _ => by assumption) ?ra103
  case ya103 => (intro w _; go_simp; first | done | (with_reducible rfl))
  try simp only [Act.put, List.setIfInBounds_toArray, List.set_cons_zero, List.set_cons_succ]
  refine takeW (i := 9) (oi := { dst := some 36, op := Op.move (Operand.tmp 0), type := 58, pos := "plain.go:43", after := #[], guard := none }) (v := ?va104) rfl (by kernel_rfl) (by kernel_rfl) (by kernel_rfl) rfl (fun _ _ _ h => h) (Or.inl ⟨by rfl, ?ya104⟩) (fun _ => by assumption) ?ra104
  case ya104 => (intro w _; go_simp; first | done | (with_reducible rfl))
  try simp only [Act.put, List.setIfInBounds_toArray, List.set_cons_zero, List.set_cons_succ]
  refine takeL (i := 11) (oi := { dst := some 38, op := Op.load 57 (Operand.tmp 3), type := 57, pos := "plain.go:43", after := #[], guard := none }) (v := ?va105) rfl (by kernel_rfl) (by kernel_rfl) (by kernel_rfl) (by kernel_rfl) rfl (by kernel_rfl) (by kernel_rfl) (fun _ _ _ h => h) (Or.inl ⟨by rfl, ?ya105⟩) (by assumption) ?ra105
  case ya105 => (intro w hSw; (try dsimp only at hSw); go_simp; first | done | (with_reducible rfl))
  try simp only [Act.put, List.setIfInBounds_toArray, List.set_cons_zero, List.set_cons_succ]
  refine takeW (i := 2) (oi := { dst := some 29, op := Op.nilCheck (Operand.tmp 28), type := 0, pos := "plain.go:43", after := #[{ on := 1, ground := Ground.data }], guard := none }) (v := ?va106) rfl (by kernel_rfl) (by kernel_rfl) (by kernel_rfl) rfl (fun _ _ _ h => h) (Or.inl ⟨by rfl, ?ya106⟩) (fun _ => by assumption) ?ra106
  case ya106 => (intro w _; go_simp; first | done | (with_reducible rfl))
  try simp only [Act.put, List.setIfInBounds_toArray, List.set_cons_zero, List.set_cons_succ]
  refine takeW (i := 6) (oi := { dst := some 33, op := Op.nilCheck (Operand.tmp 32), type := 0, pos := "plain.go:43", after := #[{ on := 5, ground := Ground.data }], guard := none }) (v := ?va107) rfl (by kernel_rfl) (by kernel_rfl) (by kernel_rfl) rfl (fun _ _ _ h => h) (Or.inl ⟨by rfl, ?ya107⟩) (fun _ => by assumption) ?ra107
  case ya107 => (intro w _; go_simp; first | done | (with_reducible rfl))
  try simp only [Act.put, List.setIfInBounds_toArray, List.set_cons_zero, List.set_cons_succ]
  refine takeW (i := 3) (oi := { dst := some 30, op := Op.fieldAddr 90 (Operand.tmp 29) 1, type := 0, pos := "plain.go:43", after := #[{ on := 2, ground := Ground.data }], guard := none }) (v := ?va108) rfl (by kernel_rfl) (by kernel_rfl) (by kernel_rfl) rfl (fun _ _ _ h => h) (Or.inl ⟨by rfl, ?ya108⟩) (fun _ => by assumption) ?ra108
  case ya108 => (intro w _; go_simp; first | done | (with_reducible rfl))
  try simp only [Act.put, List.setIfInBounds_toArray, List.set_cons_zero, List.set_cons_succ]
  refine takeW (i := 7) (oi := { dst := some 34, op := Op.fieldAddr 90 (Operand.tmp 33) 0, type := 0, pos := "plain.go:43", after := #[{ on := 6, ground := Ground.data }], guard := none }) (v := ?va109) rfl (by kernel_rfl) (by kernel_rfl) (by kernel_rfl) rfl (fun _ _ _ h => h) (Or.inl ⟨by rfl, ?ya109⟩) (fun _ => by assumption) ?ra109
  case ya109 => (intro w _; go_simp; first | done | (with_reducible rfl))
  try simp only [Act.put, List.setIfInBounds_toArray, List.set_cons_zero, List.set_cons_succ]
  refine takeL (i := 4) (oi := { dst := some 31, op := Op.load 88 (Operand.tmp 30), type := 88, pos := "plain.go:43", after := #[{ on := 3, ground := Ground.data }], guard := none }) (v := ?va110) rfl (by kernel_rfl) (by kernel_rfl) (by kernel_rfl) (by kernel_rfl) rfl (by kernel_rfl) (by kernel_rfl) (fun _ _ _ h => h) (Or.inl ⟨by rfl, ?ya110⟩) (by assumption) ?ra110
  case ya110 => (intro w hSw; (try dsimp only at hSw); go_simp; first | done | (with_reducible rfl))
  try simp only [Act.put, List.setIfInBounds_toArray, List.set_cons_zero, List.set_cons_succ]
  refine takeL (i := 8) (oi := { dst := some 35, op := Op.load 26 (Operand.tmp 34), type := 26, pos := "plain.go:43", after := #[{ on := 7, ground := Ground.data }], guard := none }) (v := ?va111) rfl (by kernel_rfl) (by kernel_rfl) (by kernel_rfl) (by kernel_rfl) rfl (by kernel_rfl) (by kernel_rfl) (fun _ _ _ h => h) (Or.inl ⟨by rfl, ?ya111⟩) (by assumption) ?ra111
  case ya111 => (intro w hSw; (try dsimp only at hSw); go_simp; first | done | (with_reducible rfl))
  try simp only [Act.put, List.setIfInBounds_toArray, List.set_cons_zero, List.set_cons_succ]
  refine readyL (rs := [10]) (by kernel_rfl) (by simp) ?_
  refine (AllReadyL.cons (o := { dst := some 37, op := Op.call { callee := Callee.value (Operand.func 42), args := #[Operand.tmp 36], argTypes := #[58] }, type := 43, pos := "plain.go:43", after := #[{ on := 9, ground := Ground.data }], guard := none }) rfl (fun K hK => ?_) AllReadyL.nil)
  go_simp
  refine (now_any _ Gz).mono ?_
  rintro e w10 ⟨nc, n0, n1, rfl, hn10, hb10⟩
  have G10 := Gz.below hb10
  have Bm10 := Bmz.stays hb10
  have L10 := below_trans Lz hb10 Lz.size
  have N10 := hn10.now
  clear hb10 hn10
  refine hK.out _ _ ⟨G10.box.cell 0 rfl, G10.box.cell 1 rfl, G10.box.cell 2 rfl, G10.box.cell 3 rfl, G10.box.cell 4 rfl, G10.box.cell 5 rfl, G10.box.cell 6 rfl, G10.box.cell 7 rfl, G10.box.cell 8 rfl, G10.box.cell 9 rfl, G10.box.cell 10 rfl, G10.box.cell 11 rfl, Bm10.cell 0 rfl, Bm10.cell 1 rfl, Bm10.cell 2 rfl⟩ (fun hHeld => ?_)
  clear hK K
  try simp only [Act.put, List.setIfInBounds_toArray, List.set_cons_zero, List.set_cons_succ]
  refine readyL (rs := [12]) (by kernel_rfl) (by simp) ?_
  refine (AllReadyL.cons (o := { dst := some 39, op := Op.call { callee := Callee.value (Operand.func 43), args := #[Operand.tmp 35, Operand.tmp 37, Operand.tmp 38], argTypes := #[26, 43, 57] }, type := 43, pos := "plain.go:43", after := #[{ on := 8, ground := Ground.data }, { on := 10, ground := Ground.data }, { on := 11, ground := Ground.data }, { on := 10, ground := Ground.chain }], guard := none }) rfl (fun K hK => ?_) AllReadyL.nil)
  go_simp
  refine (Make_any R vp vs ve (nowZ R ms) nc n0 n1 m _ N10 HK.out HF.out).mono ?_
  rintro e w12 ⟨yc, y0, y1, rfl, ho12, hb12⟩
  obtain ⟨ya, yn, rfl⟩ := own_form2 ho12.1
  obtain ⟨ya0, yn0, rfl⟩ := own_form2 ho12.2.1
  obtain ⟨ya1, yn1, rfl⟩ := own_form2 ho12.2.2.1
  unfold posV
  have G12 := G10.below hb12
  have Bm12 := Bm10.stays hb12
  have L12 := below_trans L10 hb12 L10.size
  have P12 : OwnP w.heap.size w12 (makeZ R (nowZ R ms) m) (.slice ya (makeZ R (nowZ R ms) m).cells.length yn) (.slice ya0 (makeZ R (nowZ R ms) m).h0.length yn0) (.slice ya1 (makeZ R (nowZ R ms) m).h1.length yn1) := ho12.base L10.size
  clear hb12 ho12
  refine hK.out _ _ ⟨G12.box.cell 0 rfl, G12.box.cell 1 rfl, G12.box.cell 2 rfl, G12.box.cell 3 rfl, G12.box.cell 4 rfl, G12.box.cell 5 rfl, G12.box.cell 6 rfl, G12.box.cell 7 rfl, G12.box.cell 8 rfl, G12.box.cell 9 rfl, G12.box.cell 10 rfl, G12.box.cell 11 rfl, Bm12.cell 0 rfl, Bm12.cell 1 rfl, Bm12.cell 2 rfl⟩ (fun hHeld => ?_)
  clear hK K
  try simp only [Act.put, List.setIfInBounds_toArray, List.set_cons_zero, List.set_cons_succ]
  refine readyL (rs := [13]) (by kernel_rfl) (by simp) ?_
  refine (AllReadyL.cons (o := { dst := some 40, op := Op.buildSlice 88 1 #[(0, Operand.tmp 39)], type := 88, pos := "plain.go:43", after := #[{ on := 12, ground := Ground.data }], guard := none }) rfl (fun K hK => ?_) AllReadyL.nil)
  go_simp
  refine K_world ?_
  intro w13 e13
  have hb13 : Below w12.heap.size w12 w13 := by rw [e13]; exact (Below.refl _ _).alloc (Nat.le_refl _) _
  have N13 : Box w13 w12.heap.size [.slice ya (makeZ R (nowZ R ms) m).cells.length yn, .slice ya0 (makeZ R (nowZ R ms) m).h0.length yn0, .slice ya1 (makeZ R (nowZ R ms) m).h1.length yn1, .int .i64 (makeZ R (nowZ R ms) m).turn, .int .i64 (makeZ R (nowZ R ms) m).quiet] 43 := by rw [e13]; exact Box.new' _ _ _ _ rfl
  have G13 := G12.below hb13
  have Bm13 := Bm12.stays hb13
  have L13 := below_trans L12 hb13 L12.size
  have P13 : OwnP w.heap.size w13 (makeZ R (nowZ R ms) m) (.slice ya (makeZ R (nowZ R ms) m).cells.length yn) (.slice ya0 (makeZ R (nowZ R ms) m).h0.length yn0) (.slice ya1 (makeZ R (nowZ R ms) m).h1.length yn1) := ⟨own_stays P12.1 hb13, own_stays P12.2.1 hb13, own_stays P12.2.2.1 hb13, P12.2.2.2⟩
  clear hb13 e13
  refine hK.out _ _ ⟨G13.box.cell 0 rfl, G13.box.cell 1 rfl, G13.box.cell 2 rfl, G13.box.cell 3 rfl, G13.box.cell 4 rfl, G13.box.cell 5 rfl, G13.box.cell 6 rfl, G13.box.cell 7 rfl, G13.box.cell 8 rfl, G13.box.cell 9 rfl, G13.box.cell 10 rfl, G13.box.cell 11 rfl, Bm13.cell 0 rfl, Bm13.cell 1 rfl, Bm13.cell 2 rfl⟩ (fun hHeld => ?_)
  clear hK K
  try simp only [Act.put, List.setIfInBounds_toArray, List.set_cons_zero, List.set_cons_succ]
  refine readyL (rs := [14]) (by kernel_rfl) (by simp) ?_
  refine (AllReadyL.cons (o := { dst := some 41, op := Op.call { callee := Callee.builtin Builtin.append, args := #[Operand.tmp 31, Operand.tmp 40], argTypes := #[88, 88] }, type := 88, pos := "plain.go:43", after := #[{ on := 4, ground := Ground.data }, { on := 13, ground := Ground.data }, { on := 12, ground := Ground.chain }], guard := none }) rfl (fun K hK => ?_) AllReadyL.nil)
  rw [if_pos (by rfl)]
  refine wp_append_lies _ _ _ 88 rfl base 43 i0 (.agg #[.slice none 0 0, .slice none 0 0, .slice none 0 0, .int .i64 0, .int .i64 0]) 5 88 Try.underlying88 HI0.out HI1.out HI2.out HI3.out rfl (by decide) (.slice (some ⟨g, 0, none⟩) (ms.length + 1) c) (ms.length + 1) (flatV rows) rfl G13.ol ⟨w12.heap.size, 0, none⟩ 1 1 [.slice ya (makeZ R (nowZ R ms) m).cells.length yn, .slice ya0 (makeZ R (nowZ R ms) m).h0.length yn0, .slice ya1 (makeZ R (nowZ R ms) m).h1.length yn1, .int .i64 (makeZ R (nowZ R ms) m).turn, .int .i64 (makeZ R (nowZ R ms) m).quiet] rfl rfl (box_srcV N13) five_pv (by decide) (by unfold maxLen; omega) (by omega) (Nat.le_trans HBB.out L13.size) w13.heap.size rfl ?_
  intro g7 c7 w14 ho14 hg14 hq14 hl14
  have hgo : ∀ q, Value.ownBlock (.slice (some ⟨g, 0, none⟩) (ms.length + 1) c) = some q → q < w.heap.size := fun q hq => HOL.out q hq
  have B14 : Box w14 b [.string R.name, .int .i64 R.width, .int .i64 R.height, vp, vs, .bool R.falls, .bool R.keeps, ve, .int .i64 R.blocked, .int .i64 R.quiet, .int .i64 R.rept, .slice (some ⟨g, 0, none⟩) (ms.length + 1) c, vm] 90 := G13.box.grown hg14 (fun e => (G13.sl b e.symm).2 rfl)
  have Bm14 : Box w14 w.heap.size [.int .i64 m.src, .int .i64 m.dst, .int .i64 m.piece] 57 := Bm13.grown hg14 (fun e => by have := hgo _ e.symm; omega)
  have F14 : Fr S w w14 := (Fr.of_new L13).grown hg14 (fun q hq _ => (G13.sl q hq).1)
  have F1314 : Fr S w13 w14 := (Fr.refl S w13).grown hg14 (fun q hq _ => (G13.sl q hq).1)
  have M14 := G13.om.kept hg14 (apart_swap G13.ap)
  have O14 := ho14
  have Z14 := hg14.size
  have Q14 := newQ (g := g) hq14 L13.size
  have Q14S := newS (S := S) hq14 (fun q hq => (G13.sl q hq).1)
  have P14 : Held S w13 fun w' => OwnP w.heap.size w' (makeZ R (nowZ R ms) m) (.slice ya (makeZ R (nowZ R ms) m).cells.length yn) (.slice ya0 (makeZ R (nowZ R ms) m).h0.length yn0) (.slice ya1 (makeZ R (nowZ R ms) m).h1.length yn1) := ownP_held P13 (fun q h1 _ hS => by have := HSL.out q hS; omega)
  have LB14 : Below base w w14 := Below.grown ((L13.mono HBB.out)) hg14 (Nat.le_trans HBB.out L13.size) (fun q hq => (G13.ol.lt q hq).1)
  clear ho14 hg14 hq14
  refine hK.out _ _ ⟨B14.cell 0 rfl, B14.cell 1 rfl, B14.cell 2 rfl, B14.cell 3 rfl, B14.cell 4 rfl, B14.cell 5 rfl, B14.cell 6 rfl, B14.cell 7 rfl, B14.cell 8 rfl, B14.cell 9 rfl, B14.cell 10 rfl, B14.cell 11 rfl, Bm14.cell 0 rfl, Bm14.cell 1 rfl, Bm14.cell 2 rfl⟩ (fun hHeld => ?_)
  clear hK K
  try simp only [Act.put, List.setIfInBounds_toArray, List.set_cons_zero, List.set_cons_succ]
  refine takeW (i := 15) (oi := { dst := some 42, op := Op.nilCheck (Operand.tmp 27), type := 0, pos := "plain.go:43", after := #[{ on := 0, ground := Ground.data }, { on := 0, ground := Ground.phase }, { on := 1, ground := Ground.phase }, { on := 2, ground := Ground.phase }, { on := 3, ground := Ground.phase }, { on := 4, ground := Ground.phase }, { on := 5, ground := Ground.phase }, { on := 6, ground := Ground.phase }, { on := 7, ground := Ground.phase }, { on := 8, ground := Ground.phase }, { on := 9, ground := Ground.phase }, { on := 10, ground := Ground.phase }, { on := 11, ground := Ground.phase }, { on := 12, ground := Ground.phase }, { on := 13, ground := Ground.phase }, { on := 14, ground := Ground.phase }], guard := none }) (v := ?va112) rfl (by kernel_rfl) (by kernel_rfl) (by kernel_rfl) rfl (fun _ _ _ h => h) (Or.inl ⟨by rfl, ?ya112⟩) (fun _ => by assumption) ?ra112
  case ya112 => (intro w _; go_simp; first | done | (with_reducible rfl))
  try simp only [Act.put, List.setIfInBounds_toArray, List.set_cons_zero, List.set_cons_succ]
  refine takeW (i := 16) (oi := { dst := some 43, op := Op.fieldAddr 90 (Operand.tmp 42) 1, type := 0, pos := "plain.go:43", after := #[{ on := 15, ground := Ground.data }, { on := 0, ground := Ground.phase }, { on := 1, ground := Ground.phase }, { on := 2, ground := Ground.phase }, { on := 3, ground := Ground.phase }, { on := 4, ground := Ground.phase }, { on := 5, ground := Ground.phase }, { on := 6, ground := Ground.phase }, { on := 7, ground := Ground.phase }, { on := 8, ground := Ground.phase }, { on := 9, ground := Ground.phase }, { on := 10, ground := Ground.phase }, { on := 11, ground := Ground.phase }, { on := 12, ground := Ground.phase }, { on := 13, ground := Ground.phase }, { on := 14, ground := Ground.phase }], guard := none }) (v := ?va113) rfl (by kernel_rfl) (by kernel_rfl) (by kernel_rfl) rfl (fun _ _ _ h => h) (Or.inl ⟨by rfl, ?ya113⟩) (fun _ => by assumption) ?ra113
  case ya113 => (intro w _; go_simp; first | done | (with_reducible rfl))
  try simp only [Act.put, List.setIfInBounds_toArray, List.set_cons_zero, List.set_cons_succ]
  refine readyL (rs := [17]) (by kernel_rfl) (by simp) ?_
  refine (AllReadyL.late (o := { dst := none, op := Op.store 88 (Operand.tmp 43) (Operand.tmp 41), type := 0, pos := "plain.go:43", after := #[{ on := 16, ground := Ground.data }, { on := 14, ground := Ground.data }, { on := 14, ground := Ground.chain }, { on := 0, ground := Ground.phase }, { on := 1, ground := Ground.phase }, { on := 2, ground := Ground.phase }, { on := 3, ground := Ground.phase }, { on := 4, ground := Ground.phase }, { on := 5, ground := Ground.phase }, { on := 6, ground := Ground.phase }, { on := 7, ground := Ground.phase }, { on := 8, ground := Ground.phase }, { on := 9, ground := Ground.phase }, { on := 10, ground := Ground.phase }, { on := 11, ground := Ground.phase }, { on := 12, ground := Ground.phase }, { on := 13, ground := Ground.phase }, { on := 14, ground := Ground.phase }], guard := none }) rfl (by kernel_rfl) (fun K hK => ?_) AllReadyL.nil)
  have dd := B14.cell 11 rfl
  have df := B14.frozen 11
  go_simp
  refine K_world ?_
  intro w17 e17
  have E17 := Lib.hid e17
  clear e17 dd df
  refine hK.out _ _ ?_
  clear hK K
  try simp only [Act.put, List.setIfInBounds_toArray, List.set_cons_zero, List.set_cons_succ]
  refine doneL (by kernel_rfl) ?_ _
  refine NoPanic.normal ?_
  have B17 : Box w17 b [.string R.name, .int .i64 R.width, .int .i64 R.height, vp, vs, .bool R.falls, .bool R.keeps, ve, .int .i64 R.blocked, .int .i64 R.quiet, .int .i64 R.rept, .slice (some ⟨g7, 0, none⟩) (ms.length + 1 + 1) c7, vm] 90 := by rw [E17.out]; exact B14.set 11 _
  have hgb : g7 ≠ b := fun e => by rcases Q14 with q | q; exact (HSLb.out (by rw [← q, e])); have := HGB.out; omega
  have O17 : w17.ownsRow base 43 5 (.slice (some ⟨g7, 0, none⟩) (ms.length + 1 + 1) c7) (ms.length + 1 + 1) (flatV rows ++ [.slice ya (makeZ R (nowZ R ms) m).cells.length yn, .slice ya0 (makeZ R (nowZ R ms) m).h0.length yn0, .slice ya1 (makeZ R (nowZ R ms) m).h1.length yn1, .int .i64 (makeZ R (nowZ R ms) m).turn, .int .i64 (makeZ R (nowZ R ms) m).quiet]) := by rw [E17.out]; exact row_farW (p := ⟨b, 11, none⟩) O14 (fun e => hgb (by simpa [Value.ownBlock] using e)) _
  have M17 : w17.ownsRow base 57 3 vm ms.length (flatM ms) := by rw [E17.out]; exact row_farW (p := ⟨b, 11, none⟩) M14 (fun e => (G13.sm b e).2 rfl) _
  have F17 : Fr S w w17 := by rw [E17.out]; exact F14.setCell G13.sb _
  have hsh : Shr w13 S (fun k => S k ∨ k = g7) := shr_one Q14S
  have P17 : Held (fun k => S k ∨ k = g7) w17 fun w' => OwnP w.heap.size w' (makeZ R (nowZ R ms) m) (.slice ya (makeZ R (nowZ R ms) m).cells.length yn) (.slice ya0 (makeZ R (nowZ R ms) m).h0.length yn0) (.slice ya1 (makeZ R (nowZ R ms) m).h1.length yn1) := by rw [E17.out]; exact (P14.step F1314 hsh).step ((Fr.refl (fun k => S k ∨ k = g7) w14).setCell (.inl G13.sb) _) (Shr.refl _ _)
  have Bm17 : Box w17 w.heap.size [.int .i64 m.src, .int .i64 m.dst, .int .i64 m.piece] 57 := by rw [E17.out]; exact Bm14.far ⟨b, 11, none⟩ _ (fun e => by have := HGB.out; simp at e; omega)
  have Z17 : w14.heap.size = w17.heap.size := by rw [E17.out]; simp [World.setCell]
  have LB17 : Below base w w17 := by rw [E17.out]; exact LB14.setCell (p := ⟨b, 11, none⟩) (G13.lo b G13.sb).1 _
  have HH := Lib.hid (And.intro B17 (And.intro hgb (And.intro O17 (And.intro M17 (And.intro F17 (And.intro P17 (And.intro Bm17 (And.intro Q14 (And.intro LB17 (And.intro Z14 Z17))))))))))
  have HG13 := Lib.hid G13
  clear B17 hgb O17 M17 F17 hsh P17 Bm17 Z14 Z17 LB17 LB14 Q14 Q14S B14 Bm14 F14 F1314 M14 O14 P14 P13 P12 N13 G13 G12 G10 Gz Bmz Bm10 Bm12 Bm13 Lz L10 L12 L13 N10 hgo E17 hl14 hHeld
  go_upto_region 8 with (fail)
  generalize w17 = x17 at *
  obtain ⟨B17, hgb, O17, M17, F17, P17, Bm17, Q14, LB17, Z14, Z17⟩ := HH.out
  clear HH
  have HSH : Hid (Shr w S (fun k => S k ∨ k = g7)) := Lib.hid (fun k hk h => by
    rcases h with h | h
    · exact h
    · subst h
      rcases Q14 with q | q
      · rw [q]; exact (HG13.out.sl g rfl).1
      · omega)
  have HAP : Hid (Value.ownBlock (.slice (some ⟨g7, 0, none⟩) (ms.length + 1 + 1) c7) = none ∨ Value.ownBlock (.slice (some ⟨g7, 0, none⟩) (ms.length + 1 + 1) c7) ≠ vm.ownBlock) := Lib.hid (.inr (fun e => by
    rcases Q14 with q | q
    · rw [q] at e
      rcases HG13.out.ap with h | h
      · cases h
      · exact h e
    · have := HOM.out g7 e.symm; omega))
  have HNE : Hid (∀ g8, g7 = g8 → (vm.ownBlock = some g8 ∨ x17.heap.size ≤ g8) → False) := Lib.hid (fun g8 e h => by
    subst e
    rcases h with h | h
    · rcases HAP.out with q | q
      · cases q
      · exact q h.symm
    · have := (O17.lt g7 rfl).2; omega)
  have HSM : Hid (∀ k, vm.ownBlock = some k → S k) := Lib.hid (fun k hk => (HG13.out.sm k hk).1)
  have By : Box x17.drew b [.string R.name, .int .i64 R.width, .int .i64 R.height, vp, vs, .bool R.falls, .bool R.keeps, ve, .int .i64 R.blocked, .int .i64 R.quiet, .int .i64 R.rept, .slice (some ⟨g7, 0, none⟩) (ms.length + 1 + 1) c7, vm] 90 := B17
  have Bmy : Box x17.drew w.heap.size [.int .i64 m.src, .int .i64 m.dst, .int .i64 m.piece] 57 := Bm17
  have My : x17.drew.ownsRow base 57 3 vm ms.length (flatM ms) := M17
  have Oy : x17.drew.ownsRow base 43 5 (.slice (some ⟨g7, 0, none⟩) (ms.length + 1 + 1) c7) (ms.length + 1 + 1) (flatV rows ++ [.slice ya (makeZ R (nowZ R ms) m).cells.length yn, .slice ya0 (makeZ R (nowZ R ms) m).h0.length yn0, .slice ya1 (makeZ R (nowZ R ms) m).h1.length yn1, .int .i64 (makeZ R (nowZ R ms) m).turn, .int .i64 (makeZ R (nowZ R ms) m).quiet]) := O17
  have LBy : Below base w x17.drew := below_drew' LB17
  have Z17y : x17.heap.size ≤ x17.drew.heap.size := Nat.le_refl _
  clear B17 O17 M17 Bm17 Q14 LB17 Z14 Z17
  refine wp_region_noPanic ?_
  refine beginL (S := (fun w' => w'.cell? ⟨b, 12, none⟩ = some vm ∧ w'.cell? ⟨w.heap.size, 0, none⟩ = some (.int .i64 m.src) ∧ w'.cell? ⟨w.heap.size, 1, none⟩ = some (.int .i64 m.dst) ∧ w'.cell? ⟨w.heap.size, 2, none⟩ = some (.int .i64 m.piece))) (L := [10]) (by kernel_rfl) ⟨By.cell 12 rfl, Bmy.cell 0 rfl, Bmy.cell 1 rfl, Bmy.cell 2 rfl⟩ (fun hHeld => ?_)
  refine takeW (i := 0) (oi := { dst := some 44, op := Op.move (Operand.tmp 0), type := 58, pos := "plain.go:44", after := #[], guard := none }) (v := ?va201) rfl (by kernel_rfl) (by kernel_rfl) (by kernel_rfl) rfl (fun _ _ _ h => h) (Or.inl ⟨by rfl, ?ya201⟩) (fun _ => by assumption) ?ra201
  case ya201 => (intro w _; go_simp; first | done | (with_reducible rfl))
  try simp only [Act.put, List.setIfInBounds_toArray, List.set_cons_zero, List.set_cons_succ]
  refine takeW (i := 1) (oi := { dst := some 45, op := Op.move (Operand.tmp 0), type := 58, pos := "plain.go:44", after := #[], guard := none }) (v := ?va202) rfl (by kernel_rfl) (by kernel_rfl) (by kernel_rfl) rfl (fun _ _ _ h => h) (Or.inl ⟨by rfl, ?ya202⟩) (fun _ => by assumption) ?ra202
  case ya202 => (intro w _; go_simp; first | done | (with_reducible rfl))
  try simp only [Act.put, List.setIfInBounds_toArray, List.set_cons_zero, List.set_cons_succ]
  refine takeL (i := 5) (oi := { dst := some 49, op := Op.load 57 (Operand.tmp 3), type := 57, pos := "plain.go:44", after := #[], guard := none }) (v := ?va203) rfl (by kernel_rfl) (by kernel_rfl) (by kernel_rfl) (by kernel_rfl) rfl (by kernel_rfl) (by kernel_rfl) (fun _ _ _ h => h) (Or.inl ⟨by rfl, ?ya203⟩) (by assumption) ?ra203
  case ya203 => (intro w hSw; (try dsimp only at hSw); go_simp; first | done | (with_reducible rfl))
  try simp only [Act.put, List.setIfInBounds_toArray, List.set_cons_zero, List.set_cons_succ]
  refine takeW (i := 2) (oi := { dst := some 46, op := Op.nilCheck (Operand.tmp 45), type := 0, pos := "plain.go:44", after := #[{ on := 1, ground := Ground.data }], guard := none }) (v := ?va204) rfl (by kernel_rfl) (by kernel_rfl) (by kernel_rfl) rfl (fun _ _ _ h => h) (Or.inl ⟨by rfl, ?ya204⟩) (fun _ => by assumption) ?ra204
  case ya204 => (intro w _; go_simp; first | done | (with_reducible rfl))
  try simp only [Act.put, List.setIfInBounds_toArray, List.set_cons_zero, List.set_cons_succ]
  refine takeW (i := 3) (oi := { dst := some 47, op := Op.fieldAddr 90 (Operand.tmp 46) 2, type := 0, pos := "plain.go:44", after := #[{ on := 2, ground := Ground.data }], guard := none }) (v := ?va205) rfl (by kernel_rfl) (by kernel_rfl) (by kernel_rfl) rfl (fun _ _ _ h => h) (Or.inl ⟨by rfl, ?ya205⟩) (fun _ => by assumption) ?ra205
  case ya205 => (intro w _; go_simp; first | done | (with_reducible rfl))
  try simp only [Act.put, List.setIfInBounds_toArray, List.set_cons_zero, List.set_cons_succ]
  refine takeL (i := 4) (oi := { dst := some 48, op := Op.load 36 (Operand.tmp 47), type := 36, pos := "plain.go:44", after := #[{ on := 3, ground := Ground.data }], guard := none }) (v := ?va206) rfl (by kernel_rfl) (by kernel_rfl) (by kernel_rfl) (by kernel_rfl) rfl (by kernel_rfl) (by kernel_rfl) (fun _ _ _ h => h) (Or.inl ⟨by rfl, ?ya206⟩) (by assumption) ?ra206
  case ya206 => (intro w hSw; (try dsimp only at hSw); go_simp; first | done | (with_reducible rfl))
  try simp only [Act.put, List.setIfInBounds_toArray, List.set_cons_zero, List.set_cons_succ]
  refine readyL (rs := [6]) (by kernel_rfl) (by simp) ?_
  refine (AllReadyL.cons (o := { dst := some 50, op := Op.buildSlice 36 1 #[(0, Operand.tmp 49)], type := 36, pos := "plain.go:44", after := #[{ on := 5, ground := Ground.data }], guard := none }) rfl (fun K hK => ?_) AllReadyL.nil)
  go_simp
  refine K_world ?_
  intro x6 e6
  have hb6 : Below x17.drew.heap.size x17.drew x6 := by rw [e6]; exact (Below.refl _ _).alloc (Nat.le_refl _) _
  have N6 : Box x6 x17.heap.size [.int .i64 m.src, .int .i64 m.dst, .int .i64 m.piece] 57 := by rw [e6]; exact Box.new' _ _ _ _ rfl
  have B6 := By.stays hb6
  have Bm6 := Bmy.stays hb6
  have M6 := own_stays My hb6
  have O6 := own_stays Oy hb6
  have F6 : Fr (fun k => S k ∨ k = g7) x17.drew x6 := Fr.of_new hb6
  have Z6 := hb6.size
  have LB6 : Below base w x6 := LBy.trans (hb6.mono (Nat.le_trans HBB.out LBy.size))
  clear hb6 e6
  refine hK.out _ _ ⟨B6.cell 12 rfl, Bm6.cell 0 rfl, Bm6.cell 1 rfl, Bm6.cell 2 rfl⟩ (fun hHeld => ?_)
  clear hK K
  try simp only [Act.put, List.setIfInBounds_toArray, List.set_cons_zero, List.set_cons_succ]
  refine readyL (rs := [7]) (by kernel_rfl) (by simp) ?_
  refine (AllReadyL.cons (o := { dst := some 51, op := Op.call { callee := Callee.builtin Builtin.append, args := #[Operand.tmp 48, Operand.tmp 50], argTypes := #[36, 36] }, type := 36, pos := "plain.go:44", after := #[{ on := 4, ground := Ground.data }, { on := 6, ground := Ground.data }], guard := none }) rfl (fun K hK => ?_) AllReadyL.nil)
  rw [if_pos (by rfl)]
  refine wp_append_lies _ _ _ 36 rfl base 57 j0 (.agg #[.int .i64 0, .int .i64 0, .int .i64 0]) 3 24 Try.underlying36 HJ0.out HJ1.out HJ2.out HJ3.out rfl (by decide) vm ms.length (flatM ms) rfl M6 ⟨x17.heap.size, 0, none⟩ 1 1 [.int .i64 m.src, .int .i64 m.dst, .int .i64 m.piece] rfl rfl (box_srcV N6) three_ints (by decide) (by unfold maxLen; omega) (by omega) (Nat.le_trans HBB.out LB6.size) x6.heap.size rfl ?_
  intro g8 c8 x7 ho7 hg7 hq7 hl7
  have B7 : Box x7 b [.string R.name, .int .i64 R.width, .int .i64 R.height, vp, vs, .bool R.falls, .bool R.keeps, ve, .int .i64 R.blocked, .int .i64 R.quiet, .int .i64 R.rept, .slice (some ⟨g7, 0, none⟩) (ms.length + 1 + 1) c7, vm] 90 := B6.grown hg7 (fun e => (HG13.out.sm b e.symm).2 rfl)
  have Bm7 : Box x7 w.heap.size [.int .i64 m.src, .int .i64 m.dst, .int .i64 m.piece] 57 := Bm6.grown hg7 (fun e => by have := HOM.out _ e.symm; omega)
  have O7 := O6.kept hg7 HAP.out
  have F7 : Fr (fun k => S k ∨ k = g7) x17.drew x7 := F6.grown hg7 (fun q hq _ => .inl (HSM.out q hq))
  have Q7 := newQ2 hq7 (Nat.le_trans Z17y Z6)
  have Q7S := hq7
  have M7 := ho7
  have Z7 := hg7.size
  have LB7 : Below base w x7 := Below.grown LB6 hg7 (Nat.le_trans HBB.out LB6.size) (fun q hq => (M6.lt q hq).1)
  clear ho7 hg7 hq7
  refine hK.out _ _ ⟨B7.cell 12 rfl, Bm7.cell 0 rfl, Bm7.cell 1 rfl, Bm7.cell 2 rfl⟩ (fun hHeld => ?_)
  clear hK K
  try simp only [Act.put, List.setIfInBounds_toArray, List.set_cons_zero, List.set_cons_succ]
  refine takeW (i := 8) (oi := { dst := some 52, op := Op.nilCheck (Operand.tmp 44), type := 0, pos := "plain.go:44", after := #[{ on := 0, ground := Ground.data }, { on := 0, ground := Ground.phase }, { on := 1, ground := Ground.phase }, { on := 2, ground := Ground.phase }, { on := 3, ground := Ground.phase }, { on := 4, ground := Ground.phase }, { on := 5, ground := Ground.phase }, { on := 6, ground := Ground.phase }, { on := 7, ground := Ground.phase }], guard := none }) (v := ?va207) rfl (by kernel_rfl) (by kernel_rfl) (by kernel_rfl) rfl (fun _ _ _ h => h) (Or.inl ⟨by rfl, ?ya207⟩) (fun _ => by assumption) ?ra207
  case ya207 => (intro w _; go_simp; first | done | (with_reducible rfl))
  try simp only [Act.put, List.setIfInBounds_toArray, List.set_cons_zero, List.set_cons_succ]
  refine takeW (i := 9) (oi := { dst := some 53, op := Op.fieldAddr 90 (Operand.tmp 52) 2, type := 0, pos := "plain.go:44", after := #[{ on := 8, ground := Ground.data }, { on := 0, ground := Ground.phase }, { on := 1, ground := Ground.phase }, { on := 2, ground := Ground.phase }, { on := 3, ground := Ground.phase }, { on := 4, ground := Ground.phase }, { on := 5, ground := Ground.phase }, { on := 6, ground := Ground.phase }, { on := 7, ground := Ground.phase }], guard := none }) (v := ?va208) rfl (by kernel_rfl) (by kernel_rfl) (by kernel_rfl) rfl (fun _ _ _ h => h) (Or.inl ⟨by rfl, ?ya208⟩) (fun _ => by assumption) ?ra208
  case ya208 => (intro w _; go_simp; first | done | (with_reducible rfl))
  try simp only [Act.put, List.setIfInBounds_toArray, List.set_cons_zero, List.set_cons_succ]
  refine readyL (rs := [10]) (by kernel_rfl) (by simp) ?_
  refine (AllReadyL.late (o := { dst := none, op := Op.store 36 (Operand.tmp 53) (Operand.tmp 51), type := 0, pos := "plain.go:44", after := #[{ on := 9, ground := Ground.data }, { on := 7, ground := Ground.data }, { on := 7, ground := Ground.chain }, { on := 0, ground := Ground.phase }, { on := 1, ground := Ground.phase }, { on := 2, ground := Ground.phase }, { on := 3, ground := Ground.phase }, { on := 4, ground := Ground.phase }, { on := 5, ground := Ground.phase }, { on := 6, ground := Ground.phase }, { on := 7, ground := Ground.phase }], guard := none }) rfl (by kernel_rfl) (fun K hK => ?_) AllReadyL.nil)
  have dd := B7.cell 12 rfl
  have df := B7.frozen 12
  go_simp
  refine K_world ?_
  intro x10 e10
  have E10 := Lib.hid e10
  clear e10 dd df
  refine hK.out _ _ ?_
  clear hK K
  try simp only [Act.put, List.setIfInBounds_toArray, List.set_cons_zero, List.set_cons_succ]
  refine doneL (by kernel_rfl) ?_ _
  refine NoPanic.normal ?_
  have B10 : Box x10 b [.string R.name, .int .i64 R.width, .int .i64 R.height, vp, vs, .bool R.falls, .bool R.keeps, ve, .int .i64 R.blocked, .int .i64 R.quiet, .int .i64 R.rept, .slice (some ⟨g7, 0, none⟩) (ms.length + 1 + 1) c7, .slice (some ⟨g8, 0, none⟩) (ms.length + 1) c8] 90 := by rw [E10.out]; exact B7.set 12 _
  have hhb : g8 ≠ b := fun e => by rcases Q7 with q | q; exact (HG13.out.sm g8 q).2 e; have := HGB.out; have := F17.size; omega
  have O10 : x10.ownsRow base 43 5 (.slice (some ⟨g7, 0, none⟩) (ms.length + 1 + 1) c7) (ms.length + 1 + 1) (flatV (rows ++ [⟨(makeZ R (nowZ R ms) m), .slice ya (makeZ R (nowZ R ms) m).cells.length yn, .slice ya0 (makeZ R (nowZ R ms) m).h0.length yn0, .slice ya1 (makeZ R (nowZ R ms) m).h1.length yn1⟩])) := by rw [E10.out, ← flatV_append]; exact row_farW (p := ⟨b, 12, none⟩) O7 (fun e => hgb (by simpa [Value.ownBlock] using e)) _
  have M10 : x10.ownsRow base 57 3 (.slice (some ⟨g8, 0, none⟩) (ms.length + 1) c8) (ms.length + 1) (flatM (ms ++ [m])) := by rw [E10.out, ← flatM_append]; exact row_farW (p := ⟨b, 12, none⟩) M7 (fun e => hhb (by simpa [Value.ownBlock] using e)) _
  have F10 : Fr (fun k => S k ∨ k = g7) x17.drew x10 := by rw [E10.out]; exact F7.setCell (.inl HG13.out.sb) _
  have FW : Fr S w x10 := (F17.drew).trans F10 HSH.out
  have hs10 : Shr x17.drew (fun k => S k ∨ k = g7) (fun k => (S k ∨ k = g7) ∨ k = g8) := shr_two Q7 HSM.out Z17y
  have hsw : Shr w S (fun k => (S k ∨ k = g7) ∨ k = g8) := HSH.out.trans hs10 F17.size
  have P10 := (P17.step (Fr.drew (Fr.refl _ x17)) (Shr.refl _ _)).step F10 hs10
  have Z10 : x7.heap.size = x10.heap.size := by rw [E10.out]; simp [World.setCell]
  have LB10 : Below base w x10 := by rw [E10.out]; exact LB7.setCell (p := ⟨b, 12, none⟩) (HG13.out.lo b HG13.out.sb).1 _
  have hgf : GameAt (fun k => (S k ∨ k = g7) ∨ k = g8) base x10 b R (ms ++ [m]) vp vs ve (.slice (some ⟨g7, 0, none⟩) (ms.length + 1 + 1) c7) (.slice (some ⟨g8, 0, none⟩) (ms.length + 1) c8) (rows ++ [⟨(makeZ R (nowZ R ms) m), .slice ya (makeZ R (nowZ R ms) m).cells.length yn, .slice ya0 (makeZ R (nowZ R ms) m).h0.length yn0, .slice ya1 (makeZ R (nowZ R ms) m).h1.length yn1⟩]) := ⟨B10, .inl (.inl HG.out.sb), fun k hk => by
      rcases hk with (hk | hk) | hk
      · exact ⟨(HG.out.lo k hk).1, Nat.lt_of_lt_of_le (HG.out.lo k hk).2 FW.size⟩
      · rw [hk]; exact O10.lt g7 rfl
      · rw [hk]; exact M10.lt g8 rfl, HG.out.rd.step FW hsw, by rw [List.length_append]; exact O10, by rw [List.map_append, HG.out.mp, psOf_snoc]; rfl, fun r hr => by
      rcases List.mem_append.1 hr with hr | hr
      · exact (HG.out.rw r hr).step FW hsw
      · rw [List.mem_singleton.1 hr]; exact P10.imp (fun _ h => h.rd), by rw [List.length_append]; exact M10, fun k hk => by
      obtain rfl : g7 = k := by simpa [Value.ownBlock] using hk
      exact ⟨.inl (.inr rfl), hgb⟩, fun k hk => by
      obtain rfl : g8 = k := by simpa [Value.ownBlock] using hk
      exact ⟨.inr rfl, hhb⟩, .inr (fun e => HNE.out g8 (by simpa [Value.ownBlock] using e) Q7), by have := HLT.out; simp; omega, HG.out.la.snoc HMem.out, HG.out.re⟩
  have HGf := Lib.hid hgf
  have HFW := Lib.hid FW
  have HSW := Lib.hid hsw
  clear hgf FW hsw B10 hhb O10 M10 F10 hs10 P10 Z10 LB10 hHeld By Bmy My Oy LBy B6 Bm6 M6 O6 F6 B7 Bm7 O7 F7 Q7 M7 LB7 LB6 N6 E10 F17 P17 hgb Z17y
  go_wp2_with fail
  go_ret
  exact .inr ⟨HPE.out, rfl, _, _, _, _, HGf.out, HSW.out, HFW.out⟩

end Go.Proofs.Ytnieifdogllbfaa
/- The contract of plain.Run. -/
namespace Go.Proofs.Ytnieifdogllbfaa
open Go.ChangeShapes Go.WideShapes Go.ChangeAt Go.RowKit
set_option linter.unusedVariables false

theorem results_c2g {P : Program} {fn : Func} {tmps : Array Value} {a s s2 : Nat} {t t' : TypeId} {w : World} {b : Nat} {cs : List Value} {v v2 : Value} {d : TypeDesc} (hr : fn.results = #[.cell a t, .tmp s, .tmp s2])
    (ha : tmps.getD a undef = .pointer (some ⟨b, 0, none⟩)) (hs : tmps.getD s undef = v) (hs2 : tmps.getD s2 undef = v2) (hc : Box w b cs t') (hu : P.underlying t = some d) (hd : d.isRow = true) (hi : (P.info? t).map (·.size) = some cs.length) :
    (results fn tmps).run P w = .ok (.tuple #[.agg cs.toArray, v, v2]) w := by
  have hl := run_loadVar_mid (P := P) w b 0 t cs d hc.range hu hd hi
  have ha' : tmps[a]?.getD undef = .pointer (some ⟨b, 0, none⟩) := by simpa using ha
  have hs' : tmps[s]?.getD undef = v := by simpa using hs
  have hs2' : tmps[s2]?.getD undef = v2 := by simpa using hs2
  unfold results
  rw [hr]
  simp [asAddr, ha', hs', hs2', hl]
def runFrom (R : RulesZ) : List MoveZ → List MoveZ → Int
  | _, [] => 0
  | ms, m :: t => if playErr R ms m ≠ 0 then playErr R ms m else runFrom R (ms ++ [m]) t
def runErr (R : RulesZ) (l : List MoveZ) : Int := if rulesErr R ≠ 0 then rulesErr R else runFrom R [] l
theorem runFrom_step (R : RulesZ) (l : List MoveZ) (k : Nat) (h : k < l.length) : runFrom R (l.take k) (l.drop k) = if playErr R (l.take k) (l.getD k default) ≠ 0 then playErr R (l.take k) (l.getD k default) else runFrom R (l.take (k + 1)) (l.drop (k + 1)) := by
  have e : l.getD k default = l[k] := by rw [List.getD_eq_getElem?_getD, List.getElem?_eq_getElem h]; rfl
  rw [List.drop_eq_getElem_cons h, runFrom, e, List.take_succ_eq_append_getElem h]
def PRunPost (R : RulesZ) (l : List MoveZ) (w : World) (e : Ending) (w' : World) : Prop :=
  (runErr R l ≠ 0 ∧ e = .returned (.tuple #[zeroPos, .int .i64 0, .int .i64 (runErr R l)]) ∧ Below w.heap.size w w') ∨
  (runErr R l = 0 ∧ rulesErr R = 0 ∧ LegalAll R (beginZ R) l ∧ l.length ≤ 400 ∧ ∃ vc v0 v1, e = .returned (.tuple #[posV (nowZ R l) vc v0 v1, .int .i64 (gameRes R l), .int .i64 0]) ∧ OwnP w.heap.size w' (nowZ R l) vc v0 v1 ∧ Below w.heap.size w w')
set_option maxRecDepth 100000 in
set_option maxHeartbeats 4000000 in
theorem PRun_any (HS : SortMvSaid) (R : RulesZ) (vp vs ve : Value) (v : Value) (l : List MoveZ) (w : World) (hr : RdR w R vp vs ve) (hnm : R.name.size ≤ maxLen) (hl : RdL moveEl w v l) :
    Calls Try.prog 10 #[(.agg #[.string R.name, .int .i64 R.width, .int .i64 R.height, vp, vs, .bool R.falls, .bool R.keeps, ve, .int .i64 R.blocked, .int .i64 R.quiet, .int .i64 R.rept]), v] w (PRunPost R l w) := by
  have HSh := Lib.hid HS
  have HR := Lib.hid hr
  have HN := Lib.hid hnm
  have HL := Lib.hid hl
  have HD : Hid (runErr R l = if rulesErr R ≠ 0 then rulesErr R else runFrom R [] l) := Lib.hid rfl
  obtain ⟨a, c, rfl, h1, h2⟩ := hl.form
  unfold maxLen at h2
  clear hr hnm hl HS
  go_enter Try.func10, Try.ntmps10
  go_upto_region 1 with (fail)
  have B0 : Box ((w.alloc (.cells #[.string R.name, .int .i64 R.width, .int .i64 R.height, vp, vs, .bool R.falls, .bool R.keeps, ve, .int .i64 R.blocked, .int .i64 R.quiet, .int .i64 R.rept] 26)).alloc (.cells #[.slice none 0 0, .slice none 0 0, .slice none 0 0, .int .i64 0, .int .i64 0] 43)) (w.heap.size) [.string R.name, .int .i64 R.width, .int .i64 R.height, vp, vs, .bool R.falls, .bool R.keeps, ve, .int .i64 R.blocked, .int .i64 R.quiet, .int .i64 R.rept] 26 := ((Box.new' w (w.heap.size) [.string R.name, .int .i64 R.width, .int .i64 R.height, vp, vs, .bool R.falls, .bool R.keeps, ve, .int .i64 R.blocked, .int .i64 R.quiet, .int .i64 R.rept] 26 (by simp <;> omega)).alloc _)
  have B1 : Box ((w.alloc (.cells #[.string R.name, .int .i64 R.width, .int .i64 R.height, vp, vs, .bool R.falls, .bool R.keeps, ve, .int .i64 R.blocked, .int .i64 R.quiet, .int .i64 R.rept] 26)).alloc (.cells #[.slice none 0 0, .slice none 0 0, .slice none 0 0, .int .i64 0, .int .i64 0] 43)) (w.heap.size + 1) [.slice none 0 0, .slice none 0 0, .slice none 0 0, .int .i64 0, .int .i64 0] 43 := (Box.new' (w.alloc (.cells #[.string R.name, .int .i64 R.width, .int .i64 R.height, vp, vs, .bool R.falls, .bool R.keeps, ve, .int .i64 R.blocked, .int .i64 R.quiet, .int .i64 R.rept] 26)) (w.heap.size + 1) [.slice none 0 0, .slice none 0 0, .slice none 0 0, .int .i64 0, .int .i64 0] 43 (by simp <;> omega))
  have HB : Hid (Below w.heap.size w ((w.alloc (.cells #[.string R.name, .int .i64 R.width, .int .i64 R.height, vp, vs, .bool R.falls, .bool R.keeps, ve, .int .i64 R.blocked, .int .i64 R.quiet, .int .i64 R.rept] 26)).alloc (.cells #[.slice none 0 0, .slice none 0 0, .slice none 0 0, .int .i64 0, .int .i64 0] 43))) := Lib.hid (((Below.refl w.heap.size w).alloc (Nat.le_refl _) _).alloc (by simp <;> omega) _)
  have hz0 : w.heap.size + 1 < ((w.alloc (.cells #[.string R.name, .int .i64 R.width, .int .i64 R.height, vp, vs, .bool R.falls, .bool R.keeps, ve, .int .i64 R.blocked, .int .i64 R.quiet, .int .i64 R.rept] 26)).alloc (.cells #[.slice none 0 0, .slice none 0 0, .slice none 0 0, .int .i64 0, .int .i64 0] 43)).heap.size := by simp
  generalize ((w.alloc (.cells #[.string R.name, .int .i64 R.width, .int .i64 R.height, vp, vs, .bool R.falls, .bool R.keeps, ve, .int .i64 R.blocked, .int .i64 R.quiet, .int .i64 R.rept] 26)).alloc (.cells #[.slice none 0 0, .slice none 0 0, .slice none 0 0, .int .i64 0, .int .i64 0] 43)) = w0 at *
  have HRw := Lib.hid (HR.out.below HB.out (Nat.le_refl _))
  have HX0 := Lib.hid B0
  have HX1 := Lib.hid B1
  clear B0 B1
  refine wp_region_lit ?_
  refine wpList_load_box (by rfl) 26 (.tmp 2) (by rfl) w.heap.size (by rfl) HX0.out Try.underlying26 (by rfl) (by kernel_rfl) ?_
  go_wp2_with fail
  refine (New_any R vp vs ve w0 HRw.out HN.out).mono ?_
  rintro e w1 (⟨hbad, rfl, hb1⟩ | ⟨hre, S, b, up, us, ue, vl, vm, rows, rfl, hg1, hb1⟩)
  · have HE : Hid (runErr R l = rulesErr R) := Lib.hid (by rw [HD.out, if_pos hbad])
    have HNE := Lib.hid hbad
    have he' : (rulesErr R != 0) = true := by simpa using hbad
    have HB1 := Lib.hid (below_trans HB.out hb1 HB.out.size)
    have HX11 := Lib.hid (HX1.out.stays hb1)
    clear hbad hb1
    go_wp2_with (refine wpList_store_box (vs := [.slice none 0 0, .slice none 0 0, .slice none 0 0, .int .i64 0, .int .i64 0]) (by rfl) 43 (.tmp 4) (.tmp 19) (by rfl) (w.heap.size + 1) (by rfl) (by rfl) HX11.out rfl (by kernel_rfl) (by rfl) ?_)
    exact bodyPost_ret (results_c2g rfl (by rfl) (by rfl) (by rfl) (HX11.out.store rfl) Try.underlying43 (by rfl) (by kernel_rfl)) rfl (.inl ⟨by rw [HE.out]; exact HNE.out, by rw [HE.out]; rfl, below_setCells HB1.out (by omega) 0 _⟩)
  have HD1 : Hid (runErr R l = runFrom R [] l) := Lib.hid (by rw [HD.out, if_neg (by simp [hre])])
  have HRe := Lib.hid hre
  have HG1 := Lib.hid hg1
  have HB1 := Lib.hid hb1
  clear hg1 hb1 hre HD
  go_wp2_with fail
  go_loopw [23, 10, 11] (fun vi vm' ve' wr => ∃ (k : Nat) (S : Nat → Prop) (vl vm : Value) (rows : List PosV), k ≤ l.length ∧ vi = .int .i64 k ∧ Hid (runErr R l = runFrom R (l.take k) (l.drop k)) ∧ Hid (GameAt S w0.heap.size wr b R (l.take k) up us ue vl vm rows) ∧ Hid (Below w0.heap.size w0 wr)) (fun i _ _ _ => l.length - (intOf i).toNat)
  case atStart => exact ⟨0, S, vl, vm, rows, Nat.zero_le _, rfl, HD1, HG1, HB1⟩
  case round =>
    obtain ⟨k, S, vl, vm, rows, hk, rfl, HDk, HG, HBr⟩ := hrel
    have hsz := HBr.out.size
    have hwz := HB.out.size
    have HY1 := Lib.hid (HX1.out.stays HBr.out)
    have HBw := Lib.hid (below_trans HB.out HBr.out HB.out.size)
    by_cases hlt : k < l.length
    · obtain ⟨g, o, ha, hg, hcc⟩ := moves_some (HL.out.below HBw.out (Nat.le_refl _)) (by omega)
      subst ha
      obtain ⟨c0, c1, c2⟩ := hcc k hlt
      have HST := Lib.hid (runFrom_step R l k hlt)
      have HTK : Hid (l.take (k + 1) = l.take k ++ [l.getD k default]) := Lib.hid (by rw [List.take_succ_eq_append_getElem hlt, List.getD_eq_getElem?_getD, List.getElem?_eq_getElem hlt]; rfl)
      clear hcc
      generalize l.getD k default = m at *
      go_upto_region 7 with (fail)
      have HBm := Lib.hid (Box.new wr [.int .i64 m.src, .int .i64 m.dst, .int .i64 m.piece] 57)
      have HGm := Lib.hid (HG.out.below ((Below.refl _ wr).alloc (Nat.le_refl _) (.cells #[.int .i64 m.src, .int .i64 m.dst, .int .i64 m.piece] 57)))
      have HBn := Lib.hid (HBr.out.alloc hsz (.cells #[.int .i64 m.src, .int .i64 m.dst, .int .i64 m.piece] 57))
      have HZ1 := Lib.hid (HY1.out.alloc (.cells #[.int .i64 m.src, .int .i64 m.dst, .int .i64 m.piece] 57))
      have hzm : wr.heap.size < (wr.alloc (.cells #[.int .i64 m.src, .int .i64 m.dst, .int .i64 m.piece] 57)).heap.size := by simp
      clear c0 c1 c2
      generalize (wr.alloc (.cells #[.int .i64 m.src, .int .i64 m.dst, .int .i64 m.piece] 57)) = wn at *
      have d0 := HBm.out.cell 0 rfl
      have d1 := HBm.out.cell 1 rfl
      have d2 := HBm.out.cell 2 rfl
      go_wp2_with fail
      refine (Play_any HSh.out m wn HGm.out HBn.out.size).mono ?_
      rintro e w2 (⟨hbad, rfl, hb2⟩ | ⟨hok, rfl, S', vl', vm', rows', hg2, hsh, hf2⟩)
      · have HE : Hid (runErr R l = playErr R (l.take k) m) := Lib.hid (by rw [HDk.out, HST.out, if_pos hbad])
        have HNE := Lib.hid hbad
        have he' : (playErr R (l.take k) m != 0) = true := by simpa using hbad
        have HB2 := Lib.hid (below_trans HB.out (HBn.out.trans (hb2.mono HBn.out.size)) HB.out.size)
        have HZ2 := Lib.hid (HZ1.out.stays hb2)
        clear hbad hb2
        go_wp2_with (refine wpList_store_box (vs := [.slice none 0 0, .slice none 0 0, .slice none 0 0, .int .i64 0, .int .i64 0]) (by rfl) 43 (.tmp 4) (.tmp 32) (by rfl) (w.heap.size + 1) (by rfl) (by rfl) HZ2.out rfl (by kernel_rfl) (by rfl) ?_)
        exact bodyPost_ret (results_c2g rfl (by rfl) (by rfl) (by rfl) (HZ2.out.store rfl) Try.underlying43 (by rfl) (by kernel_rfl)) rfl (.inl ⟨by rw [HE.out]; exact HNE.out, by rw [HE.out]; rfl, below_setCells HB2.out (by omega) 0 _⟩)
      · have HE : Hid (runErr R l = runFrom R (l.take (k + 1)) (l.drop (k + 1))) := Lib.hid (by rw [HDk.out, HST.out, if_neg (by simp [hok])])
        have HG2 : Hid (GameAt S' w0.heap.size w2 b R (l.take (k + 1)) up us ue vl' vm' rows') := Lib.hid (by rw [HTK.out]; exact hg2)
        have HB2 := Lib.hid (HBn.out.trans (HGm.out.frame hf2 HBn.out.size))
        clear hok hg2 hsh hf2
        go_wp2_with fail
        go_roundw
        case rel => exact ⟨k + 1, S', vl', vm', rows', by omega, by go_num, HE, HG2, HB2⟩
        case measure => simp [intOf]; omega
    · obtain rfl : k = l.length := by omega
      have HGl : Hid (GameAt S w0.heap.size wr b R l up us ue vl vm rows) := Lib.hid (by have := HG.out; rwa [List.take_of_length_le (Nat.le_refl _)] at this)
      have HE : Hid (runErr R l = 0) := Lib.hid (by rw [HDk.out, List.drop_of_length_le (Nat.le_refl _)]; rfl)
      have HLA := Lib.hid HGl.out.la
      have HLT := Lib.hid HGl.out.lt
      clear HG HDk
      go_upto_region 11 with (fail)
      go_wp2_with fail
      refine (gamePos_any wr HGl.out).mono ?_
      rintro e w2 ⟨yc, y0, y1, rfl, ho2, hb2⟩
      obtain ⟨ya, yn, rfl⟩ := own_form2 ho2.1
      obtain ⟨ya0, yn0, rfl⟩ := own_form2 ho2.2.1
      obtain ⟨ya1, yn1, rfl⟩ := own_form2 ho2.2.2.1
      have HG2 := Lib.hid (HGl.out.below hb2)
      have HZ2 := Lib.hid (HY1.out.stays hb2)
      have HB2 := Lib.hid (below_trans HBw.out hb2 HBw.out.size)
      have HO2 := Lib.hid ho2
      have hz1 := HY1.out.lt
      clear hb2 ho2
      go_wp2_with fail
      refine (gameRes_any HSh.out w2 HG2.out).mono ?_
      rintro e w3 ⟨rfl, hb3⟩
      have HZ3 := Lib.hid (HZ2.out.stays hb3)
      have HB3 := Lib.hid (below_trans HB2.out hb3 HB2.out.size)
      have HO3 : Hid (OwnP wr.heap.size w3 (nowZ R l) (.slice ya (nowZ R l).cells.length yn) (.slice ya0 (nowZ R l).h0.length yn0) (.slice ya1 (nowZ R l).h1.length yn1)) := Lib.hid ⟨own_stays HO2.out.1 hb3, own_stays HO2.out.2.1 hb3, own_stays HO2.out.2.2.1 hb3, HO2.out.2.2.2⟩
      clear hb3
      go_wp2_with (refine wpList_store_box (vs := [.slice ya (nowZ R l).cells.length yn, .slice ya0 (nowZ R l).h0.length yn0, .slice ya1 (nowZ R l).h1.length yn1, .int .i64 (nowZ R l).turn, .int .i64 (nowZ R l).quiet]) (by rfl) 43 (.tmp 4) (.tmp 36) (by rfl) (w.heap.size + 1) (by rfl) (by rfl) HZ3.out rfl (by kernel_rfl) (by rfl) ?_)
      exact bodyPost_ret (results_c2g rfl (by rfl) (by rfl) (by rfl) (HZ3.out.store rfl) Try.underlying43 (by rfl) (by kernel_rfl)) rfl (.inr ⟨HE.out, HRe.out, HLA.out, HLT.out, _, _, _, rfl, (HO3.out.setCells hz1 0 _).base (by have := HBw.out.size; omega), below_setCells HB3.out (by omega) 0 _⟩)

end Go.Proofs.Ytnieifdogllbfaa

/- Bq3: Cut, Begin2, BkE, Raw, BkF, in one text. -/
import Derived.Test.YtkfaibdflbdpgaaGmC
import Derived.Test.YtkfaibdflbdpgaaTic
import Derived.Test.YtkfaibdflbdpgaaSub
import Derived.Test.YtkfaibdflbdpgaaBox2
import Derived.Test.YtkfaibdflbdpgaaApp
import Derived.Test.YtkfaibdflbdpgaaCopy
import Derived.Test.YtkfaibdflbdpgaaBq2
import Derived.Test.YtkfaibdflbdpgaaOpenV
/- gamehallkeep3.cut, great; append of one new element, with the block where it lies. -/
namespace Go.Proofs.Ytkfaibdflbdpgaa
open Go.ChangeShapes Go.WideShapes Go.ChangeAt Go.RowKit
set_option linter.unusedVariables false
theorem minG (a : Nat) (b : Int) (hb : 0 ≤ b) : ∃ m : Nat, (if b < (a : Int) then b else (a : Int)) = (m : Int) ∧ m ≤ a ∧ (m : Int) ≤ b := by
  by_cases h : b < a
  · exact ⟨b.toNat, by rw [if_pos (by omega)]; omega, by omega, by omega⟩
  · exact ⟨a, by rw [if_neg (by omega)], by omega, by omega⟩
set_option maxRecDepth 100000 in
theorem cut_any (v : Value) (l : List MoveZ) (w : World) (hl : RdL moveEl w v l) : Calls Try.prog 33 #[v] w fun e w' => w' = w ∧ ∃ v', e = .returned v' ∧ RdL moveEl w v' (l.take 40) := by
  have HL := Lib.hid hl
  obtain ⟨a, c, rfl, h1, h2⟩ := hl.form
  unfold maxLen at h2
  obtain ⟨n, hk, k1, k2⟩ := minG l.length 40 (by omega)
  have HT : Hid (RdL moveEl w (.slice a n c) (l.take 40)) := Lib.hid (by
    have e : l.take 40 = l.take n := by
      by_cases h : (40 : Int) < l.length
      · rw [if_pos h] at hk
        rw [show n = 40 by omega]
      · rw [if_neg h] at hk
        rw [List.take_of_length_le (by omega), List.take_of_length_le (by omega)]
    rw [e]; exact hl.take n k1)
  have hsl : ∀ w' : World, (Instr.slice 32 (.slice a l.length c) none (some (.int .i64 (n : Int))) none).run Try.prog w' = .ok (.slice a n c) w' := fun w' =>
    run_take (P := Try.prog) (t := 32) (s := 3) Try.underlying32 (fun w => by kernel_rfl) a l.length c n (by omega) w'
  clear hl
  go_enter Try.func33, Try.ntmps33
  go_wp2_with fail
  go_ret
  exact ⟨rfl, _, rfl, HT.out⟩
set_option maxRecDepth 100000 in
theorem great_anyG (R : RulesZ) (vp vs ve : Value) (w : World) (h : RdI w vs R.start) : Calls Try.prog 27 #[(.agg #[.string R.name, .int .i64 R.width, .int .i64 R.height, vp, vs, .bool R.falls, .bool R.keeps, ve, .int .i64 R.blocked, .int .i64 R.quiet, .int .i64 R.rept])] w fun e w' => e = .returned (.bool (decide (20 < (R.start.length : Int)))) ∧ Below w.heap.size w w' := by
  obtain ⟨a, c, rfl, h1, h2⟩ := h.form
  unfold maxLen at h2
  clear h
  go_enter Try.func27, Try.ntmps27
  go_wp2
  go_ret
  exact ⟨rfl, (Below.refl _ _).alloc (Nat.le_refl _) _⟩
theorem app_newC {ops : Array Oper} {rest : List Oper} {o : Oper} {a : Act} {Q : Exit → Act → World → Prop} (t e : TypeId) (z : Value) (k b : Nat)
    (hI : (Try.prog.info? e).map (fun i => (i.zero, i.size, i.bytes)) = some (some z, k, b)) (ht : Try.prog.underlying t = some (.slice e)) (hzs : z.cells.size = k) (hk : 0 < k) (hgd : o.guard = none) (s x : Operand)
    (ho : o.op = .call { callee := .builtin .append, args := #[s, x], argTypes := #[t, t] }) (base : Nat) (v : Value) (n : Nat) (xs news : List Value) (W : World) (hown : W.ownsRow base e k v n xs) (hb : base ≤ W.heap.size)
    (hl : news.length = k) (h1 : ∀ u ∈ news, u.oneCell' = true) (hn : n + 1 ≤ 100000000) (hbb : (n + 1) * b ≤ 140737488355328) (hs : a.eval s = v) (hx : a.eval x = .slice (some ⟨W.heap.size, 0, none⟩) 1 1)
    (h : ∀ g cap w', w'.ownsRow base e k (.slice (some ⟨g, 0, none⟩) (n + 1) cap) (n + 1) (xs ++ news) → (W.alloc (.cells news.toArray e)).grownBy w' v.ownBlock → (v.ownBlock = some g ∨ W.heap.size ≤ g) →
      wpList Try.prog ops Q rest (a.put o.dst (.slice (some ⟨g, 0, none⟩) (n + 1) cap)) w') : wpList Try.prog ops Q (o :: rest) a (W.alloc (.cells news.toArray e)) := by
  obtain ⟨i, hi, hz, hsz, hby⟩ := info_of hI
  refine wpList_append_lies _ hgd s x t ho base e i z k b ht hi hz hsz hby hzs hk v n xs hs (hown.alloc _) ⟨W.heap.size, 0, none⟩ 1 1 news hx (by rw [hl, Nat.one_mul]) (new_cells W news e) h1 (by decide) (by unfold maxLen; omega) hbb (by simp; omega) _ rfl ?_
  intro g cap w' hown' hg hat hlt
  refine h g cap w' hown' hg ?_
  rcases hat with e | e
  · exact .inl e
  · right; rw [e]; simp
/-- a box that is written, and a row that grows. -/
def BoxS (b : Nat) (vo : Value) : Nat → Prop := fun k => k = b ∨ vo.ownBlock = some k
theorem boxS_shr {b : Nat} {vo : Value} {w : World} {g n c : Nat} (h : vo.ownBlock = some g ∨ w.heap.size ≤ g) : Shr w (BoxS b vo) (BoxS b (.slice (some ⟨g, 0, none⟩) n c)) := fun k hk hs => by
  rcases hs with hs | hs
  · exact .inl hs
  · obtain rfl : g = k := by simpa [Value.ownBlock] using hs
    rcases h with e | e
    · exact .inr e
    · omega
theorem Fr.app {S : Nat → Prop} {w w' : World} {o : Obj} {vo : Value} (hg : (w.alloc o).grownBy w' vo.ownBlock) (hS : ∀ k, vo.ownBlock = some k → S k) : Fr S w w' := ((Fr.refl _ w).alloc o).grown hg (fun k hk _ => hS k hk)
theorem Box.app {w w' : World} {b base : Nat} {cs : List Value} {t e : TypeId} {sz n : Nat} {vo : Value} {xs : List Value} {o : Obj} (h : Box w b cs t) (ho : w.ownsRow base e sz vo n xs) (hg : (w.alloc o).grownBy w' vo.ownBlock) (hb : b < base) : Box w' b cs t :=
  (h.alloc o).grown hg (fun e => by have := (ho.lt b e.symm).1; omega)
theorem Below.app {w w0 w' : World} {B base : Nat} {e : TypeId} {sz n : Nat} {vo : Value} {xs : List Value} {o : Obj} (h : Below B w0 w) (ho : w.ownsRow base e sz vo n xs) (hg : (w.alloc o).grownBy w' vo.ownBlock) (hb : B ≤ base) (hB : B ≤ w.heap.size) : Below B w0 w' :=
  Below.grown (h.alloc hB o) hg (by simp; omega) (fun k hk => by have := (ho.lt k hk).1; omega)
end Go.Proofs.Ytkfaibdflbdpgaa
/- place.Begin: its position is new. -/
namespace Go.Proofs.Ytkfaibdflbdpgaa
open Go.ChangeShapes Go.WideShapes Go.ChangeAt Go.RowKit
set_option linter.unusedVariables false

def BeginPost2 (R : RulesZ) (w : World) (e : Ending) (w' : World) : Prop :=
  (rulesErr R ≠ 0 ∧ e = .returned (.tuple #[zeroPos, .int .i64 (rulesErr R)]) ∧ Below w.heap.size w w') ∨
  (rulesErr R = 0 ∧ ∃ vc v0 v1, e = .returned (.tuple #[posV (beginZ R) vc v0 v1, .int .i64 0]) ∧ (w'.ownsRow w.heap.size 3 1 vc (beginZ R).cells.length (ints (beginZ R).cells) ∧ w'.ownsRow w.heap.size 3 1 v0 (beginZ R).h0.length (ints (beginZ R).h0) ∧ w'.ownsRow w.heap.size 3 1 v1 (beginZ R).h1.length (ints (beginZ R).h1)) ∧ Below w.heap.size w w')
set_option maxRecDepth 100000 in
set_option maxHeartbeats 4000000 in
theorem Begin2_any (R : RulesZ) (vp vs ve : Value) (w : World) (h : RdR w R vp vs ve) (hnm : R.name.size ≤ maxLen) :
    Calls Try.prog 59 #[(.agg #[.string R.name, .int .i64 R.width, .int .i64 R.height, vp, vs, .bool R.falls, .bool R.keeps, ve, .int .i64 R.blocked, .int .i64 R.quiet, .int .i64 R.rept])] w (BeginPost2 R w) := by
  have HR := Lib.hid h
  have HN := Lib.hid hnm
  clear h hnm
  go_enter Try.func59, Try.ntmps59
  go_wp2_with fail
  refine (rulesCheck_any R vp vs ve _ ((HR.out.alloc _).alloc _) HN.out).mono ?_
  rintro e w1 ⟨rfl, hb1⟩
  have hs1 := hb1.size
  simp at hs1
  have z0 : w.heap.size < w1.heap.size := by omega
  have z1 : w.heap.size + 1 < w1.heap.size := by omega
  obtain ⟨hcell, hfr⟩ := bcell hb1
  have HB : Hid (Below w.heap.size w w1) := Lib.hid ((((Below.refl _ _).alloc (Nat.le_refl _) _).alloc (by go_size) _).trans (hb1.mono (by go_size)))
  cases t1 : (rulesErr R == 0)
  · have t1' : (rulesErr R != 0) = true := by simp [bne, t1]
    have HT := Lib.hid t1
    clear hb1 t1
    go_wp2_with fail
    refine bodyPost_ret (v := .tuple #[zeroPos, .int .i64 (rulesErr R)]) (by simp [results, Try.results59, go_sem, zeroPos, hcell]) rfl (.inl ⟨by simpa using HT.out, rfl, ?_⟩)
    have hbel := HB.out
    go_grown
  have t1' : (rulesErr R != 0) = false := by simp [bne, t1]
  have HZ : Hid (rulesErr R = 0) := Lib.hid (by simpa using t1)
  have hst : R.start.length ≤ 64 := startLen HZ.out
  have hnp := (rulesOk HZ.out).2.2
  have HSt : Hid (RdI w1 vs R.start) := Lib.hid (HR.out.2.1.below HB.out (Nat.le_refl _))
  have q3 : w1.cell? ⟨w.heap.size, 3, none⟩ = some vp := (hb1.cell (by go_size)).trans (by simp [go_sem])
  have q4 : w1.cell? ⟨w.heap.size, 4, none⟩ = some vs := (hb1.cell (by go_size)).trans (by simp [go_sem])
  have g1 : Box w1 (w.heap.size + 1) [.slice none 0 0, .slice none 0 0, .slice none 0 0, .int .i64 0, .int .i64 0] 37 := by
    have hbx := Box.new (w.alloc (.cells #[.string R.name, .int .i64 R.width, .int .i64 R.height, vp, vs, .bool R.falls, .bool R.keeps, ve, .int .i64 R.blocked, .int .i64 R.quiet, .int .i64 R.rept] 26)) [.slice none 0 0, .slice none 0 0, .slice none 0 0, .int .i64 0, .int .i64 0] 37
    rw [World.size_alloc] at hbx
    exact hbx.below hb1 (by go_size)
  clear hcell hfr hb1 hs1 t1
  go_wp2_with fail
  refine (Clone_any vs R.start _ HSt.out (by omega)).mono ?_
  rintro e w2 ⟨vc, rfl, ho2, hb2⟩
  have q3b : w2.cell? ⟨w.heap.size, 3, none⟩ = some vp := (hb2.cell z0).trans q3
  have g1b := g1.below hb2 z1
  have z0b := Nat.lt_of_lt_of_le z0 hb2.size
  have z1b := Nat.lt_of_lt_of_le z1 hb2.size
  have HB2 := Lib.hid (below_trans HB.out hb2 HB.out.size)
  have HVc : Hid (RdI w2 vc R.start) := Lib.hid (RdI.of_own ho2)
  obtain ⟨va, vcc, rfl⟩ := own_form2 ho2
  have HVo := Lib.hid ho2
  have z1a : w.heap.size + 1 < w1.heap.size := z1
  have hnil := HR.out
  obtain ⟨ap, cp, rfl, hp1, hp2⟩ := HR.out.1.form
  unfold maxLen at hp2
  obtain ⟨i0, hi, hz0, hz1, hz2⟩ := info_parts info3
  have HI := Lib.hid hi
  have HZ0 := Lib.hid hz0
  have HZ1 := Lib.hid hz1
  have HZ2 := Lib.hid hz2
  clear ho2 hb2 q3 q4 g1 z0 z1 hnil hi hz0 hz1 hz2
  go_wp2_with fail
  go_loopw [21] (fun i wr => ∃ (k : Nat) (v0 v1 : Value), k ≤ R.pieces.length ∧ i = .int .i64 k ∧ Hid (BInv w2.heap.size (.slice va R.start.length vcc) v0 v1 ((R.pieces.map (·.hand)).take k) ((R.pieces.map (·.hand)).take k) w2 wr)) (fun i _ => R.pieces.length - (intOf i).toNat)
  case atStart => exact ⟨0, _, _, Nat.zero_le _, rfl, Lib.hid (BInv.start _ _)⟩
  case round =>
    obtain ⟨k, v0, v1, hk, rfl, HI0⟩ := hrel
    have hsz : w2.heap.size < wr.heap.size := HI0.out.1.lt
    have hbel : Below w2.heap.size w2 wr := HI0.out.2.2.2.2
    have q3r : wr.cell? ⟨w.heap.size, 3, none⟩ = some (.slice ap R.pieces.length cp) := (hbel.cell z0b).trans q3b
    have z0r : w.heap.size < wr.heap.size := by omega
    by_cases hlt : k < R.pieces.length
    · obtain ⟨g, o, rfl, hg, hc⟩ := pieces_some (HR.out.1.below (HB2.out.trans (hbel.mono HB2.out.size)) (Nat.le_refl _)) (by omega)
      obtain ⟨vw, d0, d1, d2, d3, hw⟩ := hc k hlt
      obtain ⟨aw, cw, rfl, hw1, hw2⟩ := hw.form
      have hk0 : (0 : Int) ≤ (k : Int) := by omega
      have hk1 : (k : Int) < (R.pieces.length : Int) := by omega
      have HT : Hid ((R.pieces.map (·.hand)).take (k + 1) = (R.pieces.map (·.hand)).take k ++ [(R.pieces.getD k default).hand]) := Lib.hid (by
        rw [List.take_add_one, List.getElem?_map, List.getElem?_eq_getElem hlt, List.getD_eq_getElem?_getD, List.getElem?_eq_getElem hlt]; rfl)
      have HLen : Hid (((R.pieces.map (·.hand)).take k).length = k) := Lib.hid (by rw [List.length_take, List.length_map]; omega)
      clear hc hw hbel
      generalize R.pieces.getD k default = x at *
      obtain ⟨xl, xh, xp, xw⟩ := x
      simp only at d0 d1 d2 d3
      generalize (R.pieces.map (·.hand)).take k = zs at *
      go_wp2_with fail
      have HIq := Lib.hid (HI0.out.alloc (.cells #[.int .u8 xl, .int .i64 xh, .int .i64 xp, .slice aw xw.length cw] 153))
      have OB0 : ∀ b, v0.ownBlock = some b → b < wr.heap.size := fun b hb => (HI0.out.2.1.lt b hb).2
      have OB1 : ∀ b, v1.ownBlock = some b → b < wr.heap.size := fun b hb => (HI0.out.2.2.1.lt b hb).2
      have fx : (wr.alloc (.cells #[.int .u8 xl, .int .i64 xh, .int .i64 xp, .slice aw xw.length cw] 153)).cell? ⟨wr.heap.size, 1, none⟩ = some (.int .i64 xh) := by simp [go_sem]
      clear d0 d1 d2 d3 q3r hk0 hk1
      generalize (wr.alloc (.cells #[.int .u8 xl, .int .i64 xh, .int .i64 xp, .slice aw xw.length cw] 153)) = wq at *
      have hzl : zs.length ≤ 6 := by have := HLen.out; omega
      obtain ⟨a0, c0, rfl⟩ := own_form2 HIq.out.2.1
      obtain ⟨a1, c1, rfl⟩ := own_form2 HIq.out.2.2.1
      have HIqd : BInv w2.heap.size (.slice va R.start.length vcc) (.slice a0 zs.length c0) (.slice a1 zs.length c1) zs zs w2 wq.drew := BInv.drew HIq.out
      obtain ⟨Bx0, Ox0, Oy0, NE, Lx0⟩ := HIqd
      have fx0 : wq.drew.cell? ⟨wr.heap.size, 1, none⟩ = some (.int .i64 xh) := fx
      have Y0 : wr.heap.size < wq.drew.heap.size := World.block_lt_of_cell? _ _ fx0
      clear fx HIq HI0
      refine wp_region_noPanic ?_
      refine beginL (S := (fun w' => w'.cell? ⟨w2.heap.size, 1, none⟩ = some (.slice a0 zs.length c0) ∧ w'.cell? ⟨w2.heap.size, 2, none⟩ = some (.slice a1 zs.length c1) ∧ w'.cell? ⟨wr.heap.size, 1, none⟩ = some (.int .i64 xh))) (L := [16, 19]) (by kernel_rfl) ⟨Bx0.cell 1 rfl, Bx0.cell 2 rfl, fx0⟩ (fun hHeld => ?_)
      refine takeW (i := 0) (oi := { dst := some 25, op := Op.fieldAddr 37 (Operand.tmp 5) 1, type := 0, pos := "place.go:49", after := #[], guard := none }) (v := ?va1) rfl (by kernel_rfl) (by kernel_rfl) (by kernel_rfl) rfl (fun _ _ _ h => h) (Or.inl ⟨by rfl, ?ya1⟩) (fun _ => by assumption) ?ra1
      case ya1 => (intro w _; go_simp; first | done | (with_reducible rfl))
      try simp only [Act.put, List.setIfInBounds_toArray, List.set_cons_zero, List.set_cons_succ]
      refine takeW (i := 3) (oi := { dst := some 28, op := Op.fieldAddr 153 (Operand.tmp 7) 1, type := 0, pos := "place.go:49", after := #[], guard := none }) (v := ?va2) rfl (by kernel_rfl) (by kernel_rfl) (by kernel_rfl) rfl (fun _ _ _ h => h) (Or.inl ⟨by rfl, ?ya2⟩) (fun _ => by assumption) ?ra2
      case ya2 => (intro w _; go_simp; first | done | (with_reducible rfl))
      try simp only [Act.put, List.setIfInBounds_toArray, List.set_cons_zero, List.set_cons_succ]
      refine takeW (i := 7) (oi := { dst := some 32, op := Op.fieldAddr 37 (Operand.tmp 5) 1, type := 0, pos := "place.go:49", after := #[], guard := none }) (v := ?va3) rfl (by kernel_rfl) (by kernel_rfl) (by kernel_rfl) rfl (fun _ _ _ h => h) (Or.inl ⟨by rfl, ?ya3⟩) (fun _ => by assumption) ?ra3
      case ya3 => (intro w _; go_simp; first | done | (with_reducible rfl))
      try simp only [Act.put, List.setIfInBounds_toArray, List.set_cons_zero, List.set_cons_succ]
      refine takeW (i := 10) (oi := { dst := some 35, op := Op.fieldAddr 153 (Operand.tmp 7) 1, type := 0, pos := "place.go:49", after := #[], guard := none }) (v := ?va4) rfl (by kernel_rfl) (by kernel_rfl) (by kernel_rfl) rfl (fun _ _ _ h => h) (Or.inl ⟨by rfl, ?ya4⟩) (fun _ => by assumption) ?ra4
      case ya4 => (intro w _; go_simp; first | done | (with_reducible rfl))
      try simp only [Act.put, List.setIfInBounds_toArray, List.set_cons_zero, List.set_cons_succ]
      refine takeW (i := 14) (oi := { dst := some 39, op := Op.fieldAddr 37 (Operand.tmp 5) 1, type := 0, pos := "place.go:49", after := #[], guard := none }) (v := ?va5) rfl (by kernel_rfl) (by kernel_rfl) (by kernel_rfl) rfl (fun _ _ _ h => h) (Or.inl ⟨by rfl, ?ya5⟩) (fun _ => by assumption) ?ra5
      case ya5 => (intro w _; go_simp; first | done | (with_reducible rfl))
      try simp only [Act.put, List.setIfInBounds_toArray, List.set_cons_zero, List.set_cons_succ]
      refine takeW (i := 17) (oi := { dst := some 41, op := Op.fieldAddr 37 (Operand.tmp 5) 1, type := 0, pos := "place.go:49", after := #[], guard := none }) (v := ?va6) rfl (by kernel_rfl) (by kernel_rfl) (by kernel_rfl) rfl (fun _ _ _ h => h) (Or.inl ⟨by rfl, ?ya6⟩) (fun _ => by assumption) ?ra6
      case ya6 => (intro w _; go_simp; first | done | (with_reducible rfl))
      try simp only [Act.put, List.setIfInBounds_toArray, List.set_cons_zero, List.set_cons_succ]
      refine takeW (i := 1) (oi := { dst := some 26, op := Op.indexAddr 35 (Operand.tmp 25) (Operand.const (Value.int IntKind.i64 0)), type := 0, pos := "place.go:49", after := #[{ on := 0, ground := Ground.data }], guard := none }) (v := ?va7) rfl (by kernel_rfl) (by kernel_rfl) (by kernel_rfl) rfl (fun _ _ _ h => h) (Or.inl ⟨by rfl, ?ya7⟩) (fun _ => by assumption) ?ra7
      case ya7 => (intro w _; go_simp; first | done | (with_reducible rfl))
      try simp only [Act.put, List.setIfInBounds_toArray, List.set_cons_zero, List.set_cons_succ]
      refine takeL (i := 4) (oi := { dst := some 29, op := Op.load 3 (Operand.tmp 28), type := 3, pos := "place.go:49", after := #[{ on := 3, ground := Ground.data }], guard := none }) (v := ?va8) rfl (by kernel_rfl) (by kernel_rfl) (by kernel_rfl) (by kernel_rfl) rfl (by kernel_rfl) (by kernel_rfl) (fun _ _ _ h => h) (Or.inl ⟨by rfl, ?ya8⟩) (by assumption) ?ra8
      case ya8 => (intro w hSw; (try dsimp only at hSw); go_simp; first | done | (with_reducible rfl))
      try simp only [Act.put, List.setIfInBounds_toArray, List.set_cons_zero, List.set_cons_succ]
      refine takeW (i := 8) (oi := { dst := some 33, op := Op.indexAddr 35 (Operand.tmp 32) (Operand.const (Value.int IntKind.i64 1)), type := 0, pos := "place.go:49", after := #[{ on := 7, ground := Ground.data }], guard := none }) (v := ?va9) rfl (by kernel_rfl) (by kernel_rfl) (by kernel_rfl) rfl (fun _ _ _ h => h) (Or.inl ⟨by rfl, ?ya9⟩) (fun _ => by assumption) ?ra9
      case ya9 => (intro w _; go_simp; first | done | (with_reducible rfl))
      try simp only [Act.put, List.setIfInBounds_toArray, List.set_cons_zero, List.set_cons_succ]
      refine takeL (i := 11) (oi := { dst := some 36, op := Op.load 3 (Operand.tmp 35), type := 3, pos := "place.go:49", after := #[{ on := 10, ground := Ground.data }], guard := none }) (v := ?va10) rfl (by kernel_rfl) (by kernel_rfl) (by kernel_rfl) (by kernel_rfl) rfl (by kernel_rfl) (by kernel_rfl) (fun _ _ _ h => h) (Or.inl ⟨by rfl, ?ya10⟩) (by assumption) ?ra10
      case ya10 => (intro w hSw; (try dsimp only at hSw); go_simp; first | done | (with_reducible rfl))
      try simp only [Act.put, List.setIfInBounds_toArray, List.set_cons_zero, List.set_cons_succ]
      refine takeL (i := 2) (oi := { dst := some 27, op := Op.load 23 (Operand.tmp 26), type := 23, pos := "place.go:49", after := #[{ on := 1, ground := Ground.data }], guard := none }) (v := ?va11) rfl (by kernel_rfl) (by kernel_rfl) (by kernel_rfl) (by kernel_rfl) rfl (by kernel_rfl) (by kernel_rfl) (fun _ _ _ h => h) (Or.inl ⟨by rfl, ?ya11⟩) (by assumption) ?ra11
      case ya11 => (intro w hSw; (try dsimp only at hSw); go_simp; first | done | (with_reducible rfl))
      try simp only [Act.put, List.setIfInBounds_toArray, List.set_cons_zero, List.set_cons_succ]
      refine takeL (i := 9) (oi := { dst := some 34, op := Op.load 23 (Operand.tmp 33), type := 23, pos := "place.go:49", after := #[{ on := 8, ground := Ground.data }], guard := none }) (v := ?va12) rfl (by kernel_rfl) (by kernel_rfl) (by kernel_rfl) (by kernel_rfl) rfl (by kernel_rfl) (by kernel_rfl) (fun _ _ _ h => h) (Or.inl ⟨by rfl, ?ya12⟩) (by assumption) ?ra12
      case ya12 => (intro w hSw; (try dsimp only at hSw); go_simp; first | done | (with_reducible rfl))
      try simp only [Act.put, List.setIfInBounds_toArray, List.set_cons_zero, List.set_cons_succ]
      refine readyL (rs := [5, 12]) (by kernel_rfl) (by simp) ?_
      refine (AllReadyL.cons (o := { dst := some 30, op := Op.buildSlice 23 1 #[(0, Operand.tmp 29)], type := 23, pos := "place.go:49", after := #[{ on := 4, ground := Ground.data }], guard := none }) rfl (fun K hK => ?_) (AllReadyL.cons (o := { dst := some 37, op := Op.buildSlice 23 1 #[(0, Operand.tmp 36)], type := 23, pos := "place.go:49", after := #[{ on := 11, ground := Ground.data }], guard := none }) rfl (fun K hK => ?_) AllReadyL.nil))
      · skip
        go_simp
        refine K_world ?_
        intro w5 e5
        have Bx5 : Box w5 w2.heap.size [(.slice va R.start.length vcc), (.slice a0 zs.length c0), (.slice a1 zs.length c1), .int .i64 0, .int .i64 0] 37 := by rw [e5]; exact Bx0.alloc _
        have fx5 : w5.cell? ⟨wr.heap.size, 1, none⟩ = some (.int .i64 xh) := by rw [e5]; exact cell_alloc fx0 _
        have Ox5 : w5.ownsRow (w2.heap.size + 1) 3 1 (.slice a0 zs.length c0) zs.length (ints zs) := by rw [e5]; exact Ox0.alloc _
        have Oy5 : w5.ownsRow (w2.heap.size + 1) 3 1 (.slice a1 zs.length c1) zs.length (ints zs) := by rw [e5]; exact Oy0.alloc _
        have Lx5 : Below w2.heap.size w2 w5 := by rw [e5]; exact Lx0.alloc (Nat.le_of_lt Bx0.lt) _
        have Z5 : wq.drew.heap.size ≤ w5.heap.size := by rw [e5]; simp
        have Y5 : wr.heap.size < w5.heap.size := Nat.lt_of_lt_of_le Y0 Z5
        have N5 : w5.cell? ⟨wq.drew.heap.size, 0, none⟩ = some (.int .i64 xh) := by rw [e5]; simp [go_sem]
        clear e5
        refine hK.out _ _ ⟨Bx5.cell 1 rfl, Bx5.cell 2 rfl, fx5⟩ (fun hHeld => ?_)
        clear hK K
        try simp only [Act.put, List.setIfInBounds_toArray, List.set_cons_zero, List.set_cons_succ]
        refine readyL (rs := [6, 12]) (by kernel_rfl) (by simp) ?_
        refine (AllReadyL.cons (o := { dst := some 31, op := Op.call { callee := Callee.builtin Builtin.append, args := #[Operand.tmp 27, Operand.tmp 30], argTypes := #[23, 23] }, type := 23, pos := "place.go:49", after := #[{ on := 2, ground := Ground.data }, { on := 5, ground := Ground.data }], guard := none }) rfl (fun K hK => ?_) (AllReadyL.cons (o := { dst := some 37, op := Op.buildSlice 23 1 #[(0, Operand.tmp 36)], type := 23, pos := "place.go:49", after := #[{ on := 11, ground := Ground.data }], guard := none }) rfl (fun K hK => ?_) AllReadyL.nil))
        · skip
          rw [if_pos (by rfl)]
          refine wp_append_lies _ _ _ 23 rfl (w2.heap.size + 1) 3 i0 (.int .i64 0) 1 8 Try.underlying23 HI.out HZ0.out HZ1.out HZ2.out rfl (by decide) (.slice a0 zs.length c0) zs.length (ints zs) rfl Ox5 ⟨wq.drew.heap.size, 0, none⟩ 1 1 [.int .i64 xh] rfl rfl (src_one N5) one_cell (by decide) (by unfold maxLen; omega) (by omega) Bx5.lt w5.heap.size rfl ?_
          intro g6 c6 w6 ho6 hg6 hq6 hl6
          have Bx6 := Bx5.grown hg6 (own_far (Ox5) (by omega))
          have fx6 := hg6.cell fx5 (own_old OB0 (Nat.le_refl _))
          have Lx6 := Below.grown Lx5 hg6 (Nat.le_of_lt Bx5.lt) (fun q hq => Nat.le_trans (Nat.le_succ _) (Ox5.lt q hq).1)
          have Z6 := hg6.size
          have Y6 : wr.heap.size < w6.heap.size := Nat.lt_of_lt_of_le Y5 Z6
          have Ox6 := ho6
          have Oy6 := Oy5.kept hg6 (ne_swap NE)
          have G6 := hl6
          have NE6 : some g6 ≠ Value.ownBlock (.slice a1 zs.length c1) := new_ne hq6 NE (fun b hb => Nat.lt_of_lt_of_le (OB1 b hb) (Nat.le_of_lt Y5))
          clear ho6 hg6 hq6 hl6
          refine hK.out _ _ ⟨Bx6.cell 1 rfl, Bx6.cell 2 rfl, fx6⟩ (fun hHeld => ?_)
          clear hK K
          try simp only [Act.put, List.setIfInBounds_toArray, List.set_cons_zero, List.set_cons_succ]
          refine takeW (i := 15) (oi := { dst := some 40, op := Op.indexAddr 35 (Operand.tmp 39) (Operand.const (Value.int IntKind.i64 0)), type := 0, pos := "place.go:49", after := #[{ on := 14, ground := Ground.data }, { on := 0, ground := Ground.phase }, { on := 1, ground := Ground.phase }, { on := 2, ground := Ground.phase }, { on := 3, ground := Ground.phase }, { on := 4, ground := Ground.phase }, { on := 5, ground := Ground.phase }, { on := 6, ground := Ground.phase }, { on := 7, ground := Ground.phase }, { on := 8, ground := Ground.phase }, { on := 9, ground := Ground.phase }, { on := 10, ground := Ground.textOnly Departure.lateStores }, { on := 11, ground := Ground.textOnly Departure.lateStores }, { on := 12, ground := Ground.textOnly Departure.lateStores }, { on := 13, ground := Ground.textOnly Departure.lateStoresUnsure }], guard := none }) (v := ?va13) rfl (by kernel_rfl) (by kernel_rfl) (by kernel_rfl) rfl (fun _ _ _ h => h) (Or.inl ⟨by rfl, ?ya13⟩) (fun _ => by assumption) ?ra13
          case ya13 => (intro w _; go_simp; first | done | (with_reducible rfl))
          try simp only [Act.put, List.setIfInBounds_toArray, List.set_cons_zero, List.set_cons_succ]
          refine readyL (rs := [12]) (by kernel_rfl) (by simp) ?_
          refine (AllReadyL.cons (o := { dst := some 37, op := Op.buildSlice 23 1 #[(0, Operand.tmp 36)], type := 23, pos := "place.go:49", after := #[{ on := 11, ground := Ground.data }], guard := none }) rfl (fun K hK => ?_) AllReadyL.nil)
          go_simp
          refine K_world ?_
          intro w12 e12
          have Bx12 : Box w12 w2.heap.size [(.slice va R.start.length vcc), (.slice a0 zs.length c0), (.slice a1 zs.length c1), .int .i64 0, .int .i64 0] 37 := by rw [e12]; exact Bx6.alloc _
          have fx12 : w12.cell? ⟨wr.heap.size, 1, none⟩ = some (.int .i64 xh) := by rw [e12]; exact cell_alloc fx6 _
          have Ox12 : w12.ownsRow (w2.heap.size + 1) 3 1 (.slice (some ⟨g6, 0, none⟩) (zs.length + 1) c6) (zs.length + 1) (ints zs ++ [.int .i64 xh]) := by rw [e12]; exact Ox6.alloc _
          have Oy12 : w12.ownsRow (w2.heap.size + 1) 3 1 (.slice a1 zs.length c1) zs.length (ints zs) := by rw [e12]; exact Oy6.alloc _
          have Lx12 : Below w2.heap.size w2 w12 := by rw [e12]; exact Lx6.alloc (Nat.le_of_lt Bx6.lt) _
          have Z12 : w6.heap.size ≤ w12.heap.size := by rw [e12]; simp
          have Y12 : wr.heap.size < w12.heap.size := Nat.lt_of_lt_of_le Y6 Z12
          have N12 : w12.cell? ⟨w6.heap.size, 0, none⟩ = some (.int .i64 xh) := by rw [e12]; simp [go_sem]
          have G12 := Nat.lt_of_lt_of_le G6 Z12
          clear e12
          refine hK.out _ _ ⟨Bx12.cell 1 rfl, Bx12.cell 2 rfl, fx12⟩ (fun hHeld => ?_)
          clear hK K
          try simp only [Act.put, List.setIfInBounds_toArray, List.set_cons_zero, List.set_cons_succ]
          refine readyL (rs := [13]) (by kernel_rfl) (by simp) ?_
          refine (AllReadyL.cons (o := { dst := some 38, op := Op.call { callee := Callee.builtin Builtin.append, args := #[Operand.tmp 34, Operand.tmp 37], argTypes := #[23, 23] }, type := 23, pos := "place.go:49", after := #[{ on := 9, ground := Ground.data }, { on := 12, ground := Ground.data }, { on := 6, ground := Ground.chain }], guard := none }) rfl (fun K hK => ?_) AllReadyL.nil)
          rw [if_pos (by rfl)]
          refine wp_append_lies _ _ _ 23 rfl (w2.heap.size + 1) 3 i0 (.int .i64 0) 1 8 Try.underlying23 HI.out HZ0.out HZ1.out HZ2.out rfl (by decide) (.slice a1 zs.length c1) zs.length (ints zs) rfl Oy12 ⟨w6.heap.size, 0, none⟩ 1 1 [.int .i64 xh] rfl rfl (src_one N12) one_cell (by decide) (by unfold maxLen; omega) (by omega) Bx12.lt w12.heap.size rfl ?_
          intro g13 c13 w13 ho13 hg13 hq13 hl13
          have Bx13 := Bx12.grown hg13 (own_far (Oy12) (by omega))
          have fx13 := hg13.cell fx12 (own_old OB1 (Nat.le_refl _))
          have Lx13 := Below.grown Lx12 hg13 (Nat.le_of_lt Bx12.lt) (fun q hq => Nat.le_trans (Nat.le_succ _) (Oy12.lt q hq).1)
          have Z13 := hg13.size
          have Y13 : wr.heap.size < w13.heap.size := Nat.lt_of_lt_of_le Y12 Z13
          have Ox13 := Ox12.kept hg13 (.inr NE6)
          have Oy13 := ho13
          have NE13 : g6 ≠ g13 := g_ne NE6 hq13 G12
          clear ho13 hg13 hq13 hl13
          refine hK.out _ _ ⟨Bx13.cell 1 rfl, Bx13.cell 2 rfl, fx13⟩ (fun hHeld => ?_)
          clear hK K
          try simp only [Act.put, List.setIfInBounds_toArray, List.set_cons_zero, List.set_cons_succ]
          refine readyL (rs := [16]) (by kernel_rfl) (by simp) ?_
          refine (AllReadyL.late (o := { dst := none, op := Op.store 23 (Operand.tmp 40) (Operand.tmp 31), type := 0, pos := "place.go:49", after := #[{ on := 15, ground := Ground.data }, { on := 6, ground := Ground.data }, { on := 13, ground := Ground.chain }, { on := 0, ground := Ground.phase }, { on := 1, ground := Ground.phase }, { on := 2, ground := Ground.phase }, { on := 3, ground := Ground.phase }, { on := 4, ground := Ground.phase }, { on := 5, ground := Ground.phase }, { on := 6, ground := Ground.phase }, { on := 7, ground := Ground.phase }, { on := 8, ground := Ground.phase }, { on := 9, ground := Ground.phase }, { on := 10, ground := Ground.textOnly Departure.lateStores }, { on := 11, ground := Ground.textOnly Departure.lateStores }, { on := 12, ground := Ground.textOnly Departure.lateStores }, { on := 13, ground := Ground.textOnly Departure.lateStoresUnsure }], guard := none }) rfl (by kernel_rfl) (fun K hK => ?_) AllReadyL.nil)
          have d1 := Bx13.cell 1 rfl
          have d1f := Bx13.frozen 1
          go_simp
          refine K_world ?_
          intro w16 e16
          have Bx16 : Box w16 w2.heap.size [(.slice va R.start.length vcc), .slice (some ⟨g6, 0, none⟩) (zs.length + 1) c6, (.slice a1 zs.length c1), .int .i64 0, .int .i64 0] 37 := by rw [e16]; exact Bx13.set 1 _
          have Ox16 : w16.ownsRow (w2.heap.size + 1) 3 1 (.slice (some ⟨g6, 0, none⟩) (zs.length + 1) c6) (zs.length + 1) (ints zs ++ [.int .i64 xh]) := by rw [e16]; exact ownsRow_setCell_below Ox13 (by simp) _
          have Oy16 : w16.ownsRow (w2.heap.size + 1) 3 1 (.slice (some ⟨g13, 0, none⟩) (zs.length + 1) c13) (zs.length + 1) (ints zs ++ [.int .i64 xh]) := by rw [e16]; exact ownsRow_setCell_below Oy13 (by simp) _
          have Lx16 : Below w2.heap.size w2 w16 := by rw [e16]; exact Lx13.setCell (Nat.le_refl _) _
          clear e16 d1 d1f
          refine hK.out _ _ ?_
          clear hK K
          try simp only [Act.put, List.setIfInBounds_toArray, List.set_cons_zero, List.set_cons_succ]
          refine takeW (i := 18) (oi := { dst := some 42, op := Op.indexAddr 35 (Operand.tmp 41) (Operand.const (Value.int IntKind.i64 1)), type := 0, pos := "place.go:49", after := #[{ on := 17, ground := Ground.data }, { on := 0, ground := Ground.phase }, { on := 1, ground := Ground.phase }, { on := 2, ground := Ground.phase }, { on := 3, ground := Ground.phase }, { on := 4, ground := Ground.phase }, { on := 5, ground := Ground.phase }, { on := 6, ground := Ground.phase }, { on := 7, ground := Ground.phase }, { on := 8, ground := Ground.phase }, { on := 9, ground := Ground.phase }, { on := 10, ground := Ground.phase }, { on := 11, ground := Ground.phase }, { on := 12, ground := Ground.phase }, { on := 13, ground := Ground.phase }, { on := 14, ground := Ground.phase }, { on := 15, ground := Ground.phase }, { on := 16, ground := Ground.phase }], guard := none }) (v := ?va14) rfl (by kernel_rfl) (by kernel_rfl) (by kernel_rfl) rfl (fun _ _ _ h => h) (Or.inl ⟨by rfl, ?ya14⟩) (fun he => by cases he) ?ra14
          case ya14 => (intro w _; go_simp; first | done | (with_reducible rfl))
          try simp only [Act.put, List.setIfInBounds_toArray, List.set_cons_zero, List.set_cons_succ]
          refine readyL (rs := [19]) (by kernel_rfl) (by simp) ?_
          refine (AllReadyL.late (o := { dst := none, op := Op.store 23 (Operand.tmp 42) (Operand.tmp 38), type := 0, pos := "place.go:49", after := #[{ on := 18, ground := Ground.data }, { on := 13, ground := Ground.data }, { on := 16, ground := Ground.chain }, { on := 0, ground := Ground.phase }, { on := 1, ground := Ground.phase }, { on := 2, ground := Ground.phase }, { on := 3, ground := Ground.phase }, { on := 4, ground := Ground.phase }, { on := 5, ground := Ground.phase }, { on := 6, ground := Ground.phase }, { on := 7, ground := Ground.phase }, { on := 8, ground := Ground.phase }, { on := 9, ground := Ground.phase }, { on := 10, ground := Ground.phase }, { on := 11, ground := Ground.phase }, { on := 12, ground := Ground.phase }, { on := 13, ground := Ground.phase }, { on := 14, ground := Ground.phase }, { on := 15, ground := Ground.phase }, { on := 16, ground := Ground.phase }], guard := none }) rfl (by kernel_rfl) (fun K hK => ?_) AllReadyL.nil)
          have d1 := Bx16.cell 2 rfl
          have d1f := Bx16.frozen 2
          go_simp
          refine K_world ?_
          intro w19 e19
          have Bx19 : Box w19 w2.heap.size [(.slice va R.start.length vcc), .slice (some ⟨g6, 0, none⟩) (zs.length + 1) c6, .slice (some ⟨g13, 0, none⟩) (zs.length + 1) c13, .int .i64 0, .int .i64 0] 37 := by rw [e19]; exact Bx16.set 2 _
          have Ox19 : w19.ownsRow (w2.heap.size + 1) 3 1 (.slice (some ⟨g6, 0, none⟩) (zs.length + 1) c6) (zs.length + 1) (ints zs ++ [.int .i64 xh]) := by rw [e19]; exact ownsRow_setCell_below Ox16 (by simp) _
          have Oy19 : w19.ownsRow (w2.heap.size + 1) 3 1 (.slice (some ⟨g13, 0, none⟩) (zs.length + 1) c13) (zs.length + 1) (ints zs ++ [.int .i64 xh]) := by rw [e19]; exact ownsRow_setCell_below Oy16 (by simp) _
          have Lx19 : Below w2.heap.size w2 w19 := by rw [e19]; exact Lx16.setCell (Nat.le_refl _) _
          clear e19 d1 d1f
          refine hK.out _ _ ?_
          clear hK K
          try simp only [Act.put, List.setIfInBounds_toArray, List.set_cons_zero, List.set_cons_succ]
          refine doneL (by kernel_rfl) ?_ _
          refine NoPanic.normal ?_
          have HF : Hid (BInv w2.heap.size (.slice va R.start.length vcc) (.slice (some ⟨g6, 0, none⟩) (zs.length + 1) c6) (.slice (some ⟨g13, 0, none⟩) (zs.length + 1) c13) (zs ++ [xh]) (zs ++ [xh]) w2 w19) := Lib.hid ⟨Bx19, by rw [ints_snoc, List.length_append]; exact Ox19, by rw [ints_snoc, List.length_append]; exact Oy19, .inr (by simp only [Value.ownBlock, ne_eq, Option.some.injEq]; exact NE13), Lx19⟩
          clear Bx19 Ox19 Oy19 Lx19 hHeld
          go_wp2_with fail
          go_roundw
          case rel => exact ⟨k + 1, _, _, by omega, by go_num, Lib.hid (by rw [HT.out]; exact HF.out)⟩
          case measure => simp [intOf]; omega
        · skip
          go_simp
          refine K_world ?_
          intro w12 e12
          have Bx12 : Box w12 w2.heap.size [(.slice va R.start.length vcc), (.slice a0 zs.length c0), (.slice a1 zs.length c1), .int .i64 0, .int .i64 0] 37 := by rw [e12]; exact Bx5.alloc _
          have fx12 : w12.cell? ⟨wr.heap.size, 1, none⟩ = some (.int .i64 xh) := by rw [e12]; exact cell_alloc fx5 _
          have Ox12 : w12.ownsRow (w2.heap.size + 1) 3 1 (.slice a0 zs.length c0) zs.length (ints zs) := by rw [e12]; exact Ox5.alloc _
          have Oy12 : w12.ownsRow (w2.heap.size + 1) 3 1 (.slice a1 zs.length c1) zs.length (ints zs) := by rw [e12]; exact Oy5.alloc _
          have Lx12 : Below w2.heap.size w2 w12 := by rw [e12]; exact Lx5.alloc (Nat.le_of_lt Bx5.lt) _
          have Z12 : w5.heap.size ≤ w12.heap.size := by rw [e12]; simp
          have Y12 : wr.heap.size < w12.heap.size := Nat.lt_of_lt_of_le Y5 Z12
          have N12 : w12.cell? ⟨w5.heap.size, 0, none⟩ = some (.int .i64 xh) := by rw [e12]; simp [go_sem]
          have N5_12 : w12.cell? ⟨wq.drew.heap.size, 0, none⟩ = some (.int .i64 xh) := by rw [e12]; exact cell_alloc N5 _
          clear e12
          refine hK.out _ _ ⟨Bx12.cell 1 rfl, Bx12.cell 2 rfl, fx12⟩ (fun hHeld => ?_)
          clear hK K
          try simp only [Act.put, List.setIfInBounds_toArray, List.set_cons_zero, List.set_cons_succ]
          refine readyL (rs := [6]) (by kernel_rfl) (by simp) ?_
          refine (AllReadyL.cons (o := { dst := some 31, op := Op.call { callee := Callee.builtin Builtin.append, args := #[Operand.tmp 27, Operand.tmp 30], argTypes := #[23, 23] }, type := 23, pos := "place.go:49", after := #[{ on := 2, ground := Ground.data }, { on := 5, ground := Ground.data }], guard := none }) rfl (fun K hK => ?_) AllReadyL.nil)
          rw [if_pos (by rfl)]
          refine wp_append_lies _ _ _ 23 rfl (w2.heap.size + 1) 3 i0 (.int .i64 0) 1 8 Try.underlying23 HI.out HZ0.out HZ1.out HZ2.out rfl (by decide) (.slice a0 zs.length c0) zs.length (ints zs) rfl Ox12 ⟨wq.drew.heap.size, 0, none⟩ 1 1 [.int .i64 xh] rfl rfl (src_one N5_12) one_cell (by decide) (by unfold maxLen; omega) (by omega) Bx12.lt w12.heap.size rfl ?_
          intro g6 c6 w6 ho6 hg6 hq6 hl6
          have Bx6 := Bx12.grown hg6 (own_far (Ox12) (by omega))
          have fx6 := hg6.cell fx12 (own_old OB0 (Nat.le_refl _))
          have Lx6 := Below.grown Lx12 hg6 (Nat.le_of_lt Bx12.lt) (fun q hq => Nat.le_trans (Nat.le_succ _) (Ox12.lt q hq).1)
          have Z6 := hg6.size
          have Y6 : wr.heap.size < w6.heap.size := Nat.lt_of_lt_of_le Y12 Z6
          have N12_6 := hg6.cell N12 (own_old OB0 (Nat.le_of_lt Y5))
          have Ox6 := ho6
          have Oy6 := Oy12.kept hg6 (ne_swap NE)
          have G6 := hl6
          have NE6 : some g6 ≠ Value.ownBlock (.slice a1 zs.length c1) := new_ne hq6 NE (fun b hb => Nat.lt_of_lt_of_le (OB1 b hb) (Nat.le_of_lt Y12))
          clear ho6 hg6 hq6 hl6
          refine hK.out _ _ ⟨Bx6.cell 1 rfl, Bx6.cell 2 rfl, fx6⟩ (fun hHeld => ?_)
          clear hK K
          try simp only [Act.put, List.setIfInBounds_toArray, List.set_cons_zero, List.set_cons_succ]
          refine takeW (i := 15) (oi := { dst := some 40, op := Op.indexAddr 35 (Operand.tmp 39) (Operand.const (Value.int IntKind.i64 0)), type := 0, pos := "place.go:49", after := #[{ on := 14, ground := Ground.data }, { on := 0, ground := Ground.phase }, { on := 1, ground := Ground.phase }, { on := 2, ground := Ground.phase }, { on := 3, ground := Ground.phase }, { on := 4, ground := Ground.phase }, { on := 5, ground := Ground.phase }, { on := 6, ground := Ground.phase }, { on := 7, ground := Ground.phase }, { on := 8, ground := Ground.phase }, { on := 9, ground := Ground.phase }, { on := 10, ground := Ground.textOnly Departure.lateStores }, { on := 11, ground := Ground.textOnly Departure.lateStores }, { on := 12, ground := Ground.textOnly Departure.lateStores }, { on := 13, ground := Ground.textOnly Departure.lateStoresUnsure }], guard := none }) (v := ?va15) rfl (by kernel_rfl) (by kernel_rfl) (by kernel_rfl) rfl (fun _ _ _ h => h) (Or.inl ⟨by rfl, ?ya15⟩) (fun _ => by assumption) ?ra15
          case ya15 => (intro w _; go_simp; first | done | (with_reducible rfl))
          try simp only [Act.put, List.setIfInBounds_toArray, List.set_cons_zero, List.set_cons_succ]
          refine readyL (rs := [13]) (by kernel_rfl) (by simp) ?_
          refine (AllReadyL.cons (o := { dst := some 38, op := Op.call { callee := Callee.builtin Builtin.append, args := #[Operand.tmp 34, Operand.tmp 37], argTypes := #[23, 23] }, type := 23, pos := "place.go:49", after := #[{ on := 9, ground := Ground.data }, { on := 12, ground := Ground.data }, { on := 6, ground := Ground.chain }], guard := none }) rfl (fun K hK => ?_) AllReadyL.nil)
          rw [if_pos (by rfl)]
          refine wp_append_lies _ _ _ 23 rfl (w2.heap.size + 1) 3 i0 (.int .i64 0) 1 8 Try.underlying23 HI.out HZ0.out HZ1.out HZ2.out rfl (by decide) (.slice a1 zs.length c1) zs.length (ints zs) rfl Oy6 ⟨w5.heap.size, 0, none⟩ 1 1 [.int .i64 xh] rfl rfl (src_one N12_6) one_cell (by decide) (by unfold maxLen; omega) (by omega) Bx6.lt w6.heap.size rfl ?_
          intro g13 c13 w13 ho13 hg13 hq13 hl13
          have Bx13 := Bx6.grown hg13 (own_far (Oy6) (by omega))
          have fx13 := hg13.cell fx6 (own_old OB1 (Nat.le_refl _))
          have Lx13 := Below.grown Lx6 hg13 (Nat.le_of_lt Bx6.lt) (fun q hq => Nat.le_trans (Nat.le_succ _) (Oy6.lt q hq).1)
          have Z13 := hg13.size
          have Y13 : wr.heap.size < w13.heap.size := Nat.lt_of_lt_of_le Y6 Z13
          have Ox13 := Ox6.kept hg13 (.inr NE6)
          have Oy13 := ho13
          have NE13 : g6 ≠ g13 := g_ne NE6 hq13 G6
          clear ho13 hg13 hq13 hl13
          refine hK.out _ _ ⟨Bx13.cell 1 rfl, Bx13.cell 2 rfl, fx13⟩ (fun hHeld => ?_)
          clear hK K
          try simp only [Act.put, List.setIfInBounds_toArray, List.set_cons_zero, List.set_cons_succ]
          refine readyL (rs := [16]) (by kernel_rfl) (by simp) ?_
          refine (AllReadyL.late (o := { dst := none, op := Op.store 23 (Operand.tmp 40) (Operand.tmp 31), type := 0, pos := "place.go:49", after := #[{ on := 15, ground := Ground.data }, { on := 6, ground := Ground.data }, { on := 13, ground := Ground.chain }, { on := 0, ground := Ground.phase }, { on := 1, ground := Ground.phase }, { on := 2, ground := Ground.phase }, { on := 3, ground := Ground.phase }, { on := 4, ground := Ground.phase }, { on := 5, ground := Ground.phase }, { on := 6, ground := Ground.phase }, { on := 7, ground := Ground.phase }, { on := 8, ground := Ground.phase }, { on := 9, ground := Ground.phase }, { on := 10, ground := Ground.textOnly Departure.lateStores }, { on := 11, ground := Ground.textOnly Departure.lateStores }, { on := 12, ground := Ground.textOnly Departure.lateStores }, { on := 13, ground := Ground.textOnly Departure.lateStoresUnsure }], guard := none }) rfl (by kernel_rfl) (fun K hK => ?_) AllReadyL.nil)
          have d1 := Bx13.cell 1 rfl
          have d1f := Bx13.frozen 1
          go_simp
          refine K_world ?_
          intro w16 e16
          have Bx16 : Box w16 w2.heap.size [(.slice va R.start.length vcc), .slice (some ⟨g6, 0, none⟩) (zs.length + 1) c6, (.slice a1 zs.length c1), .int .i64 0, .int .i64 0] 37 := by rw [e16]; exact Bx13.set 1 _
          have Ox16 : w16.ownsRow (w2.heap.size + 1) 3 1 (.slice (some ⟨g6, 0, none⟩) (zs.length + 1) c6) (zs.length + 1) (ints zs ++ [.int .i64 xh]) := by rw [e16]; exact ownsRow_setCell_below Ox13 (by simp) _
          have Oy16 : w16.ownsRow (w2.heap.size + 1) 3 1 (.slice (some ⟨g13, 0, none⟩) (zs.length + 1) c13) (zs.length + 1) (ints zs ++ [.int .i64 xh]) := by rw [e16]; exact ownsRow_setCell_below Oy13 (by simp) _
          have Lx16 : Below w2.heap.size w2 w16 := by rw [e16]; exact Lx13.setCell (Nat.le_refl _) _
          clear e16 d1 d1f
          refine hK.out _ _ ?_
          clear hK K
          try simp only [Act.put, List.setIfInBounds_toArray, List.set_cons_zero, List.set_cons_succ]
          refine takeW (i := 18) (oi := { dst := some 42, op := Op.indexAddr 35 (Operand.tmp 41) (Operand.const (Value.int IntKind.i64 1)), type := 0, pos := "place.go:49", after := #[{ on := 17, ground := Ground.data }, { on := 0, ground := Ground.phase }, { on := 1, ground := Ground.phase }, { on := 2, ground := Ground.phase }, { on := 3, ground := Ground.phase }, { on := 4, ground := Ground.phase }, { on := 5, ground := Ground.phase }, { on := 6, ground := Ground.phase }, { on := 7, ground := Ground.phase }, { on := 8, ground := Ground.phase }, { on := 9, ground := Ground.phase }, { on := 10, ground := Ground.phase }, { on := 11, ground := Ground.phase }, { on := 12, ground := Ground.phase }, { on := 13, ground := Ground.phase }, { on := 14, ground := Ground.phase }, { on := 15, ground := Ground.phase }, { on := 16, ground := Ground.phase }], guard := none }) (v := ?va16) rfl (by kernel_rfl) (by kernel_rfl) (by kernel_rfl) rfl (fun _ _ _ h => h) (Or.inl ⟨by rfl, ?ya16⟩) (fun he => by cases he) ?ra16
          case ya16 => (intro w _; go_simp; first | done | (with_reducible rfl))
          try simp only [Act.put, List.setIfInBounds_toArray, List.set_cons_zero, List.set_cons_succ]
          refine readyL (rs := [19]) (by kernel_rfl) (by simp) ?_
          refine (AllReadyL.late (o := { dst := none, op := Op.store 23 (Operand.tmp 42) (Operand.tmp 38), type := 0, pos := "place.go:49", after := #[{ on := 18, ground := Ground.data }, { on := 13, ground := Ground.data }, { on := 16, ground := Ground.chain }, { on := 0, ground := Ground.phase }, { on := 1, ground := Ground.phase }, { on := 2, ground := Ground.phase }, { on := 3, ground := Ground.phase }, { on := 4, ground := Ground.phase }, { on := 5, ground := Ground.phase }, { on := 6, ground := Ground.phase }, { on := 7, ground := Ground.phase }, { on := 8, ground := Ground.phase }, { on := 9, ground := Ground.phase }, { on := 10, ground := Ground.phase }, { on := 11, ground := Ground.phase }, { on := 12, ground := Ground.phase }, { on := 13, ground := Ground.phase }, { on := 14, ground := Ground.phase }, { on := 15, ground := Ground.phase }, { on := 16, ground := Ground.phase }], guard := none }) rfl (by kernel_rfl) (fun K hK => ?_) AllReadyL.nil)
          have d1 := Bx16.cell 2 rfl
          have d1f := Bx16.frozen 2
          go_simp
          refine K_world ?_
          intro w19 e19
          have Bx19 : Box w19 w2.heap.size [(.slice va R.start.length vcc), .slice (some ⟨g6, 0, none⟩) (zs.length + 1) c6, .slice (some ⟨g13, 0, none⟩) (zs.length + 1) c13, .int .i64 0, .int .i64 0] 37 := by rw [e19]; exact Bx16.set 2 _
          have Ox19 : w19.ownsRow (w2.heap.size + 1) 3 1 (.slice (some ⟨g6, 0, none⟩) (zs.length + 1) c6) (zs.length + 1) (ints zs ++ [.int .i64 xh]) := by rw [e19]; exact ownsRow_setCell_below Ox16 (by simp) _
          have Oy19 : w19.ownsRow (w2.heap.size + 1) 3 1 (.slice (some ⟨g13, 0, none⟩) (zs.length + 1) c13) (zs.length + 1) (ints zs ++ [.int .i64 xh]) := by rw [e19]; exact ownsRow_setCell_below Oy16 (by simp) _
          have Lx19 : Below w2.heap.size w2 w19 := by rw [e19]; exact Lx16.setCell (Nat.le_refl _) _
          clear e19 d1 d1f
          refine hK.out _ _ ?_
          clear hK K
          try simp only [Act.put, List.setIfInBounds_toArray, List.set_cons_zero, List.set_cons_succ]
          refine doneL (by kernel_rfl) ?_ _
          refine NoPanic.normal ?_
          have HF : Hid (BInv w2.heap.size (.slice va R.start.length vcc) (.slice (some ⟨g6, 0, none⟩) (zs.length + 1) c6) (.slice (some ⟨g13, 0, none⟩) (zs.length + 1) c13) (zs ++ [xh]) (zs ++ [xh]) w2 w19) := Lib.hid ⟨Bx19, by rw [ints_snoc, List.length_append]; exact Ox19, by rw [ints_snoc, List.length_append]; exact Oy19, .inr (by simp only [Value.ownBlock, ne_eq, Option.some.injEq]; exact NE13), Lx19⟩
          clear Bx19 Ox19 Oy19 Lx19 hHeld
          go_wp2_with fail
          go_roundw
          case rel => exact ⟨k + 1, _, _, by omega, by go_num, Lib.hid (by rw [HT.out]; exact HF.out)⟩
          case measure => simp [intOf]; omega
      · skip
        go_simp
        refine K_world ?_
        intro w12 e12
        have Bx12 : Box w12 w2.heap.size [(.slice va R.start.length vcc), (.slice a0 zs.length c0), (.slice a1 zs.length c1), .int .i64 0, .int .i64 0] 37 := by rw [e12]; exact Bx0.alloc _
        have fx12 : w12.cell? ⟨wr.heap.size, 1, none⟩ = some (.int .i64 xh) := by rw [e12]; exact cell_alloc fx0 _
        have Ox12 : w12.ownsRow (w2.heap.size + 1) 3 1 (.slice a0 zs.length c0) zs.length (ints zs) := by rw [e12]; exact Ox0.alloc _
        have Oy12 : w12.ownsRow (w2.heap.size + 1) 3 1 (.slice a1 zs.length c1) zs.length (ints zs) := by rw [e12]; exact Oy0.alloc _
        have Lx12 : Below w2.heap.size w2 w12 := by rw [e12]; exact Lx0.alloc (Nat.le_of_lt Bx0.lt) _
        have Z12 : wq.drew.heap.size ≤ w12.heap.size := by rw [e12]; simp
        have Y12 : wr.heap.size < w12.heap.size := Nat.lt_of_lt_of_le Y0 Z12
        have N12 : w12.cell? ⟨wq.drew.heap.size, 0, none⟩ = some (.int .i64 xh) := by rw [e12]; simp [go_sem]
        clear e12
        refine hK.out _ _ ⟨Bx12.cell 1 rfl, Bx12.cell 2 rfl, fx12⟩ (fun hHeld => ?_)
        clear hK K
        try simp only [Act.put, List.setIfInBounds_toArray, List.set_cons_zero, List.set_cons_succ]
        refine readyL (rs := [5]) (by kernel_rfl) (by simp) ?_
        refine (AllReadyL.cons (o := { dst := some 30, op := Op.buildSlice 23 1 #[(0, Operand.tmp 29)], type := 23, pos := "place.go:49", after := #[{ on := 4, ground := Ground.data }], guard := none }) rfl (fun K hK => ?_) AllReadyL.nil)
        go_simp
        refine K_world ?_
        intro w5 e5
        have Bx5 : Box w5 w2.heap.size [(.slice va R.start.length vcc), (.slice a0 zs.length c0), (.slice a1 zs.length c1), .int .i64 0, .int .i64 0] 37 := by rw [e5]; exact Bx12.alloc _
        have fx5 : w5.cell? ⟨wr.heap.size, 1, none⟩ = some (.int .i64 xh) := by rw [e5]; exact cell_alloc fx12 _
        have Ox5 : w5.ownsRow (w2.heap.size + 1) 3 1 (.slice a0 zs.length c0) zs.length (ints zs) := by rw [e5]; exact Ox12.alloc _
        have Oy5 : w5.ownsRow (w2.heap.size + 1) 3 1 (.slice a1 zs.length c1) zs.length (ints zs) := by rw [e5]; exact Oy12.alloc _
        have Lx5 : Below w2.heap.size w2 w5 := by rw [e5]; exact Lx12.alloc (Nat.le_of_lt Bx12.lt) _
        have Z5 : w12.heap.size ≤ w5.heap.size := by rw [e5]; simp
        have Y5 : wr.heap.size < w5.heap.size := Nat.lt_of_lt_of_le Y12 Z5
        have N5 : w5.cell? ⟨w12.heap.size, 0, none⟩ = some (.int .i64 xh) := by rw [e5]; simp [go_sem]
        have N12_5 : w5.cell? ⟨wq.drew.heap.size, 0, none⟩ = some (.int .i64 xh) := by rw [e5]; exact cell_alloc N12 _
        clear e5
        refine hK.out _ _ ⟨Bx5.cell 1 rfl, Bx5.cell 2 rfl, fx5⟩ (fun hHeld => ?_)
        clear hK K
        try simp only [Act.put, List.setIfInBounds_toArray, List.set_cons_zero, List.set_cons_succ]
        refine readyL (rs := [6]) (by kernel_rfl) (by simp) ?_
        refine (AllReadyL.cons (o := { dst := some 31, op := Op.call { callee := Callee.builtin Builtin.append, args := #[Operand.tmp 27, Operand.tmp 30], argTypes := #[23, 23] }, type := 23, pos := "place.go:49", after := #[{ on := 2, ground := Ground.data }, { on := 5, ground := Ground.data }], guard := none }) rfl (fun K hK => ?_) AllReadyL.nil)
        rw [if_pos (by rfl)]
        refine wp_append_lies _ _ _ 23 rfl (w2.heap.size + 1) 3 i0 (.int .i64 0) 1 8 Try.underlying23 HI.out HZ0.out HZ1.out HZ2.out rfl (by decide) (.slice a0 zs.length c0) zs.length (ints zs) rfl Ox5 ⟨w12.heap.size, 0, none⟩ 1 1 [.int .i64 xh] rfl rfl (src_one N5) one_cell (by decide) (by unfold maxLen; omega) (by omega) Bx5.lt w5.heap.size rfl ?_
        intro g6 c6 w6 ho6 hg6 hq6 hl6
        have Bx6 := Bx5.grown hg6 (own_far (Ox5) (by omega))
        have fx6 := hg6.cell fx5 (own_old OB0 (Nat.le_refl _))
        have Lx6 := Below.grown Lx5 hg6 (Nat.le_of_lt Bx5.lt) (fun q hq => Nat.le_trans (Nat.le_succ _) (Ox5.lt q hq).1)
        have Z6 := hg6.size
        have Y6 : wr.heap.size < w6.heap.size := Nat.lt_of_lt_of_le Y5 Z6
        have N12_6 := hg6.cell N12_5 (own_old OB0 (Nat.le_of_lt Y0))
        have Ox6 := ho6
        have Oy6 := Oy5.kept hg6 (ne_swap NE)
        have G6 := hl6
        have NE6 : some g6 ≠ Value.ownBlock (.slice a1 zs.length c1) := new_ne hq6 NE (fun b hb => Nat.lt_of_lt_of_le (OB1 b hb) (Nat.le_of_lt Y5))
        clear ho6 hg6 hq6 hl6
        refine hK.out _ _ ⟨Bx6.cell 1 rfl, Bx6.cell 2 rfl, fx6⟩ (fun hHeld => ?_)
        clear hK K
        try simp only [Act.put, List.setIfInBounds_toArray, List.set_cons_zero, List.set_cons_succ]
        refine takeW (i := 15) (oi := { dst := some 40, op := Op.indexAddr 35 (Operand.tmp 39) (Operand.const (Value.int IntKind.i64 0)), type := 0, pos := "place.go:49", after := #[{ on := 14, ground := Ground.data }, { on := 0, ground := Ground.phase }, { on := 1, ground := Ground.phase }, { on := 2, ground := Ground.phase }, { on := 3, ground := Ground.phase }, { on := 4, ground := Ground.phase }, { on := 5, ground := Ground.phase }, { on := 6, ground := Ground.phase }, { on := 7, ground := Ground.phase }, { on := 8, ground := Ground.phase }, { on := 9, ground := Ground.phase }, { on := 10, ground := Ground.textOnly Departure.lateStores }, { on := 11, ground := Ground.textOnly Departure.lateStores }, { on := 12, ground := Ground.textOnly Departure.lateStores }, { on := 13, ground := Ground.textOnly Departure.lateStoresUnsure }], guard := none }) (v := ?va17) rfl (by kernel_rfl) (by kernel_rfl) (by kernel_rfl) rfl (fun _ _ _ h => h) (Or.inl ⟨by rfl, ?ya17⟩) (fun _ => by assumption) ?ra17
        case ya17 => (intro w _; go_simp; first | done | (with_reducible rfl))
        try simp only [Act.put, List.setIfInBounds_toArray, List.set_cons_zero, List.set_cons_succ]
        refine readyL (rs := [13]) (by kernel_rfl) (by simp) ?_
        refine (AllReadyL.cons (o := { dst := some 38, op := Op.call { callee := Callee.builtin Builtin.append, args := #[Operand.tmp 34, Operand.tmp 37], argTypes := #[23, 23] }, type := 23, pos := "place.go:49", after := #[{ on := 9, ground := Ground.data }, { on := 12, ground := Ground.data }, { on := 6, ground := Ground.chain }], guard := none }) rfl (fun K hK => ?_) AllReadyL.nil)
        rw [if_pos (by rfl)]
        refine wp_append_lies _ _ _ 23 rfl (w2.heap.size + 1) 3 i0 (.int .i64 0) 1 8 Try.underlying23 HI.out HZ0.out HZ1.out HZ2.out rfl (by decide) (.slice a1 zs.length c1) zs.length (ints zs) rfl Oy6 ⟨wq.drew.heap.size, 0, none⟩ 1 1 [.int .i64 xh] rfl rfl (src_one N12_6) one_cell (by decide) (by unfold maxLen; omega) (by omega) Bx6.lt w6.heap.size rfl ?_
        intro g13 c13 w13 ho13 hg13 hq13 hl13
        have Bx13 := Bx6.grown hg13 (own_far (Oy6) (by omega))
        have fx13 := hg13.cell fx6 (own_old OB1 (Nat.le_refl _))
        have Lx13 := Below.grown Lx6 hg13 (Nat.le_of_lt Bx6.lt) (fun q hq => Nat.le_trans (Nat.le_succ _) (Oy6.lt q hq).1)
        have Z13 := hg13.size
        have Y13 : wr.heap.size < w13.heap.size := Nat.lt_of_lt_of_le Y6 Z13
        have Ox13 := Ox6.kept hg13 (.inr NE6)
        have Oy13 := ho13
        have NE13 : g6 ≠ g13 := g_ne NE6 hq13 G6
        clear ho13 hg13 hq13 hl13
        refine hK.out _ _ ⟨Bx13.cell 1 rfl, Bx13.cell 2 rfl, fx13⟩ (fun hHeld => ?_)
        clear hK K
        try simp only [Act.put, List.setIfInBounds_toArray, List.set_cons_zero, List.set_cons_succ]
        refine readyL (rs := [16]) (by kernel_rfl) (by simp) ?_
        refine (AllReadyL.late (o := { dst := none, op := Op.store 23 (Operand.tmp 40) (Operand.tmp 31), type := 0, pos := "place.go:49", after := #[{ on := 15, ground := Ground.data }, { on := 6, ground := Ground.data }, { on := 13, ground := Ground.chain }, { on := 0, ground := Ground.phase }, { on := 1, ground := Ground.phase }, { on := 2, ground := Ground.phase }, { on := 3, ground := Ground.phase }, { on := 4, ground := Ground.phase }, { on := 5, ground := Ground.phase }, { on := 6, ground := Ground.phase }, { on := 7, ground := Ground.phase }, { on := 8, ground := Ground.phase }, { on := 9, ground := Ground.phase }, { on := 10, ground := Ground.textOnly Departure.lateStores }, { on := 11, ground := Ground.textOnly Departure.lateStores }, { on := 12, ground := Ground.textOnly Departure.lateStores }, { on := 13, ground := Ground.textOnly Departure.lateStoresUnsure }], guard := none }) rfl (by kernel_rfl) (fun K hK => ?_) AllReadyL.nil)
        have d1 := Bx13.cell 1 rfl
        have d1f := Bx13.frozen 1
        go_simp
        refine K_world ?_
        intro w16 e16
        have Bx16 : Box w16 w2.heap.size [(.slice va R.start.length vcc), .slice (some ⟨g6, 0, none⟩) (zs.length + 1) c6, (.slice a1 zs.length c1), .int .i64 0, .int .i64 0] 37 := by rw [e16]; exact Bx13.set 1 _
        have Ox16 : w16.ownsRow (w2.heap.size + 1) 3 1 (.slice (some ⟨g6, 0, none⟩) (zs.length + 1) c6) (zs.length + 1) (ints zs ++ [.int .i64 xh]) := by rw [e16]; exact ownsRow_setCell_below Ox13 (by simp) _
        have Oy16 : w16.ownsRow (w2.heap.size + 1) 3 1 (.slice (some ⟨g13, 0, none⟩) (zs.length + 1) c13) (zs.length + 1) (ints zs ++ [.int .i64 xh]) := by rw [e16]; exact ownsRow_setCell_below Oy13 (by simp) _
        have Lx16 : Below w2.heap.size w2 w16 := by rw [e16]; exact Lx13.setCell (Nat.le_refl _) _
        clear e16 d1 d1f
        refine hK.out _ _ ?_
        clear hK K
        try simp only [Act.put, List.setIfInBounds_toArray, List.set_cons_zero, List.set_cons_succ]
        refine takeW (i := 18) (oi := { dst := some 42, op := Op.indexAddr 35 (Operand.tmp 41) (Operand.const (Value.int IntKind.i64 1)), type := 0, pos := "place.go:49", after := #[{ on := 17, ground := Ground.data }, { on := 0, ground := Ground.phase }, { on := 1, ground := Ground.phase }, { on := 2, ground := Ground.phase }, { on := 3, ground := Ground.phase }, { on := 4, ground := Ground.phase }, { on := 5, ground := Ground.phase }, { on := 6, ground := Ground.phase }, { on := 7, ground := Ground.phase }, { on := 8, ground := Ground.phase }, { on := 9, ground := Ground.phase }, { on := 10, ground := Ground.phase }, { on := 11, ground := Ground.phase }, { on := 12, ground := Ground.phase }, { on := 13, ground := Ground.phase }, { on := 14, ground := Ground.phase }, { on := 15, ground := Ground.phase }, { on := 16, ground := Ground.phase }], guard := none }) (v := ?va18) rfl (by kernel_rfl) (by kernel_rfl) (by kernel_rfl) rfl (fun _ _ _ h => h) (Or.inl ⟨by rfl, ?ya18⟩) (fun he => by cases he) ?ra18
        case ya18 => (intro w _; go_simp; first | done | (with_reducible rfl))
        try simp only [Act.put, List.setIfInBounds_toArray, List.set_cons_zero, List.set_cons_succ]
        refine readyL (rs := [19]) (by kernel_rfl) (by simp) ?_
        refine (AllReadyL.late (o := { dst := none, op := Op.store 23 (Operand.tmp 42) (Operand.tmp 38), type := 0, pos := "place.go:49", after := #[{ on := 18, ground := Ground.data }, { on := 13, ground := Ground.data }, { on := 16, ground := Ground.chain }, { on := 0, ground := Ground.phase }, { on := 1, ground := Ground.phase }, { on := 2, ground := Ground.phase }, { on := 3, ground := Ground.phase }, { on := 4, ground := Ground.phase }, { on := 5, ground := Ground.phase }, { on := 6, ground := Ground.phase }, { on := 7, ground := Ground.phase }, { on := 8, ground := Ground.phase }, { on := 9, ground := Ground.phase }, { on := 10, ground := Ground.phase }, { on := 11, ground := Ground.phase }, { on := 12, ground := Ground.phase }, { on := 13, ground := Ground.phase }, { on := 14, ground := Ground.phase }, { on := 15, ground := Ground.phase }, { on := 16, ground := Ground.phase }], guard := none }) rfl (by kernel_rfl) (fun K hK => ?_) AllReadyL.nil)
        have d1 := Bx16.cell 2 rfl
        have d1f := Bx16.frozen 2
        go_simp
        refine K_world ?_
        intro w19 e19
        have Bx19 : Box w19 w2.heap.size [(.slice va R.start.length vcc), .slice (some ⟨g6, 0, none⟩) (zs.length + 1) c6, .slice (some ⟨g13, 0, none⟩) (zs.length + 1) c13, .int .i64 0, .int .i64 0] 37 := by rw [e19]; exact Bx16.set 2 _
        have Ox19 : w19.ownsRow (w2.heap.size + 1) 3 1 (.slice (some ⟨g6, 0, none⟩) (zs.length + 1) c6) (zs.length + 1) (ints zs ++ [.int .i64 xh]) := by rw [e19]; exact ownsRow_setCell_below Ox16 (by simp) _
        have Oy19 : w19.ownsRow (w2.heap.size + 1) 3 1 (.slice (some ⟨g13, 0, none⟩) (zs.length + 1) c13) (zs.length + 1) (ints zs ++ [.int .i64 xh]) := by rw [e19]; exact ownsRow_setCell_below Oy16 (by simp) _
        have Lx19 : Below w2.heap.size w2 w19 := by rw [e19]; exact Lx16.setCell (Nat.le_refl _) _
        clear e19 d1 d1f
        refine hK.out _ _ ?_
        clear hK K
        try simp only [Act.put, List.setIfInBounds_toArray, List.set_cons_zero, List.set_cons_succ]
        refine doneL (by kernel_rfl) ?_ _
        refine NoPanic.normal ?_
        have HF : Hid (BInv w2.heap.size (.slice va R.start.length vcc) (.slice (some ⟨g6, 0, none⟩) (zs.length + 1) c6) (.slice (some ⟨g13, 0, none⟩) (zs.length + 1) c13) (zs ++ [xh]) (zs ++ [xh]) w2 w19) := Lib.hid ⟨Bx19, by rw [ints_snoc, List.length_append]; exact Ox19, by rw [ints_snoc, List.length_append]; exact Oy19, .inr (by simp only [Value.ownBlock, ne_eq, Option.some.injEq]; exact NE13), Lx19⟩
        clear Bx19 Ox19 Oy19 Lx19 hHeld
        go_wp2_with fail
        go_roundw
        case rel => exact ⟨k + 1, _, _, by omega, by go_num, Lib.hid (by rw [HT.out]; exact HF.out)⟩
        case measure => simp [intOf]; omega

    · obtain rfl : k = R.pieces.length := by omega
      have hTk : (R.pieces.map (·.hand)).take R.pieces.length = R.pieces.map (·.hand) := by rw [List.take_of_length_le]; simp
      have hinv := HI0.out
      rw [hTk] at hinv
      obtain ⟨hBp, hO0, hO1, -, hL⟩ := hinv
      obtain ⟨a0, c0, rfl⟩ := own_form2 hO0
      obtain ⟨a1, c1, rfl⟩ := own_form2 hO1
      have HRes := Lib.hid (g1b.below hL z1b)
      have HBp := Lib.hid hBp
      have HP : Hid (RdP wr (beginZ R) (.slice va R.start.length vcc) (.slice a0 (R.pieces.map (·.hand)).length c0) (.slice a1 (R.pieces.map (·.hand)).length c1)) := Lib.hid ⟨HVc.out.below hL (Nat.le_refl _), RdI.of_own hO0, RdI.of_own hO1⟩
      have HBL : Hid (Below w.heap.size w wr) := Lib.hid (HB2.out.trans (hL.mono HB2.out.size))
      have HL0 := Lib.hid hL
      have HO0 := Lib.hid hO0
      have HO1 := Lib.hid hO1
      clear hBp hO0 hO1 hL hTk HI0 g1b hbel
      go_upto_region 10 with (fail)
      refine wp_region_lit ?_
      refine wpList_load_box (by rfl) 37 (.tmp 5) (by rfl) w2.heap.size (by rfl) HBp.out Try.underlying37 (by rfl) (by kernel_rfl) ?_
      refine wpList_store_box (vs := [.slice va R.start.length vcc, .slice a0 (R.pieces.map (·.hand)).length c0, .slice a1 (R.pieces.map (·.hand)).length c1, .int .i64 0, .int .i64 0]) (by rfl) 37 (.tmp 2) (.tmp 44) (by rfl) (w.heap.size + 1) (by rfl) (by rfl) HRes.out rfl (by kernel_rfl) (by rfl) ?_
      have H9 := Lib.hid (HRes.out.store (vs := [.slice va R.start.length vcc, .slice a0 (R.pieces.map (·.hand)).length c0, .slice a1 (R.pieces.map (·.hand)).length c1, .int .i64 0, .int .i64 0]) rfl)
      have hz2w := HB2.out.size
      have HP9 : Hid ((wr.setCells (w.heap.size + 1) 0 [.slice va R.start.length vcc, .slice a0 (R.pieces.map (·.hand)).length c0, .slice a1 (R.pieces.map (·.hand)).length c1, .int .i64 0, .int .i64 0]).ownsRow w.heap.size 3 1 (.slice va R.start.length vcc) R.start.length (ints R.start) ∧ (wr.setCells (w.heap.size + 1) 0 [.slice va R.start.length vcc, .slice a0 (R.pieces.map (·.hand)).length c0, .slice a1 (R.pieces.map (·.hand)).length c1, .int .i64 0, .int .i64 0]).ownsRow w.heap.size 3 1 (.slice a0 (R.pieces.map (·.hand)).length c0) (R.pieces.map (·.hand)).length (ints (R.pieces.map (·.hand))) ∧ (wr.setCells (w.heap.size + 1) 0 [.slice va R.start.length vcc, .slice a0 (R.pieces.map (·.hand)).length c0, .slice a1 (R.pieces.map (·.hand)).length c1, .int .i64 0, .int .i64 0]).ownsRow w.heap.size 3 1 (.slice a1 (R.pieces.map (·.hand)).length c1) (R.pieces.map (·.hand)).length (ints (R.pieces.map (·.hand)))) :=
        Lib.hid ⟨own_base (own_setCells (own_stays HVo.out HL0.out) z1a 0 _) (by omega), own_base (own_setCells HO0.out (by omega) 0 _) (by omega), own_base (own_setCells HO1.out (by omega) 0 _) (by omega)⟩
      have HL9 := Lib.hid (below_setCells HBL.out (Nat.le_succ w.heap.size) 0 [.slice va R.start.length vcc, .slice a0 (R.pieces.map (·.hand)).length c0, .slice a1 (R.pieces.map (·.hand)).length c1, .int .i64 0, .int .i64 0])
      generalize (wr.setCells (w.heap.size + 1) 0 [.slice va R.start.length vcc, .slice a0 (R.pieces.map (·.hand)).length c0, .slice a1 (R.pieces.map (·.hand)).length c1, .int .i64 0, .int .i64 0]) = w9 at *
      go_wp2_with fail
      exact bodyPost_ret (results_box rfl (by rfl) (by rfl) H9.out Try.underlying37 (by rfl) (by kernel_rfl)) rfl (.inr ⟨HZ.out, _, _, _, rfl, HP9.out, HL9.out⟩)

end Go.Proofs.Ytkfaibdflbdpgaa
/- book.Add. -/
namespace Go.Proofs.Ytkfaibdflbdpgaa
open Go.ChangeShapes Go.WideShapes Go.ChangeAt Go.RowKit
set_option linter.unusedVariables false

theorem own_setFar {w : World} {base bp : Nat} {e : TypeId} {sz n : Nat} {v : Value} {xs : List Value} (h : w.ownsRow base e sz v n xs) (hb : ∀ j, v.ownBlock = some j → j ≠ bp) (o : Nat) (vs : List Value) : (w.setCells bp o vs).ownsRow base e sz v n xs :=
  own_held (S := fun k => k = bp) h (Fr.setCells (S := fun k => k = bp) (Fr.refl _ _) rfl o vs) (fun k hk e => hb k hk e)
theorem boxS_shr' {b : Nat} {vo v' : Value} {w : World} (h : ∀ k, v'.ownBlock = some k → vo.ownBlock = some k ∨ w.heap.size ≤ k) : Shr w (BoxS b vo) (BoxS b v') := fun k hk hs => by
  rcases hs with hs | hs
  · exact .inl hs
  · rcases h k hs with e | e
    · exact .inr e
    · omega
noncomputable def entB (R : RulesZ) (l : List MoveZ) (wt : Int) (k : Nat) : BkZ := ⟨keyZ (nowZ R (l.take k)), l.getD k default, wt⟩
noncomputable def gameB (R : RulesZ) (l : List MoveZ) (wt : Int) (n : Nat) : List BkZ := (List.range n).map (entB R l wt)
theorem gameB_succ (R : RulesZ) (l : List MoveZ) (wt : Int) (n : Nat) : gameB R l wt (n + 1) = gameB R l wt n ++ [entB R l wt n] := by
  unfold gameB
  rw [List.range_succ, List.map_append]; rfl
theorem gameB_len (R : RulesZ) (l : List MoveZ) (wt : Int) (n : Nat) : (gameB R l wt n).length = n := by simp [gameB]
theorem gameB_wt (R : RulesZ) (l : List MoveZ) (wt : Int) (n : Nat) : ∀ y ∈ gameB R l wt n, y.wt = wt := by
  intro y hy
  unfold gameB at hy
  obtain ⟨k, -, rfl⟩ := List.mem_map.1 hy
  rfl
def plyN (plies : Int) (n : Nat) : Nat := (min plies (n : Int)).toNat
noncomputable def addErr (R : RulesZ) (b : List BkZ) (l : List MoveZ) (plies wt : Int) : Int := if bookErr b ≠ 0 then bookErr b else if runErr R l ≠ 0 then runErr R l else if plies < 0 ∨ wt < 1 ∨ 1000000 < wt then 4 else if 1000 < (foldB b (gameB R l wt (plyN plies l.length))).length then 9 else 0
noncomputable def addedB (R : RulesZ) (b : List BkZ) (l : List MoveZ) (plies wt : Int) : List BkZ := foldB b (gameB R l wt (plyN plies l.length))
def AddPost (R : RulesZ) (b : List BkZ) (l : List MoveZ) (plies wt : Int) (w : World) (e : Ending) (w' : World) : Prop :=
  (addErr R b l plies wt ≠ 0 ∧ e = .returned (.tuple #[.slice none 0 0, .int .i64 (addErr R b l plies wt)]) ∧ Below w.heap.size w w') ∨
  (addErr R b l plies wt = 0 ∧ ∃ v, e = .returned (.tuple #[v, .int .i64 0]) ∧ w'.ownsRow w.heap.size 98 5 v (addedB R b l plies wt).length (flatK (addedB R b l plies wt)) ∧ Below w.heap.size w w')
set_option maxRecDepth 100000 in
set_option maxHeartbeats 8000000 in
theorem Add_any (HS : SortMvSaid) (R : RulesZ) (vp vs ve : Value) (vb : Value) (b : List BkZ) (v : Value) (l : List MoveZ) (plies wt : Int) (w : World) (hr : RdR w R vp vs ve) (hnm : R.name.size ≤ maxLen) (hb : RdL bkEl w vb b) (hl : RdL moveEl w v l) :
    Calls Try.prog 50 #[(.agg #[.string R.name, .int .i64 R.width, .int .i64 R.height, vp, vs, .bool R.falls, .bool R.keeps, ve, .int .i64 R.blocked, .int .i64 R.quiet, .int .i64 R.rept]), vb, v, .int .i64 plies, .int .i64 wt] w (AddPost R b l plies wt w) := by
  have HSh := Lib.hid HS
  have HR := Lib.hid hr
  have HN := Lib.hid hnm
  have HBk := Lib.hid hb
  have HL := Lib.hid hl
  have HD : Hid (addErr R b l plies wt = if bookErr b ≠ 0 then bookErr b else if runErr R l ≠ 0 then runErr R l else if plies < 0 ∨ wt < 1 ∨ 1000000 < wt then 4 else if 1000 < (foldB b (gameB R l wt (plyN plies l.length))).length then 9 else 0) := Lib.hid rfl
  obtain ⟨a, c, rfl, h1, h2⟩ := hl.form
  unfold maxLen at h2
  clear hr hnm hl HS hb
  go_enter Try.func50, Try.ntmps50
  go_upto_region 1 with (fail)
  have B0 : Box (w.alloc (.cells #[.string R.name, .int .i64 R.width, .int .i64 R.height, vp, vs, .bool R.falls, .bool R.keeps, ve, .int .i64 R.blocked, .int .i64 R.quiet, .int .i64 R.rept] 26)) (w.heap.size) [.string R.name, .int .i64 R.width, .int .i64 R.height, vp, vs, .bool R.falls, .bool R.keeps, ve, .int .i64 R.blocked, .int .i64 R.quiet, .int .i64 R.rept] 26 := (Box.new' w (w.heap.size) [.string R.name, .int .i64 R.width, .int .i64 R.height, vp, vs, .bool R.falls, .bool R.keeps, ve, .int .i64 R.blocked, .int .i64 R.quiet, .int .i64 R.rept] 26 (by simp <;> omega))
  have HB : Hid (Below w.heap.size w (w.alloc (.cells #[.string R.name, .int .i64 R.width, .int .i64 R.height, vp, vs, .bool R.falls, .bool R.keeps, ve, .int .i64 R.blocked, .int .i64 R.quiet, .int .i64 R.rept] 26))) := Lib.hid ((Below.refl w.heap.size w).alloc (Nat.le_refl _) _)
  have hz0 : w.heap.size < (w.alloc (.cells #[.string R.name, .int .i64 R.width, .int .i64 R.height, vp, vs, .bool R.falls, .bool R.keeps, ve, .int .i64 R.blocked, .int .i64 R.quiet, .int .i64 R.rept] 26)).heap.size := by simp
  generalize (w.alloc (.cells #[.string R.name, .int .i64 R.width, .int .i64 R.height, vp, vs, .bool R.falls, .bool R.keeps, ve, .int .i64 R.blocked, .int .i64 R.quiet, .int .i64 R.rept] 26)) = w0 at *
  have HB0 := Lib.hid B0
  clear B0
  go_wp2_with fail
  refine (bkCheck_any _ b w0 (HBk.out.below HB.out (Nat.le_refl _))).mono ?_
  rintro e w1 ⟨rfl, hb1⟩
  have HL1 := Lib.hid (below_trans HB.out hb1 HB.out.size)
  have HC0 := Lib.hid (HB0.out.stays hb1)
  clear hb1 HB0
  by_cases he : bookErr b = 0
  rotate_left
  · have HNE : Hid (addErr R b l plies wt = bookErr b) := Lib.hid (by rw [HD.out, if_pos he])
    have HNZ := Lib.hid he
    have he' : (bookErr b != 0) = true := by simpa using he
    clear he
    go_wp2_with fail
    go_ret2
    exact .inl ⟨by rw [HNE.out]; exact HNZ.out, by rw [HNE.out]; rfl, HL1.out⟩
  have HE0 := Lib.hid he
  rw [he]
  clear he
  go_upto_region 4 with (fail)
  refine wp_region_lit ?_
  refine wpList_load_box (by rfl) 26 (.tmp 5) (by rfl) (w.heap.size) (by rfl) HC0.out Try.underlying26 (by rfl) (by kernel_rfl) ?_
  go_wp2_with fail
  refine (PRun_any HSh.out R vp vs ve _ l w1 (HR.out.below HL1.out (Nat.le_refl _)) HN.out (HL.out.below HL1.out (Nat.le_refl _))).mono ?_
  rintro e w2 (⟨hbad, rfl, hb2⟩ | ⟨hok, hre, hla, hle, yc, y0, y1, rfl, ho2, hb2⟩)
  · have HNE : Hid (addErr R b l plies wt = runErr R l) := Lib.hid (by rw [HD.out, if_neg (by simp [HE0.out]), if_pos hbad])
    have HNZ := Lib.hid hbad
    have he' : (runErr R l != 0) = true := by simpa using hbad
    have HB2 := Lib.hid (below_trans HL1.out hb2 HL1.out.size)
    clear hbad hb2
    unfold zeroPos
    go_wp2_with fail
    go_ret2
    exact .inl ⟨by rw [HNE.out]; exact HNZ.out, by rw [HNE.out]; rfl, HB2.out.alloc HB2.out.size _⟩
  have HRE := Lib.hid hok
  have HRZ := Lib.hid hre
  have HLA := Lib.hid hla
  have hl4 := hle
  obtain ⟨ya, yn, rfl⟩ := own_form2 ho2.1
  obtain ⟨ya0, yn0, rfl⟩ := own_form2 ho2.2.1
  obtain ⟨ya1, yn1, rfl⟩ := own_form2 ho2.2.2.1
  have HL2 := Lib.hid (below_trans HL1.out hb2 HL1.out.size)
  have HD0 := Lib.hid (HC0.out.stays hb2)
  clear hok hre hla hle hb2 ho2 HC0 HL1
  unfold posV
  go_upto_region 7 with (fail)
  have HZ3 : Hid (w.heap.size < w2.heap.size) := Lib.hid HD0.out.lt
  have HL3 := Lib.hid (HL2.out.alloc HL2.out.size (.cells #[.slice ya (nowZ R l).cells.length yn, .slice ya0 (nowZ R l).h0.length yn0, .slice ya1 (nowZ R l).h1.length yn1, .int .i64 (nowZ R l).turn, .int .i64 (nowZ R l).quiet] 37))
  have HE3 := Lib.hid (HD0.out.alloc (.cells #[.slice ya (nowZ R l).cells.length yn, .slice ya0 (nowZ R l).h0.length yn0, .slice ya1 (nowZ R l).h1.length yn1, .int .i64 (nowZ R l).turn, .int .i64 (nowZ R l).quiet] 37))
  have HZ4 : Hid (w.heap.size < (w2.alloc (.cells #[.slice ya (nowZ R l).cells.length yn, .slice ya0 (nowZ R l).h0.length yn0, .slice ya1 (nowZ R l).h1.length yn1, .int .i64 (nowZ R l).turn, .int .i64 (nowZ R l).quiet] 37)).heap.size) := Lib.hid (by have := HZ3.out; simp; omega)
  clear HL2 HD0 HZ3
  generalize (w2.alloc (.cells #[.slice ya (nowZ R l).cells.length yn, .slice ya0 (nowZ R l).h0.length yn0, .slice ya1 (nowZ R l).h1.length yn1, .int .i64 (nowZ R l).turn, .int .i64 (nowZ R l).quiet] 37)) = w3 at *
  by_cases hbad : plies < 0 ∨ wt < 1 ∨ 1000000 < wt
  · have HNE : Hid (addErr R b l plies wt = 4) := Lib.hid (by rw [HD.out, if_neg (by simp [HE0.out]), if_neg (by simp [HRE.out]), if_pos hbad])
    by_cases p1 : plies < 0
    · clear hbad
      go_wp2_with fail
      go_ret2
      exact .inl ⟨by rw [HNE.out]; decide, by rw [HNE.out]; rfl, HL3.out⟩
    · by_cases p2 : wt < 1
      · clear hbad
        go_wp2_with fail
        go_ret2
        exact .inl ⟨by rw [HNE.out]; decide, by rw [HNE.out]; rfl, HL3.out⟩
      · have p3 : 1000000 < wt := by omega
        clear hbad
        go_wp2_with fail
        go_ret2
        exact .inl ⟨by rw [HNE.out]; decide, by rw [HNE.out]; rfl, HL3.out⟩
  have p1 : ¬ plies < 0 := fun q => hbad (.inl q)
  have p2 : ¬ wt < 1 := fun q => hbad (.inr (.inl q))
  have p3 : ¬ 1000000 < wt := fun q => hbad (.inr (.inr q))
  have HD2 : Hid (addErr R b l plies wt = if 1000 < (foldB b (gameB R l wt (plyN plies l.length))).length then 9 else 0) := Lib.hid (by rw [HD.out, if_neg (by simp [HE0.out]), if_neg (by simp [HRE.out]), if_neg hbad])
  have HWT : Hid (1 ≤ wt ∧ wt ≤ 1000000) := Lib.hid ⟨by omega, by omega⟩
  have HSW := Lib.hid (bookErr_ok HE0.out)
  have hbl := HSW.out.1
  obtain ⟨n, hn, hnl, HNN⟩ : ∃ n : Nat, (if (l.length : Int) < plies then (l.length : Int) else plies) = (n : Int) ∧ n ≤ l.length ∧ Hid (plyN plies l.length = n) := by
    by_cases q : (l.length : Int) < plies
    · exact ⟨l.length, by rw [if_pos q], Nat.le_refl _, Lib.hid (by unfold plyN; omega)⟩
    · exact ⟨plies.toNat, by rw [if_neg q]; omega, by omega, Lib.hid (by unfold plyN; omega)⟩
  rw [HNN.out] at HD2
  clear hbad HD HRE
  go_upto_region 9 with (fail)
  clear p1 p2 p3
  go_wp2_with fail
  refine (clone_bk _ b w3 (HBk.out.below HL3.out (Nat.le_refl _)) (by omega)).mono ?_
  rintro e w4 ⟨v', rfl, ho4, hb4⟩
  have HL4 := Lib.hid (below_trans HL3.out hb4 HL3.out.size)
  have HE4 := Lib.hid (HE3.out.stays hb4)
  have HO4 := Lib.hid ho4
  have hb4s := hb4.size
  obtain ⟨a4, c4, rfl⟩ := own_form2 ho4
  clear ho4 hb4 HE3
  go_upto_region 10 with (fail)
  refine wp_region_lit ?_
  refine wpList_load_box (by rfl) 26 (.tmp 5) (by rfl) (w.heap.size) (by rfl) HE4.out Try.underlying26 (by rfl) (by kernel_rfl) ?_
  go_wp2_with fail
  refine (Begin2_any R vp vs ve w4 (HR.out.below HL4.out (Nat.le_refl _)) HN.out).mono ?_
  rintro e w5 (⟨hbad, -⟩ | ⟨-, qc, q0, q1, rfl, hq5, hb5⟩)
  · exact absurd HRZ.out hbad
  have HL5 := Lib.hid (below_trans HL4.out hb5 HL4.out.size)
  have HE5 := Lib.hid (HE4.out.stays hb5)
  have HO5 := Lib.hid (own_stays HO4.out hb5)
  have HV4 : Hid (∀ k, Value.ownBlock (.slice a4 b.length c4) = some k → k < w4.heap.size) := Lib.hid (fun k hk => (HO4.out.lt k hk).2)
  have hb5s := hb5.size
  obtain ⟨za, zn, rfl⟩ := own_form2 hq5.1
  obtain ⟨za0, zn0, rfl⟩ := own_form2 hq5.2.1
  obtain ⟨za1, zn1, rfl⟩ := own_form2 hq5.2.2
  have HQ5 := Lib.hid hq5
  clear hb5 hq5 HE4 HO4 HL4
  unfold posV
  have hwl : w.heap.size < w3.heap.size := HZ4.out
  have HF5 := Lib.hid (HE5.out.alloc (.cells #[.slice za (beginZ R).cells.length zn, .slice za0 (beginZ R).h0.length zn0, .slice za1 (beginZ R).h1.length zn1, .int .i64 (beginZ R).turn, .int .i64 (beginZ R).quiet] 37))
  have HP5 := Lib.hid (Box.new w5 [.slice za (beginZ R).cells.length zn, .slice za0 (beginZ R).h0.length zn0, .slice za1 (beginZ R).h1.length zn1, .int .i64 (beginZ R).turn, .int .i64 (beginZ R).quiet] 37)
  have HL6 := Lib.hid (HL5.out.alloc HL5.out.size (.cells #[.slice za (beginZ R).cells.length zn, .slice za0 (beginZ R).h0.length zn0, .slice za1 (beginZ R).h1.length zn1, .int .i64 (beginZ R).turn, .int .i64 (beginZ R).quiet] 37))
  have HO6 : Hid ((w5.alloc (.cells #[.slice za (beginZ R).cells.length zn, .slice za0 (beginZ R).h0.length zn0, .slice za1 (beginZ R).h1.length zn1, .int .i64 (beginZ R).turn, .int .i64 (beginZ R).quiet] 37)).ownsRow (w.heap.size + 1) 98 5 (.slice a4 b.length c4) b.length (flatK b)) := Lib.hid (own_base (HO5.out.alloc (.cells #[.slice za (beginZ R).cells.length zn, .slice za0 (beginZ R).h0.length zn0, .slice za1 (beginZ R).h1.length zn1, .int .i64 (beginZ R).turn, .int .i64 (beginZ R).quiet] 37)) (by omega))
  have HQB : Hid (Held (BoxS w5.heap.size (.slice a4 b.length c4)) (w5.alloc (.cells #[.slice za (beginZ R).cells.length zn, .slice za0 (beginZ R).h0.length zn0, .slice za1 (beginZ R).h1.length zn1, .int .i64 (beginZ R).turn, .int .i64 (beginZ R).quiet] 37)) fun w' => RdP w' (beginZ R) (.slice za (beginZ R).cells.length zn) (.slice za0 (beginZ R).h0.length zn0) (.slice za1 (beginZ R).h1.length zn1)) := Lib.hid (fun w' hw =>
    have hS : ∀ (v : Value), (∀ k, v.ownBlock = some k → w4.heap.size ≤ k ∧ k < w5.heap.size) → ∀ k, v.ownBlock = some k → ¬ BoxS w5.heap.size (.slice a4 b.length c4) k := fun v hv k hk hs => by
      have h1 := hv k hk
      rcases hs with hs | hs
      · omega
      · have := HV4.out k hs; omega
    ⟨RdI.of_own (own_held (HQ5.out.1.alloc _) hw (hS _ HQ5.out.1.lt)), RdI.of_own (own_held (HQ5.out.2.1.alloc _) hw (hS _ HQ5.out.2.1.lt)), RdI.of_own (own_held (HQ5.out.2.2.alloc _) hw (hS _ HQ5.out.2.2.lt))⟩)
  have HNB : Hid (∀ k, Value.ownBlock (.slice a4 b.length c4) = some k → k ≠ w5.heap.size) := Lib.hid (fun k hk => by have := HV4.out k hk; omega)
  have hzb : w5.heap.size < (w5.alloc (.cells #[.slice za (beginZ R).cells.length zn, .slice za0 (beginZ R).h0.length zn0, .slice za1 (beginZ R).h1.length zn1, .int .i64 (beginZ R).turn, .int .i64 (beginZ R).quiet] 37)).heap.size := by simp
  have hwb : w.heap.size < w5.heap.size := by omega
  clear HE5 HO5 HL5 HQ5 HV4 HL3
  have hsl : ∀ w' : World, (Instr.slice 32 (.slice a l.length c) none (some (.int .i64 (n : Int))) none).run Try.prog w' = .ok (.slice a n c) w' := fun w' =>
    run_take (P := Try.prog) (t := 32) (s := 3) Try.underlying32 (fun w => by kernel_rfl) a l.length c n (by omega) w'
  go_upto_region 11 with (fail)
  obtain ⟨bp, hbpe⟩ : ∃ bp, bp = w5.heap.size := ⟨_, rfl⟩
  rw [← hbpe] at HP5 hzb hwb HQB HNB ⊢
  clear hbpe
  generalize (w5.alloc (.cells #[.slice za (beginZ R).cells.length zn, .slice za0 (beginZ R).h0.length zn0, .slice za1 (beginZ R).h1.length zn1, .int .i64 (beginZ R).turn, .int .i64 (beginZ R).quiet] 37)) = w6 at *
  go_wp2_with fail
  clear hsl
  go_loopw [60, 16, 20] (fun vi vo vm wr => ∃ (k : Nat) (o qc q0 q1 : Value), o = vo ∧ k ≤ n ∧ vi = .int .i64 k ∧ Hid (Box wr w.heap.size [.string R.name, .int .i64 R.width, .int .i64 R.height, vp, vs, .bool R.falls, .bool R.keeps, ve, .int .i64 R.blocked, .int .i64 R.quiet, .int .i64 R.rept] 26) ∧
    (∃ q : PosZ, Hid (q = nowZ R (l.take k)) ∧ Hid (Box wr bp [qc, q0, q1, .int .i64 q.turn, .int .i64 q.quiet] 37) ∧ Hid (Held (BoxS bp vo) wr fun w' => RdP w' q qc q0 q1)) ∧
    Hid (wr.ownsRow (w.heap.size + 1) 98 5 vo (foldB b (gameB R l wt k)).length (flatK (foldB b (gameB R l wt k)))) ∧ Hid (∀ j, vo.ownBlock = some j → j ≠ bp) ∧ Hid (Below w.heap.size w wr)) (fun i _ _ _ => n - (intOf i).toNat)
  case atStart => exact ⟨0, _, _, _, _, rfl, Nat.zero_le _, rfl, HF5, ⟨beginZ R, Lib.hid rfl, HP5, HQB⟩, HO6, HNB, HL6⟩
  case round =>
    obtain ⟨k, vo, qc, q0, q1, rfl, hk, rfl, HB0, ⟨q, HQE, HBP, HPp⟩, HO, HNBk, HBr⟩ := hrel
    have hbps := HBP.out.lt
    have hws := HB0.out.lt
    by_cases hlt : k < n
    · have HKN : Hid (k + 1 ≤ n ∧ n ≤ 400) := Lib.hid (by omega)
      have hkl : k < l.length := by omega
      have HKq : Hid (POk R q) := Lib.hid (by rw [HQE.out]; exact posAt_ok (begin_ok HRZ.out) HLA.out k (by omega))
      obtain ⟨xa, xn, rfl, -, -⟩ := HPp.out.now.1.form
      obtain ⟨xa0, xn0, rfl, -, -⟩ := HPp.out.now.2.1.form
      obtain ⟨xa1, xn1, rfl, -, -⟩ := HPp.out.now.2.2.form
      obtain ⟨gx, ox, ha, hgx, hcc⟩ := moves_some (HL.out.below HBr.out (Nat.le_refl _)) (by omega)
      subst ha
      obtain ⟨c0, c1, c2⟩ := hcc k hkl
      have HTK : Hid (makeZ R q (l.getD k default) = nowZ R (l.take (k + 1))) := Lib.hid (by rw [HQE.out]; unfold nowZ; rw [posAt_take R _ l k hkl])
      have HF : Hid (Fits R q (l.getD k default)) := Lib.hid (by have := HLA.out k hkl; rw [show posAt R (beginZ R) (l.take k) = q by rw [HQE.out]; rfl] at this; exact fits_of HKq.out this)
      have HT : Hid (foldB b (gameB R l wt (k + 1)) = addZ (foldB b (gameB R l wt k)) ⟨keyZ q, l.getD k default, wt⟩) := Lib.hid (by rw [gameB_succ, foldB_snoc]; unfold entB; rw [HQE.out])
      have HSk := Lib.hid (foldB_sorted HSW.out.2.1 (gameB R l wt k))
      have HWk := Lib.hid (foldB_wt HSW.out.2.2 (l := gameB R l wt k) (fun z hz => by rw [gameB_wt R l wt k z hz]; exact HWT.out))
      have hlk : (foldB b (gameB R l wt k)).length ≤ 100000 := by
        have := (foldB_len b (gameB R l wt k)).2
        rw [gameB_len] at this
        omega
      have HCB : Hid (∀ c ∈ q.cells, 0 ≤ c ∧ c ≤ 1000) := Lib.hid (fun c hc => by have := HKq.out.cb c hc; have := HKq.out.r.np; omega)
      clear hcc
      generalize l.getD k default = m at *
      go_upto_region 14 with (fail)
      have HBM := Lib.hid (Box.new wr [.int .i64 m.src, .int .i64 m.dst, .int .i64 m.piece] 42)
      have HB02 := Lib.hid (HB0.out.alloc (.cells #[.int .i64 m.src, .int .i64 m.dst, .int .i64 m.piece] 42))
      have HBP2 := Lib.hid (HBP.out.alloc (.cells #[.int .i64 m.src, .int .i64 m.dst, .int .i64 m.piece] 42))
      have HPp2 := Lib.hid (HPp.out.step ((Fr.refl (BoxS bp vo) wr).alloc (.cells #[.int .i64 m.src, .int .i64 m.dst, .int .i64 m.piece] 42)) (Shr.refl _ _))
      have HO2 := Lib.hid (HO.out.alloc (.cells #[.int .i64 m.src, .int .i64 m.dst, .int .i64 m.piece] 42))
      have HBr2 := Lib.hid (HBr.out.alloc HBr.out.size (.cells #[.int .i64 m.src, .int .i64 m.dst, .int .i64 m.piece] 42))
      have HBMN : Hid (∀ j, vo.ownBlock = some j → j ≠ wr.heap.size) := Lib.hid (fun j hj => by have := (HO.out.lt j hj).2; omega)
      obtain ⟨bm, hbme⟩ : ∃ bm, bm = wr.heap.size := ⟨_, rfl⟩
      rw [← hbme] at HBM HBMN ⊢
      have hbmb : bp < bm := by omega
      clear hbme c0 c1 c2 hgx HB0 HBP HPp HO HBr hbps hws
      generalize (wr.alloc (.cells #[.int .i64 m.src, .int .i64 m.dst, .int .i64 m.piece] 42)) = wq at *
      have BRz : Box wq.drew w.heap.size [.string R.name, .int .i64 R.width, .int .i64 R.height, vp, vs, .bool R.falls, .bool R.keeps, ve, .int .i64 R.blocked, .int .i64 R.quiet, .int .i64 R.rept] 26 := HB02.out
      have BPz : Box wq.drew bp [.slice xa q.cells.length xn, .slice xa0 q.h0.length xn0, .slice xa1 q.h1.length xn1, .int .i64 q.turn, .int .i64 q.quiet] 37 := HBP2.out
      have BMz : Box wq.drew bm [.int .i64 m.src, .int .i64 m.dst, .int .i64 m.piece] 42 := HBM.out
      have Lz : Below w.heap.size w wq.drew := below_drew' HBr2.out
      have Oz : wq.drew.ownsRow (w.heap.size + 1) 98 5 vo (foldB b (gameB R l wt k)).length (flatK (foldB b (gameB R l wt k))) := HO2.out
      have Pz : Held (BoxS bp vo) wq.drew fun w' => RdP w' q (.slice xa q.cells.length xn) (.slice xa0 q.h0.length xn0) (.slice xa1 q.h1.length xn1) := HPp2.out.step ((Fr.refl _ wq).drew) (Shr.refl _ _)
      clear HB02 HBP2 HBM HBr2 HO2 HPp2
      refine wp_region_noPanic ?_
      refine beginL (S := (fun w' => w'.cell? ⟨bp, 0, none⟩ = some (.slice xa q.cells.length xn) ∧ w'.cell? ⟨bp, 1, none⟩ = some (.slice xa0 q.h0.length xn0) ∧ w'.cell? ⟨bp, 2, none⟩ = some (.slice xa1 q.h1.length xn1) ∧ w'.cell? ⟨bp, 3, none⟩ = some (.int .i64 q.turn) ∧ w'.cell? ⟨bp, 4, none⟩ = some (.int .i64 q.quiet) ∧ w'.cell? ⟨bm, 0, none⟩ = some (.int .i64 m.src) ∧ w'.cell? ⟨bm, 1, none⟩ = some (.int .i64 m.dst) ∧ w'.cell? ⟨bm, 2, none⟩ = some (.int .i64 m.piece))) (L := []) (by kernel_rfl) ⟨BPz.cell 0 rfl, BPz.cell 1 rfl, BPz.cell 2 rfl, BPz.cell 3 rfl, BPz.cell 4 rfl, BMz.cell 0 rfl, BMz.cell 1 rfl, BMz.cell 2 rfl⟩ (fun hHeld => ?_)
      refine takeW (i := 0) (oi := { dst := some 64, op := Op.move (Operand.tmp 16), type := 88, pos := "book.go:73", after := #[], guard := none }) (v := ?va1) rfl (by kernel_rfl) (by kernel_rfl) (by kernel_rfl) rfl (fun _ _ _ h => h) (Or.inl ⟨by rfl, ?ya1⟩) (fun _ => by assumption) ?ra1
      case ya1 => (intro w _; go_simp; first | done | (with_reducible rfl))
      try simp only [Act.put, List.setIfInBounds_toArray, List.set_cons_zero, List.set_cons_succ]
      refine takeL (i := 1) (oi := { dst := some 65, op := Op.load 37 (Operand.tmp 17), type := 37, pos := "book.go:73", after := #[], guard := none }) (v := ?va2) rfl (by kernel_rfl) (by kernel_rfl) (by kernel_rfl) (by kernel_rfl) rfl (by kernel_rfl) (by kernel_rfl) (fun _ _ _ h => h) (Or.inl ⟨by rfl, ?ya2⟩) (by assumption) ?ra2
      case ya2 => (intro w hSw; (try dsimp only at hSw); go_simp; first | done | (with_reducible rfl))
      try simp only [Act.put, List.setIfInBounds_toArray, List.set_cons_zero, List.set_cons_succ]
      refine takeL (i := 3) (oi := { dst := some 67, op := Op.load 42 (Operand.tmp 20), type := 42, pos := "book.go:73", after := #[], guard := none }) (v := ?va3) rfl (by kernel_rfl) (by kernel_rfl) (by kernel_rfl) (by kernel_rfl) rfl (by kernel_rfl) (by kernel_rfl) (fun _ _ _ h => h) (Or.inl ⟨by rfl, ?ya3⟩) (by assumption) ?ra3
      case ya3 => (intro w hSw; (try dsimp only at hSw); go_simp; first | done | (with_reducible rfl))
      try simp only [Act.put, List.setIfInBounds_toArray, List.set_cons_zero, List.set_cons_succ]
      refine takeW (i := 4) (oi := { dst := some 68, op := Op.move (Operand.tmp 4), type := 3, pos := "book.go:73", after := #[], guard := none }) (v := ?va4) rfl (by kernel_rfl) (by kernel_rfl) (by kernel_rfl) rfl (fun _ _ _ h => h) (Or.inl ⟨by rfl, ?ya4⟩) (fun _ => by assumption) ?ra4
      case ya4 => (intro w _; go_simp; first | done | (with_reducible rfl))
      try simp only [Act.put, List.setIfInBounds_toArray, List.set_cons_zero, List.set_cons_succ]
      refine readyL (rs := [2]) (by kernel_rfl) (by simp) ?_
      refine (AllReadyL.cons (o := { dst := some 66, op := Op.call { callee := Callee.value (Operand.func 94), args := #[Operand.tmp 65], argTypes := #[37] }, type := 96, pos := "book.go:73", after := #[{ on := 1, ground := Ground.data }], guard := none }) rfl (fun K hK => ?_) AllReadyL.nil)
      go_simp
      refine (of_any q (.slice xa q.cells.length xn) (.slice xa0 q.h0.length xn0) (.slice xa1 q.h1.length xn1) _ Pz.now (HKq.out.len) (by have := HKq.out.l0; have := HKq.out.r.np; omega) (by have := HKq.out.l1; have := HKq.out.r.np; omega) HCB.out).mono ?_
      rintro e w2 ⟨rfl, hb2⟩
      have BP2 := BPz.stays hb2
      have BM2 := BMz.stays hb2
      have BR2 := BRz.stays hb2
      have L2 := below_trans Lz hb2 Lz.size
      have O2 := own_stays Oz hb2
      have P2 := Pz.step (Fr.of_new (S := BoxS bp vo) hb2) (Shr.refl _ _)
      have Z2 := hb2.size
      clear hb2
      refine hK.out _ _ ⟨BP2.cell 0 rfl, BP2.cell 1 rfl, BP2.cell 2 rfl, BP2.cell 3 rfl, BP2.cell 4 rfl, BM2.cell 0 rfl, BM2.cell 1 rfl, BM2.cell 2 rfl⟩ (fun hHeld => ?_)
      clear hK K
      try simp only [Act.put, List.setIfInBounds_toArray, List.set_cons_zero, List.set_cons_succ]
      refine takeW (i := 5) (oi := { dst := some 69, op := Op.build 98 #[(0, Operand.tmp 66), (1, Operand.tmp 67), (2, Operand.tmp 68)], type := 98, pos := "book.go:73", after := #[{ on := 2, ground := Ground.data }, { on := 3, ground := Ground.data }, { on := 4, ground := Ground.data }], guard := none }) (v := ?va5) rfl (by kernel_rfl) (by kernel_rfl) (by kernel_rfl) rfl (fun _ _ _ h => h) (Or.inl ⟨by rfl, ?ya5⟩) (fun _ => by assumption) ?ra5
      case ya5 => (intro w _; go_simp; first | done | (with_reducible rfl))
      try simp only [Act.put, List.setIfInBounds_toArray, List.set_cons_zero, List.set_cons_succ]
      refine readyL (rs := [6]) (by kernel_rfl) (by simp) ?_
      refine (AllReadyL.cons (o := { dst := some 70, op := Op.call { callee := Callee.value (Operand.func 93), args := #[Operand.tmp 64, Operand.tmp 69], argTypes := #[88, 98] }, type := 88, pos := "book.go:73", after := #[{ on := 0, ground := Ground.data }, { on := 5, ground := Ground.data }, { on := 2, ground := Ground.chain }], guard := none }) rfl (fun K hK => ?_) AllReadyL.nil)
      go_simp
      refine (add_any (w.heap.size + 1) _ _ ⟨keyZ q, m, wt⟩ w2 O2 (by have := BR2.lt; omega) HSk.out HWk.out HWT.out.1 HWT.out.2 hlk).mono ?_
      rintro e w6 ⟨v6, rfl, ho6, hg6, hq6⟩
      have BP6 := BP2.grown hg6 (fun e => HNBk.out bp e.symm rfl)
      have BM6 := BM2.grown hg6 (fun e => HBMN.out bm e.symm rfl)
      have BR6 := BR2.grown hg6 (fun e => by have := (O2.lt _ e.symm).1; omega)
      have L6 : Below w.heap.size w w6 := Below.grown L2 hg6 L2.size (fun k hk => by have := (O2.lt k hk).1; omega)
      have F6 : Fr (BoxS bp vo) w2 w6 := (Fr.refl _ w2).grown hg6 (fun k hk _ => .inr hk)
      have S6 : Shr w2 (BoxS bp vo) (BoxS bp v6) := boxS_shr' hq6
      have P6 := P2.step F6 S6
      have O6 := ho6
      have Z6 := hg6.size
      have N6 : ∀ j, v6.ownBlock = some j → j ≠ bp := fun j hj => by
        rcases hq6 j hj with e | e
        · exact HNBk.out j e
        · have := BP2.lt; omega
      clear ho6 hg6 hq6 F6 S6
      refine hK.out _ _ ⟨BP6.cell 0 rfl, BP6.cell 1 rfl, BP6.cell 2 rfl, BP6.cell 3 rfl, BP6.cell 4 rfl, BM6.cell 0 rfl, BM6.cell 1 rfl, BM6.cell 2 rfl⟩ (fun hHeld => ?_)
      clear hK K
      try simp only [Act.put, List.setIfInBounds_toArray, List.set_cons_zero, List.set_cons_succ]
      refine takeW (i := 7) (oi := { dst := some 16, op := Op.assign (Operand.tmp 70), type := 88, pos := "book.go:73", after := #[{ on := 6, ground := Ground.data }, { on := 6, ground := Ground.chain }, { on := 0, ground := Ground.phase }, { on := 1, ground := Ground.phase }, { on := 2, ground := Ground.phase }, { on := 3, ground := Ground.phase }, { on := 4, ground := Ground.phase }, { on := 5, ground := Ground.phase }, { on := 6, ground := Ground.phase }], guard := none }) (v := ?va6) rfl (by kernel_rfl) (by kernel_rfl) (by kernel_rfl) rfl (fun _ _ _ h => h) (Or.inl ⟨by rfl, ?ya6⟩) (fun _ => by assumption) ?ra6
      case ya6 => (intro w _; go_simp; first | done | (with_reducible rfl))
      try simp only [Act.put, List.setIfInBounds_toArray, List.set_cons_zero, List.set_cons_succ]
      refine doneL (by kernel_rfl) ?_ _
      refine NoPanic.normal ?_
      have HP6 := Lib.hid P6
      have HO6 : Hid (w6.ownsRow (w.heap.size + 1) 98 5 v6 (foldB b (gameB R l wt (k + 1))).length (flatK (foldB b (gameB R l wt (k + 1))))) := Lib.hid (by rw [HT.out]; exact O6)
      have HL6 := Lib.hid L6
      have HBP6 := Lib.hid BP6
      have HBM6 := Lib.hid BM6
      have HBR6 := Lib.hid BR6
      have HN6 := Lib.hid N6
      clear N6 P6 O6 L6 BP6 BM6 BR6 P2 O2 L2 BP2 BM2 BR2 Z2 Z6 hHeld Pz Oz Lz BPz BMz BRz HT HSk HWk hlk hb4s hb5s hn hbl hz0 HQB HF5 HP5 HNB hzb hkl HCB HBMN HNBk
      go_upto_region 15 with (fail)
      refine wp_region_lit ?_
      refine wpList_load_box (by rfl) 26 (.tmp 5) (by rfl) (w.heap.size) (by rfl) HBR6.out Try.underlying26 (by rfl) (by kernel_rfl) ?_
      refine wpList_load_box (by rfl) 37 (.tmp 17) (by rfl) (bp) (by rfl) HBP6.out Try.underlying37 (by rfl) (by kernel_rfl) ?_
      refine wpList_load_box (by rfl) 42 (.tmp 20) (by rfl) (bm) (by rfl) HBM6.out Try.underlying42 (by rfl) (by kernel_rfl) ?_
      go_wp2_with fail
      refine (Make_any R vp vs ve q (.slice xa q.cells.length xn) (.slice xa0 q.h0.length xn0) (.slice xa1 q.h1.length xn1) m w6 HP6.out.now HKq.out HF.out).mono ?_
      rintro e w7 ⟨yc, y0, y1, rfl, ho7, hb7⟩
      obtain ⟨ya, yn, rfl⟩ := own_form2 ho7.1
      obtain ⟨ya0, yn0, rfl⟩ := own_form2 ho7.2.1
      obtain ⟨ya1, yn1, rfl⟩ := own_form2 ho7.2.2.1
      have HBR7 := Lib.hid (HBR6.out.stays hb7)
      have HBP7 := Lib.hid (HBP6.out.stays hb7)
      have HL7 := Lib.hid (below_trans HL6.out hb7 HL6.out.size)
      have HO7 := Lib.hid (own_stays HO6.out hb7)
      have hbp6 := HBP6.out.lt
      have HP7 : Hid (Held (BoxS bp v6) w7 fun w' => OwnP w6.heap.size w' (makeZ R q m) (.slice ya (makeZ R q m).cells.length yn) (.slice ya0 (makeZ R q m).h0.length yn0) (.slice ya1 (makeZ R q m).h1.length yn1)) := Lib.hid (ownP_held ho7 (fun k' h1 h2 hk => by
        rcases hk with rfl | hk
        · omega
        · have := (HO6.out.lt k' hk).2; omega))
      have hw6 := HBR6.out.lt
      clear hb7 ho7
      unfold posV
      have z0 := HBP7.out.cell 0 rfl
      have z1 := HBP7.out.cell 1 rfl
      have z2 := HBP7.out.cell 2 rfl
      have z3 := HBP7.out.cell 3 rfl
      have z4 := HBP7.out.cell 4 rfl
      have zf0 := HBP7.out.frozen 0
      have zf1 := HBP7.out.frozen 1
      have zf2 := HBP7.out.frozen 2
      have zf3 := HBP7.out.frozen 3
      have zf4 := HBP7.out.frozen 4
      have HF9 : Hid (Fr (BoxS bp v6) w7 (w7.setCells bp 0 [.slice ya (makeZ R q m).cells.length yn, .slice ya0 (makeZ R q m).h0.length yn0, .slice ya1 (makeZ R q m).h1.length yn1, .int .i64 (makeZ R q m).turn, .int .i64 (makeZ R q m).quiet])) := Lib.hid ((Fr.refl _ _).setCells (.inl rfl) 0 _)
      go_wp2_with fail
      try simp only [Act.put]
      clear z0 z1 z2 z3 z4 zf0 zf1 zf2 zf3 zf4
      go_roundw
      case rel =>
        have hbr0 : w.heap.size ≠ bp := by omega
        have Q0 := HBR7.out.farAll hbr0 0 [.slice ya (makeZ R q m).cells.length yn, .slice ya0 (makeZ R q m).h0.length yn0, .slice ya1 (makeZ R q m).h1.length yn1, .int .i64 (makeZ R q m).turn, .int .i64 (makeZ R q m).quiet]
        have Q1 := HBP7.out.store (vs := [.slice ya (makeZ R q m).cells.length yn, .slice ya0 (makeZ R q m).h0.length yn0, .slice ya1 (makeZ R q m).h1.length yn1, .int .i64 (makeZ R q m).turn, .int .i64 (makeZ R q m).quiet]) rfl
        have Q2 : Held (BoxS bp v6) (w7.setCells bp 0 [.slice ya (makeZ R q m).cells.length yn, .slice ya0 (makeZ R q m).h0.length yn0, .slice ya1 (makeZ R q m).h1.length yn1, .int .i64 (makeZ R q m).turn, .int .i64 (makeZ R q m).quiet]) fun w' => RdP w' (makeZ R q m) (.slice ya (makeZ R q m).cells.length yn) (.slice ya0 (makeZ R q m).h0.length yn0) (.slice ya1 (makeZ R q m).h1.length yn1) := (HP7.out.step HF9.out (Shr.refl _ _)).imp (fun _ h => h.rd)
        have Q3 := own_setFar HO7.out HN6.out 0 [.slice ya (makeZ R q m).cells.length yn, .slice ya0 (makeZ R q m).h0.length yn0, .slice ya1 (makeZ R q m).h1.length yn1, .int .i64 (makeZ R q m).turn, .int .i64 (makeZ R q m).quiet]
        have Q4 := below_setCells HL7.out (show w.heap.size ≤ bp by omega) 0 [.slice ya (makeZ R q m).cells.length yn, .slice ya0 (makeZ R q m).h0.length yn0, .slice ya1 (makeZ R q m).h1.length yn1, .int .i64 (makeZ R q m).turn, .int .i64 (makeZ R q m).quiet]
        have E9 : (((((w7.setCell ⟨bp, 0, none⟩ (.slice ya (makeZ R q m).cells.length yn)).setCell ⟨bp, 1, none⟩ (.slice ya0 (makeZ R q m).h0.length yn0)).setCell ⟨bp, 2, none⟩ (.slice ya1 (makeZ R q m).h1.length yn1)).setCell ⟨bp, 3, none⟩ (.int .i64 (makeZ R q m).turn)).setCell ⟨bp, 4, none⟩ (.int .i64 (makeZ R q m).quiet)) = w7.setCells bp 0 [.slice ya (makeZ R q m).cells.length yn, .slice ya0 (makeZ R q m).h0.length yn0, .slice ya1 (makeZ R q m).h1.length yn1, .int .i64 (makeZ R q m).turn, .int .i64 (makeZ R q m).quiet] := by simp [World.setCells]
        rw [← E9] at Q0 Q1 Q2 Q3 Q4
        clear E9
        generalize (((((w7.setCell ⟨bp, 0, none⟩ (.slice ya (makeZ R q m).cells.length yn)).setCell ⟨bp, 1, none⟩ (.slice ya0 (makeZ R q m).h0.length yn0)).setCell ⟨bp, 2, none⟩ (.slice ya1 (makeZ R q m).h1.length yn1)).setCell ⟨bp, 3, none⟩ (.int .i64 (makeZ R q m).turn)).setCell ⟨bp, 4, none⟩ (.int .i64 (makeZ R q m).quiet)) = w9 at *
        exact ⟨k + 1, v6, _, _, _, rfl, HKN.out.1, (by have h1' := HKN.out.1; have h2' := HKN.out.2; go_num), Lib.hid Q0, ⟨makeZ R q m, HTK, Lib.hid Q1, Lib.hid Q2⟩, Lib.hid Q3, HN6, Lib.hid Q4⟩
      case measure => have h1' := HKN.out.1; have h2' := HKN.out.2; have h3' : IntKind.i64.wrap ((k : Int) + 1) = (k : Int) + 1 := IntWalk.i64_in _ (by omega); simp [intOf]; omega
    · obtain rfl : k = n := by omega
      have hlk : (foldB b (gameB R l wt k)).length ≤ 1000000 := by
        have := (foldB_len b (gameB R l wt k)).2
        rw [gameB_len] at this
        omega
      have HAD : Hid (addedB R b l plies wt = foldB b (gameB R l wt k)) := Lib.hid (by unfold addedB; rw [HNN.out])
      have HOe := HO
      clear HO HPp HBP HQE hlt HSW
      obtain ⟨a2, c2, rfl⟩ := own_form2 HOe.out
      obtain ⟨Fo, hFo⟩ : ∃ Fo, foldB b (gameB R l wt k) = Fo := ⟨_, rfl⟩
      rw [hFo] at HOe HD2 hlk HAD ⊢
      clear hFo
      go_wp2_with fail
      refine (full_any _ _ _ wr hlk).mono ?_
      rintro e wz ⟨rfl, rfl⟩
      by_cases hbig : 1000 < Fo.length
      · have HNE : Hid (addErr R b l plies wt = 9) := Lib.hid (by rw [HD2.out, if_pos hbig])
        rw [if_pos hbig]
        clear hbig
        go_wp2_with fail
        go_ret2
        exact .inl ⟨by rw [HNE.out]; decide, by rw [HNE.out]; rfl, HBr.out⟩
      · have HNE : Hid (addErr R b l plies wt = 0) := Lib.hid (by rw [HD2.out, if_neg hbig])
        rw [if_neg hbig]
        clear hbig
        go_wp2_with fail
        go_ret2
        exact .inr ⟨HNE.out, _, rfl, by rw [HAD.out]; exact own_base HOe.out (by omega), HBr.out⟩

end Go.Proofs.Ytkfaibdflbdpgaa
/- A game's errors by the moves that are not sorted. -/
namespace Go.Proofs.Ytkfaibdflbdpgaa
set_option linter.unusedVariables false
def resRaw (R : RulesZ) (p : PosZ) : Int :=
  if 0 ≤ idxL (fun x => holdsZ R p x (1 - p.turn)) R.ends 0 then
    (if (R.ends.getD (idxL (fun x => holdsZ R p x (1 - p.turn)) R.ends 0).toNat default).loses = true then 1 + p.turn else 1 + (1 - p.turn))
  else if R.quiet ≠ 0 ∧ R.quiet ≤ p.quiet then 3
  else if (rawZ R p).isEmpty = false then 0
  else if R.blocked = 0 then 1 + (1 - p.turn)
  else if R.blocked = 1 then 1 + p.turn else 3
theorem list_pos (R : RulesZ) (p : PosZ) : 0 < (listZ R p).length ↔ (rawZ R p).isEmpty = false := by
  rw [List.length_pos_iff_exists_mem, List.isEmpty_eq_false_iff_exists_mem]
  exact ⟨fun ⟨m, h⟩ => ⟨m, list_mem.1 h⟩, fun ⟨m, h⟩ => ⟨m, list_mem.2 h⟩⟩
theorem res_raw (R : RulesZ) (p : PosZ) : resultZ R p = resRaw R p := by
  unfold resultZ resRaw
  simp only [list_pos]
def playRaw (R : RulesZ) (ms : List MoveZ) (m : MoveZ) : Int := if resRaw R (nowZ R ms) ≠ 0 then 14 else if m ∉ rawZ R (nowZ R ms) then 13 else if ms.length = 400 then 9 else 0
theorem game_raw {R : RulesZ} (h : R.rept = 0) (ms : List MoveZ) : gameRes R ms = resRaw R (nowZ R ms) := by
  unfold gameRes
  rw [if_neg (fun q => q.2.1 h), res_raw]
theorem play_raw {R : RulesZ} (h : R.rept = 0) (ms : List MoveZ) (m : MoveZ) : playErr R ms m = playRaw R ms m := by
  unfold playErr playRaw
  rw [game_raw h]
  simp only [list_mem]
def runRaw (R : RulesZ) : List MoveZ → List MoveZ → Int
  | _, [] => 0
  | ms, m :: t => if playRaw R ms m ≠ 0 then playRaw R ms m else runRaw R (ms ++ [m]) t
theorem run_raw {R : RulesZ} (h : R.rept = 0) : ∀ (l ms : List MoveZ), runFrom R ms l = runRaw R ms l
  | [], _ => rfl
  | m :: t, ms => by rw [runFrom, runRaw, play_raw h, run_raw h t]
end Go.Proofs.Ytkfaibdflbdpgaa
/- books: a book of one move; books that came in. -/
namespace Go.Proofs.Ytkfaibdflbdpgaa
open Go.ChangeShapes Go.WideShapes Go.ChangeAt Go.RowKit
set_option linter.unusedVariables false

theorem drop_any' (n : Int) (w : World) : Calls Try.prog 70 #[.int .i64 n] w fun e w' => e = .returned (.agg #[.int .i64 (-1), .int .i64 n, .int .i64 0]) ∧ Below w.heap.size w w' := by
  go_enter Try.func70, Try.ntmps70
  go_wp2
  exact bodyPost_ret (v := .agg #[.int .i64 (-1), .int .i64 n, .int .i64 0]) (by simp [results, Try.results70, go_sem]) rfl ⟨rfl, by go_grown⟩
theorem tic_run4 : runErr ticZ [⟨-1, 4, 0⟩] = 0 := by
  unfold runErr
  rw [if_neg (by rw [tic_rules]; decide), run_raw rfl]
  decide +kernel
theorem tic_added : addedB ticZ [] [⟨-1, 4, 0⟩] 1 7 = [⟨keyZ (nowZ ticZ []), ⟨-1, 4, 0⟩, 7⟩] := rfl
theorem tic_add : addErr ticZ [] [⟨-1, 4, 0⟩] 1 7 = 0 := by
  have h : (foldB [] (gameB ticZ [⟨-1, 4, 0⟩] 7 (plyN 1 [(⟨-1, 4, 0⟩ : MoveZ)].length))).length = 1 := rfl
  unfold addErr
  rw [if_neg (by decide), if_neg (by rw [tic_run4]; decide), if_neg (by decide), h]
  rfl
set_option maxRecDepth 100000 in
set_option maxHeartbeats 4000000 in
theorem books_any (HS : SortMvSaid) (w : World) : Calls Try.prog 49 #[] w fun e w' => e = .returned (.bool true) ∧ Below w.heap.size w w' := by
  have HSh := Lib.hid HS
  clear HS
  go_enter Try.func49, Try.ntmps49
  go_wp2_with fail
  refine (tic_any _).mono ?_
  rintro e w0 ⟨vp, vs, ve, rfl, hr0, hb0⟩
  have HR0 := Lib.hid hr0
  have HB0 := Lib.hid hb0
  clear hr0 hb0
  unfold rulesV
  go_wp2_with fail
  refine (drop_any' 4 _).mono ?_
  rintro e w1 ⟨rfl, hb1⟩
  have HR1 := Lib.hid (HR0.out.below hb1 (Nat.le_refl _))
  have HB1 := Lib.hid (below_trans HB0.out hb1 HB0.out.size)
  clear hb1
  go_wp2_with fail
  have HM : Hid (RdL moveEl (w1.alloc (.cells #[.int .i64 (-1), .int .i64 4, .int .i64 0] 42)) (.slice (some ⟨w1.heap.size, 0, none⟩) 1 1) [⟨-1, 4, 0⟩]) := Lib.hid (by
    refine .inr ⟨w1.heap.size, 0, 1, rfl, by simp, by unfold maxLen; decide, by simp, fun i hi => ?_⟩
    obtain rfl : i = 0 := by simp at hi; exact hi
    refine ⟨_, rfl, fun j hj => ?_⟩
    have hj' : j < 3 := hj
    rcases j with _ | _ | _ | j
    all_goals first | (simp [go_sem]; done) | omega)
  have HR2 := Lib.hid (HR1.out.below ((Below.refl w1.heap.size w1).alloc (Nat.le_refl _) (.cells #[.int .i64 (-1), .int .i64 4, .int .i64 0] 42)) (Nat.le_refl _))
  have HB2 := Lib.hid (HB1.out.alloc HB1.out.size (.cells #[.int .i64 (-1), .int .i64 4, .int .i64 0] 42))
  generalize (w1.alloc (.cells #[.int .i64 (-1), .int .i64 4, .int .i64 0] 42)) = w2 at *
  refine (Add_any HSh.out ticZ vp vs ve _ [] _ [⟨-1, 4, 0⟩] 1 7 w2 HR2.out (by unfold maxLen; decide) (RdL.nil _ _) HM.out).mono ?_
  rintro e w3 (⟨hbad, -⟩ | ⟨-, v3, rfl, ho3, hb3⟩)
  · exact absurd tic_add hbad
  rw [tic_added] at ho3
  obtain ⟨g, c, rfl⟩ := own_some ho3 (by simp)
  have c4 := (rdK_of_own ho3)
  obtain ⟨g', o', hga, -, hcc⟩ := bks_some c4 (by simp)
  simp only [Option.some.injEq, Addr.mk.injEq, and_true] at hga
  obtain ⟨rfl, rfl⟩ := hga
  obtain ⟨-, -, -, -, q4⟩ := hcc 0 (by simp)
  have q4' : w3.cell? ⟨g, 4, none⟩ = some (.int .i64 7) := by simpa using q4
  have HB3 := Lib.hid (below_trans HB2.out hb3 HB2.out.size)
  clear q4 hcc c4 ho3 hb3
  go_wp2_with fail
  go_ret
  exact ⟨rfl, HB3.out⟩
section
open Go.Deep
variable {H : Type} {enc : TypeId × Value → H} {w : World}
set_option maxRecDepth 100000 in
theorem open_bk (fuel : Nat) (cs : List Value) (y : DataW H × List MemPlace) (h : DataW.trod enc Try.prog w 0 (fun _ => true) true fuel 98 cs = some y) : ∃ x, bkEl.E w x cs := by
  obtain ⟨xs, n, _, _, hlen, hxl, hf⟩ := DataW.trod_struct Try.underlying98 h
  obtain ⟨a, b, c, d, f, rfl⟩ : ∃ a b c d f, cs = [a, b, c, d, f] := by
    have hl : cs.length = 5 := hlen.trans (by kernel_rfl)
    match cs, hl with
    | [a, b, c, d, f], _ => exact ⟨a, b, c, d, f, rfl⟩
  have f0 := fld hf 0 0 1 96 (by kernel_rfl) (by kernel_rfl)
  have f1 := fld hf 1 1 3 42 (by kernel_rfl) (by kernel_rfl)
  have f2 := fld hf 2 4 1 3 (by kernel_rfl) (by kernel_rfl)
  have hx : xs.length = 3 := hxl
  obtain ⟨y0, y1, y2, rfl⟩ : ∃ a b c, xs = [a, b, c] := by
    match xs, hx with
    | [a, b, c], _ => exact ⟨a, b, c, rfl⟩
  obtain ⟨n0, e0, -, -⟩ := DataW.trod_int Try.underlying96 f0
  obtain ⟨m, hm⟩ := open_move (enc := enc) (w := w) _ _ _ f1
  obtain ⟨n2, e2, -, -⟩ := DataW.trod_int Try.underlying3 f2
  simp only [moveEl] at hm
  simp at e0 hm e2
  obtain ⟨rfl, rfl, rfl⟩ := hm
  subst e0 e2
  exact ⟨⟨n0, m, n2⟩, rfl⟩
set_option maxRecDepth 100000 in
theorem open_bks {r : Reach} {base : Nat} {v : Value} {d : DataW H} {p : List MemPlace} (hv : Value.okWide Try.prog w r base 88 v) (h : DataW.Trod enc Try.prog w 0 (fun _ => true) true 88 v d p) : ∃ xs, RdL bkEl w v xs :=
  open_listV bkEl Try.underlying88 (by kernel_rfl) (by decide) (open_bk (enc := enc) (w := w)) hv h
end

end Go.Proofs.Ytkfaibdflbdpgaa

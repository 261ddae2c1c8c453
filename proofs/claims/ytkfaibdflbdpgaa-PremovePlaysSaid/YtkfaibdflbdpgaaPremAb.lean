/- PremAb: Prem5, Prem6, Prem7, in one text. -/
import Derived.Test.YtkfaibdflbdpgaaPremAa
import Derived.Test.YtkfaibdflbdpgaaEnd3
import Derived.Test.YtkfaibdflbdpgaaMvLaw
import Derived.Test.YtkfaibdflbdpgaaTic
import Derived.Test.YtkfaibdflbdpgaaPlay
import Derived.Test.YtkfaibdflbdpgaaPriv
import Derived.Test.YtkfaibdflbdpgaaMake
/- The contracts of premove.next, check, Next. -/
namespace Go.Proofs.Ytkfaibdflbdpgaa
open Go.ChangeShapes Go.WideShapes Go.ChangeAt Go.RowKit
set_option linter.unusedVariables false

theorem RdL.drop {α : Type} {el : El α} {w : World} {a : Option Addr} {n c : Nat} {xs : List α} (h : RdL el w (.slice a n c) xs) (k : Nat) (hk : k ≤ xs.length) : RdL el w (.slice (subAddr a c k el.k) (xs.length - k) (c - k)) (xs.drop k) := by
  have hl : (xs.drop k).length = xs.length - k := by rw [List.length_drop]
  rcases h with ⟨a', c', h, hm, hz⟩ | ⟨g, o, c', h1, h2, h3, h4, h5⟩
  · simp only [Value.slice.injEq] at h
    obtain ⟨rfl, _, rfl⟩ := h
    exact .inl ⟨_, _, by rw [hz, Nat.zero_sub], by omega, by rw [hl]; omega⟩
  · simp only [Value.slice.injEq] at h1
    obtain ⟨rfl, _, rfl⟩ := h1
    by_cases hck : xs.length - k = 0
    · exact .inl ⟨_, _, by rw [hck], by omega, by rw [hl]; exact hck⟩
    · have hne : ¬ c = k := by omega
      refine .inr ⟨g, o + k * el.k, c - k, by rw [hl, subAddr, if_neg hne]; simp [add_off], by omega, by omega, h4, fun i hi => ?_⟩
      rw [hl] at hi
      obtain ⟨cs, e, f⟩ := h5 (k + i) (by omega)
      refine ⟨cs, by simpa using e, fun q hq => ?_⟩
      have := f q hq
      rw [Nat.add_mul, ← Nat.add_assoc] at this
      exact this
/-- results that are one variable and two slots. -/
theorem results_c2 {P : Program} {fn : Func} {tmps : Array Value} {a s s2 : Nat} {t t' : TypeId} {w : World} {b : Nat} {cs : List Value} {v v2 : Value} {d : TypeDesc} (hr : fn.results = #[.cell a t, .tmp s, .tmp s2])
    (ha : tmps.getD a undef = .pointer (some ⟨b, 0, none⟩)) (hs : tmps.getD s undef = v) (hs2 : tmps.getD s2 undef = v2) (hc : Box w b cs t') (hu : P.underlying t = some d) (hd : d.isRow = true) (hi : (P.info? t).map (·.size) = some cs.length) :
    (results fn tmps).run P w = .ok (.tuple #[.agg cs.toArray, v, v2]) w := by
  have hl := run_loadVar_mid (P := P) w b 0 t cs d hc.range hu hd hi
  have ha' : tmps[a]?.getD undef = .pointer (some ⟨b, 0, none⟩) := by simpa using ha
  have hs' : tmps[s]?.getD undef = v := by simpa using hs
  have hs2' : tmps[s2]?.getD undef = v2 := by simpa using hs2
  unfold results
  rw [hr]
  simp [asAddr, ha', hs', hs2', hl]
theorem results_c3 {P : Program} {fn : Func} {tmps : Array Value} {a s s2 s3 : Nat} {t t' : TypeId} {w : World} {b : Nat} {cs : List Value} {v v2 v3 : Value} {d : TypeDesc} (hr : fn.results = #[.cell a t, .tmp s, .tmp s2, .tmp s3])
    (ha : tmps.getD a undef = .pointer (some ⟨b, 0, none⟩)) (hs : tmps.getD s undef = v) (hs2 : tmps.getD s2 undef = v2) (hs3 : tmps.getD s3 undef = v3) (hc : Box w b cs t') (hu : P.underlying t = some d) (hd : d.isRow = true) (hi : (P.info? t).map (·.size) = some cs.length) :
    (results fn tmps).run P w = .ok (.tuple #[.agg cs.toArray, v, v2, v3]) w := by
  have hl := run_loadVar_mid (P := P) w b 0 t cs d hc.range hu hd hi
  have ha' : tmps[a]?.getD undef = .pointer (some ⟨b, 0, none⟩) := by simpa using ha
  have hs' : tmps[s]?.getD undef = v := by simpa using hs
  have hs2' : tmps[s2]?.getD undef = v2 := by simpa using hs2
  have hs3' : tmps[s3]?.getD undef = v3 := by simpa using hs3
  unfold results
  rw [hr]
  simp [asAddr, ha', hs', hs2', hs3', hl]
def nextIx (p : PosZ) (l : List PremZ) : Int := idxL (fun x => x.player == p.turn) l 0
def nextOk (R : RulesZ) (p : PosZ) (l : List PremZ) : Bool := decide (0 ≤ nextIx p l) && decide ((l.getD (nextIx p l).toNat default).move ∈ movesZ R p)
def nextMv (R : RulesZ) (p : PosZ) (l : List PremZ) : MoveZ := if nextOk R p l = true then (l.getD (nextIx p l).toNat default).move else ⟨0, 0, 0⟩
def nextRest (R : RulesZ) (p : PosZ) (l : List PremZ) : List PremZ := if nextOk R p l = true then l.take (nextIx p l).toNat ++ l.drop ((nextIx p l).toNat + 1) else withoutZ l p.turn
def NextPost (R : RulesZ) (p : PosZ) (l : List PremZ) (w : World) (e : Ending) (w' : World) : Prop :=
  ∃ v, e = .returned (.tuple #[.agg #[.int .i64 (nextMv R p l).src, .int .i64 (nextMv R p l).dst, .int .i64 (nextMv R p l).piece], .bool (nextOk R p l), v]) ∧ w'.ownsRow w.heap.size 121 4 v (nextRest R p l).length (flatP (nextRest R p l)) ∧ Below w.heap.size w w'
theorem next1_any (x : PremZ) (t : Int) (b : Nat) (W : World) (hlt : b < W.heap.size) (hc : W.cell? ⟨b, 3, none⟩ = some (.int .i64 t)) : Calls Try.prog 135 (#[.agg #[.int .i64 x.player, .int .i64 x.move.src, .int .i64 x.move.dst, .int .i64 x.move.piece]] ++ #[.pointer (some ⟨b, 0, none⟩)]) W fun e w' => e = .returned (.bool (x.player == t)) ∧ Below W.heap.size W w' := by
  show Calls Try.prog 135 #[.agg #[.int .i64 x.player, .int .i64 x.move.src, .int .i64 x.move.dst, .int .i64 x.move.piece], .pointer (some ⟨b, 0, none⟩)] W _
  go_enter Try.func135, Try.ntmps135
  go_wp2
  go_ret
  exact ⟨rfl, (Below.refl _ _).alloc (Nat.le_refl _) _⟩
theorem callNx1 (args : Array Value) (w : World) : (callFunc 135 args).run Try.prog w = .ok (.enter 135 args) w := by kernel_rfl
set_option maxRecDepth 100000 in
set_option maxHeartbeats 4000000 in
theorem next_any (HS : SortMvSaid) (R : RulesZ) (vp vs ve : Value) (p : PosZ) (vc v0 v1 : Value) (v : Value) (l : List PremZ) (w : World) (hr : RdR w R vp vs ve) (hp : RdP w p vc v0 v1) (hl : RdL premEl w v l) (K : POk R p) (hlen : l.length ≤ 1000) :
    Calls Try.prog 81 #[(.agg #[.string R.name, .int .i64 R.width, .int .i64 R.height, vp, vs, .bool R.falls, .bool R.keeps, ve, .int .i64 R.blocked, .int .i64 R.quiet, .int .i64 R.rept]), (.agg #[vc, v0, v1, .int .i64 p.turn, .int .i64 p.quiet]), v] w (NextPost R p l w) := by
  have HR := Lib.hid hr
  have HP := Lib.hid hp
  have HL := Lib.hid hl
  have HK := Lib.hid K
  have HSh := Lib.hid HS
  obtain ⟨a, c, rfl, h1, h2⟩ := hl.form
  unfold maxLen at h2
  clear hr hp hl K HS
  go_enter Try.func81, Try.ntmps81
  go_upto_region 1 with (fail)
  have B0 : Box (((w.alloc (.cells #[.string R.name, .int .i64 R.width, .int .i64 R.height, vp, vs, .bool R.falls, .bool R.keeps, ve, .int .i64 R.blocked, .int .i64 R.quiet, .int .i64 R.rept] 26)).alloc (.cells #[vc, v0, v1, .int .i64 p.turn, .int .i64 p.quiet] 37)).alloc (.cells #[.int .i64 0, .int .i64 0, .int .i64 0] 42)) (w.heap.size) [.string R.name, .int .i64 R.width, .int .i64 R.height, vp, vs, .bool R.falls, .bool R.keeps, ve, .int .i64 R.blocked, .int .i64 R.quiet, .int .i64 R.rept] 26 := (((Box.new' w (w.heap.size) [.string R.name, .int .i64 R.width, .int .i64 R.height, vp, vs, .bool R.falls, .bool R.keeps, ve, .int .i64 R.blocked, .int .i64 R.quiet, .int .i64 R.rept] 26 (by simp <;> omega)).alloc _).alloc _)
  have B1 : Box (((w.alloc (.cells #[.string R.name, .int .i64 R.width, .int .i64 R.height, vp, vs, .bool R.falls, .bool R.keeps, ve, .int .i64 R.blocked, .int .i64 R.quiet, .int .i64 R.rept] 26)).alloc (.cells #[vc, v0, v1, .int .i64 p.turn, .int .i64 p.quiet] 37)).alloc (.cells #[.int .i64 0, .int .i64 0, .int .i64 0] 42)) (w.heap.size + 1) [vc, v0, v1, .int .i64 p.turn, .int .i64 p.quiet] 37 := ((Box.new' (w.alloc (.cells #[.string R.name, .int .i64 R.width, .int .i64 R.height, vp, vs, .bool R.falls, .bool R.keeps, ve, .int .i64 R.blocked, .int .i64 R.quiet, .int .i64 R.rept] 26)) (w.heap.size + 1) [vc, v0, v1, .int .i64 p.turn, .int .i64 p.quiet] 37 (by simp <;> omega)).alloc _)
  have B2 : Box (((w.alloc (.cells #[.string R.name, .int .i64 R.width, .int .i64 R.height, vp, vs, .bool R.falls, .bool R.keeps, ve, .int .i64 R.blocked, .int .i64 R.quiet, .int .i64 R.rept] 26)).alloc (.cells #[vc, v0, v1, .int .i64 p.turn, .int .i64 p.quiet] 37)).alloc (.cells #[.int .i64 0, .int .i64 0, .int .i64 0] 42)) (w.heap.size + 1 + 1) [.int .i64 0, .int .i64 0, .int .i64 0] 42 := (Box.new' ((w.alloc (.cells #[.string R.name, .int .i64 R.width, .int .i64 R.height, vp, vs, .bool R.falls, .bool R.keeps, ve, .int .i64 R.blocked, .int .i64 R.quiet, .int .i64 R.rept] 26)).alloc (.cells #[vc, v0, v1, .int .i64 p.turn, .int .i64 p.quiet] 37)) (w.heap.size + 1 + 1) [.int .i64 0, .int .i64 0, .int .i64 0] 42 (by simp <;> omega))
  have HB : Hid (Below w.heap.size w (((w.alloc (.cells #[.string R.name, .int .i64 R.width, .int .i64 R.height, vp, vs, .bool R.falls, .bool R.keeps, ve, .int .i64 R.blocked, .int .i64 R.quiet, .int .i64 R.rept] 26)).alloc (.cells #[vc, v0, v1, .int .i64 p.turn, .int .i64 p.quiet] 37)).alloc (.cells #[.int .i64 0, .int .i64 0, .int .i64 0] 42))) := Lib.hid ((((Below.refl w.heap.size w).alloc (Nat.le_refl _) _).alloc (by simp <;> omega) _).alloc (by simp <;> omega) _)
  have hz0 : w.heap.size + 1 + 1 < (((w.alloc (.cells #[.string R.name, .int .i64 R.width, .int .i64 R.height, vp, vs, .bool R.falls, .bool R.keeps, ve, .int .i64 R.blocked, .int .i64 R.quiet, .int .i64 R.rept] 26)).alloc (.cells #[vc, v0, v1, .int .i64 p.turn, .int .i64 p.quiet] 37)).alloc (.cells #[.int .i64 0, .int .i64 0, .int .i64 0] 42)).heap.size := by simp
  generalize (((w.alloc (.cells #[.string R.name, .int .i64 R.width, .int .i64 R.height, vp, vs, .bool R.falls, .bool R.keeps, ve, .int .i64 R.blocked, .int .i64 R.quiet, .int .i64 R.rept] 26)).alloc (.cells #[vc, v0, v1, .int .i64 p.turn, .int .i64 p.quiet] 37)).alloc (.cells #[.int .i64 0, .int .i64 0, .int .i64 0] 42)) = w0 at *
  have HRw := Lib.hid (HR.out.below HB.out (Nat.le_refl _))
  have HPw := Lib.hid (HP.out.below HB.out (Nat.le_refl _))
  have HLw := Lib.hid (HL.out.below HB.out (Nat.le_refl _))
  have HX0 := Lib.hid B0
  have HX1 := Lib.hid B1
  have HX2 := Lib.hid B2
  have HI := Lib.hid (IndexFunc_pm (.slice a l.length c) l (fun x => x.player == p.turn) 135 #[.pointer (some ⟨w.heap.size + 1, 0, none⟩)] w0 HLw.out callNx1 (fun W x cs hx hE hW => by
    simp only [premEl] at hE
    subst hE
    exact next1_any x p.turn (w.heap.size + 1) W (Nat.lt_of_lt_of_le (by omega) hW.size) ((HX1.out.stays hW).cell 3 rfl)))
  clear B0 B1 B2
  go_wp2_with fail
  refine HI.out.mono ?_
  rintro e w1 ⟨rfl, hb1⟩
  have HX0' := Lib.hid (HX0.out.stays hb1)
  have HX1' := Lib.hid (HX1.out.stays hb1)
  have HX2' := Lib.hid (HX2.out.stays hb1)
  have HB1 := Lib.hid (below_trans HB.out hb1 HB.out.size)
  have HL1 := Lib.hid (HLw.out.below hb1 (Nat.le_refl _))
  clear hb1 HX0 HX1 HX2 HI HRw HPw HLw HB hz0
  have HIX : Hid (nextIx p l = idxL (fun x => x.player == p.turn) l 0) := Lib.hid rfl
  by_cases hn : idxL (fun x => x.player == p.turn) l 0 = -1
  · have hok : nextOk R p l = false := by unfold nextOk; rw [HIX.out, hn]; rfl
    have HE1 : Hid (nextOk R p l = false) := Lib.hid hok
    have HE2 : Hid (nextMv R p l = ⟨0, 0, 0⟩) := Lib.hid (by unfold nextMv; rw [hok]; rfl)
    have HE3 : Hid (nextRest R p l = withoutZ l p.turn) := Lib.hid (by unfold nextRest; rw [hok]; rfl)
    rw [hn]
    clear hn hok HIX
    go_upto_region 2 with (fail)
    generalize w1 = wq at *
    have BRz : Box wq.drew (w.heap.size) [.string R.name, .int .i64 R.width, .int .i64 R.height, vp, vs, .bool R.falls, .bool R.keeps, ve, .int .i64 R.blocked, .int .i64 R.quiet, .int .i64 R.rept] 26 := HX0'.out
    have BPz : Box wq.drew (w.heap.size + 1) [vc, v0, v1, .int .i64 p.turn, .int .i64 p.quiet] 37 := HX1'.out
    have BMz : Box wq.drew (w.heap.size + 1 + 1) [.int .i64 0, .int .i64 0, .int .i64 0] 42 := HX2'.out
    have Lz : Below w.heap.size w wq.drew := below_drew' HB1.out
    have RLz : RdL premEl wq.drew (.slice a l.length c) l := HL1.out.below (below_drew' (Below.refl _ _)) (Nat.le_refl _)
    clear HX0' HX1' HX2' HB1 HL1
    refine wp_region_noPanic ?_
    refine beginL (S := (fun _ => True)) (L := []) (by kernel_rfl) trivial (fun hHeld => ?_)
    refine takeW (i := 0) (oi := { dst := some 13, op := Op.move (Operand.tmp 9), type := 3, pos := "premove.go:68", after := #[], guard := none }) (v := ?va1) rfl (by kernel_rfl) (by kernel_rfl) (by kernel_rfl) rfl (fun _ _ _ h => h) (Or.inl ⟨by rfl, ?ya1⟩) (fun _ => by assumption) ?ra1
    case ya1 => (intro w _; go_simp; first | done | (with_reducible rfl))
    try simp only [Act.put, List.setIfInBounds_toArray, List.set_cons_zero, List.set_cons_succ]
    refine takeW (i := 1) (oi := { dst := some 14, op := Op.binOp BinOp.lss 3 (Operand.tmp 13) (Operand.const (Value.int IntKind.i64 0)) 3, type := 4, pos := "premove.go:68", after := #[{ on := 0, ground := Ground.data }], guard := none }) (v := ?va2) rfl (by kernel_rfl) (by kernel_rfl) (by kernel_rfl) rfl (fun _ _ _ h => h) (Or.inl ⟨by rfl, ?ya2⟩) (fun _ => by assumption) ?ra2
    case ya2 => (intro w _; go_simp; first | done | (with_reducible rfl))
    try simp only [Act.put, List.setIfInBounds_toArray, List.set_cons_zero, List.set_cons_succ]
    refine takeW (i := 2) (oi := { dst := some 15, op := Op.move (Operand.tmp 14), type := 4, pos := "premove.go:68", after := #[{ on := 1, ground := Ground.data }], guard := none }) (v := ?va3) rfl (by kernel_rfl) (by kernel_rfl) (by kernel_rfl) rfl (fun _ _ _ h => h) (Or.inl ⟨by rfl, ?ya3⟩) (fun _ => by assumption) ?ra3
    case ya3 => (intro w _; go_simp; first | done | (with_reducible rfl))
    try simp only [Act.put, List.setIfInBounds_toArray, List.set_cons_zero, List.set_cons_succ]
    refine takeW (i := 3) (oi := { dst := some 16, op := Op.load 26 (Operand.tmp 3), type := 26, pos := "premove.go:68", after := #[{ on := 2, ground := Ground.guard }], guard := some (2, false) }) (v := undef) rfl (by kernel_rfl) (by kernel_rfl) (by kernel_rfl) rfl (fun _ _ _ h => h) (Or.inr ⟨by rfl, rfl⟩) (fun _ => by assumption) ?_
    try simp only [Act.put, List.setIfInBounds_toArray, List.set_cons_zero, List.set_cons_succ]
    refine takeW (i := 4) (oi := { dst := some 17, op := Op.load 37 (Operand.tmp 4), type := 37, pos := "premove.go:68", after := #[{ on := 2, ground := Ground.guard }], guard := some (2, false) }) (v := undef) rfl (by kernel_rfl) (by kernel_rfl) (by kernel_rfl) rfl (fun _ _ _ h => h) (Or.inr ⟨by rfl, rfl⟩) (fun _ => by assumption) ?_
    try simp only [Act.put, List.setIfInBounds_toArray, List.set_cons_zero, List.set_cons_succ]
    refine takeW (i := 6) (oi := { dst := some 19, op := Op.move (Operand.tmp 2), type := 62, pos := "premove.go:68", after := #[{ on := 2, ground := Ground.guard }], guard := some (2, false) }) (v := undef) rfl (by kernel_rfl) (by kernel_rfl) (by kernel_rfl) rfl (fun _ _ _ h => h) (Or.inr ⟨by rfl, rfl⟩) (fun _ => by assumption) ?_
    try simp only [Act.put, List.setIfInBounds_toArray, List.set_cons_zero, List.set_cons_succ]
    refine takeW (i := 7) (oi := { dst := some 20, op := Op.move (Operand.tmp 9), type := 3, pos := "premove.go:68", after := #[{ on := 2, ground := Ground.guard }], guard := some (2, false) }) (v := undef) rfl (by kernel_rfl) (by kernel_rfl) (by kernel_rfl) rfl (fun _ _ _ h => h) (Or.inr ⟨by rfl, rfl⟩) (fun _ => by assumption) ?_
    try simp only [Act.put, List.setIfInBounds_toArray, List.set_cons_zero, List.set_cons_succ]
    refine takeW (i := 5) (oi := { dst := some 18, op := Op.call { callee := Callee.value (Operand.func 136), args := #[Operand.tmp 16, Operand.tmp 17], argTypes := #[26, 37] }, type := 32, pos := "premove.go:68", after := #[{ on := 3, ground := Ground.data }, { on := 4, ground := Ground.data }, { on := 2, ground := Ground.chain }, { on := 2, ground := Ground.guard }], guard := some (2, false) }) (v := undef) rfl (by kernel_rfl) (by kernel_rfl) (by kernel_rfl) rfl (fun _ _ _ h => h) (Or.inr ⟨by rfl, rfl⟩) (fun _ => by assumption) ?_
    try simp only [Act.put, List.setIfInBounds_toArray, List.set_cons_zero, List.set_cons_succ]
    refine takeW (i := 8) (oi := { dst := some 21, op := Op.indexAddr 62 (Operand.tmp 19) (Operand.tmp 20), type := 0, pos := "premove.go:68", after := #[{ on := 6, ground := Ground.data }, { on := 7, ground := Ground.data }, { on := 2, ground := Ground.guard }], guard := some (2, false) }) (v := undef) rfl (by kernel_rfl) (by kernel_rfl) (by kernel_rfl) rfl (fun _ _ _ h => h) (Or.inr ⟨by rfl, rfl⟩) (fun _ => by assumption) ?_
    try simp only [Act.put, List.setIfInBounds_toArray, List.set_cons_zero, List.set_cons_succ]
    refine takeW (i := 9) (oi := { dst := some 22, op := Op.fieldAddr 121 (Operand.tmp 21) 1, type := 0, pos := "premove.go:68", after := #[{ on := 8, ground := Ground.data }, { on := 2, ground := Ground.guard }], guard := some (2, false) }) (v := undef) rfl (by kernel_rfl) (by kernel_rfl) (by kernel_rfl) rfl (fun _ _ _ h => h) (Or.inr ⟨by rfl, rfl⟩) (fun _ => by assumption) ?_
    try simp only [Act.put, List.setIfInBounds_toArray, List.set_cons_zero, List.set_cons_succ]
    refine takeW (i := 10) (oi := { dst := some 23, op := Op.load 42 (Operand.tmp 22), type := 42, pos := "premove.go:68", after := #[{ on := 9, ground := Ground.data }, { on := 2, ground := Ground.guard }], guard := some (2, false) }) (v := undef) rfl (by kernel_rfl) (by kernel_rfl) (by kernel_rfl) rfl (fun _ _ _ h => h) (Or.inr ⟨by rfl, rfl⟩) (fun _ => by assumption) ?_
    try simp only [Act.put, List.setIfInBounds_toArray, List.set_cons_zero, List.set_cons_succ]
    refine takeW (i := 11) (oi := { dst := some 24, op := Op.call { callee := Callee.value (Operand.func 66), args := #[Operand.tmp 18, Operand.tmp 23], argTypes := #[32, 42] }, type := 4, pos := "premove.go:68", after := #[{ on := 5, ground := Ground.data }, { on := 10, ground := Ground.data }, { on := 5, ground := Ground.chain }, { on := 2, ground := Ground.guard }], guard := some (2, false) }) (v := undef) rfl (by kernel_rfl) (by kernel_rfl) (by kernel_rfl) rfl (fun _ _ _ h => h) (Or.inr ⟨by rfl, rfl⟩) (fun _ => by assumption) ?_
    try simp only [Act.put, List.setIfInBounds_toArray, List.set_cons_zero, List.set_cons_succ]
    refine takeW (i := 12) (oi := { dst := some 25, op := Op.unOp UnOp.not 4 (Operand.tmp 24), type := 4, pos := "premove.go:68", after := #[{ on := 11, ground := Ground.data }, { on := 2, ground := Ground.guard }], guard := some (2, false) }) (v := undef) rfl (by kernel_rfl) (by kernel_rfl) (by kernel_rfl) rfl (fun _ _ _ h => h) (Or.inr ⟨by rfl, rfl⟩) (fun _ => by assumption) ?_
    try simp only [Act.put, List.setIfInBounds_toArray, List.set_cons_zero, List.set_cons_succ]
    refine takeW (i := 13) (oi := { dst := some 26, op := Op.pick (Operand.tmp 15) (Operand.const (Value.bool true)) (Operand.tmp 25), type := 4, pos := "premove.go:68", after := #[{ on := 2, ground := Ground.data }, { on := 12, ground := Ground.data }], guard := none }) (v := ?va14) rfl (by kernel_rfl) (by kernel_rfl) (by kernel_rfl) rfl (fun _ _ _ h => h) (Or.inl ⟨by rfl, ?ya14⟩) (fun _ => by assumption) ?ra14
    case ya14 => (intro w _; go_simp; first | done | (with_reducible rfl))
    try simp only [Act.put, List.setIfInBounds_toArray, List.set_cons_zero, List.set_cons_succ]
    refine doneL (by kernel_rfl) ?_ _
    refine NoPanic.normal ?_
    have BRy : Box wq.drew (w.heap.size) [.string R.name, .int .i64 R.width, .int .i64 R.height, vp, vs, .bool R.falls, .bool R.keeps, ve, .int .i64 R.blocked, .int .i64 R.quiet, .int .i64 R.rept] 26 := BRz
    have q3 := BPz.cell 3 rfl
    have HLn := Lib.hid Lz
    have HRn := Lib.hid RLz
    have HBm := Lib.hid BMz
    go_wp2_with fail
    refine (without_any _ l p.turn _ HRn.out (by omega)).mono ?_
    rintro e w7 ⟨v7, rfl, ho7, hb7⟩
    obtain ⟨a7, c7, rfl⟩ := own_form2 ho7
    have HB7 := Lib.hid (below_trans HLn.out hb7 HLn.out.size)
    have HM7 := Lib.hid (HBm.out.stays hb7)
    have HO7 := Lib.hid ho7
    have hsz7 := HBm.out.lt
    clear ho7 hb7
    go_wp2_with (refine wpList_store_box (vs := [.int .i64 0, .int .i64 0, .int .i64 0]) (by rfl) 42 (.tmp 6) (.tmp 27) (by rfl) (w.heap.size + 1 + 1) (by rfl) (by rfl) HM7.out rfl (by kernel_rfl) (by rfl) ?_)
    exact bodyPost_ret (results_c2 rfl (by rfl) (by rfl) (by rfl) (HM7.out.store rfl) Try.underlying42 (by rfl) (by kernel_rfl)) rfl ⟨_, by rw [HE1.out, HE2.out]; rfl, by rw [HE3.out]; exact own_base (own_setCells HO7.out hsz7 0 _) HLn.out.size, below_setCells HB7.out (by omega) 0 _⟩
  obtain ⟨j, hj0, hj1, hpj, -⟩ := idxL_found (fun x => x.player == p.turn) l 0 (Int.le_refl _) hn
  simp only [Int.zero_add] at hj0
  have hjx : nextIx p l = j := by rw [HIX.out, hj0]
  obtain ⟨g, o, rfl, hg, hcc⟩ := prems_some HL1.out (by omega)
  obtain ⟨-, m1, m2, m3⟩ := hcc j hj1
  have hokd : nextOk R p l = decide ((l.getD j default).move ∈ movesZ R p) := by unfold nextOk; rw [hjx]; simp
  have HMv : Hid (nextOk R p l = true → nextMv R p l = (l.getD j default).move) := Lib.hid (fun h => by unfold nextMv; rw [if_pos h, hjx]; rfl)
  have HRs : Hid (nextOk R p l = true → nextRest R p l = l.take j ++ l.drop (j + 1)) := Lib.hid (fun h => by unfold nextRest; rw [if_pos h, hjx]; rfl)
  rw [hj0]
  clear hn hj0 hpj hcc HIX hjx
  generalize l.getD j default = x at *
  by_cases hm : x.move ∈ movesZ R p
  · have hmem : decide (x.move ∈ movesZ R p) = true := by simpa using hm
    have HE1 : Hid (nextOk R p l = true) := Lib.hid (by rw [hokd, hmem])
    have HE2 : Hid (nextMv R p l = x.move) := Lib.hid (HMv.out HE1.out)
    obtain ⟨rs, hrs⟩ : ∃ rs, rs = l.take j ++ l.drop (j + 1) := ⟨_, rfl⟩
    have HRS := Lib.hid hrs
    have HE3 : Hid (nextRest R p l = rs) := Lib.hid (by rw [HRs.out HE1.out, hrs])
    clear hrs
    have hsa : ∀ w' : World, (Instr.slice 62 (.slice (some ⟨g, o, none⟩) l.length c) none (some (.int .i64 (j : Int))) none).run Try.prog w' = .ok (.slice (some ⟨g, o, none⟩) j c) w' := fun w' =>
      run_take (P := Try.prog) (t := 62) (s := 4) Try.underlying62 (fun w => by kernel_rfl) (some ⟨g, o, none⟩) l.length c j (by omega) w'
    have hsb : ∀ w' : World, (Instr.slice 62 (.slice (some ⟨g, o, none⟩) l.length c) (some (.int .i64 ((j : Int) + 1))) none none).run Try.prog w' = .ok (.slice (subAddr (some ⟨g, o, none⟩) c (j + 1) 4) (l.length - (j + 1)) (c - (j + 1))) w' := fun w' => by
      have h := run_drop (P := Try.prog) (t := 62) (s := 4) Try.underlying62 (fun w => by kernel_rfl) (some ⟨g, o, none⟩) l.length c (j + 1) (by omega) w'
      rw [Int.natCast_succ] at h
      exact h
    have hwj : IntKind.i64.wrap ((j : Int) + 1) = (j : Int) + 1 := IntWalk.i64_in _ (by omega)
    clear hm hokd HMv HRs
    go_upto_region 2 with (fail)
    generalize w1 = wq at *
    have BRz : Box wq.drew (w.heap.size) [.string R.name, .int .i64 R.width, .int .i64 R.height, vp, vs, .bool R.falls, .bool R.keeps, ve, .int .i64 R.blocked, .int .i64 R.quiet, .int .i64 R.rept] 26 := HX0'.out
    have BPz : Box wq.drew (w.heap.size + 1) [vc, v0, v1, .int .i64 p.turn, .int .i64 p.quiet] 37 := HX1'.out
    have BMz : Box wq.drew (w.heap.size + 1 + 1) [.int .i64 0, .int .i64 0, .int .i64 0] 42 := HX2'.out
    have Lz : Below w.heap.size w wq.drew := below_drew' HB1.out
    have RLz : RdL premEl wq.drew (.slice (some ⟨g, o, none⟩) l.length c) l := HL1.out.below (below_drew' (Below.refl _ _)) (Nat.le_refl _)
    have MAz : wq.drew.cell? ⟨g, o + j * 4 + 1, none⟩ = some (.int .i64 x.move.src) := m1
    have MBz : wq.drew.cell? ⟨g, o + j * 4 + 2, none⟩ = some (.int .i64 x.move.dst) := m2
    have MCz : wq.drew.cell? ⟨g, o + j * 4 + 3, none⟩ = some (.int .i64 x.move.piece) := m3
    have Gz : g < wq.drew.heap.size := hg
    clear HX0' HX1' HX2' HB1 HL1 m1 m2 m3 hg
    refine wp_region_noPanic ?_
    refine beginL (S := (fun w' => w'.cell? ⟨w.heap.size, 0, none⟩ = some (.string R.name) ∧ w'.cell? ⟨w.heap.size, 1, none⟩ = some (.int .i64 R.width) ∧ w'.cell? ⟨w.heap.size, 2, none⟩ = some (.int .i64 R.height) ∧ w'.cell? ⟨w.heap.size, 3, none⟩ = some vp ∧ w'.cell? ⟨w.heap.size, 4, none⟩ = some vs ∧ w'.cell? ⟨w.heap.size, 5, none⟩ = some (.bool R.falls) ∧ w'.cell? ⟨w.heap.size, 6, none⟩ = some (.bool R.keeps) ∧ w'.cell? ⟨w.heap.size, 7, none⟩ = some ve ∧ w'.cell? ⟨w.heap.size, 8, none⟩ = some (.int .i64 R.blocked) ∧ w'.cell? ⟨w.heap.size, 9, none⟩ = some (.int .i64 R.quiet) ∧ w'.cell? ⟨w.heap.size, 10, none⟩ = some (.int .i64 R.rept) ∧ w'.cell? ⟨w.heap.size + 1, 0, none⟩ = some vc ∧ w'.cell? ⟨w.heap.size + 1, 1, none⟩ = some v0 ∧ w'.cell? ⟨w.heap.size + 1, 2, none⟩ = some v1 ∧ w'.cell? ⟨w.heap.size + 1, 3, none⟩ = some (.int .i64 p.turn) ∧ w'.cell? ⟨w.heap.size + 1, 4, none⟩ = some (.int .i64 p.quiet) ∧ w'.cell? ⟨g, o + j * 4 + 1, none⟩ = some (.int .i64 x.move.src) ∧ w'.cell? ⟨g, o + j * 4 + 2, none⟩ = some (.int .i64 x.move.dst) ∧ w'.cell? ⟨g, o + j * 4 + 3, none⟩ = some (.int .i64 x.move.piece))) (L := []) (by kernel_rfl) ⟨BRz.cell 0 rfl, BRz.cell 1 rfl, BRz.cell 2 rfl, BRz.cell 3 rfl, BRz.cell 4 rfl, BRz.cell 5 rfl, BRz.cell 6 rfl, BRz.cell 7 rfl, BRz.cell 8 rfl, BRz.cell 9 rfl, BRz.cell 10 rfl, BPz.cell 0 rfl, BPz.cell 1 rfl, BPz.cell 2 rfl, BPz.cell 3 rfl, BPz.cell 4 rfl, MAz, MBz, MCz⟩ (fun hHeld => ?_)
    refine takeW (i := 0) (oi := { dst := some 13, op := Op.move (Operand.tmp 9), type := 3, pos := "premove.go:68", after := #[], guard := none }) (v := ?va301) rfl (by kernel_rfl) (by kernel_rfl) (by kernel_rfl) rfl (fun _ _ _ h => h) (Or.inl ⟨by rfl, ?ya301⟩) (fun _ => by assumption) ?ra301
    case ya301 => (intro w _; go_simp; first | done | (with_reducible rfl))
    try simp only [Act.put, List.setIfInBounds_toArray, List.set_cons_zero, List.set_cons_succ]
    refine takeW (i := 1) (oi := { dst := some 14, op := Op.binOp BinOp.lss 3 (Operand.tmp 13) (Operand.const (Value.int IntKind.i64 0)) 3, type := 4, pos := "premove.go:68", after := #[{ on := 0, ground := Ground.data }], guard := none }) (v := ?va302) rfl (by kernel_rfl) (by kernel_rfl) (by kernel_rfl) rfl (fun _ _ _ h => h) (Or.inl ⟨by rfl, ?ya302⟩) (fun _ => by assumption) ?ra302
    case ya302 => (intro w _; go_simp; first | done | (with_reducible rfl))
    try simp only [Act.put, List.setIfInBounds_toArray, List.set_cons_zero, List.set_cons_succ]
    refine takeW (i := 2) (oi := { dst := some 15, op := Op.move (Operand.tmp 14), type := 4, pos := "premove.go:68", after := #[{ on := 1, ground := Ground.data }], guard := none }) (v := ?va303) rfl (by kernel_rfl) (by kernel_rfl) (by kernel_rfl) rfl (fun _ _ _ h => h) (Or.inl ⟨by rfl, ?ya303⟩) (fun _ => by assumption) ?ra303
    case ya303 => (intro w _; go_simp; first | done | (with_reducible rfl))
    try simp only [Act.put, List.setIfInBounds_toArray, List.set_cons_zero, List.set_cons_succ]
    refine takeL (i := 3) (oi := { dst := some 16, op := Op.load 26 (Operand.tmp 3), type := 26, pos := "premove.go:68", after := #[{ on := 2, ground := Ground.guard }], guard := some (2, false) }) (v := ?va304) rfl (by kernel_rfl) (by kernel_rfl) (by kernel_rfl) (by kernel_rfl) rfl (by kernel_rfl) (by kernel_rfl) (fun _ _ _ h => h) (Or.inl ⟨by rfl, ?ya304⟩) (by assumption) ?ra304
    case ya304 => (intro w hSw; (try dsimp only at hSw); go_simp; first | done | (with_reducible rfl))
    try simp only [Act.put, List.setIfInBounds_toArray, List.set_cons_zero, List.set_cons_succ]
    refine takeL (i := 4) (oi := { dst := some 17, op := Op.load 37 (Operand.tmp 4), type := 37, pos := "premove.go:68", after := #[{ on := 2, ground := Ground.guard }], guard := some (2, false) }) (v := ?va305) rfl (by kernel_rfl) (by kernel_rfl) (by kernel_rfl) (by kernel_rfl) rfl (by kernel_rfl) (by kernel_rfl) (fun _ _ _ h => h) (Or.inl ⟨by rfl, ?ya305⟩) (by assumption) ?ra305
    case ya305 => (intro w hSw; (try dsimp only at hSw); go_simp; first | done | (with_reducible rfl))
    try simp only [Act.put, List.setIfInBounds_toArray, List.set_cons_zero, List.set_cons_succ]
    refine takeW (i := 6) (oi := { dst := some 19, op := Op.move (Operand.tmp 2), type := 62, pos := "premove.go:68", after := #[{ on := 2, ground := Ground.guard }], guard := some (2, false) }) (v := ?va306) rfl (by kernel_rfl) (by kernel_rfl) (by kernel_rfl) rfl (fun _ _ _ h => h) (Or.inl ⟨by rfl, ?ya306⟩) (fun _ => by assumption) ?ra306
    case ya306 => (intro w _; go_simp; first | done | (with_reducible rfl))
    try simp only [Act.put, List.setIfInBounds_toArray, List.set_cons_zero, List.set_cons_succ]
    refine takeW (i := 7) (oi := { dst := some 20, op := Op.move (Operand.tmp 9), type := 3, pos := "premove.go:68", after := #[{ on := 2, ground := Ground.guard }], guard := some (2, false) }) (v := ?va307) rfl (by kernel_rfl) (by kernel_rfl) (by kernel_rfl) rfl (fun _ _ _ h => h) (Or.inl ⟨by rfl, ?ya307⟩) (fun _ => by assumption) ?ra307
    case ya307 => (intro w _; go_simp; first | done | (with_reducible rfl))
    try simp only [Act.put, List.setIfInBounds_toArray, List.set_cons_zero, List.set_cons_succ]
    refine takeW (i := 8) (oi := { dst := some 21, op := Op.indexAddr 62 (Operand.tmp 19) (Operand.tmp 20), type := 0, pos := "premove.go:68", after := #[{ on := 6, ground := Ground.data }, { on := 7, ground := Ground.data }, { on := 2, ground := Ground.guard }], guard := some (2, false) }) (v := ?va308) rfl (by kernel_rfl) (by kernel_rfl) (by kernel_rfl) rfl (fun _ _ _ h => h) (Or.inl ⟨by rfl, ?ya308⟩) (fun _ => by assumption) ?ra308
    case ya308 => (intro w _; go_simp; first | done | (with_reducible rfl))
    try simp only [Act.put, List.setIfInBounds_toArray, List.set_cons_zero, List.set_cons_succ]
    refine takeW (i := 9) (oi := { dst := some 22, op := Op.fieldAddr 121 (Operand.tmp 21) 1, type := 0, pos := "premove.go:68", after := #[{ on := 8, ground := Ground.data }, { on := 2, ground := Ground.guard }], guard := some (2, false) }) (v := ?va309) rfl (by kernel_rfl) (by kernel_rfl) (by kernel_rfl) rfl (fun _ _ _ h => h) (Or.inl ⟨by rfl, ?ya309⟩) (fun _ => by assumption) ?ra309
    case ya309 => (intro w _; go_simp; first | done | (with_reducible rfl))
    try simp only [Act.put, List.setIfInBounds_toArray, List.set_cons_zero, List.set_cons_succ]
    refine takeL (i := 10) (oi := { dst := some 23, op := Op.load 42 (Operand.tmp 22), type := 42, pos := "premove.go:68", after := #[{ on := 9, ground := Ground.data }, { on := 2, ground := Ground.guard }], guard := some (2, false) }) (v := ?va310) rfl (by kernel_rfl) (by kernel_rfl) (by kernel_rfl) (by kernel_rfl) rfl (by kernel_rfl) (by kernel_rfl) (fun _ _ _ h => h) (Or.inl ⟨by rfl, ?ya310⟩) (by assumption) ?ra310
    case ya310 => (intro w hSw; (try dsimp only at hSw); go_simp; first | done | (with_reducible rfl))
    try simp only [Act.put, List.setIfInBounds_toArray, List.set_cons_zero, List.set_cons_succ]
    refine readyL (rs := [5]) (by kernel_rfl) (by simp) ?_
    refine (AllReadyL.cons (o := { dst := some 18, op := Op.call { callee := Callee.value (Operand.func 136), args := #[Operand.tmp 16, Operand.tmp 17], argTypes := #[26, 37] }, type := 32, pos := "premove.go:68", after := #[{ on := 3, ground := Ground.data }, { on := 4, ground := Ground.data }, { on := 2, ground := Ground.chain }, { on := 2, ground := Ground.guard }], guard := some (2, false) }) rfl (fun K hK => ?_) AllReadyL.nil)
    go_simp
    refine (Moves_any HSh.out R vp vs ve p vc v0 v1 _ (HR.out.below Lz (Nat.le_refl _)) (HP.out.below Lz (Nat.le_refl _)) HK.out).mono ?_
    rintro e w5 ⟨vm, rfl, hom, hb5⟩
    obtain ⟨am, cm, rfl⟩ := own_form2 hom
    have BR5 := BRz.stays hb5
    have BP5 := BPz.stays hb5
    have BM5 := BMz.stays hb5
    have L5 := below_trans Lz hb5 Lz.size
    have RL5 := RLz.below hb5 (Nat.le_refl _)
    have MA5 := (hb5.cell Gz).trans MAz
    have MB5 := (hb5.cell Gz).trans MBz
    have MC5 := (hb5.cell Gz).trans MCz
    have G5 := Nat.lt_of_lt_of_le Gz hb5.size
    have RM5 := rdM_of_own hom
    clear hb5 hom
    refine hK.out _ _ ⟨BR5.cell 0 rfl, BR5.cell 1 rfl, BR5.cell 2 rfl, BR5.cell 3 rfl, BR5.cell 4 rfl, BR5.cell 5 rfl, BR5.cell 6 rfl, BR5.cell 7 rfl, BR5.cell 8 rfl, BR5.cell 9 rfl, BR5.cell 10 rfl, BP5.cell 0 rfl, BP5.cell 1 rfl, BP5.cell 2 rfl, BP5.cell 3 rfl, BP5.cell 4 rfl, MA5, MB5, MC5⟩ (fun hHeld => ?_)
    clear hK K
    try simp only [Act.put, List.setIfInBounds_toArray, List.set_cons_zero, List.set_cons_succ]
    refine readyL (rs := [11]) (by kernel_rfl) (by simp) ?_
    refine (AllReadyL.cons (o := { dst := some 24, op := Op.call { callee := Callee.value (Operand.func 66), args := #[Operand.tmp 18, Operand.tmp 23], argTypes := #[32, 42] }, type := 4, pos := "premove.go:68", after := #[{ on := 5, ground := Ground.data }, { on := 10, ground := Ground.data }, { on := 5, ground := Ground.chain }, { on := 2, ground := Ground.guard }], guard := some (2, false) }) rfl (fun K hK => ?_) AllReadyL.nil)
    go_simp
    refine (contains_mv _ x.move _ _ RM5).mono ?_
    rintro e w11 ⟨rfl, hb11⟩
    have BR11 := BR5.stays hb11
    have BP11 := BP5.stays hb11
    have BM11 := BM5.stays hb11
    have L11 := below_trans L5 hb11 L5.size
    have RL11 := RL5.below hb11 (Nat.le_refl _)
    have MA11 := (hb11.cell G5).trans MA5
    have MB11 := (hb11.cell G5).trans MB5
    have MC11 := (hb11.cell G5).trans MC5
    have G11 := Nat.lt_of_lt_of_le G5 hb11.size
    clear hb11
    refine hK.out _ _ ⟨BR11.cell 0 rfl, BR11.cell 1 rfl, BR11.cell 2 rfl, BR11.cell 3 rfl, BR11.cell 4 rfl, BR11.cell 5 rfl, BR11.cell 6 rfl, BR11.cell 7 rfl, BR11.cell 8 rfl, BR11.cell 9 rfl, BR11.cell 10 rfl, BP11.cell 0 rfl, BP11.cell 1 rfl, BP11.cell 2 rfl, BP11.cell 3 rfl, BP11.cell 4 rfl, MA11, MB11, MC11⟩ (fun hHeld => ?_)
    clear hK K
    try simp only [Act.put, List.setIfInBounds_toArray, List.set_cons_zero, List.set_cons_succ]
    refine takeW (i := 12) (oi := { dst := some 25, op := Op.unOp UnOp.not 4 (Operand.tmp 24), type := 4, pos := "premove.go:68", after := #[{ on := 11, ground := Ground.data }, { on := 2, ground := Ground.guard }], guard := some (2, false) }) (v := ?va311) rfl (by kernel_rfl) (by kernel_rfl) (by kernel_rfl) rfl (fun _ _ _ h => h) (Or.inl ⟨by rfl, ?ya311⟩) (fun _ => by assumption) ?ra311
    case ya311 => (intro w _; go_simp; first | done | (with_reducible rfl))
    try simp only [Act.put, List.setIfInBounds_toArray, List.set_cons_zero, List.set_cons_succ]
    refine takeW (i := 13) (oi := { dst := some 26, op := Op.pick (Operand.tmp 15) (Operand.const (Value.bool true)) (Operand.tmp 25), type := 4, pos := "premove.go:68", after := #[{ on := 2, ground := Ground.data }, { on := 12, ground := Ground.data }], guard := none }) (v := ?va312) rfl (by kernel_rfl) (by kernel_rfl) (by kernel_rfl) rfl (fun _ _ _ h => h) (Or.inl ⟨by rfl, ?ya312⟩) (fun _ => by assumption) ?ra312
    case ya312 => (intro w _; go_simp; first | done | (with_reducible rfl))
    try simp only [Act.put, List.setIfInBounds_toArray, List.set_cons_zero, List.set_cons_succ]
    refine doneL (by kernel_rfl) ?_ _
    refine NoPanic.normal ?_
    rw [hmem]
    have HX := Lib.hid (And.intro BR11 (And.intro BP11 (And.intro BM11 (And.intro L11 (And.intro RL11 (And.intro MA11 (And.intro MB11 (And.intro MC11 G11))))))))
    clear BR11 BP11 BM11 L11 RL11 MA11 MB11 MC11 BRz BPz BMz Lz RLz MAz MBz MCz BR5 BP5 BM5 L5 RL5 MA5 MB5 MC5 RM5 hHeld
    go_upto_region 4 with (fail)
    generalize w11 = wr4 at *
    obtain ⟨BRx, BPx, BMx, Lx, RLx, MAx, MBx, MCx, Gx⟩ := HX.out
    clear HX
    have BRy : Box wr4.drew (w.heap.size) [.string R.name, .int .i64 R.width, .int .i64 R.height, vp, vs, .bool R.falls, .bool R.keeps, ve, .int .i64 R.blocked, .int .i64 R.quiet, .int .i64 R.rept] 26 := BRx
    have BPy : Box wr4.drew (w.heap.size + 1) [vc, v0, v1, .int .i64 p.turn, .int .i64 p.quiet] 37 := BPx
    have BMy : Box wr4.drew (w.heap.size + 1 + 1) [.int .i64 0, .int .i64 0, .int .i64 0] 42 := BMx
    have Ly : Below w.heap.size w wr4.drew := below_drew' Lx
    have RLy : RdL premEl wr4.drew (.slice (some ⟨g, o, none⟩) l.length c) l := RLx.below (below_drew' (Below.refl _ _)) (Nat.le_refl _)
    have MAy : wr4.drew.cell? ⟨g, o + j * 4 + 1, none⟩ = some (.int .i64 x.move.src) := MAx
    have MBy : wr4.drew.cell? ⟨g, o + j * 4 + 2, none⟩ = some (.int .i64 x.move.dst) := MBx
    have MCy : wr4.drew.cell? ⟨g, o + j * 4 + 3, none⟩ = some (.int .i64 x.move.piece) := MCx
    have Gy : g < wr4.drew.heap.size := Gx
    clear BRx BPx BMx Lx RLx MAx MBx MCx Gx
    refine wp_region_noPanic ?_
    refine beginL (S := (fun w' => w'.cell? ⟨g, o + j * 4 + 1, none⟩ = some (.int .i64 x.move.src) ∧ w'.cell? ⟨g, o + j * 4 + 2, none⟩ = some (.int .i64 x.move.dst) ∧ w'.cell? ⟨g, o + j * 4 + 3, none⟩ = some (.int .i64 x.move.piece))) (L := [14]) (by kernel_rfl) ⟨MAy, MBy, MCy⟩ (fun hHeld => ?_)
    refine takeW (i := 0) (oi := { dst := some 32, op := Op.move (Operand.tmp 2), type := 62, pos := "premove.go:71", after := #[], guard := none }) (v := ?va201) rfl (by kernel_rfl) (by kernel_rfl) (by kernel_rfl) rfl (fun _ _ _ h => h) (Or.inl ⟨by rfl, ?ya201⟩) (fun _ => by assumption) ?ra201
    case ya201 => (intro w _; go_simp; first | done | (with_reducible rfl))
    try simp only [Act.put, List.setIfInBounds_toArray, List.set_cons_zero, List.set_cons_succ]
    refine takeW (i := 1) (oi := { dst := some 33, op := Op.move (Operand.tmp 9), type := 3, pos := "premove.go:71", after := #[], guard := none }) (v := ?va202) rfl (by kernel_rfl) (by kernel_rfl) (by kernel_rfl) rfl (fun _ _ _ h => h) (Or.inl ⟨by rfl, ?ya202⟩) (fun _ => by assumption) ?ra202
    case ya202 => (intro w _; go_simp; first | done | (with_reducible rfl))
    try simp only [Act.put, List.setIfInBounds_toArray, List.set_cons_zero, List.set_cons_succ]
    refine takeW (i := 5) (oi := { dst := some 37, op := Op.move (Operand.tmp 2), type := 62, pos := "premove.go:71", after := #[], guard := none }) (v := ?va203) rfl (by kernel_rfl) (by kernel_rfl) (by kernel_rfl) rfl (fun _ _ _ h => h) (Or.inl ⟨by rfl, ?ya203⟩) (fun _ => by assumption) ?ra203
    case ya203 => (intro w _; go_simp; first | done | (with_reducible rfl))
    try simp only [Act.put, List.setIfInBounds_toArray, List.set_cons_zero, List.set_cons_succ]
    refine takeW (i := 6) (oi := { dst := some 38, op := Op.move (Operand.tmp 9), type := 3, pos := "premove.go:71", after := #[], guard := none }) (v := ?va204) rfl (by kernel_rfl) (by kernel_rfl) (by kernel_rfl) rfl (fun _ _ _ h => h) (Or.inl ⟨by rfl, ?ya204⟩) (fun _ => by assumption) ?ra204
    case ya204 => (intro w _; go_simp; first | done | (with_reducible rfl))
    try simp only [Act.put, List.setIfInBounds_toArray, List.set_cons_zero, List.set_cons_succ]
    refine takeW (i := 8) (oi := { dst := some 40, op := Op.move (Operand.tmp 2), type := 62, pos := "premove.go:71", after := #[], guard := none }) (v := ?va205) rfl (by kernel_rfl) (by kernel_rfl) (by kernel_rfl) rfl (fun _ _ _ h => h) (Or.inl ⟨by rfl, ?ya205⟩) (fun _ => by assumption) ?ra205
    case ya205 => (intro w _; go_simp; first | done | (with_reducible rfl))
    try simp only [Act.put, List.setIfInBounds_toArray, List.set_cons_zero, List.set_cons_succ]
    refine takeW (i := 9) (oi := { dst := some 41, op := Op.move (Operand.tmp 9), type := 3, pos := "premove.go:71", after := #[], guard := none }) (v := ?va206) rfl (by kernel_rfl) (by kernel_rfl) (by kernel_rfl) rfl (fun _ _ _ h => h) (Or.inl ⟨by rfl, ?ya206⟩) (fun _ => by assumption) ?ra206
    case ya206 => (intro w _; go_simp; first | done | (with_reducible rfl))
    try simp only [Act.put, List.setIfInBounds_toArray, List.set_cons_zero, List.set_cons_succ]
    refine takeW (i := 2) (oi := { dst := some 34, op := Op.indexAddr 62 (Operand.tmp 32) (Operand.tmp 33), type := 0, pos := "premove.go:71", after := #[{ on := 0, ground := Ground.data }, { on := 1, ground := Ground.data }], guard := none }) (v := ?va207) rfl (by kernel_rfl) (by kernel_rfl) (by kernel_rfl) rfl (fun _ _ _ h => h) (Or.inl ⟨by rfl, ?ya207⟩) (fun _ => by assumption) ?ra207
    case ya207 => (intro w _; go_simp; first | done | (with_reducible rfl))
    try simp only [Act.put, List.setIfInBounds_toArray, List.set_cons_zero, List.set_cons_succ]
    refine takeW (i := 7) (oi := { dst := some 39, op := Op.slice 62 (Operand.tmp 37) none (some (Operand.tmp 38)) none, type := 62, pos := "premove.go:71", after := #[{ on := 5, ground := Ground.data }, { on := 6, ground := Ground.data }], guard := none }) (v := ?va208) rfl (by kernel_rfl) (by kernel_rfl) (by kernel_rfl) rfl (fun _ _ _ h => h) (Or.inl ⟨by rfl, ?ya208⟩) (fun _ => by assumption) ?ra208
    case ya208 => (intro w _; go_simp; first | done | (with_reducible rfl))
    try simp only [Act.put, List.setIfInBounds_toArray, List.set_cons_zero, List.set_cons_succ]
    refine takeW (i := 10) (oi := { dst := some 42, op := Op.binOp BinOp.add 3 (Operand.tmp 41) (Operand.const (Value.int IntKind.i64 1)) 3, type := 3, pos := "premove.go:71", after := #[{ on := 9, ground := Ground.data }], guard := none }) (v := ?va209) rfl (by kernel_rfl) (by kernel_rfl) (by kernel_rfl) rfl (fun _ _ _ h => h) (Or.inl ⟨by rfl, ?ya209⟩) (fun _ => by assumption) ?ra209
    case ya209 => (intro w _; go_simp; first | done | (with_reducible rfl))
    try simp only [Act.put, List.setIfInBounds_toArray, List.set_cons_zero, List.set_cons_succ]
    refine takeW (i := 3) (oi := { dst := some 35, op := Op.fieldAddr 121 (Operand.tmp 34) 1, type := 0, pos := "premove.go:71", after := #[{ on := 2, ground := Ground.data }], guard := none }) (v := ?va210) rfl (by kernel_rfl) (by kernel_rfl) (by kernel_rfl) rfl (fun _ _ _ h => h) (Or.inl ⟨by rfl, ?ya210⟩) (fun _ => by assumption) ?ra210
    case ya210 => (intro w _; go_simp; first | done | (with_reducible rfl))
    try simp only [Act.put, List.setIfInBounds_toArray, List.set_cons_zero, List.set_cons_succ]
    refine takeW (i := 11) (oi := { dst := some 43, op := Op.slice 62 (Operand.tmp 40) (some (Operand.tmp 42)) none none, type := 62, pos := "premove.go:71", after := #[{ on := 8, ground := Ground.data }, { on := 10, ground := Ground.data }], guard := none }) (v := ?va211) rfl (by kernel_rfl) (by kernel_rfl) (by kernel_rfl) rfl (fun _ _ _ h => h) (Or.inl ⟨by rfl, ?ya211⟩) (fun _ => by assumption) ?ra211
    case ya211 => (intro w _; go_simp; first | done | (with_reducible rfl))
    try simp only [Act.put, List.setIfInBounds_toArray, List.set_cons_zero, List.set_cons_succ]
    refine takeL (i := 4) (oi := { dst := some 36, op := Op.load 42 (Operand.tmp 35), type := 42, pos := "premove.go:71", after := #[{ on := 3, ground := Ground.data }], guard := none }) (v := ?va212) rfl (by kernel_rfl) (by kernel_rfl) (by kernel_rfl) (by kernel_rfl) rfl (by kernel_rfl) (by kernel_rfl) (fun _ _ _ h => h) (Or.inl ⟨by rfl, ?ya212⟩) (by assumption) ?ra212
    case ya212 => (intro w hSw; (try dsimp only at hSw); go_simp; first | done | (with_reducible rfl))
    try simp only [Act.put, List.setIfInBounds_toArray, List.set_cons_zero, List.set_cons_succ]
    refine readyL (rs := [12]) (by kernel_rfl) (by simp) ?_
    refine (AllReadyL.cons (o := { dst := some 44, op := Op.buildSlice 214 2 #[(0, Operand.tmp 39), (1, Operand.tmp 43)], type := 214, pos := "premove.go:71", after := #[{ on := 7, ground := Ground.data }, { on := 11, ground := Ground.data }], guard := none }) rfl (fun K hK => ?_) AllReadyL.nil)
    go_simp
    refine K_world ?_
    intro w12 e12
    have hb12 : Below wr4.drew.heap.size wr4.drew w12 := by rw [e12]; exact (Below.refl _ _).alloc (Nat.le_refl _) _
    have RII : RdII w12 (.slice (some ⟨wr4.drew.heap.size, 0, none⟩) 2 2) (.slice (some ⟨g, o, none⟩) j c) (.slice (subAddr (some ⟨g, o, none⟩) c (j + 1) 4) (l.length - (j + 1)) (c - (j + 1))) := ⟨_, 0, 2, rfl, by rw [e12]; simp, by rw [e12]; exact (Box.new' _ _ [.slice (some ⟨g, o, none⟩) j c, .slice (subAddr (some ⟨g, o, none⟩) c (j + 1) 4) (l.length - (j + 1)) (c - (j + 1))] _ rfl).cell 0 rfl, by rw [e12]; exact (Box.new' _ _ [.slice (some ⟨g, o, none⟩) j c, .slice (subAddr (some ⟨g, o, none⟩) c (j + 1) 4) (l.length - (j + 1)) (c - (j + 1))] _ rfl).cell 1 rfl⟩
    clear e12
    have BR12 := BRy.stays hb12
    have BP12 := BPy.stays hb12
    have BM12 := BMy.stays hb12
    have L12 := below_trans Ly hb12 Ly.size
    have RL12 := RLy.below hb12 (Nat.le_refl _)
    have MA12 := (hb12.cell Gy).trans MAy
    have MB12 := (hb12.cell Gy).trans MBy
    have MC12 := (hb12.cell Gy).trans MCy
    have G12 := Nat.lt_of_lt_of_le Gy hb12.size
    clear hb12
    refine hK.out _ _ ⟨MA12, MB12, MC12⟩ (fun hHeld => ?_)
    clear hK K
    try simp only [Act.put, List.setIfInBounds_toArray, List.set_cons_zero, List.set_cons_succ]
    refine readyL (rs := [13]) (by kernel_rfl) (by simp) ?_
    refine (AllReadyL.cons (o := { dst := some 45, op := Op.call { callee := Callee.value (Operand.func 137), args := #[Operand.tmp 44], argTypes := #[214] }, type := 62, pos := "premove.go:71", after := #[{ on := 12, ground := Ground.data }], guard := none }) rfl (fun K hK => ?_) AllReadyL.nil)
    go_simp
    refine (Concat_pm _ _ _ (l.take j) (l.drop (j + 1)) _ RII (RL12.take j (by omega)) (RL12.drop (j + 1) (by omega)) (by simp; omega) (by simp; omega)).mono ?_
    rintro e w13 ⟨vx, rfl, ho13, hb13⟩
    rw [← HRS.out] at ho13
    obtain ⟨a13, c13, rfl⟩ := own_form2 ho13
    have BR13 := BR12.stays hb13
    have BP13 := BP12.stays hb13
    have BM13 := BM12.stays hb13
    have L13 := below_trans L12 hb13 L12.size
    have RL13 := RL12.below hb13 (Nat.le_refl _)
    have MA13 := (hb13.cell G12).trans MA12
    have MB13 := (hb13.cell G12).trans MB12
    have MC13 := (hb13.cell G12).trans MC12
    have G13 := Nat.lt_of_lt_of_le G12 hb13.size
    have O13 := ho13
    have Z12 := BM12.lt
    clear hb13 ho13
    refine hK.out _ _ ⟨MA13, MB13, MC13⟩ (fun hHeld => ?_)
    clear hK K
    try simp only [Act.put, List.setIfInBounds_toArray, List.set_cons_zero, List.set_cons_succ]
    refine readyL (rs := [14]) (by kernel_rfl) (by simp) ?_
    refine (AllReadyL.late (o := { dst := none, op := Op.store 42 (Operand.tmp 6) (Operand.tmp 36), type := 0, pos := "premove.go:71", after := #[{ on := 4, ground := Ground.data }, { on := 13, ground := Ground.chain }, { on := 0, ground := Ground.phase }, { on := 1, ground := Ground.phase }, { on := 2, ground := Ground.phase }, { on := 3, ground := Ground.phase }, { on := 4, ground := Ground.phase }, { on := 5, ground := Ground.textOnly Departure.lateStores }, { on := 6, ground := Ground.textOnly Departure.lateStores }, { on := 7, ground := Ground.textOnly Departure.lateStoresUnsure }, { on := 8, ground := Ground.textOnly Departure.lateStores }, { on := 9, ground := Ground.textOnly Departure.lateStores }, { on := 10, ground := Ground.textOnly Departure.lateStores }, { on := 11, ground := Ground.textOnly Departure.lateStoresUnsure }, { on := 12, ground := Ground.textOnly Departure.lateStores }, { on := 13, ground := Ground.textOnly Departure.lateStoresUnsure }], guard := none }) rfl (by kernel_rfl) (fun K hK => ?_) AllReadyL.nil)
    have d0 := BM13.cell 0 rfl
    have d1 := BM13.cell 1 rfl
    have d2 := BM13.cell 2 rfl
    have d0f := BM13.frozen 0
    have d1f := BM13.frozen 1
    have d2f := BM13.frozen 2
    go_simp
    refine K_world ?_
    intro w14 e14
    have E14 : w14 = w13.setCells (w.heap.size + 1 + 1) 0 [.int .i64 x.move.src, .int .i64 x.move.dst, .int .i64 x.move.piece] := e14
    clear e14 d0 d1 d2 d0f d1f d2f
    refine hK.out _ _ ?_
    clear hK K
    try simp only [Act.put, List.setIfInBounds_toArray, List.set_cons_zero, List.set_cons_succ]
    refine takeW (i := 15) (oi := { dst := some 7, op := Op.assign (Operand.const (Value.bool true)), type := 4, pos := "premove.go:71", after := #[{ on := 14, ground := Ground.chain }, { on := 0, ground := Ground.phase }, { on := 1, ground := Ground.phase }, { on := 2, ground := Ground.phase }, { on := 3, ground := Ground.phase }, { on := 4, ground := Ground.phase }, { on := 5, ground := Ground.textOnly Departure.lateStores }, { on := 6, ground := Ground.textOnly Departure.lateStores }, { on := 7, ground := Ground.textOnly Departure.lateStoresUnsure }, { on := 8, ground := Ground.textOnly Departure.lateStores }, { on := 9, ground := Ground.textOnly Departure.lateStores }, { on := 10, ground := Ground.textOnly Departure.lateStores }, { on := 11, ground := Ground.textOnly Departure.lateStoresUnsure }, { on := 12, ground := Ground.textOnly Departure.lateStores }, { on := 13, ground := Ground.textOnly Departure.lateStoresUnsure }, { on := 14, ground := Ground.phase }], guard := none }) (v := ?va213) rfl (by kernel_rfl) (by kernel_rfl) (by kernel_rfl) rfl (fun _ _ _ h => h) (Or.inl ⟨by rfl, ?ya213⟩) (fun he => by cases he) ?ra213
    case ya213 => (intro w _; go_simp; first | done | (with_reducible rfl))
    try simp only [Act.put, List.setIfInBounds_toArray, List.set_cons_zero, List.set_cons_succ]
    refine takeW (i := 16) (oi := { dst := some 8, op := Op.assign (Operand.tmp 45), type := 62, pos := "premove.go:71", after := #[{ on := 13, ground := Ground.data }, { on := 15, ground := Ground.chain }, { on := 0, ground := Ground.phase }, { on := 1, ground := Ground.phase }, { on := 2, ground := Ground.phase }, { on := 3, ground := Ground.phase }, { on := 4, ground := Ground.phase }, { on := 5, ground := Ground.phase }, { on := 6, ground := Ground.phase }, { on := 7, ground := Ground.phase }, { on := 8, ground := Ground.phase }, { on := 9, ground := Ground.phase }, { on := 10, ground := Ground.phase }, { on := 11, ground := Ground.phase }, { on := 12, ground := Ground.phase }, { on := 13, ground := Ground.phase }, { on := 14, ground := Ground.phase }, { on := 15, ground := Ground.phase }], guard := none }) (v := ?va214) rfl (by kernel_rfl) (by kernel_rfl) (by kernel_rfl) rfl (fun _ _ _ h => h) (Or.inl ⟨by rfl, ?ya214⟩) (fun he => by cases he) ?ra214
    case ya214 => (intro w _; go_simp; first | done | (with_reducible rfl))
    try simp only [Act.put, List.setIfInBounds_toArray, List.set_cons_zero, List.set_cons_succ]
    refine doneL (by kernel_rfl) ?_ _
    refine NoPanic.normal ?_
    have BM14 := BM13.store (vs := [.int .i64 x.move.src, .int .i64 x.move.dst, .int .i64 x.move.piece]) rfl
    have O14 := own_setCells O13 Z12 0 [.int .i64 x.move.src, .int .i64 x.move.dst, .int .i64 x.move.piece]
    have L14 := below_setCells L13 (show w.heap.size ≤ w.heap.size + 1 + 1 by omega) 0 [.int .i64 x.move.src, .int .i64 x.move.dst, .int .i64 x.move.piece]
    rw [← E14] at BM14 O14 L14
    have HBM14 := Lib.hid BM14
    have HO14 := Lib.hid O14
    have HL14 := Lib.hid L14
    have HL12 := Lib.hid L12
    clear BM14 O14 L14 E14 L12
    go_wp2_with fail
    exact bodyPost_ret (results_c2 rfl (by rfl) (by rfl) (by rfl) HBM14.out Try.underlying42 (by rfl) (by kernel_rfl)) rfl ⟨_, by rw [HE1.out, HE2.out]; rfl, by rw [HE3.out]; exact own_base HO14.out HL12.out.size, HL14.out⟩
  · have hmem : decide (x.move ∈ movesZ R p) = false := by simpa using hm
    have HE1 : Hid (nextOk R p l = false) := Lib.hid (by rw [hokd, hmem])
    have HE2 : Hid (nextMv R p l = ⟨0, 0, 0⟩) := Lib.hid (by unfold nextMv; rw [HE1.out]; rfl)
    have HE3 : Hid (nextRest R p l = withoutZ l p.turn) := Lib.hid (by unfold nextRest; rw [HE1.out]; rfl)
    clear hm hokd HMv HRs
    go_upto_region 2 with (fail)
    generalize w1 = wq at *
    have BRz : Box wq.drew (w.heap.size) [.string R.name, .int .i64 R.width, .int .i64 R.height, vp, vs, .bool R.falls, .bool R.keeps, ve, .int .i64 R.blocked, .int .i64 R.quiet, .int .i64 R.rept] 26 := HX0'.out
    have BPz : Box wq.drew (w.heap.size + 1) [vc, v0, v1, .int .i64 p.turn, .int .i64 p.quiet] 37 := HX1'.out
    have BMz : Box wq.drew (w.heap.size + 1 + 1) [.int .i64 0, .int .i64 0, .int .i64 0] 42 := HX2'.out
    have Lz : Below w.heap.size w wq.drew := below_drew' HB1.out
    have RLz : RdL premEl wq.drew (.slice (some ⟨g, o, none⟩) l.length c) l := HL1.out.below (below_drew' (Below.refl _ _)) (Nat.le_refl _)
    have MAz : wq.drew.cell? ⟨g, o + j * 4 + 1, none⟩ = some (.int .i64 x.move.src) := m1
    have MBz : wq.drew.cell? ⟨g, o + j * 4 + 2, none⟩ = some (.int .i64 x.move.dst) := m2
    have MCz : wq.drew.cell? ⟨g, o + j * 4 + 3, none⟩ = some (.int .i64 x.move.piece) := m3
    have Gz : g < wq.drew.heap.size := hg
    clear HX0' HX1' HX2' HB1 HL1 m1 m2 m3 hg
    refine wp_region_noPanic ?_
    refine beginL (S := (fun w' => w'.cell? ⟨w.heap.size, 0, none⟩ = some (.string R.name) ∧ w'.cell? ⟨w.heap.size, 1, none⟩ = some (.int .i64 R.width) ∧ w'.cell? ⟨w.heap.size, 2, none⟩ = some (.int .i64 R.height) ∧ w'.cell? ⟨w.heap.size, 3, none⟩ = some vp ∧ w'.cell? ⟨w.heap.size, 4, none⟩ = some vs ∧ w'.cell? ⟨w.heap.size, 5, none⟩ = some (.bool R.falls) ∧ w'.cell? ⟨w.heap.size, 6, none⟩ = some (.bool R.keeps) ∧ w'.cell? ⟨w.heap.size, 7, none⟩ = some ve ∧ w'.cell? ⟨w.heap.size, 8, none⟩ = some (.int .i64 R.blocked) ∧ w'.cell? ⟨w.heap.size, 9, none⟩ = some (.int .i64 R.quiet) ∧ w'.cell? ⟨w.heap.size, 10, none⟩ = some (.int .i64 R.rept) ∧ w'.cell? ⟨w.heap.size + 1, 0, none⟩ = some vc ∧ w'.cell? ⟨w.heap.size + 1, 1, none⟩ = some v0 ∧ w'.cell? ⟨w.heap.size + 1, 2, none⟩ = some v1 ∧ w'.cell? ⟨w.heap.size + 1, 3, none⟩ = some (.int .i64 p.turn) ∧ w'.cell? ⟨w.heap.size + 1, 4, none⟩ = some (.int .i64 p.quiet) ∧ w'.cell? ⟨g, o + j * 4 + 1, none⟩ = some (.int .i64 x.move.src) ∧ w'.cell? ⟨g, o + j * 4 + 2, none⟩ = some (.int .i64 x.move.dst) ∧ w'.cell? ⟨g, o + j * 4 + 3, none⟩ = some (.int .i64 x.move.piece))) (L := []) (by kernel_rfl) ⟨BRz.cell 0 rfl, BRz.cell 1 rfl, BRz.cell 2 rfl, BRz.cell 3 rfl, BRz.cell 4 rfl, BRz.cell 5 rfl, BRz.cell 6 rfl, BRz.cell 7 rfl, BRz.cell 8 rfl, BRz.cell 9 rfl, BRz.cell 10 rfl, BPz.cell 0 rfl, BPz.cell 1 rfl, BPz.cell 2 rfl, BPz.cell 3 rfl, BPz.cell 4 rfl, MAz, MBz, MCz⟩ (fun hHeld => ?_)
    refine takeW (i := 0) (oi := { dst := some 13, op := Op.move (Operand.tmp 9), type := 3, pos := "premove.go:68", after := #[], guard := none }) (v := ?va101) rfl (by kernel_rfl) (by kernel_rfl) (by kernel_rfl) rfl (fun _ _ _ h => h) (Or.inl ⟨by rfl, ?ya101⟩) (fun _ => by assumption) ?ra101
    case ya101 => (intro w _; go_simp; first | done | (with_reducible rfl))
    try simp only [Act.put, List.setIfInBounds_toArray, List.set_cons_zero, List.set_cons_succ]
    refine takeW (i := 1) (oi := { dst := some 14, op := Op.binOp BinOp.lss 3 (Operand.tmp 13) (Operand.const (Value.int IntKind.i64 0)) 3, type := 4, pos := "premove.go:68", after := #[{ on := 0, ground := Ground.data }], guard := none }) (v := ?va102) rfl (by kernel_rfl) (by kernel_rfl) (by kernel_rfl) rfl (fun _ _ _ h => h) (Or.inl ⟨by rfl, ?ya102⟩) (fun _ => by assumption) ?ra102
    case ya102 => (intro w _; go_simp; first | done | (with_reducible rfl))
    try simp only [Act.put, List.setIfInBounds_toArray, List.set_cons_zero, List.set_cons_succ]
    refine takeW (i := 2) (oi := { dst := some 15, op := Op.move (Operand.tmp 14), type := 4, pos := "premove.go:68", after := #[{ on := 1, ground := Ground.data }], guard := none }) (v := ?va103) rfl (by kernel_rfl) (by kernel_rfl) (by kernel_rfl) rfl (fun _ _ _ h => h) (Or.inl ⟨by rfl, ?ya103⟩) (fun _ => by assumption) ?ra103
    case ya103 => (intro w _; go_simp; first | done | (with_reducible rfl))
    try simp only [Act.put, List.setIfInBounds_toArray, List.set_cons_zero, List.set_cons_succ]
    refine takeL (i := 3) (oi := { dst := some 16, op := Op.load 26 (Operand.tmp 3), type := 26, pos := "premove.go:68", after := #[{ on := 2, ground := Ground.guard }], guard := some (2, false) }) (v := ?va104) rfl (by kernel_rfl) (by kernel_rfl) (by kernel_rfl) (by kernel_rfl) rfl (by kernel_rfl) (by kernel_rfl) (fun _ _ _ h => h) (Or.inl ⟨by rfl, ?ya104⟩) (by assumption) ?ra104
    case ya104 => (intro w hSw; (try dsimp only at hSw); go_simp; first | done | (with_reducible rfl))
    try simp only [Act.put, List.setIfInBounds_toArray, List.set_cons_zero, List.set_cons_succ]
    refine takeL (i := 4) (oi := { dst := some 17, op := Op.load 37 (Operand.tmp 4), type := 37, pos := "premove.go:68", after := #[{ on := 2, ground := Ground.guard }], guard := some (2, false) }) (v := ?va105) rfl (by kernel_rfl) (by kernel_rfl) (by kernel_rfl) (by kernel_rfl) rfl (by kernel_rfl) (by kernel_rfl) (fun _ _ _ h => h) (Or.inl ⟨by rfl, ?ya105⟩) (by assumption) ?ra105
    case ya105 => (intro w hSw; (try dsimp only at hSw); go_simp; first | done | (with_reducible rfl))
    try simp only [Act.put, List.setIfInBounds_toArray, List.set_cons_zero, List.set_cons_succ]
    refine takeW (i := 6) (oi := { dst := some 19, op := Op.move (Operand.tmp 2), type := 62, pos := "premove.go:68", after := #[{ on := 2, ground := Ground.guard }], guard := some (2, false) }) (v := ?va106) rfl (by kernel_rfl) (by kernel_rfl) (by kernel_rfl) rfl (fun _ _ _ h => h) (Or.inl ⟨by rfl, ?ya106⟩) (fun _ => by assumption) ?ra106
    case ya106 => (intro w _; go_simp; first | done | (with_reducible rfl))
    try simp only [Act.put, List.setIfInBounds_toArray, List.set_cons_zero, List.set_cons_succ]
    refine takeW (i := 7) (oi := { dst := some 20, op := Op.move (Operand.tmp 9), type := 3, pos := "premove.go:68", after := #[{ on := 2, ground := Ground.guard }], guard := some (2, false) }) (v := ?va107) rfl (by kernel_rfl) (by kernel_rfl) (by kernel_rfl) rfl (fun _ _ _ h => h) (Or.inl ⟨by rfl, ?ya107⟩) (fun _ => by assumption) ?ra107
    case ya107 => (intro w _; go_simp; first | done | (with_reducible rfl))
    try simp only [Act.put, List.setIfInBounds_toArray, List.set_cons_zero, List.set_cons_succ]
    refine takeW (i := 8) (oi := { dst := some 21, op := Op.indexAddr 62 (Operand.tmp 19) (Operand.tmp 20), type := 0, pos := "premove.go:68", after := #[{ on := 6, ground := Ground.data }, { on := 7, ground := Ground.data }, { on := 2, ground := Ground.guard }], guard := some (2, false) }) (v := ?va108) rfl (by kernel_rfl) (by kernel_rfl) (by kernel_rfl) rfl (fun _ _ _ h => h) (Or.inl ⟨by rfl, ?ya108⟩) (fun _ => by assumption) ?ra108
    case ya108 => (intro w _; go_simp; first | done | (with_reducible rfl))
    try simp only [Act.put, List.setIfInBounds_toArray, List.set_cons_zero, List.set_cons_succ]
    refine takeW (i := 9) (oi := { dst := some 22, op := Op.fieldAddr 121 (Operand.tmp 21) 1, type := 0, pos := "premove.go:68", after := #[{ on := 8, ground := Ground.data }, { on := 2, ground := Ground.guard }], guard := some (2, false) }) (v := ?va109) rfl (by kernel_rfl) (by kernel_rfl) (by kernel_rfl) rfl (fun _ _ _ h => h) (Or.inl ⟨by rfl, ?ya109⟩) (fun _ => by assumption) ?ra109
    case ya109 => (intro w _; go_simp; first | done | (with_reducible rfl))
    try simp only [Act.put, List.setIfInBounds_toArray, List.set_cons_zero, List.set_cons_succ]
    refine takeL (i := 10) (oi := { dst := some 23, op := Op.load 42 (Operand.tmp 22), type := 42, pos := "premove.go:68", after := #[{ on := 9, ground := Ground.data }, { on := 2, ground := Ground.guard }], guard := some (2, false) }) (v := ?va110) rfl (by kernel_rfl) (by kernel_rfl) (by kernel_rfl) (by kernel_rfl) rfl (by kernel_rfl) (by kernel_rfl) (fun _ _ _ h => h) (Or.inl ⟨by rfl, ?ya110⟩) (by assumption) ?ra110
    case ya110 => (intro w hSw; (try dsimp only at hSw); go_simp; first | done | (with_reducible rfl))
    try simp only [Act.put, List.setIfInBounds_toArray, List.set_cons_zero, List.set_cons_succ]
    refine readyL (rs := [5]) (by kernel_rfl) (by simp) ?_
    refine (AllReadyL.cons (o := { dst := some 18, op := Op.call { callee := Callee.value (Operand.func 136), args := #[Operand.tmp 16, Operand.tmp 17], argTypes := #[26, 37] }, type := 32, pos := "premove.go:68", after := #[{ on := 3, ground := Ground.data }, { on := 4, ground := Ground.data }, { on := 2, ground := Ground.chain }, { on := 2, ground := Ground.guard }], guard := some (2, false) }) rfl (fun K hK => ?_) AllReadyL.nil)
    go_simp
    refine (Moves_any HSh.out R vp vs ve p vc v0 v1 _ (HR.out.below Lz (Nat.le_refl _)) (HP.out.below Lz (Nat.le_refl _)) HK.out).mono ?_
    rintro e w5 ⟨vm, rfl, hom, hb5⟩
    obtain ⟨am, cm, rfl⟩ := own_form2 hom
    have BR5 := BRz.stays hb5
    have BP5 := BPz.stays hb5
    have BM5 := BMz.stays hb5
    have L5 := below_trans Lz hb5 Lz.size
    have RL5 := RLz.below hb5 (Nat.le_refl _)
    have MA5 := (hb5.cell Gz).trans MAz
    have MB5 := (hb5.cell Gz).trans MBz
    have MC5 := (hb5.cell Gz).trans MCz
    have G5 := Nat.lt_of_lt_of_le Gz hb5.size
    have RM5 := rdM_of_own hom
    clear hb5 hom
    refine hK.out _ _ ⟨BR5.cell 0 rfl, BR5.cell 1 rfl, BR5.cell 2 rfl, BR5.cell 3 rfl, BR5.cell 4 rfl, BR5.cell 5 rfl, BR5.cell 6 rfl, BR5.cell 7 rfl, BR5.cell 8 rfl, BR5.cell 9 rfl, BR5.cell 10 rfl, BP5.cell 0 rfl, BP5.cell 1 rfl, BP5.cell 2 rfl, BP5.cell 3 rfl, BP5.cell 4 rfl, MA5, MB5, MC5⟩ (fun hHeld => ?_)
    clear hK K
    try simp only [Act.put, List.setIfInBounds_toArray, List.set_cons_zero, List.set_cons_succ]
    refine readyL (rs := [11]) (by kernel_rfl) (by simp) ?_
    refine (AllReadyL.cons (o := { dst := some 24, op := Op.call { callee := Callee.value (Operand.func 66), args := #[Operand.tmp 18, Operand.tmp 23], argTypes := #[32, 42] }, type := 4, pos := "premove.go:68", after := #[{ on := 5, ground := Ground.data }, { on := 10, ground := Ground.data }, { on := 5, ground := Ground.chain }, { on := 2, ground := Ground.guard }], guard := some (2, false) }) rfl (fun K hK => ?_) AllReadyL.nil)
    go_simp
    refine (contains_mv _ x.move _ _ RM5).mono ?_
    rintro e w11 ⟨rfl, hb11⟩
    have BR11 := BR5.stays hb11
    have BP11 := BP5.stays hb11
    have BM11 := BM5.stays hb11
    have L11 := below_trans L5 hb11 L5.size
    have RL11 := RL5.below hb11 (Nat.le_refl _)
    have MA11 := (hb11.cell G5).trans MA5
    have MB11 := (hb11.cell G5).trans MB5
    have MC11 := (hb11.cell G5).trans MC5
    have G11 := Nat.lt_of_lt_of_le G5 hb11.size
    clear hb11
    refine hK.out _ _ ⟨BR11.cell 0 rfl, BR11.cell 1 rfl, BR11.cell 2 rfl, BR11.cell 3 rfl, BR11.cell 4 rfl, BR11.cell 5 rfl, BR11.cell 6 rfl, BR11.cell 7 rfl, BR11.cell 8 rfl, BR11.cell 9 rfl, BR11.cell 10 rfl, BP11.cell 0 rfl, BP11.cell 1 rfl, BP11.cell 2 rfl, BP11.cell 3 rfl, BP11.cell 4 rfl, MA11, MB11, MC11⟩ (fun hHeld => ?_)
    clear hK K
    try simp only [Act.put, List.setIfInBounds_toArray, List.set_cons_zero, List.set_cons_succ]
    refine takeW (i := 12) (oi := { dst := some 25, op := Op.unOp UnOp.not 4 (Operand.tmp 24), type := 4, pos := "premove.go:68", after := #[{ on := 11, ground := Ground.data }, { on := 2, ground := Ground.guard }], guard := some (2, false) }) (v := ?va111) rfl (by kernel_rfl) (by kernel_rfl) (by kernel_rfl) rfl (fun _ _ _ h => h) (Or.inl ⟨by rfl, ?ya111⟩) (fun _ => by assumption) ?ra111
    case ya111 => (intro w _; go_simp; first | done | (with_reducible rfl))
    try simp only [Act.put, List.setIfInBounds_toArray, List.set_cons_zero, List.set_cons_succ]
    refine takeW (i := 13) (oi := { dst := some 26, op := Op.pick (Operand.tmp 15) (Operand.const (Value.bool true)) (Operand.tmp 25), type := 4, pos := "premove.go:68", after := #[{ on := 2, ground := Ground.data }, { on := 12, ground := Ground.data }], guard := none }) (v := ?va112) rfl (by kernel_rfl) (by kernel_rfl) (by kernel_rfl) rfl (fun _ _ _ h => h) (Or.inl ⟨by rfl, ?ya112⟩) (fun _ => by assumption) ?ra112
    case ya112 => (intro w _; go_simp; first | done | (with_reducible rfl))
    try simp only [Act.put, List.setIfInBounds_toArray, List.set_cons_zero, List.set_cons_succ]
    refine doneL (by kernel_rfl) ?_ _
    refine NoPanic.normal ?_
    rw [hmem]
    have q3 := BP11.cell 3 rfl
    have HLn := Lib.hid L11
    have HRn := Lib.hid RL11
    have HBm := Lib.hid BM11
    go_wp2_with fail
    refine (without_any _ l p.turn _ HRn.out (by omega)).mono ?_
    rintro e w7 ⟨v7, rfl, ho7, hb7⟩
    obtain ⟨a7, c7, rfl⟩ := own_form2 ho7
    have HB7 := Lib.hid (below_trans HLn.out hb7 HLn.out.size)
    have HM7 := Lib.hid (HBm.out.stays hb7)
    have HO7 := Lib.hid ho7
    have hsz7 := HBm.out.lt
    clear ho7 hb7
    go_wp2_with (refine wpList_store_box (vs := [.int .i64 0, .int .i64 0, .int .i64 0]) (by rfl) 42 (.tmp 6) (.tmp 27) (by rfl) (w.heap.size + 1 + 1) (by rfl) (by rfl) HM7.out rfl (by kernel_rfl) (by rfl) ?_)
    exact bodyPost_ret (results_c2 rfl (by rfl) (by rfl) (by rfl) (HM7.out.store rfl) Try.underlying42 (by rfl) (by kernel_rfl)) rfl ⟨_, by rw [HE1.out, HE2.out]; rfl, by rw [HE3.out]; exact own_base (own_setCells HO7.out hsz7 0 _) HLn.out.size, below_setCells HB7.out (by omega) 0 _⟩

end Go.Proofs.Ytkfaibdflbdpgaa
/- The contracts of premove.check, Next; announces, sameLine. -/
namespace Go.Proofs.Ytkfaibdflbdpgaa
open Go.ChangeShapes Go.WideShapes Go.ChangeAt Go.RowKit
set_option linter.unusedVariables false

def pcheckErr (R : RulesZ) (p : PosZ) (l : List PremZ) : Int := if posErr R p ≠ 0 then posErr R p else premErr l
set_option maxRecDepth 100000 in
set_option maxHeartbeats 1000000 in
theorem pcheck_any (R : RulesZ) (vp vs ve : Value) (p : PosZ) (vc v0 v1 : Value) (v : Value) (l : List PremZ) (w : World) (hr : RdR w R vp vs ve) (hnm : R.name.size ≤ maxLen) (hp : RdP w p vc v0 v1) (hl : RdL premEl w v l) (hlen : l.length ≤ 100000) :
    Calls Try.prog 80 #[(.agg #[.string R.name, .int .i64 R.width, .int .i64 R.height, vp, vs, .bool R.falls, .bool R.keeps, ve, .int .i64 R.blocked, .int .i64 R.quiet, .int .i64 R.rept]), (.agg #[vc, v0, v1, .int .i64 p.turn, .int .i64 p.quiet]), v] w fun e w' => e = .returned (.int .i64 (pcheckErr R p l)) ∧ Below w.heap.size w w' := by
  have HR := Lib.hid hr
  have HN := Lib.hid hnm
  have HP := Lib.hid hp
  have HL := Lib.hid hl
  have HD : Hid (pcheckErr R p l = if posErr R p ≠ 0 then posErr R p else premErr l) := Lib.hid rfl
  obtain ⟨a, c, rfl, h1, h2⟩ := hl.form
  unfold maxLen at h2
  clear hr hp hl hnm
  go_enter Try.func80, Try.ntmps80
  go_upto_region 1 with (fail)
  have B0 : Box ((w.alloc (.cells #[.string R.name, .int .i64 R.width, .int .i64 R.height, vp, vs, .bool R.falls, .bool R.keeps, ve, .int .i64 R.blocked, .int .i64 R.quiet, .int .i64 R.rept] 26)).alloc (.cells #[vc, v0, v1, .int .i64 p.turn, .int .i64 p.quiet] 37)) (w.heap.size) [.string R.name, .int .i64 R.width, .int .i64 R.height, vp, vs, .bool R.falls, .bool R.keeps, ve, .int .i64 R.blocked, .int .i64 R.quiet, .int .i64 R.rept] 26 := ((Box.new' w (w.heap.size) [.string R.name, .int .i64 R.width, .int .i64 R.height, vp, vs, .bool R.falls, .bool R.keeps, ve, .int .i64 R.blocked, .int .i64 R.quiet, .int .i64 R.rept] 26 (by simp <;> omega)).alloc _)
  have B1 : Box ((w.alloc (.cells #[.string R.name, .int .i64 R.width, .int .i64 R.height, vp, vs, .bool R.falls, .bool R.keeps, ve, .int .i64 R.blocked, .int .i64 R.quiet, .int .i64 R.rept] 26)).alloc (.cells #[vc, v0, v1, .int .i64 p.turn, .int .i64 p.quiet] 37)) (w.heap.size + 1) [vc, v0, v1, .int .i64 p.turn, .int .i64 p.quiet] 37 := (Box.new' (w.alloc (.cells #[.string R.name, .int .i64 R.width, .int .i64 R.height, vp, vs, .bool R.falls, .bool R.keeps, ve, .int .i64 R.blocked, .int .i64 R.quiet, .int .i64 R.rept] 26)) (w.heap.size + 1) [vc, v0, v1, .int .i64 p.turn, .int .i64 p.quiet] 37 (by simp <;> omega))
  have HB : Hid (Below w.heap.size w ((w.alloc (.cells #[.string R.name, .int .i64 R.width, .int .i64 R.height, vp, vs, .bool R.falls, .bool R.keeps, ve, .int .i64 R.blocked, .int .i64 R.quiet, .int .i64 R.rept] 26)).alloc (.cells #[vc, v0, v1, .int .i64 p.turn, .int .i64 p.quiet] 37))) := Lib.hid (((Below.refl w.heap.size w).alloc (Nat.le_refl _) _).alloc (by simp <;> omega) _)
  have hz0 : w.heap.size + 1 < ((w.alloc (.cells #[.string R.name, .int .i64 R.width, .int .i64 R.height, vp, vs, .bool R.falls, .bool R.keeps, ve, .int .i64 R.blocked, .int .i64 R.quiet, .int .i64 R.rept] 26)).alloc (.cells #[vc, v0, v1, .int .i64 p.turn, .int .i64 p.quiet] 37)).heap.size := by simp
  generalize ((w.alloc (.cells #[.string R.name, .int .i64 R.width, .int .i64 R.height, vp, vs, .bool R.falls, .bool R.keeps, ve, .int .i64 R.blocked, .int .i64 R.quiet, .int .i64 R.rept] 26)).alloc (.cells #[vc, v0, v1, .int .i64 p.turn, .int .i64 p.quiet] 37)) = w0 at *
  have HRw := Lib.hid (HR.out.below HB.out (Nat.le_refl _))
  have HPw := Lib.hid (HP.out.below HB.out (Nat.le_refl _))
  have HLw := Lib.hid (HL.out.below HB.out (Nat.le_refl _))
  have HX0 := Lib.hid B0
  have HX1 := Lib.hid B1
  clear B0 B1
  refine wp_region_lit ?_
  refine wpList_load_box (by rfl) 26 (.tmp 3) (by rfl) (w.heap.size) (by rfl) HX0.out Try.underlying26 (by rfl) (by kernel_rfl) ?_
  refine wpList_load_box (by rfl) 37 (.tmp 4) (by rfl) (w.heap.size + 1) (by rfl) HX1.out Try.underlying37 (by rfl) (by kernel_rfl) ?_
  go_wp2_with fail
  refine (placeCheck_any R vp vs ve p vc v0 v1 w0 HRw.out HN.out HPw.out).mono ?_
  rintro e w1 ⟨rfl, hb1⟩
  have HB1 := Lib.hid (below_trans HB.out hb1 HB.out.size)
  clear hb1
  by_cases he : posErr R p = 0
  rotate_left
  · have HE : Hid (pcheckErr R p l = posErr R p) := Lib.hid (by rw [HD.out, if_pos he])
    have he' : (posErr R p != 0) = true := by simpa using he
    clear he HD
    go_wp2_with fail
    go_ret
    exact ⟨by rw [HE.out]; rfl, HB1.out⟩
  have HE : Hid (pcheckErr R p l = premErr l) := Lib.hid (by rw [HD.out, if_neg (by simp [he])])
  rw [he]
  clear he HD
  go_wp2_with fail
  refine (premCheck_any _ l w1 (HL.out.below HB1.out (Nat.le_refl _)) (by omega)).mono ?_
  rintro e w2 ⟨rfl, hb2⟩
  have HB2 := Lib.hid (below_trans HB1.out hb2 HB1.out.size)
  clear hb2
  go_wp2_with fail
  go_ret
  exact ⟨by rw [HE.out]; rfl, HB2.out⟩
def NextFull (R : RulesZ) (p : PosZ) (l : List PremZ) (w : World) (e : Ending) (w' : World) : Prop :=
  (pcheckErr R p l ≠ 0 ∧ e = .returned (.tuple #[.agg #[.int .i64 0, .int .i64 0, .int .i64 0], .bool false, .slice none 0 0, .int .i64 (pcheckErr R p l)]) ∧ Below w.heap.size w w') ∨
  (pcheckErr R p l = 0 ∧ ∃ v, e = .returned (.tuple #[.agg #[.int .i64 (nextMv R p l).src, .int .i64 (nextMv R p l).dst, .int .i64 (nextMv R p l).piece], .bool (nextOk R p l), v, .int .i64 0]) ∧ w'.ownsRow w.heap.size 121 4 v (nextRest R p l).length (flatP (nextRest R p l)) ∧ Below w.heap.size w w')
theorem pcheck_pos {R : RulesZ} {p : PosZ} {l : List PremZ} (h : pcheckErr R p l = 0) : posErr R p = 0 ∧ premErr l = 0 := by
  unfold pcheckErr at h
  by_cases e : posErr R p = 0
  · rw [if_neg (by simp [e])] at h; exact ⟨e, h⟩
  · rw [if_pos e] at h; exact absurd h e
set_option maxRecDepth 100000 in
set_option maxHeartbeats 1000000 in
theorem Next_any (HS : SortMvSaid) (R : RulesZ) (vp vs ve : Value) (p : PosZ) (vc v0 v1 : Value) (v : Value) (l : List PremZ) (w : World) (hr : RdR w R vp vs ve) (hnm : R.name.size ≤ maxLen) (hp : RdP w p vc v0 v1) (hl : RdL premEl w v l) (hlen : l.length ≤ 1000) :
    Calls Try.prog 76 #[(.agg #[.string R.name, .int .i64 R.width, .int .i64 R.height, vp, vs, .bool R.falls, .bool R.keeps, ve, .int .i64 R.blocked, .int .i64 R.quiet, .int .i64 R.rept]), (.agg #[vc, v0, v1, .int .i64 p.turn, .int .i64 p.quiet]), v] w (NextFull R p l w) := by
  have HSh := Lib.hid HS
  have HR := Lib.hid hr
  have HN := Lib.hid hnm
  have HP := Lib.hid hp
  have HL := Lib.hid hl
  obtain ⟨a, c, rfl, h1, h2⟩ := hl.form
  unfold maxLen at h2
  clear hr hp hl hnm HS
  go_enter Try.func76, Try.ntmps76
  go_upto_region 1 with (fail)
  have B0 : Box (((w.alloc (.cells #[.string R.name, .int .i64 R.width, .int .i64 R.height, vp, vs, .bool R.falls, .bool R.keeps, ve, .int .i64 R.blocked, .int .i64 R.quiet, .int .i64 R.rept] 26)).alloc (.cells #[vc, v0, v1, .int .i64 p.turn, .int .i64 p.quiet] 37)).alloc (.cells #[.int .i64 0, .int .i64 0, .int .i64 0] 42)) (w.heap.size) [.string R.name, .int .i64 R.width, .int .i64 R.height, vp, vs, .bool R.falls, .bool R.keeps, ve, .int .i64 R.blocked, .int .i64 R.quiet, .int .i64 R.rept] 26 := (((Box.new' w (w.heap.size) [.string R.name, .int .i64 R.width, .int .i64 R.height, vp, vs, .bool R.falls, .bool R.keeps, ve, .int .i64 R.blocked, .int .i64 R.quiet, .int .i64 R.rept] 26 (by simp <;> omega)).alloc _).alloc _)
  have B1 : Box (((w.alloc (.cells #[.string R.name, .int .i64 R.width, .int .i64 R.height, vp, vs, .bool R.falls, .bool R.keeps, ve, .int .i64 R.blocked, .int .i64 R.quiet, .int .i64 R.rept] 26)).alloc (.cells #[vc, v0, v1, .int .i64 p.turn, .int .i64 p.quiet] 37)).alloc (.cells #[.int .i64 0, .int .i64 0, .int .i64 0] 42)) (w.heap.size + 1) [vc, v0, v1, .int .i64 p.turn, .int .i64 p.quiet] 37 := ((Box.new' (w.alloc (.cells #[.string R.name, .int .i64 R.width, .int .i64 R.height, vp, vs, .bool R.falls, .bool R.keeps, ve, .int .i64 R.blocked, .int .i64 R.quiet, .int .i64 R.rept] 26)) (w.heap.size + 1) [vc, v0, v1, .int .i64 p.turn, .int .i64 p.quiet] 37 (by simp <;> omega)).alloc _)
  have B2 : Box (((w.alloc (.cells #[.string R.name, .int .i64 R.width, .int .i64 R.height, vp, vs, .bool R.falls, .bool R.keeps, ve, .int .i64 R.blocked, .int .i64 R.quiet, .int .i64 R.rept] 26)).alloc (.cells #[vc, v0, v1, .int .i64 p.turn, .int .i64 p.quiet] 37)).alloc (.cells #[.int .i64 0, .int .i64 0, .int .i64 0] 42)) (w.heap.size + 1 + 1) [.int .i64 0, .int .i64 0, .int .i64 0] 42 := (Box.new' ((w.alloc (.cells #[.string R.name, .int .i64 R.width, .int .i64 R.height, vp, vs, .bool R.falls, .bool R.keeps, ve, .int .i64 R.blocked, .int .i64 R.quiet, .int .i64 R.rept] 26)).alloc (.cells #[vc, v0, v1, .int .i64 p.turn, .int .i64 p.quiet] 37)) (w.heap.size + 1 + 1) [.int .i64 0, .int .i64 0, .int .i64 0] 42 (by simp <;> omega))
  have HB : Hid (Below w.heap.size w (((w.alloc (.cells #[.string R.name, .int .i64 R.width, .int .i64 R.height, vp, vs, .bool R.falls, .bool R.keeps, ve, .int .i64 R.blocked, .int .i64 R.quiet, .int .i64 R.rept] 26)).alloc (.cells #[vc, v0, v1, .int .i64 p.turn, .int .i64 p.quiet] 37)).alloc (.cells #[.int .i64 0, .int .i64 0, .int .i64 0] 42))) := Lib.hid ((((Below.refl w.heap.size w).alloc (Nat.le_refl _) _).alloc (by simp <;> omega) _).alloc (by simp <;> omega) _)
  have hz0 : w.heap.size + 1 + 1 < (((w.alloc (.cells #[.string R.name, .int .i64 R.width, .int .i64 R.height, vp, vs, .bool R.falls, .bool R.keeps, ve, .int .i64 R.blocked, .int .i64 R.quiet, .int .i64 R.rept] 26)).alloc (.cells #[vc, v0, v1, .int .i64 p.turn, .int .i64 p.quiet] 37)).alloc (.cells #[.int .i64 0, .int .i64 0, .int .i64 0] 42)).heap.size := by simp
  generalize (((w.alloc (.cells #[.string R.name, .int .i64 R.width, .int .i64 R.height, vp, vs, .bool R.falls, .bool R.keeps, ve, .int .i64 R.blocked, .int .i64 R.quiet, .int .i64 R.rept] 26)).alloc (.cells #[vc, v0, v1, .int .i64 p.turn, .int .i64 p.quiet] 37)).alloc (.cells #[.int .i64 0, .int .i64 0, .int .i64 0] 42)) = w0 at *
  have HRw := Lib.hid (HR.out.below HB.out (Nat.le_refl _))
  have HPw := Lib.hid (HP.out.below HB.out (Nat.le_refl _))
  have HLw := Lib.hid (HL.out.below HB.out (Nat.le_refl _))
  have HX0 := Lib.hid B0
  have HX1 := Lib.hid B1
  have HX2 := Lib.hid B2
  clear B0 B1 B2
  refine wp_region_lit ?_
  refine wpList_load_box (by rfl) 26 (.tmp 3) (by rfl) (w.heap.size) (by rfl) HX0.out Try.underlying26 (by rfl) (by kernel_rfl) ?_
  refine wpList_load_box (by rfl) 37 (.tmp 4) (by rfl) (w.heap.size + 1) (by rfl) HX1.out Try.underlying37 (by rfl) (by kernel_rfl) ?_
  go_wp2_with fail
  refine (pcheck_any R vp vs ve p vc v0 v1 _ l w0 HRw.out HN.out HPw.out HLw.out (by omega)).mono ?_
  rintro e w1 ⟨rfl, hb1⟩
  have HB1 := Lib.hid (below_trans HB.out hb1 HB.out.size)
  have HX01 := Lib.hid (HX0.out.stays hb1)
  have HX11 := Lib.hid (HX1.out.stays hb1)
  have HX21 := Lib.hid (HX2.out.stays hb1)
  clear hb1 HX0 HX1 HX2
  by_cases he : pcheckErr R p l = 0
  rotate_left
  · have HNE := Lib.hid he
    have he' : (pcheckErr R p l != 0) = true := by simpa using he
    clear he
    go_wp2_with (refine wpList_store_box (vs := [.int .i64 0, .int .i64 0, .int .i64 0]) (by rfl) 42 (.tmp 6) (.tmp 20) (by rfl) (w.heap.size + 1 + 1) (by rfl) (by rfl) HX21.out rfl (by kernel_rfl) (by rfl) ?_)
    exact bodyPost_ret (results_c3 rfl (by rfl) (by rfl) (by rfl) (by rfl) (HX21.out.store rfl) Try.underlying42 (by rfl) (by kernel_rfl)) rfl (.inl ⟨HNE.out, rfl, below_setCells HB1.out (by omega) 0 _⟩)
  have HNE := Lib.hid he
  have HK := Lib.hid (pok_of (pcheck_pos he).1)
  rw [he]
  clear he
  go_upto_region 4 with (fail)
  refine wp_region_lit ?_
  refine wpList_load_box (by rfl) 26 (.tmp 3) (by rfl) (w.heap.size) (by rfl) HX01.out Try.underlying26 (by rfl) (by kernel_rfl) ?_
  refine wpList_load_box (by rfl) 37 (.tmp 4) (by rfl) (w.heap.size + 1) (by rfl) HX11.out Try.underlying37 (by rfl) (by kernel_rfl) ?_
  go_wp2_with fail
  refine (next_any HSh.out R vp vs ve p vc v0 v1 _ l w1 (HR.out.below HB1.out (Nat.le_refl _)) (HP.out.below HB1.out (Nat.le_refl _)) (HL.out.below HB1.out (Nat.le_refl _)) HK.out hlen).mono ?_
  rintro e w2 ⟨v2, rfl, ho2, hb2⟩
  obtain ⟨a2, c2, rfl⟩ := own_form2 ho2
  have hs1 := hb2.size
  have HX22 := Lib.hid ((HX21.out.stays hb2).alloc (.cells #[.int .i64 (nextMv R p l).src, .int .i64 (nextMv R p l).dst, .int .i64 (nextMv R p l).piece] 42))
  have HZ1 := Lib.hid HX21.out.lt
  have HB2 := Lib.hid ((below_trans HB1.out hb2 HB1.out.size).alloc (below_trans HB1.out hb2 HB1.out.size).size (.cells #[.int .i64 (nextMv R p l).src, .int .i64 (nextMv R p l).dst, .int .i64 (nextMv R p l).piece] 42))
  have HO2 := Lib.hid (ho2.alloc (.cells #[.int .i64 (nextMv R p l).src, .int .i64 (nextMv R p l).dst, .int .i64 (nextMv R p l).piece] 42))
  have HXn := Lib.hid (Box.new w2 [.int .i64 (nextMv R p l).src, .int .i64 (nextMv R p l).dst, .int .i64 (nextMv R p l).piece] 42)
  clear hb2 ho2
  go_upto_region 5 with (fail)
  generalize (w2.alloc (.cells #[.int .i64 (nextMv R p l).src, .int .i64 (nextMv R p l).dst, .int .i64 (nextMv R p l).piece] 42)) = w3 at *
  refine wp_region_lit ?_
  refine wpList_load_box (by rfl) 42 (.tmp 11) (by rfl) w2.heap.size (by rfl) HXn.out Try.underlying42 (by rfl) (by kernel_rfl) ?_
  go_wp2_with (refine wpList_store_box (vs := [.int .i64 (nextMv R p l).src, .int .i64 (nextMv R p l).dst, .int .i64 (nextMv R p l).piece]) (by rfl) 42 (.tmp 6) (.tmp 30) (by rfl) (w.heap.size + 1 + 1) (by rfl) (by rfl) HX22.out rfl (by kernel_rfl) (by rfl) ?_)
  exact bodyPost_ret (results_c3 rfl (by rfl) (by rfl) (by rfl) (by rfl) (HX22.out.store rfl) Try.underlying42 (by rfl) (by kernel_rfl)) rfl (.inr ⟨HNE.out, _, rfl, own_base (own_setCells HO2.out HZ1.out 0 _) HB1.out.size, below_setCells HB2.out (by omega) 0 _⟩)
theorem drop_any (n : Int) (w : World) : Calls Try.prog 70 #[.int .i64 n] w fun e w' => e = .returned (.agg #[.int .i64 (-1), .int .i64 n, .int .i64 0]) ∧ Below w.heap.size w w' := by
  go_enter Try.func70, Try.ntmps70
  go_wp2
  exact bodyPost_ret (v := .agg #[.int .i64 (-1), .int .i64 n, .int .i64 0]) (by simp [results, Try.results70, go_sem]) rfl ⟨rfl, by go_grown⟩
theorem sameLine_any (v u : Value) (xs ys : List MoveZ) (w : World) (h : RdL moveEl w v xs) (h' : RdL moveEl w u ys) (hl : xs.length ≤ 1000000) :
    Calls Try.prog 40 #[v, u] w fun e w' => e = .returned (.bool (decide (xs = ys))) ∧ Below w.heap.size w w' := by
  have HR := Lib.hid h
  have HQ := Lib.hid h'
  obtain ⟨a, c, rfl, h1, h2⟩ := h.form
  obtain ⟨a', c', rfl, h1', h2'⟩ := h'.form
  unfold maxLen at h2 h2'
  clear h h'
  have hneq := neqM
  by_cases hle : xs.length = ys.length
  rotate_left
  · have HE : Hid (decide (xs = ys) = false) := Lib.hid (by simp; intro e; exact hle (by rw [e]))
    have hle' : ((xs.length : Int) != (ys.length : Int)) = true := by simp only [bne_iff_ne, ne_eq]; omega
    clear hle
    go_enter Try.func40, Try.ntmps40
    go_wp2_with fail
    go_ret
    exact ⟨by rw [HE.out]; rfl, Below.refl _ _⟩
  have hle' : ((xs.length : Int) != (ys.length : Int)) = false := by simp only [bne_eq_false_iff_eq]; omega
  have HLE := Lib.hid hle
  clear hle
  go_enter Try.func40, Try.ntmps40
  go_wp2_with fail
  go_loopw [5, 13] (fun vj vi wr => ∃ k : Nat, k ≤ xs.length ∧ vi = .int .i64 k ∧ Hid (xs.take k = ys.take k) ∧ Hid (Below w.heap.size w wr)) (fun _ i _ => xs.length - (intOf i).toNat)
  case atStart => exact ⟨0, Nat.zero_le _, rfl, Lib.hid rfl, Lib.hid (Below.refl _ _)⟩
  case round =>
    obtain ⟨k, hk, rfl, HT, HB⟩ := hrel
    by_cases hlt : k < xs.length
    · have hlt2 : k < ys.length := by have := HLE.out; omega
      obtain ⟨g, o, rfl, hg, hcc⟩ := moves_some (HR.out.below HB.out (Nat.le_refl _)) (by omega)
      obtain ⟨g', o', rfl, hg', hcc'⟩ := moves_some (HQ.out.below HB.out (Nat.le_refl _)) (by omega)
      obtain ⟨c0, c1, c2⟩ := hcc k hlt
      obtain ⟨d0, d1, d2⟩ := hcc' k hlt2
      have HS : Hid (xs.take (k + 1) = xs.take k ++ [xs.getD k default]) := Lib.hid (by rw [List.take_succ_eq_append_getElem hlt, List.getD_eq_getElem?_getD, List.getElem?_eq_getElem hlt]; rfl)
      have HS' : Hid (ys.take (k + 1) = ys.take k ++ [ys.getD k default]) := Lib.hid (by rw [List.take_succ_eq_append_getElem hlt2, List.getD_eq_getElem?_getD, List.getElem?_eq_getElem hlt2]; rfl)
      have HGd : Hid (xs = ys → xs.getD k default = ys.getD k default) := Lib.hid (fun e => by rw [e])
      clear hcc hcc'
      generalize xs.getD k default = x at *
      generalize ys.getD k default = y at *
      by_cases he : x = y
      · subst he
        go_wp2_with fail
        go_quiet (fail)
        go_wp2_with fail
        go_roundw
        case rel => exact ⟨k + 1, by omega, by go_num, Lib.hid (by rw [HS.out, HS'.out, HT.out]), Lib.hid (below_drewN HB.out _)⟩
        case measure => simp [intOf]; omega
      · have hd : decide (x = y) = false := by simpa using he
        have HE : Hid (decide (xs = ys) = false) := Lib.hid (by simp; exact fun e => he (HGd.out e))
        clear he
        go_wp2_with fail
        go_quiet (fail)
        go_wp2_with fail
        go_ret
        exact ⟨by rw [HE.out]; rfl, below_drewN HB.out _⟩
    · obtain rfl : k = xs.length := by omega
      have HE : Hid (decide (xs = ys) = true) := Lib.hid (by
        have := HT.out
        rw [List.take_of_length_le (Nat.le_refl _), List.take_of_length_le (by have := HLE.out; omega)] at this
        simpa using this)
      go_wp2_with fail
      go_ret
      exact ⟨by rw [HE.out]; rfl, HB.out⟩
theorem tic_pos : posErr ticZ (beginZ ticZ) = 0 := by decide +kernel
theorem tic_put : (⟨-1, 3, 0⟩ : MoveZ) ∈ movesZ ticZ (beginZ ticZ) := by
  have h : (⟨-1, 3, 0⟩ : MoveZ) ∈ listZ ticZ (beginZ ticZ) := list_mem.2 (by decide +kernel)
  have hl : 0 < (listZ ticZ (beginZ ticZ)).length := List.length_pos_of_mem h
  have hr : resultZ ticZ (beginZ ticZ) = 0 := by
    unfold resultZ
    rw [if_neg (by decide +kernel), if_neg (by decide +kernel), if_pos hl]
  unfold movesZ
  rw [if_pos hr]
  exact h
theorem tic_next : nextOk ticZ (beginZ ticZ) [⟨0, ⟨-1, 3, 0⟩⟩] = true ∧ nextMv ticZ (beginZ ticZ) [⟨0, ⟨-1, 3, 0⟩⟩] = ⟨-1, 3, 0⟩ ∧ nextRest ticZ (beginZ ticZ) [⟨0, ⟨-1, 3, 0⟩⟩] = [] := by
  have h1 : nextIx (beginZ ticZ) [⟨0, ⟨-1, 3, 0⟩⟩] = 0 := by decide +kernel
  have h2 : nextOk ticZ (beginZ ticZ) [⟨0, ⟨-1, 3, 0⟩⟩] = true := by
    unfold nextOk
    rw [h1]
    simp [tic_put]
  refine ⟨h2, ?_, ?_⟩
  · unfold nextMv; rw [if_pos h2, h1]; rfl
  · unfold nextRest; rw [if_pos h2, h1]; rfl
theorem tic_pcheck : pcheckErr ticZ (beginZ ticZ) [⟨0, ⟨-1, 3, 0⟩⟩] = 0 := by decide +kernel

theorem rd_prem1 {w w' : World} (h : w' = w.alloc (.cells #[.int .i64 0, .int .i64 (-1), .int .i64 3, .int .i64 0] 121)) : RdL premEl w' (.slice (some ⟨w.heap.size, 0, none⟩) 1 1) [⟨0, ⟨-1, 3, 0⟩⟩] := by
  subst h
  refine .inr ⟨w.heap.size, 0, 1, rfl, Nat.le_refl _, by unfold maxLen; decide, by simp, fun i hi => ?_⟩
  obtain rfl : i = 0 := by simp at hi; exact hi
  refine ⟨[.int .i64 0, .int .i64 (-1), .int .i64 3, .int .i64 0], rfl, fun j hj => ?_⟩
  have hb := Box.new w [.int .i64 0, .int .i64 (-1), .int .i64 3, .int .i64 0] 121
  simp only [premEl] at hj
  rcases j with _ | _ | _ | _ | j
  · exact hb.cell 0 rfl
  · exact hb.cell 1 rfl
  · exact hb.cell 2 rfl
  · exact hb.cell 3 rfl
  · omega
set_option maxRecDepth 100000 in
set_option maxHeartbeats 8000000 in
theorem announces_any (HS : SortMvSaid) (w : World) : Calls Try.prog 36 #[] w fun e w' => e = .returned (.bool true) ∧ Below w.heap.size w w' := by
  have HSh := Lib.hid HS
  have heqm := eqlM ⟨-1, 3, 0⟩ ⟨-1, 3, 0⟩
  clear HS
  go_enter Try.func36, Try.ntmps36
  go_wp2_with fail
  refine (tic_any _).mono ?_
  rintro e w0 ⟨vp, vs, ve, rfl, hr0, hb0⟩
  have HR0 := Lib.hid hr0
  have HB0 := Lib.hid hb0
  clear hr0 hb0
  unfold rulesV
  go_wp2_with fail
  refine (Begin_any ticZ vp vs ve _ HR0.out (by unfold maxLen; decide)).mono ?_
  rintro e w1 (⟨hbad, -⟩ | ⟨-, vc, v0, v1, rfl, hp1, hb1⟩)
  · exact absurd tic_rules hbad
  have HP1 := Lib.hid hp1
  have HB1 := Lib.hid (below_trans HB0.out hb1 HB0.out.size)
  clear hp1 hb1
  obtain ⟨ac, cc, rfl, _, _⟩ := HP1.out.1.form
  obtain ⟨a0, c0, rfl, _, _⟩ := HP1.out.2.1.form
  obtain ⟨a1, c1, rfl, _, _⟩ := HP1.out.2.2.form
  simp only [posV, show (beginZ ticZ).turn = 0 from rfl, show (beginZ ticZ).quiet = 0 from rfl]
  go_wp2_with fail
  have hbx := Box.new w1 [.slice ac (beginZ ticZ).cells.length cc, .slice a0 (beginZ ticZ).h0.length c0, .slice a1 (beginZ ticZ).h1.length c1, .int .i64 0, .int .i64 0] 37
  have hbl := HB1.out.alloc HB1.out.size (.cells #[.slice ac (beginZ ticZ).cells.length cc, .slice a0 (beginZ ticZ).h0.length c0, .slice a1 (beginZ ticZ).h1.length c1, .int .i64 0, .int .i64 0] 37)
  have hpp := HP1.out.alloc (.cells #[.slice ac (beginZ ticZ).cells.length cc, .slice a0 (beginZ ticZ).h0.length c0, .slice a1 (beginZ ticZ).h1.length c1, .int .i64 0, .int .i64 0] 37)
  have M0z : w.heap.size ≤ (w1.alloc (.cells #[.slice ac (beginZ ticZ).cells.length cc, .slice a0 (beginZ ticZ).h0.length c0, .slice a1 (beginZ ticZ).h1.length c1, .int .i64 0, .int .i64 0] 37)).drew.heap.size := hbl.size
  generalize (w1.alloc (.cells #[.slice ac (beginZ ticZ).cells.length cc, .slice a0 (beginZ ticZ).h0.length c0, .slice a1 (beginZ ticZ).h1.length c1, .int .i64 0, .int .i64 0] 37)) = w2 at *
  have Bxz : Box w2.drew w1.heap.size [.slice ac (beginZ ticZ).cells.length cc, .slice a0 (beginZ ticZ).h0.length c0, .slice a1 (beginZ ticZ).h1.length c1, .int .i64 0, .int .i64 0] 37 := hbx
  have Lz : Below w.heap.size w w2.drew := below_drew' hbl
  have Pz : RdP w2.drew (beginZ ticZ) (.slice ac (beginZ ticZ).cells.length cc) (.slice a0 (beginZ ticZ).h0.length c0) (.slice a1 (beginZ ticZ).h1.length c1) := hpp.below (below_drew' (Below.refl _ _)) (Nat.le_refl _)
  clear hbx hbl hpp
  refine wp_region_noPanic ?_
  refine beginL (S := (fun w' => w'.cell? ⟨w1.heap.size, 0, none⟩ = some (.slice ac (beginZ ticZ).cells.length cc) ∧ w'.cell? ⟨w1.heap.size, 1, none⟩ = some (.slice a0 (beginZ ticZ).h0.length c0) ∧ w'.cell? ⟨w1.heap.size, 2, none⟩ = some (.slice a1 (beginZ ticZ).h1.length c1) ∧ w'.cell? ⟨w1.heap.size, 3, none⟩ = some (.int .i64 0) ∧ w'.cell? ⟨w1.heap.size, 4, none⟩ = some (.int .i64 0))) (L := [12]) (by kernel_rfl) ⟨Bxz.cell 0 rfl, Bxz.cell 1 rfl, Bxz.cell 2 rfl, Bxz.cell 3 rfl, Bxz.cell 4 rfl⟩ (fun hHeld => ?_)
  refine takeL (i := 1) (oi := { dst := some 14, op := Op.load 37 (Operand.tmp 1), type := 37, pos := "play.go:100", after := #[], guard := none }) (v := ?va1) rfl (by kernel_rfl) (by kernel_rfl) (by kernel_rfl) (by kernel_rfl) rfl (by kernel_rfl) (by kernel_rfl) (fun _ _ _ h => h) (Or.inl ⟨by rfl, ?ya1⟩) (by assumption) ?ra1
  case ya1 => (intro w hSw; (try dsimp only at hSw); go_simp; first | done | (with_reducible rfl))
  try simp only [Act.put, List.setIfInBounds_toArray, List.set_cons_zero, List.set_cons_succ]
  refine readyL (rs := [0, 11]) (by kernel_rfl) (by simp) ?_
  refine (AllReadyL.cons (o := { dst := some 13, op := Op.call { callee := Callee.value (Operand.func 69), args := #[], argTypes := #[] }, type := 26, pos := "play.go:100", after := #[], guard := none }) rfl (fun K hK => ?_) (AllReadyL.cons (o := { dst := some 3, op := Op.alloc 42, type := 0, pos := "play.go:100", after := #[], guard := none }) rfl (fun K hK => ?_) AllReadyL.nil))
  · skip
    go_simp
    refine (tic_any _).mono ?_
    rintro e wa0 ⟨vp0, vs0, ve0, rfl, hr0, hb0⟩
    have Bx0 := Bxz.stays hb0
    have L0 := below_trans Lz hb0 Lz.size
    have P0 := Pz.below hb0 (Nat.le_refl _)
    have T0 := hr0
    clear hb0 hr0
    refine hK.out _ _ ⟨Bx0.cell 0 rfl, Bx0.cell 1 rfl, Bx0.cell 2 rfl, Bx0.cell 3 rfl, Bx0.cell 4 rfl⟩ (fun hHeld => ?_)
    clear hK K
    try simp only [Act.put, List.setIfInBounds_toArray, List.set_cons_zero, List.set_cons_succ]
    refine readyL (rs := [2, 11]) (by kernel_rfl) (by simp) ?_
    refine (AllReadyL.cons (o := { dst := some 15, op := Op.call { callee := Callee.value (Operand.func 70), args := #[Operand.const (Value.int IntKind.i64 3)], argTypes := #[3] }, type := 42, pos := "play.go:100", after := #[{ on := 0, ground := Ground.chain }], guard := none }) rfl (fun K hK => ?_) (AllReadyL.cons (o := { dst := some 3, op := Op.alloc 42, type := 0, pos := "play.go:100", after := #[], guard := none }) rfl (fun K hK => ?_) AllReadyL.nil))
    · skip
      go_simp
      refine (drop_any _ _).mono ?_
      rintro e wa2 ⟨rfl, hb2⟩
      have Bx2 := Bx0.stays hb2
      have L2 := below_trans L0 hb2 L0.size
      have P2 := P0.below hb2 (Nat.le_refl _)
      have T2 := T0.below hb2 (Nat.le_refl _)
      clear hb2
      refine hK.out _ _ ⟨Bx2.cell 0 rfl, Bx2.cell 1 rfl, Bx2.cell 2 rfl, Bx2.cell 3 rfl, Bx2.cell 4 rfl⟩ (fun hHeld => ?_)
      clear hK K
      try simp only [Act.put, List.setIfInBounds_toArray, List.set_cons_zero, List.set_cons_succ]
      refine takeW (i := 3) (oi := { dst := some 16, op := Op.build 121 #[(0, Operand.const (Value.int IntKind.i64 0)), (1, Operand.tmp 15)], type := 121, pos := "play.go:100", after := #[{ on := 2, ground := Ground.data }], guard := none }) (v := ?va2) rfl (by kernel_rfl) (by kernel_rfl) (by kernel_rfl) rfl (fun _ _ _ h => h) (Or.inl ⟨by rfl, ?ya2⟩) (fun _ => by assumption) ?ra2
      case ya2 => (intro w _; go_simp; first | done | (with_reducible rfl))
      try simp only [Act.put, List.setIfInBounds_toArray, List.set_cons_zero, List.set_cons_succ]
      refine readyL (rs := [4, 11]) (by kernel_rfl) (by simp) ?_
      refine (AllReadyL.cons (o := { dst := some 17, op := Op.buildSlice 62 1 #[(0, Operand.tmp 16)], type := 62, pos := "play.go:100", after := #[{ on := 3, ground := Ground.data }], guard := none }) rfl (fun K hK => ?_) (AllReadyL.cons (o := { dst := some 3, op := Op.alloc 42, type := 0, pos := "play.go:100", after := #[], guard := none }) rfl (fun K hK => ?_) AllReadyL.nil))
      · skip
        go_simp
        refine K_world ?_
        intro wa4 e4
        have hb4 : Below wa2.heap.size wa2 wa4 := by rw [e4]; exact (Below.refl _ _).alloc (Nat.le_refl _) _
        have X4 : RdL premEl wa4 (.slice (some ⟨wa2.heap.size, 0, none⟩) 1 1) [⟨0, ⟨-1, 3, 0⟩⟩] := rd_prem1 e4
        have Bx4 := Bx2.stays hb4
        have L4 := below_trans L2 hb4 L2.size
        have P4 := P2.below hb4 (Nat.le_refl _)
        have T4 := T2.below hb4 (Nat.le_refl _)
        clear hb4 e4
        refine hK.out _ _ ⟨Bx4.cell 0 rfl, Bx4.cell 1 rfl, Bx4.cell 2 rfl, Bx4.cell 3 rfl, Bx4.cell 4 rfl⟩ (fun hHeld => ?_)
        clear hK K
        try simp only [Act.put, List.setIfInBounds_toArray, List.set_cons_zero, List.set_cons_succ]
        refine readyL (rs := [5, 11]) (by kernel_rfl) (by simp) ?_
        refine (AllReadyL.cons (o := { dst := some 18, op := Op.call { callee := Callee.value (Operand.func 76), args := #[Operand.tmp 13, Operand.tmp 14, Operand.tmp 17], argTypes := #[26, 37, 62] }, type := 118, pos := "play.go:100", after := #[{ on := 0, ground := Ground.data }, { on := 1, ground := Ground.data }, { on := 4, ground := Ground.data }, { on := 2, ground := Ground.chain }], guard := none }) rfl (fun K hK => ?_) (AllReadyL.cons (o := { dst := some 3, op := Op.alloc 42, type := 0, pos := "play.go:100", after := #[], guard := none }) rfl (fun K hK => ?_) AllReadyL.nil))
        · skip
          go_simp
          refine (Next_any HSh.out ticZ vp0 vs0 ve0 (beginZ ticZ) _ _ _ _ [⟨0, ⟨-1, 3, 0⟩⟩] _ T4 (by unfold maxLen; decide) P4 X4 (by decide)).mono ?_
          rintro e wa5 (⟨hbad, -⟩ | ⟨-, v5, he5, ho5, hb5⟩)
          · exact absurd tic_pcheck hbad
          rw [tic_next.1, tic_next.2.1] at he5
          rw [tic_next.2.2] at ho5
          subst he5
          obtain ⟨a5, c5, rfl⟩ := own_form2 ho5
          have Bx5 := Bx4.stays hb5
          have L5 := below_trans L4 hb5 L4.size
          have P5 := P4.below hb5 (Nat.le_refl _)
          have T5 := T4.below hb5 (Nat.le_refl _)
          have X5 := X4.below hb5 (Nat.le_refl _)
          have O5 := ho5
          clear hb5 ho5
          refine hK.out _ _ ⟨Bx5.cell 0 rfl, Bx5.cell 1 rfl, Bx5.cell 2 rfl, Bx5.cell 3 rfl, Bx5.cell 4 rfl⟩ (fun hHeld => ?_)
          clear hK K
          try simp only [Act.put, List.setIfInBounds_toArray, List.set_cons_zero, List.set_cons_succ]
          refine takeW (i := 6) (oi := { dst := some 12, op := Op.move (Operand.tmp 18), type := 118, pos := "play.go:100", after := #[{ on := 5, ground := Ground.data }], guard := none }) (v := ?va3) rfl (by kernel_rfl) (by kernel_rfl) (by kernel_rfl) rfl (fun _ _ _ h => h) (Or.inl ⟨by rfl, ?ya3⟩) (fun _ => by assumption) ?ra3
          case ya3 => (intro w _; go_simp; first | done | (with_reducible rfl))
          try simp only [Act.put, List.setIfInBounds_toArray, List.set_cons_zero, List.set_cons_succ]
          refine takeW (i := 7) (oi := { dst := some 19, op := Op.extract (Operand.tmp 12) 0, type := 42, pos := "play.go:100", after := #[{ on := 6, ground := Ground.data }], guard := none }) (v := ?va4) rfl (by kernel_rfl) (by kernel_rfl) (by kernel_rfl) rfl (fun _ _ _ h => h) (Or.inl ⟨by rfl, ?ya4⟩) (fun _ => by assumption) ?ra4
          case ya4 => (intro w _; go_simp; first | done | (with_reducible rfl))
          try simp only [Act.put, List.setIfInBounds_toArray, List.set_cons_zero, List.set_cons_succ]
          refine takeW (i := 8) (oi := { dst := some 20, op := Op.extract (Operand.tmp 12) 1, type := 4, pos := "play.go:100", after := #[{ on := 6, ground := Ground.data }, { on := 12, ground := Ground.gcOnly Departure.lateStores }], guard := none }) (v := ?va5) rfl (by kernel_rfl) (by kernel_rfl) (by kernel_rfl) rfl (fun _ _ _ h => h) (Or.inl ⟨by rfl, ?ya5⟩) (fun _ => by assumption) ?ra5
          case ya5 => (intro w _; go_simp; first | done | (with_reducible rfl))
          try simp only [Act.put, List.setIfInBounds_toArray, List.set_cons_zero, List.set_cons_succ]
          refine takeW (i := 9) (oi := { dst := some 21, op := Op.extract (Operand.tmp 12) 2, type := 62, pos := "play.go:100", after := #[{ on := 6, ground := Ground.data }, { on := 13, ground := Ground.gcOnly Departure.lateStores }], guard := none }) (v := ?va6) rfl (by kernel_rfl) (by kernel_rfl) (by kernel_rfl) rfl (fun _ _ _ h => h) (Or.inl ⟨by rfl, ?ya6⟩) (fun _ => by assumption) ?ra6
          case ya6 => (intro w _; go_simp; first | done | (with_reducible rfl))
          try simp only [Act.put, List.setIfInBounds_toArray, List.set_cons_zero, List.set_cons_succ]
          refine takeW (i := 10) (oi := { dst := some 22, op := Op.extract (Operand.tmp 12) 3, type := 29, pos := "play.go:100", after := #[{ on := 6, ground := Ground.data }, { on := 14, ground := Ground.gcOnly Departure.lateStores }], guard := none }) (v := ?va7) rfl (by kernel_rfl) (by kernel_rfl) (by kernel_rfl) rfl (fun _ _ _ h => h) (Or.inl ⟨by rfl, ?ya7⟩) (fun _ => by assumption) ?ra7
          case ya7 => (intro w _; go_simp; first | done | (with_reducible rfl))
          try simp only [Act.put, List.setIfInBounds_toArray, List.set_cons_zero, List.set_cons_succ]
          refine readyL (rs := [11]) (by kernel_rfl) (by simp) ?_
          refine (AllReadyL.cons (o := { dst := some 3, op := Op.alloc 42, type := 0, pos := "play.go:100", after := #[], guard := none }) rfl (fun K hK => ?_) AllReadyL.nil)
          go_simp
          refine K_world ?_
          intro wa11 e11
          have hb11 : Below wa5.heap.size wa5 wa11 := by rw [e11]; exact (Below.refl _ _).alloc (Nat.le_refl _) _
          have M11 : Box wa11 wa5.heap.size [.int .i64 0, .int .i64 0, .int .i64 0] 42 := by rw [e11]; exact Box.new' _ _ _ _ rfl
          have Z11 : w.heap.size ≤ wa5.heap.size := L5.size
          have Bx11 := Bx5.stays hb11
          have L11 := below_trans L5 hb11 L5.size
          have P11 := P5.below hb11 (Nat.le_refl _)
          have T11 := T5.below hb11 (Nat.le_refl _)
          have X11 := X5.below hb11 (Nat.le_refl _)
          have O11 := own_stays O5 hb11
          clear hb11 e11
          refine hK.out _ _ ⟨Bx11.cell 0 rfl, Bx11.cell 1 rfl, Bx11.cell 2 rfl, Bx11.cell 3 rfl, Bx11.cell 4 rfl⟩ (fun hHeld => ?_)
          clear hK K
          try simp only [Act.put, List.setIfInBounds_toArray, List.set_cons_zero, List.set_cons_succ]
          refine readyL (rs := [12]) (by kernel_rfl) (by simp) ?_
          refine (AllReadyL.late (o := { dst := none, op := Op.store 42 (Operand.tmp 3) (Operand.tmp 19), type := 0, pos := "play.go:100", after := #[{ on := 11, ground := Ground.data }, { on := 7, ground := Ground.data }, { on := 5, ground := Ground.chain }, { on := 0, ground := Ground.phase }, { on := 1, ground := Ground.phase }, { on := 2, ground := Ground.phase }, { on := 3, ground := Ground.phase }, { on := 4, ground := Ground.phase }, { on := 5, ground := Ground.phase }, { on := 6, ground := Ground.phase }, { on := 7, ground := Ground.phase }, { on := 8, ground := Ground.textOnly Departure.lateStores }, { on := 9, ground := Ground.textOnly Departure.lateStores }, { on := 10, ground := Ground.textOnly Departure.lateStores }, { on := 11, ground := Ground.phase }], guard := none }) rfl (by kernel_rfl) (fun K hK => ?_) AllReadyL.nil)
          have d0 := M11.cell 0 rfl
          have d1 := M11.cell 1 rfl
          have d2 := M11.cell 2 rfl
          have d0f := M11.frozen 0
          have d1f := M11.frozen 1
          have d2f := M11.frozen 2
          go_simp
          refine K_world ?_
          intro wa12 e12
          have E12 : wa12 = wa11.setCells wa5.heap.size 0 [.int .i64 (-1), .int .i64 3, .int .i64 0] := e12
          have M12 : Box wa12 wa5.heap.size [.int .i64 (-1), .int .i64 3, .int .i64 0] 42 := by rw [E12]; exact M11.store rfl
          have L12 : Below w.heap.size w wa12 := by rw [E12]; exact below_setCells L11 Z11 0 _
          clear e12 E12 d0 d1 d2 d0f d1f d2f
          refine hK.out _ _ ?_
          clear hK K
          try simp only [Act.put, List.setIfInBounds_toArray, List.set_cons_zero, List.set_cons_succ]
          refine takeW (i := 13) (oi := { dst := some 4, op := Op.assign (Operand.tmp 20), type := 4, pos := "play.go:100", after := #[{ on := 8, ground := Ground.data }, { on := 12, ground := Ground.chain }, { on := 0, ground := Ground.phase }, { on := 1, ground := Ground.phase }, { on := 2, ground := Ground.phase }, { on := 3, ground := Ground.phase }, { on := 4, ground := Ground.phase }, { on := 5, ground := Ground.phase }, { on := 6, ground := Ground.phase }, { on := 7, ground := Ground.phase }, { on := 8, ground := Ground.phase }, { on := 9, ground := Ground.textOnly Departure.lateStores }, { on := 10, ground := Ground.textOnly Departure.lateStores }, { on := 11, ground := Ground.phase }, { on := 12, ground := Ground.phase }], guard := none }) (v := ?va8) rfl (by kernel_rfl) (by kernel_rfl) (by kernel_rfl) rfl (fun _ _ _ h => h) (Or.inl ⟨by rfl, ?ya8⟩) (fun he => by cases he) ?ra8
          case ya8 => (intro w _; go_simp; first | done | (with_reducible rfl))
          try simp only [Act.put, List.setIfInBounds_toArray, List.set_cons_zero, List.set_cons_succ]
          refine takeW (i := 14) (oi := { dst := some 5, op := Op.assign (Operand.tmp 21), type := 62, pos := "play.go:100", after := #[{ on := 9, ground := Ground.data }, { on := 13, ground := Ground.chain }, { on := 0, ground := Ground.phase }, { on := 1, ground := Ground.phase }, { on := 2, ground := Ground.phase }, { on := 3, ground := Ground.phase }, { on := 4, ground := Ground.phase }, { on := 5, ground := Ground.phase }, { on := 6, ground := Ground.phase }, { on := 7, ground := Ground.phase }, { on := 8, ground := Ground.phase }, { on := 9, ground := Ground.phase }, { on := 10, ground := Ground.textOnly Departure.lateStores }, { on := 11, ground := Ground.phase }, { on := 12, ground := Ground.phase }, { on := 13, ground := Ground.phase }], guard := none }) (v := ?va9) rfl (by kernel_rfl) (by kernel_rfl) (by kernel_rfl) rfl (fun _ _ _ h => h) (Or.inl ⟨by rfl, ?ya9⟩) (fun he => by cases he) ?ra9
          case ya9 => (intro w _; go_simp; first | done | (with_reducible rfl))
          try simp only [Act.put, List.setIfInBounds_toArray, List.set_cons_zero, List.set_cons_succ]
          refine takeW (i := 15) (oi := { dst := some 6, op := Op.assign (Operand.tmp 22), type := 29, pos := "play.go:100", after := #[{ on := 10, ground := Ground.data }, { on := 14, ground := Ground.chain }, { on := 0, ground := Ground.phase }, { on := 1, ground := Ground.phase }, { on := 2, ground := Ground.phase }, { on := 3, ground := Ground.phase }, { on := 4, ground := Ground.phase }, { on := 5, ground := Ground.phase }, { on := 6, ground := Ground.phase }, { on := 7, ground := Ground.phase }, { on := 8, ground := Ground.phase }, { on := 9, ground := Ground.phase }, { on := 10, ground := Ground.phase }, { on := 11, ground := Ground.phase }, { on := 12, ground := Ground.phase }, { on := 13, ground := Ground.phase }, { on := 14, ground := Ground.phase }], guard := none }) (v := ?va10) rfl (by kernel_rfl) (by kernel_rfl) (by kernel_rfl) rfl (fun _ _ _ h => h) (Or.inl ⟨by rfl, ?ya10⟩) (fun he => by cases he) ?ra10
          case ya10 => (intro w _; go_simp; first | done | (with_reducible rfl))
          try simp only [Act.put, List.setIfInBounds_toArray, List.set_cons_zero, List.set_cons_succ]
          refine doneL (by kernel_rfl) ?_ _
          refine NoPanic.normal ?_
          have HX12 := Lib.hid M12
          have HL12 := Lib.hid L12
          have hkk := True.intro
          clear M12 L12
          go_upto_region 3 with (fail)
          have M14 : Box wa12.drew wa5.heap.size [.int .i64 (-1), .int .i64 3, .int .i64 0] 42 := HX12.out
          have L14 : Below w.heap.size w wa12.drew := below_drew' HL12.out
          clear HX12 HL12
          refine wp_region_noPanic ?_
          refine beginL (S := (fun w' => w'.cell? ⟨wa5.heap.size, 0, none⟩ = some (.int .i64 (-1)) ∧ w'.cell? ⟨wa5.heap.size, 1, none⟩ = some (.int .i64 3) ∧ w'.cell? ⟨wa5.heap.size, 2, none⟩ = some (.int .i64 0))) (L := []) (by kernel_rfl) ⟨M14.cell 0 rfl, M14.cell 1 rfl, M14.cell 2 rfl⟩ (fun hHeld => ?_)
          refine takeW (i := 0) (oi := { dst := some 23, op := Op.move (Operand.tmp 2), type := 29, pos := "play.go:101", after := #[], guard := none }) (v := ?va61) rfl (by kernel_rfl) (by kernel_rfl) (by kernel_rfl) rfl (fun _ _ _ h => h) (Or.inl ⟨by rfl, ?ya61⟩) (fun _ => by assumption) ?ra61
          case ya61 => (intro w _; go_simp; first | done | (with_reducible rfl))
          try simp only [Act.put, List.setIfInBounds_toArray, List.set_cons_zero, List.set_cons_succ]
          refine takeW (i := 1) (oi := { dst := some 24, op := Op.binOp BinOp.eql 29 (Operand.tmp 23) (Operand.const (Value.int IntKind.i64 0)) 29, type := 4, pos := "play.go:101", after := #[{ on := 0, ground := Ground.data }], guard := none }) (v := ?va62) rfl (by kernel_rfl) (by kernel_rfl) (by kernel_rfl) rfl (fun _ _ _ h => h) (Or.inl ⟨by rfl, ?ya62⟩) (fun _ => by assumption) ?ra62
          case ya62 => (intro w _; go_simp; first | done | (with_reducible rfl))
          try simp only [Act.put, List.setIfInBounds_toArray, List.set_cons_zero, List.set_cons_succ]
          refine takeW (i := 2) (oi := { dst := some 25, op := Op.move (Operand.tmp 24), type := 4, pos := "play.go:101", after := #[{ on := 1, ground := Ground.data }], guard := none }) (v := ?va63) rfl (by kernel_rfl) (by kernel_rfl) (by kernel_rfl) rfl (fun _ _ _ h => h) (Or.inl ⟨by rfl, ?ya63⟩) (fun _ => by assumption) ?ra63
          case ya63 => (intro w _; go_simp; first | done | (with_reducible rfl))
          try simp only [Act.put, List.setIfInBounds_toArray, List.set_cons_zero, List.set_cons_succ]
          refine takeW (i := 3) (oi := { dst := some 26, op := Op.move (Operand.tmp 6), type := 29, pos := "play.go:101", after := #[{ on := 2, ground := Ground.guard }], guard := some (2, true) }) (v := ?va64) rfl (by kernel_rfl) (by kernel_rfl) (by kernel_rfl) rfl (fun _ _ _ h => h) (Or.inl ⟨by rfl, ?ya64⟩) (fun _ => by assumption) ?ra64
          case ya64 => (intro w _; go_simp; first | done | (with_reducible rfl))
          try simp only [Act.put, List.setIfInBounds_toArray, List.set_cons_zero, List.set_cons_succ]
          refine takeW (i := 4) (oi := { dst := some 27, op := Op.binOp BinOp.eql 29 (Operand.tmp 26) (Operand.const (Value.int IntKind.i64 0)) 29, type := 4, pos := "play.go:101", after := #[{ on := 3, ground := Ground.data }, { on := 2, ground := Ground.guard }], guard := some (2, true) }) (v := ?va65) rfl (by kernel_rfl) (by kernel_rfl) (by kernel_rfl) rfl (fun _ _ _ h => h) (Or.inl ⟨by rfl, ?ya65⟩) (fun _ => by assumption) ?ra65
          case ya65 => (intro w _; go_simp; first | done | (with_reducible rfl))
          try simp only [Act.put, List.setIfInBounds_toArray, List.set_cons_zero, List.set_cons_succ]
          refine takeW (i := 5) (oi := { dst := some 28, op := Op.pick (Operand.tmp 25) (Operand.tmp 27) (Operand.const (Value.bool false)), type := 4, pos := "play.go:101", after := #[{ on := 2, ground := Ground.data }, { on := 4, ground := Ground.data }], guard := none }) (v := ?va66) rfl (by kernel_rfl) (by kernel_rfl) (by kernel_rfl) rfl (fun _ _ _ h => h) (Or.inl ⟨by rfl, ?ya66⟩) (fun _ => by assumption) ?ra66
          case ya66 => (intro w _; go_simp; first | done | (with_reducible rfl))
          try simp only [Act.put, List.setIfInBounds_toArray, List.set_cons_zero, List.set_cons_succ]
          refine takeW (i := 6) (oi := { dst := some 29, op := Op.move (Operand.tmp 28), type := 4, pos := "play.go:101", after := #[{ on := 5, ground := Ground.data }, { on := 2, ground := Ground.chain }], guard := none }) (v := ?va67) rfl (by kernel_rfl) (by kernel_rfl) (by kernel_rfl) rfl (fun _ _ _ h => h) (Or.inl ⟨by rfl, ?ya67⟩) (fun _ => by assumption) ?ra67
          case ya67 => (intro w _; go_simp; first | done | (with_reducible rfl))
          try simp only [Act.put, List.setIfInBounds_toArray, List.set_cons_zero, List.set_cons_succ]
          refine takeW (i := 7) (oi := { dst := some 30, op := Op.move (Operand.tmp 4), type := 4, pos := "play.go:101", after := #[{ on := 6, ground := Ground.guard }], guard := some (6, true) }) (v := ?va68) rfl (by kernel_rfl) (by kernel_rfl) (by kernel_rfl) rfl (fun _ _ _ h => h) (Or.inl ⟨by rfl, ?ya68⟩) (fun _ => by assumption) ?ra68
          case ya68 => (intro w _; go_simp; first | done | (with_reducible rfl))
          try simp only [Act.put, List.setIfInBounds_toArray, List.set_cons_zero, List.set_cons_succ]
          refine takeW (i := 8) (oi := { dst := some 31, op := Op.pick (Operand.tmp 29) (Operand.tmp 30) (Operand.const (Value.bool false)), type := 4, pos := "play.go:101", after := #[{ on := 6, ground := Ground.data }, { on := 7, ground := Ground.data }], guard := none }) (v := ?va69) rfl (by kernel_rfl) (by kernel_rfl) (by kernel_rfl) rfl (fun _ _ _ h => h) (Or.inl ⟨by rfl, ?ya69⟩) (fun _ => by assumption) ?ra69
          case ya69 => (intro w _; go_simp; first | done | (with_reducible rfl))
          try simp only [Act.put, List.setIfInBounds_toArray, List.set_cons_zero, List.set_cons_succ]
          refine takeW (i := 9) (oi := { dst := some 32, op := Op.move (Operand.tmp 31), type := 4, pos := "play.go:101", after := #[{ on := 8, ground := Ground.data }, { on := 6, ground := Ground.chain }], guard := none }) (v := ?va70) rfl (by kernel_rfl) (by kernel_rfl) (by kernel_rfl) rfl (fun _ _ _ h => h) (Or.inl ⟨by rfl, ?ya70⟩) (fun _ => by assumption) ?ra70
          case ya70 => (intro w _; go_simp; first | done | (with_reducible rfl))
          try simp only [Act.put, List.setIfInBounds_toArray, List.set_cons_zero, List.set_cons_succ]
          refine takeL (i := 10) (oi := { dst := some 33, op := Op.load 42 (Operand.tmp 3), type := 42, pos := "play.go:101", after := #[{ on := 9, ground := Ground.guard }], guard := some (9, true) }) (v := ?va71) rfl (by kernel_rfl) (by kernel_rfl) (by kernel_rfl) (by kernel_rfl) rfl (by kernel_rfl) (by kernel_rfl) (fun _ _ _ h => h) (Or.inl ⟨by rfl, ?ya71⟩) (by assumption) ?ra71
          case ya71 => (intro w hSw; (try dsimp only at hSw); go_simp; first | done | (with_reducible rfl))
          try simp only [Act.put, List.setIfInBounds_toArray, List.set_cons_zero, List.set_cons_succ]
          refine readyL (rs := [11]) (by kernel_rfl) (by simp) ?_
          refine (AllReadyL.cons (o := { dst := some 34, op := Op.call { callee := Callee.value (Operand.func 70), args := #[Operand.const (Value.int IntKind.i64 3)], argTypes := #[3] }, type := 42, pos := "play.go:101", after := #[{ on := 9, ground := Ground.chain }, { on := 9, ground := Ground.guard }], guard := some (9, true) }) rfl (fun K hK => ?_) AllReadyL.nil)
          go_simp
          refine (drop_any _ _).mono ?_
          rintro e wd ⟨rfl, hbd⟩
          have M15 := M14.stays hbd
          have L15 := below_trans L14 hbd L14.size
          clear hbd
          refine hK.out _ _ ⟨M15.cell 0 rfl, M15.cell 1 rfl, M15.cell 2 rfl⟩ (fun hHeld => ?_)
          clear hK K
          try simp only [Act.put, List.setIfInBounds_toArray, List.set_cons_zero, List.set_cons_succ]
          refine takeW (i := 12) (oi := { dst := some 35, op := Op.binOp BinOp.eql 42 (Operand.tmp 33) (Operand.tmp 34) 42, type := 4, pos := "play.go:101", after := #[{ on := 10, ground := Ground.data }, { on := 11, ground := Ground.data }, { on := 9, ground := Ground.guard }], guard := some (9, true) }) (v := ?va72) rfl (by kernel_rfl) (by kernel_rfl) (by kernel_rfl) rfl (fun _ _ _ h => h) (Or.inl ⟨by rfl, ?ya72⟩) (fun _ => by assumption) ?ra72
          case ya72 => (intro w _; go_simp; first | done | (with_reducible rfl))
          try simp only [Act.put, List.setIfInBounds_toArray, List.set_cons_zero, List.set_cons_succ]
          refine takeW (i := 13) (oi := { dst := some 36, op := Op.pick (Operand.tmp 32) (Operand.tmp 35) (Operand.const (Value.bool false)), type := 4, pos := "play.go:101", after := #[{ on := 9, ground := Ground.data }, { on := 12, ground := Ground.data }], guard := none }) (v := ?va73) rfl (by kernel_rfl) (by kernel_rfl) (by kernel_rfl) rfl (fun _ _ _ h => h) (Or.inl ⟨by rfl, ?ya73⟩) (fun _ => by assumption) ?ra73
          case ya73 => (intro w _; go_simp; first | done | (with_reducible rfl))
          try simp only [Act.put, List.setIfInBounds_toArray, List.set_cons_zero, List.set_cons_succ]
          refine takeW (i := 14) (oi := { dst := some 37, op := Op.move (Operand.tmp 36), type := 4, pos := "play.go:101", after := #[{ on := 13, ground := Ground.data }, { on := 11, ground := Ground.chain }], guard := none }) (v := ?va74) rfl (by kernel_rfl) (by kernel_rfl) (by kernel_rfl) rfl (fun _ _ _ h => h) (Or.inl ⟨by rfl, ?ya74⟩) (fun _ => by assumption) ?ra74
          case ya74 => (intro w _; go_simp; first | done | (with_reducible rfl))
          try simp only [Act.put, List.setIfInBounds_toArray, List.set_cons_zero, List.set_cons_succ]
          refine takeW (i := 15) (oi := { dst := some 38, op := Op.move (Operand.tmp 5), type := 62, pos := "play.go:101", after := #[{ on := 14, ground := Ground.guard }], guard := some (14, true) }) (v := ?va75) rfl (by kernel_rfl) (by kernel_rfl) (by kernel_rfl) rfl (fun _ _ _ h => h) (Or.inl ⟨by rfl, ?ya75⟩) (fun _ => by assumption) ?ra75
          case ya75 => (intro w _; go_simp; first | done | (with_reducible rfl))
          try simp only [Act.put, List.setIfInBounds_toArray, List.set_cons_zero, List.set_cons_succ]
          refine takeW (i := 16) (oi := { dst := some 39, op := Op.call { callee := Callee.builtin Builtin.len, args := #[Operand.tmp 38], argTypes := #[62] }, type := 3, pos := "play.go:101", after := #[{ on := 15, ground := Ground.data }, { on := 14, ground := Ground.guard }], guard := some (14, true) }) (v := ?va76) rfl (by kernel_rfl) (by kernel_rfl) (by kernel_rfl) rfl (fun _ _ _ h => h) (Or.inl ⟨by rfl, ?ya76⟩) (fun _ => by assumption) ?ra76
          case ya76 => (intro w _; go_simp; first | done | (with_reducible rfl))
          try simp only [Act.put, List.setIfInBounds_toArray, List.set_cons_zero, List.set_cons_succ]
          refine takeW (i := 17) (oi := { dst := some 40, op := Op.binOp BinOp.eql 3 (Operand.tmp 39) (Operand.const (Value.int IntKind.i64 0)) 3, type := 4, pos := "play.go:101", after := #[{ on := 16, ground := Ground.data }, { on := 14, ground := Ground.guard }], guard := some (14, true) }) (v := ?va77) rfl (by kernel_rfl) (by kernel_rfl) (by kernel_rfl) rfl (fun _ _ _ h => h) (Or.inl ⟨by rfl, ?ya77⟩) (fun _ => by assumption) ?ra77
          case ya77 => (intro w _; go_simp; first | done | (with_reducible rfl))
          try simp only [Act.put, List.setIfInBounds_toArray, List.set_cons_zero, List.set_cons_succ]
          refine takeW (i := 18) (oi := { dst := some 41, op := Op.pick (Operand.tmp 37) (Operand.tmp 40) (Operand.const (Value.bool false)), type := 4, pos := "play.go:101", after := #[{ on := 14, ground := Ground.data }, { on := 17, ground := Ground.data }], guard := none }) (v := ?va78) rfl (by kernel_rfl) (by kernel_rfl) (by kernel_rfl) rfl (fun _ _ _ h => h) (Or.inl ⟨by rfl, ?ya78⟩) (fun _ => by assumption) ?ra78
          case ya78 => (intro w _; go_simp; first | done | (with_reducible rfl))
          try simp only [Act.put, List.setIfInBounds_toArray, List.set_cons_zero, List.set_cons_succ]
          refine takeW (i := 19) (oi := { dst := some 0, op := Op.assign (Operand.tmp 41), type := 4, pos := "play.go:101", after := #[{ on := 18, ground := Ground.data }, { on := 14, ground := Ground.chain }, { on := 0, ground := Ground.phase }, { on := 1, ground := Ground.phase }, { on := 2, ground := Ground.phase }, { on := 3, ground := Ground.phase }, { on := 4, ground := Ground.phase }, { on := 5, ground := Ground.phase }, { on := 6, ground := Ground.phase }, { on := 7, ground := Ground.phase }, { on := 8, ground := Ground.phase }, { on := 9, ground := Ground.phase }, { on := 10, ground := Ground.phase }, { on := 11, ground := Ground.phase }, { on := 12, ground := Ground.phase }, { on := 13, ground := Ground.phase }, { on := 14, ground := Ground.phase }, { on := 15, ground := Ground.phase }, { on := 16, ground := Ground.phase }, { on := 17, ground := Ground.phase }, { on := 18, ground := Ground.phase }], guard := none }) (v := ?va79) rfl (by kernel_rfl) (by kernel_rfl) (by kernel_rfl) rfl (fun _ _ _ h => h) (Or.inl ⟨by rfl, ?ya79⟩) (fun _ => by assumption) ?ra79
          case ya79 => (intro w _; go_simp; first | done | (with_reducible rfl))
          try simp only [Act.put, List.setIfInBounds_toArray, List.set_cons_zero, List.set_cons_succ]
          refine doneL (by kernel_rfl) ?_ _
          refine NoPanic.normal ?_
          have HL15 := Lib.hid L15
          go_wp2_with fail
          go_ret
          exact ⟨rfl, HL15.out⟩
        · skip
          go_simp
          refine K_world ?_
          intro wa11 e11
          have hb11 : Below wa4.heap.size wa4 wa11 := by rw [e11]; exact (Below.refl _ _).alloc (Nat.le_refl _) _
          have M11 : Box wa11 wa4.heap.size [.int .i64 0, .int .i64 0, .int .i64 0] 42 := by rw [e11]; exact Box.new' _ _ _ _ rfl
          have Z11 : w.heap.size ≤ wa4.heap.size := L4.size
          have Bx11 := Bx4.stays hb11
          have L11 := below_trans L4 hb11 L4.size
          have P11 := P4.below hb11 (Nat.le_refl _)
          have T11 := T4.below hb11 (Nat.le_refl _)
          have X11 := X4.below hb11 (Nat.le_refl _)
          clear hb11 e11
          refine hK.out _ _ ⟨Bx11.cell 0 rfl, Bx11.cell 1 rfl, Bx11.cell 2 rfl, Bx11.cell 3 rfl, Bx11.cell 4 rfl⟩ (fun hHeld => ?_)
          clear hK K
          try simp only [Act.put, List.setIfInBounds_toArray, List.set_cons_zero, List.set_cons_succ]
          refine readyL (rs := [5]) (by kernel_rfl) (by simp) ?_
          refine (AllReadyL.cons (o := { dst := some 18, op := Op.call { callee := Callee.value (Operand.func 76), args := #[Operand.tmp 13, Operand.tmp 14, Operand.tmp 17], argTypes := #[26, 37, 62] }, type := 118, pos := "play.go:100", after := #[{ on := 0, ground := Ground.data }, { on := 1, ground := Ground.data }, { on := 4, ground := Ground.data }, { on := 2, ground := Ground.chain }], guard := none }) rfl (fun K hK => ?_) AllReadyL.nil)
          go_simp
          refine (Next_any HSh.out ticZ vp0 vs0 ve0 (beginZ ticZ) _ _ _ _ [⟨0, ⟨-1, 3, 0⟩⟩] _ T11 (by unfold maxLen; decide) P11 X11 (by decide)).mono ?_
          rintro e wa5 (⟨hbad, -⟩ | ⟨-, v5, he5, ho5, hb5⟩)
          · exact absurd tic_pcheck hbad
          rw [tic_next.1, tic_next.2.1] at he5
          rw [tic_next.2.2] at ho5
          subst he5
          obtain ⟨a5, c5, rfl⟩ := own_form2 ho5
          have Bx5 := Bx11.stays hb5
          have L5 := below_trans L11 hb5 L11.size
          have P5 := P11.below hb5 (Nat.le_refl _)
          have T5 := T11.below hb5 (Nat.le_refl _)
          have X5 := X11.below hb5 (Nat.le_refl _)
          have M5 := M11.stays hb5
          have O5 := ho5
          clear hb5 ho5
          refine hK.out _ _ ⟨Bx5.cell 0 rfl, Bx5.cell 1 rfl, Bx5.cell 2 rfl, Bx5.cell 3 rfl, Bx5.cell 4 rfl⟩ (fun hHeld => ?_)
          clear hK K
          try simp only [Act.put, List.setIfInBounds_toArray, List.set_cons_zero, List.set_cons_succ]
          refine takeW (i := 6) (oi := { dst := some 12, op := Op.move (Operand.tmp 18), type := 118, pos := "play.go:100", after := #[{ on := 5, ground := Ground.data }], guard := none }) (v := ?va80) rfl (by kernel_rfl) (by kernel_rfl) (by kernel_rfl) rfl (fun _ _ _ h => h) (Or.inl ⟨by rfl, ?ya80⟩) (fun _ => by assumption) ?ra80
          case ya80 => (intro w _; go_simp; first | done | (with_reducible rfl))
          try simp only [Act.put, List.setIfInBounds_toArray, List.set_cons_zero, List.set_cons_succ]
          refine takeW (i := 7) (oi := { dst := some 19, op := Op.extract (Operand.tmp 12) 0, type := 42, pos := "play.go:100", after := #[{ on := 6, ground := Ground.data }], guard := none }) (v := ?va81) rfl (by kernel_rfl) (by kernel_rfl) (by kernel_rfl) rfl (fun _ _ _ h => h) (Or.inl ⟨by rfl, ?ya81⟩) (fun _ => by assumption) ?ra81
          case ya81 => (intro w _; go_simp; first | done | (with_reducible rfl))
          try simp only [Act.put, List.setIfInBounds_toArray, List.set_cons_zero, List.set_cons_succ]
          refine takeW (i := 8) (oi := { dst := some 20, op := Op.extract (Operand.tmp 12) 1, type := 4, pos := "play.go:100", after := #[{ on := 6, ground := Ground.data }, { on := 12, ground := Ground.gcOnly Departure.lateStores }], guard := none }) (v := ?va82) rfl (by kernel_rfl) (by kernel_rfl) (by kernel_rfl) rfl (fun _ _ _ h => h) (Or.inl ⟨by rfl, ?ya82⟩) (fun _ => by assumption) ?ra82
          case ya82 => (intro w _; go_simp; first | done | (with_reducible rfl))
          try simp only [Act.put, List.setIfInBounds_toArray, List.set_cons_zero, List.set_cons_succ]
          refine takeW (i := 9) (oi := { dst := some 21, op := Op.extract (Operand.tmp 12) 2, type := 62, pos := "play.go:100", after := #[{ on := 6, ground := Ground.data }, { on := 13, ground := Ground.gcOnly Departure.lateStores }], guard := none }) (v := ?va83) rfl (by kernel_rfl) (by kernel_rfl) (by kernel_rfl) rfl (fun _ _ _ h => h) (Or.inl ⟨by rfl, ?ya83⟩) (fun _ => by assumption) ?ra83
          case ya83 => (intro w _; go_simp; first | done | (with_reducible rfl))
          try simp only [Act.put, List.setIfInBounds_toArray, List.set_cons_zero, List.set_cons_succ]
          refine takeW (i := 10) (oi := { dst := some 22, op := Op.extract (Operand.tmp 12) 3, type := 29, pos := "play.go:100", after := #[{ on := 6, ground := Ground.data }, { on := 14, ground := Ground.gcOnly Departure.lateStores }], guard := none }) (v := ?va84) rfl (by kernel_rfl) (by kernel_rfl) (by kernel_rfl) rfl (fun _ _ _ h => h) (Or.inl ⟨by rfl, ?ya84⟩) (fun _ => by assumption) ?ra84
          case ya84 => (intro w _; go_simp; first | done | (with_reducible rfl))
          try simp only [Act.put, List.setIfInBounds_toArray, List.set_cons_zero, List.set_cons_succ]
          refine readyL (rs := [12]) (by kernel_rfl) (by simp) ?_
          refine (AllReadyL.late (o := { dst := none, op := Op.store 42 (Operand.tmp 3) (Operand.tmp 19), type := 0, pos := "play.go:100", after := #[{ on := 11, ground := Ground.data }, { on := 7, ground := Ground.data }, { on := 5, ground := Ground.chain }, { on := 0, ground := Ground.phase }, { on := 1, ground := Ground.phase }, { on := 2, ground := Ground.phase }, { on := 3, ground := Ground.phase }, { on := 4, ground := Ground.phase }, { on := 5, ground := Ground.phase }, { on := 6, ground := Ground.phase }, { on := 7, ground := Ground.phase }, { on := 8, ground := Ground.textOnly Departure.lateStores }, { on := 9, ground := Ground.textOnly Departure.lateStores }, { on := 10, ground := Ground.textOnly Departure.lateStores }, { on := 11, ground := Ground.phase }], guard := none }) rfl (by kernel_rfl) (fun K hK => ?_) AllReadyL.nil)
          have d0 := M5.cell 0 rfl
          have d1 := M5.cell 1 rfl
          have d2 := M5.cell 2 rfl
          have d0f := M5.frozen 0
          have d1f := M5.frozen 1
          have d2f := M5.frozen 2
          go_simp
          refine K_world ?_
          intro wa12 e12
          have E12 : wa12 = wa5.setCells wa4.heap.size 0 [.int .i64 (-1), .int .i64 3, .int .i64 0] := e12
          have M12 : Box wa12 wa4.heap.size [.int .i64 (-1), .int .i64 3, .int .i64 0] 42 := by rw [E12]; exact M5.store rfl
          have L12 : Below w.heap.size w wa12 := by rw [E12]; exact below_setCells L5 Z11 0 _
          clear e12 E12 d0 d1 d2 d0f d1f d2f
          refine hK.out _ _ ?_
          clear hK K
          try simp only [Act.put, List.setIfInBounds_toArray, List.set_cons_zero, List.set_cons_succ]
          refine takeW (i := 13) (oi := { dst := some 4, op := Op.assign (Operand.tmp 20), type := 4, pos := "play.go:100", after := #[{ on := 8, ground := Ground.data }, { on := 12, ground := Ground.chain }, { on := 0, ground := Ground.phase }, { on := 1, ground := Ground.phase }, { on := 2, ground := Ground.phase }, { on := 3, ground := Ground.phase }, { on := 4, ground := Ground.phase }, { on := 5, ground := Ground.phase }, { on := 6, ground := Ground.phase }, { on := 7, ground := Ground.phase }, { on := 8, ground := Ground.phase }, { on := 9, ground := Ground.textOnly Departure.lateStores }, { on := 10, ground := Ground.textOnly Departure.lateStores }, { on := 11, ground := Ground.phase }, { on := 12, ground := Ground.phase }], guard := none }) (v := ?va85) rfl (by kernel_rfl) (by kernel_rfl) (by kernel_rfl) rfl (fun _ _ _ h => h) (Or.inl ⟨by rfl, ?ya85⟩) (fun he => by cases he) ?ra85
          case ya85 => (intro w _; go_simp; first | done | (with_reducible rfl))
          try simp only [Act.put, List.setIfInBounds_toArray, List.set_cons_zero, List.set_cons_succ]
          refine takeW (i := 14) (oi := { dst := some 5, op := Op.assign (Operand.tmp 21), type := 62, pos := "play.go:100", after := #[{ on := 9, ground := Ground.data }, { on := 13, ground := Ground.chain }, { on := 0, ground := Ground.phase }, { on := 1, ground := Ground.phase }, { on := 2, ground := Ground.phase }, { on := 3, ground := Ground.phase }, { on := 4, ground := Ground.phase }, { on := 5, ground := Ground.phase }, { on := 6, ground := Ground.phase }, { on := 7, ground := Ground.phase }, { on := 8, ground := Ground.phase }, { on := 9, ground := Ground.phase }, { on := 10, ground := Ground.textOnly Departure.lateStores }, { on := 11, ground := Ground.phase }, { on := 12, ground := Ground.phase }, { on := 13, ground := Ground.phase }], guard := none }) (v := ?va86) rfl (by kernel_rfl) (by kernel_rfl) (by kernel_rfl) rfl (fun _ _ _ h => h) (Or.inl ⟨by rfl, ?ya86⟩) (fun he => by cases he) ?ra86
          case ya86 => (intro w _; go_simp; first | done | (with_reducible rfl))
          try simp only [Act.put, List.setIfInBounds_toArray, List.set_cons_zero, List.set_cons_succ]
          refine takeW (i := 15) (oi := { dst := some 6, op := Op.assign (Operand.tmp 22), type := 29, pos := "play.go:100", after := #[{ on := 10, ground := Ground.data }, { on := 14, ground := Ground.chain }, { on := 0, ground := Ground.phase }, { on := 1, ground := Ground.phase }, { on := 2, ground := Ground.phase }, { on := 3, ground := Ground.phase }, { on := 4, ground := Ground.phase }, { on := 5, ground := Ground.phase }, { on := 6, ground := Ground.phase }, { on := 7, ground := Ground.phase }, { on := 8, ground := Ground.phase }, { on := 9, ground := Ground.phase }, { on := 10, ground := Ground.phase }, { on := 11, ground := Ground.phase }, { on := 12, ground := Ground.phase }, { on := 13, ground := Ground.phase }, { on := 14, ground := Ground.phase }], guard := none }) (v := ?va87) rfl (by kernel_rfl) (by kernel_rfl) (by kernel_rfl) rfl (fun _ _ _ h => h) (Or.inl ⟨by rfl, ?ya87⟩) (fun he => by cases he) ?ra87
          case ya87 => (intro w _; go_simp; first | done | (with_reducible rfl))
          try simp only [Act.put, List.setIfInBounds_toArray, List.set_cons_zero, List.set_cons_succ]
          refine doneL (by kernel_rfl) ?_ _
          refine NoPanic.normal ?_
          have HX12 := Lib.hid M12
          have HL12 := Lib.hid L12
          have hkk := True.intro
          clear M12 L12
          go_upto_region 3 with (fail)
          have M14 : Box wa12.drew wa4.heap.size [.int .i64 (-1), .int .i64 3, .int .i64 0] 42 := HX12.out
          have L14 : Below w.heap.size w wa12.drew := below_drew' HL12.out
          clear HX12 HL12
          refine wp_region_noPanic ?_
          refine beginL (S := (fun w' => w'.cell? ⟨wa4.heap.size, 0, none⟩ = some (.int .i64 (-1)) ∧ w'.cell? ⟨wa4.heap.size, 1, none⟩ = some (.int .i64 3) ∧ w'.cell? ⟨wa4.heap.size, 2, none⟩ = some (.int .i64 0))) (L := []) (by kernel_rfl) ⟨M14.cell 0 rfl, M14.cell 1 rfl, M14.cell 2 rfl⟩ (fun hHeld => ?_)
          refine takeW (i := 0) (oi := { dst := some 23, op := Op.move (Operand.tmp 2), type := 29, pos := "play.go:101", after := #[], guard := none }) (v := ?va138) rfl (by kernel_rfl) (by kernel_rfl) (by kernel_rfl) rfl (fun _ _ _ h => h) (Or.inl ⟨by rfl, ?ya138⟩) (fun _ => by assumption) ?ra138
          case ya138 => (intro w _; go_simp; first | done | (with_reducible rfl))
          try simp only [Act.put, List.setIfInBounds_toArray, List.set_cons_zero, List.set_cons_succ]
          refine takeW (i := 1) (oi := { dst := some 24, op := Op.binOp BinOp.eql 29 (Operand.tmp 23) (Operand.const (Value.int IntKind.i64 0)) 29, type := 4, pos := "play.go:101", after := #[{ on := 0, ground := Ground.data }], guard := none }) (v := ?va139) rfl (by kernel_rfl) (by kernel_rfl) (by kernel_rfl) rfl (fun _ _ _ h => h) (Or.inl ⟨by rfl, ?ya139⟩) (fun _ => by assumption) ?ra139
          case ya139 => (intro w _; go_simp; first | done | (with_reducible rfl))
          try simp only [Act.put, List.setIfInBounds_toArray, List.set_cons_zero, List.set_cons_succ]
          refine takeW (i := 2) (oi := { dst := some 25, op := Op.move (Operand.tmp 24), type := 4, pos := "play.go:101", after := #[{ on := 1, ground := Ground.data }], guard := none }) (v := ?va140) rfl (by kernel_rfl) (by kernel_rfl) (by kernel_rfl) rfl (fun _ _ _ h => h) (Or.inl ⟨by rfl, ?ya140⟩) (fun _ => by assumption) ?ra140
          case ya140 => (intro w _; go_simp; first | done | (with_reducible rfl))
          try simp only [Act.put, List.setIfInBounds_toArray, List.set_cons_zero, List.set_cons_succ]
          refine takeW (i := 3) (oi := { dst := some 26, op := Op.move (Operand.tmp 6), type := 29, pos := "play.go:101", after := #[{ on := 2, ground := Ground.guard }], guard := some (2, true) }) (v := ?va141) rfl (by kernel_rfl) (by kernel_rfl) (by kernel_rfl) rfl (fun _ _ _ h => h) (Or.inl ⟨by rfl, ?ya141⟩) (fun _ => by assumption) ?ra141
          case ya141 => (intro w _; go_simp; first | done | (with_reducible rfl))
          try simp only [Act.put, List.setIfInBounds_toArray, List.set_cons_zero, List.set_cons_succ]
          refine takeW (i := 4) (oi := { dst := some 27, op := Op.binOp BinOp.eql 29 (Operand.tmp 26) (Operand.const (Value.int IntKind.i64 0)) 29, type := 4, pos := "play.go:101", after := #[{ on := 3, ground := Ground.data }, { on := 2, ground := Ground.guard }], guard := some (2, true) }) (v := ?va142) rfl (by kernel_rfl) (by kernel_rfl) (by kernel_rfl) rfl (fun _ _ _ h => h) (Or.inl ⟨by rfl, ?ya142⟩) (fun _ => by assumption) ?ra142
          case ya142 => (intro w _; go_simp; first | done | (with_reducible rfl))
          try simp only [Act.put, List.setIfInBounds_toArray, List.set_cons_zero, List.set_cons_succ]
          refine takeW (i := 5) (oi := { dst := some 28, op := Op.pick (Operand.tmp 25) (Operand.tmp 27) (Operand.const (Value.bool false)), type := 4, pos := "play.go:101", after := #[{ on := 2, ground := Ground.data }, { on := 4, ground := Ground.data }], guard := none }) (v := ?va143) rfl (by kernel_rfl) (by kernel_rfl) (by kernel_rfl) rfl (fun _ _ _ h => h) (Or.inl ⟨by rfl, ?ya143⟩) (fun _ => by assumption) ?ra143
          case ya143 => (intro w _; go_simp; first | done | (with_reducible rfl))
          try simp only [Act.put, List.setIfInBounds_toArray, List.set_cons_zero, List.set_cons_succ]
          refine takeW (i := 6) (oi := { dst := some 29, op := Op.move (Operand.tmp 28), type := 4, pos := "play.go:101", after := #[{ on := 5, ground := Ground.data }, { on := 2, ground := Ground.chain }], guard := none }) (v := ?va144) rfl (by kernel_rfl) (by kernel_rfl) (by kernel_rfl) rfl (fun _ _ _ h => h) (Or.inl ⟨by rfl, ?ya144⟩) (fun _ => by assumption) ?ra144
          case ya144 => (intro w _; go_simp; first | done | (with_reducible rfl))
          try simp only [Act.put, List.setIfInBounds_toArray, List.set_cons_zero, List.set_cons_succ]
          refine takeW (i := 7) (oi := { dst := some 30, op := Op.move (Operand.tmp 4), type := 4, pos := "play.go:101", after := #[{ on := 6, ground := Ground.guard }], guard := some (6, true) }) (v := ?va145) rfl (by kernel_rfl) (by kernel_rfl) (by kernel_rfl) rfl (fun _ _ _ h => h) (Or.inl ⟨by rfl, ?ya145⟩) (fun _ => by assumption) ?ra145
          case ya145 => (intro w _; go_simp; first | done | (with_reducible rfl))
          try simp only [Act.put, List.setIfInBounds_toArray, List.set_cons_zero, List.set_cons_succ]
          refine takeW (i := 8) (oi := { dst := some 31, op := Op.pick (Operand.tmp 29) (Operand.tmp 30) (Operand.const (Value.bool false)), type := 4, pos := "play.go:101", after := #[{ on := 6, ground := Ground.data }, { on := 7, ground := Ground.data }], guard := none }) (v := ?va146) rfl (by kernel_rfl) (by kernel_rfl) (by kernel_rfl) rfl (fun _ _ _ h => h) (Or.inl ⟨by rfl, ?ya146⟩) (fun _ => by assumption) ?ra146
          case ya146 => (intro w _; go_simp; first | done | (with_reducible rfl))
          try simp only [Act.put, List.setIfInBounds_toArray, List.set_cons_zero, List.set_cons_succ]
          refine takeW (i := 9) (oi := { dst := some 32, op := Op.move (Operand.tmp 31), type := 4, pos := "play.go:101", after := #[{ on := 8, ground := Ground.data }, { on := 6, ground := Ground.chain }], guard := none }) (v := ?va147) rfl (by kernel_rfl) (by kernel_rfl) (by kernel_rfl) rfl (fun _ _ _ h => h) (Or.inl ⟨by rfl, ?ya147⟩) (fun _ => by assumption) ?ra147
          case ya147 => (intro w _; go_simp; first | done | (with_reducible rfl))
          try simp only [Act.put, List.setIfInBounds_toArray, List.set_cons_zero, List.set_cons_succ]
          refine takeL (i := 10) (oi := { dst := some 33, op := Op.load 42 (Operand.tmp 3), type := 42, pos := "play.go:101", after := #[{ on := 9, ground := Ground.guard }], guard := some (9, true) }) (v := ?va148) rfl (by kernel_rfl) (by kernel_rfl) (by kernel_rfl) (by kernel_rfl) rfl (by kernel_rfl) (by kernel_rfl) (fun _ _ _ h => h) (Or.inl ⟨by rfl, ?ya148⟩) (by assumption) ?ra148
          case ya148 => (intro w hSw; (try dsimp only at hSw); go_simp; first | done | (with_reducible rfl))
          try simp only [Act.put, List.setIfInBounds_toArray, List.set_cons_zero, List.set_cons_succ]
          refine readyL (rs := [11]) (by kernel_rfl) (by simp) ?_
          refine (AllReadyL.cons (o := { dst := some 34, op := Op.call { callee := Callee.value (Operand.func 70), args := #[Operand.const (Value.int IntKind.i64 3)], argTypes := #[3] }, type := 42, pos := "play.go:101", after := #[{ on := 9, ground := Ground.chain }, { on := 9, ground := Ground.guard }], guard := some (9, true) }) rfl (fun K hK => ?_) AllReadyL.nil)
          go_simp
          refine (drop_any _ _).mono ?_
          rintro e wd ⟨rfl, hbd⟩
          have M15 := M14.stays hbd
          have L15 := below_trans L14 hbd L14.size
          clear hbd
          refine hK.out _ _ ⟨M15.cell 0 rfl, M15.cell 1 rfl, M15.cell 2 rfl⟩ (fun hHeld => ?_)
          clear hK K
          try simp only [Act.put, List.setIfInBounds_toArray, List.set_cons_zero, List.set_cons_succ]
          refine takeW (i := 12) (oi := { dst := some 35, op := Op.binOp BinOp.eql 42 (Operand.tmp 33) (Operand.tmp 34) 42, type := 4, pos := "play.go:101", after := #[{ on := 10, ground := Ground.data }, { on := 11, ground := Ground.data }, { on := 9, ground := Ground.guard }], guard := some (9, true) }) (v := ?va149) rfl (by kernel_rfl) (by kernel_rfl) (by kernel_rfl) rfl (fun _ _ _ h => h) (Or.inl ⟨by rfl, ?ya149⟩) (fun _ => by assumption) ?ra149
          case ya149 => (intro w _; go_simp; first | done | (with_reducible rfl))
          try simp only [Act.put, List.setIfInBounds_toArray, List.set_cons_zero, List.set_cons_succ]
          refine takeW (i := 13) (oi := { dst := some 36, op := Op.pick (Operand.tmp 32) (Operand.tmp 35) (Operand.const (Value.bool false)), type := 4, pos := "play.go:101", after := #[{ on := 9, ground := Ground.data }, { on := 12, ground := Ground.data }], guard := none }) (v := ?va150) rfl (by kernel_rfl) (by kernel_rfl) (by kernel_rfl) rfl (fun _ _ _ h => h) (Or.inl ⟨by rfl, ?ya150⟩) (fun _ => by assumption) ?ra150
          case ya150 => (intro w _; go_simp; first | done | (with_reducible rfl))
          try simp only [Act.put, List.setIfInBounds_toArray, List.set_cons_zero, List.set_cons_succ]
          refine takeW (i := 14) (oi := { dst := some 37, op := Op.move (Operand.tmp 36), type := 4, pos := "play.go:101", after := #[{ on := 13, ground := Ground.data }, { on := 11, ground := Ground.chain }], guard := none }) (v := ?va151) rfl (by kernel_rfl) (by kernel_rfl) (by kernel_rfl) rfl (fun _ _ _ h => h) (Or.inl ⟨by rfl, ?ya151⟩) (fun _ => by assumption) ?ra151
          case ya151 => (intro w _; go_simp; first | done | (with_reducible rfl))
          try simp only [Act.put, List.setIfInBounds_toArray, List.set_cons_zero, List.set_cons_succ]
          refine takeW (i := 15) (oi := { dst := some 38, op := Op.move (Operand.tmp 5), type := 62, pos := "play.go:101", after := #[{ on := 14, ground := Ground.guard }], guard := some (14, true) }) (v := ?va152) rfl (by kernel_rfl) (by kernel_rfl) (by kernel_rfl) rfl (fun _ _ _ h => h) (Or.inl ⟨by rfl, ?ya152⟩) (fun _ => by assumption) ?ra152
          case ya152 => (intro w _; go_simp; first | done | (with_reducible rfl))
          try simp only [Act.put, List.setIfInBounds_toArray, List.set_cons_zero, List.set_cons_succ]
          refine takeW (i := 16) (oi := { dst := some 39, op := Op.call { callee := Callee.builtin Builtin.len, args := #[Operand.tmp 38], argTypes := #[62] }, type := 3, pos := "play.go:101", after := #[{ on := 15, ground := Ground.data }, { on := 14, ground := Ground.guard }], guard := some (14, true) }) (v := ?va153) rfl (by kernel_rfl) (by kernel_rfl) (by kernel_rfl) rfl (fun _ _ _ h => h) (Or.inl ⟨by rfl, ?ya153⟩) (fun _ => by assumption) ?ra153
          case ya153 => (intro w _; go_simp; first | done | (with_reducible rfl))
          try simp only [Act.put, List.setIfInBounds_toArray, List.set_cons_zero, List.set_cons_succ]
          refine takeW (i := 17) (oi := { dst := some 40, op := Op.binOp BinOp.eql 3 (Operand.tmp 39) (Operand.const (Value.int IntKind.i64 0)) 3, type := 4, pos := "play.go:101", after := #[{ on := 16, ground := Ground.data }, { on := 14, ground := Ground.guard }], guard := some (14, true) }) (v := ?va154) rfl (by kernel_rfl) (by kernel_rfl) (by kernel_rfl) rfl (fun _ _ _ h => h) (Or.inl ⟨by rfl, ?ya154⟩) (fun _ => by assumption) ?ra154
          case ya154 => (intro w _; go_simp; first | done | (with_reducible rfl))
          try simp only [Act.put, List.setIfInBounds_toArray, List.set_cons_zero, List.set_cons_succ]
          refine takeW (i := 18) (oi := { dst := some 41, op := Op.pick (Operand.tmp 37) (Operand.tmp 40) (Operand.const (Value.bool false)), type := 4, pos := "play.go:101", after := #[{ on := 14, ground := Ground.data }, { on := 17, ground := Ground.data }], guard := none }) (v := ?va155) rfl (by kernel_rfl) (by kernel_rfl) (by kernel_rfl) rfl (fun _ _ _ h => h) (Or.inl ⟨by rfl, ?ya155⟩) (fun _ => by assumption) ?ra155
          case ya155 => (intro w _; go_simp; first | done | (with_reducible rfl))
          try simp only [Act.put, List.setIfInBounds_toArray, List.set_cons_zero, List.set_cons_succ]
          refine takeW (i := 19) (oi := { dst := some 0, op := Op.assign (Operand.tmp 41), type := 4, pos := "play.go:101", after := #[{ on := 18, ground := Ground.data }, { on := 14, ground := Ground.chain }, { on := 0, ground := Ground.phase }, { on := 1, ground := Ground.phase }, { on := 2, ground := Ground.phase }, { on := 3, ground := Ground.phase }, { on := 4, ground := Ground.phase }, { on := 5, ground := Ground.phase }, { on := 6, ground := Ground.phase }, { on := 7, ground := Ground.phase }, { on := 8, ground := Ground.phase }, { on := 9, ground := Ground.phase }, { on := 10, ground := Ground.phase }, { on := 11, ground := Ground.phase }, { on := 12, ground := Ground.phase }, { on := 13, ground := Ground.phase }, { on := 14, ground := Ground.phase }, { on := 15, ground := Ground.phase }, { on := 16, ground := Ground.phase }, { on := 17, ground := Ground.phase }, { on := 18, ground := Ground.phase }], guard := none }) (v := ?va156) rfl (by kernel_rfl) (by kernel_rfl) (by kernel_rfl) rfl (fun _ _ _ h => h) (Or.inl ⟨by rfl, ?ya156⟩) (fun _ => by assumption) ?ra156
          case ya156 => (intro w _; go_simp; first | done | (with_reducible rfl))
          try simp only [Act.put, List.setIfInBounds_toArray, List.set_cons_zero, List.set_cons_succ]
          refine doneL (by kernel_rfl) ?_ _
          refine NoPanic.normal ?_
          have HL15 := Lib.hid L15
          go_wp2_with fail
          go_ret
          exact ⟨rfl, HL15.out⟩
      · skip
        go_simp
        refine K_world ?_
        intro wa11 e11
        have hb11 : Below wa2.heap.size wa2 wa11 := by rw [e11]; exact (Below.refl _ _).alloc (Nat.le_refl _) _
        have M11 : Box wa11 wa2.heap.size [.int .i64 0, .int .i64 0, .int .i64 0] 42 := by rw [e11]; exact Box.new' _ _ _ _ rfl
        have Z11 : w.heap.size ≤ wa2.heap.size := L2.size
        have Bx11 := Bx2.stays hb11
        have L11 := below_trans L2 hb11 L2.size
        have P11 := P2.below hb11 (Nat.le_refl _)
        have T11 := T2.below hb11 (Nat.le_refl _)
        clear hb11 e11
        refine hK.out _ _ ⟨Bx11.cell 0 rfl, Bx11.cell 1 rfl, Bx11.cell 2 rfl, Bx11.cell 3 rfl, Bx11.cell 4 rfl⟩ (fun hHeld => ?_)
        clear hK K
        try simp only [Act.put, List.setIfInBounds_toArray, List.set_cons_zero, List.set_cons_succ]
        refine readyL (rs := [4]) (by kernel_rfl) (by simp) ?_
        refine (AllReadyL.cons (o := { dst := some 17, op := Op.buildSlice 62 1 #[(0, Operand.tmp 16)], type := 62, pos := "play.go:100", after := #[{ on := 3, ground := Ground.data }], guard := none }) rfl (fun K hK => ?_) AllReadyL.nil)
        go_simp
        refine K_world ?_
        intro wa4 e4
        have hb4 : Below wa11.heap.size wa11 wa4 := by rw [e4]; exact (Below.refl _ _).alloc (Nat.le_refl _) _
        have X4 : RdL premEl wa4 (.slice (some ⟨wa11.heap.size, 0, none⟩) 1 1) [⟨0, ⟨-1, 3, 0⟩⟩] := rd_prem1 e4
        have Bx4 := Bx11.stays hb4
        have L4 := below_trans L11 hb4 L11.size
        have P4 := P11.below hb4 (Nat.le_refl _)
        have T4 := T11.below hb4 (Nat.le_refl _)
        have M4 := M11.stays hb4
        clear hb4 e4
        refine hK.out _ _ ⟨Bx4.cell 0 rfl, Bx4.cell 1 rfl, Bx4.cell 2 rfl, Bx4.cell 3 rfl, Bx4.cell 4 rfl⟩ (fun hHeld => ?_)
        clear hK K
        try simp only [Act.put, List.setIfInBounds_toArray, List.set_cons_zero, List.set_cons_succ]
        refine readyL (rs := [5]) (by kernel_rfl) (by simp) ?_
        refine (AllReadyL.cons (o := { dst := some 18, op := Op.call { callee := Callee.value (Operand.func 76), args := #[Operand.tmp 13, Operand.tmp 14, Operand.tmp 17], argTypes := #[26, 37, 62] }, type := 118, pos := "play.go:100", after := #[{ on := 0, ground := Ground.data }, { on := 1, ground := Ground.data }, { on := 4, ground := Ground.data }, { on := 2, ground := Ground.chain }], guard := none }) rfl (fun K hK => ?_) AllReadyL.nil)
        go_simp
        refine (Next_any HSh.out ticZ vp0 vs0 ve0 (beginZ ticZ) _ _ _ _ [⟨0, ⟨-1, 3, 0⟩⟩] _ T4 (by unfold maxLen; decide) P4 X4 (by decide)).mono ?_
        rintro e wa5 (⟨hbad, -⟩ | ⟨-, v5, he5, ho5, hb5⟩)
        · exact absurd tic_pcheck hbad
        rw [tic_next.1, tic_next.2.1] at he5
        rw [tic_next.2.2] at ho5
        subst he5
        obtain ⟨a5, c5, rfl⟩ := own_form2 ho5
        have Bx5 := Bx4.stays hb5
        have L5 := below_trans L4 hb5 L4.size
        have P5 := P4.below hb5 (Nat.le_refl _)
        have T5 := T4.below hb5 (Nat.le_refl _)
        have X5 := X4.below hb5 (Nat.le_refl _)
        have M5 := M4.stays hb5
        have O5 := ho5
        clear hb5 ho5
        refine hK.out _ _ ⟨Bx5.cell 0 rfl, Bx5.cell 1 rfl, Bx5.cell 2 rfl, Bx5.cell 3 rfl, Bx5.cell 4 rfl⟩ (fun hHeld => ?_)
        clear hK K
        try simp only [Act.put, List.setIfInBounds_toArray, List.set_cons_zero, List.set_cons_succ]
        refine takeW (i := 6) (oi := { dst := some 12, op := Op.move (Operand.tmp 18), type := 118, pos := "play.go:100", after := #[{ on := 5, ground := Ground.data }], guard := none }) (v := ?va157) rfl (by kernel_rfl) (by kernel_rfl) (by kernel_rfl) rfl (fun _ _ _ h => h) (Or.inl ⟨by rfl, ?ya157⟩) (fun _ => by assumption) ?ra157
        case ya157 => (intro w _; go_simp; first | done | (with_reducible rfl))
        try simp only [Act.put, List.setIfInBounds_toArray, List.set_cons_zero, List.set_cons_succ]
        refine takeW (i := 7) (oi := { dst := some 19, op := Op.extract (Operand.tmp 12) 0, type := 42, pos := "play.go:100", after := #[{ on := 6, ground := Ground.data }], guard := none }) (v := ?va158) rfl (by kernel_rfl) (by kernel_rfl) (by kernel_rfl) rfl (fun _ _ _ h => h) (Or.inl ⟨by rfl, ?ya158⟩) (fun _ => by assumption) ?ra158
        case ya158 => (intro w _; go_simp; first | done | (with_reducible rfl))
        try simp only [Act.put, List.setIfInBounds_toArray, List.set_cons_zero, List.set_cons_succ]
        refine takeW (i := 8) (oi := { dst := some 20, op := Op.extract (Operand.tmp 12) 1, type := 4, pos := "play.go:100", after := #[{ on := 6, ground := Ground.data }, { on := 12, ground := Ground.gcOnly Departure.lateStores }], guard := none }) (v := ?va159) rfl (by kernel_rfl) (by kernel_rfl) (by kernel_rfl) rfl (fun _ _ _ h => h) (Or.inl ⟨by rfl, ?ya159⟩) (fun _ => by assumption) ?ra159
        case ya159 => (intro w _; go_simp; first | done | (with_reducible rfl))
        try simp only [Act.put, List.setIfInBounds_toArray, List.set_cons_zero, List.set_cons_succ]
        refine takeW (i := 9) (oi := { dst := some 21, op := Op.extract (Operand.tmp 12) 2, type := 62, pos := "play.go:100", after := #[{ on := 6, ground := Ground.data }, { on := 13, ground := Ground.gcOnly Departure.lateStores }], guard := none }) (v := ?va160) rfl (by kernel_rfl) (by kernel_rfl) (by kernel_rfl) rfl (fun _ _ _ h => h) (Or.inl ⟨by rfl, ?ya160⟩) (fun _ => by assumption) ?ra160
        case ya160 => (intro w _; go_simp; first | done | (with_reducible rfl))
        try simp only [Act.put, List.setIfInBounds_toArray, List.set_cons_zero, List.set_cons_succ]
        refine takeW (i := 10) (oi := { dst := some 22, op := Op.extract (Operand.tmp 12) 3, type := 29, pos := "play.go:100", after := #[{ on := 6, ground := Ground.data }, { on := 14, ground := Ground.gcOnly Departure.lateStores }], guard := none }) (v := ?va161) rfl (by kernel_rfl) (by kernel_rfl) (by kernel_rfl) rfl (fun _ _ _ h => h) (Or.inl ⟨by rfl, ?ya161⟩) (fun _ => by assumption) ?ra161
        case ya161 => (intro w _; go_simp; first | done | (with_reducible rfl))
        try simp only [Act.put, List.setIfInBounds_toArray, List.set_cons_zero, List.set_cons_succ]
        refine readyL (rs := [12]) (by kernel_rfl) (by simp) ?_
        refine (AllReadyL.late (o := { dst := none, op := Op.store 42 (Operand.tmp 3) (Operand.tmp 19), type := 0, pos := "play.go:100", after := #[{ on := 11, ground := Ground.data }, { on := 7, ground := Ground.data }, { on := 5, ground := Ground.chain }, { on := 0, ground := Ground.phase }, { on := 1, ground := Ground.phase }, { on := 2, ground := Ground.phase }, { on := 3, ground := Ground.phase }, { on := 4, ground := Ground.phase }, { on := 5, ground := Ground.phase }, { on := 6, ground := Ground.phase }, { on := 7, ground := Ground.phase }, { on := 8, ground := Ground.textOnly Departure.lateStores }, { on := 9, ground := Ground.textOnly Departure.lateStores }, { on := 10, ground := Ground.textOnly Departure.lateStores }, { on := 11, ground := Ground.phase }], guard := none }) rfl (by kernel_rfl) (fun K hK => ?_) AllReadyL.nil)
        have d0 := M5.cell 0 rfl
        have d1 := M5.cell 1 rfl
        have d2 := M5.cell 2 rfl
        have d0f := M5.frozen 0
        have d1f := M5.frozen 1
        have d2f := M5.frozen 2
        go_simp
        refine K_world ?_
        intro wa12 e12
        have E12 : wa12 = wa5.setCells wa2.heap.size 0 [.int .i64 (-1), .int .i64 3, .int .i64 0] := e12
        have M12 : Box wa12 wa2.heap.size [.int .i64 (-1), .int .i64 3, .int .i64 0] 42 := by rw [E12]; exact M5.store rfl
        have L12 : Below w.heap.size w wa12 := by rw [E12]; exact below_setCells L5 Z11 0 _
        clear e12 E12 d0 d1 d2 d0f d1f d2f
        refine hK.out _ _ ?_
        clear hK K
        try simp only [Act.put, List.setIfInBounds_toArray, List.set_cons_zero, List.set_cons_succ]
        refine takeW (i := 13) (oi := { dst := some 4, op := Op.assign (Operand.tmp 20), type := 4, pos := "play.go:100", after := #[{ on := 8, ground := Ground.data }, { on := 12, ground := Ground.chain }, { on := 0, ground := Ground.phase }, { on := 1, ground := Ground.phase }, { on := 2, ground := Ground.phase }, { on := 3, ground := Ground.phase }, { on := 4, ground := Ground.phase }, { on := 5, ground := Ground.phase }, { on := 6, ground := Ground.phase }, { on := 7, ground := Ground.phase }, { on := 8, ground := Ground.phase }, { on := 9, ground := Ground.textOnly Departure.lateStores }, { on := 10, ground := Ground.textOnly Departure.lateStores }, { on := 11, ground := Ground.phase }, { on := 12, ground := Ground.phase }], guard := none }) (v := ?va162) rfl (by kernel_rfl) (by kernel_rfl) (by kernel_rfl) rfl (fun _ _ _ h => h) (Or.inl ⟨by rfl, ?ya162⟩) (fun he => by cases he) ?ra162
        case ya162 => (intro w _; go_simp; first | done | (with_reducible rfl))
        try simp only [Act.put, List.setIfInBounds_toArray, List.set_cons_zero, List.set_cons_succ]
        refine takeW (i := 14) (oi := { dst := some 5, op := Op.assign (Operand.tmp 21), type := 62, pos := "play.go:100", after := #[{ on := 9, ground := Ground.data }, { on := 13, ground := Ground.chain }, { on := 0, ground := Ground.phase }, { on := 1, ground := Ground.phase }, { on := 2, ground := Ground.phase }, { on := 3, ground := Ground.phase }, { on := 4, ground := Ground.phase }, { on := 5, ground := Ground.phase }, { on := 6, ground := Ground.phase }, { on := 7, ground := Ground.phase }, { on := 8, ground := Ground.phase }, { on := 9, ground := Ground.phase }, { on := 10, ground := Ground.textOnly Departure.lateStores }, { on := 11, ground := Ground.phase }, { on := 12, ground := Ground.phase }, { on := 13, ground := Ground.phase }], guard := none }) (v := ?va163) rfl (by kernel_rfl) (by kernel_rfl) (by kernel_rfl) rfl (fun _ _ _ h => h) (Or.inl ⟨by rfl, ?ya163⟩) (fun he => by cases he) ?ra163
        case ya163 => (intro w _; go_simp; first | done | (with_reducible rfl))
        try simp only [Act.put, List.setIfInBounds_toArray, List.set_cons_zero, List.set_cons_succ]
        refine takeW (i := 15) (oi := { dst := some 6, op := Op.assign (Operand.tmp 22), type := 29, pos := "play.go:100", after := #[{ on := 10, ground := Ground.data }, { on := 14, ground := Ground.chain }, { on := 0, ground := Ground.phase }, { on := 1, ground := Ground.phase }, { on := 2, ground := Ground.phase }, { on := 3, ground := Ground.phase }, { on := 4, ground := Ground.phase }, { on := 5, ground := Ground.phase }, { on := 6, ground := Ground.phase }, { on := 7, ground := Ground.phase }, { on := 8, ground := Ground.phase }, { on := 9, ground := Ground.phase }, { on := 10, ground := Ground.phase }, { on := 11, ground := Ground.phase }, { on := 12, ground := Ground.phase }, { on := 13, ground := Ground.phase }, { on := 14, ground := Ground.phase }], guard := none }) (v := ?va164) rfl (by kernel_rfl) (by kernel_rfl) (by kernel_rfl) rfl (fun _ _ _ h => h) (Or.inl ⟨by rfl, ?ya164⟩) (fun he => by cases he) ?ra164
        case ya164 => (intro w _; go_simp; first | done | (with_reducible rfl))
        try simp only [Act.put, List.setIfInBounds_toArray, List.set_cons_zero, List.set_cons_succ]
        refine doneL (by kernel_rfl) ?_ _
        refine NoPanic.normal ?_
        have HX12 := Lib.hid M12
        have HL12 := Lib.hid L12
        have hkk := True.intro
        clear M12 L12
        go_upto_region 3 with (fail)
        have M14 : Box wa12.drew wa2.heap.size [.int .i64 (-1), .int .i64 3, .int .i64 0] 42 := HX12.out
        have L14 : Below w.heap.size w wa12.drew := below_drew' HL12.out
        clear HX12 HL12
        refine wp_region_noPanic ?_
        refine beginL (S := (fun w' => w'.cell? ⟨wa2.heap.size, 0, none⟩ = some (.int .i64 (-1)) ∧ w'.cell? ⟨wa2.heap.size, 1, none⟩ = some (.int .i64 3) ∧ w'.cell? ⟨wa2.heap.size, 2, none⟩ = some (.int .i64 0))) (L := []) (by kernel_rfl) ⟨M14.cell 0 rfl, M14.cell 1 rfl, M14.cell 2 rfl⟩ (fun hHeld => ?_)
        refine takeW (i := 0) (oi := { dst := some 23, op := Op.move (Operand.tmp 2), type := 29, pos := "play.go:101", after := #[], guard := none }) (v := ?va215) rfl (by kernel_rfl) (by kernel_rfl) (by kernel_rfl) rfl (fun _ _ _ h => h) (Or.inl ⟨by rfl, ?ya215⟩) (fun _ => by assumption) ?ra215
        case ya215 => (intro w _; go_simp; first | done | (with_reducible rfl))
        try simp only [Act.put, List.setIfInBounds_toArray, List.set_cons_zero, List.set_cons_succ]
        refine takeW (i := 1) (oi := { dst := some 24, op := Op.binOp BinOp.eql 29 (Operand.tmp 23) (Operand.const (Value.int IntKind.i64 0)) 29, type := 4, pos := "play.go:101", after := #[{ on := 0, ground := Ground.data }], guard := none }) (v := ?va216) rfl (by kernel_rfl) (by kernel_rfl) (by kernel_rfl) rfl (fun _ _ _ h => h) (Or.inl ⟨by rfl, ?ya216⟩) (fun _ => by assumption) ?ra216
        case ya216 => (intro w _; go_simp; first | done | (with_reducible rfl))
        try simp only [Act.put, List.setIfInBounds_toArray, List.set_cons_zero, List.set_cons_succ]
        refine takeW (i := 2) (oi := { dst := some 25, op := Op.move (Operand.tmp 24), type := 4, pos := "play.go:101", after := #[{ on := 1, ground := Ground.data }], guard := none }) (v := ?va217) rfl (by kernel_rfl) (by kernel_rfl) (by kernel_rfl) rfl (fun _ _ _ h => h) (Or.inl ⟨by rfl, ?ya217⟩) (fun _ => by assumption) ?ra217
        case ya217 => (intro w _; go_simp; first | done | (with_reducible rfl))
        try simp only [Act.put, List.setIfInBounds_toArray, List.set_cons_zero, List.set_cons_succ]
        refine takeW (i := 3) (oi := { dst := some 26, op := Op.move (Operand.tmp 6), type := 29, pos := "play.go:101", after := #[{ on := 2, ground := Ground.guard }], guard := some (2, true) }) (v := ?va218) rfl (by kernel_rfl) (by kernel_rfl) (by kernel_rfl) rfl (fun _ _ _ h => h) (Or.inl ⟨by rfl, ?ya218⟩) (fun _ => by assumption) ?ra218
        case ya218 => (intro w _; go_simp; first | done | (with_reducible rfl))
        try simp only [Act.put, List.setIfInBounds_toArray, List.set_cons_zero, List.set_cons_succ]
        refine takeW (i := 4) (oi := { dst := some 27, op := Op.binOp BinOp.eql 29 (Operand.tmp 26) (Operand.const (Value.int IntKind.i64 0)) 29, type := 4, pos := "play.go:101", after := #[{ on := 3, ground := Ground.data }, { on := 2, ground := Ground.guard }], guard := some (2, true) }) (v := ?va219) rfl (by kernel_rfl) (by kernel_rfl) (by kernel_rfl) rfl (fun _ _ _ h => h) (Or.inl ⟨by rfl, ?ya219⟩) (fun _ => by assumption) ?ra219
        case ya219 => (intro w _; go_simp; first | done | (with_reducible rfl))
        try simp only [Act.put, List.setIfInBounds_toArray, List.set_cons_zero, List.set_cons_succ]
        refine takeW (i := 5) (oi := { dst := some 28, op := Op.pick (Operand.tmp 25) (Operand.tmp 27) (Operand.const (Value.bool false)), type := 4, pos := "play.go:101", after := #[{ on := 2, ground := Ground.data }, { on := 4, ground := Ground.data }], guard := none }) (v := ?va220) rfl (by kernel_rfl) (by kernel_rfl) (by kernel_rfl) rfl (fun _ _ _ h => h) (Or.inl ⟨by rfl, ?ya220⟩) (fun _ => by assumption) ?ra220
        case ya220 => (intro w _; go_simp; first | done | (with_reducible rfl))
        try simp only [Act.put, List.setIfInBounds_toArray, List.set_cons_zero, List.set_cons_succ]
        refine takeW (i := 6) (oi := { dst := some 29, op := Op.move (Operand.tmp 28), type := 4, pos := "play.go:101", after := #[{ on := 5, ground := Ground.data }, { on := 2, ground := Ground.chain }], guard := none }) (v := ?va221) rfl (by kernel_rfl) (by kernel_rfl) (by kernel_rfl) rfl (fun _ _ _ h => h) (Or.inl ⟨by rfl, ?ya221⟩) (fun _ => by assumption) ?ra221
        case ya221 => (intro w _; go_simp; first | done | (with_reducible rfl))
        try simp only [Act.put, List.setIfInBounds_toArray, List.set_cons_zero, List.set_cons_succ]
        refine takeW (i := 7) (oi := { dst := some 30, op := Op.move (Operand.tmp 4), type := 4, pos := "play.go:101", after := #[{ on := 6, ground := Ground.guard }], guard := some (6, true) }) (v := ?va222) rfl (by kernel_rfl) (by kernel_rfl) (by kernel_rfl) rfl (fun _ _ _ h => h) (Or.inl ⟨by rfl, ?ya222⟩) (fun _ => by assumption) ?ra222
        case ya222 => (intro w _; go_simp; first | done | (with_reducible rfl))
        try simp only [Act.put, List.setIfInBounds_toArray, List.set_cons_zero, List.set_cons_succ]
        refine takeW (i := 8) (oi := { dst := some 31, op := Op.pick (Operand.tmp 29) (Operand.tmp 30) (Operand.const (Value.bool false)), type := 4, pos := "play.go:101", after := #[{ on := 6, ground := Ground.data }, { on := 7, ground := Ground.data }], guard := none }) (v := ?va223) rfl (by kernel_rfl) (by kernel_rfl) (by kernel_rfl) rfl (fun _ _ _ h => h) (Or.inl ⟨by rfl, ?ya223⟩) (fun _ => by assumption) ?ra223
        case ya223 => (intro w _; go_simp; first | done | (with_reducible rfl))
        try simp only [Act.put, List.setIfInBounds_toArray, List.set_cons_zero, List.set_cons_succ]
        refine takeW (i := 9) (oi := { dst := some 32, op := Op.move (Operand.tmp 31), type := 4, pos := "play.go:101", after := #[{ on := 8, ground := Ground.data }, { on := 6, ground := Ground.chain }], guard := none }) (v := ?va224) rfl (by kernel_rfl) (by kernel_rfl) (by kernel_rfl) rfl (fun _ _ _ h => h) (Or.inl ⟨by rfl, ?ya224⟩) (fun _ => by assumption) ?ra224
        case ya224 => (intro w _; go_simp; first | done | (with_reducible rfl))
        try simp only [Act.put, List.setIfInBounds_toArray, List.set_cons_zero, List.set_cons_succ]
        refine takeL (i := 10) (oi := { dst := some 33, op := Op.load 42 (Operand.tmp 3), type := 42, pos := "play.go:101", after := #[{ on := 9, ground := Ground.guard }], guard := some (9, true) }) (v := ?va225) rfl (by kernel_rfl) (by kernel_rfl) (by kernel_rfl) (by kernel_rfl) rfl (by kernel_rfl) (by kernel_rfl) (fun _ _ _ h => h) (Or.inl ⟨by rfl, ?ya225⟩) (by assumption) ?ra225
        case ya225 => (intro w hSw; (try dsimp only at hSw); go_simp; first | done | (with_reducible rfl))
        try simp only [Act.put, List.setIfInBounds_toArray, List.set_cons_zero, List.set_cons_succ]
        refine readyL (rs := [11]) (by kernel_rfl) (by simp) ?_
        refine (AllReadyL.cons (o := { dst := some 34, op := Op.call { callee := Callee.value (Operand.func 70), args := #[Operand.const (Value.int IntKind.i64 3)], argTypes := #[3] }, type := 42, pos := "play.go:101", after := #[{ on := 9, ground := Ground.chain }, { on := 9, ground := Ground.guard }], guard := some (9, true) }) rfl (fun K hK => ?_) AllReadyL.nil)
        go_simp
        refine (drop_any _ _).mono ?_
        rintro e wd ⟨rfl, hbd⟩
        have M15 := M14.stays hbd
        have L15 := below_trans L14 hbd L14.size
        clear hbd
        refine hK.out _ _ ⟨M15.cell 0 rfl, M15.cell 1 rfl, M15.cell 2 rfl⟩ (fun hHeld => ?_)
        clear hK K
        try simp only [Act.put, List.setIfInBounds_toArray, List.set_cons_zero, List.set_cons_succ]
        refine takeW (i := 12) (oi := { dst := some 35, op := Op.binOp BinOp.eql 42 (Operand.tmp 33) (Operand.tmp 34) 42, type := 4, pos := "play.go:101", after := #[{ on := 10, ground := Ground.data }, { on := 11, ground := Ground.data }, { on := 9, ground := Ground.guard }], guard := some (9, true) }) (v := ?va226) rfl (by kernel_rfl) (by kernel_rfl) (by kernel_rfl) rfl (fun _ _ _ h => h) (Or.inl ⟨by rfl, ?ya226⟩) (fun _ => by assumption) ?ra226
        case ya226 => (intro w _; go_simp; first | done | (with_reducible rfl))
        try simp only [Act.put, List.setIfInBounds_toArray, List.set_cons_zero, List.set_cons_succ]
        refine takeW (i := 13) (oi := { dst := some 36, op := Op.pick (Operand.tmp 32) (Operand.tmp 35) (Operand.const (Value.bool false)), type := 4, pos := "play.go:101", after := #[{ on := 9, ground := Ground.data }, { on := 12, ground := Ground.data }], guard := none }) (v := ?va227) rfl (by kernel_rfl) (by kernel_rfl) (by kernel_rfl) rfl (fun _ _ _ h => h) (Or.inl ⟨by rfl, ?ya227⟩) (fun _ => by assumption) ?ra227
        case ya227 => (intro w _; go_simp; first | done | (with_reducible rfl))
        try simp only [Act.put, List.setIfInBounds_toArray, List.set_cons_zero, List.set_cons_succ]
        refine takeW (i := 14) (oi := { dst := some 37, op := Op.move (Operand.tmp 36), type := 4, pos := "play.go:101", after := #[{ on := 13, ground := Ground.data }, { on := 11, ground := Ground.chain }], guard := none }) (v := ?va228) rfl (by kernel_rfl) (by kernel_rfl) (by kernel_rfl) rfl (fun _ _ _ h => h) (Or.inl ⟨by rfl, ?ya228⟩) (fun _ => by assumption) ?ra228
        case ya228 => (intro w _; go_simp; first | done | (with_reducible rfl))
        try simp only [Act.put, List.setIfInBounds_toArray, List.set_cons_zero, List.set_cons_succ]
        refine takeW (i := 15) (oi := { dst := some 38, op := Op.move (Operand.tmp 5), type := 62, pos := "play.go:101", after := #[{ on := 14, ground := Ground.guard }], guard := some (14, true) }) (v := ?va229) rfl (by kernel_rfl) (by kernel_rfl) (by kernel_rfl) rfl (fun _ _ _ h => h) (Or.inl ⟨by rfl, ?ya229⟩) (fun _ => by assumption) ?ra229
        case ya229 => (intro w _; go_simp; first | done | (with_reducible rfl))
        try simp only [Act.put, List.setIfInBounds_toArray, List.set_cons_zero, List.set_cons_succ]
        refine takeW (i := 16) (oi := { dst := some 39, op := Op.call { callee := Callee.builtin Builtin.len, args := #[Operand.tmp 38], argTypes := #[62] }, type := 3, pos := "play.go:101", after := #[{ on := 15, ground := Ground.data }, { on := 14, ground := Ground.guard }], guard := some (14, true) }) (v := ?va230) rfl (by kernel_rfl) (by kernel_rfl) (by kernel_rfl) rfl (fun _ _ _ h => h) (Or.inl ⟨by rfl, ?ya230⟩) (fun _ => by assumption) ?ra230
        case ya230 => (intro w _; go_simp; first | done | (with_reducible rfl))
        try simp only [Act.put, List.setIfInBounds_toArray, List.set_cons_zero, List.set_cons_succ]
        refine takeW (i := 17) (oi := { dst := some 40, op := Op.binOp BinOp.eql 3 (Operand.tmp 39) (Operand.const (Value.int IntKind.i64 0)) 3, type := 4, pos := "play.go:101", after := #[{ on := 16, ground := Ground.data }, { on := 14, ground := Ground.guard }], guard := some (14, true) }) (v := ?va231) rfl (by kernel_rfl) (by kernel_rfl) (by kernel_rfl) rfl (fun _ _ _ h => h) (Or.inl ⟨by rfl, ?ya231⟩) (fun _ => by assumption) ?ra231
        case ya231 => (intro w _; go_simp; first | done | (with_reducible rfl))
        try simp only [Act.put, List.setIfInBounds_toArray, List.set_cons_zero, List.set_cons_succ]
        refine takeW (i := 18) (oi := { dst := some 41, op := Op.pick (Operand.tmp 37) (Operand.tmp 40) (Operand.const (Value.bool false)), type := 4, pos := "play.go:101", after := #[{ on := 14, ground := Ground.data }, { on := 17, ground := Ground.data }], guard := none }) (v := ?va232) rfl (by kernel_rfl) (by kernel_rfl) (by kernel_rfl) rfl (fun _ _ _ h => h) (Or.inl ⟨by rfl, ?ya232⟩) (fun _ => by assumption) ?ra232
        case ya232 => (intro w _; go_simp; first | done | (with_reducible rfl))
        try simp only [Act.put, List.setIfInBounds_toArray, List.set_cons_zero, List.set_cons_succ]
        refine takeW (i := 19) (oi := { dst := some 0, op := Op.assign (Operand.tmp 41), type := 4, pos := "play.go:101", after := #[{ on := 18, ground := Ground.data }, { on := 14, ground := Ground.chain }, { on := 0, ground := Ground.phase }, { on := 1, ground := Ground.phase }, { on := 2, ground := Ground.phase }, { on := 3, ground := Ground.phase }, { on := 4, ground := Ground.phase }, { on := 5, ground := Ground.phase }, { on := 6, ground := Ground.phase }, { on := 7, ground := Ground.phase }, { on := 8, ground := Ground.phase }, { on := 9, ground := Ground.phase }, { on := 10, ground := Ground.phase }, { on := 11, ground := Ground.phase }, { on := 12, ground := Ground.phase }, { on := 13, ground := Ground.phase }, { on := 14, ground := Ground.phase }, { on := 15, ground := Ground.phase }, { on := 16, ground := Ground.phase }, { on := 17, ground := Ground.phase }, { on := 18, ground := Ground.phase }], guard := none }) (v := ?va233) rfl (by kernel_rfl) (by kernel_rfl) (by kernel_rfl) rfl (fun _ _ _ h => h) (Or.inl ⟨by rfl, ?ya233⟩) (fun _ => by assumption) ?ra233
        case ya233 => (intro w _; go_simp; first | done | (with_reducible rfl))
        try simp only [Act.put, List.setIfInBounds_toArray, List.set_cons_zero, List.set_cons_succ]
        refine doneL (by kernel_rfl) ?_ _
        refine NoPanic.normal ?_
        have HL15 := Lib.hid L15
        go_wp2_with fail
        go_ret
        exact ⟨rfl, HL15.out⟩
    · skip
      go_simp
      refine K_world ?_
      intro wa11 e11
      have hb11 : Below wa0.heap.size wa0 wa11 := by rw [e11]; exact (Below.refl _ _).alloc (Nat.le_refl _) _
      have M11 : Box wa11 wa0.heap.size [.int .i64 0, .int .i64 0, .int .i64 0] 42 := by rw [e11]; exact Box.new' _ _ _ _ rfl
      have Z11 : w.heap.size ≤ wa0.heap.size := L0.size
      have Bx11 := Bx0.stays hb11
      have L11 := below_trans L0 hb11 L0.size
      have P11 := P0.below hb11 (Nat.le_refl _)
      have T11 := T0.below hb11 (Nat.le_refl _)
      clear hb11 e11
      refine hK.out _ _ ⟨Bx11.cell 0 rfl, Bx11.cell 1 rfl, Bx11.cell 2 rfl, Bx11.cell 3 rfl, Bx11.cell 4 rfl⟩ (fun hHeld => ?_)
      clear hK K
      try simp only [Act.put, List.setIfInBounds_toArray, List.set_cons_zero, List.set_cons_succ]
      refine readyL (rs := [2]) (by kernel_rfl) (by simp) ?_
      refine (AllReadyL.cons (o := { dst := some 15, op := Op.call { callee := Callee.value (Operand.func 70), args := #[Operand.const (Value.int IntKind.i64 3)], argTypes := #[3] }, type := 42, pos := "play.go:100", after := #[{ on := 0, ground := Ground.chain }], guard := none }) rfl (fun K hK => ?_) AllReadyL.nil)
      go_simp
      refine (drop_any _ _).mono ?_
      rintro e wa2 ⟨rfl, hb2⟩
      have Bx2 := Bx11.stays hb2
      have L2 := below_trans L11 hb2 L11.size
      have P2 := P11.below hb2 (Nat.le_refl _)
      have T2 := T11.below hb2 (Nat.le_refl _)
      have M2 := M11.stays hb2
      clear hb2
      refine hK.out _ _ ⟨Bx2.cell 0 rfl, Bx2.cell 1 rfl, Bx2.cell 2 rfl, Bx2.cell 3 rfl, Bx2.cell 4 rfl⟩ (fun hHeld => ?_)
      clear hK K
      try simp only [Act.put, List.setIfInBounds_toArray, List.set_cons_zero, List.set_cons_succ]
      refine takeW (i := 3) (oi := { dst := some 16, op := Op.build 121 #[(0, Operand.const (Value.int IntKind.i64 0)), (1, Operand.tmp 15)], type := 121, pos := "play.go:100", after := #[{ on := 2, ground := Ground.data }], guard := none }) (v := ?va234) rfl (by kernel_rfl) (by kernel_rfl) (by kernel_rfl) rfl (fun _ _ _ h => h) (Or.inl ⟨by rfl, ?ya234⟩) (fun _ => by assumption) ?ra234
      case ya234 => (intro w _; go_simp; first | done | (with_reducible rfl))
      try simp only [Act.put, List.setIfInBounds_toArray, List.set_cons_zero, List.set_cons_succ]
      refine readyL (rs := [4]) (by kernel_rfl) (by simp) ?_
      refine (AllReadyL.cons (o := { dst := some 17, op := Op.buildSlice 62 1 #[(0, Operand.tmp 16)], type := 62, pos := "play.go:100", after := #[{ on := 3, ground := Ground.data }], guard := none }) rfl (fun K hK => ?_) AllReadyL.nil)
      go_simp
      refine K_world ?_
      intro wa4 e4
      have hb4 : Below wa2.heap.size wa2 wa4 := by rw [e4]; exact (Below.refl _ _).alloc (Nat.le_refl _) _
      have X4 : RdL premEl wa4 (.slice (some ⟨wa2.heap.size, 0, none⟩) 1 1) [⟨0, ⟨-1, 3, 0⟩⟩] := rd_prem1 e4
      have Bx4 := Bx2.stays hb4
      have L4 := below_trans L2 hb4 L2.size
      have P4 := P2.below hb4 (Nat.le_refl _)
      have T4 := T2.below hb4 (Nat.le_refl _)
      have M4 := M2.stays hb4
      clear hb4 e4
      refine hK.out _ _ ⟨Bx4.cell 0 rfl, Bx4.cell 1 rfl, Bx4.cell 2 rfl, Bx4.cell 3 rfl, Bx4.cell 4 rfl⟩ (fun hHeld => ?_)
      clear hK K
      try simp only [Act.put, List.setIfInBounds_toArray, List.set_cons_zero, List.set_cons_succ]
      refine readyL (rs := [5]) (by kernel_rfl) (by simp) ?_
      refine (AllReadyL.cons (o := { dst := some 18, op := Op.call { callee := Callee.value (Operand.func 76), args := #[Operand.tmp 13, Operand.tmp 14, Operand.tmp 17], argTypes := #[26, 37, 62] }, type := 118, pos := "play.go:100", after := #[{ on := 0, ground := Ground.data }, { on := 1, ground := Ground.data }, { on := 4, ground := Ground.data }, { on := 2, ground := Ground.chain }], guard := none }) rfl (fun K hK => ?_) AllReadyL.nil)
      go_simp
      refine (Next_any HSh.out ticZ vp0 vs0 ve0 (beginZ ticZ) _ _ _ _ [⟨0, ⟨-1, 3, 0⟩⟩] _ T4 (by unfold maxLen; decide) P4 X4 (by decide)).mono ?_
      rintro e wa5 (⟨hbad, -⟩ | ⟨-, v5, he5, ho5, hb5⟩)
      · exact absurd tic_pcheck hbad
      rw [tic_next.1, tic_next.2.1] at he5
      rw [tic_next.2.2] at ho5
      subst he5
      obtain ⟨a5, c5, rfl⟩ := own_form2 ho5
      have Bx5 := Bx4.stays hb5
      have L5 := below_trans L4 hb5 L4.size
      have P5 := P4.below hb5 (Nat.le_refl _)
      have T5 := T4.below hb5 (Nat.le_refl _)
      have X5 := X4.below hb5 (Nat.le_refl _)
      have M5 := M4.stays hb5
      have O5 := ho5
      clear hb5 ho5
      refine hK.out _ _ ⟨Bx5.cell 0 rfl, Bx5.cell 1 rfl, Bx5.cell 2 rfl, Bx5.cell 3 rfl, Bx5.cell 4 rfl⟩ (fun hHeld => ?_)
      clear hK K
      try simp only [Act.put, List.setIfInBounds_toArray, List.set_cons_zero, List.set_cons_succ]
      refine takeW (i := 6) (oi := { dst := some 12, op := Op.move (Operand.tmp 18), type := 118, pos := "play.go:100", after := #[{ on := 5, ground := Ground.data }], guard := none }) (v := ?va235) rfl (by kernel_rfl) (by kernel_rfl) (by kernel_rfl) rfl (fun _ _ _ h => h) (Or.inl ⟨by rfl, ?ya235⟩) (fun _ => by assumption) ?ra235
      case ya235 => (intro w _; go_simp; first | done | (with_reducible rfl))
      try simp only [Act.put, List.setIfInBounds_toArray, List.set_cons_zero, List.set_cons_succ]
      refine takeW (i := 7) (oi := { dst := some 19, op := Op.extract (Operand.tmp 12) 0, type := 42, pos := "play.go:100", after := #[{ on := 6, ground := Ground.data }], guard := none }) (v := ?va236) rfl (by kernel_rfl) (by kernel_rfl) (by kernel_rfl) rfl (fun _ _ _ h => h) (Or.inl ⟨by rfl, ?ya236⟩) (fun _ => by assumption) ?ra236
      case ya236 => (intro w _; go_simp; first | done | (with_reducible rfl))
      try simp only [Act.put, List.setIfInBounds_toArray, List.set_cons_zero, List.set_cons_succ]
      refine takeW (i := 8) (oi := { dst := some 20, op := Op.extract (Operand.tmp 12) 1, type := 4, pos := "play.go:100", after := #[{ on := 6, ground := Ground.data }, { on := 12, ground := Ground.gcOnly Departure.lateStores }], guard := none }) (v := ?va237) rfl (by kernel_rfl) (by kernel_rfl) (by kernel_rfl) rfl (fun _ _ _ h => h) (Or.inl ⟨by rfl, ?ya237⟩) (fun _ => by assumption) ?ra237
      case ya237 => (intro w _; go_simp; first | done | (with_reducible rfl))
      try simp only [Act.put, List.setIfInBounds_toArray, List.set_cons_zero, List.set_cons_succ]
      refine takeW (i := 9) (oi := { dst := some 21, op := Op.extract (Operand.tmp 12) 2, type := 62, pos := "play.go:100", after := #[{ on := 6, ground := Ground.data }, { on := 13, ground := Ground.gcOnly Departure.lateStores }], guard := none }) (v := ?va238) rfl (by kernel_rfl) (by kernel_rfl) (by kernel_rfl) rfl (fun _ _ _ h => h) (Or.inl ⟨by rfl, ?ya238⟩) (fun _ => by assumption) ?ra238
      case ya238 => (intro w _; go_simp; first | done | (with_reducible rfl))
      try simp only [Act.put, List.setIfInBounds_toArray, List.set_cons_zero, List.set_cons_succ]
      refine takeW (i := 10) (oi := { dst := some 22, op := Op.extract (Operand.tmp 12) 3, type := 29, pos := "play.go:100", after := #[{ on := 6, ground := Ground.data }, { on := 14, ground := Ground.gcOnly Departure.lateStores }], guard := none }) (v := ?va239) rfl (by kernel_rfl) (by kernel_rfl) (by kernel_rfl) rfl (fun _ _ _ h => h) (Or.inl ⟨by rfl, ?ya239⟩) (fun _ => by assumption) ?ra239
      case ya239 => (intro w _; go_simp; first | done | (with_reducible rfl))
      try simp only [Act.put, List.setIfInBounds_toArray, List.set_cons_zero, List.set_cons_succ]
      refine readyL (rs := [12]) (by kernel_rfl) (by simp) ?_
      refine (AllReadyL.late (o := { dst := none, op := Op.store 42 (Operand.tmp 3) (Operand.tmp 19), type := 0, pos := "play.go:100", after := #[{ on := 11, ground := Ground.data }, { on := 7, ground := Ground.data }, { on := 5, ground := Ground.chain }, { on := 0, ground := Ground.phase }, { on := 1, ground := Ground.phase }, { on := 2, ground := Ground.phase }, { on := 3, ground := Ground.phase }, { on := 4, ground := Ground.phase }, { on := 5, ground := Ground.phase }, { on := 6, ground := Ground.phase }, { on := 7, ground := Ground.phase }, { on := 8, ground := Ground.textOnly Departure.lateStores }, { on := 9, ground := Ground.textOnly Departure.lateStores }, { on := 10, ground := Ground.textOnly Departure.lateStores }, { on := 11, ground := Ground.phase }], guard := none }) rfl (by kernel_rfl) (fun K hK => ?_) AllReadyL.nil)
      have d0 := M5.cell 0 rfl
      have d1 := M5.cell 1 rfl
      have d2 := M5.cell 2 rfl
      have d0f := M5.frozen 0
      have d1f := M5.frozen 1
      have d2f := M5.frozen 2
      go_simp
      refine K_world ?_
      intro wa12 e12
      have E12 : wa12 = wa5.setCells wa0.heap.size 0 [.int .i64 (-1), .int .i64 3, .int .i64 0] := e12
      have M12 : Box wa12 wa0.heap.size [.int .i64 (-1), .int .i64 3, .int .i64 0] 42 := by rw [E12]; exact M5.store rfl
      have L12 : Below w.heap.size w wa12 := by rw [E12]; exact below_setCells L5 Z11 0 _
      clear e12 E12 d0 d1 d2 d0f d1f d2f
      refine hK.out _ _ ?_
      clear hK K
      try simp only [Act.put, List.setIfInBounds_toArray, List.set_cons_zero, List.set_cons_succ]
      refine takeW (i := 13) (oi := { dst := some 4, op := Op.assign (Operand.tmp 20), type := 4, pos := "play.go:100", after := #[{ on := 8, ground := Ground.data }, { on := 12, ground := Ground.chain }, { on := 0, ground := Ground.phase }, { on := 1, ground := Ground.phase }, { on := 2, ground := Ground.phase }, { on := 3, ground := Ground.phase }, { on := 4, ground := Ground.phase }, { on := 5, ground := Ground.phase }, { on := 6, ground := Ground.phase }, { on := 7, ground := Ground.phase }, { on := 8, ground := Ground.phase }, { on := 9, ground := Ground.textOnly Departure.lateStores }, { on := 10, ground := Ground.textOnly Departure.lateStores }, { on := 11, ground := Ground.phase }, { on := 12, ground := Ground.phase }], guard := none }) (v := ?va240) rfl (by kernel_rfl) (by kernel_rfl) (by kernel_rfl) rfl (fun _ _ _ h => h) (Or.inl ⟨by rfl, ?ya240⟩) (fun he => by cases he) ?ra240
      case ya240 => (intro w _; go_simp; first | done | (with_reducible rfl))
      try simp only [Act.put, List.setIfInBounds_toArray, List.set_cons_zero, List.set_cons_succ]
      refine takeW (i := 14) (oi := { dst := some 5, op := Op.assign (Operand.tmp 21), type := 62, pos := "play.go:100", after := #[{ on := 9, ground := Ground.data }, { on := 13, ground := Ground.chain }, { on := 0, ground := Ground.phase }, { on := 1, ground := Ground.phase }, { on := 2, ground := Ground.phase }, { on := 3, ground := Ground.phase }, { on := 4, ground := Ground.phase }, { on := 5, ground := Ground.phase }, { on := 6, ground := Ground.phase }, { on := 7, ground := Ground.phase }, { on := 8, ground := Ground.phase }, { on := 9, ground := Ground.phase }, { on := 10, ground := Ground.textOnly Departure.lateStores }, { on := 11, ground := Ground.phase }, { on := 12, ground := Ground.phase }, { on := 13, ground := Ground.phase }], guard := none }) (v := ?va241) rfl (by kernel_rfl) (by kernel_rfl) (by kernel_rfl) rfl (fun _ _ _ h => h) (Or.inl ⟨by rfl, ?ya241⟩) (fun he => by cases he) ?ra241
      case ya241 => (intro w _; go_simp; first | done | (with_reducible rfl))
      try simp only [Act.put, List.setIfInBounds_toArray, List.set_cons_zero, List.set_cons_succ]
      refine takeW (i := 15) (oi := { dst := some 6, op := Op.assign (Operand.tmp 22), type := 29, pos := "play.go:100", after := #[{ on := 10, ground := Ground.data }, { on := 14, ground := Ground.chain }, { on := 0, ground := Ground.phase }, { on := 1, ground := Ground.phase }, { on := 2, ground := Ground.phase }, { on := 3, ground := Ground.phase }, { on := 4, ground := Ground.phase }, { on := 5, ground := Ground.phase }, { on := 6, ground := Ground.phase }, { on := 7, ground := Ground.phase }, { on := 8, ground := Ground.phase }, { on := 9, ground := Ground.phase }, { on := 10, ground := Ground.phase }, { on := 11, ground := Ground.phase }, { on := 12, ground := Ground.phase }, { on := 13, ground := Ground.phase }, { on := 14, ground := Ground.phase }], guard := none }) (v := ?va242) rfl (by kernel_rfl) (by kernel_rfl) (by kernel_rfl) rfl (fun _ _ _ h => h) (Or.inl ⟨by rfl, ?ya242⟩) (fun he => by cases he) ?ra242
      case ya242 => (intro w _; go_simp; first | done | (with_reducible rfl))
      try simp only [Act.put, List.setIfInBounds_toArray, List.set_cons_zero, List.set_cons_succ]
      refine doneL (by kernel_rfl) ?_ _
      refine NoPanic.normal ?_
      have HX12 := Lib.hid M12
      have HL12 := Lib.hid L12
      have hkk := True.intro
      clear M12 L12
      go_upto_region 3 with (fail)
      have M14 : Box wa12.drew wa0.heap.size [.int .i64 (-1), .int .i64 3, .int .i64 0] 42 := HX12.out
      have L14 : Below w.heap.size w wa12.drew := below_drew' HL12.out
      clear HX12 HL12
      refine wp_region_noPanic ?_
      refine beginL (S := (fun w' => w'.cell? ⟨wa0.heap.size, 0, none⟩ = some (.int .i64 (-1)) ∧ w'.cell? ⟨wa0.heap.size, 1, none⟩ = some (.int .i64 3) ∧ w'.cell? ⟨wa0.heap.size, 2, none⟩ = some (.int .i64 0))) (L := []) (by kernel_rfl) ⟨M14.cell 0 rfl, M14.cell 1 rfl, M14.cell 2 rfl⟩ (fun hHeld => ?_)
      refine takeW (i := 0) (oi := { dst := some 23, op := Op.move (Operand.tmp 2), type := 29, pos := "play.go:101", after := #[], guard := none }) (v := ?va293) rfl (by kernel_rfl) (by kernel_rfl) (by kernel_rfl) rfl (fun _ _ _ h => h) (Or.inl ⟨by rfl, ?ya293⟩) (fun _ => by assumption) ?ra293
      case ya293 => (intro w _; go_simp; first | done | (with_reducible rfl))
      try simp only [Act.put, List.setIfInBounds_toArray, List.set_cons_zero, List.set_cons_succ]
      refine takeW (i := 1) (oi := { dst := some 24, op := Op.binOp BinOp.eql 29 (Operand.tmp 23) (Operand.const (Value.int IntKind.i64 0)) 29, type := 4, pos := "play.go:101", after := #[{ on := 0, ground := Ground.data }], guard := none }) (v := ?va294) rfl (by kernel_rfl) (by kernel_rfl) (by kernel_rfl) rfl (fun _ _ _ h => h) (Or.inl ⟨by rfl, ?ya294⟩) (fun _ => by assumption) ?ra294
      case ya294 => (intro w _; go_simp; first | done | (with_reducible rfl))
      try simp only [Act.put, List.setIfInBounds_toArray, List.set_cons_zero, List.set_cons_succ]
      refine takeW (i := 2) (oi := { dst := some 25, op := Op.move (Operand.tmp 24), type := 4, pos := "play.go:101", after := #[{ on := 1, ground := Ground.data }], guard := none }) (v := ?va295) rfl (by kernel_rfl) (by kernel_rfl) (by kernel_rfl) rfl (fun _ _ _ h => h) (Or.inl ⟨by rfl, ?ya295⟩) (fun _ => by assumption) ?ra295
      case ya295 => (intro w _; go_simp; first | done | (with_reducible rfl))
      try simp only [Act.put, List.setIfInBounds_toArray, List.set_cons_zero, List.set_cons_succ]
      refine takeW (i := 3) (oi := { dst := some 26, op := Op.move (Operand.tmp 6), type := 29, pos := "play.go:101", after := #[{ on := 2, ground := Ground.guard }], guard := some (2, true) }) (v := ?va296) rfl (by kernel_rfl) (by kernel_rfl) (by kernel_rfl) rfl (fun _ _ _ h => h) (Or.inl ⟨by rfl, ?ya296⟩) (fun _ => by assumption) ?ra296
      case ya296 => (intro w _; go_simp; first | done | (with_reducible rfl))
      try simp only [Act.put, List.setIfInBounds_toArray, List.set_cons_zero, List.set_cons_succ]
      refine takeW (i := 4) (oi := { dst := some 27, op := Op.binOp BinOp.eql 29 (Operand.tmp 26) (Operand.const (Value.int IntKind.i64 0)) 29, type := 4, pos := "play.go:101", after := #[{ on := 3, ground := Ground.data }, { on := 2, ground := Ground.guard }], guard := some (2, true) }) (v := ?va297) rfl (by kernel_rfl) (by kernel_rfl) (by kernel_rfl) rfl (fun _ _ _ h => h) (Or.inl ⟨by rfl, ?ya297⟩) (fun _ => by assumption) ?ra297
      case ya297 => (intro w _; go_simp; first | done | (with_reducible rfl))
      try simp only [Act.put, List.setIfInBounds_toArray, List.set_cons_zero, List.set_cons_succ]
      refine takeW (i := 5) (oi := { dst := some 28, op := Op.pick (Operand.tmp 25) (Operand.tmp 27) (Operand.const (Value.bool false)), type := 4, pos := "play.go:101", after := #[{ on := 2, ground := Ground.data }, { on := 4, ground := Ground.data }], guard := none }) (v := ?va298) rfl (by kernel_rfl) (by kernel_rfl) (by kernel_rfl) rfl (fun _ _ _ h => h) (Or.inl ⟨by rfl, ?ya298⟩) (fun _ => by assumption) ?ra298
      case ya298 => (intro w _; go_simp; first | done | (with_reducible rfl))
      try simp only [Act.put, List.setIfInBounds_toArray, List.set_cons_zero, List.set_cons_succ]
      refine takeW (i := 6) (oi := { dst := some 29, op := Op.move (Operand.tmp 28), type := 4, pos := "play.go:101", after := #[{ on := 5, ground := Ground.data }, { on := 2, ground := Ground.chain }], guard := none }) (v := ?va299) rfl (by kernel_rfl) (by kernel_rfl) (by kernel_rfl) rfl (fun _ _ _ h => h) (Or.inl ⟨by rfl, ?ya299⟩) (fun _ => by assumption) ?ra299
      case ya299 => (intro w _; go_simp; first | done | (with_reducible rfl))
      try simp only [Act.put, List.setIfInBounds_toArray, List.set_cons_zero, List.set_cons_succ]
      refine takeW (i := 7) (oi := { dst := some 30, op := Op.move (Operand.tmp 4), type := 4, pos := "play.go:101", after := #[{ on := 6, ground := Ground.guard }], guard := some (6, true) }) (v := ?va300) rfl (by kernel_rfl) (by kernel_rfl) (by kernel_rfl) rfl (fun _ _ _ h => h) (Or.inl ⟨by rfl, ?ya300⟩) (fun _ => by assumption) ?ra300
      case ya300 => (intro w _; go_simp; first | done | (with_reducible rfl))
      try simp only [Act.put, List.setIfInBounds_toArray, List.set_cons_zero, List.set_cons_succ]
      refine takeW (i := 8) (oi := { dst := some 31, op := Op.pick (Operand.tmp 29) (Operand.tmp 30) (Operand.const (Value.bool false)), type := 4, pos := "play.go:101", after := #[{ on := 6, ground := Ground.data }, { on := 7, ground := Ground.data }], guard := none }) (v := ?va301) rfl (by kernel_rfl) (by kernel_rfl) (by kernel_rfl) rfl (fun _ _ _ h => h) (Or.inl ⟨by rfl, ?ya301⟩) (fun _ => by assumption) ?ra301
      case ya301 => (intro w _; go_simp; first | done | (with_reducible rfl))
      try simp only [Act.put, List.setIfInBounds_toArray, List.set_cons_zero, List.set_cons_succ]
      refine takeW (i := 9) (oi := { dst := some 32, op := Op.move (Operand.tmp 31), type := 4, pos := "play.go:101", after := #[{ on := 8, ground := Ground.data }, { on := 6, ground := Ground.chain }], guard := none }) (v := ?va302) rfl (by kernel_rfl) (by kernel_rfl) (by kernel_rfl) rfl (fun _ _ _ h => h) (Or.inl ⟨by rfl, ?ya302⟩) (fun _ => by assumption) ?ra302
      case ya302 => (intro w _; go_simp; first | done | (with_reducible rfl))
      try simp only [Act.put, List.setIfInBounds_toArray, List.set_cons_zero, List.set_cons_succ]
      refine takeL (i := 10) (oi := { dst := some 33, op := Op.load 42 (Operand.tmp 3), type := 42, pos := "play.go:101", after := #[{ on := 9, ground := Ground.guard }], guard := some (9, true) }) (v := ?va303) rfl (by kernel_rfl) (by kernel_rfl) (by kernel_rfl) (by kernel_rfl) rfl (by kernel_rfl) (by kernel_rfl) (fun _ _ _ h => h) (Or.inl ⟨by rfl, ?ya303⟩) (by assumption) ?ra303
      case ya303 => (intro w hSw; (try dsimp only at hSw); go_simp; first | done | (with_reducible rfl))
      try simp only [Act.put, List.setIfInBounds_toArray, List.set_cons_zero, List.set_cons_succ]
      refine readyL (rs := [11]) (by kernel_rfl) (by simp) ?_
      refine (AllReadyL.cons (o := { dst := some 34, op := Op.call { callee := Callee.value (Operand.func 70), args := #[Operand.const (Value.int IntKind.i64 3)], argTypes := #[3] }, type := 42, pos := "play.go:101", after := #[{ on := 9, ground := Ground.chain }, { on := 9, ground := Ground.guard }], guard := some (9, true) }) rfl (fun K hK => ?_) AllReadyL.nil)
      go_simp
      refine (drop_any _ _).mono ?_
      rintro e wd ⟨rfl, hbd⟩
      have M15 := M14.stays hbd
      have L15 := below_trans L14 hbd L14.size
      clear hbd
      refine hK.out _ _ ⟨M15.cell 0 rfl, M15.cell 1 rfl, M15.cell 2 rfl⟩ (fun hHeld => ?_)
      clear hK K
      try simp only [Act.put, List.setIfInBounds_toArray, List.set_cons_zero, List.set_cons_succ]
      refine takeW (i := 12) (oi := { dst := some 35, op := Op.binOp BinOp.eql 42 (Operand.tmp 33) (Operand.tmp 34) 42, type := 4, pos := "play.go:101", after := #[{ on := 10, ground := Ground.data }, { on := 11, ground := Ground.data }, { on := 9, ground := Ground.guard }], guard := some (9, true) }) (v := ?va304) rfl (by kernel_rfl) (by kernel_rfl) (by kernel_rfl) rfl (fun _ _ _ h => h) (Or.inl ⟨by rfl, ?ya304⟩) (fun _ => by assumption) ?ra304
      case ya304 => (intro w _; go_simp; first | done | (with_reducible rfl))
      try simp only [Act.put, List.setIfInBounds_toArray, List.set_cons_zero, List.set_cons_succ]
      refine takeW (i := 13) (oi := { dst := some 36, op := Op.pick (Operand.tmp 32) (Operand.tmp 35) (Operand.const (Value.bool false)), type := 4, pos := "play.go:101", after := #[{ on := 9, ground := Ground.data }, { on := 12, ground := Ground.data }], guard := none }) (v := ?va305) rfl (by kernel_rfl) (by kernel_rfl) (by kernel_rfl) rfl (fun _ _ _ h => h) (Or.inl ⟨by rfl, ?ya305⟩) (fun _ => by assumption) ?ra305
      case ya305 => (intro w _; go_simp; first | done | (with_reducible rfl))
      try simp only [Act.put, List.setIfInBounds_toArray, List.set_cons_zero, List.set_cons_succ]
      refine takeW (i := 14) (oi := { dst := some 37, op := Op.move (Operand.tmp 36), type := 4, pos := "play.go:101", after := #[{ on := 13, ground := Ground.data }, { on := 11, ground := Ground.chain }], guard := none }) (v := ?va306) rfl (by kernel_rfl) (by kernel_rfl) (by kernel_rfl) rfl (fun _ _ _ h => h) (Or.inl ⟨by rfl, ?ya306⟩) (fun _ => by assumption) ?ra306
      case ya306 => (intro w _; go_simp; first | done | (with_reducible rfl))
      try simp only [Act.put, List.setIfInBounds_toArray, List.set_cons_zero, List.set_cons_succ]
      refine takeW (i := 15) (oi := { dst := some 38, op := Op.move (Operand.tmp 5), type := 62, pos := "play.go:101", after := #[{ on := 14, ground := Ground.guard }], guard := some (14, true) }) (v := ?va307) rfl (by kernel_rfl) (by kernel_rfl) (by kernel_rfl) rfl (fun _ _ _ h => h) (Or.inl ⟨by rfl, ?ya307⟩) (fun _ => by assumption) ?ra307
      case ya307 => (intro w _; go_simp; first | done | (with_reducible rfl))
      try simp only [Act.put, List.setIfInBounds_toArray, List.set_cons_zero, List.set_cons_succ]
      refine takeW (i := 16) (oi := { dst := some 39, op := Op.call { callee := Callee.builtin Builtin.len, args := #[Operand.tmp 38], argTypes := #[62] }, type := 3, pos := "play.go:101", after := #[{ on := 15, ground := Ground.data }, { on := 14, ground := Ground.guard }], guard := some (14, true) }) (v := ?va308) rfl (by kernel_rfl) (by kernel_rfl) (by kernel_rfl) rfl (fun _ _ _ h => h) (Or.inl ⟨by rfl, ?ya308⟩) (fun _ => by assumption) ?ra308
      case ya308 => (intro w _; go_simp; first | done | (with_reducible rfl))
      try simp only [Act.put, List.setIfInBounds_toArray, List.set_cons_zero, List.set_cons_succ]
      refine takeW (i := 17) (oi := { dst := some 40, op := Op.binOp BinOp.eql 3 (Operand.tmp 39) (Operand.const (Value.int IntKind.i64 0)) 3, type := 4, pos := "play.go:101", after := #[{ on := 16, ground := Ground.data }, { on := 14, ground := Ground.guard }], guard := some (14, true) }) (v := ?va309) rfl (by kernel_rfl) (by kernel_rfl) (by kernel_rfl) rfl (fun _ _ _ h => h) (Or.inl ⟨by rfl, ?ya309⟩) (fun _ => by assumption) ?ra309
      case ya309 => (intro w _; go_simp; first | done | (with_reducible rfl))
      try simp only [Act.put, List.setIfInBounds_toArray, List.set_cons_zero, List.set_cons_succ]
      refine takeW (i := 18) (oi := { dst := some 41, op := Op.pick (Operand.tmp 37) (Operand.tmp 40) (Operand.const (Value.bool false)), type := 4, pos := "play.go:101", after := #[{ on := 14, ground := Ground.data }, { on := 17, ground := Ground.data }], guard := none }) (v := ?va310) rfl (by kernel_rfl) (by kernel_rfl) (by kernel_rfl) rfl (fun _ _ _ h => h) (Or.inl ⟨by rfl, ?ya310⟩) (fun _ => by assumption) ?ra310
      case ya310 => (intro w _; go_simp; first | done | (with_reducible rfl))
      try simp only [Act.put, List.setIfInBounds_toArray, List.set_cons_zero, List.set_cons_succ]
      refine takeW (i := 19) (oi := { dst := some 0, op := Op.assign (Operand.tmp 41), type := 4, pos := "play.go:101", after := #[{ on := 18, ground := Ground.data }, { on := 14, ground := Ground.chain }, { on := 0, ground := Ground.phase }, { on := 1, ground := Ground.phase }, { on := 2, ground := Ground.phase }, { on := 3, ground := Ground.phase }, { on := 4, ground := Ground.phase }, { on := 5, ground := Ground.phase }, { on := 6, ground := Ground.phase }, { on := 7, ground := Ground.phase }, { on := 8, ground := Ground.phase }, { on := 9, ground := Ground.phase }, { on := 10, ground := Ground.phase }, { on := 11, ground := Ground.phase }, { on := 12, ground := Ground.phase }, { on := 13, ground := Ground.phase }, { on := 14, ground := Ground.phase }, { on := 15, ground := Ground.phase }, { on := 16, ground := Ground.phase }, { on := 17, ground := Ground.phase }, { on := 18, ground := Ground.phase }], guard := none }) (v := ?va311) rfl (by kernel_rfl) (by kernel_rfl) (by kernel_rfl) rfl (fun _ _ _ h => h) (Or.inl ⟨by rfl, ?ya311⟩) (fun _ => by assumption) ?ra311
      case ya311 => (intro w _; go_simp; first | done | (with_reducible rfl))
      try simp only [Act.put, List.setIfInBounds_toArray, List.set_cons_zero, List.set_cons_succ]
      refine doneL (by kernel_rfl) ?_ _
      refine NoPanic.normal ?_
      have HL15 := Lib.hid L15
      go_wp2_with fail
      go_ret
      exact ⟨rfl, HL15.out⟩
  · skip
    go_simp
    refine K_world ?_
    intro wa11 e11
    have hb11 : Below w2.drew.heap.size w2.drew wa11 := by rw [e11]; exact (Below.refl _ _).alloc (Nat.le_refl _) _
    have M11 : Box wa11 w2.heap.size [.int .i64 0, .int .i64 0, .int .i64 0] 42 := by rw [e11]; exact Box.new' _ _ _ _ rfl
    have Z11 : w.heap.size ≤ w2.heap.size := Lz.size
    have Bx11 := Bxz.stays hb11
    have L11 := below_trans Lz hb11 Lz.size
    have P11 := Pz.below hb11 (Nat.le_refl _)
    clear hb11 e11
    refine hK.out _ _ ⟨Bx11.cell 0 rfl, Bx11.cell 1 rfl, Bx11.cell 2 rfl, Bx11.cell 3 rfl, Bx11.cell 4 rfl⟩ (fun hHeld => ?_)
    clear hK K
    try simp only [Act.put, List.setIfInBounds_toArray, List.set_cons_zero, List.set_cons_succ]
    refine readyL (rs := [0]) (by kernel_rfl) (by simp) ?_
    refine (AllReadyL.cons (o := { dst := some 13, op := Op.call { callee := Callee.value (Operand.func 69), args := #[], argTypes := #[] }, type := 26, pos := "play.go:100", after := #[], guard := none }) rfl (fun K hK => ?_) AllReadyL.nil)
    go_simp
    refine (tic_any _).mono ?_
    rintro e wa0 ⟨vp0, vs0, ve0, rfl, hr0, hb0⟩
    have Bx0 := Bx11.stays hb0
    have L0 := below_trans L11 hb0 L11.size
    have P0 := P11.below hb0 (Nat.le_refl _)
    have M0 := M11.stays hb0
    have T0 := hr0
    clear hb0 hr0
    refine hK.out _ _ ⟨Bx0.cell 0 rfl, Bx0.cell 1 rfl, Bx0.cell 2 rfl, Bx0.cell 3 rfl, Bx0.cell 4 rfl⟩ (fun hHeld => ?_)
    clear hK K
    try simp only [Act.put, List.setIfInBounds_toArray, List.set_cons_zero, List.set_cons_succ]
    refine readyL (rs := [2]) (by kernel_rfl) (by simp) ?_
    refine (AllReadyL.cons (o := { dst := some 15, op := Op.call { callee := Callee.value (Operand.func 70), args := #[Operand.const (Value.int IntKind.i64 3)], argTypes := #[3] }, type := 42, pos := "play.go:100", after := #[{ on := 0, ground := Ground.chain }], guard := none }) rfl (fun K hK => ?_) AllReadyL.nil)
    go_simp
    refine (drop_any _ _).mono ?_
    rintro e wa2 ⟨rfl, hb2⟩
    have Bx2 := Bx0.stays hb2
    have L2 := below_trans L0 hb2 L0.size
    have P2 := P0.below hb2 (Nat.le_refl _)
    have T2 := T0.below hb2 (Nat.le_refl _)
    have M2 := M0.stays hb2
    clear hb2
    refine hK.out _ _ ⟨Bx2.cell 0 rfl, Bx2.cell 1 rfl, Bx2.cell 2 rfl, Bx2.cell 3 rfl, Bx2.cell 4 rfl⟩ (fun hHeld => ?_)
    clear hK K
    try simp only [Act.put, List.setIfInBounds_toArray, List.set_cons_zero, List.set_cons_succ]
    refine takeW (i := 3) (oi := { dst := some 16, op := Op.build 121 #[(0, Operand.const (Value.int IntKind.i64 0)), (1, Operand.tmp 15)], type := 121, pos := "play.go:100", after := #[{ on := 2, ground := Ground.data }], guard := none }) (v := ?va312) rfl (by kernel_rfl) (by kernel_rfl) (by kernel_rfl) rfl (fun _ _ _ h => h) (Or.inl ⟨by rfl, ?ya312⟩) (fun _ => by assumption) ?ra312
    case ya312 => (intro w _; go_simp; first | done | (with_reducible rfl))
    try simp only [Act.put, List.setIfInBounds_toArray, List.set_cons_zero, List.set_cons_succ]
    refine readyL (rs := [4]) (by kernel_rfl) (by simp) ?_
    refine (AllReadyL.cons (o := { dst := some 17, op := Op.buildSlice 62 1 #[(0, Operand.tmp 16)], type := 62, pos := "play.go:100", after := #[{ on := 3, ground := Ground.data }], guard := none }) rfl (fun K hK => ?_) AllReadyL.nil)
    go_simp
    refine K_world ?_
    intro wa4 e4
    have hb4 : Below wa2.heap.size wa2 wa4 := by rw [e4]; exact (Below.refl _ _).alloc (Nat.le_refl _) _
    have X4 : RdL premEl wa4 (.slice (some ⟨wa2.heap.size, 0, none⟩) 1 1) [⟨0, ⟨-1, 3, 0⟩⟩] := rd_prem1 e4
    have Bx4 := Bx2.stays hb4
    have L4 := below_trans L2 hb4 L2.size
    have P4 := P2.below hb4 (Nat.le_refl _)
    have T4 := T2.below hb4 (Nat.le_refl _)
    have M4 := M2.stays hb4
    clear hb4 e4
    refine hK.out _ _ ⟨Bx4.cell 0 rfl, Bx4.cell 1 rfl, Bx4.cell 2 rfl, Bx4.cell 3 rfl, Bx4.cell 4 rfl⟩ (fun hHeld => ?_)
    clear hK K
    try simp only [Act.put, List.setIfInBounds_toArray, List.set_cons_zero, List.set_cons_succ]
    refine readyL (rs := [5]) (by kernel_rfl) (by simp) ?_
    refine (AllReadyL.cons (o := { dst := some 18, op := Op.call { callee := Callee.value (Operand.func 76), args := #[Operand.tmp 13, Operand.tmp 14, Operand.tmp 17], argTypes := #[26, 37, 62] }, type := 118, pos := "play.go:100", after := #[{ on := 0, ground := Ground.data }, { on := 1, ground := Ground.data }, { on := 4, ground := Ground.data }, { on := 2, ground := Ground.chain }], guard := none }) rfl (fun K hK => ?_) AllReadyL.nil)
    go_simp
    refine (Next_any HSh.out ticZ vp0 vs0 ve0 (beginZ ticZ) _ _ _ _ [⟨0, ⟨-1, 3, 0⟩⟩] _ T4 (by unfold maxLen; decide) P4 X4 (by decide)).mono ?_
    rintro e wa5 (⟨hbad, -⟩ | ⟨-, v5, he5, ho5, hb5⟩)
    · exact absurd tic_pcheck hbad
    rw [tic_next.1, tic_next.2.1] at he5
    rw [tic_next.2.2] at ho5
    subst he5
    obtain ⟨a5, c5, rfl⟩ := own_form2 ho5
    have Bx5 := Bx4.stays hb5
    have L5 := below_trans L4 hb5 L4.size
    have P5 := P4.below hb5 (Nat.le_refl _)
    have T5 := T4.below hb5 (Nat.le_refl _)
    have X5 := X4.below hb5 (Nat.le_refl _)
    have M5 := M4.stays hb5
    have O5 := ho5
    clear hb5 ho5
    refine hK.out _ _ ⟨Bx5.cell 0 rfl, Bx5.cell 1 rfl, Bx5.cell 2 rfl, Bx5.cell 3 rfl, Bx5.cell 4 rfl⟩ (fun hHeld => ?_)
    clear hK K
    try simp only [Act.put, List.setIfInBounds_toArray, List.set_cons_zero, List.set_cons_succ]
    refine takeW (i := 6) (oi := { dst := some 12, op := Op.move (Operand.tmp 18), type := 118, pos := "play.go:100", after := #[{ on := 5, ground := Ground.data }], guard := none }) (v := ?va313) rfl (by kernel_rfl) (by kernel_rfl) (by kernel_rfl) rfl (fun _ _ _ h => h) (Or.inl ⟨by rfl, ?ya313⟩) (fun _ => by assumption) ?ra313
    case ya313 => (intro w _; go_simp; first | done | (with_reducible rfl))
    try simp only [Act.put, List.setIfInBounds_toArray, List.set_cons_zero, List.set_cons_succ]
    refine takeW (i := 7) (oi := { dst := some 19, op := Op.extract (Operand.tmp 12) 0, type := 42, pos := "play.go:100", after := #[{ on := 6, ground := Ground.data }], guard := none }) (v := ?va314) rfl (by kernel_rfl) (by kernel_rfl) (by kernel_rfl) rfl (fun _ _ _ h => h) (Or.inl ⟨by rfl, ?ya314⟩) (fun _ => by assumption) ?ra314
    case ya314 => (intro w _; go_simp; first | done | (with_reducible rfl))
    try simp only [Act.put, List.setIfInBounds_toArray, List.set_cons_zero, List.set_cons_succ]
    refine takeW (i := 8) (oi := { dst := some 20, op := Op.extract (Operand.tmp 12) 1, type := 4, pos := "play.go:100", after := #[{ on := 6, ground := Ground.data }, { on := 12, ground := Ground.gcOnly Departure.lateStores }], guard := none }) (v := ?va315) rfl (by kernel_rfl) (by kernel_rfl) (by kernel_rfl) rfl (fun _ _ _ h => h) (Or.inl ⟨by rfl, ?ya315⟩) (fun _ => by assumption) ?ra315
    case ya315 => (intro w _; go_simp; first | done | (with_reducible rfl))
    try simp only [Act.put, List.setIfInBounds_toArray, List.set_cons_zero, List.set_cons_succ]
    refine takeW (i := 9) (oi := { dst := some 21, op := Op.extract (Operand.tmp 12) 2, type := 62, pos := "play.go:100", after := #[{ on := 6, ground := Ground.data }, { on := 13, ground := Ground.gcOnly Departure.lateStores }], guard := none }) (v := ?va316) rfl (by kernel_rfl) (by kernel_rfl) (by kernel_rfl) rfl (fun _ _ _ h => h) (Or.inl ⟨by rfl, ?ya316⟩) (fun _ => by assumption) ?ra316
    case ya316 => (intro w _; go_simp; first | done | (with_reducible rfl))
    try simp only [Act.put, List.setIfInBounds_toArray, List.set_cons_zero, List.set_cons_succ]
    refine takeW (i := 10) (oi := { dst := some 22, op := Op.extract (Operand.tmp 12) 3, type := 29, pos := "play.go:100", after := #[{ on := 6, ground := Ground.data }, { on := 14, ground := Ground.gcOnly Departure.lateStores }], guard := none }) (v := ?va317) rfl (by kernel_rfl) (by kernel_rfl) (by kernel_rfl) rfl (fun _ _ _ h => h) (Or.inl ⟨by rfl, ?ya317⟩) (fun _ => by assumption) ?ra317
    case ya317 => (intro w _; go_simp; first | done | (with_reducible rfl))
    try simp only [Act.put, List.setIfInBounds_toArray, List.set_cons_zero, List.set_cons_succ]
    refine readyL (rs := [12]) (by kernel_rfl) (by simp) ?_
    refine (AllReadyL.late (o := { dst := none, op := Op.store 42 (Operand.tmp 3) (Operand.tmp 19), type := 0, pos := "play.go:100", after := #[{ on := 11, ground := Ground.data }, { on := 7, ground := Ground.data }, { on := 5, ground := Ground.chain }, { on := 0, ground := Ground.phase }, { on := 1, ground := Ground.phase }, { on := 2, ground := Ground.phase }, { on := 3, ground := Ground.phase }, { on := 4, ground := Ground.phase }, { on := 5, ground := Ground.phase }, { on := 6, ground := Ground.phase }, { on := 7, ground := Ground.phase }, { on := 8, ground := Ground.textOnly Departure.lateStores }, { on := 9, ground := Ground.textOnly Departure.lateStores }, { on := 10, ground := Ground.textOnly Departure.lateStores }, { on := 11, ground := Ground.phase }], guard := none }) rfl (by kernel_rfl) (fun K hK => ?_) AllReadyL.nil)
    have d0 := M5.cell 0 rfl
    have d1 := M5.cell 1 rfl
    have d2 := M5.cell 2 rfl
    have d0f := M5.frozen 0
    have d1f := M5.frozen 1
    have d2f := M5.frozen 2
    go_simp
    refine K_world ?_
    intro wa12 e12
    have E12 : wa12 = wa5.setCells w2.heap.size 0 [.int .i64 (-1), .int .i64 3, .int .i64 0] := e12
    have M12 : Box wa12 w2.heap.size [.int .i64 (-1), .int .i64 3, .int .i64 0] 42 := by rw [E12]; exact M5.store rfl
    have L12 : Below w.heap.size w wa12 := by rw [E12]; exact below_setCells L5 Z11 0 _
    clear e12 E12 d0 d1 d2 d0f d1f d2f
    refine hK.out _ _ ?_
    clear hK K
    try simp only [Act.put, List.setIfInBounds_toArray, List.set_cons_zero, List.set_cons_succ]
    refine takeW (i := 13) (oi := { dst := some 4, op := Op.assign (Operand.tmp 20), type := 4, pos := "play.go:100", after := #[{ on := 8, ground := Ground.data }, { on := 12, ground := Ground.chain }, { on := 0, ground := Ground.phase }, { on := 1, ground := Ground.phase }, { on := 2, ground := Ground.phase }, { on := 3, ground := Ground.phase }, { on := 4, ground := Ground.phase }, { on := 5, ground := Ground.phase }, { on := 6, ground := Ground.phase }, { on := 7, ground := Ground.phase }, { on := 8, ground := Ground.phase }, { on := 9, ground := Ground.textOnly Departure.lateStores }, { on := 10, ground := Ground.textOnly Departure.lateStores }, { on := 11, ground := Ground.phase }, { on := 12, ground := Ground.phase }], guard := none }) (v := ?va318) rfl (by kernel_rfl) (by kernel_rfl) (by kernel_rfl) rfl (fun _ _ _ h => h) (Or.inl ⟨by rfl, ?ya318⟩) (fun he => by cases he) ?ra318
    case ya318 => (intro w _; go_simp; first | done | (with_reducible rfl))
    try simp only [Act.put, List.setIfInBounds_toArray, List.set_cons_zero, List.set_cons_succ]
    refine takeW (i := 14) (oi := { dst := some 5, op := Op.assign (Operand.tmp 21), type := 62, pos := "play.go:100", after := #[{ on := 9, ground := Ground.data }, { on := 13, ground := Ground.chain }, { on := 0, ground := Ground.phase }, { on := 1, ground := Ground.phase }, { on := 2, ground := Ground.phase }, { on := 3, ground := Ground.phase }, { on := 4, ground := Ground.phase }, { on := 5, ground := Ground.phase }, { on := 6, ground := Ground.phase }, { on := 7, ground := Ground.phase }, { on := 8, ground := Ground.phase }, { on := 9, ground := Ground.phase }, { on := 10, ground := Ground.textOnly Departure.lateStores }, { on := 11, ground := Ground.phase }, { on := 12, ground := Ground.phase }, { on := 13, ground := Ground.phase }], guard := none }) (v := ?va319) rfl (by kernel_rfl) (by kernel_rfl) (by kernel_rfl) rfl (fun _ _ _ h => h) (Or.inl ⟨by rfl, ?ya319⟩) (fun he => by cases he) ?ra319
    case ya319 => (intro w _; go_simp; first | done | (with_reducible rfl))
    try simp only [Act.put, List.setIfInBounds_toArray, List.set_cons_zero, List.set_cons_succ]
    refine takeW (i := 15) (oi := { dst := some 6, op := Op.assign (Operand.tmp 22), type := 29, pos := "play.go:100", after := #[{ on := 10, ground := Ground.data }, { on := 14, ground := Ground.chain }, { on := 0, ground := Ground.phase }, { on := 1, ground := Ground.phase }, { on := 2, ground := Ground.phase }, { on := 3, ground := Ground.phase }, { on := 4, ground := Ground.phase }, { on := 5, ground := Ground.phase }, { on := 6, ground := Ground.phase }, { on := 7, ground := Ground.phase }, { on := 8, ground := Ground.phase }, { on := 9, ground := Ground.phase }, { on := 10, ground := Ground.phase }, { on := 11, ground := Ground.phase }, { on := 12, ground := Ground.phase }, { on := 13, ground := Ground.phase }, { on := 14, ground := Ground.phase }], guard := none }) (v := ?va320) rfl (by kernel_rfl) (by kernel_rfl) (by kernel_rfl) rfl (fun _ _ _ h => h) (Or.inl ⟨by rfl, ?ya320⟩) (fun he => by cases he) ?ra320
    case ya320 => (intro w _; go_simp; first | done | (with_reducible rfl))
    try simp only [Act.put, List.setIfInBounds_toArray, List.set_cons_zero, List.set_cons_succ]
    refine doneL (by kernel_rfl) ?_ _
    refine NoPanic.normal ?_
    have HX12 := Lib.hid M12
    have HL12 := Lib.hid L12
    have hkk := True.intro
    clear M12 L12
    go_upto_region 3 with (fail)
    have M14 : Box wa12.drew w2.heap.size [.int .i64 (-1), .int .i64 3, .int .i64 0] 42 := HX12.out
    have L14 : Below w.heap.size w wa12.drew := below_drew' HL12.out
    clear HX12 HL12
    refine wp_region_noPanic ?_
    refine beginL (S := (fun w' => w'.cell? ⟨w2.heap.size, 0, none⟩ = some (.int .i64 (-1)) ∧ w'.cell? ⟨w2.heap.size, 1, none⟩ = some (.int .i64 3) ∧ w'.cell? ⟨w2.heap.size, 2, none⟩ = some (.int .i64 0))) (L := []) (by kernel_rfl) ⟨M14.cell 0 rfl, M14.cell 1 rfl, M14.cell 2 rfl⟩ (fun hHeld => ?_)
    refine takeW (i := 0) (oi := { dst := some 23, op := Op.move (Operand.tmp 2), type := 29, pos := "play.go:101", after := #[], guard := none }) (v := ?va371) rfl (by kernel_rfl) (by kernel_rfl) (by kernel_rfl) rfl (fun _ _ _ h => h) (Or.inl ⟨by rfl, ?ya371⟩) (fun _ => by assumption) ?ra371
    case ya371 => (intro w _; go_simp; first | done | (with_reducible rfl))
    try simp only [Act.put, List.setIfInBounds_toArray, List.set_cons_zero, List.set_cons_succ]
    refine takeW (i := 1) (oi := { dst := some 24, op := Op.binOp BinOp.eql 29 (Operand.tmp 23) (Operand.const (Value.int IntKind.i64 0)) 29, type := 4, pos := "play.go:101", after := #[{ on := 0, ground := Ground.data }], guard := none }) (v := ?va372) rfl (by kernel_rfl) (by kernel_rfl) (by kernel_rfl) rfl (fun _ _ _ h => h) (Or.inl ⟨by rfl, ?ya372⟩) (fun _ => by assumption) ?ra372
    case ya372 => (intro w _; go_simp; first | done | (with_reducible rfl))
    try simp only [Act.put, List.setIfInBounds_toArray, List.set_cons_zero, List.set_cons_succ]
    refine takeW (i := 2) (oi := { dst := some 25, op := Op.move (Operand.tmp 24), type := 4, pos := "play.go:101", after := #[{ on := 1, ground := Ground.data }], guard := none }) (v := ?va373) rfl (by kernel_rfl) (by kernel_rfl) (by kernel_rfl) rfl (fun _ _ _ h => h) (Or.inl ⟨by rfl, ?ya373⟩) (fun _ => by assumption) ?ra373
    case ya373 => (intro w _; go_simp; first | done | (with_reducible rfl))
    try simp only [Act.put, List.setIfInBounds_toArray, List.set_cons_zero, List.set_cons_succ]
    refine takeW (i := 3) (oi := { dst := some 26, op := Op.move (Operand.tmp 6), type := 29, pos := "play.go:101", after := #[{ on := 2, ground := Ground.guard }], guard := some (2, true) }) (v := ?va374) rfl (by kernel_rfl) (by kernel_rfl) (by kernel_rfl) rfl (fun _ _ _ h => h) (Or.inl ⟨by rfl, ?ya374⟩) (fun _ => by assumption) ?ra374
    case ya374 => (intro w _; go_simp; first | done | (with_reducible rfl))
    try simp only [Act.put, List.setIfInBounds_toArray, List.set_cons_zero, List.set_cons_succ]
    refine takeW (i := 4) (oi := { dst := some 27, op := Op.binOp BinOp.eql 29 (Operand.tmp 26) (Operand.const (Value.int IntKind.i64 0)) 29, type := 4, pos := "play.go:101", after := #[{ on := 3, ground := Ground.data }, { on := 2, ground := Ground.guard }], guard := some (2, true) }) (v := ?va375) rfl (by kernel_rfl) (by kernel_rfl) (by kernel_rfl) rfl (fun _ _ _ h => h) (Or.inl ⟨by rfl, ?ya375⟩) (fun _ => by assumption) ?ra375
    case ya375 => (intro w _; go_simp; first | done | (with_reducible rfl))
    try simp only [Act.put, List.setIfInBounds_toArray, List.set_cons_zero, List.set_cons_succ]
    refine takeW (i := 5) (oi := { dst := some 28, op := Op.pick (Operand.tmp 25) (Operand.tmp 27) (Operand.const (Value.bool false)), type := 4, pos := "play.go:101", after := #[{ on := 2, ground := Ground.data }, { on := 4, ground := Ground.data }], guard := none }) (v := ?va376) rfl (by kernel_rfl) (by kernel_rfl) (by kernel_rfl) rfl (fun _ _ _ h => h) (Or.inl ⟨by rfl, ?ya376⟩) (fun _ => by assumption) ?ra376
    case ya376 => (intro w _; go_simp; first | done | (with_reducible rfl))
    try simp only [Act.put, List.setIfInBounds_toArray, List.set_cons_zero, List.set_cons_succ]
    refine takeW (i := 6) (oi := { dst := some 29, op := Op.move (Operand.tmp 28), type := 4, pos := "play.go:101", after := #[{ on := 5, ground := Ground.data }, { on := 2, ground := Ground.chain }], guard := none }) (v := ?va377) rfl (by kernel_rfl) (by kernel_rfl) (by kernel_rfl) rfl (fun _ _ _ h => h) (Or.inl ⟨by rfl, ?ya377⟩) (fun _ => by assumption) ?ra377
    case ya377 => (intro w _; go_simp; first | done | (with_reducible rfl))
    try simp only [Act.put, List.setIfInBounds_toArray, List.set_cons_zero, List.set_cons_succ]
    refine takeW (i := 7) (oi := { dst := some 30, op := Op.move (Operand.tmp 4), type := 4, pos := "play.go:101", after := #[{ on := 6, ground := Ground.guard }], guard := some (6, true) }) (v := ?va378) rfl (by kernel_rfl) (by kernel_rfl) (by kernel_rfl) rfl (fun _ _ _ h => h) (Or.inl ⟨by rfl, ?ya378⟩) (fun _ => by assumption) ?ra378
    case ya378 => (intro w _; go_simp; first | done | (with_reducible rfl))
    try simp only [Act.put, List.setIfInBounds_toArray, List.set_cons_zero, List.set_cons_succ]
    refine takeW (i := 8) (oi := { dst := some 31, op := Op.pick (Operand.tmp 29) (Operand.tmp 30) (Operand.const (Value.bool false)), type := 4, pos := "play.go:101", after := #[{ on := 6, ground := Ground.data }, { on := 7, ground := Ground.data }], guard := none }) (v := ?va379) rfl (by kernel_rfl) (by kernel_rfl) (by kernel_rfl) rfl (fun _ _ _ h => h) (Or.inl ⟨by rfl, ?ya379⟩) (fun _ => by assumption) ?ra379
    case ya379 => (intro w _; go_simp; first | done | (with_reducible rfl))
    try simp only [Act.put, List.setIfInBounds_toArray, List.set_cons_zero, List.set_cons_succ]
    refine takeW (i := 9) (oi := { dst := some 32, op := Op.move (Operand.tmp 31), type := 4, pos := "play.go:101", after := #[{ on := 8, ground := Ground.data }, { on := 6, ground := Ground.chain }], guard := none }) (v := ?va380) rfl (by kernel_rfl) (by kernel_rfl) (by kernel_rfl) rfl (fun _ _ _ h => h) (Or.inl ⟨by rfl, ?ya380⟩) (fun _ => by assumption) ?ra380
    case ya380 => (intro w _; go_simp; first | done | (with_reducible rfl))
    try simp only [Act.put, List.setIfInBounds_toArray, List.set_cons_zero, List.set_cons_succ]
    refine takeL (i := 10) (oi := { dst := some 33, op := Op.load 42 (Operand.tmp 3), type := 42, pos := "play.go:101", after := #[{ on := 9, ground := Ground.guard }], guard := some (9, true) }) (v := ?va381) rfl (by kernel_rfl) (by kernel_rfl) (by kernel_rfl) (by kernel_rfl) rfl (by kernel_rfl) (by kernel_rfl) (fun _ _ _ h => h) (Or.inl ⟨by rfl, ?ya381⟩) (by assumption) ?ra381
    case ya381 => (intro w hSw; (try dsimp only at hSw); go_simp; first | done | (with_reducible rfl))
    try simp only [Act.put, List.setIfInBounds_toArray, List.set_cons_zero, List.set_cons_succ]
    refine readyL (rs := [11]) (by kernel_rfl) (by simp) ?_
    refine (AllReadyL.cons (o := { dst := some 34, op := Op.call { callee := Callee.value (Operand.func 70), args := #[Operand.const (Value.int IntKind.i64 3)], argTypes := #[3] }, type := 42, pos := "play.go:101", after := #[{ on := 9, ground := Ground.chain }, { on := 9, ground := Ground.guard }], guard := some (9, true) }) rfl (fun K hK => ?_) AllReadyL.nil)
    go_simp
    refine (drop_any _ _).mono ?_
    rintro e wd ⟨rfl, hbd⟩
    have M15 := M14.stays hbd
    have L15 := below_trans L14 hbd L14.size
    clear hbd
    refine hK.out _ _ ⟨M15.cell 0 rfl, M15.cell 1 rfl, M15.cell 2 rfl⟩ (fun hHeld => ?_)
    clear hK K
    try simp only [Act.put, List.setIfInBounds_toArray, List.set_cons_zero, List.set_cons_succ]
    refine takeW (i := 12) (oi := { dst := some 35, op := Op.binOp BinOp.eql 42 (Operand.tmp 33) (Operand.tmp 34) 42, type := 4, pos := "play.go:101", after := #[{ on := 10, ground := Ground.data }, { on := 11, ground := Ground.data }, { on := 9, ground := Ground.guard }], guard := some (9, true) }) (v := ?va382) rfl (by kernel_rfl) (by kernel_rfl) (by kernel_rfl) rfl (fun _ _ _ h => h) (Or.inl ⟨by rfl, ?ya382⟩) (fun _ => by assumption) ?ra382
    case ya382 => (intro w _; go_simp; first | done | (with_reducible rfl))
    try simp only [Act.put, List.setIfInBounds_toArray, List.set_cons_zero, List.set_cons_succ]
    refine takeW (i := 13) (oi := { dst := some 36, op := Op.pick (Operand.tmp 32) (Operand.tmp 35) (Operand.const (Value.bool false)), type := 4, pos := "play.go:101", after := #[{ on := 9, ground := Ground.data }, { on := 12, ground := Ground.data }], guard := none }) (v := ?va383) rfl (by kernel_rfl) (by kernel_rfl) (by kernel_rfl) rfl (fun _ _ _ h => h) (Or.inl ⟨by rfl, ?ya383⟩) (fun _ => by assumption) ?ra383
    case ya383 => (intro w _; go_simp; first | done | (with_reducible rfl))
    try simp only [Act.put, List.setIfInBounds_toArray, List.set_cons_zero, List.set_cons_succ]
    refine takeW (i := 14) (oi := { dst := some 37, op := Op.move (Operand.tmp 36), type := 4, pos := "play.go:101", after := #[{ on := 13, ground := Ground.data }, { on := 11, ground := Ground.chain }], guard := none }) (v := ?va384) rfl (by kernel_rfl) (by kernel_rfl) (by kernel_rfl) rfl (fun _ _ _ h => h) (Or.inl ⟨by rfl, ?ya384⟩) (fun _ => by assumption) ?ra384
    case ya384 => (intro w _; go_simp; first | done | (with_reducible rfl))
    try simp only [Act.put, List.setIfInBounds_toArray, List.set_cons_zero, List.set_cons_succ]
    refine takeW (i := 15) (oi := { dst := some 38, op := Op.move (Operand.tmp 5), type := 62, pos := "play.go:101", after := #[{ on := 14, ground := Ground.guard }], guard := some (14, true) }) (v := ?va385) rfl (by kernel_rfl) (by kernel_rfl) (by kernel_rfl) rfl (fun _ _ _ h => h) (Or.inl ⟨by rfl, ?ya385⟩) (fun _ => by assumption) ?ra385
    case ya385 => (intro w _; go_simp; first | done | (with_reducible rfl))
    try simp only [Act.put, List.setIfInBounds_toArray, List.set_cons_zero, List.set_cons_succ]
    refine takeW (i := 16) (oi := { dst := some 39, op := Op.call { callee := Callee.builtin Builtin.len, args := #[Operand.tmp 38], argTypes := #[62] }, type := 3, pos := "play.go:101", after := #[{ on := 15, ground := Ground.data }, { on := 14, ground := Ground.guard }], guard := some (14, true) }) (v := ?va386) rfl (by kernel_rfl) (by kernel_rfl) (by kernel_rfl) rfl (fun _ _ _ h => h) (Or.inl ⟨by rfl, ?ya386⟩) (fun _ => by assumption) ?ra386
    case ya386 => (intro w _; go_simp; first | done | (with_reducible rfl))
    try simp only [Act.put, List.setIfInBounds_toArray, List.set_cons_zero, List.set_cons_succ]
    refine takeW (i := 17) (oi := { dst := some 40, op := Op.binOp BinOp.eql 3 (Operand.tmp 39) (Operand.const (Value.int IntKind.i64 0)) 3, type := 4, pos := "play.go:101", after := #[{ on := 16, ground := Ground.data }, { on := 14, ground := Ground.guard }], guard := some (14, true) }) (v := ?va387) rfl (by kernel_rfl) (by kernel_rfl) (by kernel_rfl) rfl (fun _ _ _ h => h) (Or.inl ⟨by rfl, ?ya387⟩) (fun _ => by assumption) ?ra387
    case ya387 => (intro w _; go_simp; first | done | (with_reducible rfl))
    try simp only [Act.put, List.setIfInBounds_toArray, List.set_cons_zero, List.set_cons_succ]
    refine takeW (i := 18) (oi := { dst := some 41, op := Op.pick (Operand.tmp 37) (Operand.tmp 40) (Operand.const (Value.bool false)), type := 4, pos := "play.go:101", after := #[{ on := 14, ground := Ground.data }, { on := 17, ground := Ground.data }], guard := none }) (v := ?va388) rfl (by kernel_rfl) (by kernel_rfl) (by kernel_rfl) rfl (fun _ _ _ h => h) (Or.inl ⟨by rfl, ?ya388⟩) (fun _ => by assumption) ?ra388
    case ya388 => (intro w _; go_simp; first | done | (with_reducible rfl))
    try simp only [Act.put, List.setIfInBounds_toArray, List.set_cons_zero, List.set_cons_succ]
    refine takeW (i := 19) (oi := { dst := some 0, op := Op.assign (Operand.tmp 41), type := 4, pos := "play.go:101", after := #[{ on := 18, ground := Ground.data }, { on := 14, ground := Ground.chain }, { on := 0, ground := Ground.phase }, { on := 1, ground := Ground.phase }, { on := 2, ground := Ground.phase }, { on := 3, ground := Ground.phase }, { on := 4, ground := Ground.phase }, { on := 5, ground := Ground.phase }, { on := 6, ground := Ground.phase }, { on := 7, ground := Ground.phase }, { on := 8, ground := Ground.phase }, { on := 9, ground := Ground.phase }, { on := 10, ground := Ground.phase }, { on := 11, ground := Ground.phase }, { on := 12, ground := Ground.phase }, { on := 13, ground := Ground.phase }, { on := 14, ground := Ground.phase }, { on := 15, ground := Ground.phase }, { on := 16, ground := Ground.phase }, { on := 17, ground := Ground.phase }, { on := 18, ground := Ground.phase }], guard := none }) (v := ?va389) rfl (by kernel_rfl) (by kernel_rfl) (by kernel_rfl) rfl (fun _ _ _ h => h) (Or.inl ⟨by rfl, ?ya389⟩) (fun _ => by assumption) ?ra389
    case ya389 => (intro w _; go_simp; first | done | (with_reducible rfl))
    try simp only [Act.put, List.setIfInBounds_toArray, List.set_cons_zero, List.set_cons_succ]
    refine doneL (by kernel_rfl) ?_ _
    refine NoPanic.normal ?_
    have HL15 := Lib.hid L15
    go_wp2_with fail
    go_ret
    exact ⟨rfl, HL15.out⟩

end Go.Proofs.Ytkfaibdflbdpgaa
/- The contract of premove.Run; great. -/
namespace Go.Proofs.Ytkfaibdflbdpgaa
open Go.ChangeShapes Go.WideShapes Go.ChangeAt Go.RowKit
set_option linter.unusedVariables false

theorem of_without (l : List PremZ) (pl : Int) : ofZ (withoutZ l pl) pl = [] := by
  unfold ofZ withoutZ
  rw [List.filter_filter]
  have : (l.filter fun x => (x.player == pl) && !(x.player == pl)) = [] := by
    rw [List.filter_eq_nil_iff]
    intro x _
    cases x.player == pl <;> simp
  rw [this]; rfl
theorem great_any (R : RulesZ) (vp vs ve : Value) (w : World) (h : RdI w vs R.start) : Calls Try.prog 27 #[(.agg #[.string R.name, .int .i64 R.width, .int .i64 R.height, vp, vs, .bool R.falls, .bool R.keeps, ve, .int .i64 R.blocked, .int .i64 R.quiet, .int .i64 R.rept])] w fun e w' => e = .returned (.bool (decide (20 < (R.start.length : Int)))) ∧ Below w.heap.size w w' := by
  obtain ⟨a, c, rfl, h1, h2⟩ := h.form
  unfold maxLen at h2
  clear h
  go_enter Try.func27, Try.ntmps27
  go_wp2
  go_ret
  exact ⟨rfl, (Below.refl _ _).alloc (Nat.le_refl _) _⟩
theorem next_less {R : RulesZ} {p : PosZ} {l : List PremZ} (h : nextOk R p l = true) : (nextRest R p l).length + 1 = l.length ∧ nextMv R p l ∈ listZ R p := by
  have h0 := h
  unfold nextOk at h0
  simp only [Bool.and_eq_true, decide_eq_true_eq] at h0
  have hr := idxL_range (fun x : PremZ => x.player == p.turn) l 0 (Int.le_refl _)
  have hx : nextIx p l = idxL (fun x : PremZ => x.player == p.turn) l 0 := rfl
  rw [← hx] at hr
  refine ⟨?_, ?_⟩
  · unfold nextRest
    rw [if_pos h, List.length_append, List.length_take, List.length_drop]
    omega
  · unfold nextMv
    rw [if_pos h]
    have hm := h0.2
    unfold movesZ at hm
    split at hm
    · exact hm
    · cases hm
theorem next_none {R : RulesZ} {p : PosZ} {l : List PremZ} (h : nextOk R p l = false) : (nextRest R p l).length ≤ l.length ∧ ofZ (nextRest R p l) p.turn = [] := by
  unfold nextRest
  rw [if_neg (by simp [h])]
  exact ⟨List.length_filter_le _ _, of_without l p.turn⟩
theorem results_scss {P : Program} {fn : Func} {tmps : Array Value} {a s s2 s3 : Nat} {t t' : TypeId} {w : World} {b : Nat} {cs : List Value} {v v2 v3 : Value} {d : TypeDesc} (hr : fn.results = #[.tmp s, .cell a t, .tmp s2, .tmp s3])
    (ha : tmps.getD a undef = .pointer (some ⟨b, 0, none⟩)) (hs : tmps.getD s undef = v) (hs2 : tmps.getD s2 undef = v2) (hs3 : tmps.getD s3 undef = v3) (hc : Box w b cs t') (hu : P.underlying t = some d) (hd : d.isRow = true) (hi : (P.info? t).map (·.size) = some cs.length) :
    (results fn tmps).run P w = .ok (.tuple #[v, .agg cs.toArray, v2, v3]) w := by
  have hl := run_loadVar_mid (P := P) w b 0 t cs d hc.range hu hd hi
  have ha' : tmps[a]?.getD undef = .pointer (some ⟨b, 0, none⟩) := by simpa using ha
  have hs' : tmps[s]?.getD undef = v := by simpa using hs
  have hs2' : tmps[s2]?.getD undef = v2 := by simpa using hs2
  have hs3' : tmps[s3]?.getD undef = v3 := by simpa using hs3
  unfold results
  rw [hr]
  simp [asAddr, ha', hs', hs2', hs3', hl]
/-- append of one new element, with the block that it is in. -/
theorem app_newB {ops : Array Oper} {rest : List Oper} {o : Oper} {a : Act} {Q : Exit → Act → World → Prop} (t e : TypeId) (z : Value) (k b : Nat)
    (hI : (Try.prog.info? e).map (fun i => (i.zero, i.size, i.bytes)) = some (some z, k, b)) (ht : Try.prog.underlying t = some (.slice e)) (hzs : z.cells.size = k) (hk : 0 < k) (hgd : o.guard = none) (s x : Operand)
    (ho : o.op = .call { callee := .builtin .append, args := #[s, x], argTypes := #[t, t] }) (base : Nat) (v : Value) (n : Nat) (xs news : List Value) (W : World) (hown : W.ownsRow base e k v n xs) (hb : base ≤ W.heap.size)
    (hl : news.length = k) (h1 : ∀ u ∈ news, u.oneCell' = true) (hn : n + 1 ≤ 100000000) (hbb : (n + 1) * b ≤ 140737488355328) (hs : a.eval s = v) (hx : a.eval x = .slice (some ⟨W.heap.size, 0, none⟩) 1 1)
    (h : ∀ g cap w', w'.ownsRow base e k (.slice (some ⟨g, 0, none⟩) (n + 1) cap) (n + 1) (xs ++ news) → (W.alloc (.cells news.toArray e)).grownBy w' v.ownBlock → (v.ownBlock = some g ∨ W.heap.size ≤ g) →
      wpList Try.prog ops Q rest (a.put o.dst (.slice (some ⟨g, 0, none⟩) (n + 1) cap)) w') : wpList Try.prog ops Q (o :: rest) a (W.alloc (.cells news.toArray e)) := by
  obtain ⟨i, hi, hz, hsz, hby⟩ := info_of hI
  refine wpList_append_lies _ hgd s x t ho base e i z k b ht hi hz hsz hby hzs hk v n xs hs (hown.alloc _) ⟨W.heap.size, 0, none⟩ 1 1 news hx (by rw [hl, Nat.one_mul]) (new_cells W news e) h1 (by decide) (by unfold maxLen; omega) hbb (by simp; omega) _ rfl ?_
  intro g cap w' hown' hg hat hlt
  refine h g cap w' hown' hg ?_
  rcases hat with e | e
  · exact .inl e
  · right; rw [e]; simp
def RunPost (R : RulesZ) (p : PosZ) (l : List PremZ) (w : World) (e : Ending) (w' : World) : Prop :=
  (pcheckErr R p l ≠ 0 ∧ e = .returned (.tuple #[.slice none 0 0, zeroPos, .slice none 0 0, .int .i64 (pcheckErr R p l)]) ∧ Below w.heap.size w w') ∨
  (pcheckErr R p l = 0 ∧ ∃ vo vc v0 v1 vl made q rest, e = .returned (.tuple #[vo, posV q vc v0 v1, vl, .int .i64 0]) ∧ w'.ownsRow w.heap.size 42 3 vo made.length (flatM made) ∧ OwnP w.heap.size w' q vc v0 v1 ∧
    w'.ownsRow w.heap.size 121 4 vl rest.length (flatP rest) ∧ LegalAll R p made ∧ q = posAt R p made ∧ made.length + rest.length ≤ l.length ∧ ofZ rest q.turn = [] ∧ Below w.heap.size w w')
/-- what Run may write: its variable p, and the row of moves. -/
def RunS (b : Nat) (vo : Value) : Nat → Prop := fun k => k = b ∨ vo.ownBlock = some k
set_option maxRecDepth 100000 in
set_option maxHeartbeats 4000000 in
theorem Run_any (HS : SortMvSaid) (R : RulesZ) (vp vs ve : Value) (p : PosZ) (vc v0 v1 : Value) (v : Value) (l : List PremZ) (w : World) (hr : RdR w R vp vs ve) (hnm : R.name.size ≤ maxLen) (hp : RdP w p vc v0 v1) (hl : RdL premEl w v l) (hlen : l.length ≤ 1000) :
    Calls Try.prog 41 #[(.agg #[.string R.name, .int .i64 R.width, .int .i64 R.height, vp, vs, .bool R.falls, .bool R.keeps, ve, .int .i64 R.blocked, .int .i64 R.quiet, .int .i64 R.rept]), (.agg #[vc, v0, v1, .int .i64 p.turn, .int .i64 p.quiet]), v] w (RunPost R p l w) := by
  have HSh := Lib.hid HS
  have HR := Lib.hid hr
  have HN := Lib.hid hnm
  have HP := Lib.hid hp
  have HL := Lib.hid hl
  obtain ⟨a, c, rfl, h1, h2⟩ := hl.form
  unfold maxLen at h2
  clear hr hp hl hnm HS
  go_enter Try.func41, Try.ntmps41
  go_upto_region 1 with (fail)
  have B0 : Box (((w.alloc (.cells #[.string R.name, .int .i64 R.width, .int .i64 R.height, vp, vs, .bool R.falls, .bool R.keeps, ve, .int .i64 R.blocked, .int .i64 R.quiet, .int .i64 R.rept] 26)).alloc (.cells #[vc, v0, v1, .int .i64 p.turn, .int .i64 p.quiet] 37)).alloc (.cells #[.slice none 0 0, .slice none 0 0, .slice none 0 0, .int .i64 0, .int .i64 0] 37)) (w.heap.size) [.string R.name, .int .i64 R.width, .int .i64 R.height, vp, vs, .bool R.falls, .bool R.keeps, ve, .int .i64 R.blocked, .int .i64 R.quiet, .int .i64 R.rept] 26 := (((Box.new' w (w.heap.size) [.string R.name, .int .i64 R.width, .int .i64 R.height, vp, vs, .bool R.falls, .bool R.keeps, ve, .int .i64 R.blocked, .int .i64 R.quiet, .int .i64 R.rept] 26 (by simp <;> omega)).alloc _).alloc _)
  have B1 : Box (((w.alloc (.cells #[.string R.name, .int .i64 R.width, .int .i64 R.height, vp, vs, .bool R.falls, .bool R.keeps, ve, .int .i64 R.blocked, .int .i64 R.quiet, .int .i64 R.rept] 26)).alloc (.cells #[vc, v0, v1, .int .i64 p.turn, .int .i64 p.quiet] 37)).alloc (.cells #[.slice none 0 0, .slice none 0 0, .slice none 0 0, .int .i64 0, .int .i64 0] 37)) (w.heap.size + 1) [vc, v0, v1, .int .i64 p.turn, .int .i64 p.quiet] 37 := ((Box.new' (w.alloc (.cells #[.string R.name, .int .i64 R.width, .int .i64 R.height, vp, vs, .bool R.falls, .bool R.keeps, ve, .int .i64 R.blocked, .int .i64 R.quiet, .int .i64 R.rept] 26)) (w.heap.size + 1) [vc, v0, v1, .int .i64 p.turn, .int .i64 p.quiet] 37 (by simp <;> omega)).alloc _)
  have B2 : Box (((w.alloc (.cells #[.string R.name, .int .i64 R.width, .int .i64 R.height, vp, vs, .bool R.falls, .bool R.keeps, ve, .int .i64 R.blocked, .int .i64 R.quiet, .int .i64 R.rept] 26)).alloc (.cells #[vc, v0, v1, .int .i64 p.turn, .int .i64 p.quiet] 37)).alloc (.cells #[.slice none 0 0, .slice none 0 0, .slice none 0 0, .int .i64 0, .int .i64 0] 37)) (w.heap.size + 1 + 1) [.slice none 0 0, .slice none 0 0, .slice none 0 0, .int .i64 0, .int .i64 0] 37 := (Box.new' ((w.alloc (.cells #[.string R.name, .int .i64 R.width, .int .i64 R.height, vp, vs, .bool R.falls, .bool R.keeps, ve, .int .i64 R.blocked, .int .i64 R.quiet, .int .i64 R.rept] 26)).alloc (.cells #[vc, v0, v1, .int .i64 p.turn, .int .i64 p.quiet] 37)) (w.heap.size + 1 + 1) [.slice none 0 0, .slice none 0 0, .slice none 0 0, .int .i64 0, .int .i64 0] 37 (by simp <;> omega))
  have HB : Hid (Below w.heap.size w (((w.alloc (.cells #[.string R.name, .int .i64 R.width, .int .i64 R.height, vp, vs, .bool R.falls, .bool R.keeps, ve, .int .i64 R.blocked, .int .i64 R.quiet, .int .i64 R.rept] 26)).alloc (.cells #[vc, v0, v1, .int .i64 p.turn, .int .i64 p.quiet] 37)).alloc (.cells #[.slice none 0 0, .slice none 0 0, .slice none 0 0, .int .i64 0, .int .i64 0] 37))) := Lib.hid ((((Below.refl w.heap.size w).alloc (Nat.le_refl _) _).alloc (by simp <;> omega) _).alloc (by simp <;> omega) _)
  have hz0 : w.heap.size + 1 + 1 < (((w.alloc (.cells #[.string R.name, .int .i64 R.width, .int .i64 R.height, vp, vs, .bool R.falls, .bool R.keeps, ve, .int .i64 R.blocked, .int .i64 R.quiet, .int .i64 R.rept] 26)).alloc (.cells #[vc, v0, v1, .int .i64 p.turn, .int .i64 p.quiet] 37)).alloc (.cells #[.slice none 0 0, .slice none 0 0, .slice none 0 0, .int .i64 0, .int .i64 0] 37)).heap.size := by simp
  generalize (((w.alloc (.cells #[.string R.name, .int .i64 R.width, .int .i64 R.height, vp, vs, .bool R.falls, .bool R.keeps, ve, .int .i64 R.blocked, .int .i64 R.quiet, .int .i64 R.rept] 26)).alloc (.cells #[vc, v0, v1, .int .i64 p.turn, .int .i64 p.quiet] 37)).alloc (.cells #[.slice none 0 0, .slice none 0 0, .slice none 0 0, .int .i64 0, .int .i64 0] 37)) = w0 at *
  have HRw := Lib.hid (HR.out.below HB.out (Nat.le_refl _))
  have HPw := Lib.hid (HP.out.below HB.out (Nat.le_refl _))
  have HLw := Lib.hid (HL.out.below HB.out (Nat.le_refl _))
  have HX0 := Lib.hid B0
  have HX1 := Lib.hid B1
  have HX2 := Lib.hid B2
  clear B0 B1 B2
  refine wp_region_lit ?_
  refine wpList_load_box (by rfl) 26 (.tmp 3) (by rfl) (w.heap.size) (by rfl) HX0.out Try.underlying26 (by rfl) (by kernel_rfl) ?_
  refine wpList_load_box (by rfl) 37 (.tmp 4) (by rfl) (w.heap.size + 1) (by rfl) HX1.out Try.underlying37 (by rfl) (by kernel_rfl) ?_
  go_wp2_with fail
  refine (pcheck_any R vp vs ve p vc v0 v1 _ l w0 HRw.out HN.out HPw.out HLw.out (by omega)).mono ?_
  rintro e w1 ⟨rfl, hb1⟩
  have HB1 := Lib.hid (below_trans HB.out hb1 HB.out.size)
  have HX01 := Lib.hid (HX0.out.stays hb1)
  have HX11 := Lib.hid (HX1.out.stays hb1)
  have HX21 := Lib.hid (HX2.out.stays hb1)
  clear hb1 HX0 HX1 HX2
  by_cases he : pcheckErr R p l = 0
  rotate_left
  · have HNE := Lib.hid he
    have he' : (pcheckErr R p l != 0) = true := by simpa using he
    clear he
    go_wp2_with (refine wpList_store_box (vs := [.slice none 0 0, .slice none 0 0, .slice none 0 0, .int .i64 0, .int .i64 0]) (by rfl) 37 (.tmp 7) (.tmp 21) (by rfl) (w.heap.size + 1 + 1) (by rfl) (by rfl) HX21.out rfl (by kernel_rfl) (by rfl) ?_)
    exact bodyPost_ret (results_scss rfl (by rfl) (by rfl) (by rfl) (by rfl) (HX21.out.store rfl) Try.underlying37 (by rfl) (by kernel_rfl)) rfl (.inl ⟨HNE.out, rfl, below_setCells HB1.out (by omega) 0 _⟩)
  have HE0 := Lib.hid he
  have HK := Lib.hid (pok_of (pcheck_pos he).1)
  rw [he]
  clear he
  go_upto_region 4 with (fail)
  refine wp_region_lit ?_
  refine wpList_load_box (by rfl) 37 (.tmp 4) (by rfl) (w.heap.size + 1) (by rfl) HX11.out Try.underlying37 (by rfl) (by kernel_rfl) ?_
  go_wp2_with fail
  refine (Copy_any p vc v0 v1 w1 (HP.out.below HB1.out (Nat.le_refl _)) (by have := HK.out.len; omega) (by have := HK.out.l0; have := HK.out.r.np; omega) (by have := HK.out.l1; have := HK.out.r.np; omega)).mono ?_
  rintro e w2 ⟨uc, u0, u1, rfl, hop, hb2⟩
  obtain ⟨ua, un, rfl⟩ := own_form2 hop.1
  obtain ⟨ua0, un0, rfl⟩ := own_form2 hop.2.1
  obtain ⟨ua1, un1, rfl⟩ := own_form2 hop.2.2.1
  have HB2 := Lib.hid (below_trans HB1.out hb2 HB1.out.size)
  have HX02 := Lib.hid (HX01.out.stays hb2)
  have HX12 := Lib.hid (HX11.out.stays hb2)
  have HX22 := Lib.hid (HX21.out.stays hb2)
  have HOP := Lib.hid (hop.base (show w.heap.size + 1 + 1 + 1 ≤ w1.heap.size by have := HX21.out.lt; omega))
  have HL2 := Lib.hid (HL.out.below HB2.out (Nat.le_refl _))
  clear hb2 hop HX01 HX11 HX21
  unfold posV
  go_wp2_with (refine wpList_store_box (vs := [.slice ua p.cells.length un, .slice ua0 p.h0.length un0, .slice ua1 p.h1.length un1, .int .i64 p.turn, .int .i64 p.quiet]) (by rfl) 37 (.tmp 4) (.tmp 24) (by rfl) (w.heap.size + 1) (by rfl) (by rfl) HX12.out rfl (by kernel_rfl) (by rfl) ?_)
  have HX13 := Lib.hid (HX12.out.store (vs := [.slice ua p.cells.length un, .slice ua0 p.h0.length un0, .slice ua1 p.h1.length un1, .int .i64 p.turn, .int .i64 p.quiet]) rfl)
  have HX03 := Lib.hid (HX02.out.farAll (show w.heap.size ≠ w.heap.size + 1 by omega) 0 [.slice ua p.cells.length un, .slice ua0 p.h0.length un0, .slice ua1 p.h1.length un1, .int .i64 p.turn, .int .i64 p.quiet])
  have HX23 := Lib.hid (HX22.out.farAll (show w.heap.size + 1 + 1 ≠ w.heap.size + 1 by omega) 0 [.slice ua p.cells.length un, .slice ua0 p.h0.length un0, .slice ua1 p.h1.length un1, .int .i64 p.turn, .int .i64 p.quiet])
  have HB3 := Lib.hid (below_setCells HB2.out (show w.heap.size ≤ w.heap.size + 1 by omega) 0 [.slice ua p.cells.length un, .slice ua0 p.h0.length un0, .slice ua1 p.h1.length un1, .int .i64 p.turn, .int .i64 p.quiet])
  have HOP3 := Lib.hid (HOP.out.setCells (show w.heap.size + 1 < w.heap.size + 1 + 1 + 1 by omega) 0 [.slice ua p.cells.length un, .slice ua0 p.h0.length un0, .slice ua1 p.h1.length un1, .int .i64 p.turn, .int .i64 p.quiet])
  generalize (w2.setCells (w.heap.size + 1) 0 [.slice ua p.cells.length un, .slice ua0 p.h0.length un0, .slice ua1 p.h1.length un1, .int .i64 p.turn, .int .i64 p.quiet]) = w3 at *
  have HH0 : Hid (Held (RunS (w.heap.size + 1) (.slice none 0 0)) w3 fun w' => RdL premEl w' (.slice a l.length c) l) := Lib.hid (Held.old (B := w.heap.size) (fun w' hw => HL.out.below (HB3.out.trans hw) (Nat.le_refl _)) (fun k hk => by rcases hk with rfl | hk; omega; cases hk) HB3.out.size)
  have HH1 : Hid (Held (RunS (w.heap.size + 1) (.slice none 0 0)) w3 fun w' => OwnP (w.heap.size + 1 + 1 + 1) w' p (.slice ua p.cells.length un) (.slice ua0 p.h0.length un0) (.slice ua1 p.h1.length un1)) := Lib.hid (ownP_held HOP3.out (fun k h1 h2 hk => by rcases hk with rfl | hk; omega; cases hk))
  clear HX02 HX12 HX22 HB2 HL2 HOP HRw HPw HLw
  go_wp2_with fail
  go_loopw [2, 11, 12, 13, 14] (fun vl vo vm vk vr wr => ∃ (made : List MoveZ) (q : PosZ) (l' : List PremZ) (vc v0 v1 o : Value), o = vo ∧ Hid (LegalAll R p made) ∧ Hid (q = posAt R p made) ∧ Hid (POk R q) ∧ made.length + l'.length ≤ l.length ∧
    Hid (Box wr w.heap.size [.string R.name, .int .i64 R.width, .int .i64 R.height, vp, vs, .bool R.falls, .bool R.keeps, ve, .int .i64 R.blocked, .int .i64 R.quiet, .int .i64 R.rept] 26) ∧ Hid (Box wr (w.heap.size + 1) [vc, v0, v1, .int .i64 q.turn, .int .i64 q.quiet] 37) ∧ Hid (Box wr (w.heap.size + 1 + 1) [.slice none 0 0, .slice none 0 0, .slice none 0 0, .int .i64 0, .int .i64 0] 37) ∧ Hid (wr.ownsRow (w.heap.size + 1 + 1 + 1) 42 3 vo made.length (flatM made)) ∧ Hid (Below w.heap.size w wr) ∧
    Hid (Held (RunS (w.heap.size + 1) vo) wr fun w' => RdL premEl w' vl l') ∧ Hid (Held (RunS (w.heap.size + 1) vo) wr fun w' => OwnP (w.heap.size + 1 + 1 + 1) w' q vc v0 v1)) (fun vl _ _ _ _ _ => lenV vl)
  case atStart => exact ⟨[], p, l, _, _, _, _, rfl, Lib.hid (LegalAll.nil _ _), Lib.hid rfl, HK, by simp, HX03, HX13, HX23, Lib.hid (World.ownsRow_nil _ _ _ _), HB3, HH0, HH1⟩
  case round =>
    obtain ⟨made, q, l', vc, v0, v1, vo, rfl, HLA, HQ, HKq, hle, HY0, HY1, HY2, HO, HBr, HHl, HHp⟩ := hrel
    obtain ⟨xa, xn, rfl⟩ := own_form2 HHp.out.now.1
    obtain ⟨xa0, xn0, rfl⟩ := own_form2 HHp.out.now.2.1
    obtain ⟨xa1, xn1, rfl⟩ := own_form2 HHp.out.now.2.2.1
    have hl1 := HHl.out.now
    obtain ⟨al, cl, rfl, hal, hbl⟩ := hl1.form
    unfold maxLen at hbl
    have HRl := Lib.hid hl1
    have HRp := Lib.hid HHp.out.now
    have hz2 := HY2.out.lt
    clear hl1
    go_upto_region 6 with (fail)
    refine wp_region_lit ?_
    refine wpList_load_box (by rfl) 26 (.tmp 3) (by rfl) (w.heap.size) (by rfl) HY0.out Try.underlying26 (by rfl) (by kernel_rfl) ?_
    refine wpList_load_box (by rfl) 37 (.tmp 4) (by rfl) (w.heap.size + 1) (by rfl) HY1.out Try.underlying37 (by rfl) (by kernel_rfl) ?_
    go_wp2_with fail
    refine (next_any HSh.out R vp vs ve q (.slice xa q.cells.length xn) (.slice xa0 q.h0.length xn0) (.slice xa1 q.h1.length xn1) _ l' wr (HR.out.below HBr.out (Nat.le_refl _)) HRp.out.rd HRl.out HKq.out (by omega)).mono ?_
    rintro e w1 ⟨vn, rfl, hon, hbn⟩
    obtain ⟨an, cn, rfl⟩ := own_form2 hon
    have hsn := hbn.size
    have HOLD : Hid (∀ k, wr.heap.size ≤ k → ¬ RunS (w.heap.size + 1) vo k) := Lib.hid (fun k h1 hk => by
      rcases hk with rfl | hk
      · omega
      · have := (HO.out.lt k hk).2; omega)
    have hbA : Below wr.heap.size wr (w1.alloc (.cells #[.int .i64 (nextMv R q l').src, .int .i64 (nextMv R q l').dst, .int .i64 (nextMv R q l').piece] 42)) := hbn.alloc hsn _
    have HF2 := Lib.hid (Fr.of_new (S := RunS (w.heap.size + 1) vo) hbA)
    have HZ0 := Lib.hid (HY0.out.stays hbA)
    have HZ1 := Lib.hid (HY1.out.stays hbA)
    have HZ2 := Lib.hid (HY2.out.stays hbA)
    have HOA := Lib.hid (own_stays HO.out hbA)
    have HBA := Lib.hid (below_trans HBr.out hbA HBr.out.size)
    have HNA := Lib.hid (hon.alloc (.cells #[.int .i64 (nextMv R q l').src, .int .i64 (nextMv R q l').dst, .int .i64 (nextMv R q l').piece] 42))
    have HXm := Lib.hid (Box.new w1 [.int .i64 (nextMv R q l').src, .int .i64 (nextMv R q l').dst, .int .i64 (nextMv R q l').piece] 42)
    have hzA : w1.heap.size < (w1.alloc (.cells #[.int .i64 (nextMv R q l').src, .int .i64 (nextMv R q l').dst, .int .i64 (nextMv R q l').piece] 42)).heap.size := by simp
    have HsA := Lib.hid (show wr.heap.size ≤ (w1.alloc (.cells #[.int .i64 (nextMv R q l').src, .int .i64 (nextMv R q l').dst, .int .i64 (nextMv R q l').piece] 42)).heap.size by omega)
    clear hon hbn hbA
    cases hok : nextOk R q l'
    · have HNl := Lib.hid (next_none hok).1
      have HNo := Lib.hid (next_none hok).2
      clear hok
      go_upto_region 9 with (fail)
      generalize (w1.alloc (.cells #[.int .i64 (nextMv R q l').src, .int .i64 (nextMv R q l').dst, .int .i64 (nextMv R q l').piece] 42)) = wq at *
      have B1z : Box wq.drew (w.heap.size + 1) [.slice xa q.cells.length xn, .slice xa0 q.h0.length xn0, .slice xa1 q.h1.length xn1, .int .i64 q.turn, .int .i64 q.quiet] 37 := HZ1.out
      have B2y : Box wq (w.heap.size + 1 + 1) [.slice none 0 0, .slice none 0 0, .slice none 0 0, .int .i64 0, .int .i64 0] 37 := HZ2.out
      have B2z : Box wq.drew (w.heap.size + 1 + 1) [.slice none 0 0, .slice none 0 0, .slice none 0 0, .int .i64 0, .int .i64 0] 37 := HZ2.out
      have Oz : wq.drew.ownsRow (w.heap.size + 1 + 1 + 1) 42 3 vo made.length (flatM made) := HOA.out
      have Lz : Below w.heap.size w wq.drew := below_drew' HBA.out
      have Pz : OwnP (w.heap.size + 1 + 1 + 1) wq.drew q (.slice xa q.cells.length xn) (.slice xa0 q.h0.length xn0) (.slice xa1 q.h1.length xn1) := (HHp.out wq HF2.out)
      have Nz : wq.drew.ownsRow wr.heap.size 121 4 (.slice an (nextRest R q l').length cn) (nextRest R q l').length (flatP (nextRest R q l')) := HNA.out
      have Z2 : w.heap.size + 1 + 1 < wr.heap.size := hz2
      have Zb := Lib.hid HBr.out.size
      clear HZ0 HZ1 HZ2 HOA HBA HNA HXm HsA HF2
      refine wp_region_noPanic ?_
      refine beginL (S := (fun w' => w'.cell? ⟨w.heap.size + 1, 0, none⟩ = some (.slice xa q.cells.length xn) ∧ w'.cell? ⟨w.heap.size + 1, 1, none⟩ = some (.slice xa0 q.h0.length xn0) ∧ w'.cell? ⟨w.heap.size + 1, 2, none⟩ = some (.slice xa1 q.h1.length xn1) ∧ w'.cell? ⟨w.heap.size + 1, 3, none⟩ = some (.int .i64 q.turn) ∧ w'.cell? ⟨w.heap.size + 1, 4, none⟩ = some (.int .i64 q.quiet))) (L := [4]) (by kernel_rfl) ⟨B1z.cell 0 rfl, B1z.cell 1 rfl, B1z.cell 2 rfl, B1z.cell 3 rfl, B1z.cell 4 rfl⟩ (fun hHeld => ?_)
      refine takeW (i := 0) (oi := { dst := some 36, op := Op.move (Operand.tmp 11), type := 32, pos := "premove.go:101", after := #[], guard := none }) (v := ?va1) rfl (by kernel_rfl) (by kernel_rfl) (by kernel_rfl) rfl (fun _ _ _ h => h) (Or.inl ⟨by rfl, ?ya1⟩) (fun _ => by assumption) ?ra1
      case ya1 => (intro w _; go_simp; first | done | (with_reducible rfl))
      try simp only [Act.put, List.setIfInBounds_toArray, List.set_cons_zero, List.set_cons_succ]
      refine takeL (i := 1) (oi := { dst := some 37, op := Op.load 37 (Operand.tmp 4), type := 37, pos := "premove.go:101", after := #[{ on := 3, ground := Ground.gcOnly Departure.lateStores }], guard := none }) (v := ?va2) rfl (by kernel_rfl) (by kernel_rfl) (by kernel_rfl) (by kernel_rfl) rfl (by kernel_rfl) (by kernel_rfl) (fun _ _ _ h => h) (Or.inl ⟨by rfl, ?ya2⟩) (by assumption) ?ra2
      case ya2 => (intro w hSw; (try dsimp only at hSw); go_simp; first | done | (with_reducible rfl))
      try simp only [Act.put, List.setIfInBounds_toArray, List.set_cons_zero, List.set_cons_succ]
      refine takeW (i := 2) (oi := { dst := some 38, op := Op.move (Operand.tmp 2), type := 62, pos := "premove.go:101", after := #[{ on := 4, ground := Ground.gcOnly Departure.lateStores }], guard := none }) (v := ?va3) rfl (by kernel_rfl) (by kernel_rfl) (by kernel_rfl) rfl (fun _ _ _ h => h) (Or.inl ⟨by rfl, ?ya3⟩) (fun _ => by assumption) ?ra3
      case ya3 => (intro w _; go_simp; first | done | (with_reducible rfl))
      try simp only [Act.put, List.setIfInBounds_toArray, List.set_cons_zero, List.set_cons_succ]
      refine takeW (i := 3) (oi := { dst := some 6, op := Op.assign (Operand.tmp 36), type := 32, pos := "premove.go:101", after := #[{ on := 0, ground := Ground.data }, { on := 0, ground := Ground.phase }, { on := 1, ground := Ground.textOnly Departure.lateStores }, { on := 2, ground := Ground.textOnly Departure.lateStores }], guard := none }) (v := ?va4) rfl (by kernel_rfl) (by kernel_rfl) (by kernel_rfl) rfl (fun _ _ _ h => h) (Or.inl ⟨by rfl, ?ya4⟩) (fun _ => by assumption) ?ra4
      case ya4 => (intro w _; go_simp; first | done | (with_reducible rfl))
      try simp only [Act.put, List.setIfInBounds_toArray, List.set_cons_zero, List.set_cons_succ]
      refine readyL (rs := [4]) (by kernel_rfl) (by simp) ?_
      refine (AllReadyL.late (o := { dst := none, op := Op.store 37 (Operand.tmp 7) (Operand.tmp 37), type := 0, pos := "premove.go:101", after := #[{ on := 1, ground := Ground.data }, { on := 3, ground := Ground.chain }, { on := 0, ground := Ground.phase }, { on := 1, ground := Ground.phase }, { on := 2, ground := Ground.textOnly Departure.lateStores }, { on := 3, ground := Ground.phase }], guard := none }) rfl (by kernel_rfl) (fun K hK => ?_) AllReadyL.nil)
      have z0 := B2y.cell 0 rfl
      have z1 := B2y.cell 1 rfl
      have z2 := B2y.cell 2 rfl
      have z3 := B2y.cell 3 rfl
      have z4 := B2y.cell 4 rfl
      have zf0 := B2y.frozen 0
      have zf1 := B2y.frozen 1
      have zf2 := B2y.frozen 2
      have zf3 := B2y.frozen 3
      have zf4 := B2y.frozen 4
      go_simp
      refine K_world ?_
      intro w9 e9
      have E9 : w9 = wq.drew.setCells (w.heap.size + 1 + 1) 0 [.slice xa q.cells.length xn, .slice xa0 q.h0.length xn0, .slice xa1 q.h1.length xn1, .int .i64 q.turn, .int .i64 q.quiet] := e9
      clear e9 z0 zf0 z1 zf1 z2 zf2 z3 zf3 z4 zf4
      refine hK.out _ _ ?_
      clear hK K
      try simp only [Act.put, List.setIfInBounds_toArray, List.set_cons_zero, List.set_cons_succ]
      refine takeW (i := 5) (oi := { dst := some 8, op := Op.assign (Operand.tmp 38), type := 62, pos := "premove.go:101", after := #[{ on := 2, ground := Ground.data }, { on := 4, ground := Ground.chain }, { on := 0, ground := Ground.phase }, { on := 1, ground := Ground.phase }, { on := 2, ground := Ground.phase }, { on := 3, ground := Ground.phase }, { on := 4, ground := Ground.phase }], guard := none }) (v := ?va5) rfl (by kernel_rfl) (by kernel_rfl) (by kernel_rfl) rfl (fun _ _ _ h => h) (Or.inl ⟨by rfl, ?ya5⟩) (fun he => by cases he) ?ra5
      case ya5 => (intro w _; go_simp; first | done | (with_reducible rfl))
      try simp only [Act.put, List.setIfInBounds_toArray, List.set_cons_zero, List.set_cons_succ]
      refine takeW (i := 6) (oi := { dst := some 9, op := Op.assign (Operand.const (Value.int IntKind.i64 0)), type := 29, pos := "premove.go:101", after := #[{ on := 5, ground := Ground.chain }, { on := 0, ground := Ground.phase }, { on := 1, ground := Ground.phase }, { on := 2, ground := Ground.phase }, { on := 3, ground := Ground.phase }, { on := 4, ground := Ground.phase }, { on := 5, ground := Ground.phase }], guard := none }) (v := ?va6) rfl (by kernel_rfl) (by kernel_rfl) (by kernel_rfl) rfl (fun _ _ _ h => h) (Or.inl ⟨by rfl, ?ya6⟩) (fun he => by cases he) ?ra6
      case ya6 => (intro w _; go_simp; first | done | (with_reducible rfl))
      try simp only [Act.put, List.setIfInBounds_toArray, List.set_cons_zero, List.set_cons_succ]
      refine doneL (by kernel_rfl) ?_ _
      refine NoPanic.normal ?_
      have B9 := B2z.store (vs := [.slice xa q.cells.length xn, .slice xa0 q.h0.length xn0, .slice xa1 q.h1.length xn1, .int .i64 q.turn, .int .i64 q.quiet]) rfl
      have O9 := own_setCells Oz (show w.heap.size + 1 + 1 < w.heap.size + 1 + 1 + 1 by omega) 0 [.slice xa q.cells.length xn, .slice xa0 q.h0.length xn0, .slice xa1 q.h1.length xn1, .int .i64 q.turn, .int .i64 q.quiet]
      have L9 := below_setCells Lz (show w.heap.size ≤ w.heap.size + 1 + 1 by omega) 0 [.slice xa q.cells.length xn, .slice xa0 q.h0.length xn0, .slice xa1 q.h1.length xn1, .int .i64 q.turn, .int .i64 q.quiet]
      have P9 := Pz.setCells (show w.heap.size + 1 + 1 < w.heap.size + 1 + 1 + 1 by omega) 0 [.slice xa q.cells.length xn, .slice xa0 q.h0.length xn0, .slice xa1 q.h1.length xn1, .int .i64 q.turn, .int .i64 q.quiet]
      have N9 := own_setCells Nz Z2 0 [.slice xa q.cells.length xn, .slice xa0 q.h0.length xn0, .slice xa1 q.h1.length xn1, .int .i64 q.turn, .int .i64 q.quiet]
      rw [← E9] at B9 O9 L9 P9 N9
      have HB9 := Lib.hid B9
      have HO9 := Lib.hid O9
      have HL9 := Lib.hid L9
      have HP9 := Lib.hid P9
      have HN9 := Lib.hid N9
      clear B9 O9 L9 P9 N9 E9 hHeld B1z B2z Oz Lz Pz Nz
      go_wp2_with fail
      refine bodyPost_ret (results_scss rfl (by rfl) (by rfl) (by rfl) (by rfl) HB9.out Try.underlying37 (by rfl) (by kernel_rfl)) rfl (.inr ⟨HE0.out, _, _, _, _, _, made, q, nextRest R q l', rfl, own_base HO9.out (by omega), HP9.out.base (by omega), own_base HN9.out Zb.out, HLA.out, HQ.out, ?_, ?_, HL9.out⟩)
      · have := HNl.out; omega
      · exact HNo.out
    · have HNl := Lib.hid (next_less hok).1
      have HNm := Lib.hid (next_less hok).2
      have d0 := HXm.out.cell 0 rfl
      have d1 := HXm.out.cell 1 rfl
      have d2 := HXm.out.cell 2 rfl
      clear hok
      go_upto_region 10 with (fail)
      generalize (w1.alloc (.cells #[.int .i64 (nextMv R q l').src, .int .i64 (nextMv R q l').dst, .int .i64 (nextMv R q l').piece] 42)) = w2 at *
      go_wp2_with (at_builtin; refine app_newB 32 42 (.agg #[.int .i64 0, .int .i64 0, .int .i64 0]) 3 24 infoMove Try.underlying32 rfl (by decide) (by rfl) _ _ (by rfl) (w.heap.size + 1 + 1 + 1) _ made.length (flatM made) [.int .i64 (nextMv R q l').src, .int .i64 (nextMv R q l').dst, .int .i64 (nextMv R q l').piece] w2 HOA.out (by have := HsA.out; omega) rfl three_ints (by omega) (by omega) (by rfl) (by rfl) ?_)
      intro g3 cap3 w3 hown3 hg3 hat3
      have HsZ := HsA.out
      have HFr3 : Fr (RunS (w.heap.size + 1) vo) w2 w3 := ((Fr.refl _ w2).alloc _).grown hg3 (fun k hk _ => .inr hk)
      have HSh3 : Shr w2 (RunS (w.heap.size + 1) vo) (RunS (w.heap.size + 1) (.slice (some ⟨g3, 0, none⟩) (made.length + 1) cap3)) := fun k hk h => by
        rcases h with h | h
        · exact .inl h
        · obtain rfl : g3 = k := by simpa [Value.ownBlock] using h
          rcases hat3 with e | e
          · exact .inr e
          · omega
      have HNh : Held (RunS (w.heap.size + 1) vo) w2 fun w' => w'.ownsRow wr.heap.size 121 4 (.slice an (nextRest R q l').length cn) (nextRest R q l').length (flatP (nextRest R q l')) := own_new HNA.out (fun k h1 h2 => HOLD.out k h1)
      have HN3 := Lib.hid (HNh.step HFr3 HSh3)
      have hb1s : w.heap.size + 1 < w2.heap.size := by omega
      have hnb : ∀ b, b < w.heap.size + 1 + 1 + 1 → some b ≠ vo.ownBlock := fun b hb e => by have := (HOA.out.lt b e.symm).1; omega
      have HZ03 := Lib.hid ((HZ0.out.alloc _).grown hg3 (hnb _ (by omega)))
      have HZ13 := Lib.hid ((HZ1.out.alloc _).grown hg3 (hnb _ (by omega)))
      have HZ23 := Lib.hid ((HZ2.out.alloc _).grown hg3 (hnb _ (by omega)))
      have HXm3 := Lib.hid ((HXm.out.alloc _).grown hg3 (fun e => by have := (HO.out.lt w1.heap.size e.symm).2; omega))
      have HB3 := Lib.hid (Below.grown (HBA.out.alloc HBA.out.size _) hg3 (by have := HBA.out.size; simp; omega) (fun k hk => by have := (HOA.out.lt k hk).1; omega))
      have HP3 := Lib.hid (HHp.out w3 (HF2.out.trans HFr3 (Shr.refl _ _)))
      have HO3 := Lib.hid hown3
      have HG3 := Lib.hid (hown3.lt g3 rfl)
      have hs3 := hg3.size
      simp at hs3
      have HF := Lib.hid (fits_of HKq.out HNm.out)
      clear HNh HFr3 HSh3 hnb hown3 hg3 hat3 HsZ HOA HBA HNA HZ0 HZ1 HZ2 HXm d0 d1 d2
      have d0 := HXm3.out.cell 0 rfl
      have d1 := HXm3.out.cell 1 rfl
      have d2 := HXm3.out.cell 2 rfl
      go_upto_region 11 with (fail)
      refine wp_region_lit ?_
      refine wpList_load_box (by rfl) 26 (.tmp 3) (by rfl) (w.heap.size) (by rfl) HZ03.out Try.underlying26 (by rfl) (by kernel_rfl) ?_
      refine wpList_load_box (by rfl) 37 (.tmp 4) (by rfl) (w.heap.size + 1) (by rfl) HZ13.out Try.underlying37 (by rfl) (by kernel_rfl) ?_
      go_wp2_with fail
      refine (Make_any R vp vs ve q (.slice xa q.cells.length xn) (.slice xa0 q.h0.length xn0) (.slice xa1 q.h1.length xn1) (nextMv R q l') w3 HP3.out.rd HKq.out HF.out).mono ?_
      rintro e w4 ⟨xc, x0, x1, rfl, hom, hb4⟩
      obtain ⟨ya, yn, rfl⟩ := own_form2 hom.1
      obtain ⟨ya0, yn0, rfl⟩ := own_form2 hom.2.1
      obtain ⟨ya1, yn1, rfl⟩ := own_form2 hom.2.2.1
      have HB4 := Lib.hid (below_trans HB3.out hb4 HB3.out.size)
      have HZ04 := Lib.hid (HZ03.out.stays hb4)
      have HZ14 := Lib.hid (HZ13.out.stays hb4)
      have HZ24 := Lib.hid (HZ23.out.stays hb4)
      have HO4 := Lib.hid (own_stays HO3.out hb4)
      have HN4 := Lib.hid (HN3.out.step (Fr.of_new (S := RunS (w.heap.size + 1) (.slice (some ⟨g3, 0, none⟩) (made.length + 1) cap3)) hb4) (Shr.refl _ _))
      have HP4 : Hid (Held (RunS (w.heap.size + 1) (.slice (some ⟨g3, 0, none⟩) (made.length + 1) cap3)) w4 fun w' => OwnP w3.heap.size w' (makeZ R q (nextMv R q l')) (.slice ya (makeZ R q (nextMv R q l')).cells.length yn) (.slice ya0 (makeZ R q (nextMv R q l')).h0.length yn0) (.slice ya1 (makeZ R q (nextMv R q l')).h1.length yn1)) := Lib.hid (ownP_held hom (fun k h1 h2 hk => by
        rcases hk with rfl | hk
        · omega
        · have := HG3.out; obtain rfl : g3 = k := by simpa [Value.ownBlock] using hk
          omega))
      clear hom hb4
      unfold posV
      go_wp2_with (refine wpList_store_box (vs := [.slice ya (makeZ R q (nextMv R q l')).cells.length yn, .slice ya0 (makeZ R q (nextMv R q l')).h0.length yn0, .slice ya1 (makeZ R q (nextMv R q l')).h1.length yn1, .int .i64 (makeZ R q (nextMv R q l')).turn, .int .i64 (makeZ R q (nextMv R q l')).quiet]) (by rfl) 37 (.tmp 4) (.tmp 46) (by rfl) (w.heap.size + 1) (by rfl) (by rfl) HZ14.out rfl (by kernel_rfl) (by rfl) ?_)
      have HF5 : Hid (Fr (RunS (w.heap.size + 1) (.slice (some ⟨g3, 0, none⟩) (made.length + 1) cap3)) w4 (w4.setCells (w.heap.size + 1) 0 [.slice ya (makeZ R q (nextMv R q l')).cells.length yn, .slice ya0 (makeZ R q (nextMv R q l')).h0.length yn0, .slice ya1 (makeZ R q (nextMv R q l')).h1.length yn1, .int .i64 (makeZ R q (nextMv R q l')).turn, .int .i64 (makeZ R q (nextMv R q l')).quiet])) := Lib.hid ((Fr.refl _ _).setCells (.inl rfl) 0 _)
      go_wp2_with fail
      simp only [Act.put]
      go_roundw
      case rel => exact ⟨made ++ [nextMv R q l'], makeZ R q (nextMv R q l'), nextRest R q l', _, _, _, _, rfl, Lib.hid (HLA.out.snoc (by rw [← HQ.out]; exact HNm.out)), Lib.hid (by rw [posAt_snoc, ← HQ.out]), Lib.hid (make_ok HKq.out HNm.out), by have := HNl.out; simp; omega,
        Lib.hid (HZ04.out.farAll (by omega) 0 _), Lib.hid (HZ14.out.store rfl), Lib.hid (HZ24.out.farAll (by omega) 0 _), Lib.hid (by rw [← flatM_append, List.length_append]; exact own_setCells HO4.out (by omega) 0 _), Lib.hid (below_setCells HB4.out (by omega) 0 _),
        Lib.hid (fun w' hw => rdP_of_own (HN4.out w' (HF5.out.trans hw (Shr.refl _ _)))), Lib.hid (fun w' hw => (HP4.out w' (HF5.out.trans hw (Shr.refl _ _))).base (by omega))⟩
      case measure => have := HNl.out; simp [lenV]; omega

end Go.Proofs.Ytkfaibdflbdpgaa

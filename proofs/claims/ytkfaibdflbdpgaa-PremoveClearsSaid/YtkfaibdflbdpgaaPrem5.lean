/- The contracts of premove.next, check, Next. -/
import Derived.Test.YtkfaibdflbdpgaaPrem4
import Derived.Test.YtkfaibdflbdpgaaPremC
import Derived.Test.YtkfaibdflbdpgaaEnd3
namespace Go.Proofs.Ytkfaibdflbdpgaa
open Go.ChangeShapes Go.WideShapes Go.ChangeAt Go.RowKit
set_option linter.unusedVariables false

theorem RdL.drop {α : Type} {el : El α} {w : World} {a : Option Addr} {n c : Nat} {xs : List α} (h : RdL el w (.slice a n c) xs) (k : Nat) (hk : k ≤ xs.length) : RdL el w (.slice (subAddr a c k el.k) (xs.length - k) (c - k)) (xs.drop k) := by
  have hl : (xs.drop k).length = xs.length - k := by rw [List.length_drop]
  rcases h with ⟨a', c', h, hm, hz⟩ | ⟨g, o, c', h1, h2, h3, h4, h5⟩
  · simp only [Value.slice.injEq] at h
    obtain ⟨rfl, _, rfl⟩ := h
    exact .inl ⟨_, _, by rw [hz, Nat.zero_sub], by omega, by rw [hl]; omega⟩
  · simp only [Value.slice.injEq] at h1
    obtain ⟨rfl, _, rfl⟩ := h1
    by_cases hck : xs.length - k = 0
    · exact .inl ⟨_, _, by rw [hck], by omega, by rw [hl]; exact hck⟩
    · have hne : ¬ c = k := by omega
      refine .inr ⟨g, o + k * el.k, c - k, by rw [hl, subAddr, if_neg hne]; simp [add_off], by omega, by omega, h4, fun i hi => ?_⟩
      rw [hl] at hi
      obtain ⟨cs, e, f⟩ := h5 (k + i) (by omega)
      refine ⟨cs, by simpa using e, fun q hq => ?_⟩
      have := f q hq
      rw [Nat.add_mul, ← Nat.add_assoc] at this
      exact this
/-- results that are one variable and two slots. -/
theorem results_c2 {P : Program} {fn : Func} {tmps : Array Value} {a s s2 : Nat} {t t' : TypeId} {w : World} {b : Nat} {cs : List Value} {v v2 : Value} {d : TypeDesc} (hr : fn.results = #[.cell a t, .tmp s, .tmp s2])
    (ha : tmps.getD a undef = .pointer (some ⟨b, 0, none⟩)) (hs : tmps.getD s undef = v) (hs2 : tmps.getD s2 undef = v2) (hc : Box w b cs t') (hu : P.underlying t = some d) (hd : d.isRow = true) (hi : (P.info? t).map (·.size) = some cs.length) :
    (results fn tmps).run P w = .ok (.tuple #[.agg cs.toArray, v, v2]) w := by
  have hl := run_loadVar_mid (P := P) w b 0 t cs d hc.range hu hd hi
  have ha' : tmps[a]?.getD undef = .pointer (some ⟨b, 0, none⟩) := by simpa using ha
  have hs' : tmps[s]?.getD undef = v := by simpa using hs
  have hs2' : tmps[s2]?.getD undef = v2 := by simpa using hs2
  unfold results
  rw [hr]
  simp [asAddr, ha', hs', hs2', hl]
theorem results_c3 {P : Program} {fn : Func} {tmps : Array Value} {a s s2 s3 : Nat} {t t' : TypeId} {w : World} {b : Nat} {cs : List Value} {v v2 v3 : Value} {d : TypeDesc} (hr : fn.results = #[.cell a t, .tmp s, .tmp s2, .tmp s3])
    (ha : tmps.getD a undef = .pointer (some ⟨b, 0, none⟩)) (hs : tmps.getD s undef = v) (hs2 : tmps.getD s2 undef = v2) (hs3 : tmps.getD s3 undef = v3) (hc : Box w b cs t') (hu : P.underlying t = some d) (hd : d.isRow = true) (hi : (P.info? t).map (·.size) = some cs.length) :
    (results fn tmps).run P w = .ok (.tuple #[.agg cs.toArray, v, v2, v3]) w := by
  have hl := run_loadVar_mid (P := P) w b 0 t cs d hc.range hu hd hi
  have ha' : tmps[a]?.getD undef = .pointer (some ⟨b, 0, none⟩) := by simpa using ha
  have hs' : tmps[s]?.getD undef = v := by simpa using hs
  have hs2' : tmps[s2]?.getD undef = v2 := by simpa using hs2
  have hs3' : tmps[s3]?.getD undef = v3 := by simpa using hs3
  unfold results
  rw [hr]
  simp [asAddr, ha', hs', hs2', hs3', hl]
def nextIx (p : PosZ) (l : List PremZ) : Int := idxL (fun x => x.player == p.turn) l 0
def nextOk (R : RulesZ) (p : PosZ) (l : List PremZ) : Bool := decide (0 ≤ nextIx p l) && decide ((l.getD (nextIx p l).toNat default).move ∈ movesZ R p)
def nextMv (R : RulesZ) (p : PosZ) (l : List PremZ) : MoveZ := if nextOk R p l = true then (l.getD (nextIx p l).toNat default).move else ⟨0, 0, 0⟩
def nextRest (R : RulesZ) (p : PosZ) (l : List PremZ) : List PremZ := if nextOk R p l = true then l.take (nextIx p l).toNat ++ l.drop ((nextIx p l).toNat + 1) else withoutZ l p.turn
def NextPost (R : RulesZ) (p : PosZ) (l : List PremZ) (w : World) (e : Ending) (w' : World) : Prop :=
  ∃ v, e = .returned (.tuple #[.agg #[.int .i64 (nextMv R p l).src, .int .i64 (nextMv R p l).dst, .int .i64 (nextMv R p l).piece], .bool (nextOk R p l), v]) ∧ w'.ownsRow w.heap.size 121 4 v (nextRest R p l).length (flatP (nextRest R p l)) ∧ Below w.heap.size w w'
theorem next1_any (x : PremZ) (t : Int) (b : Nat) (W : World) (hlt : b < W.heap.size) (hc : W.cell? ⟨b, 3, none⟩ = some (.int .i64 t)) : Calls Try.prog 135 (#[.agg #[.int .i64 x.player, .int .i64 x.move.src, .int .i64 x.move.dst, .int .i64 x.move.piece]] ++ #[.pointer (some ⟨b, 0, none⟩)]) W fun e w' => e = .returned (.bool (x.player == t)) ∧ Below W.heap.size W w' := by
  show Calls Try.prog 135 #[.agg #[.int .i64 x.player, .int .i64 x.move.src, .int .i64 x.move.dst, .int .i64 x.move.piece], .pointer (some ⟨b, 0, none⟩)] W _
  go_enter Try.func135, Try.ntmps135
  go_wp2
  go_ret
  exact ⟨rfl, (Below.refl _ _).alloc (Nat.le_refl _) _⟩
theorem callNx1 (args : Array Value) (w : World) : (callFunc 135 args).run Try.prog w = .ok (.enter 135 args) w := by kernel_rfl
set_option maxRecDepth 100000 in
set_option maxHeartbeats 4000000 in
theorem next_any (HS : SortMvSaid) (R : RulesZ) (vp vs ve : Value) (p : PosZ) (vc v0 v1 : Value) (v : Value) (l : List PremZ) (w : World) (hr : RdR w R vp vs ve) (hp : RdP w p vc v0 v1) (hl : RdL premEl w v l) (K : POk R p) (hlen : l.length ≤ 1000) :
    Calls Try.prog 81 #[(.agg #[.string R.name, .int .i64 R.width, .int .i64 R.height, vp, vs, .bool R.falls, .bool R.keeps, ve, .int .i64 R.blocked, .int .i64 R.quiet, .int .i64 R.rept]), (.agg #[vc, v0, v1, .int .i64 p.turn, .int .i64 p.quiet]), v] w (NextPost R p l w) := by
  have HR := Lib.hid hr
  have HP := Lib.hid hp
  have HL := Lib.hid hl
  have HK := Lib.hid K
  have HSh := Lib.hid HS
  obtain ⟨a, c, rfl, h1, h2⟩ := hl.form
  unfold maxLen at h2
  clear hr hp hl K HS
  go_enter Try.func81, Try.ntmps81
  go_upto_region 1 with (fail)
  have B0 : Box (((w.alloc (.cells #[.string R.name, .int .i64 R.width, .int .i64 R.height, vp, vs, .bool R.falls, .bool R.keeps, ve, .int .i64 R.blocked, .int .i64 R.quiet, .int .i64 R.rept] 26)).alloc (.cells #[vc, v0, v1, .int .i64 p.turn, .int .i64 p.quiet] 37)).alloc (.cells #[.int .i64 0, .int .i64 0, .int .i64 0] 42)) (w.heap.size) [.string R.name, .int .i64 R.width, .int .i64 R.height, vp, vs, .bool R.falls, .bool R.keeps, ve, .int .i64 R.blocked, .int .i64 R.quiet, .int .i64 R.rept] 26 := (((Box.new' w (w.heap.size) [.string R.name, .int .i64 R.width, .int .i64 R.height, vp, vs, .bool R.falls, .bool R.keeps, ve, .int .i64 R.blocked, .int .i64 R.quiet, .int .i64 R.rept] 26 (by simp <;> omega)).alloc _).alloc _)
  have B1 : Box (((w.alloc (.cells #[.string R.name, .int .i64 R.width, .int .i64 R.height, vp, vs, .bool R.falls, .bool R.keeps, ve, .int .i64 R.blocked, .int .i64 R.quiet, .int .i64 R.rept] 26)).alloc (.cells #[vc, v0, v1, .int .i64 p.turn, .int .i64 p.quiet] 37)).alloc (.cells #[.int .i64 0, .int .i64 0, .int .i64 0] 42)) (w.heap.size + 1) [vc, v0, v1, .int .i64 p.turn, .int .i64 p.quiet] 37 := ((Box.new' (w.alloc (.cells #[.string R.name, .int .i64 R.width, .int .i64 R.height, vp, vs, .bool R.falls, .bool R.keeps, ve, .int .i64 R.blocked, .int .i64 R.quiet, .int .i64 R.rept] 26)) (w.heap.size + 1) [vc, v0, v1, .int .i64 p.turn, .int .i64 p.quiet] 37 (by simp <;> omega)).alloc _)
  have B2 : Box (((w.alloc (.cells #[.string R.name, .int .i64 R.width, .int .i64 R.height, vp, vs, .bool R.falls, .bool R.keeps, ve, .int .i64 R.blocked, .int .i64 R.quiet, .int .i64 R.rept] 26)).alloc (.cells #[vc, v0, v1, .int .i64 p.turn, .int .i64 p.quiet] 37)).alloc (.cells #[.int .i64 0, .int .i64 0, .int .i64 0] 42)) (w.heap.size + 1 + 1) [.int .i64 0, .int .i64 0, .int .i64 0] 42 := (Box.new' ((w.alloc (.cells #[.string R.name, .int .i64 R.width, .int .i64 R.height, vp, vs, .bool R.falls, .bool R.keeps, ve, .int .i64 R.blocked, .int .i64 R.quiet, .int .i64 R.rept] 26)).alloc (.cells #[vc, v0, v1, .int .i64 p.turn, .int .i64 p.quiet] 37)) (w.heap.size + 1 + 1) [.int .i64 0, .int .i64 0, .int .i64 0] 42 (by simp <;> omega))
  have HB : Hid (Below w.heap.size w (((w.alloc (.cells #[.string R.name, .int .i64 R.width, .int .i64 R.height, vp, vs, .bool R.falls, .bool R.keeps, ve, .int .i64 R.blocked, .int .i64 R.quiet, .int .i64 R.rept] 26)).alloc (.cells #[vc, v0, v1, .int .i64 p.turn, .int .i64 p.quiet] 37)).alloc (.cells #[.int .i64 0, .int .i64 0, .int .i64 0] 42))) := Lib.hid ((((Below.refl w.heap.size w).alloc (Nat.le_refl _) _).alloc (by simp <;> omega) _).alloc (by simp <;> omega) _)
  have hz0 : w.heap.size + 1 + 1 < (((w.alloc (.cells #[.string R.name, .int .i64 R.width, .int .i64 R.height, vp, vs, .bool R.falls, .bool R.keeps, ve, .int .i64 R.blocked, .int .i64 R.quiet, .int .i64 R.rept] 26)).alloc (.cells #[vc, v0, v1, .int .i64 p.turn, .int .i64 p.quiet] 37)).alloc (.cells #[.int .i64 0, .int .i64 0, .int .i64 0] 42)).heap.size := by simp
  generalize (((w.alloc (.cells #[.string R.name, .int .i64 R.width, .int .i64 R.height, vp, vs, .bool R.falls, .bool R.keeps, ve, .int .i64 R.blocked, .int .i64 R.quiet, .int .i64 R.rept] 26)).alloc (.cells #[vc, v0, v1, .int .i64 p.turn, .int .i64 p.quiet] 37)).alloc (.cells #[.int .i64 0, .int .i64 0, .int .i64 0] 42)) = w0 at *
  have HRw := Lib.hid (HR.out.below HB.out (Nat.le_refl _))
  have HPw := Lib.hid (HP.out.below HB.out (Nat.le_refl _))
  have HLw := Lib.hid (HL.out.below HB.out (Nat.le_refl _))
  have HX0 := Lib.hid B0
  have HX1 := Lib.hid B1
  have HX2 := Lib.hid B2
  have HI := Lib.hid (IndexFunc_pm (.slice a l.length c) l (fun x => x.player == p.turn) 135 #[.pointer (some ⟨w.heap.size + 1, 0, none⟩)] w0 HLw.out callNx1 (fun W x cs hx hE hW => by
    simp only [premEl] at hE
    subst hE
    exact next1_any x p.turn (w.heap.size + 1) W (Nat.lt_of_lt_of_le (by omega) hW.size) ((HX1.out.stays hW).cell 3 rfl)))
  clear B0 B1 B2
  go_wp2_with fail
  refine HI.out.mono ?_
  rintro e w1 ⟨rfl, hb1⟩
  have HX0' := Lib.hid (HX0.out.stays hb1)
  have HX1' := Lib.hid (HX1.out.stays hb1)
  have HX2' := Lib.hid (HX2.out.stays hb1)
  have HB1 := Lib.hid (below_trans HB.out hb1 HB.out.size)
  have HL1 := Lib.hid (HLw.out.below hb1 (Nat.le_refl _))
  clear hb1 HX0 HX1 HX2 HI HRw HPw HLw HB hz0
  have HIX : Hid (nextIx p l = idxL (fun x => x.player == p.turn) l 0) := Lib.hid rfl
  by_cases hn : idxL (fun x => x.player == p.turn) l 0 = -1
  · have hok : nextOk R p l = false := by unfold nextOk; rw [HIX.out, hn]; rfl
    have HE1 : Hid (nextOk R p l = false) := Lib.hid hok
    have HE2 : Hid (nextMv R p l = ⟨0, 0, 0⟩) := Lib.hid (by unfold nextMv; rw [hok]; rfl)
    have HE3 : Hid (nextRest R p l = withoutZ l p.turn) := Lib.hid (by unfold nextRest; rw [hok]; rfl)
    rw [hn]
    clear hn hok HIX
    go_upto_region 2 with (fail)
    generalize w1 = wq at *
    have BRz : Box wq.drew (w.heap.size) [.string R.name, .int .i64 R.width, .int .i64 R.height, vp, vs, .bool R.falls, .bool R.keeps, ve, .int .i64 R.blocked, .int .i64 R.quiet, .int .i64 R.rept] 26 := HX0'.out
    have BPz : Box wq.drew (w.heap.size + 1) [vc, v0, v1, .int .i64 p.turn, .int .i64 p.quiet] 37 := HX1'.out
    have BMz : Box wq.drew (w.heap.size + 1 + 1) [.int .i64 0, .int .i64 0, .int .i64 0] 42 := HX2'.out
    have Lz : Below w.heap.size w wq.drew := below_drew' HB1.out
    have RLz : RdL premEl wq.drew (.slice a l.length c) l := HL1.out.below (below_drew' (Below.refl _ _)) (Nat.le_refl _)
    clear HX0' HX1' HX2' HB1 HL1
    refine wp_region_noPanic ?_
    refine beginL (S := (fun _ => True)) (L := []) (by kernel_rfl) trivial (fun hHeld => ?_)
    refine takeW (i := 0) (oi := { dst := some 13, op := Op.move (Operand.tmp 9), type := 3, pos := "premove.go:68", after := #[], guard := none }) (v := ?va1) rfl (by kernel_rfl) (by kernel_rfl) (by kernel_rfl) rfl (fun _ _ _ h => h) (Or.inl ⟨by rfl, ?ya1⟩) (fun _ => by assumption) ?ra1
    case ya1 => (intro w _; go_simp; first | done | (with_reducible rfl))
    try simp only [Act.put, List.setIfInBounds_toArray, List.set_cons_zero, List.set_cons_succ]
    refine takeW (i := 1) (oi := { dst := some 14, op := Op.binOp BinOp.lss 3 (Operand.tmp 13) (Operand.const (Value.int IntKind.i64 0)) 3, type := 4, pos := "premove.go:68", after := #[{ on := 0, ground := Ground.data }], guard := none }) (v := ?va2) rfl (by kernel_rfl) (by kernel_rfl) (by kernel_rfl) rfl (fun _ _ _ h => h) (Or.inl ⟨by rfl, ?ya2⟩) (fun _ => by assumption) ?ra2
    case ya2 => (intro w _; go_simp; first | done | (with_reducible rfl))
    try simp only [Act.put, List.setIfInBounds_toArray, List.set_cons_zero, List.set_cons_succ]
    refine takeW (i := 2) (oi := { dst := some 15, op := Op.move (Operand.tmp 14), type := 4, pos := "premove.go:68", after := #[{ on := 1, ground := Ground.data }], guard := none }) (v := ?va3) rfl (by kernel_rfl) (by kernel_rfl) (by kernel_rfl) rfl (fun _ _ _ h => h) (Or.inl ⟨by rfl, ?ya3⟩) (fun _ => by assumption) ?ra3
    case ya3 => (intro w _; go_simp; first | done | (with_reducible rfl))
    try simp only [Act.put, List.setIfInBounds_toArray, List.set_cons_zero, List.set_cons_succ]
    refine takeW (i := 3) (oi := { dst := some 16, op := Op.load 26 (Operand.tmp 3), type := 26, pos := "premove.go:68", after := #[{ on := 2, ground := Ground.guard }], guard := some (2, false) }) (v := undef) rfl (by kernel_rfl) (by kernel_rfl) (by kernel_rfl) rfl (fun _ _ _ h => h) (Or.inr ⟨by rfl, rfl⟩) (fun _ => by assumption) ?_
    try simp only [Act.put, List.setIfInBounds_toArray, List.set_cons_zero, List.set_cons_succ]
    refine takeW (i := 4) (oi := { dst := some 17, op := Op.load 37 (Operand.tmp 4), type := 37, pos := "premove.go:68", after := #[{ on := 2, ground := Ground.guard }], guard := some (2, false) }) (v := undef) rfl (by kernel_rfl) (by kernel_rfl) (by kernel_rfl) rfl (fun _ _ _ h => h) (Or.inr ⟨by rfl, rfl⟩) (fun _ => by assumption) ?_
    try simp only [Act.put, List.setIfInBounds_toArray, List.set_cons_zero, List.set_cons_succ]
    refine takeW (i := 6) (oi := { dst := some 19, op := Op.move (Operand.tmp 2), type := 62, pos := "premove.go:68", after := #[{ on := 2, ground := Ground.guard }], guard := some (2, false) }) (v := undef) rfl (by kernel_rfl) (by kernel_rfl) (by kernel_rfl) rfl (fun _ _ _ h => h) (Or.inr ⟨by rfl, rfl⟩) (fun _ => by assumption) ?_
    try simp only [Act.put, List.setIfInBounds_toArray, List.set_cons_zero, List.set_cons_succ]
    refine takeW (i := 7) (oi := { dst := some 20, op := Op.move (Operand.tmp 9), type := 3, pos := "premove.go:68", after := #[{ on := 2, ground := Ground.guard }], guard := some (2, false) }) (v := undef) rfl (by kernel_rfl) (by kernel_rfl) (by kernel_rfl) rfl (fun _ _ _ h => h) (Or.inr ⟨by rfl, rfl⟩) (fun _ => by assumption) ?_
    try simp only [Act.put, List.setIfInBounds_toArray, List.set_cons_zero, List.set_cons_succ]
    refine takeW (i := 5) (oi := { dst := some 18, op := Op.call { callee := Callee.value (Operand.func 136), args := #[Operand.tmp 16, Operand.tmp 17], argTypes := #[26, 37] }, type := 32, pos := "premove.go:68", after := #[{ on := 3, ground := Ground.data }, { on := 4, ground := Ground.data }, { on := 2, ground := Ground.chain }, { on := 2, ground := Ground.guard }], guard := some (2, false) }) (v := undef) rfl (by kernel_rfl) (by kernel_rfl) (by kernel_rfl) rfl (fun _ _ _ h => h) (Or.inr ⟨by rfl, rfl⟩) (fun _ => by assumption) ?_
    try simp only [Act.put, List.setIfInBounds_toArray, List.set_cons_zero, List.set_cons_succ]
    refine takeW (i := 8) (oi := { dst := some 21, op := Op.indexAddr 62 (Operand.tmp 19) (Operand.tmp 20), type := 0, pos := "premove.go:68", after := #[{ on := 6, ground := Ground.data }, { on := 7, ground := Ground.data }, { on := 2, ground := Ground.guard }], guard := some (2, false) }) (v := undef) rfl (by kernel_rfl) (by kernel_rfl) (by kernel_rfl) rfl (fun _ _ _ h => h) (Or.inr ⟨by rfl, rfl⟩) (fun _ => by assumption) ?_
    try simp only [Act.put, List.setIfInBounds_toArray, List.set_cons_zero, List.set_cons_succ]
    refine takeW (i := 9) (oi := { dst := some 22, op := Op.fieldAddr 121 (Operand.tmp 21) 1, type := 0, pos := "premove.go:68", after := #[{ on := 8, ground := Ground.data }, { on := 2, ground := Ground.guard }], guard := some (2, false) }) (v := undef) rfl (by kernel_rfl) (by kernel_rfl) (by kernel_rfl) rfl (fun _ _ _ h => h) (Or.inr ⟨by rfl, rfl⟩) (fun _ => by assumption) ?_
    try simp only [Act.put, List.setIfInBounds_toArray, List.set_cons_zero, List.set_cons_succ]
    refine takeW (i := 10) (oi := { dst := some 23, op := Op.load 42 (Operand.tmp 22), type := 42, pos := "premove.go:68", after := #[{ on := 9, ground := Ground.data }, { on := 2, ground := Ground.guard }], guard := some (2, false) }) (v := undef) rfl (by kernel_rfl) (by kernel_rfl) (by kernel_rfl) rfl (fun _ _ _ h => h) (Or.inr ⟨by rfl, rfl⟩) (fun _ => by assumption) ?_
    try simp only [Act.put, List.setIfInBounds_toArray, List.set_cons_zero, List.set_cons_succ]
    refine takeW (i := 11) (oi := { dst := some 24, op := Op.call { callee := Callee.value (Operand.func 66), args := #[Operand.tmp 18, Operand.tmp 23], argTypes := #[32, 42] }, type := 4, pos := "premove.go:68", after := #[{ on := 5, ground := Ground.data }, { on := 10, ground := Ground.data }, { on := 5, ground := Ground.chain }, { on := 2, ground := Ground.guard }], guard := some (2, false) }) (v := undef) rfl (by kernel_rfl) (by kernel_rfl) (by kernel_rfl) rfl (fun _ _ _ h => h) (Or.inr ⟨by rfl, rfl⟩) (fun _ => by assumption) ?_
    try simp only [Act.put, List.setIfInBounds_toArray, List.set_cons_zero, List.set_cons_succ]
    refine takeW (i := 12) (oi := { dst := some 25, op := Op.unOp UnOp.not 4 (Operand.tmp 24), type := 4, pos := "premove.go:68", after := #[{ on := 11, ground := Ground.data }, { on := 2, ground := Ground.guard }], guard := some (2, false) }) (v := undef) rfl (by kernel_rfl) (by kernel_rfl) (by kernel_rfl) rfl (fun _ _ _ h => h) (Or.inr ⟨by rfl, rfl⟩) (fun _ => by assumption) ?_
    try simp only [Act.put, List.setIfInBounds_toArray, List.set_cons_zero, List.set_cons_succ]
    refine takeW (i := 13) (oi := { dst := some 26, op := Op.pick (Operand.tmp 15) (Operand.const (Value.bool true)) (Operand.tmp 25), type := 4, pos := "premove.go:68", after := #[{ on := 2, ground := Ground.data }, { on := 12, ground := Ground.data }], guard := none }) (v := ?va14) rfl (by kernel_rfl) (by kernel_rfl) (by kernel_rfl) rfl (fun _ _ _ h => h) (Or.inl ⟨by rfl, ?ya14⟩) (fun _ => by assumption) ?ra14
    case ya14 => (intro w _; go_simp; first | done | (with_reducible rfl))
    try simp only [Act.put, List.setIfInBounds_toArray, List.set_cons_zero, List.set_cons_succ]
    refine doneL (by kernel_rfl) ?_ _
    refine NoPanic.normal ?_
    have BRy : Box wq.drew (w.heap.size) [.string R.name, .int .i64 R.width, .int .i64 R.height, vp, vs, .bool R.falls, .bool R.keeps, ve, .int .i64 R.blocked, .int .i64 R.quiet, .int .i64 R.rept] 26 := BRz
    have q3 := BPz.cell 3 rfl
    have HLn := Lib.hid Lz
    have HRn := Lib.hid RLz
    have HBm := Lib.hid BMz
    go_wp2_with fail
    refine (without_any _ l p.turn _ HRn.out (by omega)).mono ?_
    rintro e w7 ⟨v7, rfl, ho7, hb7⟩
    obtain ⟨a7, c7, rfl⟩ := own_form2 ho7
    have HB7 := Lib.hid (below_trans HLn.out hb7 HLn.out.size)
    have HM7 := Lib.hid (HBm.out.stays hb7)
    have HO7 := Lib.hid ho7
    have hsz7 := HBm.out.lt
    clear ho7 hb7
    go_wp2_with (refine wpList_store_box (vs := [.int .i64 0, .int .i64 0, .int .i64 0]) (by rfl) 42 (.tmp 6) (.tmp 27) (by rfl) (w.heap.size + 1 + 1) (by rfl) (by rfl) HM7.out rfl (by kernel_rfl) (by rfl) ?_)
    exact bodyPost_ret (results_c2 rfl (by rfl) (by rfl) (by rfl) (HM7.out.store rfl) Try.underlying42 (by rfl) (by kernel_rfl)) rfl ⟨_, by rw [HE1.out, HE2.out]; rfl, by rw [HE3.out]; exact own_base (own_setCells HO7.out hsz7 0 _) HLn.out.size, below_setCells HB7.out (by omega) 0 _⟩
  obtain ⟨j, hj0, hj1, hpj, -⟩ := idxL_found (fun x => x.player == p.turn) l 0 (Int.le_refl _) hn
  simp only [Int.zero_add] at hj0
  have hjx : nextIx p l = j := by rw [HIX.out, hj0]
  obtain ⟨g, o, rfl, hg, hcc⟩ := prems_some HL1.out (by omega)
  obtain ⟨-, m1, m2, m3⟩ := hcc j hj1
  have hokd : nextOk R p l = decide ((l.getD j default).move ∈ movesZ R p) := by unfold nextOk; rw [hjx]; simp
  have HMv : Hid (nextOk R p l = true → nextMv R p l = (l.getD j default).move) := Lib.hid (fun h => by unfold nextMv; rw [if_pos h, hjx]; rfl)
  have HRs : Hid (nextOk R p l = true → nextRest R p l = l.take j ++ l.drop (j + 1)) := Lib.hid (fun h => by unfold nextRest; rw [if_pos h, hjx]; rfl)
  rw [hj0]
  clear hn hj0 hpj hcc HIX hjx
  generalize l.getD j default = x at *
  by_cases hm : x.move ∈ movesZ R p
  · have hmem : decide (x.move ∈ movesZ R p) = true := by simpa using hm
    have HE1 : Hid (nextOk R p l = true) := Lib.hid (by rw [hokd, hmem])
    have HE2 : Hid (nextMv R p l = x.move) := Lib.hid (HMv.out HE1.out)
    obtain ⟨rs, hrs⟩ : ∃ rs, rs = l.take j ++ l.drop (j + 1) := ⟨_, rfl⟩
    have HRS := Lib.hid hrs
    have HE3 : Hid (nextRest R p l = rs) := Lib.hid (by rw [HRs.out HE1.out, hrs])
    clear hrs
    have hsa : ∀ w' : World, (Instr.slice 62 (.slice (some ⟨g, o, none⟩) l.length c) none (some (.int .i64 (j : Int))) none).run Try.prog w' = .ok (.slice (some ⟨g, o, none⟩) j c) w' := fun w' =>
      run_take (P := Try.prog) (t := 62) (s := 4) Try.underlying62 (fun w => by kernel_rfl) (some ⟨g, o, none⟩) l.length c j (by omega) w'
    have hsb : ∀ w' : World, (Instr.slice 62 (.slice (some ⟨g, o, none⟩) l.length c) (some (.int .i64 ((j : Int) + 1))) none none).run Try.prog w' = .ok (.slice (subAddr (some ⟨g, o, none⟩) c (j + 1) 4) (l.length - (j + 1)) (c - (j + 1))) w' := fun w' => by
      have h := run_drop (P := Try.prog) (t := 62) (s := 4) Try.underlying62 (fun w => by kernel_rfl) (some ⟨g, o, none⟩) l.length c (j + 1) (by omega) w'
      rw [Int.natCast_succ] at h
      exact h
    have hwj : IntKind.i64.wrap ((j : Int) + 1) = (j : Int) + 1 := IntWalk.i64_in _ (by omega)
    clear hm hokd HMv HRs
    go_upto_region 2 with (fail)
    generalize w1 = wq at *
    have BRz : Box wq.drew (w.heap.size) [.string R.name, .int .i64 R.width, .int .i64 R.height, vp, vs, .bool R.falls, .bool R.keeps, ve, .int .i64 R.blocked, .int .i64 R.quiet, .int .i64 R.rept] 26 := HX0'.out
    have BPz : Box wq.drew (w.heap.size + 1) [vc, v0, v1, .int .i64 p.turn, .int .i64 p.quiet] 37 := HX1'.out
    have BMz : Box wq.drew (w.heap.size + 1 + 1) [.int .i64 0, .int .i64 0, .int .i64 0] 42 := HX2'.out
    have Lz : Below w.heap.size w wq.drew := below_drew' HB1.out
    have RLz : RdL premEl wq.drew (.slice (some ⟨g, o, none⟩) l.length c) l := HL1.out.below (below_drew' (Below.refl _ _)) (Nat.le_refl _)
    have MAz : wq.drew.cell? ⟨g, o + j * 4 + 1, none⟩ = some (.int .i64 x.move.src) := m1
    have MBz : wq.drew.cell? ⟨g, o + j * 4 + 2, none⟩ = some (.int .i64 x.move.dst) := m2
    have MCz : wq.drew.cell? ⟨g, o + j * 4 + 3, none⟩ = some (.int .i64 x.move.piece) := m3
    have Gz : g < wq.drew.heap.size := hg
    clear HX0' HX1' HX2' HB1 HL1 m1 m2 m3 hg
    refine wp_region_noPanic ?_
    refine beginL (S := (fun w' => w'.cell? ⟨w.heap.size, 0, none⟩ = some (.string R.name) ∧ w'.cell? ⟨w.heap.size, 1, none⟩ = some (.int .i64 R.width) ∧ w'.cell? ⟨w.heap.size, 2, none⟩ = some (.int .i64 R.height) ∧ w'.cell? ⟨w.heap.size, 3, none⟩ = some vp ∧ w'.cell? ⟨w.heap.size, 4, none⟩ = some vs ∧ w'.cell? ⟨w.heap.size, 5, none⟩ = some (.bool R.falls) ∧ w'.cell? ⟨w.heap.size, 6, none⟩ = some (.bool R.keeps) ∧ w'.cell? ⟨w.heap.size, 7, none⟩ = some ve ∧ w'.cell? ⟨w.heap.size, 8, none⟩ = some (.int .i64 R.blocked) ∧ w'.cell? ⟨w.heap.size, 9, none⟩ = some (.int .i64 R.quiet) ∧ w'.cell? ⟨w.heap.size, 10, none⟩ = some (.int .i64 R.rept) ∧ w'.cell? ⟨w.heap.size + 1, 0, none⟩ = some vc ∧ w'.cell? ⟨w.heap.size + 1, 1, none⟩ = some v0 ∧ w'.cell? ⟨w.heap.size + 1, 2, none⟩ = some v1 ∧ w'.cell? ⟨w.heap.size + 1, 3, none⟩ = some (.int .i64 p.turn) ∧ w'.cell? ⟨w.heap.size + 1, 4, none⟩ = some (.int .i64 p.quiet) ∧ w'.cell? ⟨g, o + j * 4 + 1, none⟩ = some (.int .i64 x.move.src) ∧ w'.cell? ⟨g, o + j * 4 + 2, none⟩ = some (.int .i64 x.move.dst) ∧ w'.cell? ⟨g, o + j * 4 + 3, none⟩ = some (.int .i64 x.move.piece))) (L := []) (by kernel_rfl) ⟨BRz.cell 0 rfl, BRz.cell 1 rfl, BRz.cell 2 rfl, BRz.cell 3 rfl, BRz.cell 4 rfl, BRz.cell 5 rfl, BRz.cell 6 rfl, BRz.cell 7 rfl, BRz.cell 8 rfl, BRz.cell 9 rfl, BRz.cell 10 rfl, BPz.cell 0 rfl, BPz.cell 1 rfl, BPz.cell 2 rfl, BPz.cell 3 rfl, BPz.cell 4 rfl, MAz, MBz, MCz⟩ (fun hHeld => ?_)
    refine takeW (i := 0) (oi := { dst := some 13, op := Op.move (Operand.tmp 9), type := 3, pos := "premove.go:68", after := #[], guard := none }) (v := ?va301) rfl (by kernel_rfl) (by kernel_rfl) (by kernel_rfl) rfl (fun _ _ _ h => h) (Or.inl ⟨by rfl, ?ya301⟩) (fun _ => by assumption) ?ra301
    case ya301 => (intro w _; go_simp; first | done | (with_reducible rfl))
    try simp only [Act.put, List.setIfInBounds_toArray, List.set_cons_zero, List.set_cons_succ]
    refine takeW (i := 1) (oi := { dst := some 14, op := Op.binOp BinOp.lss 3 (Operand.tmp 13) (Operand.const (Value.int IntKind.i64 0)) 3, type := 4, pos := "premove.go:68", after := #[{ on := 0, ground := Ground.data }], guard := none }) (v := ?va302) rfl (by kernel_rfl) (by kernel_rfl) (by kernel_rfl) rfl (fun _ _ _ h => h) (Or.inl ⟨by rfl, ?ya302⟩) (fun _ => by assumption) ?ra302
    case ya302 => (intro w _; go_simp; first | done | (with_reducible rfl))
    try simp only [Act.put, List.setIfInBounds_toArray, List.set_cons_zero, List.set_cons_succ]
    refine takeW (i := 2) (oi := { dst := some 15, op := Op.move (Operand.tmp 14), type := 4, pos := "premove.go:68", after := #[{ on := 1, ground := Ground.data }], guard := none }) (v := ?va303) rfl (by kernel_rfl) (by kernel_rfl) (by kernel_rfl) rfl (fun _ _ _ h => h) (Or.inl ⟨by rfl, ?ya303⟩) (fun _ => by assumption) ?ra303
    case ya303 => (intro w _; go_simp; first | done | (with_reducible rfl))
    try simp only [Act.put, List.setIfInBounds_toArray, List.set_cons_zero, List.set_cons_succ]
    refine takeL (i := 3) (oi := { dst := some 16, op := Op.load 26 (Operand.tmp 3), type := 26, pos := "premove.go:68", after := #[{ on := 2, ground := Ground.guard }], guard := some (2, false) }) (v := ?va304) rfl (by kernel_rfl) (by kernel_rfl) (by kernel_rfl) (by kernel_rfl) rfl (by kernel_rfl) (by kernel_rfl) (fun _ _ _ h => h) (Or.inl ⟨by rfl, ?ya304⟩) (by assumption) ?ra304
    case ya304 => (intro w hSw; (try dsimp only at hSw); go_simp; first | done | (with_reducible rfl))
    try simp only [Act.put, List.setIfInBounds_toArray, List.set_cons_zero, List.set_cons_succ]
    refine takeL (i := 4) (oi := { dst := some 17, op := Op.load 37 (Operand.tmp 4), type := 37, pos := "premove.go:68", after := #[{ on := 2, ground := Ground.guard }], guard := some (2, false) }) (v := ?va305) rfl (by kernel_rfl) (by kernel_rfl) (by kernel_rfl) (by kernel_rfl) rfl (by kernel_rfl) (by kernel_rfl) (fun _ _ _ h => h) (Or.inl ⟨by rfl, ?ya305⟩) (by assumption) ?ra305
    case ya305 => (intro w hSw; (try dsimp only at hSw); go_simp; first | done | (with_reducible rfl))
    try simp only [Act.put, List.setIfInBounds_toArray, List.set_cons_zero, List.set_cons_succ]
    refine takeW (i := 6) (oi := { dst := some 19, op := Op.move (Operand.tmp 2), type := 62, pos := "premove.go:68", after := #[{ on := 2, ground := Ground.guard }], guard := some (2, false) }) (v := ?va306) rfl (by kernel_rfl) (by kernel_rfl) (by kernel_rfl) rfl (fun _ _ _ h => h) (Or.inl ⟨by rfl, ?ya306⟩) (fun _ => by assumption) ?ra306
    case ya306 => (intro w _; go_simp; first | done | (with_reducible rfl))
    try simp only [Act.put, List.setIfInBounds_toArray, List.set_cons_zero, List.set_cons_succ]
    refine takeW (i := 7) (oi := { dst := some 20, op := Op.move (Operand.tmp 9), type := 3, pos := "premove.go:68", after := #[{ on := 2, ground := Ground.guard }], guard := some (2, false) }) (v := ?va307) rfl (by kernel_rfl) (by kernel_rfl) (by kernel_rfl) rfl (fun _ _ _ h => h) (Or.inl ⟨by rfl, ?ya307⟩) (fun _ => by assumption) ?ra307
    case ya307 => (intro w _; go_simp; first | done | (with_reducible rfl))
    try simp only [Act.put, List.setIfInBounds_toArray, List.set_cons_zero, List.set_cons_succ]
    refine takeW (i := 8) (oi := { dst := some 21, op := Op.indexAddr 62 (Operand.tmp 19) (Operand.tmp 20), type := 0, pos := "premove.go:68", after := #[{ on := 6, ground := Ground.data }, { on := 7, ground := Ground.data }, { on := 2, ground := Ground.guard }], guard := some (2, false) }) (v := ?va308) rfl (by kernel_rfl) (by kernel_rfl) (by kernel_rfl) rfl (fun _ _ _ h => h) (Or.inl ⟨by rfl, ?ya308⟩) (fun _ => by assumption) ?ra308
    case ya308 => (intro w _; go_simp; first | done | (with_reducible rfl))
    try simp only [Act.put, List.setIfInBounds_toArray, List.set_cons_zero, List.set_cons_succ]
    refine takeW (i := 9) (oi := { dst := some 22, op := Op.fieldAddr 121 (Operand.tmp 21) 1, type := 0, pos := "premove.go:68", after := #[{ on := 8, ground := Ground.data }, { on := 2, ground := Ground.guard }], guard := some (2, false) }) (v := ?va309) rfl (by kernel_rfl) (by kernel_rfl) (by kernel_rfl) rfl (fun _ _ _ h => h) (Or.inl ⟨by rfl, ?ya309⟩) (fun _ => by assumption) ?ra309
    case ya309 => (intro w _; go_simp; first | done | (with_reducible rfl))
    try simp only [Act.put, List.setIfInBounds_toArray, List.set_cons_zero, List.set_cons_succ]
    refine takeL (i := 10) (oi := { dst := some 23, op := Op.load 42 (Operand.tmp 22), type := 42, pos := "premove.go:68", after := #[{ on := 9, ground := Ground.data }, { on := 2, ground := Ground.guard }], guard := some (2, false) }) (v := ?va310) rfl (by kernel_rfl) (by kernel_rfl) (by kernel_rfl) (by kernel_rfl) rfl (by kernel_rfl) (by kernel_rfl) (fun _ _ _ h => h) (Or.inl ⟨by rfl, ?ya310⟩) (by assumption) ?ra310
    case ya310 => (intro w hSw; (try dsimp only at hSw); go_simp; first | done | (with_reducible rfl))
    try simp only [Act.put, List.setIfInBounds_toArray, List.set_cons_zero, List.set_cons_succ]
    refine readyL (rs := [5]) (by kernel_rfl) (by simp) ?_
    refine (AllReadyL.cons (o := { dst := some 18, op := Op.call { callee := Callee.value (Operand.func 136), args := #[Operand.tmp 16, Operand.tmp 17], argTypes := #[26, 37] }, type := 32, pos := "premove.go:68", after := #[{ on := 3, ground := Ground.data }, { on := 4, ground := Ground.data }, { on := 2, ground := Ground.chain }, { on := 2, ground := Ground.guard }], guard := some (2, false) }) rfl (fun K hK => ?_) AllReadyL.nil)
    go_simp
    refine (Moves_any HSh.out R vp vs ve p vc v0 v1 _ (HR.out.below Lz (Nat.le_refl _)) (HP.out.below Lz (Nat.le_refl _)) HK.out).mono ?_
    rintro e w5 ⟨vm, rfl, hom, hb5⟩
    obtain ⟨am, cm, rfl⟩ := own_form2 hom
    have BR5 := BRz.stays hb5
    have BP5 := BPz.stays hb5
    have BM5 := BMz.stays hb5
    have L5 := below_trans Lz hb5 Lz.size
    have RL5 := RLz.below hb5 (Nat.le_refl _)
    have MA5 := (hb5.cell Gz).trans MAz
    have MB5 := (hb5.cell Gz).trans MBz
    have MC5 := (hb5.cell Gz).trans MCz
    have G5 := Nat.lt_of_lt_of_le Gz hb5.size
    have RM5 := rdM_of_own hom
    clear hb5 hom
    refine hK.out _ _ ⟨BR5.cell 0 rfl, BR5.cell 1 rfl, BR5.cell 2 rfl, BR5.cell 3 rfl, BR5.cell 4 rfl, BR5.cell 5 rfl, BR5.cell 6 rfl, BR5.cell 7 rfl, BR5.cell 8 rfl, BR5.cell 9 rfl, BR5.cell 10 rfl, BP5.cell 0 rfl, BP5.cell 1 rfl, BP5.cell 2 rfl, BP5.cell 3 rfl, BP5.cell 4 rfl, MA5, MB5, MC5⟩ (fun hHeld => ?_)
    clear hK K
    try simp only [Act.put, List.setIfInBounds_toArray, List.set_cons_zero, List.set_cons_succ]
    refine readyL (rs := [11]) (by kernel_rfl) (by simp) ?_
    refine (AllReadyL.cons (o := { dst := some 24, op := Op.call { callee := Callee.value (Operand.func 66), args := #[Operand.tmp 18, Operand.tmp 23], argTypes := #[32, 42] }, type := 4, pos := "premove.go:68", after := #[{ on := 5, ground := Ground.data }, { on := 10, ground := Ground.data }, { on := 5, ground := Ground.chain }, { on := 2, ground := Ground.guard }], guard := some (2, false) }) rfl (fun K hK => ?_) AllReadyL.nil)
    go_simp
    refine (contains_mv _ x.move _ _ RM5).mono ?_
    rintro e w11 ⟨rfl, hb11⟩
    have BR11 := BR5.stays hb11
    have BP11 := BP5.stays hb11
    have BM11 := BM5.stays hb11
    have L11 := below_trans L5 hb11 L5.size
    have RL11 := RL5.below hb11 (Nat.le_refl _)
    have MA11 := (hb11.cell G5).trans MA5
    have MB11 := (hb11.cell G5).trans MB5
    have MC11 := (hb11.cell G5).trans MC5
    have G11 := Nat.lt_of_lt_of_le G5 hb11.size
    clear hb11
    refine hK.out _ _ ⟨BR11.cell 0 rfl, BR11.cell 1 rfl, BR11.cell 2 rfl, BR11.cell 3 rfl, BR11.cell 4 rfl, BR11.cell 5 rfl, BR11.cell 6 rfl, BR11.cell 7 rfl, BR11.cell 8 rfl, BR11.cell 9 rfl, BR11.cell 10 rfl, BP11.cell 0 rfl, BP11.cell 1 rfl, BP11.cell 2 rfl, BP11.cell 3 rfl, BP11.cell 4 rfl, MA11, MB11, MC11⟩ (fun hHeld => ?_)
    clear hK K
    try simp only [Act.put, List.setIfInBounds_toArray, List.set_cons_zero, List.set_cons_succ]
    refine takeW (i := 12) (oi := { dst := some 25, op := Op.unOp UnOp.not 4 (Operand.tmp 24), type := 4, pos := "premove.go:68", after := #[{ on := 11, ground := Ground.data }, { on := 2, ground := Ground.guard }], guard := some (2, false) }) (v := ?va311) rfl (by kernel_rfl) (by kernel_rfl) (by kernel_rfl) rfl (fun _ _ _ h => h) (Or.inl ⟨by rfl, ?ya311⟩) (fun _ => by assumption) ?ra311
    case ya311 => (intro w _; go_simp; first | done | (with_reducible rfl))
    try simp only [Act.put, List.setIfInBounds_toArray, List.set_cons_zero, List.set_cons_succ]
    refine takeW (i := 13) (oi := { dst := some 26, op := Op.pick (Operand.tmp 15) (Operand.const (Value.bool true)) (Operand.tmp 25), type := 4, pos := "premove.go:68", after := #[{ on := 2, ground := Ground.data }, { on := 12, ground := Ground.data }], guard := none }) (v := ?va312) rfl (by kernel_rfl) (by kernel_rfl) (by kernel_rfl) rfl (fun _ _ _ h => h) (Or.inl ⟨by rfl, ?ya312⟩) (fun _ => by assumption) ?ra312
    case ya312 => (intro w _; go_simp; first | done | (with_reducible rfl))
    try simp only [Act.put, List.setIfInBounds_toArray, List.set_cons_zero, List.set_cons_succ]
    refine doneL (by kernel_rfl) ?_ _
    refine NoPanic.normal ?_
    rw [hmem]
    have HX := Lib.hid (And.intro BR11 (And.intro BP11 (And.intro BM11 (And.intro L11 (And.intro RL11 (And.intro MA11 (And.intro MB11 (And.intro MC11 G11))))))))
    clear BR11 BP11 BM11 L11 RL11 MA11 MB11 MC11 BRz BPz BMz Lz RLz MAz MBz MCz BR5 BP5 BM5 L5 RL5 MA5 MB5 MC5 RM5 hHeld
    go_upto_region 4 with (fail)
    generalize w11 = wr4 at *
    obtain ⟨BRx, BPx, BMx, Lx, RLx, MAx, MBx, MCx, Gx⟩ := HX.out
    clear HX
    have BRy : Box wr4.drew (w.heap.size) [.string R.name, .int .i64 R.width, .int .i64 R.height, vp, vs, .bool R.falls, .bool R.keeps, ve, .int .i64 R.blocked, .int .i64 R.quiet, .int .i64 R.rept] 26 := BRx
    have BPy : Box wr4.drew (w.heap.size + 1) [vc, v0, v1, .int .i64 p.turn, .int .i64 p.quiet] 37 := BPx
    have BMy : Box wr4.drew (w.heap.size + 1 + 1) [.int .i64 0, .int .i64 0, .int .i64 0] 42 := BMx
    have Ly : Below w.heap.size w wr4.drew := below_drew' Lx
    have RLy : RdL premEl wr4.drew (.slice (some ⟨g, o, none⟩) l.length c) l := RLx.below (below_drew' (Below.refl _ _)) (Nat.le_refl _)
    have MAy : wr4.drew.cell? ⟨g, o + j * 4 + 1, none⟩ = some (.int .i64 x.move.src) := MAx
    have MBy : wr4.drew.cell? ⟨g, o + j * 4 + 2, none⟩ = some (.int .i64 x.move.dst) := MBx
    have MCy : wr4.drew.cell? ⟨g, o + j * 4 + 3, none⟩ = some (.int .i64 x.move.piece) := MCx
    have Gy : g < wr4.drew.heap.size := Gx
    clear BRx BPx BMx Lx RLx MAx MBx MCx Gx
    refine wp_region_noPanic ?_
    refine beginL (S := (fun w' => w'.cell? ⟨g, o + j * 4 + 1, none⟩ = some (.int .i64 x.move.src) ∧ w'.cell? ⟨g, o + j * 4 + 2, none⟩ = some (.int .i64 x.move.dst) ∧ w'.cell? ⟨g, o + j * 4 + 3, none⟩ = some (.int .i64 x.move.piece))) (L := [14]) (by kernel_rfl) ⟨MAy, MBy, MCy⟩ (fun hHeld => ?_)
    refine takeW (i := 0) (oi := { dst := some 32, op := Op.move (Operand.tmp 2), type := 62, pos := "premove.go:71", after := #[], guard := none }) (v := ?va201) rfl (by kernel_rfl) (by kernel_rfl) (by kernel_rfl) rfl (fun _ _ _ h => h) (Or.inl ⟨by rfl, ?ya201⟩) (fun _ => by assumption) ?ra201
    case ya201 => (intro w _; go_simp; first | done | (with_reducible rfl))
    try simp only [Act.put, List.setIfInBounds_toArray, List.set_cons_zero, List.set_cons_succ]
    refine takeW (i := 1) (oi := { dst := some 33, op := Op.move (Operand.tmp 9), type := 3, pos := "premove.go:71", after := #[], guard := none }) (v := ?va202) rfl (by kernel_rfl) (by kernel_rfl) (by kernel_rfl) rfl (fun _ _ _ h => h) (Or.inl ⟨by rfl, ?ya202⟩) (fun _ => by assumption) ?ra202
    case ya202 => (intro w _; go_simp; first | done | (with_reducible rfl))
    try simp only [Act.put, List.setIfInBounds_toArray, List.set_cons_zero, List.set_cons_succ]
    refine takeW (i := 5) (oi := { dst := some 37, op := Op.move (Operand.tmp 2), type := 62, pos := "premove.go:71", after := #[], guard := none }) (v := ?va203) rfl (by kernel_rfl) (by kernel_rfl) (by kernel_rfl) rfl (fun _ _ _ h => h) (Or.inl ⟨by rfl, ?ya203⟩) (fun _ => by assumption) ?ra203
    case ya203 => (intro w _; go_simp; first | done | (with_reducible rfl))
    try simp only [Act.put, List.setIfInBounds_toArray, List.set_cons_zero, List.set_cons_succ]
    refine takeW (i := 6) (oi := { dst := some 38, op := Op.move (Operand.tmp 9), type := 3, pos := "premove.go:71", after := #[], guard := none }) (v := ?va204) rfl (by kernel_rfl) (by kernel_rfl) (by kernel_rfl) rfl (fun _ _ _ h => h) (Or.inl ⟨by rfl, ?ya204⟩) (fun _ => by assumption) ?ra204
    case ya204 => (intro w _; go_simp; first | done | (with_reducible rfl))
    try simp only [Act.put, List.setIfInBounds_toArray, List.set_cons_zero, List.set_cons_succ]
    refine takeW (i := 8) (oi := { dst := some 40, op := Op.move (Operand.tmp 2), type := 62, pos := "premove.go:71", after := #[], guard := none }) (v := ?va205) rfl (by kernel_rfl) (by kernel_rfl) (by kernel_rfl) rfl (fun _ _ _ h => h) (Or.inl ⟨by rfl, ?ya205⟩) (fun _ => by assumption) ?ra205
    case ya205 => (intro w _; go_simp; first | done | (with_reducible rfl))
    try simp only [Act.put, List.setIfInBounds_toArray, List.set_cons_zero, List.set_cons_succ]
    refine takeW (i := 9) (oi := { dst := some 41, op := Op.move (Operand.tmp 9), type := 3, pos := "premove.go:71", after := #[], guard := none }) (v := ?va206) rfl (by kernel_rfl) (by kernel_rfl) (by kernel_rfl) rfl (fun _ _ _ h => h) (Or.inl ⟨by rfl, ?ya206⟩) (fun _ => by assumption) ?ra206
    case ya206 => (intro w _; go_simp; first | done | (with_reducible rfl))
    try simp only [Act.put, List.setIfInBounds_toArray, List.set_cons_zero, List.set_cons_succ]
    refine takeW (i := 2) (oi := { dst := some 34, op := Op.indexAddr 62 (Operand.tmp 32) (Operand.tmp 33), type := 0, pos := "premove.go:71", after := #[{ on := 0, ground := Ground.data }, { on := 1, ground := Ground.data }], guard := none }) (v := ?va207) rfl (by kernel_rfl) (by kernel_rfl) (by kernel_rfl) rfl (fun _ _ _ h => h) (Or.inl ⟨by rfl, ?ya207⟩) (fun _ => by assumption) ?ra207
    case ya207 => (intro w _; go_simp; first | done | (with_reducible rfl))
    try simp only [Act.put, List.setIfInBounds_toArray, List.set_cons_zero, List.set_cons_succ]
    refine takeW (i := 7) (oi := { dst := some 39, op := Op.slice 62 (Operand.tmp 37) none (some (Operand.tmp 38)) none, type := 62, pos := "premove.go:71", after := #[{ on := 5, ground := Ground.data }, { on := 6, ground := Ground.data }], guard := none }) (v := ?va208) rfl (by kernel_rfl) (by kernel_rfl) (by kernel_rfl) rfl (fun _ _ _ h => h) (Or.inl ⟨by rfl, ?ya208⟩) (fun _ => by assumption) ?ra208
    case ya208 => (intro w _; go_simp; first | done | (with_reducible rfl))
    try simp only [Act.put, List.setIfInBounds_toArray, List.set_cons_zero, List.set_cons_succ]
    refine takeW (i := 10) (oi := { dst := some 42, op := Op.binOp BinOp.add 3 (Operand.tmp 41) (Operand.const (Value.int IntKind.i64 1)) 3, type := 3, pos := "premove.go:71", after := #[{ on := 9, ground := Ground.data }], guard := none }) (v := ?va209) rfl (by kernel_rfl) (by kernel_rfl) (by kernel_rfl) rfl (fun _ _ _ h => h) (Or.inl ⟨by rfl, ?ya209⟩) (fun _ => by assumption) ?ra209
    case ya209 => (intro w _; go_simp; first | done | (with_reducible rfl))
    try simp only [Act.put, List.setIfInBounds_toArray, List.set_cons_zero, List.set_cons_succ]
    refine takeW (i := 3) (oi := { dst := some 35, op := Op.fieldAddr 121 (Operand.tmp 34) 1, type := 0, pos := "premove.go:71", after := #[{ on := 2, ground := Ground.data }], guard := none }) (v := ?va210) rfl (by kernel_rfl) (by kernel_rfl) (by kernel_rfl) rfl (fun _ _ _ h => h) (Or.inl ⟨by rfl, ?ya210⟩) (fun _ => by assumption) ?ra210
    case ya210 => (intro w _; go_simp; first | done | (with_reducible rfl))
    try simp only [Act.put, List.setIfInBounds_toArray, List.set_cons_zero, List.set_cons_succ]
    refine takeW (i := 11) (oi := { dst := some 43, op := Op.slice 62 (Operand.tmp 40) (some (Operand.tmp 42)) none none, type := 62, pos := "premove.go:71", after := #[{ on := 8, ground := Ground.data }, { on := 10, ground := Ground.data }], guard := none }) (v := ?va211) rfl (by kernel_rfl) (by kernel_rfl) (by kernel_rfl) rfl (fun _ _ _ h => h) (Or.inl ⟨by rfl, ?ya211⟩) (fun _ => by assumption) ?ra211
    case ya211 => (intro w _; go_simp; first | done | (with_reducible rfl))
    try simp only [Act.put, List.setIfInBounds_toArray, List.set_cons_zero, List.set_cons_succ]
    refine takeL (i := 4) (oi := { dst := some 36, op := Op.load 42 (Operand.tmp 35), type := 42, pos := "premove.go:71", after := #[{ on := 3, ground := Ground.data }], guard := none }) (v := ?va212) rfl (by kernel_rfl) (by kernel_rfl) (by kernel_rfl) (by kernel_rfl) rfl (by kernel_rfl) (by kernel_rfl) (fun _ _ _ h => h) (Or.inl ⟨by rfl, ?ya212⟩) (by assumption) ?ra212
    case ya212 => (intro w hSw; (try dsimp only at hSw); go_simp; first | done | (with_reducible rfl))
    try simp only [Act.put, List.setIfInBounds_toArray, List.set_cons_zero, List.set_cons_succ]
    refine readyL (rs := [12]) (by kernel_rfl) (by simp) ?_
    refine (AllReadyL.cons (o := { dst := some 44, op := Op.buildSlice 214 2 #[(0, Operand.tmp 39), (1, Operand.tmp 43)], type := 214, pos := "premove.go:71", after := #[{ on := 7, ground := Ground.data }, { on := 11, ground := Ground.data }], guard := none }) rfl (fun K hK => ?_) AllReadyL.nil)
    go_simp
    refine K_world ?_
    intro w12 e12
    have hb12 : Below wr4.drew.heap.size wr4.drew w12 := by rw [e12]; exact (Below.refl _ _).alloc (Nat.le_refl _) _
    have RII : RdII w12 (.slice (some ⟨wr4.drew.heap.size, 0, none⟩) 2 2) (.slice (some ⟨g, o, none⟩) j c) (.slice (subAddr (some ⟨g, o, none⟩) c (j + 1) 4) (l.length - (j + 1)) (c - (j + 1))) := ⟨_, 0, 2, rfl, by rw [e12]; simp, by rw [e12]; exact (Box.new' _ _ [.slice (some ⟨g, o, none⟩) j c, .slice (subAddr (some ⟨g, o, none⟩) c (j + 1) 4) (l.length - (j + 1)) (c - (j + 1))] _ rfl).cell 0 rfl, by rw [e12]; exact (Box.new' _ _ [.slice (some ⟨g, o, none⟩) j c, .slice (subAddr (some ⟨g, o, none⟩) c (j + 1) 4) (l.length - (j + 1)) (c - (j + 1))] _ rfl).cell 1 rfl⟩
    clear e12
    have BR12 := BRy.stays hb12
    have BP12 := BPy.stays hb12
    have BM12 := BMy.stays hb12
    have L12 := below_trans Ly hb12 Ly.size
    have RL12 := RLy.below hb12 (Nat.le_refl _)
    have MA12 := (hb12.cell Gy).trans MAy
    have MB12 := (hb12.cell Gy).trans MBy
    have MC12 := (hb12.cell Gy).trans MCy
    have G12 := Nat.lt_of_lt_of_le Gy hb12.size
    clear hb12
    refine hK.out _ _ ⟨MA12, MB12, MC12⟩ (fun hHeld => ?_)
    clear hK K
    try simp only [Act.put, List.setIfInBounds_toArray, List.set_cons_zero, List.set_cons_succ]
    refine readyL (rs := [13]) (by kernel_rfl) (by simp) ?_
    refine (AllReadyL.cons (o := { dst := some 45, op := Op.call { callee := Callee.value (Operand.func 137), args := #[Operand.tmp 44], argTypes := #[214] }, type := 62, pos := "premove.go:71", after := #[{ on := 12, ground := Ground.data }], guard := none }) rfl (fun K hK => ?_) AllReadyL.nil)
    go_simp
    refine (Concat_pm _ _ _ (l.take j) (l.drop (j + 1)) _ RII (RL12.take j (by omega)) (RL12.drop (j + 1) (by omega)) (by simp; omega) (by simp; omega)).mono ?_
    rintro e w13 ⟨vx, rfl, ho13, hb13⟩
    rw [← HRS.out] at ho13
    obtain ⟨a13, c13, rfl⟩ := own_form2 ho13
    have BR13 := BR12.stays hb13
    have BP13 := BP12.stays hb13
    have BM13 := BM12.stays hb13
    have L13 := below_trans L12 hb13 L12.size
    have RL13 := RL12.below hb13 (Nat.le_refl _)
    have MA13 := (hb13.cell G12).trans MA12
    have MB13 := (hb13.cell G12).trans MB12
    have MC13 := (hb13.cell G12).trans MC12
    have G13 := Nat.lt_of_lt_of_le G12 hb13.size
    have O13 := ho13
    have Z12 := BM12.lt
    clear hb13 ho13
    refine hK.out _ _ ⟨MA13, MB13, MC13⟩ (fun hHeld => ?_)
    clear hK K
    try simp only [Act.put, List.setIfInBounds_toArray, List.set_cons_zero, List.set_cons_succ]
    refine readyL (rs := [14]) (by kernel_rfl) (by simp) ?_
    refine (AllReadyL.late (o := { dst := none, op := Op.store 42 (Operand.tmp 6) (Operand.tmp 36), type := 0, pos := "premove.go:71", after := #[{ on := 4, ground := Ground.data }, { on := 13, ground := Ground.chain }, { on := 0, ground := Ground.phase }, { on := 1, ground := Ground.phase }, { on := 2, ground := Ground.phase }, { on := 3, ground := Ground.phase }, { on := 4, ground := Ground.phase }, { on := 5, ground := Ground.textOnly Departure.lateStores }, { on := 6, ground := Ground.textOnly Departure.lateStores }, { on := 7, ground := Ground.textOnly Departure.lateStoresUnsure }, { on := 8, ground := Ground.textOnly Departure.lateStores }, { on := 9, ground := Ground.textOnly Departure.lateStores }, { on := 10, ground := Ground.textOnly Departure.lateStores }, { on := 11, ground := Ground.textOnly Departure.lateStoresUnsure }, { on := 12, ground := Ground.textOnly Departure.lateStores }, { on := 13, ground := Ground.textOnly Departure.lateStoresUnsure }], guard := none }) rfl (by kernel_rfl) (fun K hK => ?_) AllReadyL.nil)
    have d0 := BM13.cell 0 rfl
    have d1 := BM13.cell 1 rfl
    have d2 := BM13.cell 2 rfl
    have d0f := BM13.frozen 0
    have d1f := BM13.frozen 1
    have d2f := BM13.frozen 2
    go_simp
    refine K_world ?_
    intro w14 e14
    have E14 : w14 = w13.setCells (w.heap.size + 1 + 1) 0 [.int .i64 x.move.src, .int .i64 x.move.dst, .int .i64 x.move.piece] := e14
    clear e14 d0 d1 d2 d0f d1f d2f
    refine hK.out _ _ ?_
    clear hK K
    try simp only [Act.put, List.setIfInBounds_toArray, List.set_cons_zero, List.set_cons_succ]
    refine takeW (i := 15) (oi := { dst := some 7, op := Op.assign (Operand.const (Value.bool true)), type := 4, pos := "premove.go:71", after := #[{ on := 14, ground := Ground.chain }, { on := 0, ground := Ground.phase }, { on := 1, ground := Ground.phase }, { on := 2, ground := Ground.phase }, { on := 3, ground := Ground.phase }, { on := 4, ground := Ground.phase }, { on := 5, ground := Ground.textOnly Departure.lateStores }, { on := 6, ground := Ground.textOnly Departure.lateStores }, { on := 7, ground := Ground.textOnly Departure.lateStoresUnsure }, { on := 8, ground := Ground.textOnly Departure.lateStores }, { on := 9, ground := Ground.textOnly Departure.lateStores }, { on := 10, ground := Ground.textOnly Departure.lateStores }, { on := 11, ground := Ground.textOnly Departure.lateStoresUnsure }, { on := 12, ground := Ground.textOnly Departure.lateStores }, { on := 13, ground := Ground.textOnly Departure.lateStoresUnsure }, { on := 14, ground := Ground.phase }], guard := none }) (v := ?va213) rfl (by kernel_rfl) (by kernel_rfl) (by kernel_rfl) rfl (fun _ _ _ h => h) (Or.inl ⟨by rfl, ?ya213⟩) (fun he => by cases he) ?ra213
    case ya213 => (intro w _; go_simp; first | done | (with_reducible rfl))
    try simp only [Act.put, List.setIfInBounds_toArray, List.set_cons_zero, List.set_cons_succ]
    refine takeW (i := 16) (oi := { dst := some 8, op := Op.assign (Operand.tmp 45), type := 62, pos := "premove.go:71", after := #[{ on := 13, ground := Ground.data }, { on := 15, ground := Ground.chain }, { on := 0, ground := Ground.phase }, { on := 1, ground := Ground.phase }, { on := 2, ground := Ground.phase }, { on := 3, ground := Ground.phase }, { on := 4, ground := Ground.phase }, { on := 5, ground := Ground.phase }, { on := 6, ground := Ground.phase }, { on := 7, ground := Ground.phase }, { on := 8, ground := Ground.phase }, { on := 9, ground := Ground.phase }, { on := 10, ground := Ground.phase }, { on := 11, ground := Ground.phase }, { on := 12, ground := Ground.phase }, { on := 13, ground := Ground.phase }, { on := 14, ground := Ground.phase }, { on := 15, ground := Ground.phase }], guard := none }) (v := ?va214) rfl (by kernel_rfl) (by kernel_rfl) (by kernel_rfl) rfl (fun _ _ _ h => h) (Or.inl ⟨by rfl, ?ya214⟩) (fun he => by cases he) ?ra214
    case ya214 => (intro w _; go_simp; first | done | (with_reducible rfl))
    try simp only [Act.put, List.setIfInBounds_toArray, List.set_cons_zero, List.set_cons_succ]
    refine doneL (by kernel_rfl) ?_ _
    refine NoPanic.normal ?_
    have BM14 := BM13.store (vs := [.int .i64 x.move.src, .int .i64 x.move.dst, .int .i64 x.move.piece]) rfl
    have O14 := own_setCells O13 Z12 0 [.int .i64 x.move.src, .int .i64 x.move.dst, .int .i64 x.move.piece]
    have L14 := below_setCells L13 (show w.heap.size ≤ w.heap.size + 1 + 1 by omega) 0 [.int .i64 x.move.src, .int .i64 x.move.dst, .int .i64 x.move.piece]
    rw [← E14] at BM14 O14 L14
    have HBM14 := Lib.hid BM14
    have HO14 := Lib.hid O14
    have HL14 := Lib.hid L14
    have HL12 := Lib.hid L12
    clear BM14 O14 L14 E14 L12
    go_wp2_with fail
    exact bodyPost_ret (results_c2 rfl (by rfl) (by rfl) (by rfl) HBM14.out Try.underlying42 (by rfl) (by kernel_rfl)) rfl ⟨_, by rw [HE1.out, HE2.out]; rfl, by rw [HE3.out]; exact own_base HO14.out HL12.out.size, HL14.out⟩
  · have hmem : decide (x.move ∈ movesZ R p) = false := by simpa using hm
    have HE1 : Hid (nextOk R p l = false) := Lib.hid (by rw [hokd, hmem])
    have HE2 : Hid (nextMv R p l = ⟨0, 0, 0⟩) := Lib.hid (by unfold nextMv; rw [HE1.out]; rfl)
    have HE3 : Hid (nextRest R p l = withoutZ l p.turn) := Lib.hid (by unfold nextRest; rw [HE1.out]; rfl)
    clear hm hokd HMv HRs
    go_upto_region 2 with (fail)
    generalize w1 = wq at *
    have BRz : Box wq.drew (w.heap.size) [.string R.name, .int .i64 R.width, .int .i64 R.height, vp, vs, .bool R.falls, .bool R.keeps, ve, .int .i64 R.blocked, .int .i64 R.quiet, .int .i64 R.rept] 26 := HX0'.out
    have BPz : Box wq.drew (w.heap.size + 1) [vc, v0, v1, .int .i64 p.turn, .int .i64 p.quiet] 37 := HX1'.out
    have BMz : Box wq.drew (w.heap.size + 1 + 1) [.int .i64 0, .int .i64 0, .int .i64 0] 42 := HX2'.out
    have Lz : Below w.heap.size w wq.drew := below_drew' HB1.out
    have RLz : RdL premEl wq.drew (.slice (some ⟨g, o, none⟩) l.length c) l := HL1.out.below (below_drew' (Below.refl _ _)) (Nat.le_refl _)
    have MAz : wq.drew.cell? ⟨g, o + j * 4 + 1, none⟩ = some (.int .i64 x.move.src) := m1
    have MBz : wq.drew.cell? ⟨g, o + j * 4 + 2, none⟩ = some (.int .i64 x.move.dst) := m2
    have MCz : wq.drew.cell? ⟨g, o + j * 4 + 3, none⟩ = some (.int .i64 x.move.piece) := m3
    have Gz : g < wq.drew.heap.size := hg
    clear HX0' HX1' HX2' HB1 HL1 m1 m2 m3 hg
    refine wp_region_noPanic ?_
    refine beginL (S := (fun w' => w'.cell? ⟨w.heap.size, 0, none⟩ = some (.string R.name) ∧ w'.cell? ⟨w.heap.size, 1, none⟩ = some (.int .i64 R.width) ∧ w'.cell? ⟨w.heap.size, 2, none⟩ = some (.int .i64 R.height) ∧ w'.cell? ⟨w.heap.size, 3, none⟩ = some vp ∧ w'.cell? ⟨w.heap.size, 4, none⟩ = some vs ∧ w'.cell? ⟨w.heap.size, 5, none⟩ = some (.bool R.falls) ∧ w'.cell? ⟨w.heap.size, 6, none⟩ = some (.bool R.keeps) ∧ w'.cell? ⟨w.heap.size, 7, none⟩ = some ve ∧ w'.cell? ⟨w.heap.size, 8, none⟩ = some (.int .i64 R.blocked) ∧ w'.cell? ⟨w.heap.size, 9, none⟩ = some (.int .i64 R.quiet) ∧ w'.cell? ⟨w.heap.size, 10, none⟩ = some (.int .i64 R.rept) ∧ w'.cell? ⟨w.heap.size + 1, 0, none⟩ = some vc ∧ w'.cell? ⟨w.heap.size + 1, 1, none⟩ = some v0 ∧ w'.cell? ⟨w.heap.size + 1, 2, none⟩ = some v1 ∧ w'.cell? ⟨w.heap.size + 1, 3, none⟩ = some (.int .i64 p.turn) ∧ w'.cell? ⟨w.heap.size + 1, 4, none⟩ = some (.int .i64 p.quiet) ∧ w'.cell? ⟨g, o + j * 4 + 1, none⟩ = some (.int .i64 x.move.src) ∧ w'.cell? ⟨g, o + j * 4 + 2, none⟩ = some (.int .i64 x.move.dst) ∧ w'.cell? ⟨g, o + j * 4 + 3, none⟩ = some (.int .i64 x.move.piece))) (L := []) (by kernel_rfl) ⟨BRz.cell 0 rfl, BRz.cell 1 rfl, BRz.cell 2 rfl, BRz.cell 3 rfl, BRz.cell 4 rfl, BRz.cell 5 rfl, BRz.cell 6 rfl, BRz.cell 7 rfl, BRz.cell 8 rfl, BRz.cell 9 rfl, BRz.cell 10 rfl, BPz.cell 0 rfl, BPz.cell 1 rfl, BPz.cell 2 rfl, BPz.cell 3 rfl, BPz.cell 4 rfl, MAz, MBz, MCz⟩ (fun hHeld => ?_)
    refine takeW (i := 0) (oi := { dst := some 13, op := Op.move (Operand.tmp 9), type := 3, pos := "premove.go:68", after := #[], guard := none }) (v := ?va101) rfl (by kernel_rfl) (by kernel_rfl) (by kernel_rfl) rfl (fun _ _ _ h => h) (Or.inl ⟨by rfl, ?ya101⟩) (fun _ => by assumption) ?ra101
    case ya101 => (intro w _; go_simp; first | done | (with_reducible rfl))
    try simp only [Act.put, List.setIfInBounds_toArray, List.set_cons_zero, List.set_cons_succ]
    refine takeW (i := 1) (oi := { dst := some 14, op := Op.binOp BinOp.lss 3 (Operand.tmp 13) (Operand.const (Value.int IntKind.i64 0)) 3, type := 4, pos := "premove.go:68", after := #[{ on := 0, ground := Ground.data }], guard := none }) (v := ?va102) rfl (by kernel_rfl) (by kernel_rfl) (by kernel_rfl) rfl (fun _ _ _ h => h) (Or.inl ⟨by rfl, ?ya102⟩) (fun _ => by assumption) ?ra102
    case ya102 => (intro w _; go_simp; first | done | (with_reducible rfl))
    try simp only [Act.put, List.setIfInBounds_toArray, List.set_cons_zero, List.set_cons_succ]
    refine takeW (i := 2) (oi := { dst := some 15, op := Op.move (Operand.tmp 14), type := 4, pos := "premove.go:68", after := #[{ on := 1, ground := Ground.data }], guard := none }) (v := ?va103) rfl (by kernel_rfl) (by kernel_rfl) (by kernel_rfl) rfl (fun _ _ _ h => h) (Or.inl ⟨by rfl, ?ya103⟩) (fun _ => by assumption) ?ra103
    case ya103 => (intro w _; go_simp; first | done | (with_reducible rfl))
    try simp only [Act.put, List.setIfInBounds_toArray, List.set_cons_zero, List.set_cons_succ]
    refine takeL (i := 3) (oi := { dst := some 16, op := Op.load 26 (Operand.tmp 3), type := 26, pos := "premove.go:68", after := #[{ on := 2, ground := Ground.guard }], guard := some (2, false) }) (v := ?va104) rfl (by kernel_rfl) (by kernel_rfl) (by kernel_rfl) (by kernel_rfl) rfl (by kernel_rfl) (by kernel_rfl) (fun _ _ _ h => h) (Or.inl ⟨by rfl, ?ya104⟩) (by assumption) ?ra104
    case ya104 => (intro w hSw; (try dsimp only at hSw); go_simp; first | done | (with_reducible rfl))
    try simp only [Act.put, List.setIfInBounds_toArray, List.set_cons_zero, List.set_cons_succ]
    refine takeL (i := 4) (oi := { dst := some 17, op := Op.load 37 (Operand.tmp 4), type := 37, pos := "premove.go:68", after := #[{ on := 2, ground := Ground.guard }], guard := some (2, false) }) (v := ?va105) rfl (by kernel_rfl) (by kernel_rfl) (by kernel_rfl) (by kernel_rfl) rfl (by kernel_rfl) (by kernel_rfl) (fun _ _ _ h => h) (Or.inl ⟨by rfl, ?ya105⟩) (by assumption) ?ra105
    case ya105 => (intro w hSw; (try dsimp only at hSw); go_simp; first | done | (with_reducible rfl))
    try simp only [Act.put, List.setIfInBounds_toArray, List.set_cons_zero, List.set_cons_succ]
    refine takeW (i := 6) (oi := { dst := some 19, op := Op.move (Operand.tmp 2), type := 62, pos := "premove.go:68", after := #[{ on := 2, ground := Ground.guard }], guard := some (2, false) }) (v := ?va106) rfl (by kernel_rfl) (by kernel_rfl) (by kernel_rfl) rfl (fun _ _ _ h => h) (Or.inl ⟨by rfl, ?ya106⟩) (fun _ => by assumption) ?ra106
    case ya106 => (intro w _; go_simp; first | done | (with_reducible rfl))
    try simp only [Act.put, List.setIfInBounds_toArray, List.set_cons_zero, List.set_cons_succ]
    refine takeW (i := 7) (oi := { dst := some 20, op := Op.move (Operand.tmp 9), type := 3, pos := "premove.go:68", after := #[{ on := 2, ground := Ground.guard }], guard := some (2, false) }) (v := ?va107) rfl (by kernel_rfl) (by kernel_rfl) (by kernel_rfl) rfl (fun _ _ _ h => h) (Or.inl ⟨by rfl, ?ya107⟩) (fun _ => by assumption) ?ra107
    case ya107 => (intro w _; go_simp; first | done | (with_reducible rfl))
    try simp only [Act.put, List.setIfInBounds_toArray, List.set_cons_zero, List.set_cons_succ]
    refine takeW (i := 8) (oi := { dst := some 21, op := Op.indexAddr 62 (Operand.tmp 19) (Operand.tmp 20), type := 0, pos := "premove.go:68", after := #[{ on := 6, ground := Ground.data }, { on := 7, ground := Ground.data }, { on := 2, ground := Ground.guard }], guard := some (2, false) }) (v := ?va108) rfl (by kernel_rfl) (by kernel_rfl) (by kernel_rfl) rfl (fun _ _ _ h => h) (Or.inl ⟨by rfl, ?ya108⟩) (fun _ => by assumption) ?ra108
    case ya108 => (intro w _; go_simp; first | done | (with_reducible rfl))
    try simp only [Act.put, List.setIfInBounds_toArray, List.set_cons_zero, List.set_cons_succ]
    refine takeW (i := 9) (oi := { dst := some 22, op := Op.fieldAddr 121 (Operand.tmp 21) 1, type := 0, pos := "premove.go:68", after := #[{ on := 8, ground := Ground.data }, { on := 2, ground := Ground.guard }], guard := some (2, false) }) (v := ?va109) rfl (by kernel_rfl) (by kernel_rfl) (by kernel_rfl) rfl (fun _ _ _ h => h) (Or.inl ⟨by rfl, ?ya109⟩) (fun _ => by assumption) ?ra109
    case ya109 => (intro w _; go_simp; first | done | (with_reducible rfl))
    try simp only [Act.put, List.setIfInBounds_toArray, List.set_cons_zero, List.set_cons_succ]
    refine takeL (i := 10) (oi := { dst := some 23, op := Op.load 42 (Operand.tmp 22), type := 42, pos := "premove.go:68", after := #[{ on := 9, ground := Ground.data }, { on := 2, ground := Ground.guard }], guard := some (2, false) }) (v := ?va110) rfl (by kernel_rfl) (by kernel_rfl) (by kernel_rfl) (by kernel_rfl) rfl (by kernel_rfl) (by kernel_rfl) (fun _ _ _ h => h) (Or.inl ⟨by rfl, ?ya110⟩) (by assumption) ?ra110
    case ya110 => (intro w hSw; (try dsimp only at hSw); go_simp; first | done | (with_reducible rfl))
    try simp only [Act.put, List.setIfInBounds_toArray, List.set_cons_zero, List.set_cons_succ]
    refine readyL (rs := [5]) (by kernel_rfl) (by simp) ?_
    refine (AllReadyL.cons (o := { dst := some 18, op := Op.call { callee := Callee.value (Operand.func 136), args := #[Operand.tmp 16, Operand.tmp 17], argTypes := #[26, 37] }, type := 32, pos := "premove.go:68", after := #[{ on := 3, ground := Ground.data }, { on := 4, ground := Ground.data }, { on := 2, ground := Ground.chain }, { on := 2, ground := Ground.guard }], guard := some (2, false) }) rfl (fun K hK => ?_) AllReadyL.nil)
    go_simp
    refine (Moves_any HSh.out R vp vs ve p vc v0 v1 _ (HR.out.below Lz (Nat.le_refl _)) (HP.out.below Lz (Nat.le_refl _)) HK.out).mono ?_
    rintro e w5 ⟨vm, rfl, hom, hb5⟩
    obtain ⟨am, cm, rfl⟩ := own_form2 hom
    have BR5 := BRz.stays hb5
    have BP5 := BPz.stays hb5
    have BM5 := BMz.stays hb5
    have L5 := below_trans Lz hb5 Lz.size
    have RL5 := RLz.below hb5 (Nat.le_refl _)
    have MA5 := (hb5.cell Gz).trans MAz
    have MB5 := (hb5.cell Gz).trans MBz
    have MC5 := (hb5.cell Gz).trans MCz
    have G5 := Nat.lt_of_lt_of_le Gz hb5.size
    have RM5 := rdM_of_own hom
    clear hb5 hom
    refine hK.out _ _ ⟨BR5.cell 0 rfl, BR5.cell 1 rfl, BR5.cell 2 rfl, BR5.cell 3 rfl, BR5.cell 4 rfl, BR5.cell 5 rfl, BR5.cell 6 rfl, BR5.cell 7 rfl, BR5.cell 8 rfl, BR5.cell 9 rfl, BR5.cell 10 rfl, BP5.cell 0 rfl, BP5.cell 1 rfl, BP5.cell 2 rfl, BP5.cell 3 rfl, BP5.cell 4 rfl, MA5, MB5, MC5⟩ (fun hHeld => ?_)
    clear hK K
    try simp only [Act.put, List.setIfInBounds_toArray, List.set_cons_zero, List.set_cons_succ]
    refine readyL (rs := [11]) (by kernel_rfl) (by simp) ?_
    refine (AllReadyL.cons (o := { dst := some 24, op := Op.call { callee := Callee.value (Operand.func 66), args := #[Operand.tmp 18, Operand.tmp 23], argTypes := #[32, 42] }, type := 4, pos := "premove.go:68", after := #[{ on := 5, ground := Ground.data }, { on := 10, ground := Ground.data }, { on := 5, ground := Ground.chain }, { on := 2, ground := Ground.guard }], guard := some (2, false) }) rfl (fun K hK => ?_) AllReadyL.nil)
    go_simp
    refine (contains_mv _ x.move _ _ RM5).mono ?_
    rintro e w11 ⟨rfl, hb11⟩
    have BR11 := BR5.stays hb11
    have BP11 := BP5.stays hb11
    have BM11 := BM5.stays hb11
    have L11 := below_trans L5 hb11 L5.size
    have RL11 := RL5.below hb11 (Nat.le_refl _)
    have MA11 := (hb11.cell G5).trans MA5
    have MB11 := (hb11.cell G5).trans MB5
    have MC11 := (hb11.cell G5).trans MC5
    have G11 := Nat.lt_of_lt_of_le G5 hb11.size
    clear hb11
    refine hK.out _ _ ⟨BR11.cell 0 rfl, BR11.cell 1 rfl, BR11.cell 2 rfl, BR11.cell 3 rfl, BR11.cell 4 rfl, BR11.cell 5 rfl, BR11.cell 6 rfl, BR11.cell 7 rfl, BR11.cell 8 rfl, BR11.cell 9 rfl, BR11.cell 10 rfl, BP11.cell 0 rfl, BP11.cell 1 rfl, BP11.cell 2 rfl, BP11.cell 3 rfl, BP11.cell 4 rfl, MA11, MB11, MC11⟩ (fun hHeld => ?_)
    clear hK K
    try simp only [Act.put, List.setIfInBounds_toArray, List.set_cons_zero, List.set_cons_succ]
    refine takeW (i := 12) (oi := { dst := some 25, op := Op.unOp UnOp.not 4 (Operand.tmp 24), type := 4, pos := "premove.go:68", after := #[{ on := 11, ground := Ground.data }, { on := 2, ground := Ground.guard }], guard := some (2, false) }) (v := ?va111) rfl (by kernel_rfl) (by kernel_rfl) (by kernel_rfl) rfl (fun _ _ _ h => h) (Or.inl ⟨by rfl, ?ya111⟩) (fun _ => by assumption) ?ra111
    case ya111 => (intro w _; go_simp; first | done | (with_reducible rfl))
    try simp only [Act.put, List.setIfInBounds_toArray, List.set_cons_zero, List.set_cons_succ]
    refine takeW (i := 13) (oi := { dst := some 26, op := Op.pick (Operand.tmp 15) (Operand.const (Value.bool true)) (Operand.tmp 25), type := 4, pos := "premove.go:68", after := #[{ on := 2, ground := Ground.data }, { on := 12, ground := Ground.data }], guard := none }) (v := ?va112) rfl (by kernel_rfl) (by kernel_rfl) (by kernel_rfl) rfl (fun _ _ _ h => h) (Or.inl ⟨by rfl, ?ya112⟩) (fun _ => by assumption) ?ra112
    case ya112 => (intro w _; go_simp; first | done | (with_reducible rfl))
    try simp only [Act.put, List.setIfInBounds_toArray, List.set_cons_zero, List.set_cons_succ]
    refine doneL (by kernel_rfl) ?_ _
    refine NoPanic.normal ?_
    rw [hmem]
    have q3 := BP11.cell 3 rfl
    have HLn := Lib.hid L11
    have HRn := Lib.hid RL11
    have HBm := Lib.hid BM11
    go_wp2_with fail
    refine (without_any _ l p.turn _ HRn.out (by omega)).mono ?_
    rintro e w7 ⟨v7, rfl, ho7, hb7⟩
    obtain ⟨a7, c7, rfl⟩ := own_form2 ho7
    have HB7 := Lib.hid (below_trans HLn.out hb7 HLn.out.size)
    have HM7 := Lib.hid (HBm.out.stays hb7)
    have HO7 := Lib.hid ho7
    have hsz7 := HBm.out.lt
    clear ho7 hb7
    go_wp2_with (refine wpList_store_box (vs := [.int .i64 0, .int .i64 0, .int .i64 0]) (by rfl) 42 (.tmp 6) (.tmp 27) (by rfl) (w.heap.size + 1 + 1) (by rfl) (by rfl) HM7.out rfl (by kernel_rfl) (by rfl) ?_)
    exact bodyPost_ret (results_c2 rfl (by rfl) (by rfl) (by rfl) (HM7.out.store rfl) Try.underlying42 (by rfl) (by kernel_rfl)) rfl ⟨_, by rw [HE1.out, HE2.out]; rfl, by rw [HE3.out]; exact own_base (own_setCells HO7.out hsz7 0 _) HLn.out.size, below_setCells HB7.out (by omega) 0 _⟩

end Go.Proofs.Ytkfaibdflbdpgaa

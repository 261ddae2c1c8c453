/- Tic, PmG2, ClaimWP. -/
import Derived.Test.YtnodagljaoonjaaGreatDoorC08
import Derived.Laws.MakeOwn
import Derived.Test.YtnodagljaoonjaaGreatDoorC19
import Derived.Test.YtnodagljaoonjaaGreatDoorC09
import Derived.Test.YtnodagljaoonjaaGreatDoorC05
import Derived.Test.YtnodagljaoonjaaGreatDoorC14
import Derived.Test.YtnodagljaoonjaaGreatDoorC13
namespace Go.Proofs.YtnodagljaoonjaaGreatDoor
open Go.ChangeShapes Go.WideShapes Go.ChangeAt Go.RowKit
set_option linter.unusedVariables false
def ticZ : RulesZ := ⟨⟨#[84, 73, 67]⟩, 3, 3, [⟨83, 5, 0, []⟩], List.replicate 9 0, false, false, [⟨0, 0, 3, false⟩], 2, 0, 0⟩
def TicPost (w : World) (e : Ending) (w' : World) : Prop := ∃ vp vs ve, e = .returned (rulesV ticZ vp vs ve) ∧ RdR w' ticZ vp vs ve ∧ Below w.heap.size w w'
set_option maxRecDepth 100000 in
set_option maxHeartbeats 4000000 in
theorem tic_any (w : World) : Calls Tryz.prog 18 #[] w (TicPost w) := by
 obtain ⟨i0, hi, hz0, hz1, hz2⟩ := info_parts info3
 have hmk : ∀ w' : World, (Instr.makeSlice 23 (.int .i64 9) (.int .i64 9)).run Tryz.prog w' = .ok (.slice (some ⟨w'.heap.size, 0, none⟩) 9 9) (w'.alloc (.cells #[.int .i64 0, .int .i64 0, .int .i64 0, .int .i64 0, .int .i64 0, .int .i64 0, .int .i64 0, .int .i64 0, .int .i64 0] 3)) := fun w' => by
  rw [run_make w' 23 3 i0 (.int .i64 0) Tryz.underlying23 hi hz0 .i64 .i64 9 9 (by decide) (by decide) (by rw [hz2]; decide) (by decide), hz1]
  kernel_rfl
 clear hi hz0 hz1 hz2
 go_enter Tryz.func18, Tryz.ntmps18
 go_wp2
 refine bodyPost_ret (v := rulesV ticZ (.slice (some ⟨w.heap.size + 1, 0, none⟩) 1 1) (.slice (some ⟨w.heap.size + 1 + 1, 0, none⟩) 9 9) (.slice (some ⟨w.heap.size + 1 + 1 + 1, 0, none⟩) 1 1)) (by simp [results, Tryz.results18, go_sem, rulesV, ticZ]) rfl ⟨_, _, _, rfl, ⟨?_, ?_, ?_⟩, by go_grown⟩
 ·refine .inr ⟨w.heap.size + 1, 0, 1, rfl, Nat.le_refl _, by unfold maxLen; decide, by simp, fun i h => ?_⟩
  obtain rfl : i = 0 := by simp [ticZ] at h; exact h
  refine ⟨[.int .u8 83, .int .i64 5, .int .i64 0, .slice none 0 0], ⟨.slice none 0 0, rfl, RdL.nil _ _⟩, fun j hj => ?_⟩
  simp only [pieceEl] at hj
  rcases j with _ | _ | _ | _ | j
  all_goals first | (simp [go_sem]; done) | omega
 ·refine ⟨rfl, .inr ⟨w.heap.size + 1 + 1, 0, 9, rfl, Nat.le_refl _, by unfold maxLen; decide, fun i hi => ?_⟩⟩
  have hi' : i < 9 := by simpa [ticZ] using hi
  rcases i with _ | _ | _ | _ | _ | _ | _ | _ | _ | i
  all_goals first | (simp [go_sem, ints, ticZ]; done) | omega
 ·refine .inr ⟨w.heap.size + 1 + 1 + 1, 0, 1, rfl, Nat.le_refl _, by unfold maxLen; decide, by simp, fun i h => ?_⟩
  obtain rfl : i = 0 := by simp [ticZ] at h; exact h
  refine ⟨[.int .i64 0, .int .i64 0, .int .i64 3, .bool false], rfl, fun j hj => ?_⟩
  simp only [endEl] at hj
  rcases j with _ | _ | _ | _ | j
  all_goals first | (simp [go_sem]; done) | omega
end Go.Proofs.YtnodagljaoonjaaGreatDoor
/- The contracts of premove.next, check, Next. -/
namespace Go.Proofs.YtnodagljaoonjaaGreatDoor
open Go.ChangeShapes Go.WideShapes Go.ChangeAt Go.RowKit
set_option linter.unusedVariables false
set_option maxHeartbeats 4000000
set_option maxRecDepth 100000
theorem RdL.drop {α : Type} {el : El α} {w : World} {a : Option Addr} {n c : Nat} {xs : List α} (h : RdL el w (.slice a n c) xs) (k : Nat) (hk : k ≤ xs.length) : RdL el w (.slice (subAddr a c k el.k) (xs.length - k) (c - k)) (xs.drop k) := by
 have hl : (xs.drop k).length = xs.length - k := by rw [List.length_drop]
 rcases h with ⟨a', c', h, hm, hz⟩ | ⟨g, o, c', h1, h2, h3, h4, h5⟩
 ·simp only [Value.slice.injEq] at h
  obtain ⟨rfl, _, rfl⟩ := h
  exact .inl ⟨_, _, by rw [hz, Nat.zero_sub], by omega, by rw [hl]; omega⟩
 ·simp only [Value.slice.injEq] at h1
  obtain ⟨rfl, _, rfl⟩ := h1
  by_cases hck : xs.length - k = 0
  ·exact .inl ⟨_, _, by rw [hck], by omega, by rw [hl]; exact hck⟩
  ·have hne : ¬ c = k := by omega
   refine .inr ⟨g, o + k * el.k, c - k, by rw [hl, subAddr, if_neg hne]; simp [add_off], by omega, by omega, h4, fun i hi => ?_⟩
   rw [hl] at hi
   obtain ⟨cs, e, f⟩ := h5 (k + i) (by omega)
   refine ⟨cs, by simpa using e, fun q hq => ?_⟩
   have := f q hq
   rw [Nat.add_mul, ← Nat.add_assoc] at this
   exact this
/-- results that are one variable and two slots. -/
theorem results_c2 {P : Program} {fn : Func} {tmps : Array Value} {a s s2 : Nat} {t t' : TypeId} {w : World} {b : Nat} {cs : List Value} {v v2 : Value} {d : TypeDesc} (hr : fn.results = #[.cell a t, .tmp s, .tmp s2])
  (ha : tmps.getD a undef = .pointer (some ⟨b, 0, none⟩)) (hs : tmps.getD s undef = v) (hs2 : tmps.getD s2 undef = v2) (hc : Box w b cs t') (hu : P.underlying t = some d) (hd : d.isRow = true) (hi : (P.info? t).map (·.size) = some cs.length) :
  (results fn tmps).run P w = .ok (.tuple #[.agg cs.toArray, v, v2]) w := by
 have hl := run_loadVar_mid (P := P) w b 0 t cs d hc.range hu hd hi
 have ha' : tmps[a]?.getD undef = .pointer (some ⟨b, 0, none⟩) := by simpa using ha
 have hs' : tmps[s]?.getD undef = v := by simpa using hs
 have hs2' : tmps[s2]?.getD undef = v2 := by simpa using hs2
 unfold results
 rw [hr]
 simp [asAddr, ha', hs', hs2', hl]
theorem results_c3 {P : Program} {fn : Func} {tmps : Array Value} {a s s2 s3 : Nat} {t t' : TypeId} {w : World} {b : Nat} {cs : List Value} {v v2 v3 : Value} {d : TypeDesc} (hr : fn.results = #[.cell a t, .tmp s, .tmp s2, .tmp s3])
  (ha : tmps.getD a undef = .pointer (some ⟨b, 0, none⟩)) (hs : tmps.getD s undef = v) (hs2 : tmps.getD s2 undef = v2) (hs3 : tmps.getD s3 undef = v3) (hc : Box w b cs t') (hu : P.underlying t = some d) (hd : d.isRow = true) (hi : (P.info? t).map (·.size) = some cs.length) :
  (results fn tmps).run P w = .ok (.tuple #[.agg cs.toArray, v, v2, v3]) w := by
 have hl := run_loadVar_mid (P := P) w b 0 t cs d hc.range hu hd hi
 have ha' : tmps[a]?.getD undef = .pointer (some ⟨b, 0, none⟩) := by simpa using ha
 have hs' : tmps[s]?.getD undef = v := by simpa using hs
 have hs2' : tmps[s2]?.getD undef = v2 := by simpa using hs2
 have hs3' : tmps[s3]?.getD undef = v3 := by simpa using hs3
 unfold results
 rw [hr]
 simp [asAddr, ha', hs', hs2', hs3', hl]
def nextIx (p : PosZ) (l : List PremZ) : Int := idxL (fun x => x.player == p.turn) l 0
def nextOk (R : RulesZ) (p : PosZ) (l : List PremZ) : Bool := decide (0 ≤ nextIx p l) && decide ((l.getD (nextIx p l).toNat default).move ∈ movesZ R p)
def nextMv (R : RulesZ) (p : PosZ) (l : List PremZ) : MoveZ := if nextOk R p l = true then (l.getD (nextIx p l).toNat default).move else ⟨0, 0, 0⟩
def nextRest (R : RulesZ) (p : PosZ) (l : List PremZ) : List PremZ := if nextOk R p l = true then l.take (nextIx p l).toNat ++ l.drop ((nextIx p l).toNat + 1) else withoutZ l p.turn
def NextPost (R : RulesZ) (p : PosZ) (l : List PremZ) (w : World) (e : Ending) (w' : World) : Prop :=
 ∃ v, e = .returned (.tuple #[.agg #[.int .i64 (nextMv R p l).src, .int .i64 (nextMv R p l).dst, .int .i64 (nextMv R p l).piece], .bool (nextOk R p l), v]) ∧ w'.ownsRow w.heap.size 86 4 v (nextRest R p l).length (flatP (nextRest R p l)) ∧ Below w.heap.size w w'
theorem next1_any (x : PremZ) (t : Int) (b : Nat) (W : World) (hlt : b < W.heap.size) (hc : W.cell? ⟨b, 3, none⟩ = some (.int .i64 t)) : Calls Tryz.prog 161 (#[.agg #[.int .i64 x.player, .int .i64 x.move.src, .int .i64 x.move.dst, .int .i64 x.move.piece]] ++ #[.pointer (some ⟨b, 0, none⟩)]) W fun e w' => e = .returned (.bool (x.player == t)) ∧ Below W.heap.size W w' := by
 show Calls Tryz.prog 161 #[.agg #[.int .i64 x.player, .int .i64 x.move.src, .int .i64 x.move.dst, .int .i64 x.move.piece], .pointer (some ⟨b, 0, none⟩)] W _
 go_enter Tryz.func161, Tryz.ntmps161
 go_wp2
 go_ret
 exact ⟨rfl, (Below.refl _ _).alloc (Nat.le_refl _) _⟩
theorem callNx1 (args : Array Value) (w : World) : (callFunc 161 args).run Tryz.prog w = .ok (.enter 161 args) w := by kernel_rfl
theorem next_any (HS : SortMvSaid) (R : RulesZ) (vp vs ve : Value) (p : PosZ) (vc v0 v1 : Value) (v : Value) (l : List PremZ) (w : World) (hr : RdR w R vp vs ve) (hp : RdP w p vc v0 v1) (hl : RdL premEl w v l) (K : POk R p) (hlen : l.length ≤ 1000) :
  Calls Tryz.prog 128 #[(.agg #[.string R.name, .int .i64 R.width, .int .i64 R.height, vp, vs, .bool R.falls, .bool R.keeps, ve, .int .i64 R.blocked, .int .i64 R.quiet, .int .i64 R.rept]), (.agg #[vc, v0, v1, .int .i64 p.turn, .int .i64 p.quiet]), v] w (NextPost R p l w) := by
 have HR := Lib.hid hr
 have HP := Lib.hid hp
 have HL := Lib.hid hl
 have HK := Lib.hid K
 have HSh := Lib.hid HS
 obtain ⟨a, c, rfl, h1, h2⟩ := hl.form
 unfold maxLen at h2
 clear hr hp hl K HS
 go_enter Tryz.func128, Tryz.ntmps128
 go_upto_region 1 with (fail)
 refine opn3 fun w0 B0 B1 B2 yb_ hs_ => ?_
 have HB := Lib.hid yb_
 have hz0 : w.heap.size + 1 + 1 < w0.heap.size := by omega
 clear hs_ yb_
 have HRw := Lib.hid (HR.out.below HB.out (Nat.le_refl _))
 have HPw := Lib.hid (HP.out.below HB.out (Nat.le_refl _))
 have HLw := Lib.hid (HL.out.below HB.out (Nat.le_refl _))
 have HX0 := Lib.hid B0
 have HX1 := Lib.hid B1
 have HX2 := Lib.hid B2
 have HI := Lib.hid (IndexFunc_pm (.slice a l.length c) l (fun x => x.player == p.turn) 161 #[.pointer (some ⟨w.heap.size + 1, 0, none⟩)] w0 HLw.out callNx1 (fun W x cs hx hE hW => by
  simp only [premEl] at hE
  subst hE
  exact next1_any x p.turn (w.heap.size + 1) W (Nat.lt_of_lt_of_le (by omega) hW.size) ((HX1.out.stays hW).cell 3 rfl)))
 clear B0 B1 B2
 go_wp2_with fail
 refine HI.out.mono ?_
 rintro e w1 ⟨rfl, hb1⟩
 have HX0' := Lib.hid (HX0.out.stays hb1)
 have HX1' := Lib.hid (HX1.out.stays hb1)
 have HX2' := Lib.hid (HX2.out.stays hb1)
 have HB1 := Lib.hid (below_trans HB.out hb1 HB.out.size)
 have HL1 := Lib.hid (HLw.out.below hb1 (Nat.le_refl _))
 clear hb1 HX0 HX1 HX2 HI HRw HPw HLw HB hz0
 have HIX : Hid (nextIx p l = idxL (fun x => x.player == p.turn) l 0) := Lib.hid rfl
 by_cases hn : idxL (fun x => x.player == p.turn) l 0 = -1
 ·have hok : nextOk R p l = false := by unfold nextOk; rw [HIX.out, hn]; rfl
  have HE1 : Hid (nextOk R p l = false) := Lib.hid hok
  have HE2 : Hid (nextMv R p l = ⟨0, 0, 0⟩) := Lib.hid (by unfold nextMv; rw [hok]; rfl)
  have HE3 : Hid (nextRest R p l = withoutZ l p.turn) := Lib.hid (by unfold nextRest; rw [hok]; rfl)
  rw [hn]
  clear hn hok HIX
  go_upto_region 2 with (fail)
  generalize w1 = wq at *
  have BRz := HX0'.out.drew
  have BPz := HX1'.out.drew
  have BMz := HX2'.out.drew
  have Lz : Below w.heap.size w wq.drew := below_drew' HB1.out
  have RLz : RdL premEl wq.drew (.slice a l.length c) l := HL1.out.below (below_drew' (Below.refl _ _)) (Nat.le_refl _)
  clear HX0' HX1' HX2' HB1 HL1
  refine wp_region_noPanic ?_
  refine beginL (S := (fun _ => True)) (L := []) (by kernel_rfl) trivial (fun hHeld => ?_)
  refine tkW 0 ?_
  refine tkW 1 ?_
  refine tkW 2 ?_
  refine skW 3 ?_
  refine skW 4 ?_
  refine skW 6 ?_
  refine skW 7 ?_
  refine skW 5 ?_
  refine skW 8 ?_
  refine skW 9 ?_
  refine skW 10 ?_
  refine skW 11 ?_
  refine skW 12 ?_
  refine tkW 13 ?_
  refine dnN ?_
  have BRy : Box wq.drew (w.heap.size) [.string R.name, .int .i64 R.width, .int .i64 R.height, vp, vs, .bool R.falls, .bool R.keeps, ve, .int .i64 R.blocked, .int .i64 R.quiet, .int .i64 R.rept] 26 := BRz
  have q3 := BPz.cell 3 rfl
  have HLn := Lib.hid Lz
  have HRn := Lib.hid RLz
  have HBm := Lib.hid BMz
  go_wp2_with fail
  refine (without_any _ l p.turn _ HRn.out (by omega)).mono ?_
  rintro e w7 ⟨v7, rfl, ho7, hb7⟩
  obtain ⟨a7, c7, rfl⟩ := own_form2 ho7
  have HB7 := Lib.hid (below_trans HLn.out hb7 HLn.out.size)
  have HM7 := Lib.hid (HBm.out.stays hb7)
  have HO7 := Lib.hid ho7
  have hsz7 := HBm.out.lt
  clear ho7 hb7
  go_wp2_with (refine wpList_store_box (vs := [.int .i64 0, .int .i64 0, .int .i64 0]) (by rfl) 38 (.tmp 6) (.tmp 27) (by rfl) (w.heap.size + 1 + 1) (by rfl) (by rfl) HM7.out rfl (by kernel_rfl) (by rfl) ?_)
  exact bodyPost_ret (results_c2 rfl (by rfl) (by rfl) (by rfl) (HM7.out.store rfl) Tryz.underlying38 (by rfl) (by kernel_rfl)) rfl ⟨_, by rw [HE1.out, HE2.out]; rfl, by rw [HE3.out]; exact own_base (own_setCells HO7.out hsz7 0 _) HLn.out.size, below_setCells HB7.out (by omega) 0 _⟩
 obtain ⟨j, hj0, hj1, hpj, -⟩ := idxL_found (fun x => x.player == p.turn) l 0 (Int.le_refl _) hn
 simp only [Int.zero_add] at hj0
 have hjx : nextIx p l = j := by rw [HIX.out, hj0]
 obtain ⟨g, o, rfl, hg, hcc⟩ := prems_some HL1.out (by omega)
 obtain ⟨-, m1, m2, m3⟩ := hcc j hj1
 have hokd : nextOk R p l = decide ((l.getD j default).move ∈ movesZ R p) := by unfold nextOk; rw [hjx]; simp
 have HMv : Hid (nextOk R p l = true → nextMv R p l = (l.getD j default).move) := Lib.hid (fun h => by unfold nextMv; rw [if_pos h, hjx]; rfl)
 have HRs : Hid (nextOk R p l = true → nextRest R p l = l.take j ++ l.drop (j + 1)) := Lib.hid (fun h => by unfold nextRest; rw [if_pos h, hjx]; rfl)
 rw [hj0]
 clear hn hj0 hpj hcc HIX hjx
 generalize l.getD j default = x at *
 by_cases hm : x.move ∈ movesZ R p
 ·have hmem : decide (x.move ∈ movesZ R p) = true := by simpa using hm
  have HE1 : Hid (nextOk R p l = true) := Lib.hid (by rw [hokd, hmem])
  have HE2 : Hid (nextMv R p l = x.move) := Lib.hid (HMv.out HE1.out)
  obtain ⟨rs, hrs⟩ : ∃ rs, rs = l.take j ++ l.drop (j + 1) := ⟨_, rfl⟩
  have HRS := Lib.hid hrs
  have HE3 : Hid (nextRest R p l = rs) := Lib.hid (by rw [HRs.out HE1.out, hrs])
  clear hrs
  have hsa : ∀ w' : World, (Instr.slice 48 (.slice (some ⟨g, o, none⟩) l.length c) none (some (.int .i64 (j : Int))) none).run Tryz.prog w' = .ok (.slice (some ⟨g, o, none⟩) j c) w' := fun w' =>
   run_take (P := Tryz.prog) (t := 48) (s := 4) Tryz.underlying48 (fun w => by kernel_rfl) (some ⟨g, o, none⟩) l.length c j (by omega) w'
  have hsb : ∀ w' : World, (Instr.slice 48 (.slice (some ⟨g, o, none⟩) l.length c) (some (.int .i64 ((j : Int) + 1))) none none).run Tryz.prog w' = .ok (.slice (subAddr (some ⟨g, o, none⟩) c (j + 1) 4) (l.length - (j + 1)) (c - (j + 1))) w' := fun w' => by
   have h := run_drop (P := Tryz.prog) (t := 48) (s := 4) Tryz.underlying48 (fun w => by kernel_rfl) (some ⟨g, o, none⟩) l.length c (j + 1) (by omega) w'
   rw [Int.natCast_succ] at h
   exact h
  have hwj : IntKind.i64.wrap ((j : Int) + 1) = (j : Int) + 1 := IntWalk.i64_in _ (by omega)
  clear hm hokd HMv HRs
  go_upto_region 2 with (fail)
  generalize w1 = wq at *
  have BRz := HX0'.out.drew
  have BPz := HX1'.out.drew
  have BMz := HX2'.out.drew
  have Lz : Below w.heap.size w wq.drew := below_drew' HB1.out
  have RLz : RdL premEl wq.drew (.slice (some ⟨g, o, none⟩) l.length c) l := HL1.out.below (below_drew' (Below.refl _ _)) (Nat.le_refl _)
  have MAz : wq.drew.cell? ⟨g, o + j * 4 + 1, none⟩ = some (.int .i64 x.move.src) := m1
  have MBz : wq.drew.cell? ⟨g, o + j * 4 + 2, none⟩ = some (.int .i64 x.move.dst) := m2
  have MCz : wq.drew.cell? ⟨g, o + j * 4 + 3, none⟩ = some (.int .i64 x.move.piece) := m3
  have Gz : g < wq.drew.heap.size := hg
  clear HX0' HX1' HX2' HB1 HL1 m1 m2 m3 hg
  refine wp_region_noPanic ?_
  refine beginL (S := (fun w' => w'.cell? ⟨w.heap.size, 0, none⟩ = some (.string R.name) ∧ w'.cell? ⟨w.heap.size, 1, none⟩ = some (.int .i64 R.width) ∧ w'.cell? ⟨w.heap.size, 2, none⟩ = some (.int .i64 R.height) ∧ w'.cell? ⟨w.heap.size, 3, none⟩ = some vp ∧ w'.cell? ⟨w.heap.size, 4, none⟩ = some vs ∧ w'.cell? ⟨w.heap.size, 5, none⟩ = some (.bool R.falls) ∧ w'.cell? ⟨w.heap.size, 6, none⟩ = some (.bool R.keeps) ∧ w'.cell? ⟨w.heap.size, 7, none⟩ = some ve ∧ w'.cell? ⟨w.heap.size, 8, none⟩ = some (.int .i64 R.blocked) ∧ w'.cell? ⟨w.heap.size, 9, none⟩ = some (.int .i64 R.quiet) ∧ w'.cell? ⟨w.heap.size, 10, none⟩ = some (.int .i64 R.rept) ∧ w'.cell? ⟨w.heap.size + 1, 0, none⟩ = some vc ∧ w'.cell? ⟨w.heap.size + 1, 1, none⟩ = some v0 ∧ w'.cell? ⟨w.heap.size + 1, 2, none⟩ = some v1 ∧ w'.cell? ⟨w.heap.size + 1, 3, none⟩ = some (.int .i64 p.turn) ∧ w'.cell? ⟨w.heap.size + 1, 4, none⟩ = some (.int .i64 p.quiet) ∧ w'.cell? ⟨g, o + j * 4 + 1, none⟩ = some (.int .i64 x.move.src) ∧ w'.cell? ⟨g, o + j * 4 + 2, none⟩ = some (.int .i64 x.move.dst) ∧ w'.cell? ⟨g, o + j * 4 + 3, none⟩ = some (.int .i64 x.move.piece))) (L := []) (by kernel_rfl) ⟨BRz.cell 0 rfl, BRz.cell 1 rfl, BRz.cell 2 rfl, BRz.cell 3 rfl, BRz.cell 4 rfl, BRz.cell 5 rfl, BRz.cell 6 rfl, BRz.cell 7 rfl, BRz.cell 8 rfl, BRz.cell 9 rfl, BRz.cell 10 rfl, BPz.cell 0 rfl, BPz.cell 1 rfl, BPz.cell 2 rfl, BPz.cell 3 rfl, BPz.cell 4 rfl, MAz, MBz, MCz⟩ (fun hHeld => ?_)
  refine tkW 0 ?_
  refine tkW 1 ?_
  refine tkW 2 ?_
  refine tkL 3 ?_
  refine tkL 4 ?_
  refine tkW 6 ?_
  refine tkW 7 ?_
  refine tkW 8 ?_
  refine tkW 9 ?_
  refine tkL 10 ?_
  refine cnL 5 fun K hK => ?_
  go_simp
  refine (Moves_any HSh.out R vp vs ve p vc v0 v1 _ (HR.out.below Lz (Nat.le_refl _)) (HP.out.below Lz (Nat.le_refl _)) HK.out).mono ?_
  rintro e w5 ⟨vm, rfl, hom, hb5⟩
  obtain ⟨am, cm, rfl⟩ := own_form2 hom
  have BR5 := BRz.stays hb5
  have BP5 := BPz.stays hb5
  have BM5 := BMz.stays hb5
  have L5 := below_trans Lz hb5 Lz.size
  have RL5 := RLz.below hb5 (Nat.le_refl _)
  have MA5 := (hb5.cell Gz).trans MAz
  have MB5 := (hb5.cell Gz).trans MBz
  have MC5 := (hb5.cell Gz).trans MCz
  have G5 := Nat.lt_of_lt_of_le Gz hb5.size
  have RM5 := rdM_of_own hom
  clear hb5 hom
  refine hK.out _ _ ⟨BR5.cell 0 rfl, BR5.cell 1 rfl, BR5.cell 2 rfl, BR5.cell 3 rfl, BR5.cell 4 rfl, BR5.cell 5 rfl, BR5.cell 6 rfl, BR5.cell 7 rfl, BR5.cell 8 rfl, BR5.cell 9 rfl, BR5.cell 10 rfl, BP5.cell 0 rfl, BP5.cell 1 rfl, BP5.cell 2 rfl, BP5.cell 3 rfl, BP5.cell 4 rfl, MA5, MB5, MC5⟩ (fun hHeld => ?_)
  clear hK K
  refine cnL 11 fun K hK => ?_
  go_simp
  refine (contains_mv _ x.move _ _ RM5).mono ?_
  rintro e w11 ⟨rfl, hb11⟩
  have BR11 := BR5.stays hb11
  have BP11 := BP5.stays hb11
  have BM11 := BM5.stays hb11
  have L11 := below_trans L5 hb11 L5.size
  have RL11 := RL5.below hb11 (Nat.le_refl _)
  have MA11 := (hb11.cell G5).trans MA5
  have MB11 := (hb11.cell G5).trans MB5
  have MC11 := (hb11.cell G5).trans MC5
  have G11 := Nat.lt_of_lt_of_le G5 hb11.size
  clear hb11
  refine hK.out _ _ ⟨BR11.cell 0 rfl, BR11.cell 1 rfl, BR11.cell 2 rfl, BR11.cell 3 rfl, BR11.cell 4 rfl, BR11.cell 5 rfl, BR11.cell 6 rfl, BR11.cell 7 rfl, BR11.cell 8 rfl, BR11.cell 9 rfl, BR11.cell 10 rfl, BP11.cell 0 rfl, BP11.cell 1 rfl, BP11.cell 2 rfl, BP11.cell 3 rfl, BP11.cell 4 rfl, MA11, MB11, MC11⟩ (fun hHeld => ?_)
  clear hK K
  refine tkW 12 ?_
  refine tkW 13 ?_
  refine dnN ?_
  rw [hmem]
  have HX := Lib.hid (And.intro BR11 (And.intro BP11 (And.intro BM11 (And.intro L11 (And.intro RL11 (And.intro MA11 (And.intro MB11 (And.intro MC11 G11))))))))
  clear BR11 BP11 BM11 L11 RL11 MA11 MB11 MC11 BRz BPz BMz Lz RLz MAz MBz MCz BR5 BP5 BM5 L5 RL5 MA5 MB5 MC5 RM5 hHeld
  go_upto_region 4 with (fail)
  generalize w11 = wr4 at *
  obtain ⟨BRx, BPx, BMx, Lx, RLx, MAx, MBx, MCx, Gx⟩ := HX.out
  clear HX
  have BRy : Box wr4.drew (w.heap.size) [.string R.name, .int .i64 R.width, .int .i64 R.height, vp, vs, .bool R.falls, .bool R.keeps, ve, .int .i64 R.blocked, .int .i64 R.quiet, .int .i64 R.rept] 26 := BRx
  have BPy : Box wr4.drew (w.heap.size + 1) [vc, v0, v1, .int .i64 p.turn, .int .i64 p.quiet] 59 := BPx
  have BMy : Box wr4.drew (w.heap.size + 1 + 1) [.int .i64 0, .int .i64 0, .int .i64 0] 38 := BMx
  have Ly : Below w.heap.size w wr4.drew := below_drew' Lx
  have RLy : RdL premEl wr4.drew (.slice (some ⟨g, o, none⟩) l.length c) l := RLx.below (below_drew' (Below.refl _ _)) (Nat.le_refl _)
  have MAy : wr4.drew.cell? ⟨g, o + j * 4 + 1, none⟩ = some (.int .i64 x.move.src) := MAx
  have MBy : wr4.drew.cell? ⟨g, o + j * 4 + 2, none⟩ = some (.int .i64 x.move.dst) := MBx
  have MCy : wr4.drew.cell? ⟨g, o + j * 4 + 3, none⟩ = some (.int .i64 x.move.piece) := MCx
  have Gy : g < wr4.drew.heap.size := Gx
  clear BRx BPx BMx Lx RLx MAx MBx MCx Gx
  refine wp_region_noPanic ?_
  refine beginL (S := (fun w' => w'.cell? ⟨g, o + j * 4 + 1, none⟩ = some (.int .i64 x.move.src) ∧ w'.cell? ⟨g, o + j * 4 + 2, none⟩ = some (.int .i64 x.move.dst) ∧ w'.cell? ⟨g, o + j * 4 + 3, none⟩ = some (.int .i64 x.move.piece))) (L := [14]) (by kernel_rfl) ⟨MAy, MBy, MCy⟩ (fun hHeld => ?_)
  refine tkW 0 ?_
  refine tkW 1 ?_
  refine tkW 5 ?_
  refine tkW 6 ?_
  refine tkW 8 ?_
  refine tkW 9 ?_
  refine tkW 2 ?_
  refine tkW 7 ?_
  refine tkW 10 ?_
  refine tkW 3 ?_
  refine tkW 11 ?_
  refine tkL 4 ?_
  refine cnL 12 fun K hK => ?_
  go_simp
  refine K_world ?_
  intro w12 e12
  have hb12 : Below wr4.drew.heap.size wr4.drew w12 := by rw [e12]; exact (Below.refl _ _).alloc (Nat.le_refl _) _
  have RII : RdII w12 (.slice (some ⟨wr4.drew.heap.size, 0, none⟩) 2 2) (.slice (some ⟨g, o, none⟩) j c) (.slice (subAddr (some ⟨g, o, none⟩) c (j + 1) 4) (l.length - (j + 1)) (c - (j + 1))) := ⟨_, 0, 2, rfl, by rw [e12]; simp, by rw [e12]; exact (Box.new' _ _ [.slice (some ⟨g, o, none⟩) j c, .slice (subAddr (some ⟨g, o, none⟩) c (j + 1) 4) (l.length - (j + 1)) (c - (j + 1))] _ rfl).cell 0 rfl, by rw [e12]; exact (Box.new' _ _ [.slice (some ⟨g, o, none⟩) j c, .slice (subAddr (some ⟨g, o, none⟩) c (j + 1) 4) (l.length - (j + 1)) (c - (j + 1))] _ rfl).cell 1 rfl⟩
  clear e12
  have BR12 := BRy.stays hb12
  have BP12 := BPy.stays hb12
  have BM12 := BMy.stays hb12
  have L12 := below_trans Ly hb12 Ly.size
  have RL12 := RLy.below hb12 (Nat.le_refl _)
  have MA12 := (hb12.cell Gy).trans MAy
  have MB12 := (hb12.cell Gy).trans MBy
  have MC12 := (hb12.cell Gy).trans MCy
  have G12 := Nat.lt_of_lt_of_le Gy hb12.size
  clear hb12
  refine hK.out _ _ ⟨MA12, MB12, MC12⟩ (fun hHeld => ?_)
  clear hK K
  refine cnL 13 fun K hK => ?_
  go_simp
  refine (Concat_pm _ _ _ (l.take j) (l.drop (j + 1)) _ RII (RL12.take j (by omega)) (RL12.drop (j + 1) (by omega)) (by simp; omega) (by simp; omega)).mono ?_
  rintro e w13 ⟨vx, rfl, ho13, hb13⟩
  rw [← HRS.out] at ho13
  obtain ⟨a13, c13, rfl⟩ := own_form2 ho13
  have BR13 := BR12.stays hb13
  have BP13 := BP12.stays hb13
  have BM13 := BM12.stays hb13
  have L13 := below_trans L12 hb13 L12.size
  have RL13 := RL12.below hb13 (Nat.le_refl _)
  have MA13 := (hb13.cell G12).trans MA12
  have MB13 := (hb13.cell G12).trans MB12
  have MC13 := (hb13.cell G12).trans MC12
  have G13 := Nat.lt_of_lt_of_le G12 hb13.size
  have O13 := ho13
  have Z12 := BM12.lt
  clear hb13 ho13
  refine hK.out _ _ ⟨MA13, MB13, MC13⟩ (fun hHeld => ?_)
  clear hK K
  refine ltL 14 fun K hK => ?_
  have d0 := BM13.cell 0 rfl
  have d1 := BM13.cell 1 rfl
  have d2 := BM13.cell 2 rfl
  have d0f := BM13.frozen 0
  have d1f := BM13.frozen 1
  have d2f := BM13.frozen 2
  go_simp
  refine K_world ?_
  intro w14 e14
  have E14 : w14 = w13.setCells (w.heap.size + 1 + 1) 0 [.int .i64 x.move.src, .int .i64 x.move.dst, .int .i64 x.move.piece] := e14
  clear e14 d0 d1 d2 d0f d1f d2f
  refine hK.out _ _ ?_
  clear hK K
  refine tkW 15 ?_
  refine tkW 16 ?_
  refine dnN ?_
  have BM14 := BM13.store (vs := [.int .i64 x.move.src, .int .i64 x.move.dst, .int .i64 x.move.piece]) rfl
  have O14 := own_setCells O13 Z12 0 [.int .i64 x.move.src, .int .i64 x.move.dst, .int .i64 x.move.piece]
  have L14 := below_setCells L13 (show w.heap.size ≤ w.heap.size + 1 + 1 by omega) 0 [.int .i64 x.move.src, .int .i64 x.move.dst, .int .i64 x.move.piece]
  rw [← E14] at BM14 O14 L14
  have HBM14 := Lib.hid BM14
  have HO14 := Lib.hid O14
  have HL14 := Lib.hid L14
  have HL12 := Lib.hid L12
  clear BM14 O14 L14 E14 L12
  go_wp2_with fail
  exact bodyPost_ret (results_c2 rfl (by rfl) (by rfl) (by rfl) HBM14.out Tryz.underlying38 (by rfl) (by kernel_rfl)) rfl ⟨_, by rw [HE1.out, HE2.out]; rfl, by rw [HE3.out]; exact own_base HO14.out HL12.out.size, HL14.out⟩
 ·have hmem : decide (x.move ∈ movesZ R p) = false := by simpa using hm
  have HE1 : Hid (nextOk R p l = false) := Lib.hid (by rw [hokd, hmem])
  have HE2 : Hid (nextMv R p l = ⟨0, 0, 0⟩) := Lib.hid (by unfold nextMv; rw [HE1.out]; rfl)
  have HE3 : Hid (nextRest R p l = withoutZ l p.turn) := Lib.hid (by unfold nextRest; rw [HE1.out]; rfl)
  clear hm hokd HMv HRs
  go_upto_region 2 with (fail)
  generalize w1 = wq at *
  have BRz := HX0'.out.drew
  have BPz := HX1'.out.drew
  have BMz := HX2'.out.drew
  have Lz : Below w.heap.size w wq.drew := below_drew' HB1.out
  have RLz : RdL premEl wq.drew (.slice (some ⟨g, o, none⟩) l.length c) l := HL1.out.below (below_drew' (Below.refl _ _)) (Nat.le_refl _)
  have MAz : wq.drew.cell? ⟨g, o + j * 4 + 1, none⟩ = some (.int .i64 x.move.src) := m1
  have MBz : wq.drew.cell? ⟨g, o + j * 4 + 2, none⟩ = some (.int .i64 x.move.dst) := m2
  have MCz : wq.drew.cell? ⟨g, o + j * 4 + 3, none⟩ = some (.int .i64 x.move.piece) := m3
  have Gz : g < wq.drew.heap.size := hg
  clear HX0' HX1' HX2' HB1 HL1 m1 m2 m3 hg
  refine wp_region_noPanic ?_
  refine beginL (S := (fun w' => w'.cell? ⟨w.heap.size, 0, none⟩ = some (.string R.name) ∧ w'.cell? ⟨w.heap.size, 1, none⟩ = some (.int .i64 R.width) ∧ w'.cell? ⟨w.heap.size, 2, none⟩ = some (.int .i64 R.height) ∧ w'.cell? ⟨w.heap.size, 3, none⟩ = some vp ∧ w'.cell? ⟨w.heap.size, 4, none⟩ = some vs ∧ w'.cell? ⟨w.heap.size, 5, none⟩ = some (.bool R.falls) ∧ w'.cell? ⟨w.heap.size, 6, none⟩ = some (.bool R.keeps) ∧ w'.cell? ⟨w.heap.size, 7, none⟩ = some ve ∧ w'.cell? ⟨w.heap.size, 8, none⟩ = some (.int .i64 R.blocked) ∧ w'.cell? ⟨w.heap.size, 9, none⟩ = some (.int .i64 R.quiet) ∧ w'.cell? ⟨w.heap.size, 10, none⟩ = some (.int .i64 R.rept) ∧ w'.cell? ⟨w.heap.size + 1, 0, none⟩ = some vc ∧ w'.cell? ⟨w.heap.size + 1, 1, none⟩ = some v0 ∧ w'.cell? ⟨w.heap.size + 1, 2, none⟩ = some v1 ∧ w'.cell? ⟨w.heap.size + 1, 3, none⟩ = some (.int .i64 p.turn) ∧ w'.cell? ⟨w.heap.size + 1, 4, none⟩ = some (.int .i64 p.quiet) ∧ w'.cell? ⟨g, o + j * 4 + 1, none⟩ = some (.int .i64 x.move.src) ∧ w'.cell? ⟨g, o + j * 4 + 2, none⟩ = some (.int .i64 x.move.dst) ∧ w'.cell? ⟨g, o + j * 4 + 3, none⟩ = some (.int .i64 x.move.piece))) (L := []) (by kernel_rfl) ⟨BRz.cell 0 rfl, BRz.cell 1 rfl, BRz.cell 2 rfl, BRz.cell 3 rfl, BRz.cell 4 rfl, BRz.cell 5 rfl, BRz.cell 6 rfl, BRz.cell 7 rfl, BRz.cell 8 rfl, BRz.cell 9 rfl, BRz.cell 10 rfl, BPz.cell 0 rfl, BPz.cell 1 rfl, BPz.cell 2 rfl, BPz.cell 3 rfl, BPz.cell 4 rfl, MAz, MBz, MCz⟩ (fun hHeld => ?_)
  refine tkW 0 ?_
  refine tkW 1 ?_
  refine tkW 2 ?_
  refine tkL 3 ?_
  refine tkL 4 ?_
  refine tkW 6 ?_
  refine tkW 7 ?_
  refine tkW 8 ?_
  refine tkW 9 ?_
  refine tkL 10 ?_
  refine cnL 5 fun K hK => ?_
  go_simp
  refine (Moves_any HSh.out R vp vs ve p vc v0 v1 _ (HR.out.below Lz (Nat.le_refl _)) (HP.out.below Lz (Nat.le_refl _)) HK.out).mono ?_
  rintro e w5 ⟨vm, rfl, hom, hb5⟩
  obtain ⟨am, cm, rfl⟩ := own_form2 hom
  have BR5 := BRz.stays hb5
  have BP5 := BPz.stays hb5
  have BM5 := BMz.stays hb5
  have L5 := below_trans Lz hb5 Lz.size
  have RL5 := RLz.below hb5 (Nat.le_refl _)
  have MA5 := (hb5.cell Gz).trans MAz
  have MB5 := (hb5.cell Gz).trans MBz
  have MC5 := (hb5.cell Gz).trans MCz
  have G5 := Nat.lt_of_lt_of_le Gz hb5.size
  have RM5 := rdM_of_own hom
  clear hb5 hom
  refine hK.out _ _ ⟨BR5.cell 0 rfl, BR5.cell 1 rfl, BR5.cell 2 rfl, BR5.cell 3 rfl, BR5.cell 4 rfl, BR5.cell 5 rfl, BR5.cell 6 rfl, BR5.cell 7 rfl, BR5.cell 8 rfl, BR5.cell 9 rfl, BR5.cell 10 rfl, BP5.cell 0 rfl, BP5.cell 1 rfl, BP5.cell 2 rfl, BP5.cell 3 rfl, BP5.cell 4 rfl, MA5, MB5, MC5⟩ (fun hHeld => ?_)
  clear hK K
  refine cnL 11 fun K hK => ?_
  go_simp
  refine (contains_mv _ x.move _ _ RM5).mono ?_
  rintro e w11 ⟨rfl, hb11⟩
  have BR11 := BR5.stays hb11
  have BP11 := BP5.stays hb11
  have BM11 := BM5.stays hb11
  have L11 := below_trans L5 hb11 L5.size
  have RL11 := RL5.below hb11 (Nat.le_refl _)
  have MA11 := (hb11.cell G5).trans MA5
  have MB11 := (hb11.cell G5).trans MB5
  have MC11 := (hb11.cell G5).trans MC5
  have G11 := Nat.lt_of_lt_of_le G5 hb11.size
  clear hb11
  refine hK.out _ _ ⟨BR11.cell 0 rfl, BR11.cell 1 rfl, BR11.cell 2 rfl, BR11.cell 3 rfl, BR11.cell 4 rfl, BR11.cell 5 rfl, BR11.cell 6 rfl, BR11.cell 7 rfl, BR11.cell 8 rfl, BR11.cell 9 rfl, BR11.cell 10 rfl, BP11.cell 0 rfl, BP11.cell 1 rfl, BP11.cell 2 rfl, BP11.cell 3 rfl, BP11.cell 4 rfl, MA11, MB11, MC11⟩ (fun hHeld => ?_)
  clear hK K
  refine tkW 12 ?_
  refine tkW 13 ?_
  refine dnN ?_
  rw [hmem]
  have q3 := BP11.cell 3 rfl
  have HLn := Lib.hid L11
  have HRn := Lib.hid RL11
  have HBm := Lib.hid BM11
  go_wp2_with fail
  refine (without_any _ l p.turn _ HRn.out (by omega)).mono ?_
  rintro e w7 ⟨v7, rfl, ho7, hb7⟩
  obtain ⟨a7, c7, rfl⟩ := own_form2 ho7
  have HB7 := Lib.hid (below_trans HLn.out hb7 HLn.out.size)
  have HM7 := Lib.hid (HBm.out.stays hb7)
  have HO7 := Lib.hid ho7
  have hsz7 := HBm.out.lt
  clear ho7 hb7
  go_wp2_with (refine wpList_store_box (vs := [.int .i64 0, .int .i64 0, .int .i64 0]) (by rfl) 38 (.tmp 6) (.tmp 27) (by rfl) (w.heap.size + 1 + 1) (by rfl) (by rfl) HM7.out rfl (by kernel_rfl) (by rfl) ?_)
  exact bodyPost_ret (results_c2 rfl (by rfl) (by rfl) (by rfl) (HM7.out.store rfl) Tryz.underlying38 (by rfl) (by kernel_rfl)) rfl ⟨_, by rw [HE1.out, HE2.out]; rfl, by rw [HE3.out]; exact own_base (own_setCells HO7.out hsz7 0 _) HLn.out.size, below_setCells HB7.out (by omega) 0 _⟩
end Go.Proofs.YtnodagljaoonjaaGreatDoor
/- The contracts of premove.check, Next; announces, sameLine. -/
namespace Go.Proofs.YtnodagljaoonjaaGreatDoor
open Go.ChangeShapes Go.WideShapes Go.ChangeAt Go.RowKit
set_option linter.unusedVariables false
set_option maxHeartbeats 4000000
set_option maxRecDepth 100000
def pcheckErr (R : RulesZ) (p : PosZ) (l : List PremZ) : Int := if posErr R p ≠ 0 then posErr R p else premErr l
theorem pcheck_any (R : RulesZ) (vp vs ve : Value) (p : PosZ) (vc v0 v1 : Value) (v : Value) (l : List PremZ) (w : World) (hr : RdR w R vp vs ve) (hnm : R.name.size ≤ maxLen) (hp : RdP w p vc v0 v1) (hl : RdL premEl w v l) (hlen : l.length ≤ 100000) :
  Calls Tryz.prog 127 #[(.agg #[.string R.name, .int .i64 R.width, .int .i64 R.height, vp, vs, .bool R.falls, .bool R.keeps, ve, .int .i64 R.blocked, .int .i64 R.quiet, .int .i64 R.rept]), (.agg #[vc, v0, v1, .int .i64 p.turn, .int .i64 p.quiet]), v] w fun e w' => e = .returned (.int .i64 (pcheckErr R p l)) ∧ Below w.heap.size w w' := by
 have HR := Lib.hid hr
 have HN := Lib.hid hnm
 have HP := Lib.hid hp
 have HL := Lib.hid hl
 have HD : Hid (pcheckErr R p l = if posErr R p ≠ 0 then posErr R p else premErr l) := Lib.hid rfl
 obtain ⟨a, c, rfl, h1, h2⟩ := hl.form
 unfold maxLen at h2
 clear hr hp hl hnm
 go_enter Tryz.func127, Tryz.ntmps127
 go_upto_region 1 with (fail)
 refine opn2 fun w0 B0 B1 yb_ hs_ => ?_
 have HB := Lib.hid yb_
 have hz0 : w.heap.size + 1 < w0.heap.size := by omega
 clear hs_ yb_
 have HRw := Lib.hid (HR.out.below HB.out (Nat.le_refl _))
 have HPw := Lib.hid (HP.out.below HB.out (Nat.le_refl _))
 have HLw := Lib.hid (HL.out.below HB.out (Nat.le_refl _))
 have HX0 := Lib.hid B0
 have HX1 := Lib.hid B1
 clear B0 B1
 refine wp_region_lit ?_
 refine wpList_load_box (by rfl) 26 (.tmp 3) (by rfl) (w.heap.size) (by rfl) HX0.out Tryz.underlying26 (by rfl) (by kernel_rfl) ?_
 refine wpList_load_box (by rfl) 59 (.tmp 4) (by rfl) (w.heap.size + 1) (by rfl) HX1.out Tryz.underlying59 (by rfl) (by kernel_rfl) ?_
 go_wp2_with fail
 refine (placeCheck_any R vp vs ve p vc v0 v1 w0 HRw.out HN.out HPw.out).mono ?_
 rintro e w1 ⟨rfl, hb1⟩
 have HB1 := Lib.hid (below_trans HB.out hb1 HB.out.size)
 clear hb1
 by_cases he : posErr R p = 0
 rotate_left
 ·have HE : Hid (pcheckErr R p l = posErr R p) := Lib.hid (by rw [HD.out, if_pos he])
  have he' : (posErr R p != 0) = true := by simpa using he
  clear he HD
  go_wp2_with fail
  go_ret
  exact ⟨by rw [HE.out]; rfl, HB1.out⟩
 have HE : Hid (pcheckErr R p l = premErr l) := Lib.hid (by rw [HD.out, if_neg (by simp [he])])
 rw [he]
 clear he HD
 go_wp2_with fail
 refine (premCheck_any _ l w1 (HL.out.below HB1.out (Nat.le_refl _)) (by omega)).mono ?_
 rintro e w2 ⟨rfl, hb2⟩
 have HB2 := Lib.hid (below_trans HB1.out hb2 HB1.out.size)
 clear hb2
 go_wp2_with fail
 go_ret
 exact ⟨by rw [HE.out]; rfl, HB2.out⟩
def NextFull (R : RulesZ) (p : PosZ) (l : List PremZ) (w : World) (e : Ending) (w' : World) : Prop :=
 (pcheckErr R p l ≠ 0 ∧ e = .returned (.tuple #[.agg #[.int .i64 0, .int .i64 0, .int .i64 0], .bool false, .slice none 0 0, .int .i64 (pcheckErr R p l)]) ∧ Below w.heap.size w w') ∨
 (pcheckErr R p l = 0 ∧ ∃ v, e = .returned (.tuple #[.agg #[.int .i64 (nextMv R p l).src, .int .i64 (nextMv R p l).dst, .int .i64 (nextMv R p l).piece], .bool (nextOk R p l), v, .int .i64 0]) ∧ w'.ownsRow w.heap.size 86 4 v (nextRest R p l).length (flatP (nextRest R p l)) ∧ Below w.heap.size w w')
theorem pcheck_pos {R : RulesZ} {p : PosZ} {l : List PremZ} (h : pcheckErr R p l = 0) : posErr R p = 0 ∧ premErr l = 0 := by
 unfold pcheckErr at h
 by_cases e : posErr R p = 0
 ·rw [if_neg (by simp [e])] at h; exact ⟨e, h⟩
 ·rw [if_pos e] at h; exact absurd h e
theorem Next_any (HS : SortMvSaid) (R : RulesZ) (vp vs ve : Value) (p : PosZ) (vc v0 v1 : Value) (v : Value) (l : List PremZ) (w : World) (hr : RdR w R vp vs ve) (hnm : R.name.size ≤ maxLen) (hp : RdP w p vc v0 v1) (hl : RdL premEl w v l) (hlen : l.length ≤ 1000) :
  Calls Tryz.prog 85 #[(.agg #[.string R.name, .int .i64 R.width, .int .i64 R.height, vp, vs, .bool R.falls, .bool R.keeps, ve, .int .i64 R.blocked, .int .i64 R.quiet, .int .i64 R.rept]), (.agg #[vc, v0, v1, .int .i64 p.turn, .int .i64 p.quiet]), v] w (NextFull R p l w) := by
 have HSh := Lib.hid HS
 have HR := Lib.hid hr
 have HN := Lib.hid hnm
 have HP := Lib.hid hp
 have HL := Lib.hid hl
 obtain ⟨a, c, rfl, h1, h2⟩ := hl.form
 unfold maxLen at h2
 clear hr hp hl hnm HS
 go_enter Tryz.func85, Tryz.ntmps85
 go_upto_region 1 with (fail)
 refine opn3 fun w0 B0 B1 B2 yb_ hs_ => ?_
 have HB := Lib.hid yb_
 have hz0 : w.heap.size + 1 + 1 < w0.heap.size := by omega
 clear hs_ yb_
 have HRw := Lib.hid (HR.out.below HB.out (Nat.le_refl _))
 have HPw := Lib.hid (HP.out.below HB.out (Nat.le_refl _))
 have HLw := Lib.hid (HL.out.below HB.out (Nat.le_refl _))
 have HX0 := Lib.hid B0
 have HX1 := Lib.hid B1
 have HX2 := Lib.hid B2
 clear B0 B1 B2
 refine wp_region_lit ?_
 refine wpList_load_box (by rfl) 26 (.tmp 3) (by rfl) (w.heap.size) (by rfl) HX0.out Tryz.underlying26 (by rfl) (by kernel_rfl) ?_
 refine wpList_load_box (by rfl) 59 (.tmp 4) (by rfl) (w.heap.size + 1) (by rfl) HX1.out Tryz.underlying59 (by rfl) (by kernel_rfl) ?_
 go_wp2_with fail
 refine (pcheck_any R vp vs ve p vc v0 v1 _ l w0 HRw.out HN.out HPw.out HLw.out (by omega)).mono ?_
 rintro e w1 ⟨rfl, hb1⟩
 have HB1 := Lib.hid (below_trans HB.out hb1 HB.out.size)
 have HX01 := Lib.hid (HX0.out.stays hb1)
 have HX11 := Lib.hid (HX1.out.stays hb1)
 have HX21 := Lib.hid (HX2.out.stays hb1)
 clear hb1 HX0 HX1 HX2
 by_cases he : pcheckErr R p l = 0
 rotate_left
 ·have HNE := Lib.hid he
  have he' : (pcheckErr R p l != 0) = true := by simpa using he
  clear he
  go_wp2_with (refine wpList_store_box (vs := [.int .i64 0, .int .i64 0, .int .i64 0]) (by rfl) 38 (.tmp 6) (.tmp 20) (by rfl) (w.heap.size + 1 + 1) (by rfl) (by rfl) HX21.out rfl (by kernel_rfl) (by rfl) ?_)
  exact bodyPost_ret (results_c3 rfl (by rfl) (by rfl) (by rfl) (by rfl) (HX21.out.store rfl) Tryz.underlying38 (by rfl) (by kernel_rfl)) rfl (.inl ⟨HNE.out, rfl, below_setCells HB1.out (by omega) 0 _⟩)
 have HNE := Lib.hid he
 have HK := Lib.hid (pok_of (pcheck_pos he).1)
 rw [he]
 clear he
 go_upto_region 4 with (fail)
 refine wp_region_lit ?_
 refine wpList_load_box (by rfl) 26 (.tmp 3) (by rfl) (w.heap.size) (by rfl) HX01.out Tryz.underlying26 (by rfl) (by kernel_rfl) ?_
 refine wpList_load_box (by rfl) 59 (.tmp 4) (by rfl) (w.heap.size + 1) (by rfl) HX11.out Tryz.underlying59 (by rfl) (by kernel_rfl) ?_
 go_wp2_with fail
 refine (next_any HSh.out R vp vs ve p vc v0 v1 _ l w1 (HR.out.below HB1.out (Nat.le_refl _)) (HP.out.below HB1.out (Nat.le_refl _)) (HL.out.below HB1.out (Nat.le_refl _)) HK.out hlen).mono ?_
 rintro e w2 ⟨v2, rfl, ho2, hb2⟩
 obtain ⟨a2, c2, rfl⟩ := own_form2 ho2
 have hs1 := hb2.size
 have HX22 := Lib.hid ((HX21.out.stays hb2).alloc (.cells #[.int .i64 (nextMv R p l).src, .int .i64 (nextMv R p l).dst, .int .i64 (nextMv R p l).piece] 38))
 have HZ1 := Lib.hid HX21.out.lt
 have HB2 := Lib.hid ((below_trans HB1.out hb2 HB1.out.size).alloc (below_trans HB1.out hb2 HB1.out.size).size (.cells #[.int .i64 (nextMv R p l).src, .int .i64 (nextMv R p l).dst, .int .i64 (nextMv R p l).piece] 38))
 have HO2 := Lib.hid (ho2.alloc (.cells #[.int .i64 (nextMv R p l).src, .int .i64 (nextMv R p l).dst, .int .i64 (nextMv R p l).piece] 38))
 have HXn := Lib.hid (Box.new w2 [.int .i64 (nextMv R p l).src, .int .i64 (nextMv R p l).dst, .int .i64 (nextMv R p l).piece] 38)
 clear hb2 ho2
 go_upto_region 5 with (fail)
 generalize (w2.alloc (.cells #[.int .i64 (nextMv R p l).src, .int .i64 (nextMv R p l).dst, .int .i64 (nextMv R p l).piece] 38)) = w3 at *
 refine wp_region_lit ?_
 refine wpList_load_box (by rfl) 38 (.tmp 11) (by rfl) w2.heap.size (by rfl) HXn.out Tryz.underlying38 (by rfl) (by kernel_rfl) ?_
 go_wp2_with (refine wpList_store_box (vs := [.int .i64 (nextMv R p l).src, .int .i64 (nextMv R p l).dst, .int .i64 (nextMv R p l).piece]) (by rfl) 38 (.tmp 6) (.tmp 30) (by rfl) (w.heap.size + 1 + 1) (by rfl) (by rfl) HX22.out rfl (by kernel_rfl) (by rfl) ?_)
 exact bodyPost_ret (results_c3 rfl (by rfl) (by rfl) (by rfl) (by rfl) (HX22.out.store rfl) Tryz.underlying38 (by rfl) (by kernel_rfl)) rfl (.inr ⟨HNE.out, _, rfl, own_base (own_setCells HO2.out HZ1.out 0 _) HB1.out.size, below_setCells HB2.out (by omega) 0 _⟩)
theorem sameLine_any (v u : Value) (xs ys : List MoveZ) (w : World) (h : RdL moveEl w v xs) (h' : RdL moveEl w u ys) (hl : xs.length ≤ 1000000) :
  Calls Tryz.prog 35 #[v, u] w fun e w' => e = .returned (.bool (decide (xs = ys))) ∧ Below w.heap.size w w' := by
 have HR := Lib.hid h
 have HQ := Lib.hid h'
 obtain ⟨a, c, rfl, h1, h2⟩ := h.form
 obtain ⟨a', c', rfl, h1', h2'⟩ := h'.form
 unfold maxLen at h2 h2'
 clear h h'
 have hneq := neqM
 by_cases hle : xs.length = ys.length
 rotate_left
 ·have HE : Hid (decide (xs = ys) = false) := Lib.hid (by simp; intro e; exact hle (by rw [e]))
  have hle' : ((xs.length : Int) != (ys.length : Int)) = true := by simp only [bne_iff_ne, ne_eq]; omega
  clear hle
  go_enter Tryz.func35, Tryz.ntmps35
  go_wp2_with fail
  go_ret
  exact ⟨by rw [HE.out]; rfl, Below.refl _ _⟩
 have hle' : ((xs.length : Int) != (ys.length : Int)) = false := by simp only [bne_eq_false_iff_eq]; omega
 have HLE := Lib.hid hle
 clear hle
 go_enter Tryz.func35, Tryz.ntmps35
 go_wp2_with fail
 go_loopw [5, 13] (fun vj vi wr => ∃ k : Nat, k ≤ xs.length ∧ vi = .int .i64 k ∧ Hid (xs.take k = ys.take k) ∧ Hid (Below w.heap.size w wr)) (fun _ i _ => xs.length - (intOf i).toNat)
 case atStart => exact ⟨0, Nat.zero_le _, rfl, Lib.hid rfl, Lib.hid (Below.refl _ _)⟩
 case round =>
  obtain ⟨k, hk, rfl, HT, HB⟩ := hrel
  by_cases hlt : k < xs.length
  ·have hlt2 : k < ys.length := by have := HLE.out; omega
   obtain ⟨g, o, rfl, hg, hcc⟩ := moves_some (HR.out.below HB.out (Nat.le_refl _)) (by omega)
   obtain ⟨g', o', rfl, hg', hcc'⟩ := moves_some (HQ.out.below HB.out (Nat.le_refl _)) (by omega)
   obtain ⟨c0, c1, c2⟩ := hcc k hlt
   obtain ⟨d0, d1, d2⟩ := hcc' k hlt2
   have HS : Hid (xs.take (k + 1) = xs.take k ++ [xs.getD k default]) := Lib.hid (by rw [List.take_succ_eq_append_getElem hlt, List.getD_eq_getElem?_getD, List.getElem?_eq_getElem hlt]; rfl)
   have HS' : Hid (ys.take (k + 1) = ys.take k ++ [ys.getD k default]) := Lib.hid (by rw [List.take_succ_eq_append_getElem hlt2, List.getD_eq_getElem?_getD, List.getElem?_eq_getElem hlt2]; rfl)
   have HGd : Hid (xs = ys → xs.getD k default = ys.getD k default) := Lib.hid (fun e => by rw [e])
   clear hcc hcc'
   generalize xs.getD k default = x at *
   generalize ys.getD k default = y at *
   by_cases he : x = y
   ·subst he
    go_wp2_with fail
    go_quiet (fail)
    go_wp2_with fail
    go_roundw
    case rel => exact ⟨k + 1, by omega, by go_num, Lib.hid (by rw [HS.out, HS'.out, HT.out]), Lib.hid (below_drewN HB.out _)⟩
    case measure => simp [intOf]; omega
   ·have hd : decide (x = y) = false := by simpa using he
    have HE : Hid (decide (xs = ys) = false) := Lib.hid (by simp; exact fun e => he (HGd.out e))
    clear he
    go_wp2_with fail
    go_quiet (fail)
    go_wp2_with fail
    go_ret
    exact ⟨by rw [HE.out]; rfl, below_drewN HB.out _⟩
  ·obtain rfl : k = xs.length := by omega
   have HE : Hid (decide (xs = ys) = true) := Lib.hid (by
    have := HT.out
    rw [List.take_of_length_le (Nat.le_refl _), List.take_of_length_le (by have := HLE.out; omega)] at this
    simpa using this)
   go_wp2_with fail
   go_ret
   exact ⟨by rw [HE.out]; rfl, HB.out⟩
end Go.Proofs.YtnodagljaoonjaaGreatDoor
namespace Go.Proofs.YtnodagljaoonjaaGreatDoor
set_option linter.unusedVariables false
def ownC (pl c : Int) : Bool := decide (0 < c) && ((c - 1) % 2 == pl)
/-- the types of the pieces of a player on the first k squares. -/
def tyC (cs : List Int) (pl : Int) : Nat → List Int
 | 0 => []
 | k + 1 => if ownC pl (cs.getD k 0) = true then tyC cs pl k ++ [(cs.getD k 0 - 1) / 2] else tyC cs pl k
/-- the types in the hand. -/
def tyH (hs : List Int) : Nat → List Int
 | 0 => []
 | k + 1 => if 0 < hs.getD k 0 then tyH hs k ++ [(k : Int)] else tyH hs k
def nH (hs : List Int) : Nat → Int
 | 0 => 0
 | k + 1 => if 0 < hs.getD k 0 then nH hs k + hs.getD k 0 else nH hs k
def typesZ (p : PosZ) (pl : Int) : List Int := tyC p.cells pl p.cells.length ++ tyH (p.hand pl) (p.hand pl).length
def numZ (p : PosZ) (pl : Int) : Int := ((tyC p.cells pl p.cells.length).length : Int) + nH (p.hand pl) (p.hand pl).length
def becZ (R : RulesZ) (piece : Int) : Nat → Int → Bool
 | 0, _ => false
 | n + 1, k => if k = piece then true else if (R.pieces.getD k.toNat default).promote = 0 then false else becZ R piece n ((R.pieces.getD k.toNat default).promote - 1)
def takeZ (R : RulesZ) (k : Int) : Bool := (R.pieces.getD k.toNat default).ways.any fun w => !(w.take == 0)
def ableZ (R : RulesZ) (p : PosZ) (x : EndZ) (pl : Int) : Bool :=
 if x.loses = true ∨ x.kind = 2 then true
 else if (x.kind = 0 ∧ x.count ≤ numZ p pl) ∨ (x.kind = 1 ∧ (typesZ p pl).any (becZ R x.piece (R.pieces.length + 1)) = true) then true
 else R.keeps && (typesZ p pl).any (takeZ R)
def canZ (R : RulesZ) (p : PosZ) (pl : Int) : Bool := if R.blocked ≠ 2 then true else R.ends.any fun x => ableZ R p x pl
theorem nH_nonneg (hs : List Int) (n : Nat) : 0 ≤ nH hs n := by
 induction n with
 | zero => simp [nH]
 | succ n ih => unfold nH; split <;> omega
theorem getD_set_ne {l : List Int} {i j : Nat} {v : Int} (h : i ≠ j) : (l.set i v).getD j 0 = l.getD j 0 := by
 rw [List.getD_eq_getElem?_getD, List.getElem?_set_ne h, ← List.getD_eq_getElem?_getD]
end Go.Proofs.YtnodagljaoonjaaGreatDoor

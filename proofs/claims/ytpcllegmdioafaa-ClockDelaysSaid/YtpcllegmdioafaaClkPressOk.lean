/- The contract of clock.Press where it presses. -/
import Derived.Test.YtpcllegmdioafaaClkReady
import Derived.Deep.RegionWith
import Derived.Deep.DeepCutAuto
import Derived.BigQuiet
import Derived.Deep.DrawnRows
import Derived.StillTailTactics
import Derived.Deep.MidRow
namespace Go.Proofs.Ytpcllegmdioafaa
open Go.ChangeShapes Go.WideShapes Go.ChangeAt Go.RowKit
set_option linter.unusedVariables false
set_option linter.unusedSimpArgs false
attribute [local go_sem ↓] Go.wp_at_zero Go.wp_at_succ

def mostB (x : Int) : Int := if 100000000000 < x then 100000000000 else x
def madeB (x : Int) : Int := if 400 < x then 400 else x

theorem wpList_assign_last {P : Program} {ops : Array Oper} {K : Act → World → Prop} {Q : Exit → Act → World → Prop} {op : Oper} {a : Act} {w : World} {v : Value} (hg : op.guard = none) (ho : op.op = .assign (.const v))
    (h : K (a.put op.dst v) w) : wpList P ops (Exit.then K Q) [op] a w := by
  refine wpList_plain hg fun K' hK => ?_
  unfold Oper.wp execOp
  simp only [ho, Act.eval, Sem.run_pure]
  exact hK _ _ h

theorem results_two {P : Program} {fn : Func} {tmps : Array Value} {a s : Nat} {t : TypeId} {w : World} {b : Nat} {cs : Array Value} {v : Value} (hr : fn.results = #[.cell a t, .tmp s])
    (ha : tmps.getD a undef = .pointer (some ⟨b, 0, none⟩)) (hs : tmps.getD s undef = v) (hl : (loadVar t ⟨b, 0, none⟩).run P w = .ok (.agg cs) w) :
    (results fn tmps).run P w = .ok (.tuple #[.agg cs, v]) w := by
  have ha' : tmps[a]?.getD undef = .pointer (some ⟨b, 0, none⟩) := by simpa using ha
  have hs' : tmps[s]?.getD undef = v := by simpa using hs
  unfold results
  rw [hr]
  simp [asAddr, ha', hs', hl]

theorem range10 {w : World} {b : Nat} {v0 v1 v2 v3 v4 v5 v6 v7 v8 v9 : Value} (h0 : w.cell? ⟨b, 0, none⟩ = some v0) (h1 : w.cell? ⟨b, 1, none⟩ = some v1) (h2 : w.cell? ⟨b, 2, none⟩ = some v2) (h3 : w.cell? ⟨b, 3, none⟩ = some v3) (h4 : w.cell? ⟨b, 4, none⟩ = some v4) (h5 : w.cell? ⟨b, 5, none⟩ = some v5) (h6 : w.cell? ⟨b, 6, none⟩ = some v6) (h7 : w.cell? ⟨b, 7, none⟩ = some v7) (h8 : w.cell? ⟨b, 8, none⟩ = some v8) (h9 : w.cell? ⟨b, 9, none⟩ = some v9) : w.rangeAt b 0 [v0, v1, v2, v3, v4, v5, v6, v7, v8, v9] := by
  intro j v hj
  rw [Nat.zero_add]
  rcases j with _ | _ | _ | _ | _ | _ | _ | _ | _ | _ | j <;> simp at hj <;> subst hj <;> assumption

theorem there10 {w : World} {b : Nat} {v0 v1 v2 v3 v4 v5 v6 v7 v8 v9 : Value} (h0 : w.cell? ⟨b, 0, none⟩ = some v0) (h1 : w.cell? ⟨b, 1, none⟩ = some v1) (h2 : w.cell? ⟨b, 2, none⟩ = some v2) (h3 : w.cell? ⟨b, 3, none⟩ = some v3) (h4 : w.cell? ⟨b, 4, none⟩ = some v4) (h5 : w.cell? ⟨b, 5, none⟩ = some v5) (h6 : w.cell? ⟨b, 6, none⟩ = some v6) (h7 : w.cell? ⟨b, 7, none⟩ = some v7) (h8 : w.cell? ⟨b, 8, none⟩ = some v8) (h9 : w.cell? ⟨b, 9, none⟩ = some v9) (f0 : w.frozen? ⟨b, 0, none⟩ = false) (f1 : w.frozen? ⟨b, 1, none⟩ = false) (f2 : w.frozen? ⟨b, 2, none⟩ = false) (f3 : w.frozen? ⟨b, 3, none⟩ = false) (f4 : w.frozen? ⟨b, 4, none⟩ = false) (f5 : w.frozen? ⟨b, 5, none⟩ = false) (f6 : w.frozen? ⟨b, 6, none⟩ = false) (f7 : w.frozen? ⟨b, 7, none⟩ = false) (f8 : w.frozen? ⟨b, 8, none⟩ = false) (f9 : w.frozen? ⟨b, 9, none⟩ = false) : w.there b 0 10 := by
  intro j hj
  rw [Nat.zero_add]
  rcases j with _ | _ | _ | _ | _ | _ | _ | _ | _ | _ | j
  all_goals first | omega | exact ⟨by simp [*], by assumption⟩

theorem below_setCells {w w1 : World} {B b : Nat} (h : Below B w w1) (hb : B ≤ b) : ∀ (o : Nat) (vs : List Value), Below B w (w1.setCells b o vs) := by
  intro o vs
  induction vs generalizing w1 o with
  | nil => exact h
  | cons v r ih => exact ih (h.setCell hb _) _

set_option maxRecDepth 100000 in
set_option maxHeartbeats 8000000 in
theorem Press_ok_0 (A : Option Addr) (n cap : Nat) (inc delay : Int) (ps : List (Int × Int)) (l0 l1 m0 m1 p0 p1 since fallen : Int) (now : Int) (w : World) (hn : n ≤ 9223372036854775807) (hp : PerAt w w.heap.size A n ps) (hr : RuleOk n inc delay ps) (hk : ClkOk n l0 l1 m0 m1 p0 p1 0 since fallen) (e0 : witB now since 100000000 = true) (hf : fallen < 0) (hu : usedZ false delay since now ≤ l0) :
    Calls Try.prog 9 #[.agg #[.slice A n cap, .int .i64 inc, .int .i64 delay], .agg #[.int .i64 l0, .int .i64 l1, .int .i64 m0, .int .i64 m1, .int .i64 p0, .int .i64 p1, .int .i64 0, .int .i64 since, .bool false, .int .i64 fallen], .int .i64 now] w (fun e w' => e = .returned (.tuple #[.agg #[.int .i64 (if (0 < (ps.getD p0.toNat (0, 0)).1 ∧ (ps.getD p0.toNat (0, 0)).1 ≤ (madeB (m0 + 1))) then mostB ((mostB (l0 - usedZ false delay since now + inc)) + (ps.getD (p0.toNat + 1) (0, 0)).2) else (mostB (l0 - usedZ false delay since now + inc))), .int .i64 l1, .int .i64 (if (0 < (ps.getD p0.toNat (0, 0)).1 ∧ (ps.getD p0.toNat (0, 0)).1 ≤ (madeB (m0 + 1))) then 0 else (madeB (m0 + 1))), .int .i64 m1, .int .i64 (if (0 < (ps.getD p0.toNat (0, 0)).1 ∧ (ps.getD p0.toNat (0, 0)).1 ≤ (madeB (m0 + 1))) then p0 + 1 else p0), .int .i64 p1, .int .i64 1, .int .i64 now, .bool false, .int .i64 fallen], .int .i64 0]) ∧ Below w.heap.size w w') := by
  have hnow := witB_iff.1 e0
  have hsn := hk.2.2.1
  have hdl := hr.2.2.1
  have hub := usedZ_b false delay since now (by omega) (by omega) (by omega) (by omega)
  have hlb : 0 ≤ l0 ∧ l0 ≤ 100000000000 := hk.2.2.2.2.2.1
  have hmb : 0 ≤ m0 ∧ m0 ≤ 400 := hk.2.2.2.2.1
  have hpb : 0 ≤ p0 ∧ p0 ≤ (n : Int) - 1 := hk.2.2.2.1
  have hib : 0 ≤ inc ∧ inc ≤ 100000000 := hr.2.1
  have hn5 : n ≤ 5 := hr.1.2
  obtain ⟨k, rfl⟩ : ∃ k : Nat, p0 = k := ⟨p0.toNat, by omega⟩
  rw [Int.toNat_natCast]
  have hkn : k < n := by omega
  obtain ⟨b, off, rfl, hbB, hpc⟩ := hp.2 (by omega)
  have q0 := (hpc k hkn).1
  have hq := hr.2.2.2 k hkn
  have hq1 : 0 < (ps.getD k (0, 0)).1 → k + 1 < n := by
    intro h
    unfold perOk at hq
    simp only [Bool.and_eq_true, beq_iff_eq] at hq
    have h2 := hq.2.2
    have h3 : ((ps.getD k (0, 0)).1 == 0) = false := by rw [beq_eq_false_iff_ne]; omega
    rw [h3] at h2
    have h4 := beq_eq_false_iff_ne.1 h2.symm
    omega
  have hqb : ∀ j, j < n → 1 ≤ (ps.getD j (0, 0)).2 ∧ (ps.getD j (0, 0)).2 ≤ 100000000 := by
    intro j hj
    have h := hr.2.2.2 j hj
    unfold perOk at h
    simp only [Bool.and_eq_true] at h
    exact witB_iff.1 h.2.1
  have Hq1 := Lib.hid hq1
  have Hqb := Lib.hid hqb
  have Hpc := Lib.hid hpc
  clear hq hq1 hqb hpc
  have H := Lib.hid hr
  have HC := Lib.hid hk
  clear hr hk
  have hP := Lib.hid (((hp.alloc (.cells #[.slice (some ⟨b, off, none⟩) n cap, .int .i64 inc, .int .i64 delay] 24)).alloc (.cells #[.int .i64 l0, .int .i64 l1, .int .i64 m0, .int .i64 m1, .int .i64 k, .int .i64 p1, .int .i64 0, .int .i64 since, .bool false, .int .i64 fallen] 27)).alloc (.cells #[.int .i64 0, .int .i64 0, .int .i64 0, .int .i64 0, .int .i64 0, .int .i64 0, .int .i64 0, .int .i64 0, .bool false, .int .i64 0] 27))
  clear hp
  go_enter Try.func9, Try.ntmps9
  go_wp2_with fail
  refine (ready_ok_0_false _ n cap inc delay ps l0 l1 m0 m1 k p1 since fallen now _ hn hP.out H.out HC.out e0 hf hu).mono ?_
  rintro e w1 ⟨rfl, hb⟩
  obtain ⟨hcell, hfr⟩ := bcell hb
  have hs := hb.size
  (try simp only [World.size_alloc] at hs)
  have hz0 : w.heap.size < w1.heap.size := by omega
  have hz1 : w.heap.size + 1 < w1.heap.size := by omega
  have hz2 : w.heap.size + 1 + 1 < w1.heap.size := by omega
  have hbel := ((((Below.refl w.heap.size w).alloc (by go_size) _).alloc (by go_size) _).alloc (by go_size) _).trans (hb.mono (by go_size))
  go_upto_region 5 with (fail)
  generalize hW : ((((((((((w1.setCell ⟨w.heap.size + 1, 0, none⟩ (.int .i64 l0)).setCell ⟨w.heap.size + 1, 1, none⟩ (.int .i64 l1)).setCell ⟨w.heap.size + 1, 2, none⟩ (.int .i64 m0)).setCell ⟨w.heap.size + 1, 3, none⟩ (.int .i64 m1)).setCell ⟨w.heap.size + 1, 4, none⟩ (.int .i64 k)).setCell ⟨w.heap.size + 1, 5, none⟩ (.int .i64 p1)).setCell ⟨w.heap.size + 1, 6, none⟩ (.int .i64 0)).setCell ⟨w.heap.size + 1, 7, none⟩ (.int .i64 since)).setCell ⟨w.heap.size + 1, 8, none⟩ (.bool false)).setCell ⟨w.heap.size + 1, 9, none⟩ (.int .i64 fallen)) = w2
  have r0 : w2.cell? ⟨w.heap.size, 0, none⟩ = some (.slice (some ⟨b, off, none⟩) n cap) := by rw [← hW]; simp [hcell, go_sem]
  have r1 : w2.cell? ⟨w.heap.size, 1, none⟩ = some (.int .i64 inc) := by rw [← hW]; simp [hcell, go_sem]
  have r2 : w2.cell? ⟨w.heap.size, 2, none⟩ = some (.int .i64 delay) := by rw [← hW]; simp [hcell, go_sem]
  have c0 : w2.cell? ⟨w.heap.size + 1, 0, none⟩ = some (.int .i64 l0) := by rw [← hW]; simp [hcell, go_sem]
  have c1 : w2.cell? ⟨w.heap.size + 1, 1, none⟩ = some (.int .i64 l1) := by rw [← hW]; simp [hcell, go_sem]
  have c2 : w2.cell? ⟨w.heap.size + 1, 2, none⟩ = some (.int .i64 m0) := by rw [← hW]; simp [hcell, go_sem]
  have c3 : w2.cell? ⟨w.heap.size + 1, 3, none⟩ = some (.int .i64 m1) := by rw [← hW]; simp [hcell, go_sem]
  have c4 : w2.cell? ⟨w.heap.size + 1, 4, none⟩ = some (.int .i64 k) := by rw [← hW]; simp [hcell, go_sem]
  have c5 : w2.cell? ⟨w.heap.size + 1, 5, none⟩ = some (.int .i64 p1) := by rw [← hW]; simp [hcell, go_sem]
  have c6 : w2.cell? ⟨w.heap.size + 1, 6, none⟩ = some (.int .i64 0) := by rw [← hW]; simp [hcell, go_sem]
  have c7 : w2.cell? ⟨w.heap.size + 1, 7, none⟩ = some (.int .i64 since) := by rw [← hW]; simp [hcell, go_sem]
  have c8 : w2.cell? ⟨w.heap.size + 1, 8, none⟩ = some (.bool false) := by rw [← hW]; simp [hcell, go_sem]
  have c9 : w2.cell? ⟨w.heap.size + 1, 9, none⟩ = some (.int .i64 fallen) := by rw [← hW]; simp [hcell, go_sem]
  have g0 : w2.frozen? ⟨w.heap.size + 1, 0, none⟩ = false := by rw [← hW]; simp [hfr, go_sem]
  have g1 : w2.frozen? ⟨w.heap.size + 1, 1, none⟩ = false := by rw [← hW]; simp [hfr, go_sem]
  have g2 : w2.frozen? ⟨w.heap.size + 1, 2, none⟩ = false := by rw [← hW]; simp [hfr, go_sem]
  have g3 : w2.frozen? ⟨w.heap.size + 1, 3, none⟩ = false := by rw [← hW]; simp [hfr, go_sem]
  have g4 : w2.frozen? ⟨w.heap.size + 1, 4, none⟩ = false := by rw [← hW]; simp [hfr, go_sem]
  have g5 : w2.frozen? ⟨w.heap.size + 1, 5, none⟩ = false := by rw [← hW]; simp [hfr, go_sem]
  have g6 : w2.frozen? ⟨w.heap.size + 1, 6, none⟩ = false := by rw [← hW]; simp [hfr, go_sem]
  have g7 : w2.frozen? ⟨w.heap.size + 1, 7, none⟩ = false := by rw [← hW]; simp [hfr, go_sem]
  have g8 : w2.frozen? ⟨w.heap.size + 1, 8, none⟩ = false := by rw [← hW]; simp [hfr, go_sem]
  have g9 : w2.frozen? ⟨w.heap.size + 1, 9, none⟩ = false := by rw [← hW]; simp [hfr, go_sem]
  have z0 : w2.cell? ⟨w.heap.size + 1 + 1, 0, none⟩ = some (.int .i64 0) := by rw [← hW]; simp [hcell, go_sem]
  have z1 : w2.cell? ⟨w.heap.size + 1 + 1, 1, none⟩ = some (.int .i64 0) := by rw [← hW]; simp [hcell, go_sem]
  have z2 : w2.cell? ⟨w.heap.size + 1 + 1, 2, none⟩ = some (.int .i64 0) := by rw [← hW]; simp [hcell, go_sem]
  have z3 : w2.cell? ⟨w.heap.size + 1 + 1, 3, none⟩ = some (.int .i64 0) := by rw [← hW]; simp [hcell, go_sem]
  have z4 : w2.cell? ⟨w.heap.size + 1 + 1, 4, none⟩ = some (.int .i64 0) := by rw [← hW]; simp [hcell, go_sem]
  have z5 : w2.cell? ⟨w.heap.size + 1 + 1, 5, none⟩ = some (.int .i64 0) := by rw [← hW]; simp [hcell, go_sem]
  have z6 : w2.cell? ⟨w.heap.size + 1 + 1, 6, none⟩ = some (.int .i64 0) := by rw [← hW]; simp [hcell, go_sem]
  have z7 : w2.cell? ⟨w.heap.size + 1 + 1, 7, none⟩ = some (.int .i64 0) := by rw [← hW]; simp [hcell, go_sem]
  have z8 : w2.cell? ⟨w.heap.size + 1 + 1, 8, none⟩ = some (.bool false) := by rw [← hW]; simp [hcell, go_sem]
  have z9 : w2.cell? ⟨w.heap.size + 1 + 1, 9, none⟩ = some (.int .i64 0) := by rw [← hW]; simp [hcell, go_sem]
  have f0 : w2.frozen? ⟨w.heap.size + 1 + 1, 0, none⟩ = false := by rw [← hW]; simp [hfr, go_sem]
  have f1 : w2.frozen? ⟨w.heap.size + 1 + 1, 1, none⟩ = false := by rw [← hW]; simp [hfr, go_sem]
  have f2 : w2.frozen? ⟨w.heap.size + 1 + 1, 2, none⟩ = false := by rw [← hW]; simp [hfr, go_sem]
  have f3 : w2.frozen? ⟨w.heap.size + 1 + 1, 3, none⟩ = false := by rw [← hW]; simp [hfr, go_sem]
  have f4 : w2.frozen? ⟨w.heap.size + 1 + 1, 4, none⟩ = false := by rw [← hW]; simp [hfr, go_sem]
  have f5 : w2.frozen? ⟨w.heap.size + 1 + 1, 5, none⟩ = false := by rw [← hW]; simp [hfr, go_sem]
  have f6 : w2.frozen? ⟨w.heap.size + 1 + 1, 6, none⟩ = false := by rw [← hW]; simp [hfr, go_sem]
  have f7 : w2.frozen? ⟨w.heap.size + 1 + 1, 7, none⟩ = false := by rw [← hW]; simp [hfr, go_sem]
  have f8 : w2.frozen? ⟨w.heap.size + 1 + 1, 8, none⟩ = false := by rw [← hW]; simp [hfr, go_sem]
  have f9 : w2.frozen? ⟨w.heap.size + 1 + 1, 9, none⟩ = false := by rw [← hW]; simp [hfr, go_sem]
  have hs' : w2.heap.size = w1.heap.size := by rw [← hW]; simp
  have y0 : w.heap.size < w2.heap.size := by omega
  have y1 : w.heap.size + 1 < w2.heap.size := by omega
  have y2 : w.heap.size + 1 + 1 < w2.heap.size := by omega
  have hbel2 : Below w.heap.size w w2 := by rw [← hW]; go_grown
  have QP : ∀ a : Nat, w2.cell? ⟨b, a, none⟩ = w.cell? ⟨b, a, none⟩ := fun a => (bcell hbel2).1 _ _ hbB
  have HQP := Lib.hid QP
  clear QP
  clear hW hcell hfr hbel hs hs' hz0 hz1 hz2 hb
  have Zz0 := Lib.hid z0
  have Zz1 := Lib.hid z1
  have Zz2 := Lib.hid z2
  have Zz3 := Lib.hid z3
  have Zz4 := Lib.hid z4
  have Zz5 := Lib.hid z5
  have Zz6 := Lib.hid z6
  have Zz7 := Lib.hid z7
  have Zz8 := Lib.hid z8
  have Zz9 := Lib.hid z9
  have Zf0 := Lib.hid f0
  have Zf1 := Lib.hid f1
  have Zf2 := Lib.hid f2
  have Zf3 := Lib.hid f3
  have Zf4 := Lib.hid f4
  have Zf5 := Lib.hid f5
  have Zf6 := Lib.hid f6
  have Zf7 := Lib.hid f7
  have Zf8 := Lib.hid f8
  have Zf9 := Lib.hid f9
  have Zg1 := Lib.hid g1
  have Zg2 := Lib.hid g2
  have Zg3 := Lib.hid g3
  have Zg4 := Lib.hid g4
  have Zg5 := Lib.hid g5
  have Zg6 := Lib.hid g6
  have Zg7 := Lib.hid g7
  have Zg8 := Lib.hid g8
  have Zg9 := Lib.hid g9
  clear z0 z1 z2 z3 z4 z5 z6 z7 z8 z9 f0 f1 f2 f3 f4 f5 f6 f7 f8 f9 g1 g2 g3 g4 g5 g6 g7 g8 g9
  have hmin : (if (100000000000 : Int) < IntKind.i64.wrap (IntKind.i64.wrap (l0 - usedZ false delay since now) + inc) then 100000000000 else IntKind.i64.wrap (IntKind.i64.wrap (l0 - usedZ false delay since now) + inc)) = (mostB (l0 - usedZ false delay since now + inc)) := by
    rw [IntWalk.i64_in (l0 - usedZ false delay since now) (by omega), IntWalk.i64_in _ (by omega)]; rfl
  clear H HC hP hn q0
  go_cut [8] (fun s8 wx => s8 = .int .i64 0 ∧ wx = (((w2.setCell ⟨w.heap.size + 1, 0, none⟩ (.int .i64 (mostB (l0 - usedZ false delay since now + inc)))).alloc (.cells #[.slice (some ⟨b, off, none⟩) n cap, .int .i64 inc, .int .i64 delay] 24)).alloc (.cells #[.int .i64 l0, .int .i64 l1, .int .i64 m0, .int .i64 m1, .int .i64 k, .int .i64 p1, .int .i64 0, .int .i64 since, .bool false, .int .i64 fallen] 27)).drew)
  case first =>
    go_region_with (go_at_call 17; refine (used_any (some ⟨b, off, none⟩) n cap inc delay l0 l1 m0 m1 k p1 0 since fallen false now _ (by omega) (by omega) (by omega) (by omega) (by omega) (by omega)).mono ?_; rintro e w' ⟨rfl, rfl⟩)
    all_goals
      go_wp2_with fail
      go_meet
      exact ⟨rfl, rfl⟩
  case rest =>
    obtain ⟨rfl, hw3⟩ := hcut
    obtain ⟨w3, hw4⟩ : ∃ w3, w3 = (((w2.setCell ⟨w.heap.size + 1, 0, none⟩ (.int .i64 (mostB (l0 - usedZ false delay since now + inc)))).alloc (.cells #[.slice (some ⟨b, off, none⟩) n cap, .int .i64 inc, .int .i64 delay] 24)).alloc (.cells #[.int .i64 l0, .int .i64 l1, .int .i64 m0, .int .i64 m1, .int .i64 k, .int .i64 p1, .int .i64 0, .int .i64 since, .bool false, .int .i64 fallen] 27)).drew := ⟨_, rfl⟩
    rw [← hw4] at hw3
    subst hw3
    have z0 := Zz0.out
    have z1 := Zz1.out
    have z2 := Zz2.out
    have z3 := Zz3.out
    have z4 := Zz4.out
    have z5 := Zz5.out
    have z6 := Zz6.out
    have z7 := Zz7.out
    have z8 := Zz8.out
    have z9 := Zz9.out
    have f0 := Zf0.out
    have f1 := Zf1.out
    have f2 := Zf2.out
    have f3 := Zf3.out
    have f4 := Zf4.out
    have f5 := Zf5.out
    have f6 := Zf6.out
    have f7 := Zf7.out
    have f8 := Zf8.out
    have f9 := Zf9.out
    have g1 := Zg1.out
    have g2 := Zg2.out
    have g3 := Zg3.out
    have g4 := Zg4.out
    have g5 := Zg5.out
    have g6 := Zg6.out
    have g7 := Zg7.out
    have g8 := Zg8.out
    have g9 := Zg9.out
    have ar0 : wc.cell? ⟨w.heap.size, 0, none⟩ = some (.slice (some ⟨b, off, none⟩) n cap) := by rw [hw4]; simp [go_sem, r0, y0, y1]
    have ar1 : wc.cell? ⟨w.heap.size, 1, none⟩ = some (.int .i64 inc) := by rw [hw4]; simp [go_sem, r1, y0, y1]
    have ar2 : wc.cell? ⟨w.heap.size, 2, none⟩ = some (.int .i64 delay) := by rw [hw4]; simp [go_sem, r2, y0, y1]
    have ac0 : wc.cell? ⟨w.heap.size + 1, 0, none⟩ = some (.int .i64 (mostB (l0 - usedZ false delay since now + inc))) := by rw [hw4]; simp [go_sem, c0, y0, y1]
    have ac1 : wc.cell? ⟨w.heap.size + 1, 1, none⟩ = some (.int .i64 l1) := by rw [hw4]; simp [go_sem, c1, y0, y1]
    have ac2 : wc.cell? ⟨w.heap.size + 1, 2, none⟩ = some (.int .i64 m0) := by rw [hw4]; simp [go_sem, c2, y0, y1]
    have ac3 : wc.cell? ⟨w.heap.size + 1, 3, none⟩ = some (.int .i64 m1) := by rw [hw4]; simp [go_sem, c3, y0, y1]
    have ac4 : wc.cell? ⟨w.heap.size + 1, 4, none⟩ = some (.int .i64 k) := by rw [hw4]; simp [go_sem, c4, y0, y1]
    have ac5 : wc.cell? ⟨w.heap.size + 1, 5, none⟩ = some (.int .i64 p1) := by rw [hw4]; simp [go_sem, c5, y0, y1]
    have ac6 : wc.cell? ⟨w.heap.size + 1, 6, none⟩ = some (.int .i64 0) := by rw [hw4]; simp [go_sem, c6, y0, y1]
    have ac7 : wc.cell? ⟨w.heap.size + 1, 7, none⟩ = some (.int .i64 since) := by rw [hw4]; simp [go_sem, c7, y0, y1]
    have ac8 : wc.cell? ⟨w.heap.size + 1, 8, none⟩ = some (.bool false) := by rw [hw4]; simp [go_sem, c8, y0, y1]
    have ac9 : wc.cell? ⟨w.heap.size + 1, 9, none⟩ = some (.int .i64 fallen) := by rw [hw4]; simp [go_sem, c9, y0, y1]
    have ag0 : wc.frozen? ⟨w.heap.size + 1, 0, none⟩ = false := by rw [hw4]; simp [go_sem, g0, y0, y1]
    have ag1 : wc.frozen? ⟨w.heap.size + 1, 1, none⟩ = false := by rw [hw4]; simp [go_sem, g1, y0, y1]
    have ag2 : wc.frozen? ⟨w.heap.size + 1, 2, none⟩ = false := by rw [hw4]; simp [go_sem, g2, y0, y1]
    have ag3 : wc.frozen? ⟨w.heap.size + 1, 3, none⟩ = false := by rw [hw4]; simp [go_sem, g3, y0, y1]
    have ag4 : wc.frozen? ⟨w.heap.size + 1, 4, none⟩ = false := by rw [hw4]; simp [go_sem, g4, y0, y1]
    have ag5 : wc.frozen? ⟨w.heap.size + 1, 5, none⟩ = false := by rw [hw4]; simp [go_sem, g5, y0, y1]
    have ag6 : wc.frozen? ⟨w.heap.size + 1, 6, none⟩ = false := by rw [hw4]; simp [go_sem, g6, y0, y1]
    have ag7 : wc.frozen? ⟨w.heap.size + 1, 7, none⟩ = false := by rw [hw4]; simp [go_sem, g7, y0, y1]
    have ag8 : wc.frozen? ⟨w.heap.size + 1, 8, none⟩ = false := by rw [hw4]; simp [go_sem, g8, y0, y1]
    have ag9 : wc.frozen? ⟨w.heap.size + 1, 9, none⟩ = false := by rw [hw4]; simp [go_sem, g9, y0, y1]
    have az0 : wc.cell? ⟨w.heap.size + 1 + 1, 0, none⟩ = some (.int .i64 0) := by rw [hw4]; simp [go_sem, z0, y1, y2]
    have az1 : wc.cell? ⟨w.heap.size + 1 + 1, 1, none⟩ = some (.int .i64 0) := by rw [hw4]; simp [go_sem, z1, y1, y2]
    have az2 : wc.cell? ⟨w.heap.size + 1 + 1, 2, none⟩ = some (.int .i64 0) := by rw [hw4]; simp [go_sem, z2, y1, y2]
    have az3 : wc.cell? ⟨w.heap.size + 1 + 1, 3, none⟩ = some (.int .i64 0) := by rw [hw4]; simp [go_sem, z3, y1, y2]
    have az4 : wc.cell? ⟨w.heap.size + 1 + 1, 4, none⟩ = some (.int .i64 0) := by rw [hw4]; simp [go_sem, z4, y1, y2]
    have az5 : wc.cell? ⟨w.heap.size + 1 + 1, 5, none⟩ = some (.int .i64 0) := by rw [hw4]; simp [go_sem, z5, y1, y2]
    have az6 : wc.cell? ⟨w.heap.size + 1 + 1, 6, none⟩ = some (.int .i64 0) := by rw [hw4]; simp [go_sem, z6, y1, y2]
    have az7 : wc.cell? ⟨w.heap.size + 1 + 1, 7, none⟩ = some (.int .i64 0) := by rw [hw4]; simp [go_sem, z7, y1, y2]
    have az8 : wc.cell? ⟨w.heap.size + 1 + 1, 8, none⟩ = some (.bool false) := by rw [hw4]; simp [go_sem, z8, y1, y2]
    have az9 : wc.cell? ⟨w.heap.size + 1 + 1, 9, none⟩ = some (.int .i64 0) := by rw [hw4]; simp [go_sem, z9, y1, y2]
    have af0 : wc.frozen? ⟨w.heap.size + 1 + 1, 0, none⟩ = false := by rw [hw4]; simp [go_sem, f0, y1, y2]
    have af1 : wc.frozen? ⟨w.heap.size + 1 + 1, 1, none⟩ = false := by rw [hw4]; simp [go_sem, f1, y1, y2]
    have af2 : wc.frozen? ⟨w.heap.size + 1 + 1, 2, none⟩ = false := by rw [hw4]; simp [go_sem, f2, y1, y2]
    have af3 : wc.frozen? ⟨w.heap.size + 1 + 1, 3, none⟩ = false := by rw [hw4]; simp [go_sem, f3, y1, y2]
    have af4 : wc.frozen? ⟨w.heap.size + 1 + 1, 4, none⟩ = false := by rw [hw4]; simp [go_sem, f4, y1, y2]
    have af5 : wc.frozen? ⟨w.heap.size + 1 + 1, 5, none⟩ = false := by rw [hw4]; simp [go_sem, f5, y1, y2]
    have af6 : wc.frozen? ⟨w.heap.size + 1 + 1, 6, none⟩ = false := by rw [hw4]; simp [go_sem, f6, y1, y2]
    have af7 : wc.frozen? ⟨w.heap.size + 1 + 1, 7, none⟩ = false := by rw [hw4]; simp [go_sem, f7, y1, y2]
    have af8 : wc.frozen? ⟨w.heap.size + 1 + 1, 8, none⟩ = false := by rw [hw4]; simp [go_sem, f8, y1, y2]
    have af9 : wc.frozen? ⟨w.heap.size + 1 + 1, 9, none⟩ = false := by rw [hw4]; simp [go_sem, f9, y1, y2]
    have abel : Below w.heap.size w wc := by rw [hw4]; go_grown
    have asz : w.heap.size + 1 + 1 + 1 ≤ wc.heap.size := by rw [hw4]; simp; omega
    have ay0 : w.heap.size < wc.heap.size := by omega
    have ay1 : w.heap.size + 1 < wc.heap.size := by omega
    have ay2 : w.heap.size + 1 + 1 < wc.heap.size := by omega
    have aq0 : wc.cell? ⟨b, off + k * 2, none⟩ = some (.int .i64 (ps.getD k (0, 0)).1) := ((bcell abel).1 _ _ hbB).trans (Hpc.out k hkn).1
    have abb : b < wc.heap.size := by omega
    clear hw4
    clear r0 r1 r2 c0 c1 c2 c3 c4 c5 c6 c7 c8 c9 g0 g1 g2 g3 g4 g5 g6 g7 g8 g9 z0 z1 z2 z3 z4 z5 z6 z7 z8 z9 f0 f1 f2 f3 f4 f5 f6 f7 f8 f9 y0 y1 y2 hbel2
    have hmade : (if (400 : Int) < m0 + 1 then 400 else m0 + 1) = (madeB (m0 + 1)) := rfl
    have hmaden : 0 ≤ (madeB (m0 + 1)) ∧ (madeB (m0 + 1)) ≤ 400 := by unfold madeB; split <;> omega
    have hkk : (0 : Int) ≤ (k : Int) := by omega
    have hkn' : (k : Int) < (n : Int) := by omega
    clear hmin
    have hLb : 0 ≤ (mostB (l0 - usedZ false delay since now + inc)) ∧ (mostB (l0 - usedZ false delay since now + inc)) ≤ 100000000000 := by unfold mostB; split <;> omega
    generalize HM : (madeB (m0 + 1)) = M at *
    generalize HL : (mostB (l0 - usedZ false delay since now + inc)) = L at *
    generalize HX : (ps.getD k (0, 0)).1 = X at *
    go_upto_region 7 with (fail)
    generalize hW5 : wc.setCell ⟨w.heap.size + 1, 2, none⟩ (.int .i64 M) = w5
    have br0 : w5.cell? ⟨w.heap.size, 0, none⟩ = some (.slice (some ⟨b, off, none⟩) n cap) := by rw [← hW5]; simp [go_sem, ar0, ay0, ay1]
    have br1 : w5.cell? ⟨w.heap.size, 1, none⟩ = some (.int .i64 inc) := by rw [← hW5]; simp [go_sem, ar1, ay0, ay1]
    have br2 : w5.cell? ⟨w.heap.size, 2, none⟩ = some (.int .i64 delay) := by rw [← hW5]; simp [go_sem, ar2, ay0, ay1]
    have bc0 : w5.cell? ⟨w.heap.size + 1, 0, none⟩ = some (.int .i64 L) := by rw [← hW5]; simp [go_sem, ac0, ay0, ay1]
    have bc1 : w5.cell? ⟨w.heap.size + 1, 1, none⟩ = some (.int .i64 l1) := by rw [← hW5]; simp [go_sem, ac1, ay0, ay1]
    have bc2 : w5.cell? ⟨w.heap.size + 1, 2, none⟩ = some (.int .i64 M) := by rw [← hW5]; simp [go_sem, ac2, ay0, ay1]
    have bc3 : w5.cell? ⟨w.heap.size + 1, 3, none⟩ = some (.int .i64 m1) := by rw [← hW5]; simp [go_sem, ac3, ay0, ay1]
    have bc4 : w5.cell? ⟨w.heap.size + 1, 4, none⟩ = some (.int .i64 k) := by rw [← hW5]; simp [go_sem, ac4, ay0, ay1]
    have bc5 : w5.cell? ⟨w.heap.size + 1, 5, none⟩ = some (.int .i64 p1) := by rw [← hW5]; simp [go_sem, ac5, ay0, ay1]
    have bc6 : w5.cell? ⟨w.heap.size + 1, 6, none⟩ = some (.int .i64 0) := by rw [← hW5]; simp [go_sem, ac6, ay0, ay1]
    have bc7 : w5.cell? ⟨w.heap.size + 1, 7, none⟩ = some (.int .i64 since) := by rw [← hW5]; simp [go_sem, ac7, ay0, ay1]
    have bc8 : w5.cell? ⟨w.heap.size + 1, 8, none⟩ = some (.bool false) := by rw [← hW5]; simp [go_sem, ac8, ay0, ay1]
    have bc9 : w5.cell? ⟨w.heap.size + 1, 9, none⟩ = some (.int .i64 fallen) := by rw [← hW5]; simp [go_sem, ac9, ay0, ay1]
    have bg0 : w5.frozen? ⟨w.heap.size + 1, 0, none⟩ = false := by rw [← hW5]; simp [go_sem, ag0, ay0, ay1]
    have bg1 : w5.frozen? ⟨w.heap.size + 1, 1, none⟩ = false := by rw [← hW5]; simp [go_sem, ag1, ay0, ay1]
    have bg2 : w5.frozen? ⟨w.heap.size + 1, 2, none⟩ = false := by rw [← hW5]; simp [go_sem, ag2, ay0, ay1]
    have bg3 : w5.frozen? ⟨w.heap.size + 1, 3, none⟩ = false := by rw [← hW5]; simp [go_sem, ag3, ay0, ay1]
    have bg4 : w5.frozen? ⟨w.heap.size + 1, 4, none⟩ = false := by rw [← hW5]; simp [go_sem, ag4, ay0, ay1]
    have bg5 : w5.frozen? ⟨w.heap.size + 1, 5, none⟩ = false := by rw [← hW5]; simp [go_sem, ag5, ay0, ay1]
    have bg6 : w5.frozen? ⟨w.heap.size + 1, 6, none⟩ = false := by rw [← hW5]; simp [go_sem, ag6, ay0, ay1]
    have bg7 : w5.frozen? ⟨w.heap.size + 1, 7, none⟩ = false := by rw [← hW5]; simp [go_sem, ag7, ay0, ay1]
    have bg8 : w5.frozen? ⟨w.heap.size + 1, 8, none⟩ = false := by rw [← hW5]; simp [go_sem, ag8, ay0, ay1]
    have bg9 : w5.frozen? ⟨w.heap.size + 1, 9, none⟩ = false := by rw [← hW5]; simp [go_sem, ag9, ay0, ay1]
    have bz0 : w5.cell? ⟨w.heap.size + 1 + 1, 0, none⟩ = some (.int .i64 0) := by rw [← hW5]; simp [go_sem, az0, ay1, ay2]
    have bz1 : w5.cell? ⟨w.heap.size + 1 + 1, 1, none⟩ = some (.int .i64 0) := by rw [← hW5]; simp [go_sem, az1, ay1, ay2]
    have bz2 : w5.cell? ⟨w.heap.size + 1 + 1, 2, none⟩ = some (.int .i64 0) := by rw [← hW5]; simp [go_sem, az2, ay1, ay2]
    have bz3 : w5.cell? ⟨w.heap.size + 1 + 1, 3, none⟩ = some (.int .i64 0) := by rw [← hW5]; simp [go_sem, az3, ay1, ay2]
    have bz4 : w5.cell? ⟨w.heap.size + 1 + 1, 4, none⟩ = some (.int .i64 0) := by rw [← hW5]; simp [go_sem, az4, ay1, ay2]
    have bz5 : w5.cell? ⟨w.heap.size + 1 + 1, 5, none⟩ = some (.int .i64 0) := by rw [← hW5]; simp [go_sem, az5, ay1, ay2]
    have bz6 : w5.cell? ⟨w.heap.size + 1 + 1, 6, none⟩ = some (.int .i64 0) := by rw [← hW5]; simp [go_sem, az6, ay1, ay2]
    have bz7 : w5.cell? ⟨w.heap.size + 1 + 1, 7, none⟩ = some (.int .i64 0) := by rw [← hW5]; simp [go_sem, az7, ay1, ay2]
    have bz8 : w5.cell? ⟨w.heap.size + 1 + 1, 8, none⟩ = some (.bool false) := by rw [← hW5]; simp [go_sem, az8, ay1, ay2]
    have bz9 : w5.cell? ⟨w.heap.size + 1 + 1, 9, none⟩ = some (.int .i64 0) := by rw [← hW5]; simp [go_sem, az9, ay1, ay2]
    have bf0 : w5.frozen? ⟨w.heap.size + 1 + 1, 0, none⟩ = false := by rw [← hW5]; simp [go_sem, af0, ay1, ay2]
    have bf1 : w5.frozen? ⟨w.heap.size + 1 + 1, 1, none⟩ = false := by rw [← hW5]; simp [go_sem, af1, ay1, ay2]
    have bf2 : w5.frozen? ⟨w.heap.size + 1 + 1, 2, none⟩ = false := by rw [← hW5]; simp [go_sem, af2, ay1, ay2]
    have bf3 : w5.frozen? ⟨w.heap.size + 1 + 1, 3, none⟩ = false := by rw [← hW5]; simp [go_sem, af3, ay1, ay2]
    have bf4 : w5.frozen? ⟨w.heap.size + 1 + 1, 4, none⟩ = false := by rw [← hW5]; simp [go_sem, af4, ay1, ay2]
    have bf5 : w5.frozen? ⟨w.heap.size + 1 + 1, 5, none⟩ = false := by rw [← hW5]; simp [go_sem, af5, ay1, ay2]
    have bf6 : w5.frozen? ⟨w.heap.size + 1 + 1, 6, none⟩ = false := by rw [← hW5]; simp [go_sem, af6, ay1, ay2]
    have bf7 : w5.frozen? ⟨w.heap.size + 1 + 1, 7, none⟩ = false := by rw [← hW5]; simp [go_sem, af7, ay1, ay2]
    have bf8 : w5.frozen? ⟨w.heap.size + 1 + 1, 8, none⟩ = false := by rw [← hW5]; simp [go_sem, af8, ay1, ay2]
    have bf9 : w5.frozen? ⟨w.heap.size + 1 + 1, 9, none⟩ = false := by rw [← hW5]; simp [go_sem, af9, ay1, ay2]
    have bbel : Below w.heap.size w w5 := by rw [← hW5]; go_grown
    have bsz : w.heap.size + 1 + 1 + 1 ≤ w5.heap.size := by rw [← hW5]; simp; omega
    have by0 : w.heap.size < w5.heap.size := by omega
    have by1 : w.heap.size + 1 < w5.heap.size := by omega
    have by2 : w.heap.size + 1 + 1 < w5.heap.size := by omega
    have bq0 : w5.cell? ⟨b, off + k * 2, none⟩ = some (.int .i64 X) := HX ▸ ((bcell bbel).1 _ _ hbB).trans (Hpc.out k hkn).1
    have bbb : b < w5.heap.size := by omega
    clear hW5
    clear ar0 ar1 ar2 ac0 ac1 ac2 ac3 ac4 ac5 ac6 ac7 ac8 ac9 ag0 ag1 ag2 ag3 ag4 ag5 ag6 ag7 ag8 ag9 az0 az1 az2 az3 az4 az5 az6 az7 az8 az9 af0 af1 af2 af3 af4 af5 af6 af7 af8 af9 ay0 ay1 ay2 aq0 abb asz abel
    go_quiet (fail)
    generalize hW6 : w5.drewN nq = w6
    have dr0 : w6.cell? ⟨w.heap.size, 0, none⟩ = some (.slice (some ⟨b, off, none⟩) n cap) := by rw [← hW6]; simp [go_sem, br0, by0, by1]
    have dr1 : w6.cell? ⟨w.heap.size, 1, none⟩ = some (.int .i64 inc) := by rw [← hW6]; simp [go_sem, br1, by0, by1]
    have dr2 : w6.cell? ⟨w.heap.size, 2, none⟩ = some (.int .i64 delay) := by rw [← hW6]; simp [go_sem, br2, by0, by1]
    have dc0 : w6.cell? ⟨w.heap.size + 1, 0, none⟩ = some (.int .i64 L) := by rw [← hW6]; simp [go_sem, bc0, by0, by1]
    have dc1 : w6.cell? ⟨w.heap.size + 1, 1, none⟩ = some (.int .i64 l1) := by rw [← hW6]; simp [go_sem, bc1, by0, by1]
    have dc2 : w6.cell? ⟨w.heap.size + 1, 2, none⟩ = some (.int .i64 M) := by rw [← hW6]; simp [go_sem, bc2, by0, by1]
    have dc3 : w6.cell? ⟨w.heap.size + 1, 3, none⟩ = some (.int .i64 m1) := by rw [← hW6]; simp [go_sem, bc3, by0, by1]
    have dc4 : w6.cell? ⟨w.heap.size + 1, 4, none⟩ = some (.int .i64 k) := by rw [← hW6]; simp [go_sem, bc4, by0, by1]
    have dc5 : w6.cell? ⟨w.heap.size + 1, 5, none⟩ = some (.int .i64 p1) := by rw [← hW6]; simp [go_sem, bc5, by0, by1]
    have dc6 : w6.cell? ⟨w.heap.size + 1, 6, none⟩ = some (.int .i64 0) := by rw [← hW6]; simp [go_sem, bc6, by0, by1]
    have dc7 : w6.cell? ⟨w.heap.size + 1, 7, none⟩ = some (.int .i64 since) := by rw [← hW6]; simp [go_sem, bc7, by0, by1]
    have dc8 : w6.cell? ⟨w.heap.size + 1, 8, none⟩ = some (.bool false) := by rw [← hW6]; simp [go_sem, bc8, by0, by1]
    have dc9 : w6.cell? ⟨w.heap.size + 1, 9, none⟩ = some (.int .i64 fallen) := by rw [← hW6]; simp [go_sem, bc9, by0, by1]
    have dg0 : w6.frozen? ⟨w.heap.size + 1, 0, none⟩ = false := by rw [← hW6]; simp [go_sem, bg0, by0, by1]
    have dg1 : w6.frozen? ⟨w.heap.size + 1, 1, none⟩ = false := by rw [← hW6]; simp [go_sem, bg1, by0, by1]
    have dg2 : w6.frozen? ⟨w.heap.size + 1, 2, none⟩ = false := by rw [← hW6]; simp [go_sem, bg2, by0, by1]
    have dg3 : w6.frozen? ⟨w.heap.size + 1, 3, none⟩ = false := by rw [← hW6]; simp [go_sem, bg3, by0, by1]
    have dg4 : w6.frozen? ⟨w.heap.size + 1, 4, none⟩ = false := by rw [← hW6]; simp [go_sem, bg4, by0, by1]
    have dg5 : w6.frozen? ⟨w.heap.size + 1, 5, none⟩ = false := by rw [← hW6]; simp [go_sem, bg5, by0, by1]
    have dg6 : w6.frozen? ⟨w.heap.size + 1, 6, none⟩ = false := by rw [← hW6]; simp [go_sem, bg6, by0, by1]
    have dg7 : w6.frozen? ⟨w.heap.size + 1, 7, none⟩ = false := by rw [← hW6]; simp [go_sem, bg7, by0, by1]
    have dg8 : w6.frozen? ⟨w.heap.size + 1, 8, none⟩ = false := by rw [← hW6]; simp [go_sem, bg8, by0, by1]
    have dg9 : w6.frozen? ⟨w.heap.size + 1, 9, none⟩ = false := by rw [← hW6]; simp [go_sem, bg9, by0, by1]
    have dz0 : w6.cell? ⟨w.heap.size + 1 + 1, 0, none⟩ = some (.int .i64 0) := by rw [← hW6]; simp [go_sem, bz0, by1, by2]
    have dz1 : w6.cell? ⟨w.heap.size + 1 + 1, 1, none⟩ = some (.int .i64 0) := by rw [← hW6]; simp [go_sem, bz1, by1, by2]
    have dz2 : w6.cell? ⟨w.heap.size + 1 + 1, 2, none⟩ = some (.int .i64 0) := by rw [← hW6]; simp [go_sem, bz2, by1, by2]
    have dz3 : w6.cell? ⟨w.heap.size + 1 + 1, 3, none⟩ = some (.int .i64 0) := by rw [← hW6]; simp [go_sem, bz3, by1, by2]
    have dz4 : w6.cell? ⟨w.heap.size + 1 + 1, 4, none⟩ = some (.int .i64 0) := by rw [← hW6]; simp [go_sem, bz4, by1, by2]
    have dz5 : w6.cell? ⟨w.heap.size + 1 + 1, 5, none⟩ = some (.int .i64 0) := by rw [← hW6]; simp [go_sem, bz5, by1, by2]
    have dz6 : w6.cell? ⟨w.heap.size + 1 + 1, 6, none⟩ = some (.int .i64 0) := by rw [← hW6]; simp [go_sem, bz6, by1, by2]
    have dz7 : w6.cell? ⟨w.heap.size + 1 + 1, 7, none⟩ = some (.int .i64 0) := by rw [← hW6]; simp [go_sem, bz7, by1, by2]
    have dz8 : w6.cell? ⟨w.heap.size + 1 + 1, 8, none⟩ = some (.bool false) := by rw [← hW6]; simp [go_sem, bz8, by1, by2]
    have dz9 : w6.cell? ⟨w.heap.size + 1 + 1, 9, none⟩ = some (.int .i64 0) := by rw [← hW6]; simp [go_sem, bz9, by1, by2]
    have df0 : w6.frozen? ⟨w.heap.size + 1 + 1, 0, none⟩ = false := by rw [← hW6]; simp [go_sem, bf0, by1, by2]
    have df1 : w6.frozen? ⟨w.heap.size + 1 + 1, 1, none⟩ = false := by rw [← hW6]; simp [go_sem, bf1, by1, by2]
    have df2 : w6.frozen? ⟨w.heap.size + 1 + 1, 2, none⟩ = false := by rw [← hW6]; simp [go_sem, bf2, by1, by2]
    have df3 : w6.frozen? ⟨w.heap.size + 1 + 1, 3, none⟩ = false := by rw [← hW6]; simp [go_sem, bf3, by1, by2]
    have df4 : w6.frozen? ⟨w.heap.size + 1 + 1, 4, none⟩ = false := by rw [← hW6]; simp [go_sem, bf4, by1, by2]
    have df5 : w6.frozen? ⟨w.heap.size + 1 + 1, 5, none⟩ = false := by rw [← hW6]; simp [go_sem, bf5, by1, by2]
    have df6 : w6.frozen? ⟨w.heap.size + 1 + 1, 6, none⟩ = false := by rw [← hW6]; simp [go_sem, bf6, by1, by2]
    have df7 : w6.frozen? ⟨w.heap.size + 1 + 1, 7, none⟩ = false := by rw [← hW6]; simp [go_sem, bf7, by1, by2]
    have df8 : w6.frozen? ⟨w.heap.size + 1 + 1, 8, none⟩ = false := by rw [← hW6]; simp [go_sem, bf8, by1, by2]
    have df9 : w6.frozen? ⟨w.heap.size + 1 + 1, 9, none⟩ = false := by rw [← hW6]; simp [go_sem, bf9, by1, by2]
    have dbel : Below w.heap.size w w6 := by rw [← hW6]; exact ⟨bbel.os, bbel.tape, bbel.output, bbel.size, bbel.block⟩
    have dsz : w.heap.size + 1 + 1 + 1 ≤ w6.heap.size := by rw [← hW6]; simp; omega
    have dy0 : w.heap.size < w6.heap.size := by omega
    have dy1 : w.heap.size + 1 < w6.heap.size := by omega
    have dy2 : w.heap.size + 1 + 1 < w6.heap.size := by omega
    have dq0 : w6.cell? ⟨b, off + k * 2, none⟩ = some (.int .i64 X) := HX ▸ ((bcell dbel).1 _ _ hbB).trans (Hpc.out k hkn).1
    have dbb : b < w6.heap.size := by omega
    clear hW6
    clear br0 br1 br2 bc0 bc1 bc2 bc3 bc4 bc5 bc6 bc7 bc8 bc9 bg0 bg1 bg2 bg3 bg4 bg5 bg6 bg7 bg8 bg9 bz0 bz1 bz2 bz3 bz4 bz5 bz6 bz7 bz8 bz9 bf0 bf1 bf2 bf3 bf4 bf5 bf6 bf7 bf8 bf9 by0 by1 by2 bq0 bbb bsz bbel
    have KM := Lib.hid HM
    have KL := Lib.hid HL
    have KX := Lib.hid HX
    have Khm := Lib.hid hmade
    clear HM HL HX hmade
    have hXs : X ≤ 0 ∨ (0 < X ∧ M < X) ∨ (0 < X ∧ X ≤ M) := by omega
    rcases hXs with h1 | ⟨h1, h2⟩ | ⟨h1, h2⟩
    · have HC : Hid (¬ (0 < X ∧ X ≤ M)) := Lib.hid (by omega)
      go_upto_region 13 with (fail)
      generalize hW8 : (w6.setCell ⟨w.heap.size + 1, 6, none⟩ (.int .i64 1)).setCell ⟨w.heap.size + 1, 7, none⟩ (.int .i64 now) = w8
      have xc0 : w8.cell? ⟨w.heap.size + 1, 0, none⟩ = some (.int .i64 L) := by rw [← hW8]; simp [go_sem, dc0]
      have xc1 : w8.cell? ⟨w.heap.size + 1, 1, none⟩ = some (.int .i64 l1) := by rw [← hW8]; simp [go_sem, dc1]
      have xc2 : w8.cell? ⟨w.heap.size + 1, 2, none⟩ = some (.int .i64 M) := by rw [← hW8]; simp [go_sem, dc2]
      have xc3 : w8.cell? ⟨w.heap.size + 1, 3, none⟩ = some (.int .i64 m1) := by rw [← hW8]; simp [go_sem, dc3]
      have xc4 : w8.cell? ⟨w.heap.size + 1, 4, none⟩ = some (.int .i64 k) := by rw [← hW8]; simp [go_sem, dc4]
      have xc5 : w8.cell? ⟨w.heap.size + 1, 5, none⟩ = some (.int .i64 p1) := by rw [← hW8]; simp [go_sem, dc5]
      have xc6 : w8.cell? ⟨w.heap.size + 1, 6, none⟩ = some (.int .i64 1) := by rw [← hW8]; simp [go_sem, dc6]
      have xc7 : w8.cell? ⟨w.heap.size + 1, 7, none⟩ = some (.int .i64 now) := by rw [← hW8]; simp [go_sem, dc7]
      have xc8 : w8.cell? ⟨w.heap.size + 1, 8, none⟩ = some (.bool false) := by rw [← hW8]; simp [go_sem, dc8]
      have xc9 : w8.cell? ⟨w.heap.size + 1, 9, none⟩ = some (.int .i64 fallen) := by rw [← hW8]; simp [go_sem, dc9]
      have xz0 : w8.cell? ⟨w.heap.size + 1 + 1, 0, none⟩ = some (.int .i64 0) := by rw [← hW8]; simp [go_sem, dz0]
      have xz1 : w8.cell? ⟨w.heap.size + 1 + 1, 1, none⟩ = some (.int .i64 0) := by rw [← hW8]; simp [go_sem, dz1]
      have xz2 : w8.cell? ⟨w.heap.size + 1 + 1, 2, none⟩ = some (.int .i64 0) := by rw [← hW8]; simp [go_sem, dz2]
      have xz3 : w8.cell? ⟨w.heap.size + 1 + 1, 3, none⟩ = some (.int .i64 0) := by rw [← hW8]; simp [go_sem, dz3]
      have xz4 : w8.cell? ⟨w.heap.size + 1 + 1, 4, none⟩ = some (.int .i64 0) := by rw [← hW8]; simp [go_sem, dz4]
      have xz5 : w8.cell? ⟨w.heap.size + 1 + 1, 5, none⟩ = some (.int .i64 0) := by rw [← hW8]; simp [go_sem, dz5]
      have xz6 : w8.cell? ⟨w.heap.size + 1 + 1, 6, none⟩ = some (.int .i64 0) := by rw [← hW8]; simp [go_sem, dz6]
      have xz7 : w8.cell? ⟨w.heap.size + 1 + 1, 7, none⟩ = some (.int .i64 0) := by rw [← hW8]; simp [go_sem, dz7]
      have xz8 : w8.cell? ⟨w.heap.size + 1 + 1, 8, none⟩ = some (.bool false) := by rw [← hW8]; simp [go_sem, dz8]
      have xz9 : w8.cell? ⟨w.heap.size + 1 + 1, 9, none⟩ = some (.int .i64 0) := by rw [← hW8]; simp [go_sem, dz9]
      have xf0 : w8.frozen? ⟨w.heap.size + 1 + 1, 0, none⟩ = false := by rw [← hW8]; simp [go_sem, df0]
      have xf1 : w8.frozen? ⟨w.heap.size + 1 + 1, 1, none⟩ = false := by rw [← hW8]; simp [go_sem, df1]
      have xf2 : w8.frozen? ⟨w.heap.size + 1 + 1, 2, none⟩ = false := by rw [← hW8]; simp [go_sem, df2]
      have xf3 : w8.frozen? ⟨w.heap.size + 1 + 1, 3, none⟩ = false := by rw [← hW8]; simp [go_sem, df3]
      have xf4 : w8.frozen? ⟨w.heap.size + 1 + 1, 4, none⟩ = false := by rw [← hW8]; simp [go_sem, df4]
      have xf5 : w8.frozen? ⟨w.heap.size + 1 + 1, 5, none⟩ = false := by rw [← hW8]; simp [go_sem, df5]
      have xf6 : w8.frozen? ⟨w.heap.size + 1 + 1, 6, none⟩ = false := by rw [← hW8]; simp [go_sem, df6]
      have xf7 : w8.frozen? ⟨w.heap.size + 1 + 1, 7, none⟩ = false := by rw [← hW8]; simp [go_sem, df7]
      have xf8 : w8.frozen? ⟨w.heap.size + 1 + 1, 8, none⟩ = false := by rw [← hW8]; simp [go_sem, df8]
      have xf9 : w8.frozen? ⟨w.heap.size + 1 + 1, 9, none⟩ = false := by rw [← hW8]; simp [go_sem, df9]
      have xbel : Below w.heap.size w w8 := by rw [← hW8]; go_grown
      clear hW8
      clear dr0 dr1 dr2 dc0 dc1 dc2 dc3 dc4 dc5 dc6 dc7 dc8 dc9 dg0 dg1 dg2 dg3 dg4 dg5 dg6 dg7 dg8 dg9 dz0 dz1 dz2 dz3 dz4 dz5 dz6 dz7 dz8 dz9 df0 df1 df2 df3 df4 df5 df6 df7 df8 df9 dy0 dy1 dy2 dq0 dbb dsz dbel
      have xR := range10 xc0 xc1 xc2 xc3 xc4 xc5 xc6 xc7 xc8 xc9
      have xT := there10 xz0 xz1 xz2 xz3 xz4 xz5 xz6 xz7 xz8 xz9 xf0 xf1 xf2 xf3 xf4 xf5 xf6 xf7 xf8 xf9
      clear xc0 xz0 xf0 xc1 xz1 xf1 xc2 xz2 xf2 xc3 xz3 xf3 xc4 xz4 xf4 xc5 xz5 xf5 xc6 xz6 xf6 xc7 xz7 xf7 xc8 xz8 xf8 xc9 xz9 xf9
      have hi27 : (Try.prog.info? 27).map (·.size) = some 10 := by kernel_rfl
      refine wp_region_lit ?_
      refine wpList_load_mid (by rfl) 27 (.tmp 4) (by rfl) (w.heap.size + 1) 0 (by rfl) _ _ xR Try.underlying27 (by rfl) hi27 ?_
      refine wpList_store_mid (by rfl) 27 (.tmp 6) (.tmp 101) (by rfl) (w.heap.size + 1 + 1) 0 #[.int .i64 L, .int .i64 l1, .int .i64 M, .int .i64 m1, .int .i64 k, .int .i64 p1, .int .i64 1, .int .i64 now, .bool false, .int .i64 fallen] (by rfl) (by rfl) xT hi27 (by simp [Value.oneCell']) ?_
      have xR2 := World.rangeAt_setCells_same w8 (w.heap.size + 1 + 1) 0 [.int .i64 L, .int .i64 l1, .int .i64 M, .int .i64 m1, .int .i64 k, .int .i64 p1, .int .i64 1, .int .i64 now, .bool false, .int .i64 fallen] xT
      have xbel2 : Below w.heap.size w (w8.setCells (w.heap.size + 1 + 1) 0 [.int .i64 L, .int .i64 l1, .int .i64 M, .int .i64 m1, .int .i64 k, .int .i64 p1, .int .i64 1, .int .i64 now, .bool false, .int .i64 fallen]) := below_setCells xbel (by omega) _ _
      clear xR xT xbel
      have xL : (#[.int .i64 L, .int .i64 l1, .int .i64 M, .int .i64 m1, .int .i64 k, .int .i64 p1, .int .i64 1, .int .i64 now, .bool false, .int .i64 fallen] : Array Value).toList = [.int .i64 L, .int .i64 l1, .int .i64 M, .int .i64 m1, .int .i64 k, .int .i64 p1, .int .i64 1, .int .i64 now, .bool false, .int .i64 fallen] := rfl
      rw [xL]
      clear xL
      generalize w8.setCells (w.heap.size + 1 + 1) 0 [.int .i64 L, .int .i64 l1, .int .i64 M, .int .i64 m1, .int .i64 k, .int .i64 p1, .int .i64 1, .int .i64 now, .bool false, .int .i64 fallen] = w9 at *
      rename_i Qx _ K hKx
      refine wpList_assign_last (by rfl) (by rfl) (hKx _ _ (wp_ret ?_))
      clear hKx
      clear K
      refine bodyPost_ret (v := .tuple #[.agg #[.int .i64 L, .int .i64 l1, .int .i64 M, .int .i64 m1, .int .i64 k, .int .i64 p1, .int .i64 1, .int .i64 now, .bool false, .int .i64 fallen], .int .i64 0]) ?_ rfl ?_
      · exact results_two (a := 6) (s := 7) (t := 27) (b := w.heap.size + 1 + 1) rfl rfl rfl (run_loadVar_mid w9 (w.heap.size + 1 + 1) 0 27 _ _ xR2 Try.underlying27 rfl hi27)
      refine ⟨?_, xbel2⟩
      rw [KM.out, KL.out, KX.out, if_neg HC.out, if_neg HC.out, if_neg HC.out]
    · have HC : Hid (¬ (0 < X ∧ X ≤ M)) := Lib.hid (by omega)
      go_upto_region 13 with (fail)
      generalize hW8 : (w6.setCell ⟨w.heap.size + 1, 6, none⟩ (.int .i64 1)).setCell ⟨w.heap.size + 1, 7, none⟩ (.int .i64 now) = w8
      have xc0 : w8.cell? ⟨w.heap.size + 1, 0, none⟩ = some (.int .i64 L) := by rw [← hW8]; simp [go_sem, dc0]
      have xc1 : w8.cell? ⟨w.heap.size + 1, 1, none⟩ = some (.int .i64 l1) := by rw [← hW8]; simp [go_sem, dc1]
      have xc2 : w8.cell? ⟨w.heap.size + 1, 2, none⟩ = some (.int .i64 M) := by rw [← hW8]; simp [go_sem, dc2]
      have xc3 : w8.cell? ⟨w.heap.size + 1, 3, none⟩ = some (.int .i64 m1) := by rw [← hW8]; simp [go_sem, dc3]
      have xc4 : w8.cell? ⟨w.heap.size + 1, 4, none⟩ = some (.int .i64 k) := by rw [← hW8]; simp [go_sem, dc4]
      have xc5 : w8.cell? ⟨w.heap.size + 1, 5, none⟩ = some (.int .i64 p1) := by rw [← hW8]; simp [go_sem, dc5]
      have xc6 : w8.cell? ⟨w.heap.size + 1, 6, none⟩ = some (.int .i64 1) := by rw [← hW8]; simp [go_sem, dc6]
      have xc7 : w8.cell? ⟨w.heap.size + 1, 7, none⟩ = some (.int .i64 now) := by rw [← hW8]; simp [go_sem, dc7]
      have xc8 : w8.cell? ⟨w.heap.size + 1, 8, none⟩ = some (.bool false) := by rw [← hW8]; simp [go_sem, dc8]
      have xc9 : w8.cell? ⟨w.heap.size + 1, 9, none⟩ = some (.int .i64 fallen) := by rw [← hW8]; simp [go_sem, dc9]
      have xz0 : w8.cell? ⟨w.heap.size + 1 + 1, 0, none⟩ = some (.int .i64 0) := by rw [← hW8]; simp [go_sem, dz0]
      have xz1 : w8.cell? ⟨w.heap.size + 1 + 1, 1, none⟩ = some (.int .i64 0) := by rw [← hW8]; simp [go_sem, dz1]
      have xz2 : w8.cell? ⟨w.heap.size + 1 + 1, 2, none⟩ = some (.int .i64 0) := by rw [← hW8]; simp [go_sem, dz2]
      have xz3 : w8.cell? ⟨w.heap.size + 1 + 1, 3, none⟩ = some (.int .i64 0) := by rw [← hW8]; simp [go_sem, dz3]
      have xz4 : w8.cell? ⟨w.heap.size + 1 + 1, 4, none⟩ = some (.int .i64 0) := by rw [← hW8]; simp [go_sem, dz4]
      have xz5 : w8.cell? ⟨w.heap.size + 1 + 1, 5, none⟩ = some (.int .i64 0) := by rw [← hW8]; simp [go_sem, dz5]
      have xz6 : w8.cell? ⟨w.heap.size + 1 + 1, 6, none⟩ = some (.int .i64 0) := by rw [← hW8]; simp [go_sem, dz6]
      have xz7 : w8.cell? ⟨w.heap.size + 1 + 1, 7, none⟩ = some (.int .i64 0) := by rw [← hW8]; simp [go_sem, dz7]
      have xz8 : w8.cell? ⟨w.heap.size + 1 + 1, 8, none⟩ = some (.bool false) := by rw [← hW8]; simp [go_sem, dz8]
      have xz9 : w8.cell? ⟨w.heap.size + 1 + 1, 9, none⟩ = some (.int .i64 0) := by rw [← hW8]; simp [go_sem, dz9]
      have xf0 : w8.frozen? ⟨w.heap.size + 1 + 1, 0, none⟩ = false := by rw [← hW8]; simp [go_sem, df0]
      have xf1 : w8.frozen? ⟨w.heap.size + 1 + 1, 1, none⟩ = false := by rw [← hW8]; simp [go_sem, df1]
      have xf2 : w8.frozen? ⟨w.heap.size + 1 + 1, 2, none⟩ = false := by rw [← hW8]; simp [go_sem, df2]
      have xf3 : w8.frozen? ⟨w.heap.size + 1 + 1, 3, none⟩ = false := by rw [← hW8]; simp [go_sem, df3]
      have xf4 : w8.frozen? ⟨w.heap.size + 1 + 1, 4, none⟩ = false := by rw [← hW8]; simp [go_sem, df4]
      have xf5 : w8.frozen? ⟨w.heap.size + 1 + 1, 5, none⟩ = false := by rw [← hW8]; simp [go_sem, df5]
      have xf6 : w8.frozen? ⟨w.heap.size + 1 + 1, 6, none⟩ = false := by rw [← hW8]; simp [go_sem, df6]
      have xf7 : w8.frozen? ⟨w.heap.size + 1 + 1, 7, none⟩ = false := by rw [← hW8]; simp [go_sem, df7]
      have xf8 : w8.frozen? ⟨w.heap.size + 1 + 1, 8, none⟩ = false := by rw [← hW8]; simp [go_sem, df8]
      have xf9 : w8.frozen? ⟨w.heap.size + 1 + 1, 9, none⟩ = false := by rw [← hW8]; simp [go_sem, df9]
      have xbel : Below w.heap.size w w8 := by rw [← hW8]; go_grown
      clear hW8
      clear dr0 dr1 dr2 dc0 dc1 dc2 dc3 dc4 dc5 dc6 dc7 dc8 dc9 dg0 dg1 dg2 dg3 dg4 dg5 dg6 dg7 dg8 dg9 dz0 dz1 dz2 dz3 dz4 dz5 dz6 dz7 dz8 dz9 df0 df1 df2 df3 df4 df5 df6 df7 df8 df9 dy0 dy1 dy2 dq0 dbb dsz dbel
      have xR := range10 xc0 xc1 xc2 xc3 xc4 xc5 xc6 xc7 xc8 xc9
      have xT := there10 xz0 xz1 xz2 xz3 xz4 xz5 xz6 xz7 xz8 xz9 xf0 xf1 xf2 xf3 xf4 xf5 xf6 xf7 xf8 xf9
      clear xc0 xz0 xf0 xc1 xz1 xf1 xc2 xz2 xf2 xc3 xz3 xf3 xc4 xz4 xf4 xc5 xz5 xf5 xc6 xz6 xf6 xc7 xz7 xf7 xc8 xz8 xf8 xc9 xz9 xf9
      have hi27 : (Try.prog.info? 27).map (·.size) = some 10 := by kernel_rfl
      refine wp_region_lit ?_
      refine wpList_load_mid (by rfl) 27 (.tmp 4) (by rfl) (w.heap.size + 1) 0 (by rfl) _ _ xR Try.underlying27 (by rfl) hi27 ?_
      refine wpList_store_mid (by rfl) 27 (.tmp 6) (.tmp 101) (by rfl) (w.heap.size + 1 + 1) 0 #[.int .i64 L, .int .i64 l1, .int .i64 M, .int .i64 m1, .int .i64 k, .int .i64 p1, .int .i64 1, .int .i64 now, .bool false, .int .i64 fallen] (by rfl) (by rfl) xT hi27 (by simp [Value.oneCell']) ?_
      have xR2 := World.rangeAt_setCells_same w8 (w.heap.size + 1 + 1) 0 [.int .i64 L, .int .i64 l1, .int .i64 M, .int .i64 m1, .int .i64 k, .int .i64 p1, .int .i64 1, .int .i64 now, .bool false, .int .i64 fallen] xT
      have xbel2 : Below w.heap.size w (w8.setCells (w.heap.size + 1 + 1) 0 [.int .i64 L, .int .i64 l1, .int .i64 M, .int .i64 m1, .int .i64 k, .int .i64 p1, .int .i64 1, .int .i64 now, .bool false, .int .i64 fallen]) := below_setCells xbel (by omega) _ _
      clear xR xT xbel
      have xL : (#[.int .i64 L, .int .i64 l1, .int .i64 M, .int .i64 m1, .int .i64 k, .int .i64 p1, .int .i64 1, .int .i64 now, .bool false, .int .i64 fallen] : Array Value).toList = [.int .i64 L, .int .i64 l1, .int .i64 M, .int .i64 m1, .int .i64 k, .int .i64 p1, .int .i64 1, .int .i64 now, .bool false, .int .i64 fallen] := rfl
      rw [xL]
      clear xL
      generalize w8.setCells (w.heap.size + 1 + 1) 0 [.int .i64 L, .int .i64 l1, .int .i64 M, .int .i64 m1, .int .i64 k, .int .i64 p1, .int .i64 1, .int .i64 now, .bool false, .int .i64 fallen] = w9 at *
      rename_i Qx _ K hKx
      refine wpList_assign_last (by rfl) (by rfl) (hKx _ _ (wp_ret ?_))
      clear hKx
      clear K
      refine bodyPost_ret (v := .tuple #[.agg #[.int .i64 L, .int .i64 l1, .int .i64 M, .int .i64 m1, .int .i64 k, .int .i64 p1, .int .i64 1, .int .i64 now, .bool false, .int .i64 fallen], .int .i64 0]) ?_ rfl ?_
      · exact results_two (a := 6) (s := 7) (t := 27) (b := w.heap.size + 1 + 1) rfl rfl rfl (run_loadVar_mid w9 (w.heap.size + 1 + 1) 0 27 _ _ xR2 Try.underlying27 rfl hi27)
      refine ⟨?_, xbel2⟩
      rw [KM.out, KL.out, KX.out, if_neg HC.out, if_neg HC.out, if_neg HC.out]
    · have hkn1 : k + 1 < n := Hq1.out h1
      have HC : Hid (0 < X ∧ X ≤ M) := Lib.hid ⟨h1, h2⟩
      have hY := Hqb.out (k + 1) hkn1
      have dq1 : w6.cell? ⟨b, off + (k + 1) * 2 + 1, none⟩ = some (.int .i64 (ps.getD (k + 1) (0, 0)).2) := ((bcell dbel).1 _ _ hbB).trans (Hpc.out (k + 1) hkn1).2
      have hk1a : (0 : Int) ≤ (k : Int) + 1 := by omega
      have hk1b : (k : Int) + 1 < (n : Int) := by omega
      generalize HY : (ps.getD (k + 1) (0, 0)).2 = Y at *
      have KY := Lib.hid HY
      clear HY
      go_upto_region 11 with (fail)
      generalize hW7 : ((w6.setCell ⟨w.heap.size + 1, 2, none⟩ (.int .i64 0)).setCell ⟨w.heap.size + 1, 4, none⟩ (.int .i64 (k + 1))) = w7
      have er0 : w7.cell? ⟨w.heap.size, 0, none⟩ = some (.slice (some ⟨b, off, none⟩) n cap) := by rw [← hW7]; simp [go_sem, dr0, dy0, dy1]
      have er1 : w7.cell? ⟨w.heap.size, 1, none⟩ = some (.int .i64 inc) := by rw [← hW7]; simp [go_sem, dr1, dy0, dy1]
      have er2 : w7.cell? ⟨w.heap.size, 2, none⟩ = some (.int .i64 delay) := by rw [← hW7]; simp [go_sem, dr2, dy0, dy1]
      have ec0 : w7.cell? ⟨w.heap.size + 1, 0, none⟩ = some (.int .i64 L) := by rw [← hW7]; simp [go_sem, dc0, dy0, dy1]
      have ec1 : w7.cell? ⟨w.heap.size + 1, 1, none⟩ = some (.int .i64 l1) := by rw [← hW7]; simp [go_sem, dc1, dy0, dy1]
      have ec2 : w7.cell? ⟨w.heap.size + 1, 2, none⟩ = some (.int .i64 0) := by rw [← hW7]; simp [go_sem, dc2, dy0, dy1]
      have ec3 : w7.cell? ⟨w.heap.size + 1, 3, none⟩ = some (.int .i64 m1) := by rw [← hW7]; simp [go_sem, dc3, dy0, dy1]
      have ec4 : w7.cell? ⟨w.heap.size + 1, 4, none⟩ = some (.int .i64 (k + 1)) := by rw [← hW7]; simp [go_sem, dc4, dy0, dy1]
      have ec5 : w7.cell? ⟨w.heap.size + 1, 5, none⟩ = some (.int .i64 p1) := by rw [← hW7]; simp [go_sem, dc5, dy0, dy1]
      have ec6 : w7.cell? ⟨w.heap.size + 1, 6, none⟩ = some (.int .i64 0) := by rw [← hW7]; simp [go_sem, dc6, dy0, dy1]
      have ec7 : w7.cell? ⟨w.heap.size + 1, 7, none⟩ = some (.int .i64 since) := by rw [← hW7]; simp [go_sem, dc7, dy0, dy1]
      have ec8 : w7.cell? ⟨w.heap.size + 1, 8, none⟩ = some (.bool false) := by rw [← hW7]; simp [go_sem, dc8, dy0, dy1]
      have ec9 : w7.cell? ⟨w.heap.size + 1, 9, none⟩ = some (.int .i64 fallen) := by rw [← hW7]; simp [go_sem, dc9, dy0, dy1]
      have eg0 : w7.frozen? ⟨w.heap.size + 1, 0, none⟩ = false := by rw [← hW7]; simp [go_sem, dg0, dy0, dy1]
      have eg1 : w7.frozen? ⟨w.heap.size + 1, 1, none⟩ = false := by rw [← hW7]; simp [go_sem, dg1, dy0, dy1]
      have eg2 : w7.frozen? ⟨w.heap.size + 1, 2, none⟩ = false := by rw [← hW7]; simp [go_sem, dg2, dy0, dy1]
      have eg3 : w7.frozen? ⟨w.heap.size + 1, 3, none⟩ = false := by rw [← hW7]; simp [go_sem, dg3, dy0, dy1]
      have eg4 : w7.frozen? ⟨w.heap.size + 1, 4, none⟩ = false := by rw [← hW7]; simp [go_sem, dg4, dy0, dy1]
      have eg5 : w7.frozen? ⟨w.heap.size + 1, 5, none⟩ = false := by rw [← hW7]; simp [go_sem, dg5, dy0, dy1]
      have eg6 : w7.frozen? ⟨w.heap.size + 1, 6, none⟩ = false := by rw [← hW7]; simp [go_sem, dg6, dy0, dy1]
      have eg7 : w7.frozen? ⟨w.heap.size + 1, 7, none⟩ = false := by rw [← hW7]; simp [go_sem, dg7, dy0, dy1]
      have eg8 : w7.frozen? ⟨w.heap.size + 1, 8, none⟩ = false := by rw [← hW7]; simp [go_sem, dg8, dy0, dy1]
      have eg9 : w7.frozen? ⟨w.heap.size + 1, 9, none⟩ = false := by rw [← hW7]; simp [go_sem, dg9, dy0, dy1]
      have ez0 : w7.cell? ⟨w.heap.size + 1 + 1, 0, none⟩ = some (.int .i64 0) := by rw [← hW7]; simp [go_sem, dz0, dy1, dy2]
      have ez1 : w7.cell? ⟨w.heap.size + 1 + 1, 1, none⟩ = some (.int .i64 0) := by rw [← hW7]; simp [go_sem, dz1, dy1, dy2]
      have ez2 : w7.cell? ⟨w.heap.size + 1 + 1, 2, none⟩ = some (.int .i64 0) := by rw [← hW7]; simp [go_sem, dz2, dy1, dy2]
      have ez3 : w7.cell? ⟨w.heap.size + 1 + 1, 3, none⟩ = some (.int .i64 0) := by rw [← hW7]; simp [go_sem, dz3, dy1, dy2]
      have ez4 : w7.cell? ⟨w.heap.size + 1 + 1, 4, none⟩ = some (.int .i64 0) := by rw [← hW7]; simp [go_sem, dz4, dy1, dy2]
      have ez5 : w7.cell? ⟨w.heap.size + 1 + 1, 5, none⟩ = some (.int .i64 0) := by rw [← hW7]; simp [go_sem, dz5, dy1, dy2]
      have ez6 : w7.cell? ⟨w.heap.size + 1 + 1, 6, none⟩ = some (.int .i64 0) := by rw [← hW7]; simp [go_sem, dz6, dy1, dy2]
      have ez7 : w7.cell? ⟨w.heap.size + 1 + 1, 7, none⟩ = some (.int .i64 0) := by rw [← hW7]; simp [go_sem, dz7, dy1, dy2]
      have ez8 : w7.cell? ⟨w.heap.size + 1 + 1, 8, none⟩ = some (.bool false) := by rw [← hW7]; simp [go_sem, dz8, dy1, dy2]
      have ez9 : w7.cell? ⟨w.heap.size + 1 + 1, 9, none⟩ = some (.int .i64 0) := by rw [← hW7]; simp [go_sem, dz9, dy1, dy2]
      have ef0 : w7.frozen? ⟨w.heap.size + 1 + 1, 0, none⟩ = false := by rw [← hW7]; simp [go_sem, df0, dy1, dy2]
      have ef1 : w7.frozen? ⟨w.heap.size + 1 + 1, 1, none⟩ = false := by rw [← hW7]; simp [go_sem, df1, dy1, dy2]
      have ef2 : w7.frozen? ⟨w.heap.size + 1 + 1, 2, none⟩ = false := by rw [← hW7]; simp [go_sem, df2, dy1, dy2]
      have ef3 : w7.frozen? ⟨w.heap.size + 1 + 1, 3, none⟩ = false := by rw [← hW7]; simp [go_sem, df3, dy1, dy2]
      have ef4 : w7.frozen? ⟨w.heap.size + 1 + 1, 4, none⟩ = false := by rw [← hW7]; simp [go_sem, df4, dy1, dy2]
      have ef5 : w7.frozen? ⟨w.heap.size + 1 + 1, 5, none⟩ = false := by rw [← hW7]; simp [go_sem, df5, dy1, dy2]
      have ef6 : w7.frozen? ⟨w.heap.size + 1 + 1, 6, none⟩ = false := by rw [← hW7]; simp [go_sem, df6, dy1, dy2]
      have ef7 : w7.frozen? ⟨w.heap.size + 1 + 1, 7, none⟩ = false := by rw [← hW7]; simp [go_sem, df7, dy1, dy2]
      have ef8 : w7.frozen? ⟨w.heap.size + 1 + 1, 8, none⟩ = false := by rw [← hW7]; simp [go_sem, df8, dy1, dy2]
      have ef9 : w7.frozen? ⟨w.heap.size + 1 + 1, 9, none⟩ = false := by rw [← hW7]; simp [go_sem, df9, dy1, dy2]
      have ebel : Below w.heap.size w w7 := by rw [← hW7]; go_grown
      have esz : w.heap.size + 1 + 1 + 1 ≤ w7.heap.size := by rw [← hW7]; simp; omega
      have ey0 : w.heap.size < w7.heap.size := by omega
      have ey1 : w.heap.size + 1 < w7.heap.size := by omega
      have ey2 : w.heap.size + 1 + 1 < w7.heap.size := by omega
      have ebb : b < w7.heap.size := by omega
      clear hW7
      clear dq1 dr0 dr1 dr2 dc0 dc1 dc2 dc3 dc4 dc5 dc6 dc7 dc8 dc9 dg0 dg1 dg2 dg3 dg4 dg5 dg6 dg7 dg8 dg9 dz0 dz1 dz2 dz3 dz4 dz5 dz6 dz7 dz8 dz9 df0 df1 df2 df3 df4 df5 df6 df7 df8 df9 dy0 dy1 dy2 dq0 dbb dsz dbel
      have eq1 : w7.cell? ⟨b, off + (k + 1) * 2 + 1, none⟩ = some (.int .i64 Y) := KY.out ▸ ((bcell ebel).1 _ _ hbB).trans (Hpc.out (k + 1) hkn1).2
      have hwr : IntKind.i64.wrap (L + Y) = L + Y := IntWalk.i64_in _ (by omega)
      have hmin2 : (if (100000000000 : Int) < L + Y then 100000000000 else L + Y) = mostB (L + Y) := rfl
      generalize HL2 : mostB (L + Y) = L2 at *
      have KL2 := Lib.hid HL2
      clear HL2
      go_still_tail 18, (by kernel_rfl)
      change wpList _ _ _ _ _ w7.drew
      generalize hWd : w7.drew = wd
      have or0 : wd.cell? ⟨w.heap.size, 0, none⟩ = some (.slice (some ⟨b, off, none⟩) n cap) := by rw [← hWd]; simp [go_sem, er0, ey0, ey1]
      have or1 : wd.cell? ⟨w.heap.size, 1, none⟩ = some (.int .i64 inc) := by rw [← hWd]; simp [go_sem, er1, ey0, ey1]
      have or2 : wd.cell? ⟨w.heap.size, 2, none⟩ = some (.int .i64 delay) := by rw [← hWd]; simp [go_sem, er2, ey0, ey1]
      have oc0 : wd.cell? ⟨w.heap.size + 1, 0, none⟩ = some (.int .i64 L) := by rw [← hWd]; simp [go_sem, ec0, ey0, ey1]
      have oc1 : wd.cell? ⟨w.heap.size + 1, 1, none⟩ = some (.int .i64 l1) := by rw [← hWd]; simp [go_sem, ec1, ey0, ey1]
      have oc2 : wd.cell? ⟨w.heap.size + 1, 2, none⟩ = some (.int .i64 0) := by rw [← hWd]; simp [go_sem, ec2, ey0, ey1]
      have oc3 : wd.cell? ⟨w.heap.size + 1, 3, none⟩ = some (.int .i64 m1) := by rw [← hWd]; simp [go_sem, ec3, ey0, ey1]
      have oc4 : wd.cell? ⟨w.heap.size + 1, 4, none⟩ = some (.int .i64 (k + 1)) := by rw [← hWd]; simp [go_sem, ec4, ey0, ey1]
      have oc5 : wd.cell? ⟨w.heap.size + 1, 5, none⟩ = some (.int .i64 p1) := by rw [← hWd]; simp [go_sem, ec5, ey0, ey1]
      have oc6 : wd.cell? ⟨w.heap.size + 1, 6, none⟩ = some (.int .i64 0) := by rw [← hWd]; simp [go_sem, ec6, ey0, ey1]
      have oc7 : wd.cell? ⟨w.heap.size + 1, 7, none⟩ = some (.int .i64 since) := by rw [← hWd]; simp [go_sem, ec7, ey0, ey1]
      have oc8 : wd.cell? ⟨w.heap.size + 1, 8, none⟩ = some (.bool false) := by rw [← hWd]; simp [go_sem, ec8, ey0, ey1]
      have oc9 : wd.cell? ⟨w.heap.size + 1, 9, none⟩ = some (.int .i64 fallen) := by rw [← hWd]; simp [go_sem, ec9, ey0, ey1]
      have og0 : wd.frozen? ⟨w.heap.size + 1, 0, none⟩ = false := by rw [← hWd]; simp [go_sem, eg0, ey0, ey1]
      have og1 : wd.frozen? ⟨w.heap.size + 1, 1, none⟩ = false := by rw [← hWd]; simp [go_sem, eg1, ey0, ey1]
      have og2 : wd.frozen? ⟨w.heap.size + 1, 2, none⟩ = false := by rw [← hWd]; simp [go_sem, eg2, ey0, ey1]
      have og3 : wd.frozen? ⟨w.heap.size + 1, 3, none⟩ = false := by rw [← hWd]; simp [go_sem, eg3, ey0, ey1]
      have og4 : wd.frozen? ⟨w.heap.size + 1, 4, none⟩ = false := by rw [← hWd]; simp [go_sem, eg4, ey0, ey1]
      have og5 : wd.frozen? ⟨w.heap.size + 1, 5, none⟩ = false := by rw [← hWd]; simp [go_sem, eg5, ey0, ey1]
      have og6 : wd.frozen? ⟨w.heap.size + 1, 6, none⟩ = false := by rw [← hWd]; simp [go_sem, eg6, ey0, ey1]
      have og7 : wd.frozen? ⟨w.heap.size + 1, 7, none⟩ = false := by rw [← hWd]; simp [go_sem, eg7, ey0, ey1]
      have og8 : wd.frozen? ⟨w.heap.size + 1, 8, none⟩ = false := by rw [← hWd]; simp [go_sem, eg8, ey0, ey1]
      have og9 : wd.frozen? ⟨w.heap.size + 1, 9, none⟩ = false := by rw [← hWd]; simp [go_sem, eg9, ey0, ey1]
      have oz0 : wd.cell? ⟨w.heap.size + 1 + 1, 0, none⟩ = some (.int .i64 0) := by rw [← hWd]; simp [go_sem, ez0, ey1, ey2]
      have oz1 : wd.cell? ⟨w.heap.size + 1 + 1, 1, none⟩ = some (.int .i64 0) := by rw [← hWd]; simp [go_sem, ez1, ey1, ey2]
      have oz2 : wd.cell? ⟨w.heap.size + 1 + 1, 2, none⟩ = some (.int .i64 0) := by rw [← hWd]; simp [go_sem, ez2, ey1, ey2]
      have oz3 : wd.cell? ⟨w.heap.size + 1 + 1, 3, none⟩ = some (.int .i64 0) := by rw [← hWd]; simp [go_sem, ez3, ey1, ey2]
      have oz4 : wd.cell? ⟨w.heap.size + 1 + 1, 4, none⟩ = some (.int .i64 0) := by rw [← hWd]; simp [go_sem, ez4, ey1, ey2]
      have oz5 : wd.cell? ⟨w.heap.size + 1 + 1, 5, none⟩ = some (.int .i64 0) := by rw [← hWd]; simp [go_sem, ez5, ey1, ey2]
      have oz6 : wd.cell? ⟨w.heap.size + 1 + 1, 6, none⟩ = some (.int .i64 0) := by rw [← hWd]; simp [go_sem, ez6, ey1, ey2]
      have oz7 : wd.cell? ⟨w.heap.size + 1 + 1, 7, none⟩ = some (.int .i64 0) := by rw [← hWd]; simp [go_sem, ez7, ey1, ey2]
      have oz8 : wd.cell? ⟨w.heap.size + 1 + 1, 8, none⟩ = some (.bool false) := by rw [← hWd]; simp [go_sem, ez8, ey1, ey2]
      have oz9 : wd.cell? ⟨w.heap.size + 1 + 1, 9, none⟩ = some (.int .i64 0) := by rw [← hWd]; simp [go_sem, ez9, ey1, ey2]
      have of0 : wd.frozen? ⟨w.heap.size + 1 + 1, 0, none⟩ = false := by rw [← hWd]; simp [go_sem, ef0, ey1, ey2]
      have of1 : wd.frozen? ⟨w.heap.size + 1 + 1, 1, none⟩ = false := by rw [← hWd]; simp [go_sem, ef1, ey1, ey2]
      have of2 : wd.frozen? ⟨w.heap.size + 1 + 1, 2, none⟩ = false := by rw [← hWd]; simp [go_sem, ef2, ey1, ey2]
      have of3 : wd.frozen? ⟨w.heap.size + 1 + 1, 3, none⟩ = false := by rw [← hWd]; simp [go_sem, ef3, ey1, ey2]
      have of4 : wd.frozen? ⟨w.heap.size + 1 + 1, 4, none⟩ = false := by rw [← hWd]; simp [go_sem, ef4, ey1, ey2]
      have of5 : wd.frozen? ⟨w.heap.size + 1 + 1, 5, none⟩ = false := by rw [← hWd]; simp [go_sem, ef5, ey1, ey2]
      have of6 : wd.frozen? ⟨w.heap.size + 1 + 1, 6, none⟩ = false := by rw [← hWd]; simp [go_sem, ef6, ey1, ey2]
      have of7 : wd.frozen? ⟨w.heap.size + 1 + 1, 7, none⟩ = false := by rw [← hWd]; simp [go_sem, ef7, ey1, ey2]
      have of8 : wd.frozen? ⟨w.heap.size + 1 + 1, 8, none⟩ = false := by rw [← hWd]; simp [go_sem, ef8, ey1, ey2]
      have of9 : wd.frozen? ⟨w.heap.size + 1 + 1, 9, none⟩ = false := by rw [← hWd]; simp [go_sem, ef9, ey1, ey2]
      have obel : Below w.heap.size w wd := by rw [← hWd]; exact ⟨ebel.os, ebel.tape, ebel.output, ebel.size, ebel.block⟩
      have osz : w.heap.size + 1 + 1 + 1 ≤ wd.heap.size := by rw [← hWd]; simp; omega
      have oy0 : w.heap.size < wd.heap.size := by omega
      have oy1 : w.heap.size + 1 < wd.heap.size := by omega
      have oy2 : w.heap.size + 1 + 1 < wd.heap.size := by omega
      have obb : b < wd.heap.size := by omega
      clear hWd
      clear eq1 er0 er1 er2 ec0 ec1 ec2 ec3 ec4 ec5 ec6 ec7 ec8 ec9 eg0 eg1 eg2 eg3 eg4 eg5 eg6 eg7 eg8 eg9 ez0 ez1 ez2 ez3 ez4 ez5 ez6 ez7 ez8 ez9 ef0 ef1 ef2 ef3 ef4 ef5 ef6 ef7 ef8 ef9 ey0 ey1 ey2 ebb esz ebel
      go_upto_region 13 with (fail)
      generalize hW8 : ((wd.setCell ⟨w.heap.size + 1, 0, none⟩ (.int .i64 L2)).setCell ⟨w.heap.size + 1, 6, none⟩ (.int .i64 1)).setCell ⟨w.heap.size + 1, 7, none⟩ (.int .i64 now) = w8
      have xc0 : w8.cell? ⟨w.heap.size + 1, 0, none⟩ = some (.int .i64 L2) := by rw [← hW8]; simp [go_sem, oc0]
      have xc1 : w8.cell? ⟨w.heap.size + 1, 1, none⟩ = some (.int .i64 l1) := by rw [← hW8]; simp [go_sem, oc1]
      have xc2 : w8.cell? ⟨w.heap.size + 1, 2, none⟩ = some (.int .i64 0) := by rw [← hW8]; simp [go_sem, oc2]
      have xc3 : w8.cell? ⟨w.heap.size + 1, 3, none⟩ = some (.int .i64 m1) := by rw [← hW8]; simp [go_sem, oc3]
      have xc4 : w8.cell? ⟨w.heap.size + 1, 4, none⟩ = some (.int .i64 (k + 1)) := by rw [← hW8]; simp [go_sem, oc4]
      have xc5 : w8.cell? ⟨w.heap.size + 1, 5, none⟩ = some (.int .i64 p1) := by rw [← hW8]; simp [go_sem, oc5]
      have xc6 : w8.cell? ⟨w.heap.size + 1, 6, none⟩ = some (.int .i64 1) := by rw [← hW8]; simp [go_sem, oc6]
      have xc7 : w8.cell? ⟨w.heap.size + 1, 7, none⟩ = some (.int .i64 now) := by rw [← hW8]; simp [go_sem, oc7]
      have xc8 : w8.cell? ⟨w.heap.size + 1, 8, none⟩ = some (.bool false) := by rw [← hW8]; simp [go_sem, oc8]
      have xc9 : w8.cell? ⟨w.heap.size + 1, 9, none⟩ = some (.int .i64 fallen) := by rw [← hW8]; simp [go_sem, oc9]
      have xz0 : w8.cell? ⟨w.heap.size + 1 + 1, 0, none⟩ = some (.int .i64 0) := by rw [← hW8]; simp [go_sem, oz0]
      have xz1 : w8.cell? ⟨w.heap.size + 1 + 1, 1, none⟩ = some (.int .i64 0) := by rw [← hW8]; simp [go_sem, oz1]
      have xz2 : w8.cell? ⟨w.heap.size + 1 + 1, 2, none⟩ = some (.int .i64 0) := by rw [← hW8]; simp [go_sem, oz2]
      have xz3 : w8.cell? ⟨w.heap.size + 1 + 1, 3, none⟩ = some (.int .i64 0) := by rw [← hW8]; simp [go_sem, oz3]
      have xz4 : w8.cell? ⟨w.heap.size + 1 + 1, 4, none⟩ = some (.int .i64 0) := by rw [← hW8]; simp [go_sem, oz4]
      have xz5 : w8.cell? ⟨w.heap.size + 1 + 1, 5, none⟩ = some (.int .i64 0) := by rw [← hW8]; simp [go_sem, oz5]
      have xz6 : w8.cell? ⟨w.heap.size + 1 + 1, 6, none⟩ = some (.int .i64 0) := by rw [← hW8]; simp [go_sem, oz6]
      have xz7 : w8.cell? ⟨w.heap.size + 1 + 1, 7, none⟩ = some (.int .i64 0) := by rw [← hW8]; simp [go_sem, oz7]
      have xz8 : w8.cell? ⟨w.heap.size + 1 + 1, 8, none⟩ = some (.bool false) := by rw [← hW8]; simp [go_sem, oz8]
      have xz9 : w8.cell? ⟨w.heap.size + 1 + 1, 9, none⟩ = some (.int .i64 0) := by rw [← hW8]; simp [go_sem, oz9]
      have xf0 : w8.frozen? ⟨w.heap.size + 1 + 1, 0, none⟩ = false := by rw [← hW8]; simp [go_sem, of0]
      have xf1 : w8.frozen? ⟨w.heap.size + 1 + 1, 1, none⟩ = false := by rw [← hW8]; simp [go_sem, of1]
      have xf2 : w8.frozen? ⟨w.heap.size + 1 + 1, 2, none⟩ = false := by rw [← hW8]; simp [go_sem, of2]
      have xf3 : w8.frozen? ⟨w.heap.size + 1 + 1, 3, none⟩ = false := by rw [← hW8]; simp [go_sem, of3]
      have xf4 : w8.frozen? ⟨w.heap.size + 1 + 1, 4, none⟩ = false := by rw [← hW8]; simp [go_sem, of4]
      have xf5 : w8.frozen? ⟨w.heap.size + 1 + 1, 5, none⟩ = false := by rw [← hW8]; simp [go_sem, of5]
      have xf6 : w8.frozen? ⟨w.heap.size + 1 + 1, 6, none⟩ = false := by rw [← hW8]; simp [go_sem, of6]
      have xf7 : w8.frozen? ⟨w.heap.size + 1 + 1, 7, none⟩ = false := by rw [← hW8]; simp [go_sem, of7]
      have xf8 : w8.frozen? ⟨w.heap.size + 1 + 1, 8, none⟩ = false := by rw [← hW8]; simp [go_sem, of8]
      have xf9 : w8.frozen? ⟨w.heap.size + 1 + 1, 9, none⟩ = false := by rw [← hW8]; simp [go_sem, of9]
      have xbel : Below w.heap.size w w8 := by rw [← hW8]; go_grown
      clear hW8
      clear or0 or1 or2 oc0 oc1 oc2 oc3 oc4 oc5 oc6 oc7 oc8 oc9 og0 og1 og2 og3 og4 og5 og6 og7 og8 og9 oz0 oz1 oz2 oz3 oz4 oz5 oz6 oz7 oz8 oz9 of0 of1 of2 of3 of4 of5 of6 of7 of8 of9 oy0 oy1 oy2 obb osz obel
      have xR := range10 xc0 xc1 xc2 xc3 xc4 xc5 xc6 xc7 xc8 xc9
      have xT := there10 xz0 xz1 xz2 xz3 xz4 xz5 xz6 xz7 xz8 xz9 xf0 xf1 xf2 xf3 xf4 xf5 xf6 xf7 xf8 xf9
      clear xc0 xz0 xf0 xc1 xz1 xf1 xc2 xz2 xf2 xc3 xz3 xf3 xc4 xz4 xf4 xc5 xz5 xf5 xc6 xz6 xf6 xc7 xz7 xf7 xc8 xz8 xf8 xc9 xz9 xf9
      have hi27 : (Try.prog.info? 27).map (·.size) = some 10 := by kernel_rfl
      refine wp_region_lit ?_
      refine wpList_load_mid (by rfl) 27 (.tmp 4) (by rfl) (w.heap.size + 1) 0 (by rfl) _ _ xR Try.underlying27 (by rfl) hi27 ?_
      refine wpList_store_mid (by rfl) 27 (.tmp 6) (.tmp 101) (by rfl) (w.heap.size + 1 + 1) 0 #[.int .i64 L2, .int .i64 l1, .int .i64 0, .int .i64 m1, .int .i64 (k + 1), .int .i64 p1, .int .i64 1, .int .i64 now, .bool false, .int .i64 fallen] (by rfl) (by rfl) xT hi27 (by simp [Value.oneCell']) ?_
      have xR2 := World.rangeAt_setCells_same w8 (w.heap.size + 1 + 1) 0 [.int .i64 L2, .int .i64 l1, .int .i64 0, .int .i64 m1, .int .i64 (k + 1), .int .i64 p1, .int .i64 1, .int .i64 now, .bool false, .int .i64 fallen] xT
      have xbel2 : Below w.heap.size w (w8.setCells (w.heap.size + 1 + 1) 0 [.int .i64 L2, .int .i64 l1, .int .i64 0, .int .i64 m1, .int .i64 (k + 1), .int .i64 p1, .int .i64 1, .int .i64 now, .bool false, .int .i64 fallen]) := below_setCells xbel (by omega) _ _
      clear xR xT xbel
      have xL : (#[.int .i64 L2, .int .i64 l1, .int .i64 0, .int .i64 m1, .int .i64 (k + 1), .int .i64 p1, .int .i64 1, .int .i64 now, .bool false, .int .i64 fallen] : Array Value).toList = [.int .i64 L2, .int .i64 l1, .int .i64 0, .int .i64 m1, .int .i64 (k + 1), .int .i64 p1, .int .i64 1, .int .i64 now, .bool false, .int .i64 fallen] := rfl
      rw [xL]
      clear xL
      generalize w8.setCells (w.heap.size + 1 + 1) 0 [.int .i64 L2, .int .i64 l1, .int .i64 0, .int .i64 m1, .int .i64 (k + 1), .int .i64 p1, .int .i64 1, .int .i64 now, .bool false, .int .i64 fallen] = w9 at *
      rename_i Qx  K hKx
      refine wpList_assign_last (by rfl) (by rfl) (hKx _ _ (wp_ret ?_))
      clear hKx
      clear K
      refine bodyPost_ret (v := .tuple #[.agg #[.int .i64 L2, .int .i64 l1, .int .i64 0, .int .i64 m1, .int .i64 (k + 1), .int .i64 p1, .int .i64 1, .int .i64 now, .bool false, .int .i64 fallen], .int .i64 0]) ?_ rfl ?_
      · exact results_two (a := 6) (s := 7) (t := 27) (b := w.heap.size + 1 + 1) rfl rfl rfl (run_loadVar_mid w9 (w.heap.size + 1 + 1) 0 27 _ _ xR2 Try.underlying27 rfl hi27)
      refine ⟨?_, xbel2⟩
      rw [KM.out, KL.out, KX.out, if_pos HC.out, if_pos HC.out, if_pos HC.out, KY.out, KL2.out]

set_option maxRecDepth 100000 in
set_option maxHeartbeats 8000000 in
theorem Press_ok_1 (A : Option Addr) (n cap : Nat) (inc delay : Int) (ps : List (Int × Int)) (l0 l1 m0 m1 p0 p1 since fallen : Int) (now : Int) (w : World) (hn : n ≤ 9223372036854775807) (hp : PerAt w w.heap.size A n ps) (hr : RuleOk n inc delay ps) (hk : ClkOk n l0 l1 m0 m1 p0 p1 1 since fallen) (e0 : witB now since 100000000 = true) (hf : fallen < 0) (hu : usedZ false delay since now ≤ l1) :
    Calls Try.prog 9 #[.agg #[.slice A n cap, .int .i64 inc, .int .i64 delay], .agg #[.int .i64 l0, .int .i64 l1, .int .i64 m0, .int .i64 m1, .int .i64 p0, .int .i64 p1, .int .i64 1, .int .i64 since, .bool false, .int .i64 fallen], .int .i64 now] w (fun e w' => e = .returned (.tuple #[.agg #[.int .i64 l0, .int .i64 (if (0 < (ps.getD p1.toNat (0, 0)).1 ∧ (ps.getD p1.toNat (0, 0)).1 ≤ (madeB (m1 + 1))) then mostB ((mostB (l1 - usedZ false delay since now + inc)) + (ps.getD (p1.toNat + 1) (0, 0)).2) else (mostB (l1 - usedZ false delay since now + inc))), .int .i64 m0, .int .i64 (if (0 < (ps.getD p1.toNat (0, 0)).1 ∧ (ps.getD p1.toNat (0, 0)).1 ≤ (madeB (m1 + 1))) then 0 else (madeB (m1 + 1))), .int .i64 p0, .int .i64 (if (0 < (ps.getD p1.toNat (0, 0)).1 ∧ (ps.getD p1.toNat (0, 0)).1 ≤ (madeB (m1 + 1))) then p1 + 1 else p1), .int .i64 0, .int .i64 now, .bool false, .int .i64 fallen], .int .i64 0]) ∧ Below w.heap.size w w') := by
  have hnow := witB_iff.1 e0
  have hsn := hk.2.2.1
  have hdl := hr.2.2.1
  have hub := usedZ_b false delay since now (by omega) (by omega) (by omega) (by omega)
  have hlb : 0 ≤ l1 ∧ l1 ≤ 100000000000 := hk.2.2.2.2.2.2.2.2
  have hmb : 0 ≤ m1 ∧ m1 ≤ 400 := hk.2.2.2.2.2.2.2.1
  have hpb : 0 ≤ p1 ∧ p1 ≤ (n : Int) - 1 := hk.2.2.2.2.2.2.1
  have hib : 0 ≤ inc ∧ inc ≤ 100000000 := hr.2.1
  have hn5 : n ≤ 5 := hr.1.2
  obtain ⟨k, rfl⟩ : ∃ k : Nat, p1 = k := ⟨p1.toNat, by omega⟩
  rw [Int.toNat_natCast]
  have hkn : k < n := by omega
  obtain ⟨b, off, rfl, hbB, hpc⟩ := hp.2 (by omega)
  have q0 := (hpc k hkn).1
  have hq := hr.2.2.2 k hkn
  have hq1 : 0 < (ps.getD k (0, 0)).1 → k + 1 < n := by
    intro h
    unfold perOk at hq
    simp only [Bool.and_eq_true, beq_iff_eq] at hq
    have h2 := hq.2.2
    have h3 : ((ps.getD k (0, 0)).1 == 0) = false := by rw [beq_eq_false_iff_ne]; omega
    rw [h3] at h2
    have h4 := beq_eq_false_iff_ne.1 h2.symm
    omega
  have hqb : ∀ j, j < n → 1 ≤ (ps.getD j (0, 0)).2 ∧ (ps.getD j (0, 0)).2 ≤ 100000000 := by
    intro j hj
    have h := hr.2.2.2 j hj
    unfold perOk at h
    simp only [Bool.and_eq_true] at h
    exact witB_iff.1 h.2.1
  have Hq1 := Lib.hid hq1
  have Hqb := Lib.hid hqb
  have Hpc := Lib.hid hpc
  clear hq hq1 hqb hpc
  have H := Lib.hid hr
  have HC := Lib.hid hk
  clear hr hk
  have hP := Lib.hid (((hp.alloc (.cells #[.slice (some ⟨b, off, none⟩) n cap, .int .i64 inc, .int .i64 delay] 24)).alloc (.cells #[.int .i64 l0, .int .i64 l1, .int .i64 m0, .int .i64 m1, .int .i64 p0, .int .i64 k, .int .i64 1, .int .i64 since, .bool false, .int .i64 fallen] 27)).alloc (.cells #[.int .i64 0, .int .i64 0, .int .i64 0, .int .i64 0, .int .i64 0, .int .i64 0, .int .i64 0, .int .i64 0, .bool false, .int .i64 0] 27))
  clear hp
  go_enter Try.func9, Try.ntmps9
  go_wp2_with fail
  refine (ready_ok_1_false _ n cap inc delay ps l0 l1 m0 m1 p0 k since fallen now _ hn hP.out H.out HC.out e0 hf hu).mono ?_
  rintro e w1 ⟨rfl, hb⟩
  obtain ⟨hcell, hfr⟩ := bcell hb
  have hs := hb.size
  (try simp only [World.size_alloc] at hs)
  have hz0 : w.heap.size < w1.heap.size := by omega
  have hz1 : w.heap.size + 1 < w1.heap.size := by omega
  have hz2 : w.heap.size + 1 + 1 < w1.heap.size := by omega
  have hbel := ((((Below.refl w.heap.size w).alloc (by go_size) _).alloc (by go_size) _).alloc (by go_size) _).trans (hb.mono (by go_size))
  go_upto_region 5 with (fail)
  generalize hW : ((((((((((w1.setCell ⟨w.heap.size + 1, 0, none⟩ (.int .i64 l0)).setCell ⟨w.heap.size + 1, 1, none⟩ (.int .i64 l1)).setCell ⟨w.heap.size + 1, 2, none⟩ (.int .i64 m0)).setCell ⟨w.heap.size + 1, 3, none⟩ (.int .i64 m1)).setCell ⟨w.heap.size + 1, 4, none⟩ (.int .i64 p0)).setCell ⟨w.heap.size + 1, 5, none⟩ (.int .i64 k)).setCell ⟨w.heap.size + 1, 6, none⟩ (.int .i64 1)).setCell ⟨w.heap.size + 1, 7, none⟩ (.int .i64 since)).setCell ⟨w.heap.size + 1, 8, none⟩ (.bool false)).setCell ⟨w.heap.size + 1, 9, none⟩ (.int .i64 fallen)) = w2
  have r0 : w2.cell? ⟨w.heap.size, 0, none⟩ = some (.slice (some ⟨b, off, none⟩) n cap) := by rw [← hW]; simp [hcell, go_sem]
  have r1 : w2.cell? ⟨w.heap.size, 1, none⟩ = some (.int .i64 inc) := by rw [← hW]; simp [hcell, go_sem]
  have r2 : w2.cell? ⟨w.heap.size, 2, none⟩ = some (.int .i64 delay) := by rw [← hW]; simp [hcell, go_sem]
  have c0 : w2.cell? ⟨w.heap.size + 1, 0, none⟩ = some (.int .i64 l0) := by rw [← hW]; simp [hcell, go_sem]
  have c1 : w2.cell? ⟨w.heap.size + 1, 1, none⟩ = some (.int .i64 l1) := by rw [← hW]; simp [hcell, go_sem]
  have c2 : w2.cell? ⟨w.heap.size + 1, 2, none⟩ = some (.int .i64 m0) := by rw [← hW]; simp [hcell, go_sem]
  have c3 : w2.cell? ⟨w.heap.size + 1, 3, none⟩ = some (.int .i64 m1) := by rw [← hW]; simp [hcell, go_sem]
  have c4 : w2.cell? ⟨w.heap.size + 1, 4, none⟩ = some (.int .i64 p0) := by rw [← hW]; simp [hcell, go_sem]
  have c5 : w2.cell? ⟨w.heap.size + 1, 5, none⟩ = some (.int .i64 k) := by rw [← hW]; simp [hcell, go_sem]
  have c6 : w2.cell? ⟨w.heap.size + 1, 6, none⟩ = some (.int .i64 1) := by rw [← hW]; simp [hcell, go_sem]
  have c7 : w2.cell? ⟨w.heap.size + 1, 7, none⟩ = some (.int .i64 since) := by rw [← hW]; simp [hcell, go_sem]
  have c8 : w2.cell? ⟨w.heap.size + 1, 8, none⟩ = some (.bool false) := by rw [← hW]; simp [hcell, go_sem]
  have c9 : w2.cell? ⟨w.heap.size + 1, 9, none⟩ = some (.int .i64 fallen) := by rw [← hW]; simp [hcell, go_sem]
  have g0 : w2.frozen? ⟨w.heap.size + 1, 0, none⟩ = false := by rw [← hW]; simp [hfr, go_sem]
  have g1 : w2.frozen? ⟨w.heap.size + 1, 1, none⟩ = false := by rw [← hW]; simp [hfr, go_sem]
  have g2 : w2.frozen? ⟨w.heap.size + 1, 2, none⟩ = false := by rw [← hW]; simp [hfr, go_sem]
  have g3 : w2.frozen? ⟨w.heap.size + 1, 3, none⟩ = false := by rw [← hW]; simp [hfr, go_sem]
  have g4 : w2.frozen? ⟨w.heap.size + 1, 4, none⟩ = false := by rw [← hW]; simp [hfr, go_sem]
  have g5 : w2.frozen? ⟨w.heap.size + 1, 5, none⟩ = false := by rw [← hW]; simp [hfr, go_sem]
  have g6 : w2.frozen? ⟨w.heap.size + 1, 6, none⟩ = false := by rw [← hW]; simp [hfr, go_sem]
  have g7 : w2.frozen? ⟨w.heap.size + 1, 7, none⟩ = false := by rw [← hW]; simp [hfr, go_sem]
  have g8 : w2.frozen? ⟨w.heap.size + 1, 8, none⟩ = false := by rw [← hW]; simp [hfr, go_sem]
  have g9 : w2.frozen? ⟨w.heap.size + 1, 9, none⟩ = false := by rw [← hW]; simp [hfr, go_sem]
  have z0 : w2.cell? ⟨w.heap.size + 1 + 1, 0, none⟩ = some (.int .i64 0) := by rw [← hW]; simp [hcell, go_sem]
  have z1 : w2.cell? ⟨w.heap.size + 1 + 1, 1, none⟩ = some (.int .i64 0) := by rw [← hW]; simp [hcell, go_sem]
  have z2 : w2.cell? ⟨w.heap.size + 1 + 1, 2, none⟩ = some (.int .i64 0) := by rw [← hW]; simp [hcell, go_sem]
  have z3 : w2.cell? ⟨w.heap.size + 1 + 1, 3, none⟩ = some (.int .i64 0) := by rw [← hW]; simp [hcell, go_sem]
  have z4 : w2.cell? ⟨w.heap.size + 1 + 1, 4, none⟩ = some (.int .i64 0) := by rw [← hW]; simp [hcell, go_sem]
  have z5 : w2.cell? ⟨w.heap.size + 1 + 1, 5, none⟩ = some (.int .i64 0) := by rw [← hW]; simp [hcell, go_sem]
  have z6 : w2.cell? ⟨w.heap.size + 1 + 1, 6, none⟩ = some (.int .i64 0) := by rw [← hW]; simp [hcell, go_sem]
  have z7 : w2.cell? ⟨w.heap.size + 1 + 1, 7, none⟩ = some (.int .i64 0) := by rw [← hW]; simp [hcell, go_sem]
  have z8 : w2.cell? ⟨w.heap.size + 1 + 1, 8, none⟩ = some (.bool false) := by rw [← hW]; simp [hcell, go_sem]
  have z9 : w2.cell? ⟨w.heap.size + 1 + 1, 9, none⟩ = some (.int .i64 0) := by rw [← hW]; simp [hcell, go_sem]
  have f0 : w2.frozen? ⟨w.heap.size + 1 + 1, 0, none⟩ = false := by rw [← hW]; simp [hfr, go_sem]
  have f1 : w2.frozen? ⟨w.heap.size + 1 + 1, 1, none⟩ = false := by rw [← hW]; simp [hfr, go_sem]
  have f2 : w2.frozen? ⟨w.heap.size + 1 + 1, 2, none⟩ = false := by rw [← hW]; simp [hfr, go_sem]
  have f3 : w2.frozen? ⟨w.heap.size + 1 + 1, 3, none⟩ = false := by rw [← hW]; simp [hfr, go_sem]
  have f4 : w2.frozen? ⟨w.heap.size + 1 + 1, 4, none⟩ = false := by rw [← hW]; simp [hfr, go_sem]
  have f5 : w2.frozen? ⟨w.heap.size + 1 + 1, 5, none⟩ = false := by rw [← hW]; simp [hfr, go_sem]
  have f6 : w2.frozen? ⟨w.heap.size + 1 + 1, 6, none⟩ = false := by rw [← hW]; simp [hfr, go_sem]
  have f7 : w2.frozen? ⟨w.heap.size + 1 + 1, 7, none⟩ = false := by rw [← hW]; simp [hfr, go_sem]
  have f8 : w2.frozen? ⟨w.heap.size + 1 + 1, 8, none⟩ = false := by rw [← hW]; simp [hfr, go_sem]
  have f9 : w2.frozen? ⟨w.heap.size + 1 + 1, 9, none⟩ = false := by rw [← hW]; simp [hfr, go_sem]
  have hs' : w2.heap.size = w1.heap.size := by rw [← hW]; simp
  have y0 : w.heap.size < w2.heap.size := by omega
  have y1 : w.heap.size + 1 < w2.heap.size := by omega
  have y2 : w.heap.size + 1 + 1 < w2.heap.size := by omega
  have hbel2 : Below w.heap.size w w2 := by rw [← hW]; go_grown
  have QP : ∀ a : Nat, w2.cell? ⟨b, a, none⟩ = w.cell? ⟨b, a, none⟩ := fun a => (bcell hbel2).1 _ _ hbB
  have HQP := Lib.hid QP
  clear QP
  clear hW hcell hfr hbel hs hs' hz0 hz1 hz2 hb
  have Zz0 := Lib.hid z0
  have Zz1 := Lib.hid z1
  have Zz2 := Lib.hid z2
  have Zz3 := Lib.hid z3
  have Zz4 := Lib.hid z4
  have Zz5 := Lib.hid z5
  have Zz6 := Lib.hid z6
  have Zz7 := Lib.hid z7
  have Zz8 := Lib.hid z8
  have Zz9 := Lib.hid z9
  have Zf0 := Lib.hid f0
  have Zf1 := Lib.hid f1
  have Zf2 := Lib.hid f2
  have Zf3 := Lib.hid f3
  have Zf4 := Lib.hid f4
  have Zf5 := Lib.hid f5
  have Zf6 := Lib.hid f6
  have Zf7 := Lib.hid f7
  have Zf8 := Lib.hid f8
  have Zf9 := Lib.hid f9
  have Zg0 := Lib.hid g0
  have Zg2 := Lib.hid g2
  have Zg3 := Lib.hid g3
  have Zg4 := Lib.hid g4
  have Zg5 := Lib.hid g5
  have Zg6 := Lib.hid g6
  have Zg7 := Lib.hid g7
  have Zg8 := Lib.hid g8
  have Zg9 := Lib.hid g9
  clear z0 z1 z2 z3 z4 z5 z6 z7 z8 z9 f0 f1 f2 f3 f4 f5 f6 f7 f8 f9 g0 g2 g3 g4 g5 g6 g7 g8 g9
  have hmin : (if (100000000000 : Int) < IntKind.i64.wrap (IntKind.i64.wrap (l1 - usedZ false delay since now) + inc) then 100000000000 else IntKind.i64.wrap (IntKind.i64.wrap (l1 - usedZ false delay since now) + inc)) = (mostB (l1 - usedZ false delay since now + inc)) := by
    rw [IntWalk.i64_in (l1 - usedZ false delay since now) (by omega), IntWalk.i64_in _ (by omega)]; rfl
  clear H HC hP hn q0
  go_cut [8] (fun s8 wx => s8 = .int .i64 0 ∧ wx = (((w2.setCell ⟨w.heap.size + 1, 1, none⟩ (.int .i64 (mostB (l1 - usedZ false delay since now + inc)))).alloc (.cells #[.slice (some ⟨b, off, none⟩) n cap, .int .i64 inc, .int .i64 delay] 24)).alloc (.cells #[.int .i64 l0, .int .i64 l1, .int .i64 m0, .int .i64 m1, .int .i64 p0, .int .i64 k, .int .i64 1, .int .i64 since, .bool false, .int .i64 fallen] 27)).drew)
  case first =>
    go_region_with (go_at_call 17; refine (used_any (some ⟨b, off, none⟩) n cap inc delay l0 l1 m0 m1 p0 k 1 since fallen false now _ (by omega) (by omega) (by omega) (by omega) (by omega) (by omega)).mono ?_; rintro e w' ⟨rfl, rfl⟩)
    all_goals
      go_wp2_with fail
      go_meet
      exact ⟨rfl, rfl⟩
  case rest =>
    obtain ⟨rfl, hw3⟩ := hcut
    obtain ⟨w3, hw4⟩ : ∃ w3, w3 = (((w2.setCell ⟨w.heap.size + 1, 1, none⟩ (.int .i64 (mostB (l1 - usedZ false delay since now + inc)))).alloc (.cells #[.slice (some ⟨b, off, none⟩) n cap, .int .i64 inc, .int .i64 delay] 24)).alloc (.cells #[.int .i64 l0, .int .i64 l1, .int .i64 m0, .int .i64 m1, .int .i64 p0, .int .i64 k, .int .i64 1, .int .i64 since, .bool false, .int .i64 fallen] 27)).drew := ⟨_, rfl⟩
    rw [← hw4] at hw3
    subst hw3
    have z0 := Zz0.out
    have z1 := Zz1.out
    have z2 := Zz2.out
    have z3 := Zz3.out
    have z4 := Zz4.out
    have z5 := Zz5.out
    have z6 := Zz6.out
    have z7 := Zz7.out
    have z8 := Zz8.out
    have z9 := Zz9.out
    have f0 := Zf0.out
    have f1 := Zf1.out
    have f2 := Zf2.out
    have f3 := Zf3.out
    have f4 := Zf4.out
    have f5 := Zf5.out
    have f6 := Zf6.out
    have f7 := Zf7.out
    have f8 := Zf8.out
    have f9 := Zf9.out
    have g0 := Zg0.out
    have g2 := Zg2.out
    have g3 := Zg3.out
    have g4 := Zg4.out
    have g5 := Zg5.out
    have g6 := Zg6.out
    have g7 := Zg7.out
    have g8 := Zg8.out
    have g9 := Zg9.out
    have ar0 : wc.cell? ⟨w.heap.size, 0, none⟩ = some (.slice (some ⟨b, off, none⟩) n cap) := by rw [hw4]; simp [go_sem, r0, y0, y1]
    have ar1 : wc.cell? ⟨w.heap.size, 1, none⟩ = some (.int .i64 inc) := by rw [hw4]; simp [go_sem, r1, y0, y1]
    have ar2 : wc.cell? ⟨w.heap.size, 2, none⟩ = some (.int .i64 delay) := by rw [hw4]; simp [go_sem, r2, y0, y1]
    have ac0 : wc.cell? ⟨w.heap.size + 1, 0, none⟩ = some (.int .i64 l0) := by rw [hw4]; simp [go_sem, c0, y0, y1]
    have ac1 : wc.cell? ⟨w.heap.size + 1, 1, none⟩ = some (.int .i64 (mostB (l1 - usedZ false delay since now + inc))) := by rw [hw4]; simp [go_sem, c1, y0, y1]
    have ac2 : wc.cell? ⟨w.heap.size + 1, 2, none⟩ = some (.int .i64 m0) := by rw [hw4]; simp [go_sem, c2, y0, y1]
    have ac3 : wc.cell? ⟨w.heap.size + 1, 3, none⟩ = some (.int .i64 m1) := by rw [hw4]; simp [go_sem, c3, y0, y1]
    have ac4 : wc.cell? ⟨w.heap.size + 1, 4, none⟩ = some (.int .i64 p0) := by rw [hw4]; simp [go_sem, c4, y0, y1]
    have ac5 : wc.cell? ⟨w.heap.size + 1, 5, none⟩ = some (.int .i64 k) := by rw [hw4]; simp [go_sem, c5, y0, y1]
    have ac6 : wc.cell? ⟨w.heap.size + 1, 6, none⟩ = some (.int .i64 1) := by rw [hw4]; simp [go_sem, c6, y0, y1]
    have ac7 : wc.cell? ⟨w.heap.size + 1, 7, none⟩ = some (.int .i64 since) := by rw [hw4]; simp [go_sem, c7, y0, y1]
    have ac8 : wc.cell? ⟨w.heap.size + 1, 8, none⟩ = some (.bool false) := by rw [hw4]; simp [go_sem, c8, y0, y1]
    have ac9 : wc.cell? ⟨w.heap.size + 1, 9, none⟩ = some (.int .i64 fallen) := by rw [hw4]; simp [go_sem, c9, y0, y1]
    have ag0 : wc.frozen? ⟨w.heap.size + 1, 0, none⟩ = false := by rw [hw4]; simp [go_sem, g0, y0, y1]
    have ag1 : wc.frozen? ⟨w.heap.size + 1, 1, none⟩ = false := by rw [hw4]; simp [go_sem, g1, y0, y1]
    have ag2 : wc.frozen? ⟨w.heap.size + 1, 2, none⟩ = false := by rw [hw4]; simp [go_sem, g2, y0, y1]
    have ag3 : wc.frozen? ⟨w.heap.size + 1, 3, none⟩ = false := by rw [hw4]; simp [go_sem, g3, y0, y1]
    have ag4 : wc.frozen? ⟨w.heap.size + 1, 4, none⟩ = false := by rw [hw4]; simp [go_sem, g4, y0, y1]
    have ag5 : wc.frozen? ⟨w.heap.size + 1, 5, none⟩ = false := by rw [hw4]; simp [go_sem, g5, y0, y1]
    have ag6 : wc.frozen? ⟨w.heap.size + 1, 6, none⟩ = false := by rw [hw4]; simp [go_sem, g6, y0, y1]
    have ag7 : wc.frozen? ⟨w.heap.size + 1, 7, none⟩ = false := by rw [hw4]; simp [go_sem, g7, y0, y1]
    have ag8 : wc.frozen? ⟨w.heap.size + 1, 8, none⟩ = false := by rw [hw4]; simp [go_sem, g8, y0, y1]
    have ag9 : wc.frozen? ⟨w.heap.size + 1, 9, none⟩ = false := by rw [hw4]; simp [go_sem, g9, y0, y1]
    have az0 : wc.cell? ⟨w.heap.size + 1 + 1, 0, none⟩ = some (.int .i64 0) := by rw [hw4]; simp [go_sem, z0, y1, y2]
    have az1 : wc.cell? ⟨w.heap.size + 1 + 1, 1, none⟩ = some (.int .i64 0) := by rw [hw4]; simp [go_sem, z1, y1, y2]
    have az2 : wc.cell? ⟨w.heap.size + 1 + 1, 2, none⟩ = some (.int .i64 0) := by rw [hw4]; simp [go_sem, z2, y1, y2]
    have az3 : wc.cell? ⟨w.heap.size + 1 + 1, 3, none⟩ = some (.int .i64 0) := by rw [hw4]; simp [go_sem, z3, y1, y2]
    have az4 : wc.cell? ⟨w.heap.size + 1 + 1, 4, none⟩ = some (.int .i64 0) := by rw [hw4]; simp [go_sem, z4, y1, y2]
    have az5 : wc.cell? ⟨w.heap.size + 1 + 1, 5, none⟩ = some (.int .i64 0) := by rw [hw4]; simp [go_sem, z5, y1, y2]
    have az6 : wc.cell? ⟨w.heap.size + 1 + 1, 6, none⟩ = some (.int .i64 0) := by rw [hw4]; simp [go_sem, z6, y1, y2]
    have az7 : wc.cell? ⟨w.heap.size + 1 + 1, 7, none⟩ = some (.int .i64 0) := by rw [hw4]; simp [go_sem, z7, y1, y2]
    have az8 : wc.cell? ⟨w.heap.size + 1 + 1, 8, none⟩ = some (.bool false) := by rw [hw4]; simp [go_sem, z8, y1, y2]
    have az9 : wc.cell? ⟨w.heap.size + 1 + 1, 9, none⟩ = some (.int .i64 0) := by rw [hw4]; simp [go_sem, z9, y1, y2]
    have af0 : wc.frozen? ⟨w.heap.size + 1 + 1, 0, none⟩ = false := by rw [hw4]; simp [go_sem, f0, y1, y2]
    have af1 : wc.frozen? ⟨w.heap.size + 1 + 1, 1, none⟩ = false := by rw [hw4]; simp [go_sem, f1, y1, y2]
    have af2 : wc.frozen? ⟨w.heap.size + 1 + 1, 2, none⟩ = false := by rw [hw4]; simp [go_sem, f2, y1, y2]
    have af3 : wc.frozen? ⟨w.heap.size + 1 + 1, 3, none⟩ = false := by rw [hw4]; simp [go_sem, f3, y1, y2]
    have af4 : wc.frozen? ⟨w.heap.size + 1 + 1, 4, none⟩ = false := by rw [hw4]; simp [go_sem, f4, y1, y2]
    have af5 : wc.frozen? ⟨w.heap.size + 1 + 1, 5, none⟩ = false := by rw [hw4]; simp [go_sem, f5, y1, y2]
    have af6 : wc.frozen? ⟨w.heap.size + 1 + 1, 6, none⟩ = false := by rw [hw4]; simp [go_sem, f6, y1, y2]
    have af7 : wc.frozen? ⟨w.heap.size + 1 + 1, 7, none⟩ = false := by rw [hw4]; simp [go_sem, f7, y1, y2]
    have af8 : wc.frozen? ⟨w.heap.size + 1 + 1, 8, none⟩ = false := by rw [hw4]; simp [go_sem, f8, y1, y2]
    have af9 : wc.frozen? ⟨w.heap.size + 1 + 1, 9, none⟩ = false := by rw [hw4]; simp [go_sem, f9, y1, y2]
    have abel : Below w.heap.size w wc := by rw [hw4]; go_grown
    have asz : w.heap.size + 1 + 1 + 1 ≤ wc.heap.size := by rw [hw4]; simp; omega
    have ay0 : w.heap.size < wc.heap.size := by omega
    have ay1 : w.heap.size + 1 < wc.heap.size := by omega
    have ay2 : w.heap.size + 1 + 1 < wc.heap.size := by omega
    have aq0 : wc.cell? ⟨b, off + k * 2, none⟩ = some (.int .i64 (ps.getD k (0, 0)).1) := ((bcell abel).1 _ _ hbB).trans (Hpc.out k hkn).1
    have abb : b < wc.heap.size := by omega
    clear hw4
    clear r0 r1 r2 c0 c1 c2 c3 c4 c5 c6 c7 c8 c9 g0 g1 g2 g3 g4 g5 g6 g7 g8 g9 z0 z1 z2 z3 z4 z5 z6 z7 z8 z9 f0 f1 f2 f3 f4 f5 f6 f7 f8 f9 y0 y1 y2 hbel2
    have hmade : (if (400 : Int) < m1 + 1 then 400 else m1 + 1) = (madeB (m1 + 1)) := rfl
    have hmaden : 0 ≤ (madeB (m1 + 1)) ∧ (madeB (m1 + 1)) ≤ 400 := by unfold madeB; split <;> omega
    have hkk : (0 : Int) ≤ (k : Int) := by omega
    have hkn' : (k : Int) < (n : Int) := by omega
    clear hmin
    have hLb : 0 ≤ (mostB (l1 - usedZ false delay since now + inc)) ∧ (mostB (l1 - usedZ false delay since now + inc)) ≤ 100000000000 := by unfold mostB; split <;> omega
    generalize HM : (madeB (m1 + 1)) = M at *
    generalize HL : (mostB (l1 - usedZ false delay since now + inc)) = L at *
    generalize HX : (ps.getD k (0, 0)).1 = X at *
    go_upto_region 7 with (fail)
    generalize hW5 : wc.setCell ⟨w.heap.size + 1, 3, none⟩ (.int .i64 M) = w5
    have br0 : w5.cell? ⟨w.heap.size, 0, none⟩ = some (.slice (some ⟨b, off, none⟩) n cap) := by rw [← hW5]; simp [go_sem, ar0, ay0, ay1]
    have br1 : w5.cell? ⟨w.heap.size, 1, none⟩ = some (.int .i64 inc) := by rw [← hW5]; simp [go_sem, ar1, ay0, ay1]
    have br2 : w5.cell? ⟨w.heap.size, 2, none⟩ = some (.int .i64 delay) := by rw [← hW5]; simp [go_sem, ar2, ay0, ay1]
    have bc0 : w5.cell? ⟨w.heap.size + 1, 0, none⟩ = some (.int .i64 l0) := by rw [← hW5]; simp [go_sem, ac0, ay0, ay1]
    have bc1 : w5.cell? ⟨w.heap.size + 1, 1, none⟩ = some (.int .i64 L) := by rw [← hW5]; simp [go_sem, ac1, ay0, ay1]
    have bc2 : w5.cell? ⟨w.heap.size + 1, 2, none⟩ = some (.int .i64 m0) := by rw [← hW5]; simp [go_sem, ac2, ay0, ay1]
    have bc3 : w5.cell? ⟨w.heap.size + 1, 3, none⟩ = some (.int .i64 M) := by rw [← hW5]; simp [go_sem, ac3, ay0, ay1]
    have bc4 : w5.cell? ⟨w.heap.size + 1, 4, none⟩ = some (.int .i64 p0) := by rw [← hW5]; simp [go_sem, ac4, ay0, ay1]
    have bc5 : w5.cell? ⟨w.heap.size + 1, 5, none⟩ = some (.int .i64 k) := by rw [← hW5]; simp [go_sem, ac5, ay0, ay1]
    have bc6 : w5.cell? ⟨w.heap.size + 1, 6, none⟩ = some (.int .i64 1) := by rw [← hW5]; simp [go_sem, ac6, ay0, ay1]
    have bc7 : w5.cell? ⟨w.heap.size + 1, 7, none⟩ = some (.int .i64 since) := by rw [← hW5]; simp [go_sem, ac7, ay0, ay1]
    have bc8 : w5.cell? ⟨w.heap.size + 1, 8, none⟩ = some (.bool false) := by rw [← hW5]; simp [go_sem, ac8, ay0, ay1]
    have bc9 : w5.cell? ⟨w.heap.size + 1, 9, none⟩ = some (.int .i64 fallen) := by rw [← hW5]; simp [go_sem, ac9, ay0, ay1]
    have bg0 : w5.frozen? ⟨w.heap.size + 1, 0, none⟩ = false := by rw [← hW5]; simp [go_sem, ag0, ay0, ay1]
    have bg1 : w5.frozen? ⟨w.heap.size + 1, 1, none⟩ = false := by rw [← hW5]; simp [go_sem, ag1, ay0, ay1]
    have bg2 : w5.frozen? ⟨w.heap.size + 1, 2, none⟩ = false := by rw [← hW5]; simp [go_sem, ag2, ay0, ay1]
    have bg3 : w5.frozen? ⟨w.heap.size + 1, 3, none⟩ = false := by rw [← hW5]; simp [go_sem, ag3, ay0, ay1]
    have bg4 : w5.frozen? ⟨w.heap.size + 1, 4, none⟩ = false := by rw [← hW5]; simp [go_sem, ag4, ay0, ay1]
    have bg5 : w5.frozen? ⟨w.heap.size + 1, 5, none⟩ = false := by rw [← hW5]; simp [go_sem, ag5, ay0, ay1]
    have bg6 : w5.frozen? ⟨w.heap.size + 1, 6, none⟩ = false := by rw [← hW5]; simp [go_sem, ag6, ay0, ay1]
    have bg7 : w5.frozen? ⟨w.heap.size + 1, 7, none⟩ = false := by rw [← hW5]; simp [go_sem, ag7, ay0, ay1]
    have bg8 : w5.frozen? ⟨w.heap.size + 1, 8, none⟩ = false := by rw [← hW5]; simp [go_sem, ag8, ay0, ay1]
    have bg9 : w5.frozen? ⟨w.heap.size + 1, 9, none⟩ = false := by rw [← hW5]; simp [go_sem, ag9, ay0, ay1]
    have bz0 : w5.cell? ⟨w.heap.size + 1 + 1, 0, none⟩ = some (.int .i64 0) := by rw [← hW5]; simp [go_sem, az0, ay1, ay2]
    have bz1 : w5.cell? ⟨w.heap.size + 1 + 1, 1, none⟩ = some (.int .i64 0) := by rw [← hW5]; simp [go_sem, az1, ay1, ay2]
    have bz2 : w5.cell? ⟨w.heap.size + 1 + 1, 2, none⟩ = some (.int .i64 0) := by rw [← hW5]; simp [go_sem, az2, ay1, ay2]
    have bz3 : w5.cell? ⟨w.heap.size + 1 + 1, 3, none⟩ = some (.int .i64 0) := by rw [← hW5]; simp [go_sem, az3, ay1, ay2]
    have bz4 : w5.cell? ⟨w.heap.size + 1 + 1, 4, none⟩ = some (.int .i64 0) := by rw [← hW5]; simp [go_sem, az4, ay1, ay2]
    have bz5 : w5.cell? ⟨w.heap.size + 1 + 1, 5, none⟩ = some (.int .i64 0) := by rw [← hW5]; simp [go_sem, az5, ay1, ay2]
    have bz6 : w5.cell? ⟨w.heap.size + 1 + 1, 6, none⟩ = some (.int .i64 0) := by rw [← hW5]; simp [go_sem, az6, ay1, ay2]
    have bz7 : w5.cell? ⟨w.heap.size + 1 + 1, 7, none⟩ = some (.int .i64 0) := by rw [← hW5]; simp [go_sem, az7, ay1, ay2]
    have bz8 : w5.cell? ⟨w.heap.size + 1 + 1, 8, none⟩ = some (.bool false) := by rw [← hW5]; simp [go_sem, az8, ay1, ay2]
    have bz9 : w5.cell? ⟨w.heap.size + 1 + 1, 9, none⟩ = some (.int .i64 0) := by rw [← hW5]; simp [go_sem, az9, ay1, ay2]
    have bf0 : w5.frozen? ⟨w.heap.size + 1 + 1, 0, none⟩ = false := by rw [← hW5]; simp [go_sem, af0, ay1, ay2]
    have bf1 : w5.frozen? ⟨w.heap.size + 1 + 1, 1, none⟩ = false := by rw [← hW5]; simp [go_sem, af1, ay1, ay2]
    have bf2 : w5.frozen? ⟨w.heap.size + 1 + 1, 2, none⟩ = false := by rw [← hW5]; simp [go_sem, af2, ay1, ay2]
    have bf3 : w5.frozen? ⟨w.heap.size + 1 + 1, 3, none⟩ = false := by rw [← hW5]; simp [go_sem, af3, ay1, ay2]
    have bf4 : w5.frozen? ⟨w.heap.size + 1 + 1, 4, none⟩ = false := by rw [← hW5]; simp [go_sem, af4, ay1, ay2]
    have bf5 : w5.frozen? ⟨w.heap.size + 1 + 1, 5, none⟩ = false := by rw [← hW5]; simp [go_sem, af5, ay1, ay2]
    have bf6 : w5.frozen? ⟨w.heap.size + 1 + 1, 6, none⟩ = false := by rw [← hW5]; simp [go_sem, af6, ay1, ay2]
    have bf7 : w5.frozen? ⟨w.heap.size + 1 + 1, 7, none⟩ = false := by rw [← hW5]; simp [go_sem, af7, ay1, ay2]
    have bf8 : w5.frozen? ⟨w.heap.size + 1 + 1, 8, none⟩ = false := by rw [← hW5]; simp [go_sem, af8, ay1, ay2]
    have bf9 : w5.frozen? ⟨w.heap.size + 1 + 1, 9, none⟩ = false := by rw [← hW5]; simp [go_sem, af9, ay1, ay2]
    have bbel : Below w.heap.size w w5 := by rw [← hW5]; go_grown
    have bsz : w.heap.size + 1 + 1 + 1 ≤ w5.heap.size := by rw [← hW5]; simp; omega
    have by0 : w.heap.size < w5.heap.size := by omega
    have by1 : w.heap.size + 1 < w5.heap.size := by omega
    have by2 : w.heap.size + 1 + 1 < w5.heap.size := by omega
    have bq0 : w5.cell? ⟨b, off + k * 2, none⟩ = some (.int .i64 X) := HX ▸ ((bcell bbel).1 _ _ hbB).trans (Hpc.out k hkn).1
    have bbb : b < w5.heap.size := by omega
    clear hW5
    clear ar0 ar1 ar2 ac0 ac1 ac2 ac3 ac4 ac5 ac6 ac7 ac8 ac9 ag0 ag1 ag2 ag3 ag4 ag5 ag6 ag7 ag8 ag9 az0 az1 az2 az3 az4 az5 az6 az7 az8 az9 af0 af1 af2 af3 af4 af5 af6 af7 af8 af9 ay0 ay1 ay2 aq0 abb asz abel
    go_quiet (fail)
    generalize hW6 : w5.drewN nq = w6
    have dr0 : w6.cell? ⟨w.heap.size, 0, none⟩ = some (.slice (some ⟨b, off, none⟩) n cap) := by rw [← hW6]; simp [go_sem, br0, by0, by1]
    have dr1 : w6.cell? ⟨w.heap.size, 1, none⟩ = some (.int .i64 inc) := by rw [← hW6]; simp [go_sem, br1, by0, by1]
    have dr2 : w6.cell? ⟨w.heap.size, 2, none⟩ = some (.int .i64 delay) := by rw [← hW6]; simp [go_sem, br2, by0, by1]
    have dc0 : w6.cell? ⟨w.heap.size + 1, 0, none⟩ = some (.int .i64 l0) := by rw [← hW6]; simp [go_sem, bc0, by0, by1]
    have dc1 : w6.cell? ⟨w.heap.size + 1, 1, none⟩ = some (.int .i64 L) := by rw [← hW6]; simp [go_sem, bc1, by0, by1]
    have dc2 : w6.cell? ⟨w.heap.size + 1, 2, none⟩ = some (.int .i64 m0) := by rw [← hW6]; simp [go_sem, bc2, by0, by1]
    have dc3 : w6.cell? ⟨w.heap.size + 1, 3, none⟩ = some (.int .i64 M) := by rw [← hW6]; simp [go_sem, bc3, by0, by1]
    have dc4 : w6.cell? ⟨w.heap.size + 1, 4, none⟩ = some (.int .i64 p0) := by rw [← hW6]; simp [go_sem, bc4, by0, by1]
    have dc5 : w6.cell? ⟨w.heap.size + 1, 5, none⟩ = some (.int .i64 k) := by rw [← hW6]; simp [go_sem, bc5, by0, by1]
    have dc6 : w6.cell? ⟨w.heap.size + 1, 6, none⟩ = some (.int .i64 1) := by rw [← hW6]; simp [go_sem, bc6, by0, by1]
    have dc7 : w6.cell? ⟨w.heap.size + 1, 7, none⟩ = some (.int .i64 since) := by rw [← hW6]; simp [go_sem, bc7, by0, by1]
    have dc8 : w6.cell? ⟨w.heap.size + 1, 8, none⟩ = some (.bool false) := by rw [← hW6]; simp [go_sem, bc8, by0, by1]
    have dc9 : w6.cell? ⟨w.heap.size + 1, 9, none⟩ = some (.int .i64 fallen) := by rw [← hW6]; simp [go_sem, bc9, by0, by1]
    have dg0 : w6.frozen? ⟨w.heap.size + 1, 0, none⟩ = false := by rw [← hW6]; simp [go_sem, bg0, by0, by1]
    have dg1 : w6.frozen? ⟨w.heap.size + 1, 1, none⟩ = false := by rw [← hW6]; simp [go_sem, bg1, by0, by1]
    have dg2 : w6.frozen? ⟨w.heap.size + 1, 2, none⟩ = false := by rw [← hW6]; simp [go_sem, bg2, by0, by1]
    have dg3 : w6.frozen? ⟨w.heap.size + 1, 3, none⟩ = false := by rw [← hW6]; simp [go_sem, bg3, by0, by1]
    have dg4 : w6.frozen? ⟨w.heap.size + 1, 4, none⟩ = false := by rw [← hW6]; simp [go_sem, bg4, by0, by1]
    have dg5 : w6.frozen? ⟨w.heap.size + 1, 5, none⟩ = false := by rw [← hW6]; simp [go_sem, bg5, by0, by1]
    have dg6 : w6.frozen? ⟨w.heap.size + 1, 6, none⟩ = false := by rw [← hW6]; simp [go_sem, bg6, by0, by1]
    have dg7 : w6.frozen? ⟨w.heap.size + 1, 7, none⟩ = false := by rw [← hW6]; simp [go_sem, bg7, by0, by1]
    have dg8 : w6.frozen? ⟨w.heap.size + 1, 8, none⟩ = false := by rw [← hW6]; simp [go_sem, bg8, by0, by1]
    have dg9 : w6.frozen? ⟨w.heap.size + 1, 9, none⟩ = false := by rw [← hW6]; simp [go_sem, bg9, by0, by1]
    have dz0 : w6.cell? ⟨w.heap.size + 1 + 1, 0, none⟩ = some (.int .i64 0) := by rw [← hW6]; simp [go_sem, bz0, by1, by2]
    have dz1 : w6.cell? ⟨w.heap.size + 1 + 1, 1, none⟩ = some (.int .i64 0) := by rw [← hW6]; simp [go_sem, bz1, by1, by2]
    have dz2 : w6.cell? ⟨w.heap.size + 1 + 1, 2, none⟩ = some (.int .i64 0) := by rw [← hW6]; simp [go_sem, bz2, by1, by2]
    have dz3 : w6.cell? ⟨w.heap.size + 1 + 1, 3, none⟩ = some (.int .i64 0) := by rw [← hW6]; simp [go_sem, bz3, by1, by2]
    have dz4 : w6.cell? ⟨w.heap.size + 1 + 1, 4, none⟩ = some (.int .i64 0) := by rw [← hW6]; simp [go_sem, bz4, by1, by2]
    have dz5 : w6.cell? ⟨w.heap.size + 1 + 1, 5, none⟩ = some (.int .i64 0) := by rw [← hW6]; simp [go_sem, bz5, by1, by2]
    have dz6 : w6.cell? ⟨w.heap.size + 1 + 1, 6, none⟩ = some (.int .i64 0) := by rw [← hW6]; simp [go_sem, bz6, by1, by2]
    have dz7 : w6.cell? ⟨w.heap.size + 1 + 1, 7, none⟩ = some (.int .i64 0) := by rw [← hW6]; simp [go_sem, bz7, by1, by2]
    have dz8 : w6.cell? ⟨w.heap.size + 1 + 1, 8, none⟩ = some (.bool false) := by rw [← hW6]; simp [go_sem, bz8, by1, by2]
    have dz9 : w6.cell? ⟨w.heap.size + 1 + 1, 9, none⟩ = some (.int .i64 0) := by rw [← hW6]; simp [go_sem, bz9, by1, by2]
    have df0 : w6.frozen? ⟨w.heap.size + 1 + 1, 0, none⟩ = false := by rw [← hW6]; simp [go_sem, bf0, by1, by2]
    have df1 : w6.frozen? ⟨w.heap.size + 1 + 1, 1, none⟩ = false := by rw [← hW6]; simp [go_sem, bf1, by1, by2]
    have df2 : w6.frozen? ⟨w.heap.size + 1 + 1, 2, none⟩ = false := by rw [← hW6]; simp [go_sem, bf2, by1, by2]
    have df3 : w6.frozen? ⟨w.heap.size + 1 + 1, 3, none⟩ = false := by rw [← hW6]; simp [go_sem, bf3, by1, by2]
    have df4 : w6.frozen? ⟨w.heap.size + 1 + 1, 4, none⟩ = false := by rw [← hW6]; simp [go_sem, bf4, by1, by2]
    have df5 : w6.frozen? ⟨w.heap.size + 1 + 1, 5, none⟩ = false := by rw [← hW6]; simp [go_sem, bf5, by1, by2]
    have df6 : w6.frozen? ⟨w.heap.size + 1 + 1, 6, none⟩ = false := by rw [← hW6]; simp [go_sem, bf6, by1, by2]
    have df7 : w6.frozen? ⟨w.heap.size + 1 + 1, 7, none⟩ = false := by rw [← hW6]; simp [go_sem, bf7, by1, by2]
    have df8 : w6.frozen? ⟨w.heap.size + 1 + 1, 8, none⟩ = false := by rw [← hW6]; simp [go_sem, bf8, by1, by2]
    have df9 : w6.frozen? ⟨w.heap.size + 1 + 1, 9, none⟩ = false := by rw [← hW6]; simp [go_sem, bf9, by1, by2]
    have dbel : Below w.heap.size w w6 := by rw [← hW6]; exact ⟨bbel.os, bbel.tape, bbel.output, bbel.size, bbel.block⟩
    have dsz : w.heap.size + 1 + 1 + 1 ≤ w6.heap.size := by rw [← hW6]; simp; omega
    have dy0 : w.heap.size < w6.heap.size := by omega
    have dy1 : w.heap.size + 1 < w6.heap.size := by omega
    have dy2 : w.heap.size + 1 + 1 < w6.heap.size := by omega
    have dq0 : w6.cell? ⟨b, off + k * 2, none⟩ = some (.int .i64 X) := HX ▸ ((bcell dbel).1 _ _ hbB).trans (Hpc.out k hkn).1
    have dbb : b < w6.heap.size := by omega
    clear hW6
    clear br0 br1 br2 bc0 bc1 bc2 bc3 bc4 bc5 bc6 bc7 bc8 bc9 bg0 bg1 bg2 bg3 bg4 bg5 bg6 bg7 bg8 bg9 bz0 bz1 bz2 bz3 bz4 bz5 bz6 bz7 bz8 bz9 bf0 bf1 bf2 bf3 bf4 bf5 bf6 bf7 bf8 bf9 by0 by1 by2 bq0 bbb bsz bbel
    have KM := Lib.hid HM
    have KL := Lib.hid HL
    have KX := Lib.hid HX
    have Khm := Lib.hid hmade
    clear HM HL HX hmade
    have hXs : X ≤ 0 ∨ (0 < X ∧ M < X) ∨ (0 < X ∧ X ≤ M) := by omega
    rcases hXs with h1 | ⟨h1, h2⟩ | ⟨h1, h2⟩
    · have HC : Hid (¬ (0 < X ∧ X ≤ M)) := Lib.hid (by omega)
      go_upto_region 13 with (fail)
      generalize hW8 : (w6.setCell ⟨w.heap.size + 1, 6, none⟩ (.int .i64 0)).setCell ⟨w.heap.size + 1, 7, none⟩ (.int .i64 now) = w8
      have xc0 : w8.cell? ⟨w.heap.size + 1, 0, none⟩ = some (.int .i64 l0) := by rw [← hW8]; simp [go_sem, dc0]
      have xc1 : w8.cell? ⟨w.heap.size + 1, 1, none⟩ = some (.int .i64 L) := by rw [← hW8]; simp [go_sem, dc1]
      have xc2 : w8.cell? ⟨w.heap.size + 1, 2, none⟩ = some (.int .i64 m0) := by rw [← hW8]; simp [go_sem, dc2]
      have xc3 : w8.cell? ⟨w.heap.size + 1, 3, none⟩ = some (.int .i64 M) := by rw [← hW8]; simp [go_sem, dc3]
      have xc4 : w8.cell? ⟨w.heap.size + 1, 4, none⟩ = some (.int .i64 p0) := by rw [← hW8]; simp [go_sem, dc4]
      have xc5 : w8.cell? ⟨w.heap.size + 1, 5, none⟩ = some (.int .i64 k) := by rw [← hW8]; simp [go_sem, dc5]
      have xc6 : w8.cell? ⟨w.heap.size + 1, 6, none⟩ = some (.int .i64 0) := by rw [← hW8]; simp [go_sem, dc6]
      have xc7 : w8.cell? ⟨w.heap.size + 1, 7, none⟩ = some (.int .i64 now) := by rw [← hW8]; simp [go_sem, dc7]
      have xc8 : w8.cell? ⟨w.heap.size + 1, 8, none⟩ = some (.bool false) := by rw [← hW8]; simp [go_sem, dc8]
      have xc9 : w8.cell? ⟨w.heap.size + 1, 9, none⟩ = some (.int .i64 fallen) := by rw [← hW8]; simp [go_sem, dc9]
      have xz0 : w8.cell? ⟨w.heap.size + 1 + 1, 0, none⟩ = some (.int .i64 0) := by rw [← hW8]; simp [go_sem, dz0]
      have xz1 : w8.cell? ⟨w.heap.size + 1 + 1, 1, none⟩ = some (.int .i64 0) := by rw [← hW8]; simp [go_sem, dz1]
      have xz2 : w8.cell? ⟨w.heap.size + 1 + 1, 2, none⟩ = some (.int .i64 0) := by rw [← hW8]; simp [go_sem, dz2]
      have xz3 : w8.cell? ⟨w.heap.size + 1 + 1, 3, none⟩ = some (.int .i64 0) := by rw [← hW8]; simp [go_sem, dz3]
      have xz4 : w8.cell? ⟨w.heap.size + 1 + 1, 4, none⟩ = some (.int .i64 0) := by rw [← hW8]; simp [go_sem, dz4]
      have xz5 : w8.cell? ⟨w.heap.size + 1 + 1, 5, none⟩ = some (.int .i64 0) := by rw [← hW8]; simp [go_sem, dz5]
      have xz6 : w8.cell? ⟨w.heap.size + 1 + 1, 6, none⟩ = some (.int .i64 0) := by rw [← hW8]; simp [go_sem, dz6]
      have xz7 : w8.cell? ⟨w.heap.size + 1 + 1, 7, none⟩ = some (.int .i64 0) := by rw [← hW8]; simp [go_sem, dz7]
      have xz8 : w8.cell? ⟨w.heap.size + 1 + 1, 8, none⟩ = some (.bool false) := by rw [← hW8]; simp [go_sem, dz8]
      have xz9 : w8.cell? ⟨w.heap.size + 1 + 1, 9, none⟩ = some (.int .i64 0) := by rw [← hW8]; simp [go_sem, dz9]
      have xf0 : w8.frozen? ⟨w.heap.size + 1 + 1, 0, none⟩ = false := by rw [← hW8]; simp [go_sem, df0]
      have xf1 : w8.frozen? ⟨w.heap.size + 1 + 1, 1, none⟩ = false := by rw [← hW8]; simp [go_sem, df1]
      have xf2 : w8.frozen? ⟨w.heap.size + 1 + 1, 2, none⟩ = false := by rw [← hW8]; simp [go_sem, df2]
      have xf3 : w8.frozen? ⟨w.heap.size + 1 + 1, 3, none⟩ = false := by rw [← hW8]; simp [go_sem, df3]
      have xf4 : w8.frozen? ⟨w.heap.size + 1 + 1, 4, none⟩ = false := by rw [← hW8]; simp [go_sem, df4]
      have xf5 : w8.frozen? ⟨w.heap.size + 1 + 1, 5, none⟩ = false := by rw [← hW8]; simp [go_sem, df5]
      have xf6 : w8.frozen? ⟨w.heap.size + 1 + 1, 6, none⟩ = false := by rw [← hW8]; simp [go_sem, df6]
      have xf7 : w8.frozen? ⟨w.heap.size + 1 + 1, 7, none⟩ = false := by rw [← hW8]; simp [go_sem, df7]
      have xf8 : w8.frozen? ⟨w.heap.size + 1 + 1, 8, none⟩ = false := by rw [← hW8]; simp [go_sem, df8]
      have xf9 : w8.frozen? ⟨w.heap.size + 1 + 1, 9, none⟩ = false := by rw [← hW8]; simp [go_sem, df9]
      have xbel : Below w.heap.size w w8 := by rw [← hW8]; go_grown
      clear hW8
      clear dr0 dr1 dr2 dc0 dc1 dc2 dc3 dc4 dc5 dc6 dc7 dc8 dc9 dg0 dg1 dg2 dg3 dg4 dg5 dg6 dg7 dg8 dg9 dz0 dz1 dz2 dz3 dz4 dz5 dz6 dz7 dz8 dz9 df0 df1 df2 df3 df4 df5 df6 df7 df8 df9 dy0 dy1 dy2 dq0 dbb dsz dbel
      have xR := range10 xc0 xc1 xc2 xc3 xc4 xc5 xc6 xc7 xc8 xc9
      have xT := there10 xz0 xz1 xz2 xz3 xz4 xz5 xz6 xz7 xz8 xz9 xf0 xf1 xf2 xf3 xf4 xf5 xf6 xf7 xf8 xf9
      clear xc0 xz0 xf0 xc1 xz1 xf1 xc2 xz2 xf2 xc3 xz3 xf3 xc4 xz4 xf4 xc5 xz5 xf5 xc6 xz6 xf6 xc7 xz7 xf7 xc8 xz8 xf8 xc9 xz9 xf9
      have hi27 : (Try.prog.info? 27).map (·.size) = some 10 := by kernel_rfl
      refine wp_region_lit ?_
      refine wpList_load_mid (by rfl) 27 (.tmp 4) (by rfl) (w.heap.size + 1) 0 (by rfl) _ _ xR Try.underlying27 (by rfl) hi27 ?_
      refine wpList_store_mid (by rfl) 27 (.tmp 6) (.tmp 101) (by rfl) (w.heap.size + 1 + 1) 0 #[.int .i64 l0, .int .i64 L, .int .i64 m0, .int .i64 M, .int .i64 p0, .int .i64 k, .int .i64 0, .int .i64 now, .bool false, .int .i64 fallen] (by rfl) (by rfl) xT hi27 (by simp [Value.oneCell']) ?_
      have xR2 := World.rangeAt_setCells_same w8 (w.heap.size + 1 + 1) 0 [.int .i64 l0, .int .i64 L, .int .i64 m0, .int .i64 M, .int .i64 p0, .int .i64 k, .int .i64 0, .int .i64 now, .bool false, .int .i64 fallen] xT
      have xbel2 : Below w.heap.size w (w8.setCells (w.heap.size + 1 + 1) 0 [.int .i64 l0, .int .i64 L, .int .i64 m0, .int .i64 M, .int .i64 p0, .int .i64 k, .int .i64 0, .int .i64 now, .bool false, .int .i64 fallen]) := below_setCells xbel (by omega) _ _
      clear xR xT xbel
      have xL : (#[.int .i64 l0, .int .i64 L, .int .i64 m0, .int .i64 M, .int .i64 p0, .int .i64 k, .int .i64 0, .int .i64 now, .bool false, .int .i64 fallen] : Array Value).toList = [.int .i64 l0, .int .i64 L, .int .i64 m0, .int .i64 M, .int .i64 p0, .int .i64 k, .int .i64 0, .int .i64 now, .bool false, .int .i64 fallen] := rfl
      rw [xL]
      clear xL
      generalize w8.setCells (w.heap.size + 1 + 1) 0 [.int .i64 l0, .int .i64 L, .int .i64 m0, .int .i64 M, .int .i64 p0, .int .i64 k, .int .i64 0, .int .i64 now, .bool false, .int .i64 fallen] = w9 at *
      rename_i Qx _ K hKx
      refine wpList_assign_last (by rfl) (by rfl) (hKx _ _ (wp_ret ?_))
      clear hKx
      clear K
      refine bodyPost_ret (v := .tuple #[.agg #[.int .i64 l0, .int .i64 L, .int .i64 m0, .int .i64 M, .int .i64 p0, .int .i64 k, .int .i64 0, .int .i64 now, .bool false, .int .i64 fallen], .int .i64 0]) ?_ rfl ?_
      · exact results_two (a := 6) (s := 7) (t := 27) (b := w.heap.size + 1 + 1) rfl rfl rfl (run_loadVar_mid w9 (w.heap.size + 1 + 1) 0 27 _ _ xR2 Try.underlying27 rfl hi27)
      refine ⟨?_, xbel2⟩
      rw [KM.out, KL.out, KX.out, if_neg HC.out, if_neg HC.out, if_neg HC.out]
    · have HC : Hid (¬ (0 < X ∧ X ≤ M)) := Lib.hid (by omega)
      go_upto_region 13 with (fail)
      generalize hW8 : (w6.setCell ⟨w.heap.size + 1, 6, none⟩ (.int .i64 0)).setCell ⟨w.heap.size + 1, 7, none⟩ (.int .i64 now) = w8
      have xc0 : w8.cell? ⟨w.heap.size + 1, 0, none⟩ = some (.int .i64 l0) := by rw [← hW8]; simp [go_sem, dc0]
      have xc1 : w8.cell? ⟨w.heap.size + 1, 1, none⟩ = some (.int .i64 L) := by rw [← hW8]; simp [go_sem, dc1]
      have xc2 : w8.cell? ⟨w.heap.size + 1, 2, none⟩ = some (.int .i64 m0) := by rw [← hW8]; simp [go_sem, dc2]
      have xc3 : w8.cell? ⟨w.heap.size + 1, 3, none⟩ = some (.int .i64 M) := by rw [← hW8]; simp [go_sem, dc3]
      have xc4 : w8.cell? ⟨w.heap.size + 1, 4, none⟩ = some (.int .i64 p0) := by rw [← hW8]; simp [go_sem, dc4]
      have xc5 : w8.cell? ⟨w.heap.size + 1, 5, none⟩ = some (.int .i64 k) := by rw [← hW8]; simp [go_sem, dc5]
      have xc6 : w8.cell? ⟨w.heap.size + 1, 6, none⟩ = some (.int .i64 0) := by rw [← hW8]; simp [go_sem, dc6]
      have xc7 : w8.cell? ⟨w.heap.size + 1, 7, none⟩ = some (.int .i64 now) := by rw [← hW8]; simp [go_sem, dc7]
      have xc8 : w8.cell? ⟨w.heap.size + 1, 8, none⟩ = some (.bool false) := by rw [← hW8]; simp [go_sem, dc8]
      have xc9 : w8.cell? ⟨w.heap.size + 1, 9, none⟩ = some (.int .i64 fallen) := by rw [← hW8]; simp [go_sem, dc9]
      have xz0 : w8.cell? ⟨w.heap.size + 1 + 1, 0, none⟩ = some (.int .i64 0) := by rw [← hW8]; simp [go_sem, dz0]
      have xz1 : w8.cell? ⟨w.heap.size + 1 + 1, 1, none⟩ = some (.int .i64 0) := by rw [← hW8]; simp [go_sem, dz1]
      have xz2 : w8.cell? ⟨w.heap.size + 1 + 1, 2, none⟩ = some (.int .i64 0) := by rw [← hW8]; simp [go_sem, dz2]
      have xz3 : w8.cell? ⟨w.heap.size + 1 + 1, 3, none⟩ = some (.int .i64 0) := by rw [← hW8]; simp [go_sem, dz3]
      have xz4 : w8.cell? ⟨w.heap.size + 1 + 1, 4, none⟩ = some (.int .i64 0) := by rw [← hW8]; simp [go_sem, dz4]
      have xz5 : w8.cell? ⟨w.heap.size + 1 + 1, 5, none⟩ = some (.int .i64 0) := by rw [← hW8]; simp [go_sem, dz5]
      have xz6 : w8.cell? ⟨w.heap.size + 1 + 1, 6, none⟩ = some (.int .i64 0) := by rw [← hW8]; simp [go_sem, dz6]
      have xz7 : w8.cell? ⟨w.heap.size + 1 + 1, 7, none⟩ = some (.int .i64 0) := by rw [← hW8]; simp [go_sem, dz7]
      have xz8 : w8.cell? ⟨w.heap.size + 1 + 1, 8, none⟩ = some (.bool false) := by rw [← hW8]; simp [go_sem, dz8]
      have xz9 : w8.cell? ⟨w.heap.size + 1 + 1, 9, none⟩ = some (.int .i64 0) := by rw [← hW8]; simp [go_sem, dz9]
      have xf0 : w8.frozen? ⟨w.heap.size + 1 + 1, 0, none⟩ = false := by rw [← hW8]; simp [go_sem, df0]
      have xf1 : w8.frozen? ⟨w.heap.size + 1 + 1, 1, none⟩ = false := by rw [← hW8]; simp [go_sem, df1]
      have xf2 : w8.frozen? ⟨w.heap.size + 1 + 1, 2, none⟩ = false := by rw [← hW8]; simp [go_sem, df2]
      have xf3 : w8.frozen? ⟨w.heap.size + 1 + 1, 3, none⟩ = false := by rw [← hW8]; simp [go_sem, df3]
      have xf4 : w8.frozen? ⟨w.heap.size + 1 + 1, 4, none⟩ = false := by rw [← hW8]; simp [go_sem, df4]
      have xf5 : w8.frozen? ⟨w.heap.size + 1 + 1, 5, none⟩ = false := by rw [← hW8]; simp [go_sem, df5]
      have xf6 : w8.frozen? ⟨w.heap.size + 1 + 1, 6, none⟩ = false := by rw [← hW8]; simp [go_sem, df6]
      have xf7 : w8.frozen? ⟨w.heap.size + 1 + 1, 7, none⟩ = false := by rw [← hW8]; simp [go_sem, df7]
      have xf8 : w8.frozen? ⟨w.heap.size + 1 + 1, 8, none⟩ = false := by rw [← hW8]; simp [go_sem, df8]
      have xf9 : w8.frozen? ⟨w.heap.size + 1 + 1, 9, none⟩ = false := by rw [← hW8]; simp [go_sem, df9]
      have xbel : Below w.heap.size w w8 := by rw [← hW8]; go_grown
      clear hW8
      clear dr0 dr1 dr2 dc0 dc1 dc2 dc3 dc4 dc5 dc6 dc7 dc8 dc9 dg0 dg1 dg2 dg3 dg4 dg5 dg6 dg7 dg8 dg9 dz0 dz1 dz2 dz3 dz4 dz5 dz6 dz7 dz8 dz9 df0 df1 df2 df3 df4 df5 df6 df7 df8 df9 dy0 dy1 dy2 dq0 dbb dsz dbel
      have xR := range10 xc0 xc1 xc2 xc3 xc4 xc5 xc6 xc7 xc8 xc9
      have xT := there10 xz0 xz1 xz2 xz3 xz4 xz5 xz6 xz7 xz8 xz9 xf0 xf1 xf2 xf3 xf4 xf5 xf6 xf7 xf8 xf9
      clear xc0 xz0 xf0 xc1 xz1 xf1 xc2 xz2 xf2 xc3 xz3 xf3 xc4 xz4 xf4 xc5 xz5 xf5 xc6 xz6 xf6 xc7 xz7 xf7 xc8 xz8 xf8 xc9 xz9 xf9
      have hi27 : (Try.prog.info? 27).map (·.size) = some 10 := by kernel_rfl
      refine wp_region_lit ?_
      refine wpList_load_mid (by rfl) 27 (.tmp 4) (by rfl) (w.heap.size + 1) 0 (by rfl) _ _ xR Try.underlying27 (by rfl) hi27 ?_
      refine wpList_store_mid (by rfl) 27 (.tmp 6) (.tmp 101) (by rfl) (w.heap.size + 1 + 1) 0 #[.int .i64 l0, .int .i64 L, .int .i64 m0, .int .i64 M, .int .i64 p0, .int .i64 k, .int .i64 0, .int .i64 now, .bool false, .int .i64 fallen] (by rfl) (by rfl) xT hi27 (by simp [Value.oneCell']) ?_
      have xR2 := World.rangeAt_setCells_same w8 (w.heap.size + 1 + 1) 0 [.int .i64 l0, .int .i64 L, .int .i64 m0, .int .i64 M, .int .i64 p0, .int .i64 k, .int .i64 0, .int .i64 now, .bool false, .int .i64 fallen] xT
      have xbel2 : Below w.heap.size w (w8.setCells (w.heap.size + 1 + 1) 0 [.int .i64 l0, .int .i64 L, .int .i64 m0, .int .i64 M, .int .i64 p0, .int .i64 k, .int .i64 0, .int .i64 now, .bool false, .int .i64 fallen]) := below_setCells xbel (by omega) _ _
      clear xR xT xbel
      have xL : (#[.int .i64 l0, .int .i64 L, .int .i64 m0, .int .i64 M, .int .i64 p0, .int .i64 k, .int .i64 0, .int .i64 now, .bool false, .int .i64 fallen] : Array Value).toList = [.int .i64 l0, .int .i64 L, .int .i64 m0, .int .i64 M, .int .i64 p0, .int .i64 k, .int .i64 0, .int .i64 now, .bool false, .int .i64 fallen] := rfl
      rw [xL]
      clear xL
      generalize w8.setCells (w.heap.size + 1 + 1) 0 [.int .i64 l0, .int .i64 L, .int .i64 m0, .int .i64 M, .int .i64 p0, .int .i64 k, .int .i64 0, .int .i64 now, .bool false, .int .i64 fallen] = w9 at *
      rename_i Qx _ K hKx
      refine wpList_assign_last (by rfl) (by rfl) (hKx _ _ (wp_ret ?_))
      clear hKx
      clear K
      refine bodyPost_ret (v := .tuple #[.agg #[.int .i64 l0, .int .i64 L, .int .i64 m0, .int .i64 M, .int .i64 p0, .int .i64 k, .int .i64 0, .int .i64 now, .bool false, .int .i64 fallen], .int .i64 0]) ?_ rfl ?_
      · exact results_two (a := 6) (s := 7) (t := 27) (b := w.heap.size + 1 + 1) rfl rfl rfl (run_loadVar_mid w9 (w.heap.size + 1 + 1) 0 27 _ _ xR2 Try.underlying27 rfl hi27)
      refine ⟨?_, xbel2⟩
      rw [KM.out, KL.out, KX.out, if_neg HC.out, if_neg HC.out, if_neg HC.out]
    · have hkn1 : k + 1 < n := Hq1.out h1
      have HC : Hid (0 < X ∧ X ≤ M) := Lib.hid ⟨h1, h2⟩
      have hY := Hqb.out (k + 1) hkn1
      have dq1 : w6.cell? ⟨b, off + (k + 1) * 2 + 1, none⟩ = some (.int .i64 (ps.getD (k + 1) (0, 0)).2) := ((bcell dbel).1 _ _ hbB).trans (Hpc.out (k + 1) hkn1).2
      have hk1a : (0 : Int) ≤ (k : Int) + 1 := by omega
      have hk1b : (k : Int) + 1 < (n : Int) := by omega
      generalize HY : (ps.getD (k + 1) (0, 0)).2 = Y at *
      have KY := Lib.hid HY
      clear HY
      go_upto_region 11 with (fail)
      generalize hW7 : ((w6.setCell ⟨w.heap.size + 1, 3, none⟩ (.int .i64 0)).setCell ⟨w.heap.size + 1, 5, none⟩ (.int .i64 (k + 1))) = w7
      have er0 : w7.cell? ⟨w.heap.size, 0, none⟩ = some (.slice (some ⟨b, off, none⟩) n cap) := by rw [← hW7]; simp [go_sem, dr0, dy0, dy1]
      have er1 : w7.cell? ⟨w.heap.size, 1, none⟩ = some (.int .i64 inc) := by rw [← hW7]; simp [go_sem, dr1, dy0, dy1]
      have er2 : w7.cell? ⟨w.heap.size, 2, none⟩ = some (.int .i64 delay) := by rw [← hW7]; simp [go_sem, dr2, dy0, dy1]
      have ec0 : w7.cell? ⟨w.heap.size + 1, 0, none⟩ = some (.int .i64 l0) := by rw [← hW7]; simp [go_sem, dc0, dy0, dy1]
      have ec1 : w7.cell? ⟨w.heap.size + 1, 1, none⟩ = some (.int .i64 L) := by rw [← hW7]; simp [go_sem, dc1, dy0, dy1]
      have ec2 : w7.cell? ⟨w.heap.size + 1, 2, none⟩ = some (.int .i64 m0) := by rw [← hW7]; simp [go_sem, dc2, dy0, dy1]
      have ec3 : w7.cell? ⟨w.heap.size + 1, 3, none⟩ = some (.int .i64 0) := by rw [← hW7]; simp [go_sem, dc3, dy0, dy1]
      have ec4 : w7.cell? ⟨w.heap.size + 1, 4, none⟩ = some (.int .i64 p0) := by rw [← hW7]; simp [go_sem, dc4, dy0, dy1]
      have ec5 : w7.cell? ⟨w.heap.size + 1, 5, none⟩ = some (.int .i64 (k + 1)) := by rw [← hW7]; simp [go_sem, dc5, dy0, dy1]
      have ec6 : w7.cell? ⟨w.heap.size + 1, 6, none⟩ = some (.int .i64 1) := by rw [← hW7]; simp [go_sem, dc6, dy0, dy1]
      have ec7 : w7.cell? ⟨w.heap.size + 1, 7, none⟩ = some (.int .i64 since) := by rw [← hW7]; simp [go_sem, dc7, dy0, dy1]
      have ec8 : w7.cell? ⟨w.heap.size + 1, 8, none⟩ = some (.bool false) := by rw [← hW7]; simp [go_sem, dc8, dy0, dy1]
      have ec9 : w7.cell? ⟨w.heap.size + 1, 9, none⟩ = some (.int .i64 fallen) := by rw [← hW7]; simp [go_sem, dc9, dy0, dy1]
      have eg0 : w7.frozen? ⟨w.heap.size + 1, 0, none⟩ = false := by rw [← hW7]; simp [go_sem, dg0, dy0, dy1]
      have eg1 : w7.frozen? ⟨w.heap.size + 1, 1, none⟩ = false := by rw [← hW7]; simp [go_sem, dg1, dy0, dy1]
      have eg2 : w7.frozen? ⟨w.heap.size + 1, 2, none⟩ = false := by rw [← hW7]; simp [go_sem, dg2, dy0, dy1]
      have eg3 : w7.frozen? ⟨w.heap.size + 1, 3, none⟩ = false := by rw [← hW7]; simp [go_sem, dg3, dy0, dy1]
      have eg4 : w7.frozen? ⟨w.heap.size + 1, 4, none⟩ = false := by rw [← hW7]; simp [go_sem, dg4, dy0, dy1]
      have eg5 : w7.frozen? ⟨w.heap.size + 1, 5, none⟩ = false := by rw [← hW7]; simp [go_sem, dg5, dy0, dy1]
      have eg6 : w7.frozen? ⟨w.heap.size + 1, 6, none⟩ = false := by rw [← hW7]; simp [go_sem, dg6, dy0, dy1]
      have eg7 : w7.frozen? ⟨w.heap.size + 1, 7, none⟩ = false := by rw [← hW7]; simp [go_sem, dg7, dy0, dy1]
      have eg8 : w7.frozen? ⟨w.heap.size + 1, 8, none⟩ = false := by rw [← hW7]; simp [go_sem, dg8, dy0, dy1]
      have eg9 : w7.frozen? ⟨w.heap.size + 1, 9, none⟩ = false := by rw [← hW7]; simp [go_sem, dg9, dy0, dy1]
      have ez0 : w7.cell? ⟨w.heap.size + 1 + 1, 0, none⟩ = some (.int .i64 0) := by rw [← hW7]; simp [go_sem, dz0, dy1, dy2]
      have ez1 : w7.cell? ⟨w.heap.size + 1 + 1, 1, none⟩ = some (.int .i64 0) := by rw [← hW7]; simp [go_sem, dz1, dy1, dy2]
      have ez2 : w7.cell? ⟨w.heap.size + 1 + 1, 2, none⟩ = some (.int .i64 0) := by rw [← hW7]; simp [go_sem, dz2, dy1, dy2]
      have ez3 : w7.cell? ⟨w.heap.size + 1 + 1, 3, none⟩ = some (.int .i64 0) := by rw [← hW7]; simp [go_sem, dz3, dy1, dy2]
      have ez4 : w7.cell? ⟨w.heap.size + 1 + 1, 4, none⟩ = some (.int .i64 0) := by rw [← hW7]; simp [go_sem, dz4, dy1, dy2]
      have ez5 : w7.cell? ⟨w.heap.size + 1 + 1, 5, none⟩ = some (.int .i64 0) := by rw [← hW7]; simp [go_sem, dz5, dy1, dy2]
      have ez6 : w7.cell? ⟨w.heap.size + 1 + 1, 6, none⟩ = some (.int .i64 0) := by rw [← hW7]; simp [go_sem, dz6, dy1, dy2]
      have ez7 : w7.cell? ⟨w.heap.size + 1 + 1, 7, none⟩ = some (.int .i64 0) := by rw [← hW7]; simp [go_sem, dz7, dy1, dy2]
      have ez8 : w7.cell? ⟨w.heap.size + 1 + 1, 8, none⟩ = some (.bool false) := by rw [← hW7]; simp [go_sem, dz8, dy1, dy2]
      have ez9 : w7.cell? ⟨w.heap.size + 1 + 1, 9, none⟩ = some (.int .i64 0) := by rw [← hW7]; simp [go_sem, dz9, dy1, dy2]
      have ef0 : w7.frozen? ⟨w.heap.size + 1 + 1, 0, none⟩ = false := by rw [← hW7]; simp [go_sem, df0, dy1, dy2]
      have ef1 : w7.frozen? ⟨w.heap.size + 1 + 1, 1, none⟩ = false := by rw [← hW7]; simp [go_sem, df1, dy1, dy2]
      have ef2 : w7.frozen? ⟨w.heap.size + 1 + 1, 2, none⟩ = false := by rw [← hW7]; simp [go_sem, df2, dy1, dy2]
      have ef3 : w7.frozen? ⟨w.heap.size + 1 + 1, 3, none⟩ = false := by rw [← hW7]; simp [go_sem, df3, dy1, dy2]
      have ef4 : w7.frozen? ⟨w.heap.size + 1 + 1, 4, none⟩ = false := by rw [← hW7]; simp [go_sem, df4, dy1, dy2]
      have ef5 : w7.frozen? ⟨w.heap.size + 1 + 1, 5, none⟩ = false := by rw [← hW7]; simp [go_sem, df5, dy1, dy2]
      have ef6 : w7.frozen? ⟨w.heap.size + 1 + 1, 6, none⟩ = false := by rw [← hW7]; simp [go_sem, df6, dy1, dy2]
      have ef7 : w7.frozen? ⟨w.heap.size + 1 + 1, 7, none⟩ = false := by rw [← hW7]; simp [go_sem, df7, dy1, dy2]
      have ef8 : w7.frozen? ⟨w.heap.size + 1 + 1, 8, none⟩ = false := by rw [← hW7]; simp [go_sem, df8, dy1, dy2]
      have ef9 : w7.frozen? ⟨w.heap.size + 1 + 1, 9, none⟩ = false := by rw [← hW7]; simp [go_sem, df9, dy1, dy2]
      have ebel : Below w.heap.size w w7 := by rw [← hW7]; go_grown
      have esz : w.heap.size + 1 + 1 + 1 ≤ w7.heap.size := by rw [← hW7]; simp; omega
      have ey0 : w.heap.size < w7.heap.size := by omega
      have ey1 : w.heap.size + 1 < w7.heap.size := by omega
      have ey2 : w.heap.size + 1 + 1 < w7.heap.size := by omega
      have ebb : b < w7.heap.size := by omega
      clear hW7
      clear dq1 dr0 dr1 dr2 dc0 dc1 dc2 dc3 dc4 dc5 dc6 dc7 dc8 dc9 dg0 dg1 dg2 dg3 dg4 dg5 dg6 dg7 dg8 dg9 dz0 dz1 dz2 dz3 dz4 dz5 dz6 dz7 dz8 dz9 df0 df1 df2 df3 df4 df5 df6 df7 df8 df9 dy0 dy1 dy2 dq0 dbb dsz dbel
      have eq1 : w7.cell? ⟨b, off + (k + 1) * 2 + 1, none⟩ = some (.int .i64 Y) := KY.out ▸ ((bcell ebel).1 _ _ hbB).trans (Hpc.out (k + 1) hkn1).2
      have hwr : IntKind.i64.wrap (L + Y) = L + Y := IntWalk.i64_in _ (by omega)
      have hmin2 : (if (100000000000 : Int) < L + Y then 100000000000 else L + Y) = mostB (L + Y) := rfl
      generalize HL2 : mostB (L + Y) = L2 at *
      have KL2 := Lib.hid HL2
      clear HL2
      go_still_tail 18, (by kernel_rfl)
      change wpList _ _ _ _ _ w7.drew
      generalize hWd : w7.drew = wd
      have or0 : wd.cell? ⟨w.heap.size, 0, none⟩ = some (.slice (some ⟨b, off, none⟩) n cap) := by rw [← hWd]; simp [go_sem, er0, ey0, ey1]
      have or1 : wd.cell? ⟨w.heap.size, 1, none⟩ = some (.int .i64 inc) := by rw [← hWd]; simp [go_sem, er1, ey0, ey1]
      have or2 : wd.cell? ⟨w.heap.size, 2, none⟩ = some (.int .i64 delay) := by rw [← hWd]; simp [go_sem, er2, ey0, ey1]
      have oc0 : wd.cell? ⟨w.heap.size + 1, 0, none⟩ = some (.int .i64 l0) := by rw [← hWd]; simp [go_sem, ec0, ey0, ey1]
      have oc1 : wd.cell? ⟨w.heap.size + 1, 1, none⟩ = some (.int .i64 L) := by rw [← hWd]; simp [go_sem, ec1, ey0, ey1]
      have oc2 : wd.cell? ⟨w.heap.size + 1, 2, none⟩ = some (.int .i64 m0) := by rw [← hWd]; simp [go_sem, ec2, ey0, ey1]
      have oc3 : wd.cell? ⟨w.heap.size + 1, 3, none⟩ = some (.int .i64 0) := by rw [← hWd]; simp [go_sem, ec3, ey0, ey1]
      have oc4 : wd.cell? ⟨w.heap.size + 1, 4, none⟩ = some (.int .i64 p0) := by rw [← hWd]; simp [go_sem, ec4, ey0, ey1]
      have oc5 : wd.cell? ⟨w.heap.size + 1, 5, none⟩ = some (.int .i64 (k + 1)) := by rw [← hWd]; simp [go_sem, ec5, ey0, ey1]
      have oc6 : wd.cell? ⟨w.heap.size + 1, 6, none⟩ = some (.int .i64 1) := by rw [← hWd]; simp [go_sem, ec6, ey0, ey1]
      have oc7 : wd.cell? ⟨w.heap.size + 1, 7, none⟩ = some (.int .i64 since) := by rw [← hWd]; simp [go_sem, ec7, ey0, ey1]
      have oc8 : wd.cell? ⟨w.heap.size + 1, 8, none⟩ = some (.bool false) := by rw [← hWd]; simp [go_sem, ec8, ey0, ey1]
      have oc9 : wd.cell? ⟨w.heap.size + 1, 9, none⟩ = some (.int .i64 fallen) := by rw [← hWd]; simp [go_sem, ec9, ey0, ey1]
      have og0 : wd.frozen? ⟨w.heap.size + 1, 0, none⟩ = false := by rw [← hWd]; simp [go_sem, eg0, ey0, ey1]
      have og1 : wd.frozen? ⟨w.heap.size + 1, 1, none⟩ = false := by rw [← hWd]; simp [go_sem, eg1, ey0, ey1]
      have og2 : wd.frozen? ⟨w.heap.size + 1, 2, none⟩ = false := by rw [← hWd]; simp [go_sem, eg2, ey0, ey1]
      have og3 : wd.frozen? ⟨w.heap.size + 1, 3, none⟩ = false := by rw [← hWd]; simp [go_sem, eg3, ey0, ey1]
      have og4 : wd.frozen? ⟨w.heap.size + 1, 4, none⟩ = false := by rw [← hWd]; simp [go_sem, eg4, ey0, ey1]
      have og5 : wd.frozen? ⟨w.heap.size + 1, 5, none⟩ = false := by rw [← hWd]; simp [go_sem, eg5, ey0, ey1]
      have og6 : wd.frozen? ⟨w.heap.size + 1, 6, none⟩ = false := by rw [← hWd]; simp [go_sem, eg6, ey0, ey1]
      have og7 : wd.frozen? ⟨w.heap.size + 1, 7, none⟩ = false := by rw [← hWd]; simp [go_sem, eg7, ey0, ey1]
      have og8 : wd.frozen? ⟨w.heap.size + 1, 8, none⟩ = false := by rw [← hWd]; simp [go_sem, eg8, ey0, ey1]
      have og9 : wd.frozen? ⟨w.heap.size + 1, 9, none⟩ = false := by rw [← hWd]; simp [go_sem, eg9, ey0, ey1]
      have oz0 : wd.cell? ⟨w.heap.size + 1 + 1, 0, none⟩ = some (.int .i64 0) := by rw [← hWd]; simp [go_sem, ez0, ey1, ey2]
      have oz1 : wd.cell? ⟨w.heap.size + 1 + 1, 1, none⟩ = some (.int .i64 0) := by rw [← hWd]; simp [go_sem, ez1, ey1, ey2]
      have oz2 : wd.cell? ⟨w.heap.size + 1 + 1, 2, none⟩ = some (.int .i64 0) := by rw [← hWd]; simp [go_sem, ez2, ey1, ey2]
      have oz3 : wd.cell? ⟨w.heap.size + 1 + 1, 3, none⟩ = some (.int .i64 0) := by rw [← hWd]; simp [go_sem, ez3, ey1, ey2]
      have oz4 : wd.cell? ⟨w.heap.size + 1 + 1, 4, none⟩ = some (.int .i64 0) := by rw [← hWd]; simp [go_sem, ez4, ey1, ey2]
      have oz5 : wd.cell? ⟨w.heap.size + 1 + 1, 5, none⟩ = some (.int .i64 0) := by rw [← hWd]; simp [go_sem, ez5, ey1, ey2]
      have oz6 : wd.cell? ⟨w.heap.size + 1 + 1, 6, none⟩ = some (.int .i64 0) := by rw [← hWd]; simp [go_sem, ez6, ey1, ey2]
      have oz7 : wd.cell? ⟨w.heap.size + 1 + 1, 7, none⟩ = some (.int .i64 0) := by rw [← hWd]; simp [go_sem, ez7, ey1, ey2]
      have oz8 : wd.cell? ⟨w.heap.size + 1 + 1, 8, none⟩ = some (.bool false) := by rw [← hWd]; simp [go_sem, ez8, ey1, ey2]
      have oz9 : wd.cell? ⟨w.heap.size + 1 + 1, 9, none⟩ = some (.int .i64 0) := by rw [← hWd]; simp [go_sem, ez9, ey1, ey2]
      have of0 : wd.frozen? ⟨w.heap.size + 1 + 1, 0, none⟩ = false := by rw [← hWd]; simp [go_sem, ef0, ey1, ey2]
      have of1 : wd.frozen? ⟨w.heap.size + 1 + 1, 1, none⟩ = false := by rw [← hWd]; simp [go_sem, ef1, ey1, ey2]
      have of2 : wd.frozen? ⟨w.heap.size + 1 + 1, 2, none⟩ = false := by rw [← hWd]; simp [go_sem, ef2, ey1, ey2]
      have of3 : wd.frozen? ⟨w.heap.size + 1 + 1, 3, none⟩ = false := by rw [← hWd]; simp [go_sem, ef3, ey1, ey2]
      have of4 : wd.frozen? ⟨w.heap.size + 1 + 1, 4, none⟩ = false := by rw [← hWd]; simp [go_sem, ef4, ey1, ey2]
      have of5 : wd.frozen? ⟨w.heap.size + 1 + 1, 5, none⟩ = false := by rw [← hWd]; simp [go_sem, ef5, ey1, ey2]
      have of6 : wd.frozen? ⟨w.heap.size + 1 + 1, 6, none⟩ = false := by rw [← hWd]; simp [go_sem, ef6, ey1, ey2]
      have of7 : wd.frozen? ⟨w.heap.size + 1 + 1, 7, none⟩ = false := by rw [← hWd]; simp [go_sem, ef7, ey1, ey2]
      have of8 : wd.frozen? ⟨w.heap.size + 1 + 1, 8, none⟩ = false := by rw [← hWd]; simp [go_sem, ef8, ey1, ey2]
      have of9 : wd.frozen? ⟨w.heap.size + 1 + 1, 9, none⟩ = false := by rw [← hWd]; simp [go_sem, ef9, ey1, ey2]
      have obel : Below w.heap.size w wd := by rw [← hWd]; exact ⟨ebel.os, ebel.tape, ebel.output, ebel.size, ebel.block⟩
      have osz : w.heap.size + 1 + 1 + 1 ≤ wd.heap.size := by rw [← hWd]; simp; omega
      have oy0 : w.heap.size < wd.heap.size := by omega
      have oy1 : w.heap.size + 1 < wd.heap.size := by omega
      have oy2 : w.heap.size + 1 + 1 < wd.heap.size := by omega
      have obb : b < wd.heap.size := by omega
      clear hWd
      clear eq1 er0 er1 er2 ec0 ec1 ec2 ec3 ec4 ec5 ec6 ec7 ec8 ec9 eg0 eg1 eg2 eg3 eg4 eg5 eg6 eg7 eg8 eg9 ez0 ez1 ez2 ez3 ez4 ez5 ez6 ez7 ez8 ez9 ef0 ef1 ef2 ef3 ef4 ef5 ef6 ef7 ef8 ef9 ey0 ey1 ey2 ebb esz ebel
      go_upto_region 13 with (fail)
      generalize hW8 : ((wd.setCell ⟨w.heap.size + 1, 1, none⟩ (.int .i64 L2)).setCell ⟨w.heap.size + 1, 6, none⟩ (.int .i64 0)).setCell ⟨w.heap.size + 1, 7, none⟩ (.int .i64 now) = w8
      have xc0 : w8.cell? ⟨w.heap.size + 1, 0, none⟩ = some (.int .i64 l0) := by rw [← hW8]; simp [go_sem, oc0]
      have xc1 : w8.cell? ⟨w.heap.size + 1, 1, none⟩ = some (.int .i64 L2) := by rw [← hW8]; simp [go_sem, oc1]
      have xc2 : w8.cell? ⟨w.heap.size + 1, 2, none⟩ = some (.int .i64 m0) := by rw [← hW8]; simp [go_sem, oc2]
      have xc3 : w8.cell? ⟨w.heap.size + 1, 3, none⟩ = some (.int .i64 0) := by rw [← hW8]; simp [go_sem, oc3]
      have xc4 : w8.cell? ⟨w.heap.size + 1, 4, none⟩ = some (.int .i64 p0) := by rw [← hW8]; simp [go_sem, oc4]
      have xc5 : w8.cell? ⟨w.heap.size + 1, 5, none⟩ = some (.int .i64 (k + 1)) := by rw [← hW8]; simp [go_sem, oc5]
      have xc6 : w8.cell? ⟨w.heap.size + 1, 6, none⟩ = some (.int .i64 0) := by rw [← hW8]; simp [go_sem, oc6]
      have xc7 : w8.cell? ⟨w.heap.size + 1, 7, none⟩ = some (.int .i64 now) := by rw [← hW8]; simp [go_sem, oc7]
      have xc8 : w8.cell? ⟨w.heap.size + 1, 8, none⟩ = some (.bool false) := by rw [← hW8]; simp [go_sem, oc8]
      have xc9 : w8.cell? ⟨w.heap.size + 1, 9, none⟩ = some (.int .i64 fallen) := by rw [← hW8]; simp [go_sem, oc9]
      have xz0 : w8.cell? ⟨w.heap.size + 1 + 1, 0, none⟩ = some (.int .i64 0) := by rw [← hW8]; simp [go_sem, oz0]
      have xz1 : w8.cell? ⟨w.heap.size + 1 + 1, 1, none⟩ = some (.int .i64 0) := by rw [← hW8]; simp [go_sem, oz1]
      have xz2 : w8.cell? ⟨w.heap.size + 1 + 1, 2, none⟩ = some (.int .i64 0) := by rw [← hW8]; simp [go_sem, oz2]
      have xz3 : w8.cell? ⟨w.heap.size + 1 + 1, 3, none⟩ = some (.int .i64 0) := by rw [← hW8]; simp [go_sem, oz3]
      have xz4 : w8.cell? ⟨w.heap.size + 1 + 1, 4, none⟩ = some (.int .i64 0) := by rw [← hW8]; simp [go_sem, oz4]
      have xz5 : w8.cell? ⟨w.heap.size + 1 + 1, 5, none⟩ = some (.int .i64 0) := by rw [← hW8]; simp [go_sem, oz5]
      have xz6 : w8.cell? ⟨w.heap.size + 1 + 1, 6, none⟩ = some (.int .i64 0) := by rw [← hW8]; simp [go_sem, oz6]
      have xz7 : w8.cell? ⟨w.heap.size + 1 + 1, 7, none⟩ = some (.int .i64 0) := by rw [← hW8]; simp [go_sem, oz7]
      have xz8 : w8.cell? ⟨w.heap.size + 1 + 1, 8, none⟩ = some (.bool false) := by rw [← hW8]; simp [go_sem, oz8]
      have xz9 : w8.cell? ⟨w.heap.size + 1 + 1, 9, none⟩ = some (.int .i64 0) := by rw [← hW8]; simp [go_sem, oz9]
      have xf0 : w8.frozen? ⟨w.heap.size + 1 + 1, 0, none⟩ = false := by rw [← hW8]; simp [go_sem, of0]
      have xf1 : w8.frozen? ⟨w.heap.size + 1 + 1, 1, none⟩ = false := by rw [← hW8]; simp [go_sem, of1]
      have xf2 : w8.frozen? ⟨w.heap.size + 1 + 1, 2, none⟩ = false := by rw [← hW8]; simp [go_sem, of2]
      have xf3 : w8.frozen? ⟨w.heap.size + 1 + 1, 3, none⟩ = false := by rw [← hW8]; simp [go_sem, of3]
      have xf4 : w8.frozen? ⟨w.heap.size + 1 + 1, 4, none⟩ = false := by rw [← hW8]; simp [go_sem, of4]
      have xf5 : w8.frozen? ⟨w.heap.size + 1 + 1, 5, none⟩ = false := by rw [← hW8]; simp [go_sem, of5]
      have xf6 : w8.frozen? ⟨w.heap.size + 1 + 1, 6, none⟩ = false := by rw [← hW8]; simp [go_sem, of6]
      have xf7 : w8.frozen? ⟨w.heap.size + 1 + 1, 7, none⟩ = false := by rw [← hW8]; simp [go_sem, of7]
      have xf8 : w8.frozen? ⟨w.heap.size + 1 + 1, 8, none⟩ = false := by rw [← hW8]; simp [go_sem, of8]
      have xf9 : w8.frozen? ⟨w.heap.size + 1 + 1, 9, none⟩ = false := by rw [← hW8]; simp [go_sem, of9]
      have xbel : Below w.heap.size w w8 := by rw [← hW8]; go_grown
      clear hW8
      clear or0 or1 or2 oc0 oc1 oc2 oc3 oc4 oc5 oc6 oc7 oc8 oc9 og0 og1 og2 og3 og4 og5 og6 og7 og8 og9 oz0 oz1 oz2 oz3 oz4 oz5 oz6 oz7 oz8 oz9 of0 of1 of2 of3 of4 of5 of6 of7 of8 of9 oy0 oy1 oy2 obb osz obel
      have xR := range10 xc0 xc1 xc2 xc3 xc4 xc5 xc6 xc7 xc8 xc9
      have xT := there10 xz0 xz1 xz2 xz3 xz4 xz5 xz6 xz7 xz8 xz9 xf0 xf1 xf2 xf3 xf4 xf5 xf6 xf7 xf8 xf9
      clear xc0 xz0 xf0 xc1 xz1 xf1 xc2 xz2 xf2 xc3 xz3 xf3 xc4 xz4 xf4 xc5 xz5 xf5 xc6 xz6 xf6 xc7 xz7 xf7 xc8 xz8 xf8 xc9 xz9 xf9
      have hi27 : (Try.prog.info? 27).map (·.size) = some 10 := by kernel_rfl
      refine wp_region_lit ?_
      refine wpList_load_mid (by rfl) 27 (.tmp 4) (by rfl) (w.heap.size + 1) 0 (by rfl) _ _ xR Try.underlying27 (by rfl) hi27 ?_
      refine wpList_store_mid (by rfl) 27 (.tmp 6) (.tmp 101) (by rfl) (w.heap.size + 1 + 1) 0 #[.int .i64 l0, .int .i64 L2, .int .i64 m0, .int .i64 0, .int .i64 p0, .int .i64 (k + 1), .int .i64 0, .int .i64 now, .bool false, .int .i64 fallen] (by rfl) (by rfl) xT hi27 (by simp [Value.oneCell']) ?_
      have xR2 := World.rangeAt_setCells_same w8 (w.heap.size + 1 + 1) 0 [.int .i64 l0, .int .i64 L2, .int .i64 m0, .int .i64 0, .int .i64 p0, .int .i64 (k + 1), .int .i64 0, .int .i64 now, .bool false, .int .i64 fallen] xT
      have xbel2 : Below w.heap.size w (w8.setCells (w.heap.size + 1 + 1) 0 [.int .i64 l0, .int .i64 L2, .int .i64 m0, .int .i64 0, .int .i64 p0, .int .i64 (k + 1), .int .i64 0, .int .i64 now, .bool false, .int .i64 fallen]) := below_setCells xbel (by omega) _ _
      clear xR xT xbel
      have xL : (#[.int .i64 l0, .int .i64 L2, .int .i64 m0, .int .i64 0, .int .i64 p0, .int .i64 (k + 1), .int .i64 0, .int .i64 now, .bool false, .int .i64 fallen] : Array Value).toList = [.int .i64 l0, .int .i64 L2, .int .i64 m0, .int .i64 0, .int .i64 p0, .int .i64 (k + 1), .int .i64 0, .int .i64 now, .bool false, .int .i64 fallen] := rfl
      rw [xL]
      clear xL
      generalize w8.setCells (w.heap.size + 1 + 1) 0 [.int .i64 l0, .int .i64 L2, .int .i64 m0, .int .i64 0, .int .i64 p0, .int .i64 (k + 1), .int .i64 0, .int .i64 now, .bool false, .int .i64 fallen] = w9 at *
      rename_i Qx  K hKx
      refine wpList_assign_last (by rfl) (by rfl) (hKx _ _ (wp_ret ?_))
      clear hKx
      clear K
      refine bodyPost_ret (v := .tuple #[.agg #[.int .i64 l0, .int .i64 L2, .int .i64 m0, .int .i64 0, .int .i64 p0, .int .i64 (k + 1), .int .i64 0, .int .i64 now, .bool false, .int .i64 fallen], .int .i64 0]) ?_ rfl ?_
      · exact results_two (a := 6) (s := 7) (t := 27) (b := w.heap.size + 1 + 1) rfl rfl rfl (run_loadVar_mid w9 (w.heap.size + 1 + 1) 0 27 _ _ xR2 Try.underlying27 rfl hi27)
      refine ⟨?_, xbel2⟩
      rw [KM.out, KL.out, KX.out, if_pos HC.out, if_pos HC.out, if_pos HC.out, KY.out, KL2.out]
end Go.Proofs.Ytpcllegmdioafaa

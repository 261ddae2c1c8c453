/- MaC, MaD, MaM. -/
import Derived.Test.YtnodagljaoonjaaGreatDoorC28
import Derived.Test.YtnodagljaoonjaaGreatDoorC09
import Derived.Test.YtnodagljaoonjaaGreatDoorC05
import Derived.Test.YtnodagljaoonjaaGreatDoorC21
namespace Go.Proofs.YtnodagljaoonjaaGreatDoor
open Go.ChangeShapes Go.WideShapes Go.ChangeAt Go.RowKit
set_option linter.unusedVariables false
def clkA (c : ClkZ) : Value := .agg #[.int .i64 c.l0, .int .i64 c.l1, .int .i64 c.m0, .int .i64 c.m1, .int .i64 c.p0, .int .i64 c.p1, .int .i64 c.turn, .int .i64 c.since, .bool c.st, .int .i64 c.fallen]
theorem CrG.ok {CR : CrZ} (h : CrG CR) : clk.RuleOk CR.ps.length CR.inc CR.delay CR.ps := by
 refine ⟨h.n, h.inc, h.del, fun k hk => ?_⟩
 have h1 := h.pm k hk; have h2 := h.pt k hk; have h3 := h.pz k hk
 unfold clk.perOk
 rw [clk.witB_true h1, clk.witB_true h2, Bool.true_and, Bool.true_and, beq_iff_eq]
 by_cases e : (CR.ps.getD k (0, 0)).1 = 0
 ·have := h3.1 e
  rw [show ((CR.ps.getD k (0, 0)).1 == 0) = true by simpa using e]
  exact (beq_iff_eq.2 (by omega)).symm
 ·have : ¬ (k + 1 = CR.ps.length) := fun q => e (h3.2 q)
  rw [show ((CR.ps.getD k (0, 0)).1 == 0) = false by simpa using e]
  exact (beq_eq_false_iff_ne.2 (by omega)).symm
theorem CrG.of {CR : CrZ} (h : clk.RuleOk CR.ps.length CR.inc CR.delay CR.ps) : CrG CR := by
 have key : ∀ k, k < CR.ps.length → (0 ≤ (CR.ps.getD k (0, 0)).1 ∧ (CR.ps.getD k (0, 0)).1 ≤ 400) ∧ (1 ≤ (CR.ps.getD k (0, 0)).2 ∧ (CR.ps.getD k (0, 0)).2 ≤ 100000000) ∧ ((CR.ps.getD k (0, 0)).1 = 0 ↔ k + 1 = CR.ps.length) := fun k hk => by
  have := h.2.2.2 k hk
  unfold clk.perOk at this
  rw [Bool.and_eq_true, Bool.and_eq_true] at this
  obtain ⟨h1, h2, h3⟩ := this
  refine ⟨clk.witB_iff.1 h1, clk.witB_iff.1 h2, ?_⟩
  rw [beq_iff_eq] at h3
  constructor
  ·intro e
   rw [show ((CR.ps.getD k (0, 0)).1 == 0) = true by simpa using e] at h3
   have := beq_iff_eq.1 h3.symm
   omega
  ·intro e
   rw [show ((k : Int) == (CR.ps.length : Int) - 1) = true by rw [beq_iff_eq]; omega] at h3
   exact beq_iff_eq.1 h3
 exact ⟨h.1, h.2.1, h.2.2.1, fun k hk => (key k hk).1, fun k hk => (key k hk).2.1, fun k hk => (key k hk).2.2⟩
theorem ClkG.ok {CR : CrZ} {c : ClkZ} (h : ClkG CR c) : clk.ClkOk CR.ps.length c.l0 c.l1 c.m0 c.m1 c.p0 c.p1 c.turn c.since c.fallen := ⟨h.t, h.f, h.s, h.p0, h.m0, h.l0, h.p1, h.m1, h.l1⟩
theorem lookC_any (CR : CrZ) (c : ClkZ) (now : Int) (pa : Option Addr) (pc : Nat) (w : World) (hr : CrG CR) (hk : ClkG CR c) (h0 : c.since ≤ now) (h1 : now ≤ 100000000) (hp : clk.PerAt w w.heap.size pa CR.ps.length CR.ps) :
  Calls Tryz.prog 32 #[.agg #[.slice pa CR.ps.length pc, .int .i64 CR.inc, .int .i64 CR.delay], .agg #[.int .i64 c.l0, .int .i64 c.l1, .int .i64 c.m0, .int .i64 c.m1, .int .i64 c.p0, .int .i64 c.p1, .int .i64 c.turn, .int .i64 c.since, .bool c.st, .int .i64 c.fallen], .int .i64 now] w fun e w' => e = .returned (.tuple #[clkA (lookC CR c now), .int .i64 0]) ∧ Below w.heap.size w w' := by
 have hn : CR.ps.length ≤ 9223372036854775807 := by have := hr.n; omega
 have e0 : clk.witB now c.since 100000000 = true := clk.witB_true ⟨h0, h1⟩
 have ho := hr.ok
 have hc := hk.ok
 have ht := hk.t
 obtain ⟨l0, l1, m0, m1, p0, p1, turn, since, st, fallen⟩ := c
 have hu : usedC CR ⟨l0, l1, m0, m1, p0, p1, turn, since, st, fallen⟩ now = clk.usedZ st CR.delay since now := rfl
 unfold lookC clkA
 rw [hu]
 dsimp only at *
 by_cases hf : fallen < 0
 ·rw [if_pos hf]
  by_cases h : turn = 0
  ·subst h
   rw [if_pos rfl]
   by_cases hl : l0 < clk.usedZ st CR.delay since now
   ·rw [if_pos hl]; exact clk.Look_fall_0 pa _ pc _ _ CR.ps l0 l1 m0 m1 p0 p1 since fallen st now w hn hp ho hc e0 hf hl
   ·rw [if_neg hl]; exact clk.Look_stay_0 pa _ pc _ _ CR.ps l0 l1 m0 m1 p0 p1 since fallen st now w hn hp ho hc e0 hf (by omega)
  ·obtain rfl : turn = 1 := by omega
   rw [if_neg h]
   by_cases hl : l1 < clk.usedZ st CR.delay since now
   ·rw [if_pos hl]; exact clk.Look_fall_1 pa _ pc _ _ CR.ps l0 l1 m0 m1 p0 p1 since fallen st now w hn hp ho hc e0 hf hl
   ·rw [if_neg hl]; exact clk.Look_stay_1 pa _ pc _ _ CR.ps l0 l1 m0 m1 p0 p1 since fallen st now w hn hp ho hc e0 hf (by omega)
 ·rw [if_neg hf]; exact clk.Look_over pa _ pc _ _ CR.ps l0 l1 m0 m1 p0 p1 turn since fallen st now w hn hp ho hc e0 (by omega)
theorem pressC_any (CR : CrZ) (c : ClkZ) (now : Int) (pa : Option Addr) (pc : Nat) (w : World) (hr : CrG CR) (hk : ClkG CR c) (h0 : c.since ≤ now) (h1 : now ≤ 100000000) (hs : c.st = false) (hf : c.fallen < 0) (hu : usedC CR c now ≤ if c.turn = 0 then c.l0 else c.l1)
  (hp : clk.PerAt w w.heap.size pa CR.ps.length CR.ps) :
  Calls Tryz.prog 125 #[.agg #[.slice pa CR.ps.length pc, .int .i64 CR.inc, .int .i64 CR.delay], .agg #[.int .i64 c.l0, .int .i64 c.l1, .int .i64 c.m0, .int .i64 c.m1, .int .i64 c.p0, .int .i64 c.p1, .int .i64 c.turn, .int .i64 c.since, .bool c.st, .int .i64 c.fallen], .int .i64 now] w fun e w' => e = .returned (.tuple #[clkA (pressC CR c now), .int .i64 0]) ∧ Below w.heap.size w w' := by
 have hn : CR.ps.length ≤ 9223372036854775807 := by have := hr.n; omega
 have e0 : clk.witB now c.since 100000000 = true := clk.witB_true ⟨h0, h1⟩
 have ho := hr.ok
 have hc := hk.ok
 have ht := hk.t
 obtain ⟨l0, l1, m0, m1, p0, p1, turn, since, st, fallen⟩ := c
 dsimp only at *
 subst hs
 have hu2 : usedC CR ⟨l0, l1, m0, m1, p0, p1, turn, since, false, fallen⟩ now = clk.usedZ false CR.delay since now := rfl
 unfold pressC clkA leftC fullC
 rw [hu2] at hu ⊢
 by_cases h : turn = 0
 ·subst h
  rw [if_pos rfl] at hu ⊢
  refine (clk.Press_ok_0 pa _ pc _ _ CR.ps l0 l1 m0 m1 p0 p1 since fallen now w hn hp ho hc e0 hf hu).mono fun e w' h => ⟨h.1.trans ?_, h.2⟩
  simp only [decide_eq_true_eq]
  rfl
 ·obtain rfl : turn = 1 := by omega
  rw [if_neg h] at hu ⊢
  refine (clk.Press_ok_1 pa _ pc _ _ CR.ps l0 l1 m0 m1 p0 p1 since fallen now w hn hp ho hc e0 hf hu).mono fun e w' h => ⟨h.1.trans ?_, h.2⟩
  simp only [decide_eq_true_eq]
  rfl
/-! ### offers -/
def offA (o : OffZ) : Value := .agg #[.int .i64 o.b0, .int .i64 o.b1, .int .i64 o.l00, .int .i64 o.l01, .int .i64 o.l10, .int .i64 o.l11]
theorem OffG.ok {o : OffZ} (h : OffG o) : off.OkO o.b0 o.b1 o.l00 o.l01 o.l10 o.l11 := by
 obtain ⟨⟨a1, a2⟩, ⟨a3, a4⟩, ⟨a5, a6⟩, ⟨a7, a8⟩, ⟨a9, a10⟩, ⟨b1, b2⟩, c1, c2, c3, c4⟩ := h
 exact ⟨⟨a1, a2, a3, a4, a9, a10, c1, c2⟩, a5, a6, a7, a8, b1, b2, c3, c4⟩
def zeroO : OffZ := ⟨0, 0, 0, 0, 0, 0⟩
theorem offMake (o : OffZ) (k p : Int) (n : Nat) (w : World) (h : OffG o) (hp : p = 0 ∨ p = 1) (hn : n ≤ 400) :
  Calls Tryz.prog 86 #[.agg #[.int .i64 o.b0, .int .i64 o.b1, .int .i64 o.l00, .int .i64 o.l01, .int .i64 o.l10, .int .i64 o.l11], .int .i64 k, .int .i64 p, .int .i64 n] w fun e w' => e = .returned (.tuple #[offA (if makeE o k p n = 0 then makeO o k p n else zeroO), .int .i64 (makeE o k p n)]) ∧ Below w.heap.size w w' := by
 have hok := h.ok
 have n0 : 0 ≤ (n : Int) := by omega
 have n1 : (n : Int) ≤ 400 := by omega
 by_cases hk : k = 0 ∨ k = 1
 ·rcases hk with rfl | rfl <;> rcases hp with rfl | rfl
  ·by_cases hb : 0 ≤ o.b0
   ·skip
    have he : makeE o 0 0 n = 7 := by
     unfold makeE
     rw [if_neg (show ¬ ¬ ((0 : Int) = 0 ∨ (0 : Int) = 1) by decide), if_pos (show 0 ≤ byO o 0 from hb)]
    rw [he]; exact off.Make_twice_00 _ _ _ _ _ _ n w hok n0 n1 hb
   ·by_cases ht : o.l00 = (n : Int)
    ·skip
     have he : makeE o 0 0 n = 11 := by
      unfold makeE
      rw [if_neg (show ¬ ¬ ((0 : Int) = 0 ∨ (0 : Int) = 1) by decide), if_neg (show ¬ 0 ≤ byO o 0 from hb), if_pos (show lastO o 0 0 = n from ht)]
     rw [he]; exact off.Make_time_00 _ _ _ _ _ _ n w hok n0 n1 (by omega) (by simpa using ht)
    ·skip
     have he : makeE o 0 0 n = 0 := by
      unfold makeE
      rw [if_neg (show ¬ ¬ ((0 : Int) = 0 ∨ (0 : Int) = 1) by decide), if_neg (show ¬ 0 ≤ byO o 0 from hb), if_neg (show ¬ lastO o 0 0 = n from ht), if_neg (fun h => absurd h.1 (by decide))]
     rw [he]; exact off.Make_ok_00 _ _ _ _ _ _ n w hok n0 n1 (by omega) (by simpa using ht)
  ·by_cases hb : 0 ≤ o.b0
   ·skip
    have he : makeE o 0 1 n = 7 := by
     unfold makeE
     rw [if_neg (show ¬ ¬ ((0 : Int) = 0 ∨ (0 : Int) = 1) by decide), if_pos (show 0 ≤ byO o 0 from hb)]
    rw [he]; exact off.Make_twice_01 _ _ _ _ _ _ n w hok n0 n1 hb
   ·by_cases ht : o.l01 = (n : Int)
    ·skip
     have he : makeE o 0 1 n = 11 := by
      unfold makeE
      rw [if_neg (show ¬ ¬ ((0 : Int) = 0 ∨ (0 : Int) = 1) by decide), if_neg (show ¬ 0 ≤ byO o 0 from hb), if_pos (show lastO o 0 1 = n from ht)]
     rw [he]; exact off.Make_time_01 _ _ _ _ _ _ n w hok n0 n1 (by omega) (by simpa using ht)
    ·skip
     have he : makeE o 0 1 n = 0 := by
      unfold makeE
      rw [if_neg (show ¬ ¬ ((0 : Int) = 0 ∨ (0 : Int) = 1) by decide), if_neg (show ¬ 0 ≤ byO o 0 from hb), if_neg (show ¬ lastO o 0 1 = n from ht), if_neg (fun h => absurd h.1 (by decide))]
     rw [he]; exact off.Make_ok_01 _ _ _ _ _ _ n w hok n0 n1 (by omega) (by simpa using ht)
  ·by_cases hb : 0 ≤ o.b1
   ·skip
    have he : makeE o 1 0 n = 7 := by
     unfold makeE
     rw [if_neg (show ¬ ¬ ((1 : Int) = 0 ∨ (1 : Int) = 1) by decide), if_pos (show 0 ≤ byO o 1 from hb)]
    rw [he]; exact off.Make_twice_10 _ _ _ _ _ _ n w hok n0 n1 hb
   ·by_cases ht : o.l10 = (n : Int)
    ·skip
     have he : makeE o 1 0 n = 11 := by
      unfold makeE
      rw [if_neg (show ¬ ¬ ((1 : Int) = 0 ∨ (1 : Int) = 1) by decide), if_neg (show ¬ 0 ≤ byO o 1 from hb), if_pos (show lastO o 1 0 = n from ht)]
     rw [he]; exact off.Make_time_10 _ _ _ _ _ _ n w hok n0 n1 (by omega) (by simpa using ht)
    ·by_cases hz : pliesO 0 n = 0
     ·skip
      have he : makeE o 1 0 n = 8 := by
       unfold makeE
       rw [if_neg (show ¬ ¬ ((1 : Int) = 0 ∨ (1 : Int) = 1) by decide), if_neg (show ¬ 0 ≤ byO o 1 from hb), if_neg (show ¬ lastO o 1 0 = n from ht), if_pos ⟨rfl, hz⟩]
      rw [he]; exact off.Make_none_10 _ _ _ _ _ _ n w hok n0 n1 (by omega) (by simpa using ht) (show (pliesO 0 n == 0) = true by simpa using hz)
     ·skip
      have he : makeE o 1 0 n = 0 := by
       unfold makeE
       rw [if_neg (show ¬ ¬ ((1 : Int) = 0 ∨ (1 : Int) = 1) by decide), if_neg (show ¬ 0 ≤ byO o 1 from hb), if_neg (show ¬ lastO o 1 0 = n from ht), if_neg (fun h => hz h.2)]
      rw [he]; exact off.Make_ok_10 _ _ _ _ _ _ n w hok n0 n1 (by omega) (by simpa using ht) (show (pliesO 0 n == 0) = false by simpa using hz)
  ·by_cases hb : 0 ≤ o.b1
   ·skip
    have he : makeE o 1 1 n = 7 := by
     unfold makeE
     rw [if_neg (show ¬ ¬ ((1 : Int) = 0 ∨ (1 : Int) = 1) by decide), if_pos (show 0 ≤ byO o 1 from hb)]
    rw [he]; exact off.Make_twice_11 _ _ _ _ _ _ n w hok n0 n1 hb
   ·by_cases ht : o.l11 = (n : Int)
    ·skip
     have he : makeE o 1 1 n = 11 := by
      unfold makeE
      rw [if_neg (show ¬ ¬ ((1 : Int) = 0 ∨ (1 : Int) = 1) by decide), if_neg (show ¬ 0 ≤ byO o 1 from hb), if_pos (show lastO o 1 1 = n from ht)]
     rw [he]; exact off.Make_time_11 _ _ _ _ _ _ n w hok n0 n1 (by omega) (by simpa using ht)
    ·by_cases hz : pliesO 1 n = 0
     ·skip
      have he : makeE o 1 1 n = 8 := by
       unfold makeE
       rw [if_neg (show ¬ ¬ ((1 : Int) = 0 ∨ (1 : Int) = 1) by decide), if_neg (show ¬ 0 ≤ byO o 1 from hb), if_neg (show ¬ lastO o 1 1 = n from ht), if_pos ⟨rfl, hz⟩]
      rw [he]; exact off.Make_none_11 _ _ _ _ _ _ n w hok n0 n1 (by omega) (by simpa using ht) (show (pliesO 1 n == 0) = true by simpa using hz)
     ·skip
      have he : makeE o 1 1 n = 0 := by
       unfold makeE
       rw [if_neg (show ¬ ¬ ((1 : Int) = 0 ∨ (1 : Int) = 1) by decide), if_neg (show ¬ 0 ≤ byO o 1 from hb), if_neg (show ¬ lastO o 1 1 = n from ht), if_neg (fun h => hz h.2)]
      rw [he]; exact off.Make_ok_11 _ _ _ _ _ _ n w hok n0 n1 (by omega) (by simpa using ht) (show (pliesO 1 n == 0) = false by simpa using hz)
 ·have he : makeE o k p n = 1 := by unfold makeE; rw [if_pos hk]
  rw [he]
  exact off.Make_kind _ _ _ _ _ _ k p n w hok (by omega)
theorem offOpen (fn : Bool) (o : OffZ) (k p : Int) (n : Nat) (w : World) (h : OffG o) (hp : p = 0 ∨ p = 1) (hn : n ≤ 400) :
  Calls Tryz.prog (if fn = true then 88 else 87) #[.agg #[.int .i64 o.b0, .int .i64 o.b1, .int .i64 o.l00, .int .i64 o.l01, .int .i64 o.l10, .int .i64 o.l11], .int .i64 k, .int .i64 p, .int .i64 n] w fun e w' => e = .returned (.tuple #[offA (if openE o k p n = 0 then (if fn = true then acceptO o else declineO o k) else zeroO), .int .i64 (openE o k p n)]) ∧ Below w.heap.size w w' := by
 have hok := h.ok
 have n0 : 0 ≤ (n : Int) := by omega
 have n1 : (n : Int) ≤ 400 := by omega
 by_cases hk : k = 0 ∨ k = 1
 ·cases fn <;> rcases hk with rfl | rfl <;> rcases hp with rfl | rfl
  ·by_cases hb : o.b0 = 1
   ·have he : openE o 0 0 n = 0 := by
     unfold openE
     rw [if_neg (show ¬ ¬ ((0 : Int) = 0 ∨ (0 : Int) = 1) by decide), if_neg (show ¬ byO o 0 ≠ 1 - 0 from fun h => h hb)]
    rw [he]; exact off.Decline_ok_00 _ _ _ _ _ _ n w hok n0 n1 (by simpa using hb)
   ·have he : openE o 0 0 n = 10 := by
     unfold openE
     rw [if_neg (show ¬ ¬ ((0 : Int) = 0 ∨ (0 : Int) = 1) by decide), if_pos (show byO o 0 ≠ 1 - 0 from hb)]
    rw [he]; exact off.Decline_state_00 _ _ _ _ _ _ n w hok n0 n1 (by simpa using hb)
  ·by_cases hb : o.b0 = 0
   ·have he : openE o 0 1 n = 0 := by
     unfold openE
     rw [if_neg (show ¬ ¬ ((0 : Int) = 0 ∨ (0 : Int) = 1) by decide), if_neg (show ¬ byO o 0 ≠ 1 - 1 from fun h => h hb)]
    rw [he]; exact off.Decline_ok_01 _ _ _ _ _ _ n w hok n0 n1 (by simpa using hb)
   ·have he : openE o 0 1 n = 10 := by
     unfold openE
     rw [if_neg (show ¬ ¬ ((0 : Int) = 0 ∨ (0 : Int) = 1) by decide), if_pos (show byO o 0 ≠ 1 - 1 from hb)]
    rw [he]; exact off.Decline_state_01 _ _ _ _ _ _ n w hok n0 n1 (by simpa using hb)
  ·by_cases hb : o.b1 = 1
   ·have he : openE o 1 0 n = 0 := by
     unfold openE
     rw [if_neg (show ¬ ¬ ((1 : Int) = 0 ∨ (1 : Int) = 1) by decide), if_neg (show ¬ byO o 1 ≠ 1 - 0 from fun h => h hb)]
    rw [he]; exact off.Decline_ok_10 _ _ _ _ _ _ n w hok n0 n1 (by simpa using hb)
   ·have he : openE o 1 0 n = 10 := by
     unfold openE
     rw [if_neg (show ¬ ¬ ((1 : Int) = 0 ∨ (1 : Int) = 1) by decide), if_pos (show byO o 1 ≠ 1 - 0 from hb)]
    rw [he]; exact off.Decline_state_10 _ _ _ _ _ _ n w hok n0 n1 (by simpa using hb)
  ·by_cases hb : o.b1 = 0
   ·have he : openE o 1 1 n = 0 := by
     unfold openE
     rw [if_neg (show ¬ ¬ ((1 : Int) = 0 ∨ (1 : Int) = 1) by decide), if_neg (show ¬ byO o 1 ≠ 1 - 1 from fun h => h hb)]
    rw [he]; exact off.Decline_ok_11 _ _ _ _ _ _ n w hok n0 n1 (by simpa using hb)
   ·have he : openE o 1 1 n = 10 := by
     unfold openE
     rw [if_neg (show ¬ ¬ ((1 : Int) = 0 ∨ (1 : Int) = 1) by decide), if_pos (show byO o 1 ≠ 1 - 1 from hb)]
    rw [he]; exact off.Decline_state_11 _ _ _ _ _ _ n w hok n0 n1 (by simpa using hb)
  ·by_cases hb : o.b0 = 1
   ·have he : openE o 0 0 n = 0 := by
     unfold openE
     rw [if_neg (show ¬ ¬ ((0 : Int) = 0 ∨ (0 : Int) = 1) by decide), if_neg (show ¬ byO o 0 ≠ 1 - 0 from fun h => h hb)]
    rw [he]; exact off.Accept_ok_00 _ _ _ _ _ _ n w hok n0 n1 (by simpa using hb)
   ·have he : openE o 0 0 n = 10 := by
     unfold openE
     rw [if_neg (show ¬ ¬ ((0 : Int) = 0 ∨ (0 : Int) = 1) by decide), if_pos (show byO o 0 ≠ 1 - 0 from hb)]
    rw [he]; exact off.Accept_state_00 _ _ _ _ _ _ n w hok n0 n1 (by simpa using hb)
  ·by_cases hb : o.b0 = 0
   ·have he : openE o 0 1 n = 0 := by
     unfold openE
     rw [if_neg (show ¬ ¬ ((0 : Int) = 0 ∨ (0 : Int) = 1) by decide), if_neg (show ¬ byO o 0 ≠ 1 - 1 from fun h => h hb)]
    rw [he]; exact off.Accept_ok_01 _ _ _ _ _ _ n w hok n0 n1 (by simpa using hb)
   ·have he : openE o 0 1 n = 10 := by
     unfold openE
     rw [if_neg (show ¬ ¬ ((0 : Int) = 0 ∨ (0 : Int) = 1) by decide), if_pos (show byO o 0 ≠ 1 - 1 from hb)]
    rw [he]; exact off.Accept_state_01 _ _ _ _ _ _ n w hok n0 n1 (by simpa using hb)
  ·by_cases hb : o.b1 = 1
   ·have he : openE o 1 0 n = 0 := by
     unfold openE
     rw [if_neg (show ¬ ¬ ((1 : Int) = 0 ∨ (1 : Int) = 1) by decide), if_neg (show ¬ byO o 1 ≠ 1 - 0 from fun h => h hb)]
    rw [he]; exact off.Accept_ok_10 _ _ _ _ _ _ n w hok n0 n1 (by simpa using hb)
   ·have he : openE o 1 0 n = 10 := by
     unfold openE
     rw [if_neg (show ¬ ¬ ((1 : Int) = 0 ∨ (1 : Int) = 1) by decide), if_pos (show byO o 1 ≠ 1 - 0 from hb)]
    rw [he]; exact off.Accept_state_10 _ _ _ _ _ _ n w hok n0 n1 (by simpa using hb)
  ·by_cases hb : o.b1 = 0
   ·have he : openE o 1 1 n = 0 := by
     unfold openE
     rw [if_neg (show ¬ ¬ ((1 : Int) = 0 ∨ (1 : Int) = 1) by decide), if_neg (show ¬ byO o 1 ≠ 1 - 1 from fun h => h hb)]
    rw [he]; exact off.Accept_ok_11 _ _ _ _ _ _ n w hok n0 n1 (by simpa using hb)
   ·have he : openE o 1 1 n = 10 := by
     unfold openE
     rw [if_neg (show ¬ ¬ ((1 : Int) = 0 ∨ (1 : Int) = 1) by decide), if_pos (show byO o 1 ≠ 1 - 1 from hb)]
    rw [he]; exact off.Accept_state_11 _ _ _ _ _ _ n w hok n0 n1 (by simpa using hb)
 ·have he : openE o k p n = 1 := by unfold openE; rw [if_pos hk]
  rw [he]
  cases fn
  ·exact off.Decline_kind _ _ _ _ _ _ k p n w hok (by omega)
  ·exact off.Accept_kind _ _ _ _ _ _ k p n w hok (by omega)
theorem offMove (o : OffZ) (p : Int) (w : World) (h : OffG o) (hp : p = 0 ∨ p = 1) :
  Calls Tryz.prog 126 #[.agg #[.int .i64 o.b0, .int .i64 o.b1, .int .i64 o.l00, .int .i64 o.l01, .int .i64 o.l10, .int .i64 o.l11], .int .i64 p] w fun e w' => e = .returned (.tuple #[offA (moveO o p), .int .i64 0]) ∧ Below w.heap.size w w' := by
 have hok := h.ok
 unfold moveO offA
 rcases hp with rfl | rfl
 ·by_cases hb : o.b0 = 1
  ·rw [if_pos (show o.b0 = 1 - 0 by omega)]; exact off.Move_hit_0 _ _ _ _ _ _ w hok (by simpa using hb)
  ·rw [if_neg (show ¬ o.b0 = 1 - 0 by omega)]; exact off.Move_miss_0 _ _ _ _ _ _ w hok (by simpa using hb)
 ·by_cases hb : o.b0 = 0
  ·rw [if_pos (show o.b0 = 1 - 1 by omega)]; exact off.Move_hit_1 _ _ _ _ _ _ w hok (by simpa using hb)
  ·rw [if_neg (show ¬ o.b0 = 1 - 1 by omega)]; exact off.Move_miss_1 _ _ _ _ _ _ w hok (by simpa using hb)
theorem offBack (o : OffZ) (n : Nat) (w : World) (h : OffG o) (hn : n ≤ 400) :
  Calls Tryz.prog 91 #[.agg #[.int .i64 o.b0, .int .i64 o.b1, .int .i64 o.l00, .int .i64 o.l01, .int .i64 o.l10, .int .i64 o.l11], .int .i64 n] w fun e w' => e = .returned (.tuple #[offA (backO o n), .int .i64 0]) ∧ Below w.heap.size w w' :=
 off.Back_n _ _ _ _ _ _ n w h.ok (by omega) (by omega)
end Go.Proofs.YtnodagljaoonjaaGreatDoor
namespace Go.Proofs.YtnodagljaoonjaaGreatDoor
open Go.ChangeShapes Go.WideShapes Go.ChangeAt Go.RowKit
set_option linter.unusedVariables false
theorem MatchAt.played {S : Nat → Prop} {base : Nat} {w w' : World} {b : Nat} {M : MatZ} {B : MatB} (h : MatchAt S base w b M B) {S' : Nat → Prop} {ms' : List MoveZ} {up us ue vl vm : Value} {rows : List PosV} (hg : gx.GameAt (one1 b) S' base w' B.g M.R ms' up us ue vl vm rows) (hs : Shr w S S') (hf : Fr S w w') :
  MatchAt S' base w' b { M with ms := ms' } B ∧ MFr S b w w' :=
 ⟨⟨h.box.held hf h.nb, fun hb => h.nb (hs b h.box.lt hb), h.lo, ⟨_, _, _, _, _, _, hg⟩, (h.rd.step hf hs).imp (fun _ h => ⟨h.rd, h.per, h.pc, h.pr, h.jr⟩)⟩, hf.mono (fun k _ h => .inl h)⟩
theorem clk_one (c : ClkZ) : (#[.int .i64 c.l0, .int .i64 c.l1, .int .i64 c.m0, .int .i64 c.m1, .int .i64 c.p0, .int .i64 c.p1, .int .i64 c.turn, .int .i64 c.since, .bool c.st, .int .i64 c.fallen] : Array Value).all (·.oneCell') = true := by simp [Value.oneCell']
/-- what a move asks. -/
structure MovePre (M : MatZ) (x : MoveZ) (now : Int) : Prop where
 pe : playErr M.R M.ms x = 0
 cr : CrG M.CR
 ck : ClkG M.CR M.clk
 sn : M.clk.since ≤ now
 nw : now ≤ 100000000
 st : M.clk.st = false
 fl : M.clk.fallen < 0
 us : usedC M.CR M.clk now ≤ if M.clk.turn = 0 then M.clk.l0 else M.clk.l1
 og : OffG M.off
 tn : M.pos.turn = 0 ∨ M.pos.turn = 1
variable {S : Nat → Prop} {base b : Nat} {M : MatZ} {B : MatB}
set_option maxRecDepth 100000 in
set_option maxHeartbeats 8000000 in
theorem move_any (HS : SortMvSaid) (x : MoveZ) (now : Int) (w : World) (h : MatchAt S base w b M B) (hb : base ≤ w.heap.size) (hp : MovePre M x now) : Calls Tryz.prog 84 #[.pointer (some ⟨b, 0, none⟩), .agg #[.int .i64 x.src, .int .i64 x.dst, .int .i64 x.piece], .int .i64 now] w fun e w' => e = .returned (.tuple #[]) ∧ MPost S base b w (M.move x now) w' := by
 have HSh := Lib.hid HS
 have HM := Lib.hid h
 have HC := Lib.hid hp
 have HBb := Lib.hid hb
 have HPE := Lib.hid hp.pe
 have HSX : Hid (¬ S w.heap.size) := Lib.hid (fun hk => by obtain ⟨up, us, ue, vl, vm, rows, hg⟩ := h.game; have := (hg.lo _ hk).2; omega)
 clear h hb hp HS
 go_enter Tryz.func84, Tryz.ntmps84
 go_upto_region 1 with (fail)
 refine opn1 fun w0 y0_ yb_ hs_ => ?_
 have HX0 := Lib.hid y0_
 have HB0 := Lib.hid yb_
 clear hs_ y0_ yb_
 have HM0 := Lib.hid (HM.out.below HB0.out)
 go_wp2_with fail
 refine (turn_any w0 HM0.out).mono ?_
 rintro e w1 ⟨rfl, hb1⟩
 have HB1 := Lib.hid (below_trans HB0.out hb1 HB0.out.size)
 have HX1 := Lib.hid (HX0.out.stays hb1)
 clear hb1 HX0 HM0 HB0
 go_upto_region 2 with (fail)
 generalize w1 = wq at *
 have L1 : Below w.heap.size w wq.drew := below_drew' HB1.out
 have Mz : MatchAt S base wq.drew b M B := HM.out.below L1
 have Xz := HX1.out.drew
 have Lb : base ≤ wq.drew.heap.size := Nat.le_trans HBb.out L1.size
 have HS0 : Hid (∀ S', Shr wq.drew S S' → Shr w S S') := Lib.hid (fun S' h k hk h' => h k (Nat.lt_of_lt_of_le hk L1.size) h')
 have HF0 : Hid (MFr S b w wq.drew) := Lib.hid (MFr.new L1)
 obtain ⟨up, us, ue, vl, vm, rows, Gz⟩ := Mz.game
 clear HB1 HX1 HM L1
 refine wp_region_noPanic ?_
 refine beginL (S := (fun w' => w'.cell? ⟨b, 14, none⟩ = some (.pointer (some ⟨B.g, 0, none⟩)) ∧ w'.cell? ⟨w.heap.size, 0, none⟩ = some (.int .i64 x.src) ∧ w'.cell? ⟨w.heap.size, 1, none⟩ = some (.int .i64 x.dst) ∧ w'.cell? ⟨w.heap.size, 2, none⟩ = some (.int .i64 x.piece))) (L := []) (by kernel_rfl) ⟨Mz.box.cell 14 rfl, Xz.cell 0 rfl, Xz.cell 1 rfl, Xz.cell 2 rfl⟩ (fun hHeld => ?_)
 refine tkW 0 ?_
 refine tkL 4 ?_
 refine tkW 1 ?_
 refine tkW 2 ?_
 refine tkL 3 ?_
 refine cnL 5 fun K hK => ?_
 go_simp
 refine (gx.Play_any HSh.out x _ Gz Lb (fun k hk => by rw [show k = b from hk]; exact Mz.box.lt)).mono ?_
 rintro e w5 hp
 rcases hp with ⟨hn, -⟩ | ⟨-, rfl, S', vl', vm', rows', hg', hs, hf⟩
 ·exact absurd HPE.out hn
 have MP := Mz.played hg' hs hf
 have X5 := Xz.held hf HSX.out
 clear hg' hf
 refine hK.out _ _ ⟨MP.1.box.cell 14 rfl, X5.cell 0 rfl, X5.cell 1 rfl, X5.cell 2 rfl⟩ (fun hHeld => ?_)
 clear hK K
 refine dnN ?_
 have HM5 := Lib.hid MP.1
 have HF5 := Lib.hid MP.2
 have HS5 := Lib.hid hs
 clear MP X5 hs hHeld Gz Mz Xz Lb
 go_upto_region 3 with (fail)
 have HFa : Hid (MFr S b w w5.drew) := Lib.hid (Fr.drew (MFr.trans HF0.out HF5.out (Shr.refl _ _)))
 have HSa : Hid (Shr w S S') := Lib.hid (HS0.out S' HS5.out)
 clear HF0 HS0 HF5 HS5
 generalize w5 = wq at *
 have Mz : MatchAt S' base wq.drew b { M with ms := M.ms ++ [x] } B := HM5.out.below (below_drew' (Below.refl _ _))
 clear HM5
 refine wp_region_noPanic ?_
 refine beginL (S := (fun w' => w'.cell? ⟨b, 11, none⟩ = some (.slice B.pa M.CR.ps.length B.pc) ∧ w'.cell? ⟨b, 12, none⟩ = some (.int .i64 M.CR.inc) ∧ w'.cell? ⟨b, 13, none⟩ = some (.int .i64 M.CR.delay) ∧ w'.cell? ⟨b, 18, none⟩ = some (.int .i64 M.clk.l0) ∧ w'.cell? ⟨b, 19, none⟩ = some (.int .i64 M.clk.l1) ∧ w'.cell? ⟨b, 20, none⟩ = some (.int .i64 M.clk.m0) ∧ w'.cell? ⟨b, 21, none⟩ = some (.int .i64 M.clk.m1) ∧ w'.cell? ⟨b, 22, none⟩ = some (.int .i64 M.clk.p0) ∧ w'.cell? ⟨b, 23, none⟩ = some (.int .i64 M.clk.p1) ∧ w'.cell? ⟨b, 24, none⟩ = some (.int .i64 M.clk.turn) ∧ w'.cell? ⟨b, 25, none⟩ = some (.int .i64 M.clk.since) ∧ w'.cell? ⟨b, 26, none⟩ = some (.bool M.clk.st) ∧ w'.cell? ⟨b, 27, none⟩ = some (.int .i64 M.clk.fallen))) (L := [18]) (by kernel_rfl) (by and_intros <;> exact Mz.box.cell _ rfl) (fun hHeld => ?_)
 refine tkW 0 ?_
 refine tkW 1 ?_
 refine tkW 5 ?_
 refine tkW 10 ?_
 refine tkW 2 ?_
 refine tkW 6 ?_
 refine tkW 3 ?_
 refine tkW 7 ?_
 refine tkL 4 ?_
 refine tkW 8 ?_
 refine tkL 9 ?_
 refine cnL 11 fun K hK => ?_
 go_simp
 refine (pressC_any M.CR M.clk now B.pa B.pc _ HC.out.cr HC.out.ck HC.out.sn HC.out.nw HC.out.st HC.out.fl HC.out.us Mz.fr.per).mono ?_
 rintro e w11 ⟨rfl, hb11⟩
 unfold clkA
 have M11 := Mz.below hb11
 have F11 := hb11
 refine hK.out _ _ (by and_intros <;> exact M11.box.cell _ rfl) (fun hHeld => ?_)
 clear hK K
 refine tkW 12 ?_
 refine tkW 13 ?_
 refine tkW 14 ?_
 refine tkW 15 ?_
 refine tkW 16 ?_
 refine tkW 17 ?_
 refine ltL 18 fun K hK => ?_
 rw [if_pos (by rfl)]
 refine wp_store_mid 44 (.tmp 32) (.tmp 28) (by rfl) b 18 #[.int .i64 (pressC M.CR M.clk now).l0, .int .i64 (pressC M.CR M.clk now).l1, .int .i64 (pressC M.CR M.clk now).m0, .int .i64 (pressC M.CR M.clk now).m1, .int .i64 (pressC M.CR M.clk now).p0, .int .i64 (pressC M.CR M.clk now).p1, .int .i64 (pressC M.CR M.clk now).turn, .int .i64 (pressC M.CR M.clk now).since, .bool (pressC M.CR M.clk now).st, .int .i64 (pressC M.CR M.clk now).fallen] (by rfl) (by rfl) (M11.box.has 18 10 (by simp [matV])) (by kernel_rfl) (clk_one (pressC M.CR M.clk now)) ?_
 refine K_world ?_
 intro w18 e18
 have E18 := Lib.hid e18
 clear e18
 refine hK.out _ _ ?_
 clear hK K
 refine dnN ?_
 have MP := M11.put (M' := { M with ms := M.ms ++ [x], clk := (pressC M.CR M.clk now) }) (B' := B) 18 [.int .i64 (pressC M.CR M.clk now).l0, .int .i64 (pressC M.CR M.clk now).l1, .int .i64 (pressC M.CR M.clk now).m0, .int .i64 (pressC M.CR M.clk now).m1, .int .i64 (pressC M.CR M.clk now).p0, .int .i64 (pressC M.CR M.clk now).p1, .int .i64 (pressC M.CR M.clk now).turn, .int .i64 (pressC M.CR M.clk now).since, .bool (pressC M.CR M.clk now).st, .int .i64 (pressC M.CR M.clk now).fallen] (by simp) rfl rfl rfl rfl (M11.rd.imp (fun _ h => ⟨h.rd, h.per, h.pc, h.pr, h.jr⟩))
 have HM18 : Hid (MatchAt S' base w18 b { M with ms := M.ms ++ [x], clk := (pressC M.CR M.clk now) } B) := Lib.hid (by rw [E18.out]; exact MP.1)
 have HF18 : Hid (MFr S' b wq.drew w18) := Lib.hid (by rw [E18.out]; exact (MFr.new F11).trans MP.2 (Shr.refl _ _))
 clear MP E18 M11 F11 hHeld Mz
 go_upto_region 4 with (fail)
 generalize w18 = w8 at *
 have c28 := HM18.out.box.cell 28 rfl
 have c29 := HM18.out.box.cell 29 rfl
 have c30 := HM18.out.box.cell 30 rfl
 have c31 := HM18.out.box.cell 31 rfl
 have c32 := HM18.out.box.cell 32 rfl
 have c33 := HM18.out.box.cell 33 rfl
 go_wp2_with fail
 refine (offMove M.off M.pos.turn w8 HC.out.og HC.out.tn).mono ?_
 rintro e w9 ⟨rfl, hb9⟩
 unfold offA
 have HM9 := Lib.hid (HM18.out.below hb9)
 have HF9 : Hid (MFr S' b w8 w9) := Lib.hid (MFr.new hb9)
 clear hb9 c28 c29 c30 c31 c32 c33
 have c28 := HM9.out.box.cell 28 rfl
 have f28 := HM9.out.box.frozen 28
 have c29 := HM9.out.box.cell 29 rfl
 have f29 := HM9.out.box.frozen 29
 have c30 := HM9.out.box.cell 30 rfl
 have f30 := HM9.out.box.frozen 30
 have c31 := HM9.out.box.cell 31 rfl
 have f31 := HM9.out.box.frozen 31
 have c32 := HM9.out.box.cell 32 rfl
 have f32 := HM9.out.box.frozen 32
 have c33 := HM9.out.box.cell 33 rfl
 have f33 := HM9.out.box.frozen 33
 have HP := Lib.hid (HM9.out.put (M' := M.move x now) (B' := B) 28 [.int .i64 (moveO M.off M.pos.turn).b0, .int .i64 (moveO M.off M.pos.turn).b1, .int .i64 (moveO M.off M.pos.turn).l00, .int .i64 (moveO M.off M.pos.turn).l01, .int .i64 (moveO M.off M.pos.turn).l10, .int .i64 (moveO M.off M.pos.turn).l11] (by simp) rfl rfl rfl rfl (HM9.out.rd.imp (fun _ h => ⟨h.rd, h.per, h.pc, h.pr, h.jr⟩)))
 generalize (moveO M.off M.pos.turn) = om at *
 go_wp2_with fail
 go_end0
 exact ⟨rfl, S', B, HP.out.1, HSa.out, MFr.trans HFa.out (HF18.out.trans (HF9.out.trans HP.out.2 (Shr.refl _ _)) (Shr.refl _ _)) HSa.out⟩
end Go.Proofs.YtnodagljaoonjaaGreatDoor
namespace Go.Proofs.YtnodagljaoonjaaGreatDoor
open Go.ChangeShapes Go.WideShapes Go.ChangeAt Go.RowKit
set_option linter.unusedVariables false
/-- what stays true within an event. -/
structure Mid (M : MatZ) (now : Int) : Prop where
 nm : M.R.name.size ≤ maxLen
 cr : CrG M.CR
 ck : ClkG M.CR M.clk
 sn : M.clk.since ≤ now
 nw : now ≤ 100000000
 st : M.clk.st = false
 fl : M.clk.fallen < 0
 og : OffG M.off
 pr : PremG M.prem
 us : usedC M.CR M.clk now ≤ if M.clk.turn = 0 then M.clk.l0 else M.clk.l1
theorem Mid.n0 {M : MatZ} {now : Int} (h : Mid M now) : 0 ≤ now := by have := h.ck.s; have := h.sn; omega
theorem Mid.move {M : MatZ} {now : Int} (h : Mid M now) (x : MoveZ) : Mid (M.move x now) now := by
 have hr := press_rest M.CR M.clk now
 have hg : ClkG M.CR (pressC M.CR M.clk now) := press_g h.cr h.ck h.n0 h.nw h.us
 refine ⟨h.nm, h.cr, hg, ?_, h.nw, ?_, ?_, move_og h.og _, h.pr, ?_⟩
 ·show (pressC M.CR M.clk now).since ≤ now; rw [hr.1]; exact Int.le_refl _
 ·show (pressC M.CR M.clk now).st = false; rw [hr.2.2]; exact h.st
 ·show (pressC M.CR M.clk now).fallen < 0; rw [hr.2.1]; exact h.fl
 ·show usedC M.CR (pressC M.CR M.clk now) now ≤ _
  rw [used_zero h.cr hr.1]
  have h0 := hg.l0; have h1 := hg.l1
  show 0 ≤ if (pressC M.CR M.clk now).turn = 0 then (pressC M.CR M.clk now).l0 else (pressC M.CR M.clk now).l1
  split <;> omega
theorem Mid.rest {M : MatZ} {now : Int} (h : Mid M now) : Mid { M with prem := nextRest M.R M.pos M.prem } now :=
 ⟨h.nm, h.cr, h.ck, h.sn, h.nw, h.st, h.fl, h.og, h.pr.sub (rest_sub _ _ _), h.us⟩
theorem runs_step (now : Int) (f : Nat) (M : MatZ) (h : M.game = 0) (hl : M.ms.length < 400) (hf : 0 < f) :
  MatZ.runs now f M = if nextOk M.R M.pos M.prem = true then MatZ.runs now (f - 1) (MatZ.move { M with prem := nextRest M.R M.pos M.prem } (nextMv M.R M.pos M.prem) now) else { M with prem := nextRest M.R M.pos M.prem } := by
 obtain ⟨f, rfl⟩ : ∃ k, f = k + 1 := ⟨f - 1, by omega⟩
 rw [MatZ.runs, if_pos ⟨h, hl⟩]; rfl
theorem runs_stop (now : Int) (f : Nat) (M : MatZ) (h : ¬ (M.game = 0 ∧ M.ms.length < 400)) : MatZ.runs now f M = M := by
 cases f with
 | zero => rfl
 | succ f => rw [MatZ.runs, if_neg h]
theorem next_mem {R : RulesZ} {p : PosZ} {l : List PremZ} (h : nextOk R p l = true) : nextMv R p l ∈ movesZ R p := by
 unfold nextMv
 rw [if_pos h]
 unfold nextOk at h
 rw [Bool.and_eq_true] at h
 exact of_decide_eq_true h.2
theorem moves_list {R : RulesZ} {p : PosZ} {m : MoveZ} (h : m ∈ movesZ R p) : m ∈ listZ R p := by
 unfold movesZ at h
 split at h
 ·exact h
 ·cases h
theorem play_zero {R : RulesZ} {ms : List MoveZ} {m : MoveZ} (h1 : gameRes R ms = 0) (h2 : m ∈ movesZ R (nowZ R ms)) (h3 : ms.length ≠ 400) : playErr R ms m = 0 := by
 unfold playErr
 rw [if_neg (by simp [h1]), if_neg (by simpa using moves_list h2), if_neg h3]
theorem prem_zero {l : List PremZ} (h : PremG l) : premErr l = 0 := by
 unfold premErr
 have h0 := h.n0; have h1 := h.n1
 rw [if_neg (by omega), if_neg]
 intro hc
 rw [List.any_eq_true] at hc
 obtain ⟨x, hx, hb⟩ := hc
 rcases h.pl x hx with e | e <;> simp [e] at hb
end Go.Proofs.YtnodagljaoonjaaGreatDoor

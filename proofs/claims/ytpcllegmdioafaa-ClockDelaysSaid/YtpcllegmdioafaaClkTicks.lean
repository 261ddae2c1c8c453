/- The contracts of clock.Start, of the statements' own minute and ticks; clock.Left for every input; a rule and a clock opened. -/
import Derived.Test.YtpcllegmdioafaaClkLeft
import Derived.Test.YtpcllegmdioafaaOpen
namespace Go.Proofs.Ytpcllegmdioafaa
open Go.ChangeShapes Go.WideShapes Go.ChangeAt Go.RowKit
set_option linter.unusedVariables false


theorem minute_any (w : World) :
    Calls Try.prog 15 #[] w fun e w' => e = .returned (.agg #[.slice (some ⟨w.heap.size + 1, 0, none⟩) 1 1, .int .i64 1000, .int .i64 0]) ∧ (w.alloc (.cells #[.slice (some ⟨w.heap.size + 1, 0, none⟩) 1 1, .int .i64 1000, .int .i64 0] 24)).alloc (.cells #[.int .i64 0, .int .i64 60000] 43) = w' := by
  go_enter Try.func15, Try.ntmps15
  go_wp2
  go_returns
  exact ⟨rfl, rfl⟩

theorem minute_ok : RuleOk 1 1000 0 [(0, 60000)] := by
  refine ⟨by omega, by omega, by omega, fun k hk => ?_⟩
  obtain rfl : k = 0 := by omega
  decide

set_option maxHeartbeats 1000000 in
theorem Start_min (b : Nat) (w : World) (hb0 : b < w.heap.size) (hc0 : w.cell? ⟨b, 0, none⟩ = some (.int .i64 0)) (hc1 : w.cell? ⟨b, 1, none⟩ = some (.int .i64 60000)) :
    Calls Try.prog 14 #[.agg #[.slice (some ⟨b, 0, none⟩) 1 1, .int .i64 1000, .int .i64 0], .int .i64 5] w fun e w' => e = .returned (.tuple #[.agg #[.int .i64 60000, .int .i64 60000, .int .i64 0, .int .i64 0, .int .i64 0, .int .i64 0, .int .i64 0, .int .i64 5, .bool false, .int .i64 (-1)], .int .i64 0]) ∧ Below w.heap.size w w' := by
  have hp : PerAt w w.heap.size (some ⟨b, 0, none⟩) 1 [(0, 60000)] := ⟨rfl, fun _ => ⟨b, 0, rfl, hb0, fun k hk => by
    obtain rfl : k = 0 := by omega
    exact ⟨hc0, hc1⟩⟩⟩
  have hP := Lib.hid ((hp.alloc (.cells #[.slice (some ⟨b, 0, none⟩) 1 1, .int .i64 1000, .int .i64 0] 24)).alloc (.cells #[.int .i64 0, .int .i64 0, .int .i64 0, .int .i64 0, .int .i64 0, .int .i64 0, .int .i64 0, .int .i64 0, .bool false, .int .i64 0] 27))
  clear hp
  have e0 : witB 5 0 100000000 = true := by decide
  go_enter Try.func14, Try.ntmps14
  go_wp2_with fail
  refine (Check_any (some ⟨b, 0, none⟩) 1 1 1000 0 [(0, 60000)] _ (by omega) hP.out).mono ?_
  rintro e w1 ⟨c, rfl, hc, hb⟩
  obtain rfl : c = 0 := hc.2 minute_ok
  clear hc
  obtain ⟨hcell, hfr⟩ := bcell hb
  have hs := hb.size
  (try simp only [World.size_alloc] at hs)
  have hz0 : w.heap.size < w1.heap.size := by omega
  have hz1 : w.heap.size + 1 < w1.heap.size := by omega
  have hz3 : b < w1.heap.size := by omega
  have hz4 : b < w.heap.size + 1 + 1 := by omega
  have hz5 : b < w.heap.size + 1 := by omega
  have hbel := (((Below.refl w.heap.size w).alloc (by go_size) _).alloc (by go_size) _).trans (hb.mono (by go_size))
  go_wp2_with (go_at_call 16; refine (within_any _ _ _ _).mono ?_; rintro e w' ⟨rfl, rfl⟩)
  refine bodyPost_ret (v := .tuple #[.agg #[.int .i64 60000, .int .i64 60000, .int .i64 0, .int .i64 0, .int .i64 0, .int .i64 0, .int .i64 0, .int .i64 5, .bool false, .int .i64 (-1)], .int .i64 0]) (by simp [results, Try.results14, go_sem, hcell]) rfl ?_
  refine ⟨rfl, ?_⟩
  go_grown

theorem six (w : World) : (binOp .eql 25 (.agg #[.int .i64 60000, .int .i64 60000]) (.agg #[.int .i64 60000, .int .i64 60000])).run Try.prog w = .ok (.bool true) w := by kernel_rfl
set_option maxHeartbeats 1000000 in
theorem ticks_any (w : World) :
    Calls Try.prog 7 #[] w fun e w' => e = .returned (.bool true) ∧ Below w.heap.size w w' := by
  have h6 := six
  go_enter Try.func7, Try.ntmps7
  go_wp2_with fail
  refine (minute_any _).mono ?_
  rintro e w1 ⟨rfl, rfl⟩
  go_wp2_with fail
  refine (Start_min (w.heap.size + 1) _ (by simp) (by simp [go_sem]) (by simp [go_sem])).mono ?_
  rintro e w1 ⟨rfl, hb⟩
  have hs := hb.size
  (try simp only [World.size_alloc] at hs)
  have hbel := ((((Below.refl w.heap.size w).alloc (by go_size) _).alloc (by go_size) _).trans (hb.mono (by go_size)))
  go_wp2
  go_ret
  refine ⟨rfl, ?_⟩
  go_grown

/-- time by player. -/
def ofP (k a b : Int) : Int := if k = 0 then a else b
def LeftOk (n : Nat) (inc delay : Int) (ps : List (Int × Int)) (l0 l1 m0 m1 p0 p1 turn since fallen pl now : Int) : Prop := RuleOk n inc delay ps ∧ ClkOk n l0 l1 m0 m1 p0 p1 turn since fallen ∧ (0 ≤ pl ∧ pl ≤ 1) ∧ (since ≤ now ∧ now ≤ 100000000)
def LeftPost (ok : Prop) (z : Int) (w : World) (e : Ending) (w' : World) : Prop := ∃ x c : Int, e = .returned (.tuple #[.int .i64 x, .int .i64 c]) ∧ (c = 0 ↔ ok) ∧ (ok → x = z) ∧ (¬ ok → x = 0) ∧ Below w.heap.size w w'

theorem Left_any (A : Option Addr) (n cap : Nat) (inc delay : Int) (ps : List (Int × Int)) (l0 l1 m0 m1 p0 p1 turn since fallen : Int) (st : Bool) (pl now : Int) (w : World) (hn : n ≤ 9223372036854775807) (hp : PerAt w w.heap.size A n ps) :
    Calls Try.prog 8 #[.agg #[.slice A n cap, .int .i64 inc, .int .i64 delay], .agg #[.int .i64 l0, .int .i64 l1, .int .i64 m0, .int .i64 m1, .int .i64 p0, .int .i64 p1, .int .i64 turn, .int .i64 since, .bool st, .int .i64 fallen], .int .i64 pl, .int .i64 now] w (LeftPost (LeftOk n inc delay ps l0 l1 m0 m1 p0 p1 turn since fallen pl now) (leftZ (pl == turn) fallen (ofP turn l0 l1) (ofP pl l0 l1) (usedZ st delay since now)) w) := by
  cases e1 : witB pl 0 1
  · have hn1 : ¬ LeftOk n inc delay ps l0 l1 m0 m1 p0 p1 turn since fallen pl now := fun h => by have := witB_true h.2.2.1; rw [e1] at this; cases this
    exact (Left_arg A n cap inc delay ps l0 l1 m0 m1 p0 p1 turn since fallen st pl now w hn hp e1).mono fun e w' ⟨he, hb⟩ => ⟨0, 1, he, ⟨(fun h => by cases h), fun h => absurd h hn1⟩, fun h => absurd h hn1, fun _ => rfl, hb⟩
  · by_cases hv : RuleOk n inc delay ps ∧ ClkOk n l0 l1 m0 m1 p0 p1 turn since fallen
    · cases e0 : witB now since 100000000
      · have hn1 : ¬ LeftOk n inc delay ps l0 l1 m0 m1 p0 p1 turn since fallen pl now := fun h => by have := witB_true h.2.2.2; rw [e0] at this; cases this
        exact (Left_time A n cap inc delay ps l0 l1 m0 m1 p0 p1 turn since fallen st pl now w hn hp e1 hv.1 hv.2 e0).mono fun e w' ⟨he, hb⟩ => ⟨0, 11, he, ⟨(fun h => by cases h), fun h => absurd h hn1⟩, fun h => absurd h hn1, fun _ => rfl, hb⟩
      · have hok : LeftOk n inc delay ps l0 l1 m0 m1 p0 p1 turn since fallen pl now := ⟨hv.1, hv.2, witB_iff.1 e1, witB_iff.1 e0⟩
        have hpl := witB_iff.1 e1
        have htu := hv.2.1
        have key : ∀ Z : Int, Z = leftZ (pl == turn) fallen (ofP turn l0 l1) (ofP pl l0 l1) (usedZ st delay since now) → ∀ e w', (e = Ending.returned (.tuple #[.int .i64 Z, .int .i64 0]) ∧ Below w.heap.size w w') → LeftPost (LeftOk n inc delay ps l0 l1 m0 m1 p0 p1 turn since fallen pl now) (leftZ (pl == turn) fallen (ofP turn l0 l1) (ofP pl l0 l1) (usedZ st delay since now)) w e w' :=
          fun Z hZ e w' ⟨he, hb⟩ => ⟨Z, 0, he, ⟨fun _ => hok, fun _ => rfl⟩, fun _ => hZ, fun h => absurd hok h, hb⟩
        have ht : turn = 0 ∨ turn = 1 := by omega
        have hq : pl = 0 ∨ pl = 1 := by omega
        rcases ht with rfl | rfl <;> rcases hq with rfl | rfl
        · by_cases hf : 0 ≤ fallen
          · exact (Left_over_00 A n cap inc delay ps l0 l1 m0 m1 p0 p1 since fallen st now w hn hp hv.1 hv.2 e0 hf).mono (key _ rfl)
          · by_cases hu : l0 < usedZ st delay since now
            · exact (Left_fall_00 A n cap inc delay ps l0 l1 m0 m1 p0 p1 since fallen st now w hn hp hv.1 hv.2 e0 (by omega) hu).mono (key _ rfl)
            · exact (Left_stay_00 A n cap inc delay ps l0 l1 m0 m1 p0 p1 since fallen st now w hn hp hv.1 hv.2 e0 (by omega) (by omega)).mono (key _ rfl)
        · by_cases hf : 0 ≤ fallen
          · exact (Left_over_01 A n cap inc delay ps l0 l1 m0 m1 p0 p1 since fallen st now w hn hp hv.1 hv.2 e0 hf).mono (key _ rfl)
          · by_cases hu : l0 < usedZ st delay since now
            · exact (Left_fall_01 A n cap inc delay ps l0 l1 m0 m1 p0 p1 since fallen st now w hn hp hv.1 hv.2 e0 (by omega) hu).mono (key _ rfl)
            · exact (Left_stay_01 A n cap inc delay ps l0 l1 m0 m1 p0 p1 since fallen st now w hn hp hv.1 hv.2 e0 (by omega) (by omega)).mono (key _ rfl)
        · by_cases hf : 0 ≤ fallen
          · exact (Left_over_10 A n cap inc delay ps l0 l1 m0 m1 p0 p1 since fallen st now w hn hp hv.1 hv.2 e0 hf).mono (key _ rfl)
          · by_cases hu : l1 < usedZ st delay since now
            · exact (Left_fall_10 A n cap inc delay ps l0 l1 m0 m1 p0 p1 since fallen st now w hn hp hv.1 hv.2 e0 (by omega) hu).mono (key _ rfl)
            · exact (Left_stay_10 A n cap inc delay ps l0 l1 m0 m1 p0 p1 since fallen st now w hn hp hv.1 hv.2 e0 (by omega) (by omega)).mono (key _ rfl)
        · by_cases hf : 0 ≤ fallen
          · exact (Left_over_11 A n cap inc delay ps l0 l1 m0 m1 p0 p1 since fallen st now w hn hp hv.1 hv.2 e0 hf).mono (key _ rfl)
          · by_cases hu : l1 < usedZ st delay since now
            · exact (Left_fall_11 A n cap inc delay ps l0 l1 m0 m1 p0 p1 since fallen st now w hn hp hv.1 hv.2 e0 (by omega) hu).mono (key _ rfl)
            · exact (Left_stay_11 A n cap inc delay ps l0 l1 m0 m1 p0 p1 since fallen st now w hn hp hv.1 hv.2 e0 (by omega) (by omega)).mono (key _ rfl)
    · have hn1 : ¬ LeftOk n inc delay ps l0 l1 m0 m1 p0 p1 turn since fallen pl now := fun h => hv ⟨h.1, h.2.1⟩
      exact (Left_bad A n cap inc delay ps l0 l1 m0 m1 p0 p1 turn since fallen st pl now w hn hp e1 hv).mono fun e w' ⟨c, hc, he, hb⟩ => ⟨0, c, he, ⟨fun h => absurd h hc, fun h => absurd h hn1⟩, fun h => absurd h hn1, fun _ => rfl, hb⟩

/-! ### the arguments opened -/
theorem openC {w : World} {r : Reach} {base : Nat} {v : Value} (h : Value.okWide Try.prog w r base 27 v) :
    ∃ (l0 l1 m0 m1 p0 p1 turn since fallen : Int) (st : Bool), v = .agg #[.int .i64 l0, .int .i64 l1, .int .i64 m0, .int .i64 m1, .int .i64 p0, .int .i64 p1, .int .i64 turn, .int .i64 since, .bool st, .int .i64 fallen] := by
  obtain ⟨cs, rfl, hl, hc⟩ := okWide_cells (ts := [3, 3, 3, 3, 3, 3, 3, 3, 4, 3]) Try.underlying27 (by kernel_rfl) (by kernel_rfl) h
  match cs, hl with
  | [c0, c1, c2, c3, c4, c5, c6, c7, c8, c9], _ =>
    have f : ∀ (i : Nat) (x : Value), [3, 3, 3, 3, 3, 3, 3, 3, 4, 3][i]? = some 3 → [c0, c1, c2, c3, c4, c5, c6, c7, c8, c9][i]? = some x → ∃ n : Int, x = .int .i64 n := by
      intro i x hi hx
      obtain ⟨u, hu, hk⟩ := hc i x hx
      rw [hi] at hu
      cases hu
      obtain ⟨n, rfl, _⟩ := cell_int Try.underlying3 hk
      exact ⟨n, rfl⟩
    obtain ⟨n0, rfl⟩ := f 0 c0 rfl rfl
    obtain ⟨n1, rfl⟩ := f 1 c1 rfl rfl
    obtain ⟨n2, rfl⟩ := f 2 c2 rfl rfl
    obtain ⟨n3, rfl⟩ := f 3 c3 rfl rfl
    obtain ⟨n4, rfl⟩ := f 4 c4 rfl rfl
    obtain ⟨n5, rfl⟩ := f 5 c5 rfl rfl
    obtain ⟨n6, rfl⟩ := f 6 c6 rfl rfl
    obtain ⟨n7, rfl⟩ := f 7 c7 rfl rfl
    obtain ⟨n9, rfl⟩ := f 9 c9 rfl rfl
    obtain ⟨u, hu, hk⟩ := hc 8 c8 rfl
    cases hu
    obtain ⟨b, rfl⟩ := cell_bool Try.underlying4 hk
    exact ⟨n0, n1, n2, n3, n4, n5, n6, n7, n9, b, rfl⟩

theorem openR {H : Type} {enc : TypeId × Value → H} {w : World} {r : Reach} {base : Nat} {v : Value} {d : DataW H} {p : List MemPlace} (h : Value.okWide Try.prog w r base 24 v) (hd : DataW.Trod enc Try.prog w 0 (fun _ => true) true 24 v d p) :
    ∃ (A : Option Addr) (n cap : Nat) (inc delay : Int) (ps : List (Int × Int)), v = .agg #[.slice A n cap, .int .i64 inc, .int .i64 delay] ∧ n ≤ 9223372036854775807 ∧ PerAt w w.heap.size A n ps := by
  obtain ⟨cs, rfl, hl, hc⟩ := okWide_cells (ts := [22, 3, 3]) Try.underlying24 (by kernel_rfl) (by kernel_rfl) h
  match cs, hl with
  | [c0, c1, c2], _ =>
    obtain ⟨u, hu, hk0⟩ := hc 0 c0 rfl
    cases hu
    obtain ⟨u, hu, hk1⟩ := hc 1 c1 rfl
    cases hu
    obtain ⟨u, hu, hk2⟩ := hc 2 c2 rfl
    cases hu
    obtain ⟨i1, rfl, _⟩ := cell_int Try.underlying3 hk1
    obtain ⟨i2, rfl, _⟩ := cell_int Try.underlying3 hk2
    obtain ⟨fuel, hf⟩ := hd
    obtain ⟨xs, m, _, _, _, hxl, hfs⟩ := DataW.trod_struct Try.underlying24 hf
    have h0 := hfs 0 _ rfl
    cases hx0 : xs[0]? with
    | none =>
      have : 0 < xs.length := by rw [hxl]; decide
      rw [List.getElem?_eq_getElem this] at hx0
      cases hx0
    | some y =>
      rw [hx0] at h0
      have h0' : DataW.trod enc Try.prog w 0 (fun _ => true) true m 22 [c0] = some y := h0
      rcases open_rows (ti := 3) Try.underlying22 Try.underlying43 (by kernel_rfl) (by kernel_rfl) (by decide +kernel) Try.underlying3 h0' with hcs | ⟨a, len, cap, hcs, hlc, hcm, hcells⟩
      · cases hcs
        exact ⟨none, 0, 0, i1, i2, [], rfl, by omega, rfl, fun h => absurd h (by omega)⟩
      · cases hcs
        have hsp : a.spot = none := by
          simp only [Cell.okWide, Try.underlying22, Cell.ok, World.has] at hk0
          exact hk0.2.2.2.1
        obtain ⟨b, off, sp⟩ := a
        cases hsp
        unfold maxLen at hcm
        refine ⟨some ⟨b, off, none⟩, len, cap, i1, i2, (List.range len).map fun i => (cellInt w ⟨b, off + i * 2, none⟩, cellInt w ⟨b, off + i * 2 + 1, none⟩), rfl, by omega, by simp, fun hn => ⟨b, off, rfl, ?_, fun k hk => ?_⟩⟩
        · have := (hcells 0 hn 0 (by decide)).1
          exact block_lt this
        · have q0 := (hcells k hk 0 (by decide)).1
          have q1 := (hcells k hk 1 (by decide)).1
          rw [add_none] at q0 q1
          have g : ((List.range len).map fun i => (cellInt w ⟨b, off + i * 2, none⟩, cellInt w ⟨b, off + i * 2 + 1, none⟩)).getD k (0, 0) = (cellInt w ⟨b, off + k * 2, none⟩, cellInt w ⟨b, off + k * 2 + 1, none⟩) := by
            simp [List.getD, hk]
          rw [g]
          exact ⟨q0, q1⟩
end Go.Proofs.Ytpcllegmdioafaa

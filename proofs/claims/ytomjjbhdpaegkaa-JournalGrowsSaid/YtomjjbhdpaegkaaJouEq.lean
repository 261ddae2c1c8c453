/- The contracts of slices.Equal at entries and of journal.Extends. -/
import Derived.Test.YtomjjbhdpaegkaaJouApp
import Derived.Laws.StructEq
namespace Go.Proofs.Ytomjjbhdpaegkaa
open Go.ChangeShapes Go.WideShapes Go.ChangeAt Go.RowKit
set_option linter.unusedVariables false

def eqE (x y : EntZ) : Bool := decide (x.txt.toList = y.txt.toList) && decide (x.sum = y.sum)
theorem neqJ (s t : ByteArray) (n m : Int) (w : World) : (binOp .neq 34 (.agg #[.string s, .int .u64 n]) (.agg #[.string t, .int .u64 m])).run Try.prog w = .ok (.bool (!eqE ⟨s, n⟩ ⟨t, m⟩)) w := by
  go_simp
  unfold eqE
  by_cases h1 : s.toList = t.toList <;> by_cases h2 : n = m <;> simp [h1, h2]
def eqJ : List EntZ → List EntZ → Bool
  | [], [] => true
  | x :: a, y :: b => eqE x y && eqJ a b
  | _, _ => false
theorem eqJ_step (a b : List EntZ) (k : Nat) (ha : k < a.length) (hb : k < b.length) : eqJ (a.drop k) (b.drop k) = (eqE a[k] b[k] && eqJ (a.drop (k + 1)) (b.drop (k + 1))) := by
  rw [List.drop_eq_getElem_cons ha, List.drop_eq_getElem_cons hb, eqJ]
theorem eqJ_ne : ∀ (a b : List EntZ), a.length ≠ b.length → eqJ a b = false
  | [], [], h => absurd rfl h
  | x :: a, [], _ => rfl
  | [], y :: b, _ => rfl
  | x :: a, y :: b, h => by rw [eqJ, eqJ_ne a b (by simpa using h), Bool.and_false]

set_option maxHeartbeats 1000000 in
theorem Equal_any (va vb : Value) (a b : List EntZ) (w : World) (h1 : RdJ w va a) (h2 : RdJ w vb b) :
    Calls Try.prog 14 #[va, vb] w fun e w' => e = .returned (.bool (eqJ a b)) ∧ Below w.heap.size w w' := by
  obtain ⟨aa, ac, rfl, a1, a2, ha⟩ := h1.form
  obtain ⟨ba, bc, rfl, b1, b2, hb⟩ := h2.form
  unfold maxLen at a2 b2
  have HA := Lib.hid ha
  have HB := Lib.hid hb
  clear ha hb h1 h2
  by_cases hl : a.length = b.length
  · have HE : Hid (eqJ a b = eqJ (a.drop 0) (b.drop 0)) := Lib.hid rfl
    have HL := Lib.hid hl
    rw [← hl]
    rw [← hl] at b1
    clear hl
    go_enter Try.func14, Try.ntmps14
    have hne : (((a.length : Int)) != (a.length : Int)) = false := by simp
    go_wp2_with fail
    go_loopw [13] (fun i wr => ∃ k : Nat, k ≤ a.length ∧ i = .int .i64 k ∧ Hid (eqJ a b = eqJ (a.drop k) (b.drop k)) ∧ Below w.heap.size w wr) (fun i _ => a.length - (intOf i).toNat)
    case atStart => exact ⟨0, Nat.zero_le _, rfl, HE, Below.refl _ _⟩
    case round =>
      obtain ⟨k, hk, rfl, HK, hbl⟩ := hrel
      by_cases hlt : k < a.length
      · have hltb : k < b.length := by rw [← HL.out]; exact hlt
        obtain ⟨g1, o1, rfl, hg1, c0, c1⟩ := HA.out k hlt
        obtain ⟨g2, o2, rfl, hg2, e0, e1⟩ := HB.out k hltb
        have d0 : wr.cell? ⟨g1, o1 + k * 2, none⟩ = some (.string a[k].txt) := (hbl.cell (p := ⟨g1, o1 + k * 2, none⟩) hg1).trans c0
        have d1 : wr.cell? ⟨g1, o1 + k * 2 + 1, none⟩ = some (.int .u64 a[k].sum) := (hbl.cell (p := ⟨g1, o1 + k * 2 + 1, none⟩) hg1).trans c1
        have f0 : wr.cell? ⟨g2, o2 + k * 2, none⟩ = some (.string b[k].txt) := (hbl.cell (p := ⟨g2, o2 + k * 2, none⟩) hg2).trans e0
        have f1 : wr.cell? ⟨g2, o2 + k * 2 + 1, none⟩ = some (.int .u64 b[k].sum) := (hbl.cell (p := ⟨g2, o2 + k * 2 + 1, none⟩) hg2).trans e1
        have HS := Lib.hid (eqJ_step a b k hlt hltb)
        clear c0 c1 e0 e1
        generalize a[k] = x at *
        generalize b[k] = y at *
        have hq0 : 0 ≤ (k : Int) := by omega
        have hq1 : (k : Int) < (a.length : Int) := by omega
        obtain ⟨s, n⟩ := x
        obtain ⟨t, m⟩ := y
        simp only at d0 d1 f0 f1
        have hn := fun w => neqJ s t n m w
        cases hxy : eqE ⟨s, n⟩ ⟨t, m⟩
        all_goals
          rw [hxy] at hn HS
          go_wp2_with fail
          go_quiet (fail)
          have hbq := below_drewN hbl nq
          clear d0 d1 f0 f1 hn
          generalize wr.drewN nq = W at *
          go_wp2_with fail
          first
            | (go_ret; exact ⟨by rw [HK.out, HS.out]; rfl, hbq⟩)
            | (go_roundw
               case rel => exact ⟨k + 1, by omega, by go_num, Lib.hid (by rw [HK.out, HS.out]; rfl), hbq⟩
               case measure => simp [intOf]; omega)
      · obtain rfl : k = a.length := by omega
        go_wp2_with fail
        go_ret
        exact ⟨by rw [HK.out, List.drop_length, HL.out, List.drop_length]; rfl, hbl⟩
  · have HE := Lib.hid (eqJ_ne a b hl)
    have hne : (((a.length : Int)) != (b.length : Int)) = true := by simp; omega
    go_enter Try.func14, Try.ntmps14
    go_wp2_with fail
    go_ret
    exact ⟨by rw [HE.out]; rfl, Below.refl _ _⟩

def extJ (l m : List EntZ) : Bool := decide (m.length ≤ l.length) && eqJ (l.take m.length) m
theorem Extends_any (va vb : Value) (a b : List EntZ) (w : World) (h1 : RdJ w va a) (h2 : RdJ w vb b) :
    Calls Try.prog 7 #[va, vb] w fun e w' => e = .returned (.bool (extJ a b)) ∧ Below w.heap.size w w' := by
  obtain ⟨aa, ac, rfl, a1, a2, ha⟩ := h1.form
  obtain ⟨ba, bc, rfl, b1, b2, hb⟩ := h2.form
  unfold maxLen at a2 b2
  have HX : Hid (extJ a b = (decide (b.length ≤ a.length) && eqJ (a.take b.length) b)) := Lib.hid rfl
  by_cases hl : b.length ≤ a.length
  · have HE := Lib.hid (Equal_any _ _ (a.take b.length) b w (RdJ.take h1 b.length hl) h2)
    have hsl := fun w => run_takeAt elemJ sizeJ aa a.length ac b.length (by omega) w
    clear ha hb h1 h2
    generalize eqJ (a.take b.length) b = q at *
    go_enter Try.func7, Try.ntmps7
    go_wp2_with fail
    refine HE.out.mono ?_
    rintro e w1 ⟨rfl, hb1⟩
    go_wp2_with fail
    go_ret
    exact ⟨by rw [HX.out]; simp [hl], hb1⟩
  · clear ha hb h1 h2
    go_enter Try.func7, Try.ntmps7
    go_wp2_with fail
    go_ret
    exact ⟨by rw [HX.out]; simp [hl], Below.refl _ _⟩
end Go.Proofs.Ytomjjbhdpaegkaa

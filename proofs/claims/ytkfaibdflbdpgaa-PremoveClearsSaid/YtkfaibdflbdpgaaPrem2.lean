/- The contract of premove.Check. -/
import Derived.Test.YtkfaibdflbdpgaaPrem1
namespace Go.Proofs.Ytkfaibdflbdpgaa
open Go.ChangeShapes Go.WideShapes Go.ChangeAt Go.RowKit
set_option linter.unusedVariables false

def premErr (l : List PremZ) : Int := if 4 < (ofZ l 0).length ∨ 4 < (ofZ l 1).length then 2 else if l.any (fun x => x.player != 0 && x.player != 1) = true then 4 else 0
theorem pchk_any (x : PremZ) (W : World) : Calls Try.prog 131 #[.agg #[.int .i64 x.player, .int .i64 x.move.src, .int .i64 x.move.dst, .int .i64 x.move.piece]] W fun e w' => e = .returned (.bool (x.player != 0 && x.player != 1)) ∧ Below W.heap.size W w' := by
  by_cases h0 : x.player = 0
  · have h0' : (x.player != 0) = false := by simpa using h0
    have HE : Hid ((x.player != 0 && x.player != 1) = false) := Lib.hid (by rw [h0']; rfl)
    clear h0
    go_enter Try.func131, Try.ntmps131
    go_wp2
    go_ret
    exact ⟨by rw [HE.out]; rfl, (Below.refl _ _).alloc (Nat.le_refl _) _⟩
  · have h0' : (x.player != 0) = true := by simpa using h0
    have HE : Hid ((x.player != 0 && x.player != 1) = (x.player != 1)) := Lib.hid (by rw [h0']; rfl)
    clear h0
    go_enter Try.func131, Try.ntmps131
    go_wp2
    go_ret
    exact ⟨by rw [HE.out]; rfl, (Below.refl _ _).alloc (Nat.le_refl _) _⟩
theorem callPchk (args : Array Value) (w : World) : (callFunc 131 args).run Try.prog w = .ok (.enter 131 args) w := by kernel_rfl
set_option maxRecDepth 100000 in
theorem premCheck_any (v : Value) (l : List PremZ) (w : World) (h : RdL premEl w v l) (hl : l.length ≤ 1000000) :
    Calls Try.prog 77 #[v] w fun e w' => e = .returned (.int .i64 (premErr l)) ∧ Below w.heap.size w w' := by
  have HR := Lib.hid h
  have HD : Hid (premErr l = if 4 < (ofZ l 0).length ∨ 4 < (ofZ l 1).length then 2 else if l.any (fun x => x.player != 0 && x.player != 1) = true then 4 else 0) := Lib.hid rfl
  obtain ⟨a, c, rfl, h1, h2⟩ := h.form
  unfold maxLen at h2
  clear h
  go_enter Try.func77, Try.ntmps77
  go_wp2_with fail
  refine (of_any _ l 0 w HR.out hl).mono ?_
  rintro e w1 ⟨v1, rfl, ho1, hb1⟩
  obtain ⟨a1, c1, rfl⟩ := own_form2 ho1
  have HB1 := Lib.hid hb1
  clear ho1 hb1
  generalize (ofZ l 0).length = n0 at *
  by_cases g0 : 4 < n0
  · have g0i : (4 : Int) < (n0 : Int) := by omega
    have HE : Hid (premErr l = 2) := Lib.hid (by rw [HD.out, if_pos (.inl g0)])
    go_wp2_with fail
    go_ret
    exact ⟨by rw [HE.out]; rfl, HB1.out⟩
  have g0i : ¬ (4 : Int) < (n0 : Int) := by omega
  go_wp2_with fail
  refine (of_any _ l 1 w1 (HR.out.below HB1.out (Nat.le_refl _)) hl).mono ?_
  rintro e w2 ⟨v2, rfl, ho2, hb2⟩
  obtain ⟨a2, c2, rfl⟩ := own_form2 ho2
  have HB2 := Lib.hid (below_trans HB1.out hb2 HB1.out.size)
  clear ho2 hb2
  generalize (ofZ l 1).length = n1 at *
  by_cases g1 : 4 < n1
  · have g1i : (4 : Int) < (n1 : Int) := by omega
    have HE : Hid (premErr l = 2) := Lib.hid (by rw [HD.out, if_pos (.inr g1)])
    go_wp2_with fail
    go_ret
    exact ⟨by rw [HE.out]; rfl, HB2.out⟩
  have g1i : ¬ (4 : Int) < (n1 : Int) := by omega
  have HD2 : Hid (premErr l = if l.any (fun x => x.player != 0 && x.player != 1) = true then 4 else 0) := Lib.hid (by rw [HD.out, if_neg (by omega)])
  have HCO := Lib.hid (ContainsFunc_pm (.slice a l.length c) l (fun x => x.player != 0 && x.player != 1) 131 #[] w2 (HR.out.below HB2.out (Nat.le_refl _)) callPchk (fun W x cs hx hE hW => by
    simp only [premEl] at hE
    subst hE
    exact pchk_any x W))
  clear HD g0 g1
  go_wp2_with fail
  refine HCO.out.mono ?_
  rintro e w3 ⟨rfl, hb3⟩
  have HB3 := Lib.hid (below_trans HB2.out hb3 HB2.out.size)
  clear hb3 HCO
  generalize l.any (fun x => x.player != 0 && x.player != 1) = b at *
  cases b
  · have HE : Hid (premErr l = 0) := Lib.hid (by rw [HD2.out]; rfl)
    go_wp2_with fail
    go_ret
    exact ⟨by rw [HE.out]; rfl, HB3.out⟩
  · have HE : Hid (premErr l = 4) := Lib.hid (by rw [HD2.out]; rfl)
    go_wp2_with fail
    go_ret
    exact ⟨by rw [HE.out]; rfl, HB3.out⟩

end Go.Proofs.Ytkfaibdflbdpgaa

/- The contract of ends.holds. -/
import Derived.Test.YtnieifdogllbfaaEnd1
import Derived.Test.YtnieifdogllbfaaMv2
namespace Go.Proofs.Ytnieifdogllbfaa
open Go.ChangeShapes Go.WideShapes Go.ChangeAt Go.RowKit
set_option linter.unusedVariables false

def holdsZ (R : RulesZ) (p : PosZ) (x : EndZ) (mover : Int) : Bool :=
  if x.kind = 0 then lineZ R p mover x.count.toNat
  else if x.kind = 1 then (List.range p.cells.length).any fun s => p.cells.getD s 0 == 2 * x.piece + mover + 1 && lastZ R mover s
  else decide (((p.cells.countP (· == 2 * x.piece + 1 - mover + 1) : Nat) : Int) < x.count)
theorem endOk {np : Nat} {x : EndZ} (h : endErr np x = 0) : (x.kind = 0 ∧ 1 ≤ x.count ∧ x.count ≤ 64) ∨ (x.kind = 1 ∧ 0 ≤ x.piece ∧ x.piece ≤ (np : Int) - 1) ∨ (x.kind = 2 ∧ 1 ≤ x.count ∧ x.count ≤ 64 ∧ 0 ≤ x.piece ∧ x.piece ≤ (np : Int) - 1) := by
  unfold endErr at h
  by_cases k0 : (x.kind == 0) = true
  · rw [if_pos k0] at h
    by_cases e : (wb x.count 1 64 && x.piece == 0) = true
    · simp only [Bool.and_eq_true, wb_iff] at e
      exact .inl ⟨by simpa using k0, e.1⟩
    · rw [if_neg e] at h; cases h
  rw [if_neg k0] at h
  by_cases k1 : (x.kind == 1) = true
  · rw [if_pos k1] at h
    by_cases e : (x.count == 0 && wb x.piece 0 ((np : Int) - 1)) = true
    · simp only [Bool.and_eq_true, wb_iff] at e
      exact .inr (.inl ⟨by simpa using k1, e.2⟩)
    · rw [if_neg e] at h; cases h
  rw [if_neg k1] at h
  by_cases k2 : (x.kind == 2) = true
  · rw [if_pos k2] at h
    by_cases e : (wb x.count 1 64 && wb x.piece 0 ((np : Int) - 1)) = true
    · simp only [Bool.and_eq_true, wb_iff] at e
      exact .inr (.inr ⟨by simpa using k2, e.1.1, e.1.2, e.2⟩)
    · rw [if_neg e] at h; cases h
  rw [if_neg k2] at h; cases h
theorem reach_no {n : Nat} {f : Nat → Bool} (h : ∀ s, s < n → f s = false) : (List.range n).any f = false := by
  rw [List.any_eq_false]
  intro s hs
  rw [h s (by simpa using hs)]; simp
theorem reach_yes {n s : Nat} {f : Nat → Bool} (hs : s < n) (h : f s = true) : (List.range n).any f = true := by
  rw [List.any_eq_true]
  exact ⟨s, by simpa using hs, h⟩
theorem countP_take (f : Int → Bool) (l : List Int) (k : Nat) (h : k < l.length) : (l.take (k + 1)).countP f = (l.take k).countP f + if f (l.getD k 0) = true then 1 else 0 := by
  rw [List.take_succ_eq_append_getElem h, List.countP_append, List.getD_eq_getElem?_getD, List.getElem?_eq_getElem h]
  simp [List.countP_cons]
set_option maxRecDepth 100000 in
set_option maxHeartbeats 4000000 in
theorem holds_any (R : RulesZ) (vp vs ve : Value) (p : PosZ) (vc v0 v1 : Value) (x : EndZ) (mv : Int) (w : World) (hp : RdI w vc p.cells) (K : POk R p) (hx : endErr R.pieces.length x = 0) (hm : mv = 0 ∨ mv = 1) :
    Calls Try.prog 67 #[(.agg #[.string R.name, .int .i64 R.width, .int .i64 R.height, vp, vs, .bool R.falls, .bool R.keeps, ve, .int .i64 R.blocked, .int .i64 R.quiet, .int .i64 R.rept]), (.agg #[vc, v0, v1, .int .i64 p.turn, .int .i64 p.quiet]), .agg #[.int .i64 x.kind, .int .i64 x.piece, .int .i64 x.count, .bool x.loses], .int .i64 mv] w fun e w' => e = .returned (.bool (holdsZ R p x mv)) ∧ Below w.heap.size w w' := by
  have HC := Lib.hid hp
  obtain ⟨ac, cc, rfl, hc1, hc2⟩ := hp.form
  unfold maxLen at hc2
  have hlen := K.len
  have hnp := K.r.np.2
  have HD : Hid (holdsZ R p x mv = if x.kind = 0 then lineZ R p mv x.count.toNat else if x.kind = 1 then (List.range p.cells.length).any fun s => p.cells.getD s 0 == 2 * x.piece + mv + 1 && lastZ R mv s else decide (((p.cells.countP (· == 2 * x.piece + 1 - mv + 1) : Nat) : Int) < x.count)) := Lib.hid rfl
  obtain ⟨hm0, hm1⟩ : 0 ≤ mv ∧ mv ≤ 1 := by omega
  clear hp hm
  go_enter Try.func67, Try.ntmps67
  go_upto_region 1 with (fail)
  have B0 : Box (((w.alloc (.cells #[.string R.name, .int .i64 R.width, .int .i64 R.height, vp, vs, .bool R.falls, .bool R.keeps, ve, .int .i64 R.blocked, .int .i64 R.quiet, .int .i64 R.rept] 26)).alloc (.cells #[.slice ac p.cells.length cc, v0, v1, .int .i64 p.turn, .int .i64 p.quiet] 43)).alloc (.cells #[.int .i64 x.kind, .int .i64 x.piece, .int .i64 x.count, .bool x.loses] 68)) (w.heap.size) [.string R.name, .int .i64 R.width, .int .i64 R.height, vp, vs, .bool R.falls, .bool R.keeps, ve, .int .i64 R.blocked, .int .i64 R.quiet, .int .i64 R.rept] 26 := (((Box.new' w (w.heap.size) [.string R.name, .int .i64 R.width, .int .i64 R.height, vp, vs, .bool R.falls, .bool R.keeps, ve, .int .i64 R.blocked, .int .i64 R.quiet, .int .i64 R.rept] 26 (by simp <;> omega)).alloc _).alloc _)
  have B1 : Box (((w.alloc (.cells #[.string R.name, .int .i64 R.width, .int .i64 R.height, vp, vs, .bool R.falls, .bool R.keeps, ve, .int .i64 R.blocked, .int .i64 R.quiet, .int .i64 R.rept] 26)).alloc (.cells #[.slice ac p.cells.length cc, v0, v1, .int .i64 p.turn, .int .i64 p.quiet] 43)).alloc (.cells #[.int .i64 x.kind, .int .i64 x.piece, .int .i64 x.count, .bool x.loses] 68)) (w.heap.size + 1) [.slice ac p.cells.length cc, v0, v1, .int .i64 p.turn, .int .i64 p.quiet] 43 := ((Box.new' (w.alloc (.cells #[.string R.name, .int .i64 R.width, .int .i64 R.height, vp, vs, .bool R.falls, .bool R.keeps, ve, .int .i64 R.blocked, .int .i64 R.quiet, .int .i64 R.rept] 26)) (w.heap.size + 1) [.slice ac p.cells.length cc, v0, v1, .int .i64 p.turn, .int .i64 p.quiet] 43 (by simp <;> omega)).alloc _)
  have B2 : Box (((w.alloc (.cells #[.string R.name, .int .i64 R.width, .int .i64 R.height, vp, vs, .bool R.falls, .bool R.keeps, ve, .int .i64 R.blocked, .int .i64 R.quiet, .int .i64 R.rept] 26)).alloc (.cells #[.slice ac p.cells.length cc, v0, v1, .int .i64 p.turn, .int .i64 p.quiet] 43)).alloc (.cells #[.int .i64 x.kind, .int .i64 x.piece, .int .i64 x.count, .bool x.loses] 68)) (w.heap.size + 1 + 1) [.int .i64 x.kind, .int .i64 x.piece, .int .i64 x.count, .bool x.loses] 68 := (Box.new' ((w.alloc (.cells #[.string R.name, .int .i64 R.width, .int .i64 R.height, vp, vs, .bool R.falls, .bool R.keeps, ve, .int .i64 R.blocked, .int .i64 R.quiet, .int .i64 R.rept] 26)).alloc (.cells #[.slice ac p.cells.length cc, v0, v1, .int .i64 p.turn, .int .i64 p.quiet] 43)) (w.heap.size + 1 + 1) [.int .i64 x.kind, .int .i64 x.piece, .int .i64 x.count, .bool x.loses] 68 (by simp <;> omega))
  have HB : Hid (Below w.heap.size w (((w.alloc (.cells #[.string R.name, .int .i64 R.width, .int .i64 R.height, vp, vs, .bool R.falls, .bool R.keeps, ve, .int .i64 R.blocked, .int .i64 R.quiet, .int .i64 R.rept] 26)).alloc (.cells #[.slice ac p.cells.length cc, v0, v1, .int .i64 p.turn, .int .i64 p.quiet] 43)).alloc (.cells #[.int .i64 x.kind, .int .i64 x.piece, .int .i64 x.count, .bool x.loses] 68))) := Lib.hid ((((Below.refl w.heap.size w).alloc (Nat.le_refl _) _).alloc (by simp <;> omega) _).alloc (by simp <;> omega) _)
  have hz0 : w.heap.size + 1 + 1 < (((w.alloc (.cells #[.string R.name, .int .i64 R.width, .int .i64 R.height, vp, vs, .bool R.falls, .bool R.keeps, ve, .int .i64 R.blocked, .int .i64 R.quiet, .int .i64 R.rept] 26)).alloc (.cells #[.slice ac p.cells.length cc, v0, v1, .int .i64 p.turn, .int .i64 p.quiet] 43)).alloc (.cells #[.int .i64 x.kind, .int .i64 x.piece, .int .i64 x.count, .bool x.loses] 68)).heap.size := by simp
  generalize (((w.alloc (.cells #[.string R.name, .int .i64 R.width, .int .i64 R.height, vp, vs, .bool R.falls, .bool R.keeps, ve, .int .i64 R.blocked, .int .i64 R.quiet, .int .i64 R.rept] 26)).alloc (.cells #[.slice ac p.cells.length cc, v0, v1, .int .i64 p.turn, .int .i64 p.quiet] 43)).alloc (.cells #[.int .i64 x.kind, .int .i64 x.piece, .int .i64 x.count, .bool x.loses] 68)) = w0 at *
  have HCw := Lib.hid (HC.out.below HB.out (Nat.le_refl _))
  have HBx := Lib.hid B0
  have HBy := Lib.hid B1
  have HBz := Lib.hid B2
  have HB00 : Hid (Below w0.heap.size w0 w0) := Lib.hid (Below.refl _ _)
  have x0 := B2.cell 0 rfl
  have x1 := B2.cell 1 rfl
  have x2 := B2.cell 2 rfl
  clear B0 B1 B2
  rcases endOk hx with ⟨hk, hn1, hn2⟩ | ⟨hk, hp1, hp2⟩ | ⟨hk, hn1, hn2, hp1, hp2⟩
  · obtain ⟨cnt, hcnt⟩ : ∃ cnt : Nat, x.count = (cnt : Int) := ⟨x.count.toNat, by omega⟩
    have HE : Hid (holdsZ R p x mv = lineZ R p mv cnt) := Lib.hid (by rw [HD.out, if_pos hk, hcnt]; rfl)
    have hcn : cnt ≤ 64 := by omega
    rw [hk] at x0
    rw [hcnt] at x2
    clear HD hk hcnt hn1 hn2
    have q0 := (HBx.out.below HB00.out (by omega)).cell 0 rfl
    have q1 := (HBx.out.below HB00.out (by omega)).cell 1 rfl
    have q2 := (HBx.out.below HB00.out (by omega)).cell 2 rfl
    have q3 := (HBx.out.below HB00.out (by omega)).cell 3 rfl
    have q4 := (HBx.out.below HB00.out (by omega)).cell 4 rfl
    have q5 := (HBx.out.below HB00.out (by omega)).cell 5 rfl
    have q6 := (HBx.out.below HB00.out (by omega)).cell 6 rfl
    have q7 := (HBx.out.below HB00.out (by omega)).cell 7 rfl
    have q8 := (HBx.out.below HB00.out (by omega)).cell 8 rfl
    have q9 := (HBx.out.below HB00.out (by omega)).cell 9 rfl
    have q10 := (HBx.out.below HB00.out (by omega)).cell 10 rfl
    have e0 := (HBy.out.below HB00.out (by omega)).cell 0 rfl
    have e1 := (HBy.out.below HB00.out (by omega)).cell 1 rfl
    have e2 := (HBy.out.below HB00.out (by omega)).cell 2 rfl
    have e3 := (HBy.out.below HB00.out (by omega)).cell 3 rfl
    have e4 := (HBy.out.below HB00.out (by omega)).cell 4 rfl
    go_wp2_with fail
    refine (line_any R vp vs ve p _ v0 v1 mv cnt w0 HCw.out K hcn).mono ?_
    rintro e w1 ⟨rfl, hb1⟩
    have HB1 := Lib.hid (below_trans HB.out hb1 HB.out.size)
    clear hb1
    go_wp2_with fail
    go_ret
    exact ⟨by rw [HE.out]; rfl, HB1.out⟩
  · have HE : Hid (holdsZ R p x mv = (List.range p.cells.length).any fun s => p.cells.getD s 0 == 2 * x.piece + mv + 1 && lastZ R mv s) := Lib.hid (by rw [HD.out, if_neg (by omega), if_pos hk])
    rw [hk] at x0
    have e0 := HBy.out.cell 0 rfl
    clear HD hk
    go_wp2_with fail
    clear e0
    go_loopw [29] (fun i wr => ∃ k : Nat, k ≤ p.cells.length ∧ i = .int .i64 k ∧ Hid (∀ s, s < k → (p.cells.getD s 0 == 2 * x.piece + mv + 1 && lastZ R mv s) = false) ∧ Hid (Below w0.heap.size w0 wr)) (fun i _ => p.cells.length - (intOf i).toNat)
    case atStart => exact ⟨0, Nat.zero_le _, rfl, Lib.hid (fun s hs => absurd hs (Nat.not_lt_zero _)), HB00⟩
    case round =>
      obtain ⟨k, hk, rfl, HN, HBr⟩ := hrel
      have hsz := HBr.out.size
      by_cases hlt : k < p.cells.length
      · obtain ⟨gc, oc, ec, hcc⟩ := cells_rd (HCw.out.below HBr.out (Nat.le_refl _)) (by omega)
        subst ec
        have hck := hcc k hlt
        have z1 := (HBz.out.below HBr.out (by omega)).cell 1 rfl
        have HKD : Hid (∀ b : Bool, (p.cells.getD k 0 == 2 * x.piece + mv + 1 && lastZ R mv k) = b → b = false → ∀ s, s < k + 1 → (p.cells.getD s 0 == 2 * x.piece + mv + 1 && lastZ R mv s) = false) := Lib.hid (fun b hb hbf s hs => by
          by_cases e : s = k
          · subst e; rw [hb, hbf]
          · exact HN.out s (by omega))
        have HYES : Hid ((p.cells.getD k 0 == 2 * x.piece + mv + 1 && lastZ R mv k) = true → holdsZ R p x mv = true) := Lib.hid (fun h => by rw [HE.out]; exact reach_yes hlt h)
        clear hcc
        have q0 := (HBx.out.below HBr.out (by omega)).cell 0 rfl
        have q1 := (HBx.out.below HBr.out (by omega)).cell 1 rfl
        have q2 := (HBx.out.below HBr.out (by omega)).cell 2 rfl
        have q3 := (HBx.out.below HBr.out (by omega)).cell 3 rfl
        have q4 := (HBx.out.below HBr.out (by omega)).cell 4 rfl
        have q5 := (HBx.out.below HBr.out (by omega)).cell 5 rfl
        have q6 := (HBx.out.below HBr.out (by omega)).cell 6 rfl
        have q7 := (HBx.out.below HBr.out (by omega)).cell 7 rfl
        have q8 := (HBx.out.below HBr.out (by omega)).cell 8 rfl
        have q9 := (HBx.out.below HBr.out (by omega)).cell 9 rfl
        have q10 := (HBx.out.below HBr.out (by omega)).cell 10 rfl
        have e0 := (HBy.out.below HBr.out (by omega)).cell 0 rfl
        have e1 := (HBy.out.below HBr.out (by omega)).cell 1 rfl
        have e2 := (HBy.out.below HBr.out (by omega)).cell 2 rfl
        have e3 := (HBy.out.below HBr.out (by omega)).cell 3 rfl
        have e4 := (HBy.out.below HBr.out (by omega)).cell 4 rfl
        generalize p.cells.getD k 0 = c at *
        by_cases hcq : c = 2 * x.piece + mv + 1
        · subst hcq
          go_wp2_with fail
          refine (isLast_any R vp vs ve mv k _ K.r (by omega) (by omega)).mono ?_
          rintro e w5 ⟨rfl, hb5⟩
          have HB5 := Lib.hid (below_trans HBr.out hb5 HBr.out.size)
          clear hb5 z1 hck
          clear q0 q1 q2 q3 q4 q5 q6 q7 q8 q9 q10 e0 e1 e2 e3 e4
          cases hl : lastZ R mv k
          · have HN2 := Lib.hid (HKD.out false (by rw [hl]; simp) rfl)
            clear hl HKD HYES
            go_wp2_with fail
            go_roundw
            case rel => exact ⟨k + 1, by omega, by go_num, HN2, HB5⟩
            case measure => simp [intOf]; omega
          · have HT := Lib.hid (HYES.out (by rw [hl]; simp))
            clear hl HKD HYES
            go_wp2_with fail
            go_ret
            exact ⟨by rw [HT.out]; rfl, below_trans HB.out HB5.out HB.out.size⟩
        · have hcq' : (c == 2 * x.piece + mv + 1) = false := by simpa using hcq
          have HN2 := Lib.hid (HKD.out false (by rw [hcq']; simp) rfl)
          clear hcq HKD HYES
          go_wp2_with fail
          go_roundw
          case rel => exact ⟨k + 1, by omega, by go_num, HN2, HBr⟩
          case measure => simp [intOf]; omega
      · have HF : Hid (holdsZ R p x mv = false) := Lib.hid (by rw [HE.out]; exact reach_no (fun s hs => HN.out s (by omega)))
        go_wp2_with fail
        go_ret
        exact ⟨by rw [HF.out]; rfl, below_trans HB.out HBr.out HB.out.size⟩
  · have HE : Hid (holdsZ R p x mv = decide (((p.cells.countP (· == 2 * x.piece + 1 - mv + 1) : Nat) : Int) < x.count)) := Lib.hid (by rw [HD.out, if_neg (by omega), if_neg (by omega)])
    rw [hk] at x0
    have e0 := HBy.out.cell 0 rfl
    clear HD hk
    go_wp2_with fail
    clear e0
    go_loop [11, 52] (fun n i => ∃ k : Nat, k ≤ p.cells.length ∧ i = .int .i64 k ∧ n = .int .i64 ((p.cells.take k).countP (· == 2 * x.piece + 1 - mv + 1) : Nat)) (fun _ i => p.cells.length - (intOf i).toNat)
    case atStart => exact ⟨0, Nat.zero_le _, rfl, by simp⟩
    case round =>
      obtain ⟨k, hk, rfl, rfl⟩ := hrel
      by_cases hlt : k < p.cells.length
      · obtain ⟨gc, oc, ec, hcc⟩ := cells_rd HCw.out (by omega)
        subst ec
        have hck := hcc k hlt
        have HCT := Lib.hid (countP_take (· == 2 * x.piece + 1 - mv + 1) p.cells k hlt)
        have hcl : (p.cells.take k).countP (· == 2 * x.piece + 1 - mv + 1) ≤ k := Nat.le_trans List.countP_le_length (by rw [List.length_take]; omega)
        clear hcc
        generalize (p.cells.take k).countP (· == 2 * x.piece + 1 - mv + 1) = q at *
        generalize p.cells.getD k 0 = c at *
        by_cases hcq : c = 2 * x.piece + 1 - mv + 1
        · subst hcq
          have HQ : Hid ((p.cells.take (k + 1)).countP (· == 2 * x.piece + 1 - mv + 1) = q + 1) := Lib.hid (by rw [HCT.out, if_pos (by simp)])
          clear HCT
          go_wp2_with fail
          go_round
          case rel => exact ⟨k + 1, by omega, by go_num, by rw [HQ.out]; go_num⟩
          case measure => simp [intOf]; omega
        · have hcq' : (c == 2 * x.piece + 1 - mv + 1) = false := by simpa using hcq
          have HQ : Hid ((p.cells.take (k + 1)).countP (· == 2 * x.piece + 1 - mv + 1) = q) := Lib.hid (by rw [HCT.out, if_neg (by simp [hcq'])]; rfl)
          clear hcq HCT
          go_wp2_with fail
          go_round
          case rel => exact ⟨k + 1, by omega, by go_num, by rw [HQ.out]⟩
          case measure => simp [intOf]; omega
      · obtain rfl : k = p.cells.length := by omega
        have HTL : Hid ((p.cells.take p.cells.length).countP (· == 2 * x.piece + 1 - mv + 1) = p.cells.countP (· == 2 * x.piece + 1 - mv + 1)) := Lib.hid (by rw [List.take_of_length_le (Nat.le_refl _)])
        rw [HTL.out]
        go_wp2_with fail
        go_ret
        exact ⟨by rw [HE.out]; rfl, HB.out⟩

end Go.Proofs.Ytnieifdogllbfaa

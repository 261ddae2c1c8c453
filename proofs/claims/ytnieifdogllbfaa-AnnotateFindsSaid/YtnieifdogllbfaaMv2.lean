/- The contracts of rules.IsLast, moves.puts. -/
import Derived.Test.YtnieifdogllbfaaMv1
namespace Go.Proofs.Ytnieifdogllbfaa
open Go.ChangeShapes Go.WideShapes Go.ChangeAt Go.RowKit
set_option linter.unusedVariables false

set_option maxRecDepth 100000 in
theorem isLast_any (R : RulesZ) (vp vs ve : Value) (pl s : Int) (w : World) (hR : ROk R) (hs0 : 0 ≤ s) (hs : s ≤ 1000) :
    Calls Try.prog 59 #[(.agg #[.string R.name, .int .i64 R.width, .int .i64 R.height, vp, vs, .bool R.falls, .bool R.keeps, ve, .int .i64 R.blocked, .int .i64 R.quiet, .int .i64 R.rept]), .int .i64 pl, .int .i64 s] w fun e w' => e = .returned (.bool (lastZ R pl s)) ∧ Below w.heap.size w w' := by
  obtain ⟨hw1, hw2⟩ := hR.w
  obtain ⟨hh1, hh2⟩ := hR.h
  have hw0 : ¬ R.width = 0 := by omega
  have HL : Hid (lastZ R pl s = if pl = 0 then s / R.width == R.height - 1 else s / R.width == 0) := Lib.hid rfl
  have q1 := Int.ediv_le_self R.width hs0
  have q2 : 0 ≤ s / R.width := Int.ediv_nonneg hs0 (by omega)
  by_cases hp : pl = 0
  · have HE : Hid (lastZ R pl s = (s / R.width == R.height - 1)) := Lib.hid (by rw [HL.out, if_pos hp])
    have hp' : (pl == 0) = true := by simpa using hp
    clear hp HL
    go_enter Try.func59, Try.ntmps59
    go_upto_region 1 with (fail)
    have B0 : Box (w.alloc (.cells #[.string R.name, .int .i64 R.width, .int .i64 R.height, vp, vs, .bool R.falls, .bool R.keeps, ve, .int .i64 R.blocked, .int .i64 R.quiet, .int .i64 R.rept] 26)) (w.heap.size) [.string R.name, .int .i64 R.width, .int .i64 R.height, vp, vs, .bool R.falls, .bool R.keeps, ve, .int .i64 R.blocked, .int .i64 R.quiet, .int .i64 R.rept] 26 := (Box.new' w (w.heap.size) [.string R.name, .int .i64 R.width, .int .i64 R.height, vp, vs, .bool R.falls, .bool R.keeps, ve, .int .i64 R.blocked, .int .i64 R.quiet, .int .i64 R.rept] 26 (by simp <;> omega))
    have HB : Hid (Below w.heap.size w (w.alloc (.cells #[.string R.name, .int .i64 R.width, .int .i64 R.height, vp, vs, .bool R.falls, .bool R.keeps, ve, .int .i64 R.blocked, .int .i64 R.quiet, .int .i64 R.rept] 26))) := Lib.hid ((Below.refl w.heap.size w).alloc (Nat.le_refl _) _)
    have hz0 : w.heap.size < (w.alloc (.cells #[.string R.name, .int .i64 R.width, .int .i64 R.height, vp, vs, .bool R.falls, .bool R.keeps, ve, .int .i64 R.blocked, .int .i64 R.quiet, .int .i64 R.rept] 26)).heap.size := by simp
    generalize (w.alloc (.cells #[.string R.name, .int .i64 R.width, .int .i64 R.height, vp, vs, .bool R.falls, .bool R.keeps, ve, .int .i64 R.blocked, .int .i64 R.quiet, .int .i64 R.rept] 26)) = w0 at *
    have r1 : w0.cell? ⟨w.heap.size, 1, none⟩ = some (.int .i64 R.width) := B0.cell 1 rfl
    have r2 : w0.cell? ⟨w.heap.size, 2, none⟩ = some (.int .i64 R.height) := B0.cell 2 rfl
    have eh : IntKind.i64.wrap (R.height - 1) = R.height - 1 := IntWalk.i64_in _ (by omega)
    have es : IntKind.i64.wrap (s.tdiv R.width) = s / R.width := by rw [Int.tdiv_eq_ediv_of_nonneg hs0]; exact IntWalk.i64_in _ (by omega)
    go_wp2_with fail
    go_quiet (fail)
    go_wp2_with fail
    go_ret
    exact ⟨by rw [HE.out]; rfl, below_drewN HB.out _⟩
  · have HE : Hid (lastZ R pl s = (s / R.width == 0)) := Lib.hid (by rw [HL.out, if_neg hp])
    have hp' : (pl == 0) = false := by simpa using hp
    clear hp HL
    go_enter Try.func59, Try.ntmps59
    go_upto_region 1 with (fail)
    have B0 : Box (w.alloc (.cells #[.string R.name, .int .i64 R.width, .int .i64 R.height, vp, vs, .bool R.falls, .bool R.keeps, ve, .int .i64 R.blocked, .int .i64 R.quiet, .int .i64 R.rept] 26)) (w.heap.size) [.string R.name, .int .i64 R.width, .int .i64 R.height, vp, vs, .bool R.falls, .bool R.keeps, ve, .int .i64 R.blocked, .int .i64 R.quiet, .int .i64 R.rept] 26 := (Box.new' w (w.heap.size) [.string R.name, .int .i64 R.width, .int .i64 R.height, vp, vs, .bool R.falls, .bool R.keeps, ve, .int .i64 R.blocked, .int .i64 R.quiet, .int .i64 R.rept] 26 (by simp <;> omega))
    have HB : Hid (Below w.heap.size w (w.alloc (.cells #[.string R.name, .int .i64 R.width, .int .i64 R.height, vp, vs, .bool R.falls, .bool R.keeps, ve, .int .i64 R.blocked, .int .i64 R.quiet, .int .i64 R.rept] 26))) := Lib.hid ((Below.refl w.heap.size w).alloc (Nat.le_refl _) _)
    have hz0 : w.heap.size < (w.alloc (.cells #[.string R.name, .int .i64 R.width, .int .i64 R.height, vp, vs, .bool R.falls, .bool R.keeps, ve, .int .i64 R.blocked, .int .i64 R.quiet, .int .i64 R.rept] 26)).heap.size := by simp
    generalize (w.alloc (.cells #[.string R.name, .int .i64 R.width, .int .i64 R.height, vp, vs, .bool R.falls, .bool R.keeps, ve, .int .i64 R.blocked, .int .i64 R.quiet, .int .i64 R.rept] 26)) = w0 at *
    have r1 : w0.cell? ⟨w.heap.size, 1, none⟩ = some (.int .i64 R.width) := B0.cell 1 rfl
    go_wp2_with fail
    go_ret
    exact ⟨by rw [HE.out]; rfl, HB.out⟩

theorem infoMove : (Try.prog.info? 57).map (fun i => (i.zero, i.size, i.bytes)) = some (some (.agg #[.int .i64 0, .int .i64 0, .int .i64 0]), 3, 24) := by kernel_rfl
def putK (R : RulesZ) (p : PosZ) (s k : Nat) : Option MoveZ := if 0 < (p.hand p.turn).getD k 0 then some ⟨-1, s, k⟩ else none
theorem filterMap_snoc {α : Type} (f : Nat → Option α) (j : Nat) : (List.range (j + 1)).filterMap f = (List.range j).filterMap f ++ (f j).toList := by
  rw [List.range_succ, List.filterMap_append]
  cases h : f j <;> simp [h]
theorem flatMap_snoc {α : Type} (f : Nat → List α) (j : Nat) : (List.range (j + 1)).flatMap f = (List.range j).flatMap f ++ f j := by
  rw [List.range_succ, List.flatMap_append]; simp
theorem putK_len (R : RulesZ) (p : PosZ) (s j : Nat) : ((List.range j).filterMap (putK R p s)).length ≤ j := by
  have := List.length_filterMap_le (putK R p s) (List.range j)
  simpa using this
theorem flatMap_len {α : Type} (f : Nat → List α) (b : Nat) (h : ∀ k, (f k).length ≤ b) : ∀ n, ((List.range n).flatMap f).length ≤ n * b
  | 0 => by simp
  | n + 1 => by
    rw [flatMap_snoc, List.length_append, Nat.add_mul, Nat.one_mul]
    have := flatMap_len f b h n
    have := h n
    omega
theorem putsAt_len (R : RulesZ) (p : PosZ) (s : Nat) : (putsAt R p s).length ≤ (p.hand p.turn).length := by
  unfold putsAt
  split
  · simp
  · exact putK_len R p s _
def MovesPost (zs : List MoveZ) (w : World) (e : Ending) (w' : World) : Prop := ∃ v, e = .returned v ∧ w'.ownsRow w.heap.size 57 3 v zs.length (flatM zs) ∧ Below w.heap.size w w'
theorem hand_len {R : RulesZ} {p : PosZ} (K : POk R p) : (p.hand p.turn).length = R.pieces.length := by
  unfold PosZ.hand
  have := K.l0
  have := K.l1
  split <;> omega
set_option maxRecDepth 100000 in
set_option maxHeartbeats 4000000 in
theorem puts_any (R : RulesZ) (vp vs ve : Value) (p : PosZ) (vc v0 v1 : Value) (w : World) (hp : RdP w p vc v0 v1) (K : POk R p) :
    Calls Try.prog 57 #[(.agg #[.string R.name, .int .i64 R.width, .int .i64 R.height, vp, vs, .bool R.falls, .bool R.keeps, ve, .int .i64 R.blocked, .int .i64 R.quiet, .int .i64 R.rept]), (.agg #[vc, v0, v1, .int .i64 p.turn, .int .i64 p.quiet])] w (MovesPost (putsZ R p) w) := by
  have HC := Lib.hid hp.1
  have H0 := Lib.hid hp.2.1
  have H1 := Lib.hid hp.2.2
  obtain ⟨ac, cc, rfl, hc1, hc2⟩ := hp.1.form
  obtain ⟨a0, c0, rfl, _, hk2⟩ := hp.2.1.form
  obtain ⟨a1, c1, rfl, _, hl2⟩ := hp.2.2.form
  unfold maxLen at hc2 hk2 hl2
  have hlen := K.len
  obtain ⟨hw1, hw2⟩ := K.r.w
  have hnp := K.r.np.2
  have hhl : (p.hand p.turn).length ≤ 6 := by rw [hand_len K]; exact hnp
  have HZ : Hid (putsZ R p = (List.range p.cells.length).flatMap (putsAt R p)) := Lib.hid rfl
  obtain ⟨ah, ch, HVH, hhc⟩ : ∃ (ah : Option Addr) (ch : Nat), Hid ((if p.turn = 0 then (.slice a0 p.h0.length c0 : Value) else .slice a1 p.h1.length c1) = .slice ah (p.hand p.turn).length ch) ∧ ch ≤ 9223372036854775807 := by
    unfold PosZ.hand
    by_cases e : p.turn = 0
    · exact ⟨a0, c0, Lib.hid (by rw [if_pos e, if_pos e]), by omega⟩
    · exact ⟨a1, c1, Lib.hid (by rw [if_neg e, if_neg e]), by omega⟩
  have HHa : Hid (RdI w (.slice ah (p.hand p.turn).length ch) (p.hand p.turn)) := Lib.hid (by
    have h := HVH.out
    unfold PosZ.hand at h ⊢
    by_cases e : p.turn = 0
    · rw [if_pos e, if_pos e] at h; rw [if_pos e, ← h]; exact H0.out
    · rw [if_neg e, if_neg e] at h; rw [if_neg e, ← h]; exact H1.out)
  obtain ⟨ht0, ht1⟩ : 0 ≤ p.turn ∧ p.turn ≤ 1 := by have := K.tu; omega
  clear hp
  go_enter Try.func57, Try.ntmps57
  go_upto_region 1 with (fail)
  have B0 : Box ((w.alloc (.cells #[.string R.name, .int .i64 R.width, .int .i64 R.height, vp, vs, .bool R.falls, .bool R.keeps, ve, .int .i64 R.blocked, .int .i64 R.quiet, .int .i64 R.rept] 26)).alloc (.cells #[.slice ac p.cells.length cc, .slice a0 p.h0.length c0, .slice a1 p.h1.length c1, .int .i64 p.turn, .int .i64 p.quiet] 43)) (w.heap.size) [.string R.name, .int .i64 R.width, .int .i64 R.height, vp, vs, .bool R.falls, .bool R.keeps, ve, .int .i64 R.blocked, .int .i64 R.quiet, .int .i64 R.rept] 26 := ((Box.new' w (w.heap.size) [.string R.name, .int .i64 R.width, .int .i64 R.height, vp, vs, .bool R.falls, .bool R.keeps, ve, .int .i64 R.blocked, .int .i64 R.quiet, .int .i64 R.rept] 26 (by simp <;> omega)).alloc _)
  have B1 : Box ((w.alloc (.cells #[.string R.name, .int .i64 R.width, .int .i64 R.height, vp, vs, .bool R.falls, .bool R.keeps, ve, .int .i64 R.blocked, .int .i64 R.quiet, .int .i64 R.rept] 26)).alloc (.cells #[.slice ac p.cells.length cc, .slice a0 p.h0.length c0, .slice a1 p.h1.length c1, .int .i64 p.turn, .int .i64 p.quiet] 43)) (w.heap.size + 1) [.slice ac p.cells.length cc, .slice a0 p.h0.length c0, .slice a1 p.h1.length c1, .int .i64 p.turn, .int .i64 p.quiet] 43 := (Box.new' (w.alloc (.cells #[.string R.name, .int .i64 R.width, .int .i64 R.height, vp, vs, .bool R.falls, .bool R.keeps, ve, .int .i64 R.blocked, .int .i64 R.quiet, .int .i64 R.rept] 26)) (w.heap.size + 1) [.slice ac p.cells.length cc, .slice a0 p.h0.length c0, .slice a1 p.h1.length c1, .int .i64 p.turn, .int .i64 p.quiet] 43 (by simp <;> omega))
  have HB : Hid (Below w.heap.size w ((w.alloc (.cells #[.string R.name, .int .i64 R.width, .int .i64 R.height, vp, vs, .bool R.falls, .bool R.keeps, ve, .int .i64 R.blocked, .int .i64 R.quiet, .int .i64 R.rept] 26)).alloc (.cells #[.slice ac p.cells.length cc, .slice a0 p.h0.length c0, .slice a1 p.h1.length c1, .int .i64 p.turn, .int .i64 p.quiet] 43))) := Lib.hid (((Below.refl w.heap.size w).alloc (Nat.le_refl _) _).alloc (by simp <;> omega) _)
  have hz0 : w.heap.size + 1 < ((w.alloc (.cells #[.string R.name, .int .i64 R.width, .int .i64 R.height, vp, vs, .bool R.falls, .bool R.keeps, ve, .int .i64 R.blocked, .int .i64 R.quiet, .int .i64 R.rept] 26)).alloc (.cells #[.slice ac p.cells.length cc, .slice a0 p.h0.length c0, .slice a1 p.h1.length c1, .int .i64 p.turn, .int .i64 p.quiet] 43)).heap.size := by simp
  generalize ((w.alloc (.cells #[.string R.name, .int .i64 R.width, .int .i64 R.height, vp, vs, .bool R.falls, .bool R.keeps, ve, .int .i64 R.blocked, .int .i64 R.quiet, .int .i64 R.rept] 26)).alloc (.cells #[.slice ac p.cells.length cc, .slice a0 p.h0.length c0, .slice a1 p.h1.length c1, .int .i64 p.turn, .int .i64 p.quiet] 43)) = w0 at *
  have HCw := Lib.hid (HC.out.below HB.out (Nat.le_refl _))
  have H0w := Lib.hid (H0.out.below HB.out (Nat.le_refl _))
  have H1w := Lib.hid (H1.out.below HB.out (Nat.le_refl _))
  have HHw := Lib.hid (HHa.out.below HB.out (Nat.le_refl _))
  have hcH : w0.cell? ⟨w.heap.size + 1, 1 + p.turn.toNat, none⟩ = some (.slice ah (p.hand p.turn).length ch) := by
    rw [← HVH.out]
    by_cases e : p.turn = 0
    · rw [if_pos e, e]; exact B1.cell 1 rfl
    · have : p.turn = 1 := by omega
      rw [if_neg e, this]; exact B1.cell 2 rfl
  have HCH := Lib.hid hcH
  have HBx := Lib.hid B0
  have HBy := Lib.hid B1
  have hq0 : w0.cell? ⟨w.heap.size + 1, 0, none⟩ = some (.slice ac p.cells.length cc) := B1.cell 0 rfl
  clear B0 B1 hcH
  go_wp2_with fail
  go_loopw [5, 13] (fun vo vi wr => ∃ (k : Nat) (out : List MoveZ), k ≤ p.cells.length ∧ vi = .int .i64 k ∧ Hid (wr.ownsRow w0.heap.size 57 3 vo out.length (flatM out)) ∧ Hid (out = (List.range k).flatMap (putsAt R p)) ∧ Hid (Below w0.heap.size w0 wr)) (fun _ i _ => p.cells.length - (intOf i).toNat)
  case atStart => exact ⟨0, [], Nat.zero_le _, rfl, Lib.hid (World.ownsRow_nil _ _ _ _), Lib.hid rfl, Lib.hid (Below.refl _ _)⟩
  case round =>
    obtain ⟨k, out, hk, rfl, HO, HOUT, HBr⟩ := hrel
    have hsz := HBr.out.size
    have hol : out.length ≤ 384 := by
      rw [HOUT.out]
      have h1 := flatMap_len (putsAt R p) 6 (fun k => by have := putsAt_len R p k; omega) k
      omega
    clear hq0
    by_cases hlt : k < p.cells.length
    · obtain ⟨gc, oc, ec, hcc⟩ := cells_rd (HCw.out.below HBr.out (Nat.le_refl _)) (by omega)
      subst ec
      have hck := hcc k hlt
      have q0 := (HBx.out.below HBr.out (by omega)).cell 0 rfl
      have q1 := (HBx.out.below HBr.out (by omega)).cell 1 rfl
      have q2 := (HBx.out.below HBr.out (by omega)).cell 2 rfl
      have q3 := (HBx.out.below HBr.out (by omega)).cell 3 rfl
      have q4 := (HBx.out.below HBr.out (by omega)).cell 4 rfl
      have q5 := (HBx.out.below HBr.out (by omega)).cell 5 rfl
      have q6 := (HBx.out.below HBr.out (by omega)).cell 6 rfl
      have q7 := (HBx.out.below HBr.out (by omega)).cell 7 rfl
      have q8 := (HBx.out.below HBr.out (by omega)).cell 8 rfl
      have q9 := (HBx.out.below HBr.out (by omega)).cell 9 rfl
      have q10 := (HBx.out.below HBr.out (by omega)).cell 10 rfl
      have e3 := (HBy.out.below HBr.out (by omega)).cell 3 rfl
      have e4 : wr.cell? ⟨w.heap.size + 1, 1 + p.turn.toNat, none⟩ = some (.slice ah (p.hand p.turn).length ch) := (HBr.out.cell (by show w.heap.size + 1 < w0.heap.size; omega)).trans HCH.out
      clear hcc
      have HPD : Hid (putsAt R p k = if p.cells.getD k 0 ≠ 0 ∨ (R.falls = true ∧ R.width ≤ (k : Int) ∧ filledZ R.width.toNat p.cells k = false) then [] else (List.range (p.hand p.turn).length).filterMap (putK R p k)) := Lib.hid rfl
      generalize p.cells.getD k 0 = c at *
      by_cases hc0 : c = 0
      · subst hc0
        cases hf : R.falls
        · have HPA : Hid (putsAt R p k = (List.range (p.hand p.turn).length).filterMap (putK R p k)) := Lib.hid (by rw [HPD.out, if_neg (by simp [hf])])
          clear HPD
          rw [hf] at q5
          go_wp2_with fail
          go_loopw [5, 43] (fun vo vj wq => ∃ (j : Nat) (ms : List MoveZ), j ≤ (p.hand p.turn).length ∧ vj = .int .i64 j ∧ Hid (wq.ownsRow w0.heap.size 57 3 vo ms.length (flatM ms)) ∧ Hid (ms = out ++ (List.range j).filterMap (putK R p k)) ∧ Hid (Below w0.heap.size w0 wq)) (fun _ j _ => (p.hand p.turn).length - (intOf j).toNat)
          case atStart => exact ⟨0, out, Nat.zero_le _, rfl, HO, Lib.hid (by simp), HBr⟩
          case round =>
            obtain ⟨j, ms, hj, rfl, HO, HMS, HBq⟩ := hrel
            have hszq := HBq.out.size
            have hml : ms.length ≤ 390 := by rw [HMS.out, List.length_append]; have := putK_len R p k j; omega
            by_cases hjl : j < (p.hand p.turn).length
            · obtain ⟨gh, oh, eh, hch⟩ := cells_rd (HHw.out.below HBq.out (Nat.le_refl _)) (by omega)
              subst eh
              have hcj := hch j hjl
              have HST : Hid ((List.range (j + 1)).filterMap (putK R p k) = (List.range j).filterMap (putK R p k) ++ (putK R p k j).toList) := Lib.hid (filterMap_snoc _ _)
              clear hch
              by_cases hpos : 0 < (p.hand p.turn).getD j 0
              · have HK1 : Hid (putK R p k j = some ⟨-1, k, j⟩) := Lib.hid (by unfold putK; rw [if_pos hpos])
                generalize (p.hand p.turn).getD j 0 = hv at *
                go_wp2_with (at_builtin; refine app_new 36 57 (.agg #[.int .i64 0, .int .i64 0, .int .i64 0]) 3 24 infoMove Try.underlying36 rfl (by decide) (by rfl) _ _ (by rfl) (w0.heap.size) _ ms.length (flatM ms) [.int .i64 (-1), .int .i64 k, .int .i64 j] wr HO.out (by omega) rfl three_ints (by omega) (by omega) (by rfl) (by rfl) ?_)
                intro g3 cap3 w3 hown3 hkeep3 _
                have HO3 := Lib.hid hown3
                have HB3 := Lib.hid (hkeep3.below HBq.out (Nat.le_refl _))
                clear hown3 hkeep3
                go_wp2_with fail
                go_roundw
                case rel => exact ⟨j + 1, ms ++ [⟨-1, k, j⟩], by omega, by go_num, Lib.hid (by rw [← flatM_append, List.length_append]; exact HO3.out), Lib.hid (by rw [HST.out, HK1.out, HMS.out]; simp), HB3⟩
                case measure => simp [intOf]; omega
              · have HK1 : Hid (putK R p k j = none) := Lib.hid (by unfold putK; rw [if_neg hpos])
                generalize (p.hand p.turn).getD j 0 = hv at *
                go_wp2_with fail
                go_roundw
                case rel => exact ⟨j + 1, ms, by omega, by go_num, HO, Lib.hid (by rw [HST.out, HK1.out, HMS.out]; simp), HBq⟩
                case measure => simp [intOf]; omega
            · obtain rfl : j = (p.hand p.turn).length := by omega
              have HE : Hid (ms = (List.range (k + 1)).flatMap (putsAt R p)) := Lib.hid (by rw [HMS.out, flatMap_snoc, HOUT.out, HPA.out])
              go_wp2_with fail
              go_roundw
              case rel => exact ⟨k + 1, ms, by omega, by go_num, HO, HE, HBq⟩
              case measure => simp [intOf]; omega
        · rw [hf] at q5
          have HFT := Lib.hid hf
          by_cases hsw : R.width ≤ (k : Int)
          · have s0 := (HBy.out.below HBr.out (by omega)).cell 0 rfl
            have s1 := (HBy.out.below HBr.out (by omega)).cell 1 rfl
            have s2 := (HBy.out.below HBr.out (by omega)).cell 2 rfl
            have s4 := (HBy.out.below HBr.out (by omega)).cell 4 rfl
            have hfa := filled_any R vp vs ve p _ (.slice a0 p.h0.length c0) (.slice a1 p.h1.length c1) k _ (HC.out.below (below_trans HB.out HBr.out HB.out.size) (Nat.le_refl _)) K hlt
            rw [hf] at hfa
            have HFA := Lib.hid hfa
            clear hfa hf
            go_wp2_with fail
            refine HFA.out.mono ?_
            rintro e w5 ⟨rfl, hb5⟩
            have HB5 := Lib.hid (below_trans HBr.out hb5 HBr.out.size)
            have HO5 := Lib.hid (own_stays HO.out hb5)
            have hz5 := hb5.size
            have f3 := (HBy.out.below HB5.out (by omega)).cell 3 rfl
            have f4 : w5.cell? ⟨w.heap.size + 1, 1 + p.turn.toNat, none⟩ = some (.slice ah (p.hand p.turn).length ch) := (HB5.out.cell (by show w.heap.size + 1 < w0.heap.size; omega)).trans HCH.out
            clear hb5 q0 q1 q2 q3 q4 q5 q6 q7 q8 q9 q10 e3 e4 hck
            cases hfl : filledZ R.width.toNat p.cells k
            · have HPA : Hid (putsAt R p k = []) := Lib.hid (by rw [HPD.out, if_pos (.inr ⟨HFT.out, hsw, hfl⟩)])
              clear HPD HO
              have HO := HO5
              go_wp2_with fail
              go_roundw
              case rel => exact ⟨k + 1, out, by omega, by go_num, HO, Lib.hid (by rw [flatMap_snoc, HOUT.out, HPA.out, List.append_nil]), HB5⟩
              case measure => simp [intOf]; omega
            · have HPA : Hid (putsAt R p k = (List.range (p.hand p.turn).length).filterMap (putK R p k)) := Lib.hid (by rw [HPD.out, if_neg (by simp [hfl])])
              clear HPD HO
              have HO := HO5
              go_wp2_with fail
              go_loopw [5, 43] (fun vo vj wq => ∃ (j : Nat) (ms : List MoveZ), j ≤ (p.hand p.turn).length ∧ vj = .int .i64 j ∧ Hid (wq.ownsRow w0.heap.size 57 3 vo ms.length (flatM ms)) ∧ Hid (ms = out ++ (List.range j).filterMap (putK R p k)) ∧ Hid (Below w0.heap.size w0 wq)) (fun _ j _ => (p.hand p.turn).length - (intOf j).toNat)
              case atStart => exact ⟨0, out, Nat.zero_le _, rfl, HO, Lib.hid (by simp), HB5⟩
              case round =>
                obtain ⟨j, ms, hj, rfl, HO, HMS, HBq⟩ := hrel
                have hszq := HBq.out.size
                have hml : ms.length ≤ 390 := by rw [HMS.out, List.length_append]; have := putK_len R p k j; omega
                by_cases hjl : j < (p.hand p.turn).length
                · obtain ⟨gh, oh, eh, hch⟩ := cells_rd (HHw.out.below HBq.out (Nat.le_refl _)) (by omega)
                  subst eh
                  have hcj := hch j hjl
                  have HST : Hid ((List.range (j + 1)).filterMap (putK R p k) = (List.range j).filterMap (putK R p k) ++ (putK R p k j).toList) := Lib.hid (filterMap_snoc _ _)
                  clear hch
                  by_cases hpos : 0 < (p.hand p.turn).getD j 0
                  · have HK1 : Hid (putK R p k j = some ⟨-1, k, j⟩) := Lib.hid (by unfold putK; rw [if_pos hpos])
                    generalize (p.hand p.turn).getD j 0 = hv at *
                    go_wp2_with (at_builtin; refine app_new 36 57 (.agg #[.int .i64 0, .int .i64 0, .int .i64 0]) 3 24 infoMove Try.underlying36 rfl (by decide) (by rfl) _ _ (by rfl) (w0.heap.size) _ ms.length (flatM ms) [.int .i64 (-1), .int .i64 k, .int .i64 j] wr HO.out (by omega) rfl three_ints (by omega) (by omega) (by rfl) (by rfl) ?_)
                    intro g3 cap3 w3 hown3 hkeep3 _
                    have HO3 := Lib.hid hown3
                    have HB3 := Lib.hid (hkeep3.below HBq.out (Nat.le_refl _))
                    clear hown3 hkeep3
                    go_wp2_with fail
                    go_roundw
                    case rel => exact ⟨j + 1, ms ++ [⟨-1, k, j⟩], by omega, by go_num, Lib.hid (by rw [← flatM_append, List.length_append]; exact HO3.out), Lib.hid (by rw [HST.out, HK1.out, HMS.out]; simp), HB3⟩
                    case measure => simp [intOf]; omega
                  · have HK1 : Hid (putK R p k j = none) := Lib.hid (by unfold putK; rw [if_neg hpos])
                    generalize (p.hand p.turn).getD j 0 = hv at *
                    go_wp2_with fail
                    go_roundw
                    case rel => exact ⟨j + 1, ms, by omega, by go_num, HO, Lib.hid (by rw [HST.out, HK1.out, HMS.out]; simp), HBq⟩
                    case measure => simp [intOf]; omega
                · obtain rfl : j = (p.hand p.turn).length := by omega
                  have HE : Hid (ms = (List.range (k + 1)).flatMap (putsAt R p)) := Lib.hid (by rw [HMS.out, flatMap_snoc, HOUT.out, HPA.out])
                  go_wp2_with fail
                  go_roundw
                  case rel => exact ⟨k + 1, ms, by omega, by go_num, HO, HE, HBq⟩
                  case measure => simp [intOf]; omega
          · have HPA : Hid (putsAt R p k = (List.range (p.hand p.turn).length).filterMap (putK R p k)) := Lib.hid (by rw [HPD.out, if_neg (by simp [hsw])])
            clear HPD
            go_wp2_with fail
            go_loopw [5, 43] (fun vo vj wq => ∃ (j : Nat) (ms : List MoveZ), j ≤ (p.hand p.turn).length ∧ vj = .int .i64 j ∧ Hid (wq.ownsRow w0.heap.size 57 3 vo ms.length (flatM ms)) ∧ Hid (ms = out ++ (List.range j).filterMap (putK R p k)) ∧ Hid (Below w0.heap.size w0 wq)) (fun _ j _ => (p.hand p.turn).length - (intOf j).toNat)
            case atStart => exact ⟨0, out, Nat.zero_le _, rfl, HO, Lib.hid (by simp), HBr⟩
            case round =>
              obtain ⟨j, ms, hj, rfl, HO, HMS, HBq⟩ := hrel
              have hszq := HBq.out.size
              have hml : ms.length ≤ 390 := by rw [HMS.out, List.length_append]; have := putK_len R p k j; omega
              by_cases hjl : j < (p.hand p.turn).length
              · obtain ⟨gh, oh, eh, hch⟩ := cells_rd (HHw.out.below HBq.out (Nat.le_refl _)) (by omega)
                subst eh
                have hcj := hch j hjl
                have HST : Hid ((List.range (j + 1)).filterMap (putK R p k) = (List.range j).filterMap (putK R p k) ++ (putK R p k j).toList) := Lib.hid (filterMap_snoc _ _)
                clear hch
                by_cases hpos : 0 < (p.hand p.turn).getD j 0
                · have HK1 : Hid (putK R p k j = some ⟨-1, k, j⟩) := Lib.hid (by unfold putK; rw [if_pos hpos])
                  generalize (p.hand p.turn).getD j 0 = hv at *
                  go_wp2_with (at_builtin; refine app_new 36 57 (.agg #[.int .i64 0, .int .i64 0, .int .i64 0]) 3 24 infoMove Try.underlying36 rfl (by decide) (by rfl) _ _ (by rfl) (w0.heap.size) _ ms.length (flatM ms) [.int .i64 (-1), .int .i64 k, .int .i64 j] wr HO.out (by omega) rfl three_ints (by omega) (by omega) (by rfl) (by rfl) ?_)
                  intro g3 cap3 w3 hown3 hkeep3 _
                  have HO3 := Lib.hid hown3
                  have HB3 := Lib.hid (hkeep3.below HBq.out (Nat.le_refl _))
                  clear hown3 hkeep3
                  go_wp2_with fail
                  go_roundw
                  case rel => exact ⟨j + 1, ms ++ [⟨-1, k, j⟩], by omega, by go_num, Lib.hid (by rw [← flatM_append, List.length_append]; exact HO3.out), Lib.hid (by rw [HST.out, HK1.out, HMS.out]; simp), HB3⟩
                  case measure => simp [intOf]; omega
                · have HK1 : Hid (putK R p k j = none) := Lib.hid (by unfold putK; rw [if_neg hpos])
                  generalize (p.hand p.turn).getD j 0 = hv at *
                  go_wp2_with fail
                  go_roundw
                  case rel => exact ⟨j + 1, ms, by omega, by go_num, HO, Lib.hid (by rw [HST.out, HK1.out, HMS.out]; simp), HBq⟩
                  case measure => simp [intOf]; omega
              · obtain rfl : j = (p.hand p.turn).length := by omega
                have HE : Hid (ms = (List.range (k + 1)).flatMap (putsAt R p)) := Lib.hid (by rw [HMS.out, flatMap_snoc, HOUT.out, HPA.out])
                go_wp2_with fail
                go_roundw
                case rel => exact ⟨k + 1, ms, by omega, by go_num, HO, HE, HBq⟩
                case measure => simp [intOf]; omega
      · have hc0' : (c != 0) = true := by simpa using hc0
        have HPA : Hid (putsAt R p k = []) := Lib.hid (by rw [HPD.out, if_pos (.inl hc0)])
        clear HPD hc0
        go_wp2_with fail
        go_roundw
        case rel => exact ⟨k + 1, out, by omega, by go_num, HO, Lib.hid (by rw [flatMap_snoc, HOUT.out, HPA.out, List.append_nil]), HBr⟩
        case measure => simp [intOf]; omega
    · obtain rfl : k = p.cells.length := by omega
      have HE : Hid (putsZ R p = out) := Lib.hid (by rw [HZ.out, HOUT.out])
      go_wp2_with fail
      go_ret
      exact ⟨_, rfl, by rw [HE.out]; exact (own_base HO.out (by omega)), below_trans HB.out HBr.out HB.out.size⟩

end Go.Proofs.Ytnieifdogllbfaa

/- RobinRest: who has no game in a round has the bye. For every input, no condition. -/
import Derived.Test.YtdmidjcjmkcopaaRobRestA
namespace Go.Proofs.Ytdmidjcjmkcopaa.robinRest
open Go.ChangeShapes Go.WideShapes Go.ChangeAt Go.RowKit Go.Proofs.Ytdmidjcjmkcopaa.robinFair
set_option linter.unusedVariables false

set_option maxHeartbeats 4000000 in
theorem walk_ok (n r : Nat) (tw : Bool) (off : Int) (w : World) (h : RoundOk n tw r) (hoff : offZ n r = off)
    (BY : ∀ w : World, Calls Try.prog 11 #[.int .i64 n, .bool tw, .int .i64 r] w fun e w' => e = .returned (.tuple #[.int .i64 off, .int .i64 0]) ∧ w = w') :
    Calls Try.prog 4 #[.int .i64 n, .bool tw, .int .i64 r] w fun e w' => e = .returned (.bool true) ∧ Below w.heap.size w w' := by
  obtain ⟨i0, hi, hz0, hz1, hz2⟩ := info_parts info3
  have hb : roundsZ n tw ≤ 62 := by have := h.1; unfold roundsZ halfZ; split <;> omega
  have h0 : 2 ≤ n := by have := h.1; omega
  have h1 : n ≤ 32 := by have := h.1; omega
  have hr62 : r < 62 := by have := h.2.2; omega
  have HB := Lib.hid BY
  have HR := Lib.hid h
  have HK := Lib.hid (games_ok n r h0 h1 hr62)
  have hgl := games_len n r (by omega) (by omega)
  have HX := Lib.hid (fun i hi => rest n r h0 h1 hr62 i hi)
  rw [hoff] at HX
  clear BY h hb hoff
  go_enter Try.func4, Try.ntmps4
  go_wp2_with fail
  refine (roundsOwn _).mono ?_
  rintro e w' ⟨rfl, rfl⟩
  go_wp2_with fail
  refine (Round_ok n tw r _ HR.out).mono ?_
  rintro e w1 ⟨v, rfl, hown2, hb2⟩
  generalize gamesZ n r = gs at *
  have hform : (v = .slice none 0 0 ∧ gs.length = 0) ∨ ∃ g cap, v = .slice (some ⟨g, 0, none⟩) gs.length cap ∧ w.heap.size + 2 ≤ g := by
    rcases hown2.2 with h | ⟨g, cap, _, h, hg, _⟩
    · exact .inl h
    · exact .inr ⟨g, cap, h, hg⟩
  have HV := Lib.hid hown2
  clear hown2
  have hlen : Hid ((busR (List.replicate n 0) gs).length = n) := Lib.hid (by rw [busR_len]; simp)
  rcases hform with ⟨rfl, hz⟩ | ⟨g, cap, rfl, hgb⟩
  · obtain rfl : gs = [] := List.length_eq_zero_iff.1 hz
    exfalso
    have z : ∀ i, (busR (List.replicate n 0) []).getD i 0 = 0 := fun i => by
      have := In_zero n i
      show (List.replicate n 0).getD i 0 = 0
      omega
    have q := (HX.out 0 (by omega)).1
    have q1 := (HX.out 1 (by omega)).1
    rw [z] at q q1
    simp at q q1
    omega
  · have hg2 : g < w1.heap.size := (HV.out.lt g rfl).2
    go_wp2_with fail
    refine (HB.out _).mono ?_
    rintro e w' ⟨rfl, rfl⟩
    go_wp2_with (at_make; refine wpList_make_full _ rfl _ _ 26 rfl w1.heap.size 3 i0 (.int .i64 0) 1 Try.underlying26 hi hz0 hz1 .i64 .i64 n n n rfl rfl rfl rfl (by rw [hz2]; omega) (by unfold maxLen; omega) (Nat.le_refl _) ?_; intro w2 hown hgrow)
    rw [made_ints] at hown
    have hgl2 := hgrow.size
    have HV2 : Hid (w2.ownsRow (w.heap.size + 2) 35 2 (.slice (some ⟨g, 0, none⟩) gs.length cap) gs.length (flat gs)) := Lib.hid (HV.out.kept hgrow (Or.inr (by simp [Value.ownBlock])))
    have HO := Lib.hid hown
    have hsz2 : w1.heap.size < w2.heap.size := (hown.lt _ rfl).2
    have hB1 : Below w.heap.size w w2 := hb2.trans ⟨hgrow.os, hgrow.tape, hgrow.output, hgrow.size, fun k hk => hgrow.block k (by have := hb2.size; omega) (by simp)⟩
    have hne0 : w.heap.size ≤ w1.heap.size := hb2.size
    clear hown hgrow hb2 HV
    go_loopw [48] (fun i wr => ∃ k : Nat, k ≤ gs.length ∧ i = .int .i64 k ∧ Hid (wr.ownsRow w1.heap.size 3 1 (.slice (some ⟨w1.heap.size, 0, none⟩) n n) n (ints (busR (List.replicate n 0) (gs.take k)))) ∧ Hid (wr.ownsRow (w.heap.size + 2) 35 2 (.slice (some ⟨g, 0, none⟩) gs.length cap) gs.length (flat gs)) ∧ Below w.heap.size w wr) (fun i _ => gs.length - (intOf i).toNat)
    case atStart => exact ⟨0, Nat.zero_le _, rfl, HO, HV2, hB1⟩
    case round =>
      obtain ⟨k, hk, rfl, HO3, HV3, hbl3⟩ := hrel
      by_cases hlt2 : k < gs.length
      · have hgk := HK.out _ (getD_mem gs k hlt2)
        obtain ⟨q1, q2⟩ := flat_get gs k hlt2
        have c1 : wr.cell? ⟨g, k * 2, none⟩ = some (.int .i64 (gs.getD k (0, 0)).1) := (HV3.out.cellAt _ (by omega)).trans q1
        have c2 : wr.cell? ⟨g, k * 2 + 1, none⟩ = some (.int .i64 (gs.getD k (0, 0)).2) := (HV3.out.cellAt _ (by omega)).trans q2
        have HT := Lib.hid (take_snoc' gs k hlt2)
        clear q1 q2
        generalize gs.getD k (0, 0) = q at *
        obtain ⟨qa, qb⟩ := q
        obtain ⟨a, rfl⟩ : ∃ a : Nat, qa = (a : Int) := ⟨qa.toNat, by simp at hgk; omega⟩
        obtain ⟨b, rfl⟩ : ∃ b : Nat, qb = (b : Int) := ⟨qb.toNat, by simp at hgk; omega⟩
        simp only at hgk c1 c2
        have ha : a < n := by omega
        have hb' : b < n := by omega
        have hab : ¬ a = b := by omega
        have hba : ¬ b = a := by omega
        have HL2 : (busR (List.replicate n 0) (gs.take k)).length = n := by rw [busR_len]; simp
        have hin := In_bus (gs.take k) (In_zero n) (by omega)
        have htl : (gs.take k).length ≤ gs.length := List.length_take_le' k gs
        have ca : wr.cell? ⟨w1.heap.size, a, none⟩ = some (.int .i64 ((busR (List.replicate n 0) (gs.take k)).getD a 0)) := (HO3.out.cellAt a (by omega)).trans (ints_get _ a (by omega))
        have cb : wr.cell? ⟨w1.heap.size, b, none⟩ = some (.int .i64 ((busR (List.replicate n 0) (gs.take k)).getD b 0)) := (HO3.out.cellAt b (by omega)).trans (ints_get _ b (by omega))
        have fa : wr.frozen? ⟨w1.heap.size, a, none⟩ = false := HO3.out.frozenAt a
        have fb : wr.frozen? ⟨w1.heap.size, b, none⟩ = false := HO3.out.frozenAt b
        have hia := hin a
        have hib := hin b
        clear HL2 hin hgk
        have hg3 : g < wr.heap.size := (HV3.out.lt g rfl).2
        have hG3 : w1.heap.size < wr.heap.size := (HO3.out.lt _ rfl).2
        have hne : ¬ g = w1.heap.size := by omega
        have hne2 : ¬ w1.heap.size = g := by omega
        have HSt := Lib.hid (fun xa xb (h1 : (busR (List.replicate n 0) (gs.take k)).getD a 0 = xa) (h2 : (busR (List.replicate n 0) (gs.take k)).getD b 0 = xb) o => bus_step o HO3.out (by omega : a ≠ b) h1 h2)
        have HSn := Lib.hid (busR_snoc (List.replicate n 0) (gs.take k) ((a : Int), (b : Int)))
        generalize busR (List.replicate n 0) (gs.take k) = l at *
        generalize hxa : l.getD a 0 = xa at ca hia
        generalize hxb : l.getD b 0 = xb at cb hib
        have HSt2 := Lib.hid (HSt.out xa xb hxa hxb)
        clear hxa hxb HSt
        have hia1 : -100 ≤ xa := by omega
        have hia2 : xa ≤ 100 := by omega
        have hib1 : -100 ≤ xb := by omega
        have hib2 : xb ≤ 100 := by omega
        clear hia hib
        go_wp2_with fail
        go_roundw
        case rel => exact ⟨k + 1, by omega, by go_num, Lib.hid (by rw [HT.out, HSn.out]; exact HSt2.out _), Lib.hid ((((HV3.out.kept (hg_set _ _ _) (Or.inr (by simp [Value.ownBlock]; omega))).kept (hg_set _ _ _) (Or.inr (by simp [Value.ownBlock]; omega)))).alloc _), by go_grown⟩
        case measure => simp [intOf]; omega
      · obtain rfl : k = gs.length := by omega
        have hfull : Hid (wr.ownsRow w1.heap.size 3 1 (.slice (some ⟨w1.heap.size, 0, none⟩) n n) n (ints (busR (List.replicate n 0) gs))) := Lib.hid (by simpa using HO3.out)
        clear HO3 HV3
        generalize busR (List.replicate n 0) gs = l at *
        go_wp2_with fail
        go_loop [69] (fun i => ∃ j : Nat, j ≤ n ∧ i = .int .i64 j) (fun i => n - (intOf i).toNat)
        case atStart => exact ⟨0, Nat.zero_le _, rfl⟩
        case round =>
          obtain ⟨j, hj, rfl⟩ := hrel
          by_cases hlt : j < n
          · obtain ⟨x1, x2⟩ := HX.out j hlt
            have hl := hlen.out
            have cc : wr.cell? ⟨w1.heap.size, j, none⟩ = some (.int .i64 (l.getD j 0)) := (hfull.out.cellAt j (by omega)).trans (ints_get _ j (by omega))
            clear hl
            generalize l.getD j 0 = d at *
            have x1' : (d == 0) = ((j : Int) == off) := by simpa using x1
            clear x1
            cases hd : (d == 0)
            all_goals
              rw [hd] at x1'
              have x3 := x1'.symm
              clear x1'
              go_wp2
              go_round
              case rel => exact ⟨j + 1, by omega, by go_num⟩
              case measure => simp [intOf]; omega
          · obtain rfl : j = n := by omega
            go_wp2
            go_ret
            exact ⟨rfl, hbl3⟩

theorem walk (n : Int) (tw : Bool) (round : Int) (w : World) :
    Calls Try.prog 4 #[.int .i64 n, .bool tw, .int .i64 round] w fun e w' => e = .returned (.bool true) ∧ Below w.heap.size w w' := by
  by_cases h : RoundOk n tw round
  · obtain ⟨m, rfl⟩ : ∃ m : Nat, n = (m : Int) := ⟨n.toNat, by have := h.1; omega⟩
    obtain ⟨r, rfl⟩ : ∃ r : Nat, round = (r : Int) := ⟨round.toNat, by have := h.2.1; omega⟩
    cases he : ((m : Int) % 2 == 0)
    · exact walk_ok m r tw (r % halfZ m) w h (by unfold offZ; rw [he]; rfl) (fun w => Bye_odd m tw r w h he)
    · exact walk_ok m r tw (-1) w h (by unfold offZ; rw [he]; rfl) (fun w => Bye_even m tw r w h he)
  · exact walk_no n tw round w h

section
theorem own : ownKnob Try.prog.godebug = none := by kernel_rfl
theorem laidOut : laidOutB Try.prog = true := by kernel_rfl

set_option maxRecDepth 100000 in
theorem lifted (os : Os) (started : os.Started) (H : Type) (enc : TypeId × Value → H) :
    ReturnsInHanded {} Try.checked os 4 .any (Rows.robinRestSpec.pre6 enc Try.prog Try.f4 Rows.robinRestRow.domain false) (Rows.robinRestSpec.post enc Try.prog Try.f4 false true false false) := by
  refine returnsInHanded_of_change (C := Try.checked) own started (by kernel_rfl) Try.func4
    (ChangeSpec.witness6 (enc := enc) (C := Try.checked) false ⟨#[], #[.int .i64 0, .bool false, .int .i64 0], []⟩ 8 (by kernel_rfl) (by kernel_rfl) (by kernel_rfl) (by kernel_rfl)) ?_
  intro W base args ds gs before hval0 hW hcnd _
  have hval : ∀ (j : Nat) t v, Try.f4.params[j]? = some t → args[j]? = some v → Value.okWide Try.prog W .any base t v := hval0
  have hW' := hW
  obtain ⟨p, q, hA0, hV, rfl, hfz, hnd⟩ := hW
  have hA : DataW.TrodAll enc Try.prog W 0 (fun _ => true) true Try.f4.params.toList args.toList ds p := hA0
  rw [Try.params4] at hA hval
  have hAll := hA
  obtain ⟨v0, vs0, d0, ds0, p0, q0, hargs, rfl, rfl, h0, r0⟩ := trodAll_cons hA
  obtain ⟨v1, vs1, d1, ds1, p1, q1, rfl, rfl, rfl, h1, r1⟩ := trodAll_cons r0
  obtain ⟨v2, vs2, d2, ds2, p2, q2, rfl, rfl, rfl, h2, r2⟩ := trodAll_cons r1
  obtain ⟨rfl, rfl, rfl⟩ := trodAll_nil r2
  obtain rfl : args = #[v0, v1, v2] := by cases args; simp_all
  obtain ⟨rfl, rfl⟩ := trodVars_none hV
  obtain ⟨a0, rfl, rfl, rfl, w0⟩ := open_int Try.underlying3 (hval 0 3 v0 rfl rfl) h0
  obtain ⟨a1, rfl, rfl, rfl⟩ := open_bool Try.underlying4 (hval 1 4 v1 rfl rfl) h1
  obtain ⟨a2, rfl, rfl, rfl, w2⟩ := open_int Try.underlying3 (hval 2 3 v2 rfl rfl) h2
  clear hA0 hval0
  refine (walk a0 a1 a2 W).mono fun e W' ⟨he, bel⟩ => ?_
  subst he
  exact ⟨_, rfl, _, _, _, [], _, [], hW', trodAll_mk1 (shut_bool Try.underlying4 _), trodAll_stays laidOut bel (by kernel_rfl) hAll, rfl, bel.frame _, fun h => by cases h⟩

theorem over : Rows.robinRestRow.holds Try.pinned (OpenSpec.ofChange Rows.robinRestSpec) :=
  OpenClaim.holds_of_wide 4 Try.f4 rfl rfl rfl rfl rfl rfl rfl ⟨rfl, rfl, rfl, rfl, rfl⟩ rfl rfl rfl rfl rfl (by kernel_rfl) Try.func4 (by kernel_rfl)
    (of_decide_eq_true (by kernel_rfl)) (by unfold Func.isWrapper; first | (rw [if_pos (by decide +kernel)]; kernel_rfl) | (rw [if_neg (by decide +kernel)]; exact ⟨rfl, rfl⟩))
    (fun os started H enc _ => lifted os started H enc)

theorem proved : Rows.RobinRestSaid := over
end
#print axioms proved
end Go.Proofs.Ytdmidjcjmkcopaa.robinRest

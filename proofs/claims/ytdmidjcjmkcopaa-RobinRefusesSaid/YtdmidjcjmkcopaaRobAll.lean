/- The contract of robin.All. -/
import Derived.Test.YtdmidjcjmkcopaaRobChk2
import Derived.Test.YtdmidjcjmkcopaaRobAllP
import Derived.Maps.AppendAt
namespace Go.Proofs.Ytdmidjcjmkcopaa
open Go.ChangeShapes Go.WideShapes Go.ChangeAt Go.RowKit
set_option linter.unusedVariables false

theorem own_mono {w : World} {b b' : Nat} {e : TypeId} {sz n : Nat} {v : Value} {xs : List Value} (h : w.ownsRow b e sz v n xs) (hb : b' ≤ b) : w.ownsRow b' e sz v n xs := by
  refine ⟨h.1, ?_⟩
  rcases h.2 with h0 | ⟨g, c, cur, hv, hg, r⟩
  · exact .inl h0
  · exact .inr ⟨g, c, cur, hv, by omega, r⟩
theorem own_ne {w : World} {b b' : Nat} {e e' : TypeId} {sz sz' n n' : Nat} {v v' : Value} {xs xs' : List Value} (h : w.ownsRow b e sz v n xs) (h' : w.ownsRow b' e' sz' v' n' xs') (hne : e ≠ e') : v.ownBlock = none ∨ v.ownBlock ≠ v'.ownBlock := by
  rcases h.2 with ⟨rfl, _⟩ | ⟨g, c, cur, rfl, _, hb, _⟩
  · exact .inl rfl
  · right
    rcases h'.2 with ⟨rfl, _⟩ | ⟨g', c', cur', rfl, _, hb', _⟩
    · simp [Value.ownBlock]
    · simp only [Value.ownBlock, ne_eq, Option.some.injEq]
      intro hg
      subst hg
      rw [hb] at hb'
      simp at hb'
      exact hne hb'.2
theorem own_below {w w' : World} {b : Nat} {e : TypeId} {sz n : Nat} {v : Value} {xs : List Value} (h : w.ownsRow b e sz v n xs) (hb : Below w.heap.size w w') : w'.ownsRow b e sz v n xs :=
  h.kept (row := none) ⟨hb.os, hb.tape, hb.output, hb.size, fun k hk _ => hb.block k hk⟩ (by rcases h.2 with ⟨rfl, _⟩ | ⟨g, c, cur, rfl, _⟩ <;> simp [Value.ownBlock])

/-- a schedule that the call has made: v owns the row of slices vs, each of which owns its games. -/
def Made (w : World) (B : Nat) (v : Value) (vs : List Value) (rows : List (List (Int × Int))) : Prop :=
  w.ownsRow B 30 1 v rows.length vs ∧ ∀ j (h : j < rows.length), ∃ u, vs[j]? = some u ∧ w.ownsRow B 35 2 u rows[j].length (flat rows[j])
theorem Made.sched {w : World} {B : Nat} {v : Value} {vs : List Value} {rows : List (List (Int × Int))} (h : Made w B v vs rows) : Sched w v rows :=
  ⟨vs, Rd.of_own h.1, fun j hj => by obtain ⟨u, hu, ho⟩ := h.2 j hj; exact ⟨u, hu, Rd.of_own ho⟩⟩
def AllPost (rows : List (List (Int × Int))) (w : World) (e : Ending) (w' : World) : Prop :=
  ∃ v vs, e = .returned (.tuple #[v, .int .i64 0]) ∧ Made w' w.heap.size v vs rows ∧ Below w.heap.size w w'

theorem info30 : (Try.prog.info? 30).map (fun i => (i.zero, i.size, i.bytes)) = some (some (.slice none 0 0), 1, 24) := by kernel_rfl

theorem All_no (n : Int) (tw : Bool) (w : World) (h : n < 2 ∨ 32 < n) :
    Calls Try.prog 12 #[.int .i64 n, .bool tw] w fun e w' => e = .returned (.tuple #[.slice none 0 0, .int .i64 4]) ∧ w = w' := by
  have H := Lib.hid h
  clear h
  go_enter Try.func12, Try.ntmps12
  go_wp2_with fail
  refine (Rounds_no n tw _ H.out).mono ?_
  rintro e w' ⟨rfl, rfl⟩
  go_wp2
  go_ret2
  exact ⟨rfl, rfl⟩

theorem Made.step {w w1 w2 : World} {B : Nat} {v v' u : Value} {vs : List Value} {rows : List (List (Int × Int))} {row : List (Int × Int)} (o : Obj) (h : Made w B v vs rows) (hb1 : Below w.heap.size w w1) (hu : w1.ownsRow B 35 2 u row.length (flat row))
    (hown : w2.ownsRow B 30 1 v' (rows.length + 1) (vs ++ [u])) (hg : (w1.alloc o).grownBy w2 v.ownBlock) : Made w2 B v' (vs ++ [u]) (rows ++ [row]) := by
  have hv1 := (own_below h.1 hb1).alloc o
  have hvl : vs.length = rows.length := by have := h.1.1; omega
  refine ⟨by simpa using hown, fun j hj => ?_⟩
  rcases Nat.lt_or_ge j rows.length with hlt | hge
  · obtain ⟨x, hx, hox⟩ := h.2 j hlt
    refine ⟨x, by rw [List.getElem?_append_left (by omega)]; exact hx, ?_⟩
    have := (own_below hox hb1).alloc o
    rw [List.getElem_append_left hlt]
    exact this.kept hg (own_ne this hv1 (by decide))
  · have : j = rows.length := by simp at hj; omega
    subst this
    refine ⟨u, by rw [List.getElem?_append_right (by omega), hvl]; simp, ?_⟩
    rw [List.getElem_append_right (by omega)]
    simp only [Nat.sub_self, List.getElem_cons_zero]
    have := hu.alloc o
    exact this.kept hg (own_ne this hv1 (by decide))

set_option maxHeartbeats 1000000 in
theorem All_ok (n : Nat) (tw : Bool) (w : World) (h0 : 2 ≤ n) (h1 : n ≤ 32) :
    Calls Try.prog 12 #[.int .i64 n, .bool tw] w (AllPost (allZ n tw) w) := by
  obtain ⟨i0, hi, hz0, hz1, hz2⟩ := info_parts info30
  have hk : 1 ≤ roundsZ n tw ∧ roundsZ n tw ≤ 62 := by unfold roundsZ halfZ; split <;> omega
  have HA : Hid (allZ n tw = (List.range (roundsZ n tw).toNat).map fun r : Nat => gamesZ n r) := Lib.hid rfl
  go_enter Try.func12, Try.ntmps12
  go_wp2_with fail
  refine (Rounds_ok n tw _ (by omega) (by omega)).mono ?_
  rintro e w' ⟨rfl, rfl⟩
  generalize roundsZ n tw = KI at *
  obtain ⟨K, rfl⟩ : ∃ K : Nat, KI = (K : Int) := ⟨KI.toNat, by omega⟩
  rw [Int.toNat_natCast] at HA
  go_wp2_with fail
  go_loopw [8, 20] (fun v i wr => ∃ r : Nat, r ≤ K ∧ i = .int .i64 r ∧ Hid (∃ vs, Made wr w.heap.size v vs ((List.range r).map fun r : Nat => gamesZ n r)) ∧ Below w.heap.size w wr) (fun _ i _ => K - (intOf i).toNat)
  case atStart => exact ⟨0, by omega, rfl, Lib.hid ⟨[], World.ownsRow_nil _ _ _ _, fun j h => by simp at h⟩, Below.refl _ _⟩
  case round =>
    obtain ⟨r, hr, rfl, HM, hbl⟩ := hrel
    by_cases hlt : r < K
    · have hsz := hbl.size
      go_wp2_with fail
      refine (games_any n r _ (by omega) (by omega) (by omega) (by omega)).mono ?_
      rintro e w1 ⟨u, rfl, hown, hb1⟩
      obtain ⟨vs, hm⟩ := HM.out
      have hlen : (List.map (fun r : Nat => gamesZ n r) (List.range r)).length = r := by simp
      have hv1 := own_below hm.1 hb1
      rw [hlen] at hv1
      have hu1 := own_mono hown (show w.heap.size ≤ wr.heap.size + 2 by omega)
      have hsz1 := hb1.size
      have hbl1 : Below w.heap.size w w1 := hbl.trans (hb1.mono hsz)
      obtain ⟨ua, un, uc, rfl⟩ : ∃ a n c, u = .slice a n c := by
        rcases hown.2 with ⟨h, _⟩ | ⟨g, c, _, h, _⟩
        · exact ⟨_, _, _, h⟩
        · exact ⟨_, _, _, h⟩
      have Hm := Lib.hid hm
      have Hu := Lib.hid hu1
      clear hm hown hu1
      go_wp2_with (at_builtin; go_loud (refine wpList_append_own _ rfl _ _ 37 rfl w.heap.size 30 i0 (.slice none 0 0) 1 24 Try.underlying37 hi hz0 hz1 hz2 rfl (by decide) _ r vs rfl (hv1.alloc _) ⟨w1.heap.size, 0, none⟩ 1 1 [.slice ua un uc] rfl rfl (cell_one_new _ _ _) ?c2 ?c3 ?c4 ?c5 ?_))
      case c2 => intro x hx; simp at hx; rw [hx]; rfl
      case c3 => unfold maxLen; omega
      case c4 => omega
      case c5 => simp; omega
      intro v' w2 hown' hgrow _
      have HM2 := Lib.hid (Made.step _ Hm.out hb1 Hu.out (by rw [hlen]; exact hown') hgrow)
      have hbl2 : Below w.heap.size w w2 := Below.grown (hbl1.alloc (by omega) _) hgrow (by simp; omega) (fun k hk => (hv1.lt k hk).1)
      clear hown' hgrow hv1 Hm Hu hb1 HM
      go_wp2_with fail
      go_roundw
      case rel => exact ⟨r + 1, by omega, by go_num, Lib.hid ⟨_, by rw [List.range_succ, List.map_append]; exact HM2.out⟩, hbl2⟩
      case measure => simp [intOf]; omega
    · obtain rfl : r = K := by omega
      go_wp2_with fail
      go_ret2
      obtain ⟨vs, hm⟩ := HM.out
      exact ⟨_, vs, rfl, by rw [HA.out]; exact hm, hbl⟩
end Go.Proofs.Ytdmidjcjmkcopaa

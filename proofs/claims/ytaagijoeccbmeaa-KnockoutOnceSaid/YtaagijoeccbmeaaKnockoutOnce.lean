/- KnockoutOnce: everybody but the winner loses just once. For every input, no condition. -/
import Derived.Test.YtaagijoeccbmeaaKnBase
import Derived.Test.YtaagijoeccbmeaaKnOnceP
namespace Go.Proofs.Ytaagijoeccbmeaa.knockoutOnce
open Go.ChangeShapes Go.WideShapes Go.ChangeAt Go.RowKit
set_option linter.unusedVariables false

set_option maxRecDepth 100000 in
set_option maxHeartbeats 1000000 in
theorem walk_no (n : Int) (v : Value) (zs : List Int) (w : World) (h : n < 2 ∨ 32 < n) (hz : RdI w v zs) :
    Calls Try.prog 3 #[.int .i64 n, v] w fun e w' => e = .returned (.bool true) ∧ Below w.heap.size w w' := by
  obtain ⟨i0, hi, hz0, hz1, hz2⟩ := info_parts info3
  have H := Lib.hid h
  obtain ⟨a, c, rfl, h1, h2⟩ := hz.form
  unfold maxLen at h2
  have HZ := Lib.hid hz
  clear hz h
  go_enter Try.func3, Try.ntmps3
  go_wp2_with fail
  refine (brackets_any _).mono ?_
  rintro e w0 ⟨rfl, hb0⟩
  go_wp2_with fail
  go_loopw [5, 6] (fun vl i wr => ∃ k : Nat, k ≤ 31 ∧ i = .int .i64 k ∧ (∃ xs, Hid (wr.ownsRow w0.heap.size 3 1 vl k xs)) ∧ w0.heap.size ≤ wr.heap.size ∧ Below w.heap.size w wr) (fun _ i _ => 31 - (intOf i).toNat)
  case atStart => exact ⟨0, by omega, rfl, ⟨[], Lib.hid (World.ownsRow_nil _ _ _ _)⟩, Nat.le_refl _, hb0⟩
  case round =>
    obtain ⟨k, hk, rfl, ⟨xs, HO⟩, hw0, hbl⟩ := hrel
    have hbs := hb0.size
    by_cases ht : (k : Int) < wrap64 (n - 1) ∧ k < 31
    · obtain ⟨ht1, ht2⟩ := ht
      by_cases hkz : k < zs.length
      · obtain ⟨g, o, c', q, _, _, hgw, hcell⟩ := HZ.out.some (by omega)
        simp only [Value.slice.injEq] at q
        obtain ⟨rfl, _, rfl⟩ := q
        have ck : wr.cell? ⟨g, o + k, none⟩ = some (.int .i64 (zs.getD k 0)) := (hbl.cell (p := ⟨g, o + k, none⟩) hgw).trans (hcell k hkz)
        clear hcell
        generalize zs.getD k 0 = z at *
        cases hev : (z.tmod 2 == 0)
        · have tok : True := trivial
          go_wp2_with (at_builtin; refine wpList_append_lies _ rfl _ _ 22 rfl w0.heap.size 3 i0 (.int .i64 0) 1 8 Try.underlying22 hi hz0 hz1 hz2 rfl (by decide) _ k xs rfl (HO.out.alloc _) ⟨wr.heap.size, 0, none⟩ 1 1 [.int .i64 0] rfl rfl (cell_one_new _ _ _) ?c2 ?c2b ?c3 ?c4 ?c5 (wr.heap.size + 1) (by simp) ?_)
          case c2 => intro u hu; simp at hu; rw [hu]; rfl
          case c2b => omega
          case c3 => unfold maxLen; omega
          case c4 => omega
          case c5 => simp; omega
          intro g3 cap3 w3 hown3 hgrow3 hat3 hlt3
          have hb3 : Below w.heap.size w w3 := Below.grown (hbl.alloc (by omega) _) hgrow3 (by simp; omega) (fun q hq => by have := (HO.out.lt q hq).1; omega)
          have hw3 : w0.heap.size ≤ w3.heap.size := by have := hgrow3.size; simp at this; omega
          have HO3 := Lib.hid hown3
          clear hown3 hgrow3 hat3 hlt3 HO hbl hw0
          go_wp2_with fail
          go_roundw
          case rel => exact ⟨k + 1, by omega, by go_num, ⟨_, HO3⟩, hw3, hb3⟩
          case measure => simp [intOf]; omega
        · have tok : True := trivial
          go_wp2_with (at_builtin; refine wpList_append_lies _ rfl _ _ 22 rfl w0.heap.size 3 i0 (.int .i64 0) 1 8 Try.underlying22 hi hz0 hz1 hz2 rfl (by decide) _ k xs rfl (HO.out.alloc _) ⟨wr.heap.size, 0, none⟩ 1 1 [.int .i64 2] rfl rfl (cell_one_new _ _ _) ?c2 ?c2b ?c3 ?c4 ?c5 (wr.heap.size + 1) (by simp) ?_)
          case c2 => intro u hu; simp at hu; rw [hu]; rfl
          case c2b => omega
          case c3 => unfold maxLen; omega
          case c4 => omega
          case c5 => simp; omega
          intro g3 cap3 w3 hown3 hgrow3 hat3 hlt3
          have hb3 : Below w.heap.size w w3 := Below.grown (hbl.alloc (by omega) _) hgrow3 (by simp; omega) (fun q hq => by have := (HO.out.lt q hq).1; omega)
          have hw3 : w0.heap.size ≤ w3.heap.size := by have := hgrow3.size; simp at this; omega
          have HO3 := Lib.hid hown3
          clear hown3 hgrow3 hat3 hlt3 HO hbl hw0
          go_wp2_with fail
          go_roundw
          case rel => exact ⟨k + 1, by omega, by go_num, ⟨_, HO3⟩, hw3, hb3⟩
          case measure => simp [intOf]; omega
      · have tok : True := trivial
        go_wp2_with (at_builtin; refine wpList_append_lies _ rfl _ _ 22 rfl w0.heap.size 3 i0 (.int .i64 0) 1 8 Try.underlying22 hi hz0 hz1 hz2 rfl (by decide) _ k xs rfl (HO.out.alloc _) ⟨wr.heap.size, 0, none⟩ 1 1 [.int .i64 0] rfl rfl (cell_one_new _ _ _) ?c2 ?c2b ?c3 ?c4 ?c5 (wr.heap.size + 1) (by simp) ?_)
        case c2 => intro u hu; simp at hu; rw [hu]; rfl
        case c2b => omega
        case c3 => unfold maxLen; omega
        case c4 => omega
        case c5 => simp; omega
        intro g3 cap3 w3 hown3 hgrow3 hat3 hlt3
        have hb3 : Below w.heap.size w w3 := Below.grown (hbl.alloc (by omega) _) hgrow3 (by simp; omega) (fun q hq => by have := (HO.out.lt q hq).1; omega)
        have hw3 : w0.heap.size ≤ w3.heap.size := by have := hgrow3.size; simp at this; omega
        have HO3 := Lib.hid hown3
        clear hown3 hgrow3 hat3 hlt3 HO hbl hw0
        go_wp2_with fail
        go_roundw
        case rel => exact ⟨k + 1, by omega, by go_num, ⟨_, HO3⟩, hw3, hb3⟩
        case measure => simp [intOf]; omega
    · have hPl := Lib.hid (fun q => Play_no n q wr H.out)
      have ht' : (¬ (k : Int) < wrap64 (n - 1)) ∨ ((k : Int) < wrap64 (n - 1) ∧ 31 ≤ k) := by omega
      have hN : n < 2 ∨ (2 ≤ n ∧ 32 < n) := by have := H.out; omega
      clear ht H HO HZ
      rcases ht' with hx | ⟨hx, hy⟩ <;> rcases hN with hn | ⟨hn, hn'⟩
      all_goals
        go_wp2_with fail
        refine (hPl.out _).mono ?_
        rintro e w1 ⟨vg, rfl, hown, hb1⟩
        obtain ⟨ga, gc, rfl⟩ := own_form2 hown
        clear hown
        simp only [List.length_nil]
        go_wp2_with fail
        go_ret
        exact ⟨rfl, hbl.trans (hb1.mono (by omega))⟩

def rv (zs : List Int) (i : Nat) : Int := if (decide (i < zs.length) && (zs.getD i 0).tmod 2 == 0) = true then 2 else 0
def resL (zs : List Int) (k : Nat) : List Int := (List.range k).map (rv zs)
theorem resL_succ (zs : List Int) (k : Nat) : resL zs (k + 1) = resL zs k ++ [rv zs k] := by unfold resL; rw [List.range_succ, List.map_append]; rfl
theorem resL_len (zs : List Int) (k : Nat) : (resL zs k).length = k := by simp [resL]
theorem resL_two (zs : List Int) (k : Nat) : ∀ x ∈ resL zs k, x = 0 ∨ x = 2 := by
  intro x hx
  simp only [resL, List.mem_map] at hx
  obtain ⟨i, _, rfl⟩ := hx
  unfold rv
  split <;> simp
theorem resL_badB (zs : List Int) (k : Nat) : (resL zs k).any badB = false := by
  rw [List.any_eq_false]
  intro x hx
  rcases resL_two zs k x hx with rfl | rfl <;> simp [badB]

/-- how often each of n players is on a list. -/
def cntL (n : Nat) (ls : List Int) : List Int := (List.range n).map fun p : Nat => ((ls.count (p : Int) : Nat) : Int)
theorem cntL_len (n : Nat) (ls : List Int) : (cntL n ls).length = n := by simp [cntL]
theorem cntL_get (n : Nat) (ls : List Int) (p : Nat) (h : p < n) : (cntL n ls).getD p 0 = ((ls.count (p : Int) : Nat) : Int) := by
  simp [cntL, List.getD, h]
theorem cntL_snoc (n : Nat) (ls : List Int) (x : Nat) (hx : x < n) : cntL n (ls ++ [(x : Int)]) = (cntL n ls).set x ((cntL n ls).getD x 0 + 1) := by
  apply List.ext_getElem?
  intro i
  rw [List.getElem?_set]
  by_cases hi : i < n
  · have e1 : (cntL n (ls ++ [(x : Int)]))[i]? = some (((ls ++ [(x : Int)]).count (i : Int) : Nat) : Int) := by simp [cntL, hi]
    have e2 : (cntL n ls)[i]? = some ((ls.count (i : Int) : Nat) : Int) := by simp [cntL, hi]
    rw [e1, e2, cntL_get n ls x hx, List.count_append]
    by_cases h : x = i
    · subst h
      rw [if_pos rfl, if_pos (by rw [cntL_len]; exact hx)]
      simp
    · rw [if_neg h]
      have : ¬ ((x : Int) = (i : Int)) := by omega
      simp [this]
  · have e1 : (cntL n (ls ++ [(x : Int)]))[i]? = none := List.getElem?_eq_none (by rw [cntL_len]; omega)
    have e2 : (cntL n ls)[i]? = none := List.getElem?_eq_none (by rw [cntL_len]; omega)
    rw [e1, e2, if_neg (by omega)]
theorem cntL_nil (n : Nat) : cntL n [] = List.replicate n 0 := by
  apply List.ext_getElem?
  intro i
  by_cases hi : i < n
  · simp [cntL, hi]
  · simp [cntL, hi]
theorem flatK_at (gs : List KG) (k : Nat) (h : k < gs.length) : (flatK gs)[k * 3]? = some (.int .i64 gs[k].1) ∧ (flatK gs)[k * 3 + 1]? = some (.int .i64 gs[k].2.1) ∧ (flatK gs)[k * 3 + 2]? = some (.int .i64 gs[k].2.2) := by
  induction gs generalizing k with
  | nil => simp at h
  | cons g t ih =>
    cases k with
    | zero => exact ⟨rfl, rfl, rfl⟩
    | succ k =>
      have := ih k (by simpa using h)
      have e : (k + 1) * 3 = k * 3 + 3 := by omega
      rw [e]
      exact this
theorem runL_step (n : Nat) (rs0 : List Int) (out : List KG) (i : Nat) (h : i < out.length) : runL n rs0 (out.take (i + 1)) = stepL n rs0 (runL n rs0 (out.take i)) out[i] := by
  rw [List.take_succ_eq_append_getElem h, runL_snoc]
theorem own_one {w : World} {b G c n i : Nat} {zs : List Int} {x : Int} (h : w.ownsRow b 3 1 (.slice (some ⟨G, 0, none⟩) n c) n (ints zs)) :
    (w.setCell ⟨G, i, none⟩ (.int .i64 x)).ownsRow b 3 1 (.slice (some ⟨G, 0, none⟩) n c) n (ints (zs.set i x)) := by
  have h1 := (h.stored i (.int .i64 x)).1
  rw [ints_set] at h1
  exact h1
theorem count_once {n : Nat} {w : Int} {ls : List Int} (h : (w :: ls).Perm (ids n)) (p : Nat) (hp : p < n) : (ls.count (p : Int) = 0 ∧ (p : Int) = w) ∨ (ls.count (p : Int) = 1 ∧ (p : Int) ≠ w) := by
  have h1 := h.count_eq (p : Int)
  rw [(nodup_ids n).count, if_pos (mem_ids.2 ⟨by omega, by omega⟩), List.count_cons] at h1
  by_cases hw : w = (p : Int)
  · left
    subst hw
    simp at h1
    exact ⟨by omega, rfl⟩
  · right
    have : (w == (p : Int)) = false := by simpa using hw
    rw [this] at h1
    simp at h1
    exact ⟨h1, fun e => hw e.symm⟩

set_option maxRecDepth 100000 in
set_option maxHeartbeats 2000000 in
theorem walk_ok (n : Nat) (v : Value) (zs : List Int) (w : World) (h0 : 2 ≤ n) (h1 : n ≤ 32) (hz : RdI w v zs) :
    Calls Try.prog 3 #[.int .i64 n, v] w fun e w' => e = .returned (.bool true) ∧ Below w.heap.size w w' := by
  obtain ⟨i0, hi, hz0, hz1, hz2⟩ := info_parts info3
  obtain ⟨a, c, rfl, h1', h2⟩ := hz.form
  unfold maxLen at h2
  have HZ := Lib.hid hz
  clear hz
  go_enter Try.func3, Try.ntmps3
  go_wp2_with fail
  refine (brackets_any _).mono ?_
  rintro e w0 ⟨rfl, hb0⟩
  go_wp2_with fail
  go_loopw [5, 6] (fun vl i wr => ∃ k : Nat, k ≤ n - 1 ∧ i = .int .i64 k ∧ Hid (wr.ownsRow w0.heap.size 3 1 vl k (ints (resL zs k))) ∧ w0.heap.size ≤ wr.heap.size ∧ Below w.heap.size w wr) (fun _ i _ => 31 - (intOf i).toNat)
  case atStart => exact ⟨0, by omega, rfl, Lib.hid (World.ownsRow_nil _ _ _ _), Nat.le_refl _, hb0⟩
  case round =>
    obtain ⟨k, hk, rfl, HO, hw0, hbl⟩ := hrel
    have hbs := hb0.size
    by_cases ht : k < n - 1
    · have ht1 : (k : Int) < (n : Int) - 1 := by omega
      have ht2 : k < 31 := by omega
      have HS := Lib.hid (resL_succ zs k)
      have HV : Hid (rv zs k = if (decide (k < zs.length) && (zs.getD k 0).tmod 2 == 0) = true then 2 else 0) := Lib.hid rfl
      by_cases hkz : k < zs.length
      · obtain ⟨g, o, c', q, _, _, hgw, hcell⟩ := HZ.out.some (by omega)
        simp only [Value.slice.injEq] at q
        obtain ⟨rfl, _, rfl⟩ := q
        have ck : wr.cell? ⟨g, o + k, none⟩ = some (.int .i64 (zs.getD k 0)) := (hbl.cell (p := ⟨g, o + k, none⟩) hgw).trans (hcell k hkz)
        clear hcell
        generalize zs.getD k 0 = z at *
        cases hev : (z.tmod 2 == 0)
        · have HVx : Hid (rv zs k = 0) := Lib.hid (by rw [HV.out, hev]; simp)
          go_wp2_with (at_builtin; refine wpList_append_lies _ rfl _ _ 22 rfl w0.heap.size 3 i0 (.int .i64 0) 1 8 Try.underlying22 hi hz0 hz1 hz2 rfl (by decide) _ k (ints (resL zs k)) rfl (HO.out.alloc _) ⟨wr.heap.size, 0, none⟩ 1 1 [.int .i64 0] rfl rfl (cell_one_new _ _ _) ?c2 ?c2b ?c3 ?c4 ?c5 (wr.heap.size + 1) (by simp) ?_)
          case c2 => intro u hu; simp at hu; rw [hu]; rfl
          case c2b => omega
          case c3 => unfold maxLen; omega
          case c4 => omega
          case c5 => simp; omega
          intro g3 cap3 w3 hown3 hgrow3 hat3 hlt3
          have hb3 : Below w.heap.size w w3 := Below.grown (hbl.alloc (by omega) _) hgrow3 (by simp; omega) (fun q hq => by have := (HO.out.lt q hq).1; omega)
          have hw3 : w0.heap.size ≤ w3.heap.size := by have := hgrow3.size; simp at this; omega
          have HO3 := Lib.hid hown3
          clear hown3 hgrow3 hat3 hlt3 HO hbl hw0
          go_wp2_with fail
          go_roundw
          case rel => exact ⟨k + 1, by omega, by go_num, Lib.hid (by rw [HS.out, HVx.out]; simpa [ints] using HO3.out), hw3, hb3⟩
          case measure => simp [intOf]; omega
        · have HVx : Hid (rv zs k = 2) := Lib.hid (by rw [HV.out, hev]; simp [hkz])
          go_wp2_with (at_builtin; refine wpList_append_lies _ rfl _ _ 22 rfl w0.heap.size 3 i0 (.int .i64 0) 1 8 Try.underlying22 hi hz0 hz1 hz2 rfl (by decide) _ k (ints (resL zs k)) rfl (HO.out.alloc _) ⟨wr.heap.size, 0, none⟩ 1 1 [.int .i64 2] rfl rfl (cell_one_new _ _ _) ?c2 ?c2b ?c3 ?c4 ?c5 (wr.heap.size + 1) (by simp) ?_)
          case c2 => intro u hu; simp at hu; rw [hu]; rfl
          case c2b => omega
          case c3 => unfold maxLen; omega
          case c4 => omega
          case c5 => simp; omega
          intro g3 cap3 w3 hown3 hgrow3 hat3 hlt3
          have hb3 : Below w.heap.size w w3 := Below.grown (hbl.alloc (by omega) _) hgrow3 (by simp; omega) (fun q hq => by have := (HO.out.lt q hq).1; omega)
          have hw3 : w0.heap.size ≤ w3.heap.size := by have := hgrow3.size; simp at this; omega
          have HO3 := Lib.hid hown3
          clear hown3 hgrow3 hat3 hlt3 HO hbl hw0
          go_wp2_with fail
          go_roundw
          case rel => exact ⟨k + 1, by omega, by go_num, Lib.hid (by rw [HS.out, HVx.out]; simpa [ints] using HO3.out), hw3, hb3⟩
          case measure => simp [intOf]; omega
      · have HVx : Hid (rv zs k = 0) := Lib.hid (by rw [HV.out]; simp [hkz])
        go_wp2_with (at_builtin; refine wpList_append_lies _ rfl _ _ 22 rfl w0.heap.size 3 i0 (.int .i64 0) 1 8 Try.underlying22 hi hz0 hz1 hz2 rfl (by decide) _ k (ints (resL zs k)) rfl (HO.out.alloc _) ⟨wr.heap.size, 0, none⟩ 1 1 [.int .i64 0] rfl rfl (cell_one_new _ _ _) ?c2 ?c2b ?c3 ?c4 ?c5 (wr.heap.size + 1) (by simp) ?_)
        case c2 => intro u hu; simp at hu; rw [hu]; rfl
        case c2b => omega
        case c3 => unfold maxLen; omega
        case c4 => omega
        case c5 => simp; omega
        intro g3 cap3 w3 hown3 hgrow3 hat3 hlt3
        have hb3 : Below w.heap.size w w3 := Below.grown (hbl.alloc (by omega) _) hgrow3 (by simp; omega) (fun q hq => by have := (HO.out.lt q hq).1; omega)
        have hw3 : w0.heap.size ≤ w3.heap.size := by have := hgrow3.size; simp at this; omega
        have HO3 := Lib.hid hown3
        clear hown3 hgrow3 hat3 hlt3 HO hbl hw0
        go_wp2_with fail
        go_roundw
        case rel => exact ⟨k + 1, by omega, by go_num, Lib.hid (by rw [HS.out, HVx.out]; simpa [ints] using HO3.out), hw3, hb3⟩
        case measure => simp [intOf]; omega
    · obtain rfl : k = n - 1 := by omega
      obtain ⟨out, wn, losers, hpl, hrun, hll, hperm, hol⟩ := once n (resL zs (n - 1)) h0 h1 (by rw [resL_len]; omega) (resL_two zs (n - 1))
      obtain ⟨la, lc, hvl⟩ := own_form2 HO.out
      subst hvl
      have HPl := Lib.hid (Play_ok n (.slice la (n - 1) lc) (resL zs (n - 1)) wr h0 h1 (by have := Rd.of_own HO.out; unfold RdI; rw [resL_len]; exact this) (resL_badB zs (n - 1)))
      rw [hpl] at HPl
      have HRun := Lib.hid hrun
      have HPm := Lib.hid hperm
      have hnn : ¬ ((n - 1 : Nat) : Int) < (n : Int) - 1 := by omega
      clear hpl hrun hperm HZ
      generalize hrs : resL zs (n - 1) = rs0 at *
      have HRL : Hid (rs0.length = n - 1) := Lib.hid (by rw [← hrs, resL_len])
      have HR2 : Hid (∀ x ∈ rs0, x = 0 ∨ x = 2) := Lib.hid (by rw [← hrs]; exact resL_two zs (n - 1))
      clear hrs
      go_wp2_with fail
      refine HPl.out.mono ?_
      rintro e w1 ⟨vg, rfl, hown1, hb1⟩
      simp only at hown1
      simp only
      have HO' := Lib.hid (own_stays HO.out hb1)
      obtain ⟨ga, gc, rfl⟩ := own_form2 hown1
      have HG := Lib.hid hown1
      have hb01 := hbl.trans (hb1.mono hbl.size)
      have hsz1 := hb01.size
      clear hown1 hb1 hbl HO
      go_wp2_with (at_make; refine wpList_make_full _ rfl _ _ 22 rfl w1.heap.size 3 i0 (.int .i64 0) 1 Try.underlying22 hi hz0 hz1 .i64 .i64 n n n rfl rfl rfl rfl (by rw [hz2]; omega) (by unfold maxLen; omega) (Nat.le_refl _) ?_; intro w2 hown2 hgrow2)
      rw [made_ints, ← cntL_nil] at hown2
      have HL := Lib.hid hown2
      have HR := Lib.hid (HO'.out.kept hgrow2 (by rcases HO'.out.2 with ⟨h, _⟩ | ⟨q, _, _, h, _⟩ <;> simp [h, Value.ownBlock]))
      have HG2 := Lib.hid (HG.out.kept hgrow2 (by rcases HG.out.2 with ⟨h, _⟩ | ⟨q, _, _, h, _⟩ <;> simp [h, Value.ownBlock]))
      have hb2 : Below w.heap.size w w2 := Below.grown hb01 hgrow2 hsz1 (fun q hq => by cases hq)
      have hs2 : w1.heap.size < w2.heap.size := (hown2.lt _ rfl).2
      have hGlt : ∀ q, (Value.slice ga out.length gc).ownBlock = some q → q < w1.heap.size := fun q hq => (HG.out.lt q hq).2
      have hRlt : ∀ q, (Value.slice la (n - 1) lc).ownBlock = some q → q < w1.heap.size := fun q hq => (HO'.out.lt q hq).2
      have HGlt := Lib.hid hGlt
      have HRlt := Lib.hid hRlt
      clear hown2 hgrow2 HO' HG hb01 hGlt hRlt
      go_wp2_with fail
      obtain ⟨wp, rfl⟩ : ∃ wp : World, wp = wr := ⟨_, rfl⟩
      go_loopw [12, 69] (fun kk i wr => ∃ (j q : Nat) (ls : List Int), j ≤ out.length ∧ q ≤ n - 1 ∧ i = .int .i64 j ∧ kk = .int .i64 q ∧ Hid (runL n rs0 (out.take j) = some (q, ls)) ∧ Hid (ls.length = q) ∧ Hid (wr.ownsRow w1.heap.size 3 1 (.slice (some ⟨w1.heap.size, 0, none⟩) n n) n (ints (cntL n ls))) ∧ Hid (wr.ownsRow w0.heap.size 3 1 (.slice la (n - 1) lc) (n - 1) (ints rs0)) ∧ Hid (wr.ownsRow wp.heap.size 29 3 (.slice ga out.length gc) out.length (flatK out)) ∧ Below w.heap.size w wr) (fun _ i _ => out.length - (intOf i).toNat)
      case atStart => exact ⟨0, 0, [], Nat.zero_le _, by omega, rfl, rfl, Lib.hid rfl, Lib.hid rfl, HL, HR, HG2, hb2⟩
      case round =>
        obtain ⟨j, q, ls, hj, hq, rfl, rfl, HRu, HLn, HLr, HRr, HGr, hbl⟩ := hrel
        have hszr := hbl.size
        have hs1r : w1.heap.size < wr.heap.size := (HLr.out.lt _ rfl).2
        by_cases hlt : j < out.length
        · obtain ⟨gb, gc', hgv⟩ := own_some HGr.out (by omega)
          simp only [Value.slice.injEq, true_and] at hgv
          obtain ⟨rfl, rfl⟩ := hgv
          have hgb1 : gb < w1.heap.size := HGlt.out gb rfl
          obtain ⟨q0, q1, q2⟩ := flatK_at out j hlt
          have d0 : wr.cell? ⟨gb, j * 3, none⟩ = some (.int .i64 out[j].1) := (HGr.out.cellAt _ (by omega)).trans q0
          have d1 : wr.cell? ⟨gb, j * 3 + 1, none⟩ = some (.int .i64 out[j].2.1) := (HGr.out.cellAt _ (by omega)).trans q1
          have d2 : wr.cell? ⟨gb, j * 3 + 2, none⟩ = some (.int .i64 out[j].2.2) := (HGr.out.cellAt _ (by omega)).trans q2
          have hstep := runL_step n rs0 out j hlt
          rw [HRu.out] at hstep
          obtain ⟨nx, hnx⟩ := runL_take n rs0 out (j + 1) HRun.out
          rw [hnx] at hstep
          clear q0 q1 q2
          generalize hgj : out[j] = gj at *
          clear hgj
          obtain ⟨rd, ga, gb'⟩ := gj
          simp only at d0 d1 d2
          simp only [stepL, Option.bind_some] at hstep
          by_cases hneg : ga < 0 ∨ gb' < 0
          · rw [if_pos hneg] at hstep
            have HNx := Lib.hid (hnx.trans hstep)
            have hneg' : ga < 0 ∨ (0 ≤ ga ∧ gb' < 0) := by omega
            have hba : Below w.heap.size w (wr.alloc (.cells #[.int .i64 rd, .int .i64 ga, .int .i64 gb'] 29)) := by go_grown
            clear hneg hnx hstep
            rcases hneg' with hn | ⟨hn, hn'⟩
            all_goals
              go_wp2_with fail
              go_roundw
              case rel => exact ⟨j + 1, q, ls, by omega, hq, by go_num, rfl, HNx, HLn, Lib.hid (HLr.out.alloc _), Lib.hid (HRr.out.alloc _), Lib.hid (HGr.out.alloc _), hba⟩
              case measure => simp [intOf]; omega
          · have hga : 0 ≤ ga := by omega
            have hgb : 0 ≤ gb' := by omega
            rw [if_neg hneg] at hstep
            have hok : ¬ (rs0.length ≤ q ∨ (n : Int) ≤ ga ∨ (n : Int) ≤ gb') := fun hc => by rw [if_pos hc] at hstep; cases hstep
            rw [if_neg hok] at hstep
            have hql : q < n - 1 := by have := HRL.out; omega
            have hgan : ga < n := by omega
            have hgbn : gb' < n := by omega
            obtain ⟨mx, hmx, hmn⟩ : ∃ mx : Int, (if ga < gb' then gb' else ga) = mx ∧ mx < n := ⟨_, rfl, by split <;> omega⟩
            obtain ⟨rb, rc', hrv⟩ := own_some HRr.out (by omega)
            simp only [Value.slice.injEq, true_and] at hrv
            obtain ⟨rfl, rfl⟩ := hrv
            have hrb1 : rb < w1.heap.size := HRlt.out rb rfl
            have dr : wr.cell? ⟨rb, q, none⟩ = some (.int .i64 (rs0.getD q 0)) := (HRr.out.cellAt q (by omega)).trans (ints_get _ q (by rw [HRL.out]; omega))
            have h2 : rs0.getD q 0 = 0 ∨ rs0.getD q 0 = 2 := by
              have : q < rs0.length := by rw [HRL.out]; omega
              rw [List.getD_eq_getElem?_getD, List.getElem?_eq_getElem this]
              exact HR2.out _ (List.getElem_mem this)
            have HNx := Lib.hid (hnx.trans hstep)
            obtain ⟨xa, rfl⟩ : ∃ x : Nat, ga = (x : Int) := ⟨ga.toNat, by omega⟩
            obtain ⟨xb, rfl⟩ : ∃ x : Nat, gb' = (x : Int) := ⟨gb'.toNat, by omega⟩
            have hxa : xa < n := by omega
            have hxb : xb < n := by omega
            clear hneg hnx hstep hok
            have la : wr.cell? ⟨w1.heap.size, xa, none⟩ = some (.int .i64 ((cntL n ls).getD xa 0)) := (HLr.out.cellAt xa (by omega)).trans (ints_get _ xa (by rw [cntL_len]; omega))
            have lb : wr.cell? ⟨w1.heap.size, xb, none⟩ = some (.int .i64 ((cntL n ls).getD xb 0)) := (HLr.out.cellAt xb (by omega)).trans (ints_get _ xb (by rw [cntL_len]; omega))
            have fa : wr.frozen? ⟨w1.heap.size, xa, none⟩ = false := HLr.out.frozenAt xa
            have fb : wr.frozen? ⟨w1.heap.size, xb, none⟩ = false := HLr.out.frozenAt xb
            have HSa := Lib.hid (cntL_snoc n ls xa hxa)
            have HSb := Lib.hid (cntL_snoc n ls xb hxb)
            have hca : (cntL n ls).getD xa 0 ≤ 100 ∧ 0 ≤ (cntL n ls).getD xa 0 := by
              rw [cntL_get n ls xa hxa]
              have := List.count_le_length (a := (xa : Int)) (l := ls)
              have := HLn.out
              omega
            have hcb : (cntL n ls).getD xb 0 ≤ 100 ∧ 0 ≤ (cntL n ls).getD xb 0 := by
              rw [cntL_get n ls xb hxb]
              have := List.count_le_length (a := (xb : Int)) (l := ls)
              have := HLn.out
              omega
            have nb1 : ¬ gb = w1.heap.size := by omega
            have gbr : gb < wr.heap.size := by omega
            have rbr : rb < wr.heap.size := by omega
            have hkk : (q : Int) < ((n - 1 : Nat) : Int) := by omega
            have nb2 : ¬ rb = w1.heap.size := by omega
            have nb3 : ¬ w1.heap.size = wr.heap.size := by omega
            have HLa := Lib.hid (fun x : Int => (own_one (i := xa) (x := x) HLr.out).alloc (.cells #[.int .i64 rd, .int .i64 (xa : Int), .int .i64 (xb : Int)] 29))
            have HLb := Lib.hid (fun x : Int => (own_one (i := xb) (x := x) HLr.out).alloc (.cells #[.int .i64 rd, .int .i64 (xa : Int), .int .i64 (xb : Int)] 29))
            generalize (cntL n ls).getD xa 0 = ca at *
            generalize (cntL n ls).getD xb 0 = cb at *
            generalize rs0.getD q 0 = r at *
            have hba : ∀ (p : Nat) (x : Value), Below w.heap.size w ((wr.setCell ⟨w1.heap.size, p, none⟩ x).alloc (.cells #[.int .i64 rd, .int .i64 (xa : Int), .int .i64 (xb : Int)] 29)) := fun p x => (hbl.setCell (by simp; omega) _).alloc (by simp; omega) _
            have HBA := Lib.hid hba
            clear hba
            rcases h2 with rfl | rfl
            · go_wp2_with fail
              go_roundw
              case rel => exact ⟨j + 1, q + 1, ls ++ [(xa : Int)], by omega, by omega, by go_num, by go_num, HNx, Lib.hid (by rw [List.length_append, HLn.out]; rfl), Lib.hid (by rw [HSa.out]; exact HLa.out _), Lib.hid ((HRr.out.kept (setG _ _ _) (Or.inr (by simp [Value.ownBlock]; omega))).alloc _), Lib.hid ((HGr.out.kept (setG _ _ _) (Or.inr (by simp [Value.ownBlock]; omega))).alloc _), HBA.out _ _⟩
              case measure => simp [intOf]; omega
            · go_wp2_with fail
              go_roundw
              case rel => exact ⟨j + 1, q + 1, ls ++ [(xb : Int)], by omega, by omega, by go_num, by go_num, HNx, Lib.hid (by rw [List.length_append, HLn.out]; rfl), Lib.hid (by rw [HSb.out]; exact HLb.out _), Lib.hid ((HRr.out.kept (setG _ _ _) (Or.inr (by simp [Value.ownBlock]; omega))).alloc _), Lib.hid ((HGr.out.kept (setG _ _ _) (Or.inr (by simp [Value.ownBlock]; omega))).alloc _), HBA.out _ _⟩
              case measure => simp [intOf]; omega
        · obtain rfl : j = out.length := by omega
          have hfin := HRu.out
          rw [List.take_length, HRun.out] at hfin
          simp only [Option.some.injEq, Prod.mk.injEq] at hfin
          obtain ⟨rfl, rfl⟩ := hfin
          have HCn := Lib.hid (count_once HPm.out)
          clear HRu HRun HPm
          go_wp2_with fail
          obtain ⟨wq, rfl⟩ : ∃ wq : World, wq = wr := ⟨_, rfl⟩
          go_loop [118] (fun i => ∃ p : Nat, p ≤ n ∧ i = .int .i64 p) (fun i => n - (intOf i).toNat)
          case atStart => exact ⟨0, Nat.zero_le _, rfl⟩
          case round =>
            obtain ⟨p, hp, rfl⟩ := hrel
            by_cases hpn : p < n
            · have cp : wq.cell? ⟨w1.heap.size, p, none⟩ = some (.int .i64 ((cntL n losers).getD p 0)) := (HLr.out.cellAt p (by omega)).trans (ints_get _ p (by rw [cntL_len]; omega))
              rw [cntL_get n losers p hpn] at cp
              have hc := HCn.out p hpn
              generalize losers.count (p : Int) = cc at *
              rcases hc with ⟨rfl, h⟩ | ⟨rfl, h⟩
              · have hq1 : (((p : Int)) == wn) = true := by simpa using h
                clear h
                go_wp2_with fail
                go_round
                case rel => exact ⟨p + 1, by omega, by go_num⟩
                case measure => simp [intOf]; omega
              · have hq1 : (((p : Int)) == wn) = false := by simpa using h
                clear h
                go_wp2_with fail
                go_round
                case rel => exact ⟨p + 1, by omega, by go_num⟩
                case measure => simp [intOf]; omega
            · obtain rfl : p = n := by omega
              have hnq : (((p - 1 : Nat) : Int) == (p : Int) - 1) = true := by simp; omega
              go_wp2_with fail
              go_ret
              exact ⟨rfl, hbl⟩

theorem walk (n : Int) (v : Value) (zs : List Int) (w : World) (hz : RdI w v zs) :
    Calls Try.prog 3 #[.int .i64 n, v] w fun e w' => e = .returned (.bool true) ∧ Below w.heap.size w w' := by
  by_cases h : n < 2 ∨ 32 < n
  · exact walk_no n v zs w h hz
  · obtain ⟨m, rfl⟩ : ∃ m : Nat, n = (m : Int) := ⟨n.toNat, by omega⟩
    exact walk_ok m v zs w (by omega) (by omega) hz

section
theorem own : ownKnob Try.prog.godebug = none := by kernel_rfl
theorem laidOut : laidOutB Try.prog = true := by kernel_rfl

set_option maxRecDepth 100000 in
theorem lifted (os : Os) (started : os.Started) (H : Type) (enc : TypeId × Value → H) :
    ReturnsInHanded {} Try.checked os 3 .any (Rows.knockoutOnceSpec.pre6 enc Try.prog Try.f3 Rows.knockoutOnceRow.domain false) (Rows.knockoutOnceSpec.post enc Try.prog Try.f3 false true false false) := by
  refine returnsInHanded_of_change (C := Try.checked) own started (by kernel_rfl) Try.func3
    (ChangeSpec.witness6 (enc := enc) (C := Try.checked) false ⟨#[], #[.int .i64 0, .slice none 0 0], []⟩ 8 (by kernel_rfl) (by kernel_rfl) (by kernel_rfl) (by kernel_rfl)) ?_
  intro W base args ds gs before hval0 hW hcnd _
  have hval : ∀ (j : Nat) t v, Try.f3.params[j]? = some t → args[j]? = some v → Value.okWide Try.prog W .any base t v := hval0
  have hW' := hW
  obtain ⟨p, q, hA0, hV, rfl, hfz, hnd⟩ := hW
  have hA : DataW.TrodAll enc Try.prog W 0 (fun _ => true) true Try.f3.params.toList args.toList ds p := hA0
  rw [Try.params3] at hA hval
  have hAll := hA
  obtain ⟨v0, vs0, d0, ds0, p0, q0, hargs, rfl, rfl, h0, r0⟩ := trodAll_cons hA
  obtain ⟨v1, vs1, d1, ds1, p1, q1, rfl, rfl, rfl, h1, r1⟩ := trodAll_cons r0
  obtain ⟨rfl, rfl, rfl⟩ := trodAll_nil r1
  obtain rfl : args = #[v0, v1] := by cases args; simp_all
  obtain ⟨rfl, rfl⟩ := trodVars_none hV
  obtain ⟨a0, rfl, rfl, rfl, w0⟩ := open_int Try.underlying3 (hval 0 3 v0 rfl rfl) h0
  obtain ⟨zs, hz, _⟩ := open_RdI Try.underlying22 Try.underlying3 (by kernel_rfl) (hval 1 22 v1 rfl rfl) h1
  clear hA0 hval0
  refine (walk a0 v1 zs W hz).mono fun e W' ⟨he, bel⟩ => ?_
  subst he
  exact ⟨_, rfl, _, _, _, [], _, [], hW', trodAll_mk1 (shut_bool Try.underlying4 _), trodAll_stays laidOut bel (by kernel_rfl) hAll, rfl, bel.frame _, fun h => by cases h⟩

theorem over : Rows.knockoutOnceRow.holds Try.pinned (OpenSpec.ofChange Rows.knockoutOnceSpec) :=
  OpenClaim.holds_of_wide 3 Try.f3 rfl rfl rfl rfl rfl rfl rfl ⟨rfl, rfl, rfl, rfl, rfl⟩ rfl rfl rfl rfl rfl (by kernel_rfl) Try.func3 (by kernel_rfl)
    (of_decide_eq_true (by kernel_rfl)) (by unfold Func.isWrapper; first | (rw [if_pos (by decide +kernel)]; kernel_rfl) | (rw [if_neg (by decide +kernel)]; exact ⟨rfl, rfl⟩))
    (fun os started H enc _ => lifted os started H enc)

theorem proved : Rows.KnockoutOnceSaid := over
end
#print axioms proved
end Go.Proofs.Ytaagijoeccbmeaa.knockoutOnce

/- RobinRefuses: a schedule in which two players are exchanged in one game is not accepted. For every input, no condition. -/
import Derived.Test.YtdmidjcjmkcopaaRobAll
import Derived.Test.YtdmidjcjmkcopaaRobRefP
import Derived.Test.YtdmidjcjmkcopaaRobinFair
namespace Go.Proofs.Ytdmidjcjmkcopaa.robinRefuses
open Go.ChangeShapes Go.WideShapes Go.ChangeAt Go.RowKit Go.Proofs.Ytdmidjcjmkcopaa.robinFair
set_option linter.unusedVariables false

theorem walk_no (n r k : Int) (w : World) (h : n < 2 ∨ 32 < n) :
    Calls Try.prog 6 #[.int .i64 n, .int .i64 r, .int .i64 k] w fun e w' => e = .returned (.bool true) ∧ Below w.heap.size w w' := by
  have H := Lib.hid h
  clear h
  go_enter Try.func6, Try.ntmps6
  go_wp2_with fail
  refine (roundsOwn _).mono ?_
  rintro e w' ⟨rfl, rfl⟩
  go_wp2_with fail
  refine (All_no n false _ H.out).mono ?_
  rintro e w' ⟨rfl, rfl⟩
  go_wp2
  go_ret
  exact ⟨rfl, Below.refl _ _⟩

/-- what the walk knows of the schedule: its own slice and the length of each row. -/
theorem made_form {w : World} {B : Nat} {v : Value} {vs : List Value} {rows : List (List (Int × Int))} (h : Made w B v vs rows) (h1 : 1 ≤ rows.length) : ∃ g c, v = .slice (some ⟨g, 0, none⟩) rows.length c ∧ B ≤ g ∧ g < w.heap.size ∧
    ∀ j (hj : j < rows.length), ∃ a uc, w.cell? ⟨g, j, none⟩ = some (.slice a rows[j].length uc) ∧ vs[j]? = some (.slice a rows[j].length uc) ∧ w.ownsRow B 35 2 (.slice a rows[j].length uc) rows[j].length (flat rows[j]) := by
  obtain ⟨ho, hr⟩ := h
  rcases ho.2 with ⟨_, h0⟩ | ⟨g, c, cur, rfl, hB, _⟩
  · omega
  · refine ⟨g, c, rfl, hB, (ho.lt g rfl).2, fun j hj => ?_⟩
    obtain ⟨u, hu, hou⟩ := hr j hj
    have hc := ho.cellAt j (by omega)
    rcases hou.2 with ⟨rfl, h0⟩ | ⟨g', c', cur', rfl, _⟩
    · exact ⟨none, 0, by rw [hc, hu, h0], by rw [hu, h0], by rw [h0] at hou ⊢; exact hou⟩
    · exact ⟨_, _, hc.trans hu, hu, hou⟩

set_option maxHeartbeats 1000000 in
theorem walk_few (n : Nat) (r k : Int) (w : World) (h0 : 2 ≤ n) (h1 : n ≤ 32) (h : n < 4 ∨ r < 0 ∨ (allZ n false).length ≤ r ∨ k < 0) :
    Calls Try.prog 6 #[.int .i64 n, .int .i64 r, .int .i64 k] w fun e w' => e = .returned (.bool true) ∧ Below w.heap.size w w' := by
  have HL := Lib.hid (allZ_len n false h0 h1)
  have hk : 1 ≤ roundsZ n false ∧ roundsZ n false ≤ 62 := by unfold roundsZ halfZ; split <;> omega
  have hl1 : 1 ≤ (allZ n false).length := by have := HL.out; omega
  have hl2 : (allZ n false).length ≤ 62 := by have := HL.out; omega
  have h' : (n < 4) ∨ (4 ≤ n ∧ r < 0) ∨ (4 ≤ n ∧ 0 ≤ r ∧ (allZ n false).length ≤ r) ∨ (4 ≤ n ∧ 0 ≤ r ∧ r < (allZ n false).length ∧ k < 0) := by omega
  clear h hk
  rcases h' with h | ⟨h, h2⟩ | ⟨h, h2, h3⟩ | ⟨h, h2, h3, h4⟩
  all_goals
    go_enter Try.func6, Try.ntmps6
    go_wp2_with fail
    refine (roundsOwn _).mono ?_
    rintro e w' ⟨rfl, rfl⟩
    go_wp2_with fail
    refine (All_ok n false _ h0 h1).mono ?_
    rintro e w1 ⟨v, vs, rfl, hm, hb⟩
    obtain ⟨g, c, rfl, hg, _⟩ := made_form hm hl1
    clear hm
    generalize allZ n false = rows at *
    go_wp2
    go_ret
    exact ⟨rfl, hb⟩

theorem setG (w : World) (p : Addr) (u : Value) : w.grownBy (w.setCell p u) (some p.block) :=
  ⟨rfl, rfl, rfl, by simp, fun k _ hk => Below.heap_setCell w p u k (fun e => hk (by rw [e]))⟩

theorem flat_set (l : List (Int × Int)) (k : Nat) (h : k < l.length) (y : Int) : (flat l).set (k * 2 + 1) (.int .i64 y) = flat (l.set k (l[k].1, y)) := by
  induction l generalizing k with
  | nil => simp at h
  | cons g t ih =>
    cases k with
    | zero => rfl
    | succ k =>
      have := ih k (by simpa using h)
      have e : (k + 1) * 2 + 1 = (k * 2 + 1) + 1 + 1 := by omega
      rw [e]
      simp only [flat, List.flatMap_cons, List.set_cons_succ, List.getElem_cons_succ] at this ⊢
      rw [← this]
      rfl

theorem refuse_sched {w1 w2 : World} {B g c g3 c3 r k : Nat} {vs : List Value} {rows : List (List (Int × Int))} {o1 o2 : Obj} {y : Int} (HM : Made w1 B (.slice (some ⟨g, 0, none⟩) rows.length c) vs rows) (hr : r < rows.length) (hk : k < rows[r].length)
    (hg : ((w1.alloc o1).alloc o2).grownBy w2 (some (w1.heap.size + 1))) (hown : w2.ownsRow (w1.heap.size + 1) 35 2 (.slice (some ⟨g3, 0, none⟩) rows[r].length c3) rows[r].length (flat rows[r])) :
    Sched ((w2.setCell ⟨g, r, none⟩ (.slice (some ⟨g3, 0, none⟩) rows[r].length c3)).setCell ⟨g3, k * 2 + 1, none⟩ (.int .i64 y)) (.slice (some ⟨g, 0, none⟩) rows.length c) (rows.set r (rows[r].set k (rows[r][k].1, y))) := by
  have hgl : g < w1.heap.size := (HM.1.lt g rfl).2
  have hg3 : w1.heap.size + 1 ≤ g3 := (hown.lt g3 rfl).1
  have hv2 := (((HM.1.alloc o1).alloc o2).kept hg (Or.inr (by simp [Value.ownBlock]; omega)))
  have hv3 := (hv2.stored r (.slice (some ⟨g3, 0, none⟩) rows[r].length c3)).1
  have hv4 := hv3.kept (setG _ ⟨g3, k * 2 + 1, none⟩ (.int .i64 y)) (Or.inr (by simp [Value.ownBlock]; omega))
  have hvl : vs.length = rows.length := by have := HM.1.1; omega
  refine ⟨vs.set r (.slice (some ⟨g3, 0, none⟩) rows[r].length c3), by rw [List.length_set]; exact Rd.of_own hv4, fun j hj => ?_⟩
  rw [List.length_set] at hj
  by_cases e : r = j
  · subst e
    have h3 := hown.kept (setG w2 ⟨g, r, none⟩ (.slice (some ⟨g3, 0, none⟩) rows[r].length c3)) (Or.inr (by simp [Value.ownBlock]; omega))
    have h4 := (h3.stored (k * 2 + 1) (.int .i64 y)).1
    rw [flat_set _ k hk] at h4
    refine ⟨_, List.getElem?_set_self (by omega), ?_⟩
    simp only [List.getElem_set_self, List.length_set]
    exact Rd.of_own h4
  · obtain ⟨u, hu, hou⟩ := HM.2 j hj
    have h2 := ((hou.alloc o1).alloc o2).kept hg (by
      rcases hou.2 with ⟨rfl, _⟩ | ⟨g', c', cur', rfl, _⟩
      · exact Or.inl rfl
      · have := (hou.lt g' rfl).2
        exact Or.inr (by simp [Value.ownBlock]; omega))
    have h3 := h2.kept (setG w2 ⟨g, r, none⟩ (.slice (some ⟨g3, 0, none⟩) rows[r].length c3)) (own_ne h2 hv2 (by decide))
    have h4 := h3.kept (setG _ ⟨g3, k * 2 + 1, none⟩ (.int .i64 y)) (by
      rcases hou.2 with ⟨rfl, _⟩ | ⟨g', c', cur', rfl, _⟩
      · exact Or.inl rfl
      · have := (hou.lt g' rfl).2
        exact Or.inr (by simp [Value.ownBlock]; omega))
    refine ⟨u, by rw [List.getElem?_set_ne e]; exact hu, ?_⟩
    simp only [List.getElem_set_ne e]
    exact Rd.of_own h4

set_option maxHeartbeats 1000000 in
theorem walk_main (n r : Nat) (k : Int) (w : World) (h0 : 4 ≤ n) (h1 : n ≤ 32) (hr : r < (allZ n false).length) (hk0 : 0 ≤ k) :
    Calls Try.prog 6 #[.int .i64 n, .int .i64 r, .int .i64 k] w fun e w' => e = .returned (.bool true) ∧ Below w.heap.size w w' := by
  have HL := Lib.hid (allZ_len n false (by omega) h1)
  have hkk : 1 ≤ roundsZ n false ∧ roundsZ n false ≤ 62 := by unfold roundsZ halfZ; split <;> omega
  have hl1 : 1 ≤ (allZ n false).length := by have := HL.out; omega
  have hl2 : (allZ n false).length ≤ 62 := by have := HL.out; omega
  have HR : Hid (∀ r ∈ allZ n false, r.length ≤ 17) := Lib.hid (fun r hr => by
    obtain ⟨k, _, rfl⟩ := List.mem_map.1 hr
    exact games_len n k (by omega) (by omega))
  have HX := Lib.hid (fun k hk => refuses n r k (by omega) h1 hr hk)
  have HOK := Lib.hid (fun (k : Nat) (hk : k < (allZ n false)[r].length) => allZ_ok n false (by omega) h1 (allZ n false)[r][k] (List.mem_flatten.2 ⟨(allZ n false)[r], List.getElem_mem hr, List.getElem_mem hk⟩))
  clear hkk
  obtain ⟨i0, hi, hz0, hz1, hz2⟩ := info_parts info35
  go_enter Try.func6, Try.ntmps6
  go_wp2_with fail
  refine (roundsOwn _).mono ?_
  rintro e w' ⟨rfl, rfl⟩
  go_wp2_with fail
  refine (All_ok n false _ (by omega) h1).mono ?_
  rintro e w1 ⟨v, vs, rfl, hm, hb⟩
  generalize allZ n false = rows at *
  obtain ⟨g, c, rfl, hg, hg1, hrow⟩ := made_form hm hl1
  obtain ⟨ua, uc, cu, hvu, hou⟩ := hrow r hr
  have hlr := HR.out rows[r] (List.getElem_mem hr)
  have HM := Lib.hid hm
  have HVU := Lib.hid hvu
  have HROW := Lib.hid hrow
  clear hm hrow hvu
  by_cases hk : k < rows[r].length
  · obtain ⟨k, rfl⟩ : ∃ k' : Nat, k = (k' : Int) := ⟨k.toNat, by omega⟩
    have hk' : k < rows[r].length := by omega
    have hx := HX.out k hk'
    have hok := HOK.out k hk'
    clear hk0
    have hqa := flat_at rows[r] k hk'
    generalize hrw : rows[r] = row at *
    generalize hgk : row[k] = gk at *
    obtain ⟨a, b⟩ := gk
    simp only at hok hqa
    rcases hou.2 with ⟨_, hz⟩ | ⟨g2, cc, cur, he, hB2, hblk, _, _, _, _⟩
    · omega
    simp only [Value.slice.injEq] at he
    obtain ⟨rfl, _, rfl⟩ := he
    have c1 : w1.cell? ⟨g2, k * 2, none⟩ = some (.int .i64 a) := (hou.cellAt _ (by omega)).trans hqa.1
    have c2 : w1.cell? ⟨g2, k * 2 + 1, none⟩ = some (.int .i64 b) := (hou.cellAt _ (by omega)).trans hqa.2
    have hg2 : g2 < w1.heap.size := (hou.lt g2 rfl).2
    have hown0 : ((w1.alloc (.cells #[.int .i64 a, .int .i64 b] 35)).alloc (.cells #[] 35)).ownsRow (w1.heap.size + 1) 35 2 (.slice (some ⟨w1.heap.size + 1, 0, none⟩) 0 0) 0 [] := by
      have := World.ownsRow_made (base := w1.heap.size + 1) (e := 35) (size := 2) (w1.alloc (.cells #[.int .i64 a, .int .i64 b] 35)) #[] 0 (by simp) (by unfold maxLen; omega) rfl
      simpa using this
    have hnews : ∀ j u, (flat row)[j]? = some u → ((w1.alloc (.cells #[.int .i64 a, .int .i64 b] 35)).alloc (.cells #[] 35)).cell? ((⟨g2, 0, none⟩ : Addr).add j) = some u := ((hou.alloc _).alloc _).cells rfl
    have hfl : (flat row).length = row.length * 2 := flat_len row
    have Hfl := Lib.hid hfl
    have Hnews := Lib.hid hnews
    have Hown0 := Lib.hid hown0
    clear hfl hnews hown0 hou hqa
    go_wp2_with (at_builtin; refine wpList_append_own _ rfl _ _ 30 rfl (w1.heap.size + 1) 35 i0 (.agg #[.int .i64 0, .int .i64 0]) 2 16 Try.underlying30 hi hz0 hz1 hz2 rfl (by decide) _ 0 [] rfl Hown0.out ⟨g2, 0, none⟩ row.length uc (flat row) rfl Hfl.out Hnews.out ?c2 ?c3 ?c4 ?c5 ?_)
    case c2 => intro x hx; simp only [flat, List.mem_flatMap] at hx; obtain ⟨q, _, hq⟩ := hx; simp at hq; rcases hq with rfl | rfl <;> rfl
    case c3 => unfold maxLen; omega
    case c4 => omega
    case c5 => simp
    intro v' w2 hown' hgrow _
    try simp only [Nat.zero_add, List.nil_append] at hown'
    obtain ⟨g3, c3, rfl⟩ := own_form hown' (by omega)
    have Hgrow := Lib.hid hgrow
    have Hown' := Lib.hid hown'
    have d1 : w2.cell? ⟨g, r, none⟩ = some (.slice (some ⟨g2, 0, none⟩) row.length uc) := hgrow.cell (by go_simp) (by simp [Value.ownBlock]; omega)
    have f1 : w2.frozen? ⟨g, r, none⟩ = false := by
      have h1 := hgrow.block g (by simp; omega) (by simp [Value.ownBlock]; omega)
      rw [World.frozen?_of_block (w' := w2) (a := ⟨g, r, none⟩) h1]
      exact ((HM.out.1.alloc _).alloc _).frozenAt r
    have d2 : w2.cell? ⟨w1.heap.size, 1, none⟩ = some (.int .i64 b) := hgrow.cell (by go_simp) (by simp [Value.ownBlock])
    have d3 : w2.cell? ⟨g3, k * 2 + 1, none⟩ = some (.int .i64 b) := (hown'.cellAt _ (by omega)).trans (by rw [(flat_at row k hk').2, hgk])
    have f3 : w2.frozen? ⟨g3, k * 2 + 1, none⟩ = false := hown'.frozenAt _
    have hg3 : w1.heap.size + 1 ≤ g3 ∧ g3 < w2.heap.size := hown'.lt g3 rfl
    have hs2 : w1.heap.size + 2 ≤ w2.heap.size := by have := hgrow.size; simp at this; omega
    have hb2 : Below w.heap.size w w2 := Below.grown ((hb.alloc hb.size _).alloc (by simp; have := hb.size; omega) _) hgrow (by simp; have := hb.size; omega) (fun q hq => by simp [Value.ownBlock] at hq; have := hb.size; omega)
    clear hgrow hown' cu c1 c2
    have HS : Hid (∀ y : Int, Sched ((w2.setCell ⟨g, r, none⟩ (.slice (some ⟨g3, 0, none⟩) row.length c3)).setCell ⟨g3, k * 2 + 1, none⟩ (.int .i64 y)) (.slice (some ⟨g, 0, none⟩) rows.length c) (rows.set r (row.set k (a, y)))) := Lib.hid (fun y => by
      subst hrw
      have := refuse_sched (y := y) HM.out hr hk' Hgrow.out Hown'.out
      rw [hgk] at this
      exact this)
    have ng : ¬ g = g3 := by omega
    have ng' : ¬ g3 = g := by omega
    have nb : ¬ w1.heap.size = g := by omega
    have nb' : ¬ g = w1.heap.size := by omega
    have e1 : (w2.setCell ⟨g, r, none⟩ (.slice (some ⟨g3, 0, none⟩) row.length c3)).cell? ⟨g, r, none⟩ = some (.slice (some ⟨g3, 0, none⟩) row.length c3) := by go_simp
    have e2 : (w2.setCell ⟨g, r, none⟩ (.slice (some ⟨g3, 0, none⟩) row.length c3)).cell? ⟨w1.heap.size, 1, none⟩ = some (.int .i64 b) := by go_simp
    have e3 : (w2.setCell ⟨g, r, none⟩ (.slice (some ⟨g3, 0, none⟩) row.length c3)).cell? ⟨g3, k * 2 + 1, none⟩ = some (.int .i64 b) := by go_simp
    have e4 : (w2.setCell ⟨g, r, none⟩ (.slice (some ⟨g3, 0, none⟩) row.length c3)).frozen? ⟨g3, k * 2 + 1, none⟩ = false := by go_simp
    have hb3 : Below w.heap.size w (w2.setCell ⟨g, r, none⟩ (.slice (some ⟨g3, 0, none⟩) row.length c3)) := hb2.setCell (by simp; omega) _
    have s3 : w2.heap.size ≤ (w2.setCell ⟨g, r, none⟩ (.slice (some ⟨g3, 0, none⟩) row.length c3)).heap.size := by simp
    have HGK := Lib.hid hgk
    have HRW := Lib.hid hrw
    clear hgk hrw Hgrow Hown' Hnews Hown0 Hfl HROW HVU
    go_wp2_with fail
    generalize (w2.setCell ⟨g, r, none⟩ (.slice (some ⟨g3, 0, none⟩) row.length c3)) = W3 at *
    clear d1 f1 d2 d3 f3
    have hm1 : IntKind.i64.wrap (b + 1) = b + 1 := IntWalk.i64_in _ (by omega)
    have hm2 : 0 ≤ b + 1 := by omega
    go_region
    have HS4 : Hid (Sched (W3.setCell ⟨g3, k * 2 + 1, none⟩ (.int .i64 ((b + 1) % (n : Int)))).drew (.slice (some ⟨g, 0, none⟩) rows.length c) (rows.set r (row.set k (a, (b + 1) % (n : Int))))) := Lib.hid (HS.out _)
    have hb4 : Below w.heap.size w (W3.setCell ⟨g3, k * 2 + 1, none⟩ (.int .i64 ((b + 1) % (n : Int)))).drew := (hb3.setCell (by simp; have := hb.size; omega) _).drew
    have HN : Hid (checkZ n false (rows.set r (row.set k (a, (b + 1) % (n : Int)))) ≠ 0) := Lib.hid hx
    have HLR : Hid (∀ q ∈ rows.set r (row.set k (a, (b + 1) % (n : Int))), q.length ≤ 100) := Lib.hid (fun q hq => by
      rcases List.mem_or_eq_of_mem_set hq with h | h
      · have := HR.out q h; omega
      · rw [h, List.length_set]; omega)
    have HLL : Hid (((rows.set r (row.set k (a, (b + 1) % (n : Int)))).length : Int) = roundsZ n false) := Lib.hid (by rw [List.length_set]; exact HL.out)
    have hll : (rows.set r (row.set k (a, (b + 1) % (n : Int)))).length ≤ 100 := by rw [List.length_set]; omega
    clear hx HS e1 e2 e3 e4 hm1 hm2
    generalize (W3.setCell ⟨g3, k * 2 + 1, none⟩ (.int .i64 ((b + 1) % (n : Int)))).drew = W4 at *
    generalize rows.set r (row.set k (a, (b + 1) % (n : Int))) = rows' at *
    go_wp2_with fail
    refine (Check_main n false rows' _ _ (by omega) h1 HS4.out hll HLR.out HLL.out).mono ?_
    rintro e w5 ⟨rfl, hb5⟩
    have hne : (checkZ n false rows' != 0) = true := by simpa using HN.out
    generalize checkZ n false rows' = cz at *
    clear HN
    go_wp2
    go_ret
    exact ⟨rfl, hb4.trans (hb5.mono hb4.size)⟩
  · go_wp2
    go_ret
    exact ⟨rfl, hb⟩

theorem walk (n r k : Int) (w : World) :
    Calls Try.prog 6 #[.int .i64 n, .int .i64 r, .int .i64 k] w fun e w' => e = .returned (.bool true) ∧ Below w.heap.size w w' := by
  by_cases h : n < 2 ∨ 32 < n
  · exact walk_no n r k w h
  · obtain ⟨m, rfl⟩ : ∃ m : Nat, n = (m : Int) := ⟨n.toNat, by omega⟩
    by_cases h2 : m < 4 ∨ r < 0 ∨ (allZ m false).length ≤ r ∨ k < 0
    · exact walk_few m r k w (by omega) (by omega) h2
    · obtain ⟨r', rfl⟩ : ∃ m : Nat, r = (m : Int) := ⟨r.toNat, by omega⟩
      exact walk_main m r' k w (by omega) (by omega) (by omega) (by omega)

section
theorem own : ownKnob Try.prog.godebug = none := by kernel_rfl
theorem laidOut : laidOutB Try.prog = true := by kernel_rfl

set_option maxRecDepth 100000 in
theorem lifted (os : Os) (started : os.Started) (H : Type) (enc : TypeId × Value → H) :
    ReturnsInHanded {} Try.checked os 6 .any (Rows.robinRefusesSpec.pre6 enc Try.prog Try.f6 Rows.robinRefusesRow.domain false) (Rows.robinRefusesSpec.post enc Try.prog Try.f6 false true false false) := by
  refine returnsInHanded_of_change (C := Try.checked) own started (by kernel_rfl) Try.func6
    (ChangeSpec.witness6 (enc := enc) (C := Try.checked) false ⟨#[], #[.int .i64 0, .int .i64 0, .int .i64 0], []⟩ 8 (by kernel_rfl) (by kernel_rfl) (by kernel_rfl) (by kernel_rfl)) ?_
  intro W base args ds gs before hval0 hW hcnd _
  have hval : ∀ (j : Nat) t v, Try.f6.params[j]? = some t → args[j]? = some v → Value.okWide Try.prog W .any base t v := hval0
  have hW' := hW
  obtain ⟨p, q, hA0, hV, rfl, hfz, hnd⟩ := hW
  have hA : DataW.TrodAll enc Try.prog W 0 (fun _ => true) true Try.f6.params.toList args.toList ds p := hA0
  rw [Try.params6] at hA hval
  have hAll := hA
  obtain ⟨v0, vs0, d0, ds0, p0, q0, hargs, rfl, rfl, h0, r0⟩ := trodAll_cons hA
  obtain ⟨v1, vs1, d1, ds1, p1, q1, rfl, rfl, rfl, h1, r1⟩ := trodAll_cons r0
  obtain ⟨v2, vs2, d2, ds2, p2, q2, rfl, rfl, rfl, h2, r2⟩ := trodAll_cons r1
  obtain ⟨rfl, rfl, rfl⟩ := trodAll_nil r2
  obtain rfl : args = #[v0, v1, v2] := by cases args; simp_all
  obtain ⟨rfl, rfl⟩ := trodVars_none hV
  obtain ⟨a0, rfl, rfl, rfl, w0⟩ := open_int Try.underlying3 (hval 0 3 v0 rfl rfl) h0
  obtain ⟨a1, rfl, rfl, rfl, w1⟩ := open_int Try.underlying3 (hval 1 3 v1 rfl rfl) h1
  obtain ⟨a2, rfl, rfl, rfl, w2⟩ := open_int Try.underlying3 (hval 2 3 v2 rfl rfl) h2
  clear hA0 hval0
  refine (walk a0 a1 a2 W).mono fun e W' ⟨he, bel⟩ => ?_
  subst he
  exact ⟨_, rfl, _, _, _, [], _, [], hW', trodAll_mk1 (shut_bool Try.underlying4 _), trodAll_stays laidOut bel (by kernel_rfl) hAll, rfl, bel.frame _, fun h => by cases h⟩

theorem over : Rows.robinRefusesRow.holds Try.pinned (OpenSpec.ofChange Rows.robinRefusesSpec) :=
  OpenClaim.holds_of_wide 6 Try.f6 rfl rfl rfl rfl rfl rfl rfl ⟨rfl, rfl, rfl, rfl, rfl⟩ rfl rfl rfl rfl rfl (by kernel_rfl) Try.func6 (by kernel_rfl)
    (of_decide_eq_true (by kernel_rfl)) (by unfold Func.isWrapper; first | (rw [if_pos (by decide +kernel)]; kernel_rfl) | (rw [if_neg (by decide +kernel)]; exact ⟨rfl, rfl⟩))
    (fun os started H enc _ => lifted os started H enc)

theorem proved : Rows.RobinRefusesSaid := over
end
#print axioms proved
end Go.Proofs.Ytdmidjcjmkcopaa.robinRefuses

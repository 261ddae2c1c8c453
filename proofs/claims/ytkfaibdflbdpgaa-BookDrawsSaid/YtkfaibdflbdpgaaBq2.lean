/- Bq2: BkI, BkC, BkD, Zob, in one text. -/
import Derived.Test.YtkfaibdflbdpgaaBq1
import Derived.Test.YtkfaibdflbdpgaaGmA
import Derived.Test.YtkfaibdflbdpgaaMvPlain
import Derived.Test.YtkfaibdflbdpgaaCopy
import Derived.Test.YtkfaibdflbdpgaaBox2
/- slices.Insert at books: one entry. -/
namespace Go.Proofs.Ytkfaibdflbdpgaa
open Go.ChangeShapes Go.WideShapes Go.ChangeAt Go.RowKit
set_option linter.unusedVariables false

theorem info_bk : (Try.prog.info? 98).map (fun i => (i.zero, i.size, i.bytes)) = some (some (.agg #[.int .u64 0, .int .i64 0, .int .i64 0, .int .i64 0, .int .i64 0]), 5, 40) := by kernel_rfl
theorem five_bk {x : BkZ} : ∀ u ∈ ([.int .u64 x.key, .int .i64 x.m.src, .int .i64 x.m.dst, .int .i64 x.m.piece, .int .i64 x.wt] : List Value), u.oneCell' = true := by intro u hu; simp at hu; rcases hu with rfl | rfl | rfl | rfl | rfl <;> rfl
theorem flatK_one (xs : List BkZ) : ∀ u ∈ flatK xs, u.oneCell' = true := by
  intro u hu
  unfold flatK at hu
  obtain ⟨y, -, hy⟩ := List.mem_flatMap.1 hu
  exact five_bk (x := y) u hy
/-- the list with an entry put in. -/
def insZ (xs : List BkZ) (i : Nat) (x : BkZ) : List BkZ := xs.take i ++ x :: xs.drop i
theorem flat_ins (xs : List BkZ) (i : Nat) (x : BkZ) : flatK (insZ xs i x) = (flatK xs).take (i * 5) ++ ([.int .u64 x.key, .int .i64 x.m.src, .int .i64 x.m.dst, .int .i64 x.m.piece, .int .i64 x.wt] ++ (flatK xs).drop (i * 5)) := by
  unfold insZ
  rw [flatK_append, flatK_cons, flatK_take, flatK_drop]; rfl
theorem ins_len (xs : List BkZ) (i : Nat) (x : BkZ) (h : i ≤ xs.length) : (insZ xs i x).length = xs.length + 1 := by unfold insZ; simp; omega
def InsPost (base : Nat) (v : Value) (xs : List BkZ) (i : Nat) (x : BkZ) (w : World) (e : Ending) (w' : World) : Prop :=
  ∃ g' c', e = .returned (.slice (some ⟨g', 0, none⟩) (xs.length + 1) c') ∧ w'.ownsRow base 98 5 (.slice (some ⟨g', 0, none⟩) (xs.length + 1) c') (xs.length + 1) (flatK (insZ xs i x)) ∧ w.grownBy w' v.ownBlock ∧ (v.ownBlock = some g' ∨ w.heap.size ≤ g')
theorem sz_bk (w : World) : (sizeOf 98).run Try.prog w = .ok 5 w := by kernel_rfl
set_option maxRecDepth 100000 in
set_option maxHeartbeats 4000000 in
theorem ins_end (base : Nat) (v : Value) (xs : List BkZ) (x : BkZ) (g1 : Nat) (w : World) (ho : w.ownsRow base 98 5 v xs.length (flatK xs)) (hbase : base ≤ w.heap.size) (hx : Box w g1 [.int .u64 x.key, .int .i64 x.m.src, .int .i64 x.m.dst, .int .i64 x.m.piece, .int .i64 x.wt] 98) (hl : xs.length ≤ 100000) :
    Calls Try.prog 150 #[v, .int .i64 xs.length, .slice (some ⟨g1, 0, none⟩) 1 1] w (InsPost base v xs xs.length x w) := by
  have HO := Lib.hid ho
  have HX := Lib.hid hx
  have HB := Lib.hid hbase
  obtain ⟨a, c, rfl⟩ := own_form2 ho
  clear ho hx hbase
  have hs1 : ∀ w' : World, (Instr.slice 88 (.slice a xs.length c) (some (.int .i64 (xs.length : Int))) none none).run Try.prog w' = .ok (.slice (subAddr a c xs.length 5) (xs.length - xs.length) (c - xs.length)) w' := fun w' =>
    run_drop (P := Try.prog) (t := 88) (s := 5) Try.underlying88 (fun w => sz_bk w) a xs.length c xs.length (Nat.le_refl _) w'
  obtain ⟨j0, hj0, hj1, hj2, hj3⟩ := info_of info_bk
  go_enter Try.func150, Try.ntmps150
  go_wp2_with (at_builtin; refine wpList_append_lies _ rfl _ _ 88 rfl base 98 j0 (.agg #[.int .u64 0, .int .i64 0, .int .i64 0, .int .i64 0, .int .i64 0]) 5 40 Try.underlying88 hj0 hj1 hj2 hj3 rfl (by decide) _ xs.length (flatK xs) (by rfl) HO.out ⟨g1, 0, none⟩ 1 1 [.int .u64 x.key, .int .i64 x.m.src, .int .i64 x.m.dst, .int .i64 x.m.piece, .int .i64 x.wt] (by rfl) rfl HX.out.src five_bk (by decide) (by unfold maxLen; omega) (by omega) HB.out _ rfl ?_)
  intro g cap w' hown hg hat _
  have HW : Hid (w'.ownsRow base 98 5 (.slice (some ⟨g, 0, none⟩) (xs.length + 1) cap) (xs.length + 1) (flatK (insZ xs xs.length x))) := Lib.hid (by
    rw [flat_ins, List.take_of_length_le (by rw [flatK_len]; exact Nat.le_refl _), List.drop_of_length_le (by rw [flatK_len]; exact Nat.le_refl _), List.append_nil]; exact hown)
  have HG := Lib.hid hg
  have HAt : Hid (Value.ownBlock (.slice a xs.length c) = some g ∨ w.heap.size ≤ g) := Lib.hid (by rcases hat with q | q; exact .inl q; exact .inr (by omega))
  clear hown hg hat
  go_wp2_with fail
  go_ret
  exact ⟨_, _, rfl, HW.out, HG.out, HAt.out⟩
theorem drop_at {P : Program} {t : TypeId} {s : Nat} (ht : P.underlying t = some (.slice (P.elem t))) (hs : ∀ w : World, (sizeOf (P.elem t)).run P w = .ok s w) (g o n c k : Nat) (hk : k ≤ n) (hc : c ≠ k) (w : World) :
    (Instr.slice t (.slice (some ⟨g, o, none⟩) n c) (some (.int .i64 (k : Int))) none none).run P w = .ok (.slice (some ⟨g, o + k * s, none⟩) (n - k) (c - k)) w := by
  rw [run_drop ht hs _ n c k hk w]
  unfold subAddr
  rw [if_neg hc]
  simp [add_off]
theorem grow_zeros (base : Nat) (xs : List BkZ) (i g cap : Nat) (cur : Array Value) (w : World) (hg : w.heap[g]? = some (.cells cur 98 (0, 0))) (hcs : cur.size = cap * 5) (htk : cur.toList.take (xs.length * 5) = flatK xs) (hi : i < xs.length) (hnc : xs.length ≤ cap) (hcap : cap < xs.length + 1) (hl : xs.length ≤ 100000) :
    ∃ (C : Nat) (w1 : World) (cur1 : Array Value), (∀ ty, (Builtin.append_ #[88, 3] ty #[.slice (some ⟨g, 0, none⟩) i cap, .int .i64 ((xs.length + 1 - i : Nat) : Int)]).run Try.prog w = .ok (.slice (some ⟨w.heap.size, 0, none⟩) (xs.length + 1) C) w1) ∧
      w1.heap[w.heap.size]? = some (.cells cur1 98 (0, 0)) ∧ cur1.size = C * 5 ∧ cur1.toList.take (i * 5) = (flatK xs).take (i * 5) ∧ xs.length + 1 ≤ C ∧ C ≤ maxLen ∧ ∀ r, w.grownBy w1 r := by
  obtain ⟨j0, hj0, hj1, hj2, hj3⟩ := info_of info_bk
  have hol : ((flatK xs).take (i * 5)).length = i * 5 := by rw [List.length_take, flatK_len]; omega
  have hsrc : ∀ j v, ((flatK xs).take (i * 5))[j]? = some v → w.cell? ((⟨g, 0, none⟩ : Addr).add j) = some v := by
    intro j v hj
    have hjl : j < i * 5 := by have := (List.getElem?_eq_some_iff.1 hj).1; omega
    have e2 : (⟨g, 0, none⟩ : Addr).add j = ⟨g, j, none⟩ := by unfold Addr.add; split <;> simp_all
    rw [List.getElem?_take_of_lt hjl, ← htk, List.getElem?_take_of_lt (by omega)] at hj
    rw [e2, cell_of_row w g j cur 98 (0, 0) hg]
    simpa using hj
  have hN : i + (xs.length + 1 - i) = xs.length + 1 := by omega
  refine ⟨grownCap w (xs.length + 1) cap 98, w.drew.alloc (.cells (((flatK xs).take (i * 5)).toArray ++ Builtin.zeroCells (Value.agg #[.int .u64 0, .int .i64 0, .int .i64 0, .int .i64 0, .int .i64 0]).cells (xs.length + 1 - i) ++ Builtin.zeroCells (Value.agg #[.int .u64 0, .int .i64 0, .int .i64 0, .int .i64 0, .int .i64 0]).cells (grownCap w (xs.length + 1) cap 98 - (xs.length + 1))) 98), _, fun ty => ?_, heap_alloc_new w.drew _, ?_, ?_, grownCap_ge _ _ _ _, grownCap_le_maxLen _ _ _ _ (by unfold maxLen; omega), fun r => ⟨rfl, rfl, rfl, by simp, fun k hk _ => heap_alloc_old w.drew _ hk⟩⟩
  · have := run_append_zeros (P := Try.prog) w 88 3 ty 98 j0 _ .i64 Try.underlying88 Try.underlying3 hj0 hj1 ⟨g, 0, none⟩ i cap _ (by rw [hol, hj2]) hsrc (xs.length + 1 - i) (by omega) (by omega) (by omega) (by omega) (by omega)
    rw [hN] at this
    exact this
  · have hge := grownCap_ge w (xs.length + 1) cap 98
    simp only [Array.size_append, List.size_toArray, size_zeroCells, hol]
    have hz : (Value.agg #[.int .u64 0, .int .i64 0, .int .i64 0, .int .i64 0, .int .i64 0]).cells.size = 5 := rfl
    rw [hz]
    omega
  · simp only [Array.toList_append, List.append_assoc]
    rw [List.take_append_of_le_length (by simp [flatK_len]; omega), List.take_of_length_le (by simp; omega)]
theorem min_lt {a b : Nat} (h : a ≤ b) : Nat.min a b = a := Nat.min_eq_left h
theorem own_of {w : World} {base G n C : Nat} {cs : List Value} {arr : Array Value} (hb : base ≤ G) (hg : w.heap[G]? = some (.cells arr 98 (0, 0))) (h1 : n ≤ C) (h2 : C ≤ maxLen) (h3 : arr.size = C * 5) (h4 : arr.toList.take (n * 5) = cs) (h5 : cs.length = n * 5) : w.ownsRow base 98 5 (.slice (some ⟨G, 0, none⟩) n C) n cs :=
  ⟨h5, .inr ⟨G, C, arr, rfl, hb, hg, h1, h2, h3, h4⟩⟩
set_option maxRecDepth 100000 in
set_option maxHeartbeats 4000000 in
theorem ins_new (base : Nat) (xs : List BkZ) (i : Nat) (x : BkZ) (g1 g cap : Nat) (w : World) (ho : w.ownsRow base 98 5 (.slice (some ⟨g, 0, none⟩) xs.length cap) xs.length (flatK xs)) (hbase : base ≤ w.heap.size) (hx : Box w g1 [.int .u64 x.key, .int .i64 x.m.src, .int .i64 x.m.dst, .int .i64 x.m.piece, .int .i64 x.wt] 98) (hl : xs.length ≤ 100000) (hi : i < xs.length) (hcap : cap < xs.length + 1) :
    Calls Try.prog 150 #[.slice (some ⟨g, 0, none⟩) xs.length cap, .int .i64 i, .slice (some ⟨g1, 0, none⟩) 1 1] w (InsPost base (.slice (some ⟨g, 0, none⟩) xs.length cap) xs i x w) := by
  obtain ⟨cur, hbg, hg, hnc, hcm, hcs, htk⟩ : ∃ cur, base ≤ g ∧ w.heap[g]? = some (.cells cur 98 (0, 0)) ∧ xs.length ≤ cap ∧ cap ≤ maxLen ∧ cur.size = cap * 5 ∧ cur.toList.take (xs.length * 5) = flatK xs := by
    rcases ho.2 with ⟨h, _⟩ | ⟨g', cap', cur, hv, h⟩
    · cases h
    · simp only [Value.slice.injEq, Option.some.injEq, Addr.mk.injEq, and_true, true_and] at hv
      obtain ⟨rfl, rfl⟩ := hv
      exact ⟨cur, h⟩
  obtain ⟨C, w1, cur1, hrun, hg1, hc1, ht1, hC1, hC2, hgr1⟩ := grow_zeros base xs i g cap cur w hg hcs htk hi hnc hcap hl
  have hglt : g < w.heap.size := by
    by_cases hh : g < w.heap.size
    · exact hh
    · rw [Array.getElem?_eq_none (by omega)] at hg; cases hg
  have hx1 : Box w1 g1 ([.int .u64 x.key, .int .i64 x.m.src, .int .i64 x.m.dst, .int .i64 x.m.piece, .int .i64 x.wt] : List Value) 98 := ((hgr1 none).block g1 hx.lt (by simp)).trans hx
  have hgw1 : w1.heap[g]? = some (.cells cur 98 (0, 0)) := ((hgr1 none).block g hglt (by simp)).trans hg
  have hGg : w.heap.size ≠ g := by omega
  have hsz : (Try.prog.info? 98).map (·.size) = some 5 := by kernel_rfl
  have hfl := flatK_len xs
  -- the first copy
  have hr1 := fun ty => run_copyK (P := Try.prog) w1 88 88 ty 98 5 w.heap.size (0 + i * 5) (xs.length + 1 - i) (C - i) ⟨g1, 0, none⟩ 1 1 cur1 98 [.int .u64 x.key, .int .i64 x.m.src, .int .i64 x.m.dst, .int .i64 x.m.piece, .int .i64 x.wt] Try.underlying88 hsz hg1 (by rw [min_lt (by omega)]; rfl) hx1.src (by rw [hc1]; simp; omega) five_bk
  obtain ⟨arr2, ha2⟩ : ∃ arr2, arr2 = (cur1.toList.take (0 + i * 5) ++ ([.int .u64 x.key, .int .i64 x.m.src, .int .i64 x.m.dst, .int .i64 x.m.piece, .int .i64 x.wt] : List Value) ++ cur1.toList.drop (0 + i * 5 + ([.int .u64 x.key, .int .i64 x.m.src, .int .i64 x.m.dst, .int .i64 x.m.piece, .int .i64 x.wt] : List Value).length)).toArray := ⟨_, rfl⟩
  rw [← ha2] at hr1
  obtain ⟨w2, hw2⟩ : ∃ w2, w2 = w1.setRow w.heap.size arr2 := ⟨_, rfl⟩
  rw [← hw2, min_lt (by omega)] at hr1
  have hg2 : w2.heap[w.heap.size]? = some (.cells arr2 98 (0, 0)) := by rw [hw2]; exact setRow_heap _ _ _ _ _ _ hg1
  have hgr2 : w1.grownBy w2 (some w.heap.size) := by rw [hw2]; exact setRow_grown _ _ _
  have hgw2 : w2.heap[g]? = some (.cells cur 98 (0, 0)) := by rw [hw2]; exact (setRow_other _ _ _ _ (Ne.symm hGg)).trans hgw1
  have hsrc2 : ∀ j v, ((flatK xs).drop (i * 5))[j]? = some v → w2.drew.cell? ((⟨g, 0 + i * 5, none⟩ : Addr).add j) = some v := by
    intro j v hj
    rw [List.getElem?_drop] at hj
    have hjl : i * 5 + j < xs.length * 5 := by have := (List.getElem?_eq_some_iff.1 hj).1; omega
    rw [add_off, show (⟨g, 0 + i * 5 + j, none⟩ : Addr) = ⟨g, i * 5 + j, none⟩ by rw [Nat.zero_add]]
    rw [← htk, List.getElem?_take_of_lt hjl] at hj
    rw [show w2.drew.cell? ⟨g, i * 5 + j, none⟩ = w2.cell? ⟨g, i * 5 + j, none⟩ from rfl, cell_of_row w2 g (i * 5 + j) cur 98 (0, 0) hgw2]
    simpa using hj
  have hdl : ((flatK xs).drop (i * 5)).length = (xs.length - i) * 5 := by rw [List.length_drop, hfl]; omega
  have hs2z : arr2.size = C * 5 := by
    have h0 : cur1.toList.length = C * 5 := by simpa using hc1
    rw [ha2]; simp; omega
  have hr2 := fun ty => run_copyK (P := Try.prog) w2.drew 88 88 ty 98 5 w.heap.size (0 + (i + 1) * 5) (xs.length + 1 - (i + 1)) (C - (i + 1)) ⟨g, 0 + i * 5, none⟩ (xs.length - i) (cap - i) arr2 98 ((flatK xs).drop (i * 5)) Try.underlying88 hsz hg2 (by rw [min_lt (by omega), hdl]) hsrc2 (by rw [hs2z, hdl]; omega) (fun u hu => flatK_one xs u (List.mem_of_mem_drop hu))
  obtain ⟨arr3, ha3⟩ : ∃ arr3, arr3 = (arr2.toList.take (0 + (i + 1) * 5) ++ (flatK xs).drop (i * 5) ++ arr2.toList.drop (0 + (i + 1) * 5 + ((flatK xs).drop (i * 5)).length)).toArray := ⟨_, rfl⟩
  rw [← ha3] at hr2
  obtain ⟨w3, hw3⟩ : ∃ w3, w3 = w2.drew.setRow w.heap.size arr3 := ⟨_, rfl⟩
  rw [← hw3, min_lt (by omega)] at hr2
  have hg3 : w3.heap[w.heap.size]? = some (.cells arr3 98 (0, 0)) := by rw [hw3]; exact setRow_heap _ _ _ _ _ _ hg2
  have hgr3 : w2.drew.grownBy w3 (some w.heap.size) := by rw [hw3]; exact setRow_grown _ _ _
  have hspl := splA (L := cur1.toList) (X1 := (flatK xs).take (i * 5)) (Y := ([.int .u64 x.key, .int .i64 x.m.src, .int .i64 x.m.dst, .int .i64 x.m.piece, .int .i64 x.wt] : List Value)) (X2 := (flatK xs).drop (i * 5)) (p := i * 5) (q := (xs.length - i) * 5) (by rw [List.length_take]; omega) rfl hdl ht1 (Nat.le_trans (show i * 5 + 5 + (xs.length - i) * 5 ≤ C * 5 by omega) (by simp [hc1]))
  have ha2l : arr2.toList = cur1.toList.take (i * 5) ++ ([.int .u64 x.key, .int .i64 x.m.src, .int .i64 x.m.dst, .int .i64 x.m.piece, .int .i64 x.wt] : List Value) ++ cur1.toList.drop (i * 5 + ([.int .u64 x.key, .int .i64 x.m.src, .int .i64 x.m.dst, .int .i64 x.m.piece, .int .i64 x.wt] : List Value).length) := by rw [ha2, Nat.zero_add]
  have ha3l : arr3.toList = arr2.toList.take (i * 5 + 5) ++ (flatK xs).drop (i * 5) ++ arr2.toList.drop (i * 5 + 5 + ((flatK xs).drop (i * 5)).length) := by rw [ha3, Nat.zero_add, show (i + 1) * 5 = i * 5 + 5 by omega]
  rw [← ha2l, ← ha3l] at hspl
  have hW3 : w3.ownsRow base 98 5 (.slice (some ⟨w.heap.size, 0, none⟩) (xs.length + 1) C) (xs.length + 1) (flatK (insZ xs i x)) := by
    refine own_of hbase hg3 hC1 hC2 (by rw [← Array.length_toList, hspl.2, Array.length_toList, hc1]) ?_ (by rw [flatK_len, ins_len xs i x (by omega)])
    rw [flat_ins, show (xs.length + 1) * 5 = i * 5 + 5 + (xs.length - i) * 5 by omega]
    exact hspl.1
  have hG3 : w.grownBy w3 (Value.ownBlock (.slice (some ⟨g, 0, none⟩) xs.length cap)) := grown_new (grown_trans (grown_new (hgr1 _) hgr2 (Nat.le_refl _)) (grown_drew _ _)) hgr3 (Nat.le_refl _)
  simp only [Nat.zero_add, Nat.add_sub_add_right] at hr1 hr2
  have hcp1 := hr1
  have hcp2 := hr2
  clear hr1 hr2 hg3 hgr3 hspl ha2l ha3l hw3 ha3 hs2z hdl hsrc2 hgw2 hgr2 hg2 hw2 ha2 hsz hfl hgw1 hx1 hg1 hc1 ht1 hgr1 hx ho hg hcs htk hbg hglt
  unfold maxLen at hC2 hcm
  have hs1 : ∀ w' : World, (Instr.slice 88 (.slice (some ⟨g, 0, none⟩) xs.length cap) (some (.int .i64 (i : Int))) none none).run Try.prog w' = .ok (.slice (some ⟨g, i * 5, none⟩) (xs.length - i) (cap - i)) w' := fun w' =>
    by
      have := drop_at (P := Try.prog) (t := 88) (s := 5) Try.underlying88 (fun w => sz_bk w) g 0 xs.length cap i (by omega) (by omega) w'
      rwa [Nat.zero_add] at this
  have hs2 : ∀ w' : World, (Instr.slice 88 (.slice (some ⟨g, 0, none⟩) xs.length cap) none (some (.int .i64 (i : Int))) none).run Try.prog w' = .ok (.slice (some ⟨g, 0, none⟩) i cap) w' := fun w' =>
    run_take (P := Try.prog) (t := 88) (s := 5) Try.underlying88 (fun w => sz_bk w) (some ⟨g, 0, none⟩) xs.length cap i (by omega) w'
  have hs3 : ∀ w' : World, (Instr.slice 88 (.slice (some ⟨w.heap.size, 0, none⟩) (xs.length + 1) C) (some (.int .i64 (i : Int))) none none).run Try.prog w' = .ok (.slice (some ⟨w.heap.size, i * 5, none⟩) (xs.length + 1 - i) (C - i)) w' := fun w' =>
    by
      have := drop_at (P := Try.prog) (t := 88) (s := 5) Try.underlying88 (fun w => sz_bk w) w.heap.size 0 (xs.length + 1) C i (by omega) (by omega) w'
      rwa [Nat.zero_add] at this
  have hs4 : ∀ w' : World, (Instr.slice 88 (.slice (some ⟨w.heap.size, 0, none⟩) (xs.length + 1) C) (some (.int .i64 ((i + 1 : Nat) : Int))) none none).run Try.prog w' = .ok (.slice (some ⟨w.heap.size, (i + 1) * 5, none⟩) (xs.length + 1 - (i + 1)) (C - (i + 1))) w' := fun w' =>
    by
      have := drop_at (P := Try.prog) (t := 88) (s := 5) Try.underlying88 (fun w => sz_bk w) w.heap.size 0 (xs.length + 1) C (i + 1) (by omega) (by omega) w'
      rwa [Nat.zero_add] at this
  have hw1n : IntKind.i64.wrap ((xs.length : Int) + 1) = (xs.length : Int) + 1 := IntWalk.i64_in _ (by omega)
  have hw2n : IntKind.i64.wrap ((xs.length : Int) + 1 - (i : Int)) = ((xs.length + 1 - i : Nat) : Int) := by rw [IntWalk.i64_in _ (by omega)]; omega
  have hw3n : IntKind.i64.wrap ((i : Int) + 1) = ((i + 1 : Nat) : Int) := by rw [IntWalk.i64_in _ (by omega)]; omega
  have hne : ((i : Int) == (xs.length : Int)) = false := by simp; omega
  have hcI : (cap : Int) < (xs.length : Int) + 1 := by omega
  have hb0 : (0 : Int) ≤ (i : Int) + 1 := by omega
  have hbi : i ≤ xs.length := by omega
  have hbC : ¬ C = i + 1 := by omega
  have hbc : ¬ cap = i := by omega
  have hbI : (0 : Int) ≤ (i : Int) := by omega
  have hbl : (i : Int) ≤ (xs.length : Int) := by omega
  go_enter Try.func150, Try.ntmps150
  go_wp2_with (at_builtin; first | (refine Lib.wpList_append_run _ rfl _ _ 88 3 rfl _ _ rfl rfl _ _ (hrun _) ?_) | (refine wpList_copyK _ rfl _ _ 88 88 rfl _ _ rfl rfl (hcp1 _) ?_))
  refine wp_region_noPanic ?_
  refine beginL (S := (fun _ => True)) (L := []) (by kernel_rfl) trivial (fun hHeld => ?_)
  refine takeW (i := 0) (oi := { dst := some 46, op := Op.move (Operand.tmp 9), type := 88, pos := "slices.go:154", after := #[], guard := none }) (v := ?va1) rfl (by kernel_rfl) (by kernel_rfl) (by kernel_rfl) rfl (fun _ _ _ h => h) (Or.inl ⟨by rfl, ?ya1⟩) (fun _ => by assumption) ?ra1
  case ya1 => (intro w _; go_simp; first | done | (with_reducible rfl))
  try simp only [Act.put, List.setIfInBounds_toArray, List.set_cons_zero, List.set_cons_succ]
  refine takeW (i := 1) (oi := { dst := some 47, op := Op.move (Operand.tmp 1), type := 3, pos := "slices.go:154", after := #[], guard := none }) (v := ?va2) rfl (by kernel_rfl) (by kernel_rfl) (by kernel_rfl) rfl (fun _ _ _ h => h) (Or.inl ⟨by rfl, ?ya2⟩) (fun _ => by assumption) ?ra2
  case ya2 => (intro w _; go_simp; first | done | (with_reducible rfl))
  try simp only [Act.put, List.setIfInBounds_toArray, List.set_cons_zero, List.set_cons_succ]
  refine takeW (i := 2) (oi := { dst := some 48, op := Op.move (Operand.tmp 7), type := 3, pos := "slices.go:154", after := #[], guard := none }) (v := ?va3) rfl (by kernel_rfl) (by kernel_rfl) (by kernel_rfl) rfl (fun _ _ _ h => h) (Or.inl ⟨by rfl, ?ya3⟩) (fun _ => by assumption) ?ra3
  case ya3 => (intro w _; go_simp; first | done | (with_reducible rfl))
  try simp only [Act.put, List.setIfInBounds_toArray, List.set_cons_zero, List.set_cons_succ]
  refine takeW (i := 5) (oi := { dst := some 51, op := Op.move (Operand.tmp 0), type := 88, pos := "slices.go:154", after := #[], guard := none }) (v := ?va4) rfl (by kernel_rfl) (by kernel_rfl) (by kernel_rfl) rfl (fun _ _ _ h => h) (Or.inl ⟨by rfl, ?ya4⟩) (fun _ => by assumption) ?ra4
  case ya4 => (intro w _; go_simp; first | done | (with_reducible rfl))
  try simp only [Act.put, List.setIfInBounds_toArray, List.set_cons_zero, List.set_cons_succ]
  refine takeW (i := 6) (oi := { dst := some 52, op := Op.move (Operand.tmp 1), type := 3, pos := "slices.go:154", after := #[], guard := none }) (v := ?va5) rfl (by kernel_rfl) (by kernel_rfl) (by kernel_rfl) rfl (fun _ _ _ h => h) (Or.inl ⟨by rfl, ?ya5⟩) (fun _ => by assumption) ?ra5
  case ya5 => (intro w _; go_simp; first | done | (with_reducible rfl))
  try simp only [Act.put, List.setIfInBounds_toArray, List.set_cons_zero, List.set_cons_succ]
  refine takeW (i := 3) (oi := { dst := some 49, op := Op.binOp BinOp.add 3 (Operand.tmp 47) (Operand.tmp 48) 3, type := 3, pos := "slices.go:154", after := #[{ on := 1, ground := Ground.data }, { on := 2, ground := Ground.data }], guard := none }) (v := ?va6) rfl (by kernel_rfl) (by kernel_rfl) (by kernel_rfl) rfl (fun _ _ _ h => h) (Or.inl ⟨by rfl, ?ya6⟩) (fun _ => by assumption) ?ra6
  case ya6 => (intro w _; go_simp; first | done | (with_reducible rfl))
  try simp only [Act.put, List.setIfInBounds_toArray, List.set_cons_zero, List.set_cons_succ]
  refine takeW (i := 7) (oi := { dst := some 53, op := Op.slice 88 (Operand.tmp 51) (some (Operand.tmp 52)) none none, type := 88, pos := "slices.go:154", after := #[{ on := 5, ground := Ground.data }, { on := 6, ground := Ground.data }], guard := none }) (v := ?va7) rfl (by kernel_rfl) (by kernel_rfl) (by kernel_rfl) rfl (fun _ _ _ h => h) (Or.inl ⟨by rfl, ?ya7⟩) (fun _ => by assumption) ?ra7
  case ya7 => (intro w _; go_simp; first | done | (with_reducible rfl))
  try simp only [Act.put, List.setIfInBounds_toArray, List.set_cons_zero, List.set_cons_succ]
  refine takeW (i := 4) (oi := { dst := some 50, op := Op.slice 88 (Operand.tmp 46) (some (Operand.tmp 49)) none none, type := 88, pos := "slices.go:154", after := #[{ on := 0, ground := Ground.data }, { on := 3, ground := Ground.data }], guard := none }) (v := ?va8) rfl (by kernel_rfl) (by kernel_rfl) (by kernel_rfl) rfl (fun _ _ _ h => h) (Or.inl ⟨by rfl, ?ya8⟩) (fun _ => by assumption) ?ra8
  case ya8 => (intro w _; go_simp; first | done | (with_reducible rfl))
  try simp only [Act.put, List.setIfInBounds_toArray, List.set_cons_zero, List.set_cons_succ]
  refine readyL (rs := [8]) (by kernel_rfl) (by simp) ?_
  refine (AllReadyL.cons (o := { dst := some 54, op := Op.call { callee := Callee.builtin Builtin.copy, args := #[Operand.tmp 50, Operand.tmp 53], argTypes := #[88, 88] }, type := 3, pos := "slices.go:154", after := #[{ on := 4, ground := Ground.data }, { on := 7, ground := Ground.data }], guard := none }) rfl (fun K hK => ?_) AllReadyL.nil)
  rw [if_pos (by rfl)]
  refine wp_copyK _ _ _ 88 88 rfl _ _ rfl rfl (hcp2 _) ?_
  refine hK.out _ _ trivial (fun hHeld => ?_)
  clear hK K
  try simp only [Act.put, List.setIfInBounds_toArray, List.set_cons_zero, List.set_cons_succ]
  refine doneL (by kernel_rfl) ?_ _
  refine NoPanic.normal ?_
  have HW := Lib.hid hW3
  have HGr := Lib.hid hG3
  clear hW3 hG3 hHeld
  go_wp2_with fail
  go_ret
  exact ⟨_, _, rfl, HW.out, HGr.out, .inr (Nat.le_refl _)⟩
theorem min_rt {a b : Nat} (h : b ≤ a) : Nat.min a b = b := Nat.min_eq_right h
set_option maxRecDepth 100000 in
set_option maxHeartbeats 4000000 in
theorem ins_room (base : Nat) (xs : List BkZ) (i : Nat) (x : BkZ) (g1 g cap : Nat) (w : World) (ho : w.ownsRow base 98 5 (.slice (some ⟨g, 0, none⟩) xs.length cap) xs.length (flatK xs)) (hx : Box w g1 [.int .u64 x.key, .int .i64 x.m.src, .int .i64 x.m.dst, .int .i64 x.m.piece, .int .i64 x.wt] 98) (hl : xs.length ≤ 100000) (hi : i < xs.length) (hcap : xs.length + 1 ≤ cap) (hg1g : g1 ≠ g) :
    Calls Try.prog 150 #[.slice (some ⟨g, 0, none⟩) xs.length cap, .int .i64 i, .slice (some ⟨g1, 0, none⟩) 1 1] w (InsPost base (.slice (some ⟨g, 0, none⟩) xs.length cap) xs i x w) := by
  obtain ⟨cur, hbg, hg, hnc, hcm, hcs, htk⟩ : ∃ cur, base ≤ g ∧ w.heap[g]? = some (.cells cur 98 (0, 0)) ∧ xs.length ≤ cap ∧ cap ≤ maxLen ∧ cur.size = cap * 5 ∧ cur.toList.take (xs.length * 5) = flatK xs := by
    rcases ho.2 with ⟨h, _⟩ | ⟨g', cap', cur, hv, h⟩
    · cases h
    · simp only [Value.slice.injEq, Option.some.injEq, Addr.mk.injEq, and_true, true_and] at hv
      obtain ⟨rfl, rfl⟩ := hv
      exact ⟨cur, h⟩
  have hsz : (Try.prog.info? 98).map (·.size) = some 5 := by kernel_rfl
  have hfl := flatK_len xs
  have hdl : ((flatK xs).drop (i * 5)).length = (xs.length - i) * 5 := by rw [List.length_drop, hfl]; omega
  have hsrc1 : ∀ j v, ((flatK xs).drop (i * 5))[j]? = some v → w.drew.cell? ((⟨g, 0 + i * 5, none⟩ : Addr).add j) = some v := by
    intro j v hj
    rw [List.getElem?_drop] at hj
    have hjl : i * 5 + j < xs.length * 5 := by have := (List.getElem?_eq_some_iff.1 hj).1; omega
    rw [add_off, show (⟨g, 0 + i * 5 + j, none⟩ : Addr) = ⟨g, i * 5 + j, none⟩ by rw [Nat.zero_add]]
    rw [← htk, List.getElem?_take_of_lt hjl] at hj
    rw [show w.drew.cell? ⟨g, i * 5 + j, none⟩ = w.cell? ⟨g, i * 5 + j, none⟩ from rfl, cell_of_row w g (i * 5 + j) cur 98 (0, 0) hg]
    simpa using hj
  have hr1 := fun ty => run_copyK (P := Try.prog) w.drew 88 88 ty 98 5 g (0 + (i + 1) * 5) (xs.length + 1 - (i + 1)) (cap - (i + 1)) ⟨g, 0 + i * 5, none⟩ (xs.length + 1 - i) (cap - i) cur 98 ((flatK xs).drop (i * 5)) Try.underlying88 hsz hg (by rw [min_rt (by omega), hdl]; omega) hsrc1 (by rw [hcs, hdl]; omega) (fun u hu => flatK_one xs u (List.mem_of_mem_drop hu))
  obtain ⟨arr2, ha2⟩ : ∃ arr2, arr2 = (cur.toList.take (0 + (i + 1) * 5) ++ (flatK xs).drop (i * 5) ++ cur.toList.drop (0 + (i + 1) * 5 + ((flatK xs).drop (i * 5)).length)).toArray := ⟨_, rfl⟩
  rw [← ha2] at hr1
  obtain ⟨w2, hw2⟩ : ∃ w2, w2 = w.drew.setRow g arr2 := ⟨_, rfl⟩
  rw [← hw2, min_rt (by omega)] at hr1
  have hg2 : w2.heap[g]? = some (.cells arr2 98 (0, 0)) := by rw [hw2]; exact setRow_heap _ _ _ _ _ _ hg
  have hgr2 : w.grownBy w2 (some g) := by rw [hw2]; exact grown_trans (grown_drew _ _) (setRow_grown _ _ _)
  have hx2 : Box w2 g1 ([.int .u64 x.key, .int .i64 x.m.src, .int .i64 x.m.dst, .int .i64 x.m.piece, .int .i64 x.wt] : List Value) 98 := (hgr2.block g1 hx.lt (fun e => hg1g (by simpa using e))).trans hx
  have hs2z : arr2.size = cap * 5 := by
    have h0 : cur.toList.length = cap * 5 := by simpa using hcs
    rw [ha2]; simp [hdl]; omega
  have hr2 := fun ty => run_copyK (P := Try.prog) w2 88 88 ty 98 5 g (0 + i * 5) (xs.length + 1 - i) (cap - i) ⟨g1, 0, none⟩ 1 1 arr2 98 [.int .u64 x.key, .int .i64 x.m.src, .int .i64 x.m.dst, .int .i64 x.m.piece, .int .i64 x.wt] Try.underlying88 hsz hg2 (by rw [min_lt (by omega)]; rfl) hx2.src (by rw [hs2z]; simp; omega) five_bk
  obtain ⟨arr3, ha3⟩ : ∃ arr3, arr3 = (arr2.toList.take (0 + i * 5) ++ ([.int .u64 x.key, .int .i64 x.m.src, .int .i64 x.m.dst, .int .i64 x.m.piece, .int .i64 x.wt] : List Value) ++ arr2.toList.drop (0 + i * 5 + ([.int .u64 x.key, .int .i64 x.m.src, .int .i64 x.m.dst, .int .i64 x.m.piece, .int .i64 x.wt] : List Value).length)).toArray := ⟨_, rfl⟩
  rw [← ha3] at hr2
  obtain ⟨w3, hw3⟩ : ∃ w3, w3 = w2.setRow g arr3 := ⟨_, rfl⟩
  rw [← hw3, min_lt (by omega)] at hr2
  have hg3 : w3.heap[g]? = some (.cells arr3 98 (0, 0)) := by rw [hw3]; exact setRow_heap _ _ _ _ _ _ hg2
  have hgr3 : w2.grownBy w3 (some g) := by rw [hw3]; exact setRow_grown _ _ _
  have hspl := splB (L := cur.toList) (X1 := (flatK xs).take (i * 5)) (Y := ([.int .u64 x.key, .int .i64 x.m.src, .int .i64 x.m.dst, .int .i64 x.m.piece, .int .i64 x.wt] : List Value)) (X2 := (flatK xs).drop (i * 5)) (p := i * 5) (q := (xs.length - i) * 5) (by rw [List.length_take]; omega) rfl hdl (by rw [List.take_append_drop, show i * 5 + (xs.length - i) * 5 = xs.length * 5 by omega]; exact htk) (Nat.le_trans (show i * 5 + 5 + (xs.length - i) * 5 ≤ cap * 5 by omega) (by simp [hcs]))
  have ha2l : arr2.toList = cur.toList.take (i * 5 + 5) ++ (flatK xs).drop (i * 5) ++ cur.toList.drop (i * 5 + 5 + ((flatK xs).drop (i * 5)).length) := by rw [ha2, Nat.zero_add, show (i + 1) * 5 = i * 5 + 5 by omega]
  have ha3l : arr3.toList = arr2.toList.take (i * 5) ++ ([.int .u64 x.key, .int .i64 x.m.src, .int .i64 x.m.dst, .int .i64 x.m.piece, .int .i64 x.wt] : List Value) ++ arr2.toList.drop (i * 5 + ([.int .u64 x.key, .int .i64 x.m.src, .int .i64 x.m.dst, .int .i64 x.m.piece, .int .i64 x.wt] : List Value).length) := by rw [ha3, Nat.zero_add]
  rw [← ha2l, ← ha3l] at hspl
  have hW3 : w3.ownsRow base 98 5 (.slice (some ⟨g, 0, none⟩) (xs.length + 1) cap) (xs.length + 1) (flatK (insZ xs i x)) := by
    refine own_of hbg hg3 hcap hcm (by rw [← Array.length_toList, hspl.2, Array.length_toList, hcs]) ?_ (by rw [flatK_len, ins_len xs i x (by omega)])
    rw [flat_ins, show (xs.length + 1) * 5 = i * 5 + 5 + (xs.length - i) * 5 by omega]
    exact hspl.1
  have hG3 : w.grownBy w3 (Value.ownBlock (.slice (some ⟨g, 0, none⟩) xs.length cap)) := grown_trans hgr2 hgr3
  have hsa : w.shape? g1 = some (98, 5) := by unfold World.shape?; rw [show w.heap[g1]? = _ from hx]; rfl
  have hsb : w.shape? g = some (98, cap * 5) := by unfold World.shape?; rw [hg]; simp [hcs]
  have hov : ∀ lb cb, (callFunc 173 #[.slice (some ⟨g1, 0, none⟩) 1 1, .slice (some ⟨g, (i + 1) * 5, none⟩) lb cb]).run Try.prog w = .ok (.value (.bool false)) w := fun lb cb => by
    rw [run_callFunc_extern Try.func173 (by kernel_rfl) (by kernel_rfl) (by kernel_rfl) (e := Extern.SlicesOverlaps.overlaps #[88, 88] #[4]) (by kernel_rfl),
      Lib.run_overlaps_apart w 88 4 98 Try.underlying88 5 sz_bk ⟨g1, 0, none⟩ ⟨g, (i + 1) * 5, none⟩ 1 1 lb cb hg1g 98 98 5 (cap * 5) hsa hsb (by omega) (hx.frozen 0) (hx.frozen 5)]
    rfl
  simp only [Nat.zero_add, Nat.add_sub_add_right] at hr1 hr2
  have hcp1 := hr1
  have hcp2 := hr2
  clear hr1 hr2 hg3 hgr3 hspl ha2l ha3l hw3 ha3 hs2z hdl hsrc1 hgr2 hg2 hw2 ha2 hsz hfl hx2 hx ho hg hcs htk hbg hsa hsb
  unfold maxLen at hcm
  have hs1 : ∀ w' : World, (Instr.slice 88 (.slice (some ⟨g, 0, none⟩) xs.length cap) (some (.int .i64 (i : Int))) none none).run Try.prog w' = .ok (.slice (some ⟨g, i * 5, none⟩) (xs.length - i) (cap - i)) w' := fun w' => by
      have := drop_at (P := Try.prog) (t := 88) (s := 5) Try.underlying88 (fun w => sz_bk w) g 0 xs.length cap i (by omega) (by omega) w'
      rwa [Nat.zero_add] at this
  have hs2 : ∀ w' : World, (Instr.slice 88 (.slice (some ⟨g, 0, none⟩) xs.length cap) none (some (.int .i64 ((xs.length + 1 : Nat) : Int))) none).run Try.prog w' = .ok (.slice (some ⟨g, 0, none⟩) (xs.length + 1) cap) w' := fun w' =>
    run_take (P := Try.prog) (t := 88) (s := 5) Try.underlying88 (fun w => sz_bk w) (some ⟨g, 0, none⟩) xs.length cap (xs.length + 1) (by omega) w'
  have hs3 : ∀ w' : World, (Instr.slice 88 (.slice (some ⟨g, 0, none⟩) (xs.length + 1) cap) (some (.int .i64 (i : Int))) none none).run Try.prog w' = .ok (.slice (some ⟨g, i * 5, none⟩) (xs.length + 1 - i) (cap - i)) w' := fun w' => by
      have := drop_at (P := Try.prog) (t := 88) (s := 5) Try.underlying88 (fun w => sz_bk w) g 0 (xs.length + 1) cap i (by omega) (by omega) w'
      rwa [Nat.zero_add] at this
  have hs4 : ∀ w' : World, (Instr.slice 88 (.slice (some ⟨g, 0, none⟩) (xs.length + 1) cap) (some (.int .i64 ((i + 1 : Nat) : Int))) none none).run Try.prog w' = .ok (.slice (some ⟨g, (i + 1) * 5, none⟩) (xs.length + 1 - (i + 1)) (cap - (i + 1))) w' := fun w' => by
      have := drop_at (P := Try.prog) (t := 88) (s := 5) Try.underlying88 (fun w => sz_bk w) g 0 (xs.length + 1) cap (i + 1) (by omega) (by omega) w'
      rwa [Nat.zero_add] at this
  have hw1n : IntKind.i64.wrap ((xs.length : Int) + 1) = ((xs.length + 1 : Nat) : Int) := by rw [IntWalk.i64_in _ (by omega)]; omega
  have hw3n : IntKind.i64.wrap ((i : Int) + 1) = ((i + 1 : Nat) : Int) := by rw [IntWalk.i64_in _ (by omega)]; omega
  have hne : ((i : Int) == (xs.length : Int)) = false := by simp; omega
  have hcI : ¬ (cap : Int) < ((xs.length + 1 : Nat) : Int) := by omega
  have hcI2 : ¬ (cap : Int) < (xs.length : Int) + 1 := by omega
  have hb0 : (0 : Int) ≤ (i : Int) + 1 := by omega
  have hbi : i ≤ xs.length := by omega
  have hbi2 : i ≤ xs.length + 1 := by omega
  have hbC : ¬ cap = i + 1 := by omega
  have hbc : ¬ cap = i := by omega
  have hbI : (0 : Int) ≤ (i : Int) := by omega
  have hbl : (i : Int) ≤ (xs.length : Int) := by omega
  have hbl2 : (i : Int) ≤ (xs.length : Int) + 1 := by omega
  go_enter Try.func150, Try.ntmps150
  go_wp2_with (simp only [hov])
  refine wp_region_noPanic ?_
  refine beginL (S := (fun _ => True)) (L := []) (by kernel_rfl) trivial (fun hHeld => ?_)
  refine takeW (i := 0) (oi := { dst := some 69, op := Op.move (Operand.tmp 0), type := 88, pos := "slices.go:178", after := #[], guard := none }) (v := ?va1) rfl (by kernel_rfl) (by kernel_rfl) (by kernel_rfl) rfl (fun _ _ _ h => h) (Or.inl ⟨by rfl, ?ya1⟩) (fun _ => by assumption) ?ra1
  case ya1 => (intro w _; go_simp; first | done | (with_reducible rfl))
  try simp only [Act.put, List.setIfInBounds_toArray, List.set_cons_zero, List.set_cons_succ]
  refine takeW (i := 1) (oi := { dst := some 70, op := Op.move (Operand.tmp 1), type := 3, pos := "slices.go:178", after := #[], guard := none }) (v := ?va2) rfl (by kernel_rfl) (by kernel_rfl) (by kernel_rfl) rfl (fun _ _ _ h => h) (Or.inl ⟨by rfl, ?ya2⟩) (fun _ => by assumption) ?ra2
  case ya2 => (intro w _; go_simp; first | done | (with_reducible rfl))
  try simp only [Act.put, List.setIfInBounds_toArray, List.set_cons_zero, List.set_cons_succ]
  refine takeW (i := 2) (oi := { dst := some 71, op := Op.move (Operand.tmp 7), type := 3, pos := "slices.go:178", after := #[], guard := none }) (v := ?va3) rfl (by kernel_rfl) (by kernel_rfl) (by kernel_rfl) rfl (fun _ _ _ h => h) (Or.inl ⟨by rfl, ?ya3⟩) (fun _ => by assumption) ?ra3
  case ya3 => (intro w _; go_simp; first | done | (with_reducible rfl))
  try simp only [Act.put, List.setIfInBounds_toArray, List.set_cons_zero, List.set_cons_succ]
  refine takeW (i := 5) (oi := { dst := some 74, op := Op.move (Operand.tmp 0), type := 88, pos := "slices.go:178", after := #[], guard := none }) (v := ?va4) rfl (by kernel_rfl) (by kernel_rfl) (by kernel_rfl) rfl (fun _ _ _ h => h) (Or.inl ⟨by rfl, ?ya4⟩) (fun _ => by assumption) ?ra4
  case ya4 => (intro w _; go_simp; first | done | (with_reducible rfl))
  try simp only [Act.put, List.setIfInBounds_toArray, List.set_cons_zero, List.set_cons_succ]
  refine takeW (i := 6) (oi := { dst := some 75, op := Op.move (Operand.tmp 1), type := 3, pos := "slices.go:178", after := #[], guard := none }) (v := ?va5) rfl (by kernel_rfl) (by kernel_rfl) (by kernel_rfl) rfl (fun _ _ _ h => h) (Or.inl ⟨by rfl, ?ya5⟩) (fun _ => by assumption) ?ra5
  case ya5 => (intro w _; go_simp; first | done | (with_reducible rfl))
  try simp only [Act.put, List.setIfInBounds_toArray, List.set_cons_zero, List.set_cons_succ]
  refine takeW (i := 3) (oi := { dst := some 72, op := Op.binOp BinOp.add 3 (Operand.tmp 70) (Operand.tmp 71) 3, type := 3, pos := "slices.go:178", after := #[{ on := 1, ground := Ground.data }, { on := 2, ground := Ground.data }], guard := none }) (v := ?va6) rfl (by kernel_rfl) (by kernel_rfl) (by kernel_rfl) rfl (fun _ _ _ h => h) (Or.inl ⟨by rfl, ?ya6⟩) (fun _ => by assumption) ?ra6
  case ya6 => (intro w _; go_simp; first | done | (with_reducible rfl))
  try simp only [Act.put, List.setIfInBounds_toArray, List.set_cons_zero, List.set_cons_succ]
  refine takeW (i := 7) (oi := { dst := some 76, op := Op.slice 88 (Operand.tmp 74) (some (Operand.tmp 75)) none none, type := 88, pos := "slices.go:178", after := #[{ on := 5, ground := Ground.data }, { on := 6, ground := Ground.data }], guard := none }) (v := ?va7) rfl (by kernel_rfl) (by kernel_rfl) (by kernel_rfl) rfl (fun _ _ _ h => h) (Or.inl ⟨by rfl, ?ya7⟩) (fun _ => by assumption) ?ra7
  case ya7 => (intro w _; go_simp; first | done | (with_reducible rfl))
  try simp only [Act.put, List.setIfInBounds_toArray, List.set_cons_zero, List.set_cons_succ]
  refine takeW (i := 4) (oi := { dst := some 73, op := Op.slice 88 (Operand.tmp 69) (some (Operand.tmp 72)) none none, type := 88, pos := "slices.go:178", after := #[{ on := 0, ground := Ground.data }, { on := 3, ground := Ground.data }], guard := none }) (v := ?va8) rfl (by kernel_rfl) (by kernel_rfl) (by kernel_rfl) rfl (fun _ _ _ h => h) (Or.inl ⟨by rfl, ?ya8⟩) (fun _ => by assumption) ?ra8
  case ya8 => (intro w _; go_simp; first | done | (with_reducible rfl))
  try simp only [Act.put, List.setIfInBounds_toArray, List.set_cons_zero, List.set_cons_succ]
  refine readyL (rs := [8]) (by kernel_rfl) (by simp) ?_
  refine (AllReadyL.cons (o := { dst := some 77, op := Op.call { callee := Callee.builtin Builtin.copy, args := #[Operand.tmp 73, Operand.tmp 76], argTypes := #[88, 88] }, type := 3, pos := "slices.go:178", after := #[{ on := 4, ground := Ground.data }, { on := 7, ground := Ground.data }], guard := none }) rfl (fun K hK => ?_) AllReadyL.nil)
  rw [if_pos (by rfl)]
  refine wp_copyK _ _ _ 88 88 rfl _ _ rfl rfl (hcp1 _) ?_
  refine hK.out _ _ trivial (fun hHeld => ?_)
  clear hK K
  try simp only [Act.put, List.setIfInBounds_toArray, List.set_cons_zero, List.set_cons_succ]
  refine doneL (by kernel_rfl) ?_ _
  refine NoPanic.normal ?_
  have HW := Lib.hid hW3
  have HGr := Lib.hid hG3
  clear hW3 hG3 hHeld
  go_wp2_with (at_builtin; refine wpList_copyK _ rfl _ _ 88 88 rfl _ _ rfl rfl (hcp2 _) ?_)
  go_ret
  exact ⟨_, _, rfl, HW.out, HGr.out, .inl rfl⟩
theorem insert_any (base : Nat) (v : Value) (xs : List BkZ) (i : Nat) (x : BkZ) (g1 : Nat) (w : World) (ho : w.ownsRow base 98 5 v xs.length (flatK xs)) (hbase : base ≤ w.heap.size) (hx : Box w g1 [.int .u64 x.key, .int .i64 x.m.src, .int .i64 x.m.dst, .int .i64 x.m.piece, .int .i64 x.wt] 98) (hg1 : v.ownBlock ≠ some g1) (hi : i ≤ xs.length) (hl : xs.length ≤ 100000) :
    Calls Try.prog 150 #[v, .int .i64 i, .slice (some ⟨g1, 0, none⟩) 1 1] w (InsPost base v xs i x w) := by
  rcases Nat.lt_or_eq_of_le hi with hlt | rfl
  · obtain ⟨n, hn⟩ : ∃ n, xs.length = n + 1 := ⟨xs.length - 1, by omega⟩
    have ho' := ho
    rw [hn] at ho'
    obtain ⟨g, c, rfl⟩ := own_some ho' (by omega)
    rw [← hn] at ho' ⊢
    clear hn
    by_cases hc : c < xs.length + 1
    · exact ins_new base xs i x g1 g c w ho' hbase hx hl hlt hc
    · exact ins_room base xs i x g1 g c w ho' hx hl hlt (by omega) (fun e => hg1 (by rw [e]; rfl))
  · exact ins_end base v xs x g1 w ho hbase hx hl

end Go.Proofs.Ytkfaibdflbdpgaa
/- book.add. -/
namespace Go.Proofs.Ytkfaibdflbdpgaa
open Go.ChangeShapes Go.WideShapes Go.ChangeAt Go.RowKit
set_option linter.unusedVariables false

theorem Clone_bk {α : Type} (el : El α) (hk : el.k = 5) (h1 : ∀ (w : World) (x : α) (cs : List Value), el.E w x cs → ∀ u ∈ cs, u.oneCell' = true) (v : Value) (xs : List α) (w : World) (h : RdL el w v xs) (hl : xs.length ≤ 1000000) :
    Calls Try.prog 92 #[v] w (ClonedPost el 98 xs w) := by
  obtain ⟨i0, hi, hz0, hz1, hz2⟩ := info_of info_bk
  have hq := fun (w : World) (a : Option Addr) (n c : Nat) => Lib.run_eql_slice_nil (P := Try.prog) w 88 98 a n c 0 0 Try.underlying88
  have hown0 : (w.alloc (.cells #[] 98)).ownsRow w.heap.size 98 5 (.slice (some ⟨w.heap.size, 0, none⟩) 0 0) 0 [] := World.ownsRow_made w #[] 0 (Nat.le_refl _) (by unfold maxLen; omega) rfl
  obtain ⟨a, n, c, vs, rfl, hn, hvl, hone, hE, hcell⟩ := rdl_cells h1 h
  rw [hk] at hvl
  have HR := Lib.hid hE
  cases a with
  | none =>
    have hn0 : n = 0 := hcell.1 rfl
    subst hn0
    obtain rfl : xs = [] := List.length_eq_zero_iff.1 hn.symm
    clear h hl hE hcell hown0 hn hvl hone HR hi hz0 hz1 hz2
    go_enter Try.func92, Try.ntmps92
    go_wp2
    go_ret
    exact ⟨_, [], rfl, World.ownsRow_nil _ _ _ _, (fun i hi => by cases hi), Below.refl _ _⟩
  | some ad =>
    have hnews : ∀ j u, vs[j]? = some u → (w.alloc (.cells #[] 98)).cell? (ad.add j) = some u := fun j u hu => by
      have hc := hcell.2 ad rfl j u hu
      rw [World.cell?_of_block (w := w) (a := ad.add j) (Below.heap_alloc w _ _ (World.block_lt_of_cell? w _ hc))]
      exact hc
    have Hown0 := Lib.hid hown0
    have Hnews := Lib.hid hnews
    have Hil := Lib.hid hvl
    have Hone := Lib.hid hone
    have hnl : n ≤ 1000000 := by omega
    have HN := Lib.hid hn
    clear hown0 hnews hcell h hE hvl hone hl hn
    go_enter Try.func92, Try.ntmps92
    go_wp2_with (at_builtin; refine wpList_append_own _ rfl _ _ 88 rfl w.heap.size 98 i0 (.agg #[.int .u64 0, .int .i64 0, .int .i64 0, .int .i64 0, .int .i64 0]) 5 40 Try.underlying88 hi hz0 hz1 hz2 rfl (by decide) _ 0 [] rfl Hown0.out ad n c vs rfl Hil.out Hnews.out Hone.out ?c3 ?c4 ?c5 ?_)
    case c3 => unfold maxLen; omega
    case c4 => omega
    case c5 => simp
    intro v' w2 hown' hgrow _
    try simp only [Nat.zero_add, List.nil_append] at hown'
    have hb : Below w.heap.size w w2 := Below.grown ((Below.refl _ w).alloc (Nat.le_refl _) _) hgrow (by simp) (fun q hq => by simp [Value.ownBlock] at hq; omega)
    have HO := Lib.hid hown'
    have HB := Lib.hid hb
    clear hown' hgrow hb
    go_wp2
    go_ret
    exact ⟨v', vs, rfl, by rw [← HN.out, hk]; exact HO.out, fun i hi => el.mono (HR.out i hi) HB.out (Nat.le_refl _), HB.out⟩


theorem clone_bk (v : Value) (xs : List BkZ) (w : World) (h : RdL bkEl w v xs) (hl : xs.length ≤ 1000000) :
    Calls Try.prog 92 #[v] w fun e w' => ∃ v', e = .returned v' ∧ w'.ownsRow w.heap.size 98 5 v' xs.length (flatK xs) ∧ Below w.heap.size w w' := by
  refine (Clone_bk bkEl rfl bk_one v xs w h hl).mono ?_
  rintro e w' ⟨v', vs, rfl, ho, hE, hb⟩
  have e1 := flatK_of xs vs ho.1 hE
  subst e1
  exact ⟨v', rfl, ho, hb⟩
theorem flatK_wt (l : List BkZ) (i : Nat) (m : Int) (h : i < l.length) : (flatK l).set (i * 5 + 4) (.int .i64 m) = flatK (l.set i { l.getD i default with wt := m }) := by
  induction l generalizing i with
  | nil => simp at h
  | cons y t ih =>
    cases i with
    | zero => simp [flatK_cons]
    | succ i =>
      rw [show (i + 1) * 5 + 4 = i * 5 + 4 + 1 + 1 + 1 + 1 + 1 by omega, flatK_cons]
      simp only [List.set_cons_succ, flatK_cons, List.getD_cons_succ]
      rw [ih i (by simpa using h)]

theorem grown_below {w w' : World} {r : Option Nat} (h : Below w.heap.size w w') : w.grownBy w' r := ⟨h.os, h.tape, h.output, h.size, fun k hk _ => h.block k hk⟩
theorem newB {v : Value} {g n c H : Nat} (h : v.ownBlock = some g ∨ H ≤ g) : ∀ k, Value.ownBlock (.slice (some ⟨g, 0, none⟩) n c) = some k → v.ownBlock = some k ∨ H ≤ k := fun k hk => by
  obtain rfl : g = k := by simpa [Value.ownBlock] using hk
  exact h
theorem below_grownK {w w' : World} {base sz n : Nat} {e : TypeId} {v : Value} {xs : List Value} (hg : w.grownBy w' v.ownBlock) (ho : w.ownsRow base e sz v n xs) (hb : base ≤ w.heap.size) : Below base w w' := Below.grown (Below.refl _ _) hg hb (fun k hk => (ho.lt k hk).1)
set_option maxRecDepth 100000 in
set_option maxHeartbeats 4000000 in
theorem add_any (base : Nat) (v : Value) (b : List BkZ) (x : BkZ) (w : World) (ho : w.ownsRow base 98 5 v b.length (flatK b)) (hbase : base ≤ w.heap.size) (hs : SortedB b) (hw : WtB b) (hx1 : 1 ≤ x.wt) (hx2 : x.wt ≤ 1000000) (hl : b.length ≤ 100000) :
    Calls Try.prog 93 #[v, .agg #[.int .u64 x.key, .int .i64 x.m.src, .int .i64 x.m.dst, .int .i64 x.m.piece, .int .i64 x.wt]] w fun e w' => ∃ v', e = .returned v' ∧ w'.ownsRow base 98 5 v' (addZ b x).length (flatK (addZ b x)) ∧ w.grownBy w' v.ownBlock ∧ ∀ k, v'.ownBlock = some k → v.ownBlock = some k ∨ w.heap.size ≤ k := by
  have HO := Lib.hid ho
  have HS := Lib.hid hs
  have HW := Lib.hid hw
  have HBB := Lib.hid hbase
  have HOB : Hid (∀ k, v.ownBlock = some k → k < w.heap.size) := Lib.hid (fun k hk => (ho.lt k hk).2)
  obtain ⟨av, cv, rfl⟩ := own_form2 ho
  clear ho hs hw hbase
  go_enter Try.func93, Try.ntmps93
  go_upto_region 1 with (fail)
  have B0 : Box (w.alloc (.cells #[.int .u64 x.key, .int .i64 x.m.src, .int .i64 x.m.dst, .int .i64 x.m.piece, .int .i64 x.wt] 98)) (w.heap.size) [.int .u64 x.key, .int .i64 x.m.src, .int .i64 x.m.dst, .int .i64 x.m.piece, .int .i64 x.wt] 98 := (Box.new' w (w.heap.size) [.int .u64 x.key, .int .i64 x.m.src, .int .i64 x.m.dst, .int .i64 x.m.piece, .int .i64 x.wt] 98 (by simp <;> omega))
  have HB : Hid (Below w.heap.size w (w.alloc (.cells #[.int .u64 x.key, .int .i64 x.m.src, .int .i64 x.m.dst, .int .i64 x.m.piece, .int .i64 x.wt] 98))) := Lib.hid ((Below.refl w.heap.size w).alloc (Nat.le_refl _) _)
  have hz0 : w.heap.size < (w.alloc (.cells #[.int .u64 x.key, .int .i64 x.m.src, .int .i64 x.m.dst, .int .i64 x.m.piece, .int .i64 x.wt] 98)).heap.size := by simp
  generalize (w.alloc (.cells #[.int .u64 x.key, .int .i64 x.m.src, .int .i64 x.m.dst, .int .i64 x.m.piece, .int .i64 x.wt] 98)) = w0 at *
  have HX0 := Lib.hid B0
  clear B0
  have HO0 := Lib.hid (own_stays HO.out (HB.out))
  have q0 := HX0.out.cell 0 rfl
  have q1 := HX0.out.cell 1 rfl
  have q2 := HX0.out.cell 2 rfl
  have q3 := HX0.out.cell 3 rfl
  have q4 := HX0.out.cell 4 rfl
  go_wp2_with fail
  refine (bsearch_any _ b x w0 (rdK_of_own HO0.out) HS.out (by omega)).mono ?_
  rintro e w1 ⟨rfl, hb1⟩
  have HX1 := Lib.hid (HX0.out.stays hb1)
  have HO1 := Lib.hid (own_stays HO0.out hb1)
  have HL1 := Lib.hid (below_trans HB.out hb1 HB.out.size)
  have hps := (posB_spec HS.out x).1
  have hz1 := hb1.size
  clear hb1 HX0 HO0 q0 q1 q2 q3 q4
  have HA := Lib.hid (addZ_at b x)
  have HHI : Hid (hitB b x = true → posB b x < b.length) := Lib.hid (fun h => by unfold hitB at h; simp at h; exact h.1)
  have HPS : Hid (sumWt b x = { b.getD (posB b x) default with wt := min ((b.getD (posB b x) default).wt + x.wt) 1000000 }) := Lib.hid rfl
  obtain ⟨i, hi⟩ : ∃ i, posB b x = i := ⟨_, rfl⟩
  rw [hi] at HA HHI hps HPS ⊢
  clear hi
  obtain ⟨hit, hh⟩ : ∃ hit, hitB b x = hit := ⟨_, rfl⟩
  rw [hh] at HA HHI ⊢
  clear hh
  cases hit
  · have HEQ : Hid (addZ b x = insZ b i x) := Lib.hid (by rw [HA.out, if_neg (by decide)]; rfl)
    clear HA HHI HPS
    have q0 := HX1.out.cell 0 rfl
    have q1 := HX1.out.cell 1 rfl
    have q2 := HX1.out.cell 2 rfl
    have q3 := HX1.out.cell 3 rfl
    have q4 := HX1.out.cell 4 rfl
    go_wp2_with fail
    have HX2 := Lib.hid (Box.new w1 [.int .u64 x.key, .int .i64 x.m.src, .int .i64 x.m.dst, .int .i64 x.m.piece, .int .i64 x.wt] 98)
    have HO2 := Lib.hid (HO1.out.alloc (.cells #[.int .u64 x.key, .int .i64 x.m.src, .int .i64 x.m.dst, .int .i64 x.m.piece, .int .i64 x.wt] 98))
    have HL2 := Lib.hid (HL1.out.alloc HL1.out.size (.cells #[.int .u64 x.key, .int .i64 x.m.src, .int .i64 x.m.dst, .int .i64 x.m.piece, .int .i64 x.wt] 98))
    have hz2 : w1.heap.size < (w1.alloc (.cells #[.int .u64 x.key, .int .i64 x.m.src, .int .i64 x.m.dst, .int .i64 x.m.piece, .int .i64 x.wt] 98)).heap.size := by simp
    clear q0 q1 q2 q3 q4
    generalize (w1.alloc (.cells #[.int .u64 x.key, .int .i64 x.m.src, .int .i64 x.m.dst, .int .i64 x.m.piece, .int .i64 x.wt] 98)) = w2 at *
    have hbb := HBB.out
    have hls := HL1.out.size
    refine (insert_any base _ b i x w1.heap.size w2 HO2.out (by omega) HX2.out (fun e => by have := HOB.out _ e; omega) hps hl).mono ?_
    rintro e w3 ⟨g', c', rfl, ho3, hg3, hat3⟩
    have HO3 := Lib.hid ho3
    have HL3 : Hid (w.grownBy w3 (Value.ownBlock (.slice av b.length cv))) := Lib.hid (grown_trans (grown_below HL2.out) hg3)
    have HQ3 : Hid (Value.ownBlock (.slice av b.length cv) = some g' ∨ w.heap.size ≤ g') := Lib.hid (by rcases hat3 with q | q; exact .inl q; exact .inr (by omega))
    clear ho3 hg3 hat3
    go_wp2_with fail
    go_ret
    exact ⟨_, rfl, by rw [HEQ.out, ins_len b i x hps]; exact HO3.out, HL3.out, newB HQ3.out⟩
  · have hib : i < b.length := HHI.out rfl
    obtain ⟨m, hm⟩ : ∃ m, min ((b.getD i default).wt + x.wt) 1000000 = m := ⟨_, rfl⟩
    have HEQ : Hid (addZ b x = b.set i { b.getD i default with wt := m }) := Lib.hid (by rw [HA.out, if_pos rfl, HPS.out, hm])
    have hmem : b.getD i default ∈ b := by rw [List.getD_eq_getElem?_getD, List.getElem?_eq_getElem hib]; exact List.getElem_mem _
    have hyw := HW.out _ hmem
    obtain ⟨n, hn⟩ : ∃ n, b.length = n + 1 := ⟨b.length - 1, by omega⟩
    have ho' := HO1.out
    rw [hn] at ho'
    obtain ⟨g, c, hv⟩ := own_some ho' (by omega)
    rw [← hn] at hv
    simp only [Value.slice.injEq] at hv
    obtain ⟨rfl, _, rfl⟩ := hv
    have hcell := (flatK_at b i hib).2.2.2.2
    have hyc := HO1.out.cellAt (i * 5 + 4) (by omega)
    rw [hcell] at hyc
    have hfz1 := HO1.out.frozenAt (i * 5 + 4)
    have hbg : base ≤ g := (HO1.out.lt g rfl).1
    have hgl : g < w1.heap.size := (HO1.out.lt g rfl).2
    obtain ⟨y, hy⟩ : ∃ y, b.getD i default = y := ⟨_, rfl⟩
    rw [hy] at hm hyw hyc
    clear hcell hy hn ho' hmem HPS HA HHI
    have hwr : IntKind.i64.wrap (y.wt + x.wt) = y.wt + x.wt := IntWalk.i64_in _ (by omega)
    have hmin : (if (1000000 : Int) < y.wt + x.wt then 1000000 else y.wt + x.wt) = m := by rw [← hm]; split <;> omega
    have HMM := Lib.hid hm
    clear hm
    go_upto_region 4 with (fail)
    generalize w1 = wq at *
    have Bxz : Box wq.drew w.heap.size [.int .u64 x.key, .int .i64 x.m.src, .int .i64 x.m.dst, .int .i64 x.m.piece, .int .i64 x.wt] 98 := HX1.out
    have hyz : wq.drew.cell? ⟨g, i * 5 + 4, none⟩ = some (.int .i64 y.wt) := hyc
    have hfz : wq.drew.frozen? ⟨g, i * 5 + 4, none⟩ = false := hfz1
    have Oz : wq.drew.ownsRow base 98 5 (.slice (some ⟨g, 0, none⟩) b.length cv) b.length (flatK b) := HO1.out
    have Lz : Below w.heap.size w wq.drew := below_drewN HL1.out 1
    have hI0 : (0 : Int) ≤ (i : Int) := by omega
    have hIb : (i : Int) < (b.length : Int) := by omega
    clear HX1 HO1 HL1 hyc hfz1
    refine wp_region_noPanic ?_
    refine beginL (S := (fun w' => w'.cell? ⟨w.heap.size, 0, none⟩ = some (.int .u64 x.key) ∧ w'.cell? ⟨w.heap.size, 1, none⟩ = some (.int .i64 x.m.src) ∧ w'.cell? ⟨w.heap.size, 2, none⟩ = some (.int .i64 x.m.dst) ∧ w'.cell? ⟨w.heap.size, 3, none⟩ = some (.int .i64 x.m.piece) ∧ w'.cell? ⟨w.heap.size, 4, none⟩ = some (.int .i64 x.wt) ∧ w'.cell? ⟨g, i * 5 + 4, none⟩ = some (.int .i64 y.wt))) (L := [13]) (by kernel_rfl) ⟨Bxz.cell 0 rfl, Bxz.cell 1 rfl, Bxz.cell 2 rfl, Bxz.cell 3 rfl, Bxz.cell 4 rfl, hyz⟩ (fun hHeld => ?_)
    refine takeW (i := 0) (oi := { dst := some 20, op := Op.move (Operand.tmp 0), type := 88, pos := "book.go:47", after := #[], guard := none }) (v := ?va1) rfl (by kernel_rfl) (by kernel_rfl) (by kernel_rfl) rfl (fun _ _ _ h => h) (Or.inl ⟨by rfl, ?ya1⟩) (fun _ => by assumption) ?ra1
    case ya1 => (intro w _; go_simp; first | done | (with_reducible rfl))
    try simp only [Act.put, List.setIfInBounds_toArray, List.set_cons_zero, List.set_cons_succ]
    refine takeW (i := 1) (oi := { dst := some 21, op := Op.move (Operand.tmp 5), type := 3, pos := "book.go:47", after := #[], guard := none }) (v := ?va2) rfl (by kernel_rfl) (by kernel_rfl) (by kernel_rfl) rfl (fun _ _ _ h => h) (Or.inl ⟨by rfl, ?ya2⟩) (fun _ => by assumption) ?ra2
    case ya2 => (intro w _; go_simp; first | done | (with_reducible rfl))
    try simp only [Act.put, List.setIfInBounds_toArray, List.set_cons_zero, List.set_cons_succ]
    refine takeW (i := 2) (oi := { dst := some 22, op := Op.move (Operand.tmp 0), type := 88, pos := "book.go:47", after := #[], guard := none }) (v := ?va3) rfl (by kernel_rfl) (by kernel_rfl) (by kernel_rfl) rfl (fun _ _ _ h => h) (Or.inl ⟨by rfl, ?ya3⟩) (fun _ => by assumption) ?ra3
    case ya3 => (intro w _; go_simp; first | done | (with_reducible rfl))
    try simp only [Act.put, List.setIfInBounds_toArray, List.set_cons_zero, List.set_cons_succ]
    refine takeW (i := 3) (oi := { dst := some 23, op := Op.move (Operand.tmp 5), type := 3, pos := "book.go:47", after := #[], guard := none }) (v := ?va4) rfl (by kernel_rfl) (by kernel_rfl) (by kernel_rfl) rfl (fun _ _ _ h => h) (Or.inl ⟨by rfl, ?ya4⟩) (fun _ => by assumption) ?ra4
    case ya4 => (intro w _; go_simp; first | done | (with_reducible rfl))
    try simp only [Act.put, List.setIfInBounds_toArray, List.set_cons_zero, List.set_cons_succ]
    refine takeW (i := 7) (oi := { dst := some 27, op := Op.fieldAddr 98 (Operand.tmp 3) 2, type := 0, pos := "book.go:47", after := #[], guard := none }) (v := ?va5) rfl (by kernel_rfl) (by kernel_rfl) (by kernel_rfl) rfl (fun _ _ _ h => h) (Or.inl ⟨by rfl, ?ya5⟩) (fun _ => by assumption) ?ra5
    case ya5 => (intro w _; go_simp; first | done | (with_reducible rfl))
    try simp only [Act.put, List.setIfInBounds_toArray, List.set_cons_zero, List.set_cons_succ]
    refine takeW (i := 4) (oi := { dst := some 24, op := Op.indexAddr 88 (Operand.tmp 22) (Operand.tmp 23), type := 0, pos := "book.go:47", after := #[{ on := 2, ground := Ground.data }, { on := 3, ground := Ground.data }], guard := none }) (v := ?va6) rfl (by kernel_rfl) (by kernel_rfl) (by kernel_rfl) rfl (fun _ _ _ h => h) (Or.inl ⟨by rfl, ?ya6⟩) (fun _ => by assumption) ?ra6
    case ya6 => (intro w _; go_simp; first | done | (with_reducible rfl))
    try simp only [Act.put, List.setIfInBounds_toArray, List.set_cons_zero, List.set_cons_succ]
    refine takeL (i := 8) (oi := { dst := some 28, op := Op.load 3 (Operand.tmp 27), type := 3, pos := "book.go:47", after := #[{ on := 7, ground := Ground.data }], guard := none }) (v := ?va7) rfl (by kernel_rfl) (by kernel_rfl) (by kernel_rfl) (by kernel_rfl) rfl (by kernel_rfl) (by kernel_rfl) (fun _ _ _ h => h) (Or.inl ⟨by rfl, ?ya7⟩) (by assumption) ?ra7
    case ya7 => (intro w hSw; (try dsimp only at hSw); go_simp; first | done | (with_reducible rfl))
    try simp only [Act.put, List.setIfInBounds_toArray, List.set_cons_zero, List.set_cons_succ]
    refine takeW (i := 5) (oi := { dst := some 25, op := Op.fieldAddr 98 (Operand.tmp 24) 2, type := 0, pos := "book.go:47", after := #[{ on := 4, ground := Ground.data }], guard := none }) (v := ?va8) rfl (by kernel_rfl) (by kernel_rfl) (by kernel_rfl) rfl (fun _ _ _ h => h) (Or.inl ⟨by rfl, ?ya8⟩) (fun _ => by assumption) ?ra8
    case ya8 => (intro w _; go_simp; first | done | (with_reducible rfl))
    try simp only [Act.put, List.setIfInBounds_toArray, List.set_cons_zero, List.set_cons_succ]
    refine takeL (i := 6) (oi := { dst := some 26, op := Op.load 3 (Operand.tmp 25), type := 3, pos := "book.go:47", after := #[{ on := 5, ground := Ground.data }], guard := none }) (v := ?va9) rfl (by kernel_rfl) (by kernel_rfl) (by kernel_rfl) (by kernel_rfl) rfl (by kernel_rfl) (by kernel_rfl) (fun _ _ _ h => h) (Or.inl ⟨by rfl, ?ya9⟩) (by assumption) ?ra9
    case ya9 => (intro w hSw; (try dsimp only at hSw); go_simp; first | done | (with_reducible rfl))
    try simp only [Act.put, List.setIfInBounds_toArray, List.set_cons_zero, List.set_cons_succ]
    refine takeW (i := 9) (oi := { dst := some 29, op := Op.binOp BinOp.add 3 (Operand.tmp 26) (Operand.tmp 28) 3, type := 3, pos := "book.go:47", after := #[{ on := 6, ground := Ground.data }, { on := 8, ground := Ground.data }], guard := none }) (v := ?va10) rfl (by kernel_rfl) (by kernel_rfl) (by kernel_rfl) rfl (fun _ _ _ h => h) (Or.inl ⟨by rfl, ?ya10⟩) (fun _ => by assumption) ?ra10
    case ya10 => (intro w _; go_simp; first | done | (with_reducible rfl))
    try simp only [Act.put, List.setIfInBounds_toArray, List.set_cons_zero, List.set_cons_succ]
    refine takeW (i := 10) (oi := { dst := some 30, op := Op.call { callee := Callee.builtin Builtin.min, args := #[Operand.tmp 29, Operand.const (Value.int IntKind.i64 1000000)], argTypes := #[3, 3] }, type := 3, pos := "book.go:47", after := #[{ on := 9, ground := Ground.data }], guard := none }) (v := ?va11) rfl (by kernel_rfl) (by kernel_rfl) (by kernel_rfl) rfl (fun _ _ _ h => h) (Or.inl ⟨by rfl, ?ya11⟩) (fun _ => by assumption) ?ra11
    case ya11 => (intro w _; go_simp; first | done | (with_reducible rfl))
    try simp only [Act.put, List.setIfInBounds_toArray, List.set_cons_zero, List.set_cons_succ]
    refine takeW (i := 11) (oi := { dst := some 31, op := Op.indexAddr 88 (Operand.tmp 20) (Operand.tmp 21), type := 0, pos := "book.go:47", after := #[{ on := 0, ground := Ground.data }, { on := 1, ground := Ground.data }, { on := 0, ground := Ground.phase }, { on := 1, ground := Ground.phase }, { on := 2, ground := Ground.phase }, { on := 3, ground := Ground.phase }, { on := 4, ground := Ground.phase }, { on := 5, ground := Ground.phase }, { on := 6, ground := Ground.phase }, { on := 7, ground := Ground.phase }, { on := 8, ground := Ground.phase }, { on := 9, ground := Ground.phase }, { on := 10, ground := Ground.phase }], guard := none }) (v := ?va12) rfl (by kernel_rfl) (by kernel_rfl) (by kernel_rfl) rfl (fun _ _ _ h => h) (Or.inl ⟨by rfl, ?ya12⟩) (fun _ => by assumption) ?ra12
    case ya12 => (intro w _; go_simp; first | done | (with_reducible rfl))
    try simp only [Act.put, List.setIfInBounds_toArray, List.set_cons_zero, List.set_cons_succ]
    refine takeW (i := 12) (oi := { dst := some 32, op := Op.fieldAddr 98 (Operand.tmp 31) 2, type := 0, pos := "book.go:47", after := #[{ on := 11, ground := Ground.data }, { on := 0, ground := Ground.phase }, { on := 1, ground := Ground.phase }, { on := 2, ground := Ground.phase }, { on := 3, ground := Ground.phase }, { on := 4, ground := Ground.phase }, { on := 5, ground := Ground.phase }, { on := 6, ground := Ground.phase }, { on := 7, ground := Ground.phase }, { on := 8, ground := Ground.phase }, { on := 9, ground := Ground.phase }, { on := 10, ground := Ground.phase }], guard := none }) (v := ?va13) rfl (by kernel_rfl) (by kernel_rfl) (by kernel_rfl) rfl (fun _ _ _ h => h) (Or.inl ⟨by rfl, ?ya13⟩) (fun _ => by assumption) ?ra13
    case ya13 => (intro w _; go_simp; first | done | (with_reducible rfl))
    try simp only [Act.put, List.setIfInBounds_toArray, List.set_cons_zero, List.set_cons_succ]
    refine readyL (rs := [13]) (by kernel_rfl) (by simp) ?_
    refine (AllReadyL.late (o := { dst := none, op := Op.store 3 (Operand.tmp 32) (Operand.tmp 30), type := 0, pos := "book.go:47", after := #[{ on := 12, ground := Ground.data }, { on := 10, ground := Ground.data }, { on := 0, ground := Ground.phase }, { on := 1, ground := Ground.phase }, { on := 2, ground := Ground.phase }, { on := 3, ground := Ground.phase }, { on := 4, ground := Ground.phase }, { on := 5, ground := Ground.phase }, { on := 6, ground := Ground.phase }, { on := 7, ground := Ground.phase }, { on := 8, ground := Ground.phase }, { on := 9, ground := Ground.phase }, { on := 10, ground := Ground.phase }], guard := none }) rfl (by kernel_rfl) (fun K hK => ?_) AllReadyL.nil)
    have zf := hfz
    go_simp
    refine K_world ?_
    intro w9 e9
    have E9 := Lib.hid e9
    clear e9 zf
    refine hK.out _ _ ?_
    clear hK K
    try simp only [Act.put, List.setIfInBounds_toArray, List.set_cons_zero, List.set_cons_succ]
    refine doneL (by kernel_rfl) ?_ _
    refine NoPanic.normal ?_
    have HW9 : Hid (w9.ownsRow base 98 5 (.slice (some ⟨g, 0, none⟩) b.length cv) b.length (flatK (b.set i { b.getD i default with wt := m }))) := Lib.hid (by rw [E9.out, ← flatK_wt b i m hib]; exact (Oz.stored (i * 5 + 4) (.int .i64 m)).1)
    have HL9 : Hid (w.grownBy w9 (some g)) := Lib.hid (by rw [E9.out]; exact grown_trans (grown_below Lz) (setG _ ⟨g, i * 5 + 4, none⟩ _))
    clear Oz Lz Bxz hyz hfz E9 hHeld
    go_wp2_with fail
    go_ret
    exact ⟨_, rfl, by rw [HEQ.out, List.length_set]; exact HW9.out, HL9.out, fun k hk => .inl hk⟩

end Go.Proofs.Ytkfaibdflbdpgaa
/- book.Merge, sameBook. -/
namespace Go.Proofs.Ytkfaibdflbdpgaa
open Go.ChangeShapes Go.WideShapes Go.ChangeAt Go.RowKit
set_option linter.unusedVariables false

def mergeErr (a b : List BkZ) : Int := if bookErr a ≠ 0 then bookErr a else if bookErr b ≠ 0 then bookErr b else if 1000 < (foldB a b).length then 9 else 0
def MergePost (a b : List BkZ) (w : World) (e : Ending) (w' : World) : Prop :=
  (mergeErr a b ≠ 0 ∧ e = .returned (.tuple #[.slice none 0 0, .int .i64 (mergeErr a b)]) ∧ Below w.heap.size w w') ∨
  (mergeErr a b = 0 ∧ ∃ v, e = .returned (.tuple #[v, .int .i64 0]) ∧ w'.ownsRow w.heap.size 98 5 v (foldB a b).length (flatK (foldB a b)) ∧ Below w.heap.size w w')
set_option maxRecDepth 100000 in
set_option maxHeartbeats 4000000 in
theorem merge_any (va vb : Value) (xa xb : List BkZ) (w : World) (ha : RdL bkEl w va xa) (hb : RdL bkEl w vb xb) :
    Calls Try.prog 51 #[va, vb] w (MergePost xa xb w) := by
  have HA := Lib.hid ha
  have HBk := Lib.hid hb
  have HD : Hid (mergeErr xa xb = if bookErr xa ≠ 0 then bookErr xa else if bookErr xb ≠ 0 then bookErr xb else if 1000 < (foldB xa xb).length then 9 else 0) := Lib.hid rfl
  obtain ⟨aa, ca, rfl, h1, h2⟩ := ha.form
  obtain ⟨ab, cb, rfl, h3, h4⟩ := hb.form
  unfold maxLen at h2 h4
  clear ha hb
  have hi0 : ∀ w' : World, (Instr.index 144 (.agg #[.slice aa xa.length ca, .slice ab xb.length cb]) (.int .i64 0)).run Try.prog w' = .ok (.slice aa xa.length ca) w' := fun w' => by kernel_rfl
  have hi1 : ∀ w' : World, (Instr.index 144 (.agg #[.slice aa xa.length ca, .slice ab xb.length cb]) (.int .i64 1)).run Try.prog w' = .ok (.slice ab xb.length cb) w' := fun w' => by kernel_rfl
  go_enter Try.func51, Try.ntmps51
  go_wp2_with fail
  go_loopw [15, 7, 8] (fun vi vx ve wr => ∃ k : Nat, k ≤ 2 ∧ vi = .int .i64 k ∧ Hid (1 ≤ k → bookErr xa = 0) ∧ Hid (2 ≤ k → bookErr xb = 0) ∧ Hid (Below w.heap.size w wr)) (fun i _ _ _ => 2 - (intOf i).toNat)
  case atStart => exact ⟨0, by omega, rfl, Lib.hid (fun h => by omega), Lib.hid (fun h => by omega), Lib.hid (Below.refl _ _)⟩
  case round =>
    obtain ⟨k, hk, rfl, HK1, HK2, HBr⟩ := hrel
    rcases k with _ | _ | _ | k
    · go_wp2_with fail
      refine (bkCheck_any _ xa wr (HA.out.below HBr.out (Nat.le_refl _))).mono ?_
      rintro e w1 ⟨rfl, hb1⟩
      have HB1 := Lib.hid (below_trans HBr.out hb1 HBr.out.size)
      clear hb1
      by_cases he : bookErr xa = 0
      · have HE := Lib.hid he
        rw [he]
        clear he
        go_wp2_with fail
        go_roundw
        case rel => exact ⟨0 + 1, by omega, by go_num, Lib.hid (fun _ => HE.out), Lib.hid (fun h => by omega), HB1⟩
        case measure => simp [intOf]
      · have HE : Hid (mergeErr xa xb = bookErr xa) := Lib.hid (by rw [HD.out, if_pos he])
        have HNZ := Lib.hid he
        have he' : (bookErr xa != 0) = true := by simpa using he
        clear he
        go_wp2_with fail
        go_ret2
        exact .inl ⟨by rw [HE.out]; exact HNZ.out, by rw [HE.out]; rfl, HB1.out⟩
    · have HEa : Hid (bookErr xa = 0) := Lib.hid (HK1.out (by omega))
      clear HK1 HK2
      go_wp2_with fail
      refine (bkCheck_any _ xb wr (HBk.out.below HBr.out (Nat.le_refl _))).mono ?_
      rintro e w1 ⟨rfl, hb1⟩
      have HB1 := Lib.hid (below_trans HBr.out hb1 HBr.out.size)
      clear hb1
      by_cases he : bookErr xb = 0
      · have HE := Lib.hid he
        rw [he]
        clear he
        go_wp2_with fail
        go_roundw
        case rel => exact ⟨0 + 1 + 1, by omega, by go_num, Lib.hid (fun _ => HEa.out), Lib.hid (fun _ => HE.out), HB1⟩
        case measure => simp [intOf]
      · have HE : Hid (mergeErr xa xb = bookErr xb) := Lib.hid (by rw [HD.out, if_neg (by simp [HEa.out]), if_pos he])
        have HNZ := Lib.hid he
        have he' : (bookErr xb != 0) = true := by simpa using he
        clear he
        go_wp2_with fail
        go_ret2
        exact .inl ⟨by rw [HE.out]; exact HNZ.out, by rw [HE.out]; rfl, HB1.out⟩
    · have HEa : Hid (bookErr xa = 0) := Lib.hid (HK1.out (by omega))
      have HEb : Hid (bookErr xb = 0) := Lib.hid (HK2.out (by omega))
      have HSa := Lib.hid (bookErr_ok HEa.out)
      have HSb := Lib.hid (bookErr_ok HEb.out)
      have hla := HSa.out.1
      have hlb := HSb.out.1
      clear HK1 HK2 hi0 hi1
      go_wp2_with fail
      refine (clone_bk _ xa wr (HA.out.below HBr.out (Nat.le_refl _)) (by omega)).mono ?_
      rintro e w1 ⟨v', rfl, ho1, hb1⟩
      have HB1 := Lib.hid (below_trans HBr.out hb1 HBr.out.size)
      have HO1 := Lib.hid (own_base ho1 HBr.out.size)
      obtain ⟨a1, c1, rfl⟩ := own_form2 ho1
      clear ho1 hb1
      go_wp2_with fail
      go_loopw [28, 9, 11] (fun vi vo vx wr => ∃ (k : Nat) (o : Value), o = vo ∧ k ≤ xb.length ∧ vi = .int .i64 k ∧ Hid (wr.ownsRow w.heap.size 98 5 vo (foldB xa (xb.take k)).length (flatK (foldB xa (xb.take k)))) ∧ Hid (Below w.heap.size w wr)) (fun i _ _ _ => xb.length - (intOf i).toNat)
      case atStart => exact ⟨0, _, rfl, Nat.zero_le _, rfl, HO1, HB1⟩
      case round =>
        obtain ⟨k, vo, rfl, hk, rfl, HO, HBr⟩ := hrel
        by_cases hlt : k < xb.length
        · obtain ⟨g, o, rfl, hg, hcc⟩ := bks_some (HBk.out.below HBr.out (Nat.le_refl _)) (by omega)
          obtain ⟨e0, e1, e2, e3, e4⟩ := hcc k hlt
          have HT := Lib.hid (foldB_take xa xb k hlt)
          have hwt := HSb.out.2.2 (xb.getD k default) (by rw [List.getD_eq_getElem?_getD, List.getElem?_eq_getElem hlt]; exact List.getElem_mem _)
          have HSk := Lib.hid (foldB_sorted HSa.out.2.1 (xb.take k))
          have HWk := Lib.hid (foldB_wt HSa.out.2.2 (l := xb.take k) (fun z hz => HSb.out.2.2 z (List.mem_of_mem_take hz)))
          have hlk : (foldB xa (xb.take k)).length ≤ 100000 := by
            have := (foldB_len xa (xb.take k)).2
            rw [List.length_take] at this
            omega
          clear hcc
          generalize xb.getD k default = x at *
          go_upto_region 12 with (fail)
          have HX := Lib.hid (Box.new wr [.int .u64 x.key, .int .i64 x.m.src, .int .i64 x.m.dst, .int .i64 x.m.piece, .int .i64 x.wt] 98)
          have HL := Lib.hid (HBr.out.alloc HBr.out.size (.cells #[.int .u64 x.key, .int .i64 x.m.src, .int .i64 x.m.dst, .int .i64 x.m.piece, .int .i64 x.wt] 98))
          have HOx := Lib.hid (HO.out.alloc (.cells #[.int .u64 x.key, .int .i64 x.m.src, .int .i64 x.m.dst, .int .i64 x.m.piece, .int .i64 x.wt] 98))
          clear e0 e1 e2 e3 e4
          generalize (wr.alloc (.cells #[.int .u64 x.key, .int .i64 x.m.src, .int .i64 x.m.dst, .int .i64 x.m.piece, .int .i64 x.wt] 98)) = wx at *
          have q0 := HX.out.cell 0 rfl
          have q1 := HX.out.cell 1 rfl
          have q2 := HX.out.cell 2 rfl
          have q3 := HX.out.cell 3 rfl
          have q4 := HX.out.cell 4 rfl
          have hw1 := hwt.1
          have hw2 := hwt.2
          clear hwt
          go_wp2_with fail
          refine (add_any w.heap.size _ _ x wx HOx.out HL.out.size HSk.out HWk.out hw1 hw2 hlk).mono ?_
          rintro e w2 ⟨v2, rfl, ho2, hg2, -⟩
          have hb2 := below_grownK hg2 HOx.out HL.out.size
          have HO2 : Hid (w2.ownsRow w.heap.size 98 5 v2 (foldB xa (xb.take (k + 1))).length (flatK (foldB xa (xb.take (k + 1))))) := Lib.hid (by rw [HT.out]; exact ho2)
          have HL2 := Lib.hid (HL.out.trans hb2)
          clear ho2 hb2 hg2 q0 q1 q2 q3 q4
          go_wp2_with fail
          go_roundw
          case rel => exact ⟨k + 1, _, rfl, by omega, by go_num, HO2, HL2⟩
          case measure => simp [intOf]; omega
        · obtain rfl : k = xb.length := by omega
          have HOe : Hid (wr.ownsRow w.heap.size 98 5 vo (foldB xa xb).length (flatK (foldB xa xb))) := Lib.hid (by have := HO.out; rwa [List.take_of_length_le (Nat.le_refl _)] at this)
          have hlk : (foldB xa xb).length ≤ 1000000 := by
            have := (foldB_len xa xb).2
            omega
          have HE2 : Hid (mergeErr xa xb = if 1000 < (foldB xa xb).length then 9 else 0) := Lib.hid (by rw [HD.out, if_neg (by simp [HEa.out]), if_neg (by simp [HEb.out])])
          clear HO
          obtain ⟨a2, c2, rfl⟩ := own_form2 HOe.out
          obtain ⟨Fo, hFo⟩ : ∃ Fo, foldB xa xb = Fo := ⟨_, rfl⟩
          have HFo := Lib.hid hFo
          rw [hFo] at HOe HE2 hlk ⊢
          clear hFo
          go_wp2_with fail
          refine (full_any _ _ _ wr hlk).mono ?_
          rintro e w2 ⟨rfl, rfl⟩
          by_cases hbig : 1000 < Fo.length
          · have HNE : Hid (mergeErr xa xb = 9) := Lib.hid (by rw [HE2.out, if_pos hbig])
            rw [if_pos hbig]
            clear hbig
            go_wp2_with fail
            go_ret2
            exact .inl ⟨by rw [HNE.out]; decide, by rw [HNE.out]; rfl, HBr.out⟩
          · have HNE : Hid (mergeErr xa xb = 0) := Lib.hid (by rw [HE2.out, if_neg hbig])
            rw [if_neg hbig]
            clear hbig
            go_wp2_with fail
            go_ret2
            exact .inr ⟨HNE.out, _, rfl, by rw [HFo.out]; exact HOe.out, HBr.out⟩
    · omega
theorem merge_err {a b : List BkZ} : (mergeErr a b = 0) ↔ (mergeErr b a = 0) := by
  have key : ∀ a b : List BkZ, mergeErr a b = 0 → mergeErr b a = 0 := by
    intro a b h
    unfold mergeErr at h ⊢
    by_cases e1 : bookErr a = 0
    · rw [if_neg (by simp [e1])] at h
      by_cases e2 : bookErr b = 0
      · rw [if_neg (by simp [e2])] at h
        rw [if_neg (by simp [e2]), if_neg (by simp [e1]), ← mergeErr_same e1 e2]; exact h
      · rw [if_pos e2] at h; exact absurd h e2
    · rw [if_pos e1] at h; exact absurd h e1
  exact ⟨key a b, key b a⟩
theorem merge_ok {a b : List BkZ} (h : mergeErr a b = 0) : bookErr a = 0 ∧ bookErr b = 0 := by
  unfold mergeErr at h
  by_cases e1 : bookErr a = 0
  · rw [if_neg (by simp [e1])] at h
    by_cases e2 : bookErr b = 0
    · exact ⟨e1, e2⟩
    · rw [if_pos e2] at h; exact absurd h e2
  · rw [if_pos e1] at h; exact absurd h e1

theorem eqlB (x y : BkZ) (w : World) : (binOp .eql 98 (.agg #[.int .u64 x.key, .int .i64 x.m.src, .int .i64 x.m.dst, .int .i64 x.m.piece, .int .i64 x.wt]) (.agg #[.int .u64 y.key, .int .i64 y.m.src, .int .i64 y.m.dst, .int .i64 y.m.piece, .int .i64 y.wt])).run Try.prog w = .ok (.bool (decide (x = y))) w := by
  have u3 := Try.underlying3
  have a3 := Try.isAgg3
  have z3 := Try.sizeOf3
  have u6 := Try.underlying96
  have a6 := Try.isAgg96
  have z6 := Try.sizeOf96
  have um := Try.underlying42
  have am := Try.isAgg42
  have zm := Try.sizeOf42
  have hS : Try.prog.underlying 98 = some (.struct (Try.prog.fieldsOf 98)) := by kernel_rfl
  have hp : Try.prog.stoodInHeld 98 = false := by kernel_rfl
  have hSm : Try.prog.underlying 42 = some (.struct (Try.prog.fieldsOf 42)) := by kernel_rfl
  have hpm : Try.prog.stoodInHeld 42 = false := by kernel_rfl
  rw [run_eql_struct, show (10000 : Nat) = 9999 + 1 from rfl, run_equalIn_agg w 9999 98 _ _ hS hp]
  simp only [Program.fieldsOf, Try.underlying98]
  obtain ⟨x0, ⟨x1, x2, x3⟩, x4⟩ := x
  obtain ⟨y0, ⟨y1, y2, y3⟩, y4⟩ := y
  go_simp
  by_cases h0 : x0 = y0 <;> by_cases h1 : x1 = y1 <;> by_cases h2 : x2 = y2 <;> by_cases h3 : x3 = y3 <;> by_cases h4 : x4 = y4 <;> simp [h0, h1, h2, h3, h4]

theorem neqB (x y : BkZ) (w : World) : (binOp .neq 98 (.agg #[.int .u64 x.key, .int .i64 x.m.src, .int .i64 x.m.dst, .int .i64 x.m.piece, .int .i64 x.wt]) (.agg #[.int .u64 y.key, .int .i64 y.m.src, .int .i64 y.m.dst, .int .i64 y.m.piece, .int .i64 y.wt])).run Try.prog w = .ok (.bool (!decide (x = y))) w := by
  have h := eqlB x y w
  rw [run_eql_struct] at h
  rw [run_neq_struct]
  cases hh : (Op.equalIn 10000 98 (.agg #[.int .u64 x.key, .int .i64 x.m.src, .int .i64 x.m.dst, .int .i64 x.m.piece, .int .i64 x.wt]) (.agg #[.int .u64 y.key, .int .i64 y.m.src, .int .i64 y.m.dst, .int .i64 y.m.piece, .int .i64 y.wt])).run Try.prog w with
  | ok b w' => rw [hh] at h; simp only [Result.andThen_ok, Result.ok.injEq, Value.bool.injEq] at h ⊢; exact ⟨by rw [h.1], h.2⟩
  | _ => rw [hh] at h; simp [Result.andThen] at h


theorem sameBook_any (v u : Value) (xs ys : List BkZ) (w : World) (h : RdL bkEl w v xs) (h' : RdL bkEl w u ys) (hl : xs.length ≤ 1000000) :
    Calls Try.prog 52 #[v, u] w fun e w' => e = .returned (.bool (decide (xs = ys))) ∧ Below w.heap.size w w' := by
  have HR := Lib.hid h
  have HQ := Lib.hid h'
  obtain ⟨a, c, rfl, h1, h2⟩ := h.form
  obtain ⟨a', c', rfl, h1', h2'⟩ := h'.form
  unfold maxLen at h2 h2'
  clear h h'
  have hneq := neqB
  by_cases hle : xs.length = ys.length
  rotate_left
  · have HE : Hid (decide (xs = ys) = false) := Lib.hid (by simp; intro e; exact hle (by rw [e]))
    have hle' : ((xs.length : Int) != (ys.length : Int)) = true := by simp only [bne_iff_ne, ne_eq]; omega
    clear hle
    go_enter Try.func52, Try.ntmps52
    go_wp2_with fail
    go_ret
    exact ⟨by rw [HE.out]; rfl, Below.refl _ _⟩
  have hle' : ((xs.length : Int) != (ys.length : Int)) = false := by simp only [bne_eq_false_iff_eq]; omega
  have HLE := Lib.hid hle
  clear hle
  go_enter Try.func52, Try.ntmps52
  go_wp2_with fail
  go_loopw [5, 13] (fun vj vi wr => ∃ k : Nat, k ≤ xs.length ∧ vi = .int .i64 k ∧ Hid (xs.take k = ys.take k) ∧ Hid (Below w.heap.size w wr)) (fun _ i _ => xs.length - (intOf i).toNat)
  case atStart => exact ⟨0, Nat.zero_le _, rfl, Lib.hid rfl, Lib.hid (Below.refl _ _)⟩
  case round =>
    obtain ⟨k, hk, rfl, HT, HB⟩ := hrel
    by_cases hlt : k < xs.length
    · have hlt2 : k < ys.length := by have := HLE.out; omega
      obtain ⟨g, o, rfl, hg, hcc⟩ := bks_some (HR.out.below HB.out (Nat.le_refl _)) (by omega)
      obtain ⟨g', o', rfl, hg', hcc'⟩ := bks_some (HQ.out.below HB.out (Nat.le_refl _)) (by omega)
      obtain ⟨c0, c1, c2, c3, c4⟩ := hcc k hlt
      obtain ⟨d0, d1, d2, d3, d4⟩ := hcc' k hlt2
      have HS : Hid (xs.take (k + 1) = xs.take k ++ [xs.getD k default]) := Lib.hid (by rw [List.take_succ_eq_append_getElem hlt, List.getD_eq_getElem?_getD, List.getElem?_eq_getElem hlt]; rfl)
      have HS' : Hid (ys.take (k + 1) = ys.take k ++ [ys.getD k default]) := Lib.hid (by rw [List.take_succ_eq_append_getElem hlt2, List.getD_eq_getElem?_getD, List.getElem?_eq_getElem hlt2]; rfl)
      have HGd : Hid (xs = ys → xs.getD k default = ys.getD k default) := Lib.hid (fun e => by rw [e])
      clear hcc hcc'
      generalize xs.getD k default = x at *
      generalize ys.getD k default = y at *
      by_cases he : x = y
      · subst he
        go_wp2_with fail
        go_quiet (fail)
        go_wp2_with fail
        go_roundw
        case rel => exact ⟨k + 1, by omega, by go_num, Lib.hid (by rw [HS.out, HS'.out, HT.out]), Lib.hid (below_drewN HB.out _)⟩
        case measure => simp [intOf]; omega
      · have hd : decide (x = y) = false := by simpa using he
        have HE : Hid (decide (xs = ys) = false) := Lib.hid (by simp; exact fun e => he (HGd.out e))
        clear he
        go_wp2_with fail
        go_quiet (fail)
        go_wp2_with fail
        go_ret
        exact ⟨by rw [HE.out]; rfl, below_drewN HB.out _⟩
    · obtain rfl : k = xs.length := by omega
      have HE : Hid (decide (xs = ys) = true) := Lib.hid (by
        have := HT.out
        rw [List.take_of_length_le (Nat.le_refl _), List.take_of_length_le (by have := HLE.out; omega)] at this
        simpa using this)
      go_wp2_with fail
      go_ret
      exact ⟨by rw [HE.out]; rfl, HB.out⟩
end Go.Proofs.Ytkfaibdflbdpgaa
/- The contracts of zob.Mix and zob.Of: the key is a function of the position. -/
namespace Go.Proofs.Ytkfaibdflbdpgaa
open Go.ChangeShapes Go.WideShapes Go.ChangeAt Go.RowKit
set_option linter.unusedVariables false

/-- zob.Mix. -/
theorem mix_ex : ∃ f : Int → Int, ∀ (n : Int) (w : World), Calls Try.prog 151 #[.int .i64 n] w fun e w' => e = .returned (.int .u64 (f n)) ∧ w = w' := by
  refine ⟨fun n => bits BinOp.xor IntKind.u64 (IntKind.u64.wrap (bits BinOp.xor IntKind.u64 (IntKind.u64.wrap (bits BinOp.xor IntKind.u64 (IntKind.u64.wrap (IntKind.u64.wrap (IntKind.u64.wrap n + 1) * 11400714819323198485)) ((IntKind.u64.wrap (IntKind.u64.wrap (IntKind.u64.wrap n + 1) * 11400714819323198485)) / 1073741824) * 13787848793156543929)) ((IntKind.u64.wrap (bits BinOp.xor IntKind.u64 (IntKind.u64.wrap (IntKind.u64.wrap (IntKind.u64.wrap n + 1) * 11400714819323198485)) ((IntKind.u64.wrap (IntKind.u64.wrap (IntKind.u64.wrap n + 1) * 11400714819323198485)) / 1073741824) * 13787848793156543929)) / 134217728) * 10723151780598845931)) ((IntKind.u64.wrap (bits BinOp.xor IntKind.u64 (IntKind.u64.wrap (bits BinOp.xor IntKind.u64 (IntKind.u64.wrap (IntKind.u64.wrap (IntKind.u64.wrap n + 1) * 11400714819323198485)) ((IntKind.u64.wrap (IntKind.u64.wrap (IntKind.u64.wrap n + 1) * 11400714819323198485)) / 1073741824) * 13787848793156543929)) ((IntKind.u64.wrap (bits BinOp.xor IntKind.u64 (IntKind.u64.wrap (IntKind.u64.wrap (IntKind.u64.wrap n + 1) * 11400714819323198485)) ((IntKind.u64.wrap (IntKind.u64.wrap (IntKind.u64.wrap n + 1) * 11400714819323198485)) / 1073741824) * 13787848793156543929)) / 134217728) * 10723151780598845931)) / 2147483648), fun n w => ?_⟩
  go_enter Try.func151, Try.ntmps151
  go_wp2
  go_ret
  exact ⟨by rfl, rfl⟩
noncomputable def mixZ : Int → Int := Classical.choose mix_ex
theorem mix_any (n : Int) (w : World) : Calls Try.prog 151 #[.int .i64 n] w fun e w' => e = .returned (.int .u64 (mixZ n)) ∧ w = w' := Classical.choose_spec mix_ex n w
noncomputable def kcZ (cs : List Int) : Nat → Int
  | 0 => 0
  | k + 1 => if cs.getD k 0 = 0 then kcZ cs k else IntKind.u64.wrap (kcZ cs k + mixZ (16 * (k : Int) + cs.getD k 0))
noncomputable def khZ (pl : Int) (hs : List Int) (s : Int) : Nat → Int
  | 0 => s
  | k + 1 => IntKind.u64.wrap (khZ pl hs s k + IntKind.u64.wrap (mixZ (pl + (k : Int)) * IntKind.u64.wrap (hs.getD k 0)))
theorem khZ_succ (pl : Int) (hs : List Int) (s : Int) (k : Nat) : khZ pl hs s (k + 1) = IntKind.u64.wrap (khZ pl hs s k + IntKind.u64.wrap (mixZ (pl + (k : Int)) * IntKind.u64.wrap (hs.getD k 0))) := rfl
theorem kcZ_zero (cs : List Int) (k : Nat) (h : cs.getD k 0 = 0) : kcZ cs (k + 1) = kcZ cs k := by rw [kcZ, if_pos h]
theorem kcZ_succ (cs : List Int) (k : Nat) (h : ¬ cs.getD k 0 = 0) : kcZ cs (k + 1) = IntKind.u64.wrap (kcZ cs k + mixZ (16 * (k : Int) + cs.getD k 0)) := by rw [kcZ, if_neg h]
noncomputable def keyA (p : PosZ) : Int := kcZ p.cells p.cells.length
noncomputable def keyB (p : PosZ) : Int := khZ 2000 p.h0 (keyA p) p.h0.length
noncomputable def keyC (p : PosZ) : Int := khZ 2008 p.h1 (keyB p) p.h1.length
noncomputable def keyZ (p : PosZ) : Int := if p.turn = 1 then IntKind.u64.wrap (keyC p + mixZ 3000) else keyC p
set_option maxRecDepth 100000 in
set_option maxHeartbeats 4000000 in
theorem of_any (p : PosZ) (vc v0 v1 : Value) (w : World) (hp : RdP w p vc v0 v1) (hl : p.cells.length ≤ 64) (hl0 : p.h0.length ≤ 64) (hl1 : p.h1.length ≤ 64) (hcb : ∀ c ∈ p.cells, 0 ≤ c ∧ c ≤ 1000) :
    Calls Try.prog 94 #[(.agg #[vc, v0, v1, .int .i64 p.turn, .int .i64 p.quiet])] w fun e w' => e = .returned (.int .u64 (keyZ p)) ∧ Below w.heap.size w w' := by
  have HP := Lib.hid hp
  have HCB := Lib.hid hcb
  have HK : Hid (keyZ p = if p.turn = 1 then IntKind.u64.wrap (keyC p + mixZ 3000) else keyC p) := Lib.hid rfl
  obtain ⟨ac, cc, rfl, -, -⟩ := hp.1.form
  obtain ⟨a0, c0, rfl, -, -⟩ := hp.2.1.form
  obtain ⟨a1, c1, rfl, -, -⟩ := hp.2.2.form
  clear hp hcb
  have hi0 : ∀ w' : World, (Instr.index 35 (.agg #[.slice a0 p.h0.length c0, .slice a1 p.h1.length c1]) (.int .i64 0)).run Try.prog w' = .ok (.slice a0 p.h0.length c0) w' := fun w' => by kernel_rfl
  have hi1 : ∀ w' : World, (Instr.index 35 (.agg #[.slice a0 p.h0.length c0, .slice a1 p.h1.length c1]) (.int .i64 1)).run Try.prog w' = .ok (.slice a1 p.h1.length c1) w' := fun w' => by kernel_rfl
  go_enter Try.func94, Try.ntmps94
  go_upto_region 1 with (fail)
  have B0 : Box (w.alloc (.cells #[.slice ac p.cells.length cc, .slice a0 p.h0.length c0, .slice a1 p.h1.length c1, .int .i64 p.turn, .int .i64 p.quiet] 37)) (w.heap.size) [.slice ac p.cells.length cc, .slice a0 p.h0.length c0, .slice a1 p.h1.length c1, .int .i64 p.turn, .int .i64 p.quiet] 37 := (Box.new' w (w.heap.size) [.slice ac p.cells.length cc, .slice a0 p.h0.length c0, .slice a1 p.h1.length c1, .int .i64 p.turn, .int .i64 p.quiet] 37 (by simp <;> omega))
  have HB : Hid (Below w.heap.size w (w.alloc (.cells #[.slice ac p.cells.length cc, .slice a0 p.h0.length c0, .slice a1 p.h1.length c1, .int .i64 p.turn, .int .i64 p.quiet] 37))) := Lib.hid ((Below.refl w.heap.size w).alloc (Nat.le_refl _) _)
  have hz0 : w.heap.size < (w.alloc (.cells #[.slice ac p.cells.length cc, .slice a0 p.h0.length c0, .slice a1 p.h1.length c1, .int .i64 p.turn, .int .i64 p.quiet] 37)).heap.size := by simp
  generalize (w.alloc (.cells #[.slice ac p.cells.length cc, .slice a0 p.h0.length c0, .slice a1 p.h1.length c1, .int .i64 p.turn, .int .i64 p.quiet] 37)) = w0 at *
  have HPw := Lib.hid (HP.out.below HB.out (Nat.le_refl _))
  have HC := Lib.hid HPw.out.1
  have H0 := Lib.hid HPw.out.2.1
  have H1 := Lib.hid HPw.out.2.2
  have q0 := B0.cell 0 rfl
  have q1 := B0.cell 1 rfl
  have q2 := B0.cell 2 rfl
  have q3 := B0.cell 3 rfl
  clear HPw B0 HP
  go_wp2_with fail
  go_loop [13, 3, 4, 5] (fun vi vo a1 a2 => ∃ k : Nat, k ≤ p.cells.length ∧ vi = .int .i64 k ∧ vo = .int .u64 (kcZ p.cells k)) (fun i _ _ _ => p.cells.length - (intOf i).toNat)
  case atStart => exact ⟨0, Nat.zero_le _, rfl, rfl⟩
  case round =>
    obtain ⟨k, hk, rfl, rfl⟩ := hrel
    by_cases hlt : k < p.cells.length
    · obtain ⟨g, o, rfl, hcc⟩ := cells_rd HC.out (by omega)
      have ck := hcc k hlt
      have hcb := HCB.out (p.cells.getD k 0) (by rw [List.getD_eq_getElem?_getD, List.getElem?_eq_getElem hlt]; exact List.getElem_mem _)
      have HS0 := Lib.hid (kcZ_zero p.cells k)
      have HS1 := Lib.hid (kcZ_succ p.cells k)
      clear hcc
      obtain ⟨c, hc⟩ : ∃ c, p.cells.getD k 0 = c := ⟨_, rfl⟩
      rw [hc] at ck hcb HS0 HS1
      clear hc
      obtain ⟨S, hS⟩ : ∃ S, kcZ p.cells k = S := ⟨_, rfl⟩
      rw [hS] at HS0 HS1 ⊢
      clear hS
      by_cases hc0 : c = 0
      · have HE := Lib.hid (HS0.out hc0)
        subst hc0
        clear HS0 HS1
        go_wp2_with fail
        go_round
        case rel => exact ⟨k + 1, by omega, by go_num, by rw [HE.out]⟩
        case measure => simp [intOf]; omega
      · have HE := Lib.hid (HS1.out hc0)
        have hc0' : (c != 0) = true := by simpa using hc0
        have hw1 : IntKind.i64.wrap (16 * (k : Int)) = 16 * (k : Int) := IntWalk.i64_in _ (by omega)
        have hw2 : IntKind.i64.wrap (16 * (k : Int) + c) = 16 * (k : Int) + c := IntWalk.i64_in _ (by omega)
        clear HS0 HS1 hc0
        go_wp2_with (go_at_call 151; refine (mix_any _ _).mono ?_; rintro e w' ⟨rfl, rfl⟩)
        go_round
        case rel => exact ⟨k + 1, by omega, by go_num, by rw [HE.out]⟩
        case measure => simp [intOf]; omega
    · obtain rfl : k = p.cells.length := by omega
      clear HCB
      go_wp2_with fail
      go_loop [30, 3, 6, 7, 8, 9] (fun vi vo a1 a2 a3 a4 => ∃ k : Nat, k ≤ 2 ∧ vi = .int .i64 k ∧ vo = .int .u64 (if k = 0 then keyA p else if k = 1 then keyB p else keyC p)) (fun i _ _ _ _ _ => 2 - (intOf i).toNat)
      case atStart => exact ⟨0, by omega, rfl, rfl⟩
      case round =>
        obtain ⟨k, hk, rfl, rfl⟩ := hrel
        rcases k with _ | _ | _ | k
        · skip
          go_wp2_with fail
          go_loop [36, 3, 8, 9] (fun vi vo a1 a2 => ∃ k : Nat, k ≤ p.h0.length ∧ vi = .int .i64 k ∧ vo = .int .u64 (khZ 2000 p.h0 (keyA p) k)) (fun i _ _ _ => p.h0.length - (intOf i).toNat)
          case atStart => exact ⟨0, Nat.zero_le _, rfl, rfl⟩
          case round =>
            obtain ⟨k, hk, rfl, rfl⟩ := hrel
            by_cases hlt : k < p.h0.length
            · obtain ⟨g, o, rfl, hcc⟩ := cells_rd H0.out (by omega)
              have cc := hcc k hlt
              have HS := Lib.hid (khZ_succ 2000 p.h0 (keyA p) k)
              clear hcc
              obtain ⟨c, hc⟩ : ∃ c, p.h0.getD k 0 = c := ⟨_, rfl⟩
              rw [hc] at cc HS
              clear hc
              have hw1 : IntKind.i64.wrap (2000 + (k : Int)) = 2000 + (k : Int) := IntWalk.i64_in _ (by omega)
              obtain ⟨S, hS⟩ : ∃ S, khZ 2000 p.h0 (keyA p) k = S := ⟨_, rfl⟩
              rw [hS] at HS ⊢
              clear hS
              go_wp2_with (go_at_call 151; refine (mix_any _ _).mono ?_; rintro e w' ⟨rfl, rfl⟩)
              go_round
              case rel => exact ⟨k + 1, by omega, by go_num, by rw [HS.out]⟩
              case measure => simp [intOf]; omega
            · obtain rfl : k = p.h0.length := by omega
              go_wp2_with fail
              go_round
              case rel => exact ⟨0 + 1, by omega, by go_num, by rfl⟩
              case measure => simp [intOf]
        · skip
          go_wp2_with fail
          go_loop [36, 3, 8, 9] (fun vi vo a1 a2 => ∃ k : Nat, k ≤ p.h1.length ∧ vi = .int .i64 k ∧ vo = .int .u64 (khZ 2008 p.h1 (keyB p) k)) (fun i _ _ _ => p.h1.length - (intOf i).toNat)
          case atStart => exact ⟨0, Nat.zero_le _, rfl, rfl⟩
          case round =>
            obtain ⟨k, hk, rfl, rfl⟩ := hrel
            by_cases hlt : k < p.h1.length
            · obtain ⟨g, o, rfl, hcc⟩ := cells_rd H1.out (by omega)
              have cc := hcc k hlt
              have HS := Lib.hid (khZ_succ 2008 p.h1 (keyB p) k)
              clear hcc
              obtain ⟨c, hc⟩ : ∃ c, p.h1.getD k 0 = c := ⟨_, rfl⟩
              rw [hc] at cc HS
              clear hc
              have hw1 : IntKind.i64.wrap (2008 + (k : Int)) = 2008 + (k : Int) := IntWalk.i64_in _ (by omega)
              obtain ⟨S, hS⟩ : ∃ S, khZ 2008 p.h1 (keyB p) k = S := ⟨_, rfl⟩
              rw [hS] at HS ⊢
              clear hS
              go_wp2_with (go_at_call 151; refine (mix_any _ _).mono ?_; rintro e w' ⟨rfl, rfl⟩)
              go_round
              case rel => exact ⟨k + 1, by omega, by go_num, by rw [HS.out]⟩
              case measure => simp [intOf]; omega
            · obtain rfl : k = p.h1.length := by omega
              go_wp2_with fail
              go_round
              case rel => exact ⟨0 + 1 + 1, by omega, by go_num, by rfl⟩
              case measure => simp [intOf]
        · by_cases ht : p.turn = 1
          · have HE : Hid (keyZ p = IntKind.u64.wrap (keyC p + mixZ 3000)) := Lib.hid (by rw [HK.out, if_pos ht])
            have htb : (p.turn == 1) = true := by simpa using ht
            clear ht
            go_wp2_with (go_at_call 151; refine (mix_any _ _).mono ?_; rintro e w' ⟨rfl, rfl⟩)
            go_ret
            exact ⟨by rw [HE.out]; rfl, HB.out⟩
          · have HE : Hid (keyZ p = keyC p) := Lib.hid (by rw [HK.out, if_neg ht])
            have htb : (p.turn == 1) = false := by simpa using ht
            clear ht
            go_wp2_with fail
            go_ret
            exact ⟨by rw [HE.out]; rfl, HB.out⟩
        · omega

end Go.Proofs.Ytkfaibdflbdpgaa

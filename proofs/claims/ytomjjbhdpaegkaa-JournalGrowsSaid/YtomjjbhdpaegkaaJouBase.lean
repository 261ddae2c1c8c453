/- The journal, plainly; the contracts of the law's own helpers journals and written; a slice of strings opened. -/
import Derived.Test.YtomjjbhdpaegkaaJouEq
import Derived.Test.YtomjjbhdpaegkaaFrame
import Derived.Deep.Strs
import Derived.ChangeMaps5
namespace Go.Proofs.Ytomjjbhdpaegkaa
open Go.ChangeShapes Go.WideShapes Go.ChangeAt Go.RowKit
set_option linter.unusedVariables false

theorem bytes_eq {a b : ByteArray} (h : a.toList = b.toList) : a = b := by
  rw [ByteArray.toList_eq, ByteArray.toList_eq] at h
  obtain ⟨⟨x⟩⟩ := a
  obtain ⟨⟨y⟩⟩ := b
  simp only at h
  subst h
  rfl
theorem eqE_refl (x : EntZ) : eqE x x = true := by simp [eqE]
theorem eqJ_refl : ∀ l : List EntZ, eqJ l l = true
  | [] => rfl
  | x :: t => by rw [eqJ, eqE_refl, eqJ_refl t]; rfl
theorem eqJ_snoc (l : List EntZ) (x y : EntZ) : eqJ (l ++ [x]) (l ++ [y]) = eqE x y := by
  induction l with
  | nil => simp [eqJ]
  | cons e t ih => rw [List.cons_append, List.cons_append, eqJ, eqE_refl, ih]; rfl
theorem ext_self (l : List EntZ) (x : EntZ) : extJ (l ++ [x]) l = true := by
  unfold extJ
  rw [List.take_left, eqJ_refl]
  simp
theorem ext_two (l : List EntZ) (x y : EntZ) : extJ (l ++ [x]) (l ++ [y]) = eqE x y := by
  unfold extJ
  rw [List.take_of_length_le (by simp), eqJ_snoc]
  simp
theorem text_size {s : ByteArray} (h : textE s = 0) : s.size ≤ 200 := by
  unfold textE at h
  split at h
  · cases h
  · omega
theorem OkJ_nil : OkJ [] := ⟨by simp, fun k h => by simp at h⟩
theorem OkJ_snoc {es : List EntZ} {s : ByteArray} (h : OkJ es) (ht : textE s = 0) : OkJ (es ++ [⟨s, sumZ (lastZ es) s⟩]) := by
  refine ⟨fun e he => ?_, fun k hk => ?_⟩
  · rcases List.mem_append.1 he with q | q
    · exact h.1 e q
    · simp at q; subst q; exact text_size ht
  · rcases Nat.lt_or_ge k es.length with q | q
    · rw [List.take_append_of_le_length (by omega), List.getElem_append_left q]
      exact h.2 k q
    · have : k = es.length := by simp at hk; omega
      subst this
      rw [List.take_left, List.getElem_append_right (by omega)]
      simp [wrongE, ht]
def wrJ (l : List EntZ) (t : ByteArray) : List EntZ := if textE t = 0 then l ++ [⟨t, sumZ (lastZ l) t⟩] else l
def writtenTo (ss : List ByteArray) (k : Nat) : List EntZ := (ss.take k).foldl wrJ []
theorem writtenTo_succ (ss : List ByteArray) (k : Nat) (h : k < ss.length) : writtenTo ss (k + 1) = wrJ (writtenTo ss k) ss[k] := by
  unfold writtenTo; rw [List.take_succ_eq_append_getElem h, List.foldl_append]; rfl
theorem writtenTo_ok (ss : List ByteArray) (k : Nat) : OkJ (writtenTo ss k) ∧ (writtenTo ss k).length ≤ k := by
  induction k with
  | zero => exact ⟨OkJ_nil, by simp [writtenTo]⟩
  | succ k ih =>
    by_cases h : k < ss.length
    · rw [writtenTo_succ ss k h]
      unfold wrJ
      split
      · rename_i ht
        exact ⟨OkJ_snoc ih.1 ht, by simp; omega⟩
      · exact ⟨ih.1, by omega⟩
    · have e : writtenTo ss (k + 1) = writtenTo ss k := by
        unfold writtenTo; rw [List.take_of_length_le (by omega), List.take_of_length_le (by omega)]
      rw [e]
      exact ⟨ih.1, by omega⟩

theorem RdJ.of_own {w : World} {b : Nat} {v : Value} {es : List EntZ} (h : w.ownsRow b 34 2 v es.length (flatJ es)) : RdJ w v es := Rd.of_own h
theorem own_staysJ {w w' : World} {b : Nat} {e : TypeId} {sz n : Nat} {v : Value} {xs : List Value} (h : w.ownsRow b e sz v n xs) (hb : Below w.heap.size w w') : w'.ownsRow b e sz v n xs :=
  h.kept (row := none) ⟨hb.os, hb.tape, hb.output, hb.size, fun k hk _ => hb.block k hk⟩ (by rcases h.2 with ⟨rfl, _⟩ | ⟨g, c, cur, rfl, _⟩ <;> simp [Value.ownBlock])

theorem journals_any (w : World) : Calls Try.prog 4 #[] w fun e w' => e = .returned (.bool true) ∧ Below w.heap.size w w' := by
  have h0 : appJ [] ⟨#[97]⟩ = ([⟨⟨#[97]⟩, sumZ 0 ⟨#[97]⟩⟩], 0) := by
    have : textE ⟨#[97]⟩ = 0 := by decide +kernel
    unfold appJ; rw [if_neg (by simp [this])]; rfl
  have hz : (sumZ 0 ⟨#[97]⟩ != 0) = true := by decide +kernel
  have HA := Lib.hid (Append_ok (.slice none 0 0) [] ⟨#[97]⟩ w (Rd.nil _ _) OkJ_nil (by simp) (by decide))
  rw [h0] at HA
  generalize sumZ 0 ⟨#[97]⟩ = z at *
  clear h0
  go_enter Try.func4, Try.ntmps4
  go_wp2_with fail
  refine HA.out.mono ?_
  rintro e w1 ⟨v, rfl, ho, hb⟩
  obtain ⟨a, c, rfl, _, _, hc⟩ := (RdJ.of_own ho).form
  obtain ⟨g, o, rfl, hg, c0, c1⟩ := hc 0 (by simp)
  simp only [List.getElem_cons_zero, Nat.zero_mul, Nat.add_zero] at c0 c1
  simp only [List.length_cons, List.length_nil]
  clear hc ho
  go_wp2_with fail
  go_ret
  exact ⟨rfl, hb⟩

/-! ### texts -/
def strs (ss : List ByteArray) : List Value := ss.map Value.string
def RdS (w : World) (v : Value) (ss : List ByteArray) : Prop := Rd w 1 ss.length v (strs ss)
theorem elemS : Try.prog.underlying 22 = some (.slice (Try.prog.elem 22)) := by kernel_rfl
theorem sizeS (w : World) : (sizeOf (Try.prog.elem 22)).run Try.prog w = .ok 1 w := by kernel_rfl
theorem RdS.form {w : World} {v : Value} {ss : List ByteArray} (h : RdS w v ss) : ∃ a c, v = .slice a ss.length c ∧ ss.length ≤ c ∧ c ≤ maxLen ∧ ∀ k (hk : k < ss.length), ∃ g o, a = some ⟨g, o, none⟩ ∧ g < w.heap.size ∧ w.cell? ⟨g, o + k, none⟩ = some (.string ss[k]) := by
  rcases h.2 with ⟨h, hz⟩ | ⟨g, o, c, h', h1, h2, hc⟩
  · exact ⟨none, 0, by rw [h, hz], by omega, by unfold maxLen; omega, fun k hk => by omega⟩
  · refine ⟨_, _, h', h1, h2, fun k hk => ⟨g, o, rfl, ?_⟩⟩
    have e0 : w.cell? ⟨g, o + k, none⟩ = some (.string ss[k]) := by
      rw [hc k (by omega)]
      simp [strs, List.getElem?_eq_getElem hk]
    exact ⟨World.block_lt_of_cell? w _ e0, e0⟩
theorem minN (a : Nat) (b : Int) (hb : 0 ≤ b) : ∃ m : Nat, (if b < (a : Int) then b else (a : Int)) = (m : Int) ∧ m ≤ a ∧ (m : Int) ≤ b := by
  by_cases h : b < a
  · exact ⟨b.toNat, by rw [if_pos (by omega)]; omega, by omega, by omega⟩
  · exact ⟨a, by rw [if_neg (by omega)], by omega, by omega⟩

set_option maxHeartbeats 1000000 in
theorem written_any (v : Value) (ss : List ByteArray) (w : World) (h : RdS w v ss) (hsz : ∀ s ∈ ss, s.size ≤ maxLen) :
    Calls Try.prog 5 #[v] w fun e w' => ∃ v' es, e = .returned v' ∧ OkJ es ∧ es.length ≤ 20 ∧ OwnJ es w v' w' := by
  obtain ⟨a, c, rfl, h1, h2, hc⟩ := h.form
  obtain ⟨L, hL, l1, l2⟩ := minN ss.length 20 (by omega)
  unfold maxLen at h2 hsz
  have HC := Lib.hid hc
  have HZ := Lib.hid hsz
  have hsl := fun w => run_takeAt elemS sizeS a ss.length c L (by omega) w
  clear h hc hsz
  go_enter Try.func5, Try.ntmps5
  go_wp2_with fail
  clear hL hsl
  go_loopw [3, 14] (fun vl i wr => ∃ k : Nat, k ≤ L ∧ i = .int .i64 k ∧ Hid (wr.ownsRow w.heap.size 34 2 vl (writtenTo ss k).length (flatJ (writtenTo ss k))) ∧ Below w.heap.size w wr) (fun _ i _ => L - (intOf i).toNat)
  case atStart => exact ⟨0, Nat.zero_le _, rfl, Lib.hid (World.ownsRow_nil _ _ _ _), Below.refl _ _⟩
  case round =>
    obtain ⟨k, hk, rfl, HO, hbl⟩ := hrel
    obtain ⟨hok, hol⟩ := writtenTo_ok ss k
    have HK := Lib.hid hok
    clear hok
    by_cases hlt : k < L
    · obtain ⟨g, o, rfl, hg, c0⟩ := HC.out k (by omega)
      have d0 : wr.cell? ⟨g, o + k, none⟩ = some (.string (ss[k]'(by omega))) := (hbl.cell (p := ⟨g, o + k, none⟩) hg).trans c0
      have hs := HZ.out (ss[k]'(by omega)) (List.getElem_mem _)
      have HS := Lib.hid (writtenTo_succ ss k (by omega))
      have HWd : Hid (∀ l t, wrJ l t = if textE t = 0 then l ++ [⟨t, sumZ (lastZ l) t⟩] else l) := Lib.hid (fun _ _ => rfl)
      clear c0
      generalize (ss[k]'(by omega)) = t at *
      generalize writtenTo ss k = l at *
      have HA := Lib.hid (Append_ok _ l t wr (RdJ.of_own HO.out) HK.out (by omega) (by omega))
      have HAJ : Hid (appJ l t = if textE t ≠ 0 then ([], textE t) else (l ++ [⟨t, sumZ (lastZ l) t⟩], 0)) := Lib.hid rfl
      have hszr := hbl.size
      cases ht : (textE t == 0)
      · have ht' : ¬ textE t = 0 := by simpa using ht
        rw [HAJ.out, if_pos ht'] at HA
        rw [HWd.out, if_neg ht'] at HS
        clear HAJ ht' HWd
        generalize textE t = te at *
        go_wp2_with fail
        refine HA.out.mono ?_
        rintro e w1 ⟨v1, rfl, ho1, hb1⟩
        have HO1 := Lib.hid (own_staysJ HO.out hb1)
        have hb2 := hbl.trans (hb1.mono hbl.size)
        clear ho1 hb1 HO hbl
        go_wp2_with fail
        go_roundw
        case rel => exact ⟨k + 1, by omega, by go_num, Lib.hid (by rw [HS.out]; exact HO1.out), hb2⟩
        case measure => simp [intOf]; omega
      · have ht' : textE t = 0 := by simpa using ht
        rw [HAJ.out, if_neg (by simpa using ht')] at HA
        rw [HWd.out, if_pos ht'] at HS
        clear HAJ ht' ht HWd
        go_wp2_with fail
        refine HA.out.mono ?_
        rintro e w1 ⟨v1, rfl, ho1, hb1⟩
        have HO1 : Hid (w1.ownsRow w.heap.size 34 2 v1 (l ++ [(⟨t, sumZ (lastZ l) t⟩ : EntZ)]).length (flatJ (l ++ [(⟨t, sumZ (lastZ l) t⟩ : EntZ)]))) := Lib.hid (by
          refine ⟨ho1.1, ?_⟩
          rcases ho1.2 with q | ⟨g', c', cur, q1, q2, q3⟩
          · exact .inl q
          · exact .inr ⟨g', c', cur, q1, by omega, q3⟩)
        have hb2 := hbl.trans (hb1.mono hbl.size)
        clear ho1 hb1 HO hbl
        go_wp2_with fail
        go_roundw
        case rel => exact ⟨k + 1, by omega, by go_num, Lib.hid (by rw [HS.out]; exact HO1.out), hb2⟩
        case measure => simp [intOf]; omega
    · obtain rfl : k = L := by omega
      go_wp2_with fail
      go_ret
      exact ⟨_, _, rfl, HK.out, by omega, HO.out, hbl⟩

section
variable {H : Type} {enc : TypeId × Value → H} {P : Program} {W : World} {r : Reach} {base : Nat} {t e : TypeId} {v : Value} {d : DataW H} {p : List MemPlace}
theorem okWide_spot (hu : P.underlying t = some (.slice e)) (hv : Value.okWide P W r base t v) : (∃ c, v = .slice none 0 0 ∧ c = 0) ∨ ∃ g o len cap, v = .slice (some ⟨g, o, none⟩) len cap := by
  simp only [Value.okWide, hu, Cell.okWide, Cell.ok] at hv
  split at hv <;> simp_all
  rename_i a len cap _
  obtain ⟨g, o, s⟩ := a
  have := hv.2.2.2.1
  simp at this
  subst this
  exact ⟨g, o, rfl⟩
theorem open_RdS (hu : P.underlying t = some (.slice e)) (he : P.underlying e = some .string) (hc : P.cellsOf e = 1) (hv : Value.okWide P W r base t v)
    (h : DataW.Trod enc P W 0 (fun _ => true) true t v d p) : ∃ ss, RdS W v ss ∧ ∀ s ∈ ss, s.size ≤ maxLen := by
  obtain ⟨fuel, hf⟩ := h
  rcases okWide_spot hu hv with ⟨_, rfl, _⟩ | ⟨g, o, len, cap, rfl⟩
  · exact ⟨[], Rd.nil _ _, by simp⟩
  · rcases Deep.open_slice1 hu hc hf with ⟨hcs, _⟩ | ⟨a, len', cap', m, n, V, D, Pl, hcs, _, hl, hm, hmm, _, hx⟩
    · simp [Value.cells] at hcs
    · simp [Value.cells] at hcs
      obtain ⟨rfl, rfl, rfl⟩ := hcs
      simp only [if_true] at hmm
      have hS : ∀ i, i < len → ∃ s : ByteArray, W.cell? ⟨g, o + i, none⟩ = some (.string s) ∧ s.size ≤ maxLen := fun i hi => by
        obtain ⟨q1, q2⟩ := hx i (by omega)
        rw [add_off] at q1
        obtain ⟨s, hs, _, hsz⟩ := DataW.trod_string he q2
        simp at hs
        exact ⟨s, by rw [q1, hs], hsz⟩
      refine ⟨(List.range len).map fun i => match W.cell? ⟨g, o + i, none⟩ with | some (.string s) => s | _ => ByteArray.empty, ⟨by simp [strs], .inr ⟨g, o, cap, by simp, by simpa using hl, hm, fun i hi => ?_⟩⟩, fun s hs => ?_⟩
      · have hi' : i < len := by simp at hi; omega
        obtain ⟨s, q, _⟩ := hS i hi'
        rw [q]
        simp [strs, hi', q]
      · obtain ⟨i, hi, rfl⟩ := List.mem_map.1 hs
        obtain ⟨s, q, hq⟩ := hS i (List.mem_range.1 hi)
        rw [q]
        exact hq
end
end Go.Proofs.Ytomjjbhdpaegkaa

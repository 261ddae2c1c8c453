/- Slices of integers: lists of cells; the library's Clone, IndexFunc and ContainsFunc at []int. -/
import Derived.Test.YtgbedogdikflcaaRows
import Derived.Test.YtgbedogdikflcaaRd
import Derived.WalkKit
import Derived.ProofKit
import Derived.OpenShut
import Derived.LoopTactic
import Derived.Outline
import Derived.Lib.Hide
import Derived.Handy
import Derived.WalkSpells
import Derived.WalkSmall
namespace Go.Proofs.Ytgbedogdikflcaa
open Go.ChangeShapes Go.WideShapes Go.ChangeAt Go.RowKit
set_option linter.unusedVariables false

theorem info3 : (Try.prog.info? 3).map (fun i => (i.zero, i.size, i.bytes)) = some (some (.int .i64 0), 1, 8) := by kernel_rfl
def ints (l : List Int) : List Value := l.map (Value.int .i64)
theorem ints_len (l : List Int) : (ints l).length = l.length := by simp [ints]
theorem ints_get (l : List Int) (i : Nat) (h : i < l.length) : (ints l)[i]? = some (.int .i64 (l.getD i 0)) := by
  simp [ints, List.getD, List.getElem?_eq_getElem h]
theorem ints_cell1 (l : List Int) : ∀ u ∈ ints l, u.oneCell' = true := by
  intro u hu
  simp only [ints, List.mem_map] at hu
  obtain ⟨a, _, rfl⟩ := hu
  rfl
theorem made_ints (n : Nat) : (madeCells (Value.cells (.int .i64 0)) (n * 1)).toList = ints (List.replicate n 0) := by
  apply List.ext_getElem
  · simp [madeCells, ints]
  · intro i h1 h2
    simp [madeCells, ints, Value.cells, Nat.mod_one]
theorem ints_set (l : List Int) (i : Nat) (d : Int) : (ints l).set i (.int .i64 d) = ints (l.set i d) := by
  unfold ints; rw [List.map_set]

/-- a slice of integers that is read. -/
def RdI (w : World) (v : Value) (zs : List Int) : Prop := Rd w 1 zs.length v (ints zs)
theorem RdI.below {w w' : World} {v : Value} {zs : List Int} {B : Nat} (h : RdI w v zs) (hb : Below B w w') (hB : w.heap.size ≤ B) : RdI w' v zs := Rd.below h hb hB
theorem RdI.form {w : World} {v : Value} {zs : List Int} (h : RdI w v zs) : ∃ a c, v = .slice a zs.length c ∧ zs.length ≤ c ∧ c ≤ maxLen := by
  rcases h.2 with ⟨h, hz⟩ | ⟨g, o, c, h, h1, h2, _⟩
  · exact ⟨none, 0, by rw [h, hz], by omega, by unfold maxLen; omega⟩
  · exact ⟨_, _, h, h1, h2⟩
theorem RdI.some {w : World} {v : Value} {zs : List Int} (h : RdI w v zs) (hn : 0 < zs.length) : ∃ g o c, v = .slice (some ⟨g, o, none⟩) zs.length c ∧ zs.length ≤ c ∧ c ≤ maxLen ∧ g < w.heap.size ∧ ∀ i, i < zs.length → w.cell? ⟨g, o + i, none⟩ = some (.int .i64 (zs.getD i 0)) := by
  rcases h.2 with ⟨h, hz⟩ | ⟨g, o, c, h', h1, h2, hc⟩
  · omega
  · refine ⟨g, o, c, h', h1, h2, ?_, fun i hi => ?_⟩
    · have := hc 0 (by omega)
      rw [ints_get zs 0 hn] at this
      exact World.block_lt_of_cell? w _ this
    · rw [hc i (by omega), ints_get zs i hi]

theorem own_some {w : World} {base : Nat} {e : TypeId} {size : Nat} {v : Value} {n : Nat} {xs : List Value} (h : w.ownsRow base e size v n xs) (hn : 0 < n) : ∃ g c, v = .slice (some ⟨g, 0, none⟩) n c := by
  rcases h.2 with ⟨_, h0⟩ | ⟨g, c, _, h, _⟩
  · omega
  · exact ⟨g, c, h⟩
theorem own_base {w : World} {b b' : Nat} {e : TypeId} {sz n : Nat} {v : Value} {xs : List Value} (h : w.ownsRow b e sz v n xs) (hb : b' ≤ b) : w.ownsRow b' e sz v n xs := by
  refine ⟨h.1, ?_⟩
  rcases h.2 with h0 | ⟨g, c, cur, hv, hg, r⟩
  · exact .inl h0
  · exact .inr ⟨g, c, cur, hv, by omega, r⟩
theorem own_stays {w w' : World} {b : Nat} {e : TypeId} {sz n : Nat} {v : Value} {xs : List Value} (h : w.ownsRow b e sz v n xs) (hb : Below w.heap.size w w') : w'.ownsRow b e sz v n xs :=
  h.kept (row := none) ⟨hb.os, hb.tape, hb.output, hb.size, fun k hk _ => hb.block k hk⟩ (by rcases h.2 with ⟨rfl, _⟩ | ⟨g, c, cur, rfl, _⟩ <;> simp [Value.ownBlock])
theorem RdI.of_own {w : World} {b : Nat} {v : Value} {zs : List Int} (h : w.ownsRow b 3 1 v zs.length (ints zs)) : RdI w v zs := Rd.of_own h
/-- two cells of an own row are written. -/
theorem own_two {w : World} {b G c i j : Nat} {zs : List Int} {x y : Int} (h : w.ownsRow b 3 1 (.slice (some ⟨G, 0, none⟩) zs.length c) zs.length (ints zs)) :
    ((w.setCell ⟨G, i, none⟩ (.int .i64 x)).setCell ⟨G, j, none⟩ (.int .i64 y)).ownsRow b 3 1 (.slice (some ⟨G, 0, none⟩) zs.length c) zs.length (ints ((zs.set i x).set j y)) := by
  have h1 := (h.stored i (.int .i64 x)).1
  have h2 := (h1.stored j (.int .i64 y)).1
  rw [ints_set, ints_set] at h2
  exact h2

/-! ### slices.Clone -/
def ClonePost (zs : List Int) (w : World) (e : Ending) (w' : World) : Prop := ∃ v', e = .returned v' ∧ w'.ownsRow w.heap.size 3 1 v' zs.length (ints zs) ∧ Below w.heap.size w w'

theorem Clone_any (v : Value) (zs : List Int) (w : World) (h : RdI w v zs) (hl : zs.length ≤ 1000000) :
    Calls Try.prog 13 #[v] w (ClonePost zs w) := by
  obtain ⟨i0, hi, hz0, hz1, hz2⟩ := info_parts info3
  rcases h.2 with ⟨rfl, hz⟩ | ⟨g, o, c, rfl, h1, h2, hc⟩
  · obtain rfl : zs = [] := List.length_eq_zero_iff.1 hz
    have hq := fun (w : World) (a : Option Addr) (n c : Nat) => Lib.run_eql_slice_nil (P := Try.prog) w 28 3 a n c 0 0 Try.underlying28
    clear h hl
    go_enter Try.func13, Try.ntmps13
    go_wp2
    go_ret
    exact ⟨_, rfl, World.ownsRow_nil _ _ _ _, Below.refl _ _⟩
  · have hq := fun (w : World) (a : Option Addr) (n c : Nat) => Lib.run_eql_slice_nil (P := Try.prog) w 28 3 a n c 0 0 Try.underlying28
    have hown0 : (w.alloc (.cells #[] 3)).ownsRow w.heap.size 3 1 (.slice (some ⟨w.heap.size, 0, none⟩) 0 0) 0 [] := World.ownsRow_made w #[] 0 (Nat.le_refl _) (by unfold maxLen; omega) rfl
    have hnews : ∀ j u, (ints zs)[j]? = some u → (w.alloc (.cells #[] 3)).cell? ((⟨g, o, none⟩ : Addr).add j) = some u := by
      intro j u hu
      have hj : j < zs.length := by
        have := (List.getElem?_eq_some_iff.1 hu).1
        rwa [ints_len] at this
      have hcell := hc j (by omega)
      rw [hu] at hcell
      have hlt := World.block_lt_of_cell? w _ hcell
      have e : (⟨g, o, none⟩ : Addr).add j = ⟨g, o + j, none⟩ := by unfold Addr.add; split <;> simp_all
      rw [e, World.cell?_of_block (w := w) (a := ⟨g, o + j, none⟩) (Below.heap_alloc w _ g hlt)]
      exact hcell
    have Hown0 := Lib.hid hown0
    have Hnews := Lib.hid hnews
    have Hil := Lib.hid (show (ints zs).length = zs.length * 1 by rw [ints_len]; omega)
    clear hown0 hnews hc h
    go_enter Try.func13, Try.ntmps13
    go_wp2_with (at_builtin; refine wpList_append_own _ rfl _ _ 28 rfl w.heap.size 3 i0 (.int .i64 0) 1 8 Try.underlying28 hi hz0 hz1 hz2 rfl (by decide) _ 0 [] rfl Hown0.out ⟨g, o, none⟩ zs.length c (ints zs) rfl Hil.out Hnews.out (ints_cell1 zs) ?c3 ?c4 ?c5 ?_)
    case c3 => unfold maxLen; omega
    case c4 => omega
    case c5 => simp
    intro v' w2 hown' hgrow _
    try simp only [Nat.zero_add, List.nil_append] at hown'
    have hb : Below w.heap.size w w2 := Below.grown ((Below.refl _ w).alloc (Nat.le_refl _) _) hgrow (by simp) (fun q hq => by simp [Value.ownBlock] at hq; omega)
    have HO := Lib.hid hown'
    clear hown' hgrow
    go_wp2
    go_ret
    exact ⟨v', rfl, HO.out, hb⟩

/-! ### slices.IndexFunc, slices.ContainsFunc: the predicate is a function value whose calls leave the world alone -/
def idxI (p : Int → Bool) : List Int → Int → Int
  | [], _ => -1
  | z :: t, k => if p z = true then k else idxI p t (k + 1)
theorem idxI_any (p : Int → Bool) : ∀ (l : List Int) (k : Int), 0 ≤ k → (decide (0 ≤ idxI p l k) = l.any p)
  | [], k, _ => by simp [idxI]
  | z :: t, k, hk => by
    have ih := idxI_any p t (k + 1) (by omega)
    unfold idxI
    cases h : p z
    · simpa [h] using ih
    · simp [h, hk]
theorem idxI_step (p : Int → Bool) (zs : List Int) (k : Nat) (h : k < zs.length) : idxI p (zs.drop k) k = if p (zs.getD k 0) = true then (k : Int) else idxI p (zs.drop (k + 1)) ((k + 1 : Nat) : Int) := by
  rw [List.drop_eq_getElem_cons h, idxI]
  simp [List.getD, List.getElem?_eq_getElem h]
theorem IndexFunc_any (v : Value) (zs : List Int) (p : Int → Bool) (f : FuncId) (caps : Array Value) (w : World) (h : RdI w v zs) (hf : ∀ (args : Array Value) (w : World), (callFunc f args).run Try.prog w = .ok (.enter f args) w)
    (hc : ∀ z ∈ zs, Calls Try.prog f (#[.int .i64 z] ++ caps) w fun e w' => e = .returned (.bool (p z)) ∧ w = w') :
    Calls Try.prog 18 #[v, .func (.func f) #[] caps] w fun e w' => e = .returned (.int .i64 (idxI p zs 0)) ∧ w = w' := by
  obtain ⟨a, c, rfl, h1, h2⟩ := h.form
  unfold maxLen at h2
  have HR := Lib.hid h
  have HC := Lib.hid hc
  clear h hc
  go_enter Try.func18, Try.ntmps18
  go_wp2_with fail
  go_loop [8] (fun i => ∃ k : Nat, k ≤ zs.length ∧ i = .int .i64 k ∧ Hid (idxI p zs 0 = idxI p (zs.drop k) k)) (fun i => zs.length - (intOf i).toNat)
  case atStart => exact ⟨0, Nat.zero_le _, rfl, Lib.hid rfl⟩
  case round =>
    obtain ⟨k, hk, rfl, HK⟩ := hrel
    by_cases hlt : k < zs.length
    · obtain ⟨g, o, c', he, _, _, _, hcell⟩ := HR.out.some (by omega)
      simp only [Value.slice.injEq] at he
      obtain ⟨rfl, _, rfl⟩ := he
      have ck := hcell k hlt
      have HS := Lib.hid (idxI_step p zs k hlt)
      have HCk := Lib.hid (HC.out (zs.getD k 0) (by rw [List.getD_eq_getElem?_getD, List.getElem?_eq_getElem hlt]; exact List.getElem_mem hlt))
      clear hcell
      generalize zs.getD k 0 = z at *
      go_wp2_with fail
      refine HCk.out.mono ?_
      rintro e w' ⟨rfl, rfl⟩
      cases hp : p z
      · go_wp2_with fail
        go_round
        case rel => exact ⟨k + 1, by omega, by go_num, Lib.hid (by rw [HK.out, HS.out, if_neg (by simp [hp])])⟩
        case measure => simp [intOf]; omega
      · go_wp2_with fail
        go_ret
        exact ⟨by rw [HK.out, HS.out, if_pos hp]; rfl, rfl⟩
    · obtain rfl : k = zs.length := by omega
      go_wp2_with fail
      go_ret
      exact ⟨by rw [HK.out]; simp [idxI], rfl⟩

theorem ContainsFunc_any (v : Value) (zs : List Int) (p : Int → Bool) (f : FuncId) (caps : Array Value) (w : World) (h : RdI w v zs) (hf : ∀ (args : Array Value) (w : World), (callFunc f args).run Try.prog w = .ok (.enter f args) w)
    (hc : ∀ z ∈ zs, Calls Try.prog f (#[.int .i64 z] ++ caps) w fun e w' => e = .returned (.bool (p z)) ∧ w = w') :
    Calls Try.prog 17 #[v, .func (.func f) #[] caps] w fun e w' => e = .returned (.bool (zs.any p)) ∧ w = w' := by
  have HI := Lib.hid (IndexFunc_any v zs p f caps w h hf hc)
  have HA := Lib.hid (idxI_any p zs 0 (by omega))
  clear h hc hf
  go_enter Try.func17, Try.ntmps17
  go_wp2_with fail
  refine HI.out.mono ?_
  rintro e w' ⟨rfl, rfl⟩
  go_wp2_with fail
  go_ret
  exact ⟨by rw [← HA.out]; rfl, rfl⟩
end Go.Proofs.Ytgbedogdikflcaa

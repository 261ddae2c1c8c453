/- The contracts of premove.Of, premove.Check. -/
import Derived.Test.YtkfaibdflbdpgaaMvI
import Derived.Test.YtkfaibdflbdpgaaApp
import Derived.Test.YtkfaibdflbdpgaaMv2
namespace Go.Proofs.Ytkfaibdflbdpgaa
open Go.ChangeShapes Go.WideShapes Go.ChangeAt Go.RowKit
set_option linter.unusedVariables false

structure PremZ where
  player : Int
  move : MoveZ
deriving Inhabited, DecidableEq
def premEl : El PremZ where
  k := 4
  E := fun _ x cs => cs = [.int .i64 x.player, .int .i64 x.move.src, .int .i64 x.move.dst, .int .i64 x.move.piece]
  mono := fun h _ _ => h
  len := fun h => by subst h; rfl
theorem prems_some {w : World} {a : Option Addr} {n c : Nat} {xs : List PremZ} (h : RdL premEl w (.slice a n c) xs) (hn : 0 < xs.length) : ∃ g o, a = some ⟨g, o, none⟩ ∧ g < w.heap.size ∧
    ∀ i, i < xs.length → w.cell? ⟨g, o + i * 4, none⟩ = some (.int .i64 (xs.getD i default).player) ∧ w.cell? ⟨g, o + i * 4 + 1, none⟩ = some (.int .i64 (xs.getD i default).move.src) ∧
      w.cell? ⟨g, o + i * 4 + 2, none⟩ = some (.int .i64 (xs.getD i default).move.dst) ∧ w.cell? ⟨g, o + i * 4 + 3, none⟩ = some (.int .i64 (xs.getD i default).move.piece) := by
  obtain ⟨g, o, ha, hg, hc⟩ := h.some hn
  refine ⟨g, o, ha, hg, fun i hi => ?_⟩
  obtain ⟨cs, he, hx⟩ := hc i hi
  simp only [premEl] at he hx
  subst he
  rw [List.getD_eq_getElem?_getD, List.getElem?_eq_getElem hi]
  exact ⟨hx 0 (by omega), hx 1 (by omega), hx 2 (by omega), hx 3 (by omega)⟩
def ofZ (l : List PremZ) (pl : Int) : List MoveZ := (l.filter fun x => x.player == pl).map (·.move)
theorem ofZ_snoc (l : List PremZ) (pl : Int) (k : Nat) (h : k < l.length) : ofZ (l.take (k + 1)) pl = ofZ (l.take k) pl ++ if (l.getD k default).player = pl then [(l.getD k default).move] else [] := by
  unfold ofZ
  rw [List.take_succ_eq_append_getElem h, List.filter_append, List.map_append, List.getD_eq_getElem?_getD, List.getElem?_eq_getElem h]
  congr 1
  by_cases e : l[k].player = pl <;> simp [e]
theorem ofZ_len (l : List PremZ) (pl : Int) : (ofZ l pl).length ≤ l.length := by
  unfold ofZ
  rw [List.length_map]
  exact List.length_filter_le _ _
set_option maxRecDepth 100000 in
theorem of_any (v : Value) (l : List PremZ) (pl : Int) (w : World) (h : RdL premEl w v l) (hl : l.length ≤ 1000000) :
    Calls Try.prog 39 #[v, .int .i64 pl] w (MovesPost (ofZ l pl) w) := by
  have HR := Lib.hid h
  obtain ⟨a, c, rfl, h1, h2⟩ := h.form
  unfold maxLen at h2
  clear h
  go_enter Try.func39, Try.ntmps39
  go_wp2_with fail
  go_loopw [5, 10] (fun vo vi wr => ∃ (k : Nat) (out : List MoveZ), k ≤ l.length ∧ vi = .int .i64 k ∧ Hid (out = ofZ (l.take k) pl) ∧ Hid (wr.ownsRow w.heap.size 42 3 vo out.length (flatM out)) ∧ Hid (Below w.heap.size w wr)) (fun _ i _ => l.length - (intOf i).toNat)
  case atStart => exact ⟨0, [], Nat.zero_le _, rfl, Lib.hid (by simp [ofZ]), Lib.hid (World.ownsRow_nil _ _ _ _), Lib.hid (Below.refl _ _)⟩
  case round =>
    obtain ⟨k, out, hk, rfl, HOUT, HO, HB⟩ := hrel
    have hsz := HB.out.size
    have hol : out.length ≤ 1000000 := by rw [HOUT.out]; have := ofZ_len (l.take k) pl; rw [List.length_take] at this; omega
    by_cases hlt : k < l.length
    · obtain ⟨g, o, rfl, hg, hcc⟩ := prems_some (HR.out.below HB.out (Nat.le_refl _)) (by omega)
      obtain ⟨c0, c1, c2, c3⟩ := hcc k hlt
      have HS := Lib.hid (ofZ_snoc l pl k hlt)
      clear hcc
      generalize l.getD k default = x at *
      go_upto_region 5 with (fail)
      have hbx := Box.new' wr wr.heap.size [.int .i64 x.player, .int .i64 x.move.src, .int .i64 x.move.dst, .int .i64 x.move.piece] 121 rfl
      have HOn := Lib.hid (HO.out.alloc (.cells #[.int .i64 x.player, .int .i64 x.move.src, .int .i64 x.move.dst, .int .i64 x.move.piece] 121))
      have HBn := Lib.hid (HB.out.alloc hsz (.cells #[.int .i64 x.player, .int .i64 x.move.src, .int .i64 x.move.dst, .int .i64 x.move.piece] 121))
      clear c0 c1 c2 c3 HO HB
      generalize (wr.alloc (.cells #[.int .i64 x.player, .int .i64 x.move.src, .int .i64 x.move.dst, .int .i64 x.move.piece] 121)) = wn at *
      have d0 := hbx.cell 0 rfl
      have d1 := hbx.cell 1 rfl
      have d2 := hbx.cell 2 rfl
      have d3 := hbx.cell 3 rfl
      have hszn := HBn.out.size
      have HO := HOn
      clear hbx
      by_cases hp : x.player = pl
      · have HS2 : Hid (ofZ (l.take (k + 1)) pl = out ++ [x.move]) := Lib.hid (by rw [HS.out, if_pos hp, HOUT.out])
        have hp' : (x.player == pl) = true := by simpa using hp
        clear hp HS
        go_wp2_with (at_builtin; refine app_new 32 42 (.agg #[.int .i64 0, .int .i64 0, .int .i64 0]) 3 24 infoMove Try.underlying32 rfl (by decide) (by rfl) _ _ (by rfl) (w.heap.size) _ out.length (flatM out) [.int .i64 x.move.src, .int .i64 x.move.dst, .int .i64 x.move.piece] wn HO.out hszn rfl three_ints (by omega) (by omega) (by rfl) (by rfl) ?_)
        intro g3 cap3 w3 hown3 hkeep3 _
        have HO3 := Lib.hid hown3
        have HB3 := Lib.hid (hkeep3.below HBn.out (Nat.le_refl _))
        clear hown3 hkeep3
        go_wp2_with fail
        go_roundw
        case rel => exact ⟨k + 1, out ++ [x.move], by omega, by go_num, Lib.hid HS2.out.symm, Lib.hid (by rw [← flatM_append, List.length_append]; exact HO3.out), HB3⟩
        case measure => simp [intOf]; omega
      · have HS2 : Hid (ofZ (l.take (k + 1)) pl = out) := Lib.hid (by rw [HS.out, if_neg hp, HOUT.out, List.append_nil])
        have hp' : (x.player == pl) = false := by simpa using hp
        clear hp HS
        go_wp2_with fail
        go_roundw
        case rel => exact ⟨k + 1, out, by omega, by go_num, Lib.hid HS2.out.symm, HO, HBn⟩
        case measure => simp [intOf]; omega
    · obtain rfl : k = l.length := by omega
      have HE : Hid (ofZ l pl = out) := Lib.hid (by rw [HOUT.out, List.take_of_length_le (Nat.le_refl _)])
      go_wp2_with fail
      go_ret
      exact ⟨_, rfl, by rw [HE.out]; exact HO.out, HB.out⟩


theorem IndexFunc_pm (v : Value) (xs : List PremZ) (p : PremZ → Bool) (f : FuncId) (caps : Array Value) (w : World) (h : RdL premEl w v xs) (hf : ∀ (args : Array Value) (w : World), (callFunc f args).run Try.prog w = .ok (.enter f args) w)
    (hc : ∀ (W : World) (x : PremZ) (cs : List Value), x ∈ xs → premEl.E W x cs → Below w.heap.size w W → Calls Try.prog f (#[.agg cs.toArray] ++ caps) W fun e w' => e = .returned (.bool (p x)) ∧ Below W.heap.size W w') :
    Calls Try.prog 134 #[v, .func (.func f) #[] caps] w fun e w' => e = .returned (.int .i64 (idxL p xs 0)) ∧ Below w.heap.size w w' := by
  obtain ⟨a, c, rfl, h1, h2⟩ := h.form
  unfold maxLen at h2
  have HR := Lib.hid h
  have HC := Lib.hid hc
  clear h hc
  go_enter Try.func134, Try.ntmps134
  go_wp2_with fail
  go_loopw [8] (fun i wr => ∃ k : Nat, k ≤ xs.length ∧ i = .int .i64 k ∧ Hid (idxL p xs 0 = idxL p (xs.drop k) k) ∧ Below w.heap.size w wr) (fun i _ => xs.length - (intOf i).toNat)
  case atStart => exact ⟨0, Nat.zero_le _, rfl, Lib.hid rfl, Below.refl _ _⟩
  case round =>
    obtain ⟨k, hk, rfl, HK, hbl⟩ := hrel
    by_cases hlt : k < xs.length
    · obtain ⟨g, o, rfl, hg, hcc⟩ := (HR.out.below hbl (Nat.le_refl _)).some (by omega)
      obtain ⟨cs, hE, hcell⟩ := hcc k hlt
      have hcl := premEl.len hE
      simp only [premEl] at hcl
      obtain ⟨c0, c1, c2, c3, rfl⟩ : ∃ c0 c1 c2 c3, cs = [c0, c1, c2, c3] := by
        match cs, hcl with
        | [c0, c1, c2, c3], _ => exact ⟨_, _, _, _, rfl⟩
      have q0 := hcell 0 (by decide)
      have q1 := hcell 1 (by decide)
      have q2 := hcell 2 (by decide)
      have q3 := hcell 3 (by decide)
      simp only [premEl, List.getElem?_cons_zero, List.getElem?_cons_succ, Nat.add_zero] at q0 q1 q2 q3
      have HS := Lib.hid (idxL_step p xs k hlt)
      have HCk := Lib.hid (HC.out wr xs[k] [c0, c1, c2, c3] (List.getElem_mem hlt) hE hbl)
      have HB := Lib.hid hbl
      clear hcell hcc hE hcl hbl
      generalize xs[k] = x at *
      go_wp2_with fail
      refine HCk.out.mono ?_
      rintro e w1 ⟨rfl, hb1⟩
      have HB1 := Lib.hid (below_trans HB.out hb1 HB.out.size)
      clear hb1
      cases hpx : p x
      · go_wp2_with fail
        go_roundw
        case rel => exact ⟨k + 1, by omega, by go_num, Lib.hid (by rw [HK.out, HS.out, if_neg (by simp [hpx])]), HB1.out⟩
        case measure => simp [intOf]; omega
      · go_wp2_with fail
        go_ret
        exact ⟨by rw [HK.out, HS.out, if_pos hpx]; rfl, HB1.out⟩
    · obtain rfl : k = xs.length := by omega
      go_wp2_with fail
      go_ret
      exact ⟨by rw [HK.out]; simp [idxL], hbl⟩

theorem ContainsFunc_pm (v : Value) (xs : List PremZ) (p : PremZ → Bool) (f : FuncId) (caps : Array Value) (w : World) (h : RdL premEl w v xs) (hf : ∀ (args : Array Value) (w : World), (callFunc f args).run Try.prog w = .ok (.enter f args) w)
    (hc : ∀ (W : World) (x : PremZ) (cs : List Value), x ∈ xs → premEl.E W x cs → Below w.heap.size w W → Calls Try.prog f (#[.agg cs.toArray] ++ caps) W fun e w' => e = .returned (.bool (p x)) ∧ Below W.heap.size W w') :
    Calls Try.prog 130 #[v, .func (.func f) #[] caps] w fun e w' => e = .returned (.bool (xs.any p)) ∧ Below w.heap.size w w' := by
  have HI := Lib.hid (IndexFunc_pm v xs p f caps w h hf hc)
  have HA := Lib.hid (idxL_any p xs 0 (by omega))
  clear h hc hf
  go_enter Try.func130, Try.ntmps130
  go_wp2_with fail
  refine HI.out.mono ?_
  rintro e w' ⟨rfl, hb⟩
  go_wp2_with fail
  go_ret
  exact ⟨by rw [← HA.out]; rfl, hb⟩

end Go.Proofs.Ytkfaibdflbdpgaa

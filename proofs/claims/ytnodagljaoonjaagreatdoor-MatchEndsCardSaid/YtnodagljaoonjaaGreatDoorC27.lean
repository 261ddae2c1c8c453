/- Ko2, Box3, IntsW, ClaimB. -/
import Derived.Test.YtnodagljaoonjaaGreatDoorC26
import Derived.Test.YtnodagljaoonjaaGreatDoorC09
import Derived.Deep.MidRow
import Derived.Test.YtnodagljaoonjaaGreatDoorC03
import Derived.Test.YtnodagljaoonjaaGreatDoorC20
import Derived.Test.YtnodagljaoonjaaGreatDoorC18
namespace Go.Proofs.YtnodagljaoonjaaGreatDoor.off
open Go.ChangeShapes Go.WideShapes Go.ChangeAt Go.RowKit
set_option linter.unusedVariables false
set_option maxHeartbeats 4000000
theorem check_kind (b0 b1 l00 l01 l10 l11 kind player moves : Int) (w : World) (hok : OkO b0 b1 l00 l01 l10 l11) (hk : kind ≠ 0 ∧ kind ≠ 1) :
  Calls Tryz.prog 129 #[.agg #[.int .i64 b0, .int .i64 b1, .int .i64 l00, .int .i64 l01, .int .i64 l10, .int .i64 l11], .int .i64 kind, .int .i64 player, .int .i64 moves] w fun e w' => e = .returned (.int .i64 1) ∧ ((w.alloc (.cells #[.int .i64 b0, .int .i64 b1, .int .i64 l00, .int .i64 l01, .int .i64 l10, .int .i64 l11] 47)).alloc (.cells #[.int .i64 b0, .int .i64 b1, .int .i64 l00, .int .i64 l01, .int .i64 l10, .int .i64 l11] 47)) = w' := by
 have H := Lib.hid hok
 clear hok
 obtain ⟨hk0, hk1⟩ := hk
 go_enter Tryz.func129, Tryz.ntmps129
 go_wp2_with fail
 refine (Check_any _ _ _ _ _ _ _).mono ?_
 rintro e w1 ⟨c, rfl, hc, rfl⟩
 obtain rfl : c = 0 := hc.2 H.out
 clear hc
 go_wp2
 all_goals
  go_ret
  exact ⟨rfl, rfl⟩
theorem open_kind (b0 b1 l00 l01 l10 l11 k p n : Int) (w : World) (hok : OkO b0 b1 l00 l01 l10 l11) (hk : k ≠ 0 ∧ k ≠ 1) :
  Calls Tryz.prog 130 #[.agg #[.int .i64 b0, .int .i64 b1, .int .i64 l00, .int .i64 l01, .int .i64 l10, .int .i64 l11], .int .i64 k, .int .i64 p, .int .i64 n] w fun e w' => e = .returned (.int .i64 1) ∧ (((w.alloc (.cells #[.int .i64 b0, .int .i64 b1, .int .i64 l00, .int .i64 l01, .int .i64 l10, .int .i64 l11] 47)).alloc (.cells #[.int .i64 b0, .int .i64 b1, .int .i64 l00, .int .i64 l01, .int .i64 l10, .int .i64 l11] 47)).alloc (.cells #[.int .i64 b0, .int .i64 b1, .int .i64 l00, .int .i64 l01, .int .i64 l10, .int .i64 l11] 47)) = w' := by
 have H := Lib.hid hok
 have HK := Lib.hid hk
 clear hok hk
 go_enter Tryz.func130, Tryz.ntmps130
 go_wp2_with fail
 refine (check_kind b0 b1 l00 l01 l10 l11 k p n _ H.out HK.out).mono ?_
 rintro e w1 ⟨rfl, rfl⟩
 go_wp2
 go_ret
 exact ⟨rfl, rfl⟩
theorem Make_kind (b0 b1 l00 l01 l10 l11 k p n : Int) (w : World) (hok : OkO b0 b1 l00 l01 l10 l11) (hk : k ≠ 0 ∧ k ≠ 1) :
  Calls Tryz.prog 86 #[.agg #[.int .i64 b0, .int .i64 b1, .int .i64 l00, .int .i64 l01, .int .i64 l10, .int .i64 l11], .int .i64 k, .int .i64 p, .int .i64 n] w fun e w' => e = .returned (.tuple #[.agg #[.int .i64 0, .int .i64 0, .int .i64 0, .int .i64 0, .int .i64 0, .int .i64 0], .int .i64 1]) ∧ Below w.heap.size w w' := by
 have H := Lib.hid hok
 have HK := Lib.hid hk
 clear hok hk
 go_enter Tryz.func86, Tryz.ntmps86
 go_wp2_with fail
 refine (check_kind b0 b1 l00 l01 l10 l11 k p n _ H.out HK.out).mono ?_
 rintro e w1 ⟨rfl, rfl⟩
 go_wp2
 go_returns
 exact ⟨rfl, by go_grown⟩
theorem Accept_kind (b0 b1 l00 l01 l10 l11 k p n : Int) (w : World) (hok : OkO b0 b1 l00 l01 l10 l11) (hk : k ≠ 0 ∧ k ≠ 1) :
  Calls Tryz.prog 88 #[.agg #[.int .i64 b0, .int .i64 b1, .int .i64 l00, .int .i64 l01, .int .i64 l10, .int .i64 l11], .int .i64 k, .int .i64 p, .int .i64 n] w fun e w' => e = .returned (.tuple #[.agg #[.int .i64 0, .int .i64 0, .int .i64 0, .int .i64 0, .int .i64 0, .int .i64 0], .int .i64 1]) ∧ Below w.heap.size w w' := by
 have H := Lib.hid hok
 have HK := Lib.hid hk
 clear hok hk
 go_enter Tryz.func88, Tryz.ntmps88
 go_wp2_with fail
 refine (open_kind b0 b1 l00 l01 l10 l11 k p n _ H.out HK.out).mono ?_
 rintro e w1 ⟨rfl, rfl⟩
 go_wp2
 go_returns
 exact ⟨rfl, by go_grown⟩
theorem Decline_kind (b0 b1 l00 l01 l10 l11 k p n : Int) (w : World) (hok : OkO b0 b1 l00 l01 l10 l11) (hk : k ≠ 0 ∧ k ≠ 1) :
  Calls Tryz.prog 87 #[.agg #[.int .i64 b0, .int .i64 b1, .int .i64 l00, .int .i64 l01, .int .i64 l10, .int .i64 l11], .int .i64 k, .int .i64 p, .int .i64 n] w fun e w' => e = .returned (.tuple #[.agg #[.int .i64 0, .int .i64 0, .int .i64 0, .int .i64 0, .int .i64 0, .int .i64 0], .int .i64 1]) ∧ Below w.heap.size w w' := by
 have H := Lib.hid hok
 have HK := Lib.hid hk
 clear hok hk
 go_enter Tryz.func87, Tryz.ntmps87
 go_wp2_with fail
 refine (open_kind b0 b1 l00 l01 l10 l11 k p n _ H.out HK.out).mono ?_
 rintro e w1 ⟨rfl, rfl⟩
 go_wp2
 go_returns
 exact ⟨rfl, by go_grown⟩
theorem Accept_state_00 (b0 b1 l00 l01 l10 l11 n : Int) (w : World) (hok : OkO b0 b1 l00 l01 l10 l11) (hn0 : 0 ≤ n) (hn1 : n ≤ 400) (h : (b0 != 1) = true) :
  Calls Tryz.prog 88 #[.agg #[.int .i64 b0, .int .i64 b1, .int .i64 l00, .int .i64 l01, .int .i64 l10, .int .i64 l11], .int .i64 0, .int .i64 0, .int .i64 n] w (fun e w' => e = .returned (.tuple #[.agg #[.int .i64 0, .int .i64 0, .int .i64 0, .int .i64 0, .int .i64 0, .int .i64 0], .int .i64 10]) ∧ Below w.heap.size w w') := by
 have H := Lib.hid hok
 clear hok
 go_enter Tryz.func88, Tryz.ntmps88
 go_wp2_with fail
 refine (open_state_00 b0 b1 l00 l01 l10 l11 n _ H.out hn0 hn1 h).mono ?_
 rintro e w1 ⟨rfl, rfl⟩
 go_wp2
 go_returns
 exact ⟨rfl, by go_grown⟩
theorem Accept_state_01 (b0 b1 l00 l01 l10 l11 n : Int) (w : World) (hok : OkO b0 b1 l00 l01 l10 l11) (hn0 : 0 ≤ n) (hn1 : n ≤ 400) (h : (b0 != 0) = true) :
  Calls Tryz.prog 88 #[.agg #[.int .i64 b0, .int .i64 b1, .int .i64 l00, .int .i64 l01, .int .i64 l10, .int .i64 l11], .int .i64 0, .int .i64 1, .int .i64 n] w (fun e w' => e = .returned (.tuple #[.agg #[.int .i64 0, .int .i64 0, .int .i64 0, .int .i64 0, .int .i64 0, .int .i64 0], .int .i64 10]) ∧ Below w.heap.size w w') := by
 have H := Lib.hid hok
 clear hok
 go_enter Tryz.func88, Tryz.ntmps88
 go_wp2_with fail
 refine (open_state_01 b0 b1 l00 l01 l10 l11 n _ H.out hn0 hn1 h).mono ?_
 rintro e w1 ⟨rfl, rfl⟩
 go_wp2
 go_returns
 exact ⟨rfl, by go_grown⟩
theorem Accept_ok_10 (b0 b1 l00 l01 l10 l11 n : Int) (w : World) (hok : OkO b0 b1 l00 l01 l10 l11) (hn0 : 0 ≤ n) (hn1 : n ≤ 400) (h : (b1 != 1) = false) :
  Calls Tryz.prog 88 #[.agg #[.int .i64 b0, .int .i64 b1, .int .i64 l00, .int .i64 l01, .int .i64 l10, .int .i64 l11], .int .i64 1, .int .i64 0, .int .i64 n] w (fun e w' => e = .returned (.tuple #[.agg #[.int .i64 (-1), .int .i64 (-1), .int .i64 l00, .int .i64 l01, .int .i64 l10, .int .i64 l11], .int .i64 0]) ∧ Below w.heap.size w w') := by
 have H := Lib.hid hok
 clear hok
 go_enter Tryz.func88, Tryz.ntmps88
 go_wp2_with fail
 refine (open_ok_10 b0 b1 l00 l01 l10 l11 n _ H.out hn0 hn1 h).mono ?_
 rintro e w1 ⟨rfl, rfl⟩
 go_wp2
 go_returns
 exact ⟨rfl, by go_grown⟩
theorem Accept_state_10 (b0 b1 l00 l01 l10 l11 n : Int) (w : World) (hok : OkO b0 b1 l00 l01 l10 l11) (hn0 : 0 ≤ n) (hn1 : n ≤ 400) (h : (b1 != 1) = true) :
  Calls Tryz.prog 88 #[.agg #[.int .i64 b0, .int .i64 b1, .int .i64 l00, .int .i64 l01, .int .i64 l10, .int .i64 l11], .int .i64 1, .int .i64 0, .int .i64 n] w (fun e w' => e = .returned (.tuple #[.agg #[.int .i64 0, .int .i64 0, .int .i64 0, .int .i64 0, .int .i64 0, .int .i64 0], .int .i64 10]) ∧ Below w.heap.size w w') := by
 have H := Lib.hid hok
 clear hok
 go_enter Tryz.func88, Tryz.ntmps88
 go_wp2_with fail
 refine (open_state_10 b0 b1 l00 l01 l10 l11 n _ H.out hn0 hn1 h).mono ?_
 rintro e w1 ⟨rfl, rfl⟩
 go_wp2
 go_returns
 exact ⟨rfl, by go_grown⟩
theorem Accept_ok_11 (b0 b1 l00 l01 l10 l11 n : Int) (w : World) (hok : OkO b0 b1 l00 l01 l10 l11) (hn0 : 0 ≤ n) (hn1 : n ≤ 400) (h : (b1 != 0) = false) :
  Calls Tryz.prog 88 #[.agg #[.int .i64 b0, .int .i64 b1, .int .i64 l00, .int .i64 l01, .int .i64 l10, .int .i64 l11], .int .i64 1, .int .i64 1, .int .i64 n] w (fun e w' => e = .returned (.tuple #[.agg #[.int .i64 (-1), .int .i64 (-1), .int .i64 l00, .int .i64 l01, .int .i64 l10, .int .i64 l11], .int .i64 0]) ∧ Below w.heap.size w w') := by
 have H := Lib.hid hok
 clear hok
 go_enter Tryz.func88, Tryz.ntmps88
 go_wp2_with fail
 refine (open_ok_11 b0 b1 l00 l01 l10 l11 n _ H.out hn0 hn1 h).mono ?_
 rintro e w1 ⟨rfl, rfl⟩
 go_wp2
 go_returns
 exact ⟨rfl, by go_grown⟩
theorem Accept_state_11 (b0 b1 l00 l01 l10 l11 n : Int) (w : World) (hok : OkO b0 b1 l00 l01 l10 l11) (hn0 : 0 ≤ n) (hn1 : n ≤ 400) (h : (b1 != 0) = true) :
  Calls Tryz.prog 88 #[.agg #[.int .i64 b0, .int .i64 b1, .int .i64 l00, .int .i64 l01, .int .i64 l10, .int .i64 l11], .int .i64 1, .int .i64 1, .int .i64 n] w (fun e w' => e = .returned (.tuple #[.agg #[.int .i64 0, .int .i64 0, .int .i64 0, .int .i64 0, .int .i64 0, .int .i64 0], .int .i64 10]) ∧ Below w.heap.size w w') := by
 have H := Lib.hid hok
 clear hok
 go_enter Tryz.func88, Tryz.ntmps88
 go_wp2_with fail
 refine (open_state_11 b0 b1 l00 l01 l10 l11 n _ H.out hn0 hn1 h).mono ?_
 rintro e w1 ⟨rfl, rfl⟩
 go_wp2
 go_returns
 exact ⟨rfl, by go_grown⟩
theorem min_if (a n : Int) : (if n < a then n else a) = min a n := by omega
theorem Back_n (b0 b1 l00 l01 l10 l11 n : Int) (w : World) (hok : OkO b0 b1 l00 l01 l10 l11) (hn0 : 0 ≤ n) (hn1 : n ≤ 400) :
  Calls Tryz.prog 91 #[.agg #[.int .i64 b0, .int .i64 b1, .int .i64 l00, .int .i64 l01, .int .i64 l10, .int .i64 l11], .int .i64 n] w (fun e w' => e = .returned (.tuple #[.agg #[.int .i64 (-1), .int .i64 (-1), .int .i64 (min l00 n), .int .i64 (min l01 n), .int .i64 (min l10 n), .int .i64 (min l11 n)], .int .i64 0]) ∧ Below w.heap.size w w') := by
 have H := Lib.hid hok
 clear hok
 have i0 := ix0
 have i1 := ix1
 have m00 := min_if l00 n
 have m01 := min_if l01 n
 have m10 := min_if l10 n
 have m11 := min_if l11 n
 generalize min l00 n = x00 at *
 generalize min l01 n = x01 at *
 generalize min l10 n = x10 at *
 generalize min l11 n = x11 at *
 go_enter Tryz.func91, Tryz.ntmps91
 go_wp2_with fail
 refine (check_any b0 b1 l00 l01 l10 l11 0 0 n _).mono ?_
 rintro e w1 ⟨c, rfl, hc, rfl⟩
 obtain rfl : c = 0 := hc.2 ⟨H.out, by unfold ArgsOk; omega⟩
 clear hc
 go_wp2
 refine wp_loop_rounds 3 ?_
 repeat any_goals (first | (rw [rounds_succ]; go_wp2) | (refine wp_loop_rounds 3 ?_))
 all_goals
  go_returns
  exact ⟨rfl, by go_grown⟩
end Go.Proofs.YtnodagljaoonjaaGreatDoor.off
namespace Go.Proofs.YtnodagljaoonjaaGreatDoor
open Go.ChangeShapes Go.WideShapes Go.ChangeAt Go.RowKit
set_option linter.unusedVariables false
theorem Box.mid {w : World} {b : Nat} {cs : List Value} {t : TypeId} (h : Box w b cs t) (o : Nat) {l : List Value} (hl : (cs.drop o).take l.length = l) : w.rangeAt b o l := fun j v hv => by
 refine h.cell (o + j) ?_
 rw [← hl, List.getElem?_take] at hv
 split at hv
 ·rwa [List.getElem?_drop] at hv
 ·cases hv
theorem Box.has {w : World} {b : Nat} {cs : List Value} {t : TypeId} (h : Box w b cs t) (o n : Nat) (hn : o + n ≤ cs.length) : w.there b o n := fun j hj => by
 refine ⟨?_, h.frozen (o + j)⟩
 rw [h.cell (o + j) (v := cs[o + j]'(by omega)) (List.getElem?_eq_getElem (by omega))]; rfl
def splice (cs : List Value) (o : Nat) (vs : List Value) : List Value := cs.take o ++ vs ++ cs.drop (o + vs.length)
theorem setCells_splice (b : Nat) : ∀ (vs cs : List Value) (o : Nat) (w : World) (t : TypeId), o + vs.length ≤ cs.length → Box w b cs t → Box (w.setCells b o vs) b (splice cs o vs) t
 | [], cs, o, w, t, hl, h => by
  have e : splice cs o [] = cs := by simp [splice]
  rw [e]; exact h
 | v :: vs, cs, o, w, t, hl, h => by
  have h1 : Box (w.setCell ⟨b, o, none⟩ v) b (cs.set o v) t := h.set o v
  have h2 := setCells_splice b vs (cs.set o v) (o + 1) (w.setCell ⟨b, o, none⟩ v) t (by simp at hl ⊢; omega) h1
  have e : splice (cs.set o v) (o + 1) vs = splice cs o (v :: vs) := by
   have ho : o < cs.length := by simp at hl; omega
   unfold splice
   rw [List.drop_set_of_lt (by omega)]
   have : (cs.set o v).take (o + 1) = cs.take o ++ [v] := by
    rw [List.take_succ_eq_append_getElem (by simpa using ho), List.getElem_set_self, List.take_set_of_le (Nat.le_refl _)]
   rw [this]
   rw [List.append_assoc, List.append_assoc]
   simp only [List.singleton_append, List.length_cons, List.append_assoc, List.cons_append, List.nil_append]
   rw [show o + 1 + vs.length = o + (vs.length + 1) by omega]
  rw [e] at h2
  exact h2
theorem Box.storeMid {w : World} {b : Nat} {cs vs cs' : List Value} {t : TypeId} (h : Box w b cs t) (o : Nat) (hl : o + vs.length ≤ cs.length) (he : splice cs o vs = cs') : Box (w.setCells b o vs) b cs' t := he ▸ setCells_splice b vs cs o w t hl h
end Go.Proofs.YtnodagljaoonjaaGreatDoor
namespace Go.Proofs.YtnodagljaoonjaaGreatDoor
open Go.ChangeShapes Go.WideShapes Go.ChangeAt Go.RowKit
set_option linter.unusedVariables false
theorem IndexFuncW_any (v : Value) (zs : List Int) (p : Int → Bool) (f : FuncId) (caps : Array Value) (w : World) (h : RdI w v zs) (hf : ∀ (args : Array Value) (w : World), (callFunc f args).run Tryz.prog w = .ok (.enter f args) w)
  (hc : ∀ (W : World) (z : Int), z ∈ zs → Below w.heap.size w W → Calls Tryz.prog f (#[.int .i64 z] ++ caps) W fun e w' => e = .returned (.bool (p z)) ∧ Below W.heap.size W w') :
  Calls Tryz.prog 152 #[v, .func (.func f) #[] caps] w fun e w' => e = .returned (.int .i64 (idxI p zs 0)) ∧ Below w.heap.size w w' := by
 obtain ⟨a, c, rfl, h1, h2⟩ := h.form
 unfold maxLen at h2
 have HR := Lib.hid h
 have HC := Lib.hid hc
 clear h hc
 go_enter Tryz.func152, Tryz.ntmps152
 go_wp2_with fail
 go_loopw [8] (fun i wr => ∃ k : Nat, k ≤ zs.length ∧ i = .int .i64 k ∧ Hid (idxI p zs 0 = idxI p (zs.drop k) k) ∧ Below w.heap.size w wr) (fun i _ => zs.length - (intOf i).toNat)
 case atStart => exact ⟨0, Nat.zero_le _, rfl, Lib.hid rfl, Below.refl _ _⟩
 case round =>
  obtain ⟨k, hk, rfl, HK, hbl⟩ := hrel
  by_cases hlt : k < zs.length
  ·obtain ⟨g, o, rfl, hcell⟩ := cells_rd (HR.out.below hbl (Nat.le_refl _)) (by omega)
   have ck := hcell k hlt
   have HS := Lib.hid (idxI_step p zs k hlt)
   have HCk := Lib.hid (HC.out wr (zs.getD k 0) (by rw [List.getD_eq_getElem?_getD, List.getElem?_eq_getElem hlt]; exact List.getElem_mem hlt) hbl)
   have HB := Lib.hid hbl
   clear hcell hbl
   generalize zs.getD k 0 = z at *
   go_wp2_with fail
   refine HCk.out.mono ?_
   rintro e w1 ⟨rfl, hb1⟩
   have HB1 := Lib.hid (below_trans HB.out hb1 HB.out.size)
   clear hb1
   cases hp : p z
   ·go_wp2_with fail
    go_roundw
    case rel => exact ⟨k + 1, by omega, by go_num, Lib.hid (by rw [HK.out, HS.out, if_neg (by simp [hp])]), HB1.out⟩
    case measure => simp [intOf]; omega
   ·go_wp2_with fail
    go_ret
    exact ⟨by rw [HK.out, HS.out, if_pos hp]; rfl, HB1.out⟩
  ·obtain rfl : k = zs.length := by omega
   go_wp2_with fail
   go_ret
   exact ⟨by rw [HK.out]; simp [idxI], hbl⟩
theorem ContainsFuncW_any (v : Value) (zs : List Int) (p : Int → Bool) (f : FuncId) (caps : Array Value) (w : World) (h : RdI w v zs) (hf : ∀ (args : Array Value) (w : World), (callFunc f args).run Tryz.prog w = .ok (.enter f args) w)
  (hc : ∀ (W : World) (z : Int), z ∈ zs → Below w.heap.size w W → Calls Tryz.prog f (#[.int .i64 z] ++ caps) W fun e w' => e = .returned (.bool (p z)) ∧ Below W.heap.size W w') :
  Calls Tryz.prog 117 #[v, .func (.func f) #[] caps] w fun e w' => e = .returned (.bool (zs.any p)) ∧ Below w.heap.size w w' := by
 have HI := Lib.hid (IndexFuncW_any v zs p f caps w h hf hc)
 have HA := Lib.hid (idxI_any p zs 0 (by omega))
 clear h hc hf
 go_enter Tryz.func117, Tryz.ntmps117
 go_wp2_with fail
 refine HI.out.mono ?_
 rintro e w' ⟨rfl, hb⟩
 have HB := Lib.hid hb
 clear hb
 go_wp2_with fail
 go_ret
 exact ⟨by rw [← HA.out]; rfl, HB.out⟩
end Go.Proofs.YtnodagljaoonjaaGreatDoor
namespace Go.Proofs.YtnodagljaoonjaaGreatDoor
open Go.ChangeShapes Go.WideShapes Go.ChangeAt Go.RowKit
set_option linter.unusedVariables false
theorem IndexFunc_wy (v : Value) (xs : List WayZ) (p : WayZ → Bool) (f : FuncId) (caps : Array Value) (w : World) (h : RdL wayEl w v xs) (hf : ∀ (args : Array Value) (w : World), (callFunc f args).run Tryz.prog w = .ok (.enter f args) w)
  (hc : ∀ (W : World) (x : WayZ) (cs : List Value), x ∈ xs → wayEl.E W x cs → Below w.heap.size w W → Calls Tryz.prog f (#[.agg cs.toArray] ++ caps) W fun e w' => e = .returned (.bool (p x)) ∧ Below W.heap.size W w') :
  Calls Tryz.prog 217 #[v, .func (.func f) #[] caps] w fun e w' => e = .returned (.int .i64 (idxL p xs 0)) ∧ Below w.heap.size w w' := by
 obtain ⟨a, c, rfl, h1, h2⟩ := h.form
 unfold maxLen at h2
 have HR := Lib.hid h
 have HC := Lib.hid hc
 clear h hc
 go_enter Tryz.func217, Tryz.ntmps217
 go_wp2_with fail
 go_loopw [8] (fun i wr => ∃ k : Nat, k ≤ xs.length ∧ i = .int .i64 k ∧ Hid (idxL p xs 0 = idxL p (xs.drop k) k) ∧ Below w.heap.size w wr) (fun i _ => xs.length - (intOf i).toNat)
 case atStart => exact ⟨0, Nat.zero_le _, rfl, Lib.hid rfl, Below.refl _ _⟩
 case round =>
  obtain ⟨k, hk, rfl, HK, hbl⟩ := hrel
  by_cases hlt : k < xs.length
  ·obtain ⟨g, o, rfl, hg, hcc⟩ := (HR.out.below hbl (Nat.le_refl _)).some (by omega)
   obtain ⟨cs, hE, hcell⟩ := hcc k hlt
   have hcl := wayEl.len hE
   simp only [wayEl] at hcl
   obtain ⟨c0, c1, c2, c3, rfl⟩ : ∃ c0 c1 c2 c3, cs = [c0, c1, c2, c3] := by
    match cs, hcl with
    | [c0, c1, c2, c3], _ => exact ⟨_, _, _, _, rfl⟩
   have q0 := hcell 0 (by decide)
   have q1 := hcell 1 (by decide)
   have q2 := hcell 2 (by decide)
   have q3 := hcell 3 (by decide)
   simp only [wayEl, List.getElem?_cons_zero, List.getElem?_cons_succ, Nat.add_zero] at q0 q1 q2 q3
   have HS := Lib.hid (idxL_step p xs k hlt)
   have HCk := Lib.hid (HC.out wr xs[k] [c0, c1, c2, c3] (List.getElem_mem hlt) hE hbl)
   have HB := Lib.hid hbl
   clear hcell hcc hE hcl hbl
   generalize xs[k] = x at *
   go_wp2_with fail
   refine HCk.out.mono ?_
   rintro e w1 ⟨rfl, hb1⟩
   have HB1 := Lib.hid (below_trans HB.out hb1 HB.out.size)
   clear hb1
   cases hpx : p x
   ·go_wp2_with fail
    go_roundw
    case rel => exact ⟨k + 1, by omega, by go_num, Lib.hid (by rw [HK.out, HS.out, if_neg (by simp [hpx])]), HB1.out⟩
    case measure => simp [intOf]; omega
   ·go_wp2_with fail
    go_ret
    exact ⟨by rw [HK.out, HS.out, if_pos hpx]; rfl, HB1.out⟩
  ·obtain rfl : k = xs.length := by omega
   go_wp2_with fail
   go_ret
   exact ⟨by rw [HK.out]; simp [idxL], hbl⟩
theorem ContainsFunc_wy (v : Value) (xs : List WayZ) (p : WayZ → Bool) (f : FuncId) (caps : Array Value) (w : World) (h : RdL wayEl w v xs) (hf : ∀ (args : Array Value) (w : World), (callFunc f args).run Tryz.prog w = .ok (.enter f args) w)
  (hc : ∀ (W : World) (x : WayZ) (cs : List Value), x ∈ xs → (wayEl).E W x cs → Below w.heap.size w W → Calls Tryz.prog f (#[.agg cs.toArray] ++ caps) W fun e w' => e = .returned (.bool (p x)) ∧ Below W.heap.size W w') :
  Calls Tryz.prog 200 #[v, .func (.func f) #[] caps] w fun e w' => e = .returned (.bool (xs.any p)) ∧ Below w.heap.size w w' := by
 have HI := Lib.hid (IndexFunc_wy v xs p f caps w h hf hc)
 have HA := Lib.hid (idxL_any p xs 0 (by omega))
 clear h hc hf
 go_enter Tryz.func200, Tryz.ntmps200
 go_wp2_with fail
 refine HI.out.mono ?_
 rintro e w' ⟨rfl, hb⟩
 have HB := Lib.hid hb
 clear hb
 go_wp2_with fail
 go_ret
 exact ⟨by rw [← HA.out]; rfl, HB.out⟩
theorem ContainsFunc_en (v : Value) (xs : List EndZ) (p : EndZ → Bool) (f : FuncId) (caps : Array Value) (w : World) (h : RdL endEl w v xs) (hf : ∀ (args : Array Value) (w : World), (callFunc f args).run Tryz.prog w = .ok (.enter f args) w)
  (hc : ∀ (W : World) (x : EndZ) (cs : List Value), x ∈ xs → (endEl).E W x cs → Below w.heap.size w W → Calls Tryz.prog f (#[.agg cs.toArray] ++ caps) W fun e w' => e = .returned (.bool (p x)) ∧ Below W.heap.size W w') :
  Calls Tryz.prog 165 #[v, .func (.func f) #[] caps] w fun e w' => e = .returned (.bool (xs.any p)) ∧ Below w.heap.size w w' := by
 have HI := Lib.hid (IndexFunc_en v xs p f caps w h hf hc)
 have HA := Lib.hid (idxL_any p xs 0 (by omega))
 clear h hc hf
 go_enter Tryz.func165, Tryz.ntmps165
 go_wp2_with fail
 refine HI.out.mono ?_
 rintro e w' ⟨rfl, hb⟩
 have HB := Lib.hid hb
 clear hb
 go_wp2_with fail
 go_ret
 exact ⟨by rw [← HA.out]; rfl, HB.out⟩
theorem info_intC : (Tryz.prog.info? 3).map (fun i => (i.zero, i.size, i.bytes)) = some (some (.int .i64 0), 1, 8) := by kernel_rfl
theorem tyC_lt (cs : List Int) (pl : Int) (n : Nat) : (tyC cs pl n).length ≤ n := by
 induction n with
 | zero => simp [tyC]
 | succ n ih =>
  unfold tyC
  split
  ·rw [List.length_append]; simp only [List.length_singleton]; omega
  ·omega
theorem tyH_lt (hs : List Int) (n : Nat) : (tyH hs n).length ≤ n := by
 induction n with
 | zero => simp [tyH]
 | succ n ih =>
  unfold tyH
  split
  ·rw [List.length_append]; simp only [List.length_singleton]; omega
  ·omega
theorem nH_le {hs : List Int} (h : ∀ c ∈ hs, 0 ≤ c ∧ c ≤ 1000) (n : Nat) (hn : n ≤ hs.length) : nH hs n ≤ 1000 * n := by
 induction n with
 | zero => simp [nH]
 | succ n ih =>
  have := ih (by omega)
  have := h (hs.getD n 0) (by rw [List.getD_eq_getElem?_getD, List.getElem?_eq_getElem (by omega)]; exact List.getElem_mem _)
  unfold nH
  split <;> omega
theorem ownC_iff (pl c : Int) : ownC pl c = true ↔ 0 < c ∧ (c - 1) % 2 = pl := by unfold ownC; simp
def TypesPost (p : PosZ) (pl : Int) (w : World) (e : Ending) (w' : World) : Prop := ∃ v, e = .returned (.tuple #[v, .int .i64 (numZ p pl)]) ∧ w'.ownsRow w.heap.size 3 1 v (typesZ p pl).length (ints (typesZ p pl)) ∧ Below w.heap.size w w'
set_option maxRecDepth 100000 in
set_option maxHeartbeats 4000000 in
theorem types_at (cs hs : List Int) (vc v0 v1 hv : Value) (tu qu pl : Int) (w : World) (hc : RdI w vc cs) (hh0 : RdI w hv hs) (hhv : (if pl = 0 then v0 else v1) = hv) (hl : cs.length ≤ 64) (hcb : ∀ i, 0 ≤ cs.getD i 0 ∧ cs.getD i 0 ≤ 1000) (hh : hs.length ≤ 64) (hhb : ∀ c ∈ hs, 0 ≤ c ∧ c ≤ 1000) (hpl : pl = 0 ∨ pl = 1) :
  Calls Tryz.prog 196 #[.agg #[vc, v0, v1, .int .i64 tu, .int .i64 qu], .int .i64 pl] w fun e w' => ∃ v, e = .returned (.tuple #[v, .int .i64 (((tyC cs pl cs.length).length : Int) + nH hs hs.length)]) ∧ w'.ownsRow w.heap.size 3 1 v (tyC cs pl cs.length ++ tyH hs hs.length).length (ints (tyC cs pl cs.length ++ tyH hs hs.length)) ∧ Below w.heap.size w w' := by
 have HCB := Lib.hid hcb
 have HHB := Lib.hid hhb
 have HHd := Lib.hid hh0
 have HC := Lib.hid hc
 obtain ⟨ac, cc, rfl, hc1, hc2⟩ := hc.form
 obtain ⟨ah, ch, rfl, hh1, hh2⟩ := hh0.form
 unfold maxLen at hc2 hh2
 clear hc hh0 hcb hhb
 go_enter Tryz.func196, Tryz.ntmps196
 go_upto_region 1 with (fail)
 refine opn1 fun w0 B0 yb_ hs_ => ?_
 have HB := Lib.hid yb_
 have hz0 : w.heap.size < w0.heap.size := by omega
 clear hs_ yb_
 have HX := Lib.hid B0
 clear B0
 have hw0 : w.heap.size ≤ w0.heap.size := by omega
 have c0 := HX.out.cell 0 rfl
 go_wp2_with fail
 clear c0
 go_loopw [15, 6, 7, 9] (fun vi vo vn a9 wr => ∃ (k : Nat) (o : Value), o = vo ∧ k ≤ cs.length ∧ vi = .int .i64 k ∧ vn = .int .i64 ((tyC cs pl k).length : Int) ∧ Hid (wr.ownsRow w0.heap.size 3 1 vo (tyC cs pl k).length (ints (tyC cs pl k))) ∧ Hid (Below w0.heap.size w0 wr)) (fun i _ _ _ _ => cs.length - (intOf i).toNat)
 case atStart => exact ⟨0, _, rfl, Nat.zero_le _, rfl, rfl, Lib.hid (World.ownsRow_nil _ _ _ _), Lib.hid (Below.refl _ _)⟩
 case round =>
  obtain ⟨k, vo, rfl, hk, rfl, rfl, HO, HBr⟩ := hrel
  have hrs : w0.heap.size ≤ wr.heap.size := HBr.out.size
  have hwr : w.heap.size < wr.heap.size := by omega
  have htl := tyC_lt cs pl k
  by_cases hkl : k < cs.length
  ·obtain ⟨g, oo, rfl, hcc⟩ := cells_rd (HC.out.below (below_trans HB.out HBr.out HB.out.size) (Nat.le_refl _)) (by omega)
   have ck := hcc k hkl
   have hck := HCB.out k
   have HST : Hid (tyC cs pl (k + 1) = if ownC pl (cs.getD k 0) = true then tyC cs pl k ++ [(cs.getD k 0 - 1) / 2] else tyC cs pl k) := Lib.hid rfl
   clear hcc
   generalize cs.getD k 0 = z at *
   obtain ⟨z0, z1⟩ := hck
   by_cases hz : 0 < z
   rotate_left
   ·have HE : Hid (tyC cs pl (k + 1) = tyC cs pl k) := Lib.hid (by rw [HST.out, if_neg (by rw [ownC_iff]; omega)])
    clear HST
    go_wp2_with fail
    go_roundw
    case rel => exact ⟨k + 1, _, rfl, by omega, by go_num, by rw [HE.out], Lib.hid (by rw [HE.out]; exact HO.out), HBr⟩
    case measure => simp [intOf]; omega
   have ht : Int.tmod (z - 1) 2 = (z - 1) % 2 := Int.tmod_eq_emod_of_nonneg (by omega)
   have hd : Int.tdiv (z - 1) 2 = (z - 1) / 2 := Int.tdiv_eq_ediv_of_nonneg (by omega)
   by_cases hm : (z - 1) % 2 = pl
   rotate_left
   ·have HE : Hid (tyC cs pl (k + 1) = tyC cs pl k) := Lib.hid (by rw [HST.out, if_neg (by rw [ownC_iff]; exact fun q => hm q.2)])
    have hm' : ((z - 1) % 2 == pl) = false := by simpa using hm
    clear HST hm
    go_wp2_with fail
    go_roundw
    case rel => exact ⟨k + 1, _, rfl, by omega, by go_num, by rw [HE.out], Lib.hid (by rw [HE.out]; exact HO.out), HBr⟩
    case measure => simp [intOf]; omega
   ·have HE : Hid (tyC cs pl (k + 1) = tyC cs pl k ++ [(z - 1) / 2]) := Lib.hid (by rw [HST.out, if_pos (by rw [ownC_iff]; exact ⟨hz, hm⟩)])
    have hm' : ((z - 1) % 2 == pl) = true := by simpa using hm
    clear HST hm
    obtain ⟨E, hE⟩ : ∃ E, tyC cs pl k = E := ⟨_, rfl⟩
    rw [hE] at HO HE htl ⊢
    clear hE
    go_wp2_with (at_builtin; refine app_new 23 3 (.int .i64 0) 1 8 info_intC Tryz.underlying23 rfl (by decide) (by rfl) _ _ (by rfl) w0.heap.size _ E.length (ints E) [.int .i64 ((z - 1) / 2)] wr HO.out hrs rfl one_int (by omega) (by omega) (by rfl) (by rfl) ?_)
    intro g5 cap5 w5 hown5 hk5 hg5
    have HB5 := Lib.hid (hk5.below HBr.out (Nat.le_refl _))
    have HO5 : Hid (w5.ownsRow w0.heap.size 3 1 (.slice (some ⟨g5, 0, none⟩) (E.length + 1) cap5) (tyC cs pl (k + 1)).length (ints (tyC cs pl (k + 1)))) := Lib.hid (by
     rw [HE.out, List.length_append, ← ints_append]; exact hown5)
    have hEL : (tyC cs pl (k + 1)).length = E.length + 1 := by rw [HE.out]; simp
    clear hown5 hk5 hg5 HO HE
    go_wp2_with fail
    go_roundw
    case rel => exact ⟨k + 1, _, rfl, by omega, by go_num, by rw [hEL]; go_num, HO5, HB5⟩
    case measure => simp [intOf]; omega
  ·obtain rfl : k = cs.length := by omega
   have HX2 := Lib.hid (HX.out.stays HBr.out)
   have c1 := HX2.out.cell 1 rfl
   have c2 := HX2.out.cell 2 rfl
   have hpc : wr.cell? ⟨w.heap.size, 1 + pl.toNat, none⟩ = some (.slice ah hs.length ch) := by
    rcases hpl with rfl | rfl
    ·rw [if_pos rfl] at hhv; rw [← hhv]; exact c1
    ·rw [if_neg (by decide)] at hhv; rw [← hhv]; exact c2
   obtain ⟨E, hE⟩ : ∃ E, tyC cs pl cs.length = E := ⟨_, rfl⟩
   rw [hE] at HO htl ⊢
   have HEQ := Lib.hid hE
   clear hE c1 c2 hhv
   have HO0 : Hid (wr.ownsRow w0.heap.size 3 1 vo (E ++ tyH hs 0).length (ints (E ++ tyH hs 0))) := Lib.hid (by simpa [tyH] using HO.out)
   clear HO
   obtain ⟨pn, rfl⟩ : ∃ pn : Nat, pl = pn := ⟨pl.toNat, by omega⟩
   have hp2 : pn < 2 := by omega
   rw [Int.toNat_natCast] at hpc
   go_wp2_with fail
   clear hpc
   obtain ⟨wA, rfl⟩ : ∃ wA : World, wA = wr := ⟨_, rfl⟩
   go_loopw [42, 6, 7, 10, 11] (fun vi vo vn a9 a10 wr => ∃ (k : Nat) (o : Value), o = vo ∧ k ≤ hs.length ∧ vi = .int .i64 k ∧ vn = .int .i64 ((E.length : Int) + nH hs k) ∧ Hid (wr.ownsRow w0.heap.size 3 1 vo (E ++ tyH hs k).length (ints (E ++ tyH hs k))) ∧ Hid (Below wA.heap.size wA wr ∨ True) ∧ Hid (Below w0.heap.size w0 wr)) (fun i _ _ _ _ _ => hs.length - (intOf i).toNat)
   case atStart => exact ⟨0, _, rfl, Nat.zero_le _, rfl, by simp [nH], HO0, Lib.hid (.inr trivial), HBr⟩
   case round =>
    obtain ⟨k, vo, rfl, hk, rfl, rfl, HO, -, HBr⟩ := hrel
    have hrs : w0.heap.size ≤ wr.heap.size := HBr.out.size
    have hwr : w.heap.size < wr.heap.size := by omega
    have htl2 := tyH_lt hs k
    have hnn := nH_nonneg hs k
    have hnl := nH_le HHB.out k hk
    by_cases hkl : k < hs.length
    ·obtain ⟨g, oo, rfl, hcc⟩ := cells_rd (HHd.out.below (below_trans HB.out HBr.out HB.out.size) (Nat.le_refl _)) (by omega)
     have ck := hcc k hkl
     have hck : 0 ≤ hs.getD k 0 ∧ hs.getD k 0 ≤ 1000 := HHB.out _ (by rw [List.getD_eq_getElem?_getD, List.getElem?_eq_getElem hkl]; exact List.getElem_mem _)
     have HST : Hid (tyH hs (k + 1) = if 0 < hs.getD k 0 then tyH hs k ++ [(k : Int)] else tyH hs k) := Lib.hid rfl
     have HSN : Hid (nH hs (k + 1) = if 0 < hs.getD k 0 then nH hs k + hs.getD k 0 else nH hs k) := Lib.hid rfl
     clear hcc
     generalize hs.getD k 0 = z at *
     obtain ⟨z0, z1⟩ := hck
     by_cases hz : 0 < z
     rotate_left
     ·have HE : Hid (tyH hs (k + 1) = tyH hs k) := Lib.hid (by rw [HST.out, if_neg hz])
      have HE2 : Hid (nH hs (k + 1) = nH hs k) := Lib.hid (by rw [HSN.out, if_neg hz])
      clear HST HSN
      go_wp2_with fail
      go_roundw
      case rel => exact ⟨k + 1, _, rfl, by omega, by go_num, by rw [HE2.out], Lib.hid (by rw [HE.out]; exact HO.out), Lib.hid (.inr trivial), HBr⟩
      case measure => simp [intOf]; omega
     ·have HE : Hid (tyH hs (k + 1) = tyH hs k ++ [(k : Int)]) := Lib.hid (by rw [HST.out, if_pos hz])
      have HE2 : Hid (nH hs (k + 1) = nH hs k + z) := Lib.hid (by rw [HSN.out, if_pos hz])
      clear HST HSN
      obtain ⟨E', hE'⟩ : ∃ E', E ++ tyH hs k = E' := ⟨_, rfl⟩
      have hEl : E'.length ≤ 128 := by rw [← hE', List.length_append]; omega
      have HEE : Hid (E ++ tyH hs (k + 1) = E' ++ [(k : Int)]) := Lib.hid (by rw [HE.out, ← List.append_assoc, hE'])
      rw [hE'] at HO
      clear hE' HE
      go_wp2_with (at_builtin; refine app_new 23 3 (.int .i64 0) 1 8 info_intC Tryz.underlying23 rfl (by decide) (by rfl) _ _ (by rfl) w0.heap.size _ E'.length (ints E') [.int .i64 k] wr HO.out hrs rfl one_int (by omega) (by omega) (by rfl) (by rfl) ?_)
      intro g5 cap5 w5 hown5 hk5 hg5
      have HB5 := Lib.hid (hk5.below HBr.out (Nat.le_refl _))
      have HO5 : Hid (w5.ownsRow w0.heap.size 3 1 (.slice (some ⟨g5, 0, none⟩) (E'.length + 1) cap5) (E ++ tyH hs (k + 1)).length (ints (E ++ tyH hs (k + 1)))) := Lib.hid (by
       rw [HEE.out, List.length_append, ← ints_append]; exact hown5)
      clear hown5 hk5 hg5 HO HEE
      go_wp2_with fail
      go_roundw
      case rel => exact ⟨k + 1, _, rfl, by omega, by go_num, by rw [HE2.out, Int.add_assoc], HO5, Lib.hid (.inr trivial), HB5⟩
      case measure => simp [intOf]; omega
    ·obtain rfl : k = hs.length := by omega
     have HOw := Lib.hid (own_base HO.out hw0)
     have HBw := Lib.hid (below_trans HB.out HBr.out HB.out.size)
     obtain ⟨av, cv, rfl⟩ := own_form2 HOw.out
     clear HO
     go_wp2_with fail
     go_ret2
     exact ⟨_, by rw [HEQ.out]; rfl, by rw [HEQ.out]; exact HOw.out, HBw.out⟩
theorem types_any (p : PosZ) (vc v0 v1 : Value) (pl : Int) (w : World) (hp : RdP w p vc v0 v1) {R : RulesZ} (K : POk R p) (hpl : pl = 0 ∨ pl = 1) : Calls Tryz.prog 196 #[(.agg #[vc, v0, v1, .int .i64 p.turn, .int .i64 p.quiet]), .int .i64 pl] w (TypesPost p pl w) := by
 refine (types_at p.cells (p.hand pl) vc v0 v1 (if pl = 0 then v0 else v1) p.turn p.quiet pl w hp.1 ?_ rfl K.len (fun i => ?_) ?_ ?_ hpl).mono fun e w' h => h
 ·unfold PosZ.hand
  split
  ·exact hp.2.1
  ·exact hp.2.2
 ·have := K.cell i; have := K.r.np; omega
 ·have h0 := K.l0; have h1 := K.l1; have := K.r.np
  unfold PosZ.hand
  split <;> omega
 ·unfold PosZ.hand
  split
  ·exact K.b0
  ·exact K.b1
end Go.Proofs.YtnodagljaoonjaaGreatDoor

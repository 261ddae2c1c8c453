/- PmA: PatL1, PatMoreP, Cut, Find, in one text. -/
import Derived.Test.YtkfaibdflbdpgaaPatC
import Derived.Test.YtkfaibdflbdpgaaApp
import Derived.Test.YtkfaibdflbdpgaaGmC
import Derived.Test.YtkfaibdflbdpgaaTic
import Derived.Test.YtkfaibdflbdpgaaSub
/- The contracts of pattern.list and pattern.All. -/
namespace Go.Proofs.Ytkfaibdflbdpgaa
open Go.ChangeShapes Go.WideShapes Go.ChangeAt Go.RowKit
set_option linter.unusedVariables false

def atsTo (R : RulesZ) (x : PatZ) (p : PosZ) (k : Nat) : List Int := ((List.range k).filter fun s : Nat => atZ R x p (s : Int)).map fun s : Nat => (s : Int)
def listPZ (R : RulesZ) (x : PatZ) (p : PosZ) : List Int := atsTo R x p p.cells.length
theorem atsTo_succ (R : RulesZ) (x : PatZ) (p : PosZ) (k : Nat) : atsTo R x p (k + 1) = atsTo R x p k ++ if atZ R x p (k : Int) = true then [(k : Int)] else [] := by
  unfold atsTo
  rw [List.range_succ, List.filter_append, List.map_append]
  congr 1
  by_cases e : atZ R x p (k : Int) = true <;> simp [e]
theorem atsTo_len (R : RulesZ) (x : PatZ) (p : PosZ) (k : Nat) : (atsTo R x p k).length ≤ k := by
  unfold atsTo
  rw [List.length_map]
  have := List.length_filter_le (fun s : Nat => atZ R x p (s : Int)) (List.range k)
  simpa using this
theorem info_int : (Try.prog.info? 3).map (fun i => (i.zero, i.size, i.bytes)) = some (some (.int .i64 0), 1, 8) := by kernel_rfl
set_option maxRecDepth 100000 in
set_option maxHeartbeats 4000000 in
theorem list_any (R : RulesZ) (vp vs ve : Value) (x : PatZ) (vx : Value) (p : PosZ) (vc v0 v1 : Value) (w : World) (hx : RdI w vx x.cells) (hp : RdP w p vc v0 v1) (F : ∀ s, 0 ≤ s → s < (p.cells.length : Int) → Fit R x p s) (hpl : p.cells.length ≤ 64) :
    Calls Try.prog 89 #[(.agg #[.string R.name, .int .i64 R.width, .int .i64 R.height, vp, vs, .bool R.falls, .bool R.keeps, ve, .int .i64 R.blocked, .int .i64 R.quiet, .int .i64 R.rept]), .agg #[.int .i64 x.width, .int .i64 x.height, vx, .int .i64 x.turn], (.agg #[vc, v0, v1, .int .i64 p.turn, .int .i64 p.quiet])] w fun e w' => ∃ v, e = .returned v ∧ w'.ownsRow w.heap.size 3 1 v (listPZ R x p).length (ints (listPZ R x p)) ∧ Below w.heap.size w w' := by
  have HX := Lib.hid hx
  have HP := Lib.hid hp
  have HF := Lib.hid F
  obtain ⟨ac, cc, rfl, hc1, hc2⟩ := hp.1.form
  unfold maxLen at hc2
  clear hx hp F
  go_enter Try.func89, Try.ntmps89
  go_upto_region 1 with (fail)
  have B0 : Box (((w.alloc (.cells #[.string R.name, .int .i64 R.width, .int .i64 R.height, vp, vs, .bool R.falls, .bool R.keeps, ve, .int .i64 R.blocked, .int .i64 R.quiet, .int .i64 R.rept] 26)).alloc (.cells #[.int .i64 x.width, .int .i64 x.height, vx, .int .i64 x.turn] 78)).alloc (.cells #[.slice ac p.cells.length cc, v0, v1, .int .i64 p.turn, .int .i64 p.quiet] 37)) (w.heap.size) [.string R.name, .int .i64 R.width, .int .i64 R.height, vp, vs, .bool R.falls, .bool R.keeps, ve, .int .i64 R.blocked, .int .i64 R.quiet, .int .i64 R.rept] 26 := (((Box.new' w (w.heap.size) [.string R.name, .int .i64 R.width, .int .i64 R.height, vp, vs, .bool R.falls, .bool R.keeps, ve, .int .i64 R.blocked, .int .i64 R.quiet, .int .i64 R.rept] 26 (by simp <;> omega)).alloc _).alloc _)
  have B1 : Box (((w.alloc (.cells #[.string R.name, .int .i64 R.width, .int .i64 R.height, vp, vs, .bool R.falls, .bool R.keeps, ve, .int .i64 R.blocked, .int .i64 R.quiet, .int .i64 R.rept] 26)).alloc (.cells #[.int .i64 x.width, .int .i64 x.height, vx, .int .i64 x.turn] 78)).alloc (.cells #[.slice ac p.cells.length cc, v0, v1, .int .i64 p.turn, .int .i64 p.quiet] 37)) (w.heap.size + 1) [.int .i64 x.width, .int .i64 x.height, vx, .int .i64 x.turn] 78 := ((Box.new' (w.alloc (.cells #[.string R.name, .int .i64 R.width, .int .i64 R.height, vp, vs, .bool R.falls, .bool R.keeps, ve, .int .i64 R.blocked, .int .i64 R.quiet, .int .i64 R.rept] 26)) (w.heap.size + 1) [.int .i64 x.width, .int .i64 x.height, vx, .int .i64 x.turn] 78 (by simp <;> omega)).alloc _)
  have B2 : Box (((w.alloc (.cells #[.string R.name, .int .i64 R.width, .int .i64 R.height, vp, vs, .bool R.falls, .bool R.keeps, ve, .int .i64 R.blocked, .int .i64 R.quiet, .int .i64 R.rept] 26)).alloc (.cells #[.int .i64 x.width, .int .i64 x.height, vx, .int .i64 x.turn] 78)).alloc (.cells #[.slice ac p.cells.length cc, v0, v1, .int .i64 p.turn, .int .i64 p.quiet] 37)) (w.heap.size + 1 + 1) [.slice ac p.cells.length cc, v0, v1, .int .i64 p.turn, .int .i64 p.quiet] 37 := (Box.new' ((w.alloc (.cells #[.string R.name, .int .i64 R.width, .int .i64 R.height, vp, vs, .bool R.falls, .bool R.keeps, ve, .int .i64 R.blocked, .int .i64 R.quiet, .int .i64 R.rept] 26)).alloc (.cells #[.int .i64 x.width, .int .i64 x.height, vx, .int .i64 x.turn] 78)) (w.heap.size + 1 + 1) [.slice ac p.cells.length cc, v0, v1, .int .i64 p.turn, .int .i64 p.quiet] 37 (by simp <;> omega))
  have HB : Hid (Below w.heap.size w (((w.alloc (.cells #[.string R.name, .int .i64 R.width, .int .i64 R.height, vp, vs, .bool R.falls, .bool R.keeps, ve, .int .i64 R.blocked, .int .i64 R.quiet, .int .i64 R.rept] 26)).alloc (.cells #[.int .i64 x.width, .int .i64 x.height, vx, .int .i64 x.turn] 78)).alloc (.cells #[.slice ac p.cells.length cc, v0, v1, .int .i64 p.turn, .int .i64 p.quiet] 37))) := Lib.hid ((((Below.refl w.heap.size w).alloc (Nat.le_refl _) _).alloc (by simp <;> omega) _).alloc (by simp <;> omega) _)
  have hz0 : w.heap.size + 1 + 1 < (((w.alloc (.cells #[.string R.name, .int .i64 R.width, .int .i64 R.height, vp, vs, .bool R.falls, .bool R.keeps, ve, .int .i64 R.blocked, .int .i64 R.quiet, .int .i64 R.rept] 26)).alloc (.cells #[.int .i64 x.width, .int .i64 x.height, vx, .int .i64 x.turn] 78)).alloc (.cells #[.slice ac p.cells.length cc, v0, v1, .int .i64 p.turn, .int .i64 p.quiet] 37)).heap.size := by simp
  generalize (((w.alloc (.cells #[.string R.name, .int .i64 R.width, .int .i64 R.height, vp, vs, .bool R.falls, .bool R.keeps, ve, .int .i64 R.blocked, .int .i64 R.quiet, .int .i64 R.rept] 26)).alloc (.cells #[.int .i64 x.width, .int .i64 x.height, vx, .int .i64 x.turn] 78)).alloc (.cells #[.slice ac p.cells.length cc, v0, v1, .int .i64 p.turn, .int .i64 p.quiet] 37)) = w0 at *
  have HXw := Lib.hid (HX.out.below HB.out (Nat.le_refl _))
  have HPw := Lib.hid (HP.out.below HB.out (Nat.le_refl _))
  have HB0 := Lib.hid B0
  have HB1 := Lib.hid B1
  have HB2 := Lib.hid B2
  have q0 := B2.cell 0 rfl
  clear B0 B1 B2
  go_wp2_with fail
  clear q0
  go_loopw [12, 8, 7] (fun vi vs' vo wr => ∃ (k : Nat) (o : Value), o = vo ∧ k ≤ p.cells.length ∧ vi = .int .i64 k ∧ Hid (Below w0.heap.size w0 wr) ∧ Hid (wr.ownsRow w0.heap.size 3 1 vo (atsTo R x p k).length (ints (atsTo R x p k)))) (fun i _ _ _ => p.cells.length - (intOf i).toNat)
  case atStart => exact ⟨0, _, rfl, Nat.zero_le _, rfl, Lib.hid (Below.refl _ _), Lib.hid (World.ownsRow_nil _ _ _ _)⟩
  case round =>
    obtain ⟨k, vo, rfl, hk, rfl, HBr, HO⟩ := hrel
    have hsz := HBr.out.size
    have HBw := Lib.hid (below_trans HB.out HBr.out HB.out.size)
    by_cases hlt : k < p.cells.length
    · have HY0 := Lib.hid (HB0.out.stays HBr.out)
      have HY1 := Lib.hid (HB1.out.stays HBr.out)
      have HY2 := Lib.hid (HB2.out.stays HBr.out)
      have HSn := Lib.hid (atsTo_succ R x p k)
      have hal := atsTo_len R x p k
      go_upto_region 5 with (fail)
      refine wp_region_lit ?_
      refine wpList_load_box (by rfl) 26 (.tmp 3) (by rfl) (w.heap.size) (by rfl) HY0.out Try.underlying26 (by rfl) (by kernel_rfl) ?_
      refine wpList_load_box (by rfl) 78 (.tmp 4) (by rfl) (w.heap.size + 1) (by rfl) HY1.out Try.underlying78 (by rfl) (by kernel_rfl) ?_
      refine wpList_load_box (by rfl) 37 (.tmp 5) (by rfl) (w.heap.size + 1 + 1) (by rfl) HY2.out Try.underlying37 (by rfl) (by kernel_rfl) ?_
      go_wp2_with fail
      refine (at_any R vp vs ve x vx p _ v0 v1 (k : Int) wr (HX.out.below HBw.out (Nat.le_refl _)) (HP.out.below HBw.out (Nat.le_refl _)) (HF.out k (by omega) (by omega))).mono ?_
      rintro e w2 ⟨rfl, hb2⟩
      have HB2' := Lib.hid (HBr.out.trans (hb2.mono hsz))
      have HO2 := Lib.hid (own_stays HO.out hb2)
      have hs2 := hb2.size
      clear hb2 HO
      cases hat : atZ R x p (k : Int)
      · go_wp2_with fail
        go_roundw
        case rel => exact ⟨k + 1, _, rfl, by omega, by go_num, HB2', Lib.hid (by rw [HSn.out, hat]; simpa using HO2.out)⟩
        case measure => simp [intOf]; omega
      · go_wp2_with (at_builtin; refine app_new 23 3 (.int .i64 0) 1 8 info_int Try.underlying23 rfl (by decide) (by rfl) _ _ (by rfl) w0.heap.size _ (atsTo R x p k).length (ints (atsTo R x p k)) [.int .i64 k] w2 HO2.out (by omega) rfl one_int (by omega) (by omega) (by rfl) (by rfl) ?_)
        intro g3 cap3 w3 hown3 hkeep3 _
        have HO3 := Lib.hid hown3
        have HB3 := Lib.hid (hkeep3.below HB2'.out (Nat.le_refl _))
        clear hown3 hkeep3
        go_wp2_with fail
        go_roundw
        case rel => exact ⟨k + 1, _, rfl, by omega, by go_num, HB3, Lib.hid (by rw [HSn.out, hat, if_pos rfl, ← ints_append, List.length_append]; exact HO3.out)⟩
        case measure => simp [intOf]; omega
    · obtain rfl : k = p.cells.length := by omega
      go_wp2_with fail
      go_ret
      exact ⟨_, rfl, own_base HO.out HB.out.size, HBw.out⟩
theorem chk_parts {R : RulesZ} {x : PatZ} {p : PosZ} (h : chkErr R x p = 0) : patErr R x = 0 ∧ posErr R p = 0 := by
  unfold chkErr at h
  by_cases e : patErr R x ≠ 0
  · rw [if_pos e] at h; exact absurd h e
  · rw [if_neg e] at h; exact ⟨by omega, h⟩
theorem pos_len {R : RulesZ} {p : PosZ} (h : posErr R p = 0) : p.cells.length ≤ 64 := by
  obtain ⟨hr, pl, _⟩ := posOk h
  obtain ⟨hw, hh, hn⟩ := rulesOk hr
  have := mul_in R.width R.height 8 8 hw.1 hw.2 hh.1 hh.2
  omega
end Go.Proofs.Ytkfaibdflbdpgaa
/- PatternMore: the plain law: a pattern with fewer conditions is found wherever the pattern is. -/
namespace Go.Proofs.Ytkfaibdflbdpgaa
set_option linter.unusedVariables false
/-- the hits of one position. -/
def hitsAt (R : RulesZ) (x : PatZ) (p : PosZ) (j : Int) : List MoveZ := (listPZ R x p).map fun s => ⟨0, j, s⟩
/-- the hits of the plies before k. -/
def hitsTo (R : RulesZ) (x : PatZ) (l : List MoveZ) (k : Nat) : List MoveZ := (List.range k).flatMap fun j => hitsAt R x (nowZ R (l.take j)) j
theorem hitsTo_succ (R : RulesZ) (x : PatZ) (l : List MoveZ) (k : Nat) : hitsTo R x l (k + 1) = hitsTo R x l k ++ hitsAt R x (nowZ R (l.take k)) k := by
  unfold hitsTo
  rw [List.range_succ, List.flatMap_append]; simp
def findErr (R : RulesZ) (x : PatZ) (l : List MoveZ) : Int := if patErr R x ≠ 0 then patErr R x else if runErr R l ≠ 0 then runErr R l else if 1000 < (hitsTo R x l (l.length + 1)).length then 9 else 0
theorem hitsAt_len (R : RulesZ) (x : PatZ) (p : PosZ) (j : Int) : (hitsAt R x p j).length ≤ p.cells.length := by
  unfold hitsAt listPZ
  rw [List.length_map]; exact atsTo_len R x p _
theorem hitsTo_len {R : RulesZ} {x : PatZ} {l : List MoveZ} {n : Nat} (h : ∀ j, j ≤ l.length → (nowZ R (l.take j)).cells.length ≤ n) (k : Nat) (hk : k ≤ l.length + 1) : (hitsTo R x l k).length ≤ n * k := by
  induction k with
  | zero => simp [hitsTo]
  | succ k ih =>
    rw [hitsTo_succ, List.length_append, Nat.mul_succ]
    have h1 := ih (by omega)
    have h2 := hitsAt_len R x (nowZ R (l.take k)) k
    have h3 := h k (by omega)
    omega
/-- a pattern with one condition fewer. -/
def morePat (x : PatZ) (at' : Int) : PatZ := if 0 ≤ at' ∧ at' < (x.cells.length : Int) then { x with cells := x.cells.set at'.toNat (-1) } else x
theorem morePat_eq (x : PatZ) (i : Int) : morePat x i = { x with cells := (morePat x i).cells } ∧ (morePat x i).cells.length = x.cells.length := by
  unfold morePat
  split
  · exact ⟨rfl, by simp⟩
  · exact ⟨rfl, rfl⟩
theorem more_at {R : RulesZ} {x : PatZ} {i : Int} {p : PosZ} {s : Int} (h : atZ R x p s = true) : atZ R (morePat x i) p s = true := by
  unfold morePat
  split
  · rename_i hi
    unfold atZ at h ⊢
    split at h
    · cases h
    · rename_i hn
      rw [if_neg hn, List.all_eq_true]
      rw [List.all_eq_true] at h
      intro j hj
      have hj' : j < x.cells.length := by simpa using hj
      have := h j (by simpa using hj')
      show fitsZ ((x.cells.set i.toNat (-1)).getD j 0) _ = true
      by_cases e : i.toNat = j
      · rw [e, List.getD_eq_getElem?_getD, List.getElem?_set_self hj']; exact fitsZ_1 _
      · rw [List.getD_eq_getElem?_getD, List.getElem?_set_ne e, ← List.getD_eq_getElem?_getD]; exact this
  · exact h
theorem more_ok {R : RulesZ} {x : PatZ} {i : Int} (h : patErr R x = 0) : patErr R (morePat x i) = 0 := by
  unfold morePat
  split
  · rename_i hi
    obtain ⟨hr, hw, hh, hl, hc, ht⟩ := patOk h
    unfold patErr
    have ha : ¬ (x.cells.set i.toNat (-1)).any (fun z => !wb z (-3) (2 * (R.pieces.length : Int))) = true := by
      simp only [List.any_eq_true, not_exists, not_and, Bool.not_eq_true]
      intro c hc'
      rcases List.mem_or_eq_of_mem_set hc' with q | q
      · rw [(wb_iff _ _ _).2 (hc c q)]; rfl
      · rw [q, (wb_iff _ _ _).2 ⟨by omega, by omega⟩]; rfl
    rw [if_neg (by simp [hr]), if_neg (by simp only [(wb_iff _ _ _).2 hw, (wb_iff _ _ _).2 hh]; simp), if_neg (by simp only [List.length_set]; simpa using hl), if_neg ha, if_neg (by simp only [(wb_iff _ _ _).2 ht]; simp)]
  · exact h
theorem list_more (R : RulesZ) (x : PatZ) (i : Int) (p : PosZ) : (listPZ R x p).Sublist (listPZ R (morePat x i) p) := by
  unfold listPZ atsTo
  refine List.Sublist.map _ ?_
  have e : (List.range p.cells.length).filter (fun s : Nat => atZ R x p (s : Int)) = ((List.range p.cells.length).filter (fun s : Nat => atZ R (morePat x i) p (s : Int))).filter (fun s : Nat => atZ R x p (s : Int)) := by
    rw [List.filter_filter]
    congr 1
    funext s
    cases h : atZ R x p (s : Int)
    · rfl
    · rw [more_at h]; rfl
  rw [e]
  exact List.filter_sublist
theorem hits_more (R : RulesZ) (x : PatZ) (i : Int) (l : List MoveZ) (k : Nat) : (hitsTo R x l k).Sublist (hitsTo R (morePat x i) l k) := by
  induction k with
  | zero => simp [hitsTo]
  | succ k ih =>
    rw [hitsTo_succ, hitsTo_succ]
    exact List.Sublist.append ih ((list_more R x i _).map _)
/-- one step of the search for a list in another one. -/
theorem greedy_in {a b : List MoveZ} {k j : Nat} (h : (a.drop k).Sublist (b.drop j)) (hk : k < a.length) (hj : j < b.length) (he : a.getD k default = b.getD j default) : (a.drop (k + 1)).Sublist (b.drop (j + 1)) := by
  rw [List.drop_eq_getElem_cons hk, List.drop_eq_getElem_cons hj] at h
  rw [List.getD_eq_getElem?_getD, List.getD_eq_getElem?_getD, List.getElem?_eq_getElem hk, List.getElem?_eq_getElem hj] at he
  simp only [Option.getD_some] at he
  rw [he] at h
  exact List.cons_sublist_cons.1 h
theorem greedy_end {a b : List MoveZ} {k j : Nat} (hk : ¬ k < a.length) : (a.drop k).Sublist (b.drop j) := by
  rw [List.drop_of_length_le (by omega)]; exact List.nil_sublist _
theorem greedy_out {a b : List MoveZ} {k j : Nat} (h : (a.drop k).Sublist (b.drop j)) (hk : k < a.length) (hj : j < b.length) (he : ¬ a.getD k default = b.getD j default) : (a.drop k).Sublist (b.drop (j + 1)) := by
  rw [List.drop_eq_getElem_cons hk, List.drop_eq_getElem_cons hj] at h
  rw [List.getD_eq_getElem?_getD, List.getD_eq_getElem?_getD, List.getElem?_eq_getElem hk, List.getElem?_eq_getElem hj] at he
  simp only [Option.getD_some] at he
  rw [List.drop_eq_getElem_cons hk]
  rcases List.sublist_cons_iff.1 h with h | ⟨r, e, h⟩
  · exact h
  · exact absurd (List.cons.inj e).1 he
theorem greedy_all {a b : List MoveZ} {k : Nat} (h : (a.drop k).Sublist (b.drop b.length)) (hk : k ≤ a.length) : k = a.length := by
  rw [List.drop_length] at h
  have := List.eq_nil_of_sublist_nil h
  have := List.drop_eq_nil_iff.1 this
  omega
theorem find_bound {R : RulesZ} {x : PatZ} {l : List MoveZ} (hs : R.start.length ≤ 20) (hl : l.length ≤ 40) (hr : runErr R l = 0) (hre : rulesErr R = 0) (hla : LegalAll R (beginZ R) l) : (hitsTo R x l (l.length + 1)).length ≤ 1000 := by
  have hb := begin_ok hre
  have := hitsTo_len (R := R) (x := x) (l := l) (n := 20) (fun j hj => by
    have hp := posAt_ok hb hla j hj
    have h1 := hp.cl
    have h2 := hp.r.sl
    have : (nowZ R (l.take j)).cells.length = R.start.length := by
      unfold nowZ
      omega
    omega) (l.length + 1) (Nat.le_refl _)
  omega
end Go.Proofs.Ytkfaibdflbdpgaa
/- gamehallkeep3.cut, great; append of one new element, with the block where it lies. -/
namespace Go.Proofs.Ytkfaibdflbdpgaa
open Go.ChangeShapes Go.WideShapes Go.ChangeAt Go.RowKit
set_option linter.unusedVariables false
theorem minG (a : Nat) (b : Int) (hb : 0 ≤ b) : ∃ m : Nat, (if b < (a : Int) then b else (a : Int)) = (m : Int) ∧ m ≤ a ∧ (m : Int) ≤ b := by
  by_cases h : b < a
  · exact ⟨b.toNat, by rw [if_pos (by omega)]; omega, by omega, by omega⟩
  · exact ⟨a, by rw [if_neg (by omega)], by omega, by omega⟩
set_option maxRecDepth 100000 in
theorem cut_any (v : Value) (l : List MoveZ) (w : World) (hl : RdL moveEl w v l) : Calls Try.prog 33 #[v] w fun e w' => w' = w ∧ ∃ v', e = .returned v' ∧ RdL moveEl w v' (l.take 40) := by
  have HL := Lib.hid hl
  obtain ⟨a, c, rfl, h1, h2⟩ := hl.form
  unfold maxLen at h2
  obtain ⟨n, hk, k1, k2⟩ := minG l.length 40 (by omega)
  have HT : Hid (RdL moveEl w (.slice a n c) (l.take 40)) := Lib.hid (by
    have e : l.take 40 = l.take n := by
      by_cases h : (40 : Int) < l.length
      · rw [if_pos h] at hk
        rw [show n = 40 by omega]
      · rw [if_neg h] at hk
        rw [List.take_of_length_le (by omega), List.take_of_length_le (by omega)]
    rw [e]; exact hl.take n k1)
  have hsl : ∀ w' : World, (Instr.slice 32 (.slice a l.length c) none (some (.int .i64 (n : Int))) none).run Try.prog w' = .ok (.slice a n c) w' := fun w' =>
    run_take (P := Try.prog) (t := 32) (s := 3) Try.underlying32 (fun w => by kernel_rfl) a l.length c n (by omega) w'
  clear hl
  go_enter Try.func33, Try.ntmps33
  go_wp2_with fail
  go_ret
  exact ⟨rfl, _, rfl, HT.out⟩
set_option maxRecDepth 100000 in
theorem great_anyG (R : RulesZ) (vp vs ve : Value) (w : World) (h : RdI w vs R.start) : Calls Try.prog 27 #[(.agg #[.string R.name, .int .i64 R.width, .int .i64 R.height, vp, vs, .bool R.falls, .bool R.keeps, ve, .int .i64 R.blocked, .int .i64 R.quiet, .int .i64 R.rept])] w fun e w' => e = .returned (.bool (decide (20 < (R.start.length : Int)))) ∧ Below w.heap.size w w' := by
  obtain ⟨a, c, rfl, h1, h2⟩ := h.form
  unfold maxLen at h2
  clear h
  go_enter Try.func27, Try.ntmps27
  go_wp2
  go_ret
  exact ⟨rfl, (Below.refl _ _).alloc (Nat.le_refl _) _⟩
theorem app_newC {ops : Array Oper} {rest : List Oper} {o : Oper} {a : Act} {Q : Exit → Act → World → Prop} (t e : TypeId) (z : Value) (k b : Nat)
    (hI : (Try.prog.info? e).map (fun i => (i.zero, i.size, i.bytes)) = some (some z, k, b)) (ht : Try.prog.underlying t = some (.slice e)) (hzs : z.cells.size = k) (hk : 0 < k) (hgd : o.guard = none) (s x : Operand)
    (ho : o.op = .call { callee := .builtin .append, args := #[s, x], argTypes := #[t, t] }) (base : Nat) (v : Value) (n : Nat) (xs news : List Value) (W : World) (hown : W.ownsRow base e k v n xs) (hb : base ≤ W.heap.size)
    (hl : news.length = k) (h1 : ∀ u ∈ news, u.oneCell' = true) (hn : n + 1 ≤ 100000000) (hbb : (n + 1) * b ≤ 140737488355328) (hs : a.eval s = v) (hx : a.eval x = .slice (some ⟨W.heap.size, 0, none⟩) 1 1)
    (h : ∀ g cap w', w'.ownsRow base e k (.slice (some ⟨g, 0, none⟩) (n + 1) cap) (n + 1) (xs ++ news) → (W.alloc (.cells news.toArray e)).grownBy w' v.ownBlock → (v.ownBlock = some g ∨ W.heap.size ≤ g) →
      wpList Try.prog ops Q rest (a.put o.dst (.slice (some ⟨g, 0, none⟩) (n + 1) cap)) w') : wpList Try.prog ops Q (o :: rest) a (W.alloc (.cells news.toArray e)) := by
  obtain ⟨i, hi, hz, hsz, hby⟩ := info_of hI
  refine wpList_append_lies _ hgd s x t ho base e i z k b ht hi hz hsz hby hzs hk v n xs hs (hown.alloc _) ⟨W.heap.size, 0, none⟩ 1 1 news hx (by rw [hl, Nat.one_mul]) (new_cells W news e) h1 (by decide) (by unfold maxLen; omega) hbb (by simp; omega) _ rfl ?_
  intro g cap w' hown' hg hat hlt
  refine h g cap w' hown' hg ?_
  rcases hat with e | e
  · exact .inl e
  · right; rw [e]; simp
/-- a box that is written, and a row that grows. -/
def BoxS (b : Nat) (vo : Value) : Nat → Prop := fun k => k = b ∨ vo.ownBlock = some k
theorem boxS_shr {b : Nat} {vo : Value} {w : World} {g n c : Nat} (h : vo.ownBlock = some g ∨ w.heap.size ≤ g) : Shr w (BoxS b vo) (BoxS b (.slice (some ⟨g, 0, none⟩) n c)) := fun k hk hs => by
  rcases hs with hs | hs
  · exact .inl hs
  · obtain rfl : g = k := by simpa [Value.ownBlock] using hs
    rcases h with e | e
    · exact .inr e
    · omega
theorem Fr.app {S : Nat → Prop} {w w' : World} {o : Obj} {vo : Value} (hg : (w.alloc o).grownBy w' vo.ownBlock) (hS : ∀ k, vo.ownBlock = some k → S k) : Fr S w w' := ((Fr.refl _ w).alloc o).grown hg (fun k hk _ => hS k hk)
theorem Box.app {w w' : World} {b base : Nat} {cs : List Value} {t e : TypeId} {sz n : Nat} {vo : Value} {xs : List Value} {o : Obj} (h : Box w b cs t) (ho : w.ownsRow base e sz vo n xs) (hg : (w.alloc o).grownBy w' vo.ownBlock) (hb : b < base) : Box w' b cs t :=
  (h.alloc o).grown hg (fun e => by have := (ho.lt b e.symm).1; omega)
theorem Below.app {w w0 w' : World} {B base : Nat} {e : TypeId} {sz n : Nat} {vo : Value} {xs : List Value} {o : Obj} (h : Below B w0 w) (ho : w.ownsRow base e sz vo n xs) (hg : (w.alloc o).grownBy w' vo.ownBlock) (hb : B ≤ base) (hB : B ≤ w.heap.size) : Below B w0 w' :=
  Below.grown (h.alloc hB o) hg (by simp; omega) (fun k hk => by have := (ho.lt k hk).1; omega)
end Go.Proofs.Ytkfaibdflbdpgaa
/- The contract of pattern.Find over one game. -/
namespace Go.Proofs.Ytkfaibdflbdpgaa
open Go.ChangeShapes Go.WideShapes Go.ChangeAt Go.RowKit
set_option linter.unusedVariables false

theorem now_step (R : RulesZ) (l : List MoveZ) (k : Nat) (h : k < l.length) : makeZ R (nowZ R (l.take k)) (l.getD k default) = nowZ R (l.take (k + 1)) := by
  unfold nowZ
  rw [posAt_take R _ l k h]
def FindPost (R : RulesZ) (x : PatZ) (l : List MoveZ) (w : World) (e : Ending) (w' : World) : Prop :=
  (findErr R x l ≠ 0 ∧ e = .returned (.tuple #[.slice none 0 0, .int .i64 (findErr R x l)]) ∧ Below w.heap.size w w') ∨
  (findErr R x l = 0 ∧ ∃ v, e = .returned (.tuple #[v, .int .i64 0]) ∧ w'.ownsRow w.heap.size 84 3 v (hitsTo R x l (l.length + 1)).length (flatM (hitsTo R x l (l.length + 1))) ∧ Below w.heap.size w w')
theorem info_hit : (Try.prog.info? 84).map (fun i => (i.zero, i.size, i.bytes)) = some (some (.agg #[.int .i64 0, .int .i64 0, .int .i64 0]), 3, 24) := by kernel_rfl
theorem hits_snoc (R : RulesZ) (x : PatZ) (p : PosZ) (j : Int) (i : Nat) (h : i < (listPZ R x p).length) : (hitsAt R x p j).take (i + 1) = (hitsAt R x p j).take i ++ [⟨0, j, (listPZ R x p).getD i 0⟩] := by
  have hl : i < (hitsAt R x p j).length := by unfold hitsAt; simpa using h
  rw [List.take_succ_eq_append_getElem hl]
  congr 2
  simp [hitsAt, List.getD_eq_getElem?_getD, List.getElem?_eq_getElem h]
set_option maxRecDepth 100000 in
set_option maxHeartbeats 8000000 in
theorem Find_one (HS : SortMvSaid) (R : RulesZ) (vp vs ve : Value) (x : PatZ) (vx v : Value) (l : List MoveZ) (bg : Nat) (w : World) (hr : RdR w R vp vs ve) (hnm : R.name.size ≤ maxLen) (hx : RdI w vx x.cells) (hl : RdL moveEl w v l) (hg : Box w bg [v] 32) :
    Calls Try.prog 47 #[(.agg #[.string R.name, .int .i64 R.width, .int .i64 R.height, vp, vs, .bool R.falls, .bool R.keeps, ve, .int .i64 R.blocked, .int .i64 R.quiet, .int .i64 R.rept]), .agg #[.int .i64 x.width, .int .i64 x.height, vx, .int .i64 x.turn], .slice (some ⟨bg, 0, none⟩) 1 1] w (FindPost R x l w) := by
  have HSh := Lib.hid HS
  have HR := Lib.hid hr
  have HN := Lib.hid hnm
  have HX := Lib.hid hx
  have HL := Lib.hid hl
  have HG := Lib.hid hg
  have HFE : Hid (findErr R x l = if patErr R x ≠ 0 then patErr R x else if runErr R l ≠ 0 then runErr R l else if 1000 < (hitsTo R x l (l.length + 1)).length then 9 else 0) := Lib.hid rfl
  obtain ⟨a, c, rfl, h1, h2⟩ := hl.form
  unfold maxLen at h2
  clear hr hnm hx hl hg HS
  go_enter Try.func47, Try.ntmps47
  go_upto_region 1 with (fail)
  have B0 : Box ((w.alloc (.cells #[.string R.name, .int .i64 R.width, .int .i64 R.height, vp, vs, .bool R.falls, .bool R.keeps, ve, .int .i64 R.blocked, .int .i64 R.quiet, .int .i64 R.rept] 26)).alloc (.cells #[.int .i64 x.width, .int .i64 x.height, vx, .int .i64 x.turn] 78)) (w.heap.size) [.string R.name, .int .i64 R.width, .int .i64 R.height, vp, vs, .bool R.falls, .bool R.keeps, ve, .int .i64 R.blocked, .int .i64 R.quiet, .int .i64 R.rept] 26 := ((Box.new' w (w.heap.size) [.string R.name, .int .i64 R.width, .int .i64 R.height, vp, vs, .bool R.falls, .bool R.keeps, ve, .int .i64 R.blocked, .int .i64 R.quiet, .int .i64 R.rept] 26 (by simp <;> omega)).alloc _)
  have B1 : Box ((w.alloc (.cells #[.string R.name, .int .i64 R.width, .int .i64 R.height, vp, vs, .bool R.falls, .bool R.keeps, ve, .int .i64 R.blocked, .int .i64 R.quiet, .int .i64 R.rept] 26)).alloc (.cells #[.int .i64 x.width, .int .i64 x.height, vx, .int .i64 x.turn] 78)) (w.heap.size + 1) [.int .i64 x.width, .int .i64 x.height, vx, .int .i64 x.turn] 78 := (Box.new' (w.alloc (.cells #[.string R.name, .int .i64 R.width, .int .i64 R.height, vp, vs, .bool R.falls, .bool R.keeps, ve, .int .i64 R.blocked, .int .i64 R.quiet, .int .i64 R.rept] 26)) (w.heap.size + 1) [.int .i64 x.width, .int .i64 x.height, vx, .int .i64 x.turn] 78 (by simp <;> omega))
  have HB : Hid (Below w.heap.size w ((w.alloc (.cells #[.string R.name, .int .i64 R.width, .int .i64 R.height, vp, vs, .bool R.falls, .bool R.keeps, ve, .int .i64 R.blocked, .int .i64 R.quiet, .int .i64 R.rept] 26)).alloc (.cells #[.int .i64 x.width, .int .i64 x.height, vx, .int .i64 x.turn] 78))) := Lib.hid (((Below.refl w.heap.size w).alloc (Nat.le_refl _) _).alloc (by simp <;> omega) _)
  have hz0 : w.heap.size + 1 < ((w.alloc (.cells #[.string R.name, .int .i64 R.width, .int .i64 R.height, vp, vs, .bool R.falls, .bool R.keeps, ve, .int .i64 R.blocked, .int .i64 R.quiet, .int .i64 R.rept] 26)).alloc (.cells #[.int .i64 x.width, .int .i64 x.height, vx, .int .i64 x.turn] 78)).heap.size := by simp
  generalize ((w.alloc (.cells #[.string R.name, .int .i64 R.width, .int .i64 R.height, vp, vs, .bool R.falls, .bool R.keeps, ve, .int .i64 R.blocked, .int .i64 R.quiet, .int .i64 R.rept] 26)).alloc (.cells #[.int .i64 x.width, .int .i64 x.height, vx, .int .i64 x.turn] 78)) = w0 at *
  have HRw := Lib.hid (HR.out.below HB.out (Nat.le_refl _))
  have HXw := Lib.hid (HX.out.below HB.out (Nat.le_refl _))
  have HB0 := Lib.hid B0
  have HB1 := Lib.hid B1
  clear B0 B1
  refine wp_region_lit ?_
  refine wpList_load_box (by rfl) 26 (.tmp 3) (by rfl) (w.heap.size) (by rfl) HB0.out Try.underlying26 (by rfl) (by kernel_rfl) ?_
  refine wpList_load_box (by rfl) 78 (.tmp 4) (by rfl) (w.heap.size + 1) (by rfl) HB1.out Try.underlying78 (by rfl) (by kernel_rfl) ?_
  go_wp2_with fail
  refine (patCheck_any R vp vs ve x vx w0 HRw.out HN.out HXw.out).mono ?_
  rintro e w1 ⟨rfl, hb1⟩
  have HL1 := Lib.hid (below_trans HB.out hb1 HB.out.size)
  have HC0 := Lib.hid (HB0.out.stays hb1)
  have HC1 := Lib.hid (HB1.out.stays hb1)
  clear hb1 HB0 HB1
  by_cases he : patErr R x = 0
  rotate_left
  · have HNE : Hid (findErr R x l = patErr R x) := Lib.hid (by rw [HFE.out, if_pos he])
    have HNZ := Lib.hid he
    have he' : (patErr R x != 0) = true := by simpa using he
    clear he
    go_wp2_with fail
    go_ret2
    exact .inl ⟨by rw [HNE.out]; exact HNZ.out, by rw [HNE.out]; rfl, HL1.out⟩
  have HP0 := Lib.hid he
  rw [he]
  clear he
  go_wp2_with fail
  go_loopw [33, 10, 11, 12, 13] (fun vi vg vpb vx' ve' wr => ∃ (k : Nat) (o : Value), k ≤ 1 ∧ vi = .int .i64 k ∧ Hid (k = 1 → runErr R l = 0 ∧ rulesErr R = 0 ∧ LegalAll R (beginZ R) l ∧ l.length ≤ 400) ∧ Hid (Below w1.heap.size w1 wr)) (fun i _ _ _ _ _ => 1 - (intOf i).toNat)
  case atStart => exact ⟨0, .int .i64 0, by omega, rfl, Lib.hid (fun h => by cases h), Lib.hid (Below.refl _ _)⟩
  case round =>
    obtain ⟨k, _, hk, rfl, HK1, HBr⟩ := hrel
    have HBw := Lib.hid (below_trans HL1.out HBr.out HL1.out.size)
    have HD0 := Lib.hid (HC0.out.stays HBr.out)
    have HD1 := Lib.hid (HC1.out.stays HBr.out)
    have HGr := Lib.hid (HG.out.below HBw.out HG.out.lt)
    by_cases hlt : k < 1
    · obtain rfl : k = 0 := by omega
      have d0 := HGr.out.cell 0 rfl
      have d0' : wr.cell? ⟨bg, 0 + 0 * 1, none⟩ = some (.slice a l.length c) := d0
      go_upto_region 9 with (fail)
      clear d0 d0'
      refine wp_region_lit ?_
      refine wpList_load_box (by rfl) 26 (.tmp 3) (by rfl) (w.heap.size) (by rfl) HD0.out Try.underlying26 (by rfl) (by kernel_rfl) ?_
      go_wp2_with fail
      refine (PRun_any HSh.out R vp vs ve _ l wr (HR.out.below HBw.out (Nat.le_refl _)) HN.out (HL.out.below HBw.out (Nat.le_refl _))).mono ?_
      rintro e w2 (⟨hbad, rfl, hb2⟩ | ⟨hok, hre, hla, hle, yc, y0, y1, rfl, ho2, hb2⟩)
      · have HNE : Hid (findErr R x l = runErr R l) := Lib.hid (by rw [HFE.out, if_neg (by simp [HP0.out]), if_pos hbad])
        have HNZ := Lib.hid hbad
        have he' : (runErr R l != 0) = true := by simpa using hbad
        have HB2 := Lib.hid (below_trans HBw.out hb2 HBw.out.size)
        clear hbad hb2
        unfold zeroPos
        go_wp2_with fail
        go_ret2
        exact .inl ⟨by rw [HNE.out]; exact HNZ.out, by rw [HNE.out]; rfl, HB2.out.alloc HB2.out.size _⟩
      · have HB2 := Lib.hid (HBr.out.trans (hb2.mono HBr.out.size))
        have HE1 : Hid (0 + 1 = 1 → runErr R l = 0 ∧ rulesErr R = 0 ∧ LegalAll R (beginZ R) l ∧ l.length ≤ 400) := Lib.hid (fun _ => ⟨hok, hre, hla, hle⟩)
        obtain ⟨ya, yn, rfl⟩ := own_form2 ho2.1
        obtain ⟨ya0, yn0, rfl⟩ := own_form2 ho2.2.1
        obtain ⟨ya1, yn1, rfl⟩ := own_form2 ho2.2.2.1
        clear hok hre hla hle hb2 ho2
        unfold posV
        go_wp2_with fail
        go_roundw
        case rel => exact ⟨0 + 1, .int .i64 0, by omega, by go_num, Lib.hid (fun _ => HE1.out (by trivial)), Lib.hid (HB2.out.alloc HB2.out.size _)⟩
        case measure => simp [intOf]
    · obtain rfl : k = 1 := by omega
      have HRE := Lib.hid (HK1.out rfl).1
      have HRZ := Lib.hid (HK1.out rfl).2.1
      have HLA := Lib.hid (HK1.out rfl).2.2.1
      have hl4 := (HK1.out rfl).2.2.2
      clear HK1 hlt
      go_wp2_with fail
      go_loopw [50, 14, 15, 16, 17, 18, 19, 21] (fun vi vo a1 a2 a3 a4 a5 a6 wr => ∃ (k : Nat) (o : Value), o = vo ∧ k ≤ 1 ∧ vi = .int .i64 k ∧ Hid ((k = 0 ∧ vo = .slice none 0 0) ∨ (k = 1 ∧ wr.ownsRow w.heap.size 84 3 vo (hitsTo R x l (l.length + 1)).length (flatM (hitsTo R x l (l.length + 1))))) ∧ Hid (Below w.heap.size w wr) ∧ Hid (Box wr w.heap.size [.string R.name, .int .i64 R.width, .int .i64 R.height, vp, vs, .bool R.falls, .bool R.keeps, ve, .int .i64 R.blocked, .int .i64 R.quiet, .int .i64 R.rept] 26) ∧ Hid (Box wr (w.heap.size + 1) [.int .i64 x.width, .int .i64 x.height, vx, .int .i64 x.turn] 78)) (fun i _ _ _ _ _ _ _ _ => 1 - (intOf i).toNat)
      case atStart => exact ⟨0, _, rfl, by omega, rfl, Lib.hid (.inl ⟨rfl, rfl⟩), HBw, HD0, HD1⟩
      case round =>
        obtain ⟨k, vo, rfl, hk, rfl, HO, HBr, HD0, HD1⟩ := hrel
        have HGr := Lib.hid (HG.out.below HBr.out HG.out.lt)
        have hw1 := HD1.out.lt
        by_cases hlt : k < 1
        · obtain rfl : k = 0 := by omega
          obtain rfl : vo = .slice none 0 0 := by
            rcases HO.out with h | h
            · exact h.2
            · cases h.1
          clear HO
          have d0 := HGr.out.cell 0 rfl
          have d0' : wr.cell? ⟨bg, 0 + 0 * 1, none⟩ = some (.slice a l.length c) := d0
          go_upto_region 17 with (fail)
          clear d0 d0'
          refine wp_region_lit ?_
          refine wpList_load_box (by rfl) 26 (.tmp 3) (by rfl) (w.heap.size) (by rfl) HD0.out Try.underlying26 (by rfl) (by kernel_rfl) ?_
          go_wp2_with fail
          refine (Begin_any R vp vs ve wr (HR.out.below HBr.out (Nat.le_refl _)) HN.out).mono ?_
          rintro e w2 (⟨hbad, -⟩ | ⟨-, qc, q0, q1, rfl, hq2, hb2⟩)
          · exact absurd HRZ.out hbad
          have HL2 := Lib.hid (below_trans HBr.out hb2 HBr.out.size)
          have HE0 := Lib.hid (HD0.out.stays hb2)
          have HE1 := Lib.hid (HD1.out.stays hb2)
          have HQ2 := Lib.hid hq2
          have hbp : w.heap.size + 1 < w2.heap.size := by have := hb2.size; omega
          have HF0 := Lib.hid (HE0.out.alloc (.cells #[qc, q0, q1, .int .i64 (beginZ R).turn, .int .i64 (beginZ R).quiet] 37))
          have HF1 := Lib.hid (HE1.out.alloc (.cells #[qc, q0, q1, .int .i64 (beginZ R).turn, .int .i64 (beginZ R).quiet] 37))
          have HF2 := Lib.hid (Box.new w2 [qc, q0, q1, .int .i64 (beginZ R).turn, .int .i64 (beginZ R).quiet] 37)
          have HFL := Lib.hid (HL2.out.alloc HL2.out.size (.cells #[qc, q0, q1, .int .i64 (beginZ R).turn, .int .i64 (beginZ R).quiet] 37))
          have HFQ : Hid (Held (BoxS w2.heap.size (.slice none 0 0)) (w2.alloc (.cells #[qc, q0, q1, .int .i64 (beginZ R).turn, .int .i64 (beginZ R).quiet] 37)) fun w' => RdP w' (beginZ R) qc q0 q1) := Lib.hid (Held.old (B := w2.heap.size) (fun w' hw => HQ2.out.below (((Below.refl w2.heap.size w2).alloc (Nat.le_refl _) _).trans hw) (Nat.le_refl _)) (fun k hk => by rcases hk with rfl | hk; omega; cases hk) (by simp))
          obtain ⟨za, zn, hzc, -, -⟩ := hq2.1.form
          obtain ⟨za0, zn0, hz0', -, -⟩ := hq2.2.1.form
          obtain ⟨za1, zn1, hz1', -, -⟩ := hq2.2.2.form
          subst hzc hz0' hz1'
          have hzb : w2.heap.size < (w2.alloc (.cells #[.slice za (beginZ R).cells.length zn, .slice za0 (beginZ R).h0.length zn0, .slice za1 (beginZ R).h1.length zn1, .int .i64 (beginZ R).turn, .int .i64 (beginZ R).quiet] 37)).heap.size := by simp
          clear hb2 hq2 HE0 HE1 HQ2 HD0 HD1 HL2
          unfold posV
          obtain ⟨bp, hbpe⟩ : ∃ bp, bp = w2.heap.size := ⟨_, rfl⟩
          rw [← hbpe] at HF2 HFQ hzb hbp
          have HBPE := Lib.hid hbpe
          go_upto_region 18 with (fail)
          clear hbpe
          rw [← HBPE.out]
          clear HBPE
          generalize (w2.alloc (.cells #[.slice za (beginZ R).cells.length zn, .slice za0 (beginZ R).h0.length zn0, .slice za1 (beginZ R).h1.length zn1, .int .i64 (beginZ R).turn, .int .i64 (beginZ R).quiet] 37)) = w3 at *
          have hwl : IntKind.i64.wrap ((l.length : Int) + 1) = (l.length : Int) + 1 := IntWalk.i64_in _ (by omega)
          go_wp2_with fail
          go_loopw [63, 14, 19, 21] (fun vi vo a1 a2 wr => ∃ (k : Nat) (o qc q0 q1 : Value), o = vo ∧ k ≤ l.length + 1 ∧ vi = .int .i64 k ∧ Hid (Box wr w.heap.size [.string R.name, .int .i64 R.width, .int .i64 R.height, vp, vs, .bool R.falls, .bool R.keeps, ve, .int .i64 R.blocked, .int .i64 R.quiet, .int .i64 R.rept] 26) ∧ Hid (Box wr (w.heap.size + 1) [.int .i64 x.width, .int .i64 x.height, vx, .int .i64 x.turn] 78) ∧
            (∃ q : PosZ, Hid (q = nowZ R (l.take k)) ∧ Hid (Box wr bp [qc, q0, q1, .int .i64 q.turn, .int .i64 q.quiet] 37) ∧ Hid (Held (BoxS bp vo) wr fun w' => RdP w' q qc q0 q1)) ∧ Hid (wr.ownsRow (bp + 1) 84 3 vo (hitsTo R x l k).length (flatM (hitsTo R x l k))) ∧ Hid (Below w.heap.size w wr)) (fun i _ _ _ _ => l.length + 1 - (intOf i).toNat)
          case atStart => exact ⟨0, _, _, _, _, rfl, by omega, rfl, HF0, HF1, ⟨beginZ R, Lib.hid rfl, HF2, HFQ⟩, Lib.hid (World.ownsRow_nil _ _ _ _), HFL⟩
          case round =>
            obtain ⟨k, vo, qc, q0, q1, rfl, hk, rfl, HG0, HG1, ⟨q, HQE, HG2, HGQ⟩, HO, HBr⟩ := hrel
            have hbps := HG2.out.lt
            by_cases hlt : k < l.length + 1
            · have HKq : Hid (POk R q) := Lib.hid (by rw [HQE.out]; exact posAt_ok (begin_ok HRZ.out) HLA.out k (by omega))
              have HLE : Hid ((hitsTo R x l k).length ≤ 64 * k) := Lib.hid (hitsTo_len (n := 64) (fun j hj => by have := (posAt_ok (begin_ok HRZ.out) HLA.out j hj).len; exact this) k (by omega))
              obtain ⟨xa, xn, rfl, -, -⟩ := HGQ.out.now.1.form
              obtain ⟨xa0, xn0, rfl, -, -⟩ := HGQ.out.now.2.1.form
              obtain ⟨xa1, xn1, rfl, -, -⟩ := HGQ.out.now.2.2.form
              go_upto_region 21 with (fail)
              refine wp_region_lit ?_
              refine wpList_load_box (by rfl) 26 (.tmp 3) (by rfl) (w.heap.size) (by rfl) HG0.out Try.underlying26 (by rfl) (by kernel_rfl) ?_
              refine wpList_load_box (by rfl) 78 (.tmp 4) (by rfl) (w.heap.size + 1) (by rfl) HG1.out Try.underlying78 (by rfl) (by kernel_rfl) ?_
              refine wpList_load_box (by rfl) 37 (.tmp 17) (by rfl) (bp) (by rfl) HG2.out Try.underlying37 (by rfl) (by kernel_rfl) ?_
              go_wp2_with fail
              refine (list_any R vp vs ve x vx q (.slice xa q.cells.length xn) (.slice xa0 q.h0.length xn0) (.slice xa1 q.h1.length xn1) wr (HX.out.below HBr.out (Nat.le_refl _)) HGQ.out.now (fun s h0 h1 => fit_of HP0.out (pos_of HRZ.out HKq.out) h0 h1) HKq.out.len).mono ?_
              rintro e w4 ⟨vq, rfl, hol, hb4⟩
              have HST : Hid (hitsTo R x l (k + 1) = hitsTo R x l k ++ hitsAt R x q k) := Lib.hid (by rw [hitsTo_succ, HQE.out])
              have hlq : (listPZ R x q).length ≤ 64 := by have := atsTo_len R x q q.cells.length; have := HKq.out.len; unfold listPZ; omega
              have HLN : Hid ((hitsAt R x q k).length = (listPZ R x q).length) := Lib.hid (by unfold hitsAt; simp)
              have HOQ : Hid (Held (BoxS bp vo) w4 fun w' => RdI w' vq (listPZ R x q)) := Lib.hid ((own_new hol (fun k' h1 h2 hk => by
                rcases hk with rfl | hk
                · omega
                · have := (HO.out.lt k' hk).2; omega)).imp (fun _ h => RdI.of_own h))
              obtain ⟨aq, cq, rfl⟩ := own_form2 hol
              have HG04 := Lib.hid (HG0.out.stays hb4)
              have HG14 := Lib.hid (HG1.out.stays hb4)
              have HG24 := Lib.hid (HG2.out.stays hb4)
              have HGQ4 := Lib.hid (HGQ.out.step (Fr.of_new (S := BoxS bp vo) hb4) (Shr.refl _ _))
              have HO4 : Hid (w4.ownsRow (bp + 1) 84 3 vo ((hitsTo R x l k).length + 0) (flatM (hitsTo R x l k ++ (hitsAt R x q k).take 0))) := Lib.hid (by rw [List.take_zero, List.append_nil]; exact own_stays HO.out hb4)
              have HB4 := Lib.hid (below_trans HBr.out hb4 HBr.out.size)
              have hb4s := hb4.size
              clear hol hb4 HG0 HG1 HG2 HGQ HO HBr
              go_wp2_with fail
              go_loopw [71, 14, 21] (fun vi vo a1 wr => ∃ (i : Nat) (o : Value), o = vo ∧ i ≤ (listPZ R x q).length ∧ vi = .int .i64 i ∧ Hid (Box wr w.heap.size [.string R.name, .int .i64 R.width, .int .i64 R.height, vp, vs, .bool R.falls, .bool R.keeps, ve, .int .i64 R.blocked, .int .i64 R.quiet, .int .i64 R.rept] 26) ∧ Hid (Box wr (w.heap.size + 1) [.int .i64 x.width, .int .i64 x.height, vx, .int .i64 x.turn] 78) ∧
                Hid (Box wr bp [.slice xa q.cells.length xn, .slice xa0 q.h0.length xn0, .slice xa1 q.h1.length xn1, .int .i64 q.turn, .int .i64 q.quiet] 37) ∧ Hid (Held (BoxS bp vo) wr fun w' => RdP w' q (.slice xa q.cells.length xn) (.slice xa0 q.h0.length xn0) (.slice xa1 q.h1.length xn1)) ∧ Hid (Held (BoxS bp vo) wr fun w' => RdI w' (.slice aq (listPZ R x q).length cq) (listPZ R x q)) ∧
                Hid (wr.ownsRow (bp + 1) 84 3 vo ((hitsTo R x l k).length + i) (flatM (hitsTo R x l k ++ (hitsAt R x q k).take i))) ∧ Hid (Below w.heap.size w wr)) (fun i _ _ _ => (listPZ R x q).length - (intOf i).toNat)
              case atStart => exact ⟨0, _, rfl, by omega, rfl, HG04, HG14, HG24, HGQ4, HOQ, HO4, HB4⟩
              case round =>
                obtain ⟨i, vo, rfl, hi, rfl, HG0, HG1, HG2, HGQ, HOQ, HO, HBr⟩ := hrel
                have hbps := HG2.out.lt
                by_cases hil : i < (listPZ R x q).length
                · have HT := Lib.hid (hits_snoc R x q k i hil)
                  obtain ⟨gy, oy, c1, e1, _, _, _, cx1⟩ := HOQ.out.now.some (by omega)
                  simp only [Value.slice.injEq] at e1
                  obtain ⟨rfl, _, rfl⟩ := e1
                  have k1 := cx1 i hil
                  clear cx1
                  have hle := HLE.out
                  generalize (listPZ R x q).getD i 0 = y at *
                  go_wp2_with (at_builtin; refine app_newC 79 84 (.agg #[.int .i64 0, .int .i64 0, .int .i64 0]) 3 24 info_hit Try.underlying79 rfl (by decide) (by rfl) _ _ (by rfl) (bp + 1) _ ((hitsTo R x l k).length + i) (flatM (hitsTo R x l k ++ (hitsAt R x q k).take i)) [.int .i64 0, .int .i64 (k : Int), .int .i64 y] wr HO.out (by omega) rfl three_ints (by omega) (by omega) (by rfl) (by rfl) ?_)
                  intro g3 cap3 w3 hown3 hg3 hat3
                  have hF3 := Fr.app (S := BoxS bp vo) hg3 (fun k' hk => .inr hk)
                  have hS3 := boxS_shr (b := bp) (n := (hitsTo R x l k).length + i + 1) (c := cap3) hat3
                  have HO3 : Hid (w3.ownsRow (bp + 1) 84 3 (.slice (some ⟨g3, 0, none⟩) ((hitsTo R x l k).length + i + 1) cap3) ((hitsTo R x l k).length + (i + 1)) (flatM (hitsTo R x l k ++ (hitsAt R x q k).take (i + 1)))) := Lib.hid (by rw [HT.out, ← List.append_assoc, ← flatM_append]; exact hown3)
                  have HG03 := Lib.hid (HG0.out.app HO.out hg3 (by omega))
                  have HG13 := Lib.hid (HG1.out.app HO.out hg3 (by omega))
                  have HG23 := Lib.hid (HG2.out.app HO.out hg3 (by omega))
                  have HGQ3 := Lib.hid (HGQ.out.step hF3 hS3)
                  have HOQ3 := Lib.hid (HOQ.out.step hF3 hS3)
                  have HB3 := Lib.hid (Below.app HBr.out HO.out hg3 (by omega) HBr.out.size)
                  clear hown3 hg3 hat3 hF3 hS3 HT
                  go_wp2_with fail
                  go_roundw
                  case rel => exact ⟨i + 1, _, rfl, by omega, by go_num, HG03, HG13, HG23, HGQ3, HOQ3, HO3, HB3⟩
                  case measure => simp [intOf]; omega
                · obtain rfl : i = (listPZ R x q).length := by omega
                  have HOk : Hid (wr.ownsRow (bp + 1) 84 3 vo (hitsTo R x l (k + 1)).length (flatM (hitsTo R x l (k + 1)))) := Lib.hid (by
                    have := HO.out
                    rw [List.take_of_length_le (by rw [HLN.out]; exact Nat.le_refl _)] at this
                    rw [HST.out, List.length_append, HLN.out]
                    exact this)
                  clear HO HOQ hil
                  by_cases hkl : k < l.length
                  · obtain ⟨gx, ox, ha, hgx, hcc⟩ := moves_some (HL.out.below HBr.out (Nat.le_refl _)) (by omega)
                    subst ha
                    have hcx := hcc k hkl
                    have HTK : Hid (makeZ R q (l.getD k default) = nowZ R (l.take (k + 1))) := Lib.hid (by rw [HQE.out]; exact now_step R l k hkl)
                    have HF : Hid (Fits R q (l.getD k default)) := Lib.hid (by have := HLA.out k hkl; rw [show posAt R (beginZ R) (l.take k) = q by rw [HQE.out]; rfl] at this; exact fits_of HKq.out this)
                    clear hcc
                    generalize l.getD k default = m at *
                    go_upto_region 27 with (fail)
                    generalize wr = wq at *
                    have BRz : Box wq.drew w.heap.size [.string R.name, .int .i64 R.width, .int .i64 R.height, vp, vs, .bool R.falls, .bool R.keeps, ve, .int .i64 R.blocked, .int .i64 R.quiet, .int .i64 R.rept] 26 := HG0.out
                    have BXz : Box wq.drew (w.heap.size + 1) [.int .i64 x.width, .int .i64 x.height, vx, .int .i64 x.turn] 78 := HG1.out
                    have BPz : Box wq.drew bp [.slice xa q.cells.length xn, .slice xa0 q.h0.length xn0, .slice xa1 q.h1.length xn1, .int .i64 q.turn, .int .i64 q.quiet] 37 := HG2.out
                    have hcxz : wq.drew.cell? ⟨gx, ox + k * 3, none⟩ = some (.int .i64 m.src) ∧ wq.drew.cell? ⟨gx, ox + k * 3 + 1, none⟩ = some (.int .i64 m.dst) ∧ wq.drew.cell? ⟨gx, ox + k * 3 + 2, none⟩ = some (.int .i64 m.piece) := hcx
                    have hgz : gx < wq.drew.heap.size := hgx
                    have hbpz : bp < wq.heap.size := hbps
                    have Lz : Below w.heap.size w wq.drew := below_drew' HBr.out
                    have Oz : wq.drew.ownsRow (bp + 1) 84 3 vo (hitsTo R x l (k + 1)).length (flatM (hitsTo R x l (k + 1))) := HOk.out
                    have HPp := HGQ
                    have hkI : (k : Int) < l.length := by omega
                    clear HG0 HG1 HG2 HOk hcx hgx hbps HBr HG04 HG14 HG24 HGQ4 HO4 HB4 HST HLE HLN
                    refine wp_region_noPanic ?_
                    refine beginL (S := (fun w' => w'.cell? ⟨w.heap.size, 0, none⟩ = some (.string R.name) ∧ w'.cell? ⟨w.heap.size, 1, none⟩ = some (.int .i64 R.width) ∧ w'.cell? ⟨w.heap.size, 2, none⟩ = some (.int .i64 R.height) ∧ w'.cell? ⟨w.heap.size, 3, none⟩ = some vp ∧ w'.cell? ⟨w.heap.size, 4, none⟩ = some vs ∧ w'.cell? ⟨w.heap.size, 5, none⟩ = some (.bool R.falls) ∧ w'.cell? ⟨w.heap.size, 6, none⟩ = some (.bool R.keeps) ∧ w'.cell? ⟨w.heap.size, 7, none⟩ = some ve ∧ w'.cell? ⟨w.heap.size, 8, none⟩ = some (.int .i64 R.blocked) ∧ w'.cell? ⟨w.heap.size, 9, none⟩ = some (.int .i64 R.quiet) ∧ w'.cell? ⟨w.heap.size, 10, none⟩ = some (.int .i64 R.rept) ∧ w'.cell? ⟨bp, 0, none⟩ = some (.slice xa q.cells.length xn) ∧ w'.cell? ⟨bp, 1, none⟩ = some (.slice xa0 q.h0.length xn0) ∧ w'.cell? ⟨bp, 2, none⟩ = some (.slice xa1 q.h1.length xn1) ∧ w'.cell? ⟨bp, 3, none⟩ = some (.int .i64 q.turn) ∧ w'.cell? ⟨bp, 4, none⟩ = some (.int .i64 q.quiet) ∧ w'.cell? ⟨gx, ox + k * 3, none⟩ = some (.int .i64 m.src) ∧ w'.cell? ⟨gx, ox + k * 3 + 1, none⟩ = some (.int .i64 m.dst) ∧ w'.cell? ⟨gx, ox + k * 3 + 2, none⟩ = some (.int .i64 m.piece))) (L := [7]) (by kernel_rfl) ⟨BRz.cell 0 rfl, BRz.cell 1 rfl, BRz.cell 2 rfl, BRz.cell 3 rfl, BRz.cell 4 rfl, BRz.cell 5 rfl, BRz.cell 6 rfl, BRz.cell 7 rfl, BRz.cell 8 rfl, BRz.cell 9 rfl, BRz.cell 10 rfl, BPz.cell 0 rfl, BPz.cell 1 rfl, BPz.cell 2 rfl, BPz.cell 3 rfl, BPz.cell 4 rfl, hcxz.1, hcxz.2.1, hcxz.2.2⟩ (fun hHeld => ?_)
                    refine takeL (i := 0) (oi := { dst := some 87, op := Op.load 26 (Operand.tmp 3), type := 26, pos := "pattern.go:122", after := #[], guard := none }) (v := ?va1) rfl (by kernel_rfl) (by kernel_rfl) (by kernel_rfl) (by kernel_rfl) rfl (by kernel_rfl) (by kernel_rfl) (fun _ _ _ h => h) (Or.inl ⟨by rfl, ?ya1⟩) (by assumption) ?ra1
                    case ya1 => (intro w hSw; (try dsimp only at hSw); go_simp; first | done | (with_reducible rfl))
                    try simp only [Act.put, List.setIfInBounds_toArray, List.set_cons_zero, List.set_cons_succ]
                    refine takeL (i := 1) (oi := { dst := some 88, op := Op.load 37 (Operand.tmp 17), type := 37, pos := "pattern.go:122", after := #[], guard := none }) (v := ?va2) rfl (by kernel_rfl) (by kernel_rfl) (by kernel_rfl) (by kernel_rfl) rfl (by kernel_rfl) (by kernel_rfl) (fun _ _ _ h => h) (Or.inl ⟨by rfl, ?ya2⟩) (by assumption) ?ra2
                    case ya2 => (intro w hSw; (try dsimp only at hSw); go_simp; first | done | (with_reducible rfl))
                    try simp only [Act.put, List.setIfInBounds_toArray, List.set_cons_zero, List.set_cons_succ]
                    refine takeW (i := 2) (oi := { dst := some 89, op := Op.move (Operand.tmp 16), type := 32, pos := "pattern.go:122", after := #[], guard := none }) (v := ?va3) rfl (by kernel_rfl) (by kernel_rfl) (by kernel_rfl) rfl (fun _ _ _ h => h) (Or.inl ⟨by rfl, ?ya3⟩) (fun _ => by assumption) ?ra3
                    case ya3 => (intro w _; go_simp; first | done | (with_reducible rfl))
                    try simp only [Act.put, List.setIfInBounds_toArray, List.set_cons_zero, List.set_cons_succ]
                    refine takeW (i := 3) (oi := { dst := some 90, op := Op.move (Operand.tmp 19), type := 3, pos := "pattern.go:122", after := #[], guard := none }) (v := ?va4) rfl (by kernel_rfl) (by kernel_rfl) (by kernel_rfl) rfl (fun _ _ _ h => h) (Or.inl ⟨by rfl, ?ya4⟩) (fun _ => by assumption) ?ra4
                    case ya4 => (intro w _; go_simp; first | done | (with_reducible rfl))
                    try simp only [Act.put, List.setIfInBounds_toArray, List.set_cons_zero, List.set_cons_succ]
                    refine takeW (i := 4) (oi := { dst := some 91, op := Op.indexAddr 32 (Operand.tmp 89) (Operand.tmp 90), type := 0, pos := "pattern.go:122", after := #[{ on := 2, ground := Ground.data }, { on := 3, ground := Ground.data }], guard := none }) (v := ?va5) rfl (by kernel_rfl) (by kernel_rfl) (by kernel_rfl) rfl (fun _ _ _ h => h) (Or.inl ⟨by rfl, ?ya5⟩) (fun _ => by assumption) ?ra5
                    case ya5 => (intro w _; go_simp; first | done | (with_reducible rfl))
                    try simp only [Act.put, List.setIfInBounds_toArray, List.set_cons_zero, List.set_cons_succ]
                    refine takeL (i := 5) (oi := { dst := some 92, op := Op.load 42 (Operand.tmp 91), type := 42, pos := "pattern.go:122", after := #[{ on := 4, ground := Ground.data }], guard := none }) (v := ?va6) rfl (by kernel_rfl) (by kernel_rfl) (by kernel_rfl) (by kernel_rfl) rfl (by kernel_rfl) (by kernel_rfl) (fun _ _ _ h => h) (Or.inl ⟨by rfl, ?ya6⟩) (by assumption) ?ra6
                    case ya6 => (intro w hSw; (try dsimp only at hSw); go_simp; first | done | (with_reducible rfl))
                    try simp only [Act.put, List.setIfInBounds_toArray, List.set_cons_zero, List.set_cons_succ]
                    refine readyL (rs := [6]) (by kernel_rfl) (by simp) ?_
                    refine (AllReadyL.cons (o := { dst := some 93, op := Op.call { callee := Callee.value (Operand.func 67), args := #[Operand.tmp 87, Operand.tmp 88, Operand.tmp 92], argTypes := #[26, 37, 42] }, type := 37, pos := "pattern.go:122", after := #[{ on := 0, ground := Ground.data }, { on := 1, ground := Ground.data }, { on := 5, ground := Ground.data }], guard := none }) rfl (fun K hK => ?_) AllReadyL.nil)
                    go_simp
                    refine (Make_any R vp vs ve q (.slice xa q.cells.length xn) (.slice xa0 q.h0.length xn0) (.slice xa1 q.h1.length xn1) m _ (HPp.out.now.below (below_drew' (Below.refl _ _)) (Nat.le_refl _)) HKq.out HF.out).mono ?_
                    rintro e w6 ⟨yc, y0, y1, rfl, ho6, hb6⟩
                    obtain ⟨ya, yn, rfl⟩ := own_form2 ho6.1
                    obtain ⟨ya0, yn0, rfl⟩ := own_form2 ho6.2.1
                    obtain ⟨ya1, yn1, rfl⟩ := own_form2 ho6.2.2.1
                    unfold posV
                    have BR6 := BRz.stays hb6
                    have BX6 := BXz.stays hb6
                    have BP6 := BPz.stays hb6
                    have hcx6 : w6.cell? ⟨gx, ox + k * 3, none⟩ = some (.int .i64 m.src) ∧ w6.cell? ⟨gx, ox + k * 3 + 1, none⟩ = some (.int .i64 m.dst) ∧ w6.cell? ⟨gx, ox + k * 3 + 2, none⟩ = some (.int .i64 m.piece) := ⟨(hb6.cell hgz).trans hcxz.1, (hb6.cell hgz).trans hcxz.2.1, (hb6.cell hgz).trans hcxz.2.2⟩
                    have L6 := below_trans Lz hb6 Lz.size
                    have O6 := own_stays Oz hb6
                    have Z6 := hb6.size
                    clear hb6
                    refine hK.out _ _ ⟨BR6.cell 0 rfl, BR6.cell 1 rfl, BR6.cell 2 rfl, BR6.cell 3 rfl, BR6.cell 4 rfl, BR6.cell 5 rfl, BR6.cell 6 rfl, BR6.cell 7 rfl, BR6.cell 8 rfl, BR6.cell 9 rfl, BR6.cell 10 rfl, BP6.cell 0 rfl, BP6.cell 1 rfl, BP6.cell 2 rfl, BP6.cell 3 rfl, BP6.cell 4 rfl, hcx6.1, hcx6.2.1, hcx6.2.2⟩ (fun hHeld => ?_)
                    clear hK K
                    try simp only [Act.put, List.setIfInBounds_toArray, List.set_cons_zero, List.set_cons_succ]
                    refine readyL (rs := [7]) (by kernel_rfl) (by simp) ?_
                    refine (AllReadyL.late (o := { dst := none, op := Op.store 37 (Operand.tmp 17) (Operand.tmp 93), type := 0, pos := "pattern.go:122", after := #[{ on := 6, ground := Ground.data }, { on := 6, ground := Ground.chain }, { on := 0, ground := Ground.phase }, { on := 1, ground := Ground.phase }, { on := 2, ground := Ground.phase }, { on := 3, ground := Ground.phase }, { on := 4, ground := Ground.phase }, { on := 5, ground := Ground.phase }, { on := 6, ground := Ground.phase }], guard := none }) rfl (by kernel_rfl) (fun K hK => ?_) AllReadyL.nil)
                    have z0 := BP6.cell 0 rfl
                    have z1 := BP6.cell 1 rfl
                    have z2 := BP6.cell 2 rfl
                    have z3 := BP6.cell 3 rfl
                    have z4 := BP6.cell 4 rfl
                    have zf0 := BP6.frozen 0
                    have zf1 := BP6.frozen 1
                    have zf2 := BP6.frozen 2
                    have zf3 := BP6.frozen 3
                    have zf4 := BP6.frozen 4
                    go_simp
                    refine K_world ?_
                    intro w9 e9
                    have E9 : w9 = w6.setCells bp 0 [.slice ya (makeZ R q m).cells.length yn, .slice ya0 (makeZ R q m).h0.length yn0, .slice ya1 (makeZ R q m).h1.length yn1, .int .i64 (makeZ R q m).turn, .int .i64 (makeZ R q m).quiet] := e9
                    clear e9 z0 zf0 z1 zf1 z2 zf2 z3 zf3 z4 zf4
                    refine hK.out _ _ ?_
                    clear hK K
                    try simp only [Act.put, List.setIfInBounds_toArray, List.set_cons_zero, List.set_cons_succ]
                    refine doneL (by kernel_rfl) ?_ _
                    refine NoPanic.normal ?_
                    have B9 := BP6.store (vs := [.slice ya (makeZ R q m).cells.length yn, .slice ya0 (makeZ R q m).h0.length yn0, .slice ya1 (makeZ R q m).h1.length yn1, .int .i64 (makeZ R q m).turn, .int .i64 (makeZ R q m).quiet]) rfl
                    have BR9 := BR6.farAll (show w.heap.size ≠ bp by omega) 0 [.slice ya (makeZ R q m).cells.length yn, .slice ya0 (makeZ R q m).h0.length yn0, .slice ya1 (makeZ R q m).h1.length yn1, .int .i64 (makeZ R q m).turn, .int .i64 (makeZ R q m).quiet]
                    have BX9 := BX6.farAll (show w.heap.size + 1 ≠ bp by omega) 0 [.slice ya (makeZ R q m).cells.length yn, .slice ya0 (makeZ R q m).h0.length yn0, .slice ya1 (makeZ R q m).h1.length yn1, .int .i64 (makeZ R q m).turn, .int .i64 (makeZ R q m).quiet]
                    have O9 := own_setCells O6 (show bp < bp + 1 by omega) 0 [.slice ya (makeZ R q m).cells.length yn, .slice ya0 (makeZ R q m).h0.length yn0, .slice ya1 (makeZ R q m).h1.length yn1, .int .i64 (makeZ R q m).turn, .int .i64 (makeZ R q m).quiet]
                    have L9 := below_setCells L6 (show w.heap.size ≤ bp by omega) 0 [.slice ya (makeZ R q m).cells.length yn, .slice ya0 (makeZ R q m).h0.length yn0, .slice ya1 (makeZ R q m).h1.length yn1, .int .i64 (makeZ R q m).turn, .int .i64 (makeZ R q m).quiet]
                    have F9 : Fr (BoxS bp vo) w6 (w6.setCells bp 0 [.slice ya (makeZ R q m).cells.length yn, .slice ya0 (makeZ R q m).h0.length yn0, .slice ya1 (makeZ R q m).h1.length yn1, .int .i64 (makeZ R q m).turn, .int .i64 (makeZ R q m).quiet]) := (Fr.refl _ _).setCells (.inl rfl) 0 _
                    have P6 : Held (BoxS bp vo) w6 fun w' => OwnP wq.heap.size w' (makeZ R q m) (.slice ya (makeZ R q m).cells.length yn) (.slice ya0 (makeZ R q m).h0.length yn0) (.slice ya1 (makeZ R q m).h1.length yn1) := ownP_held ho6 (fun k' h1 h2 hk => by
                        rcases hk with rfl | hk
                        · have := hbpz; omega
                        · have := (Oz.lt k' hk).2; have h1' : wq.heap.size ≤ k' := h1; have h3 : wq.drew.heap.size = wq.heap.size := rfl; omega)
                    have P9 := P6.step F9 (Shr.refl _ _)
                    rw [← E9] at B9 BR9 BX9 O9 L9 P9
                    have HB9 := Lib.hid B9
                    have HBR9 := Lib.hid BR9
                    have HBX9 := Lib.hid BX9
                    have HO9 := Lib.hid O9
                    have HL9 := Lib.hid L9
                    have HP9 : Hid (Held (BoxS bp vo) w9 fun w' => RdP w' (makeZ R q m) (.slice ya (makeZ R q m).cells.length yn) (.slice ya0 (makeZ R q m).h0.length yn0) (.slice ya1 (makeZ R q m).h1.length yn1)) := Lib.hid (P9.imp fun _ h => h.rd)
                    clear B9 BR9 BX9 O9 L9 P9 P6 F9 E9 hHeld BR6 BX6 BP6 hcx6 L6 O6 Z6 ho6 BRz BXz BPz hcxz Lz Oz hgz hbpz
                    go_wp2_with fail
                    go_roundw
                    case rel => exact ⟨k + 1, vo, _, _, _, rfl, by omega, by go_num, HBR9, HBX9, ⟨makeZ R q m, Lib.hid (HTK.out), HB9, HP9⟩, HO9, HL9⟩
                    case measure => simp [intOf]; omega
                  · have HQ1 : Hid (q = nowZ R (l.take (k + 1))) := Lib.hid (by rw [HQE.out, List.take_of_length_le (by omega), List.take_of_length_le (by omega)])
                    go_wp2_with fail
                    go_roundw
                    case rel => exact ⟨k + 1, _, _, _, _, rfl, by omega, by go_num, HG0, HG1, ⟨q, HQ1, HG2, HGQ⟩, HOk, HBr⟩
                    case measure => simp [intOf]; omega
            · obtain rfl : k = l.length + 1 := by omega
              have HOb := Lib.hid (own_base HO.out (show w.heap.size ≤ bp + 1 by omega))
              go_wp2_with fail
              go_roundw
              case rel =>
                refine ⟨_, _, _, _, _, _, _, _, _, _, _, _, _, _, _, _, _, _, _, _, _, _, _, _, _, _, _, _, _, _, _, _, _, _, _, _, _, _, _, _, _, _, _, _, _, _, _, _, _, _, _, _, _, ?_, rfl⟩
                exact ⟨0 + 1, _, rfl, by omega, by go_num, Lib.hid (.inr ⟨rfl, HOb.out⟩), HBr, HG0, HG1⟩
              case measure => simp [intOf]
        · obtain rfl : k = 1 := by omega
          have HOw : Hid (wr.ownsRow w.heap.size 84 3 vo (hitsTo R x l (l.length + 1)).length (flatM (hitsTo R x l (l.length + 1)))) := Lib.hid (by
            rcases HO.out with h | h
            · cases h.1
            · exact h.2)
          obtain ⟨av, cv, rfl⟩ := own_form2 HOw.out
          clear HO hlt
          obtain ⟨HH, hHH⟩ : ∃ HH, hitsTo R x l (l.length + 1) = HH := ⟨_, rfl⟩
          have HFE2 : Hid (findErr R x l = if 1000 < HH.length then 9 else 0) := Lib.hid (by rw [HFE.out, if_neg (by simp [HP0.out]), if_neg (by simp [HRE.out]), hHH])
          have HHE := Lib.hid hHH
          rw [hHH] at HOw
          clear hHH
          by_cases hbig : 1000 < HH.length
          · have HNE : Hid (findErr R x l = 9) := Lib.hid (by rw [HFE2.out, if_pos hbig])
            rw [HHE.out]
            go_wp2_with fail
            go_ret2
            exact .inl ⟨by rw [HNE.out]; decide, by rw [HNE.out]; rfl, HBr.out⟩
          · have HNE : Hid (findErr R x l = 0) := Lib.hid (by rw [HFE2.out, if_neg hbig])
            rw [HHE.out]
            go_wp2_with fail
            go_ret2
            exact .inr ⟨HNE.out, _, rfl, by rw [HHE.out]; exact HOw.out, HBr.out⟩

end Go.Proofs.Ytkfaibdflbdpgaa

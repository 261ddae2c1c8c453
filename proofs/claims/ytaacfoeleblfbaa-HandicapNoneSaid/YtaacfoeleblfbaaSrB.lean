/- The contracts of minimax.Nearer, Over, First, Of, Score. -/
import Derived.Test.YtaacfoeleblfbaaSrA
namespace Go.Proofs.Ytaacfoeleblfbaa
open Go.ChangeShapes Go.WideShapes Go.ChangeAt Go.RowKit
set_option linter.unusedVariables false

def nearerZ (n : Int) : Int := if 0 < n then n - 1 else if n < 0 then n + 1 else 0
def overZ (p : PosZ) (r : Int) : Int := if r = 1 + p.turn then 1000 else if r = 2 - p.turn then -1000 else 0
def ofZ (R : RulesZ) : Nat → PosZ → Int
  | 0, p => if resultZ R p ≠ 0 then overZ p (resultZ R p) else 0
  | d + 1, p => if resultZ R p ≠ 0 then overZ p (resultZ R p) else (listZ R p).foldl (fun a m => if a < nearerZ (-(ofZ R d (makeZ R p m))) then nearerZ (-(ofZ R d (makeZ R p m))) else a) (-2000)
def firstZ (R : RulesZ) (d : Nat) (p : PosZ) (k : Nat) : Int := ((listZ R p).take k).foldl (fun a m => if a < nearerZ (-(ofZ R d (makeZ R p m))) then nearerZ (-(ofZ R d (makeZ R p m))) else a) (-2000)
theorem first_succ (R : RulesZ) (d : Nat) (p : PosZ) (k : Nat) (h : k < (listZ R p).length) : firstZ R d p (k + 1) = if firstZ R d p k < nearerZ (-(ofZ R d (makeZ R p ((listZ R p).getD k default)))) then nearerZ (-(ofZ R d (makeZ R p ((listZ R p).getD k default)))) else firstZ R d p k := by
  unfold firstZ
  rw [List.take_succ_eq_append_getElem h, List.foldl_append, List.getD_eq_getElem?_getD, List.getElem?_eq_getElem h]
  rfl
theorem over_rg (p : PosZ) (r : Int) : -2000 ≤ overZ p r ∧ overZ p r ≤ 2000 := by unfold overZ; split; omega; split <;> omega
theorem fold_rg (g : MoveZ → Int) (hg : ∀ m, -2000 ≤ g m ∧ g m ≤ 2000) : ∀ (l : List MoveZ) (a : Int), -2000 ≤ a ∧ a ≤ 2000 → -2000 ≤ l.foldl (fun a m => if a < nearerZ (-(g m)) then nearerZ (-(g m)) else a) a ∧ l.foldl (fun a m => if a < nearerZ (-(g m)) then nearerZ (-(g m)) else a) a ≤ 2000
  | [], a, h => h
  | m :: t, a, h => by
    simp only [List.foldl_cons]
    refine fold_rg g hg t _ ?_
    have hn : -2000 ≤ nearerZ (-(g m)) ∧ nearerZ (-(g m)) ≤ 2000 := by
      have := hg m
      unfold nearerZ
      split
      · omega
      · split <;> omega
    split
    · exact hn
    · exact h
theorem of_rg (R : RulesZ) : ∀ (d : Nat) (p : PosZ), -2000 ≤ ofZ R d p ∧ ofZ R d p ≤ 2000
  | 0, p => by
    unfold ofZ
    split
    · exact over_rg p _
    · omega
  | d + 1, p => by
    unfold ofZ
    split
    · exact over_rg p _
    · exact fold_rg (fun m => ofZ R d (makeZ R p m)) (fun m => of_rg R d (makeZ R p m)) _ _ (by omega)
theorem first_rg (R : RulesZ) (d : Nat) (p : PosZ) (k : Nat) : -2000 ≤ firstZ R d p k ∧ firstZ R d p k ≤ 2000 := fold_rg (fun m => ofZ R d (makeZ R p m)) (fun m => of_rg R d (makeZ R p m)) _ _ (by omega)
theorem nearer_any (n : Int) (w : World) (h0 : -3000 ≤ n) (h1 : n ≤ 3000) : Calls Try.prog 56 #[.int .i64 n] w fun e w' => e = .returned (.int .i64 (nearerZ n)) ∧ Below w.heap.size w w' := by
  by_cases h : 0 < n
  · have HE : Hid (nearerZ n = n - 1) := Lib.hid (by unfold nearerZ; rw [if_pos h])
    have hw : IntKind.i64.wrap (n - 1) = n - 1 := IntWalk.i64_in _ (by omega)
    go_enter Try.func56, Try.ntmps56
    go_wp2_with fail
    go_ret
    exact ⟨by rw [HE.out]; rfl, Below.refl _ _⟩
  by_cases h2 : n < 0
  · have HE : Hid (nearerZ n = n + 1) := Lib.hid (by unfold nearerZ; rw [if_neg h, if_pos h2])
    have hw : IntKind.i64.wrap (n + 1) = n + 1 := IntWalk.i64_in _ (by omega)
    go_enter Try.func56, Try.ntmps56
    go_wp2_with fail
    go_ret
    exact ⟨by rw [HE.out]; rfl, Below.refl _ _⟩
  · have HE : Hid (nearerZ n = 0) := Lib.hid (by unfold nearerZ; rw [if_neg h, if_neg h2])
    go_enter Try.func56, Try.ntmps56
    go_wp2_with fail
    go_ret
    exact ⟨by rw [HE.out]; rfl, Below.refl _ _⟩
set_option maxRecDepth 100000 in
theorem over_any (p : PosZ) (vc v0 v1 : Value) (r : Int) (w : World) (ht : 0 ≤ p.turn ∧ p.turn ≤ 1) : Calls Try.prog 35 #[(.agg #[vc, v0, v1, .int .i64 p.turn, .int .i64 p.quiet]), .int .i64 r] w fun e w' => e = .returned (.int .i64 (overZ p r)) ∧ Below w.heap.size w w' := by
  have HD : Hid (overZ p r = if r = 1 + p.turn then 1000 else if r = 2 - p.turn then -1000 else 0) := Lib.hid rfl
  obtain ⟨ht0, ht1⟩ := ht
  have hw1 : IntKind.i64.wrap (1 + p.turn) = 1 + p.turn := IntWalk.i64_in _ (by omega)
  have hw2 : IntKind.i64.wrap (2 - p.turn) = 2 - p.turn := IntWalk.i64_in _ (by omega)
  go_enter Try.func35, Try.ntmps35
  go_upto_region 1 with (fail)
  have B0 : Box (w.alloc (.cells #[vc, v0, v1, .int .i64 p.turn, .int .i64 p.quiet] 29)) (w.heap.size) [vc, v0, v1, .int .i64 p.turn, .int .i64 p.quiet] 29 := (Box.new' w (w.heap.size) [vc, v0, v1, .int .i64 p.turn, .int .i64 p.quiet] 29 (by simp <;> omega))
  have HB : Hid (Below w.heap.size w (w.alloc (.cells #[vc, v0, v1, .int .i64 p.turn, .int .i64 p.quiet] 29))) := Lib.hid ((Below.refl w.heap.size w).alloc (Nat.le_refl _) _)
  have hz0 : w.heap.size < (w.alloc (.cells #[vc, v0, v1, .int .i64 p.turn, .int .i64 p.quiet] 29)).heap.size := by simp
  generalize (w.alloc (.cells #[vc, v0, v1, .int .i64 p.turn, .int .i64 p.quiet] 29)) = w0 at *
  have q3 := B0.cell 3 rfl
  clear B0
  by_cases h : r = 1 + p.turn
  · have HE : Hid (overZ p r = 1000) := Lib.hid (by rw [HD.out, if_pos h])
    have hb : (r == 1 + p.turn) = true := by simpa using h
    clear h HD
    go_wp2_with fail
    go_ret
    exact ⟨by rw [HE.out]; rfl, HB.out⟩
  have hb : (r == 1 + p.turn) = false := by simpa using h
  by_cases h2 : r = 2 - p.turn
  · have HE : Hid (overZ p r = -1000) := Lib.hid (by rw [HD.out, if_neg h, if_pos h2])
    have hb2 : (r == 2 - p.turn) = true := by simpa using h2
    clear h h2 HD
    go_wp2_with fail
    go_ret
    exact ⟨by rw [HE.out]; rfl, HB.out⟩
  · have HE : Hid (overZ p r = 0) := Lib.hid (by rw [HD.out, if_neg h, if_neg h2])
    have hb2 : (r == 2 - p.turn) = false := by simpa using h2
    clear h h2 HD
    go_wp2_with fail
    go_ret
    exact ⟨by rw [HE.out]; rfl, HB.out⟩

def OfSaid (R : RulesZ) (vp vs ve : Value) (d : Nat) : Prop := ∀ (p : PosZ) (vc v0 v1 : Value) (w : World), RdR w R vp vs ve → RdP w p vc v0 v1 → POk R p →
  Calls Try.prog 22 #[(.agg #[.string R.name, .int .i64 R.width, .int .i64 R.height, vp, vs, .bool R.falls, .bool R.keeps, ve, .int .i64 R.blocked, .int .i64 R.quiet, .int .i64 R.rept]), (.agg #[vc, v0, v1, .int .i64 p.turn, .int .i64 p.quiet]), .int .i64 (d : Int)] w fun e w' => e = .returned (.int .i64 (ofZ R d p)) ∧ Below w.heap.size w w'
set_option maxRecDepth 100000 in
set_option maxHeartbeats 8000000 in
theorem First_any (HS : SortMvSaid) (R : RulesZ) (vp vs ve : Value) (d : Nat) (hd : d ≤ 12) (IH : OfSaid R vp vs ve d) (p : PosZ) (vc v0 v1 : Value) (w : World) (hr : RdR w R vp vs ve) (hp : RdP w p vc v0 v1) (K : POk R p) :
    Calls Try.prog 36 #[(.agg #[.string R.name, .int .i64 R.width, .int .i64 R.height, vp, vs, .bool R.falls, .bool R.keeps, ve, .int .i64 R.blocked, .int .i64 R.quiet, .int .i64 R.rept]), (.agg #[vc, v0, v1, .int .i64 p.turn, .int .i64 p.quiet]), .int .i64 ((d + 1 : Nat) : Int)] w fun e w' => ∃ m : MoveZ, e = .returned (.tuple #[.agg #[.int .i64 m.src, .int .i64 m.dst, .int .i64 m.piece], .int .i64 (firstZ R d p (listZ R p).length)]) ∧ Below w.heap.size w w' := by
  have HSh := Lib.hid HS
  have HIH := Lib.hid IH
  have HR := Lib.hid hr
  have HP := Lib.hid hp
  have HK := Lib.hid K
  have hll := list_len3 K
  obtain ⟨ac, cc, hv, hc1, hc2⟩ := hp.1.form
  obtain ⟨ac0, cc0, hv0, -, -⟩ := hp.2.1.form
  obtain ⟨ac1, cc1, hv1, -, -⟩ := hp.2.2.form
  subst hv hv0 hv1
  unfold maxLen at hc2
  clear hr hp K HS IH
  go_enter Try.func36, Try.ntmps36
  go_upto_region 2 with (fail)
  have B0 : Box ((((w.alloc (.cells #[.string R.name, .int .i64 R.width, .int .i64 R.height, vp, vs, .bool R.falls, .bool R.keeps, ve, .int .i64 R.blocked, .int .i64 R.quiet, .int .i64 R.rept] 26)).alloc (.cells #[.slice ac p.cells.length cc, .slice ac0 p.h0.length cc0, .slice ac1 p.h1.length cc1, .int .i64 p.turn, .int .i64 p.quiet] 29)).alloc (.cells #[.int .i64 0, .int .i64 0, .int .i64 0] 70)).alloc (.cells #[.int .i64 0, .int .i64 0, .int .i64 0] 70)) (w.heap.size) [.string R.name, .int .i64 R.width, .int .i64 R.height, vp, vs, .bool R.falls, .bool R.keeps, ve, .int .i64 R.blocked, .int .i64 R.quiet, .int .i64 R.rept] 26 := ((((Box.new' w (w.heap.size) [.string R.name, .int .i64 R.width, .int .i64 R.height, vp, vs, .bool R.falls, .bool R.keeps, ve, .int .i64 R.blocked, .int .i64 R.quiet, .int .i64 R.rept] 26 (by simp <;> omega)).alloc _).alloc _).alloc _)
  have B1 : Box ((((w.alloc (.cells #[.string R.name, .int .i64 R.width, .int .i64 R.height, vp, vs, .bool R.falls, .bool R.keeps, ve, .int .i64 R.blocked, .int .i64 R.quiet, .int .i64 R.rept] 26)).alloc (.cells #[.slice ac p.cells.length cc, .slice ac0 p.h0.length cc0, .slice ac1 p.h1.length cc1, .int .i64 p.turn, .int .i64 p.quiet] 29)).alloc (.cells #[.int .i64 0, .int .i64 0, .int .i64 0] 70)).alloc (.cells #[.int .i64 0, .int .i64 0, .int .i64 0] 70)) (w.heap.size + 1) [.slice ac p.cells.length cc, .slice ac0 p.h0.length cc0, .slice ac1 p.h1.length cc1, .int .i64 p.turn, .int .i64 p.quiet] 29 := (((Box.new' (w.alloc (.cells #[.string R.name, .int .i64 R.width, .int .i64 R.height, vp, vs, .bool R.falls, .bool R.keeps, ve, .int .i64 R.blocked, .int .i64 R.quiet, .int .i64 R.rept] 26)) (w.heap.size + 1) [.slice ac p.cells.length cc, .slice ac0 p.h0.length cc0, .slice ac1 p.h1.length cc1, .int .i64 p.turn, .int .i64 p.quiet] 29 (by simp <;> omega)).alloc _).alloc _)
  have B2 : Box ((((w.alloc (.cells #[.string R.name, .int .i64 R.width, .int .i64 R.height, vp, vs, .bool R.falls, .bool R.keeps, ve, .int .i64 R.blocked, .int .i64 R.quiet, .int .i64 R.rept] 26)).alloc (.cells #[.slice ac p.cells.length cc, .slice ac0 p.h0.length cc0, .slice ac1 p.h1.length cc1, .int .i64 p.turn, .int .i64 p.quiet] 29)).alloc (.cells #[.int .i64 0, .int .i64 0, .int .i64 0] 70)).alloc (.cells #[.int .i64 0, .int .i64 0, .int .i64 0] 70)) (w.heap.size + 2) [.int .i64 0, .int .i64 0, .int .i64 0] 70 := ((Box.new' ((w.alloc (.cells #[.string R.name, .int .i64 R.width, .int .i64 R.height, vp, vs, .bool R.falls, .bool R.keeps, ve, .int .i64 R.blocked, .int .i64 R.quiet, .int .i64 R.rept] 26)).alloc (.cells #[.slice ac p.cells.length cc, .slice ac0 p.h0.length cc0, .slice ac1 p.h1.length cc1, .int .i64 p.turn, .int .i64 p.quiet] 29)) (w.heap.size + 2) [.int .i64 0, .int .i64 0, .int .i64 0] 70 (by simp <;> omega)).alloc _)
  have B3 : Box ((((w.alloc (.cells #[.string R.name, .int .i64 R.width, .int .i64 R.height, vp, vs, .bool R.falls, .bool R.keeps, ve, .int .i64 R.blocked, .int .i64 R.quiet, .int .i64 R.rept] 26)).alloc (.cells #[.slice ac p.cells.length cc, .slice ac0 p.h0.length cc0, .slice ac1 p.h1.length cc1, .int .i64 p.turn, .int .i64 p.quiet] 29)).alloc (.cells #[.int .i64 0, .int .i64 0, .int .i64 0] 70)).alloc (.cells #[.int .i64 0, .int .i64 0, .int .i64 0] 70)) (w.heap.size + 3) [.int .i64 0, .int .i64 0, .int .i64 0] 70 := (Box.new' (((w.alloc (.cells #[.string R.name, .int .i64 R.width, .int .i64 R.height, vp, vs, .bool R.falls, .bool R.keeps, ve, .int .i64 R.blocked, .int .i64 R.quiet, .int .i64 R.rept] 26)).alloc (.cells #[.slice ac p.cells.length cc, .slice ac0 p.h0.length cc0, .slice ac1 p.h1.length cc1, .int .i64 p.turn, .int .i64 p.quiet] 29)).alloc (.cells #[.int .i64 0, .int .i64 0, .int .i64 0] 70)) (w.heap.size + 3) [.int .i64 0, .int .i64 0, .int .i64 0] 70 (by simp <;> omega))
  have HB : Hid (Below w.heap.size w ((((w.alloc (.cells #[.string R.name, .int .i64 R.width, .int .i64 R.height, vp, vs, .bool R.falls, .bool R.keeps, ve, .int .i64 R.blocked, .int .i64 R.quiet, .int .i64 R.rept] 26)).alloc (.cells #[.slice ac p.cells.length cc, .slice ac0 p.h0.length cc0, .slice ac1 p.h1.length cc1, .int .i64 p.turn, .int .i64 p.quiet] 29)).alloc (.cells #[.int .i64 0, .int .i64 0, .int .i64 0] 70)).alloc (.cells #[.int .i64 0, .int .i64 0, .int .i64 0] 70))) := Lib.hid (((((Below.refl w.heap.size w).alloc (Nat.le_refl _) _).alloc (by simp <;> omega) _).alloc (by simp <;> omega) _).alloc (by simp <;> omega) _)
  have hz0 : w.heap.size + 3 < ((((w.alloc (.cells #[.string R.name, .int .i64 R.width, .int .i64 R.height, vp, vs, .bool R.falls, .bool R.keeps, ve, .int .i64 R.blocked, .int .i64 R.quiet, .int .i64 R.rept] 26)).alloc (.cells #[.slice ac p.cells.length cc, .slice ac0 p.h0.length cc0, .slice ac1 p.h1.length cc1, .int .i64 p.turn, .int .i64 p.quiet] 29)).alloc (.cells #[.int .i64 0, .int .i64 0, .int .i64 0] 70)).alloc (.cells #[.int .i64 0, .int .i64 0, .int .i64 0] 70)).heap.size := by simp
  generalize ((((w.alloc (.cells #[.string R.name, .int .i64 R.width, .int .i64 R.height, vp, vs, .bool R.falls, .bool R.keeps, ve, .int .i64 R.blocked, .int .i64 R.quiet, .int .i64 R.rept] 26)).alloc (.cells #[.slice ac p.cells.length cc, .slice ac0 p.h0.length cc0, .slice ac1 p.h1.length cc1, .int .i64 p.turn, .int .i64 p.quiet] 29)).alloc (.cells #[.int .i64 0, .int .i64 0, .int .i64 0] 70)).alloc (.cells #[.int .i64 0, .int .i64 0, .int .i64 0] 70)) = w0 at *
  have HX := Lib.hid B0
  have HY := Lib.hid B1
  have HU := Lib.hid B2
  have HT := Lib.hid B3
  clear B0 B1 B2 B3
  go_upto_region 3 with (fail)
  refine wp_region_lit ?_
  refine wpList_load_box (by rfl) 26 (.tmp 3) (by rfl) (w.heap.size) (by rfl) HX.out Try.underlying26 (by rfl) (by kernel_rfl) ?_
  refine wpList_load_box (by rfl) 29 (.tmp 4) (by rfl) (w.heap.size + 1) (by rfl) HY.out Try.underlying29 (by rfl) (by kernel_rfl) ?_
  go_wp2_with fail
  refine (List_any HSh.out R vp vs ve p _ _ _ w0 (HR.out.below HB.out (Nat.le_refl _)) (HP.out.below HB.out (Nat.le_refl _)) HK.out).mono ?_
  rintro e w1 ⟨vl, rfl, ho1, hb1⟩
  have HMh : Hid (Held (fun k => k = w.heap.size + 3) w1 fun w' => RdL moveEl w' vl (listZ R p)) := Lib.hid ((own_new ho1 (fun k h1 h2 hk => by have h3 : k = w.heap.size + 3 := hk; have h4 := HT.out.lt; omega)).imp (fun _ h => rdM_of_own h))
  obtain ⟨al, cl, rfl⟩ := own_form2 ho1
  have hs1 := hb1.size
  have HB1 := Lib.hid (below_trans HB.out hb1 HB.out.size)
  have HX1 := Lib.hid (HX.out.stays hb1)
  have HY1 := Lib.hid (HY.out.stays hb1)
  have HU1 := Lib.hid (HU.out.stays hb1)
  have HT1 := Lib.hid (HT.out.stays hb1)
  have hz3 : w.heap.size + 3 < w1.heap.size := HT1.out.lt
  clear ho1 hb1 HX HY HU HT HB hz0 hs1
  go_wp2_with fail
  go_loopw [17, 9, 11, 12] (fun vi vb a11 a12 wr => ∃ (k : Nat) (bm : MoveZ) (best : Int), k ≤ (listZ R p).length ∧ vi = .int .i64 k ∧ vb = .int .i64 best ∧ Hid (firstZ R d p k = best) ∧ Hid (Box wr (w.heap.size + 3) [.int .i64 bm.src, .int .i64 bm.dst, .int .i64 bm.piece] 70) ∧ Hid (Below (w.heap.size + 3) w1 wr) ∧ Hid (Fr (fun k => k = w.heap.size + 3) w1 wr)) (fun i _ _ _ _ => (listZ R p).length - (intOf i).toNat)
  case atStart => exact ⟨0, ⟨0, 0, 0⟩, -2000, Nat.zero_le _, rfl, rfl, Lib.hid (by unfold firstZ; simp), HT1, Lib.hid (Below.refl _ _), Lib.hid (Fr.refl _ _)⟩
  case round =>
    obtain ⟨k, bm, best, hk, rfl, rfl, HFk, HTr, HBr, HFr⟩ := hrel
    have hsz := HBr.out.size
    have HXr := Lib.hid (HX1.out.below HBr.out (by omega))
    have HYr := Lib.hid (HY1.out.below HBr.out (by omega))
    have HBw : Hid (Below w.heap.size w wr) := Lib.hid (HB1.out.trans (HBr.out.mono (by omega)))
    by_cases hlt : k < (listZ R p).length
    · have HMr := Lib.hid (HMh.out wr HFr.out)
      obtain ⟨gm, om, ha, hgm, hcc⟩ := moves_some HMr.out (by omega)
      subst ha
      obtain ⟨c0, c1, c2⟩ := hcc k hlt
      have hmem : (listZ R p).getD k default ∈ listZ R p := by rw [List.getD_eq_getElem?_getD, List.getElem?_eq_getElem hlt]; exact List.getElem_mem _
      have HFt := Lib.hid (fits_of HK.out hmem)
      have HKm := Lib.hid (make_ok HK.out hmem)
      have HST := Lib.hid (first_succ R d p k hlt)
      rw [HFk.out] at HST
      have hbr := first_rg R d p k
      rw [HFk.out] at hbr
      obtain ⟨m, hm⟩ : ∃ m, (listZ R p).getD k default = m := ⟨_, rfl⟩
      rw [hm] at c0 c1 c2 HFt HKm HST
      obtain ⟨sc, hsc⟩ : ∃ sc, ofZ R d (makeZ R p m) = sc := ⟨_, rfl⟩
      have hsr := of_rg R d (makeZ R p m)
      rw [hsc] at HST hsr
      have HSC := Lib.hid hsc
      obtain ⟨nx, hnx⟩ : ∃ nx, nearerZ (-sc) = nx := ⟨_, rfl⟩
      rw [hnx] at HST
      have HNX := Lib.hid hnx
      obtain ⟨hsr1, hsr2⟩ := hsr
      obtain ⟨hbr1, hbr2⟩ := hbr
      clear hcc hmem hm hsc hnx
      go_upto_region 6 with (fail)
      have HBm := Lib.hid (Box.new wr [.int .i64 m.src, .int .i64 m.dst, .int .i64 m.piece] 70)
      have hal := ((Below.refl wr.heap.size wr).alloc (Nat.le_refl _) (.cells #[.int .i64 m.src, .int .i64 m.dst, .int .i64 m.piece] 70))
      have HXx := Lib.hid (HXr.out.stays hal)
      have HYx := Lib.hid (HYr.out.stays hal)
      have HTx := Lib.hid (HTr.out.stays hal)
      have HLx := Lib.hid (below_trans HBr.out hal (by omega))
      have HZx := Lib.hid (below_trans HBw.out hal HBw.out.size)
      have HFx := Lib.hid (HFr.out.trans (Fr.of_new (S := fun k => k = w.heap.size + 3) hal) (Shr.refl _ _))
      obtain ⟨bx, hbx⟩ : ∃ bx, bx = wr.heap.size := ⟨_, rfl⟩
      rw [← hbx] at HBm ⊢
      clear c0 c1 c2 hal hbx HXr HYr HTr HBr HBw HMr HFr
      generalize (wr.alloc (.cells #[.int .i64 m.src, .int .i64 m.dst, .int .i64 m.piece] 70)) = wq at *
      have hwd : IntKind.i64.wrap (d : Int) = (d : Int) := IntWalk.i64_in _ (by omega)
      have hwn : IntKind.i64.wrap (-sc) = -sc := IntWalk.i64_in _ (by omega)
      have Bz : Box wq.drew w.heap.size [.string R.name, .int .i64 R.width, .int .i64 R.height, vp, vs, .bool R.falls, .bool R.keeps, ve, .int .i64 R.blocked, .int .i64 R.quiet, .int .i64 R.rept] 26 := HXx.out
      have Pz : Box wq.drew (w.heap.size + 1) [.slice ac p.cells.length cc, .slice ac0 p.h0.length cc0, .slice ac1 p.h1.length cc1, .int .i64 p.turn, .int .i64 p.quiet] 29 := HYx.out
      have Mz : Box wq.drew bx [.int .i64 m.src, .int .i64 m.dst, .int .i64 m.piece] 70 := HBm.out
      have Tz : Box wq.drew (w.heap.size + 3) [.int .i64 bm.src, .int .i64 bm.dst, .int .i64 bm.piece] 70 := HTx.out
      have Lz : Below (w.heap.size + 3) w1 wq.drew := below_drew' HLx.out
      have Zz : Below w.heap.size w wq.drew := below_drew' HZx.out
      have Fz : Fr (fun k => k = w.heap.size + 3) w1 wq.drew := HFx.out.drew
      clear HBm HXx HYx HTx HLx HZx HFx hsz
      refine wp_region_noPanic ?_
      refine beginL (S := (fun w' => w'.cell? ⟨w.heap.size, 0, none⟩ = some (.string R.name) ∧ w'.cell? ⟨w.heap.size, 1, none⟩ = some (.int .i64 R.width) ∧ w'.cell? ⟨w.heap.size, 2, none⟩ = some (.int .i64 R.height) ∧ w'.cell? ⟨w.heap.size, 3, none⟩ = some vp ∧ w'.cell? ⟨w.heap.size, 4, none⟩ = some vs ∧ w'.cell? ⟨w.heap.size, 5, none⟩ = some (.bool R.falls) ∧ w'.cell? ⟨w.heap.size, 6, none⟩ = some (.bool R.keeps) ∧ w'.cell? ⟨w.heap.size, 7, none⟩ = some ve ∧ w'.cell? ⟨w.heap.size, 8, none⟩ = some (.int .i64 R.blocked) ∧ w'.cell? ⟨w.heap.size, 9, none⟩ = some (.int .i64 R.quiet) ∧ w'.cell? ⟨w.heap.size, 10, none⟩ = some (.int .i64 R.rept) ∧ w'.cell? ⟨w.heap.size + 1, 0, none⟩ = some (.slice ac p.cells.length cc) ∧ w'.cell? ⟨w.heap.size + 1, 1, none⟩ = some (.slice ac0 p.h0.length cc0) ∧ w'.cell? ⟨w.heap.size + 1, 2, none⟩ = some (.slice ac1 p.h1.length cc1) ∧ w'.cell? ⟨w.heap.size + 1, 3, none⟩ = some (.int .i64 p.turn) ∧ w'.cell? ⟨w.heap.size + 1, 4, none⟩ = some (.int .i64 p.quiet) ∧ w'.cell? ⟨bx, 0, none⟩ = some (.int .i64 m.src) ∧ w'.cell? ⟨bx, 1, none⟩ = some (.int .i64 m.dst) ∧ w'.cell? ⟨bx, 2, none⟩ = some (.int .i64 m.piece))) (L := []) (by kernel_rfl) ⟨Bz.cell 0 rfl, Bz.cell 1 rfl, Bz.cell 2 rfl, Bz.cell 3 rfl, Bz.cell 4 rfl, Bz.cell 5 rfl, Bz.cell 6 rfl, Bz.cell 7 rfl, Bz.cell 8 rfl, Bz.cell 9 rfl, Bz.cell 10 rfl, Pz.cell 0 rfl, Pz.cell 1 rfl, Pz.cell 2 rfl, Pz.cell 3 rfl, Pz.cell 4 rfl, Mz.cell 0 rfl, Mz.cell 1 rfl, Mz.cell 2 rfl⟩ (fun hHeld => ?_)
      refine takeL (i := 0) (oi := { dst := some 21, op := Op.load 26 (Operand.tmp 3), type := 26, pos := "minimax.go:50", after := #[], guard := none }) (v := ?va1) rfl (by kernel_rfl) (by kernel_rfl) (by kernel_rfl) (by kernel_rfl) rfl (by kernel_rfl) (by kernel_rfl) (fun _ _ _ h => h) (Or.inl ⟨by rfl, ?ya1⟩) (by assumption) ?ra1
      case ya1 => (intro w hSw; (try dsimp only at hSw); go_simp; first | done | (with_reducible rfl))
      try simp only [Act.put, List.setIfInBounds_toArray, List.set_cons_zero, List.set_cons_succ]
      refine takeL (i := 1) (oi := { dst := some 22, op := Op.load 26 (Operand.tmp 3), type := 26, pos := "minimax.go:50", after := #[], guard := none }) (v := ?va2) rfl (by kernel_rfl) (by kernel_rfl) (by kernel_rfl) (by kernel_rfl) rfl (by kernel_rfl) (by kernel_rfl) (fun _ _ _ h => h) (Or.inl ⟨by rfl, ?ya2⟩) (by assumption) ?ra2
      case ya2 => (intro w hSw; (try dsimp only at hSw); go_simp; first | done | (with_reducible rfl))
      try simp only [Act.put, List.setIfInBounds_toArray, List.set_cons_zero, List.set_cons_succ]
      refine takeL (i := 2) (oi := { dst := some 23, op := Op.load 29 (Operand.tmp 4), type := 29, pos := "minimax.go:50", after := #[], guard := none }) (v := ?va3) rfl (by kernel_rfl) (by kernel_rfl) (by kernel_rfl) (by kernel_rfl) rfl (by kernel_rfl) (by kernel_rfl) (fun _ _ _ h => h) (Or.inl ⟨by rfl, ?ya3⟩) (by assumption) ?ra3
      case ya3 => (intro w hSw; (try dsimp only at hSw); go_simp; first | done | (with_reducible rfl))
      try simp only [Act.put, List.setIfInBounds_toArray, List.set_cons_zero, List.set_cons_succ]
      refine takeL (i := 3) (oi := { dst := some 24, op := Op.load 70 (Operand.tmp 11), type := 70, pos := "minimax.go:50", after := #[], guard := none }) (v := ?va4) rfl (by kernel_rfl) (by kernel_rfl) (by kernel_rfl) (by kernel_rfl) rfl (by kernel_rfl) (by kernel_rfl) (fun _ _ _ h => h) (Or.inl ⟨by rfl, ?ya4⟩) (by assumption) ?ra4
      case ya4 => (intro w hSw; (try dsimp only at hSw); go_simp; first | done | (with_reducible rfl))
      try simp only [Act.put, List.setIfInBounds_toArray, List.set_cons_zero, List.set_cons_succ]
      refine takeW (i := 5) (oi := { dst := some 26, op := Op.move (Operand.tmp 2), type := 3, pos := "minimax.go:50", after := #[], guard := none }) (v := ?va5) rfl (by kernel_rfl) (by kernel_rfl) (by kernel_rfl) rfl (fun _ _ _ h => h) (Or.inl ⟨by rfl, ?ya5⟩) (fun _ => by assumption) ?ra5
      case ya5 => (intro w _; go_simp; first | done | (with_reducible rfl) | (rw [if_neg (by omega)]))
      try simp only [Act.put, List.setIfInBounds_toArray, List.set_cons_zero, List.set_cons_succ]
      refine takeW (i := 6) (oi := { dst := some 27, op := Op.binOp BinOp.sub 3 (Operand.tmp 26) (Operand.const (Value.int IntKind.i64 1)) 3, type := 3, pos := "minimax.go:50", after := #[{ on := 5, ground := Ground.data }], guard := none }) (v := ?va6) rfl (by kernel_rfl) (by kernel_rfl) (by kernel_rfl) rfl (fun _ _ _ h => h) (Or.inl ⟨by rfl, ?ya6⟩) (fun _ => by assumption) ?ra6
      case ya6 => (intro w _; go_simp; first | done | (with_reducible rfl) | (rw [if_neg (by omega)]))
      try simp only [Act.put, List.setIfInBounds_toArray, List.set_cons_zero, List.set_cons_succ]
      refine readyL (rs := [4]) (by kernel_rfl) (by simp) ?_
      refine (AllReadyL.cons (o := { dst := some 25, op := Op.call { callee := Callee.value (Operand.func 57), args := #[Operand.tmp 22, Operand.tmp 23, Operand.tmp 24], argTypes := #[26, 29, 70] }, type := 29, pos := "minimax.go:50", after := #[{ on := 1, ground := Ground.data }, { on := 2, ground := Ground.data }, { on := 3, ground := Ground.data }], guard := none }) rfl (fun K hK => ?_) AllReadyL.nil)
      go_simp
      refine (Make_any R vp vs ve p (.slice ac p.cells.length cc) (.slice ac0 p.h0.length cc0) (.slice ac1 p.h1.length cc1) m _ (HP.out.below Zz (Nat.le_refl _)) HK.out HFt.out).mono ?_
      rintro e w4 ⟨yc, y0, y1, rfl, ho4, hb4⟩
      have B4 := Bz.stays hb4
      have P4 := Pz.stays hb4
      have M4 := Mz.stays hb4
      have T4 := Tz.stays hb4
      have L4 := below_trans Lz hb4 (Nat.le_trans (Nat.le_of_lt hz3) Lz.size)
      have Z4 := below_trans Zz hb4 Zz.size
      have F4 := Fz.trans (Fr.of_new (S := fun k => k = w.heap.size + 3) hb4) (Shr.refl _ _)
      have N4 := ho4.rd
      clear hb4 ho4
      unfold posV
      refine hK.out _ _ ⟨B4.cell 0 rfl, B4.cell 1 rfl, B4.cell 2 rfl, B4.cell 3 rfl, B4.cell 4 rfl, B4.cell 5 rfl, B4.cell 6 rfl, B4.cell 7 rfl, B4.cell 8 rfl, B4.cell 9 rfl, B4.cell 10 rfl, P4.cell 0 rfl, P4.cell 1 rfl, P4.cell 2 rfl, P4.cell 3 rfl, P4.cell 4 rfl, M4.cell 0 rfl, M4.cell 1 rfl, M4.cell 2 rfl⟩ (fun hHeld => ?_)
      clear hK K
      try simp only [Act.put, List.setIfInBounds_toArray, List.set_cons_zero, List.set_cons_succ]
      refine readyL (rs := [7]) (by kernel_rfl) (by simp) ?_
      refine (AllReadyL.cons (o := { dst := some 28, op := Op.call { callee := Callee.value (Operand.func 22), args := #[Operand.tmp 21, Operand.tmp 25, Operand.tmp 27], argTypes := #[26, 29, 3] }, type := 3, pos := "minimax.go:50", after := #[{ on := 0, ground := Ground.data }, { on := 4, ground := Ground.data }, { on := 6, ground := Ground.data }, { on := 4, ground := Ground.chain }], guard := none }) rfl (fun K hK => ?_) AllReadyL.nil)
      go_simp
      try rw [hwd]
      refine (HIH.out (makeZ R p m) yc y0 y1 w4 (HR.out.below Z4 (Nat.le_refl _)) N4 HKm.out).mono ?_
      rintro e w7 ⟨he7, hb7⟩
      rw [HSC.out] at he7
      subst he7
      have B7 := B4.stays hb7
      have P7 := P4.stays hb7
      have M7 := M4.stays hb7
      have T7 := T4.stays hb7
      have L7 := below_trans L4 hb7 (Nat.le_trans (Nat.le_of_lt hz3) L4.size)
      have Z7 := below_trans Z4 hb7 Z4.size
      have F7 := F4.trans (Fr.of_new (S := fun k => k = w.heap.size + 3) hb7) (Shr.refl _ _)
      clear hb7 N4
      refine hK.out _ _ ⟨B7.cell 0 rfl, B7.cell 1 rfl, B7.cell 2 rfl, B7.cell 3 rfl, B7.cell 4 rfl, B7.cell 5 rfl, B7.cell 6 rfl, B7.cell 7 rfl, B7.cell 8 rfl, B7.cell 9 rfl, B7.cell 10 rfl, P7.cell 0 rfl, P7.cell 1 rfl, P7.cell 2 rfl, P7.cell 3 rfl, P7.cell 4 rfl, M7.cell 0 rfl, M7.cell 1 rfl, M7.cell 2 rfl⟩ (fun hHeld => ?_)
      clear hK K
      try simp only [Act.put, List.setIfInBounds_toArray, List.set_cons_zero, List.set_cons_succ]
      refine takeW (i := 8) (oi := { dst := some 29, op := Op.unOp UnOp.neg 3 (Operand.tmp 28), type := 3, pos := "minimax.go:50", after := #[{ on := 7, ground := Ground.data }], guard := none }) (v := ?va7) rfl (by kernel_rfl) (by kernel_rfl) (by kernel_rfl) rfl (fun _ _ _ h => h) (Or.inl ⟨by rfl, ?ya7⟩) (fun _ => by assumption) ?ra7
      case ya7 => (intro w _; go_simp; first | done | (with_reducible rfl) | (rw [if_neg (by omega)]))
      try simp only [Act.put, List.setIfInBounds_toArray, List.set_cons_zero, List.set_cons_succ]
      refine readyL (rs := [9]) (by kernel_rfl) (by simp) ?_
      refine (AllReadyL.cons (o := { dst := some 30, op := Op.call { callee := Callee.value (Operand.func 56), args := #[Operand.tmp 29], argTypes := #[3] }, type := 3, pos := "minimax.go:50", after := #[{ on := 8, ground := Ground.data }, { on := 7, ground := Ground.chain }], guard := none }) rfl (fun K hK => ?_) AllReadyL.nil)
      go_simp
      try rw [hwn]
      refine (nearer_any (-sc) w7 (by omega) (by omega)).mono ?_
      rintro e w9 ⟨he9, hb9⟩
      rw [HNX.out] at he9
      subst he9
      have B9 := B7.stays hb9
      have P9 := P7.stays hb9
      have M9 := M7.stays hb9
      have T9 := T7.stays hb9
      have L9 := below_trans L7 hb9 (Nat.le_trans (Nat.le_of_lt hz3) L7.size)
      have Z9 := below_trans Z7 hb9 Z7.size
      have F9 := F7.trans (Fr.of_new (S := fun k => k = w.heap.size + 3) hb9) (Shr.refl _ _)
      clear hb9
      refine hK.out _ _ ⟨B9.cell 0 rfl, B9.cell 1 rfl, B9.cell 2 rfl, B9.cell 3 rfl, B9.cell 4 rfl, B9.cell 5 rfl, B9.cell 6 rfl, B9.cell 7 rfl, B9.cell 8 rfl, B9.cell 9 rfl, B9.cell 10 rfl, P9.cell 0 rfl, P9.cell 1 rfl, P9.cell 2 rfl, P9.cell 3 rfl, P9.cell 4 rfl, M9.cell 0 rfl, M9.cell 1 rfl, M9.cell 2 rfl⟩ (fun hHeld => ?_)
      clear hK K
      try simp only [Act.put, List.setIfInBounds_toArray, List.set_cons_zero, List.set_cons_succ]
      refine takeW (i := 10) (oi := { dst := some 12, op := Op.assign (Operand.tmp 30), type := 3, pos := "minimax.go:50", after := #[{ on := 9, ground := Ground.data }, { on := 9, ground := Ground.chain }, { on := 0, ground := Ground.phase }, { on := 1, ground := Ground.phase }, { on := 2, ground := Ground.phase }, { on := 3, ground := Ground.phase }, { on := 4, ground := Ground.phase }, { on := 5, ground := Ground.phase }, { on := 6, ground := Ground.phase }, { on := 7, ground := Ground.phase }, { on := 8, ground := Ground.phase }, { on := 9, ground := Ground.phase }], guard := none }) (v := ?va8) rfl (by kernel_rfl) (by kernel_rfl) (by kernel_rfl) rfl (fun _ _ _ h => h) (Or.inl ⟨by rfl, ?ya8⟩) (fun _ => by assumption) ?ra8
      case ya8 => (intro w _; go_simp; first | done | (with_reducible rfl) | (rw [if_neg (by omega)]))
      try simp only [Act.put, List.setIfInBounds_toArray, List.set_cons_zero, List.set_cons_succ]
      refine doneL (by kernel_rfl) ?_ _
      refine NoPanic.normal ?_
      have HB9 := Lib.hid B9
      have HP9 := Lib.hid P9
      have HM9 := Lib.hid M9
      have HT9 := Lib.hid T9
      have HL9 := Lib.hid L9
      have HF9 := Lib.hid F9
      clear hHeld Bz Pz Mz Tz Lz Zz Fz F4 F7 F9 B4 P4 M4 T4 L4 Z4 B7 P7 M7 T7 L7 Z7 B9 P9 M9 T9 L9 Z9
      by_cases hgt : best < nx
      · have HFS : Hid (firstZ R d p (k + 1) = nx) := Lib.hid (by rw [HST.out, if_pos hgt])
        have hbgt : decide (best < nx) = true := by simpa using hgt
        clear hgt HST
        go_wp2_with (first | (refine wpList_load_box (by rfl) 70 (.tmp 11) (by rfl) (bx) (by rfl) HM9.out Try.underlying70 (by rfl) (by kernel_rfl) ?_) | (refine wpList_store_box (vs := [.int .i64 m.src, .int .i64 m.dst, .int .i64 m.piece]) (by rfl) 70 (.tmp 8) (.tmp 34) (by rfl) (w.heap.size + 3) (by rfl) (by rfl) HT9.out rfl (by kernel_rfl) (by rfl) ?_))
        have HTs := Lib.hid (HT9.out.store (vs := [.int .i64 m.src, .int .i64 m.dst, .int .i64 m.piece]) rfl)
        have HLs := Lib.hid (below_setCells HL9.out (Nat.le_refl (w.heap.size + 3)) 0 [.int .i64 m.src, .int .i64 m.dst, .int .i64 m.piece])
        go_roundw
        case rel => exact ⟨k + 1, m, nx, by omega, by go_num, rfl, HFS, HTs, HLs, Lib.hid (HF9.out.setCells (by rfl) 0 _)⟩
        case measure => simp [intOf]; omega
      · have HFS : Hid (firstZ R d p (k + 1) = best) := Lib.hid (by rw [HST.out, if_neg hgt])
        have hbgt : decide (best < nx) = false := by simpa using hgt
        clear hgt HST
        go_wp2_with fail
        go_roundw
        case rel => exact ⟨k + 1, bm, best, by omega, by go_num, rfl, HFS, HT9, HL9, HF9⟩
        case measure => simp [intOf]; omega
    · obtain rfl : k = (listZ R p).length := by omega
      have HUr := Lib.hid (HU1.out.below HBr.out (by omega))
      have hbl : w.heap.size ≤ wr.heap.size := HBw.out.size
      clear HXr HYr
      go_wp2_with (first | (refine wpList_load_box (by rfl) 70 (.tmp 8) (by rfl) (w.heap.size + 3) (by rfl) HTr.out Try.underlying70 (by rfl) (by kernel_rfl) ?_) | (refine wpList_store_box (vs := [.int .i64 bm.src, .int .i64 bm.dst, .int .i64 bm.piece]) (by rfl) 70 (.tmp 6) (.tmp 37) (by rfl) (w.heap.size + 2) (by rfl) (by rfl) HUr.out rfl (by kernel_rfl) (by rfl) ?_))
      exact bodyPost_ret (results_box rfl (by rfl) (by rfl) (HUr.out.store rfl) Try.underlying70 (by rfl) (by kernel_rfl)) rfl ⟨bm, by rw [HFk.out]; rfl, below_setCells HBw.out (by omega) 0 _⟩
set_option maxRecDepth 100000 in
set_option maxHeartbeats 8000000 in
theorem Of_any (HS : SortMvSaid) (R : RulesZ) (vp vs ve : Value) : ∀ d : Nat, d ≤ 12 → OfSaid R vp vs ve d := by
  intro d
  induction d with
  | zero =>
    intro _ p vc v0 v1 w hr hp K
    have HD : Hid (ofZ R 0 p = if resultZ R p ≠ 0 then overZ p (resultZ R p) else 0) := Lib.hid rfl
    have HSh := Lib.hid HS
    have HR := Lib.hid hr
    have HP := Lib.hid hp
    have HK := Lib.hid K
    clear hr hp K HS
    go_enter Try.func22, Try.ntmps22
    go_upto_region 1 with (fail)
    have B0 : Box ((w.alloc (.cells #[.string R.name, .int .i64 R.width, .int .i64 R.height, vp, vs, .bool R.falls, .bool R.keeps, ve, .int .i64 R.blocked, .int .i64 R.quiet, .int .i64 R.rept] 26)).alloc (.cells #[vc, v0, v1, .int .i64 p.turn, .int .i64 p.quiet] 29)) (w.heap.size) [.string R.name, .int .i64 R.width, .int .i64 R.height, vp, vs, .bool R.falls, .bool R.keeps, ve, .int .i64 R.blocked, .int .i64 R.quiet, .int .i64 R.rept] 26 := ((Box.new' w (w.heap.size) [.string R.name, .int .i64 R.width, .int .i64 R.height, vp, vs, .bool R.falls, .bool R.keeps, ve, .int .i64 R.blocked, .int .i64 R.quiet, .int .i64 R.rept] 26 (by simp <;> omega)).alloc _)
    have B1 : Box ((w.alloc (.cells #[.string R.name, .int .i64 R.width, .int .i64 R.height, vp, vs, .bool R.falls, .bool R.keeps, ve, .int .i64 R.blocked, .int .i64 R.quiet, .int .i64 R.rept] 26)).alloc (.cells #[vc, v0, v1, .int .i64 p.turn, .int .i64 p.quiet] 29)) (w.heap.size + 1) [vc, v0, v1, .int .i64 p.turn, .int .i64 p.quiet] 29 := (Box.new' (w.alloc (.cells #[.string R.name, .int .i64 R.width, .int .i64 R.height, vp, vs, .bool R.falls, .bool R.keeps, ve, .int .i64 R.blocked, .int .i64 R.quiet, .int .i64 R.rept] 26)) (w.heap.size + 1) [vc, v0, v1, .int .i64 p.turn, .int .i64 p.quiet] 29 (by simp <;> omega))
    have HB : Hid (Below w.heap.size w ((w.alloc (.cells #[.string R.name, .int .i64 R.width, .int .i64 R.height, vp, vs, .bool R.falls, .bool R.keeps, ve, .int .i64 R.blocked, .int .i64 R.quiet, .int .i64 R.rept] 26)).alloc (.cells #[vc, v0, v1, .int .i64 p.turn, .int .i64 p.quiet] 29))) := Lib.hid (((Below.refl w.heap.size w).alloc (Nat.le_refl _) _).alloc (by simp <;> omega) _)
    have hz0 : w.heap.size + 1 < ((w.alloc (.cells #[.string R.name, .int .i64 R.width, .int .i64 R.height, vp, vs, .bool R.falls, .bool R.keeps, ve, .int .i64 R.blocked, .int .i64 R.quiet, .int .i64 R.rept] 26)).alloc (.cells #[vc, v0, v1, .int .i64 p.turn, .int .i64 p.quiet] 29)).heap.size := by simp
    generalize ((w.alloc (.cells #[.string R.name, .int .i64 R.width, .int .i64 R.height, vp, vs, .bool R.falls, .bool R.keeps, ve, .int .i64 R.blocked, .int .i64 R.quiet, .int .i64 R.rept] 26)).alloc (.cells #[vc, v0, v1, .int .i64 p.turn, .int .i64 p.quiet] 29)) = w0 at *
    have HX := Lib.hid B0
    have HY := Lib.hid B1
    clear B0 B1
    refine wp_region_lit ?_
    refine wpList_load_box (by rfl) 26 (.tmp 3) (by rfl) (w.heap.size) (by rfl) HX.out Try.underlying26 (by rfl) (by kernel_rfl) ?_
    refine wpList_load_box (by rfl) 29 (.tmp 4) (by rfl) (w.heap.size + 1) (by rfl) HY.out Try.underlying29 (by rfl) (by kernel_rfl) ?_
    go_wp2_with fail
    refine (Result_any HSh.out R vp vs ve p _ _ _ w0 (HR.out.below HB.out (Nat.le_refl _)) (HP.out.below HB.out (Nat.le_refl _)) HK.out).mono ?_
    rintro e w1 ⟨rfl, hb1⟩
    have HB1 := Lib.hid (below_trans HB.out hb1 HB.out.size)
    have HX1 := Lib.hid (HX.out.below hb1 (by omega))
    have HY1 := Lib.hid (HY.out.below hb1 (by omega))
    clear hb1 HX HY HB hz0
    by_cases hres : resultZ R p = 0
    rotate_left
    · have HE : Hid (ofZ R 0 p = overZ p (resultZ R p)) := Lib.hid (by rw [HD.out, if_pos hres])
      have hrb : (resultZ R p != 0) = true := by simpa using hres
      clear hres HD
      go_upto_region 3 with (fail)
      refine wp_region_lit ?_
      refine wpList_load_box (by rfl) 29 (.tmp 4) (by rfl) (w.heap.size + 1) (by rfl) HY1.out Try.underlying29 (by rfl) (by kernel_rfl) ?_
      go_wp2_with fail
      refine (over_any p _ _ _ (resultZ R p) w1 (by have := HK.out.tu; omega)).mono ?_
      rintro e w2 ⟨rfl, hb2⟩
      have HB2 := Lib.hid (below_trans HB1.out hb2 HB1.out.size)
      clear hb2
      go_wp2_with fail
      go_ret
      exact ⟨by rw [HE.out]; rfl, HB2.out⟩
    have HE : Hid (ofZ R 0 p = 0) := Lib.hid (by rw [HD.out, if_neg (by simpa using hres)])
    rw [hres]
    clear hres HD
    go_wp2_with fail
    go_ret
    exact ⟨by rw [HE.out]; rfl, HB1.out⟩
  | succ d ih =>
    intro hd p vc v0 v1 w hr hp K
    have HD : Hid (ofZ R (d + 1) p = if resultZ R p ≠ 0 then overZ p (resultZ R p) else firstZ R d p (listZ R p).length) := Lib.hid (by unfold firstZ; rw [List.take_of_length_le (Nat.le_refl _)]; rfl)
    have HIH := Lib.hid (ih (by omega))
    have HSh := Lib.hid HS
    have HR := Lib.hid hr
    have HP := Lib.hid hp
    have HK := Lib.hid K
    clear hr hp K HS ih
    go_enter Try.func22, Try.ntmps22
    go_upto_region 1 with (fail)
    have B0 : Box ((w.alloc (.cells #[.string R.name, .int .i64 R.width, .int .i64 R.height, vp, vs, .bool R.falls, .bool R.keeps, ve, .int .i64 R.blocked, .int .i64 R.quiet, .int .i64 R.rept] 26)).alloc (.cells #[vc, v0, v1, .int .i64 p.turn, .int .i64 p.quiet] 29)) (w.heap.size) [.string R.name, .int .i64 R.width, .int .i64 R.height, vp, vs, .bool R.falls, .bool R.keeps, ve, .int .i64 R.blocked, .int .i64 R.quiet, .int .i64 R.rept] 26 := ((Box.new' w (w.heap.size) [.string R.name, .int .i64 R.width, .int .i64 R.height, vp, vs, .bool R.falls, .bool R.keeps, ve, .int .i64 R.blocked, .int .i64 R.quiet, .int .i64 R.rept] 26 (by simp <;> omega)).alloc _)
    have B1 : Box ((w.alloc (.cells #[.string R.name, .int .i64 R.width, .int .i64 R.height, vp, vs, .bool R.falls, .bool R.keeps, ve, .int .i64 R.blocked, .int .i64 R.quiet, .int .i64 R.rept] 26)).alloc (.cells #[vc, v0, v1, .int .i64 p.turn, .int .i64 p.quiet] 29)) (w.heap.size + 1) [vc, v0, v1, .int .i64 p.turn, .int .i64 p.quiet] 29 := (Box.new' (w.alloc (.cells #[.string R.name, .int .i64 R.width, .int .i64 R.height, vp, vs, .bool R.falls, .bool R.keeps, ve, .int .i64 R.blocked, .int .i64 R.quiet, .int .i64 R.rept] 26)) (w.heap.size + 1) [vc, v0, v1, .int .i64 p.turn, .int .i64 p.quiet] 29 (by simp <;> omega))
    have HB : Hid (Below w.heap.size w ((w.alloc (.cells #[.string R.name, .int .i64 R.width, .int .i64 R.height, vp, vs, .bool R.falls, .bool R.keeps, ve, .int .i64 R.blocked, .int .i64 R.quiet, .int .i64 R.rept] 26)).alloc (.cells #[vc, v0, v1, .int .i64 p.turn, .int .i64 p.quiet] 29))) := Lib.hid (((Below.refl w.heap.size w).alloc (Nat.le_refl _) _).alloc (by simp <;> omega) _)
    have hz0 : w.heap.size + 1 < ((w.alloc (.cells #[.string R.name, .int .i64 R.width, .int .i64 R.height, vp, vs, .bool R.falls, .bool R.keeps, ve, .int .i64 R.blocked, .int .i64 R.quiet, .int .i64 R.rept] 26)).alloc (.cells #[vc, v0, v1, .int .i64 p.turn, .int .i64 p.quiet] 29)).heap.size := by simp
    generalize ((w.alloc (.cells #[.string R.name, .int .i64 R.width, .int .i64 R.height, vp, vs, .bool R.falls, .bool R.keeps, ve, .int .i64 R.blocked, .int .i64 R.quiet, .int .i64 R.rept] 26)).alloc (.cells #[vc, v0, v1, .int .i64 p.turn, .int .i64 p.quiet] 29)) = w0 at *
    have HX := Lib.hid B0
    have HY := Lib.hid B1
    clear B0 B1
    refine wp_region_lit ?_
    refine wpList_load_box (by rfl) 26 (.tmp 3) (by rfl) (w.heap.size) (by rfl) HX.out Try.underlying26 (by rfl) (by kernel_rfl) ?_
    refine wpList_load_box (by rfl) 29 (.tmp 4) (by rfl) (w.heap.size + 1) (by rfl) HY.out Try.underlying29 (by rfl) (by kernel_rfl) ?_
    go_wp2_with fail
    refine (Result_any HSh.out R vp vs ve p _ _ _ w0 (HR.out.below HB.out (Nat.le_refl _)) (HP.out.below HB.out (Nat.le_refl _)) HK.out).mono ?_
    rintro e w1 ⟨rfl, hb1⟩
    have HB1 := Lib.hid (below_trans HB.out hb1 HB.out.size)
    have HX1 := Lib.hid (HX.out.below hb1 (by omega))
    have HY1 := Lib.hid (HY.out.below hb1 (by omega))
    clear hb1 HX HY HB hz0
    by_cases hres : resultZ R p = 0
    rotate_left
    · have HE : Hid (ofZ R (d + 1) p = overZ p (resultZ R p)) := Lib.hid (by rw [HD.out, if_pos hres])
      have hrb : (resultZ R p != 0) = true := by simpa using hres
      clear hres HD
      go_upto_region 3 with (fail)
      refine wp_region_lit ?_
      refine wpList_load_box (by rfl) 29 (.tmp 4) (by rfl) (w.heap.size + 1) (by rfl) HY1.out Try.underlying29 (by rfl) (by kernel_rfl) ?_
      go_wp2_with fail
      refine (over_any p _ _ _ (resultZ R p) w1 (by have := HK.out.tu; omega)).mono ?_
      rintro e w2 ⟨rfl, hb2⟩
      have HB2 := Lib.hid (below_trans HB1.out hb2 HB1.out.size)
      clear hb2
      go_wp2_with fail
      go_ret
      exact ⟨by rw [HE.out]; rfl, HB2.out⟩
    have HE : Hid (ofZ R (d + 1) p = firstZ R d p (listZ R p).length) := Lib.hid (by rw [HD.out, if_neg (by simpa using hres)])
    have hdz : (((d + 1 : Nat) : Int) == 0) = false := by simp; omega
    rw [hres]
    clear hres HD
    go_upto_region 6 with (fail)
    refine wp_region_lit ?_
    refine wpList_load_box (by rfl) 26 (.tmp 3) (by rfl) (w.heap.size) (by rfl) HX1.out Try.underlying26 (by rfl) (by kernel_rfl) ?_
    refine wpList_load_box (by rfl) 29 (.tmp 4) (by rfl) (w.heap.size + 1) (by rfl) HY1.out Try.underlying29 (by rfl) (by kernel_rfl) ?_
    go_wp2_with fail
    refine (First_any HSh.out R vp vs ve d (by omega) HIH.out p _ _ _ w1 (HR.out.below HB1.out (Nat.le_refl _)) (HP.out.below HB1.out (Nat.le_refl _)) HK.out).mono ?_
    rintro e w2 ⟨m, rfl, hb2⟩
    have hl2 := below_trans HB1.out hb2 HB1.out.size
    have HB2 := Lib.hid (hl2.alloc hl2.size (.cells #[.int .i64 m.src, .int .i64 m.dst, .int .i64 m.piece] 70))
    clear hb2 hl2
    go_wp2_with fail
    go_ret
    exact ⟨by rw [HE.out]; rfl, HB2.out⟩

def scoreZ (R : RulesZ) (p : PosZ) (d : Int) : Int := if treeErr R p d = 0 then ofZ R d.toNat p else 0
set_option maxRecDepth 100000 in
set_option maxHeartbeats 4000000 in
theorem Score_any (HS : SortMvSaid) (R : RulesZ) (vp vs ve : Value) (p : PosZ) (vc v0 v1 : Value) (d : Int) (w : World) (hr : RdR w R vp vs ve) (hnm : R.name.size ≤ maxLen) (hp : RdP w p vc v0 v1) :
    Calls Try.prog 10 #[(.agg #[.string R.name, .int .i64 R.width, .int .i64 R.height, vp, vs, .bool R.falls, .bool R.keeps, ve, .int .i64 R.blocked, .int .i64 R.quiet, .int .i64 R.rept]), (.agg #[vc, v0, v1, .int .i64 p.turn, .int .i64 p.quiet]), .int .i64 d] w fun e w' => e = .returned (.tuple #[.int .i64 (scoreZ R p d), .int .i64 (treeErr R p d)]) ∧ Below w.heap.size w w' := by
  have HQ : Hid (scoreZ R p d = if treeErr R p d = 0 then ofZ R d.toNat p else 0) := Lib.hid rfl
  have HD : Hid (treeErr R p d = if posErr R p ≠ 0 then posErr R p else if d < 0 ∨ 12 < d then 1 else if 50000 < nodes R d.toNat p then 17 else 0) := Lib.hid rfl
  have HSh := Lib.hid HS
  have HR := Lib.hid hr
  have HN := Lib.hid hnm
  have HP := Lib.hid hp
  clear hr hnm hp HS
  go_enter Try.func10, Try.ntmps10
  go_upto_region 1 with (fail)
  have B0 : Box ((w.alloc (.cells #[.string R.name, .int .i64 R.width, .int .i64 R.height, vp, vs, .bool R.falls, .bool R.keeps, ve, .int .i64 R.blocked, .int .i64 R.quiet, .int .i64 R.rept] 26)).alloc (.cells #[vc, v0, v1, .int .i64 p.turn, .int .i64 p.quiet] 29)) (w.heap.size) [.string R.name, .int .i64 R.width, .int .i64 R.height, vp, vs, .bool R.falls, .bool R.keeps, ve, .int .i64 R.blocked, .int .i64 R.quiet, .int .i64 R.rept] 26 := ((Box.new' w (w.heap.size) [.string R.name, .int .i64 R.width, .int .i64 R.height, vp, vs, .bool R.falls, .bool R.keeps, ve, .int .i64 R.blocked, .int .i64 R.quiet, .int .i64 R.rept] 26 (by simp <;> omega)).alloc _)
  have B1 : Box ((w.alloc (.cells #[.string R.name, .int .i64 R.width, .int .i64 R.height, vp, vs, .bool R.falls, .bool R.keeps, ve, .int .i64 R.blocked, .int .i64 R.quiet, .int .i64 R.rept] 26)).alloc (.cells #[vc, v0, v1, .int .i64 p.turn, .int .i64 p.quiet] 29)) (w.heap.size + 1) [vc, v0, v1, .int .i64 p.turn, .int .i64 p.quiet] 29 := (Box.new' (w.alloc (.cells #[.string R.name, .int .i64 R.width, .int .i64 R.height, vp, vs, .bool R.falls, .bool R.keeps, ve, .int .i64 R.blocked, .int .i64 R.quiet, .int .i64 R.rept] 26)) (w.heap.size + 1) [vc, v0, v1, .int .i64 p.turn, .int .i64 p.quiet] 29 (by simp <;> omega))
  have HB : Hid (Below w.heap.size w ((w.alloc (.cells #[.string R.name, .int .i64 R.width, .int .i64 R.height, vp, vs, .bool R.falls, .bool R.keeps, ve, .int .i64 R.blocked, .int .i64 R.quiet, .int .i64 R.rept] 26)).alloc (.cells #[vc, v0, v1, .int .i64 p.turn, .int .i64 p.quiet] 29))) := Lib.hid (((Below.refl w.heap.size w).alloc (Nat.le_refl _) _).alloc (by simp <;> omega) _)
  have hz0 : w.heap.size + 1 < ((w.alloc (.cells #[.string R.name, .int .i64 R.width, .int .i64 R.height, vp, vs, .bool R.falls, .bool R.keeps, ve, .int .i64 R.blocked, .int .i64 R.quiet, .int .i64 R.rept] 26)).alloc (.cells #[vc, v0, v1, .int .i64 p.turn, .int .i64 p.quiet] 29)).heap.size := by simp
  generalize ((w.alloc (.cells #[.string R.name, .int .i64 R.width, .int .i64 R.height, vp, vs, .bool R.falls, .bool R.keeps, ve, .int .i64 R.blocked, .int .i64 R.quiet, .int .i64 R.rept] 26)).alloc (.cells #[vc, v0, v1, .int .i64 p.turn, .int .i64 p.quiet] 29)) = w0 at *
  have HX := Lib.hid B0
  have HY := Lib.hid B1
  clear B0 B1
  refine wp_region_lit ?_
  refine wpList_load_box (by rfl) 26 (.tmp 3) (by rfl) (w.heap.size) (by rfl) HX.out Try.underlying26 (by rfl) (by kernel_rfl) ?_
  refine wpList_load_box (by rfl) 29 (.tmp 4) (by rfl) (w.heap.size + 1) (by rfl) HY.out Try.underlying29 (by rfl) (by kernel_rfl) ?_
  go_wp2_with fail
  refine (Tree_any HSh.out R vp vs ve p vc v0 v1 d w0 (HR.out.below HB.out (Nat.le_refl _)) HN.out (HP.out.below HB.out (Nat.le_refl _))).mono ?_
  rintro e w1 ⟨he1, hb1⟩
  obtain ⟨te, hte⟩ : ∃ te, treeErr R p d = te := ⟨_, rfl⟩
  rw [hte] at he1 HQ HD
  subst he1
  have HTE := Lib.hid hte
  have HB1 := Lib.hid (below_trans HB.out hb1 HB.out.size)
  have HX1 := Lib.hid (HX.out.below hb1 (by omega))
  have HY1 := Lib.hid (HY.out.below hb1 (by omega))
  clear hb1 HX HY HB hz0 hte
  by_cases he : te = 0
  rotate_left
  · have HE : Hid (scoreZ R p d = 0) := Lib.hid (by rw [HQ.out, if_neg he])
    have heb : (te != 0) = true := by simpa using he
    clear he HQ HD
    go_wp2_with fail
    go_ret2
    exact ⟨by rw [HE.out, HTE.out]; rfl, HB1.out⟩
  have HE : Hid (scoreZ R p d = ofZ R d.toNat p) := Lib.hid (by rw [HQ.out, if_pos he])
  have HC : Hid (posErr R p = 0 ∧ ¬ (d < 0 ∨ 12 < d)) := Lib.hid (by
    have h := HD.out
    by_cases q : posErr R p = 0
    · rw [if_neg (by simp [q])] at h
      by_cases q2 : d < 0 ∨ 12 < d
      · rw [if_pos q2] at h; omega
      · exact ⟨q, q2⟩
    · rw [if_pos q] at h; exact absurd (h.symm.trans he) q)
  have HK := Lib.hid (pok_of HC.out.1)
  have HT0 : Hid (treeErr R p d = 0) := Lib.hid (by rw [HTE.out, he])
  obtain ⟨dn, rfl⟩ : ∃ dn : Nat, d = dn := ⟨d.toNat, by have := HC.out.2; omega⟩
  have hdn : dn ≤ 12 := by have := HC.out.2; omega
  rw [Int.toNat_natCast] at HE
  rw [he]
  clear he HQ HD HC HTE
  go_upto_region 4 with (fail)
  refine wp_region_lit ?_
  refine wpList_load_box (by rfl) 26 (.tmp 3) (by rfl) (w.heap.size) (by rfl) HX1.out Try.underlying26 (by rfl) (by kernel_rfl) ?_
  refine wpList_load_box (by rfl) 29 (.tmp 4) (by rfl) (w.heap.size + 1) (by rfl) HY1.out Try.underlying29 (by rfl) (by kernel_rfl) ?_
  go_wp2_with fail
  refine (Of_any HSh.out R vp vs ve dn hdn p vc v0 v1 w1 (HR.out.below HB1.out (Nat.le_refl _)) (HP.out.below HB1.out (Nat.le_refl _)) HK.out).mono ?_
  rintro e w2 ⟨rfl, hb2⟩
  have HB2 := Lib.hid (below_trans HB1.out hb2 HB1.out.size)
  clear hb2
  go_wp2_with fail
  go_ret2
  exact ⟨by rw [HE.out, HT0.out]; rfl, HB2.out⟩

end Go.Proofs.Ytaacfoeleblfbaa

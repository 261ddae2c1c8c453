/- The contracts of movetext.List, Read. -/
import Derived.Test.YtkfaibdflbdpgaaMq2
import Derived.Test.YtkfaibdflbdpgaaEnd3
namespace Go.Proofs.Ytkfaibdflbdpgaa
open Go.ChangeShapes Go.WideShapes Go.ChangeAt Go.RowKit
set_option linter.unusedVariables false

theorem IndexFunc_mt (v : Value) (xs : List MoveZ) (p : MoveZ → Bool) (f : FuncId) (caps : Array Value) (w : World) (h : RdL moveEl w v xs) (hf : ∀ (args : Array Value) (w : World), (callFunc f args).run Try.prog w = .ok (.enter f args) w)
    (hc : ∀ (W : World) (x : MoveZ) (cs : List Value), x ∈ xs → moveEl.E W x cs → Below w.heap.size w W → Calls Try.prog f (#[.agg cs.toArray] ++ caps) W fun e w' => e = .returned (.bool (p x)) ∧ Below W.heap.size W w') :
    Calls Try.prog 74 #[v, .func (.func f) #[] caps] w fun e w' => e = .returned (.int .i64 (idxL p xs 0)) ∧ Below w.heap.size w w' := by
  obtain ⟨a, c, rfl, h1, h2⟩ := h.form
  unfold maxLen at h2
  have HR := Lib.hid h
  have HC := Lib.hid hc
  clear h hc
  go_enter Try.func74, Try.ntmps74
  go_wp2_with fail
  go_loopw [8] (fun i wr => ∃ k : Nat, k ≤ xs.length ∧ i = .int .i64 k ∧ Hid (idxL p xs 0 = idxL p (xs.drop k) k) ∧ Below w.heap.size w wr) (fun i _ => xs.length - (intOf i).toNat)
  case atStart => exact ⟨0, Nat.zero_le _, rfl, Lib.hid rfl, Below.refl _ _⟩
  case round =>
    obtain ⟨k, hk, rfl, HK, hbl⟩ := hrel
    by_cases hlt : k < xs.length
    · obtain ⟨g, o, rfl, hg, hcc⟩ := (HR.out.below hbl (Nat.le_refl _)).some (by omega)
      obtain ⟨cs, hE, hcell⟩ := hcc k hlt
      have hcl := moveEl.len hE
      simp only [moveEl] at hcl
      obtain ⟨c0, c1, c2, rfl⟩ : ∃ c0 c1 c2, cs = [c0, c1, c2] := by
        match cs, hcl with
        | [c0, c1, c2], _ => exact ⟨_, _, _, rfl⟩
      have q0 := hcell 0 (by decide)
      have q1 := hcell 1 (by decide)
      have q2 := hcell 2 (by decide)
      simp only [moveEl, List.getElem?_cons_zero, List.getElem?_cons_succ, Nat.add_zero] at q0 q1 q2
      have HS := Lib.hid (idxL_step p xs k hlt)
      have HCk := Lib.hid (HC.out wr xs[k] [c0, c1, c2] (List.getElem_mem hlt) hE hbl)
      have HB := Lib.hid hbl
      clear hcell hcc hE hcl hbl
      generalize xs[k] = x at *
      go_wp2_with fail
      refine HCk.out.mono ?_
      rintro e w1 ⟨rfl, hb1⟩
      have HB1 := Lib.hid (below_trans HB.out hb1 HB.out.size)
      clear hb1
      cases hpx : p x
      · go_wp2_with fail
        go_roundw
        case rel => exact ⟨k + 1, by omega, by go_num, Lib.hid (by rw [HK.out, HS.out, if_neg (by simp [hpx])]), HB1.out⟩
        case measure => simp [intOf]; omega
      · go_wp2_with fail
        go_ret
        exact ⟨by rw [HK.out, HS.out, if_pos hpx]; rfl, HB1.out⟩
    · obtain rfl : k = xs.length := by omega
      go_wp2_with fail
      go_ret
      exact ⟨by rw [HK.out]; simp [idxL], hbl⟩


/-- the texts of all legal moves. -/
def textsZ (R : RulesZ) (p : PosZ) : List ByteArray := if posErr R p = 0 then (listZ R p).map (ofT R p (listZ R p)) else []
set_option maxRecDepth 100000 in
set_option maxHeartbeats 4000000 in
theorem MList_any (HS : SortMvSaid) (R : RulesZ) (vp vs ve : Value) (p : PosZ) (vc v0 v1 : Value) (w : World) (hr : RdR w R vp vs ve) (hnm : R.name.size ≤ maxLen) (hp : RdP w p vc v0 v1) :
    Calls Try.prog 29 #[(.agg #[.string R.name, .int .i64 R.width, .int .i64 R.height, vp, vs, .bool R.falls, .bool R.keeps, ve, .int .i64 R.blocked, .int .i64 R.quiet, .int .i64 R.rept]), (.agg #[vc, v0, v1, .int .i64 p.turn, .int .i64 p.quiet])] w fun e w' => ∃ v, e = .returned (.tuple #[v, .int .i64 (posErr R p)]) ∧ w'.ownsRow w.heap.size 9 1 v (textsZ R p).length (strs (textsZ R p)) ∧ Below w.heap.size w w' := by
  have HQ : Hid (textsZ R p = if posErr R p = 0 then (listZ R p).map (ofT R p (listZ R p)) else []) := Lib.hid rfl
  have HSh := Lib.hid HS
  have HR := Lib.hid hr
  have HN := Lib.hid hnm
  have HP := Lib.hid hp
  obtain ⟨ac, cc, rfl, hc1, hc2⟩ := hp.1.form
  unfold maxLen at hc2
  clear hr hnm hp HS
  go_enter Try.func29, Try.ntmps29
  go_upto_region 1 with (fail)
  have B0 : Box ((w.alloc (.cells #[.string R.name, .int .i64 R.width, .int .i64 R.height, vp, vs, .bool R.falls, .bool R.keeps, ve, .int .i64 R.blocked, .int .i64 R.quiet, .int .i64 R.rept] 26)).alloc (.cells #[.slice ac p.cells.length cc, v0, v1, .int .i64 p.turn, .int .i64 p.quiet] 37)) (w.heap.size) [.string R.name, .int .i64 R.width, .int .i64 R.height, vp, vs, .bool R.falls, .bool R.keeps, ve, .int .i64 R.blocked, .int .i64 R.quiet, .int .i64 R.rept] 26 := ((Box.new' w (w.heap.size) [.string R.name, .int .i64 R.width, .int .i64 R.height, vp, vs, .bool R.falls, .bool R.keeps, ve, .int .i64 R.blocked, .int .i64 R.quiet, .int .i64 R.rept] 26 (by simp <;> omega)).alloc _)
  have B1 : Box ((w.alloc (.cells #[.string R.name, .int .i64 R.width, .int .i64 R.height, vp, vs, .bool R.falls, .bool R.keeps, ve, .int .i64 R.blocked, .int .i64 R.quiet, .int .i64 R.rept] 26)).alloc (.cells #[.slice ac p.cells.length cc, v0, v1, .int .i64 p.turn, .int .i64 p.quiet] 37)) (w.heap.size + 1) [.slice ac p.cells.length cc, v0, v1, .int .i64 p.turn, .int .i64 p.quiet] 37 := (Box.new' (w.alloc (.cells #[.string R.name, .int .i64 R.width, .int .i64 R.height, vp, vs, .bool R.falls, .bool R.keeps, ve, .int .i64 R.blocked, .int .i64 R.quiet, .int .i64 R.rept] 26)) (w.heap.size + 1) [.slice ac p.cells.length cc, v0, v1, .int .i64 p.turn, .int .i64 p.quiet] 37 (by simp <;> omega))
  have HB : Hid (Below w.heap.size w ((w.alloc (.cells #[.string R.name, .int .i64 R.width, .int .i64 R.height, vp, vs, .bool R.falls, .bool R.keeps, ve, .int .i64 R.blocked, .int .i64 R.quiet, .int .i64 R.rept] 26)).alloc (.cells #[.slice ac p.cells.length cc, v0, v1, .int .i64 p.turn, .int .i64 p.quiet] 37))) := Lib.hid (((Below.refl w.heap.size w).alloc (Nat.le_refl _) _).alloc (by simp <;> omega) _)
  have hz0 : w.heap.size + 1 < ((w.alloc (.cells #[.string R.name, .int .i64 R.width, .int .i64 R.height, vp, vs, .bool R.falls, .bool R.keeps, ve, .int .i64 R.blocked, .int .i64 R.quiet, .int .i64 R.rept] 26)).alloc (.cells #[.slice ac p.cells.length cc, v0, v1, .int .i64 p.turn, .int .i64 p.quiet] 37)).heap.size := by simp
  generalize ((w.alloc (.cells #[.string R.name, .int .i64 R.width, .int .i64 R.height, vp, vs, .bool R.falls, .bool R.keeps, ve, .int .i64 R.blocked, .int .i64 R.quiet, .int .i64 R.rept] 26)).alloc (.cells #[.slice ac p.cells.length cc, v0, v1, .int .i64 p.turn, .int .i64 p.quiet] 37)) = w0 at *
  have HX := Lib.hid B0
  have HY := Lib.hid B1
  clear B0 B1
  refine wp_region_lit ?_
  refine wpList_load_box (by rfl) 26 (.tmp 2) (by rfl) (w.heap.size) (by rfl) HX.out Try.underlying26 (by rfl) (by kernel_rfl) ?_
  refine wpList_load_box (by rfl) 37 (.tmp 3) (by rfl) (w.heap.size + 1) (by rfl) HY.out Try.underlying37 (by rfl) (by kernel_rfl) ?_
  go_wp2_with fail
  refine (All_any HSh.out R vp vs ve p _ v0 v1 w0 (HR.out.below HB.out (Nat.le_refl _)) HN.out (HP.out.below HB.out (Nat.le_refl _))).mono ?_
  rintro e w1 ⟨va, rfl, ho1, hb1⟩
  have HB1 := Lib.hid (below_trans HB.out hb1 HB.out.size)
  have HX1 := Lib.hid (HX.out.below hb1 (by omega))
  have HY1 := Lib.hid (HY.out.below hb1 (by omega))
  have HO1 := Lib.hid ho1
  obtain ⟨aa, ca, rfl⟩ := own_form2 ho1
  clear hb1 HX HY ho1
  by_cases he : posErr R p = 0
  rotate_left
  · have HG : Hid (textsZ R p = []) := Lib.hid (by rw [HQ.out, if_neg he])
    have heb : (posErr R p != 0) = true := by simpa using he
    clear he HQ
    go_wp2_with fail
    go_ret2
    exact ⟨_, rfl, by rw [HG.out]; exact World.ownsRow_nil _ _ _ _, HB1.out⟩
  have HZE := Lib.hid he
  have HK := Lib.hid (pok_of he)
  have HLt := Lib.hid (let_ok (R := R) (by unfold posErr at he; by_cases q : rulesErr R = 0; exact q; rw [if_pos q] at he; exact he))
  have HAL : Hid (allZ R p = listZ R p) := Lib.hid (by unfold allZ; rw [if_pos he])
  have HG : Hid (textsZ R p = (listZ R p).map (ofT R p (listZ R p))) := Lib.hid (by rw [HQ.out, if_pos he])
  rw [HAL.out] at HO1
  rw [HAL.out, he]
  have HM1 := Lib.hid (rdM_of_own HO1.out)
  have HLF : Hid (∀ x ∈ listZ R p, x.src < p.cells.length) := Lib.hid (fun x hx => (fits_of HK.out hx).s.2)
  have hll : (listZ R p).length ≤ 10000 := list_len' HK.out
  have HOk : Hid (∀ x ∈ listZ R p, OfOk R p x) := Lib.hid (fun x hx => ofOk_of HK.out hx)
  clear he HAL HO1 HQ
  generalize listZ R p = LL at *
  have hz1 : w.heap.size + 1 < w1.heap.size := by have := HY1.out.lt; omega
  go_wp2_with fail
  go_loopw [22, 8, 10] (fun vi vo a10 wr => ∃ (k : Nat) (o : Value), o = vo ∧ k ≤ LL.length ∧ vi = .int .i64 k ∧ Hid (wr.ownsRow w1.heap.size 9 1 vo k (strs ((LL.take k).map (ofT R p LL)))) ∧ Hid (Below w1.heap.size w1 wr)) (fun i _ _ _ => LL.length - (intOf i).toNat)
  case atStart => exact ⟨0, _, rfl, Nat.zero_le _, rfl, Lib.hid (World.ownsRow_nil _ _ _ _), Lib.hid (Below.refl _ _)⟩
  case round =>
    obtain ⟨k, vo, rfl, hk, rfl, HO, HBr⟩ := hrel
    have hrs : w1.heap.size ≤ wr.heap.size := HBr.out.size
    have HBw := Lib.hid (below_trans HB1.out HBr.out HB1.out.size)
    by_cases hlt : k < LL.length
    · have HMr := Lib.hid (HM1.out.below HBr.out (Nat.le_refl _))
      obtain ⟨gl, ol, ha, hgl, hcc⟩ := moves_some HMr.out (by omega)
      subst ha
      obtain ⟨c0, c1, c2⟩ := hcc k hlt
      have hmem : LL.getD k default ∈ LL := by rw [List.getD_eq_getElem?_getD, List.getElem?_eq_getElem hlt]; exact List.getElem_mem _
      have HST : Hid ((LL.take (k + 1)).map (ofT R p LL) = (LL.take k).map (ofT R p LL) ++ [ofT R p LL (LL.getD k default)]) := Lib.hid (by rw [List.take_succ_eq_append_getElem hlt, List.map_append, List.getD_eq_getElem?_getD, List.getElem?_eq_getElem hlt]; rfl)
      have HOFk := Lib.hid (HOk.out _ hmem)
      clear hcc hmem
      generalize LL.getD k default = m at *
      go_upto_region 8 with (fail)
      have HBm := Lib.hid (Box.new wr [.int .i64 m.src, .int .i64 m.dst, .int .i64 m.piece] 42)
      have hal := ((Below.refl wr.heap.size wr).alloc (Nat.le_refl _) (.cells #[.int .i64 m.src, .int .i64 m.dst, .int .i64 m.piece] 42))
      have HXx := Lib.hid ((HX1.out.stays HBr.out).stays hal)
      have HYx := Lib.hid ((HY1.out.stays HBr.out).stays hal)
      have HOx := Lib.hid (own_stays HO.out hal)
      have HBx := Lib.hid (below_trans HBr.out hal (by omega))
      have HBwx := Lib.hid (below_trans HBw.out hal HBw.out.size)
      have HMx := Lib.hid (HMr.out.below hal (Nat.le_refl _))
      have hzm : wr.heap.size < (wr.alloc (.cells #[.int .i64 m.src, .int .i64 m.dst, .int .i64 m.piece] 42)).heap.size := by simp
      clear c0 c1 c2 hal HO HBr HBw HMr
      generalize (wr.alloc (.cells #[.int .i64 m.src, .int .i64 m.dst, .int .i64 m.piece] 42)) = wx at *
      refine wp_region_lit ?_
      go_wp2_with (first | (refine wpList_load_box (by rfl) 26 (.tmp 2) (by rfl) (w.heap.size) (by rfl) HXx.out Try.underlying26 (by rfl) (by kernel_rfl) ?_) | (refine wpList_load_box (by rfl) 37 (.tmp 3) (by rfl) (w.heap.size + 1) (by rfl) HYx.out Try.underlying37 (by rfl) (by kernel_rfl) ?_) | (refine wpList_load_box (by rfl) 42 (.tmp 10) (by rfl) (wr.heap.size) (by rfl) HBm.out Try.underlying42 (by rfl) (by kernel_rfl) ?_))
      refine (Of_any R vp vs ve p _ v0 v1 m _ LL wx (HR.out.1.below HBwx.out (Nat.le_refl _)) (HP.out.1.below HBwx.out (Nat.le_refl _)) HMx.out HK.out HLt.out HLF.out (by omega) HOFk.out).mono ?_
      rintro e wy ⟨rfl, hby⟩
      have HOy := Lib.hid (own_stays HOx.out hby)
      have HBy := Lib.hid (below_trans HBx.out hby HBx.out.size)
      have hrs5 : w1.heap.size ≤ wy.heap.size := HBy.out.size
      obtain ⟨XS, hXS⟩ : ∃ XS, (LL.take k).map (ofT R p LL) = XS := ⟨_, rfl⟩
      rw [hXS] at HOy HST
      obtain ⟨TX, hTX⟩ : ∃ TX, ofT R p LL m = TX := ⟨_, rfl⟩
      rw [hTX] at HST ⊢
      clear hXS hTX hby HBm HXx HYx HOx HBx HBwx HMx hzm
      go_wp2_with (at_builtin; refine app_new 50 9 (.string ByteArray.empty) 1 16 info_str Try.underlying50 rfl (by decide) (by rfl) _ _ (by rfl) w1.heap.size _ k (strs XS) [.string TX] wy HOy.out hrs5 rfl one_str (by omega) (by omega) (by rfl) (by rfl) ?_)
      intro g5 cap5 w5 hown5 hk5 hg5
      have HB5 := Lib.hid (hk5.below HBy.out (Nat.le_refl _))
      have HO5 : Hid (w5.ownsRow w1.heap.size 9 1 (.slice (some ⟨g5, 0, none⟩) (k + 1) cap5) (k + 1) (strs ((LL.take (k + 1)).map (ofT R p LL)))) := Lib.hid (by
        rw [HST.out, ← strs_snoc]; exact hown5)
      clear hown5 hk5 hg5 HOy HBy HST
      go_wp2_with fail
      go_roundw
      case rel => exact ⟨k + 1, _, rfl, by omega, by go_num, HO5, HB5⟩
      case measure => simp [intOf]; omega
    · obtain rfl : k = LL.length := by omega
      have HOl : Hid (wr.ownsRow w.heap.size 9 1 vo LL.length (strs (LL.map (ofT R p LL)))) := Lib.hid (by have := HO.out; rw [List.take_of_length_le (Nat.le_refl _)] at this; exact own_base this (by omega))
      obtain ⟨av, cv, rfl⟩ := own_form2 HOl.out
      clear HO
      go_wp2_with fail
      go_ret2
      exact ⟨_, by rw [HZE.out]; rfl, by rw [HG.out, List.length_map]; exact HOl.out, HBw.out⟩

set_option maxRecDepth 100000 in
set_option maxHeartbeats 4000000 in
theorem read1_any (R : RulesZ) (vp vs ve : Value) (p : PosZ) (vc v0 v1 : Value) (vl : Value) (LL : List MoveZ) (s : ByteArray) (m : MoveZ) (b0 b1 b2 b3 : Nat) (w : World) (B0 : Box w b0 [.string R.name, .int .i64 R.width, .int .i64 R.height, vp, vs, .bool R.falls, .bool R.keeps, ve, .int .i64 R.blocked, .int .i64 R.quiet, .int .i64 R.rept] 26) (B1 : Box w b1 [vc, v0, v1, .int .i64 p.turn, .int .i64 p.quiet] 37) (B2 : Box w b2 [vl] 32) (B3 : Box w b3 [.string s] 9)
    (hr : RdL pieceEl w vp R.pieces) (hp : RdI w vc p.cells) (hl : RdL moveEl w vl LL) (K : POk R p) (L : LetOk R) (hlf : ∀ x ∈ LL, x.src < p.cells.length) (hll : LL.length ≤ 1000000) (F : OfOk R p m) :
    Calls Try.prog 75 (#[.agg #[.int .i64 m.src, .int .i64 m.dst, .int .i64 m.piece]] ++ #[.pointer (some ⟨b0, 0, none⟩), .pointer (some ⟨b1, 0, none⟩), .pointer (some ⟨b2, 0, none⟩), .pointer (some ⟨b3, 0, none⟩)]) w fun e w' => e = .returned (.bool (ofT R p LL m == s)) ∧ Below w.heap.size w w' := by
  show Calls Try.prog 75 #[.agg #[.int .i64 m.src, .int .i64 m.dst, .int .i64 m.piece], .pointer (some ⟨b0, 0, none⟩), .pointer (some ⟨b1, 0, none⟩), .pointer (some ⟨b2, 0, none⟩), .pointer (some ⟨b3, 0, none⟩)] w _
  have HR := Lib.hid hr
  have HP := Lib.hid hp
  have HM := Lib.hid hl
  have HK := Lib.hid K
  have HLt := Lib.hid L
  have HLF := Lib.hid hlf
  have HOF := Lib.hid F
  obtain ⟨ac, cc, rfl, hc1, hc2⟩ := hp.form
  obtain ⟨al, cl, rfl, hl1, hl2⟩ := hl.form
  unfold maxLen at hc2 hl2
  have HX := Lib.hid B0
  have HY := Lib.hid B1
  have HZ := Lib.hid B2
  have HT := Lib.hid B3
  clear B0 B1 B2 B3 hr hp hl K L hlf F
  go_enter Try.func75, Try.ntmps75
  go_upto_region 1 with (fail)
  have hb0 := (Box.new' w w.heap.size [.int .i64 m.src, .int .i64 m.dst, .int .i64 m.piece] 42 rfl)
  have hal : Below w.heap.size w (w.alloc (.cells #[.int .i64 m.src, .int .i64 m.dst, .int .i64 m.piece] 42)) := ((Below.refl w.heap.size w).alloc (Nat.le_refl _) _)
  generalize (w.alloc (.cells #[.int .i64 m.src, .int .i64 m.dst, .int .i64 m.piece] 42)) = w0 at *
  have Rz : Box w0.drew b0 [.string R.name, .int .i64 R.width, .int .i64 R.height, vp, vs, .bool R.falls, .bool R.keeps, ve, .int .i64 R.blocked, .int .i64 R.quiet, .int .i64 R.rept] 26 := (HX.out.stays hal).drew
  have Pz : Box w0.drew b1 [.slice ac p.cells.length cc, v0, v1, .int .i64 p.turn, .int .i64 p.quiet] 37 := (HY.out.stays hal).drew
  have Vz : Box w0.drew b2 [.slice al LL.length cl] 32 := (HZ.out.stays hal).drew
  have Tz : Box w0.drew b3 [.string s] 9 := (HT.out.stays hal).drew
  have Mz : Box w0.drew w.heap.size [.int .i64 m.src, .int .i64 m.dst, .int .i64 m.piece] 42 := hb0
  have Lz : Below w.heap.size w w0.drew := below_drew' hal
  clear hb0 hal HX HY HZ HT
  refine wp_region_noPanic ?_
  refine beginL (S := (fun w' => w'.cell? ⟨b0, 0, none⟩ = some (.string R.name) ∧ w'.cell? ⟨b0, 1, none⟩ = some (.int .i64 R.width) ∧ w'.cell? ⟨b0, 2, none⟩ = some (.int .i64 R.height) ∧ w'.cell? ⟨b0, 3, none⟩ = some vp ∧ w'.cell? ⟨b0, 4, none⟩ = some vs ∧ w'.cell? ⟨b0, 5, none⟩ = some (.bool R.falls) ∧ w'.cell? ⟨b0, 6, none⟩ = some (.bool R.keeps) ∧ w'.cell? ⟨b0, 7, none⟩ = some ve ∧ w'.cell? ⟨b0, 8, none⟩ = some (.int .i64 R.blocked) ∧ w'.cell? ⟨b0, 9, none⟩ = some (.int .i64 R.quiet) ∧ w'.cell? ⟨b0, 10, none⟩ = some (.int .i64 R.rept) ∧ w'.cell? ⟨b1, 0, none⟩ = some (.slice ac p.cells.length cc) ∧ w'.cell? ⟨b1, 1, none⟩ = some v0 ∧ w'.cell? ⟨b1, 2, none⟩ = some v1 ∧ w'.cell? ⟨b1, 3, none⟩ = some (.int .i64 p.turn) ∧ w'.cell? ⟨b1, 4, none⟩ = some (.int .i64 p.quiet) ∧ w'.cell? ⟨b2, 0, none⟩ = some (.slice al LL.length cl) ∧ w'.cell? ⟨b3, 0, none⟩ = some (.string s) ∧ w'.cell? ⟨w.heap.size, 0, none⟩ = some (.int .i64 m.src) ∧ w'.cell? ⟨w.heap.size, 1, none⟩ = some (.int .i64 m.dst) ∧ w'.cell? ⟨w.heap.size, 2, none⟩ = some (.int .i64 m.piece))) (L := []) (by kernel_rfl) ⟨Rz.cell 0 rfl, Rz.cell 1 rfl, Rz.cell 2 rfl, Rz.cell 3 rfl, Rz.cell 4 rfl, Rz.cell 5 rfl, Rz.cell 6 rfl, Rz.cell 7 rfl, Rz.cell 8 rfl, Rz.cell 9 rfl, Rz.cell 10 rfl, Pz.cell 0 rfl, Pz.cell 1 rfl, Pz.cell 2 rfl, Pz.cell 3 rfl, Pz.cell 4 rfl, Vz.cell 0 rfl, Tz.cell 0 rfl, Mz.cell 0 rfl, Mz.cell 1 rfl, Mz.cell 2 rfl⟩ (fun hHeld => ?_)
  refine takeL (i := 0) (oi := { dst := some 7, op := Op.load 26 (Operand.tmp 1), type := 26, pos := "movetext.go:105", after := #[], guard := none }) (v := ?va1) rfl (by kernel_rfl) (by kernel_rfl) (by kernel_rfl) (by kernel_rfl) rfl (by kernel_rfl) (by kernel_rfl) (fun _ _ _ h => h) (Or.inl ⟨by rfl, ?ya1⟩) (by assumption) ?ra1
  case ya1 => (intro w hSw; (try dsimp only at hSw); go_simp; first | done | (with_reducible rfl))
  try simp only [Act.put, List.setIfInBounds_toArray, List.set_cons_zero, List.set_cons_succ]
  refine takeL (i := 1) (oi := { dst := some 8, op := Op.load 37 (Operand.tmp 2), type := 37, pos := "movetext.go:105", after := #[], guard := none }) (v := ?va2) rfl (by kernel_rfl) (by kernel_rfl) (by kernel_rfl) (by kernel_rfl) rfl (by kernel_rfl) (by kernel_rfl) (fun _ _ _ h => h) (Or.inl ⟨by rfl, ?ya2⟩) (by assumption) ?ra2
  case ya2 => (intro w hSw; (try dsimp only at hSw); go_simp; first | done | (with_reducible rfl))
  try simp only [Act.put, List.setIfInBounds_toArray, List.set_cons_zero, List.set_cons_succ]
  refine takeL (i := 2) (oi := { dst := some 9, op := Op.load 32 (Operand.tmp 3), type := 32, pos := "movetext.go:105", after := #[], guard := none }) (v := ?va3) rfl (by kernel_rfl) (by kernel_rfl) (by kernel_rfl) (by kernel_rfl) rfl (by kernel_rfl) (by kernel_rfl) (fun _ _ _ h => h) (Or.inl ⟨by rfl, ?ya3⟩) (by assumption) ?ra3
  case ya3 => (intro w hSw; (try dsimp only at hSw); go_simp; first | done | (with_reducible rfl))
  try simp only [Act.put, List.setIfInBounds_toArray, List.set_cons_zero, List.set_cons_succ]
  refine takeL (i := 3) (oi := { dst := some 10, op := Op.load 42 (Operand.tmp 5), type := 42, pos := "movetext.go:105", after := #[], guard := none }) (v := ?va4) rfl (by kernel_rfl) (by kernel_rfl) (by kernel_rfl) (by kernel_rfl) rfl (by kernel_rfl) (by kernel_rfl) (fun _ _ _ h => h) (Or.inl ⟨by rfl, ?ya4⟩) (by assumption) ?ra4
  case ya4 => (intro w hSw; (try dsimp only at hSw); go_simp; first | done | (with_reducible rfl))
  try simp only [Act.put, List.setIfInBounds_toArray, List.set_cons_zero, List.set_cons_succ]
  refine takeL (i := 5) (oi := { dst := some 12, op := Op.load 9 (Operand.tmp 4), type := 9, pos := "movetext.go:105", after := #[], guard := none }) (v := ?va5) rfl (by kernel_rfl) (by kernel_rfl) (by kernel_rfl) (by kernel_rfl) rfl (by kernel_rfl) (by kernel_rfl) (fun _ _ _ h => h) (Or.inl ⟨by rfl, ?ya5⟩) (by assumption) ?ra5
  case ya5 => (intro w hSw; (try dsimp only at hSw); go_simp; first | done | (with_reducible rfl))
  try simp only [Act.put, List.setIfInBounds_toArray, List.set_cons_zero, List.set_cons_succ]
  refine readyL (rs := [4]) (by kernel_rfl) (by simp) ?_
  refine (AllReadyL.cons (o := { dst := some 11, op := Op.call { callee := Callee.value (Operand.func 73), args := #[Operand.tmp 7, Operand.tmp 8, Operand.tmp 9, Operand.tmp 10], argTypes := #[26, 37, 32, 42] }, type := 9, pos := "movetext.go:105", after := #[{ on := 0, ground := Ground.data }, { on := 1, ground := Ground.data }, { on := 2, ground := Ground.data }, { on := 3, ground := Ground.data }], guard := none }) rfl (fun K hK => ?_) AllReadyL.nil)
  go_simp
  refine (Of_any R vp vs ve p _ v0 v1 m _ LL _ (HR.out.below Lz (Nat.le_refl _)) (HP.out.below Lz (Nat.le_refl _)) (HM.out.below Lz (Nat.le_refl _)) HK.out HLt.out HLF.out hll HOF.out).mono ?_
  rintro e w4 ⟨rfl, hb4⟩
  have R4 := Rz.stays hb4
  have P4 := Pz.stays hb4
  have V4 := Vz.stays hb4
  have T4 := Tz.stays hb4
  have M4 := Mz.stays hb4
  have L4 := below_trans Lz hb4 Lz.size
  clear hb4
  refine hK.out _ _ ⟨R4.cell 0 rfl, R4.cell 1 rfl, R4.cell 2 rfl, R4.cell 3 rfl, R4.cell 4 rfl, R4.cell 5 rfl, R4.cell 6 rfl, R4.cell 7 rfl, R4.cell 8 rfl, R4.cell 9 rfl, R4.cell 10 rfl, P4.cell 0 rfl, P4.cell 1 rfl, P4.cell 2 rfl, P4.cell 3 rfl, P4.cell 4 rfl, V4.cell 0 rfl, T4.cell 0 rfl, M4.cell 0 rfl, M4.cell 1 rfl, M4.cell 2 rfl⟩ (fun hHeld => ?_)
  clear hK K
  try simp only [Act.put, List.setIfInBounds_toArray, List.set_cons_zero, List.set_cons_succ]
  refine takeW (i := 6) (oi := { dst := some 13, op := Op.binOp BinOp.eql 9 (Operand.tmp 11) (Operand.tmp 12) 9, type := 4, pos := "movetext.go:105", after := #[{ on := 4, ground := Ground.data }, { on := 5, ground := Ground.data }], guard := none }) (v := ?va6) rfl (by kernel_rfl) (by kernel_rfl) (by kernel_rfl) rfl (fun _ _ _ h => h) (Or.inl ⟨by rfl, ?ya6⟩) (fun _ => by assumption) ?ra6
  case ya6 => (intro w _; go_simp; first | done | (with_reducible rfl) | (rw [if_neg (by omega)]))
  try simp only [Act.put, List.setIfInBounds_toArray, List.set_cons_zero, List.set_cons_succ]
  refine takeW (i := 7) (oi := { dst := some 6, op := Op.assign (Operand.tmp 13), type := 4, pos := "movetext.go:105", after := #[{ on := 6, ground := Ground.data }, { on := 4, ground := Ground.chain }, { on := 0, ground := Ground.phase }, { on := 1, ground := Ground.phase }, { on := 2, ground := Ground.phase }, { on := 3, ground := Ground.phase }, { on := 4, ground := Ground.phase }, { on := 5, ground := Ground.phase }, { on := 6, ground := Ground.phase }], guard := none }) (v := ?va7) rfl (by kernel_rfl) (by kernel_rfl) (by kernel_rfl) rfl (fun _ _ _ h => h) (Or.inl ⟨by rfl, ?ya7⟩) (fun _ => by assumption) ?ra7
  case ya7 => (intro w _; go_simp; first | done | (with_reducible rfl) | (rw [if_neg (by omega)]))
  try simp only [Act.put, List.setIfInBounds_toArray, List.set_cons_zero, List.set_cons_succ]
  refine doneL (by kernel_rfl) ?_ _
  refine NoPanic.normal ?_
  have HL4 := Lib.hid L4
  clear hHeld R4 P4 V4 T4 M4 L4 Rz Pz Vz Tz Mz Lz
  go_wp2_with fail
  go_ret
  exact ⟨by rw [beq_toListBytes]; rfl, HL4.out⟩
theorem callRd1 (args : Array Value) (w : World) : (callFunc 75 args).run Try.prog w = .ok (.enter 75 args) w := by kernel_rfl
/-- the first move with a text. -/
def readI (R : RulesZ) (p : PosZ) (s : ByteArray) : Int := idxL (fun m => ofT R p (listZ R p) m == s) (listZ R p) 0
def readErr (R : RulesZ) (p : PosZ) (s : ByteArray) : Int := if posErr R p ≠ 0 then posErr R p else if readI R p s < 0 then 13 else 0
def readZ (R : RulesZ) (p : PosZ) (s : ByteArray) : MoveZ := if readErr R p s = 0 then (listZ R p).getD (readI R p s).toNat default else ⟨0, 0, 0⟩
set_option maxRecDepth 100000 in
set_option maxHeartbeats 4000000 in
theorem Read_any (HS : SortMvSaid) (R : RulesZ) (vp vs ve : Value) (p : PosZ) (vc v0 v1 : Value) (s : ByteArray) (w : World) (hr : RdR w R vp vs ve) (hnm : R.name.size ≤ maxLen) (hp : RdP w p vc v0 v1) :
    Calls Try.prog 30 #[(.agg #[.string R.name, .int .i64 R.width, .int .i64 R.height, vp, vs, .bool R.falls, .bool R.keeps, ve, .int .i64 R.blocked, .int .i64 R.quiet, .int .i64 R.rept]), (.agg #[vc, v0, v1, .int .i64 p.turn, .int .i64 p.quiet]), .string s] w fun e w' => e = .returned (.tuple #[.agg #[.int .i64 (readZ R p s).src, .int .i64 (readZ R p s).dst, .int .i64 (readZ R p s).piece], .int .i64 (readErr R p s)]) ∧ Below w.heap.size w w' := by
  have HD : Hid (readErr R p s = if posErr R p ≠ 0 then posErr R p else if readI R p s < 0 then 13 else 0) := Lib.hid rfl
  have HQ : Hid (readZ R p s = if readErr R p s = 0 then (listZ R p).getD (readI R p s).toNat default else ⟨0, 0, 0⟩) := Lib.hid rfl
  have HSh := Lib.hid HS
  have HR := Lib.hid hr
  have HN := Lib.hid hnm
  have HP := Lib.hid hp
  obtain ⟨ac, cc, rfl, hc1, hc2⟩ := hp.1.form
  unfold maxLen at hc2
  clear hr hnm hp HS
  go_enter Try.func30, Try.ntmps30
  go_upto_region 1 with (fail)
  have B0 : Box ((((w.alloc (.cells #[.string R.name, .int .i64 R.width, .int .i64 R.height, vp, vs, .bool R.falls, .bool R.keeps, ve, .int .i64 R.blocked, .int .i64 R.quiet, .int .i64 R.rept] 26)).alloc (.cells #[.slice ac p.cells.length cc, v0, v1, .int .i64 p.turn, .int .i64 p.quiet] 37)).alloc (.cells #[.string s] 9)).alloc (.cells #[.int .i64 0, .int .i64 0, .int .i64 0] 42)) (w.heap.size) [.string R.name, .int .i64 R.width, .int .i64 R.height, vp, vs, .bool R.falls, .bool R.keeps, ve, .int .i64 R.blocked, .int .i64 R.quiet, .int .i64 R.rept] 26 := ((((Box.new' w (w.heap.size) [.string R.name, .int .i64 R.width, .int .i64 R.height, vp, vs, .bool R.falls, .bool R.keeps, ve, .int .i64 R.blocked, .int .i64 R.quiet, .int .i64 R.rept] 26 (by simp <;> omega)).alloc _).alloc _).alloc _)
  have B1 : Box ((((w.alloc (.cells #[.string R.name, .int .i64 R.width, .int .i64 R.height, vp, vs, .bool R.falls, .bool R.keeps, ve, .int .i64 R.blocked, .int .i64 R.quiet, .int .i64 R.rept] 26)).alloc (.cells #[.slice ac p.cells.length cc, v0, v1, .int .i64 p.turn, .int .i64 p.quiet] 37)).alloc (.cells #[.string s] 9)).alloc (.cells #[.int .i64 0, .int .i64 0, .int .i64 0] 42)) (w.heap.size + 1) [.slice ac p.cells.length cc, v0, v1, .int .i64 p.turn, .int .i64 p.quiet] 37 := (((Box.new' (w.alloc (.cells #[.string R.name, .int .i64 R.width, .int .i64 R.height, vp, vs, .bool R.falls, .bool R.keeps, ve, .int .i64 R.blocked, .int .i64 R.quiet, .int .i64 R.rept] 26)) (w.heap.size + 1) [.slice ac p.cells.length cc, v0, v1, .int .i64 p.turn, .int .i64 p.quiet] 37 (by simp <;> omega)).alloc _).alloc _)
  have B2 : Box ((((w.alloc (.cells #[.string R.name, .int .i64 R.width, .int .i64 R.height, vp, vs, .bool R.falls, .bool R.keeps, ve, .int .i64 R.blocked, .int .i64 R.quiet, .int .i64 R.rept] 26)).alloc (.cells #[.slice ac p.cells.length cc, v0, v1, .int .i64 p.turn, .int .i64 p.quiet] 37)).alloc (.cells #[.string s] 9)).alloc (.cells #[.int .i64 0, .int .i64 0, .int .i64 0] 42)) (w.heap.size + 1 + 1) [.string s] 9 := ((Box.new' ((w.alloc (.cells #[.string R.name, .int .i64 R.width, .int .i64 R.height, vp, vs, .bool R.falls, .bool R.keeps, ve, .int .i64 R.blocked, .int .i64 R.quiet, .int .i64 R.rept] 26)).alloc (.cells #[.slice ac p.cells.length cc, v0, v1, .int .i64 p.turn, .int .i64 p.quiet] 37)) (w.heap.size + 1 + 1) [.string s] 9 (by simp <;> omega)).alloc _)
  have B3 : Box ((((w.alloc (.cells #[.string R.name, .int .i64 R.width, .int .i64 R.height, vp, vs, .bool R.falls, .bool R.keeps, ve, .int .i64 R.blocked, .int .i64 R.quiet, .int .i64 R.rept] 26)).alloc (.cells #[.slice ac p.cells.length cc, v0, v1, .int .i64 p.turn, .int .i64 p.quiet] 37)).alloc (.cells #[.string s] 9)).alloc (.cells #[.int .i64 0, .int .i64 0, .int .i64 0] 42)) (w.heap.size + 1 + 1 + 1) [.int .i64 0, .int .i64 0, .int .i64 0] 42 := (Box.new' (((w.alloc (.cells #[.string R.name, .int .i64 R.width, .int .i64 R.height, vp, vs, .bool R.falls, .bool R.keeps, ve, .int .i64 R.blocked, .int .i64 R.quiet, .int .i64 R.rept] 26)).alloc (.cells #[.slice ac p.cells.length cc, v0, v1, .int .i64 p.turn, .int .i64 p.quiet] 37)).alloc (.cells #[.string s] 9)) (w.heap.size + 1 + 1 + 1) [.int .i64 0, .int .i64 0, .int .i64 0] 42 (by simp <;> omega))
  have HB : Hid (Below w.heap.size w ((((w.alloc (.cells #[.string R.name, .int .i64 R.width, .int .i64 R.height, vp, vs, .bool R.falls, .bool R.keeps, ve, .int .i64 R.blocked, .int .i64 R.quiet, .int .i64 R.rept] 26)).alloc (.cells #[.slice ac p.cells.length cc, v0, v1, .int .i64 p.turn, .int .i64 p.quiet] 37)).alloc (.cells #[.string s] 9)).alloc (.cells #[.int .i64 0, .int .i64 0, .int .i64 0] 42))) := Lib.hid (((((Below.refl w.heap.size w).alloc (Nat.le_refl _) _).alloc (by simp <;> omega) _).alloc (by simp <;> omega) _).alloc (by simp <;> omega) _)
  have hz0 : w.heap.size + 1 + 1 + 1 < ((((w.alloc (.cells #[.string R.name, .int .i64 R.width, .int .i64 R.height, vp, vs, .bool R.falls, .bool R.keeps, ve, .int .i64 R.blocked, .int .i64 R.quiet, .int .i64 R.rept] 26)).alloc (.cells #[.slice ac p.cells.length cc, v0, v1, .int .i64 p.turn, .int .i64 p.quiet] 37)).alloc (.cells #[.string s] 9)).alloc (.cells #[.int .i64 0, .int .i64 0, .int .i64 0] 42)).heap.size := by simp
  generalize ((((w.alloc (.cells #[.string R.name, .int .i64 R.width, .int .i64 R.height, vp, vs, .bool R.falls, .bool R.keeps, ve, .int .i64 R.blocked, .int .i64 R.quiet, .int .i64 R.rept] 26)).alloc (.cells #[.slice ac p.cells.length cc, v0, v1, .int .i64 p.turn, .int .i64 p.quiet] 37)).alloc (.cells #[.string s] 9)).alloc (.cells #[.int .i64 0, .int .i64 0, .int .i64 0] 42)) = w0 at *
  have HX := Lib.hid B0
  have HY := Lib.hid B1
  have HT := Lib.hid B2
  have HM := Lib.hid B3
  clear B0 B1 B2 B3
  refine wp_region_lit ?_
  refine wpList_load_box (by rfl) 26 (.tmp 3) (by rfl) (w.heap.size) (by rfl) HX.out Try.underlying26 (by rfl) (by kernel_rfl) ?_
  refine wpList_load_box (by rfl) 37 (.tmp 4) (by rfl) (w.heap.size + 1) (by rfl) HY.out Try.underlying37 (by rfl) (by kernel_rfl) ?_
  go_wp2_with fail
  refine (All_any HSh.out R vp vs ve p _ v0 v1 w0 (HR.out.below HB.out (Nat.le_refl _)) HN.out (HP.out.below HB.out (Nat.le_refl _))).mono ?_
  rintro e w1 ⟨va, rfl, ho1, hb1⟩
  have hl1 := below_trans HB.out hb1 HB.out.size
  have HX0 := Lib.hid (HX.out.below hb1 (by omega))
  have HY0 := Lib.hid (HY.out.below hb1 (by omega))
  have HT0 := Lib.hid (HT.out.below hb1 (by omega))
  have HM0 := Lib.hid (HM.out.below hb1 (by omega))
  obtain ⟨aa, ca, rfl⟩ := own_form2 ho1
  have hal := ((Below.refl w1.heap.size w1).alloc (Nat.le_refl _) (.cells #[.slice aa (allZ R p).length ca] 32))
  have HB1 := Lib.hid (below_trans hl1 hal hl1.size)
  have HX1 := Lib.hid (HX0.out.stays hal)
  have HY1 := Lib.hid (HY0.out.stays hal)
  have HT1 := Lib.hid (HT0.out.stays hal)
  have HM1 := Lib.hid (HM0.out.stays hal)
  have HV1 := Lib.hid (Box.new w1 [.slice aa (allZ R p).length ca] 32)
  have HO1 := Lib.hid (own_stays ho1 hal)
  have hzb : w.heap.size + 1 + 1 + 1 < w1.heap.size := HM0.out.lt
  clear hb1 hl1 HX HY HT HM ho1 HX0 HY0 HT0 HM0 hal hz0
  go_upto_region 2 with (fail)
  obtain ⟨bl, hbl⟩ : ∃ bl, bl = w1.heap.size := ⟨_, rfl⟩
  rw [← hbl] at HV1 hzb ⊢
  clear hbl
  generalize (w1.alloc (.cells #[.slice aa (allZ R p).length ca] 32)) = w2 at *
  by_cases he : posErr R p = 0
  rotate_left
  · have hE : readErr R p s = posErr R p := by rw [HD.out, if_pos he]
    have HE := Lib.hid hE
    have HG : Hid (readZ R p s = ⟨0, 0, 0⟩) := Lib.hid (by rw [HQ.out, hE, if_neg he])
    have heb : (posErr R p != 0) = true := by simpa using he
    clear hE he HD HQ HV1 HO1
    go_wp2_with (refine wpList_store_box (vs := [.int .i64 0, .int .i64 0, .int .i64 0]) (by rfl) 42 (.tmp 6) (.tmp 19) (by rfl) (w.heap.size + 1 + 1 + 1) (by rfl) (by rfl) HM1.out rfl (by kernel_rfl) (by rfl) ?_)
    exact bodyPost_ret (results_box rfl (by rfl) (by rfl) (HM1.out.store rfl) Try.underlying42 (by rfl) (by kernel_rfl)) rfl ⟨by rw [HE.out, HG.out]; rfl, below_setCells HB1.out (by omega) 0 _⟩
  have HZE := Lib.hid he
  have HK := Lib.hid (pok_of he)
  have HLt := Lib.hid (let_ok (R := R) (by unfold posErr at he; by_cases q : rulesErr R = 0; exact q; rw [if_pos q] at he; exact he))
  have HAL : Hid (allZ R p = listZ R p) := Lib.hid (by unfold allZ; rw [if_pos he])
  rw [HAL.out] at HO1 HV1
  rw [HAL.out, he]
  have HL1 := Lib.hid (rdM_of_own HO1.out)
  have HLF : Hid (∀ x ∈ listZ R p, x.src < p.cells.length) := Lib.hid (fun x hx => (fits_of HK.out hx).s.2)
  have hll : (listZ R p).length ≤ 10000 := list_len' HK.out
  have HOk : Hid (∀ x ∈ listZ R p, OfOk R p x) := Lib.hid (fun x hx => ofOk_of HK.out hx)
  have HD1 : Hid (readErr R p s = if readI R p s < 0 then 13 else 0) := Lib.hid (by rw [HD.out, if_neg (by simp [he])])
  have HIR := Lib.hid (idxL_range (fun m => ofT R p (listZ R p) m == s) (listZ R p) 0 (by omega))
  have HI := Lib.hid (IndexFunc_mt (.slice aa (listZ R p).length ca) (listZ R p) (fun m => ofT R p (listZ R p) m == s) 75 #[.pointer (some ⟨w.heap.size, 0, none⟩), .pointer (some ⟨w.heap.size + 1, 0, none⟩), .pointer (some ⟨bl, 0, none⟩), .pointer (some ⟨w.heap.size + 1 + 1, 0, none⟩)] w2 HL1.out callRd1 (fun W x cs hx hE hW => by
    simp only [moveEl] at hE
    subst hE
    exact read1_any R vp vs ve p _ v0 v1 _ (listZ R p) s x _ _ _ _ W (HX1.out.stays hW) (HY1.out.stays hW) (HV1.out.stays hW) (HT1.out.stays hW) ((HR.out.1.below HB1.out (Nat.le_refl _)).below hW (by have := HB1.out.size; omega)) ((HP.out.1.below HB1.out (Nat.le_refl _)).below hW (by have := HB1.out.size; omega)) (HL1.out.below hW (Nat.le_refl _)) HK.out HLt.out HLF.out (by omega) (HOk.out x hx)))
  have HRI : Hid (idxL (fun m => ofT R p (listZ R p) m == s) (listZ R p) 0 = readI R p s) := Lib.hid rfl
  rw [HRI.out] at HI HIR
  clear he HAL HO1 HD HRI
  have d0 := HV1.out.cell 0 rfl
  generalize readI R p s = ri at *
  generalize listZ R p = LL at *
  go_wp2_with fail
  refine HI.out.mono ?_
  rintro e w3 ⟨rfl, hb3⟩
  have HB3 := Lib.hid (below_trans HB1.out hb3 HB1.out.size)
  have HM3 := Lib.hid (HM1.out.stays hb3)
  have HV3 := Lib.hid (HV1.out.stays hb3)
  have HL3 := Lib.hid (HL1.out.below hb3 (Nat.le_refl _))
  clear hb3 HI HB1 HX1 HY1 HT1 HM1 HV1 d0 HL1
  have hir := HIR.out
  by_cases hneg : ri < 0
  · have hE : readErr R p s = 13 := by rw [HD1.out, if_pos hneg]
    have HE := Lib.hid hE
    have HG : Hid (readZ R p s = ⟨0, 0, 0⟩) := Lib.hid (by rw [HQ.out, hE]; rfl)
    clear hE HD1 HQ hir
    go_wp2_with (refine wpList_store_box (vs := [.int .i64 0, .int .i64 0, .int .i64 0]) (by rfl) 42 (.tmp 6) (.tmp 26) (by rfl) (w.heap.size + 1 + 1 + 1) (by rfl) (by rfl) HM3.out rfl (by kernel_rfl) (by rfl) ?_)
    exact bodyPost_ret (results_box rfl (by rfl) (by rfl) (HM3.out.store rfl) Try.underlying42 (by rfl) (by kernel_rfl)) rfl ⟨by rw [HE.out, HG.out]; rfl, below_setCells HB3.out (by omega) 0 _⟩
  have hE : readErr R p s = 0 := by rw [HD1.out, if_neg hneg]
  have HE := Lib.hid hE
  have HG : Hid (readZ R p s = LL.getD ri.toNat default) := Lib.hid (by rw [HQ.out, if_pos hE])
  have hrl : 0 ≤ ri ∧ ri < LL.length := by omega
  obtain ⟨hr0, hr1⟩ := hrl
  obtain ⟨gl, ol, ha, hgl, hcc⟩ := moves_some HL3.out (by omega)
  subst ha
  obtain ⟨c0, c1, c2⟩ := hcc ri.toNat (by omega)
  have d0 := HV3.out.cell 0 rfl
  clear hcc hE HD1 HQ hir
  generalize LL.getD ri.toNat default = x at *
  go_wp2_with (refine wpList_store_box (vs := [.int .i64 x.src, .int .i64 x.dst, .int .i64 x.piece]) (by rfl) 42 (.tmp 6) (.tmp 30) (by rfl) (w.heap.size + 1 + 1 + 1) (by rfl) (by rfl) HM3.out rfl (by kernel_rfl) (by rfl) ?_)
  exact bodyPost_ret (results_box rfl (by rfl) (by rfl) (HM3.out.store rfl) Try.underlying42 (by rfl) (by kernel_rfl)) rfl ⟨by rw [HE.out, HG.out]; rfl, below_setCells HB3.out (by omega) 0 _⟩

end Go.Proofs.Ytkfaibdflbdpgaa

/- The contract of handicap.Without. -/
import Derived.Test.YtaacfoeleblfbaaRCopy2
import Derived.Test.YtaacfoeleblfbaaIntsIdx
import Derived.Test.YtaacfoeleblfbaaSymA
namespace Go.Proofs.Ytaacfoeleblfbaa
open Go.ChangeShapes Go.WideShapes Go.ChangeAt Go.RowKit
set_option linter.unusedVariables false

theorem RdI.take {w : World} {a : Option Addr} {c : Nat} {zs : List Int} (h : RdI w (.slice a zs.length c) zs) (k : Nat) (hk : k ≤ zs.length) : RdI w (.slice a k c) (zs.take k) := by
  have := Rd.take h k hk
  unfold RdI
  rw [List.length_take, Nat.min_eq_left hk]
  rw [Nat.mul_one] at this
  unfold ints at *
  rw [List.map_take]
  exact this
def zeroR : RulesZ := ⟨⟨#[]⟩, 0, 0, [], [], false, false, [], 0, 0, 0⟩
theorem zero_rd (w : World) : RdR w zeroR (.slice none 0 0) (.slice none 0 0) (.slice none 0 0) := ⟨RdL.nil _ _, ⟨rfl, .inl ⟨rfl, rfl⟩⟩, RdL.nil _ _⟩
theorem zero_nm : zeroR.name.size ≤ maxLen := by unfold maxLen; decide
def woHead (R : RulesZ) (pl : Int) : Int := if rulesErr R ≠ 0 then rulesErr R else if pl ≠ 0 ∧ pl ≠ 1 then 1 else 0
def woAt (R : RulesZ) (pl : Int) (sq : List Int) (k : Nat) : Int :=
  if sq.getD k 0 < 0 then 4 else if (R.start.length : Int) ≤ sq.getD k 0 then 4 else if ((sq.take k).any fun z => sq.getD k 0 == z) = true then 7
  else if R.start.getD (sq.getD k 0).toNat 0 = 0 then 8 else if Int.tmod (R.start.getD (sq.getD k 0).toNat 0 - 1) 2 ≠ pl then 8 else 0
def woFrom (R : RulesZ) (pl : Int) (sq : List Int) : Nat → Nat → Int
  | 0, _ => 0
  | n + 1, k => if woAt R pl sq k ≠ 0 then woAt R pl sq k else woFrom R pl sq n (k + 1)
def woErr (R : RulesZ) (pl : Int) (sq : List Int) : Int := if woHead R pl ≠ 0 then woHead R pl else woFrom R pl sq sq.length 0
def WoPost (R : RulesZ) (pl : Int) (sq : List Int) (w : World) (e : Ending) (w' : World) : Prop := ∃ (R' : RulesZ) (vp vs ve : Value), e = .returned (.tuple #[.agg #[.string R'.name, .int .i64 R'.width, .int .i64 R'.height, vp, vs, .bool R'.falls, .bool R'.keeps, ve, .int .i64 R'.blocked, .int .i64 R'.quiet, .int .i64 R'.rept], .int .i64 (woErr R pl sq)]) ∧
  Seen w.heap.size w' (fun w2 => RdR w2 R' vp vs ve) ∧ R'.name.size ≤ maxLen ∧ (woErr R pl sq = 0 → sq = [] → R' = R) ∧ Below w.heap.size w w'

set_option maxRecDepth 100000 in
set_option maxHeartbeats 8000000 in
theorem Without_any (R : RulesZ) (vp vs ve : Value) (pl : Int) (vq : Value) (sq : List Int) (w : World) (hr : RdR w R vp vs ve) (hnm : R.name.size ≤ maxLen) (hq : RdI w vq sq) :
    Calls Try.prog 13 #[(.agg #[.string R.name, .int .i64 R.width, .int .i64 R.height, vp, vs, .bool R.falls, .bool R.keeps, ve, .int .i64 R.blocked, .int .i64 R.quiet, .int .i64 R.rept]), .int .i64 pl, vq] w (WoPost R pl sq w) := by
  have HQ : Hid (woErr R pl sq = if woHead R pl ≠ 0 then woHead R pl else woFrom R pl sq sq.length 0) := Lib.hid rfl
  have HH : Hid (woHead R pl = if rulesErr R ≠ 0 then rulesErr R else if pl ≠ 0 ∧ pl ≠ 1 then 1 else 0) := Lib.hid rfl
  have HR := Lib.hid hr
  have HN := Lib.hid hnm
  have HC := Lib.hid hq
  obtain ⟨ra, rn, rfl, hr1, hr2⟩ := hr.2.1.form
  obtain ⟨qa, qn, rfl, hq1, hq2⟩ := hq.form
  unfold maxLen at hq2 hr2
  clear hr hnm hq
  go_enter Try.func13, Try.ntmps13
  go_upto_region 1 with (fail)
  have B0 : Box ((w.alloc (.cells #[.string R.name, .int .i64 R.width, .int .i64 R.height, vp, .slice ra R.start.length rn, .bool R.falls, .bool R.keeps, ve, .int .i64 R.blocked, .int .i64 R.quiet, .int .i64 R.rept] 26)).alloc (.cells #[.string ⟨#[]⟩, .int .i64 0, .int .i64 0, .slice none 0 0, .slice none 0 0, .bool false, .bool false, .slice none 0 0, .int .i64 0, .int .i64 0, .int .i64 0] 26)) (w.heap.size) [.string R.name, .int .i64 R.width, .int .i64 R.height, vp, .slice ra R.start.length rn, .bool R.falls, .bool R.keeps, ve, .int .i64 R.blocked, .int .i64 R.quiet, .int .i64 R.rept] 26 := ((Box.new' w (w.heap.size) [.string R.name, .int .i64 R.width, .int .i64 R.height, vp, .slice ra R.start.length rn, .bool R.falls, .bool R.keeps, ve, .int .i64 R.blocked, .int .i64 R.quiet, .int .i64 R.rept] 26 (by simp <;> omega)).alloc _)
  have B1 : Box ((w.alloc (.cells #[.string R.name, .int .i64 R.width, .int .i64 R.height, vp, .slice ra R.start.length rn, .bool R.falls, .bool R.keeps, ve, .int .i64 R.blocked, .int .i64 R.quiet, .int .i64 R.rept] 26)).alloc (.cells #[.string ⟨#[]⟩, .int .i64 0, .int .i64 0, .slice none 0 0, .slice none 0 0, .bool false, .bool false, .slice none 0 0, .int .i64 0, .int .i64 0, .int .i64 0] 26)) (w.heap.size + 1) [.string ⟨#[]⟩, .int .i64 0, .int .i64 0, .slice none 0 0, .slice none 0 0, .bool false, .bool false, .slice none 0 0, .int .i64 0, .int .i64 0, .int .i64 0] 26 := (Box.new' (w.alloc (.cells #[.string R.name, .int .i64 R.width, .int .i64 R.height, vp, .slice ra R.start.length rn, .bool R.falls, .bool R.keeps, ve, .int .i64 R.blocked, .int .i64 R.quiet, .int .i64 R.rept] 26)) (w.heap.size + 1) [.string ⟨#[]⟩, .int .i64 0, .int .i64 0, .slice none 0 0, .slice none 0 0, .bool false, .bool false, .slice none 0 0, .int .i64 0, .int .i64 0, .int .i64 0] 26 (by simp <;> omega))
  have HB : Hid (Below w.heap.size w ((w.alloc (.cells #[.string R.name, .int .i64 R.width, .int .i64 R.height, vp, .slice ra R.start.length rn, .bool R.falls, .bool R.keeps, ve, .int .i64 R.blocked, .int .i64 R.quiet, .int .i64 R.rept] 26)).alloc (.cells #[.string ⟨#[]⟩, .int .i64 0, .int .i64 0, .slice none 0 0, .slice none 0 0, .bool false, .bool false, .slice none 0 0, .int .i64 0, .int .i64 0, .int .i64 0] 26))) := Lib.hid (((Below.refl w.heap.size w).alloc (Nat.le_refl _) _).alloc (by simp <;> omega) _)
  have hz0 : w.heap.size + 1 < ((w.alloc (.cells #[.string R.name, .int .i64 R.width, .int .i64 R.height, vp, .slice ra R.start.length rn, .bool R.falls, .bool R.keeps, ve, .int .i64 R.blocked, .int .i64 R.quiet, .int .i64 R.rept] 26)).alloc (.cells #[.string ⟨#[]⟩, .int .i64 0, .int .i64 0, .slice none 0 0, .slice none 0 0, .bool false, .bool false, .slice none 0 0, .int .i64 0, .int .i64 0, .int .i64 0] 26)).heap.size := by simp
  generalize ((w.alloc (.cells #[.string R.name, .int .i64 R.width, .int .i64 R.height, vp, .slice ra R.start.length rn, .bool R.falls, .bool R.keeps, ve, .int .i64 R.blocked, .int .i64 R.quiet, .int .i64 R.rept] 26)).alloc (.cells #[.string ⟨#[]⟩, .int .i64 0, .int .i64 0, .slice none 0 0, .slice none 0 0, .bool false, .bool false, .slice none 0 0, .int .i64 0, .int .i64 0, .int .i64 0] 26)) = w0 at *
  have HX := Lib.hid B0
  have HU := Lib.hid B1
  clear B0 B1
  refine wp_region_lit ?_
  refine wpList_load_box (by rfl) 26 (.tmp 3) (by rfl) (w.heap.size) (by rfl) HX.out Try.underlying26 (by rfl) (by kernel_rfl) ?_
  go_wp2_with fail
  refine (rulesCheck_any R vp _ ve w0 (HR.out.below HB.out (Nat.le_refl _)) HN.out).mono ?_
  rintro e w1 ⟨he1, hb1⟩
  obtain ⟨re, hre⟩ : ∃ re, rulesErr R = re := ⟨_, rfl⟩
  rw [hre] at he1 HH
  subst he1
  have HRE := Lib.hid hre
  have HB1 := Lib.hid (below_trans HB.out hb1 HB.out.size)
  have HX1 := Lib.hid (HX.out.below hb1 (by omega))
  have HU1 := Lib.hid (HU.out.below hb1 (by omega))
  clear hre hb1 HX HU HB hz0
  by_cases he : re = 0
  rotate_left
  · have HE : Hid (woErr R pl sq = re) := Lib.hid (by rw [HQ.out, HH.out, if_pos he, if_pos he])
    have HEN : Hid (re ≠ 0) := Lib.hid he
    have heb : (re != 0) = true := by simpa using he
    clear he HQ HH
    have HSx := Lib.hid (HU1.out.store (vs := [.string ⟨#[]⟩, .int .i64 0, .int .i64 0, .slice none 0 0, .slice none 0 0, .bool false, .bool false, .slice none 0 0, .int .i64 0, .int .i64 0, .int .i64 0]) rfl)
    have HLx := Lib.hid (below_setCells HB1.out (show w.heap.size ≤ w.heap.size + 1 by omega) 0 [.string ⟨#[]⟩, .int .i64 0, .int .i64 0, .slice none 0 0, .slice none 0 0, .bool false, .bool false, .slice none 0 0, .int .i64 0, .int .i64 0, .int .i64 0])
    go_wp2_with (refine wpList_store_box (vs := [.string ⟨#[]⟩, .int .i64 0, .int .i64 0, .slice none 0 0, .slice none 0 0, .bool false, .bool false, .slice none 0 0, .int .i64 0, .int .i64 0, .int .i64 0]) (by rfl) 26 (.tmp 6) (.tmp 16) (by rfl) (w.heap.size + 1) (by rfl) (by rfl) HU1.out rfl (by kernel_rfl) (by rfl) ?_; generalize (w1.setCells (w.heap.size + 1) 0 [.string ⟨#[]⟩, .int .i64 0, .int .i64 0, .slice none 0 0, .slice none 0 0, .bool false, .bool false, .slice none 0 0, .int .i64 0, .int .i64 0, .int .i64 0]) = wf at *)
    exact bodyPost_ret (results_box rfl (by rfl) (by rfl) HSx.out Try.underlying26 (by rfl) (by kernel_rfl)) rfl ⟨zeroR, _, _, _, by rw [HE.out]; rfl, fun _ _ => zero_rd _, zero_nm, fun h => absurd (HE.out.symm.trans h) HEN.out, HLx.out⟩
  subst he
  by_cases hpl : pl ≠ 0 ∧ pl ≠ 1
  · have HE : Hid (woErr R pl sq = 1) := Lib.hid (by
      have hh : woHead R pl = 1 := by rw [HH.out, if_neg (by simp), if_pos hpl]
      rw [HQ.out, hh, if_pos (by decide)])
    have HEN : Hid ((1 : Int) ≠ 0) := Lib.hid (by decide)
    have ha : (pl != 0) = true := by simpa using hpl.1
    have hb : (pl != 1) = true := by simpa using hpl.2
    clear hpl HQ HH
    have HSx := Lib.hid (HU1.out.store (vs := [.string ⟨#[]⟩, .int .i64 0, .int .i64 0, .slice none 0 0, .slice none 0 0, .bool false, .bool false, .slice none 0 0, .int .i64 0, .int .i64 0, .int .i64 0]) rfl)
    have HLx := Lib.hid (below_setCells HB1.out (show w.heap.size ≤ w.heap.size + 1 by omega) 0 [.string ⟨#[]⟩, .int .i64 0, .int .i64 0, .slice none 0 0, .slice none 0 0, .bool false, .bool false, .slice none 0 0, .int .i64 0, .int .i64 0, .int .i64 0])
    go_wp2_with (refine wpList_store_box (vs := [.string ⟨#[]⟩, .int .i64 0, .int .i64 0, .slice none 0 0, .slice none 0 0, .bool false, .bool false, .slice none 0 0, .int .i64 0, .int .i64 0, .int .i64 0]) (by rfl) 26 (.tmp 6) (.tmp 24) (by rfl) (w.heap.size + 1) (by rfl) (by rfl) HU1.out rfl (by kernel_rfl) (by rfl) ?_; generalize (w1.setCells (w.heap.size + 1) 0 [.string ⟨#[]⟩, .int .i64 0, .int .i64 0, .slice none 0 0, .slice none 0 0, .bool false, .bool false, .slice none 0 0, .int .i64 0, .int .i64 0, .int .i64 0]) = wf at *)
    exact bodyPost_ret (results_box rfl (by rfl) (by rfl) HSx.out Try.underlying26 (by rfl) (by kernel_rfl)) rfl ⟨zeroR, _, _, _, by rw [HE.out]; rfl, fun _ _ => zero_rd _, zero_nm, fun h => absurd (HE.out.symm.trans h) HEN.out, HLx.out⟩
  have HF : Hid (woErr R pl sq = woFrom R pl sq sq.length 0) := Lib.hid (by
    have hh : woHead R pl = 0 := by rw [HH.out, if_neg (by simp), if_neg hpl]
    rw [HQ.out, hh, if_neg (by simp)])
  have K := rok_of HRE.out
  have HK := Lib.hid K
  have hl1 : R.pieces.length ≤ 1000 := by have := K.np; omega
  have hl2 : R.start.length ≤ 1000 := by have := startLen HRE.out; omega
  have hl3 : R.ends.length ≤ 1000 := by have := K.en; omega
  have HWL : Hid (∀ i, i < R.pieces.length → (R.pieces.getD i default).ways.length ≤ 1000) := Lib.hid (fun i hi => by have := (K.pc i hi).2.2.1; omega)
  clear K HQ HH
  have hpp : (pl = 0) ∨ ((pl ≠ 0) ∧ pl = 1) := by omega
  clear hpl
  rcases hpp with hpp | ⟨hpp, hpp1⟩
  · have hpb : (pl != 0) = false := by simpa using hpp
    clear hpp
    go_upto_region 6 with (fail)
    refine wp_region_lit ?_
    refine wpList_load_box (by rfl) 26 (.tmp 3) (by rfl) (w.heap.size) (by rfl) HX1.out Try.underlying26 (by rfl) (by kernel_rfl) ?_
    go_wp2_with fail
    refine (RCopy2_any R vp _ ve w1 (HR.out.below HB1.out (Nat.le_refl _)) hl1 hl2 hl3 HWL.out).mono ?_
    rintro e w2 ⟨yp, ys, ye, rfl, ho2, hx2, hb2⟩
    obtain ⟨ya, yn, rfl⟩ := own_form2 ho2
    obtain ⟨pa, pn, rfl, -, -⟩ := (hx2 w2 (fun _ _ _ _ => rfl)).1.form
    obtain ⟨ea, en, rfl, -, -⟩ := (hx2 w2 (fun _ _ _ _ => rfl)).2.form
    have hu1 : w.heap.size + 1 < w1.heap.size := HU1.out.lt
    have hs2 : w1.heap.size ≤ w2.heap.size := hb2.size
    have hl := below_trans HB1.out hb2 HB1.out.size
    have HX3 := Lib.hid ((HX1.out.stays hb2).alloc (.cells #[.string R.name, .int .i64 R.width, .int .i64 R.height, .slice pa R.pieces.length pn, .slice ya R.start.length yn, .bool R.falls, .bool R.keeps, .slice ea R.ends.length en, .int .i64 R.blocked, .int .i64 R.quiet, .int .i64 R.rept] 26))
    have HU3 := Lib.hid ((HU1.out.stays hb2).alloc (.cells #[.string R.name, .int .i64 R.width, .int .i64 R.height, .slice pa R.pieces.length pn, .slice ya R.start.length yn, .bool R.falls, .bool R.keeps, .slice ea R.ends.length en, .int .i64 R.blocked, .int .i64 R.quiet, .int .i64 R.rept] 26))
    have HO3 := Lib.hid (Box.new w2 [.string R.name, .int .i64 R.width, .int .i64 R.height, .slice pa R.pieces.length pn, .slice ya R.start.length yn, .bool R.falls, .bool R.keeps, .slice ea R.ends.length en, .int .i64 R.blocked, .int .i64 R.quiet, .int .i64 R.rept] 26)
    have HL3 := Lib.hid (hl.alloc hl.size (.cells #[.string R.name, .int .i64 R.width, .int .i64 R.height, .slice pa R.pieces.length pn, .slice ya R.start.length yn, .bool R.falls, .bool R.keeps, .slice ea R.ends.length en, .int .i64 R.blocked, .int .i64 R.quiet, .int .i64 R.rept] 26))
    have HY3 := Lib.hid (ho2.alloc (.cells #[.string R.name, .int .i64 R.width, .int .i64 R.height, .slice pa R.pieces.length pn, .slice ya R.start.length yn, .bool R.falls, .bool R.keeps, .slice ea R.ends.length en, .int .i64 R.blocked, .int .i64 R.quiet, .int .i64 R.rept] 26))
    have HF3 : Hid (Fr (fun k => Value.ownBlock (.slice ya R.start.length yn) = some k ∨ k = w.heap.size + 1) w2 (w2.alloc (.cells #[.string R.name, .int .i64 R.width, .int .i64 R.height, .slice pa R.pieces.length pn, .slice ya R.start.length yn, .bool R.falls, .bool R.keeps, .slice ea R.ends.length en, .int .i64 R.blocked, .int .i64 R.quiet, .int .i64 R.rept] 26))) := Lib.hid ((Fr.refl _ _).alloc _)
    have HX2 := Lib.hid hx2
    have HYL := Lib.hid (fun k hk => ho2.lt k hk)
    clear ho2 hx2 hb2 hl HX1 HU1 HB1
    go_upto_region 7 with (fail)
    obtain ⟨ob, hob⟩ : ∃ ob, ob = w2.heap.size := ⟨_, rfl⟩
    rw [← hob] at HO3 ⊢
    have HOB := Lib.hid hob
    have hob2 : w.heap.size + 1 < ob := by omega
    clear hob
    generalize (w2.alloc (.cells #[.string R.name, .int .i64 R.width, .int .i64 R.height, .slice pa R.pieces.length pn, .slice ya R.start.length yn, .bool R.falls, .bool R.keeps, .slice ea R.ends.length en, .int .i64 R.blocked, .int .i64 R.quiet, .int .i64 R.rept] 26)) = w3 at *
    go_wp2_with fail
    go_loopw [29, 10, 11, 34, 45, 52] (fun vi v10 v11 v34 v45 v52 wr => ∃ (k : Nat) (st : List Int), k ≤ sq.length ∧ vi = .int .i64 k ∧ Hid (st.length = R.start.length) ∧ Hid (k = 0 → st = R.start) ∧ Hid (woErr R pl sq = woFrom R pl sq (sq.length - k) k) ∧ Hid (wr.ownsRow w1.heap.size 3 1 (.slice ya R.start.length yn) R.start.length (ints st)) ∧
      Hid (Box wr w.heap.size [.string R.name, .int .i64 R.width, .int .i64 R.height, vp, .slice ra R.start.length rn, .bool R.falls, .bool R.keeps, ve, .int .i64 R.blocked, .int .i64 R.quiet, .int .i64 R.rept] 26) ∧ Hid (Box wr (w.heap.size + 1) [.string ⟨#[]⟩, .int .i64 0, .int .i64 0, .slice none 0 0, .slice none 0 0, .bool false, .bool false, .slice none 0 0, .int .i64 0, .int .i64 0, .int .i64 0] 26) ∧ Hid (Box wr ob [.string R.name, .int .i64 R.width, .int .i64 R.height, .slice pa R.pieces.length pn, .slice ya R.start.length yn, .bool R.falls, .bool R.keeps, .slice ea R.ends.length en, .int .i64 R.blocked, .int .i64 R.quiet, .int .i64 R.rept] 26) ∧ Hid (Below w.heap.size w wr) ∧ Hid (Fr (fun k => Value.ownBlock (.slice ya R.start.length yn) = some k ∨ k = w.heap.size + 1) w2 wr)) (fun i _ _ _ _ _ _ => sq.length - (intOf i).toNat)
    case atStart => exact ⟨0, R.start, Nat.zero_le _, rfl, Lib.hid rfl, Lib.hid (fun _ => rfl), HF, HY3, HX3, HU3, HO3, HL3, HF3⟩
    case round =>
      obtain ⟨k, st, hk, rfl, HST, HS0, HFK, HY, HXr, HUr, HOr, HBr, HFr⟩ := hrel
      by_cases hlt : k < sq.length
      · obtain ⟨g, o, c', he, _, _, _, hcell⟩ := (HC.out.below HBr.out (Nat.le_refl _)).some (by omega)
        simp only [Value.slice.injEq] at he
        obtain ⟨rfl, _, rfl⟩ := he
        have ck := hcell k hlt
        have HIC := Lib.hid (RdI.take (HC.out.below HBr.out (Nat.le_refl _)) k hk)
        have p4 := HXr.out.cell 4 rfl
        have HSTEP : Hid (woErr R pl sq = if woAt R pl sq k ≠ 0 then woAt R pl sq k else woFrom R pl sq (sq.length - (k + 1)) (k + 1)) := Lib.hid (by
          rw [HFK.out, show sq.length - k = (sq.length - (k + 1)) + 1 by omega]; rfl)
        have HAT : Hid (woAt R pl sq k = if sq.getD k 0 < 0 then 4 else if (R.start.length : Int) ≤ sq.getD k 0 then 4 else if ((sq.take k).any fun z => sq.getD k 0 == z) = true then 7
          else if R.start.getD (sq.getD k 0).toNat 0 = 0 then 8 else if Int.tmod (R.start.getD (sq.getD k 0).toNat 0 - 1) 2 ≠ pl then 8 else 0) := Lib.hid rfl
        have hsl : ∀ w' : World, (Instr.slice 23 (.slice (some ⟨g, o, none⟩) sq.length qn) none (some (.int .i64 (k : Int))) none).run Try.prog w' = .ok (.slice (some ⟨g, o, none⟩) k qn) w' := fun w' =>
          run_take (P := Try.prog) (t := 23) (s := 1) Try.underlying23 (fun w => by kernel_rfl) (some ⟨g, o, none⟩) sq.length qn k (by omega) w'
        clear hcell HFK
        generalize sq.getD k 0 = s at *
        by_cases hs0 : s < 0
        · have HE : Hid (woErr R pl sq = 4) := Lib.hid (by rw [HSTEP.out, HAT.out, if_pos hs0, if_pos (by decide)])
          have HEN : Hid ((4 : Int) ≠ 0) := Lib.hid (by decide)
          have hsb : decide (s < 0) = true := by simpa using hs0
          clear hs0 HSTEP HAT
          have HSx := Lib.hid (HUr.out.store (vs := [.string ⟨#[]⟩, .int .i64 0, .int .i64 0, .slice none 0 0, .slice none 0 0, .bool false, .bool false, .slice none 0 0, .int .i64 0, .int .i64 0, .int .i64 0]) rfl)
          have HLx := Lib.hid (below_setCells HBr.out (show w.heap.size ≤ w.heap.size + 1 by omega) 0 [.string ⟨#[]⟩, .int .i64 0, .int .i64 0, .slice none 0 0, .slice none 0 0, .bool false, .bool false, .slice none 0 0, .int .i64 0, .int .i64 0, .int .i64 0])
          go_wp2_with (refine wpList_store_box (vs := [.string ⟨#[]⟩, .int .i64 0, .int .i64 0, .slice none 0 0, .slice none 0 0, .bool false, .bool false, .slice none 0 0, .int .i64 0, .int .i64 0, .int .i64 0]) (by rfl) 26 (.tmp 6) (.tmp 44) (by rfl) (w.heap.size + 1) (by rfl) (by rfl) HUr.out rfl (by kernel_rfl) (by rfl) ?_; generalize (wr.setCells (w.heap.size + 1) 0 [.string ⟨#[]⟩, .int .i64 0, .int .i64 0, .slice none 0 0, .slice none 0 0, .bool false, .bool false, .slice none 0 0, .int .i64 0, .int .i64 0, .int .i64 0]) = wf at *)
          exact bodyPost_ret (results_box rfl (by rfl) (by rfl) HSx.out Try.underlying26 (by rfl) (by kernel_rfl)) rfl ⟨zeroR, _, _, _, by rw [HE.out]; rfl, fun _ _ => zero_rd _, zero_nm, fun h => absurd (HE.out.symm.trans h) HEN.out, HLx.out⟩
        have hsb : decide (s < 0) = false := by simpa using hs0
        by_cases hs1 : (R.start.length : Int) ≤ s
        · have HE : Hid (woErr R pl sq = 4) := Lib.hid (by rw [HSTEP.out, HAT.out, if_neg hs0, if_pos hs1, if_pos (by decide)])
          have HEN : Hid ((4 : Int) ≠ 0) := Lib.hid (by decide)
          have hsb1 : decide ((R.start.length : Int) ≤ s) = true := by simpa using hs1
          clear hs0 hs1 HSTEP HAT
          have HSx := Lib.hid (HUr.out.store (vs := [.string ⟨#[]⟩, .int .i64 0, .int .i64 0, .slice none 0 0, .slice none 0 0, .bool false, .bool false, .slice none 0 0, .int .i64 0, .int .i64 0, .int .i64 0]) rfl)
          have HLx := Lib.hid (below_setCells HBr.out (show w.heap.size ≤ w.heap.size + 1 by omega) 0 [.string ⟨#[]⟩, .int .i64 0, .int .i64 0, .slice none 0 0, .slice none 0 0, .bool false, .bool false, .slice none 0 0, .int .i64 0, .int .i64 0, .int .i64 0])
          go_wp2_with (refine wpList_store_box (vs := [.string ⟨#[]⟩, .int .i64 0, .int .i64 0, .slice none 0 0, .slice none 0 0, .bool false, .bool false, .slice none 0 0, .int .i64 0, .int .i64 0, .int .i64 0]) (by rfl) 26 (.tmp 6) (.tmp 44) (by rfl) (w.heap.size + 1) (by rfl) (by rfl) HUr.out rfl (by kernel_rfl) (by rfl) ?_; generalize (wr.setCells (w.heap.size + 1) 0 [.string ⟨#[]⟩, .int .i64 0, .int .i64 0, .slice none 0 0, .slice none 0 0, .bool false, .bool false, .slice none 0 0, .int .i64 0, .int .i64 0, .int .i64 0]) = wf at *)
          exact bodyPost_ret (results_box rfl (by rfl) (by rfl) HSx.out Try.underlying26 (by rfl) (by kernel_rfl)) rfl ⟨zeroR, _, _, _, by rw [HE.out]; rfl, fun _ _ => zero_rd _, zero_nm, fun h => absurd (HE.out.symm.trans h) HEN.out, HLx.out⟩
        have hsb1 : decide ((R.start.length : Int) ≤ s) = false := by simpa using hs1
        obtain ⟨j, rfl⟩ : ∃ j : Nat, s = j := ⟨s.toNat, by omega⟩
        have hjl : j < R.start.length := by omega
        rw [if_neg hs0, if_neg hs1, Int.toNat_natCast] at HAT
        clear hs0 hs1
        go_upto_region 12 with (fail)
        go_wp2_with fail
        refine (Contains_any _ (sq.take k) j wr HIC.out).mono ?_
        rintro e w4 ⟨rfl, rfl⟩
        cases hany : ((sq.take k).any fun z => (j : Int) == z)
        rotate_left
        · have HE : Hid (woErr R pl sq = 7) := Lib.hid (by rw [HSTEP.out, HAT.out, if_pos hany, if_pos (by decide)])
          have HEN : Hid ((7 : Int) ≠ 0) := Lib.hid (by decide)
          clear hany HSTEP HAT
          have HSx := Lib.hid (HUr.out.store (vs := [.string ⟨#[]⟩, .int .i64 0, .int .i64 0, .slice none 0 0, .slice none 0 0, .bool false, .bool false, .slice none 0 0, .int .i64 0, .int .i64 0, .int .i64 0]) rfl)
          have HLx := Lib.hid (below_setCells HBr.out (show w.heap.size ≤ w.heap.size + 1 by omega) 0 [.string ⟨#[]⟩, .int .i64 0, .int .i64 0, .slice none 0 0, .slice none 0 0, .bool false, .bool false, .slice none 0 0, .int .i64 0, .int .i64 0, .int .i64 0])
          go_wp2_with (refine wpList_store_box (vs := [.string ⟨#[]⟩, .int .i64 0, .int .i64 0, .slice none 0 0, .slice none 0 0, .bool false, .bool false, .slice none 0 0, .int .i64 0, .int .i64 0, .int .i64 0]) (by rfl) 26 (.tmp 6) (.tmp 51) (by rfl) (w.heap.size + 1) (by rfl) (by rfl) HUr.out rfl (by kernel_rfl) (by rfl) ?_; generalize (wr.setCells (w.heap.size + 1) 0 [.string ⟨#[]⟩, .int .i64 0, .int .i64 0, .slice none 0 0, .slice none 0 0, .bool false, .bool false, .slice none 0 0, .int .i64 0, .int .i64 0, .int .i64 0]) = wf at *)
          exact bodyPost_ret (results_box rfl (by rfl) (by rfl) HSx.out Try.underlying26 (by rfl) (by kernel_rfl)) rfl ⟨zeroR, _, _, _, by rw [HE.out]; rfl, fun _ _ => zero_rd _, zero_nm, fun h => absurd (HE.out.symm.trans h) HEN.out, HLx.out⟩
        rw [hany, if_neg (by decide)] at HAT
        clear hany
        obtain ⟨g2, o2, c2, he2, _, _, _, hcell2⟩ := (HR.out.2.1.below HBr.out (Nat.le_refl _)).some (by omega)
        simp only [Value.slice.injEq] at he2
        obtain ⟨rfl, _, rfl⟩ := he2
        have cj := hcell2 j hjl
        have hcb : 0 ≤ R.start.getD j 0 ∧ R.start.getD j 0 ≤ 12 := by
          have := HK.out.sc (R.start.getD j 0) (by rw [List.getD_eq_getElem?_getD, List.getElem?_eq_getElem hjl]; exact List.getElem_mem hjl)
          have := HK.out.np
          omega
        clear hcell2
        generalize R.start.getD j 0 = c at *
        by_cases hc0 : c = 0
        · have HE : Hid (woErr R pl sq = 8) := Lib.hid (by rw [HSTEP.out, HAT.out, if_pos hc0, if_pos (by decide)])
          have HEN : Hid ((8 : Int) ≠ 0) := Lib.hid (by decide)
          have hcz : (c == 0) = true := by simpa using hc0
          clear hc0 HSTEP HAT
          go_upto_region 15 with (fail)
          have HSx := Lib.hid (HUr.out.store (vs := [.string ⟨#[]⟩, .int .i64 0, .int .i64 0, .slice none 0 0, .slice none 0 0, .bool false, .bool false, .slice none 0 0, .int .i64 0, .int .i64 0, .int .i64 0]) rfl)
          have HLx := Lib.hid (below_setCells HBr.out (show w.heap.size ≤ w.heap.size + 1 by omega) 0 [.string ⟨#[]⟩, .int .i64 0, .int .i64 0, .slice none 0 0, .slice none 0 0, .bool false, .bool false, .slice none 0 0, .int .i64 0, .int .i64 0, .int .i64 0])
          go_wp2_with (refine wpList_store_box (vs := [.string ⟨#[]⟩, .int .i64 0, .int .i64 0, .slice none 0 0, .slice none 0 0, .bool false, .bool false, .slice none 0 0, .int .i64 0, .int .i64 0, .int .i64 0]) (by rfl) 26 (.tmp 6) (.tmp 70) (by rfl) (w.heap.size + 1) (by rfl) (by rfl) HUr.out rfl (by kernel_rfl) (by rfl) ?_; generalize (wr.setCells (w.heap.size + 1) 0 [.string ⟨#[]⟩, .int .i64 0, .int .i64 0, .slice none 0 0, .slice none 0 0, .bool false, .bool false, .slice none 0 0, .int .i64 0, .int .i64 0, .int .i64 0]) = wf at *)
          exact bodyPost_ret (results_box rfl (by rfl) (by rfl) HSx.out Try.underlying26 (by rfl) (by kernel_rfl)) rfl ⟨zeroR, _, _, _, by rw [HE.out]; rfl, fun _ _ => zero_rd _, zero_nm, fun h => absurd (HE.out.symm.trans h) HEN.out, HLx.out⟩
        have hcz : (c == 0) = false := by simpa using hc0
        rw [if_neg hc0] at HAT
        have hwc : IntKind.i64.wrap (c - 1) = c - 1 := IntWalk.i64_in _ (by omega)
        have htm : Int.tmod (c - 1) 2 = (c - 1) % 2 := Int.tmod_eq_emod_of_nonneg (by omega)
        have hmb : 0 ≤ (c - 1) % 2 ∧ (c - 1) % 2 < 2 := by omega
        rw [htm] at HAT
        have hwm : IntKind.i64.wrap ((c - 1) % 2) = (c - 1) % 2 := IntWalk.i64_in _ (by omega)
        by_cases hpm : (c - 1) % 2 = pl
        rotate_left
        · have HE : Hid (woErr R pl sq = 8) := Lib.hid (by rw [HSTEP.out, HAT.out, if_pos hpm, if_pos (by decide)])
          have HEN : Hid ((8 : Int) ≠ 0) := Lib.hid (by decide)
          have hpmb : ((c - 1) % 2 != pl) = true := by simpa using hpm
          clear hpm HSTEP HAT hc0
          go_upto_region 15 with (fail)
          have HSx := Lib.hid (HUr.out.store (vs := [.string ⟨#[]⟩, .int .i64 0, .int .i64 0, .slice none 0 0, .slice none 0 0, .bool false, .bool false, .slice none 0 0, .int .i64 0, .int .i64 0, .int .i64 0]) rfl)
          have HLx := Lib.hid (below_setCells HBr.out (show w.heap.size ≤ w.heap.size + 1 by omega) 0 [.string ⟨#[]⟩, .int .i64 0, .int .i64 0, .slice none 0 0, .slice none 0 0, .bool false, .bool false, .slice none 0 0, .int .i64 0, .int .i64 0, .int .i64 0])
          go_wp2_with (refine wpList_store_box (vs := [.string ⟨#[]⟩, .int .i64 0, .int .i64 0, .slice none 0 0, .slice none 0 0, .bool false, .bool false, .slice none 0 0, .int .i64 0, .int .i64 0, .int .i64 0]) (by rfl) 26 (.tmp 6) (.tmp 70) (by rfl) (w.heap.size + 1) (by rfl) (by rfl) HUr.out rfl (by kernel_rfl) (by rfl) ?_; generalize (wr.setCells (w.heap.size + 1) 0 [.string ⟨#[]⟩, .int .i64 0, .int .i64 0, .slice none 0 0, .slice none 0 0, .bool false, .bool false, .slice none 0 0, .int .i64 0, .int .i64 0, .int .i64 0]) = wf at *)
          exact bodyPost_ret (results_box rfl (by rfl) (by rfl) HSx.out Try.underlying26 (by rfl) (by kernel_rfl)) rfl ⟨zeroR, _, _, _, by rw [HE.out]; rfl, fun _ _ => zero_rd _, zero_nm, fun h => absurd (HE.out.symm.trans h) HEN.out, HLx.out⟩
        rw [if_neg (by simpa using hpm)] at HAT
        have hpmb : ((c - 1) % 2 != pl) = false := by simpa using hpm
        have HSN : Hid (woErr R pl sq = woFrom R pl sq (sq.length - (k + 1)) (k + 1)) := Lib.hid (by rw [HSTEP.out, HAT.out, if_neg (by decide)])
        clear hpm hc0 HSTEP HAT
        obtain ⟨yg, yc, hyv⟩ := own_some HY.out (by omega)
        simp only [Value.slice.injEq, true_and] at hyv
        obtain ⟨rfl, rfl⟩ := hyv
        have hygl := HYL.out yg rfl
        have dcl : wr.cell? ⟨yg, j, none⟩ = some (.int .i64 (st.getD j 0)) := by
          have := HY.out.cellAt j (by omega)
          rw [this]
          unfold ints
          rw [List.getElem?_map, List.getD_eq_getElem?_getD, List.getElem?_eq_getElem (by rw [HST.out]; exact hjl)]; rfl
        have dfz : wr.frozen? ⟨yg, j, none⟩ = false := own_frozen HY.out j
        have q4 := HOr.out.cell 4 rfl
        generalize st.getD j 0 = old at *
        go_upto_region 16 with (fail)
        skip
        go_upto_region 17 with (fail)
        have HY9 : Hid ((wr.setCell ⟨yg, j, none⟩ (.int .i64 0)).ownsRow w1.heap.size 3 1 (.slice (some ⟨yg, 0, none⟩) R.start.length yn) R.start.length (ints (st.set j 0))) := Lib.hid (by
          rw [show ints (st.set j 0) = (ints st).set j (.int .i64 0) by unfold ints; rw [List.map_set]]
          exact (HY.out.stored j (.int .i64 0)).1)
        have HX9 := Lib.hid (HXr.out.far ⟨yg, j, none⟩ (.int .i64 0) (show w.heap.size ≠ yg by omega))
        have HU9 := Lib.hid (HUr.out.far ⟨yg, j, none⟩ (.int .i64 0) (show w.heap.size + 1 ≠ yg by omega))
        have HO9 := Lib.hid (HOr.out.far ⟨yg, j, none⟩ (.int .i64 0) (show ob ≠ yg by have := HOB.out; omega))
        have HB9 := Lib.hid (HBr.out.setCell (p := ⟨yg, j, none⟩) (show w.heap.size ≤ yg by omega) (.int .i64 0))
        have HF9 := Lib.hid (HFr.out.setCell (p := ⟨yg, j, none⟩) (.inl rfl) (.int .i64 0))
        clear HY HXr HUr HOr HBr HFr dcl dfz q4
        generalize (wr.setCell ⟨yg, j, none⟩ (.int .i64 0)) = w9 at *
        go_wp2_with fail
        go_roundw
        case rel => exact ⟨k + 1, st.set j 0, by omega, by go_num, Lib.hid (by rw [List.length_set]; exact HST.out), Lib.hid (fun h => by omega), HSN, HY9, HX9, HU9, HO9, HB9, HF9⟩
        case measure => simp [intOf]; omega
      · obtain rfl : k = sq.length := by omega
        have HE : Hid (woErr R pl sq = 0) := Lib.hid (by rw [HFK.out, Nat.sub_self]; rfl)
        go_upto_region 18 with (fail)
        refine wp_region_lit ?_
        refine wpList_load_box (by rfl) 26 (.tmp 9) (by rfl) (ob) (by rfl) HOr.out Try.underlying26 (by rfl) (by kernel_rfl) ?_
        have HSx := Lib.hid (HUr.out.store (vs := [.string R.name, .int .i64 R.width, .int .i64 R.height, .slice pa R.pieces.length pn, .slice ya R.start.length yn, .bool R.falls, .bool R.keeps, .slice ea R.ends.length en, .int .i64 R.blocked, .int .i64 R.quiet, .int .i64 R.rept]) rfl)
        have HLf := Lib.hid (below_setCells HBr.out (show w.heap.size ≤ w.heap.size + 1 by omega) 0 [.string R.name, .int .i64 R.width, .int .i64 R.height, .slice pa R.pieces.length pn, .slice ya R.start.length yn, .bool R.falls, .bool R.keeps, .slice ea R.ends.length en, .int .i64 R.blocked, .int .i64 R.quiet, .int .i64 R.rept])
        have HFf := Lib.hid (HFr.out.setCells (b := w.heap.size + 1) (.inr rfl) 0 [.string R.name, .int .i64 R.width, .int .i64 R.height, .slice pa R.pieces.length pn, .slice ya R.start.length yn, .bool R.falls, .bool R.keeps, .slice ea R.ends.length en, .int .i64 R.blocked, .int .i64 R.quiet, .int .i64 R.rept])
        have HYf := Lib.hid (own_setCells HY.out hu1 0 [.string R.name, .int .i64 R.width, .int .i64 R.height, .slice pa R.pieces.length pn, .slice ya R.start.length yn, .bool R.falls, .bool R.keeps, .slice ea R.ends.length en, .int .i64 R.blocked, .int .i64 R.quiet, .int .i64 R.rept])
        go_wp2_with (refine wpList_store_box (vs := [.string R.name, .int .i64 R.width, .int .i64 R.height, .slice pa R.pieces.length pn, .slice ya R.start.length yn, .bool R.falls, .bool R.keeps, .slice ea R.ends.length en, .int .i64 R.blocked, .int .i64 R.quiet, .int .i64 R.rept]) (by rfl) 26 (.tmp 6) (.tmp 76) (by rfl) (w.heap.size + 1) (by rfl) (by rfl) HUr.out rfl (by kernel_rfl) (by rfl) ?_; generalize (wr.setCells (w.heap.size + 1) 0 [.string R.name, .int .i64 R.width, .int .i64 R.height, .slice pa R.pieces.length pn, .slice ya R.start.length yn, .bool R.falls, .bool R.keeps, .slice ea R.ends.length en, .int .i64 R.blocked, .int .i64 R.quiet, .int .i64 R.rept]) = wf at *)
        exact bodyPost_ret (results_box rfl (by rfl) (by rfl) HSx.out Try.underlying26 (by rfl) (by kernel_rfl)) rfl ⟨{ R with start := st }, _, _, _, by rw [HE.out]; rfl, by
          intro w2' hw2'
          have hsz : w2.heap.size ≤ (wf).heap.size := HFf.out.size
          have hd := HX2.out w2' (fun k h1 h2 h3 => (hw2' k (by omega) (by omega)).trans (HFf.out.block k h2 (by rintro (h | h); exact h3 h; omega)))
          refine ⟨hd.1, ?_, hd.2⟩
          have hy := own_seen HYf.out (show w.heap.size ≤ w1.heap.size by omega) hw2'
          rw [← HST.out] at hy ⊢
          exact RdI.of_own hy, HN.out, fun _ h => by rw [HS0.out (by rw [h]; rfl)], HLf.out⟩
  · have hpb : (pl != 0) = true := by simpa using hpp
    have hpb1 : (pl != 1) = false := by simpa using hpp1
    clear hpp hpp1
    go_upto_region 6 with (fail)
    refine wp_region_lit ?_
    refine wpList_load_box (by rfl) 26 (.tmp 3) (by rfl) (w.heap.size) (by rfl) HX1.out Try.underlying26 (by rfl) (by kernel_rfl) ?_
    go_wp2_with fail
    refine (RCopy2_any R vp _ ve w1 (HR.out.below HB1.out (Nat.le_refl _)) hl1 hl2 hl3 HWL.out).mono ?_
    rintro e w2 ⟨yp, ys, ye, rfl, ho2, hx2, hb2⟩
    obtain ⟨ya, yn, rfl⟩ := own_form2 ho2
    obtain ⟨pa, pn, rfl, -, -⟩ := (hx2 w2 (fun _ _ _ _ => rfl)).1.form
    obtain ⟨ea, en, rfl, -, -⟩ := (hx2 w2 (fun _ _ _ _ => rfl)).2.form
    have hu1 : w.heap.size + 1 < w1.heap.size := HU1.out.lt
    have hs2 : w1.heap.size ≤ w2.heap.size := hb2.size
    have hl := below_trans HB1.out hb2 HB1.out.size
    have HX3 := Lib.hid ((HX1.out.stays hb2).alloc (.cells #[.string R.name, .int .i64 R.width, .int .i64 R.height, .slice pa R.pieces.length pn, .slice ya R.start.length yn, .bool R.falls, .bool R.keeps, .slice ea R.ends.length en, .int .i64 R.blocked, .int .i64 R.quiet, .int .i64 R.rept] 26))
    have HU3 := Lib.hid ((HU1.out.stays hb2).alloc (.cells #[.string R.name, .int .i64 R.width, .int .i64 R.height, .slice pa R.pieces.length pn, .slice ya R.start.length yn, .bool R.falls, .bool R.keeps, .slice ea R.ends.length en, .int .i64 R.blocked, .int .i64 R.quiet, .int .i64 R.rept] 26))
    have HO3 := Lib.hid (Box.new w2 [.string R.name, .int .i64 R.width, .int .i64 R.height, .slice pa R.pieces.length pn, .slice ya R.start.length yn, .bool R.falls, .bool R.keeps, .slice ea R.ends.length en, .int .i64 R.blocked, .int .i64 R.quiet, .int .i64 R.rept] 26)
    have HL3 := Lib.hid (hl.alloc hl.size (.cells #[.string R.name, .int .i64 R.width, .int .i64 R.height, .slice pa R.pieces.length pn, .slice ya R.start.length yn, .bool R.falls, .bool R.keeps, .slice ea R.ends.length en, .int .i64 R.blocked, .int .i64 R.quiet, .int .i64 R.rept] 26))
    have HY3 := Lib.hid (ho2.alloc (.cells #[.string R.name, .int .i64 R.width, .int .i64 R.height, .slice pa R.pieces.length pn, .slice ya R.start.length yn, .bool R.falls, .bool R.keeps, .slice ea R.ends.length en, .int .i64 R.blocked, .int .i64 R.quiet, .int .i64 R.rept] 26))
    have HF3 : Hid (Fr (fun k => Value.ownBlock (.slice ya R.start.length yn) = some k ∨ k = w.heap.size + 1) w2 (w2.alloc (.cells #[.string R.name, .int .i64 R.width, .int .i64 R.height, .slice pa R.pieces.length pn, .slice ya R.start.length yn, .bool R.falls, .bool R.keeps, .slice ea R.ends.length en, .int .i64 R.blocked, .int .i64 R.quiet, .int .i64 R.rept] 26))) := Lib.hid ((Fr.refl _ _).alloc _)
    have HX2 := Lib.hid hx2
    have HYL := Lib.hid (fun k hk => ho2.lt k hk)
    clear ho2 hx2 hb2 hl HX1 HU1 HB1
    go_upto_region 7 with (fail)
    obtain ⟨ob, hob⟩ : ∃ ob, ob = w2.heap.size := ⟨_, rfl⟩
    rw [← hob] at HO3 ⊢
    have HOB := Lib.hid hob
    have hob2 : w.heap.size + 1 < ob := by omega
    clear hob
    generalize (w2.alloc (.cells #[.string R.name, .int .i64 R.width, .int .i64 R.height, .slice pa R.pieces.length pn, .slice ya R.start.length yn, .bool R.falls, .bool R.keeps, .slice ea R.ends.length en, .int .i64 R.blocked, .int .i64 R.quiet, .int .i64 R.rept] 26)) = w3 at *
    go_wp2_with fail
    go_loopw [29, 10, 11, 34, 45, 52] (fun vi v10 v11 v34 v45 v52 wr => ∃ (k : Nat) (st : List Int), k ≤ sq.length ∧ vi = .int .i64 k ∧ Hid (st.length = R.start.length) ∧ Hid (k = 0 → st = R.start) ∧ Hid (woErr R pl sq = woFrom R pl sq (sq.length - k) k) ∧ Hid (wr.ownsRow w1.heap.size 3 1 (.slice ya R.start.length yn) R.start.length (ints st)) ∧
      Hid (Box wr w.heap.size [.string R.name, .int .i64 R.width, .int .i64 R.height, vp, .slice ra R.start.length rn, .bool R.falls, .bool R.keeps, ve, .int .i64 R.blocked, .int .i64 R.quiet, .int .i64 R.rept] 26) ∧ Hid (Box wr (w.heap.size + 1) [.string ⟨#[]⟩, .int .i64 0, .int .i64 0, .slice none 0 0, .slice none 0 0, .bool false, .bool false, .slice none 0 0, .int .i64 0, .int .i64 0, .int .i64 0] 26) ∧ Hid (Box wr ob [.string R.name, .int .i64 R.width, .int .i64 R.height, .slice pa R.pieces.length pn, .slice ya R.start.length yn, .bool R.falls, .bool R.keeps, .slice ea R.ends.length en, .int .i64 R.blocked, .int .i64 R.quiet, .int .i64 R.rept] 26) ∧ Hid (Below w.heap.size w wr) ∧ Hid (Fr (fun k => Value.ownBlock (.slice ya R.start.length yn) = some k ∨ k = w.heap.size + 1) w2 wr)) (fun i _ _ _ _ _ _ => sq.length - (intOf i).toNat)
    case atStart => exact ⟨0, R.start, Nat.zero_le _, rfl, Lib.hid rfl, Lib.hid (fun _ => rfl), HF, HY3, HX3, HU3, HO3, HL3, HF3⟩
    case round =>
      obtain ⟨k, st, hk, rfl, HST, HS0, HFK, HY, HXr, HUr, HOr, HBr, HFr⟩ := hrel
      by_cases hlt : k < sq.length
      · obtain ⟨g, o, c', he, _, _, _, hcell⟩ := (HC.out.below HBr.out (Nat.le_refl _)).some (by omega)
        simp only [Value.slice.injEq] at he
        obtain ⟨rfl, _, rfl⟩ := he
        have ck := hcell k hlt
        have HIC := Lib.hid (RdI.take (HC.out.below HBr.out (Nat.le_refl _)) k hk)
        have p4 := HXr.out.cell 4 rfl
        have HSTEP : Hid (woErr R pl sq = if woAt R pl sq k ≠ 0 then woAt R pl sq k else woFrom R pl sq (sq.length - (k + 1)) (k + 1)) := Lib.hid (by
          rw [HFK.out, show sq.length - k = (sq.length - (k + 1)) + 1 by omega]; rfl)
        have HAT : Hid (woAt R pl sq k = if sq.getD k 0 < 0 then 4 else if (R.start.length : Int) ≤ sq.getD k 0 then 4 else if ((sq.take k).any fun z => sq.getD k 0 == z) = true then 7
          else if R.start.getD (sq.getD k 0).toNat 0 = 0 then 8 else if Int.tmod (R.start.getD (sq.getD k 0).toNat 0 - 1) 2 ≠ pl then 8 else 0) := Lib.hid rfl
        have hsl : ∀ w' : World, (Instr.slice 23 (.slice (some ⟨g, o, none⟩) sq.length qn) none (some (.int .i64 (k : Int))) none).run Try.prog w' = .ok (.slice (some ⟨g, o, none⟩) k qn) w' := fun w' =>
          run_take (P := Try.prog) (t := 23) (s := 1) Try.underlying23 (fun w => by kernel_rfl) (some ⟨g, o, none⟩) sq.length qn k (by omega) w'
        clear hcell HFK
        generalize sq.getD k 0 = s at *
        by_cases hs0 : s < 0
        · have HE : Hid (woErr R pl sq = 4) := Lib.hid (by rw [HSTEP.out, HAT.out, if_pos hs0, if_pos (by decide)])
          have HEN : Hid ((4 : Int) ≠ 0) := Lib.hid (by decide)
          have hsb : decide (s < 0) = true := by simpa using hs0
          clear hs0 HSTEP HAT
          have HSx := Lib.hid (HUr.out.store (vs := [.string ⟨#[]⟩, .int .i64 0, .int .i64 0, .slice none 0 0, .slice none 0 0, .bool false, .bool false, .slice none 0 0, .int .i64 0, .int .i64 0, .int .i64 0]) rfl)
          have HLx := Lib.hid (below_setCells HBr.out (show w.heap.size ≤ w.heap.size + 1 by omega) 0 [.string ⟨#[]⟩, .int .i64 0, .int .i64 0, .slice none 0 0, .slice none 0 0, .bool false, .bool false, .slice none 0 0, .int .i64 0, .int .i64 0, .int .i64 0])
          go_wp2_with (refine wpList_store_box (vs := [.string ⟨#[]⟩, .int .i64 0, .int .i64 0, .slice none 0 0, .slice none 0 0, .bool false, .bool false, .slice none 0 0, .int .i64 0, .int .i64 0, .int .i64 0]) (by rfl) 26 (.tmp 6) (.tmp 44) (by rfl) (w.heap.size + 1) (by rfl) (by rfl) HUr.out rfl (by kernel_rfl) (by rfl) ?_; generalize (wr.setCells (w.heap.size + 1) 0 [.string ⟨#[]⟩, .int .i64 0, .int .i64 0, .slice none 0 0, .slice none 0 0, .bool false, .bool false, .slice none 0 0, .int .i64 0, .int .i64 0, .int .i64 0]) = wf at *)
          exact bodyPost_ret (results_box rfl (by rfl) (by rfl) HSx.out Try.underlying26 (by rfl) (by kernel_rfl)) rfl ⟨zeroR, _, _, _, by rw [HE.out]; rfl, fun _ _ => zero_rd _, zero_nm, fun h => absurd (HE.out.symm.trans h) HEN.out, HLx.out⟩
        have hsb : decide (s < 0) = false := by simpa using hs0
        by_cases hs1 : (R.start.length : Int) ≤ s
        · have HE : Hid (woErr R pl sq = 4) := Lib.hid (by rw [HSTEP.out, HAT.out, if_neg hs0, if_pos hs1, if_pos (by decide)])
          have HEN : Hid ((4 : Int) ≠ 0) := Lib.hid (by decide)
          have hsb1 : decide ((R.start.length : Int) ≤ s) = true := by simpa using hs1
          clear hs0 hs1 HSTEP HAT
          have HSx := Lib.hid (HUr.out.store (vs := [.string ⟨#[]⟩, .int .i64 0, .int .i64 0, .slice none 0 0, .slice none 0 0, .bool false, .bool false, .slice none 0 0, .int .i64 0, .int .i64 0, .int .i64 0]) rfl)
          have HLx := Lib.hid (below_setCells HBr.out (show w.heap.size ≤ w.heap.size + 1 by omega) 0 [.string ⟨#[]⟩, .int .i64 0, .int .i64 0, .slice none 0 0, .slice none 0 0, .bool false, .bool false, .slice none 0 0, .int .i64 0, .int .i64 0, .int .i64 0])
          go_wp2_with (refine wpList_store_box (vs := [.string ⟨#[]⟩, .int .i64 0, .int .i64 0, .slice none 0 0, .slice none 0 0, .bool false, .bool false, .slice none 0 0, .int .i64 0, .int .i64 0, .int .i64 0]) (by rfl) 26 (.tmp 6) (.tmp 44) (by rfl) (w.heap.size + 1) (by rfl) (by rfl) HUr.out rfl (by kernel_rfl) (by rfl) ?_; generalize (wr.setCells (w.heap.size + 1) 0 [.string ⟨#[]⟩, .int .i64 0, .int .i64 0, .slice none 0 0, .slice none 0 0, .bool false, .bool false, .slice none 0 0, .int .i64 0, .int .i64 0, .int .i64 0]) = wf at *)
          exact bodyPost_ret (results_box rfl (by rfl) (by rfl) HSx.out Try.underlying26 (by rfl) (by kernel_rfl)) rfl ⟨zeroR, _, _, _, by rw [HE.out]; rfl, fun _ _ => zero_rd _, zero_nm, fun h => absurd (HE.out.symm.trans h) HEN.out, HLx.out⟩
        have hsb1 : decide ((R.start.length : Int) ≤ s) = false := by simpa using hs1
        obtain ⟨j, rfl⟩ : ∃ j : Nat, s = j := ⟨s.toNat, by omega⟩
        have hjl : j < R.start.length := by omega
        rw [if_neg hs0, if_neg hs1, Int.toNat_natCast] at HAT
        clear hs0 hs1
        go_upto_region 12 with (fail)
        go_wp2_with fail
        refine (Contains_any _ (sq.take k) j wr HIC.out).mono ?_
        rintro e w4 ⟨rfl, rfl⟩
        cases hany : ((sq.take k).any fun z => (j : Int) == z)
        rotate_left
        · have HE : Hid (woErr R pl sq = 7) := Lib.hid (by rw [HSTEP.out, HAT.out, if_pos hany, if_pos (by decide)])
          have HEN : Hid ((7 : Int) ≠ 0) := Lib.hid (by decide)
          clear hany HSTEP HAT
          have HSx := Lib.hid (HUr.out.store (vs := [.string ⟨#[]⟩, .int .i64 0, .int .i64 0, .slice none 0 0, .slice none 0 0, .bool false, .bool false, .slice none 0 0, .int .i64 0, .int .i64 0, .int .i64 0]) rfl)
          have HLx := Lib.hid (below_setCells HBr.out (show w.heap.size ≤ w.heap.size + 1 by omega) 0 [.string ⟨#[]⟩, .int .i64 0, .int .i64 0, .slice none 0 0, .slice none 0 0, .bool false, .bool false, .slice none 0 0, .int .i64 0, .int .i64 0, .int .i64 0])
          go_wp2_with (refine wpList_store_box (vs := [.string ⟨#[]⟩, .int .i64 0, .int .i64 0, .slice none 0 0, .slice none 0 0, .bool false, .bool false, .slice none 0 0, .int .i64 0, .int .i64 0, .int .i64 0]) (by rfl) 26 (.tmp 6) (.tmp 51) (by rfl) (w.heap.size + 1) (by rfl) (by rfl) HUr.out rfl (by kernel_rfl) (by rfl) ?_; generalize (wr.setCells (w.heap.size + 1) 0 [.string ⟨#[]⟩, .int .i64 0, .int .i64 0, .slice none 0 0, .slice none 0 0, .bool false, .bool false, .slice none 0 0, .int .i64 0, .int .i64 0, .int .i64 0]) = wf at *)
          exact bodyPost_ret (results_box rfl (by rfl) (by rfl) HSx.out Try.underlying26 (by rfl) (by kernel_rfl)) rfl ⟨zeroR, _, _, _, by rw [HE.out]; rfl, fun _ _ => zero_rd _, zero_nm, fun h => absurd (HE.out.symm.trans h) HEN.out, HLx.out⟩
        rw [hany, if_neg (by decide)] at HAT
        clear hany
        obtain ⟨g2, o2, c2, he2, _, _, _, hcell2⟩ := (HR.out.2.1.below HBr.out (Nat.le_refl _)).some (by omega)
        simp only [Value.slice.injEq] at he2
        obtain ⟨rfl, _, rfl⟩ := he2
        have cj := hcell2 j hjl
        have hcb : 0 ≤ R.start.getD j 0 ∧ R.start.getD j 0 ≤ 12 := by
          have := HK.out.sc (R.start.getD j 0) (by rw [List.getD_eq_getElem?_getD, List.getElem?_eq_getElem hjl]; exact List.getElem_mem hjl)
          have := HK.out.np
          omega
        clear hcell2
        generalize R.start.getD j 0 = c at *
        by_cases hc0 : c = 0
        · have HE : Hid (woErr R pl sq = 8) := Lib.hid (by rw [HSTEP.out, HAT.out, if_pos hc0, if_pos (by decide)])
          have HEN : Hid ((8 : Int) ≠ 0) := Lib.hid (by decide)
          have hcz : (c == 0) = true := by simpa using hc0
          clear hc0 HSTEP HAT
          go_upto_region 15 with (fail)
          have HSx := Lib.hid (HUr.out.store (vs := [.string ⟨#[]⟩, .int .i64 0, .int .i64 0, .slice none 0 0, .slice none 0 0, .bool false, .bool false, .slice none 0 0, .int .i64 0, .int .i64 0, .int .i64 0]) rfl)
          have HLx := Lib.hid (below_setCells HBr.out (show w.heap.size ≤ w.heap.size + 1 by omega) 0 [.string ⟨#[]⟩, .int .i64 0, .int .i64 0, .slice none 0 0, .slice none 0 0, .bool false, .bool false, .slice none 0 0, .int .i64 0, .int .i64 0, .int .i64 0])
          go_wp2_with (refine wpList_store_box (vs := [.string ⟨#[]⟩, .int .i64 0, .int .i64 0, .slice none 0 0, .slice none 0 0, .bool false, .bool false, .slice none 0 0, .int .i64 0, .int .i64 0, .int .i64 0]) (by rfl) 26 (.tmp 6) (.tmp 70) (by rfl) (w.heap.size + 1) (by rfl) (by rfl) HUr.out rfl (by kernel_rfl) (by rfl) ?_; generalize (wr.setCells (w.heap.size + 1) 0 [.string ⟨#[]⟩, .int .i64 0, .int .i64 0, .slice none 0 0, .slice none 0 0, .bool false, .bool false, .slice none 0 0, .int .i64 0, .int .i64 0, .int .i64 0]) = wf at *)
          exact bodyPost_ret (results_box rfl (by rfl) (by rfl) HSx.out Try.underlying26 (by rfl) (by kernel_rfl)) rfl ⟨zeroR, _, _, _, by rw [HE.out]; rfl, fun _ _ => zero_rd _, zero_nm, fun h => absurd (HE.out.symm.trans h) HEN.out, HLx.out⟩
        have hcz : (c == 0) = false := by simpa using hc0
        rw [if_neg hc0] at HAT
        have hwc : IntKind.i64.wrap (c - 1) = c - 1 := IntWalk.i64_in _ (by omega)
        have htm : Int.tmod (c - 1) 2 = (c - 1) % 2 := Int.tmod_eq_emod_of_nonneg (by omega)
        have hmb : 0 ≤ (c - 1) % 2 ∧ (c - 1) % 2 < 2 := by omega
        rw [htm] at HAT
        have hwm : IntKind.i64.wrap ((c - 1) % 2) = (c - 1) % 2 := IntWalk.i64_in _ (by omega)
        by_cases hpm : (c - 1) % 2 = pl
        rotate_left
        · have HE : Hid (woErr R pl sq = 8) := Lib.hid (by rw [HSTEP.out, HAT.out, if_pos hpm, if_pos (by decide)])
          have HEN : Hid ((8 : Int) ≠ 0) := Lib.hid (by decide)
          have hpmb : ((c - 1) % 2 != pl) = true := by simpa using hpm
          clear hpm HSTEP HAT hc0
          go_upto_region 15 with (fail)
          have HSx := Lib.hid (HUr.out.store (vs := [.string ⟨#[]⟩, .int .i64 0, .int .i64 0, .slice none 0 0, .slice none 0 0, .bool false, .bool false, .slice none 0 0, .int .i64 0, .int .i64 0, .int .i64 0]) rfl)
          have HLx := Lib.hid (below_setCells HBr.out (show w.heap.size ≤ w.heap.size + 1 by omega) 0 [.string ⟨#[]⟩, .int .i64 0, .int .i64 0, .slice none 0 0, .slice none 0 0, .bool false, .bool false, .slice none 0 0, .int .i64 0, .int .i64 0, .int .i64 0])
          go_wp2_with (refine wpList_store_box (vs := [.string ⟨#[]⟩, .int .i64 0, .int .i64 0, .slice none 0 0, .slice none 0 0, .bool false, .bool false, .slice none 0 0, .int .i64 0, .int .i64 0, .int .i64 0]) (by rfl) 26 (.tmp 6) (.tmp 70) (by rfl) (w.heap.size + 1) (by rfl) (by rfl) HUr.out rfl (by kernel_rfl) (by rfl) ?_; generalize (wr.setCells (w.heap.size + 1) 0 [.string ⟨#[]⟩, .int .i64 0, .int .i64 0, .slice none 0 0, .slice none 0 0, .bool false, .bool false, .slice none 0 0, .int .i64 0, .int .i64 0, .int .i64 0]) = wf at *)
          exact bodyPost_ret (results_box rfl (by rfl) (by rfl) HSx.out Try.underlying26 (by rfl) (by kernel_rfl)) rfl ⟨zeroR, _, _, _, by rw [HE.out]; rfl, fun _ _ => zero_rd _, zero_nm, fun h => absurd (HE.out.symm.trans h) HEN.out, HLx.out⟩
        rw [if_neg (by simpa using hpm)] at HAT
        have hpmb : ((c - 1) % 2 != pl) = false := by simpa using hpm
        have HSN : Hid (woErr R pl sq = woFrom R pl sq (sq.length - (k + 1)) (k + 1)) := Lib.hid (by rw [HSTEP.out, HAT.out, if_neg (by decide)])
        clear hpm hc0 HSTEP HAT
        obtain ⟨yg, yc, hyv⟩ := own_some HY.out (by omega)
        simp only [Value.slice.injEq, true_and] at hyv
        obtain ⟨rfl, rfl⟩ := hyv
        have hygl := HYL.out yg rfl
        have dcl : wr.cell? ⟨yg, j, none⟩ = some (.int .i64 (st.getD j 0)) := by
          have := HY.out.cellAt j (by omega)
          rw [this]
          unfold ints
          rw [List.getElem?_map, List.getD_eq_getElem?_getD, List.getElem?_eq_getElem (by rw [HST.out]; exact hjl)]; rfl
        have dfz : wr.frozen? ⟨yg, j, none⟩ = false := own_frozen HY.out j
        have q4 := HOr.out.cell 4 rfl
        generalize st.getD j 0 = old at *
        go_upto_region 16 with (fail)
        skip
        go_upto_region 17 with (fail)
        have HY9 : Hid ((wr.setCell ⟨yg, j, none⟩ (.int .i64 0)).ownsRow w1.heap.size 3 1 (.slice (some ⟨yg, 0, none⟩) R.start.length yn) R.start.length (ints (st.set j 0))) := Lib.hid (by
          rw [show ints (st.set j 0) = (ints st).set j (.int .i64 0) by unfold ints; rw [List.map_set]]
          exact (HY.out.stored j (.int .i64 0)).1)
        have HX9 := Lib.hid (HXr.out.far ⟨yg, j, none⟩ (.int .i64 0) (show w.heap.size ≠ yg by omega))
        have HU9 := Lib.hid (HUr.out.far ⟨yg, j, none⟩ (.int .i64 0) (show w.heap.size + 1 ≠ yg by omega))
        have HO9 := Lib.hid (HOr.out.far ⟨yg, j, none⟩ (.int .i64 0) (show ob ≠ yg by have := HOB.out; omega))
        have HB9 := Lib.hid (HBr.out.setCell (p := ⟨yg, j, none⟩) (show w.heap.size ≤ yg by omega) (.int .i64 0))
        have HF9 := Lib.hid (HFr.out.setCell (p := ⟨yg, j, none⟩) (.inl rfl) (.int .i64 0))
        clear HY HXr HUr HOr HBr HFr dcl dfz q4
        generalize (wr.setCell ⟨yg, j, none⟩ (.int .i64 0)) = w9 at *
        go_wp2_with fail
        go_roundw
        case rel => exact ⟨k + 1, st.set j 0, by omega, by go_num, Lib.hid (by rw [List.length_set]; exact HST.out), Lib.hid (fun h => by omega), HSN, HY9, HX9, HU9, HO9, HB9, HF9⟩
        case measure => simp [intOf]; omega
      · obtain rfl : k = sq.length := by omega
        have HE : Hid (woErr R pl sq = 0) := Lib.hid (by rw [HFK.out, Nat.sub_self]; rfl)
        go_upto_region 18 with (fail)
        refine wp_region_lit ?_
        refine wpList_load_box (by rfl) 26 (.tmp 9) (by rfl) (ob) (by rfl) HOr.out Try.underlying26 (by rfl) (by kernel_rfl) ?_
        have HSx := Lib.hid (HUr.out.store (vs := [.string R.name, .int .i64 R.width, .int .i64 R.height, .slice pa R.pieces.length pn, .slice ya R.start.length yn, .bool R.falls, .bool R.keeps, .slice ea R.ends.length en, .int .i64 R.blocked, .int .i64 R.quiet, .int .i64 R.rept]) rfl)
        have HLf := Lib.hid (below_setCells HBr.out (show w.heap.size ≤ w.heap.size + 1 by omega) 0 [.string R.name, .int .i64 R.width, .int .i64 R.height, .slice pa R.pieces.length pn, .slice ya R.start.length yn, .bool R.falls, .bool R.keeps, .slice ea R.ends.length en, .int .i64 R.blocked, .int .i64 R.quiet, .int .i64 R.rept])
        have HFf := Lib.hid (HFr.out.setCells (b := w.heap.size + 1) (.inr rfl) 0 [.string R.name, .int .i64 R.width, .int .i64 R.height, .slice pa R.pieces.length pn, .slice ya R.start.length yn, .bool R.falls, .bool R.keeps, .slice ea R.ends.length en, .int .i64 R.blocked, .int .i64 R.quiet, .int .i64 R.rept])
        have HYf := Lib.hid (own_setCells HY.out hu1 0 [.string R.name, .int .i64 R.width, .int .i64 R.height, .slice pa R.pieces.length pn, .slice ya R.start.length yn, .bool R.falls, .bool R.keeps, .slice ea R.ends.length en, .int .i64 R.blocked, .int .i64 R.quiet, .int .i64 R.rept])
        go_wp2_with (refine wpList_store_box (vs := [.string R.name, .int .i64 R.width, .int .i64 R.height, .slice pa R.pieces.length pn, .slice ya R.start.length yn, .bool R.falls, .bool R.keeps, .slice ea R.ends.length en, .int .i64 R.blocked, .int .i64 R.quiet, .int .i64 R.rept]) (by rfl) 26 (.tmp 6) (.tmp 76) (by rfl) (w.heap.size + 1) (by rfl) (by rfl) HUr.out rfl (by kernel_rfl) (by rfl) ?_; generalize (wr.setCells (w.heap.size + 1) 0 [.string R.name, .int .i64 R.width, .int .i64 R.height, .slice pa R.pieces.length pn, .slice ya R.start.length yn, .bool R.falls, .bool R.keeps, .slice ea R.ends.length en, .int .i64 R.blocked, .int .i64 R.quiet, .int .i64 R.rept]) = wf at *)
        exact bodyPost_ret (results_box rfl (by rfl) (by rfl) HSx.out Try.underlying26 (by rfl) (by kernel_rfl)) rfl ⟨{ R with start := st }, _, _, _, by rw [HE.out]; rfl, by
          intro w2' hw2'
          have hsz : w2.heap.size ≤ (wf).heap.size := HFf.out.size
          have hd := HX2.out w2' (fun k h1 h2 h3 => (hw2' k (by omega) (by omega)).trans (HFf.out.block k h2 (by rintro (h | h); exact h3 h; omega)))
          refine ⟨hd.1, ?_, hd.2⟩
          have hy := own_seen HYf.out (show w.heap.size ≤ w1.heap.size by omega) hw2'
          rw [← HST.out] at hy ⊢
          exact RdI.of_own hy, HN.out, fun _ h => by rw [HS0.out (by rw [h]; rfl)], HLf.out⟩

end Go.Proofs.Ytaacfoeleblfbaa

/- standing.Prizes, at a table. -/
import Derived.Test.YtjgnjahnfglbaaaStQ
import Derived.Test.YtjgnjahnfglbaaaApp0
import Derived.Deep.Cut
namespace Go.Proofs.Ytjgnjahnfglbaaa
open Go.ChangeShapes Go.WideShapes Go.ChangeAt Go.RowKit
set_option linter.unusedVariables false

def badP (p : Int) : Bool := decide (p < 0) || decide (100000000 < p)
theorem callBad (args : Array Value) (w : World) : (callFunc 14 args).run Try.prog w = .ok (.enter 14 args) w := by kernel_rfl
theorem bad_any (p : Int) (w : World) : Calls Try.prog 14 #[.int .i64 p] w fun e w' => e = .returned (.bool (badP p)) ∧ w = w' := by
  have hc : p < 0 ∨ (¬ p < 0 ∧ 100000000 < p) ∨ (¬ p < 0 ∧ ¬ 100000000 < p) := by omega
  rcases hc with q | ⟨q1, q2⟩ | ⟨q1, q2⟩
  all_goals
    go_enter Try.func14, Try.ntmps14
    go_wp2
    go_ret
    first
      | exact ⟨by rw [show badP p = false by unfold badP; simp; omega]; rfl, rfl⟩
      | exact ⟨by rw [show badP p = true by unfold badP; simp; omega]; rfl, rfl⟩
theorem good_prizes {zs : List Int} (h : zs.any badP = false) : ∀ z ∈ zs, 0 ≤ z ∧ z ≤ 100000000 := fun z hz => by
  have := List.any_eq_false.1 h z hz
  unfold badP at this
  simp at this
  omega
def PrizesPost (rs : List RowZ) (zs : List Int) (w : World) (e : Ending) (w' : World) : Prop := Below w.heap.size w w' ∧
  ((zs.any badP = true ∧ e = .returned (.tuple #[.slice none 0 0, .int .i64 4])) ∨
   (zs.any badP = false ∧ ∃ g cap, e = .returned (.tuple #[.slice (some ⟨g, 0, none⟩) rs.length cap, .int .i64 0]) ∧ w'.ownsRow w.heap.size 3 1 (.slice (some ⟨g, 0, none⟩) rs.length cap) rs.length (ints (shL rs zs rs.length))))
set_option maxRecDepth 100000 in
set_option maxHeartbeats 8000000 in
theorem Prizes_any {n m base G cap : Nat} (rs : List RowZ) (vp : Value) (zs : List Int) (w : World) (hown : w.ownsRow base 30 8 (.slice (some ⟨G, 0, none⟩) rs.length cap) rs.length (flatR rs)) (hok : TabOk n m rs) (h1 : 1 ≤ rs.length) (h32 : rs.length ≤ 32) (hz : RdI w vp zs) (hzl : zs.length ≤ 32) :
    Calls Try.prog 7 #[.slice (some ⟨G, 0, none⟩) rs.length cap, vp] w (PrizesPost rs zs w) := by
  obtain ⟨za, zc, rfl, z1, z2⟩ := hz.form
  unfold maxLen at z2
  have hG := (hown.lt G rfl).2
  have HO := Lib.hid hown
  have HOk := Lib.hid hok
  have HZ := Lib.hid hz
  have HCF := Lib.hid (ContainsFunc_any _ zs badP 14 #[] w hz callBad (fun z _ => bad_any z w))
  have hz33 : ¬ (32 : Int) < (zs.length : Int) := by omega
  have hr33 : ¬ (32 : Int) < (rs.length : Int) := by omega
  clear hown hok hz
  cases hb : zs.any badP
  · have HGd := Lib.hid (good_prizes hb)
    have HBf := Lib.hid hb
    rw [hb] at HCF
    clear hb
    go_enter Try.func7, Try.ntmps7
    go_wp2_with fail
    refine HCF.out.mono ?_
    rintro e w' ⟨rfl, rfl⟩
    go_wp2_with fail
    go_loopw [28] (fun i wr => ∃ k : Nat, k ≤ rs.length ∧ i = .int .i64 k ∧ Below w.heap.size w wr) (fun i _ => rs.length - (intOf i).toNat)
    case atStart => exact ⟨0, Nat.zero_le _, rfl, Below.refl _ _⟩
    case round =>
      obtain ⟨k, hk, rfl, hbl⟩ := hrel
      by_cases hlt : k < rs.length
      · have hlz : (k : Int) < (rs.length : Int) := by omega
        obtain ⟨x, hx⟩ : ∃ x, rs[k] = x := ⟨_, rfl⟩
        have hownr := own_stays HO.out hbl
        have hGr : G < wr.heap.size := Nat.lt_of_lt_of_le hG hbl.size
        have hpb := pl_bnd HOk.out k hlt
        obtain ⟨hfr, hto⟩ := pl_row HOk.out k hlt
        obtain ⟨hfr2, hto2⟩ := pl_head HOk.out k hlt (by omega)
        rw [hx] at hfr hto
        have hfl : plF rs k < rs.length := by omega
        have g6 : wr.cell? ⟨G, plF rs k * 8 + 6, none⟩ = some (.int .i64 ((plF rs k : Int) + 1)) := by have := row_cells hownr rfl (plF rs k) hfl rfl 6 (by omega) (v := .int .i64 rs[plF rs k].fr) rfl; rw [hfr2] at this; exact this
        have g7 : wr.cell? ⟨G, plF rs k * 8 + 7, none⟩ = some (.int .i64 (plE rs k : Int)) := by have := row_cells hownr rfl (plF rs k) hfl rfl 7 (by omega) (v := .int .i64 rs[plF rs k].to) rfl; rw [hto2] at this; exact this
        clear hfr2 hto2
        generalize plF rs k = f at *
        generalize plE rs k = t at *
        obtain ⟨p1, p2, p3⟩ := hpb
        have a0 : wr.cell? ⟨G, k * 8, none⟩ = some (.int .i64 x.pl) := by have := row_cells hownr rfl k hlt hx 0 (by omega) rfl; exact this
        have a1 : wr.cell? ⟨G, k * 8 + 1, none⟩ = some (.int .i64 x.pts) := by have := row_cells hownr rfl k hlt hx 1 (by omega) rfl; exact this
        have a2 : wr.cell? ⟨G, k * 8 + 2, none⟩ = some (.int .i64 x.b0) := by have := row_cells hownr rfl k hlt hx 2 (by omega) rfl; exact this
        have a3 : wr.cell? ⟨G, k * 8 + 3, none⟩ = some (.int .i64 x.b1) := by have := row_cells hownr rfl k hlt hx 3 (by omega) rfl; exact this
        have a4 : wr.cell? ⟨G, k * 8 + 4, none⟩ = some (.int .i64 x.b2) := by have := row_cells hownr rfl k hlt hx 4 (by omega) rfl; exact this
        have a5 : wr.cell? ⟨G, k * 8 + 5, none⟩ = some (.int .i64 x.b3) := by have := row_cells hownr rfl k hlt hx 5 (by omega) rfl; exact this
        have a6 : wr.cell? ⟨G, k * 8 + 6, none⟩ = some (.int .i64 ((f : Int) + 1)) := by have := row_cells hownr rfl k hlt hx 6 (by omega) rfl; rw [hfr] at this; exact this
        have a7 : wr.cell? ⟨G, k * 8 + 7, none⟩ = some (.int .i64 ((t : Int))) := by have := row_cells hownr rfl k hlt hx 7 (by omega) rfl; rw [hto] at this; exact this
        have n1 : ¬ (f : Int) + 1 < 1 := by omega
        have n2 : ¬ (k : Int) + 1 < (f : Int) + 1 := by omega
        have n3 : ¬ (t : Int) < (k : Int) + 1 := by omega
        have n4 : ¬ (rs.length : Int) < (t : Int) := by omega
        have hfz : (f : Int) < (rs.length : Int) := by omega
        have hwf : IntKind.i64.wrap (f : Int) = (f : Int) := by rw [IntKind.wrap_i64]; omega
        have HBl := Lib.hid hbl
        clear hx hownr hfr hto
        go_wp2_with fail
        go_quiet (fail)
        go_wp2_with fail
        go_roundw
        case rel => exact ⟨k + 1, by omega, by go_num, below_drewN (HBl.out.alloc HBl.out.size _) _⟩
        case measure => simp [intOf]; omega
      · obtain rfl : k = rs.length := by omega
        go_wp2_with fail
        go_loopw [84, 9] (fun i v wr => ∃ k : Nat, k ≤ rs.length ∧ i = .int .i64 k ∧ Hid (wr.ownsRow w.heap.size 3 1 v k (ints (shL rs zs k))) ∧ Below w.heap.size w wr) (fun i _ _ => rs.length - (intOf i).toNat)
        case atStart => exact ⟨0, Nat.zero_le _, rfl, Lib.hid (World.ownsRow_nil _ _ _ _), hbl⟩
        case round =>
          clear hbl
          obtain ⟨k, hk, rfl, HV, hbl⟩ := hrel
          by_cases hlt : k < rs.length
          · have hlz : (k : Int) < (rs.length : Int) := by omega
            obtain ⟨x, hx⟩ : ∃ x, rs[k] = x := ⟨_, rfl⟩
            have hownr := own_stays HO.out hbl
            have hGr : G < wr.heap.size := Nat.lt_of_lt_of_le hG hbl.size
            have hpb := pl_bnd HOk.out k hlt
            obtain ⟨hfr, hto⟩ := pl_row HOk.out k hlt
            rw [hx] at hfr hto
            have HSN := Lib.hid (sh_bnd HOk.out (fun z hz => (HGd.out z hz).1) k hlt)
            have HSh : Hid (shZ rs zs k = shS rs zs k / shN rs k + if (k : Int) - plF rs k < shS rs zs k % shN rs k then 1 else 0) := Lib.hid rfl
            have HSd : Hid (shS rs zs k = preP zs (plE rs k) - preP zs (plF rs k)) := Lib.hid rfl
            have HNd : Hid (shN rs k = (plE rs k : Int) - plF rs k) := Lib.hid rfl
            generalize plF rs k = f at *
            generalize plE rs k = t at *
            obtain ⟨p1, p2, p3⟩ := hpb
            have a0 : wr.cell? ⟨G, k * 8, none⟩ = some (.int .i64 x.pl) := by have := row_cells hownr rfl k hlt hx 0 (by omega) rfl; exact this
            have a1 : wr.cell? ⟨G, k * 8 + 1, none⟩ = some (.int .i64 x.pts) := by have := row_cells hownr rfl k hlt hx 1 (by omega) rfl; exact this
            have a2 : wr.cell? ⟨G, k * 8 + 2, none⟩ = some (.int .i64 x.b0) := by have := row_cells hownr rfl k hlt hx 2 (by omega) rfl; exact this
            have a3 : wr.cell? ⟨G, k * 8 + 3, none⟩ = some (.int .i64 x.b1) := by have := row_cells hownr rfl k hlt hx 3 (by omega) rfl; exact this
            have a4 : wr.cell? ⟨G, k * 8 + 4, none⟩ = some (.int .i64 x.b2) := by have := row_cells hownr rfl k hlt hx 4 (by omega) rfl; exact this
            have a5 : wr.cell? ⟨G, k * 8 + 5, none⟩ = some (.int .i64 x.b3) := by have := row_cells hownr rfl k hlt hx 5 (by omega) rfl; exact this
            have a6 : wr.cell? ⟨G, k * 8 + 6, none⟩ = some (.int .i64 ((f : Int) + 1)) := by have := row_cells hownr rfl k hlt hx 6 (by omega) rfl; rw [hfr] at this; exact this
            have a7 : wr.cell? ⟨G, k * 8 + 7, none⟩ = some (.int .i64 ((t : Int))) := by have := row_cells hownr rfl k hlt hx 7 (by omega) rfl; rw [hto] at this; exact this
            obtain ⟨av, cv, hv⟩ := own_form2 HV.out
            subst hv
            have HZr := Lib.hid (HZ.out.below (hbl.alloc hbl.size (.cells #[.int .i64 x.pl, .int .i64 x.pts, .int .i64 x.b0, .int .i64 x.b1, .int .i64 x.b2, .int .i64 x.b3, .int .i64 ((f : Int) + 1), .int .i64 (t : Int)] 30)) (Nat.le_refl _))
            have HVr := Lib.hid (HV.out.alloc (.cells #[.int .i64 x.pl, .int .i64 x.pts, .int .i64 x.b0, .int .i64 x.b1, .int .i64 x.b2, .int .i64 x.b3, .int .i64 ((f : Int) + 1), .int .i64 (t : Int)] 30))
            have HBr : Hid (Below w.heap.size w (wr.alloc (.cells #[.int .i64 x.pl, .int .i64 x.pts, .int .i64 x.b0, .int .i64 x.b1, .int .i64 x.b2, .int .i64 x.b3, .int .i64 ((f : Int) + 1), .int .i64 (t : Int)] 30))) := Lib.hid (hbl.alloc hbl.size _)
            obtain ⟨M, hM⟩ : ∃ M : Nat, min (t : Int) (zs.length : Int) = (M : Int) := ⟨min t zs.length, by omega⟩
            have hM2 : M = min t zs.length := by omega
            have HM2 := Lib.hid hM2
            have hM3 : M ≤ 32 := by omega
            clear hx hownr hfr hto HV hM2
            go_wp2_with fail
            go_loop [12, 13] (fun s12 s13 => ∃ p : Nat, f ≤ p ∧ p ≤ max f M ∧ s13 = .int .i64 ((p : Int) + 1) ∧ s12 = .int .i64 (preP zs p - preP zs f)) (fun _ s13 => M + 1 - (intOf s13).toNat)
            case atStart => exact ⟨f, Nat.le_refl _, by omega, rfl, by rw [Int.sub_self]⟩
            case round =>
              obtain ⟨p, hp1, hp2, rfl, rfl⟩ := hrel
              obtain ⟨u1, u2⟩ := preP_bnd HGd.out p
              have u3 := preP_mono (fun z hz => (HGd.out z hz).1) f p hp1
              have u4 := preP_bnd HGd.out f
              have up : p ≤ 33 := by omega
              by_cases hpM : p < M
              · have hpz : (p : Int) + 1 ≤ (M : Int) := by omega
                obtain ⟨gz, oz, cz, q, _, _, _, hcell⟩ := HZr.out.some (by have := HM2.out; omega)
                simp only [Value.slice.injEq] at q
                obtain ⟨rfl, _, rfl⟩ := q
                have ck := hcell p (by have := HM2.out; omega)
                have hpl : (p : Int) < (zs.length : Int) := by have := HM2.out; omega
                have hwp : IntKind.i64.wrap (p : Int) = (p : Int) := by rw [IntKind.wrap_i64]; omega
                have HSt := Lib.hid (preP_step zs p (by omega))
                have v1 := preP_bnd HGd.out (p + 1)
                rw [preP_step zs p (by omega)] at v1
                have v2 : 0 ≤ zs.getD p 0 ∧ zs.getD p 0 ≤ 100000000 := by
                  rw [List.getD_eq_getElem?_getD, List.getElem?_eq_getElem (show p < zs.length by omega)]; exact HGd.out _ (List.getElem_mem _)
                clear hcell
                generalize zs.getD p 0 = z at *
                have w1' : 0 ≤ preP zs p - preP zs f := by omega
                have w2' : preP zs p - preP zs f ≤ 3300000000 := by omega
                clear u1 u2 u3 u4 v1
                have HAdd := Lib.hid (show preP zs (p + 1) - preP zs f = preP zs p - preP zs f + z by rw [HSt.out]; omega)
                generalize preP zs p - preP zs f = sm at *
                go_wp2_with fail
                go_round
                case rel => exact ⟨p + 1, by omega, by omega, by go_num, by rw [HAdd.out]⟩
                case measure => simp [intOf]; omega
              · have hpz : ¬ (p : Int) + 1 ≤ (M : Int) := by omega
                have hS : preP zs p - preP zs f = shS rs zs k := by
                  rw [HSd.out]
                  have hm := HM2.out
                  by_cases ht : t ≤ zs.length
                  · rw [show p = t by omega]
                  · rw [preP_end zs p (by omega), preP_end zs t (by omega)]
                rw [hS]
                have hSb : shS rs zs k ≤ 3300000000 := by omega
                obtain ⟨s1, s2⟩ := HSN.out
                rw [HNd.out] at s1
                obtain ⟨nn, hnn⟩ : ∃ nn : Int, (t : Int) - (f : Int) = nn := ⟨_, rfl⟩
                have HNn : Hid (shN rs k = nn) := Lib.hid (by rw [HNd.out, hnn])
                generalize shS rs zs k = sm at *
                have hb1 : 1 ≤ nn := by omega
                have hb2 : nn ≤ 32 := by omega
                clear hS u1 u2 u3 u4
                have hb0 : 0 ≤ sm := s2
                go_upto_region 23 with (fail)
                rw [show (t : Int) - ((f : Int) + 1) + 1 = nn by omega]
                have hq0 : 0 ≤ sm / nn := Int.ediv_nonneg hb0 (by omega)
                have hq1 : sm / nn ≤ sm := Int.ediv_le_self _ hb0
                have hr0 : 0 ≤ sm % nn := Int.emod_nonneg _ (by omega)
                have hr1 : sm % nn < nn := Int.emod_lt_of_pos _ (by omega)
                have HTm := Int.tmod_eq_emod_of_nonneg (a := sm) (b := nn) hb0
                have hnz : ¬ nn = 0 := by omega
                rw [HNn.out] at HSh
                obtain ⟨wz, hwz⟩ : ∃ wz, wz = wr.alloc (.cells [.int .i64 x.pl, .int .i64 x.pts, .int .i64 x.b0, .int .i64 x.b1, .int .i64 x.b2, .int .i64 x.b3, .int .i64 ((f : Int) + 1), .int .i64 (t : Int)].toArray 30) := ⟨_, rfl⟩
                rw [← hwz] at HZr HVr HBr ⊢
                have e6 : wz.cell? ⟨wr.heap.size, 6, none⟩ = some (.int .i64 ((f : Int) + 1)) := by rw [hwz]; exact (Box.new wr [.int .i64 x.pl, .int .i64 x.pts, .int .i64 x.b0, .int .i64 x.b1, .int .i64 x.b2, .int .i64 x.b3, .int .i64 ((f : Int) + 1), .int .i64 (t : Int)] 30).cell 6 rfl
                clear hwz hnn a0 a1 a2 a3 a4 a5 a6 a7 HSN HNd HNn HSd
                have hkf : (k : Int) + 1 - ((f : Int) + 1) = (k : Int) - (f : Int) := by omega
                by_cases hc : (k : Int) + 1 - ((f : Int) + 1) < sm % nn
                · have HShQ : Hid (shZ rs zs k = sm / nn + 1) := Lib.hid (by rw [HSh.out, if_pos (by omega)])
                  have hc2 : (k : Int) - (f : Int) < sm % nn := by omega
                  clear hkf HSh
                  generalize sm / nn = q at *
                  generalize sm % nn = r at *
                  go_quiet (fail)
                  go_upto_region 25 with (fail)
                  have HVy : Hid ((wz.drewN nq).ownsRow w.heap.size 3 1 (.slice av k cv) k (ints (shL rs zs k))) := Lib.hid HVr.out
                  have HBy : Hid (Below w.heap.size w (wz.drewN nq)) := Lib.hid (below_drewN HBr.out nq)
                  generalize wz.drewN nq = wy at HVy HBy ⊢
                  have hsy : w.heap.size ≤ wy.heap.size := HBy.out.size
                  go_wp2_with (at_builtin; refine app_new 32 3 (.int .i64 0) 1 8 info3 Try.underlying32 rfl (by decide) (by rfl) _ _ (by rfl) w.heap.size _ k (ints (shL rs zs k)) [.int .i64 (q + 1)] wy HVy.out hsy rfl one_int (by omega) (by omega) (by rfl) (by rfl) ?_; intro g4 cap4 w4 hown4 hkeep hgr)
                  have HO4 := Lib.hid hown4
                  have HB4 : Hid (Below w.heap.size w w4) := Lib.hid (hkeep.below HBy.out (Nat.le_refl _))
                  clear hown4 hkeep hgr
                  go_wp2_with fail
                  go_roundw
                  case rel => exact ⟨k + 1, by omega, by go_num, Lib.hid (by rw [shL_step, ← ints_append, HShQ.out]; exact HO4.out), HB4.out⟩
                  case measure => simp [intOf]; omega
                · have HShQ : Hid (shZ rs zs k = sm / nn) := Lib.hid (by rw [HSh.out, if_neg (by omega)]; omega)
                  have hc2 : ¬ (k : Int) - (f : Int) < sm % nn := by omega
                  clear hkf HSh
                  generalize sm / nn = q at *
                  generalize sm % nn = r at *
                  go_quiet (fail)
                  go_upto_region 25 with (fail)
                  have HVy : Hid ((wz.drewN nq).ownsRow w.heap.size 3 1 (.slice av k cv) k (ints (shL rs zs k))) := Lib.hid HVr.out
                  have HBy : Hid (Below w.heap.size w (wz.drewN nq)) := Lib.hid (below_drewN HBr.out nq)
                  generalize wz.drewN nq = wy at HVy HBy ⊢
                  have hsy : w.heap.size ≤ wy.heap.size := HBy.out.size
                  go_wp2_with (at_builtin; refine app_new 32 3 (.int .i64 0) 1 8 info3 Try.underlying32 rfl (by decide) (by rfl) _ _ (by rfl) w.heap.size _ k (ints (shL rs zs k)) [.int .i64 (q)] wy HVy.out hsy rfl one_int (by omega) (by omega) (by rfl) (by rfl) ?_; intro g4 cap4 w4 hown4 hkeep hgr)
                  have HO4 := Lib.hid hown4
                  have HB4 : Hid (Below w.heap.size w w4) := Lib.hid (hkeep.below HBy.out (Nat.le_refl _))
                  clear hown4 hkeep hgr
                  go_wp2_with fail
                  go_roundw
                  case rel => exact ⟨k + 1, by omega, by go_num, Lib.hid (by rw [shL_step, ← ints_append, HShQ.out]; exact HO4.out), HB4.out⟩
                  case measure => simp [intOf]; omega
          · obtain rfl : k = rs.length := by omega
            obtain ⟨g9, c9, hv⟩ := own_some HV.out (by omega)
            subst hv
            go_wp2_with fail
            go_ret2
            exact ⟨hbl, .inr ⟨HBf.out, g9, c9, rfl, HV.out⟩⟩
  · have HBt := Lib.hid hb
    rw [hb] at HCF
    clear hb
    go_enter Try.func7, Try.ntmps7
    go_wp2_with fail
    refine HCF.out.mono ?_
    rintro e w' ⟨rfl, rfl⟩
    go_wp2_with fail
    go_ret2
    exact ⟨Below.refl _ _, .inl ⟨HBt.out, rfl⟩⟩
end Go.Proofs.Ytjgnjahnfglbaaa

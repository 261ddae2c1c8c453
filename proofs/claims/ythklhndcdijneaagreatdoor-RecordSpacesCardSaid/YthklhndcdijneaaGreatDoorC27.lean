/- RdE, AnJ, RdF. -/
import Derived.Test.YthklhndcdijneaaGreatDoorC26
import Derived.Test.YthklhndcdijneaaGreatDoorC05
import Derived.BigQuiet
import Derived.Deep.Cut
import Derived.Deep.CutRange
import Derived.Deep.QuietTactic
import Derived.Deep.AppendLies
import Derived.Test.YthklhndcdijneaaGreatDoorC04
namespace Go.Proofs.YthklhndcdijneaaGreatDoor
open Go.ChangeShapes Go.WideShapes Go.ChangeAt Go.RowKit
set_option linter.unusedVariables false
set_option maxRecDepth 100000
set_option maxHeartbeats 8000000
variable {R : RulesZ} {vp vs ve x0 x1 x2 x3 : Value}
def AftAt (b : Nat) (R : RulesZ) (vp vs ve x0 x1 x2 x3 : Value) (f : Nat) : Prop := ∀ (s : ByteArray) (p : PosZ) (vc v0 v1 : Value) (w : World), Box w b (rdC R vp vs ve s x0 x1 x2 x3) RdT → s.size ≤ 100000 → RdH b R vp vs ve w → (Held (· = b) w fun w' => RdP w' p vc v0 v1) → POk R p → (bt s).length < f →
 Calls Tryz.prog 53 #[.pointer (some ⟨b, 0, none⟩), (.agg #[vc, v0, v1, .int .i64 p.turn, .int .i64 p.quiet])] w (afPost b R vp vs ve x0 x1 x2 x3 w (rAfter R f p (bt s)))
theorem after_step (HS : SortMvSaid) (HT : TrimSaid) (HA : AnySaid) (HC : CutSaid) (HCl : CloneSaid) (b f : Nat) (IH : ∀ g, g ≤ f → AftAt b R vp vs ve x0 x1 x2 x3 g) : AftAt b R vp vs ve x0 x1 x2 x3 (f + 1) := by
 intro s p vc v0 v1 w hb hs hh hp K hlen
 have IHh : Hid (∀ g, g ≤ f → AftAt b R vp vs ve x0 x1 x2 x3 g) := Lib.hid IH
 have HH := Lib.hid hh
 have HP := Lib.hid hp
 have HK := Lib.hid K
 have HW : Hid (∀ w1, Box w1 b (rdC R vp vs ve s x0 x1 x2 x3) RdT → Calls Tryz.prog 54 #[.pointer (some ⟨b, 0, none⟩)] w1 fun e w' => e = .returned (.string (bs (wordB (blank (bt s))))) ∧ Box w' b (rdC R vp vs ve (bs (blank (bt s))) x0 x1 x2 x3) RdT ∧ Fr (· = b) w1 w') := Lib.hid fun w1 h1 => word_any HT HA b s w1 h1 hs
 have HM : Hid (∀ (u : Byt) w1, u.length ≤ 100000 → Box w1 b (rdC R vp vs ve (bs u) x0 x1 x2 x3) RdT → Fr (· = b) w w1 → Calls Tryz.prog 78 #[.pointer (some ⟨b, 0, none⟩), (.agg #[vc, v0, v1, .int .i64 p.turn, .int .i64 p.quiet])] w1 (mvPost b R vp vs ve x0 x1 x2 x3 w1 (rMove R p u))) := Lib.hid fun u w1 h0 h1 h2 => by
  have := move_any HS HT HA HC HCl b (bs u) p vc v0 v1 w1 h1 (by rw [bs_size]; exact h0) (hh.step h2) (hp.step h2 (Shr.refl _ _)) K
  rw [bt_bs] at this
  exact this
 have HG : Hid (∀ (u : Byt) (c : UInt8) w1, u.length ≤ 100000 → Box w1 b (rdC R vp vs ve (bs u) x0 x1 x2 x3) RdT → Calls Tryz.prog 50 #[.pointer (some ⟨b, 0, none⟩), .int .u8 c.toNat] w1 fun e w' => e = .returned (.bool (got c u).1) ∧ Box w' b (rdC R vp vs ve (bs (got c u).2) x0 x1 x2 x3) RdT ∧ Fr (· = b) w1 w') := Lib.hid fun u c w1 h0 h1 => by
  have := got_any HT b (bs u) c w1 h1 (by rw [bs_size]; exact h0)
  rw [bt_bs] at this
  exact this
 have hbl : (blank (bt s)).length ≤ (bt s).length := blank_le (bt s)
 have hbs := bt_len s
 obtain ⟨O, hO⟩ : ∃ O, O = rAfter R (f + 1) p (bt s) := ⟨_, rfl⟩
 rw [← hO]
 rw [rAfter] at hO
 obtain ⟨l, hl⟩ : ∃ l, l = blank (bt s) := ⟨_, rfl⟩
 rw [← hl] at HW hbl hO
 have hll : l.length ≤ 100000 := by omega
 have hlf : l.length ≤ f := by omega
 obtain ⟨t, ht⟩ : ∃ t, t = wordB l := ⟨_, rfl⟩
 have htb : wordB (blank l) = t := by rw [hl, blank_idem, ← hl, ht]
 rw [← ht] at HW hO
 have HBr := Lib.hid hb
 have hbz := hb.lt
 have HO := Lib.hid hO
 clear hO hs HT HA HC HCl hl hb HS hh hp K ht IH hbl hbs hlen htb
 go_enter Tryz.func53, Tryz.ntmps53
 go_upto_region 1 with (fail)
 refine opn1 ?_
 intro w0 xbP hB0 hS0
 have HB := Lib.hid hB0
 obtain ⟨bP, hbP⟩ : ∃ bP, bP = w.heap.size := ⟨_, rfl⟩
 rw [← hbP] at xbP ⊢
 have hbP1 : w.heap.size ≤ bP := by omega
 have HbP := Lib.hid xbP
 have hS : bP < w0.heap.size := by omega
 clear hB0 hS0 xbP hbP
 have HB0 := Lib.hid (HBr.out.stays HB.out)
 have HF0 := Lib.hid (Fr.of_new (S := (· = b)) HB.out)
 have hbp : b < bP := by omega
 by_cases h0 : t = [] ∨ t ∈ resTx
 ·have HO1 : Hid (O = .ok ([], l)) := Lib.hid (by rw [HO.out, if_pos h0])
  by_cases h1 : t = []
  ·have hemp : (bs t).toList.isEmpty = true := by rw [h1, Lib.toList_data]; rfl
   clear h0 h1
   go_wp2_with (refine (HW.out _ HB0.out).mono ?_; rintro e w1 ⟨rfl, hb1, hf1⟩)
   go_ret
   unfold afPost
   rw [HO1.out]
   exact ⟨HF0.out.trans hf1 (Shr.refl _ _), .slice none 0 0, [], rfl, World.ownsRow_nil _ _ _ _, by rw [BrsAt], hb1⟩
  ·have hemp : (bs t).toList.isEmpty = false := by
    rw [Lib.toList_data]
    show t.isEmpty = false
    cases t with
    | nil => exact absurd rfl h1
    | cons _ _ => rfl
   have hmem : decide (t ∈ resTx) = true := decide_eq_true (h0.resolve_left h1)
   clear h0 h1
   go_wp2_with (first | (refine (HW.out _ HB0.out).mono ?_; rintro e w1 ⟨rfl, hb1, hf1⟩) | (refine (sContains_any (bs t) w1.heap.size _ (Box.new w1 resV _)).mono ?_; rw [bt_bs]; rintro e w2 ⟨rfl, rfl⟩))
   go_ret
   unfold afPost
   rw [HO1.out]
   exact ⟨(HF0.out.trans hf1 (Shr.refl _ _)).alloc _, .slice none 0 0, [], rfl, World.ownsRow_nil _ _ _ _, by rw [BrsAt], hb1.alloc _⟩
 ·have hemp : (bs t).toList.isEmpty = false := by
   rw [Lib.toList_data]
   show t.isEmpty = false
   cases t with
   | nil => exact absurd (.inl rfl) h0
   | cons _ _ => rfl
  have hmem : decide (t ∈ resTx) = false := decide_eq_false (fun e => h0 (.inr e))
  have HO1 : Hid (O = match rMove R p l with | .error e => .error e | .ok x => match rVars R f p x.2.2 with | .error e => .error e | .ok v => match rAfter R f (makeZ R p x.1) v.2 with | .error e => .error e | .ok k => .ok (.mk x.1 (bs x.2.1) k.1 :: v.1, k.2)) := Lib.hid (by rw [HO.out, if_neg h0]; rfl)
  clear h0 HO
  cases hmv : rMove R p l with
  | error n =>
   rw [hmv] at HO1
   have HMV := Lib.hid hmv
   clear hmv
   go_wp2_with (first | (refine (HW.out _ HB0.out).mono ?_; rintro e w1 ⟨rfl, hb1, hf1⟩) | (refine (sContains_any (bs t) w1.heap.size _ (Box.new w1 resV _)).mono ?_; rw [bt_bs]; rintro e w2 ⟨rfl, e2⟩; have HD2 := Lib.hid (show Box w2 b (rdC R vp vs ve (bs l) x0 x1 x2 x3) RdT by rw [e2]; exact hb1.alloc _); have HE2 := Lib.hid (show Box w2 bP [vc, v0, v1, .int .i64 p.turn, .int .i64 p.quiet] 66 by rw [e2]; exact (HbP.out.held hf1 (show ¬ bP = b by omega)).alloc _); have HF2 := Lib.hid (show Fr (· = b) w w2 by rw [e2]; exact (HF0.out.trans hf1 (Shr.refl _ _)).alloc _); have e20 := HE2.out.cell 0 rfl; have e21 := HE2.out.cell 1 rfl; have e22 := HE2.out.cell 2 rfl; have e23 := HE2.out.cell 3 rfl; have e24 := HE2.out.cell 4 rfl; clear e2 hb1 hf1) | (have hm := HM.out l _ hll HD2.out HF2.out; unfold mvPost at hm; rw [HMV.out] at hm; refine hm.mono ?_; clear hm; rintro e w3 ⟨hf3, rfl⟩))
   refine ⟨rfl, ?_⟩
   unfold afPost
   rw [HO1.out]
   exact ⟨HF2.out.trans hf3 (Shr.refl _ _), rfl⟩
  | ok x =>
   rw [hmv] at HO1
   have HMV := Lib.hid hmv
   have HY0 := Lib.hid (rMove_ok hmv HK.out)
   clear hmv
   go_wp2_with (first | (refine (HW.out _ HB0.out).mono ?_; rintro e w1 ⟨rfl, hb1, hf1⟩) | (refine (sContains_any (bs t) w1.heap.size _ (Box.new w1 resV _)).mono ?_; rw [bt_bs]; rintro e w2 ⟨rfl, e2⟩; have HD2 := Lib.hid (show Box w2 b (rdC R vp vs ve (bs l) x0 x1 x2 x3) RdT by rw [e2]; exact hb1.alloc _); have HE2 := Lib.hid (show Box w2 bP [vc, v0, v1, .int .i64 p.turn, .int .i64 p.quiet] 66 by rw [e2]; exact (HbP.out.held hf1 (show ¬ bP = b by omega)).alloc _); have HF2 := Lib.hid (show Fr (· = b) w w2 by rw [e2]; exact (HF0.out.trans hf1 (Shr.refl _ _)).alloc _); have e20 := HE2.out.cell 0 rfl; have e21 := HE2.out.cell 1 rfl; have e22 := HE2.out.cell 2 rfl; have e23 := HE2.out.cell 3 rfl; have e24 := HE2.out.cell 4 rfl; clear e2 hb1 hf1) | (have hm := HM.out l _ hll HD2.out HF2.out; unfold mvPost at hm; rw [HMV.out] at hm; refine hm.mono ?_; clear hm; rintro e w3 ⟨hf3, gF, hgF, rfl, G3, D3⟩))
   clear e20 e21 e22 e23 e24
   have HE3 := Lib.hid (HE2.out.held hf3 (show ¬ bP = b by omega))
   have HF3 := Lib.hid (HF2.out.trans hf3 (Shr.refl _ _))
   have hbF : b < gF := by have h1 := HD2.out.lt; omega
   have hpF : bP < gF := by have h1 := HE2.out.lt; omega
   have hwF : w.heap.size ≤ gF := by have h1 := HF2.out.size; omega
   have HG3 := Lib.hid G3
   have HD3 := Lib.hid D3
   have hFB : gF < w3.heap.size := G3.lt
   have hxl := HY0.out.1
   have HRow : Hid ((w3.alloc (.cells #[.pointer (some ⟨gF, 0, none⟩)] 140)).ownsRow w3.heap.size rPt 1 (.slice (some ⟨w3.heap.size, 0, none⟩) 1 1) 1 [.pointer (some ⟨gF, 0, none⟩)]) := Lib.hid ⟨by simp, .inr ⟨w3.heap.size, 1, #[.pointer (some ⟨gF, 0, none⟩)], rfl, Nat.le_refl _, heap_alloc_new w3 _, Nat.le_refl _, by decide, rfl, rfl⟩⟩
   clear hf3 G3 D3 HD2 HE2 HF2 HW HB0 HF0 HbP HB hemp hmem
   go_loopg [7] f (fun fg v7 wr => ∃ (l' : Byt) (dn : List BrZ) (us : List Value) (o7 : Value), o7 = v7 ∧ l'.length < fg ∧ fg ≤ f ∧ us.length + l'.length ≤ 100000 ∧ w3.heap.size ≤ wr.heap.size ∧ Hid (rVars R f p x.2.2 = addV dn (rVars R fg p l')) ∧ Hid (LpS w3.heap.size wr o7 gF us dn) ∧ Hid (Box wr b (rdC R vp vs ve (bs l') x0 x1 x2 x3) RdT) ∧ Hid (Box wr bP [vc, v0, v1, .int .i64 p.turn, .int .i64 p.quiet] 66) ∧ Hid (Box wr gF [.int .i64 x.1.src, .int .i64 x.1.dst, .int .i64 x.1.piece, .string (bs x.2.1), .slice none 0 0] rBr) ∧ Hid (Fr (· = b) w wr))
   case atStart => exact ⟨x.2.2, [], [], _, rfl, by omega, Nat.le_refl _, by simp; omega, by simp, Lib.hid (addV_nil _), Lib.hid ⟨HRow.out, by rw [BrsAt]⟩, Lib.hid (HD3.out.alloc _), Lib.hid (HE3.out.alloc _), Lib.hid (HG3.out.alloc _), Lib.hid (HF3.out.alloc _)⟩
   case round =>
    obtain ⟨l', dn, us, o7, rfl, hl1, hl2, hl3, hl4, HV, HL, HDr, HEr, HGr, HFr⟩ := hrel
    cases gk with
    | zero => omega
    | succ g =>
     obtain ⟨oa, oc, rfl⟩ := own_form2 HL.out.row
     have hgt := HG.out l' 40 wr (by omega) HDr.out
     obtain ⟨u, hu⟩ : ∃ u, u = (got 40 l').2 := ⟨_, rfl⟩
     have hul := got_le 40 l'
     rw [← hu] at hul
     cases hg1 : (got 40 l').1 with
     | true =>
      have hv1 := vars_step HV.out hg1
      have hul' := got_lt hg1
      rw [← hu] at hv1 hul'
      have HV1 := Lib.hid hv1
      rw [hg1, ← hu] at hgt
      clear hv1 hu hg1
      cases hmv : rMove R p u with
      | error n =>
       have HMY := Lib.hid hmv
       clear hmv
       go_wp2_with (first | (refine hgt.mono ?_; rintro e w4 ⟨rfl, D4, hf4⟩; have HD4 := Lib.hid D4; have HE4 := Lib.hid (HEr.out.held hf4 (show ¬ bP = b by omega)); have HF4 := Lib.hid (HFr.out.trans hf4 (Shr.refl _ _)); have e20 := HE4.out.cell 0 rfl; have e21 := HE4.out.cell 1 rfl; have e22 := HE4.out.cell 2 rfl; have e23 := HE4.out.cell 3 rfl; have e24 := HE4.out.cell 4 rfl) | (have hm := HM.out u _ (by omega) HD4.out HF4.out; unfold mvPost at hm; rw [HMY.out] at hm; refine hm.mono ?_; clear hm; rintro e w5 ⟨hf5, rfl⟩))
       refine ⟨rfl, ?_⟩
       unfold afPost
       rw [HO1.out, HV1.out.1 n HMY.out]
       exact ⟨HF4.out.trans hf5 (Shr.refl _ _), rfl⟩
      | ok y =>
       have HMY := Lib.hid hmv
       have HY := Lib.hid (rMove_ok hmv HK.out)
       have hy1 := HY.out.1
       have hy2 := HY.out.2.1
       clear hmv
       go_wp2_with (first | (refine hgt.mono ?_; rintro e w4 ⟨rfl, D4, hf4⟩; have HD4 := Lib.hid D4; have HE4 := Lib.hid (HEr.out.held hf4 (show ¬ bP = b by omega)); have HF4 := Lib.hid (HFr.out.trans hf4 (Shr.refl _ _)); have e20 := HE4.out.cell 0 rfl; have e21 := HE4.out.cell 1 rfl; have e22 := HE4.out.cell 2 rfl; have e23 := HE4.out.cell 3 rfl; have e24 := HE4.out.cell 4 rfl) | (have hm := HM.out u _ (by omega) HD4.out HF4.out; unfold mvPost at hm; rw [HMY.out] at hm; refine hm.mono ?_; clear hm; rintro e w5 ⟨hf5, g2, hg2, rfl, G5, D5⟩))
       clear e20 e21 e22 e23 e24
       have hg2r : wr.heap.size ≤ g2 := by have := hf4.size; omega
       have hbg2 : b < g2 := by omega
       have hpg2 : bP < g2 := by omega
       have hwg2 : w.heap.size ≤ g2 := by omega
       have HD5 := Lib.hid D5
       have HG5 := Lib.hid G5
       have HE5 := Lib.hid (HE4.out.held hf5 (show ¬ bP = b by omega))
       have HF5 := Lib.hid (HF4.out.trans hf5 (Shr.refl _ _))
       have HH5 := Lib.hid (hf4.trans hf5 (Shr.refl _ _))
       clear D5 G5 hf5 hf4 D4 HD4 HE4 HF4 hgt
       obtain ⟨wq, rfl⟩ : ∃ wq : World, wq = w5 := ⟨_, rfl⟩
       have Dz := HD5.out.drew
       have Ez := HE5.out.drew
       have Gz := HG5.out.drew
       have Fz : Fr (· = b) w wq.drew := HF5.out.drew
       have Hz : Fr (· = b) wr wq.drew := HH5.out.drew
       refine wp_region_panTo (fun c w' => afPost b R vp vs ve x0 x1 x2 x3 w O (.panicked c) w') (fun c a w' hd hz => ⟨hd, hz⟩) ?_
       refine beginL (S := (fun w' => w'.cell? ⟨b, 0, none⟩ = some (.string R.name) ∧ w'.cell? ⟨b, 1, none⟩ = some (.int .i64 R.width) ∧ w'.cell? ⟨b, 2, none⟩ = some (.int .i64 R.height) ∧ w'.cell? ⟨b, 3, none⟩ = some vp ∧ w'.cell? ⟨b, 4, none⟩ = some vs ∧ w'.cell? ⟨b, 5, none⟩ = some (.bool R.falls) ∧ w'.cell? ⟨b, 6, none⟩ = some (.bool R.keeps) ∧ w'.cell? ⟨b, 7, none⟩ = some ve ∧ w'.cell? ⟨b, 8, none⟩ = some (.int .i64 R.blocked) ∧ w'.cell? ⟨b, 9, none⟩ = some (.int .i64 R.quiet) ∧ w'.cell? ⟨b, 10, none⟩ = some (.int .i64 R.rept) ∧ w'.cell? ⟨bP, 0, none⟩ = some vc ∧ w'.cell? ⟨bP, 1, none⟩ = some v0 ∧ w'.cell? ⟨bP, 2, none⟩ = some v1 ∧ w'.cell? ⟨bP, 3, none⟩ = some (.int .i64 p.turn) ∧ w'.cell? ⟨bP, 4, none⟩ = some (.int .i64 p.quiet) ∧ w'.cell? ⟨g2, 0, none⟩ = some (.int .i64 y.1.src) ∧ w'.cell? ⟨g2, 1, none⟩ = some (.int .i64 y.1.dst) ∧ w'.cell? ⟨g2, 2, none⟩ = some (.int .i64 y.1.piece))) (L := []) (by kernel_rfl) (by and_intros <;> first | exact Dz.cell _ rfl | exact Ez.cell _ rfl | exact Gz.cell _ rfl) (fun hHeld => ?_)
       refine tkW 0 ?_
       refine tkW 1 ?_
       refine tkW 2 ?_
       refine tkL 6 ?_
       refine tkW 7 ?_
       refine tkW 3 ?_
       refine tkW 8 ?_
       refine tkW 4 ?_
       refine tkW 9 ?_
       refine tkL 5 ?_
       refine tkL 10 ?_
       refine cnL 11 fun K hK => ?_
       go_simp
       refine (Make_any R vp vs ve p vc v0 v1 y.1 _ (HP.out _ Fz) HK.out (fits_of HK.out HY.out.2.2.1)).mono ?_
       rintro e w11 ⟨yc, y0, y1, rfl, ho11, hbb⟩
       have D11 := Dz.stays hbb
       have E11 := Ez.stays hbb
       have G11 := Gz.stays hbb
       have F11 := Fz.trans (Fr.of_new (S := (· = b)) hbb) (Shr.refl _ _)
       have q11 := hbb.size
       have H11 := Hz.trans (Fr.of_new (S := (· = b)) hbb) (Shr.refl _ _)
       unfold posV
       clear hbb
       refine hK.out _ _ (by and_intros <;> first | exact D11.cell _ rfl | exact E11.cell _ rfl | exact G11.cell _ rfl) (fun hHeld => ?_)
       clear hK K
       refine cnL 12 fun K hK => ?_
       go_simp
       have hpz : Held (· = b) w11 fun w' => RdP w' (makeZ R p y.1) yc y0 y1 := (ownP_held ho11 (fun k h1 _ h3 => by have h4 := Dz.lt; omega)).imp fun _ h => h.rd
       have hia := IHh.out g (by omega) (bs y.2.2) (makeZ R p y.1) yc y0 y1 w11 D11 (by rw [bs_size]; omega) (HH.out.step F11) hpz (make_ok HK.out HY.out.2.2.1) (by rw [bt_bs]; omega)
       obtain ⟨O2, hO2⟩ : ∃ O2, O2 = rAfter R g (makeZ R p y.1) y.2.2 := ⟨_, rfl⟩
       rw [bt_bs] at hia
       rw [← hO2] at hia
       unfold afPost at hia
       refine hia.mono ?_
       clear hia hpz ho11
       rcases O2 with n | k
       ·rintro e w12 ⟨hf12, rfl⟩
        refine ⟨rfl, ?_⟩
        unfold afPost
        rw [HO1.out, (HV1.out.2 y HMY.out).1 n hO2.symm]
        exact ⟨F11.trans hf12 (Shr.refl _ _), rfl⟩
       rintro e w12 ⟨hf12, v12, u2, rfl, ho12, hbr12, D12⟩
       obtain ⟨ka, kc, rfl⟩ := own_form2 ho12
       have hneb : ¬ g2 = b := by omega
       have hnbp : ¬ bP = b := by omega
       have E12 := E11.held hf12 hnbp
       have G12 := G11.held hf12 hneb
       have F12 := F11.trans hf12 (Shr.refl _ _)
       have H12 := H11.trans hf12 (Shr.refl _ _)
       have q12 := hf12.size
       refine hK.out _ _ (by and_intros <;> first | exact D12.cell _ rfl | exact E12.cell _ rfl | exact G12.cell _ rfl) (fun hHeld => ?_)
       clear hK K
       refine tkW 13 ?_
       refine tkW 14 ?_
       refine cnL 15 fun K hK => ?_
       have dd := G12.cell 4 rfl
       have df := G12.frozen 4
       go_simp
       refine K_world ?_
       intro w15 e15
       clear dd df
       have hnbp : bP ≠ g2 := by omega
       have hbg : b ≠ g2 := by omega
       have D15 : Box w15 b (rdC R vp vs ve (bs k.2) x0 x1 x2 x3) RdT := by rw [e15]; exact D12.far ⟨g2, 4, none⟩ _ hbg
       have E15 : Box w15 bP [vc, v0, v1, .int .i64 p.turn, .int .i64 p.quiet] 66 := by rw [e15]; exact E12.far ⟨g2, 4, none⟩ _ hnbp
       have G15 : Box w15 g2 [.int .i64 y.1.src, .int .i64 y.1.dst, .int .i64 y.1.piece, .string (bs y.2.1), .slice ka u2.length kc] rBr := by rw [e15]; exact G12.set 4 _
       have Q15 : ∀ j, j < w12.heap.size → j ≠ g2 → w15.heap[j]? = w12.heap[j]? := fun j _ h2 => by rw [e15]; exact Below.heap_setCell w12 _ _ j h2
       have F15 : Fr (· = b) w w15 := by rw [e15]; exact F12.setNew (by show w.heap.size ≤ g2; omega) _
       have z15 : w15.heap.size = w12.heap.size := by rw [e15]; simp
       clear e15
       refine hK.out _ _ (by and_intros <;> first | exact D15.cell _ rfl | exact E15.cell _ rfl | exact G15.cell _ rfl) (fun hHeld => ?_)
       clear hK K
       refine dnL ?_
       refine PanTo.normal ?_
       clear hHeld
       have hk2 : k.2.length ≤ y.2.2.length := (rest_le R g).1 _ _ _ (make_ok HK.out HY.out.2.2.1) hO2.symm
       have hkl : k.2.length ≤ 100000 := by omega
       have HST := Lib.hid (HV1.out.2 y HMY.out)
       have HST2 := Lib.hid (HST.out.2 k hO2.symm)
       have HD15 := Lib.hid D15
       have HE15 := Lib.hid E15
       have HG15 := Lib.hid G15
       have HF15 := Lib.hid F15
       have hbB : b < w3.heap.size := by omega
       have hm15 : ∀ j, j < wr.heap.size → j ≠ b → w15.heap[j]? = wr.heap[j]? := fun j h1 h2 => (Q15 j (by have := H12.size; omega) (by omega)).trans (H12.block j h1 h2)
       have hr15 : wr.heap.size ≤ w15.heap.size := by have := H12.size; omega
       have HL15 := Lib.hid (HL.out.move (w' := w15) (fun j h1 h2 => hm15 j h2 (by omega)))
       have hgF15 : Box w15 gF [.int .i64 x.1.src, .int .i64 x.1.dst, .int .i64 x.1.piece, .string (bs x.2.1), .slice none 0 0] rBr := (hm15 gF (by omega) (by omega)).trans HGr.out
       have HGF15 := Lib.hid hgF15
       have g2l : g2 < w11.heap.size := G11.lt
       have HOK := Lib.hid (own_of_block (w' := w15) ho12 (fun j hj => Q15 j (ho12.lt j hj).2 (by have := (ho12.lt j hj).1; omega)))
       have HBK := Lib.hid (brs_move (q' := fun j => wr.heap.size ≤ j) (w' := w15) (fun j h1 h2 _ => ⟨Q15 j h2 (by omega), by omega⟩) _ _ hbr12)
       have h11 : wr.heap.size ≤ w11.heap.size := H11.size
       clear D15 E15 G15 F15 hm15 hgF15 Q15 ho12 hbr12 hO2 H11 H12 F12 F11 D11 D12 E11 E12 G11 G12 hf12 Dz Ez Gz Fz Hz q11 q12
       obtain ⟨u5, hu5⟩ : ∃ u5, u5 = (got 41 k.2).2 := ⟨_, rfl⟩
       have hu5l : u5.length ≤ k.2.length := by rw [hu5]; exact got_le 41 k.2
       have hgq := HG.out k.2 41 w15 hkl HD15.out
       rw [← hu5] at hgq HST2
       have HU5 := Lib.hid hu5
       cases hg5 : (got 41 k.2).1 with
       | false =>
        rw [hg5] at hgq HST2
        clear hg5 hu5
        go_wp2_with (first | (refine hgq.mono ?_; rintro e w6 ⟨rfl, D6, hf6⟩) | (go_at_call 75; refine (fail_any b 5 _).mono ?_; rintro e w7 ⟨rfl, rfl⟩))
        refine ⟨rfl, ?_⟩
        unfold afPost
        rw [HO1.out, HST2.out.1 (by simp)]
        exact ⟨HF15.out.trans hf6 (Shr.refl _ _), rfl⟩
       | true =>
        rw [hg5] at hgq HST2
        clear hg5 hu5
        go_wp2_with (first | (refine hgq.mono ?_; rintro e w6 ⟨rfl, D6, hf6⟩; have HD6 := Lib.hid D6; have HE6 := Lib.hid (HE15.out.held hf6 (show ¬ bP = b by omega)); have HG6 := Lib.hid (HG15.out.held hf6 (show ¬ g2 = b by omega)); have HGF6 := Lib.hid (HGF15.out.held hf6 (show ¬ gF = b by omega)); have HF6 := Lib.hid (HF15.out.trans hf6 (Shr.refl _ _)); have HL6 := Lib.hid (HL15.out.move (w' := w6) (fun j h1 h2 => hf6.block j h2 (show ¬ j = b by omega))); have HOK6 := Lib.hid (own_of_block (w' := w6) HOK.out (fun j hj => hf6.block j (HOK.out.lt j hj).2 (show ¬ j = b by have := (HOK.out.lt j hj).1; omega))); have HBK6 := Lib.hid (brs_move (q' := fun j => wr.heap.size ≤ j) (w' := w6) (fun j h1 h2 h3 => ⟨hf6.block j h2 (show ¬ j = b by omega), h3⟩) _ _ HBK.out); have s6 := hf6.size; clear D6 hf6) | (at_builtin; refine app_at 113 140 (.pointer none) 1 8 infoRb Tryz.underlying113 rfl (by decide) (by rfl) _ _ (by rfl) w3.heap.size _ (us.length + 1) (.pointer (some ⟨gF, 0, none⟩) :: us) [.pointer (some ⟨g2, 0, none⟩)] w6 HL6.out.row (by omega) rfl one_pt (by omega) (by omega) (by rfl) (by rfl) ?_))
        intro g6 cap6 w7 hown6 hat6 hgr6
        have hra : ∀ j, (Value.slice oa (us.length + 1) oc).ownBlock = some j → w3.heap.size ≤ j ∧ j < wr.heap.size := fun j hj => HL.out.row.lt j hj
        have hna : ∀ j, j < w3.heap.size → some j ≠ (Value.slice oa (us.length + 1) oc).ownBlock := fun j hj e => by have := hra j e.symm; omega
        have hnb : ∀ j, wr.heap.size ≤ j → some j ≠ (Value.slice oa (us.length + 1) oc).ownBlock := fun j hj e => by have := hra j e.symm; omega
        have hbr := brAt_new (B := w3.heap.size) (ov := .slice oa (us.length + 1) oc) (m := y.1) (c := bs y.2.1) (ks := k.1) (by omega) HG6.out (by rw [bs_size]; unfold maxLen; omega) (own_base HOK6.out (by omega)) (brs_move (q' := fun _ => True) (fun j _ _ _ => ⟨rfl, trivial⟩) _ _ (brs_base (by omega) _ _ HBK6.out)) wr.heap.size hg2r (fun j hj => (hra j hj).2) (fun j hj => by have := (HOK6.out.lt j hj).1; omega) (brs_base (by omega) _ _ HBK6.out)
        have HL7 := Lib.hid (HL6.out.app hbr hgr6 hat6 hown6)
        have HD7 := Lib.hid ((HD6.out.alloc (.cells #[.pointer (some ⟨g2, 0, none⟩)] 140)).grown hgr6 (hna b (by omega)))
        have HE7 := Lib.hid ((HE6.out.alloc (.cells #[.pointer (some ⟨g2, 0, none⟩)] 140)).grown hgr6 (hna bP (by omega)))
        have HGF7 := Lib.hid ((HGF6.out.alloc (.cells #[.pointer (some ⟨g2, 0, none⟩)] 140)).grown hgr6 (hna gF (by omega)))
        have HF7 := Lib.hid ((HF6.out.alloc (.cells #[.pointer (some ⟨g2, 0, none⟩)] 140)).grown hgr6 (fun j hj hl => by have := hra j hj; omega))
        have s7 : w3.heap.size ≤ w7.heap.size := by have := hgr6.size; simp at this; omega
        have HV7 := Lib.hid (HST2.out.2 (by simp))
        clear hbr hown6 hat6 hgr6 hra hna hnb HL6 HD6 HE6 HG6 HGF6 HF6 HOK6 HBK6 HST2 HST
        go_wp2_with fail
        go_roundg g
        case measure => omega
        case rel => exact ⟨u5, dn ++ [.mk y.1 (bs y.2.1) k.1], us ++ [.pointer (some ⟨g2, 0, none⟩)], _, rfl, by omega, by omega, by simp; omega, s7, HV7, HL7, HD7, HE7, HGF7, HF7⟩
     | false =>
      have hve := vars_end HV.out hg1
      rw [← hu] at hve
      have HVE := Lib.hid hve
      rw [hg1, ← hu] at hgt
      clear hve hu hg1
      go_wp2_with (refine hgt.mono ?_; rintro e w4 ⟨rfl, D4, hf4⟩; have HD4 := Lib.hid D4; have HE4 := Lib.hid (HEr.out.held hf4 (show ¬ bP = b by omega)); have HF4 := Lib.hid (HFr.out.trans hf4 (Shr.refl _ _)))
      have HH4 := Lib.hid hf4
      have HGF4 := Lib.hid (HGr.out.held hf4 (show ¬ gF = b by omega))
      have HY := HY0
      clear D4 hf4 hgt
      obtain ⟨wq, rfl⟩ : ∃ wq : World, wq = w4 := ⟨_, rfl⟩
      have Dz := HD4.out.drew
      have Ez := HE4.out.drew
      have Gz := HGF4.out.drew
      have Fz : Fr (· = b) w wq.drew := HF4.out.drew
      have Hz : Fr (· = b) wr wq.drew := HH4.out.drew
      refine wp_region_panTo (fun c w' => afPost b R vp vs ve x0 x1 x2 x3 w O (.panicked c) w') (fun c a w' hd hz => ⟨hd, hz⟩) ?_
      refine beginL (S := (fun w' => w'.cell? ⟨b, 0, none⟩ = some (.string R.name) ∧ w'.cell? ⟨b, 1, none⟩ = some (.int .i64 R.width) ∧ w'.cell? ⟨b, 2, none⟩ = some (.int .i64 R.height) ∧ w'.cell? ⟨b, 3, none⟩ = some vp ∧ w'.cell? ⟨b, 4, none⟩ = some vs ∧ w'.cell? ⟨b, 5, none⟩ = some (.bool R.falls) ∧ w'.cell? ⟨b, 6, none⟩ = some (.bool R.keeps) ∧ w'.cell? ⟨b, 7, none⟩ = some ve ∧ w'.cell? ⟨b, 8, none⟩ = some (.int .i64 R.blocked) ∧ w'.cell? ⟨b, 9, none⟩ = some (.int .i64 R.quiet) ∧ w'.cell? ⟨b, 10, none⟩ = some (.int .i64 R.rept) ∧ w'.cell? ⟨bP, 0, none⟩ = some vc ∧ w'.cell? ⟨bP, 1, none⟩ = some v0 ∧ w'.cell? ⟨bP, 2, none⟩ = some v1 ∧ w'.cell? ⟨bP, 3, none⟩ = some (.int .i64 p.turn) ∧ w'.cell? ⟨bP, 4, none⟩ = some (.int .i64 p.quiet) ∧ w'.cell? ⟨gF, 0, none⟩ = some (.int .i64 x.1.src) ∧ w'.cell? ⟨gF, 1, none⟩ = some (.int .i64 x.1.dst) ∧ w'.cell? ⟨gF, 2, none⟩ = some (.int .i64 x.1.piece))) (L := []) (by kernel_rfl) (by and_intros <;> first | exact Dz.cell _ rfl | exact Ez.cell _ rfl | exact Gz.cell _ rfl) (fun hHeld => ?_)
      refine tkW 0 ?_
      refine tkW 1 ?_
      refine tkW 2 ?_
      refine tkL 6 ?_
      refine tkW 7 ?_
      refine tkW 3 ?_
      refine tkW 8 ?_
      refine tkW 4 ?_
      refine tkW 9 ?_
      refine tkL 5 ?_
      refine tkL 10 ?_
      refine cnL 11 fun K hK => ?_
      go_simp
      refine (Make_any R vp vs ve p vc v0 v1 x.1 _ (HP.out _ Fz) HK.out (fits_of HK.out HY.out.2.2.1)).mono ?_
      rintro e w11 ⟨yc, y0, y1, rfl, ho11, hbb⟩
      have D11 := Dz.stays hbb
      have E11 := Ez.stays hbb
      have G11 := Gz.stays hbb
      have F11 := Fz.trans (Fr.of_new (S := (· = b)) hbb) (Shr.refl _ _)
      have q11 := hbb.size
      have H11 := Hz.trans (Fr.of_new (S := (· = b)) hbb) (Shr.refl _ _)
      unfold posV
      clear hbb
      refine hK.out _ _ (by and_intros <;> first | exact D11.cell _ rfl | exact E11.cell _ rfl | exact G11.cell _ rfl) (fun hHeld => ?_)
      clear hK K
      refine cnL 12 fun K hK => ?_
      go_simp
      have hpz : Held (· = b) w11 fun w' => RdP w' (makeZ R p x.1) yc y0 y1 := (ownP_held ho11 (fun k h1 _ h3 => by have h4 := Dz.lt; omega)).imp fun _ h => h.rd
      have hia := IHh.out f (by omega) (bs u) (makeZ R p x.1) yc y0 y1 w11 D11 (by rw [bs_size]; omega) (HH.out.step F11) hpz (make_ok HK.out HY.out.2.2.1) (by rw [bt_bs]; omega)
      obtain ⟨O2, hO2⟩ : ∃ O2, O2 = rAfter R f (makeZ R p x.1) u := ⟨_, rfl⟩
      rw [bt_bs] at hia
      rw [← hO2] at hia
      unfold afPost at hia
      refine hia.mono ?_
      clear hia hpz ho11
      rcases O2 with n | k
      ·rintro e w12 ⟨hf12, rfl⟩
       refine ⟨rfl, ?_⟩
       unfold afPost
       rw [HO1.out, HVE.out]
       dsimp only
       rw [← hO2]
       exact ⟨F11.trans hf12 (Shr.refl _ _), rfl⟩
      rintro e w12 ⟨hf12, v12, u2, rfl, ho12, hbr12, D12⟩
      obtain ⟨ka, kc, rfl⟩ := own_form2 ho12
      have hneb : ¬ gF = b := by omega
      have hnbp : ¬ bP = b := by omega
      have E12 := E11.held hf12 hnbp
      have G12 := G11.held hf12 hneb
      have F12 := F11.trans hf12 (Shr.refl _ _)
      have H12 := H11.trans hf12 (Shr.refl _ _)
      have q12 := hf12.size
      refine hK.out _ _ (by and_intros <;> first | exact D12.cell _ rfl | exact E12.cell _ rfl | exact G12.cell _ rfl) (fun hHeld => ?_)
      clear hK K
      refine tkW 13 ?_
      refine tkW 14 ?_
      refine cnL 15 fun K hK => ?_
      have dd := G12.cell 4 rfl
      have df := G12.frozen 4
      go_simp
      refine K_world ?_
      intro w15 e15
      clear dd df
      have hnbp : bP ≠ gF := by omega
      have hbg : b ≠ gF := by omega
      have D15 : Box w15 b (rdC R vp vs ve (bs k.2) x0 x1 x2 x3) RdT := by rw [e15]; exact D12.far ⟨gF, 4, none⟩ _ hbg
      have E15 : Box w15 bP [vc, v0, v1, .int .i64 p.turn, .int .i64 p.quiet] 66 := by rw [e15]; exact E12.far ⟨gF, 4, none⟩ _ hnbp
      have G15 : Box w15 gF [.int .i64 x.1.src, .int .i64 x.1.dst, .int .i64 x.1.piece, .string (bs x.2.1), .slice ka u2.length kc] rBr := by rw [e15]; exact G12.set 4 _
      have Q15 : ∀ j, j < w12.heap.size → j ≠ gF → w15.heap[j]? = w12.heap[j]? := fun j _ h2 => by rw [e15]; exact Below.heap_setCell w12 _ _ j h2
      have F15 : Fr (· = b) w w15 := by rw [e15]; exact F12.setNew (by show w.heap.size ≤ gF; omega) _
      have z15 : w15.heap.size = w12.heap.size := by rw [e15]; simp
      clear e15
      refine hK.out _ _ (by and_intros <;> first | exact D15.cell _ rfl | exact E15.cell _ rfl | exact G15.cell _ rfl) (fun hHeld => ?_)
      clear hK K
      refine dnL ?_
      refine PanTo.normal ?_
      clear hHeld
      have HD15 := Lib.hid D15
      have HG15 := Lib.hid G15
      have HF15 := Lib.hid F15
      have hm15 : ∀ j, w3.heap.size ≤ j → j < wr.heap.size → w15.heap[j]? = wr.heap[j]? := fun j h0 h1 => (Q15 j (by have := H12.size; omega) (by omega)).trans (H12.block j h1 (show ¬ j = b by omega))
      have HL15 := Lib.hid (HL.out.move (w' := w15) hm15)
      have h11 : wr.heap.size ≤ w11.heap.size := H11.size
      have gFl : gF < w11.heap.size := G11.lt
      have HOK := Lib.hid (own_of_block (w' := w15) ho12 (fun j hj => Q15 j (ho12.lt j hj).2 (by have := (ho12.lt j hj).1; omega)))
      have HBK := Lib.hid (brs_move (q' := fun _ => True) (w' := w15) (fun j h1 h2 _ => ⟨Q15 j h2 (by omega), trivial⟩) _ _ hbr12)
      have HOL := Lib.hid hO2
      have hcl : (bs x.2.1).size ≤ maxLen := by have := HY.out.2.1; rw [bs_size]; unfold maxLen; omega
      clear D15 E15 G15 F15 hm15 Q15 ho12 hbr12 hO2 H11 H12 F12 F11 D11 D12 E11 E12 G11 G12 hf12 Dz Ez Gz Fz Hz q11 q12
      go_wp2_with fail
      go_ret
      unfold afPost
      rw [HO1.out, HVE.out]
      dsimp only
      rw [← HOL.out]
      refine ⟨HF15.out, _, .pointer (some ⟨gF, 0, none⟩) :: us, rfl, own_base HL15.out.row (by omega), ?_, HD15.out⟩
      show BrsAt _ _ _ _ _ (.mk x.1 (bs x.2.1) k.1 :: dn) _
      rw [BrsAt]
      refine ⟨_, _, rfl, ?_, brs_base (by omega) _ _ (brs_move (q' := fun _ => True) (fun j _ _ _ => ⟨rfl, trivial⟩) _ _ HL15.out.brs)⟩
      rw [BrAt]
      exact ⟨gF, _, u2, rfl, hwF, HG15.out, hcl, own_base HOK.out (by omega), ⟨trivial, fun _ _ => trivial⟩, brs_base (by omega) _ _ HBK.out⟩
theorem after_any (HS : SortMvSaid) (HT : TrimSaid) (HA : AnySaid) (HC : CutSaid) (HCl : CloneSaid) (b f : Nat) : AftAt b R vp vs ve x0 x1 x2 x3 f := by
 induction f using Nat.strongRecOn with
 | ind f ih =>
  cases f with
  | zero => intro s p vc v0 v1 w _ _ _ _ _ hlen; omega
  | succ f => exact after_step HS HT HA HC HCl b f (fun g hg => ih g (by omega))
end Go.Proofs.YthklhndcdijneaaGreatDoor
namespace Go.Proofs.YthklhndcdijneaaGreatDoor
open Go.ChangeShapes Go.WideShapes Go.ChangeAt Go.RowKit
set_option linter.unusedVariables false
abbrev tNd : TypeId := 46
theorem infoNd : (Tryz.prog.info? 46).map (fun i => (i.zero, i.size, i.bytes)) = some (some (.agg #[.int .i64 0, .int .i64 0, .int .i64 0, .int .i64 0, .string ⟨#[]⟩]), 5, 48) := by kernel_rfl
def ndV (x : NodeZ) : List Value := [.int .i64 x.parent, .int .i64 x.m.src, .int .i64 x.m.dst, .int .i64 x.m.piece, .string x.comment]
def flatN (l : List NodeZ) : List Value := l.flatMap ndV
theorem flatN_snoc (l : List NodeZ) (x : NodeZ) : flatN l ++ ndV x = flatN (l ++ [x]) := by simp [flatN]
theorem flatN_at : ∀ (l : List NodeZ) (i : Nat) (h : i < l.length), ((flatN l).drop (i * 5)).take 5 = ndV l[i]
 | m :: t, 0, _ => rfl
 | m :: t, i + 1, h => by
  have e : flatN (m :: t) = ndV m ++ flatN t := rfl
  rw [e, show (i + 1) * 5 = i * 5 + 5 by omega, List.drop_append]
  rw [List.drop_of_length_le (by simp [ndV])]
  exact flatN_at t i (by simpa using h)
theorem rdN_of_own {w : World} {b : Nat} {v : Value} {xs : List NodeZ} (h : w.ownsRow b tNd 5 v xs.length (flatN xs)) (hs : ∀ x ∈ xs, x.comment.size ≤ maxLen) : RdL nodeEl w v xs := by
 refine RdL.of_own (el := nodeEl) h fun i hi => ?_
 show ((flatN xs).drop (i * 5)).take 5 = _ ∧ _
 exact ⟨flatN_at xs i hi, hs _ (List.getElem_mem hi)⟩
def cnt (ks : List BrZ) : Nat := (waysL [] ks).length
theorem cnt_pre (ks : List BrZ) (pre : List MoveZ) : (waysL pre ks).length = cnt ks := by
 have h1 := flatT_len ks pre (-1) []
 have h2 := flatT_len ks [] (-1) []
 unfold cnt; omega
theorem flat_cnt (ks : List BrZ) (p : Int) (out : List NodeZ) : (flatL ks p out).length = out.length + cnt ks := flatT_len ks [] p out
theorem cnt_app (a b : List BrZ) : cnt (a ++ b) = cnt a + cnt b := by unfold cnt; rw [waysL_app, List.length_append]
theorem cnt_one (m : MoveZ) (c : ByteArray) (kk : List BrZ) : cnt [.mk m c kk] = cnt kk + 1 := by
 unfold cnt
 rw [waysL, waysL, List.append_nil, waysB_eq, List.length_cons, cnt_pre]; rfl
theorem cnt_take {ks : List BrZ} {i : Nat} (h : i < ks.length) : cnt (ks.take (i + 1)) = cnt (ks.take i) + cnt [ks[i]] := by
 rw [List.take_add_one, List.getElem?_eq_getElem h, cnt_app]; rfl
theorem cnt_le (ks : List BrZ) (i : Nat) : cnt (ks.take i) ≤ cnt ks := by
 have h := cnt_app (ks.take i) (ks.drop i)
 rw [List.take_append_drop] at h
 omega
theorem cnt_len : ∀ ks : List BrZ, ks.length ≤ cnt ks
 | [] => Nat.zero_le _
 | .mk m c kk :: l => by
  have h := cnt_app [.mk m c kk] l
  rw [cnt_one] at h
  have := cnt_len l
  rw [List.singleton_append] at h
  rw [h, List.length_cons]; omega
theorem flatL_two : ∀ (a b : List BrZ) (p : Int) (out : List NodeZ), flatL (a ++ b) p out = flatL b p (flatL a p out)
 | [], b, p, out => by rw [List.nil_append]; conv => rhs; rw [show flatL [] p out = out by rw [flatL]]
 | x :: a, b, p, out => by rw [List.cons_append, flatL, flatL, flatL_two a b p _]
theorem flat_take {ks : List BrZ} {i : Nat} {m : MoveZ} {c : ByteArray} {kk : List BrZ} (h : ks[i]? = some (.mk m c kk)) (p : Int) (out : List NodeZ) :
  flatL (ks.take (i + 1)) p out = flatL kk ((flatL (ks.take i) p out).length : Int) (flatL (ks.take i) p out ++ [⟨p, m, c⟩]) := by
 rw [List.take_add_one, h, flatL_two]
 show flatL [.mk m c kk] p _ = _
 rw [flatL, flatL, flatB]
theorem brs_cells {q : Nat → Prop} {tb te : TypeId} {base : Nat} {w : World} {l : List BrZ} {vs : List Value} (h : BrsAt q tb te base w l vs) {i : Nat} {x : BrZ} (hi : l[i]? = some x) : ∃ v, vs[i]? = some v ∧ BrAt q tb te base w x v := by
 obtain ⟨h1, h2⟩ := List.getElem?_eq_some_iff.1 hi
 have hl := brs_len l vs h
 refine ⟨vs[i]'(by omega), List.getElem?_eq_getElem (by omega), ?_⟩
 have := brs_get l vs h i h1 (by omega)
 rw [h2] at this; exact this
end Go.Proofs.YthklhndcdijneaaGreatDoor
namespace Go.Proofs.YthklhndcdijneaaGreatDoor
open Go.ChangeShapes Go.WideShapes Go.ChangeAt Go.RowKit
set_option linter.unusedVariables false
/-- between the rounds of flat: the nodes so far. -/
structure FlR (b : Nat) (R : RulesZ) (vp vs ve : Value) (s : ByteArray) (x0 x1 x3 : Value) (w00 w : World) (ov : Value) (out : List NodeZ) : Prop where
 old : Fr (· = b) w00 w
 hO : Box w b (rdC R vp vs ve s x0 x1 ov x3) RdT
 row : w.ownsRow w00.heap.size tNd 5 ov out.length (flatN out)
set_option maxRecDepth 100000
set_option maxHeartbeats 8000000
variable {R : RulesZ} {vp vs ve x0 x1 x2 x3 : Value} {s : ByteArray}
theorem rflat_any (w00 : World) (b B : Nat) (hbB : b < B) (hbw : b < w00.heap.size) : ∀ (f : Nat) (ks : List BrZ) (lv : Value) (us : List Value) (p : Int) (out : List NodeZ) (ov : Value) (w : World), cnt ks < f → BrsAt (fun _ => True) rBr rPt B w00 ks us → w00.ownsRow B rPt 1 lv us.length us → out.length + cnt ks ≤ 100000 →
  FlR b R vp vs ve s x0 x1 x3 w00 w ov out → Calls Tryz.prog 57 #[.pointer (some ⟨b, 0, none⟩), lv, .int .i64 p] w fun e w' => e = .returned (.tuple #[]) ∧ ∃ ov', FlR b R vp vs ve s x0 x1 x3 w00 w' ov' (flatL ks p out) := by
 intro f
 induction f with
 | zero => intros; omega
 | succ f ih =>
  intro ks lv us p out ov w hf hks hlv hn hS
  have IH := Lib.hid ih
  have HKS := Lib.hid hks
  have HLV := Lib.hid hlv
  have hvl0 := brs_len ks us hks
  have hvl1 : us.length ≤ ks.length := by omega
  have hvl2 : ks.length ≤ us.length := by omega
  clear hvl0
  obtain ⟨la, lc, rfl⟩ := own_form2 hlv
  have hkl : ks.length ≤ 100000 := by have := cnt_len ks; omega
  have HS0 : Hid (FlR b R vp vs ve s x0 x1 x3 w00 w ov (flatL (ks.take 0) p out)) := Lib.hid (by rw [List.take_zero, flatL]; exact hS)
  clear ih hks hlv hS
  go_enter Tryz.func57, Tryz.ntmps57
  go_wp2_with fail
  go_loopw [11] (fun v11 wr => ∃ (i : Nat) (ovi : Value), v11 = .int .i64 i ∧ i ≤ us.length ∧ Hid (FlR b R vp vs ve s x0 x1 x3 w00 wr ovi (flatL (ks.take i) p out))) (fun v _ => us.length - (intOf v).toNat)
  case atStart => exact ⟨0, ov, rfl, Nat.zero_le _, HS0⟩
  case round =>
   obtain ⟨i, ovi, rfl, hi, HS⟩ := hrel
   by_cases hlt : (i : Int) < (us.length : Int)
   ·obtain ⟨x, hx⟩ : ∃ x, ks[i]? = some x := ⟨_, List.getElem?_eq_getElem (by omega)⟩
    obtain ⟨m, c, kk⟩ := x
    have HFT := Lib.hid (flat_take hx p out)
    have hcn : cnt (ks.take i) + (cnt kk + 1) ≤ cnt ks := by
     have h1 := cnt_take (ks := ks) (i := i) (by omega)
     have h2 := cnt_le ks (i + 1)
     have h3 : ks[i] = .mk m c kk := (List.getElem?_eq_some_iff.1 hx).2
     rw [h3, cnt_one] at h1
     omega
    have hol1 : (flatL (ks.take i) p out).length ≤ out.length + cnt (ks.take i) := Nat.le_of_eq (flat_cnt (ks.take i) p out)
    have hol : (flatL (ks.take i) p out).length ≤ 99999 := by omega
    have HOT := Lib.hid (flat_cnt (ks.take i) p out)
    generalize flatL (ks.take i) p out = ot at *
    obtain ⟨pv, hpv, hbr⟩ := brs_cells HKS.out hx
    rw [BrAt] at hbr
    obtain ⟨g, kv', vs', rfl, hbg, hbx, hcs, hrow, -, hkk⟩ := hbr
    obtain ⟨L, lc', hL⟩ := own_some HLV.out (by omega)
    obtain ⟨rfl, rfl⟩ : la = some ⟨L, 0, none⟩ ∧ lc = lc' := by simpa using hL
    clear hL
    have hLl := HLV.out.lt L rfl
    have s1 := HS.out.old.size
    have l0 : wr.cell? ⟨L, i, none⟩ = some (.pointer (some ⟨g, 0, none⟩)) := by
     rw [World.cell?_of_block (w := w00) (HS.out.old.block L hLl.2 (show ¬ L = b by omega)), HLV.out.cellAt i (by omega)]; exact hpv
    have hLr : L < wr.heap.size := by omega
    obtain ⟨oa, oc, rfl⟩ := own_form2 HS.out.row
    have o0 := HS.out.hO.cell 14 rfl
    have of0 := HS.out.hO.frozen 14
    have hOl := HS.out.hO.lt
    have hgr : Box wr g _ rBr := hbx.held HS.out.old (show ¬ g = b by omega)
    have g0 := hgr.cell 0 rfl
    have g1 := hgr.cell 1 rfl
    have g2 := hgr.cell 2 rfl
    have g3 := hgr.cell 3 rfl
    have hgl := hgr.lt
    obtain ⟨i0, hi0, hz0, hz1, hz2⟩ := info_parts infoNd
    have S1 : Hid (∀ u ∈ ([.int .i64 p, .int .i64 m.src, .int .i64 m.dst, .int .i64 m.piece, .string c] : List Value), u.oneCell' = true) := Lib.hid (fun u hu => by simp at hu; rcases hu with rfl | rfl | rfl | rfl | rfl <;> rfl)
    have hgw : g < w00.heap.size := hbx.lt
    have hgb : g ≠ b := by omega
    go_upto_region 4 with (fail)
    have BOz : Box wr.drew b (rdC R vp vs ve s x0 x1 (.slice oa ot.length oc) x3) RdT := HS.out.hO
    have BGz : Box wr.drew g [.int .i64 m.src, .int .i64 m.dst, .int .i64 m.piece, .string c, kv'] rBr := hgr
    have Lz : Fr (· = b) w00 wr.drew := HS.out.old.drew
    have Rz : wr.drew.ownsRow w00.heap.size 46 5 (.slice oa ot.length oc) ot.length (flatN ot) := HS.out.row
    clear o0 of0 hOl hgr g0 g1 g2 g3 hgl l0 hLr
    refine wp_region_noPanic ?_
    refine beginL (S := (fun w' => w'.cell? ⟨b, 14, none⟩ = some (.slice oa ot.length oc) ∧ w'.cell? ⟨g, 0, none⟩ = some (.int .i64 m.src) ∧ w'.cell? ⟨g, 1, none⟩ = some (.int .i64 m.dst) ∧ w'.cell? ⟨g, 2, none⟩ = some (.int .i64 m.piece) ∧ w'.cell? ⟨g, 3, none⟩ = some (.string c))) (L := [21]) (by kernel_rfl) (by and_intros <;> first | exact BOz.cell _ rfl | exact BGz.cell _ rfl) (fun hHeld => ?_)
    refine tkW 0 ?_
    refine tkW 1 ?_
    refine tkW 6 ?_
    refine tkW 7 ?_
    refine tkW 11 ?_
    refine tkW 2 ?_
    refine tkW 8 ?_
    refine tkW 12 ?_
    refine tkW 3 ?_
    refine tkW 9 ?_
    refine tkW 13 ?_
    refine tkW 4 ?_
    refine tkL 10 ?_
    refine tkL 14 ?_
    refine tkL 5 ?_
    refine tkW 15 ?_
    refine cnL 16 fun K hK => ?_
    go_simp
    refine K_world ?_
    intro w11 e11
    have BO11 : Box w11 b (rdC R vp vs ve s x0 x1 (.slice oa ot.length oc) x3) RdT := by rw [e11]; exact BOz.alloc _
    have BG11 : Box w11 g [.int .i64 m.src, .int .i64 m.dst, .int .i64 m.piece, .string c, kv'] rBr := by rw [e11]; exact BGz.alloc _
    have L11 : Fr (· = b) w00 w11 := by rw [e11]; exact Lz.alloc _
    have R11 : w11.ownsRow w00.heap.size 46 5 (.slice oa ot.length oc) ot.length (flatN ot) := by rw [e11]; exact Rz.alloc _
    have N11 : ∀ j u, ([.int .i64 p, .int .i64 m.src, .int .i64 m.dst, .int .i64 m.piece, .string c] : List Value)[j]? = some u → w11.cell? ((⟨wr.drew.heap.size, 0, none⟩ : Addr).add j) = some u := by rw [e11]; exact fun j u hj => new_cells wr.drew [.int .i64 p, .int .i64 m.src, .int .i64 m.dst, .int .i64 m.piece, .string c] 46 j u hj
    have Z11 : w00.heap.size ≤ w11.heap.size := L11.size
    clear e11
    refine hK.out _ _ (by and_intros <;> first | exact BO11.cell _ rfl | exact BG11.cell _ rfl) (fun hHeld => ?_)
    clear hK K
    refine cnL 17 fun K hK => ?_
    rw [if_pos (by rfl)]
    refine wp_append_lies _ _ _ 28 rfl w00.heap.size 46 i0 (.agg #[.int .i64 0, .int .i64 0, .int .i64 0, .int .i64 0, .string ⟨#[]⟩]) 5 48 Tryz.underlying28 hi0 hz0 hz1 hz2 rfl (by decide) (.slice oa ot.length oc) ot.length (flatN ot) rfl R11 ⟨wr.drew.heap.size, 0, none⟩ 1 1 [.int .i64 p, .int .i64 m.src, .int .i64 m.dst, .int .i64 m.piece, .string c] rfl rfl N11 S1.out (by decide) (by unfold maxLen; omega) (by omega) Z11 w11.heap.size rfl ?_
    intro g12 c12 w12 ho12 hg12 hq12 hl12
    have fr : ∀ k, k < w00.heap.size → some k ≠ (Value.slice oa ot.length oc).ownBlock := fun k hk e => by have := (R11.lt k e.symm).1; omega
    have BO12 := BO11.grown hg12 (fr b hbw)
    have BG12 := BG11.grown hg12 (fr g hgw)
    have L12 : Fr (· = b) w00 w12 := L11.grown hg12 (fun k hk hl => by have := (R11.lt k hk).1; omega)
    clear hg12 hq12 hl12 fr
    refine hK.out _ _ (by and_intros <;> first | exact BO12.cell _ rfl | exact BG12.cell _ rfl) (fun hHeld => ?_)
    clear hK K
    refine tkW 18 ?_
    refine tkW 19 ?_
    refine tkW 20 ?_
    refine ltL 21 fun K hK => ?_
    have d1 := BO12.cell 14 rfl
    have d1f := BO12.frozen 14
    go_simp
    refine K_world ?_
    intro w13 e13
    have BO13 : Box w13 b (rdC R vp vs ve s x0 x1 (.slice (some ⟨g12, 0, none⟩) (ot.length + 1) c12) x3) RdT := by rw [e13]; exact BO12.set 14 _
    have BG13 : Box w13 g [.int .i64 m.src, .int .i64 m.dst, .int .i64 m.piece, .string c, kv'] rBr := by rw [e13]; exact BG12.far _ _ (by show g ≠ b; omega)
    have L13 : Fr (· = b) w00 w13 := by rw [e13]; exact L12.setCell rfl _
    have R13 : w13.ownsRow w00.heap.size 46 5 (.slice (some ⟨g12, 0, none⟩) (ot.length + 1) c12) (ot.length + 1) (flatN ot ++ [.int .i64 p, .int .i64 m.src, .int .i64 m.dst, .int .i64 m.piece, .string c]) := by rw [e13]; exact ownsRow_setCell_below ho12 (by show b < w00.heap.size; exact hbw) _
    clear e13 d1 d1f
    refine hK.out _ _ ?_
    clear hK K
    refine dnN ?_
    have HS5 : Hid (FlR b R vp vs ve s x0 x1 x3 w00 w13 (.slice (some ⟨g12, 0, none⟩) (ot.length + 1) c12) (ot ++ [⟨p, m, c⟩])) := Lib.hid ⟨L13, BO13, by rw [List.length_append, ← flatN_snoc]; exact R13⟩
    have g4 := BG13.cell 4 rfl
    clear BOz BGz Lz Rz BO11 BG11 L11 R11 N11 Z11 BO12 BG12 L12 ho12 BO13 BG13 L13 R13 hHeld S1 HS
    generalize (Value.slice (some ⟨g12, 0, none⟩) (ot.length + 1) c12) = ov13 at *
    go_wp2_with (refine (IH.out kk kv' vs' (ot.length : Int) (ot ++ [⟨p, m, c⟩]) _ _ (by omega) hkk hrow (by rw [List.length_append]; simp only [List.length_cons, List.length_nil]; omega) HS5.out).mono ?_; rintro e w6 ⟨rfl, ov6, hs6⟩; have HS6 := Lib.hid hs6; clear hs6)
    go_roundw
    case rel => exact ⟨i + 1, ov6, by go_num, by omega, Lib.hid (by rw [HFT.out]; exact HS6.out)⟩
    case measure => simp [intOf]; omega
   ·obtain rfl : i = us.length := by omega
    have HS9 : Hid (FlR b R vp vs ve s x0 x1 x3 w00 wr ovi (flatL ks p out)) := Lib.hid (by have h := HS.out; rw [List.take_of_length_le (by omega)] at h; exact h)
    go_wp2_with fail
    refine bodyPost_end (v := .tuple #[]) (by simp [results, Tryz.results57, go_sem]) rfl ?_
    exact ⟨rfl, _, HS9.out⟩
end Go.Proofs.YthklhndcdijneaaGreatDoor

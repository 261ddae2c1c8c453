/- RdB, RdC, AnM, RecC. -/
import Derived.Test.YthklhndcdijneaaGreatDoorC24
import Derived.Test.YthklhndcdijneaaGreatDoorC05
import Derived.Test.YthklhndcdijneaaGreatDoorC04
import Derived.Test.YthklhndcdijneaaGreatDoorC14
import Derived.Test.YthklhndcdijneaaGreatDoorC22
import Derived.Test.YthklhndcdijneaaGreatDoorC16
import Derived.Test.YthklhndcdijneaaGreatDoorC09
import Derived.BigQuiet
import Derived.Deep.Cut
import Derived.Deep.CutRange
import Derived.Deep.QuietTactic
import Derived.Test.YthklhndcdijneaaGreatDoorC20
import Derived.Test.YthklhndcdijneaaGreatDoorC19
import Derived.Test.YthklhndcdijneaaGreatDoorC01
import Derived.Test.YthklhndcdijneaaGreatDoorC03
namespace Go.Proofs.YthklhndcdijneaaGreatDoor
open Go.ChangeShapes Go.WideShapes Go.ChangeAt Go.RowKit
set_option linter.unusedVariables false
/-- a region some of whose calls may panic: what is said of the panic hangs on no slot. -/
def PanTo (Q : Exit → Act → World → Prop) (Z : List PanicEntry → World → Prop) : Exit → Act → World → Prop
 | .panic c, a, w => a.defers = [] ∧ Z c w
 | e, a, w => Q e a w
theorem PanTo.normal {Q : Exit → Act → World → Prop} {Z : List PanicEntry → World → Prop} {a : Act} {w : World} (h : Q .normal a w) : PanTo Q Z .normal a w := h
theorem wp_region_panTo {P : Program} {id : Nat} {ops : Array Oper} {b : Bool} {Q : Exit → Act → World → Prop} {a : Act} {w : World} (Z : List PanicEntry → World → Prop) (hZ : ∀ c a w, a.defers = [] → Z c w → Q (.panic c) a w)
  (h : (Code.region id ops b).wp P (PanTo Q Z) a w) : (Code.region id ops b).wp P Q a w :=
 Code.wp_mono (fun e a w h => by cases e <;> first | exact h | exact hZ _ _ _ h.1 h.2) h
theorem wp_worldR {P : Program} {c : Code} {Q : Exit → Act → World → Prop} {a : Act} {w : World} (h : ∀ w', w' = w → c.wp P Q a w') : c.wp P Q a w := h w rfl
structure RdH (b : Nat) (R : RulesZ) (vp vs ve : Value) (w : World) : Prop where
 rd : Held (· = b) w fun w' => RdR w' R vp vs ve
 nm : R.name.size ≤ maxLen
 re : rulesErr R = 0
 mx : Mx b w
 bl : b < w.heap.size
theorem RdH.step {b : Nat} {R : RulesZ} {vp vs ve : Value} {w w' : World} (h : RdH b R vp vs ve w) (hf : Fr (· = b) w w') : RdH b R vp vs ve w' :=
 ⟨h.rd.step hf (Shr.refl _ _), h.nm, h.re, h.mx.fr hf h.bl, Nat.lt_of_lt_of_le h.bl hf.size⟩
def mvPost (b : Nat) (R : RulesZ) (vp vs ve x0 x1 x2 x3 : Value) (w : World) (o : Except Int (MoveZ × Byt × Byt)) (e : Ending) (w' : World) : Prop :=
 Fr (· = b) w w' ∧ match o with
 | .error n => e = .panicked (wrongV n)
 | .ok q => ∃ g, w.heap.size ≤ g ∧ e = .returned (.pointer (some ⟨g, 0, none⟩)) ∧ Box w' g [.int .i64 q.1.src, .int .i64 q.1.dst, .int .i64 q.1.piece, .string (bs q.2.1), .slice none 0 0] 143 ∧ Box w' b (rdC R vp vs ve (bs q.2.2) x0 x1 x2 x3) RdT
set_option maxRecDepth 100000
set_option maxHeartbeats 8000000
variable {R : RulesZ} {vp vs ve x0 x1 x2 x3 : Value}
theorem move_any (HS : SortMvSaid) (HT : TrimSaid) (HA : AnySaid) (HC : CutSaid) (HCl : CloneSaid) (b : Nat) (s : ByteArray) (p : PosZ) (vc v0 v1 : Value) (w : World) (hb : Box w b (rdC R vp vs ve s x0 x1 x2 x3) RdT) (hs : s.size ≤ 100000) (hh : RdH b R vp vs ve w) (hp : Held (· = b) w fun w' => RdP w' p vc v0 v1) (K : POk R p) :
  Calls Tryz.prog 78 #[.pointer (some ⟨b, 0, none⟩), (.agg #[vc, v0, v1, .int .i64 p.turn, .int .i64 p.quiet])] w (mvPost b R vp vs ve x0 x1 x2 x3 w (rMove R p (bt s))) := by
 have HSh := Lib.hid HS
 have HH := Lib.hid hh
 have HP := Lib.hid hp
 have HK := Lib.hid K
 have HW : Hid (∀ w1, Box w1 b (rdC R vp vs ve s x0 x1 x2 x3) RdT → Calls Tryz.prog 54 #[.pointer (some ⟨b, 0, none⟩)] w1 fun e w' => e = .returned (.string (bs (wordB (blank (bt s))))) ∧ Box w' b (rdC R vp vs ve (bs (blank (bt s))) x0 x1 x2 x3) RdT ∧ Fr (· = b) w1 w') := Lib.hid fun w1 h1 => word_any HT HA b s w1 h1 hs
 have HCm : Hid (∀ (u : ByteArray) w1, u.size ≤ 100000 → Box w1 b (rdC R vp vs ve u x0 x1 x2 x3) RdT → Mx b w1 → Calls Tryz.prog 52 #[.pointer (some ⟨b, 0, none⟩)] w1 (RdPost b R vp vs ve x0 x1 x2 x3 w1 (cmR (bt u)))) := Lib.hid fun u w1 h0 h1 h2 => rcomment_any HT HC HCl b u w1 h1 h0 h2
 have hbl : (blank (bt s)).length ≤ 100000 := by have := blank_le (bt s); rw [bt_len] at this; omega
 obtain ⟨O, hO⟩ : ∃ O, O = rMove R p (bt s) := ⟨_, rfl⟩
 rw [← hO]
 unfold rMove at hO
 obtain ⟨l, hl⟩ : ∃ l, l = blank (bt s) := ⟨_, rfl⟩
 rw [← hl] at HW hbl hO
 obtain ⟨t, ht⟩ : ∃ t, t = wordB l := ⟨_, rfl⟩
 rw [← ht] at HW hO
 have htl : t.length ≤ l.length := by rw [ht]; exact wordB_le l
 have HBr := Lib.hid hb
 have hbz := hb.lt
 have HO := Lib.hid hO
 clear hO hs HT HA HC HCl hl hb HS hh hp K ht
 go_enter Tryz.func78, Tryz.ntmps78
 go_upto_region 1 with (fail)
 refine opn1 ?_
 intro w0 xbP hB0 hS0
 have HB := Lib.hid hB0
 obtain ⟨bP, hbP⟩ : ∃ bP, bP = w.heap.size := ⟨_, rfl⟩
 rw [← hbP] at xbP ⊢
 have hbP1 : w.heap.size ≤ bP := by omega
 have HbP := Lib.hid xbP
 have hS : bP < w0.heap.size := by omega
 clear hB0 hS0 xbP hbP
 have HB0 := Lib.hid (HBr.out.stays HB.out)
 have HF0 := Lib.hid (Fr.of_new (S := (· = b)) HB.out)
 by_cases h0 : t = []
 ·have hemp : (bs t).toList.isEmpty = true := by rw [h0, Lib.toList_data]; rfl
  have H0 := Lib.hid h0
  clear h0
  go_wp2_with (first | (refine (HW.out _ HB0.out).mono ?_; rintro e w1 ⟨rfl, hb1, hf1⟩) | (go_at_call 75; refine (fail_any b 5 _).mono ?_; rintro e w3 ⟨rfl, rfl⟩))
  exact ⟨rfl, by unfold mvPost; rw [HO.out, if_pos H0.out]; exact ⟨HF0.out.trans hf1 (Shr.refl _ _), rfl⟩⟩
 ·have hemp : (bs t).toList.isEmpty = false := by
   rw [Lib.toList_data]
   show t.isEmpty = false
   cases t with
   | nil => exact absurd rfl h0
   | cons _ _ => rfl
  have H0 := Lib.hid h0
  clear h0
  go_wp2_with (refine (HW.out _ HB0.out).mono ?_; rintro e w1 ⟨rfl, hb1, hf1⟩)
  have HD1 := Lib.hid hb1
  have HE1 := Lib.hid (HbP.out.held hf1 (by omega))
  have HF1 := Lib.hid (HF0.out.trans hf1 (Shr.refl _ _))
  clear hb1 hf1 HbP HF0 HB0 HB HBr HW
  obtain ⟨wq, rfl⟩ : ∃ wq : World, wq = w1 := ⟨_, rfl⟩
  have Dz := HD1.out.drew
  have Ez := HE1.out.drew
  have Fz : Fr (· = b) w wq.drew := HF1.out.drew
  refine wp_region_noPanic ?_
  refine beginL (S := (fun w' => w'.cell? ⟨b, 0, none⟩ = some (.string R.name) ∧ w'.cell? ⟨b, 1, none⟩ = some (.int .i64 R.width) ∧ w'.cell? ⟨b, 2, none⟩ = some (.int .i64 R.height) ∧ w'.cell? ⟨b, 3, none⟩ = some vp ∧ w'.cell? ⟨b, 4, none⟩ = some vs ∧ w'.cell? ⟨b, 5, none⟩ = some (.bool R.falls) ∧ w'.cell? ⟨b, 6, none⟩ = some (.bool R.keeps) ∧ w'.cell? ⟨b, 7, none⟩ = some ve ∧ w'.cell? ⟨b, 8, none⟩ = some (.int .i64 R.blocked) ∧ w'.cell? ⟨b, 9, none⟩ = some (.int .i64 R.quiet) ∧ w'.cell? ⟨b, 10, none⟩ = some (.int .i64 R.rept) ∧ w'.cell? ⟨bP, 0, none⟩ = some vc ∧ w'.cell? ⟨bP, 1, none⟩ = some v0 ∧ w'.cell? ⟨bP, 2, none⟩ = some v1 ∧ w'.cell? ⟨bP, 3, none⟩ = some (.int .i64 p.turn) ∧ w'.cell? ⟨bP, 4, none⟩ = some (.int .i64 p.quiet))) (L := []) (by kernel_rfl) (by and_intros <;> first | exact Dz.cell _ rfl | exact Ez.cell _ rfl) (fun hHeld => ?_)
  refine tkW 0 ?_
  refine tkL 4 ?_
  refine tkW 1 ?_
  refine tkW 2 ?_
  refine tkL 3 ?_
  refine cnL 5 fun K hK => ?_
  go_simp
  refine (Result_any HSh.out R vp vs ve p vc v0 v1 _ (HH.out.rd _ Fz) (HP.out _ Fz) HK.out).mono ?_
  rintro e w5 ⟨rfl, hb5⟩
  have D5 := Dz.stays hb5
  have E5 := Ez.stays hb5
  have F5 := Fz.trans (Fr.of_new (S := (· = b)) hb5) (Shr.refl _ _)
  refine hK.out _ _ (by and_intros <;> first | exact D5.cell _ rfl | exact E5.cell _ rfl) (fun hHeld => ?_)
  clear hK K
  refine tkW 6 ?_
  refine dnN ?_
  have HD5 := Lib.hid D5
  have HE5 := Lib.hid E5
  have HF5 := Lib.hid F5
  clear D5 E5 F5 Dz Ez Fz hb5 hHeld HD1 HE1 HF1
  by_cases h1 : resultZ R p = 0
  ·have n1 : (resultZ R p != 0) = false := by rw [h1]; rfl
   have H1 := Lib.hid h1
   clear h1
   go_wp2_with fail
   clear n1
   obtain ⟨m, hm⟩ : ∃ m, m = readZ R p (bs t) := ⟨_, rfl⟩
   obtain ⟨E, hE⟩ : ∃ E, E = readErr R p (bs t) := ⟨_, rfl⟩
   have HM := Lib.hid hm
   have HE := Lib.hid hE
   clear hm hE
   obtain ⟨wq, rfl⟩ : ∃ wq : World, wq = w5 := ⟨_, rfl⟩
   have Dz := HD5.out.drew
   have Ez := HE5.out.drew
   have Fz : Fr (· = b) w wq.drew := HF5.out.drew
   have Lz : Below wq.drew.heap.size wq.drew wq.drew := Below.refl _ _
   refine wp_region_noPanic ?_
   refine beginL (S := (fun w' => w'.cell? ⟨b, 0, none⟩ = some (.string R.name) ∧ w'.cell? ⟨b, 1, none⟩ = some (.int .i64 R.width) ∧ w'.cell? ⟨b, 2, none⟩ = some (.int .i64 R.height) ∧ w'.cell? ⟨b, 3, none⟩ = some vp ∧ w'.cell? ⟨b, 4, none⟩ = some vs ∧ w'.cell? ⟨b, 5, none⟩ = some (.bool R.falls) ∧ w'.cell? ⟨b, 6, none⟩ = some (.bool R.keeps) ∧ w'.cell? ⟨b, 7, none⟩ = some ve ∧ w'.cell? ⟨b, 8, none⟩ = some (.int .i64 R.blocked) ∧ w'.cell? ⟨b, 9, none⟩ = some (.int .i64 R.quiet) ∧ w'.cell? ⟨b, 10, none⟩ = some (.int .i64 R.rept) ∧ w'.cell? ⟨bP, 0, none⟩ = some vc ∧ w'.cell? ⟨bP, 1, none⟩ = some v0 ∧ w'.cell? ⟨bP, 2, none⟩ = some v1 ∧ w'.cell? ⟨bP, 3, none⟩ = some (.int .i64 p.turn) ∧ w'.cell? ⟨bP, 4, none⟩ = some (.int .i64 p.quiet))) (L := []) (by kernel_rfl) (by and_intros <;> first | exact Dz.cell _ rfl | exact Ez.cell _ rfl) (fun hHeld => ?_)
   refine tkW 0 ?_
   refine tkL 4 ?_
   refine tkW 5 ?_
   refine tkW 1 ?_
   refine tkW 2 ?_
   refine tkL 3 ?_
   refine rdL (rs := [6, 10]) ?_
   refine (AllReadyL.cons (by first | (simp only [List.getElem?_toArray, List.getElem?_cons_zero, List.getElem?_cons_succ] <;> rfl) | rfl) (fun K hK => ?_) (AllReadyL.cons (by first | (simp only [List.getElem?_toArray, List.getElem?_cons_zero, List.getElem?_cons_succ] <;> rfl) | rfl) (fun K hK => ?_) AllReadyL.nil))
   ·skip
    go_simp
    have hfz : Fr (· = b) w wq.drew := Fz.trans (Fr.of_new Lz) (Shr.refl _ _)
    refine (Read_any HSh.out R vp vs ve p vc v0 v1 (bs t) _ (HH.out.rd _ hfz) HH.out.nm (HP.out _ hfz)).mono ?_
    clear hfz
    rintro e w6 ⟨rfl, hbb⟩
    rw [← HM.out, ← HE.out]
    have D6 := Dz.stays hbb
    have E6 := Ez.stays hbb
    have L6 := below_trans Lz hbb Lz.size
    clear hbb
    refine hK.out _ _ (by and_intros <;> first | exact D6.cell _ rfl | exact E6.cell _ rfl) (fun hHeld => ?_)
    clear hK K
    refine tkW 7 ?_
    refine tkW 8 ?_
    refine tkW 9 ?_
    refine cnL 10 fun K hK => ?_
    go_simp
    refine K_world ?_
    intro w10 e10
    have hbb : Below w6.heap.size w6 w10 := by rw [e10]; exact (Below.refl _ _).alloc (Nat.le_refl _) _
    have X10 : Box w10 (w6.heap.size) [.int .i64 0, .int .i64 0, .int .i64 0] 44 := by rw [e10]; exact Box.new' _ _ _ _ rfl
    have D10 := D6.stays hbb
    have E10 := E6.stays hbb
    have L10 := below_trans L6 hbb L6.size
    clear hbb e10
    refine hK.out _ _ (by and_intros <;> first | exact D10.cell _ rfl | exact E10.cell _ rfl) (fun hHeld => ?_)
    clear hK K
    refine cnL 11 fun K hK => ?_
    rw [if_pos (by rfl)]
    refine wp_store_mid 44 (.tmp 6) (.tmp 31) (by rfl) (w6.heap.size) 0 #[.int .i64 m.src, .int .i64 m.dst, .int .i64 m.piece] (by rfl) (by rfl) (X10.has 0 3 (by simp)) (by kernel_rfl) (by simp [Value.oneCell']) ?_
    refine K_world ?_
    intro w11 e11
    have X11 : Box w11 (w6.heap.size) [.int .i64 m.src, .int .i64 m.dst, .int .i64 m.piece] 44 := by rw [e11]; exact X10.store rfl
    have hbn : wq.heap.size ≤ w6.heap.size := L6.size
    have L11 : Below wq.drew.heap.size wq.drew w11 := by rw [e11]; exact below_setCells L10 hbn 0 _
    have D11 := Dz.stays L11
    have E11 := Ez.stays L11
    clear e11
    refine hK.out _ _ (by and_intros <;> first | exact D11.cell _ rfl | exact E11.cell _ rfl) (fun hHeld => ?_)
    clear hK K
    refine tkW 12 ?_
    refine dnN ?_
    have hMl : b < w6.heap.size := by have h1 : b < wq.heap.size := HD5.out.lt; omega
    have hwM : w.heap.size ≤ w6.heap.size := by have h1 := HF5.out.size; omega
    generalize w6.heap.size = bM at X11 hMl hwM ⊢
    have HD11 := Lib.hid D11
    have HX11 := Lib.hid X11
    have HF11 := Lib.hid (Fz.trans (Fr.of_new L11) (Shr.refl _ _))
    clear hHeld Dz Ez Fz Lz hbn HD5 HE5 HF5
    by_cases h2 : E = 0
    ·have n2 : (E != 0) = false := by rw [h2]; rfl
     have H2 := Lib.hid h2
     clear h2
     have c11 := HD11.out.cell 11 rfl
     have f11 := HD11.out.frozen 11
     have hz1 : ((bs t).size : Int) ≤ ((bs l).size : Int) := by rw [bs_size, bs_size]; omega
     go_wp2_with fail
     clear c11 f11 hz1 n2
     have HD9 := Lib.hid (HD11.out.set 11 (.string ((bs l).extract (bs t).size (bs l).size)))
     have HX9 := Lib.hid (HX11.out.far ⟨b, 11, none⟩ (.string ((bs l).extract (bs t).size (bs l).size)) (show bM ≠ b by omega))
     have HF9 := Lib.hid (HF11.out.setCell (p := ⟨b, 11, none⟩) rfl (.string ((bs l).extract (bs t).size (bs l).size)))
     refine wp_worldR ?_
     intro w9 e9
     rw [← e9] at HD9 HX9 HF9
     clear e9 HD11 HX11 HF11
     have hex : (bs l).extract (bs t).size (bs l).size = bs (l.drop t.length) := by rw [bs_drop, bs_size]
     rw [hex] at HD9
     have hl2 : (bs (l.drop t.length)).size ≤ 100000 := by rw [bs_size, List.length_drop]; omega
     obtain ⟨wq, rfl⟩ : ∃ wq : World, wq = w9 := ⟨_, rfl⟩
     have Dz := HD9.out.drew
     have Xz := HX9.out.drew
     have Fz : Fr (· = b) w wq.drew := HF9.out.drew
     refine wp_region_panTo (fun c w' => mvPost b R vp vs ve x0 x1 x2 x3 w O (.panicked c) w') (fun c a w' hd hz => ⟨hd, hz⟩) ?_
     refine beginL (S := (fun w' => w'.cell? ⟨bM, 0, none⟩ = some (.int .i64 m.src) ∧ w'.cell? ⟨bM, 1, none⟩ = some (.int .i64 m.dst) ∧ w'.cell? ⟨bM, 2, none⟩ = some (.int .i64 m.piece))) (L := []) (by kernel_rfl) (by and_intros <;> exact Xz.cell _ rfl) (fun hHeld => ?_)
     refine tkL 0 ?_
     refine tkW 1 ?_
     refine cnL 2 fun K hK => ?_
     go_simp
     have hcm := HCm.out (bs (l.drop t.length)) _ hl2 Dz ((HH.out.step Fz).mx)
     obtain ⟨O2, hO2⟩ : ∃ O2, O2 = rCmt (l.drop t.length) := ⟨_, rfl⟩
     rw [bt_bs] at hcm
     unfold RdPost cmR at hcm
     rw [← hO2] at hcm
     refine hcm.mono ?_
     clear hcm
     rcases O2 with n | q
     ·rintro e w2 ⟨hf2, rfl⟩
      refine ⟨rfl, ?_⟩
      unfold mvPost; rw [HO.out, if_neg H0.out, if_neg (by rw [H1.out]; simp), if_neg (by rw [← HE.out, H2.out]; simp), ← hO2]
      exact ⟨Fz.trans hf2 (Shr.refl _ _), rfl⟩
     rintro e w2 ⟨hf2, rfl, D2⟩
     have Y2 := Xz.held hf2 (show ¬ bM = b by omega)
     have F2 := Fz.trans hf2 (Shr.refl _ _)
     refine hK.out _ _ (by and_intros <;> exact Y2.cell _ rfl) (fun hHeld => ?_)
     clear hK K
     refine tkW 3 ?_
     refine cnL 4 fun K hK => ?_
     refine K_world ?_
     intro w4 e4
     have hbb : Below w2.heap.size w2 w4 := by rw [e4]; exact (Below.refl _ _).alloc (Nat.le_refl _) _
     have X4 : Box w4 w2.heap.size [.int .i64 m.src, .int .i64 m.dst, .int .i64 m.piece, .string (bs q.1), .slice none 0 0] 143 := by rw [e4]; exact Box.new' _ _ _ _ rfl
     refine hK.out _ _ ⟨(Y2.stays hbb).cell 0 rfl, (Y2.stays hbb).cell 1 rfl, (Y2.stays hbb).cell 2 rfl⟩ (fun hHeld => ?_)
     clear hK K
     refine tkW 5 ?_
     refine dnL ?_
     refine PanTo.normal ?_
     have hw2 : w.heap.size ≤ w2.heap.size := F2.size
     clear e4
     go_wp2_with fail
     go_ret
     unfold mvPost
     rw [HO.out, if_neg H0.out, if_neg (by rw [H1.out]; simp), if_neg (by rw [← HE.out, H2.out]; simp), ← hO2, ← HM.out]
     exact ⟨F2.trans (Fr.of_new hbb) (Shr.refl _ _), w2.heap.size, hw2, rfl, X4, D2.stays hbb⟩
    ·have n2 : (E != 0) = true := by simpa using h2
     have H2 := Lib.hid h2
     clear h2
     go_wp2_with (go_at_call 75; refine (fail_any b E _).mono ?_; rintro e w3 ⟨rfl, rfl⟩)
     exact ⟨rfl, by unfold mvPost; rw [HO.out, if_neg H0.out, if_neg (by rw [H1.out]; simp), if_pos (by rw [← HE.out]; exact H2.out), HE.out]; exact ⟨HF11.out, rfl⟩⟩
   ·skip
    go_simp
    refine K_world ?_
    intro w10 e10
    have hbb : Below wq.drew.heap.size wq.drew w10 := by rw [e10]; exact (Below.refl _ _).alloc (Nat.le_refl _) _
    have X10 : Box w10 (wq.heap.size) [.int .i64 0, .int .i64 0, .int .i64 0] 44 := by rw [e10]; exact Box.new' _ _ _ _ rfl
    have D10 := Dz.stays hbb
    have E10 := Ez.stays hbb
    have L10 := below_trans Lz hbb Lz.size
    clear hbb e10
    refine hK.out _ _ (by and_intros <;> first | exact D10.cell _ rfl | exact E10.cell _ rfl) (fun hHeld => ?_)
    clear hK K
    refine cnL 6 fun K hK => ?_
    go_simp
    have hfz : Fr (· = b) w w10 := Fz.trans (Fr.of_new L10) (Shr.refl _ _)
    refine (Read_any HSh.out R vp vs ve p vc v0 v1 (bs t) _ (HH.out.rd _ hfz) HH.out.nm (HP.out _ hfz)).mono ?_
    clear hfz
    rintro e w6 ⟨rfl, hbb⟩
    rw [← HM.out, ← HE.out]
    have D6 := D10.stays hbb
    have E6 := E10.stays hbb
    have L6 := below_trans L10 hbb L10.size
    have X6 := X10.stays hbb
    clear hbb
    refine hK.out _ _ (by and_intros <;> first | exact D6.cell _ rfl | exact E6.cell _ rfl) (fun hHeld => ?_)
    clear hK K
    refine tkW 7 ?_
    refine tkW 8 ?_
    refine tkW 9 ?_
    refine cnL 11 fun K hK => ?_
    rw [if_pos (by rfl)]
    refine wp_store_mid 44 (.tmp 6) (.tmp 31) (by rfl) (wq.heap.size) 0 #[.int .i64 m.src, .int .i64 m.dst, .int .i64 m.piece] (by rfl) (by rfl) (X6.has 0 3 (by simp)) (by kernel_rfl) (by simp [Value.oneCell']) ?_
    refine K_world ?_
    intro w11 e11
    have X11 : Box w11 (wq.heap.size) [.int .i64 m.src, .int .i64 m.dst, .int .i64 m.piece] 44 := by rw [e11]; exact X6.store rfl
    have hbn : wq.heap.size ≤ wq.heap.size := Nat.le_refl _
    have L11 : Below wq.drew.heap.size wq.drew w11 := by rw [e11]; exact below_setCells L6 hbn 0 _
    have D11 := Dz.stays L11
    have E11 := Ez.stays L11
    clear e11
    refine hK.out _ _ (by and_intros <;> first | exact D11.cell _ rfl | exact E11.cell _ rfl) (fun hHeld => ?_)
    clear hK K
    refine tkW 12 ?_
    refine dnN ?_
    have hMl : b < wq.heap.size := by have h1 : b < wq.heap.size := HD5.out.lt; omega
    have hwM : w.heap.size ≤ wq.heap.size := by have h1 := HF5.out.size; omega
    generalize wq.heap.size = bM at X11 hMl hwM ⊢
    have HD11 := Lib.hid D11
    have HX11 := Lib.hid X11
    have HF11 := Lib.hid (Fz.trans (Fr.of_new L11) (Shr.refl _ _))
    clear hHeld Dz Ez Fz Lz hbn HD5 HE5 HF5
    by_cases h2 : E = 0
    ·have n2 : (E != 0) = false := by rw [h2]; rfl
     have H2 := Lib.hid h2
     clear h2
     have c11 := HD11.out.cell 11 rfl
     have f11 := HD11.out.frozen 11
     have hz1 : ((bs t).size : Int) ≤ ((bs l).size : Int) := by rw [bs_size, bs_size]; omega
     go_wp2_with fail
     clear c11 f11 hz1 n2
     have HD9 := Lib.hid (HD11.out.set 11 (.string ((bs l).extract (bs t).size (bs l).size)))
     have HX9 := Lib.hid (HX11.out.far ⟨b, 11, none⟩ (.string ((bs l).extract (bs t).size (bs l).size)) (show bM ≠ b by omega))
     have HF9 := Lib.hid (HF11.out.setCell (p := ⟨b, 11, none⟩) rfl (.string ((bs l).extract (bs t).size (bs l).size)))
     refine wp_worldR ?_
     intro w9 e9
     rw [← e9] at HD9 HX9 HF9
     clear e9 HD11 HX11 HF11
     have hex : (bs l).extract (bs t).size (bs l).size = bs (l.drop t.length) := by rw [bs_drop, bs_size]
     rw [hex] at HD9
     have hl2 : (bs (l.drop t.length)).size ≤ 100000 := by rw [bs_size, List.length_drop]; omega
     obtain ⟨wq, rfl⟩ : ∃ wq : World, wq = w9 := ⟨_, rfl⟩
     have Dz := HD9.out.drew
     have Xz := HX9.out.drew
     have Fz : Fr (· = b) w wq.drew := HF9.out.drew
     refine wp_region_panTo (fun c w' => mvPost b R vp vs ve x0 x1 x2 x3 w O (.panicked c) w') (fun c a w' hd hz => ⟨hd, hz⟩) ?_
     refine beginL (S := (fun w' => w'.cell? ⟨bM, 0, none⟩ = some (.int .i64 m.src) ∧ w'.cell? ⟨bM, 1, none⟩ = some (.int .i64 m.dst) ∧ w'.cell? ⟨bM, 2, none⟩ = some (.int .i64 m.piece))) (L := []) (by kernel_rfl) (by and_intros <;> exact Xz.cell _ rfl) (fun hHeld => ?_)
     refine tkL 0 ?_
     refine tkW 1 ?_
     refine cnL 2 fun K hK => ?_
     go_simp
     have hcm := HCm.out (bs (l.drop t.length)) _ hl2 Dz ((HH.out.step Fz).mx)
     obtain ⟨O2, hO2⟩ : ∃ O2, O2 = rCmt (l.drop t.length) := ⟨_, rfl⟩
     rw [bt_bs] at hcm
     unfold RdPost cmR at hcm
     rw [← hO2] at hcm
     refine hcm.mono ?_
     clear hcm
     rcases O2 with n | q
     ·rintro e w2 ⟨hf2, rfl⟩
      refine ⟨rfl, ?_⟩
      unfold mvPost; rw [HO.out, if_neg H0.out, if_neg (by rw [H1.out]; simp), if_neg (by rw [← HE.out, H2.out]; simp), ← hO2]
      exact ⟨Fz.trans hf2 (Shr.refl _ _), rfl⟩
     rintro e w2 ⟨hf2, rfl, D2⟩
     have Y2 := Xz.held hf2 (show ¬ bM = b by omega)
     have F2 := Fz.trans hf2 (Shr.refl _ _)
     refine hK.out _ _ (by and_intros <;> exact Y2.cell _ rfl) (fun hHeld => ?_)
     clear hK K
     refine tkW 3 ?_
     refine cnL 4 fun K hK => ?_
     refine K_world ?_
     intro w4 e4
     have hbb : Below w2.heap.size w2 w4 := by rw [e4]; exact (Below.refl _ _).alloc (Nat.le_refl _) _
     have X4 : Box w4 w2.heap.size [.int .i64 m.src, .int .i64 m.dst, .int .i64 m.piece, .string (bs q.1), .slice none 0 0] 143 := by rw [e4]; exact Box.new' _ _ _ _ rfl
     refine hK.out _ _ ⟨(Y2.stays hbb).cell 0 rfl, (Y2.stays hbb).cell 1 rfl, (Y2.stays hbb).cell 2 rfl⟩ (fun hHeld => ?_)
     clear hK K
     refine tkW 5 ?_
     refine dnL ?_
     refine PanTo.normal ?_
     have hw2 : w.heap.size ≤ w2.heap.size := F2.size
     clear e4
     go_wp2_with fail
     go_ret
     unfold mvPost
     rw [HO.out, if_neg H0.out, if_neg (by rw [H1.out]; simp), if_neg (by rw [← HE.out, H2.out]; simp), ← hO2, ← HM.out]
     exact ⟨F2.trans (Fr.of_new hbb) (Shr.refl _ _), w2.heap.size, hw2, rfl, X4, D2.stays hbb⟩
    ·have n2 : (E != 0) = true := by simpa using h2
     have H2 := Lib.hid h2
     clear h2
     go_wp2_with (go_at_call 75; refine (fail_any b E _).mono ?_; rintro e w3 ⟨rfl, rfl⟩)
     exact ⟨rfl, by unfold mvPost; rw [HO.out, if_neg H0.out, if_neg (by rw [H1.out]; simp), if_pos (by rw [← HE.out]; exact H2.out), HE.out]; exact ⟨HF11.out, rfl⟩⟩
  ·have n1 : (resultZ R p != 0) = true := by simpa using h1
   have H1 := Lib.hid h1
   clear h1
   go_wp2_with (go_at_call 75; refine (fail_any b 14 _).mono ?_; rintro e w3 ⟨rfl, rfl⟩)
   exact ⟨rfl, by unfold mvPost; rw [HO.out, if_neg H0.out, if_pos H1.out]; exact ⟨HF5.out, rfl⟩⟩
end Go.Proofs.YthklhndcdijneaaGreatDoor
namespace Go.Proofs.YthklhndcdijneaaGreatDoor
open Go.ChangeShapes Go.WideShapes Go.ChangeAt Go.RowKit
set_option linter.unusedVariables false
theorem rCmt_le {l : Byt} {q : Byt × Byt} (h : rCmt l = .ok q) : q.2.length ≤ l.length ∧ q.1.length ≤ l.length := by
 have hg := got_le 123 l
 unfold rCmt at h
 by_cases h1 : (got 123 l).1 = false
 ·rw [if_pos h1] at h
  obtain rfl := Except.ok.inj h
  exact ⟨hg, Nat.zero_le _⟩
 ·rw [if_neg h1] at h
  cases hu : upTo1 125 (got 123 l).2 with
  | none => rw [hu] at h; cases h
  | some r =>
   rw [hu] at h
   dsimp only at h
   have := up1_le 125 _ _ hu
   by_cases h2 : r.1 = []
   ·rw [if_pos h2] at h; cases h
   ·rw [if_neg h2] at h
    obtain rfl := Except.ok.inj h
    constructor <;> omega
theorem rMove_ok {R : RulesZ} {p : PosZ} {l : Byt} {x : MoveZ × Byt × Byt} (h : rMove R p l = .ok x) (K : POk R p) : x.2.2.length < l.length ∧ x.2.1.length ≤ l.length ∧ x.1 ∈ listZ R p ∧ resultZ R p = 0 := by
 have hb := blank_le l
 unfold rMove at h
 by_cases h0 : wordB (blank l) = []
 ·rw [if_pos h0] at h; cases h
 rw [if_neg h0] at h
 by_cases h1 : resultZ R p = 0
 ·rw [if_neg (by simpa using h1)] at h
  by_cases h2 : readErr R p (bs (wordB (blank l))) = 0
  ·rw [if_neg (by simpa using h2)] at h
   cases hr : rCmt ((blank l).drop (wordB (blank l)).length) with
   | error e => rw [hr] at h; cases h
   | ok q =>
    rw [hr] at h
    dsimp only at h
    obtain rfl := Except.ok.inj h
    have hq := rCmt_le hr
    rw [List.length_drop] at hq
    have hw := wordB_le (blank l)
    have hp : 0 < (wordB (blank l)).length := List.length_pos_iff.2 h0
    refine ⟨by show q.2.length < l.length; omega, by show q.1.length ≤ l.length; omega, ?_, h1⟩
    show readZ R p (bs (wordB (blank l))) ∈ listZ R p
    unfold readZ
    rw [if_pos h2]
    unfold readErr at h2
    by_cases h3 : posErr R p = 0
    ·rw [if_neg (by simpa using h3)] at h2
     by_cases h4 : readI R p (bs (wordB (blank l))) < 0
     ·rw [if_pos h4] at h2; cases h2
     ·have h5 : (readI R p (bs (wordB (blank l)))).toNat < (listZ R p).length := by
       have := idxL_range (fun m => ofT R p (listZ R p) m == bs (wordB (blank l))) (listZ R p) 0 (by omega)
       unfold readI at h4 ⊢
       omega
      rw [List.getD_eq_getElem?_getD, List.getElem?_eq_getElem h5]
      exact List.getElem_mem h5
    ·rw [if_pos h3] at h2; exact absurd h2 h3
  ·rw [if_pos h2] at h; cases h
 ·rw [if_pos h1] at h; cases h
theorem rest_le (R : RulesZ) : ∀ f : Nat, (∀ p l q, POk R p → rAfter R f p l = .ok q → q.2.length ≤ l.length) ∧ (∀ p l q, POk R p → rVars R f p l = .ok q → q.2.length ≤ l.length) := by
 intro f
 induction f with
 | zero => exact ⟨fun p l q _ h => by rw [rAfter] at h; obtain rfl := Except.ok.inj h; exact Nat.le_refl _, fun p l q _ h => by rw [rVars] at h; obtain rfl := Except.ok.inj h; exact Nat.le_refl _⟩
 | succ f ih =>
  refine ⟨fun p l q K h => ?_, fun p l q K h => ?_⟩
  ·have hb := blank_le l
   rw [rAfter] at h
   split at h
   ·obtain rfl := Except.ok.inj h; exact hb
   ·cases hm : rMove R p (blank l) with
    | error e => rw [hm] at h; cases h
    | ok x =>
     rw [hm] at h
     dsimp only at h
     have h1 := rMove_ok hm K
     cases hv : rVars R f p x.2.2 with
     | error e => rw [hv] at h; cases h
     | ok v =>
      rw [hv] at h
      dsimp only at h
      have h2 := ih.2 _ _ _ K hv
      cases ha : rAfter R f (makeZ R p x.1) v.2 with
      | error e => rw [ha] at h; cases h
      | ok k =>
       rw [ha] at h
       obtain rfl := Except.ok.inj h
       have h3 := ih.1 _ _ _ (make_ok K h1.2.2.1) ha
       show k.2.length ≤ l.length
       omega
  ·have hg := got_le 40 l
   rw [rVars] at h
   split at h
   ·obtain rfl := Except.ok.inj h; exact hg
   ·cases hm : rMove R p (got 40 l).2 with
    | error e => rw [hm] at h; cases h
    | ok x =>
     rw [hm] at h
     dsimp only at h
     have h1 := rMove_ok hm K
     cases ha : rAfter R f (makeZ R p x.1) x.2.2 with
     | error e => rw [ha] at h; cases h
     | ok k =>
      rw [ha] at h
      dsimp only at h
      have h3 := ih.1 _ _ _ (make_ok K h1.2.2.1) ha
      have hg2 := got_le 41 k.2
      split at h
      ·cases h
      ·cases hv : rVars R f p (got 41 k.2).2 with
       | error e => rw [hv] at h; cases h
       | ok v =>
        rw [hv] at h
        obtain rfl := Except.ok.inj h
        have h2 := ih.2 _ _ _ K hv
        show v.2.length ≤ l.length
        omega
theorem got_lt {c : UInt8} {l : Byt} (h : (got c l).1 = true) : (got c l).2.length < l.length := by
 have := blank_le l
 unfold got at h ⊢
 generalize blank l = u at h this ⊢
 cases u with
 | nil => cases h
 | cons x t =>
  dsimp only at h ⊢
  by_cases e : x = c
  ·rw [if_pos e]; simp at this ⊢; omega
  ·rw [if_neg e] at h; cases h
def resV : List Value := resTx.map fun x => .string (bs x)
theorem str_beq (x y : Byt) : ((bs x).toList == (bs y).toList) = (x == y) := by rw [Lib.toList_data, Lib.toList_data]; rfl
theorem resI_mem (l : Byt) : decide (0 ≤ resI l) = decide (l ∈ resTx) := by
 unfold resI
 rw [idxL_any _ _ _ (by omega), Bool.eq_iff_iff]
 constructor
 ·intro h
  obtain ⟨x, hx, he⟩ := List.any_eq_true.1 h
  exact decide_eq_true (by rw [← eq_of_beq he]; exact hx)
 ·intro h
  exact List.any_eq_true.2 ⟨l, of_decide_eq_true h, beq_self_eq_true l⟩
set_option maxRecDepth 100000
set_option maxHeartbeats 8000000
theorem sIndex_any {T : TypeId} (t : ByteArray) (g : Nat) (w : World) (h : Box w g resV T) :
  Calls Tryz.prog 55 #[.slice (some ⟨g, 0, none⟩) 4 4, .string t] w fun e w' => e = .returned (.int .i64 (resI (bt t))) ∧ w' = w := by
 obtain ⟨l, rfl⟩ : ∃ l, t = bs l := ⟨bt t, rfl⟩
 rw [bt_bs]
 have HC : Hid (∀ k : Nat, k < 4 → w.cell? ⟨g, k, none⟩ = some (.string (bs (resTx.getD k [])))) := Lib.hid fun k hk => h.cell k (by
  unfold resV
  rw [List.getElem?_map, List.getElem?_eq_getElem (by simp [resTx]; omega), List.getD_eq_getElem?_getD, List.getElem?_eq_getElem (by simp [resTx]; omega)]
  rfl)
 have HST : Hid (∀ k : Nat, k < 4 → idxL (fun x => x == l) (resTx.drop k) k = if (l == resTx.getD k []) = true then (k : Int) else idxL (fun x => x == l) (resTx.drop (k + 1)) (k + 1 : Nat)) := Lib.hid fun k hk => by
  have h4 : k < resTx.length := by simp [resTx]; omega
  have := idxL_step (fun x => x == l) resTx k h4
  rw [this, List.getD_eq_getElem?_getD, List.getElem?_eq_getElem h4, Option.getD_some, Bool.beq_comm]
 clear h
 go_enter Tryz.func55, Tryz.ntmps55
 go_wp2_with fail
 go_loop [8] (fun i => ∃ k : Nat, k ≤ 4 ∧ i = .int .i64 k ∧ Hid (resI l = idxL (fun x => x == l) (resTx.drop k) k)) (fun i => 4 - (intOf i).toNat)
 case atStart => exact ⟨0, Nat.zero_le _, rfl, Lib.hid rfl⟩
 case round =>
  obtain ⟨k, hk, rfl, HK⟩ := hrel
  by_cases hlt : k < 4
  ·have ck := HC.out k hlt
   have HS := Lib.hid (HST.out k hlt)
   have hsb := str_beq l (resTx.getD k [])
   generalize resTx.getD k [] = z at *
   cases hp : (l == z)
   ·rw [hp] at hsb
    go_wp2_with fail
    go_round
    case rel => exact ⟨k + 1, by omega, by go_num, Lib.hid (by rw [HK.out, HS.out, if_neg (by simp [hp])])⟩
    case measure => simp [intOf]; omega
   ·rw [hp] at hsb
    go_wp2_with fail
    go_ret
    exact ⟨by rw [HK.out, HS.out, if_pos hp]; rfl, rfl⟩
  ·obtain rfl : k = 4 := by omega
   go_wp2_with fail
   go_ret
   exact ⟨by rw [HK.out]; rfl, rfl⟩
theorem sContains_any (t : ByteArray) (g : Nat) (w : World) (h : Box w g resV 9) :
  Calls Tryz.prog 77 #[.slice (some ⟨g, 0, none⟩) 4 4, .string t] w fun e w' => e = .returned (.bool (decide (bt t ∈ resTx))) ∧ w' = w := by
 have HI := Lib.hid (sIndex_any t g w h)
 have HA := Lib.hid (resI_mem (bt t))
 clear h
 go_enter Tryz.func77, Tryz.ntmps77
 go_wp2_with fail
 refine HI.out.mono ?_
 rintro e w' ⟨rfl, rfl⟩
 go_wp2_with fail
 go_ret
 exact ⟨by rw [← HA.out]; rfl, rfl⟩
end Go.Proofs.YthklhndcdijneaaGreatDoor
namespace Go.Proofs.YthklhndcdijneaaGreatDoor
open Go.ChangeShapes Go.WideShapes Go.ChangeAt Go.RowKit
set_option linter.unusedVariables false
/-- the blocks from base on are as they were. -/
structure Keep (base : Nat) (w w' : World) : Prop where
 size : w.heap.size ≤ w'.heap.size
 block : ∀ k, base ≤ k → k < w.heap.size → w'.heap[k]? = w.heap[k]?
theorem Keep.refl (base : Nat) (w : World) : Keep base w w := ⟨Nat.le_refl _, fun _ _ _ => rfl⟩
theorem Keep.trans {base : Nat} {a b c : World} (h : Keep base a b) (k : Keep base b c) : Keep base a c :=
 ⟨Nat.le_trans h.size k.size, fun i h1 h2 => (k.block i h1 (Nat.lt_of_lt_of_le h2 h.size)).trans (h.block i h1 h2)⟩
theorem Keep.mono {base base' : Nat} {w w' : World} (h : Keep base w w') (hb : base ≤ base') : Keep base' w w' := ⟨h.size, fun k h1 h2 => h.block k (Nat.le_trans hb h1) h2⟩
theorem Keep.set {base : Nat} {a w : World} (h : Keep base a w) {p : Addr} (hp : p.block < base) (u : Value) : Keep base a (w.setCell p u) :=
 ⟨by simpa using h.size, fun k h1 h2 => (Below.heap_setCell w p u k (by omega)).trans (h.block k h1 h2)⟩
mutual
/-- a branch in memory, all of it from base on. -/
def BrAt (q : Nat → Prop) (tb te : TypeId) (base : Nat) (w : World) : BrZ → Value → Prop
 | .mk m c ks, v => ∃ g kv vs, v = .pointer (some ⟨g, 0, none⟩) ∧ base ≤ g ∧ Box w g [.int .i64 m.src, .int .i64 m.dst, .int .i64 m.piece, .string c, kv] tb ∧ c.size ≤ maxLen ∧ w.ownsRow base te 1 kv vs.length vs ∧ (q g ∧ ∀ k, kv.ownBlock = some k → q k) ∧ BrsAt q tb te base w ks vs
def BrsAt (q : Nat → Prop) (tb te : TypeId) (base : Nat) (w : World) : List BrZ → List Value → Prop
 | [], vs => vs = []
 | b :: l, vs => ∃ v vt, vs = v :: vt ∧ BrAt q tb te base w b v ∧ BrsAt q tb te base w l vt
end
variable {q : Nat → Prop} {tb te : TypeId}
theorem brs_len : ∀ {base : Nat} {w : World} (l : List BrZ) (vs : List Value), BrsAt q tb te base w l vs → vs.length = l.length
 | _, _, [], vs, h => by rw [BrsAt] at h; subst h; rfl
 | _, _, b :: l, vs, h => by
  rw [BrsAt] at h
  obtain ⟨v, vt, rfl, -, h⟩ := h
  rw [List.length_cons, List.length_cons, brs_len l vt h]
theorem own_of_block {w w' : World} {base n sz : Nat} {e : TypeId} {v : Value} {xs : List Value} (h : w.ownsRow base e sz v n xs) (hk : ∀ g, v.ownBlock = some g → w'.heap[g]? = w.heap[g]?) : w'.ownsRow base e sz v n xs := by
 refine ⟨h.1, ?_⟩
 rcases h.2 with h0 | ⟨g, c, cur, hv, hg, hbk, r⟩
 ·exact .inl h0
 ·exact .inr ⟨g, c, cur, hv, hg, by rw [hk g (by rw [hv]; rfl)]; exact hbk, r⟩
theorem brs_move {q' : Nat → Prop} {base : Nat} {w w' : World} (hm : ∀ g, base ≤ g → g < w.heap.size → q g → w'.heap[g]? = w.heap[g]? ∧ q' g) : ∀ (l : List BrZ) (vs : List Value), BrsAt q tb te base w l vs → BrsAt q' tb te base w' l vs := by
 refine br_indL (PB := fun b => ∀ v, BrAt q tb te base w b v → BrAt q' tb te base w' b v) (PL := fun l => ∀ vs, BrsAt q tb te base w l vs → BrsAt q' tb te base w' l vs) ?_ ?_ ?_
 ·intro m c ks ih v h
  rw [BrAt] at h ⊢
  obtain ⟨g, kv, vs, rfl, hg, hb, hc, ho, hq, hs⟩ := h
  have h1 := hm g hg hb.lt hq.1
  have h2 : ∀ k, kv.ownBlock = some k → w'.heap[k]? = w.heap[k]? ∧ q' k := fun k hk => hm k (ho.lt k hk).1 (ho.lt k hk).2 (hq.2 k hk)
  exact ⟨g, kv, vs, rfl, hg, h1.1.trans hb, hc, own_of_block ho (fun k hk => (h2 k hk).1), ⟨h1.2, fun k hk => (h2 k hk).2⟩, ih vs hs⟩
 ·intro vs h; rw [BrsAt] at h ⊢; exact h
 ·intro b l h1 h2 vs h
  rw [BrsAt] at h ⊢
  obtain ⟨v, vt, rfl, h3, h4⟩ := h
  exact ⟨v, vt, rfl, h1 v h3, h2 vt h4⟩
theorem brs_base {base base' : Nat} {w : World} (hb : base' ≤ base) : ∀ (l : List BrZ) (vs : List Value), BrsAt q tb te base w l vs → BrsAt q tb te base' w l vs := by
 refine br_indL (PB := fun b => ∀ v, BrAt q tb te base w b v → BrAt q tb te base' w b v) (PL := fun l => ∀ vs, BrsAt q tb te base w l vs → BrsAt q tb te base' w l vs) ?_ ?_ ?_
 ·intro m c ks ih v h
  rw [BrAt] at h ⊢
  obtain ⟨g, kv, vs, rfl, hg, hbx, hc, ho, hq, hs⟩ := h
  exact ⟨g, kv, vs, rfl, Nat.le_trans hb hg, hbx, hc, own_base ho hb, hq, ih vs hs⟩
 ·intro vs h; rw [BrsAt] at h ⊢; exact h
 ·intro b l h1 h2 vs h
  rw [BrsAt] at h ⊢
  obtain ⟨v, vt, rfl, h3, h4⟩ := h
  exact ⟨v, vt, rfl, h1 v h3, h2 vt h4⟩
theorem brs_app {base : Nat} {w : World} : ∀ (a b : List BrZ) (va vb : List Value), BrsAt q tb te base w a va → BrsAt q tb te base w b vb → BrsAt q tb te base w (a ++ b) (va ++ vb)
 | [], b, va, vb, h1, h2 => by rw [BrsAt] at h1; subst h1; exact h2
 | x :: a, b, va, vb, h1, h2 => by
  rw [BrsAt] at h1
  obtain ⟨v, vt, rfl, h3, h4⟩ := h1
  show BrsAt q tb te base w (x :: (a ++ b)) (v :: (vt ++ vb))
  rw [BrsAt]
  exact ⟨v, vt ++ vb, rfl, h3, brs_app a b vt vb h4 h2⟩
theorem brs_get {base : Nat} {w : World} : ∀ (l : List BrZ) (vs : List Value), BrsAt q tb te base w l vs → ∀ i (h : i < l.length) (h' : i < vs.length), BrAt q tb te base w l[i] vs[i]
 | [], vs, _, i, h, _ => absurd h (Nat.not_lt_zero _)
 | b :: l, vs, hb, i, h, h' => by
  rw [BrsAt] at hb
  obtain ⟨v, vt, rfl, h3, h4⟩ := hb
  cases i with
  | zero => exact h3
  | succ i => exact brs_get l vt h4 i (by simpa using h) (by simpa using h')
end Go.Proofs.YthklhndcdijneaaGreatDoor
namespace Go.Proofs.YthklhndcdijneaaGreatDoor
open Go.ChangeShapes Go.WideShapes Go.ChangeAt Go.RowKit
set_option linter.unusedVariables false
theorem infoMoveR : (Tryz.prog.info? 44).map (fun i => (i.zero, i.size, i.bytes)) = some (some (.agg #[.int .i64 0, .int .i64 0, .int .i64 0]), 3, 24) := by kernel_rfl
def mvOf (ns : List NodeZ) (l : List Nat) : List MoveZ := l.map fun k => (ndAt ns k).m
theorem wayI_eq (ns : List NodeZ) (n : Int) : wayI ns n = (mvOf ns (upL ns n)).reverse := rfl
set_option maxRecDepth 100000 in
set_option maxHeartbeats 4000000 in
theorem Way_any (X : RecZ) (vt vn : Value) (nd i : Nat) (w : World) (h : RdX w X vt vn) (hb : Back X.nodes i) (hi : i ≤ X.nodes.length) (hl : nd < i) (hm : X.nodes.length ≤ 1000) :
  Calls Tryz.prog 41 #[recV X vt vn, .int .i64 nd] w fun e w' => ∃ v', e = .returned v' ∧ w'.ownsRow w.heap.size 44 3 v' (wayI X.nodes nd).length (flatM (wayI X.nodes nd)) ∧ Below w.heap.size w w' := by
 obtain ⟨na, nc, rfl, h1, h2⟩ := h.2.1.form
 unfold maxLen at h2
 have HR := Lib.hid h.2.1
 have HK := Lib.hid hb
 clear h hb
 unfold recV
 go_enter Tryz.func41, Tryz.ntmps41
 go_upto_region 1 with (fail)
 have hb0 := (Box.new' w w.heap.size [vt, .string X.comment, .slice na X.nodes.length nc, .int .i64 X.result] 30 rfl)
 have HB : Hid (Below w.heap.size w (w.alloc (.cells #[vt, .string X.comment, .slice na X.nodes.length nc, .int .i64 X.result] 30))) := Lib.hid ((Below.refl w.heap.size w).alloc (Nat.le_refl _) _)
 obtain ⟨bb, hbb⟩ : ∃ bb, bb = w.heap.size := ⟨_, rfl⟩
 rw [← hbb] at HB hb0 ⊢
 generalize (w.alloc (.cells #[vt, .string X.comment, .slice na X.nodes.length nc, .int .i64 X.result] 30)) = w0 at *
 have HX := Lib.hid hb0
 have hw0 := hb0.lt
 have hbb1 : w.heap.size ≤ bb := by omega
 have HNil : Hid (w0.ownsRow (bb + 1) 44 3 (.slice none 0 0) 0 (flatM [])) := Lib.hid (World.ownsRow_nil _ _ _ _)
 clear hb0 hbb
 go_wp2_with fail
 go_loopw [6, 5] (fun v6 v5 wr => ∃ (n : Int) (ms : List MoveZ) (o5 : Value), o5 = v5 ∧ v6 = .int .i64 n ∧ n < i ∧ Hid (mvOf X.nodes (upL X.nodes nd) = ms ++ mvOf X.nodes (upL X.nodes n)) ∧ ms.length + (n + 1).toNat ≤ nd + 1 ∧ Hid (wr.ownsRow (bb + 1) 44 3 o5 ms.length (flatM ms)) ∧ Hid (Below bb w wr) ∧ Hid (Box wr bb [vt, .string X.comment, .slice na X.nodes.length nc, .int .i64 X.result] 30)) (fun v _ _ => (intOf v + 1).toNat)
 case atStart => exact ⟨nd, [], _, rfl, rfl, by omega, Lib.hid rfl, by simp, HNil, HB, HX⟩
 case round =>
  obtain ⟨n, ms, o5, rfl, rfl, hn, HU, hlen, HO, HBr, HXr⟩ := hrel
  have hsr := HXr.out.lt
  by_cases h0 : 0 ≤ n
  ·obtain ⟨m, rfl⟩ : ∃ m : Nat, n = (m : Int) := ⟨n.toNat, by omega⟩
   obtain ⟨g, o, rfl, hg, hc⟩ := nodes_some HR.out (by omega)
   obtain ⟨e0, e1, e2, e3, -⟩ := hc m (by omega)
   have hgb : g < bb := by omega
   have c1 := (HBr.out.cell (p := ⟨g, o + m * 5 + 1, none⟩) hgb).trans e1
   have c2 := (HBr.out.cell (p := ⟨g, o + m * 5 + 2, none⟩) hgb).trans e2
   have c3 := (HBr.out.cell (p := ⟨g, o + m * 5 + 3, none⟩) hgb).trans e3
   have HE0 := Lib.hid e0
   have HC := Lib.hid (up_cons HK.out m (by omega))
   have hpm := HK.out m (by omega)
   have HU2 : Hid (mvOf X.nodes (upL X.nodes nd) = (ms ++ [(ndAt X.nodes m).m]) ++ mvOf X.nodes (upL X.nodes (ndAt X.nodes m).parent)) := Lib.hid (by rw [HU.out, HC.out, List.append_assoc]; rfl)
   clear hc HU HC e0 e1 e2 e3
   generalize (ndAt X.nodes m).parent = p at *
   generalize (ndAt X.nodes m).m = mv at *
   have hml : (m : Int) < (X.nodes.length : Int) := by omega
   have q2 := HXr.out.cell 2 rfl
   obtain ⟨oa, oc, rfl⟩ := own_form2 HO.out
   have hrs : bb + 1 ≤ wr.heap.size := by omega
   have hgw : g < wr.heap.size := by omega
   go_wp2_with (at_builtin; refine app_new 100 44 (.agg #[.int .i64 0, .int .i64 0, .int .i64 0]) 3 24 infoMoveR Tryz.underlying100 rfl (by decide) (by rfl) _ _ (by rfl) (bb + 1) _ ms.length (flatM ms) [.int .i64 mv.src, .int .i64 mv.dst, .int .i64 mv.piece] wr HO.out hrs rfl three_ints (by omega) (by omega) (by rfl) (by rfl) ?_)
   intro g3 cap3 w3 hown3 hkeep3 hgr3
   have HB3 := Lib.hid (hkeep3.below HBr.out (by omega))
   have HX3 := Lib.hid ((HXr.out.alloc (.cells #[.int .i64 mv.src, .int .i64 mv.dst, .int .i64 mv.piece] 44)).grown hgr3 (fun e => by have := (HO.out.lt bb e.symm).1; omega))
   have HO3 : Hid (w3.ownsRow (bb + 1) 44 3 (.slice (some ⟨g3, 0, none⟩) (ms.length + 1) cap3) (ms ++ [mv]).length (flatM (ms ++ [mv]))) := Lib.hid (by
    rw [← flatM_append, List.length_append]
    exact hown3)
   have c0 := (HB3.out.cell (p := ⟨g, o + m * 5, none⟩) hgb).trans HE0.out
   have q23 := HX3.out.cell 2 rfl
   have hg3 : g < w3.heap.size := by have := HX3.out.lt; omega
   have hb3 := HX3.out.lt
   clear hown3 hkeep3 hgr3 q2 c1 c2 c3 HE0
   go_wp2_with fail
   go_roundw
   case rel => exact ⟨p, ms ++ [mv], _, rfl, rfl, by omega, HU2, by rw [List.length_append]; simp; omega, HO3, HB3, HX3⟩
   case measure => simp [intOf]; omega
  ·have HU2 : Hid (mvOf X.nodes (upL X.nodes nd) = ms) := Lib.hid (by rw [HU.out, up_neg X.nodes n (by omega)]; exact List.append_nil _)
   have hne : 0 < ms.length := by
    rw [← HU2.out, up_cons HK.out nd hl]
    simp [mvOf]
   obtain ⟨G, cc, rfl⟩ := own_some HO.out hne
   have HRev := Lib.hid (ReverseM_any ms G ms.length cc bb w wr (own_base HO.out (Nat.le_succ bb)) HBr.out (by omega))
   go_upto_region 7 with (go_at_call 68; refine HRev.out.mono ?_; rintro e w5 ⟨rfl, ho5, hb5⟩; have HO5 := Lib.hid ho5; have HB5 := Lib.hid hb5; clear ho5 hb5)
   go_wp2_with fail
   go_ret
   refine ⟨_, rfl, ?_, HB5.out.mono hbb1⟩
   rw [wayI_eq, HU2.out, List.length_reverse]
   exact own_base HO5.out hbb1
end Go.Proofs.YthklhndcdijneaaGreatDoor

/- match's doAccept. -/
import Derived.Test.YtnodagljaoonjaaGreatDoorC31
import Derived.Test.YtnodagljaoonjaaGreatDoorC09
import Derived.Test.YtnodagljaoonjaaGreatDoorC05
namespace Go.Proofs.YtnodagljaoonjaaGreatDoor
open Go.ChangeShapes Go.WideShapes Go.ChangeAt Go.RowKit
set_option linter.unusedVariables false
variable {S : Nat → Prop} {base b : Nat} {M : MatZ} {B : MatB}
theorem keyed3 {P F : World → Nat → OffZ → Prop} {G : Prop} (main : (∀ w5 bx ro, F w5 bx ro → P w5 bx ro) → G) (rest : ∀ w5 bx ro, F w5 bx ro → P w5 bx ro) : G := main rest
theorem wp_world {P : Program} {c : Code} {Q : Exit → Act → World → Prop} {a : Act} {W : World} (h : ∀ w', w' = W → Code.wp P c Q a w') : Code.wp P c Q a W := h _ rfl
theorem plies_le (p : Int) (n : Nat) : 0 ≤ pliesO p n ∧ pliesO p n ≤ n := by unfold pliesO; repeat' split
                                                                             all_goals omega
set_option maxRecDepth 100000 in
set_option maxHeartbeats 16000000 in
theorem doAccept_any (HS : SortMvSaid) (ev : EvZ) (w : World) (h : MatchAt S base w b M B) (hb : base ≤ w.heap.size) (hog : OffG M.off) (hpl : ev.player = 0 ∨ ev.player = 1) : Calls Tryz.prog 61 #[.pointer (some ⟨b, 0, none⟩), .agg #[.int .i64 ev.kind, .int .i64 ev.player, .int .i64 ev.n, .int .i64 ev.now, .int .i64 ev.m.src, .int .i64 ev.m.dst, .int .i64 ev.m.piece]] w fun e w' => e = .returned (.int .i64 (M.doAccept ev).2) ∧ MPost S base b w (M.doAccept ev).1 w' := by
  have HOg := Lib.hid hog
  have HPl := Lib.hid hpl
  have HLt : Hid (M.ms.length ≤ 400) := Lib.hid (by obtain ⟨up, us, ue, vl, vm, rows, hg⟩ := h.game; exact hg.lt)
  have HDA : Hid (M.doAccept ev = if openE M.off ev.n ev.player M.ms.length ≠ 0 then (M, openE M.off ev.n ev.player M.ms.length) else if ev.n = 0 then ({ M with off := acceptO M.off, res := 3, reason := 4 }, 0) else (M.backTo (pliesO (1 - ev.player) M.ms.length).toNat ev.now, 0)) := Lib.hid rfl
  clear hog hpl
  have HSh := Lib.hid HS
  have HM := Lib.hid h
  have HBb := Lib.hid hb
  have HSX : Hid (¬ S w.heap.size) := Lib.hid (fun hk => by obtain ⟨up, us, ue, vl, vm, rows, hg⟩ := h.game; have := (hg.lo _ hk).2; omega)
  have HEb : Hid (b < w.heap.size) := Lib.hid h.box.lt
  clear h hb HS
  go_enter Tryz.func61, Tryz.ntmps61
  go_upto_region 1 with (fail)
  refine opn1 fun w0 y0_ yb_ hs_ => ?_
  have HE0 := Lib.hid y0_
  have HB0 := Lib.hid yb_
  clear hs_ y0_ yb_
  have HM0 := Lib.hid (HM.out.below HB0.out)
  have HEq : Hid (w.heap.size ≠ b) := Lib.hid (fun e => by have := HEb.out; omega)
  generalize w0 = wq at *
  have Mz : MatchAt S base wq.drew b M B := HM0.out.below (below_drew' (Below.refl _ _))
  have Ez := HE0.out.drew
  have Lz : Below wq.drew.heap.size wq.drew wq.drew := Below.refl _ _
  have HWq : Hid (Below w.heap.size w wq.drew) := Lib.hid (below_drew' HB0.out)
  clear HM0 HE0 HB0
  refine' keyed3 (F := fun w5 bx ro => Hid (MatchAt S base w5 b M B) ∧ Hid (Box w5 w.heap.size [.int .i64 ev.kind, .int .i64 ev.player, .int .i64 ev.n, .int .i64 ev.now, .int .i64 ev.m.src, .int .i64 ev.m.dst, .int .i64 ev.m.piece] 40) ∧ Hid (Below w.heap.size w w5) ∧ Hid (Box w5 bx [.int .i64 ro.b0, .int .i64 ro.b1, .int .i64 ro.l00, .int .i64 ro.l01, .int .i64 ro.l10, .int .i64 ro.l11] 47) ∧ Hid (bx ≠ b) ∧ Hid (openE M.off ev.n ev.player M.ms.length = 0 → ro = acceptO M.off)) ?main ?rest
  case main =>
    intro key
    refine wp_region_noPanic ?_
    refine beginL (S := (fun w' => w'.cell? ⟨b, 28, none⟩ = some (.int .i64 M.off.b0) ∧ w'.cell? ⟨b, 29, none⟩ = some (.int .i64 M.off.b1) ∧ w'.cell? ⟨b, 30, none⟩ = some (.int .i64 M.off.l00) ∧ w'.cell? ⟨b, 31, none⟩ = some (.int .i64 M.off.l01) ∧ w'.cell? ⟨b, 32, none⟩ = some (.int .i64 M.off.l10) ∧ w'.cell? ⟨b, 33, none⟩ = some (.int .i64 M.off.l11) ∧ w'.cell? ⟨w.heap.size, 2, none⟩ = some (.int .i64 ev.n) ∧ w'.cell? ⟨w.heap.size, 1, none⟩ = some (.int .i64 ev.player))) (L := []) (by kernel_rfl) (by and_intros <;> first | exact Mz.box.cell _ rfl | exact Ez.cell _ rfl) (fun hHeld => ?_)
    refine tkW 0 ?_
    refine tkW 5 ?_
    refine tkW 7 ?_
    refine tkW 9 ?_
    refine tkW 1 ?_
    refine tkL 6 ?_
    refine tkL 8 ?_
    refine tkW 2 ?_
    refine tkW 3 ?_
    refine tkL 4 ?_
    refine rdL (rs := [10, 15]) ?_
    refine (AllReadyL.cons (by first | (simp only [List.getElem?_toArray, List.getElem?_cons_zero, List.getElem?_cons_succ] <;> rfl) | rfl) (fun K hK => ?_) (AllReadyL.cons (by first | (simp only [List.getElem?_toArray, List.getElem?_cons_zero, List.getElem?_cons_succ] <;> rfl) | rfl) (fun K hK => ?_) AllReadyL.nil))
    · skip
      go_simp
      refine (count_m _ Mz).mono ?_
      rintro e w10 ⟨rfl, hbb⟩
      have M10 := Mz.below hbb
      have E10 := Ez.stays hbb
      have L10 := below_trans Lz hbb Lz.size
      clear hbb
      refine hK.out _ _ (by and_intros <;> first | exact M10.box.cell _ rfl | exact E10.cell _ rfl) (fun hHeld => ?_)
      clear hK K
      refine rdL (rs := [11, 15]) ?_
      refine (AllReadyL.cons (by first | (simp only [List.getElem?_toArray, List.getElem?_cons_zero, List.getElem?_cons_succ] <;> rfl) | rfl) (fun K hK => ?_) (AllReadyL.cons (by first | (simp only [List.getElem?_toArray, List.getElem?_cons_zero, List.getElem?_cons_succ] <;> rfl) | rfl) (fun K hK => ?_) AllReadyL.nil))
      · skip
        go_simp
        refine (offAcc M.off ev.n ev.player M.ms.length _ HOg.out HPl.out HLt.out).mono ?_
        rintro e w11 ⟨ro, hro, rfl, hbb⟩
        have M11 := M10.below hbb
        have E11 := E10.stays hbb
        have L11 := below_trans L10 hbb L10.size
        clear hbb
        refine hK.out _ _ (by and_intros <;> first | exact M11.box.cell _ rfl | exact E11.cell _ rfl) (fun hHeld => ?_)
        clear hK K
        refine tkW 12 ?_
        refine tkW 13 ?_
        refine tkW 14 ?_
        refine cnL 15 fun K hK => ?_
        go_simp
        refine K_world ?_
        intro w15 e15
        have hbb : Below w11.heap.size w11 w15 := by rw [e15]; exact (Below.refl _ _).alloc (Nat.le_refl _) _
        have X15 : Box w15 (w11.heap.size) [.int .i64 0, .int .i64 0, .int .i64 0, .int .i64 0, .int .i64 0, .int .i64 0] 47 := by rw [e15]; exact Box.new' _ _ _ _ rfl
        have M15 := M11.below hbb
        have E15 := E11.stays hbb
        have L15 := below_trans L11 hbb L11.size
        clear hbb e15
        refine hK.out _ _ (by and_intros <;> first | exact M15.box.cell _ rfl | exact E15.cell _ rfl) (fun hHeld => ?_)
        clear hK K
        refine cnL 16 fun K hK => ?_
        rw [if_pos (by rfl)]
        refine wp_store_mid 47 (.tmp 5) (.tmp 20) (by rfl) (w11.heap.size) 0 #[.int .i64 ro.b0, .int .i64 ro.b1, .int .i64 ro.l00, .int .i64 ro.l01, .int .i64 ro.l10, .int .i64 ro.l11] (by rfl) (by rfl) (X15.has 0 6 (by simp)) (by kernel_rfl) (by simp [Value.oneCell']) ?_
        refine K_world ?_
        intro w16 e16
        have X16 : Box w16 (w11.heap.size) [.int .i64 ro.b0, .int .i64 ro.b1, .int .i64 ro.l00, .int .i64 ro.l01, .int .i64 ro.l10, .int .i64 ro.l11] 47 := by rw [e16]; exact X15.store rfl
        have hbn : wq.heap.size ≤ w11.heap.size := L11.size
        have L16 : Below wq.drew.heap.size wq.drew w16 := by rw [e16]; exact below_setCells L15 hbn 0 _
        have M16 := Mz.below L16
        have E16 := Ez.stays L16
        clear e16 hbn
        refine hK.out _ _ (by and_intros <;> first | exact M16.box.cell _ rfl | exact E16.cell _ rfl) (fun hHeld => ?_)
        clear hK K
        refine tkW 17 ?_
        refine dnN ?_
        have HM1 := Lib.hid M16
        have HE1 := Lib.hid E16
        have HB1 : Hid (Below w.heap.size w w16) := Lib.hid (below_trans HWq.out L16 HWq.out.size)
        have HX1 := Lib.hid X16
        have HNX : Hid (w11.heap.size ≠ b) := Lib.hid (fun e => by have h1 := Mz.box.lt; have h2 : wq.heap.size ≤ w11.heap.size := L11.size; have h3 : b < wq.heap.size := h1; omega)
        have HRo := Lib.hid hro
        clear hro M10 E10 L10 M11 E11 L11 M15 E15 L15 M16 E16 L16 hHeld X15 X16
        generalize w11.heap.size = bx at HX1 HNX ⊢
        exact key w16 bx ro ⟨HM1, HE1, HB1, HX1, HNX, HRo⟩
      · skip
        go_simp
        refine K_world ?_
        intro w15 e15
        have hbb : Below w10.heap.size w10 w15 := by rw [e15]; exact (Below.refl _ _).alloc (Nat.le_refl _) _
        have X15 : Box w15 (w10.heap.size) [.int .i64 0, .int .i64 0, .int .i64 0, .int .i64 0, .int .i64 0, .int .i64 0] 47 := by rw [e15]; exact Box.new' _ _ _ _ rfl
        have M15 := M10.below hbb
        have E15 := E10.stays hbb
        have L15 := below_trans L10 hbb L10.size
        clear hbb e15
        refine hK.out _ _ (by and_intros <;> first | exact M15.box.cell _ rfl | exact E15.cell _ rfl) (fun hHeld => ?_)
        clear hK K
        refine cnL 11 fun K hK => ?_
        go_simp
        refine (offAcc M.off ev.n ev.player M.ms.length _ HOg.out HPl.out HLt.out).mono ?_
        rintro e w11 ⟨ro, hro, rfl, hbb⟩
        have M11 := M15.below hbb
        have E11 := E15.stays hbb
        have L11 := below_trans L15 hbb L15.size
        have X11 := X15.stays hbb
        clear hbb
        refine hK.out _ _ (by and_intros <;> first | exact M11.box.cell _ rfl | exact E11.cell _ rfl) (fun hHeld => ?_)
        clear hK K
        refine tkW 12 ?_
        refine tkW 13 ?_
        refine tkW 14 ?_
        refine cnL 16 fun K hK => ?_
        rw [if_pos (by rfl)]
        refine wp_store_mid 47 (.tmp 5) (.tmp 20) (by rfl) (w10.heap.size) 0 #[.int .i64 ro.b0, .int .i64 ro.b1, .int .i64 ro.l00, .int .i64 ro.l01, .int .i64 ro.l10, .int .i64 ro.l11] (by rfl) (by rfl) (X11.has 0 6 (by simp)) (by kernel_rfl) (by simp [Value.oneCell']) ?_
        refine K_world ?_
        intro w16 e16
        have X16 : Box w16 (w10.heap.size) [.int .i64 ro.b0, .int .i64 ro.b1, .int .i64 ro.l00, .int .i64 ro.l01, .int .i64 ro.l10, .int .i64 ro.l11] 47 := by rw [e16]; exact X11.store rfl
        have hbn : wq.heap.size ≤ w10.heap.size := L10.size
        have L16 : Below wq.drew.heap.size wq.drew w16 := by rw [e16]; exact below_setCells L11 hbn 0 _
        have M16 := Mz.below L16
        have E16 := Ez.stays L16
        clear e16 hbn
        refine hK.out _ _ (by and_intros <;> first | exact M16.box.cell _ rfl | exact E16.cell _ rfl) (fun hHeld => ?_)
        clear hK K
        refine tkW 17 ?_
        refine dnN ?_
        have HM1 := Lib.hid M16
        have HE1 := Lib.hid E16
        have HB1 : Hid (Below w.heap.size w w16) := Lib.hid (below_trans HWq.out L16 HWq.out.size)
        have HX1 := Lib.hid X16
        have HNX : Hid (w10.heap.size ≠ b) := Lib.hid (fun e => by have h1 := Mz.box.lt; have h2 : wq.heap.size ≤ w10.heap.size := L10.size; have h3 : b < wq.heap.size := h1; omega)
        have HRo := Lib.hid hro
        clear hro M10 E10 L10 M11 E11 L11 M15 E15 L15 M16 E16 L16 hHeld X15 X11 X16
        generalize w10.heap.size = bx at HX1 HNX ⊢
        exact key w16 bx ro ⟨HM1, HE1, HB1, HX1, HNX, HRo⟩
    · skip
      go_simp
      refine K_world ?_
      intro w15 e15
      have hbb : Below wq.drew.heap.size wq.drew w15 := by rw [e15]; exact (Below.refl _ _).alloc (Nat.le_refl _) _
      have X15 : Box w15 (wq.heap.size) [.int .i64 0, .int .i64 0, .int .i64 0, .int .i64 0, .int .i64 0, .int .i64 0] 47 := by rw [e15]; exact Box.new' _ _ _ _ rfl
      have M15 := Mz.below hbb
      have E15 := Ez.stays hbb
      have L15 := below_trans Lz hbb Lz.size
      clear hbb e15
      refine hK.out _ _ (by and_intros <;> first | exact M15.box.cell _ rfl | exact E15.cell _ rfl) (fun hHeld => ?_)
      clear hK K
      refine cnL 10 fun K hK => ?_
      go_simp
      refine (count_m _ M15).mono ?_
      rintro e w10 ⟨rfl, hbb⟩
      have M10 := M15.below hbb
      have E10 := E15.stays hbb
      have L10 := below_trans L15 hbb L15.size
      have X10 := X15.stays hbb
      clear hbb
      refine hK.out _ _ (by and_intros <;> first | exact M10.box.cell _ rfl | exact E10.cell _ rfl) (fun hHeld => ?_)
      clear hK K
      refine cnL 11 fun K hK => ?_
      go_simp
      refine (offAcc M.off ev.n ev.player M.ms.length _ HOg.out HPl.out HLt.out).mono ?_
      rintro e w11 ⟨ro, hro, rfl, hbb⟩
      have M11 := M10.below hbb
      have E11 := E10.stays hbb
      have L11 := below_trans L10 hbb L10.size
      have X11 := X10.stays hbb
      clear hbb
      refine hK.out _ _ (by and_intros <;> first | exact M11.box.cell _ rfl | exact E11.cell _ rfl) (fun hHeld => ?_)
      clear hK K
      refine tkW 12 ?_
      refine tkW 13 ?_
      refine tkW 14 ?_
      refine cnL 16 fun K hK => ?_
      rw [if_pos (by rfl)]
      refine wp_store_mid 47 (.tmp 5) (.tmp 20) (by rfl) (wq.heap.size) 0 #[.int .i64 ro.b0, .int .i64 ro.b1, .int .i64 ro.l00, .int .i64 ro.l01, .int .i64 ro.l10, .int .i64 ro.l11] (by rfl) (by rfl) (X11.has 0 6 (by simp)) (by kernel_rfl) (by simp [Value.oneCell']) ?_
      refine K_world ?_
      intro w16 e16
      have X16 : Box w16 (wq.heap.size) [.int .i64 ro.b0, .int .i64 ro.b1, .int .i64 ro.l00, .int .i64 ro.l01, .int .i64 ro.l10, .int .i64 ro.l11] 47 := by rw [e16]; exact X11.store rfl
      have hbn : wq.heap.size ≤ wq.heap.size := Nat.le_refl _
      have L16 : Below wq.drew.heap.size wq.drew w16 := by rw [e16]; exact below_setCells L11 hbn 0 _
      have M16 := Mz.below L16
      have E16 := Ez.stays L16
      clear e16 hbn
      refine hK.out _ _ (by and_intros <;> first | exact M16.box.cell _ rfl | exact E16.cell _ rfl) (fun hHeld => ?_)
      clear hK K
      refine tkW 17 ?_
      refine dnN ?_
      have HM1 := Lib.hid M16
      have HE1 := Lib.hid E16
      have HB1 : Hid (Below w.heap.size w w16) := Lib.hid (below_trans HWq.out L16 HWq.out.size)
      have HX1 := Lib.hid X16
      have HNX : Hid (wq.heap.size ≠ b) := Lib.hid (fun e => by have h1 := Mz.box.lt; have h2 : wq.heap.size ≤ wq.heap.size := Nat.le_refl _; have h3 : b < wq.heap.size := h1; omega)
      have HRo := Lib.hid hro
      clear hro M10 E10 L10 M11 E11 L11 M15 E15 L15 M16 E16 L16 hHeld X15 X10 X11 X16
      obtain ⟨bx, hbx⟩ : ∃ bx, bx = wq.heap.size := ⟨_, rfl⟩
      rw [← hbx] at HX1 HNX ⊢
      clear hbx
      exact key w16 bx ro ⟨HM1, HE1, HB1, HX1, HNX, HRo⟩
  case rest =>
    rintro w5 bx ro ⟨HM1, HE1, HB1, HX1, HNX, HRo⟩
    clear Mz Ez Lz HWq
    by_cases hz : openE M.off ev.n ev.player M.ms.length = 0
    rotate_left
    · have HD2 : Hid (M.doAccept ev = (M, openE M.off ev.n ev.player M.ms.length)) := Lib.hid (by rw [HDA.out, if_pos hz])
      have hzb : (openE M.off ev.n ev.player M.ms.length != 0) = true := by simpa using hz
      clear hz HRo HDA
      generalize openE M.off ev.n ev.player M.ms.length = er at *
      go_wp2_with fail
      go_ret
      exact ⟨by rw [HD2.out]; rfl, S, B, by rw [HD2.out]; exact HM1.out, Shr.refl _ _, MFr.new HB1.out⟩
    have HRg : Hid (OffG ro) := Lib.hid (by rw [HRo.out hz]; exact accept_og HOg.out)
    have HRo2 : Hid (ro = acceptO M.off) := Lib.hid (HRo.out hz)
    have HDB : Hid (M.doAccept ev = if ev.n = 0 then ({ M with off := acceptO M.off, res := 3, reason := 4 }, 0) else (M.backTo (pliesO (1 - ev.player) M.ms.length).toNat ev.now, 0)) := Lib.hid (by rw [HDA.out, if_neg (fun h => h hz)])
    rw [hz]
    clear hz HRo HDA
    go_upto_region 4 with (fail)
    have x0 := HX1.out.cell 0 rfl
    have x1 := HX1.out.cell 1 rfl
    have x2 := HX1.out.cell 2 rfl
    have x3 := HX1.out.cell 3 rfl
    have x4 := HX1.out.cell 4 rfl
    have x5 := HX1.out.cell 5 rfl
    have d28 := HM1.out.box.cell 28 rfl
    have f28 := HM1.out.box.frozen 28
    have d29 := HM1.out.box.cell 29 rfl
    have f29 := HM1.out.box.frozen 29
    have d30 := HM1.out.box.cell 30 rfl
    have f30 := HM1.out.box.frozen 30
    have d31 := HM1.out.box.cell 31 rfl
    have f31 := HM1.out.box.frozen 31
    have d32 := HM1.out.box.cell 32 rfl
    have f32 := HM1.out.box.frozen 32
    have d33 := HM1.out.box.cell 33 rfl
    have f33 := HM1.out.box.frozen 33
    have HP := Lib.hid (HM1.out.put (M' := ({ M with off := ro } : MatZ)) (B' := B) 28 [.int .i64 ro.b0, .int .i64 ro.b1, .int .i64 ro.l00, .int .i64 ro.l01, .int .i64 ro.l10, .int .i64 ro.l11] (by simp) rfl rfl rfl rfl (HM1.out.rd.imp (fun _ h => ⟨h.rd, h.per, h.pc, h.pr, h.jr⟩)))
    go_upto_region 5 with (fail)
    clear d28 f28 d29 f29 d30 f30 d31 f31 d32 f32 d33 f33 x0 x1 x2 x3 x4 x5
    refine wp_world ?_
    intro w6 e6
    have HM2 : Hid (MatchAt S base w6 b ({ M with off := ro } : MatZ) B) := Lib.hid (by rw [e6]; exact HP.out.1)
    have HF2 : Hid (MFr S b w w6) := Lib.hid (by rw [e6]; exact (MFr.new HB1.out).trans HP.out.2 (Shr.refl _ _))
    have HE2 : Hid (Box w6 w.heap.size [.int .i64 ev.kind, .int .i64 ev.player, .int .i64 ev.n, .int .i64 ev.now, .int .i64 ev.m.src, .int .i64 ev.m.dst, .int .i64 ev.m.piece] 40) := Lib.hid (by rw [e6]; exact HE1.out.farAll HEq.out 28 [.int .i64 ro.b0, .int .i64 ro.b1, .int .i64 ro.l00, .int .i64 ro.l01, .int .i64 ro.l10, .int .i64 ro.l11])
    clear HP HM1 HE1 HX1 e6
    have e2 := HE2.out.cell 2 rfl
    by_cases hn : ev.n = 0
    · have HD2 : Hid (M.doAccept ev = ({ M with off := acceptO M.off, res := 3, reason := 4 }, 0)) := Lib.hid (by rw [HDB.out, if_pos hn])
      have hnb : (ev.n == 0) = true := by simpa using hn
      have d16 := HM2.out.box.cell 16 rfl
      have f16 := HM2.out.box.frozen 16
      have d17 := HM2.out.box.cell 17 rfl
      have f17 := HM2.out.box.frozen 17
      have HP := Lib.hid (HM2.out.put (M' := { M with off := ro, res := 3, reason := 4 }) (B' := B) 16 [.int .i64 3, .int .i64 4] (by simp) rfl rfl rfl rfl (HM2.out.rd.imp (fun _ h => ⟨h.rd, h.per, h.pc, h.pr, h.jr⟩)))
      clear hn HDB
      go_wp2_with fail
      go_ret
      exact ⟨by rw [HD2.out]; rfl, S, B, by rw [HD2.out, ← HRo2.out]; exact HP.out.1, Shr.refl _ _, HF2.out.trans HP.out.2 (Shr.refl _ _)⟩
    have HD2 : Hid (M.doAccept ev = (M.backTo (pliesO (1 - ev.player) M.ms.length).toNat ev.now, 0)) := Lib.hid (by rw [HDB.out, if_neg hn])
    have hnb : (ev.n == 0) = false := by simpa using hn
    clear hn HDB
    go_upto_region 8 with (fail)
    clear e2 hnb
    generalize w6 = wq at *
    have Mz : MatchAt S base wq.drew b ({ M with off := ro } : MatZ) B := HM2.out.below (below_drew' (Below.refl _ _))
    have Ez := HE2.out.drew
    have Lz : Below wq.drew.heap.size wq.drew wq.drew := Below.refl _ _
    have HWq : Hid (MFr S b w wq.drew) := Lib.hid (Fr.drew HF2.out)
    have hw1 : IntKind.i64.wrap (1 - ev.player) = 1 - ev.player := IntWalk.i64_in _ (by have := HPl.out; omega) 
    clear HM2 HE2
    refine wp_region_noPanic ?_
    refine beginL (S := (fun w' => w'.cell? ⟨b, 14, none⟩ = some (.pointer (some ⟨B.g, 0, none⟩)) ∧ w'.cell? ⟨w.heap.size, 1, none⟩ = some (.int .i64 ev.player))) (L := []) (by kernel_rfl) ⟨Mz.box.cell 14 rfl, Ez.cell 1 rfl⟩ (fun hHeld => ?_)
    refine tkW 0 ?_
    refine tkW 3 ?_
    refine tkW 6 ?_
    refine tkL 1 ?_
    refine tkW 2 ?_
    refine cnL 4 fun K hK => ?_
    go_simp
    refine (count_m _ Mz).mono ?_
    rintro e w4 ⟨rfl, hbb⟩
    have M4 := Mz.below hbb
    have E4 := Ez.stays hbb
    have L4 := below_trans Lz hbb Lz.size
    clear hbb
    refine hK.out _ _ ⟨M4.box.cell 14 rfl, E4.cell 1 rfl⟩ (fun hHeld => ?_)
    clear hK K
    refine cnL 5 fun K hK => ?_
    go_simp
    refine (off.Plies_any (1 - ev.player) M.ms.length _ (by have := HPl.out; omega) (by omega) (by have := HLt.out; omega)).mono ?_
    rintro e w5' ⟨rfl, rfl⟩
    have hbb := Below.refl w4.heap.size w4
    obtain ⟨w5, hw5⟩ : ∃ w5, w5 = w4 := ⟨_, rfl⟩
    have hbb : Below w4.heap.size w4 w5 := by rw [hw5]; exact Below.refl _ _
    rw [← hw5]
    clear hw5
    have M5 := M4.below hbb
    have E5 := E4.stays hbb
    have L5 := below_trans L4 hbb L4.size
    clear hbb
    refine hK.out _ _ ⟨M5.box.cell 14 rfl, E5.cell 1 rfl⟩ (fun hHeld => ?_)
    clear hK K
    refine dnN ?_
    have HM1 := Lib.hid M5
    have HE1 := Lib.hid E5
    have HF1 : Hid (MFr S b w w5) := Lib.hid (HWq.out.trans (MFr.new L5) (Shr.refl _ _))
    clear M4 E4 L4 M5 E5 L5 Mz Ez Lz hHeld HWq
    obtain ⟨n, hn⟩ : ∃ n : Nat, pliesO (1 - ev.player) M.ms.length = (n : Int) := ⟨(pliesO (1 - ev.player) M.ms.length).toNat, by have := plies_le (1 - ev.player) M.ms.length; omega⟩
    have HNn := Lib.hid hn
    have HNl : Hid (n ≤ M.ms.length) := Lib.hid (by have := plies_le (1 - ev.player) M.ms.length; omega)
    rw [show off.plies (1 - ev.player) M.ms.length = (n : Int) from hn]
    clear hn hw1
    go_wp2_with fail
    go_loopw [47] (fun v47 wr => ∃ k : Nat, k ≤ n ∧ v47 = .int .i64 k ∧ Hid (MatchAt S base wr b { M with off := ro, ms := M.ms.take (M.ms.length - k) } B) ∧ Hid (MFr S b w wr) ∧ Hid (Box wr w.heap.size [.int .i64 ev.kind, .int .i64 ev.player, .int .i64 ev.n, .int .i64 ev.now, .int .i64 ev.m.src, .int .i64 ev.m.dst, .int .i64 ev.m.piece] 40)) (fun v _ => n - (intOf v).toNat)
    case atStart => exact ⟨0, Nat.zero_le _, rfl, Lib.hid (by rw [Nat.sub_zero, List.take_of_length_le (Nat.le_refl _)]; exact HM1.out), HF1, HE1⟩
    case round =>
      obtain ⟨k, hk, rfl, HMk, HFk, HEk⟩ := hrel
      by_cases hlt : k < n
      · have hlI : (k : Int) < (n : Int) := by omega
        have HLk := Lib.hid hlt
        have c14 := HMk.out.box.cell 14 rfl
        have HBk : Hid (base ≤ wr.heap.size) := Lib.hid (Nat.le_trans HBb.out HFk.out.size)
        have HGk := Lib.hid HMk.out.game
        go_wp2_with fail
        obtain ⟨up, us, ue, vl, vm, rows, hg⟩ := HGk.out
        refine (gx.Back_any wr hg HBk.out).mono ?_
        rintro e w5 hp
        rcases hp with ⟨h0, -⟩ | ⟨n1, hn1, rfl, vl', vm', rows', hg', hf'⟩
        · exfalso; rw [List.length_take] at h0; have := HNl.out; omega
        have MP := HMk.out.played hg' (Shr.refl _ _) hf'
        have HM5 : Hid (MatchAt S base w5 b { M with off := ro, ms := M.ms.take (M.ms.length - (k + 1)) } B) := Lib.hid (by
          have := MP.1
          rw [List.length_take] at hn1
          rw [show (M.ms.take (M.ms.length - k)).take n1 = M.ms.take (M.ms.length - (k + 1)) by rw [List.take_take]; congr 1; have := HNl.out; omega] at this
          exact this)
        have HF5 : Hid (MFr S b w w5) := Lib.hid (HFk.out.trans MP.2 (Shr.refl _ _))
        have HE5 : Hid (Box w5 w.heap.size [.int .i64 ev.kind, .int .i64 ev.player, .int .i64 ev.n, .int .i64 ev.now, .int .i64 ev.m.src, .int .i64 ev.m.dst, .int .i64 ev.m.piece] 40) := Lib.hid (HEk.out.held hf' HSX.out)
        clear hg hg' hf' MP c14 hn1
        have hkb : (k : Int) < 401 := by have := HNl.out; have := HLt.out; have := HLk.out; omega
        have hk0 : 0 ≤ (k : Int) := by omega
        go_wp2_with fail
        go_roundw
        case rel => exact ⟨k + 1, by have := HLk.out; omega, by go_num, HM5, HF5, HE5⟩
        case measure => have := HLk.out; simp [intOf]; omega
      obtain rfl : k = n := by omega
      obtain ⟨tk, htk⟩ : ∃ tk, tk = M.ms.take (M.ms.length - k) := ⟨_, rfl⟩
      rw [← htk] at HMk
      have HTk := Lib.hid htk
      have HTl : Hid (tk.length = M.ms.length - k) := Lib.hid (by rw [htk, List.length_take, Nat.min_eq_left (Nat.sub_le _ _)])
      clear htk
      have hlI : ¬ ((k : Int) < (k : Int)) := by omega
      clear hlt hk
      go_upto_region 12 with (fail)
      clear hlI
      generalize wr = wq at *
      have Mz : MatchAt S base wq.drew b ({ M with off := ro, ms := tk } : MatZ) B := HMk.out.below (below_drew' (Below.refl _ _))
      have Ez := HEk.out.drew
      have Lz : Below wq.drew.heap.size wq.drew wq.drew := Below.refl _ _
      have HWq : Hid (MFr S b w wq.drew) := Lib.hid (Fr.drew HFk.out)
      clear HMk HEk
      refine wp_region_noPanic ?_
      refine beginL (S := (fun w' => w'.cell? ⟨b, 28, none⟩ = some (.int .i64 { M with off := ro, ms := tk }.off.b0) ∧ w'.cell? ⟨b, 29, none⟩ = some (.int .i64 { M with off := ro, ms := tk }.off.b1) ∧ w'.cell? ⟨b, 30, none⟩ = some (.int .i64 { M with off := ro, ms := tk }.off.l00) ∧ w'.cell? ⟨b, 31, none⟩ = some (.int .i64 { M with off := ro, ms := tk }.off.l01) ∧ w'.cell? ⟨b, 32, none⟩ = some (.int .i64 { M with off := ro, ms := tk }.off.l10) ∧ w'.cell? ⟨b, 33, none⟩ = some (.int .i64 { M with off := ro, ms := tk }.off.l11) ∧ w'.cell? ⟨w.heap.size, 3, none⟩ = some (.int .i64 ev.now))) (L := [15]) (by kernel_rfl) (by and_intros <;> first | exact Mz.box.cell _ rfl | exact Ez.cell _ rfl) (fun hHeld => ?_)
      refine tkW 0 ?_
      refine tkW 1 ?_
      refine tkW 6 ?_
      refine tkW 2 ?_
      refine tkW 3 ?_
      refine tkW 4 ?_
      refine tkL 5 ?_
      refine cnL 7 fun K hK => ?_
      go_simp
      refine (count_m _ Mz).mono ?_
      rintro e w7 ⟨rfl, hbb⟩
      have M7 := Mz.below hbb
      have E7 := Ez.stays hbb
      have L7 := below_trans Lz hbb Lz.size
      clear hbb
      refine hK.out _ _ (by and_intros <;> first | exact M7.box.cell _ rfl | exact E7.cell _ rfl) (fun hHeld => ?_)
      clear hK K
      refine cnL 8 fun K hK => ?_
      go_simp
      refine (offBack ro tk.length _ HRg.out (by have := HTl.out; have := HLt.out; omega)).mono ?_
      rintro e w8 ⟨rfl, hbb⟩
      unfold offA
      have M8 := M7.below hbb
      have E8 := E7.stays hbb
      have L8 := below_trans L7 hbb L7.size
      clear hbb
      refine hK.out _ _ (by and_intros <;> first | exact M8.box.cell _ rfl | exact E8.cell _ rfl) (fun hHeld => ?_)
      clear hK K
      refine tkW 9 ?_
      refine tkW 10 ?_
      refine tkW 11 ?_
      refine tkW 12 ?_
      refine tkW 13 ?_
      refine tkW 14 ?_
      refine ltL 15 fun K hK => ?_
      rw [if_pos (by rfl)]
      refine wp_store_mid 47 (.tmp 69) (.tmp 65) (by rfl) b 28 #[.int .i64 (backO ro (tk.length : Nat)).b0, .int .i64 (backO ro (tk.length : Nat)).b1, .int .i64 (backO ro (tk.length : Nat)).l00, .int .i64 (backO ro (tk.length : Nat)).l01, .int .i64 (backO ro (tk.length : Nat)).l10, .int .i64 (backO ro (tk.length : Nat)).l11] (by rfl) (by rfl) (M8.box.has 28 6 (by simp [matV])) (by kernel_rfl) (by simp [Value.oneCell']) ?_
      refine K_world ?_
      intro w15 e15
      have P15 := M8.put (M' := { M with off := (backO ro (tk.length : Nat)), ms := tk }) (B' := B) 28 [.int .i64 (backO ro (tk.length : Nat)).b0, .int .i64 (backO ro (tk.length : Nat)).b1, .int .i64 (backO ro (tk.length : Nat)).l00, .int .i64 (backO ro (tk.length : Nat)).l01, .int .i64 (backO ro (tk.length : Nat)).l10, .int .i64 (backO ro (tk.length : Nat)).l11] (by simp) rfl rfl rfl rfl (M8.rd.imp (fun _ h => ⟨h.rd, h.per, h.pc, h.pr, h.jr⟩))
      have M15 : MatchAt S base w15 b { M with off := (backO ro (tk.length : Nat)), ms := tk } B := by rw [e15]; exact P15.1
      have FF15 : MFr S b wq.drew w15 := by rw [e15]; exact (MFr.new L8).trans P15.2 (Shr.refl _ _)
      have E15 : Box w15 (w.heap.size) [.int .i64 ev.kind, .int .i64 ev.player, .int .i64 ev.n, .int .i64 ev.now, .int .i64 ev.m.src, .int .i64 ev.m.dst, .int .i64 ev.m.piece] 40 := by rw [e15]; exact E8.farAll (fun e => HEq.out e) 28 _
      clear P15 e15
      refine hK.out _ _ ?_
      clear hK K
      refine dnN ?_
      have HM3 := Lib.hid M15
      have HE3 := Lib.hid E15
      have HF3 : Hid (MFr S b w w15) := Lib.hid (HWq.out.trans FF15 (Shr.refl _ _))
      clear M7 E7 L7 M8 E8 L8 M15 E15 FF15 Mz Ez Lz hHeld HWq
      go_upto_region 13 with (fail)
      generalize w15 = wq at *
      have Mz : MatchAt S base wq.drew b ({ M with off := (backO ro (tk.length : Nat)), ms := tk } : MatZ) B := HM3.out.below (below_drew' (Below.refl _ _))
      have Ez := HE3.out.drew
      have Lz : Below wq.drew.heap.size wq.drew wq.drew := Below.refl _ _
      have HWq : Hid (MFr S b w wq.drew) := Lib.hid (Fr.drew HF3.out)
      clear HM3 HE3
      refine wp_region_noPanic ?_
      refine beginL (S := (fun w' => w'.cell? ⟨w.heap.size, 3, none⟩ = some (.int .i64 ev.now))) (L := []) (by kernel_rfl) (Ez.cell 3 rfl) (fun hHeld => ?_)
      refine tkW 0 ?_
      refine tkW 1 ?_
      refine tkW 2 ?_
      refine tkW 4 ?_
      refine tkL 5 ?_
      refine cnL 3 fun K hK => ?_
      go_simp
      refine (turn_any _ Mz).mono ?_
      rintro e w3 ⟨rfl, hbb⟩
      have M3 := Mz.below hbb
      have E3 := Ez.stays hbb
      have L3 := below_trans Lz hbb Lz.size
      clear hbb
      refine hK.out _ _ (E3.cell 3 rfl) (fun hHeld => ?_)
      clear hK K
      refine tkW 6 ?_
      refine tkW 7 ?_
      refine tkW 8 ?_
      refine tkW 9 ?_
      refine cnL 10 fun K hK => ?_
      have dd := M3.box.cell 24 rfl
      have df := M3.box.frozen 24
      go_simp
      refine K_world ?_
      intro w10 e10
      clear dd df
      have P10 := M3.put (M' := { M with off := (backO ro (tk.length : Nat)), ms := tk, clk := { M.clk with turn := (nowZ M.R (tk)).turn } }) (B' := B) 24 [.int .i64 (nowZ M.R (tk)).turn] (by simp) rfl rfl rfl rfl (M3.rd.imp (fun _ h => ⟨h.rd, h.per, h.pc, h.pr, h.jr⟩))
      have M10 : MatchAt S base w10 b { M with off := (backO ro (tk.length : Nat)), ms := tk, clk := { M.clk with turn := (nowZ M.R (tk)).turn } } B := by rw [e10]; exact P10.1
      have FF10 : MFr S b wq.drew w10 := by rw [e10]; exact (MFr.new L3).trans P10.2 (Shr.refl _ _)
      have E10 : Box w10 (w.heap.size) [.int .i64 ev.kind, .int .i64 ev.player, .int .i64 ev.n, .int .i64 ev.now, .int .i64 ev.m.src, .int .i64 ev.m.dst, .int .i64 ev.m.piece] 40 := by rw [e10]; exact E3.far ⟨b, 24, none⟩ _ (fun e => HEq.out e)
      clear P10 e10
      refine hK.out _ _ (E10.cell 3 rfl) (fun hHeld => ?_)
      clear hK K
      refine tkW 11 ?_
      refine tkW 12 ?_
      refine tkW 13 ?_
      refine tkW 14 ?_
      refine cnL 15 fun K hK => ?_
      have dd := M10.box.cell 25 rfl
      have df := M10.box.frozen 25
      go_simp
      refine K_world ?_
      intro w15 e15
      clear dd df
      have P15 := M10.put (M' := { M with off := (backO ro (tk.length : Nat)), ms := tk, clk := { M.clk with turn := (nowZ M.R (tk)).turn, since := ev.now } }) (B' := B) 25 [.int .i64 ev.now] (by simp) rfl rfl rfl rfl (M10.rd.imp (fun _ h => ⟨h.rd, h.per, h.pc, h.pr, h.jr⟩))
      have M15 : MatchAt S base w15 b { M with off := (backO ro (tk.length : Nat)), ms := tk, clk := { M.clk with turn := (nowZ M.R (tk)).turn, since := ev.now } } B := by rw [e15]; exact P15.1
      have FF15 : MFr S b wq.drew w15 := by rw [e15]; exact FF10.trans P15.2 (Shr.refl _ _)
      have E15 : Box w15 (w.heap.size) [.int .i64 ev.kind, .int .i64 ev.player, .int .i64 ev.n, .int .i64 ev.now, .int .i64 ev.m.src, .int .i64 ev.m.dst, .int .i64 ev.m.piece] 40 := by rw [e15]; exact E10.far ⟨b, 25, none⟩ _ (fun e => HEq.out e)
      clear P15 e15
      refine hK.out _ _ (E15.cell 3 rfl) (fun hHeld => ?_)
      clear hK K
      refine dnN ?_
      have HM4 := Lib.hid M15
      have HF4 : Hid (MFr S b w w15) := Lib.hid (HWq.out.trans FF15 (Shr.refl _ _))
      clear M3 E3 L3 M10 E10 FF10 M15 E15 FF15 Mz Ez Lz hHeld HWq
      generalize w15 = w7 at *
      have d34 := HM4.out.box.cell 34 rfl
      have f34 := HM4.out.box.frozen 34
      have HP := Lib.hid (HM4.out.put (M' := ({ M with off := (backO ro (tk.length : Nat)), ms := tk, clk := { M.clk with turn := (nowZ M.R (tk)).turn, since := ev.now }, prem := [] } : MatZ)) (B' := { B with vr := .slice none 0 0 }) 34 [.slice none 0 0] (by simp) rfl rfl rfl rfl (HM4.out.rd.imp (fun w' h => ⟨h.rd, h.per, h.pc, RdL.nil _ _, h.jr⟩)))
      have HEnd : Hid (M.backTo (pliesO (1 - ev.player) M.ms.length).toNat ev.now = ({ M with off := (backO ro (tk.length : Nat)), ms := tk, clk := { M.clk with turn := (nowZ M.R (tk)).turn, since := ev.now }, prem := [] } : MatZ)) := Lib.hid (by
        rw [HNn.out, Int.toNat_natCast]
        unfold MatZ.backTo
        rw [HRo2.out, HTl.out, HTk.out])
      go_wp2_with fail
      go_ret
      exact ⟨by rw [HD2.out]; rfl, S, _, by rw [HD2.out, HEnd.out]; exact HP.out.1, Shr.refl _ _, HF4.out.trans HP.out.2 (Shr.refl _ _)⟩
end Go.Proofs.YtnodagljaoonjaaGreatDoor

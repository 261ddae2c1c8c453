/- match's Do. -/
import Derived.Test.YtnodagljaoonjaaGreatDoorC34
import Derived.Test.YtnodagljaoonjaaGreatDoorC09
import Derived.Test.YtnodagljaoonjaaGreatDoorC05
namespace Go.Proofs.YtnodagljaoonjaaGreatDoor
open Go.ChangeShapes Go.WideShapes Go.ChangeAt Go.RowKit
set_option linter.unusedVariables false
variable {S : Nat → Prop} {base b : Nat} {M : MatZ} {B : MatB}
theorem runs_keep (now : Int) : ∀ (f : Nat) (M : MatZ), (MatZ.runs now f M).jr = M.jr ∧ (MatZ.runs now f M).R = M.R ∧ (MatZ.runs now f M).CR = M.CR
 | 0, M => ⟨rfl, rfl, rfl⟩
 | f + 1, M => by
  rw [MatZ.runs]
  split
  ·split
   ·exact runs_keep now f _
   ·exact ⟨rfl, rfl, rfl⟩
  ·exact ⟨rfl, rfl, rfl⟩
theorem kind_keep (M : MatZ) (e : EvZ) : (M.kind e).1.jr = M.jr ∧ (M.kind e).1.R = M.R ∧ (M.kind e).1.CR = M.CR := by
 unfold MatZ.kind MatZ.doMove MatZ.doOffer MatZ.doAccept MatZ.doClaim MatZ.doPremove MatZ.backTo
 repeat' split
 all_goals first | exact ⟨rfl, rfl, rfl⟩ | exact runs_keep e.now 400 (M.move e.m e.now)
theorem keyed {P F : World → Nat → Prop} {G : Prop} (main : (∀ w5 bx, F w5 bx → P w5 bx) → G) (rest : ∀ w5 bx, F w5 bx → P w5 bx) : G := main rest
theorem Tab.mono {base base' : Nat} {w w' : World} (h : Tab base w) (hb : base ≤ base') (hw : Below base w w') : Tab base' w' := ⟨(h.below hw).1, fun g hg => Nat.lt_of_lt_of_le (h.2 g hg) hb⟩
theorem MatchAt.base' {w w' : World} (m : MatchAt S base w b M B) (h : MFr S b w w') (hb : base ≤ w.heap.size) : Below base w w' := MFr.base m h hb
theorem rdJ_put {w : World} {bb : Nat} {v : Value} {es : List EntZ} {e : EntZ} (h : w.ownsRow bb 90 2 v (es.length + 1) (flatJ (es ++ [e]))) : RdJ w v (es ++ [e]) := by
 have h2 : w.ownsRow bb 90 2 v (es ++ [e]).length (flatJ (es ++ [e])) := by rw [List.length_append]; exact h
 exact Rd.of_own h2
set_option maxRecDepth 100000 in
set_option maxHeartbeats 32000000 in
theorem Do_any (HS : SortMvSaid) (HI : ItoaSaid) (HJ : JoinSaidM) (ev : EvZ) (w : World) (h : MatchAt S base w b M B) (hb : base ≤ w.heap.size) (hi : MInv M) (hjl : M.jr.length < 90) (ht : Tab base w) (hok : evOk ev) : Calls Tryz.prog 11 #[.pointer (some ⟨b, 0, none⟩), .agg #[.int .i64 ev.kind, .int .i64 ev.player, .int .i64 ev.n, .int .i64 ev.now, .int .i64 ev.m.src, .int .i64 ev.m.dst, .int .i64 ev.m.piece]] w fun e w' => e = .returned (.int .i64 (M.go ev).2) ∧ MPost S base b w (M.go ev).1 w' := by
 have HIh := Lib.hid HI
 have HJh := Lib.hid HJ
 have HIv := Lib.hid hi
 have HJl := Lib.hid hjl
 have HJo := Lib.hid hi.jo
 have HTab := Lib.hid ht
 have HOk := Lib.hid hok
 have HDG : Hid (M.go ev = if M.preE ev ≠ 0 then (M, M.preE ev) else if (M.kind ev).2 ≠ 0 then (M, (M.kind ev).2) else (((M.kind ev).1.put ev).over, 0)) := Lib.hid rfl
 clear hi hjl ht hok HI HJ
 have HSh := Lib.hid HS
 have HM := Lib.hid h
 have HBb := Lib.hid hb
 have HSX : Hid (¬ S w.heap.size) := Lib.hid (fun hk => by obtain ⟨up, us, ue, vl, vm, rows, hg⟩ := h.game; have := (hg.lo _ hk).2; omega)
 have HEb : Hid (b < w.heap.size) := Lib.hid h.box.lt
 clear h hb HS
 go_enter Tryz.func11, Tryz.ntmps11
 go_upto_region 1 with (fail)
 refine opn1 fun w0 y0_ yb_ hs_ => ?_
 have HE0 := Lib.hid y0_
 have HB0 := Lib.hid yb_
 clear hs_ y0_ yb_
 have HM0 := Lib.hid (HM.out.below HB0.out)
 have HEq : Hid (w.heap.size ≠ b) := Lib.hid (fun e => by have := HEb.out; omega)
 have e0 := HE0.out.cell 0 rfl
 have e1 := HE0.out.cell 1 rfl
 by_cases hA : ev.kind < 0 ∨ 6 < ev.kind ∨ (ev.player ≠ 0 ∧ ev.player ≠ 1)
 ·have HPz : Hid (M.preE ev = 1) := Lib.hid (by unfold MatZ.preE; rw [if_pos hA])
  have HD2 : Hid (M.go ev = (M, 1)) := Lib.hid (by rw [HDG.out, if_pos (by rw [HPz.out]; decide), HPz.out])
  by_cases k0 : ev.kind < 0
  ·clear hA
   go_wp2_with fail
   go_ret
   exact ⟨by rw [HD2.out]; rfl, S, B, by rw [HD2.out]; exact HM0.out, Shr.refl _ _, MFr.new HB0.out⟩
  by_cases k6 : 6 < ev.kind
  ·clear hA
   go_wp2_with fail
   go_ret
   exact ⟨by rw [HD2.out]; rfl, S, B, by rw [HD2.out]; exact HM0.out, Shr.refl _ _, MFr.new HB0.out⟩
  have p0 : (ev.player != 0) = true := by simp; omega
  have p1 : (ev.player != 1) = true := by simp; omega
  clear hA
  go_wp2_with fail
  go_ret
  exact ⟨by rw [HD2.out]; rfl, S, B, by rw [HD2.out]; exact HM0.out, Shr.refl _ _, MFr.new HB0.out⟩
 have k0 : ¬ ev.kind < 0 := by omega
 have k6 : ¬ 6 < ev.kind := by omega
 go_cut [8] (fun v8 wx => v8 = .bool false ∧ w0 = wx)
 case first =>
  by_cases hp0 : ev.player = 0
  ·have p0 : (ev.player != 0) = false := by simpa using hp0
   clear hp0
   go_wp2_with fail
   go_meet
   exact ⟨rfl, rfl⟩
  ·have p0 : (ev.player != 0) = true := by simpa using hp0
   have p1 : (ev.player != 1) = false := by simp; omega
   clear hp0
   go_wp2_with fail
   go_meet
   exact ⟨rfl, rfl⟩
 case rest =>
  obtain ⟨rfl, rfl⟩ := hcut
  clear k0 k6 e0 e1
  go_upto_region 3 with (fail)
  have d35 := HM0.out.box.cell 35 rfl
  have e3 := HE0.out.cell 3 rfl
  by_cases ht1 : ev.now < M.last
  ·have HPz : Hid (M.preE ev = 11) := Lib.hid (by unfold MatZ.preE; rw [if_neg hA, if_pos (.inl ht1)])
   have HD2 : Hid (M.go ev = (M, 11)) := Lib.hid (by rw [HDG.out, if_pos (by rw [HPz.out]; decide), HPz.out])
   go_quiet (fail)
   have HM3 : Hid (MatchAt S base (w0.drewN nq) b M B) := Lib.hid (HM0.out.below (below_drewN (Below.refl _ _) nq))
   have HE3 := Lib.hid (HE0.out.drewN nq)
   have HB3 : Hid (Below w.heap.size w (w0.drewN nq)) := Lib.hid (below_drewN HB0.out nq)
   clear HM0 HE0 HB0 d35 e3
   generalize w0.drewN nq = w3 at *
   go_wp2_with fail
   go_ret
   exact ⟨by rw [HD2.out]; rfl, S, B, by rw [HD2.out]; exact HM3.out, Shr.refl _ _, MFr.new HB3.out⟩
  by_cases ht2 : 100000000 < ev.now
  ·have HPz : Hid (M.preE ev = 11) := Lib.hid (by unfold MatZ.preE; rw [if_neg hA, if_pos (.inr ht2)])
   have HD2 : Hid (M.go ev = (M, 11)) := Lib.hid (by rw [HDG.out, if_pos (by rw [HPz.out]; decide), HPz.out])
   go_quiet (fail)
   have HM3 : Hid (MatchAt S base (w0.drewN nq) b M B) := Lib.hid (HM0.out.below (below_drewN (Below.refl _ _) nq))
   have HE3 := Lib.hid (HE0.out.drewN nq)
   have HB3 : Hid (Below w.heap.size w (w0.drewN nq)) := Lib.hid (below_drewN HB0.out nq)
   clear HM0 HE0 HB0 d35 e3
   generalize w0.drewN nq = w3 at *
   go_wp2_with fail
   go_ret
   exact ⟨by rw [HD2.out]; rfl, S, B, by rw [HD2.out]; exact HM3.out, Shr.refl _ _, MFr.new HB3.out⟩
  have HTm : Hid (¬ (ev.now < M.last ∨ 100000000 < ev.now)) := Lib.hid (by omega)
  have HPc : Hid (CrG M.CR ∧ ClkG M.CR M.clk ∧ M.clk.since ≤ ev.now ∧ ev.now ≤ 100000000) := Lib.hid ⟨HIv.out.cr, HIv.out.ck, by have := HIv.out.sn; omega, by omega⟩
  go_quiet (fail)
  have HM3 : Hid (MatchAt S base (w0.drewN nq) b M B) := Lib.hid (HM0.out.below (below_drewN (Below.refl _ _) nq))
  have HE3 := Lib.hid (HE0.out.drewN nq)
  have HB3 : Hid (Below w.heap.size w (w0.drewN nq)) := Lib.hid (below_drewN HB0.out nq)
  clear HM0 HE0 HB0 d35 e3
  generalize w0.drewN nq = w3 at *
  clear ht1 ht2
  have d16 := HM3.out.box.cell 16 rfl
  by_cases hr : M.res = 0
  rotate_left
  ·have HPz : Hid (M.preE ev = 14) := Lib.hid (by unfold MatZ.preE; rw [if_neg hA, if_neg HTm.out, if_pos hr])
   have HD2 : Hid (M.go ev = (M, 14)) := Lib.hid (by rw [HDG.out, if_pos (by rw [HPz.out]; decide), HPz.out])
   have hrb : (M.res != 0) = true := by simpa using hr
   clear hr
   generalize M.res = rr at *
   go_wp2_with fail
   go_ret
   exact ⟨by rw [HD2.out]; rfl, S, B, by rw [HD2.out]; exact HM3.out, Shr.refl _ _, MFr.new HB3.out⟩
  have HPr : Hid (M.preE ev = if 0 ≤ (lookC M.CR M.clk ev.now).fallen ∧ ev.kind ≠ 4 ∧ ¬ (ev.kind = 5 ∧ ev.n = 2) then 11 else 0) := Lib.hid (by unfold MatZ.preE; rw [if_neg hA, if_neg HTm.out, if_neg (fun h => h hr), if_neg (by have := HJl.out; omega)])
  have hrb : (M.res != 0) = false := by simpa using hr
  have d36 := HM3.out.box.cell 36 rfl
  obtain ⟨ja0, jc0, hja, hjc, hjm, -⟩ := HM3.out.fr.jr.form
  unfold maxLen at hjm
  have hd36 : w3.cell? ⟨b, 36, none⟩ = some (.slice ja0 M.jr.length jc0) := d36.trans (by rw [← hja])
  have hjl : ((M.jr.length : Int) == 1000) = false := by have := HJl.out; simp; omega
  clear hr d36 hja
  go_upto_region 9 with (fail)
  clear hrb d16 hd36 hjl hjc hjm
  generalize w3 = wq at *
  have Mz : MatchAt S base wq.drew b M B := HM3.out.below (below_drew' (Below.refl _ _))
  have Ez := HE3.out.drew
  have Lz : Below wq.drew.heap.size wq.drew wq.drew := Below.refl _ _
  have HWq : Hid (Below w.heap.size w wq.drew) := Lib.hid (below_drew' HB3.out)
  clear HM3 HE3 HB3
  refine' keyed (F := fun w5 bx => Hid (MatchAt S base w5 b M B) ∧ Hid (Box w5 w.heap.size [.int .i64 ev.kind, .int .i64 ev.player, .int .i64 ev.n, .int .i64 ev.now, .int .i64 ev.m.src, .int .i64 ev.m.dst, .int .i64 ev.m.piece] 40) ∧ Hid (Below w.heap.size w w5) ∧ Hid (Box w5 bx [.int .i64 (lookC M.CR M.clk ev.now).l0, .int .i64 (lookC M.CR M.clk ev.now).l1, .int .i64 (lookC M.CR M.clk ev.now).m0, .int .i64 (lookC M.CR M.clk ev.now).m1, .int .i64 (lookC M.CR M.clk ev.now).p0, .int .i64 (lookC M.CR M.clk ev.now).p1, .int .i64 (lookC M.CR M.clk ev.now).turn, .int .i64 (lookC M.CR M.clk ev.now).since, .bool (lookC M.CR M.clk ev.now).st, .int .i64 (lookC M.CR M.clk ev.now).fallen] 44)) ?main ?rest
  case main =>
   intro key
   refine wp_region_noPanic ?_
   refine beginL (S := (fun w' => w'.cell? ⟨b, 11, none⟩ = some (.slice B.pa M.CR.ps.length B.pc) ∧ w'.cell? ⟨b, 12, none⟩ = some (.int .i64 M.CR.inc) ∧ w'.cell? ⟨b, 13, none⟩ = some (.int .i64 M.CR.delay) ∧ w'.cell? ⟨b, 18, none⟩ = some (.int .i64 M.clk.l0) ∧ w'.cell? ⟨b, 19, none⟩ = some (.int .i64 M.clk.l1) ∧ w'.cell? ⟨b, 20, none⟩ = some (.int .i64 M.clk.m0) ∧ w'.cell? ⟨b, 21, none⟩ = some (.int .i64 M.clk.m1) ∧ w'.cell? ⟨b, 22, none⟩ = some (.int .i64 M.clk.p0) ∧ w'.cell? ⟨b, 23, none⟩ = some (.int .i64 M.clk.p1) ∧ w'.cell? ⟨b, 24, none⟩ = some (.int .i64 M.clk.turn) ∧ w'.cell? ⟨b, 25, none⟩ = some (.int .i64 M.clk.since) ∧ w'.cell? ⟨b, 26, none⟩ = some (.bool M.clk.st) ∧ w'.cell? ⟨b, 27, none⟩ = some (.int .i64 M.clk.fallen) ∧ w'.cell? ⟨w.heap.size, 3, none⟩ = some (.int .i64 ev.now))) (L := []) (by kernel_rfl) (by and_intros <;> first | exact Mz.box.cell _ rfl | exact Ez.cell _ rfl) (fun hHeld => ?_)
   refine tkW 0 ?_
   refine tkW 4 ?_
   refine tkW 9 ?_
   refine tkW 1 ?_
   refine tkW 5 ?_
   refine tkL 10 ?_
   refine tkW 2 ?_
   refine tkW 6 ?_
   refine tkL 3 ?_
   refine tkW 7 ?_
   refine tkL 8 ?_
   refine rdL (rs := [11, 15]) ?_
   refine (AllReadyL.cons (by first | (simp only [List.getElem?_toArray, List.getElem?_cons_zero, List.getElem?_cons_succ] <;> rfl) | rfl) (fun K hK => ?_) (AllReadyL.cons (by first | (simp only [List.getElem?_toArray, List.getElem?_cons_zero, List.getElem?_cons_succ] <;> rfl) | rfl) (fun K hK => ?_) AllReadyL.nil))
   ·skip
    go_simp
    refine (lookC_any M.CR M.clk ev.now B.pa B.pc _ HPc.out.1 HPc.out.2.1 HPc.out.2.2.1 HPc.out.2.2.2 Mz.fr.per).mono ?_
    rintro e w11 ⟨rfl, hbb⟩
    unfold clkA
    have M11 := Mz.below hbb
    have E11 := Ez.stays hbb
    have L11 := below_trans Lz hbb Lz.size
    clear hbb
    refine hK.out _ _ (by and_intros <;> first | exact M11.box.cell _ rfl | exact E11.cell _ rfl) (fun hHeld => ?_)
    clear hK K
    refine tkW 12 ?_
    refine tkW 13 ?_
    refine tkW 14 ?_
    refine cnL 15 fun K hK => ?_
    go_simp
    refine K_world ?_
    intro w15 e15
    have hbb : Below w11.heap.size w11 w15 := by rw [e15]; exact (Below.refl _ _).alloc (Nat.le_refl _) _
    have X15 : Box w15 (w11.heap.size) [.int .i64 0, .int .i64 0, .int .i64 0, .int .i64 0, .int .i64 0, .int .i64 0, .int .i64 0, .int .i64 0, .bool false, .int .i64 0] 44 := by rw [e15]; exact Box.new' _ _ _ _ rfl
    have M15 := M11.below hbb
    have E15 := E11.stays hbb
    have L15 := below_trans L11 hbb L11.size
    clear hbb e15
    refine hK.out _ _ (by and_intros <;> first | exact M15.box.cell _ rfl | exact E15.cell _ rfl) (fun hHeld => ?_)
    clear hK K
    refine cnL 16 fun K hK => ?_
    rw [if_pos (by rfl)]
    refine wp_store_mid 44 (.tmp 5) (.tmp 67) (by rfl) (w11.heap.size) 0 #[.int .i64 (lookC M.CR M.clk ev.now).l0, .int .i64 (lookC M.CR M.clk ev.now).l1, .int .i64 (lookC M.CR M.clk ev.now).m0, .int .i64 (lookC M.CR M.clk ev.now).m1, .int .i64 (lookC M.CR M.clk ev.now).p0, .int .i64 (lookC M.CR M.clk ev.now).p1, .int .i64 (lookC M.CR M.clk ev.now).turn, .int .i64 (lookC M.CR M.clk ev.now).since, .bool (lookC M.CR M.clk ev.now).st, .int .i64 (lookC M.CR M.clk ev.now).fallen] (by rfl) (by rfl) (X15.has 0 10 (by simp)) (by kernel_rfl) (by simp [Value.oneCell']) ?_
    refine K_world ?_
    intro w16 e16
    have X16 : Box w16 (w11.heap.size) [.int .i64 (lookC M.CR M.clk ev.now).l0, .int .i64 (lookC M.CR M.clk ev.now).l1, .int .i64 (lookC M.CR M.clk ev.now).m0, .int .i64 (lookC M.CR M.clk ev.now).m1, .int .i64 (lookC M.CR M.clk ev.now).p0, .int .i64 (lookC M.CR M.clk ev.now).p1, .int .i64 (lookC M.CR M.clk ev.now).turn, .int .i64 (lookC M.CR M.clk ev.now).since, .bool (lookC M.CR M.clk ev.now).st, .int .i64 (lookC M.CR M.clk ev.now).fallen] 44 := by rw [e16]; exact X15.store rfl
    have hbn : wq.heap.size ≤ w11.heap.size := L11.size
    have L16 : Below wq.drew.heap.size wq.drew w16 := by rw [e16]; exact below_setCells L15 hbn 0 _
    have M16 := Mz.below L16
    have E16 := Ez.stays L16
    clear e16 hbn
    refine hK.out _ _ (by and_intros <;> first | exact M16.box.cell _ rfl | exact E16.cell _ rfl) (fun hHeld => ?_)
    clear hK K
    refine tkW 17 ?_
    refine dnN ?_
    have HM1 := Lib.hid M16
    have HE1 := Lib.hid E16
    have HB1 : Hid (Below w.heap.size w w16) := Lib.hid (below_trans HWq.out L16 HWq.out.size)
    have HX1 := Lib.hid X16
    clear M11 E11 L11 M15 E15 L15 M16 E16 L16 hHeld X15 X16
    generalize w11.heap.size = bx at HX1 ⊢
    exact key w16 bx ⟨HM1, HE1, HB1, HX1⟩
   ·skip
    go_simp
    refine K_world ?_
    intro w15 e15
    have hbb : Below wq.drew.heap.size wq.drew w15 := by rw [e15]; exact (Below.refl _ _).alloc (Nat.le_refl _) _
    have X15 : Box w15 (wq.heap.size) [.int .i64 0, .int .i64 0, .int .i64 0, .int .i64 0, .int .i64 0, .int .i64 0, .int .i64 0, .int .i64 0, .bool false, .int .i64 0] 44 := by rw [e15]; exact Box.new' _ _ _ _ rfl
    have M15 := Mz.below hbb
    have E15 := Ez.stays hbb
    have L15 := below_trans Lz hbb Lz.size
    clear hbb e15
    refine hK.out _ _ (by and_intros <;> first | exact M15.box.cell _ rfl | exact E15.cell _ rfl) (fun hHeld => ?_)
    clear hK K
    refine cnL 11 fun K hK => ?_
    go_simp
    refine (lookC_any M.CR M.clk ev.now B.pa B.pc _ HPc.out.1 HPc.out.2.1 HPc.out.2.2.1 HPc.out.2.2.2 M15.fr.per).mono ?_
    rintro e w11 ⟨rfl, hbb⟩
    unfold clkA
    have M11 := M15.below hbb
    have E11 := E15.stays hbb
    have L11 := below_trans L15 hbb L15.size
    have X11 := X15.stays hbb
    clear hbb
    refine hK.out _ _ (by and_intros <;> first | exact M11.box.cell _ rfl | exact E11.cell _ rfl) (fun hHeld => ?_)
    clear hK K
    refine tkW 12 ?_
    refine tkW 13 ?_
    refine tkW 14 ?_
    refine cnL 16 fun K hK => ?_
    rw [if_pos (by rfl)]
    refine wp_store_mid 44 (.tmp 5) (.tmp 67) (by rfl) (wq.heap.size) 0 #[.int .i64 (lookC M.CR M.clk ev.now).l0, .int .i64 (lookC M.CR M.clk ev.now).l1, .int .i64 (lookC M.CR M.clk ev.now).m0, .int .i64 (lookC M.CR M.clk ev.now).m1, .int .i64 (lookC M.CR M.clk ev.now).p0, .int .i64 (lookC M.CR M.clk ev.now).p1, .int .i64 (lookC M.CR M.clk ev.now).turn, .int .i64 (lookC M.CR M.clk ev.now).since, .bool (lookC M.CR M.clk ev.now).st, .int .i64 (lookC M.CR M.clk ev.now).fallen] (by rfl) (by rfl) (X11.has 0 10 (by simp)) (by kernel_rfl) (by simp [Value.oneCell']) ?_
    refine K_world ?_
    intro w16 e16
    have X16 : Box w16 (wq.heap.size) [.int .i64 (lookC M.CR M.clk ev.now).l0, .int .i64 (lookC M.CR M.clk ev.now).l1, .int .i64 (lookC M.CR M.clk ev.now).m0, .int .i64 (lookC M.CR M.clk ev.now).m1, .int .i64 (lookC M.CR M.clk ev.now).p0, .int .i64 (lookC M.CR M.clk ev.now).p1, .int .i64 (lookC M.CR M.clk ev.now).turn, .int .i64 (lookC M.CR M.clk ev.now).since, .bool (lookC M.CR M.clk ev.now).st, .int .i64 (lookC M.CR M.clk ev.now).fallen] 44 := by rw [e16]; exact X11.store rfl
    have hbn : wq.heap.size ≤ wq.heap.size := Nat.le_refl _
    have L16 : Below wq.drew.heap.size wq.drew w16 := by rw [e16]; exact below_setCells L11 hbn 0 _
    have M16 := Mz.below L16
    have E16 := Ez.stays L16
    clear e16 hbn
    refine hK.out _ _ (by and_intros <;> first | exact M16.box.cell _ rfl | exact E16.cell _ rfl) (fun hHeld => ?_)
    clear hK K
    refine tkW 17 ?_
    refine dnN ?_
    have HM1 := Lib.hid M16
    have HE1 := Lib.hid E16
    have HB1 : Hid (Below w.heap.size w w16) := Lib.hid (below_trans HWq.out L16 HWq.out.size)
    have HX1 := Lib.hid X16
    clear M11 E11 L11 M15 E15 L15 M16 E16 L16 hHeld X15 X11 X16
    obtain ⟨bx, hbx⟩ : ∃ bx, bx = wq.heap.size := ⟨_, rfl⟩
    rw [← hbx] at HX1 ⊢
    clear hbx
    exact key w16 bx ⟨HM1, HE1, HB1, HX1⟩
  case rest =>
   rintro w5 bx ⟨HM1, HE1, HB1, HX1⟩
   clear Mz Ez Lz HWq
   have x9 := HX1.out.cell 9 rfl
   have e0 := HE1.out.cell 0 rfl
   have e2 := HE1.out.cell 2 rfl
   by_cases hf : (lookC M.CR M.clk ev.now).fallen < 0
   ·have HPz : Hid (M.preE ev = 0) := Lib.hid (by rw [HPr.out, if_neg (by omega)])
    have hfb : ¬ (0 ≤ (lookC M.CR M.clk ev.now).fallen) := by omega
    generalize (lookC M.CR M.clk ev.now).fallen = lf at *
    have HPE : Hid (EvPre M ev) := Lib.hid (inv_pre HIv.out HPz.out)
    have HDG2 : Hid (M.go ev = if (M.kind ev).2 ≠ 0 then (M, (M.kind ev).2) else (((M.kind ev).1.put ev).over, 0)) := Lib.hid (by rw [HDG.out, if_neg (fun h => h HPz.out)])
    have HBb1 : Hid (base ≤ w5.heap.size) := Lib.hid (Nat.le_trans HBb.out HB1.out.size)
    go_upto_region 12 with (fail)
    have e0 := HE1.out.cell 0 rfl
    have e1 := HE1.out.cell 1 rfl
    have e2 := HE1.out.cell 2 rfl
    have e3 := HE1.out.cell 3 rfl
    have e4 := HE1.out.cell 4 rfl
    have e5 := HE1.out.cell 5 rfl
    have e6 := HE1.out.cell 6 rfl
    go_wp2_with fail
    clear e0 e1 e2 e3 e4 e5 e6
    refine (kind_any HSh.out ev w5 HM1.out HBb1.out HPE.out).mono ?_
    rintro e w1 ⟨rfl, S1, B1, hm1, hs1, hf1⟩
    have HM2 := Lib.hid hm1
    have HS1 : Hid (Shr w S S1) := Lib.hid (fun k hk h => hs1 k (Nat.lt_of_lt_of_le hk HB1.out.size) h)
    have HF2 : Hid (MFr S b w w1) := Lib.hid ((MFr.new HB1.out).trans hf1 (Shr.refl _ _))
    have HE2 : Hid (Box w1 w.heap.size [.int .i64 ev.kind, .int .i64 ev.player, .int .i64 ev.n, .int .i64 ev.now, .int .i64 ev.m.src, .int .i64 ev.m.dst, .int .i64 ev.m.piece] 40) := Lib.hid (HE1.out.held hf1 (fun h => by rcases h with h | h; exact HSX.out h; have h2 : w.heap.size = b := h; have := HEb.out; omega))
    clear hm1 hs1 hf1 HM1 HE1
    by_cases hz : (M.kind ev).2 = 0
    rotate_left
    ·have HD2 : Hid (M.go ev = (M, (M.kind ev).2)) := Lib.hid (by rw [HDG2.out, if_pos hz])
     have HKb : Hid ((M.kind ev).1 = M) := Lib.hid (kind_bad M ev hz)
     have hzb : ((M.kind ev).2 != 0) = true := by simpa using hz
     rw [HKb.out] at HM2
     clear hz
     generalize (M.kind ev).2 = kc at *
     go_wp2_with fail
     go_ret
     exact ⟨by rw [HD2.out]; rfl, S1, B1, by rw [HD2.out]; exact HM2.out, HS1.out, HF2.out⟩
    have HD3 : Hid (M.go ev = (((M.kind ev).1.put ev).over, 0)) := Lib.hid (by rw [HDG2.out, if_neg (fun h => h hz)])
    rw [hz]
    clear hz HDG2
    have e3 := HE2.out.cell 3 rfl
    have d35 := HM2.out.box.cell 35 rfl
    have f35 := HM2.out.box.frozen 35
    go_upto_region 16 with (fail)
    have HQ := Lib.hid (HM2.out.put (M' := ({ (M.kind ev).1 with last := ev.now } : MatZ)) (B' := B1) 35 [.int .i64 ev.now] (by simp) rfl rfl rfl rfl (HM2.out.rd.imp (fun _ h => ⟨h.rd, h.per, h.pc, h.pr, h.jr⟩)))
    have HM3 : Hid (MatchAt S1 base (w1.setCell ⟨b, 35, none⟩ (.int .i64 ev.now)) b ({ (M.kind ev).1 with last := ev.now } : MatZ) B1) := Lib.hid HQ.out.1
    have HF3 : Hid (MFr S b w (w1.setCell ⟨b, 35, none⟩ (.int .i64 ev.now))) := Lib.hid (HF2.out.trans HQ.out.2 HS1.out)
    have HE3 : Hid (Box (w1.setCell ⟨b, 35, none⟩ (.int .i64 ev.now)) w.heap.size [.int .i64 ev.kind, .int .i64 ev.player, .int .i64 ev.n, .int .i64 ev.now, .int .i64 ev.m.src, .int .i64 ev.m.dst, .int .i64 ev.m.piece] 40) := Lib.hid (HE2.out.far ⟨b, 35, none⟩ _ (fun e => HEq.out e))
    clear HQ HM2 HE2 e3 d35 f35
    generalize (w1.setCell ⟨b, 35, none⟩ (.int .i64 ev.now)) = w5' at *
    obtain ⟨w5, hw5⟩ : ∃ w5, w5 = w5' := ⟨_, rfl⟩
    rw [← hw5] at HM3 HE3 HF3 ⊢
    clear hw5
    have HF4 := HF3
    have HTb : Hid (∀ {W : World}, MatchAt S1 base W b ({ (M.kind ev).1 with last := ev.now } : MatZ) B1 → Below w5.heap.size w5 W → Tab W.heap.size W) := Lib.hid (fun hm hbl => HTab.out.mono (Nat.le_trans HBb.out (Nat.le_trans HF4.out.size hbl.size)) ((HM.out.base' HF4.out HBb.out).trans (hbl.mono (Nat.le_trans HBb.out HF4.out.size))))
    have HLo : Hid (∀ q, (S1 q ∨ one1 b q) → q < w5.heap.size) := Lib.hid (fun q hq => by
     obtain ⟨up, us, ue, vl, vm, rows, hg⟩ := HM3.out.game
     rcases hq with hq | hq
     ·exact (hg.lo q hq).2
     ·rw [show q = b from hq]; exact HM3.out.box.lt)
    generalize hq5 : w5 = wq at *
    have Mz : MatchAt S1 base wq.drew b ({ (M.kind ev).1 with last := ev.now } : MatZ) B1 := HM3.out.below (below_drew' (Below.refl _ _))
    have Ez := HE3.out.drew
    have Lz : Below wq.drew.heap.size wq.drew wq.drew := Below.refl _ _
    have HWq : Hid (MFr S1 b wq wq.drew) := Lib.hid (Fr.drew (MFr.refl _ _ _))
    clear HM3 HE3 HF3
    refine wp_region_noPanic ?_
    refine beginL (S := (fun w' => w'.cell? ⟨b, 36, none⟩ = some B1.vj ∧ w'.cell? ⟨w.heap.size, 0, none⟩ = some (.int .i64 ev.kind) ∧ w'.cell? ⟨w.heap.size, 1, none⟩ = some (.int .i64 ev.player) ∧ w'.cell? ⟨w.heap.size, 2, none⟩ = some (.int .i64 ev.n) ∧ w'.cell? ⟨w.heap.size, 3, none⟩ = some (.int .i64 ev.now) ∧ w'.cell? ⟨w.heap.size, 4, none⟩ = some (.int .i64 ev.m.src) ∧ w'.cell? ⟨w.heap.size, 5, none⟩ = some (.int .i64 ev.m.dst) ∧ w'.cell? ⟨w.heap.size, 6, none⟩ = some (.int .i64 ev.m.piece))) (L := [13]) (by kernel_rfl) (by and_intros <;> first | exact Mz.box.cell _ rfl | exact Ez.cell _ rfl) (fun hHeld => ?_)
    refine tkW 0 ?_
    refine tkW 1 ?_
    refine tkL 5 ?_
    refine tkW 2 ?_
    refine tkW 3 ?_
    refine tkL 4 ?_
    refine cnL 6 fun K hK => ?_
    go_simp
    refine (Entry_any HIh.out HJh.out ev _ (HTb.out Mz (below_drew' (Below.refl _ _))) HOk.out).mono ?_
    rintro e w6 ⟨rfl, hbb⟩
    have M6 := Mz.below hbb
    have E6 := Ez.stays hbb
    have L6 := below_trans Lz hbb Lz.size
    clear hbb
    refine hK.out _ _ (by and_intros <;> first | exact M6.box.cell _ rfl | exact E6.cell _ rfl) (fun hHeld => ?_)
    clear hK K
    refine cnL 7 fun K hK => ?_
    go_simp
    have HR7 := M6.fr.jr
    rw [show (({ (M.kind ev).1 with last := ev.now } : MatZ) : MatZ).jr = M.jr from (kind_keep M ev).1] at HR7
    refine (Append_ok B1.vj M.jr (entryT ev) _ HR7 HJo.out (by have := HJl.out; omega) (by have := entry_size ev (entry_ok HOk.out); omega)).mono ?_
    rintro e w7 ⟨vn, rfl, ho7, hbb⟩
    have hap : appJ M.jr (entryT ev) = (M.jr ++ [entOf M.jr (entryT ev)], 0) := by unfold appJ; rw [if_neg (by rw [entry_ok HOk.out]; decide)]; rfl
    rw [hap] at ho7 ⊢
    have ho7a : w7.ownsRow w6.heap.size 90 2 vn (M.jr.length + 1) (flatJ (M.jr ++ [entOf M.jr (entryT ev)])) := by rw [List.length_append] at ho7; exact ho7
    clear ho7
    obtain ⟨ja, jc, rfl⟩ := own_form2 ho7a
    clear hap
    have M7 := M6.below hbb
    have E7 := E6.stays hbb
    have L7 := below_trans L6 hbb L6.size
    have O7 : w7.ownsRow w6.heap.size 90 2 (.slice ja (M.jr.length + 1) jc) ((M.kind ev).1.jr.length + 1) (flatJ ((M.kind ev).1.jr ++ [entOf (M.kind ev).1.jr (entryT ev)])) := by rw [(kind_keep M ev).1]; exact ho7a
    clear hbb
    refine hK.out _ _ (by and_intros <;> first | exact M7.box.cell _ rfl | exact E7.cell _ rfl) (fun hHeld => ?_)
    clear hK K
    refine tkW 8 ?_
    refine tkW 9 ?_
    refine tkW 10 ?_
    refine tkW 11 ?_
    refine tkW 12 ?_
    refine ltL 13 fun K hK => ?_
    have dd := M7.box.cell 36 rfl
    have df := M7.box.frozen 36
    go_simp
    refine K_world ?_
    intro w13 e13
    clear dd df
    have P13 := M7.put (M' := ((M.kind ev).1.put ev)) (B' := { B1 with vj := .slice ja (M.jr.length + 1) jc }) 36 [.slice ja (M.jr.length + 1) jc] (by simp) rfl rfl rfl rfl (fun w' hw => ⟨(M7.rd w' hw).rd, (M7.rd w' hw).per, (M7.rd w' hw).pc, (M7.rd w' hw).pr, rdJ_put (own_held O7 hw (fun q hq h => by have h1 := (O7.lt q hq).1; have h2 := HLo.out q h; have h3 := L6.size; have h4 : wq.heap.size ≤ w6.heap.size := h3; omega))⟩)
    have M13 : MatchAt S1 base w13 b ((M.kind ev).1.put ev) { B1 with vj := .slice ja (M.jr.length + 1) jc } := by rw [e13]; exact P13.1
    have FF13 : MFr S1 b wq.drew w13 := by rw [e13]; exact (MFr.new L7).trans P13.2 (Shr.refl _ _)
    have E13 : Box w13 (w.heap.size) [.int .i64 ev.kind, .int .i64 ev.player, .int .i64 ev.n, .int .i64 ev.now, .int .i64 ev.m.src, .int .i64 ev.m.dst, .int .i64 ev.m.piece] 40 := by rw [e13]; exact E7.far ⟨b, 36, none⟩ _ (fun e => HEq.out e)
    clear P13 e13
    refine hK.out _ _ ?_
    clear hK K
    refine dnN ?_
    have HM5 := Lib.hid M13
    have HF5 : Hid (MFr S1 b wq w13) := Lib.hid (HWq.out.trans FF13 (Shr.refl _ _))
    clear M6 E6 L6 M7 E7 L7 M13 E13 FF13 O7 ho7a Mz Ez Lz hHeld HWq HR7
    generalize w13 = w8 at *
    go_wp2_with fail
    refine (over_any HSh.out w8 HM5.out).mono ?_
    rintro e w9 ⟨rfl, S2, B2, hm9, hs9, hf9⟩
    have HM9 := Lib.hid hm9
    have HS9 : Hid (Shr w S S2) := Lib.hid (fun k hk h => HS1.out k hk (hs9 k (Nat.lt_of_lt_of_le hk (Nat.le_trans HF4.out.size HF5.out.size)) h))
    have HF9 : Hid (MFr S b w w9) := Lib.hid ((HF4.out.trans HF5.out HS1.out).trans hf9 HS1.out)
    clear hm9 hs9 hf9
    go_wp2_with fail
    go_ret
    exact ⟨by rw [HD3.out]; rfl, S2, B2, by rw [HD3.out]; exact HM9.out, HS9.out, HF9.out⟩
   have hfb : 0 ≤ (lookC M.CR M.clk ev.now).fallen := by omega
   by_cases h4 : ev.kind = 4
   ·have HPz : Hid (M.preE ev = 0) := Lib.hid (by rw [HPr.out, if_neg (by omega)])
    have h4b : (ev.kind != 4) = false := by simpa using h4
    have h45 : (ev.kind == 5) = false := by simp; omega
    clear hf h4
    generalize (lookC M.CR M.clk ev.now).fallen = lf at *
    have HPE : Hid (EvPre M ev) := Lib.hid (inv_pre HIv.out HPz.out)
    have HDG2 : Hid (M.go ev = if (M.kind ev).2 ≠ 0 then (M, (M.kind ev).2) else (((M.kind ev).1.put ev).over, 0)) := Lib.hid (by rw [HDG.out, if_neg (fun h => h HPz.out)])
    have HBb1 : Hid (base ≤ w5.heap.size) := Lib.hid (Nat.le_trans HBb.out HB1.out.size)
    go_upto_region 12 with (fail)
    have e0 := HE1.out.cell 0 rfl
    have e1 := HE1.out.cell 1 rfl
    have e2 := HE1.out.cell 2 rfl
    have e3 := HE1.out.cell 3 rfl
    have e4 := HE1.out.cell 4 rfl
    have e5 := HE1.out.cell 5 rfl
    have e6 := HE1.out.cell 6 rfl
    go_wp2_with fail
    clear e0 e1 e2 e3 e4 e5 e6
    refine (kind_any HSh.out ev w5 HM1.out HBb1.out HPE.out).mono ?_
    rintro e w1 ⟨rfl, S1, B1, hm1, hs1, hf1⟩
    have HM2 := Lib.hid hm1
    have HS1 : Hid (Shr w S S1) := Lib.hid (fun k hk h => hs1 k (Nat.lt_of_lt_of_le hk HB1.out.size) h)
    have HF2 : Hid (MFr S b w w1) := Lib.hid ((MFr.new HB1.out).trans hf1 (Shr.refl _ _))
    have HE2 : Hid (Box w1 w.heap.size [.int .i64 ev.kind, .int .i64 ev.player, .int .i64 ev.n, .int .i64 ev.now, .int .i64 ev.m.src, .int .i64 ev.m.dst, .int .i64 ev.m.piece] 40) := Lib.hid (HE1.out.held hf1 (fun h => by rcases h with h | h; exact HSX.out h; have h2 : w.heap.size = b := h; have := HEb.out; omega))
    clear hm1 hs1 hf1 HM1 HE1
    by_cases hz : (M.kind ev).2 = 0
    rotate_left
    ·have HD2 : Hid (M.go ev = (M, (M.kind ev).2)) := Lib.hid (by rw [HDG2.out, if_pos hz])
     have HKb : Hid ((M.kind ev).1 = M) := Lib.hid (kind_bad M ev hz)
     have hzb : ((M.kind ev).2 != 0) = true := by simpa using hz
     rw [HKb.out] at HM2
     clear hz
     generalize (M.kind ev).2 = kc at *
     go_wp2_with fail
     go_ret
     exact ⟨by rw [HD2.out]; rfl, S1, B1, by rw [HD2.out]; exact HM2.out, HS1.out, HF2.out⟩
    have HD3 : Hid (M.go ev = (((M.kind ev).1.put ev).over, 0)) := Lib.hid (by rw [HDG2.out, if_neg (fun h => h hz)])
    rw [hz]
    clear hz HDG2
    have e3 := HE2.out.cell 3 rfl
    have d35 := HM2.out.box.cell 35 rfl
    have f35 := HM2.out.box.frozen 35
    go_upto_region 16 with (fail)
    have HQ := Lib.hid (HM2.out.put (M' := ({ (M.kind ev).1 with last := ev.now } : MatZ)) (B' := B1) 35 [.int .i64 ev.now] (by simp) rfl rfl rfl rfl (HM2.out.rd.imp (fun _ h => ⟨h.rd, h.per, h.pc, h.pr, h.jr⟩)))
    have HM3 : Hid (MatchAt S1 base (w1.setCell ⟨b, 35, none⟩ (.int .i64 ev.now)) b ({ (M.kind ev).1 with last := ev.now } : MatZ) B1) := Lib.hid HQ.out.1
    have HF3 : Hid (MFr S b w (w1.setCell ⟨b, 35, none⟩ (.int .i64 ev.now))) := Lib.hid (HF2.out.trans HQ.out.2 HS1.out)
    have HE3 : Hid (Box (w1.setCell ⟨b, 35, none⟩ (.int .i64 ev.now)) w.heap.size [.int .i64 ev.kind, .int .i64 ev.player, .int .i64 ev.n, .int .i64 ev.now, .int .i64 ev.m.src, .int .i64 ev.m.dst, .int .i64 ev.m.piece] 40) := Lib.hid (HE2.out.far ⟨b, 35, none⟩ _ (fun e => HEq.out e))
    clear HQ HM2 HE2 e3 d35 f35
    generalize (w1.setCell ⟨b, 35, none⟩ (.int .i64 ev.now)) = w5' at *
    obtain ⟨w5, hw5⟩ : ∃ w5, w5 = w5' := ⟨_, rfl⟩
    rw [← hw5] at HM3 HE3 HF3 ⊢
    clear hw5
    have HF4 := HF3
    have HTb : Hid (∀ {W : World}, MatchAt S1 base W b ({ (M.kind ev).1 with last := ev.now } : MatZ) B1 → Below w5.heap.size w5 W → Tab W.heap.size W) := Lib.hid (fun hm hbl => HTab.out.mono (Nat.le_trans HBb.out (Nat.le_trans HF4.out.size hbl.size)) ((HM.out.base' HF4.out HBb.out).trans (hbl.mono (Nat.le_trans HBb.out HF4.out.size))))
    have HLo : Hid (∀ q, (S1 q ∨ one1 b q) → q < w5.heap.size) := Lib.hid (fun q hq => by
     obtain ⟨up, us, ue, vl, vm, rows, hg⟩ := HM3.out.game
     rcases hq with hq | hq
     ·exact (hg.lo q hq).2
     ·rw [show q = b from hq]; exact HM3.out.box.lt)
    generalize hq5 : w5 = wq at *
    have Mz : MatchAt S1 base wq.drew b ({ (M.kind ev).1 with last := ev.now } : MatZ) B1 := HM3.out.below (below_drew' (Below.refl _ _))
    have Ez := HE3.out.drew
    have Lz : Below wq.drew.heap.size wq.drew wq.drew := Below.refl _ _
    have HWq : Hid (MFr S1 b wq wq.drew) := Lib.hid (Fr.drew (MFr.refl _ _ _))
    clear HM3 HE3 HF3
    refine wp_region_noPanic ?_
    refine beginL (S := (fun w' => w'.cell? ⟨b, 36, none⟩ = some B1.vj ∧ w'.cell? ⟨w.heap.size, 0, none⟩ = some (.int .i64 ev.kind) ∧ w'.cell? ⟨w.heap.size, 1, none⟩ = some (.int .i64 ev.player) ∧ w'.cell? ⟨w.heap.size, 2, none⟩ = some (.int .i64 ev.n) ∧ w'.cell? ⟨w.heap.size, 3, none⟩ = some (.int .i64 ev.now) ∧ w'.cell? ⟨w.heap.size, 4, none⟩ = some (.int .i64 ev.m.src) ∧ w'.cell? ⟨w.heap.size, 5, none⟩ = some (.int .i64 ev.m.dst) ∧ w'.cell? ⟨w.heap.size, 6, none⟩ = some (.int .i64 ev.m.piece))) (L := [13]) (by kernel_rfl) (by and_intros <;> first | exact Mz.box.cell _ rfl | exact Ez.cell _ rfl) (fun hHeld => ?_)
    refine tkW 0 ?_
    refine tkW 1 ?_
    refine tkL 5 ?_
    refine tkW 2 ?_
    refine tkW 3 ?_
    refine tkL 4 ?_
    refine cnL 6 fun K hK => ?_
    go_simp
    refine (Entry_any HIh.out HJh.out ev _ (HTb.out Mz (below_drew' (Below.refl _ _))) HOk.out).mono ?_
    rintro e w6 ⟨rfl, hbb⟩
    have M6 := Mz.below hbb
    have E6 := Ez.stays hbb
    have L6 := below_trans Lz hbb Lz.size
    clear hbb
    refine hK.out _ _ (by and_intros <;> first | exact M6.box.cell _ rfl | exact E6.cell _ rfl) (fun hHeld => ?_)
    clear hK K
    refine cnL 7 fun K hK => ?_
    go_simp
    have HR7 := M6.fr.jr
    rw [show (({ (M.kind ev).1 with last := ev.now } : MatZ) : MatZ).jr = M.jr from (kind_keep M ev).1] at HR7
    refine (Append_ok B1.vj M.jr (entryT ev) _ HR7 HJo.out (by have := HJl.out; omega) (by have := entry_size ev (entry_ok HOk.out); omega)).mono ?_
    rintro e w7 ⟨vn, rfl, ho7, hbb⟩
    have hap : appJ M.jr (entryT ev) = (M.jr ++ [entOf M.jr (entryT ev)], 0) := by unfold appJ; rw [if_neg (by rw [entry_ok HOk.out]; decide)]; rfl
    rw [hap] at ho7 ⊢
    have ho7a : w7.ownsRow w6.heap.size 90 2 vn (M.jr.length + 1) (flatJ (M.jr ++ [entOf M.jr (entryT ev)])) := by rw [List.length_append] at ho7; exact ho7
    clear ho7
    obtain ⟨ja, jc, rfl⟩ := own_form2 ho7a
    clear hap
    have M7 := M6.below hbb
    have E7 := E6.stays hbb
    have L7 := below_trans L6 hbb L6.size
    have O7 : w7.ownsRow w6.heap.size 90 2 (.slice ja (M.jr.length + 1) jc) ((M.kind ev).1.jr.length + 1) (flatJ ((M.kind ev).1.jr ++ [entOf (M.kind ev).1.jr (entryT ev)])) := by rw [(kind_keep M ev).1]; exact ho7a
    clear hbb
    refine hK.out _ _ (by and_intros <;> first | exact M7.box.cell _ rfl | exact E7.cell _ rfl) (fun hHeld => ?_)
    clear hK K
    refine tkW 8 ?_
    refine tkW 9 ?_
    refine tkW 10 ?_
    refine tkW 11 ?_
    refine tkW 12 ?_
    refine ltL 13 fun K hK => ?_
    have dd := M7.box.cell 36 rfl
    have df := M7.box.frozen 36
    go_simp
    refine K_world ?_
    intro w13 e13
    clear dd df
    have P13 := M7.put (M' := ((M.kind ev).1.put ev)) (B' := { B1 with vj := .slice ja (M.jr.length + 1) jc }) 36 [.slice ja (M.jr.length + 1) jc] (by simp) rfl rfl rfl rfl (fun w' hw => ⟨(M7.rd w' hw).rd, (M7.rd w' hw).per, (M7.rd w' hw).pc, (M7.rd w' hw).pr, rdJ_put (own_held O7 hw (fun q hq h => by have h1 := (O7.lt q hq).1; have h2 := HLo.out q h; have h3 := L6.size; have h4 : wq.heap.size ≤ w6.heap.size := h3; omega))⟩)
    have M13 : MatchAt S1 base w13 b ((M.kind ev).1.put ev) { B1 with vj := .slice ja (M.jr.length + 1) jc } := by rw [e13]; exact P13.1
    have FF13 : MFr S1 b wq.drew w13 := by rw [e13]; exact (MFr.new L7).trans P13.2 (Shr.refl _ _)
    have E13 : Box w13 (w.heap.size) [.int .i64 ev.kind, .int .i64 ev.player, .int .i64 ev.n, .int .i64 ev.now, .int .i64 ev.m.src, .int .i64 ev.m.dst, .int .i64 ev.m.piece] 40 := by rw [e13]; exact E7.far ⟨b, 36, none⟩ _ (fun e => HEq.out e)
    clear P13 e13
    refine hK.out _ _ ?_
    clear hK K
    refine dnN ?_
    have HM5 := Lib.hid M13
    have HF5 : Hid (MFr S1 b wq w13) := Lib.hid (HWq.out.trans FF13 (Shr.refl _ _))
    clear M6 E6 L6 M7 E7 L7 M13 E13 FF13 O7 ho7a Mz Ez Lz hHeld HWq HR7
    generalize w13 = w8 at *
    go_wp2_with fail
    refine (over_any HSh.out w8 HM5.out).mono ?_
    rintro e w9 ⟨rfl, S2, B2, hm9, hs9, hf9⟩
    have HM9 := Lib.hid hm9
    have HS9 : Hid (Shr w S S2) := Lib.hid (fun k hk h => HS1.out k hk (hs9 k (Nat.lt_of_lt_of_le hk (Nat.le_trans HF4.out.size HF5.out.size)) h))
    have HF9 : Hid (MFr S b w w9) := Lib.hid ((HF4.out.trans HF5.out HS1.out).trans hf9 HS1.out)
    clear hm9 hs9 hf9
    go_wp2_with fail
    go_ret
    exact ⟨by rw [HD3.out]; rfl, S2, B2, by rw [HD3.out]; exact HM9.out, HS9.out, HF9.out⟩
   have h4b : (ev.kind != 4) = true := by simpa using h4
   by_cases h52 : ev.kind = 5 ∧ ev.n = 2
   ·have HPz : Hid (M.preE ev = 0) := Lib.hid (by rw [HPr.out, if_neg (fun h => h.2.2 h52)])
    have h5b : (ev.kind == 5) = true := by simpa using h52.1
    have hn2 : (ev.n == 2) = true := by simpa using h52.2
    clear hf h4 h52
    generalize (lookC M.CR M.clk ev.now).fallen = lf at *
    have HPE : Hid (EvPre M ev) := Lib.hid (inv_pre HIv.out HPz.out)
    have HDG2 : Hid (M.go ev = if (M.kind ev).2 ≠ 0 then (M, (M.kind ev).2) else (((M.kind ev).1.put ev).over, 0)) := Lib.hid (by rw [HDG.out, if_neg (fun h => h HPz.out)])
    have HBb1 : Hid (base ≤ w5.heap.size) := Lib.hid (Nat.le_trans HBb.out HB1.out.size)
    go_upto_region 12 with (fail)
    have e0 := HE1.out.cell 0 rfl
    have e1 := HE1.out.cell 1 rfl
    have e2 := HE1.out.cell 2 rfl
    have e3 := HE1.out.cell 3 rfl
    have e4 := HE1.out.cell 4 rfl
    have e5 := HE1.out.cell 5 rfl
    have e6 := HE1.out.cell 6 rfl
    go_wp2_with fail
    clear e0 e1 e2 e3 e4 e5 e6
    refine (kind_any HSh.out ev w5 HM1.out HBb1.out HPE.out).mono ?_
    rintro e w1 ⟨rfl, S1, B1, hm1, hs1, hf1⟩
    have HM2 := Lib.hid hm1
    have HS1 : Hid (Shr w S S1) := Lib.hid (fun k hk h => hs1 k (Nat.lt_of_lt_of_le hk HB1.out.size) h)
    have HF2 : Hid (MFr S b w w1) := Lib.hid ((MFr.new HB1.out).trans hf1 (Shr.refl _ _))
    have HE2 : Hid (Box w1 w.heap.size [.int .i64 ev.kind, .int .i64 ev.player, .int .i64 ev.n, .int .i64 ev.now, .int .i64 ev.m.src, .int .i64 ev.m.dst, .int .i64 ev.m.piece] 40) := Lib.hid (HE1.out.held hf1 (fun h => by rcases h with h | h; exact HSX.out h; have h2 : w.heap.size = b := h; have := HEb.out; omega))
    clear hm1 hs1 hf1 HM1 HE1
    by_cases hz : (M.kind ev).2 = 0
    rotate_left
    ·have HD2 : Hid (M.go ev = (M, (M.kind ev).2)) := Lib.hid (by rw [HDG2.out, if_pos hz])
     have HKb : Hid ((M.kind ev).1 = M) := Lib.hid (kind_bad M ev hz)
     have hzb : ((M.kind ev).2 != 0) = true := by simpa using hz
     rw [HKb.out] at HM2
     clear hz
     generalize (M.kind ev).2 = kc at *
     go_wp2_with fail
     go_ret
     exact ⟨by rw [HD2.out]; rfl, S1, B1, by rw [HD2.out]; exact HM2.out, HS1.out, HF2.out⟩
    have HD3 : Hid (M.go ev = (((M.kind ev).1.put ev).over, 0)) := Lib.hid (by rw [HDG2.out, if_neg (fun h => h hz)])
    rw [hz]
    clear hz HDG2
    have e3 := HE2.out.cell 3 rfl
    have d35 := HM2.out.box.cell 35 rfl
    have f35 := HM2.out.box.frozen 35
    go_upto_region 16 with (fail)
    have HQ := Lib.hid (HM2.out.put (M' := ({ (M.kind ev).1 with last := ev.now } : MatZ)) (B' := B1) 35 [.int .i64 ev.now] (by simp) rfl rfl rfl rfl (HM2.out.rd.imp (fun _ h => ⟨h.rd, h.per, h.pc, h.pr, h.jr⟩)))
    have HM3 : Hid (MatchAt S1 base (w1.setCell ⟨b, 35, none⟩ (.int .i64 ev.now)) b ({ (M.kind ev).1 with last := ev.now } : MatZ) B1) := Lib.hid HQ.out.1
    have HF3 : Hid (MFr S b w (w1.setCell ⟨b, 35, none⟩ (.int .i64 ev.now))) := Lib.hid (HF2.out.trans HQ.out.2 HS1.out)
    have HE3 : Hid (Box (w1.setCell ⟨b, 35, none⟩ (.int .i64 ev.now)) w.heap.size [.int .i64 ev.kind, .int .i64 ev.player, .int .i64 ev.n, .int .i64 ev.now, .int .i64 ev.m.src, .int .i64 ev.m.dst, .int .i64 ev.m.piece] 40) := Lib.hid (HE2.out.far ⟨b, 35, none⟩ _ (fun e => HEq.out e))
    clear HQ HM2 HE2 e3 d35 f35
    generalize (w1.setCell ⟨b, 35, none⟩ (.int .i64 ev.now)) = w5' at *
    obtain ⟨w5, hw5⟩ : ∃ w5, w5 = w5' := ⟨_, rfl⟩
    rw [← hw5] at HM3 HE3 HF3 ⊢
    clear hw5
    have HF4 := HF3
    have HTb : Hid (∀ {W : World}, MatchAt S1 base W b ({ (M.kind ev).1 with last := ev.now } : MatZ) B1 → Below w5.heap.size w5 W → Tab W.heap.size W) := Lib.hid (fun hm hbl => HTab.out.mono (Nat.le_trans HBb.out (Nat.le_trans HF4.out.size hbl.size)) ((HM.out.base' HF4.out HBb.out).trans (hbl.mono (Nat.le_trans HBb.out HF4.out.size))))
    have HLo : Hid (∀ q, (S1 q ∨ one1 b q) → q < w5.heap.size) := Lib.hid (fun q hq => by
     obtain ⟨up, us, ue, vl, vm, rows, hg⟩ := HM3.out.game
     rcases hq with hq | hq
     ·exact (hg.lo q hq).2
     ·rw [show q = b from hq]; exact HM3.out.box.lt)
    generalize hq5 : w5 = wq at *
    have Mz : MatchAt S1 base wq.drew b ({ (M.kind ev).1 with last := ev.now } : MatZ) B1 := HM3.out.below (below_drew' (Below.refl _ _))
    have Ez := HE3.out.drew
    have Lz : Below wq.drew.heap.size wq.drew wq.drew := Below.refl _ _
    have HWq : Hid (MFr S1 b wq wq.drew) := Lib.hid (Fr.drew (MFr.refl _ _ _))
    clear HM3 HE3 HF3
    refine wp_region_noPanic ?_
    refine beginL (S := (fun w' => w'.cell? ⟨b, 36, none⟩ = some B1.vj ∧ w'.cell? ⟨w.heap.size, 0, none⟩ = some (.int .i64 ev.kind) ∧ w'.cell? ⟨w.heap.size, 1, none⟩ = some (.int .i64 ev.player) ∧ w'.cell? ⟨w.heap.size, 2, none⟩ = some (.int .i64 ev.n) ∧ w'.cell? ⟨w.heap.size, 3, none⟩ = some (.int .i64 ev.now) ∧ w'.cell? ⟨w.heap.size, 4, none⟩ = some (.int .i64 ev.m.src) ∧ w'.cell? ⟨w.heap.size, 5, none⟩ = some (.int .i64 ev.m.dst) ∧ w'.cell? ⟨w.heap.size, 6, none⟩ = some (.int .i64 ev.m.piece))) (L := [13]) (by kernel_rfl) (by and_intros <;> first | exact Mz.box.cell _ rfl | exact Ez.cell _ rfl) (fun hHeld => ?_)
    refine tkW 0 ?_
    refine tkW 1 ?_
    refine tkL 5 ?_
    refine tkW 2 ?_
    refine tkW 3 ?_
    refine tkL 4 ?_
    refine cnL 6 fun K hK => ?_
    go_simp
    refine (Entry_any HIh.out HJh.out ev _ (HTb.out Mz (below_drew' (Below.refl _ _))) HOk.out).mono ?_
    rintro e w6 ⟨rfl, hbb⟩
    have M6 := Mz.below hbb
    have E6 := Ez.stays hbb
    have L6 := below_trans Lz hbb Lz.size
    clear hbb
    refine hK.out _ _ (by and_intros <;> first | exact M6.box.cell _ rfl | exact E6.cell _ rfl) (fun hHeld => ?_)
    clear hK K
    refine cnL 7 fun K hK => ?_
    go_simp
    have HR7 := M6.fr.jr
    rw [show (({ (M.kind ev).1 with last := ev.now } : MatZ) : MatZ).jr = M.jr from (kind_keep M ev).1] at HR7
    refine (Append_ok B1.vj M.jr (entryT ev) _ HR7 HJo.out (by have := HJl.out; omega) (by have := entry_size ev (entry_ok HOk.out); omega)).mono ?_
    rintro e w7 ⟨vn, rfl, ho7, hbb⟩
    have hap : appJ M.jr (entryT ev) = (M.jr ++ [entOf M.jr (entryT ev)], 0) := by unfold appJ; rw [if_neg (by rw [entry_ok HOk.out]; decide)]; rfl
    rw [hap] at ho7 ⊢
    have ho7a : w7.ownsRow w6.heap.size 90 2 vn (M.jr.length + 1) (flatJ (M.jr ++ [entOf M.jr (entryT ev)])) := by rw [List.length_append] at ho7; exact ho7
    clear ho7
    obtain ⟨ja, jc, rfl⟩ := own_form2 ho7a
    clear hap
    have M7 := M6.below hbb
    have E7 := E6.stays hbb
    have L7 := below_trans L6 hbb L6.size
    have O7 : w7.ownsRow w6.heap.size 90 2 (.slice ja (M.jr.length + 1) jc) ((M.kind ev).1.jr.length + 1) (flatJ ((M.kind ev).1.jr ++ [entOf (M.kind ev).1.jr (entryT ev)])) := by rw [(kind_keep M ev).1]; exact ho7a
    clear hbb
    refine hK.out _ _ (by and_intros <;> first | exact M7.box.cell _ rfl | exact E7.cell _ rfl) (fun hHeld => ?_)
    clear hK K
    refine tkW 8 ?_
    refine tkW 9 ?_
    refine tkW 10 ?_
    refine tkW 11 ?_
    refine tkW 12 ?_
    refine ltL 13 fun K hK => ?_
    have dd := M7.box.cell 36 rfl
    have df := M7.box.frozen 36
    go_simp
    refine K_world ?_
    intro w13 e13
    clear dd df
    have P13 := M7.put (M' := ((M.kind ev).1.put ev)) (B' := { B1 with vj := .slice ja (M.jr.length + 1) jc }) 36 [.slice ja (M.jr.length + 1) jc] (by simp) rfl rfl rfl rfl (fun w' hw => ⟨(M7.rd w' hw).rd, (M7.rd w' hw).per, (M7.rd w' hw).pc, (M7.rd w' hw).pr, rdJ_put (own_held O7 hw (fun q hq h => by have h1 := (O7.lt q hq).1; have h2 := HLo.out q h; have h3 := L6.size; have h4 : wq.heap.size ≤ w6.heap.size := h3; omega))⟩)
    have M13 : MatchAt S1 base w13 b ((M.kind ev).1.put ev) { B1 with vj := .slice ja (M.jr.length + 1) jc } := by rw [e13]; exact P13.1
    have FF13 : MFr S1 b wq.drew w13 := by rw [e13]; exact (MFr.new L7).trans P13.2 (Shr.refl _ _)
    have E13 : Box w13 (w.heap.size) [.int .i64 ev.kind, .int .i64 ev.player, .int .i64 ev.n, .int .i64 ev.now, .int .i64 ev.m.src, .int .i64 ev.m.dst, .int .i64 ev.m.piece] 40 := by rw [e13]; exact E7.far ⟨b, 36, none⟩ _ (fun e => HEq.out e)
    clear P13 e13
    refine hK.out _ _ ?_
    clear hK K
    refine dnN ?_
    have HM5 := Lib.hid M13
    have HF5 : Hid (MFr S1 b wq w13) := Lib.hid (HWq.out.trans FF13 (Shr.refl _ _))
    clear M6 E6 L6 M7 E7 L7 M13 E13 FF13 O7 ho7a Mz Ez Lz hHeld HWq HR7
    generalize w13 = w8 at *
    go_wp2_with fail
    refine (over_any HSh.out w8 HM5.out).mono ?_
    rintro e w9 ⟨rfl, S2, B2, hm9, hs9, hf9⟩
    have HM9 := Lib.hid hm9
    have HS9 : Hid (Shr w S S2) := Lib.hid (fun k hk h => HS1.out k hk (hs9 k (Nat.lt_of_lt_of_le hk (Nat.le_trans HF4.out.size HF5.out.size)) h))
    have HF9 : Hid (MFr S b w w9) := Lib.hid ((HF4.out.trans HF5.out HS1.out).trans hf9 HS1.out)
    clear hm9 hs9 hf9
    go_wp2_with fail
    go_ret
    exact ⟨by rw [HD3.out]; rfl, S2, B2, by rw [HD3.out]; exact HM9.out, HS9.out, HF9.out⟩
   have HPz : Hid (M.preE ev = 11) := Lib.hid (by rw [HPr.out, if_pos ⟨hfb, h4, h52⟩])
   have HD2 : Hid (M.go ev = (M, 11)) := Lib.hid (by rw [HDG.out, if_pos (by rw [HPz.out]; decide), HPz.out])
   by_cases h5 : ev.kind = 5
   ·have h5b : (ev.kind == 5) = true := by simpa using h5
    have hn2 : (ev.n == 2) = false := by simp; exact fun h => h52 ⟨h5, h⟩
    clear hf h4 h52 h5
    generalize (lookC M.CR M.clk ev.now).fallen = lf at *
    go_wp2_with fail
    go_ret
    exact ⟨by rw [HD2.out]; rfl, S, B, by rw [HD2.out]; exact HM1.out, Shr.refl _ _, MFr.new HB1.out⟩
   ·have h5b : (ev.kind == 5) = false := by simpa using h5
    clear hf h4 h52 h5
    generalize (lookC M.CR M.clk ev.now).fallen = lf at *
    go_wp2_with fail
    go_ret
    exact ⟨by rw [HD2.out]; rfl, S, B, by rw [HD2.out]; exact HM1.out, Shr.refl _ _, MFr.new HB1.out⟩
end Go.Proofs.YtnodagljaoonjaaGreatDoor

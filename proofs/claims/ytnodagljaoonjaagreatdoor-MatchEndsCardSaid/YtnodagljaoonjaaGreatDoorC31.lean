/- match's doPremove and doOffer. -/
import Derived.Test.YtnodagljaoonjaaGreatDoorC30
import Derived.Test.YtnodagljaoonjaaGreatDoorC09
import Derived.Test.YtnodagljaoonjaaGreatDoorC05
namespace Go.Proofs.YtnodagljaoonjaaGreatDoor
open Go.ChangeShapes Go.WideShapes Go.ChangeAt Go.RowKit
set_option linter.unusedVariables false
set_option maxHeartbeats 8000000
set_option maxRecDepth 100000
variable {S : Nat → Prop} {base b : Nat} {M : MatZ} {B : MatB}
theorem doPremove_any (HS : SortMvSaid) (ev : EvZ) (w : World) (h : MatchAt S base w b M B) (hb : base ≤ w.heap.size) (hpg : PremG M.prem) (hpl : ev.player = 0 ∨ ev.player = 1) : Calls Tryz.prog 63 #[.pointer (some ⟨b, 0, none⟩), .agg #[.int .i64 ev.kind, .int .i64 ev.player, .int .i64 ev.n, .int .i64 ev.now, .int .i64 ev.m.src, .int .i64 ev.m.dst, .int .i64 ev.m.piece]] w fun e w' => e = .returned (.int .i64 (M.doPremove ev).2) ∧ MPost S base b w (M.doPremove ev).1 w' := by
 have HPg := Lib.hid hpg
 have HPl := Lib.hid hpl
 clear hpg hpl
 have HSh := Lib.hid HS
 have HM := Lib.hid h
 have HBb := Lib.hid hb
 have HSX : Hid (¬ S w.heap.size) := Lib.hid (fun hk => by obtain ⟨up, us, ue, vl, vm, rows, hg⟩ := h.game; have := (hg.lo _ hk).2; omega)
 have HEb : Hid (b < w.heap.size) := Lib.hid h.box.lt
 clear h hb HS
 go_enter Tryz.func63, Tryz.ntmps63
 go_upto_region 1 with (fail)
 refine opn1 fun w0 y0_ yb_ hs_ => ?_
 have HE0 := Lib.hid y0_
 have HB0 := Lib.hid yb_
 clear hs_ y0_ yb_
 have HM0 := Lib.hid (HM.out.below HB0.out)
 generalize w0 = wq at *
 have Mz : MatchAt S base wq.drew b M B := HM0.out.below (below_drew' (Below.refl _ _))
 have Ez := HE0.out.drew
 have Lz : Below wq.drew.heap.size wq.drew wq.drew := Below.refl _ _
 have HWq : Hid (Below w.heap.size w wq.drew) := Lib.hid (below_drew' HB0.out)
 clear HM0 HE0 HB0
 refine wp_region_noPanic ?_
 refine beginL (S := (fun w' => w'.cell? ⟨w.heap.size, 1, none⟩ = some (.int .i64 ev.player))) (L := []) (by kernel_rfl) (Ez.cell 1 rfl) (fun hHeld => ?_)
 refine tkW 0 ?_
 refine tkW 2 ?_
 refine tkL 3 ?_
 refine cnL 1 fun K hK => ?_
 go_simp
 refine (turn_any _ Mz).mono ?_
 rintro e w1 ⟨rfl, hbb⟩
 have M1 := Mz.below hbb
 have E1 := Ez.stays hbb
 have L1 := below_trans Lz hbb Lz.size
 clear hbb
 refine hK.out _ _ (E1.cell 1 rfl) (fun hHeld => ?_)
 clear hK K
 refine tkW 4 ?_
 refine dnN ?_
 have HM1 := Lib.hid M1
 have HE1 := Lib.hid E1
 have HB1 : Hid (Below w.heap.size w w1) := Lib.hid (below_trans HWq.out L1 HWq.out.size)
 clear M1 E1 L1 Mz Ez Lz hHeld HWq
 generalize w1 = wr at *
 by_cases ht : M.pos.turn = ev.player
 ·have HD2 : Hid (M.doPremove ev = (M, 12)) := Lib.hid (by unfold MatZ.doPremove; rw [if_pos ht])
  have htb : (M.pos.turn == ev.player) = true := by simpa using ht
  clear ht
  generalize M.pos.turn = tt at *
  go_wp2_with fail
  go_ret
  exact ⟨by rw [HD2.out]; rfl, S, B, by rw [HD2.out]; exact HM1.out, Shr.refl _ _, MFr.new HB1.out⟩
 have htb : (M.pos.turn == ev.player) = false := by simpa using ht
 have HT := Lib.hid ht
 clear ht
 have HAE : Hid (addErr M.prem ev.player = if (ofZ M.prem ev.player).length = 4 then 9 else 0) := Lib.hid (by
  unfold addErr; rw [if_neg (by rw [prem_zero HPg.out]; decide), if_neg (by have := HPl.out; omega)])
 go_upto_region 3 with (fail)
 clear htb
 generalize wr = wq at *
 have Mz : MatchAt S base wq.drew b M B := HM1.out.below (below_drew' (Below.refl _ _))
 have Ez := HE1.out.drew
 have Lz : Below wq.drew.heap.size wq.drew wq.drew := Below.refl _ _
 have HWq : Hid (Below w.heap.size w wq.drew) := Lib.hid (below_drew' HB1.out)
 clear HM1 HE1 HB1
 by_cases hf : (ofZ M.prem ev.player).length = 4
 ·have HAd : Hid (addErr M.prem ev.player = 9) := Lib.hid (by rw [HAE.out, if_pos hf])
  have HD2 : Hid (M.doPremove ev = (M, 9)) := Lib.hid (by unfold MatZ.doPremove; rw [if_neg HT.out, if_pos hf])
  clear hf HAE
  refine wp_region_noPanic ?_
  refine beginL (S := (fun w' => w'.cell? ⟨b, 34, none⟩ = some B.vr ∧ w'.cell? ⟨w.heap.size, 1, none⟩ = some (.int .i64 ev.player) ∧ w'.cell? ⟨w.heap.size, 4, none⟩ = some (.int .i64 ev.m.src) ∧ w'.cell? ⟨w.heap.size, 5, none⟩ = some (.int .i64 ev.m.dst) ∧ w'.cell? ⟨w.heap.size, 6, none⟩ = some (.int .i64 ev.m.piece))) (L := []) (by kernel_rfl) (by and_intros <;> first | exact Mz.box.cell _ rfl | exact Ez.cell _ rfl) (fun hHeld => ?_)
  refine tkW 0 ?_
  refine tkW 5 ?_
  refine tkW 7 ?_
  refine tkW 1 ?_
  refine tkL 6 ?_
  refine tkL 8 ?_
  refine tkW 2 ?_
  refine tkW 3 ?_
  refine tkL 4 ?_
  refine cnL 9 fun K hK => ?_
  go_simp
  refine (Add_any B.vr M.prem ev.player ev.m _ Mz.fr.pr (by have := HPg.out.len; omega)).mono ?_
  rintro e w9 hp
  rcases hp with ⟨-, rfl, hbb⟩ | ⟨hn, -⟩
  rotate_left
  ·exact absurd hn (by rw [HAd.out]; decide)
  rw [HAd.out]
  have M9 := Mz.below hbb
  have E9 := Ez.stays hbb
  have L9 := below_trans Lz hbb Lz.size
  clear hbb
  refine hK.out _ _ (by and_intros <;> first | exact M9.box.cell _ rfl | exact E9.cell _ rfl) (fun hHeld => ?_)
  clear hK K
  refine tkW 10 ?_
  refine tkW 11 ?_
  refine tkW 12 ?_
  refine tkW 13 ?_
  refine tkW 14 ?_
  refine dnN ?_
  have HM1 := Lib.hid M9
  have HE1 := Lib.hid E9
  have HB1 : Hid (Below w.heap.size w w9) := Lib.hid (below_trans HWq.out L9 HWq.out.size)
  clear M9 E9 L9 Mz Ez Lz hHeld HWq
  go_wp2_with fail
  go_ret
  exact ⟨by rw [HD2.out]; rfl, S, B, by rw [HD2.out]; exact HM1.out, Shr.refl _ _, MFr.new HB1.out⟩
 have HAd : Hid (addErr M.prem ev.player = 0) := Lib.hid (by rw [HAE.out, if_neg hf])
 have HD2 : Hid (M.doPremove ev = ({ M with prem := M.prem ++ [⟨ev.player, ev.m⟩] }, 0)) := Lib.hid (by unfold MatZ.doPremove; rw [if_neg HT.out, if_neg hf])
 clear hf HAE
 refine wp_region_noPanic ?_
 refine beginL (S := (fun w' => w'.cell? ⟨b, 34, none⟩ = some B.vr ∧ w'.cell? ⟨w.heap.size, 1, none⟩ = some (.int .i64 ev.player) ∧ w'.cell? ⟨w.heap.size, 4, none⟩ = some (.int .i64 ev.m.src) ∧ w'.cell? ⟨w.heap.size, 5, none⟩ = some (.int .i64 ev.m.dst) ∧ w'.cell? ⟨w.heap.size, 6, none⟩ = some (.int .i64 ev.m.piece))) (L := []) (by kernel_rfl) (by and_intros <;> first | exact Mz.box.cell _ rfl | exact Ez.cell _ rfl) (fun hHeld => ?_)
 refine tkW 0 ?_
 refine tkW 5 ?_
 refine tkW 7 ?_
 refine tkW 1 ?_
 refine tkL 6 ?_
 refine tkL 8 ?_
 refine tkW 2 ?_
 refine tkW 3 ?_
 refine tkL 4 ?_
 refine cnL 9 fun K hK => ?_
 go_simp
 refine (Add_any B.vr M.prem ev.player ev.m _ Mz.fr.pr (by have := HPg.out.len; omega)).mono ?_
 rintro e w9 hp
 rcases hp with ⟨hn, -⟩ | ⟨-, v9, rfl, ho9, hbb⟩
 ·exact absurd HAd.out hn
 obtain ⟨ra, rc, rfl⟩ := own_form2 ho9
 have M9 := Mz.below hbb
 have E9 := Ez.stays hbb
 have L9 := below_trans Lz hbb Lz.size
 have O9 := ho9
 clear hbb
 refine hK.out _ _ (by and_intros <;> first | exact M9.box.cell _ rfl | exact E9.cell _ rfl) (fun hHeld => ?_)
 clear hK K
 refine tkW 10 ?_
 refine tkW 11 ?_
 refine tkW 12 ?_
 refine tkW 13 ?_
 refine tkW 14 ?_
 refine dnN ?_
 have HO1 : Hid (w9.ownsRow wq.drew.heap.size 86 4 (.slice ra (M.prem.length + 1) rc) (M.prem.length + 1) (flatP (M.prem ++ [⟨ev.player, ev.m⟩]))) := Lib.hid O9
 have HNV : Hid (∀ k, Value.ownBlock (.slice ra (M.prem.length + 1) rc) = some k → ¬ (S k ∨ one1 b k)) := Lib.hid (fun k hk h => by
  have h1 := (O9.lt k hk).1
  obtain ⟨up, us, ue, vl, vm, rows, hg⟩ := Mz.game
  rcases h with h | h
  ·have := (hg.lo k h).2; omega
  ·have h2 : k = b := h
   have h3 := Mz.box.lt; omega)
 clear O9 ho9
 have HM1 := Lib.hid M9
 have HE1 := Lib.hid E9
 have HB1 : Hid (Below w.heap.size w w9) := Lib.hid (below_trans HWq.out L9 HWq.out.size)
 clear M9 E9 L9 Mz Ez Lz hHeld HWq
 have d34 := HM1.out.box.cell 34 rfl
 have f34 := HM1.out.box.frozen 34
 have HP := Lib.hid (HM1.out.put (M' := { M with prem := M.prem ++ [⟨ev.player, ev.m⟩] }) (B' := { B with vr := .slice ra (M.prem.length + 1) rc }) 34 [.slice ra (M.prem.length + 1) rc] (by simp) rfl rfl rfl rfl (fun w' hw => ⟨(HM1.out.rd w' hw).rd, (HM1.out.rd w' hw).per, (HM1.out.rd w' hw).pc, rdP_of_own (by rw [List.length_append]; exact own_held HO1.out hw HNV.out), (HM1.out.rd w' hw).jr⟩))
 go_wp2_with fail
 go_ret
 exact ⟨by rw [HD2.out]; rfl, S, _, by rw [HD2.out]; exact HP.out.1, Shr.refl _ _, (MFr.new HB1.out).trans HP.out.2 (Shr.refl _ _)⟩
theorem offMk (o : OffZ) (k p : Int) (n : Nat) (w : World) (h : OffG o) (hp : p = 0 ∨ p = 1) (hn : n ≤ 400) :
  Calls Tryz.prog 86 #[.agg #[.int .i64 o.b0, .int .i64 o.b1, .int .i64 o.l00, .int .i64 o.l01, .int .i64 o.l10, .int .i64 o.l11], .int .i64 k, .int .i64 p, .int .i64 n] w fun e w' => ∃ ro : OffZ, (makeE o k p n = 0 → ro = makeO o k p n) ∧ e = .returned (.tuple #[.agg #[.int .i64 ro.b0, .int .i64 ro.b1, .int .i64 ro.l00, .int .i64 ro.l01, .int .i64 ro.l10, .int .i64 ro.l11], .int .i64 (makeE o k p n)]) ∧ Below w.heap.size w w' :=
 (offMake o k p n w h hp hn).mono fun e w' h => ⟨_, fun hz => if_pos hz, h.1, h.2⟩
theorem offDec (o : OffZ) (k p : Int) (n : Nat) (w : World) (h : OffG o) (hp : p = 0 ∨ p = 1) (hn : n ≤ 400) :
  Calls Tryz.prog 87 #[.agg #[.int .i64 o.b0, .int .i64 o.b1, .int .i64 o.l00, .int .i64 o.l01, .int .i64 o.l10, .int .i64 o.l11], .int .i64 k, .int .i64 p, .int .i64 n] w fun e w' => ∃ ro : OffZ, (openE o k p n = 0 → ro = declineO o k) ∧ e = .returned (.tuple #[.agg #[.int .i64 ro.b0, .int .i64 ro.b1, .int .i64 ro.l00, .int .i64 ro.l01, .int .i64 ro.l10, .int .i64 ro.l11], .int .i64 (openE o k p n)]) ∧ Below w.heap.size w w' :=
 (offOpen false o k p n w h hp hn).mono fun e w' h => ⟨_, fun hz => if_pos hz, h.1, h.2⟩
theorem offAcc (o : OffZ) (k p : Int) (n : Nat) (w : World) (h : OffG o) (hp : p = 0 ∨ p = 1) (hn : n ≤ 400) :
  Calls Tryz.prog 88 #[.agg #[.int .i64 o.b0, .int .i64 o.b1, .int .i64 o.l00, .int .i64 o.l01, .int .i64 o.l10, .int .i64 o.l11], .int .i64 k, .int .i64 p, .int .i64 n] w fun e w' => ∃ ro : OffZ, (openE o k p n = 0 → ro = acceptO o) ∧ e = .returned (.tuple #[.agg #[.int .i64 ro.b0, .int .i64 ro.b1, .int .i64 ro.l00, .int .i64 ro.l01, .int .i64 ro.l10, .int .i64 ro.l11], .int .i64 (openE o k p n)]) ∧ Below w.heap.size w w' :=
 (offOpen true o k p n w h hp hn).mono fun e w' h => ⟨_, fun hz => if_pos hz, h.1, h.2⟩
theorem doOffer_any (HS : SortMvSaid) (ev : EvZ) (w : World) (h : MatchAt S base w b M B) (hb : base ≤ w.heap.size) (hog : OffG M.off) (hpl : ev.player = 0 ∨ ev.player = 1) : Calls Tryz.prog 60 #[.pointer (some ⟨b, 0, none⟩), .agg #[.int .i64 ev.kind, .int .i64 ev.player, .int .i64 ev.n, .int .i64 ev.now, .int .i64 ev.m.src, .int .i64 ev.m.dst, .int .i64 ev.m.piece]] w fun e w' => e = .returned (.int .i64 (M.doOffer ev).2) ∧ MPost S base b w (M.doOffer ev).1 w' := by
 have HOg := Lib.hid hog
 have HPl := Lib.hid hpl
 have HLt : Hid (M.ms.length ≤ 400) := Lib.hid (by obtain ⟨up, us, ue, vl, vm, rows, hg⟩ := h.game; exact hg.lt)
 clear hog hpl
 have HSh := Lib.hid HS
 have HM := Lib.hid h
 have HBb := Lib.hid hb
 have HSX : Hid (¬ S w.heap.size) := Lib.hid (fun hk => by obtain ⟨up, us, ue, vl, vm, rows, hg⟩ := h.game; have := (hg.lo _ hk).2; omega)
 have HEb : Hid (b < w.heap.size) := Lib.hid h.box.lt
 clear h hb HS
 go_enter Tryz.func60, Tryz.ntmps60
 go_upto_region 1 with (fail)
 refine opn1 fun w0 y0_ yb_ hs_ => ?_
 have HE0 := Lib.hid y0_
 have HB0 := Lib.hid yb_
 clear hs_ y0_ yb_
 have HM0 := Lib.hid (HM.out.below HB0.out)
 have e0 := HE0.out.cell 0 rfl
 by_cases hk : ev.kind = 3
 ·have HDO : Hid (M.doOffer ev = if openE M.off ev.n ev.player M.ms.length ≠ 0 then (M, openE M.off ev.n ev.player M.ms.length) else ({ M with off := declineO M.off ev.n }, 0)) := Lib.hid (by unfold MatZ.doOffer; rw [if_pos hk])
  have hkb : (ev.kind == 3) = true := by simpa using hk
  clear hk
  go_upto_region 4 with (fail)
  clear e0 hkb
  generalize w0 = wq at *
  have Mz : MatchAt S base wq.drew b M B := HM0.out.below (below_drew' (Below.refl _ _))
  have Ez := HE0.out.drew
  have Lz : Below wq.drew.heap.size wq.drew wq.drew := Below.refl _ _
  have HWq : Hid (Below w.heap.size w wq.drew) := Lib.hid (below_drew' HB0.out)
  clear HM0 HE0 HB0
  refine wp_region_noPanic ?_
  refine beginL (S := (fun w' => w'.cell? ⟨b, 28, none⟩ = some (.int .i64 M.off.b0) ∧ w'.cell? ⟨b, 29, none⟩ = some (.int .i64 M.off.b1) ∧ w'.cell? ⟨b, 30, none⟩ = some (.int .i64 M.off.l00) ∧ w'.cell? ⟨b, 31, none⟩ = some (.int .i64 M.off.l01) ∧ w'.cell? ⟨b, 32, none⟩ = some (.int .i64 M.off.l10) ∧ w'.cell? ⟨b, 33, none⟩ = some (.int .i64 M.off.l11) ∧ w'.cell? ⟨w.heap.size, 2, none⟩ = some (.int .i64 ev.n) ∧ w'.cell? ⟨w.heap.size, 1, none⟩ = some (.int .i64 ev.player))) (L := []) (by kernel_rfl) (by and_intros <;> first | exact Mz.box.cell _ rfl | exact Ez.cell _ rfl) (fun hHeld => ?_)
  refine tkW 0 ?_
  refine tkW 1 ?_
  refine tkW 6 ?_
  refine tkW 8 ?_
  refine tkW 10 ?_
  refine tkW 2 ?_
  refine tkL 7 ?_
  refine tkL 9 ?_
  refine tkW 3 ?_
  refine tkW 4 ?_
  refine tkL 5 ?_
  refine rdL (rs := [11, 16]) ?_
  refine (AllReadyL.cons (by first | (simp only [List.getElem?_toArray, List.getElem?_cons_zero, List.getElem?_cons_succ] <;> rfl) | rfl) (fun K hK => ?_) (AllReadyL.cons (by first | (simp only [List.getElem?_toArray, List.getElem?_cons_zero, List.getElem?_cons_succ] <;> rfl) | rfl) (fun K hK => ?_) AllReadyL.nil))
  ·skip
   go_simp
   refine (count_m _ Mz).mono ?_
   rintro e w11 ⟨rfl, hbb⟩
   have M11 := Mz.below hbb
   have E11 := Ez.stays hbb
   have L11 := below_trans Lz hbb Lz.size
   clear hbb
   refine hK.out _ _ (by and_intros <;> first | exact M11.box.cell _ rfl | exact E11.cell _ rfl) (fun hHeld => ?_)
   clear hK K
   refine rdL (rs := [12, 16]) ?_
   refine (AllReadyL.cons (by first | (simp only [List.getElem?_toArray, List.getElem?_cons_zero, List.getElem?_cons_succ] <;> rfl) | rfl) (fun K hK => ?_) (AllReadyL.cons (by first | (simp only [List.getElem?_toArray, List.getElem?_cons_zero, List.getElem?_cons_succ] <;> rfl) | rfl) (fun K hK => ?_) AllReadyL.nil))
   ·skip
    go_simp
    refine (offDec M.off ev.n ev.player M.ms.length _ HOg.out HPl.out HLt.out).mono ?_
    rintro e w12 ⟨ro, hro, rfl, hbb⟩
    have M12 := M11.below hbb
    have E12 := E11.stays hbb
    have L12 := below_trans L11 hbb L11.size
    clear hbb
    refine hK.out _ _ (by and_intros <;> first | exact M12.box.cell _ rfl | exact E12.cell _ rfl) (fun hHeld => ?_)
    clear hK K
    refine tkW 13 ?_
    refine tkW 14 ?_
    refine tkW 15 ?_
    refine cnL 16 fun K hK => ?_
    go_simp
    refine K_world ?_
    intro w16 e16
    have hbb : Below w12.heap.size w12 w16 := by rw [e16]; exact (Below.refl _ _).alloc (Nat.le_refl _) _
    have X16 : Box w16 (w12.heap.size) [.int .i64 0, .int .i64 0, .int .i64 0, .int .i64 0, .int .i64 0, .int .i64 0] 47 := by rw [e16]; exact Box.new' _ _ _ _ rfl
    have M16 := M12.below hbb
    have E16 := E12.stays hbb
    have L16 := below_trans L12 hbb L12.size
    clear hbb e16
    refine hK.out _ _ (by and_intros <;> first | exact M16.box.cell _ rfl | exact E16.cell _ rfl) (fun hHeld => ?_)
    clear hK K
    refine cnL 17 fun K hK => ?_
    rw [if_pos (by rfl)]
    refine wp_store_mid 47 (.tmp 6) (.tmp 25) (by rfl) (w12.heap.size) 0 #[.int .i64 ro.b0, .int .i64 ro.b1, .int .i64 ro.l00, .int .i64 ro.l01, .int .i64 ro.l10, .int .i64 ro.l11] (by rfl) (by rfl) (X16.has 0 6 (by simp)) (by kernel_rfl) (by simp [Value.oneCell']) ?_
    refine K_world ?_
    intro w17 e17
    have X17 : Box w17 (w12.heap.size) [.int .i64 ro.b0, .int .i64 ro.b1, .int .i64 ro.l00, .int .i64 ro.l01, .int .i64 ro.l10, .int .i64 ro.l11] 47 := by rw [e17]; exact X16.store rfl
    have hbn : wq.heap.size ≤ w12.heap.size := L12.size
    have L17 : Below wq.drew.heap.size wq.drew w17 := by rw [e17]; exact below_setCells L16 hbn 0 _
    have M17 := Mz.below L17
    have E17 := Ez.stays L17
    clear e17 hbn
    refine hK.out _ _ (by and_intros <;> first | exact M17.box.cell _ rfl | exact E17.cell _ rfl) (fun hHeld => ?_)
    clear hK K
    refine tkW 18 ?_
    refine dnN ?_
    have HM1 := Lib.hid M17
    have HB1 : Hid (Below w.heap.size w w17) := Lib.hid (below_trans HWq.out L17 HWq.out.size)
    have HX1 := Lib.hid X17
    have HNX : Hid (w12.heap.size ≠ b) := Lib.hid (fun e => by have h1 := Mz.box.lt; have h2 : wq.heap.size ≤ w12.heap.size := L12.size; have h3 : b < wq.heap.size := h1; omega)
    have HRo := Lib.hid hro
    clear hro M11 E11 L11 M12 E12 L12 M16 E16 L16 M17 E17 L17 Mz Ez Lz hHeld HWq X16 X17
    generalize w17 = w5 at *
    generalize w12.heap.size = bx at *
    by_cases hz : openE M.off ev.n ev.player M.ms.length = 0
    ·skip
     have HZ := Lib.hid hz
     have HRo2 : Hid (ro = declineO M.off ev.n) := Lib.hid (HRo.out hz)
     have HD2 : Hid (M.doOffer ev = ({ M with off := declineO M.off ev.n }, 0)) := Lib.hid (by rw [HDO.out, if_neg (fun h => h hz)])
     rw [hz]
     clear hz
     have x0 := HX1.out.cell 0 rfl
     have x1 := HX1.out.cell 1 rfl
     have x2 := HX1.out.cell 2 rfl
     have x3 := HX1.out.cell 3 rfl
     have x4 := HX1.out.cell 4 rfl
     have x5 := HX1.out.cell 5 rfl
     have d28 := HM1.out.box.cell 28 rfl
     have f28 := HM1.out.box.frozen 28
     have d29 := HM1.out.box.cell 29 rfl
     have f29 := HM1.out.box.frozen 29
     have d30 := HM1.out.box.cell 30 rfl
     have f30 := HM1.out.box.frozen 30
     have d31 := HM1.out.box.cell 31 rfl
     have f31 := HM1.out.box.frozen 31
     have d32 := HM1.out.box.cell 32 rfl
     have f32 := HM1.out.box.frozen 32
     have d33 := HM1.out.box.cell 33 rfl
     have f33 := HM1.out.box.frozen 33
     have HP := Lib.hid (HM1.out.put (M' := { M with off := ro }) (B' := B) 28 [.int .i64 ro.b0, .int .i64 ro.b1, .int .i64 ro.l00, .int .i64 ro.l01, .int .i64 ro.l10, .int .i64 ro.l11] (by simp) rfl rfl rfl rfl (HM1.out.rd.imp (fun _ h => ⟨h.rd, h.per, h.pc, h.pr, h.jr⟩)))
     clear HRo
     go_wp2_with fail
     go_ret
     exact ⟨by rw [HD2.out]; rfl, S, B, by rw [HD2.out, ← HRo2.out]; exact HP.out.1, Shr.refl _ _, (MFr.new HB1.out).trans HP.out.2 (Shr.refl _ _)⟩
    ·skip
     have HD2 : Hid (M.doOffer ev = (M, openE M.off ev.n ev.player M.ms.length)) := Lib.hid (by rw [HDO.out, if_pos hz])
     have hzb : (openE M.off ev.n ev.player M.ms.length == 0) = false := by simpa using hz
     clear hz HRo HDO
     generalize openE M.off ev.n ev.player M.ms.length = er at *
     go_wp2_with fail
     go_ret
     exact ⟨by rw [HD2.out]; rfl, S, B, by rw [HD2.out]; exact HM1.out, Shr.refl _ _, MFr.new HB1.out⟩
   ·skip
    go_simp
    refine K_world ?_
    intro w16 e16
    have hbb : Below w11.heap.size w11 w16 := by rw [e16]; exact (Below.refl _ _).alloc (Nat.le_refl _) _
    have X16 : Box w16 (w11.heap.size) [.int .i64 0, .int .i64 0, .int .i64 0, .int .i64 0, .int .i64 0, .int .i64 0] 47 := by rw [e16]; exact Box.new' _ _ _ _ rfl
    have M16 := M11.below hbb
    have E16 := E11.stays hbb
    have L16 := below_trans L11 hbb L11.size
    clear hbb e16
    refine hK.out _ _ (by and_intros <;> first | exact M16.box.cell _ rfl | exact E16.cell _ rfl) (fun hHeld => ?_)
    clear hK K
    refine cnL 12 fun K hK => ?_
    go_simp
    refine (offDec M.off ev.n ev.player M.ms.length _ HOg.out HPl.out HLt.out).mono ?_
    rintro e w12 ⟨ro, hro, rfl, hbb⟩
    have M12 := M16.below hbb
    have E12 := E16.stays hbb
    have L12 := below_trans L16 hbb L16.size
    have X12 := X16.stays hbb
    clear hbb
    refine hK.out _ _ (by and_intros <;> first | exact M12.box.cell _ rfl | exact E12.cell _ rfl) (fun hHeld => ?_)
    clear hK K
    refine tkW 13 ?_
    refine tkW 14 ?_
    refine tkW 15 ?_
    refine cnL 17 fun K hK => ?_
    rw [if_pos (by rfl)]
    refine wp_store_mid 47 (.tmp 6) (.tmp 25) (by rfl) (w11.heap.size) 0 #[.int .i64 ro.b0, .int .i64 ro.b1, .int .i64 ro.l00, .int .i64 ro.l01, .int .i64 ro.l10, .int .i64 ro.l11] (by rfl) (by rfl) (X12.has 0 6 (by simp)) (by kernel_rfl) (by simp [Value.oneCell']) ?_
    refine K_world ?_
    intro w17 e17
    have X17 : Box w17 (w11.heap.size) [.int .i64 ro.b0, .int .i64 ro.b1, .int .i64 ro.l00, .int .i64 ro.l01, .int .i64 ro.l10, .int .i64 ro.l11] 47 := by rw [e17]; exact X12.store rfl
    have hbn : wq.heap.size ≤ w11.heap.size := L11.size
    have L17 : Below wq.drew.heap.size wq.drew w17 := by rw [e17]; exact below_setCells L12 hbn 0 _
    have M17 := Mz.below L17
    have E17 := Ez.stays L17
    clear e17 hbn
    refine hK.out _ _ (by and_intros <;> first | exact M17.box.cell _ rfl | exact E17.cell _ rfl) (fun hHeld => ?_)
    clear hK K
    refine tkW 18 ?_
    refine dnN ?_
    have HM1 := Lib.hid M17
    have HB1 : Hid (Below w.heap.size w w17) := Lib.hid (below_trans HWq.out L17 HWq.out.size)
    have HX1 := Lib.hid X17
    have HNX : Hid (w11.heap.size ≠ b) := Lib.hid (fun e => by have h1 := Mz.box.lt; have h2 : wq.heap.size ≤ w11.heap.size := L11.size; have h3 : b < wq.heap.size := h1; omega)
    have HRo := Lib.hid hro
    clear hro M11 E11 L11 M12 E12 L12 M16 E16 L16 M17 E17 L17 Mz Ez Lz hHeld HWq X16 X12 X17
    generalize w17 = w5 at *
    generalize w11.heap.size = bx at *
    by_cases hz : openE M.off ev.n ev.player M.ms.length = 0
    ·skip
     have HZ := Lib.hid hz
     have HRo2 : Hid (ro = declineO M.off ev.n) := Lib.hid (HRo.out hz)
     have HD2 : Hid (M.doOffer ev = ({ M with off := declineO M.off ev.n }, 0)) := Lib.hid (by rw [HDO.out, if_neg (fun h => h hz)])
     rw [hz]
     clear hz
     have x0 := HX1.out.cell 0 rfl
     have x1 := HX1.out.cell 1 rfl
     have x2 := HX1.out.cell 2 rfl
     have x3 := HX1.out.cell 3 rfl
     have x4 := HX1.out.cell 4 rfl
     have x5 := HX1.out.cell 5 rfl
     have d28 := HM1.out.box.cell 28 rfl
     have f28 := HM1.out.box.frozen 28
     have d29 := HM1.out.box.cell 29 rfl
     have f29 := HM1.out.box.frozen 29
     have d30 := HM1.out.box.cell 30 rfl
     have f30 := HM1.out.box.frozen 30
     have d31 := HM1.out.box.cell 31 rfl
     have f31 := HM1.out.box.frozen 31
     have d32 := HM1.out.box.cell 32 rfl
     have f32 := HM1.out.box.frozen 32
     have d33 := HM1.out.box.cell 33 rfl
     have f33 := HM1.out.box.frozen 33
     have HP := Lib.hid (HM1.out.put (M' := { M with off := ro }) (B' := B) 28 [.int .i64 ro.b0, .int .i64 ro.b1, .int .i64 ro.l00, .int .i64 ro.l01, .int .i64 ro.l10, .int .i64 ro.l11] (by simp) rfl rfl rfl rfl (HM1.out.rd.imp (fun _ h => ⟨h.rd, h.per, h.pc, h.pr, h.jr⟩)))
     clear HRo
     go_wp2_with fail
     go_ret
     exact ⟨by rw [HD2.out]; rfl, S, B, by rw [HD2.out, ← HRo2.out]; exact HP.out.1, Shr.refl _ _, (MFr.new HB1.out).trans HP.out.2 (Shr.refl _ _)⟩
    ·skip
     have HD2 : Hid (M.doOffer ev = (M, openE M.off ev.n ev.player M.ms.length)) := Lib.hid (by rw [HDO.out, if_pos hz])
     have hzb : (openE M.off ev.n ev.player M.ms.length == 0) = false := by simpa using hz
     clear hz HRo HDO
     generalize openE M.off ev.n ev.player M.ms.length = er at *
     go_wp2_with fail
     go_ret
     exact ⟨by rw [HD2.out]; rfl, S, B, by rw [HD2.out]; exact HM1.out, Shr.refl _ _, MFr.new HB1.out⟩
  ·skip
   go_simp
   refine K_world ?_
   intro w16 e16
   have hbb : Below wq.drew.heap.size wq.drew w16 := by rw [e16]; exact (Below.refl _ _).alloc (Nat.le_refl _) _
   have X16 : Box w16 (wq.heap.size) [.int .i64 0, .int .i64 0, .int .i64 0, .int .i64 0, .int .i64 0, .int .i64 0] 47 := by rw [e16]; exact Box.new' _ _ _ _ rfl
   have M16 := Mz.below hbb
   have E16 := Ez.stays hbb
   have L16 := below_trans Lz hbb Lz.size
   clear hbb e16
   refine hK.out _ _ (by and_intros <;> first | exact M16.box.cell _ rfl | exact E16.cell _ rfl) (fun hHeld => ?_)
   clear hK K
   refine cnL 11 fun K hK => ?_
   go_simp
   refine (count_m _ M16).mono ?_
   rintro e w11 ⟨rfl, hbb⟩
   have M11 := M16.below hbb
   have E11 := E16.stays hbb
   have L11 := below_trans L16 hbb L16.size
   have X11 := X16.stays hbb
   clear hbb
   refine hK.out _ _ (by and_intros <;> first | exact M11.box.cell _ rfl | exact E11.cell _ rfl) (fun hHeld => ?_)
   clear hK K
   refine cnL 12 fun K hK => ?_
   go_simp
   refine (offDec M.off ev.n ev.player M.ms.length _ HOg.out HPl.out HLt.out).mono ?_
   rintro e w12 ⟨ro, hro, rfl, hbb⟩
   have M12 := M11.below hbb
   have E12 := E11.stays hbb
   have L12 := below_trans L11 hbb L11.size
   have X12 := X11.stays hbb
   clear hbb
   refine hK.out _ _ (by and_intros <;> first | exact M12.box.cell _ rfl | exact E12.cell _ rfl) (fun hHeld => ?_)
   clear hK K
   refine tkW 13 ?_
   refine tkW 14 ?_
   refine tkW 15 ?_
   refine cnL 17 fun K hK => ?_
   rw [if_pos (by rfl)]
   refine wp_store_mid 47 (.tmp 6) (.tmp 25) (by rfl) (wq.heap.size) 0 #[.int .i64 ro.b0, .int .i64 ro.b1, .int .i64 ro.l00, .int .i64 ro.l01, .int .i64 ro.l10, .int .i64 ro.l11] (by rfl) (by rfl) (X12.has 0 6 (by simp)) (by kernel_rfl) (by simp [Value.oneCell']) ?_
   refine K_world ?_
   intro w17 e17
   have X17 : Box w17 (wq.heap.size) [.int .i64 ro.b0, .int .i64 ro.b1, .int .i64 ro.l00, .int .i64 ro.l01, .int .i64 ro.l10, .int .i64 ro.l11] 47 := by rw [e17]; exact X12.store rfl
   have hbn : wq.heap.size ≤ wq.heap.size := Nat.le_refl _
   have L17 : Below wq.drew.heap.size wq.drew w17 := by rw [e17]; exact below_setCells L12 hbn 0 _
   have M17 := Mz.below L17
   have E17 := Ez.stays L17
   clear e17 hbn
   refine hK.out _ _ (by and_intros <;> first | exact M17.box.cell _ rfl | exact E17.cell _ rfl) (fun hHeld => ?_)
   clear hK K
   refine tkW 18 ?_
   refine dnN ?_
   have HM1 := Lib.hid M17
   have HB1 : Hid (Below w.heap.size w w17) := Lib.hid (below_trans HWq.out L17 HWq.out.size)
   have HX1 := Lib.hid X17
   have HNX : Hid (wq.heap.size ≠ b) := Lib.hid (fun e => by have h1 := Mz.box.lt; have h2 : wq.heap.size ≤ wq.heap.size := Nat.le_refl _; have h3 : b < wq.heap.size := h1; omega)
   have HRo := Lib.hid hro
   clear hro M11 E11 L11 M12 E12 L12 M16 E16 L16 M17 E17 L17 Mz Ez Lz hHeld HWq X16 X11 X12 X17
   generalize w17 = w5 at *
   obtain ⟨bx, hbx⟩ : ∃ bx, bx = wq.heap.size := ⟨_, rfl⟩
   rw [← hbx] at HX1 HNX ⊢
   clear hbx
   by_cases hz : openE M.off ev.n ev.player M.ms.length = 0
   ·skip
    have HZ := Lib.hid hz
    have HRo2 : Hid (ro = declineO M.off ev.n) := Lib.hid (HRo.out hz)
    have HD2 : Hid (M.doOffer ev = ({ M with off := declineO M.off ev.n }, 0)) := Lib.hid (by rw [HDO.out, if_neg (fun h => h hz)])
    rw [hz]
    clear hz
    have x0 := HX1.out.cell 0 rfl
    have x1 := HX1.out.cell 1 rfl
    have x2 := HX1.out.cell 2 rfl
    have x3 := HX1.out.cell 3 rfl
    have x4 := HX1.out.cell 4 rfl
    have x5 := HX1.out.cell 5 rfl
    have d28 := HM1.out.box.cell 28 rfl
    have f28 := HM1.out.box.frozen 28
    have d29 := HM1.out.box.cell 29 rfl
    have f29 := HM1.out.box.frozen 29
    have d30 := HM1.out.box.cell 30 rfl
    have f30 := HM1.out.box.frozen 30
    have d31 := HM1.out.box.cell 31 rfl
    have f31 := HM1.out.box.frozen 31
    have d32 := HM1.out.box.cell 32 rfl
    have f32 := HM1.out.box.frozen 32
    have d33 := HM1.out.box.cell 33 rfl
    have f33 := HM1.out.box.frozen 33
    have HP := Lib.hid (HM1.out.put (M' := { M with off := ro }) (B' := B) 28 [.int .i64 ro.b0, .int .i64 ro.b1, .int .i64 ro.l00, .int .i64 ro.l01, .int .i64 ro.l10, .int .i64 ro.l11] (by simp) rfl rfl rfl rfl (HM1.out.rd.imp (fun _ h => ⟨h.rd, h.per, h.pc, h.pr, h.jr⟩)))
    clear HRo
    go_wp2_with fail
    go_ret
    exact ⟨by rw [HD2.out]; rfl, S, B, by rw [HD2.out, ← HRo2.out]; exact HP.out.1, Shr.refl _ _, (MFr.new HB1.out).trans HP.out.2 (Shr.refl _ _)⟩
   ·skip
    have HD2 : Hid (M.doOffer ev = (M, openE M.off ev.n ev.player M.ms.length)) := Lib.hid (by rw [HDO.out, if_pos hz])
    have hzb : (openE M.off ev.n ev.player M.ms.length == 0) = false := by simpa using hz
    clear hz HRo HDO
    generalize openE M.off ev.n ev.player M.ms.length = er at *
    go_wp2_with fail
    go_ret
    exact ⟨by rw [HD2.out]; rfl, S, B, by rw [HD2.out]; exact HM1.out, Shr.refl _ _, MFr.new HB1.out⟩
 ·have HDO : Hid (M.doOffer ev = if makeE M.off ev.n ev.player M.ms.length ≠ 0 then (M, makeE M.off ev.n ev.player M.ms.length) else ({ M with off := makeO M.off ev.n ev.player M.ms.length }, 0)) := Lib.hid (by unfold MatZ.doOffer; rw [if_neg hk])
  have hkb : (ev.kind == 3) = false := by simpa using hk
  clear hk
  go_upto_region 4 with (fail)
  clear e0 hkb
  generalize w0 = wq at *
  have Mz : MatchAt S base wq.drew b M B := HM0.out.below (below_drew' (Below.refl _ _))
  have Ez := HE0.out.drew
  have Lz : Below wq.drew.heap.size wq.drew wq.drew := Below.refl _ _
  have HWq : Hid (Below w.heap.size w wq.drew) := Lib.hid (below_drew' HB0.out)
  clear HM0 HE0 HB0
  refine wp_region_noPanic ?_
  refine beginL (S := (fun w' => w'.cell? ⟨b, 28, none⟩ = some (.int .i64 M.off.b0) ∧ w'.cell? ⟨b, 29, none⟩ = some (.int .i64 M.off.b1) ∧ w'.cell? ⟨b, 30, none⟩ = some (.int .i64 M.off.l00) ∧ w'.cell? ⟨b, 31, none⟩ = some (.int .i64 M.off.l01) ∧ w'.cell? ⟨b, 32, none⟩ = some (.int .i64 M.off.l10) ∧ w'.cell? ⟨b, 33, none⟩ = some (.int .i64 M.off.l11) ∧ w'.cell? ⟨w.heap.size, 2, none⟩ = some (.int .i64 ev.n) ∧ w'.cell? ⟨w.heap.size, 1, none⟩ = some (.int .i64 ev.player))) (L := []) (by kernel_rfl) (by and_intros <;> first | exact Mz.box.cell _ rfl | exact Ez.cell _ rfl) (fun hHeld => ?_)
  refine tkW 0 ?_
  refine tkW 1 ?_
  refine tkW 6 ?_
  refine tkW 8 ?_
  refine tkW 10 ?_
  refine tkW 2 ?_
  refine tkL 7 ?_
  refine tkL 9 ?_
  refine tkW 3 ?_
  refine tkW 4 ?_
  refine tkL 5 ?_
  refine rdL (rs := [11, 16]) ?_
  refine (AllReadyL.cons (by first | (simp only [List.getElem?_toArray, List.getElem?_cons_zero, List.getElem?_cons_succ] <;> rfl) | rfl) (fun K hK => ?_) (AllReadyL.cons (by first | (simp only [List.getElem?_toArray, List.getElem?_cons_zero, List.getElem?_cons_succ] <;> rfl) | rfl) (fun K hK => ?_) AllReadyL.nil))
  ·skip
   go_simp
   refine (count_m _ Mz).mono ?_
   rintro e w11 ⟨rfl, hbb⟩
   have M11 := Mz.below hbb
   have E11 := Ez.stays hbb
   have L11 := below_trans Lz hbb Lz.size
   clear hbb
   refine hK.out _ _ (by and_intros <;> first | exact M11.box.cell _ rfl | exact E11.cell _ rfl) (fun hHeld => ?_)
   clear hK K
   refine rdL (rs := [12, 16]) ?_
   refine (AllReadyL.cons (by first | (simp only [List.getElem?_toArray, List.getElem?_cons_zero, List.getElem?_cons_succ] <;> rfl) | rfl) (fun K hK => ?_) (AllReadyL.cons (by first | (simp only [List.getElem?_toArray, List.getElem?_cons_zero, List.getElem?_cons_succ] <;> rfl) | rfl) (fun K hK => ?_) AllReadyL.nil))
   ·skip
    go_simp
    refine (offMk M.off ev.n ev.player M.ms.length _ HOg.out HPl.out HLt.out).mono ?_
    rintro e w12 ⟨ro, hro, rfl, hbb⟩
    have M12 := M11.below hbb
    have E12 := E11.stays hbb
    have L12 := below_trans L11 hbb L11.size
    clear hbb
    refine hK.out _ _ (by and_intros <;> first | exact M12.box.cell _ rfl | exact E12.cell _ rfl) (fun hHeld => ?_)
    clear hK K
    refine tkW 13 ?_
    refine tkW 14 ?_
    refine tkW 15 ?_
    refine cnL 16 fun K hK => ?_
    go_simp
    refine K_world ?_
    intro w16 e16
    have hbb : Below w12.heap.size w12 w16 := by rw [e16]; exact (Below.refl _ _).alloc (Nat.le_refl _) _
    have X16 : Box w16 (w12.heap.size) [.int .i64 0, .int .i64 0, .int .i64 0, .int .i64 0, .int .i64 0, .int .i64 0] 47 := by rw [e16]; exact Box.new' _ _ _ _ rfl
    have M16 := M12.below hbb
    have E16 := E12.stays hbb
    have L16 := below_trans L12 hbb L12.size
    clear hbb e16
    refine hK.out _ _ (by and_intros <;> first | exact M16.box.cell _ rfl | exact E16.cell _ rfl) (fun hHeld => ?_)
    clear hK K
    refine cnL 17 fun K hK => ?_
    rw [if_pos (by rfl)]
    refine wp_store_mid 47 (.tmp 6) (.tmp 25) (by rfl) (w12.heap.size) 0 #[.int .i64 ro.b0, .int .i64 ro.b1, .int .i64 ro.l00, .int .i64 ro.l01, .int .i64 ro.l10, .int .i64 ro.l11] (by rfl) (by rfl) (X16.has 0 6 (by simp)) (by kernel_rfl) (by simp [Value.oneCell']) ?_
    refine K_world ?_
    intro w17 e17
    have X17 : Box w17 (w12.heap.size) [.int .i64 ro.b0, .int .i64 ro.b1, .int .i64 ro.l00, .int .i64 ro.l01, .int .i64 ro.l10, .int .i64 ro.l11] 47 := by rw [e17]; exact X16.store rfl
    have hbn : wq.heap.size ≤ w12.heap.size := L12.size
    have L17 : Below wq.drew.heap.size wq.drew w17 := by rw [e17]; exact below_setCells L16 hbn 0 _
    have M17 := Mz.below L17
    have E17 := Ez.stays L17
    clear e17 hbn
    refine hK.out _ _ (by and_intros <;> first | exact M17.box.cell _ rfl | exact E17.cell _ rfl) (fun hHeld => ?_)
    clear hK K
    refine tkW 18 ?_
    refine dnN ?_
    have HM1 := Lib.hid M17
    have HB1 : Hid (Below w.heap.size w w17) := Lib.hid (below_trans HWq.out L17 HWq.out.size)
    have HX1 := Lib.hid X17
    have HNX : Hid (w12.heap.size ≠ b) := Lib.hid (fun e => by have h1 := Mz.box.lt; have h2 : wq.heap.size ≤ w12.heap.size := L12.size; have h3 : b < wq.heap.size := h1; omega)
    have HRo := Lib.hid hro
    clear hro M11 E11 L11 M12 E12 L12 M16 E16 L16 M17 E17 L17 Mz Ez Lz hHeld HWq X16 X17
    generalize w17 = w5 at *
    generalize w12.heap.size = bx at *
    by_cases hz : makeE M.off ev.n ev.player M.ms.length = 0
    ·skip
     have HZ := Lib.hid hz
     have HRo2 : Hid (ro = makeO M.off ev.n ev.player M.ms.length) := Lib.hid (HRo.out hz)
     have HD2 : Hid (M.doOffer ev = ({ M with off := makeO M.off ev.n ev.player M.ms.length }, 0)) := Lib.hid (by rw [HDO.out, if_neg (fun h => h hz)])
     rw [hz]
     clear hz
     have x0 := HX1.out.cell 0 rfl
     have x1 := HX1.out.cell 1 rfl
     have x2 := HX1.out.cell 2 rfl
     have x3 := HX1.out.cell 3 rfl
     have x4 := HX1.out.cell 4 rfl
     have x5 := HX1.out.cell 5 rfl
     have d28 := HM1.out.box.cell 28 rfl
     have f28 := HM1.out.box.frozen 28
     have d29 := HM1.out.box.cell 29 rfl
     have f29 := HM1.out.box.frozen 29
     have d30 := HM1.out.box.cell 30 rfl
     have f30 := HM1.out.box.frozen 30
     have d31 := HM1.out.box.cell 31 rfl
     have f31 := HM1.out.box.frozen 31
     have d32 := HM1.out.box.cell 32 rfl
     have f32 := HM1.out.box.frozen 32
     have d33 := HM1.out.box.cell 33 rfl
     have f33 := HM1.out.box.frozen 33
     have HP := Lib.hid (HM1.out.put (M' := { M with off := ro }) (B' := B) 28 [.int .i64 ro.b0, .int .i64 ro.b1, .int .i64 ro.l00, .int .i64 ro.l01, .int .i64 ro.l10, .int .i64 ro.l11] (by simp) rfl rfl rfl rfl (HM1.out.rd.imp (fun _ h => ⟨h.rd, h.per, h.pc, h.pr, h.jr⟩)))
     clear HRo
     go_wp2_with fail
     go_ret
     exact ⟨by rw [HD2.out]; rfl, S, B, by rw [HD2.out, ← HRo2.out]; exact HP.out.1, Shr.refl _ _, (MFr.new HB1.out).trans HP.out.2 (Shr.refl _ _)⟩
    ·skip
     have HD2 : Hid (M.doOffer ev = (M, makeE M.off ev.n ev.player M.ms.length)) := Lib.hid (by rw [HDO.out, if_pos hz])
     have hzb : (makeE M.off ev.n ev.player M.ms.length == 0) = false := by simpa using hz
     clear hz HRo HDO
     generalize makeE M.off ev.n ev.player M.ms.length = er at *
     go_wp2_with fail
     go_ret
     exact ⟨by rw [HD2.out]; rfl, S, B, by rw [HD2.out]; exact HM1.out, Shr.refl _ _, MFr.new HB1.out⟩
   ·skip
    go_simp
    refine K_world ?_
    intro w16 e16
    have hbb : Below w11.heap.size w11 w16 := by rw [e16]; exact (Below.refl _ _).alloc (Nat.le_refl _) _
    have X16 : Box w16 (w11.heap.size) [.int .i64 0, .int .i64 0, .int .i64 0, .int .i64 0, .int .i64 0, .int .i64 0] 47 := by rw [e16]; exact Box.new' _ _ _ _ rfl
    have M16 := M11.below hbb
    have E16 := E11.stays hbb
    have L16 := below_trans L11 hbb L11.size
    clear hbb e16
    refine hK.out _ _ (by and_intros <;> first | exact M16.box.cell _ rfl | exact E16.cell _ rfl) (fun hHeld => ?_)
    clear hK K
    refine cnL 12 fun K hK => ?_
    go_simp
    refine (offMk M.off ev.n ev.player M.ms.length _ HOg.out HPl.out HLt.out).mono ?_
    rintro e w12 ⟨ro, hro, rfl, hbb⟩
    have M12 := M16.below hbb
    have E12 := E16.stays hbb
    have L12 := below_trans L16 hbb L16.size
    have X12 := X16.stays hbb
    clear hbb
    refine hK.out _ _ (by and_intros <;> first | exact M12.box.cell _ rfl | exact E12.cell _ rfl) (fun hHeld => ?_)
    clear hK K
    refine tkW 13 ?_
    refine tkW 14 ?_
    refine tkW 15 ?_
    refine cnL 17 fun K hK => ?_
    rw [if_pos (by rfl)]
    refine wp_store_mid 47 (.tmp 6) (.tmp 25) (by rfl) (w11.heap.size) 0 #[.int .i64 ro.b0, .int .i64 ro.b1, .int .i64 ro.l00, .int .i64 ro.l01, .int .i64 ro.l10, .int .i64 ro.l11] (by rfl) (by rfl) (X12.has 0 6 (by simp)) (by kernel_rfl) (by simp [Value.oneCell']) ?_
    refine K_world ?_
    intro w17 e17
    have X17 : Box w17 (w11.heap.size) [.int .i64 ro.b0, .int .i64 ro.b1, .int .i64 ro.l00, .int .i64 ro.l01, .int .i64 ro.l10, .int .i64 ro.l11] 47 := by rw [e17]; exact X12.store rfl
    have hbn : wq.heap.size ≤ w11.heap.size := L11.size
    have L17 : Below wq.drew.heap.size wq.drew w17 := by rw [e17]; exact below_setCells L12 hbn 0 _
    have M17 := Mz.below L17
    have E17 := Ez.stays L17
    clear e17 hbn
    refine hK.out _ _ (by and_intros <;> first | exact M17.box.cell _ rfl | exact E17.cell _ rfl) (fun hHeld => ?_)
    clear hK K
    refine tkW 18 ?_
    refine dnN ?_
    have HM1 := Lib.hid M17
    have HB1 : Hid (Below w.heap.size w w17) := Lib.hid (below_trans HWq.out L17 HWq.out.size)
    have HX1 := Lib.hid X17
    have HNX : Hid (w11.heap.size ≠ b) := Lib.hid (fun e => by have h1 := Mz.box.lt; have h2 : wq.heap.size ≤ w11.heap.size := L11.size; have h3 : b < wq.heap.size := h1; omega)
    have HRo := Lib.hid hro
    clear hro M11 E11 L11 M12 E12 L12 M16 E16 L16 M17 E17 L17 Mz Ez Lz hHeld HWq X16 X12 X17
    generalize w17 = w5 at *
    generalize w11.heap.size = bx at *
    by_cases hz : makeE M.off ev.n ev.player M.ms.length = 0
    ·skip
     have HZ := Lib.hid hz
     have HRo2 : Hid (ro = makeO M.off ev.n ev.player M.ms.length) := Lib.hid (HRo.out hz)
     have HD2 : Hid (M.doOffer ev = ({ M with off := makeO M.off ev.n ev.player M.ms.length }, 0)) := Lib.hid (by rw [HDO.out, if_neg (fun h => h hz)])
     rw [hz]
     clear hz
     have x0 := HX1.out.cell 0 rfl
     have x1 := HX1.out.cell 1 rfl
     have x2 := HX1.out.cell 2 rfl
     have x3 := HX1.out.cell 3 rfl
     have x4 := HX1.out.cell 4 rfl
     have x5 := HX1.out.cell 5 rfl
     have d28 := HM1.out.box.cell 28 rfl
     have f28 := HM1.out.box.frozen 28
     have d29 := HM1.out.box.cell 29 rfl
     have f29 := HM1.out.box.frozen 29
     have d30 := HM1.out.box.cell 30 rfl
     have f30 := HM1.out.box.frozen 30
     have d31 := HM1.out.box.cell 31 rfl
     have f31 := HM1.out.box.frozen 31
     have d32 := HM1.out.box.cell 32 rfl
     have f32 := HM1.out.box.frozen 32
     have d33 := HM1.out.box.cell 33 rfl
     have f33 := HM1.out.box.frozen 33
     have HP := Lib.hid (HM1.out.put (M' := { M with off := ro }) (B' := B) 28 [.int .i64 ro.b0, .int .i64 ro.b1, .int .i64 ro.l00, .int .i64 ro.l01, .int .i64 ro.l10, .int .i64 ro.l11] (by simp) rfl rfl rfl rfl (HM1.out.rd.imp (fun _ h => ⟨h.rd, h.per, h.pc, h.pr, h.jr⟩)))
     clear HRo
     go_wp2_with fail
     go_ret
     exact ⟨by rw [HD2.out]; rfl, S, B, by rw [HD2.out, ← HRo2.out]; exact HP.out.1, Shr.refl _ _, (MFr.new HB1.out).trans HP.out.2 (Shr.refl _ _)⟩
    ·skip
     have HD2 : Hid (M.doOffer ev = (M, makeE M.off ev.n ev.player M.ms.length)) := Lib.hid (by rw [HDO.out, if_pos hz])
     have hzb : (makeE M.off ev.n ev.player M.ms.length == 0) = false := by simpa using hz
     clear hz HRo HDO
     generalize makeE M.off ev.n ev.player M.ms.length = er at *
     go_wp2_with fail
     go_ret
     exact ⟨by rw [HD2.out]; rfl, S, B, by rw [HD2.out]; exact HM1.out, Shr.refl _ _, MFr.new HB1.out⟩
  ·skip
   go_simp
   refine K_world ?_
   intro w16 e16
   have hbb : Below wq.drew.heap.size wq.drew w16 := by rw [e16]; exact (Below.refl _ _).alloc (Nat.le_refl _) _
   have X16 : Box w16 (wq.heap.size) [.int .i64 0, .int .i64 0, .int .i64 0, .int .i64 0, .int .i64 0, .int .i64 0] 47 := by rw [e16]; exact Box.new' _ _ _ _ rfl
   have M16 := Mz.below hbb
   have E16 := Ez.stays hbb
   have L16 := below_trans Lz hbb Lz.size
   clear hbb e16
   refine hK.out _ _ (by and_intros <;> first | exact M16.box.cell _ rfl | exact E16.cell _ rfl) (fun hHeld => ?_)
   clear hK K
   refine cnL 11 fun K hK => ?_
   go_simp
   refine (count_m _ M16).mono ?_
   rintro e w11 ⟨rfl, hbb⟩
   have M11 := M16.below hbb
   have E11 := E16.stays hbb
   have L11 := below_trans L16 hbb L16.size
   have X11 := X16.stays hbb
   clear hbb
   refine hK.out _ _ (by and_intros <;> first | exact M11.box.cell _ rfl | exact E11.cell _ rfl) (fun hHeld => ?_)
   clear hK K
   refine cnL 12 fun K hK => ?_
   go_simp
   refine (offMk M.off ev.n ev.player M.ms.length _ HOg.out HPl.out HLt.out).mono ?_
   rintro e w12 ⟨ro, hro, rfl, hbb⟩
   have M12 := M11.below hbb
   have E12 := E11.stays hbb
   have L12 := below_trans L11 hbb L11.size
   have X12 := X11.stays hbb
   clear hbb
   refine hK.out _ _ (by and_intros <;> first | exact M12.box.cell _ rfl | exact E12.cell _ rfl) (fun hHeld => ?_)
   clear hK K
   refine tkW 13 ?_
   refine tkW 14 ?_
   refine tkW 15 ?_
   refine cnL 17 fun K hK => ?_
   rw [if_pos (by rfl)]
   refine wp_store_mid 47 (.tmp 6) (.tmp 25) (by rfl) (wq.heap.size) 0 #[.int .i64 ro.b0, .int .i64 ro.b1, .int .i64 ro.l00, .int .i64 ro.l01, .int .i64 ro.l10, .int .i64 ro.l11] (by rfl) (by rfl) (X12.has 0 6 (by simp)) (by kernel_rfl) (by simp [Value.oneCell']) ?_
   refine K_world ?_
   intro w17 e17
   have X17 : Box w17 (wq.heap.size) [.int .i64 ro.b0, .int .i64 ro.b1, .int .i64 ro.l00, .int .i64 ro.l01, .int .i64 ro.l10, .int .i64 ro.l11] 47 := by rw [e17]; exact X12.store rfl
   have hbn : wq.heap.size ≤ wq.heap.size := Nat.le_refl _
   have L17 : Below wq.drew.heap.size wq.drew w17 := by rw [e17]; exact below_setCells L12 hbn 0 _
   have M17 := Mz.below L17
   have E17 := Ez.stays L17
   clear e17 hbn
   refine hK.out _ _ (by and_intros <;> first | exact M17.box.cell _ rfl | exact E17.cell _ rfl) (fun hHeld => ?_)
   clear hK K
   refine tkW 18 ?_
   refine dnN ?_
   have HM1 := Lib.hid M17
   have HB1 : Hid (Below w.heap.size w w17) := Lib.hid (below_trans HWq.out L17 HWq.out.size)
   have HX1 := Lib.hid X17
   have HNX : Hid (wq.heap.size ≠ b) := Lib.hid (fun e => by have h1 := Mz.box.lt; have h2 : wq.heap.size ≤ wq.heap.size := Nat.le_refl _; have h3 : b < wq.heap.size := h1; omega)
   have HRo := Lib.hid hro
   clear hro M11 E11 L11 M12 E12 L12 M16 E16 L16 M17 E17 L17 Mz Ez Lz hHeld HWq X16 X11 X12 X17
   generalize w17 = w5 at *
   obtain ⟨bx, hbx⟩ : ∃ bx, bx = wq.heap.size := ⟨_, rfl⟩
   rw [← hbx] at HX1 HNX ⊢
   clear hbx
   by_cases hz : makeE M.off ev.n ev.player M.ms.length = 0
   ·skip
    have HZ := Lib.hid hz
    have HRo2 : Hid (ro = makeO M.off ev.n ev.player M.ms.length) := Lib.hid (HRo.out hz)
    have HD2 : Hid (M.doOffer ev = ({ M with off := makeO M.off ev.n ev.player M.ms.length }, 0)) := Lib.hid (by rw [HDO.out, if_neg (fun h => h hz)])
    rw [hz]
    clear hz
    have x0 := HX1.out.cell 0 rfl
    have x1 := HX1.out.cell 1 rfl
    have x2 := HX1.out.cell 2 rfl
    have x3 := HX1.out.cell 3 rfl
    have x4 := HX1.out.cell 4 rfl
    have x5 := HX1.out.cell 5 rfl
    have d28 := HM1.out.box.cell 28 rfl
    have f28 := HM1.out.box.frozen 28
    have d29 := HM1.out.box.cell 29 rfl
    have f29 := HM1.out.box.frozen 29
    have d30 := HM1.out.box.cell 30 rfl
    have f30 := HM1.out.box.frozen 30
    have d31 := HM1.out.box.cell 31 rfl
    have f31 := HM1.out.box.frozen 31
    have d32 := HM1.out.box.cell 32 rfl
    have f32 := HM1.out.box.frozen 32
    have d33 := HM1.out.box.cell 33 rfl
    have f33 := HM1.out.box.frozen 33
    have HP := Lib.hid (HM1.out.put (M' := { M with off := ro }) (B' := B) 28 [.int .i64 ro.b0, .int .i64 ro.b1, .int .i64 ro.l00, .int .i64 ro.l01, .int .i64 ro.l10, .int .i64 ro.l11] (by simp) rfl rfl rfl rfl (HM1.out.rd.imp (fun _ h => ⟨h.rd, h.per, h.pc, h.pr, h.jr⟩)))
    clear HRo
    go_wp2_with fail
    go_ret
    exact ⟨by rw [HD2.out]; rfl, S, B, by rw [HD2.out, ← HRo2.out]; exact HP.out.1, Shr.refl _ _, (MFr.new HB1.out).trans HP.out.2 (Shr.refl _ _)⟩
   ·skip
    have HD2 : Hid (M.doOffer ev = (M, makeE M.off ev.n ev.player M.ms.length)) := Lib.hid (by rw [HDO.out, if_pos hz])
    have hzb : (makeE M.off ev.n ev.player M.ms.length == 0) = false := by simpa using hz
    clear hz HRo HDO
    generalize makeE M.off ev.n ev.player M.ms.length = er at *
    go_wp2_with fail
    go_ret
    exact ⟨by rw [HD2.out]; rfl, S, B, by rw [HD2.out]; exact HM1.out, Shr.refl _ _, MFr.new HB1.out⟩
end Go.Proofs.YtnodagljaoonjaaGreatDoor

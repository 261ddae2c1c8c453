/- match's doMove. -/
import Derived.Test.YtnodagljaoonjaaGreatDoorC29
import Derived.Test.YtnodagljaoonjaaGreatDoorC09
import Derived.Test.YtnodagljaoonjaaGreatDoorC05
namespace Go.Proofs.YtnodagljaoonjaaGreatDoor
open Go.ChangeShapes Go.WideShapes Go.ChangeAt Go.RowKit
set_option linter.unusedVariables false
variable {S : Nat → Prop} {base b : Nat} {M : MatZ} {B : MatB}
/-- the number of a match's moves, as it lies in memory. -/
def lenAt (w : World) (b : Nat) : Nat := match w.cell? ⟨b, 14, none⟩ with | some (.pointer (some a)) => (match w.cell? ⟨a.block, 12, none⟩ with | some (.slice _ n _) => n | _ => 0) | _ => 0
theorem lenAt_eq {w : World} (h : MatchAt S base w b M B) : lenAt w b = M.ms.length := by
 obtain ⟨up, us, ue, vl, vm, rows, hg⟩ := h.game
 have c14 := h.box.cell 14 rfl
 obtain ⟨a, c, rfl⟩ := own_form2 hg.om
 have c12 := hg.box.cell 12 rfl
 unfold lenAt
 rw [c14]
 simp only [c12]
set_option maxRecDepth 100000 in
set_option maxHeartbeats 16000000 in
theorem doMove_any (HS : SortMvSaid) (ev : EvZ) (w : World) (h : MatchAt S base w b M B) (hb : base ≤ w.heap.size) (hm : Mid M ev.now) (hg : M.game = 0) : Calls Tryz.prog 59 #[.pointer (some ⟨b, 0, none⟩), .agg #[.int .i64 ev.kind, .int .i64 ev.player, .int .i64 ev.n, .int .i64 ev.now, .int .i64 ev.m.src, .int .i64 ev.m.dst, .int .i64 ev.m.piece]] w fun e w' => e = .returned (.int .i64 (M.doMove ev).2) ∧ MPost S base b w (M.doMove ev).1 w' := by
 have HMi := Lib.hid hm
 have HGm := Lib.hid hg
 have HDM : Hid (M.doMove ev = if M.pos.turn ≠ ev.player then (M, 12) else if ev.m ∉ movesZ M.R M.pos then (M, 13) else if M.ms.length = 400 then (M, 2) else (MatZ.runs ev.now 400 (M.move ev.m ev.now), 0)) := Lib.hid rfl
 clear hm hg
 have HSh := Lib.hid HS
 have HM := Lib.hid h
 have HBb := Lib.hid hb
 have HSX : Hid (¬ S w.heap.size) := Lib.hid (fun hk => by obtain ⟨up, us, ue, vl, vm, rows, hg⟩ := h.game; have := (hg.lo _ hk).2; omega)
 have HEb : Hid (b < w.heap.size) := Lib.hid h.box.lt
 clear h hb HS
 go_enter Tryz.func59, Tryz.ntmps59
 go_upto_region 1 with (fail)
 refine opn1 fun w0 y0_ yb_ hs_ => ?_
 have HE0 := Lib.hid y0_
 have HB0 := Lib.hid yb_
 clear hs_ y0_ yb_
 have HM0 := Lib.hid (HM.out.below HB0.out)
 generalize w0 = wq at *
 have Mz : MatchAt S base wq.drew b M B := HM0.out.below (below_drew' (Below.refl _ _))
 have Ez := HE0.out.drew
 have Lz : Below w.heap.size w wq.drew := below_drew' HB0.out
 clear HM0 HE0 HB0
 refine wp_region_noPanic ?_
 refine beginL (S := (fun w' => w'.cell? ⟨w.heap.size, 1, none⟩ = some (.int .i64 ev.player))) (L := []) (by kernel_rfl) (Ez.cell 1 rfl) (fun hHeld => ?_)
 refine tkW 0 ?_
 refine tkW 2 ?_
 refine tkL 3 ?_
 refine cnL 1 fun K hK => ?_
 go_simp
 refine (turn_any _ Mz).mono ?_
 rintro e w1 ⟨rfl, hb1⟩
 have M1 := Mz.below hb1
 have E1 := Ez.stays hb1
 have L1 := below_trans Lz hb1 Lz.size
 clear hb1
 refine hK.out _ _ (E1.cell 1 rfl) (fun hHeld => ?_)
 clear hK K
 refine tkW 4 ?_
 refine tkW 5 ?_
 refine dnN ?_
 have HM1 := Lib.hid M1
 have HE1 := Lib.hid E1
 have HB1 := Lib.hid L1
 clear M1 E1 L1 Mz Ez Lz hHeld
 generalize w1 = wr at *
 by_cases ht : M.pos.turn = ev.player
 rotate_left
 ·have HD2 : Hid (M.doMove ev = (M, 12)) := Lib.hid (by rw [HDM.out, if_pos ht])
  have htb : (M.pos.turn != ev.player) = true := by simpa using ht
  clear ht HDM
  generalize M.pos.turn = tt at *
  go_wp2_with fail
  go_ret
  exact ⟨by rw [HD2.out]; rfl, S, B, by rw [HD2.out]; exact HM1.out, Shr.refl _ _, MFr.new HB1.out⟩
 have htb : (M.pos.turn != ev.player) = false := by simpa using ht
 have HT := Lib.hid ht
 clear ht
 go_upto_region 3 with (fail)
 clear htb
 generalize wr = wq at *
 have Mz : MatchAt S base wq.drew b M B := HM1.out.below (below_drew' (Below.refl _ _))
 have Ez := HE1.out.drew
 have Lz : Below w.heap.size w wq.drew := below_drew' HB1.out
 have HK : Hid (POk M.R (nowZ M.R M.ms)) := Lib.hid (by obtain ⟨up, us, ue, vl, vm, rows, hg⟩ := HM.out.game; exact hg.nok)
 obtain ⟨up, us, ue, vl, vm, rows, hg⟩ := Mz.game
 have Gz := hg.plain
 clear HM1 HE1 HB1 hg
 refine wp_region_noPanic ?_
 refine beginL (S := (fun w' => w'.cell? ⟨b, 0, none⟩ = some (.string M.R.name) ∧ w'.cell? ⟨b, 1, none⟩ = some (.int .i64 M.R.width) ∧ w'.cell? ⟨b, 2, none⟩ = some (.int .i64 M.R.height) ∧ w'.cell? ⟨b, 3, none⟩ = some B.vp ∧ w'.cell? ⟨b, 4, none⟩ = some B.vs ∧ w'.cell? ⟨b, 5, none⟩ = some (.bool M.R.falls) ∧ w'.cell? ⟨b, 6, none⟩ = some (.bool M.R.keeps) ∧ w'.cell? ⟨b, 7, none⟩ = some B.ve ∧ w'.cell? ⟨b, 8, none⟩ = some (.int .i64 M.R.blocked) ∧ w'.cell? ⟨b, 9, none⟩ = some (.int .i64 M.R.quiet) ∧ w'.cell? ⟨b, 10, none⟩ = some (.int .i64 M.R.rept) ∧ w'.cell? ⟨b, 14, none⟩ = some (.pointer (some ⟨B.g, 0, none⟩)) ∧ w'.cell? ⟨w.heap.size, 4, none⟩ = some (.int .i64 ev.m.src) ∧ w'.cell? ⟨w.heap.size, 5, none⟩ = some (.int .i64 ev.m.dst) ∧ w'.cell? ⟨w.heap.size, 6, none⟩ = some (.int .i64 ev.m.piece))) (L := []) (by kernel_rfl) (by and_intros <;> first | exact Mz.box.cell _ rfl | exact Ez.cell _ rfl) (fun hHeld => ?_)
 refine tkW 0 ?_
 refine tkW 4 ?_
 refine tkW 10 ?_
 refine tkW 1 ?_
 refine tkW 5 ?_
 refine tkL 11 ?_
 refine tkW 2 ?_
 refine tkW 6 ?_
 refine tkL 3 ?_
 refine tkL 7 ?_
 refine cnL 8 fun K hK => ?_
 go_simp
 refine (gamePos_any _ Gz).mono ?_
 rintro e w8 ⟨vc, v0, v1, rfl, ho8, hb8⟩
 have M8 := Mz.below hb8
 have E8 := Ez.stays hb8
 have L8 := below_trans Lz hb8 Lz.size
 have P8 := ho8.rd
 clear ho8 hb8
 refine hK.out _ _ (by and_intros <;> first | exact M8.box.cell _ rfl | exact E8.cell _ rfl) (fun hHeld => ?_)
 clear hK K
 refine cnL 9 fun K hK => ?_
 go_simp
 refine (Moves_any HSh.out M.R B.vp B.vs B.ve (nowZ M.R M.ms) vc v0 v1 _ M8.fr.rd P8 HK.out).mono ?_
 rintro e w9 ⟨vx, rfl, ho9, hb9⟩
 obtain ⟨a9, c9, rfl⟩ := own_form2 ho9
 have M9 := M8.below hb9
 have E9 := E8.stays hb9
 have L9 := below_trans L8 hb9 L8.size
 have R9 := rdM_of_own ho9
 clear ho9 hb9
 refine hK.out _ _ (by and_intros <;> first | exact M9.box.cell _ rfl | exact E9.cell _ rfl) (fun hHeld => ?_)
 clear hK K
 refine cnL 12 fun K hK => ?_
 go_simp
 refine (contains_mv _ ev.m _ _ R9).mono ?_
 rintro e w12 ⟨rfl, hb12⟩
 have M12 := M9.below hb12
 have E12 := E9.stays hb12
 have L12 := below_trans L9 hb12 L9.size
 clear hb12
 refine hK.out _ _ (by and_intros <;> first | exact M12.box.cell _ rfl | exact E12.cell _ rfl) (fun hHeld => ?_)
 clear hK K
 refine tkW 13 ?_
 refine tkW 14 ?_
 refine dnN ?_
 have HM3 := Lib.hid M12
 have HE3 := Lib.hid E12
 have HB3 := Lib.hid L12
 clear M12 E12 L12 M9 E9 L9 M8 E8 L8 P8 R9 Mz Ez Lz Gz hHeld
 generalize w12 = w2 at *
 by_cases hmv : ev.m ∈ movesZ M.R (nowZ M.R M.ms)
 rotate_left
 ·have HD2 : Hid (M.doMove ev = (M, 13)) := Lib.hid (by rw [HDM.out, if_neg (fun h => h HT.out), if_pos (show ev.m ∉ movesZ M.R M.pos from hmv)])
  rw [decide_eq_false hmv]
  clear hmv HDM
  go_wp2_with fail
  go_ret
  exact ⟨by rw [HD2.out]; rfl, S, B, by rw [HD2.out]; exact HM3.out, Shr.refl _ _, MFr.new HB3.out⟩
 have HMV := Lib.hid hmv
 rw [decide_eq_true hmv]
 clear hmv
 go_upto_region 5 with (fail)
 go_wp2_with fail
 refine (count_m w2 HM3.out).mono ?_
 rintro e w3 ⟨rfl, hb3⟩
 have HM4 := Lib.hid (HM3.out.below hb3)
 have HE4 := Lib.hid (HE3.out.stays hb3)
 have HB4 := Lib.hid (below_trans HB3.out hb3 HB3.out.size)
 clear hb3 HM3 HE3 HB3
 by_cases hl : M.ms.length = 400
 ·have HD2 : Hid (M.doMove ev = (M, 2)) := Lib.hid (by rw [HDM.out, if_neg (fun h => h HT.out), if_neg (fun h => h HMV.out), if_pos hl])
  have hlb : ((M.ms.length : Int) == 400) = true := by simp; omega
  clear hl HDM
  generalize (M.ms.length : Int) = ll at *
  go_wp2_with fail
  go_ret
  exact ⟨by rw [HD2.out]; rfl, S, B, by rw [HD2.out]; exact HM4.out, Shr.refl _ _, MFr.new HB4.out⟩
 have HD2 : Hid (M.doMove ev = (MatZ.runs ev.now 400 (M.move ev.m ev.now), 0)) := Lib.hid (by rw [HDM.out, if_neg (fun h => h HT.out), if_neg (fun h => h HMV.out), if_neg hl])
 have HPre : Hid (MovePre M ev.m ev.now) := Lib.hid ⟨play_zero HGm.out HMV.out hl, HMi.out.cr, HMi.out.ck, HMi.out.sn, HMi.out.nw, HMi.out.st, HMi.out.fl, HMi.out.us, HMi.out.og, HK.out.tu⟩
 have HL4 : Hid (M.ms.length < 400) := Lib.hid (by obtain ⟨up, us, ue, vl, vm, rows, hg⟩ := HM.out.game; have := hg.lt; omega)
 have hlb : ((M.ms.length : Int) == 400) = false := by simp; omega
 have hll : ¬ ((M.ms.length : Int) = 400) := by omega
 clear hl HDM
 go_upto_region 7 with (fail)
 clear hlb hll
 have e3 := HE4.out.cell 3 rfl
 have e4 := HE4.out.cell 4 rfl
 have e5 := HE4.out.cell 5 rfl
 have e6 := HE4.out.cell 6 rfl
 go_wp2_with fail
 clear e3 e4 e5 e6
 refine (move_any HSh.out ev.m ev.now w3 HM4.out (Nat.le_trans HBb.out HB4.out.size) HPre.out).mono ?_
 rintro e w4 ⟨rfl, S1, B1, hm4, hs4, hf4⟩
 have HM5 := Lib.hid hm4
 have HE5 : Hid (Box w4 w.heap.size [.int .i64 ev.kind, .int .i64 ev.player, .int .i64 ev.n, .int .i64 ev.now, .int .i64 ev.m.src, .int .i64 ev.m.dst, .int .i64 ev.m.piece] 40) := Lib.hid (HE4.out.held hf4 (fun h => by
  rcases h with h | h
  ·exact HSX.out h
  ·have h2 : w.heap.size = b := h
   have := HEb.out; omega))
 have HS5 : Hid (Shr w S S1) := Lib.hid (fun k hk h => hs4 k (Nat.lt_of_lt_of_le hk HB4.out.size) h)
 have HF5 : Hid (MFr S b w w4) := Lib.hid ((MFr.new HB4.out).trans hf4 (Shr.refl _ _))
 have HN5 : Hid (¬ S1 w.heap.size) := Lib.hid (fun h => HSX.out (hs4 _ HE4.out.lt h))
 have HMid5 : Hid (Mid (M.move ev.m ev.now) ev.now) := Lib.hid (HMi.out.move ev.m)
 have HLen : Hid (400 < 400 + (M.move ev.m ev.now).ms.length) := Lib.hid (by show _ < 400 + (M.ms ++ [ev.m]).length; simp)
 clear hm4 hs4 hf4 HM4 HE4 HB4 HPre
 generalize M.move ev.m ev.now = M1 at *
 go_wp2_with fail
 go_loopw [5, 6, 7, 8] (fun v5 v6 v7 v8 wr => ∃ (f : Nat) (Mk : MatZ) (Sk : Nat → Prop) (Bk : MatB) (o5 o6 o7 o8 : Value), o5 = v5 ∧ o6 = v6 ∧ o7 = v7 ∧ o8 = v8 ∧ Hid (MatchAt Sk base wr b Mk Bk) ∧ Hid (MatZ.runs ev.now 400 M1 = MatZ.runs ev.now f Mk) ∧ Hid (400 < f + Mk.ms.length) ∧ Hid (Mid Mk ev.now) ∧ Hid (Shr w S Sk) ∧ Hid (MFr S b w wr) ∧ Hid (Box wr w.heap.size [.int .i64 ev.kind, .int .i64 ev.player, .int .i64 ev.n, .int .i64 ev.now, .int .i64 ev.m.src, .int .i64 ev.m.dst, .int .i64 ev.m.piece] 40) ∧ Hid (¬ Sk w.heap.size)) (fun _ _ _ _ wr => 401 - lenAt wr b)
 case atStart => exact ⟨400, M1, S1, B1, _, _, _, _, rfl, rfl, rfl, rfl, HM5, Lib.hid rfl, HLen, HMid5, HS5, HF5, HE5, HN5⟩
 case round =>
  obtain ⟨f, Mk, Sk, Bk, o5, o6, o7, o8, rfl, rfl, rfl, rfl, HMk, HRun, HFu, HMid, HSk, HFk, HEk, HNk⟩ := hrel
  have HLa := Lib.hid (lenAt_eq HMk.out)
  have HLt : Hid (Mk.ms.length ≤ 400) := Lib.hid (by obtain ⟨up, us, ue, vl, vm, rows, hg⟩ := HMk.out.game; exact hg.lt)
  have HBk : Hid (base ≤ wr.heap.size) := Lib.hid (Nat.le_trans HBb.out HFk.out.size)
  have HWk : Hid (w.heap.size ≤ wr.heap.size) := Lib.hid HFk.out.size
  have c14 := HMk.out.box.cell 14 rfl
  have HGk : Hid (∃ up us ue vl vm rows, GameAt Sk base wr Bk.g Mk.R Mk.ms up us ue vl vm rows) := Lib.hid (by obtain ⟨up, us, ue, vl, vm, rows, hg⟩ := HMk.out.game; exact ⟨_, _, _, _, _, _, hg.plain⟩)
  go_wp2_with fail
  obtain ⟨up, us, ue, vl, vm, rows, hgk⟩ := HGk.out
  refine (gameRes_any HSh.out wr hgk).mono ?_
  rintro e w5 ⟨rfl, hb5⟩
  have HM6 := Lib.hid (HMk.out.below hb5)
  have HE6 := Lib.hid (HEk.out.stays hb5)
  have HF6 : Hid (MFr S b w w5) := Lib.hid (HFk.out.trans (MFr.new (S := Sk) hb5) HSk.out)
  have HZ6 : Hid (wr.heap.size ≤ w5.heap.size) := Lib.hid hb5.size
  clear hb5 hgk c14
  by_cases hgm : gameRes Mk.R Mk.ms = 0
  rotate_left
  ·have hgb : (gameRes Mk.R Mk.ms == 0) = false := by simpa using hgm
   have HEnd : Hid (MatZ.runs ev.now 400 M1 = Mk) := Lib.hid (by rw [HRun.out]; exact runs_stop _ _ _ (fun h => hgm h.1))
   clear hgm
   generalize gameRes Mk.R Mk.ms = gm at *
   go_wp2_with fail
   go_ret
   exact ⟨by rw [HD2.out]; rfl, Sk, Bk, by rw [HD2.out, HEnd.out]; exact HM6.out, HSk.out, HF6.out⟩
  have HGm2 : Hid (Mk.game = 0) := Lib.hid hgm
  rw [hgm]
  clear hgm
  go_wp2_with fail
  refine (count_m w5 HM6.out).mono ?_
  rintro e w6 ⟨rfl, hb6⟩
  have HM7 := Lib.hid (HM6.out.below hb6)
  have HE7 := Lib.hid (HE6.out.stays hb6)
  have HF7 : Hid (MFr S b w w6) := Lib.hid (HF6.out.trans (MFr.new (S := Sk) hb6) HSk.out)
  have HZ7 : Hid (wr.heap.size ≤ w6.heap.size) := Lib.hid (Nat.le_trans HZ6.out hb6.size)
  clear hb6 HM6 HE6 HF6 HZ6
  by_cases hl4 : Mk.ms.length < 400
  rotate_left
  ·have hlb : ¬ ((Mk.ms.length : Int) < 400) := by omega
   have HEnd : Hid (MatZ.runs ev.now 400 M1 = Mk) := Lib.hid (by rw [HRun.out]; exact runs_stop _ _ _ (fun h => hl4 h.2))
   clear hl4
   generalize (Mk.ms.length : Int) = ll at *
   go_wp2_with fail
   go_ret
   exact ⟨by rw [HD2.out]; rfl, Sk, Bk, by rw [HD2.out, HEnd.out]; exact HM7.out, HSk.out, HF7.out⟩
  have HL8 := Lib.hid hl4
  have hlb : ((Mk.ms.length : Int) < 400) := by omega
  have HStep := Lib.hid (runs_step ev.now f Mk HGm2.out hl4 (by have := HFu.out; omega))
  clear hl4
  go_upto_region 9 with (fail)
  clear hlb
  generalize w6 = wq at *
  have Mz : MatchAt Sk base wq.drew b Mk Bk := HM7.out.below (below_drew' (Below.refl _ _))
  have Ez := HE7.out.drew
  have Lz : Below wq.drew.heap.size wq.drew wq.drew := Below.refl _ _
  have HF8 : Hid (MFr S b w wq.drew) := Lib.hid (Fr.drew HF7.out)
  have HLo : Hid (∀ q, (Sk q ∨ one1 b q) → q < wq.heap.size) := Lib.hid (fun q hq => by
   obtain ⟨up, us, ue, vl, vm, rows, hg⟩ := HM7.out.game
   rcases hq with hq | hq
   ·exact (hg.lo q hq).2
   ·rw [show q = b from hq]; exact HM7.out.box.lt)
  have HK9 : Hid (POk Mk.R Mk.pos) := Lib.hid (by obtain ⟨up, us, ue, vl, vm, rows, hg⟩ := Mz.game; exact hg.nok)
  have HRe9 : Hid (rulesErr Mk.R = 0) := Lib.hid (by obtain ⟨up, us, ue, vl, vm, rows, hg⟩ := Mz.game; exact hg.re)
  have HPc : Hid (pcheckErr Mk.R Mk.pos Mk.prem = 0) := Lib.hid (by unfold pcheckErr; rw [if_neg (by rw [pos_of HRe9.out HK9.out]; decide)]; exact prem_zero HMid.out.pr)
  clear HM7 HE7 HF7 HZ7
  refine wp_region_noPanic ?_
  refine beginL (S := (fun w' => w'.cell? ⟨b, 0, none⟩ = some (.string Mk.R.name) ∧ w'.cell? ⟨b, 1, none⟩ = some (.int .i64 Mk.R.width) ∧ w'.cell? ⟨b, 2, none⟩ = some (.int .i64 Mk.R.height) ∧ w'.cell? ⟨b, 3, none⟩ = some Bk.vp ∧ w'.cell? ⟨b, 4, none⟩ = some Bk.vs ∧ w'.cell? ⟨b, 5, none⟩ = some (.bool Mk.R.falls) ∧ w'.cell? ⟨b, 6, none⟩ = some (.bool Mk.R.keeps) ∧ w'.cell? ⟨b, 7, none⟩ = some Bk.ve ∧ w'.cell? ⟨b, 8, none⟩ = some (.int .i64 Mk.R.blocked) ∧ w'.cell? ⟨b, 9, none⟩ = some (.int .i64 Mk.R.quiet) ∧ w'.cell? ⟨b, 10, none⟩ = some (.int .i64 Mk.R.rept) ∧ w'.cell? ⟨b, 14, none⟩ = some (.pointer (some ⟨Bk.g, 0, none⟩)) ∧ w'.cell? ⟨b, 34, none⟩ = some Bk.vr ∧ w'.cell? ⟨w.heap.size, 3, none⟩ = some (.int .i64 ev.now))) (L := []) (by kernel_rfl) (by and_intros <;> first | exact Mz.box.cell _ rfl | exact Ez.cell _ rfl) (fun hHeld => ?_)
  refine tkW 0 ?_
  refine tkW 4 ?_
  refine tkW 9 ?_
  refine tkW 1 ?_
  refine tkW 5 ?_
  refine tkW 10 ?_
  refine tkW 2 ?_
  refine tkW 6 ?_
  refine tkW 11 ?_
  refine tkL 3 ?_
  refine tkL 7 ?_
  refine tkW 12 ?_
  refine tkL 13 ?_
  refine rdL (rs := [8, 20]) ?_
  refine (AllReadyL.cons (by first | (simp only [List.getElem?_toArray, List.getElem?_cons_zero, List.getElem?_cons_succ] <;> rfl) | rfl) (fun K hK => ?_) (AllReadyL.cons (by first | (simp only [List.getElem?_toArray, List.getElem?_cons_zero, List.getElem?_cons_succ] <;> rfl) | rfl) (fun K hK => ?_) AllReadyL.nil))
  ·skip
   go_simp
   obtain ⟨up', us', ue', vl', vm', rows', hgp⟩ := Mz.game
   refine (gamePos_any _ hgp.plain).mono ?_
   clear hgp
   rintro e w8 ⟨vc, v0, v1, rfl, ho8, hbb⟩
   have M8 := Mz.below hbb
   have E8 := Ez.stays hbb
   have L8 := below_trans Lz hbb Lz.size
   have P8 := ho8.rd
   clear ho8 hbb
   refine hK.out _ _ (by and_intros <;> first | exact M8.box.cell _ rfl | exact E8.cell _ rfl) (fun hHeld => ?_)
   clear hK K
   refine rdL (rs := [14, 20]) ?_
   refine (AllReadyL.cons (by first | (simp only [List.getElem?_toArray, List.getElem?_cons_zero, List.getElem?_cons_succ] <;> rfl) | rfl) (fun K hK => ?_) (AllReadyL.cons (by first | (simp only [List.getElem?_toArray, List.getElem?_cons_zero, List.getElem?_cons_succ] <;> rfl) | rfl) (fun K hK => ?_) AllReadyL.nil))
   ·skip
    go_simp
    refine (Next_any HSh.out Mk.R Bk.vp Bk.vs Bk.ve Mk.pos vc v0 v1 Bk.vr Mk.prem _ M8.fr.rd HMid.out.nm P8 M8.fr.pr (by have := HMid.out.pr.len; omega)).mono ?_
    rintro e w14 hp
    rcases hp with ⟨hn, -⟩ | ⟨-, vr, rfl, ho14, hbb⟩
    ·exact absurd HPc.out hn
    obtain ⟨ra, rc, rfl⟩ := own_form2 ho14
    have M14 := M8.below hbb
    have E14 := E8.stays hbb
    have L14 := below_trans L8 hbb L8.size
    have O14 := ho14
    have Z14 : wq.drew.heap.size ≤ w8.heap.size := L8.size
    clear ho14 hbb
    refine hK.out _ _ (by and_intros <;> first | exact M14.box.cell _ rfl | exact E14.cell _ rfl) (fun hHeld => ?_)
    clear hK K
    refine tkW 15 ?_
    refine tkW 16 ?_
    refine tkW 17 ?_
    refine tkW 18 ?_
    refine tkW 19 ?_
    refine cnL 20 fun K hK => ?_
    go_simp
    refine K_world ?_
    intro w20 e20
    have hbb : Below w14.heap.size w14 w20 := by rw [e20]; exact (Below.refl _ _).alloc (Nat.le_refl _) _
    have X20 : Box w20 (w14.heap.size) [.int .i64 0, .int .i64 0, .int .i64 0] 38 := by rw [e20]; exact Box.new' _ _ _ _ rfl
    have M20 := M14.below hbb
    have E20 := E14.stays hbb
    have L20 := below_trans L14 hbb L14.size
    have O20 := own_stays O14 hbb
    clear hbb e20
    refine hK.out _ _ (by and_intros <;> first | exact M20.box.cell _ rfl | exact E20.cell _ rfl) (fun hHeld => ?_)
    clear hK K
    refine cnL 21 fun K hK => ?_
    rw [if_pos (by rfl)]
    refine wp_store_mid 38 (.tmp 5) (.tmp 67) (by rfl) (w14.heap.size) 0 #[.int .i64 (nextMv Mk.R Mk.pos Mk.prem).src, .int .i64 (nextMv Mk.R Mk.pos Mk.prem).dst, .int .i64 (nextMv Mk.R Mk.pos Mk.prem).piece] (by rfl) (by rfl) (X20.has 0 3 (by simp)) (by kernel_rfl) (by simp [Value.oneCell']) ?_
    refine K_world ?_
    intro w21 e21
    have X21 : Box w21 (w14.heap.size) [.int .i64 (nextMv Mk.R Mk.pos Mk.prem).src, .int .i64 (nextMv Mk.R Mk.pos Mk.prem).dst, .int .i64 (nextMv Mk.R Mk.pos Mk.prem).piece] 38 := by rw [e21]; exact X20.store rfl
    have hbn : wq.heap.size ≤ w14.heap.size := by first | exact Nat.le_refl _ | exact L8.size | exact L14.size
    have L21 : Below wq.drew.heap.size wq.drew w21 := by rw [e21]; exact below_setCells L20 hbn 0 _
    have hF21 : Fr (fun k => k = w14.heap.size) w20 w21 := by rw [e21]; exact (Fr.refl (fun k => k = w14.heap.size) w20).setCells (b := w14.heap.size) rfl 0 _
    have O21 : w21.ownsRow wq.drew.heap.size 86 4 (.slice ra (nextRest Mk.R Mk.pos Mk.prem).length rc) (nextRest Mk.R Mk.pos Mk.prem).length (flatP (nextRest Mk.R Mk.pos Mk.prem)) := own_base (own_held O20 hF21 (fun q hq e => (by have h1 := (O14.lt q hq).2; omega))) Z14
    have M21 := Mz.below L21
    have E21 := Ez.stays L21
    clear e21 hF21
    refine hK.out _ _ (by and_intros <;> first | exact M21.box.cell _ rfl | exact E21.cell _ rfl) (fun hHeld => ?_)
    clear hK K
    refine tkW 22 ?_
    refine tkW 23 ?_
    refine tkW 24 ?_
    refine dnN ?_
    have HM9 := Lib.hid M21
    have HE9 := Lib.hid E21
    have HX9 := Lib.hid X21
    have HO9 : Hid (w21.ownsRow wq.drew.heap.size 86 4 (.slice ra (nextRest Mk.R Mk.pos Mk.prem).length rc) (nextRest Mk.R Mk.pos Mk.prem).length (flatP (nextRest Mk.R Mk.pos Mk.prem))) := Lib.hid O21
    have HF9 : Hid (MFr S b w w21) := Lib.hid (HF8.out.trans (MFr.new (S := Sk) L21) HSk.out)
    have HNX : Hid (¬ (Sk w14.heap.size ∨ one1 b w14.heap.size)) := Lib.hid (fun h => by have := HLo.out _ h; omega)
    have HNV : Hid (∀ k, Value.ownBlock (.slice ra (nextRest Mk.R Mk.pos Mk.prem).length rc) = some k → ¬ (Sk k ∨ one1 b k)) := Lib.hid (fun k hk h => by have h1 := (O21.lt k hk).1; have h2 := HLo.out k h; exact absurd h2 (Nat.not_lt.2 h1))
    clear M8 E8 L8 M14 E14 L14 M20 E20 L20 M21 E21 L21 O21 X21 hbn P8 O14 Z14 O20 X20 Mz Ez Lz hHeld HLo
    generalize w14.heap.size = bx at *
    have d34 := HM9.out.box.cell 34 rfl
    have f34 := HM9.out.box.frozen 34
    have HP := Lib.hid (HM9.out.put (M' := { Mk with prem := (nextRest Mk.R Mk.pos Mk.prem) }) (B' := { Bk with vr := .slice ra (nextRest Mk.R Mk.pos Mk.prem).length rc }) 34 [.slice ra (nextRest Mk.R Mk.pos Mk.prem).length rc] (by simp) rfl rfl rfl rfl (fun w' hw => ⟨(HM9.out.rd w' hw).rd, (HM9.out.rd w' hw).per, (HM9.out.rd w' hw).pc, rdP_of_own (own_held HO9.out hw HNV.out), (HM9.out.rd w' hw).jr⟩))
    have HMn : Hid (MatchAt Sk base (w21.setCell ⟨b, 34, none⟩ (.slice ra (nextRest Mk.R Mk.pos Mk.prem).length rc)) b { Mk with prem := (nextRest Mk.R Mk.pos Mk.prem) } { Bk with vr := .slice ra (nextRest Mk.R Mk.pos Mk.prem).length rc }) := Lib.hid HP.out.1
    have HFn : Hid (MFr S b w (w21.setCell ⟨b, 34, none⟩ (.slice ra (nextRest Mk.R Mk.pos Mk.prem).length rc))) := Lib.hid (HF9.out.trans HP.out.2 HSk.out)
    have HXn : Hid (Box (w21.setCell ⟨b, 34, none⟩ (.slice ra (nextRest Mk.R Mk.pos Mk.prem).length rc)) bx [.int .i64 (nextMv Mk.R Mk.pos Mk.prem).src, .int .i64 (nextMv Mk.R Mk.pos Mk.prem).dst, .int .i64 (nextMv Mk.R Mk.pos Mk.prem).piece] 38) := Lib.hid (HX9.out.far ⟨b, 34, none⟩ _ (fun e => HNX.out (.inr e)))
    have HEn : Hid (Box (w21.setCell ⟨b, 34, none⟩ (.slice ra (nextRest Mk.R Mk.pos Mk.prem).length rc)) w.heap.size [.int .i64 ev.kind, .int .i64 ev.player, .int .i64 ev.n, .int .i64 ev.now, .int .i64 ev.m.src, .int .i64 ev.m.dst, .int .i64 ev.m.piece] 40) := Lib.hid (HE9.out.far ⟨b, 34, none⟩ _ (fun e => by have := HEb.out; have h2 : w.heap.size = b := e; omega))
    clear HP HO9 HNV
    go_upto_region 11 with (fail)
    clear d34 f34
    generalize (w21.setCell ⟨b, 34, none⟩ (.slice ra (nextRest Mk.R Mk.pos Mk.prem).length rc)) = w22 at *
    clear HM9 HE9 HX9 HF9
    by_cases hok : nextOk Mk.R Mk.pos Mk.prem = true
    rotate_left
    ·have HEnd : Hid (MatZ.runs ev.now 400 M1 = ({ Mk with prem := nextRest Mk.R Mk.pos Mk.prem } : MatZ)) := Lib.hid (by rw [HRun.out, HStep.out, if_neg hok])
     have hob : nextOk Mk.R Mk.pos Mk.prem = false := by simpa using hok
     rw [hob]
     clear hok hob
     go_wp2_with fail
     go_ret
     exact ⟨by rw [HD2.out]; rfl, Sk, _, by rw [HD2.out, HEnd.out]; exact HMn.out, HSk.out, HFn.out⟩
    have HOk := Lib.hid hok
    have HPr2 : Hid (MovePre ({ Mk with prem := nextRest Mk.R Mk.pos Mk.prem } : MatZ) (nextMv Mk.R Mk.pos Mk.prem) ev.now) := Lib.hid (by
     have hm := HMid.out.rest
     exact ⟨play_zero HGm2.out (next_mem hok) (by have := HL8.out; show Mk.ms.length ≠ 400; omega), hm.cr, hm.ck, hm.sn, hm.nw, hm.st, hm.fl, hm.us, hm.og, HK9.out.tu⟩)
    have HMid2 := Lib.hid (HMid.out.rest.move (nextMv Mk.R Mk.pos Mk.prem))
    rw [hok]
    clear hok
    go_upto_region 12 with (fail)
    have x0 := HXn.out.cell 0 rfl
    have x1 := HXn.out.cell 1 rfl
    have x2 := HXn.out.cell 2 rfl
    have e3 := HEn.out.cell 3 rfl
    have HStep2 : Hid (MatZ.runs ev.now 400 M1 = MatZ.runs ev.now (f - 1) (MatZ.move ({ Mk with prem := nextRest Mk.R Mk.pos Mk.prem } : MatZ) (nextMv Mk.R Mk.pos Mk.prem) ev.now)) := Lib.hid (by rw [HRun.out, HStep.out, if_pos HOk.out])
    have HBn : Hid (base ≤ w22.heap.size) := Lib.hid (Nat.le_trans HBb.out HFn.out.size)
    go_wp2_with fail
    clear x0 x1 x2 e3
    refine (move_any HSh.out (nextMv Mk.R Mk.pos Mk.prem) ev.now w22 HMn.out HBn.out HPr2.out).mono ?_
    rintro e w12 ⟨rfl, S2, B2, hm2, hs2, hf2⟩
    have HM3' := Lib.hid hm2
    have HE3' : Hid (Box w12 w.heap.size [.int .i64 ev.kind, .int .i64 ev.player, .int .i64 ev.n, .int .i64 ev.now, .int .i64 ev.m.src, .int .i64 ev.m.dst, .int .i64 ev.m.piece] 40) := Lib.hid (HEn.out.held hf2 (fun h => by
     rcases h with h | h
     ·exact HNk.out h
     ·have h2 : w.heap.size = b := h
      have := HEb.out; omega))
    have HS3' : Hid (Shr w S S2) := Lib.hid (fun k hk h => HSk.out k hk (hs2 k (Nat.lt_of_lt_of_le hk HFn.out.size) h))
    have HF3' : Hid (MFr S b w w12) := Lib.hid (HFn.out.trans hf2 HSk.out)
    have HN3' : Hid (¬ S2 w.heap.size) := Lib.hid (fun h => HNk.out (hs2 _ HEn.out.lt h))
    have HLe : Hid (lenAt w12 b = Mk.ms.length + 1) := Lib.hid (by rw [lenAt_eq hm2]; show (Mk.ms ++ [_]).length = _; simp)
    have HLn : Hid (400 < f - 1 + (MatZ.move ({ Mk with prem := nextRest Mk.R Mk.pos Mk.prem } : MatZ) (nextMv Mk.R Mk.pos Mk.prem) ev.now).ms.length) := Lib.hid (by
     have h1 := HFu.out; have h2 := HL8.out
     show 400 < f - 1 + (Mk.ms ++ [_]).length
     simp; omega)
    clear hm2 hs2 hf2
    go_wp2_with fail
    go_roundw
    case rel => exact ⟨f - 1, _, S2, B2, _, _, _, _, rfl, rfl, rfl, rfl, HM3', HStep2, HLn, HMid2, HS3', HF3', HE3', HN3'⟩
    case measure => rw [HLe.out, HLa.out]; have := HL8.out; omega
   ·skip
    go_simp
    refine K_world ?_
    intro w20 e20
    have hbb : Below w8.heap.size w8 w20 := by rw [e20]; exact (Below.refl _ _).alloc (Nat.le_refl _) _
    have X20 : Box w20 (w8.heap.size) [.int .i64 0, .int .i64 0, .int .i64 0] 38 := by rw [e20]; exact Box.new' _ _ _ _ rfl
    have M20 := M8.below hbb
    have E20 := E8.stays hbb
    have L20 := below_trans L8 hbb L8.size
    have P20 := P8.below hbb (Nat.le_refl _)
    clear hbb e20
    refine hK.out _ _ (by and_intros <;> first | exact M20.box.cell _ rfl | exact E20.cell _ rfl) (fun hHeld => ?_)
    clear hK K
    refine cnL 14 fun K hK => ?_
    go_simp
    refine (Next_any HSh.out Mk.R Bk.vp Bk.vs Bk.ve Mk.pos vc v0 v1 Bk.vr Mk.prem _ M20.fr.rd HMid.out.nm P20 M20.fr.pr (by have := HMid.out.pr.len; omega)).mono ?_
    rintro e w14 hp
    rcases hp with ⟨hn, -⟩ | ⟨-, vr, rfl, ho14, hbb⟩
    ·exact absurd HPc.out hn
    obtain ⟨ra, rc, rfl⟩ := own_form2 ho14
    have M14 := M20.below hbb
    have E14 := E20.stays hbb
    have L14 := below_trans L20 hbb L20.size
    have X14 := X20.stays hbb
    have O14 := ho14
    have Z14 : wq.drew.heap.size ≤ w20.heap.size := L20.size
    clear ho14 hbb
    refine hK.out _ _ (by and_intros <;> first | exact M14.box.cell _ rfl | exact E14.cell _ rfl) (fun hHeld => ?_)
    clear hK K
    refine tkW 15 ?_
    refine tkW 16 ?_
    refine tkW 17 ?_
    refine tkW 18 ?_
    refine tkW 19 ?_
    refine cnL 21 fun K hK => ?_
    rw [if_pos (by rfl)]
    refine wp_store_mid 38 (.tmp 5) (.tmp 67) (by rfl) (w8.heap.size) 0 #[.int .i64 (nextMv Mk.R Mk.pos Mk.prem).src, .int .i64 (nextMv Mk.R Mk.pos Mk.prem).dst, .int .i64 (nextMv Mk.R Mk.pos Mk.prem).piece] (by rfl) (by rfl) (X14.has 0 3 (by simp)) (by kernel_rfl) (by simp [Value.oneCell']) ?_
    refine K_world ?_
    intro w21 e21
    have X21 : Box w21 (w8.heap.size) [.int .i64 (nextMv Mk.R Mk.pos Mk.prem).src, .int .i64 (nextMv Mk.R Mk.pos Mk.prem).dst, .int .i64 (nextMv Mk.R Mk.pos Mk.prem).piece] 38 := by rw [e21]; exact X14.store rfl
    have hbn : wq.heap.size ≤ w8.heap.size := by first | exact Nat.le_refl _ | exact L8.size | exact L14.size
    have L21 : Below wq.drew.heap.size wq.drew w21 := by rw [e21]; exact below_setCells L14 hbn 0 _
    have hF21 : Fr (fun k => k = w8.heap.size) w14 w21 := by rw [e21]; exact (Fr.refl (fun k => k = w8.heap.size) w14).setCells (b := w8.heap.size) rfl 0 _
    have O21 : w21.ownsRow wq.drew.heap.size 86 4 (.slice ra (nextRest Mk.R Mk.pos Mk.prem).length rc) (nextRest Mk.R Mk.pos Mk.prem).length (flatP (nextRest Mk.R Mk.pos Mk.prem)) := own_base (own_held O14 hF21 (fun q hq e => (by have h1 := (O14.lt q hq).1; have h2 := X20.lt; omega))) Z14
    have M21 := Mz.below L21
    have E21 := Ez.stays L21
    clear e21 hF21
    refine hK.out _ _ (by and_intros <;> first | exact M21.box.cell _ rfl | exact E21.cell _ rfl) (fun hHeld => ?_)
    clear hK K
    refine tkW 22 ?_
    refine tkW 23 ?_
    refine tkW 24 ?_
    refine dnN ?_
    have HM9 := Lib.hid M21
    have HE9 := Lib.hid E21
    have HX9 := Lib.hid X21
    have HO9 : Hid (w21.ownsRow wq.drew.heap.size 86 4 (.slice ra (nextRest Mk.R Mk.pos Mk.prem).length rc) (nextRest Mk.R Mk.pos Mk.prem).length (flatP (nextRest Mk.R Mk.pos Mk.prem))) := Lib.hid O21
    have HF9 : Hid (MFr S b w w21) := Lib.hid (HF8.out.trans (MFr.new (S := Sk) L21) HSk.out)
    have HNX : Hid (¬ (Sk w8.heap.size ∨ one1 b w8.heap.size)) := Lib.hid (fun h => by have := HLo.out _ h; omega)
    have HNV : Hid (∀ k, Value.ownBlock (.slice ra (nextRest Mk.R Mk.pos Mk.prem).length rc) = some k → ¬ (Sk k ∨ one1 b k)) := Lib.hid (fun k hk h => by have h1 := (O21.lt k hk).1; have h2 := HLo.out k h; exact absurd h2 (Nat.not_lt.2 h1))
    clear M8 E8 L8 M14 E14 L14 M20 E20 L20 M21 E21 L21 O21 X21 hbn P8 O14 Z14 P20 X20 X14 Mz Ez Lz hHeld HLo
    generalize w8.heap.size = bx at *
    have d34 := HM9.out.box.cell 34 rfl
    have f34 := HM9.out.box.frozen 34
    have HP := Lib.hid (HM9.out.put (M' := { Mk with prem := (nextRest Mk.R Mk.pos Mk.prem) }) (B' := { Bk with vr := .slice ra (nextRest Mk.R Mk.pos Mk.prem).length rc }) 34 [.slice ra (nextRest Mk.R Mk.pos Mk.prem).length rc] (by simp) rfl rfl rfl rfl (fun w' hw => ⟨(HM9.out.rd w' hw).rd, (HM9.out.rd w' hw).per, (HM9.out.rd w' hw).pc, rdP_of_own (own_held HO9.out hw HNV.out), (HM9.out.rd w' hw).jr⟩))
    have HMn : Hid (MatchAt Sk base (w21.setCell ⟨b, 34, none⟩ (.slice ra (nextRest Mk.R Mk.pos Mk.prem).length rc)) b { Mk with prem := (nextRest Mk.R Mk.pos Mk.prem) } { Bk with vr := .slice ra (nextRest Mk.R Mk.pos Mk.prem).length rc }) := Lib.hid HP.out.1
    have HFn : Hid (MFr S b w (w21.setCell ⟨b, 34, none⟩ (.slice ra (nextRest Mk.R Mk.pos Mk.prem).length rc))) := Lib.hid (HF9.out.trans HP.out.2 HSk.out)
    have HXn : Hid (Box (w21.setCell ⟨b, 34, none⟩ (.slice ra (nextRest Mk.R Mk.pos Mk.prem).length rc)) bx [.int .i64 (nextMv Mk.R Mk.pos Mk.prem).src, .int .i64 (nextMv Mk.R Mk.pos Mk.prem).dst, .int .i64 (nextMv Mk.R Mk.pos Mk.prem).piece] 38) := Lib.hid (HX9.out.far ⟨b, 34, none⟩ _ (fun e => HNX.out (.inr e)))
    have HEn : Hid (Box (w21.setCell ⟨b, 34, none⟩ (.slice ra (nextRest Mk.R Mk.pos Mk.prem).length rc)) w.heap.size [.int .i64 ev.kind, .int .i64 ev.player, .int .i64 ev.n, .int .i64 ev.now, .int .i64 ev.m.src, .int .i64 ev.m.dst, .int .i64 ev.m.piece] 40) := Lib.hid (HE9.out.far ⟨b, 34, none⟩ _ (fun e => by have := HEb.out; have h2 : w.heap.size = b := e; omega))
    clear HP HO9 HNV
    go_upto_region 11 with (fail)
    clear d34 f34
    generalize (w21.setCell ⟨b, 34, none⟩ (.slice ra (nextRest Mk.R Mk.pos Mk.prem).length rc)) = w22 at *
    clear HM9 HE9 HX9 HF9
    by_cases hok : nextOk Mk.R Mk.pos Mk.prem = true
    rotate_left
    ·have HEnd : Hid (MatZ.runs ev.now 400 M1 = ({ Mk with prem := nextRest Mk.R Mk.pos Mk.prem } : MatZ)) := Lib.hid (by rw [HRun.out, HStep.out, if_neg hok])
     have hob : nextOk Mk.R Mk.pos Mk.prem = false := by simpa using hok
     rw [hob]
     clear hok hob
     go_wp2_with fail
     go_ret
     exact ⟨by rw [HD2.out]; rfl, Sk, _, by rw [HD2.out, HEnd.out]; exact HMn.out, HSk.out, HFn.out⟩
    have HOk := Lib.hid hok
    have HPr2 : Hid (MovePre ({ Mk with prem := nextRest Mk.R Mk.pos Mk.prem } : MatZ) (nextMv Mk.R Mk.pos Mk.prem) ev.now) := Lib.hid (by
     have hm := HMid.out.rest
     exact ⟨play_zero HGm2.out (next_mem hok) (by have := HL8.out; show Mk.ms.length ≠ 400; omega), hm.cr, hm.ck, hm.sn, hm.nw, hm.st, hm.fl, hm.us, hm.og, HK9.out.tu⟩)
    have HMid2 := Lib.hid (HMid.out.rest.move (nextMv Mk.R Mk.pos Mk.prem))
    rw [hok]
    clear hok
    go_upto_region 12 with (fail)
    have x0 := HXn.out.cell 0 rfl
    have x1 := HXn.out.cell 1 rfl
    have x2 := HXn.out.cell 2 rfl
    have e3 := HEn.out.cell 3 rfl
    have HStep2 : Hid (MatZ.runs ev.now 400 M1 = MatZ.runs ev.now (f - 1) (MatZ.move ({ Mk with prem := nextRest Mk.R Mk.pos Mk.prem } : MatZ) (nextMv Mk.R Mk.pos Mk.prem) ev.now)) := Lib.hid (by rw [HRun.out, HStep.out, if_pos HOk.out])
    have HBn : Hid (base ≤ w22.heap.size) := Lib.hid (Nat.le_trans HBb.out HFn.out.size)
    go_wp2_with fail
    clear x0 x1 x2 e3
    refine (move_any HSh.out (nextMv Mk.R Mk.pos Mk.prem) ev.now w22 HMn.out HBn.out HPr2.out).mono ?_
    rintro e w12 ⟨rfl, S2, B2, hm2, hs2, hf2⟩
    have HM3' := Lib.hid hm2
    have HE3' : Hid (Box w12 w.heap.size [.int .i64 ev.kind, .int .i64 ev.player, .int .i64 ev.n, .int .i64 ev.now, .int .i64 ev.m.src, .int .i64 ev.m.dst, .int .i64 ev.m.piece] 40) := Lib.hid (HEn.out.held hf2 (fun h => by
     rcases h with h | h
     ·exact HNk.out h
     ·have h2 : w.heap.size = b := h
      have := HEb.out; omega))
    have HS3' : Hid (Shr w S S2) := Lib.hid (fun k hk h => HSk.out k hk (hs2 k (Nat.lt_of_lt_of_le hk HFn.out.size) h))
    have HF3' : Hid (MFr S b w w12) := Lib.hid (HFn.out.trans hf2 HSk.out)
    have HN3' : Hid (¬ S2 w.heap.size) := Lib.hid (fun h => HNk.out (hs2 _ HEn.out.lt h))
    have HLe : Hid (lenAt w12 b = Mk.ms.length + 1) := Lib.hid (by rw [lenAt_eq hm2]; show (Mk.ms ++ [_]).length = _; simp)
    have HLn : Hid (400 < f - 1 + (MatZ.move ({ Mk with prem := nextRest Mk.R Mk.pos Mk.prem } : MatZ) (nextMv Mk.R Mk.pos Mk.prem) ev.now).ms.length) := Lib.hid (by
     have h1 := HFu.out; have h2 := HL8.out
     show 400 < f - 1 + (Mk.ms ++ [_]).length
     simp; omega)
    clear hm2 hs2 hf2
    go_wp2_with fail
    go_roundw
    case rel => exact ⟨f - 1, _, S2, B2, _, _, _, _, rfl, rfl, rfl, rfl, HM3', HStep2, HLn, HMid2, HS3', HF3', HE3', HN3'⟩
    case measure => rw [HLe.out, HLa.out]; have := HL8.out; omega
  ·skip
   go_simp
   refine K_world ?_
   intro w20 e20
   have hbb : Below wq.drew.heap.size wq.drew w20 := by rw [e20]; exact (Below.refl _ _).alloc (Nat.le_refl _) _
   have X20 : Box w20 (wq.heap.size) [.int .i64 0, .int .i64 0, .int .i64 0] 38 := by rw [e20]; exact Box.new' _ _ _ _ rfl
   have M20 := Mz.below hbb
   have E20 := Ez.stays hbb
   have L20 := below_trans Lz hbb Lz.size
   clear hbb e20
   refine hK.out _ _ (by and_intros <;> first | exact M20.box.cell _ rfl | exact E20.cell _ rfl) (fun hHeld => ?_)
   clear hK K
   refine cnL 8 fun K hK => ?_
   go_simp
   obtain ⟨up', us', ue', vl', vm', rows', hgp⟩ := M20.game
   refine (gamePos_any _ hgp.plain).mono ?_
   clear hgp
   rintro e w8 ⟨vc, v0, v1, rfl, ho8, hbb⟩
   have M8 := M20.below hbb
   have E8 := E20.stays hbb
   have L8 := below_trans L20 hbb L20.size
   have X8 := X20.stays hbb
   have P8 := ho8.rd
   clear ho8 hbb
   refine hK.out _ _ (by and_intros <;> first | exact M8.box.cell _ rfl | exact E8.cell _ rfl) (fun hHeld => ?_)
   clear hK K
   refine cnL 14 fun K hK => ?_
   go_simp
   refine (Next_any HSh.out Mk.R Bk.vp Bk.vs Bk.ve Mk.pos vc v0 v1 Bk.vr Mk.prem _ M8.fr.rd HMid.out.nm P8 M8.fr.pr (by have := HMid.out.pr.len; omega)).mono ?_
   rintro e w14 hp
   rcases hp with ⟨hn, -⟩ | ⟨-, vr, rfl, ho14, hbb⟩
   ·exact absurd HPc.out hn
   obtain ⟨ra, rc, rfl⟩ := own_form2 ho14
   have M14 := M8.below hbb
   have E14 := E8.stays hbb
   have L14 := below_trans L8 hbb L8.size
   have X14 := X8.stays hbb
   have O14 := ho14
   have Z14 : wq.drew.heap.size ≤ w8.heap.size := L8.size
   clear ho14 hbb
   refine hK.out _ _ (by and_intros <;> first | exact M14.box.cell _ rfl | exact E14.cell _ rfl) (fun hHeld => ?_)
   clear hK K
   refine tkW 15 ?_
   refine tkW 16 ?_
   refine tkW 17 ?_
   refine tkW 18 ?_
   refine tkW 19 ?_
   refine cnL 21 fun K hK => ?_
   rw [if_pos (by rfl)]
   refine wp_store_mid 38 (.tmp 5) (.tmp 67) (by rfl) (wq.heap.size) 0 #[.int .i64 (nextMv Mk.R Mk.pos Mk.prem).src, .int .i64 (nextMv Mk.R Mk.pos Mk.prem).dst, .int .i64 (nextMv Mk.R Mk.pos Mk.prem).piece] (by rfl) (by rfl) (X14.has 0 3 (by simp)) (by kernel_rfl) (by simp [Value.oneCell']) ?_
   refine K_world ?_
   intro w21 e21
   have X21 : Box w21 (wq.heap.size) [.int .i64 (nextMv Mk.R Mk.pos Mk.prem).src, .int .i64 (nextMv Mk.R Mk.pos Mk.prem).dst, .int .i64 (nextMv Mk.R Mk.pos Mk.prem).piece] 38 := by rw [e21]; exact X14.store rfl
   have hbn : wq.heap.size ≤ wq.heap.size := by first | exact Nat.le_refl _ | exact L8.size | exact L14.size
   have L21 : Below wq.drew.heap.size wq.drew w21 := by rw [e21]; exact below_setCells L14 hbn 0 _
   have hF21 : Fr (fun k => k = wq.heap.size) w14 w21 := by rw [e21]; exact (Fr.refl (fun k => k = wq.heap.size) w14).setCells (b := wq.heap.size) rfl 0 _
   have O21 : w21.ownsRow wq.drew.heap.size 86 4 (.slice ra (nextRest Mk.R Mk.pos Mk.prem).length rc) (nextRest Mk.R Mk.pos Mk.prem).length (flatP (nextRest Mk.R Mk.pos Mk.prem)) := own_base (own_held O14 hF21 (fun q hq e => (by have h1 := (O14.lt q hq).1; have h2 := X8.lt; omega))) Z14
   have M21 := Mz.below L21
   have E21 := Ez.stays L21
   clear e21 hF21
   refine hK.out _ _ (by and_intros <;> first | exact M21.box.cell _ rfl | exact E21.cell _ rfl) (fun hHeld => ?_)
   clear hK K
   refine tkW 22 ?_
   refine tkW 23 ?_
   refine tkW 24 ?_
   refine dnN ?_
   have HM9 := Lib.hid M21
   have HE9 := Lib.hid E21
   have HX9 := Lib.hid X21
   have HO9 : Hid (w21.ownsRow wq.drew.heap.size 86 4 (.slice ra (nextRest Mk.R Mk.pos Mk.prem).length rc) (nextRest Mk.R Mk.pos Mk.prem).length (flatP (nextRest Mk.R Mk.pos Mk.prem))) := Lib.hid O21
   have HF9 : Hid (MFr S b w w21) := Lib.hid (HF8.out.trans (MFr.new (S := Sk) L21) HSk.out)
   have HNX : Hid (¬ (Sk wq.heap.size ∨ one1 b wq.heap.size)) := Lib.hid (fun h => by have := HLo.out _ h; omega)
   have HNV : Hid (∀ k, Value.ownBlock (.slice ra (nextRest Mk.R Mk.pos Mk.prem).length rc) = some k → ¬ (Sk k ∨ one1 b k)) := Lib.hid (fun k hk h => by have h1 := (O21.lt k hk).1; have h2 := HLo.out k h; exact absurd h2 (Nat.not_lt.2 h1))
   clear M8 E8 L8 M14 E14 L14 M20 E20 L20 M21 E21 L21 O21 X21 hbn P8 O14 Z14 X20 X8 X14 Mz Ez Lz hHeld HLo
   obtain ⟨bx, hbx⟩ : ∃ bx, bx = wq.heap.size := ⟨_, rfl⟩
   rw [← hbx] at HX9 HNX ⊢
   clear hbx
   have d34 := HM9.out.box.cell 34 rfl
   have f34 := HM9.out.box.frozen 34
   have HP := Lib.hid (HM9.out.put (M' := { Mk with prem := (nextRest Mk.R Mk.pos Mk.prem) }) (B' := { Bk with vr := .slice ra (nextRest Mk.R Mk.pos Mk.prem).length rc }) 34 [.slice ra (nextRest Mk.R Mk.pos Mk.prem).length rc] (by simp) rfl rfl rfl rfl (fun w' hw => ⟨(HM9.out.rd w' hw).rd, (HM9.out.rd w' hw).per, (HM9.out.rd w' hw).pc, rdP_of_own (own_held HO9.out hw HNV.out), (HM9.out.rd w' hw).jr⟩))
   have HMn : Hid (MatchAt Sk base (w21.setCell ⟨b, 34, none⟩ (.slice ra (nextRest Mk.R Mk.pos Mk.prem).length rc)) b { Mk with prem := (nextRest Mk.R Mk.pos Mk.prem) } { Bk with vr := .slice ra (nextRest Mk.R Mk.pos Mk.prem).length rc }) := Lib.hid HP.out.1
   have HFn : Hid (MFr S b w (w21.setCell ⟨b, 34, none⟩ (.slice ra (nextRest Mk.R Mk.pos Mk.prem).length rc))) := Lib.hid (HF9.out.trans HP.out.2 HSk.out)
   have HXn : Hid (Box (w21.setCell ⟨b, 34, none⟩ (.slice ra (nextRest Mk.R Mk.pos Mk.prem).length rc)) bx [.int .i64 (nextMv Mk.R Mk.pos Mk.prem).src, .int .i64 (nextMv Mk.R Mk.pos Mk.prem).dst, .int .i64 (nextMv Mk.R Mk.pos Mk.prem).piece] 38) := Lib.hid (HX9.out.far ⟨b, 34, none⟩ _ (fun e => HNX.out (.inr e)))
   have HEn : Hid (Box (w21.setCell ⟨b, 34, none⟩ (.slice ra (nextRest Mk.R Mk.pos Mk.prem).length rc)) w.heap.size [.int .i64 ev.kind, .int .i64 ev.player, .int .i64 ev.n, .int .i64 ev.now, .int .i64 ev.m.src, .int .i64 ev.m.dst, .int .i64 ev.m.piece] 40) := Lib.hid (HE9.out.far ⟨b, 34, none⟩ _ (fun e => by have := HEb.out; have h2 : w.heap.size = b := e; omega))
   clear HP HO9 HNV
   go_upto_region 11 with (fail)
   clear d34 f34
   generalize (w21.setCell ⟨b, 34, none⟩ (.slice ra (nextRest Mk.R Mk.pos Mk.prem).length rc)) = w22 at *
   clear HM9 HE9 HX9 HF9
   by_cases hok : nextOk Mk.R Mk.pos Mk.prem = true
   rotate_left
   ·have HEnd : Hid (MatZ.runs ev.now 400 M1 = ({ Mk with prem := nextRest Mk.R Mk.pos Mk.prem } : MatZ)) := Lib.hid (by rw [HRun.out, HStep.out, if_neg hok])
    have hob : nextOk Mk.R Mk.pos Mk.prem = false := by simpa using hok
    rw [hob]
    clear hok hob
    go_wp2_with fail
    go_ret
    exact ⟨by rw [HD2.out]; rfl, Sk, _, by rw [HD2.out, HEnd.out]; exact HMn.out, HSk.out, HFn.out⟩
   have HOk := Lib.hid hok
   have HPr2 : Hid (MovePre ({ Mk with prem := nextRest Mk.R Mk.pos Mk.prem } : MatZ) (nextMv Mk.R Mk.pos Mk.prem) ev.now) := Lib.hid (by
    have hm := HMid.out.rest
    exact ⟨play_zero HGm2.out (next_mem hok) (by have := HL8.out; show Mk.ms.length ≠ 400; omega), hm.cr, hm.ck, hm.sn, hm.nw, hm.st, hm.fl, hm.us, hm.og, HK9.out.tu⟩)
   have HMid2 := Lib.hid (HMid.out.rest.move (nextMv Mk.R Mk.pos Mk.prem))
   rw [hok]
   clear hok
   go_upto_region 12 with (fail)
   have x0 := HXn.out.cell 0 rfl
   have x1 := HXn.out.cell 1 rfl
   have x2 := HXn.out.cell 2 rfl
   have e3 := HEn.out.cell 3 rfl
   have HStep2 : Hid (MatZ.runs ev.now 400 M1 = MatZ.runs ev.now (f - 1) (MatZ.move ({ Mk with prem := nextRest Mk.R Mk.pos Mk.prem } : MatZ) (nextMv Mk.R Mk.pos Mk.prem) ev.now)) := Lib.hid (by rw [HRun.out, HStep.out, if_pos HOk.out])
   have HBn : Hid (base ≤ w22.heap.size) := Lib.hid (Nat.le_trans HBb.out HFn.out.size)
   go_wp2_with fail
   clear x0 x1 x2 e3
   refine (move_any HSh.out (nextMv Mk.R Mk.pos Mk.prem) ev.now w22 HMn.out HBn.out HPr2.out).mono ?_
   rintro e w12 ⟨rfl, S2, B2, hm2, hs2, hf2⟩
   have HM3' := Lib.hid hm2
   have HE3' : Hid (Box w12 w.heap.size [.int .i64 ev.kind, .int .i64 ev.player, .int .i64 ev.n, .int .i64 ev.now, .int .i64 ev.m.src, .int .i64 ev.m.dst, .int .i64 ev.m.piece] 40) := Lib.hid (HEn.out.held hf2 (fun h => by
    rcases h with h | h
    ·exact HNk.out h
    ·have h2 : w.heap.size = b := h
     have := HEb.out; omega))
   have HS3' : Hid (Shr w S S2) := Lib.hid (fun k hk h => HSk.out k hk (hs2 k (Nat.lt_of_lt_of_le hk HFn.out.size) h))
   have HF3' : Hid (MFr S b w w12) := Lib.hid (HFn.out.trans hf2 HSk.out)
   have HN3' : Hid (¬ S2 w.heap.size) := Lib.hid (fun h => HNk.out (hs2 _ HEn.out.lt h))
   have HLe : Hid (lenAt w12 b = Mk.ms.length + 1) := Lib.hid (by rw [lenAt_eq hm2]; show (Mk.ms ++ [_]).length = _; simp)
   have HLn : Hid (400 < f - 1 + (MatZ.move ({ Mk with prem := nextRest Mk.R Mk.pos Mk.prem } : MatZ) (nextMv Mk.R Mk.pos Mk.prem) ev.now).ms.length) := Lib.hid (by
    have h1 := HFu.out; have h2 := HL8.out
    show 400 < f - 1 + (Mk.ms ++ [_]).length
    simp; omega)
   clear hm2 hs2 hf2
   go_wp2_with fail
   go_roundw
   case rel => exact ⟨f - 1, _, S2, B2, _, _, _, _, rfl, rfl, rfl, rfl, HM3', HStep2, HLn, HMid2, HS3', HF3', HE3', HN3'⟩
   case measure => rw [HLe.out, HLa.out]; have := HL8.out; omega
end Go.Proofs.YtnodagljaoonjaaGreatDoor

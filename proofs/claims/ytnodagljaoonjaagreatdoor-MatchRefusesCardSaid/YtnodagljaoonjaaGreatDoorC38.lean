/- MaY, OpenR, OpenM, OpenP, OpenV, MaOp. -/
import Derived.Test.YtnodagljaoonjaaGreatDoorC37
import Derived.Test.YtnodagljaoonjaaGreatDoorC09
import Derived.Test.YtnodagljaoonjaaGreatDoorC05
import Derived.Test.YtnodagljaoonjaaGreatDoorC01
import Derived.Test.YtnodagljaoonjaaGreatDoorC34
import Derived.Deep.Slices
import Derived.Deep.Fields
import Derived.Stop.LaidErr
import Derived.LaidMore
import Derived.ChangeSame
import Derived.ChangeVars
import Derived.ProofKit
namespace Go.Proofs.YtnodagljaoonjaaGreatDoor
open Go.ChangeShapes Go.WideShapes Go.ChangeAt Go.RowKit
set_option linter.unusedVariables false
variable {S : Nat → Prop} {base b : Nat} {M : MatZ} {B : MatB}
def evEl : El EvZ where
 k := 7
 E := fun _ x cs => cs = [.int .i64 x.kind, .int .i64 x.player, .int .i64 x.n, .int .i64 x.now, .int .i64 x.m.src, .int .i64 x.m.dst, .int .i64 x.m.piece] ∧ evOk x
 mono := fun h _ _ => h
 len := fun h => by rw [h.1]; rfl
theorem evs_at {w : World} {a : Option Addr} {n c : Nat} {xs : List EvZ} (h : RdL evEl w (.slice a n c) xs) (i : Nat) (hi : i < xs.length) : ∃ g o, a = some ⟨g, o, none⟩ ∧ g < w.heap.size ∧ evOk xs[i] ∧ w.cell? ⟨g, o + i * 7, none⟩ = some (.int .i64 xs[i].kind) ∧ w.cell? ⟨g, o + i * 7 + 1, none⟩ = some (.int .i64 xs[i].player) ∧
  w.cell? ⟨g, o + i * 7 + 2, none⟩ = some (.int .i64 xs[i].n) ∧ w.cell? ⟨g, o + i * 7 + 3, none⟩ = some (.int .i64 xs[i].now) ∧ w.cell? ⟨g, o + i * 7 + 4, none⟩ = some (.int .i64 xs[i].m.src) ∧ w.cell? ⟨g, o + i * 7 + 5, none⟩ = some (.int .i64 xs[i].m.dst) ∧ w.cell? ⟨g, o + i * 7 + 6, none⟩ = some (.int .i64 xs[i].m.piece) := by
 obtain ⟨g, o, ha, hg, hc⟩ := h.some (by omega)
 obtain ⟨cs, ⟨rfl, hok⟩, hx⟩ := hc i hi
 exact ⟨g, o, ha, hg, hok, hx 0 (by show 0 < 7; omega), hx 1 (by show 1 < 7; omega), hx 2 (by show 2 < 7; omega), hx 3 (by show 3 < 7; omega), hx 4 (by show 4 < 7; omega), hx 5 (by show 5 < 7; omega), hx 6 (by show 6 < 7; omega)⟩
theorem great_anyG (R : RulesZ) (vp vs ve : Value) (w : World) (h : RdI w vs R.start) : Calls Tryz.prog 7 #[(.agg #[.string R.name, .int .i64 R.width, .int .i64 R.height, vp, vs, .bool R.falls, .bool R.keeps, ve, .int .i64 R.blocked, .int .i64 R.quiet, .int .i64 R.rept])] w fun e w' => e = .returned (.bool (decide (20 < (R.start.length : Int)))) ∧ Below w.heap.size w w' := by
 obtain ⟨a, c, rfl, h1, h2⟩ := h.form
 unfold maxLen at h2
 clear h
 go_enter Tryz.func7, Tryz.ntmps7
 go_wp2
 go_ret
 exact ⟨rfl, (Below.refl _ _).alloc (Nat.le_refl _) _⟩
theorem MatchAt.lows {w : World} (h : MatchAt S base w b M B) (k : Nat) (hk : S k ∨ one1 b k) : k < w.heap.size := by
 obtain ⟨up, us, ue, vl, vm, rows, hg⟩ := h.game
 rcases hk with hk | hk
 ·exact (hg.lo k hk).2
 ·rw [show k = b from hk]; exact h.box.lt
/-- what a call has made before the match changes stays. -/
theorem own_match {wA w w' : World} {e : TypeId} {sz n : Nat} {v : Value} {xs : List Value} (hA : ∀ k, S k ∨ one1 b k → k < wA.heap.size) (ho : w.ownsRow wA.heap.size e sz v n xs) (hf : MFr S b w w') : w'.ownsRow wA.heap.size e sz v n xs :=
 own_block ho (fun k hk => by
  obtain ⟨h1, h2⟩ := ho.lt k hk
  exact hf.block k h2 (fun hc => by have := hA k hc; omega))
theorem box_match {wA w w' : World} {bx : Nat} {cs : List Value} {t : TypeId} (hA : ∀ k, S k ∨ one1 b k → k < wA.heap.size) (ho : Box w bx cs t) (hb : wA.heap.size ≤ bx) (hf : MFr S b w w') : Box w' bx cs t :=
 (hf.block bx ho.lt (fun hc => by have := hA bx hc; omega)).trans ho
/-- between two events. -/
def Midst (base b : Nat) (w : World) (k : Nat) (wr : World) : Prop := ∃ M S B, MatchAt S base wr b M B ∧ MInv M ∧ M.ms.length ≤ 400 ∧ M.jr.length ≤ k + 1 ∧ Tab base wr ∧ base ≤ wr.heap.size ∧ Below w.heap.size w wr
set_option maxRecDepth 100000 in
set_option maxHeartbeats 16000000 in
theorem refuses_walk (HSo : SortMvSaid) (HI : ItoaSaid) (HJ : JoinSaidM) (R : RulesZ) (vp vs ve : Value) (CR : CrZ) (pa : Option Addr) (pc : Nat) (vl : Value) (evs0 : List EvZ) (w : World) (hr : RdR w R vp vs ve) (hnm : R.name.size ≤ maxLen) (hp : clk.PerAt w w.heap.size pa CR.ps.length CR.ps) (h1 : CR.ps.length ≤ pc) (h2 : pc ≤ maxLen) (hl : RdL evEl w vl evs0) (ht : Tab w.heap.size w) :
  Calls Tryz.prog 3 #[(.agg #[.string R.name, .int .i64 R.width, .int .i64 R.height, vp, vs, .bool R.falls, .bool R.keeps, ve, .int .i64 R.blocked, .int .i64 R.quiet, .int .i64 R.rept]), (.agg #[.slice pa CR.ps.length pc, .int .i64 CR.inc, .int .i64 CR.delay]), vl] w fun e w' => e = .returned (.bool true) ∧ Below w.heap.size w w' := by
 have HS := Lib.hid HSo
 have HIt := Lib.hid HI
 have HJo := Lib.hid HJ
 have HR := Lib.hid hr
 have HNm := Lib.hid hnm
 have HP := Lib.hid hp
 have HPc := Lib.hid (And.intro h1 h2)
 have HTab := Lib.hid ht
 obtain ⟨ea, ec, rfl, he1, he2⟩ := hl.form
 unfold maxLen at he2
 obtain ⟨L, hL⟩ : ∃ L, L = min evs0.length 25 := ⟨_, rfl⟩
 have m1 : L ≤ evs0.length := by omega
 have m2 : L ≤ 25 := by omega
 have hmin : (if (25 : Int) < (evs0.length : Int) then (25 : Int) else (evs0.length : Int)) = (L : Int) := by split <;> omega
 have m3 : L ≤ ec := by omega
 have HE0 := Lib.hid (hl.take L m1)
 have hgl : (evs0.take L).length = L := by rw [List.length_take]; omega
 clear HSo HI HJ hr hnm hp h1 h2 hl ht hL
 generalize evs0.take L = evs at HE0 hgl
 go_enter Tryz.func3, Tryz.ntmps3
 go_upto_region 1 with (fail)
 refine opn2 fun w0 y0_ y1_ yb_ hs_ => ?_
 have HX0 := Lib.hid y0_
 have HX1 := Lib.hid y1_
 have HB := Lib.hid yb_
 clear hs_ y0_ y1_ yb_
 go_wp2_with fail
 refine (plays_any HS.out HIt.out HJo.out w0 (HTab.out.mono HB.out.size HB.out)).mono ?_
 rintro e w1 ⟨rfl, hb1⟩
 have HB1 := Lib.hid (HB.out.trans (hb1.mono HB.out.size))
 have HY0 := Lib.hid (HX0.out.stays hb1)
 have HY1 := Lib.hid (HX1.out.stays hb1)
 clear hb1 HX0 HX1 HB
 go_upto_region 4 with (fail)
 clear hmin
 refine wp_region_lit ?_
 refine wpList_load_box (by rfl) 26 (.tmp 3) (by rfl) (w.heap.size) (by rfl) HY0.out Tryz.underlying26 (by rfl) (by kernel_rfl) ?_
 go_wp2_with fail
 refine (great_anyG R vp vs ve w1 (HR.out.2.1.below HB1.out (Nat.le_refl _))).mono ?_
 rintro e w2 ⟨rfl, hb2⟩
 have HB2 := Lib.hid (HB1.out.trans (hb2.mono HB1.out.size))
 have HZ0 := Lib.hid (HY0.out.stays hb2)
 have HZ1 := Lib.hid (HY1.out.stays hb2)
 clear hb2 HB1 HY0 HY1
 by_cases hgr : 20 < (R.start.length : Int)
 ·have hd : decide (20 < (R.start.length : Int)) = true := by simpa using hgr
  rw [hd]
  clear hgr hd
  go_wp2_with fail
  go_ret
  exact ⟨rfl, HB2.out⟩
 have hd : decide (20 < (R.start.length : Int)) = false := by simpa using hgr
 rw [hd]
 clear hgr hd
 go_upto_region 6 with (fail)
 refine wp_region_lit ?_
 refine wpList_load_box (by rfl) 26 (.tmp 3) (by rfl) (w.heap.size) (by rfl) HZ0.out Tryz.underlying26 (by rfl) (by kernel_rfl) ?_
 refine wpList_load_box (by rfl) 29 (.tmp 4) (by rfl) (w.heap.size + 1) (by rfl) HZ1.out Tryz.underlying29 (by rfl) (by kernel_rfl) ?_
 go_wp2_with fail
 refine (NewM_any HS.out HIt.out R CR vp vs ve pa pc 0 w2 (HR.out.below HB2.out (Nat.le_refl _)) HNm.out (HP.out.below HB2.out) HPc.out.1 HPc.out.2 (by decide) (by decide) (HTab.out.mono HB2.out.size HB2.out)).mono ?_
 rintro e w3 (⟨c, ⟨hc0, hbad⟩, rfl, hb3⟩ | ⟨_, hcg, base, S0, b, B0, rfl, hm, hb0, hb1, hb3⟩)
 ·have HB3 := Lib.hid (HB2.out.trans (hb3.mono HB2.out.size))
  have hcb : (c != 0) = true := by simpa using hc0
  clear hb3 hbad hc0
  go_wp2_with fail
  go_ret
  exact ⟨rfl, HB3.out⟩
 have hbw : w.heap.size ≤ base := Nat.le_trans HB2.out.size hb0
 have HM0 : Hid (Midst base b w 0 w3) := Lib.hid ⟨_, S0, B0, hm, MInv_new R CR 0 HNm.out hcg (by decide) (by decide), by rw [new_ms]; decide, by rw [new_jr]; decide, (HTab.out.mono HB2.out.size HB2.out).mono hb0 hb3, hb1, HB2.out.trans (hb3.mono HB2.out.size)⟩
 clear hm hb0 hb1 hb3 hcg
 clear HZ0 HZ1 HB2
 subst hgl
 have HEv := Lib.hid (fun (W : World) (hb : Below w.heap.size w W) => HE0.out.below hb (Nat.le_refl _))
 have HLe : Hid (evs.length ≤ 25) := Lib.hid m2
 clear HE0 HR HP HTab HPc HNm m1 m3 he1
 go_wp2_with fail
 go_loopw [33] (fun i wr => ∃ k : Nat, k ≤ evs.length ∧ i = .int .i64 k ∧ Midst base b w k wr) (fun i _ => evs.length - (intOf i).toNat)
 case atStart => exact ⟨0, Nat.zero_le _, rfl, HM0.out⟩
 case round =>
  obtain ⟨k, hk, rfl, M, S, B, hm, hi, hml, hjl, ht, hbr, hbl⟩ := hrel
  have HBl := Lib.hid hbl
  by_cases hlt : k < evs.length
  ·have hlz : (k : Int) < (evs.length : Int) := by omega
   obtain ⟨g, o, rfl, hg, hok, a0, a1, a2, a3, a4, a5, a6⟩ := evs_at (HEv.out wr hbl) k hlt
   have HM := Lib.hid hm
   have HI0 := Lib.hid hi
   have HMl := Lib.hid hml
   have HJl := Lib.hid hjl
   have HT := Lib.hid ht
   have HBr := Lib.hid hbr
   have HOk := Lib.hid hok
   clear hm hi hml hjl ht hbr hbl hok
   generalize evs[k] = x at *
   go_upto_region 12 with (fail)
   have HE1 := Lib.hid (Box.new wr [.int .i64 x.kind, .int .i64 x.player, .int .i64 x.n, .int .i64 x.now, .int .i64 x.m.src, .int .i64 x.m.dst, .int .i64 x.m.piece] 40)
   have HB1 : Hid (Below wr.heap.size wr (wr.alloc (.cells #[.int .i64 x.kind, .int .i64 x.player, .int .i64 x.n, .int .i64 x.now, .int .i64 x.m.src, .int .i64 x.m.dst, .int .i64 x.m.piece] 40))) := Lib.hid ((Below.refl wr.heap.size wr).alloc (Nat.le_refl _) _)
   generalize (wr.alloc (.cells #[.int .i64 x.kind, .int .i64 x.player, .int .i64 x.n, .int .i64 x.now, .int .i64 x.m.src, .int .i64 x.m.dst, .int .i64 x.m.piece] 40)) = wA at *
   have HMA := Lib.hid (HM.out.below HB1.out)
   have HLo := Lib.hid (HMA.out.lows)
   have HX1 : Hid (wr.heap.size < wA.heap.size) := Lib.hid HE1.out.lt
   clear hg a0 a1 a2 a3 a4 a5 a6
   go_wp2_with fail
   refine (State_any wA HMA.out (by have := HI0.out.pr.len; omega)).mono ?_
   rintro e w2 ⟨ma, mc, qa, qc, rfl, ho1, ho2, hb2⟩
   have HM2 := Lib.hid (HMA.out.below hb2)
   have HE2 := Lib.hid (HE1.out.stays hb2)
   have HO1 := Lib.hid ho1
   have HO2 := Lib.hid ho2
   have HB2 := Lib.hid hb2
   clear ho1 ho2 hb2
   go_wp2_with fail
   refine (Journal_any w2 HM2.out (by have := HJl.out; have := HLe.out; omega)).mono ?_
   rintro e w3 ⟨v3, rfl, hj3, hb3⟩
   obtain ⟨ja, jc, rfl⟩ := own_form2 hj3
   have HM3 := Lib.hid (HM2.out.below hb3)
   have HE3 := Lib.hid (HE2.out.stays hb3)
   have HO31 := Lib.hid (own_stays HO1.out hb3)
   have HO32 := Lib.hid (own_stays HO2.out hb3)
   have HB3 := Lib.hid (HB2.out.trans (hb3.mono HB2.out.size))
   clear hj3 hb3
   rename_i K1 q1 K2 q2
   refine q2 _ _ ?_
   clear q2 K2
   refine wpList_plain (by rfl) (fun K hK => ?_)
   go_simp
   refine hK _ _ ?_
   clear hK K
   try simp only [Act.put, sAr, sZe, sSu]
   refine wpList_plain (by rfl) (fun K hK => ?_)
   go_simp
   refine hK _ _ ?_
   clear hK K
   try simp only [Act.put, sAr, sZe, sSu]
   refine wpl_world ?_
   intro w4 e4
   have HX4 : Hid (Box w4 w3.heap.size [.slice none 0 0, .int .i64 0, .int .i64 0, .int .i64 0, .int .i64 0, .int .i64 0, .int .i64 0, .int .i64 0, .int .i64 0, .int .i64 0, .int .i64 0, .bool false, .int .i64 0, .int .i64 0, .int .i64 0, .int .i64 0, .int .i64 0, .int .i64 0, .int .i64 0, .slice none 0 0] 50) := Lib.hid (by rw [e4]; exact Box.new w3 _ _)
   have hb4 : Below w3.heap.size w3 w4 := by rw [e4]; exact (Below.refl _ _).alloc (Nat.le_refl _) _
   have HB4 := Lib.hid hb4
   clear e4 hb4
   refine wpList_store_box (vs := [.slice ma M.ms.length mc, .int .i64 M.res, .int .i64 M.reason, .int .i64 M.clk.l0, .int .i64 M.clk.l1, .int .i64 M.clk.m0, .int .i64 M.clk.m1, .int .i64 M.clk.p0, .int .i64 M.clk.p1, .int .i64 M.clk.turn, .int .i64 M.clk.since, .bool M.clk.st, .int .i64 M.clk.fallen, .int .i64 M.off.b0, .int .i64 M.off.b1, .int .i64 M.off.l00, .int .i64 M.off.l01, .int .i64 M.off.l10, .int .i64 M.off.l11, .slice qa M.prem.length qc]) (by rfl) 50 (.tmp 11) (.tmp 38) (by rfl) w3.heap.size (by rfl) (by rfl) HX4.out rfl (by kernel_rfl) (by rfl) ?_
   have HX5 := Lib.hid (HX4.out.store (vs := [.slice ma M.ms.length mc, .int .i64 M.res, .int .i64 M.reason, .int .i64 M.clk.l0, .int .i64 M.clk.l1, .int .i64 M.clk.m0, .int .i64 M.clk.m1, .int .i64 M.clk.p0, .int .i64 M.clk.p1, .int .i64 M.clk.turn, .int .i64 M.clk.since, .bool M.clk.st, .int .i64 M.clk.fallen, .int .i64 M.off.b0, .int .i64 M.off.b1, .int .i64 M.off.l00, .int .i64 M.off.l01, .int .i64 M.off.l10, .int .i64 M.off.l11, .slice qa M.prem.length qc]) rfl)
   have hb5 := below_setCells HB4.out (Nat.le_refl _) 0 [.slice ma M.ms.length mc, .int .i64 M.res, .int .i64 M.reason, .int .i64 M.clk.l0, .int .i64 M.clk.l1, .int .i64 M.clk.m0, .int .i64 M.clk.m1, .int .i64 M.clk.p0, .int .i64 M.clk.p1, .int .i64 M.clk.turn, .int .i64 M.clk.since, .bool M.clk.st, .int .i64 M.clk.fallen, .int .i64 M.off.b0, .int .i64 M.off.b1, .int .i64 M.off.l00, .int .i64 M.off.l01, .int .i64 M.off.l10, .int .i64 M.off.l11, .slice qa M.prem.length qc]
   refine wpl_world ?_
   intro w5 e5
   rw [← e5] at HX5 hb5
   clear e5 HX4 HB4
   have HM5 := Lib.hid (HM3.out.below hb5)
   have HE5 := HE3.out.stays hb5
   have HO51 := Lib.hid (own_stays HO31.out hb5)
   have HO52 := Lib.hid (own_stays HO32.out hb5)
   have HB5 := Lib.hid ((HB1.out.trans (HB3.out.mono HB1.out.size)).trans (hb5.mono (Nat.le_trans HB1.out.size HB3.out.size)))
   have HA3 : Hid (wA.heap.size ≤ w3.heap.size) := Lib.hid HB3.out.size
   have e0 := HE5.cell 0 rfl
   have e1 := HE5.cell 1 rfl
   have e2 := HE5.cell 2 rfl
   have e3 := HE5.cell 3 rfl
   have e4 := HE5.cell 4 rfl
   have e5 := HE5.cell 5 rfl
   have e6 := HE5.cell 6 rfl
   clear hb5 HE5 HE1 HE2 HE3 HB1 HB2 HB3 HM2 HM3 HO1 HO2 HO31 HO32 HMA
   go_wp2_with fail
   refine (Do_any HS.out HIt.out HJo.out x w5 HM5.out (Nat.le_trans HBr.out HB5.out.size) HI0.out (by have := HJl.out; have := HLe.out; omega) (HT.out.below (HB5.out.mono HBr.out)) HOk.out).mono ?_
   rintro e w6 ⟨rfl, S6, B6, hm6, hs6, hf6⟩
   have HM6 := Lib.hid hm6
   have HX6 := Lib.hid (box_match HLo.out HX5.out HA3.out hf6)
   have HO61 := Lib.hid (own_match HLo.out HO51.out hf6)
   have HO62 := Lib.hid (own_match HLo.out HO52.out hf6)
   have HF6 := Lib.hid hf6
   have HB6 : Hid (Below base wr w6) := Lib.hid ((HB5.out.mono HBr.out).trans (HM5.out.base' hf6 (Nat.le_trans HBr.out HB5.out.size)))
   clear hm6 hs6 hf6 e0 e1 e2 e3 e4 e5 e6 HX5 HO51 HO52
   by_cases hz : (M.go x).2 = 0
   ·have HJ6 := Lib.hid (go_len M x hz)
    have HI6 := Lib.hid (MInv_go HI0.out HMl.out HOk.out)
    have hj6 : (M.go x).1.jr.length = M.jr.length + 1 := go_len M x hz
    have HMl6 := Lib.hid (go_ms M x HMl.out)
    rw [hz]
    generalize (M.go x).1 = M6 at *
    have HJ2 : Hid (M6.jr.length ≤ 100000) := Lib.hid (by have := HJl.out; have := HLe.out; omega)
    have hjn : (M6.jr.length : Int) = (M.jr.length : Int) + 1 := by omega
    have hjw : IntKind.i64.wrap ((M.jr.length : Int) + 1) = (M.jr.length : Int) + 1 := by rw [IntKind.wrap_i64]; have := HJl.out; have := HLe.out; omega
    clear hz
    go_upto_region 14 with (fail)
    generalize w6 = wq at *
    have Mz := HM6.out.below (below_drew' (Below.refl _ _))
    have Lz : Below base wr wq.drew := below_drew' HB6.out
    refine wp_region_noPanic ?_
    refine beginL (S := (fun _ => True)) (L := []) (by kernel_rfl) trivial (fun hHeld => ?_)
    refine tkW 0 ?_
    refine tkW 1 ?_
    refine tkW 2 ?_
    refine skW 3 ?_
    refine skW 4 ?_
    refine skW 5 ?_
    refine skW 6 ?_
    refine skW 7 ?_
    refine skW 8 ?_
    refine skW 9 ?_
    refine skW 12 ?_
    refine skW 10 ?_
    refine skW 11 ?_
    refine skW 13 ?_
    refine skW 14 ?_
    refine tkW 15 ?_
    refine tkW 16 ?_
    refine tkW 17 ?_
    refine tkW 18 ?_
    refine tkW 19 ?_
    refine tkW 20 ?_
    refine tkW 23 ?_
    refine tkW 24 ?_
    refine cnL 21 fun K hK => ?_
    go_simp
    refine (Journal_any _ Mz HJ2.out).mono ?_
    rintro e w21 ⟨v21, rfl, hj, hbb⟩
    obtain ⟨ja21, jc21, rfl⟩ := own_form2 hj
    have M21 := Mz.below hbb
    have L21 := Lz.trans (hbb.mono (Nat.le_trans HBr.out Lz.size))
    clear hbb hj
    refine hK.out _ _ trivial (fun hHeld => ?_)
    clear hK K
    refine tkW 22 ?_
    refine tkW 25 ?_
    refine tkW 26 ?_
    refine tkW 27 ?_
    refine dnN ?_
    go_wp2_with fail
    skip
    exact ⟨⟨k + 1, hlt, rfl, M6, S6, B6, M21, HI6.out, HMl6.out, by have := HJl.out; omega, HT.out.below L21, Nat.le_trans HBr.out L21.size, HBl.out.trans (L21.mono hbw)⟩, by simp [intOf]; omega⟩
   ·have hM : (M.go x).1 = M := go_bad M x hz
    rw [hM] at HM6
    have hzb : ((M.go x).2 != 0) = true := by simpa using hz
    have hzc : ((M.go x).2 == 0) = false := by simpa using hz
    have HPr : Hid (M.prem.length ≤ 1000) := Lib.hid (by have := HI0.out.pr.len; omega)
    have HJb : Hid (M.jr.length ≤ 100000) := Lib.hid (by have := HJl.out; have := HLe.out; omega)
    generalize (M.go x).2 = cc at *
    clear hz hM
    go_upto_region 14 with (fail)
    generalize w6 = wq at *
    have Mz := HM6.out.below (below_drew' (Below.refl _ _))
    have Lz : Below base wr wq.drew := below_drew' HB6.out
    have Xz := HX6.out.drew
    have O1z := own_stays HO61.out (below_drew' (Below.refl _ _))
    have O2z := own_stays HO62.out (below_drew' (Below.refl _ _))
    refine wp_region_noPanic ?_
    refine beginL (S := (fun w' => w'.rangeAt w3.heap.size 0 [.slice ma M.ms.length mc, .int .i64 M.res, .int .i64 M.reason, .int .i64 M.clk.l0, .int .i64 M.clk.l1, .int .i64 M.clk.m0, .int .i64 M.clk.m1, .int .i64 M.clk.p0, .int .i64 M.clk.p1, .int .i64 M.clk.turn, .int .i64 M.clk.since, .bool M.clk.st, .int .i64 M.clk.fallen, .int .i64 M.off.b0, .int .i64 M.off.b1, .int .i64 M.off.l00, .int .i64 M.off.l01, .int .i64 M.off.l10, .int .i64 M.off.l11, .slice qa M.prem.length qc])) (L := []) (by kernel_rfl) Xz.range (fun hHeld => ?_)
    refine tkW 0 ?_
    refine tkW 1 ?_
    refine tkW 2 ?_
    try simp only [Act.put, sAr, sZe, sSu]
    refine takeL (i := 3) (v := .agg #[.slice ma M.ms.length mc, .int .i64 M.res, .int .i64 M.reason, .int .i64 M.clk.l0, .int .i64 M.clk.l1, .int .i64 M.clk.m0, .int .i64 M.clk.m1, .int .i64 M.clk.p0, .int .i64 M.clk.p1, .int .i64 M.clk.turn, .int .i64 M.clk.since, .bool M.clk.st, .int .i64 M.clk.fallen, .int .i64 M.off.b0, .int .i64 M.off.b1, .int .i64 M.off.l00, .int .i64 M.off.l01, .int .i64 M.off.l10, .int .i64 M.off.l11, .slice qa M.prem.length qc]) rfl (by kernel_rfl) (by kernel_rfl) (by kernel_rfl) (by kernel_rfl) rfl (by kernel_rfl) (by kernel_rfl) (fun _ _ _ h => h) (yieldsIf_load_mid (by rfl) 50 (.tmp 11) (by rfl) w3.heap.size 0 (by rfl) [.slice ma M.ms.length mc, .int .i64 M.res, .int .i64 M.reason, .int .i64 M.clk.l0, .int .i64 M.clk.l1, .int .i64 M.clk.m0, .int .i64 M.clk.m1, .int .i64 M.clk.p0, .int .i64 M.clk.p1, .int .i64 M.clk.turn, .int .i64 M.clk.since, .bool M.clk.st, .int .i64 M.clk.fallen, .int .i64 M.off.b0, .int .i64 M.off.b1, .int .i64 M.off.l00, .int .i64 M.off.l01, .int .i64 M.off.l10, .int .i64 M.off.l11, .slice qa M.prem.length qc] _ (fun _ hw => hw) Tryz.underlying50 (by rfl) (by kernel_rfl)) (by assumption) ?_
    refine tkW 4 ?_
    refine cnL 5 fun K hK => ?_
    go_simp
    refine (State_any _ Mz HPr.out).mono ?_
    rintro e w5 ⟨na, nc, ra, rc, rfl, n1, n2, hbb⟩
    have M5 := Mz.below hbb
    have L5 := Lz.trans (hbb.mono (Nat.le_trans HBr.out Lz.size))
    have X5 := Xz.stays hbb
    have O15 := own_stays O1z hbb
    have O25 := own_stays O2z hbb
    clear hbb
    refine hK.out _ _ X5.range (fun hHeld => ?_)
    clear hK K
    refine cnL 6 fun K hK => ?_
    go_simp
    refine (same_any M ma na qa ra mc nc qc rc _ (rdM_of_own O15) (rdM_of_own n1) (rdP_of_own O25) (rdP_of_own n2) (Nat.le_trans HMl.out (by decide)) HPr.out).mono ?_
    rintro e w6 ⟨rfl, hbb⟩
    have M6 := M5.below hbb
    have L6 := L5.trans (hbb.mono (Nat.le_trans HBr.out L5.size))
    have X6 := X5.stays hbb
    clear hbb n1 n2 O15 O25 O1z O2z
    refine hK.out _ _ X6.range (fun hHeld => ?_)
    clear hK K
    refine tkW 7 ?_
    refine tkW 8 ?_
    refine tkW 9 ?_
    refine tkW 12 ?_
    refine cnL 10 fun K hK => ?_
    go_simp
    refine (Journal_any _ M6 HJb.out).mono ?_
    rintro e w10 ⟨v10, rfl, hj, hbb⟩
    obtain ⟨ja10, jc10, rfl⟩ := own_form2 hj
    have M10 := M6.below hbb
    have L10 := L6.trans (hbb.mono (Nat.le_trans HBr.out L6.size))
    have X10 := X6.stays hbb
    clear hbb hj
    refine hK.out _ _ X10.range (fun hHeld => ?_)
    clear hK K
    refine tkW 11 ?_
    refine tkW 13 ?_
    refine tkW 14 ?_
    refine tkW 15 ?_
    refine tkW 16 ?_
    refine tkW 17 ?_
    refine tkW 18 ?_
    refine tkW 19 ?_
    refine skW 20 ?_
    refine skW 23 ?_
    refine skW 21 ?_
    refine skW 24 ?_
    refine skW 22 ?_
    refine skW 25 ?_
    refine tkW 26 ?_
    refine tkW 27 ?_
    refine dnN ?_
    clear hHeld X10 X6 X5 Xz
    go_wp2_with fail
    exact ⟨⟨k + 1, hlt, rfl, M, S6, B6, M10, HI0.out, HMl.out, by have := HJl.out; omega, HT.out.below L10, Nat.le_trans HBr.out L10.size, HBl.out.trans (L10.mono hbw)⟩, by simp [intOf]; omega⟩
  ·obtain rfl : k = evs.length := by omega
   clear hm hi hml hjl ht hbr hbl
   go_wp2_with fail
   go_ret
   exact ⟨rfl, HBl.out⟩
end Go.Proofs.YtnodagljaoonjaaGreatDoor
namespace Go.Proofs.YtnodagljaoonjaaGreatDoor
open Go.ChangeShapes Go.WideShapes Go.ChangeAt Go.RowKit Go.Deep
set_option linter.unusedVariables false
set_option maxRecDepth 100000
section
variable {H : Type} {enc : TypeId × Value → H} {P : Program} {w : World}
theorem block_lt' {w : World} {p : Addr} {v : Value} (h : w.cell? p = some v) : p.block < w.heap.size := by
 rcases Nat.lt_or_ge p.block w.heap.size with hlt | hge
 ·exact hlt
 ·simp [World.cell?, Array.getElem?_eq_none hge] at h
theorem add_none' (b off n : Nat) : (⟨b, off, none⟩ : Addr).add n = ⟨b, off + n, none⟩ := by
 unfold Addr.add; split
 ·rename_i h; subst h; rfl
 ·rfl
/-- a slice whose elements are opened by hel. -/
theorem open_list {α : Type} (el : El α) {t e : TypeId} (hu : P.underlying t = some (.slice e)) (hC : P.cellsOf e = el.k) (hk : 0 < el.k)
  (hel : ∀ fuel cs y, DataW.trod enc P w 0 (fun _ => true) true fuel e cs = some y → ∃ x, el.E w x cs)
  {fuel : Nat} {cs : List Value} {y : DataW H × List MemPlace} (h : DataW.trod enc P w 0 (fun _ => true) true fuel t cs = some y) : ∃ v xs, cs = [v] ∧ RdL el w v xs := by
 rcases open_slice hu h with ⟨rfl, _⟩ | ⟨a, len, cap, m, n, D, Pl, rfl, hb, hl, hm, hmm, hx, hi⟩
 ·exact ⟨_, [], rfl, RdL.nil el w⟩
 ·simp only [if_true] at hmm
  obtain rfl : cap = m := hmm.symm
  by_cases h0 : len = 0
  ·subst h0
   exact ⟨_, [], rfl, .inl ⟨_, _, rfl, hm, rfl⟩⟩
  ·have hall : ∀ i : Fin len, ∃ x : α, ∃ cs', w.cells? 0 (a.add (i.1 * el.k)) el.k = some cs' ∧ el.E w x cs' := fun i => by
    obtain ⟨cs', h1, h2⟩ := hi i.1 (by omega)
    rw [hC] at h1
    obtain ⟨x, hx⟩ := hel _ _ _ h2
    exact ⟨x, cs', h1, hx⟩
   have hspot : a.spot = none ∧ a.block < w.heap.size := by
    obtain ⟨x, cs', h1, h2⟩ := hall ⟨0, by omega⟩
    have h3 := (World.cells?_some h1).2.2 0 hk
    have hl' := el.len h2
    rw [List.getElem?_eq_getElem (by omega)] at h3
    have h4 : w.cell? a = some cs'[0] := by simpa [Addr.add] using h3
    exact ⟨World.cell?_spot h4, block_lt' h4⟩
   obtain ⟨g, o, s⟩ := a
   obtain ⟨rfl, hg⟩ := hspot
   simp only at hg
   refine ⟨_, List.ofFn fun i => Classical.choose (hall i), rfl, .inr ⟨g, o, cap, by simp, by simpa using hl, hm, hg, fun i hi' => ?_⟩⟩
   have hi2 : i < len := by simpa using hi'
   obtain ⟨cs', h1, h2⟩ := Classical.choose_spec (hall ⟨i, hi2⟩)
   refine ⟨cs', by simpa using h2, fun j hj => ?_⟩
   have := (World.cells?_some h1).2.2 j hj
   rw [add_none', add_none'] at this
   exact this
theorem trod_flat {base : Nat} {spare : Nat → Bool} {held : Bool} {t : TypeId} {fs : Array Field} {fuel : Nat} {cs : List Value} {x : DataW H × List MemPlace} (ht : P.underlying t = some (.struct fs)) (h1 : oneCellFields P fs = true)
  (h : DataW.trod enc P w base spare held fuel t cs = some x) : ∃ (xs : List (DataW H × List MemPlace)) (n : Nat), cs.length = P.cellsOf t ∧ xs.length = fs.size ∧ ∀ (i : Nat) (f : Field), fs[i]? = some f → DataW.trod enc P w base spare held n f.type ((cs.drop i).take 1) = xs[i]? := by
 obtain ⟨xs, n, _, _, hl, hx, hf⟩ := DataW.trod_struct ht h
 refine ⟨xs, n, hl, hx, fun i f hi => ?_⟩
 obtain ⟨o, q⟩ := hone_of h1 i f hi
 have := hf i f hi
 rw [o, q] at this
 exact this
theorem four_cells {cs : List Value} (h : cs.length = 4) : ∃ a b c d, cs = [a, b, c, d] := by
 match cs, h with
 | [a, b, c, d], _ => exact ⟨a, b, c, d, rfl⟩
theorem three_cells {cs : List Value} (h : cs.length = 3) : ∃ a b c, cs = [a, b, c] := by
 match cs, h with
 | [a, b, c], _ => exact ⟨a, b, c, rfl⟩
theorem open_way (fuel : Nat) (cs : List Value) (y : DataW H × List MemPlace) (h : DataW.trod enc Tryz.prog w 0 (fun _ => true) true fuel 120 cs = some y) : ∃ x, wayEl.E w x cs := by
 obtain ⟨xs, n, hlen, hxl, hf⟩ := trod_flat Tryz.underlying120 (by kernel_rfl) h
 obtain ⟨a, b, c, d, rfl⟩ := four_cells (hlen.trans (by kernel_rfl))
 have hx : xs.length = 4 := hxl
 obtain ⟨y0, y1, y2, y3, rfl⟩ : ∃ a b c d, xs = [a, b, c, d] := by
  match xs, hx with
  | [a, b, c, d], _ => exact ⟨a, b, c, d, rfl⟩
 have f0 := hf 0 _ rfl
 have f1 := hf 1 _ rfl
 have f2 := hf 2 _ rfl
 have f3 := hf 3 _ rfl
 obtain ⟨n0, e0, -, -⟩ := DataW.trod_int Tryz.underlying3 f0
 obtain ⟨n1, e1, -, -⟩ := DataW.trod_int Tryz.underlying3 f1
 obtain ⟨n2, e2, -, -⟩ := DataW.trod_int Tryz.underlying3 f2
 obtain ⟨n3, e3, -, -⟩ := DataW.trod_int Tryz.underlying3 f3
 simp at e0 e1 e2 e3
 subst e0 e1 e2 e3
 exact ⟨⟨n0, n1, n2, n3⟩, rfl⟩
theorem open_piece (fuel : Nat) (cs : List Value) (y : DataW H × List MemPlace) (h : DataW.trod enc Tryz.prog w 0 (fun _ => true) true fuel 106 cs = some y) : ∃ x, pieceEl.E w x cs := by
 obtain ⟨xs, n, hlen, hxl, hf⟩ := trod_flat Tryz.underlying106 (by kernel_rfl) h
 obtain ⟨a, b, c, d, rfl⟩ := four_cells (hlen.trans (by kernel_rfl))
 have hx : xs.length = 4 := hxl
 obtain ⟨y0, y1, y2, y3, rfl⟩ : ∃ a b c d, xs = [a, b, c, d] := by
  match xs, hx with
  | [a, b, c, d], _ => exact ⟨a, b, c, d, rfl⟩
 have f0 := hf 0 _ rfl
 have f1 := hf 1 _ rfl
 have f2 := hf 2 _ rfl
 have f3 := hf 3 _ rfl
 obtain ⟨n0, e0, -, -⟩ := DataW.trod_int Tryz.underlying5 f0
 obtain ⟨n1, e1, -, -⟩ := DataW.trod_int Tryz.underlying3 f1
 obtain ⟨n2, e2, -, -⟩ := DataW.trod_int Tryz.underlying3 f2
 obtain ⟨v, ws, e3, hr⟩ := open_list wayEl Tryz.underlying104 (by kernel_rfl) (by decide) (open_way (enc := enc) (w := w)) f3
 simp at e0 e1 e2 e3
 subst e0 e1 e2 e3
 exact ⟨⟨n0, n1, n2, ws⟩, d, rfl, hr⟩
theorem open_end (fuel : Nat) (cs : List Value) (y : DataW H × List MemPlace) (h : DataW.trod enc Tryz.prog w 0 (fun _ => true) true fuel 108 cs = some y) : ∃ x, endEl.E w x cs := by
 obtain ⟨xs, n, hlen, hxl, hf⟩ := trod_flat Tryz.underlying108 (by kernel_rfl) h
 obtain ⟨a, b, c, d, rfl⟩ := four_cells (hlen.trans (by kernel_rfl))
 have hx : xs.length = 4 := hxl
 obtain ⟨y0, y1, y2, y3, rfl⟩ : ∃ a b c d, xs = [a, b, c, d] := by
  match xs, hx with
  | [a, b, c, d], _ => exact ⟨a, b, c, d, rfl⟩
 have f0 := hf 0 _ rfl
 have f1 := hf 1 _ rfl
 have f2 := hf 2 _ rfl
 have f3 := hf 3 _ rfl
 obtain ⟨n0, e0, -, -⟩ := DataW.trod_int Tryz.underlying3 f0
 obtain ⟨n1, e1, -, -⟩ := DataW.trod_int Tryz.underlying3 f1
 obtain ⟨n2, e2, -, -⟩ := DataW.trod_int Tryz.underlying3 f2
 obtain ⟨n3, e3, -⟩ := DataW.trod_bool Tryz.underlying4 f3
 simp at e0 e1 e2 e3
 subst e0 e1 e2 e3
 exact ⟨⟨n0, n1, n2, n3⟩, rfl⟩
theorem cellOk_spot {r : Reach} {base : Nat} {t e : TypeId} {v : Value} (hu : P.underlying t = some (.slice e)) (hv : Cell.okWide P w r base t v) : (∃ len cap, v = .slice none len cap) ∨ ∃ g o len cap, v = .slice (some ⟨g, o, none⟩) len cap := by
 obtain ⟨a, len, cap, rfl⟩ := cell_slice hu hv
 cases a with
 | none => exact .inl ⟨_, _, rfl⟩
 | some a =>
  obtain ⟨g, o, s⟩ := a
  simp [Cell.okWide, Cell.ok, hu] at hv
  have := hv.2.2.2.1
  subst this
  exact .inr ⟨g, o, _, _, rfl⟩
/-- a slice of integers in a cell. -/
theorem open_ints_cell {r : Reach} {base : Nat} {t e : TypeId} {v : Value} {fuel : Nat} {y : DataW H × List MemPlace} (hu : P.underlying t = some (.slice e)) (he : P.underlying e = some (.int .i64)) (hc : P.cellsOf e = 1)
  (hv : Cell.okWide P w r base t v) (h : DataW.trod enc P w 0 (fun _ => true) true fuel t [v] = some y) : ∃ zs, RdI w v zs := by
 rcases cellOk_spot hu hv with ⟨len, cap, rfl⟩ | ⟨g, o, len, cap, rfl⟩
 ·rcases open_ints hu he hc h with ⟨hcs, _⟩ | ⟨a, len', cap', zs, hcs, _⟩
  ·simp at hcs
   obtain ⟨rfl, rfl⟩ := hcs
   exact ⟨[], Rd.nil _ _⟩
  ·simp at hcs
 ·rcases open_ints hu he hc h with ⟨hcs, _⟩ | ⟨a, len', cap', zs, hcs, _, hl, hm, hz, _, hcell, hwz⟩
  ·simp at hcs
  ·simp at hcs
   obtain ⟨rfl, rfl, rfl⟩ := hcs
   simp only [if_true] at hz
   refine ⟨zs.take len, by simp [ints], .inr ⟨g, o, cap, by simp [hz, hl], by simp [hz, hl], hm, fun i hi => ?_⟩⟩
   have hi' : i < len := by simp at hi; omega
   have := hcell i (by omega)
   rw [add_none'] at this
   rw [this, ints_get _ i (by simp; omega)]
   congr 2
   simp [List.getD, hi']
theorem open_R {r : Reach} {base : Nat} {v : Value} {d : DataW H} {p : List MemPlace} (hv : Value.okWide Tryz.prog w r base 26 v) (h : DataW.Trod enc Tryz.prog w 0 (fun _ => true) true 26 v d p) :
  ∃ (R : RulesZ) (vp vs ve : Value), v = rulesV R vp vs ve ∧ RdR w R vp vs ve ∧ R.name.size ≤ maxLen := by
 obtain ⟨cs, rfl, hl, hcell⟩ := okWide_cells (ts := [9, 3, 3, 22, 23, 4, 4, 24, 3, 3, 3]) Tryz.underlying26 (by kernel_rfl) (by kernel_rfl) hv
 obtain ⟨fuel, hf⟩ := h
 simp only [Value.cells] at hf
 obtain ⟨xs, n, _, hxl, hf⟩ := trod_flat Tryz.underlying26 (by kernel_rfl) hf
 obtain ⟨k0, k1, k2, k3, k4, k5, k6, k7, k8, k9, k10, rfl⟩ : ∃ k0 k1 k2 k3 k4 k5 k6 k7 k8 k9 k10, cs = [k0, k1, k2, k3, k4, k5, k6, k7, k8, k9, k10] := by
  match cs, hl with
  | [k0, k1, k2, k3, k4, k5, k6, k7, k8, k9, k10], _ => exact ⟨k0, k1, k2, k3, k4, k5, k6, k7, k8, k9, k10, rfl⟩
 have hx : xs.length = 11 := hxl
 obtain ⟨y0, y1, y2, y3, y4, y5, y6, y7, y8, y9, y10, rfl⟩ : ∃ k0 k1 k2 k3 k4 k5 k6 k7 k8 k9 k10, xs = [k0, k1, k2, k3, k4, k5, k6, k7, k8, k9, k10] := by
  match xs, hx with
  | [k0, k1, k2, k3, k4, k5, k6, k7, k8, k9, k10], _ => exact ⟨k0, k1, k2, k3, k4, k5, k6, k7, k8, k9, k10, rfl⟩
 have ci : Tryz.prog.cellsOf 3 = 1 := by kernel_rfl
 have f0 := hf 0 _ rfl
 have f1 := hf 1 _ rfl
 have f2 := hf 2 _ rfl
 have f3 := hf 3 _ rfl
 have f4 := hf 4 _ rfl
 have f5 := hf 5 _ rfl
 have f6 := hf 6 _ rfl
 have f7 := hf 7 _ rfl
 have f8 := hf 8 _ rfl
 have f9 := hf 9 _ rfl
 have f10 := hf 10 _ rfl
 obtain ⟨s, e0, -, hs⟩ := DataW.trod_string Tryz.underlying9 f0
 obtain ⟨n1, e1, -, -⟩ := DataW.trod_int Tryz.underlying3 f1
 obtain ⟨n2, e2, -, -⟩ := DataW.trod_int Tryz.underlying3 f2
 obtain ⟨v3, ps, e3, hp⟩ := open_list pieceEl Tryz.underlying22 (by kernel_rfl) (by decide) (open_piece (enc := enc) (w := w)) f3
 obtain ⟨b5, e5, -⟩ := DataW.trod_bool Tryz.underlying4 f5
 obtain ⟨b6, e6, -⟩ := DataW.trod_bool Tryz.underlying4 f6
 obtain ⟨v7, es, e7, he⟩ := open_list endEl Tryz.underlying24 (by kernel_rfl) (by decide) (open_end (enc := enc) (w := w)) f7
 obtain ⟨n8, e8, -, -⟩ := DataW.trod_int Tryz.underlying3 f8
 obtain ⟨n9, e9, -, -⟩ := DataW.trod_int Tryz.underlying3 f9
 obtain ⟨n10, e10, -, -⟩ := DataW.trod_int Tryz.underlying3 f10
 simp at e0 e1 e2 e3 e5 e6 e7 e8 e9 e10
 subst e0 e1 e2 e3 e5 e6 e7 e8 e9 e10
 obtain ⟨u, hu, hc4⟩ := hcell 4 k4 rfl
 simp at hu
 subst hu
 obtain ⟨zs, hz⟩ := open_ints_cell Tryz.underlying23 Tryz.underlying3 ci hc4 (by simpa using f4)
 exact ⟨⟨s, n1, n2, ps, zs, b5, b6, es, n8, n9, n10⟩, k3, k4, k7, rfl, ⟨hp, hz, he⟩, hs⟩
end
end Go.Proofs.YtnodagljaoonjaaGreatDoor
namespace Go.Proofs.YtnodagljaoonjaaGreatDoor
open Go.ChangeShapes Go.WideShapes Go.ChangeAt Go.RowKit Go.Deep
set_option linter.unusedVariables false
section
variable {H : Type} {enc : TypeId × Value → H} {w : World}
end
end Go.Proofs.YtnodagljaoonjaaGreatDoor
namespace Go.Proofs.YtnodagljaoonjaaGreatDoor
open Go.ChangeShapes Go.WideShapes Go.ChangeAt Go.RowKit Go.Deep
set_option linter.unusedVariables false
section
variable {H : Type} {enc : TypeId × Value → H} {w : World}
theorem fld {P : Program} {base : Nat} {spare : Nat → Bool} {held : Bool} {fs : Array Field} {n : Nat} {cs : List Value} {xs : List (DataW H × List MemPlace)}
  (hf : ∀ (i : Nat) (f : Field), fs[i]? = some f → DataW.trod enc P w base spare held n f.type ((cs.drop f.offset).take (P.cellsOf f.type)) = xs[i]?) (i o k : Nat) (ti : TypeId)
  (h : (fs[i]?.map fun f => (f.offset, f.type)) = some (o, ti)) (hk : P.cellsOf ti = k) : DataW.trod enc P w base spare held n ti ((cs.drop o).take k) = xs[i]? := by
 simp only [Option.map_eq_some_iff, Prod.mk.injEq] at h
 obtain ⟨f, hi, rfl, rfl⟩ := h
 have := hf i f hi
 rw [hk] at this
 exact this
end
end Go.Proofs.YtnodagljaoonjaaGreatDoor
namespace Go.Proofs.YtnodagljaoonjaaGreatDoor
open Go.ChangeShapes Go.WideShapes Go.ChangeAt Go.RowKit Go.Deep
set_option linter.unusedVariables false
section
variable {H : Type} {enc : TypeId × Value → H} {w : World}
theorem okWide_spot2 {P : Program} {r : Reach} {base : Nat} {t e : TypeId} {v : Value} (hu : P.underlying t = some (.slice e)) (hv : Value.okWide P w r base t v) : (∃ c, v = .slice none 0 0 ∧ c = 0) ∨ ∃ g o len cap, v = .slice (some ⟨g, o, none⟩) len cap := by
 simp only [Value.okWide, hu, Cell.okWide, Cell.ok] at hv
 split at hv <;> simp_all
 rename_i a len cap _
 obtain ⟨g, o, s⟩ := a
 have := hv.2.2.2.1
 simp at this
 subst this
 exact ⟨g, o, rfl⟩
theorem open_listV {α : Type} (el : El α) {P : Program} {r : Reach} {base : Nat} {t e : TypeId} {v : Value} {d : DataW H} {p : List MemPlace} (hu : P.underlying t = some (.slice e)) (hC : P.cellsOf e = el.k) (hk : 0 < el.k)
  (hel : ∀ fuel cs y, DataW.trod enc P w 0 (fun _ => true) true fuel e cs = some y → ∃ x, el.E w x cs) (hv : Value.okWide P w r base t v) (h : DataW.Trod enc P w 0 (fun _ => true) true t v d p) : ∃ xs, RdL el w v xs := by
 obtain ⟨fuel, hf⟩ := h
 rcases okWide_spot2 hu hv with ⟨_, rfl, _⟩ | ⟨g, o, len, cap, rfl⟩
 ·exact ⟨[], RdL.nil _ _⟩
 ·obtain ⟨v', xs, hc, hr⟩ := open_list el hu hC hk hel hf
  simp [Value.cells] at hc
  subst hc
  exact ⟨xs, hr⟩
end
end Go.Proofs.YtnodagljaoonjaaGreatDoor
namespace Go.Proofs.YtnodagljaoonjaaGreatDoor
open Go.ChangeShapes Go.WideShapes Go.ChangeAt Go.RowKit Go.Deep
set_option linter.unusedVariables false
set_option maxRecDepth 100000
section
variable {H : Type} {enc : TypeId × Value → H} {w : World}
theorem open_per (fuel : Nat) (cs : List Value) (y : DataW H × List MemPlace) (h : DataW.trod enc Tryz.prog w 0 (fun _ => true) true fuel 110 cs = some y) : ∃ x, perEl.E w x cs := by
 obtain ⟨xs, n, hlen, hxl, hf⟩ := trod_flat Tryz.underlying110 (by kernel_rfl) h
 obtain ⟨a, b, rfl⟩ : ∃ a b, cs = [a, b] := by
  have hl : cs.length = 2 := hlen.trans (by kernel_rfl)
  match cs, hl with
  | [a, b], _ => exact ⟨a, b, rfl⟩
 have hx : xs.length = 2 := hxl
 obtain ⟨y0, y1, rfl⟩ : ∃ a b, xs = [a, b] := by
  match xs, hx with
  | [a, b], _ => exact ⟨a, b, rfl⟩
 have f0 := hf 0 _ rfl
 have f1 := hf 1 _ rfl
 obtain ⟨n0, e0, -, -⟩ := DataW.trod_int Tryz.underlying3 f0
 obtain ⟨n1, e1, -, -⟩ := DataW.trod_int Tryz.underlying3 f1
 simp at e0 e1
 subst e0 e1
 exact ⟨(n0, n1), rfl⟩
theorem open_CR {r : Reach} {base : Nat} {v : Value} {d : DataW H} {p : List MemPlace} (hv : Value.okWide Tryz.prog w r base 29 v) (h : DataW.Trod enc Tryz.prog w 0 (fun _ => true) true 29 v d p) :
  ∃ (CR : CrZ) (pa : Option Addr) (pc : Nat), v = .agg #[.slice pa CR.ps.length pc, .int .i64 CR.inc, .int .i64 CR.delay] ∧ clk.PerAt w w.heap.size pa CR.ps.length CR.ps ∧ CR.ps.length ≤ pc ∧ pc ≤ maxLen := by
 obtain ⟨cs, rfl, hl, hcell⟩ := okWide_cells (ts := [27, 3, 3]) Tryz.underlying29 (by kernel_rfl) (by kernel_rfl) hv
 obtain ⟨fuel, hf⟩ := h
 simp only [Value.cells] at hf
 obtain ⟨xs, n, _, _, _, hxl, hf⟩ := DataW.trod_struct Tryz.underlying29 hf
 obtain ⟨a, b, c, rfl⟩ := three_cells hl
 have hx : xs.length = 3 := hxl
 obtain ⟨y0, y1, y2, rfl⟩ : ∃ a b c, xs = [a, b, c] := by
  match xs, hx with
  | [a, b, c], _ => exact ⟨a, b, c, rfl⟩
 have f0 := fld hf 0 0 1 27 (by kernel_rfl) (by kernel_rfl)
 have f1 := fld hf 1 1 1 3 (by kernel_rfl) (by kernel_rfl)
 have f2 := fld hf 2 2 1 3 (by kernel_rfl) (by kernel_rfl)
 obtain ⟨n0, e0, -, -⟩ := DataW.trod_int Tryz.underlying3 f1
 obtain ⟨n1, e1, -, -⟩ := DataW.trod_int Tryz.underlying3 f2
 simp at e0 e1
 subst e0 e1
 obtain ⟨v', ps, hc, hr⟩ := open_list perEl Tryz.underlying27 (by kernel_rfl) (by decide) (open_per (enc := enc) (w := w)) (by simpa using f0)
 simp at hc
 subst hc
 obtain ⟨pa, pc, rfl, h1, h2⟩ := hr.form
 exact ⟨⟨ps, n0, n1⟩, pa, pc, rfl, rdl_per hr, h1, h2⟩
theorem open_ev (fuel : Nat) (cs : List Value) (y : DataW H × List MemPlace) (h : DataW.trod enc Tryz.prog w 0 (fun _ => true) true fuel 40 cs = some y) : ∃ x, evEl.E w x cs := by
 obtain ⟨xs, n, _, _, hlen, hxl, hf⟩ := DataW.trod_struct Tryz.underlying40 h
 obtain ⟨a, b, c, d, e, f, g, rfl⟩ : ∃ a b c d e f g, cs = [a, b, c, d, e, f, g] := by
  have hl : cs.length = 7 := hlen.trans (by kernel_rfl)
  match cs, hl with
  | [a, b, c, d, e, f, g], _ => exact ⟨a, b, c, d, e, f, g, rfl⟩
 have hx : xs.length = 5 := hxl
 obtain ⟨y0, y1, y2, y3, y4, rfl⟩ : ∃ a b c d e, xs = [a, b, c, d, e] := by
  match xs, hx with
  | [a, b, c, d, e], _ => exact ⟨a, b, c, d, e, rfl⟩
 have f0 := fld hf 0 0 1 3 (by kernel_rfl) (by kernel_rfl)
 have f1 := fld hf 1 1 1 3 (by kernel_rfl) (by kernel_rfl)
 have f2 := fld hf 2 2 1 3 (by kernel_rfl) (by kernel_rfl)
 have f3 := fld hf 3 3 1 3 (by kernel_rfl) (by kernel_rfl)
 have f4 := fld hf 4 4 3 38 (by kernel_rfl) (by kernel_rfl)
 obtain ⟨ms, m, hml, hmx, hm⟩ := trod_flat Tryz.underlying38 (by kernel_rfl) f4
 have hmx3 : ms.length = 3 := hmx
 obtain ⟨z0, z1, z2, rfl⟩ : ∃ a b c, ms = [a, b, c] := by
  match ms, hmx3 with
  | [a, b, c], _ => exact ⟨a, b, c, rfl⟩
 have g0 := hm 0 _ rfl
 have g1 := hm 1 _ rfl
 have g2 := hm 2 _ rfl
 obtain ⟨n0, e0, -, w0⟩ := DataW.trod_int Tryz.underlying3 f0
 obtain ⟨n1, e1, -, w1⟩ := DataW.trod_int Tryz.underlying3 f1
 obtain ⟨n2, e2, -, w2⟩ := DataW.trod_int Tryz.underlying3 f2
 obtain ⟨n3, e3, -, w3⟩ := DataW.trod_int Tryz.underlying3 f3
 obtain ⟨n4, e4, -, w4⟩ := DataW.trod_int Tryz.underlying3 g0
 obtain ⟨n5, e5, -, w5⟩ := DataW.trod_int Tryz.underlying3 g1
 obtain ⟨n6, e6, -, w6⟩ := DataW.trod_int Tryz.underlying3 g2
 simp at e0 e1 e2 e3 e4 e5 e6
 subst e0 e1 e2 e3 e4 e5 e6
 refine ⟨⟨n0, n1, n2, n3, ⟨n4, n5, n6⟩⟩, rfl, ?_⟩
 have q1 : IntKind.i64.min = -9223372036854775808 := rfl
 have q2 : IntKind.i64.max = 9223372036854775807 := rfl
 simp [Lit.wf, q1, q2] at w0 w1 w2 w3 w4 w5 w6
 intro x hx
 simp only [evL, List.mem_cons, List.not_mem_nil, or_false] at hx
 rcases hx with rfl | rfl | rfl | rfl | rfl | rfl | rfl <;> omega
theorem open_evs {r : Reach} {base : Nat} {v : Value} {d : DataW H} {p : List MemPlace} (hv : Value.okWide Tryz.prog w r base 30 v) (h : DataW.Trod enc Tryz.prog w 0 (fun _ => true) true 30 v d p) : ∃ xs, RdL evEl w v xs :=
 open_listV evEl Tryz.underlying30 (by kernel_rfl) (by decide) (open_ev (enc := enc) (w := w)) hv h
end
end Go.Proofs.YtnodagljaoonjaaGreatDoor

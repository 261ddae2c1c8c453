/- MaI, MaJ, JouEq, Frame, JouBase, MaN. -/
import Derived.Test.YtnodagljaoonjaaGreatDoorC33
import Derived.Test.YtnodagljaoonjaaGreatDoorC09
import Derived.Lib.LaidTab
import Derived.Lib.Join
import Derived.Test.YtnodagljaoonjaaGreatDoorC28
import Derived.Laws.StructEq
import Derived.WalkKit
import Derived.ProofKit
import Derived.OpenShut
import Derived.Carry
import Derived.Deep.Slices
import Derived.Deep.Strs
import Derived.ChangeMaps5
namespace Go.Proofs.YtnodagljaoonjaaGreatDoor
open Go.ChangeShapes Go.WideShapes Go.ChangeAt Go.RowKit
set_option linter.unusedVariables false
variable {S : Nat → Prop} {base b : Nat} {M : MatZ} {B : MatB}
/-- what an event asks that is not refused ahead of all. -/
structure EvPre (M : MatZ) (ev : EvZ) : Prop where
 nm : M.R.name.size ≤ maxLen
 cr : CrG M.CR
 ck : ClkG M.CR M.clk
 sn : M.clk.since ≤ ev.now
 nw : ev.now ≤ 100000000
 og : OffG M.off
 pr : PremG M.prem
 pl : ev.player = 0 ∨ ev.player = 1
 gm : M.game = 0
 mid : ev.kind = 0 → Mid M ev.now
set_option maxRecDepth 100000 in
set_option maxHeartbeats 16000000 in
theorem kind_any (HS : SortMvSaid) (ev : EvZ) (w : World) (h : MatchAt S base w b M B) (hb : base ≤ w.heap.size) (hp : EvPre M ev) : Calls Tryz.prog 33 #[.pointer (some ⟨b, 0, none⟩), .agg #[.int .i64 ev.kind, .int .i64 ev.player, .int .i64 ev.n, .int .i64 ev.now, .int .i64 ev.m.src, .int .i64 ev.m.dst, .int .i64 ev.m.piece]] w fun e w' => e = .returned (.int .i64 (M.kind ev).2) ∧ MPost S base b w (M.kind ev).1 w' := by
 have HP := Lib.hid hp
 have HDK : Hid (M.kind ev = if ev.kind = 0 then M.doMove ev else if ev.kind = 1 ∨ ev.kind = 3 then M.doOffer ev else if ev.kind = 2 then M.doAccept ev else if ev.kind = 5 then M.doClaim ev else if ev.kind = 6 then M.doPremove ev else ({ M with res := 2 - ev.player, reason := 3 }, 0)) := Lib.hid rfl
 clear hp
 have HSh := Lib.hid HS
 have HM := Lib.hid h
 have HBb := Lib.hid hb
 have HSX : Hid (¬ S w.heap.size) := Lib.hid (fun hk => by obtain ⟨up, us, ue, vl, vm, rows, hg⟩ := h.game; have := (hg.lo _ hk).2; omega)
 have HEb : Hid (b < w.heap.size) := Lib.hid h.box.lt
 clear h hb HS
 go_enter Tryz.func33, Tryz.ntmps33
 go_upto_region 1 with (fail)
 refine opn1 fun w0 y0_ yb_ hs_ => ?_
 have HE0 := Lib.hid y0_
 have HB0 := Lib.hid yb_
 clear hs_ y0_ yb_
 have HM0 := Lib.hid (HM.out.below HB0.out)
 have HBb0 : Hid (base ≤ w0.heap.size) := Lib.hid (Nat.le_trans HBb.out HB0.out.size)
 have e0 := HE0.out.cell 0 rfl
 have e1 := HE0.out.cell 1 rfl
 have e2 := HE0.out.cell 2 rfl
 have e3 := HE0.out.cell 3 rfl
 have e4 := HE0.out.cell 4 rfl
 have e5 := HE0.out.cell 5 rfl
 have e6 := HE0.out.cell 6 rfl
 by_cases k0 : ev.kind = 0
 ·have hk0 : (ev.kind == 0) = true := by simpa using k0
  have HD2 : Hid (M.kind ev = M.doMove ev) := Lib.hid (by rw [HDK.out, if_pos k0])
  have HMid := Lib.hid (HP.out.mid k0)
  clear k0 HDK
  go_wp2_with fail
  refine (doMove_any HSh.out ev w0 HM0.out HBb0.out HMid.out HP.out.gm).mono ?_
  rintro e w1 ⟨rfl, S1, B1, hm, hs, hf⟩
  have HM1 := Lib.hid hm
  have HS1 : Hid (Shr w S S1) := Lib.hid (fun k hk h => hs k (Nat.lt_of_lt_of_le hk HB0.out.size) h)
  have HF1 : Hid (MFr S b w w1) := Lib.hid ((MFr.new HB0.out).trans hf (Shr.refl _ _))
  clear hm hs hf
  rw [← HD2.out] at HM1 ⊢
  go_wp2_with fail
  go_ret
  exact ⟨rfl, S1, B1, HM1.out, HS1.out, HF1.out⟩
 have hk0 : (ev.kind == 0) = false := by simpa using k0
 by_cases k1 : ev.kind = 1
 ·have hk1 : (ev.kind == 1) = true := by simpa using k1
  have HD2 : Hid (M.kind ev = M.doOffer ev) := Lib.hid (by rw [HDK.out, if_neg k0, if_pos (.inl k1)])
  clear k0 k1 HDK
  go_wp2_with fail
  refine (doOffer_any HSh.out ev w0 HM0.out HBb0.out HP.out.og HP.out.pl).mono ?_
  rintro e w1 ⟨rfl, S1, B1, hm, hs, hf⟩
  have HM1 := Lib.hid hm
  have HS1 : Hid (Shr w S S1) := Lib.hid (fun k hk h => hs k (Nat.lt_of_lt_of_le hk HB0.out.size) h)
  have HF1 : Hid (MFr S b w w1) := Lib.hid ((MFr.new HB0.out).trans hf (Shr.refl _ _))
  clear hm hs hf
  rw [← HD2.out] at HM1 ⊢
  go_wp2_with fail
  go_ret
  exact ⟨rfl, S1, B1, HM1.out, HS1.out, HF1.out⟩
 have hk1 : (ev.kind == 1) = false := by simpa using k1
 by_cases k3 : ev.kind = 3
 ·have hk3 : (ev.kind == 3) = true := by simpa using k3
  have HD2 : Hid (M.kind ev = M.doOffer ev) := Lib.hid (by rw [HDK.out, if_neg k0, if_pos (.inr k3)])
  clear k0 k1 k3 HDK
  go_wp2_with fail
  refine (doOffer_any HSh.out ev w0 HM0.out HBb0.out HP.out.og HP.out.pl).mono ?_
  rintro e w1 ⟨rfl, S1, B1, hm, hs, hf⟩
  have HM1 := Lib.hid hm
  have HS1 : Hid (Shr w S S1) := Lib.hid (fun k hk h => hs k (Nat.lt_of_lt_of_le hk HB0.out.size) h)
  have HF1 : Hid (MFr S b w w1) := Lib.hid ((MFr.new HB0.out).trans hf (Shr.refl _ _))
  clear hm hs hf
  rw [← HD2.out] at HM1 ⊢
  go_wp2_with fail
  go_ret
  exact ⟨rfl, S1, B1, HM1.out, HS1.out, HF1.out⟩
 have hk3 : (ev.kind == 3) = false := by simpa using k3
 by_cases k2 : ev.kind = 2
 ·have hk2 : (ev.kind == 2) = true := by simpa using k2
  have HD2 : Hid (M.kind ev = M.doAccept ev) := Lib.hid (by rw [HDK.out, if_neg k0, if_neg (by omega), if_pos k2])
  clear k0 k1 k3 k2 HDK
  go_wp2_with fail
  refine (doAccept_any HSh.out ev w0 HM0.out HBb0.out HP.out.og HP.out.pl).mono ?_
  rintro e w1 ⟨rfl, S1, B1, hm, hs, hf⟩
  have HM1 := Lib.hid hm
  have HS1 : Hid (Shr w S S1) := Lib.hid (fun k hk h => hs k (Nat.lt_of_lt_of_le hk HB0.out.size) h)
  have HF1 : Hid (MFr S b w w1) := Lib.hid ((MFr.new HB0.out).trans hf (Shr.refl _ _))
  clear hm hs hf
  rw [← HD2.out] at HM1 ⊢
  go_wp2_with fail
  go_ret
  exact ⟨rfl, S1, B1, HM1.out, HS1.out, HF1.out⟩
 have hk2 : (ev.kind == 2) = false := by simpa using k2
 by_cases k5 : ev.kind = 5
 ·have hk5 : (ev.kind == 5) = true := by simpa using k5
  have HD2 : Hid (M.kind ev = M.doClaim ev) := Lib.hid (by rw [HDK.out, if_neg k0, if_neg (by omega), if_neg k2, if_pos k5])
  clear k0 k1 k3 k2 k5 HDK
  go_wp2_with fail
  refine (doClaim_any HSh.out ev w0 HM0.out HBb0.out HP.out.cr HP.out.ck HP.out.sn HP.out.nw HP.out.nm).mono ?_
  rintro e w1 ⟨rfl, S1, B1, hm, hs, hf⟩
  have HM1 := Lib.hid hm
  have HS1 : Hid (Shr w S S1) := Lib.hid (fun k hk h => hs k (Nat.lt_of_lt_of_le hk HB0.out.size) h)
  have HF1 : Hid (MFr S b w w1) := Lib.hid ((MFr.new HB0.out).trans hf (Shr.refl _ _))
  clear hm hs hf
  rw [← HD2.out] at HM1 ⊢
  go_wp2_with fail
  go_ret
  exact ⟨rfl, S1, B1, HM1.out, HS1.out, HF1.out⟩
 have hk5 : (ev.kind == 5) = false := by simpa using k5
 by_cases k6 : ev.kind = 6
 ·have hk6 : (ev.kind == 6) = true := by simpa using k6
  have HD2 : Hid (M.kind ev = M.doPremove ev) := Lib.hid (by rw [HDK.out, if_neg k0, if_neg (by omega), if_neg k2, if_neg k5, if_pos k6])
  clear k0 k1 k3 k2 k5 k6 HDK
  go_wp2_with fail
  refine (doPremove_any HSh.out ev w0 HM0.out HBb0.out HP.out.pr HP.out.pl).mono ?_
  rintro e w1 ⟨rfl, S1, B1, hm, hs, hf⟩
  have HM1 := Lib.hid hm
  have HS1 : Hid (Shr w S S1) := Lib.hid (fun k hk h => hs k (Nat.lt_of_lt_of_le hk HB0.out.size) h)
  have HF1 : Hid (MFr S b w w1) := Lib.hid ((MFr.new HB0.out).trans hf (Shr.refl _ _))
  clear hm hs hf
  rw [← HD2.out] at HM1 ⊢
  go_wp2_with fail
  go_ret
  exact ⟨rfl, S1, B1, HM1.out, HS1.out, HF1.out⟩
 have hk6 : (ev.kind == 6) = false := by simpa using k6
 have HD2 : Hid (M.kind ev = ({ M with res := 2 - ev.player, reason := 3 }, 0)) := Lib.hid (by rw [HDK.out, if_neg k0, if_neg (by omega), if_neg k2, if_neg k5, if_neg k6])
 clear k0 k1 k3 k2 k5 k6 HDK
 have hw2 : IntKind.i64.wrap (2 - ev.player) = 2 - ev.player := IntWalk.i64_in _ (by have := HP.out.pl; omega)
 have d16 := HM0.out.box.cell 16 rfl
 have f16 := HM0.out.box.frozen 16
 have d17 := HM0.out.box.cell 17 rfl
 have f17 := HM0.out.box.frozen 17
 have HQ := Lib.hid (HM0.out.put (M' := { M with res := 2 - ev.player, reason := 3 }) (B' := B) 16 [.int .i64 (2 - ev.player), .int .i64 3] (by simp) rfl rfl rfl rfl (HM0.out.rd.imp (fun _ h => ⟨h.rd, h.per, h.pc, h.pr, h.jr⟩)))
 have HwR : Hid (2 - ev.player = 2 - ev.player) := Lib.hid rfl
 go_wp2_with fail
 go_ret
 exact ⟨by rw [HD2.out]; rfl, S, B, by rw [HD2.out]; exact HQ.out.1, Shr.refl _ _, (MFr.new HB0.out).trans HQ.out.2 (Shr.refl _ _)⟩
end Go.Proofs.YtnodagljaoonjaaGreatDoor
namespace Go.Proofs.YtnodagljaoonjaaGreatDoor
open Go.ChangeShapes Go.WideShapes Go.ChangeAt Go.RowKit
set_option linter.unusedVariables false
/-- the table of powers of ten, which lies below base. -/
def Tab (base : Nat) (w : World) : Prop := Lib.TabIs Tryz.prog w "internal/strconv.uint64pow10" .u64 Lib.pow10Tab ∧ ∀ g, Tryz.prog.globalNamed "internal/strconv.uint64pow10" = some g → g < base
theorem Tab.below {base : Nat} {w w' : World} (h : Tab base w) (hb : Below base w w') : Tab base w' := by
 refine ⟨?_, h.2⟩
 obtain ⟨h1, h2⟩ := h
 unfold Lib.TabIs World.var? at h1 ⊢
 cases hg : Tryz.prog.globalNamed "internal/strconv.uint64pow10" with
 | none => rw [hg] at h1; cases h1
 | some g => rw [hg] at h1; simp only [Option.bind_some] at h1 ⊢; rw [hb.block g (h2 g hg)]; exact h1
/-- what the shelf says of strconv.Itoa and strings.Join. -/
def ItoaSaid : Prop := ∀ (n : Int) (w : World), -9223372036854775808 ≤ n → n ≤ 9223372036854775807 → Lib.TabIs Tryz.prog w "internal/strconv.uint64pow10" .u64 Lib.pow10Tab →
 Calls Tryz.prog 27 #[.int .i64 n] w fun e w' => e = .returned (.string ⟨(Lib.itoa n).toArray⟩) ∧ Below w.heap.size w w'
def strsM (ss : List ByteArray) : List Value := ss.map Value.string
def JoinSaidM : Prop := ∀ (base : Nat) (v : Value) (xs : List ByteArray) (sep : ByteArray) (w : World), w.ownsRow base 9 1 v xs.length (strsM xs) → xs.length ≤ 1000 → (∀ x ∈ xs, x.size ≤ 1000000) → sep.size ≤ 1000 →
 Calls Tryz.prog 64 #[v, .string sep] w fun e w' => e = .returned (.string ⟨(Lib.join (xs.map (·.data.toList)) sep.data.toList).toArray⟩) ∧ Below w.heap.size w w'
def evL (ev : EvZ) : List Int := [ev.kind, ev.player, ev.n, ev.now, ev.m.src, ev.m.dst, ev.m.piece]
def evOk (ev : EvZ) : Prop := ∀ x ∈ evL ev, -9223372036854775808 ≤ x ∧ x ≤ 9223372036854775807
def itB (n : Int) : ByteArray := ⟨(Lib.itoa n).toArray⟩
theorem info_strM : (Tryz.prog.info? 9).map (fun i => (i.zero, i.size, i.bytes)) = some (some (.string ByteArray.empty), 1, 16) := by kernel_rfl
theorem one_strM {s : ByteArray} : ∀ u ∈ [Value.string s], u.oneCell' = true := by intro u hu; simp at hu; rw [hu]; rfl
theorem strsM_snoc (l : List ByteArray) (x : ByteArray) : strsM l ++ [.string x] = strsM (l ++ [x]) := by simp [strsM]
theorem ixE (a0 a1 a2 a3 a4 a5 a6 : Int) : ∀ (k : Nat), k < 7 → ∀ w : World, (Instr.index 131 (.agg #[.int .i64 a0, .int .i64 a1, .int .i64 a2, .int .i64 a3, .int .i64 a4, .int .i64 a5, .int .i64 a6]) (.int .i64 k)).run Tryz.prog w = .ok (.int .i64 ([a0, a1, a2, a3, a4, a5, a6].getD k 0)) w
 | 0, _, w => by kernel_rfl
 | 1, _, w => by kernel_rfl
 | 2, _, w => by kernel_rfl
 | 3, _, w => by kernel_rfl
 | 4, _, w => by kernel_rfl
 | 5, _, w => by kernel_rfl
 | 6, _, w => by kernel_rfl
theorem nDig_le : ∀ (k u : Nat), u < 10 ^ (k + 1) → Lib.nDigits u ≤ k + 1
 | 0, u, h => by rw [Lib.nDigits_small (by simpa using h)]; exact Nat.le_refl _
 | k + 1, u, h => by
  by_cases q : u < 10
  ·rw [Lib.nDigits_small q]; omega
  ·rw [Lib.nDigits_big q]
   have := nDig_le k (u / 10) (by rw [Nat.pow_succ] at h; omega)
   omega
theorem itB_le (n : Int) (h0 : -9223372036854775808 ≤ n) (h1 : n ≤ 9223372036854775807) : (itB n).size ≤ 20 := by
 show (Lib.itoa n).toArray.size ≤ 20
 rw [List.size_toArray]
 unfold Lib.itoa
 split
 ·rw [List.length_cons]
  rw [Lib.decDigits_length]
  have := nDig_le 18 n.natAbs (show n.natAbs < 10000000000000000000 by omega)
  omega
 ·rw [Lib.decDigits_length]
  have := nDig_le 18 n.toNat (show n.toNat < 10000000000000000000 by omega)
  omega
set_option maxRecDepth 100000 in
set_option maxHeartbeats 8000000 in
theorem Entry_any (HI : ItoaSaid) (HJ : JoinSaidM) (ev : EvZ) (w : World) (hT : Tab w.heap.size w) (hok : evOk ev) : Calls Tryz.prog 34 #[.agg #[.int .i64 ev.kind, .int .i64 ev.player, .int .i64 ev.n, .int .i64 ev.now, .int .i64 ev.m.src, .int .i64 ev.m.dst, .int .i64 ev.m.piece]] w fun e w' => e = .returned (.string (entryT ev)) ∧ Below w.heap.size w w' := by
 have HIh := Lib.hid HI
 have HJh := Lib.hid HJ
 have HT := Lib.hid hT
 have HO := Lib.hid hok
 have HEnd : Hid (entryT ev = ⟨(Lib.join (((evL ev).map itB).map (·.data.toList)) [32]).toArray⟩) := Lib.hid (by simp [entryT, evL, itB, Lib.join, List.intercalate, List.intersperse])
 have hix := ixE ev.kind ev.player ev.n ev.now ev.m.src ev.m.dst ev.m.piece
 have HIx := Lib.hid hix
 clear HI HJ hT hok hix
 go_enter Tryz.func34, Tryz.ntmps34
 go_upto_region 1 with (fail)
 refine opn1 fun w0 y0_ yb_ hs_ => ?_
 have HE0 := Lib.hid y0_
 have HB0 := Lib.hid yb_
 clear hs_ y0_ yb_
 have e0 := HE0.out.cell 0 rfl
 have e1 := HE0.out.cell 1 rfl
 have e2 := HE0.out.cell 2 rfl
 have e3 := HE0.out.cell 3 rfl
 have e4 := HE0.out.cell 4 rfl
 have e5 := HE0.out.cell 5 rfl
 have e6 := HE0.out.cell 6 rfl
 go_wp2_with fail
 clear e0 e1 e2 e3 e4 e5 e6
 have HNil : Hid (w0.ownsRow w.heap.size 9 1 (.slice none 0 0) 0 (strsM [])) := Lib.hid (World.ownsRow_nil _ _ _ _)
 go_loopw [24, 3, 5] (fun v24 v3 v5 wr => ∃ (k : Nat) (o3 o5 : Value), o3 = v3 ∧ o5 = v5 ∧ k ≤ 7 ∧ v24 = .int .i64 k ∧ Hid (wr.ownsRow w.heap.size 9 1 o3 k (strsM (((evL ev).map itB).take k))) ∧ Hid (Below w.heap.size w wr)) (fun v _ _ _ => 7 - (intOf v).toNat)
 case atStart => exact ⟨0, _, _, rfl, rfl, Nat.zero_le _, rfl, HNil, HB0⟩
 case round =>
  obtain ⟨k, o3, o5, rfl, rfl, hk, rfl, HR, HBr⟩ := hrel
  by_cases hlt : k < 7
  ·have hlI : (k : Int) < 7 := by omega
   have HLk := Lib.hid hlt
   have hi := HIx.out k hlt
   have HX : Hid (-9223372036854775808 ≤ (evL ev).getD k 0 ∧ (evL ev).getD k 0 ≤ 9223372036854775807) := Lib.hid (HO.out _ (by rw [List.getD_eq_getElem?_getD, List.getElem?_eq_getElem (show k < (evL ev).length from hlt)]; exact List.getElem_mem _))
   have HS2 : Hid (((evL ev).map itB).take (k + 1) = ((evL ev).map itB).take k ++ [itB ((evL ev).getD k 0)]) := Lib.hid (by
    have hl : k < ((evL ev).map itB).length := by rw [List.length_map]; exact hlt
    rw [List.take_succ_eq_append_getElem hl, List.getElem_map, List.getD_eq_getElem?_getD, List.getElem?_eq_getElem (show k < (evL ev).length from hlt)]; rfl)
   rw [show [ev.kind, ev.player, ev.n, ev.now, ev.m.src, ev.m.dst, ev.m.piece] = evL ev from rfl] at hi
   generalize (evL ev).getD k 0 = x at *
   clear hlt
   go_wp2_with fail
   refine (HIh.out x wr HX.out.1 HX.out.2 (HT.out.below HBr.out).1).mono ?_
   rintro e w1 ⟨rfl, hb1⟩
   have HB1 := Lib.hid (below_trans HBr.out hb1 HBr.out.size)
   have HR1 := Lib.hid (own_stays HR.out hb1)
   have hsz : w.heap.size ≤ w1.heap.size := HB1.out.size
   rw [show (⟨(Lib.itoa x).toArray⟩ : ByteArray) = itB x from rfl]
   generalize itB x = tx at *
   clear hb1 HR hi
   have hk100 : k + 1 ≤ 100000000 := by omega
   go_wp2_with (at_builtin; refine app_new 130 9 (.string ByteArray.empty) 1 16 info_strM Tryz.underlying130 rfl (by decide) (by rfl) _ _ (by rfl) w.heap.size _ k _ [.string tx] w1 HR1.out hsz rfl one_strM hk100 (by omega) (by rfl) (by rfl) ?_)
   intro g cap w2 hown2 hkeep2 hgr2
   have HB2 := Lib.hid (hkeep2.below HB1.out (Nat.le_refl _))
   have HR2 : Hid (w2.ownsRow w.heap.size 9 1 (.slice (some ⟨g, 0, none⟩) (k + 1) cap) (k + 1) (strsM (((evL ev).map itB).take (k + 1)))) := Lib.hid (by rw [HS2.out, ← strsM_snoc]; exact hown2)
   clear hown2 hkeep2 hgr2
   go_wp2_with fail
   go_roundw
   case rel => exact ⟨k + 1, _, _, rfl, rfl, by have := HLk.out; omega, by go_num, HR2, HB2⟩
   case measure => have := HLk.out; simp [intOf]; omega
  obtain rfl : k = 7 := by omega
  have HRe : Hid (wr.ownsRow w.heap.size 9 1 o3 ((evL ev).map itB).length (strsM ((evL ev).map itB))) := Lib.hid (by have := HR.out; rwa [List.take_of_length_le (by simp [evL])] at this)
  have hlI : ¬ ((7 : Nat) : Int) < 7 := by decide
  go_wp2_with fail
  refine (HJh.out w.heap.size o3 ((evL ev).map itB) ⟨#[32]⟩ wr HRe.out (by simp [evL]) (fun x hx => by
   obtain ⟨y, hy, rfl⟩ := List.mem_map.1 hx
   have := itB_le y (HO.out y hy).1 (HO.out y hy).2
   omega) (by decide)).mono ?_
  rintro e w1 ⟨rfl, hb1⟩
  have HB1 := Lib.hid (below_trans HBr.out hb1 HBr.out.size)
  clear hb1
  go_wp2_with fail
  go_ret
  exact ⟨by rw [HEnd.out]; rfl, HB1.out⟩
end Go.Proofs.YtnodagljaoonjaaGreatDoor
namespace Go.Proofs.YtnodagljaoonjaaGreatDoor
open Go.ChangeShapes Go.WideShapes Go.ChangeAt Go.RowKit
set_option linter.unusedVariables false
end Go.Proofs.YtnodagljaoonjaaGreatDoor
namespace Go.Proofs.YtnodagljaoonjaaGreatDoor
open Go.ChangeShapes Go.WideShapes Go.ChangeAt Go.RowKit
section
variable {H : Type} {enc : TypeId × Value → H} {P : Program} {W W' : World}
theorem trodAll_stays (hl : laidOutB P = true) (hb : Below W.heap.size W W') : ∀ {ts : List TypeId} {vs : List Value} {ds : List (DataW H)} {ps : List MemPlace},
  (ts.all fun t => P.readableRec t && decide (t < P.types.size)) = true → DataW.TrodAll enc P W 0 (fun _ => true) true ts vs ds ps →
  DataW.TrodAll enc P W' 0 (fun b => decide (b < W.heap.size)) true ts vs ds ps
 | [], [], [], _, _, h => h
 | t :: ts, v :: vs, d :: ds, ps, ht, ⟨p, q, h1, h2, e⟩ => by
  simp only [List.all_cons, Bool.and_eq_true, decide_eq_true_eq] at ht
  exact ⟨p, q, Below.trod hl ht.1.1 ht.1.2 h1 hb (by obtain ⟨m, hm⟩ := h1; exact DataW.trod_lt m _ _ _ hm), trodAll_stays hl hb ht.2 h2, e⟩
variable {r : Reach} {base : Nat} {t u : TypeId} {v : Value} {w : World}
theorem cell_slice {e : TypeId} (hu : P.underlying u = some (.slice e)) (h : Cell.okWide P w r base u v) : ∃ a len cap, v = .slice a len cap := by
 cases v <;> simp_all [Cell.okWide, Cell.ok]
/-- a struct by value: its cells, each of its own type. -/
theorem okWide_cells {fs : Array Field} {ts : List TypeId} (hs : P.underlying t = some (.struct fs)) (hts : P.cellTypes P.depth t = some ts) (hn : P.cellsOf t = ts.length)
  (h : Value.okWide P w r base t v) : ∃ cs : List Value, v = .agg cs.toArray ∧ cs.length = ts.length ∧ ∀ (i : Nat) (x : Value), cs[i]? = some x → ∃ u, ts[i]? = some u ∧ Cell.okWide P w r base u x := by
 simp only [Value.okWide, hs] at h
 obtain ⟨cs, rfl, hsz, ts', hts', _, hc⟩ := h
 rw [hts] at hts'
 cases hts'
 refine ⟨cs.toList, by simp, by simpa [hn] using hsz, fun i x hi => ?_⟩
 have hi' : cs[i]? = some x := by simpa using hi
 obtain ⟨u, hu, hx⟩ := hc i x hi'
 have hlt : i < ts.length := by
  have := (Array.getElem?_eq_some_iff.1 hi').1
  omega
 rw [Nat.mod_eq_of_lt hlt] at hu
 exact ⟨u, hu, hx⟩
end
end Go.Proofs.YtnodagljaoonjaaGreatDoor
namespace Go.Proofs.YtnodagljaoonjaaGreatDoor
open Go.ChangeShapes Go.WideShapes Go.ChangeAt Go.RowKit
set_option linter.unusedVariables false
theorem text_size {s : ByteArray} (h : textE s = 0) : s.size ≤ 200 := by
 unfold textE at h
 split at h
 ·cases h
 ·omega
theorem OkJ_nil : OkJ [] := ⟨by simp, fun k h => by simp at h⟩
theorem OkJ_snoc {es : List EntZ} {s : ByteArray} (h : OkJ es) (ht : textE s = 0) : OkJ (es ++ [⟨s, sumZ (lastJ es) s⟩]) := by
 refine ⟨fun e he => ?_, fun k hk => ?_⟩
 ·rcases List.mem_append.1 he with q | q
  ·exact h.1 e q
  ·simp at q; subst q; exact text_size ht
 ·rcases Nat.lt_or_ge k es.length with q | q
  ·rw [List.take_append_of_le_length (by omega), List.getElem_append_left q]
   exact h.2 k q
  ·have : k = es.length := by simp at hk; omega
   subst this
   rw [List.take_left, List.getElem_append_right (by omega)]
   simp [wrongE, ht]
/-! ### texts -/
def strs (ss : List ByteArray) : List Value := ss.map Value.string
def RdS (w : World) (v : Value) (ss : List ByteArray) : Prop := Rd w 1 ss.length v (strs ss)
theorem RdS.form {w : World} {v : Value} {ss : List ByteArray} (h : RdS w v ss) : ∃ a c, v = .slice a ss.length c ∧ ss.length ≤ c ∧ c ≤ maxLen ∧ ∀ k (hk : k < ss.length), ∃ g o, a = some ⟨g, o, none⟩ ∧ g < w.heap.size ∧ w.cell? ⟨g, o + k, none⟩ = some (.string ss[k]) := by
 rcases h.2 with ⟨⟨a0, c0, h, hm⟩, hz⟩ | ⟨g, o, c, h', h1, h2, hc⟩
 ·exact ⟨a0, c0, by rw [h, hz], by omega, hm, fun k hk => by omega⟩
 ·refine ⟨_, _, h', h1, h2, fun k hk => ⟨g, o, rfl, ?_⟩⟩
  have e0 : w.cell? ⟨g, o + k, none⟩ = some (.string ss[k]) := by
   rw [hc k (by omega)]
   simp [strs, List.getElem?_eq_getElem hk]
  exact ⟨World.block_lt_of_cell? w _ e0, e0⟩
section
variable {H : Type} {enc : TypeId × Value → H} {P : Program} {W : World} {r : Reach} {base : Nat} {t e : TypeId} {v : Value} {d : DataW H} {p : List MemPlace}
end
end Go.Proofs.YtnodagljaoonjaaGreatDoor
namespace Go.Proofs.YtnodagljaoonjaaGreatDoor
open Go.ChangeShapes Go.WideShapes Go.ChangeAt Go.RowKit
set_option linter.unusedVariables false
theorem badFrom_none (s : ByteArray) (h : ∀ k (hk : k < s.size), badC ((s[k]'hk).toNat : Int) = false) : ∀ f k, badFrom s f k = -1
 | 0, k => rfl
 | f + 1, k => by
  unfold badFrom
  split
  ·rename_i hk
   rw [if_neg (by rw [h k hk]; decide)]
   exact badFrom_none s h f (k + 1)
  ·rfl
def okByte (c : UInt8) : Prop := 32 ≤ c.toNat ∧ c.toNat ≤ 126
theorem dec_ok (u : Nat) : ∀ c ∈ Lib.decDigits u, okByte c := by
 intro c hc
 rw [Lib.decDigits_eq] at hc
 obtain ⟨t, -, rfl⟩ := List.mem_map.1 hc
 unfold Lib.dg okByte
 have : u / 10 ^ (Lib.nDigits u - 1 - t) % 10 < 10 := Nat.mod_lt _ (by decide)
 generalize u / 10 ^ (Lib.nDigits u - 1 - t) % 10 = d at *
 rw [UInt8.toNat_ofNat']
 omega
theorem ito_ok (n : Int) : ∀ c ∈ Lib.itoa n, okByte c := by
 intro c hc
 unfold Lib.itoa at hc
 split at hc
 ·rcases List.mem_cons.1 hc with rfl | hc
  ·exact ⟨by decide, by decide⟩
  ·exact dec_ok _ c hc
 ·exact dec_ok _ c hc
theorem text_ok_of (l : List UInt8) (hl : l.length ≤ 200) (h : ∀ c ∈ l, okByte c) : textE ⟨l.toArray⟩ = 0 := by
 unfold textE badAt
 rw [if_neg (by show ¬ 200 < l.toArray.size; rw [List.size_toArray]; omega), badFrom_none, if_neg (by decide)]
 intro k hk
 have hk2 : k < l.length := by
  have : (⟨l.toArray⟩ : ByteArray).size = l.length := by show l.toArray.size = _; rw [List.size_toArray]
  omega
 have e : (⟨l.toArray⟩ : ByteArray)[k]'hk = l[k] := by
  show l.toArray[k] = l[k]
  rw [List.getElem_toArray]
 rw [e]
 have := h _ (List.getElem_mem hk2)
 unfold okByte at this
 unfold badC
 rw [decide_eq_false (by omega), decide_eq_false (by omega)]; rfl
theorem ito_len (n : Int) (h0 : -9223372036854775808 ≤ n) (h1 : n ≤ 9223372036854775807) : (Lib.itoa n).length ≤ 20 := by
 have := itB_le n h0 h1
 unfold itB at this
 rwa [show (⟨(Lib.itoa n).toArray⟩ : ByteArray).size = (Lib.itoa n).length by show (Lib.itoa n).toArray.size = _; rw [List.size_toArray]] at this
theorem entry_ok {ev : EvZ} (h : evOk ev) : textE (entryT ev) = 0 := by
 have hb : ∀ x ∈ evL ev, (Lib.itoa x).length ≤ 20 := fun x hx => ito_len x (h x hx).1 (h x hx).2
 unfold entryT
 refine text_ok_of _ ?_ ?_
 ·have a0 := hb ev.kind (by simp [evL])
  have a1 := hb ev.player (by simp [evL])
  have a2 := hb ev.n (by simp [evL])
  have a3 := hb ev.now (by simp [evL])
  have a4 := hb ev.m.src (by simp [evL])
  have a5 := hb ev.m.dst (by simp [evL])
  have a6 := hb ev.m.piece (by simp [evL])
  simp only [List.length_append, List.length_cons]
  omega
 ·intro c hc
  have h32 : okByte 32 := ⟨by decide, by decide⟩
  simp only [List.mem_append, List.mem_cons] at hc
  rcases hc with hc | rfl | hc | rfl | hc | rfl | hc | rfl | hc | rfl | hc | rfl | hc
  all_goals first | exact h32 | exact ito_ok _ c hc
theorem entry_size (ev : EvZ) : textE (entryT ev) = 0 → (entryT ev).size ≤ 200 := by
 intro h
 unfold textE at h
 split at h
 ·cases h
 ·omega
/-- what stays true from event to event. -/
structure MInv (M : MatZ) : Prop where
 nm : M.R.name.size ≤ maxLen
 cr : CrG M.CR
 ck : ClkG M.CR M.clk
 st : M.clk.st = false
 fl : M.res = 0 → M.clk.fallen < 0
 sn : M.clk.since ≤ M.last
 la : 0 ≤ M.last ∧ M.last ≤ 100000000
 og : OffG M.off
 pr : PremG M.prem
 jo : OkJ M.jr
 go : M.res = 0 → M.game = 0
theorem pre_zero {M : MatZ} {ev : EvZ} (h : M.preE ev = 0) : (0 ≤ ev.kind ∧ ev.kind ≤ 6) ∧ (ev.player = 0 ∨ ev.player = 1) ∧ (M.last ≤ ev.now ∧ ev.now ≤ 100000000) ∧ M.res = 0 ∧ M.jr.length ≠ 1000 ∧ (ev.kind = 4 ∨ (ev.kind = 5 ∧ ev.n = 2) ∨ (lookC M.CR M.clk ev.now).fallen < 0) := by
 unfold MatZ.preE at h
 split at h
 ·cases h
 split at h
 ·cases h
 split at h
 ·cases h
 split at h
 ·cases h
 split at h
 ·cases h
 refine ⟨by omega, by omega, by omega, by omega, by assumption, ?_⟩
 rename_i h5
 by_cases a : ev.kind = 4
 ·exact .inl a
 ·by_cases b : ev.kind = 5 ∧ ev.n = 2
  ·exact .inr (.inl b)
  ·refine .inr (.inr ?_)
   by_cases c : 0 ≤ (lookC M.CR M.clk ev.now).fallen
   ·exact absurd ⟨c, a, b⟩ h5
   ·omega
theorem inv_pre {M : MatZ} {ev : EvZ} (h : MInv M) (hp : M.preE ev = 0) : EvPre M ev := by
 obtain ⟨h1, h2, h3, h4, h5, h6⟩ := pre_zero hp
 have hsn : M.clk.since ≤ ev.now := by have := h.sn; omega
 refine ⟨h.nm, h.cr, h.ck, hsn, h3.2, h.og, h.pr, h2, h.go h4, fun hk => ?_⟩
 have hf : (lookC M.CR M.clk ev.now).fallen < 0 := by
  rcases h6 with h6 | h6 | h6
  ·omega
  ·omega
  ·exact h6
 exact ⟨h.nm, h.cr, h.ck, hsn, h3.2, h.st, h.fl h4, h.og, h.pr, look_used (h.fl h4) hf⟩
end Go.Proofs.YtnodagljaoonjaaGreatDoor

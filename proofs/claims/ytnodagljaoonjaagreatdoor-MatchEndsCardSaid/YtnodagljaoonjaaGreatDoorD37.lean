/- MaU, MaV, MaW, MaX. -/
import Derived.Test.YtnodagljaoonjaaGreatDoorD36
import Derived.Test.YtnodagljaoonjaaGreatDoorC09
import Derived.Test.YtnodagljaoonjaaGreatDoorC05
import Derived.Test.YtnodagljaoonjaaGreatDoorC20
namespace Go.Proofs.YtnodagljaoonjaaGreatDoor
open Go.ChangeShapes Go.WideShapes Go.ChangeAt Go.RowKit
set_option linter.unusedVariables false
variable {S : Nat → Prop} {base b : Nat} {M : MatZ} {B : MatB}
theorem start_text (now : Int) (h0 : -9223372036854775808 ≤ now) (h1 : now ≤ 9223372036854775807) : textE (startT now) = 0 ∧ (startT now).size ≤ 200 := by
 have hl := ito_len now h0 h1
 have hle : (([115, 116, 97, 114, 116, 32] : List UInt8) ++ Lib.itoa now).length ≤ 200 := by simp; omega
 refine ⟨text_ok_of _ hle (fun c hc => ?_), ?_⟩
 ·rcases List.mem_append.1 hc with h | h
  ·simp only [List.mem_cons, List.not_mem_nil, or_false] at h
   rcases h with rfl | rfl | rfl | rfl | rfl | rfl <;> exact ⟨by decide, by decide⟩
  ·exact ito_ok now c h
 ·show (([115, 116, 97, 114, 116, 32] : List UInt8) ++ Lib.itoa now).toArray.size ≤ 200
  rw [List.size_toArray]; exact hle
/-- the rules or the clock's rule are refused. -/
def newBad (R : RulesZ) (CR : CrZ) : Prop := ¬ (rulesErr R = 0 ∧ clk.RuleOk CR.ps.length CR.inc CR.delay CR.ps)
def NewMPost (R : RulesZ) (CR : CrZ) (now : Int) (w : World) (e : Ending) (w' : World) : Prop :=
 (∃ c : Int, (c ≠ 0 ∧ newBad R CR) ∧ e = .returned (.tuple #[.pointer none, .int .i64 c]) ∧ Below w.heap.size w w') ∨
 (rulesErr R = 0 ∧ CrG CR ∧ ∃ base S b B, e = .returned (.tuple #[.pointer (some ⟨b, 0, none⟩), .int .i64 0]) ∧ MatchAt S base w' b (newM R CR now) B ∧ w.heap.size ≤ base ∧ base ≤ w'.heap.size ∧ Below w.heap.size w w')
theorem own_block {w w' : World} {bb n sz : Nat} {e : TypeId} {v : Value} {xs : List Value} (h : w.ownsRow bb e sz v n xs) (hb : ∀ k, v.ownBlock = some k → w'.heap[k]? = w.heap[k]?) : w'.ownsRow bb e sz v n xs := by
 refine ⟨h.1, ?_⟩
 rcases h.2 with h0 | ⟨g, c, cur, hv, hg, hbk, r⟩
 ·exact .inl h0
 ·exact .inr ⟨g, c, cur, hv, hg, by rw [hb g (by rw [hv]; rfl)]; exact hbk, r⟩
set_option maxRecDepth 100000 in
set_option maxHeartbeats 8000000 in
theorem NewM_any (HSo : SortMvSaid) (HI : ItoaSaid) (R : RulesZ) (CR : CrZ) (vp vs ve : Value) (pa : Option Addr) (pc : Nat) (now : Int) (w : World) (hr : RdR w R vp vs ve) (hnm : R.name.size ≤ maxLen) (hp : clk.PerAt w w.heap.size pa CR.ps.length CR.ps) (h1 : CR.ps.length ≤ pc) (h2 : pc ≤ maxLen) (h0 : 0 ≤ now) (hn8 : now ≤ 100000000) (ht : Tab w.heap.size w) :
  Calls Tryz.prog 8 #[.agg #[.string R.name, .int .i64 R.width, .int .i64 R.height, vp, vs, .bool R.falls, .bool R.keeps, ve, .int .i64 R.blocked, .int .i64 R.quiet, .int .i64 R.rept], .agg #[.slice pa CR.ps.length pc, .int .i64 CR.inc, .int .i64 CR.delay], .int .i64 now] w (NewMPost R CR now w) := by
 have HS := Lib.hid HSo
 have HIt := Lib.hid HI
 have HR := Lib.hid hr
 have HNm := Lib.hid hnm
 have HP := Lib.hid hp
 have HPc := Lib.hid (And.intro h1 h2)
 have HTab := Lib.hid ht
 clear HSo HI hr hnm hp h1 h2 ht
 go_enter Tryz.func8, Tryz.ntmps8
 go_upto_region 1 with (fail)
 refine opn2 fun w0 y0_ y1_ yb_ hs_ => ?_
 have HX0 := Lib.hid y0_
 have HX1 := Lib.hid y1_
 have HB := Lib.hid yb_
 have HW0 : Hid (w0.heap.size = w.heap.size + 2) := Lib.hid (by omega)
 clear hs_ y0_ y1_ yb_
 have HN := Lib.hid (gx.New_any R vp vs ve w0 (HR.out.below HB.out (Nat.le_refl _)) HNm.out)
 refine wp_region_lit ?_
 refine wpList_load_box (by rfl) 26 (.tmp 3) (by rfl) (w.heap.size) (by rfl) HX0.out Tryz.underlying26 (by rfl) (by kernel_rfl) ?_
 go_wp2_with fail
 refine HN.out.mono ?_
 rintro e w1 (⟨hre, rfl, hb1⟩ | ⟨hre, S, g, gp, gs, ge, vl, vm, rows, rfl, hgame, hb1⟩)
 ·have HB1 := Lib.hid (HB.out.trans (hb1.mono HB.out.size))
  have HE := Lib.hid hre
  have HNb : Hid (newBad R CR) := Lib.hid (fun hc => hre hc.1)
  have hreb : (rulesErr R != 0) = true := by simpa using hre
  generalize rulesErr R = er at *
  clear hre hb1
  go_wp2_with fail
  go_ret2
  exact .inl ⟨er, ⟨HE.out, HNb.out⟩, rfl, HB1.out⟩
 have HB1 := Lib.hid (HB.out.trans (hb1.mono HB.out.size))
 have HX01 := Lib.hid (HX0.out.stays hb1)
 have HX11 := Lib.hid (HX1.out.stays hb1)
 have HGm := Lib.hid hgame
 have HRe := Lib.hid hre
 have HSt := Lib.hid (Start_any CR pa pc now w1 (HP.out.below HB1.out) (by have := HPc.out; omega) h0 hn8)
 clear hb1 hgame hre HN
 go_upto_region 4 with (fail)
 refine wp_region_lit ?_
 refine wpList_load_box (by rfl) 29 (.tmp 4) (by rfl) (w.heap.size + 1) (by rfl) HX11.out Tryz.underlying29 (by rfl) (by kernel_rfl) ?_
 try simp only [Act.put, sAr, sZe, sSu]
 refine wpList_plain (by rfl) (fun K hK => ?_)
 go_simp
 refine hK _ _ ?_
 clear hK K
 try simp only [Act.put, sAr, sZe, sSu]
 refine wpList_plain (by rfl) (fun K hK => ?_)
 go_simp
 refine HSt.out.mono ?_
 rintro e w2 (⟨c, ⟨hcz, hnr⟩, rfl, hb2⟩ | ⟨hcg, rfl, hb2⟩)
 ·have HB2 := Lib.hid (HB1.out.trans (hb2.mono HB1.out.size))
  have HE := Lib.hid hcz
  have HNb : Hid (newBad R CR) := Lib.hid (fun hc => hnr hc.2)
  clear hnr
  have hcb : (c != 0) = true := by simpa using hcz
  clear hcz hb2
  refine hK _ _ ?_
  clear hK K
  try simp only [Act.put, sAr, sZe, sSu]
  refine wpList_plain (by rfl) (fun K hK => ?_)
  go_simp
  refine hK _ _ ?_
  clear hK K
  try simp only [Act.put, sAr, sZe, sSu]
  refine wpList_plain (by rfl) (fun K hK => ?_)
  go_simp
  refine hK _ _ ?_
  clear hK K
  try simp only [Act.put, sAr, sZe, sSu]
  refine wpList_plain (by rfl) (fun K hK => ?_)
  go_simp
  refine hK _ _ ?_
  clear hK K
  try simp only [Act.put, sAr, sZe, sSu]
  refine wpList_plain (by rfl) (fun K hK => ?_)
  go_simp
  refine hK _ _ ?_
  clear hK K
  try simp only [Act.put, sAr, sZe, sSu]
  refine wpl_world ?_
  intro w3 e3
  have HX3 : Hid (Box w3 w2.heap.size [.int .i64 0, .int .i64 0, .int .i64 0, .int .i64 0, .int .i64 0, .int .i64 0, .int .i64 0, .int .i64 0, .bool false, .int .i64 0] 44) := Lib.hid (by rw [e3]; exact Box.new' _ _ _ _ rfl)
  have HB3 : Hid (Below w.heap.size w w3) := Lib.hid (by rw [e3]; exact HB2.out.alloc HB2.out.size _)
  clear e3
  refine wpList_store_box (vs := [.int .i64 0, .int .i64 0, .int .i64 0, .int .i64 0, .int .i64 0, .int .i64 0, .int .i64 0, .int .i64 0, .bool false, .int .i64 0]) (by rfl) 44 (.tmp 10) (.tmp 24) (by rfl) w2.heap.size (by rfl) (by rfl) HX3.out (by rfl) (by kernel_rfl) (by rfl) ?_
  have HB4 := Lib.hid (below_setCells HB3.out HB2.out.size 0 [.int .i64 0, .int .i64 0, .int .i64 0, .int .i64 0, .int .i64 0, .int .i64 0, .int .i64 0, .int .i64 0, .bool false, .int .i64 0])
  generalize w3.setCells w2.heap.size 0 [.int .i64 0, .int .i64 0, .int .i64 0, .int .i64 0, .int .i64 0, .int .i64 0, .int .i64 0, .int .i64 0, .bool false, .int .i64 0] = w4 at *
  go_wp2_with fail
  go_ret2
  exact .inl ⟨c, ⟨HE.out, HNb.out⟩, rfl, HB4.out⟩
 have HB2 := Lib.hid (HB1.out.trans (hb2.mono HB1.out.size))
 have HCG := Lib.hid hcg
 have HX02 := Lib.hid (HX01.out.stays hb2)
 have HX12 := Lib.hid (HX11.out.stays hb2)
 have Hb2 := Lib.hid hb2
 clear hcg hb2 HSt
 refine hK _ _ ?_
 clear hK K
 unfold clkA
 try simp only [Act.put, sAr, sZe, sSu]
 refine wpList_plain (by rfl) (fun K hK => ?_)
 go_simp
 refine hK _ _ ?_
 clear hK K
 try simp only [Act.put, sAr, sZe, sSu]
 refine wpList_plain (by rfl) (fun K hK => ?_)
 go_simp
 refine hK _ _ ?_
 clear hK K
 try simp only [Act.put, sAr, sZe, sSu]
 refine wpList_plain (by rfl) (fun K hK => ?_)
 go_simp
 refine hK _ _ ?_
 clear hK K
 try simp only [Act.put, sAr, sZe, sSu]
 refine wpList_plain (by rfl) (fun K hK => ?_)
 go_simp
 refine hK _ _ ?_
 clear hK K
 try simp only [Act.put, sAr, sZe, sSu]
 refine wpl_world ?_
 intro w3 e3
 have HX3 : Hid (Box w3 w2.heap.size [.int .i64 0, .int .i64 0, .int .i64 0, .int .i64 0, .int .i64 0, .int .i64 0, .int .i64 0, .int .i64 0, .bool false, .int .i64 0] 44) := Lib.hid (by rw [e3]; exact Box.new' _ _ _ _ rfl)
 have Hb23 : Hid (Below w2.heap.size w2 w3) := Lib.hid (by rw [e3]; exact (Below.refl _ _).alloc (Nat.le_refl _) _)
 have Hb3 : Hid (Below w1.heap.size w1 w3) := Lib.hid (by rw [e3]; exact Hb2.out.alloc Hb2.out.size _)
 clear e3
 refine wpList_store_box (vs := [.int .i64 (startC CR now).l0, .int .i64 (startC CR now).l1, .int .i64 (startC CR now).m0, .int .i64 (startC CR now).m1, .int .i64 (startC CR now).p0, .int .i64 (startC CR now).p1, .int .i64 (startC CR now).turn, .int .i64 (startC CR now).since, .bool (startC CR now).st, .int .i64 (startC CR now).fallen]) (by rfl) 44 (.tmp 10) (.tmp 24) (by rfl) w2.heap.size (by rfl) (by rfl) HX3.out (by rfl) (by kernel_rfl) (by rfl) ?_
 have HXc := Lib.hid (HX3.out.store (vs := [.int .i64 (startC CR now).l0, .int .i64 (startC CR now).l1, .int .i64 (startC CR now).m0, .int .i64 (startC CR now).m1, .int .i64 (startC CR now).p0, .int .i64 (startC CR now).p1, .int .i64 (startC CR now).turn, .int .i64 (startC CR now).since, .bool (startC CR now).st, .int .i64 (startC CR now).fallen]) rfl)
 have Hb4 := Lib.hid (below_setCells Hb3.out Hb2.out.size 0 [.int .i64 (startC CR now).l0, .int .i64 (startC CR now).l1, .int .i64 (startC CR now).m0, .int .i64 (startC CR now).m1, .int .i64 (startC CR now).p0, .int .i64 (startC CR now).p1, .int .i64 (startC CR now).turn, .int .i64 (startC CR now).since, .bool (startC CR now).st, .int .i64 (startC CR now).fallen])
 have Hb24 : Hid (Below w2.heap.size w2 (w3.setCells w2.heap.size 0 [.int .i64 (startC CR now).l0, .int .i64 (startC CR now).l1, .int .i64 (startC CR now).m0, .int .i64 (startC CR now).m1, .int .i64 (startC CR now).p0, .int .i64 (startC CR now).p1, .int .i64 (startC CR now).turn, .int .i64 (startC CR now).since, .bool (startC CR now).st, .int .i64 (startC CR now).fallen])) := Lib.hid (below_setCells Hb23.out (Nat.le_refl _) 0 [.int .i64 (startC CR now).l0, .int .i64 (startC CR now).l1, .int .i64 (startC CR now).m0, .int .i64 (startC CR now).m1, .int .i64 (startC CR now).p0, .int .i64 (startC CR now).p1, .int .i64 (startC CR now).turn, .int .i64 (startC CR now).since, .bool (startC CR now).st, .int .i64 (startC CR now).fallen])
 generalize w3.setCells w2.heap.size 0 [.int .i64 (startC CR now).l0, .int .i64 (startC CR now).l1, .int .i64 (startC CR now).m0, .int .i64 (startC CR now).m1, .int .i64 (startC CR now).p0, .int .i64 (startC CR now).p1, .int .i64 (startC CR now).turn, .int .i64 (startC CR now).since, .bool (startC CR now).st, .int .i64 (startC CR now).fallen] = w4 at *
 have HX04 := Lib.hid (HX02.out.stays Hb24.out)
 have HX14 := Lib.hid (HX12.out.stays Hb24.out)
 go_upto_region 7 with (fail)
 have HB4 := Lib.hid (HB1.out.trans (Hb4.out.mono HB1.out.size))
 have hrk := rok_of HRe.out
 have hl1 : R.pieces.length ≤ 1000 := by have := hrk.np; omega
 have hl2 : R.start.length ≤ 1000 := by have := startLen HRe.out; omega
 have hl3 : R.ends.length ≤ 1000 := by have := hrk.en; omega
 have HWL : Hid (∀ i, i < R.pieces.length → (R.pieces.getD i default).ways.length ≤ 1000) := Lib.hid (fun i hi => by have := (hrk.pc i hi).2.2.1; omega)
 have Bz : Box w4.drew w.heap.size [.string R.name, .int .i64 R.width, .int .i64 R.height, vp, vs, .bool R.falls, .bool R.keeps, ve, .int .i64 R.blocked, .int .i64 R.quiet, .int .i64 R.rept] 26 := HX04.out.drew
 have Cz : Box w4.drew (w.heap.size + 1) [.slice pa CR.ps.length pc, .int .i64 CR.inc, .int .i64 CR.delay] 29 := HX14.out.drew
 have Lz : Below w4.drew.heap.size w4.drew w4.drew := Below.refl _ _
 refine wp_region_noPanic ?_
 refine beginL (S := (fun w' => w'.cell? ⟨w.heap.size, 0, none⟩ = some (.string R.name) ∧ w'.cell? ⟨w.heap.size, 1, none⟩ = some (.int .i64 R.width) ∧ w'.cell? ⟨w.heap.size, 2, none⟩ = some (.int .i64 R.height) ∧ w'.cell? ⟨w.heap.size, 3, none⟩ = some vp ∧ w'.cell? ⟨w.heap.size, 4, none⟩ = some vs ∧ w'.cell? ⟨w.heap.size, 5, none⟩ = some (.bool R.falls) ∧ w'.cell? ⟨w.heap.size, 6, none⟩ = some (.bool R.keeps) ∧ w'.cell? ⟨w.heap.size, 7, none⟩ = some ve ∧ w'.cell? ⟨w.heap.size, 8, none⟩ = some (.int .i64 R.blocked) ∧ w'.cell? ⟨w.heap.size, 9, none⟩ = some (.int .i64 R.quiet) ∧ w'.cell? ⟨w.heap.size, 10, none⟩ = some (.int .i64 R.rept) ∧ w'.cell? ⟨w.heap.size + 1, 0, none⟩ = some (.slice pa CR.ps.length pc) ∧ w'.cell? ⟨w.heap.size + 1, 1, none⟩ = some (.int .i64 CR.inc) ∧ w'.cell? ⟨w.heap.size + 1, 2, none⟩ = some (.int .i64 CR.delay))) (L := []) (by kernel_rfl) (by and_intros <;> first | exact Bz.cell _ rfl | exact Cz.cell _ rfl) (fun hHeld => ?_)
 refine tkL 0 ?_
 refine tkL 2 ?_
 refine tkW 4 ?_
 refine tkW 5 ?_
 refine cnL 1 fun K hK => ?_
 go_simp
 refine (RCopy_any R vp vs ve w4.drew (HR.out.below HB4.out.drew (Nat.le_refl _)) hl1 hl2 hl3 HWL.out).mono ?_
 rintro e wa ⟨up, us, ue, rfl, hseen, hbb⟩
 have HSeen := Lib.hid hseen
 have Hba := Lib.hid hbb
 have B1 := Bz.stays hbb
 have C1 := Cz.stays hbb
 have L1 := below_trans Lz hbb Lz.size
 clear hbb hseen
 refine hK.out _ _ (by and_intros <;> first | exact B1.cell _ rfl | exact C1.cell _ rfl) (fun hHeld => ?_)
 clear hK K
 refine cnL 3 fun K hK => ?_
 go_simp
 refine (CopyC_any CR pa pc wa (HP.out.below (HB4.out.drew.trans (Hba.out.mono HB4.out.drew.size))) HPc.out.1 HPc.out.2 (by have := HCG.out.n; omega)).mono ?_
 rintro e wb ⟨pa', pc', vs', rfl, hown, hrd, hbb⟩
 have HOw := Lib.hid hown
 have HRl := Lib.hid hrd
 have Hbb' := Lib.hid hbb
 have hpc' : CR.ps.length ≤ pc' ∧ pc' ≤ maxLen := by obtain ⟨a9, c9, e9, q1, q2⟩ := hrd.form; simp only [Value.slice.injEq, true_and] at e9; omega
 have HPc' := Lib.hid hpc'
 have B3 := B1.stays hbb
 have C3 := C1.stays hbb
 have L3 := below_trans L1 hbb L1.size
 clear hbb hown hrd hpc'
 refine hK.out _ _ (by and_intros <;> first | exact B3.cell _ rfl | exact C3.cell _ rfl) (fun hHeld => ?_)
 clear hK K
 refine tkW 6 ?_
 refine cnL 7 fun K hK => ?_
 go_simp
 refine K_world ?_
 intro wc ec
 have hbb : Below wb.heap.size wb wc := by rw [ec]; exact (Below.refl _ _).alloc (Nat.le_refl _) _
 have HXm := Lib.hid (show Box wc wb.heap.size _ 78 by rw [ec]; exact Box.new' _ _ _ _ rfl)
 have Hbc := Lib.hid hbb
 have B7 := B3.stays hbb
 have C7 := C3.stays hbb
 have L7 := below_trans L3 hbb L3.size
 clear hbb ec
 refine hK.out _ _ (by and_intros <;> first | exact B7.cell _ rfl | exact C7.cell _ rfl) (fun hHeld => ?_)
 clear hK K
 refine tkW 8 ?_
 refine dnN ?_
 go_upto_region 8 with (fail)
 have hs1 := Hb4.out.size
 have hs2 : w4.heap.size ≤ wa.heap.size := Hba.out.size
 have hs3 := Hbb'.out.size
 have hs4 := Hbc.out.size
 have hbm := HXm.out.lt
 have H1c : Hid (Below w1.heap.size w1 wc) := Lib.hid ((Hb4.out.drew.trans (Hba.out.mono hs1)).trans ((Hbb'.out.mono (by omega)).trans (Hbc.out.mono (by omega))))
 have hSlt : ∀ k, S k → k < w1.heap.size := fun k hk => ((HGm.out (fun _ => False) (fun _ h => h.elim)).lo k hk).2
 have hSlo : ∀ k, S k → w0.heap.size ≤ k := fun k hk => ((HGm.out (fun _ => False) (fun _ h => h.elim)).lo k hk).1
 have HMa : Hid (MatchAt S w0.heap.size wc wb.heap.size ⟨R, CR, [], 0, 0, ⟨0, 0, 0, 0, 0, 0, 0, 0, false, 0⟩, ⟨0, 0, 0, 0, 0, 0⟩, [], now, []⟩ ⟨up, us, ue, pa', pc', g, .slice none 0 0, .slice none 0 0⟩) := Lib.hid ⟨HXm.out, fun hk => by have := hSlt _ hk; omega, by have := HB1.out.size; have := HW0.out; have := (HGm.out (fun _ => False) (fun _ h => h.elim)); have := hSlo _ this.sb; have := hSlt _ (HGm.out (fun _ => False) (fun _ h => h.elim)).sb; omega,
  ⟨_, _, _, _, _, _, (HGm.out (one1 wb.heap.size) (fun k hk => by rw [show k = wb.heap.size from hk]; omega)).below H1c.out⟩, fun w' hw => by
   have hfar : ∀ k, w4.heap.size ≤ k → k < wb.heap.size → w'.heap[k]? = wb.heap[k]? := fun k hk1 hk2 => by
    rw [hw.block k (by omega) (fun h => by rcases h with h | h; exact absurd (hSlt k h) (by omega); exact absurd (show k = wb.heap.size from h) (by omega)), Hbc.out.block k hk2]
   refine ⟨HSeen.out w' (fun k hk1 hk2 => ?_), ⟨rfl, fun hn => ?_⟩, HPc'.out, RdL.nil _ _, Rd.nil _ _⟩
   ·rw [hfar k hk1 (by omega), Hbb'.out.block k hk2]
   ·obtain ⟨b', off, hA, hlt, hc⟩ := (rdl_per HRl.out).2 hn
    subst hA
    have hbl := HOw.out.lt b' rfl
    have he := hfar b' (by omega) hbl.2
    refine ⟨b', off, rfl, by have := hw.size; omega, fun k hk => ?_⟩
    rw [World.cell?_of_block (w := wb) (a := ⟨b', off + k * 2, none⟩) he, World.cell?_of_block (w := wb) (a := ⟨b', off + k * 2 + 1, none⟩) he]
    exact hc k hk⟩
 have H4c : Hid (Below w4.heap.size w4 wc) := Lib.hid (((Below.refl w4.heap.size w4).drew.trans (Hba.out.mono (Nat.le_refl _))).trans ((Hbb'.out.mono (by omega)).trans (Hbc.out.mono (by omega))))
 have Kz : Box wc.drew w2.heap.size [.int .i64 (startC CR now).l0, .int .i64 (startC CR now).l1, .int .i64 (startC CR now).m0, .int .i64 (startC CR now).m1, .int .i64 (startC CR now).p0, .int .i64 (startC CR now).p1, .int .i64 (startC CR now).turn, .int .i64 (startC CR now).since, .bool (startC CR now).st, .int .i64 (startC CR now).fallen] 44 := (HXc.out.stays H4c.out).drew
 have Mz := HMa.out.below ((Below.refl wc.heap.size wc).drew)
 refine wp_region_noPanic ?_
 refine beginL (S := (fun w' => w'.cell? ⟨w2.heap.size, 0, none⟩ = some (.int .i64 (startC CR now).l0) ∧ w'.cell? ⟨w2.heap.size, 1, none⟩ = some (.int .i64 (startC CR now).l1) ∧ w'.cell? ⟨w2.heap.size, 2, none⟩ = some (.int .i64 (startC CR now).m0) ∧ w'.cell? ⟨w2.heap.size, 3, none⟩ = some (.int .i64 (startC CR now).m1) ∧ w'.cell? ⟨w2.heap.size, 4, none⟩ = some (.int .i64 (startC CR now).p0) ∧ w'.cell? ⟨w2.heap.size, 5, none⟩ = some (.int .i64 (startC CR now).p1) ∧ w'.cell? ⟨w2.heap.size, 6, none⟩ = some (.int .i64 (startC CR now).turn) ∧ w'.cell? ⟨w2.heap.size, 7, none⟩ = some (.int .i64 (startC CR now).since) ∧ w'.cell? ⟨w2.heap.size, 8, none⟩ = some (.bool (startC CR now).st) ∧ w'.cell? ⟨w2.heap.size, 9, none⟩ = some (.int .i64 (startC CR now).fallen))) (L := [6]) (by kernel_rfl) (by and_intros <;> exact Kz.cell _ rfl) (fun hHeld => ?_)
 refine tkW 0 ?_
 refine tkL 1 ?_
 refine cnL 2 fun K hK => ?_
 go_simp
 refine (offNew_any wc.drew).mono ?_
 rintro e wd ⟨rfl, hbb⟩
 unfold offA
 have K2 := Kz.stays hbb
 have M2 := Mz.below hbb
 have Hcd := Lib.hid (show Below wc.heap.size wc wd from ((Below.refl wc.heap.size wc).drew).trans hbb)
 clear hbb
 refine hK.out _ _ (by and_intros <;> exact K2.cell _ rfl) (fun hHeld => ?_)
 clear hK K
 refine tkW 3 ?_
 refine tkW 4 ?_
 refine tkW 5 ?_
 refine ltL 6 fun K hK => ?_
 rw [if_pos (by rfl)]
 refine wp_store_mid 50 (.tmp 42) (.tmp 40) (by rfl) wb.heap.size 15 #[.slice none 0 0, .int .i64 0, .int .i64 0, .int .i64 (startC CR now).l0, .int .i64 (startC CR now).l1, .int .i64 (startC CR now).m0, .int .i64 (startC CR now).m1, .int .i64 (startC CR now).p0, .int .i64 (startC CR now).p1, .int .i64 (startC CR now).turn, .int .i64 (startC CR now).since, .bool (startC CR now).st, .int .i64 (startC CR now).fallen, .int .i64 newO.b0, .int .i64 newO.b1, .int .i64 newO.l00, .int .i64 newO.l01, .int .i64 newO.l10, .int .i64 newO.l11, .slice none 0 0] (by rfl) (by rfl) (M2.box.has 15 20 (by simp [matV])) (by kernel_rfl) (by simp [Value.oneCell']) ?_
 refine K_world ?_
 intro we ee
 have P6 := M2.put (M' := ⟨R, CR, [], 0, 0, startC CR now, newO, [], now, []⟩) (B' := ⟨up, us, ue, pa', pc', g, .slice none 0 0, .slice none 0 0⟩) 15 [.slice none 0 0, .int .i64 0, .int .i64 0, .int .i64 (startC CR now).l0, .int .i64 (startC CR now).l1, .int .i64 (startC CR now).m0, .int .i64 (startC CR now).m1, .int .i64 (startC CR now).p0, .int .i64 (startC CR now).p1, .int .i64 (startC CR now).turn, .int .i64 (startC CR now).since, .bool (startC CR now).st, .int .i64 (startC CR now).fallen, .int .i64 newO.b0, .int .i64 newO.b1, .int .i64 newO.l00, .int .i64 newO.l01, .int .i64 newO.l10, .int .i64 newO.l11, .slice none 0 0] (by simp) rfl rfl rfl rfl (M2.rd.imp (fun _ h => ⟨h.rd, h.per, h.pc, h.pr, h.jr⟩))
 have HMe : Hid (MatchAt S w0.heap.size we wb.heap.size ⟨R, CR, [], 0, 0, startC CR now, newO, [], now, []⟩ ⟨up, us, ue, pa', pc', g, .slice none 0 0, .slice none 0 0⟩) := Lib.hid (by rw [ee]; exact P6.1)
 have HFe : Hid (MFr S wb.heap.size wd we) := Lib.hid (by rw [ee]; exact P6.2)
 clear P6 ee
 refine hK.out _ _ ?_
 clear hK K
 refine dnN ?_
 go_upto_region 9 with (fail)
 have HBe : Hid (Below w.heap.size w we) := Lib.hid (by
  have q1 : Below w.heap.size w wd := (HB4.out.trans (H4c.out.mono HB4.out.size)).trans (Hcd.out.mono (by have := H4c.out.size; have := HB4.out.size; omega))
  have q2 := MFr.base M2 HFe.out (by have := HW0.out; have := H1c.out.size; have := Hcd.out.size; have := hSlt _ (HGm.out (fun _ => False) (fun _ h => h.elim)).sb; have := hSlo _ (HGm.out (fun _ => False) (fun _ h => h.elim)).sb; omega)
  exact q1.trans (q2.mono (by have := HW0.out; omega)))
 have HTe := Lib.hid (HTab.out.below HBe.out)
 have HMe2 := HMe
 clear Mz Kz K2 M2 HMa
 go_wp2_with fail
 refine (HIt.out now we (by omega) (by omega) HTe.out.1).mono ?_
 rintro e wf ⟨rfl, hbf⟩
 obtain ⟨it, hit⟩ : ∃ it : ByteArray, it = ⟨(Lib.itoa now).toArray⟩ := ⟨_, rfl⟩
 have hit20 : it.size ≤ 20 := by rw [hit]; show (Lib.itoa now).toArray.size ≤ 20; rw [List.size_toArray]; exact ito_len now (by omega) (by omega)
 have hst6 : (⟨#[115, 116, 97, 114, 116, 32]⟩ : ByteArray).size = 6 := rfl
 have HCat : Hid ((⟨#[115, 116, 97, 114, 116, 32]⟩ : ByteArray) ++ it = startT now) := Lib.hid (by rw [hit]; unfold startT; apply ByteArray.ext; rw [ByteArray.data_append]; simp)
 rw [← hit]
 clear hit
 go_wp2_with fail
 rw [HCat.out]
 have HTx := Lib.hid (start_text now (by omega) (by omega))
 have hJ : appJ [] (startT now) = ([entOf [] (startT now)], 0) := by unfold appJ; rw [if_neg (by rw [HTx.out.1]; simp)]; rfl
 have hap := Append_ok (.slice none 0 0) [] (startT now) wf (Rd.nil _ _) ⟨by simp, fun k h => by cases h⟩ (by simp) (by have := HTx.out.2; omega)
 rw [hJ] at hap
 refine hap.mono ?_
 rintro e wg ⟨vj, rfl, hoj, hbg⟩
 obtain ⟨ja, jc, hvj⟩ := own_form2 hoj
 subst hvj
 have hbeg : Below we.heap.size we wg := hbf.trans (hbg.mono hbf.size)
 have Mg := HMe.out.below hbeg
 have hjb : ∀ k, (Value.slice ja 1 jc).ownBlock = some k → wf.heap.size ≤ k ∧ k < wg.heap.size := fun k hk => hoj.lt k hk
 have hsb : wb.heap.size < wf.heap.size := by have := HMe.out.box.lt; have := hbf.size; omega
 have P9 := Mg.put (M' := ⟨R, CR, [], 0, 0, startC CR now, newO, [], now, [entOf [] (startT now)]⟩) (B' := ⟨up, us, ue, pa', pc', g, .slice none 0 0, .slice ja 1 jc⟩) 36 [.slice ja 1 jc] (by simp) rfl rfl rfl rfl (fun w' hw => by
  have ho := Mg.rd w' hw
  exact ⟨ho.rd, ho.per, ho.pc, ho.pr, Rd.of_own (own_block hoj (fun k hk => hw.block k (hjb k hk).2 (fun h => by
   have := (hjb k hk).1
   rcases h with h | h
   ·have := hSlt k h; have := H1c.out.size; have := Hcd.out.size; have := HFe.out.size; have := hbf.size; omega
   ·rw [show k = wb.heap.size from h] at this; omega)))⟩)
 have HM9 : Hid (MatchAt S w0.heap.size (wg.setCell ⟨wb.heap.size, 36, none⟩ (.slice ja 1 jc)) wb.heap.size ⟨R, CR, [], 0, 0, startC CR now, newO, [], now, [entOf [] (startT now)]⟩ ⟨up, us, ue, pa', pc', g, .slice none 0 0, .slice ja 1 jc⟩) := Lib.hid P9.1
 have c36 := Mg.box.cell 36 rfl
 have f36 := Mg.box.frozen 36
 have HB9 : Hid (Below w.heap.size w (wg.setCell ⟨wb.heap.size, 36, none⟩ (.slice ja 1 jc))) := Lib.hid ((HBe.out.trans (hbeg.mono HBe.out.size)).setCell (by have := HM9.out.lo; have := HW0.out; show w.heap.size ≤ wb.heap.size; omega) _)
 clear P9 Mg hoj hbg hbf hbeg hap hJ
 go_upto_region 10 with (fail)
 generalize wg.setCell ⟨wb.heap.size, 36, none⟩ (.slice ja 1 jc) = w9 at *
 have hs9 : w0.heap.size ≤ w9.heap.size := by have := HM9.out.box.lt; have := HM9.out.lo; omega
 go_wp2_with fail
 refine (over_any HS.out w9 HM9.out).mono ?_
 rintro e wh ⟨rfl, S', B', hMh, hsh, hFh⟩
 have HMh := Lib.hid hMh
 have HBh : Hid (Below w.heap.size w wh) := Lib.hid (HB9.out.trans ((MFr.base HM9.out hFh hs9).mono (by have := HW0.out; omega)))
 have HSh := Lib.hid (Nat.le_trans hs9 hFh.size)
 clear hMh hsh hFh
 go_wp2_with fail
 go_ret2
 exact .inr ⟨HRe.out, HCG.out, _, S', _, B', rfl, HMh.out, by have := HW0.out; omega, HSh.out, HBh.out⟩
end Go.Proofs.YtnodagljaoonjaaGreatDoor
namespace Go.Proofs.YtnodagljaoonjaaGreatDoor
open Go.ChangeShapes Go.WideShapes Go.ChangeAt Go.RowKit
set_option linter.unusedVariables false
def oneEv : EvZ := ⟨0, 0, 0, 10, ⟨-1, 4, 0⟩⟩
theorem one_in : oneEv.m ∈ listZ ticZ (beginZ ticZ) := list_mem.2 (by decide +kernel)
theorem res_open (p : PosZ) (m : MoveZ) (h1 : ¬ 0 ≤ idxL (fun x => holdsZ ticZ p x (1 - p.turn)) ticZ.ends 0) (h2 : ¬ (ticZ.quiet ≠ 0 ∧ ticZ.quiet ≤ p.quiet)) (hm : m ∈ rawZ ticZ p) : resultZ ticZ p = 0 := by
 unfold resultZ
 rw [if_neg h1, if_neg h2, if_pos (List.length_pos_of_mem (list_mem.2 hm))]
theorem one_res : resultZ ticZ (nowZ ticZ []) = 0 := res_open _ oneEv.m (by decide +kernel) (by decide +kernel) (by decide +kernel)
theorem game_of {ms : List MoveZ} (h : resultZ ticZ (nowZ ticZ ms) = 0) : gameRes ticZ ms = 0 := by
 unfold gameRes
 rw [if_neg (fun hc => hc.2.1 rfl), h]
theorem one_new : newM ticZ minCR 0 = ⟨ticZ, minCR, [], 0, 0, startC minCR 0, newO, [], 0, [entOf [] (startT 0)]⟩ := by
 unfold newM MatZ.over
 rw [if_neg (fun hc => hc.1 (game_of one_res))]
theorem one_clk : (pressC minCR (startC minCR 0) 10).l0 = 60990 := by decide +kernel
theorem one_pre : (newM ticZ minCR 0).preE oneEv = 0 := by
 rw [one_new]
 unfold MatZ.preE
 rw [if_neg (by decide +kernel), if_neg (by decide +kernel), if_neg (by decide +kernel), if_neg (by show ¬ (1 = 1000); decide), if_neg (by decide +kernel)]
theorem one_kind : (newM ticZ minCR 0).kind oneEv = (MatZ.runs 10 400 ((newM ticZ minCR 0).move oneEv.m 10), 0) := by
 rw [one_new]
 unfold MatZ.kind
 rw [if_pos (show oneEv.kind = 0 from rfl)]
 unfold MatZ.doMove
 rw [if_neg (by decide +kernel), if_neg (by show ¬¬ oneEv.m ∈ movesZ ticZ (nowZ ticZ []); unfold movesZ; rw [if_pos one_res]; exact fun hc => hc one_in), if_neg (by show ¬ (0 = 400); decide)]
 rfl
theorem one_runs (M : MatZ) (h : M.prem = []) : (MatZ.runs 10 400 M).ms = M.ms ∧ (MatZ.runs 10 400 M).clk = M.clk ∧ (MatZ.runs 10 400 M).R = M.R := by
 rw [MatZ.runs]
 split
 ·rw [if_neg (by rw [h]; unfold nextOk; rw [show nextIx M.pos [] = -1 from rfl]; simp)]
  exact ⟨rfl, rfl, rfl⟩
 ·exact ⟨rfl, rfl, rfl⟩
theorem over_ms (M : MatZ) : M.over.ms = M.ms ∧ M.over.clk = M.clk := by
 unfold MatZ.over
 split
 ·exact ⟨rfl, rfl⟩
 ·exact ⟨rfl, rfl⟩
theorem plays_go : ((newM ticZ minCR 0).go oneEv).2 = 0 ∧ ((newM ticZ minCR 0).go oneEv).1.ms.length = 1 ∧ ((newM ticZ minCR 0).go oneEv).1.clk.l0 = 60990 := by
 unfold MatZ.go
 rw [one_pre, one_kind, if_neg (show ¬ (0 : Int) ≠ 0 from fun hc => hc rfl), if_neg (show ¬ (0 : Int) ≠ 0 from fun hc => hc rfl)]
 have hp : ((newM ticZ minCR 0).move oneEv.m 10).prem = [] := by rw [one_new]; rfl
 have hr := one_runs _ hp
 have hm : ((newM ticZ minCR 0).move oneEv.m 10).ms = [oneEv.m] := by rw [one_new]; rfl
 have hc : ((newM ticZ minCR 0).move oneEv.m 10).clk = pressC minCR (startC minCR 0) 10 := by rw [one_new]; rfl
 refine ⟨rfl, ?_, ?_⟩
 ·show (MatZ.over (MatZ.put (MatZ.runs 10 400 ((newM ticZ minCR 0).move oneEv.m 10)) oneEv)).ms.length = 1
  rw [(over_ms _).1]
  show (MatZ.runs 10 400 ((newM ticZ minCR 0).move oneEv.m 10)).ms.length = 1
  rw [hr.1, hm]
  rfl
 ·show (MatZ.over (MatZ.put (MatZ.runs 10 400 ((newM ticZ minCR 0).move oneEv.m 10)) oneEv)).clk.l0 = 60990
  rw [(over_ms _).2]
  show (MatZ.runs 10 400 ((newM ticZ minCR 0).move oneEv.m 10)).clk.l0 = 60990
  rw [hr.2.1, hc]
  exact one_clk
end Go.Proofs.YtnodagljaoonjaaGreatDoor
namespace Go.Proofs.YtnodagljaoonjaaGreatDoor
open Go.ChangeShapes Go.WideShapes Go.ChangeAt Go.RowKit
set_option linter.unusedVariables false
theorem go_bad (M : MatZ) (e : EvZ) (h : (M.go e).2 ≠ 0) : (M.go e).1 = M := by
  revert h; unfold MatZ.go
  split
  · intro _; rfl
  split
  · intro _; rfl
  · intro h; exact absurd rfl h
theorem over_jr (M : MatZ) : M.over.jr = M.jr ∧ M.over.last = M.last ∧ M.over.R = M.R ∧ M.over.CR = M.CR ∧ M.over.off = M.off ∧ M.over.prem = M.prem := by
  unfold MatZ.over
  split <;> exact ⟨rfl, rfl, rfl, rfl, rfl, rfl⟩
theorem over_go (M : MatZ) (h : M.over.res = 0) : M.over.game = 0 ∧ M.res = 0 := by
  revert h; unfold MatZ.over
  split
  · intro h; rename_i hc; exact absurd h hc.1
  · intro h; rename_i hc
    refine ⟨Decidable.byContradiction fun hg => hc ⟨hg, h⟩, h⟩
theorem go_len (M : MatZ) (e : EvZ) (h : (M.go e).2 = 0) : (M.go e).1.jr.length = M.jr.length + 1 := by
  revert h; unfold MatZ.go
  split
  · intro h; rename_i hc; exact absurd h hc
  split
  · intro h; rename_i hc; exact absurd h hc
  · intro _
    show (MatZ.over (MatZ.put (M.kind e).1 e)).jr.length = _
    rw [(over_jr _).1]
    show ((M.kind e).1.jr ++ [_]).length = _
    rw [(kind_keep M e).1, List.length_append]; rfl
theorem MInv.over {M : MatZ} (nm : M.R.name.size ≤ maxLen) (cr : CrG M.CR) (ck : ClkG M.CR M.clk) (st : M.clk.st = false) (fl : M.res = 0 → M.clk.fallen < 0) (sn : M.clk.since ≤ M.last) (la : 0 ≤ M.last ∧ M.last ≤ 100000000) (og : OffG M.off) (pr : PremG M.prem) (jo : OkJ M.jr) : MInv M.over := by
  obtain ⟨j1, j2, j3, j4, j5, j6⟩ := over_jr M
  have jc := (over_ms M).2
  refine ⟨by rw [j3]; exact nm, by rw [j4]; exact cr, by rw [j4, jc]; exact ck, by rw [jc]; exact st, fun h => ?_, by rw [jc, j2]; exact sn, by rw [j2]; exact la, by rw [j5]; exact og, by rw [j6]; exact pr, by rw [j1]; exact jo, fun h => (over_go M h).1⟩
  rw [jc]; exact fl (over_go M h).2
theorem start_ck {CR : CrZ} (h : CrG CR) {now : Int} (h0 : 0 ≤ now) (h1 : now ≤ 100000000) : ClkG CR (startC CR now) := by
  have hn := h.n
  have ht := h.pt 0 (by omega)
  have hl : 0 ≤ (CR.ps.getD 0 (0, 0)).2 ∧ (CR.ps.getD 0 (0, 0)).2 ≤ 100000000000 := by omega
  exact ⟨⟨Int.le_refl _, by show (0 : Int) ≤ 1; decide⟩, ⟨Int.le_refl _, by show (-1 : Int) ≤ 1; decide⟩, ⟨h0, h1⟩, ⟨Int.le_refl _, by show (0 : Int) ≤ _; omega⟩, ⟨Int.le_refl _, by show (0 : Int) ≤ 400; decide⟩, hl, ⟨Int.le_refl _, by show (0 : Int) ≤ _; omega⟩, ⟨Int.le_refl _, by show (0 : Int) ≤ 400; decide⟩, hl⟩
theorem MInv_new (R : RulesZ) (CR : CrZ) (now : Int) (hn : R.name.size ≤ maxLen) (h : CrG CR) (h0 : 0 ≤ now) (h1 : now ≤ 100000000) : MInv (newM R CR now) := by
  unfold newM
  exact MInv.over hn h (start_ck h h0 h1) rfl (fun _ => by show (-1 : Int) < 0; decide) (Int.le_refl _) ⟨h0, h1⟩ new_og ⟨Nat.zero_le _, Nat.zero_le _, by simp⟩ (OkJ_snoc (es := []) OkJ_nil (start_text now (by omega) (by omega)).1)
theorem Mid.runs (now : Int) : ∀ (f : Nat) (M : MatZ), Mid M now → Mid (MatZ.runs now f M) now ∧ (MatZ.runs now f M).jr = M.jr ∧ (MatZ.runs now f M).res = M.res
  | 0, M, h => ⟨h, rfl, rfl⟩
  | f + 1, M, h => by
    rw [MatZ.runs]
    split
    · split
      · obtain ⟨a, b, c⟩ := Mid.runs now f _ (h.rest.move (nextMv M.R M.pos M.prem))
        exact ⟨a, b, c⟩
      · exact ⟨h.rest, rfl, rfl⟩
    · exact ⟨h, rfl, rfl⟩
theorem now_turn (R : RulesZ) (ms : List MoveZ) : 0 ≤ (nowZ R ms).turn ∧ (nowZ R ms).turn ≤ 1 := by
  have key : ∀ (l : List MoveZ) (p : PosZ), (0 ≤ p.turn ∧ p.turn ≤ 1) → 0 ≤ (l.foldl (makeZ R) p).turn ∧ (l.foldl (makeZ R) p).turn ≤ 1 := by
    intro l
    induction l with
    | nil => intro p h; exact h
    | cons x l ih =>
      intro p h
      refine ih _ ?_
      show 0 ≤ 1 - p.turn ∧ 1 - p.turn ≤ 1
      omega
  exact key ms (beginZ R) ⟨Int.le_refl _, by show (0 : Int) ≤ 1; decide⟩
/-- what an event leaves, ahead of the journal. -/
structure KG (M : MatZ) (now : Int) : Prop where
  ck : ClkG M.CR M.clk
  st : M.clk.st = false
  fl : M.res = 0 → M.clk.fallen < 0
  sn : M.clk.since ≤ now
  og : OffG M.off
  pr : PremG M.prem
theorem Mid.kg {M : MatZ} {now : Int} (h : Mid M now) : KG M now := ⟨h.ck, h.st, fun _ => h.fl, h.sn, h.og, h.pr⟩
theorem KG.back {M : MatZ} {now : Int} (h : KG M now) (k : Nat) (h0 : 0 ≤ now) (h1 : now ≤ 100000000) (hr : M.res = 0) : KG (M.backTo k now) now := by
  have ht := now_turn M.R (M.ms.take (M.ms.length - k))
  exact ⟨⟨ht, h.ck.f, ⟨h0, h1⟩, h.ck.p0, h.ck.m0, h.ck.l0, h.ck.p1, h.ck.m1, h.ck.l1⟩, h.st, fun _ => h.fl hr, Int.le_refl _, back_og (accept_og h.og) _, ⟨Nat.zero_le _, Nat.zero_le _, fun x hx => by cases hx⟩⟩
theorem fallen_ne (R : RulesZ) (p : PosZ) (x : Int) (h : x ≤ 1) : fallenZ R p x ≠ 0 := by
  unfold fallenZ
  split <;> omega
theorem kind_kg {M : MatZ} {e : EvZ} (h : MInv M) (hp : M.preE e = 0) (hl : M.ms.length ≤ 400) (hk : (M.kind e).2 = 0) : KG (M.kind e).1 e.now := by
  obtain ⟨h1, h2, h3, h4, h5, h6⟩ := pre_zero hp
  have hm := (inv_pre h hp).mid
  have h0 : KG M e.now := ⟨h.ck, h.st, h.fl, by have := h.sn; omega, h.og, h.pr⟩
  have hn0 : 0 ≤ e.now := by have := h.la; omega
  revert hk
  unfold MatZ.kind
  split
  · rename_i hk0
    unfold MatZ.doMove
    split
    · intro h; dsimp only at h; omega
    split
    · intro h; dsimp only at h; omega
    split
    · intro h; dsimp only at h; omega
    · intro _; exact (Mid.runs e.now 400 _ ((hm hk0).move e.m)).1.kg
  split
  · unfold MatZ.doOffer
    split
    · split
      · intro h; rename_i hc; exact absurd h hc
      · intro _; exact ⟨h0.ck, h0.st, h0.fl, h0.sn, decline_og h0.og _, h0.pr⟩
    · split
      · intro h; rename_i hc; exact absurd h hc
      · intro _; exact ⟨h0.ck, h0.st, h0.fl, h0.sn, make_og h0.og _ _ _ hl, h0.pr⟩
  split
  · unfold MatZ.doAccept
    split
    · intro h; rename_i hc; exact absurd h hc
    split
    · intro _; exact ⟨h0.ck, h0.st, fun _ => h0.fl h4, h0.sn, accept_og h0.og, h0.pr⟩
    · intro _; exact h0.back _ hn0 h3.2 h4
  split
  · unfold MatZ.doClaim
    split
    · split
      · intro h; dsimp only at h; omega
      · intro _
        have lg := look_g h0.ck e.now
        refine ⟨lg, ?_, fun hr => absurd hr (fallen_ne _ _ _ lg.f.2), ?_, h0.og, h0.pr⟩
        · show (lookC M.CR M.clk e.now).st = false; rw [(look_rest _ _ _).2]; exact h0.st
        · show (lookC M.CR M.clk e.now).since ≤ e.now; rw [(look_rest _ _ _).1]; exact h0.sn
    split
    · intro h; dsimp only at h; omega
    split
    · intro h; dsimp only at h; omega
    split
    · intro h; dsimp only at h; omega
    · intro _; exact ⟨h0.ck, h0.st, fun _ => h0.fl h4, h0.sn, h0.og, h0.pr⟩
  split
  · unfold MatZ.doPremove
    split
    · intro h; dsimp only at h; omega
    split
    · intro h; dsimp only at h; omega
    · rename_i hc; intro _; exact ⟨h0.ck, h0.st, h0.fl, h0.sn, h0.og, h0.pr.add _ _ h2 hc⟩
  · intro _; exact ⟨h0.ck, h0.st, fun _ => h0.fl h4, h0.sn, h0.og, h0.pr⟩
theorem MInv_go {M : MatZ} {e : EvZ} (h : MInv M) (hl : M.ms.length ≤ 400) (hok : evOk e) : MInv (M.go e).1 := by
  by_cases hz : (M.go e).2 = 0
  · revert hz
    unfold MatZ.go
    split
    · intro h; rename_i hc; exact absurd h hc
    split
    · intro h; rename_i hc; exact absurd h hc
    · rename_i hp hk
      intro _
      have hp0 : M.preE e = 0 := Decidable.byContradiction hp
      have hk0 : (M.kind e).2 = 0 := Decidable.byContradiction hk
      obtain ⟨h1, h2, h3, h4, h5, h6⟩ := pre_zero hp0
      have k := kind_kg h hp0 hl hk0
      obtain ⟨q1, q2, q3⟩ := kind_keep M e
      refine MInv.over (M := (M.kind e).1.put e) ?_ ?_ k.ck k.st k.fl k.sn ⟨by have := h.la; show 0 ≤ e.now; omega, h3.2⟩ k.og k.pr ?_
      · show (M.kind e).1.R.name.size ≤ maxLen; rw [q2]; exact h.nm
      · show CrG (M.kind e).1.CR; rw [q3]; exact h.cr
      · show OkJ ((M.kind e).1.jr ++ [entOf (M.kind e).1.jr (entryT e)])
        rw [q1]
        exact OkJ_snoc h.jo (entry_ok hok)
  · rw [go_bad M e hz]; exact h
theorem runs_ms (now : Int) : ∀ (f : Nat) (M : MatZ), M.ms.length ≤ 400 → (MatZ.runs now f M).ms.length ≤ 400
  | 0, M, h => h
  | f + 1, M, h => by
    rw [MatZ.runs]
    split
    · rename_i hc
      split
      · refine runs_ms now f _ ?_
        show (M.ms ++ [_]).length ≤ 400
        rw [List.length_append]
        have h1 := hc.2
        show M.ms.length + 1 ≤ 400
        omega
      · exact h
    · exact h
theorem kind_ms (M : MatZ) (e : EvZ) (h : M.ms.length ≤ 400) : (M.kind e).1.ms.length ≤ 400 := by
  unfold MatZ.kind MatZ.doMove MatZ.doOffer MatZ.doAccept MatZ.doClaim MatZ.doPremove MatZ.backTo
  repeat' split
  all_goals first
    | exact h
    | (refine runs_ms _ _ _ ?_
       show (M.ms ++ [_]).length ≤ 400
       rw [List.length_append]
       show M.ms.length + 1 ≤ 400
       omega)
    | exact Nat.le_trans (by rw [List.length_take]; exact Nat.min_le_right _ _) h
theorem go_ms (M : MatZ) (e : EvZ) (h : M.ms.length ≤ 400) : (M.go e).1.ms.length ≤ 400 := by
  unfold MatZ.go
  split
  · exact h
  split
  · exact h
  · show (MatZ.over (MatZ.put (M.kind e).1 e)).ms.length ≤ 400
    rw [(over_ms _).1]
    exact kind_ms M e h
theorem new_ms (R : RulesZ) (CR : CrZ) (now : Int) : (newM R CR now).ms.length = 0 := by
  unfold newM
  rw [(over_ms _).1]
  rfl
theorem new_jr (R : RulesZ) (CR : CrZ) (now : Int) : (newM R CR now).jr.length = 1 := by
  unfold newM
  rw [(over_jr _).1]
  rfl
end Go.Proofs.YtnodagljaoonjaaGreatDoor
namespace Go.Proofs.YtnodagljaoonjaaGreatDoor
open Go.ChangeShapes Go.WideShapes Go.ChangeAt Go.RowKit
set_option linter.unusedVariables false
theorem new_good : ¬ newBad ticZ minCR := by
 intro h
 apply h
 refine ⟨by decide +kernel, ?_⟩
 refine ⟨by decide, by decide, by decide, fun k hk => ?_⟩
 obtain rfl : k = 0 := by have : k < 1 := hk; omega
 decide
theorem drop4 (n : Int) (w : World) : Calls Tryz.prog 20 #[.int .i64 n] w fun e w' => e = .returned (.agg #[.int .i64 (-1), .int .i64 n, .int .i64 0]) ∧ Below w.heap.size w w' := by
 go_enter Tryz.func20, Tryz.ntmps20
 go_wp2
 exact bodyPost_ret (v := .agg #[.int .i64 (-1), .int .i64 n, .int .i64 0]) (by simp [results, Tryz.results20, go_sem]) rfl ⟨rfl, by go_grown⟩
theorem min_ok : clk.RuleOk minCR.ps.length minCR.inc minCR.delay minCR.ps := by
 refine ⟨by decide, by decide, by decide, fun k hk => ?_⟩
 obtain rfl : k = 0 := by have : k < 1 := hk; omega
 decide
theorem one_ok : evOk oneEv := by
 intro x hx
 have : x = 0 ∨ x = 10 ∨ x = -1 ∨ x = 4 := by
  simp only [evL, oneEv, List.mem_cons, List.not_mem_nil, or_false] at hx
  omega
 omega
theorem plays_facts : ∃ M0 : MatZ, newM ticZ minCR 0 = M0 ∧ MInv M0 ∧ M0.jr.length < 90 ∧ M0.ms.length ≤ 400 ∧ (M0.go oneEv).2 = 0 ∧ (M0.go oneEv).1.ms.length = 1 ∧ (M0.go oneEv).1.clk.l0 = 60990 :=
 ⟨newM ticZ minCR 0, rfl, MInv_new ticZ minCR 0 (by decide +kernel) (CrG.of min_ok) (by decide) (by decide), by rw [new_jr]; decide, by rw [new_ms]; decide, plays_go.1, plays_go.2.1, plays_go.2.2⟩
set_option maxRecDepth 100000 in
set_option maxHeartbeats 8000000 in
theorem plays_any (HSo : SortMvSaid) (HI : ItoaSaid) (HJ : JoinSaidM) (w : World) (ht : Tab w.heap.size w) : Calls Tryz.prog 6 #[] w fun e w' => e = .returned (.bool true) ∧ Below w.heap.size w w' := by
 have HS := Lib.hid HSo
 have HIt := Lib.hid HI
 have HJo := Lib.hid HJ
 have HTab := Lib.hid ht
 clear HSo HI HJ ht
 go_enter Tryz.func6, Tryz.ntmps6
 go_upto_region 1 with (fail)
 go_wp2_with fail
 refine (tic_any _).mono ?_
 rintro e w1 ⟨vp, vs, ve, rfl, hr, hb1⟩
 have HR := Lib.hid hr
 have HB1 := Lib.hid hb1
 clear hr hb1
 go_wp2_with fail
 refine (minute_any _).mono ?_
 rintro e w2 ⟨rfl, hp, hb2⟩
 have HR2 := Lib.hid (HR.out.below hb2 (Nat.le_refl _))
 have HB2 := Lib.hid (HB1.out.trans (hb2.mono HB1.out.size))
 have HP := Lib.hid hp
 have HT2 := Lib.hid (HTab.out.mono HB2.out.size HB2.out)
 have hpm : w1.heap.size + 1 < w2.heap.size := by
  obtain ⟨g, o, hg, hlt, _⟩ := hp.2 (by decide)
  cases hg
  exact hlt
 clear hb2 hp HR
 go_wp2_with fail
 refine (NewM_any HS.out HIt.out ticZ minCR vp vs ve (some ⟨w1.heap.size + 1, 0, none⟩) 1 0 w2 HR2.out (by decide +kernel) HP.out (by decide) (by decide) (by decide) (by decide) HT2.out).mono ?_
 rintro e w3 (⟨c, ⟨_, hbad⟩, rfl, _⟩ | ⟨_, hcg, base, S, b, B, rfl, hm, hb0, hb1, hb3⟩)
 ·exact absurd hbad new_good
 obtain ⟨M0, hM0, hMi0, hMj0, hMl0, hg1, hg2, hg3⟩ := plays_facts
 rw [hM0] at hm
 have HM := Lib.hid hm
 have HB3 := Lib.hid (HB2.out.trans (hb3.mono HB2.out.size))
 have HBb := Lib.hid hb1
 have HT3 := Lib.hid (HTab.out.mono (Nat.le_trans HB2.out.size hb0) HB3.out)
 have hbw : w.heap.size ≤ base := Nat.le_trans HB2.out.size hb0
 clear hm hb0 hb1 hb3
 go_upto_region 4 with (fail)
 go_wp2_with fail
 refine (drop4 4 _).mono ?_
 rintro e w4 ⟨rfl, hb4⟩
 have HM4 := Lib.hid (HM.out.below hb4)
 have HB4 := Lib.hid (HB3.out.trans (hb4.mono HB3.out.size))
 have HBb4 := Lib.hid (Nat.le_trans HBb.out hb4.size)
 have HT4 := Lib.hid (HT3.out.below (hb4.mono HBb.out))
 clear hb4 HM HT3
 go_wp2_with fail
 refine (Do_any HS.out HIt.out HJo.out oneEv w4 HM4.out HBb4.out hMi0 hMj0 HT4.out one_ok).mono ?_
 rintro e w5 ⟨rfl, S5, B5, hm5, hs5, hf5⟩
 rw [hg1]
 have hb05 : w.heap.size ≤ base := hbw
 have HM5 := Lib.hid hm5
 have HB5 := Lib.hid (HB4.out.trans ((MatchAt.base' HM4.out hf5 HBb4.out).mono hbw))
 have HMi := Lib.hid (MInv_go hMi0 hMl0 one_ok)
 generalize (M0.go oneEv).1 = M5 at *
 have HG2 := Lib.hid hg2
 have HG3 := Lib.hid hg3
 clear hm5 hs5 hf5 HM4 HB4 hg2 hg3
 go_wp2_with fail
 refine (State_any w5 HM5.out (by have := HMi.out.pr.len; omega)).mono ?_
 rintro e w6 ⟨ma, mc, qa, qc, rfl, hs1, hs2, hb6⟩
 have HB6 := Lib.hid (HB5.out.trans (hb6.mono HB5.out.size))
 clear hb6 hs1 hs2
 rename_i K1 h1 K2 h2
 refine h2 _ _ ?_
 clear h2 K2
 refine wpList_plain (by rfl) (fun K hK => ?_)
 go_simp
 refine hK _ _ ?_
 clear hK K
 try simp only [Act.put, List.setIfInBounds_toArray, List.set_cons_zero, List.set_cons_succ]
 refine wpl_world ?_
 intro w7 e7
 have HX7 : Hid (Box w7 w6.heap.size [.slice none 0 0, .int .i64 0, .int .i64 0, .int .i64 0, .int .i64 0, .int .i64 0, .int .i64 0, .int .i64 0, .int .i64 0, .int .i64 0, .int .i64 0, .bool false, .int .i64 0, .int .i64 0, .int .i64 0, .int .i64 0, .int .i64 0, .int .i64 0, .int .i64 0, .slice none 0 0] 50) := Lib.hid (by rw [e7]; exact Box.new w6 _ _)
 have HB7 : Hid (Below w.heap.size w w7) := Lib.hid (by rw [e7]; exact HB6.out.alloc HB6.out.size _)
 clear e7
 refine wpList_store_box (vs := [.slice ma M5.ms.length mc, .int .i64 M5.res, .int .i64 M5.reason, .int .i64 M5.clk.l0, .int .i64 M5.clk.l1, .int .i64 M5.clk.m0, .int .i64 M5.clk.m1, .int .i64 M5.clk.p0, .int .i64 M5.clk.p1, .int .i64 M5.clk.turn, .int .i64 M5.clk.since, .bool M5.clk.st, .int .i64 M5.clk.fallen, .int .i64 M5.off.b0, .int .i64 M5.off.b1, .int .i64 M5.off.l00, .int .i64 M5.off.l01, .int .i64 M5.off.l10, .int .i64 M5.off.l11, .slice qa M5.prem.length qc]) (by rfl) 50 (.tmp 4) (.tmp 18) (by rfl) w6.heap.size (by rfl) (by rfl) HX7.out rfl (by kernel_rfl) (by rfl) ?_
 have HX8 := Lib.hid (HX7.out.store (vs := [.slice ma M5.ms.length mc, .int .i64 M5.res, .int .i64 M5.reason, .int .i64 M5.clk.l0, .int .i64 M5.clk.l1, .int .i64 M5.clk.m0, .int .i64 M5.clk.m1, .int .i64 M5.clk.p0, .int .i64 M5.clk.p1, .int .i64 M5.clk.turn, .int .i64 M5.clk.since, .bool M5.clk.st, .int .i64 M5.clk.fallen, .int .i64 M5.off.b0, .int .i64 M5.off.b1, .int .i64 M5.off.l00, .int .i64 M5.off.l01, .int .i64 M5.off.l10, .int .i64 M5.off.l11, .slice qa M5.prem.length qc]) rfl)
 have HB8 := Lib.hid (below_setCells HB7.out HB6.out.size 0 [.slice ma M5.ms.length mc, .int .i64 M5.res, .int .i64 M5.reason, .int .i64 M5.clk.l0, .int .i64 M5.clk.l1, .int .i64 M5.clk.m0, .int .i64 M5.clk.m1, .int .i64 M5.clk.p0, .int .i64 M5.clk.p1, .int .i64 M5.clk.turn, .int .i64 M5.clk.since, .bool M5.clk.st, .int .i64 M5.clk.fallen, .int .i64 M5.off.b0, .int .i64 M5.off.b1, .int .i64 M5.off.l00, .int .i64 M5.off.l01, .int .i64 M5.off.l10, .int .i64 M5.off.l11, .slice qa M5.prem.length qc])
 refine wpl_world ?_
 intro w8 e8
 rw [← e8] at HX8 HB8
 clear e8 HX7 HB7
 have z0 := HX8.out.cell 0 rfl
 have z3 := HX8.out.cell 3 rfl
 rw [HG2.out] at z0
 rw [HG3.out] at z3
 go_wp2_with fail
 go_ret
 exact ⟨rfl, HB8.out⟩
end Go.Proofs.YtnodagljaoonjaaGreatDoor

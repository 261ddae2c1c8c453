/- GxC, Base. -/
import Derived.Test.YtnodagljaoonjaaGreatDoorC22
import Derived.Test.YtnodagljaoonjaaGreatDoorC05
import Derived.WalkKit
import Derived.ProofKit
import Derived.ChangeKeysEq
namespace Go.Proofs.YtnodagljaoonjaaGreatDoor.gx
open Go.ChangeShapes Go.WideShapes Go.ChangeAt Go.RowKit
set_option linter.unusedVariables false
def PlayPost (X S : Nat → Prop) (base b : Nat) (R : RulesZ) (ms : List MoveZ) (m : MoveZ) (vp vs ve : Value) (w : World) (e : Ending) (w' : World) : Prop :=
 (playErr R ms m ≠ 0 ∧ e = .returned (.int .i64 (playErr R ms m)) ∧ Below w.heap.size w w') ∨
 (playErr R ms m = 0 ∧ e = .returned (.int .i64 0) ∧ ∃ S' vl' vm' rows', GameAt X S' base w' b R (ms ++ [m]) vp vs ve vl' vm' rows' ∧ Shr w S S' ∧ Fr S w w')
set_option maxRecDepth 100000 in
set_option maxHeartbeats 4000000 in
theorem Play_any (HS : SortMvSaid) (m : MoveZ) {X S : Nat → Prop} {base b : Nat} {R : RulesZ} {ms : List MoveZ} {vp vs ve vl vm : Value} {rows : List PosV} (w : World) (h : GameAt X S base w b R ms vp vs ve vl vm rows) (hb : base ≤ w.heap.size) (hX : ∀ k, X k → k < w.heap.size) : Calls Tryz.prog 36 #[.pointer (some ⟨b, 0, none⟩), .agg #[.int .i64 m.src, .int .i64 m.dst, .int .i64 m.piece]] w (PlayPost X S base b R ms m vp vs ve w) := by
 have HSh := Lib.hid HS
 have HXX := Lib.hid hX
 obtain ⟨g, c, hv⟩ := own_some h.ol (by omega)
 subst hv
 have HG := Lib.hid h
 have HK := Lib.hid h.nok
 have HBB := Lib.hid hb
 have HGB := Lib.hid h.box.lt
 have HOL : Hid (∀ q, Value.ownBlock (.slice (some ⟨g, 0, none⟩) (ms.length + 1) c) = some q → q < w.heap.size) := Lib.hid (fun q hq => (h.ol.lt q hq).2)
 have HOM : Hid (∀ q, vm.ownBlock = some q → q < w.heap.size) := Lib.hid (fun q hq => (h.om.lt q hq).2)
 have HSL : Hid (∀ q, S q → q < w.heap.size) := Lib.hid (fun q hq => (h.lo q hq).2)
 have HSLb : Hid (g = b → False) := Lib.hid (fun e => (h.sl g rfl).2 e)
 clear hX h HS hb
 go_enter Tryz.func36, Tryz.ntmps36
 go_upto_region 1 with (fail)
 have HBm := Lib.hid (Box.new w [.int .i64 m.src, .int .i64 m.dst, .int .i64 m.piece] 38)
 have HL0 := Lib.hid ((Below.refl w.heap.size w).alloc (Nat.le_refl _) (.cells #[.int .i64 m.src, .int .i64 m.dst, .int .i64 m.piece] 38))
 have HG0 := Lib.hid (HG.out.below ((Below.refl _ w).alloc (Nat.le_refl _) (.cells #[.int .i64 m.src, .int .i64 m.dst, .int .i64 m.piece] 38)))
 generalize (w.alloc (.cells #[.int .i64 m.src, .int .i64 m.dst, .int .i64 m.piece] 38)) = w0 at *
 go_wp2_with fail
 refine (gameRes_any HSh.out w0 HG0.out.plain).mono ?_
 rintro e w1 ⟨rfl, hb1⟩
 have HG1 := Lib.hid (HG0.out.below hb1)
 have HBm1 := Lib.hid (HBm.out.stays hb1)
 have HL1 := Lib.hid (below_trans HL0.out hb1 HL0.out.size)
 clear hb1 HG0 HBm HL0
 by_cases hr0 : gameRes R ms = 0
 rotate_left
 ·have HPE : Hid (playErr R ms m = 14) := Lib.hid (by unfold playErr; rw [if_pos hr0])
  have hrb : (gameRes R ms != 0) = true := by simpa using hr0
  clear hr0
  go_wp2_with fail
  go_ret
  exact .inl ⟨by rw [HPE.out]; decide, by rw [HPE.out]; rfl, HL1.out⟩
 have HR0 := Lib.hid hr0
 rw [hr0]
 clear hr0
 go_upto_region 3 with (fail)
 generalize w1 = wq at *
 have Gz : GameAt X S base wq.drew b R ms vp vs ve (.slice (some ⟨g, 0, none⟩) (ms.length + 1) c) vm rows := HG1.out.below (below_drew' (Below.refl _ _))
 have Bmz := HBm1.out.drew
 have Lz : Below w.heap.size w wq.drew := below_drew' HL1.out
 clear HG1 HBm1 HL1
 refine wp_region_noPanic ?_
 refine beginL (S := (fun w' => w'.cell? ⟨b, 0, none⟩ = some (.string R.name) ∧ w'.cell? ⟨b, 1, none⟩ = some (.int .i64 R.width) ∧ w'.cell? ⟨b, 2, none⟩ = some (.int .i64 R.height) ∧ w'.cell? ⟨b, 3, none⟩ = some vp ∧ w'.cell? ⟨b, 4, none⟩ = some vs ∧ w'.cell? ⟨b, 5, none⟩ = some (.bool R.falls) ∧ w'.cell? ⟨b, 6, none⟩ = some (.bool R.keeps) ∧ w'.cell? ⟨b, 7, none⟩ = some ve ∧ w'.cell? ⟨b, 8, none⟩ = some (.int .i64 R.blocked) ∧ w'.cell? ⟨b, 9, none⟩ = some (.int .i64 R.quiet) ∧ w'.cell? ⟨b, 10, none⟩ = some (.int .i64 R.rept) ∧ w'.cell? ⟨w.heap.size, 0, none⟩ = some (.int .i64 m.src) ∧ w'.cell? ⟨w.heap.size, 1, none⟩ = some (.int .i64 m.dst) ∧ w'.cell? ⟨w.heap.size, 2, none⟩ = some (.int .i64 m.piece))) (L := []) (by kernel_rfl) (by and_intros <;> first | exact Gz.box.cell _ rfl | exact Bmz.cell _ rfl) (fun hHeld => ?_)
 refine tkW 0 ?_
 refine tkW 4 ?_
 refine tkL 7 ?_
 refine tkW 1 ?_
 refine tkW 2 ?_
 refine tkL 3 ?_
 refine cnL 5 fun K hK => ?_
 go_simp
 refine (now_any _ Gz.plain).mono ?_
 rintro e w5 ⟨nc, n0, n1, rfl, hn5, hb5⟩
 have G5 := Gz.below hb5
 have Bm5 := Bmz.stays hb5
 have L5 := below_trans Lz hb5 Lz.size
 have N5 := hn5.now
 clear hb5 hn5
 refine hK.out _ _ (by and_intros <;> first | exact G5.box.cell _ rfl | exact Bm5.cell _ rfl) (fun hHeld => ?_)
 clear hK K
 refine cnL 6 fun K hK => ?_
 go_simp
 refine (List_any HSh.out R vp vs ve (nowZ R ms) nc n0 n1 _ G5.rd.now N5 HK.out).mono ?_
 rintro e w6 ⟨vx, rfl, ho6, hb6⟩
 obtain ⟨a6, c6, rfl⟩ := own_form2 ho6
 have G6 := G5.below hb6
 have Bm6 := Bm5.stays hb6
 have L6 := below_trans L5 hb6 L5.size
 have R6 := rdM_of_own ho6
 clear hb6 ho6
 refine hK.out _ _ (by and_intros <;> first | exact G6.box.cell _ rfl | exact Bm6.cell _ rfl) (fun hHeld => ?_)
 clear hK K
 refine cnL 8 fun K hK => ?_
 go_simp
 refine (contains_mv _ m _ _ R6).mono ?_
 rintro e w8 ⟨rfl, hb8⟩
 have G8 := G6.below hb8
 have Bm8 := Bm6.stays hb8
 have L8 := below_trans L6 hb8 L6.size
 clear hb8
 refine hK.out _ _ (by and_intros <;> first | exact G8.box.cell _ rfl | exact Bm8.cell _ rfl) (fun hHeld => ?_)
 clear hK K
 refine tkW 9 ?_
 refine tkW 10 ?_
 refine dnN ?_
 have HG8 := Lib.hid G8
 have HBm8 := Lib.hid Bm8
 have HL8 := Lib.hid L8
 clear G8 Bm8 L8 G6 Bm6 L6 G5 Bm5 L5 N5 R6 Gz Bmz Lz hHeld
 by_cases hmm : m ∈ listZ R (nowZ R ms)
 rotate_left
 ·have HPE : Hid (playErr R ms m = 13) := Lib.hid (by unfold playErr; rw [if_neg (by simp [HR0.out]), if_pos hmm])
  have hd : decide (m ∈ listZ R (nowZ R ms)) = false := by simpa using hmm
  clear hmm
  rw [hd]
  go_wp2_with fail
  go_ret
  exact .inl ⟨by rw [HPE.out]; decide, by rw [HPE.out]; rfl, HL8.out⟩
 have hd : decide (m ∈ listZ R (nowZ R ms)) = true := by simpa using hmm
 rw [hd]
 have HMem := Lib.hid hmm
 have HF := Lib.hid (fits_of HK.out hmm)
 have hc12 := HG8.out.box.cell 12 rfl
 have hbl := HG8.out.box.lt
 obtain ⟨xv, xc, hvm⟩ := own_form2 HG8.out.om
 clear hmm hd
 by_cases hfl : ms.length = 400
 ·have HPE : Hid (playErr R ms m = 9) := Lib.hid (by unfold playErr; rw [if_neg (by simp [HR0.out]), if_neg (by simp [HMem.out]), if_pos hfl])
  have hflI : ((ms.length : Int) == 400) = true := by simp [hfl]
  clear hfl
  rw [hvm] at hc12
  go_wp2_with fail
  go_ret
  exact .inl ⟨by rw [HPE.out]; decide, by rw [HPE.out]; rfl, HL8.out⟩
 have HPE : Hid (playErr R ms m = 0) := Lib.hid (by unfold playErr; rw [if_neg (by simp [HR0.out]), if_neg (by simp [HMem.out]), if_neg hfl])
 have hflI : ((ms.length : Int) == 400) = false := by simp; omega
 have HLT : Hid (ms.length < 400) := Lib.hid (by have := HG8.out.lt; omega)
 have hlm : ms.length ≤ 400 := HG8.out.lt
 clear hfl
 rw [hvm] at hc12
 go_upto_region 7 with (fail)
 clear hc12 hbl hvm hflI
 obtain ⟨i0, hi0, hi1, hi2, hi3⟩ := info_of info_pv
 obtain ⟨j0, hj0, hj1, hj2, hj3⟩ := info_of infoMove
 have HI0 := Lib.hid hi0
 have HI1 := Lib.hid hi1
 have HI2 := Lib.hid hi2
 have HI3 := Lib.hid hi3
 have HJ0 := Lib.hid hj0
 have HJ1 := Lib.hid hj1
 have HJ2 := Lib.hid hj2
 have HJ3 := Lib.hid hj3
 clear hi0 hi1 hi2 hi3 hj0 hj1 hj2 hj3
 generalize w8 = wq at *
 have Gz : GameAt X S base wq.drew b R ms vp vs ve (.slice (some ⟨g, 0, none⟩) (ms.length + 1) c) vm rows := HG8.out.below (below_drew' (Below.refl _ _))
 have Bmz := HBm8.out.drew
 have Lz : Below w.heap.size w wq.drew := below_drew' HL8.out
 clear HG8 HBm8 HL8
 refine wp_region_noPanic ?_
 refine beginL (S := (fun w' => w'.cell? ⟨b, 0, none⟩ = some (.string R.name) ∧ w'.cell? ⟨b, 1, none⟩ = some (.int .i64 R.width) ∧ w'.cell? ⟨b, 2, none⟩ = some (.int .i64 R.height) ∧ w'.cell? ⟨b, 3, none⟩ = some vp ∧ w'.cell? ⟨b, 4, none⟩ = some vs ∧ w'.cell? ⟨b, 5, none⟩ = some (.bool R.falls) ∧ w'.cell? ⟨b, 6, none⟩ = some (.bool R.keeps) ∧ w'.cell? ⟨b, 7, none⟩ = some ve ∧ w'.cell? ⟨b, 8, none⟩ = some (.int .i64 R.blocked) ∧ w'.cell? ⟨b, 9, none⟩ = some (.int .i64 R.quiet) ∧ w'.cell? ⟨b, 10, none⟩ = some (.int .i64 R.rept) ∧ w'.cell? ⟨b, 11, none⟩ = some (.slice (some ⟨g, 0, none⟩) (ms.length + 1) c) ∧ w'.cell? ⟨w.heap.size, 0, none⟩ = some (.int .i64 m.src) ∧ w'.cell? ⟨w.heap.size, 1, none⟩ = some (.int .i64 m.dst) ∧ w'.cell? ⟨w.heap.size, 2, none⟩ = some (.int .i64 m.piece))) (L := [17]) (by kernel_rfl) (by and_intros <;> first | exact Gz.box.cell _ rfl | exact Bmz.cell _ rfl) (fun hHeld => ?_)
 refine tkW 0 ?_
 refine tkW 1 ?_
 refine tkW 5 ?_
 refine tkW 9 ?_
 refine tkL 11 ?_
 refine tkW 2 ?_
 refine tkW 6 ?_
 refine tkW 3 ?_
 refine tkW 7 ?_
 refine tkL 4 ?_
 refine tkL 8 ?_
 refine cnL 10 fun K hK => ?_
 go_simp
 refine (now_any _ Gz.plain).mono ?_
 rintro e w10 ⟨nc, n0, n1, rfl, hn10, hb10⟩
 have G10 := Gz.below hb10
 have Bm10 := Bmz.stays hb10
 have L10 := below_trans Lz hb10 Lz.size
 have N10 := hn10.now
 clear hb10 hn10
 refine hK.out _ _ (by and_intros <;> first | exact G10.box.cell _ rfl | exact Bm10.cell _ rfl) (fun hHeld => ?_)
 clear hK K
 refine cnL 12 fun K hK => ?_
 go_simp
 refine (Make_any R vp vs ve (nowZ R ms) nc n0 n1 m _ N10 HK.out HF.out).mono ?_
 rintro e w12 ⟨yc, y0, y1, rfl, ho12, hb12⟩
 obtain ⟨ya, yn, rfl⟩ := own_form2 ho12.1
 obtain ⟨ya0, yn0, rfl⟩ := own_form2 ho12.2.1
 obtain ⟨ya1, yn1, rfl⟩ := own_form2 ho12.2.2.1
 unfold posV
 have G12 := G10.below hb12
 have Bm12 := Bm10.stays hb12
 have L12 := below_trans L10 hb12 L10.size
 have P12 : OwnP w.heap.size w12 (makeZ R (nowZ R ms) m) (.slice ya (makeZ R (nowZ R ms) m).cells.length yn) (.slice ya0 (makeZ R (nowZ R ms) m).h0.length yn0) (.slice ya1 (makeZ R (nowZ R ms) m).h1.length yn1) := ho12.base L10.size
 clear hb12 ho12
 refine hK.out _ _ (by and_intros <;> first | exact G12.box.cell _ rfl | exact Bm12.cell _ rfl) (fun hHeld => ?_)
 clear hK K
 refine cnL 13 fun K hK => ?_
 go_simp
 refine K_world ?_
 intro w13 e13
 have hb13 : Below w12.heap.size w12 w13 := by rw [e13]; exact (Below.refl _ _).alloc (Nat.le_refl _) _
 have N13 : Box w13 w12.heap.size [.slice ya (makeZ R (nowZ R ms) m).cells.length yn, .slice ya0 (makeZ R (nowZ R ms) m).h0.length yn0, .slice ya1 (makeZ R (nowZ R ms) m).h1.length yn1, .int .i64 (makeZ R (nowZ R ms) m).turn, .int .i64 (makeZ R (nowZ R ms) m).quiet] 59 := by rw [e13]; exact Box.new' _ _ _ _ rfl
 have G13 := G12.below hb13
 have Bm13 := Bm12.stays hb13
 have L13 := below_trans L12 hb13 L12.size
 have P13 : OwnP w.heap.size w13 (makeZ R (nowZ R ms) m) (.slice ya (makeZ R (nowZ R ms) m).cells.length yn) (.slice ya0 (makeZ R (nowZ R ms) m).h0.length yn0) (.slice ya1 (makeZ R (nowZ R ms) m).h1.length yn1) := ⟨own_stays P12.1 hb13, own_stays P12.2.1 hb13, own_stays P12.2.2.1 hb13, P12.2.2.2⟩
 clear hb13 e13
 refine hK.out _ _ (by and_intros <;> first | exact G13.box.cell _ rfl | exact Bm13.cell _ rfl) (fun hHeld => ?_)
 clear hK K
 refine cnL 14 fun K hK => ?_
 rw [if_pos (by rfl)]
 refine wp_append_lies _ _ _ 113 rfl base 59 i0 (.agg #[.slice none 0 0, .slice none 0 0, .slice none 0 0, .int .i64 0, .int .i64 0]) 5 88 Tryz.underlying113 HI0.out HI1.out HI2.out HI3.out rfl (by decide) (.slice (some ⟨g, 0, none⟩) (ms.length + 1) c) (ms.length + 1) (flatV rows) rfl G13.ol ⟨w12.heap.size, 0, none⟩ 1 1 [.slice ya (makeZ R (nowZ R ms) m).cells.length yn, .slice ya0 (makeZ R (nowZ R ms) m).h0.length yn0, .slice ya1 (makeZ R (nowZ R ms) m).h1.length yn1, .int .i64 (makeZ R (nowZ R ms) m).turn, .int .i64 (makeZ R (nowZ R ms) m).quiet] rfl rfl (box_srcV N13) five_pv (by decide) (by unfold maxLen; omega) (by omega) (Nat.le_trans HBB.out L13.size) w13.heap.size rfl ?_
 intro g7 c7 w14 ho14 hg14 hq14 hl14
 have hgo : ∀ q, Value.ownBlock (.slice (some ⟨g, 0, none⟩) (ms.length + 1) c) = some q → q < w.heap.size := fun q hq => HOL.out q hq
 have B14 : Box w14 b [.string R.name, .int .i64 R.width, .int .i64 R.height, vp, vs, .bool R.falls, .bool R.keeps, ve, .int .i64 R.blocked, .int .i64 R.quiet, .int .i64 R.rept, .slice (some ⟨g, 0, none⟩) (ms.length + 1) c, vm] 115 := G13.box.grown hg14 (fun e => (G13.sl b e.symm).2 rfl)
 have Bm14 : Box w14 w.heap.size [.int .i64 m.src, .int .i64 m.dst, .int .i64 m.piece] 38 := Bm13.grown hg14 (fun e => by have := hgo _ e.symm; omega)
 have F14 : Fr S w w14 := (Fr.of_new L13).grown hg14 (fun q hq _ => (G13.sl q hq).1)
 have F1314 : Fr S w13 w14 := (Fr.refl S w13).grown hg14 (fun q hq _ => (G13.sl q hq).1)
 have M14 := G13.om.kept hg14 (apart_swap G13.ap)
 have O14 := ho14
 have Z14 := hg14.size
 have Q14 := newQ (g := g) hq14 L13.size
 have Q14S := newS (S := S) hq14 (fun q hq => (G13.sl q hq).1)
 have P14 : Held X S w13 fun w' => OwnP w.heap.size w' (makeZ R (nowZ R ms) m) (.slice ya (makeZ R (nowZ R ms) m).cells.length yn) (.slice ya0 (makeZ R (nowZ R ms) m).h0.length yn0) (.slice ya1 (makeZ R (nowZ R ms) m).h1.length yn1) := ownP_held P13 (fun q h1 _ hS => by rcases hS with hS | hS; (have := HSL.out q hS; omega); (have := HXX.out q hS; omega))
 have LB14 : Below base w w14 := Below.grown ((L13.mono HBB.out)) hg14 (Nat.le_trans HBB.out L13.size) (fun q hq => (G13.ol.lt q hq).1)
 clear ho14 hg14 hq14
 refine hK.out _ _ (by and_intros <;> first | exact B14.cell _ rfl | exact Bm14.cell _ rfl) (fun hHeld => ?_)
 clear hK K
 refine tkW 15 ?_
 refine tkW 16 ?_
 refine ltL 17 fun K hK => ?_
 have dd := B14.cell 11 rfl
 have df := B14.frozen 11
 go_simp
 refine K_world ?_
 intro w17 e17
 have E17 := Lib.hid e17
 clear e17 dd df
 refine hK.out _ _ ?_
 clear hK K
 refine dnN ?_
 have B17 : Box w17 b [.string R.name, .int .i64 R.width, .int .i64 R.height, vp, vs, .bool R.falls, .bool R.keeps, ve, .int .i64 R.blocked, .int .i64 R.quiet, .int .i64 R.rept, .slice (some ⟨g7, 0, none⟩) (ms.length + 1 + 1) c7, vm] 115 := by rw [E17.out]; exact B14.set 11 _
 have hgb : g7 ≠ b := fun e => by rcases Q14 with q | q; exact (HSLb.out (by rw [← q, e])); have := HGB.out; omega
 have O17 : w17.ownsRow base 59 5 (.slice (some ⟨g7, 0, none⟩) (ms.length + 1 + 1) c7) (ms.length + 1 + 1) (flatV rows ++ [.slice ya (makeZ R (nowZ R ms) m).cells.length yn, .slice ya0 (makeZ R (nowZ R ms) m).h0.length yn0, .slice ya1 (makeZ R (nowZ R ms) m).h1.length yn1, .int .i64 (makeZ R (nowZ R ms) m).turn, .int .i64 (makeZ R (nowZ R ms) m).quiet]) := by rw [E17.out]; exact row_farW (p := ⟨b, 11, none⟩) O14 (fun e => hgb (by simpa [Value.ownBlock] using e)) _
 have M17 : w17.ownsRow base 38 3 vm ms.length (flatM ms) := by rw [E17.out]; exact row_farW (p := ⟨b, 11, none⟩) M14 (fun e => (G13.sm b e).2 rfl) _
 have F17 : Fr S w w17 := by rw [E17.out]; exact F14.setCell G13.sb _
 have hsh : Shr w13 S (fun k => S k ∨ k = g7) := shr_one Q14S
 have P17 : Held X (fun k => S k ∨ k = g7) w17 fun w' => OwnP w.heap.size w' (makeZ R (nowZ R ms) m) (.slice ya (makeZ R (nowZ R ms) m).cells.length yn) (.slice ya0 (makeZ R (nowZ R ms) m).h0.length yn0) (.slice ya1 (makeZ R (nowZ R ms) m).h1.length yn1) := by rw [E17.out]; exact (P14.step F1314 hsh).step ((Fr.refl (fun k => S k ∨ k = g7) w14).setCell (.inl G13.sb) _) (Shr.refl _ _)
 have Bm17 : Box w17 w.heap.size [.int .i64 m.src, .int .i64 m.dst, .int .i64 m.piece] 38 := by rw [E17.out]; exact Bm14.far ⟨b, 11, none⟩ _ (fun e => by have := HGB.out; simp at e; omega)
 have Z17 : w14.heap.size = w17.heap.size := by rw [E17.out]; simp [World.setCell]
 have LB17 : Below base w w17 := by rw [E17.out]; exact LB14.setCell (p := ⟨b, 11, none⟩) (G13.lo b G13.sb).1 _
 have HH := Lib.hid (And.intro B17 (And.intro hgb (And.intro O17 (And.intro M17 (And.intro F17 (And.intro P17 (And.intro Bm17 (And.intro Q14 (And.intro LB17 (And.intro Z14 Z17))))))))))
 have HG13 := Lib.hid G13
 clear B17 hgb O17 M17 F17 hsh P17 Bm17 Z14 Z17 LB17 LB14 Q14 Q14S B14 Bm14 F14 F1314 M14 O14 P14 P13 P12 N13 G13 G12 G10 Gz Bmz Bm10 Bm12 Bm13 Lz L10 L12 L13 N10 hgo E17 hl14 hHeld
 go_upto_region 8 with (fail)
 generalize w17 = x17 at *
 obtain ⟨B17, hgb, O17, M17, F17, P17, Bm17, Q14, LB17, Z14, Z17⟩ := HH.out
 clear HH
 have HSH : Hid (Shr w S (fun k => S k ∨ k = g7)) := Lib.hid (fun k hk h => by
  rcases h with h | h
  ·exact h
  ·subst h
   rcases Q14 with q | q
   ·rw [q]; exact (HG13.out.sl g rfl).1
   ·omega)
 have HAP : Hid (Value.ownBlock (.slice (some ⟨g7, 0, none⟩) (ms.length + 1 + 1) c7) = none ∨ Value.ownBlock (.slice (some ⟨g7, 0, none⟩) (ms.length + 1 + 1) c7) ≠ vm.ownBlock) := Lib.hid (.inr (fun e => by
  rcases Q14 with q | q
  ·rw [q] at e
   rcases HG13.out.ap with h | h
   ·cases h
   ·exact h e
  ·have := HOM.out g7 e.symm; omega))
 have HNE : Hid (∀ g8, g7 = g8 → (vm.ownBlock = some g8 ∨ x17.heap.size ≤ g8) → False) := Lib.hid (fun g8 e h => by
  subst e
  rcases h with h | h
  ·rcases HAP.out with q | q
   ·cases q
   ·exact q h.symm
  ·have := (O17.lt g7 rfl).2; omega)
 have HSM : Hid (∀ k, vm.ownBlock = some k → S k) := Lib.hid (fun k hk => (HG13.out.sm k hk).1)
 have By : Box x17.drew b [.string R.name, .int .i64 R.width, .int .i64 R.height, vp, vs, .bool R.falls, .bool R.keeps, ve, .int .i64 R.blocked, .int .i64 R.quiet, .int .i64 R.rept, .slice (some ⟨g7, 0, none⟩) (ms.length + 1 + 1) c7, vm] 115 := B17
 have Bmy : Box x17.drew w.heap.size [.int .i64 m.src, .int .i64 m.dst, .int .i64 m.piece] 38 := Bm17
 have My : x17.drew.ownsRow base 38 3 vm ms.length (flatM ms) := M17
 have Oy : x17.drew.ownsRow base 59 5 (.slice (some ⟨g7, 0, none⟩) (ms.length + 1 + 1) c7) (ms.length + 1 + 1) (flatV rows ++ [.slice ya (makeZ R (nowZ R ms) m).cells.length yn, .slice ya0 (makeZ R (nowZ R ms) m).h0.length yn0, .slice ya1 (makeZ R (nowZ R ms) m).h1.length yn1, .int .i64 (makeZ R (nowZ R ms) m).turn, .int .i64 (makeZ R (nowZ R ms) m).quiet]) := O17
 have LBy : Below base w x17.drew := below_drew' LB17
 have Z17y : x17.heap.size ≤ x17.drew.heap.size := Nat.le_refl _
 clear B17 O17 M17 Bm17 Q14 LB17 Z14 Z17
 refine wp_region_noPanic ?_
 refine beginL (S := (fun w' => w'.cell? ⟨b, 12, none⟩ = some vm ∧ w'.cell? ⟨w.heap.size, 0, none⟩ = some (.int .i64 m.src) ∧ w'.cell? ⟨w.heap.size, 1, none⟩ = some (.int .i64 m.dst) ∧ w'.cell? ⟨w.heap.size, 2, none⟩ = some (.int .i64 m.piece))) (L := [10]) (by kernel_rfl) ⟨By.cell 12 rfl, Bmy.cell 0 rfl, Bmy.cell 1 rfl, Bmy.cell 2 rfl⟩ (fun hHeld => ?_)
 refine tkW 0 ?_
 refine tkW 1 ?_
 refine tkL 5 ?_
 refine tkW 2 ?_
 refine tkW 3 ?_
 refine tkL 4 ?_
 refine cnL 6 fun K hK => ?_
 go_simp
 refine K_world ?_
 intro x6 e6
 have hb6 : Below x17.drew.heap.size x17.drew x6 := by rw [e6]; exact (Below.refl _ _).alloc (Nat.le_refl _) _
 have N6 : Box x6 x17.heap.size [.int .i64 m.src, .int .i64 m.dst, .int .i64 m.piece] 38 := by rw [e6]; exact Box.new' _ _ _ _ rfl
 have B6 := By.stays hb6
 have Bm6 := Bmy.stays hb6
 have M6 := own_stays My hb6
 have O6 := own_stays Oy hb6
 have F6 : Fr (fun k => S k ∨ k = g7) x17.drew x6 := Fr.of_new hb6
 have Z6 := hb6.size
 have LB6 : Below base w x6 := LBy.trans (hb6.mono (Nat.le_trans HBB.out LBy.size))
 clear hb6 e6
 refine hK.out _ _ ⟨B6.cell 12 rfl, Bm6.cell 0 rfl, Bm6.cell 1 rfl, Bm6.cell 2 rfl⟩ (fun hHeld => ?_)
 clear hK K
 refine cnL 7 fun K hK => ?_
 rw [if_pos (by rfl)]
 refine wp_append_lies _ _ _ 41 rfl base 38 j0 (.agg #[.int .i64 0, .int .i64 0, .int .i64 0]) 3 24 Tryz.underlying41 HJ0.out HJ1.out HJ2.out HJ3.out rfl (by decide) vm ms.length (flatM ms) rfl M6 ⟨x17.heap.size, 0, none⟩ 1 1 [.int .i64 m.src, .int .i64 m.dst, .int .i64 m.piece] rfl rfl (box_srcV N6) three_ints (by decide) (by unfold maxLen; omega) (by omega) (Nat.le_trans HBB.out LB6.size) x6.heap.size rfl ?_
 intro g8 c8 x7 ho7 hg7 hq7 hl7
 have B7 : Box x7 b [.string R.name, .int .i64 R.width, .int .i64 R.height, vp, vs, .bool R.falls, .bool R.keeps, ve, .int .i64 R.blocked, .int .i64 R.quiet, .int .i64 R.rept, .slice (some ⟨g7, 0, none⟩) (ms.length + 1 + 1) c7, vm] 115 := B6.grown hg7 (fun e => (HG13.out.sm b e.symm).2 rfl)
 have Bm7 : Box x7 w.heap.size [.int .i64 m.src, .int .i64 m.dst, .int .i64 m.piece] 38 := Bm6.grown hg7 (fun e => by have := HOM.out _ e.symm; omega)
 have O7 := O6.kept hg7 HAP.out
 have F7 : Fr (fun k => S k ∨ k = g7) x17.drew x7 := F6.grown hg7 (fun q hq _ => .inl (HSM.out q hq))
 have Q7 := newQ2 hq7 (Nat.le_trans Z17y Z6)
 have Q7S := hq7
 have M7 := ho7
 have Z7 := hg7.size
 have LB7 : Below base w x7 := Below.grown LB6 hg7 (Nat.le_trans HBB.out LB6.size) (fun q hq => (M6.lt q hq).1)
 clear ho7 hg7 hq7
 refine hK.out _ _ ⟨B7.cell 12 rfl, Bm7.cell 0 rfl, Bm7.cell 1 rfl, Bm7.cell 2 rfl⟩ (fun hHeld => ?_)
 clear hK K
 refine tkW 8 ?_
 refine tkW 9 ?_
 refine ltL 10 fun K hK => ?_
 have dd := B7.cell 12 rfl
 have df := B7.frozen 12
 go_simp
 refine K_world ?_
 intro x10 e10
 have E10 := Lib.hid e10
 clear e10 dd df
 refine hK.out _ _ ?_
 clear hK K
 refine dnN ?_
 have B10 : Box x10 b [.string R.name, .int .i64 R.width, .int .i64 R.height, vp, vs, .bool R.falls, .bool R.keeps, ve, .int .i64 R.blocked, .int .i64 R.quiet, .int .i64 R.rept, .slice (some ⟨g7, 0, none⟩) (ms.length + 1 + 1) c7, .slice (some ⟨g8, 0, none⟩) (ms.length + 1) c8] 115 := by rw [E10.out]; exact B7.set 12 _
 have hhb : g8 ≠ b := fun e => by rcases Q7 with q | q; exact (HG13.out.sm g8 q).2 e; have := HGB.out; have := F17.size; omega
 have O10 : x10.ownsRow base 59 5 (.slice (some ⟨g7, 0, none⟩) (ms.length + 1 + 1) c7) (ms.length + 1 + 1) (flatV (rows ++ [⟨(makeZ R (nowZ R ms) m), .slice ya (makeZ R (nowZ R ms) m).cells.length yn, .slice ya0 (makeZ R (nowZ R ms) m).h0.length yn0, .slice ya1 (makeZ R (nowZ R ms) m).h1.length yn1⟩])) := by rw [E10.out, ← flatV_append]; exact row_farW (p := ⟨b, 12, none⟩) O7 (fun e => hgb (by simpa [Value.ownBlock] using e)) _
 have M10 : x10.ownsRow base 38 3 (.slice (some ⟨g8, 0, none⟩) (ms.length + 1) c8) (ms.length + 1) (flatM (ms ++ [m])) := by rw [E10.out, ← flatM_append]; exact row_farW (p := ⟨b, 12, none⟩) M7 (fun e => hhb (by simpa [Value.ownBlock] using e)) _
 have F10 : Fr (fun k => S k ∨ k = g7) x17.drew x10 := by rw [E10.out]; exact F7.setCell (.inl HG13.out.sb) _
 have FW : Fr S w x10 := (F17.drew).trans F10 HSH.out
 have hs10 : Shr x17.drew (fun k => S k ∨ k = g7) (fun k => (S k ∨ k = g7) ∨ k = g8) := shr_two Q7 HSM.out Z17y
 have hsw : Shr w S (fun k => (S k ∨ k = g7) ∨ k = g8) := HSH.out.trans hs10 F17.size
 have P10 := (P17.step (Fr.drew (Fr.refl _ x17)) (Shr.refl _ _)).step F10 hs10
 have Z10 : x7.heap.size = x10.heap.size := by rw [E10.out]; simp [World.setCell]
 have LB10 : Below base w x10 := by rw [E10.out]; exact LB7.setCell (p := ⟨b, 12, none⟩) (HG13.out.lo b HG13.out.sb).1 _
 have hgf : GameAt X (fun k => (S k ∨ k = g7) ∨ k = g8) base x10 b R (ms ++ [m]) vp vs ve (.slice (some ⟨g7, 0, none⟩) (ms.length + 1 + 1) c7) (.slice (some ⟨g8, 0, none⟩) (ms.length + 1) c8) (rows ++ [⟨(makeZ R (nowZ R ms) m), .slice ya (makeZ R (nowZ R ms) m).cells.length yn, .slice ya0 (makeZ R (nowZ R ms) m).h0.length yn0, .slice ya1 (makeZ R (nowZ R ms) m).h1.length yn1⟩]) := ⟨B10, .inl (.inl HG.out.sb), fun k hk => by
   rcases hk with (hk | hk) | hk
   ·exact ⟨(HG.out.lo k hk).1, Nat.lt_of_lt_of_le (HG.out.lo k hk).2 FW.size⟩
   ·rw [hk]; exact O10.lt g7 rfl
   ·rw [hk]; exact M10.lt g8 rfl, HG.out.rd.step FW hsw, by rw [List.length_append]; exact O10, by rw [List.map_append, HG.out.mp, psOf_snoc]; rfl, fun r hr => by
   rcases List.mem_append.1 hr with hr | hr
   ·exact (HG.out.rw r hr).step FW hsw
   ·rw [List.mem_singleton.1 hr]; exact P10.imp (fun _ h => h.rd), by rw [List.length_append]; exact M10, fun k hk => by
   obtain rfl : g7 = k := by simpa [Value.ownBlock] using hk
   exact ⟨.inl (.inr rfl), hgb⟩, fun k hk => by
   obtain rfl : g8 = k := by simpa [Value.ownBlock] using hk
   exact ⟨.inr rfl, hhb⟩, .inr (fun e => HNE.out g8 (by simpa [Value.ownBlock] using e) Q7), by have := HLT.out; simp; omega, HG.out.la.snoc HMem.out, HG.out.re⟩
 have HGf := Lib.hid hgf
 have HFW := Lib.hid FW
 have HSW := Lib.hid hsw
 clear hgf FW hsw B10 hhb O10 M10 F10 hs10 P10 Z10 LB10 hHeld By Bmy My Oy LBy B6 Bm6 M6 O6 F6 B7 Bm7 O7 F7 Q7 M7 LB7 LB6 N6 E10 F17 P17 hgb Z17y
 go_wp2_with fail
 go_ret
 exact .inr ⟨HPE.out, rfl, _, _, _, _, HGf.out, HSW.out, HFW.out⟩
end Go.Proofs.YtnodagljaoonjaaGreatDoor.gx
namespace Go.Proofs.YtnodagljaoonjaaGreatDoor
open Go.RowKit
/-- 'a[i]' of an array by value whose elements are one plain cell each. -/
theorem run_index_arr {P : Program} {t e n : Nat} (cs : Array Value) (i : Int) (v : Value) (w : World) (h : P.underlying t = some (.array n e))
  (he : P.plainKey e = true) (hs : (sizeOf e).run P w = .ok 1 w) (h0 : 0 ≤ i) (h1 : i < n) (hx : cs[i.toNat]? = some v) :
  (Instr.index t (.agg cs) (.int .i64 i)).run P w = .ok v w := by
 have hk : 0 ≤ i ∧ i < (n : Int) := ⟨h0, h1⟩
 have hp := run_part_plain (P := P) (w := w) (e := e) he hx
 simp only [part] at hp
 simp [Instr.index, run_underlying h, asIntOf, hk, hs, go_sem]
 simpa [part] using hp
end Go.Proofs.YtnodagljaoonjaaGreatDoor

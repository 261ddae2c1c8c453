/- GmC, RecA. -/
import Derived.Test.YthklhndcdijneaaGreatDoorC17
import Derived.Test.YthklhndcdijneaaGreatDoorC09
import Derived.Test.YthklhndcdijneaaGreatDoorC05
import Derived.Test.YthklhndcdijneaaGreatDoorC01
import Derived.Laws.Externs
import Derived.BigQuiet
import Derived.Deep.Cut
import Derived.Deep.QuietTactic
/- The contract of plain's Play. -/
namespace Go.Proofs.YthklhndcdijneaaGreatDoor
open Go.ChangeShapes Go.WideShapes Go.ChangeAt Go.RowKit
set_option linter.unusedVariables false
set_option maxHeartbeats 4000000
set_option maxRecDepth 100000
theorem info_pv : (Tryz.prog.info? 66).map (fun i => (i.zero, i.size, i.bytes)) = some (some (.agg #[.slice none 0 0, .slice none 0 0, .slice none 0 0, .int .i64 0, .int .i64 0]), 5, 88) := by kernel_rfl
theorem five_pv {a a' a'' : Option Addr} {n n' n'' c c' c'' : Nat} {x y : Int} : ∀ u ∈ [Value.slice a n c, .slice a' n' c', .slice a'' n'' c'', .int .i64 x, .int .i64 y], u.oneCell' = true := by intro u hu; simp at hu; rcases hu with rfl | rfl | rfl | rfl | rfl <;> rfl
theorem box_srcV {w : World} {b : Nat} {cs : List Value} {t : TypeId} (h : Box w b cs t) : ∀ j u, cs[j]? = some u → w.cell? ((⟨b, 0, none⟩ : Addr).add j) = some u := by
 intro j u hj
 have e2 : (⟨b, 0, none⟩ : Addr).add j = ⟨b, j, none⟩ := by unfold Addr.add; split <;> simp_all
 rw [e2]
 exact h.cell j hj
theorem newQ {g g7 n c H lo : Nat} (h : Value.ownBlock (.slice (some ⟨g, 0, none⟩) n c) = some g7 ∨ g7 = H) (hl : lo ≤ H) : g7 = g ∨ lo ≤ g7 := by
 rcases h with h | h
 ·left; simpa [Value.ownBlock] using h.symm
 ·right; omega
theorem newQ2 {v : Value} {g8 H lo : Nat} (h : v.ownBlock = some g8 ∨ g8 = H) (hl : lo ≤ H) : v.ownBlock = some g8 ∨ lo ≤ g8 := by
 rcases h with h | h
 ·exact .inl h
 ·right; omega
theorem newS {S : Nat → Prop} {v : Value} {g7 H : Nat} (h : v.ownBlock = some g7 ∨ g7 = H) (hS : ∀ q, v.ownBlock = some q → S q) : S g7 ∨ g7 = H := by
 rcases h with h | h
 ·exact .inl (hS _ h)
 ·exact .inr h
theorem shr_one {S : Nat → Prop} {w : World} {g7 : Nat} (h : S g7 ∨ g7 = w.heap.size) : Shr w S (fun k => S k ∨ k = g7) := fun k hk h' => by
 rcases h' with h' | h'
 ·exact h'
 ·subst h'
  rcases h with h | h
  ·exact h
  ·omega
theorem shr_two {S : Nat → Prop} {w : World} {v : Value} {g7 g8 H : Nat} (h : v.ownBlock = some g8 ∨ H ≤ g8) (hS : ∀ q, v.ownBlock = some q → S q) (hH : w.heap.size ≤ H) : Shr w (fun k => S k ∨ k = g7) (fun k => (S k ∨ k = g7) ∨ k = g8) := fun k hk h' => by
 rcases h' with h' | h'
 ·exact h'
 ·subst h'
  rcases h with h | h
  ·exact .inl (hS _ h)
  ·omega
def PlayPost (S : Nat → Prop) (base b : Nat) (R : RulesZ) (ms : List MoveZ) (m : MoveZ) (vp vs ve : Value) (w : World) (e : Ending) (w' : World) : Prop :=
 (playErr R ms m ≠ 0 ∧ e = .returned (.int .i64 (playErr R ms m)) ∧ Below w.heap.size w w') ∨
 (playErr R ms m = 0 ∧ e = .returned (.int .i64 0) ∧ ∃ S' vl' vm' rows', GameAt S' base w' b R (ms ++ [m]) vp vs ve vl' vm' rows' ∧ Shr w S S' ∧ Fr S w w')
theorem Play_any (HS : SortMvSaid) (m : MoveZ) {S : Nat → Prop} {base b : Nat} {R : RulesZ} {ms : List MoveZ} {vp vs ve vl vm : Value} {rows : List PosV} (w : World) (h : GameAt S base w b R ms vp vs ve vl vm rows) (hb : base ≤ w.heap.size) : Calls Tryz.prog 65 #[.pointer (some ⟨b, 0, none⟩), .agg #[.int .i64 m.src, .int .i64 m.dst, .int .i64 m.piece]] w (PlayPost S base b R ms m vp vs ve w) := by
 have HSh := Lib.hid HS
 obtain ⟨g, c, hv⟩ := own_some h.ol (by omega)
 subst hv
 have HG := Lib.hid h
 have HK := Lib.hid h.nok
 have HBB := Lib.hid hb
 have HGB := Lib.hid h.box.lt
 have HOL : Hid (∀ q, Value.ownBlock (.slice (some ⟨g, 0, none⟩) (ms.length + 1) c) = some q → q < w.heap.size) := Lib.hid (fun q hq => (h.ol.lt q hq).2)
 have HOM : Hid (∀ q, vm.ownBlock = some q → q < w.heap.size) := Lib.hid (fun q hq => (h.om.lt q hq).2)
 have HSL : Hid (∀ q, S q → q < w.heap.size) := Lib.hid (fun q hq => (h.lo q hq).2)
 have HSLb : Hid (g = b → False) := Lib.hid (fun e => (h.sl g rfl).2 e)
 clear h HS hb
 go_enter Tryz.func65, Tryz.ntmps65
 go_upto_region 1 with (fail)
 have HBm := Lib.hid (Box.new w [.int .i64 m.src, .int .i64 m.dst, .int .i64 m.piece] 44)
 have HL0 := Lib.hid ((Below.refl w.heap.size w).alloc (Nat.le_refl _) (.cells #[.int .i64 m.src, .int .i64 m.dst, .int .i64 m.piece] 44))
 have HG0 := Lib.hid (HG.out.below ((Below.refl _ w).alloc (Nat.le_refl _) (.cells #[.int .i64 m.src, .int .i64 m.dst, .int .i64 m.piece] 44)))
 generalize (w.alloc (.cells #[.int .i64 m.src, .int .i64 m.dst, .int .i64 m.piece] 44)) = w0 at *
 go_wp2_with fail
 refine (gameRes_any HSh.out w0 HG0.out).mono ?_
 rintro e w1 ⟨rfl, hb1⟩
 have HG1 := Lib.hid (HG0.out.below hb1)
 have HBm1 := Lib.hid (HBm.out.stays hb1)
 have HL1 := Lib.hid (below_trans HL0.out hb1 HL0.out.size)
 clear hb1 HG0 HBm HL0
 by_cases hr0 : gameRes R ms = 0
 rotate_left
 ·have HPE : Hid (playErr R ms m = 14) := Lib.hid (by unfold playErr; rw [if_pos hr0])
  have hrb : (gameRes R ms != 0) = true := by simpa using hr0
  clear hr0
  go_wp2_with fail
  go_ret
  exact .inl ⟨by rw [HPE.out]; decide, by rw [HPE.out]; rfl, HL1.out⟩
 have HR0 := Lib.hid hr0
 rw [hr0]
 clear hr0
 go_upto_region 3 with (fail)
 generalize w1 = wq at *
 have Gz : GameAt S base wq.drew b R ms vp vs ve (.slice (some ⟨g, 0, none⟩) (ms.length + 1) c) vm rows := HG1.out.below (below_drew' (Below.refl _ _))
 have Bmz := HBm1.out.drew
 have Lz : Below w.heap.size w wq.drew := below_drew' HL1.out
 clear HG1 HBm1 HL1
 refine wp_region_noPanic ?_
 refine beginL (S := (fun w' => w'.cell? ⟨b, 0, none⟩ = some (.string R.name) ∧ w'.cell? ⟨b, 1, none⟩ = some (.int .i64 R.width) ∧ w'.cell? ⟨b, 2, none⟩ = some (.int .i64 R.height) ∧ w'.cell? ⟨b, 3, none⟩ = some vp ∧ w'.cell? ⟨b, 4, none⟩ = some vs ∧ w'.cell? ⟨b, 5, none⟩ = some (.bool R.falls) ∧ w'.cell? ⟨b, 6, none⟩ = some (.bool R.keeps) ∧ w'.cell? ⟨b, 7, none⟩ = some ve ∧ w'.cell? ⟨b, 8, none⟩ = some (.int .i64 R.blocked) ∧ w'.cell? ⟨b, 9, none⟩ = some (.int .i64 R.quiet) ∧ w'.cell? ⟨b, 10, none⟩ = some (.int .i64 R.rept) ∧ w'.cell? ⟨w.heap.size, 0, none⟩ = some (.int .i64 m.src) ∧ w'.cell? ⟨w.heap.size, 1, none⟩ = some (.int .i64 m.dst) ∧ w'.cell? ⟨w.heap.size, 2, none⟩ = some (.int .i64 m.piece))) (L := []) (by kernel_rfl) (by and_intros <;> first | exact Gz.box.cell _ rfl | exact Bmz.cell _ rfl) (fun hHeld => ?_)
 refine tkW 0 ?_
 refine tkW 4 ?_
 refine tkL 7 ?_
 refine tkW 1 ?_
 refine tkW 2 ?_
 refine tkL 3 ?_
 refine cnL 5 fun K hK => ?_
 go_simp
 refine (now_any _ Gz).mono ?_
 rintro e w5 ⟨nc, n0, n1, rfl, hn5, hb5⟩
 have G5 := Gz.below hb5
 have Bm5 := Bmz.stays hb5
 have L5 := below_trans Lz hb5 Lz.size
 have N5 := hn5.now
 clear hb5 hn5
 refine hK.out _ _ (by and_intros <;> first | exact G5.box.cell _ rfl | exact Bm5.cell _ rfl) (fun hHeld => ?_)
 clear hK K
 refine cnL 6 fun K hK => ?_
 go_simp
 refine (List_any HSh.out R vp vs ve (nowZ R ms) nc n0 n1 _ G5.rd.now N5 HK.out).mono ?_
 rintro e w6 ⟨vx, rfl, ho6, hb6⟩
 obtain ⟨a6, c6, rfl⟩ := own_form2 ho6
 have G6 := G5.below hb6
 have Bm6 := Bm5.stays hb6
 have L6 := below_trans L5 hb6 L5.size
 have R6 := rdM_of_own ho6
 clear hb6 ho6
 refine hK.out _ _ (by and_intros <;> first | exact G6.box.cell _ rfl | exact Bm6.cell _ rfl) (fun hHeld => ?_)
 clear hK K
 refine cnL 8 fun K hK => ?_
 go_simp
 refine (contains_mv _ m _ _ R6).mono ?_
 rintro e w8 ⟨rfl, hb8⟩
 have G8 := G6.below hb8
 have Bm8 := Bm6.stays hb8
 have L8 := below_trans L6 hb8 L6.size
 clear hb8
 refine hK.out _ _ (by and_intros <;> first | exact G8.box.cell _ rfl | exact Bm8.cell _ rfl) (fun hHeld => ?_)
 clear hK K
 refine tkW 9 ?_
 refine tkW 10 ?_
 refine dnN ?_
 have HG8 := Lib.hid G8
 have HBm8 := Lib.hid Bm8
 have HL8 := Lib.hid L8
 clear G8 Bm8 L8 G6 Bm6 L6 G5 Bm5 L5 N5 R6 Gz Bmz Lz hHeld
 by_cases hmm : m ∈ listZ R (nowZ R ms)
 rotate_left
 ·have HPE : Hid (playErr R ms m = 13) := Lib.hid (by unfold playErr; rw [if_neg (by simp [HR0.out]), if_pos hmm])
  have hd : decide (m ∈ listZ R (nowZ R ms)) = false := by simpa using hmm
  clear hmm
  rw [hd]
  go_wp2_with fail
  go_ret
  exact .inl ⟨by rw [HPE.out]; decide, by rw [HPE.out]; rfl, HL8.out⟩
 have hd : decide (m ∈ listZ R (nowZ R ms)) = true := by simpa using hmm
 rw [hd]
 have HMem := Lib.hid hmm
 have HF := Lib.hid (fits_of HK.out hmm)
 have hc12 := HG8.out.box.cell 12 rfl
 have hbl := HG8.out.box.lt
 obtain ⟨xv, xc, hvm⟩ := own_form2 HG8.out.om
 clear hmm hd
 by_cases hfl : ms.length = 400
 ·have HPE : Hid (playErr R ms m = 9) := Lib.hid (by unfold playErr; rw [if_neg (by simp [HR0.out]), if_neg (by simp [HMem.out]), if_pos hfl])
  have hflI : ((ms.length : Int) == 400) = true := by simp [hfl]
  clear hfl
  rw [hvm] at hc12
  go_wp2_with fail
  go_ret
  exact .inl ⟨by rw [HPE.out]; decide, by rw [HPE.out]; rfl, HL8.out⟩
 have HPE : Hid (playErr R ms m = 0) := Lib.hid (by unfold playErr; rw [if_neg (by simp [HR0.out]), if_neg (by simp [HMem.out]), if_neg hfl])
 have hflI : ((ms.length : Int) == 400) = false := by simp; omega
 have HLT : Hid (ms.length < 400) := Lib.hid (by have := HG8.out.lt; omega)
 have hlm : ms.length ≤ 400 := HG8.out.lt
 clear hfl
 rw [hvm] at hc12
 go_upto_region 7 with (fail)
 clear hc12 hbl hvm hflI
 obtain ⟨i0, hi0, hi1, hi2, hi3⟩ := info_of info_pv
 obtain ⟨j0, hj0, hj1, hj2, hj3⟩ := info_of infoMove
 have HI0 := Lib.hid hi0
 have HI1 := Lib.hid hi1
 have HI2 := Lib.hid hi2
 have HI3 := Lib.hid hi3
 have HJ0 := Lib.hid hj0
 have HJ1 := Lib.hid hj1
 have HJ2 := Lib.hid hj2
 have HJ3 := Lib.hid hj3
 clear hi0 hi1 hi2 hi3 hj0 hj1 hj2 hj3
 generalize w8 = wq at *
 have Gz : GameAt S base wq.drew b R ms vp vs ve (.slice (some ⟨g, 0, none⟩) (ms.length + 1) c) vm rows := HG8.out.below (below_drew' (Below.refl _ _))
 have Bmz := HBm8.out.drew
 have Lz : Below w.heap.size w wq.drew := below_drew' HL8.out
 clear HG8 HBm8 HL8
 refine wp_region_noPanic ?_
 refine beginL (S := (fun w' => w'.cell? ⟨b, 0, none⟩ = some (.string R.name) ∧ w'.cell? ⟨b, 1, none⟩ = some (.int .i64 R.width) ∧ w'.cell? ⟨b, 2, none⟩ = some (.int .i64 R.height) ∧ w'.cell? ⟨b, 3, none⟩ = some vp ∧ w'.cell? ⟨b, 4, none⟩ = some vs ∧ w'.cell? ⟨b, 5, none⟩ = some (.bool R.falls) ∧ w'.cell? ⟨b, 6, none⟩ = some (.bool R.keeps) ∧ w'.cell? ⟨b, 7, none⟩ = some ve ∧ w'.cell? ⟨b, 8, none⟩ = some (.int .i64 R.blocked) ∧ w'.cell? ⟨b, 9, none⟩ = some (.int .i64 R.quiet) ∧ w'.cell? ⟨b, 10, none⟩ = some (.int .i64 R.rept) ∧ w'.cell? ⟨b, 11, none⟩ = some (.slice (some ⟨g, 0, none⟩) (ms.length + 1) c) ∧ w'.cell? ⟨w.heap.size, 0, none⟩ = some (.int .i64 m.src) ∧ w'.cell? ⟨w.heap.size, 1, none⟩ = some (.int .i64 m.dst) ∧ w'.cell? ⟨w.heap.size, 2, none⟩ = some (.int .i64 m.piece))) (L := [17]) (by kernel_rfl) (by and_intros <;> first | exact Gz.box.cell _ rfl | exact Bmz.cell _ rfl) (fun hHeld => ?_)
 refine tkW 0 ?_
 refine tkW 1 ?_
 refine tkW 5 ?_
 refine tkW 9 ?_
 refine tkL 11 ?_
 refine tkW 2 ?_
 refine tkW 6 ?_
 refine tkW 3 ?_
 refine tkW 7 ?_
 refine tkL 4 ?_
 refine tkL 8 ?_
 refine cnL 10 fun K hK => ?_
 go_simp
 refine (now_any _ Gz).mono ?_
 rintro e w10 ⟨nc, n0, n1, rfl, hn10, hb10⟩
 have G10 := Gz.below hb10
 have Bm10 := Bmz.stays hb10
 have L10 := below_trans Lz hb10 Lz.size
 have N10 := hn10.now
 clear hb10 hn10
 refine hK.out _ _ (by and_intros <;> first | exact G10.box.cell _ rfl | exact Bm10.cell _ rfl) (fun hHeld => ?_)
 clear hK K
 refine cnL 12 fun K hK => ?_
 go_simp
 refine (Make_any R vp vs ve (nowZ R ms) nc n0 n1 m _ N10 HK.out HF.out).mono ?_
 rintro e w12 ⟨yc, y0, y1, rfl, ho12, hb12⟩
 obtain ⟨ya, yn, rfl⟩ := own_form2 ho12.1
 obtain ⟨ya0, yn0, rfl⟩ := own_form2 ho12.2.1
 obtain ⟨ya1, yn1, rfl⟩ := own_form2 ho12.2.2.1
 unfold posV
 have G12 := G10.below hb12
 have Bm12 := Bm10.stays hb12
 have L12 := below_trans L10 hb12 L10.size
 have P12 : OwnP w.heap.size w12 (makeZ R (nowZ R ms) m) (.slice ya (makeZ R (nowZ R ms) m).cells.length yn) (.slice ya0 (makeZ R (nowZ R ms) m).h0.length yn0) (.slice ya1 (makeZ R (nowZ R ms) m).h1.length yn1) := ho12.base L10.size
 clear hb12 ho12
 refine hK.out _ _ (by and_intros <;> first | exact G12.box.cell _ rfl | exact Bm12.cell _ rfl) (fun hHeld => ?_)
 clear hK K
 refine cnL 13 fun K hK => ?_
 go_simp
 refine K_world ?_
 intro w13 e13
 have hb13 : Below w12.heap.size w12 w13 := by rw [e13]; exact (Below.refl _ _).alloc (Nat.le_refl _) _
 have N13 : Box w13 w12.heap.size [.slice ya (makeZ R (nowZ R ms) m).cells.length yn, .slice ya0 (makeZ R (nowZ R ms) m).h0.length yn0, .slice ya1 (makeZ R (nowZ R ms) m).h1.length yn1, .int .i64 (makeZ R (nowZ R ms) m).turn, .int .i64 (makeZ R (nowZ R ms) m).quiet] 66 := by rw [e13]; exact Box.new' _ _ _ _ rfl
 have G13 := G12.below hb13
 have Bm13 := Bm12.stays hb13
 have L13 := below_trans L12 hb13 L12.size
 have P13 : OwnP w.heap.size w13 (makeZ R (nowZ R ms) m) (.slice ya (makeZ R (nowZ R ms) m).cells.length yn) (.slice ya0 (makeZ R (nowZ R ms) m).h0.length yn0) (.slice ya1 (makeZ R (nowZ R ms) m).h1.length yn1) := ⟨own_stays P12.1 hb13, own_stays P12.2.1 hb13, own_stays P12.2.2.1 hb13, P12.2.2.2⟩
 clear hb13 e13
 refine hK.out _ _ (by and_intros <;> first | exact G13.box.cell _ rfl | exact Bm13.cell _ rfl) (fun hHeld => ?_)
 clear hK K
 refine cnL 14 fun K hK => ?_
 rw [if_pos (by rfl)]
 refine wp_append_lies _ _ _ 148 rfl base 66 i0 (.agg #[.slice none 0 0, .slice none 0 0, .slice none 0 0, .int .i64 0, .int .i64 0]) 5 88 Tryz.underlying148 HI0.out HI1.out HI2.out HI3.out rfl (by decide) (.slice (some ⟨g, 0, none⟩) (ms.length + 1) c) (ms.length + 1) (flatV rows) rfl G13.ol ⟨w12.heap.size, 0, none⟩ 1 1 [.slice ya (makeZ R (nowZ R ms) m).cells.length yn, .slice ya0 (makeZ R (nowZ R ms) m).h0.length yn0, .slice ya1 (makeZ R (nowZ R ms) m).h1.length yn1, .int .i64 (makeZ R (nowZ R ms) m).turn, .int .i64 (makeZ R (nowZ R ms) m).quiet] rfl rfl (box_srcV N13) five_pv (by decide) (by unfold maxLen; omega) (by omega) (Nat.le_trans HBB.out L13.size) w13.heap.size rfl ?_
 intro g7 c7 w14 ho14 hg14 hq14 hl14
 have hgo : ∀ q, Value.ownBlock (.slice (some ⟨g, 0, none⟩) (ms.length + 1) c) = some q → q < w.heap.size := fun q hq => HOL.out q hq
 have B14 : Box w14 b [.string R.name, .int .i64 R.width, .int .i64 R.height, vp, vs, .bool R.falls, .bool R.keeps, ve, .int .i64 R.blocked, .int .i64 R.quiet, .int .i64 R.rept, .slice (some ⟨g, 0, none⟩) (ms.length + 1) c, vm] 150 := G13.box.grown hg14 (fun e => (G13.sl b e.symm).2 rfl)
 have Bm14 : Box w14 w.heap.size [.int .i64 m.src, .int .i64 m.dst, .int .i64 m.piece] 44 := Bm13.grown hg14 (fun e => by have := hgo _ e.symm; omega)
 have F14 : Fr S w w14 := (Fr.of_new L13).grown hg14 (fun q hq _ => (G13.sl q hq).1)
 have F1314 : Fr S w13 w14 := (Fr.refl S w13).grown hg14 (fun q hq _ => (G13.sl q hq).1)
 have M14 := G13.om.kept hg14 (apart_swap G13.ap)
 have O14 := ho14
 have Z14 := hg14.size
 have Q14 := newQ (g := g) hq14 L13.size
 have Q14S := newS (S := S) hq14 (fun q hq => (G13.sl q hq).1)
 have P14 : Held S w13 fun w' => OwnP w.heap.size w' (makeZ R (nowZ R ms) m) (.slice ya (makeZ R (nowZ R ms) m).cells.length yn) (.slice ya0 (makeZ R (nowZ R ms) m).h0.length yn0) (.slice ya1 (makeZ R (nowZ R ms) m).h1.length yn1) := ownP_held P13 (fun q h1 _ hS => by have := HSL.out q hS; omega)
 have LB14 : Below base w w14 := Below.grown ((L13.mono HBB.out)) hg14 (Nat.le_trans HBB.out L13.size) (fun q hq => (G13.ol.lt q hq).1)
 clear ho14 hg14 hq14
 refine hK.out _ _ (by and_intros <;> first | exact B14.cell _ rfl | exact Bm14.cell _ rfl) (fun hHeld => ?_)
 clear hK K
 refine tkW 15 ?_
 refine tkW 16 ?_
 refine ltL 17 fun K hK => ?_
 have dd := B14.cell 11 rfl
 have df := B14.frozen 11
 go_simp
 refine K_world ?_
 intro w17 e17
 have E17 := Lib.hid e17
 clear e17 dd df
 refine hK.out _ _ ?_
 clear hK K
 refine dnN ?_
 have B17 : Box w17 b [.string R.name, .int .i64 R.width, .int .i64 R.height, vp, vs, .bool R.falls, .bool R.keeps, ve, .int .i64 R.blocked, .int .i64 R.quiet, .int .i64 R.rept, .slice (some ⟨g7, 0, none⟩) (ms.length + 1 + 1) c7, vm] 150 := by rw [E17.out]; exact B14.set 11 _
 have hgb : g7 ≠ b := fun e => by rcases Q14 with q | q; exact (HSLb.out (by rw [← q, e])); have := HGB.out; omega
 have O17 : w17.ownsRow base 66 5 (.slice (some ⟨g7, 0, none⟩) (ms.length + 1 + 1) c7) (ms.length + 1 + 1) (flatV rows ++ [.slice ya (makeZ R (nowZ R ms) m).cells.length yn, .slice ya0 (makeZ R (nowZ R ms) m).h0.length yn0, .slice ya1 (makeZ R (nowZ R ms) m).h1.length yn1, .int .i64 (makeZ R (nowZ R ms) m).turn, .int .i64 (makeZ R (nowZ R ms) m).quiet]) := by rw [E17.out]; exact row_farW (p := ⟨b, 11, none⟩) O14 (fun e => hgb (by simpa [Value.ownBlock] using e)) _
 have M17 : w17.ownsRow base 44 3 vm ms.length (flatM ms) := by rw [E17.out]; exact row_farW (p := ⟨b, 11, none⟩) M14 (fun e => (G13.sm b e).2 rfl) _
 have F17 : Fr S w w17 := by rw [E17.out]; exact F14.setCell G13.sb _
 have hsh : Shr w13 S (fun k => S k ∨ k = g7) := shr_one Q14S
 have P17 : Held (fun k => S k ∨ k = g7) w17 fun w' => OwnP w.heap.size w' (makeZ R (nowZ R ms) m) (.slice ya (makeZ R (nowZ R ms) m).cells.length yn) (.slice ya0 (makeZ R (nowZ R ms) m).h0.length yn0) (.slice ya1 (makeZ R (nowZ R ms) m).h1.length yn1) := by rw [E17.out]; exact (P14.step F1314 hsh).step ((Fr.refl (fun k => S k ∨ k = g7) w14).setCell (.inl G13.sb) _) (Shr.refl _ _)
 have Bm17 : Box w17 w.heap.size [.int .i64 m.src, .int .i64 m.dst, .int .i64 m.piece] 44 := by rw [E17.out]; exact Bm14.far ⟨b, 11, none⟩ _ (fun e => by have := HGB.out; simp at e; omega)
 have Z17 : w14.heap.size = w17.heap.size := by rw [E17.out]; simp [World.setCell]
 have LB17 : Below base w w17 := by rw [E17.out]; exact LB14.setCell (p := ⟨b, 11, none⟩) (G13.lo b G13.sb).1 _
 have HH := Lib.hid (And.intro B17 (And.intro hgb (And.intro O17 (And.intro M17 (And.intro F17 (And.intro P17 (And.intro Bm17 (And.intro Q14 (And.intro LB17 (And.intro Z14 Z17))))))))))
 have HG13 := Lib.hid G13
 clear B17 hgb O17 M17 F17 hsh P17 Bm17 Z14 Z17 LB17 LB14 Q14 Q14S B14 Bm14 F14 F1314 M14 O14 P14 P13 P12 N13 G13 G12 G10 Gz Bmz Bm10 Bm12 Bm13 Lz L10 L12 L13 N10 hgo E17 hl14 hHeld
 go_upto_region 8 with (fail)
 generalize w17 = x17 at *
 obtain ⟨B17, hgb, O17, M17, F17, P17, Bm17, Q14, LB17, Z14, Z17⟩ := HH.out
 clear HH
 have HSH : Hid (Shr w S (fun k => S k ∨ k = g7)) := Lib.hid (fun k hk h => by
  rcases h with h | h
  ·exact h
  ·subst h
   rcases Q14 with q | q
   ·rw [q]; exact (HG13.out.sl g rfl).1
   ·omega)
 have HAP : Hid (Value.ownBlock (.slice (some ⟨g7, 0, none⟩) (ms.length + 1 + 1) c7) = none ∨ Value.ownBlock (.slice (some ⟨g7, 0, none⟩) (ms.length + 1 + 1) c7) ≠ vm.ownBlock) := Lib.hid (.inr (fun e => by
  rcases Q14 with q | q
  ·rw [q] at e
   rcases HG13.out.ap with h | h
   ·cases h
   ·exact h e
  ·have := HOM.out g7 e.symm; omega))
 have HNE : Hid (∀ g8, g7 = g8 → (vm.ownBlock = some g8 ∨ x17.heap.size ≤ g8) → False) := Lib.hid (fun g8 e h => by
  subst e
  rcases h with h | h
  ·rcases HAP.out with q | q
   ·cases q
   ·exact q h.symm
  ·have := (O17.lt g7 rfl).2; omega)
 have HSM : Hid (∀ k, vm.ownBlock = some k → S k) := Lib.hid (fun k hk => (HG13.out.sm k hk).1)
 have By : Box x17.drew b [.string R.name, .int .i64 R.width, .int .i64 R.height, vp, vs, .bool R.falls, .bool R.keeps, ve, .int .i64 R.blocked, .int .i64 R.quiet, .int .i64 R.rept, .slice (some ⟨g7, 0, none⟩) (ms.length + 1 + 1) c7, vm] 150 := B17
 have Bmy : Box x17.drew w.heap.size [.int .i64 m.src, .int .i64 m.dst, .int .i64 m.piece] 44 := Bm17
 have My : x17.drew.ownsRow base 44 3 vm ms.length (flatM ms) := M17
 have Oy : x17.drew.ownsRow base 66 5 (.slice (some ⟨g7, 0, none⟩) (ms.length + 1 + 1) c7) (ms.length + 1 + 1) (flatV rows ++ [.slice ya (makeZ R (nowZ R ms) m).cells.length yn, .slice ya0 (makeZ R (nowZ R ms) m).h0.length yn0, .slice ya1 (makeZ R (nowZ R ms) m).h1.length yn1, .int .i64 (makeZ R (nowZ R ms) m).turn, .int .i64 (makeZ R (nowZ R ms) m).quiet]) := O17
 have LBy : Below base w x17.drew := below_drew' LB17
 have Z17y : x17.heap.size ≤ x17.drew.heap.size := Nat.le_refl _
 clear B17 O17 M17 Bm17 Q14 LB17 Z14 Z17
 refine wp_region_noPanic ?_
 refine beginL (S := (fun w' => w'.cell? ⟨b, 12, none⟩ = some vm ∧ w'.cell? ⟨w.heap.size, 0, none⟩ = some (.int .i64 m.src) ∧ w'.cell? ⟨w.heap.size, 1, none⟩ = some (.int .i64 m.dst) ∧ w'.cell? ⟨w.heap.size, 2, none⟩ = some (.int .i64 m.piece))) (L := [10]) (by kernel_rfl) ⟨By.cell 12 rfl, Bmy.cell 0 rfl, Bmy.cell 1 rfl, Bmy.cell 2 rfl⟩ (fun hHeld => ?_)
 refine tkW 0 ?_
 refine tkW 1 ?_
 refine tkL 5 ?_
 refine tkW 2 ?_
 refine tkW 3 ?_
 refine tkL 4 ?_
 refine cnL 6 fun K hK => ?_
 go_simp
 refine K_world ?_
 intro x6 e6
 have hb6 : Below x17.drew.heap.size x17.drew x6 := by rw [e6]; exact (Below.refl _ _).alloc (Nat.le_refl _) _
 have N6 : Box x6 x17.heap.size [.int .i64 m.src, .int .i64 m.dst, .int .i64 m.piece] 44 := by rw [e6]; exact Box.new' _ _ _ _ rfl
 have B6 := By.stays hb6
 have Bm6 := Bmy.stays hb6
 have M6 := own_stays My hb6
 have O6 := own_stays Oy hb6
 have F6 : Fr (fun k => S k ∨ k = g7) x17.drew x6 := Fr.of_new hb6
 have Z6 := hb6.size
 have LB6 : Below base w x6 := LBy.trans (hb6.mono (Nat.le_trans HBB.out LBy.size))
 clear hb6 e6
 refine hK.out _ _ ⟨B6.cell 12 rfl, Bm6.cell 0 rfl, Bm6.cell 1 rfl, Bm6.cell 2 rfl⟩ (fun hHeld => ?_)
 clear hK K
 refine cnL 7 fun K hK => ?_
 rw [if_pos (by rfl)]
 refine wp_append_lies _ _ _ 100 rfl base 44 j0 (.agg #[.int .i64 0, .int .i64 0, .int .i64 0]) 3 24 Tryz.underlying100 HJ0.out HJ1.out HJ2.out HJ3.out rfl (by decide) vm ms.length (flatM ms) rfl M6 ⟨x17.heap.size, 0, none⟩ 1 1 [.int .i64 m.src, .int .i64 m.dst, .int .i64 m.piece] rfl rfl (box_srcV N6) three_ints (by decide) (by unfold maxLen; omega) (by omega) (Nat.le_trans HBB.out LB6.size) x6.heap.size rfl ?_
 intro g8 c8 x7 ho7 hg7 hq7 hl7
 have B7 : Box x7 b [.string R.name, .int .i64 R.width, .int .i64 R.height, vp, vs, .bool R.falls, .bool R.keeps, ve, .int .i64 R.blocked, .int .i64 R.quiet, .int .i64 R.rept, .slice (some ⟨g7, 0, none⟩) (ms.length + 1 + 1) c7, vm] 150 := B6.grown hg7 (fun e => (HG13.out.sm b e.symm).2 rfl)
 have Bm7 : Box x7 w.heap.size [.int .i64 m.src, .int .i64 m.dst, .int .i64 m.piece] 44 := Bm6.grown hg7 (fun e => by have := HOM.out _ e.symm; omega)
 have O7 := O6.kept hg7 HAP.out
 have F7 : Fr (fun k => S k ∨ k = g7) x17.drew x7 := F6.grown hg7 (fun q hq _ => .inl (HSM.out q hq))
 have Q7 := newQ2 hq7 (Nat.le_trans Z17y Z6)
 have Q7S := hq7
 have M7 := ho7
 have Z7 := hg7.size
 have LB7 : Below base w x7 := Below.grown LB6 hg7 (Nat.le_trans HBB.out LB6.size) (fun q hq => (M6.lt q hq).1)
 clear ho7 hg7 hq7
 refine hK.out _ _ ⟨B7.cell 12 rfl, Bm7.cell 0 rfl, Bm7.cell 1 rfl, Bm7.cell 2 rfl⟩ (fun hHeld => ?_)
 clear hK K
 refine tkW 8 ?_
 refine tkW 9 ?_
 refine ltL 10 fun K hK => ?_
 have dd := B7.cell 12 rfl
 have df := B7.frozen 12
 go_simp
 refine K_world ?_
 intro x10 e10
 have E10 := Lib.hid e10
 clear e10 dd df
 refine hK.out _ _ ?_
 clear hK K
 refine dnN ?_
 have B10 : Box x10 b [.string R.name, .int .i64 R.width, .int .i64 R.height, vp, vs, .bool R.falls, .bool R.keeps, ve, .int .i64 R.blocked, .int .i64 R.quiet, .int .i64 R.rept, .slice (some ⟨g7, 0, none⟩) (ms.length + 1 + 1) c7, .slice (some ⟨g8, 0, none⟩) (ms.length + 1) c8] 150 := by rw [E10.out]; exact B7.set 12 _
 have hhb : g8 ≠ b := fun e => by rcases Q7 with q | q; exact (HG13.out.sm g8 q).2 e; have := HGB.out; have := F17.size; omega
 have O10 : x10.ownsRow base 66 5 (.slice (some ⟨g7, 0, none⟩) (ms.length + 1 + 1) c7) (ms.length + 1 + 1) (flatV (rows ++ [⟨(makeZ R (nowZ R ms) m), .slice ya (makeZ R (nowZ R ms) m).cells.length yn, .slice ya0 (makeZ R (nowZ R ms) m).h0.length yn0, .slice ya1 (makeZ R (nowZ R ms) m).h1.length yn1⟩])) := by rw [E10.out, ← flatV_append]; exact row_farW (p := ⟨b, 12, none⟩) O7 (fun e => hgb (by simpa [Value.ownBlock] using e)) _
 have M10 : x10.ownsRow base 44 3 (.slice (some ⟨g8, 0, none⟩) (ms.length + 1) c8) (ms.length + 1) (flatM (ms ++ [m])) := by rw [E10.out, ← flatM_append]; exact row_farW (p := ⟨b, 12, none⟩) M7 (fun e => hhb (by simpa [Value.ownBlock] using e)) _
 have F10 : Fr (fun k => S k ∨ k = g7) x17.drew x10 := by rw [E10.out]; exact F7.setCell (.inl HG13.out.sb) _
 have FW : Fr S w x10 := (F17.drew).trans F10 HSH.out
 have hs10 : Shr x17.drew (fun k => S k ∨ k = g7) (fun k => (S k ∨ k = g7) ∨ k = g8) := shr_two Q7 HSM.out Z17y
 have hsw : Shr w S (fun k => (S k ∨ k = g7) ∨ k = g8) := HSH.out.trans hs10 F17.size
 have P10 := (P17.step (Fr.drew (Fr.refl _ x17)) (Shr.refl _ _)).step F10 hs10
 have Z10 : x7.heap.size = x10.heap.size := by rw [E10.out]; simp [World.setCell]
 have LB10 : Below base w x10 := by rw [E10.out]; exact LB7.setCell (p := ⟨b, 12, none⟩) (HG13.out.lo b HG13.out.sb).1 _
 have hgf : GameAt (fun k => (S k ∨ k = g7) ∨ k = g8) base x10 b R (ms ++ [m]) vp vs ve (.slice (some ⟨g7, 0, none⟩) (ms.length + 1 + 1) c7) (.slice (some ⟨g8, 0, none⟩) (ms.length + 1) c8) (rows ++ [⟨(makeZ R (nowZ R ms) m), .slice ya (makeZ R (nowZ R ms) m).cells.length yn, .slice ya0 (makeZ R (nowZ R ms) m).h0.length yn0, .slice ya1 (makeZ R (nowZ R ms) m).h1.length yn1⟩]) := ⟨B10, .inl (.inl HG.out.sb), fun k hk => by
   rcases hk with (hk | hk) | hk
   ·exact ⟨(HG.out.lo k hk).1, Nat.lt_of_lt_of_le (HG.out.lo k hk).2 FW.size⟩
   ·rw [hk]; exact O10.lt g7 rfl
   ·rw [hk]; exact M10.lt g8 rfl, HG.out.rd.step FW hsw, by rw [List.length_append]; exact O10, by rw [List.map_append, HG.out.mp, psOf_snoc]; rfl, fun r hr => by
   rcases List.mem_append.1 hr with hr | hr
   ·exact (HG.out.rw r hr).step FW hsw
   ·rw [List.mem_singleton.1 hr]; exact P10.imp (fun _ h => h.rd), by rw [List.length_append]; exact M10, fun k hk => by
   obtain rfl : g7 = k := by simpa [Value.ownBlock] using hk
   exact ⟨.inl (.inr rfl), hgb⟩, fun k hk => by
   obtain rfl : g8 = k := by simpa [Value.ownBlock] using hk
   exact ⟨.inr rfl, hhb⟩, .inr (fun e => HNE.out g8 (by simpa [Value.ownBlock] using e) Q7), by have := HLT.out; simp; omega, HG.out.la.snoc HMem.out, HG.out.re⟩
 have HGf := Lib.hid hgf
 have HFW := Lib.hid FW
 have HSW := Lib.hid hsw
 clear hgf FW hsw B10 hhb O10 M10 F10 hs10 P10 Z10 LB10 hHeld By Bmy My Oy LBy B6 Bm6 M6 O6 F6 B7 Bm7 O7 F7 Q7 M7 LB7 LB6 N6 E10 F17 P17 hgb Z17y
 go_wp2_with fail
 go_ret
 exact .inr ⟨HPE.out, rfl, _, _, _, _, HGf.out, HSW.out, HFW.out⟩
end Go.Proofs.YthklhndcdijneaaGreatDoor
/- The contract of plain.Run. -/
namespace Go.Proofs.YthklhndcdijneaaGreatDoor
open Go.ChangeShapes Go.WideShapes Go.ChangeAt Go.RowKit
set_option linter.unusedVariables false
set_option maxHeartbeats 4000000
set_option maxRecDepth 100000
theorem results_c2g {P : Program} {fn : Func} {tmps : Array Value} {a s s2 : Nat} {t t' : TypeId} {w : World} {b : Nat} {cs : List Value} {v v2 : Value} {d : TypeDesc} (hr : fn.results = #[.cell a t, .tmp s, .tmp s2])
  (ha : tmps.getD a undef = .pointer (some ⟨b, 0, none⟩)) (hs : tmps.getD s undef = v) (hs2 : tmps.getD s2 undef = v2) (hc : Box w b cs t') (hu : P.underlying t = some d) (hd : d.isRow = true) (hi : (P.info? t).map (·.size) = some cs.length) :
  (results fn tmps).run P w = .ok (.tuple #[.agg cs.toArray, v, v2]) w := by
 have hl := run_loadVar_mid (P := P) w b 0 t cs d hc.range hu hd hi
 have ha' : tmps[a]?.getD undef = .pointer (some ⟨b, 0, none⟩) := by simpa using ha
 have hs' : tmps[s]?.getD undef = v := by simpa using hs
 have hs2' : tmps[s2]?.getD undef = v2 := by simpa using hs2
 unfold results
 rw [hr]
 simp [asAddr, ha', hs', hs2', hl]
def runFrom (R : RulesZ) : List MoveZ → List MoveZ → Int
 | _, [] => 0
 | ms, m :: t => if playErr R ms m ≠ 0 then playErr R ms m else runFrom R (ms ++ [m]) t
def runErr (R : RulesZ) (l : List MoveZ) : Int := if rulesErr R ≠ 0 then rulesErr R else runFrom R [] l
theorem runFrom_step (R : RulesZ) (l : List MoveZ) (k : Nat) (h : k < l.length) : runFrom R (l.take k) (l.drop k) = if playErr R (l.take k) (l.getD k default) ≠ 0 then playErr R (l.take k) (l.getD k default) else runFrom R (l.take (k + 1)) (l.drop (k + 1)) := by
 have e : l.getD k default = l[k] := by rw [List.getD_eq_getElem?_getD, List.getElem?_eq_getElem h]; rfl
 rw [List.drop_eq_getElem_cons h, runFrom, e, List.take_succ_eq_append_getElem h]
def PRunPost (R : RulesZ) (l : List MoveZ) (w : World) (e : Ending) (w' : World) : Prop :=
 (runErr R l ≠ 0 ∧ e = .returned (.tuple #[zeroPos, .int .i64 0, .int .i64 (runErr R l)]) ∧ Below w.heap.size w w') ∨
 (runErr R l = 0 ∧ rulesErr R = 0 ∧ LegalAll R (beginZ R) l ∧ l.length ≤ 400 ∧ ∃ vc v0 v1, e = .returned (.tuple #[posV (nowZ R l) vc v0 v1, .int .i64 (gameRes R l), .int .i64 0]) ∧ OwnP w.heap.size w' (nowZ R l) vc v0 v1 ∧ Below w.heap.size w w')
theorem PRun_any (HS : SortMvSaid) (R : RulesZ) (vp vs ve : Value) (v : Value) (l : List MoveZ) (w : World) (hr : RdR w R vp vs ve) (hnm : R.name.size ≤ maxLen) (hl : RdL moveEl w v l) :
  Calls Tryz.prog 40 #[(.agg #[.string R.name, .int .i64 R.width, .int .i64 R.height, vp, vs, .bool R.falls, .bool R.keeps, ve, .int .i64 R.blocked, .int .i64 R.quiet, .int .i64 R.rept]), v] w (PRunPost R l w) := by
 have HSh := Lib.hid HS
 have HR := Lib.hid hr
 have HN := Lib.hid hnm
 have HL := Lib.hid hl
 have HD : Hid (runErr R l = if rulesErr R ≠ 0 then rulesErr R else runFrom R [] l) := Lib.hid rfl
 obtain ⟨a, c, rfl, h1, h2⟩ := hl.form
 unfold maxLen at h2
 clear hr hnm hl HS
 go_enter Tryz.func40, Tryz.ntmps40
 go_upto_region 1 with (fail)
 refine opn2 fun w0 B0 B1 yb_ hs_ => ?_
 have HB := Lib.hid yb_
 have hz0 : w.heap.size + 1 < w0.heap.size := by omega
 clear hs_ yb_
 have HRw := Lib.hid (HR.out.below HB.out (Nat.le_refl _))
 have HX0 := Lib.hid B0
 have HX1 := Lib.hid B1
 clear B0 B1
 refine wp_region_lit ?_
 refine wpList_load_box (by rfl) 26 (.tmp 2) (by rfl) w.heap.size (by rfl) HX0.out Tryz.underlying26 (by rfl) (by kernel_rfl) ?_
 go_wp2_with fail
 refine (New_any R vp vs ve w0 HRw.out HN.out).mono ?_
 rintro e w1 (⟨hbad, rfl, hb1⟩ | ⟨hre, S, b, up, us, ue, vl, vm, rows, rfl, hg1, hb1⟩)
 ·have HE : Hid (runErr R l = rulesErr R) := Lib.hid (by rw [HD.out, if_pos hbad])
  have HNE := Lib.hid hbad
  have he' : (rulesErr R != 0) = true := by simpa using hbad
  have HB1 := Lib.hid (below_trans HB.out hb1 HB.out.size)
  have HX11 := Lib.hid (HX1.out.stays hb1)
  clear hbad hb1
  go_wp2_with (refine wpList_store_box (vs := [.slice none 0 0, .slice none 0 0, .slice none 0 0, .int .i64 0, .int .i64 0]) (by rfl) 66 (.tmp 4) (.tmp 19) (by rfl) (w.heap.size + 1) (by rfl) (by rfl) HX11.out rfl (by kernel_rfl) (by rfl) ?_)
  exact bodyPost_ret (results_c2g rfl (by rfl) (by rfl) (by rfl) (HX11.out.store rfl) Tryz.underlying66 (by rfl) (by kernel_rfl)) rfl (.inl ⟨by rw [HE.out]; exact HNE.out, by rw [HE.out]; rfl, below_setCells HB1.out (by omega) 0 _⟩)
 have HD1 : Hid (runErr R l = runFrom R [] l) := Lib.hid (by rw [HD.out, if_neg (by simp [hre])])
 have HRe := Lib.hid hre
 have HG1 := Lib.hid hg1
 have HB1 := Lib.hid hb1
 clear hg1 hb1 hre HD
 go_wp2_with fail
 go_loopw [23, 10, 11] (fun vi vm' ve' wr => ∃ (k : Nat) (S : Nat → Prop) (vl vm : Value) (rows : List PosV), k ≤ l.length ∧ vi = .int .i64 k ∧ Hid (runErr R l = runFrom R (l.take k) (l.drop k)) ∧ Hid (GameAt S w0.heap.size wr b R (l.take k) up us ue vl vm rows) ∧ Hid (Below w0.heap.size w0 wr)) (fun i _ _ _ => l.length - (intOf i).toNat)
 case atStart => exact ⟨0, S, vl, vm, rows, Nat.zero_le _, rfl, HD1, HG1, HB1⟩
 case round =>
  obtain ⟨k, S, vl, vm, rows, hk, rfl, HDk, HG, HBr⟩ := hrel
  have hsz := HBr.out.size
  have hwz := HB.out.size
  have HY1 := Lib.hid (HX1.out.stays HBr.out)
  have HBw := Lib.hid (below_trans HB.out HBr.out HB.out.size)
  by_cases hlt : k < l.length
  ·obtain ⟨g, o, ha, hg, hcc⟩ := moves_some (HL.out.below HBw.out (Nat.le_refl _)) (by omega)
   subst ha
   obtain ⟨c0, c1, c2⟩ := hcc k hlt
   have HST := Lib.hid (runFrom_step R l k hlt)
   have HTK : Hid (l.take (k + 1) = l.take k ++ [l.getD k default]) := Lib.hid (by rw [List.take_succ_eq_append_getElem hlt, List.getD_eq_getElem?_getD, List.getElem?_eq_getElem hlt]; rfl)
   clear hcc
   generalize l.getD k default = m at *
   go_upto_region 7 with (fail)
   have HBm := Lib.hid (Box.new wr [.int .i64 m.src, .int .i64 m.dst, .int .i64 m.piece] 44)
   have HGm := Lib.hid (HG.out.below ((Below.refl _ wr).alloc (Nat.le_refl _) (.cells #[.int .i64 m.src, .int .i64 m.dst, .int .i64 m.piece] 44)))
   have HBn := Lib.hid (HBr.out.alloc hsz (.cells #[.int .i64 m.src, .int .i64 m.dst, .int .i64 m.piece] 44))
   have HZ1 := Lib.hid (HY1.out.alloc (.cells #[.int .i64 m.src, .int .i64 m.dst, .int .i64 m.piece] 44))
   have hzm : wr.heap.size < (wr.alloc (.cells #[.int .i64 m.src, .int .i64 m.dst, .int .i64 m.piece] 44)).heap.size := by simp
   clear c0 c1 c2
   generalize (wr.alloc (.cells #[.int .i64 m.src, .int .i64 m.dst, .int .i64 m.piece] 44)) = wn at *
   have d0 := HBm.out.cell 0 rfl
   have d1 := HBm.out.cell 1 rfl
   have d2 := HBm.out.cell 2 rfl
   go_wp2_with fail
   refine (Play_any HSh.out m wn HGm.out HBn.out.size).mono ?_
   rintro e w2 (⟨hbad, rfl, hb2⟩ | ⟨hok, rfl, S', vl', vm', rows', hg2, hsh, hf2⟩)
   ·have HE : Hid (runErr R l = playErr R (l.take k) m) := Lib.hid (by rw [HDk.out, HST.out, if_pos hbad])
    have HNE := Lib.hid hbad
    have he' : (playErr R (l.take k) m != 0) = true := by simpa using hbad
    have HB2 := Lib.hid (below_trans HB.out (HBn.out.trans (hb2.mono HBn.out.size)) HB.out.size)
    have HZ2 := Lib.hid (HZ1.out.stays hb2)
    clear hbad hb2
    go_wp2_with (refine wpList_store_box (vs := [.slice none 0 0, .slice none 0 0, .slice none 0 0, .int .i64 0, .int .i64 0]) (by rfl) 66 (.tmp 4) (.tmp 32) (by rfl) (w.heap.size + 1) (by rfl) (by rfl) HZ2.out rfl (by kernel_rfl) (by rfl) ?_)
    exact bodyPost_ret (results_c2g rfl (by rfl) (by rfl) (by rfl) (HZ2.out.store rfl) Tryz.underlying66 (by rfl) (by kernel_rfl)) rfl (.inl ⟨by rw [HE.out]; exact HNE.out, by rw [HE.out]; rfl, below_setCells HB2.out (by omega) 0 _⟩)
   ·have HE : Hid (runErr R l = runFrom R (l.take (k + 1)) (l.drop (k + 1))) := Lib.hid (by rw [HDk.out, HST.out, if_neg (by simp [hok])])
    have HG2 : Hid (GameAt S' w0.heap.size w2 b R (l.take (k + 1)) up us ue vl' vm' rows') := Lib.hid (by rw [HTK.out]; exact hg2)
    have HB2 := Lib.hid (HBn.out.trans (HGm.out.frame hf2 HBn.out.size))
    clear hok hg2 hsh hf2
    go_wp2_with fail
    go_roundw
    case rel => exact ⟨k + 1, S', vl', vm', rows', by omega, by go_num, HE, HG2, HB2⟩
    case measure => simp [intOf]; omega
  ·obtain rfl : k = l.length := by omega
   have HGl : Hid (GameAt S w0.heap.size wr b R l up us ue vl vm rows) := Lib.hid (by have := HG.out; rwa [List.take_of_length_le (Nat.le_refl _)] at this)
   have HE : Hid (runErr R l = 0) := Lib.hid (by rw [HDk.out, List.drop_of_length_le (Nat.le_refl _)]; rfl)
   have HLA := Lib.hid HGl.out.la
   have HLT := Lib.hid HGl.out.lt
   clear HG HDk
   go_upto_region 11 with (fail)
   go_wp2_with fail
   refine (gamePos_any wr HGl.out).mono ?_
   rintro e w2 ⟨yc, y0, y1, rfl, ho2, hb2⟩
   obtain ⟨ya, yn, rfl⟩ := own_form2 ho2.1
   obtain ⟨ya0, yn0, rfl⟩ := own_form2 ho2.2.1
   obtain ⟨ya1, yn1, rfl⟩ := own_form2 ho2.2.2.1
   have HG2 := Lib.hid (HGl.out.below hb2)
   have HZ2 := Lib.hid (HY1.out.stays hb2)
   have HB2 := Lib.hid (below_trans HBw.out hb2 HBw.out.size)
   have HO2 := Lib.hid ho2
   have hz1 := HY1.out.lt
   clear hb2 ho2
   go_wp2_with fail
   refine (gameRes_any HSh.out w2 HG2.out).mono ?_
   rintro e w3 ⟨rfl, hb3⟩
   have HZ3 := Lib.hid (HZ2.out.stays hb3)
   have HB3 := Lib.hid (below_trans HB2.out hb3 HB2.out.size)
   have HO3 : Hid (OwnP wr.heap.size w3 (nowZ R l) (.slice ya (nowZ R l).cells.length yn) (.slice ya0 (nowZ R l).h0.length yn0) (.slice ya1 (nowZ R l).h1.length yn1)) := Lib.hid ⟨own_stays HO2.out.1 hb3, own_stays HO2.out.2.1 hb3, own_stays HO2.out.2.2.1 hb3, HO2.out.2.2.2⟩
   clear hb3
   go_wp2_with (refine wpList_store_box (vs := [.slice ya (nowZ R l).cells.length yn, .slice ya0 (nowZ R l).h0.length yn0, .slice ya1 (nowZ R l).h1.length yn1, .int .i64 (nowZ R l).turn, .int .i64 (nowZ R l).quiet]) (by rfl) 66 (.tmp 4) (.tmp 36) (by rfl) (w.heap.size + 1) (by rfl) (by rfl) HZ3.out rfl (by kernel_rfl) (by rfl) ?_)
   exact bodyPost_ret (results_c2g rfl (by rfl) (by rfl) (by rfl) (HZ3.out.store rfl) Tryz.underlying66 (by rfl) (by kernel_rfl)) rfl (.inr ⟨HE.out, HRe.out, HLA.out, HLT.out, _, _, _, rfl, (HO3.out.setCells hz1 0 _).base (by have := HBw.out.size; omega), below_setCells HB3.out (by omega) 0 _⟩)
end Go.Proofs.YthklhndcdijneaaGreatDoor
namespace Go.Proofs.YthklhndcdijneaaGreatDoor
open Go.ChangeShapes Go.WideShapes Go.ChangeAt Go.RowKit
set_option linter.unusedVariables false
theorem callIdx (s : ByteArray) (c : Int) (w : World) : (callFunc 110 #[.string s, .int .u8 c]).run Tryz.prog w = .ok (.value (.int .i64 (firstIdx s c.toNat.toUInt8))) w := by
 rw [run_callFunc_extern (e := Extern.BytealgIndexByte.indexByte) Tryz.func110 (by kernel_rfl) (by kernel_rfl) (by kernel_rfl) (by kernel_rfl), run_indexByte_string]
 rfl
theorem slIdx_any (s : ByteArray) (c : Int) (w : World) : Calls Tryz.prog 82 #[.string s, .int .u8 c] w fun e w' => e = .returned (.int .i64 (firstIdx s c.toNat.toUInt8)) ∧ w = w' := by
 have hx := callIdx s c
 go_enter Tryz.func82, Tryz.ntmps82
 go_wp2_with fail
 go_ret
 exact ⟨rfl, rfl⟩
theorem idxByte_any (s : ByteArray) (c : Int) (w : World) : Calls Tryz.prog 61 #[.string s, .int .u8 c] w fun e w' => e = .returned (.int .i64 (firstIdx s c.toNat.toUInt8)) ∧ w = w' := by
 go_enter Tryz.func61, Tryz.ntmps61
 go_wp2_with (go_at_call 82; refine (slIdx_any s c w).mono ?_; rintro e w1 ⟨rfl, rfl⟩)
 go_ret
 exact ⟨rfl, rfl⟩
/-- a permitted byte. -/
def chOk (nt : ByteArray) (b : UInt8) : Bool := !(decide (b.toNat < 32) || (decide (126 < b.toNat) || decide (0 ≤ firstIdx nt b)))
def printFrom (nt : ByteArray) (l : List UInt8) : Nat → Nat → Bool
 | _, 0 => true
 | k, m + 1 => chOk nt (l.getD k 0) && printFrom nt l (k + 1) m
def printB (s nt : ByteArray) : Bool := printFrom nt s.data.toList 0 s.size
theorem printFrom_step (nt : ByteArray) (l : List UInt8) (k n : Nat) (h : k < n) : printFrom nt l k (n - k) = (chOk nt (l.getD k 0) && printFrom nt l (k + 1) (n - (k + 1))) := by
 rw [show n - k = (n - (k + 1)) + 1 by omega]; rfl
def braces : ByteArray := ⟨#[123, 125]⟩
def quote : ByteArray := ⟨#[34]⟩
def cmtErr (s : ByteArray) : Int := if 60 < s.size then 2 else if printB s braces = false then 3 else 0
set_option maxHeartbeats 2000000 in
theorem printable_any (s nt : ByteArray) (w : World) (hs : s.size ≤ maxLen) :
  Calls Tryz.prog 34 #[.string s, .string nt] w fun e w' => e = .returned (.bool (printB s nt)) ∧ w = w' := by
 unfold maxLen at hs
 have HN : Hid (printB s nt = printFrom nt s.data.toList 0 s.size) := Lib.hid rfl
 go_enter Tryz.func34, Tryz.ntmps34
 go_wp2_with fail
 go_loop [8, 5] (fun i v5 => ∃ (k : Nat) (o : Value), o = v5 ∧ k ≤ s.size ∧ i = .int .i64 k ∧ Hid (printFrom nt s.data.toList 0 s.size = printFrom nt s.data.toList k (s.size - k))) (fun i _ => s.size - (intOf i).toNat)
 case atStart => exact ⟨0, _, rfl, Nat.zero_le _, rfl, Lib.hid rfl⟩
 case round =>
  obtain ⟨k, o, rfl, hk, rfl, HK⟩ := hrel
  by_cases hlt : k < s.size
  ·have HS := Lib.hid (printFrom_step nt s.data.toList k s.size hlt)
   have HB := Lib.hid (byte_at s k hlt)
   have HC : Hid (chOk nt (s.data.toList.getD k 0) = !(decide (s[k].toNat < 32) || (decide (126 < s[k].toNat) || decide (0 ≤ firstIdx nt s[k])))) := Lib.hid (by rw [HB.out]; rfl)
   have HU : Hid (((s[k].toNat : Nat) : Int).toNat.toUInt8 = s[k]) := Lib.hid (by simp)
   by_cases c1 : (s[k].toNat : Int) < 32
   ·go_wp2_with fail
    go_ret
    exact ⟨by rw [HN.out, HK.out, HS.out, HC.out, decide_eq_true (show s[k].toNat < 32 by omega)]; rfl, rfl⟩
   ·by_cases c2 : (126 : Int) < (s[k].toNat : Int)
    ·go_wp2_with fail
     go_ret
     exact ⟨by rw [HN.out, HK.out, HS.out, HC.out, decide_eq_true (show 126 < s[k].toNat by omega)]; simp, rfl⟩
    ·have HI := Lib.hid (idxByte_any nt (s[k].toNat : Int) w)
     rw [HU.out] at HI
     have HC2 : Hid (chOk nt (s.data.toList.getD k 0) = !decide (0 ≤ firstIdx nt s[k])) := Lib.hid (by rw [HC.out, decide_eq_false (show ¬ s[k].toNat < 32 by omega), decide_eq_false (show ¬ 126 < s[k].toNat by omega)]; rfl)
     generalize firstIdx nt s[k] = q at *
     by_cases c3 : 0 ≤ q
     ·go_wp2_with (go_at_call 61; refine HI.out.mono ?_; rintro e w1 ⟨rfl, rfl⟩)
      go_ret
      exact ⟨by rw [HN.out, HK.out, HS.out, HC2.out, decide_eq_true c3]; rfl, rfl⟩
     ·go_wp2_with (go_at_call 61; refine HI.out.mono ?_; rintro e w1 ⟨rfl, rfl⟩)
      go_round
      case rel => exact ⟨k + 1, _, rfl, by omega, by go_num, Lib.hid (by rw [HK.out, HS.out, HC2.out, decide_eq_false (show ¬ 0 ≤ q by omega)]; rfl)⟩
      case measure => simp [intOf]; omega
  ·obtain rfl : k = s.size := by omega
   go_wp2_with fail
   go_ret
   exact ⟨by rw [HN.out, HK.out, Nat.sub_self]; rfl, rfl⟩
theorem comment_any (s : ByteArray) (w : World) (hs : s.size ≤ maxLen) :
  Calls Tryz.prog 17 #[.string s] w fun e w' => e = .returned (.int .i64 (cmtErr s)) ∧ w = w' := by
 have HC : Hid (cmtErr s = if 60 < s.size then 2 else if printB s braces = false then 3 else 0) := Lib.hid rfl
 have HP : Hid (Calls Tryz.prog 34 #[.string s, .string { data := #[123, 125] }] w fun e w' => e = .returned (.bool (printB s braces)) ∧ w = w') := Lib.hid (printable_any s braces w hs)
 unfold maxLen at hs
 go_enter Tryz.func17, Tryz.ntmps17
 by_cases h60 : (60 : Int) < (s.size : Int)
 ·go_wp2_with fail
  go_ret
  exact ⟨by rw [HC.out, if_pos (by omega)]; rfl, rfl⟩
 ·cases hb : printB s braces
  ·rw [hb] at HP
   go_wp2_with (go_at_call 34; refine HP.out.mono ?_; rintro e w1 ⟨rfl, rfl⟩)
   go_ret
   exact ⟨by rw [HC.out, if_neg (by omega), if_pos hb]; rfl, rfl⟩
  ·rw [hb] at HP
   go_wp2_with (go_at_call 34; refine HP.out.mono ?_; rintro e w1 ⟨rfl, rfl⟩)
   go_ret
   exact ⟨by rw [HC.out, if_neg (by omega), if_neg (by rw [hb]; decide)]; rfl, rfl⟩
end Go.Proofs.YthklhndcdijneaaGreatDoor

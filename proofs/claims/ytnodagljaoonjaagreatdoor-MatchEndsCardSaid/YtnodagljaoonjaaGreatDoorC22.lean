/- plain's New and Back, beside blocks that others write. -/
import Derived.Test.YtnodagljaoonjaaGreatDoorC21
import Derived.Test.YtnodagljaoonjaaGreatDoorC09
import Derived.Test.YtnodagljaoonjaaGreatDoorC05
namespace Go.Proofs.YtnodagljaoonjaaGreatDoor.gx
open Go.ChangeShapes Go.WideShapes Go.ChangeAt Go.RowKit
set_option linter.unusedVariables false
set_option maxHeartbeats 4000000
set_option maxRecDepth 100000
def NewPost (R : RulesZ) (w : World) (e : Ending) (w' : World) : Prop :=
 (rulesErr R ≠ 0 ∧ e = .returned (.tuple #[.pointer none, .int .i64 (rulesErr R)]) ∧ Below w.heap.size w w') ∨
 (rulesErr R = 0 ∧ ∃ S b vp vs ve vl vm rows, e = .returned (.tuple #[.pointer (some ⟨b, 0, none⟩), .int .i64 0]) ∧ (∀ X : Nat → Prop, (∀ k, X k → w'.heap.size ≤ k) → GameAt X S w.heap.size w' b R [] vp vs ve vl vm rows) ∧ Below w.heap.size w w')
theorem New_any (R : RulesZ) (vp vs ve : Value) (w : World) (hr : RdR w R vp vs ve) (hnm : R.name.size ≤ maxLen) :
  Calls Tryz.prog 21 #[(.agg #[.string R.name, .int .i64 R.width, .int .i64 R.height, vp, vs, .bool R.falls, .bool R.keeps, ve, .int .i64 R.blocked, .int .i64 R.quiet, .int .i64 R.rept])] w (NewPost R w) := by
 have HR := Lib.hid hr
 have HN := Lib.hid hnm
 clear hr hnm
 go_enter Tryz.func21, Tryz.ntmps21
 go_upto_region 1 with (fail)
 refine opn1 fun w0 B0 yb_ hs_ => ?_
 have HB := Lib.hid yb_
 have hz0 : w.heap.size < w0.heap.size := by omega
 clear hs_ yb_
 have HRw := Lib.hid (HR.out.below HB.out (Nat.le_refl _))
 have HX0 := Lib.hid B0
 clear B0
 refine wp_region_lit ?_
 refine wpList_load_box (by rfl) 26 (.tmp 1) (by rfl) w.heap.size (by rfl) HX0.out Tryz.underlying26 (by rfl) (by kernel_rfl) ?_
 go_wp2_with fail
 refine (Begin_any R vp vs ve w0 HRw.out HN.out).mono ?_
 rintro e w1 (⟨hbad, rfl, hb1⟩ | ⟨hre, c, c0, c1, rfl, hp1, hb1⟩)
 ·have HNE := Lib.hid hbad
  have he' : (rulesErr R != 0) = true := by simpa using hbad
  have HB1 := Lib.hid (below_trans HB.out hb1 HB.out.size)
  clear hbad hb1
  unfold zeroPos
  go_wp2_with fail
  go_ret2
  exact .inl ⟨HNE.out, rfl, HB1.out.alloc HB1.out.size _⟩
 obtain ⟨xa, xn, rfl, -, -⟩ := hp1.1.form
 obtain ⟨xa0, xn0, rfl, -, -⟩ := hp1.2.1.form
 obtain ⟨xa1, xn1, rfl, -, -⟩ := hp1.2.2.form
 have hrk := rok_of hre
 have HRe := Lib.hid hre
 have hl1 : R.pieces.length ≤ 1000 := by have := hrk.np; omega
 have hl2 : R.start.length ≤ 1000 := by have := startLen hre; omega
 have hl3 : R.ends.length ≤ 1000 := by have := hrk.en; omega
 have HWL : Hid (∀ i, i < R.pieces.length → (R.pieces.getD i default).ways.length ≤ 1000) := Lib.hid (fun i hi => by have := (hrk.pc i hi).2.2.1; omega)
 have hy0 := (HX0.out.stays hb1).alloc (.cells #[.slice xa (beginZ R).cells.length xn, .slice xa0 (beginZ R).h0.length xn0, .slice xa1 (beginZ R).h1.length xn1, .int .i64 (beginZ R).turn, .int .i64 (beginZ R).quiet] 59)
 have hyp := Box.new w1 [.slice xa (beginZ R).cells.length xn, .slice xa0 (beginZ R).h0.length xn0, .slice xa1 (beginZ R).h1.length xn1, .int .i64 (beginZ R).turn, .int .i64 (beginZ R).quiet] 59
 have hyl := (below_trans HB.out hb1 HB.out.size).alloc (below_trans HB.out hb1 HB.out.size).size (.cells #[.slice xa (beginZ R).cells.length xn, .slice xa0 (beginZ R).h0.length xn0, .slice xa1 (beginZ R).h1.length xn1, .int .i64 (beginZ R).turn, .int .i64 (beginZ R).quiet] 59)
 have hyr := hp1.below ((Below.refl _ w1).alloc (Nat.le_refl _) (.cells #[.slice xa (beginZ R).cells.length xn, .slice xa0 (beginZ R).h0.length xn0, .slice xa1 (beginZ R).h1.length xn1, .int .i64 (beginZ R).turn, .int .i64 (beginZ R).quiet] 59)) (Nat.le_refl _)
 have hyw : w.heap.size ≤ (w1.alloc (.cells #[.slice xa (beginZ R).cells.length xn, .slice xa0 (beginZ R).h0.length xn0, .slice xa1 (beginZ R).h1.length xn1, .int .i64 (beginZ R).turn, .int .i64 (beginZ R).quiet] 59)).heap.size := hyl.size
 have HY := Lib.hid (And.intro hy0 (And.intro hyp (And.intro hyl (And.intro hyr hyw))))
 clear hre hrk hp1 hb1 hy0 hyp hyl hyr hyw HX0 HB HRw hz0
 unfold posV
 go_upto_region 4 with (fail)
 generalize (w1.alloc (.cells #[.slice xa (beginZ R).cells.length xn, .slice xa0 (beginZ R).h0.length xn0, .slice xa1 (beginZ R).h1.length xn1, .int .i64 (beginZ R).turn, .int .i64 (beginZ R).quiet] 59)) = wq at *
 obtain ⟨hy0, hyp, hyl, hyr, hyw⟩ := HY.out
 have BRz : Box wq.drew w.heap.size [.string R.name, .int .i64 R.width, .int .i64 R.height, vp, vs, .bool R.falls, .bool R.keeps, ve, .int .i64 R.blocked, .int .i64 R.quiet, .int .i64 R.rept] 26 := hy0
 have BPz : Box wq.drew w1.heap.size [.slice xa (beginZ R).cells.length xn, .slice xa0 (beginZ R).h0.length xn0, .slice xa1 (beginZ R).h1.length xn1, .int .i64 (beginZ R).turn, .int .i64 (beginZ R).quiet] 59 := hyp
 have Lz : Below w.heap.size w wq.drew := below_drew' hyl
 have Zz : Below wq.heap.size wq wq.drew := below_drew' (Below.refl _ _)
 have HPq := Lib.hid hyr
 have HWQ := Lib.hid hyw
 clear hy0 hyp hyl hyr hyw HY
 refine wp_region_noPanic ?_
 refine beginL (S := (fun w' => w'.cell? ⟨w.heap.size, 0, none⟩ = some (.string R.name) ∧ w'.cell? ⟨w.heap.size, 1, none⟩ = some (.int .i64 R.width) ∧ w'.cell? ⟨w.heap.size, 2, none⟩ = some (.int .i64 R.height) ∧ w'.cell? ⟨w.heap.size, 3, none⟩ = some vp ∧ w'.cell? ⟨w.heap.size, 4, none⟩ = some vs ∧ w'.cell? ⟨w.heap.size, 5, none⟩ = some (.bool R.falls) ∧ w'.cell? ⟨w.heap.size, 6, none⟩ = some (.bool R.keeps) ∧ w'.cell? ⟨w.heap.size, 7, none⟩ = some ve ∧ w'.cell? ⟨w.heap.size, 8, none⟩ = some (.int .i64 R.blocked) ∧ w'.cell? ⟨w.heap.size, 9, none⟩ = some (.int .i64 R.quiet) ∧ w'.cell? ⟨w.heap.size, 10, none⟩ = some (.int .i64 R.rept) ∧ w'.cell? ⟨w1.heap.size, 0, none⟩ = some (.slice xa (beginZ R).cells.length xn) ∧ w'.cell? ⟨w1.heap.size, 1, none⟩ = some (.slice xa0 (beginZ R).h0.length xn0) ∧ w'.cell? ⟨w1.heap.size, 2, none⟩ = some (.slice xa1 (beginZ R).h1.length xn1) ∧ w'.cell? ⟨w1.heap.size, 3, none⟩ = some (.int .i64 (beginZ R).turn) ∧ w'.cell? ⟨w1.heap.size, 4, none⟩ = some (.int .i64 (beginZ R).quiet))) (L := []) (by kernel_rfl) (by and_intros <;> first | exact BRz.cell _ rfl | exact BPz.cell _ rfl) (fun hHeld => ?_)
 refine tkL 0 ?_
 refine tkL 2 ?_
 refine rdL (rs := [1, 3]) ?_
 refine (AllReadyL.cons (by first | (simp only [List.getElem?_toArray, List.getElem?_cons_zero, List.getElem?_cons_succ] <;> rfl) | rfl) (fun K hK => ?_) (AllReadyL.cons (by first | (simp only [List.getElem?_toArray, List.getElem?_cons_zero, List.getElem?_cons_succ] <;> rfl) | rfl) (fun K hK => ?_) AllReadyL.nil))
 ·skip
  go_simp
  refine (RCopy_any R vp vs ve wq.drew (HR.out.below Lz (Nat.le_refl _)) (by omega) (by omega) (by omega) HWL.out).mono ?_
  rintro e w21 ⟨up, us, ue, rfl, hx1, hb1⟩
  have hc1 := hb1
  have BR1 := BRz.stays hb1
  have BP1 := BPz.stays hb1
  have L1 := below_trans Lz hb1 Lz.size
  have Z1 := Below.trans Zz (hb1.mono Zz.size)
  have X1 := hx1
  have C1 := Below.refl w21.heap.size w21
  clear hb1 hx1 hc1
  refine hK.out _ _ (by and_intros <;> first | exact BR1.cell _ rfl | exact BP1.cell _ rfl) (fun hHeld => ?_)
  clear hK K
  refine cnL 3 fun K hK => ?_
  go_simp
  refine K_world ?_
  intro w3 e3
  have hb3 : Below w21.heap.size w21 w3 := by rw [e3]; exact (Below.refl _ _).alloc (Nat.le_refl _) _
  have N3 : Box w3 w21.heap.size [.slice xa (beginZ R).cells.length xn, .slice xa0 (beginZ R).h0.length xn0, .slice xa1 (beginZ R).h1.length xn1, .int .i64 (beginZ R).turn, .int .i64 (beginZ R).quiet] 59 := by rw [e3]; exact Box.new' _ _ _ _ rfl
  have BR3 := BR1.stays hb3
  have BP3 := BP1.stays hb3
  have L3 := below_trans L1 hb3 L1.size
  have Z3 := Below.trans Z1 (hb3.mono Z1.size)
  have X3 := X1
  have D3 := hb3
  clear hb3 e3
  refine hK.out _ _ (by and_intros <;> first | exact BR3.cell _ rfl | exact BP3.cell _ rfl) (fun hHeld => ?_)
  clear hK K
  refine tkW 4 ?_
  refine cnL 5 fun K hK => ?_
  go_simp
  refine K_world ?_
  intro w5 e5
  have hb5 : Below w3.heap.size w3 w5 := by rw [e5]; exact (Below.refl _ _).alloc (Nat.le_refl _) _
  have G5 : Box w5 w3.heap.size [.string R.name, .int .i64 R.width, .int .i64 R.height, up, us, .bool R.falls, .bool R.keeps, ue, .int .i64 R.blocked, .int .i64 R.quiet, .int .i64 R.rept, .slice (some ⟨w21.heap.size, 0, none⟩) 1 1, .slice none 0 0] 115 := by rw [e5]; exact Box.new' _ _ _ _ rfl
  have BR5 := BR3.stays hb5
  have BP5 := BP3.stays hb5
  have L5 := below_trans L3 hb5 L3.size
  have Z5 := Below.trans Z3 (hb5.mono Z3.size)
  have N5 := N3.stays hb5
  have D5 := hb5
  clear hb5 e5
  refine hK.out _ _ (by and_intros <;> first | exact BR5.cell _ rfl | exact BP5.cell _ rfl) (fun hHeld => ?_)
  clear hK K
  refine tkW 6 ?_
  refine tkW 7 ?_
  refine dnN ?_
  have hS : ∀ k, (fun k => k = w21.heap.size ∨ k = w3.heap.size) k → wq.heap.size ≤ k ∧ k < w5.heap.size := fun k hk => by
   rcases hk with rfl | rfl
   ·exact ⟨Z1.size, N5.lt⟩
   ·exact ⟨Z3.size, G5.lt⟩
  have hR : ∀ X : Nat → Prop, (∀ k, X k → w5.heap.size ≤ k) → Held X (fun k => k = w21.heap.size ∨ k = w3.heap.size) w5 fun w' => RdR w' R up us ue := fun X hX => seen_held X1 (Below.trans D3 (D5.mono D3.size)) (fun k hk => by rcases hk with (rfl | rfl) | hk; exact .inr (Nat.le_refl _); exact .inr D3.size; exact .inr (Nat.le_trans (Nat.le_trans D3.size D5.size) (hX k hk)))
  have hP : ∀ X : Nat → Prop, (∀ k, X k → w5.heap.size ≤ k) → Held X (fun k => k = w21.heap.size ∨ k = w3.heap.size) w5 fun w' => RdP w' (beginZ R) (.slice xa (beginZ R).cells.length xn) (.slice xa0 (beginZ R).h0.length xn0) (.slice xa1 (beginZ R).h1.length xn1) := fun X hX => Held.old (B := wq.heap.size) (fun w' hw => HPq.out.below (Z5.trans hw) (Nat.le_refl _)) (fun k hk => (hS k hk).1) (fun k hk => Nat.le_trans Z5.size (hX k hk)) Z5.size
  have hol : w5.ownsRow wq.heap.size 59 5 (.slice (some ⟨w21.heap.size, 0, none⟩) 1 1) 1 (flatV [⟨beginZ R, .slice xa (beginZ R).cells.length xn, .slice xa0 (beginZ R).h0.length xn0, .slice xa1 (beginZ R).h1.length xn1⟩]) := own_boxV N5 Z1.size
  have hGm : ∀ X : Nat → Prop, (∀ k, X k → w5.heap.size ≤ k) → GameAt X (fun k => k = w21.heap.size ∨ k = w3.heap.size) w.heap.size w5 w3.heap.size R [] up us ue (.slice (some ⟨w21.heap.size, 0, none⟩) 1 1) (.slice none 0 0) [⟨beginZ R, .slice xa (beginZ R).cells.length xn, .slice xa0 (beginZ R).h0.length xn0, .slice xa1 (beginZ R).h1.length xn1⟩] := fun X hX => ⟨G5, .inr rfl, fun k hk => ⟨Nat.le_trans HWQ.out (hS k hk).1, (hS k hk).2⟩, hR X hX, own_base hol HWQ.out, rfl, fun r hr => by rw [List.mem_singleton.1 hr]; exact hP X hX, World.ownsRow_nil _ _ _ _, fun k hk => ⟨.inl (by simpa [Value.ownBlock] using hk.symm), (fun e => by subst e; have h1 : w21.heap.size < _ := N3.lt; simp [Value.ownBlock] at hk; omega)⟩, (fun k hk => by cases hk), .inr (by simp [Value.ownBlock]), by simp, LegalAll.nil _ _, HRe.out⟩
  have HGm := Lib.hid hGm
  have HL5 := Lib.hid L5
  clear hGm hol hP hR hS hHeld
  go_wp2_with fail
  go_ret2
  exact .inr ⟨HRe.out, _, _, _, _, _, _, _, _, rfl, HGm.out, HL5.out⟩
 ·skip
  go_simp
  refine K_world ?_
  intro w3 e3
  have hb3 : Below wq.drew.heap.size wq.drew w3 := by rw [e3]; exact (Below.refl _ _).alloc (Nat.le_refl _) _
  have N3 : Box w3 wq.drew.heap.size [.slice xa (beginZ R).cells.length xn, .slice xa0 (beginZ R).h0.length xn0, .slice xa1 (beginZ R).h1.length xn1, .int .i64 (beginZ R).turn, .int .i64 (beginZ R).quiet] 59 := by rw [e3]; exact Box.new' _ _ _ _ rfl
  have BR3 := BRz.stays hb3
  have BP3 := BPz.stays hb3
  have L3 := below_trans Lz hb3 Lz.size
  have Z3 := Below.trans Zz (hb3.mono Zz.size)
  clear hb3 e3
  refine hK.out _ _ (by and_intros <;> first | exact BR3.cell _ rfl | exact BP3.cell _ rfl) (fun hHeld => ?_)
  clear hK K
  refine cnL 1 fun K hK => ?_
  go_simp
  refine (RCopy_any R vp vs ve w3 (HR.out.below L3 (Nat.le_refl _)) (by omega) (by omega) (by omega) HWL.out).mono ?_
  rintro e w21 ⟨up, us, ue, rfl, hx1, hb1⟩
  have hc1 := hb1
  have BR1 := BR3.stays hb1
  have BP1 := BP3.stays hb1
  have L1 := below_trans L3 hb1 L3.size
  have Z1 := Below.trans Z3 (hb1.mono Z3.size)
  have X1 := hx1
  have C1 := hc1
  have N1 := N3.stays hb1
  clear hb1 hx1 hc1
  refine hK.out _ _ (by and_intros <;> first | exact BR1.cell _ rfl | exact BP1.cell _ rfl) (fun hHeld => ?_)
  clear hK K
  refine tkW 4 ?_
  refine cnL 5 fun K hK => ?_
  go_simp
  refine K_world ?_
  intro w5 e5
  have hb5 : Below w21.heap.size w21 w5 := by rw [e5]; exact (Below.refl _ _).alloc (Nat.le_refl _) _
  have G5 : Box w5 w21.heap.size [.string R.name, .int .i64 R.width, .int .i64 R.height, up, us, .bool R.falls, .bool R.keeps, ue, .int .i64 R.blocked, .int .i64 R.quiet, .int .i64 R.rept, .slice (some ⟨wq.drew.heap.size, 0, none⟩) 1 1, .slice none 0 0] 115 := by rw [e5]; exact Box.new' _ _ _ _ rfl
  have BR5 := BR1.stays hb5
  have BP5 := BP1.stays hb5
  have L5 := below_trans L1 hb5 L1.size
  have Z5 := Below.trans Z1 (hb5.mono Z1.size)
  have N5 := N1.stays hb5
  have D5 := hb5
  clear hb5 e5
  refine hK.out _ _ (by and_intros <;> first | exact BR5.cell _ rfl | exact BP5.cell _ rfl) (fun hHeld => ?_)
  clear hK K
  refine tkW 6 ?_
  refine tkW 7 ?_
  refine dnN ?_
  have hS : ∀ k, (fun k => k = wq.drew.heap.size ∨ k = w21.heap.size) k → wq.heap.size ≤ k ∧ k < w5.heap.size := fun k hk => by
   rcases hk with rfl | rfl
   ·exact ⟨Nat.le_refl _, N5.lt⟩
   ·exact ⟨Z1.size, G5.lt⟩
  have hR : ∀ X : Nat → Prop, (∀ k, X k → w5.heap.size ≤ k) → Held X (fun k => k = wq.drew.heap.size ∨ k = w21.heap.size) w5 fun w' => RdR w' R up us ue := fun X hX => seen_held X1 D5 (fun k hk => by rcases hk with (rfl | rfl) | hk; exact .inl N3.lt; exact .inr (Nat.le_refl _); exact .inr (Nat.le_trans D5.size (hX k hk)))
  have hP : ∀ X : Nat → Prop, (∀ k, X k → w5.heap.size ≤ k) → Held X (fun k => k = wq.drew.heap.size ∨ k = w21.heap.size) w5 fun w' => RdP w' (beginZ R) (.slice xa (beginZ R).cells.length xn) (.slice xa0 (beginZ R).h0.length xn0) (.slice xa1 (beginZ R).h1.length xn1) := fun X hX => Held.old (B := wq.heap.size) (fun w' hw => HPq.out.below (Z5.trans hw) (Nat.le_refl _)) (fun k hk => (hS k hk).1) (fun k hk => Nat.le_trans Z5.size (hX k hk)) Z5.size
  have hol : w5.ownsRow wq.heap.size 59 5 (.slice (some ⟨wq.drew.heap.size, 0, none⟩) 1 1) 1 (flatV [⟨beginZ R, .slice xa (beginZ R).cells.length xn, .slice xa0 (beginZ R).h0.length xn0, .slice xa1 (beginZ R).h1.length xn1⟩]) := own_boxV N5 (Nat.le_refl _)
  have hGm : ∀ X : Nat → Prop, (∀ k, X k → w5.heap.size ≤ k) → GameAt X (fun k => k = wq.drew.heap.size ∨ k = w21.heap.size) w.heap.size w5 w21.heap.size R [] up us ue (.slice (some ⟨wq.drew.heap.size, 0, none⟩) 1 1) (.slice none 0 0) [⟨beginZ R, .slice xa (beginZ R).cells.length xn, .slice xa0 (beginZ R).h0.length xn0, .slice xa1 (beginZ R).h1.length xn1⟩] := fun X hX => ⟨G5, .inr rfl, fun k hk => ⟨Nat.le_trans HWQ.out (hS k hk).1, (hS k hk).2⟩, hR X hX, own_base hol HWQ.out, rfl, fun r hr => by rw [List.mem_singleton.1 hr]; exact hP X hX, World.ownsRow_nil _ _ _ _, fun k hk => ⟨.inl (by simpa [Value.ownBlock] using hk.symm), (fun e => by subst e; have h1 : wq.heap.size < _ := N1.lt; simp [Value.ownBlock] at hk; omega)⟩, (fun k hk => by cases hk), .inr (by simp [Value.ownBlock]), by simp, LegalAll.nil _ _, HRe.out⟩
  have HGm := Lib.hid hGm
  have HL5 := Lib.hid L5
  clear hGm hol hP hR hS hHeld
  go_wp2_with fail
  go_ret2
  exact .inr ⟨HRe.out, _, _, _, _, _, _, _, _, rfl, HGm.out, HL5.out⟩
def BackPost (X S : Nat → Prop) (base b : Nat) (R : RulesZ) (ms : List MoveZ) (vp vs ve : Value) (w : World) (e : Ending) (w' : World) : Prop :=
 (ms.length = 0 ∧ e = .returned (.int .i64 8) ∧ Below w.heap.size w w') ∨
 ∃ n, ms.length = n + 1 ∧ e = .returned (.int .i64 0) ∧ ∃ vl' vm' rows', GameAt X S base w' b R (ms.take n) vp vs ve vl' vm' rows' ∧ Fr S w w'
theorem Back_any {X S : Nat → Prop} {base b : Nat} {R : RulesZ} {ms : List MoveZ} {vp vs ve vl vm : Value} {rows : List PosV} (w : World) (h : GameAt X S base w b R ms vp vs ve vl vm rows) (hb : base ≤ w.heap.size) : Calls Tryz.prog 90 #[.pointer (some ⟨b, 0, none⟩)] w (BackPost X S base b R ms vp vs ve w) := by
 have hlt := h.box.lt
 have hms := h.lt
 by_cases hz : ms.length = 0
 ·have hc := h.box.cell 12 rfl
  obtain ⟨x, y, rfl⟩ := own_form2 h.om
  have HZ := Lib.hid hz
  have hzI : ((ms.length : Int) == 0) = true := by simp [hz]
  clear h hz
  go_enter Tryz.func90, Tryz.ntmps90
  go_wp2_with fail
  go_ret
  exact .inl ⟨HZ.out, rfl, Below.refl _ _⟩
 obtain ⟨n, hn⟩ : ∃ n, ms.length = n + 1 := ⟨ms.length - 1, by omega⟩
 have ho := h.ol
 have hm := h.om
 rw [hn] at ho hm
 obtain ⟨g, c, hv⟩ := own_some ho (by omega)
 obtain ⟨h', d, hv'⟩ := own_some hm (by omega)
 subst hv hv'
 have hcap := own_cap' ho
 have hcap2 := own_cap' hm
 have HG := Lib.hid h
 have HL := Lib.hid hn
 have LT : Hid ((ms.take n).length = n) := Lib.hid (by rw [List.length_take]; omega)
 have hbx := h.box
 have hc12 := h.box.cell 12 rfl
 have hnb : n ≤ 400 := by omega
 have hw1 : IntKind.i64.wrap ((n : Int) + 1) = (n : Int) + 1 := IntWalk.i64_in _ (by omega)
 have hw2 : IntKind.i64.wrap (n : Int) = (n : Int) := IntWalk.i64_in _ (by omega)
 have hw3 : ((n : Int) + 1 == 0) = false := by simp; omega
 have hsa : ∀ w' : World, (Instr.slice 113 (.slice (some ⟨g, 0, none⟩) (n + 1 + 1) c) none (some (.int .i64 ((n : Int) + 1))) none).run Tryz.prog w' = .ok (.slice (some ⟨g, 0, none⟩) (n + 1) c) w' := fun w' => by
  have q := run_take (P := Tryz.prog) (t := 113) (s := 5) Tryz.underlying113 (fun w => by kernel_rfl) (some ⟨g, 0, none⟩) (n + 1 + 1) c (n + 1) (by omega) w'
  rw [Int.natCast_succ] at q
  exact q
 have hsb : ∀ w' : World, (Instr.slice 41 (.slice (some ⟨h', 0, none⟩) (n + 1) d) none (some (.int .i64 (n : Int))) none).run Tryz.prog w' = .ok (.slice (some ⟨h', 0, none⟩) n d) w' := fun w' =>
  run_take (P := Tryz.prog) (t := 41) (s := 3) Tryz.underlying41 (fun w => by kernel_rfl) (some ⟨h', 0, none⟩) (n + 1) d n (by omega) w'
 have HBx := Lib.hid hbx
 have HOz := Lib.hid ho
 have HMz := Lib.hid hm
 clear h hz hn hbx ho hm hms hcap hcap2
 go_enter Tryz.func90, Tryz.ntmps90
 go_upto_region 3 with (fail)
 generalize w = wq at *
 have By := HBx.out
 have Bz := HBx.out.drew
 have Oz : wq.drew.ownsRow base 59 5 (.slice (some ⟨g, 0, none⟩) (n + 1 + 1) c) (n + 1 + 1) (flatV rows) := HOz.out
 have Mz : wq.drew.ownsRow base 38 3 (.slice (some ⟨h', 0, none⟩) (n + 1) d) (n + 1) (flatM ms) := HMz.out
 clear HBx HOz HMz hc12
 refine wp_region_noPanic ?_
 refine beginL (S := (fun w' => w'.cell? ⟨b, 11, none⟩ = some (.slice (some ⟨g, 0, none⟩) (n + 1 + 1) c) ∧ w'.cell? ⟨b, 12, none⟩ = some (.slice (some ⟨h', 0, none⟩) (n + 1) d))) (L := [26, 29]) (by kernel_rfl) ⟨Bz.cell 11 rfl, Bz.cell 12 rfl⟩ (fun hHeld => ?_)
 refine tkW 0 ?_
 refine tkW 1 ?_
 refine tkW 2 ?_
 refine tkW 6 ?_
 refine tkW 13 ?_
 refine tkW 17 ?_
 refine tkW 3 ?_
 refine tkW 7 ?_
 refine tkW 14 ?_
 refine tkW 18 ?_
 refine tkW 4 ?_
 refine tkW 8 ?_
 refine tkW 15 ?_
 refine tkW 19 ?_
 refine tkL 5 ?_
 refine tkL 9 ?_
 refine tkL 16 ?_
 refine tkL 20 ?_
 refine tkW 10 ?_
 refine tkW 21 ?_
 refine tkW 11 ?_
 refine tkW 22 ?_
 refine tkW 12 ?_
 refine tkW 23 ?_
 refine tkW 24 ?_
 refine tkW 25 ?_
 refine ltL 26 fun K hK => ?_
 have dd := By.cell 11 rfl
 have df := By.frozen 11
 go_simp
 refine K_world ?_
 intro w7 e7
 have E7 : Hid (w7 = wq.drew.setCell ⟨b, 11, none⟩ (.slice (some ⟨g, 0, none⟩) (n + 1) c)) := Lib.hid e7
 have B7 : Box w7 b [.string R.name, .int .i64 R.width, .int .i64 R.height, vp, vs, .bool R.falls, .bool R.keeps, ve, .int .i64 R.blocked, .int .i64 R.quiet, .int .i64 R.rept, .slice (some ⟨g, 0, none⟩) (n + 1) c, .slice (some ⟨h', 0, none⟩) (n + 1) d] 115 := by rw [E7.out]; exact Bz.set 11 _
 clear e7 dd df
 refine hK.out _ _ ?_
 clear hK K
 refine tkW 27 ?_
 refine tkW 28 ?_
 refine ltL 29 fun K hK => ?_
 have dd := B7.cell 12 rfl
 have df := B7.frozen 12
 go_simp
 refine K_world ?_
 intro w9 e9
 have B9 : Box w9 b [.string R.name, .int .i64 R.width, .int .i64 R.height, vp, vs, .bool R.falls, .bool R.keeps, ve, .int .i64 R.blocked, .int .i64 R.quiet, .int .i64 R.rept, .slice (some ⟨g, 0, none⟩) (n + 1) c, .slice (some ⟨h', 0, none⟩) n d] 115 := by rw [e9]; exact B7.set 12 _
 have F9 : Fr S wq.drew w9 := by rw [e9, E7.out]; exact ((Fr.refl S _).setCell HG.out.sb _).setCell HG.out.sb _
 have O9 : w9.ownsRow base 59 5 (.slice (some ⟨g, 0, none⟩) (n + 1) c) (n + 1) ((flatV rows).take ((n + 1) * 5)) := by rw [e9, E7.out]; exact row_farW (p := ⟨b, 12, none⟩) (row_farW (p := ⟨b, 11, none⟩) (own_take Oz (n + 1) (by omega)) (fun e => (HG.out.sl b e).2 rfl) _) (fun e => (HG.out.sl b e).2 rfl) _
 have M9 : w9.ownsRow base 38 3 (.slice (some ⟨h', 0, none⟩) n d) n ((flatM ms).take (n * 3)) := by rw [e9, E7.out]; exact row_farW (p := ⟨b, 12, none⟩) (row_farW (p := ⟨b, 11, none⟩) (own_take Mz n (by omega)) (fun e => (HG.out.sm b e).2 rfl) _) (fun e => (HG.out.sm b e).2 rfl) _
 have Z9 : wq.drew.heap.size = w9.heap.size := by rw [e9, E7.out]; simp [World.setCell]
 clear e9 E7 dd df
 refine hK.out _ _ ?_
 clear hK K
 refine dnN ?_
 rw [flatV_take] at O9
 rw [flatM_take] at M9
 have hGn : GameAt X S base w9 b R (ms.take n) vp vs ve (.slice (some ⟨g, 0, none⟩) (n + 1) c) (.slice (some ⟨h', 0, none⟩) n d) (rows.take (n + 1)) := ⟨B9, HG.out.sb, fun k hk => ⟨(HG.out.lo k hk).1, by rw [← Z9]; exact (HG.out.lo k hk).2⟩, (HG.out.rd.step (Fr.drew (Fr.refl S wq)) (Shr.refl _ _)).step F9 (Shr.refl _ _), by rw [LT.out]; exact O9, by rw [List.map_take, HG.out.mp]; exact psOf_take R ms n (by have := HL.out; omega), fun r hr => ((HG.out.rw r (List.mem_of_mem_take hr)).step (Fr.drew (Fr.refl S wq)) (Shr.refl _ _)).step F9 (Shr.refl _ _), by rw [LT.out]; exact M9, HG.out.sl, HG.out.sm, HG.out.ap, by rw [LT.out]; have := HG.out.lt; have := HL.out; omega, HG.out.la.take n, HG.out.re⟩
 have HGn := Lib.hid hGn
 have HFn := Lib.hid ((Fr.drew (Fr.refl S wq)).trans F9 (Shr.refl _ _))
 clear hGn B9 F9 O9 M9 Z9 B7 Bz By Oz Mz hHeld
 go_wp2_with fail
 go_ret
 exact .inr ⟨n, HL.out, rfl, _, _, _, HGn.out, HFn.out⟩
end Go.Proofs.YtnodagljaoonjaaGreatDoor.gx

/- The contracts of place.Check and place.Begin. -/
import Derived.Test.YthklhndcdijneaaGreatDoorC06
import Derived.Test.YthklhndcdijneaaGreatDoorC05
import Derived.Test.YthklhndcdijneaaGreatDoorC07
import Derived.Test.YthklhndcdijneaaGreatDoorC04
import Derived.Deep.Cut
namespace Go.Proofs.YthklhndcdijneaaGreatDoor
open Go.ChangeShapes Go.WideShapes Go.ChangeAt Go.RowKit
set_option linter.unusedVariables false
set_option maxHeartbeats 4000000
set_option maxRecDepth 100000
theorem bcell {W w1 : World} (hb : Below W.heap.size W w1) : (∀ b o, b < W.heap.size → w1.cell? ⟨b, o, none⟩ = W.cell? ⟨b, o, none⟩) ∧ (∀ b o, b < W.heap.size → w1.frozen? ⟨b, o, none⟩ = W.frozen? ⟨b, o, none⟩) :=
 ⟨fun b o h => hb.cell (p := ⟨b, o, none⟩) h, fun b o h => hb.frozen (p := ⟨b, o, none⟩) h⟩
theorem RdP.alloc {w : World} {p : PosZ} {vc v0 v1 : Value} (h : RdP w p vc v0 v1) (o : Obj) : RdP (w.alloc o) p vc v0 v1 := h.below ((Below.refl _ _).alloc (Nat.le_refl _) _) (Nat.le_refl _)
theorem placeCheck_any (R : RulesZ) (vp vs ve : Value) (p : PosZ) (vc v0 v1 : Value) (w : World) (h : RdR w R vp vs ve) (hnm : R.name.size ≤ maxLen) (hp : RdP w p vc v0 v1) :
  Calls Tryz.prog 150 #[(.agg #[.string R.name, .int .i64 R.width, .int .i64 R.height, vp, vs, .bool R.falls, .bool R.keeps, ve, .int .i64 R.blocked, .int .i64 R.quiet, .int .i64 R.rept]), (.agg #[vc, v0, v1, .int .i64 p.turn, .int .i64 p.quiet])] w fun e w' => e = .returned (.int .i64 (posErr R p)) ∧ Below w.heap.size w w' := by
 have HR := Lib.hid h
 have HP := Lib.hid hp
 have HN := Lib.hid hnm
 have HC : Hid (posErr R p = if rulesErr R ≠ 0 then rulesErr R else soundErr R p) := Lib.hid rfl
 clear h hp hnm
 go_enter Tryz.func150, Tryz.ntmps150
 go_wp2_with fail
 refine (rulesCheck_any R vp vs ve _ ((HR.out.alloc _).alloc _) HN.out).mono ?_
 rintro e w1 ⟨rfl, hb1⟩
 have hs1 := hb1.size
 simp at hs1
 have z0 : w.heap.size < w1.heap.size := by omega
 have z1 : w.heap.size + 1 < w1.heap.size := by omega
 have q0 : w1.cell? ⟨w.heap.size, 0, none⟩ = some (.string R.name) := (hb1.cell (by go_size)).trans (by simp [go_sem])
 have q1 : w1.cell? ⟨w.heap.size, 1, none⟩ = some (.int .i64 R.width) := (hb1.cell (by go_size)).trans (by simp [go_sem])
 have q2 : w1.cell? ⟨w.heap.size, 2, none⟩ = some (.int .i64 R.height) := (hb1.cell (by go_size)).trans (by simp [go_sem])
 have q3 : w1.cell? ⟨w.heap.size, 3, none⟩ = some vp := (hb1.cell (by go_size)).trans (by simp [go_sem])
 have q4 : w1.cell? ⟨w.heap.size, 4, none⟩ = some vs := (hb1.cell (by go_size)).trans (by simp [go_sem])
 have q5 : w1.cell? ⟨w.heap.size, 5, none⟩ = some (.bool R.falls) := (hb1.cell (by go_size)).trans (by simp [go_sem])
 have q6 : w1.cell? ⟨w.heap.size, 6, none⟩ = some (.bool R.keeps) := (hb1.cell (by go_size)).trans (by simp [go_sem])
 have q7 : w1.cell? ⟨w.heap.size, 7, none⟩ = some ve := (hb1.cell (by go_size)).trans (by simp [go_sem])
 have q8 : w1.cell? ⟨w.heap.size, 8, none⟩ = some (.int .i64 R.blocked) := (hb1.cell (by go_size)).trans (by simp [go_sem])
 have q9 : w1.cell? ⟨w.heap.size, 9, none⟩ = some (.int .i64 R.quiet) := (hb1.cell (by go_size)).trans (by simp [go_sem])
 have q10 : w1.cell? ⟨w.heap.size, 10, none⟩ = some (.int .i64 R.rept) := (hb1.cell (by go_size)).trans (by simp [go_sem])
 have p0 : w1.cell? ⟨w.heap.size + 1, 0, none⟩ = some vc := (hb1.cell (by go_size)).trans (by simp [go_sem])
 have p1 : w1.cell? ⟨w.heap.size + 1, 1, none⟩ = some v0 := (hb1.cell (by go_size)).trans (by simp [go_sem])
 have p2 : w1.cell? ⟨w.heap.size + 1, 2, none⟩ = some v1 := (hb1.cell (by go_size)).trans (by simp [go_sem])
 have p3 : w1.cell? ⟨w.heap.size + 1, 3, none⟩ = some (.int .i64 p.turn) := (hb1.cell (by go_size)).trans (by simp [go_sem])
 have p4 : w1.cell? ⟨w.heap.size + 1, 4, none⟩ = some (.int .i64 p.quiet) := (hb1.cell (by go_size)).trans (by simp [go_sem])
 have HB : Hid (Below w.heap.size w w1) := Lib.hid ((((Below.refl _ _).alloc (Nat.le_refl _) _).alloc (by go_size) _).trans (hb1.mono (by go_size)))
 clear hb1 hs1
 cases t1 : (rulesErr R == 0)
 ·have t1' : (rulesErr R != 0) = true := by simp [bne, t1]
  have HE : Hid (posErr R p = rulesErr R) := Lib.hid (by rw [HC.out, if_pos (by simpa using t1)])
  go_wp2_with fail
  go_ret
  exact ⟨by rw [HE.out]; rfl, HB.out⟩
 have t1' : (rulesErr R != 0) = false := by simp [bne, t1]
 have HZ : Hid (rulesErr R = 0) := Lib.hid (by simpa using t1)
 have HE : Hid (posErr R p = soundErr R p) := Lib.hid (by rw [HC.out, if_neg (by simp [HZ.out])])
 clear t1 HC
 go_wp2_with fail
 refine (sound_any R vp vs ve p vc v0 v1 _ (HR.out.below HB.out (Nat.le_refl _)) (HP.out.below HB.out (Nat.le_refl _)) HZ.out).mono ?_
 rintro e w2 ⟨rfl, hb2⟩
 have HB2 := Lib.hid (below_trans HB.out hb2 HB.out.size)
 clear hb2
 go_wp2_with fail
 go_ret
 exact ⟨by rw [HE.out]; rfl, HB2.out⟩
theorem startLen {R : RulesZ} (h : rulesErr R = 0) : R.start.length ≤ 64 := by
 obtain ⟨hw, hh, _⟩ := rulesOk h
 have hwh := mul_in R.width R.height 8 8 hw.1 hw.2 hh.1 hh.2
 unfold rulesErr at h
 by_cases e1 : nameOk R.name = false
 ·rw [if_pos e1] at h; cases h
 rw [if_neg e1] at h
 by_cases e2 : wb R.width 1 8 = false ∨ wb R.height 1 8 = false
 ·rw [if_pos e2] at h; cases h
 rw [if_neg e2] at h
 by_cases e3 : piecesErr R.pieces ≠ 0
 ·rw [if_pos e3] at h; exact absurd h e3
 rw [if_neg e3] at h
 by_cases e4 : (R.start.length : Int) ≠ R.width * R.height
 ·rw [if_pos e4] at h; cases h
 ·omega
def zeroPos : Value := .agg #[.slice none 0 0, .slice none 0 0, .slice none 0 0, .int .i64 0, .int .i64 0]
def beginZ (R : RulesZ) : PosZ := ⟨R.start, R.pieces.map (·.hand), R.pieces.map (·.hand), 0, 0⟩
/-- what place.Begin works on: its variable p in block B; both hands' rows behind it, apart. -/
def BInv (B : Nat) (vc v0 v1 : Value) (zs0 zs1 : List Int) (w2 w : World) : Prop :=
 Box w B [vc, v0, v1, .int .i64 0, .int .i64 0] 66 ∧ w.ownsRow (B + 1) 3 1 v0 zs0.length (ints zs0) ∧ w.ownsRow (B + 1) 3 1 v1 zs1.length (ints zs1) ∧
 (v0.ownBlock = none ∨ v0.ownBlock ≠ v1.ownBlock) ∧ Below B w2 w
theorem BInv.start (w2 : World) (vc : Value) : BInv w2.heap.size vc (.slice none 0 0) (.slice none 0 0) [] [] w2 (w2.alloc (.cells #[vc, .slice none 0 0, .slice none 0 0, .int .i64 0, .int .i64 0] 66)) :=
 ⟨Box.new w2 _ _, World.ownsRow_nil _ _ _ _, World.ownsRow_nil _ _ _ _, .inl rfl, (Below.refl _ _).alloc (Nat.le_refl _) _⟩
theorem BInv.drew {B : Nat} {vc v0 v1 : Value} {zs0 zs1 : List Int} {w2 w : World} (h : BInv B vc v0 v1 zs0 zs1 w2 w) : BInv B vc v0 v1 zs0 zs1 w2 w.drew :=
 ⟨h.1, h.2.1, h.2.2.1, h.2.2.2.1, below_drewN h.2.2.2.2 1⟩
theorem BInv.alloc {B : Nat} {vc v0 v1 : Value} {zs0 zs1 : List Int} {w2 w : World} (h : BInv B vc v0 v1 zs0 zs1 w2 w) (o : Obj) : BInv B vc v0 v1 zs0 zs1 w2 (w.alloc o) :=
 ⟨h.1.alloc o, h.2.1.alloc o, h.2.2.1.alloc o, h.2.2.2.1, h.2.2.2.2.alloc (Nat.le_of_lt h.1.lt) o⟩
theorem src_one {w : World} {b : Nat} {z : Int} (h : w.cell? ⟨b, 0, none⟩ = some (.int .i64 z)) : ∀ j u, [Value.int .i64 z][j]? = some u → w.cell? ((⟨b, 0, none⟩ : Addr).add j) = some u := by
 intro j u hu
 rcases j with _ | j
 ·simp at hu; subst hu; rw [add_off]; exact h
 ·simp at hu
theorem one_cell {z : Int} : ∀ u ∈ [Value.int .i64 z], u.oneCell' = true := by intro u hu; simp at hu; subst hu; rfl
theorem own_far {w : World} {b B : Nat} {e : TypeId} {sz n : Nat} {v : Value} {xs : List Value} (h : w.ownsRow b e sz v n xs) (hB : B < b) : some B ≠ v.ownBlock := fun e => by have := (h.lt B e.symm).1; omega
theorem own_old {v : Value} {B b : Nat} (h : ∀ k, v.ownBlock = some k → k < B) (hB : B ≤ b) : some b ≠ v.ownBlock := fun e => by have := h b e.symm; omega
theorem ne_swap {v0 v1 : Value} (h : v0.ownBlock = none ∨ v0.ownBlock ≠ v1.ownBlock) : v1.ownBlock = none ∨ v1.ownBlock ≠ v0.ownBlock := by
 cases h1 : v1.ownBlock with
 | none => exact .inl rfl
 | some b =>
  right
  rcases h with h | h
  ·rw [h]; simp
  ·rw [h1] at h; exact fun e => h e.symm
theorem new_ne {v0 v1 : Value} {g H : Nat} (hq : v0.ownBlock = some g ∨ g = H) (h : v0.ownBlock = none ∨ v0.ownBlock ≠ v1.ownBlock) (hl : ∀ b, v1.ownBlock = some b → b < H) : some g ≠ v1.ownBlock := by
 rcases hq with e | e
 ·rcases h with h | h
  ·rw [h] at e; cases e
  ·rw [← e]; exact h
 ·intro e'
  have := hl g e'.symm
  omega
theorem g_ne {v1 : Value} {g6 g13 H : Nat} (h : some g6 ≠ v1.ownBlock) (hq : v1.ownBlock = some g13 ∨ g13 = H) (hg : g6 < H) : g6 ≠ g13 := by
 rcases hq with e | e
 ·exact fun e' => h (by rw [e', e])
 ·omega
theorem ints_snoc (zs : List Int) (z : Int) : ints (zs ++ [z]) = ints zs ++ [.int .i64 z] := by simp [ints]
def BeginPost (R : RulesZ) (w : World) (e : Ending) (w' : World) : Prop :=
 (rulesErr R ≠ 0 ∧ e = .returned (.tuple #[zeroPos, .int .i64 (rulesErr R)]) ∧ Below w.heap.size w w') ∨
 (rulesErr R = 0 ∧ ∃ vc v0 v1, e = .returned (.tuple #[posV (beginZ R) vc v0 v1, .int .i64 0]) ∧ RdP w' (beginZ R) vc v0 v1 ∧ Below w.heap.size w w')
theorem Begin_any (R : RulesZ) (vp vs ve : Value) (w : World) (h : RdR w R vp vs ve) (hnm : R.name.size ≤ maxLen) :
  Calls Tryz.prog 20 #[(.agg #[.string R.name, .int .i64 R.width, .int .i64 R.height, vp, vs, .bool R.falls, .bool R.keeps, ve, .int .i64 R.blocked, .int .i64 R.quiet, .int .i64 R.rept])] w (BeginPost R w) := by
 have HR := Lib.hid h
 have HN := Lib.hid hnm
 clear h hnm
 go_enter Tryz.func20, Tryz.ntmps20
 go_wp2_with fail
 refine (rulesCheck_any R vp vs ve _ ((HR.out.alloc _).alloc _) HN.out).mono ?_
 rintro e w1 ⟨rfl, hb1⟩
 have hs1 := hb1.size
 simp at hs1
 have z0 : w.heap.size < w1.heap.size := by omega
 have z1 : w.heap.size + 1 < w1.heap.size := by omega
 obtain ⟨hcell, hfr⟩ := bcell hb1
 have HB : Hid (Below w.heap.size w w1) := Lib.hid ((((Below.refl _ _).alloc (Nat.le_refl _) _).alloc (by go_size) _).trans (hb1.mono (by go_size)))
 cases t1 : (rulesErr R == 0)
 ·have t1' : (rulesErr R != 0) = true := by simp [bne, t1]
  have HT := Lib.hid t1
  clear hb1 t1
  go_wp2_with fail
  refine bodyPost_ret (v := .tuple #[zeroPos, .int .i64 (rulesErr R)]) (by simp [results, Tryz.results20, go_sem, zeroPos, hcell]) rfl (.inl ⟨by simpa using HT.out, rfl, ?_⟩)
  have hbel := HB.out
  go_grown
 have t1' : (rulesErr R != 0) = false := by simp [bne, t1]
 have HZ : Hid (rulesErr R = 0) := Lib.hid (by simpa using t1)
 have hst : R.start.length ≤ 64 := startLen HZ.out
 have hnp := (rulesOk HZ.out).2.2
 have HSt : Hid (RdI w1 vs R.start) := Lib.hid (HR.out.2.1.below HB.out (Nat.le_refl _))
 have q3 : w1.cell? ⟨w.heap.size, 3, none⟩ = some vp := (hb1.cell (by go_size)).trans (by simp [go_sem])
 have q4 : w1.cell? ⟨w.heap.size, 4, none⟩ = some vs := (hb1.cell (by go_size)).trans (by simp [go_sem])
 have g1 : Box w1 (w.heap.size + 1) [.slice none 0 0, .slice none 0 0, .slice none 0 0, .int .i64 0, .int .i64 0] 66 := by
  have hbx := Box.new (w.alloc (.cells #[.string R.name, .int .i64 R.width, .int .i64 R.height, vp, vs, .bool R.falls, .bool R.keeps, ve, .int .i64 R.blocked, .int .i64 R.quiet, .int .i64 R.rept] 26)) [.slice none 0 0, .slice none 0 0, .slice none 0 0, .int .i64 0, .int .i64 0] 66
  rw [World.size_alloc] at hbx
  exact hbx.below hb1 (by go_size)
 clear hcell hfr hb1 hs1 t1
 go_wp2_with fail
 refine (Clone_any vs R.start _ HSt.out (by omega)).mono ?_
 rintro e w2 ⟨vc, rfl, ho2, hb2⟩
 have q3b : w2.cell? ⟨w.heap.size, 3, none⟩ = some vp := (hb2.cell z0).trans q3
 have g1b := g1.below hb2 z1
 have z0b := Nat.lt_of_lt_of_le z0 hb2.size
 have z1b := Nat.lt_of_lt_of_le z1 hb2.size
 have HB2 := Lib.hid (below_trans HB.out hb2 HB.out.size)
 have HVc : Hid (RdI w2 vc R.start) := Lib.hid (RdI.of_own ho2)
 obtain ⟨va, vcc, rfl⟩ := own_form2 ho2
 have HVo := Lib.hid ho2
 have z1a : w.heap.size + 1 < w1.heap.size := z1
 have hnil := HR.out
 obtain ⟨ap, cp, rfl, hp1, hp2⟩ := HR.out.1.form
 unfold maxLen at hp2
 obtain ⟨i0, hi, hz0, hz1, hz2⟩ := info_parts info3
 have HI := Lib.hid hi
 have HZ0 := Lib.hid hz0
 have HZ1 := Lib.hid hz1
 have HZ2 := Lib.hid hz2
 clear ho2 hb2 q3 q4 g1 z0 z1 hnil hi hz0 hz1 hz2
 go_wp2_with fail
 go_loopw [21] (fun i wr => ∃ (k : Nat) (v0 v1 : Value), k ≤ R.pieces.length ∧ i = .int .i64 k ∧ Hid (BInv w2.heap.size (.slice va R.start.length vcc) v0 v1 ((R.pieces.map (·.hand)).take k) ((R.pieces.map (·.hand)).take k) w2 wr)) (fun i _ => R.pieces.length - (intOf i).toNat)
 case atStart => exact ⟨0, _, _, Nat.zero_le _, rfl, Lib.hid (BInv.start _ _)⟩
 case round =>
  obtain ⟨k, v0, v1, hk, rfl, HI0⟩ := hrel
  have hsz : w2.heap.size < wr.heap.size := HI0.out.1.lt
  have hbel : Below w2.heap.size w2 wr := HI0.out.2.2.2.2
  have q3r : wr.cell? ⟨w.heap.size, 3, none⟩ = some (.slice ap R.pieces.length cp) := (hbel.cell z0b).trans q3b
  have z0r : w.heap.size < wr.heap.size := by omega
  by_cases hlt : k < R.pieces.length
  ·obtain ⟨g, o, rfl, hg, hc⟩ := pieces_some (HR.out.1.below (HB2.out.trans (hbel.mono HB2.out.size)) (Nat.le_refl _)) (by omega)
   obtain ⟨vw, d0, d1, d2, d3, hw⟩ := hc k hlt
   obtain ⟨aw, cw, rfl, hw1, hw2⟩ := hw.form
   have hk0 : (0 : Int) ≤ (k : Int) := by omega
   have hk1 : (k : Int) < (R.pieces.length : Int) := by omega
   have HT : Hid ((R.pieces.map (·.hand)).take (k + 1) = (R.pieces.map (·.hand)).take k ++ [(R.pieces.getD k default).hand]) := Lib.hid (by
    rw [List.take_add_one, List.getElem?_map, List.getElem?_eq_getElem hlt, List.getD_eq_getElem?_getD, List.getElem?_eq_getElem hlt]; rfl)
   have HLen : Hid (((R.pieces.map (·.hand)).take k).length = k) := Lib.hid (by rw [List.length_take, List.length_map]; omega)
   clear hc hw hbel
   generalize R.pieces.getD k default = x at *
   obtain ⟨xl, xh, xp, xw⟩ := x
   simp only at d0 d1 d2 d3
   generalize (R.pieces.map (·.hand)).take k = zs at *
   go_wp2_with fail
   have HIq := Lib.hid (HI0.out.alloc (.cells #[.int .u8 xl, .int .i64 xh, .int .i64 xp, .slice aw xw.length cw] 84))
   have OB0 : ∀ b, v0.ownBlock = some b → b < wr.heap.size := fun b hb => (HI0.out.2.1.lt b hb).2
   have OB1 : ∀ b, v1.ownBlock = some b → b < wr.heap.size := fun b hb => (HI0.out.2.2.1.lt b hb).2
   have fx : (wr.alloc (.cells #[.int .u8 xl, .int .i64 xh, .int .i64 xp, .slice aw xw.length cw] 84)).cell? ⟨wr.heap.size, 1, none⟩ = some (.int .i64 xh) := by simp [go_sem]
   clear d0 d1 d2 d3 q3r hk0 hk1
   generalize (wr.alloc (.cells #[.int .u8 xl, .int .i64 xh, .int .i64 xp, .slice aw xw.length cw] 84)) = wq at *
   have hzl : zs.length ≤ 6 := by have := HLen.out; omega
   obtain ⟨a0, c0, rfl⟩ := own_form2 HIq.out.2.1
   obtain ⟨a1, c1, rfl⟩ := own_form2 HIq.out.2.2.1
   have HIqd : BInv w2.heap.size (.slice va R.start.length vcc) (.slice a0 zs.length c0) (.slice a1 zs.length c1) zs zs w2 wq.drew := BInv.drew HIq.out
   obtain ⟨Bx0, Ox0, Oy0, NE, Lx0⟩ := HIqd
   have fx0 : wq.drew.cell? ⟨wr.heap.size, 1, none⟩ = some (.int .i64 xh) := fx
   have Y0 : wr.heap.size < wq.drew.heap.size := World.block_lt_of_cell? _ _ fx0
   clear fx HIq HI0
   refine wp_region_noPanic ?_
   refine beginL (S := (fun w' => w'.cell? ⟨w2.heap.size, 1, none⟩ = some (.slice a0 zs.length c0) ∧ w'.cell? ⟨w2.heap.size, 2, none⟩ = some (.slice a1 zs.length c1) ∧ w'.cell? ⟨wr.heap.size, 1, none⟩ = some (.int .i64 xh))) (L := [16, 19]) (by kernel_rfl) ⟨Bx0.cell 1 rfl, Bx0.cell 2 rfl, fx0⟩ (fun hHeld => ?_)
   refine tkW 0 ?_
   refine tkW 3 ?_
   refine tkW 7 ?_
   refine tkW 10 ?_
   refine tkW 14 ?_
   refine tkW 17 ?_
   refine tkW 1 ?_
   refine tkL 4 ?_
   refine tkW 8 ?_
   refine tkL 11 ?_
   refine tkL 2 ?_
   refine tkL 9 ?_
   refine rdL (rs := [5, 12]) ?_
   refine (AllReadyL.cons (by first | (simp only [List.getElem?_toArray, List.getElem?_cons_zero, List.getElem?_cons_succ] <;> rfl) | rfl) (fun K hK => ?_) (AllReadyL.cons (by first | (simp only [List.getElem?_toArray, List.getElem?_cons_zero, List.getElem?_cons_succ] <;> rfl) | rfl) (fun K hK => ?_) AllReadyL.nil))
   ·skip
    go_simp
    refine K_world ?_
    intro w5 e5
    have Bx5 : Box w5 w2.heap.size [(.slice va R.start.length vcc), (.slice a0 zs.length c0), (.slice a1 zs.length c1), .int .i64 0, .int .i64 0] 66 := by rw [e5]; exact Bx0.alloc _
    have fx5 : w5.cell? ⟨wr.heap.size, 1, none⟩ = some (.int .i64 xh) := by rw [e5]; exact cell_alloc fx0 _
    have Ox5 : w5.ownsRow (w2.heap.size + 1) 3 1 (.slice a0 zs.length c0) zs.length (ints zs) := by rw [e5]; exact Ox0.alloc _
    have Oy5 : w5.ownsRow (w2.heap.size + 1) 3 1 (.slice a1 zs.length c1) zs.length (ints zs) := by rw [e5]; exact Oy0.alloc _
    have Lx5 : Below w2.heap.size w2 w5 := by rw [e5]; exact Lx0.alloc (Nat.le_of_lt Bx0.lt) _
    have Z5 : wq.drew.heap.size ≤ w5.heap.size := by rw [e5]; simp
    have Y5 : wr.heap.size < w5.heap.size := Nat.lt_of_lt_of_le Y0 Z5
    have N5 : w5.cell? ⟨wq.drew.heap.size, 0, none⟩ = some (.int .i64 xh) := by rw [e5]; simp [go_sem]
    clear e5
    refine hK.out _ _ ⟨Bx5.cell 1 rfl, Bx5.cell 2 rfl, fx5⟩ (fun hHeld => ?_)
    clear hK K
    refine rdL (rs := [6, 12]) ?_
    refine (AllReadyL.cons (by first | (simp only [List.getElem?_toArray, List.getElem?_cons_zero, List.getElem?_cons_succ] <;> rfl) | rfl) (fun K hK => ?_) (AllReadyL.cons (by first | (simp only [List.getElem?_toArray, List.getElem?_cons_zero, List.getElem?_cons_succ] <;> rfl) | rfl) (fun K hK => ?_) AllReadyL.nil))
    ·skip
     rw [if_pos (by rfl)]
     refine wp_append_lies _ _ _ 23 rfl (w2.heap.size + 1) 3 i0 (.int .i64 0) 1 8 Tryz.underlying23 HI.out HZ0.out HZ1.out HZ2.out rfl (by decide) (.slice a0 zs.length c0) zs.length (ints zs) rfl Ox5 ⟨wq.drew.heap.size, 0, none⟩ 1 1 [.int .i64 xh] rfl rfl (src_one N5) one_cell (by decide) (by unfold maxLen; omega) (by omega) Bx5.lt w5.heap.size rfl ?_
     intro g6 c6 w6 ho6 hg6 hq6 hl6
     have Bx6 := Bx5.grown hg6 (own_far (Ox5) (by omega))
     have fx6 := hg6.cell fx5 (own_old OB0 (Nat.le_refl _))
     have Lx6 := Below.grown Lx5 hg6 (Nat.le_of_lt Bx5.lt) (fun q hq => Nat.le_trans (Nat.le_succ _) (Ox5.lt q hq).1)
     have Z6 := hg6.size
     have Y6 : wr.heap.size < w6.heap.size := Nat.lt_of_lt_of_le Y5 Z6
     have Ox6 := ho6
     have Oy6 := Oy5.kept hg6 (ne_swap NE)
     have G6 := hl6
     have NE6 : some g6 ≠ Value.ownBlock (.slice a1 zs.length c1) := new_ne hq6 NE (fun b hb => Nat.lt_of_lt_of_le (OB1 b hb) (Nat.le_of_lt Y5))
     clear ho6 hg6 hq6 hl6
     refine hK.out _ _ ⟨Bx6.cell 1 rfl, Bx6.cell 2 rfl, fx6⟩ (fun hHeld => ?_)
     clear hK K
     refine tkW 15 ?_
     refine cnL 12 fun K hK => ?_
     go_simp
     refine K_world ?_
     intro w12 e12
     have Bx12 : Box w12 w2.heap.size [(.slice va R.start.length vcc), (.slice a0 zs.length c0), (.slice a1 zs.length c1), .int .i64 0, .int .i64 0] 66 := by rw [e12]; exact Bx6.alloc _
     have fx12 : w12.cell? ⟨wr.heap.size, 1, none⟩ = some (.int .i64 xh) := by rw [e12]; exact cell_alloc fx6 _
     have Ox12 : w12.ownsRow (w2.heap.size + 1) 3 1 (.slice (some ⟨g6, 0, none⟩) (zs.length + 1) c6) (zs.length + 1) (ints zs ++ [.int .i64 xh]) := by rw [e12]; exact Ox6.alloc _
     have Oy12 : w12.ownsRow (w2.heap.size + 1) 3 1 (.slice a1 zs.length c1) zs.length (ints zs) := by rw [e12]; exact Oy6.alloc _
     have Lx12 : Below w2.heap.size w2 w12 := by rw [e12]; exact Lx6.alloc (Nat.le_of_lt Bx6.lt) _
     have Z12 : w6.heap.size ≤ w12.heap.size := by rw [e12]; simp
     have Y12 : wr.heap.size < w12.heap.size := Nat.lt_of_lt_of_le Y6 Z12
     have N12 : w12.cell? ⟨w6.heap.size, 0, none⟩ = some (.int .i64 xh) := by rw [e12]; simp [go_sem]
     have G12 := Nat.lt_of_lt_of_le G6 Z12
     clear e12
     refine hK.out _ _ ⟨Bx12.cell 1 rfl, Bx12.cell 2 rfl, fx12⟩ (fun hHeld => ?_)
     clear hK K
     refine cnL 13 fun K hK => ?_
     rw [if_pos (by rfl)]
     refine wp_append_lies _ _ _ 23 rfl (w2.heap.size + 1) 3 i0 (.int .i64 0) 1 8 Tryz.underlying23 HI.out HZ0.out HZ1.out HZ2.out rfl (by decide) (.slice a1 zs.length c1) zs.length (ints zs) rfl Oy12 ⟨w6.heap.size, 0, none⟩ 1 1 [.int .i64 xh] rfl rfl (src_one N12) one_cell (by decide) (by unfold maxLen; omega) (by omega) Bx12.lt w12.heap.size rfl ?_
     intro g13 c13 w13 ho13 hg13 hq13 hl13
     have Bx13 := Bx12.grown hg13 (own_far (Oy12) (by omega))
     have fx13 := hg13.cell fx12 (own_old OB1 (Nat.le_refl _))
     have Lx13 := Below.grown Lx12 hg13 (Nat.le_of_lt Bx12.lt) (fun q hq => Nat.le_trans (Nat.le_succ _) (Oy12.lt q hq).1)
     have Z13 := hg13.size
     have Y13 : wr.heap.size < w13.heap.size := Nat.lt_of_lt_of_le Y12 Z13
     have Ox13 := Ox12.kept hg13 (.inr NE6)
     have Oy13 := ho13
     have NE13 : g6 ≠ g13 := g_ne NE6 hq13 G12
     clear ho13 hg13 hq13 hl13
     refine hK.out _ _ ⟨Bx13.cell 1 rfl, Bx13.cell 2 rfl, fx13⟩ (fun hHeld => ?_)
     clear hK K
     refine ltL 16 fun K hK => ?_
     have d1 := Bx13.cell 1 rfl
     have d1f := Bx13.frozen 1
     go_simp
     refine K_world ?_
     intro w16 e16
     have Bx16 : Box w16 w2.heap.size [(.slice va R.start.length vcc), .slice (some ⟨g6, 0, none⟩) (zs.length + 1) c6, (.slice a1 zs.length c1), .int .i64 0, .int .i64 0] 66 := by rw [e16]; exact Bx13.set 1 _
     have Ox16 : w16.ownsRow (w2.heap.size + 1) 3 1 (.slice (some ⟨g6, 0, none⟩) (zs.length + 1) c6) (zs.length + 1) (ints zs ++ [.int .i64 xh]) := by rw [e16]; exact ownsRow_setCell_below Ox13 (by simp) _
     have Oy16 : w16.ownsRow (w2.heap.size + 1) 3 1 (.slice (some ⟨g13, 0, none⟩) (zs.length + 1) c13) (zs.length + 1) (ints zs ++ [.int .i64 xh]) := by rw [e16]; exact ownsRow_setCell_below Oy13 (by simp) _
     have Lx16 : Below w2.heap.size w2 w16 := by rw [e16]; exact Lx13.setCell (Nat.le_refl _) _
     clear e16 d1 d1f
     refine hK.out _ _ ?_
     clear hK K
     refine tkW 18 ?_
     refine ltL 19 fun K hK => ?_
     have d1 := Bx16.cell 2 rfl
     have d1f := Bx16.frozen 2
     go_simp
     refine K_world ?_
     intro w19 e19
     have Bx19 : Box w19 w2.heap.size [(.slice va R.start.length vcc), .slice (some ⟨g6, 0, none⟩) (zs.length + 1) c6, .slice (some ⟨g13, 0, none⟩) (zs.length + 1) c13, .int .i64 0, .int .i64 0] 66 := by rw [e19]; exact Bx16.set 2 _
     have Ox19 : w19.ownsRow (w2.heap.size + 1) 3 1 (.slice (some ⟨g6, 0, none⟩) (zs.length + 1) c6) (zs.length + 1) (ints zs ++ [.int .i64 xh]) := by rw [e19]; exact ownsRow_setCell_below Ox16 (by simp) _
     have Oy19 : w19.ownsRow (w2.heap.size + 1) 3 1 (.slice (some ⟨g13, 0, none⟩) (zs.length + 1) c13) (zs.length + 1) (ints zs ++ [.int .i64 xh]) := by rw [e19]; exact ownsRow_setCell_below Oy16 (by simp) _
     have Lx19 : Below w2.heap.size w2 w19 := by rw [e19]; exact Lx16.setCell (Nat.le_refl _) _
     clear e19 d1 d1f
     refine hK.out _ _ ?_
     clear hK K
     refine dnN ?_
     have HF : Hid (BInv w2.heap.size (.slice va R.start.length vcc) (.slice (some ⟨g6, 0, none⟩) (zs.length + 1) c6) (.slice (some ⟨g13, 0, none⟩) (zs.length + 1) c13) (zs ++ [xh]) (zs ++ [xh]) w2 w19) := Lib.hid ⟨Bx19, by rw [ints_snoc, List.length_append]; exact Ox19, by rw [ints_snoc, List.length_append]; exact Oy19, .inr (by simp only [Value.ownBlock, ne_eq, Option.some.injEq]; exact NE13), Lx19⟩
     clear Bx19 Ox19 Oy19 Lx19 hHeld
     go_wp2_with fail
     go_roundw
     case rel => exact ⟨k + 1, _, _, by omega, by go_num, Lib.hid (by rw [HT.out]; exact HF.out)⟩
     case measure => simp [intOf]; omega
    ·skip
     go_simp
     refine K_world ?_
     intro w12 e12
     have Bx12 : Box w12 w2.heap.size [(.slice va R.start.length vcc), (.slice a0 zs.length c0), (.slice a1 zs.length c1), .int .i64 0, .int .i64 0] 66 := by rw [e12]; exact Bx5.alloc _
     have fx12 : w12.cell? ⟨wr.heap.size, 1, none⟩ = some (.int .i64 xh) := by rw [e12]; exact cell_alloc fx5 _
     have Ox12 : w12.ownsRow (w2.heap.size + 1) 3 1 (.slice a0 zs.length c0) zs.length (ints zs) := by rw [e12]; exact Ox5.alloc _
     have Oy12 : w12.ownsRow (w2.heap.size + 1) 3 1 (.slice a1 zs.length c1) zs.length (ints zs) := by rw [e12]; exact Oy5.alloc _
     have Lx12 : Below w2.heap.size w2 w12 := by rw [e12]; exact Lx5.alloc (Nat.le_of_lt Bx5.lt) _
     have Z12 : w5.heap.size ≤ w12.heap.size := by rw [e12]; simp
     have Y12 : wr.heap.size < w12.heap.size := Nat.lt_of_lt_of_le Y5 Z12
     have N12 : w12.cell? ⟨w5.heap.size, 0, none⟩ = some (.int .i64 xh) := by rw [e12]; simp [go_sem]
     have N5_12 : w12.cell? ⟨wq.drew.heap.size, 0, none⟩ = some (.int .i64 xh) := by rw [e12]; exact cell_alloc N5 _
     clear e12
     refine hK.out _ _ ⟨Bx12.cell 1 rfl, Bx12.cell 2 rfl, fx12⟩ (fun hHeld => ?_)
     clear hK K
     refine cnL 6 fun K hK => ?_
     rw [if_pos (by rfl)]
     refine wp_append_lies _ _ _ 23 rfl (w2.heap.size + 1) 3 i0 (.int .i64 0) 1 8 Tryz.underlying23 HI.out HZ0.out HZ1.out HZ2.out rfl (by decide) (.slice a0 zs.length c0) zs.length (ints zs) rfl Ox12 ⟨wq.drew.heap.size, 0, none⟩ 1 1 [.int .i64 xh] rfl rfl (src_one N5_12) one_cell (by decide) (by unfold maxLen; omega) (by omega) Bx12.lt w12.heap.size rfl ?_
     intro g6 c6 w6 ho6 hg6 hq6 hl6
     have Bx6 := Bx12.grown hg6 (own_far (Ox12) (by omega))
     have fx6 := hg6.cell fx12 (own_old OB0 (Nat.le_refl _))
     have Lx6 := Below.grown Lx12 hg6 (Nat.le_of_lt Bx12.lt) (fun q hq => Nat.le_trans (Nat.le_succ _) (Ox12.lt q hq).1)
     have Z6 := hg6.size
     have Y6 : wr.heap.size < w6.heap.size := Nat.lt_of_lt_of_le Y12 Z6
     have N12_6 := hg6.cell N12 (own_old OB0 (Nat.le_of_lt Y5))
     have Ox6 := ho6
     have Oy6 := Oy12.kept hg6 (ne_swap NE)
     have G6 := hl6
     have NE6 : some g6 ≠ Value.ownBlock (.slice a1 zs.length c1) := new_ne hq6 NE (fun b hb => Nat.lt_of_lt_of_le (OB1 b hb) (Nat.le_of_lt Y12))
     clear ho6 hg6 hq6 hl6
     refine hK.out _ _ ⟨Bx6.cell 1 rfl, Bx6.cell 2 rfl, fx6⟩ (fun hHeld => ?_)
     clear hK K
     refine tkW 15 ?_
     refine cnL 13 fun K hK => ?_
     rw [if_pos (by rfl)]
     refine wp_append_lies _ _ _ 23 rfl (w2.heap.size + 1) 3 i0 (.int .i64 0) 1 8 Tryz.underlying23 HI.out HZ0.out HZ1.out HZ2.out rfl (by decide) (.slice a1 zs.length c1) zs.length (ints zs) rfl Oy6 ⟨w5.heap.size, 0, none⟩ 1 1 [.int .i64 xh] rfl rfl (src_one N12_6) one_cell (by decide) (by unfold maxLen; omega) (by omega) Bx6.lt w6.heap.size rfl ?_
     intro g13 c13 w13 ho13 hg13 hq13 hl13
     have Bx13 := Bx6.grown hg13 (own_far (Oy6) (by omega))
     have fx13 := hg13.cell fx6 (own_old OB1 (Nat.le_refl _))
     have Lx13 := Below.grown Lx6 hg13 (Nat.le_of_lt Bx6.lt) (fun q hq => Nat.le_trans (Nat.le_succ _) (Oy6.lt q hq).1)
     have Z13 := hg13.size
     have Y13 : wr.heap.size < w13.heap.size := Nat.lt_of_lt_of_le Y6 Z13
     have Ox13 := Ox6.kept hg13 (.inr NE6)
     have Oy13 := ho13
     have NE13 : g6 ≠ g13 := g_ne NE6 hq13 G6
     clear ho13 hg13 hq13 hl13
     refine hK.out _ _ ⟨Bx13.cell 1 rfl, Bx13.cell 2 rfl, fx13⟩ (fun hHeld => ?_)
     clear hK K
     refine ltL 16 fun K hK => ?_
     have d1 := Bx13.cell 1 rfl
     have d1f := Bx13.frozen 1
     go_simp
     refine K_world ?_
     intro w16 e16
     have Bx16 : Box w16 w2.heap.size [(.slice va R.start.length vcc), .slice (some ⟨g6, 0, none⟩) (zs.length + 1) c6, (.slice a1 zs.length c1), .int .i64 0, .int .i64 0] 66 := by rw [e16]; exact Bx13.set 1 _
     have Ox16 : w16.ownsRow (w2.heap.size + 1) 3 1 (.slice (some ⟨g6, 0, none⟩) (zs.length + 1) c6) (zs.length + 1) (ints zs ++ [.int .i64 xh]) := by rw [e16]; exact ownsRow_setCell_below Ox13 (by simp) _
     have Oy16 : w16.ownsRow (w2.heap.size + 1) 3 1 (.slice (some ⟨g13, 0, none⟩) (zs.length + 1) c13) (zs.length + 1) (ints zs ++ [.int .i64 xh]) := by rw [e16]; exact ownsRow_setCell_below Oy13 (by simp) _
     have Lx16 : Below w2.heap.size w2 w16 := by rw [e16]; exact Lx13.setCell (Nat.le_refl _) _
     clear e16 d1 d1f
     refine hK.out _ _ ?_
     clear hK K
     refine tkW 18 ?_
     refine ltL 19 fun K hK => ?_
     have d1 := Bx16.cell 2 rfl
     have d1f := Bx16.frozen 2
     go_simp
     refine K_world ?_
     intro w19 e19
     have Bx19 : Box w19 w2.heap.size [(.slice va R.start.length vcc), .slice (some ⟨g6, 0, none⟩) (zs.length + 1) c6, .slice (some ⟨g13, 0, none⟩) (zs.length + 1) c13, .int .i64 0, .int .i64 0] 66 := by rw [e19]; exact Bx16.set 2 _
     have Ox19 : w19.ownsRow (w2.heap.size + 1) 3 1 (.slice (some ⟨g6, 0, none⟩) (zs.length + 1) c6) (zs.length + 1) (ints zs ++ [.int .i64 xh]) := by rw [e19]; exact ownsRow_setCell_below Ox16 (by simp) _
     have Oy19 : w19.ownsRow (w2.heap.size + 1) 3 1 (.slice (some ⟨g13, 0, none⟩) (zs.length + 1) c13) (zs.length + 1) (ints zs ++ [.int .i64 xh]) := by rw [e19]; exact ownsRow_setCell_below Oy16 (by simp) _
     have Lx19 : Below w2.heap.size w2 w19 := by rw [e19]; exact Lx16.setCell (Nat.le_refl _) _
     clear e19 d1 d1f
     refine hK.out _ _ ?_
     clear hK K
     refine dnN ?_
     have HF : Hid (BInv w2.heap.size (.slice va R.start.length vcc) (.slice (some ⟨g6, 0, none⟩) (zs.length + 1) c6) (.slice (some ⟨g13, 0, none⟩) (zs.length + 1) c13) (zs ++ [xh]) (zs ++ [xh]) w2 w19) := Lib.hid ⟨Bx19, by rw [ints_snoc, List.length_append]; exact Ox19, by rw [ints_snoc, List.length_append]; exact Oy19, .inr (by simp only [Value.ownBlock, ne_eq, Option.some.injEq]; exact NE13), Lx19⟩
     clear Bx19 Ox19 Oy19 Lx19 hHeld
     go_wp2_with fail
     go_roundw
     case rel => exact ⟨k + 1, _, _, by omega, by go_num, Lib.hid (by rw [HT.out]; exact HF.out)⟩
     case measure => simp [intOf]; omega
   ·skip
    go_simp
    refine K_world ?_
    intro w12 e12
    have Bx12 : Box w12 w2.heap.size [(.slice va R.start.length vcc), (.slice a0 zs.length c0), (.slice a1 zs.length c1), .int .i64 0, .int .i64 0] 66 := by rw [e12]; exact Bx0.alloc _
    have fx12 : w12.cell? ⟨wr.heap.size, 1, none⟩ = some (.int .i64 xh) := by rw [e12]; exact cell_alloc fx0 _
    have Ox12 : w12.ownsRow (w2.heap.size + 1) 3 1 (.slice a0 zs.length c0) zs.length (ints zs) := by rw [e12]; exact Ox0.alloc _
    have Oy12 : w12.ownsRow (w2.heap.size + 1) 3 1 (.slice a1 zs.length c1) zs.length (ints zs) := by rw [e12]; exact Oy0.alloc _
    have Lx12 : Below w2.heap.size w2 w12 := by rw [e12]; exact Lx0.alloc (Nat.le_of_lt Bx0.lt) _
    have Z12 : wq.drew.heap.size ≤ w12.heap.size := by rw [e12]; simp
    have Y12 : wr.heap.size < w12.heap.size := Nat.lt_of_lt_of_le Y0 Z12
    have N12 : w12.cell? ⟨wq.drew.heap.size, 0, none⟩ = some (.int .i64 xh) := by rw [e12]; simp [go_sem]
    clear e12
    refine hK.out _ _ ⟨Bx12.cell 1 rfl, Bx12.cell 2 rfl, fx12⟩ (fun hHeld => ?_)
    clear hK K
    refine cnL 5 fun K hK => ?_
    go_simp
    refine K_world ?_
    intro w5 e5
    have Bx5 : Box w5 w2.heap.size [(.slice va R.start.length vcc), (.slice a0 zs.length c0), (.slice a1 zs.length c1), .int .i64 0, .int .i64 0] 66 := by rw [e5]; exact Bx12.alloc _
    have fx5 : w5.cell? ⟨wr.heap.size, 1, none⟩ = some (.int .i64 xh) := by rw [e5]; exact cell_alloc fx12 _
    have Ox5 : w5.ownsRow (w2.heap.size + 1) 3 1 (.slice a0 zs.length c0) zs.length (ints zs) := by rw [e5]; exact Ox12.alloc _
    have Oy5 : w5.ownsRow (w2.heap.size + 1) 3 1 (.slice a1 zs.length c1) zs.length (ints zs) := by rw [e5]; exact Oy12.alloc _
    have Lx5 : Below w2.heap.size w2 w5 := by rw [e5]; exact Lx12.alloc (Nat.le_of_lt Bx12.lt) _
    have Z5 : w12.heap.size ≤ w5.heap.size := by rw [e5]; simp
    have Y5 : wr.heap.size < w5.heap.size := Nat.lt_of_lt_of_le Y12 Z5
    have N5 : w5.cell? ⟨w12.heap.size, 0, none⟩ = some (.int .i64 xh) := by rw [e5]; simp [go_sem]
    have N12_5 : w5.cell? ⟨wq.drew.heap.size, 0, none⟩ = some (.int .i64 xh) := by rw [e5]; exact cell_alloc N12 _
    clear e5
    refine hK.out _ _ ⟨Bx5.cell 1 rfl, Bx5.cell 2 rfl, fx5⟩ (fun hHeld => ?_)
    clear hK K
    refine cnL 6 fun K hK => ?_
    rw [if_pos (by rfl)]
    refine wp_append_lies _ _ _ 23 rfl (w2.heap.size + 1) 3 i0 (.int .i64 0) 1 8 Tryz.underlying23 HI.out HZ0.out HZ1.out HZ2.out rfl (by decide) (.slice a0 zs.length c0) zs.length (ints zs) rfl Ox5 ⟨w12.heap.size, 0, none⟩ 1 1 [.int .i64 xh] rfl rfl (src_one N5) one_cell (by decide) (by unfold maxLen; omega) (by omega) Bx5.lt w5.heap.size rfl ?_
    intro g6 c6 w6 ho6 hg6 hq6 hl6
    have Bx6 := Bx5.grown hg6 (own_far (Ox5) (by omega))
    have fx6 := hg6.cell fx5 (own_old OB0 (Nat.le_refl _))
    have Lx6 := Below.grown Lx5 hg6 (Nat.le_of_lt Bx5.lt) (fun q hq => Nat.le_trans (Nat.le_succ _) (Ox5.lt q hq).1)
    have Z6 := hg6.size
    have Y6 : wr.heap.size < w6.heap.size := Nat.lt_of_lt_of_le Y5 Z6
    have N12_6 := hg6.cell N12_5 (own_old OB0 (Nat.le_of_lt Y0))
    have Ox6 := ho6
    have Oy6 := Oy5.kept hg6 (ne_swap NE)
    have G6 := hl6
    have NE6 : some g6 ≠ Value.ownBlock (.slice a1 zs.length c1) := new_ne hq6 NE (fun b hb => Nat.lt_of_lt_of_le (OB1 b hb) (Nat.le_of_lt Y5))
    clear ho6 hg6 hq6 hl6
    refine hK.out _ _ ⟨Bx6.cell 1 rfl, Bx6.cell 2 rfl, fx6⟩ (fun hHeld => ?_)
    clear hK K
    refine tkW 15 ?_
    refine cnL 13 fun K hK => ?_
    rw [if_pos (by rfl)]
    refine wp_append_lies _ _ _ 23 rfl (w2.heap.size + 1) 3 i0 (.int .i64 0) 1 8 Tryz.underlying23 HI.out HZ0.out HZ1.out HZ2.out rfl (by decide) (.slice a1 zs.length c1) zs.length (ints zs) rfl Oy6 ⟨wq.drew.heap.size, 0, none⟩ 1 1 [.int .i64 xh] rfl rfl (src_one N12_6) one_cell (by decide) (by unfold maxLen; omega) (by omega) Bx6.lt w6.heap.size rfl ?_
    intro g13 c13 w13 ho13 hg13 hq13 hl13
    have Bx13 := Bx6.grown hg13 (own_far (Oy6) (by omega))
    have fx13 := hg13.cell fx6 (own_old OB1 (Nat.le_refl _))
    have Lx13 := Below.grown Lx6 hg13 (Nat.le_of_lt Bx6.lt) (fun q hq => Nat.le_trans (Nat.le_succ _) (Oy6.lt q hq).1)
    have Z13 := hg13.size
    have Y13 : wr.heap.size < w13.heap.size := Nat.lt_of_lt_of_le Y6 Z13
    have Ox13 := Ox6.kept hg13 (.inr NE6)
    have Oy13 := ho13
    have NE13 : g6 ≠ g13 := g_ne NE6 hq13 G6
    clear ho13 hg13 hq13 hl13
    refine hK.out _ _ ⟨Bx13.cell 1 rfl, Bx13.cell 2 rfl, fx13⟩ (fun hHeld => ?_)
    clear hK K
    refine ltL 16 fun K hK => ?_
    have d1 := Bx13.cell 1 rfl
    have d1f := Bx13.frozen 1
    go_simp
    refine K_world ?_
    intro w16 e16
    have Bx16 : Box w16 w2.heap.size [(.slice va R.start.length vcc), .slice (some ⟨g6, 0, none⟩) (zs.length + 1) c6, (.slice a1 zs.length c1), .int .i64 0, .int .i64 0] 66 := by rw [e16]; exact Bx13.set 1 _
    have Ox16 : w16.ownsRow (w2.heap.size + 1) 3 1 (.slice (some ⟨g6, 0, none⟩) (zs.length + 1) c6) (zs.length + 1) (ints zs ++ [.int .i64 xh]) := by rw [e16]; exact ownsRow_setCell_below Ox13 (by simp) _
    have Oy16 : w16.ownsRow (w2.heap.size + 1) 3 1 (.slice (some ⟨g13, 0, none⟩) (zs.length + 1) c13) (zs.length + 1) (ints zs ++ [.int .i64 xh]) := by rw [e16]; exact ownsRow_setCell_below Oy13 (by simp) _
    have Lx16 : Below w2.heap.size w2 w16 := by rw [e16]; exact Lx13.setCell (Nat.le_refl _) _
    clear e16 d1 d1f
    refine hK.out _ _ ?_
    clear hK K
    refine tkW 18 ?_
    refine ltL 19 fun K hK => ?_
    have d1 := Bx16.cell 2 rfl
    have d1f := Bx16.frozen 2
    go_simp
    refine K_world ?_
    intro w19 e19
    have Bx19 : Box w19 w2.heap.size [(.slice va R.start.length vcc), .slice (some ⟨g6, 0, none⟩) (zs.length + 1) c6, .slice (some ⟨g13, 0, none⟩) (zs.length + 1) c13, .int .i64 0, .int .i64 0] 66 := by rw [e19]; exact Bx16.set 2 _
    have Ox19 : w19.ownsRow (w2.heap.size + 1) 3 1 (.slice (some ⟨g6, 0, none⟩) (zs.length + 1) c6) (zs.length + 1) (ints zs ++ [.int .i64 xh]) := by rw [e19]; exact ownsRow_setCell_below Ox16 (by simp) _
    have Oy19 : w19.ownsRow (w2.heap.size + 1) 3 1 (.slice (some ⟨g13, 0, none⟩) (zs.length + 1) c13) (zs.length + 1) (ints zs ++ [.int .i64 xh]) := by rw [e19]; exact ownsRow_setCell_below Oy16 (by simp) _
    have Lx19 : Below w2.heap.size w2 w19 := by rw [e19]; exact Lx16.setCell (Nat.le_refl _) _
    clear e19 d1 d1f
    refine hK.out _ _ ?_
    clear hK K
    refine dnN ?_
    have HF : Hid (BInv w2.heap.size (.slice va R.start.length vcc) (.slice (some ⟨g6, 0, none⟩) (zs.length + 1) c6) (.slice (some ⟨g13, 0, none⟩) (zs.length + 1) c13) (zs ++ [xh]) (zs ++ [xh]) w2 w19) := Lib.hid ⟨Bx19, by rw [ints_snoc, List.length_append]; exact Ox19, by rw [ints_snoc, List.length_append]; exact Oy19, .inr (by simp only [Value.ownBlock, ne_eq, Option.some.injEq]; exact NE13), Lx19⟩
    clear Bx19 Ox19 Oy19 Lx19 hHeld
    go_wp2_with fail
    go_roundw
    case rel => exact ⟨k + 1, _, _, by omega, by go_num, Lib.hid (by rw [HT.out]; exact HF.out)⟩
    case measure => simp [intOf]; omega
  ·obtain rfl : k = R.pieces.length := by omega
   have hTk : (R.pieces.map (·.hand)).take R.pieces.length = R.pieces.map (·.hand) := by rw [List.take_of_length_le]; simp
   have hinv := HI0.out
   rw [hTk] at hinv
   obtain ⟨hBp, hO0, hO1, -, hL⟩ := hinv
   obtain ⟨a0, c0, rfl⟩ := own_form2 hO0
   obtain ⟨a1, c1, rfl⟩ := own_form2 hO1
   have HRes := Lib.hid (g1b.below hL z1b)
   have HBp := Lib.hid hBp
   have HP : Hid (RdP wr (beginZ R) (.slice va R.start.length vcc) (.slice a0 (R.pieces.map (·.hand)).length c0) (.slice a1 (R.pieces.map (·.hand)).length c1)) := Lib.hid ⟨HVc.out.below hL (Nat.le_refl _), RdI.of_own hO0, RdI.of_own hO1⟩
   have HBL : Hid (Below w.heap.size w wr) := Lib.hid (HB2.out.trans (hL.mono HB2.out.size))
   have HL0 := Lib.hid hL
   have HO0 := Lib.hid hO0
   have HO1 := Lib.hid hO1
   clear hBp hO0 hO1 hL hTk HI0 g1b hbel
   go_upto_region 10 with (fail)
   refine wp_region_lit ?_
   refine wpList_load_box (by rfl) 66 (.tmp 5) (by rfl) w2.heap.size (by rfl) HBp.out Tryz.underlying66 (by rfl) (by kernel_rfl) ?_
   refine wpList_store_box (vs := [.slice va R.start.length vcc, .slice a0 (R.pieces.map (·.hand)).length c0, .slice a1 (R.pieces.map (·.hand)).length c1, .int .i64 0, .int .i64 0]) (by rfl) 66 (.tmp 2) (.tmp 44) (by rfl) (w.heap.size + 1) (by rfl) (by rfl) HRes.out rfl (by kernel_rfl) (by rfl) ?_
   have H9 := Lib.hid (HRes.out.store (vs := [.slice va R.start.length vcc, .slice a0 (R.pieces.map (·.hand)).length c0, .slice a1 (R.pieces.map (·.hand)).length c1, .int .i64 0, .int .i64 0]) rfl)
   have HP9 : Hid (RdP (wr.setCells (w.heap.size + 1) 0 [.slice va R.start.length vcc, .slice a0 (R.pieces.map (·.hand)).length c0, .slice a1 (R.pieces.map (·.hand)).length c1, .int .i64 0, .int .i64 0]) (beginZ R) (.slice va R.start.length vcc) (.slice a0 (R.pieces.map (·.hand)).length c0) (.slice a1 (R.pieces.map (·.hand)).length c1)) := by
    refine Lib.hid ⟨RdI.of_own (own_setCells (own_stays HVo.out HL0.out) z1a 0 _), RdI.of_own (own_setCells HO0.out (by omega) 0 _), RdI.of_own (own_setCells HO1.out (by omega) 0 _)⟩
   have HL9 := Lib.hid (below_setCells HBL.out (Nat.le_succ w.heap.size) 0 [.slice va R.start.length vcc, .slice a0 (R.pieces.map (·.hand)).length c0, .slice a1 (R.pieces.map (·.hand)).length c1, .int .i64 0, .int .i64 0])
   generalize (wr.setCells (w.heap.size + 1) 0 [.slice va R.start.length vcc, .slice a0 (R.pieces.map (·.hand)).length c0, .slice a1 (R.pieces.map (·.hand)).length c1, .int .i64 0, .int .i64 0]) = w9 at *
   go_wp2_with fail
   exact bodyPost_ret (results_box rfl (by rfl) (by rfl) H9.out Tryz.underlying66 (by rfl) (by kernel_rfl)) rfl (.inr ⟨HZ.out, _, _, _, rfl, HP9.out, HL9.out⟩)
end Go.Proofs.YthklhndcdijneaaGreatDoor

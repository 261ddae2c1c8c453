/- PmG1: Prem1, Prem2, PremF, Prem3, PremC, Prem4, in one text. -/
import Derived.Test.YtnodagljaoonjaaGreatDoorC15
import Derived.Test.YtnodagljaoonjaaGreatDoorC09
import Derived.Test.YtnodagljaoonjaaGreatDoorC05
import Derived.Test.YtnodagljaoonjaaGreatDoorC18
import Derived.Test.YtnodagljaoonjaaGreatDoorC11
import Derived.Test.YtnodagljaoonjaaGreatDoorC04
/- The contracts of premove.Of, premove.Check. -/
namespace Go.Proofs.YtnodagljaoonjaaGreatDoor
open Go.ChangeShapes Go.WideShapes Go.ChangeAt Go.RowKit
set_option linter.unusedVariables false
set_option maxHeartbeats 2000000
set_option maxRecDepth 100000
structure PremZ where
 player : Int
 move : MoveZ
deriving Inhabited, DecidableEq
def premEl : El PremZ where
 k := 4
 E := fun _ x cs => cs = [.int .i64 x.player, .int .i64 x.move.src, .int .i64 x.move.dst, .int .i64 x.move.piece]
 mono := fun h _ _ => h
 len := fun h => by subst h; rfl
theorem prems_some {w : World} {a : Option Addr} {n c : Nat} {xs : List PremZ} (h : RdL premEl w (.slice a n c) xs) (hn : 0 < xs.length) : ∃ g o, a = some ⟨g, o, none⟩ ∧ g < w.heap.size ∧
  ∀ i, i < xs.length → w.cell? ⟨g, o + i * 4, none⟩ = some (.int .i64 (xs.getD i default).player) ∧ w.cell? ⟨g, o + i * 4 + 1, none⟩ = some (.int .i64 (xs.getD i default).move.src) ∧
   w.cell? ⟨g, o + i * 4 + 2, none⟩ = some (.int .i64 (xs.getD i default).move.dst) ∧ w.cell? ⟨g, o + i * 4 + 3, none⟩ = some (.int .i64 (xs.getD i default).move.piece) := by
 obtain ⟨g, o, ha, hg, hc⟩ := h.some hn
 refine ⟨g, o, ha, hg, fun i hi => ?_⟩
 obtain ⟨cs, he, hx⟩ := hc i hi
 simp only [premEl] at he hx
 subst he
 rw [List.getD_eq_getElem?_getD, List.getElem?_eq_getElem hi]
 exact ⟨hx 0 (by omega), hx 1 (by omega), hx 2 (by omega), hx 3 (by omega)⟩
def ofZ (l : List PremZ) (pl : Int) : List MoveZ := (l.filter fun x => x.player == pl).map (·.move)
theorem ofZ_snoc (l : List PremZ) (pl : Int) (k : Nat) (h : k < l.length) : ofZ (l.take (k + 1)) pl = ofZ (l.take k) pl ++ if (l.getD k default).player = pl then [(l.getD k default).move] else [] := by
 unfold ofZ
 rw [List.take_succ_eq_append_getElem h, List.filter_append, List.map_append, List.getD_eq_getElem?_getD, List.getElem?_eq_getElem h]
 congr 1
 by_cases e : l[k].player = pl <;> simp [e]
theorem ofZ_len (l : List PremZ) (pl : Int) : (ofZ l pl).length ≤ l.length := by
 unfold ofZ
 rw [List.length_map]
 exact List.length_filter_le _ _
theorem of_any (v : Value) (l : List PremZ) (pl : Int) (w : World) (h : RdL premEl w v l) (hl : l.length ≤ 1000000) :
  Calls Tryz.prog 134 #[v, .int .i64 pl] w (MovesPost (ofZ l pl) w) := by
 have HR := Lib.hid h
 obtain ⟨a, c, rfl, h1, h2⟩ := h.form
 unfold maxLen at h2
 clear h
 go_enter Tryz.func134, Tryz.ntmps134
 go_wp2_with fail
 go_loopw [5, 10] (fun vo vi wr => ∃ (k : Nat) (out : List MoveZ), k ≤ l.length ∧ vi = .int .i64 k ∧ Hid (out = ofZ (l.take k) pl) ∧ Hid (wr.ownsRow w.heap.size 38 3 vo out.length (flatM out)) ∧ Hid (Below w.heap.size w wr)) (fun _ i _ => l.length - (intOf i).toNat)
 case atStart => exact ⟨0, [], Nat.zero_le _, rfl, Lib.hid (by simp [ofZ]), Lib.hid (World.ownsRow_nil _ _ _ _), Lib.hid (Below.refl _ _)⟩
 case round =>
  obtain ⟨k, out, hk, rfl, HOUT, HO, HB⟩ := hrel
  have hsz := HB.out.size
  have hol : out.length ≤ 1000000 := by rw [HOUT.out]; have := ofZ_len (l.take k) pl; rw [List.length_take] at this; omega
  by_cases hlt : k < l.length
  ·obtain ⟨g, o, rfl, hg, hcc⟩ := prems_some (HR.out.below HB.out (Nat.le_refl _)) (by omega)
   obtain ⟨c0, c1, c2, c3⟩ := hcc k hlt
   have HS := Lib.hid (ofZ_snoc l pl k hlt)
   clear hcc
   generalize l.getD k default = x at *
   go_upto_region 5 with (fail)
   have hbx := Box.new' wr wr.heap.size [.int .i64 x.player, .int .i64 x.move.src, .int .i64 x.move.dst, .int .i64 x.move.piece] 86 rfl
   have HOn := Lib.hid (HO.out.alloc (.cells #[.int .i64 x.player, .int .i64 x.move.src, .int .i64 x.move.dst, .int .i64 x.move.piece] 86))
   have HBn := Lib.hid (HB.out.alloc hsz (.cells #[.int .i64 x.player, .int .i64 x.move.src, .int .i64 x.move.dst, .int .i64 x.move.piece] 86))
   clear c0 c1 c2 c3 HO HB
   generalize (wr.alloc (.cells #[.int .i64 x.player, .int .i64 x.move.src, .int .i64 x.move.dst, .int .i64 x.move.piece] 86)) = wn at *
   have d0 := hbx.cell 0 rfl
   have d1 := hbx.cell 1 rfl
   have d2 := hbx.cell 2 rfl
   have d3 := hbx.cell 3 rfl
   have hszn := HBn.out.size
   have HO := HOn
   clear hbx
   by_cases hp : x.player = pl
   ·have HS2 : Hid (ofZ (l.take (k + 1)) pl = out ++ [x.move]) := Lib.hid (by rw [HS.out, if_pos hp, HOUT.out])
    have hp' : (x.player == pl) = true := by simpa using hp
    clear hp HS
    go_wp2_with (at_builtin; refine app_new 41 38 (.agg #[.int .i64 0, .int .i64 0, .int .i64 0]) 3 24 infoMove Tryz.underlying41 rfl (by decide) (by rfl) _ _ (by rfl) (w.heap.size) _ out.length (flatM out) [.int .i64 x.move.src, .int .i64 x.move.dst, .int .i64 x.move.piece] wn HO.out hszn rfl three_ints (by omega) (by omega) (by rfl) (by rfl) ?_)
    intro g3 cap3 w3 hown3 hkeep3 _
    have HO3 := Lib.hid hown3
    have HB3 := Lib.hid (hkeep3.below HBn.out (Nat.le_refl _))
    clear hown3 hkeep3
    go_wp2_with fail
    go_roundw
    case rel => exact ⟨k + 1, out ++ [x.move], by omega, by go_num, Lib.hid HS2.out.symm, Lib.hid (by rw [← flatM_append, List.length_append]; exact HO3.out), HB3⟩
    case measure => simp [intOf]; omega
   ·have HS2 : Hid (ofZ (l.take (k + 1)) pl = out) := Lib.hid (by rw [HS.out, if_neg hp, HOUT.out, List.append_nil])
    have hp' : (x.player == pl) = false := by simpa using hp
    clear hp HS
    go_wp2_with fail
    go_roundw
    case rel => exact ⟨k + 1, out, by omega, by go_num, Lib.hid HS2.out.symm, HO, HBn⟩
    case measure => simp [intOf]; omega
  ·obtain rfl : k = l.length := by omega
   have HE : Hid (ofZ l pl = out) := Lib.hid (by rw [HOUT.out, List.take_of_length_le (Nat.le_refl _)])
   go_wp2_with fail
   go_ret
   exact ⟨_, rfl, by rw [HE.out]; exact HO.out, HB.out⟩
theorem IndexFunc_pm (v : Value) (xs : List PremZ) (p : PremZ → Bool) (f : FuncId) (caps : Array Value) (w : World) (h : RdL premEl w v xs) (hf : ∀ (args : Array Value) (w : World), (callFunc f args).run Tryz.prog w = .ok (.enter f args) w)
  (hc : ∀ (W : World) (x : PremZ) (cs : List Value), x ∈ xs → premEl.E W x cs → Below w.heap.size w W → Calls Tryz.prog f (#[.agg cs.toArray] ++ caps) W fun e w' => e = .returned (.bool (p x)) ∧ Below W.heap.size W w') :
  Calls Tryz.prog 160 #[v, .func (.func f) #[] caps] w fun e w' => e = .returned (.int .i64 (idxL p xs 0)) ∧ Below w.heap.size w w' := by
 obtain ⟨a, c, rfl, h1, h2⟩ := h.form
 unfold maxLen at h2
 have HR := Lib.hid h
 have HC := Lib.hid hc
 clear h hc
 go_enter Tryz.func160, Tryz.ntmps160
 go_wp2_with fail
 go_loopw [8] (fun i wr => ∃ k : Nat, k ≤ xs.length ∧ i = .int .i64 k ∧ Hid (idxL p xs 0 = idxL p (xs.drop k) k) ∧ Below w.heap.size w wr) (fun i _ => xs.length - (intOf i).toNat)
 case atStart => exact ⟨0, Nat.zero_le _, rfl, Lib.hid rfl, Below.refl _ _⟩
 case round =>
  obtain ⟨k, hk, rfl, HK, hbl⟩ := hrel
  by_cases hlt : k < xs.length
  ·obtain ⟨g, o, rfl, hg, hcc⟩ := (HR.out.below hbl (Nat.le_refl _)).some (by omega)
   obtain ⟨cs, hE, hcell⟩ := hcc k hlt
   have hcl := premEl.len hE
   simp only [premEl] at hcl
   obtain ⟨c0, c1, c2, c3, rfl⟩ : ∃ c0 c1 c2 c3, cs = [c0, c1, c2, c3] := by
    match cs, hcl with
    | [c0, c1, c2, c3], _ => exact ⟨_, _, _, _, rfl⟩
   have q0 := hcell 0 (by decide)
   have q1 := hcell 1 (by decide)
   have q2 := hcell 2 (by decide)
   have q3 := hcell 3 (by decide)
   simp only [premEl, List.getElem?_cons_zero, List.getElem?_cons_succ, Nat.add_zero] at q0 q1 q2 q3
   have HS := Lib.hid (idxL_step p xs k hlt)
   have HCk := Lib.hid (HC.out wr xs[k] [c0, c1, c2, c3] (List.getElem_mem hlt) hE hbl)
   have HB := Lib.hid hbl
   clear hcell hcc hE hcl hbl
   generalize xs[k] = x at *
   go_wp2_with fail
   refine HCk.out.mono ?_
   rintro e w1 ⟨rfl, hb1⟩
   have HB1 := Lib.hid (below_trans HB.out hb1 HB.out.size)
   clear hb1
   cases hpx : p x
   ·go_wp2_with fail
    go_roundw
    case rel => exact ⟨k + 1, by omega, by go_num, Lib.hid (by rw [HK.out, HS.out, if_neg (by simp [hpx])]), HB1.out⟩
    case measure => simp [intOf]; omega
   ·go_wp2_with fail
    go_ret
    exact ⟨by rw [HK.out, HS.out, if_pos hpx]; rfl, HB1.out⟩
  ·obtain rfl : k = xs.length := by omega
   go_wp2_with fail
   go_ret
   exact ⟨by rw [HK.out]; simp [idxL], hbl⟩
theorem ContainsFunc_pm (v : Value) (xs : List PremZ) (p : PremZ → Bool) (f : FuncId) (caps : Array Value) (w : World) (h : RdL premEl w v xs) (hf : ∀ (args : Array Value) (w : World), (callFunc f args).run Tryz.prog w = .ok (.enter f args) w)
  (hc : ∀ (W : World) (x : PremZ) (cs : List Value), x ∈ xs → premEl.E W x cs → Below w.heap.size w W → Calls Tryz.prog f (#[.agg cs.toArray] ++ caps) W fun e w' => e = .returned (.bool (p x)) ∧ Below W.heap.size W w') :
  Calls Tryz.prog 168 #[v, .func (.func f) #[] caps] w fun e w' => e = .returned (.bool (xs.any p)) ∧ Below w.heap.size w w' := by
 have HI := Lib.hid (IndexFunc_pm v xs p f caps w h hf hc)
 have HA := Lib.hid (idxL_any p xs 0 (by omega))
 clear h hc hf
 go_enter Tryz.func168, Tryz.ntmps168
 go_wp2_with fail
 refine HI.out.mono ?_
 rintro e w' ⟨rfl, hb⟩
 go_wp2_with fail
 go_ret
 exact ⟨by rw [← HA.out]; rfl, hb⟩
end Go.Proofs.YtnodagljaoonjaaGreatDoor
/- The contract of premove.Check. -/
namespace Go.Proofs.YtnodagljaoonjaaGreatDoor
open Go.ChangeShapes Go.WideShapes Go.ChangeAt Go.RowKit
set_option linter.unusedVariables false
set_option maxHeartbeats 2000000
set_option maxRecDepth 100000
def premErr (l : List PremZ) : Int := if 4 < (ofZ l 0).length ∨ 4 < (ofZ l 1).length then 2 else if l.any (fun x => x.player != 0 && x.player != 1) = true then 4 else 0
theorem pchk_any (x : PremZ) (W : World) : Calls Tryz.prog 169 #[.agg #[.int .i64 x.player, .int .i64 x.move.src, .int .i64 x.move.dst, .int .i64 x.move.piece]] W fun e w' => e = .returned (.bool (x.player != 0 && x.player != 1)) ∧ Below W.heap.size W w' := by
 by_cases h0 : x.player = 0
 ·have h0' : (x.player != 0) = false := by simpa using h0
  have HE : Hid ((x.player != 0 && x.player != 1) = false) := Lib.hid (by rw [h0']; rfl)
  clear h0
  go_enter Tryz.func169, Tryz.ntmps169
  go_wp2
  go_ret
  exact ⟨by rw [HE.out]; rfl, (Below.refl _ _).alloc (Nat.le_refl _) _⟩
 ·have h0' : (x.player != 0) = true := by simpa using h0
  have HE : Hid ((x.player != 0 && x.player != 1) = (x.player != 1)) := Lib.hid (by rw [h0']; rfl)
  clear h0
  go_enter Tryz.func169, Tryz.ntmps169
  go_wp2
  go_ret
  exact ⟨by rw [HE.out]; rfl, (Below.refl _ _).alloc (Nat.le_refl _) _⟩
theorem callPchk (args : Array Value) (w : World) : (callFunc 169 args).run Tryz.prog w = .ok (.enter 169 args) w := by kernel_rfl
theorem premCheck_any (v : Value) (l : List PremZ) (w : World) (h : RdL premEl w v l) (hl : l.length ≤ 1000000) :
  Calls Tryz.prog 133 #[v] w fun e w' => e = .returned (.int .i64 (premErr l)) ∧ Below w.heap.size w w' := by
 have HR := Lib.hid h
 have HD : Hid (premErr l = if 4 < (ofZ l 0).length ∨ 4 < (ofZ l 1).length then 2 else if l.any (fun x => x.player != 0 && x.player != 1) = true then 4 else 0) := Lib.hid rfl
 obtain ⟨a, c, rfl, h1, h2⟩ := h.form
 unfold maxLen at h2
 clear h
 go_enter Tryz.func133, Tryz.ntmps133
 go_wp2_with fail
 refine (of_any _ l 0 w HR.out hl).mono ?_
 rintro e w1 ⟨v1, rfl, ho1, hb1⟩
 obtain ⟨a1, c1, rfl⟩ := own_form2 ho1
 have HB1 := Lib.hid hb1
 clear ho1 hb1
 generalize (ofZ l 0).length = n0 at *
 by_cases g0 : 4 < n0
 ·have g0i : (4 : Int) < (n0 : Int) := by omega
  have HE : Hid (premErr l = 2) := Lib.hid (by rw [HD.out, if_pos (.inl g0)])
  go_wp2_with fail
  go_ret
  exact ⟨by rw [HE.out]; rfl, HB1.out⟩
 have g0i : ¬ (4 : Int) < (n0 : Int) := by omega
 go_wp2_with fail
 refine (of_any _ l 1 w1 (HR.out.below HB1.out (Nat.le_refl _)) hl).mono ?_
 rintro e w2 ⟨v2, rfl, ho2, hb2⟩
 obtain ⟨a2, c2, rfl⟩ := own_form2 ho2
 have HB2 := Lib.hid (below_trans HB1.out hb2 HB1.out.size)
 clear ho2 hb2
 generalize (ofZ l 1).length = n1 at *
 by_cases g1 : 4 < n1
 ·have g1i : (4 : Int) < (n1 : Int) := by omega
  have HE : Hid (premErr l = 2) := Lib.hid (by rw [HD.out, if_pos (.inr g1)])
  go_wp2_with fail
  go_ret
  exact ⟨by rw [HE.out]; rfl, HB2.out⟩
 have g1i : ¬ (4 : Int) < (n1 : Int) := by omega
 have HD2 : Hid (premErr l = if l.any (fun x => x.player != 0 && x.player != 1) = true then 4 else 0) := Lib.hid (by rw [HD.out, if_neg (by omega)])
 have HCO := Lib.hid (ContainsFunc_pm (.slice a l.length c) l (fun x => x.player != 0 && x.player != 1) 169 #[] w2 (HR.out.below HB2.out (Nat.le_refl _)) callPchk (fun W x cs hx hE hW => by
  simp only [premEl] at hE
  subst hE
  exact pchk_any x W))
 clear HD g0 g1
 go_wp2_with fail
 refine HCO.out.mono ?_
 rintro e w3 ⟨rfl, hb3⟩
 have HB3 := Lib.hid (below_trans HB2.out hb3 HB2.out.size)
 clear hb3 HCO
 generalize l.any (fun x => x.player != 0 && x.player != 1) = b at *
 cases b
 ·have HE : Hid (premErr l = 0) := Lib.hid (by rw [HD2.out]; rfl)
  go_wp2_with fail
  go_ret
  exact ⟨by rw [HE.out]; rfl, HB3.out⟩
 ·have HE : Hid (premErr l = 4) := Lib.hid (by rw [HD2.out]; rfl)
  go_wp2_with fail
  go_ret
  exact ⟨by rw [HE.out]; rfl, HB3.out⟩
end Go.Proofs.YtnodagljaoonjaaGreatDoor
/- Rows of announced moves as lists of cells; slices.Clone at PremoveMove. -/
namespace Go.Proofs.YtnodagljaoonjaaGreatDoor
open Go.ChangeShapes Go.WideShapes Go.ChangeAt Go.RowKit
set_option linter.unusedVariables false
set_option maxHeartbeats 2000000
set_option maxRecDepth 100000
theorem info_pm : (Tryz.prog.info? 86).map (fun i => (i.zero, i.size, i.bytes)) = some (some (.agg #[.int .i64 0, .int .i64 0, .int .i64 0, .int .i64 0]), 4, 32) := by kernel_rfl
theorem Clone_pm {α : Type} (el : El α) (hk : el.k = 4) (h1 : ∀ (w : World) (x : α) (cs : List Value), el.E w x cs → ∀ u ∈ cs, u.oneCell' = true) (v : Value) (xs : List α) (w : World) (h : RdL el w v xs) (hl : xs.length ≤ 1000000) :
  Calls Tryz.prog 30 #[v] w (ClonedPost el 86 xs w) := by
 obtain ⟨i0, hi, hz0, hz1, hz2⟩ := info_of info_pm
 have hq := fun (w : World) (a : Option Addr) (n c : Nat) => Lib.run_eql_slice_nil (P := Tryz.prog) w 48 86 a n c 0 0 Tryz.underlying48
 have hown0 : (w.alloc (.cells #[] 86)).ownsRow w.heap.size 86 4 (.slice (some ⟨w.heap.size, 0, none⟩) 0 0) 0 [] := World.ownsRow_made w #[] 0 (Nat.le_refl _) (by unfold maxLen; omega) rfl
 obtain ⟨a, n, c, vs, rfl, hn, hvl, hone, hE, hcell⟩ := rdl_cells h1 h
 rw [hk] at hvl
 have HR := Lib.hid hE
 cases a with
 | none =>
  have hn0 : n = 0 := hcell.1 rfl
  subst hn0
  obtain rfl : xs = [] := List.length_eq_zero_iff.1 hn.symm
  clear h hl hE hcell hown0 hn hvl hone HR hi hz0 hz1 hz2
  go_enter Tryz.func30, Tryz.ntmps30
  go_wp2
  go_ret
  exact ⟨_, [], rfl, World.ownsRow_nil _ _ _ _, (fun i hi => by cases hi), Below.refl _ _⟩
 | some ad =>
  have hnews : ∀ j u, vs[j]? = some u → (w.alloc (.cells #[] 86)).cell? (ad.add j) = some u := fun j u hu => by
   have hc := hcell.2 ad rfl j u hu
   rw [World.cell?_of_block (w := w) (a := ad.add j) (Below.heap_alloc w _ _ (World.block_lt_of_cell? w _ hc))]
   exact hc
  have Hown0 := Lib.hid hown0
  have Hnews := Lib.hid hnews
  have Hil := Lib.hid hvl
  have Hone := Lib.hid hone
  have hnl : n ≤ 1000000 := by omega
  have HN := Lib.hid hn
  clear hown0 hnews hcell h hE hvl hone hl hn
  go_enter Tryz.func30, Tryz.ntmps30
  go_wp2_with (at_builtin; refine wpList_append_own _ rfl _ _ 48 rfl w.heap.size 86 i0 (.agg #[.int .i64 0, .int .i64 0, .int .i64 0, .int .i64 0]) 4 32 Tryz.underlying48 hi hz0 hz1 hz2 rfl (by decide) _ 0 [] rfl Hown0.out ad n c vs rfl Hil.out Hnews.out Hone.out ?c3 ?c4 ?c5 ?_)
  case c3 => unfold maxLen; omega
  case c4 => omega
  case c5 => simp
  intro v' w2 hown' hgrow _
  try simp only [Nat.zero_add, List.nil_append] at hown'
  have hb : Below w.heap.size w w2 := Below.grown ((Below.refl _ w).alloc (Nat.le_refl _) _) hgrow (by simp) (fun q hq => by simp [Value.ownBlock] at hq; omega)
  have HO := Lib.hid hown'
  have HB := Lib.hid hb
  clear hown' hgrow hb
  go_wp2
  go_ret
  exact ⟨v', vs, rfl, by rw [← HN.out, hk]; exact HO.out, fun i hi => el.mono (HR.out i hi) HB.out (Nat.le_refl _), HB.out⟩
theorem prem_one (w : World) (x : PremZ) (cs : List Value) (h : premEl.E w x cs) : ∀ u ∈ cs, u.oneCell' = true := by
 simp only [premEl] at h
 subst h
 intro u hu
 simp at hu
 rcases hu with rfl | rfl | rfl | rfl <;> rfl
def flatP (l : List PremZ) : List Value := l.flatMap fun m => [.int .i64 m.player, .int .i64 m.move.src, .int .i64 m.move.dst, .int .i64 m.move.piece]
theorem flatP_cons (m : PremZ) (t : List PremZ) : flatP (m :: t) = .int .i64 m.player :: .int .i64 m.move.src :: .int .i64 m.move.dst :: .int .i64 m.move.piece :: flatP t := rfl
theorem flatP_append (l : List PremZ) (m : PremZ) : flatP l ++ [.int .i64 m.player, .int .i64 m.move.src, .int .i64 m.move.dst, .int .i64 m.move.piece] = flatP (l ++ [m]) := by simp [flatP]
theorem flatP_len (l : List PremZ) : (flatP l).length = l.length * 4 := by
 induction l with
 | nil => rfl
 | cons m t ih => rw [flatP_cons]; simp only [List.length_cons, ih]; omega
theorem flatP_at (l : List PremZ) (i : Nat) (h : i < l.length) : (flatP l)[i * 4]? = some (.int .i64 (l.getD i default).player) ∧ (flatP l)[i * 4 + 1]? = some (.int .i64 (l.getD i default).move.src) ∧ (flatP l)[i * 4 + 2]? = some (.int .i64 (l.getD i default).move.dst) ∧
  (flatP l)[i * 4 + 3]? = some (.int .i64 (l.getD i default).move.piece) := by
 induction l generalizing i with
 | nil => simp at h
 | cons m t ih =>
  rw [flatP_cons]
  cases i with
  | zero => simp
  | succ i =>
   obtain ⟨a, b, c, d⟩ := ih i (by simpa using h)
   rw [show (i + 1) * 4 = i * 4 + 1 + 1 + 1 + 1 by omega, show i * 4 + 1 + 1 + 1 + 1 + 1 = i * 4 + 1 + 1 + 1 + 1 + 1 by rfl, show i * 4 + 1 + 1 + 1 + 1 + 2 = i * 4 + 2 + 1 + 1 + 1 + 1 by omega, show i * 4 + 1 + 1 + 1 + 1 + 3 = i * 4 + 3 + 1 + 1 + 1 + 1 by omega]
   simp only [List.getElem?_cons_succ, List.getD_cons_succ]
   exact ⟨a, b, c, d⟩
theorem flatP_take (l : List PremZ) (k : Nat) : (flatP l).take (k * 4) = flatP (l.take k) := by
 induction l generalizing k with
 | nil => simp [flatP]
 | cons m t ih =>
  cases k with
  | zero => simp [flatP]
  | succ k =>
   rw [List.take_succ_cons, flatP_cons, flatP_cons, ← ih k, show (k + 1) * 4 = k * 4 + 1 + 1 + 1 + 1 by omega]
   simp only [List.take_succ_cons]
theorem flatP_put (l : List PremZ) (i : Nat) (z : PremZ) : putAt (flatP l) (i * 4) [.int .i64 z.player, .int .i64 z.move.src, .int .i64 z.move.dst, .int .i64 z.move.piece] = flatP (l.set i z) := by
 simp only [putAt]
 induction l generalizing i with
 | nil => simp [flatP]
 | cons m t ih =>
  cases i with
  | zero => simp [flatP_cons]
  | succ i =>
   rw [List.set_cons_succ, flatP_cons, flatP_cons, ← ih i, show (i + 1) * 4 = i * 4 + 1 + 1 + 1 + 1 by omega]
   simp [List.set_cons_succ]
theorem flatP_of {w : World} : ∀ (xs : List PremZ) (vs : List Value), vs.length = xs.length * 4 → (∀ i (h : i < xs.length), premEl.E w xs[i] ((vs.drop (i * 4)).take 4)) → vs = flatP xs
 | [], vs, hl, _ => by
  have : vs.length = 0 := by simpa using hl
  rw [List.length_eq_zero_iff.1 this]; rfl
 | x :: t, vs, hl, h => by
  have h0 : vs.take 4 = [.int .i64 x.player, .int .i64 x.move.src, .int .i64 x.move.dst, .int .i64 x.move.piece] := h 0 (by simp)
  have ih := flatP_of (w := w) t (vs.drop 4) (by simp at hl ⊢; omega) (fun i hi => by
   have := h (i + 1) (by simpa using hi)
   rw [show (i + 1) * 4 = 4 + i * 4 by omega] at this
   rw [List.drop_drop]
   exact this)
  rw [flatP_cons, ← ih, ← List.take_append_drop 4 vs, h0]
  simp
theorem rdP_of_own {w : World} {b : Nat} {v : Value} {xs : List PremZ} (h : w.ownsRow b 86 4 v xs.length (flatP xs)) : RdL premEl w v xs := by
 refine RdL.of_own (el := premEl) h fun i hi => ?_
 obtain ⟨c0, c1, c2, c3⟩ := flatP_at xs i hi
 have e : xs.getD i default = xs[i] := by rw [List.getD_eq_getElem?_getD, List.getElem?_eq_getElem hi]; rfl
 rw [e] at c0 c1 c2 c3
 show ((flatP xs).drop (i * 4)).take 4 = _
 have hlen := flatP_len xs
 apply List.ext_getElem?
 intro j
 by_cases hj : j < 4
 ·rw [List.getElem?_take, if_pos hj, List.getElem?_drop]
  match j, hj with
  | 0, _ => exact c0
  | 1, _ => exact c1
  | 2, _ => exact c2
  | 3, _ => exact c3
 ·rw [List.getElem?_eq_none (by simp; omega), List.getElem?_eq_none (by simp; omega)]
theorem clone_pm (v : Value) (xs : List PremZ) (w : World) (h : RdL premEl w v xs) (hl : xs.length ≤ 1000000) :
  Calls Tryz.prog 30 #[v] w fun e w' => ∃ v', e = .returned v' ∧ w'.ownsRow w.heap.size 86 4 v' xs.length (flatP xs) ∧ Below w.heap.size w w' := by
 refine (Clone_pm premEl rfl prem_one v xs w h hl).mono ?_
 rintro e w' ⟨v', vs, rfl, ho, hE, hb⟩
 have e1 := flatP_of xs vs ho.1 hE
 subst e1
 exact ⟨v', rfl, ho, hb⟩
theorem zero4 (n : Nat) : (Builtin.zeroCells (Value.cells (.agg #[.int .i64 0, .int .i64 0, .int .i64 0, .int .i64 0])) n).toList = List.replicate (n * 4) (.int .i64 0) := by
 apply List.ext_getElem
 ·simp [Builtin.zeroCells, Value.cells]
 ·intro i h1 h2
  simp only [Builtin.zeroCells, Value.cells, Array.toList_map, Array.toList_range, List.getElem_map, List.getElem_range, List.getElem_replicate]
  have h3 : i % 4 = 0 ∨ i % 4 = 1 ∨ i % 4 = 2 ∨ i % 4 = 3 := by omega
  rcases h3 with h3 | h3 | h3 | h3 <;> simp [h3]
theorem run_clear4 (w : World) (ty : TypeId) (b o n c : Nat) (hn : 0 < n) (hc : ∀ j, j < n * 4 → (w.cell? ⟨b, o + j, none⟩).isSome = true) (hf : ∀ j, j < n * 4 → w.frozen? ⟨b, o + j, none⟩ = false) :
  (Builtin.clear_ #[48] ty #[.slice (some ⟨b, o, none⟩) n c]).run Tryz.prog w = .ok (.tuple #[]) (w.setCells b o (List.replicate (n * 4) (.int .i64 0))) := by
 have hv : ∀ w, (zeroValue 86).run Tryz.prog w = .ok (.agg #[.int .i64 0, .int .i64 0, .int .i64 0, .int .i64 0]) w := fun w => by kernel_rfl
 have hst := run_storeCells_cells (P := Tryz.prog) b o (List.replicate (n * 4) (.int .i64 0)) 0 w (by simpa using hc) (by simpa using hf) (by intro v hv'; rw [List.eq_of_mem_replicate hv']; rfl)
 simp only [Nat.add_zero] at hst
 obtain ⟨m, rfl⟩ : ∃ m, n = m + 1 := ⟨n - 1, by omega⟩
 simp [Builtin.clear_, run_underlying Tryz.underlying48, hv, zero4, hst]
theorem idxL_none {α : Type} (p : α → Bool) : ∀ (xs : List α) (k : Int), 0 ≤ k → idxL p xs k = -1 → xs.filter (fun x => !p x) = xs
 | [], _, _, _ => rfl
 | x :: t, k, hk, h => by
  unfold idxL at h
  cases hx : p x
  ·rw [hx] at h
   rw [List.filter_cons, hx]
   simp only [Bool.not_false, if_true]
   rw [idxL_none p t (k + 1) (by omega) (by simpa using h)]
  ·rw [hx] at h
   simp at h
   omega
theorem idxL_found {α : Type} [Inhabited α] (p : α → Bool) : ∀ (xs : List α) (k : Int), 0 ≤ k → idxL p xs k ≠ -1 → ∃ j : Nat, idxL p xs k = k + j ∧ j < xs.length ∧ p (xs.getD j default) = true ∧ (xs.take j).filter (fun x => !p x) = xs.take j
 | [], _, _, h => by simp [idxL] at h
 | x :: t, k, hk, h => by
  unfold idxL at h ⊢
  cases hx : p x
  ·rw [hx] at h
   simp only [Bool.false_eq_true, if_false] at h ⊢
   obtain ⟨j, h1, h2, h3, h4⟩ := idxL_found p t (k + 1) (by omega) h
   refine ⟨j + 1, by rw [h1]; omega, by simp; omega, by simpa using h3, ?_⟩
   rw [List.take_succ_cons, List.filter_cons, hx]
   simp only [Bool.not_false, if_true]
   rw [h4]
  ·exact ⟨0, by simp, by simp, by simpa using hx, by simp⟩
theorem filter_snoc {α : Type} [Inhabited α] (q : α → Bool) (xs : List α) (m : Nat) (h : m < xs.length) : (xs.take (m + 1)).filter q = (xs.take m).filter q ++ if q (xs.getD m default) = true then [xs.getD m default] else [] := by
 rw [List.take_succ_eq_append_getElem h, List.filter_append, List.getD_eq_getElem?_getD, List.getElem?_eq_getElem h]
 congr 1
 by_cases e : q xs[m] = true <;> simp [e]
theorem drop_moreP {α : Type} {xs ys : List α} {o : Nat} (h : ys.drop o = xs.drop o) (i : Nat) : ys.drop (o + i) = xs.drop (o + i) := by
 rw [← List.drop_drop, ← List.drop_drop, h]
theorem drop_putP {α : Type} {xs ys : List α} {o : Nat} (h : ys.drop o = xs.drop o) (k : Nat) (z : α) (hk : k < o + 1) : (ys.set k z).drop (o + 1) = xs.drop (o + 1) := by
 rw [List.drop_set_of_lt hk]
 exact drop_moreP h 1
theorem take_putP {α : Type} (l : List α) (k : Nat) (z : α) (h : k < l.length) : (l.set k z).take (k + 1) = l.take k ++ [z] := by
 rw [List.take_succ_eq_append_getElem (by simpa using h), List.take_set_of_le (Nat.le_refl _), List.getElem_set_self]
theorem getD_dropP {α : Type} [Inhabited α] {xs ys : List α} {o : Nat} (h : ys.drop o = xs.drop o) : ys.getD o default = xs.getD o default := by
 have := congrArg (fun l => l.getD 0 default) h
 simpa [List.getD_eq_getElem?_getD, List.getElem?_drop] using this
theorem grown_new {B : Nat} {w w1 w2 : World} {row : Option Nat} (h : w.grownBy w1 row) (hb : Below w1.heap.size w1 w2) : w.grownBy w2 row :=
 ⟨hb.os.trans h.os, hb.tape.trans h.tape, hb.output.trans h.output, Nat.le_trans h.size hb.size, fun k hk hn => (hb.block k (Nat.lt_of_lt_of_le hk h.size)).trans (h.block k hk hn)⟩
end Go.Proofs.YtnodagljaoonjaaGreatDoor
/- slices.DeleteFunc at PremoveMove. -/
namespace Go.Proofs.YtnodagljaoonjaaGreatDoor
open Go.ChangeShapes Go.WideShapes Go.ChangeAt Go.RowKit
set_option linter.unusedVariables false
set_option maxHeartbeats 2000000
set_option maxRecDepth 100000
def DelPost (base : Nat) (v : Value) (xs : List PremZ) (w : World) (e : Ending) (w' : World) : Prop :=
 ∃ v', e = .returned v' ∧ w'.ownsRow base 86 4 v' xs.length (flatP xs) ∧ w.grownBy w' v.ownBlock
theorem delete_any (base : Nat) (v : Value) (xs : List PremZ) (p : PremZ → Bool) (f : FuncId) (caps : Array Value) (w : World) (h : w.ownsRow base 86 4 v xs.length (flatP xs)) (hl : xs.length ≤ 1000000)
  (hf : ∀ (args : Array Value) (w : World), (callFunc f args).run Tryz.prog w = .ok (.enter f args) w)
  (hc : ∀ (W : World) (x : PremZ), w.grownBy W v.ownBlock → Calls Tryz.prog f (#[.agg #[.int .i64 x.player, .int .i64 x.move.src, .int .i64 x.move.dst, .int .i64 x.move.piece]] ++ caps) W fun e w' => e = .returned (.bool (p x)) ∧ Below W.heap.size W w') :
  Calls Tryz.prog 193 #[v, .func (.func f) #[] caps] w (DelPost base v (xs.filter fun x => !p x) w) := by
 have HO := Lib.hid h
 have HC := Lib.hid hc
 have HI := Lib.hid (IndexFunc_pm v xs p f caps w (rdP_of_own h) hf (fun W x cs _ hE hb => by
  simp only [premEl] at hE
  subst hE
  exact hc W x (grown_new (B := 0) (grown_refl1 w v.ownBlock) hb)))
 by_cases hn : idxL p xs 0 = -1
 ·have HE := Lib.hid (idxL_none p xs 0 (Int.le_refl _) hn)
  obtain ⟨a, c, rfl⟩ := own_form2 h
  have HN := Lib.hid hn
  clear h hc
  go_enter Tryz.func193, Tryz.ntmps193
  go_wp2_with fail
  refine HI.out.mono ?_
  rintro e w1 ⟨rfl, hb1⟩
  rw [hn]
  have HB := Lib.hid hb1
  clear hb1 hn HI
  go_wp2_with fail
  go_ret
  exact ⟨_, rfl, by rw [HE.out]; exact own_stays HO.out HB.out, grown_new (B := 0) (grown_refl1 _ _) HB.out⟩
 obtain ⟨i0, hi0, hi1, hpi, hti⟩ := idxL_found p xs 0 (Int.le_refl _) hn
 simp only [Int.zero_add] at hi0
 have HTI := Lib.hid hti
 have HPI := Lib.hid hpi
 clear hn hti hpi
 obtain ⟨g, c, rfl⟩ := own_some h (by omega)
 have hg := h.lt g rfl
 clear h hc
 have hi0n : ((i0 : Int) == -1) = false := by simp
 go_enter Tryz.func193, Tryz.ntmps193
 go_wp2_with fail
 refine HI.out.mono ?_
 rintro e w1 ⟨rfl, hb1⟩
 rw [hi0]
 have HB := Lib.hid hb1
 clear hb1 HI hi0
 go_wp2_with fail
 go_loopw [5, 6, 7] (fun vk vi vb wr => ∃ (k m : Nat) (ys : List PremZ), m ≤ xs.length ∧ vi = .int .i64 m ∧ vk = .int .i64 k ∧ k < m ∧ Hid (ys.length = xs.length) ∧ Hid (ys.drop m = xs.drop m) ∧ Hid (ys.take k = (xs.take m).filter fun x => !p x) ∧ Hid (wr.ownsRow base 86 4 (.slice (some ⟨g, 0, none⟩) xs.length c) xs.length (flatP ys)) ∧ Hid (w.grownBy wr (some g))) (fun _ i _ _ => xs.length - (intOf i).toNat)
 case atStart => exact ⟨i0, i0 + 1, xs, by omega, by go_num, rfl, by omega, Lib.hid rfl, Lib.hid rfl, Lib.hid (by rw [filter_snoc _ _ _ hi1, HTI.out, HPI.out]; simp), Lib.hid (own_stays HO.out HB.out), Lib.hid (grown_new (B := 0) (grown_refl1 _ _) HB.out)⟩
 case round =>
  obtain ⟨k, m, ys, hm, rfl, rfl, hk, HYL, HYD, HYT, HOy, HGy⟩ := hrel
  by_cases hlt : m < xs.length
  ·have hyl := HYL.out
   have y1 : ys.getD m default = xs.getD m default := getD_dropP HYD.out
   obtain ⟨q0, q1, q2, q3⟩ := flatP_at ys m (by omega)
   rw [y1] at q0 q1 q2 q3
   have c0 := (HOy.out.cellAt (m * 4) (by omega)).trans q0
   have c1 := (HOy.out.cellAt (m * 4 + 1) (by omega)).trans q1
   have c2 := (HOy.out.cellAt (m * 4 + 2) (by omega)).trans q2
   have c3 := (HOy.out.cellAt (m * 4 + 3) (by omega)).trans q3
   have HS := Lib.hid (filter_snoc (fun x => !p x) xs m hlt)
   clear q0 q1 q2 q3 y1 hyl
   generalize xs.getD m default = x at *
   have hgs : w.heap.size ≤ wr.heap.size := HGy.out.size
   have hgr : g < wr.heap.size := by omega
   go_upto_region 8 with (fail)
   have hbx := Box.new' wr wr.heap.size [.int .i64 x.player, .int .i64 x.move.src, .int .i64 x.move.dst, .int .i64 x.move.piece] 86 rfl
   have HOn := Lib.hid (HOy.out.alloc (.cells #[.int .i64 x.player, .int .i64 x.move.src, .int .i64 x.move.dst, .int .i64 x.move.piece] 86))
   have HGn : Hid (w.grownBy (wr.alloc (.cells #[.int .i64 x.player, .int .i64 x.move.src, .int .i64 x.move.dst, .int .i64 x.move.piece] 86)) (some g)) := Lib.hid (grown_new (B := 0) HGy.out ((Below.refl _ _).alloc (Nat.le_refl _) _))
   have hszn : wr.heap.size < (wr.alloc (.cells #[.int .i64 x.player, .int .i64 x.move.src, .int .i64 x.move.dst, .int .i64 x.move.piece] 86)).heap.size := by simp
   clear c0 c1 c2 c3 HOy HGy
   generalize (wr.alloc (.cells #[.int .i64 x.player, .int .i64 x.move.src, .int .i64 x.move.dst, .int .i64 x.move.piece] 86)) = wn at *
   have d0 := hbx.cell 0 rfl
   have d1 := hbx.cell 1 rfl
   have d2 := hbx.cell 2 rfl
   have d3 := hbx.cell 3 rfl
   have HBX := Lib.hid hbx
   have HCk := Lib.hid (HC.out wn x HGn.out)
   clear hbx
   go_wp2_with fail
   refine HCk.out.mono ?_
   rintro e w2 ⟨rfl, hb2⟩
   have HG2 := Lib.hid (grown_new (B := 0) HGn.out hb2)
   have HO2 := Lib.hid (own_stays HOn.out hb2)
   have HBX2 := Lib.hid (HBX.out.stays hb2)
   have hs2 := hb2.size
   have e0 := HBX2.out.cell 0 rfl
   have e1 := HBX2.out.cell 1 rfl
   have e2 := HBX2.out.cell 2 rfl
   have e3 := HBX2.out.cell 3 rfl
   clear d0 d1 d2 d3 hb2 HCk HOn HGn HBX
   cases hpx : p x
   ·have HS2 : Hid ((xs.take (m + 1)).filter (fun x => !p x) = ys.take k ++ [x]) := Lib.hid (by rw [HS.out, HYT.out, hpx]; simp)
    have s := fun j (h : j < xs.length * 4) => List.getElem?_eq_getElem (l := flatP ys) (i := j) (by rw [flatP_len, HYL.out]; exact h)
    have s0 := (HO2.out.cellAt (k * 4) (by omega)).trans (s _ (by omega))
    have s1 := (HO2.out.cellAt (k * 4 + 1) (by omega)).trans (s _ (by omega))
    have s2 := (HO2.out.cellAt (k * 4 + 2) (by omega)).trans (s _ (by omega))
    have s3 := (HO2.out.cellAt (k * 4 + 3) (by omega)).trans (s _ (by omega))
    have f0 := HO2.out.frozenAt (k * 4)
    have f1 := HO2.out.frozenAt (k * 4 + 1)
    have f2 := HO2.out.frozenAt (k * 4 + 2)
    have f3 := HO2.out.frozenAt (k * 4 + 3)
    have HPut := own_put [.int .i64 x.player, .int .i64 x.move.src, .int .i64 x.move.dst, .int .i64 x.move.piece] (flatP ys) (k * 4) _ HO2.out
    rw [flatP_put] at HPut
    have HPh := Lib.hid HPut
    have HDR := Lib.hid (drop_putP HYD.out k x (by omega))
    have HTK : Hid ((ys.set k x).take (k + 1) = (xs.take (m + 1)).filter fun x => !p x) := Lib.hid (by rw [take_putP ys k x (by rw [HYL.out]; omega), HS2.out])
    clear HPut s
    go_wp2_with fail
    go_roundw
    case rel => exact ⟨k + 1, m + 1, ys.set k x, by omega, by go_num, by go_num, by omega, Lib.hid (by rw [List.length_set]; exact HYL.out), HDR, HTK, Lib.hid HPh.out.1, Lib.hid (grown_trans1 HG2.out HPh.out.2)⟩
    case measure => simp [intOf]; omega
   ·have HS2 : Hid ((xs.take (m + 1)).filter (fun x => !p x) = ys.take k) := Lib.hid (by rw [HS.out, HYT.out, hpx]; simp)
    go_wp2_with fail
    go_roundw
    case rel => exact ⟨k, m + 1, ys, by omega, by go_num, rfl, by omega, HYL, Lib.hid (drop_moreP HYD.out 1), Lib.hid HS2.out.symm, HO2, HG2⟩
    case measure => simp [intOf]; omega
  ·obtain rfl : m = xs.length := by omega
   have HF : Hid (ys.take k = xs.filter fun x => !p x) := Lib.hid (by rw [HYT.out, List.take_of_length_le (Nat.le_refl _)])
   have hcapx : xs.length ≤ c := own_cap' HOy.out
   have hsl2 : ∀ w' : World, (Instr.slice 48 (.slice (some ⟨g, 0, none⟩) xs.length c) (some (.int .i64 (k : Int))) none none).run Tryz.prog w' = .ok (.slice (some ⟨g, k * 4, none⟩) (xs.length - k) (c - k)) w' := fun w' => by
    rw [run_drop (P := Tryz.prog) (t := 48) (s := 4) Tryz.underlying48 (fun w => by kernel_rfl) (some ⟨g, 0, none⟩) xs.length c k (by omega) w']
    simp [subAddr, show ¬ c = k by omega, add_off]
   have hsl3 : ∀ w' : World, (Instr.slice 48 (.slice (some ⟨g, 0, none⟩) xs.length c) none (some (.int .i64 (k : Int))) none).run Tryz.prog w' = .ok (.slice (some ⟨g, 0, none⟩) k c) w' := fun w' => by
    exact run_take (P := Tryz.prog) (t := 48) (s := 4) Tryz.underlying48 (fun w => by kernel_rfl) (some ⟨g, 0, none⟩) xs.length c k (by omega) w'
   have hclr : ∀ ty, (Builtin.clear_ #[48] ty #[.slice (some ⟨g, k * 4, none⟩) (xs.length - k) (c - k)]).run Tryz.prog wr = .ok (.tuple #[]) (wr.setCells g (k * 4) (List.replicate ((xs.length - k) * 4) (.int .i64 0))) := fun ty =>
    run_clear4 wr ty g (k * 4) (xs.length - k) (c - k) (by omega) (fun q hq => by rw [HOy.out.cellAt (k * 4 + q) (by omega), List.getElem?_eq_getElem (by rw [flatP_len, HYL.out]; omega)]; rfl) (fun q _ => HOy.out.frozenAt _)
   have HPh := Lib.hid (own_put (List.replicate ((xs.length - k) * 4) (.int .i64 0)) (flatP ys) (k * 4) _ HOy.out)
   have HLn : Hid ((xs.filter fun x => !p x).length = k) := Lib.hid (by rw [← HF.out, List.length_take, HYL.out]; omega)
   have HKN := Lib.hid hk
   clear hk hcapx
   go_wp2_with fail
   go_ret
   refine ⟨_, rfl, ?_, grown_trans1 HGy.out HPh.out.2⟩
   have h := own_take HPh.out.1 k (by have := HKN.out; omega)
   rw [putAt_take _ _ _ _ (Nat.le_refl _), flatP_take, HF.out] at h
   rw [HLn.out]
   exact h
end Go.Proofs.YtnodagljaoonjaaGreatDoor
/- slices.Concat at PremoveMove. -/
namespace Go.Proofs.YtnodagljaoonjaaGreatDoor
open Go.ChangeShapes Go.WideShapes Go.ChangeAt Go.RowKit
set_option linter.unusedVariables false
set_option maxHeartbeats 2000000
set_option maxRecDepth 100000
theorem run_append_none_pm {w : World} (base : Nat) (ty : TypeId) (v : Value) (n c : Nat) (xs : List Value) (hown : w.ownsRow base 86 4 v n xs) :
  (Builtin.append_ #[48, 48] ty #[v, .slice none 0 c]).run Tryz.prog w = .ok v w := by
 obtain ⟨i, hi, hz0, hz1, hz2⟩ := info_of info_pm
 rcases hown.2 with ⟨rfl, rfl⟩ | ⟨g, cap, cur, rfl, _, _, hnc, _⟩
 ·simp [Builtin.append_, run_underlying Tryz.underlying48, sizeOf, typeInfo, hi, Builtin.lenOf, Builtin.firstCells]
 ·simp [Builtin.append_, run_underlying Tryz.underlying48, sizeOf, typeInfo, hi, Builtin.lenOf, Builtin.firstCells, hnc, storeCells]
def GrowPost_pm (w : World) (e : Ending) (w' : World) : Prop := ∃ v', e = .returned v' ∧ w'.ownsRow w.heap.size 86 4 v' 0 [] ∧ Below w.heap.size w w'
theorem Grow_pm (k : Nat) (w : World) (hk : k ≤ 1000000) :
  Calls Tryz.prog 195 #[.slice none 0 0, .int .i64 k] w (GrowPost_pm w) := by
 obtain ⟨i0, hi, hz0, hz1, hz2⟩ := info_of info_pm
 have hsl0 : ∀ w : World, (Instr.slice 48 (.slice none 0 0) none (some (.int .i64 0)) none).run Tryz.prog w = .ok (.slice none 0 0) w := fun w => run_take (s := 4) Tryz.underlying48 (fun _ => by kernel_rfl) _ _ _ 0 (by omega) w
 by_cases h0 : k = 0
 ·subst h0
  go_enter Tryz.func195, Tryz.ntmps195
  go_wp2
  go_ret
  exact ⟨_, rfl, World.ownsRow_nil _ _ _ _, Below.refl _ _⟩
 ·have hr := fun ty => Lib.run_append_nil_zeros (P := Tryz.prog) w 48 3 ty 86 i0 (.agg #[.int .i64 0, .int .i64 0, .int .i64 0, .int .i64 0]) .i64 .i64 Tryz.underlying48 Tryz.underlying3 hi hz0 k (by omega) (by omega) (by omega) (by rw [hz2]; omega)
  have hge := grownCap_ge w k 0 86
  have hcm : grownCap w k 0 86 ≤ maxLen := grownCap_le_maxLen w k 0 86 (by unfold maxLen; omega)
  have HB : Hid (Below w.heap.size w (w.drew.alloc (.cells (Builtin.zeroCells (Value.cells (.agg #[.int .i64 0, .int .i64 0, .int .i64 0, .int .i64 0])) k ++ Builtin.zeroCells (Value.cells (.agg #[.int .i64 0, .int .i64 0, .int .i64 0, .int .i64 0])) (grownCap w k 0 86 - k)) 86))) := Lib.hid ((below_drewN (Below.refl _ _) 1).alloc (by simp) _)
  have HO : Hid ((w.drew.alloc (.cells (Builtin.zeroCells (Value.cells (.agg #[.int .i64 0, .int .i64 0, .int .i64 0, .int .i64 0])) k ++ Builtin.zeroCells (Value.cells (.agg #[.int .i64 0, .int .i64 0, .int .i64 0, .int .i64 0])) (grownCap w k 0 86 - k)) 86)).ownsRow w.heap.size 86 4 (.slice (some ⟨w.heap.size, 0, none⟩) 0 (grownCap w k 0 86)) 0 []) := Lib.hid (World.ownsRow_made w.drew _ _ (by simp) hcm (by simp [Builtin.zeroCells, Value.cells]; omega))
  generalize (w.drew.alloc (.cells (Builtin.zeroCells (Value.cells (.agg #[.int .i64 0, .int .i64 0, .int .i64 0, .int .i64 0])) k ++ Builtin.zeroCells (Value.cells (.agg #[.int .i64 0, .int .i64 0, .int .i64 0, .int .i64 0])) (grownCap w k 0 86 - k)) 86)) = w1 at *
  generalize grownCap w k 0 86 = c at *
  have hsl1 : ∀ w' : World, (Instr.slice 48 (.slice (some ⟨w.heap.size, 0, none⟩) k c) none (some (.int .i64 0)) none).run Tryz.prog w' = .ok (.slice (some ⟨w.heap.size, 0, none⟩) 0 c) w' := fun w' => run_take (s := 4) Tryz.underlying48 (fun _ => by kernel_rfl) _ _ _ 0 (by omega) w'
  have hk0 : (0 : Int) < (k : Int) := by omega
  have HR := Lib.hid hr
  clear hi hz0 hz1 hz2 hge hcm hr
  go_enter Tryz.func195, Tryz.ntmps195
  go_wp2_with (at_builtin; refine wpList_append_run rfl _ _ 48 3 rfl (.slice none 0 0) (.int .i64 k) (.slice (some ⟨w.heap.size, 0, none⟩) k c) rfl rfl HR.out ?_)
  go_ret
  exact ⟨_, rfl, HO.out, HB.out⟩
theorem wpList_append_pm {w : World} {ops : Array Oper} {rest : List Oper} {o : Oper} {a : Act} {Q : Exit → Act → World → Prop} (hgd : o.guard = none) (s x : Operand)
  (ho : o.op = .call { callee := .builtin .append, args := #[s, x], argTypes := #[48, 48] })
  (base : Nat) (v : Value) (zs : List PremZ) (hs : a.eval s = v) (hown : w.ownsRow base 86 4 v zs.length (flatP zs))
  (vs : Value) (ys : List PremZ) (hx : a.eval x = vs) (hr : RdL premEl w vs ys) (hlen : zs.length + ys.length ≤ 1000000) (hbase : base ≤ w.heap.size)
  (h : ∀ v' w', w'.ownsRow base 86 4 v' (zs ++ ys).length (flatP (zs ++ ys)) → w.grownBy w' v.ownBlock → wpList Tryz.prog ops Q rest (a.put o.dst v') w') : wpList Tryz.prog ops Q (o :: rest) a w := by
 obtain ⟨i0, hi, hz0, hz1, hz2⟩ := info_of info_pm
 obtain ⟨ad, n, c, css, rfl, hn, hcl, hone, hE, hcell⟩ := rdl_cells prem_one hr
 have e1 := flatP_of (w := w) ys css (by rw [hcl, hn]; rfl) hE
 subst e1
 subst hn
 cases ad with
 | none =>
  obtain rfl : ys = [] := List.length_eq_zero_iff.1 (hcell.1 rfl)
  exact wpList_append_run hgd s x _ _ ho v _ v hs hx (fun ty => run_append_none_pm base ty v _ c _ hown) (h v w (by simpa using hown) ⟨rfl, rfl, rfl, Nat.le_refl _, fun _ _ _ => rfl⟩)
 | some ad =>
  refine wpList_append_own _ hgd s x 48 ho base 86 i0 (.agg #[.int .i64 0, .int .i64 0, .int .i64 0, .int .i64 0]) 4 32 Tryz.underlying48 hi hz0 hz1 hz2 rfl (by decide) v zs.length (flatP zs) hs hown ad ys.length c (flatP ys) hx (by rw [flatP_len]) (hcell.2 ad rfl) hone (by unfold maxLen; omega) (by omega) hbase ?_
  intro v' w2 ho2 hg2 _
  refine h v' w2 ?_ hg2
  have e : flatP (zs ++ ys) = flatP zs ++ flatP ys := by simp [flatP]
  rw [e, List.length_append]
  exact ho2
def ConcPost_pm (zs : List PremZ) (w : World) (e : Ending) (w' : World) : Prop := ∃ v', e = .returned v' ∧ w'.ownsRow w.heap.size 86 4 v' zs.length (flatP zs) ∧ Below w.heap.size w w'
theorem Concat_pm (v va vb : Value) (xs ys : List PremZ) (w : World) (h : RdII w v va vb) (ha : RdL premEl w va xs) (hb : RdL premEl w vb ys) (hx : xs.length ≤ 100000) (hy : ys.length ≤ 100000) :
  Calls Tryz.prog 163 #[v] w (ConcPost_pm (xs ++ ys) w) := by
 obtain ⟨g, o, c, rfl, hg, h0, h1⟩ := h
 have HA := Lib.hid ha
 have HB := Lib.hid hb
 obtain ⟨aa, ca, rfl, ha1, ha2⟩ := ha.form
 obtain ⟨ab, cb, rfl, hb1, hb2⟩ := hb.form
 clear ha hb
 unfold maxLen at ha2 hb2
 go_enter Tryz.func163, Tryz.ntmps163
 go_wp2_with fail
 go_loop [3, 11] (fun s i => (i = .int .i64 0 ∧ s = .int .i64 0) ∨ (i = .int .i64 1 ∧ s = .int .i64 xs.length) ∨ (i = .int .i64 2 ∧ s = .int .i64 ((xs.length : Int) + ys.length))) (fun s i => 2 - (intOf i).toNat)
 case atStart => exact .inl ⟨rfl, rfl⟩
 case round =>
  rcases hrel with ⟨rfl, rfl⟩ | ⟨rfl, rfl⟩ | ⟨rfl, rfl⟩
  ·go_wp2_with fail
   go_round
   case rel => exact .inr (.inl ⟨rfl, rfl⟩)
   case measure => decide
  ·go_wp2_with fail
   go_round
   case rel => exact .inr (.inr ⟨rfl, rfl⟩)
   case measure => decide
  ·have hG : Calls Tryz.prog 195 #[.slice none 0 0, .int .i64 ((xs.length : Int) + ys.length)] w (GrowPost_pm w) := by
    have := Grow_pm (xs.length + ys.length) w (by omega)
    rwa [Int.natCast_add] at this
   have HG := Lib.hid hG
   clear hG
   go_wp2_with fail
   refine HG.out.mono ?_
   rintro e w1 ⟨v1, rfl, ho1, hb1⟩
   have HO1 := Lib.hid ho1
   have HB1 := Lib.hid hb1
   clear ho1 hb1
   go_wp2_with fail
   go_loopw [6, 27] (fun v i wr => ∃ zs : List PremZ, ((i = .int .i64 0 ∧ zs = []) ∨ (i = .int .i64 1 ∧ zs = xs) ∨ (i = .int .i64 2 ∧ zs = xs ++ ys)) ∧ Hid (wr.ownsRow w.heap.size 86 4 v zs.length (flatP zs)) ∧ Hid (Below w.heap.size w wr)) (fun _ i _ => 2 - (intOf i).toNat)
   case atStart => exact ⟨[], .inl ⟨rfl, rfl⟩, HO1, HB1⟩
   case round =>
    obtain ⟨zs, hi', HOr, HBr⟩ := hrel
    have hsz := HBr.out.size
    have q0 := (HBr.out.cell (p := ⟨g, o, none⟩) hg).trans h0
    have q1 := (HBr.out.cell (p := ⟨g, o + 1, none⟩) hg).trans h1
    have hgr : g < wr.heap.size := by omega
    rcases hi' with ⟨rfl, rfl⟩ | ⟨rfl, rfl⟩ | ⟨rfl, rfl⟩
    ·go_wp2_with (at_builtin; refine wpList_append_pm rfl _ _ rfl w.heap.size _ [] rfl HOr.out _ xs rfl (HA.out.below HBr.out (Nat.le_refl _)) (by simp; omega) hsz ?_)
     intro v' w2 ho2 hg2
     have HB2 := Lib.hid (below_grown HBr.out HOr.out hg2 hsz)
     have HO2 := Lib.hid ho2
     clear ho2 hg2
     go_wp2_with fail
     go_roundw
     case rel => exact ⟨xs, .inr (.inl ⟨rfl, rfl⟩), Lib.hid (by simpa using HO2.out), HB2⟩
     case measure => decide
    ·go_wp2_with (at_builtin; refine wpList_append_pm rfl _ _ rfl w.heap.size _ zs rfl HOr.out _ ys rfl (HB.out.below HBr.out (Nat.le_refl _)) (by omega) hsz ?_)
     intro v' w2 ho2 hg2
     have HB2 := Lib.hid (below_grown HBr.out HOr.out hg2 hsz)
     have HO2 := Lib.hid ho2
     clear ho2 hg2
     go_wp2_with fail
     go_roundw
     case rel => exact ⟨zs ++ ys, .inr (.inr ⟨rfl, rfl⟩), Lib.hid (by have := HO2.out; rw [List.length_append]; exact this), HB2⟩
     case measure => decide
    ·go_wp2_with fail
     go_ret
     exact ⟨_, rfl, HOr.out, HBr.out⟩
end Go.Proofs.YtnodagljaoonjaaGreatDoor
/- The contracts of premove.without, Clear, Add. -/
namespace Go.Proofs.YtnodagljaoonjaaGreatDoor
open Go.ChangeShapes Go.WideShapes Go.ChangeAt Go.RowKit
set_option linter.unusedVariables false
set_option maxHeartbeats 2000000
set_option maxRecDepth 100000
def withoutZ (l : List PremZ) (pl : Int) : List PremZ := l.filter fun x => !(x.player == pl)
theorem box_src {w : World} {b : Nat} {cs : List Value} {t : TypeId} (h : Box w b cs t) : ∀ j u, cs[j]? = some u → w.cell? ((⟨b, 0, none⟩ : Addr).add j) = some u := by
 intro j u hj
 have e2 : (⟨b, 0, none⟩ : Addr).add j = ⟨b, j, none⟩ := by unfold Addr.add; split <;> simp_all
 rw [e2]
 exact h.cell j hj
theorem four_ints {x y z t : Int} : ∀ u ∈ [Value.int .i64 x, .int .i64 y, .int .i64 z, .int .i64 t], u.oneCell' = true := by intro u hu; simp at hu; rcases hu with rfl | rfl | rfl | rfl <;> rfl
theorem without1_any (x : PremZ) (pl : Int) (b : Nat) (W : World) (B : Box W b [.int .i64 pl] 3) : Calls Tryz.prog 194 (#[.agg #[.int .i64 x.player, .int .i64 x.move.src, .int .i64 x.move.dst, .int .i64 x.move.piece]] ++ #[.pointer (some ⟨b, 0, none⟩)]) W fun e w' => e = .returned (.bool (x.player == pl)) ∧ Below W.heap.size W w' := by
 show Calls Tryz.prog 194 #[.agg #[.int .i64 x.player, .int .i64 x.move.src, .int .i64 x.move.dst, .int .i64 x.move.piece], .pointer (some ⟨b, 0, none⟩)] W _
 have hlt := B.lt
 have hc := B.cell 0 rfl
 clear B
 go_enter Tryz.func194, Tryz.ntmps194
 go_wp2
 go_ret
 exact ⟨rfl, (Below.refl _ _).alloc (Nat.le_refl _) _⟩
theorem callWo1 (args : Array Value) (w : World) : (callFunc 194 args).run Tryz.prog w = .ok (.enter 194 args) w := by kernel_rfl
theorem without_any (v : Value) (l : List PremZ) (pl : Int) (w : World) (h : RdL premEl w v l) (hl : l.length ≤ 100000) :
  Calls Tryz.prog 162 #[v, .int .i64 pl] w fun e w' => ∃ v', e = .returned v' ∧ w'.ownsRow w.heap.size 86 4 v' (withoutZ l pl).length (flatP (withoutZ l pl)) ∧ Below w.heap.size w w' := by
 have HR := Lib.hid h
 obtain ⟨a, c, rfl, h1, h2⟩ := h.form
 unfold maxLen at h2
 clear h
 go_enter Tryz.func162, Tryz.ntmps162
 go_upto_region 1 with (fail)
 refine opn1 fun w0 B0 yb_ hs_ => ?_
 have HB := Lib.hid yb_
 have hz0 : w.heap.size < w0.heap.size := by omega
 clear hs_ yb_
 have HRw := Lib.hid (HR.out.below HB.out (Nat.le_refl _))
 have HBx := Lib.hid B0
 clear B0
 go_wp2_with fail
 refine (clone_pm _ l w0 HRw.out (by omega)).mono ?_
 rintro e w1 ⟨v1, rfl, ho1, hb1⟩
 have HD := Lib.hid (delete_any w0.heap.size v1 l (fun x => x.player == pl) 194 #[.pointer (some ⟨w.heap.size, 0, none⟩)] w1 ho1 (by omega) callWo1 (fun W x hg => without1_any x pl w.heap.size W ((HBx.out.stays hb1).grown hg (own_far ho1 hz0))))
 have HO1 := Lib.hid ho1
 have HB1 := Lib.hid (below_trans HB.out hb1 HB.out.size)
 clear ho1 hb1
 obtain ⟨a1, c1, rfl⟩ := own_form2 HO1.out
 go_wp2_with fail
 refine HD.out.mono ?_
 rintro e w2 ⟨v2, rfl, ho2, hg2⟩
 obtain ⟨a2, c2, rfl⟩ := own_form2 ho2
 have HO2 := Lib.hid (own_base ho2 HB.out.size)
 have HB2 := Lib.hid (Below.grown HB1.out hg2 HB1.out.size (fun q hq => Nat.le_trans HB.out.size (HO1.out.lt q hq).1))
 clear ho2 hg2 HD
 go_wp2_with fail
 go_ret
 exact ⟨_, rfl, HO2.out, HB2.out⟩
def addErr (l : List PremZ) (pl : Int) : Int := if premErr l ≠ 0 then premErr l else if pl ≠ 0 ∧ pl ≠ 1 then 1 else if (ofZ l pl).length = 4 then 9 else 0
def AddPost (l : List PremZ) (pl : Int) (m : MoveZ) (w : World) (e : Ending) (w' : World) : Prop :=
 (addErr l pl ≠ 0 ∧ e = .returned (.tuple #[.slice none 0 0, .int .i64 (addErr l pl)]) ∧ Below w.heap.size w w') ∨
 (addErr l pl = 0 ∧ ∃ v, e = .returned (.tuple #[v, .int .i64 0]) ∧ w'.ownsRow w.heap.size 86 4 v (l.length + 1) (flatP (l ++ [⟨pl, m⟩])) ∧ Below w.heap.size w w')
theorem Add_any (v : Value) (l : List PremZ) (pl : Int) (m : MoveZ) (w : World) (h : RdL premEl w v l) (hl : l.length ≤ 100000) :
  Calls Tryz.prog 93 #[v, .int .i64 pl, .agg #[.int .i64 m.src, .int .i64 m.dst, .int .i64 m.piece]] w (AddPost l pl m w) := by
 have HR := Lib.hid h
 have HD : Hid (addErr l pl = if premErr l ≠ 0 then premErr l else if pl ≠ 0 ∧ pl ≠ 1 then 1 else if (ofZ l pl).length = 4 then 9 else 0) := Lib.hid rfl
 obtain ⟨a, c, rfl, h1, h2⟩ := h.form
 unfold maxLen at h2
 clear h
 go_enter Tryz.func93, Tryz.ntmps93
 go_upto_region 1 with (fail)
 refine opn1 fun w0 B0 yb_ hs_ => ?_
 have HB := Lib.hid yb_
 have hz0 : w.heap.size < w0.heap.size := by omega
 clear hs_ yb_
 have HRw := Lib.hid (HR.out.below HB.out (Nat.le_refl _))
 have HBx := Lib.hid B0
 clear B0
 go_wp2_with fail
 refine (premCheck_any _ l w0 HRw.out (by omega)).mono ?_
 rintro e w1 ⟨rfl, hb1⟩
 have HB1 := Lib.hid (below_trans HB.out hb1 HB.out.size)
 have HBx1 := Lib.hid (HBx.out.stays hb1)
 clear hb1
 by_cases he : premErr l = 0
 rotate_left
 ·have HE : Hid (addErr l pl = premErr l) := Lib.hid (by rw [HD.out, if_pos he])
  have HN := Lib.hid he
  have he' : (premErr l != 0) = true := by simpa using he
  clear he HD
  go_wp2_with fail
  go_ret2
  exact .inl ⟨by rw [HE.out]; exact HN.out, by rw [HE.out]; rfl, HB1.out⟩
 rw [he]
 have HD1 : Hid (addErr l pl = if pl ≠ 0 ∧ pl ≠ 1 then 1 else if (ofZ l pl).length = 4 then 9 else 0) := Lib.hid (by rw [HD.out, if_neg (by simp [he])])
 clear he HD
 by_cases hp : pl ≠ 0 ∧ pl ≠ 1
 ·have HE : Hid (addErr l pl = 1) := Lib.hid (by rw [HD1.out, if_pos hp])
  have p0 : (pl != 0) = true := by simpa using hp.1
  have p1 : (pl != 1) = true := by simpa using hp.2
  clear hp HD1
  go_wp2_with fail
  go_ret2
  exact .inl ⟨by rw [HE.out]; decide, by rw [HE.out]; rfl, HB1.out⟩
 have HD2 : Hid (addErr l pl = if (ofZ l pl).length = 4 then 9 else 0) := Lib.hid (by rw [HD1.out, if_neg hp])
 have HP := Lib.hid hp
 have hR1 := HR.out.below HB1.out (Nat.le_refl _)
 have HR1 := Lib.hid hR1
 clear hR1 HD1 hp HRw HB
 by_cases hp0 : pl = 0
 ·subst hp0
  go_wp2_with fail
  refine (of_any _ l 0 w1 HR1.out (by omega)).mono ?_
  rintro e w2 ⟨v2, rfl, ho2, hb2⟩
  obtain ⟨a2, c2, rfl⟩ := own_form2 ho2
  have HB2 := Lib.hid (below_trans HB1.out hb2 HB1.out.size)
  have HBx2 := Lib.hid (HBx1.out.stays hb2)
  have HR2 := Lib.hid (HR1.out.below hb2 (Nat.le_refl _))
  clear ho2 hb2 HB1 HR1 HBx1
  by_cases hf : (ofZ l 0).length = 4
  ·have HE : Hid (addErr l 0 = 9) := Lib.hid (by rw [HD2.out, if_pos hf])
   have hf' : ((ofZ l 0).length : Int) = 4 := by omega
   clear HD2 hf
   go_wp2_with fail
   go_ret2
   exact .inl ⟨by rw [HE.out]; decide, by rw [HE.out]; rfl, HB2.out⟩
  have hD0 : addErr l 0 = 0 := by rw [HD2.out, if_neg hf]
  have hf' : ¬ ((ofZ l 0).length : Int) = 4 := by omega
  have HD0 := Lib.hid hD0
  clear HD2 hf hD0
  obtain ⟨i0, hi0, hi1, hi2, hi3⟩ := info_of info_pm
  have HI0 := Lib.hid hi0
  have HI1 := Lib.hid hi1
  have HI2 := Lib.hid hi2
  have HI3 := Lib.hid hi3
  clear hi0 hi1 hi2 hi3
  go_upto_region 8 with (fail)
  generalize w2 = wq at *
  have Bxz := HBx2.out.drew
  have Lz : Below w.heap.size w wq.drew := below_drew' HB2.out
  have Rz : RdL premEl wq.drew (.slice a l.length c) l := HR2.out.below (below_drew' (Below.refl _ _)) (Nat.le_refl _)
  have hD0 := HD0.out
  clear HBx2 HB2 HR2 HD0 hf'
  refine wp_region_noPanic ?_
  refine beginL (S := (fun w' => w'.cell? ⟨w.heap.size, 0, none⟩ = some (.int .i64 m.src) ∧ w'.cell? ⟨w.heap.size, 1, none⟩ = some (.int .i64 m.dst) ∧ w'.cell? ⟨w.heap.size, 2, none⟩ = some (.int .i64 m.piece))) (L := []) (by kernel_rfl) (by and_intros <;> exact Bxz.cell _ rfl) (fun hHeld => ?_)
  refine tkW 0 ?_
  refine tkW 2 ?_
  refine tkL 3 ?_
  refine tkW 4 ?_
  refine rdL (rs := [1, 5]) ?_
  refine (AllReadyL.cons (by first | (simp only [List.getElem?_toArray, List.getElem?_cons_zero, List.getElem?_cons_succ] <;> rfl) | rfl) (fun K hK => ?_) (AllReadyL.cons (by first | (simp only [List.getElem?_toArray, List.getElem?_cons_zero, List.getElem?_cons_succ] <;> rfl) | rfl) (fun K hK => ?_) AllReadyL.nil))
  ·skip
   go_simp
   refine (clone_pm _ l _ Rz (by omega)).mono ?_
   rintro e w1 ⟨vx, rfl, ho1, hb1⟩
   obtain ⟨an, cn, rfl⟩ := own_form2 ho1
   have Bx1 := Bxz.stays hb1
   have L1 := below_trans Lz hb1 Lz.size
   have O1 := own_base ho1 Bxz.lt
   clear hb1 ho1
   refine hK.out _ _ (by and_intros <;> exact Bx1.cell _ rfl) (fun hHeld => ?_)
   clear hK K
   refine cnL 5 fun K hK => ?_
   go_simp
   refine K_world ?_
   intro w5 e5
   have Bx5 : Box w5 w.heap.size [.int .i64 m.src, .int .i64 m.dst, .int .i64 m.piece] 38 := by rw [e5]; exact Bx1.alloc _
   have N5 : Box w5 w1.heap.size [.int .i64 (0), .int .i64 m.src, .int .i64 m.dst, .int .i64 m.piece] 86 := by rw [e5]; exact Box.new' _ _ _ _ rfl
   have L5 : Below w.heap.size w w5 := by rw [e5]; exact L1.alloc L1.size _
   have O5 : w5.ownsRow (w.heap.size + 1) 86 4 (.slice an l.length cn) l.length (flatP l) := by rw [e5]; exact O1.alloc _
   clear e5
   refine hK.out _ _ (by and_intros <;> exact Bx5.cell _ rfl) (fun hHeld => ?_)
   clear hK K
   refine cnL 6 fun K hK => ?_
   rw [if_pos (by rfl)]
   refine wp_append_lies _ _ _ 48 rfl (w.heap.size + 1) 86 i0 (.agg #[.int .i64 0, .int .i64 0, .int .i64 0, .int .i64 0]) 4 32 Tryz.underlying48 HI0.out HI1.out HI2.out HI3.out rfl (by decide) (.slice an l.length cn) l.length (flatP l) rfl O5 ⟨w1.heap.size, 0, none⟩ 1 1 [.int .i64 (0), .int .i64 m.src, .int .i64 m.dst, .int .i64 m.piece] rfl rfl (box_src N5) four_ints (by decide) (by unfold maxLen; omega) (by omega) Bx5.lt w5.heap.size rfl ?_
   intro g6 c6 w6 ho6 hg6 hq6 hl6
   have Bx6 : Box w6 w.heap.size [.int .i64 m.src, .int .i64 m.dst, .int .i64 m.piece] 38 := Bx5.grown hg6 (own_far O5 (Nat.lt_succ_self _))
   have L6 := Below.grown L5 hg6 L5.size (fun q hq => Nat.le_trans (Nat.le_succ _) (O5.lt q hq).1)
   have O6 := ho6
   clear ho6 hg6 hq6 hl6
   refine hK.out _ _ (by and_intros <;> exact Bx6.cell _ rfl) (fun hHeld => ?_)
   clear hK K
   refine tkW 7 ?_
   refine tkW 8 ?_
   refine dnN ?_
   have O6b : w6.ownsRow w.heap.size 86 4 (.slice (some ⟨g6, 0, none⟩) (l.length + 1) c6) (l.length + 1) (flatP (l ++ [⟨0, m⟩])) := by rw [← flatP_append]; exact own_base O6 (Nat.le_succ _)
   have HO6 := Lib.hid O6b
   have HL6 := Lib.hid L6
   have HD3 := Lib.hid hD0
   clear O6 O6b L6 hD0 hHeld
   go_wp2_with fail
   go_ret2
   exact .inr ⟨HD3.out, _, rfl, HO6.out, HL6.out⟩
  ·skip
   go_simp
   refine K_world ?_
   intro w5 e5
   have Bx5 : Box w5 w.heap.size [.int .i64 m.src, .int .i64 m.dst, .int .i64 m.piece] 38 := by rw [e5]; exact Bxz.alloc _
   have N5 : Box w5 wq.drew.heap.size [.int .i64 (0), .int .i64 m.src, .int .i64 m.dst, .int .i64 m.piece] 86 := by rw [e5]; exact Box.new' _ _ _ _ rfl
   have L5 : Below w.heap.size w w5 := by rw [e5]; exact Lz.alloc Lz.size _
   have R5 : RdL premEl w5 (.slice a l.length c) l := Rz.below (by rw [e5]; exact (Below.refl _ _).alloc (Nat.le_refl _) _) (Nat.le_refl _)
   clear e5
   refine hK.out _ _ (by and_intros <;> exact Bx5.cell _ rfl) (fun hHeld => ?_)
   clear hK K
   refine cnL 1 fun K hK => ?_
   go_simp
   refine (clone_pm _ l _ R5 (by omega)).mono ?_
   rintro e w1 ⟨vx, rfl, ho1, hb1⟩
   obtain ⟨an, cn, rfl⟩ := own_form2 ho1
   have Bx1 := Bx5.stays hb1
   have L1 := below_trans L5 hb1 L5.size
   have O1 := own_base ho1 Bx5.lt
   have N1 := N5.stays hb1
   clear hb1 ho1
   refine hK.out _ _ (by and_intros <;> exact Bx1.cell _ rfl) (fun hHeld => ?_)
   clear hK K
   refine cnL 6 fun K hK => ?_
   rw [if_pos (by rfl)]
   refine wp_append_lies _ _ _ 48 rfl (w.heap.size + 1) 86 i0 (.agg #[.int .i64 0, .int .i64 0, .int .i64 0, .int .i64 0]) 4 32 Tryz.underlying48 HI0.out HI1.out HI2.out HI3.out rfl (by decide) (.slice an l.length cn) l.length (flatP l) rfl O1 ⟨wq.drew.heap.size, 0, none⟩ 1 1 [.int .i64 (0), .int .i64 m.src, .int .i64 m.dst, .int .i64 m.piece] rfl rfl (box_src N1) four_ints (by decide) (by unfold maxLen; omega) (by omega) Bx1.lt w1.heap.size rfl ?_
   intro g6 c6 w6 ho6 hg6 hq6 hl6
   have Bx6 : Box w6 w.heap.size [.int .i64 m.src, .int .i64 m.dst, .int .i64 m.piece] 38 := Bx1.grown hg6 (own_far O1 (Nat.lt_succ_self _))
   have L6 := Below.grown L1 hg6 L1.size (fun q hq => Nat.le_trans (Nat.le_succ _) (O1.lt q hq).1)
   have O6 := ho6
   clear ho6 hg6 hq6 hl6
   refine hK.out _ _ (by and_intros <;> exact Bx6.cell _ rfl) (fun hHeld => ?_)
   clear hK K
   refine tkW 7 ?_
   refine tkW 8 ?_
   refine dnN ?_
   have O6b : w6.ownsRow w.heap.size 86 4 (.slice (some ⟨g6, 0, none⟩) (l.length + 1) c6) (l.length + 1) (flatP (l ++ [⟨0, m⟩])) := by rw [← flatP_append]; exact own_base O6 (Nat.le_succ _)
   have HO6 := Lib.hid O6b
   have HL6 := Lib.hid L6
   have HD3 := Lib.hid hD0
   clear O6 O6b L6 hD0 hHeld
   go_wp2_with fail
   go_ret2
   exact .inr ⟨HD3.out, _, rfl, HO6.out, HL6.out⟩
 ·obtain rfl : pl = 1 := by have := HP.out; omega
  go_wp2_with fail
  refine (of_any _ l 1 w1 HR1.out (by omega)).mono ?_
  rintro e w2 ⟨v2, rfl, ho2, hb2⟩
  obtain ⟨a2, c2, rfl⟩ := own_form2 ho2
  have HB2 := Lib.hid (below_trans HB1.out hb2 HB1.out.size)
  have HBx2 := Lib.hid (HBx1.out.stays hb2)
  have HR2 := Lib.hid (HR1.out.below hb2 (Nat.le_refl _))
  clear ho2 hb2 HB1 HR1 HBx1
  by_cases hf : (ofZ l 1).length = 4
  ·have HE : Hid (addErr l 1 = 9) := Lib.hid (by rw [HD2.out, if_pos hf])
   have hf' : ((ofZ l 1).length : Int) = 4 := by omega
   clear HD2 hf
   go_wp2_with fail
   go_ret2
   exact .inl ⟨by rw [HE.out]; decide, by rw [HE.out]; rfl, HB2.out⟩
  have hD0 : addErr l 1 = 0 := by rw [HD2.out, if_neg hf]
  have hf' : ¬ ((ofZ l 1).length : Int) = 4 := by omega
  have HD0 := Lib.hid hD0
  clear HD2 hf hD0
  obtain ⟨i0, hi0, hi1, hi2, hi3⟩ := info_of info_pm
  have HI0 := Lib.hid hi0
  have HI1 := Lib.hid hi1
  have HI2 := Lib.hid hi2
  have HI3 := Lib.hid hi3
  clear hi0 hi1 hi2 hi3
  go_upto_region 8 with (fail)
  generalize w2 = wq at *
  have Bxz := HBx2.out.drew
  have Lz : Below w.heap.size w wq.drew := below_drew' HB2.out
  have Rz : RdL premEl wq.drew (.slice a l.length c) l := HR2.out.below (below_drew' (Below.refl _ _)) (Nat.le_refl _)
  have hD0 := HD0.out
  clear HBx2 HB2 HR2 HD0 hf'
  refine wp_region_noPanic ?_
  refine beginL (S := (fun w' => w'.cell? ⟨w.heap.size, 0, none⟩ = some (.int .i64 m.src) ∧ w'.cell? ⟨w.heap.size, 1, none⟩ = some (.int .i64 m.dst) ∧ w'.cell? ⟨w.heap.size, 2, none⟩ = some (.int .i64 m.piece))) (L := []) (by kernel_rfl) (by and_intros <;> exact Bxz.cell _ rfl) (fun hHeld => ?_)
  refine tkW 0 ?_
  refine tkW 2 ?_
  refine tkL 3 ?_
  refine tkW 4 ?_
  refine rdL (rs := [1, 5]) ?_
  refine (AllReadyL.cons (by first | (simp only [List.getElem?_toArray, List.getElem?_cons_zero, List.getElem?_cons_succ] <;> rfl) | rfl) (fun K hK => ?_) (AllReadyL.cons (by first | (simp only [List.getElem?_toArray, List.getElem?_cons_zero, List.getElem?_cons_succ] <;> rfl) | rfl) (fun K hK => ?_) AllReadyL.nil))
  ·skip
   go_simp
   refine (clone_pm _ l _ Rz (by omega)).mono ?_
   rintro e w1 ⟨vx, rfl, ho1, hb1⟩
   obtain ⟨an, cn, rfl⟩ := own_form2 ho1
   have Bx1 := Bxz.stays hb1
   have L1 := below_trans Lz hb1 Lz.size
   have O1 := own_base ho1 Bxz.lt
   clear hb1 ho1
   refine hK.out _ _ (by and_intros <;> exact Bx1.cell _ rfl) (fun hHeld => ?_)
   clear hK K
   refine cnL 5 fun K hK => ?_
   go_simp
   refine K_world ?_
   intro w5 e5
   have Bx5 : Box w5 w.heap.size [.int .i64 m.src, .int .i64 m.dst, .int .i64 m.piece] 38 := by rw [e5]; exact Bx1.alloc _
   have N5 : Box w5 w1.heap.size [.int .i64 (1), .int .i64 m.src, .int .i64 m.dst, .int .i64 m.piece] 86 := by rw [e5]; exact Box.new' _ _ _ _ rfl
   have L5 : Below w.heap.size w w5 := by rw [e5]; exact L1.alloc L1.size _
   have O5 : w5.ownsRow (w.heap.size + 1) 86 4 (.slice an l.length cn) l.length (flatP l) := by rw [e5]; exact O1.alloc _
   clear e5
   refine hK.out _ _ (by and_intros <;> exact Bx5.cell _ rfl) (fun hHeld => ?_)
   clear hK K
   refine cnL 6 fun K hK => ?_
   rw [if_pos (by rfl)]
   refine wp_append_lies _ _ _ 48 rfl (w.heap.size + 1) 86 i0 (.agg #[.int .i64 0, .int .i64 0, .int .i64 0, .int .i64 0]) 4 32 Tryz.underlying48 HI0.out HI1.out HI2.out HI3.out rfl (by decide) (.slice an l.length cn) l.length (flatP l) rfl O5 ⟨w1.heap.size, 0, none⟩ 1 1 [.int .i64 (1), .int .i64 m.src, .int .i64 m.dst, .int .i64 m.piece] rfl rfl (box_src N5) four_ints (by decide) (by unfold maxLen; omega) (by omega) Bx5.lt w5.heap.size rfl ?_
   intro g6 c6 w6 ho6 hg6 hq6 hl6
   have Bx6 : Box w6 w.heap.size [.int .i64 m.src, .int .i64 m.dst, .int .i64 m.piece] 38 := Bx5.grown hg6 (own_far O5 (Nat.lt_succ_self _))
   have L6 := Below.grown L5 hg6 L5.size (fun q hq => Nat.le_trans (Nat.le_succ _) (O5.lt q hq).1)
   have O6 := ho6
   clear ho6 hg6 hq6 hl6
   refine hK.out _ _ (by and_intros <;> exact Bx6.cell _ rfl) (fun hHeld => ?_)
   clear hK K
   refine tkW 7 ?_
   refine tkW 8 ?_
   refine dnN ?_
   have O6b : w6.ownsRow w.heap.size 86 4 (.slice (some ⟨g6, 0, none⟩) (l.length + 1) c6) (l.length + 1) (flatP (l ++ [⟨1, m⟩])) := by rw [← flatP_append]; exact own_base O6 (Nat.le_succ _)
   have HO6 := Lib.hid O6b
   have HL6 := Lib.hid L6
   have HD3 := Lib.hid hD0
   clear O6 O6b L6 hD0 hHeld
   go_wp2_with fail
   go_ret2
   exact .inr ⟨HD3.out, _, rfl, HO6.out, HL6.out⟩
  ·skip
   go_simp
   refine K_world ?_
   intro w5 e5
   have Bx5 : Box w5 w.heap.size [.int .i64 m.src, .int .i64 m.dst, .int .i64 m.piece] 38 := by rw [e5]; exact Bxz.alloc _
   have N5 : Box w5 wq.drew.heap.size [.int .i64 (1), .int .i64 m.src, .int .i64 m.dst, .int .i64 m.piece] 86 := by rw [e5]; exact Box.new' _ _ _ _ rfl
   have L5 : Below w.heap.size w w5 := by rw [e5]; exact Lz.alloc Lz.size _
   have R5 : RdL premEl w5 (.slice a l.length c) l := Rz.below (by rw [e5]; exact (Below.refl _ _).alloc (Nat.le_refl _) _) (Nat.le_refl _)
   clear e5
   refine hK.out _ _ (by and_intros <;> exact Bx5.cell _ rfl) (fun hHeld => ?_)
   clear hK K
   refine cnL 1 fun K hK => ?_
   go_simp
   refine (clone_pm _ l _ R5 (by omega)).mono ?_
   rintro e w1 ⟨vx, rfl, ho1, hb1⟩
   obtain ⟨an, cn, rfl⟩ := own_form2 ho1
   have Bx1 := Bx5.stays hb1
   have L1 := below_trans L5 hb1 L5.size
   have O1 := own_base ho1 Bx5.lt
   have N1 := N5.stays hb1
   clear hb1 ho1
   refine hK.out _ _ (by and_intros <;> exact Bx1.cell _ rfl) (fun hHeld => ?_)
   clear hK K
   refine cnL 6 fun K hK => ?_
   rw [if_pos (by rfl)]
   refine wp_append_lies _ _ _ 48 rfl (w.heap.size + 1) 86 i0 (.agg #[.int .i64 0, .int .i64 0, .int .i64 0, .int .i64 0]) 4 32 Tryz.underlying48 HI0.out HI1.out HI2.out HI3.out rfl (by decide) (.slice an l.length cn) l.length (flatP l) rfl O1 ⟨wq.drew.heap.size, 0, none⟩ 1 1 [.int .i64 (1), .int .i64 m.src, .int .i64 m.dst, .int .i64 m.piece] rfl rfl (box_src N1) four_ints (by decide) (by unfold maxLen; omega) (by omega) Bx1.lt w1.heap.size rfl ?_
   intro g6 c6 w6 ho6 hg6 hq6 hl6
   have Bx6 : Box w6 w.heap.size [.int .i64 m.src, .int .i64 m.dst, .int .i64 m.piece] 38 := Bx1.grown hg6 (own_far O1 (Nat.lt_succ_self _))
   have L6 := Below.grown L1 hg6 L1.size (fun q hq => Nat.le_trans (Nat.le_succ _) (O1.lt q hq).1)
   have O6 := ho6
   clear ho6 hg6 hq6 hl6
   refine hK.out _ _ (by and_intros <;> exact Bx6.cell _ rfl) (fun hHeld => ?_)
   clear hK K
   refine tkW 7 ?_
   refine tkW 8 ?_
   refine dnN ?_
   have O6b : w6.ownsRow w.heap.size 86 4 (.slice (some ⟨g6, 0, none⟩) (l.length + 1) c6) (l.length + 1) (flatP (l ++ [⟨1, m⟩])) := by rw [← flatP_append]; exact own_base O6 (Nat.le_succ _)
   have HO6 := Lib.hid O6b
   have HL6 := Lib.hid L6
   have HD3 := Lib.hid hD0
   clear O6 O6b L6 hD0 hHeld
   go_wp2_with fail
   go_ret2
   exact .inr ⟨HD3.out, _, rfl, HO6.out, HL6.out⟩
end Go.Proofs.YtnodagljaoonjaaGreatDoor

/- swiss.After of a whole pairing. -/
import Derived.Test.YtkngpbnildhdpaaSwAddL
import Derived.Test.YtkngpbnildhdpaaSwPC
import Derived.Test.YtkngpbnildhdpaaSwG
import Derived.Test.YtkngpbnildhdpaaIntsClone
import Derived.Test.YtkngpbnildhdpaaApRd
import Derived.Test.YtkngpbnildhdpaaHeldL
import Derived.BigQuiet
import Derived.Deep.Cut
import Derived.Deep.QuietTactic
import Derived.Deep.AppendLies
import Derived.Deep.CutRange
namespace Go.Proofs.Ytkngpbnildhdpaa
open Go.ChangeShapes Go.WideShapes Go.ChangeAt Go.RowKit
set_option linter.unusedVariables false

def pl1 (f : Nat → SwP) (i : Nat) (r : Int) : Nat → SwP := setF f i { f i with score := (f i).score + r }
def pl2 (f : Nat → SwP) (i j : Nat) (r : Int) : Nat → SwP := setF (pl1 f i r) j { pl1 f i r j with score := (f j).score + (2 - r) }
def pl3 (f : Nat → SwP) (i j : Nat) (r : Int) : Nat → SwP := setF (pl2 f i j r) i { pl2 f i j r i with opp := (f i).opp ++ [(j : Int)] }
def pl3b (f : Nat → SwP) (i j : Nat) (r : Int) : Nat → SwP := setF (pl3 f i j r) j { pl3 f i j r j with opp := (f j).opp ++ [(i : Int)] }
def pl4 (f : Nat → SwP) (i j : Nat) (r : Int) : Nat → SwP := setF (pl3b f i j r) i { pl3b f i j r i with colour := (f i).colour + 1 }
def pl5 (f : Nat → SwP) (i j : Nat) (r : Int) : Nat → SwP := setF (pl4 f i j r) j { pl4 f i j r j with colour := (f j).colour - 1 }
theorem pl5_eq (f : Nat → SwP) (i j : Nat) (r : Int) (h : i ≠ j) : pl5 f i j r = plays f i j r := by
  funext z
  rw [plays_at]
  unfold pl5 pl4 pl3b pl3 pl2 pl1
  by_cases e1 : z = j
  · subst e1
    have e : ¬ z = i := fun e => h e.symm
    have e' : ¬ i = z := h
    simp [setF, e, e']
  · by_cases e2 : z = i
    · subst e2; simp [setF, e1, h]
    · simp [setF, e1, e2]
theorem Cells.same {w : World} {ob n : Nat} {f : Nat → SwP} {v : Nat → Value} (h : Cells w ob n f v) (i : Nat) (hi : i < n) (u : Value) : Cells (w.setCell ⟨ob, i * 4 + 1, none⟩ u) ob n f (setF v i u) := by
  have := h.opp i hi u (f i).opp
  have e : setF f i { f i with opp := (f i).opp } = f := by
    funext k
    unfold setF
    by_cases e : k = i
    · subst e; rw [if_pos rfl]
    · rw [if_neg e]
  rwa [e] at this
theorem Opps.zero {w : World} {ob : Nat} (B : Nat) (u : Nat → Value) (o : Nat → List Int) (h : ob < w.heap.size) : Opps B w [ob] 0 u o :=
  ⟨fun i hi => absurd hi (Nat.not_lt_zero _), fun i hi => absurd hi (Nat.not_lt_zero _), fun i _ hi => absurd hi (Nat.not_lt_zero _), fun b hb => by rw [List.mem_singleton.1 hb]; exact h⟩
theorem Opps.to {B : Nat} {w : World} {bs : List Nat} {m : Nat} {u u' : Nat → Value} {o o' : Nat → List Int} (h : Opps B w bs m u o) (hu : u = u') (ho : o = o') : Opps B w bs m u' o' := by subst hu; subst ho; exact h
theorem src_box {w : World} {b : Nat} {z : Int} {t : TypeId} (h : Box w b [.int .i64 z] t) : ∀ j u, [Value.int .i64 z][j]? = some u → w.cell? ((⟨b, 0, none⟩ : Addr).add j) = some u := by
  intro j u hu
  have e : (⟨b, 0, none⟩ : Addr).add j = ⟨b, j, none⟩ := by unfold Addr.add; split <;> simp_all
  rw [e]
  exact h.cell j hu
theorem off_grown {B : Nat} {w w' : World} {bs : List Nat} {m : Nat} {u : Nat → Value} {o : Nat → List Int} (h : Opps B w bs m u o) (a : Nat) (ha : a < m) {b : Nat} (hb : b ∈ bs) {row : Option Nat} (hr : row = (u a).ownBlock) : some b ≠ row := by
  subst hr
  exact fun e => h.off a ha b hb e.symm

theorem Opps.at {B : Nat} {w : World} {bs : List Nat} {m : Nat} {u : Nat → Value} {o : Nat → List Int} (h : Opps B w bs m u o) (a : Nat) (ha : a < m) {x : Value} {l : List Int} (hu : u a = x) (ho : o a = l) : w.ownsRow B 3 1 x l.length (ints l) := by
  subst hu; subst ho; exact h.own a ha
theorem Opps.ne {B : Nat} {w : World} {bs : List Nat} {m : Nat} {u : Nat → Value} {o : Nat → List Int} (h : Opps B w bs m u o) (a : Nat) (ha : a < m) {x : Value} (hu : u a = x) {b : Nat} (hb : b ∈ bs) : some b ≠ x.ownBlock := by
  subst hu; exact fun e => h.off a ha b hb e.symm
theorem Opps.app2 {B : Nat} {w w' : World} {bs : List Nat} {m : Nat} {u : Nat → Value} {o : Nat → List Int} (h : Opps B w bs m u o) (a : Nat) (ha : a < m) {v0 : Value} {l : List Int} (hu : u a = v0) (ho : o a = l) {g c : Nat} {x : Int}
    (hown : w'.ownsRow B 3 1 (.slice (some ⟨g, 0, none⟩) (l.length + 1) c) (l.length + 1) (ints l ++ [.int .i64 x])) (hg : w.grownBy w' v0.ownBlock) (hq : v0.ownBlock = some g ∨ g = w.heap.size) :
    Opps B w' bs m (setF u a (.slice (some ⟨g, 0, none⟩) (l.length + 1) c)) (setF o a (l ++ [x])) := by
  subst hu; subst ho; exact h.app a ha hown rfl rfl hg hq
theorem pl2_opp (f : Nat → SwP) (i j : Nat) (r : Int) (z : Nat) : (pl2 f i j r z).opp = (f z).opp := by
  unfold pl2 pl1 setF
  by_cases e1 : z = j
  · subst e1; rw [if_pos rfl]; by_cases e2 : z = i
    · subst e2; simp
    · simp [e2]
  · rw [if_neg e1]; by_cases e2 : z = i
    · subst e2; simp
    · simp [e2]
theorem pl5_opp (f : Nat → SwP) (i j : Nat) (r : Int) (h : i ≠ j) : setF (setF (fun z => (f z).opp) i ((f i).opp ++ [(j : Int)])) j ((f j).opp ++ [(i : Int)]) = fun z => (pl5 f i j r z).opp := by
  rw [pl5_eq f i j r h]
  funext z
  show _ = (plays f i j r z).opp
  rw [plays_at]
  unfold setF
  by_cases e1 : z = j
  · rw [if_pos e1, if_pos e1]
  · rw [if_neg e1, if_neg e1]
    by_cases e2 : z = i
    · rw [if_pos e2, if_pos e2]
    · rw [if_neg e2, if_neg e2]
theorem rests_eq (f : Nat → SwP) (i : Nat) : setF (setF f i { f i with score := (f i).score + 2 }) i { setF f i { f i with score := (f i).score + 2 } i with bye := true } = rests f i := by
  funext z
  unfold rests setF
  by_cases e : z = i
  · subst e; simp
  · simp [e]
theorem rests_opp (f : Nat → SwP) (i : Nat) : (fun z => (f z).opp) = fun z => (rests f i z).opp := by
  funext z
  unfold rests setF
  by_cases e : z = i
  · subst e; simp
  · simp [e]
theorem pl3b_col (f : Nat → SwP) (i j : Nat) (r : Int) (z : Nat) : (pl3b f i j r z).colour = (f z).colour := by
  unfold pl3b pl3 pl2 pl1 setF
  by_cases e1 : z = j <;> by_cases e2 : z = i <;> (try subst e1) <;> (try subst e2) <;> simp_all
theorem pl4_col (f : Nat → SwP) (i j : Nat) (r : Int) (h : i ≠ j) : (pl4 f i j r j).colour = (f j).colour := by
  unfold pl4
  rw [setF_other _ _ (fun e => h e.symm), pl3b_col]

def AfterPost (ps : List SwP) (W : List Int) (off : Int) (w : World) (e : Ending) (w' : World) : Prop := Below w.heap.size w w' ∧ ((∃ c : Int, (c = 2 ∨ c = 4) ∧ e = .returned (.tuple #[.slice none 0 0, .int .i64 c])) ∨
  ∃ v f, e = .returned (.tuple #[v, .int .i64 0]) ∧ RdS w' v (newL ps.length f) ∧ Fin1 ps W off f)

set_option maxRecDepth 100000 in
set_option maxHeartbeats 16000000 in
theorem After_ok (s vg vr : Value) (ps : List SwP) (W rs : List Int) (w : World) (hs : RdS w s ps) (hok : ChkOk ps) (hw : Whole ps W) (hg : RdL prEl w vg (outZ ps W ps.length)) (hr : RdI w vr rs)
    (hl : rs.length = (outZ ps W ps.length).length) (h2 : ∀ k, k < rs.length → 0 ≤ rs.getD k 0 ∧ rs.getD k 0 ≤ 2) :
    Calls Try.prog 9 #[s, vg, vr, .int .i64 (offZ ps.length W ps.length)] w (AfterPost ps W (offZ ps.length W ps.length) w) := by
  obtain ⟨sa, sc, rfl, hs1, hs2⟩ := hs.form
  obtain ⟨ga, gc, rfl, hg1, hg2⟩ := hg.form
  obtain ⟨ra, rc, rfl, hr1, hr2⟩ := hr.form
  unfold maxLen at hs2 hg2 hr2
  obtain ⟨hn2, hn8⟩ := hok.1
  have HOK := Lib.hid hok
  have HW := Lib.hid hw
  have HS := Lib.hid hs
  have HG := Lib.hid hg
  have HR := Lib.hid hr
  have H2 := Lib.hid h2
  have HL := Lib.hid hl
  have HGs := Lib.hid (games_ok hw ps.length (Nat.le_refl _))
  have HOff := Lib.hid (off_ok hw)
  have HGL := Lib.hid (outZ_len ps W ps.length)
  have HSm : Hid (∀ i, i < ps.length → Small (plAt ps i)) := Lib.hid (fun i hi => (hok.2.1 i hi).1)
  have HOl : Hid (∀ i, i < ps.length → (plAt ps i).opp.length ≤ 20) := Lib.hid (fun i hi => (hok.2.1 i hi).2.1)
  clear hs hok hw hg hr h2
  obtain ⟨G, hG⟩ : ∃ G, G = outZ ps W ps.length := ⟨_, rfl⟩
  obtain ⟨off, hoff⟩ : ∃ off, off = offZ ps.length W ps.length := ⟨_, rfl⟩
  have HFe : Hid (∀ f, Mid ps G f → off = -1 → Fin1 ps W off f) := Lib.hid (fun f hm he => by subst hG; subst hoff; rw [he]; exact fin_even HW.out hn8 hm he)
  have HFo : Hid (∀ f, Mid ps G f → ∀ i : Nat, i < ps.length → off = i → Fin1 ps W off (rests f i)) := Lib.hid (fun f hm i hi he => by subst hG; subst hoff; rw [he]; exact fin_odd HW.out hn8 hm i hi he)
  have HCk : Hid (∀ w', Below w.heap.size w w' → Calls Try.prog 15 #[.slice sa ps.length sc, .slice ga G.length gc, .slice ra rs.length rc, .int .i64 off] w' fun e w'' => e = .returned (.int .i64 0) ∧ Below w'.heap.size w' w'') := Lib.hid (fun w' hb => by
    subst hG; subst hoff
    exact checkGames_ok _ _ _ ps W rs w' (RdL.below HS.out hb (Nat.le_refl _)) HOK.out HW.out (RdL.below HG.out hb (Nat.le_refl _)) (RdI.below HR.out hb (Nat.le_refl _)) HL.out H2.out)
  rw [← hG] at hl HG HGs HGL hg1
  rw [← hG, ← hoff]
  rw [← hoff] at HOff
  clear hG hoff
  rw [hl] at hr1 HR H2 HCk ⊢
  have hle : G.length ≤ ps.length := HGL.out
  have HLr := Lib.hid hl
  clear HL hl
  go_enter Try.func9, Try.ntmps9
  go_upto_region 2 with (go_at_call 10; refine (Check_any _ ps _ HS.out).mono ?_; rintro e w1 ⟨cc, rfl, hsay, hbl⟩; have HC := Lib.hid (says_ok HOK.out hsay); have HB1 := Lib.hid hbl; clear hsay hbl)
  obtain rfl : cc = 0 := HC.out
  go_upto_region 5 with (go_at_call 15; refine (HCk.out _ HB1.out).mono ?_; rintro e w2 ⟨rfl, hbl⟩; have HB2 := Lib.hid (HB1.out.trans (hbl.mono HB1.out.size)); clear hbl)
  have hs2w := HB2.out.size
  go_upto_region 8 with (go_at_call 16; refine (CloneP_any _ ps _ (RdL.below HS.out HB2.out (Nat.le_refl _)) hn2 hn8).mono ?_; rintro e w3 ⟨ob, oc, vo, rfl, ho1, ho2, hob, hb, hcl, hvo⟩; have HB3 := Lib.hid hb; have HCl := Lib.hid hcl; have HVo := Lib.hid hvo; clear hb hcl hvo)
  unfold maxLen at ho2
  obtain ⟨bb, hbb⟩ : ∃ bb, bb = w2.heap.size := ⟨_, rfl⟩
  rw [← hbb] at HB3 hob
  have hbb1 : bb ≤ w2.heap.size := by omega
  have hbb2 : w2.heap.size ≤ bb := by omega
  clear hbb
  go_wp2_with fail
  go_loopw [36, 13] (fun v36 v13 wr => ∃ (k : Nat) (o13 : Value) (v : Nat → Value), o13 = v13 ∧ k ≤ ps.length ∧ v36 = .int .i64 k ∧ Hid (Cells wr ob ps.length (plAt ps) v) ∧ Hid (Opps bb wr [ob] k v (fun i => (plAt ps i).opp)) ∧ Hid (∀ i, k ≤ i → v i = vo i) ∧ Hid (Below bb w2 wr)) (fun v _ _ => ps.length - (intOf v).toNat)
  case atStart => exact ⟨0, _, vo, rfl, Nat.zero_le _, rfl, HCl, Lib.hid (Opps.zero bb vo _ HCl.out.lt), Lib.hid (fun _ _ => rfl), HB3⟩
  case round =>
    obtain ⟨k, o13, v, rfl, hk, rfl, HC1, HO1, HV1, HB⟩ := hrel
    have hsr := HB.out.size
    have hobr := HC1.out.lt
    by_cases hlt : k < ps.length
    · have hvk := HV1.out k (Nat.le_refl _)
      have hrd := RdI.below (HVo.out k hlt) HB.out (by omega)
      have cv := HC1.out.c1 k hlt
      have fv := HC1.out.fr (k * 4 + 1)
      rw [hvk] at cv
      obtain ⟨ka, kc, hka, hk1, hk2⟩ := hrd.form
      have hkl := HOl.out k hlt
      rw [hka] at cv hrd
      have HRk := Lib.hid hrd
      have HOn : Hid (∀ w' x, Below wr.heap.size wr w' → w'.ownsRow wr.heap.size 3 1 x (plAt ps k).opp.length (ints (plAt ps k).opp) → Opps bb w' [ob] (k + 1) (setF v k x) (fun i => (plAt ps i).opp)) := Lib.hid (fun w' x hb ho => HO1.out.new hb (by omega) ho rfl)
      have HVn : Hid (∀ x i, k + 1 ≤ i → setF v k x i = vo i) := Lib.hid (fun x i hi => by rw [setF_other _ _ (by omega)]; exact HV1.out i (by omega))
      clear hvk hrd HV1 hka
      go_upto_region 11 with (fail)
      go_wp2_with (go_at_call 17; refine (Clone_any _ _ _ HRk.out (by omega)).mono ?_; rintro e w4 ⟨vx, rfl, hox, hbx⟩; obtain ⟨xa, xc, rfl⟩ := own_form2 hox; have cv4 := (hbx.cell (p := ⟨ob, k * 4 + 1, none⟩) hobr).trans cv; have fv4 := (hbx.frozen (p := ⟨ob, k * 4 + 1, none⟩) hobr).trans fv; have hob4 : ob < w4.heap.size := Nat.lt_of_lt_of_le hobr hbx.size; have HO4 := Lib.hid ((HOn.out _ _ hbx hox).set ob (k * 4 + 1) (List.mem_singleton.2 rfl) (.slice xa (plAt ps k).opp.length xc)); have HC4 := Lib.hid ((HC1.out.stays hbx).same k hlt (.slice xa (plAt ps k).opp.length xc)); have HB4 := Lib.hid ((HB.out.trans (hbx.mono (by omega))).setCell (p := ⟨ob, k * 4 + 1, none⟩) (by exact hob) (.slice xa (plAt ps k).opp.length xc)); clear hox hbx HOn)
      go_roundw
      case rel => exact ⟨k + 1, _, _, rfl, by omega, by go_num, HC4, HO4, Lib.hid (HVn.out _), HB4⟩
      case measure => simp [intOf]; omega
    · obtain rfl : k = ps.length := by omega
      have hws := HB.out.size
      go_wp2_with fail
      obtain ⟨wo, rfl⟩ : ∃ wo : World, wo = wr := ⟨_, rfl⟩
      clear HV1
      go_loopw [52, 14, 15, 16, 17] (fun v52 v14 v15 v16 v17 wr => ∃ (k : Nat) (p14 p15 p16 p17 : Value) (f : Nat → SwP) (v : Nat → Value), p14 = v14 ∧ p15 = v15 ∧ p16 = v16 ∧ p17 = v17 ∧ k ≤ G.length ∧ v52 = .int .i64 k ∧ Hid (Cells wr ob ps.length f v) ∧ Hid (Opps bb wr [ob] ps.length v (fun i => (f i).opp)) ∧ Hid (Mid ps (G.take k) f) ∧ Hid (Below bb w2 wr)) (fun v _ _ _ _ _ => G.length - (intOf v).toNat)
      case atStart => exact ⟨0, _, _, _, _, plAt ps, v, rfl, rfl, rfl, rfl, Nat.zero_le _, rfl, HC1, HO1, Lib.hid (Mid.start ps HSm.out), HB⟩
      case round =>
        obtain ⟨k, p14, p15, p16, p17, f, v, rfl, rfl, rfl, rfl, hk, rfl, HC, HO, HM, HB⟩ := hrel
        have hsr := HB.out.size
        have hobr := HC.out.lt
        by_cases hlt : k < G.length
        · have hww := HB2.out.trans (HB.out.mono (show w.heap.size ≤ bb by omega))
          obtain ⟨gg, og, rfl, hgg, hcl⟩ := RdL.some (RdL.below HG.out hww (Nat.le_refl _)) (by omega)
          obtain ⟨cs, hcs, hj⟩ := hcl k hlt
          obtain ⟨i, j, hij, hin, hjn, hne, -⟩ := HGs.out _ (List.getElem_mem hlt)
          have HT : Hid (G.take (k + 1) = G.take k ++ [((i : Int), (j : Int))]) := Lib.hid (by rw [List.take_add_one, List.getElem?_eq_getElem hlt, hij]; rfl)
          rw [hij] at hcs
          obtain rfl : cs = [.int .i64 (i : Int), .int .i64 (j : Int)] := hcs
          have c1 : wr.cell? ⟨gg, og + k * 2, none⟩ = some (.int .i64 (i : Int)) := hj 0 (by decide)
          have c2 : wr.cell? ⟨gg, og + k * 2 + 1, none⟩ = some (.int .i64 (j : Int)) := hj 1 (by decide)
          clear hcl hij hj
          have hlr := HLr.out
          obtain ⟨rg, ro, rc2, har, -, -, hrg, hrc⟩ := HR.out.some (by omega)
          rw [hlr] at har hrc
          clear hlr
          simp only [Value.slice.injEq] at har
          obtain ⟨rfl, -, rfl⟩ := har
          have cr := (hww.cell (p := ⟨rg, ro + k, none⟩) hrg).trans (hrc k (by omega))
          obtain ⟨hr0, hr3⟩ := H2.out k hlt
          clear hrc hww
          generalize rs.getD k 0 = rk at *
          obtain ⟨hsi0, hsi1⟩ := HM.out.sc i hin
          obtain ⟨hsj0, hsj1⟩ := HM.out.sc j hjn
          obtain ⟨hci0, hci1⟩ := HM.out.col i hin
          obtain ⟨hcj0, hcj1⟩ := HM.out.col j hjn
          have hoi : (f i).opp.length ≤ 100 := by
            have h1 := HOl.out i hin
            have h2 := occ_le (i : Int) (G.take k)
            rw [HM.out.opp i hin, List.length_append, parts_len]
            rw [List.length_take] at h2
            omega
          have hoj : (f j).opp.length ≤ 100 := by
            have h1 := HOl.out j hjn
            have h2 := occ_le (j : Int) (G.take k)
            rw [HM.out.opp j hjn, List.length_append, parts_len]
            rw [List.length_take] at h2
            omega
          rw [List.length_take] at hsi1 hsj1 hci0 hci1 hcj0 hcj1
          have HStep := Lib.hid (HM.out.step i j hin hjn hne rk hr0 hr3)
          rw [← HT.out, ← pl5_eq f i j rk hne] at HStep
          clear HM
          go_upto_region 16 with (fail)
          obtain ⟨pb, hpb⟩ : ∃ pb, pb = wr.heap.size := ⟨_, rfl⟩
          rw [← hpb]
          have HP := Lib.hid (Box.new' wr pb [.int .i64 (i : Int), .int .i64 (j : Int)] 30 hpb.symm)
          have HBp := Lib.hid (HB.out.alloc (by omega) (.cells #[.int .i64 (i : Int), .int .i64 (j : Int)] 30))
          have HCp := Lib.hid (HC.out.stays ((Below.refl wr.heap.size wr).alloc (Nat.le_refl _) (.cells #[.int .i64 (i : Int), .int .i64 (j : Int)] 30)))
          have HOp := Lib.hid (HO.out.fresh (.cells #[.int .i64 (i : Int), .int .i64 (j : Int)] 30))
          rw [← hpb] at HOp
          have crp := cell_alloc cr (.cells #[.int .i64 (i : Int), .int .i64 (j : Int)] 30)
          have hbp : bb ≤ pb := by omega
          have hrob : rg ≠ ob := by omega
          have hpob : pb ≠ ob := by omega
          clear HB HC HO cr c1 c2 hpb
          generalize wr.alloc (.cells #[.int .i64 (i : Int), .int .i64 (j : Int)] 30) = wp at *
          have hin' : (i : Int) < (ps.length : Int) := by omega
          have hjn' : (j : Int) < (ps.length : Int) := by omega
          have hq : wp.cell? ⟨pb, 0, none⟩ = some (.int .i64 (i : Int)) ∧ wp.cell? ⟨pb, 1, none⟩ = some (.int .i64 (j : Int)) := ⟨HP.out.cell 0 rfl, HP.out.cell 1 rfl⟩
          refine wp_region_noPanic ?_
          refine beginL (S := (fun w' => w'.cell? ⟨pb, 0, none⟩ = some (.int .i64 (i : Int)) ∧ w'.cell? ⟨pb, 1, none⟩ = some (.int .i64 (j : Int)))) (L := []) (by kernel_rfl) hq (fun hHeld => ?_)
          refine takeW (i := 0) (oi := { dst := some 57, op := Op.move (Operand.tmp 12), type := 22, pos := "swiss.go:175", after := #[], guard := none }) (v := ?va1) rfl (by kernel_rfl) (by kernel_rfl) (by kernel_rfl) rfl (fun _ _ _ h => h) (Or.inl ⟨by rfl, ?ya1⟩) (fun _ => by assumption) ?ra1
          case ya1 => (intro w _; go_simp; first | done | (with_reducible rfl) | (rw [if_neg (by omega)]))
          try simp only [Act.put, List.setIfInBounds_toArray, List.set_cons_zero, List.set_cons_succ]
          refine takeW (i := 1) (oi := { dst := some 58, op := Op.fieldAddr 30 (Operand.tmp 15) 0, type := 0, pos := "swiss.go:175", after := #[], guard := none }) (v := ?va2) rfl (by kernel_rfl) (by kernel_rfl) (by kernel_rfl) rfl (fun _ _ _ h => h) (Or.inl ⟨by rfl, ?ya2⟩) (fun _ => by assumption) ?ra2
          case ya2 => (intro w _; go_simp; first | done | (with_reducible rfl) | (rw [if_neg (by omega)]))
          try simp only [Act.put, List.setIfInBounds_toArray, List.set_cons_zero, List.set_cons_succ]
          refine takeW (i := 4) (oi := { dst := some 61, op := Op.move (Operand.tmp 12), type := 22, pos := "swiss.go:175", after := #[{ on := 8, ground := Ground.gcOnly Departure.lateStores }], guard := none }) (v := ?va3) rfl (by kernel_rfl) (by kernel_rfl) (by kernel_rfl) rfl (fun _ _ _ h => h) (Or.inl ⟨by rfl, ?ya3⟩) (fun _ => by assumption) ?ra3
          case ya3 => (intro w _; go_simp; first | done | (with_reducible rfl) | (rw [if_neg (by omega)]))
          try simp only [Act.put, List.setIfInBounds_toArray, List.set_cons_zero, List.set_cons_succ]
          refine takeW (i := 5) (oi := { dst := some 62, op := Op.fieldAddr 30 (Operand.tmp 15) 1, type := 0, pos := "swiss.go:175", after := #[{ on := 8, ground := Ground.gcOnly Departure.lateStores }], guard := none }) (v := ?va4) rfl (by kernel_rfl) (by kernel_rfl) (by kernel_rfl) rfl (fun _ _ _ h => h) (Or.inl ⟨by rfl, ?ya4⟩) (fun _ => by assumption) ?ra4
          case ya4 => (intro w _; go_simp; first | done | (with_reducible rfl) | (rw [if_neg (by omega)]))
          try simp only [Act.put, List.setIfInBounds_toArray, List.set_cons_zero, List.set_cons_succ]
          refine takeL (i := 2) (oi := { dst := some 59, op := Op.load 3 (Operand.tmp 58), type := 3, pos := "swiss.go:175", after := #[{ on := 1, ground := Ground.data }], guard := none }) (v := ?va5) rfl (by kernel_rfl) (by kernel_rfl) (by kernel_rfl) (by kernel_rfl) rfl (by kernel_rfl) (by kernel_rfl) (fun _ _ _ h => h) (Or.inl ⟨by rfl, ?ya5⟩) (by assumption) ?ra5
          case ya5 => (intro w hSw; (try dsimp only at hSw); go_simp; first | done | (with_reducible rfl))
          try simp only [Act.put, List.setIfInBounds_toArray, List.set_cons_zero, List.set_cons_succ]
          refine takeL (i := 6) (oi := { dst := some 63, op := Op.load 3 (Operand.tmp 62), type := 3, pos := "swiss.go:175", after := #[{ on := 5, ground := Ground.data }, { on := 8, ground := Ground.gcOnly Departure.lateStores }], guard := none }) (v := ?va6) rfl (by kernel_rfl) (by kernel_rfl) (by kernel_rfl) (by kernel_rfl) rfl (by kernel_rfl) (by kernel_rfl) (fun _ _ _ h => h) (Or.inl ⟨by rfl, ?ya6⟩) (by assumption) ?ra6
          case ya6 => (intro w hSw; (try dsimp only at hSw); go_simp; first | done | (with_reducible rfl))
          try simp only [Act.put, List.setIfInBounds_toArray, List.set_cons_zero, List.set_cons_succ]
          refine takeW (i := 3) (oi := { dst := some 60, op := Op.indexAddr 22 (Operand.tmp 57) (Operand.tmp 59), type := 0, pos := "swiss.go:175", after := #[{ on := 0, ground := Ground.data }, { on := 2, ground := Ground.data }], guard := none }) (v := ?va7) rfl (by kernel_rfl) (by kernel_rfl) (by kernel_rfl) rfl (fun _ _ _ h => h) (Or.inl ⟨by rfl, ?ya7⟩) (fun _ => by assumption) ?ra7
          case ya7 => (intro w _; go_simp; first | done | (with_reducible rfl) | (rw [if_neg (by omega)]))
          try simp only [Act.put, List.setIfInBounds_toArray, List.set_cons_zero, List.set_cons_succ]
          refine takeW (i := 7) (oi := { dst := some 64, op := Op.indexAddr 22 (Operand.tmp 61) (Operand.tmp 63), type := 0, pos := "swiss.go:175", after := #[{ on := 4, ground := Ground.data }, { on := 6, ground := Ground.data }, { on := 8, ground := Ground.gcOnly Departure.lateStores }], guard := none }) (v := ?va8) rfl (by kernel_rfl) (by kernel_rfl) (by kernel_rfl) rfl (fun _ _ _ h => h) (Or.inl ⟨by rfl, ?ya8⟩) (fun _ => by assumption) ?ra8
          case ya8 => (intro w _; go_simp; first | done | (with_reducible rfl) | (rw [if_neg (by omega)]))
          try simp only [Act.put, List.setIfInBounds_toArray, List.set_cons_zero, List.set_cons_succ]
          refine takeW (i := 8) (oi := { dst := some 16, op := Op.assign (Operand.tmp 60), type := 50, pos := "swiss.go:175", after := #[{ on := 3, ground := Ground.data }, { on := 0, ground := Ground.phase }, { on := 1, ground := Ground.phase }, { on := 2, ground := Ground.phase }, { on := 3, ground := Ground.phase }, { on := 4, ground := Ground.textOnly Departure.lateStores }, { on := 5, ground := Ground.textOnly Departure.lateStores }, { on := 6, ground := Ground.textOnly Departure.lateStores }, { on := 7, ground := Ground.textOnly Departure.lateStores }], guard := none }) (v := ?va9) rfl (by kernel_rfl) (by kernel_rfl) (by kernel_rfl) rfl (fun _ _ _ h => h) (Or.inl ⟨by rfl, ?ya9⟩) (fun _ => by assumption) ?ra9
          case ya9 => (intro w _; go_simp; first | done | (with_reducible rfl) | (rw [if_neg (by omega)]))
          try simp only [Act.put, List.setIfInBounds_toArray, List.set_cons_zero, List.set_cons_succ]
          refine takeW (i := 9) (oi := { dst := some 17, op := Op.assign (Operand.tmp 64), type := 50, pos := "swiss.go:175", after := #[{ on := 7, ground := Ground.data }, { on := 8, ground := Ground.chain }, { on := 0, ground := Ground.phase }, { on := 1, ground := Ground.phase }, { on := 2, ground := Ground.phase }, { on := 3, ground := Ground.phase }, { on := 4, ground := Ground.phase }, { on := 5, ground := Ground.phase }, { on := 6, ground := Ground.phase }, { on := 7, ground := Ground.phase }, { on := 8, ground := Ground.phase }], guard := none }) (v := ?va10) rfl (by kernel_rfl) (by kernel_rfl) (by kernel_rfl) rfl (fun _ _ _ h => h) (Or.inl ⟨by rfl, ?ya10⟩) (fun _ => by assumption) ?ra10
          case ya10 => (intro w _; go_simp; first | done | (with_reducible rfl) | (rw [if_neg (by omega)]))
          try simp only [Act.put, List.setIfInBounds_toArray, List.set_cons_zero, List.set_cons_succ]
          refine doneL (by kernel_rfl) ?_ _
          refine NoPanic.normal ?_
          clear hHeld
          have HPd := Lib.hid (HP.out.drew)
          have HBd := Lib.hid (below_drewN HBp.out 1)
          have HCd := Lib.hid (HCp.out.stays (below_drewN (Below.refl _ _) 1))
          have HOd := Lib.hid (HOp.out.stays (below_drewN (Below.refl _ _) 1))
          have crd : wp.drew.cell? ⟨rg, ro + k, none⟩ = some (.int .i64 rk) := crp
          change Hid (Below bb w2 wp.drew) at HBd
          change Hid (Cells wp.drew ob ps.length f v) at HCd
          change Hid (Opps bb wp.drew [pb, ob] ps.length v fun i => (f i).opp) at HOd
          clear HP HBp HCp HOp crp hq
          go_upto_region 17 with (fail)
          generalize wp.drew = wa at *
          have qs : wa.drew.cell? ⟨ob, i * 4, none⟩ = some (.int .i64 (f i).score) ∧ wa.drew.cell? ⟨rg, ro + k, none⟩ = some (.int .i64 rk) := ⟨HCd.out.c0 i hin, crd⟩
          have fs : wa.drew.frozen? ⟨ob, i * 4, none⟩ = false := HCd.out.fr (i * 4)
          have W1 : IntKind.i64.wrap ((f i).score + rk) = (f i).score + rk := IntWalk.i64_in _ (by omega)
          have hobw : ob < wa.drew.heap.size := HCd.out.lt
          refine wp_region_noPanic ?_
          refine beginL (S := (fun w' => w'.cell? ⟨ob, i * 4, none⟩ = some (.int .i64 (f i).score) ∧ w'.cell? ⟨rg, ro + k, none⟩ = some (.int .i64 rk))) (L := [11]) (by kernel_rfl) qs (fun hHeld => ?_)
          refine takeW (i := 0) (oi := { dst := some 65, op := Op.move (Operand.tmp 16), type := 50, pos := "swiss.go:176", after := #[], guard := none }) (v := ?va11) rfl (by kernel_rfl) (by kernel_rfl) (by kernel_rfl) rfl (fun _ _ _ h => h) (Or.inl ⟨by rfl, ?ya11⟩) (fun _ => by assumption) ?ra11
          case ya11 => (intro w _; go_simp; first | done | (with_reducible rfl) | (rw [if_neg (by omega)]))
          try simp only [Act.put, List.setIfInBounds_toArray, List.set_cons_zero, List.set_cons_succ]
          refine takeW (i := 4) (oi := { dst := some 69, op := Op.move (Operand.tmp 2), type := 28, pos := "swiss.go:176", after := #[], guard := none }) (v := ?va12) rfl (by kernel_rfl) (by kernel_rfl) (by kernel_rfl) rfl (fun _ _ _ h => h) (Or.inl ⟨by rfl, ?ya12⟩) (fun _ => by assumption) ?ra12
          case ya12 => (intro w _; go_simp; first | done | (with_reducible rfl) | (rw [if_neg (by omega)]))
          try simp only [Act.put, List.setIfInBounds_toArray, List.set_cons_zero, List.set_cons_succ]
          refine takeW (i := 5) (oi := { dst := some 70, op := Op.move (Operand.tmp 14), type := 3, pos := "swiss.go:176", after := #[], guard := none }) (v := ?va13) rfl (by kernel_rfl) (by kernel_rfl) (by kernel_rfl) rfl (fun _ _ _ h => h) (Or.inl ⟨by rfl, ?ya13⟩) (fun _ => by assumption) ?ra13
          case ya13 => (intro w _; go_simp; first | done | (with_reducible rfl) | (rw [if_neg (by omega)]))
          try simp only [Act.put, List.setIfInBounds_toArray, List.set_cons_zero, List.set_cons_succ]
          refine takeW (i := 1) (oi := { dst := some 66, op := Op.nilCheck (Operand.tmp 65), type := 0, pos := "swiss.go:176", after := #[{ on := 0, ground := Ground.data }], guard := none }) (v := ?va14) rfl (by kernel_rfl) (by kernel_rfl) (by kernel_rfl) rfl (fun _ _ _ h => h) (Or.inl ⟨by rfl, ?ya14⟩) (fun _ => by assumption) ?ra14
          case ya14 => (intro w _; go_simp; first | done | (with_reducible rfl) | (rw [if_neg (by omega)]))
          try simp only [Act.put, List.setIfInBounds_toArray, List.set_cons_zero, List.set_cons_succ]
          refine takeW (i := 6) (oi := { dst := some 71, op := Op.indexAddr 28 (Operand.tmp 69) (Operand.tmp 70), type := 0, pos := "swiss.go:176", after := #[{ on := 4, ground := Ground.data }, { on := 5, ground := Ground.data }], guard := none }) (v := ?va15) rfl (by kernel_rfl) (by kernel_rfl) (by kernel_rfl) rfl (fun _ _ _ h => h) (Or.inl ⟨by rfl, ?ya15⟩) (fun _ => by assumption) ?ra15
          case ya15 => (intro w _; go_simp; first | done | (with_reducible rfl) | (rw [if_neg (by omega)]))
          try simp only [Act.put, List.setIfInBounds_toArray, List.set_cons_zero, List.set_cons_succ]
          refine takeW (i := 2) (oi := { dst := some 67, op := Op.fieldAddr 32 (Operand.tmp 66) 0, type := 0, pos := "swiss.go:176", after := #[{ on := 1, ground := Ground.data }], guard := none }) (v := ?va16) rfl (by kernel_rfl) (by kernel_rfl) (by kernel_rfl) rfl (fun _ _ _ h => h) (Or.inl ⟨by rfl, ?ya16⟩) (fun _ => by assumption) ?ra16
          case ya16 => (intro w _; go_simp; first | done | (with_reducible rfl) | (rw [if_neg (by omega)]))
          try simp only [Act.put, List.setIfInBounds_toArray, List.set_cons_zero, List.set_cons_succ]
          refine takeL (i := 7) (oi := { dst := some 72, op := Op.load 3 (Operand.tmp 71), type := 3, pos := "swiss.go:176", after := #[{ on := 6, ground := Ground.data }], guard := none }) (v := ?va17) rfl (by kernel_rfl) (by kernel_rfl) (by kernel_rfl) (by kernel_rfl) rfl (by kernel_rfl) (by kernel_rfl) (fun _ _ _ h => h) (Or.inl ⟨by rfl, ?ya17⟩) (by assumption) ?ra17
          case ya17 => (intro w hSw; (try dsimp only at hSw); go_simp; first | done | (with_reducible rfl))
          try simp only [Act.put, List.setIfInBounds_toArray, List.set_cons_zero, List.set_cons_succ]
          refine takeL (i := 3) (oi := { dst := some 68, op := Op.load 3 (Operand.tmp 67), type := 3, pos := "swiss.go:176", after := #[{ on := 2, ground := Ground.data }], guard := none }) (v := ?va18) rfl (by kernel_rfl) (by kernel_rfl) (by kernel_rfl) (by kernel_rfl) rfl (by kernel_rfl) (by kernel_rfl) (fun _ _ _ h => h) (Or.inl ⟨by rfl, ?ya18⟩) (by assumption) ?ra18
          case ya18 => (intro w hSw; (try dsimp only at hSw); go_simp; first | done | (with_reducible rfl))
          try simp only [Act.put, List.setIfInBounds_toArray, List.set_cons_zero, List.set_cons_succ]
          refine takeW (i := 8) (oi := { dst := some 73, op := Op.binOp BinOp.add 3 (Operand.tmp 68) (Operand.tmp 72) 3, type := 3, pos := "swiss.go:176", after := #[{ on := 3, ground := Ground.data }, { on := 7, ground := Ground.data }], guard := none }) (v := ?va19) rfl (by kernel_rfl) (by kernel_rfl) (by kernel_rfl) rfl (fun _ _ _ h => h) (Or.inl ⟨by rfl, ?ya19⟩) (fun _ => by assumption) ?ra19
          case ya19 => (intro w _; go_simp; first | done | (with_reducible rfl) | (rw [if_neg (by omega)]))
          try simp only [Act.put, List.setIfInBounds_toArray, List.set_cons_zero, List.set_cons_succ]
          refine takeW (i := 9) (oi := { dst := some 74, op := Op.nilCheck (Operand.tmp 65), type := 0, pos := "swiss.go:176", after := #[{ on := 0, ground := Ground.data }, { on := 0, ground := Ground.phase }, { on := 1, ground := Ground.phase }, { on := 2, ground := Ground.phase }, { on := 3, ground := Ground.phase }, { on := 4, ground := Ground.phase }, { on := 5, ground := Ground.phase }, { on := 6, ground := Ground.phase }, { on := 7, ground := Ground.phase }, { on := 8, ground := Ground.phase }], guard := none }) (v := ?va20) rfl (by kernel_rfl) (by kernel_rfl) (by kernel_rfl) rfl (fun _ _ _ h => h) (Or.inl ⟨by rfl, ?ya20⟩) (fun _ => by assumption) ?ra20
          case ya20 => (intro w _; go_simp; first | done | (with_reducible rfl) | (rw [if_neg (by omega)]))
          try simp only [Act.put, List.setIfInBounds_toArray, List.set_cons_zero, List.set_cons_succ]
          refine takeW (i := 10) (oi := { dst := some 75, op := Op.fieldAddr 32 (Operand.tmp 74) 0, type := 0, pos := "swiss.go:176", after := #[{ on := 9, ground := Ground.data }, { on := 0, ground := Ground.phase }, { on := 1, ground := Ground.phase }, { on := 2, ground := Ground.phase }, { on := 3, ground := Ground.phase }, { on := 4, ground := Ground.phase }, { on := 5, ground := Ground.phase }, { on := 6, ground := Ground.phase }, { on := 7, ground := Ground.phase }, { on := 8, ground := Ground.phase }], guard := none }) (v := ?va21) rfl (by kernel_rfl) (by kernel_rfl) (by kernel_rfl) rfl (fun _ _ _ h => h) (Or.inl ⟨by rfl, ?ya21⟩) (fun _ => by assumption) ?ra21
          case ya21 => (intro w _; go_simp; first | done | (with_reducible rfl) | (rw [if_neg (by omega)]))
          try simp only [Act.put, List.setIfInBounds_toArray, List.set_cons_zero, List.set_cons_succ]
          refine readyL (rs := [11]) (by kernel_rfl) (by simp) ?_
          refine (AllReadyL.late (o := { dst := none, op := Op.store 3 (Operand.tmp 75) (Operand.tmp 73), type := 0, pos := "swiss.go:176", after := #[{ on := 10, ground := Ground.data }, { on := 8, ground := Ground.data }, { on := 0, ground := Ground.phase }, { on := 1, ground := Ground.phase }, { on := 2, ground := Ground.phase }, { on := 3, ground := Ground.phase }, { on := 4, ground := Ground.phase }, { on := 5, ground := Ground.phase }, { on := 6, ground := Ground.phase }, { on := 7, ground := Ground.phase }, { on := 8, ground := Ground.phase }], guard := none }) rfl (by kernel_rfl) (fun K hK => ?_) AllReadyL.nil)
          have d1 := qs.1
          go_simp
          refine K_world ?_
          intro w17 e17
          have HP17 : Hid (Box w17 pb [.int .i64 (i : Int), .int .i64 (j : Int)] 30) := Lib.hid (by rw [e17]; exact (HPd.out.drew).far ⟨ob, i * 4, none⟩ _ hpob)
          have HB17 : Hid (Below bb w2 w17) := Lib.hid (by rw [e17]; exact (below_drewN HBd.out 1).setCell (p := ⟨ob, i * 4, none⟩) (by exact hob) _)
          have HC17 : Hid (Cells w17 ob ps.length (pl1 f i rk) v) := Lib.hid (by rw [e17]; exact (HCd.out.stays (below_drewN (Below.refl _ _) 1)).score i hin _)
          have HO17 : Hid (Opps bb w17 [pb, ob] ps.length v (fun i => (f i).opp)) := Lib.hid (by rw [e17]; exact (HOd.out.stays (below_drewN (Below.refl _ _) 1)).set ob (i * 4) (by simp) _)
          have cr17 : w17.cell? ⟨rg, ro + k, none⟩ = some (.int .i64 rk) := by rw [e17]; exact (World.cell?_setCell_other wa ⟨ob, i * 4, none⟩ ⟨rg, ro + k, none⟩ _ (by simp only [ne_eq, Addr.mk.injEq, and_true]; omega)).trans qs.2
          clear e17 d1
          refine hK.out _ _ ?_
          clear hK K
          try simp only [Act.put, List.setIfInBounds_toArray, List.set_cons_zero, List.set_cons_succ]
          refine doneL (by kernel_rfl) ?_ _
          refine NoPanic.normal ?_
          clear hHeld qs fs HPd HBd HCd HOd crd hobw W1
          have hji : j ≠ i := fun e => hne e.symm
          go_upto_region 18 with (fail)
          have qs : w17.drew.cell? ⟨ob, j * 4, none⟩ = some (.int .i64 (f j).score) ∧ w17.drew.cell? ⟨rg, ro + k, none⟩ = some (.int .i64 rk) := ⟨by
            have := HC17.out.c0 j hjn
            unfold pl1 at this
            rw [setF_other _ _ hji] at this
            exact this, cr17⟩
          have fs : w17.drew.frozen? ⟨ob, j * 4, none⟩ = false := HC17.out.fr (j * 4)
          have W2 : IntKind.i64.wrap (2 - rk) = 2 - rk := IntWalk.i64_in _ (by omega)
          have W3 : IntKind.i64.wrap ((f j).score + (2 - rk)) = (f j).score + (2 - rk) := IntWalk.i64_in _ (by omega)
          have hobw : ob < w17.drew.heap.size := HC17.out.lt
          refine wp_region_noPanic ?_
          refine beginL (S := (fun w' => w'.cell? ⟨ob, j * 4, none⟩ = some (.int .i64 (f j).score) ∧ w'.cell? ⟨rg, ro + k, none⟩ = some (.int .i64 rk))) (L := [12]) (by kernel_rfl) qs (fun hHeld => ?_)
          refine takeW (i := 0) (oi := { dst := some 76, op := Op.move (Operand.tmp 17), type := 50, pos := "swiss.go:177", after := #[], guard := none }) (v := ?va22) rfl (by kernel_rfl) (by kernel_rfl) (by kernel_rfl) rfl (fun _ _ _ h => h) (Or.inl ⟨by rfl, ?ya22⟩) (fun _ => by assumption) ?ra22
          case ya22 => (intro w _; go_simp; first | done | (with_reducible rfl) | (rw [if_neg (by omega)]))
          try simp only [Act.put, List.setIfInBounds_toArray, List.set_cons_zero, List.set_cons_succ]
          refine takeW (i := 4) (oi := { dst := some 80, op := Op.move (Operand.tmp 2), type := 28, pos := "swiss.go:177", after := #[], guard := none }) (v := ?va23) rfl (by kernel_rfl) (by kernel_rfl) (by kernel_rfl) rfl (fun _ _ _ h => h) (Or.inl ⟨by rfl, ?ya23⟩) (fun _ => by assumption) ?ra23
          case ya23 => (intro w _; go_simp; first | done | (with_reducible rfl) | (rw [if_neg (by omega)]))
          try simp only [Act.put, List.setIfInBounds_toArray, List.set_cons_zero, List.set_cons_succ]
          refine takeW (i := 5) (oi := { dst := some 81, op := Op.move (Operand.tmp 14), type := 3, pos := "swiss.go:177", after := #[], guard := none }) (v := ?va24) rfl (by kernel_rfl) (by kernel_rfl) (by kernel_rfl) rfl (fun _ _ _ h => h) (Or.inl ⟨by rfl, ?ya24⟩) (fun _ => by assumption) ?ra24
          case ya24 => (intro w _; go_simp; first | done | (with_reducible rfl) | (rw [if_neg (by omega)]))
          try simp only [Act.put, List.setIfInBounds_toArray, List.set_cons_zero, List.set_cons_succ]
          refine takeW (i := 1) (oi := { dst := some 77, op := Op.nilCheck (Operand.tmp 76), type := 0, pos := "swiss.go:177", after := #[{ on := 0, ground := Ground.data }], guard := none }) (v := ?va25) rfl (by kernel_rfl) (by kernel_rfl) (by kernel_rfl) rfl (fun _ _ _ h => h) (Or.inl ⟨by rfl, ?ya25⟩) (fun _ => by assumption) ?ra25
          case ya25 => (intro w _; go_simp; first | done | (with_reducible rfl) | (rw [if_neg (by omega)]))
          try simp only [Act.put, List.setIfInBounds_toArray, List.set_cons_zero, List.set_cons_succ]
          refine takeW (i := 6) (oi := { dst := some 82, op := Op.indexAddr 28 (Operand.tmp 80) (Operand.tmp 81), type := 0, pos := "swiss.go:177", after := #[{ on := 4, ground := Ground.data }, { on := 5, ground := Ground.data }], guard := none }) (v := ?va26) rfl (by kernel_rfl) (by kernel_rfl) (by kernel_rfl) rfl (fun _ _ _ h => h) (Or.inl ⟨by rfl, ?ya26⟩) (fun _ => by assumption) ?ra26
          case ya26 => (intro w _; go_simp; first | done | (with_reducible rfl) | (rw [if_neg (by omega)]))
          try simp only [Act.put, List.setIfInBounds_toArray, List.set_cons_zero, List.set_cons_succ]
          refine takeW (i := 2) (oi := { dst := some 78, op := Op.fieldAddr 32 (Operand.tmp 77) 0, type := 0, pos := "swiss.go:177", after := #[{ on := 1, ground := Ground.data }], guard := none }) (v := ?va27) rfl (by kernel_rfl) (by kernel_rfl) (by kernel_rfl) rfl (fun _ _ _ h => h) (Or.inl ⟨by rfl, ?ya27⟩) (fun _ => by assumption) ?ra27
          case ya27 => (intro w _; go_simp; first | done | (with_reducible rfl) | (rw [if_neg (by omega)]))
          try simp only [Act.put, List.setIfInBounds_toArray, List.set_cons_zero, List.set_cons_succ]
          refine takeL (i := 7) (oi := { dst := some 83, op := Op.load 3 (Operand.tmp 82), type := 3, pos := "swiss.go:177", after := #[{ on := 6, ground := Ground.data }], guard := none }) (v := ?va28) rfl (by kernel_rfl) (by kernel_rfl) (by kernel_rfl) (by kernel_rfl) rfl (by kernel_rfl) (by kernel_rfl) (fun _ _ _ h => h) (Or.inl ⟨by rfl, ?ya28⟩) (by assumption) ?ra28
          case ya28 => (intro w hSw; (try dsimp only at hSw); go_simp; first | done | (with_reducible rfl))
          try simp only [Act.put, List.setIfInBounds_toArray, List.set_cons_zero, List.set_cons_succ]
          refine takeL (i := 3) (oi := { dst := some 79, op := Op.load 3 (Operand.tmp 78), type := 3, pos := "swiss.go:177", after := #[{ on := 2, ground := Ground.data }], guard := none }) (v := ?va29) rfl (by kernel_rfl) (by kernel_rfl) (by kernel_rfl) (by kernel_rfl) rfl (by kernel_rfl) (by kernel_rfl) (fun _ _ _ h => h) (Or.inl ⟨by rfl, ?ya29⟩) (by assumption) ?ra29
          case ya29 => (intro w hSw; (try dsimp only at hSw); go_simp; first | done | (with_reducible rfl))
          try simp only [Act.put, List.setIfInBounds_toArray, List.set_cons_zero, List.set_cons_succ]
          refine takeW (i := 8) (oi := { dst := some 84, op := Op.binOp BinOp.sub 3 (Operand.const (Value.int IntKind.i64 2)) (Operand.tmp 83) 3, type := 3, pos := "swiss.go:177", after := #[{ on := 7, ground := Ground.data }], guard := none }) (v := ?va30) rfl (by kernel_rfl) (by kernel_rfl) (by kernel_rfl) rfl (fun _ _ _ h => h) (Or.inl ⟨by rfl, ?ya30⟩) (fun _ => by assumption) ?ra30
          case ya30 => (intro w _; go_simp; first | done | (with_reducible rfl) | (rw [if_neg (by omega)]))
          try simp only [Act.put, List.setIfInBounds_toArray, List.set_cons_zero, List.set_cons_succ]
          refine takeW (i := 9) (oi := { dst := some 85, op := Op.binOp BinOp.add 3 (Operand.tmp 79) (Operand.tmp 84) 3, type := 3, pos := "swiss.go:177", after := #[{ on := 3, ground := Ground.data }, { on := 8, ground := Ground.data }], guard := none }) (v := ?va31) rfl (by kernel_rfl) (by kernel_rfl) (by kernel_rfl) rfl (fun _ _ _ h => h) (Or.inl ⟨by rfl, ?ya31⟩) (fun _ => by assumption) ?ra31
          case ya31 => (intro w _; go_simp; first | done | (with_reducible rfl) | (rw [if_neg (by omega)]))
          try simp only [Act.put, List.setIfInBounds_toArray, List.set_cons_zero, List.set_cons_succ]
          refine takeW (i := 10) (oi := { dst := some 86, op := Op.nilCheck (Operand.tmp 76), type := 0, pos := "swiss.go:177", after := #[{ on := 0, ground := Ground.data }, { on := 0, ground := Ground.phase }, { on := 1, ground := Ground.phase }, { on := 2, ground := Ground.phase }, { on := 3, ground := Ground.phase }, { on := 4, ground := Ground.phase }, { on := 5, ground := Ground.phase }, { on := 6, ground := Ground.phase }, { on := 7, ground := Ground.phase }, { on := 8, ground := Ground.phase }, { on := 9, ground := Ground.phase }], guard := none }) (v := ?va32) rfl (by kernel_rfl) (by kernel_rfl) (by kernel_rfl) rfl (fun _ _ _ h => h) (Or.inl ⟨by rfl, ?ya32⟩) (fun _ => by assumption) ?ra32
          case ya32 => (intro w _; go_simp; first | done | (with_reducible rfl) | (rw [if_neg (by omega)]))
          try simp only [Act.put, List.setIfInBounds_toArray, List.set_cons_zero, List.set_cons_succ]
          refine takeW (i := 11) (oi := { dst := some 87, op := Op.fieldAddr 32 (Operand.tmp 86) 0, type := 0, pos := "swiss.go:177", after := #[{ on := 10, ground := Ground.data }, { on := 0, ground := Ground.phase }, { on := 1, ground := Ground.phase }, { on := 2, ground := Ground.phase }, { on := 3, ground := Ground.phase }, { on := 4, ground := Ground.phase }, { on := 5, ground := Ground.phase }, { on := 6, ground := Ground.phase }, { on := 7, ground := Ground.phase }, { on := 8, ground := Ground.phase }, { on := 9, ground := Ground.phase }], guard := none }) (v := ?va33) rfl (by kernel_rfl) (by kernel_rfl) (by kernel_rfl) rfl (fun _ _ _ h => h) (Or.inl ⟨by rfl, ?ya33⟩) (fun _ => by assumption) ?ra33
          case ya33 => (intro w _; go_simp; first | done | (with_reducible rfl) | (rw [if_neg (by omega)]))
          try simp only [Act.put, List.setIfInBounds_toArray, List.set_cons_zero, List.set_cons_succ]
          refine readyL (rs := [12]) (by kernel_rfl) (by simp) ?_
          refine (AllReadyL.late (o := { dst := none, op := Op.store 3 (Operand.tmp 87) (Operand.tmp 85), type := 0, pos := "swiss.go:177", after := #[{ on := 11, ground := Ground.data }, { on := 9, ground := Ground.data }, { on := 0, ground := Ground.phase }, { on := 1, ground := Ground.phase }, { on := 2, ground := Ground.phase }, { on := 3, ground := Ground.phase }, { on := 4, ground := Ground.phase }, { on := 5, ground := Ground.phase }, { on := 6, ground := Ground.phase }, { on := 7, ground := Ground.phase }, { on := 8, ground := Ground.phase }, { on := 9, ground := Ground.phase }], guard := none }) rfl (by kernel_rfl) (fun K hK => ?_) AllReadyL.nil)
          have d1 := qs.1
          go_simp
          refine K_world ?_
          intro w18 e18
          have HP18 : Hid (Box w18 pb [.int .i64 (i : Int), .int .i64 (j : Int)] 30) := Lib.hid (by rw [e18]; exact (HP17.out.drew).far ⟨ob, j * 4, none⟩ _ hpob)
          have HB18 : Hid (Below bb w2 w18) := Lib.hid (by rw [e18]; exact (below_drewN HB17.out 1).setCell (p := ⟨ob, j * 4, none⟩) (by exact hob) _)
          have HC18 : Hid (Cells w18 ob ps.length (pl2 f i j rk) v) := Lib.hid (by rw [e18]; exact (HC17.out.stays (below_drewN (Below.refl _ _) 1)).score j hjn _)
          have HO18 : Hid (Opps bb w18 [pb, ob] ps.length v (fun i => (f i).opp)) := Lib.hid (by rw [e18]; exact (HO17.out.stays (below_drewN (Below.refl _ _) 1)).set ob (j * 4) (by simp) _)
          clear e18 d1
          refine hK.out _ _ ?_
          clear hK K
          try simp only [Act.put, List.setIfInBounds_toArray, List.set_cons_zero, List.set_cons_succ]
          refine doneL (by kernel_rfl) ?_ _
          refine NoPanic.normal ?_
          clear hHeld qs fs HP17 HB17 HC17 HO17 cr17 hobw W2 W3
          obtain ⟨ai, ci, hvi⟩ := own_form2 (HO18.out.own i hin)
          obtain ⟨aj, cj, hvj⟩ := own_form2 (HO18.out.own j hjn)
          try simp only at hvi hvj
          go_upto_region 19 with (fail)
          go_cut [88] from 88 to 109 (fun v88 wx => ∃ (o88 ni nj : Value), o88 = v88 ∧ Hid (Cells wx ob ps.length (pl3b f i j rk) (setF (setF v i ni) j nj)) ∧ Hid (Opps bb wx [ob] ps.length (setF (setF v i ni) j nj) (fun z => (pl5 f i j rk z).opp)) ∧ Hid (Below bb w2 wx))
          case first =>
            have BP0 : Box w18.drew pb [.int .i64 (i : Int), .int .i64 (j : Int)] 30 := HP18.out.drew
            have CL0 : Cells w18.drew ob ps.length (pl2 f i j rk) v := HC18.out.stays (below_drewN (Below.refl _ _) 1)
            have RW0 : Opps bb w18.drew [pb, ob] ps.length v (fun z => (f z).opp) := HO18.out.stays (below_drewN (Below.refl _ _) 1)
            have LB0 : Below bb w2 w18.drew := below_drewN HB18.out 1
            have HVI := Lib.hid hvi
            have HVJ := Lib.hid hvj
            have q1 := CL0.c1 i hin
            have q2 := CL0.c1 j hjn
            rw [hvi] at q1
            rw [hvj] at q2
            obtain ⟨i0, hi, hz0, hz1, hz2⟩ := info_parts info3
            have HI := Lib.hid hi
            have HZ0 := Lib.hid hz0
            have HZ1 := Lib.hid hz1
            have HZ2 := Lib.hid hz2
            have qq := And.intro (BP0.cell 0 rfl) (And.intro (BP0.cell 1 rfl) (And.intro q1 q2))
            have BL0 : bb ≤ w18.drew.heap.size := by have := LB0.size; omega
            clear hi hz0 hz1 hz2 q1 q2 HP18 HC18 HO18 HB18 hvi hvj
            refine wp_region_noPanic ?_
            refine beginL (S := (fun w' => w'.cell? ⟨pb, 0, none⟩ = some (.int .i64 (i : Int)) ∧ w'.cell? ⟨pb, 1, none⟩ = some (.int .i64 (j : Int)) ∧ w'.cell? ⟨ob, i * 4 + 1, none⟩ = some (.slice ai (f i).opp.length ci) ∧ w'.cell? ⟨ob, j * 4 + 1, none⟩ = some (.slice aj (f j).opp.length cj))) (L := [20, 23]) (by kernel_rfl) qq (fun hHeld => ?_)
            refine takeW (i := 0) (oi := { dst := some 88, op := Op.move (Operand.tmp 16), type := 50, pos := "swiss.go:178", after := #[], guard := none }) (v := ?va34) rfl (by kernel_rfl) (by kernel_rfl) (by kernel_rfl) rfl (fun _ _ _ h => h) (Or.inl ⟨by rfl, ?ya34⟩) (fun _ => by assumption) ?ra34
            case ya34 => (intro w _; go_simp; first | done | (with_reducible rfl) | (rw [if_neg (by omega)]))
            try simp only [Act.put, List.setIfInBounds_toArray, List.set_cons_zero, List.set_cons_succ]
            refine takeW (i := 1) (oi := { dst := some 89, op := Op.move (Operand.tmp 17), type := 50, pos := "swiss.go:178", after := #[{ on := 20, ground := Ground.gcOnly Departure.lateStores }], guard := none }) (v := ?va35) rfl (by kernel_rfl) (by kernel_rfl) (by kernel_rfl) rfl (fun _ _ _ h => h) (Or.inl ⟨by rfl, ?ya35⟩) (fun _ => by assumption) ?ra35
            case ya35 => (intro w _; go_simp; first | done | (with_reducible rfl) | (rw [if_neg (by omega)]))
            try simp only [Act.put, List.setIfInBounds_toArray, List.set_cons_zero, List.set_cons_succ]
            refine takeW (i := 2) (oi := { dst := some 90, op := Op.move (Operand.tmp 16), type := 50, pos := "swiss.go:178", after := #[], guard := none }) (v := ?va36) rfl (by kernel_rfl) (by kernel_rfl) (by kernel_rfl) rfl (fun _ _ _ h => h) (Or.inl ⟨by rfl, ?ya36⟩) (fun _ => by assumption) ?ra36
            case ya36 => (intro w _; go_simp; first | done | (with_reducible rfl) | (rw [if_neg (by omega)]))
            try simp only [Act.put, List.setIfInBounds_toArray, List.set_cons_zero, List.set_cons_succ]
            refine takeW (i := 6) (oi := { dst := some 94, op := Op.fieldAddr 30 (Operand.tmp 15) 1, type := 0, pos := "swiss.go:178", after := #[], guard := none }) (v := ?va37) rfl (by kernel_rfl) (by kernel_rfl) (by kernel_rfl) rfl (fun _ _ _ h => h) (Or.inl ⟨by rfl, ?ya37⟩) (fun _ => by assumption) ?ra37
            case ya37 => (intro w _; go_simp; first | done | (with_reducible rfl) | (rw [if_neg (by omega)]))
            try simp only [Act.put, List.setIfInBounds_toArray, List.set_cons_zero, List.set_cons_succ]
            refine takeW (i := 10) (oi := { dst := some 98, op := Op.move (Operand.tmp 17), type := 50, pos := "swiss.go:178", after := #[], guard := none }) (v := ?va38) rfl (by kernel_rfl) (by kernel_rfl) (by kernel_rfl) rfl (fun _ _ _ h => h) (Or.inl ⟨by rfl, ?ya38⟩) (fun _ => by assumption) ?ra38
            case ya38 => (intro w _; go_simp; first | done | (with_reducible rfl) | (rw [if_neg (by omega)]))
            try simp only [Act.put, List.setIfInBounds_toArray, List.set_cons_zero, List.set_cons_succ]
            refine takeW (i := 14) (oi := { dst := some 102, op := Op.fieldAddr 30 (Operand.tmp 15) 0, type := 0, pos := "swiss.go:178", after := #[], guard := none }) (v := ?va39) rfl (by kernel_rfl) (by kernel_rfl) (by kernel_rfl) rfl (fun _ _ _ h => h) (Or.inl ⟨by rfl, ?ya39⟩) (fun _ => by assumption) ?ra39
            case ya39 => (intro w _; go_simp; first | done | (with_reducible rfl) | (rw [if_neg (by omega)]))
            try simp only [Act.put, List.setIfInBounds_toArray, List.set_cons_zero, List.set_cons_succ]
            refine takeW (i := 3) (oi := { dst := some 91, op := Op.nilCheck (Operand.tmp 90), type := 0, pos := "swiss.go:178", after := #[{ on := 2, ground := Ground.data }], guard := none }) (v := ?va40) rfl (by kernel_rfl) (by kernel_rfl) (by kernel_rfl) rfl (fun _ _ _ h => h) (Or.inl ⟨by rfl, ?ya40⟩) (fun _ => by assumption) ?ra40
            case ya40 => (intro w _; go_simp; first | done | (with_reducible rfl) | (rw [if_neg (by omega)]))
            try simp only [Act.put, List.setIfInBounds_toArray, List.set_cons_zero, List.set_cons_succ]
            refine takeL (i := 7) (oi := { dst := some 95, op := Op.load 3 (Operand.tmp 94), type := 3, pos := "swiss.go:178", after := #[{ on := 6, ground := Ground.data }], guard := none }) (v := ?va41) rfl (by kernel_rfl) (by kernel_rfl) (by kernel_rfl) (by kernel_rfl) rfl (by kernel_rfl) (by kernel_rfl) (fun _ _ _ h => h) (Or.inl ⟨by rfl, ?ya41⟩) (by assumption) ?ra41
            case ya41 => (intro w hSw; (try dsimp only at hSw); go_simp; first | done | (with_reducible rfl))
            try simp only [Act.put, List.setIfInBounds_toArray, List.set_cons_zero, List.set_cons_succ]
            refine takeW (i := 11) (oi := { dst := some 99, op := Op.nilCheck (Operand.tmp 98), type := 0, pos := "swiss.go:178", after := #[{ on := 10, ground := Ground.data }], guard := none }) (v := ?va42) rfl (by kernel_rfl) (by kernel_rfl) (by kernel_rfl) rfl (fun _ _ _ h => h) (Or.inl ⟨by rfl, ?ya42⟩) (fun _ => by assumption) ?ra42
            case ya42 => (intro w _; go_simp; first | done | (with_reducible rfl) | (rw [if_neg (by omega)]))
            try simp only [Act.put, List.setIfInBounds_toArray, List.set_cons_zero, List.set_cons_succ]
            refine takeL (i := 15) (oi := { dst := some 103, op := Op.load 3 (Operand.tmp 102), type := 3, pos := "swiss.go:178", after := #[{ on := 14, ground := Ground.data }], guard := none }) (v := ?va43) rfl (by kernel_rfl) (by kernel_rfl) (by kernel_rfl) (by kernel_rfl) rfl (by kernel_rfl) (by kernel_rfl) (fun _ _ _ h => h) (Or.inl ⟨by rfl, ?ya43⟩) (by assumption) ?ra43
            case ya43 => (intro w hSw; (try dsimp only at hSw); go_simp; first | done | (with_reducible rfl))
            try simp only [Act.put, List.setIfInBounds_toArray, List.set_cons_zero, List.set_cons_succ]
            refine takeW (i := 4) (oi := { dst := some 92, op := Op.fieldAddr 32 (Operand.tmp 91) 1, type := 0, pos := "swiss.go:178", after := #[{ on := 3, ground := Ground.data }], guard := none }) (v := ?va44) rfl (by kernel_rfl) (by kernel_rfl) (by kernel_rfl) rfl (fun _ _ _ h => h) (Or.inl ⟨by rfl, ?ya44⟩) (fun _ => by assumption) ?ra44
            case ya44 => (intro w _; go_simp; first | done | (with_reducible rfl) | (rw [if_neg (by omega)]))
            try simp only [Act.put, List.setIfInBounds_toArray, List.set_cons_zero, List.set_cons_succ]
            refine takeW (i := 12) (oi := { dst := some 100, op := Op.fieldAddr 32 (Operand.tmp 99) 1, type := 0, pos := "swiss.go:178", after := #[{ on := 11, ground := Ground.data }], guard := none }) (v := ?va45) rfl (by kernel_rfl) (by kernel_rfl) (by kernel_rfl) rfl (fun _ _ _ h => h) (Or.inl ⟨by rfl, ?ya45⟩) (fun _ => by assumption) ?ra45
            case ya45 => (intro w _; go_simp; first | done | (with_reducible rfl) | (rw [if_neg (by omega)]))
            try simp only [Act.put, List.setIfInBounds_toArray, List.set_cons_zero, List.set_cons_succ]
            refine takeL (i := 5) (oi := { dst := some 93, op := Op.load 28 (Operand.tmp 92), type := 28, pos := "swiss.go:178", after := #[{ on := 4, ground := Ground.data }], guard := none }) (v := ?va46) rfl (by kernel_rfl) (by kernel_rfl) (by kernel_rfl) (by kernel_rfl) rfl (by kernel_rfl) (by kernel_rfl) (fun _ _ _ h => h) (Or.inl ⟨by rfl, ?ya46⟩) (by assumption) ?ra46
            case ya46 => (intro w hSw; (try dsimp only at hSw); go_simp; first | done | (with_reducible rfl))
            try simp only [Act.put, List.setIfInBounds_toArray, List.set_cons_zero, List.set_cons_succ]
            refine takeL (i := 13) (oi := { dst := some 101, op := Op.load 28 (Operand.tmp 100), type := 28, pos := "swiss.go:178", after := #[{ on := 12, ground := Ground.data }], guard := none }) (v := ?va47) rfl (by kernel_rfl) (by kernel_rfl) (by kernel_rfl) (by kernel_rfl) rfl (by kernel_rfl) (by kernel_rfl) (fun _ _ _ h => h) (Or.inl ⟨by rfl, ?ya47⟩) (by assumption) ?ra47
            case ya47 => (intro w hSw; (try dsimp only at hSw); go_simp; first | done | (with_reducible rfl))
            try simp only [Act.put, List.setIfInBounds_toArray, List.set_cons_zero, List.set_cons_succ]
            refine readyL (rs := [8, 16]) (by kernel_rfl) (by simp) ?_
            refine (AllReadyL.cons (o := { dst := some 96, op := Op.buildSlice 28 1 #[(0, Operand.tmp 95)], type := 28, pos := "swiss.go:178", after := #[{ on := 7, ground := Ground.data }], guard := none }) rfl (fun K hK => ?_) (AllReadyL.cons (o := { dst := some 104, op := Op.buildSlice 28 1 #[(0, Operand.tmp 103)], type := 28, pos := "swiss.go:178", after := #[{ on := 15, ground := Ground.data }], guard := none }) rfl (fun K hK => ?_) AllReadyL.nil))
            · skip
              go_simp
              refine K_world ?_
              intro y8 e8
              have BP8 : Box y8 pb [.int .i64 (i : Int), .int .i64 (j : Int)] 30 := by rw [e8]; exact BP0.alloc _
              have CL8 : Cells y8 ob ps.length (pl2 f i j rk) v := by rw [e8]; exact CL0.stays ((Below.refl _ _).alloc (Nat.le_refl _) _)
              have RW8 : Opps bb y8 [w18.drew.heap.size, pb, ob] ps.length v (fun z => (f z).opp) := by rw [e8]; exact RW0.fresh _
              have LB8 : Below bb w2 y8 := by rw [e8]; exact LB0.alloc BL0 _
              have N8 : Box y8 w18.drew.heap.size [.int .i64 (j : Int)] 3 := by rw [e8]; exact Box.new w18.drew _ _
              have BL8 : bb ≤ y8.heap.size := by have := LB8.size; omega
              clear e8
              refine hK.out _ _ ⟨BP8.cell 0 rfl, BP8.cell 1 rfl, (by have := CL8.c1 i hin; rw [HVI.out] at this; exact this), (by have := CL8.c1 j hjn; rw [HVJ.out] at this; exact this)⟩ (fun hHeld => ?_)
              clear hK K
              try simp only [Act.put, List.setIfInBounds_toArray, List.set_cons_zero, List.set_cons_succ]
              refine readyL (rs := [9, 16]) (by kernel_rfl) (by simp) ?_
              refine (AllReadyL.cons (o := { dst := some 97, op := Op.call { callee := Callee.builtin Builtin.append, args := #[Operand.tmp 93, Operand.tmp 96], argTypes := #[28, 28] }, type := 28, pos := "swiss.go:178", after := #[{ on := 5, ground := Ground.data }, { on := 8, ground := Ground.data }], guard := none }) rfl (fun K hK => ?_) (AllReadyL.cons (o := { dst := some 104, op := Op.buildSlice 28 1 #[(0, Operand.tmp 103)], type := 28, pos := "swiss.go:178", after := #[{ on := 15, ground := Ground.data }], guard := none }) rfl (fun K hK => ?_) AllReadyL.nil))
              · skip
                rw [if_pos (by rfl)]
                have OW9 : y8.ownsRow bb 3 1 (.slice ai (f i).opp.length ci) (f i).opp.length (ints (f i).opp) := RW8.at i hin HVI.out rfl
                refine wp_append_lies _ _ _ 28 rfl bb 3 i0 (.int .i64 0) 1 8 Try.underlying28 HI.out HZ0.out HZ1.out HZ2.out rfl (by decide) (.slice ai (f i).opp.length ci) (f i).opp.length (ints (f i).opp) rfl OW9 ⟨w18.drew.heap.size, 0, none⟩ 1 1 [.int .i64 (j : Int)] rfl rfl (src_box N8) one_int (by decide) (by unfold maxLen; omega) (by omega) BL8 y8.heap.size rfl ?_
                intro g9 c9 y9 ho9 hg9 hq9 hl9
                have BP9 := BP8.grown hg9 (RW8.ne i hin HVI.out (by simp))
                have CL9 := CL8.kept hg9 (RW8.ne i hin HVI.out (by simp))
                have RW9 : Opps bb y9 [w18.drew.heap.size, pb, ob] ps.length (setF v i (.slice (some ⟨g9, 0, none⟩) ((f i).opp.length + 1) c9)) (setF (fun z => (f z).opp) i ((f i).opp ++ [(j : Int)])) := RW8.app2 i hin HVI.out rfl ho9 hg9 hq9
                have LB9 := Below.grown LB8 hg9 BL8 (fun q hq => (OW9.lt q hq).1)
                have BL9 : bb ≤ y9.heap.size := by have := LB9.size; omega
                clear ho9 hg9 hq9 hl9 OW9
                refine hK.out _ _ ⟨BP9.cell 0 rfl, BP9.cell 1 rfl, (by have := CL9.c1 i hin; rw [HVI.out] at this; exact this), (by have := CL9.c1 j hjn; rw [HVJ.out] at this; exact this)⟩ (fun hHeld => ?_)
                clear hK K
                try simp only [Act.put, List.setIfInBounds_toArray, List.set_cons_zero, List.set_cons_succ]
                refine readyL (rs := [16]) (by kernel_rfl) (by simp) ?_
                refine (AllReadyL.cons (o := { dst := some 104, op := Op.buildSlice 28 1 #[(0, Operand.tmp 103)], type := 28, pos := "swiss.go:178", after := #[{ on := 15, ground := Ground.data }], guard := none }) rfl (fun K hK => ?_) AllReadyL.nil)
                go_simp
                refine K_world ?_
                intro y16 e16
                have BP16 : Box y16 pb [.int .i64 (i : Int), .int .i64 (j : Int)] 30 := by rw [e16]; exact BP9.alloc _
                have CL16 : Cells y16 ob ps.length (pl2 f i j rk) v := by rw [e16]; exact CL9.stays ((Below.refl _ _).alloc (Nat.le_refl _) _)
                have RW16 : Opps bb y16 [y9.heap.size, w18.drew.heap.size, pb, ob] ps.length (setF v i (.slice (some ⟨g9, 0, none⟩) ((f i).opp.length + 1) c9)) (setF (fun z => (f z).opp) i ((f i).opp ++ [(j : Int)])) := by rw [e16]; exact RW9.fresh _
                have LB16 : Below bb w2 y16 := by rw [e16]; exact LB9.alloc BL9 _
                have N16 : Box y16 y9.heap.size [.int .i64 (i : Int)] 3 := by rw [e16]; exact Box.new y9 _ _
                have BL16 : bb ≤ y16.heap.size := by have := LB16.size; omega
                clear e16
                refine hK.out _ _ ⟨BP16.cell 0 rfl, BP16.cell 1 rfl, (by have := CL16.c1 i hin; rw [HVI.out] at this; exact this), (by have := CL16.c1 j hjn; rw [HVJ.out] at this; exact this)⟩ (fun hHeld => ?_)
                clear hK K
                try simp only [Act.put, List.setIfInBounds_toArray, List.set_cons_zero, List.set_cons_succ]
                refine readyL (rs := [17]) (by kernel_rfl) (by simp) ?_
                refine (AllReadyL.cons (o := { dst := some 105, op := Op.call { callee := Callee.builtin Builtin.append, args := #[Operand.tmp 101, Operand.tmp 104], argTypes := #[28, 28] }, type := 28, pos := "swiss.go:178", after := #[{ on := 13, ground := Ground.data }, { on := 16, ground := Ground.data }, { on := 9, ground := Ground.chain }], guard := none }) rfl (fun K hK => ?_) AllReadyL.nil)
                rw [if_pos (by rfl)]
                have OW17 : y16.ownsRow bb 3 1 (.slice aj (f j).opp.length cj) (f j).opp.length (ints (f j).opp) := RW16.at j hjn ((setF_other _ _ hji).trans HVJ.out) (setF_other _ _ hji)
                refine wp_append_lies _ _ _ 28 rfl bb 3 i0 (.int .i64 0) 1 8 Try.underlying28 HI.out HZ0.out HZ1.out HZ2.out rfl (by decide) (.slice aj (f j).opp.length cj) (f j).opp.length (ints (f j).opp) rfl OW17 ⟨y9.heap.size, 0, none⟩ 1 1 [.int .i64 (i : Int)] rfl rfl (src_box N16) one_int (by decide) (by unfold maxLen; omega) (by omega) BL16 y16.heap.size rfl ?_
                intro g17 c17 y17 ho17 hg17 hq17 hl17
                have BP17 := BP16.grown hg17 (RW16.ne j hjn ((setF_other _ _ hji).trans HVJ.out) (by simp))
                have CL17 := CL16.kept hg17 (RW16.ne j hjn ((setF_other _ _ hji).trans HVJ.out) (by simp))
                have RW17 : Opps bb y17 [y9.heap.size, w18.drew.heap.size, pb, ob] ps.length (setF (setF v i (.slice (some ⟨g9, 0, none⟩) ((f i).opp.length + 1) c9)) j (.slice (some ⟨g17, 0, none⟩) ((f j).opp.length + 1) c17)) (setF (setF (fun z => (f z).opp) i ((f i).opp ++ [(j : Int)])) j ((f j).opp ++ [(i : Int)])) := RW16.app2 j hjn ((setF_other _ _ hji).trans HVJ.out) (setF_other _ _ hji) ho17 hg17 hq17
                have LB17 := Below.grown LB16 hg17 BL16 (fun q hq => (OW17.lt q hq).1)
                have BL17 : bb ≤ y17.heap.size := by have := LB17.size; omega
                clear ho17 hg17 hq17 hl17 OW17
                refine hK.out _ _ ⟨BP17.cell 0 rfl, BP17.cell 1 rfl, (by have := CL17.c1 i hin; rw [HVI.out] at this; exact this), (by have := CL17.c1 j hjn; rw [HVJ.out] at this; exact this)⟩ (fun hHeld => ?_)
                clear hK K
                try simp only [Act.put, List.setIfInBounds_toArray, List.set_cons_zero, List.set_cons_succ]
                refine takeW (i := 18) (oi := { dst := some 106, op := Op.nilCheck (Operand.tmp 88), type := 0, pos := "swiss.go:178", after := #[{ on := 0, ground := Ground.data }, { on := 0, ground := Ground.phase }, { on := 1, ground := Ground.textOnly Departure.lateStores }, { on := 2, ground := Ground.phase }, { on := 3, ground := Ground.phase }, { on := 4, ground := Ground.phase }, { on := 5, ground := Ground.phase }, { on := 6, ground := Ground.phase }, { on := 7, ground := Ground.phase }, { on := 8, ground := Ground.phase }, { on := 9, ground := Ground.phase }, { on := 10, ground := Ground.textOnly Departure.lateStores }, { on := 11, ground := Ground.textOnly Departure.lateStoresUnsure }, { on := 12, ground := Ground.textOnly Departure.lateStoresUnsure }, { on := 13, ground := Ground.phase }, { on := 14, ground := Ground.textOnly Departure.lateStores }, { on := 15, ground := Ground.textOnly Departure.lateStores }, { on := 16, ground := Ground.textOnly Departure.lateStoresUnsure }, { on := 17, ground := Ground.phase }], guard := none }) (v := ?va48) rfl (by kernel_rfl) (by kernel_rfl) (by kernel_rfl) rfl (fun _ _ _ h => h) (Or.inl ⟨by rfl, ?ya48⟩) (fun _ => by assumption) ?ra48
                case ya48 => (intro w _; go_simp; first | done | (with_reducible rfl) | (rw [if_neg (by omega)]))
                try simp only [Act.put, List.setIfInBounds_toArray, List.set_cons_zero, List.set_cons_succ]
                refine takeW (i := 19) (oi := { dst := some 107, op := Op.fieldAddr 32 (Operand.tmp 106) 1, type := 0, pos := "swiss.go:178", after := #[{ on := 18, ground := Ground.data }, { on := 0, ground := Ground.phase }, { on := 1, ground := Ground.textOnly Departure.lateStores }, { on := 2, ground := Ground.phase }, { on := 3, ground := Ground.phase }, { on := 4, ground := Ground.phase }, { on := 5, ground := Ground.phase }, { on := 6, ground := Ground.phase }, { on := 7, ground := Ground.phase }, { on := 8, ground := Ground.phase }, { on := 9, ground := Ground.phase }, { on := 10, ground := Ground.textOnly Departure.lateStores }, { on := 11, ground := Ground.textOnly Departure.lateStoresUnsure }, { on := 12, ground := Ground.textOnly Departure.lateStoresUnsure }, { on := 13, ground := Ground.phase }, { on := 14, ground := Ground.textOnly Departure.lateStores }, { on := 15, ground := Ground.textOnly Departure.lateStores }, { on := 16, ground := Ground.textOnly Departure.lateStoresUnsure }, { on := 17, ground := Ground.phase }], guard := none }) (v := ?va49) rfl (by kernel_rfl) (by kernel_rfl) (by kernel_rfl) rfl (fun _ _ _ h => h) (Or.inl ⟨by rfl, ?ya49⟩) (fun _ => by assumption) ?ra49
                case ya49 => (intro w _; go_simp; first | done | (with_reducible rfl) | (rw [if_neg (by omega)]))
                try simp only [Act.put, List.setIfInBounds_toArray, List.set_cons_zero, List.set_cons_succ]
                refine readyL (rs := [20]) (by kernel_rfl) (by simp) ?_
                refine (AllReadyL.late (o := { dst := none, op := Op.store 28 (Operand.tmp 107) (Operand.tmp 97), type := 0, pos := "swiss.go:178", after := #[{ on := 19, ground := Ground.data }, { on := 9, ground := Ground.data }, { on := 17, ground := Ground.chain }, { on := 0, ground := Ground.phase }, { on := 1, ground := Ground.textOnly Departure.lateStores }, { on := 2, ground := Ground.phase }, { on := 3, ground := Ground.phase }, { on := 4, ground := Ground.phase }, { on := 5, ground := Ground.phase }, { on := 6, ground := Ground.phase }, { on := 7, ground := Ground.phase }, { on := 8, ground := Ground.phase }, { on := 9, ground := Ground.phase }, { on := 10, ground := Ground.textOnly Departure.lateStores }, { on := 11, ground := Ground.textOnly Departure.lateStoresUnsure }, { on := 12, ground := Ground.textOnly Departure.lateStoresUnsure }, { on := 13, ground := Ground.phase }, { on := 14, ground := Ground.textOnly Departure.lateStores }, { on := 15, ground := Ground.textOnly Departure.lateStores }, { on := 16, ground := Ground.textOnly Departure.lateStoresUnsure }, { on := 17, ground := Ground.phase }], guard := none }) rfl (by kernel_rfl) (fun K hK => ?_) AllReadyL.nil)
                have d1 := CL17.c1 i hin
                have d1f := CL17.fr (i * 4 + 1)
                go_simp
                refine K_world ?_
                intro y20 e20
                have CL20 : Cells y20 ob ps.length (pl3 f i j rk) (setF v i (.slice (some ⟨g9, 0, none⟩) ((f i).opp.length + 1) c9)) := by rw [e20]; exact CL17.opp i hin _ _
                have RW20 : Opps bb y20 [y9.heap.size, w18.drew.heap.size, pb, ob] ps.length (setF (setF v i (.slice (some ⟨g9, 0, none⟩) ((f i).opp.length + 1) c9)) j (.slice (some ⟨g17, 0, none⟩) ((f j).opp.length + 1) c17)) (setF (setF (fun z => (f z).opp) i ((f i).opp ++ [(j : Int)])) j ((f j).opp ++ [(i : Int)])) := by rw [e20]; exact RW17.set ob (i * 4 + 1) (by simp) _
                have LB20 : Below bb w2 y20 := by rw [e20]; exact LB17.setCell (p := ⟨ob, i * 4 + 1, none⟩) (by exact hob) _
                clear e20 d1 d1f
                refine hK.out _ _ ?_
                clear hK K
                try simp only [Act.put, List.setIfInBounds_toArray, List.set_cons_zero, List.set_cons_succ]
                refine takeW (i := 21) (oi := { dst := some 108, op := Op.nilCheck (Operand.tmp 89), type := 0, pos := "swiss.go:178", after := #[{ on := 1, ground := Ground.data }, { on := 0, ground := Ground.phase }, { on := 1, ground := Ground.phase }, { on := 2, ground := Ground.phase }, { on := 3, ground := Ground.phase }, { on := 4, ground := Ground.phase }, { on := 5, ground := Ground.phase }, { on := 6, ground := Ground.phase }, { on := 7, ground := Ground.phase }, { on := 8, ground := Ground.phase }, { on := 9, ground := Ground.phase }, { on := 10, ground := Ground.phase }, { on := 11, ground := Ground.phase }, { on := 12, ground := Ground.phase }, { on := 13, ground := Ground.phase }, { on := 14, ground := Ground.phase }, { on := 15, ground := Ground.phase }, { on := 16, ground := Ground.phase }, { on := 17, ground := Ground.phase }, { on := 18, ground := Ground.phase }, { on := 19, ground := Ground.phase }, { on := 20, ground := Ground.phase }], guard := none }) (v := ?va50) rfl (by kernel_rfl) (by kernel_rfl) (by kernel_rfl) rfl (fun _ _ _ h => h) (Or.inl ⟨by rfl, ?ya50⟩) (fun he => by cases he) ?ra50
                case ya50 => (intro w _; go_simp; first | done | (with_reducible rfl) | (rw [if_neg (by omega)]))
                try simp only [Act.put, List.setIfInBounds_toArray, List.set_cons_zero, List.set_cons_succ]
                refine takeW (i := 22) (oi := { dst := some 109, op := Op.fieldAddr 32 (Operand.tmp 108) 1, type := 0, pos := "swiss.go:178", after := #[{ on := 21, ground := Ground.data }, { on := 0, ground := Ground.phase }, { on := 1, ground := Ground.phase }, { on := 2, ground := Ground.phase }, { on := 3, ground := Ground.phase }, { on := 4, ground := Ground.phase }, { on := 5, ground := Ground.phase }, { on := 6, ground := Ground.phase }, { on := 7, ground := Ground.phase }, { on := 8, ground := Ground.phase }, { on := 9, ground := Ground.phase }, { on := 10, ground := Ground.phase }, { on := 11, ground := Ground.phase }, { on := 12, ground := Ground.phase }, { on := 13, ground := Ground.phase }, { on := 14, ground := Ground.phase }, { on := 15, ground := Ground.phase }, { on := 16, ground := Ground.phase }, { on := 17, ground := Ground.phase }, { on := 18, ground := Ground.phase }, { on := 19, ground := Ground.phase }, { on := 20, ground := Ground.phase }], guard := none }) (v := ?va51) rfl (by kernel_rfl) (by kernel_rfl) (by kernel_rfl) rfl (fun _ _ _ h => h) (Or.inl ⟨by rfl, ?ya51⟩) (fun he => by cases he) ?ra51
                case ya51 => (intro w _; go_simp; first | done | (with_reducible rfl) | (rw [if_neg (by omega)]))
                try simp only [Act.put, List.setIfInBounds_toArray, List.set_cons_zero, List.set_cons_succ]
                refine readyL (rs := [23]) (by kernel_rfl) (by simp) ?_
                refine (AllReadyL.late (o := { dst := none, op := Op.store 28 (Operand.tmp 109) (Operand.tmp 105), type := 0, pos := "swiss.go:178", after := #[{ on := 22, ground := Ground.data }, { on := 17, ground := Ground.data }, { on := 20, ground := Ground.chain }, { on := 0, ground := Ground.phase }, { on := 1, ground := Ground.phase }, { on := 2, ground := Ground.phase }, { on := 3, ground := Ground.phase }, { on := 4, ground := Ground.phase }, { on := 5, ground := Ground.phase }, { on := 6, ground := Ground.phase }, { on := 7, ground := Ground.phase }, { on := 8, ground := Ground.phase }, { on := 9, ground := Ground.phase }, { on := 10, ground := Ground.phase }, { on := 11, ground := Ground.phase }, { on := 12, ground := Ground.phase }, { on := 13, ground := Ground.phase }, { on := 14, ground := Ground.phase }, { on := 15, ground := Ground.phase }, { on := 16, ground := Ground.phase }, { on := 17, ground := Ground.phase }, { on := 18, ground := Ground.phase }, { on := 19, ground := Ground.phase }, { on := 20, ground := Ground.phase }], guard := none }) rfl (by kernel_rfl) (fun K hK => ?_) AllReadyL.nil)
                have d1 := CL20.c1 j hjn
                have d1f := CL20.fr (j * 4 + 1)
                go_simp
                refine K_world ?_
                intro y23 e23
                have CL23 : Cells y23 ob ps.length (pl3b f i j rk) (setF (setF v i (.slice (some ⟨g9, 0, none⟩) ((f i).opp.length + 1) c9)) j (.slice (some ⟨g17, 0, none⟩) ((f j).opp.length + 1) c17)) := by rw [e23]; exact CL20.opp j hjn _ _
                have RW23 : Opps bb y23 [y9.heap.size, w18.drew.heap.size, pb, ob] ps.length (setF (setF v i (.slice (some ⟨g9, 0, none⟩) ((f i).opp.length + 1) c9)) j (.slice (some ⟨g17, 0, none⟩) ((f j).opp.length + 1) c17)) (setF (setF (fun z => (f z).opp) i ((f i).opp ++ [(j : Int)])) j ((f j).opp ++ [(i : Int)])) := by rw [e23]; exact RW20.set ob (j * 4 + 1) (by simp) _
                have LB23 : Below bb w2 y23 := by rw [e23]; exact LB20.setCell (p := ⟨ob, j * 4 + 1, none⟩) (by exact hob) _
                clear e23 d1 d1f
                refine hK.out _ _ ?_
                clear hK K
                try simp only [Act.put, List.setIfInBounds_toArray, List.set_cons_zero, List.set_cons_succ]
                refine doneL (by kernel_rfl) ?_ _
                refine NoPanic.normal ?_
                have HF1 := Lib.hid ((RW23.less (bs' := [ob]) (by simp)).to rfl (pl5_opp f i j rk hne))
                have HF2 := Lib.hid CL23
                have HF3 := Lib.hid LB23
                clear RW23 CL23 LB23 hHeld
                go_wp2_with fail
                go_meet
                exact ⟨_, _, _, rfl, HF2, HF1, HF3⟩
              · skip
                go_simp
                refine K_world ?_
                intro y16 e16
                have BP16 : Box y16 pb [.int .i64 (i : Int), .int .i64 (j : Int)] 30 := by rw [e16]; exact BP8.alloc _
                have CL16 : Cells y16 ob ps.length (pl2 f i j rk) v := by rw [e16]; exact CL8.stays ((Below.refl _ _).alloc (Nat.le_refl _) _)
                have RW16 : Opps bb y16 [y8.heap.size, w18.drew.heap.size, pb, ob] ps.length v (fun z => (f z).opp) := by rw [e16]; exact RW8.fresh _
                have LB16 : Below bb w2 y16 := by rw [e16]; exact LB8.alloc BL8 _
                have N16 : Box y16 y8.heap.size [.int .i64 (i : Int)] 3 := by rw [e16]; exact Box.new y8 _ _
                have N8_16 : Box y16 w18.drew.heap.size [.int .i64 (j : Int)] 3 := by rw [e16]; exact N8.alloc _
                have BL16 : bb ≤ y16.heap.size := by have := LB16.size; omega
                clear e16
                refine hK.out _ _ ⟨BP16.cell 0 rfl, BP16.cell 1 rfl, (by have := CL16.c1 i hin; rw [HVI.out] at this; exact this), (by have := CL16.c1 j hjn; rw [HVJ.out] at this; exact this)⟩ (fun hHeld => ?_)
                clear hK K
                try simp only [Act.put, List.setIfInBounds_toArray, List.set_cons_zero, List.set_cons_succ]
                refine readyL (rs := [9]) (by kernel_rfl) (by simp) ?_
                refine (AllReadyL.cons (o := { dst := some 97, op := Op.call { callee := Callee.builtin Builtin.append, args := #[Operand.tmp 93, Operand.tmp 96], argTypes := #[28, 28] }, type := 28, pos := "swiss.go:178", after := #[{ on := 5, ground := Ground.data }, { on := 8, ground := Ground.data }], guard := none }) rfl (fun K hK => ?_) AllReadyL.nil)
                rw [if_pos (by rfl)]
                have OW9 : y16.ownsRow bb 3 1 (.slice ai (f i).opp.length ci) (f i).opp.length (ints (f i).opp) := RW16.at i hin HVI.out rfl
                refine wp_append_lies _ _ _ 28 rfl bb 3 i0 (.int .i64 0) 1 8 Try.underlying28 HI.out HZ0.out HZ1.out HZ2.out rfl (by decide) (.slice ai (f i).opp.length ci) (f i).opp.length (ints (f i).opp) rfl OW9 ⟨w18.drew.heap.size, 0, none⟩ 1 1 [.int .i64 (j : Int)] rfl rfl (src_box N8_16) one_int (by decide) (by unfold maxLen; omega) (by omega) BL16 y16.heap.size rfl ?_
                intro g9 c9 y9 ho9 hg9 hq9 hl9
                have BP9 := BP16.grown hg9 (RW16.ne i hin HVI.out (by simp))
                have CL9 := CL16.kept hg9 (RW16.ne i hin HVI.out (by simp))
                have RW9 : Opps bb y9 [y8.heap.size, w18.drew.heap.size, pb, ob] ps.length (setF v i (.slice (some ⟨g9, 0, none⟩) ((f i).opp.length + 1) c9)) (setF (fun z => (f z).opp) i ((f i).opp ++ [(j : Int)])) := RW16.app2 i hin HVI.out rfl ho9 hg9 hq9
                have LB9 := Below.grown LB16 hg9 BL16 (fun q hq => (OW9.lt q hq).1)
                have N16_9 := N16.grown hg9 (RW16.ne i hin HVI.out (by simp))
                have BL9 : bb ≤ y9.heap.size := by have := LB9.size; omega
                clear ho9 hg9 hq9 hl9 OW9
                refine hK.out _ _ ⟨BP9.cell 0 rfl, BP9.cell 1 rfl, (by have := CL9.c1 i hin; rw [HVI.out] at this; exact this), (by have := CL9.c1 j hjn; rw [HVJ.out] at this; exact this)⟩ (fun hHeld => ?_)
                clear hK K
                try simp only [Act.put, List.setIfInBounds_toArray, List.set_cons_zero, List.set_cons_succ]
                refine readyL (rs := [17]) (by kernel_rfl) (by simp) ?_
                refine (AllReadyL.cons (o := { dst := some 105, op := Op.call { callee := Callee.builtin Builtin.append, args := #[Operand.tmp 101, Operand.tmp 104], argTypes := #[28, 28] }, type := 28, pos := "swiss.go:178", after := #[{ on := 13, ground := Ground.data }, { on := 16, ground := Ground.data }, { on := 9, ground := Ground.chain }], guard := none }) rfl (fun K hK => ?_) AllReadyL.nil)
                rw [if_pos (by rfl)]
                have OW17 : y9.ownsRow bb 3 1 (.slice aj (f j).opp.length cj) (f j).opp.length (ints (f j).opp) := RW9.at j hjn ((setF_other _ _ hji).trans HVJ.out) (setF_other _ _ hji)
                refine wp_append_lies _ _ _ 28 rfl bb 3 i0 (.int .i64 0) 1 8 Try.underlying28 HI.out HZ0.out HZ1.out HZ2.out rfl (by decide) (.slice aj (f j).opp.length cj) (f j).opp.length (ints (f j).opp) rfl OW17 ⟨y8.heap.size, 0, none⟩ 1 1 [.int .i64 (i : Int)] rfl rfl (src_box N16_9) one_int (by decide) (by unfold maxLen; omega) (by omega) BL9 y9.heap.size rfl ?_
                intro g17 c17 y17 ho17 hg17 hq17 hl17
                have BP17 := BP9.grown hg17 (RW9.ne j hjn ((setF_other _ _ hji).trans HVJ.out) (by simp))
                have CL17 := CL9.kept hg17 (RW9.ne j hjn ((setF_other _ _ hji).trans HVJ.out) (by simp))
                have RW17 : Opps bb y17 [y8.heap.size, w18.drew.heap.size, pb, ob] ps.length (setF (setF v i (.slice (some ⟨g9, 0, none⟩) ((f i).opp.length + 1) c9)) j (.slice (some ⟨g17, 0, none⟩) ((f j).opp.length + 1) c17)) (setF (setF (fun z => (f z).opp) i ((f i).opp ++ [(j : Int)])) j ((f j).opp ++ [(i : Int)])) := RW9.app2 j hjn ((setF_other _ _ hji).trans HVJ.out) (setF_other _ _ hji) ho17 hg17 hq17
                have LB17 := Below.grown LB9 hg17 BL9 (fun q hq => (OW17.lt q hq).1)
                have BL17 : bb ≤ y17.heap.size := by have := LB17.size; omega
                clear ho17 hg17 hq17 hl17 OW17
                refine hK.out _ _ ⟨BP17.cell 0 rfl, BP17.cell 1 rfl, (by have := CL17.c1 i hin; rw [HVI.out] at this; exact this), (by have := CL17.c1 j hjn; rw [HVJ.out] at this; exact this)⟩ (fun hHeld => ?_)
                clear hK K
                try simp only [Act.put, List.setIfInBounds_toArray, List.set_cons_zero, List.set_cons_succ]
                refine takeW (i := 18) (oi := { dst := some 106, op := Op.nilCheck (Operand.tmp 88), type := 0, pos := "swiss.go:178", after := #[{ on := 0, ground := Ground.data }, { on := 0, ground := Ground.phase }, { on := 1, ground := Ground.textOnly Departure.lateStores }, { on := 2, ground := Ground.phase }, { on := 3, ground := Ground.phase }, { on := 4, ground := Ground.phase }, { on := 5, ground := Ground.phase }, { on := 6, ground := Ground.phase }, { on := 7, ground := Ground.phase }, { on := 8, ground := Ground.phase }, { on := 9, ground := Ground.phase }, { on := 10, ground := Ground.textOnly Departure.lateStores }, { on := 11, ground := Ground.textOnly Departure.lateStoresUnsure }, { on := 12, ground := Ground.textOnly Departure.lateStoresUnsure }, { on := 13, ground := Ground.phase }, { on := 14, ground := Ground.textOnly Departure.lateStores }, { on := 15, ground := Ground.textOnly Departure.lateStores }, { on := 16, ground := Ground.textOnly Departure.lateStoresUnsure }, { on := 17, ground := Ground.phase }], guard := none }) (v := ?va52) rfl (by kernel_rfl) (by kernel_rfl) (by kernel_rfl) rfl (fun _ _ _ h => h) (Or.inl ⟨by rfl, ?ya52⟩) (fun _ => by assumption) ?ra52
                case ya52 => (intro w _; go_simp; first | done | (with_reducible rfl) | (rw [if_neg (by omega)]))
                try simp only [Act.put, List.setIfInBounds_toArray, List.set_cons_zero, List.set_cons_succ]
                refine takeW (i := 19) (oi := { dst := some 107, op := Op.fieldAddr 32 (Operand.tmp 106) 1, type := 0, pos := "swiss.go:178", after := #[{ on := 18, ground := Ground.data }, { on := 0, ground := Ground.phase }, { on := 1, ground := Ground.textOnly Departure.lateStores }, { on := 2, ground := Ground.phase }, { on := 3, ground := Ground.phase }, { on := 4, ground := Ground.phase }, { on := 5, ground := Ground.phase }, { on := 6, ground := Ground.phase }, { on := 7, ground := Ground.phase }, { on := 8, ground := Ground.phase }, { on := 9, ground := Ground.phase }, { on := 10, ground := Ground.textOnly Departure.lateStores }, { on := 11, ground := Ground.textOnly Departure.lateStoresUnsure }, { on := 12, ground := Ground.textOnly Departure.lateStoresUnsure }, { on := 13, ground := Ground.phase }, { on := 14, ground := Ground.textOnly Departure.lateStores }, { on := 15, ground := Ground.textOnly Departure.lateStores }, { on := 16, ground := Ground.textOnly Departure.lateStoresUnsure }, { on := 17, ground := Ground.phase }], guard := none }) (v := ?va53) rfl (by kernel_rfl) (by kernel_rfl) (by kernel_rfl) rfl (fun _ _ _ h => h) (Or.inl ⟨by rfl, ?ya53⟩) (fun _ => by assumption) ?ra53
                case ya53 => (intro w _; go_simp; first | done | (with_reducible rfl) | (rw [if_neg (by omega)]))
                try simp only [Act.put, List.setIfInBounds_toArray, List.set_cons_zero, List.set_cons_succ]
                refine readyL (rs := [20]) (by kernel_rfl) (by simp) ?_
                refine (AllReadyL.late (o := { dst := none, op := Op.store 28 (Operand.tmp 107) (Operand.tmp 97), type := 0, pos := "swiss.go:178", after := #[{ on := 19, ground := Ground.data }, { on := 9, ground := Ground.data }, { on := 17, ground := Ground.chain }, { on := 0, ground := Ground.phase }, { on := 1, ground := Ground.textOnly Departure.lateStores }, { on := 2, ground := Ground.phase }, { on := 3, ground := Ground.phase }, { on := 4, ground := Ground.phase }, { on := 5, ground := Ground.phase }, { on := 6, ground := Ground.phase }, { on := 7, ground := Ground.phase }, { on := 8, ground := Ground.phase }, { on := 9, ground := Ground.phase }, { on := 10, ground := Ground.textOnly Departure.lateStores }, { on := 11, ground := Ground.textOnly Departure.lateStoresUnsure }, { on := 12, ground := Ground.textOnly Departure.lateStoresUnsure }, { on := 13, ground := Ground.phase }, { on := 14, ground := Ground.textOnly Departure.lateStores }, { on := 15, ground := Ground.textOnly Departure.lateStores }, { on := 16, ground := Ground.textOnly Departure.lateStoresUnsure }, { on := 17, ground := Ground.phase }], guard := none }) rfl (by kernel_rfl) (fun K hK => ?_) AllReadyL.nil)
                have d1 := CL17.c1 i hin
                have d1f := CL17.fr (i * 4 + 1)
                go_simp
                refine K_world ?_
                intro y20 e20
                have CL20 : Cells y20 ob ps.length (pl3 f i j rk) (setF v i (.slice (some ⟨g9, 0, none⟩) ((f i).opp.length + 1) c9)) := by rw [e20]; exact CL17.opp i hin _ _
                have RW20 : Opps bb y20 [y8.heap.size, w18.drew.heap.size, pb, ob] ps.length (setF (setF v i (.slice (some ⟨g9, 0, none⟩) ((f i).opp.length + 1) c9)) j (.slice (some ⟨g17, 0, none⟩) ((f j).opp.length + 1) c17)) (setF (setF (fun z => (f z).opp) i ((f i).opp ++ [(j : Int)])) j ((f j).opp ++ [(i : Int)])) := by rw [e20]; exact RW17.set ob (i * 4 + 1) (by simp) _
                have LB20 : Below bb w2 y20 := by rw [e20]; exact LB17.setCell (p := ⟨ob, i * 4 + 1, none⟩) (by exact hob) _
                clear e20 d1 d1f
                refine hK.out _ _ ?_
                clear hK K
                try simp only [Act.put, List.setIfInBounds_toArray, List.set_cons_zero, List.set_cons_succ]
                refine takeW (i := 21) (oi := { dst := some 108, op := Op.nilCheck (Operand.tmp 89), type := 0, pos := "swiss.go:178", after := #[{ on := 1, ground := Ground.data }, { on := 0, ground := Ground.phase }, { on := 1, ground := Ground.phase }, { on := 2, ground := Ground.phase }, { on := 3, ground := Ground.phase }, { on := 4, ground := Ground.phase }, { on := 5, ground := Ground.phase }, { on := 6, ground := Ground.phase }, { on := 7, ground := Ground.phase }, { on := 8, ground := Ground.phase }, { on := 9, ground := Ground.phase }, { on := 10, ground := Ground.phase }, { on := 11, ground := Ground.phase }, { on := 12, ground := Ground.phase }, { on := 13, ground := Ground.phase }, { on := 14, ground := Ground.phase }, { on := 15, ground := Ground.phase }, { on := 16, ground := Ground.phase }, { on := 17, ground := Ground.phase }, { on := 18, ground := Ground.phase }, { on := 19, ground := Ground.phase }, { on := 20, ground := Ground.phase }], guard := none }) (v := ?va54) rfl (by kernel_rfl) (by kernel_rfl) (by kernel_rfl) rfl (fun _ _ _ h => h) (Or.inl ⟨by rfl, ?ya54⟩) (fun he => by cases he) ?ra54
                case ya54 => (intro w _; go_simp; first | done | (with_reducible rfl) | (rw [if_neg (by omega)]))
                try simp only [Act.put, List.setIfInBounds_toArray, List.set_cons_zero, List.set_cons_succ]
                refine takeW (i := 22) (oi := { dst := some 109, op := Op.fieldAddr 32 (Operand.tmp 108) 1, type := 0, pos := "swiss.go:178", after := #[{ on := 21, ground := Ground.data }, { on := 0, ground := Ground.phase }, { on := 1, ground := Ground.phase }, { on := 2, ground := Ground.phase }, { on := 3, ground := Ground.phase }, { on := 4, ground := Ground.phase }, { on := 5, ground := Ground.phase }, { on := 6, ground := Ground.phase }, { on := 7, ground := Ground.phase }, { on := 8, ground := Ground.phase }, { on := 9, ground := Ground.phase }, { on := 10, ground := Ground.phase }, { on := 11, ground := Ground.phase }, { on := 12, ground := Ground.phase }, { on := 13, ground := Ground.phase }, { on := 14, ground := Ground.phase }, { on := 15, ground := Ground.phase }, { on := 16, ground := Ground.phase }, { on := 17, ground := Ground.phase }, { on := 18, ground := Ground.phase }, { on := 19, ground := Ground.phase }, { on := 20, ground := Ground.phase }], guard := none }) (v := ?va55) rfl (by kernel_rfl) (by kernel_rfl) (by kernel_rfl) rfl (fun _ _ _ h => h) (Or.inl ⟨by rfl, ?ya55⟩) (fun he => by cases he) ?ra55
                case ya55 => (intro w _; go_simp; first | done | (with_reducible rfl) | (rw [if_neg (by omega)]))
                try simp only [Act.put, List.setIfInBounds_toArray, List.set_cons_zero, List.set_cons_succ]
                refine readyL (rs := [23]) (by kernel_rfl) (by simp) ?_
                refine (AllReadyL.late (o := { dst := none, op := Op.store 28 (Operand.tmp 109) (Operand.tmp 105), type := 0, pos := "swiss.go:178", after := #[{ on := 22, ground := Ground.data }, { on := 17, ground := Ground.data }, { on := 20, ground := Ground.chain }, { on := 0, ground := Ground.phase }, { on := 1, ground := Ground.phase }, { on := 2, ground := Ground.phase }, { on := 3, ground := Ground.phase }, { on := 4, ground := Ground.phase }, { on := 5, ground := Ground.phase }, { on := 6, ground := Ground.phase }, { on := 7, ground := Ground.phase }, { on := 8, ground := Ground.phase }, { on := 9, ground := Ground.phase }, { on := 10, ground := Ground.phase }, { on := 11, ground := Ground.phase }, { on := 12, ground := Ground.phase }, { on := 13, ground := Ground.phase }, { on := 14, ground := Ground.phase }, { on := 15, ground := Ground.phase }, { on := 16, ground := Ground.phase }, { on := 17, ground := Ground.phase }, { on := 18, ground := Ground.phase }, { on := 19, ground := Ground.phase }, { on := 20, ground := Ground.phase }], guard := none }) rfl (by kernel_rfl) (fun K hK => ?_) AllReadyL.nil)
                have d1 := CL20.c1 j hjn
                have d1f := CL20.fr (j * 4 + 1)
                go_simp
                refine K_world ?_
                intro y23 e23
                have CL23 : Cells y23 ob ps.length (pl3b f i j rk) (setF (setF v i (.slice (some ⟨g9, 0, none⟩) ((f i).opp.length + 1) c9)) j (.slice (some ⟨g17, 0, none⟩) ((f j).opp.length + 1) c17)) := by rw [e23]; exact CL20.opp j hjn _ _
                have RW23 : Opps bb y23 [y8.heap.size, w18.drew.heap.size, pb, ob] ps.length (setF (setF v i (.slice (some ⟨g9, 0, none⟩) ((f i).opp.length + 1) c9)) j (.slice (some ⟨g17, 0, none⟩) ((f j).opp.length + 1) c17)) (setF (setF (fun z => (f z).opp) i ((f i).opp ++ [(j : Int)])) j ((f j).opp ++ [(i : Int)])) := by rw [e23]; exact RW20.set ob (j * 4 + 1) (by simp) _
                have LB23 : Below bb w2 y23 := by rw [e23]; exact LB20.setCell (p := ⟨ob, j * 4 + 1, none⟩) (by exact hob) _
                clear e23 d1 d1f
                refine hK.out _ _ ?_
                clear hK K
                try simp only [Act.put, List.setIfInBounds_toArray, List.set_cons_zero, List.set_cons_succ]
                refine doneL (by kernel_rfl) ?_ _
                refine NoPanic.normal ?_
                have HF1 := Lib.hid ((RW23.less (bs' := [ob]) (by simp)).to rfl (pl5_opp f i j rk hne))
                have HF2 := Lib.hid CL23
                have HF3 := Lib.hid LB23
                clear RW23 CL23 LB23 hHeld
                go_wp2_with fail
                go_meet
                exact ⟨_, _, _, rfl, HF2, HF1, HF3⟩
            · skip
              go_simp
              refine K_world ?_
              intro y16 e16
              have BP16 : Box y16 pb [.int .i64 (i : Int), .int .i64 (j : Int)] 30 := by rw [e16]; exact BP0.alloc _
              have CL16 : Cells y16 ob ps.length (pl2 f i j rk) v := by rw [e16]; exact CL0.stays ((Below.refl _ _).alloc (Nat.le_refl _) _)
              have RW16 : Opps bb y16 [w18.drew.heap.size, pb, ob] ps.length v (fun z => (f z).opp) := by rw [e16]; exact RW0.fresh _
              have LB16 : Below bb w2 y16 := by rw [e16]; exact LB0.alloc BL0 _
              have N16 : Box y16 w18.drew.heap.size [.int .i64 (i : Int)] 3 := by rw [e16]; exact Box.new w18.drew _ _
              have BL16 : bb ≤ y16.heap.size := by have := LB16.size; omega
              clear e16
              refine hK.out _ _ ⟨BP16.cell 0 rfl, BP16.cell 1 rfl, (by have := CL16.c1 i hin; rw [HVI.out] at this; exact this), (by have := CL16.c1 j hjn; rw [HVJ.out] at this; exact this)⟩ (fun hHeld => ?_)
              clear hK K
              try simp only [Act.put, List.setIfInBounds_toArray, List.set_cons_zero, List.set_cons_succ]
              refine readyL (rs := [8]) (by kernel_rfl) (by simp) ?_
              refine (AllReadyL.cons (o := { dst := some 96, op := Op.buildSlice 28 1 #[(0, Operand.tmp 95)], type := 28, pos := "swiss.go:178", after := #[{ on := 7, ground := Ground.data }], guard := none }) rfl (fun K hK => ?_) AllReadyL.nil)
              go_simp
              refine K_world ?_
              intro y8 e8
              have BP8 : Box y8 pb [.int .i64 (i : Int), .int .i64 (j : Int)] 30 := by rw [e8]; exact BP16.alloc _
              have CL8 : Cells y8 ob ps.length (pl2 f i j rk) v := by rw [e8]; exact CL16.stays ((Below.refl _ _).alloc (Nat.le_refl _) _)
              have RW8 : Opps bb y8 [y16.heap.size, w18.drew.heap.size, pb, ob] ps.length v (fun z => (f z).opp) := by rw [e8]; exact RW16.fresh _
              have LB8 : Below bb w2 y8 := by rw [e8]; exact LB16.alloc BL16 _
              have N8 : Box y8 y16.heap.size [.int .i64 (j : Int)] 3 := by rw [e8]; exact Box.new y16 _ _
              have N16_8 : Box y8 w18.drew.heap.size [.int .i64 (i : Int)] 3 := by rw [e8]; exact N16.alloc _
              have BL8 : bb ≤ y8.heap.size := by have := LB8.size; omega
              clear e8
              refine hK.out _ _ ⟨BP8.cell 0 rfl, BP8.cell 1 rfl, (by have := CL8.c1 i hin; rw [HVI.out] at this; exact this), (by have := CL8.c1 j hjn; rw [HVJ.out] at this; exact this)⟩ (fun hHeld => ?_)
              clear hK K
              try simp only [Act.put, List.setIfInBounds_toArray, List.set_cons_zero, List.set_cons_succ]
              refine readyL (rs := [9]) (by kernel_rfl) (by simp) ?_
              refine (AllReadyL.cons (o := { dst := some 97, op := Op.call { callee := Callee.builtin Builtin.append, args := #[Operand.tmp 93, Operand.tmp 96], argTypes := #[28, 28] }, type := 28, pos := "swiss.go:178", after := #[{ on := 5, ground := Ground.data }, { on := 8, ground := Ground.data }], guard := none }) rfl (fun K hK => ?_) AllReadyL.nil)
              rw [if_pos (by rfl)]
              have OW9 : y8.ownsRow bb 3 1 (.slice ai (f i).opp.length ci) (f i).opp.length (ints (f i).opp) := RW8.at i hin HVI.out rfl
              refine wp_append_lies _ _ _ 28 rfl bb 3 i0 (.int .i64 0) 1 8 Try.underlying28 HI.out HZ0.out HZ1.out HZ2.out rfl (by decide) (.slice ai (f i).opp.length ci) (f i).opp.length (ints (f i).opp) rfl OW9 ⟨y16.heap.size, 0, none⟩ 1 1 [.int .i64 (j : Int)] rfl rfl (src_box N8) one_int (by decide) (by unfold maxLen; omega) (by omega) BL8 y8.heap.size rfl ?_
              intro g9 c9 y9 ho9 hg9 hq9 hl9
              have BP9 := BP8.grown hg9 (RW8.ne i hin HVI.out (by simp))
              have CL9 := CL8.kept hg9 (RW8.ne i hin HVI.out (by simp))
              have RW9 : Opps bb y9 [y16.heap.size, w18.drew.heap.size, pb, ob] ps.length (setF v i (.slice (some ⟨g9, 0, none⟩) ((f i).opp.length + 1) c9)) (setF (fun z => (f z).opp) i ((f i).opp ++ [(j : Int)])) := RW8.app2 i hin HVI.out rfl ho9 hg9 hq9
              have LB9 := Below.grown LB8 hg9 BL8 (fun q hq => (OW9.lt q hq).1)
              have N16_9 := N16_8.grown hg9 (RW8.ne i hin HVI.out (by simp))
              have BL9 : bb ≤ y9.heap.size := by have := LB9.size; omega
              clear ho9 hg9 hq9 hl9 OW9
              refine hK.out _ _ ⟨BP9.cell 0 rfl, BP9.cell 1 rfl, (by have := CL9.c1 i hin; rw [HVI.out] at this; exact this), (by have := CL9.c1 j hjn; rw [HVJ.out] at this; exact this)⟩ (fun hHeld => ?_)
              clear hK K
              try simp only [Act.put, List.setIfInBounds_toArray, List.set_cons_zero, List.set_cons_succ]
              refine readyL (rs := [17]) (by kernel_rfl) (by simp) ?_
              refine (AllReadyL.cons (o := { dst := some 105, op := Op.call { callee := Callee.builtin Builtin.append, args := #[Operand.tmp 101, Operand.tmp 104], argTypes := #[28, 28] }, type := 28, pos := "swiss.go:178", after := #[{ on := 13, ground := Ground.data }, { on := 16, ground := Ground.data }, { on := 9, ground := Ground.chain }], guard := none }) rfl (fun K hK => ?_) AllReadyL.nil)
              rw [if_pos (by rfl)]
              have OW17 : y9.ownsRow bb 3 1 (.slice aj (f j).opp.length cj) (f j).opp.length (ints (f j).opp) := RW9.at j hjn ((setF_other _ _ hji).trans HVJ.out) (setF_other _ _ hji)
              refine wp_append_lies _ _ _ 28 rfl bb 3 i0 (.int .i64 0) 1 8 Try.underlying28 HI.out HZ0.out HZ1.out HZ2.out rfl (by decide) (.slice aj (f j).opp.length cj) (f j).opp.length (ints (f j).opp) rfl OW17 ⟨w18.drew.heap.size, 0, none⟩ 1 1 [.int .i64 (i : Int)] rfl rfl (src_box N16_9) one_int (by decide) (by unfold maxLen; omega) (by omega) BL9 y9.heap.size rfl ?_
              intro g17 c17 y17 ho17 hg17 hq17 hl17
              have BP17 := BP9.grown hg17 (RW9.ne j hjn ((setF_other _ _ hji).trans HVJ.out) (by simp))
              have CL17 := CL9.kept hg17 (RW9.ne j hjn ((setF_other _ _ hji).trans HVJ.out) (by simp))
              have RW17 : Opps bb y17 [y16.heap.size, w18.drew.heap.size, pb, ob] ps.length (setF (setF v i (.slice (some ⟨g9, 0, none⟩) ((f i).opp.length + 1) c9)) j (.slice (some ⟨g17, 0, none⟩) ((f j).opp.length + 1) c17)) (setF (setF (fun z => (f z).opp) i ((f i).opp ++ [(j : Int)])) j ((f j).opp ++ [(i : Int)])) := RW9.app2 j hjn ((setF_other _ _ hji).trans HVJ.out) (setF_other _ _ hji) ho17 hg17 hq17
              have LB17 := Below.grown LB9 hg17 BL9 (fun q hq => (OW17.lt q hq).1)
              have BL17 : bb ≤ y17.heap.size := by have := LB17.size; omega
              clear ho17 hg17 hq17 hl17 OW17
              refine hK.out _ _ ⟨BP17.cell 0 rfl, BP17.cell 1 rfl, (by have := CL17.c1 i hin; rw [HVI.out] at this; exact this), (by have := CL17.c1 j hjn; rw [HVJ.out] at this; exact this)⟩ (fun hHeld => ?_)
              clear hK K
              try simp only [Act.put, List.setIfInBounds_toArray, List.set_cons_zero, List.set_cons_succ]
              refine takeW (i := 18) (oi := { dst := some 106, op := Op.nilCheck (Operand.tmp 88), type := 0, pos := "swiss.go:178", after := #[{ on := 0, ground := Ground.data }, { on := 0, ground := Ground.phase }, { on := 1, ground := Ground.textOnly Departure.lateStores }, { on := 2, ground := Ground.phase }, { on := 3, ground := Ground.phase }, { on := 4, ground := Ground.phase }, { on := 5, ground := Ground.phase }, { on := 6, ground := Ground.phase }, { on := 7, ground := Ground.phase }, { on := 8, ground := Ground.phase }, { on := 9, ground := Ground.phase }, { on := 10, ground := Ground.textOnly Departure.lateStores }, { on := 11, ground := Ground.textOnly Departure.lateStoresUnsure }, { on := 12, ground := Ground.textOnly Departure.lateStoresUnsure }, { on := 13, ground := Ground.phase }, { on := 14, ground := Ground.textOnly Departure.lateStores }, { on := 15, ground := Ground.textOnly Departure.lateStores }, { on := 16, ground := Ground.textOnly Departure.lateStoresUnsure }, { on := 17, ground := Ground.phase }], guard := none }) (v := ?va56) rfl (by kernel_rfl) (by kernel_rfl) (by kernel_rfl) rfl (fun _ _ _ h => h) (Or.inl ⟨by rfl, ?ya56⟩) (fun _ => by assumption) ?ra56
              case ya56 => (intro w _; go_simp; first | done | (with_reducible rfl) | (rw [if_neg (by omega)]))
              try simp only [Act.put, List.setIfInBounds_toArray, List.set_cons_zero, List.set_cons_succ]
              refine takeW (i := 19) (oi := { dst := some 107, op := Op.fieldAddr 32 (Operand.tmp 106) 1, type := 0, pos := "swiss.go:178", after := #[{ on := 18, ground := Ground.data }, { on := 0, ground := Ground.phase }, { on := 1, ground := Ground.textOnly Departure.lateStores }, { on := 2, ground := Ground.phase }, { on := 3, ground := Ground.phase }, { on := 4, ground := Ground.phase }, { on := 5, ground := Ground.phase }, { on := 6, ground := Ground.phase }, { on := 7, ground := Ground.phase }, { on := 8, ground := Ground.phase }, { on := 9, ground := Ground.phase }, { on := 10, ground := Ground.textOnly Departure.lateStores }, { on := 11, ground := Ground.textOnly Departure.lateStoresUnsure }, { on := 12, ground := Ground.textOnly Departure.lateStoresUnsure }, { on := 13, ground := Ground.phase }, { on := 14, ground := Ground.textOnly Departure.lateStores }, { on := 15, ground := Ground.textOnly Departure.lateStores }, { on := 16, ground := Ground.textOnly Departure.lateStoresUnsure }, { on := 17, ground := Ground.phase }], guard := none }) (v := ?va57) rfl (by kernel_rfl) (by kernel_rfl) (by kernel_rfl) rfl (fun _ _ _ h => h) (Or.inl ⟨by rfl, ?ya57⟩) (fun _ => by assumption) ?ra57
              case ya57 => (intro w _; go_simp; first | done | (with_reducible rfl) | (rw [if_neg (by omega)]))
              try simp only [Act.put, List.setIfInBounds_toArray, List.set_cons_zero, List.set_cons_succ]
              refine readyL (rs := [20]) (by kernel_rfl) (by simp) ?_
              refine (AllReadyL.late (o := { dst := none, op := Op.store 28 (Operand.tmp 107) (Operand.tmp 97), type := 0, pos := "swiss.go:178", after := #[{ on := 19, ground := Ground.data }, { on := 9, ground := Ground.data }, { on := 17, ground := Ground.chain }, { on := 0, ground := Ground.phase }, { on := 1, ground := Ground.textOnly Departure.lateStores }, { on := 2, ground := Ground.phase }, { on := 3, ground := Ground.phase }, { on := 4, ground := Ground.phase }, { on := 5, ground := Ground.phase }, { on := 6, ground := Ground.phase }, { on := 7, ground := Ground.phase }, { on := 8, ground := Ground.phase }, { on := 9, ground := Ground.phase }, { on := 10, ground := Ground.textOnly Departure.lateStores }, { on := 11, ground := Ground.textOnly Departure.lateStoresUnsure }, { on := 12, ground := Ground.textOnly Departure.lateStoresUnsure }, { on := 13, ground := Ground.phase }, { on := 14, ground := Ground.textOnly Departure.lateStores }, { on := 15, ground := Ground.textOnly Departure.lateStores }, { on := 16, ground := Ground.textOnly Departure.lateStoresUnsure }, { on := 17, ground := Ground.phase }], guard := none }) rfl (by kernel_rfl) (fun K hK => ?_) AllReadyL.nil)
              have d1 := CL17.c1 i hin
              have d1f := CL17.fr (i * 4 + 1)
              go_simp
              refine K_world ?_
              intro y20 e20
              have CL20 : Cells y20 ob ps.length (pl3 f i j rk) (setF v i (.slice (some ⟨g9, 0, none⟩) ((f i).opp.length + 1) c9)) := by rw [e20]; exact CL17.opp i hin _ _
              have RW20 : Opps bb y20 [y16.heap.size, w18.drew.heap.size, pb, ob] ps.length (setF (setF v i (.slice (some ⟨g9, 0, none⟩) ((f i).opp.length + 1) c9)) j (.slice (some ⟨g17, 0, none⟩) ((f j).opp.length + 1) c17)) (setF (setF (fun z => (f z).opp) i ((f i).opp ++ [(j : Int)])) j ((f j).opp ++ [(i : Int)])) := by rw [e20]; exact RW17.set ob (i * 4 + 1) (by simp) _
              have LB20 : Below bb w2 y20 := by rw [e20]; exact LB17.setCell (p := ⟨ob, i * 4 + 1, none⟩) (by exact hob) _
              clear e20 d1 d1f
              refine hK.out _ _ ?_
              clear hK K
              try simp only [Act.put, List.setIfInBounds_toArray, List.set_cons_zero, List.set_cons_succ]
              refine takeW (i := 21) (oi := { dst := some 108, op := Op.nilCheck (Operand.tmp 89), type := 0, pos := "swiss.go:178", after := #[{ on := 1, ground := Ground.data }, { on := 0, ground := Ground.phase }, { on := 1, ground := Ground.phase }, { on := 2, ground := Ground.phase }, { on := 3, ground := Ground.phase }, { on := 4, ground := Ground.phase }, { on := 5, ground := Ground.phase }, { on := 6, ground := Ground.phase }, { on := 7, ground := Ground.phase }, { on := 8, ground := Ground.phase }, { on := 9, ground := Ground.phase }, { on := 10, ground := Ground.phase }, { on := 11, ground := Ground.phase }, { on := 12, ground := Ground.phase }, { on := 13, ground := Ground.phase }, { on := 14, ground := Ground.phase }, { on := 15, ground := Ground.phase }, { on := 16, ground := Ground.phase }, { on := 17, ground := Ground.phase }, { on := 18, ground := Ground.phase }, { on := 19, ground := Ground.phase }, { on := 20, ground := Ground.phase }], guard := none }) (v := ?va58) rfl (by kernel_rfl) (by kernel_rfl) (by kernel_rfl) rfl (fun _ _ _ h => h) (Or.inl ⟨by rfl, ?ya58⟩) (fun he => by cases he) ?ra58
              case ya58 => (intro w _; go_simp; first | done | (with_reducible rfl) | (rw [if_neg (by omega)]))
              try simp only [Act.put, List.setIfInBounds_toArray, List.set_cons_zero, List.set_cons_succ]
              refine takeW (i := 22) (oi := { dst := some 109, op := Op.fieldAddr 32 (Operand.tmp 108) 1, type := 0, pos := "swiss.go:178", after := #[{ on := 21, ground := Ground.data }, { on := 0, ground := Ground.phase }, { on := 1, ground := Ground.phase }, { on := 2, ground := Ground.phase }, { on := 3, ground := Ground.phase }, { on := 4, ground := Ground.phase }, { on := 5, ground := Ground.phase }, { on := 6, ground := Ground.phase }, { on := 7, ground := Ground.phase }, { on := 8, ground := Ground.phase }, { on := 9, ground := Ground.phase }, { on := 10, ground := Ground.phase }, { on := 11, ground := Ground.phase }, { on := 12, ground := Ground.phase }, { on := 13, ground := Ground.phase }, { on := 14, ground := Ground.phase }, { on := 15, ground := Ground.phase }, { on := 16, ground := Ground.phase }, { on := 17, ground := Ground.phase }, { on := 18, ground := Ground.phase }, { on := 19, ground := Ground.phase }, { on := 20, ground := Ground.phase }], guard := none }) (v := ?va59) rfl (by kernel_rfl) (by kernel_rfl) (by kernel_rfl) rfl (fun _ _ _ h => h) (Or.inl ⟨by rfl, ?ya59⟩) (fun he => by cases he) ?ra59
              case ya59 => (intro w _; go_simp; first | done | (with_reducible rfl) | (rw [if_neg (by omega)]))
              try simp only [Act.put, List.setIfInBounds_toArray, List.set_cons_zero, List.set_cons_succ]
              refine readyL (rs := [23]) (by kernel_rfl) (by simp) ?_
              refine (AllReadyL.late (o := { dst := none, op := Op.store 28 (Operand.tmp 109) (Operand.tmp 105), type := 0, pos := "swiss.go:178", after := #[{ on := 22, ground := Ground.data }, { on := 17, ground := Ground.data }, { on := 20, ground := Ground.chain }, { on := 0, ground := Ground.phase }, { on := 1, ground := Ground.phase }, { on := 2, ground := Ground.phase }, { on := 3, ground := Ground.phase }, { on := 4, ground := Ground.phase }, { on := 5, ground := Ground.phase }, { on := 6, ground := Ground.phase }, { on := 7, ground := Ground.phase }, { on := 8, ground := Ground.phase }, { on := 9, ground := Ground.phase }, { on := 10, ground := Ground.phase }, { on := 11, ground := Ground.phase }, { on := 12, ground := Ground.phase }, { on := 13, ground := Ground.phase }, { on := 14, ground := Ground.phase }, { on := 15, ground := Ground.phase }, { on := 16, ground := Ground.phase }, { on := 17, ground := Ground.phase }, { on := 18, ground := Ground.phase }, { on := 19, ground := Ground.phase }, { on := 20, ground := Ground.phase }], guard := none }) rfl (by kernel_rfl) (fun K hK => ?_) AllReadyL.nil)
              have d1 := CL20.c1 j hjn
              have d1f := CL20.fr (j * 4 + 1)
              go_simp
              refine K_world ?_
              intro y23 e23
              have CL23 : Cells y23 ob ps.length (pl3b f i j rk) (setF (setF v i (.slice (some ⟨g9, 0, none⟩) ((f i).opp.length + 1) c9)) j (.slice (some ⟨g17, 0, none⟩) ((f j).opp.length + 1) c17)) := by rw [e23]; exact CL20.opp j hjn _ _
              have RW23 : Opps bb y23 [y16.heap.size, w18.drew.heap.size, pb, ob] ps.length (setF (setF v i (.slice (some ⟨g9, 0, none⟩) ((f i).opp.length + 1) c9)) j (.slice (some ⟨g17, 0, none⟩) ((f j).opp.length + 1) c17)) (setF (setF (fun z => (f z).opp) i ((f i).opp ++ [(j : Int)])) j ((f j).opp ++ [(i : Int)])) := by rw [e23]; exact RW20.set ob (j * 4 + 1) (by simp) _
              have LB23 : Below bb w2 y23 := by rw [e23]; exact LB20.setCell (p := ⟨ob, j * 4 + 1, none⟩) (by exact hob) _
              clear e23 d1 d1f
              refine hK.out _ _ ?_
              clear hK K
              try simp only [Act.put, List.setIfInBounds_toArray, List.set_cons_zero, List.set_cons_succ]
              refine doneL (by kernel_rfl) ?_ _
              refine NoPanic.normal ?_
              have HF1 := Lib.hid ((RW23.less (bs' := [ob]) (by simp)).to rfl (pl5_opp f i j rk hne))
              have HF2 := Lib.hid CL23
              have HF3 := Lib.hid LB23
              clear RW23 CL23 LB23 hHeld
              go_wp2_with fail
              go_meet
              exact ⟨_, _, _, rfl, HF2, HF1, HF3⟩
          case rest =>
            obtain ⟨o88, ni, nj, rfl, HC19, HO19, HB19⟩ := hcut
            have hobc := HC19.out.lt
            have q2 := HC19.out.c2 i hin
            rw [pl3b_col] at q2
            have f2 := HC19.out.fr (i * 4 + 2)
            have W4 : IntKind.i64.wrap ((f i).colour + 1) = (f i).colour + 1 := IntWalk.i64_in _ (by omega)
            go_upto_region 21 with (fail)
            have HC20 : Hid (Cells (wc.setCell ⟨ob, i * 4 + 2, none⟩ (.int .i64 ((f i).colour + 1))) ob ps.length (pl4 f i j rk) (setF (setF v i ni) j nj)) := Lib.hid (HC19.out.colour i hin _)
            have HO20 := Lib.hid (HO19.out.set ob (i * 4 + 2) (by simp) (.int .i64 ((f i).colour + 1)))
            have HB20 := Lib.hid (HB19.out.setCell (p := ⟨ob, i * 4 + 2, none⟩) (by exact hob) (.int .i64 ((f i).colour + 1)))
            clear HC19 HO19 HB19 q2 f2 W4
            generalize wc.setCell ⟨ob, i * 4 + 2, none⟩ (.int .i64 ((f i).colour + 1)) = wd at *
            have hobd := HC20.out.lt
            have q3 := HC20.out.c2 j hjn
            rw [pl4_col f i j rk hne] at q3
            have f3 := HC20.out.fr (j * 4 + 2)
            have W5 : IntKind.i64.wrap ((f j).colour - 1) = (f j).colour - 1 := IntWalk.i64_in _ (by omega)
            go_upto_region 22 with (fail)
            have HC21 : Hid (Cells (wd.setCell ⟨ob, j * 4 + 2, none⟩ (.int .i64 ((f j).colour - 1))) ob ps.length (pl5 f i j rk) (setF (setF v i ni) j nj)) := Lib.hid (HC20.out.colour j hjn _)
            have HO21 := Lib.hid (HO20.out.set ob (j * 4 + 2) (by simp) (.int .i64 ((f j).colour - 1)))
            have HB21 := Lib.hid (HB20.out.setCell (p := ⟨ob, j * 4 + 2, none⟩) (by exact hob) (.int .i64 ((f j).colour - 1)))
            clear HC20 HO20 HB20 q3 f3 W5
            generalize wd.setCell ⟨ob, j * 4 + 2, none⟩ (.int .i64 ((f j).colour - 1)) = we at *
            go_wp2_with fail
            go_roundw
            case rel => exact ⟨k + 1, _, _, _, _, _, _, rfl, rfl, rfl, rfl, by omega, by go_num, HC21, HO21, HStep, HB21⟩
            case measure => simp [intOf]; omega
        · obtain rfl : k = G.length := by omega
          rw [List.take_length] at HM
          have hrd0 := HB2.out.trans (HB.out.mono (show w.heap.size ≤ bb by omega))
          rcases HOff.out with ⟨he, -, -⟩ | ⟨i, hin, he, -, -, -, -⟩
          · have HFin := Lib.hid (HFe.out f HM.out he)
            have HBx := Lib.hid hrd0
            have HRx : Hid (RdS wr (.slice (some ⟨ob, 0, none⟩) ps.length oc) (newL ps.length f)) := Lib.hid (HC.out.read HO.out ho1 (by unfold maxLen; exact ho2))
            subst he
            clear hrd0 HC HO HM HB
            go_upto_region 26 with (fail)
            go_upto_region 27 with (go_at_call 10; refine (Check_any _ _ _ HRx.out).mono ?_; rintro e w9 ⟨cc, rfl, hsay, hbl⟩; have HSay := Lib.hid (says_new HOK.out HW.out HFin.out hsay); have HB9 := Lib.hid (HBx.out.trans (hbl.mono HBx.out.size)); have HR9 := Lib.hid (RdL.below HRx.out hbl (Nat.le_refl _)); clear hsay hbl)
            by_cases hcc : cc = 0
            · subst hcc
              go_wp2_with fail
              refine bodyPost_ret (v := .tuple #[.slice (some ⟨ob, 0, none⟩) ps.length oc, .int .i64 0]) (by simp [results, Try.results9, go_sem]) rfl ?_
              exact ⟨HB9.out, .inr ⟨_, _, rfl, HR9.out, HFin.out⟩⟩
            · go_wp2_with fail
              refine bodyPost_ret (v := .tuple #[.slice none 0 0, .int .i64 cc]) (by simp [results, Try.results9, go_sem]) rfl ?_
              exact ⟨HB9.out, .inl ⟨cc, HSay.out.resolve_left hcc, rfl⟩⟩
          · have HFin := Lib.hid (HFo.out f HM.out i hin he)
            subst he
            obtain ⟨hsi0, hsi1⟩ := HM.out.sc i hin
            have q0 := HC.out.c0 i hin
            have q3 := HC.out.c3 i hin
            have f0 := HC.out.fr (i * 4)
            have f3 := HC.out.fr (i * 4 + 3)
            have W5 : IntKind.i64.wrap ((f i).score + 2) = (f i).score + 2 := IntWalk.i64_in _ (by omega)
            have t1 : (i : Int) < (ps.length : Int) := by omega
            have t3 : 0 ≤ (i : Int) := by omega
            go_upto_region 26 with (fail)
            have HBx := Lib.hid (HB2.out.trans (((HB.out.setCell (p := ⟨ob, i * 4, none⟩) (by exact hob) (.int .i64 ((f i).score + 2))).setCell (p := ⟨ob, i * 4 + 3, none⟩) (by exact hob) (.bool true)).mono (show w.heap.size ≤ bb by omega)))
            have HCx := (HC.out.score i hin ((f i).score + 2)).bye i hin true
            rw [rests_eq] at HCx
            have HOx := (((HO.out.set ob (i * 4) (by simp) (.int .i64 ((f i).score + 2))).set ob (i * 4 + 3) (by simp) (.bool true)).to rfl (rests_opp f i))
            have HRx : Hid (RdS ((wr.setCell ⟨ob, i * 4, none⟩ (.int .i64 ((f i).score + 2))).setCell ⟨ob, i * 4 + 3, none⟩ (.bool true)) (.slice (some ⟨ob, 0, none⟩) ps.length oc) (newL ps.length (rests f i))) := Lib.hid (HCx.read HOx ho1 (by unfold maxLen; exact ho2))
            clear hrd0 HC HO HM HB HCx HOx q0 q3 f0 f3 W5
            generalize (wr.setCell ⟨ob, i * 4, none⟩ (.int .i64 ((f i).score + 2))).setCell ⟨ob, i * 4 + 3, none⟩ (.bool true) = wr at *
            go_upto_region 27 with (go_at_call 10; refine (Check_any _ _ _ HRx.out).mono ?_; rintro e w9 ⟨cc, rfl, hsay, hbl⟩; have HSay := Lib.hid (says_new HOK.out HW.out HFin.out hsay); have HB9 := Lib.hid (HBx.out.trans (hbl.mono HBx.out.size)); have HR9 := Lib.hid (RdL.below HRx.out hbl (Nat.le_refl _)); clear hsay hbl)
            by_cases hcc : cc = 0
            · subst hcc
              go_wp2_with fail
              refine bodyPost_ret (v := .tuple #[.slice (some ⟨ob, 0, none⟩) ps.length oc, .int .i64 0]) (by simp [results, Try.results9, go_sem]) rfl ?_
              exact ⟨HB9.out, .inr ⟨_, _, rfl, HR9.out, HFin.out⟩⟩
            · go_wp2_with fail
              refine bodyPost_ret (v := .tuple #[.slice none 0 0, .int .i64 cc]) (by simp [results, Try.results9, go_sem]) rfl ?_
              exact ⟨HB9.out, .inl ⟨cc, HSay.out.resolve_left hcc, rfl⟩⟩
end Go.Proofs.Ytkngpbnildhdpaa

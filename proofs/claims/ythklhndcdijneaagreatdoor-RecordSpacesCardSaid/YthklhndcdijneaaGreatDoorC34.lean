/- RwC, RwW. -/
import Derived.Test.YthklhndcdijneaaGreatDoorC33
import Derived.Test.YthklhndcdijneaaGreatDoorC05
import Derived.BigQuiet
import Derived.Deep.Cut
import Derived.Deep.CutRange
import Derived.Deep.QuietTactic
namespace Go.Proofs.YthklhndcdijneaaGreatDoor
open Go.ChangeShapes Go.WideShapes Go.ChangeAt Go.RowKit
set_option linter.unusedVariables false
/-- what the shelf says of strings.Join. -/
def JoinSaidB : Prop := ∀ (base : Nat) (v : Value) (xs : List Byt) (w : World), w.ownsRow base 9 1 v xs.length (strsB xs) → xs.length ≤ 1000 → (∀ x ∈ xs, x.length ≤ 1000000) →
 Calls Tryz.prog 22 #[v, .string ⟨#[32]⟩] w fun e w' => e = .returned (.string (bs (joinB xs))) ∧ Below w.heap.size w w'
def brN (ns : List NodeZ) (f k : Nat) : BrZ := .mk (ndAt ns k).m (ndAt ns k).comment (treeF ns f (k : Int))
theorem elemIs : Tryz.prog.underlying 23 = some (.slice (Tryz.prog.elem 23)) := by kernel_rfl
theorem sizeIs (w : World) : (sizeOf (Tryz.prog.elem 23)).run Tryz.prog w = .ok 1 w := by kernel_rfl
theorem bs_par (l : Byt) : (⟨#[40]⟩ ++ bs l ++ ⟨#[41]⟩ : ByteArray) = bs (40 :: (l ++ [41])) := by
 apply ByteArray.ext
 simp [bs]
theorem treeF_succ (ns : List NodeZ) (f : Nat) (p : Int) : treeF ns (f + 1) p = (kidsZ ns p).map (brN ns f) := by rw [treeF]; rfl
def varT (R : RulesZ) (p : PosZ) (b : BrZ) : Byt := 40 :: (joinB (oneT R p b.mv b.cm ++ txtB R p b) ++ [41])
theorem txtV_snoc (R : RulesZ) (p : PosZ) : ∀ (l : List BrZ) (b : BrZ), txtV R p (l ++ [b]) = txtV R p l ++ [varT R p b]
 | [], b => by rw [List.nil_append, txtV, txtV]; rfl
 | a :: l, b => by rw [List.cons_append, txtV, txtV, txtV_snoc R p l b]; rfl
theorem txtV_take (R : RulesZ) (p : PosZ) : ∀ (l : List BrZ) (i : Nat), (txtV R p (l.take i)).length ≤ (txtV R p l).length
 | [], i => by rw [List.take_nil]; exact Nat.le_refl _
 | a :: l, 0 => by rw [List.take_zero, txtV]; exact Nat.zero_le _
 | a :: l, i + 1 => by rw [List.take_succ_cons, txtV, txtV]; have := txtV_take R p l i; simp only [List.length_cons]; omega
structure KidOk (R : RulesZ) (p : PosZ) (ns : List NodeZ) (f : Nat) (parent : Int) (k : Nat) : Prop where
 lt : k < ns.length
 par : parent < k
 ok : OkOne R p (ndAt ns k).m (ndAt ns k).comment
 cs : (ndAt ns k).comment.size ≤ 1000
 leg : legL R (makeZ R p (ndAt ns k).m) (treeF ns f k)
 sz : szL 1000 (treeF ns f k)
 cn : cnt (treeF ns f k) + 1 ≤ 200
 tot : (oneT R p (ndAt ns k).m (ndAt ns k).comment ++ txtL R (makeZ R p (ndAt ns k).m) (treeF ns f k)).length ≤ 400 ∧ tot (oneT R p (ndAt ns k).m (ndAt ns k).comment ++ txtL R (makeZ R p (ndAt ns k).m) (treeF ns f k)) ≤ 208000
theorem leg_all {R : RulesZ} {p : PosZ} : ∀ {l : List BrZ}, legL R p l → ∀ b ∈ l, legB R p b
 | [], _, _, h => by cases h
 | a :: l, h, b, hb => by
  rw [legL] at h
  rcases List.mem_cons.1 hb with rfl | hb
  ·exact h.1
  ·exact leg_all h.2 b hb
theorem sz_all {N : Nat} : ∀ {l : List BrZ}, szL N l → ∀ b ∈ l, szB N b
 | [], _, _, h => by cases h
 | a :: l, h, b, hb => by
  rw [szL] at h
  rcases List.mem_cons.1 hb with rfl | hb
  ·exact h.1
  ·exact sz_all h.2 b hb
theorem cnt_all : ∀ {l : List BrZ}, ∀ b ∈ l, cnt [b] ≤ cnt l
 | [], _, h => by cases h
 | a :: l, b, hb => by
  rw [cnt_cons a l]
  rcases List.mem_cons.1 hb with rfl | hb
  ·omega
  ·have := cnt_all (l := l) b hb; omega
theorem kids_ok {R : RulesZ} {p : PosZ} {ns : List NodeZ} {f : Nat} {parent : Int} (hB : Back ns ns.length) (hl : legL R p (treeF ns (f + 1) parent)) (hs : szL 1000 (treeF ns (f + 1) parent)) (hc : cnt (treeF ns (f + 1) parent) ≤ 200) : ∀ k ∈ kidsZ ns parent, KidOk R p ns f parent k := fun k hk => by
 obtain ⟨h1, h2⟩ := kids_mem hk
 have hm : brN ns f k ∈ treeF ns (f + 1) parent := by rw [treeF_succ]; exact List.mem_map_of_mem hk
 have e1 := leg_all hl _ hm
 have e2 := sz_all hs _ hm
 have e3 := cnt_all _ hm
 have e4 := (txt_tot R [brN ns f k] (by rw [szL, szL]; exact ⟨e2, trivial⟩)).1 p (by rw [legL, legL]; exact ⟨e1, trivial⟩)
 rw [txtL, txtV, List.nil_append] at e4
 unfold brN at e1 e2 e3 e4
 rw [txtB] at e4
 change (oneT R p (ndAt ns k).m (ndAt ns k).comment ++ _).length ≤ _ ∧ tot (oneT R p (ndAt ns k).m (ndAt ns k).comment ++ _) ≤ _ at e4
 rw [cnt_one] at e3 e4
 rw [legB] at e1
 rw [szB] at e2
 have hp := hB k h1
 rw [h2] at hp
 exact ⟨h1, hp, e1.1, e2.1, e1.2, e2.2, by omega, by omega, by omega⟩
theorem tree_nil {ns : List NodeZ} {parent : Int} (h : kidsZ ns parent = []) : ∀ f : Nat, treeF ns f parent = []
 | 0 => by rw [treeF]
 | f + 1 => by rw [treeF_succ, h]; rfl
theorem strsB_cons (x : Byt) (l : List Byt) : strsB (x :: l) = .string (bs x) :: strsB l := rfl
set_option maxRecDepth 100000
set_option maxHeartbeats 8000000
variable {R : RulesZ} {vp vs ve : Value}
def AfterAt (R : RulesZ) (vp vs ve : Value) (X : RecZ) (ta na : Option Addr) (tc nc b : Nat) (f : Nat) : Prop := ∀ (parent : Int) (p : PosZ) (vc v0 v1 : Value) (w : World), Box w b [.string R.name, .int .i64 R.width, .int .i64 R.height, vp, vs, .bool R.falls, .bool R.keeps, ve, .int .i64 R.blocked, .int .i64 R.quiet, .int .i64 R.rept, .slice ta X.tags.length tc, .string X.comment, .slice na X.nodes.length nc, .int .i64 X.result] WrT → RdR w R vp vs ve → RdX w X (.slice ta X.tags.length tc) (.slice na X.nodes.length nc) → RdP w p vc v0 v1 → POk R p →
 (X.nodes.length : Int) - parent ≤ f → legL R p (treeF X.nodes f parent) → szL 1000 (treeF X.nodes f parent) → cnt (treeF X.nodes f parent) ≤ 200 →
 Calls Tryz.prog 21 #[.pointer (some ⟨b, 0, none⟩), (.agg #[vc, v0, v1, .int .i64 p.turn, .int .i64 p.quiet]), .int .i64 parent] w fun e w' => ∃ v, e = .returned v ∧ w'.ownsRow w.heap.size 9 1 v (txtL R p (treeF X.nodes f parent)).length (strsB (txtL R p (treeF X.nodes f parent))) ∧ Below w.heap.size w w'
theorem wafter_step (HS : SortMvSaid) (HJ : JoinSaidB) (L : LetOk R) (X : RecZ) (hB : Back X.nodes X.nodes.length) (hnl : X.nodes.length ≤ 1000) (ta na : Option Addr) (tc nc b : Nat) (f : Nat) (IH : ∀ g, g < f → AfterAt R vp vs ve X ta na tc nc b g) : AfterAt R vp vs ve X ta na tc nc b f := by
 intro parent p vc v0 v1 w hb hr hx hp K hfu hleg hsz hcnt
 have HSh := Lib.hid HS
 have HJh := Lib.hid HJ
 have HLt := Lib.hid L
 have HIH := Lib.hid IH
 have HBk := Lib.hid hB
 have HX := Lib.hid hx
 have HR := Lib.hid hr
 have HP := Lib.hid hp
 have HK := Lib.hid K
 have HBr := Lib.hid hb
 have HLg := Lib.hid hleg
 have HSz := Lib.hid hsz
 have HCn := Lib.hid hcnt
 have hbl := hb.lt
 clear HS HJ L IH hB hx hr hp K hb hleg hsz hcnt
 go_enter Tryz.func21, Tryz.ntmps21
 go_upto_region 1 with (fail)
 refine opn2 ?_
 intro w0 xb3 xb4 hB0 hS0
 have HB := Lib.hid hB0
 obtain ⟨b4, hb4⟩ : ∃ b4, b4 = w.heap.size + 1 := ⟨_, rfl⟩
 rw [← hb4] at xb4 ⊢
 obtain ⟨b3, hb3⟩ : ∃ b3, b3 = w.heap.size := ⟨_, rfl⟩
 rw [← hb3] at xb3 ⊢
 have hb31 : w.heap.size ≤ b3 := by omega
 have Hb3 := Lib.hid xb3
 have hb41 : w.heap.size ≤ b4 := by omega
 have hb3b4 : b3 < b4 := by omega
 have Hb4 := Lib.hid xb4
 have hS : b4 < w0.heap.size := by omega
 clear hB0 hS0 xb3 hb3 xb4 hb4
 have D0 : Box w0 b [.string R.name, .int .i64 R.width, .int .i64 R.height, vp, vs, .bool R.falls, .bool R.keeps, ve, .int .i64 R.blocked, .int .i64 R.quiet, .int .i64 R.rept, .slice ta X.tags.length tc, .string X.comment, .slice na X.nodes.length nc, .int .i64 X.result] WrT := HBr.out.stays HB.out
 have g0 := Hb3.out.cell 0 rfl
 have d11 := D0.cell 11 rfl
 have d12 := D0.cell 12 rfl
 have d13 := D0.cell 13 rfl
 have d14 := D0.cell 14 rfl
 have hk := Kids_any X (.slice ta X.tags.length tc) (.slice na X.nodes.length nc) parent w0 (HX.out.below HB.out (Nat.le_refl _)) hnl
 unfold recV at hk
 have HKd := Lib.hid hk
 clear hk
 have HD0 := Lib.hid D0
 clear D0
 go_wp2_with fail
 refine HKd.out.mono ?_
 rintro e w1 ⟨kv, rfl, ho1, hb1⟩
 obtain ⟨ka, kc, rfl⟩ := own_form2 ho1
 have HA1 := Lib.hid (Hb3.out.stays hb1)
 have HE1 := Lib.hid (Hb4.out.stays hb1)
 have HD1 := Lib.hid (HD0.out.stays hb1)
 have HL1 := Lib.hid (below_trans HB.out hb1 HB.out.size)
 have HO1 := Lib.hid (own_base ho1 (b' := b4 + 1) (by omega))
 have hbl1 := HD1.out.lt
 have hb3l := HA1.out.lt
 have hb4l := HE1.out.lt
 clear HKd HD0 g0 d11 d12 d13 d14 hb1 ho1
 cases hks : kidsZ X.nodes parent with
 | nil =>
  have HT : Hid (treeF X.nodes f parent = []) := Lib.hid (tree_nil hks f)
  go_wp2_with fail
  go_ret
  exact ⟨_, rfl, by rw [HT.out, txtL]; exact World.ownsRow_nil _ _ _ _, HL1.out⟩
 | cons k0 ks =>
  have hkid : ∀ k, k ∈ k0 :: ks → k ∈ kidsZ X.nodes parent := fun k hk => by rw [hks]; exact hk
  have hkl : ks.length + 1 ≤ X.nodes.length := by
   have h1 : (kidsZ X.nodes parent).length ≤ X.nodes.length := kidsK_len X.nodes parent X.nodes.length
   rw [hks] at h1
   exact h1
  have h0f : 1 ≤ f := by
   obtain ⟨h1, h2⟩ := kids_mem (hkid k0 (List.mem_cons_self ..))
   have := HBk.out k0 h1
   omega
  obtain ⟨f', rfl⟩ : ∃ f', f = f' + 1 := ⟨f - 1, by omega⟩
  have hko := kids_ok HBk.out HLg.out HSz.out HCn.out
  have HKO : Hid (∀ k ∈ k0 :: ks, KidOk R p X.nodes f' parent k) := Lib.hid fun k hk => hko k (hkid k hk)
  have HTr : Hid (treeF X.nodes (f' + 1) parent = brN X.nodes f' k0 :: ks.map (brN X.nodes f')) := Lib.hid (by rw [treeF_succ, hks]; rfl)
  have HTt := Lib.hid ((txt_tot R (treeF X.nodes (f' + 1) parent) HSz.out).1 p HLg.out)
  have hIHf := fun k (hk : k ∈ k0 :: ks) => HIH.out f' (by omega) (k : Int)
  have hk0 := HKO.out k0 (List.mem_cons_self ..)
  have hn0 : 0 < X.nodes.length := by have := hk0.lt; omega
  obtain ⟨gn, on, rfl, hgn, hnd⟩ := nodes_some HX.out.2.1 hn0
  have HNd : Hid (NodesAt w gn on X) := Lib.hid ⟨hgn, hnd⟩
  rw [hks] at HO1
  clear hko hkid hIHf hks hnd
  obtain ⟨gk, ck, hgk⟩ := own_some HO1.out (by simp)
  obtain ⟨rfl, rfl⟩ : ka = some ⟨gk, 0, none⟩ ∧ kc = ck := by
   simp only [Value.slice.injEq] at hgk
   exact ⟨hgk.1, hgk.2.2⟩
  clear hgk
  have hsc := src_cells HO1.out
  have hgk1 : b4 + 1 ≤ gk := (HO1.out.lt gk rfl).1
  have hgk2 : gk < w1.heap.size := (HO1.out.lt gk rfl).2
  have HKC : Hid (∀ i, i < (k0 :: ks).length → w1.cell? ⟨gk, i, none⟩ = some (.int .i64 ((k0 :: ks).getD i 0 : Nat))) := Lib.hid fun i hi => by
   have h1 := hsc i (.int .i64 ((k0 :: ks).getD i 0 : Nat)) (by simp only [ints, nums, List.map_map, List.getElem?_map]; rw [List.getElem?_eq_getElem hi, List.getD_eq_getElem?_getD, List.getElem?_eq_getElem hi]; rfl)
   have e1 : (⟨gk, 0, none⟩ : Addr).add i = ⟨gk, i, none⟩ := by unfold Addr.add; split <;> simp_all
   rwa [e1] at h1
  have hlI : ((k0 :: ks).length : Int) = (ks.length : Int) + 1 := by simp
  have hlN : (k0 :: ks).length = ks.length + 1 := by simp
  have hne : ¬ ((ks.length : Int) + 1 = 0) := by omega
  rw [hlN] at HO1 ⊢
  clear hsc hlI hlN
  go_wp2_with fail
  have HK0 := Lib.hid hk0
  have hll : (listZ R p).length ≤ 1000000 := by have := list_len' HK.out; omega
  have HIHf := Lib.hid (HIH.out f' (by omega))
  have k00 : w1.cell? ⟨gk, 0, none⟩ = some (.int .i64 k0) := HKC.out 0 (by simp)
  clear hk0
  have Lz : Below w1.heap.size w1 w1.drew := (Below.refl w1.heap.size w1).drew
  have Az := HA1.out.below Lz hb3l
  have Ez := HE1.out.below Lz hb4l
  have Dz := HD1.out.below Lz hbl1
  have Wz := below_trans HL1.out Lz HL1.out.size
  have kz := (Lz.cell (p := ⟨gk, 0, none⟩) hgk2).trans k00
  refine wp_region_noPanic ?_
  refine beginL (S := (fun w' => w'.cell? ⟨b3, 0, none⟩ = some (.pointer (some ⟨b, 0, none⟩)) ∧ w'.cell? ⟨b4, 0, none⟩ = some vc ∧ w'.cell? ⟨b4, 1, none⟩ = some v0 ∧ w'.cell? ⟨b4, 2, none⟩ = some v1 ∧ w'.cell? ⟨b4, 3, none⟩ = some (.int .i64 p.turn) ∧ w'.cell? ⟨b4, 4, none⟩ = some (.int .i64 p.quiet) ∧ w'.cell? ⟨gk, 0, none⟩ = some (.int .i64 k0))) (L := []) (by kernel_rfl) ⟨Az.cell 0 rfl, Ez.cell 0 rfl, Ez.cell 1 rfl, Ez.cell 2 rfl, Ez.cell 3 rfl, Ez.cell 4 rfl, kz⟩ (fun hHeld => ?_)
  refine tkL 0 ?_
  refine tkL 1 ?_
  refine tkW 2 ?_
  refine tkW 3 ?_
  refine tkL 4 ?_
  refine cnL 5 fun K hK => ?_
  go_simp
  refine (wone_any HSh.out X ta tc gn on nc k0 b p vc v0 v1 w1.drew Dz (HR.out.below Wz (Nat.le_refl _)) (HP.out.below Wz (Nat.le_refl _)) HK.out HLt.out hll HK0.out.lt HK0.out.cs (ofOk_of HK.out (ok_mem HK0.out.ok).2) (HNd.out.below Wz (Nat.le_refl _)).1 (HNd.out.below Wz (Nat.le_refl _)).2).mono ?_
  rintro e w10 ⟨v10, rfl, ho10, hb10⟩
  have L10 := below_trans Lz hb10 Lz.size
  have A10 := HA1.out.below L10 hb3l
  have E10 := HE1.out.below L10 hb4l
  have D10 := HD1.out.below L10 hbl1
  have W10 := below_trans HL1.out L10 HL1.out.size
  have k10 := (L10.cell (p := ⟨gk, 0, none⟩) hgk2).trans k00
  refine hK.out _ _ ⟨A10.cell 0 rfl, E10.cell 0 rfl, E10.cell 1 rfl, E10.cell 2 rfl, E10.cell 3 rfl, E10.cell 4 rfl, k10⟩ (fun hHeld => ?_)
  clear hK K
  refine tkW 6 ?_
  refine dnN ?_
  have HO5 := Lib.hid (own_base ho10 Lz.size)
  have HL5 := Lib.hid L10
  clear hHeld Az Ez Dz Wz Lz kz A10 E10 D10 W10 L10 k10 ho10 hb10
  obtain ⟨oa5, oc5, rfl⟩ := own_form2 HO5.out
  obtain ⟨sa, hsa⟩ : ∃ sa, sa = subAddr (some ⟨gk, 0, none⟩) kc 1 1 := ⟨_, rfl⟩
  have HSA : Hid (0 < ks.length → sa = some ⟨gk, 1, none⟩) := Lib.hid fun h => by
   rcases HO1.out.2 with ⟨h0, -⟩ | ⟨g, cap, cur, hv, hg, hbb, hnc, -⟩
   ·cases h0
   ·simp only [Value.slice.injEq, Option.some.injEq, Addr.mk.injEq] at hv
    obtain ⟨-, -, rfl⟩ := hv
    rw [hsa]; unfold subAddr; rw [if_neg (by omega)]
    show some ((⟨gk, 0, none⟩ : Addr).add (1 * 1)) = _
    rw [add_off]
  have hds : ∀ w : World, (Instr.sliceAt 23 (.slice (some ⟨gk, 0, none⟩) (ks.length + 1) kc) (some (.int .i64 1)) none none).run Tryz.prog w = .ok (.slice sa ks.length (kc - 1)) w := fun w => by rw [hsa]; exact run_dropAt elemIs sizeIs (some ⟨gk, 0, none⟩) (ks.length + 1) kc 1 (by omega) w
  clear hsa
  go_wp2_with fail
  have H0 : Hid (w10.ownsRow w1.heap.size 9 1 (.slice oa5 (oneT R p (ndAt X.nodes k0).m (ndAt X.nodes k0).comment).length oc5) ((oneT R p (ndAt X.nodes k0).m (ndAt X.nodes k0).comment ++ txtV R p ((ks.take 0).map (brN X.nodes f')))).length (strsB (oneT R p (ndAt X.nodes k0).m (ndAt X.nodes k0).comment ++ txtV R p ((ks.take 0).map (brN X.nodes f'))))) := Lib.hid (by rw [List.take_zero, List.map_nil, txtV, List.append_nil]; exact HO5.out)
  clear HO5 hds
  go_loopw [32, 9, 11, 12] (fun v32 v9 v11 v12 wr => ∃ (i : Nat) (o9 o11 o12 : Value), o9 = v9 ∧ o11 = v11 ∧ o12 = v12 ∧ i ≤ ks.length ∧ v32 = .int .i64 i ∧ Hid (wr.ownsRow w1.heap.size 9 1 o9 ((oneT R p (ndAt X.nodes k0).m (ndAt X.nodes k0).comment ++ txtV R p ((ks.take i).map (brN X.nodes f')))).length (strsB (oneT R p (ndAt X.nodes k0).m (ndAt X.nodes k0).comment ++ txtV R p ((ks.take i).map (brN X.nodes f'))))) ∧ Hid (Below w1.heap.size w1 wr)) (fun v _ _ _ _ => ks.length - (intOf v).toNat)
  case atStart => exact ⟨0, _, _, _, rfl, rfl, rfl, Nat.zero_le _, rfl, H0, HL5⟩
  case round =>
   obtain ⟨i, o9, o11, o12, rfl, rfl, rfl, hi, rfl, HR9, HLr⟩ := hrel
   by_cases hlt : i < ks.length
   ·obtain rfl := HSA.out (by omega)
    have hltI : (i : Int) < (ks.length : Int) := by omega
    obtain ⟨k, hk⟩ : ∃ k, ks[i]? = some k := ⟨_, List.getElem?_eq_getElem hlt⟩
    have HKk := Lib.hid (HKO.out k (List.mem_cons_of_mem _ (List.mem_of_getElem? hk)))
    have kc1 : wr.cell? ⟨gk, 1 + i, none⟩ = some (.int .i64 k) := by
     refine (HLr.out.cell (p := ⟨gk, 1 + i, none⟩) hgk2).trans ?_
     rw [Nat.add_comm]
     have := HKC.out (i + 1) (by simp; omega)
     rw [List.getD_cons_succ, List.getD_eq_getElem?_getD, hk] at this
     exact this
    have HS2 : Hid ((oneT R p (ndAt X.nodes k0).m (ndAt X.nodes k0).comment ++ txtV R p ((ks.take (i + 1)).map (brN X.nodes f'))) = (oneT R p (ndAt X.nodes k0).m (ndAt X.nodes k0).comment ++ txtV R p ((ks.take i).map (brN X.nodes f'))) ++ [varT R p (brN X.nodes f' k)]) := Lib.hid (by
     have e : ks.take (i + 1) = ks.take i ++ [k] := by rw [List.take_add_one, hk]; rfl
     rw [e, List.map_append, List.map_cons, List.map_nil, txtV_snoc, List.append_assoc])
    have hol : ((oneT R p (ndAt X.nodes k0).m (ndAt X.nodes k0).comment ++ txtV R p ((ks.take i).map (brN X.nodes f')))).length ≤ 400 := by
     have h1 := HTt.out.1
     have h2 := HCn.out
     rw [HTr.out, txtL, List.length_append, List.length_append] at h1
     rw [HTr.out] at h2
     have h3 := txtV_take R p ((ks.map (brN X.nodes f'))) i
     rw [← List.map_take] at h3
     rw [List.length_append]
     change (oneT R p (ndAt X.nodes k0).m (ndAt X.nodes k0).comment).length + _ ≤ _ at h1
     omega
    obtain ⟨lo, hto⟩ : ∃ lo, lo = (oneT R p (ndAt X.nodes k0).m (ndAt X.nodes k0).comment ++ txtV R p ((ks.take i).map (brN X.nodes f'))) := ⟨_, rfl⟩
    rw [← hto] at HR9 HS2 hol
    obtain ⟨o9a, o9c, rfl⟩ := own_form2 HR9.out
    clear hk hi hto
    go_wp2_with fail
    have Lz : Below w1.heap.size w1 wr.drew := HLr.out.drew
    have Az := HA1.out.below Lz hb3l
    have Ez := HE1.out.below Lz hb4l
    have Dz := HD1.out.below Lz hbl1
    have Wz := below_trans HL1.out Lz HL1.out.size
    have kz := (Lz.cell (p := ⟨gk, 0, none⟩) hgk2).trans k00
    refine wp_region_noPanic ?_
    refine beginL (S := (fun w' => w'.cell? ⟨b3, 0, none⟩ = some (.pointer (some ⟨b, 0, none⟩)) ∧ w'.cell? ⟨b4, 0, none⟩ = some vc ∧ w'.cell? ⟨b4, 1, none⟩ = some v0 ∧ w'.cell? ⟨b4, 2, none⟩ = some v1 ∧ w'.cell? ⟨b4, 3, none⟩ = some (.int .i64 p.turn) ∧ w'.cell? ⟨b4, 4, none⟩ = some (.int .i64 p.quiet))) (L := []) (by kernel_rfl) (by and_intros <;> first | exact Az.cell _ rfl | exact Ez.cell _ rfl) (fun hHeld => ?_)
    refine tkL 0 ?_
    refine tkL 1 ?_
    refine tkW 2 ?_
    refine tkL 4 ?_
    refine tkW 5 ?_
    refine tkW 6 ?_
    refine tkW 8 ?_
    refine cnL 3 fun K hK => ?_
    go_simp
    refine (wone_any HSh.out X ta tc gn on nc k b p vc v0 v1 wr.drew Dz (HR.out.below Wz (Nat.le_refl _)) (HP.out.below Wz (Nat.le_refl _)) HK.out HLt.out hll HKk.out.lt HKk.out.cs (ofOk_of HK.out (ok_mem HKk.out.ok).2) (HNd.out.below Wz (Nat.le_refl _)).1 (HNd.out.below Wz (Nat.le_refl _)).2).mono ?_
    rintro e w10 ⟨v10, rfl, ho10, hb10⟩
    have L10 := below_trans Lz hb10 Lz.size
    have A10 := HA1.out.below L10 hb3l
    have E10 := HE1.out.below L10 hb4l
    have D10 := HD1.out.below L10 hbl1
    have W10 := below_trans HL1.out L10 HL1.out.size
    have k10 := (L10.cell (p := ⟨gk, 0, none⟩) hgk2).trans k00
    refine hK.out _ _ (by and_intros <;> first | exact A10.cell _ rfl | exact E10.cell _ rfl) (fun hHeld => ?_)
    clear hK K
    refine cnL 7 fun K hK => ?_
    go_simp
    refine (next_any X ta tc gn on nc k b b3 b4 p vc v0 v1 w10 D10 A10 E10 (HP.out.below W10 (Nat.le_refl _)) HK.out HKk.out.lt (ok_mem HKk.out.ok).2 (HNd.out.below W10 (Nat.le_refl _))).mono ?_
    rintro e w20 ⟨yc, y0, y1, rfl, ho20, hb20⟩
    have L20 := below_trans L10 hb20 L10.size
    have A20 := HA1.out.below L20 hb3l
    have E20 := HE1.out.below L20 hb4l
    have D20 := HD1.out.below L20 hbl1
    have W20 := below_trans HL1.out L20 HL1.out.size
    have k20 := (L20.cell (p := ⟨gk, 0, none⟩) hgk2).trans k00
    unfold posV
    have R20 := own_stays ho10 hb20
    refine hK.out _ _ (by and_intros <;> first | exact A20.cell _ rfl | exact E20.cell _ rfl) (fun hHeld => ?_)
    clear hK K
    refine cnL 9 fun K hK => ?_
    go_simp
    refine (HIHf.out (k : Int) (makeZ R p (ndAt X.nodes k).m) yc y0 y1 w20 D20 (HR.out.below W20 (Nat.le_refl _)) (HX.out.below W20 (Nat.le_refl _)) ho20.rd (make_ok HK.out (ok_mem HKk.out.ok).2) (by have := HKk.out.par; omega) HKk.out.leg HKk.out.sz (by have := HKk.out.cn; omega)).mono ?_
    rintro e w30 ⟨v30, rfl, ho30, hb30⟩
    have L30 := below_trans L20 hb30 L20.size
    have A30 := HA1.out.below L30 hb3l
    have E30 := HE1.out.below L30 hb4l
    have D30 := HD1.out.below L30 hbl1
    have W30 := below_trans HL1.out L30 HL1.out.size
    have k30 := (L30.cell (p := ⟨gk, 0, none⟩) hgk2).trans k00
    have R30 := own_stays R20 hb30
    refine hK.out _ _ (by and_intros <;> first | exact A30.cell _ rfl | exact E30.cell _ rfl) (fun hHeld => ?_)
    clear hK K
    refine cnL 10 fun K hK => ?_
    rw [if_pos (by rfl)]
    refine wp_app_strs _ _ rfl w1.heap.size v10 (oneT R p (ndAt X.nodes k).m (ndAt X.nodes k).comment) rfl (own_base R30 Lz.size) w1.heap.size v30 (txtL R (makeZ R p (ndAt X.nodes k).m) (treeF X.nodes f' k)) rfl (own_base ho30 L20.size) (by have := HKk.out.tot.1; rw [List.length_append] at this; omega) L30.size ?_
    intro v40 w40 ho40 hg40
    have L40 := below_grown L30 (own_base R30 Lz.size) hg40 L30.size
    have A40 := HA1.out.below L40 hb3l
    have E40 := HE1.out.below L40 hb4l
    have D40 := HD1.out.below L40 hbl1
    have W40 := below_trans HL1.out L40 HL1.out.size
    have k40 := (L40.cell (p := ⟨gk, 0, none⟩) hgk2).trans k00
    refine hK.out _ _ (by and_intros <;> first | exact A40.cell _ rfl | exact E40.cell _ rfl) (fun hHeld => ?_)
    clear hK K
    refine tkW 11 ?_
    refine dnN ?_
    have HO9 := Lib.hid ho40
    have HL9 := Lib.hid L40
    have HG9 := Lib.hid (below_trans (below_trans hb10 hb20 hb10.size) hb30 (below_trans hb10 hb20 hb10.size).size)
    have HF9 := Lib.hid (Below.grown (B := wr.heap.size) (HG9.out : Below _ _ _) hg40 HG9.out.size (fun j hj => (R30.lt j hj).1))
    clear hHeld Az Ez Dz Wz Lz kz A10 E10 D10 W10 L10 k10 A20 E20 D20 W20 L20 k20 A30 E30 D30 W30 L30 k30 A40 E40 D40 W40 L40 k40 ho10 ho20 ho30 ho40 hb10 hb20 hb30 hg40 R20 R30 HG9
    have HR40 := Lib.hid (own_stays (w := wr.drew) (b := w1.heap.size) HR9.out HF9.out)
    clear HF9 HR9
    obtain ⟨tk, htk⟩ : ∃ tk, tk = oneT R p (ndAt X.nodes k).m (ndAt X.nodes k).comment ++ txtL R (makeZ R p (ndAt X.nodes k).m) (treeF X.nodes f' k) := ⟨_, rfl⟩
    have htl := HKk.out.tot
    rw [← htk] at HO9 htl
    obtain ⟨j, hj⟩ : ∃ j, j = bs (joinB tk) := ⟨_, rfl⟩
    have hjs : j.size ≤ 208000 := by rw [hj, bs_size]; have h1 := joinB_len tk; omega
    obtain ⟨tx, htx⟩ : ∃ tx, tx = (⟨#[40]⟩ ++ j ++ ⟨#[41]⟩ : ByteArray) := ⟨_, rfl⟩
    have HTX := Lib.hid htx.symm
    have HVT : Hid (bs (varT R p (brN X.nodes f' k)) = tx) := Lib.hid (by rw [htx, hj, bs_par, htk]; unfold varT brN; rw [txtB]; rfl)
    have hjj := HJh.out w1.heap.size v40 _ w40 HO9.out (by omega) (fun x hx => by have h1 := tot_mem hx; omega)
    rw [← hj] at hjj
    have HJj := Lib.hid hjj
    obtain ⟨a40, c40, rfl⟩ := own_form2 HO9.out
    have HTL := Lib.hid htl
    clear hjj hj htx HLr htk htl
    go_wp2_with fail
    refine HJj.out.mono ?_
    rintro e w41 ⟨rfl, hb41⟩
    have HR41 := Lib.hid (own_stays HR40.out hb41)
    have HL41 := Lib.hid (below_trans HL9.out hb41 HL9.out.size)
    have hw41 : w1.heap.size ≤ w41.heap.size := HL41.out.size
    have hs1 : ¬ 9223372036854775807 < 1 + j.size := by omega
    have hs2 : ¬ 9223372036854775807 < 1 + j.size + 1 := by omega
    clear hb41 HR40 HL9 HJj HO9
    go_wp2_with (at_builtin; rw [HTX.out]; refine app_at 63 9 (.string ⟨#[]⟩) 1 16 infoStr Tryz.underlying63 rfl (by decide) (by rfl) _ _ (by rfl) w1.heap.size _ lo.length (strsB lo) [.string tx] w41 HR41.out hw41 rfl (by intro u hu; simp at hu; subst hu; rfl) (by omega) (by omega) (by rfl) (by rfl) ?_)
    intro g6 cap6 w7 hown6 hat6 hgr6
    have HL7 := Lib.hid (Below.grown (HL41.out.alloc hw41 (.cells #[.string tx] 9)) hgr6 (by have := hw41; simp; omega) (fun j hj => (HR41.out.lt j hj).1))
    have HR7 : Hid (w7.ownsRow w1.heap.size 9 1 (.slice (some ⟨g6, 0, none⟩) (lo.length + 1) cap6) ((oneT R p (ndAt X.nodes k0).m (ndAt X.nodes k0).comment ++ txtV R p ((ks.take (i + 1)).map (brN X.nodes f')))).length (strsB (oneT R p (ndAt X.nodes k0).m (ndAt X.nodes k0).comment ++ txtV R p ((ks.take (i + 1)).map (brN X.nodes f'))))) := Lib.hid (by
     have h1 : strsB lo ++ [.string tx] = strsB (lo ++ [varT R p (brN X.nodes f' k)]) := by rw [← strsB_app, strsB_cons, HVT.out]; rfl
     rw [h1] at hown6
     rw [HS2.out]
     have h2 : (lo ++ [varT R p (brN X.nodes f' k)]).length = lo.length + 1 := by rw [List.length_append]; rfl
     rw [h2]
     exact hown6)
    have HI2 := Lib.hid hlt
    clear hown6 hat6 hgr6 HR41 HL41 hlt
    go_wp2_with fail
    go_roundw
    case rel => exact ⟨i + 1, _, _, _, rfl, rfl, rfl, HI2.out, by go_num, HR7, HL7⟩
    case measure => have := HI2.out; simp [intOf]; omega
   ·obtain rfl : i = ks.length := by omega
    have hltI : ¬ (ks.length : Int) < (ks.length : Int) := by omega
    have HRe : Hid (wr.ownsRow w1.heap.size 9 1 o9 (oneT R p (ndAt X.nodes k0).m (ndAt X.nodes k0).comment ++ txtV R p (ks.map (brN X.nodes f'))).length (strsB (oneT R p (ndAt X.nodes k0).m (ndAt X.nodes k0).comment ++ txtV R p (ks.map (brN X.nodes f'))))) := Lib.hid (by have := HR9.out; rwa [List.take_of_length_le (Nat.le_refl _)] at this)
    go_wp2_with fail
    have Lz : Below w1.heap.size w1 wr.drew := HLr.out.drew
    have Az := HA1.out.below Lz hb3l
    have Ez := HE1.out.below Lz hb4l
    have Dz := HD1.out.below Lz hbl1
    have Wz := below_trans HL1.out Lz HL1.out.size
    have kz := (Lz.cell (p := ⟨gk, 0, none⟩) hgk2).trans k00
    have HRz : World.ownsRow wr.drew w1.heap.size 9 1 o9 _ _ := HRe.out
    refine wp_region_noPanic ?_
    refine beginL (S := (fun w' => w'.cell? ⟨b3, 0, none⟩ = some (.pointer (some ⟨b, 0, none⟩)) ∧ w'.cell? ⟨b4, 0, none⟩ = some vc ∧ w'.cell? ⟨b4, 1, none⟩ = some v0 ∧ w'.cell? ⟨b4, 2, none⟩ = some v1 ∧ w'.cell? ⟨b4, 3, none⟩ = some (.int .i64 p.turn) ∧ w'.cell? ⟨b4, 4, none⟩ = some (.int .i64 p.quiet) ∧ w'.cell? ⟨gk, 0, none⟩ = some (.int .i64 k0))) (L := []) (by kernel_rfl) ⟨Az.cell 0 rfl, Ez.cell 0 rfl, Ez.cell 1 rfl, Ez.cell 2 rfl, Ez.cell 3 rfl, Ez.cell 4 rfl, kz⟩ (fun hHeld => ?_)
    refine tkW 0 ?_
    refine tkL 1 ?_
    refine tkW 2 ?_
    refine tkW 3 ?_
    refine tkW 7 ?_
    refine tkW 4 ?_
    refine tkW 8 ?_
    refine tkL 5 ?_
    refine tkL 9 ?_
    refine cnL 6 fun K hK => ?_
    go_simp
    refine (next_any X ta tc gn on nc k0 b b3 b4 p vc v0 v1 wr.drew Dz Az Ez (HP.out.below Wz (Nat.le_refl _)) HK.out HK0.out.lt (ok_mem HK0.out.ok).2 (HNd.out.below Wz (Nat.le_refl _))).mono ?_
    rintro e w20 ⟨yc, y0, y1, rfl, ho20, hb20⟩
    have L20 := below_trans Lz hb20 Lz.size
    have A20 := HA1.out.below L20 hb3l
    have E20 := HE1.out.below L20 hb4l
    have D20 := HD1.out.below L20 hbl1
    have W20 := below_trans HL1.out L20 HL1.out.size
    have k20 := (L20.cell (p := ⟨gk, 0, none⟩) hgk2).trans k00
    unfold posV
    have R20 := own_stays HRz hb20
    refine hK.out _ _ ⟨A20.cell 0 rfl, E20.cell 0 rfl, E20.cell 1 rfl, E20.cell 2 rfl, E20.cell 3 rfl, E20.cell 4 rfl, k20⟩ (fun hHeld => ?_)
    clear hK K
    refine cnL 10 fun K hK => ?_
    go_simp
    refine (HIHf.out (k0 : Int) (makeZ R p (ndAt X.nodes k0).m) yc y0 y1 w20 D20 (HR.out.below W20 (Nat.le_refl _)) (HX.out.below W20 (Nat.le_refl _)) ho20.rd (make_ok HK.out (ok_mem HK0.out.ok).2) (by have := HK0.out.par; omega) HK0.out.leg HK0.out.sz (by have := HK0.out.cn; omega)).mono ?_
    rintro e w30 ⟨v30, rfl, ho30, hb30⟩
    have L30 := below_trans L20 hb30 L20.size
    have A30 := HA1.out.below L30 hb3l
    have E30 := HE1.out.below L30 hb4l
    have D30 := HD1.out.below L30 hbl1
    have W30 := below_trans HL1.out L30 HL1.out.size
    have k30 := (L30.cell (p := ⟨gk, 0, none⟩) hgk2).trans k00
    have R30 := own_stays R20 hb30
    refine hK.out _ _ ⟨A30.cell 0 rfl, E30.cell 0 rfl, E30.cell 1 rfl, E30.cell 2 rfl, E30.cell 3 rfl, E30.cell 4 rfl, k30⟩ (fun hHeld => ?_)
    clear hK K
    refine cnL 11 fun K hK => ?_
    rw [if_pos (by rfl)]
    have hle : (oneT R p (ndAt X.nodes k0).m (ndAt X.nodes k0).comment ++ txtV R p (ks.map (brN X.nodes f'))).length + (txtL R (makeZ R p (ndAt X.nodes k0).m) (treeF X.nodes f' k0)).length ≤ 1000000 := by
     have h1 := HTt.out.1
     rw [HTr.out, txtL, show txtB R p (brN X.nodes f' k0) = txtL R (makeZ R p (ndAt X.nodes k0).m) (treeF X.nodes f' k0) by unfold brN; rw [txtB]] at h1
     have h2 := HCn.out
     rw [HTr.out] at h2
     simp only [List.length_append] at h1 ⊢
     change (oneT R p (ndAt X.nodes k0).m (ndAt X.nodes k0).comment).length + _ ≤ _ at h1
     omega
    refine wp_app_strs _ _ rfl w1.heap.size o9 (oneT R p (ndAt X.nodes k0).m (ndAt X.nodes k0).comment ++ txtV R p (ks.map (brN X.nodes f'))) rfl R30 w1.heap.size v30 (txtL R (makeZ R p (ndAt X.nodes k0).m) (treeF X.nodes f' k0)) rfl (own_base ho30 L20.size) hle L30.size ?_
    intro v40 w40 ho40 hg40
    have L40 := below_grown L30 R30 hg40 L30.size
    have A40 := HA1.out.below L40 hb3l
    have E40 := HE1.out.below L40 hb4l
    have D40 := HD1.out.below L40 hbl1
    have W40 := below_trans HL1.out L40 HL1.out.size
    have k40 := (L40.cell (p := ⟨gk, 0, none⟩) hgk2).trans k00
    refine hK.out _ _ ⟨A40.cell 0 rfl, E40.cell 0 rfl, E40.cell 1 rfl, E40.cell 2 rfl, E40.cell 3 rfl, E40.cell 4 rfl, k40⟩ (fun hHeld => ?_)
    clear hK K
    refine tkW 12 ?_
    refine dnN ?_
    have HO12 := Lib.hid ho40
    have HL12 := Lib.hid W40
    clear hHeld Az Ez Dz Wz Lz kz HRz A20 E20 D20 W20 L20 k20 A30 E30 D30 W30 L30 k30 A40 E40 D40 W40 L40 k40 ho20 ho30 ho40 hb20 hb30 hg40 R20 R30
    go_wp2_with fail
    go_ret
    refine ⟨_, rfl, ?_, HL12.out⟩
    rw [HTr.out, txtL]
    have e : txtB R p (brN X.nodes f' k0) = txtL R (makeZ R p (ndAt X.nodes k0).m) (treeF X.nodes f' k0) := by unfold brN; rw [txtB]
    rw [e, ← List.append_assoc]
    exact own_base HO12.out HL1.out.size
theorem wafter_any (HS : SortMvSaid) (HJ : JoinSaidB) (L : LetOk R) (X : RecZ) (hB : Back X.nodes X.nodes.length) (hnl : X.nodes.length ≤ 1000) (ta na : Option Addr) (tc nc b : Nat) (f : Nat) : AfterAt R vp vs ve X ta na tc nc b f := by
 induction f using Nat.strongRecOn with
 | ind f ih => exact wafter_step HS HJ L X hB hnl ta na tc nc b f ih
end Go.Proofs.YthklhndcdijneaaGreatDoor
namespace Go.Proofs.YthklhndcdijneaaGreatDoor
open Go.ChangeShapes Go.WideShapes Go.ChangeAt Go.RowKit
set_option linter.unusedVariables false
theorem rCmt_tot {l : Byt} {q : Byt × Byt} (h : rCmt l = .ok q) : tot (if q.1 = [] then [] else [123 :: (q.1 ++ [125])]) + 2 * q.2.length ≤ 2 * l.length ∧ (q.1 ≠ [] → q.1.length + 2 + q.2.length ≤ l.length) := by
 have hg := got_le 123 l
 unfold rCmt at h
 by_cases h1 : (got 123 l).1 = false
 ·rw [if_pos h1] at h
  obtain rfl := Except.ok.inj h
  rw [if_pos rfl]
  exact ⟨by show 0 + 2 * (got 123 l).2.length ≤ _; omega, fun h => absurd rfl h⟩
 ·rw [if_neg h1] at h
  have hl := got_lt (c := 123) (l := l) (by simpa using h1)
  cases hu : upTo1 125 (got 123 l).2 with
  | none => rw [hu] at h; cases h
  | some v =>
   rw [hu] at h
   dsimp only at h
   by_cases h2 : v.1 = []
   ·rw [if_pos h2] at h; cases h
   ·rw [if_neg h2] at h
    obtain rfl := Except.ok.inj h
    have hv := up1_le 125 _ _ hu
    rw [if_neg h2, tot_cons]
    simp only [List.length_cons, List.length_append, List.length_nil]
    refine ⟨by show _ + 0 + _ ≤ _; omega, fun _ => by omega⟩
theorem bs_nil {b : Byt} : (bs b).size = 0 ↔ b = [] := by rw [bs_size]; exact List.length_eq_zero_iff
theorem rMove_tot {R : RulesZ} {p : PosZ} {l : Byt} {x : MoveZ × Byt × Byt} (h : rMove R p l = .ok x) : tot (oneT R p x.1 (bs x.2.1)) + 2 * x.2.2.length ≤ 2 * l.length := by
 have hb := blank_le l
 unfold rMove at h
 by_cases h0 : wordB (blank l) = []
 ·rw [if_pos h0] at h; cases h
 rw [if_neg h0] at h
 by_cases h1 : resultZ R p ≠ 0
 ·rw [if_pos h1] at h; cases h
 rw [if_neg h1] at h
 by_cases h2 : readErr R p (bs (wordB (blank l))) ≠ 0
 ·rw [if_pos h2] at h; cases h
 rw [if_neg h2] at h
 have hre : readErr R p (bs (wordB (blank l))) = 0 := Decidable.byContradiction h2
 cases hc : rCmt ((blank l).drop (wordB (blank l)).length) with
 | error e => rw [hc] at h; cases h
 | ok q =>
  rw [hc] at h
  obtain rfl := Except.ok.inj h
  obtain ⟨h3, -⟩ := rCmt_tot hc
  have hw : 1 ≤ (wordB (blank l)).length := by
   rcases Nat.eq_zero_or_pos (wordB (blank l)).length with e | e
   ·exact absurd (List.length_eq_zero_iff.1 e) h0
   ·exact e
  have hd := List.length_drop (i := (wordB (blank l)).length) (l := blank l)
  have hwl : (wordB (blank l)).length ≤ (blank l).length := wordB_le (blank l)
  have ho : ofT R p (listZ R p) (readZ R p (bs (wordB (blank l)))) = bs (wordB (blank l)) := by
   obtain ⟨s, hs⟩ : ∃ s, s = bs (wordB (blank l)) := ⟨_, rfl⟩
   rw [← hs] at hre ⊢
   unfold readZ
   rw [if_pos hre]
   unfold readErr at hre
   by_cases q : posErr R p ≠ 0
   ·rw [if_pos q] at hre; exact absurd hre q
   rw [if_neg q] at hre
   by_cases r : readI R p s < 0
   ·rw [if_pos r] at hre; exact absurd hre (by decide)
   have hget := idx_at (fun x => ofT R p (listZ R p) x == s) (listZ R p) 0 (by omega) (by unfold readI at r; omega)
   rw [Int.sub_zero] at hget
   exact baB.1 hget
  show tot (oneT R p (readZ R p (bs (wordB (blank l)))) (bs q.1)) + 2 * q.2.length ≤ 2 * l.length
  have e : ∀ m c, oneT R p m c = (ofT R p (listZ R p) m).data.toList :: (if c.size = 0 then [] else [123 :: (c.data.toList ++ [125])]) := fun _ _ => rfl
  rw [e, ho, tot_cons]
  have e2 : (bs (wordB (blank l))).data.toList = wordB (blank l) := by simp [bs]
  have e3 : (bs q.1).data.toList = q.1 := by simp [bs]
  rw [e2, e3]
  have e4 : (if (bs q.1).size = 0 then ([] : List Byt) else [123 :: (q.1 ++ [125])]) = (if q.1 = [] then [] else [123 :: (q.1 ++ [125])]) := by
   by_cases hq : q.1 = []
   ·rw [if_pos hq, if_pos (bs_nil.2 hq)]
   ·rw [if_neg hq, if_neg (fun h => hq (bs_nil.1 h))]
  rw [e4]
  omega
theorem rest_tot (R : RulesZ) : ∀ f : Nat, (∀ p l q, rAfter R f p l = .ok q → tot (txtL R p q.1) + 2 * q.2.length ≤ 2 * l.length) ∧ (∀ p l q, rVars R f p l = .ok q → tot (txtV R p q.1) + 2 * q.2.length ≤ 2 * l.length) := by
 intro f
 have z1 : ∀ p, tot (txtL R p []) = 0 := fun p => by rw [txtL]; rfl
 have z2 : ∀ p, tot (txtV R p []) = 0 := fun p => by rw [txtV]; rfl
 induction f with
 | zero => exact ⟨fun p l q h => by rw [rAfter] at h; obtain rfl := Except.ok.inj h; dsimp only; rw [z1]; omega, fun p l q h => by rw [rVars] at h; obtain rfl := Except.ok.inj h; dsimp only; rw [z2]; omega⟩
 | succ f ih =>
  refine ⟨fun p l q h => ?_, fun p l q h => ?_⟩
  ·have hb := blank_le l
   rw [rAfter] at h
   split at h
   ·obtain rfl := Except.ok.inj h; dsimp only; rw [z1]; omega
   ·cases hm : rMove R p (blank l) with
    | error e => rw [hm] at h; cases h
    | ok x =>
     rw [hm] at h
     dsimp only at h
     have h1 := rMove_tot hm
     cases hv : rVars R f p x.2.2 with
     | error e => rw [hv] at h; cases h
     | ok v =>
      rw [hv] at h
      dsimp only at h
      have h2 := ih.2 _ _ _ hv
      cases ha : rAfter R f (makeZ R p x.1) v.2 with
      | error e => rw [ha] at h; cases h
      | ok k =>
       rw [ha] at h
       obtain rfl := Except.ok.inj h
       have h3 := ih.1 _ _ _ ha
       show tot (txtL R p (.mk x.1 (bs x.2.1) k.1 :: v.1)) + 2 * k.2.length ≤ 2 * l.length
       rw [txtL, txtB, tot_app, tot_app]
       show tot (oneT R p x.1 (bs x.2.1)) + _ + _ ≤ _
       omega
  ·have hg := got_le 40 l
   rw [rVars] at h
   split at h
   ·obtain rfl := Except.ok.inj h; dsimp only; rw [z2]; omega
   ·rename_i hg0
    have hg0' := got_lt (c := 40) (l := l) (by simpa using hg0)
    cases hm : rMove R p (got 40 l).2 with
    | error e => rw [hm] at h; cases h
    | ok x =>
     rw [hm] at h
     dsimp only at h
     have h1 := rMove_tot hm
     cases ha : rAfter R f (makeZ R p x.1) x.2.2 with
     | error e => rw [ha] at h; cases h
     | ok k =>
      rw [ha] at h
      dsimp only at h
      have h3 := ih.1 _ _ _ ha
      split at h
      ·cases h
      ·rename_i hg1
       have hg2 := got_lt (c := 41) (l := k.2) (by simpa using hg1)
       cases hv : rVars R f p (got 41 k.2).2 with
       | error e => rw [hv] at h; cases h
       | ok v =>
        rw [hv] at h
        obtain rfl := Except.ok.inj h
        have h2 := ih.2 _ _ _ hv
        show tot (txtV R p (.mk x.1 (bs x.2.1) k.1 :: v.1)) + 2 * v.2.length ≤ 2 * l.length
        have h4 := joinB_len (oneT R p x.1 (bs x.2.1) ++ txtL R (makeZ R p x.1) k.1)
        rw [tot_app] at h4
        rw [txtV, txtB, tot_cons]
        show (40 :: (joinB (oneT R p x.1 (bs x.2.1) ++ txtL R (makeZ R p x.1) k.1) ++ [41])).length + 1 + _ + _ ≤ _
        simp only [List.length_cons, List.length_append, List.length_nil]
        omega
theorem tagB_len (t : TagZ) : (tagB t).length = t.key.size + t.value.size + 6 := by
 unfold tagB bt
 simp only [List.length_cons, List.length_append, List.length_nil, Array.length_toList, ByteArray.size_data]
 omega
theorem rTags_tot : ∀ (f : Nat) (l : Byt) (q : List TagZ × Byt), rTags f l = .ok q → (tagsB q.1).length + 2 * q.2.length ≤ 2 * l.length
 | 0, l, q, h => by rw [rTags] at h; obtain rfl := Except.ok.inj h; show 0 + 2 * l.length ≤ _; omega
 | f + 1, l, q, h => by
  have hg := got_le 91 l
  rw [rTags] at h
  split at h
  ·obtain rfl := Except.ok.inj h; show 0 + 2 * (got 91 l).2.length ≤ _; omega
  ·rename_i hg0
   have hg1 := got_lt (c := 91) (l := l) (by simpa using hg0)
   cases hk : upTo2 32 34 (got 91 l).2 with
   | none => rw [hk] at h; cases h
   | some k =>
    rw [hk] at h
    dsimp only at h
    have h1 := up2_le _ _ _ _ hk
    cases hv : upTo2 34 93 k.2 with
    | none => rw [hv] at h; cases h
    | some v =>
     rw [hv] at h
     dsimp only at h
     have h2 := up2_le _ _ _ _ hv
     cases hr : rTags f v.2 with
     | error e => rw [hr] at h; cases h
     | ok r =>
      rw [hr] at h
      obtain rfl := Except.ok.inj h
      have h3 := rTags_tot f _ _ hr
      show (tagsB (⟨bs k.1, bs v.1⟩ :: r.1)).length + 2 * r.2.length ≤ 2 * l.length
      unfold tagsB at h3 ⊢
      rw [List.flatMap_cons, List.length_append, tagB_len]
      show (bs k.1).size + (bs v.1).size + 6 + _ + _ ≤ _
      rw [bs_size, bs_size]
      omega
theorem res_len : ∀ n : Nat, (resTx.getD n []).length ≤ 3
 | 0 => by decide
 | 1 => by decide
 | 2 => by decide
 | 3 => by decide
 | n + 4 => by simp [resTx]
/-- what is read is written with at most twice the bytes, and ten. -/
theorem read_tot {R : RulesZ} {l : Byt} {X : RecZ} (h : rRead R l = .ok X) (hX : recErr R X = 0) : (textB R X).length ≤ 2 * l.length + 10 := by
 unfold rRead at h
 cases ht : rTags (l.length + 1) l with
 | error e => rw [ht] at h; cases h
 | ok t =>
  rw [ht] at h
  dsimp only at h
  have h1 := rTags_tot _ _ _ ht
  cases hb : rBody R t.2 with
  | error e => rw [hb] at h; cases h
  | ok q =>
   rw [hb] at h
   obtain rfl := Except.ok.inj h
   unfold rBody at hb
   cases hc : rCmt t.2 with
   | error e => rw [hc] at hb; cases hb
   | ok c =>
    rw [hc] at hb
    dsimp only at hb
    obtain ⟨h4, -⟩ := rCmt_tot hc
    cases ha : rAfter R (c.2.length + 1) (beginZ R) c.2 with
    | error e => rw [ha] at hb; cases hb
    | ok k =>
     rw [ha] at hb
     dsimp only at hb
     split at hb
     ·cases hb
     ·split at hb
      ·cases hb
      ·obtain rfl := Except.ok.inj hb
       have h5 := (rest_tot R _).1 _ _ _ ha
       dsimp only at hX ⊢
       have htr : trees ⟨t.1, bs c.1, flatL k.1 (-1) [], resI (wordB (blank k.2))⟩ = k.1 := tree_flat k.1
       have e4 : (if (bs c.1).size = 0 then ([] : List Byt) else [123 :: (bt (bs c.1) ++ [125])]) = (if c.1 = [] then [] else [123 :: (c.1 ++ [125])]) := by
        rw [bt_bs]
        by_cases hq : c.1 = []
        ·rw [if_pos hq, if_pos (bs_nil.2 hq)]
        ·rw [if_neg hq, if_neg (fun h => hq (bs_nil.1 h))]
       unfold textB partsX
       rw [htr]
       dsimp only
       rw [e4]
       have hr3 : (resB (resI (wordB (blank k.2)))).length ≤ 3 := res_len _
       generalize resB (resI (wordB (blank k.2))) = rb at *
       generalize (if c.1 = [] then ([] : List Byt) else [123 :: (c.1 ++ [125])]) = cb at *
       have h6 := joinB_len (cb ++ (txtL R (beginZ R) k.1 ++ [rb]))
       have h7 : tot [rb] = rb.length + 1 := by rw [tot_cons]; rfl
       rw [tot_app, tot_app, h7] at h6
       have h8 : k.2.length ≤ k.2.length := Nat.le_refl _
       simp only [List.length_append, List.length_cons, List.length_nil]
       omega
end Go.Proofs.YthklhndcdijneaaGreatDoor

/- The walk of robin.Check. -/
import Derived.Test.YtdmidjcjmkcopaaRobChk
namespace Go.Proofs.Ytdmidjcjmkcopaa
open Go.ChangeShapes Go.WideShapes Go.ChangeAt Go.RowKit Go.Maps
set_option linter.unusedVariables false

/-- a schedule that lies in memory. -/
def Sched (w : World) (v : Value) (rows : List (List (Int × Int))) : Prop :=
  ∃ vs : List Value, Rd w 1 rows.length v vs ∧ ∀ j (h : j < rows.length), ∃ u, vs[j]? = some u ∧ Rd w 2 rows[j].length u (flat rows[j])

theorem flat_at (gs : List (Int × Int)) (k : Nat) (h : k < gs.length) : (flat gs)[k * 2]? = some (.int .i64 gs[k].1) ∧ (flat gs)[k * 2 + 1]? = some (.int .i64 gs[k].2) := by
  induction gs generalizing k with
  | nil => simp at h
  | cons g t ih =>
    cases k with
    | zero => exact ⟨rfl, rfl⟩
    | succ k =>
      have := ih k (by simpa using h)
      have e : (k + 1) * 2 = k * 2 + 2 := by omega
      rw [e]
      exact this

theorem chk_err {z zs zr re x y c : Int} (HZ : z = if zs ≠ 0 then zs else x) (HE : zs = zr) (HES : zr = if re = 0 then y else re) (h : re = c) (hc : c ≠ 0) : z = c := by
  subst h
  rw [if_neg hc] at HES
  rw [HZ, HE, HES, if_pos hc]

theorem pair_step {tw : Bool} {gs : List (Int × Int)} {a b : Nat} (h : ∀ b' < b, okPair tw gs (a : Nat) (b' : Nat) = true) (hb : okPair tw gs a b = true) : ∀ b' < b + 1, okPair tw gs (a : Nat) (b' : Nat) = true := fun b' hb' =>
  (Nat.lt_or_ge b' b).elim (fun q => h b' q) (fun q => by obtain rfl : b' = b := by omega
                                                          exact hb)
theorem pairs_step {tw : Bool} {gs : List (Int × Int)} {a : Nat} (h : ∀ a' < a, ∀ b' < a', okPair tw gs (a' : Nat) (b' : Nat) = true) (hb : ∀ b' < a, okPair tw gs (a : Nat) (b' : Nat) = true) : ∀ a' < a + 1, ∀ b' < a', okPair tw gs (a' : Nat) (b' : Nat) = true := fun a' ha' b' hb' => by
  rcases Nat.lt_or_ge a' a with q | q
  · exact h a' q b' hb'
  · obtain rfl : a' = a := by omega
    exact hb b' hb'
theorem pairs_no {tw : Bool} {gs : List (Int × Int)} {n a b : Nat} (ha : a < n) (hb : b < a) (h : okPair tw gs a b = false) : ¬ pairsOk n tw gs = true := by
  unfold pairsOk
  rw [List.all_eq_true]
  intro q
  have := List.all_eq_true.1 (q a (List.mem_range.2 ha)) b (List.mem_range.2 hb)
  rw [h] at this
  cases this

def ChkPost (c : Int) (w : World) (e : Ending) (w' : World) : Prop := e = .returned (.int .i64 c) ∧ Below w.heap.size w w'

theorem Check_range (n : Int) (tw : Bool) (v : Value) (w : World) (h : n < 2 ∨ 32 < n) :
    Calls Try.prog 13 #[.int .i64 n, .bool tw, v] w (ChkPost 4 w) := by
  have H := Lib.hid h
  clear h
  go_enter Try.func13, Try.ntmps13
  go_wp2_with fail
  refine (Rounds_no n tw _ H.out).mono ?_
  rintro e w' ⟨rfl, rfl⟩
  go_wp2
  go_ret
  exact ⟨rfl, Below.refl _ _⟩

theorem Check_form (n : Nat) (tw : Bool) (rows : List (List (Int × Int))) (v : Value) (w : World) (h0 : 2 ≤ n) (h1 : n ≤ 32) (hS : Sched w v rows) (hl : rows.length ≤ 100) (hk : (rows.length : Int) ≠ roundsZ n tw) :
    Calls Try.prog 13 #[.int .i64 n, .bool tw, v] w (ChkPost 3 w) := by
  have hform : ∃ a c, v = .slice a rows.length c := by
    obtain ⟨vs, ⟨_, hv⟩, _⟩ := hS
    rcases hv with ⟨h, hz⟩ | ⟨g, o, c, h, _⟩
    · exact ⟨_, _, by rw [h, hz]⟩
    · exact ⟨_, _, h⟩
  obtain ⟨a, c, rfl⟩ := hform
  have hne : ((rows.length : Int) != roundsZ n tw) = true := by simpa using hk
  generalize rows.length = k at *
  clear hS hk
  have HN := Lib.hid hne
  clear hne
  go_enter Try.func13, Try.ntmps13
  go_wp2_with fail
  refine (Rounds_ok n tw _ (by omega) (by omega)).mono ?_
  rintro e w' ⟨rfl, rfl⟩
  generalize roundsZ n tw = kk at *
  have hn := HN.out
  clear HN
  go_wp2
  go_ret
  exact ⟨rfl, Below.refl _ _⟩

set_option maxHeartbeats 2000000 in
theorem Check_main (n : Nat) (tw : Bool) (rows : List (List (Int × Int))) (v : Value) (w : World) (h0 : 2 ≤ n) (h1 : n ≤ 32) (hS : Sched w v rows) (hl : rows.length ≤ 100) (hrl : ∀ r ∈ rows, r.length ≤ 100) (hk : (rows.length : Int) = roundsZ n tw) :
    Calls Try.prog 13 #[.int .i64 n, .bool tw, v] w (ChkPost (checkZ n tw rows) w) := by
  have hmm := @run_makeMap Try.prog
  have hpos : 1 ≤ rows.length := by
    have : 1 ≤ roundsZ n tw := by unfold roundsZ halfZ; split <;> omega
    omega
  obtain ⟨vs, ⟨_, hv⟩, hrows⟩ := hS
  rcases hv with ⟨_, hz⟩ | ⟨g, o, c, rfl, _, _, hcells⟩
  · omega
  have HZ := Lib.hid (show checkZ n tw rows = if rowsE n rows ≠ 0 then rowsE n rows else if pairsOk n tw rows.flatten = true then 0 else 8 by unfold checkZ; rw [if_neg (by simpa using hk)])
  have HR := Lib.hid hrows
  have HC := Lib.hid hcells
  have HK := Lib.hid hk
  have HRL := Lib.hid hrl
  clear hrows hcells hk hrl
  go_enter Try.func13, Try.ntmps13
  go_wp2_with fail
  refine (Rounds_ok n tw _ (by omega) (by omega)).mono ?_
  rintro e w' ⟨rfl, rfl⟩
  rw [← HK.out]
  go_wp2_with fail
  have HM0 := Lib.hid (mapInts_made w Try.prog 35 3)
  have hB0 : Below w.heap.size w (w.alloc (.map #[] 0)) := by go_grown
  go_loopw [35] (fun i wr => ∃ r : Nat, r ≤ rows.length ∧ i = .int .i64 r ∧ Hid (mapInts wr Try.prog 35 3 w.heap.size (100 * r) (metF (rows.take r).flatten)) ∧ Hid (rowsE n rows = rowsE n (rows.drop r)) ∧ Below w.heap.size w wr) (fun i _ => rows.length - (intOf i).toNat)
  case atStart => exact ⟨0, by omega, rfl, HM0, Lib.hid rfl, hB0⟩
  case round =>
    obtain ⟨r, hr, rfl, HM, HE, hbl⟩ := hrel
    by_cases hlt : r < rows.length
    · obtain ⟨u, hu, hRd⟩ := HR.out r hlt
      have cu : wr.cell? ⟨g, o + r, none⟩ = some u := by
        have := HC.out r (by omega)
        rw [hu] at this
        rw [hbl.cell (p := ⟨g, o + r, none⟩) (World.block_lt_of_cell? w _ this)]
        exact this
      have hsz : w.heap.size < wr.heap.size := HM.out.lt
      have hrl := HRL.out rows[r] (List.getElem_mem hlt)
      have HES := Lib.hid (rowsE_step n rows r hlt)
      have HFT := Lib.hid (flatten_take rows r hlt)
      obtain ⟨hfl, hform⟩ := hRd
      have hlen : rows[r].length ≤ 100 := hrl
      have hBel : Below w.heap.size w (wr.alloc (.map #[] 0)) := by go_grown
      have HN0 := Lib.hid (mapBools_made wr Try.prog 3 4)
      have HM1 := Lib.hid (HM.out.alloc (.map #[] 0))
      clear HM
      generalize hrow : rows[r] = row at *
      clear hrow hu hrl
      obtain ⟨wo, rfl⟩ : ∃ wo : World, wo = wr := ⟨_, rfl⟩
      have HF : Hid (∃ a c', u = .slice a row.length c' ∧ ∀ k (hk : k < row.length), ∃ gg oo, a = some ⟨gg, oo, none⟩ ∧ ∀ wx, Below w.heap.size w wx → wx.cell? ⟨gg, oo + k * 2, none⟩ = some (.int .i64 row[k].1) ∧ wx.cell? ⟨gg, oo + k * 2 + 1, none⟩ = some (.int .i64 row[k].2)) := Lib.hid (by
        rcases hform with ⟨h, hz⟩ | ⟨gg, oo, cc, h, _, _, hc⟩
        · exact ⟨none, 0, by rw [h, hz], fun k hk => by omega⟩
        · refine ⟨_, _, h, fun k hk => ⟨gg, oo, rfl, fun wx hb => ?_⟩⟩
          have q := flat_at row k hk
          have e1 := hc (k * 2) (by omega)
          have e2 := hc (k * 2 + 1) (by omega)
          rw [q.1] at e1
          rw [q.2, ← Nat.add_assoc] at e2
          exact ⟨(hb.cell (p := ⟨gg, oo + k * 2, none⟩) (World.block_lt_of_cell? w _ e1)).trans e1, (hb.cell (p := ⟨gg, oo + k * 2 + 1, none⟩) (World.block_lt_of_cell? w _ e2)).trans e2⟩)
      clear hform hfl
      obtain ⟨a, c', rfl, hcl⟩ := HF.out
      clear HF
      have HCL := Lib.hid hcl
      clear hcl
      go_wp2_with fail
      go_loopw [42] (fun i wr => ∃ k : Nat, k ≤ row.length ∧ i = .int .i64 k ∧ Hid (mapInts wr Try.prog 35 3 w.heap.size (100 * r + k) (metF ((rows.take r).flatten ++ row.take k))) ∧ Hid (mapBools wr Try.prog 3 4 wo.heap.size (2 * k) (busyF (row.take k))) ∧ Hid (rowE n [] row = rowE n (row.take k) (row.drop k)) ∧ Below w.heap.size w wr) (fun i _ => row.length - (intOf i).toNat)
      case atStart => exact ⟨0, by omega, rfl, Lib.hid (by simpa using HM1.out), Lib.hid (HN0.out.congr fun x => by simp [busyF]), Lib.hid rfl, hBel⟩
      case round =>
        obtain ⟨k, hk, rfl, HMk, HNk, HEk, hblk⟩ := hrel
        by_cases hltk : k < row.length
        · obtain ⟨gg, oo, rfl, hcl⟩ := HCL.out k hltk
          obtain ⟨c1, c2⟩ := hcl _ hblk
          clear hcl
          have HS := Lib.hid (rowE_step n row k hltk)
          have HT := Lib.hid (take_snocR row k hltk)
          have hszk : wo.heap.size < wr.heap.size := HNk.out.lt
          have hszm : w.heap.size < wr.heap.size := HMk.out.lt
          generalize hgk : row[k] = gk at *
          clear hgk
          obtain ⟨ga, gb⟩ := gk
          simp only at c1 c2
          go_wp2_with fail
          refine (two_any _ _ _ _).mono ?_
          rintro e w' ⟨rfl, rfl⟩
          cases hok : gameOk (n : Int) (ga, gb)
          · go_wp2
            go_ret
            refine ⟨?_, ?_⟩
            · rw [chk_err HZ.out HE.out HES.out (c := 4) (by rw [HEk.out, HS.out, hok]; rfl) (by omega)]
              rfl
            · go_grown
          · have hg4 : 0 ≤ ga ∧ ga < n ∧ 0 ≤ gb ∧ gb < n ∧ ga ≠ gb := by
              simp only [gameOk, Bool.and_eq_true, decide_eq_true_eq, Bool.not_eq_true', beq_eq_false_iff_ne] at hok
              omega
            obtain ⟨ha0, ha1, hb0, hb1, hab⟩ := hg4
            have kA := keyI_of ha0 (by omega : ga ≤ 1000)
            have kB := keyI_of hb0 (by omega : gb ≤ 1000)
            have kP := keyP_of (a := ga) (b := gb) ⟨ha0, by omega⟩ ⟨hb0, by omega⟩
            have mB := HNk.out.alloc (.cells #[.int .i64 ga, .int .i64 gb] 35)
            have mI := HMk.out.alloc (.cells #[.int .i64 ga, .int .i64 gb] 35)
            have hbW : Below w.heap.size w (wr.alloc (.cells #[.int .i64 ga, .int .i64 gb] 35)) := by go_grown
            have x1 : (wr.alloc (.cells #[.int .i64 ga, .int .i64 gb] 35)).cell? ⟨wr.heap.size, 0, none⟩ = some (.int .i64 ga) := by go_simp
            have x2 : (wr.alloc (.cells #[.int .i64 ga, .int .i64 gb] 35)).cell? ⟨wr.heap.size, 1, none⟩ = some (.int .i64 gb) := by go_simp
            clear c1 c2
            have lA := mB.look keyI Try.underlying47 Try.underlying4 (zeroB _) kA
            have lB := mB.look keyI Try.underlying47 Try.underlying4 (zeroB _) kB
            rw [busyF_at] at lA lB
            have HmB := Lib.hid mB
            have HmI := Lib.hid mI
            clear mB mI HMk HNk hblk
            generalize (wr.alloc (.cells #[.int .i64 ga, .int .i64 gb] 35)) = W at *
            generalize hsA : seenB (row.take k) ga = sA at *
            generalize hsB : seenB (row.take k) gb = sB at *
            have HsA := Lib.hid hsA
            have HsB := Lib.hid hsB
            clear hsA hsB
            have hW1 : wo.heap.size < W.heap.size := HmB.out.lt
            have hW2 : w.heap.size < W.heap.size := HmI.out.lt
            have hW3 : wr.heap.size < W.heap.size := World.block_lt_of_cell? W _ x1
            cases sA
            · cases sB
              · go_wp2_with fail
                have mB0 : mapBools W.drew Try.prog 3 4 wo.heap.size (2 * k) (busyF (row.take k)) := HmB.out
                have mI0 : mapInts W.drew Try.prog 35 3 w.heap.size (100 * r + k) (metF ((rows.take r).flatten ++ row.take k)) := HmI.out
                obtain ⟨wA, rA, mA, gA⟩ := mB0.store keyI Try.underlying47 Try.underlying4 (by unfold maxLen; omega) kA true
                obtain ⟨wAB, rAB, mAB, gAB⟩ := mA.store keyI Try.underlying47 Try.underlying4 (by unfold maxLen; omega) kB true
                obtain ⟨wB, rB, mBb, gB⟩ := mB0.store keyI Try.underlying47 Try.underlying4 (by unfold maxLen; omega) kB true
                obtain ⟨wBA, rBA, mBA, gBA⟩ := mBb.store keyI Try.underlying47 Try.underlying4 (by unfold maxLen; omega) kA true
                have y1 : W.drew.cell? ⟨wr.heap.size, 0, none⟩ = some (.int .i64 ga) := x1
                have y2 : W.drew.cell? ⟨wr.heap.size, 1, none⟩ = some (.int .i64 gb) := x2
                have ne1 : some wr.heap.size ≠ some wo.heap.size := by simp; omega
                have ne2 : some w.heap.size ≠ some wo.heap.size := by simp; omega
                have a1 : wA.cell? ⟨wr.heap.size, 0, none⟩ = some (.int .i64 ga) := gA.cell y1 ne1
                have a2 : wA.cell? ⟨wr.heap.size, 1, none⟩ = some (.int .i64 gb) := gA.cell y2 ne1
                have b1 : wB.cell? ⟨wr.heap.size, 0, none⟩ = some (.int .i64 ga) := gB.cell y1 ne1
                have b2 : wB.cell? ⟨wr.heap.size, 1, none⟩ = some (.int .i64 gb) := gB.cell y2 ne1
                have hbd : Below w.heap.size w W.drew := hbW.drew
                have HAB := Lib.hid (show _ ∧ _ ∧ _ ∧ _ ∧ _ from ⟨gAB.cell a1 ne1, gAB.cell a2 ne1, mAB, (mI0.kept gA ne2).kept gAB ne2, (hbd.grown gA (by simpa using Nat.le_of_lt hW2) (fun j hj => by cases hj; omega)).grown gAB (by have := gA.size; simp at this; omega) (fun j hj => by cases hj; omega)⟩)
                have HBA := Lib.hid (show _ ∧ _ ∧ _ ∧ _ ∧ _ from ⟨gBA.cell b1 ne1, gBA.cell b2 ne1, (by rw [upd_comm] at mBA; exact mBA : mapBools wBA Try.prog 3 4 wo.heap.size (2 * k + 1 + 1) (upd (upd (busyF (row.take k)) (.int .i64 ga) true) (.int .i64 gb) true)), (mI0.kept gB ne2).kept gBA ne2, (hbd.grown gB (by simpa using Nat.le_of_lt hW2) (fun j hj => by cases hj; omega)).grown gBA (by have := gB.size; simp at this; omega) (fun j hj => by cases hj; omega)⟩)
                clear mB0 mI0 mA mAB mBb mBA gA gAB gB gBA ne1 ne2 x1 x2 lA lB
                go_region
                all_goals
                  (first | (clear HAB rAB wAB; revert HBA rBA; generalize wBA = W3; intro rBA HQ; clear rBA) | (clear HBA rBA wBA; revert HAB rAB; generalize wAB = W3; intro rAB HQ; clear rAB))
                  clear rA rB a1 a2 b1 b2 y1 y2
                  obtain ⟨x1, x2, mB, mI, hb3⟩ := HQ.out
                  have mI0 : mapInts W3.drew Try.prog 35 3 w.heap.size (100 * r + k) (metF ((rows.take r).flatten ++ row.take k)) := mI
                  have mB0 : mapBools W3.drew Try.prog 3 4 wo.heap.size (2 * k + 1 + 1) (upd (upd (busyF (row.take k)) (.int .i64 ga) true) (.int .i64 gb) true) := mB
                  have hb4 : Below w.heap.size w W3.drew := hb3.drew
                  have hlm : w.heap.size < W3.drew.heap.size := mI0.lt
                  have y1 : W3.drew.cell? ⟨wr.heap.size, 0, none⟩ = some (.int .i64 ga) := x1
                  have y2 : W3.drew.cell? ⟨wr.heap.size, 1, none⟩ = some (.int .i64 gb) := x2
                  obtain ⟨st, w1, rE, mE, gE, hst⟩ := mI0.entry keyP Try.underlying46 Try.underlying3 zeroI (by unfold maxLen; omega) kP
                  obtain ⟨rL, _⟩ := mI0.look keyP Try.underlying46 Try.underlying3 (zeroI _) kP
                  obtain ⟨rL1, _⟩ := mE.look keyP Try.underlying46 Try.underlying3 (zeroI _) kP
                  have hcb := cnt_le ((rows.take r).flatten ++ row.take k) (ga, gb)
                  have hlen2 : ((rows.take r).flatten ++ row.take k).length ≤ 100000 := by
                    have q1 := flatten_len (rows.take r) 100 (fun x hx => HRL.out x (List.mem_of_mem_take hx))
                    have q2 : (rows.take r).length ≤ 100 := by rw [List.length_take]; omega
                    have q3 : (row.take k).length ≤ 100 := by rw [List.length_take]; omega
                    rw [List.length_append]
                    have : (rows.take r).length * 100 ≤ 100 * 100 := Nat.mul_le_mul_right _ q2
                    omega
                  obtain ⟨w2, rS, mS, gS⟩ := hst (metF ((rows.take r).flatten ++ row.take k) (pairV (ga, gb)) + 1) (by rw [metF_at]; exact WalkArith.wf_i64 (by omega))
                  have ne3 : some wo.heap.size ≠ some w.heap.size := by simp; have := hbl.size; omega
                  have HQ2 := Lib.hid (show _ ∧ _ ∧ _ from ⟨mS, mB0.kept gS ne3, hb4.grown gS (Nat.le_of_lt hlm) (fun j hj => by cases hj; omega)⟩)
                  rw [metF_at] at rE rL rL1 rS
                  have HX := Lib.hid (metF_at ((rows.take r).flatten ++ row.take k) (ga, gb))
                  have HTT := Lib.hid (metF_snoc ((rows.take r).flatten ++ row.take k) (ga, gb))
                  clear hst mS mE gS gE mI0 mB0 mB mI HmB HmI HQ
                  generalize cnt ((rows.take r).flatten ++ row.take k) (ga, gb) = q at *
                  unfold pairV at rE rL rL1
                  unfold goInt at rE rS
                  have hwq : IntKind.i64.wrap (q + 1) = q + 1 := IntWalk.i64_in _ (by omega)
                  go_wp2_with fail
                  go_region
                  all_goals
                    clear rE rL rL1 rS y1 y2 x1 x2 hwq
                    go_wp2_with fail
                    go_roundw
                    case rel => exact ⟨k + 1, by omega, by go_num, Lib.hid (by rw [HT.out, ← List.append_assoc, HTT.out]; exact HQ2.out.1), Lib.hid (by rw [HT.out, busyF_snoc]; exact HQ2.out.2.1), Lib.hid (by rw [HEk.out, HS.out, hok]; rfl), HQ2.out.2.2⟩
                    case measure => simp [intOf]; omega
              · go_wp2
                go_ret
                exact ⟨by rw [chk_err HZ.out HE.out HES.out (c := 7) (by rw [HEk.out, HS.out, hok]; rfl) (by omega)]; rfl, hbW⟩
            · go_wp2
              go_ret
              exact ⟨by rw [chk_err HZ.out HE.out HES.out (c := 7) (by rw [HEk.out, HS.out, hok]; rfl) (by omega)]; rfl, hbW⟩
        · obtain rfl : k = row.length := by omega
          go_wp2_with fail
          go_roundw
          case rel => exact ⟨r + 1, by omega, by go_num, Lib.hid (by rw [HFT.out]; have := HMk.out; rw [List.take_length] at this; exact this.mono (by omega)), Lib.hid (by rw [HE.out, HES.out, if_pos]; have := HEk.out; rw [this]; simp [rowE]), hblk⟩
          case measure => simp [intOf]; omega
    · obtain rfl : r = rows.length := by omega
      have HM2 : Hid (mapInts wr Try.prog 35 3 w.heap.size (100 * rows.length) (metF rows.flatten)) := Lib.hid (by have := HM.out; rwa [List.take_length] at this)
      have HE0 : Hid (rowsE n rows = 0) := Lib.hid (by rw [HE.out]; simp [rowsE])
      have HZ2 : Hid (checkZ n tw rows = if pairsOk n tw rows.flatten = true then 0 else 8) := Lib.hid (by rw [HZ.out, if_neg (by rw [HE0.out]; simp)])
      have hfl : rows.flatten.length ≤ 10000 := by
        have := flatten_len rows 100 HRL.out
        have : rows.length * 100 ≤ 100 * 100 := Nat.mul_le_mul_right _ hl
        omega
      clear HM HE HZ HE0 HC HR HRL HK
      generalize rows.flatten = gs at *
      go_wp2_with fail
      obtain ⟨wo, rfl⟩ : ∃ wo : World, wo = wr := ⟨_, rfl⟩
      go_loopw [78] (fun i wr => ∃ a : Nat, a ≤ n ∧ i = .int .i64 a ∧ Hid (mapInts wr Try.prog 35 3 w.heap.size (100 * rows.length) (metF gs)) ∧ Hid (∀ a' < a, ∀ b' < a', okPair tw gs (a' : Nat) (b' : Nat) = true) ∧ Below w.heap.size w wr) (fun i _ => n - (intOf i).toNat)
      case atStart => exact ⟨0, by omega, rfl, HM2, Lib.hid (fun _ h => by omega), hbl⟩
      case round =>
        obtain ⟨a, ha, rfl, HMa, HPa, hba⟩ := hrel
        by_cases hlta : a < n
        · go_wp2_with fail
          obtain ⟨wo2, rfl⟩ : ∃ wo : World, wo = wr := ⟨_, rfl⟩
          go_loopw [82] (fun i wr => ∃ b : Nat, b ≤ a ∧ i = .int .i64 b ∧ Hid (mapInts wr Try.prog 35 3 w.heap.size (100 * rows.length) (metF gs)) ∧ Hid (∀ b' < b, okPair tw gs (a : Nat) (b' : Nat) = true) ∧ Below w.heap.size w wr) (fun i _ => a - (intOf i).toNat)
          case atStart => exact ⟨0, by omega, rfl, HMa, Lib.hid (fun _ h => by omega), hba⟩
          case round =>
            obtain ⟨b, hb, rfl, HMb, HPb, hbb⟩ := hrel
            by_cases hltb : b < a
            · have mI0 : mapInts wr.drew Try.prog 35 3 w.heap.size (100 * rows.length) (metF gs) := HMb.out
              have r1 := (mI0.look keyP Try.underlying46 Try.underlying3 (zeroI _) (keyP_of (a := a) (b := b) ⟨by omega, by omega⟩ ⟨by omega, by omega⟩)).1
              have r2 := (mI0.look keyP Try.underlying46 Try.underlying3 (zeroI _) (keyP_of (a := b) (b := a) ⟨by omega, by omega⟩ ⟨by omega, by omega⟩)).1
              rw [metF_at] at r1 r2
              have q1 := cnt_le gs (a, b)
              have q2 := cnt_le gs (b, a)
              have HOK := Lib.hid (show okPair tw gs a b = if tw = true then cnt gs (a, b) == 1 && cnt gs (b, a) == 1 else cnt gs (a, b) + cnt gs (b, a) == 1 from rfl)
              generalize cnt gs (a, b) = x at *
              generalize cnt gs (b, a) = y at *
              unfold pairV at r1 r2
              clear mI0
              go_wp2_with fail
              go_region
              have hM : Hid (mapInts wr.drew Try.prog 35 3 w.heap.size (100 * rows.length) (metF gs)) := HMb
              have hB : Below w.heap.size w wr.drew := hbb.drew
              clear r1 r2 HMb hbb
              generalize wr.drew = W at *
              cases tw
              · cases t : (x + y != 1)
                · go_wp2
                  go_roundw
                  case rel => exact ⟨b + 1, by omega, by go_num, hM, Lib.hid (pair_step HPb.out (by rw [HOK.out]; simpa using t)), hB⟩
                  case measure => simp [intOf]; omega
                · go_wp2
                  go_ret
                  exact ⟨by rw [HZ2.out, if_neg (pairs_no hlta hltb (by rw [HOK.out]; simpa using t))]; rfl, hB⟩
              · cases t : (x != 1)
                · cases t2 : (y != 1)
                  · go_wp2
                    go_roundw
                    case rel => exact ⟨b + 1, by omega, by go_num, hM, Lib.hid (pair_step HPb.out (by rw [HOK.out]; simp at t t2; simp [t, t2])), hB⟩
                    case measure => simp [intOf]; omega
                  · go_wp2
                    go_ret
                    exact ⟨by rw [HZ2.out, if_neg (pairs_no hlta hltb (by rw [HOK.out]; simp at t t2; simp [t, t2]))]; rfl, hB⟩
                · go_wp2
                  go_ret
                  exact ⟨by rw [HZ2.out, if_neg (pairs_no hlta hltb (by rw [HOK.out]; simp at t; simp [t]))]; rfl, hB⟩
            · obtain rfl : b = a := by omega
              go_wp2_with fail
              go_roundw
              case rel => exact ⟨b + 1, by omega, by go_num, HMb, Lib.hid (pairs_step HPa.out HPb.out), hbb⟩
              case measure => simp [intOf]; omega
        · obtain rfl : a = n := by omega
          go_wp2_with fail
          go_ret
          refine ⟨?_, hba⟩
          rw [HZ2.out, if_pos]
          · rfl
          · unfold pairsOk
            rw [List.all_eq_true]
            intro a' h1
            rw [List.all_eq_true]
            intro b' h2
            exact HPa.out a' (List.mem_range.1 h1) b' (List.mem_range.1 h2)
end Go.Proofs.Ytdmidjcjmkcopaa

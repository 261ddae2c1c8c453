/- The contracts of rating.checkAll, All and Period. -/
import Derived.Test.YtgbedogdikflcaaRatGame
namespace Go.Proofs.Ytgbedogdikflcaa
open Go.ChangeShapes Go.WideShapes Go.ChangeAt Go.RowKit
set_option linter.unusedVariables false

def flatG (gs : List GameZ) : List Value := gs.flatMap fun g => [.int .i64 g.fst, .int .i64 g.snd, .int .i64 g.pts]
theorem flatG_at (gs : List GameZ) (k : Nat) (h : k < gs.length) : (flatG gs)[k * 3]? = some (.int .i64 gs[k].fst) ∧ (flatG gs)[k * 3 + 1]? = some (.int .i64 gs[k].snd) ∧ (flatG gs)[k * 3 + 2]? = some (.int .i64 gs[k].pts) := by
  induction gs generalizing k with
  | nil => simp at h
  | cons g t ih =>
    cases k with
    | zero => exact ⟨rfl, rfl, rfl⟩
    | succ k =>
      have := ih k (by simpa using h)
      have e : (k + 1) * 3 = k * 3 + 3 := by omega
      rw [e]
      exact this
/-- a slice of games that is read. -/
def RdG (w : World) (v : Value) (gs : List GameZ) : Prop := Rd w 3 gs.length v (flatG gs)
theorem RdG.below {w w' : World} {v : Value} {gs : List GameZ} {B : Nat} (h : RdG w v gs) (hb : Below B w w') (hB : w.heap.size ≤ B) : RdG w' v gs := Rd.below h hb hB
theorem RdG.form {w : World} {v : Value} {gs : List GameZ} (h : RdG w v gs) : ∃ a c, v = .slice a gs.length c ∧ gs.length ≤ c ∧ c ≤ maxLen ∧
    ∀ k (hk : k < gs.length), ∃ g o, a = some ⟨g, o, none⟩ ∧ g < w.heap.size ∧ w.cell? ⟨g, o + k * 3, none⟩ = some (.int .i64 gs[k].fst) ∧ w.cell? ⟨g, o + k * 3 + 1, none⟩ = some (.int .i64 gs[k].snd) ∧ w.cell? ⟨g, o + k * 3 + 2, none⟩ = some (.int .i64 gs[k].pts) := by
  rcases h.2 with ⟨h, hz⟩ | ⟨g, o, c, h', h1, h2, hc⟩
  · exact ⟨none, 0, by rw [h, hz], by omega, by unfold maxLen; omega, fun k hk => by omega⟩
  · refine ⟨_, _, h', h1, h2, fun k hk => ⟨g, o, rfl, ?_⟩⟩
    obtain ⟨q0, q1, q2⟩ := flatG_at gs k hk
    have e0 := (hc (k * 3) (by omega)).trans q0
    have e1 := (hc (k * 3 + 1) (by omega)).trans q1
    have e2 := (hc (k * 3 + 2) (by omega)).trans q2
    exact ⟨World.block_lt_of_cell? w _ e0, e0, e1, e2⟩

def chkAllR (zs : List Int) (n : Nat) : Int := if checkR zs ≠ 0 then checkR zs else if 256 < n then 2 else 0
theorem checkAll_any (v vg : Value) (zs : List Int) (gs : List GameZ) (w : World) (h : RdI w v zs) (hg : RdG w vg gs) :
    Calls Try.prog 12 #[v, vg] w fun e w' => e = .returned (.int .i64 (chkAllR zs gs.length)) ∧ w = w' := by
  obtain ⟨a, c, rfl, h1, h2, _⟩ := hg.form
  unfold maxLen at h2
  have HC := Lib.hid (Check_any v zs w h)
  have HR : Hid (chkAllR zs gs.length = if checkR zs ≠ 0 then checkR zs else if 256 < gs.length then 2 else 0) := Lib.hid rfl
  clear h hg
  generalize checkR zs = r at *
  cases hr : (r != 0)
  · have hr0 : r = 0 := by simpa using hr
    subst hr0
    clear hr
    by_cases hn : 256 < gs.length
    · go_enter Try.func12, Try.ntmps12
      go_wp2_with fail
      refine HC.out.mono ?_
      rintro e w' ⟨rfl, rfl⟩
      go_wp2
      go_ret
      exact ⟨by rw [HR.out, if_neg (by simp), if_pos hn]; rfl, rfl⟩
    · go_enter Try.func12, Try.ntmps12
      go_wp2_with fail
      refine HC.out.mono ?_
      rintro e w' ⟨rfl, rfl⟩
      go_wp2
      go_ret
      exact ⟨by rw [HR.out, if_neg (by simp), if_neg hn]; rfl, rfl⟩
  · go_enter Try.func12, Try.ntmps12
    go_wp2_with fail
    refine HC.out.mono ?_
    rintro e w' ⟨rfl, rfl⟩
    go_wp2
    go_ret
    exact ⟨by rw [HR.out, if_pos (by simpa using hr)]; rfl, rfl⟩

def foldG (f : Int) : List Int → List GameZ → List Int × Int
  | zs, [] => (zs, 0)
  | zs, g :: t => if (gameR zs g f).2 ≠ 0 then ([], (gameR zs g f).2) else foldG f (gameR zs g f).1 t
def allR (zs : List Int) (gs : List GameZ) (f : Int) : List Int × Int := if chkAllR zs gs.length ≠ 0 then ([], chkAllR zs gs.length) else foldG f zs gs
theorem foldG_step (f : Int) (zs : List Int) (gs : List GameZ) (k : Nat) (h : k < gs.length) : foldG f zs (gs.drop k) = if (gameR zs gs[k] f).2 ≠ 0 then ([], (gameR zs gs[k] f).2) else foldG f (gameR zs gs[k] f).1 (gs.drop (k + 1)) := by
  rw [List.drop_eq_getElem_cons h, foldG]

set_option maxHeartbeats 1000000 in
theorem All_any (v vg : Value) (zs : List Int) (gs : List GameZ) (f : Int) (w : World) (h : RdI w v zs) (hg : RdG w vg gs) :
    Calls Try.prog 9 #[v, vg, .int .i64 f] w (RowPost (allR zs gs f) w) := by
  have HCA := Lib.hid (checkAll_any v vg zs gs w h hg)
  obtain ⟨a, c, rfl, h1, h2, hcells⟩ := hg.form
  unfold maxLen at h2
  have HG := Lib.hid hcells
  have HI := Lib.hid h
  by_cases hc : chkAllR zs gs.length = 0
  · have hlen : zs.length ≤ 64 := by
      unfold chkAllR at hc
      split at hc
      · contradiction
      · rename_i hh
        have : checkR zs = 0 := by simpa using hh
        unfold checkR at this
        split at this
        · cases this
        · omega
    have HR := Lib.hid (show allR zs gs f = foldG f zs gs by unfold allR; rw [if_neg (by simpa using hc)])
    rw [hc] at HCA
    clear hc h hg hcells
    go_enter Try.func9, Try.ntmps9
    go_wp2_with fail
    refine HCA.out.mono ?_
    rintro e w' ⟨rfl, rfl⟩
    go_wp2_with fail
    refine (Clone_any v zs w HI.out (by omega)).mono ?_
    rintro e w1 ⟨v1, rfl, hown1, hb1⟩
    have HO := Lib.hid hown1
    clear hown1
    go_wp2_with fail
    go_loopw [9, 23] (fun x i wr => ∃ k : Nat, k ≤ gs.length ∧ i = .int .i64 k ∧ Hid (∃ zs', wr.ownsRow w.heap.size 3 1 x zs'.length (ints zs') ∧ foldG f zs gs = foldG f zs' (gs.drop k)) ∧ Below w.heap.size w wr) (fun _ i _ => gs.length - (intOf i).toNat)
    case atStart => exact ⟨0, Nat.zero_le _, rfl, Lib.hid ⟨zs, HO.out, rfl⟩, hb1⟩
    case round =>
      obtain ⟨k, hk, rfl, HK, hbl⟩ := hrel
      by_cases hlt : k < gs.length
      · obtain ⟨gb, o, rfl, hgb, c0, c1, c2⟩ := HG.out k hlt
        have d0 := (hbl.cell (p := ⟨gb, o + k * 3, none⟩) hgb).trans c0
        have d1 := (hbl.cell (p := ⟨gb, o + k * 3 + 1, none⟩) hgb).trans c1
        have d2 := (hbl.cell (p := ⟨gb, o + k * 3 + 2, none⟩) hgb).trans c2
        clear c0 c1 c2
        obtain ⟨zs', hown, hfold⟩ := HK.out
        rw [foldG_step f zs' gs k hlt] at hfold
        have HF := Lib.hid hfold
        have HO2 := Lib.hid hown
        clear hown hfold HK HO
        have hsz := hbl.size
        generalize gs[k] = gk at *
        have hba : Below w.heap.size w (wr.alloc (.cells #[.int .i64 gk.fst, .int .i64 gk.snd, .int .i64 gk.pts] 39)) := by go_grown
        have HGa := Lib.hid (Game_any _ zs' gk f _ (RdI.of_own (HO2.out.alloc (.cells #[.int .i64 gk.fst, .int .i64 gk.snd, .int .i64 gk.pts] 39))))
        obtain ⟨x, y, p⟩ := gk
        unfold GameZ.val at HGa
        simp only at *
        generalize gameR zs' ⟨x, y, p⟩ f = r at *
        go_wp2_with fail
        refine HGa.out.mono ?_
        rintro e w2 ⟨v2, rfl, hown2, hb2⟩
        have hbw : Below w.heap.size w w2 := hba.trans (hb2.mono (by simp; omega))
        have HO3 := Lib.hid (own_base hown2 (show w.heap.size ≤ (wr.alloc (.cells #[.int .i64 x, .int .i64 y, .int .i64 p] 39)).heap.size by simp; omega))
        clear hown2 hb2 HO2 HGa d0 d1 d2
        cases hr : (r.2 != 0)
        · go_wp2_with fail
          go_roundw
          case rel => exact ⟨k + 1, by omega, by go_num, Lib.hid ⟨r.1, HO3.out, by rw [HF.out, if_neg (by simpa using hr)]⟩, hbw⟩
          case measure => simp [intOf]; omega
        · go_wp2_with fail
          go_ret2
          exact ⟨_, by rw [HR.out, HF.out, if_pos (by simpa using hr)]; rfl, by rw [HR.out, HF.out, if_pos (by simpa using hr)]; exact World.ownsRow_nil _ _ _ _, hbw⟩
      · obtain rfl : k = gs.length := by omega
        obtain ⟨zs', hown, hfold⟩ := HK.out
        rw [List.drop_length, foldG] at hfold
        have HF := Lib.hid hfold
        have HO2 := Lib.hid hown
        clear hown hfold
        go_wp2_with fail
        go_ret2
        exact ⟨_, by rw [HR.out, HF.out]; rfl, by rw [HR.out, HF.out]; exact HO2.out, hbl⟩
  · have HR := Lib.hid (show allR zs gs f = ([], chkAllR zs gs.length) by unfold allR; rw [if_pos hc])
    have hr : (chkAllR zs gs.length != 0) = true := by simpa using hc
    generalize chkAllR zs gs.length = r at *
    clear hc h hg hcells
    go_enter Try.func9, Try.ntmps9
    go_wp2_with fail
    refine HCA.out.mono ?_
    rintro e w' ⟨rfl, rfl⟩
    go_wp2_with fail
    go_ret2
    exact ⟨_, by rw [HR.out]; rfl, by rw [HR.out]; exact World.ownsRow_nil _ _ _ _, Below.refl _ _⟩
end Go.Proofs.Ytgbedogdikflcaa

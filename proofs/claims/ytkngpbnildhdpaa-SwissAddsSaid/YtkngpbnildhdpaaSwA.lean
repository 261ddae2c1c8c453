/- What a tournament knows of players, as it lies in memory; swiss.met, swiss.cost, swiss.Check. -/
import Derived.Test.YtkngpbnildhdpaaRdL
import Derived.Test.YtkngpbnildhdpaaOwn
import Derived.Test.YtkngpbnildhdpaaBox
import Derived.Test.YtkngpbnildhdpaaIntsFunc
import Derived.BigQuiet
import Derived.Deep.Cut
import Derived.Deep.QuietTactic
namespace Go.Proofs.Ytkngpbnildhdpaa
open Go.ChangeShapes Go.WideShapes Go.ChangeAt Go.RowKit
set_option linter.unusedVariables false

structure SwP where
  score : Int
  opp : List Int
  colour : Int
  bye : Bool
deriving Inhabited, DecidableEq

def plAt (ps : List SwP) (i : Nat) : SwP := ps.getD i ⟨0, [], 0, false⟩


def swEl : El SwP where
  k := 4
  E := fun w x cs => ∃ v, cs = [.int .i64 x.score, v, .int .i64 x.colour, .bool x.bye] ∧ RdI w v x.opp
  mono := fun ⟨v, h, hr⟩ hb hB => ⟨v, h, hr.below hb hB⟩
  len := fun ⟨v, h, _⟩ => by subst h; rfl
/-- a slice of players that is read. -/
abbrev RdS (w : World) (s : Value) (ps : List SwP) : Prop := RdL swEl w s ps
theorem RdS.some {w : World} {a : Option Addr} {n c : Nat} {ps : List SwP} (h : RdS w (.slice a n c) ps) (hn : 0 < ps.length) : ∃ g o, a = some ⟨g, o, none⟩ ∧ g < w.heap.size ∧
    ∀ i, i < ps.length → ∃ v, w.cell? ⟨g, o + i * 4, none⟩ = some (.int .i64 (plAt ps i).score) ∧ w.cell? ⟨g, o + i * 4 + 1, none⟩ = some v ∧ w.cell? ⟨g, o + i * 4 + 2, none⟩ = some (.int .i64 (plAt ps i).colour) ∧
      w.cell? ⟨g, o + i * 4 + 3, none⟩ = some (.bool (plAt ps i).bye) ∧ RdI w v (plAt ps i).opp := by
  obtain ⟨g, o, ha, hg, hc⟩ := RdL.some h hn
  refine ⟨g, o, ha, hg, fun i hi => ?_⟩
  obtain ⟨cs, ⟨v, rfl, hr⟩, hj⟩ := hc i hi
  have e : plAt ps i = ps[i] := by unfold plAt; rw [List.getD_eq_getElem?_getD, List.getElem?_eq_getElem hi]; rfl
  rw [e]
  exact ⟨v, hj 0 (by decide), hj 1 (by decide), hj 2 (by decide), hj 3 (by decide), hr⟩

theorem Box.new' (w : World) (b : Nat) (cs : List Value) (t : TypeId) (h : w.heap.size = b) : Box (w.alloc (.cells cs.toArray t)) b cs t := by subst h; exact Box.new w cs t

/-- how often player i has met j. -/
def metN (ps : List SwP) (i : Nat) (j : Int) : Nat := ((plAt ps i).opp.filter (fun k => k == j)).length

theorem filt_step (zs : List Int) (j : Int) (k : Nat) (h : k < zs.length) : ((zs.take (k + 1)).filter (fun k => k == j)).length = ((zs.take k).filter (fun k => k == j)).length + (if zs.getD k 0 = j then 1 else 0) := by
  rw [List.take_add_one, List.filter_append, List.length_append, List.getElem?_eq_getElem h, List.getD_eq_getElem?_getD, List.getElem?_eq_getElem h]
  by_cases e : zs[k] = j <;> simp [e]

theorem met_any (s : Value) (ps : List SwP) (i : Nat) (j : Int) (w : World) (h : RdS w s ps) (hi : i < ps.length) :
    Calls Try.prog 20 #[s, .int .i64 i, .int .i64 j] w fun e w' => e = .returned (.int .i64 (metN ps i j)) ∧ w = w' := by
  obtain ⟨a, c, rfl, h1, h2⟩ := h.form
  unfold maxLen at h2
  obtain ⟨g, o, rfl, hg, hc⟩ := RdS.some h (by omega)
  obtain ⟨v, -, cv, -, -, hv⟩ := hc i hi
  obtain ⟨a', c', rfl, h1', h2'⟩ := hv.form
  unfold maxLen at h2'
  have HR := Lib.hid hv
  have HM : Hid (metN ps i j = (((plAt ps i).opp.take (plAt ps i).opp.length).filter (fun k => k == j)).length) := Lib.hid (by rw [List.take_length]; rfl)
  clear h hc hv
  generalize (plAt ps i).opp = zs at *
  have hi' : (i : Int) < (ps.length : Int) := by omega
  have hi0 : (0 : Int) ≤ (i : Int) := by omega
  go_enter Try.func20, Try.ntmps20
  go_wp2_with fail
  go_loop [7, 16] (fun m i => ∃ k : Nat, k ≤ zs.length ∧ i = .int .i64 k ∧ m = .int .i64 (((zs.take k).filter (fun k => k == j)).length : Nat)) (fun m i => zs.length - (intOf i).toNat)
  case atStart => exact ⟨0, Nat.zero_le _, rfl, rfl⟩
  case round =>
    obtain ⟨k, hk, rfl, rfl⟩ := hrel
    by_cases hlt : k < zs.length
    · obtain ⟨g', o', c'', he, _, _, _, hcell⟩ := HR.out.some (by omega)
      simp only [Value.slice.injEq] at he
      obtain ⟨rfl, _, rfl⟩ := he
      have ck := hcell k hlt
      have HS := Lib.hid (filt_step zs j k hlt)
      have hle : ((zs.take k).filter (fun k => k == j)).length ≤ k := Nat.le_trans (List.length_filter_le _ _) (by rw [List.length_take]; omega)
      clear hcell
      generalize zs.getD k 0 = z at *
      generalize ((zs.take k).filter (fun k => k == j)).length = m at *
      by_cases hz : z = j
      · subst hz
        go_wp2_with fail
        go_round
        case rel => exact ⟨k + 1, by omega, by go_num, by rw [HS.out, if_pos rfl]; go_num⟩
        case measure => simp [intOf]; omega
      · go_wp2_with fail
        go_round
        case rel => exact ⟨k + 1, by omega, by go_num, by rw [HS.out, if_neg hz]; rfl⟩
        case measure => simp [intOf]; omega
    · obtain rfl : k = zs.length := by omega
      go_wp2_with fail
      go_ret
      exact ⟨by rw [HM.out, List.take_length]; rfl, rfl⟩

def costZ (ps : List SwP) (i j : Nat) : Int := 100 * ((plAt ps i).score - (plAt ps j).score) * ((plAt ps i).score - (plAt ps j).score) + ((plAt ps i).colour + (plAt ps j).colour) * ((plAt ps i).colour + (plAt ps j).colour)

theorem sq_bound (d K : Int) (h1 : -K ≤ d) (h2 : d ≤ K) : 0 ≤ d * d ∧ d * d ≤ K * K := by
  have a : 0 ≤ (K - d) * (K + d) := Int.mul_nonneg (by omega) (by omega)
  rw [Int.sub_mul, Int.mul_add, Int.mul_add, Int.mul_comm d K] at a
  constructor
  · rcases Int.le_total 0 d with h | h
    · exact Int.mul_nonneg h h
    · exact Int.mul_nonneg_of_nonpos_of_nonpos h h
  · omega

/-- scores and colours are small. -/
def Small (p : SwP) : Prop := (0 ≤ p.score ∧ p.score ≤ 40) ∧ (-20 ≤ p.colour ∧ p.colour ≤ 20)

theorem costZ_b (ps : List SwP) (i j : Nat) (h1 : Small (plAt ps i)) (h2 : Small (plAt ps j)) : 0 ≤ costZ ps i j ∧ costZ ps i j ≤ 161600 := by
  unfold Small at h1 h2
  unfold costZ
  have a := sq_bound ((plAt ps i).score - (plAt ps j).score) 40 (by omega) (by omega)
  have b := sq_bound ((plAt ps i).colour + (plAt ps j).colour) 40 (by omega) (by omega)
  rw [Int.mul_assoc]
  omega

set_option maxHeartbeats 1000000 in
theorem cost_any (s : Value) (ps : List SwP) (i j : Nat) (w : World) (h : RdS w s ps) (hi : i < ps.length) (hj : j < ps.length) (hsi : Small (plAt ps i)) (hsj : Small (plAt ps j)) :
    Calls Try.prog 14 #[s, .int .i64 i, .int .i64 j] w fun e w' => e = .returned (.int .i64 (costZ ps i j)) ∧ ∃ n, w' = w.drewN n := by
  obtain ⟨a, c, rfl, h1, h2⟩ := h.form
  unfold maxLen at h2
  obtain ⟨g, o, rfl, hg, hc⟩ := RdS.some h (by omega)
  obtain ⟨v, a0, -, a2, -, -⟩ := hc i hi
  obtain ⟨v', b0, -, b2, -, -⟩ := hc j hj
  have HZ : Hid (costZ ps i j = 100 * ((plAt ps i).score - (plAt ps j).score) * ((plAt ps i).score - (plAt ps j).score) + ((plAt ps i).colour + (plAt ps j).colour) * ((plAt ps i).colour + (plAt ps j).colour)) := Lib.hid rfl
  unfold Small at hsi hsj
  clear h hc v v'
  generalize (plAt ps i).score = si at *
  generalize (plAt ps j).score = sj at *
  generalize (plAt ps i).colour = ci at *
  generalize (plAt ps j).colour = cj at *
  have k1 := sq_bound (si - sj) 40 (by omega) (by omega)
  have k2 := sq_bound (ci + cj) 40 (by omega) (by omega)
  have w0 : IntKind.i64.wrap (si - sj) = si - sj := IntWalk.i64_in _ (by omega)
  have w0' : IntKind.i64.wrap (ci + cj) = ci + cj := IntWalk.i64_in _ (by omega)
  have w1 : IntKind.i64.wrap (100 * (si - sj)) = 100 * (si - sj) := IntWalk.i64_in _ (by omega)
  have w2 : IntKind.i64.wrap (100 * (si - sj) * (si - sj)) = 100 * (si - sj) * (si - sj) := IntWalk.i64_in _ (by rw [Int.mul_assoc]; omega)
  have w3 : IntKind.i64.wrap ((ci + cj) * (ci + cj)) = (ci + cj) * (ci + cj) := IntWalk.i64_in _ (by omega)
  have w4 : IntKind.i64.wrap (100 * (si - sj) * (si - sj) + (ci + cj) * (ci + cj)) = 100 * (si - sj) * (si - sj) + (ci + cj) * (ci + cj) := IntWalk.i64_in _ (by rw [Int.mul_assoc]; omega)
  have W1 := Lib.hid w1
  have W2 := Lib.hid w2
  have W3 := Lib.hid w3
  have W4 := Lib.hid w4
  clear w1 w2 w3 w4 k1 k2
  have hi' : (i : Int) < (ps.length : Int) := by omega
  have hi0 : (0 : Int) ≤ (i : Int) := by omega
  have hj' : (j : Int) < (ps.length : Int) := by omega
  have hj0 : (0 : Int) ≤ (j : Int) := by omega
  go_enter Try.func14, Try.ntmps14
  go_wp2_with fail
  go_quiet (fail)
  generalize si - sj = d at *
  generalize ci + cj = e at *
  have w1 := W1.out
  have w2 := W2.out
  have w3 := W3.out
  have w4 := W4.out
  go_wp2_with fail
  go_ret
  exact ⟨by rw [HZ.out]; rfl, _, rfl⟩

def kBad (n i : Nat) (z : Int) : Bool := decide (z < 0) || (decide ((n : Int) ≤ z) || decide (z = (i : Int)))
def oneOk (n i : Nat) (p : SwP) : Prop := Small p ∧ p.opp.length ≤ 20 ∧ p.opp.any (kBad n i) = false
def twoOk (ps : List SwP) (i j : Nat) : Prop := metN ps i j = metN ps j i ∧ metN ps i j ≤ 1
def ChkOk (ps : List SwP) : Prop := (2 ≤ ps.length ∧ ps.length ≤ 8) ∧ (∀ i, i < ps.length → oneOk ps.length i (plAt ps i)) ∧ ∀ i, i < ps.length → ∀ j, j < i → twoOk ps i j
/-- what the answer says. -/
def ChkSays (ps : List SwP) (c : Int) : Prop :=
  (c = 0 ∧ ChkOk ps) ∨ (c = 2 ∧ (¬ (2 ≤ ps.length ∧ ps.length ≤ 8) ∨ ∃ i, i < ps.length ∧ 20 < (plAt ps i).opp.length)) ∨ (c = 4 ∧ ∃ i, i < ps.length ∧ ¬ Small (plAt ps i)) ∨
  (c = 3 ∧ ((∃ i, i < ps.length ∧ (plAt ps i).opp.any (kBad ps.length i) = true) ∨ ∃ i, i < ps.length ∧ ∃ j, j < i ∧ metN ps i j ≠ metN ps j i)) ∨ (c = 7 ∧ ∃ i, i < ps.length ∧ ∃ j, j < i ∧ 1 < metN ps i j)

theorem RdS.drewN {w : World} {s : Value} {ps : List SwP} (h : RdS w s ps) (n : Nat) : RdS (w.drewN n) s ps := RdL.below h (below_drewN (Below.refl w.heap.size w) n) (Nat.le_refl _)
theorem qone {P : Program} {f : FuncId} {args : Array Value} {w : World} {n : Nat} {v : Value} (h : Calls P f args (w.drewN n) fun e w' => e = .returned v ∧ w.drewN n = w') :
    Calls P f args (w.drewN n) fun e w'' => e = .returned v ∧ ∃ m, w'' = w.drewN m := h.mono fun _ _ ⟨he, hm⟩ => ⟨he, n, hm.symm⟩

theorem chk1_any (a : Option Addr) (n c i : Nat) (B1 B2 : Nat) (z : Int) (w : World) (h1 : w.cell? ⟨B1, 0, none⟩ = some (.slice a n c)) (h2 : w.cell? ⟨B2, 0, none⟩ = some (.int .i64 i)) :
    Calls Try.prog 19 #[.int .i64 z, .pointer (some ⟨B1, 0, none⟩), .pointer (some ⟨B2, 0, none⟩)] w fun e w' => e = .returned (.bool (kBad n i z)) ∧ w = w' := by
  have H : Hid (kBad n i z = (decide (z < 0) || (decide ((n : Int) ≤ z) || decide (z = (i : Int))))) := Lib.hid rfl
  by_cases h3 : z < 0
  · go_enter Try.func19, Try.ntmps19
    go_wp2
    go_ret
    exact ⟨by rw [H.out]; simp [h3], rfl⟩
  · by_cases h4 : (n : Int) ≤ z
    · go_enter Try.func19, Try.ntmps19
      go_wp2
      go_ret
      exact ⟨by rw [H.out, decide_eq_true h4]; simp, rfl⟩
    · by_cases h5 : z = (i : Int)
      · subst h5
        go_enter Try.func19, Try.ntmps19
        go_wp2
        go_ret
        exact ⟨by rw [H.out]; simp, rfl⟩
      · have HK : Hid (kBad n i z = decide (z = (i : Int))) := Lib.hid (by rw [H.out, decide_eq_false h3, decide_eq_false h4]; simp)
        go_enter Try.func19, Try.ntmps19
        go_wp2
        go_ret
        exact ⟨by rw [HK.out]; rfl, rfl⟩
theorem callChk1 (args : Array Value) (w : World) : (callFunc 19 args).run Try.prog w = .ok (.enter 19 args) w := by kernel_rfl


theorem still {P : Program} {f : FuncId} {args : Array Value} {W : World} {v : Value} {Q : World → Prop} (h : Calls P f args W fun e w' => e = .returned v ∧ W = w') (hq : Q W) :
    Calls P f args W fun e w'' => e = .returned v ∧ Q w'' := h.mono fun _ _ ⟨he, hw⟩ => ⟨he, hw ▸ hq⟩

theorem drewB {B : Nat} {w W : World} (h : Below B w W) (n : Nat) : Below B w (W.drewN n) := ⟨h.os, h.tape, h.output, h.size, h.block⟩

set_option maxRecDepth 100000 in
set_option maxHeartbeats 4000000 in
theorem Check_any (s : Value) (ps : List SwP) (w : World) (h : RdS w s ps) :
    Calls Try.prog 10 #[s] w fun e w' => ∃ c : Int, e = .returned (.int .i64 c) ∧ ChkSays ps c ∧ Below w.heap.size w w' := by
  obtain ⟨a, c, rfl, h1, h2⟩ := h.form
  unfold maxLen at h2
  rcases (by omega : ps.length < 2 ∨ (2 ≤ ps.length ∧ 8 < ps.length) ∨ (2 ≤ ps.length ∧ ps.length ≤ 8)) with hn | ⟨hn, hn'⟩ | ⟨hn, hn'⟩
  · have HL : Hid (ChkSays ps 2) := Lib.hid (.inr (.inl ⟨rfl, .inl (by omega)⟩))
    have hn2 : (ps.length : Int) < 2 := by omega
    clear h hn
    go_enter Try.func10, Try.ntmps10
    go_wp2
    go_ret
    exact ⟨2, rfl, HL.out, (Below.refl _ _).alloc (by go_size) _⟩
  · have HL : Hid (ChkSays ps 2) := Lib.hid (.inr (.inl ⟨rfl, .inl (by omega)⟩))
    have hn2 : ¬ (ps.length : Int) < 2 := by omega
    have hn3 : (8 : Int) < (ps.length : Int) := by omega
    clear h hn hn'
    go_enter Try.func10, Try.ntmps10
    go_wp2
    go_ret
    exact ⟨2, rfl, HL.out, (Below.refl _ _).alloc (by go_size) _⟩
  obtain ⟨g, o, rfl, hg, -⟩ := RdS.some h (by omega)
  have HR := Lib.hid h
  have HN : Hid (2 ≤ ps.length ∧ ps.length ≤ 8) := Lib.hid ⟨hn, hn'⟩
  have hn2 : ¬ (ps.length : Int) < 2 := by omega
  have hn3 : ¬ (8 : Int) < (ps.length : Int) := by omega
  clear h hn hn'
  go_enter Try.func10, Try.ntmps10
  go_upto_region 1 with (fail)
  have B0 : Box (w.alloc (.cells #[.slice (some ⟨g, o, none⟩) ps.length c] 22)) (w.heap.size) [.slice (some ⟨g, o, none⟩) ps.length c] 22 := (Box.new' w (w.heap.size) [.slice (some ⟨g, o, none⟩) ps.length c] 22 (by simp <;> omega))
  have HB : Hid (Below w.heap.size w (w.alloc (.cells #[.slice (some ⟨g, o, none⟩) ps.length c] 22))) := Lib.hid ((Below.refl w.heap.size w).alloc (Nat.le_refl _) _)
  have hz0 : w.heap.size < (w.alloc (.cells #[.slice (some ⟨g, o, none⟩) ps.length c] 22)).heap.size := by simp
  generalize (w.alloc (.cells #[.slice (some ⟨g, o, none⟩) ps.length c] 22)) = w0 at *
  have hz0' := hz0
  have HX := Lib.hid B0
  have cz := HX.out.cell 0 rfl
  clear B0
  go_upto_region 4 with (fail)
  clear cz
  go_loopw [17, 3, 4, 22, 41, 46] (fun vi v3 v4 v22 v41 v46 wr => ∃ k : Nat, k ≤ ps.length ∧ vi = .int .i64 k ∧ Hid (∀ j, j < k → oneOk ps.length j (plAt ps j)) ∧ Hid (Box wr w.heap.size [.slice (some ⟨g, o, none⟩) ps.length c] 22) ∧ Hid (Below w.heap.size w wr)) (fun i _ _ _ _ _ _ => ps.length - (intOf i).toNat)
  case atStart => exact ⟨0, Nat.zero_le _, rfl, Lib.hid (fun j hj => absurd hj (by omega)), HX, HB⟩
  case round =>
    obtain ⟨k, hk, rfl, Hk, HXr, HBr⟩ := hrel
    have hxl : w.heap.size < wr.heap.size := HXr.out.lt
    by_cases hlt : k < ps.length
    · obtain ⟨g', o', he, hg', hc⟩ := RdS.some (RdL.below HR.out HBr.out (Nat.le_refl _)) (by omega)
      simp only [Option.some.injEq, Addr.mk.injEq, and_true] at he
      obtain ⟨rfl, rfl⟩ := he
      obtain ⟨v, a0, a1, a2, a3, hv⟩ := hc k hlt
      obtain ⟨va, vc, rfl, hv1, hv2⟩ := hv.form
      unfold maxLen at hv2
      have HS : Hid (oneOk ps.length k (plAt ps k) → ∀ j, j < k + 1 → oneOk ps.length j (plAt ps j)) := Lib.hid (fun h j hj => by
        by_cases e : j = k
        · subst e; exact h
        · exact Hk.out j (by omega))
      have HB4 : Hid (¬ Small (plAt ps k) → ChkSays ps 4) := Lib.hid (fun h => .inr (.inr (.inl ⟨rfl, k, hlt, h⟩)))
      have HB2 : Hid (20 < (plAt ps k).opp.length → ChkSays ps 2) := Lib.hid (fun h => .inr (.inl ⟨rfl, .inr ⟨k, hlt, h⟩⟩))
      have HB3 : Hid ((plAt ps k).opp.any (kBad ps.length k) = true → ChkSays ps 3) := Lib.hid (fun h => .inr (.inr (.inr (.inl ⟨rfl, .inl ⟨k, hlt, h⟩⟩))))
      have HV := Lib.hid hv
      have HSM : Hid (Small (plAt ps k) ↔ ((0 ≤ (plAt ps k).score ∧ (plAt ps k).score ≤ 40) ∧ (-20 ≤ (plAt ps k).colour ∧ (plAt ps k).colour ≤ 20))) := Lib.hid Iff.rfl
      have HOO : Hid (oneOk ps.length k (plAt ps k) ↔ (Small (plAt ps k) ∧ (plAt ps k).opp.length ≤ 20 ∧ (plAt ps k).opp.any (kBad ps.length k) = false)) := Lib.hid Iff.rfl
      generalize (plAt ps k) = pk at *
      generalize Small pk = smk at *
      generalize pk.score = sc at *
      generalize pk.opp = opp at *
      generalize pk.colour = co at *
      generalize pk.bye = by' at *
      have hki : (k : Int) < (ps.length : Int) := by omega
      clear hc hv Hk
      go_upto_region 6 with (fail)
      have HX6 := Lib.hid ((HXr.out.alloc (.cells #[.int .i64 (k : Int)] 3)).alloc (.cells #[.int .i64 sc, .slice va opp.length vc, .int .i64 co, .bool by'] 32))
      have HI6 := Lib.hid ((Box.new wr [.int .i64 (k : Int)] 3).alloc (.cells #[.int .i64 sc, .slice va opp.length vc, .int .i64 co, .bool by'] 32))
      have HP6 : Hid (Box ((wr.alloc (.cells #[.int .i64 (k : Int)] 3)).alloc (.cells #[.int .i64 sc, .slice va opp.length vc, .int .i64 co, .bool by'] 32)) (wr.heap.size + 1) [.int .i64 sc, .slice va opp.length vc, .int .i64 co, .bool by'] 32) := Lib.hid (Box.new' _ _ _ _ (by simp))
      have HB6 := Lib.hid ((HBr.out.alloc (HBr.out.size) (.cells #[.int .i64 (k : Int)] 3)).alloc (by have := HBr.out.size; simp; omega) (.cells #[.int .i64 sc, .slice va opp.length vc, .int .i64 co, .bool by'] 32))
      have HV6 := Lib.hid (HV.out.below (((Below.refl _ wr).alloc (Nat.le_refl _) (.cells #[.int .i64 (k : Int)] 3)).alloc (by simp) (.cells #[.int .i64 sc, .slice va opp.length vc, .int .i64 co, .bool by'] 32)) (Nat.le_refl _))
      clear a0 a1 a2 a3 HXr HBr HV
      generalize ((wr.alloc (.cells #[.int .i64 (k : Int)] 3)).alloc (.cells #[.int .i64 sc, .slice va opp.length vc, .int .i64 co, .bool by'] 32)) = wa at *
      have p0 := HP6.out.cell 0 rfl
      have p1 := HP6.out.cell 1 rfl
      have p2 := HP6.out.cell 2 rfl
      by_cases hs : (0 ≤ sc ∧ sc ≤ 40) ∧ (-20 ≤ co ∧ co ≤ 20)
      rotate_left
      · have HE := Lib.hid (HB4.out (fun h => hs (HSM.out.1 h)))
        have hcs : sc < 0 ∨ (¬ sc < 0 ∧ 40 < sc) ∨ (¬ sc < 0 ∧ ¬ 40 < sc ∧ co < -20) ∨ (¬ sc < 0 ∧ ¬ 40 < sc ∧ ¬ co < -20 ∧ 20 < co) := by omega
        clear hs HB4 HB2 HB3 HSM HOO HS
        rcases hcs with q | ⟨q, q2⟩ | ⟨q, q2, q3⟩ | ⟨q, q2, q3, q4⟩
        all_goals
          go_wp2_with fail
          go_ret
          exact ⟨4, rfl, HE.out, HB6.out⟩
      have HSK := Lib.hid (HSM.out.2 hs)
      obtain ⟨⟨s1, s2⟩, s3, s4⟩ := hs
      have q1 : ¬ sc < 0 := by omega
      have q2 : ¬ 40 < sc := by omega
      have q3 : ¬ co < -20 := by omega
      have q4 : ¬ 20 < co := by omega
      by_cases hol : 20 < opp.length
      · have HE := Lib.hid (HB2.out hol)
        have hob : (20 : Int) < (opp.length : Int) := by omega
        clear HB4 HB2 HB3 HSM HOO HS
        go_wp2_with fail
        go_ret
        exact ⟨2, rfl, HE.out, HB6.out⟩
      have hob : ¬ (20 : Int) < (opp.length : Int) := by omega
      have x0 := HX6.out.cell 0 rfl
      have i0 := HI6.out.cell 0 rfl
      go_upto_region 10 with (fail)
      go_wp2_with fail
      refine (ContainsFunc_any _ opp (kBad ps.length k) 19 #[.pointer (some ⟨w.heap.size, 0, none⟩), .pointer (some ⟨wr.heap.size, 0, none⟩)] wa HV6.out callChk1 (fun z _ => by exact chk1_any (some ⟨g, o, none⟩) ps.length c k w.heap.size wr.heap.size z wa x0 i0)).mono ?_
      rintro e w9 ⟨rfl, rfl⟩
      cases hany : opp.any (kBad ps.length k)
      rotate_left
      · have HE := Lib.hid (HB3.out hany)
        clear hany HB4 HB2 HB3 HSM HOO HS
        go_wp2_with fail
        go_ret
        exact ⟨3, rfl, HE.out, HB6.out⟩
      have HN2 := Lib.hid (HS.out (HOO.out.2 ⟨HSK.out, by omega, hany⟩))
      clear hany HB4 HB2 HB3 HSM HOO HS
      go_wp2_with fail
      go_roundw
      case rel => exact ⟨k + 1, by omega, by go_num, HN2, HX6, HB6⟩
      case measure => simp [intOf]; omega
    · obtain rfl : k = ps.length := by omega
      have x0 := HXr.out.cell 0 rfl
      go_upto_region 14 with (fail)
      clear x0
      obtain ⟨wA, hwA⟩ : ∃ wA : World, wA = wr := ⟨_, rfl⟩
      rw [← hwA] at HXr HBr hxl ⊢
      clear hwA
      go_loopw [54, 5, 58, 6] (fun vi v5 v58 v6 wr => ∃ i : Nat, i ≤ ps.length ∧ vi = .int .i64 i ∧ Hid (∀ i', i' < i → ∀ j, j < i' → twoOk ps i' j) ∧ Hid (Box wr w.heap.size [.slice (some ⟨g, o, none⟩) ps.length c] 22) ∧ Hid (Below w.heap.size w wr)) (fun i _ _ _ _ => ps.length - (intOf i).toNat)
      case atStart => exact ⟨0, Nat.zero_le _, rfl, Lib.hid (fun j hj => absurd hj (by omega)), HXr, HBr⟩
      case round =>
        obtain ⟨i, hi, rfl, Hi, HX2, HB2⟩ := hrel
        by_cases hil : i < ps.length
        · have HJ : Hid ((∀ j, j < i → twoOk ps i j) → ∀ i', i' < i + 1 → ∀ j, j < i' → twoOk ps i' j) := Lib.hid (fun h i' hi' j hj => by
            by_cases e : i' = i
            · subst e; exact h j hj
            · exact Hi.out i' (by omega) j hj)
          clear Hi
          have hii : (i : Int) < (ps.length : Int) := by omega
          go_upto_region 17 with (fail)
          obtain ⟨wB, hwB⟩ : ∃ wB : World, wB = wr := ⟨_, rfl⟩
          rw [← hwB] at HX2 HB2 ⊢
          clear hwB
          go_loopw [58, 6] (fun vj v6 wr => ∃ j : Nat, j ≤ i ∧ vj = .int .i64 j ∧ Hid (∀ j', j' < j → twoOk ps i j') ∧ Hid (Box wr w.heap.size [.slice (some ⟨g, o, none⟩) ps.length c] 22) ∧ Hid (Below w.heap.size w wr)) (fun j _ _ => i - (intOf j).toNat)
          case atStart => exact ⟨0, Nat.zero_le _, rfl, Lib.hid (fun j hj => absurd hj (by omega)), HX2, HB2⟩
          case round =>
            obtain ⟨j, hj, rfl, Hj, HX3, HB3⟩ := hrel
            by_cases hjl : j < i
            · have x0 := HX3.out.cell 0 rfl
              have HQ := Lib.hid (RdL.below HR.out HB3.out (Nat.le_refl _))
              have hji : (j : Int) < (i : Int) := by omega
              have HJJ : Hid (twoOk ps i j → ∀ j', j' < j + 1 → twoOk ps i j') := Lib.hid (fun h j' hj' => by
                by_cases e : j' = j
                · subst e; exact h
                · exact Hj.out j' (by omega))
              have HE3 : Hid (metN ps i j ≠ metN ps j i → ChkSays ps 3) := Lib.hid (fun h => .inr (.inr (.inr (.inl ⟨rfl, .inr ⟨i, hil, j, hjl, h⟩⟩))))
              have HE7 : Hid (1 < metN ps i j → ChkSays ps 7) := Lib.hid (fun h => .inr (.inr (.inr (.inr ⟨rfl, i, hil, j, hjl, h⟩))))
              have HT : Hid (twoOk ps i j ↔ (metN ps i j = metN ps j i ∧ metN ps i j ≤ 1)) := Lib.hid Iff.rfl
              clear Hj
              go_upto_region 19 with (fail)
              have hjn : j < ps.length := by omega
              have M1 := Lib.hid (fun n : Nat => qone (met_any (.slice (some ⟨g, o, none⟩) ps.length c) ps i j (wr.drewN n) (RdS.drewN HQ.out n) hil))
              have M2 := Lib.hid (fun n : Nat => qone (met_any (.slice (some ⟨g, o, none⟩) ps.length c) ps j i (wr.drewN n) (RdS.drewN HQ.out n) hjn))
              generalize metN ps i j = mij at *
              generalize metN ps j i = mji at *
              go_quiet ((go_at_call 20; first | with_reducible exact M1.out _ | with_reducible exact M2.out _))
              have x1 : (wr.drewN nq).cell? ⟨w.heap.size, 0, none⟩ = some (.slice (some ⟨g, o, none⟩) ps.length c) := x0
              by_cases hm : mij = mji
              rotate_left
              · have HE := Lib.hid (HE3.out hm)
                have hmb : ((mij : Int) != (mji : Int)) = true := by simp; omega
                have HB4 := Lib.hid (drewB HB3.out nq)
                clear hm HE3 HE7 HT HJJ HJ
                go_wp2_with fail
                go_ret
                exact ⟨3, rfl, HE.out, HB4.out⟩
              subst hm
              go_wp2_with fail
              refine (M1.out nq).mono ?_
              rintro e w5 ⟨rfl, m5, rfl⟩
              have HX5 := Lib.hid (HX3.out.drewN m5)
              have HB5 := Lib.hid (drewB HB3.out m5)
              by_cases h7 : 1 < mij
              · have HE := Lib.hid (HE7.out h7)
                have h7b : (1 : Int) < (mij : Int) := by omega
                clear h7 HE3 HE7 HT HJJ HJ
                go_wp2_with fail
                go_ret
                exact ⟨7, rfl, HE.out, HB5.out⟩
              have h7b : ¬ (1 : Int) < (mij : Int) := by omega
              have HN3 := Lib.hid (HJJ.out (HT.out.2 ⟨by first | trivial | rfl, by omega⟩))
              clear h7 HE3 HE7 HT HJJ HJ x0 x1
              go_wp2_with fail
              go_roundw
              case rel => exact ⟨j + 1, by omega, by go_num, HN3, HX5, HB5⟩
              case measure => simp [intOf]; omega
            · obtain rfl : j = i := by omega
              have HN2 := Lib.hid (HJ.out Hj.out)
              have hji : ¬ (j : Int) < (j : Int) := by omega
              clear HJ Hj
              go_wp2_with fail
              go_roundw
              case rel => exact ⟨j + 1, by omega, by go_num, HN2, HX3, HB3⟩
              case measure => simp [intOf]; omega
        · obtain rfl : i = ps.length := by omega
          have HOK : Hid (ChkSays ps 0) := Lib.hid (.inl ⟨rfl, HN.out, Hk.out, Hi.out⟩)
          clear Hk Hi
          go_wp2_with fail
          go_ret
          exact ⟨0, rfl, HOK.out, HB2.out⟩

end Go.Proofs.Ytkngpbnildhdpaa

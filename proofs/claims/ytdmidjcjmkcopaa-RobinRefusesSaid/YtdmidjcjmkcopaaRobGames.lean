/- The contracts of robin.half, robin.rounds, robin.Rounds, and of the closure and the loop of robin.games. -/
import Derived.Test.YtdmidjcjmkcopaaRows
import Derived.Test.YtdmidjcjmkcopaaBase
import Derived.WalkKit
import Derived.ProofKit
import Derived.OpenShut
import Derived.LoopTactic
import Derived.Outline
import Derived.Lib.Hide
import Derived.Handy
import Derived.Below
import Derived.Laws.OwnMore
import Derived.WalkSmall
import Derived.Deep.RegionWith
namespace Go.Proofs.Ytdmidjcjmkcopaa
open Go.ChangeShapes Go.WideShapes Go.ChangeAt Go.RowKit
set_option linter.unusedVariables false

def halfZ (n : Int) : Int := n + n % 2 - 1
theorem half_any (n : Int) (w : World) (h0 : 0 ≤ n) (h1 : n ≤ 1000) :
    Calls Try.prog 17 #[.int .i64 n] w fun e w' => e = .returned (.int .i64 (halfZ n)) ∧ w = w' := by
  go_enter Try.func17, Try.ntmps17
  go_wp2
  go_ret
  exact ⟨rfl, rfl⟩

def roundsZ (n : Int) (tw : Bool) : Int := if tw = true then 2 * halfZ n else halfZ n
theorem rounds_any (n : Int) (tw : Bool) (w : World) (h0 : 2 ≤ n) (h1 : n ≤ 32) :
    Calls Try.prog 14 #[.int .i64 n, .bool tw] w fun e w' => e = .returned (.int .i64 (roundsZ n tw)) ∧ w = w' := by
  have hb : 1 ≤ halfZ n ∧ halfZ n ≤ 31 := by unfold halfZ; omega
  cases tw
  all_goals
    go_enter Try.func14, Try.ntmps14
    go_wp2_with (go_at_call 17; refine (half_any _ _ (by omega) (by omega)).mono ?_; rintro e w' ⟨rfl, rfl⟩)
    go_ret
    exact ⟨rfl, rfl⟩

theorem Rounds_ok (n : Int) (tw : Bool) (w : World) (h0 : 2 ≤ n) (h1 : n ≤ 32) :
    Calls Try.prog 8 #[.int .i64 n, .bool tw] w fun e w' => e = .returned (.tuple #[.int .i64 (roundsZ n tw), .int .i64 0]) ∧ w = w' := by
  go_enter Try.func8, Try.ntmps8
  go_wp2_with (go_at_call 14; refine (rounds_any _ _ _ (by omega) (by omega)).mono ?_; rintro e w' ⟨rfl, rfl⟩)
  go_ret2
  exact ⟨rfl, rfl⟩
theorem Rounds_no (n : Int) (tw : Bool) (w : World) (h : n < 2 ∨ 32 < n) :
    Calls Try.prog 8 #[.int .i64 n, .bool tw] w fun e w' => e = .returned (.tuple #[.int .i64 0, .int .i64 4]) ∧ w = w' := by
  rcases h with h | h
  all_goals
    go_enter Try.func8, Try.ntmps8
    go_wp2
    go_ret2
    exact ⟨rfl, rfl⟩

/-! ### the games -/
def flat (gs : List (Int × Int)) : List Value := gs.flatMap fun g => [.int .i64 g.1, .int .i64 g.2]
theorem flat_len (gs : List (Int × Int)) : (flat gs).length = gs.length * 2 := by
  induction gs with
  | nil => rfl
  | cons a t ih => simp [flat] at *; omega
theorem flat_snoc (gs : List (Int × Int)) (g : Int × Int) : flat (gs ++ [g]) = flat gs ++ [.int .i64 g.1, .int .i64 g.2] := by simp [flat]

/-- what the closure of robin.games works on: block B holds 'turned', block B + 1 the slice of the games so far. -/
def Gs (w : World) (B : Nat) (tu : Bool) (gs : List (Int × Int)) : Prop :=
  w.heap[B]? = some (.cells #[.bool tu] 4 (0, 0)) ∧ ∃ v, w.heap[B + 1]? = some (.cells #[v] 30 (0, 0)) ∧ w.ownsRow (B + 2) 35 2 v gs.length (flat gs) ∧ B + 2 ≤ w.heap.size

def pairOf (tu first : Bool) (a b : Int) : Int × Int := if (first == tu) = true then (b, a) else (a, b)

theorem info35 : (Try.prog.info? 35).map (fun i => (i.zero, i.size, i.bytes)) = some (some (.agg #[.int .i64 0, .int .i64 0]), 2, 16) := by kernel_rfl

theorem own_form {w : World} {base : Nat} {e : TypeId} {size : Nat} {v : Value} {n : Nat} {xs : List Value} (h : w.ownsRow base e size v n xs) (hn : 0 < n) : ∃ g c, v = .slice (some ⟨g, 0, none⟩) n c := by
  rcases h.2 with ⟨_, h0⟩ | ⟨g, c, _, h, _⟩
  · omega
  · exact ⟨g, c, h⟩

def AddPost (B : Nat) (tu : Bool) (gs : List (Int × Int)) (w : World) (e : Ending) (w' : World) : Prop := e = .returned (.tuple #[]) ∧ Gs w' B tu gs ∧ Below B w w'

theorem Gs.step {w w1 : World} {B : Nat} {tu : Bool} {gs : List (Int × Int)} {g : Int × Int} {v v' : Value} (o : Obj) (hB : w.heap[B]? = some (.cells #[.bool tu] 4 (0, 0))) (hv : w.heap[B + 1]? = some (.cells #[v] 30 (0, 0)))
    (hsz : B + 2 ≤ w.heap.size) (hown : w.ownsRow (B + 2) 35 2 v gs.length (flat gs)) (hown' : w1.ownsRow (B + 2) 35 2 v' (gs.length + 1) (flat gs ++ [.int .i64 g.1, .int .i64 g.2])) (hg : (w.alloc o).grownBy w1 v.ownBlock) :
    (Gs (w1.setCell ⟨B + 1, 0, none⟩ v') B tu (gs ++ [g]) ∧ Below B w (w1.setCell ⟨B + 1, 0, none⟩ v')) ∧ w1.heap[B + 1]? = some (.cells #[v] 30 (0, 0)) := by
  have hsz1 : w.heap.size + 1 ≤ w1.heap.size := by have := hg.size; simpa using this
  have far : ∀ k, k < B + 2 → some k ≠ v.ownBlock := by
    intro k hk e
    rcases hown.2 with ⟨rfl, _⟩ | ⟨g', cap, cur, rfl, hge, _⟩
    · cases e
    · simp [Value.ownBlock] at e; omega
  have blk : ∀ k, k < B + 2 → w1.heap[k]? = w.heap[k]? := fun k hk => by
    rw [hg.block k (by simp; omega) (far k hk)]
    exact Below.heap_alloc w o k (by omega)
  have hB1 : w1.heap[B]? = some (.cells #[.bool tu] 4 (0, 0)) := by rw [blk B (by omega)]; exact hB
  have hv1 : w1.heap[B + 1]? = some (.cells #[v] 30 (0, 0)) := by rw [blk (B + 1) (by omega)]; exact hv
  refine ⟨⟨⟨?_, v', ?_, ?_, by simpa using (by omega : B + 2 ≤ w1.heap.size)⟩, ?_⟩, hv1⟩
  · rw [Below.heap_setCell w1 ⟨B + 1, 0, none⟩ v' B (by simp)]; exact hB1
  · exact one_setCell hv1
  · rw [flat_snoc, List.length_append]
    exact ownsRow_setCell_below hown' (by simp) _
  · refine Below.setCell ?_ (by simp) _
    exact ⟨hg.os, hg.tape, hg.output, by omega, fun k hk => blk k (by omega)⟩

set_option maxHeartbeats 1000000 in
theorem add_any (a b : Int) (first tu : Bool) (gs : List (Int × Int)) (B : Nat) (w : World) (h : Gs w B tu gs) (hlen : gs.length ≤ 100) :
    Calls Try.prog 19 #[.int .i64 a, .int .i64 b, .bool first, .pointer (some ⟨B, 0, none⟩), .pointer (some ⟨B + 1, 0, none⟩)] w (AddPost B tu (gs ++ [pairOf tu first a b]) w) := by
  obtain ⟨hB, v, hv, hown, hsz⟩ := h
  obtain ⟨i0, hi, hz0, hz1, hz2⟩ := info_parts info35
  have cT : w.cell? ⟨B, 0, none⟩ = some (.bool tu) := cell_of_one hB
  have cO : w.cell? ⟨B + 1, 0, none⟩ = some v := cell_of_one hv
  have fO : w.frozen? ⟨B + 1, 0, none⟩ = false := free_of_one hv
  cases first <;> cases tu
  all_goals
    go_enter Try.func19, Try.ntmps19
    go_wp2_with (at_builtin; refine wpList_append_own _ rfl _ _ 30 rfl (B + 2) 35 i0 (.agg #[.int .i64 0, .int .i64 0]) 2 16 Try.underlying30 hi hz0 hz1 hz2 rfl (by decide) v gs.length (flat gs) rfl (hown.alloc _) ⟨w.heap.size, 0, none⟩ 1 1 [.int .i64 _, .int .i64 _] rfl rfl (cell_two_new _ _ _ _) ?c2 ?c3 ?c4 ?c5 ?_)
    case c2 => intro u hu; simp at hu; rcases hu with rfl | rfl <;> rfl
    case c3 => unfold maxLen; omega
    case c4 => omega
    case c5 => simp; omega
    intro v' w1 hown' hgrow _
    obtain ⟨gg, cap', rfl⟩ := own_form hown' (by omega)
    (first | obtain ⟨hpost, hv1⟩ := Gs.step (g := (a, b)) _ hB hv hsz hown hown' hgrow | obtain ⟨hpost, hv1⟩ := Gs.step (g := (b, a)) _ hB hv hsz hown hown' hgrow)
    have HP := Lib.hid hpost
    clear hpost hown' hgrow hown hv hB cT cO fO hsz
    have cO : w1.cell? ⟨B + 1, 0, none⟩ = some v := cell_of_one hv1
    have fO : w1.frozen? ⟨B + 1, 0, none⟩ = false := free_of_one hv1
    clear hv1
    go_wp2
    go_returns
    exact ⟨rfl, HP.out.1, HP.out.2⟩

/-- the games of a round: the one of the last player, and those of the pairs i. -/
def g0 (n h r : Int) (tu : Bool) : List (Int × Int) := if (n % 2 == 0) = true then [pairOf tu (r % 2 == 0) r (n - 1)] else []
def gi (h r : Int) (tu : Bool) (i : Int) : Int × Int := pairOf tu (i % 2 == 0) ((r + i) % h) ((r + h - i) % h)
def gTo (n h r : Int) (tu : Bool) (k : Nat) : List (Int × Int) := g0 n h r tu ++ (List.range k).map fun j : Nat => gi h r tu ((j : Int) + 1)
theorem gTo_succ (n h r : Int) (tu : Bool) (k : Nat) : gTo n h r tu (k + 1) = gTo n h r tu k ++ [gi h r tu ((k : Int) + 1)] := by
  unfold gTo; rw [List.range_succ, List.map_append, List.append_assoc]; rfl
theorem gTo_len (n h r : Int) (tu : Bool) (k : Nat) : (gTo n h r tu k).length ≤ k + 1 := by
  unfold gTo g0; split <;> simp <;> omega
def gamesZ (n round : Int) : List (Int × Int) := gTo n (halfZ n) (round % halfZ n) (decide (halfZ n ≤ round)) ((halfZ n + 1) / 2 - 1).toNat

def GamesPost (gs : List (Int × Int)) (w : World) (e : Ending) (w' : World) : Prop := ∃ v, e = .returned v ∧ w'.ownsRow (w.heap.size + 2) 35 2 v gs.length (flat gs) ∧ Below w.heap.size w w'

theorem Gs.start (w : World) (tu : Bool) : Gs ((w.alloc (.cells #[.bool tu] 4)).alloc (.cells #[.slice none 0 0] 30)) w.heap.size tu [] := by
  refine ⟨?_, .slice none 0 0, ?_, World.ownsRow_nil _ _ _ _, by simp⟩
  · rw [Below.heap_alloc _ _ _ (by simp)]; exact heap_alloc_new w _
  · have := heap_alloc_new (w.alloc (.cells #[.bool tu] 4)) (.cells #[.slice none 0 0] 30)
    simpa using this
theorem Gs.drew {w : World} {B : Nat} {tu : Bool} {gs : List (Int × Int)} (h : Gs w B tu gs) : Gs w.drew B tu gs := h
theorem Gs.cells {w : World} {B : Nat} {tu : Bool} {gs : List (Int × Int)} (h : Gs w B tu gs) : ∃ v, w.cell? ⟨B + 1, 0, none⟩ = some v ∧ w.ownsRow (B + 2) 35 2 v gs.length (flat gs) := by
  obtain ⟨_, v, hv, hown, _⟩ := h
  exact ⟨v, cell_of_one hv, hown⟩

set_option maxHeartbeats 2000000 in
theorem games_any (n round : Int) (w : World) (h0 : 2 ≤ n) (h1 : n ≤ 32) (hr0 : 0 ≤ round) (hr1 : round ≤ 100) :
    Calls Try.prog 15 #[.int .i64 n, .int .i64 round] w (GamesPost (gamesZ n round) w) := by
  have hmf : ∀ (fn : Fn) (first cap : Array Value) (w : World), (Instr.makeFunc fn first cap).run Try.prog w = .ok (.func fn first cap) w := fun _ _ _ _ => rfl
  have hb : 1 ≤ halfZ n ∧ halfZ n ≤ 31 := by unfold halfZ; omega
  have HG : Hid (gamesZ n round = gTo n (halfZ n) (round % halfZ n) (decide (halfZ n ≤ round)) ((halfZ n + 1) / 2 - 1).toNat) := Lib.hid rfl
  have hr : 0 ≤ round % halfZ n ∧ round % halfZ n < halfZ n := ⟨Int.emod_nonneg _ (by omega), Int.emod_lt_of_pos _ (by omega)⟩
  go_enter Try.func15, Try.ntmps15
  go_wp2_with fail
  refine (half_any _ _ (by omega) (by omega)).mono ?_
  rintro e w' ⟨rfl, rfl⟩
  generalize halfZ n = h at *
  have hh : (h == 0) = false := by simp; omega
  cases he : (n % 2 == 0)
  · go_wp2_with fail
    generalize round % h = r at *
    generalize decide (h ≤ round) = tu at *
    have H0 : Hid (gTo n h r tu 0 = []) := Lib.hid (by unfold gTo g0; simp [he])
    have hgs := Gs.start w tu
    have hbel : Below w.heap.size w ((w.alloc (.cells #[.bool tu] 4)).alloc (.cells #[.slice none 0 0] 30)) := by go_grown
    rw [← H0.out] at hgs
    have HGS := Lib.hid hgs
    clear hgs
    go_loopw [10] (fun i wr => ∃ k : Nat, (k : Int) ≤ (h + 1) / 2 - 1 ∧ i = .int .i64 ((k : Int) + 1) ∧ Hid (Gs wr w.heap.size tu (gTo n h r tu k)) ∧ Below w.heap.size w wr) (fun i _ => 100 - (intOf i).toNat)
    case atStart => exact ⟨0, by omega, rfl, HGS, hbel⟩
    case round =>
      obtain ⟨k, hk, rfl, HK, hbl⟩ := hrel
      have hl := gTo_len n h r tu k
      have HN := Lib.hid (gTo_succ n h r tu k)
      by_cases hlt : (k : Int) + 1 ≤ (h + 1) / 2 - 1
      · have a1 : 0 ≤ r + ((k : Int) + 1) := by omega
        have a2 : 0 ≤ r + h - ((k : Int) + 1) := by omega
        have a3 : 0 ≤ (k : Int) + 1 := by omega
        go_wp2_with fail
        go_region_with (go_at_call 19; refine (add_any _ _ _ tu (gTo n h r tu k) w.heap.size _ (Gs.drew HK.out) (by omega)).mono ?_; rintro e w1 ⟨rfl, hg1, hb1⟩)
        all_goals
          have hbl2 : Below w.heap.size w w1 := (hbl.drew).trans hb1
          have HG1 : Hid (Gs w1 w.heap.size tu (gTo n h r tu (k + 1))) := Lib.hid (by rw [HN.out]; unfold gi; first | (rw [← Int.tmod_eq_emod_of_nonneg a2]; exact hg1) | (rw [← Int.tmod_eq_emod_of_nonneg a1]; exact hg1))
          clear hg1 hb1 hbl HK
          go_wp2_with fail
          go_roundw
          case rel => exact ⟨k + 1, by omega, by go_num, HG1, hbl2⟩
          case measure => simp [intOf]; omega
      · obtain ⟨v, cv, hown⟩ := HK.out.cells
        have ek : ((h + 1) / 2 - 1).toNat = k := by omega
        have HO := Lib.hid hown
        clear hown
        have HE := Lib.hid ek
        clear ek
        go_wp2_with fail
        go_ret
        exact ⟨v, rfl, by rw [HG.out, HE.out]; exact HO.out, hbl⟩
  · go_wp2_with fail
    generalize round % h = r at *
    generalize decide (h ≤ round) = tu at *
    have H0 : Hid (gTo n h r tu 0 = [pairOf tu (r % 2 == 0) r (n - 1)]) := Lib.hid (by unfold gTo g0; simp [he])
    refine (add_any r (n - 1) (r % 2 == 0) tu [] w.heap.size _ (Gs.start w tu) (by simp)).mono ?_
    rintro e w1 ⟨rfl, hgs, hb1⟩
    have hbel : Below w.heap.size w w1 := Below.trans (by go_grown) hb1
    rw [List.nil_append, ← H0.out] at hgs
    clear hb1
    go_wp2_with fail
    have HGS := Lib.hid hgs
    clear hgs
    go_loopw [10] (fun i wr => ∃ k : Nat, (k : Int) ≤ (h + 1) / 2 - 1 ∧ i = .int .i64 ((k : Int) + 1) ∧ Hid (Gs wr w.heap.size tu (gTo n h r tu k)) ∧ Below w.heap.size w wr) (fun i _ => 100 - (intOf i).toNat)
    case atStart => exact ⟨0, by omega, rfl, HGS, hbel⟩
    case round =>
      obtain ⟨k, hk, rfl, HK, hbl⟩ := hrel
      have hl := gTo_len n h r tu k
      have HN := Lib.hid (gTo_succ n h r tu k)
      by_cases hlt : (k : Int) + 1 ≤ (h + 1) / 2 - 1
      · have a1 : 0 ≤ r + ((k : Int) + 1) := by omega
        have a2 : 0 ≤ r + h - ((k : Int) + 1) := by omega
        have a3 : 0 ≤ (k : Int) + 1 := by omega
        go_wp2_with fail
        go_region_with (go_at_call 19; refine (add_any _ _ _ tu (gTo n h r tu k) w.heap.size _ (Gs.drew HK.out) (by omega)).mono ?_; rintro e w1 ⟨rfl, hg1, hb1⟩)
        all_goals
          have hbl2 : Below w.heap.size w w1 := (hbl.drew).trans hb1
          have HG1 : Hid (Gs w1 w.heap.size tu (gTo n h r tu (k + 1))) := Lib.hid (by rw [HN.out]; unfold gi; first | (rw [← Int.tmod_eq_emod_of_nonneg a2]; exact hg1) | (rw [← Int.tmod_eq_emod_of_nonneg a1]; exact hg1))
          clear hg1 hb1 hbl HK
          go_wp2_with fail
          go_roundw
          case rel => exact ⟨k + 1, by omega, by go_num, HG1, hbl2⟩
          case measure => simp [intOf]; omega
      · obtain ⟨v, cv, hown⟩ := HK.out.cells
        have ek : ((h + 1) / 2 - 1).toNat = k := by omega
        have HO := Lib.hid hown
        clear hown
        have HE := Lib.hid ek
        clear ek
        go_wp2_with fail
        go_ret
        exact ⟨v, rfl, by rw [HG.out, HE.out]; exact HO.out, hbl⟩
end Go.Proofs.Ytdmidjcjmkcopaa

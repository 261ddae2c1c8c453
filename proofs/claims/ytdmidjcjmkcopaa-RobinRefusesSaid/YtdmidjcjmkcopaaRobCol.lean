/- The contract of robin.Colours: it returns how often each player moves first less how often second. -/
import Derived.Test.YtdmidjcjmkcopaaRobPlain
namespace Go.Proofs.Ytdmidjcjmkcopaa
open Go.ChangeShapes Go.WideShapes Go.ChangeAt Go.RowKit
set_option linter.unusedVariables false

theorem info3 : (Try.prog.info? 3).map (fun i => (i.zero, i.size, i.bytes)) = some (some (.int .i64 0), 1, 8) := by kernel_rfl
def ints (l : List Int) : List Value := l.map (Value.int .i64)
theorem ints_len (l : List Int) : (ints l).length = l.length := by simp [ints]
theorem ints_get (l : List Int) (i : Nat) (h : i < l.length) : (ints l)[i]? = some (.int .i64 (l.getD i 0)) := by
  simp [ints, List.getD, List.getElem?_eq_getElem h]
theorem made_ints (n : Nat) : (madeCells (Value.cells (.int .i64 0)) (n * 1)).toList = ints (List.replicate n 0) := by
  apply List.ext_getElem
  · simp [madeCells, ints]
  · intro i h1 h2
    simp [madeCells, ints, Value.cells, Nat.mod_one]
theorem ints_addAt (l : List Int) (i : Nat) (d : Int) : (ints l).set i (.int .i64 (l.getD i 0 + d)) = ints (addAt l i d) := by
  unfold ints addAt; rw [List.map_set]
theorem flat_get (gs : List (Int × Int)) (k : Nat) (h : k < gs.length) : (flat gs)[k * 2]? = some (.int .i64 (gs.getD k (0, 0)).1) ∧ (flat gs)[k * 2 + 1]? = some (.int .i64 (gs.getD k (0, 0)).2) := by
  induction gs generalizing k with
  | nil => simp at h
  | cons g t ih =>
    cases k with
    | zero => exact ⟨rfl, rfl⟩
    | succ k =>
      have := ih k (by simpa using h)
      have e : (k + 1) * 2 = k * 2 + 2 := by omega
      rw [e]
      exact this
theorem take_snoc' (gs : List (Int × Int)) (k : Nat) (h : k < gs.length) : gs.take (k + 1) = gs.take k ++ [gs.getD k (0, 0)] := by
  rw [List.take_succ_eq_append_getElem h]; simp [List.getD, List.getElem?_eq_getElem h]
theorem getD_mem (gs : List (Int × Int)) (k : Nat) (h : k < gs.length) : gs.getD k (0, 0) ∈ gs := by
  rw [List.getD_eq_getElem?_getD, List.getElem?_eq_getElem h]; exact List.getElem_mem h
theorem addAt_other (l : List Int) (a b : Nat) (d : Int) (h : a ≠ b) : (addAt l a d).getD b 0 = l.getD b 0 := by
  unfold addAt; simp [List.getD, h]

/-- one game more: what the two stores leave. -/
theorem col_step {w : World} {base n G : Nat} {l : List Int} {a b : Nat} {xa xb : Int} (o : Obj) (hown : w.ownsRow base 3 1 (.slice (some ⟨G, 0, none⟩) n n) n (ints l)) (hab : a ≠ b) (hxa : l.getD a 0 = xa) (hxb : l.getD b 0 = xb) :
    (((w.setCell ⟨G, a, none⟩ (.int .i64 (xa + 1))).setCell ⟨G, b, none⟩ (.int .i64 (xb - 1))).alloc o).ownsRow base 3 1 (.slice (some ⟨G, 0, none⟩) n n) n (ints (col1 l ((a : Int), (b : Int)))) := by
  subst hxa hxb
  have h1 := (hown.stored a (.int .i64 (l.getD a 0 + 1))).1
  rw [ints_addAt] at h1
  have h2 := (h1.stored b (.int .i64 ((addAt l a 1).getD b 0 + -1))).1
  rw [ints_addAt, addAt_other l a b 1 hab] at h2
  exact h2.alloc o

theorem hg_set (w : World) (p : Addr) (u : Value) : w.grownBy (w.setCell p u) (some p.block) :=
  ⟨rfl, rfl, rfl, by simp, fun k _ hk => Below.heap_setCell w p u k (fun e => hk (by rw [e]))⟩

def ColPost (n : Nat) (l : List Int) (w : World) (e : Ending) (w' : World) : Prop :=
  ∃ G, e = .returned (.tuple #[.slice (some ⟨G, 0, none⟩) n n, .int .i64 0]) ∧ w'.ownsRow w.heap.size 3 1 (.slice (some ⟨G, 0, none⟩) n n) n (ints l) ∧ Below w.heap.size w w'

set_option maxHeartbeats 4000000 in
theorem Colours_any (n : Nat) (tw : Bool) (w : World) (h0 : 2 ≤ n) (h1 : n ≤ 32) :
    Calls Try.prog 9 #[.int .i64 n, .bool tw, .int .i64 (roundsZ n tw)] w (ColPost n (colTo n (roundsZ n tw).toNat) w) := by
  obtain ⟨i0, hi, hz0, hz1, hz2⟩ := info_parts info3
  have hb : 1 ≤ roundsZ n tw ∧ roundsZ n tw ≤ 62 := by unfold roundsZ halfZ; split <;> omega
  go_enter Try.func9, Try.ntmps9
  go_wp2_with fail
  refine (Rounds_ok _ _ _ (by omega) (by omega)).mono ?_
  rintro e w' ⟨rfl, rfl⟩
  generalize hK : roundsZ n tw = KI at *
  clear hK
  obtain ⟨K, rfl⟩ : ∃ K : Nat, KI = (K : Int) := ⟨KI.toNat, by omega⟩
  rw [Int.toNat_natCast]
  go_wp2_with (at_make; refine wpList_make_full _ rfl _ _ 26 rfl w.heap.size 3 i0 (.int .i64 0) 1 Try.underlying26 hi hz0 hz1 .i64 .i64 n n n rfl rfl rfl rfl (by rw [hz2]; omega) (by unfold maxLen; omega) (Nat.le_refl _) ?_; intro w1 hown hgrow)
  have hk0 : decide ((K : Int) < 0) = false := by simp
  rw [made_ints] at hown
  have hgl := hgrow.size
  have HO := Lib.hid hown
  have hB1 : Below w.heap.size w w1 := ⟨hgrow.os, hgrow.tape, hgrow.output, hgrow.size, fun k hk => hgrow.block k hk (by simp)⟩
  clear hown hgrow
  go_loopw [33] (fun i wr => ∃ r : Nat, r ≤ K ∧ i = .int .i64 r ∧ Hid (wr.ownsRow w.heap.size 3 1 (.slice (some ⟨w.heap.size, 0, none⟩) n n) n (ints (colTo n r))) ∧ Below w.heap.size w wr) (fun i _ => K - (intOf i).toNat)
  case atStart => exact ⟨0, Nat.zero_le _, rfl, HO, hB1⟩
  case round =>
    obtain ⟨r, hr, rfl, HO, hbl⟩ := hrel
    by_cases hlt : r < K
    · have hG : w.heap.size < wr.heap.size := (HO.out.lt w.heap.size rfl).2
      have HC := Lib.hid (colTo_succ n r)
      have hgok := games_ok n r h0 h1 (by omega)
      have hgl := games_len n r (by omega) (by omega)
      have hin := In_colTo n r h0 h1
      have hin3 : In 3000 (colTo n r) := fun i => by have := hin i; omega
      have HI := Lib.hid (fun k => In_take (gamesZ n r) hin3 hgl k)
      have hlen := colTo_len n r
      have HL := Lib.hid (fun k => (colR_len ((gamesZ n r).take k) (colTo n r)).trans hlen)
      have HK := Lib.hid hgok
      clear hgok hin hin3 hlen
      go_wp2_with fail
      refine (games_any n r _ (by omega) (by omega) (by omega) (by omega)).mono ?_
      rintro e w2 ⟨v, rfl, hown2, hb2⟩
      generalize gamesZ n r = gs at *
      have hbl2 : Below w.heap.size w w2 := hbl.trans (hb2.mono (by omega))
      have HO2 : Hid (w2.ownsRow w.heap.size 3 1 (.slice (some ⟨w.heap.size, 0, none⟩) n n) n (ints (colR (colTo n r) (gs.take 0)))) := Lib.hid (HO.out.kept (row := none) ⟨hb2.os, hb2.tape, hb2.output, hb2.size, fun k hk _ => hb2.block k hk⟩ (Or.inr (by simp [Value.ownBlock])))
      have hszr : wr.heap.size ≤ w2.heap.size := hb2.size
      clear HO hbl hb2
      have hform : (v = .slice none 0 0 ∧ gs.length = 0) ∨ ∃ g cap, v = .slice (some ⟨g, 0, none⟩) gs.length cap ∧ wr.heap.size + 2 ≤ g := by
        rcases hown2.2 with h | ⟨g, cap, _, h, hg, _⟩
        · exact .inl h
        · exact .inr ⟨g, cap, h, hg⟩
      rcases hform with ⟨rfl, hz⟩ | ⟨g, cap, rfl, hgb⟩
      · obtain rfl : gs = [] := List.length_eq_zero_iff.1 hz
        clear hown2 hz
        go_wp2_with fail
        refine wp_loop_rounds 1 ?_
        rw [rounds_succ]
        go_wp2_with fail
        go_roundw
        case rel => ((repeat apply Exists.intro); exact ⟨⟨r + 1, by omega, by go_num, Lib.hid (by rw [HC.out]; exact HO2.out), hbl2⟩, rfl⟩)
        case measure => simp [intOf]; omega
      · have hg2 : g < w2.heap.size := (hown2.lt g rfl).2
        have HV := Lib.hid hown2
        clear hown2
        go_wp2_with fail
        obtain ⟨wo, rfl⟩ : ∃ wo : World, wo = wr := ⟨_, rfl⟩
        go_loopw [40] (fun i wr => ∃ k : Nat, k ≤ gs.length ∧ i = .int .i64 k ∧ Hid (wr.ownsRow w.heap.size 3 1 (.slice (some ⟨w.heap.size, 0, none⟩) n n) n (ints (colR (colTo n r) (gs.take k)))) ∧ Hid (wr.ownsRow (wo.heap.size + 2) 35 2 (.slice (some ⟨g, 0, none⟩) gs.length cap) gs.length (flat gs)) ∧ Below w.heap.size w wr) (fun i _ => gs.length - (intOf i).toNat)
        case atStart => exact ⟨0, Nat.zero_le _, rfl, HO2, HV, hbl2⟩
        case round =>
          obtain ⟨k, hk, rfl, HO3, HV3, hbl3⟩ := hrel
          by_cases hlt2 : k < gs.length
          · have hgk := HK.out _ (getD_mem gs k hlt2)
            obtain ⟨q1, q2⟩ := flat_get gs k hlt2
            have c1 : wr.cell? ⟨g, k * 2, none⟩ = some (.int .i64 (gs.getD k (0, 0)).1) := (HV3.out.cellAt _ (by omega)).trans q1
            have c2 : wr.cell? ⟨g, k * 2 + 1, none⟩ = some (.int .i64 (gs.getD k (0, 0)).2) := (HV3.out.cellAt _ (by omega)).trans q2
            have HT := Lib.hid (take_snoc' gs k hlt2)
            clear q1 q2
            generalize gs.getD k (0, 0) = q at *
            obtain ⟨qa, qb⟩ := q
            obtain ⟨a, rfl⟩ : ∃ a : Nat, qa = (a : Int) := ⟨qa.toNat, by simp at hgk; omega⟩
            obtain ⟨b, rfl⟩ : ∃ b : Nat, qb = (b : Int) := ⟨qb.toNat, by simp at hgk; omega⟩
            simp only at hgk c1 c2
            have ha : a < n := by omega
            have hb' : b < n := by omega
            have hab : ¬ a = b := by omega
            have hba : ¬ b = a := by omega
            have HL2 := HL.out k
            have HI2 := HI.out k
            have ca : wr.cell? ⟨w.heap.size, a, none⟩ = some (.int .i64 ((colR (colTo n r) (gs.take k)).getD a 0)) := (HO3.out.cellAt a (by omega)).trans (ints_get _ a (by omega))
            have cb : wr.cell? ⟨w.heap.size, b, none⟩ = some (.int .i64 ((colR (colTo n r) (gs.take k)).getD b 0)) := (HO3.out.cellAt b (by omega)).trans (ints_get _ b (by omega))
            have fa : wr.frozen? ⟨w.heap.size, a, none⟩ = false := HO3.out.frozenAt a
            have fb : wr.frozen? ⟨w.heap.size, b, none⟩ = false := HO3.out.frozenAt b
            have hia := HI2 a
            have hib := HI2 b
            have HE := Lib.hid HL2
            clear HL2 HI2 hgk
            have hg3 : g < wr.heap.size := (HV3.out.lt g rfl).2
            have hG3 : w.heap.size < wr.heap.size := (HO3.out.lt _ rfl).2
            have hne : ¬ g = w.heap.size := by omega
            have hne2 : ¬ w.heap.size = g := by omega
            have HSt := Lib.hid (fun xa xb (h1 : (colR (colTo n r) (gs.take k)).getD a 0 = xa) (h2 : (colR (colTo n r) (gs.take k)).getD b 0 = xb) o => col_step o HO3.out (by omega : a ≠ b) h1 h2)
            have HSn := Lib.hid (colR_snoc (colTo n r) (gs.take k) ((a : Int), (b : Int)))
            generalize colR (colTo n r) (gs.take k) = l at *
            generalize hxa : l.getD a 0 = xa at ca hia
            generalize hxb : l.getD b 0 = xb at cb hib
            have HSt2 := Lib.hid (HSt.out xa xb hxa hxb)
            clear hxa hxb HSt
            go_wp2_with fail
            go_roundw
            case rel => exact ⟨k + 1, by omega, by go_num, Lib.hid (by rw [HT.out, HSn.out]; exact HSt2.out _), Lib.hid ((((HV3.out.kept (hg_set _ _ _) (Or.inr (by simp [Value.ownBlock]; omega))).kept (hg_set _ _ _) (Or.inr (by simp [Value.ownBlock]; omega)))).alloc _), by go_grown⟩
            case measure => simp [intOf]; omega
          · obtain rfl : k = gs.length := by omega
            go_wp2_with fail
            go_roundw
            case rel => ((repeat apply Exists.intro); exact ⟨⟨r + 1, by omega, by go_num, Lib.hid (by rw [HC.out]; simpa using HO3.out), hbl3⟩, rfl⟩)
            case measure => simp [intOf]; omega
    · obtain rfl : r = K := by omega
      go_wp2_with fail
      go_ret2
      exact ⟨w.heap.size, rfl, HO.out, hbl⟩
end Go.Proofs.Ytdmidjcjmkcopaa

/- The helpers of TopSymmetric; the contracts of rules.Turned, place.Other. -/
import Derived.Test.YtaacfoeleblfbaaSymP
import Derived.Test.YtaacfoeleblfbaaTic
import Derived.Test.YtaacfoeleblfbaaSame
import Derived.Test.YtaacfoeleblfbaaIntsFunc
import Derived.Test.YtaacfoeleblfbaaSub
import Derived.Test.YtaacfoeleblfbaaCopy
import Derived.BigRegion
namespace Go.Proofs.Ytaacfoeleblfbaa
open Go.ChangeShapes Go.WideShapes Go.ChangeAt Go.RowKit
set_option linter.unusedVariables false

def threeZ : RulesZ := ⟨⟨#[84, 73, 67]⟩, 3, 3, [⟨65, 5, 0, []⟩], List.replicate 9 0, false, false, [⟨0, 0, 3, false⟩], 2, 0, 0⟩
def ThreePost (w : World) (e : Ending) (w' : World) : Prop := ∃ vp vs ve, e = .returned (rulesV threeZ vp vs ve) ∧ RdR w' threeZ vp vs ve ∧ Below w.heap.size w w'
set_option maxRecDepth 100000 in
set_option maxHeartbeats 4000000 in
theorem three_any (w : World) : Calls Try.prog 6 #[] w (ThreePost w) := by
  obtain ⟨i0, hi, hz0, hz1, hz2⟩ := info_parts info3
  have hmk : ∀ w' : World, (Instr.makeSlice 23 (.int .i64 9) (.int .i64 9)).run Try.prog w' = .ok (.slice (some ⟨w'.heap.size, 0, none⟩) 9 9) (w'.alloc (.cells #[.int .i64 0, .int .i64 0, .int .i64 0, .int .i64 0, .int .i64 0, .int .i64 0, .int .i64 0, .int .i64 0, .int .i64 0] 3)) := fun w' => by
    rw [run_make w' 23 3 i0 (.int .i64 0) Try.underlying23 hi hz0 .i64 .i64 9 9 (by decide) (by decide) (by rw [hz2]; decide) (by decide), hz1]
    kernel_rfl
  clear hi hz0 hz1 hz2
  go_enter Try.func6, Try.ntmps6
  go_wp2
  refine bodyPost_ret (v := rulesV threeZ (.slice (some ⟨w.heap.size + 1, 0, none⟩) 1 1) (.slice (some ⟨w.heap.size + 1 + 1, 0, none⟩) 9 9) (.slice (some ⟨w.heap.size + 1 + 1 + 1, 0, none⟩) 1 1)) (by simp [results, Try.results6, go_sem, rulesV, threeZ]) rfl ⟨_, _, _, rfl, ⟨?_, ?_, ?_⟩, by go_grown⟩
  · refine .inr ⟨w.heap.size + 1, 0, 1, rfl, Nat.le_refl _, by unfold maxLen; decide, by simp, fun i h => ?_⟩
    obtain rfl : i = 0 := by simp [threeZ] at h; exact h
    refine ⟨[.int .u8 65, .int .i64 5, .int .i64 0, .slice none 0 0], ⟨.slice none 0 0, rfl, RdL.nil _ _⟩, fun j hj => ?_⟩
    simp only [pieceEl] at hj
    rcases j with _ | _ | _ | _ | j
    all_goals first | (simp [go_sem]; done) | omega
  · refine ⟨rfl, .inr ⟨w.heap.size + 1 + 1, 0, 9, rfl, Nat.le_refl _, by unfold maxLen; decide, fun i hi => ?_⟩⟩
    have hi' : i < 9 := by simpa [threeZ] using hi
    rcases i with _ | _ | _ | _ | _ | _ | _ | _ | _ | i
    all_goals first | (simp [go_sem, ints, threeZ]; done) | omega
  · refine .inr ⟨w.heap.size + 1 + 1 + 1, 0, 1, rfl, Nat.le_refl _, by unfold maxLen; decide, by simp, fun i h => ?_⟩
    obtain rfl : i = 0 := by simp [threeZ] at h; exact h
    refine ⟨[.int .i64 0, .int .i64 0, .int .i64 3, .bool false], rfl, fun j hj => ?_⟩
    simp only [endEl] at hj
    rcases j with _ | _ | _ | _ | j
    all_goals first | (simp [go_sem]; done) | omega
theorem three_rules : rulesErr threeZ = 0 := by decide +kernel


def nearZ : PosZ := ⟨[1, 1, 0, 2, 2, 0, 0, 0, 0], [3], [3], 0, 0⟩
set_option maxRecDepth 100000 in
set_option maxHeartbeats 4000000 in
theorem near_any (w : World) : Calls Try.prog 7 #[] w fun e w' => ∃ vc v0 v1, e = .returned (posV nearZ vc v0 v1) ∧ RdP w' nearZ vc v0 v1 ∧ Below w.heap.size w w' := by
  go_enter Try.func7, Try.ntmps7
  go_wp2
  refine bodyPost_ret (v := posV nearZ (.slice (some ⟨w.heap.size + 1, 0, none⟩) 9 9) (.slice (some ⟨w.heap.size + 1 + 1, 0, none⟩) 1 1) (.slice (some ⟨w.heap.size + 1 + 1 + 1, 0, none⟩) 1 1)) (by simp [results, Try.results7, go_sem, posV, nearZ]) rfl ⟨_, _, _, rfl, ⟨?_, ?_, ?_⟩, by go_grown⟩
  · refine ⟨rfl, .inr ⟨w.heap.size + 1, 0, 9, rfl, Nat.le_refl _, by unfold maxLen; decide, fun i hi => ?_⟩⟩
    have hi' : i < 9 := by simpa [nearZ] using hi
    rcases i with _ | _ | _ | _ | _ | _ | _ | _ | _ | i
    all_goals first | (simp [go_sem, ints, nearZ]; done) | omega
  · refine ⟨rfl, .inr ⟨w.heap.size + 1 + 1, 0, 1, rfl, Nat.le_refl _, by unfold maxLen; decide, fun i hi => ?_⟩⟩
    obtain rfl : i = 0 := by simp [nearZ] at hi; exact hi
    simp [go_sem, ints, nearZ]
  · refine ⟨rfl, .inr ⟨w.heap.size + 1 + 1 + 1, 0, 1, rfl, Nat.le_refl _, by unfold maxLen; decide, fun i hi => ?_⟩⟩
    obtain rfl : i = 0 := by simp [nearZ] at hi; exact hi
    simp [go_sem, ints, nearZ]

theorem IndexFuncE_any (v : Value) (zs : List Int) (p : Int → Bool) (f : FuncId) (caps : Array Value) (w : World) (h : RdI w v zs) (hf : ∀ (args : Array Value) (w : World), (callFunc f args).run Try.prog w = .ok (.enter f args) w)
    (hc : ∀ z ∈ zs, Calls Try.prog f (#[.int .i64 z] ++ caps) w fun e w' => e = .returned (.bool (p z)) ∧ w = w') :
    Calls Try.prog 50 #[v, .func (.func f) #[] caps] w fun e w' => e = .returned (.int .i64 (idxI p zs 0)) ∧ w = w' := by
  obtain ⟨a, c, rfl, h1, h2⟩ := h.form
  unfold maxLen at h2
  have HR := Lib.hid h
  have HC := Lib.hid hc
  clear h hc
  go_enter Try.func50, Try.ntmps50
  go_wp2_with fail
  go_loop [8] (fun i => ∃ k : Nat, k ≤ zs.length ∧ i = .int .i64 k ∧ Hid (idxI p zs 0 = idxI p (zs.drop k) k)) (fun i => zs.length - (intOf i).toNat)
  case atStart => exact ⟨0, Nat.zero_le _, rfl, Lib.hid rfl⟩
  case round =>
    obtain ⟨k, hk, rfl, HK⟩ := hrel
    by_cases hlt : k < zs.length
    · obtain ⟨g, o, c', he, _, _, _, hcell⟩ := HR.out.some (by omega)
      simp only [Value.slice.injEq] at he
      obtain ⟨rfl, _, rfl⟩ := he
      have ck := hcell k hlt
      have HS := Lib.hid (idxI_step p zs k hlt)
      have HCk := Lib.hid (HC.out (zs.getD k 0) (by rw [List.getD_eq_getElem?_getD, List.getElem?_eq_getElem hlt]; exact List.getElem_mem hlt))
      clear hcell
      generalize zs.getD k 0 = z at *
      go_wp2_with fail
      refine HCk.out.mono ?_
      rintro e w' ⟨rfl, rfl⟩
      cases hp : p z
      · go_wp2_with fail
        go_round
        case rel => exact ⟨k + 1, by omega, by go_num, Lib.hid (by rw [HK.out, HS.out, if_neg (by simp [hp])])⟩
        case measure => simp [intOf]; omega
      · go_wp2_with fail
        go_ret
        exact ⟨by rw [HK.out, HS.out, if_pos hp]; rfl, rfl⟩
    · obtain rfl : k = zs.length := by omega
      go_wp2_with fail
      go_ret
      exact ⟨by rw [HK.out]; simp [idxI], rfl⟩

theorem ContainsFuncE_any (v : Value) (zs : List Int) (p : Int → Bool) (f : FuncId) (caps : Array Value) (w : World) (h : RdI w v zs) (hf : ∀ (args : Array Value) (w : World), (callFunc f args).run Try.prog w = .ok (.enter f args) w)
    (hc : ∀ z ∈ zs, Calls Try.prog f (#[.int .i64 z] ++ caps) w fun e w' => e = .returned (.bool (p z)) ∧ w = w') :
    Calls Try.prog 31 #[v, .func (.func f) #[] caps] w fun e w' => e = .returned (.bool (zs.any p)) ∧ w = w' := by
  have HI := Lib.hid (IndexFuncE_any v zs p f caps w h hf hc)
  have HA := Lib.hid (idxI_any p zs 0 (by omega))
  clear h hc hf
  go_enter Try.func31, Try.ntmps31
  go_wp2_with fail
  refine HI.out.mono ?_
  rintro e w' ⟨rfl, rfl⟩
  go_wp2_with fail
  go_ret
  exact ⟨by rw [← HA.out]; rfl, rfl⟩

theorem fine1_any (z : Int) (w : World) : Calls Try.prog 32 (#[.int .i64 z] ++ #[]) w fun e w' => e = .returned (.bool (z != 0)) ∧ w = w' := by
  show Calls Try.prog 32 #[.int .i64 z] w _
  go_enter Try.func32, Try.ntmps32
  go_wp2
  go_ret
  exact ⟨rfl, rfl⟩
theorem callFine1 (args : Array Value) (w : World) : (callFunc 32 args).run Try.prog w = .ok (.enter 32 args) w := by kernel_rfl
theorem fine_any (v : Value) (zs : List Int) (w : World) (h : RdI w v zs) : Calls Try.prog 20 #[v] w fun e w' => e = .returned (.bool (!zs.any (· != 0))) ∧ w = w' := by
  have HC := Lib.hid (ContainsFuncE_any v zs (· != 0) 32 #[] w h callFine1 (fun z _ => fine1_any z w))
  obtain ⟨a, c, rfl, h1, h2⟩ := h.form
  clear h
  go_enter Try.func20, Try.ntmps20
  go_wp2_with fail
  refine HC.out.mono ?_
  rintro e w' ⟨rfl, rfl⟩
  obtain ⟨b, hb⟩ : ∃ b, zs.any (· != 0) = b := ⟨_, rfl⟩
  have HBE := Lib.hid hb
  rw [hb]
  clear hb
  go_wp2_with fail
  go_ret
  exact ⟨by rw [HBE.out]; rfl, rfl⟩
def resRaw (R : RulesZ) (p : PosZ) : Int :=
  if 0 ≤ idxL (fun x => holdsZ R p x (1 - p.turn)) R.ends 0 then
    (if (R.ends.getD (idxL (fun x => holdsZ R p x (1 - p.turn)) R.ends 0).toNat default).loses = true then 1 + p.turn else 1 + (1 - p.turn))
  else if R.quiet ≠ 0 ∧ R.quiet ≤ p.quiet then 3
  else if (rawZ R p).isEmpty = false then 0
  else if R.blocked = 0 then 1 + (1 - p.turn)
  else if R.blocked = 1 then 1 + p.turn else 3
theorem list_pos (R : RulesZ) (p : PosZ) : 0 < (listZ R p).length ↔ (rawZ R p).isEmpty = false := by
  rw [List.length_pos_iff_exists_mem, List.isEmpty_eq_false_iff_exists_mem]
  exact ⟨fun ⟨m, h⟩ => ⟨m, list_mem.1 h⟩, fun ⟨m, h⟩ => ⟨m, list_mem.2 h⟩⟩
theorem res_raw (R : RulesZ) (p : PosZ) : resultZ R p = resRaw R p := by
  unfold resultZ resRaw
  simp only [list_pos]

theorem near_raw : rawZ threeZ nearZ = [⟨-1, 2, 0⟩, ⟨-1, 5, 0⟩, ⟨-1, 6, 0⟩, ⟨-1, 7, 0⟩, ⟨-1, 8, 0⟩] := by decide +kernel
theorem near_ok : posErr threeZ nearZ = 0 := by decide +kernel
theorem near_list : listZ threeZ nearZ = [⟨-1, 2, 0⟩, ⟨-1, 5, 0⟩, ⟨-1, 6, 0⟩, ⟨-1, 7, 0⟩, ⟨-1, 8, 0⟩] := by
  unfold listZ sortZ
  rw [near_raw, List.mergeSort_of_pairwise (by decide +kernel)]
  decide +kernel
theorem near_res : resultZ threeZ nearZ = 0 := by rw [res_raw]; decide +kernel
theorem near_moves : movesZ threeZ nearZ = [⟨-1, 2, 0⟩, ⟨-1, 5, 0⟩, ⟨-1, 6, 0⟩, ⟨-1, 7, 0⟩, ⟨-1, 8, 0⟩] := by unfold movesZ; rw [if_pos near_res, near_list]
theorem near_nodes : nodes threeZ 1 nearZ = 6 := by unfold nodes; rw [near_moves]; rfl
def ofRaw (R : RulesZ) (p : PosZ) : Int := if resRaw R p ≠ 0 then overZ p (resRaw R p) else 0
theorem of_raw (R : RulesZ) (p : PosZ) : ofZ R 0 p = ofRaw R p := by unfold ofZ ofRaw; rw [res_raw]
theorem near_of : ofZ threeZ 1 nearZ = 999 := by
  unfold ofZ
  rw [if_neg (by rw [near_res]; decide), near_list]
  simp only [of_raw]
  decide +kernel
theorem near_tree : treeErr threeZ nearZ 1 = 0 := by
  unfold treeErr
  rw [near_ok, if_neg (by decide), if_neg (by decide), show (1 : Int).toNat = 1 from rfl, near_nodes]; rfl
theorem near_score : scoreZ threeZ nearZ 1 = 999 := by unfold scoreZ; rw [if_pos near_tree]; exact near_of
theorem near_treeZ : treeZ threeZ nearZ 1 = 6 := by unfold treeZ; rw [if_pos near_tree, show (1 : Int).toNat = 1 from rfl, near_nodes]; rfl
theorem near_same : sameZ nearZ nearZ = true := by decide +kernel
theorem made_ints' (n : Nat) : (madeCells (Value.cells (.int .i64 0)) (n * 1)).toList = ints (List.replicate n 0) := by
  apply List.ext_getElem
  · simp [madeCells, ints]
  · intro i h1 h2
    simp [madeCells, ints, Value.cells, Nat.mod_one]
/-- the cells that k rounds have turned. -/
def turnK (R : RulesZ) (cells : List Int) (k : Nat) : List Int := (List.range cells.length).map fun t : Nat => if (flipI R t).toNat < k then turnC (cells.getD (flipI R t).toNat 0) else 0
theorem turnK_len (R : RulesZ) (cells : List Int) (k : Nat) : (turnK R cells k).length = cells.length := by simp [turnK]
theorem turnK_elem (R : RulesZ) (l : List Int) (k j : Nat) (h : j < (turnK R l k).length) : (turnK R l k)[j] = if (flipI R j).toNat < k then turnC (l.getD (flipI R j).toNat 0) else 0 := by
  have : (turnK R l k)[j]? = some (if (flipI R j).toNat < k then turnC (l.getD (flipI R j).toNat 0) else 0) := by
    unfold turnK
    rw [List.getElem?_map, List.getElem?_range (by rw [turnK_len] at h; exact h)]; rfl
  exact (List.getElem?_eq_some_iff.1 this).2
theorem turnK_zero (R : RulesZ) (l : List Int) : turnK R l 0 = List.replicate l.length 0 := by
  apply List.ext_getElem
  · rw [turnK_len, List.length_replicate]
  · intro j h1 h2
    rw [turnK_elem, if_neg (by omega), List.getElem_replicate]
theorem turnK_all {R : RulesZ} (K : ROk R) {l : List Int} (hl : (l.length : Int) = R.width * R.height) : turnK R l l.length = turnedZ R l := by
  apply List.ext_getElem
  · rw [turnK_len, turned_len]
  · intro j h1 h2
    rw [turnK_len] at h1
    have f := flip_rg K (s := j) (by omega) (by omega)
    rw [turnK_elem, turned_elem, if_pos (by omega)]
theorem turnK_succ {R : RulesZ} (K : ROk R) {l : List Int} (hl : (l.length : Int) = R.width * R.height) {k : Nat} (hk : k < l.length) : turnK R l (k + 1) = (turnK R l k).set (flipI R k).toNat (turnC (l.getD k 0)) := by
  have fk := flip_rg K (s := k) (by omega) (by omega)
  have ffk := flip_flip K (s := k) (by omega) (by omega)
  apply List.ext_getElem
  · rw [List.length_set, turnK_len, turnK_len]
  · intro j h1 h2
    have hj : j < l.length := by rw [turnK_len] at h1; exact h1
    have fj := flip_rg K (s := j) (by omega) (by omega)
    have ffj := flip_flip K (s := j) (by omega) (by omega)
    rw [turnK_elem, List.getElem_set]
    by_cases q : (flipI R k).toNat = j
    · have e : flipI R j = k := by rw [← q, Int.toNat_of_nonneg fk.1, ffk]
      rw [if_pos q, e, if_pos (by omega), Int.toNat_natCast]
    · rw [if_neg q, turnK_elem]
      have ne : (flipI R j).toNat ≠ k := fun e => q (by
        have e2 : flipI R j = k := by omega
        rw [← e2, ffj]; omega)
      by_cases q2 : (flipI R j).toNat < k
      · rw [if_pos q2, if_pos (by omega)]
      · rw [if_neg q2, if_neg (by omega)]

theorem xor_turn : ∀ n : Fin 1001, bits .xor .i64 ((n.val : Nat) : Int) 1 = turnC (((n.val : Nat) : Int) + 1) - 1 := by decide +kernel
theorem xor_one {c : Int} (h : 0 < c) (h1 : c ≤ 1000) : bits .xor .i64 (c - 1) 1 = turnC c - 1 := by
  have := xor_turn ⟨(c - 1).toNat, by omega⟩
  simp only at this
  rw [Int.toNat_of_nonneg (by omega), show c - 1 + 1 = c by omega] at this
  exact this

theorem own_frozen {w : World} {base : Nat} {e : TypeId} {n g c : Nat} {xs : List Value} (h : w.ownsRow base e 1 (.slice (some ⟨g, 0, none⟩) n c) n xs) (j : Nat) : w.frozen? ⟨g, j, none⟩ = false := by
  rcases h.2 with ⟨h', _⟩ | ⟨g', cap', cur, h', hb, hg, _⟩
  · simp at h'
  · simp only [Value.slice.injEq, Option.some.injEq, Addr.mk.injEq, and_true, true_and] at h'
    obtain ⟨rfl, rfl⟩ := h'
    simp [World.frozen?, hg]

set_option maxRecDepth 100000 in
set_option maxHeartbeats 4000000 in
theorem Turned_any (R : RulesZ) (vp vs ve vc : Value) (cells : List Int) (w : World) (hc : RdI w vc cells) (K : ROk R) (hl : (cells.length : Int) = R.width * R.height) (h64 : cells.length ≤ 64) (hcb : ∀ i, 0 ≤ cells.getD i 0 ∧ cells.getD i 0 ≤ 1000) :
    Calls Try.prog 18 #[(.agg #[.string R.name, .int .i64 R.width, .int .i64 R.height, vp, vs, .bool R.falls, .bool R.keeps, ve, .int .i64 R.blocked, .int .i64 R.quiet, .int .i64 R.rept]), vc] w fun e w' => ∃ v, e = .returned v ∧ w'.ownsRow w.heap.size 3 1 v cells.length (ints (turnedZ R cells)) ∧ Below w.heap.size w w' := by
  obtain ⟨i0, hi, hz0', hz1, hz2⟩ := info_parts info3
  have HC := Lib.hid hc
  have HK := Lib.hid K
  have HCB := Lib.hid hcb
  obtain ⟨ac, cc, rfl, hc1, hc2⟩ := hc.form
  unfold maxLen at hc2
  obtain ⟨hw1, hw2⟩ := K.w
  obtain ⟨hh1, hh2⟩ := K.h
  have HL := Lib.hid hl
  clear hc K hcb hl
  go_enter Try.func18, Try.ntmps18
  go_upto_region 1 with (fail)
  have B0 : Box (w.alloc (.cells #[.string R.name, .int .i64 R.width, .int .i64 R.height, vp, vs, .bool R.falls, .bool R.keeps, ve, .int .i64 R.blocked, .int .i64 R.quiet, .int .i64 R.rept] 26)) (w.heap.size) [.string R.name, .int .i64 R.width, .int .i64 R.height, vp, vs, .bool R.falls, .bool R.keeps, ve, .int .i64 R.blocked, .int .i64 R.quiet, .int .i64 R.rept] 26 := (Box.new' w (w.heap.size) [.string R.name, .int .i64 R.width, .int .i64 R.height, vp, vs, .bool R.falls, .bool R.keeps, ve, .int .i64 R.blocked, .int .i64 R.quiet, .int .i64 R.rept] 26 (by simp <;> omega))
  have HB : Hid (Below w.heap.size w (w.alloc (.cells #[.string R.name, .int .i64 R.width, .int .i64 R.height, vp, vs, .bool R.falls, .bool R.keeps, ve, .int .i64 R.blocked, .int .i64 R.quiet, .int .i64 R.rept] 26))) := Lib.hid ((Below.refl w.heap.size w).alloc (Nat.le_refl _) _)
  have hz0 : w.heap.size < (w.alloc (.cells #[.string R.name, .int .i64 R.width, .int .i64 R.height, vp, vs, .bool R.falls, .bool R.keeps, ve, .int .i64 R.blocked, .int .i64 R.quiet, .int .i64 R.rept] 26)).heap.size := by simp
  generalize (w.alloc (.cells #[.string R.name, .int .i64 R.width, .int .i64 R.height, vp, vs, .bool R.falls, .bool R.keeps, ve, .int .i64 R.blocked, .int .i64 R.quiet, .int .i64 R.rept] 26)) = w0 at *
  have HX := Lib.hid B0
  clear B0
  go_wp2_with (at_make; refine wpList_make_full _ rfl _ _ 23 rfl w0.heap.size 3 i0 (.int .i64 0) 1 Try.underlying23 hi hz0' hz1 .i64 .i64 cells.length cells.length cells.length rfl rfl rfl rfl (by rw [hz2]; omega) (by unfold maxLen; omega) (Nat.le_refl _) ?_; intro w1 hown hgrow)
  rw [made_ints', ← turnK_zero R cells] at hown
  have HO := Lib.hid hown
  have hB1 : Below w0.heap.size w0 w1 := ⟨hgrow.os, hgrow.tape, hgrow.output, hgrow.size, fun k hk => hgrow.block k hk (by simp)⟩
  have HB1 := Lib.hid hB1
  obtain ⟨g, hg⟩ : ∃ g, g = w0.heap.size := ⟨_, rfl⟩
  rw [← hg] at HO ⊢
  have hgw : w.heap.size < g := by omega
  have HG := Lib.hid hg
  clear hg hown hgrow hB1 hi hz0' hz1 hz2
  go_loopw [13, 6, 7] (fun vi a6 a7 wr => ∃ k : Nat, k ≤ cells.length ∧ vi = .int .i64 k ∧ Hid (wr.ownsRow g 3 1 (.slice (some ⟨g, 0, none⟩) cells.length cells.length) cells.length (ints (turnK R cells k))) ∧ Hid (Below g w0 wr)) (fun i _ _ _ => cells.length - (intOf i).toNat)
  case atStart => exact ⟨0, Nat.zero_le _, rfl, HO, by rw [HG.out]; exact HB1⟩
  case round =>
    obtain ⟨k, hk, rfl, HO, HBr⟩ := hrel
    have HBw : Hid (Below w.heap.size w wr) := Lib.hid (HB.out.trans (HBr.out.mono (by omega)))
    have HXr := Lib.hid (HX.out.below HBr.out hgw)
    by_cases hlt : k < cells.length
    · obtain ⟨gc, oc, rfl, hcc⟩ := cells_rd (HC.out.below HBw.out (Nat.le_refl _)) (by omega)
      have ck := hcc k hlt
      have hck := HCB.out k
      have hlW := HL.out
      have fk := flip_rg HK.out (s := k) (by omega) (by omega)
      obtain ⟨p1, p2, p3, p4, -⟩ := sq_parts HK.out (s := k) (by omega) (by omega)
      have HST := Lib.hid (turnK_succ HK.out HL.out hlt)
      have HFD : Hid (flipI R k = (R.height - 1 - (k : Int) / R.width) * R.width + (k : Int) % R.width) := Lib.hid rfl
      have td : Int.tdiv (k : Int) R.width = (k : Int) / R.width := Int.tdiv_eq_ediv_of_nonneg (by omega)
      have tm : Int.tmod (k : Int) R.width = (k : Int) % R.width := Int.tmod_eq_emod_of_nonneg (by omega)
      have hwne : R.width ≠ 0 := by omega
      have q1 := HXr.out.cell 1 rfl
      have q2 := HXr.out.cell 2 rfl
      generalize (k : Int) / R.width = qd at *
      generalize (k : Int) % R.width = qm at *
      have hmul : 0 ≤ (R.height - 1 - qd) * R.width ∧ (R.height - 1 - qd) * R.width ≤ 64 := by
        have h0 := Int.mul_nonneg (show 0 ≤ R.height - 1 - qd by omega) (show 0 ≤ R.width by omega)
        have h1 := HFD.out
        omega
      obtain ⟨FK, hFK⟩ : ∃ FK : Nat, flipI R k = FK := ⟨(flipI R k).toNat, by omega⟩
      rw [hFK] at fk HFD HST
      rw [Int.toNat_natCast] at HST
      have hfl : FK < cells.length := by omega
      have hfe : (R.height - 1 - qd) * R.width + qm = (FK : Int) := HFD.out.symm
      obtain ⟨hmul0, hmul1⟩ := hmul
      have dcl : wr.cell? ⟨g, FK, none⟩ = some (.int .i64 ((turnK R cells k).getD FK 0)) := by
        have := HO.out.cellAt FK (by omega)
        rw [this]
        unfold ints
        rw [List.getElem?_map, List.getD_eq_getElem?_getD, List.getElem?_eq_getElem (by rw [turnK_len]; exact hfl)]; rfl
      have dfz : wr.frozen? ⟨g, FK, none⟩ = false := own_frozen HO.out FK
      have HHK := Lib.hid hFK
      have HWR : IntKind.i64.wrap (IntKind.i64.wrap (IntKind.i64.wrap (IntKind.i64.wrap (R.height - 1) - IntKind.i64.wrap qd) * R.width) + qm) = (FK : Int) := by
        rw [IntWalk.i64_in (R.height - 1) (by omega), IntWalk.i64_in qd (by omega), IntWalk.i64_in (R.height - 1 - qd) (by omega), IntWalk.i64_in ((R.height - 1 - qd) * R.width) (by omega), hfe, IntWalk.i64_in (FK : Int) (by omega)]
      clear hlW fk hfe hmul0 hmul1
      clear hcc HK hFK
      generalize (turnK R cells k).getD FK 0 = old at *
      generalize cells.getD k 0 = c at *
      obtain ⟨hc0, hc1000⟩ := hck
      by_cases hpos : 0 < c
      · have hx : bits .xor .i64 (c - 1) 1 = turnC c - 1 := xor_one hpos hc1000
        have hT : Hid (turnC c = (if c % 2 = 1 then c + 1 else c - 1)) := Lib.hid (by unfold turnC; rw [if_pos hpos])
        have hbd : 0 ≤ turnC c ∧ turnC c ≤ 2000 := by rw [hT.out]; split <;> omega
        have hwx : IntKind.i64.wrap (turnC c) = turnC c := IntWalk.i64_in _ (by omega)
        generalize turnC c = tc at *
        go_upto_region 7 with (fail)
        have X1 : wr.drew.cell? ⟨w.heap.size, 1, none⟩ = some (.int .i64 R.width) := q1
        have X2 : wr.drew.cell? ⟨w.heap.size, 2, none⟩ = some (.int .i64 R.height) := q2
        refine wp_region_noPanic ?_
        refine beginL (S := (fun w' => w'.cell? ⟨w.heap.size, 1, none⟩ = some (.int .i64 R.width) ∧ w'.cell? ⟨w.heap.size, 2, none⟩ = some (.int .i64 R.height))) (L := [19]) (by kernel_rfl) ⟨X1, X2⟩ (fun hHeld => ?_)
        refine takeW (i := 0) (oi := { dst := some 24, op := Op.move (Operand.tmp 5), type := 23, pos := "rules.go:142", after := #[], guard := none }) (v := ?va1) rfl (by kernel_rfl) (by kernel_rfl) (by kernel_rfl) rfl (fun _ _ _ h => h) (Or.inl ⟨by rfl, ?ya1⟩) (fun _ => by assumption) ?ra1
        case ya1 => (intro w _; go_simp; first | done | (with_reducible rfl) | (rw [if_neg (by omega)]))
        try simp only [Act.put, List.setIfInBounds_toArray, List.set_cons_zero, List.set_cons_succ]
        refine takeW (i := 1) (oi := { dst := some 25, op := Op.fieldAddr 26 (Operand.tmp 2) 2, type := 0, pos := "rules.go:142", after := #[], guard := none }) (v := ?va2) rfl (by kernel_rfl) (by kernel_rfl) (by kernel_rfl) rfl (fun _ _ _ h => h) (Or.inl ⟨by rfl, ?ya2⟩) (fun _ => by assumption) ?ra2
        case ya2 => (intro w _; go_simp; first | done | (with_reducible rfl) | (rw [if_neg (by omega)]))
        try simp only [Act.put, List.setIfInBounds_toArray, List.set_cons_zero, List.set_cons_succ]
        refine takeW (i := 4) (oi := { dst := some 28, op := Op.move (Operand.tmp 6), type := 3, pos := "rules.go:142", after := #[], guard := none }) (v := ?va3) rfl (by kernel_rfl) (by kernel_rfl) (by kernel_rfl) rfl (fun _ _ _ h => h) (Or.inl ⟨by rfl, ?ya3⟩) (fun _ => by assumption) ?ra3
        case ya3 => (intro w _; go_simp; first | done | (with_reducible rfl) | (rw [if_neg (by omega)]))
        try simp only [Act.put, List.setIfInBounds_toArray, List.set_cons_zero, List.set_cons_succ]
        refine takeW (i := 5) (oi := { dst := some 29, op := Op.fieldAddr 26 (Operand.tmp 2) 1, type := 0, pos := "rules.go:142", after := #[], guard := none }) (v := ?va4) rfl (by kernel_rfl) (by kernel_rfl) (by kernel_rfl) rfl (fun _ _ _ h => h) (Or.inl ⟨by rfl, ?ya4⟩) (fun _ => by assumption) ?ra4
        case ya4 => (intro w _; go_simp; first | done | (with_reducible rfl) | (rw [if_neg (by omega)]))
        try simp only [Act.put, List.setIfInBounds_toArray, List.set_cons_zero, List.set_cons_succ]
        refine takeW (i := 9) (oi := { dst := some 33, op := Op.fieldAddr 26 (Operand.tmp 2) 1, type := 0, pos := "rules.go:142", after := #[], guard := none }) (v := ?va5) rfl (by kernel_rfl) (by kernel_rfl) (by kernel_rfl) rfl (fun _ _ _ h => h) (Or.inl ⟨by rfl, ?ya5⟩) (fun _ => by assumption) ?ra5
        case ya5 => (intro w _; go_simp; first | done | (with_reducible rfl) | (rw [if_neg (by omega)]))
        try simp only [Act.put, List.setIfInBounds_toArray, List.set_cons_zero, List.set_cons_succ]
        refine takeW (i := 12) (oi := { dst := some 36, op := Op.move (Operand.tmp 6), type := 3, pos := "rules.go:142", after := #[], guard := none }) (v := ?va6) rfl (by kernel_rfl) (by kernel_rfl) (by kernel_rfl) rfl (fun _ _ _ h => h) (Or.inl ⟨by rfl, ?ya6⟩) (fun _ => by assumption) ?ra6
        case ya6 => (intro w _; go_simp; first | done | (with_reducible rfl) | (rw [if_neg (by omega)]))
        try simp only [Act.put, List.setIfInBounds_toArray, List.set_cons_zero, List.set_cons_succ]
        refine takeW (i := 13) (oi := { dst := some 37, op := Op.fieldAddr 26 (Operand.tmp 2) 1, type := 0, pos := "rules.go:142", after := #[], guard := none }) (v := ?va7) rfl (by kernel_rfl) (by kernel_rfl) (by kernel_rfl) rfl (fun _ _ _ h => h) (Or.inl ⟨by rfl, ?ya7⟩) (fun _ => by assumption) ?ra7
        case ya7 => (intro w _; go_simp; first | done | (with_reducible rfl) | (rw [if_neg (by omega)]))
        try simp only [Act.put, List.setIfInBounds_toArray, List.set_cons_zero, List.set_cons_succ]
        refine takeW (i := 17) (oi := { dst := some 41, op := Op.move (Operand.tmp 7), type := 3, pos := "rules.go:142", after := #[], guard := none }) (v := ?va8) rfl (by kernel_rfl) (by kernel_rfl) (by kernel_rfl) rfl (fun _ _ _ h => h) (Or.inl ⟨by rfl, ?ya8⟩) (fun _ => by assumption) ?ra8
        case ya8 => (intro w _; go_simp; first | done | (with_reducible rfl) | (rw [if_neg (by omega)]))
        try simp only [Act.put, List.setIfInBounds_toArray, List.set_cons_zero, List.set_cons_succ]
        refine takeL (i := 2) (oi := { dst := some 26, op := Op.load 3 (Operand.tmp 25), type := 3, pos := "rules.go:142", after := #[{ on := 1, ground := Ground.data }], guard := none }) (v := ?va9) rfl (by kernel_rfl) (by kernel_rfl) (by kernel_rfl) (by kernel_rfl) rfl (by kernel_rfl) (by kernel_rfl) (fun _ _ _ h => h) (Or.inl ⟨by rfl, ?ya9⟩) (by assumption) ?ra9
        case ya9 => (intro w hSw; (try dsimp only at hSw); go_simp; first | done | (with_reducible rfl))
        try simp only [Act.put, List.setIfInBounds_toArray, List.set_cons_zero, List.set_cons_succ]
        refine takeL (i := 6) (oi := { dst := some 30, op := Op.load 3 (Operand.tmp 29), type := 3, pos := "rules.go:142", after := #[{ on := 5, ground := Ground.data }], guard := none }) (v := ?va10) rfl (by kernel_rfl) (by kernel_rfl) (by kernel_rfl) (by kernel_rfl) rfl (by kernel_rfl) (by kernel_rfl) (fun _ _ _ h => h) (Or.inl ⟨by rfl, ?ya10⟩) (by assumption) ?ra10
        case ya10 => (intro w hSw; (try dsimp only at hSw); go_simp; first | done | (with_reducible rfl))
        try simp only [Act.put, List.setIfInBounds_toArray, List.set_cons_zero, List.set_cons_succ]
        refine takeL (i := 10) (oi := { dst := some 34, op := Op.load 3 (Operand.tmp 33), type := 3, pos := "rules.go:142", after := #[{ on := 9, ground := Ground.data }], guard := none }) (v := ?va11) rfl (by kernel_rfl) (by kernel_rfl) (by kernel_rfl) (by kernel_rfl) rfl (by kernel_rfl) (by kernel_rfl) (fun _ _ _ h => h) (Or.inl ⟨by rfl, ?ya11⟩) (by assumption) ?ra11
        case ya11 => (intro w hSw; (try dsimp only at hSw); go_simp; first | done | (with_reducible rfl))
        try simp only [Act.put, List.setIfInBounds_toArray, List.set_cons_zero, List.set_cons_succ]
        refine takeL (i := 14) (oi := { dst := some 38, op := Op.load 3 (Operand.tmp 37), type := 3, pos := "rules.go:142", after := #[{ on := 13, ground := Ground.data }], guard := none }) (v := ?va12) rfl (by kernel_rfl) (by kernel_rfl) (by kernel_rfl) (by kernel_rfl) rfl (by kernel_rfl) (by kernel_rfl) (fun _ _ _ h => h) (Or.inl ⟨by rfl, ?ya12⟩) (by assumption) ?ra12
        case ya12 => (intro w hSw; (try dsimp only at hSw); go_simp; first | done | (with_reducible rfl))
        try simp only [Act.put, List.setIfInBounds_toArray, List.set_cons_zero, List.set_cons_succ]
        refine takeW (i := 3) (oi := { dst := some 27, op := Op.binOp BinOp.sub 3 (Operand.tmp 26) (Operand.const (Value.int IntKind.i64 1)) 3, type := 3, pos := "rules.go:142", after := #[{ on := 2, ground := Ground.data }], guard := none }) (v := ?va13) rfl (by kernel_rfl) (by kernel_rfl) (by kernel_rfl) rfl (fun _ _ _ h => h) (Or.inl ⟨by rfl, ?ya13⟩) (fun _ => by assumption) ?ra13
        case ya13 => (intro w _; go_simp; first | done | (with_reducible rfl) | (rw [if_neg (by omega)]))
        try simp only [Act.put, List.setIfInBounds_toArray, List.set_cons_zero, List.set_cons_succ]
        refine takeW (i := 7) (oi := { dst := some 31, op := Op.binOp BinOp.quo 3 (Operand.tmp 28) (Operand.tmp 30) 3, type := 3, pos := "rules.go:142", after := #[{ on := 4, ground := Ground.data }, { on := 6, ground := Ground.data }], guard := none }) (v := ?va14) rfl (by kernel_rfl) (by kernel_rfl) (by kernel_rfl) rfl (fun _ _ _ h => h) (Or.inl ⟨by rfl, ?ya14⟩) (fun _ => by assumption) ?ra14
        case ya14 => (intro w _; go_simp; first | done | (with_reducible rfl) | (rw [if_neg (by omega)]))
        try simp only [Act.put, List.setIfInBounds_toArray, List.set_cons_zero, List.set_cons_succ]
        refine takeW (i := 15) (oi := { dst := some 39, op := Op.binOp BinOp.rem 3 (Operand.tmp 36) (Operand.tmp 38) 3, type := 3, pos := "rules.go:142", after := #[{ on := 12, ground := Ground.data }, { on := 14, ground := Ground.data }], guard := none }) (v := ?va15) rfl (by kernel_rfl) (by kernel_rfl) (by kernel_rfl) rfl (fun _ _ _ h => h) (Or.inl ⟨by rfl, ?ya15⟩) (fun _ => by assumption) ?ra15
        case ya15 => (intro w _; go_simp; first | done | (with_reducible rfl) | (rw [if_neg (by omega)]))
        try simp only [Act.put, List.setIfInBounds_toArray, List.set_cons_zero, List.set_cons_succ]
        refine takeW (i := 8) (oi := { dst := some 32, op := Op.binOp BinOp.sub 3 (Operand.tmp 27) (Operand.tmp 31) 3, type := 3, pos := "rules.go:142", after := #[{ on := 3, ground := Ground.data }, { on := 7, ground := Ground.data }], guard := none }) (v := ?va16) rfl (by kernel_rfl) (by kernel_rfl) (by kernel_rfl) rfl (fun _ _ _ h => h) (Or.inl ⟨by rfl, ?ya16⟩) (fun _ => by assumption) ?ra16
        case ya16 => (intro w _; go_simp; first | done | (with_reducible rfl) | (rw [if_neg (by omega)]))
        try simp only [Act.put, List.setIfInBounds_toArray, List.set_cons_zero, List.set_cons_succ]
        refine takeW (i := 11) (oi := { dst := some 35, op := Op.binOp BinOp.mul 3 (Operand.tmp 32) (Operand.tmp 34) 3, type := 3, pos := "rules.go:142", after := #[{ on := 8, ground := Ground.data }, { on := 10, ground := Ground.data }], guard := none }) (v := ?va17) rfl (by kernel_rfl) (by kernel_rfl) (by kernel_rfl) rfl (fun _ _ _ h => h) (Or.inl ⟨by rfl, ?ya17⟩) (fun _ => by assumption) ?ra17
        case ya17 => (intro w _; go_simp; first | done | (with_reducible rfl) | (rw [if_neg (by omega)]))
        try simp only [Act.put, List.setIfInBounds_toArray, List.set_cons_zero, List.set_cons_succ]
        refine takeW (i := 16) (oi := { dst := some 40, op := Op.binOp BinOp.add 3 (Operand.tmp 35) (Operand.tmp 39) 3, type := 3, pos := "rules.go:142", after := #[{ on := 11, ground := Ground.data }, { on := 15, ground := Ground.data }], guard := none }) (v := ?va18) rfl (by kernel_rfl) (by kernel_rfl) (by kernel_rfl) rfl (fun _ _ _ h => h) (Or.inl ⟨by rfl, ?ya18⟩) (fun _ => by assumption) ?ra18
        case ya18 => (intro w _; go_simp; first | done | (with_reducible rfl) | (rw [if_neg (by omega)]))
        try simp only [Act.put, List.setIfInBounds_toArray, List.set_cons_zero, List.set_cons_succ]
        try rw [HWR]
        refine takeW (i := 18) (oi := { dst := some 42, op := Op.indexAddr 23 (Operand.tmp 24) (Operand.tmp 40), type := 0, pos := "rules.go:142", after := #[{ on := 0, ground := Ground.data }, { on := 16, ground := Ground.data }, { on := 0, ground := Ground.phase }, { on := 1, ground := Ground.phase }, { on := 2, ground := Ground.phase }, { on := 3, ground := Ground.phase }, { on := 4, ground := Ground.phase }, { on := 5, ground := Ground.phase }, { on := 6, ground := Ground.phase }, { on := 7, ground := Ground.phase }, { on := 8, ground := Ground.phase }, { on := 9, ground := Ground.phase }, { on := 10, ground := Ground.phase }, { on := 11, ground := Ground.phase }, { on := 12, ground := Ground.phase }, { on := 13, ground := Ground.phase }, { on := 14, ground := Ground.phase }, { on := 15, ground := Ground.phase }, { on := 16, ground := Ground.phase }, { on := 17, ground := Ground.phase }], guard := none }) (v := ?va19) rfl (by kernel_rfl) (by kernel_rfl) (by kernel_rfl) rfl (fun _ _ _ h => h) (Or.inl ⟨by rfl, ?ya19⟩) (fun _ => by assumption) ?ra19
        case ya19 => (intro w _; go_simp; first | done | (with_reducible rfl) | (rw [if_neg (by omega)]))
        try simp only [Act.put, List.setIfInBounds_toArray, List.set_cons_zero, List.set_cons_succ]
        refine readyL (rs := [19]) (by kernel_rfl) (by simp) ?_
        refine (AllReadyL.late (o := { dst := none, op := Op.store 3 (Operand.tmp 42) (Operand.tmp 41), type := 0, pos := "rules.go:142", after := #[{ on := 18, ground := Ground.data }, { on := 17, ground := Ground.data }, { on := 0, ground := Ground.phase }, { on := 1, ground := Ground.phase }, { on := 2, ground := Ground.phase }, { on := 3, ground := Ground.phase }, { on := 4, ground := Ground.phase }, { on := 5, ground := Ground.phase }, { on := 6, ground := Ground.phase }, { on := 7, ground := Ground.phase }, { on := 8, ground := Ground.phase }, { on := 9, ground := Ground.phase }, { on := 10, ground := Ground.phase }, { on := 11, ground := Ground.phase }, { on := 12, ground := Ground.phase }, { on := 13, ground := Ground.phase }, { on := 14, ground := Ground.phase }, { on := 15, ground := Ground.phase }, { on := 16, ground := Ground.phase }, { on := 17, ground := Ground.phase }], guard := none }) rfl (by kernel_rfl) (fun K hK => ?_) AllReadyL.nil)
        have dclz : wr.drew.cell? ⟨g, FK, none⟩ = some (.int .i64 old) := dcl
        have dfzz : wr.drew.frozen? ⟨g, FK, none⟩ = false := dfz
        go_simp
        refine K_world ?_
        intro w9 e9
        have E9 : w9 = wr.drew.setCell ⟨g, FK, none⟩ (.int .i64 tc) := e9
        clear e9 dclz dfzz
        refine hK.out _ _ ?_
        clear hK K
        try simp only [Act.put, List.setIfInBounds_toArray, List.set_cons_zero, List.set_cons_succ]
        refine doneL (by kernel_rfl) ?_ _
        refine NoPanic.normal ?_
        have HO9 : Hid (w9.ownsRow g 3 1 (.slice (some ⟨g, 0, none⟩) cells.length cells.length) cells.length (ints (turnK R cells (k + 1)))) := Lib.hid (by
          rw [E9, HST.out, show ints ((turnK R cells k).set FK tc) = (ints (turnK R cells k)).set FK (.int .i64 tc) by unfold ints; rw [List.map_set]]
          exact ((HO.out : wr.drew.ownsRow g 3 1 (.slice (some ⟨g, 0, none⟩) cells.length cells.length) cells.length (ints (turnK R cells k))).stored FK (.int .i64 tc)).1)
        have HB9 : Hid (Below g w0 w9) := Lib.hid (by rw [E9]; exact (below_drew' HBr.out).setCell (Nat.le_refl _) _)
        clear hHeld E9 HO HBr dcl dfz
        go_wp2_with fail
        go_roundw
        case rel => exact ⟨k + 1, by omega, by go_num, HO9, HB9⟩
        case measure => simp [intOf]; omega
      · have hT : Hid (turnC c = c) := Lib.hid (by unfold turnC; rw [if_neg hpos])
        rw [hT.out] at HST
        go_upto_region 7 with (fail)
        have X1 : wr.drew.cell? ⟨w.heap.size, 1, none⟩ = some (.int .i64 R.width) := q1
        have X2 : wr.drew.cell? ⟨w.heap.size, 2, none⟩ = some (.int .i64 R.height) := q2
        refine wp_region_noPanic ?_
        refine beginL (S := (fun w' => w'.cell? ⟨w.heap.size, 1, none⟩ = some (.int .i64 R.width) ∧ w'.cell? ⟨w.heap.size, 2, none⟩ = some (.int .i64 R.height))) (L := [19]) (by kernel_rfl) ⟨X1, X2⟩ (fun hHeld => ?_)
        refine takeW (i := 0) (oi := { dst := some 24, op := Op.move (Operand.tmp 5), type := 23, pos := "rules.go:142", after := #[], guard := none }) (v := ?va20) rfl (by kernel_rfl) (by kernel_rfl) (by kernel_rfl) rfl (fun _ _ _ h => h) (Or.inl ⟨by rfl, ?ya20⟩) (fun _ => by assumption) ?ra20
        case ya20 => (intro w _; go_simp; first | done | (with_reducible rfl) | (rw [if_neg (by omega)]))
        try simp only [Act.put, List.setIfInBounds_toArray, List.set_cons_zero, List.set_cons_succ]
        refine takeW (i := 1) (oi := { dst := some 25, op := Op.fieldAddr 26 (Operand.tmp 2) 2, type := 0, pos := "rules.go:142", after := #[], guard := none }) (v := ?va21) rfl (by kernel_rfl) (by kernel_rfl) (by kernel_rfl) rfl (fun _ _ _ h => h) (Or.inl ⟨by rfl, ?ya21⟩) (fun _ => by assumption) ?ra21
        case ya21 => (intro w _; go_simp; first | done | (with_reducible rfl) | (rw [if_neg (by omega)]))
        try simp only [Act.put, List.setIfInBounds_toArray, List.set_cons_zero, List.set_cons_succ]
        refine takeW (i := 4) (oi := { dst := some 28, op := Op.move (Operand.tmp 6), type := 3, pos := "rules.go:142", after := #[], guard := none }) (v := ?va22) rfl (by kernel_rfl) (by kernel_rfl) (by kernel_rfl) rfl (fun _ _ _ h => h) (Or.inl ⟨by rfl, ?ya22⟩) (fun _ => by assumption) ?ra22
        case ya22 => (intro w _; go_simp; first | done | (with_reducible rfl) | (rw [if_neg (by omega)]))
        try simp only [Act.put, List.setIfInBounds_toArray, List.set_cons_zero, List.set_cons_succ]
        refine takeW (i := 5) (oi := { dst := some 29, op := Op.fieldAddr 26 (Operand.tmp 2) 1, type := 0, pos := "rules.go:142", after := #[], guard := none }) (v := ?va23) rfl (by kernel_rfl) (by kernel_rfl) (by kernel_rfl) rfl (fun _ _ _ h => h) (Or.inl ⟨by rfl, ?ya23⟩) (fun _ => by assumption) ?ra23
        case ya23 => (intro w _; go_simp; first | done | (with_reducible rfl) | (rw [if_neg (by omega)]))
        try simp only [Act.put, List.setIfInBounds_toArray, List.set_cons_zero, List.set_cons_succ]
        refine takeW (i := 9) (oi := { dst := some 33, op := Op.fieldAddr 26 (Operand.tmp 2) 1, type := 0, pos := "rules.go:142", after := #[], guard := none }) (v := ?va24) rfl (by kernel_rfl) (by kernel_rfl) (by kernel_rfl) rfl (fun _ _ _ h => h) (Or.inl ⟨by rfl, ?ya24⟩) (fun _ => by assumption) ?ra24
        case ya24 => (intro w _; go_simp; first | done | (with_reducible rfl) | (rw [if_neg (by omega)]))
        try simp only [Act.put, List.setIfInBounds_toArray, List.set_cons_zero, List.set_cons_succ]
        refine takeW (i := 12) (oi := { dst := some 36, op := Op.move (Operand.tmp 6), type := 3, pos := "rules.go:142", after := #[], guard := none }) (v := ?va25) rfl (by kernel_rfl) (by kernel_rfl) (by kernel_rfl) rfl (fun _ _ _ h => h) (Or.inl ⟨by rfl, ?ya25⟩) (fun _ => by assumption) ?ra25
        case ya25 => (intro w _; go_simp; first | done | (with_reducible rfl) | (rw [if_neg (by omega)]))
        try simp only [Act.put, List.setIfInBounds_toArray, List.set_cons_zero, List.set_cons_succ]
        refine takeW (i := 13) (oi := { dst := some 37, op := Op.fieldAddr 26 (Operand.tmp 2) 1, type := 0, pos := "rules.go:142", after := #[], guard := none }) (v := ?va26) rfl (by kernel_rfl) (by kernel_rfl) (by kernel_rfl) rfl (fun _ _ _ h => h) (Or.inl ⟨by rfl, ?ya26⟩) (fun _ => by assumption) ?ra26
        case ya26 => (intro w _; go_simp; first | done | (with_reducible rfl) | (rw [if_neg (by omega)]))
        try simp only [Act.put, List.setIfInBounds_toArray, List.set_cons_zero, List.set_cons_succ]
        refine takeW (i := 17) (oi := { dst := some 41, op := Op.move (Operand.tmp 7), type := 3, pos := "rules.go:142", after := #[], guard := none }) (v := ?va27) rfl (by kernel_rfl) (by kernel_rfl) (by kernel_rfl) rfl (fun _ _ _ h => h) (Or.inl ⟨by rfl, ?ya27⟩) (fun _ => by assumption) ?ra27
        case ya27 => (intro w _; go_simp; first | done | (with_reducible rfl) | (rw [if_neg (by omega)]))
        try simp only [Act.put, List.setIfInBounds_toArray, List.set_cons_zero, List.set_cons_succ]
        refine takeL (i := 2) (oi := { dst := some 26, op := Op.load 3 (Operand.tmp 25), type := 3, pos := "rules.go:142", after := #[{ on := 1, ground := Ground.data }], guard := none }) (v := ?va28) rfl (by kernel_rfl) (by kernel_rfl) (by kernel_rfl) (by kernel_rfl) rfl (by kernel_rfl) (by kernel_rfl) (fun _ _ _ h => h) (Or.inl ⟨by rfl, ?ya28⟩) (by assumption) ?ra28
        case ya28 => (intro w hSw; (try dsimp only at hSw); go_simp; first | done | (with_reducible rfl))
        try simp only [Act.put, List.setIfInBounds_toArray, List.set_cons_zero, List.set_cons_succ]
        refine takeL (i := 6) (oi := { dst := some 30, op := Op.load 3 (Operand.tmp 29), type := 3, pos := "rules.go:142", after := #[{ on := 5, ground := Ground.data }], guard := none }) (v := ?va29) rfl (by kernel_rfl) (by kernel_rfl) (by kernel_rfl) (by kernel_rfl) rfl (by kernel_rfl) (by kernel_rfl) (fun _ _ _ h => h) (Or.inl ⟨by rfl, ?ya29⟩) (by assumption) ?ra29
        case ya29 => (intro w hSw; (try dsimp only at hSw); go_simp; first | done | (with_reducible rfl))
        try simp only [Act.put, List.setIfInBounds_toArray, List.set_cons_zero, List.set_cons_succ]
        refine takeL (i := 10) (oi := { dst := some 34, op := Op.load 3 (Operand.tmp 33), type := 3, pos := "rules.go:142", after := #[{ on := 9, ground := Ground.data }], guard := none }) (v := ?va30) rfl (by kernel_rfl) (by kernel_rfl) (by kernel_rfl) (by kernel_rfl) rfl (by kernel_rfl) (by kernel_rfl) (fun _ _ _ h => h) (Or.inl ⟨by rfl, ?ya30⟩) (by assumption) ?ra30
        case ya30 => (intro w hSw; (try dsimp only at hSw); go_simp; first | done | (with_reducible rfl))
        try simp only [Act.put, List.setIfInBounds_toArray, List.set_cons_zero, List.set_cons_succ]
        refine takeL (i := 14) (oi := { dst := some 38, op := Op.load 3 (Operand.tmp 37), type := 3, pos := "rules.go:142", after := #[{ on := 13, ground := Ground.data }], guard := none }) (v := ?va31) rfl (by kernel_rfl) (by kernel_rfl) (by kernel_rfl) (by kernel_rfl) rfl (by kernel_rfl) (by kernel_rfl) (fun _ _ _ h => h) (Or.inl ⟨by rfl, ?ya31⟩) (by assumption) ?ra31
        case ya31 => (intro w hSw; (try dsimp only at hSw); go_simp; first | done | (with_reducible rfl))
        try simp only [Act.put, List.setIfInBounds_toArray, List.set_cons_zero, List.set_cons_succ]
        refine takeW (i := 3) (oi := { dst := some 27, op := Op.binOp BinOp.sub 3 (Operand.tmp 26) (Operand.const (Value.int IntKind.i64 1)) 3, type := 3, pos := "rules.go:142", after := #[{ on := 2, ground := Ground.data }], guard := none }) (v := ?va32) rfl (by kernel_rfl) (by kernel_rfl) (by kernel_rfl) rfl (fun _ _ _ h => h) (Or.inl ⟨by rfl, ?ya32⟩) (fun _ => by assumption) ?ra32
        case ya32 => (intro w _; go_simp; first | done | (with_reducible rfl) | (rw [if_neg (by omega)]))
        try simp only [Act.put, List.setIfInBounds_toArray, List.set_cons_zero, List.set_cons_succ]
        refine takeW (i := 7) (oi := { dst := some 31, op := Op.binOp BinOp.quo 3 (Operand.tmp 28) (Operand.tmp 30) 3, type := 3, pos := "rules.go:142", after := #[{ on := 4, ground := Ground.data }, { on := 6, ground := Ground.data }], guard := none }) (v := ?va33) rfl (by kernel_rfl) (by kernel_rfl) (by kernel_rfl) rfl (fun _ _ _ h => h) (Or.inl ⟨by rfl, ?ya33⟩) (fun _ => by assumption) ?ra33
        case ya33 => (intro w _; go_simp; first | done | (with_reducible rfl) | (rw [if_neg (by omega)]))
        try simp only [Act.put, List.setIfInBounds_toArray, List.set_cons_zero, List.set_cons_succ]
        refine takeW (i := 15) (oi := { dst := some 39, op := Op.binOp BinOp.rem 3 (Operand.tmp 36) (Operand.tmp 38) 3, type := 3, pos := "rules.go:142", after := #[{ on := 12, ground := Ground.data }, { on := 14, ground := Ground.data }], guard := none }) (v := ?va34) rfl (by kernel_rfl) (by kernel_rfl) (by kernel_rfl) rfl (fun _ _ _ h => h) (Or.inl ⟨by rfl, ?ya34⟩) (fun _ => by assumption) ?ra34
        case ya34 => (intro w _; go_simp; first | done | (with_reducible rfl) | (rw [if_neg (by omega)]))
        try simp only [Act.put, List.setIfInBounds_toArray, List.set_cons_zero, List.set_cons_succ]
        refine takeW (i := 8) (oi := { dst := some 32, op := Op.binOp BinOp.sub 3 (Operand.tmp 27) (Operand.tmp 31) 3, type := 3, pos := "rules.go:142", after := #[{ on := 3, ground := Ground.data }, { on := 7, ground := Ground.data }], guard := none }) (v := ?va35) rfl (by kernel_rfl) (by kernel_rfl) (by kernel_rfl) rfl (fun _ _ _ h => h) (Or.inl ⟨by rfl, ?ya35⟩) (fun _ => by assumption) ?ra35
        case ya35 => (intro w _; go_simp; first | done | (with_reducible rfl) | (rw [if_neg (by omega)]))
        try simp only [Act.put, List.setIfInBounds_toArray, List.set_cons_zero, List.set_cons_succ]
        refine takeW (i := 11) (oi := { dst := some 35, op := Op.binOp BinOp.mul 3 (Operand.tmp 32) (Operand.tmp 34) 3, type := 3, pos := "rules.go:142", after := #[{ on := 8, ground := Ground.data }, { on := 10, ground := Ground.data }], guard := none }) (v := ?va36) rfl (by kernel_rfl) (by kernel_rfl) (by kernel_rfl) rfl (fun _ _ _ h => h) (Or.inl ⟨by rfl, ?ya36⟩) (fun _ => by assumption) ?ra36
        case ya36 => (intro w _; go_simp; first | done | (with_reducible rfl) | (rw [if_neg (by omega)]))
        try simp only [Act.put, List.setIfInBounds_toArray, List.set_cons_zero, List.set_cons_succ]
        refine takeW (i := 16) (oi := { dst := some 40, op := Op.binOp BinOp.add 3 (Operand.tmp 35) (Operand.tmp 39) 3, type := 3, pos := "rules.go:142", after := #[{ on := 11, ground := Ground.data }, { on := 15, ground := Ground.data }], guard := none }) (v := ?va37) rfl (by kernel_rfl) (by kernel_rfl) (by kernel_rfl) rfl (fun _ _ _ h => h) (Or.inl ⟨by rfl, ?ya37⟩) (fun _ => by assumption) ?ra37
        case ya37 => (intro w _; go_simp; first | done | (with_reducible rfl) | (rw [if_neg (by omega)]))
        try simp only [Act.put, List.setIfInBounds_toArray, List.set_cons_zero, List.set_cons_succ]
        try rw [HWR]
        refine takeW (i := 18) (oi := { dst := some 42, op := Op.indexAddr 23 (Operand.tmp 24) (Operand.tmp 40), type := 0, pos := "rules.go:142", after := #[{ on := 0, ground := Ground.data }, { on := 16, ground := Ground.data }, { on := 0, ground := Ground.phase }, { on := 1, ground := Ground.phase }, { on := 2, ground := Ground.phase }, { on := 3, ground := Ground.phase }, { on := 4, ground := Ground.phase }, { on := 5, ground := Ground.phase }, { on := 6, ground := Ground.phase }, { on := 7, ground := Ground.phase }, { on := 8, ground := Ground.phase }, { on := 9, ground := Ground.phase }, { on := 10, ground := Ground.phase }, { on := 11, ground := Ground.phase }, { on := 12, ground := Ground.phase }, { on := 13, ground := Ground.phase }, { on := 14, ground := Ground.phase }, { on := 15, ground := Ground.phase }, { on := 16, ground := Ground.phase }, { on := 17, ground := Ground.phase }], guard := none }) (v := ?va38) rfl (by kernel_rfl) (by kernel_rfl) (by kernel_rfl) rfl (fun _ _ _ h => h) (Or.inl ⟨by rfl, ?ya38⟩) (fun _ => by assumption) ?ra38
        case ya38 => (intro w _; go_simp; first | done | (with_reducible rfl) | (rw [if_neg (by omega)]))
        try simp only [Act.put, List.setIfInBounds_toArray, List.set_cons_zero, List.set_cons_succ]
        refine readyL (rs := [19]) (by kernel_rfl) (by simp) ?_
        refine (AllReadyL.late (o := { dst := none, op := Op.store 3 (Operand.tmp 42) (Operand.tmp 41), type := 0, pos := "rules.go:142", after := #[{ on := 18, ground := Ground.data }, { on := 17, ground := Ground.data }, { on := 0, ground := Ground.phase }, { on := 1, ground := Ground.phase }, { on := 2, ground := Ground.phase }, { on := 3, ground := Ground.phase }, { on := 4, ground := Ground.phase }, { on := 5, ground := Ground.phase }, { on := 6, ground := Ground.phase }, { on := 7, ground := Ground.phase }, { on := 8, ground := Ground.phase }, { on := 9, ground := Ground.phase }, { on := 10, ground := Ground.phase }, { on := 11, ground := Ground.phase }, { on := 12, ground := Ground.phase }, { on := 13, ground := Ground.phase }, { on := 14, ground := Ground.phase }, { on := 15, ground := Ground.phase }, { on := 16, ground := Ground.phase }, { on := 17, ground := Ground.phase }], guard := none }) rfl (by kernel_rfl) (fun K hK => ?_) AllReadyL.nil)
        have dclz : wr.drew.cell? ⟨g, FK, none⟩ = some (.int .i64 old) := dcl
        have dfzz : wr.drew.frozen? ⟨g, FK, none⟩ = false := dfz
        go_simp
        refine K_world ?_
        intro w9 e9
        have E9 : w9 = wr.drew.setCell ⟨g, FK, none⟩ (.int .i64 c) := e9
        clear e9 dclz dfzz
        refine hK.out _ _ ?_
        clear hK K
        try simp only [Act.put, List.setIfInBounds_toArray, List.set_cons_zero, List.set_cons_succ]
        refine doneL (by kernel_rfl) ?_ _
        refine NoPanic.normal ?_
        have HO9 : Hid (w9.ownsRow g 3 1 (.slice (some ⟨g, 0, none⟩) cells.length cells.length) cells.length (ints (turnK R cells (k + 1)))) := Lib.hid (by
          rw [E9, HST.out, show ints ((turnK R cells k).set FK c) = (ints (turnK R cells k)).set FK (.int .i64 c) by unfold ints; rw [List.map_set]]
          exact ((HO.out : wr.drew.ownsRow g 3 1 (.slice (some ⟨g, 0, none⟩) cells.length cells.length) cells.length (ints (turnK R cells k))).stored FK (.int .i64 c)).1)
        have HB9 : Hid (Below g w0 w9) := Lib.hid (by rw [E9]; exact (below_drew' HBr.out).setCell (Nat.le_refl _) _)
        clear hHeld E9 HO HBr dcl dfz
        go_wp2_with fail
        go_roundw
        case rel => exact ⟨k + 1, by omega, by go_num, HO9, HB9⟩
        case measure => simp [intOf]; omega
    · obtain rfl : k = cells.length := by omega
      have HOf := Lib.hid (own_base HO.out (show w.heap.size ≤ g by omega))
      rw [turnK_all HK.out HL.out] at HOf
      go_wp2_with fail
      go_ret
      exact ⟨_, rfl, HOf.out, HBw.out⟩

end Go.Proofs.Ytaacfoeleblfbaa

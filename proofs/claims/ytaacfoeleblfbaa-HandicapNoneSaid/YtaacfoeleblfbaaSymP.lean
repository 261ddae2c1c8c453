/- The players exchanged: the plain law (without Falls). -/
import Derived.Test.YtaacfoeleblfbaaSrB
import Derived.Test.YtaacfoeleblfbaaLsP
namespace Go.Proofs.Ytaacfoeleblfbaa
set_option linter.unusedVariables false

def turnC (c : Int) : Int := if 0 < c then (if c % 2 = 1 then c + 1 else c - 1) else c
def flipI (R : RulesZ) (s : Int) : Int := (R.height - 1 - s / R.width) * R.width + s % R.width
def turnedZ (R : RulesZ) (cells : List Int) : List Int := (List.range cells.length).map fun s : Nat => turnC (cells.getD (flipI R s).toNat 0)
def exZ (R : RulesZ) (p : PosZ) : PosZ := ⟨turnedZ R p.cells, p.h1, p.h0, 1 - p.turn, p.quiet⟩
def flM (R : RulesZ) (m : MoveZ) : MoveZ := ⟨if m.src < 0 then m.src else flipI R m.src, flipI R m.dst, m.piece⟩

/-! ### squares -/
theorem sq_div {W x y : Int} (hW : 1 ≤ W) (hx : 0 ≤ x) (hx2 : x < W) : (y * W + x) / W = y ∧ (y * W + x) % W = x := by
  constructor
  · rw [Int.add_comm, Int.add_mul_ediv_right _ _ (by omega), Int.ediv_eq_zero_of_lt hx hx2]; omega
  · rw [Int.add_comm, Int.add_mul_emod_self_right]; exact Int.emod_eq_of_lt hx hx2
theorem sq_rg2 {R : RulesZ} (K : ROk R) {x y : Int} (hx : 0 ≤ x) (hx2 : x < R.width) (hy : 0 ≤ y) (hy2 : y < R.height) : 0 ≤ y * R.width + x ∧ y * R.width + x < R.width * R.height := by
  have h1 : 0 ≤ y * R.width := Int.mul_nonneg hy (by omega)
  have h2 : (y + 1) * R.width ≤ R.height * R.width := Int.mul_le_mul_of_nonneg_right (by omega) (by omega)
  rw [Int.add_mul, Int.mul_comm R.height] at h2
  omega
theorem sq_parts {R : RulesZ} (K : ROk R) {s : Int} (h0 : 0 ≤ s) (h1 : s < R.width * R.height) : 0 ≤ s % R.width ∧ s % R.width < R.width ∧ 0 ≤ s / R.width ∧ s / R.width < R.height ∧ s = s / R.width * R.width + s % R.width := by
  have hw := K.w
  refine ⟨Int.emod_nonneg _ (by omega), Int.emod_lt_of_pos _ (by omega), Int.ediv_nonneg h0 (by omega), Int.ediv_lt_of_lt_mul (by omega) (by rw [Int.mul_comm]; exact h1), ?_⟩
  have := Int.mul_ediv_add_emod s R.width
  rw [Int.mul_comm] at this
  omega
theorem flip_sq {R : RulesZ} (K : ROk R) {x y : Int} (hx : 0 ≤ x) (hx2 : x < R.width) : flipI R (y * R.width + x) = (R.height - 1 - y) * R.width + x := by
  obtain ⟨e1, e2⟩ := sq_div (y := y) K.w.1 hx hx2
  unfold flipI
  rw [e1, e2]
theorem flip_rg {R : RulesZ} (K : ROk R) {s : Int} (h0 : 0 ≤ s) (h1 : s < R.width * R.height) : 0 ≤ flipI R s ∧ flipI R s < R.width * R.height := by
  obtain ⟨a, b, c, d, e⟩ := sq_parts K h0 h1
  unfold flipI
  exact sq_rg2 K a b (by omega) (by omega)
theorem flip_parts {R : RulesZ} (K : ROk R) {s : Int} (h0 : 0 ≤ s) (h1 : s < R.width * R.height) : flipI R s / R.width = R.height - 1 - s / R.width ∧ flipI R s % R.width = s % R.width := by
  obtain ⟨a, b, c, d, e⟩ := sq_parts K h0 h1
  unfold flipI
  exact sq_div K.w.1 a b
theorem flip_flip {R : RulesZ} (K : ROk R) {s : Int} (h0 : 0 ≤ s) (h1 : s < R.width * R.height) : flipI R (flipI R s) = s := by
  obtain ⟨e1, e2⟩ := flip_parts K h0 h1
  obtain ⟨a, b, c, d, e⟩ := sq_parts K h0 h1
  rw [show flipI R (flipI R s) = (R.height - 1 - flipI R s / R.width) * R.width + flipI R s % R.width from rfl, e1, e2]
  rw [show R.height - 1 - (R.height - 1 - s / R.width) = s / R.width by omega]
  exact e.symm
theorem turn_turn {c : Int} (h : 0 ≤ c) : turnC (turnC c) = c := by
  unfold turnC
  by_cases h0 : 0 < c
  · by_cases h1 : c % 2 = 1
    · rw [if_pos h0, if_pos h1, if_pos (by omega), if_neg (by omega)]; omega
    · rw [if_pos h0, if_neg h1, if_pos (by omega), if_pos (by omega)]; omega
  · rw [if_neg h0, if_neg h0]
theorem turn_sign {c : Int} (h : 0 ≤ c) : (0 < turnC c ↔ 0 < c) ∧ (turnC c = 0 ↔ c = 0) ∧ 0 ≤ turnC c := by
  unfold turnC
  by_cases h0 : 0 < c
  · by_cases h1 : c % 2 = 1
    · rw [if_pos h0, if_pos h1]; omega
    · rw [if_pos h0, if_neg h1]; omega
  · rw [if_neg h0]; omega
theorem turn_kind {c : Int} (h : 0 < c) : (turnC c - 1) % 2 = 1 - (c - 1) % 2 ∧ (turnC c - 1) / 2 = (c - 1) / 2 := by
  unfold turnC
  by_cases h1 : c % 2 = 1
  · rw [if_pos h, if_pos h1]; omega
  · rw [if_pos h, if_neg h1]; omega
theorem turned_len (R : RulesZ) (cells : List Int) : (turnedZ R cells).length = cells.length := by simp [turnedZ]
theorem turned_get {R : RulesZ} {p : PosZ} (K : POk R p) {s : Int} (h0 : 0 ≤ s) (h1 : s < R.width * R.height) : (turnedZ R p.cells).getD s.toNat 0 = turnC (p.cells.getD (flipI R s).toNat 0) := by
  have hcl := K.cl
  unfold turnedZ
  rw [List.getD_eq_getElem?_getD, List.getElem?_map, List.getElem?_range (by omega)]
  simp only [Option.map_some, Option.getD_some]
  rw [Int.toNat_of_nonneg h0]
theorem ex_cell {R : RulesZ} {p : PosZ} (K : POk R p) {x y : Int} (hx : 0 ≤ x) (hx2 : x < R.width) (hy : 0 ≤ y) (hy2 : y < R.height) : (exZ R p).cells.getD ((R.height - 1 - y) * R.width + x).toNat 0 = turnC (p.cells.getD (y * R.width + x).toNat 0) := by
  obtain ⟨a, b⟩ := sq_rg2 K.r hx hx2 (show 0 ≤ R.height - 1 - y by omega) (show R.height - 1 - y < R.height by omega)
  show (turnedZ R p.cells).getD _ 0 = _
  rw [turned_get K a b, flip_sq K.r hx hx2, show R.height - 1 - (R.height - 1 - y) = y by omega]
theorem ex_ok {R : RulesZ} {p : PosZ} (K : POk R p) : POk R (exZ R p) where
  r := K.r
  cl := by show ((turnedZ R p.cells).length : Int) = _; rw [turned_len]; exact K.cl
  l0 := K.l1
  l1 := K.l0
  cb := fun c hc => by
    obtain ⟨s, hs, rfl⟩ := List.mem_map.1 (show c ∈ turnedZ R p.cells from hc)
    have := K.cell (flipI R s).toNat
    generalize p.cells.getD (flipI R s).toNat 0 = z at *
    unfold turnC
    by_cases h0 : 0 < z
    · by_cases h1 : z % 2 = 1
      · rw [if_pos h0, if_pos h1]; omega
      · rw [if_pos h0, if_neg h1]; omega
    · rw [if_neg h0]; omega
  b0 := K.b1
  b1 := K.b0
  tu := by show 1 - p.turn = 0 ∨ 1 - p.turn = 1; have := K.tu; omega
  qu := K.qu
theorem ex_ex {R : RulesZ} {p : PosZ} (K : POk R p) : exZ R (exZ R p) = p := by
  have hc : turnedZ R (turnedZ R p.cells) = p.cells := by
    apply List.ext_getElem
    · rw [turned_len, turned_len]
    · intro i h1 h2
      have hcl := K.cl
      have hi : (i : Int) < R.width * R.height := by omega
      have e1 := turned_get (ex_ok K) (s := i) (by omega) hi
      have hf := flip_rg K.r (s := i) (by omega) hi
      have e2 := turned_get K hf.1 hf.2
      rw [flip_flip K.r (by omega) hi] at e2
      rw [show (exZ R p).cells = turnedZ R p.cells from rfl, e2, turn_turn (K.cell _).1, Int.toNat_natCast] at e1
      rw [List.getD_eq_getElem?_getD, List.getD_eq_getElem?_getD, List.getElem?_eq_getElem h1, List.getElem?_eq_getElem h2] at e1
      exact e1
  unfold exZ
  simp only [hc]
  rw [show 1 - (1 - p.turn) = p.turn by omega]
theorem ex_hand {R : RulesZ} {p : PosZ} (K : POk R p) : (exZ R p).hand (exZ R p).turn = p.hand p.turn := by
  show (exZ R p).hand (1 - p.turn) = _
  unfold PosZ.hand exZ
  rcases K.tu with h | h <;> rw [h] <;> simp

/-! ### lines, conditions -/
theorem own_ex {R : RulesZ} {p : PosZ} (K : POk R p) {pl : Int} (hpl : pl = 0 ∨ pl = 1) (x y : Int) : ownZ R (exZ R p) (1 - pl) x (R.height - 1 - y) = ownZ R p pl x y := by
  unfold ownZ
  by_cases h : x < 0 ∨ R.width ≤ x ∨ y < 0 ∨ R.height ≤ y
  · rw [if_pos h, if_pos (by omega)]
  · rw [if_neg h, if_neg (by omega), ex_cell K (by omega) (by omega) (by omega) (by omega)]
    have hc := (K.cell (y * R.width + x).toNat).1
    generalize p.cells.getD (y * R.width + x).toNat 0 = c at *
    have hs := turn_sign hc
    by_cases h0 : 0 < c
    · have hk := (turn_kind h0).1
      rw [decide_eq_true h0, decide_eq_true (hs.1.2 h0), Bool.true_and, Bool.true_and, hk]
      rw [Bool.eq_iff_iff, beq_iff_eq, beq_iff_eq]
      omega
    · rw [decide_eq_false h0, decide_eq_false (fun q => h0 (hs.1.1 q))]; rfl
theorem own_inS {R : RulesZ} {p : PosZ} {pl x y : Int} (h : ownZ R p pl x y = true) : 0 ≤ x ∧ x < R.width ∧ 0 ≤ y ∧ y < R.height := by
  unfold ownZ at h
  split at h
  · cases h
  · omega
theorem line_ex1 {R : RulesZ} {p : PosZ} (K : POk R p) {pl : Int} (hpl : pl = 0 ∨ pl = 1) {cnt : Nat} (hc : 1 ≤ cnt) (h : lineZ R p pl cnt = true) : lineZ R (exZ R p) (1 - pl) cnt = true := by
  have hcl := K.cl
  have hlen : (exZ R p).cells.length = p.cells.length := turned_len R p.cells
  unfold lineZ at h
  obtain ⟨s, hs, h⟩ := List.any_eq_true.1 h
  obtain ⟨j, hj, h⟩ := List.any_eq_true.1 h
  have hs' := List.mem_range.1 hs
  have hj' := List.mem_range.1 hj
  unfold lineAt at h
  rw [List.all_eq_true] at h
  have hs0 : (0 : Int) ≤ (s : Int) := by omega
  have hs1 : (s : Int) < R.width * R.height := by omega
  obtain ⟨a, b, c, d, e⟩ := sq_parts K.r hs0 hs1
  obtain ⟨f1, f2⟩ := flip_parts K.r hs0 hs1
  have fr := flip_rg K.r hs0 hs1
  have mirror : ∀ j' : Int, dxZ j' = dxZ j → dyZ j' = - dyZ j → 0 ≤ j' → j' < 4 → lineZ R (exZ R p) (1 - pl) cnt = true := by
    intro j' h1 h2 h3 h4
    refine lineZ_true (s := (flipI R s).toNat) (j := j') (by rw [hlen]; omega) h3 h4 ?_
    unfold lineAt
    rw [List.all_eq_true]
    intro i hi
    have := h i hi
    rw [Int.toNat_of_nonneg fr.1, f1, f2, h1, h2]
    rw [show R.height - 1 - (s : Int) / R.width + (i : Int) * -dyZ j = R.height - 1 - ((s : Int) / R.width + i * dyZ j) by rw [Int.mul_neg]; omega, own_ex K hpl]
    exact this
  have hj4 : (j : Int) = 0 ∨ (j : Int) = 1 ∨ (j : Int) = 2 ∨ (j : Int) = 3 := by omega
  rcases hj4 with q | q | q | q
  · rw [q] at mirror; exact mirror 0 rfl (by simp [dyZ]) (by omega) (by omega)
  · rw [q] at h
    have hx : dxZ 1 = 0 := rfl
    have hy : dyZ 1 = 1 := by simp [dyZ]
    simp only [hx, hy, Int.mul_zero, Int.add_zero, Int.mul_one] at h
    have hl := own_inS (h (cnt - 1) (List.mem_range.2 (by omega)))
    rw [Int.natCast_sub hc] at hl
    have hy0 : 0 ≤ R.height - 1 - ((s : Int) / R.width + ((cnt : Int) - 1)) := by omega
    have hr := sq_rg2 K.r a b hy0 (by omega)
    obtain ⟨g1, g2⟩ := sq_div (y := R.height - 1 - ((s : Int) / R.width + ((cnt : Int) - 1))) K.r.w.1 a b
    refine lineZ_true (s := ((R.height - 1 - ((s : Int) / R.width + ((cnt : Int) - 1))) * R.width + (s : Int) % R.width).toNat) (j := 1) (by rw [hlen]; omega) (by omega) (by omega) ?_
    unfold lineAt
    rw [List.all_eq_true]
    intro i hi
    have hi' := List.mem_range.1 hi
    have := h (cnt - 1 - i) (List.mem_range.2 (by omega))
    rw [Int.toNat_of_nonneg hr.1, g1, g2, hx, hy, Int.mul_zero, Int.add_zero, Int.mul_one]
    rw [show R.height - 1 - ((s : Int) / R.width + ((cnt : Int) - 1)) + (i : Int) = R.height - 1 - ((s : Int) / R.width + ((cnt - 1 - i : Nat) : Int)) by omega, own_ex K hpl]
    exact this
  · rw [q] at mirror; exact mirror 3 rfl (by simp [dyZ]) (by omega) (by omega)
  · rw [q] at mirror; exact mirror 2 rfl (by simp [dyZ]) (by omega) (by omega)
theorem line_ex {R : RulesZ} {p : PosZ} (K : POk R p) {pl : Int} (hpl : pl = 0 ∨ pl = 1) {cnt : Nat} (hc : 1 ≤ cnt) : lineZ R (exZ R p) (1 - pl) cnt = lineZ R p pl cnt := by
  rw [Bool.eq_iff_iff]
  refine ⟨fun h => ?_, line_ex1 K hpl hc⟩
  have := line_ex1 (ex_ok K) (pl := 1 - pl) (by omega) hc h
  rwa [ex_ex K, show 1 - (1 - pl) = pl by omega] at this
theorem last_ex {R : RulesZ} (K : ROk R) {pl s : Int} (hpl : pl = 0 ∨ pl = 1) (h0 : 0 ≤ s) (h1 : s < R.width * R.height) : lastZ R (1 - pl) (flipI R s) = lastZ R pl s := by
  obtain ⟨f1, -⟩ := flip_parts K h0 h1
  unfold lastZ
  rw [f1]
  rcases hpl with rfl | rfl
  · rw [if_neg (by omega), if_pos rfl, Bool.eq_iff_iff, beq_iff_eq, beq_iff_eq]; omega
  · rw [if_pos (by omega), if_neg (by omega), Bool.eq_iff_iff, beq_iff_eq, beq_iff_eq]; omega
theorem perm_of {α : Type} [BEq α] [LawfulBEq α] : ∀ {l m : List α}, l.Nodup → m.Nodup → (∀ x, x ∈ l ↔ x ∈ m) → l.Perm m
  | [], m, _, _, h => by
    cases m with
    | nil => exact .refl _
    | cons y t => exact absurd ((h y).2 (by simp)) (by simp)
  | x :: t, m, hl, hm, h => by
    have hx : x ∈ m := (h x).1 (by simp)
    have hc := List.nodup_cons.1 hl
    refine ((List.perm_cons_erase hx).trans (List.Perm.cons x ?_)).symm
    refine (perm_of hc.2 (hm.erase x) fun y => ?_).symm
    rw [hm.mem_erase_iff]
    constructor
    · intro hy
      exact ⟨fun e => hc.1 (by rw [← e]; exact hy), (h y).1 (by simp [hy])⟩
    · rintro ⟨hne, hy⟩
      rcases List.mem_cons.1 ((h y).2 hy) with e | e
      · exact absurd e hne
      · exact e
theorem flip_perm {R : RulesZ} (K : ROk R) {n : Nat} (hn : (n : Int) = R.width * R.height) : ((List.range n).map fun s : Nat => (flipI R s).toNat).Perm (List.range n) := by
  refine perm_of ?_ List.nodup_range fun t => ?_
  · rw [List.nodup_iff_pairwise_ne, List.pairwise_map]
    refine List.Pairwise.imp_of_mem ?_ (List.pairwise_lt_range (n := n))
    intro a b ha hb hab e
    have ha' := List.mem_range.1 ha
    have hb' := List.mem_range.1 hb
    have fa := flip_rg K (s := a) (by omega) (by omega)
    have fb := flip_rg K (s := b) (by omega) (by omega)
    have e2 : flipI R a = flipI R b := by omega
    have ea := flip_flip K (s := a) (by omega) (by omega)
    have eb := flip_flip K (s := b) (by omega) (by omega)
    rw [e2, eb] at ea
    omega
  · rw [List.mem_map, List.mem_range]
    constructor
    · rintro ⟨s, hs, rfl⟩
      have hs' := List.mem_range.1 hs
      have := flip_rg K (s := s) (by omega) (by omega)
      omega
    · intro ht
      have f := flip_rg K (s := t) (by omega) (by omega)
      have e := flip_flip K (s := t) (by omega) (by omega)
      exact ⟨(flipI R t).toNat, List.mem_range.2 (by omega), by rw [Int.toNat_of_nonneg f.1, e]; omega⟩
theorem cells_map (l : List Int) : (List.range l.length).map (fun i => l.getD i 0) = l := by
  apply List.ext_getElem
  · simp
  · intro i h1 h2
    simp [List.getD_eq_getElem?_getD, List.getElem?_eq_getElem h2]
theorem count_ex {R : RulesZ} {p : PosZ} (K : POk R p) (P Q : Int → Bool) (h : ∀ c, 0 ≤ c → P (turnC c) = Q c) : (turnedZ R p.cells).countP P = p.cells.countP Q := by
  have hp := flip_perm K.r K.cl
  unfold turnedZ
  rw [List.countP_map]
  have e : (List.range p.cells.length).countP (P ∘ fun s : Nat => turnC (p.cells.getD (flipI R s).toNat 0)) = ((List.range p.cells.length).map fun s : Nat => (flipI R s).toNat).countP (fun i => Q (p.cells.getD i 0)) := by
    rw [List.countP_map]
    refine List.countP_congr fun s _ => ?_
    simp only [Function.comp]
    rw [h _ (K.cell _).1]
  rw [e, hp.countP_eq]
  conv => rhs; rw [← cells_map p.cells, List.countP_map]
  rfl
theorem reach_ex1 {R : RulesZ} {p : PosZ} (K : POk R p) {x : EndZ} {mv : Int} (hm : mv = 0 ∨ mv = 1) (hx : 0 ≤ x.piece) (h : ((List.range p.cells.length).any fun s => p.cells.getD s 0 == 2 * x.piece + mv + 1 && lastZ R mv s) = true) :
    ((List.range (exZ R p).cells.length).any fun s => (exZ R p).cells.getD s 0 == 2 * x.piece + (1 - mv) + 1 && lastZ R (1 - mv) s) = true := by
  have hcl := K.cl
  obtain ⟨s, hs, h⟩ := List.any_eq_true.1 h
  have hs' := List.mem_range.1 hs
  rw [Bool.and_eq_true, beq_iff_eq] at h
  have f := flip_rg K.r (s := s) (by omega) (by omega)
  have ff := flip_flip K.r (s := s) (by omega) (by omega)
  refine List.any_eq_true.2 ⟨(flipI R s).toNat, List.mem_range.2 (by show _ < (turnedZ R p.cells).length; rw [turned_len]; omega), ?_⟩
  rw [Bool.and_eq_true, beq_iff_eq, Int.toNat_of_nonneg f.1, last_ex K.r hm (by omega) (by omega)]
  refine ⟨?_, h.2⟩
  show (turnedZ R p.cells).getD _ 0 = _
  rw [turned_get K f.1 f.2, ff, Int.toNat_natCast, h.1]
  unfold turnC
  rw [if_pos (by omega)]
  rcases hm with rfl | rfl
  · rw [if_pos (by omega)]; omega
  · rw [if_neg (by omega)]; omega
theorem holds_ex {R : RulesZ} {p : PosZ} (K : POk R p) {x : EndZ} (hx : endErr R.pieces.length x = 0) {mv : Int} (hm : mv = 0 ∨ mv = 1) : holdsZ R (exZ R p) x (1 - mv) = holdsZ R p x mv := by
  unfold holdsZ
  rcases endOk hx with ⟨k, h1, h2⟩ | ⟨k, h1, h2⟩ | ⟨k, h1, h2, h3, h4⟩
  · rw [if_pos k, if_pos k]
    exact line_ex K hm (by omega)
  · rw [if_neg (by omega), if_pos k, if_neg (by omega), if_pos k, Bool.eq_iff_iff]
    refine ⟨fun h => ?_, reach_ex1 K hm h1⟩
    have := reach_ex1 (ex_ok K) (x := x) (mv := 1 - mv) (by omega) h1 h
    rwa [ex_ex K, show 1 - (1 - mv) = mv by omega] at this
  · rw [if_neg (by omega), if_neg (by omega), if_neg (by omega), if_neg (by omega)]
    have e := count_ex K (fun c => c == 2 * x.piece + 1 - (1 - mv) + 1) (fun c => c == 2 * x.piece + 1 - mv + 1) (fun c hc => by
      rw [Bool.eq_iff_iff, beq_iff_eq, beq_iff_eq]
      unfold turnC
      by_cases q : 0 < c
      · by_cases q1 : c % 2 = 1
        · rw [if_pos q, if_pos q1]; omega
        · rw [if_pos q, if_neg q1]; omega
      · rw [if_neg q]; omega)
    rw [show (exZ R p).cells = turnedZ R p.cells from rfl, e]

/-! ### moves -/
theorem takes_ex {take c t : Int} (hc : 0 ≤ c) (ht : t = 0 ∨ t = 1) : takesZ take (turnC c) (1 - t) = takesZ take c t := by
  have hs := turn_sign hc
  have e0 : (turnC c == 0) = (c == 0) := by rw [Bool.eq_iff_iff, beq_iff_eq, beq_iff_eq]; exact hs.2.1
  have e1 : otherZ (turnC c) (1 - t) = otherZ c t := by
    unfold otherZ
    by_cases h0 : 0 < c
    · rw [decide_eq_true h0, decide_eq_true (hs.1.2 h0), (turn_kind h0).1, Bool.true_and, Bool.true_and]
      congr 1
      rw [Bool.eq_iff_iff, beq_iff_eq, beq_iff_eq]; omega
    · rw [decide_eq_false h0, decide_eq_false (fun q => h0 (hs.1.1 q))]; rfl
  unfold takesZ
  rw [e0, e1]
theorem way_ex {R : RulesZ} {p : PosZ} (K : POk R p) (x : WayZ) (dy : Int) : ∀ (n : Nat) (a b : Int), wayFrom R (exZ R p) x (-dy) n a (R.height - 1 - b) = (wayFrom R p x dy n a b).map (flipI R)
  | 0, a, b => rfl
  | n + 1, a, b => by
    unfold wayFrom
    by_cases h : a + x.dx < 0 ∨ R.width ≤ a + x.dx ∨ b + dy < 0 ∨ R.height ≤ b + dy
    · rw [if_pos h, if_pos (by omega)]; rfl
    · rw [if_neg h, if_neg (by omega)]
      have ey : R.height - 1 - b + -dy = R.height - 1 - (b + dy) := by omega
      have hc := (K.cell ((b + dy) * R.width + (a + x.dx)).toNat).1
      rw [ey, ex_cell K (by omega) (by omega) (by omega) (by omega), way_ex K x dy n (a + x.dx) (b + dy), show (exZ R p).turn = 1 - p.turn from rfl, takes_ex hc K.tu]
      have hs := turn_sign hc
      rw [List.map_append]
      congr 1
      · split
        · rw [List.map_cons, List.map_nil, flip_sq K.r (by omega) (by omega)]
        · rfl
      · by_cases q : p.cells.getD ((b + dy) * R.width + (a + x.dx)).toNat 0 = 0
        · rw [if_neg (by rw [hs.2.1.2 q]; simp), if_neg (by rw [q]; simp)]
        · rw [if_pos (fun e => q (hs.2.1.1 e)), if_pos q]; rfl
theorem flM_flM {R : RulesZ} (K : ROk R) {m : MoveZ} (hs : m.src = -1 ∨ (0 ≤ m.src ∧ m.src < R.width * R.height)) (hd : 0 ≤ m.dst ∧ m.dst < R.width * R.height) : flM R (flM R m) = m := by
  obtain ⟨s, d, k⟩ := m
  simp only at hs hd
  unfold flM
  simp only
  rw [flip_flip K hd.1 hd.2]
  rcases hs with rfl | ⟨h0, h1⟩
  · simp
  · have f := flip_rg K h0 h1
    rw [if_neg (by omega), if_neg (by omega), flip_flip K h0 h1]
theorem raw_ex {R : RulesZ} {p : PosZ} (K : POk R p) (hf : R.falls = false) {m : MoveZ} (h : m ∈ rawZ R p) : flM R m ∈ rawZ R (exZ R p) := by
  have hcl := K.cl
  have hlen : (exZ R p).cells.length = p.cells.length := turned_len R p.cells
  have hh := ex_hand K
  unfold rawZ at h ⊢
  rcases List.mem_append.1 h with h | h
  · obtain ⟨s, k, hs, hz, hk, hp, rfl⟩ := puts_mem h
    have f := flip_rg K.r (s := s) (by omega) (by omega)
    have ff := flip_flip K.r (s := s) (by omega) (by omega)
    refine List.mem_append.2 (.inl ?_)
    unfold putsZ
    refine List.mem_flatMap.2 ⟨(flipI R s).toNat, List.mem_range.2 (by rw [hlen]; omega), ?_⟩
    have hcell : (exZ R p).cells.getD (flipI R s).toNat 0 = 0 := by
      show (turnedZ R p.cells).getD _ 0 = _
      rw [turned_get K f.1 f.2, ff, Int.toNat_natCast, hz]; rfl
    unfold putsAt
    rw [if_neg (by rw [hcell, hf]; simp), hh]
    refine List.mem_filterMap.2 ⟨k, List.mem_range.2 hk, ?_⟩
    rw [if_pos hp]
    unfold flM
    simp only [Option.some.injEq]
    rw [if_pos (by decide), Int.toNat_of_nonneg f.1]
  · obtain ⟨s, hs, hn, ht, x, hx, t, htw, rfl⟩ := steps_mem h
    have hs0 : (0 : Int) ≤ (s : Int) := by omega
    have hs1 : (s : Int) < R.width * R.height := by omega
    have f := flip_rg K.r hs0 hs1
    have ff := flip_flip K.r hs0 hs1
    obtain ⟨f1, f2⟩ := flip_parts K.r hs0 hs1
    have htm := wayZ_mem htw
    have hc := (K.cell s).1
    have hc0 : 0 < p.cells.getD s 0 := by omega
    have hcell : (exZ R p).cells.getD (flipI R s).toNat 0 = turnC (p.cells.getD s 0) := by
      show (turnedZ R p.cells).getD _ 0 = _
      rw [turned_get K f.1 f.2, ff, Int.toNat_natCast]
    obtain ⟨k1, k2⟩ := turn_kind hc0
    have hs3 := turn_sign hc
    refine List.mem_append.2 (.inr (List.mem_flatMap.2 ⟨(flipI R s).toNat, List.mem_range.2 (by rw [hlen]; omega), ?_⟩))
    unfold stepsAt
    rw [hcell, if_neg (by rw [k1, show (exZ R p).turn = 1 - p.turn from rfl]; omega), k2]
    refine List.mem_flatMap.2 ⟨x, hx, List.mem_map.2 ⟨flipI R t, ?_, ?_⟩⟩
    · unfold wayZ at htw ⊢
      rw [Int.toNat_of_nonneg f.1, f1, f2, show (exZ R p).turn = 1 - p.turn from rfl]
      have ed : (if 1 - p.turn = 1 then -x.dy else x.dy) = -(if p.turn = 1 then -x.dy else x.dy) := by
        rcases K.tu with q | q <;> rw [q] <;> simp
      rw [ed, way_ex K]
      exact List.mem_map.2 ⟨t, htw, rfl⟩
    · have el : lastZ R (exZ R p).turn (flipI R t) = lastZ R p.turn t := last_ex K.r K.tu htm.1 htm.2
      unfold moveTo flM
      simp only [el, Int.toNat_of_nonneg f.1]
      rw [if_neg (show ¬ ((s : Int) < 0) by omega)]
theorem legal_rg {R : RulesZ} {p : PosZ} (K : POk R p) {m : MoveZ} (h : m ∈ listZ R p) : (m.src = -1 ∨ (0 ≤ m.src ∧ m.src < R.width * R.height)) ∧ (0 ≤ m.dst ∧ m.dst < R.width * R.height) := by
  have F := fits_of K h
  have hcl := K.cl
  have := F.s
  have := F.d
  omega
theorem list_ex {R : RulesZ} {p : PosZ} (K : POk R p) (hf : R.falls = false) : (listZ R (exZ R p)).Perm ((listZ R p).map (flM R)) := by
  refine perm_of (list_nodup _ _) ?_ fun m => ?_
  · rw [List.nodup_iff_pairwise_ne, List.pairwise_map]
    refine List.Pairwise.imp_of_mem ?_ (list_nodup R p)
    intro a b ha hb hab e
    obtain ⟨a1, a2⟩ := legal_rg K ha
    obtain ⟨b1, b2⟩ := legal_rg K hb
    have ea := flM_flM K.r a1 a2
    have eb := flM_flM K.r b1 b2
    rw [e, eb] at ea
    exact hab ea.symm
  · rw [List.mem_map]
    constructor
    · intro h
      obtain ⟨a1, a2⟩ := legal_rg (ex_ok K) h
      have := raw_ex (ex_ok K) hf (list_mem.1 h)
      rw [ex_ex K] at this
      exact ⟨flM R m, list_mem.2 this, flM_flM K.r a1 a2⟩
    · rintro ⟨x, hx, rfl⟩
      exact list_mem.2 (raw_ex K hf (list_mem.1 hx))
theorem turned_elem (R : RulesZ) (l : List Int) (j : Nat) (h : j < (turnedZ R l).length) : (turnedZ R l)[j] = turnC (l.getD (flipI R j).toNat 0) := by
  have : (turnedZ R l)[j]? = some (turnC (l.getD (flipI R j).toNat 0)) := by
    unfold turnedZ
    rw [List.getElem?_map, List.getElem?_range (by rw [turned_len] at h; exact h)]; rfl
  exact (List.getElem?_eq_some_iff.1 this).2
theorem turned_set {R : RulesZ} (K : ROk R) {l : List Int} (hl : (l.length : Int) = R.width * R.height) {i v : Int} (h0 : 0 ≤ i) (h1 : i < R.width * R.height) : turnedZ R (l.set i.toNat v) = (turnedZ R l).set (flipI R i).toNat (turnC v) := by
  have fi := flip_rg K h0 h1
  apply List.ext_getElem
  · rw [List.length_set, turned_len, turned_len, List.length_set]
  · intro j h1' h2'
    have hj : j < l.length := by rw [turned_len, List.length_set] at h1'; exact h1'
    have fj := flip_rg K (s := j) (by omega) (by omega)
    rw [turned_elem, List.getElem_set]
    by_cases q : (flipI R i).toNat = j
    · rw [if_pos q]
      have e : flipI R j = i := by rw [← q, Int.toNat_of_nonneg fi.1, flip_flip K h0 h1]
      rw [e, List.getD_eq_getElem?_getD, List.getElem?_set_self (by omega)]; rfl
    · rw [if_neg q, turned_elem]
      have ne : i.toNat ≠ (flipI R j).toNat := fun e => q (by
        have e2 : i = flipI R j := by omega
        rw [e2, flip_flip K (by omega) (by omega)]; omega)
      rw [List.getD_eq_getElem?_getD, List.getElem?_set_ne ne, ← List.getD_eq_getElem?_getD]
theorem make_ex {R : RulesZ} {p : PosZ} (K : POk R p) {m : MoveZ} (hm : m ∈ listZ R p) : makeZ R (exZ R p) (flM R m) = exZ R (makeZ R p m) := by
  obtain ⟨a1, a2⟩ := legal_rg K hm
  have F := fits_of K hm
  have hcl := K.cl
  have fd := flip_rg K.r a2.1 a2.2
  have hht := ex_hand K
  have htook : (exZ R p).cells.getD (flM R m).dst.toNat 0 = turnC (p.cells.getD m.dst.toNat 0) := by
    show (turnedZ R p.cells).getD (flipI R m.dst).toNat 0 = _
    rw [turned_get K fd.1 fd.2, flip_flip K.r a2.1 a2.2]
  have hsrc : (0 ≤ (flM R m).src ↔ 0 ≤ m.src) ∧ ((flM R m).src < 0 ↔ m.src < 0) := by
    unfold flM
    simp only
    rcases a1 with q | ⟨q1, q2⟩
    · rw [if_pos (by omega)]; omega
    · have f := flip_rg K.r q1 q2
      rw [if_neg (by omega)]; omega
  have hc := (K.cell m.dst.toNat).1
  have hts := turn_sign hc
  have hhand : makeHand R (exZ R p) (flM R m) = makeHand R p m := by
    unfold makeHand
    simp only
    rw [hht, htook]
    have e1 : (if 0 ≤ (flM R m).src then p.hand p.turn else (p.hand p.turn).set (flM R m).piece.toNat ((p.hand p.turn).getD (flM R m).piece.toNat 0 - 1)) = (if 0 ≤ m.src then p.hand p.turn else (p.hand p.turn).set m.piece.toNat ((p.hand p.turn).getD m.piece.toNat 0 - 1)) := by
      by_cases q : 0 ≤ m.src
      · rw [if_pos (hsrc.1.2 q), if_pos q]
      · rw [if_neg (fun z => q (hsrc.1.1 z)), if_neg q]; rfl
    rw [e1]
    by_cases q : 0 < p.cells.getD m.dst.toNat 0 ∧ R.keeps = true
    · rw [if_pos q, if_pos ⟨hts.1.2 q.1, q.2⟩, (turn_kind q.1).2]
    · rw [if_neg q, if_neg (fun z => q ⟨hts.1.1 z.1, z.2⟩)]
  have hcells : makeCells (exZ R p) (flM R m) = turnedZ R (makeCells p m) := by
    unfold makeCells
    have e2 : turnC (2 * m.piece + p.turn + 1) = 2 * m.piece + (1 - p.turn) + 1 := by
      have := F.k
      unfold turnC
      rw [if_pos (by have := K.tu; omega)]
      rcases K.tu with q | q
      · rw [q, if_pos (by omega)]; omega
      · rw [q, if_neg (by omega)]; omega
    by_cases q : 0 ≤ m.src
    · have q2 : m.src < R.width * R.height := by omega
      rw [if_pos (hsrc.1.2 q), if_pos q, turned_set K.r (by rw [List.length_set]; exact hcl) a2.1 a2.2, turned_set K.r hcl q q2, e2]
      have es : (flM R m).src = flipI R m.src := by unfold flM; simp only; rw [if_neg (by omega)]
      rw [es]; rfl
    · rw [if_neg (fun z => q (hsrc.1.1 z)), if_neg q, turned_set K.r hcl a2.1 a2.2, e2]; rfl
  have hq : (if 0 < turnC (p.cells.getD m.dst.toNat 0) ∨ (flM R m).src < 0 then (0 : Int) else if 200 < p.quiet + 1 then 200 else p.quiet + 1) = (if 0 < p.cells.getD m.dst.toNat 0 ∨ m.src < 0 then 0 else if 200 < p.quiet + 1 then 200 else p.quiet + 1) := by
    by_cases q : 0 < p.cells.getD m.dst.toNat 0 ∨ m.src < 0
    · rw [if_pos q, if_pos (by rw [hts.1, hsrc.2]; exact q)]
    · rw [if_neg q, if_neg (by rw [hts.1, hsrc.2]; exact q)]
  unfold makeZ
  rw [hcells, hhand, htook]
  show (⟨_, _, _, _, _⟩ : PosZ) = ⟨_, _, _, _, _⟩
  rw [show (exZ R p).quiet = p.quiet from rfl, hq, show (exZ R p).turn = 1 - p.turn from rfl, show (exZ R p).h0 = p.h1 from rfl, show (exZ R p).h1 = p.h0 from rfl]
  rcases K.tu with q | q <;> rw [q] <;> rfl

/-! ### results, scores -/
def swR (r : Int) : Int := if r = 1 then 2 else if r = 2 then 1 else r
theorem idx_congr {α : Type} (f g : α → Bool) : ∀ (l : List α) (k : Int), (∀ x ∈ l, f x = g x) → idxL f l k = idxL g l k
  | [], k, _ => rfl
  | x :: t, k, h => by
    unfold idxL
    rw [h x (by simp), idx_congr f g t (k + 1) (fun y hy => h y (by simp [hy]))]
theorem result_ex {R : RulesZ} {p : PosZ} (K : POk R p) (hf : R.falls = false) : resultZ R (exZ R p) = swR (resultZ R p) := by
  have htu := K.tu
  have hi : idxL (fun x => holdsZ R (exZ R p) x (1 - (exZ R p).turn)) R.ends 0 = idxL (fun x => holdsZ R p x (1 - p.turn)) R.ends 0 := by
    refine idx_congr _ _ _ _ fun x hx => ?_
    obtain ⟨i, hi, rfl⟩ := List.mem_iff_getElem.1 hx
    have hee := K.r.ee i hi
    rw [List.getD_eq_getElem?_getD, List.getElem?_eq_getElem hi] at hee
    rw [show (exZ R p).turn = 1 - p.turn from rfl]
    exact holds_ex K hee (mv := 1 - p.turn) (by omega)
  have hl : (listZ R (exZ R p)).length = (listZ R p).length := by rw [(list_ex K hf).length_eq, List.length_map]
  unfold resultZ
  rw [hi, hl, show (exZ R p).turn = 1 - p.turn from rfl, show (exZ R p).quiet = p.quiet from rfl]
  have s1 : swR (1 + p.turn) = 1 + (1 - p.turn) := by unfold swR; rcases htu with q | q <;> rw [q] <;> rfl
  have s2 : swR (1 + (1 - p.turn)) = 1 + (1 - (1 - p.turn)) := by unfold swR; rcases htu with q | q <;> rw [q] <;> rfl
  split
  · split
    · exact s1.symm
    · exact s2.symm
  · split
    · rfl
    · split
      · rfl
      · split
        · exact s2.symm
        · split
          · exact s1.symm
          · rfl
theorem sw_zero (r : Int) : swR r = 0 ↔ r = 0 := by unfold swR; split; omega; split <;> omega
theorem over_ex {R : RulesZ} {p : PosZ} (K : POk R p) (r : Int) : overZ (exZ R p) (swR r) = overZ p r := by
  unfold overZ swR
  rw [show (exZ R p).turn = 1 - p.turn from rfl]
  rcases K.tu with q | q <;> rw [q]
  · by_cases h1 : r = 1
    · rw [if_pos h1, if_pos (by omega), if_pos (by omega)]
    · by_cases h2 : r = 2
      · rw [if_neg h1, if_pos h2, if_neg (by omega), if_pos (by omega), if_neg (by omega), if_pos (by omega)]
      · rw [if_neg h1, if_neg h2, if_neg (by omega), if_neg (by omega), if_neg (by omega), if_neg (by omega)]
  · by_cases h1 : r = 1
    · rw [if_pos h1, if_neg (by omega), if_pos (by omega), if_neg (by omega), if_pos (by omega)]
    · by_cases h2 : r = 2
      · rw [if_neg h1, if_pos h2, if_pos (by omega), if_pos (by omega)]
      · rw [if_neg h1, if_neg h2, if_neg (by omega), if_neg (by omega), if_neg (by omega), if_neg (by omega)]
theorem fold_congr (g h : MoveZ → Int) : ∀ (l : List MoveZ) (a : Int), (∀ m ∈ l, g m = h m) → l.foldl (fun a m => if a < g m then g m else a) a = l.foldl (fun a m => if a < h m then h m else a) a
  | [], a, _ => rfl
  | m :: t, a, e => by
    simp only [List.foldl_cons]
    rw [e m (by simp)]
    exact fold_congr g h t _ fun x hx => e x (by simp [hx])
theorem max_swap (x y z : Int) : (if (if z < x then x else z) < y then y else (if z < x then x else z)) = (if (if z < y then y else z) < x then x else (if z < y then y else z)) := by
  by_cases h1 : z < x <;> by_cases h2 : z < y <;> simp only [h1, h2, if_true, if_false]
  · split <;> split <;> omega
  all_goals (repeat (first | rfl | omega | split))
theorem fold_perm (g : MoveZ → Int) {l l' : List MoveZ} (h : l.Perm l') (a : Int) : l.foldl (fun a m => if a < g m then g m else a) a = l'.foldl (fun a m => if a < g m then g m else a) a :=
  h.foldl_eq' (fun x _ y _ z => max_swap (g x) (g y) z) a
theorem of_ex {R : RulesZ} (hf : R.falls = false) : ∀ (d : Nat) {p : PosZ}, POk R p → ofZ R d (exZ R p) = ofZ R d p
  | 0, p, K => by
    unfold ofZ
    rw [result_ex K hf]
    by_cases h : resultZ R p = 0
    · rw [if_neg (by simpa using (sw_zero _).2 h), if_neg (by simpa using h)]
    · rw [if_pos (fun q => h ((sw_zero _).1 q)), if_pos h, over_ex K]
  | d + 1, p, K => by
    unfold ofZ
    rw [result_ex K hf]
    by_cases h : resultZ R p = 0
    · rw [if_neg (by simpa using (sw_zero _).2 h), if_neg (by simpa using h)]
      rw [fold_perm (fun m => nearerZ (-(ofZ R d (makeZ R (exZ R p) m)))) (list_ex K hf), List.foldl_map]
      refine fold_congr (fun m => nearerZ (-(ofZ R d (makeZ R (exZ R p) (flM R m))))) (fun m => nearerZ (-(ofZ R d (makeZ R p m)))) _ _ fun m hm => ?_
      rw [make_ex K hm, of_ex hf d (make_ok K hm)]
    · rw [if_pos (fun q => h ((sw_zero _).1 q)), if_pos h, over_ex K]
theorem moves_ex {R : RulesZ} {p : PosZ} (K : POk R p) (hf : R.falls = false) : (movesZ R (exZ R p)).Perm ((movesZ R p).map (flM R)) := by
  unfold movesZ
  rw [result_ex K hf]
  by_cases h : resultZ R p = 0
  · rw [if_pos ((sw_zero _).2 h), if_pos h]; exact list_ex K hf
  · rw [if_neg (fun q => h ((sw_zero _).1 q)), if_neg h]; exact .refl _
theorem nodes_ex {R : RulesZ} (hf : R.falls = false) : ∀ (d : Nat) {p : PosZ}, POk R p → nodes R d (exZ R p) = nodes R d p
  | 0, p, K => rfl
  | d + 1, p, K => by
    unfold nodes
    rw [((moves_ex K hf).map fun m => nodes R d (makeZ R (exZ R p) m)).sum_nat, List.map_map]
    congr 2
    refine List.map_congr_left fun m hm => ?_
    simp only [Function.comp]
    rw [make_ex K (moves_mem hm), nodes_ex hf d (make_ok K (moves_mem hm))]
/-- what the law says. -/
theorem sym_law {R : RulesZ} {p : PosZ} {d : Int} (hf : R.falls = false) (h : posErr R p = 0) : treeErr R (exZ R p) d = treeErr R p d ∧ scoreZ R (exZ R p) d = scoreZ R p d := by
  have K := pok_of h
  have hr : rulesErr R = 0 := by
    unfold posErr at h
    by_cases q : rulesErr R = 0
    · exact q
    · rw [if_pos q] at h; exact h
  have h2 := pos_of hr (ex_ok K)
  have e : treeErr R (exZ R p) d = treeErr R p d := by
    unfold treeErr
    rw [h, h2, nodes_ex hf _ K]
  refine ⟨e, ?_⟩
  unfold scoreZ
  rw [e, of_ex hf _ K]
end Go.Proofs.Ytaacfoeleblfbaa

/- Mq1: MtP, IntsW, MtA, MtB, in one text. -/
import Derived.Test.YtkfaibdflbdpgaaMvLaw
import Derived.Test.YtkfaibdflbdpgaaEngRules
import Derived.Test.YtkfaibdflbdpgaaIntsFunc
import Derived.Test.YtkfaibdflbdpgaaBox2
import Derived.Test.YtkfaibdflbdpgaaMvL
import Derived.Test.YtkfaibdflbdpgaaApp
import Derived.BigQuiet
/- The texts of moves, as plain data; no two legal moves have the same text. -/
namespace Go.Proofs.Ytkfaibdflbdpgaa
set_option linter.unusedVariables false

def colT (R : RulesZ) (n : Int) : ByteArray := Utf8.encode (97 + n % R.width)
def rowT (R : RulesZ) (n : Int) : ByteArray := Utf8.encode (49 + n / R.width)
def sqT (R : RulesZ) (n : Int) : ByteArray := colT R n ++ rowT R n
def letT (R : RulesZ) (k : Int) : ByteArray := Utf8.encode (R.pieces.getD k.toNat default).letter
def rivB (p : PosZ) (m x : MoveZ) : Bool := decide (0 ≤ x.src) && !(x.src == m.src) && (x.dst == m.dst) && (p.cells.getD x.src.toNat 0 == p.cells.getD m.src.toNat 0)
def rivals (p : PosZ) (l : List MoveZ) (m : MoveZ) : List Int := (l.filter (rivB p m)).map (·.src)
def markT (R : RulesZ) (p : PosZ) (l : List MoveZ) (m : MoveZ) : ByteArray :=
  if (rivals p l m).length = 0 then ByteArray.empty
  else if (rivals p l m).any (fun n => n % R.width == m.src % R.width) = false then colT R m.src
  else if (rivals p l m).any (fun n => n / R.width == m.src / R.width) = false then rowT R m.src
  else sqT R m.src
def kindZ (p : PosZ) (m : MoveZ) : Int := (p.cells.getD m.src.toNat 0 - 1) / 2
def takT (p : PosZ) (m : MoveZ) : ByteArray := if p.cells.getD m.dst.toNat 0 ≠ 0 then ⟨#[120]⟩ else ByteArray.empty
def proT (R : RulesZ) (p : PosZ) (m : MoveZ) : ByteArray := if m.piece ≠ kindZ p m then ⟨#[61]⟩ ++ letT R m.piece else ByteArray.empty
def ofT (R : RulesZ) (p : PosZ) (l : List MoveZ) (m : MoveZ) : ByteArray :=
  if m.src < 0 then (letT R m.piece ++ ⟨#[64]⟩) ++ sqT R m.dst
  else (((letT R (kindZ p m) ++ markT R p l m) ++ takT p m) ++ sqT R m.dst) ++ proT R p m

/-- the bytes of a text as numbers. -/
def bts (b : ByteArray) : List Nat := b.data.toList.map UInt8.toNat
theorem bts_append (a b : ByteArray) : bts (a ++ b) = bts a ++ bts b := by
  unfold bts
  rw [ByteArray.data_append, Array.toList_append, List.map_append]
theorem bts_size (b : ByteArray) : (bts b).length = b.size := by
  unfold bts
  rw [List.length_map, Array.length_toList]; rfl
theorem bts_enc {n : Int} (h0 : 0 ≤ n) (h1 : n < 128) : bts (Utf8.encode n) = [n.toNat] := by
  obtain ⟨k, rfl⟩ : ∃ k : Nat, n = k := ⟨n.toNat, by omega⟩
  have hk : k < 128 := by omega
  have : ∀ k : Fin 128, bts (Utf8.encode (k.val : Int)) = [k.val] := by decide +kernel
  simpa using this ⟨k, hk⟩
theorem bts_empty : bts ByteArray.empty = [] := rfl
/-- letters of the types. -/
structure LetOk (R : RulesZ) : Prop where
  rg : ∀ i, i < R.pieces.length → 65 ≤ (R.pieces.getD i default).letter ∧ (R.pieces.getD i default).letter ≤ 90
  ne : ∀ i j, i < j → j < R.pieces.length → (R.pieces.getD i default).letter ≠ (R.pieces.getD j default).letter
theorem let_ok {R : RulesZ} (h : rulesErr R = 0) : LetOk R := by
  have hp : piecesErr R.pieces = 0 := by
    unfold rulesErr at h
    split at h
    · omega
    · split at h
      · omega
      · split at h
        · rename_i q; exact absurd h q
        · rename_i q; omega
  unfold piecesErr at hp
  split at hp
  · omega
  · split at hp
    · omega
    · rw [scanE_zero] at hp
      have hq : ∀ i, i < R.pieces.length → pieceErr R.pieces i = 0 := fun i hi => hp i (by omega) (by omega)
      refine ⟨fun i hi => ?_, fun i j hij hj => ?_⟩
      · have := hq i hi
        unfold pieceErr at this
        split at this
        · omega
        · omega
      · have := hq j hj
        unfold pieceErr at this
        split at this
        · omega
        · split at this
          · omega
          · rename_i q
            intro e
            apply q
            rw [List.any_eq_true]
            refine ⟨R.pieces.getD i default, ?_, by rw [e]; simp⟩
            rw [List.getD_eq_getElem?_getD, List.getElem?_eq_getElem (by omega)]
            exact List.mem_take_iff_getElem.2 ⟨i, by omega, rfl⟩
theorem let_inj {R : RulesZ} (L : LetOk R) {i j : Nat} (hi : i < R.pieces.length) (hj : j < R.pieces.length) (h : (R.pieces.getD i default).letter = (R.pieces.getD j default).letter) : i = j := by
  rcases Nat.lt_trichotomy i j with q | q | q
  · exact absurd h (L.ne i j q hj)
  · exact q
  · exact absurd h.symm (L.ne j i q hi)
theorem letT_bts {R : RulesZ} (L : LetOk R) {k : Int} (h0 : 0 ≤ k) (h1 : k < R.pieces.length) : bts (letT R k) = [(R.pieces.getD k.toNat default).letter.toNat] := by
  have := L.rg k.toNat (by omega)
  exact bts_enc (by omega) (by omega)
theorem sq_rg {R : RulesZ} (K : ROk R) {n : Int} (h0 : 0 ≤ n) (h1 : n < R.width * R.height) : 0 ≤ n % R.width ∧ n % R.width < 8 ∧ 0 ≤ n / R.width ∧ n / R.width < 8 := by
  have hw := K.w
  have hh := K.h
  have a1 := Int.emod_nonneg n (show R.width ≠ 0 by omega)
  have a2 := Int.emod_lt_of_pos n (show 0 < R.width by omega)
  have a3 := Int.ediv_nonneg h0 (show 0 ≤ R.width by omega)
  have a4 : n / R.width < R.height := Int.ediv_lt_of_lt_mul (by omega) (by rw [Int.mul_comm]; exact h1)
  omega
theorem colT_bts {R : RulesZ} (K : ROk R) {n : Int} (h0 : 0 ≤ n) (h1 : n < R.width * R.height) : bts (colT R n) = [97 + (n % R.width).toNat] := by
  have := sq_rg K h0 h1
  unfold colT
  rw [bts_enc (by omega) (by omega)]
  congr 1; omega
theorem rowT_bts {R : RulesZ} (K : ROk R) {n : Int} (h0 : 0 ≤ n) (h1 : n < R.width * R.height) : bts (rowT R n) = [49 + (n / R.width).toNat] := by
  have := sq_rg K h0 h1
  unfold rowT
  rw [bts_enc (by omega) (by omega)]
  congr 1; omega
theorem sqT_bts {R : RulesZ} (K : ROk R) {n : Int} (h0 : 0 ≤ n) (h1 : n < R.width * R.height) : bts (sqT R n) = [97 + (n % R.width).toNat, 49 + (n / R.width).toNat] := by
  unfold sqT
  rw [bts_append, colT_bts K h0 h1, rowT_bts K h0 h1]; rfl
/-- the mark of a move as numbers: none, a column, a row, or both. -/
theorem mark_cases {R : RulesZ} (K : ROk R) (p : PosZ) (l : List MoveZ) (m : MoveZ) (h0 : 0 ≤ m.src) (h1 : m.src < R.width * R.height) :
    ((rivals p l m) = [] ∧ bts (markT R p l m) = []) ∨
    ((∀ n ∈ rivals p l m, n % R.width ≠ m.src % R.width) ∧ bts (markT R p l m) = [97 + (m.src % R.width).toNat]) ∨
    ((∀ n ∈ rivals p l m, n / R.width ≠ m.src / R.width) ∧ bts (markT R p l m) = [49 + (m.src / R.width).toNat]) ∨
    bts (markT R p l m) = [97 + (m.src % R.width).toNat, 49 + (m.src / R.width).toNat] := by
  unfold markT
  by_cases e0 : (rivals p l m).length = 0
  · left; rw [if_pos e0]; exact ⟨List.length_eq_zero_iff.1 e0, rfl⟩
  rw [if_neg e0]
  by_cases e1 : (rivals p l m).any (fun n => n % R.width == m.src % R.width) = false
  · right; left
    rw [if_pos e1, colT_bts K h0 h1]
    refine ⟨fun n hn e => ?_, rfl⟩
    rw [List.any_eq_false] at e1
    exact e1 n hn (by simp [e])
  rw [if_neg e1]
  by_cases e2 : (rivals p l m).any (fun n => n / R.width == m.src / R.width) = false
  · right; right; left
    rw [if_pos e2, rowT_bts K h0 h1]
    refine ⟨fun n hn e => ?_, rfl⟩
    rw [List.any_eq_false] at e2
    exact e2 n hn (by simp [e])
  rw [if_neg e2, sqT_bts K h0 h1]
  exact .inr (.inr (.inr rfl))
theorem legal_src {R : RulesZ} {p : PosZ} {m : MoveZ} (h : m ∈ listZ R p) : m.src = -1 ∨ (0 ≤ m.src ∧ m.src.toNat < p.cells.length ∧ p.cells.getD m.src.toNat 0 ≠ 0 ∧ (p.cells.getD m.src.toNat 0 - 1) % 2 = p.turn) := by
  rw [list_mem] at h
  unfold rawZ at h
  rcases List.mem_append.1 h with h | h
  · obtain ⟨s, k, _, -, -, -, rfl⟩ := puts_mem h
    exact .inl rfl
  · obtain ⟨s, hs, hn, ht, x, -, t, -, rfl⟩ := steps_mem h
    have e : (moveTo R p s ((p.cells.getD s 0 - 1) / 2) t).src = s := rfl
    rw [e]
    exact .inr ⟨by omega, by simpa using hs, by simpa using fun e => hn e.symm, by simpa using ht⟩
/-- the text of a move on the board, as numbers. -/
theorem of_board {R : RulesZ} (L : LetOk R) {p : PosZ} (K : POk R p) {m : MoveZ} (hm : m ∈ listZ R p) (hs : 0 ≤ m.src) (l : List MoveZ) :
    bts (ofT R p l m) = (R.pieces.getD (kindZ p m).toNat default).letter.toNat :: (bts (markT R p l m) ++ (if p.cells.getD m.dst.toNat 0 ≠ 0 then [120] else []) ++ [97 + (m.dst % R.width).toNat, 49 + (m.dst / R.width).toNat] ++
      (if m.piece ≠ kindZ p m then [61, (R.pieces.getD m.piece.toNat default).letter.toNat] else [])) := by
  have F := fits_of K hm
  obtain ⟨hd1, hd2⟩ := F.d
  have hcl := K.cl
  have hc := K.cell m.src.toNat
  have hk : 0 ≤ kindZ p m ∧ kindZ p m < R.pieces.length := by
    rcases legal_src hm with e | ⟨-, -, e, -⟩
    · omega
    · unfold kindZ; omega
  unfold ofT
  rw [if_neg (by omega)]
  simp only [bts_append]
  rw [letT_bts L hk.1 hk.2, sqT_bts K.r hd1 (by omega)]
  have e1 : bts (takT p m) = if p.cells.getD m.dst.toNat 0 ≠ 0 then [120] else [] := by unfold takT; split <;> rfl
  have e2 : bts (proT R p m) = if m.piece ≠ kindZ p m then [61, (R.pieces.getD m.piece.toNat default).letter.toNat] else [] := by
    unfold proT
    split
    · rw [bts_append, letT_bts L F.k.1 F.k.2]; rfl
    · rfl
  rw [e1, e2]
  simp
theorem of_put {R : RulesZ} (L : LetOk R) {p : PosZ} (K : POk R p) {m : MoveZ} (hm : m ∈ listZ R p) (hs : m.src = -1) (l : List MoveZ) :
    bts (ofT R p l m) = [(R.pieces.getD m.piece.toNat default).letter.toNat, 64, 97 + (m.dst % R.width).toNat, 49 + (m.dst / R.width).toNat] := by
  have F := fits_of K hm
  obtain ⟨hd1, hd2⟩ := F.d
  have hcl := K.cl
  unfold ofT
  rw [if_pos (by omega)]
  simp only [bts_append]
  rw [letT_bts L F.k.1 F.k.2, sqT_bts K.r hd1 (by omega)]
  rfl
theorem dst_inj {R : RulesZ} (K : ROk R) {a b : Int} (ha0 : 0 ≤ a) (ha : a < R.width * R.height) (hb0 : 0 ≤ b) (hb : b < R.width * R.height) (h1 : 97 + (a % R.width).toNat = 97 + (b % R.width).toNat) (h2 : 49 + (a / R.width).toNat = 49 + (b / R.width).toNat) : a = b := by
  have p1 := sq_rg K ha0 ha
  have p2 := sq_rg K hb0 hb
  have e1 := Int.mul_ediv_add_emod a R.width
  have e2 := Int.mul_ediv_add_emod b R.width
  have q1 : a / R.width = b / R.width := by omega
  have q2 : a % R.width = b % R.width := by omega
  rw [q1, q2] at e1
  omega
/-- two texts on the board: their parts. -/
theorem parts_inj {A A' : Nat} {M M' X X' : List Nat} {c r c' r' : Nat} {P P' : List Nat} (hr : 49 ≤ r ∧ r < 57) (hr' : 49 ≤ r' ∧ r' < 57) (hP : P = [] ∨ ∃ z, 65 ≤ z ∧ P = [61, z]) (hP' : P' = [] ∨ ∃ z, 65 ≤ z ∧ P' = [61, z])
    (h : A :: (M ++ X ++ [c, r] ++ P) = A' :: (M' ++ X' ++ [c', r'] ++ P')) : A = A' ∧ c = c' ∧ r = r' ∧ P = P' ∧ M ++ X = M' ++ X' := by
  obtain ⟨h0, h⟩ := List.cons.inj h
  have h2 := congrArg List.reverse h
  simp only [List.reverse_append, List.reverse_cons, List.reverse_nil, List.nil_append, List.cons_append] at h2
  refine ⟨h0, ?_⟩
  have key : ∀ {U V : List Nat}, r :: c :: U = r' :: c' :: V → r = r' ∧ c = c' ∧ U = V := fun e => by
    simp only [List.cons.injEq] at e
    exact ⟨e.1, e.2.1, e.2.2⟩
  have fin : ∀ {U V : List Nat}, U.reverse = V.reverse → U = V := fun e => by simpa using congrArg List.reverse e
  rcases hP with rfl | ⟨z, hz, rfl⟩ <;> rcases hP' with rfl | ⟨z', hz', rfl⟩
  · obtain ⟨a, b, e⟩ := key (by simpa using h2)
    refine ⟨b, a, rfl, fin ?_⟩
    simpa using e
  · simp at h2
    omega
  · simp at h2
    omega
  · simp only [List.reverse_cons, List.reverse_nil, List.nil_append, List.cons_append, List.cons.injEq] at h2
    obtain ⟨e1, -, e⟩ := h2
    obtain ⟨a, b, e⟩ := key (by simpa using e)
    refine ⟨b, a, by rw [e1], fin ?_⟩
    simpa using e
theorem src_mem {p : PosZ} {l : List MoveZ} {m x : MoveZ} (hx : x ∈ l) (h0 : 0 ≤ x.src) (hne : x.src ≠ m.src) (hd : x.dst = m.dst) (hc : p.cells.getD x.src.toNat 0 = p.cells.getD m.src.toNat 0) : x.src ∈ rivals p l m := by
  unfold rivals
  refine List.mem_map.2 ⟨x, List.mem_filter.2 ⟨hx, ?_⟩, rfl⟩
  unfold rivB
  simp only [h0, decide_true, hd, hc, beq_self_eq_true, Bool.and_true, Bool.true_and]
  simp [hne]
/-- no two legal moves have the same text. -/
theorem text_inj {R : RulesZ} (L : LetOk R) {p : PosZ} (K : POk R p) {m m' : MoveZ} (hm : m ∈ listZ R p) (hm' : m' ∈ listZ R p) (h : ofT R p (listZ R p) m = ofT R p (listZ R p) m') : m = m' := by
  have F := fits_of K hm
  have F' := fits_of K hm'
  obtain ⟨hd1, hd2⟩ := F.d
  obtain ⟨hd1', hd2'⟩ := F'.d
  have hcl := K.cl
  have hb := congrArg bts h
  have hp := L.rg m.piece.toNat (by have := F.k; omega)
  have hp' := L.rg m'.piece.toNat (by have := F'.k; omega)
  have gd := sq_rg K.r hd1 (by omega)
  have gd' := sq_rg K.r hd1' (by omega)
  have second : ∀ {x : MoveZ}, x ∈ listZ R p → 0 ≤ x.src → ∀ {y : MoveZ}, y ∈ listZ R p → y.src = -1 → bts (ofT R p (listZ R p) x) ≠ bts (ofT R p (listZ R p) y) := by
    intro x hx hxs y hy hys e
    rw [of_board L K hx hxs, of_put L K hy hys] at e
    have Fx := fits_of K hx
    have hxd := Fx.d
    have hxl := Fx.s
    simp only [List.cons.injEq] at e
    have e := e.2
    have g := sq_rg K.r hxs (by omega)
    have gx := sq_rg K.r hxd.1 (by omega)
    rcases mark_cases K.r p (listZ R p) x hxs (by omega) with ⟨-, q⟩ | ⟨-, q⟩ | ⟨-, q⟩ | q <;> rw [q] at e
    · split at e
      · simp at e
      · simp at e; omega
    · simp at e; omega
    · simp at e; omega
    · simp at e; omega
  obtain ⟨s, d, k⟩ := m
  obtain ⟨s', d', k'⟩ := m'
  rcases legal_src hm with hs | ⟨hs, hsl, hsc, hst⟩ <;> rcases legal_src hm' with hs' | ⟨hs', hsl', hsc', hst'⟩
  · rw [of_put L K hm hs, of_put L K hm' hs'] at hb
    simp only [List.cons.injEq] at hb
    have hd := dst_inj K.r hd1 (by omega) hd1' (by omega) hb.2.2.1 hb.2.2.2.1
    have hk := let_inj L (i := k.toNat) (j := k'.toNat) (by have := F.k; simp only at this; omega) (by have := F'.k; simp only at this; omega) (by have := hb.1; simp only at hp hp' this ⊢; omega)
    have f1 := F.k.1
    have f2 := F'.k.1
    simp only at hd hs hs' f1 f2
    subst hd
    rw [hs, hs', show k = k' by omega]
  · exact absurd hb.symm (second hm' hs' hm hs)
  · exact absurd hb (second hm hs hm' hs')
  · rw [of_board L K hm hs, of_board L K hm' hs'] at hb
    have prom : ∀ {x : MoveZ}, 65 ≤ (R.pieces.getD x.piece.toNat default).letter → ((if x.piece ≠ kindZ p x then [61, (R.pieces.getD x.piece.toNat default).letter.toNat] else []) = [] ∨ ∃ z, 65 ≤ z ∧ (if x.piece ≠ kindZ p x then [61, (R.pieces.getD x.piece.toNat default).letter.toNat] else []) = [61, z]) := by
      intro x hx
      split
      · exact .inr ⟨_, by omega, rfl⟩
      · exact .inl rfl
    obtain ⟨hA, hc, hr, hP, hMX⟩ := parts_inj (by omega) (by omega) (prom hp.1) (prom hp'.1) hb
    have hd := dst_inj K.r hd1 (by omega) hd1' (by omega) hc hr
    have hc1 := K.cell s.toNat
    have hc2 := K.cell s'.toNat
    simp only at hd hs hs' hsl hsl' hsc hsc' hst hst' hc1 hc2
    subst hd
    have hkk : (kindZ p ⟨s, d, k⟩).toNat = (kindZ p ⟨s', d, k'⟩).toNat := by
      refine let_inj L ?_ ?_ ?_
      · unfold kindZ; simp only; omega
      · unfold kindZ; simp only; omega
      · have r1 := L.rg (kindZ p ⟨s, d, k⟩).toNat (by unfold kindZ; simp only; omega)
        have r2 := L.rg (kindZ p ⟨s', d, k'⟩).toNat (by unfold kindZ; simp only; omega)
        omega
    have hkz : kindZ p ⟨s, d, k⟩ = kindZ p ⟨s', d, k'⟩ := by
      unfold kindZ at hkk ⊢
      simp only at hkk ⊢
      omega
    have hcell : p.cells.getD s.toNat 0 = p.cells.getD s'.toNat 0 := by
      unfold kindZ at hkz
      simp only at hkz
      omega
    have hM : bts (markT R p (listZ R p) ⟨s, d, k⟩) = bts (markT R p (listZ R p) ⟨s', d, k'⟩) := List.append_cancel_right hMX
    have hss : s = s' := by
      by_cases e : s = s'
      · exact e
      · exfalso
        have m1 : s' ∈ rivals p (listZ R p) ⟨s, d, k⟩ := src_mem (x := ⟨s', d, k'⟩) hm' hs' (fun q => e q.symm) rfl hcell.symm
        have m2 : s ∈ rivals p (listZ R p) ⟨s', d, k'⟩ := src_mem (x := ⟨s, d, k⟩) hm hs e rfl hcell
        have g1 := sq_rg K.r hs (show s < _ by omega)
        have g2 := sq_rg K.r hs' (show s' < _ by omega)
        rcases mark_cases K.r p (listZ R p) ⟨s, d, k⟩ hs (show s < _ by omega) with ⟨q, -⟩ | ⟨q, z⟩ | ⟨q, z⟩ | z
        · rw [q] at m1; cases m1
        all_goals
          rcases mark_cases K.r p (listZ R p) ⟨s', d, k'⟩ hs' (show s' < _ by omega) with ⟨q', -⟩ | ⟨q', z'⟩ | ⟨q', z'⟩ | z'
          · rw [q'] at m2; cases m2
          all_goals
            rw [z, z'] at hM
            (try simp only [List.cons.injEq, and_true, reduceCtorEq, and_false] at hM) <;> first
              | omega
              | (have := q _ m1; simp only at this; omega)
              | exact e (dst_inj K.r hs (show s < _ by omega) hs' (show s' < _ by omega) hM.1 hM.2)
    subst hss
    have hpk : k = k' := by
      simp only [hkz] at hP
      have f1 := F.k
      have f2 := F'.k
      simp only at f1 f2 hp hp'
      split at hP <;> split at hP
      · simp only [List.cons.injEq, true_and, and_true] at hP
        have := let_inj L (i := k.toNat) (j := k'.toNat) (by omega) (by omega) (by omega)
        omega
      · cases hP
      · cases hP
      · rename_i a b
        have a' : k = kindZ p ⟨s, d, k'⟩ := by
          by_cases q : k = kindZ p ⟨s, d, k'⟩
          · exact q
          · exact absurd q a
        have b' : k' = kindZ p ⟨s, d, k'⟩ := by
          by_cases q : k' = kindZ p ⟨s, d, k'⟩
          · exact q
          · exact absurd q b
        rw [a', ← b']
    rw [hpk]
end Go.Proofs.Ytkfaibdflbdpgaa
/- slices.IndexFunc and ContainsFunc at []int: the predicate may make memory. -/
namespace Go.Proofs.Ytkfaibdflbdpgaa
open Go.ChangeShapes Go.WideShapes Go.ChangeAt Go.RowKit
set_option linter.unusedVariables false
theorem IndexFuncW_any (v : Value) (zs : List Int) (p : Int → Bool) (f : FuncId) (caps : Array Value) (w : World) (h : RdI w v zs) (hf : ∀ (args : Array Value) (w : World), (callFunc f args).run Try.prog w = .ok (.enter f args) w)
    (hc : ∀ (W : World) (z : Int), z ∈ zs → Below w.heap.size w W → Calls Try.prog f (#[.int .i64 z] ++ caps) W fun e w' => e = .returned (.bool (p z)) ∧ Below W.heap.size W w') :
    Calls Try.prog 161 #[v, .func (.func f) #[] caps] w fun e w' => e = .returned (.int .i64 (idxI p zs 0)) ∧ Below w.heap.size w w' := by
  obtain ⟨a, c, rfl, h1, h2⟩ := h.form
  unfold maxLen at h2
  have HR := Lib.hid h
  have HC := Lib.hid hc
  clear h hc
  go_enter Try.func161, Try.ntmps161
  go_wp2_with fail
  go_loopw [8] (fun i wr => ∃ k : Nat, k ≤ zs.length ∧ i = .int .i64 k ∧ Hid (idxI p zs 0 = idxI p (zs.drop k) k) ∧ Below w.heap.size w wr) (fun i _ => zs.length - (intOf i).toNat)
  case atStart => exact ⟨0, Nat.zero_le _, rfl, Lib.hid rfl, Below.refl _ _⟩
  case round =>
    obtain ⟨k, hk, rfl, HK, hbl⟩ := hrel
    by_cases hlt : k < zs.length
    · obtain ⟨g, o, rfl, hcell⟩ := cells_rd (HR.out.below hbl (Nat.le_refl _)) (by omega)
      have ck := hcell k hlt
      have HS := Lib.hid (idxI_step p zs k hlt)
      have HCk := Lib.hid (HC.out wr (zs.getD k 0) (by rw [List.getD_eq_getElem?_getD, List.getElem?_eq_getElem hlt]; exact List.getElem_mem hlt) hbl)
      have HB := Lib.hid hbl
      clear hcell hbl
      generalize zs.getD k 0 = z at *
      go_wp2_with fail
      refine HCk.out.mono ?_
      rintro e w1 ⟨rfl, hb1⟩
      have HB1 := Lib.hid (below_trans HB.out hb1 HB.out.size)
      clear hb1
      cases hp : p z
      · go_wp2_with fail
        go_roundw
        case rel => exact ⟨k + 1, by omega, by go_num, Lib.hid (by rw [HK.out, HS.out, if_neg (by simp [hp])]), HB1.out⟩
        case measure => simp [intOf]; omega
      · go_wp2_with fail
        go_ret
        exact ⟨by rw [HK.out, HS.out, if_pos hp]; rfl, HB1.out⟩
    · obtain rfl : k = zs.length := by omega
      go_wp2_with fail
      go_ret
      exact ⟨by rw [HK.out]; simp [idxI], hbl⟩
theorem ContainsFuncW_any (v : Value) (zs : List Int) (p : Int → Bool) (f : FuncId) (caps : Array Value) (w : World) (h : RdI w v zs) (hf : ∀ (args : Array Value) (w : World), (callFunc f args).run Try.prog w = .ok (.enter f args) w)
    (hc : ∀ (W : World) (z : Int), z ∈ zs → Below w.heap.size w W → Calls Try.prog f (#[.int .i64 z] ++ caps) W fun e w' => e = .returned (.bool (p z)) ∧ Below W.heap.size W w') :
    Calls Try.prog 121 #[v, .func (.func f) #[] caps] w fun e w' => e = .returned (.bool (zs.any p)) ∧ Below w.heap.size w w' := by
  have HI := Lib.hid (IndexFuncW_any v zs p f caps w h hf hc)
  have HA := Lib.hid (idxI_any p zs 0 (by omega))
  clear h hc hf
  go_enter Try.func121, Try.ntmps121
  go_wp2_with fail
  refine HI.out.mono ?_
  rintro e w' ⟨rfl, hb⟩
  have HB := Lib.hid hb
  clear hb
  go_wp2_with fail
  go_ret
  exact ⟨by rw [← HA.out]; rfl, HB.out⟩
end Go.Proofs.Ytkfaibdflbdpgaa
/- The contracts of movetext.column, row, square, letter, mark, Of. -/
namespace Go.Proofs.Ytkfaibdflbdpgaa
open Go.ChangeShapes Go.WideShapes Go.ChangeAt Go.RowKit
set_option linter.unusedVariables false

set_option maxRecDepth 100000 in
theorem column_any (R : RulesZ) (vp vs ve : Value) (n : Int) (w : World) (K : ROk R) (h0 : 0 ≤ n) (h1 : n < R.width * R.height) :
    Calls Try.prog 163 #[(.agg #[.string R.name, .int .i64 R.width, .int .i64 R.height, vp, vs, .bool R.falls, .bool R.keeps, ve, .int .i64 R.blocked, .int .i64 R.quiet, .int .i64 R.rept]), .int .i64 n] w fun e w' => e = .returned (.string (colT R n)) ∧ Below w.heap.size w w' := by
  have HD : Hid (colT R n = Utf8.encode (97 + n % R.width)) := Lib.hid rfl
  obtain ⟨hw1, hw2⟩ := K.w
  obtain ⟨s1, s2, s3, s4⟩ := sq_rg K h0 h1
  have ht : Int.tmod n R.width = n % R.width := Int.tmod_eq_emod_of_nonneg h0
  have hwne : R.width ≠ 0 := by omega
  clear K
  go_enter Try.func163, Try.ntmps163
  go_upto_region 1 with (fail)
  have B0 : Box (w.alloc (.cells #[.string R.name, .int .i64 R.width, .int .i64 R.height, vp, vs, .bool R.falls, .bool R.keeps, ve, .int .i64 R.blocked, .int .i64 R.quiet, .int .i64 R.rept] 26)) (w.heap.size) [.string R.name, .int .i64 R.width, .int .i64 R.height, vp, vs, .bool R.falls, .bool R.keeps, ve, .int .i64 R.blocked, .int .i64 R.quiet, .int .i64 R.rept] 26 := (Box.new' w (w.heap.size) [.string R.name, .int .i64 R.width, .int .i64 R.height, vp, vs, .bool R.falls, .bool R.keeps, ve, .int .i64 R.blocked, .int .i64 R.quiet, .int .i64 R.rept] 26 (by simp <;> omega))
  have HB : Hid (Below w.heap.size w (w.alloc (.cells #[.string R.name, .int .i64 R.width, .int .i64 R.height, vp, vs, .bool R.falls, .bool R.keeps, ve, .int .i64 R.blocked, .int .i64 R.quiet, .int .i64 R.rept] 26))) := Lib.hid ((Below.refl w.heap.size w).alloc (Nat.le_refl _) _)
  have hz0 : w.heap.size < (w.alloc (.cells #[.string R.name, .int .i64 R.width, .int .i64 R.height, vp, vs, .bool R.falls, .bool R.keeps, ve, .int .i64 R.blocked, .int .i64 R.quiet, .int .i64 R.rept] 26)).heap.size := by simp
  generalize (w.alloc (.cells #[.string R.name, .int .i64 R.width, .int .i64 R.height, vp, vs, .bool R.falls, .bool R.keeps, ve, .int .i64 R.blocked, .int .i64 R.quiet, .int .i64 R.rept] 26)) = w0 at *
  have HX := Lib.hid B0
  clear B0
  have q1 := HX.out.cell 1 rfl
  generalize n % R.width = z at *
  go_wp2_with fail
  go_ret
  exact ⟨by rw [HD.out]; rfl, HB.out⟩

set_option maxRecDepth 100000 in
theorem row_any (R : RulesZ) (vp vs ve : Value) (n : Int) (w : World) (K : ROk R) (h0 : 0 ≤ n) (h1 : n < R.width * R.height) :
    Calls Try.prog 164 #[(.agg #[.string R.name, .int .i64 R.width, .int .i64 R.height, vp, vs, .bool R.falls, .bool R.keeps, ve, .int .i64 R.blocked, .int .i64 R.quiet, .int .i64 R.rept]), .int .i64 n] w fun e w' => e = .returned (.string (rowT R n)) ∧ Below w.heap.size w w' := by
  have HD : Hid (rowT R n = Utf8.encode (49 + n / R.width)) := Lib.hid rfl
  obtain ⟨hw1, hw2⟩ := K.w
  obtain ⟨s1, s2, s3, s4⟩ := sq_rg K h0 h1
  have ht : Int.tdiv n R.width = n / R.width := Int.tdiv_eq_ediv_of_nonneg h0
  have hwne : R.width ≠ 0 := by omega
  clear K
  go_enter Try.func164, Try.ntmps164
  go_upto_region 1 with (fail)
  have B0 : Box (w.alloc (.cells #[.string R.name, .int .i64 R.width, .int .i64 R.height, vp, vs, .bool R.falls, .bool R.keeps, ve, .int .i64 R.blocked, .int .i64 R.quiet, .int .i64 R.rept] 26)) (w.heap.size) [.string R.name, .int .i64 R.width, .int .i64 R.height, vp, vs, .bool R.falls, .bool R.keeps, ve, .int .i64 R.blocked, .int .i64 R.quiet, .int .i64 R.rept] 26 := (Box.new' w (w.heap.size) [.string R.name, .int .i64 R.width, .int .i64 R.height, vp, vs, .bool R.falls, .bool R.keeps, ve, .int .i64 R.blocked, .int .i64 R.quiet, .int .i64 R.rept] 26 (by simp <;> omega))
  have HB : Hid (Below w.heap.size w (w.alloc (.cells #[.string R.name, .int .i64 R.width, .int .i64 R.height, vp, vs, .bool R.falls, .bool R.keeps, ve, .int .i64 R.blocked, .int .i64 R.quiet, .int .i64 R.rept] 26))) := Lib.hid ((Below.refl w.heap.size w).alloc (Nat.le_refl _) _)
  have hz0 : w.heap.size < (w.alloc (.cells #[.string R.name, .int .i64 R.width, .int .i64 R.height, vp, vs, .bool R.falls, .bool R.keeps, ve, .int .i64 R.blocked, .int .i64 R.quiet, .int .i64 R.rept] 26)).heap.size := by simp
  generalize (w.alloc (.cells #[.string R.name, .int .i64 R.width, .int .i64 R.height, vp, vs, .bool R.falls, .bool R.keeps, ve, .int .i64 R.blocked, .int .i64 R.quiet, .int .i64 R.rept] 26)) = w0 at *
  have HX := Lib.hid B0
  clear B0
  have q1 := HX.out.cell 1 rfl
  generalize n / R.width = z at *
  go_wp2_with fail
  go_ret
  exact ⟨by rw [HD.out]; rfl, HB.out⟩

set_option maxRecDepth 100000 in
theorem square_any (R : RulesZ) (vp vs ve : Value) (n : Int) (w : World) (K : ROk R) (h0 : 0 ≤ n) (h1 : n < R.width * R.height) :
    Calls Try.prog 128 #[(.agg #[.string R.name, .int .i64 R.width, .int .i64 R.height, vp, vs, .bool R.falls, .bool R.keeps, ve, .int .i64 R.blocked, .int .i64 R.quiet, .int .i64 R.rept]), .int .i64 n] w fun e w' => e = .returned (.string (sqT R n)) ∧ Below w.heap.size w w' := by
  have HD : Hid (sqT R n = colT R n ++ rowT R n) := Lib.hid rfl
  have z1 : (colT R n).size = 1 := by rw [← bts_size, colT_bts K h0 h1]; rfl
  have z2 : (rowT R n).size = 1 := by rw [← bts_size, rowT_bts K h0 h1]; rfl
  have HK := Lib.hid K
  clear K
  go_enter Try.func128, Try.ntmps128
  go_upto_region 1 with (fail)
  have B0 : Box (w.alloc (.cells #[.string R.name, .int .i64 R.width, .int .i64 R.height, vp, vs, .bool R.falls, .bool R.keeps, ve, .int .i64 R.blocked, .int .i64 R.quiet, .int .i64 R.rept] 26)) (w.heap.size) [.string R.name, .int .i64 R.width, .int .i64 R.height, vp, vs, .bool R.falls, .bool R.keeps, ve, .int .i64 R.blocked, .int .i64 R.quiet, .int .i64 R.rept] 26 := (Box.new' w (w.heap.size) [.string R.name, .int .i64 R.width, .int .i64 R.height, vp, vs, .bool R.falls, .bool R.keeps, ve, .int .i64 R.blocked, .int .i64 R.quiet, .int .i64 R.rept] 26 (by simp <;> omega))
  have HB : Hid (Below w.heap.size w (w.alloc (.cells #[.string R.name, .int .i64 R.width, .int .i64 R.height, vp, vs, .bool R.falls, .bool R.keeps, ve, .int .i64 R.blocked, .int .i64 R.quiet, .int .i64 R.rept] 26))) := Lib.hid ((Below.refl w.heap.size w).alloc (Nat.le_refl _) _)
  have hz0 : w.heap.size < (w.alloc (.cells #[.string R.name, .int .i64 R.width, .int .i64 R.height, vp, vs, .bool R.falls, .bool R.keeps, ve, .int .i64 R.blocked, .int .i64 R.quiet, .int .i64 R.rept] 26)).heap.size := by simp
  generalize (w.alloc (.cells #[.string R.name, .int .i64 R.width, .int .i64 R.height, vp, vs, .bool R.falls, .bool R.keeps, ve, .int .i64 R.blocked, .int .i64 R.quiet, .int .i64 R.rept] 26)) = w0 at *
  have Bz : Box w0.drew w.heap.size [.string R.name, .int .i64 R.width, .int .i64 R.height, vp, vs, .bool R.falls, .bool R.keeps, ve, .int .i64 R.blocked, .int .i64 R.quiet, .int .i64 R.rept] 26 := B0
  have Lz : Below w.heap.size w w0.drew := below_drew' HB.out
  clear B0 HB hz0
  refine wp_region_noPanic ?_
  refine beginL (S := (fun w' => w'.cell? ⟨w.heap.size, 0, none⟩ = some (.string R.name) ∧ w'.cell? ⟨w.heap.size, 1, none⟩ = some (.int .i64 R.width) ∧ w'.cell? ⟨w.heap.size, 2, none⟩ = some (.int .i64 R.height) ∧ w'.cell? ⟨w.heap.size, 3, none⟩ = some vp ∧ w'.cell? ⟨w.heap.size, 4, none⟩ = some vs ∧ w'.cell? ⟨w.heap.size, 5, none⟩ = some (.bool R.falls) ∧ w'.cell? ⟨w.heap.size, 6, none⟩ = some (.bool R.keeps) ∧ w'.cell? ⟨w.heap.size, 7, none⟩ = some ve ∧ w'.cell? ⟨w.heap.size, 8, none⟩ = some (.int .i64 R.blocked) ∧ w'.cell? ⟨w.heap.size, 9, none⟩ = some (.int .i64 R.quiet) ∧ w'.cell? ⟨w.heap.size, 10, none⟩ = some (.int .i64 R.rept))) (L := []) (by kernel_rfl) ⟨Bz.cell 0 rfl, Bz.cell 1 rfl, Bz.cell 2 rfl, Bz.cell 3 rfl, Bz.cell 4 rfl, Bz.cell 5 rfl, Bz.cell 6 rfl, Bz.cell 7 rfl, Bz.cell 8 rfl, Bz.cell 9 rfl, Bz.cell 10 rfl⟩ (fun hHeld => ?_)
  refine takeL (i := 0) (oi := { dst := some 5, op := Op.load 26 (Operand.tmp 2), type := 26, pos := "movetext.go:21", after := #[], guard := none }) (v := ?va1) rfl (by kernel_rfl) (by kernel_rfl) (by kernel_rfl) (by kernel_rfl) rfl (by kernel_rfl) (by kernel_rfl) (fun _ _ _ h => h) (Or.inl ⟨by rfl, ?ya1⟩) (by assumption) ?ra1
  case ya1 => (intro w hSw; (try dsimp only at hSw); go_simp; first | done | (with_reducible rfl))
  try simp only [Act.put, List.setIfInBounds_toArray, List.set_cons_zero, List.set_cons_succ]
  refine takeW (i := 1) (oi := { dst := some 6, op := Op.move (Operand.tmp 1), type := 3, pos := "movetext.go:21", after := #[], guard := none }) (v := ?va2) rfl (by kernel_rfl) (by kernel_rfl) (by kernel_rfl) rfl (fun _ _ _ h => h) (Or.inl ⟨by rfl, ?ya2⟩) (fun _ => by assumption) ?ra2
  case ya2 => (intro w _; go_simp; first | done | (with_reducible rfl) | (rw [if_neg (by omega)]))
  try simp only [Act.put, List.setIfInBounds_toArray, List.set_cons_zero, List.set_cons_succ]
  refine takeL (i := 3) (oi := { dst := some 8, op := Op.load 26 (Operand.tmp 2), type := 26, pos := "movetext.go:21", after := #[], guard := none }) (v := ?va3) rfl (by kernel_rfl) (by kernel_rfl) (by kernel_rfl) (by kernel_rfl) rfl (by kernel_rfl) (by kernel_rfl) (fun _ _ _ h => h) (Or.inl ⟨by rfl, ?ya3⟩) (by assumption) ?ra3
  case ya3 => (intro w hSw; (try dsimp only at hSw); go_simp; first | done | (with_reducible rfl))
  try simp only [Act.put, List.setIfInBounds_toArray, List.set_cons_zero, List.set_cons_succ]
  refine takeW (i := 4) (oi := { dst := some 9, op := Op.move (Operand.tmp 1), type := 3, pos := "movetext.go:21", after := #[], guard := none }) (v := ?va4) rfl (by kernel_rfl) (by kernel_rfl) (by kernel_rfl) rfl (fun _ _ _ h => h) (Or.inl ⟨by rfl, ?ya4⟩) (fun _ => by assumption) ?ra4
  case ya4 => (intro w _; go_simp; first | done | (with_reducible rfl) | (rw [if_neg (by omega)]))
  try simp only [Act.put, List.setIfInBounds_toArray, List.set_cons_zero, List.set_cons_succ]
  refine readyL (rs := [2]) (by kernel_rfl) (by simp) ?_
  refine (AllReadyL.cons (o := { dst := some 7, op := Op.call { callee := Callee.value (Operand.func 163), args := #[Operand.tmp 5, Operand.tmp 6], argTypes := #[26, 3] }, type := 9, pos := "movetext.go:21", after := #[{ on := 0, ground := Ground.data }, { on := 1, ground := Ground.data }], guard := none }) rfl (fun K hK => ?_) AllReadyL.nil)
  go_simp
  refine (column_any R vp vs ve n _ HK.out h0 h1).mono ?_
  rintro e w2 ⟨rfl, hb2⟩
  have B2 := Bz.stays hb2
  have L2 := below_trans Lz hb2 Lz.size
  clear hb2
  refine hK.out _ _ ⟨B2.cell 0 rfl, B2.cell 1 rfl, B2.cell 2 rfl, B2.cell 3 rfl, B2.cell 4 rfl, B2.cell 5 rfl, B2.cell 6 rfl, B2.cell 7 rfl, B2.cell 8 rfl, B2.cell 9 rfl, B2.cell 10 rfl⟩ (fun hHeld => ?_)
  clear hK K
  try simp only [Act.put, List.setIfInBounds_toArray, List.set_cons_zero, List.set_cons_succ]
  refine readyL (rs := [5]) (by kernel_rfl) (by simp) ?_
  refine (AllReadyL.cons (o := { dst := some 10, op := Op.call { callee := Callee.value (Operand.func 164), args := #[Operand.tmp 8, Operand.tmp 9], argTypes := #[26, 3] }, type := 9, pos := "movetext.go:21", after := #[{ on := 3, ground := Ground.data }, { on := 4, ground := Ground.data }, { on := 2, ground := Ground.chain }], guard := none }) rfl (fun K hK => ?_) AllReadyL.nil)
  go_simp
  refine (row_any R vp vs ve n _ HK.out h0 h1).mono ?_
  rintro e w5 ⟨rfl, hb5⟩
  have B5 := B2.stays hb5
  have L5 := below_trans L2 hb5 L2.size
  clear hb5
  refine hK.out _ _ ⟨B5.cell 0 rfl, B5.cell 1 rfl, B5.cell 2 rfl, B5.cell 3 rfl, B5.cell 4 rfl, B5.cell 5 rfl, B5.cell 6 rfl, B5.cell 7 rfl, B5.cell 8 rfl, B5.cell 9 rfl, B5.cell 10 rfl⟩ (fun hHeld => ?_)
  clear hK K
  try simp only [Act.put, List.setIfInBounds_toArray, List.set_cons_zero, List.set_cons_succ]
  refine takeW (i := 6) (oi := { dst := some 11, op := Op.binOp BinOp.add 9 (Operand.tmp 7) (Operand.tmp 10) 9, type := 9, pos := "movetext.go:21", after := #[{ on := 2, ground := Ground.data }, { on := 5, ground := Ground.data }], guard := none }) (v := ?va5) rfl (by kernel_rfl) (by kernel_rfl) (by kernel_rfl) rfl (fun _ _ _ h => h) (Or.inl ⟨by rfl, ?ya5⟩) (fun _ => by assumption) ?ra5
  case ya5 => (intro w _; go_simp; first | done | (with_reducible rfl) | (rw [if_neg (by omega)]))
  try simp only [Act.put, List.setIfInBounds_toArray, List.set_cons_zero, List.set_cons_succ]
  refine takeW (i := 7) (oi := { dst := some 4, op := Op.assign (Operand.tmp 11), type := 9, pos := "movetext.go:21", after := #[{ on := 6, ground := Ground.data }, { on := 5, ground := Ground.chain }, { on := 0, ground := Ground.phase }, { on := 1, ground := Ground.phase }, { on := 2, ground := Ground.phase }, { on := 3, ground := Ground.phase }, { on := 4, ground := Ground.phase }, { on := 5, ground := Ground.phase }, { on := 6, ground := Ground.phase }], guard := none }) (v := ?va6) rfl (by kernel_rfl) (by kernel_rfl) (by kernel_rfl) rfl (fun _ _ _ h => h) (Or.inl ⟨by rfl, ?ya6⟩) (fun _ => by assumption) ?ra6
  case ya6 => (intro w _; go_simp; first | done | (with_reducible rfl) | (rw [if_neg (by omega)]))
  try simp only [Act.put, List.setIfInBounds_toArray, List.set_cons_zero, List.set_cons_succ]
  refine doneL (by kernel_rfl) ?_ _
  refine NoPanic.normal ?_
  have HL := Lib.hid L5
  clear hHeld B2 L2 B5 L5 Bz Lz
  go_wp2_with fail
  go_ret
  exact ⟨by rw [HD.out]; rfl, HL.out⟩

set_option maxRecDepth 100000 in
theorem letter_any (R : RulesZ) (vp vs ve : Value) (k : Int) (w : World) (hr : RdL pieceEl w vp R.pieces) (K : ROk R) (L : LetOk R) (h0 : 0 ≤ k) (h1 : k < R.pieces.length) :
    Calls Try.prog 127 #[(.agg #[.string R.name, .int .i64 R.width, .int .i64 R.height, vp, vs, .bool R.falls, .bool R.keeps, ve, .int .i64 R.blocked, .int .i64 R.quiet, .int .i64 R.rept]), .int .i64 k] w fun e w' => e = .returned (.string (letT R k)) ∧ Below w.heap.size w w' := by
  have HD : Hid (letT R k = Utf8.encode (R.pieces.getD k.toNat default).letter) := Lib.hid rfl
  have HR := Lib.hid hr
  obtain ⟨np1, np2⟩ := K.np
  obtain ⟨l1, l2⟩ := L.rg k.toNat (by omega)
  obtain ⟨a, c, rfl, hl1, hl2⟩ := hr.form
  unfold maxLen at hl2
  clear hr K L
  go_enter Try.func127, Try.ntmps127
  go_upto_region 1 with (fail)
  have B0 : Box (w.alloc (.cells #[.string R.name, .int .i64 R.width, .int .i64 R.height, (.slice a R.pieces.length c), vs, .bool R.falls, .bool R.keeps, ve, .int .i64 R.blocked, .int .i64 R.quiet, .int .i64 R.rept] 26)) (w.heap.size) [.string R.name, .int .i64 R.width, .int .i64 R.height, (.slice a R.pieces.length c), vs, .bool R.falls, .bool R.keeps, ve, .int .i64 R.blocked, .int .i64 R.quiet, .int .i64 R.rept] 26 := (Box.new' w (w.heap.size) [.string R.name, .int .i64 R.width, .int .i64 R.height, (.slice a R.pieces.length c), vs, .bool R.falls, .bool R.keeps, ve, .int .i64 R.blocked, .int .i64 R.quiet, .int .i64 R.rept] 26 (by simp <;> omega))
  have HB : Hid (Below w.heap.size w (w.alloc (.cells #[.string R.name, .int .i64 R.width, .int .i64 R.height, (.slice a R.pieces.length c), vs, .bool R.falls, .bool R.keeps, ve, .int .i64 R.blocked, .int .i64 R.quiet, .int .i64 R.rept] 26))) := Lib.hid ((Below.refl w.heap.size w).alloc (Nat.le_refl _) _)
  have hz0 : w.heap.size < (w.alloc (.cells #[.string R.name, .int .i64 R.width, .int .i64 R.height, (.slice a R.pieces.length c), vs, .bool R.falls, .bool R.keeps, ve, .int .i64 R.blocked, .int .i64 R.quiet, .int .i64 R.rept] 26)).heap.size := by simp
  generalize (w.alloc (.cells #[.string R.name, .int .i64 R.width, .int .i64 R.height, (.slice a R.pieces.length c), vs, .bool R.falls, .bool R.keeps, ve, .int .i64 R.blocked, .int .i64 R.quiet, .int .i64 R.rept] 26)) = w0 at *
  have HX := Lib.hid B0
  clear B0
  have q3 := HX.out.cell 3 rfl
  obtain ⟨gp, op, rfl, hgp, hpc⟩ := pieces_some (HR.out.below HB.out (Nat.le_refl _)) (by omega)
  obtain ⟨vw, c0, -, -, -, -⟩ := hpc k.toNat (by omega)
  clear hpc
  generalize (R.pieces.getD k.toNat default).letter = z at *
  go_wp2_with fail
  go_ret
  exact ⟨by rw [HD.out]; rfl, HB.out⟩

theorem info_intM : (Try.prog.info? 3).map (fun i => (i.zero, i.size, i.bytes)) = some (some (.int .i64 0), 1, 8) := by kernel_rfl
theorem riv_succ (p : PosZ) (l : List MoveZ) (m : MoveZ) (k : Nat) (h : k < l.length) : rivals p (l.take (k + 1)) m = rivals p (l.take k) m ++ (if rivB p m (l.getD k default) = true then [(l.getD k default).src] else []) := by
  unfold rivals
  rw [List.take_succ_eq_append_getElem h, List.filter_append, List.map_append, List.getD_eq_getElem?_getD, List.getElem?_eq_getElem h]
  congr 1
  simp only [List.filter_cons, List.filter_nil, Option.getD_some]
  split <;> simp
theorem riv_len (p : PosZ) (l : List MoveZ) (m : MoveZ) : (rivals p l m).length ≤ l.length := by
  unfold rivals
  rw [List.length_map]
  exact List.length_filter_le _ _
theorem riv_pos (p : PosZ) (l : List MoveZ) (m : MoveZ) (hl : ∀ x ∈ l, x.src < p.cells.length) : ∀ z ∈ rivals p l m, 0 ≤ z ∧ z < p.cells.length := by
  intro z hz
  unfold rivals at hz
  obtain ⟨x, hx, rfl⟩ := List.mem_map.1 hz
  have := (List.mem_filter.1 hx).2
  unfold rivB at this
  simp only [Bool.and_eq_true, decide_eq_true_eq] at this
  exact ⟨this.1.1.1, hl x (List.mem_filter.1 hx).1⟩
theorem callMk2 (args : Array Value) (w : World) : (callFunc 166 args).run Try.prog w = .ok (.enter 166 args) w := by kernel_rfl
theorem callMk3 (args : Array Value) (w : World) : (callFunc 167 args).run Try.prog w = .ok (.enter 167 args) w := by kernel_rfl
theorem mk2_any (R : RulesZ) (vp vs ve : Value) (m : MoveZ) (z : Int) (b0 b2 : Nat) (w : World) (B0 : Box w b0 [.string R.name, .int .i64 R.width, .int .i64 R.height, vp, vs, .bool R.falls, .bool R.keeps, ve, .int .i64 R.blocked, .int .i64 R.quiet, .int .i64 R.rept] 26) (B2 : Box w b2 [.int .i64 m.src, .int .i64 m.dst, .int .i64 m.piece] 42) (hw : 1 ≤ R.width) (hz : 0 ≤ z) (hm : 0 ≤ m.src) :
    Calls Try.prog 166 (#[.int .i64 z] ++ #[.pointer (some ⟨b0, 0, none⟩), .pointer (some ⟨b2, 0, none⟩)]) w fun e w' => e = .returned (.bool (z % R.width == m.src % R.width)) ∧ Below w.heap.size w w' := by
  show Calls Try.prog 166 #[.int .i64 z, .pointer (some ⟨b0, 0, none⟩), .pointer (some ⟨b2, 0, none⟩)] w _
  have q1 := B0.cell 1 rfl
  have x0 := B2.cell 0 rfl
  have t1 : Int.tmod z R.width = z % R.width := Int.tmod_eq_emod_of_nonneg hz
  have t2 : Int.tmod m.src R.width = m.src % R.width := Int.tmod_eq_emod_of_nonneg hm
  have hwne : R.width ≠ 0 := by omega
  clear B0 B2
  go_enter Try.func166, Try.ntmps166
  go_upto_region 1 with (fail)
  go_quiet (fail)
  go_wp2_with fail
  go_ret
  exact ⟨rfl, below_drewN (Below.refl _ _) _⟩
theorem mk3_any (R : RulesZ) (vp vs ve : Value) (m : MoveZ) (z : Int) (b0 b2 : Nat) (w : World) (B0 : Box w b0 [.string R.name, .int .i64 R.width, .int .i64 R.height, vp, vs, .bool R.falls, .bool R.keeps, ve, .int .i64 R.blocked, .int .i64 R.quiet, .int .i64 R.rept] 26) (B2 : Box w b2 [.int .i64 m.src, .int .i64 m.dst, .int .i64 m.piece] 42) (hw : 1 ≤ R.width) (hz : 0 ≤ z) (hz2 : z ≤ 1000) (hm : 0 ≤ m.src) (hm2 : m.src ≤ 1000) :
    Calls Try.prog 167 (#[.int .i64 z] ++ #[.pointer (some ⟨b0, 0, none⟩), .pointer (some ⟨b2, 0, none⟩)]) w fun e w' => e = .returned (.bool (z / R.width == m.src / R.width)) ∧ Below w.heap.size w w' := by
  show Calls Try.prog 167 #[.int .i64 z, .pointer (some ⟨b0, 0, none⟩), .pointer (some ⟨b2, 0, none⟩)] w _
  have q1 := B0.cell 1 rfl
  have x0 := B2.cell 0 rfl
  have t1 : Int.tdiv z R.width = z / R.width := Int.tdiv_eq_ediv_of_nonneg hz
  have t2 : Int.tdiv m.src R.width = m.src / R.width := Int.tdiv_eq_ediv_of_nonneg hm
  have hwne : R.width ≠ 0 := by omega
  have d1 := Int.ediv_nonneg hz (show 0 ≤ R.width by omega)
  have d2 := Int.ediv_nonneg hm (show 0 ≤ R.width by omega)
  have d3 := Int.ediv_le_self R.width hz
  have d4 := Int.ediv_le_self R.width hm
  generalize z / R.width = zq at *
  generalize m.src / R.width = mq at *
  clear B0 B2
  go_enter Try.func167, Try.ntmps167
  go_upto_region 1 with (fail)
  go_quiet (fail)
  go_wp2_with fail
  go_ret
  exact ⟨rfl, below_drewN (Below.refl _ _) _⟩
theorem mk1_any (f : FuncId) (caps : Array Value) (p : Int → Bool) (v : Value) (zs : List Int) (rb : Nat) (w : World) (B : Box w rb [v] 23) (h : RdI w v zs) (hf : ∀ (args : Array Value) (w : World), (callFunc f args).run Try.prog w = .ok (.enter f args) w)
    (hc : ∀ (W : World) (z : Int), z ∈ zs → Below w.heap.size w W → Calls Try.prog f (#[.int .i64 z] ++ caps) W fun e w' => e = .returned (.bool (p z)) ∧ Below W.heap.size W w') :
    Calls Try.prog 165 #[.func (.func f) #[] caps, .pointer (some ⟨rb, 0, none⟩)] w fun e w' => e = .returned (.bool (zs.any p)) ∧ Below w.heap.size w w' := by
  have HC := Lib.hid (ContainsFuncW_any v zs p f caps w h hf hc)
  have q0 := B.cell 0 rfl
  obtain ⟨a, c, rfl, h1, h2⟩ := h.form
  clear h hf hc B
  go_enter Try.func165, Try.ntmps165
  go_wp2_with fail
  refine HC.out.mono ?_
  rintro e w1 ⟨rfl, hb1⟩
  have HB1 := Lib.hid hb1
  clear hb1
  go_wp2_with fail
  go_ret
  exact ⟨rfl, HB1.out⟩
set_option maxRecDepth 100000 in
set_option maxHeartbeats 8000000 in
theorem mark_any (R : RulesZ) (vp vs ve : Value) (p : PosZ) (vc v0 v1 : Value) (m : MoveZ) (v : Value) (l : List MoveZ) (w : World) (hp : RdI w vc p.cells) (hl : RdL moveEl w v l) (K : POk R p) (hlf : ∀ x ∈ l, x.src < p.cells.length) (hll : l.length ≤ 1000000) (hm : 0 ≤ m.src ∧ m.src < p.cells.length) :
    Calls Try.prog 129 #[(.agg #[.string R.name, .int .i64 R.width, .int .i64 R.height, vp, vs, .bool R.falls, .bool R.keeps, ve, .int .i64 R.blocked, .int .i64 R.quiet, .int .i64 R.rept]), (.agg #[vc, v0, v1, .int .i64 p.turn, .int .i64 p.quiet]), v, .agg #[.int .i64 m.src, .int .i64 m.dst, .int .i64 m.piece]] w fun e w' => e = .returned (.string (markT R p l m)) ∧ Below w.heap.size w w' := by
  have HD : Hid (markT R p l m = if (rivals p l m).length = 0 then ByteArray.empty
  else if (rivals p l m).any (fun n => n % R.width == m.src % R.width) = false then colT R m.src
  else if (rivals p l m).any (fun n => n / R.width == m.src / R.width) = false then rowT R m.src
  else sqT R m.src) := Lib.hid rfl
  have HP := Lib.hid hp
  have HL := Lib.hid hl
  have HK := Lib.hid K
  have HLF := Lib.hid hlf
  obtain ⟨hm0, hm1⟩ := hm
  have hm2 : m.src < R.width * R.height := by have := K.cl; omega
  have HM2 := Lib.hid hm2
  obtain ⟨ac, cc, rfl, hc1, hc2⟩ := hp.form
  obtain ⟨al, cl, rfl, hl1, hl2⟩ := hl.form
  unfold maxLen at hc2 hl2
  obtain ⟨hw1, hw2⟩ := K.r.w
  clear hp hl K hlf hm2
  go_enter Try.func129, Try.ntmps129
  go_upto_region 2 with (fail)
  have B0 : Box ((((w.alloc (.cells #[.string R.name, .int .i64 R.width, .int .i64 R.height, vp, vs, .bool R.falls, .bool R.keeps, ve, .int .i64 R.blocked, .int .i64 R.quiet, .int .i64 R.rept] 26)).alloc (.cells #[.slice ac p.cells.length cc, v0, v1, .int .i64 p.turn, .int .i64 p.quiet] 37)).alloc (.cells #[.int .i64 m.src, .int .i64 m.dst, .int .i64 m.piece] 42)).alloc (.cells #[.slice none 0 0] 23)) (w.heap.size) [.string R.name, .int .i64 R.width, .int .i64 R.height, vp, vs, .bool R.falls, .bool R.keeps, ve, .int .i64 R.blocked, .int .i64 R.quiet, .int .i64 R.rept] 26 := ((((Box.new' w (w.heap.size) [.string R.name, .int .i64 R.width, .int .i64 R.height, vp, vs, .bool R.falls, .bool R.keeps, ve, .int .i64 R.blocked, .int .i64 R.quiet, .int .i64 R.rept] 26 (by simp <;> omega)).alloc _).alloc _).alloc _)
  have B1 : Box ((((w.alloc (.cells #[.string R.name, .int .i64 R.width, .int .i64 R.height, vp, vs, .bool R.falls, .bool R.keeps, ve, .int .i64 R.blocked, .int .i64 R.quiet, .int .i64 R.rept] 26)).alloc (.cells #[.slice ac p.cells.length cc, v0, v1, .int .i64 p.turn, .int .i64 p.quiet] 37)).alloc (.cells #[.int .i64 m.src, .int .i64 m.dst, .int .i64 m.piece] 42)).alloc (.cells #[.slice none 0 0] 23)) (w.heap.size + 1) [.slice ac p.cells.length cc, v0, v1, .int .i64 p.turn, .int .i64 p.quiet] 37 := (((Box.new' (w.alloc (.cells #[.string R.name, .int .i64 R.width, .int .i64 R.height, vp, vs, .bool R.falls, .bool R.keeps, ve, .int .i64 R.blocked, .int .i64 R.quiet, .int .i64 R.rept] 26)) (w.heap.size + 1) [.slice ac p.cells.length cc, v0, v1, .int .i64 p.turn, .int .i64 p.quiet] 37 (by simp <;> omega)).alloc _).alloc _)
  have B2 : Box ((((w.alloc (.cells #[.string R.name, .int .i64 R.width, .int .i64 R.height, vp, vs, .bool R.falls, .bool R.keeps, ve, .int .i64 R.blocked, .int .i64 R.quiet, .int .i64 R.rept] 26)).alloc (.cells #[.slice ac p.cells.length cc, v0, v1, .int .i64 p.turn, .int .i64 p.quiet] 37)).alloc (.cells #[.int .i64 m.src, .int .i64 m.dst, .int .i64 m.piece] 42)).alloc (.cells #[.slice none 0 0] 23)) (w.heap.size + 1 + 1) [.int .i64 m.src, .int .i64 m.dst, .int .i64 m.piece] 42 := ((Box.new' ((w.alloc (.cells #[.string R.name, .int .i64 R.width, .int .i64 R.height, vp, vs, .bool R.falls, .bool R.keeps, ve, .int .i64 R.blocked, .int .i64 R.quiet, .int .i64 R.rept] 26)).alloc (.cells #[.slice ac p.cells.length cc, v0, v1, .int .i64 p.turn, .int .i64 p.quiet] 37)) (w.heap.size + 1 + 1) [.int .i64 m.src, .int .i64 m.dst, .int .i64 m.piece] 42 (by simp <;> omega)).alloc _)
  have B3 : Box ((((w.alloc (.cells #[.string R.name, .int .i64 R.width, .int .i64 R.height, vp, vs, .bool R.falls, .bool R.keeps, ve, .int .i64 R.blocked, .int .i64 R.quiet, .int .i64 R.rept] 26)).alloc (.cells #[.slice ac p.cells.length cc, v0, v1, .int .i64 p.turn, .int .i64 p.quiet] 37)).alloc (.cells #[.int .i64 m.src, .int .i64 m.dst, .int .i64 m.piece] 42)).alloc (.cells #[.slice none 0 0] 23)) (w.heap.size + 1 + 1 + 1) [.slice none 0 0] 23 := (Box.new' (((w.alloc (.cells #[.string R.name, .int .i64 R.width, .int .i64 R.height, vp, vs, .bool R.falls, .bool R.keeps, ve, .int .i64 R.blocked, .int .i64 R.quiet, .int .i64 R.rept] 26)).alloc (.cells #[.slice ac p.cells.length cc, v0, v1, .int .i64 p.turn, .int .i64 p.quiet] 37)).alloc (.cells #[.int .i64 m.src, .int .i64 m.dst, .int .i64 m.piece] 42)) (w.heap.size + 1 + 1 + 1) [.slice none 0 0] 23 (by simp <;> omega))
  have HB : Hid (Below w.heap.size w ((((w.alloc (.cells #[.string R.name, .int .i64 R.width, .int .i64 R.height, vp, vs, .bool R.falls, .bool R.keeps, ve, .int .i64 R.blocked, .int .i64 R.quiet, .int .i64 R.rept] 26)).alloc (.cells #[.slice ac p.cells.length cc, v0, v1, .int .i64 p.turn, .int .i64 p.quiet] 37)).alloc (.cells #[.int .i64 m.src, .int .i64 m.dst, .int .i64 m.piece] 42)).alloc (.cells #[.slice none 0 0] 23))) := Lib.hid (((((Below.refl w.heap.size w).alloc (Nat.le_refl _) _).alloc (by simp <;> omega) _).alloc (by simp <;> omega) _).alloc (by simp <;> omega) _)
  have hz0 : w.heap.size + 1 + 1 + 1 < ((((w.alloc (.cells #[.string R.name, .int .i64 R.width, .int .i64 R.height, vp, vs, .bool R.falls, .bool R.keeps, ve, .int .i64 R.blocked, .int .i64 R.quiet, .int .i64 R.rept] 26)).alloc (.cells #[.slice ac p.cells.length cc, v0, v1, .int .i64 p.turn, .int .i64 p.quiet] 37)).alloc (.cells #[.int .i64 m.src, .int .i64 m.dst, .int .i64 m.piece] 42)).alloc (.cells #[.slice none 0 0] 23)).heap.size := by simp
  generalize ((((w.alloc (.cells #[.string R.name, .int .i64 R.width, .int .i64 R.height, vp, vs, .bool R.falls, .bool R.keeps, ve, .int .i64 R.blocked, .int .i64 R.quiet, .int .i64 R.rept] 26)).alloc (.cells #[.slice ac p.cells.length cc, v0, v1, .int .i64 p.turn, .int .i64 p.quiet] 37)).alloc (.cells #[.int .i64 m.src, .int .i64 m.dst, .int .i64 m.piece] 42)).alloc (.cells #[.slice none 0 0] 23)) = w0 at *
  have HX := Lib.hid B0
  have HY := Lib.hid B1
  have HZ := Lib.hid B2
  have HV := Lib.hid B3
  clear B0 B1 B2 B3
  have hz0' : w.heap.size + 3 < w0.heap.size := by omega
  go_wp2_with fail
  go_loopw [15, 11] (fun vi a11 wr => ∃ (k : Nat) (vo : Value), k ≤ l.length ∧ vi = .int .i64 k ∧ Hid (Box wr (w.heap.size + 3) [vo] 23) ∧ Hid (wr.ownsRow (w.heap.size + 3 + 1) 3 1 vo (rivals p (l.take k) m).length (ints (rivals p (l.take k) m))) ∧ Hid (Below (w.heap.size + 3) w0 wr)) (fun i _ _ => l.length - (intOf i).toNat)
  case atStart => exact ⟨0, .slice none 0 0, Nat.zero_le _, rfl, HV, Lib.hid (World.ownsRow_nil _ _ _ _), Lib.hid (Below.refl _ _)⟩
  case round =>
    obtain ⟨k, vo, hk, rfl, HVr, HO, HBr⟩ := hrel
    have hsz := HBr.out.size
    have HXr := Lib.hid (HX.out.below HBr.out (by omega))
    have HYr := Lib.hid (HY.out.below HBr.out (by omega))
    have HZr := Lib.hid (HZ.out.below HBr.out (by omega))
    have HBw : Hid (Below w.heap.size w wr) := Lib.hid (HB.out.trans (HBr.out.mono (by omega)))
    by_cases hlt : k < l.length
    · have hrl : (rivals p (l.take k) m).length ≤ k := by
        have := riv_len p (l.take k) m
        rw [List.length_take] at this; omega
      obtain ⟨gl, ol, rfl, hgl, hcc⟩ := moves_some (HL.out.below HBw.out (Nat.le_refl _)) (by omega)
      obtain ⟨c0, c1, c2⟩ := hcc k hlt
      have hxs : (l.getD k default).src < p.cells.length := HLF.out _ (by rw [List.getD_eq_getElem?_getD, List.getElem?_eq_getElem hlt]; exact List.getElem_mem _)
      have HST := Lib.hid (riv_succ p l m k hlt)
      clear hcc
      generalize l.getD k default = x at *
      go_upto_region 5 with (fail)
      have HBm := Lib.hid (Box.new wr [.int .i64 x.src, .int .i64 x.dst, .int .i64 x.piece] 42)
      have hal := ((Below.refl wr.heap.size wr).alloc (Nat.le_refl _) (.cells #[.int .i64 x.src, .int .i64 x.dst, .int .i64 x.piece] 42))
      have HXx := Lib.hid (HXr.out.stays hal)
      have HYx := Lib.hid (HYr.out.stays hal)
      have HZx := Lib.hid (HZr.out.stays hal)
      have HVx := Lib.hid (HVr.out.stays hal)
      have HOx := Lib.hid (own_stays HO.out hal)
      have HBx := Lib.hid (below_trans HBr.out hal (by omega))
      have hzm : wr.heap.size < (wr.alloc (.cells #[.int .i64 x.src, .int .i64 x.dst, .int .i64 x.piece] 42)).heap.size := by simp
      clear c0 c1 c2 hal HXr HYr HZr HVr HO HBr HBw
      generalize (wr.alloc (.cells #[.int .i64 x.src, .int .i64 x.dst, .int .i64 x.piece] 42)) = wx at *
      have HBwx : Hid (Below w.heap.size w wx) := Lib.hid (HB.out.trans (HBx.out.mono (by omega)))
      have d0 := HBm.out.cell 0 rfl
      have d1 := HBm.out.cell 1 rfl
      have z0 := HZx.out.cell 0 rfl
      have z1 := HZx.out.cell 1 rfl
      have p0 := HYx.out.cell 0 rfl
      have rb0 := HVx.out.cell 0 rfl
      have rf0 := HVx.out.frozen 0
      have hrs : w.heap.size + 3 + 1 ≤ wx.heap.size := by have := HVx.out.lt; omega
      by_cases h0 : 0 ≤ x.src
      rotate_left
      · have HR : Hid (rivals p (l.take (k + 1)) m = rivals p (l.take k) m) := Lib.hid (by rw [HST.out, if_neg (by unfold rivB; simp [h0])]; simp)
        have hg : decide (0 ≤ x.src) = false := by simpa using h0
        clear HST
        go_quiet (fail)
        go_wp2_with fail
        go_roundw
        case rel => exact ⟨k + 1, vo, by omega, by go_num, HVx, by rw [HR.out]; exact HOx, Lib.hid (below_drewN HBx.out _)⟩
        case measure => simp [intOf]; omega
      have hg : decide (0 ≤ x.src) = true := by simpa using h0
      by_cases h1 : x.src = m.src
      · have HR : Hid (rivals p (l.take (k + 1)) m = rivals p (l.take k) m) := Lib.hid (by rw [HST.out, if_neg (by unfold rivB; simp [h1])]; simp)
        have hgb : (x.src != m.src) = false := by simpa using h1
        clear HST h1
        go_quiet (fail)
        go_wp2_with fail
        go_roundw
        case rel => exact ⟨k + 1, vo, by omega, by go_num, HVx, by rw [HR.out]; exact HOx, Lib.hid (below_drewN HBx.out _)⟩
        case measure => simp [intOf]; omega
      have hgb : (x.src != m.src) = true := by simpa using h1
      by_cases h2 : x.dst = m.dst
      rotate_left
      · have HR : Hid (rivals p (l.take (k + 1)) m = rivals p (l.take k) m) := Lib.hid (by rw [HST.out, if_neg (by unfold rivB; simp [h2])]; simp)
        have hgc : (x.dst == m.dst) = false := by simpa using h2
        clear HST h1 h2
        go_quiet (fail)
        go_wp2_with fail
        go_roundw
        case rel => exact ⟨k + 1, vo, by omega, by go_num, HVx, by rw [HR.out]; exact HOx, Lib.hid (below_drewN HBx.out _)⟩
        case measure => simp [intOf]; omega
      have hgc : (x.dst == m.dst) = true := by simpa using h2
      obtain ⟨gc, oc, rfl, hcc⟩ := cells_rd (HP.out.below HBwx.out (Nat.le_refl _)) (by omega)
      have e0 := hcc x.src.toNat (by omega)
      have e1 := hcc m.src.toNat (by omega)
      have HRB : Hid (rivB p m x = (p.cells.getD x.src.toNat 0 == p.cells.getD m.src.toNat 0)) := Lib.hid (by unfold rivB; simp [h0, h1, h2])
      clear hcc h1 h2
      generalize p.cells.getD x.src.toNat 0 = cx at *
      generalize p.cells.getD m.src.toNat 0 = cm at *
      by_cases h3 : cx = cm
      rotate_left
      · have HR : Hid (rivals p (l.take (k + 1)) m = rivals p (l.take k) m) := Lib.hid (by rw [HST.out, if_neg (by rw [HRB.out]; simp [h3])]; simp)
        have hgd : (cx == cm) = false := by simpa using h3
        clear HST h3 HRB
        go_quiet (fail)
        go_wp2_with fail
        go_roundw
        case rel => exact ⟨k + 1, vo, by omega, by go_num, HVx, by rw [HR.out]; exact HOx, Lib.hid (below_drewN HBx.out _)⟩
        case measure => simp [intOf]; omega
      have HR : Hid (rivals p (l.take (k + 1)) m = rivals p (l.take k) m ++ [x.src]) := Lib.hid (by rw [HST.out, if_pos (by rw [HRB.out]; simp [h3])])
      have hgd : (cx == cm) = true := by simpa using h3
      clear HST h3 HRB
      go_quiet (fail)
      obtain ⟨E, hE⟩ : ∃ E, rivals p (l.take k) m = E := ⟨_, rfl⟩
      rw [hE] at HOx HR hrl
      clear hE
      go_wp2_with (at_builtin; refine app_new 23 3 (.int .i64 0) 1 8 info_intM Try.underlying23 rfl (by decide) (by rfl) _ _ (by rfl) (w.heap.size + 3 + 1) _ E.length (ints E) [.int .i64 x.src] _ HOx.out hrs rfl one_int (by omega) (by omega) (by rfl) (by rfl) ?_)
      intro g5 cap5 w5 hown5 hk5 hg5
      have hb5 := hk5.below (Below.refl (w.heap.size + 3 + 1) _) (Nat.le_refl _)
      have HV5 : Hid (Box w5 (w.heap.size + 3) [vo] 23) := Lib.hid (Box.below (HVx.out.drewN _) hb5 (by omega))
      have hs5 : wx.heap.size ≤ w5.heap.size := hb5.size
      have r5 := HV5.out.cell 0 rfl
      have rf5 := HV5.out.frozen 0
      have HO5 := Lib.hid hown5
      have HB5 := Lib.hid ((below_drewN HBx.out _).trans (hb5.mono (by omega)))
      clear hown5 hk5 hg5 hb5 rb0 rf0 d0 d1 z0 z1 p0 e0 e1
      go_wp2_with fail
      have HV6 := Lib.hid (HV5.out.set 0 (.slice (some ⟨g5, 0, none⟩) (E.length + 1) cap5))
      have HO6 : Hid ((w5.setCell ⟨w.heap.size + 3, 0, none⟩ (.slice (some ⟨g5, 0, none⟩) (E.length + 1) cap5)).ownsRow (w.heap.size + 3 + 1) 3 1 (.slice (some ⟨g5, 0, none⟩) (E.length + 1) cap5) (rivals p (l.take (k + 1)) m).length (ints (rivals p (l.take (k + 1)) m))) := Lib.hid (by
        rw [HR.out, List.length_append, ← ints_append]
        exact ownsRow_setCell_below HO5.out (by simp) _)
      have HB6 := Lib.hid (HB5.out.setCell (Nat.le_refl _) (p := ⟨w.heap.size + 3, 0, none⟩) (.slice (some ⟨g5, 0, none⟩) (E.length + 1) cap5))
      go_roundw
      case rel => exact ⟨k + 1, _, by omega, by go_num, HV6, HO6, HB6⟩
      case measure => simp [intOf]; omega
    · obtain rfl : k = l.length := by omega
      have HOl : Hid (wr.ownsRow (w.heap.size + 3 + 1) 3 1 vo (rivals p l m).length (ints (rivals p l m))) := Lib.hid (by have := HO.out; rwa [List.take_of_length_le (Nat.le_refl _)] at this)
      have HRP := Lib.hid (riv_pos p l m HLF.out)
      have HI := Lib.hid (RdI.of_own HOl.out)
      obtain ⟨av, cv, rfl⟩ := own_form2 HOl.out
      have hrl := riv_len p l m
      have rb0 := HVr.out.cell 0 rfl
      have x0 := HZr.out.cell 0 rfl
      have HM1 := Lib.hid (mk1_any 166 #[.pointer (some ⟨w.heap.size, 0, none⟩), .pointer (some ⟨w.heap.size + 2, 0, none⟩)] (fun n => n % R.width == m.src % R.width) _ _ (w.heap.size + 3) wr HVr.out HI.out callMk2 (fun W z hz hW => mk2_any R vp vs ve m z _ _ W (HXr.out.stays hW) (HZr.out.stays hW) hw1 (HRP.out z hz).1 hm0))
      clear HO HOl
      generalize rivals p l m = rv at *
      by_cases h0 : rv.length = 0
      · have HE : Hid (markT R p l m = ByteArray.empty) := Lib.hid (by rw [HD.out, if_pos h0])
        have h0b : ((rv.length : Int) == 0) = true := by simp [h0]
        clear h0 HD
        go_wp2_with fail
        go_ret
        exact ⟨by rw [HE.out]; rfl, HBw.out⟩
      have HD1 : Hid (markT R p l m = if rv.any (fun n => n % R.width == m.src % R.width) = false then colT R m.src
        else if rv.any (fun n => n / R.width == m.src / R.width) = false then rowT R m.src else sqT R m.src) := Lib.hid (by rw [HD.out, if_neg h0])
      have h0b : ((rv.length : Int) == 0) = false := by simp; intro e; exact h0 (by rw [e]; rfl)
      clear h0 HD
      go_wp2_with fail
      refine HM1.out.mono ?_
      rintro e w1 ⟨rfl, hb1⟩
      have HBw1 := Lib.hid (below_trans HBw.out hb1 HBw.out.size)
      have HXr1 := Lib.hid (HXr.out.stays hb1)
      have HZr1 := Lib.hid (HZr.out.stays hb1)
      have HVr1 := Lib.hid (HVr.out.stays hb1)
      have HI1 := Lib.hid (HI.out.below hb1 (Nat.le_refl _))
      clear hb1 HM1 HBw HXr HZr HVr HI rb0 x0
      have rb0 := HVr1.out.cell 0 rfl
      have x0 := HZr1.out.cell 0 rfl
      have HM3 := Lib.hid (mk1_any 167 #[.pointer (some ⟨w.heap.size, 0, none⟩), .pointer (some ⟨w.heap.size + 2, 0, none⟩)] (fun n => n / R.width == m.src / R.width) _ _ (w.heap.size + 3) w1 HVr1.out HI1.out callMk3 (fun W z hz hW => mk3_any R vp vs ve m z _ _ W (HXr1.out.stays hW) (HZr1.out.stays hW) hw1 (HRP.out z hz).1 (by have := (HRP.out z hz).2; have := HK.out.len; omega) hm0 (by have := HK.out.len; omega)))
      rcases h1 : rv.any (fun n => n % R.width == m.src % R.width) with _ | _
      · have HE : Hid (markT R p l m = colT R m.src) := Lib.hid (by rw [HD1.out, if_pos h1])
        clear h1 HD1
        go_upto_region 12 with (fail)
        refine wp_region_lit ?_
        refine wpList_load_box (by rfl) 26 (.tmp 4) (by rfl) (w.heap.size) (by rfl) HXr1.out Try.underlying26 (by rfl) (by kernel_rfl) ?_
        go_wp2_with fail
        refine (column_any R vp vs ve m.src _ HK.out.r hm0 HM2.out).mono ?_
        rintro e w9 ⟨rfl, hb9⟩
        have HB2 := Lib.hid (below_trans HBw1.out hb9 HBw1.out.size)
        clear hb9
        go_wp2_with fail
        go_ret
        exact ⟨by rw [HE.out]; rfl, HB2.out⟩
      have HD2 : Hid (markT R p l m = if rv.any (fun n => n / R.width == m.src / R.width) = false then rowT R m.src else sqT R m.src) := Lib.hid (by rw [HD1.out, if_neg (by rw [h1]; decide)])
      clear h1 HD1
      go_wp2_with fail
      refine HM3.out.mono ?_
      rintro e w2 ⟨rfl, hb2⟩
      have HBw2 := Lib.hid (below_trans HBw1.out hb2 HBw1.out.size)
      have HXr2 := Lib.hid (HXr1.out.stays hb2)
      have HZr2 := Lib.hid (HZr1.out.stays hb2)
      clear hb2 HM3 HBw1 HXr1 HZr1 HVr1 HI1 rb0 x0
      have x0 := HZr2.out.cell 0 rfl
      rcases h2 : rv.any (fun n => n / R.width == m.src / R.width) with _ | _
      · have HE : Hid (markT R p l m = rowT R m.src) := Lib.hid (by rw [HD2.out, if_pos h2])
        clear h2 HD2
        go_upto_region 14 with (fail)
        refine wp_region_lit ?_
        refine wpList_load_box (by rfl) 26 (.tmp 4) (by rfl) (w.heap.size) (by rfl) HXr2.out Try.underlying26 (by rfl) (by kernel_rfl) ?_
        go_wp2_with fail
        refine (row_any R vp vs ve m.src _ HK.out.r hm0 HM2.out).mono ?_
        rintro e w9 ⟨rfl, hb9⟩
        have HB2 := Lib.hid (below_trans HBw2.out hb9 HBw2.out.size)
        clear hb9
        go_wp2_with fail
        go_ret
        exact ⟨by rw [HE.out]; rfl, HB2.out⟩
      · have HE : Hid (markT R p l m = sqT R m.src) := Lib.hid (by rw [HD2.out, if_neg (by rw [h2]; decide)])
        clear h2 HD2
        go_upto_region 15 with (fail)
        refine wp_region_lit ?_
        refine wpList_load_box (by rfl) 26 (.tmp 4) (by rfl) (w.heap.size) (by rfl) HXr2.out Try.underlying26 (by rfl) (by kernel_rfl) ?_
        go_wp2_with fail
        refine (square_any R vp vs ve m.src _ HK.out.r hm0 HM2.out).mono ?_
        rintro e w9 ⟨rfl, hb9⟩
        have HB2 := Lib.hid (below_trans HBw2.out hb9 HBw2.out.size)
        clear hb9
        go_wp2_with fail
        go_ret
        exact ⟨by rw [HE.out]; rfl, HB2.out⟩

end Go.Proofs.Ytkfaibdflbdpgaa
/- The contract of movetext.Of. -/
namespace Go.Proofs.Ytkfaibdflbdpgaa
open Go.ChangeShapes Go.WideShapes Go.ChangeAt Go.RowKit
set_option linter.unusedVariables false

theorem app_empty (b : ByteArray) : b ++ ByteArray.empty = b := by simp
theorem mark_size {R : RulesZ} {p : PosZ} (K : POk R p) (l : List MoveZ) (m : MoveZ) (h0 : 0 ≤ m.src) (h1 : m.src < R.width * R.height) : (markT R p l m).size ≤ 2 := by
  rw [← bts_size]
  rcases mark_cases K.r p l m h0 h1 with ⟨-, e⟩ | ⟨-, e⟩ | ⟨-, e⟩ | e <;> rw [e] <;> simp
/-- a move within the board, of a piece that is there. -/
structure OfOk (R : RulesZ) (p : PosZ) (m : MoveZ) : Prop where
  f : Fits R p m
  c : 0 ≤ m.src → p.cells.getD m.src.toNat 0 ≠ 0
set_option maxRecDepth 100000 in
set_option maxHeartbeats 8000000 in
theorem Of_any (R : RulesZ) (vp vs ve : Value) (p : PosZ) (vc v0 v1 : Value) (m : MoveZ) (v : Value) (l : List MoveZ) (w : World) (hr : RdL pieceEl w vp R.pieces) (hp : RdI w vc p.cells) (hl : RdL moveEl w v l) (K : POk R p) (L : LetOk R) (hlf : ∀ x ∈ l, x.src < p.cells.length) (hll : l.length ≤ 1000000) (F : OfOk R p m) :
    Calls Try.prog 73 #[(.agg #[.string R.name, .int .i64 R.width, .int .i64 R.height, vp, vs, .bool R.falls, .bool R.keeps, ve, .int .i64 R.blocked, .int .i64 R.quiet, .int .i64 R.rept]), (.agg #[vc, v0, v1, .int .i64 p.turn, .int .i64 p.quiet]), v, .agg #[.int .i64 m.src, .int .i64 m.dst, .int .i64 m.piece]] w fun e w' => e = .returned (.string (ofT R p l m)) ∧ Below w.heap.size w w' := by
  have HR := Lib.hid hr
  have HP0 := Lib.hid hp
  have HL := Lib.hid hl
  have HK := Lib.hid K
  have HLt := Lib.hid L
  have HLF := Lib.hid hlf
  obtain ⟨hd1, hd2⟩ := F.f.d
  obtain ⟨hk1, hk2⟩ := F.f.k
  obtain ⟨hs9, hs1⟩ := F.f.s
  have HFC := Lib.hid F.c
  have HD2 : Hid (m.dst < R.width * R.height) := Lib.hid (by have := K.cl; omega)
  have z1 : (sqT R m.dst).size = 2 := by rw [← bts_size, sqT_bts K.r hd1 HD2.out]; rfl
  have z2 : (letT R m.piece).size = 1 := by rw [← bts_size, letT_bts L hk1 hk2]; rfl
  obtain ⟨ac, cc, rfl, hc1, hc2⟩ := hp.form
  obtain ⟨al, cl, rfl, hl1, hl2⟩ := hl.form
  obtain ⟨gc, oc, rfl, -⟩ := cells_rd hp (by omega)
  have HP := Lib.hid HP0.out
  unfold maxLen at hc2 hl2
  clear hr hp hl K L hlf F HP0
  go_enter Try.func73, Try.ntmps73
  go_upto_region 1 with (fail)
  have B0 : Box (((w.alloc (.cells #[.string R.name, .int .i64 R.width, .int .i64 R.height, vp, vs, .bool R.falls, .bool R.keeps, ve, .int .i64 R.blocked, .int .i64 R.quiet, .int .i64 R.rept] 26)).alloc (.cells #[.slice (some ⟨gc, oc, none⟩) p.cells.length cc, v0, v1, .int .i64 p.turn, .int .i64 p.quiet] 37)).alloc (.cells #[.int .i64 m.src, .int .i64 m.dst, .int .i64 m.piece] 42)) (w.heap.size) [.string R.name, .int .i64 R.width, .int .i64 R.height, vp, vs, .bool R.falls, .bool R.keeps, ve, .int .i64 R.blocked, .int .i64 R.quiet, .int .i64 R.rept] 26 := (((Box.new' w (w.heap.size) [.string R.name, .int .i64 R.width, .int .i64 R.height, vp, vs, .bool R.falls, .bool R.keeps, ve, .int .i64 R.blocked, .int .i64 R.quiet, .int .i64 R.rept] 26 (by simp <;> omega)).alloc _).alloc _)
  have B1 : Box (((w.alloc (.cells #[.string R.name, .int .i64 R.width, .int .i64 R.height, vp, vs, .bool R.falls, .bool R.keeps, ve, .int .i64 R.blocked, .int .i64 R.quiet, .int .i64 R.rept] 26)).alloc (.cells #[.slice (some ⟨gc, oc, none⟩) p.cells.length cc, v0, v1, .int .i64 p.turn, .int .i64 p.quiet] 37)).alloc (.cells #[.int .i64 m.src, .int .i64 m.dst, .int .i64 m.piece] 42)) (w.heap.size + 1) [.slice (some ⟨gc, oc, none⟩) p.cells.length cc, v0, v1, .int .i64 p.turn, .int .i64 p.quiet] 37 := ((Box.new' (w.alloc (.cells #[.string R.name, .int .i64 R.width, .int .i64 R.height, vp, vs, .bool R.falls, .bool R.keeps, ve, .int .i64 R.blocked, .int .i64 R.quiet, .int .i64 R.rept] 26)) (w.heap.size + 1) [.slice (some ⟨gc, oc, none⟩) p.cells.length cc, v0, v1, .int .i64 p.turn, .int .i64 p.quiet] 37 (by simp <;> omega)).alloc _)
  have B2 : Box (((w.alloc (.cells #[.string R.name, .int .i64 R.width, .int .i64 R.height, vp, vs, .bool R.falls, .bool R.keeps, ve, .int .i64 R.blocked, .int .i64 R.quiet, .int .i64 R.rept] 26)).alloc (.cells #[.slice (some ⟨gc, oc, none⟩) p.cells.length cc, v0, v1, .int .i64 p.turn, .int .i64 p.quiet] 37)).alloc (.cells #[.int .i64 m.src, .int .i64 m.dst, .int .i64 m.piece] 42)) (w.heap.size + 1 + 1) [.int .i64 m.src, .int .i64 m.dst, .int .i64 m.piece] 42 := (Box.new' ((w.alloc (.cells #[.string R.name, .int .i64 R.width, .int .i64 R.height, vp, vs, .bool R.falls, .bool R.keeps, ve, .int .i64 R.blocked, .int .i64 R.quiet, .int .i64 R.rept] 26)).alloc (.cells #[.slice (some ⟨gc, oc, none⟩) p.cells.length cc, v0, v1, .int .i64 p.turn, .int .i64 p.quiet] 37)) (w.heap.size + 1 + 1) [.int .i64 m.src, .int .i64 m.dst, .int .i64 m.piece] 42 (by simp <;> omega))
  have HB : Hid (Below w.heap.size w (((w.alloc (.cells #[.string R.name, .int .i64 R.width, .int .i64 R.height, vp, vs, .bool R.falls, .bool R.keeps, ve, .int .i64 R.blocked, .int .i64 R.quiet, .int .i64 R.rept] 26)).alloc (.cells #[.slice (some ⟨gc, oc, none⟩) p.cells.length cc, v0, v1, .int .i64 p.turn, .int .i64 p.quiet] 37)).alloc (.cells #[.int .i64 m.src, .int .i64 m.dst, .int .i64 m.piece] 42))) := Lib.hid ((((Below.refl w.heap.size w).alloc (Nat.le_refl _) _).alloc (by simp <;> omega) _).alloc (by simp <;> omega) _)
  have hz0 : w.heap.size + 1 + 1 < (((w.alloc (.cells #[.string R.name, .int .i64 R.width, .int .i64 R.height, vp, vs, .bool R.falls, .bool R.keeps, ve, .int .i64 R.blocked, .int .i64 R.quiet, .int .i64 R.rept] 26)).alloc (.cells #[.slice (some ⟨gc, oc, none⟩) p.cells.length cc, v0, v1, .int .i64 p.turn, .int .i64 p.quiet] 37)).alloc (.cells #[.int .i64 m.src, .int .i64 m.dst, .int .i64 m.piece] 42)).heap.size := by simp
  generalize (((w.alloc (.cells #[.string R.name, .int .i64 R.width, .int .i64 R.height, vp, vs, .bool R.falls, .bool R.keeps, ve, .int .i64 R.blocked, .int .i64 R.quiet, .int .i64 R.rept] 26)).alloc (.cells #[.slice (some ⟨gc, oc, none⟩) p.cells.length cc, v0, v1, .int .i64 p.turn, .int .i64 p.quiet] 37)).alloc (.cells #[.int .i64 m.src, .int .i64 m.dst, .int .i64 m.piece] 42)) = w0 at *
  have HX := Lib.hid B0
  have HY := Lib.hid B1
  have HZ := Lib.hid B2
  clear B0 B1 B2
  have m0 := HZ.out.cell 0 rfl
  by_cases hs0 : 0 ≤ m.src
  rotate_left
  · have HOF : Hid (ofT R p l m = (letT R m.piece ++ ⟨#[64]⟩) ++ sqT R m.dst) := Lib.hid (by unfold ofT; rw [if_pos (by omega)])
    have z3 : (⟨#[64]⟩ : ByteArray).size = 1 := rfl
    have z4 : (letT R m.piece ++ ⟨#[64]⟩ : ByteArray).size = 2 := by rw [ByteArray.size_append, z2]; rfl
    go_upto_region 2 with (fail)
    have Bz : Box w0.drew w.heap.size [.string R.name, .int .i64 R.width, .int .i64 R.height, vp, vs, .bool R.falls, .bool R.keeps, ve, .int .i64 R.blocked, .int .i64 R.quiet, .int .i64 R.rept] 26 := HX.out
    have Pz : Box w0.drew (w.heap.size + 1) [.slice (some ⟨gc, oc, none⟩) p.cells.length cc, v0, v1, .int .i64 p.turn, .int .i64 p.quiet] 37 := HY.out
    have Mz : Box w0.drew (w.heap.size + 2) [.int .i64 m.src, .int .i64 m.dst, .int .i64 m.piece] 42 := HZ.out
    have Lz : Below w.heap.size w w0.drew := below_drew' HB.out
    clear HX HY HZ HB m0 hs0 hs9 hz0
    refine wp_region_noPanic ?_
    refine beginL (S := (fun w' => w'.cell? ⟨w.heap.size, 0, none⟩ = some (.string R.name) ∧ w'.cell? ⟨w.heap.size, 1, none⟩ = some (.int .i64 R.width) ∧ w'.cell? ⟨w.heap.size, 2, none⟩ = some (.int .i64 R.height) ∧ w'.cell? ⟨w.heap.size, 3, none⟩ = some vp ∧ w'.cell? ⟨w.heap.size, 4, none⟩ = some vs ∧ w'.cell? ⟨w.heap.size, 5, none⟩ = some (.bool R.falls) ∧ w'.cell? ⟨w.heap.size, 6, none⟩ = some (.bool R.keeps) ∧ w'.cell? ⟨w.heap.size, 7, none⟩ = some ve ∧ w'.cell? ⟨w.heap.size, 8, none⟩ = some (.int .i64 R.blocked) ∧ w'.cell? ⟨w.heap.size, 9, none⟩ = some (.int .i64 R.quiet) ∧ w'.cell? ⟨w.heap.size, 10, none⟩ = some (.int .i64 R.rept) ∧ w'.cell? ⟨w.heap.size + 1, 0, none⟩ = some (.slice (some ⟨gc, oc, none⟩) p.cells.length cc) ∧ w'.cell? ⟨w.heap.size + 1, 1, none⟩ = some v0 ∧ w'.cell? ⟨w.heap.size + 1, 2, none⟩ = some v1 ∧ w'.cell? ⟨w.heap.size + 1, 3, none⟩ = some (.int .i64 p.turn) ∧ w'.cell? ⟨w.heap.size + 1, 4, none⟩ = some (.int .i64 p.quiet) ∧ w'.cell? ⟨w.heap.size + 2, 0, none⟩ = some (.int .i64 m.src) ∧ w'.cell? ⟨w.heap.size + 2, 1, none⟩ = some (.int .i64 m.dst) ∧ w'.cell? ⟨w.heap.size + 2, 2, none⟩ = some (.int .i64 m.piece))) (L := []) (by kernel_rfl) ⟨Bz.cell 0 rfl, Bz.cell 1 rfl, Bz.cell 2 rfl, Bz.cell 3 rfl, Bz.cell 4 rfl, Bz.cell 5 rfl, Bz.cell 6 rfl, Bz.cell 7 rfl, Bz.cell 8 rfl, Bz.cell 9 rfl, Bz.cell 10 rfl, Pz.cell 0 rfl, Pz.cell 1 rfl, Pz.cell 2 rfl, Pz.cell 3 rfl, Pz.cell 4 rfl, Mz.cell 0 rfl, Mz.cell 1 rfl, Mz.cell 2 rfl⟩ (fun hHeld => ?_)
    refine takeL (i := 0) (oi := { dst := some 14, op := Op.load 26 (Operand.tmp 4), type := 26, pos := "movetext.go:60", after := #[], guard := none }) (v := ?va1) rfl (by kernel_rfl) (by kernel_rfl) (by kernel_rfl) (by kernel_rfl) rfl (by kernel_rfl) (by kernel_rfl) (fun _ _ _ h => h) (Or.inl ⟨by rfl, ?ya1⟩) (by assumption) ?ra1
    case ya1 => (intro w hSw; (try dsimp only at hSw); go_simp; first | done | (with_reducible rfl))
    try simp only [Act.put, List.setIfInBounds_toArray, List.set_cons_zero, List.set_cons_succ]
    refine takeW (i := 1) (oi := { dst := some 15, op := Op.fieldAddr 42 (Operand.tmp 7) 2, type := 0, pos := "movetext.go:60", after := #[], guard := none }) (v := ?va2) rfl (by kernel_rfl) (by kernel_rfl) (by kernel_rfl) rfl (fun _ _ _ h => h) (Or.inl ⟨by rfl, ?ya2⟩) (fun _ => by assumption) ?ra2
    case ya2 => (intro w _; go_simp; first | done | (with_reducible rfl) | (rw [if_neg (by omega)]))
    try simp only [Act.put, List.setIfInBounds_toArray, List.set_cons_zero, List.set_cons_succ]
    refine takeL (i := 5) (oi := { dst := some 19, op := Op.load 26 (Operand.tmp 4), type := 26, pos := "movetext.go:60", after := #[], guard := none }) (v := ?va3) rfl (by kernel_rfl) (by kernel_rfl) (by kernel_rfl) (by kernel_rfl) rfl (by kernel_rfl) (by kernel_rfl) (fun _ _ _ h => h) (Or.inl ⟨by rfl, ?ya3⟩) (by assumption) ?ra3
    case ya3 => (intro w hSw; (try dsimp only at hSw); go_simp; first | done | (with_reducible rfl))
    try simp only [Act.put, List.setIfInBounds_toArray, List.set_cons_zero, List.set_cons_succ]
    refine takeW (i := 6) (oi := { dst := some 20, op := Op.fieldAddr 42 (Operand.tmp 7) 1, type := 0, pos := "movetext.go:60", after := #[], guard := none }) (v := ?va4) rfl (by kernel_rfl) (by kernel_rfl) (by kernel_rfl) rfl (fun _ _ _ h => h) (Or.inl ⟨by rfl, ?ya4⟩) (fun _ => by assumption) ?ra4
    case ya4 => (intro w _; go_simp; first | done | (with_reducible rfl) | (rw [if_neg (by omega)]))
    try simp only [Act.put, List.setIfInBounds_toArray, List.set_cons_zero, List.set_cons_succ]
    refine takeL (i := 2) (oi := { dst := some 16, op := Op.load 3 (Operand.tmp 15), type := 3, pos := "movetext.go:60", after := #[{ on := 1, ground := Ground.data }], guard := none }) (v := ?va5) rfl (by kernel_rfl) (by kernel_rfl) (by kernel_rfl) (by kernel_rfl) rfl (by kernel_rfl) (by kernel_rfl) (fun _ _ _ h => h) (Or.inl ⟨by rfl, ?ya5⟩) (by assumption) ?ra5
    case ya5 => (intro w hSw; (try dsimp only at hSw); go_simp; first | done | (with_reducible rfl))
    try simp only [Act.put, List.setIfInBounds_toArray, List.set_cons_zero, List.set_cons_succ]
    refine takeL (i := 7) (oi := { dst := some 21, op := Op.load 3 (Operand.tmp 20), type := 3, pos := "movetext.go:60", after := #[{ on := 6, ground := Ground.data }], guard := none }) (v := ?va6) rfl (by kernel_rfl) (by kernel_rfl) (by kernel_rfl) (by kernel_rfl) rfl (by kernel_rfl) (by kernel_rfl) (fun _ _ _ h => h) (Or.inl ⟨by rfl, ?ya6⟩) (by assumption) ?ra6
    case ya6 => (intro w hSw; (try dsimp only at hSw); go_simp; first | done | (with_reducible rfl))
    try simp only [Act.put, List.setIfInBounds_toArray, List.set_cons_zero, List.set_cons_succ]
    refine readyL (rs := [3]) (by kernel_rfl) (by simp) ?_
    refine (AllReadyL.cons (o := { dst := some 17, op := Op.call { callee := Callee.value (Operand.func 127), args := #[Operand.tmp 14, Operand.tmp 16], argTypes := #[26, 3] }, type := 9, pos := "movetext.go:60", after := #[{ on := 0, ground := Ground.data }, { on := 2, ground := Ground.data }], guard := none }) rfl (fun K hK => ?_) AllReadyL.nil)
    go_simp
    refine (letter_any R vp vs ve m.piece _ (HR.out.below Lz (Nat.le_refl _)) HK.out.r HLt.out hk1 hk2).mono ?_
    rintro e w3 ⟨rfl, hb3⟩
    have B3 := Bz.stays hb3
    have P3 := Pz.stays hb3
    have M3 := Mz.stays hb3
    have L3 := below_trans Lz hb3 Lz.size
    clear hb3
    refine hK.out _ _ ⟨B3.cell 0 rfl, B3.cell 1 rfl, B3.cell 2 rfl, B3.cell 3 rfl, B3.cell 4 rfl, B3.cell 5 rfl, B3.cell 6 rfl, B3.cell 7 rfl, B3.cell 8 rfl, B3.cell 9 rfl, B3.cell 10 rfl, P3.cell 0 rfl, P3.cell 1 rfl, P3.cell 2 rfl, P3.cell 3 rfl, P3.cell 4 rfl, M3.cell 0 rfl, M3.cell 1 rfl, M3.cell 2 rfl⟩ (fun hHeld => ?_)
    clear hK K
    try simp only [Act.put, List.setIfInBounds_toArray, List.set_cons_zero, List.set_cons_succ]
    refine takeW (i := 4) (oi := { dst := some 18, op := Op.binOp BinOp.add 9 (Operand.tmp 17) (Operand.const (Value.string { data := #[64] })) 9, type := 9, pos := "movetext.go:60", after := #[{ on := 3, ground := Ground.data }], guard := none }) (v := ?va7) rfl (by kernel_rfl) (by kernel_rfl) (by kernel_rfl) rfl (fun _ _ _ h => h) (Or.inl ⟨by rfl, ?ya7⟩) (fun _ => by assumption) ?ra7
    case ya7 => (intro w _; go_simp; first | done | (with_reducible rfl) | (rw [if_neg (by omega)]))
    try simp only [Act.put, List.setIfInBounds_toArray, List.set_cons_zero, List.set_cons_succ]
    refine readyL (rs := [8]) (by kernel_rfl) (by simp) ?_
    refine (AllReadyL.cons (o := { dst := some 22, op := Op.call { callee := Callee.value (Operand.func 128), args := #[Operand.tmp 19, Operand.tmp 21], argTypes := #[26, 3] }, type := 9, pos := "movetext.go:60", after := #[{ on := 5, ground := Ground.data }, { on := 7, ground := Ground.data }, { on := 3, ground := Ground.chain }], guard := none }) rfl (fun K hK => ?_) AllReadyL.nil)
    go_simp
    refine (square_any R vp vs ve m.dst _ HK.out.r hd1 HD2.out).mono ?_
    rintro e w8 ⟨rfl, hb8⟩
    have B8 := B3.stays hb8
    have P8 := P3.stays hb8
    have M8 := M3.stays hb8
    have L8 := below_trans L3 hb8 L3.size
    clear hb8
    refine hK.out _ _ ⟨B8.cell 0 rfl, B8.cell 1 rfl, B8.cell 2 rfl, B8.cell 3 rfl, B8.cell 4 rfl, B8.cell 5 rfl, B8.cell 6 rfl, B8.cell 7 rfl, B8.cell 8 rfl, B8.cell 9 rfl, B8.cell 10 rfl, P8.cell 0 rfl, P8.cell 1 rfl, P8.cell 2 rfl, P8.cell 3 rfl, P8.cell 4 rfl, M8.cell 0 rfl, M8.cell 1 rfl, M8.cell 2 rfl⟩ (fun hHeld => ?_)
    clear hK K
    try simp only [Act.put, List.setIfInBounds_toArray, List.set_cons_zero, List.set_cons_succ]
    refine takeW (i := 9) (oi := { dst := some 23, op := Op.binOp BinOp.add 9 (Operand.tmp 18) (Operand.tmp 22) 9, type := 9, pos := "movetext.go:60", after := #[{ on := 4, ground := Ground.data }, { on := 8, ground := Ground.data }], guard := none }) (v := ?va8) rfl (by kernel_rfl) (by kernel_rfl) (by kernel_rfl) rfl (fun _ _ _ h => h) (Or.inl ⟨by rfl, ?ya8⟩) (fun _ => by assumption) ?ra8
    case ya8 => (intro w _; go_simp; first | done | (with_reducible rfl) | (rw [if_neg (by omega)]))
    try simp only [Act.put, List.setIfInBounds_toArray, List.set_cons_zero, List.set_cons_succ]
    refine takeW (i := 10) (oi := { dst := some 8, op := Op.assign (Operand.tmp 23), type := 9, pos := "movetext.go:60", after := #[{ on := 9, ground := Ground.data }, { on := 8, ground := Ground.chain }, { on := 0, ground := Ground.phase }, { on := 1, ground := Ground.phase }, { on := 2, ground := Ground.phase }, { on := 3, ground := Ground.phase }, { on := 4, ground := Ground.phase }, { on := 5, ground := Ground.phase }, { on := 6, ground := Ground.phase }, { on := 7, ground := Ground.phase }, { on := 8, ground := Ground.phase }, { on := 9, ground := Ground.phase }], guard := none }) (v := ?va9) rfl (by kernel_rfl) (by kernel_rfl) (by kernel_rfl) rfl (fun _ _ _ h => h) (Or.inl ⟨by rfl, ?ya9⟩) (fun _ => by assumption) ?ra9
    case ya9 => (intro w _; go_simp; first | done | (with_reducible rfl) | (rw [if_neg (by omega)]))
    try simp only [Act.put, List.setIfInBounds_toArray, List.set_cons_zero, List.set_cons_succ]
    refine doneL (by kernel_rfl) ?_ _
    refine NoPanic.normal ?_
    have HLe := Lib.hid L8
    clear hHeld B3 P3 M3 L3 B8 P8 M8 L8 Bz Pz Mz Lz
    go_wp2_with fail
    go_ret
    exact ⟨by rw [HOF.out]; rfl, HLe.out⟩
  have hkc := HK.out.cell m.src.toNat
  have hkn := HFC.out hs0
  have HKZ : Hid (kindZ p m = (p.cells.getD m.src.toNat 0 - 1) / 2) := Lib.hid rfl
  have hkz1 : 0 ≤ kindZ p m := by rw [HKZ.out]; omega
  have hkz2 : kindZ p m < R.pieces.length := by rw [HKZ.out]; omega
  have hkz3 : kindZ p m ≤ 100 := by have := HK.out.r.np; omega
  have HTK : Hid (takT p m = if p.cells.getD m.dst.toNat 0 ≠ 0 then ⟨#[120]⟩ else ByteArray.empty) := Lib.hid rfl
  have HPR : Hid (proT R p m = if m.piece ≠ kindZ p m then ⟨#[61]⟩ ++ letT R m.piece else ByteArray.empty) := Lib.hid rfl
  have HOF : Hid (ofT R p l m = (((letT R (kindZ p m) ++ markT R p l m) ++ takT p m) ++ sqT R m.dst) ++ proT R p m) := Lib.hid (by unfold ofT; rw [if_neg (by omega)])
  have z3 : (letT R (kindZ p m)).size = 1 := by rw [← bts_size, letT_bts HLt.out hkz1 hkz2]; rfl
  have z4 : (markT R p l m).size ≤ 2 := mark_size HK.out l m hs0 (by have := HK.out.cl; omega)
  obtain ⟨c1, c2, e3, hcc⟩ := cells_rd (HP.out.below HB.out (Nat.le_refl _)) (by omega)
  obtain ⟨rfl, rfl⟩ : gc = c1 ∧ oc = c2 := by simpa using e3
  have cs := hcc m.src.toNat (by omega)
  have p0 := HY.out.cell 0 rfl
  have hkd : Int.tdiv (p.cells.getD m.src.toNat 0 - 1) 2 = kindZ p m := by rw [HKZ.out]; exact Int.tdiv_eq_ediv_of_nonneg (by omega)
  have hkw : IntKind.i64.wrap (p.cells.getD m.src.toNat 0 - 1) = p.cells.getD m.src.toNat 0 - 1 := IntWalk.i64_in _ (by have := HK.out.r.np; omega)
  clear hcc e3
  generalize p.cells.getD m.src.toNat 0 = cz at *
  generalize kindZ p m = KZ at *
  have hnl : (decide (m.src < 0)) = false := by simp; omega
  go_upto_region 4 with (fail)
  have Bz : Box w0.drew w.heap.size [.string R.name, .int .i64 R.width, .int .i64 R.height, vp, vs, .bool R.falls, .bool R.keeps, ve, .int .i64 R.blocked, .int .i64 R.quiet, .int .i64 R.rept] 26 := HX.out
  have Pz : Box w0.drew (w.heap.size + 1) [.slice (some ⟨gc, oc, none⟩) p.cells.length cc, v0, v1, .int .i64 p.turn, .int .i64 p.quiet] 37 := HY.out
  have Mz : Box w0.drew (w.heap.size + 2) [.int .i64 m.src, .int .i64 m.dst, .int .i64 m.piece] 42 := HZ.out
  have Lz : Below w.heap.size w w0.drew := below_drew' HB.out
  clear HX HY HZ HB m0 hs9 hz0 hkc hkn cs p0 hkd hkw hnl
  refine wp_region_noPanic ?_
  refine beginL (S := (fun w' => w'.cell? ⟨w.heap.size, 0, none⟩ = some (.string R.name) ∧ w'.cell? ⟨w.heap.size, 1, none⟩ = some (.int .i64 R.width) ∧ w'.cell? ⟨w.heap.size, 2, none⟩ = some (.int .i64 R.height) ∧ w'.cell? ⟨w.heap.size, 3, none⟩ = some vp ∧ w'.cell? ⟨w.heap.size, 4, none⟩ = some vs ∧ w'.cell? ⟨w.heap.size, 5, none⟩ = some (.bool R.falls) ∧ w'.cell? ⟨w.heap.size, 6, none⟩ = some (.bool R.keeps) ∧ w'.cell? ⟨w.heap.size, 7, none⟩ = some ve ∧ w'.cell? ⟨w.heap.size, 8, none⟩ = some (.int .i64 R.blocked) ∧ w'.cell? ⟨w.heap.size, 9, none⟩ = some (.int .i64 R.quiet) ∧ w'.cell? ⟨w.heap.size, 10, none⟩ = some (.int .i64 R.rept) ∧ w'.cell? ⟨w.heap.size + 1, 0, none⟩ = some (.slice (some ⟨gc, oc, none⟩) p.cells.length cc) ∧ w'.cell? ⟨w.heap.size + 1, 1, none⟩ = some v0 ∧ w'.cell? ⟨w.heap.size + 1, 2, none⟩ = some v1 ∧ w'.cell? ⟨w.heap.size + 1, 3, none⟩ = some (.int .i64 p.turn) ∧ w'.cell? ⟨w.heap.size + 1, 4, none⟩ = some (.int .i64 p.quiet) ∧ w'.cell? ⟨w.heap.size + 2, 0, none⟩ = some (.int .i64 m.src) ∧ w'.cell? ⟨w.heap.size + 2, 1, none⟩ = some (.int .i64 m.dst) ∧ w'.cell? ⟨w.heap.size + 2, 2, none⟩ = some (.int .i64 m.piece))) (L := []) (by kernel_rfl) ⟨Bz.cell 0 rfl, Bz.cell 1 rfl, Bz.cell 2 rfl, Bz.cell 3 rfl, Bz.cell 4 rfl, Bz.cell 5 rfl, Bz.cell 6 rfl, Bz.cell 7 rfl, Bz.cell 8 rfl, Bz.cell 9 rfl, Bz.cell 10 rfl, Pz.cell 0 rfl, Pz.cell 1 rfl, Pz.cell 2 rfl, Pz.cell 3 rfl, Pz.cell 4 rfl, Mz.cell 0 rfl, Mz.cell 1 rfl, Mz.cell 2 rfl⟩ (fun hHeld => ?_)
  refine takeL (i := 0) (oi := { dst := some 32, op := Op.load 26 (Operand.tmp 4), type := 26, pos := "movetext.go:63", after := #[], guard := none }) (v := ?va10) rfl (by kernel_rfl) (by kernel_rfl) (by kernel_rfl) (by kernel_rfl) rfl (by kernel_rfl) (by kernel_rfl) (fun _ _ _ h => h) (Or.inl ⟨by rfl, ?ya10⟩) (by assumption) ?ra10
  case ya10 => (intro w hSw; (try dsimp only at hSw); go_simp; first | done | (with_reducible rfl))
  try simp only [Act.put, List.setIfInBounds_toArray, List.set_cons_zero, List.set_cons_succ]
  refine takeW (i := 1) (oi := { dst := some 33, op := Op.move (Operand.tmp 9), type := 3, pos := "movetext.go:63", after := #[], guard := none }) (v := ?va11) rfl (by kernel_rfl) (by kernel_rfl) (by kernel_rfl) rfl (fun _ _ _ h => h) (Or.inl ⟨by rfl, ?ya11⟩) (fun _ => by assumption) ?ra11
  case ya11 => (intro w _; go_simp; first | done | (with_reducible rfl) | (rw [if_neg (by omega)]))
  try simp only [Act.put, List.setIfInBounds_toArray, List.set_cons_zero, List.set_cons_succ]
  refine takeL (i := 3) (oi := { dst := some 35, op := Op.load 26 (Operand.tmp 4), type := 26, pos := "movetext.go:63", after := #[], guard := none }) (v := ?va12) rfl (by kernel_rfl) (by kernel_rfl) (by kernel_rfl) (by kernel_rfl) rfl (by kernel_rfl) (by kernel_rfl) (fun _ _ _ h => h) (Or.inl ⟨by rfl, ?ya12⟩) (by assumption) ?ra12
  case ya12 => (intro w hSw; (try dsimp only at hSw); go_simp; first | done | (with_reducible rfl))
  try simp only [Act.put, List.setIfInBounds_toArray, List.set_cons_zero, List.set_cons_succ]
  refine takeL (i := 4) (oi := { dst := some 36, op := Op.load 37 (Operand.tmp 5), type := 37, pos := "movetext.go:63", after := #[], guard := none }) (v := ?va13) rfl (by kernel_rfl) (by kernel_rfl) (by kernel_rfl) (by kernel_rfl) rfl (by kernel_rfl) (by kernel_rfl) (fun _ _ _ h => h) (Or.inl ⟨by rfl, ?ya13⟩) (by assumption) ?ra13
  case ya13 => (intro w hSw; (try dsimp only at hSw); go_simp; first | done | (with_reducible rfl))
  try simp only [Act.put, List.setIfInBounds_toArray, List.set_cons_zero, List.set_cons_succ]
  refine takeW (i := 5) (oi := { dst := some 37, op := Op.move (Operand.tmp 2), type := 32, pos := "movetext.go:63", after := #[], guard := none }) (v := ?va14) rfl (by kernel_rfl) (by kernel_rfl) (by kernel_rfl) rfl (fun _ _ _ h => h) (Or.inl ⟨by rfl, ?ya14⟩) (fun _ => by assumption) ?ra14
  case ya14 => (intro w _; go_simp; first | done | (with_reducible rfl) | (rw [if_neg (by omega)]))
  try simp only [Act.put, List.setIfInBounds_toArray, List.set_cons_zero, List.set_cons_succ]
  refine takeL (i := 6) (oi := { dst := some 38, op := Op.load 42 (Operand.tmp 7), type := 42, pos := "movetext.go:63", after := #[], guard := none }) (v := ?va15) rfl (by kernel_rfl) (by kernel_rfl) (by kernel_rfl) (by kernel_rfl) rfl (by kernel_rfl) (by kernel_rfl) (fun _ _ _ h => h) (Or.inl ⟨by rfl, ?ya15⟩) (by assumption) ?ra15
  case ya15 => (intro w hSw; (try dsimp only at hSw); go_simp; first | done | (with_reducible rfl))
  try simp only [Act.put, List.setIfInBounds_toArray, List.set_cons_zero, List.set_cons_succ]
  refine readyL (rs := [2]) (by kernel_rfl) (by simp) ?_
  refine (AllReadyL.cons (o := { dst := some 34, op := Op.call { callee := Callee.value (Operand.func 127), args := #[Operand.tmp 32, Operand.tmp 33], argTypes := #[26, 3] }, type := 9, pos := "movetext.go:63", after := #[{ on := 0, ground := Ground.data }, { on := 1, ground := Ground.data }], guard := none }) rfl (fun K hK => ?_) AllReadyL.nil)
  go_simp
  refine (letter_any R vp vs ve KZ _ (HR.out.below Lz (Nat.le_refl _)) HK.out.r HLt.out hkz1 hkz2).mono ?_
  rintro e w2 ⟨rfl, hb2⟩
  have B2 := Bz.stays hb2
  have P2 := Pz.stays hb2
  have M2 := Mz.stays hb2
  have L2 := below_trans Lz hb2 Lz.size
  clear hb2
  refine hK.out _ _ ⟨B2.cell 0 rfl, B2.cell 1 rfl, B2.cell 2 rfl, B2.cell 3 rfl, B2.cell 4 rfl, B2.cell 5 rfl, B2.cell 6 rfl, B2.cell 7 rfl, B2.cell 8 rfl, B2.cell 9 rfl, B2.cell 10 rfl, P2.cell 0 rfl, P2.cell 1 rfl, P2.cell 2 rfl, P2.cell 3 rfl, P2.cell 4 rfl, M2.cell 0 rfl, M2.cell 1 rfl, M2.cell 2 rfl⟩ (fun hHeld => ?_)
  clear hK K
  try simp only [Act.put, List.setIfInBounds_toArray, List.set_cons_zero, List.set_cons_succ]
  refine readyL (rs := [7]) (by kernel_rfl) (by simp) ?_
  refine (AllReadyL.cons (o := { dst := some 39, op := Op.call { callee := Callee.value (Operand.func 129), args := #[Operand.tmp 35, Operand.tmp 36, Operand.tmp 37, Operand.tmp 38], argTypes := #[26, 37, 32, 42] }, type := 9, pos := "movetext.go:63", after := #[{ on := 3, ground := Ground.data }, { on := 4, ground := Ground.data }, { on := 5, ground := Ground.data }, { on := 6, ground := Ground.data }, { on := 2, ground := Ground.chain }], guard := none }) rfl (fun K hK => ?_) AllReadyL.nil)
  go_simp
  refine (mark_any R vp vs ve p _ v0 v1 m _ l _ (HP.out.below L2 (Nat.le_refl _)) (HL.out.below L2 (Nat.le_refl _)) HK.out HLF.out hll ⟨hs0, hs1⟩).mono ?_
  rintro e w7 ⟨rfl, hb7⟩
  have B7 := B2.stays hb7
  have P7 := P2.stays hb7
  have M7 := M2.stays hb7
  have L7 := below_trans L2 hb7 L2.size
  clear hb7
  refine hK.out _ _ ⟨B7.cell 0 rfl, B7.cell 1 rfl, B7.cell 2 rfl, B7.cell 3 rfl, B7.cell 4 rfl, B7.cell 5 rfl, B7.cell 6 rfl, B7.cell 7 rfl, B7.cell 8 rfl, B7.cell 9 rfl, B7.cell 10 rfl, P7.cell 0 rfl, P7.cell 1 rfl, P7.cell 2 rfl, P7.cell 3 rfl, P7.cell 4 rfl, M7.cell 0 rfl, M7.cell 1 rfl, M7.cell 2 rfl⟩ (fun hHeld => ?_)
  clear hK K
  try simp only [Act.put, List.setIfInBounds_toArray, List.set_cons_zero, List.set_cons_succ]
  refine takeW (i := 8) (oi := { dst := some 40, op := Op.binOp BinOp.add 9 (Operand.tmp 34) (Operand.tmp 39) 9, type := 9, pos := "movetext.go:63", after := #[{ on := 2, ground := Ground.data }, { on := 7, ground := Ground.data }], guard := none }) (v := ?va16) rfl (by kernel_rfl) (by kernel_rfl) (by kernel_rfl) rfl (fun _ _ _ h => h) (Or.inl ⟨by rfl, ?ya16⟩) (fun _ => by assumption) ?ra16
  case ya16 => (intro w _; go_simp; first | done | (with_reducible rfl) | (rw [if_neg (by omega)]))
  try simp only [Act.put, List.setIfInBounds_toArray, List.set_cons_zero, List.set_cons_succ]
  refine takeW (i := 9) (oi := { dst := some 10, op := Op.assign (Operand.tmp 40), type := 9, pos := "movetext.go:63", after := #[{ on := 8, ground := Ground.data }, { on := 7, ground := Ground.chain }, { on := 0, ground := Ground.phase }, { on := 1, ground := Ground.phase }, { on := 2, ground := Ground.phase }, { on := 3, ground := Ground.phase }, { on := 4, ground := Ground.phase }, { on := 5, ground := Ground.phase }, { on := 6, ground := Ground.phase }, { on := 7, ground := Ground.phase }, { on := 8, ground := Ground.phase }], guard := none }) (v := ?va17) rfl (by kernel_rfl) (by kernel_rfl) (by kernel_rfl) rfl (fun _ _ _ h => h) (Or.inl ⟨by rfl, ?ya17⟩) (fun _ => by assumption) ?ra17
  case ya17 => (intro w _; go_simp; first | done | (with_reducible rfl) | (rw [if_neg (by omega)]))
  try simp only [Act.put, List.setIfInBounds_toArray, List.set_cons_zero, List.set_cons_succ]
  refine doneL (by kernel_rfl) ?_ _
  refine NoPanic.normal ?_
  have HLe := Lib.hid L7
  have HBe := Lib.hid B7
  have HPe := Lib.hid P7
  have HMe := Lib.hid M7
  clear hHeld B2 P2 M2 L2 B7 P7 M7 L7 Bz Pz Mz Lz
  generalize letT R KZ = A at *
  generalize markT R p l m = M at *
  obtain ⟨c1, c2, e3, hcc⟩ := cells_rd (HP.out.below HLe.out (Nat.le_refl _)) (by omega)
  obtain ⟨rfl, rfl⟩ : gc = c1 ∧ oc = c2 := by simpa using e3
  have cd := hcc m.dst.toNat (by omega)
  have p0 := HPe.out.cell 0 rfl
  have m1 := HMe.out.cell 1 rfl
  have m2 := HMe.out.cell 2 rfl
  clear hcc e3
  generalize p.cells.getD m.dst.toNat 0 = dd at *
  by_cases hdd : dd = 0
  · have hdb : (dd != 0) = false := by simpa using hdd
    have HT0 : Hid (takT p m = ByteArray.empty) := Lib.hid (by rw [HTK.out, if_neg (by simp [hdd])])
    clear hdd HTK
    obtain ⟨X, hX⟩ : ∃ X, X = A ++ M := ⟨_, rfl⟩
    have HXe : Hid (A ++ M ++ takT p m = X) := Lib.hid (by rw [HT0.out, hX]; exact app_empty _)
    have hXs : X.size ≤ 100 := by rw [hX, ByteArray.size_append]; omega
    rw [← hX]
    clear hX HT0
    go_wp2_with (refine wpList_load_box (by rfl) 26 (.tmp 4) (by rfl) (w.heap.size) (by rfl) HBe.out Try.underlying26 (by rfl) (by kernel_rfl) ?_)
    refine (square_any R vp vs ve m.dst _ HK.out.r hd1 HD2.out).mono ?_
    rintro e wa ⟨rfl, hba⟩
    have HBa := Lib.hid (HBe.out.stays hba)
    have HMa := Lib.hid (HMe.out.stays hba)
    have HLa := Lib.hid (below_trans HLe.out hba HLe.out.size)
    have HOFa : Hid (ofT R p l m = X ++ sqT R m.dst ++ proT R p m) := Lib.hid (by rw [HOF.out, HXe.out])
    clear hba HBe HPe HMe HLe p0 m1 m2 cd HXe HOF
    have m2 := HMa.out.cell 2 rfl
    generalize sqT R m.dst = Q at *
    have hY : (X ++ Q).size ≤ 200 := by rw [ByteArray.size_append]; omega
    by_cases hpk : m.piece = KZ
    · have hpb : (m.piece != KZ) = false := by simpa using hpk
      have HE : Hid (ofT R p l m = X ++ Q) := Lib.hid (by rw [HOFa.out, HPR.out, if_neg (by simpa using hpk)]; exact app_empty _)
      clear hpk HOFa
      go_wp2_with fail
      go_ret
      exact ⟨by rw [HE.out]; rfl, HLa.out⟩
    · have hpb : (m.piece != KZ) = true := by simpa using hpk
      have HE : Hid (ofT R p l m = X ++ Q ++ (⟨#[61]⟩ ++ letT R m.piece)) := Lib.hid (by rw [HOFa.out, HPR.out, if_pos hpk])
      clear hpk HOFa
      go_wp2_with (refine wpList_load_box (by rfl) 26 (.tmp 4) (by rfl) (w.heap.size) (by rfl) HBa.out Try.underlying26 (by rfl) (by kernel_rfl) ?_)
      refine (letter_any R vp vs ve m.piece _ (HR.out.below HLa.out (Nat.le_refl _)) HK.out.r HLt.out hk1 hk2).mono ?_
      rintro e wb ⟨rfl, hbb⟩
      have HLb := Lib.hid (below_trans HLa.out hbb HLa.out.size)
      clear hbb HBa HMa HLa m2
      generalize letT R m.piece = G at *
      have hG : (⟨#[61]⟩ ++ G : ByteArray).size ≤ 20 := by rw [ByteArray.size_append]; have : (⟨#[61]⟩ : ByteArray).size = 1 := rfl; omega
      have hG1 : (⟨#[61]⟩ : ByteArray).size = 1 := rfl
      go_wp2_with fail
      go_ret
      exact ⟨by rw [HE.out]; rfl, HLb.out⟩
  · have hdb : (dd != 0) = true := by simpa using hdd
    have HT0 : Hid (takT p m = ⟨#[120]⟩) := Lib.hid (by rw [HTK.out, if_pos (by simpa using hdd)])
    have hAM : (A ++ M).size ≤ 50 := by rw [ByteArray.size_append]; omega
    have hx1 : (⟨#[120]⟩ : ByteArray).size = 1 := rfl
    clear hdd HTK
    obtain ⟨X, hX⟩ : ∃ X, X = A ++ M ++ ⟨#[120]⟩ := ⟨_, rfl⟩
    have HXe : Hid (A ++ M ++ takT p m = X) := Lib.hid (by rw [HT0.out, hX])
    have hXs : X.size ≤ 100 := by rw [hX, ByteArray.size_append]; omega
    clear HT0
    go_upto_region 7 with (fail)
    rw [← hX]
    clear hX hAM
    go_wp2_with (refine wpList_load_box (by rfl) 26 (.tmp 4) (by rfl) (w.heap.size) (by rfl) HBe.out Try.underlying26 (by rfl) (by kernel_rfl) ?_)
    refine (square_any R vp vs ve m.dst _ HK.out.r hd1 HD2.out).mono ?_
    rintro e wa ⟨rfl, hba⟩
    have HBa := Lib.hid (HBe.out.stays hba)
    have HMa := Lib.hid (HMe.out.stays hba)
    have HLa := Lib.hid (below_trans HLe.out hba HLe.out.size)
    have HOFa : Hid (ofT R p l m = X ++ sqT R m.dst ++ proT R p m) := Lib.hid (by rw [HOF.out, HXe.out])
    clear hba HBe HPe HMe HLe p0 m1 m2 cd HXe HOF
    have m2 := HMa.out.cell 2 rfl
    generalize sqT R m.dst = Q at *
    have hY : (X ++ Q).size ≤ 200 := by rw [ByteArray.size_append]; omega
    by_cases hpk : m.piece = KZ
    · have hpb : (m.piece != KZ) = false := by simpa using hpk
      have HE : Hid (ofT R p l m = X ++ Q) := Lib.hid (by rw [HOFa.out, HPR.out, if_neg (by simpa using hpk)]; exact app_empty _)
      clear hpk HOFa
      go_wp2_with fail
      go_ret
      exact ⟨by rw [HE.out]; rfl, HLa.out⟩
    · have hpb : (m.piece != KZ) = true := by simpa using hpk
      have HE : Hid (ofT R p l m = X ++ Q ++ (⟨#[61]⟩ ++ letT R m.piece)) := Lib.hid (by rw [HOFa.out, HPR.out, if_pos hpk])
      clear hpk HOFa
      go_wp2_with (refine wpList_load_box (by rfl) 26 (.tmp 4) (by rfl) (w.heap.size) (by rfl) HBa.out Try.underlying26 (by rfl) (by kernel_rfl) ?_)
      refine (letter_any R vp vs ve m.piece _ (HR.out.below HLa.out (Nat.le_refl _)) HK.out.r HLt.out hk1 hk2).mono ?_
      rintro e wb ⟨rfl, hbb⟩
      have HLb := Lib.hid (below_trans HLa.out hbb HLa.out.size)
      clear hbb HBa HMa HLa m2
      generalize letT R m.piece = G at *
      have hG : (⟨#[61]⟩ ++ G : ByteArray).size ≤ 20 := by rw [ByteArray.size_append]; have : (⟨#[61]⟩ : ByteArray).size = 1 := rfl; omega
      have hG1 : (⟨#[61]⟩ : ByteArray).size = 1 := rfl
      go_wp2_with fail
      go_ret
      exact ⟨by rw [HE.out]; rfl, HLb.out⟩

end Go.Proofs.Ytkfaibdflbdpgaa

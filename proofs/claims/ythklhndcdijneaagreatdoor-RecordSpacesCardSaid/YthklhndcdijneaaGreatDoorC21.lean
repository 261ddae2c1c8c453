/- Mq1: MtP, IntsW, MtA, MtB, in one text. -/
import Derived.Test.YthklhndcdijneaaGreatDoorC13
import Derived.Test.YthklhndcdijneaaGreatDoorC09
import Derived.Test.YthklhndcdijneaaGreatDoorC05
import Derived.Test.YthklhndcdijneaaGreatDoorC03
import Derived.Test.YthklhndcdijneaaGreatDoorC12
import Derived.BigQuiet
/- The texts of moves, as plain data; no two legal moves have the same text. -/
namespace Go.Proofs.YthklhndcdijneaaGreatDoor
set_option linter.unusedVariables false
set_option maxHeartbeats 8000000
set_option maxRecDepth 100000
def colT (R : RulesZ) (n : Int) : ByteArray := Utf8.encode (97 + n % R.width)
def rowT (R : RulesZ) (n : Int) : ByteArray := Utf8.encode (49 + n / R.width)
def sqT (R : RulesZ) (n : Int) : ByteArray := colT R n ++ rowT R n
def letT (R : RulesZ) (k : Int) : ByteArray := Utf8.encode (R.pieces.getD k.toNat default).letter
def rivB (p : PosZ) (m x : MoveZ) : Bool := decide (0 ≤ x.src) && !(x.src == m.src) && (x.dst == m.dst) && (p.cells.getD x.src.toNat 0 == p.cells.getD m.src.toNat 0)
def rivals (p : PosZ) (l : List MoveZ) (m : MoveZ) : List Int := (l.filter (rivB p m)).map (·.src)
def markT (R : RulesZ) (p : PosZ) (l : List MoveZ) (m : MoveZ) : ByteArray :=
 if (rivals p l m).length = 0 then ByteArray.empty
 else if (rivals p l m).any (fun n => n % R.width == m.src % R.width) = false then colT R m.src
 else if (rivals p l m).any (fun n => n / R.width == m.src / R.width) = false then rowT R m.src
 else sqT R m.src
def kindZ (p : PosZ) (m : MoveZ) : Int := (p.cells.getD m.src.toNat 0 - 1) / 2
def takT (p : PosZ) (m : MoveZ) : ByteArray := if p.cells.getD m.dst.toNat 0 ≠ 0 then ⟨#[120]⟩ else ByteArray.empty
def proT (R : RulesZ) (p : PosZ) (m : MoveZ) : ByteArray := if m.piece ≠ kindZ p m then ⟨#[61]⟩ ++ letT R m.piece else ByteArray.empty
def ofT (R : RulesZ) (p : PosZ) (l : List MoveZ) (m : MoveZ) : ByteArray :=
 if m.src < 0 then (letT R m.piece ++ ⟨#[64]⟩) ++ sqT R m.dst
 else (((letT R (kindZ p m) ++ markT R p l m) ++ takT p m) ++ sqT R m.dst) ++ proT R p m
/-- the bytes of a text as numbers. -/
def bts (b : ByteArray) : List Nat := b.data.toList.map UInt8.toNat
theorem bts_append (a b : ByteArray) : bts (a ++ b) = bts a ++ bts b := by
 unfold bts
 rw [ByteArray.data_append, Array.toList_append, List.map_append]
theorem bts_size (b : ByteArray) : (bts b).length = b.size := by
 unfold bts
 rw [List.length_map, Array.length_toList]; rfl
theorem bts_enc {n : Int} (h0 : 0 ≤ n) (h1 : n < 128) : bts (Utf8.encode n) = [n.toNat] := by
 obtain ⟨k, rfl⟩ : ∃ k : Nat, n = k := ⟨n.toNat, by omega⟩
 have hk : k < 128 := by omega
 have : ∀ k : Fin 128, bts (Utf8.encode (k.val : Int)) = [k.val] := by decide +kernel
 simpa using this ⟨k, hk⟩
/-- letters of the types. -/
structure LetOk (R : RulesZ) : Prop where
 rg : ∀ i, i < R.pieces.length → 65 ≤ (R.pieces.getD i default).letter ∧ (R.pieces.getD i default).letter ≤ 90
 ne : ∀ i j, i < j → j < R.pieces.length → (R.pieces.getD i default).letter ≠ (R.pieces.getD j default).letter
theorem let_ok {R : RulesZ} (h : rulesErr R = 0) : LetOk R := by
 have hp : piecesErr R.pieces = 0 := by
  unfold rulesErr at h
  split at h
  ·omega
  ·split at h
   ·omega
   ·split at h
    ·rename_i q; exact absurd h q
    ·rename_i q; omega
 unfold piecesErr at hp
 split at hp
 ·omega
 ·split at hp
  ·omega
  ·rw [scanE_zero] at hp
   have hq : ∀ i, i < R.pieces.length → pieceErr R.pieces i = 0 := fun i hi => hp i (by omega) (by omega)
   refine ⟨fun i hi => ?_, fun i j hij hj => ?_⟩
   ·have := hq i hi
    unfold pieceErr at this
    split at this
    ·omega
    ·omega
   ·have := hq j hj
    unfold pieceErr at this
    split at this
    ·omega
    ·split at this
     ·omega
     ·rename_i q
      intro e
      apply q
      rw [List.any_eq_true]
      refine ⟨R.pieces.getD i default, ?_, by rw [e]; simp⟩
      rw [List.getD_eq_getElem?_getD, List.getElem?_eq_getElem (by omega)]
      exact List.mem_take_iff_getElem.2 ⟨i, by omega, rfl⟩
theorem let_inj {R : RulesZ} (L : LetOk R) {i j : Nat} (hi : i < R.pieces.length) (hj : j < R.pieces.length) (h : (R.pieces.getD i default).letter = (R.pieces.getD j default).letter) : i = j := by
 rcases Nat.lt_trichotomy i j with q | q | q
 ·exact absurd h (L.ne i j q hj)
 ·exact q
 ·exact absurd h.symm (L.ne j i q hi)
theorem letT_bts {R : RulesZ} (L : LetOk R) {k : Int} (h0 : 0 ≤ k) (h1 : k < R.pieces.length) : bts (letT R k) = [(R.pieces.getD k.toNat default).letter.toNat] := by
 have := L.rg k.toNat (by omega)
 exact bts_enc (by omega) (by omega)
theorem sq_rg {R : RulesZ} (K : ROk R) {n : Int} (h0 : 0 ≤ n) (h1 : n < R.width * R.height) : 0 ≤ n % R.width ∧ n % R.width < 8 ∧ 0 ≤ n / R.width ∧ n / R.width < 8 := by
 have hw := K.w
 have hh := K.h
 have a1 := Int.emod_nonneg n (show R.width ≠ 0 by omega)
 have a2 := Int.emod_lt_of_pos n (show 0 < R.width by omega)
 have a3 := Int.ediv_nonneg h0 (show 0 ≤ R.width by omega)
 have a4 : n / R.width < R.height := Int.ediv_lt_of_lt_mul (by omega) (by rw [Int.mul_comm]; exact h1)
 omega
theorem colT_bts {R : RulesZ} (K : ROk R) {n : Int} (h0 : 0 ≤ n) (h1 : n < R.width * R.height) : bts (colT R n) = [97 + (n % R.width).toNat] := by
 have := sq_rg K h0 h1
 unfold colT
 rw [bts_enc (by omega) (by omega)]
 congr 1; omega
theorem rowT_bts {R : RulesZ} (K : ROk R) {n : Int} (h0 : 0 ≤ n) (h1 : n < R.width * R.height) : bts (rowT R n) = [49 + (n / R.width).toNat] := by
 have := sq_rg K h0 h1
 unfold rowT
 rw [bts_enc (by omega) (by omega)]
 congr 1; omega
theorem sqT_bts {R : RulesZ} (K : ROk R) {n : Int} (h0 : 0 ≤ n) (h1 : n < R.width * R.height) : bts (sqT R n) = [97 + (n % R.width).toNat, 49 + (n / R.width).toNat] := by
 unfold sqT
 rw [bts_append, colT_bts K h0 h1, rowT_bts K h0 h1]; rfl
/-- the mark of a move as numbers: none, a column, a row, or both. -/
theorem mark_cases {R : RulesZ} (K : ROk R) (p : PosZ) (l : List MoveZ) (m : MoveZ) (h0 : 0 ≤ m.src) (h1 : m.src < R.width * R.height) :
  ((rivals p l m) = [] ∧ bts (markT R p l m) = []) ∨
  ((∀ n ∈ rivals p l m, n % R.width ≠ m.src % R.width) ∧ bts (markT R p l m) = [97 + (m.src % R.width).toNat]) ∨
  ((∀ n ∈ rivals p l m, n / R.width ≠ m.src / R.width) ∧ bts (markT R p l m) = [49 + (m.src / R.width).toNat]) ∨
  bts (markT R p l m) = [97 + (m.src % R.width).toNat, 49 + (m.src / R.width).toNat] := by
 unfold markT
 by_cases e0 : (rivals p l m).length = 0
 ·left; rw [if_pos e0]; exact ⟨List.length_eq_zero_iff.1 e0, rfl⟩
 rw [if_neg e0]
 by_cases e1 : (rivals p l m).any (fun n => n % R.width == m.src % R.width) = false
 ·right; left
  rw [if_pos e1, colT_bts K h0 h1]
  refine ⟨fun n hn e => ?_, rfl⟩
  rw [List.any_eq_false] at e1
  exact e1 n hn (by simp [e])
 rw [if_neg e1]
 by_cases e2 : (rivals p l m).any (fun n => n / R.width == m.src / R.width) = false
 ·right; right; left
  rw [if_pos e2, rowT_bts K h0 h1]
  refine ⟨fun n hn e => ?_, rfl⟩
  rw [List.any_eq_false] at e2
  exact e2 n hn (by simp [e])
 rw [if_neg e2, sqT_bts K h0 h1]
 exact .inr (.inr (.inr rfl))
theorem legal_src {R : RulesZ} {p : PosZ} {m : MoveZ} (h : m ∈ listZ R p) : m.src = -1 ∨ (0 ≤ m.src ∧ m.src.toNat < p.cells.length ∧ p.cells.getD m.src.toNat 0 ≠ 0 ∧ (p.cells.getD m.src.toNat 0 - 1) % 2 = p.turn) := by
 rw [list_mem] at h
 unfold rawZ at h
 rcases List.mem_append.1 h with h | h
 ·obtain ⟨s, k, _, -, -, -, rfl⟩ := puts_mem h
  exact .inl rfl
 ·obtain ⟨s, hs, hn, ht, x, -, t, -, rfl⟩ := steps_mem h
  have e : (moveTo R p s ((p.cells.getD s 0 - 1) / 2) t).src = s := rfl
  rw [e]
  exact .inr ⟨by omega, by simpa using hs, by simpa using fun e => hn e.symm, by simpa using ht⟩
/-- the text of a move on the board, as numbers. -/
theorem of_board {R : RulesZ} (L : LetOk R) {p : PosZ} (K : POk R p) {m : MoveZ} (hm : m ∈ listZ R p) (hs : 0 ≤ m.src) (l : List MoveZ) :
  bts (ofT R p l m) = (R.pieces.getD (kindZ p m).toNat default).letter.toNat :: (bts (markT R p l m) ++ (if p.cells.getD m.dst.toNat 0 ≠ 0 then [120] else []) ++ [97 + (m.dst % R.width).toNat, 49 + (m.dst / R.width).toNat] ++
   (if m.piece ≠ kindZ p m then [61, (R.pieces.getD m.piece.toNat default).letter.toNat] else [])) := by
 have F := fits_of K hm
 obtain ⟨hd1, hd2⟩ := F.d
 have hcl := K.cl
 have hc := K.cell m.src.toNat
 have hk : 0 ≤ kindZ p m ∧ kindZ p m < R.pieces.length := by
  rcases legal_src hm with e | ⟨-, -, e, -⟩
  ·omega
  ·unfold kindZ; omega
 unfold ofT
 rw [if_neg (by omega)]
 simp only [bts_append]
 rw [letT_bts L hk.1 hk.2, sqT_bts K.r hd1 (by omega)]
 have e1 : bts (takT p m) = if p.cells.getD m.dst.toNat 0 ≠ 0 then [120] else [] := by unfold takT; split <;> rfl
 have e2 : bts (proT R p m) = if m.piece ≠ kindZ p m then [61, (R.pieces.getD m.piece.toNat default).letter.toNat] else [] := by
  unfold proT
  split
  ·rw [bts_append, letT_bts L F.k.1 F.k.2]; rfl
  ·rfl
 rw [e1, e2]
 simp
theorem of_put {R : RulesZ} (L : LetOk R) {p : PosZ} (K : POk R p) {m : MoveZ} (hm : m ∈ listZ R p) (hs : m.src = -1) (l : List MoveZ) :
  bts (ofT R p l m) = [(R.pieces.getD m.piece.toNat default).letter.toNat, 64, 97 + (m.dst % R.width).toNat, 49 + (m.dst / R.width).toNat] := by
 have F := fits_of K hm
 obtain ⟨hd1, hd2⟩ := F.d
 have hcl := K.cl
 unfold ofT
 rw [if_pos (by omega)]
 simp only [bts_append]
 rw [letT_bts L F.k.1 F.k.2, sqT_bts K.r hd1 (by omega)]
 rfl
theorem dst_inj {R : RulesZ} (K : ROk R) {a b : Int} (ha0 : 0 ≤ a) (ha : a < R.width * R.height) (hb0 : 0 ≤ b) (hb : b < R.width * R.height) (h1 : 97 + (a % R.width).toNat = 97 + (b % R.width).toNat) (h2 : 49 + (a / R.width).toNat = 49 + (b / R.width).toNat) : a = b := by
 have p1 := sq_rg K ha0 ha
 have p2 := sq_rg K hb0 hb
 have e1 := Int.mul_ediv_add_emod a R.width
 have e2 := Int.mul_ediv_add_emod b R.width
 have q1 : a / R.width = b / R.width := by omega
 have q2 : a % R.width = b % R.width := by omega
 rw [q1, q2] at e1
 omega
/-- two texts on the board: their parts. -/
theorem parts_inj {A A' : Nat} {M M' X X' : List Nat} {c r c' r' : Nat} {P P' : List Nat} (hr : 49 ≤ r ∧ r < 57) (hr' : 49 ≤ r' ∧ r' < 57) (hP : P = [] ∨ ∃ z, 65 ≤ z ∧ P = [61, z]) (hP' : P' = [] ∨ ∃ z, 65 ≤ z ∧ P' = [61, z])
  (h : A :: (M ++ X ++ [c, r] ++ P) = A' :: (M' ++ X' ++ [c', r'] ++ P')) : A = A' ∧ c = c' ∧ r = r' ∧ P = P' ∧ M ++ X = M' ++ X' := by
 obtain ⟨h0, h⟩ := List.cons.inj h
 have h2 := congrArg List.reverse h
 simp only [List.reverse_append, List.reverse_cons, List.reverse_nil, List.nil_append, List.cons_append] at h2
 refine ⟨h0, ?_⟩
 have key : ∀ {U V : List Nat}, r :: c :: U = r' :: c' :: V → r = r' ∧ c = c' ∧ U = V := fun e => by
  simp only [List.cons.injEq] at e
  exact ⟨e.1, e.2.1, e.2.2⟩
 have fin : ∀ {U V : List Nat}, U.reverse = V.reverse → U = V := fun e => by simpa using congrArg List.reverse e
 rcases hP with rfl | ⟨z, hz, rfl⟩ <;> rcases hP' with rfl | ⟨z', hz', rfl⟩
 ·obtain ⟨a, b, e⟩ := key (by simpa using h2)
  refine ⟨b, a, rfl, fin ?_⟩
  simpa using e
 ·simp at h2
  omega
 ·simp at h2
  omega
 ·simp only [List.reverse_cons, List.reverse_nil, List.nil_append, List.cons_append, List.cons.injEq] at h2
  obtain ⟨e1, -, e⟩ := h2
  obtain ⟨a, b, e⟩ := key (by simpa using e)
  refine ⟨b, a, by rw [e1], fin ?_⟩
  simpa using e
theorem src_mem {p : PosZ} {l : List MoveZ} {m x : MoveZ} (hx : x ∈ l) (h0 : 0 ≤ x.src) (hne : x.src ≠ m.src) (hd : x.dst = m.dst) (hc : p.cells.getD x.src.toNat 0 = p.cells.getD m.src.toNat 0) : x.src ∈ rivals p l m := by
 unfold rivals
 refine List.mem_map.2 ⟨x, List.mem_filter.2 ⟨hx, ?_⟩, rfl⟩
 unfold rivB
 simp only [h0, decide_true, hd, hc, beq_self_eq_true, Bool.and_true, Bool.true_and]
 simp [hne]
/-- no two legal moves have the same text. -/
theorem text_inj {R : RulesZ} (L : LetOk R) {p : PosZ} (K : POk R p) {m m' : MoveZ} (hm : m ∈ listZ R p) (hm' : m' ∈ listZ R p) (h : ofT R p (listZ R p) m = ofT R p (listZ R p) m') : m = m' := by
 have F := fits_of K hm
 have F' := fits_of K hm'
 obtain ⟨hd1, hd2⟩ := F.d
 obtain ⟨hd1', hd2'⟩ := F'.d
 have hcl := K.cl
 have hb := congrArg bts h
 have hp := L.rg m.piece.toNat (by have := F.k; omega)
 have hp' := L.rg m'.piece.toNat (by have := F'.k; omega)
 have gd := sq_rg K.r hd1 (by omega)
 have gd' := sq_rg K.r hd1' (by omega)
 have second : ∀ {x : MoveZ}, x ∈ listZ R p → 0 ≤ x.src → ∀ {y : MoveZ}, y ∈ listZ R p → y.src = -1 → bts (ofT R p (listZ R p) x) ≠ bts (ofT R p (listZ R p) y) := by
  intro x hx hxs y hy hys e
  rw [of_board L K hx hxs, of_put L K hy hys] at e
  have Fx := fits_of K hx
  have hxd := Fx.d
  have hxl := Fx.s
  simp only [List.cons.injEq] at e
  have e := e.2
  have g := sq_rg K.r hxs (by omega)
  have gx := sq_rg K.r hxd.1 (by omega)
  rcases mark_cases K.r p (listZ R p) x hxs (by omega) with ⟨-, q⟩ | ⟨-, q⟩ | ⟨-, q⟩ | q <;> rw [q] at e
  ·split at e
   ·simp at e
   ·simp at e; omega
  ·simp at e; omega
  ·simp at e; omega
  ·simp at e; omega
 obtain ⟨s, d, k⟩ := m
 obtain ⟨s', d', k'⟩ := m'
 rcases legal_src hm with hs | ⟨hs, hsl, hsc, hst⟩ <;> rcases legal_src hm' with hs' | ⟨hs', hsl', hsc', hst'⟩
 ·rw [of_put L K hm hs, of_put L K hm' hs'] at hb
  simp only [List.cons.injEq] at hb
  have hd := dst_inj K.r hd1 (by omega) hd1' (by omega) hb.2.2.1 hb.2.2.2.1
  have hk := let_inj L (i := k.toNat) (j := k'.toNat) (by have := F.k; simp only at this; omega) (by have := F'.k; simp only at this; omega) (by have := hb.1; simp only at hp hp' this ⊢; omega)
  have f1 := F.k.1
  have f2 := F'.k.1
  simp only at hd hs hs' f1 f2
  subst hd
  rw [hs, hs', show k = k' by omega]
 ·exact absurd hb.symm (second hm' hs' hm hs)
 ·exact absurd hb (second hm hs hm' hs')
 ·rw [of_board L K hm hs, of_board L K hm' hs'] at hb
  have prom : ∀ {x : MoveZ}, 65 ≤ (R.pieces.getD x.piece.toNat default).letter → ((if x.piece ≠ kindZ p x then [61, (R.pieces.getD x.piece.toNat default).letter.toNat] else []) = [] ∨ ∃ z, 65 ≤ z ∧ (if x.piece ≠ kindZ p x then [61, (R.pieces.getD x.piece.toNat default).letter.toNat] else []) = [61, z]) := by
   intro x hx
   split
   ·exact .inr ⟨_, by omega, rfl⟩
   ·exact .inl rfl
  obtain ⟨hA, hc, hr, hP, hMX⟩ := parts_inj (by omega) (by omega) (prom hp.1) (prom hp'.1) hb
  have hd := dst_inj K.r hd1 (by omega) hd1' (by omega) hc hr
  have hc1 := K.cell s.toNat
  have hc2 := K.cell s'.toNat
  simp only at hd hs hs' hsl hsl' hsc hsc' hst hst' hc1 hc2
  subst hd
  have hkk : (kindZ p ⟨s, d, k⟩).toNat = (kindZ p ⟨s', d, k'⟩).toNat := by
   refine let_inj L ?_ ?_ ?_
   ·unfold kindZ; simp only; omega
   ·unfold kindZ; simp only; omega
   ·have r1 := L.rg (kindZ p ⟨s, d, k⟩).toNat (by unfold kindZ; simp only; omega)
    have r2 := L.rg (kindZ p ⟨s', d, k'⟩).toNat (by unfold kindZ; simp only; omega)
    omega
  have hkz : kindZ p ⟨s, d, k⟩ = kindZ p ⟨s', d, k'⟩ := by
   unfold kindZ at hkk ⊢
   simp only at hkk ⊢
   omega
  have hcell : p.cells.getD s.toNat 0 = p.cells.getD s'.toNat 0 := by
   unfold kindZ at hkz
   simp only at hkz
   omega
  have hM : bts (markT R p (listZ R p) ⟨s, d, k⟩) = bts (markT R p (listZ R p) ⟨s', d, k'⟩) := List.append_cancel_right hMX
  have hss : s = s' := by
   by_cases e : s = s'
   ·exact e
   ·exfalso
    have m1 : s' ∈ rivals p (listZ R p) ⟨s, d, k⟩ := src_mem (x := ⟨s', d, k'⟩) hm' hs' (fun q => e q.symm) rfl hcell.symm
    have m2 : s ∈ rivals p (listZ R p) ⟨s', d, k'⟩ := src_mem (x := ⟨s, d, k⟩) hm hs e rfl hcell
    have g1 := sq_rg K.r hs (show s < _ by omega)
    have g2 := sq_rg K.r hs' (show s' < _ by omega)
    rcases mark_cases K.r p (listZ R p) ⟨s, d, k⟩ hs (show s < _ by omega) with ⟨q, -⟩ | ⟨q, z⟩ | ⟨q, z⟩ | z
    ·rw [q] at m1; cases m1
    all_goals
     rcases mark_cases K.r p (listZ R p) ⟨s', d, k'⟩ hs' (show s' < _ by omega) with ⟨q', -⟩ | ⟨q', z'⟩ | ⟨q', z'⟩ | z'
     ·rw [q'] at m2; cases m2
     all_goals
      rw [z, z'] at hM
      (try simp only [List.cons.injEq, and_true, reduceCtorEq, and_false] at hM) <;> first
       | omega
       | (have := q _ m1; simp only at this; omega)
       | exact e (dst_inj K.r hs (show s < _ by omega) hs' (show s' < _ by omega) hM.1 hM.2)
  subst hss
  have hpk : k = k' := by
   simp only [hkz] at hP
   have f1 := F.k
   have f2 := F'.k
   simp only at f1 f2 hp hp'
   split at hP <;> split at hP
   ·simp only [List.cons.injEq, true_and, and_true] at hP
    have := let_inj L (i := k.toNat) (j := k'.toNat) (by omega) (by omega) (by omega)
    omega
   ·cases hP
   ·cases hP
   ·rename_i a b
    have a' : k = kindZ p ⟨s, d, k'⟩ := by
     by_cases q : k = kindZ p ⟨s, d, k'⟩
     ·exact q
     ·exact absurd q a
    have b' : k' = kindZ p ⟨s, d, k'⟩ := by
     by_cases q : k' = kindZ p ⟨s, d, k'⟩
     ·exact q
     ·exact absurd q b
    rw [a', ← b']
  rw [hpk]
end Go.Proofs.YthklhndcdijneaaGreatDoor
/- slices.IndexFunc and ContainsFunc at []int: the predicate may make memory. -/
namespace Go.Proofs.YthklhndcdijneaaGreatDoor
open Go.ChangeShapes Go.WideShapes Go.ChangeAt Go.RowKit
set_option linter.unusedVariables false
set_option maxHeartbeats 8000000
set_option maxRecDepth 100000
theorem IndexFuncW_any (v : Value) (zs : List Int) (p : Int → Bool) (f : FuncId) (caps : Array Value) (w : World) (h : RdI w v zs) (hf : ∀ (args : Array Value) (w : World), (callFunc f args).run Tryz.prog w = .ok (.enter f args) w)
  (hc : ∀ (W : World) (z : Int), z ∈ zs → Below w.heap.size w W → Calls Tryz.prog f (#[.int .i64 z] ++ caps) W fun e w' => e = .returned (.bool (p z)) ∧ Below W.heap.size W w') :
  Calls Tryz.prog 60 #[v, .func (.func f) #[] caps] w fun e w' => e = .returned (.int .i64 (idxI p zs 0)) ∧ Below w.heap.size w w' := by
 obtain ⟨a, c, rfl, h1, h2⟩ := h.form
 unfold maxLen at h2
 have HR := Lib.hid h
 have HC := Lib.hid hc
 clear h hc
 go_enter Tryz.func60, Tryz.ntmps60
 go_wp2_with fail
 go_loopw [8] (fun i wr => ∃ k : Nat, k ≤ zs.length ∧ i = .int .i64 k ∧ Hid (idxI p zs 0 = idxI p (zs.drop k) k) ∧ Below w.heap.size w wr) (fun i _ => zs.length - (intOf i).toNat)
 case atStart => exact ⟨0, Nat.zero_le _, rfl, Lib.hid rfl, Below.refl _ _⟩
 case round =>
  obtain ⟨k, hk, rfl, HK, hbl⟩ := hrel
  by_cases hlt : k < zs.length
  ·obtain ⟨g, o, rfl, hcell⟩ := cells_rd (HR.out.below hbl (Nat.le_refl _)) (by omega)
   have ck := hcell k hlt
   have HS := Lib.hid (idxI_step p zs k hlt)
   have HCk := Lib.hid (HC.out wr (zs.getD k 0) (by rw [List.getD_eq_getElem?_getD, List.getElem?_eq_getElem hlt]; exact List.getElem_mem hlt) hbl)
   have HB := Lib.hid hbl
   clear hcell hbl
   generalize zs.getD k 0 = z at *
   go_wp2_with fail
   refine HCk.out.mono ?_
   rintro e w1 ⟨rfl, hb1⟩
   have HB1 := Lib.hid (below_trans HB.out hb1 HB.out.size)
   clear hb1
   cases hp : p z
   ·go_wp2_with fail
    go_roundw
    case rel => exact ⟨k + 1, by omega, by go_num, Lib.hid (by rw [HK.out, HS.out, if_neg (by simp [hp])]), HB1.out⟩
    case measure => simp [intOf]; omega
   ·go_wp2_with fail
    go_ret
    exact ⟨by rw [HK.out, HS.out, if_pos hp]; rfl, HB1.out⟩
  ·obtain rfl : k = zs.length := by omega
   go_wp2_with fail
   go_ret
   exact ⟨by rw [HK.out]; simp [idxI], hbl⟩
theorem ContainsFuncW_any (v : Value) (zs : List Int) (p : Int → Bool) (f : FuncId) (caps : Array Value) (w : World) (h : RdI w v zs) (hf : ∀ (args : Array Value) (w : World), (callFunc f args).run Tryz.prog w = .ok (.enter f args) w)
  (hc : ∀ (W : World) (z : Int), z ∈ zs → Below w.heap.size w W → Calls Tryz.prog f (#[.int .i64 z] ++ caps) W fun e w' => e = .returned (.bool (p z)) ∧ Below W.heap.size W w') :
  Calls Tryz.prog 31 #[v, .func (.func f) #[] caps] w fun e w' => e = .returned (.bool (zs.any p)) ∧ Below w.heap.size w w' := by
 have HI := Lib.hid (IndexFuncW_any v zs p f caps w h hf hc)
 have HA := Lib.hid (idxI_any p zs 0 (by omega))
 clear h hc hf
 go_enter Tryz.func31, Tryz.ntmps31
 go_wp2_with fail
 refine HI.out.mono ?_
 rintro e w' ⟨rfl, hb⟩
 have HB := Lib.hid hb
 clear hb
 go_wp2_with fail
 go_ret
 exact ⟨by rw [← HA.out]; rfl, HB.out⟩
end Go.Proofs.YthklhndcdijneaaGreatDoor
/- The contracts of movetext.column, row, square, letter, mark, Of. -/
namespace Go.Proofs.YthklhndcdijneaaGreatDoor
open Go.ChangeShapes Go.WideShapes Go.ChangeAt Go.RowKit
set_option linter.unusedVariables false
set_option maxHeartbeats 8000000
set_option maxRecDepth 100000
theorem column_any (R : RulesZ) (vp vs ve : Value) (n : Int) (w : World) (K : ROk R) (h0 : 0 ≤ n) (h1 : n < R.width * R.height) :
  Calls Tryz.prog 119 #[(.agg #[.string R.name, .int .i64 R.width, .int .i64 R.height, vp, vs, .bool R.falls, .bool R.keeps, ve, .int .i64 R.blocked, .int .i64 R.quiet, .int .i64 R.rept]), .int .i64 n] w fun e w' => e = .returned (.string (colT R n)) ∧ Below w.heap.size w w' := by
 have HD : Hid (colT R n = Utf8.encode (97 + n % R.width)) := Lib.hid rfl
 obtain ⟨hw1, hw2⟩ := K.w
 obtain ⟨s1, s2, s3, s4⟩ := sq_rg K h0 h1
 have ht : Int.tmod n R.width = n % R.width := Int.tmod_eq_emod_of_nonneg h0
 have hwne : R.width ≠ 0 := by omega
 clear K
 go_enter Tryz.func119, Tryz.ntmps119
 go_upto_region 1 with (fail)
 refine opn1 fun w0 B0 yb_ hs_ => ?_
 have HB := Lib.hid yb_
 have hz0 : w.heap.size < w0.heap.size := by omega
 clear hs_ yb_
 have HX := Lib.hid B0
 clear B0
 have q1 := HX.out.cell 1 rfl
 generalize n % R.width = z at *
 go_wp2_with fail
 go_ret
 exact ⟨by rw [HD.out]; rfl, HB.out⟩
theorem row_any (R : RulesZ) (vp vs ve : Value) (n : Int) (w : World) (K : ROk R) (h0 : 0 ≤ n) (h1 : n < R.width * R.height) :
  Calls Tryz.prog 120 #[(.agg #[.string R.name, .int .i64 R.width, .int .i64 R.height, vp, vs, .bool R.falls, .bool R.keeps, ve, .int .i64 R.blocked, .int .i64 R.quiet, .int .i64 R.rept]), .int .i64 n] w fun e w' => e = .returned (.string (rowT R n)) ∧ Below w.heap.size w w' := by
 have HD : Hid (rowT R n = Utf8.encode (49 + n / R.width)) := Lib.hid rfl
 obtain ⟨hw1, hw2⟩ := K.w
 obtain ⟨s1, s2, s3, s4⟩ := sq_rg K h0 h1
 have ht : Int.tdiv n R.width = n / R.width := Int.tdiv_eq_ediv_of_nonneg h0
 have hwne : R.width ≠ 0 := by omega
 clear K
 go_enter Tryz.func120, Tryz.ntmps120
 go_upto_region 1 with (fail)
 refine opn1 fun w0 B0 yb_ hs_ => ?_
 have HB := Lib.hid yb_
 have hz0 : w.heap.size < w0.heap.size := by omega
 clear hs_ yb_
 have HX := Lib.hid B0
 clear B0
 have q1 := HX.out.cell 1 rfl
 generalize n / R.width = z at *
 go_wp2_with fail
 go_ret
 exact ⟨by rw [HD.out]; rfl, HB.out⟩
theorem square_any (R : RulesZ) (vp vs ve : Value) (n : Int) (w : World) (K : ROk R) (h0 : 0 ≤ n) (h1 : n < R.width * R.height) :
  Calls Tryz.prog 89 #[(.agg #[.string R.name, .int .i64 R.width, .int .i64 R.height, vp, vs, .bool R.falls, .bool R.keeps, ve, .int .i64 R.blocked, .int .i64 R.quiet, .int .i64 R.rept]), .int .i64 n] w fun e w' => e = .returned (.string (sqT R n)) ∧ Below w.heap.size w w' := by
 have HD : Hid (sqT R n = colT R n ++ rowT R n) := Lib.hid rfl
 have z1 : (colT R n).size = 1 := by rw [← bts_size, colT_bts K h0 h1]; rfl
 have z2 : (rowT R n).size = 1 := by rw [← bts_size, rowT_bts K h0 h1]; rfl
 have HK := Lib.hid K
 clear K
 go_enter Tryz.func89, Tryz.ntmps89
 go_upto_region 1 with (fail)
 refine opn1 fun w0 B0 yb_ hs_ => ?_
 have HB := Lib.hid yb_
 have hz0 : w.heap.size < w0.heap.size := by omega
 clear hs_ yb_
 have Bz : Box w0.drew w.heap.size [.string R.name, .int .i64 R.width, .int .i64 R.height, vp, vs, .bool R.falls, .bool R.keeps, ve, .int .i64 R.blocked, .int .i64 R.quiet, .int .i64 R.rept] 26 := B0
 have Lz : Below w.heap.size w w0.drew := below_drew' HB.out
 clear B0 HB hz0
 refine wp_region_noPanic ?_
 refine beginL (S := (fun w' => w'.cell? ⟨w.heap.size, 0, none⟩ = some (.string R.name) ∧ w'.cell? ⟨w.heap.size, 1, none⟩ = some (.int .i64 R.width) ∧ w'.cell? ⟨w.heap.size, 2, none⟩ = some (.int .i64 R.height) ∧ w'.cell? ⟨w.heap.size, 3, none⟩ = some vp ∧ w'.cell? ⟨w.heap.size, 4, none⟩ = some vs ∧ w'.cell? ⟨w.heap.size, 5, none⟩ = some (.bool R.falls) ∧ w'.cell? ⟨w.heap.size, 6, none⟩ = some (.bool R.keeps) ∧ w'.cell? ⟨w.heap.size, 7, none⟩ = some ve ∧ w'.cell? ⟨w.heap.size, 8, none⟩ = some (.int .i64 R.blocked) ∧ w'.cell? ⟨w.heap.size, 9, none⟩ = some (.int .i64 R.quiet) ∧ w'.cell? ⟨w.heap.size, 10, none⟩ = some (.int .i64 R.rept))) (L := []) (by kernel_rfl) (by and_intros <;> exact Bz.cell _ rfl) (fun hHeld => ?_)
 refine tkL 0 ?_
 refine tkW 1 ?_
 refine tkL 3 ?_
 refine tkW 4 ?_
 refine cnL 2 fun K hK => ?_
 go_simp
 refine (column_any R vp vs ve n _ HK.out h0 h1).mono ?_
 rintro e w2 ⟨rfl, hb2⟩
 have B2 := Bz.stays hb2
 have L2 := below_trans Lz hb2 Lz.size
 clear hb2
 refine hK.out _ _ (by and_intros <;> exact B2.cell _ rfl) (fun hHeld => ?_)
 clear hK K
 refine cnL 5 fun K hK => ?_
 go_simp
 refine (row_any R vp vs ve n _ HK.out h0 h1).mono ?_
 rintro e w5 ⟨rfl, hb5⟩
 have B5 := B2.stays hb5
 have L5 := below_trans L2 hb5 L2.size
 clear hb5
 refine hK.out _ _ (by and_intros <;> exact B5.cell _ rfl) (fun hHeld => ?_)
 clear hK K
 refine tkW 6 ?_
 refine tkW 7 ?_
 refine dnN ?_
 have HL := Lib.hid L5
 clear hHeld B2 L2 B5 L5 Bz Lz
 go_wp2_with fail
 go_ret
 exact ⟨by rw [HD.out]; rfl, HL.out⟩
theorem letter_any (R : RulesZ) (vp vs ve : Value) (k : Int) (w : World) (hr : RdL pieceEl w vp R.pieces) (K : ROk R) (L : LetOk R) (h0 : 0 ≤ k) (h1 : k < R.pieces.length) :
  Calls Tryz.prog 88 #[(.agg #[.string R.name, .int .i64 R.width, .int .i64 R.height, vp, vs, .bool R.falls, .bool R.keeps, ve, .int .i64 R.blocked, .int .i64 R.quiet, .int .i64 R.rept]), .int .i64 k] w fun e w' => e = .returned (.string (letT R k)) ∧ Below w.heap.size w w' := by
 have HD : Hid (letT R k = Utf8.encode (R.pieces.getD k.toNat default).letter) := Lib.hid rfl
 have HR := Lib.hid hr
 obtain ⟨np1, np2⟩ := K.np
 obtain ⟨l1, l2⟩ := L.rg k.toNat (by omega)
 obtain ⟨a, c, rfl, hl1, hl2⟩ := hr.form
 unfold maxLen at hl2
 clear hr K L
 go_enter Tryz.func88, Tryz.ntmps88
 go_upto_region 1 with (fail)
 refine opn1 fun w0 B0 yb_ hs_ => ?_
 have HB := Lib.hid yb_
 have hz0 : w.heap.size < w0.heap.size := by omega
 clear hs_ yb_
 have HX := Lib.hid B0
 clear B0
 have q3 := HX.out.cell 3 rfl
 obtain ⟨gp, op, rfl, hgp, hpc⟩ := pieces_some (HR.out.below HB.out (Nat.le_refl _)) (by omega)
 obtain ⟨vw, c0, -, -, -, -⟩ := hpc k.toNat (by omega)
 clear hpc
 generalize (R.pieces.getD k.toNat default).letter = z at *
 go_wp2_with fail
 go_ret
 exact ⟨by rw [HD.out]; rfl, HB.out⟩
theorem info_intM : (Tryz.prog.info? 3).map (fun i => (i.zero, i.size, i.bytes)) = some (some (.int .i64 0), 1, 8) := by kernel_rfl
theorem riv_succ (p : PosZ) (l : List MoveZ) (m : MoveZ) (k : Nat) (h : k < l.length) : rivals p (l.take (k + 1)) m = rivals p (l.take k) m ++ (if rivB p m (l.getD k default) = true then [(l.getD k default).src] else []) := by
 unfold rivals
 rw [List.take_succ_eq_append_getElem h, List.filter_append, List.map_append, List.getD_eq_getElem?_getD, List.getElem?_eq_getElem h]
 congr 1
 simp only [List.filter_cons, List.filter_nil, Option.getD_some]
 split <;> simp
theorem riv_len (p : PosZ) (l : List MoveZ) (m : MoveZ) : (rivals p l m).length ≤ l.length := by
 unfold rivals
 rw [List.length_map]
 exact List.length_filter_le _ _
theorem riv_pos (p : PosZ) (l : List MoveZ) (m : MoveZ) (hl : ∀ x ∈ l, x.src < p.cells.length) : ∀ z ∈ rivals p l m, 0 ≤ z ∧ z < p.cells.length := by
 intro z hz
 unfold rivals at hz
 obtain ⟨x, hx, rfl⟩ := List.mem_map.1 hz
 have := (List.mem_filter.1 hx).2
 unfold rivB at this
 simp only [Bool.and_eq_true, decide_eq_true_eq] at this
 exact ⟨this.1.1.1, hl x (List.mem_filter.1 hx).1⟩
theorem callMk2 (args : Array Value) (w : World) : (callFunc 122 args).run Tryz.prog w = .ok (.enter 122 args) w := by kernel_rfl
theorem callMk3 (args : Array Value) (w : World) : (callFunc 123 args).run Tryz.prog w = .ok (.enter 123 args) w := by kernel_rfl
theorem mk2_any (R : RulesZ) (vp vs ve : Value) (m : MoveZ) (z : Int) (b0 b2 : Nat) (w : World) (B0 : Box w b0 [.string R.name, .int .i64 R.width, .int .i64 R.height, vp, vs, .bool R.falls, .bool R.keeps, ve, .int .i64 R.blocked, .int .i64 R.quiet, .int .i64 R.rept] 26) (B2 : Box w b2 [.int .i64 m.src, .int .i64 m.dst, .int .i64 m.piece] 44) (hw : 1 ≤ R.width) (hz : 0 ≤ z) (hm : 0 ≤ m.src) :
  Calls Tryz.prog 122 (#[.int .i64 z] ++ #[.pointer (some ⟨b0, 0, none⟩), .pointer (some ⟨b2, 0, none⟩)]) w fun e w' => e = .returned (.bool (z % R.width == m.src % R.width)) ∧ Below w.heap.size w w' := by
 show Calls Tryz.prog 122 #[.int .i64 z, .pointer (some ⟨b0, 0, none⟩), .pointer (some ⟨b2, 0, none⟩)] w _
 have q1 := B0.cell 1 rfl
 have x0 := B2.cell 0 rfl
 have t1 : Int.tmod z R.width = z % R.width := Int.tmod_eq_emod_of_nonneg hz
 have t2 : Int.tmod m.src R.width = m.src % R.width := Int.tmod_eq_emod_of_nonneg hm
 have hwne : R.width ≠ 0 := by omega
 clear B0 B2
 go_enter Tryz.func122, Tryz.ntmps122
 go_upto_region 1 with (fail)
 go_quiet (fail)
 go_wp2_with fail
 go_ret
 exact ⟨rfl, below_drewN (Below.refl _ _) _⟩
theorem mk3_any (R : RulesZ) (vp vs ve : Value) (m : MoveZ) (z : Int) (b0 b2 : Nat) (w : World) (B0 : Box w b0 [.string R.name, .int .i64 R.width, .int .i64 R.height, vp, vs, .bool R.falls, .bool R.keeps, ve, .int .i64 R.blocked, .int .i64 R.quiet, .int .i64 R.rept] 26) (B2 : Box w b2 [.int .i64 m.src, .int .i64 m.dst, .int .i64 m.piece] 44) (hw : 1 ≤ R.width) (hz : 0 ≤ z) (hz2 : z ≤ 1000) (hm : 0 ≤ m.src) (hm2 : m.src ≤ 1000) :
  Calls Tryz.prog 123 (#[.int .i64 z] ++ #[.pointer (some ⟨b0, 0, none⟩), .pointer (some ⟨b2, 0, none⟩)]) w fun e w' => e = .returned (.bool (z / R.width == m.src / R.width)) ∧ Below w.heap.size w w' := by
 show Calls Tryz.prog 123 #[.int .i64 z, .pointer (some ⟨b0, 0, none⟩), .pointer (some ⟨b2, 0, none⟩)] w _
 have q1 := B0.cell 1 rfl
 have x0 := B2.cell 0 rfl
 have t1 : Int.tdiv z R.width = z / R.width := Int.tdiv_eq_ediv_of_nonneg hz
 have t2 : Int.tdiv m.src R.width = m.src / R.width := Int.tdiv_eq_ediv_of_nonneg hm
 have hwne : R.width ≠ 0 := by omega
 have d1 := Int.ediv_nonneg hz (show 0 ≤ R.width by omega)
 have d2 := Int.ediv_nonneg hm (show 0 ≤ R.width by omega)
 have d3 := Int.ediv_le_self R.width hz
 have d4 := Int.ediv_le_self R.width hm
 generalize z / R.width = zq at *
 generalize m.src / R.width = mq at *
 clear B0 B2
 go_enter Tryz.func123, Tryz.ntmps123
 go_upto_region 1 with (fail)
 go_quiet (fail)
 go_wp2_with fail
 go_ret
 exact ⟨rfl, below_drewN (Below.refl _ _) _⟩
theorem mk1_any (f : FuncId) (caps : Array Value) (p : Int → Bool) (v : Value) (zs : List Int) (rb : Nat) (w : World) (B : Box w rb [v] 23) (h : RdI w v zs) (hf : ∀ (args : Array Value) (w : World), (callFunc f args).run Tryz.prog w = .ok (.enter f args) w)
  (hc : ∀ (W : World) (z : Int), z ∈ zs → Below w.heap.size w W → Calls Tryz.prog f (#[.int .i64 z] ++ caps) W fun e w' => e = .returned (.bool (p z)) ∧ Below W.heap.size W w') :
  Calls Tryz.prog 121 #[.func (.func f) #[] caps, .pointer (some ⟨rb, 0, none⟩)] w fun e w' => e = .returned (.bool (zs.any p)) ∧ Below w.heap.size w w' := by
 have HC := Lib.hid (ContainsFuncW_any v zs p f caps w h hf hc)
 have q0 := B.cell 0 rfl
 obtain ⟨a, c, rfl, h1, h2⟩ := h.form
 clear h hf hc B
 go_enter Tryz.func121, Tryz.ntmps121
 go_wp2_with fail
 refine HC.out.mono ?_
 rintro e w1 ⟨rfl, hb1⟩
 have HB1 := Lib.hid hb1
 clear hb1
 go_wp2_with fail
 go_ret
 exact ⟨rfl, HB1.out⟩
theorem mark_any (R : RulesZ) (vp vs ve : Value) (p : PosZ) (vc v0 v1 : Value) (m : MoveZ) (v : Value) (l : List MoveZ) (w : World) (hp : RdI w vc p.cells) (hl : RdL moveEl w v l) (K : POk R p) (hlf : ∀ x ∈ l, x.src < p.cells.length) (hll : l.length ≤ 1000000) (hm : 0 ≤ m.src ∧ m.src < p.cells.length) :
  Calls Tryz.prog 90 #[(.agg #[.string R.name, .int .i64 R.width, .int .i64 R.height, vp, vs, .bool R.falls, .bool R.keeps, ve, .int .i64 R.blocked, .int .i64 R.quiet, .int .i64 R.rept]), (.agg #[vc, v0, v1, .int .i64 p.turn, .int .i64 p.quiet]), v, .agg #[.int .i64 m.src, .int .i64 m.dst, .int .i64 m.piece]] w fun e w' => e = .returned (.string (markT R p l m)) ∧ Below w.heap.size w w' := by
 have HD : Hid (markT R p l m = if (rivals p l m).length = 0 then ByteArray.empty
 else if (rivals p l m).any (fun n => n % R.width == m.src % R.width) = false then colT R m.src
 else if (rivals p l m).any (fun n => n / R.width == m.src / R.width) = false then rowT R m.src
 else sqT R m.src) := Lib.hid rfl
 have HP := Lib.hid hp
 have HL := Lib.hid hl
 have HK := Lib.hid K
 have HLF := Lib.hid hlf
 obtain ⟨hm0, hm1⟩ := hm
 have hm2 : m.src < R.width * R.height := by have := K.cl; omega
 have HM2 := Lib.hid hm2
 obtain ⟨ac, cc, rfl, hc1, hc2⟩ := hp.form
 obtain ⟨al, cl, rfl, hl1, hl2⟩ := hl.form
 unfold maxLen at hc2 hl2
 obtain ⟨hw1, hw2⟩ := K.r.w
 clear hp hl K hlf hm2
 go_enter Tryz.func90, Tryz.ntmps90
 go_upto_region 2 with (fail)
 have B0 : Box ((((w.alloc (.cells #[.string R.name, .int .i64 R.width, .int .i64 R.height, vp, vs, .bool R.falls, .bool R.keeps, ve, .int .i64 R.blocked, .int .i64 R.quiet, .int .i64 R.rept] 26)).alloc (.cells #[.slice ac p.cells.length cc, v0, v1, .int .i64 p.turn, .int .i64 p.quiet] 66)).alloc (.cells #[.int .i64 m.src, .int .i64 m.dst, .int .i64 m.piece] 44)).alloc (.cells #[.slice none 0 0] 23)) (w.heap.size) [.string R.name, .int .i64 R.width, .int .i64 R.height, vp, vs, .bool R.falls, .bool R.keeps, ve, .int .i64 R.blocked, .int .i64 R.quiet, .int .i64 R.rept] 26 := ((((Box.new' w (w.heap.size) [.string R.name, .int .i64 R.width, .int .i64 R.height, vp, vs, .bool R.falls, .bool R.keeps, ve, .int .i64 R.blocked, .int .i64 R.quiet, .int .i64 R.rept] 26 (by simp <;> omega)).alloc _).alloc _).alloc _)
 have B1 : Box ((((w.alloc (.cells #[.string R.name, .int .i64 R.width, .int .i64 R.height, vp, vs, .bool R.falls, .bool R.keeps, ve, .int .i64 R.blocked, .int .i64 R.quiet, .int .i64 R.rept] 26)).alloc (.cells #[.slice ac p.cells.length cc, v0, v1, .int .i64 p.turn, .int .i64 p.quiet] 66)).alloc (.cells #[.int .i64 m.src, .int .i64 m.dst, .int .i64 m.piece] 44)).alloc (.cells #[.slice none 0 0] 23)) (w.heap.size + 1) [.slice ac p.cells.length cc, v0, v1, .int .i64 p.turn, .int .i64 p.quiet] 66 := (((Box.new' (w.alloc (.cells #[.string R.name, .int .i64 R.width, .int .i64 R.height, vp, vs, .bool R.falls, .bool R.keeps, ve, .int .i64 R.blocked, .int .i64 R.quiet, .int .i64 R.rept] 26)) (w.heap.size + 1) [.slice ac p.cells.length cc, v0, v1, .int .i64 p.turn, .int .i64 p.quiet] 66 (by simp <;> omega)).alloc _).alloc _)
 have B2 : Box ((((w.alloc (.cells #[.string R.name, .int .i64 R.width, .int .i64 R.height, vp, vs, .bool R.falls, .bool R.keeps, ve, .int .i64 R.blocked, .int .i64 R.quiet, .int .i64 R.rept] 26)).alloc (.cells #[.slice ac p.cells.length cc, v0, v1, .int .i64 p.turn, .int .i64 p.quiet] 66)).alloc (.cells #[.int .i64 m.src, .int .i64 m.dst, .int .i64 m.piece] 44)).alloc (.cells #[.slice none 0 0] 23)) (w.heap.size + 1 + 1) [.int .i64 m.src, .int .i64 m.dst, .int .i64 m.piece] 44 := ((Box.new' ((w.alloc (.cells #[.string R.name, .int .i64 R.width, .int .i64 R.height, vp, vs, .bool R.falls, .bool R.keeps, ve, .int .i64 R.blocked, .int .i64 R.quiet, .int .i64 R.rept] 26)).alloc (.cells #[.slice ac p.cells.length cc, v0, v1, .int .i64 p.turn, .int .i64 p.quiet] 66)) (w.heap.size + 1 + 1) [.int .i64 m.src, .int .i64 m.dst, .int .i64 m.piece] 44 (by simp <;> omega)).alloc _)
 have B3 : Box ((((w.alloc (.cells #[.string R.name, .int .i64 R.width, .int .i64 R.height, vp, vs, .bool R.falls, .bool R.keeps, ve, .int .i64 R.blocked, .int .i64 R.quiet, .int .i64 R.rept] 26)).alloc (.cells #[.slice ac p.cells.length cc, v0, v1, .int .i64 p.turn, .int .i64 p.quiet] 66)).alloc (.cells #[.int .i64 m.src, .int .i64 m.dst, .int .i64 m.piece] 44)).alloc (.cells #[.slice none 0 0] 23)) (w.heap.size + 1 + 1 + 1) [.slice none 0 0] 23 := (Box.new' (((w.alloc (.cells #[.string R.name, .int .i64 R.width, .int .i64 R.height, vp, vs, .bool R.falls, .bool R.keeps, ve, .int .i64 R.blocked, .int .i64 R.quiet, .int .i64 R.rept] 26)).alloc (.cells #[.slice ac p.cells.length cc, v0, v1, .int .i64 p.turn, .int .i64 p.quiet] 66)).alloc (.cells #[.int .i64 m.src, .int .i64 m.dst, .int .i64 m.piece] 44)) (w.heap.size + 1 + 1 + 1) [.slice none 0 0] 23 (by simp <;> omega))
 have HB : Hid (Below w.heap.size w ((((w.alloc (.cells #[.string R.name, .int .i64 R.width, .int .i64 R.height, vp, vs, .bool R.falls, .bool R.keeps, ve, .int .i64 R.blocked, .int .i64 R.quiet, .int .i64 R.rept] 26)).alloc (.cells #[.slice ac p.cells.length cc, v0, v1, .int .i64 p.turn, .int .i64 p.quiet] 66)).alloc (.cells #[.int .i64 m.src, .int .i64 m.dst, .int .i64 m.piece] 44)).alloc (.cells #[.slice none 0 0] 23))) := Lib.hid (((((Below.refl w.heap.size w).alloc (Nat.le_refl _) _).alloc (by simp <;> omega) _).alloc (by simp <;> omega) _).alloc (by simp <;> omega) _)
 have hz0 : w.heap.size + 1 + 1 + 1 < ((((w.alloc (.cells #[.string R.name, .int .i64 R.width, .int .i64 R.height, vp, vs, .bool R.falls, .bool R.keeps, ve, .int .i64 R.blocked, .int .i64 R.quiet, .int .i64 R.rept] 26)).alloc (.cells #[.slice ac p.cells.length cc, v0, v1, .int .i64 p.turn, .int .i64 p.quiet] 66)).alloc (.cells #[.int .i64 m.src, .int .i64 m.dst, .int .i64 m.piece] 44)).alloc (.cells #[.slice none 0 0] 23)).heap.size := by simp
 generalize ((((w.alloc (.cells #[.string R.name, .int .i64 R.width, .int .i64 R.height, vp, vs, .bool R.falls, .bool R.keeps, ve, .int .i64 R.blocked, .int .i64 R.quiet, .int .i64 R.rept] 26)).alloc (.cells #[.slice ac p.cells.length cc, v0, v1, .int .i64 p.turn, .int .i64 p.quiet] 66)).alloc (.cells #[.int .i64 m.src, .int .i64 m.dst, .int .i64 m.piece] 44)).alloc (.cells #[.slice none 0 0] 23)) = w0 at *
 have HX := Lib.hid B0
 have HY := Lib.hid B1
 have HZ := Lib.hid B2
 have HV := Lib.hid B3
 clear B0 B1 B2 B3
 have hz0' : w.heap.size + 3 < w0.heap.size := by omega
 go_wp2_with fail
 go_loopw [15, 11] (fun vi a11 wr => ∃ (k : Nat) (vo : Value), k ≤ l.length ∧ vi = .int .i64 k ∧ Hid (Box wr (w.heap.size + 3) [vo] 23) ∧ Hid (wr.ownsRow (w.heap.size + 3 + 1) 3 1 vo (rivals p (l.take k) m).length (ints (rivals p (l.take k) m))) ∧ Hid (Below (w.heap.size + 3) w0 wr)) (fun i _ _ => l.length - (intOf i).toNat)
 case atStart => exact ⟨0, .slice none 0 0, Nat.zero_le _, rfl, HV, Lib.hid (World.ownsRow_nil _ _ _ _), Lib.hid (Below.refl _ _)⟩
 case round =>
  obtain ⟨k, vo, hk, rfl, HVr, HO, HBr⟩ := hrel
  have hsz := HBr.out.size
  have HXr := Lib.hid (HX.out.below HBr.out (by omega))
  have HYr := Lib.hid (HY.out.below HBr.out (by omega))
  have HZr := Lib.hid (HZ.out.below HBr.out (by omega))
  have HBw : Hid (Below w.heap.size w wr) := Lib.hid (HB.out.trans (HBr.out.mono (by omega)))
  by_cases hlt : k < l.length
  ·have hrl : (rivals p (l.take k) m).length ≤ k := by
    have := riv_len p (l.take k) m
    rw [List.length_take] at this; omega
   obtain ⟨gl, ol, rfl, hgl, hcc⟩ := moves_some (HL.out.below HBw.out (Nat.le_refl _)) (by omega)
   obtain ⟨c0, c1, c2⟩ := hcc k hlt
   have hxs : (l.getD k default).src < p.cells.length := HLF.out _ (by rw [List.getD_eq_getElem?_getD, List.getElem?_eq_getElem hlt]; exact List.getElem_mem _)
   have HST := Lib.hid (riv_succ p l m k hlt)
   clear hcc
   generalize l.getD k default = x at *
   go_upto_region 5 with (fail)
   have HBm := Lib.hid (Box.new wr [.int .i64 x.src, .int .i64 x.dst, .int .i64 x.piece] 44)
   have hal := ((Below.refl wr.heap.size wr).alloc (Nat.le_refl _) (.cells #[.int .i64 x.src, .int .i64 x.dst, .int .i64 x.piece] 44))
   have HXx := Lib.hid (HXr.out.stays hal)
   have HYx := Lib.hid (HYr.out.stays hal)
   have HZx := Lib.hid (HZr.out.stays hal)
   have HVx := Lib.hid (HVr.out.stays hal)
   have HOx := Lib.hid (own_stays HO.out hal)
   have HBx := Lib.hid (below_trans HBr.out hal (by omega))
   have hzm : wr.heap.size < (wr.alloc (.cells #[.int .i64 x.src, .int .i64 x.dst, .int .i64 x.piece] 44)).heap.size := by simp
   clear c0 c1 c2 hal HXr HYr HZr HVr HO HBr HBw
   generalize (wr.alloc (.cells #[.int .i64 x.src, .int .i64 x.dst, .int .i64 x.piece] 44)) = wx at *
   have HBwx : Hid (Below w.heap.size w wx) := Lib.hid (HB.out.trans (HBx.out.mono (by omega)))
   have d0 := HBm.out.cell 0 rfl
   have d1 := HBm.out.cell 1 rfl
   have z0 := HZx.out.cell 0 rfl
   have z1 := HZx.out.cell 1 rfl
   have p0 := HYx.out.cell 0 rfl
   have rb0 := HVx.out.cell 0 rfl
   have rf0 := HVx.out.frozen 0
   have hrs : w.heap.size + 3 + 1 ≤ wx.heap.size := by have := HVx.out.lt; omega
   by_cases h0 : 0 ≤ x.src
   rotate_left
   ·have HR : Hid (rivals p (l.take (k + 1)) m = rivals p (l.take k) m) := Lib.hid (by rw [HST.out, if_neg (by unfold rivB; simp [h0])]; simp)
    have hg : decide (0 ≤ x.src) = false := by simpa using h0
    clear HST
    go_quiet (fail)
    go_wp2_with fail
    go_roundw
    case rel => exact ⟨k + 1, vo, by omega, by go_num, HVx, by rw [HR.out]; exact HOx, Lib.hid (below_drewN HBx.out _)⟩
    case measure => simp [intOf]; omega
   have hg : decide (0 ≤ x.src) = true := by simpa using h0
   by_cases h1 : x.src = m.src
   ·have HR : Hid (rivals p (l.take (k + 1)) m = rivals p (l.take k) m) := Lib.hid (by rw [HST.out, if_neg (by unfold rivB; simp [h1])]; simp)
    have hgb : (x.src != m.src) = false := by simpa using h1
    clear HST h1
    go_quiet (fail)
    go_wp2_with fail
    go_roundw
    case rel => exact ⟨k + 1, vo, by omega, by go_num, HVx, by rw [HR.out]; exact HOx, Lib.hid (below_drewN HBx.out _)⟩
    case measure => simp [intOf]; omega
   have hgb : (x.src != m.src) = true := by simpa using h1
   by_cases h2 : x.dst = m.dst
   rotate_left
   ·have HR : Hid (rivals p (l.take (k + 1)) m = rivals p (l.take k) m) := Lib.hid (by rw [HST.out, if_neg (by unfold rivB; simp [h2])]; simp)
    have hgc : (x.dst == m.dst) = false := by simpa using h2
    clear HST h1 h2
    go_quiet (fail)
    go_wp2_with fail
    go_roundw
    case rel => exact ⟨k + 1, vo, by omega, by go_num, HVx, by rw [HR.out]; exact HOx, Lib.hid (below_drewN HBx.out _)⟩
    case measure => simp [intOf]; omega
   have hgc : (x.dst == m.dst) = true := by simpa using h2
   obtain ⟨gc, oc, rfl, hcc⟩ := cells_rd (HP.out.below HBwx.out (Nat.le_refl _)) (by omega)
   have e0 := hcc x.src.toNat (by omega)
   have e1 := hcc m.src.toNat (by omega)
   have HRB : Hid (rivB p m x = (p.cells.getD x.src.toNat 0 == p.cells.getD m.src.toNat 0)) := Lib.hid (by unfold rivB; simp [h0, h1, h2])
   clear hcc h1 h2
   generalize p.cells.getD x.src.toNat 0 = cx at *
   generalize p.cells.getD m.src.toNat 0 = cm at *
   by_cases h3 : cx = cm
   rotate_left
   ·have HR : Hid (rivals p (l.take (k + 1)) m = rivals p (l.take k) m) := Lib.hid (by rw [HST.out, if_neg (by rw [HRB.out]; simp [h3])]; simp)
    have hgd : (cx == cm) = false := by simpa using h3
    clear HST h3 HRB
    go_quiet (fail)
    go_wp2_with fail
    go_roundw
    case rel => exact ⟨k + 1, vo, by omega, by go_num, HVx, by rw [HR.out]; exact HOx, Lib.hid (below_drewN HBx.out _)⟩
    case measure => simp [intOf]; omega
   have HR : Hid (rivals p (l.take (k + 1)) m = rivals p (l.take k) m ++ [x.src]) := Lib.hid (by rw [HST.out, if_pos (by rw [HRB.out]; simp [h3])])
   have hgd : (cx == cm) = true := by simpa using h3
   clear HST h3 HRB
   go_quiet (fail)
   obtain ⟨E, hE⟩ : ∃ E, rivals p (l.take k) m = E := ⟨_, rfl⟩
   rw [hE] at HOx HR hrl
   clear hE
   go_wp2_with (at_builtin; refine app_new 23 3 (.int .i64 0) 1 8 info_intM Tryz.underlying23 rfl (by decide) (by rfl) _ _ (by rfl) (w.heap.size + 3 + 1) _ E.length (ints E) [.int .i64 x.src] _ HOx.out hrs rfl one_int (by omega) (by omega) (by rfl) (by rfl) ?_)
   intro g5 cap5 w5 hown5 hk5 hg5
   have hb5 := hk5.below (Below.refl (w.heap.size + 3 + 1) _) (Nat.le_refl _)
   have HV5 : Hid (Box w5 (w.heap.size + 3) [vo] 23) := Lib.hid (Box.below (HVx.out.drewN _) hb5 (by omega))
   have hs5 : wx.heap.size ≤ w5.heap.size := hb5.size
   have r5 := HV5.out.cell 0 rfl
   have rf5 := HV5.out.frozen 0
   have HO5 := Lib.hid hown5
   have HB5 := Lib.hid ((below_drewN HBx.out _).trans (hb5.mono (by omega)))
   clear hown5 hk5 hg5 hb5 rb0 rf0 d0 d1 z0 z1 p0 e0 e1
   go_wp2_with fail
   have HV6 := Lib.hid (HV5.out.set 0 (.slice (some ⟨g5, 0, none⟩) (E.length + 1) cap5))
   have HO6 : Hid ((w5.setCell ⟨w.heap.size + 3, 0, none⟩ (.slice (some ⟨g5, 0, none⟩) (E.length + 1) cap5)).ownsRow (w.heap.size + 3 + 1) 3 1 (.slice (some ⟨g5, 0, none⟩) (E.length + 1) cap5) (rivals p (l.take (k + 1)) m).length (ints (rivals p (l.take (k + 1)) m))) := Lib.hid (by
    rw [HR.out, List.length_append, ← ints_append]
    exact ownsRow_setCell_below HO5.out (by simp) _)
   have HB6 := Lib.hid (HB5.out.setCell (Nat.le_refl _) (p := ⟨w.heap.size + 3, 0, none⟩) (.slice (some ⟨g5, 0, none⟩) (E.length + 1) cap5))
   go_roundw
   case rel => exact ⟨k + 1, _, by omega, by go_num, HV6, HO6, HB6⟩
   case measure => simp [intOf]; omega
  ·obtain rfl : k = l.length := by omega
   have HOl : Hid (wr.ownsRow (w.heap.size + 3 + 1) 3 1 vo (rivals p l m).length (ints (rivals p l m))) := Lib.hid (by have := HO.out; rwa [List.take_of_length_le (Nat.le_refl _)] at this)
   have HRP := Lib.hid (riv_pos p l m HLF.out)
   have HI := Lib.hid (RdI.of_own HOl.out)
   obtain ⟨av, cv, rfl⟩ := own_form2 HOl.out
   have hrl := riv_len p l m
   have rb0 := HVr.out.cell 0 rfl
   have x0 := HZr.out.cell 0 rfl
   have HM1 := Lib.hid (mk1_any 122 #[.pointer (some ⟨w.heap.size, 0, none⟩), .pointer (some ⟨w.heap.size + 2, 0, none⟩)] (fun n => n % R.width == m.src % R.width) _ _ (w.heap.size + 3) wr HVr.out HI.out callMk2 (fun W z hz hW => mk2_any R vp vs ve m z _ _ W (HXr.out.stays hW) (HZr.out.stays hW) hw1 (HRP.out z hz).1 hm0))
   clear HO HOl
   generalize rivals p l m = rv at *
   by_cases h0 : rv.length = 0
   ·have HE : Hid (markT R p l m = ByteArray.empty) := Lib.hid (by rw [HD.out, if_pos h0])
    have h0b : ((rv.length : Int) == 0) = true := by simp [h0]
    clear h0 HD
    go_wp2_with fail
    go_ret
    exact ⟨by rw [HE.out]; rfl, HBw.out⟩
   have HD1 : Hid (markT R p l m = if rv.any (fun n => n % R.width == m.src % R.width) = false then colT R m.src
    else if rv.any (fun n => n / R.width == m.src / R.width) = false then rowT R m.src else sqT R m.src) := Lib.hid (by rw [HD.out, if_neg h0])
   have h0b : ((rv.length : Int) == 0) = false := by simp; intro e; exact h0 (by rw [e]; rfl)
   clear h0 HD
   go_wp2_with fail
   refine HM1.out.mono ?_
   rintro e w1 ⟨rfl, hb1⟩
   have HBw1 := Lib.hid (below_trans HBw.out hb1 HBw.out.size)
   have HXr1 := Lib.hid (HXr.out.stays hb1)
   have HZr1 := Lib.hid (HZr.out.stays hb1)
   have HVr1 := Lib.hid (HVr.out.stays hb1)
   have HI1 := Lib.hid (HI.out.below hb1 (Nat.le_refl _))
   clear hb1 HM1 HBw HXr HZr HVr HI rb0 x0
   have rb0 := HVr1.out.cell 0 rfl
   have x0 := HZr1.out.cell 0 rfl
   have HM3 := Lib.hid (mk1_any 123 #[.pointer (some ⟨w.heap.size, 0, none⟩), .pointer (some ⟨w.heap.size + 2, 0, none⟩)] (fun n => n / R.width == m.src / R.width) _ _ (w.heap.size + 3) w1 HVr1.out HI1.out callMk3 (fun W z hz hW => mk3_any R vp vs ve m z _ _ W (HXr1.out.stays hW) (HZr1.out.stays hW) hw1 (HRP.out z hz).1 (by have := (HRP.out z hz).2; have := HK.out.len; omega) hm0 (by have := HK.out.len; omega)))
   rcases h1 : rv.any (fun n => n % R.width == m.src % R.width) with _ | _
   ·have HE : Hid (markT R p l m = colT R m.src) := Lib.hid (by rw [HD1.out, if_pos h1])
    clear h1 HD1
    go_upto_region 12 with (fail)
    refine wp_region_lit ?_
    refine wpList_load_box (by rfl) 26 (.tmp 4) (by rfl) (w.heap.size) (by rfl) HXr1.out Tryz.underlying26 (by rfl) (by kernel_rfl) ?_
    go_wp2_with fail
    refine (column_any R vp vs ve m.src _ HK.out.r hm0 HM2.out).mono ?_
    rintro e w9 ⟨rfl, hb9⟩
    have HB2 := Lib.hid (below_trans HBw1.out hb9 HBw1.out.size)
    clear hb9
    go_wp2_with fail
    go_ret
    exact ⟨by rw [HE.out]; rfl, HB2.out⟩
   have HD2 : Hid (markT R p l m = if rv.any (fun n => n / R.width == m.src / R.width) = false then rowT R m.src else sqT R m.src) := Lib.hid (by rw [HD1.out, if_neg (by rw [h1]; decide)])
   clear h1 HD1
   go_wp2_with fail
   refine HM3.out.mono ?_
   rintro e w2 ⟨rfl, hb2⟩
   have HBw2 := Lib.hid (below_trans HBw1.out hb2 HBw1.out.size)
   have HXr2 := Lib.hid (HXr1.out.stays hb2)
   have HZr2 := Lib.hid (HZr1.out.stays hb2)
   clear hb2 HM3 HBw1 HXr1 HZr1 HVr1 HI1 rb0 x0
   have x0 := HZr2.out.cell 0 rfl
   rcases h2 : rv.any (fun n => n / R.width == m.src / R.width) with _ | _
   ·have HE : Hid (markT R p l m = rowT R m.src) := Lib.hid (by rw [HD2.out, if_pos h2])
    clear h2 HD2
    go_upto_region 14 with (fail)
    refine wp_region_lit ?_
    refine wpList_load_box (by rfl) 26 (.tmp 4) (by rfl) (w.heap.size) (by rfl) HXr2.out Tryz.underlying26 (by rfl) (by kernel_rfl) ?_
    go_wp2_with fail
    refine (row_any R vp vs ve m.src _ HK.out.r hm0 HM2.out).mono ?_
    rintro e w9 ⟨rfl, hb9⟩
    have HB2 := Lib.hid (below_trans HBw2.out hb9 HBw2.out.size)
    clear hb9
    go_wp2_with fail
    go_ret
    exact ⟨by rw [HE.out]; rfl, HB2.out⟩
   ·have HE : Hid (markT R p l m = sqT R m.src) := Lib.hid (by rw [HD2.out, if_neg (by rw [h2]; decide)])
    clear h2 HD2
    go_upto_region 15 with (fail)
    refine wp_region_lit ?_
    refine wpList_load_box (by rfl) 26 (.tmp 4) (by rfl) (w.heap.size) (by rfl) HXr2.out Tryz.underlying26 (by rfl) (by kernel_rfl) ?_
    go_wp2_with fail
    refine (square_any R vp vs ve m.src _ HK.out.r hm0 HM2.out).mono ?_
    rintro e w9 ⟨rfl, hb9⟩
    have HB2 := Lib.hid (below_trans HBw2.out hb9 HBw2.out.size)
    clear hb9
    go_wp2_with fail
    go_ret
    exact ⟨by rw [HE.out]; rfl, HB2.out⟩
end Go.Proofs.YthklhndcdijneaaGreatDoor
/- The contract of movetext.Of. -/
namespace Go.Proofs.YthklhndcdijneaaGreatDoor
open Go.ChangeShapes Go.WideShapes Go.ChangeAt Go.RowKit
set_option linter.unusedVariables false
set_option maxHeartbeats 8000000
set_option maxRecDepth 100000
theorem app_empty (b : ByteArray) : b ++ ByteArray.empty = b := by simp
theorem mark_size {R : RulesZ} {p : PosZ} (K : POk R p) (l : List MoveZ) (m : MoveZ) (h0 : 0 ≤ m.src) (h1 : m.src < R.width * R.height) : (markT R p l m).size ≤ 2 := by
 rw [← bts_size]
 rcases mark_cases K.r p l m h0 h1 with ⟨-, e⟩ | ⟨-, e⟩ | ⟨-, e⟩ | e <;> rw [e] <;> simp
/-- a move within the board, of a piece that is there. -/
structure OfOk (R : RulesZ) (p : PosZ) (m : MoveZ) : Prop where
 f : Fits R p m
 c : 0 ≤ m.src → p.cells.getD m.src.toNat 0 ≠ 0
theorem Of_any (R : RulesZ) (vp vs ve : Value) (p : PosZ) (vc v0 v1 : Value) (m : MoveZ) (v : Value) (l : List MoveZ) (w : World) (hr : RdL pieceEl w vp R.pieces) (hp : RdI w vc p.cells) (hl : RdL moveEl w v l) (K : POk R p) (L : LetOk R) (hlf : ∀ x ∈ l, x.src < p.cells.length) (hll : l.length ≤ 1000000) (F : OfOk R p m) :
  Calls Tryz.prog 71 #[(.agg #[.string R.name, .int .i64 R.width, .int .i64 R.height, vp, vs, .bool R.falls, .bool R.keeps, ve, .int .i64 R.blocked, .int .i64 R.quiet, .int .i64 R.rept]), (.agg #[vc, v0, v1, .int .i64 p.turn, .int .i64 p.quiet]), v, .agg #[.int .i64 m.src, .int .i64 m.dst, .int .i64 m.piece]] w fun e w' => e = .returned (.string (ofT R p l m)) ∧ Below w.heap.size w w' := by
 have HR := Lib.hid hr
 have HP0 := Lib.hid hp
 have HL := Lib.hid hl
 have HK := Lib.hid K
 have HLt := Lib.hid L
 have HLF := Lib.hid hlf
 obtain ⟨hd1, hd2⟩ := F.f.d
 obtain ⟨hk1, hk2⟩ := F.f.k
 obtain ⟨hs9, hs1⟩ := F.f.s
 have HFC := Lib.hid F.c
 have HD2 : Hid (m.dst < R.width * R.height) := Lib.hid (by have := K.cl; omega)
 have z1 : (sqT R m.dst).size = 2 := by rw [← bts_size, sqT_bts K.r hd1 HD2.out]; rfl
 have z2 : (letT R m.piece).size = 1 := by rw [← bts_size, letT_bts L hk1 hk2]; rfl
 obtain ⟨ac, cc, rfl, hc1, hc2⟩ := hp.form
 obtain ⟨al, cl, rfl, hl1, hl2⟩ := hl.form
 obtain ⟨gc, oc, rfl, -⟩ := cells_rd hp (by omega)
 have HP := Lib.hid HP0.out
 unfold maxLen at hc2 hl2
 clear hr hp hl K L hlf F HP0
 go_enter Tryz.func71, Tryz.ntmps71
 go_upto_region 1 with (fail)
 refine opn3 fun w0 B0 B1 B2 yb_ hs_ => ?_
 have HB := Lib.hid yb_
 have hz0 : w.heap.size + 1 + 1 < w0.heap.size := by omega
 clear hs_ yb_
 have HX := Lib.hid B0
 have HY := Lib.hid B1
 have HZ := Lib.hid B2
 clear B0 B1 B2
 have m0 := HZ.out.cell 0 rfl
 by_cases hs0 : 0 ≤ m.src
 rotate_left
 ·have HOF : Hid (ofT R p l m = (letT R m.piece ++ ⟨#[64]⟩) ++ sqT R m.dst) := Lib.hid (by unfold ofT; rw [if_pos (by omega)])
  have z3 : (⟨#[64]⟩ : ByteArray).size = 1 := rfl
  have z4 : (letT R m.piece ++ ⟨#[64]⟩ : ByteArray).size = 2 := by rw [ByteArray.size_append, z2]; rfl
  go_upto_region 2 with (fail)
  have Bz := HX.out.drew
  have Pz := HY.out.drew
  have Mz := HZ.out.drew
  have Lz : Below w.heap.size w w0.drew := below_drew' HB.out
  clear HX HY HZ HB m0 hs0 hs9 hz0
  refine wp_region_noPanic ?_
  refine beginL (S := (fun w' => w'.cell? ⟨w.heap.size, 0, none⟩ = some (.string R.name) ∧ w'.cell? ⟨w.heap.size, 1, none⟩ = some (.int .i64 R.width) ∧ w'.cell? ⟨w.heap.size, 2, none⟩ = some (.int .i64 R.height) ∧ w'.cell? ⟨w.heap.size, 3, none⟩ = some vp ∧ w'.cell? ⟨w.heap.size, 4, none⟩ = some vs ∧ w'.cell? ⟨w.heap.size, 5, none⟩ = some (.bool R.falls) ∧ w'.cell? ⟨w.heap.size, 6, none⟩ = some (.bool R.keeps) ∧ w'.cell? ⟨w.heap.size, 7, none⟩ = some ve ∧ w'.cell? ⟨w.heap.size, 8, none⟩ = some (.int .i64 R.blocked) ∧ w'.cell? ⟨w.heap.size, 9, none⟩ = some (.int .i64 R.quiet) ∧ w'.cell? ⟨w.heap.size, 10, none⟩ = some (.int .i64 R.rept) ∧ w'.cell? ⟨w.heap.size + 1, 0, none⟩ = some (.slice (some ⟨gc, oc, none⟩) p.cells.length cc) ∧ w'.cell? ⟨w.heap.size + 1, 1, none⟩ = some v0 ∧ w'.cell? ⟨w.heap.size + 1, 2, none⟩ = some v1 ∧ w'.cell? ⟨w.heap.size + 1, 3, none⟩ = some (.int .i64 p.turn) ∧ w'.cell? ⟨w.heap.size + 1, 4, none⟩ = some (.int .i64 p.quiet) ∧ w'.cell? ⟨w.heap.size + 2, 0, none⟩ = some (.int .i64 m.src) ∧ w'.cell? ⟨w.heap.size + 2, 1, none⟩ = some (.int .i64 m.dst) ∧ w'.cell? ⟨w.heap.size + 2, 2, none⟩ = some (.int .i64 m.piece))) (L := []) (by kernel_rfl) (by and_intros <;> first | exact Bz.cell _ rfl | exact Pz.cell _ rfl | exact Mz.cell _ rfl) (fun hHeld => ?_)
  refine tkL 0 ?_
  refine tkW 1 ?_
  refine tkL 5 ?_
  refine tkW 6 ?_
  refine tkL 2 ?_
  refine tkL 7 ?_
  refine cnL 3 fun K hK => ?_
  go_simp
  refine (letter_any R vp vs ve m.piece _ (HR.out.below Lz (Nat.le_refl _)) HK.out.r HLt.out hk1 hk2).mono ?_
  rintro e w3 ⟨rfl, hb3⟩
  have B3 := Bz.stays hb3
  have P3 := Pz.stays hb3
  have M3 := Mz.stays hb3
  have L3 := below_trans Lz hb3 Lz.size
  clear hb3
  refine hK.out _ _ (by and_intros <;> first | exact B3.cell _ rfl | exact P3.cell _ rfl | exact M3.cell _ rfl) (fun hHeld => ?_)
  clear hK K
  refine tkW 4 ?_
  refine cnL 8 fun K hK => ?_
  go_simp
  refine (square_any R vp vs ve m.dst _ HK.out.r hd1 HD2.out).mono ?_
  rintro e w8 ⟨rfl, hb8⟩
  have B8 := B3.stays hb8
  have P8 := P3.stays hb8
  have M8 := M3.stays hb8
  have L8 := below_trans L3 hb8 L3.size
  clear hb8
  refine hK.out _ _ (by and_intros <;> first | exact B8.cell _ rfl | exact P8.cell _ rfl | exact M8.cell _ rfl) (fun hHeld => ?_)
  clear hK K
  refine tkW 9 ?_
  refine tkW 10 ?_
  refine dnN ?_
  have HLe := Lib.hid L8
  clear hHeld B3 P3 M3 L3 B8 P8 M8 L8 Bz Pz Mz Lz
  go_wp2_with fail
  go_ret
  exact ⟨by rw [HOF.out]; rfl, HLe.out⟩
 have hkc := HK.out.cell m.src.toNat
 have hkn := HFC.out hs0
 have HKZ : Hid (kindZ p m = (p.cells.getD m.src.toNat 0 - 1) / 2) := Lib.hid rfl
 have hkz1 : 0 ≤ kindZ p m := by rw [HKZ.out]; omega
 have hkz2 : kindZ p m < R.pieces.length := by rw [HKZ.out]; omega
 have hkz3 : kindZ p m ≤ 100 := by have := HK.out.r.np; omega
 have HTK : Hid (takT p m = if p.cells.getD m.dst.toNat 0 ≠ 0 then ⟨#[120]⟩ else ByteArray.empty) := Lib.hid rfl
 have HPR : Hid (proT R p m = if m.piece ≠ kindZ p m then ⟨#[61]⟩ ++ letT R m.piece else ByteArray.empty) := Lib.hid rfl
 have HOF : Hid (ofT R p l m = (((letT R (kindZ p m) ++ markT R p l m) ++ takT p m) ++ sqT R m.dst) ++ proT R p m) := Lib.hid (by unfold ofT; rw [if_neg (by omega)])
 have z3 : (letT R (kindZ p m)).size = 1 := by rw [← bts_size, letT_bts HLt.out hkz1 hkz2]; rfl
 have z4 : (markT R p l m).size ≤ 2 := mark_size HK.out l m hs0 (by have := HK.out.cl; omega)
 obtain ⟨c1, c2, e3, hcc⟩ := cells_rd (HP.out.below HB.out (Nat.le_refl _)) (by omega)
 obtain ⟨rfl, rfl⟩ : gc = c1 ∧ oc = c2 := by simpa using e3
 have cs := hcc m.src.toNat (by omega)
 have p0 := HY.out.cell 0 rfl
 have hkd : Int.tdiv (p.cells.getD m.src.toNat 0 - 1) 2 = kindZ p m := by rw [HKZ.out]; exact Int.tdiv_eq_ediv_of_nonneg (by omega)
 have hkw : IntKind.i64.wrap (p.cells.getD m.src.toNat 0 - 1) = p.cells.getD m.src.toNat 0 - 1 := IntWalk.i64_in _ (by have := HK.out.r.np; omega)
 clear hcc e3
 generalize p.cells.getD m.src.toNat 0 = cz at *
 generalize kindZ p m = KZ at *
 have hnl : (decide (m.src < 0)) = false := by simp; omega
 go_upto_region 4 with (fail)
 have Bz := HX.out.drew
 have Pz := HY.out.drew
 have Mz := HZ.out.drew
 have Lz : Below w.heap.size w w0.drew := below_drew' HB.out
 clear HX HY HZ HB m0 hs9 hz0 hkc hkn cs p0 hkd hkw hnl
 refine wp_region_noPanic ?_
 refine beginL (S := (fun w' => w'.cell? ⟨w.heap.size, 0, none⟩ = some (.string R.name) ∧ w'.cell? ⟨w.heap.size, 1, none⟩ = some (.int .i64 R.width) ∧ w'.cell? ⟨w.heap.size, 2, none⟩ = some (.int .i64 R.height) ∧ w'.cell? ⟨w.heap.size, 3, none⟩ = some vp ∧ w'.cell? ⟨w.heap.size, 4, none⟩ = some vs ∧ w'.cell? ⟨w.heap.size, 5, none⟩ = some (.bool R.falls) ∧ w'.cell? ⟨w.heap.size, 6, none⟩ = some (.bool R.keeps) ∧ w'.cell? ⟨w.heap.size, 7, none⟩ = some ve ∧ w'.cell? ⟨w.heap.size, 8, none⟩ = some (.int .i64 R.blocked) ∧ w'.cell? ⟨w.heap.size, 9, none⟩ = some (.int .i64 R.quiet) ∧ w'.cell? ⟨w.heap.size, 10, none⟩ = some (.int .i64 R.rept) ∧ w'.cell? ⟨w.heap.size + 1, 0, none⟩ = some (.slice (some ⟨gc, oc, none⟩) p.cells.length cc) ∧ w'.cell? ⟨w.heap.size + 1, 1, none⟩ = some v0 ∧ w'.cell? ⟨w.heap.size + 1, 2, none⟩ = some v1 ∧ w'.cell? ⟨w.heap.size + 1, 3, none⟩ = some (.int .i64 p.turn) ∧ w'.cell? ⟨w.heap.size + 1, 4, none⟩ = some (.int .i64 p.quiet) ∧ w'.cell? ⟨w.heap.size + 2, 0, none⟩ = some (.int .i64 m.src) ∧ w'.cell? ⟨w.heap.size + 2, 1, none⟩ = some (.int .i64 m.dst) ∧ w'.cell? ⟨w.heap.size + 2, 2, none⟩ = some (.int .i64 m.piece))) (L := []) (by kernel_rfl) (by and_intros <;> first | exact Bz.cell _ rfl | exact Pz.cell _ rfl | exact Mz.cell _ rfl) (fun hHeld => ?_)
 refine tkL 0 ?_
 refine tkW 1 ?_
 refine tkL 3 ?_
 refine tkL 4 ?_
 refine tkW 5 ?_
 refine tkL 6 ?_
 refine cnL 2 fun K hK => ?_
 go_simp
 refine (letter_any R vp vs ve KZ _ (HR.out.below Lz (Nat.le_refl _)) HK.out.r HLt.out hkz1 hkz2).mono ?_
 rintro e w2 ⟨rfl, hb2⟩
 have B2 := Bz.stays hb2
 have P2 := Pz.stays hb2
 have M2 := Mz.stays hb2
 have L2 := below_trans Lz hb2 Lz.size
 clear hb2
 refine hK.out _ _ (by and_intros <;> first | exact B2.cell _ rfl | exact P2.cell _ rfl | exact M2.cell _ rfl) (fun hHeld => ?_)
 clear hK K
 refine cnL 7 fun K hK => ?_
 go_simp
 refine (mark_any R vp vs ve p _ v0 v1 m _ l _ (HP.out.below L2 (Nat.le_refl _)) (HL.out.below L2 (Nat.le_refl _)) HK.out HLF.out hll ⟨hs0, hs1⟩).mono ?_
 rintro e w7 ⟨rfl, hb7⟩
 have B7 := B2.stays hb7
 have P7 := P2.stays hb7
 have M7 := M2.stays hb7
 have L7 := below_trans L2 hb7 L2.size
 clear hb7
 refine hK.out _ _ (by and_intros <;> first | exact B7.cell _ rfl | exact P7.cell _ rfl | exact M7.cell _ rfl) (fun hHeld => ?_)
 clear hK K
 refine tkW 8 ?_
 refine tkW 9 ?_
 refine dnN ?_
 have HLe := Lib.hid L7
 have HBe := Lib.hid B7
 have HPe := Lib.hid P7
 have HMe := Lib.hid M7
 clear hHeld B2 P2 M2 L2 B7 P7 M7 L7 Bz Pz Mz Lz
 generalize letT R KZ = A at *
 generalize markT R p l m = M at *
 obtain ⟨c1, c2, e3, hcc⟩ := cells_rd (HP.out.below HLe.out (Nat.le_refl _)) (by omega)
 obtain ⟨rfl, rfl⟩ : gc = c1 ∧ oc = c2 := by simpa using e3
 have cd := hcc m.dst.toNat (by omega)
 have p0 := HPe.out.cell 0 rfl
 have m1 := HMe.out.cell 1 rfl
 have m2 := HMe.out.cell 2 rfl
 clear hcc e3
 generalize p.cells.getD m.dst.toNat 0 = dd at *
 by_cases hdd : dd = 0
 ·have hdb : (dd != 0) = false := by simpa using hdd
  have HT0 : Hid (takT p m = ByteArray.empty) := Lib.hid (by rw [HTK.out, if_neg (by simp [hdd])])
  clear hdd HTK
  obtain ⟨X, hX⟩ : ∃ X, X = A ++ M := ⟨_, rfl⟩
  have HXe : Hid (A ++ M ++ takT p m = X) := Lib.hid (by rw [HT0.out, hX]; exact app_empty _)
  have hXs : X.size ≤ 100 := by rw [hX, ByteArray.size_append]; omega
  rw [← hX]
  clear hX HT0
  go_wp2_with (refine wpList_load_box (by rfl) 26 (.tmp 4) (by rfl) (w.heap.size) (by rfl) HBe.out Tryz.underlying26 (by rfl) (by kernel_rfl) ?_)
  refine (square_any R vp vs ve m.dst _ HK.out.r hd1 HD2.out).mono ?_
  rintro e wa ⟨rfl, hba⟩
  have HBa := Lib.hid (HBe.out.stays hba)
  have HMa := Lib.hid (HMe.out.stays hba)
  have HLa := Lib.hid (below_trans HLe.out hba HLe.out.size)
  have HOFa : Hid (ofT R p l m = X ++ sqT R m.dst ++ proT R p m) := Lib.hid (by rw [HOF.out, HXe.out])
  clear hba HBe HPe HMe HLe p0 m1 m2 cd HXe HOF
  have m2 := HMa.out.cell 2 rfl
  generalize sqT R m.dst = Q at *
  have hY : (X ++ Q).size ≤ 200 := by rw [ByteArray.size_append]; omega
  by_cases hpk : m.piece = KZ
  ·have hpb : (m.piece != KZ) = false := by simpa using hpk
   have HE : Hid (ofT R p l m = X ++ Q) := Lib.hid (by rw [HOFa.out, HPR.out, if_neg (by simpa using hpk)]; exact app_empty _)
   clear hpk HOFa
   go_wp2_with fail
   go_ret
   exact ⟨by rw [HE.out]; rfl, HLa.out⟩
  ·have hpb : (m.piece != KZ) = true := by simpa using hpk
   have HE : Hid (ofT R p l m = X ++ Q ++ (⟨#[61]⟩ ++ letT R m.piece)) := Lib.hid (by rw [HOFa.out, HPR.out, if_pos hpk])
   clear hpk HOFa
   go_wp2_with (refine wpList_load_box (by rfl) 26 (.tmp 4) (by rfl) (w.heap.size) (by rfl) HBa.out Tryz.underlying26 (by rfl) (by kernel_rfl) ?_)
   refine (letter_any R vp vs ve m.piece _ (HR.out.below HLa.out (Nat.le_refl _)) HK.out.r HLt.out hk1 hk2).mono ?_
   rintro e wb ⟨rfl, hbb⟩
   have HLb := Lib.hid (below_trans HLa.out hbb HLa.out.size)
   clear hbb HBa HMa HLa m2
   generalize letT R m.piece = G at *
   have hG : (⟨#[61]⟩ ++ G : ByteArray).size ≤ 20 := by rw [ByteArray.size_append]; have : (⟨#[61]⟩ : ByteArray).size = 1 := rfl; omega
   have hG1 : (⟨#[61]⟩ : ByteArray).size = 1 := rfl
   go_wp2_with fail
   go_ret
   exact ⟨by rw [HE.out]; rfl, HLb.out⟩
 ·have hdb : (dd != 0) = true := by simpa using hdd
  have HT0 : Hid (takT p m = ⟨#[120]⟩) := Lib.hid (by rw [HTK.out, if_pos (by simpa using hdd)])
  have hAM : (A ++ M).size ≤ 50 := by rw [ByteArray.size_append]; omega
  have hx1 : (⟨#[120]⟩ : ByteArray).size = 1 := rfl
  clear hdd HTK
  obtain ⟨X, hX⟩ : ∃ X, X = A ++ M ++ ⟨#[120]⟩ := ⟨_, rfl⟩
  have HXe : Hid (A ++ M ++ takT p m = X) := Lib.hid (by rw [HT0.out, hX])
  have hXs : X.size ≤ 100 := by rw [hX, ByteArray.size_append]; omega
  clear HT0
  go_upto_region 7 with (fail)
  rw [← hX]
  clear hX hAM
  go_wp2_with (refine wpList_load_box (by rfl) 26 (.tmp 4) (by rfl) (w.heap.size) (by rfl) HBe.out Tryz.underlying26 (by rfl) (by kernel_rfl) ?_)
  refine (square_any R vp vs ve m.dst _ HK.out.r hd1 HD2.out).mono ?_
  rintro e wa ⟨rfl, hba⟩
  have HBa := Lib.hid (HBe.out.stays hba)
  have HMa := Lib.hid (HMe.out.stays hba)
  have HLa := Lib.hid (below_trans HLe.out hba HLe.out.size)
  have HOFa : Hid (ofT R p l m = X ++ sqT R m.dst ++ proT R p m) := Lib.hid (by rw [HOF.out, HXe.out])
  clear hba HBe HPe HMe HLe p0 m1 m2 cd HXe HOF
  have m2 := HMa.out.cell 2 rfl
  generalize sqT R m.dst = Q at *
  have hY : (X ++ Q).size ≤ 200 := by rw [ByteArray.size_append]; omega
  by_cases hpk : m.piece = KZ
  ·have hpb : (m.piece != KZ) = false := by simpa using hpk
   have HE : Hid (ofT R p l m = X ++ Q) := Lib.hid (by rw [HOFa.out, HPR.out, if_neg (by simpa using hpk)]; exact app_empty _)
   clear hpk HOFa
   go_wp2_with fail
   go_ret
   exact ⟨by rw [HE.out]; rfl, HLa.out⟩
  ·have hpb : (m.piece != KZ) = true := by simpa using hpk
   have HE : Hid (ofT R p l m = X ++ Q ++ (⟨#[61]⟩ ++ letT R m.piece)) := Lib.hid (by rw [HOFa.out, HPR.out, if_pos hpk])
   clear hpk HOFa
   go_wp2_with (refine wpList_load_box (by rfl) 26 (.tmp 4) (by rfl) (w.heap.size) (by rfl) HBa.out Tryz.underlying26 (by rfl) (by kernel_rfl) ?_)
   refine (letter_any R vp vs ve m.piece _ (HR.out.below HLa.out (Nat.le_refl _)) HK.out.r HLt.out hk1 hk2).mono ?_
   rintro e wb ⟨rfl, hbb⟩
   have HLb := Lib.hid (below_trans HLa.out hbb HLa.out.size)
   clear hbb HBa HMa HLa m2
   generalize letT R m.piece = G at *
   have hG : (⟨#[61]⟩ ++ G : ByteArray).size ≤ 20 := by rw [ByteArray.size_append]; have : (⟨#[61]⟩ : ByteArray).size = 1 := rfl; omega
   have hG1 : (⟨#[61]⟩ : ByteArray).size = 1 := rfl
   go_wp2_with fail
   go_ret
   exact ⟨by rw [HE.out]; rfl, HLb.out⟩
end Go.Proofs.YthklhndcdijneaaGreatDoor

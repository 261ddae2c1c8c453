/- RwV, RwB. -/
import Derived.Test.YthklhndcdijneaaGreatDoorC24
import Derived.Test.YthklhndcdijneaaGreatDoorC30
import Derived.Test.YthklhndcdijneaaGreatDoorC27
import Derived.Test.YthklhndcdijneaaGreatDoorC32
import Derived.Test.YthklhndcdijneaaGreatDoorC05
import Derived.Laws.AppendOwnNone
import Derived.BigQuiet
import Derived.Deep.Cut
import Derived.Deep.CutRange
import Derived.Deep.QuietTactic
namespace Go.Proofs.YthklhndcdijneaaGreatDoor
open Go.ChangeShapes Go.WideShapes Go.ChangeAt Go.RowKit
set_option linter.unusedVariables false
/-- all bytes, and one more for each text. -/
def tot (l : List Byt) : Nat := (l.map fun x => x.length + 1).sum
theorem tot_app (a b : List Byt) : tot (a ++ b) = tot a + tot b := by unfold tot; rw [List.map_append, List.sum_append]
theorem tot_cons (x : Byt) (l : List Byt) : tot (x :: l) = x.length + 1 + tot l := by unfold tot; rw [List.map_cons, List.sum_cons]
theorem tot_mem {x : Byt} : ∀ {l : List Byt}, x ∈ l → x.length + 1 ≤ tot l
 | [], h => by cases h
 | y :: l, h => by
  rw [tot_cons]
  rcases List.mem_cons.1 h with rfl | h
  ·omega
  ·have := tot_mem h; omega
theorem joinB_len : ∀ l : List Byt, (joinB l).length ≤ tot l
 | [] => Nat.zero_le _
 | [x] => by rw [joinB, tot_cons]; omega
 | x :: y :: l => by
  have := joinB_len (y :: l)
  rw [joinB, tot_cons, List.length_append, List.length_cons]; omega
theorem ok_mem {R : RulesZ} {p : PosZ} {m : MoveZ} {c : ByteArray} (ok : OkOne R p m c) : posErr R p = 0 ∧ m ∈ listZ R p := by
 have h1 := ok.err
 have h2 := ok.mv
 unfold readZ at h2
 rw [if_pos h1] at h2
 unfold readErr at h1
 by_cases q : posErr R p ≠ 0
 ·rw [if_pos q] at h1; exact absurd h1 q
 rw [if_neg q] at h1
 have q' : posErr R p = 0 := Decidable.byContradiction q
 refine ⟨q', ?_⟩
 by_cases r : readI R p (ofT R p (listZ R p) m) < 0
 ·rw [if_pos r] at h1; exact absurd h1 (by decide)
 have hrg := idxL_range (fun x => ofT R p (listZ R p) x == ofT R p (listZ R p) m) (listZ R p) 0 (by omega)
 have hrl : (readI R p (ofT R p (listZ R p) m)).toNat < (listZ R p).length := by unfold readI at r ⊢; omega
 rw [← h2, List.getD_eq_getElem?_getD, List.getElem?_eq_getElem hrl]
 exact List.getElem_mem hrl
theorem ok_r {R : RulesZ} {p : PosZ} (h : posErr R p = 0) : rulesErr R = 0 := by unfold posErr at h; by_cases q : rulesErr R = 0; exact q; rw [if_pos q] at h; exact h
theorem ok_len {R : RulesZ} {p : PosZ} {m : MoveZ} {c : ByteArray} (ok : OkOne R p m c) : (ofT R p (listZ R p) m).size ≤ 20 := by
 obtain ⟨h1, h2⟩ := ok_mem ok
 exact (ofT_size (let_ok (ok_r h1)) (pok_of h1) h2).2
theorem one_tot {R : RulesZ} {p : PosZ} {m : MoveZ} {c : ByteArray} (ok : OkOne R p m c) (hc : c.size ≤ 1000) : (oneT R p m c).length ≤ 2 ∧ tot (oneT R p m c) ≤ 1030 := by
 have h := ok_len ok
 have e : oneT R p m c = (ofT R p (listZ R p) m).data.toList :: (if c.size = 0 then [] else [123 :: (c.data.toList ++ [125])]) := rfl
 have hl : (ofT R p (listZ R p) m).data.toList.length = (ofT R p (listZ R p) m).size := by simp
 have hl2 : c.data.toList.length = c.size := by simp
 rw [e]
 split
 ·refine ⟨by simp, ?_⟩
  rw [tot_cons, hl]; show _ + 0 ≤ _; omega
 ·refine ⟨by simp, ?_⟩
  rw [tot_cons, tot_cons, hl]; show _ + (_ + 0) ≤ _
  simp only [List.length_cons, List.length_append, hl2, List.length_nil]; omega
theorem cnt_nil : cnt [] = 0 := rfl
theorem cnt_cons (b : BrZ) (l : List BrZ) : cnt (b :: l) = cnt [b] + cnt l := cnt_app [b] l
theorem txt_tot (R : RulesZ) : ∀ l : List BrZ, szL 1000 l → (∀ p, legL R p l → (txtL R p l).length ≤ 2 * cnt l ∧ tot (txtL R p l) ≤ 1040 * cnt l) ∧ ∀ p, legL R p l → (txtV R p l).length ≤ cnt l ∧ tot (txtV R p l) ≤ 1040 * cnt l := by
 refine br_indL (PB := fun b => szB 1000 b → ∀ p, legB R p b → (txtB R p b).length + 2 ≤ 2 * cnt [b] ∧ tot (txtB R p b) + 1040 ≤ 1040 * cnt [b]) (PL := fun l => szL 1000 l → (∀ p, legL R p l → (txtL R p l).length ≤ 2 * cnt l ∧ tot (txtL R p l) ≤ 1040 * cnt l) ∧ ∀ p, legL R p l → (txtV R p l).length ≤ cnt l ∧ tot (txtV R p l) ≤ 1040 * cnt l) ?_ ?_ ?_
 ·intro m c ks ih hz p h
  rw [szB] at hz
  rw [legB] at h
  rw [txtB, cnt_one]
  have := (ih hz.2).1 _ h.2
  omega
 ·intro _
  exact ⟨fun p _ => by rw [txtL, cnt_nil]; exact ⟨Nat.le_refl _, Nat.le_refl _⟩, fun p _ => by rw [txtV, cnt_nil]; exact ⟨Nat.le_refl _, Nat.le_refl _⟩⟩
 ·intro b l hb hl hz
  rw [szL] at hz
  have hbz : b.cm.size ≤ 1000 := by have := hz.1; cases b; rw [szB] at this; exact this.1
  refine ⟨fun p h => ?_, fun p h => ?_⟩
  ·rw [legL] at h
   have h1 : OkOne R p b.mv b.cm := by have := h.1; cases b; rw [legB] at this; exact this.1
   obtain ⟨o1, o2⟩ := one_tot h1 hbz
   have h2 := hb hz.1 p h.1
   have h3 := (hl hz.2).2 p h.2
   rw [txtL, cnt_cons]
   simp only [tot_app, List.length_append]
   omega
  ·rw [legL] at h
   have h1 : OkOne R p b.mv b.cm := by have := h.1; cases b; rw [legB] at this; exact this.1
   obtain ⟨o1, o2⟩ := one_tot h1 hbz
   have h2 := hb hz.1 p h.1
   have h3 := (hl hz.2).2 p h.2
   have h4 := joinB_len (oneT R p b.mv b.cm ++ txtB R p b)
   rw [tot_app] at h4
   rw [txtV, cnt_cons, tot_cons]
   simp only [List.length_cons, List.length_append, List.length_nil]
   omega
end Go.Proofs.YthklhndcdijneaaGreatDoor
namespace Go.Proofs.YthklhndcdijneaaGreatDoor
open Go.ChangeShapes Go.WideShapes Go.ChangeAt Go.RowKit
set_option linter.unusedVariables false
theorem strsB_len (l : List Byt) : (strsB l).length = l.length := by simp [strsB]
theorem strsB_app (a b : List Byt) : strsB a ++ strsB b = strsB (a ++ b) := by simp [strsB]
theorem strsB_cell1 (l : List Byt) : ∀ u ∈ strsB l, u.oneCell' = true := by
 intro u hu
 obtain ⟨x, -, rfl⟩ := List.mem_map.1 hu
 rfl
theorem run_append_noneS (w : World) (c base : Nat) (i : TypeInfo) (hi : Tryz.prog.info? 9 = some i) (ty : TypeId) (v : Value) (n : Nat) (xs : List Value) (hown : w.ownsRow base 9 1 v n xs) :
  (Builtin.append_ #[63, 63] ty #[v, .slice none 0 c]).run Tryz.prog w = .ok v w := by
 rcases hown.2 with ⟨rfl, rfl⟩ | ⟨g, cap, cur, rfl, _, _, hnc, _⟩
 ·simp [Builtin.append_, run_underlying Tryz.underlying63, sizeOf, typeInfo, hi, Builtin.lenOf, Builtin.firstCells]
 ·simp [Builtin.append_, run_underlying Tryz.underlying63, sizeOf, typeInfo, hi, Builtin.lenOf, Builtin.firstCells, hnc, storeCells]
theorem src_cells {w : World} {base : Nat} {e : TypeId} {ad : Addr} {n c : Nat} {xs : List Value} (h : w.ownsRow base e 1 (.slice (some ad) n c) n xs) : ∀ j u, xs[j]? = some u → w.cell? (ad.add j) = some u := by
 rcases h.2 with ⟨h0, -⟩ | ⟨g, cap, cur, hv, hg, hb, hnc, hcm, hsz, ht⟩
 ·cases h0
 simp only [Value.slice.injEq, Option.some.injEq] at hv
 obtain ⟨rfl, -, rfl⟩ := hv
 intro j u hu
 have hj : j < n := by
  have h1 := (List.getElem?_eq_some_iff.1 hu).1
  have h2 := h.1
  omega
 have e1 : (⟨g, 0, none⟩ : Addr).add j = ⟨g, j, none⟩ := by unfold Addr.add; split <;> simp_all
 rw [e1]
 have e2 : cur.toList[j]? = some u := by
  rw [← ht, List.getElem?_take] at hu
  split at hu
  ·exact hu
  ·cases hu
 exact Box.cell (cs := cur.toList) (t := e) (by unfold Box; rw [hb]) j e2
theorem wp_app_strs {w : World} {o : Oper} {a : Act} {K : Act → World → Prop} {Q : Exit → Act → World → Prop} (s x : Operand)
  (ho : o.op = .call { callee := .builtin .append, args := #[s, x], argTypes := #[63, 63] })
  (base : Nat) (v : Value) (xs : List Byt) (hs : a.eval s = v) (hown : w.ownsRow base 9 1 v xs.length (strsB xs))
  (base2 : Nat) (v2 : Value) (ys : List Byt) (hx : a.eval x = v2) (hown2 : w.ownsRow base2 9 1 v2 ys.length (strsB ys)) (hlen : xs.length + ys.length ≤ 1000000) (hbase : base ≤ w.heap.size)
  (h : ∀ v' w', w'.ownsRow base 9 1 v' (xs ++ ys).length (strsB (xs ++ ys)) → w.grownBy w' v.ownBlock → K (a.put o.dst v') w') : o.wp Tryz.prog a w K Q := by
 obtain ⟨i0, hi, hz0, hz1, hz2⟩ : ∃ i, Tryz.prog.info? 9 = some i ∧ i.zero = some (.string ⟨#[]⟩) ∧ i.size = 1 ∧ i.bytes = 16 := by
  have := infoStr
  cases hi : Tryz.prog.info? 9 with
  | none => rw [hi] at this; cases this
  | some i =>
   rw [hi] at this
   simp only [Option.map_some, Option.some.injEq, Prod.mk.injEq] at this
   exact ⟨i, rfl, this.1, this.2.1, this.2.2⟩
 obtain ⟨sa, c, rfl⟩ := own_form2 hown2
 cases sa with
 | none =>
  have hz : ys.length = 0 := by
   rcases hown2.2 with ⟨-, hz⟩ | ⟨g, o', c', e, -⟩
   ·exact hz
   ·cases e
  obtain rfl : ys = [] := List.length_eq_zero_iff.1 hz
  have hrun := run_append_noneS w c base i0 hi o.type v _ _ hown
  have hx' : a.eval x = .slice none 0 c := hx
  unfold Oper.wp
  simp [execOp, ho, resolve, invoke, builtin, hs, hx', hrun, Result.andThen]
  exact h v w (by simpa using hown) ⟨rfl, rfl, rfl, Nat.le_refl _, fun _ _ _ => rfl⟩
 | some ad =>
  refine wp_append_own _ s x 63 ho base 9 i0 (.string ⟨#[]⟩) 1 16 Tryz.underlying63 hi hz0 hz1 hz2 rfl (by decide) v xs.length (strsB xs) hs hown ad ys.length c (strsB ys) hx (by rw [strsB_len]; omega) (src_cells hown2) (strsB_cell1 ys) (by unfold maxLen; omega) (by omega) hbase ?_
  intro v' w2 ho2 hg2 _
  refine h v' w2 ?_ hg2
  rw [← strsB_app, List.length_append]
  exact ho2
theorem app_strs {w : World} {ops : Array Oper} {rest : List Oper} {o : Oper} {a : Act} {Q : Exit → Act → World → Prop} (hgd : o.guard = none) (s x : Operand)
  (ho : o.op = .call { callee := .builtin .append, args := #[s, x], argTypes := #[63, 63] })
  (base : Nat) (v : Value) (xs : List Byt) (hs : a.eval s = v) (hown : w.ownsRow base 9 1 v xs.length (strsB xs))
  (base2 : Nat) (v2 : Value) (ys : List Byt) (hx : a.eval x = v2) (hown2 : w.ownsRow base2 9 1 v2 ys.length (strsB ys)) (hlen : xs.length + ys.length ≤ 1000000) (hbase : base ≤ w.heap.size)
  (h : ∀ v' w', w'.ownsRow base 9 1 v' (xs ++ ys).length (strsB (xs ++ ys)) → w.grownBy w' v.ownBlock → wpList Tryz.prog ops Q rest (a.put o.dst v') w') : wpList Tryz.prog ops Q (o :: rest) a w :=
 wpList_plain hgd fun _ hK => wp_app_strs s x ho base v xs hs hown base2 v2 ys hx hown2 hlen hbase fun v' w' h1 h2 => hK _ _ (h v' w' h1 h2)
set_option maxRecDepth 100000
set_option maxHeartbeats 8000000
variable {R : RulesZ} {vp vs ve : Value}
def NodesAt (w : World) (gn on : Nat) (X : RecZ) : Prop := gn < w.heap.size ∧ ∀ i, i < X.nodes.length → w.cell? ⟨gn, on + i * 5, none⟩ = some (.int .i64 (ndAt X.nodes i).parent) ∧ w.cell? ⟨gn, on + i * 5 + 1, none⟩ = some (.int .i64 (ndAt X.nodes i).m.src) ∧
   w.cell? ⟨gn, on + i * 5 + 2, none⟩ = some (.int .i64 (ndAt X.nodes i).m.dst) ∧ w.cell? ⟨gn, on + i * 5 + 3, none⟩ = some (.int .i64 (ndAt X.nodes i).m.piece) ∧ w.cell? ⟨gn, on + i * 5 + 4, none⟩ = some (.string (ndAt X.nodes i).comment) ∧ (ndAt X.nodes i).comment.size ≤ maxLen
theorem NodesAt.below {w w' : World} {B gn on : Nat} {X : RecZ} (h : NodesAt w gn on X) (hb : Below B w w') (hB : w.heap.size ≤ B) : NodesAt w' gn on X :=
 ⟨by have := h.1; have := hb.size; omega, fun i hi => by
  have hg : gn < B := by have := h.1; omega
  obtain ⟨h0, h1, h2, h3, h4, h5⟩ := h.2 i hi
  exact ⟨(hb.cell (p := ⟨gn, on + i * 5, none⟩) hg).trans h0, (hb.cell (p := ⟨gn, on + i * 5 + 1, none⟩) hg).trans h1, (hb.cell (p := ⟨gn, on + i * 5 + 2, none⟩) hg).trans h2, (hb.cell (p := ⟨gn, on + i * 5 + 3, none⟩) hg).trans h3, (hb.cell (p := ⟨gn, on + i * 5 + 4, none⟩) hg).trans h4, h5⟩⟩
theorem next_any (X : RecZ) (ta : Option Addr) (tc gn on nc n b b3 b4 : Nat) (p : PosZ) (vc v0 v1 : Value) (w : World) (hb : Box w b [.string R.name, .int .i64 R.width, .int .i64 R.height, vp, vs, .bool R.falls, .bool R.keeps, ve, .int .i64 R.blocked, .int .i64 R.quiet, .int .i64 R.rept, .slice ta X.tags.length tc, .string X.comment, .slice (some ⟨gn, on, none⟩) X.nodes.length nc, .int .i64 X.result] WrT) (h3 : Box w b3 [.pointer (some ⟨b, 0, none⟩)] 69) (h4 : Box w b4 [vc, v0, v1, .int .i64 p.turn, .int .i64 p.quiet] 66) (hp : RdP w p vc v0 v1) (K : POk R p)
  (hn : n < X.nodes.length) (hm : (ndAt X.nodes n).m ∈ listZ R p) (hnd : NodesAt w gn on X) :
  Calls Tryz.prog 45 (#[.int .i64 n] ++ #[.pointer (some ⟨b3, 0, none⟩), .pointer (some ⟨b4, 0, none⟩)]) w (MakePost R p (ndAt X.nodes n).m w) := by
 have HP := Lib.hid hp
 have HK := Lib.hid K
 have HBr := Lib.hid hb
 have HB3 := Lib.hid h3
 have HB4 := Lib.hid h4
 obtain ⟨hgl, hnd⟩ := hnd
 obtain ⟨-, n1, n2, n3, -, -⟩ := hnd n hn
 obtain ⟨m, hme⟩ : ∃ m, m = (ndAt X.nodes n).m := ⟨_, rfl⟩
 rw [← hme] at n1 n2 n3 hm ⊢
 have HM := Lib.hid hm
 have HN := Lib.hid (And.intro n1 (And.intro n2 n3))
 have hbl := hb.lt
 have hb3l := h3.lt
 have hb4l := h4.lt
 clear hb h3 h4 hp K hnd hme hm n1 n2 n3
 have hn1 : (n : Int) < (X.nodes.length : Int) := by omega
 go_enter Tryz.func45, Tryz.ntmps45
 go_upto_region 1 with (fail)
 refine opn1 ?_
 intro w0 xbO hB0 hS0
 have HB := Lib.hid hB0
 obtain ⟨bO, hbO⟩ : ∃ bO, bO = w.heap.size := ⟨_, rfl⟩
 rw [← hbO] at xbO ⊢
 have hbO1 : w.heap.size ≤ bO := by omega
 have HbO := Lib.hid xbO
 have hS : bO < w0.heap.size := by omega
 clear hB0 hS0 xbO hbO
 obtain ⟨wq, rfl⟩ : ∃ wq : World, wq = w0 := ⟨_, rfl⟩
 have Az : Box wq.drew b3 [.pointer (some ⟨b, 0, none⟩)] 69 := (HB3.out.stays HB.out : Box wq b3 [.pointer (some ⟨b, 0, none⟩)] 69)
 have Dz : Box wq.drew b [.string R.name, .int .i64 R.width, .int .i64 R.height, vp, vs, .bool R.falls, .bool R.keeps, ve, .int .i64 R.blocked, .int .i64 R.quiet, .int .i64 R.rept, .slice ta X.tags.length tc, .string X.comment, .slice (some ⟨gn, on, none⟩) X.nodes.length nc, .int .i64 X.result] WrT := (HBr.out.stays HB.out : Box wq b [.string R.name, .int .i64 R.width, .int .i64 R.height, vp, vs, .bool R.falls, .bool R.keeps, ve, .int .i64 R.blocked, .int .i64 R.quiet, .int .i64 R.rept, .slice ta X.tags.length tc, .string X.comment, .slice (some ⟨gn, on, none⟩) X.nodes.length nc, .int .i64 X.result] WrT)
 have Ez : Box wq.drew b4 [vc, v0, v1, .int .i64 p.turn, .int .i64 p.quiet] 66 := (HB4.out.stays HB.out : Box wq b4 [vc, v0, v1, .int .i64 p.turn, .int .i64 p.quiet] 66)
 have Oz := HbO.out.drew
 have Lz : Below w.heap.size w wq.drew := HB.out.drew
 have mz0 : wq.drew.cell? ⟨gn, on + n * 5 + 1, none⟩ = some (.int .i64 m.src) := (HB.out.cell (p := ⟨gn, on + n * 5 + 1, none⟩) hgl).trans HN.out.1
 have mz1 : wq.drew.cell? ⟨gn, on + n * 5 + 2, none⟩ = some (.int .i64 m.dst) := (HB.out.cell (p := ⟨gn, on + n * 5 + 2, none⟩) hgl).trans HN.out.2.1
 have mz2 : wq.drew.cell? ⟨gn, on + n * 5 + 3, none⟩ = some (.int .i64 m.piece) := (HB.out.cell (p := ⟨gn, on + n * 5 + 3, none⟩) hgl).trans HN.out.2.2
 have HPz := HP.out.below Lz (Nat.le_refl _)
 refine wp_region_noPanic ?_
 refine beginL (S := (fun w' => w'.cell? ⟨b3, 0, none⟩ = some (.pointer (some ⟨b, 0, none⟩)) ∧ w'.cell? ⟨b, 0, none⟩ = some (.string R.name) ∧ w'.cell? ⟨b, 1, none⟩ = some (.int .i64 R.width) ∧ w'.cell? ⟨b, 2, none⟩ = some (.int .i64 R.height) ∧ w'.cell? ⟨b, 3, none⟩ = some vp ∧ w'.cell? ⟨b, 4, none⟩ = some vs ∧ w'.cell? ⟨b, 5, none⟩ = some (.bool R.falls) ∧ w'.cell? ⟨b, 6, none⟩ = some (.bool R.keeps) ∧ w'.cell? ⟨b, 7, none⟩ = some ve ∧ w'.cell? ⟨b, 8, none⟩ = some (.int .i64 R.blocked) ∧ w'.cell? ⟨b, 9, none⟩ = some (.int .i64 R.quiet) ∧ w'.cell? ⟨b, 10, none⟩ = some (.int .i64 R.rept) ∧ w'.cell? ⟨b, 13, none⟩ = some (.slice (some ⟨gn, on, none⟩) X.nodes.length nc) ∧ w'.cell? ⟨b4, 0, none⟩ = some vc ∧ w'.cell? ⟨b4, 1, none⟩ = some v0 ∧ w'.cell? ⟨b4, 2, none⟩ = some v1 ∧ w'.cell? ⟨b4, 3, none⟩ = some (.int .i64 p.turn) ∧ w'.cell? ⟨b4, 4, none⟩ = some (.int .i64 p.quiet) ∧ w'.cell? ⟨gn, on + n * 5 + 1, none⟩ = some (.int .i64 m.src) ∧ w'.cell? ⟨gn, on + n * 5 + 2, none⟩ = some (.int .i64 m.dst) ∧ w'.cell? ⟨gn, on + n * 5 + 3, none⟩ = some (.int .i64 m.piece))) (L := [15]) (by kernel_rfl) ⟨Az.cell 0 rfl, Dz.cell 0 rfl, Dz.cell 1 rfl, Dz.cell 2 rfl, Dz.cell 3 rfl, Dz.cell 4 rfl, Dz.cell 5 rfl, Dz.cell 6 rfl, Dz.cell 7 rfl, Dz.cell 8 rfl, Dz.cell 9 rfl, Dz.cell 10 rfl, Dz.cell 13 rfl, Ez.cell 0 rfl, Ez.cell 1 rfl, Ez.cell 2 rfl, Ez.cell 3 rfl, Ez.cell 4 rfl, mz0, mz1, mz2⟩ (fun hHeld => ?_)
 refine tkL 0 ?_
 refine tkL 4 ?_
 refine tkL 5 ?_
 refine tkW 10 ?_
 refine tkW 1 ?_
 refine tkW 6 ?_
 refine tkW 2 ?_
 refine tkW 7 ?_
 refine tkL 3 ?_
 refine tkW 8 ?_
 refine tkL 9 ?_
 refine tkW 11 ?_
 refine tkW 12 ?_
 refine tkL 13 ?_
 refine cnL 14 fun K hK => ?_
 go_simp
 refine (Make_any R vp vs ve p vc v0 v1 m wq.drew HPz HK.out (fits_of HK.out HM.out)).mono ?_
 rintro e w10 ⟨yc, y0, y1, rfl, ho10, hb10⟩
 obtain ⟨ya, yk, rfl⟩ := own_form2 ho10.1
 obtain ⟨ya0, yk0, rfl⟩ := own_form2 ho10.2.1
 obtain ⟨ya1, yk1, rfl⟩ := own_form2 ho10.2.2.1
 have A10 := Az.stays hb10
 have D10 := Dz.stays hb10
 have E10 := Ez.stays hb10
 have O10 := Oz.stays hb10
 have L10 := below_trans Lz hb10 Lz.size
 have m100 := (hb10.cell (p := ⟨gn, on + n * 5 + 1, none⟩) (by show gn < _; have := Lz.size; omega)).trans mz0
 have m101 := (hb10.cell (p := ⟨gn, on + n * 5 + 2, none⟩) (by show gn < _; have := Lz.size; omega)).trans mz1
 have m102 := (hb10.cell (p := ⟨gn, on + n * 5 + 3, none⟩) (by show gn < _; have := Lz.size; omega)).trans mz2
 unfold posV
 refine hK.out _ _ ⟨A10.cell 0 rfl, D10.cell 0 rfl, D10.cell 1 rfl, D10.cell 2 rfl, D10.cell 3 rfl, D10.cell 4 rfl, D10.cell 5 rfl, D10.cell 6 rfl, D10.cell 7 rfl, D10.cell 8 rfl, D10.cell 9 rfl, D10.cell 10 rfl, D10.cell 13 rfl, E10.cell 0 rfl, E10.cell 1 rfl, E10.cell 2 rfl, E10.cell 3 rfl, E10.cell 4 rfl, m100, m101, m102⟩ (fun hHeld => ?_)
 clear hK K
 refine ltL 15 fun K hK => ?_
 have d0 := O10.cell 0 rfl
 have d1 := O10.cell 1 rfl
 have d2 := O10.cell 2 rfl
 have d3 := O10.cell 3 rfl
 have d4 := O10.cell 4 rfl
 have f0 := O10.frozen 0
 have f1 := O10.frozen 1
 have f2 := O10.frozen 2
 have f3 := O10.frozen 3
 have f4 := O10.frozen 4
 have dl := O10.lt
 go_simp
 refine K_world ?_
 intro w6 e6
 have hw6 : w6 = w10.setCells bO 0 [.slice ya (makeZ R p m).cells.length yk, .slice ya0 (makeZ R p m).h0.length yk0, .slice ya1 (makeZ R p m).h1.length yk1, .int .i64 (makeZ R p m).turn, .int .i64 (makeZ R p m).quiet] := by rw [e6]; rfl
 have O6 : Box w6 bO [.slice ya (makeZ R p m).cells.length yk, .slice ya0 (makeZ R p m).h0.length yk0, .slice ya1 (makeZ R p m).h1.length yk1, .int .i64 (makeZ R p m).turn, .int .i64 (makeZ R p m).quiet] 66 := by rw [hw6]; exact O10.store rfl
 have L6 : Below w.heap.size w w6 := by rw [hw6]; exact below_setCells L10 hbO1 0 _
 have OW6 : OwnP w.heap.size w6 (makeZ R p m) (.slice ya (makeZ R p m).cells.length yk) (.slice ya0 (makeZ R p m).h0.length yk0) (.slice ya1 (makeZ R p m).h1.length yk1) := by rw [hw6]; exact (OwnP.setCells ho10 (by show bO < _; exact Oz.lt) 0 _).base (by have := Lz.size; exact this)
 clear e6 hw6 d0 d1 d2 d3 d4 f0 f1 f2 f3 f4 dl
 refine hK.out _ _ ?_
 clear hK K
 refine dnN ?_
 have HO6 := Lib.hid O6
 have HL6 := Lib.hid L6
 have HW6 := Lib.hid OW6
 clear hHeld Az Dz Ez Oz Lz A10 D10 E10 O10 L10 O6 L6 OW6 hb10 ho10 mz0 mz1 mz2 m100 m101 m102 HPz
 go_wp2_with fail
 exact bodyPost_ret (results_one rfl (by rfl) HO6.out Tryz.underlying66 (by rfl) (by kernel_rfl)) rfl ⟨_, _, _, rfl, HW6.out, HL6.out⟩
end Go.Proofs.YthklhndcdijneaaGreatDoor

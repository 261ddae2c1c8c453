/- An4, An5, An6, AnMg. -/
import Derived.Test.YtnieifdogllbfaaGreatE27
import Derived.Test.YtnieifdogllbfaaGreatE19
import Derived.Test.YtnieifdogllbfaaGreatC06
import Derived.BigQuiet
import Derived.Deep.Cut
import Derived.Deep.CutRange
import Derived.Deep.QuietTactic
import Derived.Test.YtnieifdogllbfaaGreatE26
namespace Go.Proofs.YtnieifdogllbfaaGreat
open Go.ChangeShapes Go.WideShapes Go.ChangeAt Go.RowKit
set_option linter.unusedVariables false
theorem und_all {ns : List NodeZ} (hb : Back ns ns.length) (hl : ∀ k, k < ns.length → -1 ≤ (ndAt ns k).parent) : ∀ (f k : Nat), k < f → k < ns.length → Und ns (-1) k
 | 0, k, h, _ => by omega
 | f + 1, k, h, hk => by
  refine ⟨hk, ?_⟩
  have h1 := hb k hk
  have h2 := hl k hk
  by_cases e : (ndAt ns k).parent = -1
  ·rw [e]; exact .here _
  ·obtain ⟨m, hm⟩ : ∃ m : Nat, (ndAt ns k).parent = (m : Int) := ⟨(ndAt ns k).parent.toNat, by omega⟩
   rw [hm]
   exact .step m _ (und_all hb hl f m (by omega) (by omega)).2
/-- blocks of two types are two blocks. -/
theorem row_box_ne {w : World} {b g g' n : Nat} {e t : TypeId} {v : Value} {xs cs : List Value} (h : w.ownsRow b e 1 v n xs) (hg : v.ownBlock = some g) (hb : Box w g' cs t) (hne : t ≠ e) : g ≠ g' := by
 rintro rfl
 rcases h.2 with ⟨rfl, -⟩ | ⟨g2, c, cur, rfl, -, hk, -⟩
 ·cases hg
 ·simp only [Value.ownBlock, Option.some.injEq] at hg
  subst hg
  have h1 : w.heap[g2]? = some (.cells cs.toArray t (0, 0)) := hb
  rw [hk] at h1
  simp only [Option.some.injEq, Obj.cells.injEq] at h1
  exact hne h1.2.1.symm
def updO (ord : Int → List Nat) (p : Int) (js : List Nat) (q : Int) : List Nat := if q = p then js else ord q
theorem Nd.congr {tb te : TypeId} {base : Nat} {w : World} {ns : List NodeZ} {ord ord' : Int → List Nat} {Ws : List Value} {k : Nat} (h : Nd tb te base w ns ord Ws k) (e : ord' (k : Int) = ord (k : Int)) : Nd tb te base w ns ord' Ws k := by
 refine ⟨h.here, ⟨h.nd.lo, h.nd.box, h.nd.sz, ?_, h.nd.nil⟩⟩
 rw [e]; exact h.nd.row
abbrev tSl : TypeId := 59
structure GS (base : Nat) (w : World) (ns : List NodeZ) (ord : Int → List Nat) (bw bl : Nat) (Ws : List Value) (v : Value) : Prop where
 wh : Box w bw Ws tPt
 hl : Box w bl [v] tSl
 lo : bw < base ∧ base ≤ bl
 nds : ∀ k, k < ns.length → Nd tBr tPt base w ns ord Ws k
 sep : ∀ k k', k < ns.length → k' < ns.length → k ≠ k' → Apart w Ws k k'
 out : w.ownsRow base tPt 1 v (ord (-1)).length ((ord (-1)).map fun j => ptrV (adr Ws j))
 osep : ∀ k, k < ns.length → v.ownBlock = none ∨ v.ownBlock ≠ (kv w (adr Ws k)).ownBlock
variable {base : Nat} {w w1 : World} {ns : List NodeZ} {ord : Int → List Nat} {bw bl : Nat} {Ws : List Value} {v v' : Value}
theorem GS.stays (h : GS base w ns ord bw bl Ws v) (hb : Below w.heap.size w w1) : GS base w1 ns ord bw bl Ws v := by
 have hk : ∀ k, k < ns.length → Nd tBr tPt base w1 ns ord Ws k ∧ kv w1 (adr Ws k) = kv w (adr Ws k) := fun k hk =>
  (h.nds k hk).step (Nat.le_refl _) (hb.block _ (h.nds k hk).hi) (fun g hg => hb.block g ((h.nds k hk).row g hg).2) rfl (fun _ _ => rfl)
 refine ⟨h.wh.stays hb, h.hl.stays hb, h.lo, fun k h1 => (hk k h1).1, fun k k' h1 h2 h3 => ?_, own_of_block h.out (fun g hg => hb.block g (h.out.lt g hg).2), fun k h1 => by rw [(hk k h1).2]; exact h.osep k h1⟩
 have := h.sep k k' h1 h2 h3
 unfold Apart at this ⊢
 rw [(hk k h1).2, (hk k' h2).2]
 exact this
/-- the row after node p. -/
theorem GS.put (h : GS base w ns ord bw bl Ws v) {p : Nat} (hp : p < ns.length) (js : List Nat) (hg : w.grownBy w1 (kv w (adr Ws p)).ownBlock) (hv : v'.ownBlock = (kv w (adr Ws p)).ownBlock)
  (ho : w1.ownsRow base tPt 1 v' js.length (js.map fun j => ptrV (adr Ws j))) : GS base (w1.setCell ⟨adr Ws p, 4, none⟩ v') ns (updO ord (p : Int) js) bw bl Ws v := by
 have hP := h.nds p hp
 have rne : ∀ g g' (cs : List Value) (t : TypeId), (kv w (adr Ws p)).ownBlock = some g → Box w g' cs t → t ≠ tPt → g' ≠ g := fun g g' cs t h1 h2 h3 e => row_box_ne hP.nd.row h1 h2 h3 e.symm
 have hbx : ∀ g' (cs : List Value) (t : TypeId), Box w g' cs t → t ≠ tPt → w1.heap[g']? = w.heap[g']? := fun g' cs t h1 h2 => hg.block g' h1.lt (fun e => rne g' g' cs t e.symm h1 h2 rfl)
 have bp := hP.nd.box
 have kvw : ∀ k, k < ns.length → k ≠ p → (w1.setCell ⟨adr Ws p, 4, none⟩ v').heap[adr Ws k]? = w.heap[adr Ws k]? := fun k hk hkp => by
  rw [Below.heap_setCell w1 _ _ _ (by exact (h.sep k p hk hp hkp).1)]
  exact hbx _ _ _ (h.nds k hk).nd.box (by decide)
 have ho' : ∀ g, v'.ownBlock = some g → g ≠ adr Ws p := fun g e1 => row_box_ne hP.nd.row (by rw [← hv]; exact e1) bp (by decide)
 have hrow : ∀ k, k < ns.length → k ≠ p → ∀ g, (kv w (adr Ws k)).ownBlock = some g → (w1.setCell ⟨adr Ws p, 4, none⟩ v').heap[g]? = w.heap[g]? := fun k hk hkp g e => by
  have hR := (h.nds k hk).nd.row
  rw [Below.heap_setCell w1 _ _ _ (by exact row_box_ne hR e bp (by decide))]
  refine hg.block g (hR.lt g e).2 (fun e2 => ?_)
  rcases (h.sep k p hk hp hkp).2 with h4 | h4
  ·rw [h4] at e; cases e
  ·exact h4 (by rw [e, e2])
 have bp1 : Box w1 (adr Ws p) _ tBr := (hbx _ _ _ bp (by decide)).trans bp
 have bp2 := bp1.set 4 v'
 have ekp : kv (w1.setCell ⟨adr Ws p, 4, none⟩ v') (adr Ws p) = v' := by
  unfold kv
  rw [bp2.cell 4 rfl]; rfl
 have hk : ∀ k, k < ns.length → Nd tBr tPt base (w1.setCell ⟨adr Ws p, 4, none⟩ v') ns (updO ord (p : Int) js) Ws k ∧ (kv (w1.setCell ⟨adr Ws p, 4, none⟩ v') (adr Ws k)).ownBlock = (kv w (adr Ws k)).ownBlock := fun k hk => by
  by_cases e : k = p
  ·subst e
   refine ⟨⟨hP.here, ⟨hP.nd.lo, ?_, hP.nd.sz, ?_, ⟨trivial, fun _ _ => trivial⟩⟩⟩, by rw [ekp]; exact hv⟩
   ·show Box _ (adr Ws k) _ tBr
    rw [ekp]; exact bp2
   ·show World.ownsRow _ base tPt 1 (kv _ (adr Ws k)) _ _
    rw [ekp, show updO ord (k : Int) js (k : Int) = js from if_pos rfl]
    exact own_of_block ho (fun g hg => Below.heap_setCell w1 _ _ _ (by exact ho' g hg))
  ·have h1 := (h.nds k hk).step (Nat.le_refl base) (kvw k hk e) (hrow k hk e) rfl (fun _ _ => rfl)
   exact ⟨h1.1.congr (if_neg (by omega)), by rw [h1.2]⟩
 have hsl : bl ≠ adr Ws p := fun e => by
  have h1 : w.heap[bl]? = _ := h.hl
  have h2 : w.heap[adr Ws p]? = _ := bp
  rw [← e, h1] at h2
  simp only [Option.some.injEq, Obj.cells.injEq] at h2
  exact absurd h2.2.1 (by decide)
 have hbw : bw ≠ adr Ws p := by have := hP.nd.lo; have := h.lo.1; omega
 refine ⟨?_, ?_, h.lo, fun k h1 => (hk k h1).1, fun k k' h1 h2 h3 => ⟨(h.sep k k' h1 h2 h3).1, ?_⟩, ?_, fun k h1 => by rw [(hk k h1).2]; exact h.osep k h1⟩
 ·refine Box.far ?_ _ _ hbw
  exact (hg.block bw h.wh.lt (fun e => by have := (hP.row bw e.symm).1; have := h.lo.1; omega)).trans h.wh
 ·refine Box.far ?_ _ _ hsl
  exact (hbx _ _ _ h.hl (by decide)).trans h.hl
 ·rw [(hk k h1).2, (hk k' h2).2]; exact (h.sep k k' h1 h2 h3).2
 ·have e1 : updO ord (p : Int) js (-1) = ord (-1) := if_neg (by omega)
  rw [e1]
  refine own_of_block h.out (fun g hg' => ?_)
  rw [Below.heap_setCell w1 _ _ _ (by exact row_box_ne h.out hg' bp (by decide))]
  refine hg.block g (h.out.lt g hg').2 (fun e2 => ?_)
  rcases h.osep p hp with h4 | h4
  ·rw [h4] at hg'; cases hg'
  ·exact h4 (by rw [hg', e2])
/-- the first row. -/
theorem GS.top (h : GS base w ns ord bw bl Ws v) (js : List Nat) (hg : w.grownBy w1 v.ownBlock) (hv : v'.ownBlock = v.ownBlock)
  (ho : w1.ownsRow base tPt 1 v' js.length (js.map fun j => ptrV (adr Ws j))) : GS base (w1.setCell ⟨bl, 0, none⟩ v') ns (updO ord (-1) js) bw bl Ws v' := by
 have hbx : ∀ g' (cs : List Value) (t : TypeId), Box w g' cs t → t ≠ tPt → w1.heap[g']? = w.heap[g']? := fun g' cs t h1 h2 => hg.block g' h1.lt (fun e => row_box_ne h.out e.symm h1 h2 rfl)
 have hne : ∀ k, k < ns.length → adr Ws k ≠ bl := fun k hk e => by
  have h1 : w.heap[bl]? = _ := h.hl
  have h2 : w.heap[adr Ws k]? = _ := (h.nds k hk).nd.box
  rw [e, h1] at h2
  simp only [Option.some.injEq, Obj.cells.injEq] at h2
  exact absurd h2.2.1 (by decide)
 have hk : ∀ k, k < ns.length → Nd tBr tPt base (w1.setCell ⟨bl, 0, none⟩ v') ns ord Ws k ∧ kv (w1.setCell ⟨bl, 0, none⟩ v') (adr Ws k) = kv w (adr Ws k) := fun k hk => by
  refine (h.nds k hk).step (Nat.le_refl base) ?_ (fun g e => ?_) rfl (fun _ _ => rfl)
  ·rw [Below.heap_setCell w1 _ _ _ (by exact hne k hk)]
   exact hbx _ _ _ (h.nds k hk).nd.box (by decide)
  ·have hR := (h.nds k hk).nd.row
   rw [Below.heap_setCell w1 _ _ _ (by exact row_box_ne hR e h.hl (by decide))]
   refine hg.block g (hR.lt g e).2 (fun e2 => ?_)
   rcases h.osep k hk with h4 | h4
   ·rw [h4] at e2; cases e2
   ·exact h4 (by rw [e, e2])
 have hb1 : Box w1 bl [v] tSl := (hbx _ _ _ h.hl (by decide)).trans h.hl
 refine ⟨?_, hb1.set 0 v', h.lo, fun k h1 => ((hk k h1).1).congr (if_neg (by omega)), fun k k' h1 h2 h3 => ?_, ?_, fun k h1 => by rw [(hk k h1).2, hv]; exact h.osep k h1⟩
 ·refine Box.far ?_ _ _ (by have := h.lo; show bw ≠ bl; omega)
  exact (hg.block bw h.wh.lt (fun e => by have := (h.out.lt bw e.symm).1; have := h.lo.1; omega)).trans h.wh
 ·have := h.sep k k' h1 h2 h3
  unfold Apart at this ⊢
  rw [(hk k h1).2, (hk k' h2).2]; exact this
 ·rw [show updO ord (-1) js (-1) = js from if_pos rfl]
  exact own_of_block ho (fun g hg' => Below.heap_setCell w1 _ _ _ (by exact row_box_ne h.out (by rw [← hv]; exact hg') h.hl (by decide)))
/-- tree has made it. -/
theorem GS.start {w0 : World} {Ws0 : List Value} (hb : Back ns ns.length) (hl : ∀ k, k < ns.length → -1 ≤ (ndAt ns k).parent) (h : TS tBr tPt base w0 w ns (kidsZ ns) bw Ws0 Ws (Und ns (-1)) v (kidsZ ns (-1))) (hbw : bw < base) (hw : base ≤ w.heap.size) (hB : Below w.heap.size w w1) (hbl : Box w1 bl [v] tSl) (hbl2 : base ≤ bl) : GS base w1 ns (kidsZ ns) bw bl Ws v := by
 have ha : ∀ k, k < ns.length → Und ns (-1) k := fun k hk => und_all hb hl (k + 1) k (by omega) hk
 have hk : ∀ k, k < ns.length → Nd tBr tPt base w1 ns (kidsZ ns) Ws k ∧ kv w1 (adr Ws k) = kv w (adr Ws k) := fun k hk =>
  (h.nds k (ha k hk)).step (Nat.le_refl _) (hB.block _ (h.nds k (ha k hk)).hi) (fun g hg => hB.block g ((h.nds k (ha k hk)).row g hg).2) rfl (fun _ _ => rfl)
 refine ⟨h.wh.stays hB, hbl, ⟨hbw, hbl2⟩, fun k h1 => (hk k h1).1, fun k k' h1 h2 h3 => ?_, own_of_block h.out (fun g hg => hB.block g (h.out.lt g hg).2), fun k h1 => by rw [(hk k h1).2]; exact h.osep k (ha k h1)⟩
 have := h.sep k k' (ha k h1) (ha k' h2) h3
 unfold Apart at this ⊢
 rw [(hk k h1).2, (hk k' h2).2]; exact this
theorem GS.brs (h : GS base w ns ord bw bl Ws v) (hd : ∀ p, ∀ j ∈ ord p, p < j ∧ j < ns.length) : BrsAt anyB tBr tPt base w (treeO ns ord (ns.length + 1) (-1)) ((ord (-1)).map fun j => ptrV (adr Ws j)) := by
 refine brs_of (A := adr Ws) (K := fun k => kv w (adr Ws k)) (fun k => k < ns.length) (fun k hk => (h.nds k hk).nd) (fun k hk j hj => ?_) _ _ (fun j hj => (hd _ j hj).2) (fun j hj => ⟨(hd _ j hj).2, by omega⟩)
 have := hd (k : Int) j hj
 exact ⟨this.2, by omega, this.2⟩
end Go.Proofs.YtnieifdogllbfaaGreat
namespace Go.Proofs.YtnieifdogllbfaaGreat
open Go.ChangeShapes Go.WideShapes Go.ChangeAt Go.RowKit
set_option linter.unusedVariables false
theorem idxN_at (t : Nat) : ∀ (l : List Nat) (k : Int), t ∈ l → ∃ i : Nat, l[i]? = some t ∧ idxN t l k = k + i
 | [], _, h => by cases h
 | g :: l, k, h => by
  rw [idxN]
  by_cases e : t = g
  ·rw [if_pos e, e]; exact ⟨0, rfl, by simp⟩
  ·rw [if_neg e]
   obtain ⟨i, h1, h2⟩ := idxN_at t l (k + 1) (by rcases List.mem_cons.1 h with h | h; exact absurd h e; exact h)
   exact ⟨i + 1, h1, by rw [h2]; omega⟩
theorem erase_filter : ∀ (l : List Nat) (i node : Nat), l.Nodup → l[i]? = some node → l.eraseIdx i = l.filter fun k => k != node
 | [], i, node, _, h => by cases h
 | a :: l, 0, node, hn, h => by
  simp only [List.getElem?_cons_zero, Option.some.injEq] at h
  subst h
  rw [List.eraseIdx_cons_zero, List.filter_cons_of_neg (by simp)]
  symm
  exact List.filter_eq_self.2 fun k hk => by
   have := (List.nodup_cons.1 hn).1
   simp only [bne_iff_ne, ne_eq]
   rintro rfl; exact this hk
 | a :: l, i + 1, node, hn, h => by
  rw [List.getElem?_cons_succ] at h
  have h1 : a ≠ node := by
   rintro rfl
   exact (List.nodup_cons.1 hn).1 (List.mem_of_getElem? h)
  rw [List.eraseIdx_cons_succ, List.filter_cons_of_pos (by simpa using h1), erase_filter l i node (List.nodup_cons.1 hn).2 h]
theorem map_erase {f : Nat → Value} (l : List Nat) (i : Nat) : (l.map f).eraseIdx i = (l.eraseIdx i).map f := by
 rw [List.eraseIdx_eq_take_drop_succ, List.eraseIdx_eq_take_drop_succ, List.map_append, List.map_take, List.map_drop]
/-- where the row after par is kept. -/
structure Slot (base : Nat) (w : World) (ns : List NodeZ) (ord : Int → List Nat) (bw bl : Nat) (Ws : List Value) (par : Int) (T o : Nat) (rv : Value) : Prop where
 cell : w.cell? ⟨T, o, none⟩ = some rv
 frz : w.frozen? ⟨T, o, none⟩ = false
 lt : T < w.heap.size
 low : base ≤ T
 row : w.ownsRow base tPt 1 rv (ord par).length ((ord par).map fun j => ptrV (adr Ws j))
 keep : ∀ w1 : World, w1.heap[T]? = w.heap[T]? → w1.cell? ⟨T, o, none⟩ = some rv ∧ w1.frozen? ⟨T, o, none⟩ = false ∧ T < w1.heap.size
 ne : ∀ g, rv.ownBlock = some g → g ≠ T
 put : ∀ (js : List Nat) (w1 : World) (v' : Value), w.grownBy w1 rv.ownBlock → v'.ownBlock = rv.ownBlock → w1.ownsRow base tPt 1 v' js.length (js.map fun j => ptrV (adr Ws j)) → ∃ v2, GS base (w1.setCell ⟨T, o, none⟩ v') ns (updO ord par js) bw bl Ws v2
variable {base : Nat} {w w1 : World} {ns : List NodeZ} {ord : Int → List Nat} {bw bl : Nat} {Ws : List Value} {v v' : Value}
theorem GS.slotTop (h : GS base w ns ord bw bl Ws v) : Slot base w ns ord bw bl Ws (-1) bl 0 v :=
 ⟨h.hl.cell 0 rfl, h.hl.frozen 0, h.hl.lt, h.lo.2, h.out, fun w1 hw => by have hb : Box w1 bl [v] tSl := hw.trans h.hl; exact ⟨hb.cell 0 rfl, hb.frozen 0, hb.lt⟩, fun g hg => row_box_ne h.out hg h.hl (by decide), fun js w1 v' h1 h2 h3 => ⟨_, h.top js h1 h2 h3⟩⟩
theorem GS.slotNode (h : GS base w ns ord bw bl Ws v) {p : Nat} (hp : p < ns.length) : Slot base w ns ord bw bl Ws (p : Int) (adr Ws p) 4 (kv w (adr Ws p)) :=
 ⟨(h.nds p hp).nd.box.cell 4 rfl, (h.nds p hp).nd.box.frozen 4, (h.nds p hp).nd.box.lt, (h.nds p hp).nd.lo, (h.nds p hp).nd.row, fun w1 hw => by have hb : Box w1 (adr Ws p) _ tBr := hw.trans (h.nds p hp).nd.box; exact ⟨hb.cell 4 rfl, hb.frozen 4, hb.lt⟩, fun g hg => row_box_ne (h.nds p hp).nd.row hg (h.nds p hp).nd.box (by decide), fun js w1 v' h1 h2 h3 => ⟨_, h.put hp js h1 h2 h3⟩⟩
/-- where a child stands in its row. -/
theorem GS.place (h : GS base w ns ord bw bl Ws v) {par : Int} {c : Nat} (hl : ∀ j ∈ ord par, j < ns.length) (hc : c ∈ ord par) : ∃ i : Nat, (ord par)[i]? = some c ∧ idxN (adr Ws c) ((ord par).map (adr Ws)) 0 = i := by
 obtain ⟨i, h1, h2⟩ := idxN_at (adr Ws c) ((ord par).map (adr Ws)) 0 (List.mem_map_of_mem hc)
 refine ⟨i, ?_, by rw [h2]; omega⟩
 rw [List.getElem?_map, Option.map_eq_some_iff] at h1
 obtain ⟨j, hj, e⟩ := h1
 rw [hj]
 have hjl := hl j (List.mem_of_getElem? hj)
 by_cases ej : j = c
 ·rw [ej]
 ·exact absurd e (h.sep j c hjl (hl c hc) ej).1
theorem GS.cellsB (h : GS base w ns ord bw bl Ws v) {c : Nat} {js : List Nat} (hc : c < ns.length) (hl : ∀ j ∈ js, j < ns.length) : ∀ x ∈ adr Ws c :: js.map (adr Ws), ∃ ca ta, w.heap[x]? = some (.cells ca ta (0, 0)) := fun x hx => by
 have hb : ∀ k, k < ns.length → ∃ ca ta, w.heap[adr Ws k]? = some (.cells ca ta (0, 0)) := fun k hk => ⟨_, _, (h.nds k hk).nd.box⟩
 rcases List.mem_cons.1 hx with rfl | hx
 ·exact hb c hc
 ·obtain ⟨j, hj, rfl⟩ := List.mem_map.1 hx
  exact hb j (hl j hj)
theorem GS.wcell (h : GS base w ns ord bw bl Ws v) {c : Nat} (hc : c < ns.length) : w.cell? ⟨bw, c, none⟩ = some (.pointer (some ⟨adr Ws c, 0, none⟩)) := h.wh.cell c (h.nds c hc).here
theorem upd_cut {ns : List NodeZ} {node : Nat} : updO (kidsZ ns) (ndAt ns node).parent ((kidsZ ns (ndAt ns node).parent).filter fun k => k != node) = fun p => (kidsZ ns p).filter fun k => k != node := by
 funext q
 unfold updO
 by_cases e : q = (ndAt ns node).parent
 ·rw [if_pos e, e]
 ·rw [if_neg e]
  symm
  refine List.filter_eq_self.2 fun k hk => ?_
  simp only [bne_iff_ne, ne_eq]
  rintro rfl
  exact e (kid_par hk).1.symm
end Go.Proofs.YtnieifdogllbfaaGreat
namespace Go.Proofs.YtnieifdogllbfaaGreat
open Go.ChangeShapes Go.WideShapes Go.ChangeAt Go.RowKit
set_option linter.unusedVariables false
theorem kids_mem' {ns : List NodeZ} {k : Nat} (h : k < ns.length) : k ∈ kidsZ ns (ndAt ns k).parent := by
 unfold kidsZ
 rw [List.mem_filter]
 exact ⟨List.mem_range.2 h, by simp⟩
def CutPost (X : RecZ) (nd : Nat) (w : World) (e : Ending) (w' : World) : Prop := Below w.heap.size w w' ∧ ∃ vt vn, e = .returned (.tuple #[recV (withX X (cutT X nd)) vt vn, .int .i64 0]) ∧ RdX w' (withX X (cutT X nd)) vt vn
set_option maxRecDepth 100000
set_option maxHeartbeats 16000000
theorem Cut_any (HS : SortMvSaid) (R : RulesZ) (vp vs ve : Value) (X : RecZ) (vtx vnx : Value) (nd : Nat) (w : World) (hr : RdR w R vp vs ve) (hnm : R.name.size ≤ maxLen) (hx : RdX w X vtx vnx) (he : recErr R X = 0) (hnd : nd < X.nodes.length) :
  Calls Tryz.prog 13 #[(.agg #[.string R.name, .int .i64 R.width, .int .i64 R.height, vp, vs, .bool R.falls, .bool R.keeps, ve, .int .i64 R.blocked, .int .i64 R.quiet, .int .i64 R.rept]), recV X vtx vnx, .int .i64 nd] w (CutPost X nd w) := by
 have HSh := Lib.hid HS
 have HR := Lib.hid hr
 have HN := Lib.hid hnm
 have HX := Lib.hid hx
 have HE := Lib.hid he
 have h200 := (rec_nodes he).2.2
 have HBK := Lib.hid (rec_nodes he).2.1.back
 have HLW := Lib.hid (rec_nodes he).2.1.low
 obtain ⟨na, nc, rfl, hn1, hn2⟩ := hx.2.1.form
 obtain ⟨ta, tc, rfl, ht1, ht2⟩ := hx.1.form
 unfold maxLen at hn2 ht2
 obtain ⟨i0, hi0, hz0, hz1, hz2⟩ := info_parts infoBr
 clear hr hnm hx HS he
 unfold recV
 go_enter Tryz.func13, Tryz.ntmps13
 go_upto_region 1 with (fail)
 refine opn3 ?_
 intro w0 xbR xbX xbO hB0 hS0
 have HB := Lib.hid hB0
 obtain ⟨bO, hbO⟩ : ∃ bO, bO = w.heap.size + 1 + 1 := ⟨_, rfl⟩
 rw [← hbO] at xbO ⊢
 obtain ⟨bX, hbX⟩ : ∃ bX, bX = w.heap.size + 1 := ⟨_, rfl⟩
 rw [← hbX] at xbX ⊢
 obtain ⟨bR, hbR⟩ : ∃ bR, bR = w.heap.size := ⟨_, rfl⟩
 rw [← hbR] at xbR ⊢
 have hbR1 : w.heap.size ≤ bR := by omega
 have HbR := Lib.hid xbR
 have hbX1 : w.heap.size ≤ bX := by omega
 have hbRbX : bR < bX := by omega
 have HbX := Lib.hid xbX
 have hbO1 : w.heap.size ≤ bO := by omega
 have hbRbO : bR < bO := by omega
 have hbXbO : bX < bO := by omega
 have HbO := Lib.hid xbO
 have hS : bO < w0.heap.size := by omega
 clear hB0 hS0 xbR hbR xbX hbX xbO hbO
 refine wp_region_lit ?_
 refine wpList_load_box (by rfl) 26 (.tmp 3) (by rfl) bR (by rfl) HbR.out Tryz.underlying26 (by rfl) (by kernel_rfl) ?_
 refine wpList_load_box (by rfl) 30 (.tmp 4) (by rfl) bX (by rfl) HbX.out Tryz.underlying30 (by rfl) (by kernel_rfl) ?_
 have HC := Lib.hid (checked_ok HSh.out R vp vs ve X (.slice ta X.tags.length tc) (.slice na X.nodes.length nc) nd w0 (HR.out.below HB.out (Nat.le_refl _)) HN.out (HX.out.below HB.out (Nat.le_refl _)) HE.out hnd)
 unfold recV at HC
 go_wp2_with fail
 refine HC.out.mono ?_
 rintro e w1 ⟨rfl, hb1⟩
 have HB1 := Lib.hid (HB.out.trans (hb1.mono HB.out.size))
 have HR1 := Lib.hid (HbR.out.stays hb1)
 have HX1 := Lib.hid (HbX.out.stays hb1)
 have HO1 := Lib.hid (HbO.out.stays hb1)
 have HO1L := HO1.out.lt
 clear hb1 HC HbX HbO HbR HB hS
 have x2 := HX1.out.cell 2 rfl
 have xl := HX1.out.lt
 go_upto_region 4 with (fail)
 go_upto_region 5 with (at_make; refine wpList_make_full _ rfl _ _ 59 rfl w1.heap.size 75 i0 (.pointer none) 1 Tryz.underlying59 hi0 hz0 hz1 .i64 .i64 X.nodes.length X.nodes.length X.nodes.length rfl rfl rfl rfl (by rw [hz2]; omega) (by unfold maxLen; omega) (Nat.le_refl _) ?_; intro w2 hown2 hgr2)
 obtain ⟨hWs, hWl, -⟩ := box_of_own hown2
 have hb2 := below_made hgr2
 have HGR2 := Lib.hid hgr2
 obtain ⟨bw, hbw⟩ : ∃ bw, bw = w1.heap.size := ⟨_, rfl⟩
 rw [← hbw] at hWs ⊢
 have HBW := Lib.hid hbw
 have hbO9 : bO < bw := by have := HO1L; omega
 have hs2 : bw < w2.heap.size := hWs.lt
 have hwbw : w.heap.size ≤ bw := by rw [hbw]; exact HB1.out.size
 clear hown2 hgr2 x2 xl hbw
 have HB2 := Lib.hid (below_trans HB1.out hb2 HB1.out.size)
 have HX2 := Lib.hid (HX1.out.stays hb2)
 have hTc := tree_any X (.slice ta X.tags.length tc) (.slice na X.nodes.length nc) w1 (HX.out.below HB1.out (Nat.le_refl _)) HBK.out (by omega) (X.nodes.length + 1) (-1) bw X.nodes.length _ w2 hb2 (by rw [HBW.out]; exact Nat.le_refl _) hWs hWl (by omega) (by omega) (by omega)
 unfold recV at hTc
 have HTc := Lib.hid hTc
 clear hTc hWs hWl hb2
 refine wp_region_lit ?_
 refine wpList_load_box (by rfl) 30 (.tmp 4) (by rfl) bX (by rfl) HX2.out Tryz.underlying30 (by rfl) (by kernel_rfl) ?_
 go_wp2_with fail
 refine HTc.out.mono ?_
 rintro e w3 ⟨v3, Ws, rfl, hT3⟩
 have hbt := tree_below HGR2.out HBW.out hT3
 have HB3 := Lib.hid (below_trans HB1.out hbt HB1.out.size)
 have HR3 := Lib.hid (HR1.out.stays hbt)
 have HX3 := Lib.hid (HX1.out.stays hbt)
 have HO3 := Lib.hid (HO1.out.stays hbt)
 have HT3 := Lib.hid hT3
 have hs3 : w2.heap.size ≤ w3.heap.size := hT3.grow.size
 obtain ⟨la, lc, rfl⟩ := own_form2 hT3.out
 clear hT3 hbt HTc HX2 HB2 HR1 HX1 HO1
 go_upto_region 7 with (fail)
 have hba : Below w3.heap.size w3 (w3.alloc (.cells #[(.slice la (kidsZ X.nodes (-1)).length lc)] 59)) := (Below.refl _ _).alloc (Nat.le_refl _) _
 have hblb := Box.new w3 [(.slice la (kidsZ X.nodes (-1)).length lc)] tSl
 obtain ⟨bl, hbl0⟩ : ∃ bl, bl = w3.heap.size := ⟨_, rfl⟩
 rw [← hbl0] at hblb ⊢
 have HG := Lib.hid (GS.start HBK.out HLW.out HT3.out hs2 hs3 hba hblb (by omega))
 have HB4 := Lib.hid (below_trans HB3.out hba HB3.out.size)
 have HR4 := Lib.hid (HR3.out.stays hba)
 have HX4 := Lib.hid (HX3.out.stays hba)
 have HO4 := Lib.hid (HO3.out.stays hba)
 have hblw : w2.heap.size ≤ bl := by omega
 generalize (w3.alloc (.cells #[(.slice la (kidsZ X.nodes (-1)).length lc)] 59)) = w4 at *
 obtain ⟨base, hbase⟩ : ∃ base, base = w2.heap.size := ⟨_, rfl⟩
 rw [← hbase] at HG hblw hs2
 clear hba hblb hbl0 HB3 HR3 HX3 HO3 HT3 hs3 hbase HGR2 HBW i0 hi0 hz0 hz1 hz2
 have hbO4 : bO < bw := hbO9
 obtain ⟨g0, o0, rfl, hg, hc⟩ := nodes_some HX.out.2.1 (by omega)
 obtain ⟨e0, -, -, -, -, -⟩ := hc nd hnd
 have c0 := (HB4.out.cell (p := ⟨g0, o0 + nd * 5, none⟩) hg).trans e0
 have hg4 : g0 < w4.heap.size := by have := HB4.out.size; omega
 have x2 := HX4.out.cell 2 rfl
 have xl := HX4.out.lt
 have hp1 := HLW.out nd hnd
 have hp2 := HBK.out nd hnd
 have HKM : Hid (nd ∈ kidsZ X.nodes (ndAt X.nodes nd).parent) := Lib.hid (kids_mem' hnd)
 have HUP := Lib.hid (upd_cut (ns := X.nodes) (node := nd))
 have hndi : (nd : Int) < (X.nodes.length : Int) := by omega
 clear hc e0
 generalize (ndAt X.nodes nd).parent = par at *
 have HGw := Lib.hid (fun p hp => HG.out.wcell (c := p) hp)
 go_upto_if 36 with (fail)
 clear c0 x2
 go_cut [11] from 36 to 42 (fun v11 wx => ∃ (T o : Nat) (rv : Value), v11 = .pointer (some ⟨T, o, none⟩) ∧ Hid (Slot base w4 X.nodes (kidsZ X.nodes) bw bl Ws par T o rv) ∧ w4 = wx)
 case first =>
  by_cases hpos : 0 ≤ par
  ·obtain ⟨p, rfl⟩ : ∃ p : Nat, par = (p : Int) := ⟨par.toNat, by omega⟩
   have hpl : p < X.nodes.length := by omega
   have cw := HGw.out p hpl
   have bwl := HG.out.wh.lt
   have hal := (HG.out.nds p hpl).nd.box.lt
   have a0 := (HG.out.nds p hpl).nd.box.cell 0 rfl
   have HSl := Lib.hid (HG.out.slotNode hpl)
   go_wp2_with fail
   go_meet
   exact ⟨_, _, _, rfl, HSl, rfl⟩
  ·have hneg : par = -1 := by omega
   have HSl : Hid (Slot base w4 X.nodes (kidsZ X.nodes) bw bl Ws par bl 0 (.slice la (kidsZ X.nodes (-1)).length lc)) := Lib.hid (by rw [hneg]; exact HG.out.slotTop)
   clear hneg
   go_wp2_with fail
   go_meet
   exact ⟨_, _, _, rfl, HSl, rfl⟩
 case rest =>
  obtain ⟨T, o, rv, rfl, HSl, rfl⟩ := hcut
  obtain ⟨ra, rc, rfl⟩ := own_form2 HSl.out.row
  have hkl : (kidsZ X.nodes par).length ≤ X.nodes.length := kidsK_len X.nodes par X.nodes.length
  have HKL : Hid (∀ j ∈ kidsZ X.nodes par, j < X.nodes.length) := Lib.hid (fun j hj => (kid_par hj).2)
  obtain ⟨i, hi, hix⟩ := HG.out.place HKL.out HKM.out
  have hil := (List.getElem?_eq_some_iff.1 hi).1
  have HI := Lib.hid hi
  have HIX := Lib.hid hix
  clear hi hix
  have hTl := HSl.out.lt
  have t0 : w4.drew.cell? ⟨T, o, none⟩ = some (.slice ra (kidsZ X.nodes par).length rc) := HSl.out.cell
  have cw : w4.drew.cell? ⟨bw, nd, none⟩ = some (.pointer (some ⟨adr Ws nd, 0, none⟩)) := HGw.out nd hnd
  have bwl := HG.out.wh.lt
  go_upto_region 10 with (fail)
  refine wp_region_noPanic ?_
  refine beginL (S := (fun w' => w'.cell? ⟨T, o, none⟩ = some (.slice ra (kidsZ X.nodes par).length rc) ∧ w'.cell? ⟨bw, nd, none⟩ = some (.pointer (some ⟨adr Ws nd, 0, none⟩)))) (L := []) (by kernel_rfl) ⟨t0, cw⟩ (fun hHeld => ?_)
  refine tkW 0 ?_
  refine tkW 3 ?_
  refine tkW 4 ?_
  refine tkW 1 ?_
  refine tkW 5 ?_
  refine tkL 2 ?_
  refine tkL 6 ?_
  refine cnL 7 fun K hK => ?_
  go_simp
  refine (IndexP_any (.slice ra (kidsZ X.nodes par).length rc) base ((kidsZ X.nodes par).map (adr Ws)) (adr Ws nd) w4.drew (by rw [List.length_map, List.map_map]; exact HSl.out.row.drew) (by rw [List.length_map]; omega) (HG.out.cellsB hnd HKL.out)).mono ?_
  rintro e w5 ⟨rfl, hw5⟩
  subst hw5
  rw [HIX.out]
  refine hK.out _ _ ⟨t0, cw⟩ (fun hHeld => ?_)
  clear hK K
  refine tkW 8 ?_
  refine dnN ?_
  clear hHeld t0 cw
  have HOW := Lib.hid HSl.out.row
  obtain ⟨m, hm⟩ : ∃ m, (kidsZ X.nodes par).length = m + 1 := ⟨(kidsZ X.nodes par).length - 1, by omega⟩
  have hwr : IntKind.i64.wrap ((i : Int) + 1) = (i : Int) + 1 := by rw [IntKind.wrap_i64]; omega
  have hone : ∀ u ∈ (kidsZ X.nodes par).map (fun j => ptrV (adr Ws j)), u.oneCell' = true := fun u hu => by
   obtain ⟨j, -, rfl⟩ := List.mem_map.1 hu; rfl
  have HDe := Lib.hid (DeleteP_any (.slice ra (kidsZ X.nodes par).length rc) m base i ((kidsZ X.nodes par).map fun j => ptrV (adr Ws j)) w4.drew (by have h := HOW.out.drew; rw [hm] at h ⊢; exact h) (by omega) (by omega) hone)
  have HM := Lib.hid hm
  have t0 : w4.drew.cell? ⟨T, o, none⟩ = some (.slice ra (kidsZ X.nodes par).length rc) := HSl.out.cell
  clear hone hm
  have hbx : bX < base := by omega
  have hbo : bO < base := by omega
  have hTb := HSl.out.low
  have hTd : T < w4.drew.heap.size := hTl
  go_wp2_with fail
  refine HDe.out.mono ?_
  rintro e w6 ⟨v6, rfl, hv6, ho6, hg6⟩
  obtain ⟨da, dc, rfl⟩ := own_form2 ho6
  have hT6 : w6.heap[T]? = w4.heap[T]? := hg6.block T hTl (fun e => HSl.out.ne T e.symm rfl)
  obtain ⟨d0, d0f, d0l⟩ := HSl.out.keep w6 hT6
  have hrow : ∀ g, (Value.slice ra (kidsZ X.nodes par).length rc).ownBlock = some g → base ≤ g := fun g hg => (HOW.out.lt g hg).1
  have hlow : ∀ k, k < base → k < w4.heap.size → w6.heap[k]? = w4.heap[k]? := fun k h1 h2 => hg6.block k h2 (fun e => by have := hrow k e.symm; omega)
  have HFl : Hid (((kidsZ X.nodes par).map fun j => ptrV (adr Ws j)).eraseIdx i = (((kidsZ X.nodes par).filter fun k => k != nd)).map fun j => ptrV (adr Ws j)) := Lib.hid (by rw [map_erase, erase_filter _ i nd (kids_nodup _ _) HI.out])
  have hfl : ((kidsZ X.nodes par).filter fun k => k != nd).length = m := by
   rw [← erase_filter _ i nd (kids_nodup _ _) HI.out, List.length_eraseIdx_of_lt hil, HM.out]; rfl
  have HGP := Lib.hid (HSl.out.put ((kidsZ X.nodes par).filter fun k => k != nd) w6 (.slice da m dc) (grown_trans (grown_below (Below.refl w4.heap.size w4).drew) hg6) hv6 (by rw [hfl, ← HFl.out]; exact ho6))
  have HG6 := Lib.hid hg6
  have HLo := Lib.hid hlow
  clear hlow hrow hT6 hg6 hv6 ho6 HDe t0 hwr hfl
  go_upto_region 12 with (fail)
  obtain ⟨v2, hgs⟩ := HGP.out
  rw [HUP.out] at hgs
  have HGS := Lib.hid hgs
  have HLo7 : Hid (∀ k, k < base → k < w4.heap.size → (w6.setCell ⟨T, o, none⟩ (.slice da m dc)).heap[k]? = w4.heap[k]?) := Lib.hid (fun k h1 h2 => (Below.heap_setCell w6 _ _ k (by show k ≠ T; omega)).trans (HLo.out k h1 h2))
  have HB7 : Hid (Below w.heap.size w (w6.setCell ⟨T, o, none⟩ (.slice da m dc))) := Lib.hid (by
   have h1 : Below w.heap.size w w6 := ⟨HG6.out.os.trans HB4.out.drew.os, HG6.out.tape.trans HB4.out.drew.tape, HG6.out.output.trans HB4.out.drew.output, Nat.le_trans HB4.out.size HG6.out.size, fun k hk => (HLo.out k (by omega) (by have := HB4.out.size; omega)).trans (HB4.out.block k hk)⟩
   exact h1.setCell (by show w.heap.size ≤ T; omega) _)
  generalize (w6.setCell ⟨T, o, none⟩ (.slice da m dc)) = w7 at *
  have HX7 : Hid (Box w7 bX [.slice ta X.tags.length tc, .string X.comment, .slice (some ⟨g0, o0, none⟩) X.nodes.length nc, .int .i64 X.result] 30) := Lib.hid ((HLo7.out bX hbx HX4.out.lt).trans HX4.out)
  have HO7 : Hid (Box w7 bO [.slice none 0 0, .string ⟨#[]⟩, .slice none 0 0, .int .i64 0] 30) := Lib.hid ((HLo7.out bO hbo HO4.out.lt).trans HO4.out)
  obtain ⟨va, vc, rfl⟩ := own_form2 HGS.out.out
  clear hgs d0 d0f d0l HG6 HLo HGP
  have hcl := cut_less HE.out nd hnd
  rw [flat_cnt] at hcl
  simp only [List.length_nil, Nat.zero_add] at hcl
  have hbr := HGS.out.brs (fun p j hj => by
   have h1 := kid_par (List.mem_filter.1 hj).1
   have h2 := HBK.out j h1.2
   exact ⟨by omega, h1.2⟩)
  rw [treeO_cut] at hbr
  have ht10 := (rec_cmt HE.out).2.2.2.2
  have HW := Lib.hid (with_any X (.slice ta X.tags.length tc) (.slice (some ⟨g0, o0, none⟩) X.nodes.length nc) (cutT X nd) _ _ base w7 (HX.out.below HB7.out (Nat.le_refl _)) hbr (by rw [List.length_map]; exact HGS.out.out) (by omega) (by omega))
  unfold recV at HW
  clear hbr hcl
  refine wp_region_lit ?_
  refine wpList_load_box (by rfl) 30 (.tmp 4) (by rfl) bX (by rfl) HX7.out Tryz.underlying30 (by rfl) (by kernel_rfl) ?_
  have l0 := HGS.out.hl.cell 0 rfl
  have l0l := HGS.out.hl.lt
  go_wp2_with fail
  refine HW.out.mono ?_
  rintro e w8 ⟨vt8, vn8, rfl, OW8, hb8⟩
  obtain ⟨fa, fc, rfl⟩ : ∃ a c, vt8 = .slice a X.tags.length c := by obtain ⟨ts, h1, -⟩ := OW8.tags; exact own_form2 h1
  obtain ⟨ga, gc, rfl⟩ : ∃ a c, vn8 = .slice a (flatL (cutT X nd) (-1) []).length c := own_form2 OW8.nodes
  have HO8 := Lib.hid (HO7.out.stays hb8)
  have HB8 := Lib.hid (below_trans HB7.out hb8 HB7.out.size)
  have HOW8 := Lib.hid OW8
  have h78 : bO < w7.heap.size := HO7.out.lt
  rw [show recV (withX X (cutT X nd)) (.slice fa X.tags.length fc) (.slice ga (flatL (cutT X nd) (-1) []).length gc) = .agg #[.slice fa X.tags.length fc, .string X.comment, .slice ga (flatL (cutT X nd) (-1) []).length gc, .int .i64 X.result] from rfl]
  clear hb8 HW l0 l0l OW8
  have z0 := HO8.out.cell 0 rfl
  have z1 := HO8.out.cell 1 rfl
  have z2 := HO8.out.cell 2 rfl
  have z3 := HO8.out.cell 3 rfl
  have f0 := HO8.out.frozen 0
  have f1 := HO8.out.frozen 1
  have f2 := HO8.out.frozen 2
  have f3 := HO8.out.frozen 3
  have zl := HO8.out.lt
  go_wp2_with fail
  change bodyPost _ _ _ _ _ (w8.setCells bO 0 [.slice fa X.tags.length fc, .string X.comment, .slice ga (flatL (cutT X nd) (-1) []).length gc, .int .i64 X.result])
  have HO9 := Lib.hid (HO8.out.store (vs := [.slice fa X.tags.length fc, .string X.comment, .slice ga (flatL (cutT X nd) (-1) []).length gc, .int .i64 X.result]) rfl)
  have HB9 := Lib.hid (below_setCells HB8.out hbO1 0 [.slice fa X.tags.length fc, .string X.comment, .slice ga (flatL (cutT X nd) (-1) []).length gc, .int .i64 X.result])
  have HOW9 := Lib.hid (HOW8.out.move (w' := w8.setCells bO 0 [.slice fa X.tags.length fc, .string X.comment, .slice ga (flatL (cutT X nd) (-1) []).length gc, .int .i64 X.result]) (fun g _ hg => heap_setCells bO _ 0 w8 g (by have := (HOW8.out.lt g hg).1; omega)))
  exact bodyPost_ret (results_box rfl (by rfl) (by rfl) HO9.out Tryz.underlying30 (by rfl) (by kernel_rfl)) rfl ⟨HB9.out, _, _, rfl, HOW9.out.rd⟩
end Go.Proofs.YtnieifdogllbfaaGreat
namespace Go.Proofs.YtnieifdogllbfaaGreat
open Go.ChangeShapes Go.WideShapes Go.ChangeAt Go.RowKit
set_option linter.unusedVariables false
/-- what Merge returns of two sound records, in one form. -/
theorem merged_one {R : RulesZ} {X Y : RecZ} {w w' : World} {e : Ending} (hx : recErr R X = 0) (hy : recErr R Y = 0) (h : MergedPost R X Y w e w') : Below w.heap.size w w' ∧ ∃ A vt vn E, e = .returned (.tuple #[recV A vt vn, .int .i64 E]) ∧ RdX w' A vt vn ∧ ((E = 0 ∧ A = mergeX X Y) ∨ E = 2) := by
 obtain ⟨hb, h | ⟨hE, vt, vn, h1, h2⟩⟩ := h
 ·obtain ⟨E, hE, h0, rfl⟩ := h
  refine ⟨hb, ⟨[], ⟨#[]⟩, [], 0⟩, .slice none 0 0, .slice none 0 0, E, rfl, ⟨RdL.nil _ _, RdL.nil _ _, by decide⟩, .inr ?_⟩
  have hm : mergeE R X Y = recErr R (mergeX X Y) := by unfold mergeE; rw [if_neg (by rw [hx]; simp), if_neg (by rw [hy]; simp)]
  obtain ⟨-, c1, c2, c3, -⟩ := rec_cmt hx
  obtain ⟨-, -, d2, d3, -⟩ := rec_cmt hy
  rcases rec_err (X := mergeX X Y) ((trees_ok hx).merge (trees_ok hy)) (rec_nodes hx).1 c1 (by unfold mergeX; dsimp only; split <;> assumption) (by unfold mergeX; dsimp only; split <;> assumption) rfl with h2 | h2
  ·exact absurd (hE.trans (hm.trans h2)) h0
  ·exact hE.trans (hm.trans h2)
 ·exact ⟨hb, mergeX X Y, vt, vn, 0, h1, h2, .inl ⟨rfl, rfl⟩⟩
end Go.Proofs.YtnieifdogllbfaaGreat

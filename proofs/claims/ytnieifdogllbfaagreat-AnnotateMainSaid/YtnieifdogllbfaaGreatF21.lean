/- AnH, AnN, AnI. -/
import Derived.Test.YtnieifdogllbfaaGreatF20
import Derived.Test.YtnieifdogllbfaaGreatF01
import Derived.Test.YtnieifdogllbfaaGreatF19
import Derived.Test.YtnieifdogllbfaaGreatF08
import Derived.BigQuiet
import Derived.Deep.Cut
import Derived.Deep.QuietTactic
namespace Go.Proofs.YtnieifdogllbfaaGreat
open Go.ChangeShapes Go.WideShapes Go.ChangeAt Go.RowKit
set_option linter.unusedVariables false
/-! ### who lies under whom -/
def Und (ns : List NodeZ) (p : Int) (k : Nat) : Prop := k < ns.length ∧ Up ns (ndAt ns k).parent p
theorem up_cases {ns : List NodeZ} {k q : Int} (h : Up ns k q) : k = q ∨ ∃ m : Nat, k = (m : Int) ∧ Up ns (ndAt ns m).parent q := by
 cases h with
 | here => exact .inl rfl
 | step m q h => exact .inr ⟨m, rfl, h⟩
theorem up_trans {ns : List NodeZ} {a b c : Int} (h : Up ns a b) (k : Up ns b c) : Up ns a c := by
 induction h with
 | here => exact k
 | step m q h ih => exact .step m _ (ih k)
theorem up_line {ns : List NodeZ} {k a b : Int} (h : Up ns k a) : Up ns k b → Up ns a b ∨ Up ns b a := by
 induction h with
 | here => exact .inl
 | step m q h ih =>
  intro hb
  rcases up_cases hb with e | ⟨m', e, h'⟩
  ·exact .inr (by rw [← e]; exact .step m _ h)
  ·have : m' = m := by omega
   subst this
   exact ih h'
theorem Und.lt {ns : List NodeZ} (hb : Back ns ns.length) {p : Int} {k : Nat} (h : Und ns p k) : p < k := by
 have h1 := hb k h.1
 have h2 := up_le hb h.2 (by have := h.1; omega)
 omega
theorem und_kid {ns : List NodeZ} {p : Int} {c : Nat} (h : c ∈ kidsZ ns p) : Und ns p c := by
 unfold kidsZ at h
 rw [List.mem_filter, List.mem_range] at h
 have h2 : (ndAt ns c).parent = p := by simpa using h.2
 exact ⟨h.1, by rw [h2]; exact .here _⟩
theorem kid_par {ns : List NodeZ} {p : Int} {c : Nat} (h : c ∈ kidsZ ns p) : (ndAt ns c).parent = p ∧ c < ns.length := by
 unfold kidsZ at h
 rw [List.mem_filter, List.mem_range] at h
 exact ⟨by simpa using h.2, h.1⟩
theorem und_down {ns : List NodeZ} {p : Int} {c k : Nat} (h : c ∈ kidsZ ns p) (hk : Und ns (c : Int) k) : Und ns p k :=
 ⟨hk.1, up_trans hk.2 (.step c _ (by rw [(kid_par h).1]; exact .here _))⟩
theorem und_cases {ns : List NodeZ} {p : Int} {k : Nat} : ∀ (f : Nat), k < f → Back ns ns.length → Und ns p k → ∃ c ∈ kidsZ ns p, k = c ∨ Und ns (c : Int) k := by
 intro f
 induction f generalizing k with
 | zero => omega
 | succ f ih =>
  intro hf hb h
  rcases up_cases h.2 with e | ⟨m, e, h2⟩
  ·refine ⟨k, ?_, .inl rfl⟩
   unfold kidsZ
   rw [List.mem_filter, List.mem_range]
   exact ⟨h.1, by simpa using e⟩
  ·have hm := hb k h.1
   obtain ⟨c, hc, h3⟩ := ih (k := m) (by omega) hb ⟨by have := h.1; omega, h2⟩
   refine ⟨c, hc, .inr ⟨h.1, ?_⟩⟩
   rw [e]
   rcases h3 with rfl | h3
   ·exact .here _
   ·exact .step m _ h3.2
theorem und_apart {ns : List NodeZ} (hb : Back ns ns.length) {p : Int} {c c' k : Nat} (h : c ∈ kidsZ ns p) (h' : c' ∈ kidsZ ns p) (hk : k = c ∨ Und ns (c : Int) k) (hk' : k = c' ∨ Und ns (c' : Int) k) : c = c' := by
 have u1 : Up ns (k : Int) (c : Int) := by
  rcases hk with rfl | hk
  ·exact .here _
  ·exact .step k _ hk.2
 have u2 : Up ns (k : Int) (c' : Int) := by
  rcases hk' with rfl | hk'
  ·exact .here _
  ·exact .step k _ hk'.2
 have hp := kid_par h
 have hp' := kid_par h'
 have g1 := hb c hp.2
 have g2 := hb c' hp'.2
 rcases up_line u1 u2 with u | u
 ·rcases up_cases u with e | ⟨m, e, u'⟩
  ·omega
  ·have : m = c := by omega
   subst this
   rw [hp.1] at u'
   have := up_le hb u' (by omega)
   omega
 ·rcases up_cases u with e | ⟨m, e, u'⟩
  ·omega
  ·have : m = c' := by omega
   subst this
   rw [hp'.1] at u'
   have := up_le hb u' (by omega)
   omega
/-! ### nodes in memory -/
def adr (Ws : List Value) (k : Nat) : Nat :=
 match Ws[k]? with
 | some (.pointer (some a)) => a.block
 | _ => 0
theorem adr_eq {Ws Ws' : List Value} {k : Nat} (h : Ws'[k]? = Ws[k]?) : adr Ws' k = adr Ws k := by unfold adr; rw [h]
theorem adr_ptr {Ws : List Value} {k g : Nat} (h : Ws[k]? = some (ptrV g)) : adr Ws k = g := by unfold adr; rw [h]; rfl
def kv (w : World) (g : Nat) : Value := (w.cell? ⟨g, 4, none⟩).getD (.slice none 0 0)
theorem kv_eq {w w' : World} {g : Nat} (h : w'.heap[g]? = w.heap[g]?) : kv w' g = kv w g := by
 unfold kv
 rw [World.cell?_of_block (a := ⟨g, 4, none⟩) h]
variable {tb te : TypeId}
def anyB : Nat → Prop := fun _ => True
structure Nd (tb te : TypeId) (base : Nat) (w : World) (ns : List NodeZ) (ord : Int → List Nat) (Ws : List Value) (k : Nat) : Prop where
 here : Ws[k]? = some (ptrV (adr Ws k))
 nd : NdAt anyB tb te base w ns ord (adr Ws) (fun k => kv w (adr Ws k)) k
theorem Nd.lo {base : Nat} {w : World} {ns : List NodeZ} {ord : Int → List Nat} {Ws : List Value} {k : Nat} (h : Nd tb te base w ns ord Ws k) : base ≤ adr Ws k := h.nd.lo
theorem Nd.hi {base : Nat} {w : World} {ns : List NodeZ} {ord : Int → List Nat} {Ws : List Value} {k : Nat} (h : Nd tb te base w ns ord Ws k) : adr Ws k < w.heap.size := h.nd.box.lt
theorem Nd.row {base : Nat} {w : World} {ns : List NodeZ} {ord : Int → List Nat} {Ws : List Value} {k : Nat} (h : Nd tb te base w ns ord Ws k) : ∀ g, (kv w (adr Ws k)).ownBlock = some g → base ≤ g ∧ g < w.heap.size := h.nd.row.lt
theorem Nd.step {base base' : Nat} {w w' : World} {ns : List NodeZ} {ord : Int → List Nat} {Ws Ws' : List Value} {k : Nat} (h : Nd tb te base w ns ord Ws k) (hb : base' ≤ base) (hA : w'.heap[adr Ws k]? = w.heap[adr Ws k]?)
  (hR : ∀ g, (kv w (adr Ws k)).ownBlock = some g → w'.heap[g]? = w.heap[g]?) (hW : Ws'[k]? = Ws[k]?) (hO : ∀ j ∈ ord (k : Int), Ws'[j]? = Ws[j]?) : Nd tb te base' w' ns ord Ws' k ∧ kv w' (adr Ws' k) = kv w (adr Ws k) := by
 have ea := adr_eq hW
 have ek := kv_eq hA
 have e2 : kv w' (adr Ws' k) = kv w (adr Ws k) := by rw [ea, ek]
 refine ⟨⟨by rw [hW, ea]; exact h.here, ?_⟩, e2⟩
 refine ⟨by rw [ea]; exact Nat.le_trans hb h.lo, ?_, h.nd.sz, ?_, ?_⟩
 ·show Box w' (adr Ws' k) _ tb
  rw [e2, ea]
  exact hA.trans h.nd.box
 ·show w'.ownsRow base' te 1 (kv w' (adr Ws' k)) _ _
  rw [e2]
  have em : ((ord (k : Int)).map fun j => ptrV (adr Ws' j)) = (ord (k : Int)).map fun j => ptrV (adr Ws j) := List.map_congr_left fun j hj => by rw [adr_eq (hO j hj)]
  rw [em]
  exact own_of_block (own_base h.nd.row hb) hR
 ·exact ⟨trivial, fun _ _ => trivial⟩
def Apart (w : World) (Ws : List Value) (k k' : Nat) : Prop := adr Ws k ≠ adr Ws k' ∧ ((kv w (adr Ws k)).ownBlock = none ∨ (kv w (adr Ws k)).ownBlock ≠ (kv w (adr Ws k')).ownBlock)
/-- the state of tree's loop: the nodes of S lie in memory, those of js in the row v. -/
structure TS (tb te : TypeId) (base : Nat) (w0 w : World) (ns : List NodeZ) (ord : Int → List Nat) (bw : Nat) (Ws0 Ws : List Value) (S : Nat → Prop) (v : Value) (js : List Nat) : Prop where
 grow : w0.grownBy w (some bw)
 wh : Box w bw Ws te
 wlen : Ws.length = Ws0.length
 wold : ∀ k, ¬ S k → Ws[k]? = Ws0[k]?
 nds : ∀ k, S k → Nd tb te base w ns ord Ws k
 sep : ∀ k k', S k → S k' → k ≠ k' → Apart w Ws k k'
 clo : ∀ k, S k → ∀ j ∈ ord (k : Int), S j
 sub : ∀ j ∈ js, S j
 out : w.ownsRow base te 1 v js.length (js.map fun j => ptrV (adr Ws j))
 osep : ∀ k, S k → v.ownBlock = none ∨ v.ownBlock ≠ (kv w (adr Ws k)).ownBlock
theorem grown_trans {a b c : World} {r : Option Nat} (h : a.grownBy b r) (k : b.grownBy c r) : a.grownBy c r :=
 ⟨k.os.trans h.os, k.tape.trans h.tape, k.output.trans h.output, Nat.le_trans h.size k.size, fun i h1 h2 => (k.block i (Nat.lt_of_lt_of_le h1 h.size) h2).trans (h.block i h1 h2)⟩
theorem grown_below {w w' : World} {r : Option Nat} (h : Below w.heap.size w w') : w.grownBy w' r := ⟨h.os, h.tape, h.output, h.size, fun k h1 _ => h.block k h1⟩
theorem grown_set {a w : World} {r : Option Nat} (h : a.grownBy w r) (p : Addr) (u : Value) (hp : some p.block = r ∨ a.heap.size ≤ p.block) : a.grownBy (w.setCell p u) r :=
 ⟨h.os, h.tape, h.output, by simpa using h.size, fun k h1 h2 => (Below.heap_setCell w p u k (by intro e; rcases hp with hp | hp; (· exact h2 (by rw [e]; exact hp)); omega)).trans (h.block k h1 h2)⟩
theorem TS.congr {base : Nat} {w0 w : World} {ns : List NodeZ} {ord : Int → List Nat} {bw : Nat} {Ws0 Ws : List Value} {S S' : Nat → Prop} {v : Value} {js : List Nat} (h : TS tb te base w0 w ns ord bw Ws0 Ws S v js) (e : ∀ k, S k ↔ S' k) : TS tb te base w0 w ns ord bw Ws0 Ws S' v js := by
 have : S = S' := funext fun k => propext (e k)
 rw [← this]; exact h
/-- nothing lies there yet. -/
theorem TS.start {w : World} {ns : List NodeZ} {ord : Int → List Nat} {bw : Nat} {Ws : List Value} (base : Nat) (hb : Box w bw Ws te) : TS tb te base w w ns ord bw Ws Ws (fun _ => False) (.slice none 0 0) [] :=
 ⟨⟨rfl, rfl, rfl, Nat.le_refl _, fun _ _ _ => rfl⟩, hb, rfl, fun _ _ => rfl, fun _ h => h.elim, fun _ _ h => h.elim, fun _ h => h.elim, fun _ h => (List.not_mem_nil h).elim, World.ownsRow_nil _ _ _ _, fun _ h => h.elim⟩
/-- a node more, with those under it. -/
theorem TS.node {base : Nat} {w1 wr w3 w4 : World} {ns : List NodeZ} {ord : Int → List Nat} {bw : Nat} {Ws0 Ws Ws1 Ws2 : List Value} {S U : Nat → Prop} {v v4 : Value} {js : List Nat} {c B : Nat}
  (h : TS tb te base w1 wr ns ord bw Ws0 Ws S v js) (hb1 : base ≤ w1.heap.size) (hbw : bw < base) (hB : wr.heap.size = B) (hw1 : Ws1 = Ws.set c (ptrV B)) (hc : c < Ws0.length)
  (hg3 : wr.grownBy w3 (some bw)) (hs3 : w3.heap.size = B + 1) (hx3 : Box w3 B [.int .i64 (ndAt ns c).m.src, .int .i64 (ndAt ns c).m.dst, .int .i64 (ndAt ns c).m.piece, .string (ndAt ns c).comment, .slice none 0 0] tb)
  (hsz : (ndAt ns c).comment.size ≤ maxLen) (h4 : TS tb te (B + 1) w3 w4 ns ord bw Ws1 Ws2 U v4 (ord (c : Int))) (hcU : ¬ U c) (hSc : ¬ S c) (hSU : ∀ k, U k → ¬ S k) :
  TS tb te base w1 (w4.setCell ⟨B, 4, none⟩ v4) ns ord bw Ws0 Ws2 (fun k => S k ∨ k = c ∨ U k) v js := by
 have hwr := h.grow.size
 have hbB : base ≤ B := by omega
 have h34 := h4.grow.size
 have e1 : ∀ k, k ≠ c → Ws1[k]? = Ws[k]? := fun k hk => by rw [hw1, List.getElem?_set, if_neg (Ne.symm hk)]
 have e1c : Ws1[c]? = some (ptrV B) := by rw [hw1, List.getElem?_set, if_pos rfl, if_pos (by rw [h.wlen]; exact hc)]
 have e2 : ∀ k, ¬ U k → Ws2[k]? = Ws1[k]? := h4.wold
 have e2c : Ws2[c]? = some (ptrV B) := by rw [e2 c hcU, e1c]
 have ac : adr Ws2 c = B := adr_ptr e2c
 have hbs : ∀ g, base ≤ g → g < B → (w4.setCell ⟨B, 4, none⟩ v4).heap[g]? = wr.heap[g]? := fun g h1 h2 => by
  rw [Below.heap_setCell w4 _ v4 g (by show g ≠ B; omega), h4.grow.block g (by omega) (by simp; omega), hg3.block g (by omega) (by simp; omega)]
 have hbu : ∀ g, B + 1 ≤ g → (w4.setCell ⟨B, 4, none⟩ v4).heap[g]? = w4.heap[g]? := fun g h1 => Below.heap_setCell w4 _ v4 g (by show g ≠ B; omega)
 have hx4 : Box (w4.setCell ⟨B, 4, none⟩ v4) B [.int .i64 (ndAt ns c).m.src, .int .i64 (ndAt ns c).m.dst, .int .i64 (ndAt ns c).m.piece, .string (ndAt ns c).comment, v4] tb := by
  have hx : Box w4 B [.int .i64 (ndAt ns c).m.src, .int .i64 (ndAt ns c).m.dst, .int .i64 (ndAt ns c).m.piece, .string (ndAt ns c).comment, .slice none 0 0] tb := (h4.grow.block B (by omega) (by simp; omega)).trans hx3
  exact hx.set 4 v4
 have kc : kv (w4.setCell ⟨B, 4, none⟩ v4) B = v4 := by unfold kv; rw [hx4.cell 4 rfl]; rfl
 have oldN : ∀ k, S k → Nd tb te base (w4.setCell ⟨B, 4, none⟩ v4) ns ord Ws2 k ∧ kv (w4.setCell ⟨B, 4, none⟩ v4) (adr Ws2 k) = kv wr (adr Ws k) := fun k hk => by
  have hn := h.nds k hk
  have hW : ∀ j, S j → Ws2[j]? = Ws[j]? := fun j hj => by rw [e2 j (fun hu => hSU j hu hj), e1 j (fun e => hSc (e ▸ hj))]
  exact hn.step (Nat.le_refl _) (hbs _ hn.lo (by rw [← hB]; exact hn.hi)) (fun g hg => hbs g (hn.row g hg).1 (by rw [← hB]; exact (hn.row g hg).2)) (hW k hk) (fun j hj => hW j (h.clo k hk j hj))
 have newN : ∀ k, U k → Nd tb te (B + 1) (w4.setCell ⟨B, 4, none⟩ v4) ns ord Ws2 k ∧ kv (w4.setCell ⟨B, 4, none⟩ v4) (adr Ws2 k) = kv w4 (adr Ws2 k) := fun k hk => by
  have hn := h4.nds k hk
  exact hn.step (Nat.le_refl _) (hbu _ hn.lo) (fun g hg => hbu g (hn.row g hg).1) rfl (fun _ _ => rfl)
 have adrO : ∀ k, S k → adr Ws2 k < B := fun k hk => by
  have hW : Ws2[k]? = Ws[k]? := by rw [e2 k (fun hu => hSU k hu hk), e1 k (fun e => hSc (e ▸ hk))]
  rw [adr_eq hW, ← hB]; exact (h.nds k hk).hi
 have rowO : ∀ k, S k → ∀ g, (kv (w4.setCell ⟨B, 4, none⟩ v4) (adr Ws2 k)).ownBlock = some g → g < B := fun k hk g hg => by
  rw [(oldN k hk).2] at hg
  rw [← hB]; exact ((h.nds k hk).row g hg).2
 have rowU : ∀ k, U k → ∀ g, (kv (w4.setCell ⟨B, 4, none⟩ v4) (adr Ws2 k)).ownBlock = some g → B + 1 ≤ g := fun k hk g hg => ((newN k hk).1.row g hg).1
 have rowC : ∀ g, v4.ownBlock = some g → B + 1 ≤ g := fun g hg => (h4.out.lt g hg).1
 have far : ∀ (x y : Option Nat) (m : Nat), (∀ g, x = some g → g < m) → (∀ g, y = some g → m ≤ g) → x = none ∨ x ≠ y := fun x y m hx hy => by
  cases x with
  | none => exact .inl rfl
  | some g => exact .inr fun e => by have h1 := hx g rfl; have h2 := hy g e.symm; omega
 have far' : ∀ (x y : Option Nat) (m : Nat), (∀ g, x = some g → m ≤ g) → (∀ g, y = some g → g < m) → x = none ∨ x ≠ y := fun x y m hx hy => by
  cases x with
  | none => exact .inl rfl
  | some g => exact .inr fun e => by have h1 := hx g rfl; have h2 := hy g e.symm; omega
 refine ⟨?_, ?_, ?_, ?_, ?_, ?_, ?_, ?_, ?_, ?_⟩
 ·exact grown_set (grown_trans (grown_trans h.grow hg3) h4.grow) _ _ (.inr (by show w1.heap.size ≤ B; omega))
 ·exact h4.wh.far _ _ (by show bw ≠ B; omega)
 ·rw [h4.wlen, hw1, List.length_set, h.wlen]
 ·intro k hk
  rw [e2 k (fun hu => hk (.inr (.inr hu))), e1 k (fun e => hk (.inr (.inl e))), h.wold k (fun hs => hk (.inl hs))]
 ·rintro k (hk | rfl | hk)
  ·exact (oldN k hk).1
  ·refine ⟨by rw [e2c, ac], ?_⟩
   refine ⟨by rw [ac]; exact hbB, ?_, hsz, ?_, ?_⟩
   ·show Box _ (adr Ws2 k) [_, _, _, _, kv _ (adr Ws2 k)] tb
    rw [ac, kc]; exact hx4
   ·show World.ownsRow _ base te 1 (kv _ (adr Ws2 k)) _ _
    rw [ac, kc]
    exact own_of_block (own_base h4.out (by omega)) (fun g hg => hbu g (rowC g hg))
   ·exact ⟨trivial, fun _ _ => trivial⟩
  ·exact ((newN k hk).1.step (by omega) rfl (fun _ _ => rfl) rfl (fun _ _ => rfl)).1
 ·rintro k k' hk hk' hne
  unfold Apart
  rcases hk with hk | rfl | hk <;> rcases hk' with hk' | rfl | hk'
  ·have hW : ∀ j, S j → Ws2[j]? = Ws[j]? := fun j hj => by rw [e2 j (fun hu => hSU j hu hj), e1 j (fun e => hSc (e ▸ hj))]
   rw [(oldN k hk).2, (oldN k' hk').2, adr_eq (hW k hk), adr_eq (hW k' hk')]
   exact h.sep k k' hk hk' hne
  ·exact ⟨by have := adrO k hk; rw [ac]; omega, by rw [ac, kc]; exact far _ _ B (rowO k hk) (fun g hg => by have := rowC g hg; omega)⟩
  ·exact ⟨by have := adrO k hk; have := (newN k' hk').1.lo; omega, far _ _ B (rowO k hk) (fun g hg => by have := rowU k' hk' g hg; omega)⟩
  ·exact ⟨by have := adrO k' hk'; rw [ac]; omega, by rw [ac, kc]; exact far' _ _ B (fun g hg => by have := rowC g hg; omega) (rowO k' hk')⟩
  ·exact absurd rfl hne
  ·refine ⟨by have := (newN k' hk').1.lo; rw [ac]; omega, ?_⟩
   rw [ac, kc, (newN k' hk').2]
   exact h4.osep k' hk'
  ·exact ⟨by have := adrO k' hk'; have := (newN k hk).1.lo; omega, far' _ _ B (fun g hg => by have := rowU k hk g hg; omega) (rowO k' hk')⟩
  ·refine ⟨by have := (newN k hk).1.lo; rw [ac]; omega, ?_⟩
   rw [ac, kc, (newN k hk).2]
   rcases h4.osep k hk with h0 | h0
   ·cases hx : (kv w4 (adr Ws2 k)).ownBlock with
    | none => exact .inl rfl
    | some g => rw [h0]; exact .inr (by simp)
   ·exact .inr (Ne.symm h0)
  ·rw [(newN k hk).2, (newN k' hk').2]
   exact h4.sep k k' hk hk' hne
 ·rintro k (hk | rfl | hk) j hj
  ·exact .inl (h.clo k hk j hj)
  ·exact .inr (.inr (h4.sub j hj))
  ·exact .inr (.inr (h4.clo k hk j hj))
 ·exact fun j hj => .inl (h.sub j hj)
 ·have em : (js.map fun j => ptrV (adr Ws2 j)) = js.map fun j => ptrV (adr Ws j) := List.map_congr_left fun j hj => by
   have hs := h.sub j hj
   rw [adr_eq (show Ws2[j]? = Ws[j]? by rw [e2 j (fun hu => hSU j hu hs), e1 j (fun e => hSc (e ▸ hs))])]
  rw [em]
  exact own_of_block h.out (fun g hg => hbs g (h.out.lt g hg).1 (by rw [← hB]; exact (h.out.lt g hg).2))
 ·have vo : ∀ g, v.ownBlock = some g → g < B := fun g hg => by rw [← hB]; exact (h.out.lt g hg).2
  rintro k (hk | rfl | hk)
  ·rw [(oldN k hk).2]; exact h.osep k hk
  ·rw [ac, kc]; exact far _ _ B vo (fun g hg => by have := rowC g hg; omega)
  ·exact far _ _ B vo (fun g hg => by have := rowU k hk g hg; omega)
/-- the node is appended. -/
theorem TS.app {base : Nat} {w1 w w' : World} {ns : List NodeZ} {ord : Int → List Nat} {bw : Nat} {Ws0 Ws : List Value} {S : Nat → Prop} {v : Value} {js : List Nat} {c g cap : Nat} {o : Obj}
  (h : TS tb te base w1 w ns ord bw Ws0 Ws S v js) (hne : te ≠ tb) (hb1 : w1.heap.size ≤ base) (hbw : bw < base) (hc : S c) (hg : (w.alloc o).grownBy w' v.ownBlock) (hat : v.ownBlock = some g ∨ w.heap.size ≤ g)
  (hown : w'.ownsRow base te 1 (.slice (some ⟨g, 0, none⟩) (js.length + 1) cap) (js.length + 1) ((js.map fun j => ptrV (adr Ws j)) ++ [ptrV (adr Ws c)])) :
  TS tb te base w1 w' ns ord bw Ws0 Ws S (.slice (some ⟨g, 0, none⟩) (js.length + 1) cap) (js ++ [c]) := by
 have hs := hg.size
 have hsa : (w.alloc o).heap.size = w.heap.size + 1 := by simp
 have hk : ∀ k, k < w.heap.size → some k ≠ v.ownBlock → w'.heap[k]? = w.heap[k]? := fun k h1 h2 => (hg.block k (by omega) h2).trans (Below.heap_alloc w o k h1)
 have hA : ∀ k, S k → some (adr Ws k) ≠ v.ownBlock := fun k hk e => by
  have hb := (h.nds k hk).nd.box
  rcases h.out.2 with ⟨h0, _⟩ | ⟨q, cc, cur, h0, _, hq, _⟩
  ·rw [h0] at e; cases e
  ·rw [h0] at e
   simp only [Value.ownBlock, Option.some.injEq] at e
   subst e
   have hb2 : w.heap[adr Ws k]? = some (.cells _ tb (0, 0)) := hb
   rw [hq] at hb2
   simp only [Option.some.injEq, Obj.cells.injEq] at hb2
   exact hne hb2.2.1
 have st : ∀ k, S k → Nd tb te base w' ns ord Ws k ∧ kv w' (adr Ws k) = kv w (adr Ws k) := fun k hks =>
  (h.nds k hks).step (Nat.le_refl _) (hk _ (h.nds k hks).hi (hA k hks)) (fun q hq => hk q ((h.nds k hks).row q hq).2 (fun e => by
   rcases h.osep k hks with h0 | h0
   ·rw [h0] at e; cases e
   ·exact h0 (by rw [← e, hq]))) rfl (fun _ _ => rfl)
 refine ⟨?_, ?_, h.wlen, h.wold, fun k hk => (st k hk).1, ?_, h.clo, ?_, ?_, ?_⟩
 ·refine ⟨hg.os.trans h.grow.os, hg.tape.trans h.grow.tape, hg.output.trans h.grow.output, by have := h.grow.size; omega, fun k h1 h2 => ?_⟩
  rw [hk k (by have := h.grow.size; omega) (fun e => by have := (h.out.lt k e.symm).1; omega)]
  exact h.grow.block k h1 h2
 ·exact (hk bw h.wh.lt (fun e => by have := (h.out.lt bw e.symm).1; omega)).trans h.wh
 ·intro k k' h1 h2 hn
  unfold Apart
  rw [(st k h1).2, (st k' h2).2]
  exact h.sep k k' h1 h2 hn
 ·intro j hj
  rcases List.mem_append.1 hj with hj | hj
  ·exact h.sub j hj
  ·rw [List.mem_singleton.1 hj]; exact hc
 ·rw [List.length_append, List.map_append]; exact hown
 ·intro k hks
  right
  rw [(st k hks).2]
  intro e
  have e' : (kv w (adr Ws k)).ownBlock = some g := e.symm
  have hr := (h.nds k hks).row g e'
  rcases hat with h0 | h0
  ·rcases h.osep k hks with h2 | h2
   ·rw [h2] at h0; cases h0
   ·exact h2 (by rw [h0, e'])
  ·omega
/-- seen from the world ahead. -/
theorem TS.back {base base' : Nat} {w0 w1 w : World} {ns : List NodeZ} {ord : Int → List Nat} {bw : Nat} {Ws0 Ws : List Value} {S : Nat → Prop} {v : Value} {js : List Nat} (h : TS tb te base w1 w ns ord bw Ws0 Ws S v js) (hb : base' ≤ base) (hg : w0.grownBy w1 (some bw)) : TS tb te base' w0 w ns ord bw Ws0 Ws S v js :=
 ⟨grown_trans hg h.grow, h.wh, h.wlen, h.wold, fun k hk => ((h.nds k hk).step hb rfl (fun _ _ => rfl) rfl (fun _ _ => rfl)).1, h.sep, h.clo, h.sub, own_base h.out hb, h.osep⟩
end Go.Proofs.YtnieifdogllbfaaGreat
namespace Go.Proofs.YtnieifdogllbfaaGreat
open Go.ChangeShapes Go.WideShapes Go.ChangeAt Go.RowKit
set_option linter.unusedVariables false
def kidsK (ns : List NodeZ) (p : Int) (k : Nat) : List Nat := (List.range k).filter fun j => (ndAt ns j).parent == p
theorem kidsK_step (ns : List NodeZ) (p : Int) (k : Nat) : kidsK ns p (k + 1) = if (ndAt ns k).parent = p then kidsK ns p k ++ [k] else kidsK ns p k := by
 unfold kidsK
 rw [List.range_succ, List.filter_append, List.filter_cons, List.filter_nil]
 by_cases h : (ndAt ns k).parent = p
 ·rw [if_pos (by simpa using h), if_pos h]
 ·rw [if_neg (by simpa using h), if_neg h, List.append_nil]
theorem kidsK_len (ns : List NodeZ) (p : Int) (k : Nat) : (kidsK ns p k).length ≤ k := by
 unfold kidsK
 exact Nat.le_trans (List.length_filter_le _ _) (by simp)
def nums (l : List Nat) : List Int := l.map fun (k : Nat) => (k : Int)
theorem nums_snoc (l : List Nat) (k : Nat) : ints (nums l) ++ [.int .i64 (k : Int)] = ints (nums (l ++ [k])) := by rw [nums, nums, List.map_append]; exact ints_append _ _
set_option maxRecDepth 100000 in
set_option maxHeartbeats 4000000 in
theorem Kids_any (X : RecZ) (vt vn : Value) (p : Int) (w : World) (h : RdX w X vt vn) (hm : X.nodes.length ≤ 1000) :
  Calls Tryz.prog 38 #[recV X vt vn, .int .i64 p] w fun e w' => ∃ v', e = .returned v' ∧ w'.ownsRow w.heap.size 3 1 v' (kidsZ X.nodes p).length (ints (nums (kidsZ X.nodes p))) ∧ Below w.heap.size w w' := by
 obtain ⟨na, nc, rfl, h1, h2⟩ := h.2.1.form
 unfold maxLen at h2
 have HR := Lib.hid h.2.1
 have HKZ : Hid (kidsZ X.nodes p = kidsK X.nodes p X.nodes.length) := Lib.hid rfl
 clear h
 unfold recV
 go_enter Tryz.func38, Tryz.ntmps38
 go_upto_region 1 with (fail)
 have hb0 := (Box.new' w w.heap.size [vt, .string X.comment, .slice na X.nodes.length nc, .int .i64 X.result] 30 rfl)
 have HB : Hid (Below w.heap.size w (w.alloc (.cells #[vt, .string X.comment, .slice na X.nodes.length nc, .int .i64 X.result] 30))) := Lib.hid ((Below.refl w.heap.size w).alloc (Nat.le_refl _) _)
 obtain ⟨bb, hbb⟩ : ∃ bb, bb = w.heap.size := ⟨_, rfl⟩
 rw [← hbb] at HB hb0 ⊢
 generalize (w.alloc (.cells #[vt, .string X.comment, .slice na X.nodes.length nc, .int .i64 X.result] 30)) = w0 at *
 have HX := Lib.hid hb0
 have q2 := hb0.cell 2 rfl
 have hw0 := hb0.lt
 have hbb1 : w.heap.size ≤ bb := by omega
 have HNil : Hid (w0.ownsRow (bb + 1) 3 1 (.slice none 0 0) (kidsK X.nodes p 0).length (ints (nums (kidsK X.nodes p 0)))) := Lib.hid (World.ownsRow_nil _ _ _ _)
 clear hb0 hbb
 go_wp2_with fail
 go_loopw [11, 5] (fun v11 v5 wr => ∃ (k : Nat) (o5 : Value), o5 = v5 ∧ v11 = .int .i64 k ∧ k ≤ X.nodes.length ∧ Hid (wr.ownsRow (bb + 1) 3 1 o5 (kidsK X.nodes p k).length (ints (nums (kidsK X.nodes p k)))) ∧ Hid (Below bb w wr) ∧ Hid (Box wr bb [vt, .string X.comment, .slice na X.nodes.length nc, .int .i64 X.result] 30)) (fun v _ _ => X.nodes.length - (intOf v).toNat)
 case atStart => exact ⟨0, _, rfl, rfl, Nat.zero_le _, HNil, HB, HX⟩
 case round =>
  obtain ⟨k, o5, rfl, rfl, hk, HO, HBr, HXr⟩ := hrel
  have hsr := HXr.out.lt
  by_cases hlt : (k : Int) < (X.nodes.length : Int)
  ·obtain ⟨g, o, rfl, hg, hc⟩ := nodes_some HR.out (by omega)
   obtain ⟨e0, e1, e2, e3, e4, -⟩ := hc k (by omega)
   have hgb : g < bb := by omega
   have c0 := (HBr.out.cell (p := ⟨g, o + k * 5, none⟩) hgb).trans e0
   have c1 := (HBr.out.cell (p := ⟨g, o + k * 5 + 1, none⟩) hgb).trans e1
   have c2 := (HBr.out.cell (p := ⟨g, o + k * 5 + 2, none⟩) hgb).trans e2
   have c3 := (HBr.out.cell (p := ⟨g, o + k * 5 + 3, none⟩) hgb).trans e3
   have c4 := (HBr.out.cell (p := ⟨g, o + k * 5 + 4, none⟩) hgb).trans e4
   have HS := Lib.hid (kidsK_step X.nodes p k)
   have hL := kidsK_len X.nodes p k
   clear hc e0 e1 e2 e3 e4
   generalize (ndAt X.nodes k).parent = q at *
   obtain ⟨oa, oc, rfl⟩ := own_form2 HO.out
   have hgw : g < wr.heap.size := by omega
   go_upto_region 5 with (fail)
   have HNd := Lib.hid (Box.new wr [.int .i64 q, .int .i64 (ndAt X.nodes k).m.src, .int .i64 (ndAt X.nodes k).m.dst, .int .i64 (ndAt X.nodes k).m.piece, .string (ndAt X.nodes k).comment] 70)
   have HBa := Lib.hid (HBr.out.alloc (by omega) (.cells #[.int .i64 q, .int .i64 (ndAt X.nodes k).m.src, .int .i64 (ndAt X.nodes k).m.dst, .int .i64 (ndAt X.nodes k).m.piece, .string (ndAt X.nodes k).comment] 70))
   have HXa := Lib.hid (HXr.out.alloc (.cells #[.int .i64 q, .int .i64 (ndAt X.nodes k).m.src, .int .i64 (ndAt X.nodes k).m.dst, .int .i64 (ndAt X.nodes k).m.piece, .string (ndAt X.nodes k).comment] 70))
   have HOa := Lib.hid (HO.out.alloc (.cells #[.int .i64 q, .int .i64 (ndAt X.nodes k).m.src, .int .i64 (ndAt X.nodes k).m.dst, .int .i64 (ndAt X.nodes k).m.piece, .string (ndAt X.nodes k).comment] 70))
   generalize (wr.alloc (.cells #[.int .i64 q, .int .i64 (ndAt X.nodes k).m.src, .int .i64 (ndAt X.nodes k).m.dst, .int .i64 (ndAt X.nodes k).m.piece, .string (ndAt X.nodes k).comment] 70)) = wa at *
   have n0 := HNd.out.cell 0 rfl
   have hnl := HNd.out.lt
   clear HBr HXr HO c0 c1 c2 c3 c4
   by_cases hq : q = p
   ·subst hq
    have HS2 : Hid (kidsK X.nodes q (k + 1) = kidsK X.nodes q k ++ [k]) := Lib.hid (HS.out.trans (if_pos rfl))
    clear HS
    have hrs : bb + 1 ≤ wa.heap.size := by omega
    go_wp2_with (at_builtin; refine app_new 23 3 (.int .i64 0) 1 8 info3 Tryz.underlying23 rfl (by decide) (by rfl) _ _ (by rfl) (bb + 1) _ (kidsK X.nodes q k).length (ints (nums (kidsK X.nodes q k))) [.int .i64 (k : Int)] wa HOa.out hrs rfl one_int (by omega) (by omega) (by rfl) (by rfl) ?_)
    intro g3 cap3 w3 hown3 hkeep3 hgr3
    have HB3 := Lib.hid (hkeep3.below HBa.out (by omega))
    have HX3 := Lib.hid ((HXa.out.alloc (.cells #[.int .i64 (k : Int)] 3)).grown hgr3 (fun e => by have := (HOa.out.lt bb e.symm).1; omega))
    have HO3 : Hid (w3.ownsRow (bb + 1) 3 1 (.slice (some ⟨g3, 0, none⟩) ((kidsK X.nodes q k).length + 1) cap3) (kidsK X.nodes q (k + 1)).length (ints (nums (kidsK X.nodes q (k + 1))))) := Lib.hid (by
     rw [HS2.out, ← nums_snoc, List.length_append]
     exact hown3)
    clear hown3 hkeep3 hgr3
    go_wp2_with fail
    go_roundw
    case rel => exact ⟨k + 1, _, rfl, by go_num, by omega, HO3, HB3, HX3⟩
    case measure => simp [intOf]; omega
   ·have HS2 : Hid (kidsK X.nodes p (k + 1) = kidsK X.nodes p k) := Lib.hid (HS.out.trans (if_neg hq))
    have HO3 : Hid (wa.ownsRow (bb + 1) 3 1 (.slice oa (kidsK X.nodes p k).length oc) (kidsK X.nodes p (k + 1)).length (ints (nums (kidsK X.nodes p (k + 1))))) := Lib.hid (by rw [HS2.out]; exact HOa.out)
    clear HS HOa HS2
    go_wp2_with fail
    go_roundw
    case rel => exact ⟨k + 1, _, rfl, by go_num, by omega, HO3, HBa, HXa⟩
    case measure => simp [intOf]; omega
  ·obtain rfl : k = X.nodes.length := by omega
   go_wp2_with fail
   go_ret
   exact ⟨_, rfl, by rw [HKZ.out]; exact own_base HO.out (by omega), HBr.out.mono hbb1⟩
end Go.Proofs.YtnieifdogllbfaaGreat
namespace Go.Proofs.YtnieifdogllbfaaGreat
open Go.ChangeShapes Go.WideShapes Go.ChangeAt Go.RowKit
set_option linter.unusedVariables false
theorem infoBr : (Tryz.prog.info? 75).map (fun i => (i.zero, i.size, i.bytes)) = some (some (.pointer none), 1, 8) := by kernel_rfl
abbrev tBr : TypeId := 74
abbrev tPt : TypeId := 75
theorem nums_get {l : List Nat} {i : Nat} (h : i < l.length) : (ints (nums l))[i]? = some (.int .i64 (l.getD i 0 : Nat)) := by
 unfold ints nums
 rw [List.getElem?_map, List.getElem?_map, List.getElem?_eq_getElem h, List.getD_eq_getElem?_getD, List.getElem?_eq_getElem h]
 rfl
theorem app_at {ops : Array Oper} {rest : List Oper} {o : Oper} {a : Act} {Q : Exit → Act → World → Prop} (t e : TypeId) (z : Value) (k b : Nat)
  (hI : (Tryz.prog.info? e).map (fun i => (i.zero, i.size, i.bytes)) = some (some z, k, b)) (ht : Tryz.prog.underlying t = some (.slice e)) (hzs : z.cells.size = k) (hk : 0 < k) (hgd : o.guard = none) (s x : Operand)
  (ho : o.op = .call { callee := .builtin .append, args := #[s, x], argTypes := #[t, t] }) (base : Nat) (v : Value) (n : Nat) (xs news : List Value) (W : World) (hown : W.ownsRow base e k v n xs) (hb : base ≤ W.heap.size)
  (hl : news.length = k) (h1 : ∀ u ∈ news, u.oneCell' = true) (hn : n + 1 ≤ 100000000) (hbb : (n + 1) * b ≤ 140737488355328) (hs : a.eval s = v) (hx : a.eval x = .slice (some ⟨W.heap.size, 0, none⟩) 1 1)
  (h : ∀ g cap w', w'.ownsRow base e k (.slice (some ⟨g, 0, none⟩) (n + 1) cap) (n + 1) (xs ++ news) → (v.ownBlock = some g ∨ W.heap.size ≤ g) → (W.alloc (.cells news.toArray e)).grownBy w' v.ownBlock →
   wpList Tryz.prog ops Q rest (a.put o.dst (.slice (some ⟨g, 0, none⟩) (n + 1) cap)) w') : wpList Tryz.prog ops Q (o :: rest) a (W.alloc (.cells news.toArray e)) := by
 obtain ⟨i, hi, hz, hsz, hby⟩ : ∃ i, Tryz.prog.info? e = some i ∧ i.zero = some z ∧ i.size = k ∧ i.bytes = b := by
  cases hh : Tryz.prog.info? e with
  | none => rw [hh] at hI; cases hI
  | some i =>
   rw [hh] at hI
   simp only [Option.map_some, Option.some.injEq, Prod.mk.injEq] at hI
   exact ⟨i, rfl, hI.1, hI.2.1, hI.2.2⟩
 refine wpList_append_lies _ hgd s x t ho base e i z k b ht hi hz hsz hby hzs hk v n xs hs (hown.alloc _) ⟨W.heap.size, 0, none⟩ 1 1 news hx (by rw [hl, Nat.one_mul]) (new_cells W news e) h1 (by decide) (by unfold maxLen; omega) hbb (by simp; omega) _ rfl ?_
 intro g cap w' hown' hg hat hlt
 refine h g cap w' hown' ?_ hg
 rcases hat with hat | hat
 ·exact .inl hat
 ·exact .inr (by rw [hat]; simp)
theorem one_ptr {g : Nat} : ∀ u ∈ [ptrV g], u.oneCell' = true := by intro u hu; simp at hu; subst hu; rfl
theorem kids_nodup (ns : List NodeZ) (p : Int) : (kidsZ ns p).Nodup := by unfold kidsZ; exact List.Pairwise.filter _ List.nodup_range
theorem take_ne {ns : List NodeZ} {p : Int} {i c : Nat} (h : (kidsZ ns p)[i]? = some c) (hc : c ∈ (kidsZ ns p).take i) : False := by
 obtain ⟨j, hj, e⟩ := List.mem_iff_getElem.1 hc
 rw [List.length_take] at hj
 rw [List.getElem_take] at e
 obtain ⟨hi, e2⟩ := List.getElem?_eq_some_iff.1 h
 exact (List.pairwise_iff_getElem.1 (kids_nodup ns p)) j i (by omega) hi (by omega) (e.trans e2.symm)
def TreePost (ns : List NodeZ) (p : Int) (bw : Nat) (Ws : List Value) (w : World) (e : Ending) (w' : World) : Prop := ∃ v Ws', e = .returned v ∧ TS tBr tPt w.heap.size w w' ns (kidsZ ns) bw Ws Ws' (Und ns p) v (kidsZ ns p)
def treeS (ns : List NodeZ) (p : Int) (i : Nat) (k : Nat) : Prop := ∃ c ∈ (kidsZ ns p).take i, k = c ∨ Und ns (c : Int) k
set_option maxRecDepth 100000 in
set_option maxHeartbeats 8000000 in
theorem tree_any (X : RecZ) (vt vn : Value) (w00 : World) (hx : RdX w00 X vt vn) (hbk : Back X.nodes X.nodes.length) (hm : X.nodes.length ≤ 1000) : ∀ (f : Nat) (p : Int) (bw cw : Nat) (Ws : List Value) (w : World), Below w00.heap.size w00 w → w00.heap.size ≤ bw → Box w bw Ws tPt → Ws.length = X.nodes.length →
  (X.nodes.length : Int) - p ≤ f → -1 ≤ p → p < X.nodes.length →
  Calls Tryz.prog 26 #[recV X vt vn, .int .i64 p, .slice (some ⟨bw, 0, none⟩) X.nodes.length cw] w (TreePost X.nodes p bw Ws w) := by
 have HX00 := Lib.hid hx
 have HBK := Lib.hid hbk
 obtain ⟨na, nc, rfl, h1, h2⟩ := hx.2.1.form
 obtain ⟨ta, tc, rfl, ht1, ht2⟩ := hx.1.form
 unfold maxLen at h2 ht2
 clear hx hbk
 unfold recV
 intro f
 induction f with
 | zero => intros; omega
 | succ f ih =>
  intro p bw cw Ws w h00 hbw hbx hwl hf hp0 hp1
  have IH := Lib.hid ih
  have H00 := Lib.hid h00
  have HBX := Lib.hid hbx
  have hbwl := hbx.lt
  clear ih h00 hbx
  go_enter Tryz.func26, Tryz.ntmps26
  go_upto_region 2 with (fail)
  obtain ⟨bb, hbb⟩ : ∃ bb, bb = w.heap.size := ⟨_, rfl⟩
  have HXb : Hid (Box (w.alloc (.cells #[.slice ta X.tags.length tc, .string X.comment, .slice na X.nodes.length nc, .int .i64 X.result] 30)) bb [.slice ta X.tags.length tc, .string X.comment, .slice na X.nodes.length nc, .int .i64 X.result] 30) := Lib.hid (Box.new' w bb [.slice ta X.tags.length tc, .string X.comment, .slice na X.nodes.length nc, .int .i64 X.result] 30 hbb.symm)
  have HB : Hid (Below w.heap.size w (w.alloc (.cells #[.slice ta X.tags.length tc, .string X.comment, .slice na X.nodes.length nc, .int .i64 X.result] 30))) := Lib.hid ((Below.refl w.heap.size w).alloc (Nat.le_refl _) _)
  have hbb1 : w.heap.size ≤ bb := by omega
  rw [← hbb]
  clear hbb
  generalize (w.alloc (.cells #[.slice ta X.tags.length tc, .string X.comment, .slice na X.nodes.length nc, .int .i64 X.result] 30)) = w0 at *
  refine wp_region_lit ?_
  refine wpList_load_box (by rfl) 30 (.tmp 3) (by rfl) bb (by rfl) HXb.out Tryz.underlying30 (by rfl) (by kernel_rfl) ?_
  have H000 := Lib.hid (H00.out.trans (HB.out.mono H00.out.size))
  have HKi := Lib.hid (Kids_any X (.slice ta X.tags.length tc) (.slice na X.nodes.length nc) p w0 (HX00.out.below H000.out (Nat.le_refl _)) hm)
  unfold recV at HKi
  go_wp2_with fail
  refine HKi.out.mono ?_
  rintro e w1 ⟨v', rfl, how, hb1⟩
  obtain ⟨oa, oc, rfl⟩ := own_form2 how
  have HK1 := Lib.hid (own_base how HB.out.size)
  have hkl : (kidsZ X.nodes p).length ≤ X.nodes.length := kidsK_len X.nodes p X.nodes.length
  have HB1 := Lib.hid (HB.out.trans (hb1.mono HB.out.size))
  have HXb1 := Lib.hid (HXb.out.stays hb1)
  clear how hb1 HKi HB HXb H000
  have HT0 : Hid (TS tBr tPt w1.heap.size w1 w1 X.nodes (kidsZ X.nodes) bw Ws Ws (treeS X.nodes p 0) (.slice none 0 0) ((kidsZ X.nodes p).take 0)) := Lib.hid ((TS.start w1.heap.size (HBX.out.below HB1.out hbwl)).congr (fun k => ⟨fun h => h.elim, fun ⟨c, hc, _⟩ => (List.not_mem_nil hc).elim⟩))
  go_wp2_with fail
  go_loopw [15, 7] (fun v15 v7 wr => ∃ (i : Nat) (Wi : List Value) (o7 : Value), o7 = v7 ∧ v15 = .int .i64 i ∧ i ≤ (kidsZ X.nodes p).length ∧ Hid (TS tBr tPt w1.heap.size w1 wr X.nodes (kidsZ X.nodes) bw Ws Wi (treeS X.nodes p i) o7 ((kidsZ X.nodes p).take i))) (fun v _ _ => (kidsZ X.nodes p).length - (intOf v).toNat)
  case atStart => exact ⟨0, _, _, rfl, rfl, Nat.zero_le _, HT0⟩
  case round =>
   obtain ⟨i, Wi, o7, rfl, rfl, hi, HT⟩ := hrel
   by_cases hlt : (i : Int) < ((kidsZ X.nodes p).length : Int)
   ·have hil : i < (kidsZ X.nodes p).length := by omega
    obtain ⟨c, hc⟩ : ∃ c, c = (kidsZ X.nodes p).getD i 0 := ⟨_, rfl⟩
    have hcg : (kidsZ X.nodes p)[i]? = some c := by rw [hc, List.getD_eq_getElem?_getD, List.getElem?_eq_getElem hil]; rfl
    have hcK : c ∈ kidsZ X.nodes p := List.mem_of_getElem? hcg
    have hcn := (kid_par hcK).2
    obtain ⟨G, oc', hG⟩ := own_some HK1.out (by omega)
    obtain ⟨rfl, rfl⟩ : oa = some ⟨G, 0, none⟩ ∧ oc = oc' := by simpa using hG
    clear hG
    have hGl := HK1.out.lt G rfl
    have hwr := HT.out.grow.size
    have g0 : wr.cell? ⟨G, i, none⟩ = some (.int .i64 (c : Int)) := by
     rw [World.cell?_of_block (w := w1) (HT.out.grow.block G hGl.2 (by simp; omega)), HK1.out.cellAt i (by omega), nums_get hil, hc]
    have HXbr : Hid (Box wr bb [.slice ta X.tags.length tc, .string X.comment, .slice na X.nodes.length nc, .int .i64 X.result] 30) := Lib.hid ((HT.out.grow.block bb HXb1.out.lt (by simp; omega)).trans HXb1.out)
    have x2 := HXbr.out.cell 2 rfl
    have hxl := HXbr.out.lt
    obtain ⟨g, o, rfl, hg, hcs⟩ := nodes_some HX00.out.2.1 (by omega)
    obtain ⟨e0, e1, e2, e3, e4, hsz⟩ := hcs c hcn
    have e00 : ∀ b, b < w00.heap.size → wr.heap[b]? = w00.heap[b]? := fun b hb => by
     have s1 := H00.out.size
     have s2 := HB1.out.size
     rw [HT.out.grow.block b (by omega) (by simp; omega), HB1.out.block b (by omega), H00.out.block b hb]
    have c1 := (World.cell?_of_block (a := ⟨g, o + c * 5 + 1, none⟩) (e00 g hg)).trans e1
    have c2 := (World.cell?_of_block (a := ⟨g, o + c * 5 + 2, none⟩) (e00 g hg)).trans e2
    have c3 := (World.cell?_of_block (a := ⟨g, o + c * 5 + 3, none⟩) (e00 g hg)).trans e3
    have c4 := (World.cell?_of_block (a := ⟨g, o + c * 5 + 4, none⟩) (e00 g hg)).trans e4
    have hgr : g < wr.heap.size := by have := HB1.out.size; have := H00.out.size; omega
    have hGr : G < wr.heap.size := by omega
    have hcl : (c : Int) < (X.nodes.length : Int) := by omega
    have hc0 : (0 : Int) ≤ (c : Int) := by omega
    clear hcs e0 e1 e2 e3 e4 e00 hc
    go_upto_region 5 with (fail)
    go_region
    obtain ⟨B, hB⟩ : ∃ B, B = wr.heap.size := ⟨_, rfl⟩
    have hga : Hid (wr.grownBy (wr.alloc (.cells #[.int .i64 (ndAt X.nodes c).m.src, .int .i64 (ndAt X.nodes c).m.dst, .int .i64 (ndAt X.nodes c).m.piece, .string (ndAt X.nodes c).comment, .slice none 0 0] 74)).drew (some bw)) := Lib.hid (grown_below ((Below.refl _ _).alloc (Nat.le_refl _) _).drew)
    have hsa : (wr.alloc (.cells #[.int .i64 (ndAt X.nodes c).m.src, .int .i64 (ndAt X.nodes c).m.dst, .int .i64 (ndAt X.nodes c).m.piece, .string (ndAt X.nodes c).comment, .slice none 0 0] 74)).drew.heap.size = B + 1 := by simp [hB]
    have HBa : Hid (Box (wr.alloc (.cells #[.int .i64 (ndAt X.nodes c).m.src, .int .i64 (ndAt X.nodes c).m.dst, .int .i64 (ndAt X.nodes c).m.piece, .string (ndAt X.nodes c).comment, .slice none 0 0] 74)).drew B [.int .i64 (ndAt X.nodes c).m.src, .int .i64 (ndAt X.nodes c).m.dst, .int .i64 (ndAt X.nodes c).m.piece, .string (ndAt X.nodes c).comment, .slice none 0 0] 74) := Lib.hid (Box.new' wr B _ _ hB.symm)
    have HWa : Hid (Box (wr.alloc (.cells #[.int .i64 (ndAt X.nodes c).m.src, .int .i64 (ndAt X.nodes c).m.dst, .int .i64 (ndAt X.nodes c).m.piece, .string (ndAt X.nodes c).comment, .slice none 0 0] 74)).drew bw Wi tPt) := Lib.hid (HT.out.wh.alloc _)
    rw [← hB]
    generalize (wr.alloc (.cells #[.int .i64 (ndAt X.nodes c).m.src, .int .i64 (ndAt X.nodes c).m.dst, .int .i64 (ndAt X.nodes c).m.piece, .string (ndAt X.nodes c).comment, .slice none 0 0] 74)).drew = wa at *
    have HXa : Hid (Box wa bb [.slice ta X.tags.length tc, .string X.comment, .slice (some ⟨g, o, none⟩) X.nodes.length nc, .int .i64 X.result] 30) := Lib.hid ((hga.out.block bb hxl (by simp; omega)).trans HXbr.out)
    have hwi : Wi.length = X.nodes.length := by rw [HT.out.wlen, hwl]
    have w0c := HWa.out.cell c (List.getElem?_eq_getElem (by omega : c < Wi.length))
    have w0f := HWa.out.frozen c
    have hbwa := HWa.out.lt
    have hbwB : bw < B := by omega
    have hbbB : bb < B := by omega
    have hw1B : w1.heap.size ≤ B := by omega
    have HBe := Lib.hid hB
    clear g0 x2 c1 c2 c3 c4 HXbr hB
    go_upto_region 7 with (fail)
    have HG3 : Hid (wr.grownBy (wa.setCell ⟨bw, c, none⟩ (.pointer (some ⟨B, 0, none⟩))) (some bw)) := Lib.hid (grown_set hga.out _ _ (.inl rfl))
    have hs3 : (wa.setCell ⟨bw, c, none⟩ (.pointer (some ⟨B, 0, none⟩))).heap.size = B + 1 := by simp [hsa]
    have HB3 : Hid (Box (wa.setCell ⟨bw, c, none⟩ (.pointer (some ⟨B, 0, none⟩))) B [.int .i64 (ndAt X.nodes c).m.src, .int .i64 (ndAt X.nodes c).m.dst, .int .i64 (ndAt X.nodes c).m.piece, .string (ndAt X.nodes c).comment, .slice none 0 0] 74) := Lib.hid (HBa.out.far _ _ (by show B ≠ bw; omega))
    have HW3 : Hid (Box (wa.setCell ⟨bw, c, none⟩ (.pointer (some ⟨B, 0, none⟩))) bw (Wi.set c (ptrV B)) tPt) := Lib.hid (HWa.out.set c _)
    have HX3 : Hid (Box (wa.setCell ⟨bw, c, none⟩ (.pointer (some ⟨B, 0, none⟩))) bb [.slice ta X.tags.length tc, .string X.comment, .slice (some ⟨g, o, none⟩) X.nodes.length nc, .int .i64 X.result] 30) := Lib.hid (HXa.out.far _ _ (by show bb ≠ bw; omega))
    generalize (wa.setCell ⟨bw, c, none⟩ (.pointer (some ⟨B, 0, none⟩))) = w3 at *
    clear HBa HWa HXa hga hsa w0c w0f
    have hx3l := HX3.out.lt
    have H03 : Below w00.heap.size w00 w3 := by
     have s1 := H00.out.size
     have s2 := HB1.out.size
     refine ⟨HG3.out.os.trans (HT.out.grow.os.trans (HB1.out.os.trans H00.out.os)), HG3.out.tape.trans (HT.out.grow.tape.trans (HB1.out.tape.trans H00.out.tape)), HG3.out.output.trans (HT.out.grow.output.trans (HB1.out.output.trans H00.out.output)), by omega, fun b hb => ?_⟩
     rw [HG3.out.block b (by omega) (by simp; omega), HT.out.grow.block b (by omega) (by simp; omega), HB1.out.block b (by omega), H00.out.block b hb]
    have HRec := Lib.hid (IH.out (c : Int) bw cw (Wi.set c (ptrV B)) w3 H03 hbw HW3.out (by rw [List.length_set]; exact hwi) (by have := HBK.out c hcn; have := (kid_par hcK).1; omega) (by omega) (by omega))
    have x0 := HX3.out.cell 0 rfl
    have x1 := HX3.out.cell 1 rfl
    have x2 := HX3.out.cell 2 rfl
    have x3 := HX3.out.cell 3 rfl
    go_wp2_with fail
    refine HRec.out.mono ?_
    rintro e w4 ⟨v4, W2, rfl, hT4⟩
    obtain ⟨oa4, oc4, rfl⟩ := own_form2 hT4.out
    rw [hs3] at hT4
    have HT4 := Lib.hid hT4
    have HB4 : Hid (Box w4 B [.int .i64 (ndAt X.nodes c).m.src, .int .i64 (ndAt X.nodes c).m.dst, .int .i64 (ndAt X.nodes c).m.piece, .string (ndAt X.nodes c).comment, .slice none 0 0] 74) := Lib.hid ((hT4.grow.block B (by omega) (by simp; omega)).trans HB3.out)
    have b4 := HB4.out.cell 4 rfl
    have bf4 := HB4.out.frozen 4
    have hb4l := HB4.out.lt
    clear hT4 HRec H03 x0 x1 x2 x3
    go_upto_region 8 with (fail)
    have hSc : ¬ treeS X.nodes p i c := fun ⟨c', hc', h'⟩ => by
     have e := und_apart HBK.out (List.mem_of_mem_take hc') hcK h' (.inl rfl)
     subst e
     exact take_ne hcg hc'
    have HT5 := Lib.hid (HT.out.node (c := c) (B := B) (Nat.le_refl _) (by omega) HBe.out.symm rfl (by omega) HG3.out hs3 HB3.out hsz HT4.out (fun h => by have := h.lt HBK.out; omega) hSc (fun k hu ⟨c', hc', h'⟩ => by
     have e := und_apart HBK.out (List.mem_of_mem_take hc') hcK h' (.inr hu)
     subst e
     exact take_ne hcg hc'))
    have hac : adr W2 c = B := adr_ptr (by rw [HT4.out.wold c (fun h => by have := h.lt HBK.out; omega), List.getElem?_set, if_pos rfl, if_pos (by omega)])
    generalize (w4.setCell ⟨B, 4, none⟩ (.slice oa4 (kidsZ X.nodes (c : Int)).length oc4)) = w5 at *
    have hlt5 : w1.heap.size ≤ w5.heap.size := HT5.out.grow.size
    obtain ⟨js, hjs⟩ : ∃ js, (kidsZ X.nodes p).take i = js := ⟨_, rfl⟩
    rw [hjs] at HT5
    have hjl : js.length ≤ 1000 := by rw [← hjs, List.length_take]; omega
    have Hjs := Lib.hid hjs
    clear hjs
    clear HT HT4 HB4 HG3 HB3 HW3 HX3 b4 bf4 hSc
    obtain ⟨oa7, oc7, rfl⟩ := own_form2 HT5.out.out
    go_wp2_with (at_builtin; refine app_at 59 75 (.pointer none) 1 8 infoBr Tryz.underlying59 rfl (by decide) (by rfl) _ _ (by rfl) w1.heap.size _ js.length (js.map fun j => ptrV (adr W2 j)) [ptrV B] w5 HT5.out.out hlt5 rfl one_ptr (by omega) (by omega) (by rfl) (by rfl) ?_)
    intro g6 cap6 w6 hown6 hat6 hgr6
    have HT6 := Lib.hid (HT5.out.app (c := c) (by decide) (Nat.le_refl _) (by omega) (.inr (.inl rfl)) hgr6 hat6 (by rw [hac]; exact hown6))
    clear hown6 hat6 hgr6 HT5
    go_wp2_with fail
    go_roundw
    case rel =>
     refine ⟨i + 1, W2, _, rfl, by go_num, by omega, Lib.hid ?_⟩
     have e1 : (kidsZ X.nodes p).take (i + 1) = js ++ [c] := by rw [List.take_add_one, hcg, Hjs.out]; rfl
     rw [e1]
     refine HT6.out.congr fun k => ⟨?_, ?_⟩
     ·rintro (⟨c', h1, h2⟩ | h)
      ·exact ⟨c', by rw [e1, ← Hjs.out]; exact List.mem_append_left _ h1, h2⟩
      ·exact ⟨c, by rw [e1]; exact List.mem_append_right _ (List.mem_singleton.2 rfl), h⟩
     ·rintro ⟨c', h1, h2⟩
      rw [e1] at h1
      rcases List.mem_append.1 h1 with h1 | h1
      ·exact .inl ⟨c', by rw [Hjs.out]; exact h1, h2⟩
      ·rw [List.mem_singleton.1 h1] at h2; exact .inr h2
    case measure => simp [intOf]; omega
   ·obtain rfl : i = (kidsZ X.nodes p).length := by omega
    have HF := Lib.hid (HT.out.back HB1.out.size (grown_below HB1.out))
    rw [List.take_of_length_le (Nat.le_refl _)] at HF
    go_wp2_with fail
    go_ret
    refine ⟨_, Wi, rfl, HF.out.congr fun k => ⟨?_, ?_⟩⟩
    ·rintro ⟨c, hc, h⟩
     rw [List.take_of_length_le (Nat.le_refl _)] at hc
     rcases h with rfl | h
     ·exact und_kid hc
     ·exact und_down hc h
    ·intro h
     obtain ⟨c, hc, h2⟩ := und_cases (k + 1) (Nat.lt_succ_self _) HBK.out h
     exact ⟨c, by rw [List.take_of_length_le (Nat.le_refl _)]; exact hc, h2⟩
end Go.Proofs.YtnieifdogllbfaaGreat

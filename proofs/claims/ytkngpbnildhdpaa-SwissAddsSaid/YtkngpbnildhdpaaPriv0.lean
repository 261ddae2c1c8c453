/- Objects that live behind a pointer: the blocks that they may write, and what stays as it was (without the games' positions). -/
import Derived.Test.YtkngpbnildhdpaaBox
import Derived.Test.YtkngpbnildhdpaaOwn
import Derived.Test.YtkngpbnildhdpaaIntsB
import Derived.Test.YtkngpbnildhdpaaRdL
namespace Go.Proofs.Ytkngpbnildhdpaa
open Go.ChangeShapes Go.WideShapes Go.ChangeAt Go.RowKit
set_option linter.unusedVariables false

/-- all blocks but the private ones are as they were. -/
structure Fr (S : Nat → Prop) (w w' : World) : Prop where
  os : w'.os = w.os
  tape : w'.tape = w.tape
  output : w'.output = w.output
  size : w.heap.size ≤ w'.heap.size
  block : ∀ k, k < w.heap.size → ¬ S k → w'.heap[k]? = w.heap[k]?
theorem Fr.refl (S : Nat → Prop) (w : World) : Fr S w w := ⟨rfl, rfl, rfl, Nat.le_refl _, fun _ _ _ => rfl⟩
/-- what S' has more than S is new. -/
def Shr (w : World) (S S' : Nat → Prop) : Prop := ∀ k, k < w.heap.size → S' k → S k
theorem Shr.refl (w : World) (S : Nat → Prop) : Shr w S S := fun _ _ h => h
theorem Shr.trans {w w' : World} {S S' S'' : Nat → Prop} (h : Shr w S S') (h' : Shr w' S' S'') (hs : w.heap.size ≤ w'.heap.size) : Shr w S S'' := fun k hk h2 => h k hk (h' k (by omega) h2)
theorem Fr.trans {S S' : Nat → Prop} {a b c : World} (h : Fr S a b) (k : Fr S' b c) (hs : Shr a S S') : Fr S a c :=
  ⟨k.os.trans h.os, k.tape.trans h.tape, k.output.trans h.output, Nat.le_trans h.size k.size, fun i hi hn => (k.block i (Nat.lt_of_lt_of_le hi h.size) (fun e => hn (hs i hi e))).trans (h.block i hi hn)⟩
theorem Fr.mono {S S' : Nat → Prop} {w w' : World} (h : Fr S w w') (hs : ∀ k, k < w.heap.size → S k → S' k) : Fr S' w w' := ⟨h.os, h.tape, h.output, h.size, fun k hk hn => h.block k hk (fun e => hn (hs k hk e))⟩
theorem Fr.of_below {S : Nat → Prop} {B : Nat} {w w' : World} (h : Below B w w') (hS : ∀ k, k < w.heap.size → B ≤ k → S k) : Fr S w w' :=
  ⟨h.os, h.tape, h.output, h.size, fun k hk hn => h.block k (by rcases Nat.lt_or_ge k B with e | e; exact e; exact absurd (hS k hk e) hn)⟩
theorem Fr.of_new {S : Nat → Prop} {w w' : World} (h : Below w.heap.size w w') : Fr S w w' := Fr.of_below h (fun k hk hb => by omega)
theorem Fr.below {S : Nat → Prop} {B : Nat} {w w' : World} (h : Fr S w w') (hS : ∀ k, S k → B ≤ k) (hB : B ≤ w.heap.size) : Below B w w' :=
  ⟨h.os, h.tape, h.output, h.size, fun k hk => h.block k (by omega) (fun e => by have := hS k e; omega)⟩
theorem Fr.drew {S : Nat → Prop} {w w' : World} (h : Fr S w w') : Fr S w w'.drew := ⟨h.os, h.tape, h.output, h.size, h.block⟩
theorem Fr.drewN {S : Nat → Prop} {w w' : World} (h : Fr S w w') (n : Nat) : Fr S w (w'.drewN n) := ⟨h.os, h.tape, h.output, h.size, h.block⟩
theorem Fr.alloc {S : Nat → Prop} {w w' : World} (h : Fr S w w') (o : Obj) : Fr S w (w'.alloc o) :=
  h.trans (S' := S) (Fr.of_new ((Below.refl _ _).alloc (Nat.le_refl _) o)) (Shr.refl _ _)
theorem Fr.grown {S : Nat → Prop} {a w w' : World} {row : Option Nat} (h : Fr S a w) (hg : w.grownBy w' row) (hr : ∀ k, row = some k → k < a.heap.size → S k) : Fr S a w' :=
  ⟨hg.os.trans h.os, hg.tape.trans h.tape, hg.output.trans h.output, Nat.le_trans h.size hg.size, fun k hk hn =>
    (hg.block k (Nat.lt_of_lt_of_le hk h.size) (fun e => hn (hr k e.symm hk))).trans (h.block k hk hn)⟩
theorem Fr.setCell {S : Nat → Prop} {a w : World} (h : Fr S a w) {p : Addr} (hp : S p.block) (u : Value) : Fr S a (w.setCell p u) :=
  ⟨h.os, h.tape, h.output, by simpa [World.setCell] using h.size, fun k hk hn => (Below.heap_setCell _ _ _ _ (fun e => hn (by rw [e]; exact hp))).trans (h.block k hk hn)⟩
theorem Fr.setCells {S : Nat → Prop} {a w : World} (h : Fr S a w) {b : Nat} (hp : S b) (o : Nat) (vs : List Value) : Fr S a (w.setCells b o vs) :=
  ⟨(rest_setCells b vs o w).1.trans h.os, (rest_setCells b vs o w).2.1.trans h.tape, (rest_setCells b vs o w).2.2.trans h.output, by rw [size_setCells]; exact h.size,
    fun k hk hn => (heap_setCells b vs o w k (fun e => hn (by rw [e]; exact hp))).trans (h.block k hk hn)⟩

/-- what holds now and whatever is written into the private blocks. -/
def Held (S : Nat → Prop) (w : World) (D : World → Prop) : Prop := ∀ w', Fr S w w' → D w'
theorem Held.now {S : Nat → Prop} {w : World} {D : World → Prop} (h : Held S w D) : D w := h w (Fr.refl _ _)
theorem Held.step {S S' : Nat → Prop} {w w1 : World} {D : World → Prop} (h : Held S w D) (hf : Fr S w w1) (hs : Shr w S S') : Held S' w1 D := fun w' hw => h w' (hf.trans hw hs)
theorem Held.imp {S : Nat → Prop} {w : World} {D D' : World → Prop} (h : Held S w D) (hd : ∀ w', D w' → D' w') : Held S w D' := fun w' hw => hd w' (h w' hw)
theorem Held.old {S : Nat → Prop} {B : Nat} {w : World} {D : World → Prop} (h : ∀ w', Below B w w' → D w') (hS : ∀ k, S k → B ≤ k) (hB : B ≤ w.heap.size) : Held S w D := fun w' hw => h w' (hw.below hS hB)
/-- a row that is not private. -/
theorem own_held {S : Nat → Prop} {w w' : World} {base : Nat} {e : TypeId} {sz n : Nat} {v : Value} {xs : List Value} (h : w.ownsRow base e sz v n xs) (hf : Fr S w w') (hS : ∀ k, v.ownBlock = some k → ¬ S k) : w'.ownsRow base e sz v n xs := by
  refine ⟨h.1, ?_⟩
  rcases h.2 with h0 | ⟨g, cap, cur, rfl, hb, hg, r⟩
  · exact .inl h0
  · have hlt : g < w.heap.size := by
      by_cases hh : g < w.heap.size
      · exact hh
      · rw [Array.getElem?_eq_none (by omega)] at hg
        cases hg
    exact .inr ⟨g, cap, cur, rfl, hb, (hf.block g hlt (hS g rfl)).trans hg, r⟩
theorem own_new {S : Nat → Prop} {w : World} {base : Nat} {e : TypeId} {sz n : Nat} {v : Value} {xs : List Value} (h : w.ownsRow base e sz v n xs) (hS : ∀ k, base ≤ k → k < w.heap.size → ¬ S k) : Held S w fun w' => w'.ownsRow base e sz v n xs :=
  fun w' hw => own_held h hw (fun k hk => hS k (h.lt k hk).1 (h.lt k hk).2)
theorem Box.held {S : Nat → Prop} {w w' : World} {b : Nat} {cs : List Value} {t : TypeId} (h : Box w b cs t) (hf : Fr S w w') (hS : ¬ S b) : Box w' b cs t := (hf.block b h.lt hS).trans h

end Go.Proofs.Ytkngpbnildhdpaa

/- A slice of structs of integers that came in, opened to its cells. -/
import Derived.Test.YtjgnjahnfglbaaaFrame
import Derived.Deep.Slices
import Derived.Deep.Fields
namespace Go.Proofs.Ytjgnjahnfglbaaa
open Go.ChangeShapes Go.WideShapes Go.ChangeAt Go.RowKit Go.Deep

/-- the integer in a cell. -/
def cellInt (w : World) (p : Addr) : Int := match w.cell? p with | some (.int _ z) => z | _ => 0

theorem add_none (b off n : Nat) : (⟨b, off, none⟩ : Addr).add n = ⟨b, off + n, none⟩ := by
  unfold Addr.add; split
  · rename_i h; subst h; rfl
  · rfl

theorem block_lt {w : World} {p : Addr} {v : Value} (h : w.cell? p = some v) : p.block < w.heap.size := by
  rcases Nat.lt_or_ge p.block w.heap.size with hlt | hge
  · exact hlt
  · simp [World.cell?, Array.getElem?_eq_none hge] at h

section
variable {H : Type} {enc : TypeId × Value → H} {P : Program} {w : World} {base : Nat} {spare : Nat → Bool} {held : Bool}

theorem open_rows {t e : TypeId} {fs : Array Field} {fuel : Nat} {cs : List Value} {x : DataW H × List MemPlace} (ht : P.underlying t = some (.slice e)) (he : P.underlying e = some (.struct fs))
    (hone : oneCellFields P fs = true) (hC : P.cellsOf e = fs.size) {ti : TypeId} (hall : (fs.all fun f => f.type == ti) = true) (hti : P.underlying ti = some (.int .i64)) (h : DataW.trod enc P w base spare held fuel t cs = some x) :
    cs = [.slice none 0 0] ∨ ∃ (a : Addr) (len cap : Nat), cs = [.slice (some a) len cap] ∧ len ≤ cap ∧ cap ≤ maxLen ∧
      ∀ i, i < len → ∀ j, j < fs.size → w.cell? (a.add (i * fs.size + j)) = some (.int .i64 (cellInt w (a.add (i * fs.size + j)))) ∧ (Lit.int .i64 (cellInt w (a.add (i * fs.size + j)))).wf = true := by
  have hint : ∀ (j : Nat) (hj : j < fs.size), P.underlying fs[j].type = some (.int .i64) := fun j hj => by
    have := (Array.all_eq_true.1 hall) j hj
    rw [beq_iff_eq.1 this]; exact hti
  rcases open_slice ht h with h0 | ⟨a, len, cap, m, n, D, Pl, hcs, hb, hl, hm, hmm, hx, hi⟩
  · exact .inl h0.1
  · refine .inr ⟨a, len, cap, hcs, hl, hm, fun i hil j hj => ?_⟩
    have him : i < m := by rw [hmm]; split <;> omega
    obtain ⟨cs', hc, ht'⟩ := hi i him
    rw [hC] at hc
    obtain ⟨ys, n', _, _, _, hlen, hf⟩ := DataW.trod_struct he ht'
    obtain ⟨_, hcl, hat⟩ := World.cells?_some hc
    have hfj : fs[j]? = some fs[j] := Array.getElem?_eq_getElem hj
    obtain ⟨ho, hk⟩ := hone_of hone j _ hfj
    have h1 := hf j _ hfj
    rw [ho, hk] at h1
    have hlt : j < cs'.length := by omega
    have hone' : (cs'.drop j).take 1 = [cs'[j]] := by
      rw [List.drop_eq_getElem_cons hlt]; rfl
    rw [hone'] at h1
    cases hy : ys[j]? with
    | none =>
      have : j < ys.length := by omega
      rw [List.getElem?_eq_getElem this] at hy
      cases hy
    | some y =>
      rw [hy] at h1
      obtain ⟨z, hz, _, hw⟩ := DataW.trod_int (hint j hj) h1
      have hcell : w.cell? (a.add (i * fs.size + j)) = some (.int .i64 z) := by
        rw [← Go.Deep.add_add, hat j hj, List.getElem?_eq_getElem hlt]
        simp at hz
        rw [hz]
      have hci : cellInt w (a.add (i * fs.size + j)) = z := by unfold cellInt; rw [hcell]
      rw [hci]
      exact ⟨hcell, hw⟩
end
end Go.Proofs.Ytjgnjahnfglbaaa

/- BookDraws: the plain law. -/
import Derived.Test.YtkfaibdflbdpgaaBq1
import Derived.Test.YtkfaibdflbdpgaaMvL
namespace Go.Proofs.Ytkfaibdflbdpgaa
set_option linter.unusedVariables false
/-- the entries of a position: by key and by the legal moves. -/
def entsTo (key : Int) (ms : List MoveZ) (b : List BkZ) : List BkZ := b.filter fun x => decide (x.key = key) && decide (x.m ∈ ms)
theorem ents_snoc (key : Int) (ms : List MoveZ) (b : List BkZ) (k : Nat) (h : k < b.length) : entsTo key ms (b.take (k + 1)) = entsTo key ms (b.take k) ++ if ((b.getD k default).key == key && decide ((b.getD k default).m ∈ ms)) = true then [b.getD k default] else [] := by
  have e : b.getD k default = b[k] := by rw [List.getD_eq_getElem?_getD, List.getElem?_eq_getElem h]; rfl
  unfold entsTo
  rw [List.take_succ_eq_append_getElem h, List.filter_append, e]
  congr 1
  rw [List.filter_cons]
  simp
theorem ents_len (key : Int) (ms : List MoveZ) (b : List BkZ) : (entsTo key ms b).length ≤ b.length := List.length_filter_le _ _
theorem ents_mem {key : Int} {ms : List MoveZ} {b : List BkZ} {x : BkZ} (h : x ∈ entsTo key ms b) : x ∈ b := (List.mem_filter.1 h).1
/-- the sum of weights. -/
def sumW (l : List BkZ) : Int := l.foldl (fun s x => s + x.wt) 0
theorem sumW_from (l : List BkZ) (s : Int) : l.foldl (fun s x => s + x.wt) s = s + sumW l := by
  unfold sumW
  induction l generalizing s with
  | nil => simp
  | cons x t ih => simp only [List.foldl_cons]; rw [ih, ih (0 + x.wt)]; omega
theorem sumW_cons (x : BkZ) (t : List BkZ) : sumW (x :: t) = x.wt + sumW t := by
  show t.foldl (fun s x => s + x.wt) (0 + x.wt) = _
  rw [sumW_from]; omega
theorem sumW_take (l : List BkZ) (k : Nat) (h : k < l.length) : sumW (l.take (k + 1)) = sumW (l.take k) + (l.getD k default).wt := by
  induction l generalizing k with
  | nil => simp at h
  | cons x t ih =>
    cases k with
    | zero => simp [sumW_cons, sumW]
    | succ k =>
      rw [List.take_succ_cons, List.take_succ_cons, sumW_cons, sumW_cons, ih k (by simpa using h), List.getD_cons_succ]; omega
theorem sumW_bound (l : List BkZ) (h : WtB l) : (l.length : Int) ≤ sumW l ∧ sumW l ≤ 1000000 * (l.length : Int) := by
  induction l with
  | nil => simp [sumW]
  | cons x t ih =>
    have h1 := h x (by simp)
    have h2 := ih (fun z hz => h z (by simp [hz]))
    rw [sumW_cons, List.length_cons]
    omega
/-- the entry on which a draw falls. -/
def pickB : List BkZ → Int → Option BkZ
  | [], _ => none
  | x :: t, n => if n - x.wt < 0 then some x else pickB t (n - x.wt)
theorem pickB_drop (l : List BkZ) (k : Nat) (n : Int) (h : k < l.length) : pickB (l.drop k) n = if n - (l.getD k default).wt < 0 then some (l.getD k default) else pickB (l.drop (k + 1)) (n - (l.getD k default).wt) := by
  rw [List.drop_eq_getElem_cons h, pickB, List.getD_eq_getElem?_getD, List.getElem?_eq_getElem h]; rfl
/-- the draws from the sum before an entry on fall on it. -/
theorem pick_at {l : List BkZ} (h : WtB l) (k : Nat) (hk : k < l.length) (d : Int) (h0 : 0 ≤ d) (h1 : d < (l.getD k default).wt) : pickB l (sumW (l.take k) + d) = some (l.getD k default) := by
  induction l generalizing k with
  | nil => simp at hk
  | cons x t ih =>
    have hx := h x (by simp)
    have ht : WtB t := fun z hz => h z (by simp [hz])
    cases k with
    | zero =>
      unfold pickB
      rw [if_pos]
      · rfl
      · show sumW [] + d - x.wt < 0
        have : x.wt = ((x :: t).getD 0 default).wt := rfl
        rw [← this] at h1
        simp [sumW]; omega
    | succ k =>
      have hb := sumW_bound (t.take k) (fun z hz => ht z (List.mem_of_mem_take hz))
      rw [List.take_succ_cons, sumW_cons]
      unfold pickB
      rw [if_neg (by omega), show x.wt + sumW (t.take k) + d - x.wt = sumW (t.take k) + d by omega, ih ht k (by simpa using hk) h1, List.getD_cons_succ]
theorem pick_first {l : List BkZ} (h : WtB l) (hl : 0 < l.length) : pickB l 0 = some (l.getD 0 default) := by
  have h1 : (l.getD 0 default) ∈ l := by rw [List.getD_eq_getElem?_getD, List.getElem?_eq_getElem hl]; exact List.getElem_mem _
  have := pick_at h 0 hl 0 (by omega) (by have := h _ h1; omega)
  simpa [sumW] using this
theorem sumW_lt {l : List BkZ} (h : WtB l) (k : Nat) (hk : k < l.length) : 0 ≤ sumW (l.take k) ∧ sumW (l.take k) + (l.getD k default).wt ≤ sumW l := by
  have h1 := sumW_take l k hk
  have hb := sumW_bound (l.take k) (fun z hz => h z (List.mem_of_mem_take hz))
  have hd : sumW l = sumW (l.take (k + 1)) + sumW (l.drop (k + 1)) := by
    conv => lhs; rw [← List.take_append_drop (k + 1) l]
    unfold sumW
    rw [List.foldl_append, sumW_from]; rfl
  have hb2 := sumW_bound (l.drop (k + 1)) (fun z hz => h z (List.mem_of_mem_drop hz))
  omega
end Go.Proofs.Ytkfaibdflbdpgaa

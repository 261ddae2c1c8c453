/- The contracts of journal.last, and of Good and Check at a journal whose entries are right. -/
import Derived.Test.YtomjjbhdpaegkaaJouSum
namespace Go.Proofs.Ytomjjbhdpaegkaa
open Go.ChangeShapes Go.WideShapes Go.ChangeAt Go.RowKit
set_option linter.unusedVariables false

def flatJ (es : List EntZ) : List Value := es.flatMap fun e => [.string e.txt, .int .u64 e.sum]
theorem flatJ_cons (e : EntZ) (t : List EntZ) : flatJ (e :: t) = .string e.txt :: .int .u64 e.sum :: flatJ t := rfl
theorem flatJ_len (es : List EntZ) : (flatJ es).length = es.length * 2 := by
  induction es with
  | nil => rfl
  | cons e t ih => rw [flatJ_cons]; simp [ih]; omega
theorem flatJ_append (a b : List EntZ) : flatJ (a ++ b) = flatJ a ++ flatJ b := by simp [flatJ]
theorem flatJ_at (es : List EntZ) (k : Nat) (h : k < es.length) : (flatJ es)[k * 2]? = some (.string es[k].txt) ∧ (flatJ es)[k * 2 + 1]? = some (.int .u64 es[k].sum) := by
  induction es generalizing k with
  | nil => simp at h
  | cons g t ih =>
    cases k with
    | zero => exact ⟨rfl, rfl⟩
    | succ k =>
      have := ih k (by simpa using h)
      have e : (k + 1) * 2 = k * 2 + 2 := by omega
      rw [e]
      exact this
theorem flatJ_take (es : List EntZ) (k : Nat) : (flatJ es).take (k * 2) = flatJ (es.take k) := by
  induction es generalizing k with
  | nil => simp [flatJ]
  | cons g t ih =>
    cases k with
    | zero => simp [flatJ]
    | succ k =>
      have e : (k + 1) * 2 = k * 2 + 1 + 1 := by omega
      rw [e, flatJ_cons, List.take_succ_cons, List.take_succ_cons, ih, List.take_succ_cons, flatJ_cons]
/-- a journal that is read. -/
def RdJ (w : World) (v : Value) (es : List EntZ) : Prop := Rd w 2 es.length v (flatJ es)
theorem RdJ.below {w w' : World} {v : Value} {es : List EntZ} {B : Nat} (h : RdJ w v es) (hb : Below B w w') (hB : w.heap.size ≤ B) : RdJ w' v es := Rd.below h hb hB
theorem RdJ.take {w : World} {a : Option Addr} {c : Nat} {es : List EntZ} (h : RdJ w (.slice a es.length c) es) (k : Nat) (hk : k ≤ es.length) : RdJ w (.slice a k c) (es.take k) := by
  have := Rd.take h k hk
  rw [flatJ_take] at this
  unfold RdJ
  rw [List.length_take, Nat.min_eq_left hk]
  exact this
theorem RdJ.form {w : World} {v : Value} {es : List EntZ} (h : RdJ w v es) : ∃ a c, v = .slice a es.length c ∧ es.length ≤ c ∧ c ≤ maxLen ∧
    ∀ k (hk : k < es.length), ∃ g o, a = some ⟨g, o, none⟩ ∧ g < w.heap.size ∧ w.cell? ⟨g, o + k * 2, none⟩ = some (.string es[k].txt) ∧ w.cell? ⟨g, o + k * 2 + 1, none⟩ = some (.int .u64 es[k].sum) := by
  rcases h.2 with ⟨h, hz⟩ | ⟨g, o, c, h', h1, h2, hc⟩
  · exact ⟨none, 0, by rw [h, hz], by omega, by unfold maxLen; omega, fun k hk => by omega⟩
  · refine ⟨_, _, h', h1, h2, fun k hk => ⟨g, o, rfl, ?_⟩⟩
    obtain ⟨q0, q1⟩ := flatJ_at es k hk
    have e0 := (hc (k * 2) (by omega)).trans q0
    have e1 := (hc (k * 2 + 1) (by omega)).trans q1
    exact ⟨World.block_lt_of_cell? w _ e0, e0, e1⟩

def lastZ (es : List EntZ) : Int := match es.getLast? with | none => 0 | some e => e.sum
theorem last_any (v : Value) (es : List EntZ) (w : World) (h : RdJ w v es) :
    Calls Try.prog 13 #[v] w fun e w' => e = .returned (.int .u64 (lastZ es)) ∧ w = w' := by
  obtain ⟨a, c, rfl, h1, h2, hc⟩ := h.form
  unfold maxLen at h2
  cases es with
  | nil =>
    clear h hc
    simp only [List.length_nil]
    go_enter Try.func13, Try.ntmps13
    go_wp2_with fail
    go_ret
    exact ⟨rfl, rfl⟩
  | cons e0 t =>
    obtain ⟨g, o, rfl, hg, c0, c1⟩ := hc t.length (by simp)
    have HL : Hid (lastZ (e0 :: t) = ((e0 :: t)[t.length]'(by simp)).sum) := Lib.hid (by
      unfold lastZ
      rw [List.getLast?_eq_getElem?]
      simp)
    have hlen : (e0 :: t).length = t.length + 1 := rfl
    rw [hlen]
    have hq : ((((t.length + 1 : Nat)) : Int) == 0) = false := by simp; omega
    have h3 : t.length + 1 ≤ 9223372036854775807 := by simp at h1; omega
    generalize ((e0 :: t)[t.length]'(by simp)).sum = z at *
    clear h hc c0 hlen h1
    go_enter Try.func13, Try.ntmps13
    go_wp2_with fail
    go_ret
    exact ⟨by rw [HL.out]; rfl, rfl⟩

/-- a right journal. -/
def OkJ (es : List EntZ) : Prop := (∀ e ∈ es, e.txt.size ≤ 200) ∧ ∀ k (h : k < es.length), wrongE (lastZ (es.take k)) es[k] = 0

theorem elemJ : Try.prog.underlying 24 = some (.slice (Try.prog.elem 24)) := by kernel_rfl
theorem sizeJ (w : World) : (sizeOf (Try.prog.elem 24)).run Try.prog w = .ok 2 w := by kernel_rfl

set_option maxHeartbeats 2000000 in
theorem Good_ok (v : Value) (es : List EntZ) (w : World) (h : RdJ w v es) (hok : OkJ es) (hlen : es.length ≤ 1000) :
    Calls Try.prog 8 #[v] w (ErrPost (es.length : Int) w) := by
  obtain ⟨a, c, rfl, h1, h2, hc⟩ := h.form
  unfold maxLen at h2
  have HJ := Lib.hid h
  have HC := Lib.hid hc
  have HK := Lib.hid hok
  clear h hc hok
  go_enter Try.func8, Try.ntmps8
  go_wp2_with fail
  go_loopw [7] (fun i wr => ∃ k : Nat, k ≤ es.length ∧ i = .int .i64 k ∧ Below w.heap.size w wr) (fun i _ => es.length - (intOf i).toNat)
  case atStart => exact ⟨0, Nat.zero_le _, rfl, Below.refl _ _⟩
  case round =>
    obtain ⟨k, hk, rfl, hbl⟩ := hrel
    by_cases hlt : k < es.length
    · obtain ⟨g, o, rfl, hg, c0, c1⟩ := HC.out k hlt
      have d0 : wr.cell? ⟨g, o + k * 2, none⟩ = some (.string es[k].txt) := (hbl.cell (p := ⟨g, o + k * 2, none⟩) hg).trans c0
      have d1 : wr.cell? ⟨g, o + k * 2 + 1, none⟩ = some (.int .u64 es[k].sum) := (hbl.cell (p := ⟨g, o + k * 2 + 1, none⟩) hg).trans c1
      have hw := HK.out.2 k hlt
      have hsz := HK.out.1 es[k] (List.getElem_mem hlt)
      have hszr := hbl.size
      have hgr : g < wr.heap.size := by omega
      clear c0 c1
      have HLt := Lib.hid (fun (wx : World) (hx : Below w.heap.size w wx) => last_any _ (es.take k) wx (RdJ.below (RdJ.take HJ.out k hk) hx (Nat.le_refl _)))
      generalize lastZ (es.take k) = lz at *
      generalize hek : es[k] = ek at *
      clear hek
      have HWr := Lib.hid (fun wx => wrong_any lz ek wx (by omega))
      rw [hw] at HWr
      obtain ⟨s, n⟩ := ek
      unfold EntZ.val at HWr
      simp only at *
      have hba : Below w.heap.size w (wr.alloc (.cells #[.string s, .int .u64 n] 34)) := by go_grown
      have e0 : (wr.alloc (.cells #[.string s, .int .u64 n] 34)).cell? ⟨wr.heap.size, 0, none⟩ = some (.string s) := by go_simp
      have e1 : (wr.alloc (.cells #[.string s, .int .u64 n] 34)).cell? ⟨wr.heap.size, 1, none⟩ = some (.int .u64 n) := by go_simp
      have hk1 : ((k : Int) == 1000) = false := by simp; omega
      have hsl := fun w => run_takeAt elemJ sizeJ (some ⟨g, o, none⟩) es.length c k (by omega) w
      go_wp2_with fail
      generalize (wr.alloc (.cells #[.string s, .int .u64 n] 34)) = W at *
      clear d0 d1 hw
      have hbd : Below w.heap.size w W.drew := hba.drew
      go_region_with (first | (go_at_call 13; refine (HLt.out _ hbd).mono ?_; rintro e w' ⟨rfl, rfl⟩) | (go_at_call 15; refine (HWr.out _).mono ?_; rintro e w9 ⟨rfl, hb9⟩))
      all_goals
        have hb2 : Below w.heap.size w w9 := hbd.trans (hb9.mono (by have := hbd.size; simpa using this))
        clear hb9 e0 e1 hsl
        go_wp2_with fail
        go_roundw
        case rel => exact ⟨k + 1, by omega, by go_num, hb2⟩
        case measure => simp [intOf]; omega
    · obtain rfl : k = es.length := by omega
      go_wp2_with fail
      go_ret
      exact ⟨rfl, hbl⟩
end Go.Proofs.Ytomjjbhdpaegkaa

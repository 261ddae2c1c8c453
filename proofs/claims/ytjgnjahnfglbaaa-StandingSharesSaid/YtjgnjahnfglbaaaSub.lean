/- Slices of slices that are read: s[:k], s[k:]. -/
import Derived.Test.YtjgnjahnfglbaaaRd
import Derived.WalkKit
namespace Go.Proofs.Ytjgnjahnfglbaaa
open Go.RowKit

theorem add_off (g o n : Nat) : (⟨g, o, none⟩ : Addr).add n = ⟨g, o + n, none⟩ := by
  unfold Addr.add; split
  · rename_i h; subst h; rfl
  · rfl

/-- the address of s[k:] for elements of sz cells. -/
def subAddr (a : Option Addr) (c k sz : Nat) : Option Addr := if c = k then a else a.map (·.add (k * sz))

theorem Rd.take {w : World} {sz n : Nat} {a : Option Addr} {c : Nat} {xs : List Value} (h : Rd w sz n (.slice a n c) xs) (k : Nat) (hk : k ≤ n) : Rd w sz k (.slice a k c) (xs.take (k * sz)) := by
  have hle : k * sz ≤ n * sz := Nat.mul_le_mul_right sz hk
  refine ⟨by rw [List.length_take, h.1]; omega, ?_⟩
  rcases h.2 with ⟨⟨a', c', h0, hm⟩, hz⟩ | ⟨g, o, c', hv, h1, h2, hc⟩
  · left
    simp only [Value.slice.injEq] at h0
    obtain ⟨rfl, _, rfl⟩ := h0
    obtain rfl : k = 0 := by omega
    exact ⟨⟨_, _, rfl, hm⟩, rfl⟩
  · simp only [Value.slice.injEq, true_and] at hv
    obtain ⟨rfl, rfl⟩ := hv
    refine .inr ⟨g, o, c, rfl, by omega, h2, fun i hi => ?_⟩
    rw [hc i (by omega), List.getElem?_take, if_pos hi]

theorem Rd.drop {w : World} {sz n : Nat} {a : Option Addr} {c : Nat} {xs : List Value} (h : Rd w sz n (.slice a n c) xs) (k : Nat) (hk : k ≤ n) : Rd w sz (n - k) (.slice (subAddr a c k sz) (n - k) (c - k)) (xs.drop (k * sz)) := by
  have hle : k * sz ≤ n * sz := Nat.mul_le_mul_right sz hk
  have hms : (n - k) * sz = n * sz - k * sz := Nat.sub_mul n k sz
  refine ⟨by rw [List.length_drop, h.1, hms], ?_⟩
  rcases h.2 with ⟨⟨a', c', h0, hm⟩, hz⟩ | ⟨g, o, c', hv, h1, h2, hc⟩
  · left
    simp only [Value.slice.injEq] at h0
    obtain ⟨rfl, _, rfl⟩ := h0
    obtain rfl : k = 0 := by omega
    subst hz
    exact ⟨⟨_, _, rfl, by omega⟩, rfl⟩
  · simp only [Value.slice.injEq, true_and] at hv
    obtain ⟨rfl, rfl⟩ := hv
    unfold subAddr
    by_cases hck : c = k
    · rw [if_pos hck]
      have hnk : n - k = 0 := by omega
      refine .inr ⟨g, o, c - k, rfl, by omega, by unfold maxLen at *; omega, fun i hi => ?_⟩
      rw [hnk] at hi
      omega
    · rw [if_neg hck]
      refine .inr ⟨g, o + k * sz, c - k, by simp [add_off], by omega, by unfold maxLen at *; omega, fun i hi => ?_⟩
      rw [List.getElem?_drop, ← hc (k * sz + i) (by omega), Nat.add_assoc]

/-- 's[:k]', 's[k:]' run. -/
theorem run_take {P : Program} {t : TypeId} {s : Nat} (ht : P.underlying t = some (.slice (P.elem t))) (hs : ∀ w : World, (sizeOf (P.elem t)).run P w = .ok s w) (a : Option Addr) (n c k : Nat) (hk : k ≤ c) (w : World) :
    (Instr.slice t (.slice a n c) none (some (.int .i64 (k : Int))) none).run P w = .ok (.slice a k c) w := by
  rw [run_slice_h (P := P) (w := w) t a n c ht .i64 (k : Int) (by omega) (by omega)]
  rw [hs]
  simp only [Result.andThen, sliced, Int.toNat_natCast, Nat.zero_mul, Nat.sub_zero]
  split
  · rfl
  · cases a with
    | none => rfl
    | some x => simp [Addr.add]
theorem run_drop {P : Program} {t : TypeId} {s : Nat} (ht : P.underlying t = some (.slice (P.elem t))) (hs : ∀ w : World, (sizeOf (P.elem t)).run P w = .ok s w) (a : Option Addr) (n c k : Nat) (hk : k ≤ n) (w : World) :
    (Instr.slice t (.slice a n c) (some (.int .i64 (k : Int))) none none).run P w = .ok (.slice (subAddr a c k s) (n - k) (c - k)) w := by
  rw [run_slice_l (P := P) (w := w) t a n c ht .i64 (k : Int) (by omega) (by omega)]
  rw [hs]
  simp only [Result.andThen, sliced, Int.toNat_natCast, subAddr]
theorem run_takeAt {P : Program} {t : TypeId} {s : Nat} (ht : P.underlying t = some (.slice (P.elem t))) (hs : ∀ w : World, (sizeOf (P.elem t)).run P w = .ok s w) (a : Option Addr) (n c k : Nat) (hk : k ≤ c) (w : World) :
    (Instr.sliceAt t (.slice a n c) none (some (.int .i64 (k : Int))) none).run P w = .ok (.slice a k c) w := by
  rw [run_sliceAt_slice (h := ht)]; exact run_take ht hs a n c k hk w
theorem run_dropAt {P : Program} {t : TypeId} {s : Nat} (ht : P.underlying t = some (.slice (P.elem t))) (hs : ∀ w : World, (sizeOf (P.elem t)).run P w = .ok s w) (a : Option Addr) (n c k : Nat) (hk : k ≤ n) (w : World) :
    (Instr.sliceAt t (.slice a n c) (some (.int .i64 (k : Int))) none none).run P w = .ok (.slice (subAddr a c k s) (n - k) (c - k)) w := by
  rw [run_sliceAt_slice (h := ht)]; exact run_drop ht hs a n c k hk w
end Go.Proofs.Ytjgnjahnfglbaaa

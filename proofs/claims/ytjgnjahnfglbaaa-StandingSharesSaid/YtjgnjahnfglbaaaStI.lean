/- slices.symMergeCmpFunc: the whole. -/
import Derived.Test.YtjgnjahnfglbaaaStH
namespace Go.Proofs.Ytjgnjahnfglbaaa
open Go.ChangeShapes Go.WideShapes Go.ChangeAt Go.RowKit Go.Shelf Go.Lib Go.Sort
set_option linter.unusedVariables false

variable {P : Program} {α : Type} [Inhabited α] {k : Nat} {enc : α → List Value} {blk off : Nat} {d0 : Array α} {w0 : World} {cf : α → α → Int}
/-! ### the whole -/
theorem rotate_z (L : StL P k) (g : Nat) (cb : Array Value) (cap : Nat) (d : Array α) (w : World) (az mz bz : Int) (a m b : Nat) (ha : az = a) (hmz : mz = m) (hbz : bz = b) (R : RowK enc k w0 blk off d0) (hs : d0.size = d.size) (S : SWK enc k w0 blk off d w) (ham : a < m) (hmb : m < b) (hb : b ≤ d.size) (hsz : d.size < 4611686018427387904) :
    Calls P 24 #[.slice (some ⟨blk, off, none⟩) d.size cap, .int .i64 az, .int .i64 mz, .int .i64 bz, .func (.func g) #[] cb] w (RotPost d a m b enc k w0 blk off) := by
  subst ha; subst hmz; subst hbz
  exact rotate_any L g cb cap d w a m b R hs S ham hmb hb hsz
def SymSaid (P : Program) {α : Type} [Inhabited α] (k : Nat) (enc : α → List Value) (blk off : Nat) (w0 : World) (cf : α → α → Int) (g : Nat) (cb : Array Value) (cap n : Nat) (N : Nat) : Prop :=
  ∀ (d : Array α) (w : World) (az mz bz : Int) (a m b : Nat), az = a → mz = m → bz = b → b - a ≤ N → d.size = n → SWK enc k w0 blk off d w → a < m → m < b → b ≤ n → SortedIn (ltOf cf) a m d → SortedIn (ltOf cf) m b d →
    Calls P 22 #[.slice (some ⟨blk, off, none⟩) n cap, .int .i64 az, .int .i64 mz, .int .i64 bz, .func (.func g) #[] cb] w (SymPost d (ltOf cf) a b enc k w0 blk off)
set_option maxHeartbeats 8000000 in
set_option maxRecDepth 1000000 in
theorem sym_step (L : StL P k) (g : Nat) (cb : Array Value) (cap : Nat) (n : Nat) (hC : CmpLays P g cb enc k cf blk off d0.size w0) (eg : ∀ args w, (callFunc g args).run P w = .ok (.enter g args) w) (hS : SWO (ltOf cf)) (R : RowK enc k w0 blk off d0) (hs : d0.size = n) (hsz : n < 4611686018427387904) (N : Nat) (ih : SymSaid P k enc blk off w0 cf g cb cap n N) : SymSaid P k enc blk off w0 cf g cb cap n (N + 1) := by
  intro d w az mz bz a m b ha0 hm0 hb0 hN hdn S ham hmb hb s1 s2
  subst ha0; subst hm0; subst hb0; subst hdn
  by_cases c1 : m = a + 1
  · exact sym_left L g cb cap d w a m b hC eg hS R hs S c1 hmb hb hsz s2
  by_cases c2 : b = m + 1
  · exact sym_right L g cb cap d w a m b hC eg hS R hs S (by omega) c2 hb hsz s1
  have mixed := L.mixed
  have t0 := L.t0
  have a0 := L.a0
  have z0 := L.z0
  have v0 := L.v0
  have t3 := L.t3
  have a3 := L.a3
  have z3 := L.z3
  have v3 := L.v3
  have t4 := L.t4
  have a4 := L.a4
  have z4 := L.z4
  have v4 := L.v4
  have t53 := L.t53
  have a53 := L.a53
  have z53 := L.z53
  have v53 := L.v53
  have t24 := L.t24
  have a24 := L.a24
  have z24 := L.z24
  have v24 := L.v24
  have t40 := L.t40
  have a40 := L.a40
  have z40 := L.z40
  have v40 := L.v40
  have aE := L.aE
  have zE := L.zE
  have u24 := run_underlying L.t24
  have FG := L.f_sym
  have e24 : ∀ args w, (callFunc 24 args).run P w = .ok (.enter 24 args) w := enters_of L.f_rot (by kernel_rfl) rfl
  have e22 : ∀ args w, (callFunc 22 args).run P w = .ok (.enter 22 args) w := enters_of L.f_sym (by kernel_rfl) rfl
  have HC : Aside _ := hC
  have IH := Lib.hid ih
  have HRot := Lib.hid (fun d1 w1 az mz bz a1 m1 b1 => @rotate_z P α _ k enc blk off d0 w0 L g cb cap d1 w1 az mz bz a1 m1 b1)
  have S0 : Aside (SWK enc k w0 blk off d w) := S
  have H1 := Lib.hid s1
  have H2 := Lib.hid s2
  have HSW := Lib.hid hS
  clear S hC s1 s2 hS ih
  have h1z : ((m : Int) - (a : Int) == 1) = false := by simp; omega
  have h2z : ((b : Int) - (m : Int) == 1) = false := by simp; omega
  obtain ⟨mid, hmid⟩ : ∃ mid, mid = (a + b) / 2 := ⟨_, rfl⟩
  have hmA : a < mid := by omega
  have hmB : mid < b := by omega
  have hmC : 2 * mid ≤ a + b := by omega
  have hmD : a + b ≤ 2 * mid + 1 := by omega
  go_enter FG, Try.ntmps22
  go_upto_region 25 with (fail)
  have hmz : ((a : Int) + (b : Int)) / 2 = (mid : Int) := by omega
  rw [hmz]
  clear hmz hmid h1z h2z c1 c2

  by_cases c3 : mid < m
  · have c3z : (mid : Int) < (m : Int) := by omega
    have S1 := S0
    obtain ⟨s0, hs0⟩ : ∃ s0, s0 = (mid + m - b) := ⟨_, rfl⟩
    obtain ⟨p, hp⟩ : ∃ p, p = mid + m - 1 := ⟨_, rfl⟩
    have hsr : s0 ≤ mid := by omega
    have has : a ≤ s0 := by omega
    have HS0 := Lib.hid hs0
    have hpz : (mid : Int) + (m : Int) - 1 = (p : Int) := by omega
    have hp1 : p < b + s0 := by omega
    have hp2 : m + mid ≤ p + 1 := by omega
    have hp3 : p + 1 ≤ mid + m := by omega
    have hp4 : mid + m ≤ p + 1 := by omega
    have hs0z : (mid : Int) + (m : Int) - (b : Int) = (s0 : Int) := by omega
    have HS0z := Lib.hid hs0z
    clear hs0z
    clear hp hs0
    go_wp2_with fail
    clear hpz
    go_loopg [20, 21] (mid - s0) (fun kx s20 s21 wr => ∃ (s r : Nat), s20 = .int .i64 s ∧ s21 = .int .i64 r ∧ r - s ≤ kx ∧ Aside (SWK enc k w0 blk off d wr) ∧ Hid (SymIn (ltOf cf) d p s0 mid s r))
    case atStart => exact ⟨s0, mid, by rw [HS0z.out], rfl, by omega, S1, Lib.hid (SymIn.start hsr)⟩
    case round =>
      clear S0 S1
      obtain ⟨s, r, rfl, rfl, hkx, S1, HI⟩ := hrel
      have hlo := HI.out.lo
      have hmi := HI.out.mid
      have hhi := HI.out.hi
      by_cases hlt : s < r
      · have hltz : (s : Int) < (r : Int) := by omega
        obtain ⟨c, hc⟩ : ∃ c, c = (s + r) / 2 := ⟨_, rfl⟩
        have hci : s ≤ c := by omega
        have hcj : c < r := by omega
        go_upto_region 35 with (fail)
        have hcz : ((s : Int) + (r : Int)) / 2 = (c : Int) := by omega
        rw [hcz]
        clear hcz hc
        have hcp : (c : Int) ≤ (p : Int) := by omega
        have hcq : (p : Int) < (d.size : Int) + (c : Int) := by omega
        cases hL : ltOf cf d[p - c]! d[c]! with
        | false =>
          have ea204 : ((p : Int) - (c : Int)).toNat = p - c := by omega
          have pa204 : (0 : Int) ≤ (p : Int) - (c : Int) := by omega
          have ba204 : (p : Int) - (c : Int) < (d.size : Int) := by omega
          have ra204 : IntKind.i64.wrap ((p : Int) - (c : Int)) = (p : Int) - (c : Int) := by rw [IntKind.wrap_i64]; omega
          have ec204 : ((c : Int)).toNat = c := by omega
          have pc204 : (0 : Int) ≤ (c : Int) := by omega
          have bc204 : (c : Int) < (d.size : Int) := by omega
          have rc204 : IntKind.i64.wrap ((c : Int)) = (c : Int) := by rw [IntKind.wrap_i64]; omega
          obtain ⟨x204, hx204⟩ : ∃ x, x = d[p - c]! := ⟨_, rfl⟩
          obtain ⟨y204, hy204⟩ : ∃ x, x = d[c]! := ⟨_, rfl⟩
          have l204a := S1.out.ld R (by omega) P (p - c) (by omega)
          have l204b := S1.out.ld R (by omega) P (c) (by omega)
          rw [← hx204] at l204a
          rw [← hy204] at l204b
          have hc204 := S1.out.cmp HC.out (by omega) x204 y204
          have hv204 : ¬ cf x204 y204 < 0 := by rw [hx204, hy204]; exact of_decide_eq_false hL
          have hd204 : decide (cf x204 y204 < 0) = false := decide_eq_false hv204
          clear hx204 hy204
          go_wp2_with fail
          go_quiet_grown (first | (go_at_fn g; refine Calls.grown_of (hc204 _ _)))
          have S2 : Aside (SWK enc k w0 blk off d (grow (wr.drewN nq) osq)) := S1.out.grown nq osq
          clear l204a l204b hc204
          generalize grow (wr.drewN nq) osq = w2 at S2 ⊢
          clear nq osq
          have HI2 := Lib.hid (HI.out.left' HSW.out H1.out H2.out has (by omega) hp1 hp2 hci hcj hL)
          go_wp2
          go_roundg (r - (c + 1))
          case measure => omega
          case rel => exact ⟨c + 1, r, by go_num, rfl, Nat.le_refl _, S2, HI2⟩
        | true =>
          have ea205 : ((p : Int) - (c : Int)).toNat = p - c := by omega
          have pa205 : (0 : Int) ≤ (p : Int) - (c : Int) := by omega
          have ba205 : (p : Int) - (c : Int) < (d.size : Int) := by omega
          have ra205 : IntKind.i64.wrap ((p : Int) - (c : Int)) = (p : Int) - (c : Int) := by rw [IntKind.wrap_i64]; omega
          have ec205 : ((c : Int)).toNat = c := by omega
          have pc205 : (0 : Int) ≤ (c : Int) := by omega
          have bc205 : (c : Int) < (d.size : Int) := by omega
          have rc205 : IntKind.i64.wrap ((c : Int)) = (c : Int) := by rw [IntKind.wrap_i64]; omega
          obtain ⟨x205, hx205⟩ : ∃ x, x = d[p - c]! := ⟨_, rfl⟩
          obtain ⟨y205, hy205⟩ : ∃ x, x = d[c]! := ⟨_, rfl⟩
          have l205a := S1.out.ld R (by omega) P (p - c) (by omega)
          have l205b := S1.out.ld R (by omega) P (c) (by omega)
          rw [← hx205] at l205a
          rw [← hy205] at l205b
          have hc205 := S1.out.cmp HC.out (by omega) x205 y205
          have hv205 : cf x205 y205 < 0 := by rw [hx205, hy205]; exact of_decide_eq_true hL
          have hd205 : decide (cf x205 y205 < 0) = true := decide_eq_true hv205
          clear hx205 hy205
          go_wp2_with fail
          go_quiet_grown (first | (go_at_fn g; refine Calls.grown_of (hc205 _ _)))
          have S2 : Aside (SWK enc k w0 blk off d (grow (wr.drewN nq) osq)) := S1.out.grown nq osq
          clear l205a l205b hc205
          generalize grow (wr.drewN nq) osq = w2 at S2 ⊢
          clear nq osq
          have HI2 := Lib.hid (HI.out.right' HSW.out H1.out H2.out has (by omega) hp1 hp2 hci hcj hL)
          go_wp2
          go_roundg (c - s)
          case measure => omega
          case rel => exact ⟨s, c, rfl, rfl, Nat.le_refl _, S2, HI2⟩
      · obtain rfl : s = r := by omega
        have hltz : ¬ (s : Int) < (s : Int) := by omega
        obtain ⟨e, he⟩ : ∃ e, e = mid + m - s := ⟨_, rfl⟩
        have hme : m ≤ e := by have := HS0.out; omega
        have heb : e ≤ b := by have := HS0.out; omega
        have hsm : s ≤ m := by omega
        have hee : s + (e - m) = mid := by omega
        have hez : (mid : Int) + (m : Int) - (s : Int) = (e : Int) := by omega
        have K1 : Hid (s = a ∨ e = b ∨ ltOf cf d[e]! d[s - 1]! = false) := Lib.hid (by
          have h0 := HS0.out
          by_cases hx : s = s0
          · first | (right; left; omega) | (left; omega)
          · right; right
            have := HI.out.left (s - 1) (by omega) (by omega)
            rwa [show p - (s - 1) = e by omega] at this)
        have K2 : Hid (s = m ∨ e = m ∨ ltOf cf d[e - 1]! d[s]! = true) := Lib.hid (by
          by_cases hx : s = mid
          · first | (left; omega) | (right; left; omega)
          · right; right
            have := HI.out.right s (by omega) (by omega)
            rwa [show p - s = e - 1 by omega] at this)
        have HE := Lib.hid hee
        have HEz := Lib.hid hez
        clear hee he HI
        go_upto_region 39 with (fail)
        clear hez
        have hcs1 : (s < m ∧ m < e) ∨ ((¬ s < m) ∨ (s < m ∧ ¬ m < e)) := by omega
        rcases hcs1 with ⟨x1, x2⟩ | hno1
        · have x1z : (s : Int) < (m : Int) := by omega
          have x2z : (m : Int) < (e : Int) := by omega
          go_upto_region 41 with (go_at_fn 24; refine (HRot.out d wr _ _ _ s m e rfl rfl rfl R (by omega) S1.out x1 x2 (by omega) (by omega)).mono ?_; rintro e' w' ⟨rfl, d1, S2', z1, p1, r1⟩)
          have S2 : Aside (SWK enc k w0 blk off d1 w') := S2'
          have HP1 := Lib.hid p1
          have HX1 := Lib.hid r1
          clear S2' p1 r1
          have HQ := rot_parts H1.out H2.out (show a ≤ s by omega) hsm hme heb HX1.out
          have HA := rot_apart HSW.out H1.out H2.out (show a ≤ s by omega) hsm hme heb HX1.out K1.out K2.out
          rw [HE.out] at HQ HA
          have HQ1 := Lib.hid HQ.1
          have HQ2 := Lib.hid HQ.2.1
          have HQ3 := Lib.hid HQ.2.2.1
          have HQ4 := Lib.hid HQ.2.2.2
          have HSep := Lib.hid HA
          have hsmid : s ≤ mid := by have := HE.out; omega
          have hmide : mid ≤ e := by have := HE.out; omega
          clear HQ HA
          have hcs2 : (a < s ∧ s < mid) ∨ ((¬ a < s) ∨ (a < s ∧ ¬ s < mid)) := by omega
          rcases hcs2 with ⟨y1, y2⟩ | hno
          · have y1z : (a : Int) < (s : Int) := by omega
            have y2z : (s : Int) < (mid : Int) := by omega
            go_upto_region 43 with (go_at_fn 22; refine (IH.out d1 w' _ _ _ a s mid rfl rfl rfl (by omega) (by omega) S2.out y1 y2 (by omega) HQ1.out HQ2.out).mono ?_; rintro e' w' ⟨rfl, d2, S3', z2, p2, s2⟩)
            have S3 : Aside (SWK enc k w0 blk off d2 w') := S3'
            have HP2 := Lib.hid p2
            have HS2 := Lib.hid s2
            clear S3' p2 s2
            have hz2 : d2.size = d.size := HP2.out.1.trans HP1.out.1
            have hcs3 : (mid < e ∧ e < b) ∨ ((¬ mid < e) ∨ (mid < e ∧ ¬ e < b)) := by omega
            rcases hcs3 with ⟨v1, v2⟩ | hno3
            · have v1z : (mid : Int) < (e : Int) := by omega
              have v2z : (e : Int) < (b : Int) := by omega
              go_wp2_with (go_at_fn 22; refine (IH.out d2 w' _ _ _ mid e b rfl rfl rfl (by omega) hz2 S3.out v1 v2 (by omega) (sorted_keep HP2.out (Nat.le_refl _) HQ3.out) (sorted_keep HP2.out (by omega) HQ4.out)).mono ?_; rintro e' w' ⟨rfl, d3, S4', z3, p3, s3⟩)
              have S9 : Aside (SWK enc k w0 blk off d3 w') := S4'
              have HF9 := Lib.hid (sorted_halves (d' := d1) (show a ≤ mid by omega) (show mid ≤ b by omega) (by have := HP1.out.1; omega) HSep.out HP2.out HS2.out p3 s3)
              have HP9 := Lib.hid (permIn_trans _ _ _ _ _ (permIn_trans _ _ _ _ _ (permIn_mono d d1 s e a b (by omega) (by omega) (by omega) HP1.out) (permIn_mono d1 d2 a mid a b (by omega) (by omega) (by have := HP1.out.1; omega) HP2.out)) (permIn_mono d2 d3 mid b a b (by omega) (by omega) (by omega) p3))
              clear S4' z3 p3 s3
              go_wp2_with fail
              first | go_end0 | go_ret
              exact ⟨rfl, _, S9.out, HP9.out.1, HP9.out, HF9.out⟩
            · have HS3 : Hid (SortedIn (ltOf cf) mid b d2) := Lib.hid (sorted_join heb (by omega) (sorted_keep HP2.out (Nat.le_refl _) HQ3.out) (sorted_keep HP2.out (by omega) HQ4.out))
              have HF9 := Lib.hid (sorted_halves (d' := d1) (show a ≤ mid by omega) (show mid ≤ b by omega) (by have := HP1.out.1; omega) HSep.out HP2.out HS2.out (permIn_refl _ _ _) HS3.out)
              have HP9 := Lib.hid (permIn_trans _ _ _ _ _ (permIn_mono d d1 s e a b (by omega) (by omega) (by omega) HP1.out) (permIn_mono d1 d2 a mid a b (by omega) (by omega) (by have := HP1.out.1; omega) HP2.out))
              have S9 := S3
              clear hz2
              rcases hno3 with v1 | ⟨v1, v2⟩
              · have v1z : ¬ (mid : Int) < (e : Int) := by omega
                go_wp2_with fail
                first | go_end0 | go_ret
                exact ⟨rfl, _, S9.out, HP9.out.1, HP9.out, HF9.out⟩
              · have v1z : (mid : Int) < (e : Int) := by omega
                have v2z : ¬ (e : Int) < (b : Int) := by omega
                go_wp2_with fail
                first | go_end0 | go_ret
                exact ⟨rfl, _, S9.out, HP9.out.1, HP9.out, HF9.out⟩
          · have HP2 : Hid (PermIn a mid d1 d1) := Lib.hid (permIn_refl _ _ _)
            have HS2 : Hid (SortedIn (ltOf cf) a mid d1) := Lib.hid (sorted_join hsmid (by omega) HQ1.out HQ2.out)
            rcases hno with y1 | ⟨y1, y2⟩
            · have y1z : ¬ (a : Int) < (s : Int) := by omega
              go_upto_region 43 with (fail)
              have hz2 : d1.size = d.size := HP2.out.1.trans HP1.out.1
              have hcs3 : (mid < e ∧ e < b) ∨ ((¬ mid < e) ∨ (mid < e ∧ ¬ e < b)) := by omega
              rcases hcs3 with ⟨v1, v2⟩ | hno3
              · have v1z : (mid : Int) < (e : Int) := by omega
                have v2z : (e : Int) < (b : Int) := by omega
                go_wp2_with (go_at_fn 22; refine (IH.out d1 w' _ _ _ mid e b rfl rfl rfl (by omega) hz2 S2.out v1 v2 (by omega) (sorted_keep HP2.out (Nat.le_refl _) HQ3.out) (sorted_keep HP2.out (by omega) HQ4.out)).mono ?_; rintro e' w' ⟨rfl, d3, S4', z3, p3, s3⟩)
                have S9 : Aside (SWK enc k w0 blk off d3 w') := S4'
                have HF9 := Lib.hid (sorted_halves (d' := d1) (show a ≤ mid by omega) (show mid ≤ b by omega) (by have := HP1.out.1; omega) HSep.out HP2.out HS2.out p3 s3)
                have HP9 := Lib.hid (permIn_trans _ _ _ _ _ (permIn_trans _ _ _ _ _ (permIn_mono d d1 s e a b (by omega) (by omega) (by omega) HP1.out) (permIn_mono d1 d1 a mid a b (by omega) (by omega) (by have := HP1.out.1; omega) HP2.out)) (permIn_mono d1 d3 mid b a b (by omega) (by omega) (by omega) p3))
                clear S4' z3 p3 s3
                go_wp2_with fail
                first | go_end0 | go_ret
                exact ⟨rfl, _, S9.out, HP9.out.1, HP9.out, HF9.out⟩
              · have HS3 : Hid (SortedIn (ltOf cf) mid b d1) := Lib.hid (sorted_join heb (by omega) (sorted_keep HP2.out (Nat.le_refl _) HQ3.out) (sorted_keep HP2.out (by omega) HQ4.out))
                have HF9 := Lib.hid (sorted_halves (d' := d1) (show a ≤ mid by omega) (show mid ≤ b by omega) (by have := HP1.out.1; omega) HSep.out HP2.out HS2.out (permIn_refl _ _ _) HS3.out)
                have HP9 := Lib.hid (permIn_trans _ _ _ _ _ (permIn_mono d d1 s e a b (by omega) (by omega) (by omega) HP1.out) (permIn_mono d1 d1 a mid a b (by omega) (by omega) (by have := HP1.out.1; omega) HP2.out))
                have S9 := S2
                clear hz2
                rcases hno3 with v1 | ⟨v1, v2⟩
                · have v1z : ¬ (mid : Int) < (e : Int) := by omega
                  go_wp2_with fail
                  first | go_end0 | go_ret
                  exact ⟨rfl, _, S9.out, HP9.out.1, HP9.out, HF9.out⟩
                · have v1z : (mid : Int) < (e : Int) := by omega
                  have v2z : ¬ (e : Int) < (b : Int) := by omega
                  go_wp2_with fail
                  first | go_end0 | go_ret
                  exact ⟨rfl, _, S9.out, HP9.out.1, HP9.out, HF9.out⟩
            · have y1z : (a : Int) < (s : Int) := by omega
              have y2z : ¬ (s : Int) < (mid : Int) := by omega
              go_upto_region 43 with (fail)
              have hz2 : d1.size = d.size := HP2.out.1.trans HP1.out.1
              have hcs3 : (mid < e ∧ e < b) ∨ ((¬ mid < e) ∨ (mid < e ∧ ¬ e < b)) := by omega
              rcases hcs3 with ⟨v1, v2⟩ | hno3
              · have v1z : (mid : Int) < (e : Int) := by omega
                have v2z : (e : Int) < (b : Int) := by omega
                go_wp2_with (go_at_fn 22; refine (IH.out d1 w' _ _ _ mid e b rfl rfl rfl (by omega) hz2 S2.out v1 v2 (by omega) (sorted_keep HP2.out (Nat.le_refl _) HQ3.out) (sorted_keep HP2.out (by omega) HQ4.out)).mono ?_; rintro e' w' ⟨rfl, d3, S4', z3, p3, s3⟩)
                have S9 : Aside (SWK enc k w0 blk off d3 w') := S4'
                have HF9 := Lib.hid (sorted_halves (d' := d1) (show a ≤ mid by omega) (show mid ≤ b by omega) (by have := HP1.out.1; omega) HSep.out HP2.out HS2.out p3 s3)
                have HP9 := Lib.hid (permIn_trans _ _ _ _ _ (permIn_trans _ _ _ _ _ (permIn_mono d d1 s e a b (by omega) (by omega) (by omega) HP1.out) (permIn_mono d1 d1 a mid a b (by omega) (by omega) (by have := HP1.out.1; omega) HP2.out)) (permIn_mono d1 d3 mid b a b (by omega) (by omega) (by omega) p3))
                clear S4' z3 p3 s3
                go_wp2_with fail
                first | go_end0 | go_ret
                exact ⟨rfl, _, S9.out, HP9.out.1, HP9.out, HF9.out⟩
              · have HS3 : Hid (SortedIn (ltOf cf) mid b d1) := Lib.hid (sorted_join heb (by omega) (sorted_keep HP2.out (Nat.le_refl _) HQ3.out) (sorted_keep HP2.out (by omega) HQ4.out))
                have HF9 := Lib.hid (sorted_halves (d' := d1) (show a ≤ mid by omega) (show mid ≤ b by omega) (by have := HP1.out.1; omega) HSep.out HP2.out HS2.out (permIn_refl _ _ _) HS3.out)
                have HP9 := Lib.hid (permIn_trans _ _ _ _ _ (permIn_mono d d1 s e a b (by omega) (by omega) (by omega) HP1.out) (permIn_mono d1 d1 a mid a b (by omega) (by omega) (by have := HP1.out.1; omega) HP2.out))
                have S9 := S2
                clear hz2
                rcases hno3 with v1 | ⟨v1, v2⟩
                · have v1z : ¬ (mid : Int) < (e : Int) := by omega
                  go_wp2_with fail
                  first | go_end0 | go_ret
                  exact ⟨rfl, _, S9.out, HP9.out.1, HP9.out, HF9.out⟩
                · have v1z : (mid : Int) < (e : Int) := by omega
                  have v2z : ¬ (e : Int) < (b : Int) := by omega
                  go_wp2_with fail
                  first | go_end0 | go_ret
                  exact ⟨rfl, _, S9.out, HP9.out.1, HP9.out, HF9.out⟩
        · have HP1 : Hid (PermIn s e d d) := Lib.hid (permIn_refl _ _ _)
          have HX1 : Hid (∀ q, d[q]! = rotS (fun i => d[i]!) s m e q) := Lib.hid fun q => (rot_none _ s m e hsm hme (by omega) q).symm
          rcases hno1 with x1 | ⟨x1, x2⟩
          · have x1z : ¬ (s : Int) < (m : Int) := by omega
            go_upto_region 41 with (fail)
            have HQ := rot_parts H1.out H2.out (show a ≤ s by omega) hsm hme heb HX1.out
            have HA := rot_apart HSW.out H1.out H2.out (show a ≤ s by omega) hsm hme heb HX1.out K1.out K2.out
            rw [HE.out] at HQ HA
            have HQ1 := Lib.hid HQ.1
            have HQ2 := Lib.hid HQ.2.1
            have HQ3 := Lib.hid HQ.2.2.1
            have HQ4 := Lib.hid HQ.2.2.2
            have HSep := Lib.hid HA
            have hsmid : s ≤ mid := by have := HE.out; omega
            have hmide : mid ≤ e := by have := HE.out; omega
            clear HQ HA
            have hcs2 : (a < s ∧ s < mid) ∨ ((¬ a < s) ∨ (a < s ∧ ¬ s < mid)) := by omega
            rcases hcs2 with ⟨y1, y2⟩ | hno
            · have y1z : (a : Int) < (s : Int) := by omega
              have y2z : (s : Int) < (mid : Int) := by omega
              go_upto_region 43 with (go_at_fn 22; refine (IH.out d wr _ _ _ a s mid rfl rfl rfl (by omega) (by omega) S1.out y1 y2 (by omega) HQ1.out HQ2.out).mono ?_; rintro e' w' ⟨rfl, d2, S3', z2, p2, s2⟩)
              have S3 : Aside (SWK enc k w0 blk off d2 w') := S3'
              have HP2 := Lib.hid p2
              have HS2 := Lib.hid s2
              clear S3' p2 s2
              have hz2 : d2.size = d.size := HP2.out.1.trans HP1.out.1
              have hcs3 : (mid < e ∧ e < b) ∨ ((¬ mid < e) ∨ (mid < e ∧ ¬ e < b)) := by omega
              rcases hcs3 with ⟨v1, v2⟩ | hno3
              · have v1z : (mid : Int) < (e : Int) := by omega
                have v2z : (e : Int) < (b : Int) := by omega
                go_wp2_with (go_at_fn 22; refine (IH.out d2 w' _ _ _ mid e b rfl rfl rfl (by omega) hz2 S3.out v1 v2 (by omega) (sorted_keep HP2.out (Nat.le_refl _) HQ3.out) (sorted_keep HP2.out (by omega) HQ4.out)).mono ?_; rintro e' w' ⟨rfl, d3, S4', z3, p3, s3⟩)
                have S9 : Aside (SWK enc k w0 blk off d3 w') := S4'
                have HF9 := Lib.hid (sorted_halves (d' := d) (show a ≤ mid by omega) (show mid ≤ b by omega) (by have := HP1.out.1; omega) HSep.out HP2.out HS2.out p3 s3)
                have HP9 := Lib.hid (permIn_trans _ _ _ _ _ (permIn_trans _ _ _ _ _ (permIn_mono d d s e a b (by omega) (by omega) (by omega) HP1.out) (permIn_mono d d2 a mid a b (by omega) (by omega) (by have := HP1.out.1; omega) HP2.out)) (permIn_mono d2 d3 mid b a b (by omega) (by omega) (by omega) p3))
                clear S4' z3 p3 s3
                go_wp2_with fail
                first | go_end0 | go_ret
                exact ⟨rfl, _, S9.out, HP9.out.1, HP9.out, HF9.out⟩
              · have HS3 : Hid (SortedIn (ltOf cf) mid b d2) := Lib.hid (sorted_join heb (by omega) (sorted_keep HP2.out (Nat.le_refl _) HQ3.out) (sorted_keep HP2.out (by omega) HQ4.out))
                have HF9 := Lib.hid (sorted_halves (d' := d) (show a ≤ mid by omega) (show mid ≤ b by omega) (by have := HP1.out.1; omega) HSep.out HP2.out HS2.out (permIn_refl _ _ _) HS3.out)
                have HP9 := Lib.hid (permIn_trans _ _ _ _ _ (permIn_mono d d s e a b (by omega) (by omega) (by omega) HP1.out) (permIn_mono d d2 a mid a b (by omega) (by omega) (by have := HP1.out.1; omega) HP2.out))
                have S9 := S3
                clear hz2
                rcases hno3 with v1 | ⟨v1, v2⟩
                · have v1z : ¬ (mid : Int) < (e : Int) := by omega
                  go_wp2_with fail
                  first | go_end0 | go_ret
                  exact ⟨rfl, _, S9.out, HP9.out.1, HP9.out, HF9.out⟩
                · have v1z : (mid : Int) < (e : Int) := by omega
                  have v2z : ¬ (e : Int) < (b : Int) := by omega
                  go_wp2_with fail
                  first | go_end0 | go_ret
                  exact ⟨rfl, _, S9.out, HP9.out.1, HP9.out, HF9.out⟩
            · have HP2 : Hid (PermIn a mid d d) := Lib.hid (permIn_refl _ _ _)
              have HS2 : Hid (SortedIn (ltOf cf) a mid d) := Lib.hid (sorted_join hsmid (by omega) HQ1.out HQ2.out)
              rcases hno with y1 | ⟨y1, y2⟩
              · have y1z : ¬ (a : Int) < (s : Int) := by omega
                go_upto_region 43 with (fail)
                have hz2 : d.size = d.size := HP2.out.1.trans HP1.out.1
                have hcs3 : (mid < e ∧ e < b) ∨ ((¬ mid < e) ∨ (mid < e ∧ ¬ e < b)) := by omega
                rcases hcs3 with ⟨v1, v2⟩ | hno3
                · have v1z : (mid : Int) < (e : Int) := by omega
                  have v2z : (e : Int) < (b : Int) := by omega
                  go_wp2_with (go_at_fn 22; refine (IH.out d wr _ _ _ mid e b rfl rfl rfl (by omega) hz2 S1.out v1 v2 (by omega) (sorted_keep HP2.out (Nat.le_refl _) HQ3.out) (sorted_keep HP2.out (by omega) HQ4.out)).mono ?_; rintro e' w' ⟨rfl, d3, S4', z3, p3, s3⟩)
                  have S9 : Aside (SWK enc k w0 blk off d3 w') := S4'
                  have HF9 := Lib.hid (sorted_halves (d' := d) (show a ≤ mid by omega) (show mid ≤ b by omega) (by have := HP1.out.1; omega) HSep.out HP2.out HS2.out p3 s3)
                  have HP9 := Lib.hid (permIn_trans _ _ _ _ _ (permIn_trans _ _ _ _ _ (permIn_mono d d s e a b (by omega) (by omega) (by omega) HP1.out) (permIn_mono d d a mid a b (by omega) (by omega) (by have := HP1.out.1; omega) HP2.out)) (permIn_mono d d3 mid b a b (by omega) (by omega) (by omega) p3))
                  clear S4' z3 p3 s3
                  go_wp2_with fail
                  first | go_end0 | go_ret
                  exact ⟨rfl, _, S9.out, HP9.out.1, HP9.out, HF9.out⟩
                · have HS3 : Hid (SortedIn (ltOf cf) mid b d) := Lib.hid (sorted_join heb (by omega) (sorted_keep HP2.out (Nat.le_refl _) HQ3.out) (sorted_keep HP2.out (by omega) HQ4.out))
                  have HF9 := Lib.hid (sorted_halves (d' := d) (show a ≤ mid by omega) (show mid ≤ b by omega) (by have := HP1.out.1; omega) HSep.out HP2.out HS2.out (permIn_refl _ _ _) HS3.out)
                  have HP9 := Lib.hid (permIn_trans _ _ _ _ _ (permIn_mono d d s e a b (by omega) (by omega) (by omega) HP1.out) (permIn_mono d d a mid a b (by omega) (by omega) (by have := HP1.out.1; omega) HP2.out))
                  have S9 := S1
                  clear hz2
                  rcases hno3 with v1 | ⟨v1, v2⟩
                  · have v1z : ¬ (mid : Int) < (e : Int) := by omega
                    go_wp2_with fail
                    first | go_end0 | go_ret
                    exact ⟨rfl, _, S9.out, HP9.out.1, HP9.out, HF9.out⟩
                  · have v1z : (mid : Int) < (e : Int) := by omega
                    have v2z : ¬ (e : Int) < (b : Int) := by omega
                    go_wp2_with fail
                    first | go_end0 | go_ret
                    exact ⟨rfl, _, S9.out, HP9.out.1, HP9.out, HF9.out⟩
              · have y1z : (a : Int) < (s : Int) := by omega
                have y2z : ¬ (s : Int) < (mid : Int) := by omega
                go_upto_region 43 with (fail)
                have hz2 : d.size = d.size := HP2.out.1.trans HP1.out.1
                have hcs3 : (mid < e ∧ e < b) ∨ ((¬ mid < e) ∨ (mid < e ∧ ¬ e < b)) := by omega
                rcases hcs3 with ⟨v1, v2⟩ | hno3
                · have v1z : (mid : Int) < (e : Int) := by omega
                  have v2z : (e : Int) < (b : Int) := by omega
                  go_wp2_with (go_at_fn 22; refine (IH.out d wr _ _ _ mid e b rfl rfl rfl (by omega) hz2 S1.out v1 v2 (by omega) (sorted_keep HP2.out (Nat.le_refl _) HQ3.out) (sorted_keep HP2.out (by omega) HQ4.out)).mono ?_; rintro e' w' ⟨rfl, d3, S4', z3, p3, s3⟩)
                  have S9 : Aside (SWK enc k w0 blk off d3 w') := S4'
                  have HF9 := Lib.hid (sorted_halves (d' := d) (show a ≤ mid by omega) (show mid ≤ b by omega) (by have := HP1.out.1; omega) HSep.out HP2.out HS2.out p3 s3)
                  have HP9 := Lib.hid (permIn_trans _ _ _ _ _ (permIn_trans _ _ _ _ _ (permIn_mono d d s e a b (by omega) (by omega) (by omega) HP1.out) (permIn_mono d d a mid a b (by omega) (by omega) (by have := HP1.out.1; omega) HP2.out)) (permIn_mono d d3 mid b a b (by omega) (by omega) (by omega) p3))
                  clear S4' z3 p3 s3
                  go_wp2_with fail
                  first | go_end0 | go_ret
                  exact ⟨rfl, _, S9.out, HP9.out.1, HP9.out, HF9.out⟩
                · have HS3 : Hid (SortedIn (ltOf cf) mid b d) := Lib.hid (sorted_join heb (by omega) (sorted_keep HP2.out (Nat.le_refl _) HQ3.out) (sorted_keep HP2.out (by omega) HQ4.out))
                  have HF9 := Lib.hid (sorted_halves (d' := d) (show a ≤ mid by omega) (show mid ≤ b by omega) (by have := HP1.out.1; omega) HSep.out HP2.out HS2.out (permIn_refl _ _ _) HS3.out)
                  have HP9 := Lib.hid (permIn_trans _ _ _ _ _ (permIn_mono d d s e a b (by omega) (by omega) (by omega) HP1.out) (permIn_mono d d a mid a b (by omega) (by omega) (by have := HP1.out.1; omega) HP2.out))
                  have S9 := S1
                  clear hz2
                  rcases hno3 with v1 | ⟨v1, v2⟩
                  · have v1z : ¬ (mid : Int) < (e : Int) := by omega
                    go_wp2_with fail
                    first | go_end0 | go_ret
                    exact ⟨rfl, _, S9.out, HP9.out.1, HP9.out, HF9.out⟩
                  · have v1z : (mid : Int) < (e : Int) := by omega
                    have v2z : ¬ (e : Int) < (b : Int) := by omega
                    go_wp2_with fail
                    first | go_end0 | go_ret
                    exact ⟨rfl, _, S9.out, HP9.out.1, HP9.out, HF9.out⟩
          · have x1z : (s : Int) < (m : Int) := by omega
            have x2z : ¬ (m : Int) < (e : Int) := by omega
            go_upto_region 41 with (fail)
            have HQ := rot_parts H1.out H2.out (show a ≤ s by omega) hsm hme heb HX1.out
            have HA := rot_apart HSW.out H1.out H2.out (show a ≤ s by omega) hsm hme heb HX1.out K1.out K2.out
            rw [HE.out] at HQ HA
            have HQ1 := Lib.hid HQ.1
            have HQ2 := Lib.hid HQ.2.1
            have HQ3 := Lib.hid HQ.2.2.1
            have HQ4 := Lib.hid HQ.2.2.2
            have HSep := Lib.hid HA
            have hsmid : s ≤ mid := by have := HE.out; omega
            have hmide : mid ≤ e := by have := HE.out; omega
            clear HQ HA
            have hcs2 : (a < s ∧ s < mid) ∨ ((¬ a < s) ∨ (a < s ∧ ¬ s < mid)) := by omega
            rcases hcs2 with ⟨y1, y2⟩ | hno
            · have y1z : (a : Int) < (s : Int) := by omega
              have y2z : (s : Int) < (mid : Int) := by omega
              go_upto_region 43 with (go_at_fn 22; refine (IH.out d wr _ _ _ a s mid rfl rfl rfl (by omega) (by omega) S1.out y1 y2 (by omega) HQ1.out HQ2.out).mono ?_; rintro e' w' ⟨rfl, d2, S3', z2, p2, s2⟩)
              have S3 : Aside (SWK enc k w0 blk off d2 w') := S3'
              have HP2 := Lib.hid p2
              have HS2 := Lib.hid s2
              clear S3' p2 s2
              have hz2 : d2.size = d.size := HP2.out.1.trans HP1.out.1
              have hcs3 : (mid < e ∧ e < b) ∨ ((¬ mid < e) ∨ (mid < e ∧ ¬ e < b)) := by omega
              rcases hcs3 with ⟨v1, v2⟩ | hno3
              · have v1z : (mid : Int) < (e : Int) := by omega
                have v2z : (e : Int) < (b : Int) := by omega
                go_wp2_with (go_at_fn 22; refine (IH.out d2 w' _ _ _ mid e b rfl rfl rfl (by omega) hz2 S3.out v1 v2 (by omega) (sorted_keep HP2.out (Nat.le_refl _) HQ3.out) (sorted_keep HP2.out (by omega) HQ4.out)).mono ?_; rintro e' w' ⟨rfl, d3, S4', z3, p3, s3⟩)
                have S9 : Aside (SWK enc k w0 blk off d3 w') := S4'
                have HF9 := Lib.hid (sorted_halves (d' := d) (show a ≤ mid by omega) (show mid ≤ b by omega) (by have := HP1.out.1; omega) HSep.out HP2.out HS2.out p3 s3)
                have HP9 := Lib.hid (permIn_trans _ _ _ _ _ (permIn_trans _ _ _ _ _ (permIn_mono d d s e a b (by omega) (by omega) (by omega) HP1.out) (permIn_mono d d2 a mid a b (by omega) (by omega) (by have := HP1.out.1; omega) HP2.out)) (permIn_mono d2 d3 mid b a b (by omega) (by omega) (by omega) p3))
                clear S4' z3 p3 s3
                go_wp2_with fail
                first | go_end0 | go_ret
                exact ⟨rfl, _, S9.out, HP9.out.1, HP9.out, HF9.out⟩
              · have HS3 : Hid (SortedIn (ltOf cf) mid b d2) := Lib.hid (sorted_join heb (by omega) (sorted_keep HP2.out (Nat.le_refl _) HQ3.out) (sorted_keep HP2.out (by omega) HQ4.out))
                have HF9 := Lib.hid (sorted_halves (d' := d) (show a ≤ mid by omega) (show mid ≤ b by omega) (by have := HP1.out.1; omega) HSep.out HP2.out HS2.out (permIn_refl _ _ _) HS3.out)
                have HP9 := Lib.hid (permIn_trans _ _ _ _ _ (permIn_mono d d s e a b (by omega) (by omega) (by omega) HP1.out) (permIn_mono d d2 a mid a b (by omega) (by omega) (by have := HP1.out.1; omega) HP2.out))
                have S9 := S3
                clear hz2
                rcases hno3 with v1 | ⟨v1, v2⟩
                · have v1z : ¬ (mid : Int) < (e : Int) := by omega
                  go_wp2_with fail
                  first | go_end0 | go_ret
                  exact ⟨rfl, _, S9.out, HP9.out.1, HP9.out, HF9.out⟩
                · have v1z : (mid : Int) < (e : Int) := by omega
                  have v2z : ¬ (e : Int) < (b : Int) := by omega
                  go_wp2_with fail
                  first | go_end0 | go_ret
                  exact ⟨rfl, _, S9.out, HP9.out.1, HP9.out, HF9.out⟩
            · have HP2 : Hid (PermIn a mid d d) := Lib.hid (permIn_refl _ _ _)
              have HS2 : Hid (SortedIn (ltOf cf) a mid d) := Lib.hid (sorted_join hsmid (by omega) HQ1.out HQ2.out)
              rcases hno with y1 | ⟨y1, y2⟩
              · have y1z : ¬ (a : Int) < (s : Int) := by omega
                go_upto_region 43 with (fail)
                have hz2 : d.size = d.size := HP2.out.1.trans HP1.out.1
                have hcs3 : (mid < e ∧ e < b) ∨ ((¬ mid < e) ∨ (mid < e ∧ ¬ e < b)) := by omega
                rcases hcs3 with ⟨v1, v2⟩ | hno3
                · have v1z : (mid : Int) < (e : Int) := by omega
                  have v2z : (e : Int) < (b : Int) := by omega
                  go_wp2_with (go_at_fn 22; refine (IH.out d wr _ _ _ mid e b rfl rfl rfl (by omega) hz2 S1.out v1 v2 (by omega) (sorted_keep HP2.out (Nat.le_refl _) HQ3.out) (sorted_keep HP2.out (by omega) HQ4.out)).mono ?_; rintro e' w' ⟨rfl, d3, S4', z3, p3, s3⟩)
                  have S9 : Aside (SWK enc k w0 blk off d3 w') := S4'
                  have HF9 := Lib.hid (sorted_halves (d' := d) (show a ≤ mid by omega) (show mid ≤ b by omega) (by have := HP1.out.1; omega) HSep.out HP2.out HS2.out p3 s3)
                  have HP9 := Lib.hid (permIn_trans _ _ _ _ _ (permIn_trans _ _ _ _ _ (permIn_mono d d s e a b (by omega) (by omega) (by omega) HP1.out) (permIn_mono d d a mid a b (by omega) (by omega) (by have := HP1.out.1; omega) HP2.out)) (permIn_mono d d3 mid b a b (by omega) (by omega) (by omega) p3))
                  clear S4' z3 p3 s3
                  go_wp2_with fail
                  first | go_end0 | go_ret
                  exact ⟨rfl, _, S9.out, HP9.out.1, HP9.out, HF9.out⟩
                · have HS3 : Hid (SortedIn (ltOf cf) mid b d) := Lib.hid (sorted_join heb (by omega) (sorted_keep HP2.out (Nat.le_refl _) HQ3.out) (sorted_keep HP2.out (by omega) HQ4.out))
                  have HF9 := Lib.hid (sorted_halves (d' := d) (show a ≤ mid by omega) (show mid ≤ b by omega) (by have := HP1.out.1; omega) HSep.out HP2.out HS2.out (permIn_refl _ _ _) HS3.out)
                  have HP9 := Lib.hid (permIn_trans _ _ _ _ _ (permIn_mono d d s e a b (by omega) (by omega) (by omega) HP1.out) (permIn_mono d d a mid a b (by omega) (by omega) (by have := HP1.out.1; omega) HP2.out))
                  have S9 := S1
                  clear hz2
                  rcases hno3 with v1 | ⟨v1, v2⟩
                  · have v1z : ¬ (mid : Int) < (e : Int) := by omega
                    go_wp2_with fail
                    first | go_end0 | go_ret
                    exact ⟨rfl, _, S9.out, HP9.out.1, HP9.out, HF9.out⟩
                  · have v1z : (mid : Int) < (e : Int) := by omega
                    have v2z : ¬ (e : Int) < (b : Int) := by omega
                    go_wp2_with fail
                    first | go_end0 | go_ret
                    exact ⟨rfl, _, S9.out, HP9.out.1, HP9.out, HF9.out⟩
              · have y1z : (a : Int) < (s : Int) := by omega
                have y2z : ¬ (s : Int) < (mid : Int) := by omega
                go_upto_region 43 with (fail)
                have hz2 : d.size = d.size := HP2.out.1.trans HP1.out.1
                have hcs3 : (mid < e ∧ e < b) ∨ ((¬ mid < e) ∨ (mid < e ∧ ¬ e < b)) := by omega
                rcases hcs3 with ⟨v1, v2⟩ | hno3
                · have v1z : (mid : Int) < (e : Int) := by omega
                  have v2z : (e : Int) < (b : Int) := by omega
                  go_wp2_with (go_at_fn 22; refine (IH.out d wr _ _ _ mid e b rfl rfl rfl (by omega) hz2 S1.out v1 v2 (by omega) (sorted_keep HP2.out (Nat.le_refl _) HQ3.out) (sorted_keep HP2.out (by omega) HQ4.out)).mono ?_; rintro e' w' ⟨rfl, d3, S4', z3, p3, s3⟩)
                  have S9 : Aside (SWK enc k w0 blk off d3 w') := S4'
                  have HF9 := Lib.hid (sorted_halves (d' := d) (show a ≤ mid by omega) (show mid ≤ b by omega) (by have := HP1.out.1; omega) HSep.out HP2.out HS2.out p3 s3)
                  have HP9 := Lib.hid (permIn_trans _ _ _ _ _ (permIn_trans _ _ _ _ _ (permIn_mono d d s e a b (by omega) (by omega) (by omega) HP1.out) (permIn_mono d d a mid a b (by omega) (by omega) (by have := HP1.out.1; omega) HP2.out)) (permIn_mono d d3 mid b a b (by omega) (by omega) (by omega) p3))
                  clear S4' z3 p3 s3
                  go_wp2_with fail
                  first | go_end0 | go_ret
                  exact ⟨rfl, _, S9.out, HP9.out.1, HP9.out, HF9.out⟩
                · have HS3 : Hid (SortedIn (ltOf cf) mid b d) := Lib.hid (sorted_join heb (by omega) (sorted_keep HP2.out (Nat.le_refl _) HQ3.out) (sorted_keep HP2.out (by omega) HQ4.out))
                  have HF9 := Lib.hid (sorted_halves (d' := d) (show a ≤ mid by omega) (show mid ≤ b by omega) (by have := HP1.out.1; omega) HSep.out HP2.out HS2.out (permIn_refl _ _ _) HS3.out)
                  have HP9 := Lib.hid (permIn_trans _ _ _ _ _ (permIn_mono d d s e a b (by omega) (by omega) (by omega) HP1.out) (permIn_mono d d a mid a b (by omega) (by omega) (by have := HP1.out.1; omega) HP2.out))
                  have S9 := S1
                  clear hz2
                  rcases hno3 with v1 | ⟨v1, v2⟩
                  · have v1z : ¬ (mid : Int) < (e : Int) := by omega
                    go_wp2_with fail
                    first | go_end0 | go_ret
                    exact ⟨rfl, _, S9.out, HP9.out.1, HP9.out, HF9.out⟩
                  · have v1z : (mid : Int) < (e : Int) := by omega
                    have v2z : ¬ (e : Int) < (b : Int) := by omega
                    go_wp2_with fail
                    first | go_end0 | go_ret
                    exact ⟨rfl, _, S9.out, HP9.out.1, HP9.out, HF9.out⟩
  · have c3z : ¬ (mid : Int) < (m : Int) := by omega
    have S1 := S0
    obtain ⟨s0, hs0⟩ : ∃ s0, s0 = a := ⟨_, rfl⟩
    obtain ⟨p, hp⟩ : ∃ p, p = mid + m - 1 := ⟨_, rfl⟩
    have hsr : s0 ≤ m := by omega
    have has : a ≤ s0 := by omega
    have HS0 := Lib.hid hs0
    have hpz : (mid : Int) + (m : Int) - 1 = (p : Int) := by omega
    have hp1 : p < b + s0 := by omega
    have hp2 : m + m ≤ p + 1 := by omega
    have hp3 : p + 1 ≤ mid + m := by omega
    have hp4 : mid + m ≤ p + 1 := by omega
    clear hp hs0
    obtain rfl : a = s0 := HS0.out.symm
    go_wp2_with fail
    clear hpz
    go_loopg [20, 21] (m - a) (fun kx s20 s21 wr => ∃ (s r : Nat), s20 = .int .i64 s ∧ s21 = .int .i64 r ∧ r - s ≤ kx ∧ Aside (SWK enc k w0 blk off d wr) ∧ Hid (SymIn (ltOf cf) d p a m s r))
    case atStart => exact ⟨a, m, rfl, rfl, by omega, S1, Lib.hid (SymIn.start hsr)⟩
    case round =>
      clear S0 S1
      obtain ⟨s, r, rfl, rfl, hkx, S1, HI⟩ := hrel
      have hlo := HI.out.lo
      have hmi := HI.out.mid
      have hhi := HI.out.hi
      by_cases hlt : s < r
      · have hltz : (s : Int) < (r : Int) := by omega
        obtain ⟨c, hc⟩ : ∃ c, c = (s + r) / 2 := ⟨_, rfl⟩
        have hci : s ≤ c := by omega
        have hcj : c < r := by omega
        go_upto_region 35 with (fail)
        have hcz : ((s : Int) + (r : Int)) / 2 = (c : Int) := by omega
        rw [hcz]
        clear hcz hc
        have hcp : (c : Int) ≤ (p : Int) := by omega
        have hcq : (p : Int) < (d.size : Int) + (c : Int) := by omega
        cases hL : ltOf cf d[p - c]! d[c]! with
        | false =>
          have ea206 : ((p : Int) - (c : Int)).toNat = p - c := by omega
          have pa206 : (0 : Int) ≤ (p : Int) - (c : Int) := by omega
          have ba206 : (p : Int) - (c : Int) < (d.size : Int) := by omega
          have ra206 : IntKind.i64.wrap ((p : Int) - (c : Int)) = (p : Int) - (c : Int) := by rw [IntKind.wrap_i64]; omega
          have ec206 : ((c : Int)).toNat = c := by omega
          have pc206 : (0 : Int) ≤ (c : Int) := by omega
          have bc206 : (c : Int) < (d.size : Int) := by omega
          have rc206 : IntKind.i64.wrap ((c : Int)) = (c : Int) := by rw [IntKind.wrap_i64]; omega
          obtain ⟨x206, hx206⟩ : ∃ x, x = d[p - c]! := ⟨_, rfl⟩
          obtain ⟨y206, hy206⟩ : ∃ x, x = d[c]! := ⟨_, rfl⟩
          have l206a := S1.out.ld R (by omega) P (p - c) (by omega)
          have l206b := S1.out.ld R (by omega) P (c) (by omega)
          rw [← hx206] at l206a
          rw [← hy206] at l206b
          have hc206 := S1.out.cmp HC.out (by omega) x206 y206
          have hv206 : ¬ cf x206 y206 < 0 := by rw [hx206, hy206]; exact of_decide_eq_false hL
          have hd206 : decide (cf x206 y206 < 0) = false := decide_eq_false hv206
          clear hx206 hy206
          go_wp2_with fail
          go_quiet_grown (first | (go_at_fn g; refine Calls.grown_of (hc206 _ _)))
          have S2 : Aside (SWK enc k w0 blk off d (grow (wr.drewN nq) osq)) := S1.out.grown nq osq
          clear l206a l206b hc206
          generalize grow (wr.drewN nq) osq = w2 at S2 ⊢
          clear nq osq
          have HI2 := Lib.hid (HI.out.left' HSW.out H1.out H2.out has (by omega) hp1 hp2 hci hcj hL)
          go_wp2
          go_roundg (r - (c + 1))
          case measure => omega
          case rel => exact ⟨c + 1, r, by go_num, rfl, Nat.le_refl _, S2, HI2⟩
        | true =>
          have ea207 : ((p : Int) - (c : Int)).toNat = p - c := by omega
          have pa207 : (0 : Int) ≤ (p : Int) - (c : Int) := by omega
          have ba207 : (p : Int) - (c : Int) < (d.size : Int) := by omega
          have ra207 : IntKind.i64.wrap ((p : Int) - (c : Int)) = (p : Int) - (c : Int) := by rw [IntKind.wrap_i64]; omega
          have ec207 : ((c : Int)).toNat = c := by omega
          have pc207 : (0 : Int) ≤ (c : Int) := by omega
          have bc207 : (c : Int) < (d.size : Int) := by omega
          have rc207 : IntKind.i64.wrap ((c : Int)) = (c : Int) := by rw [IntKind.wrap_i64]; omega
          obtain ⟨x207, hx207⟩ : ∃ x, x = d[p - c]! := ⟨_, rfl⟩
          obtain ⟨y207, hy207⟩ : ∃ x, x = d[c]! := ⟨_, rfl⟩
          have l207a := S1.out.ld R (by omega) P (p - c) (by omega)
          have l207b := S1.out.ld R (by omega) P (c) (by omega)
          rw [← hx207] at l207a
          rw [← hy207] at l207b
          have hc207 := S1.out.cmp HC.out (by omega) x207 y207
          have hv207 : cf x207 y207 < 0 := by rw [hx207, hy207]; exact of_decide_eq_true hL
          have hd207 : decide (cf x207 y207 < 0) = true := decide_eq_true hv207
          clear hx207 hy207
          go_wp2_with fail
          go_quiet_grown (first | (go_at_fn g; refine Calls.grown_of (hc207 _ _)))
          have S2 : Aside (SWK enc k w0 blk off d (grow (wr.drewN nq) osq)) := S1.out.grown nq osq
          clear l207a l207b hc207
          generalize grow (wr.drewN nq) osq = w2 at S2 ⊢
          clear nq osq
          have HI2 := Lib.hid (HI.out.right' HSW.out H1.out H2.out has (by omega) hp1 hp2 hci hcj hL)
          go_wp2
          go_roundg (c - s)
          case measure => omega
          case rel => exact ⟨s, c, rfl, rfl, Nat.le_refl _, S2, HI2⟩
      · obtain rfl : s = r := by omega
        have hltz : ¬ (s : Int) < (s : Int) := by omega
        obtain ⟨e, he⟩ : ∃ e, e = mid + m - s := ⟨_, rfl⟩
        have hme : m ≤ e := by have := HS0.out; omega
        have heb : e ≤ b := by have := HS0.out; omega
        have hsm : s ≤ m := by omega
        have hee : s + (e - m) = mid := by omega
        have hez : (mid : Int) + (m : Int) - (s : Int) = (e : Int) := by omega
        have K1 : Hid (s = a ∨ e = b ∨ ltOf cf d[e]! d[s - 1]! = false) := Lib.hid (by
          have h0 := HS0.out
          by_cases hx : s = a
          · first | (right; left; omega) | (left; omega)
          · right; right
            have := HI.out.left (s - 1) (by omega) (by omega)
            rwa [show p - (s - 1) = e by omega] at this)
        have K2 : Hid (s = m ∨ e = m ∨ ltOf cf d[e - 1]! d[s]! = true) := Lib.hid (by
          by_cases hx : s = m
          · first | (left; omega) | (right; left; omega)
          · right; right
            have := HI.out.right s (by omega) (by omega)
            rwa [show p - s = e - 1 by omega] at this)
        have HE := Lib.hid hee
        have HEz := Lib.hid hez
        clear hee he HI
        go_upto_region 39 with (fail)
        clear hez
        have hcs1 : (s < m ∧ m < e) ∨ ((¬ s < m) ∨ (s < m ∧ ¬ m < e)) := by omega
        rcases hcs1 with ⟨x1, x2⟩ | hno1
        · have x1z : (s : Int) < (m : Int) := by omega
          have x2z : (m : Int) < (e : Int) := by omega
          go_upto_region 41 with (go_at_fn 24; refine (HRot.out d wr _ _ _ s m e rfl rfl rfl R (by omega) S1.out x1 x2 (by omega) (by omega)).mono ?_; rintro e' w' ⟨rfl, d1, S2', z1, p1, r1⟩)
          have S2 : Aside (SWK enc k w0 blk off d1 w') := S2'
          have HP1 := Lib.hid p1
          have HX1 := Lib.hid r1
          clear S2' p1 r1
          have HQ := rot_parts H1.out H2.out (show a ≤ s by omega) hsm hme heb HX1.out
          have HA := rot_apart HSW.out H1.out H2.out (show a ≤ s by omega) hsm hme heb HX1.out K1.out K2.out
          rw [HE.out] at HQ HA
          have HQ1 := Lib.hid HQ.1
          have HQ2 := Lib.hid HQ.2.1
          have HQ3 := Lib.hid HQ.2.2.1
          have HQ4 := Lib.hid HQ.2.2.2
          have HSep := Lib.hid HA
          have hsmid : s ≤ mid := by have := HE.out; omega
          have hmide : mid ≤ e := by have := HE.out; omega
          clear HQ HA
          have hcs2 : (a < s ∧ s < mid) ∨ ((¬ a < s) ∨ (a < s ∧ ¬ s < mid)) := by omega
          rcases hcs2 with ⟨y1, y2⟩ | hno
          · have y1z : (a : Int) < (s : Int) := by omega
            have y2z : (s : Int) < (mid : Int) := by omega
            go_upto_region 43 with (go_at_fn 22; refine (IH.out d1 w' _ _ _ a s mid rfl rfl rfl (by omega) (by omega) S2.out y1 y2 (by omega) HQ1.out HQ2.out).mono ?_; rintro e' w' ⟨rfl, d2, S3', z2, p2, s2⟩)
            have S3 : Aside (SWK enc k w0 blk off d2 w') := S3'
            have HP2 := Lib.hid p2
            have HS2 := Lib.hid s2
            clear S3' p2 s2
            have hz2 : d2.size = d.size := HP2.out.1.trans HP1.out.1
            have hcs3 : (mid < e ∧ e < b) ∨ ((¬ mid < e) ∨ (mid < e ∧ ¬ e < b)) := by omega
            rcases hcs3 with ⟨v1, v2⟩ | hno3
            · have v1z : (mid : Int) < (e : Int) := by omega
              have v2z : (e : Int) < (b : Int) := by omega
              go_wp2_with (go_at_fn 22; refine (IH.out d2 w' _ _ _ mid e b rfl rfl rfl (by omega) hz2 S3.out v1 v2 (by omega) (sorted_keep HP2.out (Nat.le_refl _) HQ3.out) (sorted_keep HP2.out (by omega) HQ4.out)).mono ?_; rintro e' w' ⟨rfl, d3, S4', z3, p3, s3⟩)
              have S9 : Aside (SWK enc k w0 blk off d3 w') := S4'
              have HF9 := Lib.hid (sorted_halves (d' := d1) (show a ≤ mid by omega) (show mid ≤ b by omega) (by have := HP1.out.1; omega) HSep.out HP2.out HS2.out p3 s3)
              have HP9 := Lib.hid (permIn_trans _ _ _ _ _ (permIn_trans _ _ _ _ _ (permIn_mono d d1 s e a b (by omega) (by omega) (by omega) HP1.out) (permIn_mono d1 d2 a mid a b (by omega) (by omega) (by have := HP1.out.1; omega) HP2.out)) (permIn_mono d2 d3 mid b a b (by omega) (by omega) (by omega) p3))
              clear S4' z3 p3 s3
              go_wp2_with fail
              first | go_end0 | go_ret
              exact ⟨rfl, _, S9.out, HP9.out.1, HP9.out, HF9.out⟩
            · have HS3 : Hid (SortedIn (ltOf cf) mid b d2) := Lib.hid (sorted_join heb (by omega) (sorted_keep HP2.out (Nat.le_refl _) HQ3.out) (sorted_keep HP2.out (by omega) HQ4.out))
              have HF9 := Lib.hid (sorted_halves (d' := d1) (show a ≤ mid by omega) (show mid ≤ b by omega) (by have := HP1.out.1; omega) HSep.out HP2.out HS2.out (permIn_refl _ _ _) HS3.out)
              have HP9 := Lib.hid (permIn_trans _ _ _ _ _ (permIn_mono d d1 s e a b (by omega) (by omega) (by omega) HP1.out) (permIn_mono d1 d2 a mid a b (by omega) (by omega) (by have := HP1.out.1; omega) HP2.out))
              have S9 := S3
              clear hz2
              rcases hno3 with v1 | ⟨v1, v2⟩
              · have v1z : ¬ (mid : Int) < (e : Int) := by omega
                go_wp2_with fail
                first | go_end0 | go_ret
                exact ⟨rfl, _, S9.out, HP9.out.1, HP9.out, HF9.out⟩
              · have v1z : (mid : Int) < (e : Int) := by omega
                have v2z : ¬ (e : Int) < (b : Int) := by omega
                go_wp2_with fail
                first | go_end0 | go_ret
                exact ⟨rfl, _, S9.out, HP9.out.1, HP9.out, HF9.out⟩
          · have HP2 : Hid (PermIn a mid d1 d1) := Lib.hid (permIn_refl _ _ _)
            have HS2 : Hid (SortedIn (ltOf cf) a mid d1) := Lib.hid (sorted_join hsmid (by omega) HQ1.out HQ2.out)
            rcases hno with y1 | ⟨y1, y2⟩
            · have y1z : ¬ (a : Int) < (s : Int) := by omega
              go_upto_region 43 with (fail)
              have hz2 : d1.size = d.size := HP2.out.1.trans HP1.out.1
              have hcs3 : (mid < e ∧ e < b) ∨ ((¬ mid < e) ∨ (mid < e ∧ ¬ e < b)) := by omega
              rcases hcs3 with ⟨v1, v2⟩ | hno3
              · have v1z : (mid : Int) < (e : Int) := by omega
                have v2z : (e : Int) < (b : Int) := by omega
                go_wp2_with (go_at_fn 22; refine (IH.out d1 w' _ _ _ mid e b rfl rfl rfl (by omega) hz2 S2.out v1 v2 (by omega) (sorted_keep HP2.out (Nat.le_refl _) HQ3.out) (sorted_keep HP2.out (by omega) HQ4.out)).mono ?_; rintro e' w' ⟨rfl, d3, S4', z3, p3, s3⟩)
                have S9 : Aside (SWK enc k w0 blk off d3 w') := S4'
                have HF9 := Lib.hid (sorted_halves (d' := d1) (show a ≤ mid by omega) (show mid ≤ b by omega) (by have := HP1.out.1; omega) HSep.out HP2.out HS2.out p3 s3)
                have HP9 := Lib.hid (permIn_trans _ _ _ _ _ (permIn_trans _ _ _ _ _ (permIn_mono d d1 s e a b (by omega) (by omega) (by omega) HP1.out) (permIn_mono d1 d1 a mid a b (by omega) (by omega) (by have := HP1.out.1; omega) HP2.out)) (permIn_mono d1 d3 mid b a b (by omega) (by omega) (by omega) p3))
                clear S4' z3 p3 s3
                go_wp2_with fail
                first | go_end0 | go_ret
                exact ⟨rfl, _, S9.out, HP9.out.1, HP9.out, HF9.out⟩
              · have HS3 : Hid (SortedIn (ltOf cf) mid b d1) := Lib.hid (sorted_join heb (by omega) (sorted_keep HP2.out (Nat.le_refl _) HQ3.out) (sorted_keep HP2.out (by omega) HQ4.out))
                have HF9 := Lib.hid (sorted_halves (d' := d1) (show a ≤ mid by omega) (show mid ≤ b by omega) (by have := HP1.out.1; omega) HSep.out HP2.out HS2.out (permIn_refl _ _ _) HS3.out)
                have HP9 := Lib.hid (permIn_trans _ _ _ _ _ (permIn_mono d d1 s e a b (by omega) (by omega) (by omega) HP1.out) (permIn_mono d1 d1 a mid a b (by omega) (by omega) (by have := HP1.out.1; omega) HP2.out))
                have S9 := S2
                clear hz2
                rcases hno3 with v1 | ⟨v1, v2⟩
                · have v1z : ¬ (mid : Int) < (e : Int) := by omega
                  go_wp2_with fail
                  first | go_end0 | go_ret
                  exact ⟨rfl, _, S9.out, HP9.out.1, HP9.out, HF9.out⟩
                · have v1z : (mid : Int) < (e : Int) := by omega
                  have v2z : ¬ (e : Int) < (b : Int) := by omega
                  go_wp2_with fail
                  first | go_end0 | go_ret
                  exact ⟨rfl, _, S9.out, HP9.out.1, HP9.out, HF9.out⟩
            · have y1z : (a : Int) < (s : Int) := by omega
              have y2z : ¬ (s : Int) < (mid : Int) := by omega
              go_upto_region 43 with (fail)
              have hz2 : d1.size = d.size := HP2.out.1.trans HP1.out.1
              have hcs3 : (mid < e ∧ e < b) ∨ ((¬ mid < e) ∨ (mid < e ∧ ¬ e < b)) := by omega
              rcases hcs3 with ⟨v1, v2⟩ | hno3
              · have v1z : (mid : Int) < (e : Int) := by omega
                have v2z : (e : Int) < (b : Int) := by omega
                go_wp2_with (go_at_fn 22; refine (IH.out d1 w' _ _ _ mid e b rfl rfl rfl (by omega) hz2 S2.out v1 v2 (by omega) (sorted_keep HP2.out (Nat.le_refl _) HQ3.out) (sorted_keep HP2.out (by omega) HQ4.out)).mono ?_; rintro e' w' ⟨rfl, d3, S4', z3, p3, s3⟩)
                have S9 : Aside (SWK enc k w0 blk off d3 w') := S4'
                have HF9 := Lib.hid (sorted_halves (d' := d1) (show a ≤ mid by omega) (show mid ≤ b by omega) (by have := HP1.out.1; omega) HSep.out HP2.out HS2.out p3 s3)
                have HP9 := Lib.hid (permIn_trans _ _ _ _ _ (permIn_trans _ _ _ _ _ (permIn_mono d d1 s e a b (by omega) (by omega) (by omega) HP1.out) (permIn_mono d1 d1 a mid a b (by omega) (by omega) (by have := HP1.out.1; omega) HP2.out)) (permIn_mono d1 d3 mid b a b (by omega) (by omega) (by omega) p3))
                clear S4' z3 p3 s3
                go_wp2_with fail
                first | go_end0 | go_ret
                exact ⟨rfl, _, S9.out, HP9.out.1, HP9.out, HF9.out⟩
              · have HS3 : Hid (SortedIn (ltOf cf) mid b d1) := Lib.hid (sorted_join heb (by omega) (sorted_keep HP2.out (Nat.le_refl _) HQ3.out) (sorted_keep HP2.out (by omega) HQ4.out))
                have HF9 := Lib.hid (sorted_halves (d' := d1) (show a ≤ mid by omega) (show mid ≤ b by omega) (by have := HP1.out.1; omega) HSep.out HP2.out HS2.out (permIn_refl _ _ _) HS3.out)
                have HP9 := Lib.hid (permIn_trans _ _ _ _ _ (permIn_mono d d1 s e a b (by omega) (by omega) (by omega) HP1.out) (permIn_mono d1 d1 a mid a b (by omega) (by omega) (by have := HP1.out.1; omega) HP2.out))
                have S9 := S2
                clear hz2
                rcases hno3 with v1 | ⟨v1, v2⟩
                · have v1z : ¬ (mid : Int) < (e : Int) := by omega
                  go_wp2_with fail
                  first | go_end0 | go_ret
                  exact ⟨rfl, _, S9.out, HP9.out.1, HP9.out, HF9.out⟩
                · have v1z : (mid : Int) < (e : Int) := by omega
                  have v2z : ¬ (e : Int) < (b : Int) := by omega
                  go_wp2_with fail
                  first | go_end0 | go_ret
                  exact ⟨rfl, _, S9.out, HP9.out.1, HP9.out, HF9.out⟩
        · have HP1 : Hid (PermIn s e d d) := Lib.hid (permIn_refl _ _ _)
          have HX1 : Hid (∀ q, d[q]! = rotS (fun i => d[i]!) s m e q) := Lib.hid fun q => (rot_none _ s m e hsm hme (by omega) q).symm
          rcases hno1 with x1 | ⟨x1, x2⟩
          · have x1z : ¬ (s : Int) < (m : Int) := by omega
            go_upto_region 41 with (fail)
            have HQ := rot_parts H1.out H2.out (show a ≤ s by omega) hsm hme heb HX1.out
            have HA := rot_apart HSW.out H1.out H2.out (show a ≤ s by omega) hsm hme heb HX1.out K1.out K2.out
            rw [HE.out] at HQ HA
            have HQ1 := Lib.hid HQ.1
            have HQ2 := Lib.hid HQ.2.1
            have HQ3 := Lib.hid HQ.2.2.1
            have HQ4 := Lib.hid HQ.2.2.2
            have HSep := Lib.hid HA
            have hsmid : s ≤ mid := by have := HE.out; omega
            have hmide : mid ≤ e := by have := HE.out; omega
            clear HQ HA
            have hcs2 : (a < s ∧ s < mid) ∨ ((¬ a < s) ∨ (a < s ∧ ¬ s < mid)) := by omega
            rcases hcs2 with ⟨y1, y2⟩ | hno
            · have y1z : (a : Int) < (s : Int) := by omega
              have y2z : (s : Int) < (mid : Int) := by omega
              go_upto_region 43 with (go_at_fn 22; refine (IH.out d wr _ _ _ a s mid rfl rfl rfl (by omega) (by omega) S1.out y1 y2 (by omega) HQ1.out HQ2.out).mono ?_; rintro e' w' ⟨rfl, d2, S3', z2, p2, s2⟩)
              have S3 : Aside (SWK enc k w0 blk off d2 w') := S3'
              have HP2 := Lib.hid p2
              have HS2 := Lib.hid s2
              clear S3' p2 s2
              have hz2 : d2.size = d.size := HP2.out.1.trans HP1.out.1
              have hcs3 : (mid < e ∧ e < b) ∨ ((¬ mid < e) ∨ (mid < e ∧ ¬ e < b)) := by omega
              rcases hcs3 with ⟨v1, v2⟩ | hno3
              · have v1z : (mid : Int) < (e : Int) := by omega
                have v2z : (e : Int) < (b : Int) := by omega
                go_wp2_with (go_at_fn 22; refine (IH.out d2 w' _ _ _ mid e b rfl rfl rfl (by omega) hz2 S3.out v1 v2 (by omega) (sorted_keep HP2.out (Nat.le_refl _) HQ3.out) (sorted_keep HP2.out (by omega) HQ4.out)).mono ?_; rintro e' w' ⟨rfl, d3, S4', z3, p3, s3⟩)
                have S9 : Aside (SWK enc k w0 blk off d3 w') := S4'
                have HF9 := Lib.hid (sorted_halves (d' := d) (show a ≤ mid by omega) (show mid ≤ b by omega) (by have := HP1.out.1; omega) HSep.out HP2.out HS2.out p3 s3)
                have HP9 := Lib.hid (permIn_trans _ _ _ _ _ (permIn_trans _ _ _ _ _ (permIn_mono d d s e a b (by omega) (by omega) (by omega) HP1.out) (permIn_mono d d2 a mid a b (by omega) (by omega) (by have := HP1.out.1; omega) HP2.out)) (permIn_mono d2 d3 mid b a b (by omega) (by omega) (by omega) p3))
                clear S4' z3 p3 s3
                go_wp2_with fail
                first | go_end0 | go_ret
                exact ⟨rfl, _, S9.out, HP9.out.1, HP9.out, HF9.out⟩
              · have HS3 : Hid (SortedIn (ltOf cf) mid b d2) := Lib.hid (sorted_join heb (by omega) (sorted_keep HP2.out (Nat.le_refl _) HQ3.out) (sorted_keep HP2.out (by omega) HQ4.out))
                have HF9 := Lib.hid (sorted_halves (d' := d) (show a ≤ mid by omega) (show mid ≤ b by omega) (by have := HP1.out.1; omega) HSep.out HP2.out HS2.out (permIn_refl _ _ _) HS3.out)
                have HP9 := Lib.hid (permIn_trans _ _ _ _ _ (permIn_mono d d s e a b (by omega) (by omega) (by omega) HP1.out) (permIn_mono d d2 a mid a b (by omega) (by omega) (by have := HP1.out.1; omega) HP2.out))
                have S9 := S3
                clear hz2
                rcases hno3 with v1 | ⟨v1, v2⟩
                · have v1z : ¬ (mid : Int) < (e : Int) := by omega
                  go_wp2_with fail
                  first | go_end0 | go_ret
                  exact ⟨rfl, _, S9.out, HP9.out.1, HP9.out, HF9.out⟩
                · have v1z : (mid : Int) < (e : Int) := by omega
                  have v2z : ¬ (e : Int) < (b : Int) := by omega
                  go_wp2_with fail
                  first | go_end0 | go_ret
                  exact ⟨rfl, _, S9.out, HP9.out.1, HP9.out, HF9.out⟩
            · have HP2 : Hid (PermIn a mid d d) := Lib.hid (permIn_refl _ _ _)
              have HS2 : Hid (SortedIn (ltOf cf) a mid d) := Lib.hid (sorted_join hsmid (by omega) HQ1.out HQ2.out)
              rcases hno with y1 | ⟨y1, y2⟩
              · have y1z : ¬ (a : Int) < (s : Int) := by omega
                go_upto_region 43 with (fail)
                have hz2 : d.size = d.size := HP2.out.1.trans HP1.out.1
                have hcs3 : (mid < e ∧ e < b) ∨ ((¬ mid < e) ∨ (mid < e ∧ ¬ e < b)) := by omega
                rcases hcs3 with ⟨v1, v2⟩ | hno3
                · have v1z : (mid : Int) < (e : Int) := by omega
                  have v2z : (e : Int) < (b : Int) := by omega
                  go_wp2_with (go_at_fn 22; refine (IH.out d wr _ _ _ mid e b rfl rfl rfl (by omega) hz2 S1.out v1 v2 (by omega) (sorted_keep HP2.out (Nat.le_refl _) HQ3.out) (sorted_keep HP2.out (by omega) HQ4.out)).mono ?_; rintro e' w' ⟨rfl, d3, S4', z3, p3, s3⟩)
                  have S9 : Aside (SWK enc k w0 blk off d3 w') := S4'
                  have HF9 := Lib.hid (sorted_halves (d' := d) (show a ≤ mid by omega) (show mid ≤ b by omega) (by have := HP1.out.1; omega) HSep.out HP2.out HS2.out p3 s3)
                  have HP9 := Lib.hid (permIn_trans _ _ _ _ _ (permIn_trans _ _ _ _ _ (permIn_mono d d s e a b (by omega) (by omega) (by omega) HP1.out) (permIn_mono d d a mid a b (by omega) (by omega) (by have := HP1.out.1; omega) HP2.out)) (permIn_mono d d3 mid b a b (by omega) (by omega) (by omega) p3))
                  clear S4' z3 p3 s3
                  go_wp2_with fail
                  first | go_end0 | go_ret
                  exact ⟨rfl, _, S9.out, HP9.out.1, HP9.out, HF9.out⟩
                · have HS3 : Hid (SortedIn (ltOf cf) mid b d) := Lib.hid (sorted_join heb (by omega) (sorted_keep HP2.out (Nat.le_refl _) HQ3.out) (sorted_keep HP2.out (by omega) HQ4.out))
                  have HF9 := Lib.hid (sorted_halves (d' := d) (show a ≤ mid by omega) (show mid ≤ b by omega) (by have := HP1.out.1; omega) HSep.out HP2.out HS2.out (permIn_refl _ _ _) HS3.out)
                  have HP9 := Lib.hid (permIn_trans _ _ _ _ _ (permIn_mono d d s e a b (by omega) (by omega) (by omega) HP1.out) (permIn_mono d d a mid a b (by omega) (by omega) (by have := HP1.out.1; omega) HP2.out))
                  have S9 := S1
                  clear hz2
                  rcases hno3 with v1 | ⟨v1, v2⟩
                  · have v1z : ¬ (mid : Int) < (e : Int) := by omega
                    go_wp2_with fail
                    first | go_end0 | go_ret
                    exact ⟨rfl, _, S9.out, HP9.out.1, HP9.out, HF9.out⟩
                  · have v1z : (mid : Int) < (e : Int) := by omega
                    have v2z : ¬ (e : Int) < (b : Int) := by omega
                    go_wp2_with fail
                    first | go_end0 | go_ret
                    exact ⟨rfl, _, S9.out, HP9.out.1, HP9.out, HF9.out⟩
              · have y1z : (a : Int) < (s : Int) := by omega
                have y2z : ¬ (s : Int) < (mid : Int) := by omega
                go_upto_region 43 with (fail)
                have hz2 : d.size = d.size := HP2.out.1.trans HP1.out.1
                have hcs3 : (mid < e ∧ e < b) ∨ ((¬ mid < e) ∨ (mid < e ∧ ¬ e < b)) := by omega
                rcases hcs3 with ⟨v1, v2⟩ | hno3
                · have v1z : (mid : Int) < (e : Int) := by omega
                  have v2z : (e : Int) < (b : Int) := by omega
                  go_wp2_with (go_at_fn 22; refine (IH.out d wr _ _ _ mid e b rfl rfl rfl (by omega) hz2 S1.out v1 v2 (by omega) (sorted_keep HP2.out (Nat.le_refl _) HQ3.out) (sorted_keep HP2.out (by omega) HQ4.out)).mono ?_; rintro e' w' ⟨rfl, d3, S4', z3, p3, s3⟩)
                  have S9 : Aside (SWK enc k w0 blk off d3 w') := S4'
                  have HF9 := Lib.hid (sorted_halves (d' := d) (show a ≤ mid by omega) (show mid ≤ b by omega) (by have := HP1.out.1; omega) HSep.out HP2.out HS2.out p3 s3)
                  have HP9 := Lib.hid (permIn_trans _ _ _ _ _ (permIn_trans _ _ _ _ _ (permIn_mono d d s e a b (by omega) (by omega) (by omega) HP1.out) (permIn_mono d d a mid a b (by omega) (by omega) (by have := HP1.out.1; omega) HP2.out)) (permIn_mono d d3 mid b a b (by omega) (by omega) (by omega) p3))
                  clear S4' z3 p3 s3
                  go_wp2_with fail
                  first | go_end0 | go_ret
                  exact ⟨rfl, _, S9.out, HP9.out.1, HP9.out, HF9.out⟩
                · have HS3 : Hid (SortedIn (ltOf cf) mid b d) := Lib.hid (sorted_join heb (by omega) (sorted_keep HP2.out (Nat.le_refl _) HQ3.out) (sorted_keep HP2.out (by omega) HQ4.out))
                  have HF9 := Lib.hid (sorted_halves (d' := d) (show a ≤ mid by omega) (show mid ≤ b by omega) (by have := HP1.out.1; omega) HSep.out HP2.out HS2.out (permIn_refl _ _ _) HS3.out)
                  have HP9 := Lib.hid (permIn_trans _ _ _ _ _ (permIn_mono d d s e a b (by omega) (by omega) (by omega) HP1.out) (permIn_mono d d a mid a b (by omega) (by omega) (by have := HP1.out.1; omega) HP2.out))
                  have S9 := S1
                  clear hz2
                  rcases hno3 with v1 | ⟨v1, v2⟩
                  · have v1z : ¬ (mid : Int) < (e : Int) := by omega
                    go_wp2_with fail
                    first | go_end0 | go_ret
                    exact ⟨rfl, _, S9.out, HP9.out.1, HP9.out, HF9.out⟩
                  · have v1z : (mid : Int) < (e : Int) := by omega
                    have v2z : ¬ (e : Int) < (b : Int) := by omega
                    go_wp2_with fail
                    first | go_end0 | go_ret
                    exact ⟨rfl, _, S9.out, HP9.out.1, HP9.out, HF9.out⟩
          · have x1z : (s : Int) < (m : Int) := by omega
            have x2z : ¬ (m : Int) < (e : Int) := by omega
            go_upto_region 41 with (fail)
            have HQ := rot_parts H1.out H2.out (show a ≤ s by omega) hsm hme heb HX1.out
            have HA := rot_apart HSW.out H1.out H2.out (show a ≤ s by omega) hsm hme heb HX1.out K1.out K2.out
            rw [HE.out] at HQ HA
            have HQ1 := Lib.hid HQ.1
            have HQ2 := Lib.hid HQ.2.1
            have HQ3 := Lib.hid HQ.2.2.1
            have HQ4 := Lib.hid HQ.2.2.2
            have HSep := Lib.hid HA
            have hsmid : s ≤ mid := by have := HE.out; omega
            have hmide : mid ≤ e := by have := HE.out; omega
            clear HQ HA
            have hcs2 : (a < s ∧ s < mid) ∨ ((¬ a < s) ∨ (a < s ∧ ¬ s < mid)) := by omega
            rcases hcs2 with ⟨y1, y2⟩ | hno
            · have y1z : (a : Int) < (s : Int) := by omega
              have y2z : (s : Int) < (mid : Int) := by omega
              go_upto_region 43 with (go_at_fn 22; refine (IH.out d wr _ _ _ a s mid rfl rfl rfl (by omega) (by omega) S1.out y1 y2 (by omega) HQ1.out HQ2.out).mono ?_; rintro e' w' ⟨rfl, d2, S3', z2, p2, s2⟩)
              have S3 : Aside (SWK enc k w0 blk off d2 w') := S3'
              have HP2 := Lib.hid p2
              have HS2 := Lib.hid s2
              clear S3' p2 s2
              have hz2 : d2.size = d.size := HP2.out.1.trans HP1.out.1
              have hcs3 : (mid < e ∧ e < b) ∨ ((¬ mid < e) ∨ (mid < e ∧ ¬ e < b)) := by omega
              rcases hcs3 with ⟨v1, v2⟩ | hno3
              · have v1z : (mid : Int) < (e : Int) := by omega
                have v2z : (e : Int) < (b : Int) := by omega
                go_wp2_with (go_at_fn 22; refine (IH.out d2 w' _ _ _ mid e b rfl rfl rfl (by omega) hz2 S3.out v1 v2 (by omega) (sorted_keep HP2.out (Nat.le_refl _) HQ3.out) (sorted_keep HP2.out (by omega) HQ4.out)).mono ?_; rintro e' w' ⟨rfl, d3, S4', z3, p3, s3⟩)
                have S9 : Aside (SWK enc k w0 blk off d3 w') := S4'
                have HF9 := Lib.hid (sorted_halves (d' := d) (show a ≤ mid by omega) (show mid ≤ b by omega) (by have := HP1.out.1; omega) HSep.out HP2.out HS2.out p3 s3)
                have HP9 := Lib.hid (permIn_trans _ _ _ _ _ (permIn_trans _ _ _ _ _ (permIn_mono d d s e a b (by omega) (by omega) (by omega) HP1.out) (permIn_mono d d2 a mid a b (by omega) (by omega) (by have := HP1.out.1; omega) HP2.out)) (permIn_mono d2 d3 mid b a b (by omega) (by omega) (by omega) p3))
                clear S4' z3 p3 s3
                go_wp2_with fail
                first | go_end0 | go_ret
                exact ⟨rfl, _, S9.out, HP9.out.1, HP9.out, HF9.out⟩
              · have HS3 : Hid (SortedIn (ltOf cf) mid b d2) := Lib.hid (sorted_join heb (by omega) (sorted_keep HP2.out (Nat.le_refl _) HQ3.out) (sorted_keep HP2.out (by omega) HQ4.out))
                have HF9 := Lib.hid (sorted_halves (d' := d) (show a ≤ mid by omega) (show mid ≤ b by omega) (by have := HP1.out.1; omega) HSep.out HP2.out HS2.out (permIn_refl _ _ _) HS3.out)
                have HP9 := Lib.hid (permIn_trans _ _ _ _ _ (permIn_mono d d s e a b (by omega) (by omega) (by omega) HP1.out) (permIn_mono d d2 a mid a b (by omega) (by omega) (by have := HP1.out.1; omega) HP2.out))
                have S9 := S3
                clear hz2
                rcases hno3 with v1 | ⟨v1, v2⟩
                · have v1z : ¬ (mid : Int) < (e : Int) := by omega
                  go_wp2_with fail
                  first | go_end0 | go_ret
                  exact ⟨rfl, _, S9.out, HP9.out.1, HP9.out, HF9.out⟩
                · have v1z : (mid : Int) < (e : Int) := by omega
                  have v2z : ¬ (e : Int) < (b : Int) := by omega
                  go_wp2_with fail
                  first | go_end0 | go_ret
                  exact ⟨rfl, _, S9.out, HP9.out.1, HP9.out, HF9.out⟩
            · have HP2 : Hid (PermIn a mid d d) := Lib.hid (permIn_refl _ _ _)
              have HS2 : Hid (SortedIn (ltOf cf) a mid d) := Lib.hid (sorted_join hsmid (by omega) HQ1.out HQ2.out)
              rcases hno with y1 | ⟨y1, y2⟩
              · have y1z : ¬ (a : Int) < (s : Int) := by omega
                go_upto_region 43 with (fail)
                have hz2 : d.size = d.size := HP2.out.1.trans HP1.out.1
                have hcs3 : (mid < e ∧ e < b) ∨ ((¬ mid < e) ∨ (mid < e ∧ ¬ e < b)) := by omega
                rcases hcs3 with ⟨v1, v2⟩ | hno3
                · have v1z : (mid : Int) < (e : Int) := by omega
                  have v2z : (e : Int) < (b : Int) := by omega
                  go_wp2_with (go_at_fn 22; refine (IH.out d wr _ _ _ mid e b rfl rfl rfl (by omega) hz2 S1.out v1 v2 (by omega) (sorted_keep HP2.out (Nat.le_refl _) HQ3.out) (sorted_keep HP2.out (by omega) HQ4.out)).mono ?_; rintro e' w' ⟨rfl, d3, S4', z3, p3, s3⟩)
                  have S9 : Aside (SWK enc k w0 blk off d3 w') := S4'
                  have HF9 := Lib.hid (sorted_halves (d' := d) (show a ≤ mid by omega) (show mid ≤ b by omega) (by have := HP1.out.1; omega) HSep.out HP2.out HS2.out p3 s3)
                  have HP9 := Lib.hid (permIn_trans _ _ _ _ _ (permIn_trans _ _ _ _ _ (permIn_mono d d s e a b (by omega) (by omega) (by omega) HP1.out) (permIn_mono d d a mid a b (by omega) (by omega) (by have := HP1.out.1; omega) HP2.out)) (permIn_mono d d3 mid b a b (by omega) (by omega) (by omega) p3))
                  clear S4' z3 p3 s3
                  go_wp2_with fail
                  first | go_end0 | go_ret
                  exact ⟨rfl, _, S9.out, HP9.out.1, HP9.out, HF9.out⟩
                · have HS3 : Hid (SortedIn (ltOf cf) mid b d) := Lib.hid (sorted_join heb (by omega) (sorted_keep HP2.out (Nat.le_refl _) HQ3.out) (sorted_keep HP2.out (by omega) HQ4.out))
                  have HF9 := Lib.hid (sorted_halves (d' := d) (show a ≤ mid by omega) (show mid ≤ b by omega) (by have := HP1.out.1; omega) HSep.out HP2.out HS2.out (permIn_refl _ _ _) HS3.out)
                  have HP9 := Lib.hid (permIn_trans _ _ _ _ _ (permIn_mono d d s e a b (by omega) (by omega) (by omega) HP1.out) (permIn_mono d d a mid a b (by omega) (by omega) (by have := HP1.out.1; omega) HP2.out))
                  have S9 := S1
                  clear hz2
                  rcases hno3 with v1 | ⟨v1, v2⟩
                  · have v1z : ¬ (mid : Int) < (e : Int) := by omega
                    go_wp2_with fail
                    first | go_end0 | go_ret
                    exact ⟨rfl, _, S9.out, HP9.out.1, HP9.out, HF9.out⟩
                  · have v1z : (mid : Int) < (e : Int) := by omega
                    have v2z : ¬ (e : Int) < (b : Int) := by omega
                    go_wp2_with fail
                    first | go_end0 | go_ret
                    exact ⟨rfl, _, S9.out, HP9.out.1, HP9.out, HF9.out⟩
              · have y1z : (a : Int) < (s : Int) := by omega
                have y2z : ¬ (s : Int) < (mid : Int) := by omega
                go_upto_region 43 with (fail)
                have hz2 : d.size = d.size := HP2.out.1.trans HP1.out.1
                have hcs3 : (mid < e ∧ e < b) ∨ ((¬ mid < e) ∨ (mid < e ∧ ¬ e < b)) := by omega
                rcases hcs3 with ⟨v1, v2⟩ | hno3
                · have v1z : (mid : Int) < (e : Int) := by omega
                  have v2z : (e : Int) < (b : Int) := by omega
                  go_wp2_with (go_at_fn 22; refine (IH.out d wr _ _ _ mid e b rfl rfl rfl (by omega) hz2 S1.out v1 v2 (by omega) (sorted_keep HP2.out (Nat.le_refl _) HQ3.out) (sorted_keep HP2.out (by omega) HQ4.out)).mono ?_; rintro e' w' ⟨rfl, d3, S4', z3, p3, s3⟩)
                  have S9 : Aside (SWK enc k w0 blk off d3 w') := S4'
                  have HF9 := Lib.hid (sorted_halves (d' := d) (show a ≤ mid by omega) (show mid ≤ b by omega) (by have := HP1.out.1; omega) HSep.out HP2.out HS2.out p3 s3)
                  have HP9 := Lib.hid (permIn_trans _ _ _ _ _ (permIn_trans _ _ _ _ _ (permIn_mono d d s e a b (by omega) (by omega) (by omega) HP1.out) (permIn_mono d d a mid a b (by omega) (by omega) (by have := HP1.out.1; omega) HP2.out)) (permIn_mono d d3 mid b a b (by omega) (by omega) (by omega) p3))
                  clear S4' z3 p3 s3
                  go_wp2_with fail
                  first | go_end0 | go_ret
                  exact ⟨rfl, _, S9.out, HP9.out.1, HP9.out, HF9.out⟩
                · have HS3 : Hid (SortedIn (ltOf cf) mid b d) := Lib.hid (sorted_join heb (by omega) (sorted_keep HP2.out (Nat.le_refl _) HQ3.out) (sorted_keep HP2.out (by omega) HQ4.out))
                  have HF9 := Lib.hid (sorted_halves (d' := d) (show a ≤ mid by omega) (show mid ≤ b by omega) (by have := HP1.out.1; omega) HSep.out HP2.out HS2.out (permIn_refl _ _ _) HS3.out)
                  have HP9 := Lib.hid (permIn_trans _ _ _ _ _ (permIn_mono d d s e a b (by omega) (by omega) (by omega) HP1.out) (permIn_mono d d a mid a b (by omega) (by omega) (by have := HP1.out.1; omega) HP2.out))
                  have S9 := S1
                  clear hz2
                  rcases hno3 with v1 | ⟨v1, v2⟩
                  · have v1z : ¬ (mid : Int) < (e : Int) := by omega
                    go_wp2_with fail
                    first | go_end0 | go_ret
                    exact ⟨rfl, _, S9.out, HP9.out.1, HP9.out, HF9.out⟩
                  · have v1z : (mid : Int) < (e : Int) := by omega
                    have v2z : ¬ (e : Int) < (b : Int) := by omega
                    go_wp2_with fail
                    first | go_end0 | go_ret
                    exact ⟨rfl, _, S9.out, HP9.out.1, HP9.out, HF9.out⟩
end Go.Proofs.Ytjgnjahnfglbaaa

/- slices.symMergeCmpFunc at structs of k cells: the whole. -/
import Derived.Test.YtjgnjahnfglbaaaStG
namespace Go.Proofs.Ytjgnjahnfglbaaa
open Go.ChangeShapes Go.WideShapes Go.ChangeAt Go.RowKit Go.Shelf Go.Lib Go.Sort
set_option linter.unusedVariables false

variable {P : Program} {α : Type} [Inhabited α] {k : Nat} {enc : α → List Value} {blk off : Nat} {d0 : Array α} {w0 : World} {cf : α → α → Int}
set_option maxHeartbeats 8000000 in
set_option maxRecDepth 1000000 in
theorem sym_right (L : StL P k) (g : Nat) (cb : Array Value) (cap : Nat) (d : Array α) (w : World) (a m b : Nat) (hC : CmpLays P g cb enc k cf blk off d0.size w0) (eg : ∀ args w, (callFunc g args).run P w = .ok (.enter g args) w) (hS : SWO (ltOf cf)) (R : RowK enc k w0 blk off d0) (hs : d0.size = d.size) (S : SWK enc k w0 blk off d w) (ham : a + 1 < m) (hmb : b = m + 1) (hb : b ≤ d.size) (hsz : d.size < 4611686018427387904) (s1 : SortedIn (ltOf cf) a m d) :
    Calls P 22 #[.slice (some ⟨blk, off, none⟩) d.size cap, .int .i64 a, .int .i64 m, .int .i64 b, .func (.func g) #[] cb] w (SymPost d (ltOf cf) a b enc k w0 blk off) := by
  have mixed := L.mixed
  have t0 := L.t0
  have a0 := L.a0
  have z0 := L.z0
  have v0 := L.v0
  have t3 := L.t3
  have a3 := L.a3
  have z3 := L.z3
  have v3 := L.v3
  have t4 := L.t4
  have a4 := L.a4
  have z4 := L.z4
  have v4 := L.v4
  have t53 := L.t53
  have a53 := L.a53
  have z53 := L.z53
  have v53 := L.v53
  have t24 := L.t24
  have a24 := L.a24
  have z24 := L.z24
  have v24 := L.v24
  have t40 := L.t40
  have a40 := L.a40
  have z40 := L.z40
  have v40 := L.v40
  have aE := L.aE
  have zE := L.zE
  have u24 := run_underlying L.t24
  have FG := L.f_sym
  have HC : Aside _ := hC
  have S0 : Aside (SWK enc k w0 blk off d w) := S
  have H1 := Lib.hid s1
  have HSW := Lib.hid hS
  clear S hC s1 hS
  have h1z : ((m : Int) - (a : Int) == 1) = false := by simp; omega
  have h2z : (b : Int) - (m : Int) = 1 := by omega
  have HM := Lib.hid hmb
  have hm1 : b ≤ m + 1 := by omega
  have hm2 : m + 1 ≤ b := by omega
  clear hmb
  go_enter FG, Try.ntmps22
  go_wp2
  clear h1z h2z
  go_loopg [14, 15] (m - a) (fun kx s14 s15 wr => ∃ (i j : Nat), s14 = .int .i64 i ∧ s15 = .int .i64 j ∧ a ≤ i ∧ i ≤ j ∧ j ≤ m ∧ j - i ≤ kx ∧ Aside (SWK enc k w0 blk off d wr) ∧ Hid (∀ q, a ≤ q → q < i → ltOf cf d[m]! d[q]! = false) ∧ Hid (∀ q, j ≤ q → q < m → ltOf cf d[m]! d[q]! = true))
  case atStart => exact ⟨a, m, rfl, rfl, by omega, by omega, by omega, by omega, S0, Lib.hid fun q h1 h2 => by omega, Lib.hid fun q h1 h2 => by omega⟩
  case round =>
    clear S0
    obtain ⟨i, j, rfl, rfl, hai, hij, hjb, hkx, S1, HLt, HGe⟩ := hrel
    by_cases hlt : i < j
    · have hltz : (i : Int) < (j : Int) := by omega
      obtain ⟨h, hh⟩ : ∃ h, h = (i + j) / 2 := ⟨_, rfl⟩
      have hhi : i ≤ h := by omega
      have hhj : h < j := by omega
      go_upto_region 17 with (fail)
      have hhz : ((i : Int) + (j : Int)) / 2 = (h : Int) := by omega
      rw [hhz]
      clear hhz hh
      cases hL : ltOf cf d[m]! d[h]! with

      | false =>
        have ea201 : ((m : Int)).toNat = m := by omega
        have pa201 : (0 : Int) ≤ (m : Int) := by omega
        have ba201 : (m : Int) < (d.size : Int) := by omega
        have ra201 : IntKind.i64.wrap ((m : Int)) = (m : Int) := by rw [IntKind.wrap_i64]; omega
        have ec201 : ((h : Int)).toNat = h := by omega
        have pc201 : (0 : Int) ≤ (h : Int) := by omega
        have bc201 : (h : Int) < (d.size : Int) := by omega
        have rc201 : IntKind.i64.wrap ((h : Int)) = (h : Int) := by rw [IntKind.wrap_i64]; omega
        obtain ⟨x201, hx201⟩ : ∃ x, x = d[m]! := ⟨_, rfl⟩
        obtain ⟨y201, hy201⟩ : ∃ x, x = d[h]! := ⟨_, rfl⟩
        have l201a := S1.out.ld R (by omega) P (m) (by omega)
        have l201b := S1.out.ld R (by omega) P (h) (by omega)
        rw [← hx201] at l201a
        rw [← hy201] at l201b
        have hc201 := S1.out.cmp HC.out (by omega) x201 y201
        have hv201 : ¬ cf x201 y201 < 0 := by rw [hx201, hy201]; exact of_decide_eq_false hL
        have hd201 : decide (cf x201 y201 < 0) = false := decide_eq_false hv201
        clear hx201 hy201
        go_wp2_with fail
        go_quiet_grown (first | (go_at_fn g; refine Calls.grown_of (hc201 _ _)))
        have S2 : Aside (SWK enc k w0 blk off d (grow (wr.drewN nq) osq)) := S1.out.grown nq osq
        clear l201a l201b hc201
        generalize grow (wr.drewN nq) osq = w2 at S2 ⊢
        clear nq osq
        have HLt2 : Hid (∀ q, a ≤ q → q < h + 1 → ltOf cf d[m]! d[q]! = false) := Lib.hid fun q h1 h2 => ext_nl HSW.out H1.out h1 (by omega) (by omega) hL
        go_wp2
        go_roundg (j - (h + 1))
        case measure => omega
        case rel => exact ⟨h + 1, j, by go_num, rfl, by omega, by omega, by omega, Nat.le_refl _, S2, HLt2, HGe⟩
      | true =>
        have ea202 : ((m : Int)).toNat = m := by omega
        have pa202 : (0 : Int) ≤ (m : Int) := by omega
        have ba202 : (m : Int) < (d.size : Int) := by omega
        have ra202 : IntKind.i64.wrap ((m : Int)) = (m : Int) := by rw [IntKind.wrap_i64]; omega
        have ec202 : ((h : Int)).toNat = h := by omega
        have pc202 : (0 : Int) ≤ (h : Int) := by omega
        have bc202 : (h : Int) < (d.size : Int) := by omega
        have rc202 : IntKind.i64.wrap ((h : Int)) = (h : Int) := by rw [IntKind.wrap_i64]; omega
        obtain ⟨x202, hx202⟩ : ∃ x, x = d[m]! := ⟨_, rfl⟩
        obtain ⟨y202, hy202⟩ : ∃ x, x = d[h]! := ⟨_, rfl⟩
        have l202a := S1.out.ld R (by omega) P (m) (by omega)
        have l202b := S1.out.ld R (by omega) P (h) (by omega)
        rw [← hx202] at l202a
        rw [← hy202] at l202b
        have hc202 := S1.out.cmp HC.out (by omega) x202 y202
        have hv202 : cf x202 y202 < 0 := by rw [hx202, hy202]; exact of_decide_eq_true hL
        have hd202 : decide (cf x202 y202 < 0) = true := decide_eq_true hv202
        clear hx202 hy202
        go_wp2_with fail
        go_quiet_grown (first | (go_at_fn g; refine Calls.grown_of (hc202 _ _)))
        have S2 : Aside (SWK enc k w0 blk off d (grow (wr.drewN nq) osq)) := S1.out.grown nq osq
        clear l202a l202b hc202
        generalize grow (wr.drewN nq) osq = w2 at S2 ⊢
        clear nq osq
        have HGe2 : Hid (∀ q, h ≤ q → q < m → ltOf cf d[m]! d[q]! = true) := Lib.hid fun q h1 h2 => ext_lr HSW.out H1.out (by omega) h1 h2 hL
        go_wp2
        go_roundg (h - i)
        case measure => omega
        case rel => exact ⟨i, h, rfl, rfl, by omega, by omega, by omega, Nat.le_refl _, S2, HLt, HGe2⟩
    · obtain rfl : i = j := by omega
      have hltz : ¬ (i : Int) < (i : Int) := by omega
      go_wp2_with fail
      go_loopg [17] (m - i) (fun kx s17 wr => ∃ (q : Nat) (dk : Array α), s17 = .int .i64 q ∧ i ≤ q ∧ q ≤ m ∧ q - i ≤ kx ∧ dk.size = d.size ∧ Aside (SWK enc k w0 blk off dk wr) ∧ Hid (PermIn a b d dk) ∧ Hid (∀ t, dk[t]! = rotS (fun i => d[i]!) q m (m + 1) t))
      case atStart => exact ⟨m, d, rfl, hjb, Nat.le_refl _, by omega, rfl, S1, Lib.hid (permIn_refl _ _ _), Lib.hid fun t => (rot_none _ _ _ _ (by omega) (by omega) (.inl rfl) t).symm⟩
      case round =>
        clear S1
        obtain ⟨q, dk, rfl, hiq, hqm, hkx2, hds, S1, HPm, HX⟩ := hrel
        by_cases hq : i < q
        · obtain ⟨q, rfl⟩ : ∃ q', q = q' + 1 := ⟨q - 1, by omega⟩
          have hqz : (i : Int) < (q : Int) + 1 := by omega

          have ea203 : ((q : Int) + 1).toNat = q + 1 := by omega
          have pa203 : (0 : Int) ≤ (q : Int) + 1 := by omega
          have ba203 : (q : Int) + 1 < (d.size : Int) := by omega
          have ra203 : IntKind.i64.wrap ((q : Int) + 1) = (q : Int) + 1 := by rw [IntKind.wrap_i64]; omega
          have ec203 : ((q : Int)).toNat = q := by omega
          have pc203 : (0 : Int) ≤ (q : Int) := by omega
          have bc203 : (q : Int) < (d.size : Int) := by omega
          have rc203 : IntKind.i64.wrap ((q : Int)) = (q : Int) := by rw [IntKind.wrap_i64]; omega
          have S2 : Aside (SWK enc k w0 blk off (swp dk (q + 1) (q)) ((wr.drew.setCells blk (off + (q + 1) * k) (enc dk[q]!)).setCells blk (off + (q) * k) (enc dk[q + 1]!))) := S1.out.swapped R (q + 1) (q) (by omega) (by omega)
          have l203a := S1.out.ld1 R (by omega) P (q + 1) (by omega)
          have l203b := S1.out.ld1 R (by omega) P (q) (by omega)
          have s203a := S1.out.st1 R (by omega) P (q + 1) (by omega) dk[q]!
          have s203b := S1.out.st2 R (by omega) P (q + 1) (q) (by omega) (by omega) dk[q]! dk[q + 1]!
          have n203a : (enc dk[q + 1]!).length = k := R.hk _
          have n203b : (enc dk[q]!).length = k := R.hk _
          generalize enc dk[q + 1]! = cI203 at S2 l203a s203b n203a
          generalize enc dk[q]! = cJ203 at S2 l203b s203a s203b n203b
          go_wp2_with fail
          go_big_region_o
          clear l203a l203b s203a s203b
          generalize (wr.drew.setCells blk (off + (q + 1) * k) cJ203).setCells blk (off + (q) * k) cI203 = w2 at S2 ⊢
          go_wp2
          go_roundg (q - i)
          case measure => omega
          case rel => exact ⟨q, swp dk (q + 1) q, by go_num, by omega, by omega, Nat.le_refl _, by rw [size_swp]; exact hds, S2, Lib.hid (permIn_trans _ _ _ _ _ HPm.out (swp_permIn dk a b (q + 1) q (by omega) (by omega) (by omega) (by omega) (by omega))), Lib.hid (run_down d dk m q hqm (by omega) HX.out)⟩
        · obtain rfl : i = q := by omega
          have hqz : ¬ (i : Int) < (i : Int) := by omega
          have HF := Lib.hid (ins_right HSW.out H1.out (show a ≤ i by omega) (by omega) HLt.out HGe.out HX.out)
          rw [← HM.out] at HF
          go_wp2
          first | go_end0 | go_ret
          exact ⟨rfl, dk, S1.out, hds, HPm.out, HF.out⟩

end Go.Proofs.Ytjgnjahnfglbaaa

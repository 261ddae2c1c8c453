/- slices.symMergeCmpFunc at structs of k cells. -/
import Derived.Test.YtjgnjahnfglbaaaStF
namespace Go.Proofs.Ytjgnjahnfglbaaa
open Go.ChangeShapes Go.WideShapes Go.ChangeAt Go.RowKit Go.Shelf Go.Lib Go.Sort
set_option linter.unusedVariables false

variable {P : Program} {α : Type} [Inhabited α] {k : Nat} {enc : α → List Value} {blk off : Nat} {d0 : Array α} {w0 : World} {cf : α → α → Int}
def SymPost (d : Array α) (lt : α → α → Bool) (a b : Nat) (enc : α → List Value) (k : Nat) (w0 : World) (blk off : Nat) (e : Ending) (w' : World) : Prop := e = .returned (.tuple #[]) ∧ ∃ d', SWK enc k w0 blk off d' w' ∧ d'.size = d.size ∧ PermIn a b d d' ∧ SortedIn lt a b d'
set_option maxHeartbeats 8000000 in
set_option maxRecDepth 1000000 in
theorem sym_left (L : StL P k) (g : Nat) (cb : Array Value) (cap : Nat) (d : Array α) (w : World) (a m b : Nat) (hC : CmpLays P g cb enc k cf blk off d0.size w0) (eg : ∀ args w, (callFunc g args).run P w = .ok (.enter g args) w) (hS : SWO (ltOf cf)) (R : RowK enc k w0 blk off d0) (hs : d0.size = d.size) (S : SWK enc k w0 blk off d w) (ham : m = a + 1) (hmb : m < b) (hb : b ≤ d.size) (hsz : d.size < 4611686018427387904) (s2 : SortedIn (ltOf cf) m b d) :
    Calls P 22 #[.slice (some ⟨blk, off, none⟩) d.size cap, .int .i64 a, .int .i64 m, .int .i64 b, .func (.func g) #[] cb] w (SymPost d (ltOf cf) a b enc k w0 blk off) := by
  have mixed := L.mixed
  have t0 := L.t0
  have a0 := L.a0
  have z0 := L.z0
  have v0 := L.v0
  have t3 := L.t3
  have a3 := L.a3
  have z3 := L.z3
  have v3 := L.v3
  have t4 := L.t4
  have a4 := L.a4
  have z4 := L.z4
  have v4 := L.v4
  have t53 := L.t53
  have a53 := L.a53
  have z53 := L.z53
  have v53 := L.v53
  have t24 := L.t24
  have a24 := L.a24
  have z24 := L.z24
  have v24 := L.v24
  have t40 := L.t40
  have a40 := L.a40
  have z40 := L.z40
  have v40 := L.v40
  have aE := L.aE
  have zE := L.zE
  have u24 := run_underlying L.t24
  have FG := L.f_sym
  have HC : Aside _ := hC
  have S0 : Aside (SWK enc k w0 blk off d w) := S
  have H2 := Lib.hid s2
  have HSW := Lib.hid hS
  clear S hC s2 hS
  have h1z : (m : Int) - (a : Int) = 1 := by omega
  have HM := Lib.hid ham
  have hm1 : m ≤ a + 1 := by omega
  have hm2 : a + 1 ≤ m := by omega
  clear ham
  go_enter FG, Try.ntmps22
  go_wp2
  clear h1z
  go_loopg [10, 11] (b - a) (fun kx s10 s11 wr => ∃ (i j : Nat), s10 = .int .i64 i ∧ s11 = .int .i64 j ∧ m ≤ i ∧ i ≤ j ∧ j ≤ b ∧ j - i ≤ kx ∧ Aside (SWK enc k w0 blk off d wr) ∧ Hid (∀ q, m ≤ q → q < i → ltOf cf d[q]! d[a]! = true) ∧ Hid (∀ q, j ≤ q → q < b → ltOf cf d[q]! d[a]! = false))
  case atStart => exact ⟨m, b, rfl, rfl, by omega, by omega, by omega, by omega, S0, Lib.hid fun q h1 h2 => by omega, Lib.hid fun q h1 h2 => by omega⟩
  case round =>
    clear S0
    obtain ⟨i, j, rfl, rfl, hai, hij, hjb, hkx, S1, HLt, HGe⟩ := hrel
    by_cases hlt : i < j
    · have hltz : (i : Int) < (j : Int) := by omega
      obtain ⟨h, hh⟩ : ∃ h, h = (i + j) / 2 := ⟨_, rfl⟩
      have hhi : i ≤ h := by omega
      have hhj : h < j := by omega
      go_upto_region 5 with (fail)
      have hhz : ((i : Int) + (j : Int)) / 2 = (h : Int) := by omega
      rw [hhz]
      clear hhz hh
      cases hL : ltOf cf d[h]! d[a]! with

      | true =>
        have ea101 : ((h : Int)).toNat = h := by omega
        have pa101 : (0 : Int) ≤ (h : Int) := by omega
        have ba101 : (h : Int) < (d.size : Int) := by omega
        have ra101 : IntKind.i64.wrap ((h : Int)) = (h : Int) := by rw [IntKind.wrap_i64]; omega
        have ec101 : ((a : Int)).toNat = a := by omega
        have pc101 : (0 : Int) ≤ (a : Int) := by omega
        have bc101 : (a : Int) < (d.size : Int) := by omega
        have rc101 : IntKind.i64.wrap ((a : Int)) = (a : Int) := by rw [IntKind.wrap_i64]; omega
        obtain ⟨x101, hx101⟩ : ∃ x, x = d[h]! := ⟨_, rfl⟩
        obtain ⟨y101, hy101⟩ : ∃ x, x = d[a]! := ⟨_, rfl⟩
        have l101a := S1.out.ld R (by omega) P (h) (by omega)
        have l101b := S1.out.ld R (by omega) P (a) (by omega)
        rw [← hx101] at l101a
        rw [← hy101] at l101b
        have hc101 := S1.out.cmp HC.out (by omega) x101 y101
        have hv101 : cf x101 y101 < 0 := by rw [hx101, hy101]; exact of_decide_eq_true hL
        have hd101 : decide (cf x101 y101 < 0) = true := decide_eq_true hv101
        clear hx101 hy101
        go_wp2_with fail
        go_quiet_grown (first | (go_at_fn g; refine Calls.grown_of (hc101 _ _)))
        have S2 : Aside (SWK enc k w0 blk off d (grow (wr.drewN nq) osq)) := S1.out.grown nq osq
        clear l101a l101b hc101
        generalize grow (wr.drewN nq) osq = w2 at S2 ⊢
        clear nq osq
        have HLt2 : Hid (∀ q, m ≤ q → q < h + 1 → ltOf cf d[q]! d[a]! = true) := Lib.hid fun q h1 h2 => ext_lt HSW.out H2.out h1 (by omega) (by omega) hL
        go_wp2
        go_roundg (j - (h + 1))
        case measure => omega
        case rel => exact ⟨h + 1, j, by go_num, rfl, by omega, by omega, by omega, Nat.le_refl _, S2, HLt2, HGe⟩
      | false =>
        have ea102 : ((h : Int)).toNat = h := by omega
        have pa102 : (0 : Int) ≤ (h : Int) := by omega
        have ba102 : (h : Int) < (d.size : Int) := by omega
        have ra102 : IntKind.i64.wrap ((h : Int)) = (h : Int) := by rw [IntKind.wrap_i64]; omega
        have ec102 : ((a : Int)).toNat = a := by omega
        have pc102 : (0 : Int) ≤ (a : Int) := by omega
        have bc102 : (a : Int) < (d.size : Int) := by omega
        have rc102 : IntKind.i64.wrap ((a : Int)) = (a : Int) := by rw [IntKind.wrap_i64]; omega
        obtain ⟨x102, hx102⟩ : ∃ x, x = d[h]! := ⟨_, rfl⟩
        obtain ⟨y102, hy102⟩ : ∃ x, x = d[a]! := ⟨_, rfl⟩
        have l102a := S1.out.ld R (by omega) P (h) (by omega)
        have l102b := S1.out.ld R (by omega) P (a) (by omega)
        rw [← hx102] at l102a
        rw [← hy102] at l102b
        have hc102 := S1.out.cmp HC.out (by omega) x102 y102
        have hv102 : ¬ cf x102 y102 < 0 := by rw [hx102, hy102]; exact of_decide_eq_false hL
        have hd102 : decide (cf x102 y102 < 0) = false := decide_eq_false hv102
        clear hx102 hy102
        go_wp2_with fail
        go_quiet_grown (first | (go_at_fn g; refine Calls.grown_of (hc102 _ _)))
        have S2 : Aside (SWK enc k w0 blk off d (grow (wr.drewN nq) osq)) := S1.out.grown nq osq
        clear l102a l102b hc102
        generalize grow (wr.drewN nq) osq = w2 at S2 ⊢
        clear nq osq
        have HGe2 : Hid (∀ q, h ≤ q → q < b → ltOf cf d[q]! d[a]! = false) := Lib.hid fun q h1 h2 => ext_ge HSW.out H2.out (by omega) h1 h2 hL
        go_wp2
        go_roundg (h - i)
        case measure => omega
        case rel => exact ⟨i, h, rfl, rfl, by omega, by omega, by omega, Nat.le_refl _, S2, HLt, HGe2⟩
    · obtain rfl : i = j := by omega
      have hltz : ¬ (i : Int) < (i : Int) := by omega
      go_wp2_with fail
      go_loopg [13] (i - a) (fun kx s13 wr => ∃ (q : Nat) (dk : Array α), s13 = .int .i64 q ∧ a ≤ q ∧ q + 1 ≤ i ∧ i - q ≤ kx ∧ dk.size = d.size ∧ Aside (SWK enc k w0 blk off dk wr) ∧ Hid (PermIn a b d dk) ∧ Hid (∀ t, dk[t]! = rotS (fun i => d[i]!) a (a + 1) (q + 1) t))
      case atStart => exact ⟨a, d, rfl, Nat.le_refl _, by omega, by omega, rfl, S1, Lib.hid (permIn_refl _ _ _), Lib.hid fun t => (rot_none _ _ _ _ (by omega) (by omega) (.inr rfl) t).symm⟩
      case round =>
        clear S1
        obtain ⟨q, dk, rfl, haq, hqi, hkx2, hds, S1, HPm, HX⟩ := hrel
        by_cases hq : q + 1 < i
        · have hqz : (q : Int) < (i : Int) - 1 := by omega

          have ea103 : ((q : Int)).toNat = q := by omega
          have pa103 : (0 : Int) ≤ (q : Int) := by omega
          have ba103 : (q : Int) < (d.size : Int) := by omega
          have ra103 : IntKind.i64.wrap ((q : Int)) = (q : Int) := by rw [IntKind.wrap_i64]; omega
          have ec103 : ((q : Int) + 1).toNat = q + 1 := by omega
          have pc103 : (0 : Int) ≤ (q : Int) + 1 := by omega
          have bc103 : (q : Int) + 1 < (d.size : Int) := by omega
          have rc103 : IntKind.i64.wrap ((q : Int) + 1) = (q : Int) + 1 := by rw [IntKind.wrap_i64]; omega
          have S2 : Aside (SWK enc k w0 blk off (swp dk (q) (q + 1)) ((wr.drew.setCells blk (off + (q) * k) (enc dk[q + 1]!)).setCells blk (off + (q + 1) * k) (enc dk[q]!))) := S1.out.swapped R (q) (q + 1) (by omega) (by omega)
          have l103a := S1.out.ld1 R (by omega) P (q) (by omega)
          have l103b := S1.out.ld1 R (by omega) P (q + 1) (by omega)
          have s103a := S1.out.st1 R (by omega) P (q) (by omega) dk[q + 1]!
          have s103b := S1.out.st2 R (by omega) P (q) (q + 1) (by omega) (by omega) dk[q + 1]! dk[q]!
          have n103a : (enc dk[q]!).length = k := R.hk _
          have n103b : (enc dk[q + 1]!).length = k := R.hk _
          generalize enc dk[q]! = cI103 at S2 l103a s103b n103a
          generalize enc dk[q + 1]! = cJ103 at S2 l103b s103a s103b n103b
          go_wp2_with fail
          go_big_region_o
          clear l103a l103b s103a s103b
          generalize (wr.drew.setCells blk (off + (q) * k) cJ103).setCells blk (off + (q + 1) * k) cI103 = w2 at S2 ⊢
          go_wp2
          go_roundg (i - (q + 1))
          case measure => omega
          case rel => exact ⟨q + 1, swp dk q (q + 1), by go_num, by omega, by omega, Nat.le_refl _, by rw [size_swp]; exact hds, S2, Lib.hid (permIn_trans _ _ _ _ _ HPm.out (swp_permIn dk a b q (q + 1) (by omega) (by omega) (by omega) (by omega) (by omega))), Lib.hid (run_up d dk a q haq (by omega) HX.out)⟩
        · have hqz : ¬ (q : Int) < (i : Int) - 1 := by omega
          have hqe : q + 1 = i := by omega
          have HF := Lib.hid (ins_left HSW.out (by rw [← HM.out]; exact H2.out) (show a + 1 ≤ i by omega) (by omega) (by rw [← HM.out]; exact HLt.out) HGe.out (fun t => by rw [HX.out t, hqe]))
          go_wp2
          first | go_end0 | go_ret
          exact ⟨rfl, dk, S1.out, hds, HPm.out, HF.out⟩

end Go.Proofs.Ytjgnjahnfglbaaa

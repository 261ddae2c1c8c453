/- slices.rotateCmpFunc, symMergeCmpFunc at structs of k cells. -/
import Derived.Test.YtjgnjahnfglbaaaStE
namespace Go.Proofs.Ytjgnjahnfglbaaa
open Go.ChangeShapes Go.WideShapes Go.ChangeAt Go.RowKit Go.Shelf Go.Lib Go.Sort
set_option linter.unusedVariables false

variable {P : Program} {α : Type} [Inhabited α] {k : Nat} {enc : α → List Value} {blk off : Nat} {d0 : Array α} {w0 : World}
theorem swapRange_z (L : StL P k) (g : Nat) (cb : Array Value) (cap : Nat) (d : Array α) (w : World) (az bz nz : Int) (a b n : Nat) (ha : az = a) (hbz : bz = b) (hn : nz = n) (R : RowK enc k w0 blk off d0) (hs : d0.size = d.size) (S : SWK enc k w0 blk off d w) (hab : a + n ≤ b) (hb : b + n ≤ d.size) (hsz : d.size < 4611686018427387904) :
    Calls P 25 #[.slice (some ⟨blk, off, none⟩) d.size cap, .int .i64 az, .int .i64 bz, .int .i64 nz, .func (.func g) #[] cb] w fun e w' => e = .returned (.tuple #[]) ∧ ∃ d', SWK enc k w0 blk off d' w' ∧ d'.size = d.size ∧ PermIn a (b + n) d d' ∧ ∀ q, d'[q]! = exS (fun i => d[i]!) a b n q := by
  subst ha; subst hbz; subst hn
  exact swapRange_any L g cb cap d w a b n R hs S hab hb hsz
def RotPost (d : Array α) (a m b : Nat) (enc : α → List Value) (k : Nat) (w0 : World) (blk off : Nat) (e : Ending) (w' : World) : Prop := e = .returned (.tuple #[]) ∧ ∃ d', SWK enc k w0 blk off d' w' ∧ d'.size = d.size ∧ PermIn a b d d' ∧ ∀ q, d'[q]! = rotS (fun i => d[i]!) a m b q
set_option maxHeartbeats 4000000 in
set_option maxRecDepth 1000000 in
theorem rotate_any (L : StL P k) (g : Nat) (cb : Array Value) (cap : Nat) (d : Array α) (w : World) (a m b : Nat) (R : RowK enc k w0 blk off d0) (hs : d0.size = d.size) (S : SWK enc k w0 blk off d w) (ham : a < m) (hmb : m < b) (hb : b ≤ d.size) (hsz : d.size < 4611686018427387904) :
    Calls P 24 #[.slice (some ⟨blk, off, none⟩) d.size cap, .int .i64 a, .int .i64 m, .int .i64 b, .func (.func g) #[] cb] w (RotPost d a m b enc k w0 blk off) := by
  have mixed := L.mixed
  have t0 := L.t0
  have a0 := L.a0
  have z0 := L.z0
  have v0 := L.v0
  have t3 := L.t3
  have a3 := L.a3
  have z3 := L.z3
  have v3 := L.v3
  have t4 := L.t4
  have a4 := L.a4
  have z4 := L.z4
  have v4 := L.v4
  have t53 := L.t53
  have a53 := L.a53
  have z53 := L.z53
  have v53 := L.v53
  have t24 := L.t24
  have a24 := L.a24
  have z24 := L.z24
  have v24 := L.v24
  have t40 := L.t40
  have a40 := L.a40
  have z40 := L.z40
  have v40 := L.v40
  have aE := L.aE
  have zE := L.zE
  have u24 := run_underlying L.t24
  have FG := L.f_rot
  have e25 : ∀ args w, (callFunc 25 args).run P w = .ok (.enter 25 args) w := enters_of L.f_sw (by kernel_rfl) rfl
  have HSW : Hid _ := Lib.hid (fun d1 w1 az bz nz a1 b1 n1 => @swapRange_z P α _ k enc blk off d0 w0 L g cb cap d1 w1 az bz nz a1 b1 n1)
  have S0 : Aside (SWK enc k w0 blk off d w) := S
  clear S
  go_enter FG, Try.ntmps24
  go_wp2
  go_loopg [10, 11] (b - a) (fun kx s10 s11 wr => ∃ (i j : Nat) (dk : Array α), s10 = .int .i64 i ∧ s11 = .int .i64 j ∧ 1 ≤ i ∧ 1 ≤ j ∧ a + i ≤ m ∧ m + j ≤ b ∧ i + j ≤ kx ∧ dk.size = d.size ∧ Aside (SWK enc k w0 blk off dk wr) ∧ Hid (PermIn a b d dk) ∧ Hid (∀ q, rotS (fun i => dk[i]!) (m - i) m (m + j) q = rotS (fun i => d[i]!) a m b q))
  case atStart => exact ⟨m - a, b - m, d, by rw [show ((m - a : Nat) : Int) = (m : Int) - (a : Int) by omega], by rw [show ((b - m : Nat) : Int) = (b : Int) - (m : Int) by omega], by omega, by omega, by omega, by omega, by omega, rfl, S0, Lib.hid (permIn_refl _ _ _), Lib.hid fun q => by rw [show m - (m - a) = a by omega, show m + (b - m) = b by omega]⟩
  case round =>
    clear S0
    obtain ⟨i, j, dk, rfl, rfl, hi1, hj1, hai, hjb, hkx, hds, S1, HPm, HX⟩ := hrel
    by_cases hij : i = j
    · subst hij
      go_wp2_with (go_at_fn 25; rw [← hds]; refine (HSW.out dk _ _ _ _ (m - i) m i (by omega) rfl rfl R (by omega) S1.out (by omega) (by omega) (by omega)).mono ?_; rintro e w' ⟨rfl, d', S2, z2, p2, x2⟩)
      have S3 : Aside (SWK enc k w0 blk off d' w') := S2
      have P3 := Lib.hid (permIn_trans _ _ _ _ _ HPm.out (permIn_mono dk d' (m - i) (m + i) a b (by omega) (by omega) (by omega) p2))
      have X3 : Hid (∀ q, d'[q]! = rotS (fun i => d[i]!) a m b q) := Lib.hid fun q => by rw [x2, rot_end _ _ _ (by omega), HX.out]
      clear S2 p2 x2
      go_wp2
      go_end0
      exact ⟨rfl, d', S3.out, by omega, P3.out, X3.out⟩
    · have hijz : ¬ (i : Int) = (j : Int) := by omega
      by_cases hlt : j < i
      · have hltz : (j : Int) < (i : Int) := by omega
        go_wp2_with (go_at_fn 25; rw [← hds]; refine (HSW.out dk _ _ _ _ (m - i) m j (by omega) rfl rfl R (by omega) S1.out (by omega) (by omega) (by omega)).mono ?_; rintro e w' ⟨rfl, d', S2, z2, p2, x2⟩)
        have S3 : Aside (SWK enc k w0 blk off d' w') := S2
        have P3 := Lib.hid (permIn_trans _ _ _ _ _ HPm.out (permIn_mono dk d' (m - i) (m + j) a b (by omega) (by omega) (by omega) p2))
        have X3 : Hid (∀ q, rotS (fun i => d'[i]!) (m - (i - j)) m (m + j) q = rotS (fun i => d[i]!) a m b q) := Lib.hid fun q => by rw [← HX.out]; exact rot_left _ _ m i j (by omega) hlt x2 q
        have hez : (i : Int) - (j : Int) = ((i - j : Nat) : Int) := by omega
        have HEz := Lib.hid hez
        clear S2 p2 x2 hez
        go_wp2
        go_roundg (i - j + j)
        case measure => omega
        case rel => exact ⟨i - j, j, d', by rw [HEz.out], rfl, by omega, by omega, by omega, by omega, by omega, by omega, S3, P3, X3⟩
      · have hltz : ¬ (j : Int) < (i : Int) := by omega
        go_wp2_with (go_at_fn 25; rw [← hds]; refine (HSW.out dk _ _ _ _ (m - i) (m + j - i) i (by omega) (by omega) rfl R (by omega) S1.out (by omega) (by omega) (by omega)).mono ?_; rintro e w' ⟨rfl, d', S2, z2, p2, x2⟩)
        have S3 : Aside (SWK enc k w0 blk off d' w') := S2
        have P3 := Lib.hid (permIn_trans _ _ _ _ _ HPm.out (permIn_mono dk d' (m - i) (m + j - i + i) a b (by omega) (by omega) (by omega) p2))
        have X3 : Hid (∀ q, rotS (fun i => d'[i]!) (m - i) m (m + (j - i)) q = rotS (fun i => d[i]!) a m b q) := Lib.hid fun q => by rw [← HX.out]; exact rot_right _ _ m i j (by omega) (by omega) x2 q
        have hez : (j : Int) - (i : Int) = ((j - i : Nat) : Int) := by omega
        have HEz := Lib.hid hez
        clear S2 p2 x2 hez
        go_wp2
        go_roundg (i + (j - i))
        case measure => omega
        case rel => exact ⟨i, j - i, d', rfl, by rw [HEz.out], by omega, by omega, by omega, by omega, by omega, by omega, S3, P3, X3⟩

end Go.Proofs.Ytjgnjahnfglbaaa

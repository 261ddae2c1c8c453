/- slices.SortStableFunc at rows of a table. -/
import Derived.Test.YtjgnjahnfglbaaaStI
import Derived.Test.YtjgnjahnfglbaaaStL
namespace Go.Proofs.Ytjgnjahnfglbaaa
open Go.ChangeShapes Go.WideShapes Go.ChangeAt Go.RowKit Go.Shelf Go.Lib Go.Sort
set_option linter.unusedVariables false

/-! ### insertion sort -/
def rhoI : Ren := ⟨fun x => if x = 20 then 21 else x, fun x => if x = 22 then 24 else if x = 24 then 30 else if x = 25 then 40 else x, fun x => x⟩
theorem layI : SlLaysF0.n20 Try.prog rhoI where
  mixed := by kernel_rfl
  f20 := ⟨Try.f21.name, by kernel_rfl, by kernel_rfl⟩
  t0 := by kernel_rfl
  a0 := fun w => by kernel_rfl
  z0 := fun w => by kernel_rfl
  v0 := fun w => by kernel_rfl
  t3 := by kernel_rfl
  a3 := fun w => by kernel_rfl
  z3 := fun w => by kernel_rfl
  v3 := fun w => by kernel_rfl
  t4 := by kernel_rfl
  a4 := fun w => by kernel_rfl
  z4 := fun w => by kernel_rfl
  v4 := fun w => by kernel_rfl
  t22 := by kernel_rfl
  a22 := fun w => by kernel_rfl
  z22 := fun w => by kernel_rfl
  v22 := fun w => by kernel_rfl
  t25 := by kernel_rfl
  a25 := fun w => by kernel_rfl
  z25 := fun w => by kernel_rfl
  v25 := fun w => by kernel_rfl

section
variable {α : Type} [Inhabited α] {enc : α → List Value} {k : Nat} {w0 W : World} {blk off : Nat} {d d0 : Array α} {cf : α → α → Int}
theorem cmp_later {P : Program} {g : Nat} {cb : Array Value} (S : SWK enc k w0 blk off d W) (hblk : blk < w0.heap.size) (hC : CmpLays P g cb enc k cf blk off d0.size w0) (hs : d.size = d0.size) : CmpLays P g cb enc k cf blk off d.size W := by
  intro m os dk hdk x y
  have h := (S.on hblk m dk os hdk).cmp hC (by omega) x y 0 #[]
  rw [grow_empty] at h
  exact h
theorem ins_any (hk : ∀ x, (enc x).length = 8) (cap : Nat) (cb : Array Value) (g : Nat) (hC : CmpLays Try.prog g cb enc 8 cf blk off d0.size w0) (eg : ∀ args w, (callFunc g args).run Try.prog w = .ok (.enter g args) w) (hS : SWO (ltOf cf)) (R : RowK enc 8 w0 blk off d0) (hs : d0.size = d.size) (S : SWK enc 8 w0 blk off d W) (a b : Nat) (hab : a ≤ b) (hb : b ≤ d.size) (hsz : d.size < 4611686018427387904) :
    Calls Try.prog 21 #[.slice (some ⟨blk, off, none⟩) d.size cap, .int .i64 a, .int .i64 b, .func (.func g) #[] cb] W (SymPost d (ltOf cf) a b enc 8 w0 blk off) := by
  have h := AnyQ.insertionSortCmpFunc layI 8 (fun w => by kernel_rfl) (fun w => by kernel_rfl) enc hk R.h1 cf g cb blk off cap a b d W eg (cmp_later S R.hblk hC hs.symm) (S.holds R.hblk R.hH hs.symm) (S.lt R.hblk) hab hb hsz
  have hf : rhoI.f 20 = 21 := rfl
  rw [hf] at h
  refine h.mono ?_
  rintro e w' ⟨rfl, n, os, rfl⟩
  have hi := insertionSort_holds hS d a b hab hb
  exact ⟨rfl, _, S.on R.hblk n _ os hi.1.1, hi.1.1, hi.1, hi.2⟩
end

/-! ### the blocks -/
variable {P : Program} {α : Type} [Inhabited α] {k : Nat} {enc : α → List Value} {blk off : Nat} {d0 : Array α} {w0 : World} {cf : α → α → Int}
def InsSaid (P : Program) {α : Type} [Inhabited α] (k : Nat) (enc : α → List Value) (blk off : Nat) (w0 : World) (cf : α → α → Int) (g : Nat) (cb : Array Value) (cap n : Nat) : Prop :=
  ∀ (d : Array α) (w : World) (az bz : Int) (a b : Nat), az = a → bz = b → d.size = n → SWK enc k w0 blk off d w → a ≤ b → b ≤ n →
    Calls P 21 #[.slice (some ⟨blk, off, none⟩) n cap, .int .i64 az, .int .i64 bz, .func (.func g) #[] cb] w (SymPost d (ltOf cf) a b enc k w0 blk off)
theorem sym_said (L : StL P k) (g : Nat) (cb : Array Value) (cap : Nat) (n : Nat) (hC : CmpLays P g cb enc k cf blk off d0.size w0) (eg : ∀ args w, (callFunc g args).run P w = .ok (.enter g args) w) (hS : SWO (ltOf cf)) (R : RowK enc k w0 blk off d0) (hs : d0.size = n) (hsz : n < 4611686018427387904) : ∀ N, SymSaid P k enc blk off w0 cf g cb cap n N
  | 0 => fun d w az mz bz a m b ha hm hb hN hd S h1 h2 => by omega
  | N + 1 => sym_step L g cb cap n hC eg hS R hs hsz N (sym_said L g cb cap n hC eg hS R hs hsz N)
set_option maxHeartbeats 8000000 in
set_option maxRecDepth 1000000 in
theorem stable_any (L : StL P k) (g : Nat) (cb : Array Value) (cap : Nat) (n : Nat) (d : Array α) (w : World) (HI : InsSaid P k enc blk off w0 cf g cb cap n) (HY : ∀ N, SymSaid P k enc blk off w0 cf g cb cap n N) (hdn : d.size = n) (hn : n ≤ 32) (S : SWK enc k w0 blk off d w) :
    Calls P 16 #[.slice (some ⟨blk, off, none⟩) n cap, .int .i64 n, .func (.func g) #[] cb] w (SymPost d (ltOf cf) 0 n enc k w0 blk off) := by
  have mixed := L.mixed
  have t0 := L.t0
  have a0 := L.a0
  have z0 := L.z0
  have v0 := L.v0
  have t3 := L.t3
  have a3 := L.a3
  have z3 := L.z3
  have v3 := L.v3
  have t4 := L.t4
  have a4 := L.a4
  have z4 := L.z4
  have v4 := L.v4
  have t53 := L.t53
  have a53 := L.a53
  have z53 := L.z53
  have v53 := L.v53
  have t24 := L.t24
  have a24 := L.a24
  have z24 := L.z24
  have v24 := L.v24
  have t40 := L.t40
  have a40 := L.a40
  have z40 := L.z40
  have v40 := L.v40
  have aE := L.aE
  have zE := L.zE
  have u24 := run_underlying L.t24
  have FG := L.f_stable
  have e21 : ∀ args w, (callFunc 21 args).run P w = .ok (.enter 21 args) w := enters_of L.f_ins (by kernel_rfl) rfl
  have e22 : ∀ args w, (callFunc 22 args).run P w = .ok (.enter 22 args) w := enters_of L.f_sym (by kernel_rfl) rfl
  have HIn := Lib.hid HI
  have HSy := Lib.hid (HY 64)
  have S0 : Aside (SWK enc k w0 blk off d w) := S
  have HDN := Lib.hid hdn
  clear S HI HY hdn
  go_enter FG, Try.ntmps16
  go_wp2_with fail
  go_loopg [7, 8] 2 (fun kx s7 s8 wr => ∃ (t : Nat) (dk : Array α), s7 = .int .i64 ((20 * t : Nat) : Int) ∧ s8 = .int .i64 ((20 * t + 20 : Nat) : Int) ∧ 20 * t ≤ n ∧ 2 - t ≤ kx ∧ Aside (SWK enc k w0 blk off dk wr) ∧ Hid (PermIn 0 n d dk) ∧ Hid (SortedIn (ltOf cf) 0 (20 * t) dk))
  case atStart => exact ⟨0, d, rfl, rfl, by omega, by omega, S0, Lib.hid (permIn_refl _ _ _), Lib.hid fun i j h1 h2 h3 => by omega⟩
  case round =>
    clear S0
    obtain ⟨t, dk, rfl, rfl, htn, hkx, S1, HPm, HSo⟩ := hrel
    by_cases hlt : 20 * t + 20 ≤ n
    · obtain rfl : t = 0 := by omega
      have hltz : (20 : Int) ≤ (n : Int) := by omega
      go_wp2_with (go_at_fn 21; refine (HIn.out dk wr _ _ 0 20 (by simp) (by simp) (by have := HPm.out.1; have := HDN.out; omega) S1.out (by omega) (by omega)).mono ?_; rintro e' w' ⟨rfl, d1, S2', z1, p1, s1⟩)
      have S2 : Aside (SWK enc k w0 blk off d1 w') := S2'
      have HP2 := Lib.hid (permIn_trans _ _ _ _ _ HPm.out (permIn_mono dk d1 0 20 0 n (by omega) (by omega) (by have := HPm.out.1; have := HDN.out; omega) p1))
      have HS2 := Lib.hid s1
      clear S2' p1 s1
      go_wp2_with fail
      go_roundg 1
      case measure => omega
      case rel => exact ⟨1, d1, rfl, rfl, by omega, by omega, S2, HP2, HS2⟩
    · have hltz : ¬ (20 * (t : Int) + 20) ≤ (n : Int) := by omega
      have hltz2 : ¬ ((20 * t + 20 : Nat) : Int) ≤ (n : Int) := by omega
      go_upto_region 7 with (go_at_fn 21; refine (HIn.out dk wr _ _ (20 * t) n (by simp) (by simp) (by have := HPm.out.1; have := HDN.out; omega) S1.out (by omega) (by omega)).mono ?_; rintro e' w' ⟨rfl, d1, S2', z1, p1, s1⟩)
      have S2 : Aside (SWK enc k w0 blk off d1 w') := S2'
      have HP2 := Lib.hid (permIn_trans _ _ _ _ _ HPm.out (permIn_mono dk d1 (20 * t) n 0 n (by omega) (by omega) (by have := HPm.out.1; have := HDN.out; omega) p1))
      have HT2 : Hid (SortedIn (ltOf cf) 0 (min 20 n) d1 ∧ SortedIn (ltOf cf) 20 n d1) := Lib.hid (by
        have ht : t = 0 ∨ t = 1 := by omega
        have hlow : SortedIn (ltOf cf) 0 (20 * t) d1 := fun i j h1 h2 h3 => by rw [p1.2.1 i (.inl (by omega)), p1.2.1 j (.inl (by omega))]; exact HSo.out i j h1 h2 h3
        rcases ht with rfl | rfl
        · exact ⟨fun i j h1 h2 h3 => s1 i j (by omega) h2 (by omega), fun i j h1 h2 h3 => by omega⟩
        · exact ⟨fun i j h1 h2 h3 => hlow i j h1 h2 (by omega), s1⟩)
      clear S2' p1 s1 S1 HPm HSo hltz hltz2
      go_wp2_with fail
      go_loopg [6] 1 (fun kx2 s6 wr2 => ∃ (u : Nat) (d2 : Array α), s6 = .int .i64 ((20 + 20 * u : Nat) : Int) ∧ u ≤ 1 ∧ 1 - u ≤ kx2 ∧ Aside (SWK enc k w0 blk off d2 wr2) ∧ Hid (PermIn 0 n d d2) ∧ Hid ((u = 0 → SortedIn (ltOf cf) 0 (min 20 n) d2 ∧ SortedIn (ltOf cf) 20 n d2) ∧ (u = 1 → SortedIn (ltOf cf) 0 n d2)))
      case atStart => exact ⟨0, d1, rfl, by omega, by omega, S2, HP2, Lib.hid ⟨fun _ => HT2.out, fun h => by omega⟩⟩
      case round =>
        clear S2 HP2 HT2
        obtain ⟨u, d2, rfl, hu, hkx2, S3, HP3, HT3⟩ := hrel
        have hu2 : u = 0 ∨ u = 1 := by omega
        rcases hu2 with rfl | rfl
        · by_cases hn20 : 20 < n
          · have hz1 : (20 : Int) < (n : Int) := by omega
            have hz2 : ¬ (40 : Int) ≤ (n : Int) := by omega
            go_wp2_with fail
            go_loopg [7, 8] 0 (fun kx3 s7 s8 wr3 => s7 = .int .i64 0 ∧ s8 = .int .i64 40 ∧ Aside (SWK enc k w0 blk off d2 wr3))
            case atStart => exact ⟨rfl, rfl, S3⟩
            case round =>
              clear S3
              obtain ⟨rfl, rfl, S3⟩ := hrel
              go_wp2_with (go_at_fn 22; refine (HSy.out d2 _ _ _ _ 0 20 n rfl rfl rfl (by omega) (by have := HP3.out.1; have := HDN.out; omega) S3.out (by omega) (by omega) (by omega) (by have := (HT3.out.1 (by trivial)).1; rwa [show min 20 n = 20 by omega] at this) (HT3.out.1 (by trivial)).2).mono ?_; rintro e' w' ⟨rfl, d3, S4', z4, p4, s4⟩)
              have S4 : Aside (SWK enc k w0 blk off d3 w') := S4'
              have HP4 := Lib.hid (permIn_trans _ _ _ _ _ HP3.out p4)
              have HS4 := Lib.hid s4
              clear S4' p4 s4
              go_wp2_with fail
              go_roundg 0
              case measure => omega
              case rel => exact ⟨1, d3, rfl, by omega, by omega, S4, HP4, Lib.hid ⟨fun h => by omega, fun _ => HS4.out⟩⟩
          · have hz1 : ¬ (20 : Int) < (n : Int) := by omega
            have HF := Lib.hid (HT3.out.1 (by trivial)).1
            rw [show min 20 n = n by omega] at HF
            go_wp2_with fail
            first | go_end0 | go_ret
            exact ⟨rfl, d2, S3.out, by have := HP3.out.1; exact this, HP3.out, HF.out⟩
        · have hz1 : ¬ (40 : Int) < (n : Int) := by omega
          go_wp2_with fail
          first | go_end0 | go_ret
          exact ⟨rfl, d2, S3.out, by have := HP3.out.1; exact this, HP3.out, HT3.out.2 (by trivial)⟩
set_option maxRecDepth 1000000 in
theorem sort_any (L : StL P k) (g : Nat) (cb : Array Value) (cap : Nat) (n : Nat) (d : Array α) (w : World) (HI : InsSaid P k enc blk off w0 cf g cb cap n) (HY : ∀ N, SymSaid P k enc blk off w0 cf g cb cap n N) (hdn : d.size = n) (hn : n ≤ 32) (S : SWK enc k w0 blk off d w) :
    Calls P 11 #[.slice (some ⟨blk, off, none⟩) n cap, .func (.func g) #[] cb] w (SymPost d (ltOf cf) 0 n enc k w0 blk off) := by
  have mixed := L.mixed
  have t0 := L.t0
  have a0 := L.a0
  have z0 := L.z0
  have v0 := L.v0
  have t3 := L.t3
  have a3 := L.a3
  have z3 := L.z3
  have v3 := L.v3
  have t4 := L.t4
  have a4 := L.a4
  have z4 := L.z4
  have v4 := L.v4
  have t53 := L.t53
  have a53 := L.a53
  have z53 := L.z53
  have v53 := L.v53
  have t24 := L.t24
  have a24 := L.a24
  have z24 := L.z24
  have v24 := L.v24
  have t40 := L.t40
  have a40 := L.a40
  have z40 := L.z40
  have v40 := L.v40
  have aE := L.aE
  have zE := L.zE
  have u24 := run_underlying L.t24
  have FG := L.f_top
  have e16 : ∀ args w, (callFunc 16 args).run P w = .ok (.enter 16 args) w := enters_of L.f_stable (by kernel_rfl) rfl
  have HSt := Lib.hid (stable_any L g cb cap n d w HI HY hdn hn S)
  clear S HI HY
  go_enter FG, Try.ntmps11
  go_wp2_with (go_at_fn 16; refine HSt.out.mono ?_; rintro e' w' ⟨rfl, h⟩)
  first | go_end0 | go_ret
  exact ⟨rfl, h⟩
/-- the rows of a table, sorted. -/
theorem sortRows_holds : SortRowsSaid := by
  intro base g cap rs w h1 h32 hown
  have hlt : g < w.heap.size := (hown.lt g rfl).2
  have R : RowK encR 8 w g 0 rs.toArray := ⟨fun _ => rfl, encR_one, holds_row hown, hlt⟩
  have S := SWK.start (holds_row hown)
  have hC : CmpLays Try.prog 12 #[] encR 8 cfR g 0 rs.toArray.size w := fun m os dk _ x y => by
    have := order_any x y (sortWorldK encR 8 w g 0 m dk os)
    simpa using this
  have eg : ∀ args w, (callFunc 12 args).run Try.prog w = .ok (.enter 12 args) w := enters_of Try.func12 (by kernel_rfl) rfl
  have hsz : rs.toArray.size = rs.length := by simp
  have HI : InsSaid Try.prog 8 encR g 0 w cfR 12 #[] cap rs.length := fun d w1 az bz a b ha hb hd S1 hab hbn => by
    subst ha; subst hb
    rw [← hd]
    exact ins_any (fun _ => rfl) cap #[] _ hC eg ltR_swo R (by rw [hsz, hd]) S1 a b hab (by omega) (by omega)
  have HY := sym_said stL 12 #[] cap rs.length hC eg ltR_swo R hsz (by omega)
  refine (sort_any stL _ #[] cap rs.length rs.toArray w HI HY hsz h32 S).mono ?_
  rintro e w' ⟨rfl, d', ⟨n, os, rfl⟩, hz, hp, hs⟩
  obtain ⟨ts, rfl⟩ : ∃ ts : List RowZ, d' = ts.toArray := ⟨d'.toList, by simp⟩
  have hl : ts.length = rs.length := by simpa using hz
  have hperm : ts.Perm rs := by
    have := hp.2.2
    simpa [List.take_of_length_le (Nat.le_of_eq hl), hl] using this
  obtain ⟨o1, o2⟩ := own_row (n := n) (os := os) hown hl
  refine ⟨rfl, ts, hl, hperm, fun i j hi hj hij => ?_, o1, o2⟩
  have := hs i j (Nat.zero_le _) hij (by omega)
  rwa [getElem!_pos ts.toArray j (by simpa using hj), getElem!_pos ts.toArray i (by simpa using hi)] at this

end Go.Proofs.Ytjgnjahnfglbaaa

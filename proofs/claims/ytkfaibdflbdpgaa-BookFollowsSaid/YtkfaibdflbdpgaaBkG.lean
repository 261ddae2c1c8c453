/- book.Cover. -/
import Derived.Test.YtkfaibdflbdpgaaBq3
namespace Go.Proofs.Ytkfaibdflbdpgaa
open Go.ChangeShapes Go.WideShapes Go.ChangeAt Go.RowKit
set_option linter.unusedVariables false

def covF (f : Nat → Bool) : Nat → Nat → Nat
  | k, 0 => k
  | k, m + 1 => if f k = true then covF f (k + 1) m else k
theorem covF_step (f : Nat → Bool) (k n : Nat) (h : k < n) : covF f k (n - k) = if f k = true then covF f (k + 1) (n - (k + 1)) else k := by
  obtain ⟨m, hm⟩ : ∃ m, n - k = m + 1 := ⟨n - k - 1, by omega⟩
  rw [hm, covF, show n - (k + 1) = m by omega]
theorem covF_le (f : Nat → Bool) : ∀ (m k : Nat), covF f k m ≤ k + m
  | 0, k => Nat.le_refl _
  | m + 1, k => by
    unfold covF
    split
    · have := covF_le f m (k + 1); omega
    · omega
theorem covF_ge (f : Nat → Bool) (n : Nat) : ∀ (m k : Nat), n ≤ k + m → (∀ j, k ≤ j → j < n → f j = true) → n ≤ covF f k m
  | 0, k, h, _ => by unfold covF; omega
  | m + 1, k, h, hf => by
    unfold covF
    split
    · exact covF_ge f n m (k + 1) (by omega) (fun j h1 h2 => hf j (by omega) h2)
    · rename_i hn
      by_cases q : k < n
      · exact absurd (hf k (Nat.le_refl _) q) hn
      · omega
noncomputable def covN (R : RulesZ) (b : List BkZ) (l : List MoveZ) : Nat := covF (fun j => hitB b (entB R l 0 j)) 0 (l.length - 0)
def covErr (R : RulesZ) (b : List BkZ) (l : List MoveZ) : Int := if bookErr b ≠ 0 then bookErr b else runErr R l
noncomputable def covR (R : RulesZ) (b : List BkZ) (l : List MoveZ) : Value := if covErr R b l = 0 then .tuple #[.int .i64 (covN R b l), .int .i64 0] else .tuple #[.int .i64 0, .int .i64 (covErr R b l)]
set_option maxRecDepth 100000 in
set_option maxHeartbeats 8000000 in
theorem Cover_any (HS : SortMvSaid) (R : RulesZ) (vp vs ve : Value) (vb : Value) (b : List BkZ) (v : Value) (l : List MoveZ) (w : World) (hr : RdR w R vp vs ve) (hnm : R.name.size ≤ maxLen) (hb : RdL bkEl w vb b) (hl : RdL moveEl w v l) :
    Calls Try.prog 53 #[(.agg #[.string R.name, .int .i64 R.width, .int .i64 R.height, vp, vs, .bool R.falls, .bool R.keeps, ve, .int .i64 R.blocked, .int .i64 R.quiet, .int .i64 R.rept]), vb, v] w fun e w' => e = .returned (covR R b l) ∧ Below w.heap.size w w' := by
  have HSh := Lib.hid HS
  have HR := Lib.hid hr
  have HN := Lib.hid hnm
  have HBk := Lib.hid hb
  have HL := Lib.hid hl
  have HD : Hid (covErr R b l = if bookErr b ≠ 0 then bookErr b else runErr R l) := Lib.hid rfl
  have HDR : Hid (covR R b l = if covErr R b l = 0 then .tuple #[.int .i64 (covN R b l), .int .i64 0] else .tuple #[.int .i64 0, .int .i64 (covErr R b l)]) := Lib.hid rfl
  obtain ⟨a, c, rfl, h1, h2⟩ := hl.form
  unfold maxLen at h2
  clear hr hnm hl HS hb
  go_enter Try.func53, Try.ntmps53
  go_upto_region 1 with (fail)
  have B0 : Box (w.alloc (.cells #[.string R.name, .int .i64 R.width, .int .i64 R.height, vp, vs, .bool R.falls, .bool R.keeps, ve, .int .i64 R.blocked, .int .i64 R.quiet, .int .i64 R.rept] 26)) (w.heap.size) [.string R.name, .int .i64 R.width, .int .i64 R.height, vp, vs, .bool R.falls, .bool R.keeps, ve, .int .i64 R.blocked, .int .i64 R.quiet, .int .i64 R.rept] 26 := (Box.new' w (w.heap.size) [.string R.name, .int .i64 R.width, .int .i64 R.height, vp, vs, .bool R.falls, .bool R.keeps, ve, .int .i64 R.blocked, .int .i64 R.quiet, .int .i64 R.rept] 26 (by simp <;> omega))
  have HB : Hid (Below w.heap.size w (w.alloc (.cells #[.string R.name, .int .i64 R.width, .int .i64 R.height, vp, vs, .bool R.falls, .bool R.keeps, ve, .int .i64 R.blocked, .int .i64 R.quiet, .int .i64 R.rept] 26))) := Lib.hid ((Below.refl w.heap.size w).alloc (Nat.le_refl _) _)
  have hz0 : w.heap.size < (w.alloc (.cells #[.string R.name, .int .i64 R.width, .int .i64 R.height, vp, vs, .bool R.falls, .bool R.keeps, ve, .int .i64 R.blocked, .int .i64 R.quiet, .int .i64 R.rept] 26)).heap.size := by simp
  generalize (w.alloc (.cells #[.string R.name, .int .i64 R.width, .int .i64 R.height, vp, vs, .bool R.falls, .bool R.keeps, ve, .int .i64 R.blocked, .int .i64 R.quiet, .int .i64 R.rept] 26)) = w0 at *
  have HB0 := Lib.hid B0
  clear B0
  go_wp2_with fail
  refine (bkCheck_any _ b w0 (HBk.out.below HB.out (Nat.le_refl _))).mono ?_
  rintro e w1 ⟨rfl, hb1⟩
  have HL1 := Lib.hid (below_trans HB.out hb1 HB.out.size)
  have HC0 := Lib.hid (HB0.out.stays hb1)
  clear hb1 HB0
  by_cases he : bookErr b = 0
  rotate_left
  · have HNE : Hid (covR R b l = .tuple #[.int .i64 0, .int .i64 (bookErr b)]) := Lib.hid (by rw [HDR.out, HD.out, if_pos he, if_neg he])
    have he' : (bookErr b != 0) = true := by simpa using he
    clear he
    go_wp2_with fail
    go_ret2
    exact ⟨by rw [HNE.out]; rfl, HL1.out⟩
  have HE0 := Lib.hid he
  have HD1 : Hid (covErr R b l = runErr R l) := Lib.hid (by rw [HD.out, if_neg (fun q => q he)])
  rw [he]
  clear he
  go_upto_region 4 with (fail)
  refine wp_region_lit ?_
  refine wpList_load_box (by rfl) 26 (.tmp 3) (by rfl) (w.heap.size) (by rfl) HC0.out Try.underlying26 (by rfl) (by kernel_rfl) ?_
  go_wp2_with fail
  refine (PRun_any HSh.out R vp vs ve _ l w1 (HR.out.below HL1.out (Nat.le_refl _)) HN.out (HL.out.below HL1.out (Nat.le_refl _))).mono ?_
  rintro e w2 (⟨hbad, rfl, hb2⟩ | ⟨hok, hre, hla, hle, yc, y0, y1, rfl, ho2, hb2⟩)
  · have HNE : Hid (covR R b l = .tuple #[.int .i64 0, .int .i64 (runErr R l)]) := Lib.hid (by rw [HDR.out, HD1.out, if_neg hbad])
    have he' : (runErr R l != 0) = true := by simpa using hbad
    have HB2 := Lib.hid (below_trans HL1.out hb2 HL1.out.size)
    clear hbad hb2
    unfold zeroPos
    go_wp2_with fail
    go_ret2
    exact ⟨by rw [HNE.out]; rfl, HB2.out.alloc HB2.out.size _⟩
  have HER : Hid (covR R b l = .tuple #[.int .i64 (covN R b l), .int .i64 0]) := Lib.hid (by rw [HDR.out, HD1.out, if_pos hok])
  have HRZ := Lib.hid hre
  have HLA := Lib.hid hla
  have hl4 := hle
  have HSW := Lib.hid (bookErr_ok HE0.out)
  have hbl := HSW.out.1
  obtain ⟨ya, yn, rfl⟩ := own_form2 ho2.1
  obtain ⟨ya0, yn0, rfl⟩ := own_form2 ho2.2.1
  obtain ⟨ya1, yn1, rfl⟩ := own_form2 ho2.2.2.1
  have HL2 := Lib.hid (below_trans HL1.out hb2 HL1.out.size)
  have HD0 := Lib.hid (HC0.out.stays hb2)
  clear hok hre hla hle hb2 ho2 HC0 HL1 HD HDR
  unfold posV
  go_upto_region 7 with (fail)
  have HL4 := Lib.hid (HL2.out.alloc HL2.out.size (.cells #[.slice ya (nowZ R l).cells.length yn, .slice ya0 (nowZ R l).h0.length yn0, .slice ya1 (nowZ R l).h1.length yn1, .int .i64 (nowZ R l).turn, .int .i64 (nowZ R l).quiet] 37))
  have HE4 := Lib.hid (HD0.out.alloc (.cells #[.slice ya (nowZ R l).cells.length yn, .slice ya0 (nowZ R l).h0.length yn0, .slice ya1 (nowZ R l).h1.length yn1, .int .i64 (nowZ R l).turn, .int .i64 (nowZ R l).quiet] 37))
  clear HL2 HD0
  generalize (w2.alloc (.cells #[.slice ya (nowZ R l).cells.length yn, .slice ya0 (nowZ R l).h0.length yn0, .slice ya1 (nowZ R l).h1.length yn1, .int .i64 (nowZ R l).turn, .int .i64 (nowZ R l).quiet] 37)) = w4 at *
  refine wp_region_lit ?_
  refine wpList_load_box (by rfl) 26 (.tmp 3) (by rfl) (w.heap.size) (by rfl) HE4.out Try.underlying26 (by rfl) (by kernel_rfl) ?_
  go_wp2_with fail
  refine (Begin_any R vp vs ve w4 (HR.out.below HL4.out (Nat.le_refl _)) HN.out).mono ?_
  rintro e w5 (⟨hbad, -⟩ | ⟨-, qc, q0, q1, rfl, hq5, hb5⟩)
  · exact absurd HRZ.out hbad
  have HL5 := Lib.hid (below_trans HL4.out hb5 HL4.out.size)
  have HE5 := Lib.hid (HE4.out.stays hb5)
  obtain ⟨za, zn, rfl, -, -⟩ := hq5.1.form
  obtain ⟨za0, zn0, rfl, -, -⟩ := hq5.2.1.form
  obtain ⟨za1, zn1, rfl, -, -⟩ := hq5.2.2.form
  have HQ5 := Lib.hid hq5
  clear hb5 hq5 HE4 HL4
  unfold posV
  have hwb : w.heap.size < w5.heap.size := HE5.out.lt
  have HF5 := Lib.hid (HE5.out.alloc (.cells #[.slice za (beginZ R).cells.length zn, .slice za0 (beginZ R).h0.length zn0, .slice za1 (beginZ R).h1.length zn1, .int .i64 (beginZ R).turn, .int .i64 (beginZ R).quiet] 37))
  have HP5 := Lib.hid (Box.new w5 [.slice za (beginZ R).cells.length zn, .slice za0 (beginZ R).h0.length zn0, .slice za1 (beginZ R).h1.length zn1, .int .i64 (beginZ R).turn, .int .i64 (beginZ R).quiet] 37)
  have HL6 := Lib.hid (HL5.out.alloc HL5.out.size (.cells #[.slice za (beginZ R).cells.length zn, .slice za0 (beginZ R).h0.length zn0, .slice za1 (beginZ R).h1.length zn1, .int .i64 (beginZ R).turn, .int .i64 (beginZ R).quiet] 37))
  have HQB : Hid (Held (BoxS w5.heap.size (.slice none 0 0)) (w5.alloc (.cells #[.slice za (beginZ R).cells.length zn, .slice za0 (beginZ R).h0.length zn0, .slice za1 (beginZ R).h1.length zn1, .int .i64 (beginZ R).turn, .int .i64 (beginZ R).quiet] 37)) fun w' => RdP w' (beginZ R) (.slice za (beginZ R).cells.length zn) (.slice za0 (beginZ R).h0.length zn0) (.slice za1 (beginZ R).h1.length zn1)) := Lib.hid (Held.old (B := w5.heap.size) (fun w' hw => HQ5.out.below (((Below.refl w5.heap.size w5).alloc (Nat.le_refl _) _).trans hw) (Nat.le_refl _)) (fun k hk => by rcases hk with rfl | hk; omega; cases hk) (by simp))
  have hzb : w5.heap.size < (w5.alloc (.cells #[.slice za (beginZ R).cells.length zn, .slice za0 (beginZ R).h0.length zn0, .slice za1 (beginZ R).h1.length zn1, .int .i64 (beginZ R).turn, .int .i64 (beginZ R).quiet] 37)).heap.size := by simp
  clear HE5 HL5 HQ5
  go_upto_region 8 with (fail)
  obtain ⟨bp, hbpe⟩ : ∃ bp, bp = w5.heap.size := ⟨_, rfl⟩
  rw [← hbpe] at HP5 hzb hwb HQB ⊢
  clear hbpe
  generalize (w5.alloc (.cells #[.slice za (beginZ R).cells.length zn, .slice za0 (beginZ R).h0.length zn0, .slice za1 (beginZ R).h1.length zn1, .int .i64 (beginZ R).turn, .int .i64 (beginZ R).quiet] 37)) = w6 at *
  go_wp2_with fail
  go_loopw [40, 14, 15, 16, 17] (fun vi a1 a2 a3 a4 wr => ∃ (k : Nat) (qc q0 q1 : Value), k ≤ l.length ∧ vi = .int .i64 k ∧ Hid (covN R b l = covF (fun j => hitB b (entB R l 0 j)) k (l.length - k)) ∧ Hid (Box wr w.heap.size [.string R.name, .int .i64 R.width, .int .i64 R.height, vp, vs, .bool R.falls, .bool R.keeps, ve, .int .i64 R.blocked, .int .i64 R.quiet, .int .i64 R.rept] 26) ∧
    (∃ q : PosZ, Hid (q = nowZ R (l.take k)) ∧ Hid (Box wr bp [qc, q0, q1, .int .i64 q.turn, .int .i64 q.quiet] 37) ∧ Hid (Held (BoxS bp (.slice none 0 0)) wr fun w' => RdP w' q qc q0 q1)) ∧ Hid (Below w.heap.size w wr)) (fun i _ _ _ _ _ => l.length - (intOf i).toNat)
  case atStart => exact ⟨0, _, _, _, Nat.zero_le _, rfl, Lib.hid rfl, HF5, ⟨beginZ R, Lib.hid rfl, HP5, HQB⟩, HL6⟩
  case round =>
    obtain ⟨k, qc, q0, q1, hk, rfl, HCK, HB0, ⟨q, HQE, HBP, HPp⟩, HBr⟩ := hrel
    have hbps := HBP.out.lt
    have hws := HB0.out.lt
    by_cases hkl : k < l.length
    · have HKN : Hid (k + 1 ≤ l.length) := Lib.hid (by omega)
      have HKq : Hid (POk R q) := Lib.hid (by rw [HQE.out]; exact posAt_ok (begin_ok HRZ.out) HLA.out k (by omega))
      obtain ⟨xa, xn, rfl, -, -⟩ := HPp.out.now.1.form
      obtain ⟨xa0, xn0, rfl, -, -⟩ := HPp.out.now.2.1.form
      obtain ⟨xa1, xn1, rfl, -, -⟩ := HPp.out.now.2.2.form
      obtain ⟨gx, ox, ha, hgx, hcc⟩ := moves_some (HL.out.below HBr.out (Nat.le_refl _)) (by omega)
      subst ha
      obtain ⟨c0, c1, c2⟩ := hcc k hkl
      have HTK : Hid (makeZ R q (l.getD k default) = nowZ R (l.take (k + 1))) := Lib.hid (by rw [HQE.out]; unfold nowZ; rw [posAt_take R _ l k hkl])
      have HF : Hid (Fits R q (l.getD k default)) := Lib.hid (by have := HLA.out k hkl; rw [show posAt R (beginZ R) (l.take k) = q by rw [HQE.out]; rfl] at this; exact fits_of HKq.out this)
      have HHT : Hid (hitB b (entB R l 0 k) = hitB b ⟨keyZ q, l.getD k default, 0⟩) := Lib.hid (by unfold entB; rw [HQE.out])
      have HCK := Lib.hid (HCK.out.trans (covF_step _ k l.length hkl))
      have HCB : Hid (∀ c ∈ q.cells, 0 ≤ c ∧ c ≤ 1000) := Lib.hid (fun c hc => by have := HKq.out.cb c hc; have := HKq.out.r.np; omega)
      clear hcc
      generalize l.getD k default = m at *
      go_upto_region 11 with (fail)
      have HBM := Lib.hid (Box.new wr [.int .i64 m.src, .int .i64 m.dst, .int .i64 m.piece] 42)
      have HB02 := Lib.hid (HB0.out.alloc (.cells #[.int .i64 m.src, .int .i64 m.dst, .int .i64 m.piece] 42))
      have HBP2 := Lib.hid (HBP.out.alloc (.cells #[.int .i64 m.src, .int .i64 m.dst, .int .i64 m.piece] 42))
      have HPp2 := Lib.hid (HPp.out.step ((Fr.refl (BoxS bp (.slice none 0 0)) wr).alloc (.cells #[.int .i64 m.src, .int .i64 m.dst, .int .i64 m.piece] 42)) (Shr.refl _ _))
      have HBr2 := Lib.hid (HBr.out.alloc HBr.out.size (.cells #[.int .i64 m.src, .int .i64 m.dst, .int .i64 m.piece] 42))
      obtain ⟨bm, hbme⟩ : ∃ bm, bm = wr.heap.size := ⟨_, rfl⟩
      rw [← hbme] at HBM ⊢
      have hbmb : bp < bm := by omega
      clear hbme c0 c1 c2 hgx HB0 HBP HPp HBr hbps hws
      generalize (wr.alloc (.cells #[.int .i64 m.src, .int .i64 m.dst, .int .i64 m.piece] 42)) = wq at *
      have BRz : Box wq.drew w.heap.size [.string R.name, .int .i64 R.width, .int .i64 R.height, vp, vs, .bool R.falls, .bool R.keeps, ve, .int .i64 R.blocked, .int .i64 R.quiet, .int .i64 R.rept] 26 := HB02.out
      have BPz : Box wq.drew bp [.slice xa q.cells.length xn, .slice xa0 q.h0.length xn0, .slice xa1 q.h1.length xn1, .int .i64 q.turn, .int .i64 q.quiet] 37 := HBP2.out
      have BMz : Box wq.drew bm [.int .i64 m.src, .int .i64 m.dst, .int .i64 m.piece] 42 := HBM.out
      have Lz : Below w.heap.size w wq.drew := below_drew' HBr2.out
      have Pz : Held (BoxS bp (.slice none 0 0)) wq.drew fun w' => RdP w' q (.slice xa q.cells.length xn) (.slice xa0 q.h0.length xn0) (.slice xa1 q.h1.length xn1) := HPp2.out.step ((Fr.refl _ wq).drew) (Shr.refl _ _)
      clear HB02 HBP2 HBM HBr2 HPp2
      refine wp_region_noPanic ?_
      refine beginL (S := (fun w' => w'.cell? ⟨bp, 0, none⟩ = some (.slice xa q.cells.length xn) ∧ w'.cell? ⟨bp, 1, none⟩ = some (.slice xa0 q.h0.length xn0) ∧ w'.cell? ⟨bp, 2, none⟩ = some (.slice xa1 q.h1.length xn1) ∧ w'.cell? ⟨bp, 3, none⟩ = some (.int .i64 q.turn) ∧ w'.cell? ⟨bp, 4, none⟩ = some (.int .i64 q.quiet) ∧ w'.cell? ⟨bm, 0, none⟩ = some (.int .i64 m.src) ∧ w'.cell? ⟨bm, 1, none⟩ = some (.int .i64 m.dst) ∧ w'.cell? ⟨bm, 2, none⟩ = some (.int .i64 m.piece))) (L := []) (by kernel_rfl) ⟨BPz.cell 0 rfl, BPz.cell 1 rfl, BPz.cell 2 rfl, BPz.cell 3 rfl, BPz.cell 4 rfl, BMz.cell 0 rfl, BMz.cell 1 rfl, BMz.cell 2 rfl⟩ (fun hHeld => ?_)
      refine takeW (i := 0) (oi := { dst := some 46, op := Op.move (Operand.tmp 1), type := 88, pos := "book.go:158", after := #[], guard := none }) (v := ?va1) rfl (by kernel_rfl) (by kernel_rfl) (by kernel_rfl) rfl (fun _ _ _ h => h) (Or.inl ⟨by rfl, ?ya1⟩) (fun _ => by assumption) ?ra1
      case ya1 => (intro w _; go_simp; first | done | (with_reducible rfl))
      try simp only [Act.put, List.setIfInBounds_toArray, List.set_cons_zero, List.set_cons_succ]
      refine takeL (i := 1) (oi := { dst := some 47, op := Op.load 37 (Operand.tmp 12), type := 37, pos := "book.go:158", after := #[], guard := none }) (v := ?va2) rfl (by kernel_rfl) (by kernel_rfl) (by kernel_rfl) (by kernel_rfl) rfl (by kernel_rfl) (by kernel_rfl) (fun _ _ _ h => h) (Or.inl ⟨by rfl, ?ya2⟩) (by assumption) ?ra2
      case ya2 => (intro w hSw; (try dsimp only at hSw); go_simp; first | done | (with_reducible rfl))
      try simp only [Act.put, List.setIfInBounds_toArray, List.set_cons_zero, List.set_cons_succ]
      refine takeL (i := 3) (oi := { dst := some 49, op := Op.load 42 (Operand.tmp 15), type := 42, pos := "book.go:158", after := #[], guard := none }) (v := ?va3) rfl (by kernel_rfl) (by kernel_rfl) (by kernel_rfl) (by kernel_rfl) rfl (by kernel_rfl) (by kernel_rfl) (fun _ _ _ h => h) (Or.inl ⟨by rfl, ?ya3⟩) (by assumption) ?ra3
      case ya3 => (intro w hSw; (try dsimp only at hSw); go_simp; first | done | (with_reducible rfl))
      try simp only [Act.put, List.setIfInBounds_toArray, List.set_cons_zero, List.set_cons_succ]
      refine readyL (rs := [2]) (by kernel_rfl) (by simp) ?_
      refine (AllReadyL.cons (o := { dst := some 48, op := Op.call { callee := Callee.value (Operand.func 94), args := #[Operand.tmp 47], argTypes := #[37] }, type := 96, pos := "book.go:158", after := #[{ on := 1, ground := Ground.data }], guard := none }) rfl (fun K hK => ?_) AllReadyL.nil)
      go_simp
      refine (of_any q (.slice xa q.cells.length xn) (.slice xa0 q.h0.length xn0) (.slice xa1 q.h1.length xn1) _ Pz.now (HKq.out.len) (by have := HKq.out.l0; have := HKq.out.r.np; omega) (by have := HKq.out.l1; have := HKq.out.r.np; omega) HCB.out).mono ?_
      rintro e w2 ⟨rfl, hb2⟩
      have BP2 := BPz.stays hb2
      have BM2 := BMz.stays hb2
      have BR2 := BRz.stays hb2
      have L2 := below_trans Lz hb2 Lz.size
      have P2 := Pz.step (Fr.of_new (S := BoxS bp (.slice none 0 0)) hb2) (Shr.refl _ _)
      clear hb2
      refine hK.out _ _ ⟨BP2.cell 0 rfl, BP2.cell 1 rfl, BP2.cell 2 rfl, BP2.cell 3 rfl, BP2.cell 4 rfl, BM2.cell 0 rfl, BM2.cell 1 rfl, BM2.cell 2 rfl⟩ (fun hHeld => ?_)
      clear hK K
      try simp only [Act.put, List.setIfInBounds_toArray, List.set_cons_zero, List.set_cons_succ]
      refine takeW (i := 4) (oi := { dst := some 50, op := Op.build 98 #[(0, Operand.tmp 48), (1, Operand.tmp 49)], type := 98, pos := "book.go:158", after := #[{ on := 2, ground := Ground.data }, { on := 3, ground := Ground.data }], guard := none }) (v := ?va4) rfl (by kernel_rfl) (by kernel_rfl) (by kernel_rfl) rfl (fun _ _ _ h => h) (Or.inl ⟨by rfl, ?ya4⟩) (fun _ => by assumption) ?ra4
      case ya4 => (intro w _; go_simp; first | done | (with_reducible rfl))
      try simp only [Act.put, List.setIfInBounds_toArray, List.set_cons_zero, List.set_cons_succ]
      refine readyL (rs := [5]) (by kernel_rfl) (by simp) ?_
      refine (AllReadyL.cons (o := { dst := some 51, op := Op.call { callee := Callee.value (Operand.func 96), args := #[Operand.tmp 46, Operand.tmp 50, Operand.func 97], argTypes := #[88, 98, 147] }, type := 145, pos := "book.go:158", after := #[{ on := 0, ground := Ground.data }, { on := 4, ground := Ground.data }, { on := 2, ground := Ground.chain }], guard := none }) rfl (fun K hK => ?_) AllReadyL.nil)
      go_simp
      refine (bsearch_any _ b ⟨keyZ q, m, 0⟩ w2 (HBk.out.below L2 (Nat.le_refl _)) HSW.out.2.1 (by omega)).mono ?_
      rintro e w6 ⟨rfl, hb6⟩
      have BP6 := BP2.stays hb6
      have BM6 := BM2.stays hb6
      have BR6 := BR2.stays hb6
      have L6 := below_trans L2 hb6 L2.size
      have P6 := P2.step (Fr.of_new (S := BoxS bp (.slice none 0 0)) hb6) (Shr.refl _ _)
      clear hb6
      refine hK.out _ _ ⟨BP6.cell 0 rfl, BP6.cell 1 rfl, BP6.cell 2 rfl, BP6.cell 3 rfl, BP6.cell 4 rfl, BM6.cell 0 rfl, BM6.cell 1 rfl, BM6.cell 2 rfl⟩ (fun hHeld => ?_)
      clear hK K
      try simp only [Act.put, List.setIfInBounds_toArray, List.set_cons_zero, List.set_cons_succ]
      refine takeW (i := 6) (oi := { dst := some 45, op := Op.move (Operand.tmp 51), type := 145, pos := "book.go:158", after := #[{ on := 5, ground := Ground.data }], guard := none }) (v := ?va5) rfl (by kernel_rfl) (by kernel_rfl) (by kernel_rfl) rfl (fun _ _ _ h => h) (Or.inl ⟨by rfl, ?ya5⟩) (fun _ => by assumption) ?ra5
      case ya5 => (intro w _; go_simp; first | done | (with_reducible rfl))
      try simp only [Act.put, List.setIfInBounds_toArray, List.set_cons_zero, List.set_cons_succ]
      refine takeW (i := 7) (oi := { dst := some 52, op := Op.extract (Operand.tmp 45) 0, type := 3, pos := "book.go:158", after := #[{ on := 6, ground := Ground.data }], guard := none }) (v := ?va6) rfl (by kernel_rfl) (by kernel_rfl) (by kernel_rfl) rfl (fun _ _ _ h => h) (Or.inl ⟨by rfl, ?ya6⟩) (fun _ => by assumption) ?ra6
      case ya6 => (intro w _; go_simp; first | done | (with_reducible rfl))
      try simp only [Act.put, List.setIfInBounds_toArray, List.set_cons_zero, List.set_cons_succ]
      refine takeW (i := 8) (oi := { dst := some 53, op := Op.extract (Operand.tmp 45) 1, type := 4, pos := "book.go:158", after := #[{ on := 6, ground := Ground.data }, { on := 9, ground := Ground.gcOnly Departure.lateStores }], guard := none }) (v := ?va7) rfl (by kernel_rfl) (by kernel_rfl) (by kernel_rfl) rfl (fun _ _ _ h => h) (Or.inl ⟨by rfl, ?ya7⟩) (fun _ => by assumption) ?ra7
      case ya7 => (intro w _; go_simp; first | done | (with_reducible rfl))
      try simp only [Act.put, List.setIfInBounds_toArray, List.set_cons_zero, List.set_cons_succ]
      refine takeW (i := 9) (oi := { dst := some 16, op := Op.assign (Operand.tmp 52), type := 3, pos := "book.go:158", after := #[{ on := 7, ground := Ground.data }, { on := 5, ground := Ground.chain }, { on := 0, ground := Ground.phase }, { on := 1, ground := Ground.phase }, { on := 2, ground := Ground.phase }, { on := 3, ground := Ground.phase }, { on := 4, ground := Ground.phase }, { on := 5, ground := Ground.phase }, { on := 6, ground := Ground.phase }, { on := 7, ground := Ground.phase }, { on := 8, ground := Ground.textOnly Departure.lateStores }], guard := none }) (v := ?va8) rfl (by kernel_rfl) (by kernel_rfl) (by kernel_rfl) rfl (fun _ _ _ h => h) (Or.inl ⟨by rfl, ?ya8⟩) (fun _ => by assumption) ?ra8
      case ya8 => (intro w _; go_simp; first | done | (with_reducible rfl))
      try simp only [Act.put, List.setIfInBounds_toArray, List.set_cons_zero, List.set_cons_succ]
      refine takeW (i := 10) (oi := { dst := some 17, op := Op.assign (Operand.tmp 53), type := 4, pos := "book.go:158", after := #[{ on := 8, ground := Ground.data }, { on := 9, ground := Ground.chain }, { on := 0, ground := Ground.phase }, { on := 1, ground := Ground.phase }, { on := 2, ground := Ground.phase }, { on := 3, ground := Ground.phase }, { on := 4, ground := Ground.phase }, { on := 5, ground := Ground.phase }, { on := 6, ground := Ground.phase }, { on := 7, ground := Ground.phase }, { on := 8, ground := Ground.phase }, { on := 9, ground := Ground.phase }], guard := none }) (v := ?va9) rfl (by kernel_rfl) (by kernel_rfl) (by kernel_rfl) rfl (fun _ _ _ h => h) (Or.inl ⟨by rfl, ?ya9⟩) (fun _ => by assumption) ?ra9
      case ya9 => (intro w _; go_simp; first | done | (with_reducible rfl))
      try simp only [Act.put, List.setIfInBounds_toArray, List.set_cons_zero, List.set_cons_succ]
      refine doneL (by kernel_rfl) ?_ _
      refine NoPanic.normal ?_
      have HP6 := Lib.hid P6
      have HL6 := Lib.hid L6
      have HBP6 := Lib.hid BP6
      have HBM6 := Lib.hid BM6
      have HBR6 := Lib.hid BR6
      clear P6 L6 BP6 BM6 BR6 P2 L2 BP2 BM2 BR2 hHeld Pz Lz BPz BMz BRz
      obtain ⟨hit, hh⟩ : ∃ hit, hitB b ⟨keyZ q, m, 0⟩ = hit := ⟨_, rfl⟩
      rw [hh] at HHT ⊢
      clear hh
      cases hit
      · have HE : Hid (covN R b l = k) := Lib.hid (by rw [HCK.out, HHT.out, if_neg (by decide)])
        clear HHT HCK
        go_wp2_with fail
        go_ret2
        exact ⟨by rw [HER.out, HE.out]; rfl, HL6.out⟩
      have HCN : Hid (covN R b l = covF (fun j => hitB b (entB R l 0 j)) (k + 1) (l.length - (k + 1))) := Lib.hid (by rw [HCK.out, HHT.out, if_pos rfl])
      clear HHT HCK
      go_upto_region 14 with (fail)
      refine wp_region_lit ?_
      refine wpList_load_box (by rfl) 26 (.tmp 3) (by rfl) (w.heap.size) (by rfl) HBR6.out Try.underlying26 (by rfl) (by kernel_rfl) ?_
      refine wpList_load_box (by rfl) 37 (.tmp 12) (by rfl) (bp) (by rfl) HBP6.out Try.underlying37 (by rfl) (by kernel_rfl) ?_
      refine wpList_load_box (by rfl) 42 (.tmp 15) (by rfl) (bm) (by rfl) HBM6.out Try.underlying42 (by rfl) (by kernel_rfl) ?_
      go_wp2_with fail
      refine (Make_any R vp vs ve q (.slice xa q.cells.length xn) (.slice xa0 q.h0.length xn0) (.slice xa1 q.h1.length xn1) m w6 HP6.out.now HKq.out HF.out).mono ?_
      rintro e w7 ⟨yc, y0, y1, rfl, ho7, hb7⟩
      obtain ⟨ya, yn, rfl⟩ := own_form2 ho7.1
      obtain ⟨ya0, yn0, rfl⟩ := own_form2 ho7.2.1
      obtain ⟨ya1, yn1, rfl⟩ := own_form2 ho7.2.2.1
      have HBR7 := Lib.hid (HBR6.out.stays hb7)
      have HBP7 := Lib.hid (HBP6.out.stays hb7)
      have HL7 := Lib.hid (below_trans HL6.out hb7 HL6.out.size)
      have hbp6 := HBP6.out.lt
      have HP7 : Hid (Held (BoxS bp (.slice none 0 0)) w7 fun w' => OwnP w6.heap.size w' (makeZ R q m) (.slice ya (makeZ R q m).cells.length yn) (.slice ya0 (makeZ R q m).h0.length yn0) (.slice ya1 (makeZ R q m).h1.length yn1)) := Lib.hid (ownP_held ho7 (fun k' h1 h2 hk => by
        rcases hk with rfl | hk
        · omega
        · cases hk))
      clear hb7 ho7
      unfold posV
      have z0 := HBP7.out.cell 0 rfl
      have z1 := HBP7.out.cell 1 rfl
      have z2 := HBP7.out.cell 2 rfl
      have z3 := HBP7.out.cell 3 rfl
      have z4 := HBP7.out.cell 4 rfl
      have zf0 := HBP7.out.frozen 0
      have zf1 := HBP7.out.frozen 1
      have zf2 := HBP7.out.frozen 2
      have zf3 := HBP7.out.frozen 3
      have zf4 := HBP7.out.frozen 4
      have HF9 : Hid (Fr (BoxS bp (.slice none 0 0)) w7 (w7.setCells bp 0 [.slice ya (makeZ R q m).cells.length yn, .slice ya0 (makeZ R q m).h0.length yn0, .slice ya1 (makeZ R q m).h1.length yn1, .int .i64 (makeZ R q m).turn, .int .i64 (makeZ R q m).quiet])) := Lib.hid ((Fr.refl _ _).setCells (.inl rfl) 0 _)
      go_wp2_with fail
      try simp only [Act.put]
      clear z0 z1 z2 z3 z4 zf0 zf1 zf2 zf3 zf4
      go_roundw
      case rel =>
        have hbr0 : w.heap.size ≠ bp := by omega
        have Q0 := HBR7.out.farAll hbr0 0 [.slice ya (makeZ R q m).cells.length yn, .slice ya0 (makeZ R q m).h0.length yn0, .slice ya1 (makeZ R q m).h1.length yn1, .int .i64 (makeZ R q m).turn, .int .i64 (makeZ R q m).quiet]
        have Q1 := HBP7.out.store (vs := [.slice ya (makeZ R q m).cells.length yn, .slice ya0 (makeZ R q m).h0.length yn0, .slice ya1 (makeZ R q m).h1.length yn1, .int .i64 (makeZ R q m).turn, .int .i64 (makeZ R q m).quiet]) rfl
        have Q2 : Held (BoxS bp (.slice none 0 0)) (w7.setCells bp 0 [.slice ya (makeZ R q m).cells.length yn, .slice ya0 (makeZ R q m).h0.length yn0, .slice ya1 (makeZ R q m).h1.length yn1, .int .i64 (makeZ R q m).turn, .int .i64 (makeZ R q m).quiet]) fun w' => RdP w' (makeZ R q m) (.slice ya (makeZ R q m).cells.length yn) (.slice ya0 (makeZ R q m).h0.length yn0) (.slice ya1 (makeZ R q m).h1.length yn1) := (HP7.out.step HF9.out (Shr.refl _ _)).imp (fun _ h => h.rd)
        have Q4 := below_setCells HL7.out (show w.heap.size ≤ bp by omega) 0 [.slice ya (makeZ R q m).cells.length yn, .slice ya0 (makeZ R q m).h0.length yn0, .slice ya1 (makeZ R q m).h1.length yn1, .int .i64 (makeZ R q m).turn, .int .i64 (makeZ R q m).quiet]
        have E9 : (((((w7.setCell ⟨bp, 0, none⟩ (.slice ya (makeZ R q m).cells.length yn)).setCell ⟨bp, 1, none⟩ (.slice ya0 (makeZ R q m).h0.length yn0)).setCell ⟨bp, 2, none⟩ (.slice ya1 (makeZ R q m).h1.length yn1)).setCell ⟨bp, 3, none⟩ (.int .i64 (makeZ R q m).turn)).setCell ⟨bp, 4, none⟩ (.int .i64 (makeZ R q m).quiet)) = w7.setCells bp 0 [.slice ya (makeZ R q m).cells.length yn, .slice ya0 (makeZ R q m).h0.length yn0, .slice ya1 (makeZ R q m).h1.length yn1, .int .i64 (makeZ R q m).turn, .int .i64 (makeZ R q m).quiet] := by simp [World.setCells]
        rw [← E9] at Q0 Q1 Q2 Q4
        clear E9
        generalize (((((w7.setCell ⟨bp, 0, none⟩ (.slice ya (makeZ R q m).cells.length yn)).setCell ⟨bp, 1, none⟩ (.slice ya0 (makeZ R q m).h0.length yn0)).setCell ⟨bp, 2, none⟩ (.slice ya1 (makeZ R q m).h1.length yn1)).setCell ⟨bp, 3, none⟩ (.int .i64 (makeZ R q m).turn)).setCell ⟨bp, 4, none⟩ (.int .i64 (makeZ R q m).quiet)) = w9 at *
        exact ⟨k + 1, _, _, _, HKN.out, by go_num, HCN, Lib.hid Q0, ⟨makeZ R q m, HTK, Lib.hid Q1, Lib.hid Q2⟩, Lib.hid Q4⟩
      case measure => have h1' := HKN.out; simp [intOf]; omega
    · obtain rfl : k = l.length := by omega
      have HE : Hid (covN R b l = l.length) := Lib.hid (by rw [HCK.out, Nat.sub_self]; rfl)
      clear HCK HPp HBP HQE
      go_wp2_with fail
      go_ret2
      exact ⟨by rw [HER.out, HE.out]; rfl, HBr.out⟩

end Go.Proofs.Ytkfaibdflbdpgaa

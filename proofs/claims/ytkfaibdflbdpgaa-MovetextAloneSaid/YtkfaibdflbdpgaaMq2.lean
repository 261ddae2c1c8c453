/- Mq2: MtC, MtD, in one text. -/
import Derived.Test.YtkfaibdflbdpgaaMq1
import Derived.Test.YtkfaibdflbdpgaaCut
import Derived.Test.YtkfaibdflbdpgaaAfter
/- The contract of movetext.Line. -/
namespace Go.Proofs.Ytkfaibdflbdpgaa
open Go.ChangeShapes Go.WideShapes Go.ChangeAt Go.RowKit
set_option linter.unusedVariables false

theorem compact_len' : ∀ l : List MoveZ, (compactZ l).length ≤ l.length
  | [] => by simp [compactZ]
  | [x] => by simp [compactZ]
  | x :: y :: t => by
    have ih := compact_len' (y :: t)
    by_cases h : x = y
    · simp only [compactZ, if_pos h, List.length_cons] at ih ⊢
      omega
    · simp only [compactZ, if_neg h, List.length_cons] at ih ⊢
      omega
theorem list_len' {R : RulesZ} {p : PosZ} (K : POk R p) : (listZ R p).length ≤ 10000 := by
  have h1 := compact_len' (sortZ (rawZ R p))
  have h2 : (sortZ (rawZ R p)).length = (rawZ R p).length := List.length_mergeSort _
  have h3 : (putsZ R p).length ≤ (List.range p.cells.length).length * 6 := flatL_len _ 6 _ (fun s _ => by
    unfold putsAt
    split
    · simp
    · refine Nat.le_trans (List.length_filterMap_le _ _) ?_
      have := hand_len K
      have := K.r.np
      simp; omega)
  have h4 : ((List.range p.cells.length).flatMap (stepsAt R p)).length ≤ (List.range p.cells.length).length * 112 := flatL_len _ 112 _ (fun s _ => stepsAt_len K.r p s)
  have h5 := K.len
  unfold listZ
  have h6 : (rawZ R p).length = (putsZ R p).length + ((List.range p.cells.length).flatMap (stepsAt R p)).length := by unfold rawZ; rw [List.length_append]
  simp only [List.length_range] at h3 h4
  omega
theorem ofOk_of {R : RulesZ} {p : PosZ} {m : MoveZ} (K : POk R p) (h : m ∈ listZ R p) : OfOk R p m := ⟨fits_of K h, fun h0 => by
  rcases legal_src h with e | ⟨-, -, e, -⟩
  · omega
  · exact e⟩
/-- the texts of the first k moves of a game. -/
def textAt (R : RulesZ) (l : List MoveZ) (j : Nat) : ByteArray := ofT R (nowZ R (l.take j)) (listZ R (nowZ R (l.take j))) (l.getD j default)
def lineT (R : RulesZ) (l : List MoveZ) (k : Nat) : List ByteArray := (List.range k).map (textAt R l)
theorem lineT_succ (R : RulesZ) (l : List MoveZ) (k : Nat) : lineT R l (k + 1) = lineT R l k ++ [textAt R l k] := by
  unfold lineT
  rw [List.range_succ, List.map_append]; rfl
theorem lineT_len (R : RulesZ) (l : List MoveZ) (k : Nat) : (lineT R l k).length = k := by unfold lineT; simp
def strs (l : List ByteArray) : List Value := l.map Value.string
theorem strs_len (l : List ByteArray) : (strs l).length = l.length := by simp [strs]
theorem strs_snoc (l : List ByteArray) (s : ByteArray) : strs l ++ [.string s] = strs (l ++ [s]) := by simp [strs]
def joinT (sep : ByteArray) : List ByteArray → ByteArray
  | [] => ByteArray.empty
  | [x] => x
  | x :: y :: t => x ++ sep ++ joinT sep (y :: t)
/-- strings.Join, proved elsewhere. -/
def JoinSaid : Prop := ∀ (base : Nat) (v : Value) (xs : List ByteArray) (sep : ByteArray) (w : World), w.ownsRow base 9 1 v xs.length (strs xs) → xs.length ≤ 1000000 → (∀ x ∈ xs, x.size ≤ 1000000) → sep.size ≤ 1000 →
  Calls Try.prog 90 #[v, .string sep] w fun e w' => e = .returned (.string (joinT sep xs)) ∧ Below w.heap.size w w'
theorem ofT_size {R : RulesZ} (L : LetOk R) {p : PosZ} (K : POk R p) {m : MoveZ} (hm : m ∈ listZ R p) : 1 ≤ (ofT R p (listZ R p) m).size ∧ (ofT R p (listZ R p) m).size ≤ 20 := by
  rw [← bts_size]
  rcases legal_src hm with e | ⟨e, -, -, -⟩
  · rw [of_put L K hm e]; simp
  · have F := fits_of K hm
    rw [of_board L K hm e]
    have := mark_size K (listZ R p) m e (by have := F.s.2; have := K.cl; omega)
    rw [← bts_size] at this
    simp only [List.length_cons, List.length_append]
    split <;> split <;> simp <;> omega
theorem now_step' (R : RulesZ) (l : List MoveZ) (k : Nat) (h : k < l.length) : makeZ R (nowZ R (l.take k)) (l.getD k default) = nowZ R (l.take (k + 1)) := by
  unfold nowZ
  rw [posAt_take R _ l k h]
theorem info_str : (Try.prog.info? 9).map (fun i => (i.zero, i.size, i.bytes)) = some (some (.string ByteArray.empty), 1, 16) := by kernel_rfl
theorem src_str {w : World} {b : Nat} {s : ByteArray} (h : w.cell? ⟨b, 0, none⟩ = some (.string s)) : ∀ j u, [Value.string s][j]? = some u → w.cell? ((⟨b, 0, none⟩ : Addr).add j) = some u := by
  intro j u hj
  have e2 : (⟨b, 0, none⟩ : Addr).add j = ⟨b, j, none⟩ := by unfold Addr.add; split <;> simp_all
  rw [e2]
  cases j with
  | zero => simp at hj; subst hj; exact h
  | succ j => simp at hj
theorem one_str {s : ByteArray} : ∀ u ∈ [Value.string s], u.oneCell' = true := by intro u hu; simp at hu; subst hu; rfl
theorem boxS_shr' {b : Nat} {vo : Value} {w : World} {g n c : Nat} (h : vo.ownBlock = some g ∨ w.heap.size ≤ g) : Shr w (BoxS b vo) (BoxS b (.slice (some ⟨g, 0, none⟩) n c)) := boxS_shr h

def LinePost (R : RulesZ) (l : List MoveZ) (w : World) (e : Ending) (w' : World) : Prop := e = .returned (.tuple #[.string (if runErr R l = 0 then joinT ⟨#[32]⟩ (lineT R l l.length) else ByteArray.empty), .int .i64 (runErr R l)]) ∧ Below w.heap.size w w'
set_option maxRecDepth 100000 in
set_option maxHeartbeats 8000000 in
theorem Line_any (HS : SortMvSaid) (HJ : JoinSaid) (R : RulesZ) (vp vs ve : Value) (v : Value) (l : List MoveZ) (w : World) (hr : RdR w R vp vs ve) (hnm : R.name.size ≤ maxLen) (hl : RdL moveEl w v l) :
    Calls Try.prog 48 #[(.agg #[.string R.name, .int .i64 R.width, .int .i64 R.height, vp, vs, .bool R.falls, .bool R.keeps, ve, .int .i64 R.blocked, .int .i64 R.quiet, .int .i64 R.rept]), v] w (LinePost R l w) := by
  have HSh := Lib.hid HS
  have HJh := Lib.hid HJ
  have HR := Lib.hid hr
  have HN := Lib.hid hnm
  have HL := Lib.hid hl
  obtain ⟨a, c, rfl, h1, h2⟩ := hl.form
  unfold maxLen at h2
  clear hr hnm hl HS HJ
  go_enter Try.func48, Try.ntmps48
  go_upto_region 1 with (fail)
  have B0 : Box (w.alloc (.cells #[.string R.name, .int .i64 R.width, .int .i64 R.height, vp, vs, .bool R.falls, .bool R.keeps, ve, .int .i64 R.blocked, .int .i64 R.quiet, .int .i64 R.rept] 26)) (w.heap.size) [.string R.name, .int .i64 R.width, .int .i64 R.height, vp, vs, .bool R.falls, .bool R.keeps, ve, .int .i64 R.blocked, .int .i64 R.quiet, .int .i64 R.rept] 26 := (Box.new' w (w.heap.size) [.string R.name, .int .i64 R.width, .int .i64 R.height, vp, vs, .bool R.falls, .bool R.keeps, ve, .int .i64 R.blocked, .int .i64 R.quiet, .int .i64 R.rept] 26 (by simp <;> omega))
  have HB : Hid (Below w.heap.size w (w.alloc (.cells #[.string R.name, .int .i64 R.width, .int .i64 R.height, vp, vs, .bool R.falls, .bool R.keeps, ve, .int .i64 R.blocked, .int .i64 R.quiet, .int .i64 R.rept] 26))) := Lib.hid ((Below.refl w.heap.size w).alloc (Nat.le_refl _) _)
  have hz0 : w.heap.size < (w.alloc (.cells #[.string R.name, .int .i64 R.width, .int .i64 R.height, vp, vs, .bool R.falls, .bool R.keeps, ve, .int .i64 R.blocked, .int .i64 R.quiet, .int .i64 R.rept] 26)).heap.size := by simp
  generalize (w.alloc (.cells #[.string R.name, .int .i64 R.width, .int .i64 R.height, vp, vs, .bool R.falls, .bool R.keeps, ve, .int .i64 R.blocked, .int .i64 R.quiet, .int .i64 R.rept] 26)) = w0 at *
  have HX := Lib.hid B0
  clear B0
  refine wp_region_lit ?_
  refine wpList_load_box (by rfl) 26 (.tmp 2) (by rfl) (w.heap.size) (by rfl) HX.out Try.underlying26 (by rfl) (by kernel_rfl) ?_
  go_wp2_with fail
  refine (PRun_any HSh.out R vp vs ve _ l w0 (HR.out.below HB.out (Nat.le_refl _)) HN.out (HL.out.below HB.out (Nat.le_refl _))).mono ?_
  rintro e w1 (⟨hbad, rfl, hb1⟩ | ⟨hok, hre, hla, hle, yc, y0, y1, rfl, ho1, hb1⟩)
  · have HNE := Lib.hid hbad
    have he' : (runErr R l != 0) = true := by simpa using hbad
    have hl1 := below_trans HB.out hb1 HB.out.size
    have HB1 := Lib.hid hl1
    clear hbad hb1 hl1
    unfold zeroPos
    go_wp2_with fail
    go_ret2
    exact ⟨by rw [if_neg HNE.out]; rfl, HB1.out.alloc HB1.out.size _⟩
  have HOKr := Lib.hid hok
  have HRZ := Lib.hid hre
  have HLA := Lib.hid hla
  have HLet := Lib.hid (let_ok hre)
  obtain ⟨ya, yn, rfl⟩ := own_form2 ho1.1
  obtain ⟨ya0, yn0, rfl⟩ := own_form2 ho1.2.1
  obtain ⟨ya1, yn1, rfl⟩ := own_form2 ho1.2.2.1
  have hl1 := below_trans HB.out hb1 HB.out.size
  have HB1 := Lib.hid (hl1.alloc hl1.size (.cells #[.slice ya (nowZ R l).cells.length yn, .slice ya0 (nowZ R l).h0.length yn0, .slice ya1 (nowZ R l).h1.length yn1, .int .i64 (nowZ R l).turn, .int .i64 (nowZ R l).quiet] 37))
  have HX1 := Lib.hid ((HX.out.stays hb1).alloc (.cells #[.slice ya (nowZ R l).cells.length yn, .slice ya0 (nowZ R l).h0.length yn0, .slice ya1 (nowZ R l).h1.length yn1, .int .i64 (nowZ R l).turn, .int .i64 (nowZ R l).quiet] 37))
  clear hok hre hla hb1 ho1 hl1
  unfold posV
  go_upto_region 4 with (fail)
  generalize (w1.alloc (.cells #[.slice ya (nowZ R l).cells.length yn, .slice ya0 (nowZ R l).h0.length yn0, .slice ya1 (nowZ R l).h1.length yn1, .int .i64 (nowZ R l).turn, .int .i64 (nowZ R l).quiet] 37)) = w2 at *
  refine wp_region_lit ?_
  refine wpList_load_box (by rfl) 26 (.tmp 2) (by rfl) (w.heap.size) (by rfl) HX1.out Try.underlying26 (by rfl) (by kernel_rfl) ?_
  go_wp2_with fail
  refine (Begin_any R vp vs ve w2 (HR.out.below HB1.out (Nat.le_refl _)) HN.out).mono ?_
  rintro e w3 (⟨hbad, -⟩ | ⟨-, qc, q0, q1, rfl, hq3, hb3⟩)
  · exact absurd HRZ.out hbad
  have HL3 := Lib.hid (below_trans HB1.out hb3 HB1.out.size)
  have HX3 := Lib.hid (HX1.out.stays hb3)
  obtain ⟨za, zn, hzc, -, -⟩ := hq3.1.form
  obtain ⟨za0, zn0, hz0', -, -⟩ := hq3.2.1.form
  obtain ⟨za1, zn1, hz1', -, -⟩ := hq3.2.2.form
  subst hzc hz0' hz1'
  have HQ3 := Lib.hid hq3
  have hb3s : w.heap.size < w3.heap.size := by have := HX3.out.lt; omega
  have HX4 := Lib.hid (HX3.out.alloc (.cells #[.slice za (beginZ R).cells.length zn, .slice za0 (beginZ R).h0.length zn0, .slice za1 (beginZ R).h1.length zn1, .int .i64 (beginZ R).turn, .int .i64 (beginZ R).quiet] 37))
  have HL4 := Lib.hid (HL3.out.alloc HL3.out.size (.cells #[.slice za (beginZ R).cells.length zn, .slice za0 (beginZ R).h0.length zn0, .slice za1 (beginZ R).h1.length zn1, .int .i64 (beginZ R).turn, .int .i64 (beginZ R).quiet] 37))
  have HP4 := Lib.hid (Box.new w3 [.slice za (beginZ R).cells.length zn, .slice za0 (beginZ R).h0.length zn0, .slice za1 (beginZ R).h1.length zn1, .int .i64 (beginZ R).turn, .int .i64 (beginZ R).quiet] 37)
  have HQ4 : Hid (Held (BoxS w3.heap.size (.slice none 0 0)) (w3.alloc (.cells #[.slice za (beginZ R).cells.length zn, .slice za0 (beginZ R).h0.length zn0, .slice za1 (beginZ R).h1.length zn1, .int .i64 (beginZ R).turn, .int .i64 (beginZ R).quiet] 37)) fun w' => RdP w' (beginZ R) (.slice za (beginZ R).cells.length zn) (.slice za0 (beginZ R).h0.length zn0) (.slice za1 (beginZ R).h1.length zn1)) := Lib.hid (Held.old (B := w3.heap.size) (fun w' hw => HQ3.out.below (((Below.refl w3.heap.size w3).alloc (Nat.le_refl _) _).trans hw) (Nat.le_refl _)) (fun k hk => by rcases hk with rfl | hk; omega; cases hk) (by simp))
  clear hb3 hq3 HQ3 HX3 HL3
  unfold posV
  go_upto_region 5 with (fail)
  obtain ⟨bp, hbpe⟩ : ∃ bp, bp = w3.heap.size := ⟨_, rfl⟩
  rw [← hbpe] at HP4 HQ4 hb3s ⊢
  clear hbpe
  generalize (w3.alloc (.cells #[.slice za (beginZ R).cells.length zn, .slice za0 (beginZ R).h0.length zn0, .slice za1 (beginZ R).h1.length zn1, .int .i64 (beginZ R).turn, .int .i64 (beginZ R).quiet] 37)) = w4 at *
  obtain ⟨i0, hi, hz0, hz1, hz2⟩ := info_of info_str
  have HI := Lib.hid hi
  have HZ0 := Lib.hid hz0
  have HZ1 := Lib.hid hz1
  have HZ2 := Lib.hid hz2
  clear hi hz0 hz1 hz2
  go_wp2_with fail
  go_loopw [31, 11, 13] (fun vi vo a13 wr => ∃ (k : Nat) (o qc q0 q1 : Value), o = vo ∧ k ≤ l.length ∧ vi = .int .i64 k ∧ Hid (Box wr w.heap.size [.string R.name, .int .i64 R.width, .int .i64 R.height, vp, vs, .bool R.falls, .bool R.keeps, ve, .int .i64 R.blocked, .int .i64 R.quiet, .int .i64 R.rept] 26) ∧
    (∃ q : PosZ, Hid (q = nowZ R (l.take k)) ∧ Hid (Box wr bp [qc, q0, q1, .int .i64 q.turn, .int .i64 q.quiet] 37) ∧ Hid (Held (BoxS bp vo) wr fun w' => RdP w' q qc q0 q1)) ∧ Hid (wr.ownsRow (bp + 1) 9 1 vo k (strs (lineT R l k))) ∧ Hid (Below w.heap.size w wr)) (fun i _ _ _ => l.length - (intOf i).toNat)
  case atStart => exact ⟨0, _, _, _, _, rfl, Nat.zero_le _, rfl, HX4, ⟨beginZ R, Lib.hid rfl, HP4, HQ4⟩, Lib.hid (World.ownsRow_nil _ _ _ _), HL4⟩
  case round =>
    obtain ⟨k, vo, qc, q0, q1, rfl, hk, rfl, HG0, ⟨q, HQE, HG2, HGQ⟩, HO, HBr⟩ := hrel
    have hbps := HG2.out.lt
    by_cases hlt : k < l.length
    · have HKq : Hid (POk R q) := Lib.hid (by rw [HQE.out]; exact posAt_ok (begin_ok HRZ.out) HLA.out k (by omega))
      have HML : Hid (l.getD k default ∈ listZ R q) := Lib.hid (by rw [HQE.out]; exact HLA.out k hlt)
      have HTK : Hid (makeZ R q (l.getD k default) = nowZ R (l.take (k + 1))) := Lib.hid (by rw [HQE.out]; exact now_step' R l k hlt)
      have HLF : Hid (∀ x ∈ listZ R q, x.src < q.cells.length) := Lib.hid (fun x hx => (fits_of HKq.out hx).s.2)
      have HLL : Hid ((listZ R q).length ≤ 1000000) := Lib.hid (by have := list_len' HKq.out; omega)
      have HOF : Hid (OfOk R q (l.getD k default)) := Lib.hid (ofOk_of HKq.out HML.out)
      obtain ⟨TX, hTX⟩ : ∃ TX, ofT R q (listZ R q) (l.getD k default) = TX := ⟨_, rfl⟩
      have HTX : Hid (lineT R l (k + 1) = lineT R l k ++ [TX]) := Lib.hid (by rw [lineT_succ, ← hTX, HQE.out]; rfl)
      have HTE := Lib.hid hTX
      obtain ⟨xa, xn, rfl, -, -⟩ := HGQ.out.now.1.form
      obtain ⟨xa0, xn0, rfl, -, -⟩ := HGQ.out.now.2.1.form
      obtain ⟨xa1, xn1, rfl, -, -⟩ := HGQ.out.now.2.2.form
      obtain ⟨gl, ol, ha, hgl, hcc⟩ := moves_some (HL.out.below HBr.out (Nat.le_refl _)) (by omega)
      subst ha
      obtain ⟨c0, c1, c2⟩ := hcc k hlt
      clear hcc hTX
      generalize l.getD k default = m at *
      obtain ⟨XS, hXS⟩ : ∃ XS, lineT R l k = XS := ⟨_, rfl⟩
      rw [hXS] at HO HTX
      clear hXS HML
      go_upto_region 9 with (fail)
      have HBm := Lib.hid (Box.new wr [.int .i64 m.src, .int .i64 m.dst, .int .i64 m.piece] 42)
      have hal := ((Below.refl wr.heap.size wr).alloc (Nat.le_refl _) (.cells #[.int .i64 m.src, .int .i64 m.dst, .int .i64 m.piece] 42))
      have HG0x := Lib.hid (HG0.out.stays hal)
      have HG2x := Lib.hid (HG2.out.stays hal)
      have HGQx := Lib.hid (HGQ.out.step (Fr.of_new (S := BoxS bp vo) hal) (Shr.refl _ _))
      have HOx := Lib.hid (own_stays HO.out hal)
      have HBx := Lib.hid (below_trans HBr.out hal HBr.out.size)
      have hbxo : ∀ q', vo.ownBlock = some q' → q' < wr.heap.size := fun q' hq' => (HO.out.lt q' hq').2
      obtain ⟨bx, hbx⟩ : ∃ bx, bx = wr.heap.size := ⟨_, rfl⟩
      rw [← hbx] at HBm hbxo ⊢
      clear c0 c1 c2 hal HG0 HG2 HGQ HO HBr hbx
      generalize (wr.alloc (.cells #[.int .i64 m.src, .int .i64 m.dst, .int .i64 m.piece] 42)) = wq at *
      have BRz : Box wq.drew w.heap.size [.string R.name, .int .i64 R.width, .int .i64 R.height, vp, vs, .bool R.falls, .bool R.keeps, ve, .int .i64 R.blocked, .int .i64 R.quiet, .int .i64 R.rept] 26 := HG0x.out
      have BPz : Box wq.drew bp [.slice xa q.cells.length xn, .slice xa0 q.h0.length xn0, .slice xa1 q.h1.length xn1, .int .i64 q.turn, .int .i64 q.quiet] 37 := HG2x.out
      have BMz : Box wq.drew bx [.int .i64 m.src, .int .i64 m.dst, .int .i64 m.piece] 42 := HBm.out
      have Lz : Below w.heap.size w wq.drew := below_drew' HBx.out
      have Oz : wq.drew.ownsRow (bp + 1) 9 1 vo k (strs XS) := HOx.out
      have Qz : Held (BoxS bp vo) wq.drew fun w' => RdP w' q (.slice xa q.cells.length xn) (.slice xa0 q.h0.length xn0) (.slice xa1 q.h1.length xn1) := HGQx.out.step ((Fr.refl _ wq).drew) (Shr.refl _ _)
      clear HG0x HG2x HBm HBx HOx HGQx hbps
      refine wp_region_noPanic ?_
      refine beginL (S := (fun w' => w'.cell? ⟨w.heap.size, 0, none⟩ = some (.string R.name) ∧ w'.cell? ⟨w.heap.size, 1, none⟩ = some (.int .i64 R.width) ∧ w'.cell? ⟨w.heap.size, 2, none⟩ = some (.int .i64 R.height) ∧ w'.cell? ⟨w.heap.size, 3, none⟩ = some vp ∧ w'.cell? ⟨w.heap.size, 4, none⟩ = some vs ∧ w'.cell? ⟨w.heap.size, 5, none⟩ = some (.bool R.falls) ∧ w'.cell? ⟨w.heap.size, 6, none⟩ = some (.bool R.keeps) ∧ w'.cell? ⟨w.heap.size, 7, none⟩ = some ve ∧ w'.cell? ⟨w.heap.size, 8, none⟩ = some (.int .i64 R.blocked) ∧ w'.cell? ⟨w.heap.size, 9, none⟩ = some (.int .i64 R.quiet) ∧ w'.cell? ⟨w.heap.size, 10, none⟩ = some (.int .i64 R.rept) ∧ w'.cell? ⟨bp, 0, none⟩ = some (.slice xa q.cells.length xn) ∧ w'.cell? ⟨bp, 1, none⟩ = some (.slice xa0 q.h0.length xn0) ∧ w'.cell? ⟨bp, 2, none⟩ = some (.slice xa1 q.h1.length xn1) ∧ w'.cell? ⟨bp, 3, none⟩ = some (.int .i64 q.turn) ∧ w'.cell? ⟨bp, 4, none⟩ = some (.int .i64 q.quiet) ∧ w'.cell? ⟨bx, 0, none⟩ = some (.int .i64 m.src) ∧ w'.cell? ⟨bx, 1, none⟩ = some (.int .i64 m.dst) ∧ w'.cell? ⟨bx, 2, none⟩ = some (.int .i64 m.piece))) (L := []) (by kernel_rfl) ⟨BRz.cell 0 rfl, BRz.cell 1 rfl, BRz.cell 2 rfl, BRz.cell 3 rfl, BRz.cell 4 rfl, BRz.cell 5 rfl, BRz.cell 6 rfl, BRz.cell 7 rfl, BRz.cell 8 rfl, BRz.cell 9 rfl, BRz.cell 10 rfl, BPz.cell 0 rfl, BPz.cell 1 rfl, BPz.cell 2 rfl, BPz.cell 3 rfl, BPz.cell 4 rfl, BMz.cell 0 rfl, BMz.cell 1 rfl, BMz.cell 2 rfl⟩ (fun hHeld => ?_)
      refine takeW (i := 0) (oi := { dst := some 35, op := Op.move (Operand.tmp 11), type := 50, pos := "movetext.go:120", after := #[], guard := none }) (v := ?va1) rfl (by kernel_rfl) (by kernel_rfl) (by kernel_rfl) rfl (fun _ _ _ h => h) (Or.inl ⟨by rfl, ?ya1⟩) (fun _ => by assumption) ?ra1
      case ya1 => (intro w _; go_simp; first | done | (with_reducible rfl) | (rw [if_neg (by omega)]))
      try simp only [Act.put, List.setIfInBounds_toArray, List.set_cons_zero, List.set_cons_succ]
      refine takeL (i := 1) (oi := { dst := some 36, op := Op.load 26 (Operand.tmp 2), type := 26, pos := "movetext.go:120", after := #[], guard := none }) (v := ?va2) rfl (by kernel_rfl) (by kernel_rfl) (by kernel_rfl) (by kernel_rfl) rfl (by kernel_rfl) (by kernel_rfl) (fun _ _ _ h => h) (Or.inl ⟨by rfl, ?ya2⟩) (by assumption) ?ra2
      case ya2 => (intro w hSw; (try dsimp only at hSw); go_simp; first | done | (with_reducible rfl))
      try simp only [Act.put, List.setIfInBounds_toArray, List.set_cons_zero, List.set_cons_succ]
      refine takeL (i := 2) (oi := { dst := some 37, op := Op.load 37 (Operand.tmp 9), type := 37, pos := "movetext.go:120", after := #[], guard := none }) (v := ?va3) rfl (by kernel_rfl) (by kernel_rfl) (by kernel_rfl) (by kernel_rfl) rfl (by kernel_rfl) (by kernel_rfl) (fun _ _ _ h => h) (Or.inl ⟨by rfl, ?ya3⟩) (by assumption) ?ra3
      case ya3 => (intro w hSw; (try dsimp only at hSw); go_simp; first | done | (with_reducible rfl))
      try simp only [Act.put, List.setIfInBounds_toArray, List.set_cons_zero, List.set_cons_succ]
      refine takeL (i := 3) (oi := { dst := some 38, op := Op.load 26 (Operand.tmp 2), type := 26, pos := "movetext.go:120", after := #[], guard := none }) (v := ?va4) rfl (by kernel_rfl) (by kernel_rfl) (by kernel_rfl) (by kernel_rfl) rfl (by kernel_rfl) (by kernel_rfl) (fun _ _ _ h => h) (Or.inl ⟨by rfl, ?ya4⟩) (by assumption) ?ra4
      case ya4 => (intro w hSw; (try dsimp only at hSw); go_simp; first | done | (with_reducible rfl))
      try simp only [Act.put, List.setIfInBounds_toArray, List.set_cons_zero, List.set_cons_succ]
      refine takeL (i := 4) (oi := { dst := some 39, op := Op.load 37 (Operand.tmp 9), type := 37, pos := "movetext.go:120", after := #[], guard := none }) (v := ?va5) rfl (by kernel_rfl) (by kernel_rfl) (by kernel_rfl) (by kernel_rfl) rfl (by kernel_rfl) (by kernel_rfl) (fun _ _ _ h => h) (Or.inl ⟨by rfl, ?ya5⟩) (by assumption) ?ra5
      case ya5 => (intro w hSw; (try dsimp only at hSw); go_simp; first | done | (with_reducible rfl))
      try simp only [Act.put, List.setIfInBounds_toArray, List.set_cons_zero, List.set_cons_succ]
      refine takeL (i := 6) (oi := { dst := some 41, op := Op.load 42 (Operand.tmp 13), type := 42, pos := "movetext.go:120", after := #[], guard := none }) (v := ?va6) rfl (by kernel_rfl) (by kernel_rfl) (by kernel_rfl) (by kernel_rfl) rfl (by kernel_rfl) (by kernel_rfl) (fun _ _ _ h => h) (Or.inl ⟨by rfl, ?ya6⟩) (by assumption) ?ra6
      case ya6 => (intro w hSw; (try dsimp only at hSw); go_simp; first | done | (with_reducible rfl))
      try simp only [Act.put, List.setIfInBounds_toArray, List.set_cons_zero, List.set_cons_succ]
      refine readyL (rs := [5]) (by kernel_rfl) (by simp) ?_
      refine (AllReadyL.cons (o := { dst := some 40, op := Op.call { callee := Callee.value (Operand.func 62), args := #[Operand.tmp 38, Operand.tmp 39], argTypes := #[26, 37] }, type := 32, pos := "movetext.go:120", after := #[{ on := 3, ground := Ground.data }, { on := 4, ground := Ground.data }], guard := none }) rfl (fun K hK => ?_) AllReadyL.nil)
      go_simp
      refine (List_any HSh.out R vp vs ve q (.slice xa q.cells.length xn) (.slice xa0 q.h0.length xn0) (.slice xa1 q.h1.length xn1) _ (HR.out.below Lz (Nat.le_refl _)) Qz.now HKq.out).mono ?_
      rintro e w5 ⟨vq, rfl, ho5, hb5⟩
      have BR5 := BRz.stays hb5
      have BP5 := BPz.stays hb5
      have BM5 := BMz.stays hb5
      have L5 := below_trans Lz hb5 Lz.size
      have O5 := own_stays Oz hb5
      have Q5 := Qz.step (Fr.of_new (S := BoxS bp vo) hb5) (Shr.refl _ _)
      obtain ⟨aq, cq, rfl⟩ := own_form2 ho5
      have RM5 := rdM_of_own ho5
      clear hb5 ho5
      refine hK.out _ _ ⟨BR5.cell 0 rfl, BR5.cell 1 rfl, BR5.cell 2 rfl, BR5.cell 3 rfl, BR5.cell 4 rfl, BR5.cell 5 rfl, BR5.cell 6 rfl, BR5.cell 7 rfl, BR5.cell 8 rfl, BR5.cell 9 rfl, BR5.cell 10 rfl, BP5.cell 0 rfl, BP5.cell 1 rfl, BP5.cell 2 rfl, BP5.cell 3 rfl, BP5.cell 4 rfl, BM5.cell 0 rfl, BM5.cell 1 rfl, BM5.cell 2 rfl⟩ (fun hHeld => ?_)
      clear hK K
      try simp only [Act.put, List.setIfInBounds_toArray, List.set_cons_zero, List.set_cons_succ]
      refine readyL (rs := [7]) (by kernel_rfl) (by simp) ?_
      refine (AllReadyL.cons (o := { dst := some 42, op := Op.call { callee := Callee.value (Operand.func 73), args := #[Operand.tmp 36, Operand.tmp 37, Operand.tmp 40, Operand.tmp 41], argTypes := #[26, 37, 32, 42] }, type := 9, pos := "movetext.go:120", after := #[{ on := 1, ground := Ground.data }, { on := 2, ground := Ground.data }, { on := 5, ground := Ground.data }, { on := 6, ground := Ground.data }, { on := 5, ground := Ground.chain }], guard := none }) rfl (fun K hK => ?_) AllReadyL.nil)
      go_simp
      refine (Of_any R vp vs ve q (.slice xa q.cells.length xn) (.slice xa0 q.h0.length xn0) (.slice xa1 q.h1.length xn1) m _ (listZ R q) _ (HR.out.1.below L5 (Nat.le_refl _)) Q5.now.1 RM5 HKq.out HLet.out HLF.out HLL.out HOF.out).mono ?_
      rintro e w7 ⟨he7, hb7⟩
      rw [HTE.out] at he7
      subst he7
      have BR7 := BR5.stays hb7
      have BP7 := BP5.stays hb7
      have BM7 := BM5.stays hb7
      have L7 := below_trans L5 hb7 L5.size
      have O7 := own_stays O5 hb7
      have Q7 := Q5.step (Fr.of_new (S := BoxS bp vo) hb7) (Shr.refl _ _)
      clear hb7 RM5
      refine hK.out _ _ ⟨BR7.cell 0 rfl, BR7.cell 1 rfl, BR7.cell 2 rfl, BR7.cell 3 rfl, BR7.cell 4 rfl, BR7.cell 5 rfl, BR7.cell 6 rfl, BR7.cell 7 rfl, BR7.cell 8 rfl, BR7.cell 9 rfl, BR7.cell 10 rfl, BP7.cell 0 rfl, BP7.cell 1 rfl, BP7.cell 2 rfl, BP7.cell 3 rfl, BP7.cell 4 rfl, BM7.cell 0 rfl, BM7.cell 1 rfl, BM7.cell 2 rfl⟩ (fun hHeld => ?_)
      clear hK K
      try simp only [Act.put, List.setIfInBounds_toArray, List.set_cons_zero, List.set_cons_succ]
      refine readyL (rs := [8]) (by kernel_rfl) (by simp) ?_
      refine (AllReadyL.cons (o := { dst := some 43, op := Op.buildSlice 50 1 #[(0, Operand.tmp 42)], type := 50, pos := "movetext.go:120", after := #[{ on := 7, ground := Ground.data }], guard := none }) rfl (fun K hK => ?_) AllReadyL.nil)
      go_simp
      refine K_world ?_
      intro w8 e8
      have hb8 : Below w7.heap.size w7 w8 := by rw [e8]; exact (Below.refl _ _).alloc (Nat.le_refl _) _
      have BR8 := BR7.stays hb8
      have BP8 := BP7.stays hb8
      have BM8 := BM7.stays hb8
      have L8 := below_trans L7 hb8 L7.size
      have O8 := own_stays O7 hb8
      have Q8 := Q7.step (Fr.of_new (S := BoxS bp vo) hb8) (Shr.refl _ _)
      have N8 : w8.cell? ⟨w7.heap.size, 0, none⟩ = some (.string TX) := by rw [e8]; simp [go_sem]
      have Z8 : w7.heap.size ≤ w8.heap.size := hb8.size
      clear hb8 e8
      refine hK.out _ _ ⟨BR8.cell 0 rfl, BR8.cell 1 rfl, BR8.cell 2 rfl, BR8.cell 3 rfl, BR8.cell 4 rfl, BR8.cell 5 rfl, BR8.cell 6 rfl, BR8.cell 7 rfl, BR8.cell 8 rfl, BR8.cell 9 rfl, BR8.cell 10 rfl, BP8.cell 0 rfl, BP8.cell 1 rfl, BP8.cell 2 rfl, BP8.cell 3 rfl, BP8.cell 4 rfl, BM8.cell 0 rfl, BM8.cell 1 rfl, BM8.cell 2 rfl⟩ (fun hHeld => ?_)
      clear hK K
      try simp only [Act.put, List.setIfInBounds_toArray, List.set_cons_zero, List.set_cons_succ]
      refine readyL (rs := [9]) (by kernel_rfl) (by simp) ?_
      refine (AllReadyL.cons (o := { dst := some 44, op := Op.call { callee := Callee.builtin Builtin.append, args := #[Operand.tmp 35, Operand.tmp 43], argTypes := #[50, 50] }, type := 50, pos := "movetext.go:120", after := #[{ on := 0, ground := Ground.data }, { on := 8, ground := Ground.data }, { on := 7, ground := Ground.chain }], guard := none }) rfl (fun K hK => ?_) AllReadyL.nil)
      rw [if_pos (by rfl)]
      refine wp_append_lies _ _ _ 50 rfl (bp + 1) 9 i0 (.string ByteArray.empty) 1 16 Try.underlying50 HI.out HZ0.out HZ1.out HZ2.out rfl (by decide) vo k (strs XS) rfl O8 ⟨w7.heap.size, 0, none⟩ 1 1 [.string TX] rfl rfl (src_str N8) one_str (by decide) (by unfold maxLen; omega) (by omega) BP8.lt w8.heap.size rfl ?_
      intro g9 c9 w9 ho9 hg9 hq9 hl9
      have BR9 := BR8.grown hg9 (fun e => by have := (O8.lt _ e.symm).1; omega)
      have BP9 := BP8.grown hg9 (fun e => by have := (O8.lt _ e.symm).1; omega)
      have BM9 := BM8.grown hg9 (fun e => by have := hbxo _ e.symm; omega)
      have L9 := Below.grown L8 hg9 L8.size (fun q' hq' => by have := (O8.lt q' hq').1; omega)
      have Q9 := Q8.step (S' := BoxS bp (.slice (some ⟨g9, 0, none⟩) (k + 1) c9)) ((Fr.refl _ _).grown hg9 (fun k' hk' _ => .inr hk')) (boxS_shr (hq9.imp id (fun e => by omega)))
      clear hg9 hq9 hl9
      refine hK.out _ _ ⟨BR9.cell 0 rfl, BR9.cell 1 rfl, BR9.cell 2 rfl, BR9.cell 3 rfl, BR9.cell 4 rfl, BR9.cell 5 rfl, BR9.cell 6 rfl, BR9.cell 7 rfl, BR9.cell 8 rfl, BR9.cell 9 rfl, BR9.cell 10 rfl, BP9.cell 0 rfl, BP9.cell 1 rfl, BP9.cell 2 rfl, BP9.cell 3 rfl, BP9.cell 4 rfl, BM9.cell 0 rfl, BM9.cell 1 rfl, BM9.cell 2 rfl⟩ (fun hHeld => ?_)
      clear hK K
      try simp only [Act.put, List.setIfInBounds_toArray, List.set_cons_zero, List.set_cons_succ]
      refine takeW (i := 10) (oi := { dst := some 11, op := Op.assign (Operand.tmp 44), type := 50, pos := "movetext.go:120", after := #[{ on := 9, ground := Ground.data }, { on := 9, ground := Ground.chain }, { on := 0, ground := Ground.phase }, { on := 1, ground := Ground.phase }, { on := 2, ground := Ground.phase }, { on := 3, ground := Ground.phase }, { on := 4, ground := Ground.phase }, { on := 5, ground := Ground.phase }, { on := 6, ground := Ground.phase }, { on := 7, ground := Ground.phase }, { on := 8, ground := Ground.phase }, { on := 9, ground := Ground.phase }], guard := none }) (v := ?va7) rfl (by kernel_rfl) (by kernel_rfl) (by kernel_rfl) rfl (fun _ _ _ h => h) (Or.inl ⟨by rfl, ?ya7⟩) (fun _ => by assumption) ?ra7
      case ya7 => (intro w _; go_simp; first | done | (with_reducible rfl) | (rw [if_neg (by omega)]))
      try simp only [Act.put, List.setIfInBounds_toArray, List.set_cons_zero, List.set_cons_succ]
      refine doneL (by kernel_rfl) ?_ _
      refine NoPanic.normal ?_
      have HB9 := Lib.hid BR9
      have HP9 := Lib.hid BP9
      have HM9 := Lib.hid BM9
      have HL9 := Lib.hid L9
      have HO9 := Lib.hid ho9
      have HQ9 := Lib.hid Q9
      clear hHeld ho9 N8 Z8 BRz BPz BMz Lz Qz BR5 BP5 BM5 L5 Q5 BR7 BP7 BM7 L7 Q7 BR8 BP8 BM8 L8 Q8 BR9 BP9 BM9 L9 Q9 Oz O5 O7 O8
      go_upto_region 10 with (fail)
      refine wp_region_lit ?_
      refine wpList_load_box (by rfl) 26 (.tmp 2) (by rfl) (w.heap.size) (by rfl) HB9.out Try.underlying26 (by rfl) (by kernel_rfl) ?_
      refine wpList_load_box (by rfl) 37 (.tmp 9) (by rfl) (bp) (by rfl) HP9.out Try.underlying37 (by rfl) (by kernel_rfl) ?_
      refine wpList_load_box (by rfl) 42 (.tmp 13) (by rfl) (bx) (by rfl) HM9.out Try.underlying42 (by rfl) (by kernel_rfl) ?_
      go_wp2_with fail
      refine (Make_any R vp vs ve q (.slice xa q.cells.length xn) (.slice xa0 q.h0.length xn0) (.slice xa1 q.h1.length xn1) m w9 HQ9.out.now HKq.out HOF.out.f).mono ?_
      rintro e w10 ⟨yc, y0, y1, rfl, ho10, hb10⟩
      obtain ⟨ya, yn, rfl⟩ := own_form2 ho10.1
      obtain ⟨ya0, yn0, rfl⟩ := own_form2 ho10.2.1
      obtain ⟨ya1, yn1, rfl⟩ := own_form2 ho10.2.2.1
      have HB10 := Lib.hid (HB9.out.stays hb10)
      have HP10 := Lib.hid (HP9.out.stays hb10)
      have HL10 := Lib.hid (below_trans HL9.out hb10 HL9.out.size)
      have HO10 := Lib.hid (own_stays HO9.out hb10)
      have HN10 : Hid (Held (BoxS bp (.slice (some ⟨g9, 0, none⟩) (k + 1) c9)) w10 fun w' => OwnP w9.heap.size w' (makeZ R q m) (.slice ya (makeZ R q m).cells.length yn) (.slice ya0 (makeZ R q m).h0.length yn0) (.slice ya1 (makeZ R q m).h1.length yn1)) := Lib.hid (ownP_held ho10 (fun k' h1 h2 hk => by
        rcases hk with rfl | hk
        · have := HP9.out.lt; omega
        · have := (HO9.out.lt k' hk).2; omega))
      have hbp10 := HP10.out.lt
      clear hb10 ho10 HB9 HP9 HM9 HL9 HO9 HQ9
      unfold posV
      go_wp2_with (refine wpList_store_box (vs := [.slice ya (makeZ R q m).cells.length yn, .slice ya0 (makeZ R q m).h0.length yn0, .slice ya1 (makeZ R q m).h1.length yn1, .int .i64 (makeZ R q m).turn, .int .i64 (makeZ R q m).quiet]) (by rfl) 37 (.tmp 9) (.tmp 48) (by rfl) bp (by rfl) (by rfl) HP10.out rfl (by kernel_rfl) (by rfl) ?_)
      have HPs := Lib.hid (HP10.out.store (vs := [.slice ya (makeZ R q m).cells.length yn, .slice ya0 (makeZ R q m).h0.length yn0, .slice ya1 (makeZ R q m).h1.length yn1, .int .i64 (makeZ R q m).turn, .int .i64 (makeZ R q m).quiet]) rfl)
      have HBs := Lib.hid (HB10.out.farAll (show w.heap.size ≠ bp by omega) 0 [.slice ya (makeZ R q m).cells.length yn, .slice ya0 (makeZ R q m).h0.length yn0, .slice ya1 (makeZ R q m).h1.length yn1, .int .i64 (makeZ R q m).turn, .int .i64 (makeZ R q m).quiet])
      have HOs : Hid ((w10.setCells bp 0 [.slice ya (makeZ R q m).cells.length yn, .slice ya0 (makeZ R q m).h0.length yn0, .slice ya1 (makeZ R q m).h1.length yn1, .int .i64 (makeZ R q m).turn, .int .i64 (makeZ R q m).quiet]).ownsRow (bp + 1) 9 1 (.slice (some ⟨g9, 0, none⟩) (k + 1) c9) (k + 1) (strs (lineT R l (k + 1)))) := Lib.hid (by rw [HTX.out, ← strs_snoc]; exact own_setCells HO10.out (by omega) 0 _)
      have HLs := Lib.hid (below_setCells HL10.out (show w.heap.size ≤ bp by omega) 0 [.slice ya (makeZ R q m).cells.length yn, .slice ya0 (makeZ R q m).h0.length yn0, .slice ya1 (makeZ R q m).h1.length yn1, .int .i64 (makeZ R q m).turn, .int .i64 (makeZ R q m).quiet])
      have HNs : Hid (Held (BoxS bp (.slice (some ⟨g9, 0, none⟩) (k + 1) c9)) (w10.setCells bp 0 [.slice ya (makeZ R q m).cells.length yn, .slice ya0 (makeZ R q m).h0.length yn0, .slice ya1 (makeZ R q m).h1.length yn1, .int .i64 (makeZ R q m).turn, .int .i64 (makeZ R q m).quiet]) fun w' => RdP w' (makeZ R q m) (.slice ya (makeZ R q m).cells.length yn) (.slice ya0 (makeZ R q m).h0.length yn0) (.slice ya1 (makeZ R q m).h1.length yn1)) := Lib.hid ((HN10.out.step ((Fr.refl _ _).setCells (.inl rfl) 0 _) (Shr.refl _ _)).imp fun _ h => h.rd)
      clear HP10 HB10 HO10 HL10 HN10
      go_roundw
      case rel => exact ⟨k + 1, _, _, _, _, rfl, by omega, by go_num, HBs, ⟨makeZ R q m, Lib.hid HTK.out, HPs, HNs⟩, HOs, HLs⟩
      case measure => simp [intOf]; omega
    · obtain rfl : k = l.length := by omega
      have HJc := Lib.hid (HJh.out (bp + 1) vo (lineT R l l.length) ⟨#[32]⟩ wr (by rw [lineT_len]; exact HO.out) (by rw [lineT_len]; omega) (fun x hx => by
        unfold lineT at hx
        obtain ⟨j, hj, rfl⟩ := List.mem_map.1 hx
        have hj' := List.mem_range.1 hj
        have := (ofT_size HLet.out (posAt_ok (begin_ok HRZ.out) HLA.out j (by omega)) (HLA.out j hj')).2
        unfold textAt nowZ
        omega) (by decide))
      clear HO HGQ HG2
      go_wp2_with fail
      refine HJc.out.mono ?_
      rintro e w9 ⟨rfl, hb9⟩
      have HL9 := Lib.hid (below_trans HBr.out hb9 HBr.out.size)
      clear hb9
      go_wp2_with fail
      go_ret2
      exact ⟨by rw [HOKr.out, if_pos rfl]; rfl, HL9.out⟩

end Go.Proofs.Ytkfaibdflbdpgaa
/- The contract of movetext.Text; the law's helper writes. -/
namespace Go.Proofs.Ytkfaibdflbdpgaa
open Go.ChangeShapes Go.WideShapes Go.ChangeAt Go.RowKit
set_option linter.unusedVariables false

def textErr (R : RulesZ) (p : PosZ) (m : MoveZ) : Int := if posErr R p ≠ 0 then posErr R p else if m ∉ listZ R p then 13 else 0
def textZ (R : RulesZ) (p : PosZ) (m : MoveZ) : ByteArray := if textErr R p m = 0 then ofT R p (listZ R p) m else ByteArray.empty
set_option maxRecDepth 100000 in
set_option maxHeartbeats 4000000 in
theorem Text_any (HS : SortMvSaid) (R : RulesZ) (vp vs ve : Value) (p : PosZ) (vc v0 v1 : Value) (m : MoveZ) (w : World) (hr : RdR w R vp vs ve) (hnm : R.name.size ≤ maxLen) (hp : RdP w p vc v0 v1) :
    Calls Try.prog 31 #[(.agg #[.string R.name, .int .i64 R.width, .int .i64 R.height, vp, vs, .bool R.falls, .bool R.keeps, ve, .int .i64 R.blocked, .int .i64 R.quiet, .int .i64 R.rept]), (.agg #[vc, v0, v1, .int .i64 p.turn, .int .i64 p.quiet]), .agg #[.int .i64 m.src, .int .i64 m.dst, .int .i64 m.piece]] w fun e w' => e = .returned (.tuple #[.string (textZ R p m), .int .i64 (textErr R p m)]) ∧ Below w.heap.size w w' := by
  have HD : Hid (textErr R p m = if posErr R p ≠ 0 then posErr R p else if m ∉ listZ R p then 13 else 0) := Lib.hid rfl
  have HQ : Hid (textZ R p m = if textErr R p m = 0 then ofT R p (listZ R p) m else ByteArray.empty) := Lib.hid rfl
  have HSh := Lib.hid HS
  have HR := Lib.hid hr
  have HN := Lib.hid hnm
  have HP := Lib.hid hp
  obtain ⟨ac, cc, rfl, hc1, hc2⟩ := hp.1.form
  unfold maxLen at hc2
  clear hr hnm hp HS
  go_enter Try.func31, Try.ntmps31
  go_upto_region 1 with (fail)
  have B0 : Box (((w.alloc (.cells #[.string R.name, .int .i64 R.width, .int .i64 R.height, vp, vs, .bool R.falls, .bool R.keeps, ve, .int .i64 R.blocked, .int .i64 R.quiet, .int .i64 R.rept] 26)).alloc (.cells #[.slice ac p.cells.length cc, v0, v1, .int .i64 p.turn, .int .i64 p.quiet] 37)).alloc (.cells #[.int .i64 m.src, .int .i64 m.dst, .int .i64 m.piece] 42)) (w.heap.size) [.string R.name, .int .i64 R.width, .int .i64 R.height, vp, vs, .bool R.falls, .bool R.keeps, ve, .int .i64 R.blocked, .int .i64 R.quiet, .int .i64 R.rept] 26 := (((Box.new' w (w.heap.size) [.string R.name, .int .i64 R.width, .int .i64 R.height, vp, vs, .bool R.falls, .bool R.keeps, ve, .int .i64 R.blocked, .int .i64 R.quiet, .int .i64 R.rept] 26 (by simp <;> omega)).alloc _).alloc _)
  have B1 : Box (((w.alloc (.cells #[.string R.name, .int .i64 R.width, .int .i64 R.height, vp, vs, .bool R.falls, .bool R.keeps, ve, .int .i64 R.blocked, .int .i64 R.quiet, .int .i64 R.rept] 26)).alloc (.cells #[.slice ac p.cells.length cc, v0, v1, .int .i64 p.turn, .int .i64 p.quiet] 37)).alloc (.cells #[.int .i64 m.src, .int .i64 m.dst, .int .i64 m.piece] 42)) (w.heap.size + 1) [.slice ac p.cells.length cc, v0, v1, .int .i64 p.turn, .int .i64 p.quiet] 37 := ((Box.new' (w.alloc (.cells #[.string R.name, .int .i64 R.width, .int .i64 R.height, vp, vs, .bool R.falls, .bool R.keeps, ve, .int .i64 R.blocked, .int .i64 R.quiet, .int .i64 R.rept] 26)) (w.heap.size + 1) [.slice ac p.cells.length cc, v0, v1, .int .i64 p.turn, .int .i64 p.quiet] 37 (by simp <;> omega)).alloc _)
  have B2 : Box (((w.alloc (.cells #[.string R.name, .int .i64 R.width, .int .i64 R.height, vp, vs, .bool R.falls, .bool R.keeps, ve, .int .i64 R.blocked, .int .i64 R.quiet, .int .i64 R.rept] 26)).alloc (.cells #[.slice ac p.cells.length cc, v0, v1, .int .i64 p.turn, .int .i64 p.quiet] 37)).alloc (.cells #[.int .i64 m.src, .int .i64 m.dst, .int .i64 m.piece] 42)) (w.heap.size + 1 + 1) [.int .i64 m.src, .int .i64 m.dst, .int .i64 m.piece] 42 := (Box.new' ((w.alloc (.cells #[.string R.name, .int .i64 R.width, .int .i64 R.height, vp, vs, .bool R.falls, .bool R.keeps, ve, .int .i64 R.blocked, .int .i64 R.quiet, .int .i64 R.rept] 26)).alloc (.cells #[.slice ac p.cells.length cc, v0, v1, .int .i64 p.turn, .int .i64 p.quiet] 37)) (w.heap.size + 1 + 1) [.int .i64 m.src, .int .i64 m.dst, .int .i64 m.piece] 42 (by simp <;> omega))
  have HB : Hid (Below w.heap.size w (((w.alloc (.cells #[.string R.name, .int .i64 R.width, .int .i64 R.height, vp, vs, .bool R.falls, .bool R.keeps, ve, .int .i64 R.blocked, .int .i64 R.quiet, .int .i64 R.rept] 26)).alloc (.cells #[.slice ac p.cells.length cc, v0, v1, .int .i64 p.turn, .int .i64 p.quiet] 37)).alloc (.cells #[.int .i64 m.src, .int .i64 m.dst, .int .i64 m.piece] 42))) := Lib.hid ((((Below.refl w.heap.size w).alloc (Nat.le_refl _) _).alloc (by simp <;> omega) _).alloc (by simp <;> omega) _)
  have hz0 : w.heap.size + 1 + 1 < (((w.alloc (.cells #[.string R.name, .int .i64 R.width, .int .i64 R.height, vp, vs, .bool R.falls, .bool R.keeps, ve, .int .i64 R.blocked, .int .i64 R.quiet, .int .i64 R.rept] 26)).alloc (.cells #[.slice ac p.cells.length cc, v0, v1, .int .i64 p.turn, .int .i64 p.quiet] 37)).alloc (.cells #[.int .i64 m.src, .int .i64 m.dst, .int .i64 m.piece] 42)).heap.size := by simp
  generalize (((w.alloc (.cells #[.string R.name, .int .i64 R.width, .int .i64 R.height, vp, vs, .bool R.falls, .bool R.keeps, ve, .int .i64 R.blocked, .int .i64 R.quiet, .int .i64 R.rept] 26)).alloc (.cells #[.slice ac p.cells.length cc, v0, v1, .int .i64 p.turn, .int .i64 p.quiet] 37)).alloc (.cells #[.int .i64 m.src, .int .i64 m.dst, .int .i64 m.piece] 42)) = w0 at *
  have HX := Lib.hid B0
  have HY := Lib.hid B1
  have HZ := Lib.hid B2
  clear B0 B1 B2
  refine wp_region_lit ?_
  refine wpList_load_box (by rfl) 26 (.tmp 3) (by rfl) (w.heap.size) (by rfl) HX.out Try.underlying26 (by rfl) (by kernel_rfl) ?_
  refine wpList_load_box (by rfl) 37 (.tmp 4) (by rfl) (w.heap.size + 1) (by rfl) HY.out Try.underlying37 (by rfl) (by kernel_rfl) ?_
  go_wp2_with fail
  refine (All_any HSh.out R vp vs ve p _ v0 v1 w0 (HR.out.below HB.out (Nat.le_refl _)) HN.out (HP.out.below HB.out (Nat.le_refl _))).mono ?_
  rintro e w1 ⟨va, rfl, ho1, hb1⟩
  have HB1 := Lib.hid (below_trans HB.out hb1 HB.out.size)
  have HX1 := Lib.hid (HX.out.below hb1 (by omega))
  have HY1 := Lib.hid (HY.out.below hb1 (by omega))
  have HZ1 := Lib.hid (HZ.out.below hb1 (by omega))
  have HO1 := Lib.hid ho1
  obtain ⟨aa, ca, rfl⟩ := own_form2 ho1
  clear hb1 HX HY HZ ho1
  by_cases he : posErr R p = 0
  rotate_left
  · have hE : textErr R p m = posErr R p := by rw [HD.out, if_pos he]
    have HE := Lib.hid hE
    have HG : Hid (textZ R p m = ByteArray.empty) := Lib.hid (by rw [HQ.out, hE, if_neg he])
    have heb : (posErr R p != 0) = true := by simpa using he
    clear hE he HD HQ
    go_wp2_with fail
    go_ret2
    exact ⟨by rw [HE.out, HG.out]; rfl, HB1.out⟩
  have HZE := Lib.hid he
  have HK := Lib.hid (pok_of he)
  have HLt := Lib.hid (let_ok (R := R) (by unfold posErr at he; by_cases q : rulesErr R = 0; exact q; rw [if_pos q] at he; exact he))
  have HAL : Hid (allZ R p = listZ R p) := Lib.hid (by unfold allZ; rw [if_pos he])
  rw [HAL.out] at HO1
  rw [HAL.out]
  have HD1 : Hid (textErr R p m = if m ∉ listZ R p then 13 else 0) := Lib.hid (by rw [HD.out, if_neg (by simp [he])])
  rw [he]
  have HM1 := Lib.hid (rdM_of_own HO1.out)
  clear he HD HAL HO1
  go_upto_region 4 with (fail)
  have HC := Lib.hid (contains_mv (.slice aa (listZ R p).length ca) m (listZ R p) w1 HM1.out)
  have z0 := HZ1.out.cell 0 rfl
  have z1 := HZ1.out.cell 1 rfl
  have z2 := HZ1.out.cell 2 rfl
  go_wp2_with fail
  refine HC.out.mono ?_
  rintro e w2 ⟨rfl, hb2⟩
  have HB2 := Lib.hid (below_trans HB1.out hb2 HB1.out.size)
  have HX2 := Lib.hid (HX1.out.stays hb2)
  have HY2 := Lib.hid (HY1.out.stays hb2)
  have HZ2 := Lib.hid (HZ1.out.stays hb2)
  have HM2 := Lib.hid (HM1.out.below hb2 (Nat.le_refl _))
  clear hb2 HC z0 z1 z2 HX1 HY1 HZ1 HM1 HB1
  by_cases hm : m ∈ listZ R p
  rotate_left
  · have hE : textErr R p m = 13 := by rw [HD1.out, if_pos hm]
    have HE := Lib.hid hE
    have HG : Hid (textZ R p m = ByteArray.empty) := Lib.hid (by rw [HQ.out, hE]; rfl)
    have hmb : decide (m ∈ listZ R p) = false := by simpa using hm
    rw [hmb]
    clear hE hm hmb HD1 HQ
    go_wp2_with fail
    go_ret2
    exact ⟨by rw [HE.out, HG.out]; rfl, HB2.out⟩
  have hE : textErr R p m = 0 := by rw [HD1.out, if_neg (by simpa using hm)]
  have HE := Lib.hid hE
  have HG : Hid (textZ R p m = ofT R p (listZ R p) m) := Lib.hid (by rw [HQ.out, if_pos hE])
  have hmb : decide (m ∈ listZ R p) = true := by simpa using hm
  have HOF := Lib.hid (ofOk_of HK.out hm)
  have HLF : Hid (∀ x ∈ listZ R p, x.src < p.cells.length) := Lib.hid (fun x hx => (fits_of HK.out hx).s.2)
  have HLL : Hid ((listZ R p).length ≤ 1000000) := Lib.hid (by have := list_len' HK.out; omega)
  rw [hmb]
  clear hE hm hmb HD1 HQ
  have HOc := Lib.hid (Of_any R vp vs ve p (.slice ac p.cells.length cc) v0 v1 m (.slice aa (listZ R p).length ca) (listZ R p) w2 (HR.out.1.below HB2.out (Nat.le_refl _)) (HP.out.1.below HB2.out (Nat.le_refl _)) HM2.out HK.out HLt.out HLF.out HLL.out HOF.out)
  generalize listZ R p = LL at *
  go_upto_region 6 with (fail)
  refine wp_region_lit ?_
  refine wpList_load_box (by rfl) 26 (.tmp 3) (by rfl) (w.heap.size) (by rfl) HX2.out Try.underlying26 (by rfl) (by kernel_rfl) ?_
  refine wpList_load_box (by rfl) 37 (.tmp 4) (by rfl) (w.heap.size + 1) (by rfl) HY2.out Try.underlying37 (by rfl) (by kernel_rfl) ?_
  go_wp2_with (refine wpList_load_box (by rfl) 42 (.tmp 5) (by rfl) (w.heap.size + 1 + 1) (by rfl) HZ2.out Try.underlying42 (by rfl) (by kernel_rfl) ?_)
  refine HOc.out.mono ?_
  rintro e w3 ⟨rfl, hb3⟩
  have HB3 := Lib.hid (below_trans HB2.out hb3 HB2.out.size)
  clear hb3
  go_wp2_with fail
  go_ret2
  exact ⟨by rw [HE.out, HG.out]; rfl, HB3.out⟩
theorem drop_anyM (n : Int) (w : World) : Calls Try.prog 70 #[.int .i64 n] w fun e w' => e = .returned (.agg #[.int .i64 (-1), .int .i64 n, .int .i64 0]) ∧ Below w.heap.size w w' := by
  go_enter Try.func70, Try.ntmps70
  go_wp2
  exact bodyPost_ret (v := .agg #[.int .i64 (-1), .int .i64 n, .int .i64 0]) (by simp [results, Try.results70, go_sem]) rfl ⟨rfl, by go_grown⟩
theorem tic_text : textZ ticZ (beginZ ticZ) ⟨-1, 4, 0⟩ = ⟨#[83, 64, 98, 50]⟩ ∧ textErr ticZ (beginZ ticZ) ⟨-1, 4, 0⟩ = 0 := by
  have h0 : posErr ticZ (beginZ ticZ) = 0 := by decide +kernel
  have hm : (⟨-1, 4, 0⟩ : MoveZ) ∈ listZ ticZ (beginZ ticZ) := by rw [list_mem]; decide +kernel
  have he : textErr ticZ (beginZ ticZ) ⟨-1, 4, 0⟩ = 0 := by unfold textErr; rw [if_neg (by simp [h0]), if_neg (by simpa using hm)]
  refine ⟨?_, he⟩
  unfold textZ
  rw [if_pos he]
  unfold ofT
  rw [if_pos (by decide)]
  decide +kernel

set_option maxRecDepth 100000 in
set_option maxHeartbeats 4000000 in
theorem writes_any (HS : SortMvSaid) (w : World) : Calls Try.prog 26 #[] w fun e w' => e = .returned (.bool true) ∧ Below w.heap.size w w' := by
  have HSh := Lib.hid HS
  clear HS
  go_enter Try.func26, Try.ntmps26
  go_wp2_with fail
  refine (tic_any _).mono ?_
  rintro e w0 ⟨vp, vs, ve, rfl, hr0, hb0⟩
  have HR0 := Lib.hid hr0
  have HB0 := Lib.hid hb0
  clear hr0 hb0
  unfold rulesV
  go_wp2_with fail
  refine (Begin_any ticZ vp vs ve w0 HR0.out (by unfold maxLen; decide)).mono ?_
  rintro e w1 (⟨hbad, -⟩ | ⟨-, qc, q0, q1, rfl, hq1, hb1⟩)
  · exact absurd tic_rules hbad
  obtain ⟨za, zn, hzc, -, -⟩ := hq1.1.form
  obtain ⟨za0, zn0, hz0', -, -⟩ := hq1.2.1.form
  obtain ⟨za1, zn1, hz1', -, -⟩ := hq1.2.2.form
  subst hzc hz0' hz1'
  have hl1 := below_trans HB0.out hb1 HB0.out.size
  have HB1 := Lib.hid (hl1.alloc hl1.size (.cells #[.slice za (beginZ ticZ).cells.length zn, .slice za0 (beginZ ticZ).h0.length zn0, .slice za1 (beginZ ticZ).h1.length zn1, .int .i64 (beginZ ticZ).turn, .int .i64 (beginZ ticZ).quiet] 37))
  have HP1 := Lib.hid (Box.new w1 [.slice za (beginZ ticZ).cells.length zn, .slice za0 (beginZ ticZ).h0.length zn0, .slice za1 (beginZ ticZ).h1.length zn1, .int .i64 (beginZ ticZ).turn, .int .i64 (beginZ ticZ).quiet] 37)
  have HQ1 := Lib.hid (hq1.below ((Below.refl w1.heap.size w1).alloc (Nat.le_refl _) (.cells #[.slice za (beginZ ticZ).cells.length zn, .slice za0 (beginZ ticZ).h0.length zn0, .slice za1 (beginZ ticZ).h1.length zn1, .int .i64 (beginZ ticZ).turn, .int .i64 (beginZ ticZ).quiet] 37)) (Nat.le_refl _))
  clear hl1 hb1 hq1 HR0 HB0
  unfold posV
  go_upto_region 2 with (fail)
  obtain ⟨bp, hbp⟩ : ∃ bp, bp = w1.heap.size := ⟨_, rfl⟩
  rw [← hbp] at HP1 ⊢
  clear hbp
  generalize (w1.alloc (.cells #[.slice za (beginZ ticZ).cells.length zn, .slice za0 (beginZ ticZ).h0.length zn0, .slice za1 (beginZ ticZ).h1.length zn1, .int .i64 (beginZ ticZ).turn, .int .i64 (beginZ ticZ).quiet] 37)) = wq at *
  have Pz : Box wq.drew bp [.slice za (beginZ ticZ).cells.length zn, .slice za0 (beginZ ticZ).h0.length zn0, .slice za1 (beginZ ticZ).h1.length zn1, .int .i64 (beginZ ticZ).turn, .int .i64 (beginZ ticZ).quiet] 37 := HP1.out
  have Lz : Below w.heap.size w wq.drew := below_drew' HB1.out
  have Qz : RdP wq.drew (beginZ ticZ) (.slice za (beginZ ticZ).cells.length zn) (.slice za0 (beginZ ticZ).h0.length zn0) (.slice za1 (beginZ ticZ).h1.length zn1) := HQ1.out.below (below_drew' (Below.refl _ _)) (Nat.le_refl _)
  clear HP1 HB1 HQ1
  refine wp_region_noPanic ?_
  refine beginL (S := (fun w' => w'.cell? ⟨bp, 0, none⟩ = some (.slice za (beginZ ticZ).cells.length zn) ∧ w'.cell? ⟨bp, 1, none⟩ = some (.slice za0 (beginZ ticZ).h0.length zn0) ∧ w'.cell? ⟨bp, 2, none⟩ = some (.slice za1 (beginZ ticZ).h1.length zn1) ∧ w'.cell? ⟨bp, 3, none⟩ = some (.int .i64 (beginZ ticZ).turn) ∧ w'.cell? ⟨bp, 4, none⟩ = some (.int .i64 (beginZ ticZ).quiet))) (L := []) (by kernel_rfl) ⟨Pz.cell 0 rfl, Pz.cell 1 rfl, Pz.cell 2 rfl, Pz.cell 3 rfl, Pz.cell 4 rfl⟩ (fun hHeld => ?_)
  refine takeL (i := 1) (oi := { dst := some 12, op := Op.load 37 (Operand.tmp 1), type := 37, pos := "games.go:74", after := #[], guard := none }) (v := ?va1) rfl (by kernel_rfl) (by kernel_rfl) (by kernel_rfl) (by kernel_rfl) rfl (by kernel_rfl) (by kernel_rfl) (fun _ _ _ h => h) (Or.inl ⟨by rfl, ?ya1⟩) (by assumption) ?ra1
  case ya1 => (intro w hSw; (try dsimp only at hSw); go_simp; first | done | (with_reducible rfl))
  try simp only [Act.put, List.setIfInBounds_toArray, List.set_cons_zero, List.set_cons_succ]
  refine readyL (rs := [0]) (by kernel_rfl) (by simp) ?_
  refine (AllReadyL.cons (o := { dst := some 11, op := Op.call { callee := Callee.value (Operand.func 69), args := #[], argTypes := #[] }, type := 26, pos := "games.go:74", after := #[], guard := none }) rfl (fun K hK => ?_) AllReadyL.nil)
  go_simp
  refine (tic_any _).mono ?_
  rintro e w10 ⟨vp1, vs1, ve1, rfl, hr0, hb0⟩
  have P0 := Pz.stays hb0
  have L0 := below_trans Lz hb0 Lz.size
  have Q0 := Qz.below hb0 (Nat.le_refl _)
  have T0 := hr0
  unfold rulesV
  clear hb0 hr0
  refine hK.out _ _ ⟨P0.cell 0 rfl, P0.cell 1 rfl, P0.cell 2 rfl, P0.cell 3 rfl, P0.cell 4 rfl⟩ (fun hHeld => ?_)
  clear hK K
  try simp only [Act.put, List.setIfInBounds_toArray, List.set_cons_zero, List.set_cons_succ]
  refine readyL (rs := [2]) (by kernel_rfl) (by simp) ?_
  refine (AllReadyL.cons (o := { dst := some 13, op := Op.call { callee := Callee.value (Operand.func 70), args := #[Operand.const (Value.int IntKind.i64 4)], argTypes := #[3] }, type := 42, pos := "games.go:74", after := #[{ on := 0, ground := Ground.chain }], guard := none }) rfl (fun K hK => ?_) AllReadyL.nil)
  go_simp
  refine (drop_anyM 4 _).mono ?_
  rintro e w12 ⟨rfl, hb2⟩
  have P2 := P0.stays hb2
  have L2 := below_trans L0 hb2 L0.size
  have Q2 := Q0.below hb2 (Nat.le_refl _)
  have T2 := T0.below hb2 (Nat.le_refl _)
  clear hb2
  refine hK.out _ _ ⟨P2.cell 0 rfl, P2.cell 1 rfl, P2.cell 2 rfl, P2.cell 3 rfl, P2.cell 4 rfl⟩ (fun hHeld => ?_)
  clear hK K
  try simp only [Act.put, List.setIfInBounds_toArray, List.set_cons_zero, List.set_cons_succ]
  refine readyL (rs := [3]) (by kernel_rfl) (by simp) ?_
  refine (AllReadyL.cons (o := { dst := some 14, op := Op.call { callee := Callee.value (Operand.func 31), args := #[Operand.tmp 11, Operand.tmp 12, Operand.tmp 13], argTypes := #[26, 37, 42] }, type := 55, pos := "games.go:74", after := #[{ on := 0, ground := Ground.data }, { on := 1, ground := Ground.data }, { on := 2, ground := Ground.data }, { on := 2, ground := Ground.chain }], guard := none }) rfl (fun K hK => ?_) AllReadyL.nil)
  go_simp
  refine (Text_any HSh.out ticZ vp1 vs1 ve1 (beginZ ticZ) (.slice za (beginZ ticZ).cells.length zn) (.slice za0 (beginZ ticZ).h0.length zn0) (.slice za1 (beginZ ticZ).h1.length zn1) ⟨-1, 4, 0⟩ _ T2 (by unfold maxLen; decide) Q2).mono ?_
  rintro e w13 ⟨he3, hb3⟩
  rw [tic_text.1, tic_text.2] at he3
  subst he3
  have P3 := P2.stays hb3
  have L3 := below_trans L2 hb3 L2.size
  have Q3 := Q2.below hb3 (Nat.le_refl _)
  have T3 := T2.below hb3 (Nat.le_refl _)
  clear hb3
  refine hK.out _ _ ⟨P3.cell 0 rfl, P3.cell 1 rfl, P3.cell 2 rfl, P3.cell 3 rfl, P3.cell 4 rfl⟩ (fun hHeld => ?_)
  clear hK K
  try simp only [Act.put, List.setIfInBounds_toArray, List.set_cons_zero, List.set_cons_succ]
  refine takeW (i := 4) (oi := { dst := some 10, op := Op.move (Operand.tmp 14), type := 55, pos := "games.go:74", after := #[{ on := 3, ground := Ground.data }], guard := none }) (v := ?va2) rfl (by kernel_rfl) (by kernel_rfl) (by kernel_rfl) rfl (fun _ _ _ h => h) (Or.inl ⟨by rfl, ?ya2⟩) (fun _ => by assumption) ?ra2
  case ya2 => (intro w _; go_simp; first | done | (with_reducible rfl) | (rw [if_neg (by omega)]))
  try simp only [Act.put, List.setIfInBounds_toArray, List.set_cons_zero, List.set_cons_succ]
  refine takeW (i := 5) (oi := { dst := some 15, op := Op.extract (Operand.tmp 10) 0, type := 9, pos := "games.go:74", after := #[{ on := 4, ground := Ground.data }], guard := none }) (v := ?va3) rfl (by kernel_rfl) (by kernel_rfl) (by kernel_rfl) rfl (fun _ _ _ h => h) (Or.inl ⟨by rfl, ?ya3⟩) (fun _ => by assumption) ?ra3
  case ya3 => (intro w _; go_simp; first | done | (with_reducible rfl) | (rw [if_neg (by omega)]))
  try simp only [Act.put, List.setIfInBounds_toArray, List.set_cons_zero, List.set_cons_succ]
  refine takeW (i := 6) (oi := { dst := some 16, op := Op.extract (Operand.tmp 10) 1, type := 29, pos := "games.go:74", after := #[{ on := 4, ground := Ground.data }, { on := 7, ground := Ground.gcOnly Departure.lateStores }], guard := none }) (v := ?va4) rfl (by kernel_rfl) (by kernel_rfl) (by kernel_rfl) rfl (fun _ _ _ h => h) (Or.inl ⟨by rfl, ?ya4⟩) (fun _ => by assumption) ?ra4
  case ya4 => (intro w _; go_simp; first | done | (with_reducible rfl) | (rw [if_neg (by omega)]))
  try simp only [Act.put, List.setIfInBounds_toArray, List.set_cons_zero, List.set_cons_succ]
  refine takeW (i := 7) (oi := { dst := some 3, op := Op.assign (Operand.tmp 15), type := 9, pos := "games.go:74", after := #[{ on := 5, ground := Ground.data }, { on := 3, ground := Ground.chain }, { on := 0, ground := Ground.phase }, { on := 1, ground := Ground.phase }, { on := 2, ground := Ground.phase }, { on := 3, ground := Ground.phase }, { on := 4, ground := Ground.phase }, { on := 5, ground := Ground.phase }, { on := 6, ground := Ground.textOnly Departure.lateStores }], guard := none }) (v := ?va5) rfl (by kernel_rfl) (by kernel_rfl) (by kernel_rfl) rfl (fun _ _ _ h => h) (Or.inl ⟨by rfl, ?ya5⟩) (fun _ => by assumption) ?ra5
  case ya5 => (intro w _; go_simp; first | done | (with_reducible rfl) | (rw [if_neg (by omega)]))
  try simp only [Act.put, List.setIfInBounds_toArray, List.set_cons_zero, List.set_cons_succ]
  refine takeW (i := 8) (oi := { dst := some 4, op := Op.assign (Operand.tmp 16), type := 29, pos := "games.go:74", after := #[{ on := 6, ground := Ground.data }, { on := 7, ground := Ground.chain }, { on := 0, ground := Ground.phase }, { on := 1, ground := Ground.phase }, { on := 2, ground := Ground.phase }, { on := 3, ground := Ground.phase }, { on := 4, ground := Ground.phase }, { on := 5, ground := Ground.phase }, { on := 6, ground := Ground.phase }, { on := 7, ground := Ground.phase }], guard := none }) (v := ?va6) rfl (by kernel_rfl) (by kernel_rfl) (by kernel_rfl) rfl (fun _ _ _ h => h) (Or.inl ⟨by rfl, ?ya6⟩) (fun _ => by assumption) ?ra6
  case ya6 => (intro w _; go_simp; first | done | (with_reducible rfl) | (rw [if_neg (by omega)]))
  try simp only [Act.put, List.setIfInBounds_toArray, List.set_cons_zero, List.set_cons_succ]
  refine doneL (by kernel_rfl) ?_ _
  refine NoPanic.normal ?_
  have HL3 := Lib.hid L3
  clear hHeld Pz Lz Qz P0 L0 Q0 P2 L2 Q2 P3 L3 Q3 T0 T3 T2
  go_wp2_with fail
  go_ret
  exact ⟨rfl, HL3.out⟩

end Go.Proofs.Ytkfaibdflbdpgaa

/- AnJ, AnL, RecT, AnO, AnX, AnY. -/
import Derived.Test.YtnieifdogllbfaaGreatF21
import Derived.Test.YtnieifdogllbfaaGreatF06
import Derived.BigQuiet
import Derived.Deep.Cut
import Derived.Deep.QuietTactic
import Derived.Deep.AppendLies
import Derived.Test.YtnieifdogllbfaaGreatC05
import Derived.Test.YtnieifdogllbfaaGreatF18
import Derived.Test.YtnieifdogllbfaaGreatF01
import Derived.Deep.CutRange
namespace Go.Proofs.YtnieifdogllbfaaGreat
open Go.ChangeShapes Go.WideShapes Go.ChangeAt Go.RowKit
set_option linter.unusedVariables false
abbrev tNd : TypeId := 70
theorem infoNd : (Tryz.prog.info? 70).map (fun i => (i.zero, i.size, i.bytes)) = some (some (.agg #[.int .i64 0, .int .i64 0, .int .i64 0, .int .i64 0, .string ⟨#[]⟩]), 5, 48) := by kernel_rfl
def ndV (x : NodeZ) : List Value := [.int .i64 x.parent, .int .i64 x.m.src, .int .i64 x.m.dst, .int .i64 x.m.piece, .string x.comment]
def flatN (l : List NodeZ) : List Value := l.flatMap ndV
theorem flatN_snoc (l : List NodeZ) (x : NodeZ) : flatN l ++ ndV x = flatN (l ++ [x]) := by simp [flatN]
theorem flatN_at : ∀ (l : List NodeZ) (i : Nat) (h : i < l.length), ((flatN l).drop (i * 5)).take 5 = ndV l[i]
 | m :: t, 0, _ => rfl
 | m :: t, i + 1, h => by
  have e : flatN (m :: t) = ndV m ++ flatN t := rfl
  rw [e, show (i + 1) * 5 = i * 5 + 5 by omega, List.drop_append]
  rw [List.drop_of_length_le (by simp [ndV])]
  exact flatN_at t i (by simpa using h)
theorem rdN_of_own {w : World} {b : Nat} {v : Value} {xs : List NodeZ} (h : w.ownsRow b tNd 5 v xs.length (flatN xs)) (hs : ∀ x ∈ xs, x.comment.size ≤ maxLen) : RdL nodeEl w v xs := by
 refine RdL.of_own (el := nodeEl) h fun i hi => ?_
 show ((flatN xs).drop (i * 5)).take 5 = _ ∧ _
 exact ⟨flatN_at xs i hi, hs _ (List.getElem_mem hi)⟩
def cnt (ks : List BrZ) : Nat := (waysL [] ks).length
theorem cnt_pre (ks : List BrZ) (pre : List MoveZ) : (waysL pre ks).length = cnt ks := by
 have h1 := flatT_len ks pre (-1) []
 have h2 := flatT_len ks [] (-1) []
 unfold cnt; omega
theorem flat_cnt (ks : List BrZ) (p : Int) (out : List NodeZ) : (flatL ks p out).length = out.length + cnt ks := flatT_len ks [] p out
theorem cnt_app (a b : List BrZ) : cnt (a ++ b) = cnt a + cnt b := by unfold cnt; rw [waysL_app, List.length_append]
theorem cnt_one (m : MoveZ) (c : ByteArray) (kk : List BrZ) : cnt [.mk m c kk] = cnt kk + 1 := by
 unfold cnt
 rw [waysL, waysL, List.append_nil, waysB_eq, List.length_cons, cnt_pre]; rfl
theorem cnt_take {ks : List BrZ} {i : Nat} (h : i < ks.length) : cnt (ks.take (i + 1)) = cnt (ks.take i) + cnt [ks[i]] := by
 rw [List.take_add_one, List.getElem?_eq_getElem h, cnt_app]; rfl
theorem cnt_le (ks : List BrZ) (i : Nat) : cnt (ks.take i) ≤ cnt ks := by
 have h := cnt_app (ks.take i) (ks.drop i)
 rw [List.take_append_drop] at h
 omega
theorem cnt_len : ∀ ks : List BrZ, ks.length ≤ cnt ks
 | [] => Nat.zero_le _
 | .mk m c kk :: l => by
  have h := cnt_app [.mk m c kk] l
  rw [cnt_one] at h
  have := cnt_len l
  rw [List.singleton_append] at h
  rw [h, List.length_cons]; omega
theorem flatL_two : ∀ (a b : List BrZ) (p : Int) (out : List NodeZ), flatL (a ++ b) p out = flatL b p (flatL a p out)
 | [], b, p, out => by rw [List.nil_append]; conv => rhs; rw [show flatL [] p out = out by rw [flatL]]
 | x :: a, b, p, out => by rw [List.cons_append, flatL, flatL, flatL_two a b p _]
theorem flat_take {ks : List BrZ} {i : Nat} {m : MoveZ} {c : ByteArray} {kk : List BrZ} (h : ks[i]? = some (.mk m c kk)) (p : Int) (out : List NodeZ) :
  flatL (ks.take (i + 1)) p out = flatL kk ((flatL (ks.take i) p out).length : Int) (flatL (ks.take i) p out ++ [⟨p, m, c⟩]) := by
 rw [List.take_add_one, h, flatL_two]
 show flatL [.mk m c kk] p _ = _
 rw [flatL, flatL, flatB]
theorem brs_cells {q : Nat → Prop} {tb te : TypeId} {base : Nat} {w : World} {l : List BrZ} {vs : List Value} (h : BrsAt q tb te base w l vs) {i : Nat} {x : BrZ} (hi : l[i]? = some x) : ∃ v, vs[i]? = some v ∧ BrAt q tb te base w x v := by
 obtain ⟨h1, h2⟩ := List.getElem?_eq_some_iff.1 hi
 have hl := brs_len l vs h
 refine ⟨vs[i]'(by omega), List.getElem?_eq_getElem (by omega), ?_⟩
 have := brs_get l vs h i h1 (by omega)
 rw [h2] at this; exact this
def fvF (O F : Nat) : Value := .func (.func 70) #[] #[.pointer (some ⟨O, 0, none⟩), .pointer (some ⟨F, 0, none⟩)]
/-- between the rounds of flat: what is out so far. -/
structure FlS (w00 : World) (O F : Nat) (w : World) (ov : Value) (out : List NodeZ) : Prop where
 old : Below w00.heap.size w00 w
 hO : Box w O [ov] 28
 hF : Box w F [fvF O F] 109
 row : w.ownsRow (F + 1) tNd 5 ov out.length (flatN out)
set_option maxRecDepth 100000 in
set_option maxHeartbeats 8000000 in
theorem flat1_any {q : Nat → Prop} (w00 : World) (b O F : Nat) (h1 : w00.heap.size ≤ O) (h2 : O < F) : ∀ (f : Nat) (ks : List BrZ) (lv : Value) (vs : List Value) (p : Int) (out : List NodeZ) (ov : Value) (w : World), cnt ks < f → BrsAt q tBr tPt b w00 ks vs → w00.ownsRow b tPt 1 lv vs.length vs → out.length + cnt ks ≤ 1000 →
  FlS w00 O F w ov out → Calls Tryz.prog 70 #[lv, .int .i64 p, .pointer (some ⟨O, 0, none⟩), .pointer (some ⟨F, 0, none⟩)] w fun e w' => e = .returned (.tuple #[]) ∧ ∃ ov', FlS w00 O F w' ov' (flatL ks p out) := by
 intro f
 induction f with
 | zero => intros; omega
 | succ f ih =>
  intro ks lv vs p out ov w hf hks hlv hn hS
  have IH := Lib.hid ih
  have HKS := Lib.hid hks
  have HLV := Lib.hid hlv
  have hvl0 := brs_len ks vs hks
  have hvl1 : vs.length ≤ ks.length := by omega
  have hvl2 : ks.length ≤ vs.length := by omega
  clear hvl0
  obtain ⟨la, lc, rfl⟩ := own_form2 hlv
  have hkl : ks.length ≤ 1000 := by have := cnt_len ks; omega
  have HS0 : Hid (FlS w00 O F w ov (flatL (ks.take 0) p out)) := Lib.hid (by rw [List.take_zero, flatL]; exact hS)
  clear ih hks hlv hS
  go_enter Tryz.func70, Tryz.ntmps70
  go_wp2_with fail
  go_loopw [11] (fun v11 wr => ∃ (i : Nat) (ovi : Value), v11 = .int .i64 i ∧ i ≤ vs.length ∧ Hid (FlS w00 O F wr ovi (flatL (ks.take i) p out))) (fun v _ => vs.length - (intOf v).toNat)
  case atStart => exact ⟨0, ov, rfl, Nat.zero_le _, HS0⟩
  case round =>
   obtain ⟨i, ovi, rfl, hi, HS⟩ := hrel
   by_cases hlt : (i : Int) < (vs.length : Int)
   ·obtain ⟨x, hx⟩ : ∃ x, ks[i]? = some x := ⟨_, List.getElem?_eq_getElem (by omega)⟩
    obtain ⟨m, c, kk⟩ := x
    have HFT := Lib.hid (flat_take hx p out)
    have hcn : cnt (ks.take i) + (cnt kk + 1) ≤ cnt ks := by
     have h1 := cnt_take (ks := ks) (i := i) (by omega)
     have h2 := cnt_le ks (i + 1)
     have h3 : ks[i] = .mk m c kk := (List.getElem?_eq_some_iff.1 hx).2
     rw [h3, cnt_one] at h1
     omega
    have hol1 : (flatL (ks.take i) p out).length ≤ out.length + cnt (ks.take i) := Nat.le_of_eq (flat_cnt (ks.take i) p out)
    have hol : (flatL (ks.take i) p out).length ≤ 999 := by omega
    have HOT := Lib.hid (flat_cnt (ks.take i) p out)
    generalize flatL (ks.take i) p out = ot at *
    obtain ⟨pv, hpv, hbr⟩ := brs_cells HKS.out hx
    rw [BrAt] at hbr
    obtain ⟨g, kv', vs', rfl, hbg, hbx, hcs, hrow, -, hkk⟩ := hbr
    obtain ⟨L, lc', hL⟩ := own_some HLV.out (by omega)
    obtain ⟨rfl, rfl⟩ : la = some ⟨L, 0, none⟩ ∧ lc = lc' := by simpa using hL
    clear hL
    have hLl := (HLV.out.lt L rfl).2
    have s1 := HS.out.old.size
    have l0 : wr.cell? ⟨L, i, none⟩ = some (.pointer (some ⟨g, 0, none⟩)) := by
     rw [HS.out.old.cell (p := ⟨L, i, none⟩) hLl, HLV.out.cellAt i (by omega)]; exact hpv
    have hLr : L < wr.heap.size := by omega
    obtain ⟨oa, oc, rfl⟩ := own_form2 HS.out.row
    have o0 := HS.out.hO.cell 0 rfl
    have of0 := HS.out.hO.frozen 0
    have hOl := HS.out.hO.lt
    have hbr := HS.out.old
    have hgr : Box wr g _ tBr := hbx.below hbr hbx.lt
    have g0 := hgr.cell 0 rfl
    have g1 := hgr.cell 1 rfl
    have g2 := hgr.cell 2 rfl
    have g3 := hgr.cell 3 rfl
    have hgl := hgr.lt
    obtain ⟨i0, hi0, hz0, hz1, hz2⟩ := info_parts infoNd
    have S1 : Hid (∀ u ∈ ([.int .i64 p, .int .i64 m.src, .int .i64 m.dst, .int .i64 m.piece, .string c] : List Value), u.oneCell' = true) := Lib.hid (fun u hu => by simp at hu; rcases hu with rfl | rfl | rfl | rfl | rfl <;> rfl)
    have hgw : g < w00.heap.size := hbx.lt
    go_upto_region 4 with (fail)
    have BOz : Box wr.drew O [.slice oa ot.length oc] 28 := HS.out.hO
    have BFz : Box wr.drew F [fvF O F] 109 := HS.out.hF
    have BGz : Box wr.drew g [.int .i64 m.src, .int .i64 m.dst, .int .i64 m.piece, .string c, kv'] tBr := hgr
    have Lz : Below w00.heap.size w00 wr.drew := HS.out.old.drew
    have Rz : wr.drew.ownsRow (F + 1) 70 5 (.slice oa ot.length oc) ot.length (flatN ot) := HS.out.row
    clear o0 of0 hOl hbr hgr g0 g1 g2 g3 hgl l0 hLr
    refine wp_region_noPanic ?_
    refine beginL (S := (fun w' => w'.cell? ⟨O, 0, none⟩ = some (.slice oa ot.length oc) ∧ w'.cell? ⟨g, 0, none⟩ = some (.int .i64 m.src) ∧ w'.cell? ⟨g, 1, none⟩ = some (.int .i64 m.dst) ∧ w'.cell? ⟨g, 2, none⟩ = some (.int .i64 m.piece) ∧ w'.cell? ⟨g, 3, none⟩ = some (.string c))) (L := [13]) (by kernel_rfl) (by and_intros <;> first | exact BOz.cell _ rfl | exact BGz.cell _ rfl) (fun hHeld => ?_)
    refine tkL 0 ?_
    refine tkW 1 ?_
    refine tkW 2 ?_
    refine tkW 6 ?_
    refine tkW 3 ?_
    refine tkW 7 ?_
    refine tkW 4 ?_
    refine tkW 8 ?_
    refine tkL 5 ?_
    refine tkL 9 ?_
    refine tkW 10 ?_
    refine cnL 11 fun K hK => ?_
    go_simp
    refine K_world ?_
    intro w11 e11
    have BO11 : Box w11 O [.slice oa ot.length oc] 28 := by rw [e11]; exact BOz.alloc _
    have BG11 : Box w11 g [.int .i64 m.src, .int .i64 m.dst, .int .i64 m.piece, .string c, kv'] tBr := by rw [e11]; exact BGz.alloc _
    have BF11 : Box w11 F [fvF O F] 109 := by rw [e11]; exact BFz.alloc _
    have L11 : Below w00.heap.size w00 w11 := by rw [e11]; exact Lz.alloc Lz.size _
    have R11 : w11.ownsRow (F + 1) 70 5 (.slice oa ot.length oc) ot.length (flatN ot) := by rw [e11]; exact Rz.alloc _
    have N11 : ∀ j u, ([.int .i64 p, .int .i64 m.src, .int .i64 m.dst, .int .i64 m.piece, .string c] : List Value)[j]? = some u → w11.cell? ((⟨wr.drew.heap.size, 0, none⟩ : Addr).add j) = some u := by rw [e11]; exact fun j u hj => new_cells wr.drew [.int .i64 p, .int .i64 m.src, .int .i64 m.dst, .int .i64 m.piece, .string c] 70 j u hj
    have Z11 : F + 1 ≤ w11.heap.size := by have := BF11.lt; omega
    clear e11
    refine hK.out _ _ (by and_intros <;> first | exact BO11.cell _ rfl | exact BG11.cell _ rfl) (fun hHeld => ?_)
    clear hK K
    refine cnL 12 fun K hK => ?_
    rw [if_pos (by rfl)]
    refine wp_append_lies _ _ _ 28 rfl (F + 1) 70 i0 (.agg #[.int .i64 0, .int .i64 0, .int .i64 0, .int .i64 0, .string ⟨#[]⟩]) 5 48 Tryz.underlying28 hi0 hz0 hz1 hz2 rfl (by decide) (.slice oa ot.length oc) ot.length (flatN ot) rfl R11 ⟨wr.drew.heap.size, 0, none⟩ 1 1 [.int .i64 p, .int .i64 m.src, .int .i64 m.dst, .int .i64 m.piece, .string c] rfl rfl N11 S1.out (by decide) (by unfold maxLen; omega) (by omega) Z11 w11.heap.size rfl ?_
    intro g12 c12 w12 ho12 hg12 hq12 hl12
    have fr : ∀ k, k < F + 1 → some k ≠ (Value.slice oa ot.length oc).ownBlock := fun k hk e => by have := (R11.lt k e.symm).1; omega
    have BO12 := BO11.grown hg12 (fr O (by omega))
    have BG12 := BG11.grown hg12 (fr g (by omega))
    have BF12 := BF11.grown hg12 (fr F (by omega))
    have L12 := Below.grown L11 hg12 L11.size (fun q hq => by have := (R11.lt q hq).1; omega)
    clear hg12 hq12 hl12 fr
    refine hK.out _ _ (by and_intros <;> first | exact BO12.cell _ rfl | exact BG12.cell _ rfl) (fun hHeld => ?_)
    clear hK K
    refine ltL 13 fun K hK => ?_
    have d1 := BO12.cell 0 rfl
    have d1f := BO12.frozen 0
    go_simp
    refine K_world ?_
    intro w13 e13
    have BO13 : Box w13 O [.slice (some ⟨g12, 0, none⟩) (ot.length + 1) c12] 28 := by rw [e13]; exact BO12.set 0 _
    have BF13 : Box w13 F [fvF O F] 109 := by rw [e13]; exact BF12.far _ _ (by show F ≠ O; omega)
    have BG13 : Box w13 g [.int .i64 m.src, .int .i64 m.dst, .int .i64 m.piece, .string c, kv'] tBr := by rw [e13]; exact BG12.far _ _ (by show g ≠ O; omega)
    have L13 : Below w00.heap.size w00 w13 := by rw [e13]; exact L12.setCell h1 _
    have R13 : w13.ownsRow (F + 1) 70 5 (.slice (some ⟨g12, 0, none⟩) (ot.length + 1) c12) (ot.length + 1) (flatN ot ++ [.int .i64 p, .int .i64 m.src, .int .i64 m.dst, .int .i64 m.piece, .string c]) := by rw [e13]; exact ownsRow_setCell_below ho12 (by show O < F + 1; omega) _
    clear e13 d1 d1f
    refine hK.out _ _ ?_
    clear hK K
    refine dnN ?_
    have HS5 : Hid (FlS w00 O F w13 (.slice (some ⟨g12, 0, none⟩) (ot.length + 1) c12) (ot ++ [⟨p, m, c⟩])) := Lib.hid ⟨L13, BO13, BF13, by rw [List.length_append, ← flatN_snoc]; exact R13⟩
    have HG5 := Lib.hid BG13
    clear BOz BGz BFz Lz Rz BO11 BG11 BF11 L11 R11 N11 Z11 BO12 BG12 BF12 L12 ho12 BO13 BF13 BG13 L13 R13 hHeld S1 HS
    generalize (Value.slice (some ⟨g12, 0, none⟩) (ot.length + 1) c12) = ov13 at *
    go_upto_region 5 with (fail)
    have HSd : FlS w00 O F w13.drew ov13 (ot ++ [⟨p, m, c⟩]) := ⟨HS5.out.old.drew, HS5.out.hO, HS5.out.hF, HS5.out.row⟩
    have HFd : Box w13.drew F [fvF O F] 109 := HS5.out.hF
    have HGd := HG5.out.drew
    refine wp_region_noPanic ?_
    refine beginL (S := (fun w' => w'.cell? ⟨F, 0, none⟩ = some (fvF O F) ∧ w'.cell? ⟨g, 4, none⟩ = some kv')) (L := []) (by kernel_rfl) ⟨HFd.cell 0 rfl, HGd.cell 4 rfl⟩ (fun hHeld => ?_)
    refine tkL 0 ?_
    refine tkW 1 ?_
    refine tkW 5 ?_
    refine tkW 2 ?_
    refine tkW 3 ?_
    refine tkL 4 ?_
    refine cnL 6 fun K hK => ?_
    go_simp
    refine (IH.out kk kv' vs' (ot.length : Int) (ot ++ [⟨p, m, c⟩]) _ _ (by omega) hkk hrow (by rw [List.length_append]; simp only [List.length_cons, List.length_nil]; omega) HSd).mono ?_
    rintro e w6 ⟨rfl, ov6, hs6⟩
    have hF6 := hs6.hF
    have hG6 : Box w6 g [.int .i64 m.src, .int .i64 m.dst, .int .i64 m.piece, .string c, kv'] tBr := hbx.below hs6.old hgw
    refine hK.out _ _ ⟨hF6.cell 0 rfl, hG6.cell 4 rfl⟩ (fun hHeld => ?_)
    clear hK K
    refine dnN ?_
    have HS6 := Lib.hid hs6
    clear hs6 hF6 hG6 hHeld HSd HFd HGd
    go_wp2_with fail
    go_roundw
    case rel => exact ⟨i + 1, ov6, by go_num, by omega, Lib.hid (by rw [HFT.out]; exact HS6.out)⟩
    case measure => simp [intOf]; omega
   ·obtain rfl : i = vs.length := by omega
    have HS9 : Hid (FlS w00 O F wr ovi (flatL ks p out)) := Lib.hid (by have h := HS.out; rw [List.take_of_length_le (by omega)] at h; exact h)
    go_wp2_with fail
    refine bodyPost_end (v := .tuple #[]) (by simp [results, Tryz.results70, go_sem]) rfl ?_
    exact ⟨rfl, _, HS9.out⟩
end Go.Proofs.YtnieifdogllbfaaGreat
namespace Go.Proofs.YtnieifdogllbfaaGreat
open Go.ChangeShapes Go.WideShapes Go.ChangeAt Go.RowKit
set_option linter.unusedVariables false
set_option maxRecDepth 100000 in
set_option maxHeartbeats 8000000 in
theorem flat_any {q : Nat → Prop} (ks : List BrZ) (lv : Value) (vs : List Value) (b : Nat) (w : World) (hks : BrsAt q tBr tPt b w ks vs) (hlv : w.ownsRow b tPt 1 lv vs.length vs) (hn : cnt ks ≤ 1000) :
  Calls Tryz.prog 53 #[lv] w fun e w' => ∃ v', e = .returned v' ∧ w'.ownsRow w.heap.size tNd 5 v' (flatL ks (-1) []).length (flatN (flatL ks (-1) [])) ∧ Below w.heap.size w w' := by
 have HKS := Lib.hid hks
 have HLV := Lib.hid hlv
 clear hks hlv
 go_enter Tryz.func53, Tryz.ntmps53
 go_upto_region 3 with (fail)
 obtain ⟨O, hO⟩ : ∃ O, O = w.heap.size := ⟨_, rfl⟩
 obtain ⟨F, hF⟩ : ∃ F, F = w.heap.size + 1 := ⟨_, rfl⟩
 have HOb : Hid (Box ((w.alloc (.cells #[.slice none 0 0] 28)).alloc (.cells #[.nilFunc] 109)) O [.slice none 0 0] 28) := Lib.hid ((Box.new' w O _ _ hO.symm).alloc _)
 have HFb : Hid (Box ((w.alloc (.cells #[.slice none 0 0] 28)).alloc (.cells #[.nilFunc] 109)) F [.nilFunc] 109) := Lib.hid (Box.new' _ F _ _ (by rw [World.size_alloc, hF]))
 have HB : Hid (Below w.heap.size w ((w.alloc (.cells #[.slice none 0 0] 28)).alloc (.cells #[.nilFunc] 109))) := Lib.hid (((Below.refl w.heap.size w).alloc (Nat.le_refl _) _).alloc (by rw [World.size_alloc]; omega) _)
 rw [← hO, show O + 1 = F by omega]
 have hO1 : w.heap.size ≤ O := by omega
 have hF1 : O < F := by omega
 clear hO hF
 generalize ((w.alloc (.cells #[.slice none 0 0] 28)).alloc (.cells #[.nilFunc] 109)) = w0 at *
 have f0 := HFb.out.cell 0 rfl
 have ff0 := HFb.out.frozen 0
 have hFl := HFb.out.lt
 have hst := fun (fn : Fn) (f c : Array Value) => run_store Tryz.prog w0 ⟨F, 0, none⟩ (.func fn f c) .plain rfl
 go_upto_region 4 with (fail)
 have HF4 : Hid (Box (w0.setCell ⟨F, 0, none⟩ (fvF O F)) F [fvF O F] 109) := Lib.hid (HFb.out.set 0 _)
 have HO4 : Hid (Box (w0.setCell ⟨F, 0, none⟩ (fvF O F)) O [.slice none 0 0] 28) := Lib.hid (HOb.out.far _ _ (by show O ≠ F; omega))
 have HB4 : Hid (Below w.heap.size w (w0.setCell ⟨F, 0, none⟩ (fvF O F))) := Lib.hid (HB.out.setCell (by show w.heap.size ≤ F; omega) _)
 unfold fvF at HF4 HO4 HB4
 generalize (w0.setCell ⟨F, 0, none⟩ (.func (.func 70) #[] #[.pointer (some ⟨O, 0, none⟩), .pointer (some ⟨F, 0, none⟩)])) = w1 at *
 clear HOb HFb HB f0 ff0 hst hFl
 have f1 := HF4.out.cell 0 rfl
 have HFl := Lib.hid (flat1_any w b O F hO1 hF1 (cnt ks + 1) ks lv vs (-1) [] (.slice none 0 0) w1 (by omega) HKS.out HLV.out (by simpa using hn) ⟨HB4.out, HO4.out, HF4.out, World.ownsRow_nil _ _ _ _⟩)
 go_wp2_with fail
 refine HFl.out.mono ?_
 rintro e w2 ⟨rfl, ov, hs⟩
 have HS := Lib.hid hs
 have o2 := hs.hO.cell 0 rfl
 clear hs HFl f1
 go_wp2_with fail
 go_ret
 exact ⟨_, rfl, own_base HS.out.row (by omega), HS.out.old⟩
end Go.Proofs.YtnieifdogllbfaaGreat
namespace Go.Proofs.YtnieifdogllbfaaGreat
open Go.ChangeShapes Go.WideShapes Go.ChangeAt Go.RowKit
set_option linter.unusedVariables false
theorem IndexFunc_tg (v : Value) (xs : List TagZ) (p : TagZ → Bool) (f : FuncId) (caps : Array Value) (w : World) (h : RdL tagEl w v xs) (hf : ∀ (args : Array Value) (w : World), (callFunc f args).run Tryz.prog w = .ok (.enter f args) w)
  (hc : ∀ (W : World) (x : TagZ) (cs : List Value), x ∈ xs → tagEl.E W x cs → Below w.heap.size w W → Calls Tryz.prog f (#[.agg cs.toArray] ++ caps) W fun e w' => e = .returned (.bool (p x)) ∧ Below W.heap.size W w') :
  Calls Tryz.prog 57 #[v, .func (.func f) #[] caps] w fun e w' => e = .returned (.int .i64 (idxL p xs 0)) ∧ Below w.heap.size w w' := by
 obtain ⟨a, c, rfl, h1, h2⟩ := h.form
 unfold maxLen at h2
 have HR := Lib.hid h
 have HC := Lib.hid hc
 clear h hc
 go_enter Tryz.func57, Tryz.ntmps57
 go_wp2_with fail
 go_loopw [8, 5] (fun i v5 wr => ∃ (k : Nat) (o5 : Value), o5 = v5 ∧ k ≤ xs.length ∧ i = .int .i64 k ∧ Hid (idxL p xs 0 = idxL p (xs.drop k) k) ∧ Below w.heap.size w wr) (fun i _ _ => xs.length - (intOf i).toNat)
 case atStart => exact ⟨0, _, rfl, Nat.zero_le _, rfl, Lib.hid rfl, Below.refl _ _⟩
 case round =>
  obtain ⟨k, o5, rfl, hk, rfl, HK, hbl⟩ := hrel
  by_cases hlt : k < xs.length
  ·obtain ⟨g, o, rfl, hg, hcc⟩ := (HR.out.below hbl (Nat.le_refl _)).some (by omega)
   obtain ⟨cs, hE, hcell⟩ := hcc k hlt
   have hcl := tagEl.len hE
   simp only [tagEl] at hcl
   obtain ⟨c0, c1, rfl⟩ : ∃ c0 c1, cs = [c0, c1] := by
    match cs, hcl with
    | [c0, c1], _ => exact ⟨_, _, rfl⟩
   have q0 := hcell 0 (by decide)
   have q1 := hcell 1 (by decide)
   simp only [tagEl, List.getElem?_cons_zero, List.getElem?_cons_succ, Nat.add_zero] at q0 q1
   have HS := Lib.hid (idxL_step p xs k hlt)
   have HCk := Lib.hid (HC.out wr xs[k] [c0, c1] (List.getElem_mem hlt) hE hbl)
   have HB := Lib.hid hbl
   clear hcell hcc hE hcl hbl
   generalize xs[k] = x at *
   go_wp2_with fail
   refine HCk.out.mono ?_
   rintro e w1 ⟨rfl, hb1⟩
   have HB1 := Lib.hid (below_trans HB.out hb1 HB.out.size)
   clear hb1
   cases hpx : p x
   ·go_wp2_with fail
    go_roundw
    case rel => exact ⟨k + 1, _, rfl, by omega, by go_num, Lib.hid (by rw [HK.out, HS.out, if_neg (by simp [hpx])]), HB1.out⟩
    case measure => simp [intOf]; omega
   ·go_wp2_with fail
    go_ret
    exact ⟨by rw [HK.out, HS.out, if_pos hpx]; rfl, HB1.out⟩
  ·obtain rfl : k = xs.length := by omega
   go_wp2_with fail
   go_ret
   exact ⟨by rw [HK.out]; simp [idxL], hbl⟩
theorem ContainsFunc_tg (v : Value) (xs : List TagZ) (p : TagZ → Bool) (f : FuncId) (caps : Array Value) (w : World) (h : RdL tagEl w v xs) (hf : ∀ (args : Array Value) (w : World), (callFunc f args).run Tryz.prog w = .ok (.enter f args) w)
  (hc : ∀ (W : World) (x : TagZ) (cs : List Value), x ∈ xs → tagEl.E W x cs → Below w.heap.size w W → Calls Tryz.prog f (#[.agg cs.toArray] ++ caps) W fun e w' => e = .returned (.bool (p x)) ∧ Below W.heap.size W w') :
  Calls Tryz.prog 29 #[v, .func (.func f) #[] caps] w fun e w' => e = .returned (.bool (xs.any p)) ∧ Below w.heap.size w w' := by
 have HI := Lib.hid (IndexFunc_tg v xs p f caps w h hf hc)
 have HA := Lib.hid (idxL_any p xs 0 (by omega))
 clear h hc hf
 go_enter Tryz.func29, Tryz.ntmps29
 go_wp2_with fail
 refine HI.out.mono ?_
 rintro e w' ⟨rfl, hb⟩
 go_wp2_with fail
 go_ret
 exact ⟨by rw [← HA.out]; rfl, hb⟩
theorem IndexFunc_nd (v : Value) (xs : List NodeZ) (p : NodeZ → Bool) (f : FuncId) (caps : Array Value) (w : World) (h : RdL nodeEl w v xs) (hf : ∀ (args : Array Value) (w : World), (callFunc f args).run Tryz.prog w = .ok (.enter f args) w)
  (hc : ∀ (W : World) (x : NodeZ) (cs : List Value), x ∈ xs → nodeEl.E W x cs → Below w.heap.size w W → Calls Tryz.prog f (#[.agg cs.toArray] ++ caps) W fun e w' => e = .returned (.bool (p x)) ∧ Below W.heap.size W w') :
  Calls Tryz.prog 65 #[v, .func (.func f) #[] caps] w fun e w' => e = .returned (.int .i64 (idxL p xs 0)) ∧ Below w.heap.size w w' := by
 obtain ⟨a, c, rfl, h1, h2⟩ := h.form
 unfold maxLen at h2
 have HR := Lib.hid h
 have HC := Lib.hid hc
 clear h hc
 go_enter Tryz.func65, Tryz.ntmps65
 go_wp2_with fail
 go_loopw [8, 5] (fun i v5 wr => ∃ (k : Nat) (o5 : Value), o5 = v5 ∧ k ≤ xs.length ∧ i = .int .i64 k ∧ Hid (idxL p xs 0 = idxL p (xs.drop k) k) ∧ Below w.heap.size w wr) (fun i _ _ => xs.length - (intOf i).toNat)
 case atStart => exact ⟨0, _, rfl, Nat.zero_le _, rfl, Lib.hid rfl, Below.refl _ _⟩
 case round =>
  obtain ⟨k, o5, rfl, hk, rfl, HK, hbl⟩ := hrel
  by_cases hlt : k < xs.length
  ·obtain ⟨g, o, rfl, hg, hcc⟩ := (HR.out.below hbl (Nat.le_refl _)).some (by omega)
   obtain ⟨cs, hE, hcell⟩ := hcc k hlt
   have hcl := nodeEl.len hE
   simp only [nodeEl] at hcl
   obtain ⟨c0, c1, c2, c3, c4, rfl⟩ : ∃ c0 c1 c2 c3 c4, cs = [c0, c1, c2, c3, c4] := by
    match cs, hcl with
    | [c0, c1, c2, c3, c4], _ => exact ⟨_, _, _, _, _, rfl⟩
   have q0 := hcell 0 (by decide)
   have q1 := hcell 1 (by decide)
   have q2 := hcell 2 (by decide)
   have q3 := hcell 3 (by decide)
   have q4 := hcell 4 (by decide)
   simp only [nodeEl, List.getElem?_cons_zero, List.getElem?_cons_succ, Nat.add_zero] at q0 q1 q2 q3 q4
   have HS := Lib.hid (idxL_step p xs k hlt)
   have HCk := Lib.hid (HC.out wr xs[k] [c0, c1, c2, c3, c4] (List.getElem_mem hlt) hE hbl)
   have HB := Lib.hid hbl
   clear hcell hcc hE hcl hbl
   generalize xs[k] = x at *
   go_wp2_with fail
   refine HCk.out.mono ?_
   rintro e w1 ⟨rfl, hb1⟩
   have HB1 := Lib.hid (below_trans HB.out hb1 HB.out.size)
   clear hb1
   cases hpx : p x
   ·go_wp2_with fail
    go_roundw
    case rel => exact ⟨k + 1, _, rfl, by omega, by go_num, Lib.hid (by rw [HK.out, HS.out, if_neg (by simp [hpx])]), HB1.out⟩
    case measure => simp [intOf]; omega
   ·go_wp2_with fail
    go_ret
    exact ⟨by rw [HK.out, HS.out, if_pos hpx]; rfl, HB1.out⟩
  ·obtain rfl : k = xs.length := by omega
   go_wp2_with fail
   go_ret
   exact ⟨by rw [HK.out]; simp [idxL], hbl⟩
theorem ContainsFunc_nd (v : Value) (xs : List NodeZ) (p : NodeZ → Bool) (f : FuncId) (caps : Array Value) (w : World) (h : RdL nodeEl w v xs) (hf : ∀ (args : Array Value) (w : World), (callFunc f args).run Tryz.prog w = .ok (.enter f args) w)
  (hc : ∀ (W : World) (x : NodeZ) (cs : List Value), x ∈ xs → nodeEl.E W x cs → Below w.heap.size w W → Calls Tryz.prog f (#[.agg cs.toArray] ++ caps) W fun e w' => e = .returned (.bool (p x)) ∧ Below W.heap.size W w') :
  Calls Tryz.prog 49 #[v, .func (.func f) #[] caps] w fun e w' => e = .returned (.bool (xs.any p)) ∧ Below w.heap.size w w' := by
 have HI := Lib.hid (IndexFunc_nd v xs p f caps w h hf hc)
 have HA := Lib.hid (idxL_any p xs 0 (by omega))
 clear h hc hf
 go_enter Tryz.func49, Tryz.ntmps49
 go_wp2_with fail
 refine HI.out.mono ?_
 rintro e w' ⟨rfl, hb⟩
 go_wp2_with fail
 go_ret
 exact ⟨by rw [← HA.out]; rfl, hb⟩
theorem tagc_any (x : TagZ) (cs : List Value) (k : ByteArray) (B : Nat) (w : World) (hE : tagEl.E w x cs) (h1 : w.cell? ⟨B, 0, none⟩ = some (.string k)) (hB : B < w.heap.size) :
  Calls Tryz.prog 47 (#[.agg cs.toArray] ++ #[.pointer (some ⟨B, 0, none⟩)]) w fun e w' => e = .returned (.bool (x.key.toList == k.toList)) ∧ Below w.heap.size w w' := by
 obtain ⟨rfl, -⟩ := hE
 obtain ⟨xk, xv⟩ := x
 show Calls Tryz.prog 47 #[.agg #[.string xk, .string xv], .pointer (some ⟨B, 0, none⟩)] w _
 go_enter Tryz.func47, Tryz.ntmps47
 go_wp2
 go_ret
 exact ⟨rfl, (Below.refl _ _).alloc (by go_size) _⟩
theorem callTagc (args : Array Value) (w : World) : (callFunc 47 args).run Tryz.prog w = .ok (.enter 47 args) w := by kernel_rfl
theorem nodec_any (x : NodeZ) (cs : List Value) (p : Int) (B : Nat) (w : World) (hE : nodeEl.E w x cs) (h1 : w.cell? ⟨B, 0, none⟩ = some (.int .i64 p)) (hB : B < w.heap.size) :
  Calls Tryz.prog 50 (#[.agg cs.toArray] ++ #[.pointer (some ⟨B, 0, none⟩)]) w fun e w' => e = .returned (.bool (x.parent == p)) ∧ Below w.heap.size w w' := by
 obtain ⟨rfl, -⟩ := hE
 obtain ⟨xp, ⟨m1, m2, m3⟩, xc⟩ := x
 show Calls Tryz.prog 50 #[.agg #[.int .i64 xp, .int .i64 m1, .int .i64 m2, .int .i64 m3, .string xc], .pointer (some ⟨B, 0, none⟩)] w _
 go_enter Tryz.func50, Tryz.ntmps50
 go_wp2
 go_ret
 exact ⟨rfl, (Below.refl _ _).alloc (by go_size) _⟩
theorem callNodec (args : Array Value) (w : World) : (callFunc 50 args).run Tryz.prog w = .ok (.enter 50 args) w := by kernel_rfl
end Go.Proofs.YtnieifdogllbfaaGreat
namespace Go.Proofs.YtnieifdogllbfaaGreat
open Go.ChangeShapes Go.WideShapes Go.ChangeAt Go.RowKit
set_option linter.unusedVariables false
end Go.Proofs.YtnieifdogllbfaaGreat
namespace Go.Proofs.YtnieifdogllbfaaGreat
open Go.ChangeShapes Go.WideShapes Go.ChangeAt Go.RowKit
set_option linter.unusedVariables false
/-- blocks that are free to be read, but for the row. -/
def qn (q : Nat → Prop) (N : Nat) (ov : Value) (g : Nat) : Prop := (g < N → q g) ∧ ov.ownBlock ≠ some g
structure MgS (q : Nat → Prop) (b : Nat) (w0 w : World) (ov : Value) (vo : List Value) (om : List BrZ) : Prop where
 old : Below w0.heap.size w0 w
 row : w.ownsRow w0.heap.size tPt 1 ov vo.length vo
 brs : BrsAt (qn q w0.heap.size ov) tBr tPt b w om vo
theorem MgS.stays {q : Nat → Prop} {b : Nat} {w0 w w' : World} {ov : Value} {vo : List Value} {om : List BrZ} (h : MgS q b w0 w ov vo om) (hb : Below w.heap.size w w') : MgS q b w0 w' ov vo om :=
 ⟨h.old.trans (hb.mono h.old.size), own_of_block h.row (fun g hg => hb.block g (h.row.lt g hg).2), brs_move (fun g _ h2 h3 => ⟨hb.block g h2, h3⟩) _ _ h.brs⟩
theorem MgS.start {q : Nat → Prop} {b : Nat} {w0 w : World} {ov : Value} {vo : List Value} {om : List BrZ} (h : BrsAt q tBr tPt b w0 om vo) (hb : Below w0.heap.size w0 w) (ho : w.ownsRow w0.heap.size tPt 1 ov vo.length vo) : MgS q b w0 w ov vo om :=
 ⟨hb, ho, brs_move (fun g _ h2 h3 => ⟨hb.block g h2, fun _ => h3, fun e => by have := (ho.lt g e).1; omega⟩) _ _ h⟩
theorem brs_snoc {q : Nat → Prop} {tb te : TypeId} {b : Nat} {w : World} {l : List BrZ} {vs : List Value} {x : BrZ} {u : Value} (h : BrsAt q tb te b w l vs) (hx : BrAt q tb te b w x u) : BrsAt q tb te b w (l ++ [x]) (vs ++ [u]) :=
 brs_app l [x] vs [u] h (by rw [BrsAt]; exact ⟨u, [], rfl, hx, by rw [BrsAt]⟩)
theorem brs_sole {q : Nat → Prop} {tb te : TypeId} {b : Nat} {w : World} {x : BrZ} {u : Value} : BrsAt q tb te b w [x] [u] ↔ BrAt q tb te b w x u := by
 constructor
 ·intro h
  rw [BrsAt] at h
  obtain ⟨v, vt, e, h1, h2⟩ := h
  simp only [List.cons.injEq] at e
  rw [e.1]; exact h1
 ·intro h; rw [BrsAt]; exact ⟨u, [], rfl, h, by rw [BrsAt]⟩
theorem br_move {q q' : Nat → Prop} {tb te : TypeId} {base : Nat} {w w' : World} (hm : ∀ g, base ≤ g → g < w.heap.size → q g → w'.heap[g]? = w.heap[g]? ∧ q' g) {x : BrZ} {u : Value} (h : BrAt q tb te base w x u) : BrAt q' tb te base w' x u :=
 brs_sole.1 (brs_move hm _ _ (brs_sole.2 h))
theorem brs_set {q : Nat → Prop} {tb te : TypeId} {b : Nat} {w : World} {x : BrZ} {u : Value} (hx : BrAt q tb te b w x u) : ∀ (l : List BrZ) (vs : List Value) (j : Nat), BrsAt q tb te b w l vs → BrsAt q tb te b w (l.set j x) (vs.set j u)
 | [], vs, j, h => by rw [BrsAt] at h; subst h; rw [List.set_nil, List.set_nil, BrsAt]
 | y :: l, vs, j, h => by
  rw [BrsAt] at h
  obtain ⟨v, vt, rfl, h1, h2⟩ := h
  cases j with
  | zero => rw [List.set_cons_zero, List.set_cons_zero, BrsAt]; exact ⟨u, vt, rfl, hx, h2⟩
  | succ j => rw [List.set_cons_succ, List.set_cons_succ, BrsAt]; exact ⟨v, _, rfl, h1, brs_set hx l vt j h2⟩
/-- a branch more. -/
theorem MgS.app {q : Nat → Prop} {b : Nat} {w0 w w' : World} {ov : Value} {vo : List Value} {om : List BrZ} {y : BrZ} {u : Value} {g cap : Nat} {o : Obj} (h : MgS q b w0 w ov vo om) (hy : BrAt q tBr tPt b w0 y u)
  (hg : (w.alloc o).grownBy w' ov.ownBlock) (hat : ov.ownBlock = some g ∨ w.heap.size ≤ g) (hown : w'.ownsRow w0.heap.size tPt 1 (.slice (some ⟨g, 0, none⟩) (vo.length + 1) cap) (vo.length + 1) (vo ++ [u])) :
  MgS q b w0 w' (.slice (some ⟨g, 0, none⟩) (vo.length + 1) cap) (vo ++ [u]) (om ++ [y]) := by
 have hs := hg.size
 have hsa : (w.alloc o).heap.size = w.heap.size + 1 := by simp
 have hk : ∀ k, k < w.heap.size → some k ≠ ov.ownBlock → w'.heap[k]? = w.heap[k]? := fun k h1 h2 => (hg.block k (by omega) h2).trans (Below.heap_alloc w o k h1)
 have s0 := h.old.size
 have hold : Below w0.heap.size w0 w' := ⟨hg.os.trans h.old.os, hg.tape.trans h.old.tape, hg.output.trans h.old.output, by omega, fun k h1 => by
  rw [hk k (by omega) (fun e => by have := (h.row.lt k e.symm).1; omega)]; exact h.old.block k h1⟩
 have hgl := (hown.lt g rfl).1
 have hne : ∀ k, k < w.heap.size → ov.ownBlock ≠ some k → (Value.slice (some ⟨g, 0, none⟩) (vo.length + 1) cap).ownBlock ≠ some k := fun k h1 h2 e => by
  simp only [Value.ownBlock, Option.some.injEq] at e
  rcases hat with h3 | h3
  ·exact h2 (by rw [h3, e])
  ·omega
 refine ⟨hold, by rw [List.length_append]; exact hown, brs_snoc (brs_move (fun k h1 h2 h3 => ⟨hk k h2 (fun e => h3.2 e.symm), h3.1, hne k h2 h3.2⟩) _ _ h.brs) (br_move (fun k h1 h2 h3 => ⟨hold.block k h2, fun _ => h3, fun e => by simp only [Value.ownBlock, Option.some.injEq] at e; omega⟩) hy)⟩
/-- a branch in the place of another one. -/
theorem MgS.put {q : Nat → Prop} {b : Nat} {w0 w : World} {vo : List Value} {om : List BrZ} {x : BrZ} {u : Value} {g cap : Nat} (h : MgS q b w0 w (.slice (some ⟨g, 0, none⟩) vo.length cap) vo om) (j : Nat) (hx : BrAt (qn q w0.heap.size (.slice (some ⟨g, 0, none⟩) vo.length cap)) tBr tPt b w x u) :
  MgS q b w0 (w.setCell ⟨g, j, none⟩ u) (.slice (some ⟨g, 0, none⟩) vo.length cap) (vo.set j u) (om.set j x) := by
 have hgl := (h.row.lt g rfl).1
 have hm : ∀ k, b ≤ k → k < w.heap.size → qn q w0.heap.size (.slice (some ⟨g, 0, none⟩) vo.length cap) k → (w.setCell ⟨g, j, none⟩ u).heap[k]? = w.heap[k]? ∧ qn q w0.heap.size (.slice (some ⟨g, 0, none⟩) vo.length cap) k := fun k _ _ h3 =>
  ⟨Below.heap_setCell w _ u k (fun e => h3.2 (by rw [e]; rfl)), h3⟩
 refine ⟨h.old.setCell hgl u, ?_, brs_set (br_move hm hx) _ _ j (brs_move hm _ _ h.brs)⟩
 rw [List.length_set]
 exact (h.row.stored j u).1
end Go.Proofs.YtnieifdogllbfaaGreat
namespace Go.Proofs.YtnieifdogllbfaaGreat
open Go.ChangeShapes Go.WideShapes Go.ChangeAt Go.RowKit
set_option linter.unusedVariables false
end Go.Proofs.YtnieifdogllbfaaGreat

/- record.reader.read: the whole text. -/
import Derived.Test.YthklhndcdijneaaGreatDoorC28
import Derived.Test.YthklhndcdijneaaGreatDoorC05
import Derived.BigQuiet
import Derived.Deep.Cut
import Derived.Deep.CutRange
import Derived.Deep.QuietTactic
namespace Go.Proofs.YthklhndcdijneaaGreatDoor
open Go.ChangeShapes Go.WideShapes Go.ChangeAt Go.RowKit
set_option linter.unusedVariables false
theorem up2_le (a b : UInt8) : ∀ (l : Byt) (q : Byt × Byt), upTo2 a b l = some q → q.1.length + q.2.length < l.length
 | [], q, h => by rw [upTo2] at h; cases h; simp
 | [x], q, h => by rw [upTo2] at h; cases h; simp
 | x :: y :: l, q, h => by
  rw [upTo2] at h
  by_cases e : x = a ∧ y = b
  ·rw [if_pos e] at h
   obtain rfl := Option.some.inj h
   simp only [List.length_nil, List.length_cons]
   omega
  ·rw [if_neg e] at h
   obtain ⟨r, h1, rfl⟩ := Option.map_eq_some_iff.1 h
   have := up2_le a b (y :: l) r h1
   simp only [List.length_cons] at this ⊢
   omega
theorem rest_cnt (R : RulesZ) : ∀ f : Nat, (∀ p l q, POk R p → rAfter R f p l = .ok q → cnt q.1 + q.2.length ≤ l.length) ∧ (∀ p l q, POk R p → rVars R f p l = .ok q → cnt q.1 + q.2.length ≤ l.length) := by
 intro f
 induction f with
 | zero => exact ⟨fun p l q _ h => by rw [rAfter] at h; obtain rfl := Except.ok.inj h; simp [cnt, waysL], fun p l q _ h => by rw [rVars] at h; obtain rfl := Except.ok.inj h; simp [cnt, waysL]⟩
 | succ f ih =>
  refine ⟨fun p l q K h => ?_, fun p l q K h => ?_⟩
  ·have hb := blank_le l
   rw [rAfter] at h
   split at h
   ·obtain rfl := Except.ok.inj h; simpa [cnt, waysL] using hb
   ·cases hm : rMove R p (blank l) with
    | error e => rw [hm] at h; cases h
    | ok x =>
     rw [hm] at h
     dsimp only at h
     have h1 := rMove_ok hm K
     cases hv : rVars R f p x.2.2 with
     | error e => rw [hv] at h; cases h
     | ok v =>
      rw [hv] at h
      dsimp only at h
      have h2 := ih.2 _ _ _ K hv
      cases ha : rAfter R f (makeZ R p x.1) v.2 with
      | error e => rw [ha] at h; cases h
      | ok k =>
       rw [ha] at h
       obtain rfl := Except.ok.inj h
       have h3 := ih.1 _ _ _ (make_ok K h1.2.2.1) ha
       have h4 := cnt_app [.mk x.1 (bs x.2.1) k.1] v.1
       rw [cnt_one, List.singleton_append] at h4
       show cnt (.mk x.1 (bs x.2.1) k.1 :: v.1) + k.2.length ≤ l.length
       omega
  ·have hg := got_le 40 l
   rw [rVars] at h
   split at h
   ·obtain rfl := Except.ok.inj h; simpa [cnt, waysL] using hg
   ·cases hm : rMove R p (got 40 l).2 with
    | error e => rw [hm] at h; cases h
    | ok x =>
     rw [hm] at h
     dsimp only at h
     have h1 := rMove_ok hm K
     cases ha : rAfter R f (makeZ R p x.1) x.2.2 with
     | error e => rw [ha] at h; cases h
     | ok k =>
      rw [ha] at h
      dsimp only at h
      have h3 := ih.1 _ _ _ (make_ok K h1.2.2.1) ha
      have hg2 := got_le 41 k.2
      split at h
      ·cases h
      ·cases hv : rVars R f p (got 41 k.2).2 with
       | error e => rw [hv] at h; cases h
       | ok v =>
        rw [hv] at h
        obtain rfl := Except.ok.inj h
        have h2 := ih.2 _ _ _ K hv
        have h4 := cnt_app [.mk x.1 (bs x.2.1) k.1] v.1
        rw [cnt_one, List.singleton_append] at h4
        show cnt (.mk x.1 (bs x.2.1) k.1 :: v.1) + v.2.length ≤ l.length
        omega
def flatTg (l : List TagZ) : List Value := l.flatMap fun t => [.string t.key, .string t.value]
theorem flatTg_snoc (l : List TagZ) (t : TagZ) : flatTg l ++ [.string t.key, .string t.value] = flatTg (l ++ [t]) := by simp [flatTg]
theorem infoTg : (Tryz.prog.info? 58).map (fun i => (i.zero, i.size, i.bytes)) = some (some (.agg #[.string ⟨#[]⟩, .string ⟨#[]⟩]), 2, 32) := by kernel_rfl
/-- what read leaves. -/
def rrPost (b : Nat) (R : RulesZ) (vp vs ve : Value) (w : World) (o : Except Int RecZ) (e : Ending) (w' : World) : Prop :=
 Fr (· = b) w w' ∧ match o with
 | .error n => e = .returned (.int .i64 n)
 | .ok X => e = .returned (.int .i64 0) ∧ ∃ vt vn t, Box w' b (rdC R vp vs ve t vt (.string X.comment) vn (.int .i64 X.result)) RdT ∧ w'.ownsRow w.heap.size 58 2 vt X.tags.length (flatTg X.tags) ∧ w'.ownsRow w.heap.size tNd 5 vn X.nodes.length (flatN X.nodes)
def addT (ts : List TagZ) : Except Int (List TagZ × Byt) → Except Int (List TagZ × Byt)
 | .error e => .error e
 | .ok v => .ok (ts ++ v.1, v.2)
theorem addT_nil (o : Except Int (List TagZ × Byt)) : o = addT [] o := by cases o <;> rfl
theorem tags_step {g : Nat} {l : Byt} {ts : List TagZ} {O : Except Int (List TagZ × Byt)} (h : O = addT ts (rTags (g + 1) l)) (h1 : (got 91 l).1 = true) :
  (upTo2 32 34 (got 91 l).2 = none → O = .error 5) ∧ ∀ k, upTo2 32 34 (got 91 l).2 = some k → (upTo2 34 93 k.2 = none → O = .error 5) ∧ ∀ v, upTo2 34 93 k.2 = some v → O = addT (ts ++ [⟨bs k.1, bs v.1⟩]) (rTags g v.2) := by
 rw [rTags, if_neg (by rw [h1]; simp)] at h
 refine ⟨fun e => by rw [h, e]; rfl, fun k e => ?_⟩
 rw [e] at h
 dsimp only at h
 refine ⟨fun e => by rw [h, e]; rfl, fun v e => ?_⟩
 rw [e] at h
 dsimp only at h
 rw [h]
 cases rTags g v.2 with
 | error n => rfl
 | ok v => simp [addT]
theorem tags_end {g : Nat} {l : Byt} {ts : List TagZ} {O : Except Int (List TagZ × Byt)} (h : O = addT ts (rTags (g + 1) l)) (h1 : (got 91 l).1 = false) : O = .ok (ts, (got 91 l).2) := by
 rw [rTags, if_pos h1] at h
 rw [h]
 simp [addT]
set_option maxRecDepth 100000
set_option maxHeartbeats 8000000
variable {R : RulesZ} {vp vs ve : Value}
theorem results_any (w : World) : Calls Tryz.prog 23 #[] w fun e w' => e = .returned (.agg #[.string ⟨#[42]⟩, .string ⟨#[49, 45, 48]⟩, .string ⟨#[48, 45, 49]⟩, .string ⟨#[49, 47, 50]⟩]) ∧ Below w.heap.size w w' := by
 go_enter Tryz.func23, Tryz.ntmps23
 go_wp2_with fail
 have hbx := Box.new w resV 74
 have q0 := hbx.cell 0 rfl
 have q1 := hbx.cell 1 rfl
 have q2 := hbx.cell 2 rfl
 have q3 := hbx.cell 3 rfl
 refine bodyPost_ret (results_one rfl (by rfl) hbx Tryz.underlying74 (by rfl) (by kernel_rfl)) rfl ⟨rfl, (Below.refl _ _).alloc (Nat.le_refl _) _⟩
theorem read_any (HT : TrimSaid) (HA : AnySaid) (HC : CutSaid) (HCl : CloneSaid) (HS : SortMvSaid) (b : Nat) (s : ByteArray) (w : World) (hb : Box w b (rdC R vp vs ve s (.slice none 0 0) (.string ⟨#[]⟩) (.slice none 0 0) (.int .i64 0)) RdT) (hs : s.size ≤ 100000) (hh : RdH b R vp vs ve w) :
  Calls Tryz.prog 26 #[.pointer (some ⟨b, 0, none⟩)] w (rrPost b R vp vs ve w (rRead R (bt s))) := by
 have hmf : ∀ (fn : Fn) (first cap : Array Value) (w : World), (Instr.makeFunc fn first cap).run Tryz.prog w = .ok (.func fn first cap) w := fun _ _ _ _ => rfl
 have HH := Lib.hid hh
 have HG : Hid (∀ (u : Byt) (c : UInt8) w1 (vt : Value), u.length ≤ 100000 → Box w1 b (rdC R vp vs ve (bs u) vt (.string ⟨#[]⟩) (.slice none 0 0) (.int .i64 0)) RdT → Calls Tryz.prog 50 #[.pointer (some ⟨b, 0, none⟩), .int .u8 c.toNat] w1 fun e w' => e = .returned (.bool (got c u).1) ∧ Box w' b (rdC R vp vs ve (bs (got c u).2) vt (.string ⟨#[]⟩) (.slice none 0 0) (.int .i64 0)) RdT ∧ Fr (· = b) w1 w') := Lib.hid fun u c w1 vt h0 h1 => by
  have := got_any HT b (bs u) c w1 h1 (by rw [bs_size]; exact h0)
  rw [bt_bs] at this
  exact this
 have HU : Hid (∀ (u : Byt) (x y : UInt8) w1 (vt : Value), u.length ≤ 100000 → Box w1 b (rdC R vp vs ve (bs u) vt (.string ⟨#[]⟩) (.slice none 0 0) (.int .i64 0)) RdT → Fr (· = b) w w1 → Calls Tryz.prog 51 #[.pointer (some ⟨b, 0, none⟩), .string ⟨#[x, y]⟩] w1 (RdPost b R vp vs ve vt (.string ⟨#[]⟩) (.slice none 0 0) (.int .i64 0) w1 (upR (upTo2 x y u)))) := Lib.hid fun u x y w1 vt h0 h1 h2 => by
  refine upTo_any HC HCl b (bs u) ⟨#[x, y]⟩ (upTo2 x y u) w1 h1 (by rw [bs_size]; exact h0) ((hh.step h2).mx) (by rw [bt_bs]; exact cut2 x y u) (fun q hq => by rw [bt_bs]; have := up2_le x y u q hq; omega)
 have HCm : Hid (∀ (u : Byt) w1 (vt : Value), u.length ≤ 100000 → Box w1 b (rdC R vp vs ve (bs u) vt (.string ⟨#[]⟩) (.slice none 0 0) (.int .i64 0)) RdT → Fr (· = b) w w1 → Calls Tryz.prog 52 #[.pointer (some ⟨b, 0, none⟩)] w1 (RdPost b R vp vs ve vt (.string ⟨#[]⟩) (.slice none 0 0) (.int .i64 0) w1 (cmR u))) := Lib.hid fun u w1 vt h0 h1 h2 => by
  have := rcomment_any HT HC HCl b (bs u) w1 h1 (by rw [bs_size]; exact h0) ((hh.step h2).mx)
  rw [bt_bs] at this
  exact this
 obtain ⟨l0, hl0⟩ : ∃ l0, s = bs l0 := ⟨bt s, rfl⟩
 subst hl0
 rw [bt_bs]
 rw [bs_size] at hs
 obtain ⟨O, hO⟩ : ∃ O, O = rRead R l0 := ⟨_, rfl⟩
 rw [← hO]
 unfold rRead at hO
 have HO := Lib.hid hO
 have HBr := Lib.hid hb
 have hbz := hb.lt
 clear hO hb hh
 go_enter_defers Tryz.func26, Tryz.ntmps26
 go_upto_region 1 with (fail)
 refine opn1 ?_
 intro w0 xbE hB0 hS0
 have HB := Lib.hid hB0
 obtain ⟨bE, hbE⟩ : ∃ bE, bE = w.heap.size := ⟨_, rfl⟩
 rw [← hbE] at xbE ⊢
 have hbE1 : w.heap.size ≤ bE := by omega
 have HbE := Lib.hid xbE
 have hS : bE < w0.heap.size := by omega
 clear hB0 hS0 xbE hbE
 have HB0 := Lib.hid (HBr.out.stays HB.out)
 have HF0 := Lib.hid (Fr.of_new (S := (· = b)) HB.out)
 have hbE : b < bE := by omega
 go_wp2_with fail
 go_loopg [] (l0.length + 1) (fun fg wr => ∃ (l : Byt) (ts : List TagZ) (vt : Value), l.length < fg ∧ ts.length + l.length ≤ 100000 ∧ Hid (rTags (l0.length + 1) l0 = addT ts (rTags fg l)) ∧ Hid (Box wr b (rdC R vp vs ve (bs l) vt (.string ⟨#[]⟩) (.slice none 0 0) (.int .i64 0)) RdT) ∧ Hid (wr.ownsRow (bE + 1) 58 2 vt ts.length (flatTg ts)) ∧ Hid (Box wr bE [.int .i64 0] 34) ∧ Hid (Fr (· = b) w wr))
 case atStart => exact ⟨l0, [], .slice none 0 0, by omega, by simp; omega, Lib.hid (addT_nil _), HB0, Lib.hid (World.ownsRow_nil _ _ _ _), HbE, HF0⟩
 case round =>
  obtain ⟨l, ts, vt, hl1, hl2, HV, HD, HTg, HEr, HFr⟩ := hrel
  cases gk with
  | zero => omega
  | succ g =>
   have hgt := HG.out l 91 wr vt (by omega) HD.out
   have hul := got_le 91 l
   obtain ⟨u, hu⟩ : ∃ u, u = (got 91 l).2 := ⟨_, rfl⟩
   rw [← hu] at hul
   cases hg1 : (got 91 l).1 with
   | true =>
    have hv1 := tags_step HV.out hg1
    have hul' := got_lt hg1
    rw [← hu] at hv1 hul'
    have HV1 := Lib.hid hv1
    rw [hg1, ← hu] at hgt
    clear hv1 hu hg1
    cases hk : upTo2 32 34 u with
    | none =>
     have HK := Lib.hid hk
     clear hk
     go_wp2_with (first | (refine hgt.mono ?_; rintro e w4 ⟨rfl, D4, hf4⟩; have HF4 := Lib.hid (HFr.out.trans hf4 (Shr.refl _ _)); have HE4 := Lib.hid (HEr.out.held hf4 (show ¬ bE = b by omega))) | (have hm := HU.out u 32 34 _ vt (by omega) D4 HF4.out; unfold RdPost at hm; rw [HK.out] at hm; refine hm.mono ?_; clear hm; rintro e w5 ⟨hf5, rfl⟩; have HE5 := Lib.hid (HE4.out.held hf5 (show ¬ bE = b by omega)); have HF5 := Lib.hid (HF4.out.trans hf5 (Shr.refl _ _))))
     have HOE : Hid (O = .error 5) := Lib.hid (by rw [HO.out, HV1.out.1 HK.out])
     refine leaves_cons (f := 49) (args := #[.pointer (some ⟨bE, 0, none⟩)]) (by simp) (by simp [go_sem]) ?_
     refine (catch_wrong ⟨bE, 0, none⟩ 0 5 _ ((HE5.out).cell 0 rfl) ((HE5.out).frozen 0) (HE5.out).lt).mono ?_
     rintro e u' w'' ⟨rfl, rfl, wd, hbd, rfl⟩
     have hcd := (((HE5.out).stays hbd).set 0 (.int .i64 (5))).cell 0 rfl
     have HFD := Lib.hid ((HF5.out).trans (Fr.of_new (S := (· = b)) hbd) (Shr.refl _ _))
     clear hbd
     simp [Leaves, settle, results, Tryz.results26, go_sem, hcd]
     exact ⟨HFD.out.setNew (by show w.heap.size ≤ bE; omega) _, by rw [HOE.out]⟩
    | some k =>
     have HK := Lib.hid hk
     have hkl := up2_le _ _ _ _ hk
     have HV2 := Lib.hid (HV1.out.2 k hk)
     clear hk
     cases hv : upTo2 34 93 k.2 with
     | none =>
      have HVN := Lib.hid hv
      clear hv
      go_wp2_with (refine hgt.mono ?_; rintro e w4 ⟨rfl, D4, hf4⟩; have HF4 := Lib.hid (HFr.out.trans hf4 (Shr.refl _ _)); have HE4 := Lib.hid (HEr.out.held hf4 (show ¬ bE = b by omega)))
      have hm := HU.out u 32 34 _ _ (by omega) D4 HF4.out
      unfold RdPost at hm
      rw [HK.out] at hm
      refine hm.mono ?_
      clear hm
      rintro e w5 ⟨hf5, rfl, D5⟩
      have HD5 := Lib.hid D5
      have HE5 := Lib.hid (HE4.out.held hf5 (show ¬ bE = b by omega))
      have HF5 := Lib.hid (HF4.out.trans hf5 (Shr.refl _ _))
      have q5 := hf5.size
      have q4 := hf4.size
      clear D4 hf4 hf5 D5 HE4 HF4 hgt
      go_wp2_with fail
      have hm := HU.out k.2 34 93 _ _ (by omega) (HD5.out.alloc (.cells #[.string (bs k.1), .string ⟨#[]⟩] 58)) (HF5.out.alloc (.cells #[.string (bs k.1), .string ⟨#[]⟩] 58))
      unfold RdPost at hm
      rw [HVN.out] at hm
      refine hm.mono ?_
      clear hm
      rintro e w6 ⟨hf6, rfl⟩
      have HE6 := Lib.hid ((HE5.out.alloc (.cells #[.string (bs k.1), .string ⟨#[]⟩] 58)).held hf6 (show ¬ bE = b by omega))
      have HF6 := Lib.hid ((HF5.out.alloc (.cells #[.string (bs k.1), .string ⟨#[]⟩] 58)).trans hf6 (Shr.refl _ _))
      have HOE : Hid (O = .error 5) := Lib.hid (by rw [HO.out, HV2.out.1 HVN.out])
      try go_wp2_with fail
      refine leaves_cons (f := 49) (args := #[.pointer (some ⟨bE, 0, none⟩)]) (by simp) (by simp [go_sem]) ?_
      refine (catch_wrong ⟨bE, 0, none⟩ 0 5 _ ((HE6.out).cell 0 rfl) ((HE6.out).frozen 0) (HE6.out).lt).mono ?_
      rintro e u' w'' ⟨rfl, rfl, wd, hbd, rfl⟩
      have hcd := (((HE6.out).stays hbd).set 0 (.int .i64 (5))).cell 0 rfl
      have HFD := Lib.hid ((HF6.out).trans (Fr.of_new (S := (· = b)) hbd) (Shr.refl _ _))
      clear hbd
      simp [Leaves, settle, results, Tryz.results26, go_sem, hcd]
      exact ⟨HFD.out.setNew (by show w.heap.size ≤ bE; omega) _, by rw [HOE.out]⟩
     | some v =>
      have HVN := Lib.hid hv
      have hvl := up2_le _ _ _ _ hv
      have HV3 := Lib.hid (HV2.out.2 v hv)
      clear hv
      obtain ⟨ta, tc, rfl⟩ := own_form2 HTg.out
      go_wp2_with (refine hgt.mono ?_; rintro e w4 ⟨rfl, D4, hf4⟩; have HF4 := Lib.hid (HFr.out.trans hf4 (Shr.refl _ _)); have HE4 := Lib.hid (HEr.out.held hf4 (show ¬ bE = b by omega)))
      have hm := HU.out u 32 34 _ _ (by omega) D4 HF4.out
      unfold RdPost at hm
      rw [HK.out] at hm
      refine hm.mono ?_
      clear hm
      rintro e w5 ⟨hf5, rfl, D5⟩
      have HD5 := Lib.hid D5
      have HE5 := Lib.hid (HE4.out.held hf5 (show ¬ bE = b by omega))
      have HF5 := Lib.hid (HF4.out.trans hf5 (Shr.refl _ _))
      have q5 := hf5.size
      have q4 := hf4.size
      have HTg5 := Lib.hid (own_of_block (w' := w5) HTg.out (fun j hj => (hf5.block j (by have := (HTg.out.lt j hj).2; omega) (show ¬ j = b by have := (HTg.out.lt j hj).1; omega)).trans (hf4.block j (HTg.out.lt j hj).2 (show ¬ j = b by have := (HTg.out.lt j hj).1; omega))))
      clear D4 hf4 hf5 D5 HE4 HF4 hgt
      go_wp2_with fail
      have hm := HU.out k.2 34 93 _ _ (by omega) (HD5.out.alloc (.cells #[.string (bs k.1), .string ⟨#[]⟩] 58)) (HF5.out.alloc (.cells #[.string (bs k.1), .string ⟨#[]⟩] 58))
      unfold RdPost at hm
      rw [HVN.out] at hm
      refine hm.mono ?_
      clear hm
      rintro e w6 ⟨hf6, rfl, D6⟩
      have hbt : b < w5.heap.size := HD5.out.lt
      have hEt : bE < w5.heap.size := HE5.out.lt
      have HT6 := Lib.hid ((Box.new w5 [.string (bs k.1), .string ⟨#[]⟩] 58).held hf6 (show ¬ w5.heap.size = b by omega))
      have HE6 := Lib.hid ((HE5.out.alloc (.cells #[.string (bs k.1), .string ⟨#[]⟩] 58)).held hf6 (show ¬ bE = b by omega))
      have HF6 := Lib.hid ((HF5.out.alloc (.cells #[.string (bs k.1), .string ⟨#[]⟩] 58)).trans hf6 (Shr.refl _ _))
      have HTg6 := Lib.hid (own_of_block (w' := w6) (HTg5.out.alloc (.cells #[.string (bs k.1), .string ⟨#[]⟩] 58)) (fun j hj => hf6.block j (by have := (HTg5.out.lt j hj).2; simp; omega) (show ¬ j = b by have := (HTg5.out.lt j hj).1; omega)))
      have HD6 := Lib.hid D6
      have q6 := hf6.size
      rw [World.size_alloc] at q6
      have HNT : Hid (∀ j, (Value.slice ta ts.length tc).ownBlock = some j → j ≠ w5.heap.size) := Lib.hid (fun j hj => by have := (HTg5.out.lt j hj).2; omega)
      have hwT : w.heap.size ≤ w5.heap.size := HF5.out.size
      have HNZ : Hid (∀ j, (Value.slice ta ts.length tc).ownBlock = some j → ¬ (b = j ∨ w5.heap.size = j ∨ bE = j)) := Lib.hid (fun j hj => by have h1 := HTg5.out.lt j hj; omega)
      generalize w5.heap.size = gT at *
      clear D6 hf6 HD5 HE5 HF5 HTg5
      have t61 := HT6.out.cell 1 rfl
      have f61 := HT6.out.frozen 1
      go_wp2_with fail
      clear t61 f61
      have HT7 := Lib.hid (HT6.out.set 1 (.string (bs v.1)))
      have HD7 := Lib.hid (HD6.out.far ⟨gT, 1, none⟩ (.string (bs v.1)) (show b ≠ gT by omega))
      have HE7 := Lib.hid (HE6.out.far ⟨gT, 1, none⟩ (.string (bs v.1)) (show bE ≠ gT by omega))
      have HF7 := Lib.hid (HF6.out.setNew (p := ⟨gT, 1, none⟩) (by show w.heap.size ≤ gT; omega) (.string (bs v.1)))
      have HTg7 := Lib.hid (own_of_block (w' := w6.setCell ⟨gT, 1, none⟩ (.string (bs v.1))) HTg6.out (fun j hj => Below.heap_setCell w6 _ _ j (by show j ≠ gT; exact HNT.out j hj)))
      refine wp_worldR ?_
      intro w7 e7
      rw [← e7] at HT7 HD7 HE7 HF7 HTg7
      clear e7 HT6 HD6 HE6 HF6 HTg6 HNT
      obtain ⟨wq, rfl⟩ : ∃ wq : World, wq = w7 := ⟨_, rfl⟩
      obtain ⟨i0, hi0, hz0, hz1, hz2⟩ := info_parts infoTg
      have S1 : Hid (∀ u ∈ ([.string (bs k.1), .string (bs v.1)] : List Value), u.oneCell' = true) := Lib.hid (fun u hu => by simp at hu; rcases hu with rfl | rfl <;> rfl)
      have Dz := HD7.out.drew
      have Tz := HT7.out.drew
      have Ez := HE7.out.drew
      have Fz : Fr (· = b) w wq.drew := HF7.out.drew
      have Rz : wq.drew.ownsRow (bE + 1) 58 2 (.slice ta ts.length tc) ts.length (flatTg ts) := HTg7.out
      refine wp_region_noPanic ?_
      refine beginL (S := (fun w' => w'.cell? ⟨b, 12, none⟩ = some (.slice ta ts.length tc) ∧ w'.cell? ⟨gT, 0, none⟩ = some (.string (bs k.1)) ∧ w'.cell? ⟨gT, 1, none⟩ = some (.string (bs v.1)))) (L := [12]) (by kernel_rfl) ⟨Dz.cell 12 rfl, Tz.cell 0 rfl, Tz.cell 1 rfl⟩ (fun hHeld => ?_)
      refine tkW 0 ?_
      refine tkW 1 ?_
      refine tkL 6 ?_
      refine tkW 2 ?_
      refine tkW 3 ?_
      refine tkW 4 ?_
      refine tkL 5 ?_
      refine cnL 7 fun K hK => ?_
      go_simp
      refine K_world ?_
      intro w11 e11
      have D11 : Box w11 b (rdC R vp vs ve (bs v.2) (.slice ta ts.length tc) (.string ⟨#[]⟩) (.slice none 0 0) (.int .i64 0)) RdT := by rw [e11]; exact Dz.alloc _
      have T11 : Box w11 gT [.string (bs k.1), .string (bs v.1)] 58 := by rw [e11]; exact Tz.alloc _
      have E11 : Box w11 bE [.int .i64 0] 34 := by rw [e11]; exact Ez.alloc _
      have F11 : Fr (· = b) w w11 := by rw [e11]; exact Fz.alloc _
      have R11 : w11.ownsRow (bE + 1) 58 2 (.slice ta ts.length tc) ts.length (flatTg ts) := by rw [e11]; exact Rz.alloc _
      have N11 : ∀ j u, ([.string (bs k.1), .string (bs v.1)] : List Value)[j]? = some u → w11.cell? ((⟨wq.drew.heap.size, 0, none⟩ : Addr).add j) = some u := by rw [e11]; exact fun j u hj => new_cells wq.drew [.string (bs k.1), .string (bs v.1)] 58 j u hj
      have Z11 : bE + 1 ≤ w11.heap.size := E11.lt
      clear e11
      refine hK.out _ _ ⟨D11.cell 12 rfl, T11.cell 0 rfl, T11.cell 1 rfl⟩ (fun hHeld => ?_)
      clear hK K
      refine cnL 8 fun K hK => ?_
      rw [if_pos (by rfl)]
      refine wp_append_lies _ _ _ 27 rfl (bE + 1) 58 i0 (.agg #[.string ⟨#[]⟩, .string ⟨#[]⟩]) 2 32 Tryz.underlying27 hi0 hz0 hz1 hz2 rfl (by decide) (.slice ta ts.length tc) ts.length (flatTg ts) rfl R11 ⟨wq.drew.heap.size, 0, none⟩ 1 1 [.string (bs k.1), .string (bs v.1)] rfl rfl N11 S1.out (by decide) (by unfold maxLen; omega) (by omega) Z11 w11.heap.size rfl ?_
      intro g12 c12 w12 ho12 hg12 hq12 hl12
      have fr : ∀ j, (b = j ∨ gT = j ∨ bE = j) → some j ≠ (Value.slice ta ts.length tc).ownBlock := fun j hj e => by have h1 := HNZ.out j e.symm; omega
      have D12 := D11.grown hg12 (fr b (.inl rfl))
      have T12 := T11.grown hg12 (fr gT (.inr (.inl rfl)))
      have E12 := E11.grown hg12 (fr bE (.inr (.inr rfl)))
      have F12 : Fr (· = b) w w12 := F11.grown hg12 (fun j hj hl => by have := (R11.lt j hj).1; omega)
      clear hg12 hq12 hl12 fr
      refine hK.out _ _ ⟨D12.cell 12 rfl, T12.cell 0 rfl, T12.cell 1 rfl⟩ (fun hHeld => ?_)
      clear hK K
      refine tkW 9 ?_
      refine tkW 10 ?_
      refine tkW 11 ?_
      refine ltL 12 fun K hK => ?_
      have d1 := D12.cell 12 rfl
      have d1f := D12.frozen 12
      go_simp
      refine K_world ?_
      intro w13 e13
      have D13 : Box w13 b (rdC R vp vs ve (bs v.2) (.slice (some ⟨g12, 0, none⟩) (ts.length + 1) c12) (.string ⟨#[]⟩) (.slice none 0 0) (.int .i64 0)) RdT := by rw [e13]; exact D12.set 12 _
      have E13 : Box w13 bE [.int .i64 0] 34 := by rw [e13]; exact E12.far _ _ (by show bE ≠ b; omega)
      have F13 : Fr (· = b) w w13 := by rw [e13]; exact F12.setCell rfl _
      have R13 : w13.ownsRow (bE + 1) 58 2 (.slice (some ⟨g12, 0, none⟩) (ts.length + 1) c12) (ts.length + 1) (flatTg ts ++ [.string (bs k.1), .string (bs v.1)]) := by rw [e13]; exact ownsRow_setCell_below ho12 (by show b < bE + 1; omega) _
      clear e13 d1 d1f
      refine hK.out _ _ ?_
      clear hK K
      refine dnN ?_
      have HR13 : Hid (w13.ownsRow (bE + 1) 58 2 (.slice (some ⟨g12, 0, none⟩) (ts.length + 1) c12) (ts ++ [(⟨bs k.1, bs v.1⟩ : TagZ)]).length (flatTg (ts ++ [(⟨bs k.1, bs v.1⟩ : TagZ)]))) := Lib.hid (by rw [List.length_append, ← flatTg_snoc]; exact R13)
      have HD13 := Lib.hid D13
      have HE13 := Lib.hid E13
      have HF13 := Lib.hid F13
      clear Dz Tz Ez Fz Rz D11 T11 E11 F11 R11 N11 Z11 D12 T12 E12 F12 ho12 D13 E13 F13 R13 hHeld S1 HD7 HT7 HE7 HF7 HTg7
      go_wp2_with fail
      go_roundg g
      case measure => omega
      case rel => exact ⟨v.2, ts ++ [(⟨bs k.1, bs v.1⟩ : TagZ)], _, by omega, by simp; omega, HV3, HD13, HR13, HE13, HF13⟩
   | false =>
    have hve := tags_end HV.out hg1
    rw [← hu] at hve
    rw [hg1, ← hu] at hgt
    have HOB : Hid (O = match rBody R u with | .error e => .error e | .ok q => .ok ⟨ts, bs q.1, flatL q.2.1 (-1) [], q.2.2⟩) := Lib.hid (by rw [HO.out, hve]; rfl)
    obtain ⟨ta, tc, rfl⟩ := own_form2 HTg.out
    have HTL : Hid (∀ j, (Value.slice ta ts.length tc).ownBlock = some j → bE + 1 ≤ j ∧ j < wr.heap.size) := Lib.hid HTg.out.lt
    clear hve hu hg1 HV HO HG HU
    cases hc : rCmt u with
    | error n =>
     have HCE := Lib.hid hc
     clear hc
     go_wp2_with (refine hgt.mono ?_; rintro e w4 ⟨rfl, D4, hf4⟩; have HF4 := Lib.hid (HFr.out.trans hf4 (Shr.refl _ _)); have HE4 := Lib.hid (HEr.out.held hf4 (show ¬ bE = b by omega)))
     have hm := HCm.out u w4 _ (by omega) D4 HF4.out
     unfold RdPost cmR at hm
     rw [HCE.out] at hm
     refine hm.mono ?_
     clear hm
     rintro e w5 ⟨hf5, rfl⟩
     have HE5 := Lib.hid (HE4.out.held hf5 (show ¬ bE = b by omega))
     have HF5 := Lib.hid (HF4.out.trans hf5 (Shr.refl _ _))
     have HOE : Hid (O = .error n) := Lib.hid (by rw [HOB.out]; unfold rBody; rw [HCE.out])
     try go_wp2_with fail
     refine leaves_cons (f := 49) (args := #[.pointer (some ⟨bE, 0, none⟩)]) (by simp) (by simp [go_sem]) ?_
     refine (catch_wrong ⟨bE, 0, none⟩ 0 n _ ((HE5.out).cell 0 rfl) ((HE5.out).frozen 0) (HE5.out).lt).mono ?_
     rintro e u' w'' ⟨rfl, rfl, wd, hbd, rfl⟩
     have hcd := (((HE5.out).stays hbd).set 0 (.int .i64 (n))).cell 0 rfl
     have HFD := Lib.hid ((HF5.out).trans (Fr.of_new (S := (· = b)) hbd) (Shr.refl _ _))
     clear hbd
     simp [Leaves, settle, results, Tryz.results26, go_sem, hcd]
     exact ⟨HFD.out.setNew (by show w.heap.size ≤ bE; omega) _, by rw [HOE.out]⟩
    | ok c =>
     have HCE := Lib.hid hc
     have hcl := rCmt_le hc
     clear hc
     go_wp2_with (refine hgt.mono ?_; rintro e w4 ⟨rfl, D4, hf4⟩; have HF4 := Lib.hid (HFr.out.trans hf4 (Shr.refl _ _)); have HE4 := Lib.hid (HEr.out.held hf4 (show ¬ bE = b by omega)))
     have hm := HCm.out u w4 _ (by omega) D4 HF4.out
     unfold RdPost cmR at hm
     rw [HCE.out] at hm
     refine hm.mono ?_
     clear hm
     rintro e w5 ⟨hf5, rfl, D5⟩
     have HE5 := Lib.hid (HE4.out.held hf5 (show ¬ bE = b by omega))
     have HF5 := Lib.hid (HF4.out.trans hf5 (Shr.refl _ _))
     have HTg5 := Lib.hid (own_of_block (w' := w5) HTg.out (fun j hj => (hf5.block j (by have := (HTg.out.lt j hj).2; have := hf4.size; omega) (show ¬ j = b by have := (HTg.out.lt j hj).1; omega)).trans (hf4.block j (HTg.out.lt j hj).2 (show ¬ j = b by have := (HTg.out.lt j hj).1; omega))))
     have HD5 := Lib.hid (D5.set 13 (.string (bs c.1)))
     have HE6 := Lib.hid (HE5.out.far ⟨b, 13, none⟩ (.string (bs c.1)) (show bE ≠ b by omega))
     have HF6 := Lib.hid (HF5.out.setCell (p := ⟨b, 13, none⟩) rfl (.string (bs c.1)))
     have HTg6 := Lib.hid (ownsRow_setCell_below (a := ⟨b, 13, none⟩) HTg5.out (by show b < bE + 1; omega) (.string (bs c.1)))
     have d0 := HD5.out.cell 0 rfl
     have d1 := HD5.out.cell 1 rfl
     have d2 := HD5.out.cell 2 rfl
     have d3 := HD5.out.cell 3 rfl
     have d4 := HD5.out.cell 4 rfl
     have d5 := HD5.out.cell 5 rfl
     have d6 := HD5.out.cell 6 rfl
     have d7 := HD5.out.cell 7 rfl
     have d8 := HD5.out.cell 8 rfl
     have d9 := HD5.out.cell 9 rfl
     have d10 := HD5.out.cell 10 rfl
     have c13 := D5.cell 13 rfl
     have f13 := D5.frozen 13
     clear D4 D5 hf4 hf5 hgt HE4 HF4 HE5 HF5 HTg5 HTL
     go_wp2_with (fail)
     have hbg := Begin2_any R vp vs ve (w5.setCell ⟨b, 13, none⟩ (.string (bs c.1))) (HH.out.step HF6.out).rd.now HH.out.nm
     refine hbg.mono ?_
     clear hbg d0 d1 d2 d3 d4 d5 d6 d7 d8 d9 d10 c13 f13
     rintro e w7 (⟨h, -⟩ | ⟨-, vc, v0, v1, rfl, ho7, hb7⟩)
     ·exact absurd HH.out.re h
     obtain ⟨pa, pc, rfl⟩ := own_form2 ho7.1
     obtain ⟨pa0, pc0, rfl⟩ := own_form2 ho7.2.1
     obtain ⟨pa1, pc1, rfl⟩ := own_form2 ho7.2.2
     have hbl6 : b < (w5.setCell ⟨b, 13, none⟩ (.string (bs c.1))).heap.size := HD5.out.lt
     have HD7 := Lib.hid (HD5.out.stays hb7)
     have HE7 := Lib.hid (HE6.out.stays hb7)
     have HF7 := Lib.hid (HF6.out.trans (Fr.of_new hb7) (Shr.refl _ _))
     have HTg7 := Lib.hid (own_stays HTg6.out hb7)
     have HP7 : Hid (Held (· = b) w7 fun w' => RdP w' (beginZ R) (.slice pa (beginZ R).cells.length pc) (.slice pa0 (beginZ R).h0.length pc0) (.slice pa1 (beginZ R).h1.length pc1)) := Lib.hid (fun w' hw => ⟨RdI.of_own (own_held ho7.1 hw (fun j hj (h3 : j = b) => by have := (ho7.1.lt j hj).1; omega)), RdI.of_own (own_held ho7.2.1 hw (fun j hj (h3 : j = b) => by have := (ho7.2.1.lt j hj).1; omega)), RdI.of_own (own_held ho7.2.2 hw (fun j hj (h3 : j = b) => by have := (ho7.2.2.lt j hj).1; omega))⟩)
     clear hb7 ho7 HD5 HE6 HF6 HTg6 hbl6
     unfold posV
     have HN0 := Lib.hid (Box.new w7 [.slice none 0 0, .slice none 0 0, .slice none 0 0, .int .i64 0, .int .i64 0] 66)
     go_wp2_with (refine wpList_store_box (vs := [.slice pa (beginZ R).cells.length pc, .slice pa0 (beginZ R).h0.length pc0, .slice pa1 (beginZ R).h1.length pc1, .int .i64 (beginZ R).turn, .int .i64 (beginZ R).quiet]) (by rfl) 66 (.tmp 4) (.tmp 42) w7.heap.size (by rfl) [.slice pa (beginZ R).cells.length pc, .slice pa0 (beginZ R).h0.length pc0, .slice pa1 (beginZ R).h1.length pc1, .int .i64 (beginZ R).turn, .int .i64 (beginZ R).quiet] (by rfl) (by rfl) HN0.out rfl (by kernel_rfl) (by rfl) ?_)
     have ha := after_any HS HT HA HC HCl b (c.2.length + 1) (bs c.2) (beginZ R) (.slice pa (beginZ R).cells.length pc) (.slice pa0 (beginZ R).h0.length pc0) (.slice pa1 (beginZ R).h1.length pc1) _ (HD7.out.alloc (.cells #[.slice pa (beginZ R).cells.length pc, .slice pa0 (beginZ R).h0.length pc0, .slice pa1 (beginZ R).h1.length pc1, .int .i64 (beginZ R).turn, .int .i64 (beginZ R).quiet] 66)) (by rw [bs_size]; omega) (HH.out.step (HF7.out.alloc (.cells #[.slice pa (beginZ R).cells.length pc, .slice pa0 (beginZ R).h0.length pc0, .slice pa1 (beginZ R).h1.length pc1, .int .i64 (beginZ R).turn, .int .i64 (beginZ R).quiet] 66))) (HP7.out.step ((Fr.refl _ _).alloc (.cells #[.slice pa (beginZ R).cells.length pc, .slice pa0 (beginZ R).h0.length pc0, .slice pa1 (beginZ R).h1.length pc1, .int .i64 (beginZ R).turn, .int .i64 (beginZ R).quiet] 66)) (Shr.refl _ _)) (begin_ok HH.out.re) (by rw [bt_bs]; omega)
     obtain ⟨O3, hO3⟩ : ∃ O3, O3 = rAfter R (c.2.length + 1) (beginZ R) c.2 := ⟨_, rfl⟩
     rw [bt_bs, ← hO3] at ha
     unfold afPost at ha
     have HE7a := Lib.hid (HE7.out.alloc (.cells #[.slice pa (beginZ R).cells.length pc, .slice pa0 (beginZ R).h0.length pc0, .slice pa1 (beginZ R).h1.length pc1, .int .i64 (beginZ R).turn, .int .i64 (beginZ R).quiet] 66))
     have HF7a := Lib.hid (HF7.out.alloc (.cells #[.slice pa (beginZ R).cells.length pc, .slice pa0 (beginZ R).h0.length pc0, .slice pa1 (beginZ R).h1.length pc1, .int .i64 (beginZ R).turn, .int .i64 (beginZ R).quiet] 66))
     have HTg7a := Lib.hid (HTg7.out.alloc (.cells #[.slice pa (beginZ R).cells.length pc, .slice pa0 (beginZ R).h0.length pc0, .slice pa1 (beginZ R).h1.length pc1, .int .i64 (beginZ R).turn, .int .i64 (beginZ R).quiet] 66))
     have hw7 : w7.heap.size < (w7.alloc (.cells #[.slice pa (beginZ R).cells.length pc, .slice pa0 (beginZ R).h0.length pc0, .slice pa1 (beginZ R).h1.length pc1, .int .i64 (beginZ R).turn, .int .i64 (beginZ R).quiet] 66)).heap.size := by simp
     have hbw7 : bE < w7.heap.size := HE7.out.lt
     refine ha.mono ?_
     clear ha HN0 HP7 HD7 HE7 HF7 HTg7
     generalize (w7.alloc (.cells #[.slice pa (beginZ R).cells.length pc, .slice pa0 (beginZ R).h0.length pc0, .slice pa1 (beginZ R).h1.length pc1, .int .i64 (beginZ R).turn, .int .i64 (beginZ R).quiet] 66)) = w8 at *
     rcases O3 with n | k
     ·rintro e w9 ⟨hf9, rfl⟩
      have HE9 := Lib.hid (HE7a.out.held hf9 (show ¬ bE = b by omega))
      have HF9 := Lib.hid (HF7a.out.trans hf9 (Shr.refl _ _))
      have HOE : Hid (O = .error n) := Lib.hid (by rw [HOB.out]; unfold rBody; rw [HCE.out]; dsimp only; rw [← hO3])
      try go_wp2_with fail
      refine leaves_cons (f := 49) (args := #[.pointer (some ⟨bE, 0, none⟩)]) (by simp) (by simp [go_sem]) ?_
      refine (catch_wrong ⟨bE, 0, none⟩ 0 n _ ((HE9.out).cell 0 rfl) ((HE9.out).frozen 0) (HE9.out).lt).mono ?_
      rintro e u' w'' ⟨rfl, rfl, wd, hbd, rfl⟩
      have hcd := (((HE9.out).stays hbd).set 0 (.int .i64 (n))).cell 0 rfl
      have HFD := Lib.hid ((HF9.out).trans (Fr.of_new (S := (· = b)) hbd) (Shr.refl _ _))
      clear hbd
      simp [Leaves, settle, results, Tryz.results26, go_sem, hcd]
      exact ⟨HFD.out.setNew (by show w.heap.size ≤ bE; omega) _, by rw [HOE.out]⟩
     ·rintro e w9 ⟨hf9, v9, us, rfl, ho9, hbr9, D9⟩
      have hk2 : k.2.length ≤ c.2.length := (rest_le R _).1 _ _ _ (begin_ok HH.out.re) hO3.symm
      have HO3 := Lib.hid hO3
      have HE9 := Lib.hid (HE7a.out.held hf9 (show ¬ bE = b by omega))
      have HF9 := Lib.hid (HF7a.out.trans hf9 (Shr.refl _ _))
      have HTg9 := Lib.hid (own_of_block (w' := w9) HTg7a.out (fun j hj => hf9.block j (HTg7a.out.lt j hj).2 (show ¬ j = b by have := (HTg7a.out.lt j hj).1; omega)))
      have HBr9 := Lib.hid hbr9
      have HO9 := Lib.hid ho9
      have HW9 := Lib.hid (word_any HT HA b (bs k.2) w9 D9 (by rw [bs_size]; omega))
      rw [bt_bs] at HW9
      obtain ⟨va, vc', rfl⟩ := own_form2 ho9
      clear hO3 hf9 ho9 hbr9 D9 HE7a HF7a HTg7a
      go_wp2_with (refine HW9.out.mono ?_; rintro e w10 ⟨rfl, D10, hf10⟩)
      have HD10 := Lib.hid D10
      have HF10 := Lib.hid hf10
      clear D10 hf10 HW9
      refine (results_any w10).mono ?_
      rintro e w11 ⟨rfl, hb11⟩
      have HD11 := Lib.hid (HD10.out.stays hb11)
      have HF11 := Lib.hid (HF10.out.trans (Fr.of_new (S := (· = b)) hb11) (Shr.refl _ _))
      clear hb11 HD10 HF10
      have HI := Lib.hid (sIndex_any (bs (wordB (blank k.2))) w11.heap.size _ (Box.new w11 resV 74))
      rw [bt_bs] at HI
      obtain ⟨ri, hri⟩ : ∃ ri, ri = resI (wordB (blank k.2)) := ⟨_, rfl⟩
      rw [← hri] at HI
      have HRI := Lib.hid hri
      clear hri
      by_cases hneg : ri < 0
      ·have HN := Lib.hid hneg
       go_wp2_with (refine HI.out.mono ?_; rintro e w12 ⟨rfl, e12⟩; have HD12 := Lib.hid (show Box w12 b _ RdT by rw [e12]; exact HD11.out.alloc _); have HF12 := Lib.hid (show Fr (· = b) w9 w12 by rw [e12]; exact HF11.out.alloc _); have HE12 := Lib.hid (HE9.out.held HF12.out (show ¬ bE = b by omega)); have c15 := HD12.out.cell 15 rfl; have f15 := HD12.out.frozen 15; have ec := HE12.out.cell 0 rfl; have ef := HE12.out.frozen 0; clear e12)
       have HE13 := Lib.hid ((HE12.out.far ⟨b, 15, none⟩ (.int .i64 ri) (show bE ≠ b by omega)).set 0 (.int .i64 5))
       have HF13 := Lib.hid (((HF9.out.trans HF12.out (Shr.refl _ _)).setCell (p := ⟨b, 15, none⟩) rfl (.int .i64 ri)).setNew (p := ⟨bE, 0, none⟩) (by show w.heap.size ≤ bE; omega) (.int .i64 5))
       have HOE : Hid (O = .error 5) := Lib.hid (by rw [HOB.out]; unfold rBody; rw [HCE.out]; dsimp only; rw [← HO3.out]; dsimp only; rw [if_pos (by rw [← HRI.out]; exact HN.out)])
       refine leaves_cons (f := 49) (args := #[.pointer (some ⟨bE, 0, none⟩)]) (by simp) (by simp [go_sem]) ?_
       refine (catch_idle ⟨bE, 0, none⟩ _).mono ?_
       rintro e u' w'' ⟨rfl, rfl, hbd⟩
       have hcd := ((HE13.out).stays hbd).cell 0 rfl
       have HFD := Lib.hid ((HF13.out).trans (Fr.of_new (S := (· = b)) hbd) (Shr.refl _ _))
       clear hbd
       simp [Leaves, settle, results, Tryz.results26, go_sem, hcd]
       exact ⟨HFD.out, by rw [HOE.out]⟩
      ·have HN := Lib.hid hneg
       have hz1 : ((bs (wordB (blank k.2))).size : Int) ≤ ((bs (blank k.2)).size : Int) := by rw [bs_size, bs_size]; have := wordB_le (blank k.2); omega
       go_wp2_with (refine HI.out.mono ?_; rintro e w12 ⟨rfl, e12⟩; have HD12 := Lib.hid (show Box w12 b _ RdT by rw [e12]; exact HD11.out.alloc _); have HF12 := Lib.hid (show Fr (· = b) w9 w12 by rw [e12]; exact HF11.out.alloc _); have HE12 := Lib.hid (HE9.out.held HF12.out (show ¬ bE = b by omega)); have c15 := HD12.out.cell 15 rfl; have f15 := HD12.out.frozen 15; have ec := HE12.out.cell 0 rfl; have ef := HE12.out.frozen 0; clear e12; have c11 := HD12.out.cell 11 rfl; have f11 := HD12.out.frozen 11)
       have HD13 := Lib.hid ((HD12.out.set 15 (.int .i64 ri)).set 11 (.string ((bs (blank k.2)).extract (bs (wordB (blank k.2))).size (bs (blank k.2)).size)))
       have hbk := blank_any HT b _ _ HD13.out
       obtain ⟨t2, ht2⟩ : ∃ t2, t2 = blank ((blank k.2).drop (wordB (blank k.2)).length) := ⟨_, rfl⟩
       have hex : blank (bt ((bs (blank k.2)).extract (bs (wordB (blank k.2))).size (bs (blank k.2)).size)) = t2 := by rw [bs_drop, bt_bs, bs_size, ht2]
       rw [hex] at hbk
       have HF13 := Lib.hid (((HF12.out.setCell (p := ⟨b, 15, none⟩) rfl (.int .i64 ri))).setCell (p := ⟨b, 11, none⟩) rfl (.string ((bs (blank k.2)).extract (bs (wordB (blank k.2))).size (bs (blank k.2)).size)))
       refine hbk.mono ?_
       clear hbk hex HD13 c15 f15 ec ef c11 f11
       rintro e w14 ⟨rfl, D14, hf14⟩
       have HF14 := Lib.hid (HF13.out.trans hf14 (Shr.refl _ _))
       have HE14 := Lib.hid (HE9.out.held HF14.out (show ¬ bE = b by omega))
       have HD14 := Lib.hid D14
       have c11 := D14.cell 11 rfl
       have ec := HE14.out.cell 0 rfl
       have ef := HE14.out.frozen 0
       clear D14 hf14 HF13 HE12 HF12 HD12
       by_cases h2 : t2 = []
       ·have hemp : (bs t2).toList.isEmpty = true := by rw [h2, Lib.toList_data]; rfl
        have HOK : Hid (O = .ok ⟨ts, bs c.1, flatL k.1 (-1) [], ri⟩) := Lib.hid (by rw [HOB.out]; unfold rBody; rw [HCE.out]; dsimp only; rw [← HO3.out]; dsimp only; rw [if_neg (by rw [← HRI.out]; have := HN.out; omega), if_neg (by rw [← ht2, h2]; simp), ← HRI.out])
        clear h2 ht2
        go_wp2_with fail
        have hcn := (rest_cnt R _).1 _ _ _ (begin_ok HH.out.re) HO3.out.symm
        have hks := brs_move (q' := fun _ => True) (w' := w14) (fun j h1 h2 _ => ⟨HF14.out.block j h2 (show ¬ j = b by omega), trivial⟩) _ _ HBr9.out
        have hrow := own_of_block (w' := w14) HO9.out (fun j hj => HF14.out.block j (HO9.out.lt j hj).2 (show ¬ j = b by have := (HO9.out.lt j hj).1; omega))
        have hfl := rflat_any (s := bs t2) w14 b w8.heap.size (by omega) HD14.out.lt (cnt k.1 + 1) k.1 (.slice va us.length vc') us (-1) [] (.slice none 0 0) w14 (by omega) hks hrow (by simp; omega) ⟨Fr.refl _ _, HD14.out, World.ownsRow_nil _ _ _ _⟩
        have HTg14 := Lib.hid (own_of_block (w' := w14) HTg9.out (fun j hj => HF14.out.block j (HTg9.out.lt j hj).2 (show ¬ j = b by have := (HTg9.out.lt j hj).1; omega)))
        have hbE14 : bE < w14.heap.size := HE14.out.lt
        refine hfl.mono ?_
        clear hfl hks hrow ec ef c11
        rintro e w15 ⟨rfl, nv, hfr⟩
        have HFl := Lib.hid hfr
        have HE15 := Lib.hid (HE14.out.held hfr.old (show ¬ bE = b by omega))
        have HTg15 := Lib.hid (own_of_block (w' := w15) HTg14.out (fun j hj => hfr.old.block j (HTg14.out.lt j hj).2 (show ¬ j = b by have := (HTg14.out.lt j hj).1; omega)))
        have ec := HE15.out.cell 0 rfl
        have ef := HE15.out.frozen 0
        have hw14 : w.heap.size ≤ w14.heap.size := (HF9.out.trans HF14.out (Shr.refl _ _)).size
        clear hfr HTg14
        go_wp2_with fail
        have HE16 := Lib.hid (HE15.out.set 0 (.int .i64 0))
        have HD16 := Lib.hid (HFl.out.hO.far ⟨bE, 0, none⟩ (.int .i64 0) (show b ≠ bE by omega))
        have HT16 := Lib.hid (own_of_block (w' := w15.setCell ⟨bE, 0, none⟩ (.int .i64 0)) HTg15.out (fun j hj => Below.heap_setCell w15 _ _ j (by show j ≠ bE; have := (HTg15.out.lt j hj).1; omega)))
        have HN16 := Lib.hid (own_of_block (w' := w15.setCell ⟨bE, 0, none⟩ (.int .i64 0)) HFl.out.row (fun j hj => Below.heap_setCell w15 _ _ j (by show j ≠ bE; have := (HFl.out.row.lt j hj).1; omega)))
        have HF16 := Lib.hid (((HF9.out.trans HF14.out (Shr.refl _ _)).trans HFl.out.old (Shr.refl _ _)).setNew (p := ⟨bE, 0, none⟩) (by show w.heap.size ≤ bE; omega) (.int .i64 0))
        refine leaves_cons (f := 49) (args := #[.pointer (some ⟨bE, 0, none⟩)]) (by simp) (by simp [go_sem]) ?_
        refine (catch_idle ⟨bE, 0, none⟩ _).mono ?_
        rintro e u' w'' ⟨rfl, rfl, hbd⟩
        have hcd := (HE16.out.stays hbd).cell 0 rfl
        have HFD := Lib.hid (HF16.out.trans (Fr.of_new (S := (· = b)) hbd) (Shr.refl _ _))
        have HDD := Lib.hid (HD16.out.stays hbd)
        have HTD := Lib.hid (own_base (b' := w.heap.size) (own_stays HT16.out hbd) (by omega))
        have HND := Lib.hid (own_base (b' := w.heap.size) (own_stays HN16.out hbd) (by omega))
        clear hbd
        simp [Leaves, settle, results, Tryz.results26, go_sem, hcd]
        exact ⟨HFD.out, by rw [HOK.out]; exact ⟨rfl, _, nv, _, HDD.out, HTD.out, HND.out⟩⟩
       ·have hemp : (bs t2).toList.isEmpty = false := by
         rw [Lib.toList_data]
         show t2.isEmpty = false
         cases t2 with
         | nil => exact absurd rfl h2
         | cons _ _ => rfl
        have HOE : Hid (O = .error 5) := Lib.hid (by rw [HOB.out]; unfold rBody; rw [HCE.out]; dsimp only; rw [← HO3.out]; dsimp only; rw [if_neg (by rw [← HRI.out]; have := HN.out; omega), if_pos (by rw [← ht2]; exact h2)])
        clear h2 ht2
        go_wp2_with fail
        have HE15 := Lib.hid (HE14.out.set 0 (.int .i64 5))
        have HF15 := Lib.hid ((HF9.out.trans HF14.out (Shr.refl _ _)).setNew (p := ⟨bE, 0, none⟩) (by show w.heap.size ≤ bE; omega) (.int .i64 5))
        refine leaves_cons (f := 49) (args := #[.pointer (some ⟨bE, 0, none⟩)]) (by simp) (by simp [go_sem]) ?_
        refine (catch_idle ⟨bE, 0, none⟩ _).mono ?_
        rintro e u' w'' ⟨rfl, rfl, hbd⟩
        have hcd := ((HE15.out).stays hbd).cell 0 rfl
        have HFD := Lib.hid ((HF15.out).trans (Fr.of_new (S := (· = b)) hbd) (Shr.refl _ _))
        clear hbd
        simp [Leaves, settle, results, Tryz.results26, go_sem, hcd]
        exact ⟨HFD.out, by rw [HOE.out]⟩
end Go.Proofs.YthklhndcdijneaaGreatDoor

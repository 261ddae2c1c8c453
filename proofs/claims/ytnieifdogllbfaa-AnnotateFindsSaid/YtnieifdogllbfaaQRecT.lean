/- RecT, RecU, RecL, RecN, RecK, in one text. -/
import Derived.Test.YtnieifdogllbfaaQRecA
import Derived.Test.YtnieifdogllbfaaEngIdx
import Derived.Deep.QuietTactic
import Derived.BigQuiet
import Derived.Deep.Cut
import Derived.Test.YtnieifdogllbfaaGmC
import Derived.Test.YtnieifdogllbfaaHeldL
import Derived.Deep.CutRange
/- slices.IndexFunc, ContainsFunc at tags and nodes of a record. -/
namespace Go.Proofs.Ytnieifdogllbfaa
open Go.ChangeShapes Go.WideShapes Go.ChangeAt Go.RowKit
set_option linter.unusedVariables false

theorem IndexFunc_tg (v : Value) (xs : List TagZ) (p : TagZ → Bool) (f : FuncId) (caps : Array Value) (w : World) (h : RdL tagEl w v xs) (hf : ∀ (args : Array Value) (w : World), (callFunc f args).run Try.prog w = .ok (.enter f args) w)
    (hc : ∀ (W : World) (x : TagZ) (cs : List Value), x ∈ xs → tagEl.E W x cs → Below w.heap.size w W → Calls Try.prog f (#[.agg cs.toArray] ++ caps) W fun e w' => e = .returned (.bool (p x)) ∧ Below W.heap.size W w') :
    Calls Try.prog 51 #[v, .func (.func f) #[] caps] w fun e w' => e = .returned (.int .i64 (idxL p xs 0)) ∧ Below w.heap.size w w' := by
  obtain ⟨a, c, rfl, h1, h2⟩ := h.form
  unfold maxLen at h2
  have HR := Lib.hid h
  have HC := Lib.hid hc
  clear h hc
  go_enter Try.func51, Try.ntmps51
  go_wp2_with fail
  go_loopw [8, 5] (fun i v5 wr => ∃ (k : Nat) (o5 : Value), o5 = v5 ∧ k ≤ xs.length ∧ i = .int .i64 k ∧ Hid (idxL p xs 0 = idxL p (xs.drop k) k) ∧ Below w.heap.size w wr) (fun i _ _ => xs.length - (intOf i).toNat)
  case atStart => exact ⟨0, _, rfl, Nat.zero_le _, rfl, Lib.hid rfl, Below.refl _ _⟩
  case round =>
    obtain ⟨k, o5, rfl, hk, rfl, HK, hbl⟩ := hrel
    by_cases hlt : k < xs.length
    · obtain ⟨g, o, rfl, hg, hcc⟩ := (HR.out.below hbl (Nat.le_refl _)).some (by omega)
      obtain ⟨cs, hE, hcell⟩ := hcc k hlt
      have hcl := tagEl.len hE
      simp only [tagEl] at hcl
      obtain ⟨c0, c1, rfl⟩ : ∃ c0 c1, cs = [c0, c1] := by
        match cs, hcl with
        | [c0, c1], _ => exact ⟨_, _, rfl⟩
      have q0 := hcell 0 (by decide)
      have q1 := hcell 1 (by decide)
      simp only [tagEl, List.getElem?_cons_zero, List.getElem?_cons_succ, Nat.add_zero] at q0 q1
      have HS := Lib.hid (idxL_step p xs k hlt)
      have HCk := Lib.hid (HC.out wr xs[k] [c0, c1] (List.getElem_mem hlt) hE hbl)
      have HB := Lib.hid hbl
      clear hcell hcc hE hcl hbl
      generalize xs[k] = x at *
      go_wp2_with fail
      refine HCk.out.mono ?_
      rintro e w1 ⟨rfl, hb1⟩
      have HB1 := Lib.hid (below_trans HB.out hb1 HB.out.size)
      clear hb1
      cases hpx : p x
      · go_wp2_with fail
        go_roundw
        case rel => exact ⟨k + 1, _, rfl, by omega, by go_num, Lib.hid (by rw [HK.out, HS.out, if_neg (by simp [hpx])]), HB1.out⟩
        case measure => simp [intOf]; omega
      · go_wp2_with fail
        go_ret
        exact ⟨by rw [HK.out, HS.out, if_pos hpx]; rfl, HB1.out⟩
    · obtain rfl : k = xs.length := by omega
      go_wp2_with fail
      go_ret
      exact ⟨by rw [HK.out]; simp [idxL], hbl⟩

theorem ContainsFunc_tg (v : Value) (xs : List TagZ) (p : TagZ → Bool) (f : FuncId) (caps : Array Value) (w : World) (h : RdL tagEl w v xs) (hf : ∀ (args : Array Value) (w : World), (callFunc f args).run Try.prog w = .ok (.enter f args) w)
    (hc : ∀ (W : World) (x : TagZ) (cs : List Value), x ∈ xs → tagEl.E W x cs → Below w.heap.size w W → Calls Try.prog f (#[.agg cs.toArray] ++ caps) W fun e w' => e = .returned (.bool (p x)) ∧ Below W.heap.size W w') :
    Calls Try.prog 32 #[v, .func (.func f) #[] caps] w fun e w' => e = .returned (.bool (xs.any p)) ∧ Below w.heap.size w w' := by
  have HI := Lib.hid (IndexFunc_tg v xs p f caps w h hf hc)
  have HA := Lib.hid (idxL_any p xs 0 (by omega))
  clear h hc hf
  go_enter Try.func32, Try.ntmps32
  go_wp2_with fail
  refine HI.out.mono ?_
  rintro e w' ⟨rfl, hb⟩
  go_wp2_with fail
  go_ret
  exact ⟨by rw [← HA.out]; rfl, hb⟩

theorem IndexFunc_nd (v : Value) (xs : List NodeZ) (p : NodeZ → Bool) (f : FuncId) (caps : Array Value) (w : World) (h : RdL nodeEl w v xs) (hf : ∀ (args : Array Value) (w : World), (callFunc f args).run Try.prog w = .ok (.enter f args) w)
    (hc : ∀ (W : World) (x : NodeZ) (cs : List Value), x ∈ xs → nodeEl.E W x cs → Below w.heap.size w W → Calls Try.prog f (#[.agg cs.toArray] ++ caps) W fun e w' => e = .returned (.bool (p x)) ∧ Below W.heap.size W w') :
    Calls Try.prog 52 #[v, .func (.func f) #[] caps] w fun e w' => e = .returned (.int .i64 (idxL p xs 0)) ∧ Below w.heap.size w w' := by
  obtain ⟨a, c, rfl, h1, h2⟩ := h.form
  unfold maxLen at h2
  have HR := Lib.hid h
  have HC := Lib.hid hc
  clear h hc
  go_enter Try.func52, Try.ntmps52
  go_wp2_with fail
  go_loopw [8, 5] (fun i v5 wr => ∃ (k : Nat) (o5 : Value), o5 = v5 ∧ k ≤ xs.length ∧ i = .int .i64 k ∧ Hid (idxL p xs 0 = idxL p (xs.drop k) k) ∧ Below w.heap.size w wr) (fun i _ _ => xs.length - (intOf i).toNat)
  case atStart => exact ⟨0, _, rfl, Nat.zero_le _, rfl, Lib.hid rfl, Below.refl _ _⟩
  case round =>
    obtain ⟨k, o5, rfl, hk, rfl, HK, hbl⟩ := hrel
    by_cases hlt : k < xs.length
    · obtain ⟨g, o, rfl, hg, hcc⟩ := (HR.out.below hbl (Nat.le_refl _)).some (by omega)
      obtain ⟨cs, hE, hcell⟩ := hcc k hlt
      have hcl := nodeEl.len hE
      simp only [nodeEl] at hcl
      obtain ⟨c0, c1, c2, c3, c4, rfl⟩ : ∃ c0 c1 c2 c3 c4, cs = [c0, c1, c2, c3, c4] := by
        match cs, hcl with
        | [c0, c1, c2, c3, c4], _ => exact ⟨_, _, _, _, _, rfl⟩
      have q0 := hcell 0 (by decide)
      have q1 := hcell 1 (by decide)
      have q2 := hcell 2 (by decide)
      have q3 := hcell 3 (by decide)
      have q4 := hcell 4 (by decide)
      simp only [nodeEl, List.getElem?_cons_zero, List.getElem?_cons_succ, Nat.add_zero] at q0 q1 q2 q3 q4
      have HS := Lib.hid (idxL_step p xs k hlt)
      have HCk := Lib.hid (HC.out wr xs[k] [c0, c1, c2, c3, c4] (List.getElem_mem hlt) hE hbl)
      have HB := Lib.hid hbl
      clear hcell hcc hE hcl hbl
      generalize xs[k] = x at *
      go_wp2_with fail
      refine HCk.out.mono ?_
      rintro e w1 ⟨rfl, hb1⟩
      have HB1 := Lib.hid (below_trans HB.out hb1 HB.out.size)
      clear hb1
      cases hpx : p x
      · go_wp2_with fail
        go_roundw
        case rel => exact ⟨k + 1, _, rfl, by omega, by go_num, Lib.hid (by rw [HK.out, HS.out, if_neg (by simp [hpx])]), HB1.out⟩
        case measure => simp [intOf]; omega
      · go_wp2_with fail
        go_ret
        exact ⟨by rw [HK.out, HS.out, if_pos hpx]; rfl, HB1.out⟩
    · obtain rfl : k = xs.length := by omega
      go_wp2_with fail
      go_ret
      exact ⟨by rw [HK.out]; simp [idxL], hbl⟩

theorem ContainsFunc_nd (v : Value) (xs : List NodeZ) (p : NodeZ → Bool) (f : FuncId) (caps : Array Value) (w : World) (h : RdL nodeEl w v xs) (hf : ∀ (args : Array Value) (w : World), (callFunc f args).run Try.prog w = .ok (.enter f args) w)
    (hc : ∀ (W : World) (x : NodeZ) (cs : List Value), x ∈ xs → nodeEl.E W x cs → Below w.heap.size w W → Calls Try.prog f (#[.agg cs.toArray] ++ caps) W fun e w' => e = .returned (.bool (p x)) ∧ Below W.heap.size W w') :
    Calls Try.prog 35 #[v, .func (.func f) #[] caps] w fun e w' => e = .returned (.bool (xs.any p)) ∧ Below w.heap.size w w' := by
  have HI := Lib.hid (IndexFunc_nd v xs p f caps w h hf hc)
  have HA := Lib.hid (idxL_any p xs 0 (by omega))
  clear h hc hf
  go_enter Try.func35, Try.ntmps35
  go_wp2_with fail
  refine HI.out.mono ?_
  rintro e w' ⟨rfl, hb⟩
  go_wp2_with fail
  go_ret
  exact ⟨by rw [← HA.out]; rfl, hb⟩


theorem tagc_any (x : TagZ) (cs : List Value) (k : ByteArray) (B : Nat) (w : World) (hE : tagEl.E w x cs) (h1 : w.cell? ⟨B, 0, none⟩ = some (.string k)) (hB : B < w.heap.size) :
    Calls Try.prog 33 (#[.agg cs.toArray] ++ #[.pointer (some ⟨B, 0, none⟩)]) w fun e w' => e = .returned (.bool (x.key.toList == k.toList)) ∧ Below w.heap.size w w' := by
  obtain ⟨rfl, -⟩ := hE
  obtain ⟨xk, xv⟩ := x
  show Calls Try.prog 33 #[.agg #[.string xk, .string xv], .pointer (some ⟨B, 0, none⟩)] w _
  go_enter Try.func33, Try.ntmps33
  go_wp2
  go_ret
  exact ⟨rfl, (Below.refl _ _).alloc (by go_size) _⟩
theorem callTagc (args : Array Value) (w : World) : (callFunc 33 args).run Try.prog w = .ok (.enter 33 args) w := by kernel_rfl
theorem nodec_any (x : NodeZ) (cs : List Value) (p : Int) (B : Nat) (w : World) (hE : nodeEl.E w x cs) (h1 : w.cell? ⟨B, 0, none⟩ = some (.int .i64 p)) (hB : B < w.heap.size) :
    Calls Try.prog 36 (#[.agg cs.toArray] ++ #[.pointer (some ⟨B, 0, none⟩)]) w fun e w' => e = .returned (.bool (x.parent == p)) ∧ Below w.heap.size w w' := by
  obtain ⟨rfl, -⟩ := hE
  obtain ⟨xp, ⟨m1, m2, m3⟩, xc⟩ := x
  show Calls Try.prog 36 #[.agg #[.int .i64 xp, .int .i64 m1, .int .i64 m2, .int .i64 m3, .string xc], .pointer (some ⟨B, 0, none⟩)] w _
  go_enter Try.func36, Try.ntmps36
  go_wp2
  go_ret
  exact ⟨rfl, (Below.refl _ _).alloc (by go_size) _⟩
theorem callNodec (args : Array Value) (w : World) : (callFunc 36 args).run Try.prog w = .ok (.enter 36 args) w := by kernel_rfl
end Go.Proofs.Ytnieifdogllbfaa
/- record.tags. -/
namespace Go.Proofs.Ytnieifdogllbfaa
open Go.ChangeShapes Go.WideShapes Go.ChangeAt Go.RowKit
set_option linter.unusedVariables false

set_option maxRecDepth 100000 in
set_option maxHeartbeats 4000000 in
theorem tags_any (X : RecZ) (vt vn : Value) (w : World) (h : RdX w X vt vn) (hl : X.tags.length ≤ 10) :
    Calls Try.prog 14 #[recV X vt vn] w fun e w' => e = .returned (.int .i64 (tagsE X.tags)) ∧ Below w.heap.size w w' := by
  obtain ⟨ta, tc, rfl, h1, h2⟩ := h.1.form
  unfold maxLen at h2
  have HR := Lib.hid h.1
  clear h
  unfold recV
  have HE0 : Hid (tagsE X.tags = scanE (tagE X.tags) 0 (X.tags.length - 0)) := Lib.hid rfl
  go_enter Try.func14, Try.ntmps14
  go_upto_region 1 with (fail)
  obtain ⟨bb, hbb⟩ : ∃ bb, bb = w.heap.size := ⟨_, rfl⟩
  have hb0 := (Box.new' w bb [.slice ta X.tags.length tc, .string X.comment, vn, .int .i64 X.result] 30 hbb.symm)
  have HB : Hid (Below bb w (w.alloc (.cells #[.slice ta X.tags.length tc, .string X.comment, vn, .int .i64 X.result] 30))) := Lib.hid (by rw [hbb]; exact (Below.refl w.heap.size w).alloc (Nat.le_refl _) _)
  rw [← hbb]
  have hbb1 : w.heap.size ≤ bb := by omega
  clear hbb
  generalize (w.alloc (.cells #[.slice ta X.tags.length tc, .string X.comment, vn, .int .i64 X.result] 30)) = w0 at *
  have HX := Lib.hid hb0
  have q0 := hb0.cell 0 rfl
  have hw0 := hb0.lt
  clear hb0
  go_wp2_with fail
  go_loopw [8, 3, 4, 13, 18, 23, 28] (fun v8 v3 v4 v13 v18 v23 v28 wr => ∃ (k : Nat) (o3 o4 o13 o18 o23 o28 : Value), o3 = v3 ∧ o4 = v4 ∧ o13 = v13 ∧ o18 = v18 ∧ o23 = v23 ∧ o28 = v28 ∧ k ≤ X.tags.length ∧ v8 = .int .i64 k ∧ Hid (tagsE X.tags = scanE (tagE X.tags) k (X.tags.length - k)) ∧ Hid (Below bb w wr) ∧ Hid (Box wr bb [.slice ta X.tags.length tc, .string X.comment, vn, .int .i64 X.result] 30)) (fun v _ _ _ _ _ _ _ => X.tags.length - (intOf v).toNat)
  case atStart => exact ⟨0, _, _, _, _, _, _, rfl, rfl, rfl, rfl, rfl, rfl, Nat.zero_le _, rfl, HE0, HB, HX⟩
  case round =>
    obtain ⟨k, o3, o4, o13, o18, o23, o28, rfl, rfl, rfl, rfl, rfl, rfl, hk, rfl, HK, HBr, HXr⟩ := hrel
    have hsr := HXr.out.lt
    by_cases hlt : k < X.tags.length
    · obtain ⟨g, o, rfl, hg, hc⟩ := tags_some HR.out (by omega)
      obtain ⟨e0, e1, hs0, hs1⟩ := hc k hlt
      have hgb : g < bb := by omega
      have c0 := (HBr.out.cell (p := ⟨g, o + k * 2, none⟩) hgb).trans e0
      have c1 := (HBr.out.cell (p := ⟨g, o + k * 2 + 1, none⟩) hgb).trans e1
      have HSt := Lib.hid (scanE_step (tagE X.tags) k X.tags.length hlt)
      have HT : Hid (tagE X.tags k = if nameOk (X.tags.getD k default).key = false then 6 else if 40 < (X.tags.getD k default).value.size then 2 else if printB (X.tags.getD k default).value quote = false then 3 else
        if (X.tags.take k).any (fun u => u.key.toList == (X.tags.getD k default).key.toList) = true then 7 else 0) := Lib.hid rfl
      clear hc e0 e1
      generalize (X.tags.getD k default).key = ky at *
      generalize (X.tags.getD k default).value = vl at *
      have hgr : g < wr.heap.size := by omega
      have hkl : (k : Int) < (X.tags.length : Int) := by omega
      go_upto_region 4 with (fail)
      obtain ⟨pb, hpb⟩ : ∃ pb, pb = wr.heap.size := ⟨_, rfl⟩
      rw [← hpb]
      have HP := Lib.hid (Box.new' wr pb [.string ky, .string vl] 77 hpb.symm)
      have HBp := Lib.hid (HBr.out.alloc (by omega) (.cells #[.string ky, .string vl] 77))
      have HXp := Lib.hid (HXr.out.alloc (.cells #[.string ky, .string vl] 77))
      clear HBr HXr c0 c1 hpb
      generalize wr.alloc (.cells #[.string ky, .string vl] 77) = wp at *
      have p0 := HP.out.cell 0 rfl
      have p1 := HP.out.cell 1 rfl
      have q0 := HXp.out.cell 0 rfl
      have hplt := HP.out.lt
      have hbw := HXp.out.lt
      have HNm := Lib.hid (Name_any ky wp hs0)
      have HPr := Lib.hid (printable_any vl quote wp hs1)
      have hbbp : bb ≤ wp.heap.size := by omega
      unfold maxLen at hs0 hs1
      cases hn : nameOk ky
      · have HF : Hid (tagsE X.tags = 6) := Lib.hid (by rw [HK.out, HSt.out, HT.out, if_pos hn]; rfl)
        rw [hn] at HNm
        clear hn HPr HT HK HSt
        go_wp2_with (go_at_call 25; refine HNm.out.mono ?_; rintro e w1 ⟨rfl, rfl⟩)
        go_ret
        exact ⟨by rw [HF.out]; rfl, HBp.out.mono hbb1⟩
      · rw [hn] at HNm
        have HT2 : Hid (tagE X.tags k = if 40 < vl.size then 2 else if printB vl quote = false then 3 else if (X.tags.take k).any (fun u => u.key.toList == ky.toList) = true then 7 else 0) := Lib.hid (by rw [HT.out, if_neg (by rw [hn]; decide)])
        clear hn HT
        by_cases h40 : (40 : Int) < (vl.size : Int)
        · have HF : Hid (tagsE X.tags = 2) := Lib.hid (by rw [HK.out, HSt.out, HT2.out, if_pos (show 40 < vl.size by omega)]; rfl)
          clear HPr HT2 HK HSt
          go_wp2_with (go_at_call 25; refine HNm.out.mono ?_; rintro e w1 ⟨rfl, rfl⟩)
          go_ret
          exact ⟨by rw [HF.out]; rfl, HBp.out.mono hbb1⟩
        · have HT3 : Hid (tagE X.tags k = if printB vl quote = false then 3 else if (X.tags.take k).any (fun u => u.key.toList == ky.toList) = true then 7 else 0) := Lib.hid (by rw [HT2.out, if_neg (show ¬ 40 < vl.size by omega)])
          clear HT2
          unfold quote at HPr HT3
          cases hp : printB vl ⟨#[34]⟩
          · have HF : Hid (tagsE X.tags = 3) := Lib.hid (by rw [HK.out, HSt.out, HT3.out, if_pos hp]; rfl)
            rw [hp] at HPr
            clear hp HT3 HK HSt
            go_wp2_with (first | (go_at_call 25; refine HNm.out.mono ?_; rintro e w1 ⟨rfl, rfl⟩) | (go_at_call 31; refine HPr.out.mono ?_; rintro e w1 ⟨rfl, rfl⟩))
            go_ret
            exact ⟨by rw [HF.out]; rfl, HBp.out.mono hbb1⟩
          · rw [hp] at HPr
            have HT4 : Hid (tagE X.tags k = if (X.tags.take k).any (fun u => u.key.toList == ky.toList) = true then 7 else 0) := Lib.hid (by rw [HT3.out, if_neg (by rw [hp]; decide)])
            have hsl := fun w => run_take (P := Try.prog) (s := 2) Try.underlying27 (fun _ => by kernel_rfl) (some ⟨g, o, none⟩) X.tags.length tc k (by omega) w
            have HCf := Lib.hid (ContainsFunc_tg _ (X.tags.take k) (fun u => u.key.toList == ky.toList) 33 #[.pointer (some ⟨pb, 0, none⟩)] wp ((RdL.take HR.out k (by omega)).below HBp.out hbb1) callTagc (fun W x cs _ hE hb => tagc_any x cs ky pb W hE ((HP.out.stays hb).cell 0 rfl) (HP.out.stays hb).lt))
            clear hp HT3
            generalize (X.tags.take k).any (fun u => u.key.toList == ky.toList) = tw at *
            cases tw
            · go_wp2_with (first | (go_at_call 25; refine HNm.out.mono ?_; rintro e w1 ⟨rfl, rfl⟩) | (go_at_call 31; refine HPr.out.mono ?_; rintro e w1 ⟨rfl, rfl⟩))
              refine HCf.out.mono ?_
              rintro e w5 ⟨rfl, hb5⟩
              have HB5 := Lib.hid (HBp.out.trans (hb5.mono hbbp))
              have HX5 := Lib.hid (HXp.out.stays hb5)
              have HK5 : Hid (tagsE X.tags = scanE (tagE X.tags) (k + 1) (X.tags.length - (k + 1))) := Lib.hid (by rw [HK.out, HSt.out, HT4.out]; rfl)
              clear hb5 HK HSt HT4 hsl
              go_wp2_with fail
              go_roundw
              case rel => exact ⟨k + 1, _, _, _, _, _, _, rfl, rfl, rfl, rfl, rfl, rfl, by omega, by go_num, HK5, HB5, HX5⟩
              case measure => simp [intOf]; omega
            · go_wp2_with (first | (go_at_call 25; refine HNm.out.mono ?_; rintro e w1 ⟨rfl, rfl⟩) | (go_at_call 31; refine HPr.out.mono ?_; rintro e w1 ⟨rfl, rfl⟩))
              refine HCf.out.mono ?_
              rintro e w5 ⟨rfl, hb5⟩
              have HB5 := Lib.hid (HBp.out.trans (hb5.mono hbbp))
              have HF : Hid (tagsE X.tags = 7) := Lib.hid (by rw [HK.out, HSt.out, HT4.out]; rfl)
              clear hb5 HK HSt HT4 hsl
              go_wp2_with fail
              go_ret
              exact ⟨by rw [HF.out]; rfl, HB5.out.mono hbb1⟩
    · obtain rfl : k = X.tags.length := by omega
      have HF : Hid (tagsE X.tags = 0) := Lib.hid (by rw [HK.out, Nat.sub_self]; rfl)
      go_wp2_with fail
      go_ret
      exact ⟨by rw [HF.out]; rfl, HBr.out.mono hbb1⟩
end Go.Proofs.Ytnieifdogllbfaa
/- Records of games as plain data; the node to which the way to a node leads is the node. -/
namespace Go.Proofs.Ytnieifdogllbfaa
open Go.ChangeShapes Go.WideShapes Go.ChangeAt Go.RowKit
set_option linter.unusedVariables false

def nodeE (R : RulesZ) (ns : List NodeZ) (ds : List Int) (i : Nat) : Int :=
  if cmtErr (ndAt ns i).comment ≠ 0 then cmtErr (ndAt ns i).comment else if (i : Int) ≤ (ndAt ns i).parent ∨ onB ns (ndAt ns i).parent ((i : Int) - 1) = false then 3 else
    if twinB ns i = true then 7 else if runErr R (wayI ns i) ≠ 0 then runErr R (wayI ns i) else if 20 < depE ns ds i then 2 else 0
def nodesE (R : RulesZ) (ns : List NodeZ) : Nat → Nat → List Int → Int
  | 0, _, _ => 0
  | m + 1, i, ds => if nodeE R ns ds i ≠ 0 then nodeE R ns ds i else nodesE R ns m (i + 1) (ds.set i (depE ns ds i))
def recErr (R : RulesZ) (X : RecZ) : Int :=
  if rulesErr R ≠ 0 then rulesErr R else if 10 < X.tags.length ∨ 200 < X.nodes.length then 2 else if tagsE X.tags ≠ 0 then tagsE X.tags else
    if X.result < 0 ∨ 3 < X.result then 4 else if cmtErr X.comment ≠ 0 then cmtErr X.comment else nodesE R X.nodes X.nodes.length 0 (List.replicate X.nodes.length 0)

/-- what a record's nodes are. -/
structure NodesOK (R : RulesZ) (ns : List NodeZ) (i : Nat) : Prop where
  back : Back ns i
  low : ∀ k, k < i → -1 ≤ (ndAt ns k).parent
  twin : ∀ k j, j < k → k < i → (ndAt ns j).parent = (ndAt ns k).parent → (ndAt ns j).m ≠ (ndAt ns k).m
  run : ∀ k : Nat, k < i → runErr R (wayI ns k) = 0
theorem nodeE_zero {R : RulesZ} {ns : List NodeZ} {ds : List Int} {i : Nat} (hi : i < ns.length) (h : NodesOK R ns i) (e : nodeE R ns ds i = 0) : NodesOK R ns (i + 1) := by
  unfold nodeE at e
  by_cases h1 : cmtErr (ndAt ns i).comment ≠ 0
  · rw [if_pos h1] at e; exact absurd e h1
  rw [if_neg h1] at e
  by_cases h2 : (i : Int) ≤ (ndAt ns i).parent ∨ onB ns (ndAt ns i).parent ((i : Int) - 1) = false
  · rw [if_pos h2] at e; cases e
  rw [if_neg h2] at e
  by_cases h3 : twinB ns i = true
  · rw [if_pos h3] at e; cases e
  rw [if_neg h3] at e
  by_cases h4 : runErr R (wayI ns i) ≠ 0
  · rw [if_pos h4] at e; exact absurd e h4
  have hlow : -1 ≤ (ndAt ns i).parent := by
    have ho : onB ns (ndAt ns i).parent ((i : Int) - 1) = true := by
      cases hb : onB ns (ndAt ns i).parent ((i : Int) - 1)
      · exact absurd (.inr hb) h2
      · rfl
    unfold onB at ho
    rw [Bool.or_eq_true, List.any_eq_true] at ho
    rcases ho with ⟨k, -, hk⟩ | hk
    · simp only [beq_iff_eq] at hk; omega
    · simp only [beq_iff_eq] at hk; omega
  refine ⟨fun k hk => ?_, fun k hk => ?_, fun k j hj hk hp => ?_, fun k hk => ?_⟩
  · by_cases ek : k = i
    · subst ek; omega
    · exact h.back k (by omega)
  · by_cases ek : k = i
    · subst ek; exact hlow
    · exact h.low k (by omega)
  · by_cases ek : k = i
    · subst ek
      intro hm
      apply h3
      unfold twinB
      rw [List.any_eq_true]
      have hjl : j < ns.length := by omega
      refine ⟨ns[j], ?_, ?_⟩
      · rw [List.mem_take_iff_getElem]
        exact ⟨j, by omega, rfl⟩
      · have e1 : ndAt ns j = ns[j] := by unfold ndAt; rw [List.getD_eq_getElem?_getD, List.getElem?_eq_getElem hjl]; rfl
        rw [← e1, hp, hm]
        simp
    · exact h.twin k j hj (by omega) hp
  · by_cases ek : k = i
    · subst ek
      cases Classical.em (runErr R (wayI ns (k : Int)) = 0) with
      | inl h => exact h
      | inr h => exact absurd h h4
    · exact h.run k (by omega)
theorem nodesE_zero {R : RulesZ} {ns : List NodeZ} : ∀ (m i : Nat) (ds : List Int), i + m = ns.length → NodesOK R ns i → nodesE R ns m i ds = 0 → NodesOK R ns ns.length
  | 0, i, ds, hm, h, _ => by rw [← hm]; exact h
  | m + 1, i, ds, hm, h, e => by
    rw [nodesE] at e
    by_cases h1 : nodeE R ns ds i ≠ 0
    · rw [if_pos h1] at e; exact absurd e h1
    · rw [if_neg h1] at e
      have h0 : nodeE R ns ds i = 0 := by
        cases Classical.em (nodeE R ns ds i = 0) with
        | inl h => exact h
        | inr h => exact absurd h h1
      exact nodesE_zero m (i + 1) _ (by omega) (nodeE_zero (by omega) h h0) e
theorem rec_nodes {R : RulesZ} {X : RecZ} (h : recErr R X = 0) : rulesErr R = 0 ∧ NodesOK R X.nodes X.nodes.length ∧ X.nodes.length ≤ 200 := by
  unfold recErr at h
  by_cases h1 : rulesErr R ≠ 0
  · rw [if_pos h1] at h; exact absurd h h1
  rw [if_neg h1] at h
  have h1 : rulesErr R = 0 := by
    cases Classical.em (rulesErr R = 0) with
    | inl h => exact h
    | inr h => exact absurd h h1
  by_cases h2 : 10 < X.tags.length ∨ 200 < X.nodes.length
  · rw [if_pos h2] at h; cases h
  rw [if_neg h2] at h
  by_cases h3 : tagsE X.tags ≠ 0
  · rw [if_pos h3] at h; exact absurd h h3
  rw [if_neg h3] at h
  by_cases h4 : X.result < 0 ∨ 3 < X.result
  · rw [if_pos h4] at h; cases h
  rw [if_neg h4] at h
  by_cases h5 : cmtErr X.comment ≠ 0
  · rw [if_pos h5] at h; exact absurd h h5
  rw [if_neg h5] at h
  exact ⟨h1, nodesE_zero _ 0 _ (by omega) ⟨fun k hk => absurd hk (Nat.not_lt_zero _), fun k hk => absurd hk (Nat.not_lt_zero _), fun k _ _ hk => absurd hk (Nat.not_lt_zero _), fun k hk => absurd hk (Nat.not_lt_zero _)⟩ h, by omega⟩
/-- ways tell nodes apart. -/
theorem way_inj {R : RulesZ} {ns : List NodeZ} {n : Nat} (h : NodesOK R ns n) : ∀ (N i j : Nat), i < N → i < n → j < n → wayI ns (i : Int) = wayI ns (j : Int) → i = j
  | 0, i, _, hN, _, _, _ => absurd hN (Nat.not_lt_zero _)
  | N + 1, i, j, hN, hi, hj, e => by
    rw [way_snoc h.back i hi, way_snoc h.back j hj] at e
    obtain ⟨e1, e2⟩ := List.append_inj' e rfl
    have hm : (ndAt ns i).m = (ndAt ns j).m := by simpa using e2
    have hbi := h.back i hi
    have hbj := h.back j hj
    have hli := h.low i hi
    have hlj := h.low j hj
    have hp : (ndAt ns i).parent = (ndAt ns j).parent := by
      rcases (by omega : (ndAt ns i).parent = -1 ∨ 0 ≤ (ndAt ns i).parent) with a | a
      · rcases (by omega : (ndAt ns j).parent = -1 ∨ 0 ≤ (ndAt ns j).parent) with b | b
        · rw [a, b]
        · exfalso
          obtain ⟨q, hq⟩ : ∃ q : Nat, (ndAt ns j).parent = (q : Int) := ⟨(ndAt ns j).parent.toNat, by omega⟩
          rw [a, way_neg ns (-1) (by omega), hq, way_snoc h.back q (by omega)] at e1
          simp at e1
      · obtain ⟨p, hp⟩ : ∃ p : Nat, (ndAt ns i).parent = (p : Int) := ⟨(ndAt ns i).parent.toNat, by omega⟩
        rcases (by omega : (ndAt ns j).parent = -1 ∨ 0 ≤ (ndAt ns j).parent) with b | b
        · exfalso
          rw [b, way_neg ns (-1) (by omega), hp, way_snoc h.back p (by omega)] at e1
          simp at e1
        · obtain ⟨q, hq⟩ : ∃ q : Nat, (ndAt ns j).parent = (q : Int) := ⟨(ndAt ns j).parent.toNat, by omega⟩
          rw [hp, hq] at e1
          rw [hp, hq, way_inj h N p q (by omega) (by omega) (by omega) e1]
    rcases Nat.lt_trichotomy i j with hlt | heq | hgt
    · exact absurd hm (h.twin j i hlt hj hp)
    · exact heq
    · exact absurd hm.symm (h.twin i j hgt hi hp.symm)
end Go.Proofs.Ytnieifdogllbfaa
/- record.node. -/
namespace Go.Proofs.Ytnieifdogllbfaa
open Go.ChangeShapes Go.WideShapes Go.ChangeAt Go.RowKit
set_option linter.unusedVariables false

/-- what record.node works on: the rules' and the record's variables, and deep. -/
structure NdSt (B : Nat) (W0 w : World) (R : RulesZ) (vp vs ve : Value) (X : RecZ) (vt vn : Value) (bR bX db dc : Nat) (ds : List Int) : Prop where
  low : Below B W0 w
  boxR : Box w bR [.string R.name, .int .i64 R.width, .int .i64 R.height, vp, vs, .bool R.falls, .bool R.keeps, ve, .int .i64 R.blocked, .int .i64 R.quiet, .int .i64 R.rept] 26
  boxX : Box w bX [vt, .string X.comment, vn, .int .i64 X.result] 30
  dp : w.ownsRow B 3 1 (.slice (some ⟨db, 0, none⟩) X.nodes.length dc) X.nodes.length (ints ds)
  neR : bR ≠ db
  neX : bX ≠ db
theorem NdSt.size {B : Nat} {W0 w : World} {R : RulesZ} {vp vs ve : Value} {X : RecZ} {vt vn : Value} {bR bX db dc : Nat} {ds : List Int} (h : NdSt B W0 w R vp vs ve X vt vn bR bX db dc ds) : B ≤ db ∧ db < w.heap.size := h.dp.lt db rfl
theorem NdSt.len {B : Nat} {W0 w : World} {R : RulesZ} {vp vs ve : Value} {X : RecZ} {vt vn : Value} {bR bX db dc : Nat} {ds : List Int} (h : NdSt B W0 w R vp vs ve X vt vn bR bX db dc ds) : ds.length = X.nodes.length := by
  have := h.dp.1; rw [ints_len] at this; omega
theorem NdSt.stays {B : Nat} {W0 w w' : World} {R : RulesZ} {vp vs ve : Value} {X : RecZ} {vt vn : Value} {bR bX db dc : Nat} {ds : List Int} (h : NdSt B W0 w R vp vs ve X vt vn bR bX db dc ds) (hb : Below w.heap.size w w') : NdSt B W0 w' R vp vs ve X vt vn bR bX db dc ds :=
  ⟨h.low.trans (hb.mono (by have := h.size; omega)), h.boxR.stays hb, h.boxX.stays hb, own_stays h.dp hb, h.neR, h.neX⟩
theorem NdSt.set {B : Nat} {W0 w : World} {R : RulesZ} {vp vs ve : Value} {X : RecZ} {vt vn : Value} {bR bX db dc : Nat} {ds : List Int} (h : NdSt B W0 w R vp vs ve X vt vn bR bX db dc ds) (i : Nat) (v : Int) : NdSt B W0 (w.setCell ⟨db, i, none⟩ (.int .i64 v)) R vp vs ve X vt vn bR bX db dc (ds.set i v) := by
  have := h.size
  refine ⟨h.low.setCell (p := ⟨db, i, none⟩) this.1 _, h.boxR.far ⟨db, i, none⟩ _ h.neR, h.boxX.far ⟨db, i, none⟩ _ h.neX, ?_, h.neR, h.neX⟩
  rw [← ints_set]
  exact (h.dp.stored i (.int .i64 v)).1
theorem NdSt.far {B : Nat} {W0 w : World} {R : RulesZ} {vp vs ve : Value} {X : RecZ} {vt vn : Value} {bR bX db dc : Nat} {ds : List Int} (h : NdSt B W0 w R vp vs ve X vt vn bR bX db dc ds) (b k : Nat) (v : Value) (hB : B ≤ b) (h1 : b ≠ bR) (h2 : b ≠ bX) (h3 : b ≠ db) : NdSt B W0 (w.setCell ⟨b, k, none⟩ v) R vp vs ve X vt vn bR bX db dc ds :=
  ⟨h.low.setCell (p := ⟨b, k, none⟩) hB _, h.boxR.far ⟨b, k, none⟩ _ (fun e => h1 e.symm), h.boxX.far ⟨b, k, none⟩ _ (fun e => h2 e.symm), ownsRow_setCell_other h.dp (by simp [Value.ownBlock]; exact fun e => h3 e.symm) _, h.neR, h.neX⟩
theorem set_same (l : List Int) (i : Nat) : l.set i (l.getD i 0) = l := by
  apply List.ext_getElem?
  intro k
  rw [List.getElem?_set]
  by_cases e : i = k
  · subst e
    by_cases h : i < l.length
    · simp [h]
    · simp [h]
  · rw [if_neg e]
theorem any_step {α : Type} (p : α → Bool) (l : List α) (k : Nat) (h : k < l.length) : (l.drop k).any p = (p l[k] || (l.drop (k + 1)).any p) := by
  rw [List.drop_eq_getElem_cons h, List.any_cons]
/-- plain.Run's answer, with its position's cells told. -/
theorem Run_code (HS : SortMvSaid) (R : RulesZ) (vp vs ve : Value) (v : Value) (l : List MoveZ) (w : World) (hr : RdR w R vp vs ve) (hnm : R.name.size ≤ maxLen) (hl : RdL moveEl w v l) :
    Calls Try.prog 10 #[(.agg #[.string R.name, .int .i64 R.width, .int .i64 R.height, vp, vs, .bool R.falls, .bool R.keeps, ve, .int .i64 R.blocked, .int .i64 R.quiet, .int .i64 R.rept]), v] w fun e w' => Below w.heap.size w w' ∧ ∃ (a1 a2 a3 : Option Addr) (n1 c1 n2 c2 n3 c3 : Nat) (x y rv : Int), e = .returned (.tuple #[.agg #[.slice a1 n1 c1, .slice a2 n2 c2, .slice a3 n3 c3, .int .i64 x, .int .i64 y], .int .i64 rv, .int .i64 (runErr R l)]) := by
  refine (PRun_any HS R vp vs ve v l w hr hnm hl).mono fun e w' hp => ?_
  rcases hp with ⟨-, rfl, hb⟩ | ⟨h0, -, -, -, vc, v0, v1, rfl, ho, hb⟩
  · exact ⟨hb, none, none, none, 0, 0, 0, 0, 0, 0, 0, 0, 0, rfl⟩
  · obtain ⟨h1, h2, h3, -⟩ := ho
    obtain ⟨a1, c1, rfl⟩ := own_form2 h1
    obtain ⟨a2, c2, rfl⟩ := own_form2 h2
    obtain ⟨a3, c3, rfl⟩ := own_form2 h3
    exact ⟨hb, a1, a2, a3, _, c1, _, c2, _, c3, _, _, _, by rw [h0]; rfl⟩
def NodePost (R : RulesZ) (X : RecZ) (ds : List Int) (i B db dc : Nat) (W0 : World) (e : Ending) (w' : World) : Prop :=
  e = .returned (.int .i64 (nodeE R X.nodes ds i)) ∧ Below B W0 w' ∧ (nodeE R X.nodes ds i = 0 → w'.ownsRow B 3 1 (.slice (some ⟨db, 0, none⟩) X.nodes.length dc) X.nodes.length (ints (ds.set i (depE X.nodes ds i))))
set_option maxRecDepth 100000 in
set_option maxHeartbeats 16000000 in
theorem node_any (HS : SortMvSaid) (R : RulesZ) (vp vs ve : Value) (X : RecZ) (vt vn : Value) (ds : List Int) (B db dc i : Nat) (W0 w : World) (hr : RdR W0 R vp vs ve) (hnm : R.name.size ≤ maxLen) (hx : RdX W0 X vt vn)
    (hB : W0.heap.size ≤ B) (hl : Below B W0 w) (ho : w.ownsRow B 3 1 (.slice (some ⟨db, 0, none⟩) X.nodes.length dc) X.nodes.length (ints ds)) (hi : i < X.nodes.length) (h2 : X.nodes.length ≤ 200) (hb : Back X.nodes i)
    (hd : ∀ k, 0 ≤ ds.getD k 0 ∧ ds.getD k 0 ≤ 20) :
    Calls Try.prog 16 #[(.agg #[.string R.name, .int .i64 R.width, .int .i64 R.height, vp, vs, .bool R.falls, .bool R.keeps, ve, .int .i64 R.blocked, .int .i64 R.quiet, .int .i64 R.rept]), recV X vt vn, .int .i64 i, .slice (some ⟨db, 0, none⟩) X.nodes.length dc] w (NodePost R X ds i B db dc W0) := by
  have HSh := Lib.hid HS
  have HR := Lib.hid hr
  have HN := Lib.hid hnm
  have HX := Lib.hid hx
  have HK := Lib.hid hb
  have HD := Lib.hid hd
  obtain ⟨na, nc, rfl, hn1, hn2⟩ := hx.2.1.form
  unfold maxLen at hn2
  obtain ⟨g, o, rfl, hg, hc⟩ := nodes_some HX.out.2.1 (by omega)
  have HC := Lib.hid hc
  have HE : Hid (nodeE R X.nodes ds i = if cmtErr (ndAt X.nodes i).comment ≠ 0 then cmtErr (ndAt X.nodes i).comment else if (i : Int) ≤ (ndAt X.nodes i).parent ∨ onB X.nodes (ndAt X.nodes i).parent ((i : Int) - 1) = false then 3 else
    if twinB X.nodes i = true then 7 else if runErr R (wayI X.nodes i) ≠ 0 then runErr R (wayI X.nodes i) else if 20 < depE X.nodes ds i then 2 else 0) := Lib.hid rfl
  have HDp : Hid (depE X.nodes ds i = (if 0 ≤ (ndAt X.nodes i).parent then ds.getD (ndAt X.nodes i).parent.toNat 0 else ds.getD i 0) + (if sibB X.nodes i = true then 1 else 0)) := Lib.hid rfl
  have HTw : Hid (twinB X.nodes i = (X.nodes.take i).any fun y => y.parent == (ndAt X.nodes i).parent && y.m == (ndAt X.nodes i).m) := Lib.hid rfl
  have HSb : Hid (sibB X.nodes i = (X.nodes.take i).any fun y => y.parent == (ndAt X.nodes i).parent) := Lib.hid rfl
  obtain ⟨e0, e1, e2, e3, e4, hcs⟩ := hc i hi
  have HC2 : Hid (∀ w', Below B W0 w' → w'.cell? ⟨g, o + i * 5, none⟩ = some (.int .i64 (ndAt X.nodes i).parent) ∧ w'.cell? ⟨g, o + i * 5 + 1, none⟩ = some (.int .i64 (ndAt X.nodes i).m.src) ∧ w'.cell? ⟨g, o + i * 5 + 2, none⟩ = some (.int .i64 (ndAt X.nodes i).m.dst) ∧ w'.cell? ⟨g, o + i * 5 + 3, none⟩ = some (.int .i64 (ndAt X.nodes i).m.piece) ∧ w'.cell? ⟨g, o + i * 5 + 4, none⟩ = some (.string (ndAt X.nodes i).comment)) := Lib.hid (fun w' hb => by
    have hgB : g < B := by omega
    exact ⟨(hb.cell (p := ⟨g, _, none⟩) hgB).trans e0, (hb.cell (p := ⟨g, _, none⟩) hgB).trans e1, (hb.cell (p := ⟨g, _, none⟩) hgB).trans e2, (hb.cell (p := ⟨g, _, none⟩) hgB).trans e3, (hb.cell (p := ⟨g, _, none⟩) hgB).trans e4⟩)
  have hdb := ho.lt db rfl
  have HO := Lib.hid ho
  have HLw := Lib.hid hl
  clear hr hnm hx hb hd hc e0 e1 e2 e3 e4 hl ho HS
  unfold recV
  go_enter Try.func16, Try.ntmps16
  go_upto_region 1 with (fail)
  have hbB : B ≤ w.heap.size := by omega
  obtain ⟨bR, hbR⟩ : ∃ bR, bR = w.heap.size := ⟨_, rfl⟩
  obtain ⟨bX, hbX⟩ : ∃ bX, bX = w.heap.size + 1 := ⟨_, rfl⟩
  have HSt : Hid (NdSt B W0 ((w.alloc (.cells #[.string R.name, .int .i64 R.width, .int .i64 R.height, vp, vs, .bool R.falls, .bool R.keeps, ve, .int .i64 R.blocked, .int .i64 R.quiet, .int .i64 R.rept] 26)).alloc (.cells #[vt, .string X.comment, .slice (some ⟨g, o, none⟩) X.nodes.length nc, .int .i64 X.result] 30)) R vp vs ve X vt (.slice (some ⟨g, o, none⟩) X.nodes.length nc) bR bX db dc ds) := Lib.hid
    ⟨(HLw.out.alloc hbB _).alloc (by rw [World.size_alloc]; omega) _, (Box.new' w bR [.string R.name, .int .i64 R.width, .int .i64 R.height, vp, vs, .bool R.falls, .bool R.keeps, ve, .int .i64 R.blocked, .int .i64 R.quiet, .int .i64 R.rept] 26 hbR.symm).alloc _, Box.new' (w.alloc (.cells #[.string R.name, .int .i64 R.width, .int .i64 R.height, vp, vs, .bool R.falls, .bool R.keeps, ve, .int .i64 R.blocked, .int .i64 R.quiet, .int .i64 R.rept] 26)) bX [vt, .string X.comment, .slice (some ⟨g, o, none⟩) X.nodes.length nc, .int .i64 X.result] 30 (by rw [World.size_alloc, hbX]), (HO.out.alloc _).alloc _, by omega, by omega⟩
  rw [← hbR, show bR + 1 = bX by omega]
  clear hbX hbR HLw HO
  generalize ((w.alloc (.cells #[.string R.name, .int .i64 R.width, .int .i64 R.height, vp, vs, .bool R.falls, .bool R.keeps, ve, .int .i64 R.blocked, .int .i64 R.quiet, .int .i64 R.rept] 26)).alloc (.cells #[vt, .string X.comment, .slice (some ⟨g, o, none⟩) X.nodes.length nc, .int .i64 X.result] 30)) = w0 at *
  have hdl := HSt.out.size
  have hxl := HSt.out.boxX.lt
  have q2 := HSt.out.boxX.cell 2 rfl
  have hgB : g < B := by omega
  obtain ⟨c0, c1, c2, c3, c4⟩ := HC2.out _ HSt.out.low
  have hgw : g < w0.heap.size := by omega
  have hil : (i : Int) < (X.nodes.length : Int) := by omega
  generalize (ndAt X.nodes i).comment = cm at *
  generalize (ndAt X.nodes i).m = mv at *
  generalize hpa : (ndAt X.nodes i).parent = pa at *
  have hpaE := Lib.hid hpa
  clear hpa
  go_upto_region 2 with (fail)
  obtain ⟨bN, hbN⟩ : ∃ bN, bN = w0.heap.size := ⟨_, rfl⟩
  rw [← hbN]
  have HNb := Lib.hid (Box.new' w0 bN [.int .i64 pa, .int .i64 mv.src, .int .i64 mv.dst, .int .i64 mv.piece, .string cm] 71 hbN.symm)
  have HS1 := Lib.hid (HSt.out.stays ((Below.refl w0.heap.size w0).alloc (Nat.le_refl _) (.cells #[.int .i64 pa, .int .i64 mv.src, .int .i64 mv.dst, .int .i64 mv.piece, .string cm] 71)))
  have hNd : bN ≠ db := by omega
  clear hbN HSt c0 c1 c2 c3 c4 q2
  generalize w0.alloc (.cells #[.int .i64 pa, .int .i64 mv.src, .int .i64 mv.dst, .int .i64 mv.piece, .string cm] 71) = w1 at *
  have n4 := HNb.out.cell 4 rfl
  have n0 := HNb.out.cell 0 rfl
  have HCm := Lib.hid (comment_any cm w1 hcs)
  generalize hce : cmtErr cm = ce at *
  clear hce
  go_upto_region 3 with (go_at_call 15; refine HCm.out.mono ?_; rintro e w5 ⟨rfl, rfl⟩)
  by_cases hce : ce = 0
  rotate_left
  · have HF : Hid (nodeE R X.nodes ds i = ce) := Lib.hid (by rw [HE.out, if_pos hce])
    go_wp2_with fail
    go_ret
    exact ⟨by rw [HF.out]; rfl, HS1.out.low, fun e => absurd (HF.out.symm.trans e) hce⟩
  subst hce
  have HE2 : Hid (nodeE R X.nodes ds i = if (i : Int) ≤ pa ∨ onB X.nodes pa ((i : Int) - 1) = false then 3 else
    if twinB X.nodes i = true then 7 else if runErr R (wayI X.nodes i) ≠ 0 then runErr R (wayI X.nodes i) else if 20 < depE X.nodes ds i then 2 else 0) := Lib.hid (by rw [HE.out, if_neg (by decide)])
  clear HE HCm
  have x0 := HS1.out.boxX.cell 0 rfl
  have x1 := HS1.out.boxX.cell 1 rfl
  have x2 := HS1.out.boxX.cell 2 rfl
  have x3 := HS1.out.boxX.cell 3 rfl
  have hxl1 := HS1.out.boxX.lt
  have hnl1 := HNb.out.lt
  by_cases hpi : (i : Int) ≤ pa
  · have HF : Hid (nodeE R X.nodes ds i = 3) := Lib.hid (by rw [HE2.out, if_pos (.inl hpi)])
    go_wp2_with fail
    go_ret
    exact ⟨by rw [HF.out]; rfl, HS1.out.low, fun e => by rw [HF.out] at e; cases e⟩
  have HOn := Lib.hid (on_any X vt (.slice (some ⟨g, o, none⟩) X.nodes.length nc) pa ((i : Int) - 1) i w1 (HX.out.below HS1.out.low hB) HK.out (by omega) (by omega))
  unfold recV at HOn
  cases hob : onB X.nodes pa ((i : Int) - 1)
  · have HF : Hid (nodeE R X.nodes ds i = 3) := Lib.hid (by rw [HE2.out, if_pos (.inr hob)])
    rw [hob] at HOn
    clear hob
    go_wp2_with (go_at_call 34; refine HOn.out.mono ?_; rintro e w5 ⟨rfl, hb5⟩; have HB5 := Lib.hid (HS1.out.stays hb5).low; clear hb5)
    go_ret
    exact ⟨by rw [HF.out]; rfl, HB5.out, fun e => by rw [HF.out] at e; cases e⟩
  have HE3 : Hid (nodeE R X.nodes ds i = if twinB X.nodes i = true then 7 else if runErr R (wayI X.nodes i) ≠ 0 then runErr R (wayI X.nodes i) else if 20 < depE X.nodes ds i then 2 else 0) := Lib.hid (by
    rw [HE2.out, if_neg (by rintro (h | h); exact hpi h; rw [hob] at h; cases h)])
  rw [hob] at HOn
  clear hob HE2
  obtain ⟨d1, hd1⟩ : ∃ d1, d1 = (if 0 ≤ pa then ds.getD pa.toNat 0 else ds.getD i 0) := ⟨_, rfl⟩
  have HD1 := Lib.hid hd1
  rw [← hd1] at HDp
  have hd1b : 0 ≤ d1 ∧ d1 ≤ 20 := by
    rw [hd1]
    split
    · exact HD.out _
    · exact HD.out _
  clear hd1
  go_upto_if 42 with (go_at_call 34; refine HOn.out.mono ?_; rintro e w5 ⟨rfl, hb5⟩; have HS5 := Lib.hid (HS1.out.stays hb5); have HN5 := Lib.hid (HNb.out.stays hb5); have n05 := HN5.out.cell 0 rfl; have n15 := HN5.out.cell 1 rfl; clear hb5)
  clear HS1 HNb x0 x1 x2 x3 n4 n0 HOn
  go_cut [43] from 43 to 50 (fun v43 wx => ∃ o43 : Value, o43 = v43 ∧ Hid (NdSt B W0 wx R vp vs ve X vt (.slice (some ⟨g, o, none⟩) X.nodes.length nc) bR bX db dc (ds.set i d1)) ∧ Hid (Box wx bN [.int .i64 pa, .int .i64 mv.src, .int .i64 mv.dst, .int .i64 mv.piece, .string cm] 71))
  case first =>
    by_cases hp0 : 0 ≤ pa
    · obtain ⟨p, rfl⟩ : ∃ p : Nat, pa = (p : Int) := ⟨pa.toNat, by omega⟩
      have hd2 : ds.getD p 0 = d1 := by rw [HD1.out, if_pos (by omega)]; rfl
      have hdl5 := HS5.out.size
      have hpl : p < X.nodes.length := by omega
      have cp : w5.cell? ⟨db, p, none⟩ = some (.int .i64 d1) := by
        have := HS5.out.dp.cellAt p (by omega)
        rw [ints_get _ _ (by rw [HS5.out.len]; exact hpl), hd2] at this
        exact this
      have ci : w5.cell? ⟨db, i, none⟩ = some (.int .i64 (ds.getD i 0)) := by
        have := HS5.out.dp.cellAt i (by omega)
        rw [ints_get _ _ (by rw [HS5.out.len]; exact hi)] at this
        exact this
      have fi : w5.frozen? ⟨db, i, none⟩ = false := HS5.out.dp.frozenAt i
      have hpl' : (p : Int) < (X.nodes.length : Int) := by omega
      have HS6 := Lib.hid (HS5.out.set i d1)
      have HN6 := Lib.hid (HN5.out.far ⟨db, i, none⟩ (.int .i64 d1) hNd)
      clear hd2 HD1
      go_wp2_with fail
      go_meet
      exact ⟨_, rfl, HS6, HN6⟩
    · have hd2 : ds.getD i 0 = d1 := by rw [HD1.out, if_neg hp0]
      have HS6 : Hid (NdSt B W0 w5 R vp vs ve X vt (.slice (some ⟨g, o, none⟩) X.nodes.length nc) bR bX db dc (ds.set i d1)) := Lib.hid (by rw [← hd2, set_same]; exact HS5.out)
      clear hd2 HD1
      go_wp2_with fail
      go_meet
      exact ⟨_, rfl, HS6, HN5⟩
  case rest =>
    obtain ⟨o43, rfl, HS6, HN6⟩ := hcut
    have hsl := fun w => run_take (P := Try.prog) (s := 5) Try.underlying28 (fun _ => by kernel_rfl) (some ⟨g, o, none⟩) X.nodes.length nc i (by omega) w
    have x2 := HS6.out.boxX.cell 2 rfl
    have hxl6 := HS6.out.boxX.lt
    have hnl6 := HN6.out.lt
    go_upto_region 10 with (fail)
    go_loopw [56, 12] (fun v56 v12 wr => ∃ (k : Nat) (o12 : Value), o12 = v12 ∧ k ≤ i ∧ v56 = .int .i64 k ∧ Hid (twinB X.nodes i = ((X.nodes.take i).drop k).any fun y => y.parent == pa && y.m == mv) ∧ Hid (NdSt B W0 wr R vp vs ve X vt (.slice (some ⟨g, o, none⟩) X.nodes.length nc) bR bX db dc (ds.set i d1)) ∧ Hid (Box wr bN [.int .i64 pa, .int .i64 mv.src, .int .i64 mv.dst, .int .i64 mv.piece, .string cm] 71)) (fun v _ _ => i - (intOf v).toNat)
    case atStart => exact ⟨0, _, rfl, Nat.zero_le _, rfl, HTw, HS6, HN6⟩
    case round =>
      obtain ⟨k, o12, rfl, hk, rfl, HT, HSr, HNr⟩ := hrel
      have hsz := HSr.out.size
      by_cases hlt : k < i
      · obtain ⟨e0, e1, e2, e3, e4, -⟩ := HC.out k (by omega)
        have hgB : g < B := by omega
        have c0 := (HSr.out.low.cell (p := ⟨g, o + k * 5, none⟩) hgB).trans e0
        have c1 := (HSr.out.low.cell (p := ⟨g, o + k * 5 + 1, none⟩) hgB).trans e1
        have c2 := (HSr.out.low.cell (p := ⟨g, o + k * 5 + 2, none⟩) hgB).trans e2
        have c3 := (HSr.out.low.cell (p := ⟨g, o + k * 5 + 3, none⟩) hgB).trans e3
        have c4 := (HSr.out.low.cell (p := ⟨g, o + k * 5 + 4, none⟩) hgB).trans e4
        have hlen : (X.nodes.take i).length = i := by rw [List.length_take]; omega
        have HSt := Lib.hid (any_step (fun y : NodeZ => y.parent == pa && y.m == mv) (X.nodes.take i) k (by omega))
        have HGt : Hid ((X.nodes.take i)[k]'(by omega) = ndAt X.nodes k) := Lib.hid (by unfold ndAt; rw [List.getElem_take, List.getD_eq_getElem?_getD, List.getElem?_eq_getElem (by omega)]; rfl)
        rw [HGt.out] at HSt
        clear e0 e1 e2 e3 e4 hlen HGt
        generalize (ndAt X.nodes k).comment = cm2 at *
        generalize (ndAt X.nodes k).m = mk at *
        generalize (ndAt X.nodes k).parent = pk at *
        have hgr : g < wr.heap.size := by omega
        have hki : (k : Int) < (i : Int) := by omega
        go_upto_region 12 with (fail)
        obtain ⟨bY, hbY⟩ : ∃ bY, bY = wr.heap.size := ⟨_, rfl⟩
        rw [← hbY]
        have HYb := Lib.hid (Box.new' wr bY [.int .i64 pk, .int .i64 mk.src, .int .i64 mk.dst, .int .i64 mk.piece, .string cm2] 71 hbY.symm)
        have HS7 := Lib.hid (HSr.out.stays ((Below.refl wr.heap.size wr).alloc (Nat.le_refl _) (.cells #[.int .i64 pk, .int .i64 mk.src, .int .i64 mk.dst, .int .i64 mk.piece, .string cm2] 71)))
        have HN7 := Lib.hid (HNr.out.alloc (.cells #[.int .i64 pk, .int .i64 mk.src, .int .i64 mk.dst, .int .i64 mk.piece, .string cm2] 71))
        clear hbY HSr HNr c0 c1 c2 c3 c4
        generalize wr.alloc (.cells #[.int .i64 pk, .int .i64 mk.src, .int .i64 mk.dst, .int .i64 mk.piece, .string cm2] 71) = wy at *
        have y0 := HYb.out.cell 0 rfl
        have y1 := HYb.out.cell 1 rfl
        have y2 := HYb.out.cell 2 rfl
        have y3 := HYb.out.cell 3 rfl
        have n0 := HN7.out.cell 0 rfl
        have n1 := HN7.out.cell 1 rfl
        have n2 := HN7.out.cell 2 rfl
        have n3 := HN7.out.cell 3 rfl
        have hyl := HYb.out.lt
        have hnl := HN7.out.lt
        by_cases hpp : pk = pa
        · have hpb : (pk != pa) = false := by simp [hpp]
          have heq := fun w => eqlM mk mv w
          by_cases hmm : mk = mv
          · have HF : Hid (twinB X.nodes i = true) := Lib.hid (by rw [HT.out, HSt.out, hpp, hmm]; simp)
            have HF2 : Hid (nodeE R X.nodes ds i = 7) := Lib.hid (by rw [HE3.out, if_pos HF.out])
            rw [decide_eq_true hmm] at heq
            clear HT HSt hpp hmm
            go_wp2_with fail
            go_ret
            exact ⟨by rw [HF2.out]; rfl, HS7.out.low, fun e => by rw [HF2.out] at e; cases e⟩
          · have HT2 : Hid (twinB X.nodes i = ((X.nodes.take i).drop (k + 1)).any fun y => y.parent == pa && y.m == mv) := Lib.hid (by rw [HT.out, HSt.out]; simp [hmm])
            rw [decide_eq_false hmm] at heq
            clear HT HSt hpp hmm
            go_wp2_with fail
            go_roundw
            case rel => exact ⟨k + 1, _, rfl, by omega, by go_num, HT2, HS7, HN7⟩
            case measure => simp [intOf]; omega
        · have hpb : (pk != pa) = true := by simp [hpp]
          have HT2 : Hid (twinB X.nodes i = ((X.nodes.take i).drop (k + 1)).any fun y => y.parent == pa && y.m == mv) := Lib.hid (by rw [HT.out, HSt.out]; simp [hpp])
          clear HT HSt hpp
          go_wp2_with fail
          go_roundw
          case rel => exact ⟨k + 1, _, rfl, by omega, by go_num, HT2, HS7, HN7⟩
          case measure => simp [intOf]; omega
      · obtain rfl : k = i := by omega
        have HF : Hid (twinB X.nodes k = false) := Lib.hid (by rw [HT.out, List.drop_of_length_le (by rw [List.length_take]; omega)]; rfl)
        have HE4 : Hid (nodeE R X.nodes ds k = if runErr R (wayI X.nodes k) ≠ 0 then runErr R (wayI X.nodes k) else if 20 < depE X.nodes ds k then 2 else 0) := Lib.hid (by rw [HE3.out, if_neg (by rw [HF.out]; decide)])
        clear HT HE3 HTw HF HS6 HN6
        have x2 := HSr.out.boxX.cell 2 rfl
        have hxlr := HSr.out.boxX.lt
        have hnlr := HNr.out.lt
        have hBr : B ≤ wr.heap.size := by omega
        have HCf := Lib.hid (ContainsFunc_nd _ (X.nodes.take k) (fun y => y.parent == pa) 36 #[.pointer (some ⟨bN, 0, none⟩)] wr ((RdL.take HX.out.2.1 k (by omega)).below HSr.out.low hB) callNodec (fun W x cs _ hE hb => nodec_any x cs pa bN W hE ((HNr.out.stays hb).cell 0 rfl) (HNr.out.stays hb).lt))
        rw [← HSb.out] at HCf
        obtain ⟨d2, hd2⟩ : ∃ d2, d2 = d1 + (if sibB X.nodes k = true then 1 else 0) := ⟨_, rfl⟩
        have HD2 := Lib.hid hd2
        rw [← hd2] at HDp
        have hd2b : 0 ≤ d2 ∧ d2 ≤ 21 := by rw [hd2]; split <;> omega
        clear hd2
        have HK1 : Hid (Back X.nodes (k + 1)) := Lib.hid (fun q hq => by
          by_cases e : q = k
          · subst e; rw [hpaE.out]; omega
          · exact HK.out q (by omega))
        generalize sibB X.nodes k = sb at *
        go_upto_if 76 with (go_at_call 35; refine HCf.out.mono ?_; rintro e w8 ⟨rfl, hb8⟩; have HS8 := Lib.hid (HSr.out.stays hb8); clear hb8)
        clear HSr HNr HCf hsl HC HC2 HSb
        go_cut [77] from 77 to 82 (fun v77 wx => ∃ o77 : Value, o77 = v77 ∧ Hid (NdSt B W0 wx R vp vs ve X vt (.slice (some ⟨g, o, none⟩) X.nodes.length nc) bR bX db dc (ds.set k d2)))
        case first =>
          have hdl8 := HS8.out.size
          cases sb
          · have e2 : d2 = d1 := by rw [HD2.out]; simp
            have HS9 : Hid (NdSt B W0 w8 R vp vs ve X vt (.slice (some ⟨g, o, none⟩) X.nodes.length nc) bR bX db dc (ds.set k d2)) := Lib.hid (by rw [e2]; exact HS8.out)
            clear e2
            go_wp2_with fail
            go_meet
            exact ⟨_, rfl, HS9⟩
          · have e2 : d2 = d1 + 1 := by rw [HD2.out]; simp
            have HS9 : Hid (NdSt B W0 (w8.setCell ⟨db, k, none⟩ (.int .i64 (d1 + 1))) R vp vs ve X vt (.slice (some ⟨g, o, none⟩) X.nodes.length nc) bR bX db dc (ds.set k d2)) := Lib.hid (by
              have := HS8.out.set k (d1 + 1)
              rw [List.set_set, ← e2] at this
              rw [← e2]
              exact this)
            have ci : w8.cell? ⟨db, k, none⟩ = some (.int .i64 d1) := by
              have := HS8.out.dp.cellAt k (by omega)
              rw [ints_get _ _ (by rw [HS8.out.len]; exact hi), List.getD_eq_getElem?_getD, List.getElem?_set_self (by have := HS8.out.len; rw [List.length_set] at this; omega)] at this
              exact this
            have fi : w8.frozen? ⟨db, k, none⟩ = false := HS8.out.dp.frozenAt k
            have W1 : IntKind.i64.wrap (d1 + 1) = d1 + 1 := IntWalk.i64_in _ (by omega)
            clear e2
            go_wp2_with fail
            go_meet
            exact ⟨_, rfl, HS9⟩
        case rest =>
          obtain ⟨o77, rfl, HS9⟩ := hcut
          go_upto_region 18 with (fail)
          have G0 : NdSt B W0 wc.drew R vp vs ve X vt (.slice (some ⟨g, o, none⟩) X.nodes.length nc) bR bX db dc (ds.set k d2) := HS9.out.stays (below_drewN (Below.refl _ _) 1)
          clear HS9
          refine wp_region_noPanic ?_
          refine beginL (S := (fun w' => w'.cell? ⟨bR, 0, none⟩ = some (.string R.name) ∧ w'.cell? ⟨bR, 1, none⟩ = some (.int .i64 R.width) ∧ w'.cell? ⟨bR, 2, none⟩ = some (.int .i64 R.height) ∧ w'.cell? ⟨bR, 3, none⟩ = some vp ∧ w'.cell? ⟨bR, 4, none⟩ = some vs ∧ w'.cell? ⟨bR, 5, none⟩ = some (.bool R.falls) ∧ w'.cell? ⟨bR, 6, none⟩ = some (.bool R.keeps) ∧ w'.cell? ⟨bR, 7, none⟩ = some ve ∧ w'.cell? ⟨bR, 8, none⟩ = some (.int .i64 R.blocked) ∧ w'.cell? ⟨bR, 9, none⟩ = some (.int .i64 R.quiet) ∧ w'.cell? ⟨bR, 10, none⟩ = some (.int .i64 R.rept) ∧ w'.cell? ⟨bX, 0, none⟩ = some vt ∧ w'.cell? ⟨bX, 1, none⟩ = some (.string X.comment) ∧ w'.cell? ⟨bX, 2, none⟩ = some (.slice (some ⟨g, o, none⟩) X.nodes.length nc) ∧ w'.cell? ⟨bX, 3, none⟩ = some (.int .i64 X.result))) (L := [10]) (by kernel_rfl) ⟨G0.boxR.cell 0 rfl, G0.boxR.cell 1 rfl, G0.boxR.cell 2 rfl, G0.boxR.cell 3 rfl, G0.boxR.cell 4 rfl, G0.boxR.cell 5 rfl, G0.boxR.cell 6 rfl, G0.boxR.cell 7 rfl, G0.boxR.cell 8 rfl, G0.boxR.cell 9 rfl, G0.boxR.cell 10 rfl, G0.boxX.cell 0 rfl, G0.boxX.cell 1 rfl, G0.boxX.cell 2 rfl, G0.boxX.cell 3 rfl⟩ (fun hHeld => ?_)
          refine takeL (i := 0) (oi := { dst := some 84, op := Op.load 26 (Operand.tmp 4), type := 26, pos := "record.go:105", after := #[], guard := none }) (v := ?va1) rfl (by kernel_rfl) (by kernel_rfl) (by kernel_rfl) (by kernel_rfl) rfl (by kernel_rfl) (by kernel_rfl) (fun _ _ _ h => h) (Or.inl ⟨by rfl, ?ya1⟩) (by assumption) ?ra1
          case ya1 => (intro w hSw; (try dsimp only at hSw); go_simp; first | done | (with_reducible rfl))
          try simp only [Act.put, List.setIfInBounds_toArray, List.set_cons_zero, List.set_cons_succ]
          refine takeL (i := 1) (oi := { dst := some 85, op := Op.load 30 (Operand.tmp 5), type := 30, pos := "record.go:105", after := #[], guard := none }) (v := ?va2) rfl (by kernel_rfl) (by kernel_rfl) (by kernel_rfl) (by kernel_rfl) rfl (by kernel_rfl) (by kernel_rfl) (fun _ _ _ h => h) (Or.inl ⟨by rfl, ?ya2⟩) (by assumption) ?ra2
          case ya2 => (intro w hSw; (try dsimp only at hSw); go_simp; first | done | (with_reducible rfl))
          try simp only [Act.put, List.setIfInBounds_toArray, List.set_cons_zero, List.set_cons_succ]
          refine takeW (i := 2) (oi := { dst := some 86, op := Op.move (Operand.tmp 2), type := 3, pos := "record.go:105", after := #[], guard := none }) (v := ?va3) rfl (by kernel_rfl) (by kernel_rfl) (by kernel_rfl) rfl (fun _ _ _ h => h) (Or.inl ⟨by rfl, ?ya3⟩) (fun _ => by assumption) ?ra3
          case ya3 => (intro w _; go_simp; first | done | (with_reducible rfl) | (rw [if_neg (by omega)]))
          try simp only [Act.put, List.setIfInBounds_toArray, List.set_cons_zero, List.set_cons_succ]
          refine readyL (rs := [3, 9]) (by kernel_rfl) (by simp) ?_
          refine (AllReadyL.cons (o := { dst := some 87, op := Op.call { callee := Callee.value (Operand.func 18), args := #[Operand.tmp 85, Operand.tmp 86], argTypes := #[30, 3] }, type := 36, pos := "record.go:105", after := #[{ on := 1, ground := Ground.data }, { on := 2, ground := Ground.data }], guard := none }) rfl (fun K hK => ?_) (AllReadyL.cons (o := { dst := some 13, op := Op.alloc 43, type := 0, pos := "record.go:105", after := #[], guard := none }) rfl (fun K hK => ?_) AllReadyL.nil))
          · skip
            go_simp
            refine (Way_any X vt (.slice (some ⟨g, o, none⟩) X.nodes.length nc) k (k + 1) _ (HX.out.below G0.low hB) HK1.out (by omega) (by omega) (by omega)).mono ?_
            rintro e y3 ⟨vw, rfl, how3, hb3⟩
            obtain ⟨wa, wcp, rfl⟩ := own_form2 how3
            have G3 := G0.stays hb3
            have M3 := rdM_of_own how3
            clear hb3 how3
            refine hK.out _ _ ⟨G3.boxR.cell 0 rfl, G3.boxR.cell 1 rfl, G3.boxR.cell 2 rfl, G3.boxR.cell 3 rfl, G3.boxR.cell 4 rfl, G3.boxR.cell 5 rfl, G3.boxR.cell 6 rfl, G3.boxR.cell 7 rfl, G3.boxR.cell 8 rfl, G3.boxR.cell 9 rfl, G3.boxR.cell 10 rfl, G3.boxX.cell 0 rfl, G3.boxX.cell 1 rfl, G3.boxX.cell 2 rfl, G3.boxX.cell 3 rfl⟩ (fun hHeld => ?_)
            clear hK K
            try simp only [Act.put, List.setIfInBounds_toArray, List.set_cons_zero, List.set_cons_succ]
            refine readyL (rs := [4, 9]) (by kernel_rfl) (by simp) ?_
            refine (AllReadyL.cons (o := { dst := some 88, op := Op.call { callee := Callee.value (Operand.func 10), args := #[Operand.tmp 84, Operand.tmp 87], argTypes := #[26, 36] }, type := 44, pos := "record.go:105", after := #[{ on := 0, ground := Ground.data }, { on := 3, ground := Ground.data }, { on := 3, ground := Ground.chain }], guard := none }) rfl (fun K hK => ?_) (AllReadyL.cons (o := { dst := some 13, op := Op.alloc 43, type := 0, pos := "record.go:105", after := #[], guard := none }) rfl (fun K hK => ?_) AllReadyL.nil))
            · skip
              go_simp
              refine (Run_code HSh.out R vp vs ve _ (wayI X.nodes k) _ (HR.out.below G3.low hB) HN.out M3).mono ?_
              rintro e y4 ⟨hb4, a1, a2, a3, n1, m1, n2, m2, n3, m3, px, py, rv, rfl⟩
              have G4 := G3.stays hb4
              clear hb4
              refine hK.out _ _ ⟨G4.boxR.cell 0 rfl, G4.boxR.cell 1 rfl, G4.boxR.cell 2 rfl, G4.boxR.cell 3 rfl, G4.boxR.cell 4 rfl, G4.boxR.cell 5 rfl, G4.boxR.cell 6 rfl, G4.boxR.cell 7 rfl, G4.boxR.cell 8 rfl, G4.boxR.cell 9 rfl, G4.boxR.cell 10 rfl, G4.boxX.cell 0 rfl, G4.boxX.cell 1 rfl, G4.boxX.cell 2 rfl, G4.boxX.cell 3 rfl⟩ (fun hHeld => ?_)
              clear hK K
              try simp only [Act.put, List.setIfInBounds_toArray, List.set_cons_zero, List.set_cons_succ]
              refine takeW (i := 5) (oi := { dst := some 83, op := Op.move (Operand.tmp 88), type := 44, pos := "record.go:105", after := #[{ on := 4, ground := Ground.data }], guard := none }) (v := ?va4) rfl (by kernel_rfl) (by kernel_rfl) (by kernel_rfl) rfl (fun _ _ _ h => h) (Or.inl ⟨by rfl, ?ya4⟩) (fun _ => by assumption) ?ra4
              case ya4 => (intro w _; go_simp; first | done | (with_reducible rfl) | (rw [if_neg (by omega)]))
              try simp only [Act.put, List.setIfInBounds_toArray, List.set_cons_zero, List.set_cons_succ]
              refine takeW (i := 6) (oi := { dst := some 89, op := Op.extract (Operand.tmp 83) 0, type := 43, pos := "record.go:105", after := #[{ on := 5, ground := Ground.data }], guard := none }) (v := ?va5) rfl (by kernel_rfl) (by kernel_rfl) (by kernel_rfl) rfl (fun _ _ _ h => h) (Or.inl ⟨by rfl, ?ya5⟩) (fun _ => by assumption) ?ra5
              case ya5 => (intro w _; go_simp; first | done | (with_reducible rfl) | (rw [if_neg (by omega)]))
              try simp only [Act.put, List.setIfInBounds_toArray, List.set_cons_zero, List.set_cons_succ]
              refine takeW (i := 7) (oi := { dst := some 90, op := Op.extract (Operand.tmp 83) 1, type := 3, pos := "record.go:105", after := #[{ on := 5, ground := Ground.data }, { on := 10, ground := Ground.gcOnly Departure.lateStores }], guard := none }) (v := ?va6) rfl (by kernel_rfl) (by kernel_rfl) (by kernel_rfl) rfl (fun _ _ _ h => h) (Or.inl ⟨by rfl, ?ya6⟩) (fun _ => by assumption) ?ra6
              case ya6 => (intro w _; go_simp; first | done | (with_reducible rfl) | (rw [if_neg (by omega)]))
              try simp only [Act.put, List.setIfInBounds_toArray, List.set_cons_zero, List.set_cons_succ]
              refine takeW (i := 8) (oi := { dst := some 91, op := Op.extract (Operand.tmp 83) 2, type := 34, pos := "record.go:105", after := #[{ on := 5, ground := Ground.data }, { on := 11, ground := Ground.gcOnly Departure.lateStores }], guard := none }) (v := ?va7) rfl (by kernel_rfl) (by kernel_rfl) (by kernel_rfl) rfl (fun _ _ _ h => h) (Or.inl ⟨by rfl, ?ya7⟩) (fun _ => by assumption) ?ra7
              case ya7 => (intro w _; go_simp; first | done | (with_reducible rfl) | (rw [if_neg (by omega)]))
              try simp only [Act.put, List.setIfInBounds_toArray, List.set_cons_zero, List.set_cons_succ]
              refine readyL (rs := [9]) (by kernel_rfl) (by simp) ?_
              refine (AllReadyL.cons (o := { dst := some 13, op := Op.alloc 43, type := 0, pos := "record.go:105", after := #[], guard := none }) rfl (fun K hK => ?_) AllReadyL.nil)
              go_simp
              refine K_world ?_
              intro y9 e9
              have P9 : Box y9 y4.heap.size [.slice none 0 0, .slice none 0 0, .slice none 0 0, .int .i64 0, .int .i64 0] 43 := by rw [e9]; exact Box.new y4 _ _
              have hp1 : B ≤ y4.heap.size := by have : db < y4.heap.size := G4.size.2; have := G4.size.1; omega
              have hp2 : y4.heap.size ≠ bR := by have : bR < y4.heap.size := G4.boxR.lt; omega
              have hp3 : y4.heap.size ≠ bX := by have : bX < y4.heap.size := G4.boxX.lt; omega
              have hp4 : y4.heap.size ≠ db := by have : db < y4.heap.size := G4.size.2; omega
              have G9 : NdSt B W0 y9 R vp vs ve X vt (.slice (some ⟨g, o, none⟩) X.nodes.length nc) bR bX db dc (ds.set k d2) := by rw [e9]; exact G4.stays ((Below.refl _ _).alloc (Nat.le_refl _) _)
              clear e9
              refine hK.out _ _ ⟨G9.boxR.cell 0 rfl, G9.boxR.cell 1 rfl, G9.boxR.cell 2 rfl, G9.boxR.cell 3 rfl, G9.boxR.cell 4 rfl, G9.boxR.cell 5 rfl, G9.boxR.cell 6 rfl, G9.boxR.cell 7 rfl, G9.boxR.cell 8 rfl, G9.boxR.cell 9 rfl, G9.boxR.cell 10 rfl, G9.boxX.cell 0 rfl, G9.boxX.cell 1 rfl, G9.boxX.cell 2 rfl, G9.boxX.cell 3 rfl⟩ (fun hHeld => ?_)
              clear hK K
              try simp only [Act.put, List.setIfInBounds_toArray, List.set_cons_zero, List.set_cons_succ]
              refine readyL (rs := [10]) (by kernel_rfl) (by simp) ?_
              refine (AllReadyL.late (o := { dst := none, op := Op.store 43 (Operand.tmp 13) (Operand.tmp 89), type := 0, pos := "record.go:105", after := #[{ on := 9, ground := Ground.data }, { on := 6, ground := Ground.data }, { on := 4, ground := Ground.chain }, { on := 0, ground := Ground.phase }, { on := 1, ground := Ground.phase }, { on := 2, ground := Ground.phase }, { on := 3, ground := Ground.phase }, { on := 4, ground := Ground.phase }, { on := 5, ground := Ground.phase }, { on := 6, ground := Ground.phase }, { on := 7, ground := Ground.textOnly Departure.lateStores }, { on := 8, ground := Ground.textOnly Departure.lateStores }, { on := 9, ground := Ground.phase }], guard := none }) rfl (by kernel_rfl) (fun K hK => ?_) AllReadyL.nil)
              have pd0 := P9.cell 0 rfl
              have pd1 := P9.cell 1 rfl
              have pd2 := P9.cell 2 rfl
              have pd3 := P9.cell 3 rfl
              have pd4 := P9.cell 4 rfl
              have pf0 := P9.frozen 0
              have pf1 := P9.frozen 1
              have pf2 := P9.frozen 2
              have pf3 := P9.frozen 3
              have pf4 := P9.frozen 4
              go_simp
              refine K_world ?_
              intro y10 e10
              have G10 : NdSt B W0 y10 R vp vs ve X vt (.slice (some ⟨g, o, none⟩) X.nodes.length nc) bR bX db dc (ds.set k d2) := by rw [e10]; exact ((((G9.far _ _ _ hp1 hp2 hp3 hp4).far _ _ _ hp1 hp2 hp3 hp4).far _ _ _ hp1 hp2 hp3 hp4).far _ _ _ hp1 hp2 hp3 hp4).far _ _ _ hp1 hp2 hp3 hp4
              clear e10 pd0 pf0 pd1 pf1 pd2 pf2 pd3 pf3 pd4 pf4
              refine hK.out _ _ ?_
              clear hK K
              try simp only [Act.put, List.setIfInBounds_toArray, List.set_cons_zero, List.set_cons_succ]
              refine takeW (i := 11) (oi := { dst := some 14, op := Op.assign (Operand.tmp 90), type := 3, pos := "record.go:105", after := #[{ on := 7, ground := Ground.data }, { on := 10, ground := Ground.chain }, { on := 0, ground := Ground.phase }, { on := 1, ground := Ground.phase }, { on := 2, ground := Ground.phase }, { on := 3, ground := Ground.phase }, { on := 4, ground := Ground.phase }, { on := 5, ground := Ground.phase }, { on := 6, ground := Ground.phase }, { on := 7, ground := Ground.phase }, { on := 8, ground := Ground.textOnly Departure.lateStores }, { on := 9, ground := Ground.phase }, { on := 10, ground := Ground.phase }], guard := none }) (v := ?va8) rfl (by kernel_rfl) (by kernel_rfl) (by kernel_rfl) rfl (fun _ _ _ h => h) (Or.inl ⟨by rfl, ?ya8⟩) (fun he => by cases he) ?ra8
              case ya8 => (intro w _; go_simp; first | done | (with_reducible rfl) | (rw [if_neg (by omega)]))
              try simp only [Act.put, List.setIfInBounds_toArray, List.set_cons_zero, List.set_cons_succ]
              refine takeW (i := 12) (oi := { dst := some 15, op := Op.assign (Operand.tmp 91), type := 34, pos := "record.go:105", after := #[{ on := 8, ground := Ground.data }, { on := 11, ground := Ground.chain }, { on := 0, ground := Ground.phase }, { on := 1, ground := Ground.phase }, { on := 2, ground := Ground.phase }, { on := 3, ground := Ground.phase }, { on := 4, ground := Ground.phase }, { on := 5, ground := Ground.phase }, { on := 6, ground := Ground.phase }, { on := 7, ground := Ground.phase }, { on := 8, ground := Ground.phase }, { on := 9, ground := Ground.phase }, { on := 10, ground := Ground.phase }, { on := 11, ground := Ground.phase }], guard := none }) (v := ?va9) rfl (by kernel_rfl) (by kernel_rfl) (by kernel_rfl) rfl (fun _ _ _ h => h) (Or.inl ⟨by rfl, ?ya9⟩) (fun he => by cases he) ?ra9
              case ya9 => (intro w _; go_simp; first | done | (with_reducible rfl) | (rw [if_neg (by omega)]))
              try simp only [Act.put, List.setIfInBounds_toArray, List.set_cons_zero, List.set_cons_succ]
              refine doneL (by kernel_rfl) ?_ _
              refine NoPanic.normal ?_
              have HG := Lib.hid G10
              have HHd := Lib.hid hHeld
              clear G10 HHd
              by_cases hru : runErr R (wayI X.nodes k) = 0
              rotate_left
              · have HF : Hid (nodeE R X.nodes ds k = runErr R (wayI X.nodes k)) := Lib.hid (by rw [HE4.out, if_pos hru])
                generalize hrr : runErr R (wayI X.nodes k) = ru at *
                clear hrr
                go_wp2_with fail
                go_ret
                exact ⟨by rw [HF.out]; rfl, HG.out.low, fun e => absurd (HF.out.symm.trans e) hru⟩
              have HE5 : Hid (nodeE R X.nodes ds k = if 20 < depE X.nodes ds k then 2 else 0) := Lib.hid (by rw [HE4.out, if_neg (fun h => h hru)])
              rw [hru]
              clear hru HE4
              have hdl9 := HG.out.size
              have ci : y10.cell? ⟨db, k, none⟩ = some (.int .i64 d2) := by
                have := HG.out.dp.cellAt k (by omega)
                rw [ints_get _ _ (by rw [HG.out.len]; exact hi), List.getD_eq_getElem?_getD, List.getElem?_set_self (by have := HG.out.len; rw [List.length_set] at this; omega)] at this
                exact this
              by_cases h20 : 20 < d2
              · have HF : Hid (nodeE R X.nodes ds k = 2) := Lib.hid (by rw [HE5.out, if_pos (by rw [HDp.out]; exact h20)])
                go_wp2_with fail
                go_ret
                exact ⟨by rw [HF.out]; rfl, HG.out.low, fun e => by rw [HF.out] at e; cases e⟩
              · have HF : Hid (nodeE R X.nodes ds k = 0) := Lib.hid (by rw [HE5.out, if_neg (by rw [HDp.out]; exact h20)])
                go_wp2_with fail
                go_ret
                exact ⟨by rw [HF.out]; rfl, HG.out.low, fun _ => by rw [HDp.out]; exact HG.out.dp⟩
            · skip
              go_simp
              refine K_world ?_
              intro y9 e9
              have P9 : Box y9 y3.heap.size [.slice none 0 0, .slice none 0 0, .slice none 0 0, .int .i64 0, .int .i64 0] 43 := by rw [e9]; exact Box.new y3 _ _
              have hp1 : B ≤ y3.heap.size := by have : db < y3.heap.size := G3.size.2; have := G3.size.1; omega
              have hp2 : y3.heap.size ≠ bR := by have : bR < y3.heap.size := G3.boxR.lt; omega
              have hp3 : y3.heap.size ≠ bX := by have : bX < y3.heap.size := G3.boxX.lt; omega
              have hp4 : y3.heap.size ≠ db := by have : db < y3.heap.size := G3.size.2; omega
              have G9 : NdSt B W0 y9 R vp vs ve X vt (.slice (some ⟨g, o, none⟩) X.nodes.length nc) bR bX db dc (ds.set k d2) := by rw [e9]; exact G3.stays ((Below.refl _ _).alloc (Nat.le_refl _) _)
              have M9 : RdL moveEl y9 (.slice wa (wayI X.nodes k).length wcp) (wayI X.nodes k) := by rw [e9]; exact M3.below ((Below.refl _ _).alloc (Nat.le_refl _) _) (Nat.le_refl _)
              clear e9
              refine hK.out _ _ ⟨G9.boxR.cell 0 rfl, G9.boxR.cell 1 rfl, G9.boxR.cell 2 rfl, G9.boxR.cell 3 rfl, G9.boxR.cell 4 rfl, G9.boxR.cell 5 rfl, G9.boxR.cell 6 rfl, G9.boxR.cell 7 rfl, G9.boxR.cell 8 rfl, G9.boxR.cell 9 rfl, G9.boxR.cell 10 rfl, G9.boxX.cell 0 rfl, G9.boxX.cell 1 rfl, G9.boxX.cell 2 rfl, G9.boxX.cell 3 rfl⟩ (fun hHeld => ?_)
              clear hK K
              try simp only [Act.put, List.setIfInBounds_toArray, List.set_cons_zero, List.set_cons_succ]
              refine readyL (rs := [4]) (by kernel_rfl) (by simp) ?_
              refine (AllReadyL.cons (o := { dst := some 88, op := Op.call { callee := Callee.value (Operand.func 10), args := #[Operand.tmp 84, Operand.tmp 87], argTypes := #[26, 36] }, type := 44, pos := "record.go:105", after := #[{ on := 0, ground := Ground.data }, { on := 3, ground := Ground.data }, { on := 3, ground := Ground.chain }], guard := none }) rfl (fun K hK => ?_) AllReadyL.nil)
              go_simp
              refine (Run_code HSh.out R vp vs ve _ (wayI X.nodes k) _ (HR.out.below G9.low hB) HN.out M9).mono ?_
              rintro e y4 ⟨hb4, a1, a2, a3, n1, m1, n2, m2, n3, m3, px, py, rv, rfl⟩
              have G4 := G9.stays hb4
              have P4 := P9.stays hb4
              clear hb4
              refine hK.out _ _ ⟨G4.boxR.cell 0 rfl, G4.boxR.cell 1 rfl, G4.boxR.cell 2 rfl, G4.boxR.cell 3 rfl, G4.boxR.cell 4 rfl, G4.boxR.cell 5 rfl, G4.boxR.cell 6 rfl, G4.boxR.cell 7 rfl, G4.boxR.cell 8 rfl, G4.boxR.cell 9 rfl, G4.boxR.cell 10 rfl, G4.boxX.cell 0 rfl, G4.boxX.cell 1 rfl, G4.boxX.cell 2 rfl, G4.boxX.cell 3 rfl⟩ (fun hHeld => ?_)
              clear hK K
              try simp only [Act.put, List.setIfInBounds_toArray, List.set_cons_zero, List.set_cons_succ]
              refine takeW (i := 5) (oi := { dst := some 83, op := Op.move (Operand.tmp 88), type := 44, pos := "record.go:105", after := #[{ on := 4, ground := Ground.data }], guard := none }) (v := ?va10) rfl (by kernel_rfl) (by kernel_rfl) (by kernel_rfl) rfl (fun _ _ _ h => h) (Or.inl ⟨by rfl, ?ya10⟩) (fun _ => by assumption) ?ra10
              case ya10 => (intro w _; go_simp; first | done | (with_reducible rfl) | (rw [if_neg (by omega)]))
              try simp only [Act.put, List.setIfInBounds_toArray, List.set_cons_zero, List.set_cons_succ]
              refine takeW (i := 6) (oi := { dst := some 89, op := Op.extract (Operand.tmp 83) 0, type := 43, pos := "record.go:105", after := #[{ on := 5, ground := Ground.data }], guard := none }) (v := ?va11) rfl (by kernel_rfl) (by kernel_rfl) (by kernel_rfl) rfl (fun _ _ _ h => h) (Or.inl ⟨by rfl, ?ya11⟩) (fun _ => by assumption) ?ra11
              case ya11 => (intro w _; go_simp; first | done | (with_reducible rfl) | (rw [if_neg (by omega)]))
              try simp only [Act.put, List.setIfInBounds_toArray, List.set_cons_zero, List.set_cons_succ]
              refine takeW (i := 7) (oi := { dst := some 90, op := Op.extract (Operand.tmp 83) 1, type := 3, pos := "record.go:105", after := #[{ on := 5, ground := Ground.data }, { on := 10, ground := Ground.gcOnly Departure.lateStores }], guard := none }) (v := ?va12) rfl (by kernel_rfl) (by kernel_rfl) (by kernel_rfl) rfl (fun _ _ _ h => h) (Or.inl ⟨by rfl, ?ya12⟩) (fun _ => by assumption) ?ra12
              case ya12 => (intro w _; go_simp; first | done | (with_reducible rfl) | (rw [if_neg (by omega)]))
              try simp only [Act.put, List.setIfInBounds_toArray, List.set_cons_zero, List.set_cons_succ]
              refine takeW (i := 8) (oi := { dst := some 91, op := Op.extract (Operand.tmp 83) 2, type := 34, pos := "record.go:105", after := #[{ on := 5, ground := Ground.data }, { on := 11, ground := Ground.gcOnly Departure.lateStores }], guard := none }) (v := ?va13) rfl (by kernel_rfl) (by kernel_rfl) (by kernel_rfl) rfl (fun _ _ _ h => h) (Or.inl ⟨by rfl, ?ya13⟩) (fun _ => by assumption) ?ra13
              case ya13 => (intro w _; go_simp; first | done | (with_reducible rfl) | (rw [if_neg (by omega)]))
              try simp only [Act.put, List.setIfInBounds_toArray, List.set_cons_zero, List.set_cons_succ]
              refine readyL (rs := [10]) (by kernel_rfl) (by simp) ?_
              refine (AllReadyL.late (o := { dst := none, op := Op.store 43 (Operand.tmp 13) (Operand.tmp 89), type := 0, pos := "record.go:105", after := #[{ on := 9, ground := Ground.data }, { on := 6, ground := Ground.data }, { on := 4, ground := Ground.chain }, { on := 0, ground := Ground.phase }, { on := 1, ground := Ground.phase }, { on := 2, ground := Ground.phase }, { on := 3, ground := Ground.phase }, { on := 4, ground := Ground.phase }, { on := 5, ground := Ground.phase }, { on := 6, ground := Ground.phase }, { on := 7, ground := Ground.textOnly Departure.lateStores }, { on := 8, ground := Ground.textOnly Departure.lateStores }, { on := 9, ground := Ground.phase }], guard := none }) rfl (by kernel_rfl) (fun K hK => ?_) AllReadyL.nil)
              have pd0 := P4.cell 0 rfl
              have pd1 := P4.cell 1 rfl
              have pd2 := P4.cell 2 rfl
              have pd3 := P4.cell 3 rfl
              have pd4 := P4.cell 4 rfl
              have pf0 := P4.frozen 0
              have pf1 := P4.frozen 1
              have pf2 := P4.frozen 2
              have pf3 := P4.frozen 3
              have pf4 := P4.frozen 4
              go_simp
              refine K_world ?_
              intro y10 e10
              have G10 : NdSt B W0 y10 R vp vs ve X vt (.slice (some ⟨g, o, none⟩) X.nodes.length nc) bR bX db dc (ds.set k d2) := by rw [e10]; exact ((((G4.far _ _ _ hp1 hp2 hp3 hp4).far _ _ _ hp1 hp2 hp3 hp4).far _ _ _ hp1 hp2 hp3 hp4).far _ _ _ hp1 hp2 hp3 hp4).far _ _ _ hp1 hp2 hp3 hp4
              clear e10 pd0 pf0 pd1 pf1 pd2 pf2 pd3 pf3 pd4 pf4
              refine hK.out _ _ ?_
              clear hK K
              try simp only [Act.put, List.setIfInBounds_toArray, List.set_cons_zero, List.set_cons_succ]
              refine takeW (i := 11) (oi := { dst := some 14, op := Op.assign (Operand.tmp 90), type := 3, pos := "record.go:105", after := #[{ on := 7, ground := Ground.data }, { on := 10, ground := Ground.chain }, { on := 0, ground := Ground.phase }, { on := 1, ground := Ground.phase }, { on := 2, ground := Ground.phase }, { on := 3, ground := Ground.phase }, { on := 4, ground := Ground.phase }, { on := 5, ground := Ground.phase }, { on := 6, ground := Ground.phase }, { on := 7, ground := Ground.phase }, { on := 8, ground := Ground.textOnly Departure.lateStores }, { on := 9, ground := Ground.phase }, { on := 10, ground := Ground.phase }], guard := none }) (v := ?va14) rfl (by kernel_rfl) (by kernel_rfl) (by kernel_rfl) rfl (fun _ _ _ h => h) (Or.inl ⟨by rfl, ?ya14⟩) (fun he => by cases he) ?ra14
              case ya14 => (intro w _; go_simp; first | done | (with_reducible rfl) | (rw [if_neg (by omega)]))
              try simp only [Act.put, List.setIfInBounds_toArray, List.set_cons_zero, List.set_cons_succ]
              refine takeW (i := 12) (oi := { dst := some 15, op := Op.assign (Operand.tmp 91), type := 34, pos := "record.go:105", after := #[{ on := 8, ground := Ground.data }, { on := 11, ground := Ground.chain }, { on := 0, ground := Ground.phase }, { on := 1, ground := Ground.phase }, { on := 2, ground := Ground.phase }, { on := 3, ground := Ground.phase }, { on := 4, ground := Ground.phase }, { on := 5, ground := Ground.phase }, { on := 6, ground := Ground.phase }, { on := 7, ground := Ground.phase }, { on := 8, ground := Ground.phase }, { on := 9, ground := Ground.phase }, { on := 10, ground := Ground.phase }, { on := 11, ground := Ground.phase }], guard := none }) (v := ?va15) rfl (by kernel_rfl) (by kernel_rfl) (by kernel_rfl) rfl (fun _ _ _ h => h) (Or.inl ⟨by rfl, ?ya15⟩) (fun he => by cases he) ?ra15
              case ya15 => (intro w _; go_simp; first | done | (with_reducible rfl) | (rw [if_neg (by omega)]))
              try simp only [Act.put, List.setIfInBounds_toArray, List.set_cons_zero, List.set_cons_succ]
              refine doneL (by kernel_rfl) ?_ _
              refine NoPanic.normal ?_
              have HG := Lib.hid G10
              have HHd := Lib.hid hHeld
              clear G10 HHd
              by_cases hru : runErr R (wayI X.nodes k) = 0
              rotate_left
              · have HF : Hid (nodeE R X.nodes ds k = runErr R (wayI X.nodes k)) := Lib.hid (by rw [HE4.out, if_pos hru])
                generalize hrr : runErr R (wayI X.nodes k) = ru at *
                clear hrr
                go_wp2_with fail
                go_ret
                exact ⟨by rw [HF.out]; rfl, HG.out.low, fun e => absurd (HF.out.symm.trans e) hru⟩
              have HE5 : Hid (nodeE R X.nodes ds k = if 20 < depE X.nodes ds k then 2 else 0) := Lib.hid (by rw [HE4.out, if_neg (fun h => h hru)])
              rw [hru]
              clear hru HE4
              have hdl9 := HG.out.size
              have ci : y10.cell? ⟨db, k, none⟩ = some (.int .i64 d2) := by
                have := HG.out.dp.cellAt k (by omega)
                rw [ints_get _ _ (by rw [HG.out.len]; exact hi), List.getD_eq_getElem?_getD, List.getElem?_set_self (by have := HG.out.len; rw [List.length_set] at this; omega)] at this
                exact this
              by_cases h20 : 20 < d2
              · have HF : Hid (nodeE R X.nodes ds k = 2) := Lib.hid (by rw [HE5.out, if_pos (by rw [HDp.out]; exact h20)])
                go_wp2_with fail
                go_ret
                exact ⟨by rw [HF.out]; rfl, HG.out.low, fun e => by rw [HF.out] at e; cases e⟩
              · have HF : Hid (nodeE R X.nodes ds k = 0) := Lib.hid (by rw [HE5.out, if_neg (by rw [HDp.out]; exact h20)])
                go_wp2_with fail
                go_ret
                exact ⟨by rw [HF.out]; rfl, HG.out.low, fun _ => by rw [HDp.out]; exact HG.out.dp⟩
          · skip
            go_simp
            refine K_world ?_
            intro y9 e9
            have P9 : Box y9 wc.heap.size [.slice none 0 0, .slice none 0 0, .slice none 0 0, .int .i64 0, .int .i64 0] 43 := by rw [e9]; exact Box.new wc.drew _ _
            have hp1 : B ≤ wc.heap.size := by have : db < wc.heap.size := G0.size.2; have := G0.size.1; omega
            have hp2 : wc.heap.size ≠ bR := by have : bR < wc.heap.size := G0.boxR.lt; omega
            have hp3 : wc.heap.size ≠ bX := by have : bX < wc.heap.size := G0.boxX.lt; omega
            have hp4 : wc.heap.size ≠ db := by have : db < wc.heap.size := G0.size.2; omega
            have G9 : NdSt B W0 y9 R vp vs ve X vt (.slice (some ⟨g, o, none⟩) X.nodes.length nc) bR bX db dc (ds.set k d2) := by rw [e9]; exact G0.stays ((Below.refl _ _).alloc (Nat.le_refl _) _)
            clear e9
            refine hK.out _ _ ⟨G9.boxR.cell 0 rfl, G9.boxR.cell 1 rfl, G9.boxR.cell 2 rfl, G9.boxR.cell 3 rfl, G9.boxR.cell 4 rfl, G9.boxR.cell 5 rfl, G9.boxR.cell 6 rfl, G9.boxR.cell 7 rfl, G9.boxR.cell 8 rfl, G9.boxR.cell 9 rfl, G9.boxR.cell 10 rfl, G9.boxX.cell 0 rfl, G9.boxX.cell 1 rfl, G9.boxX.cell 2 rfl, G9.boxX.cell 3 rfl⟩ (fun hHeld => ?_)
            clear hK K
            try simp only [Act.put, List.setIfInBounds_toArray, List.set_cons_zero, List.set_cons_succ]
            refine readyL (rs := [3]) (by kernel_rfl) (by simp) ?_
            refine (AllReadyL.cons (o := { dst := some 87, op := Op.call { callee := Callee.value (Operand.func 18), args := #[Operand.tmp 85, Operand.tmp 86], argTypes := #[30, 3] }, type := 36, pos := "record.go:105", after := #[{ on := 1, ground := Ground.data }, { on := 2, ground := Ground.data }], guard := none }) rfl (fun K hK => ?_) AllReadyL.nil)
            go_simp
            refine (Way_any X vt (.slice (some ⟨g, o, none⟩) X.nodes.length nc) k (k + 1) _ (HX.out.below G9.low hB) HK1.out (by omega) (by omega) (by omega)).mono ?_
            rintro e y3 ⟨vw, rfl, how3, hb3⟩
            obtain ⟨wa, wcp, rfl⟩ := own_form2 how3
            have G3 := G9.stays hb3
            have P3 := P9.stays hb3
            have M3 := rdM_of_own how3
            clear hb3 how3
            refine hK.out _ _ ⟨G3.boxR.cell 0 rfl, G3.boxR.cell 1 rfl, G3.boxR.cell 2 rfl, G3.boxR.cell 3 rfl, G3.boxR.cell 4 rfl, G3.boxR.cell 5 rfl, G3.boxR.cell 6 rfl, G3.boxR.cell 7 rfl, G3.boxR.cell 8 rfl, G3.boxR.cell 9 rfl, G3.boxR.cell 10 rfl, G3.boxX.cell 0 rfl, G3.boxX.cell 1 rfl, G3.boxX.cell 2 rfl, G3.boxX.cell 3 rfl⟩ (fun hHeld => ?_)
            clear hK K
            try simp only [Act.put, List.setIfInBounds_toArray, List.set_cons_zero, List.set_cons_succ]
            refine readyL (rs := [4]) (by kernel_rfl) (by simp) ?_
            refine (AllReadyL.cons (o := { dst := some 88, op := Op.call { callee := Callee.value (Operand.func 10), args := #[Operand.tmp 84, Operand.tmp 87], argTypes := #[26, 36] }, type := 44, pos := "record.go:105", after := #[{ on := 0, ground := Ground.data }, { on := 3, ground := Ground.data }, { on := 3, ground := Ground.chain }], guard := none }) rfl (fun K hK => ?_) AllReadyL.nil)
            go_simp
            refine (Run_code HSh.out R vp vs ve _ (wayI X.nodes k) _ (HR.out.below G3.low hB) HN.out M3).mono ?_
            rintro e y4 ⟨hb4, a1, a2, a3, n1, m1, n2, m2, n3, m3, px, py, rv, rfl⟩
            have G4 := G3.stays hb4
            have P4 := P3.stays hb4
            clear hb4
            refine hK.out _ _ ⟨G4.boxR.cell 0 rfl, G4.boxR.cell 1 rfl, G4.boxR.cell 2 rfl, G4.boxR.cell 3 rfl, G4.boxR.cell 4 rfl, G4.boxR.cell 5 rfl, G4.boxR.cell 6 rfl, G4.boxR.cell 7 rfl, G4.boxR.cell 8 rfl, G4.boxR.cell 9 rfl, G4.boxR.cell 10 rfl, G4.boxX.cell 0 rfl, G4.boxX.cell 1 rfl, G4.boxX.cell 2 rfl, G4.boxX.cell 3 rfl⟩ (fun hHeld => ?_)
            clear hK K
            try simp only [Act.put, List.setIfInBounds_toArray, List.set_cons_zero, List.set_cons_succ]
            refine takeW (i := 5) (oi := { dst := some 83, op := Op.move (Operand.tmp 88), type := 44, pos := "record.go:105", after := #[{ on := 4, ground := Ground.data }], guard := none }) (v := ?va16) rfl (by kernel_rfl) (by kernel_rfl) (by kernel_rfl) rfl (fun _ _ _ h => h) (Or.inl ⟨by rfl, ?ya16⟩) (fun _ => by assumption) ?ra16
            case ya16 => (intro w _; go_simp; first | done | (with_reducible rfl) | (rw [if_neg (by omega)]))
            try simp only [Act.put, List.setIfInBounds_toArray, List.set_cons_zero, List.set_cons_succ]
            refine takeW (i := 6) (oi := { dst := some 89, op := Op.extract (Operand.tmp 83) 0, type := 43, pos := "record.go:105", after := #[{ on := 5, ground := Ground.data }], guard := none }) (v := ?va17) rfl (by kernel_rfl) (by kernel_rfl) (by kernel_rfl) rfl (fun _ _ _ h => h) (Or.inl ⟨by rfl, ?ya17⟩) (fun _ => by assumption) ?ra17
            case ya17 => (intro w _; go_simp; first | done | (with_reducible rfl) | (rw [if_neg (by omega)]))
            try simp only [Act.put, List.setIfInBounds_toArray, List.set_cons_zero, List.set_cons_succ]
            refine takeW (i := 7) (oi := { dst := some 90, op := Op.extract (Operand.tmp 83) 1, type := 3, pos := "record.go:105", after := #[{ on := 5, ground := Ground.data }, { on := 10, ground := Ground.gcOnly Departure.lateStores }], guard := none }) (v := ?va18) rfl (by kernel_rfl) (by kernel_rfl) (by kernel_rfl) rfl (fun _ _ _ h => h) (Or.inl ⟨by rfl, ?ya18⟩) (fun _ => by assumption) ?ra18
            case ya18 => (intro w _; go_simp; first | done | (with_reducible rfl) | (rw [if_neg (by omega)]))
            try simp only [Act.put, List.setIfInBounds_toArray, List.set_cons_zero, List.set_cons_succ]
            refine takeW (i := 8) (oi := { dst := some 91, op := Op.extract (Operand.tmp 83) 2, type := 34, pos := "record.go:105", after := #[{ on := 5, ground := Ground.data }, { on := 11, ground := Ground.gcOnly Departure.lateStores }], guard := none }) (v := ?va19) rfl (by kernel_rfl) (by kernel_rfl) (by kernel_rfl) rfl (fun _ _ _ h => h) (Or.inl ⟨by rfl, ?ya19⟩) (fun _ => by assumption) ?ra19
            case ya19 => (intro w _; go_simp; first | done | (with_reducible rfl) | (rw [if_neg (by omega)]))
            try simp only [Act.put, List.setIfInBounds_toArray, List.set_cons_zero, List.set_cons_succ]
            refine readyL (rs := [10]) (by kernel_rfl) (by simp) ?_
            refine (AllReadyL.late (o := { dst := none, op := Op.store 43 (Operand.tmp 13) (Operand.tmp 89), type := 0, pos := "record.go:105", after := #[{ on := 9, ground := Ground.data }, { on := 6, ground := Ground.data }, { on := 4, ground := Ground.chain }, { on := 0, ground := Ground.phase }, { on := 1, ground := Ground.phase }, { on := 2, ground := Ground.phase }, { on := 3, ground := Ground.phase }, { on := 4, ground := Ground.phase }, { on := 5, ground := Ground.phase }, { on := 6, ground := Ground.phase }, { on := 7, ground := Ground.textOnly Departure.lateStores }, { on := 8, ground := Ground.textOnly Departure.lateStores }, { on := 9, ground := Ground.phase }], guard := none }) rfl (by kernel_rfl) (fun K hK => ?_) AllReadyL.nil)
            have pd0 := P4.cell 0 rfl
            have pd1 := P4.cell 1 rfl
            have pd2 := P4.cell 2 rfl
            have pd3 := P4.cell 3 rfl
            have pd4 := P4.cell 4 rfl
            have pf0 := P4.frozen 0
            have pf1 := P4.frozen 1
            have pf2 := P4.frozen 2
            have pf3 := P4.frozen 3
            have pf4 := P4.frozen 4
            go_simp
            refine K_world ?_
            intro y10 e10
            have G10 : NdSt B W0 y10 R vp vs ve X vt (.slice (some ⟨g, o, none⟩) X.nodes.length nc) bR bX db dc (ds.set k d2) := by rw [e10]; exact ((((G4.far _ _ _ hp1 hp2 hp3 hp4).far _ _ _ hp1 hp2 hp3 hp4).far _ _ _ hp1 hp2 hp3 hp4).far _ _ _ hp1 hp2 hp3 hp4).far _ _ _ hp1 hp2 hp3 hp4
            clear e10 pd0 pf0 pd1 pf1 pd2 pf2 pd3 pf3 pd4 pf4
            refine hK.out _ _ ?_
            clear hK K
            try simp only [Act.put, List.setIfInBounds_toArray, List.set_cons_zero, List.set_cons_succ]
            refine takeW (i := 11) (oi := { dst := some 14, op := Op.assign (Operand.tmp 90), type := 3, pos := "record.go:105", after := #[{ on := 7, ground := Ground.data }, { on := 10, ground := Ground.chain }, { on := 0, ground := Ground.phase }, { on := 1, ground := Ground.phase }, { on := 2, ground := Ground.phase }, { on := 3, ground := Ground.phase }, { on := 4, ground := Ground.phase }, { on := 5, ground := Ground.phase }, { on := 6, ground := Ground.phase }, { on := 7, ground := Ground.phase }, { on := 8, ground := Ground.textOnly Departure.lateStores }, { on := 9, ground := Ground.phase }, { on := 10, ground := Ground.phase }], guard := none }) (v := ?va20) rfl (by kernel_rfl) (by kernel_rfl) (by kernel_rfl) rfl (fun _ _ _ h => h) (Or.inl ⟨by rfl, ?ya20⟩) (fun he => by cases he) ?ra20
            case ya20 => (intro w _; go_simp; first | done | (with_reducible rfl) | (rw [if_neg (by omega)]))
            try simp only [Act.put, List.setIfInBounds_toArray, List.set_cons_zero, List.set_cons_succ]
            refine takeW (i := 12) (oi := { dst := some 15, op := Op.assign (Operand.tmp 91), type := 34, pos := "record.go:105", after := #[{ on := 8, ground := Ground.data }, { on := 11, ground := Ground.chain }, { on := 0, ground := Ground.phase }, { on := 1, ground := Ground.phase }, { on := 2, ground := Ground.phase }, { on := 3, ground := Ground.phase }, { on := 4, ground := Ground.phase }, { on := 5, ground := Ground.phase }, { on := 6, ground := Ground.phase }, { on := 7, ground := Ground.phase }, { on := 8, ground := Ground.phase }, { on := 9, ground := Ground.phase }, { on := 10, ground := Ground.phase }, { on := 11, ground := Ground.phase }], guard := none }) (v := ?va21) rfl (by kernel_rfl) (by kernel_rfl) (by kernel_rfl) rfl (fun _ _ _ h => h) (Or.inl ⟨by rfl, ?ya21⟩) (fun he => by cases he) ?ra21
            case ya21 => (intro w _; go_simp; first | done | (with_reducible rfl) | (rw [if_neg (by omega)]))
            try simp only [Act.put, List.setIfInBounds_toArray, List.set_cons_zero, List.set_cons_succ]
            refine doneL (by kernel_rfl) ?_ _
            refine NoPanic.normal ?_
            have HG := Lib.hid G10
            have HHd := Lib.hid hHeld
            clear G10 HHd
            by_cases hru : runErr R (wayI X.nodes k) = 0
            rotate_left
            · have HF : Hid (nodeE R X.nodes ds k = runErr R (wayI X.nodes k)) := Lib.hid (by rw [HE4.out, if_pos hru])
              generalize hrr : runErr R (wayI X.nodes k) = ru at *
              clear hrr
              go_wp2_with fail
              go_ret
              exact ⟨by rw [HF.out]; rfl, HG.out.low, fun e => absurd (HF.out.symm.trans e) hru⟩
            have HE5 : Hid (nodeE R X.nodes ds k = if 20 < depE X.nodes ds k then 2 else 0) := Lib.hid (by rw [HE4.out, if_neg (fun h => h hru)])
            rw [hru]
            clear hru HE4
            have hdl9 := HG.out.size
            have ci : y10.cell? ⟨db, k, none⟩ = some (.int .i64 d2) := by
              have := HG.out.dp.cellAt k (by omega)
              rw [ints_get _ _ (by rw [HG.out.len]; exact hi), List.getD_eq_getElem?_getD, List.getElem?_set_self (by have := HG.out.len; rw [List.length_set] at this; omega)] at this
              exact this
            by_cases h20 : 20 < d2
            · have HF : Hid (nodeE R X.nodes ds k = 2) := Lib.hid (by rw [HE5.out, if_pos (by rw [HDp.out]; exact h20)])
              go_wp2_with fail
              go_ret
              exact ⟨by rw [HF.out]; rfl, HG.out.low, fun e => by rw [HF.out] at e; cases e⟩
            · have HF : Hid (nodeE R X.nodes ds k = 0) := Lib.hid (by rw [HE5.out, if_neg (by rw [HDp.out]; exact h20)])
              go_wp2_with fail
              go_ret
              exact ⟨by rw [HF.out]; rfl, HG.out.low, fun _ => by rw [HDp.out]; exact HG.out.dp⟩
end Go.Proofs.Ytnieifdogllbfaa
/- record.Check. -/
namespace Go.Proofs.Ytnieifdogllbfaa
open Go.ChangeShapes Go.WideShapes Go.ChangeAt Go.RowKit
set_option linter.unusedVariables false

theorem depE_b {R : RulesZ} {ns : List NodeZ} {ds : List Int} {i : Nat} (hd : ∀ k, 0 ≤ ds.getD k 0 ∧ ds.getD k 0 ≤ 20) (h : nodeE R ns ds i = 0) : 0 ≤ depE ns ds i ∧ depE ns ds i ≤ 20 := by
  constructor
  · unfold depE
    have := hd (ndAt ns i).parent.toNat
    have := hd i
    split <;> split <;> omega
  · unfold nodeE at h
    by_cases h1 : cmtErr (ndAt ns i).comment ≠ 0
    · rw [if_pos h1] at h; exact absurd h h1
    rw [if_neg h1] at h
    by_cases h2 : (i : Int) ≤ (ndAt ns i).parent ∨ onB ns (ndAt ns i).parent ((i : Int) - 1) = false
    · rw [if_pos h2] at h; cases h
    rw [if_neg h2] at h
    by_cases h3 : twinB ns i = true
    · rw [if_pos h3] at h; cases h
    rw [if_neg h3] at h
    by_cases h4 : runErr R (wayI ns i) ≠ 0
    · rw [if_pos h4] at h; exact absurd h h4
    rw [if_neg h4] at h
    by_cases h5 : 20 < depE ns ds i
    · rw [if_pos h5] at h; cases h
    · omega
theorem set_b {ds : List Int} (hd : ∀ k, 0 ≤ ds.getD k 0 ∧ ds.getD k 0 ≤ 20) (i : Nat) (v : Int) (hv : 0 ≤ v ∧ v ≤ 20) (k : Nat) : 0 ≤ (ds.set i v).getD k 0 ∧ (ds.set i v).getD k 0 ≤ 20 := by
  rw [List.getD_eq_getElem?_getD, List.getElem?_set]
  by_cases e : i = k
  · rw [if_pos e]
    split
    · exact hv
    · simp
  · rw [if_neg e, ← List.getD_eq_getElem?_getD]; exact hd k
set_option maxRecDepth 100000 in
set_option maxHeartbeats 16000000 in
theorem recCheck_any (HS : SortMvSaid) (R : RulesZ) (vp vs ve : Value) (X : RecZ) (vt vn : Value) (w : World) (hr : RdR w R vp vs ve) (hnm : R.name.size ≤ maxLen) (hx : RdX w X vt vn) :
    Calls Try.prog 7 #[(.agg #[.string R.name, .int .i64 R.width, .int .i64 R.height, vp, vs, .bool R.falls, .bool R.keeps, ve, .int .i64 R.blocked, .int .i64 R.quiet, .int .i64 R.rept]), recV X vt vn] w fun e w' => e = .returned (.int .i64 (recErr R X)) ∧ Below w.heap.size w w' := by
  have HSh := Lib.hid HS
  have HR := Lib.hid hr
  have HN := Lib.hid hnm
  have HX := Lib.hid hx
  have HE : Hid (recErr R X = if rulesErr R ≠ 0 then rulesErr R else if 10 < X.tags.length ∨ 200 < X.nodes.length then 2 else if tagsE X.tags ≠ 0 then tagsE X.tags else
    if X.result < 0 ∨ 3 < X.result then 4 else if cmtErr X.comment ≠ 0 then cmtErr X.comment else nodesE R X.nodes X.nodes.length 0 (List.replicate X.nodes.length 0)) := Lib.hid rfl
  obtain ⟨na, nc, rfl, hn1, hn2⟩ := hx.2.1.form
  obtain ⟨ta, tc, rfl, ht1, ht2⟩ := hx.1.form
  obtain ⟨i0, hi, hz0, hz1, hz2⟩ := info_parts info3
  have hcs := hx.2.2
  unfold maxLen at hn2 ht2
  clear hr hnm hx HS
  unfold recV
  go_enter Try.func7, Try.ntmps7
  go_upto_region 1 with (fail)
  obtain ⟨bR, hbR⟩ : ∃ bR, bR = w.heap.size := ⟨_, rfl⟩
  obtain ⟨bX, hbX⟩ : ∃ bX, bX = w.heap.size + 1 := ⟨_, rfl⟩
  have HbR : Hid (Box ((w.alloc (.cells #[.string R.name, .int .i64 R.width, .int .i64 R.height, vp, vs, .bool R.falls, .bool R.keeps, ve, .int .i64 R.blocked, .int .i64 R.quiet, .int .i64 R.rept] 26)).alloc (.cells #[.slice ta X.tags.length tc, .string X.comment, .slice na X.nodes.length nc, .int .i64 X.result] 30)) bR [.string R.name, .int .i64 R.width, .int .i64 R.height, vp, vs, .bool R.falls, .bool R.keeps, ve, .int .i64 R.blocked, .int .i64 R.quiet, .int .i64 R.rept] 26) := Lib.hid ((Box.new' w bR [.string R.name, .int .i64 R.width, .int .i64 R.height, vp, vs, .bool R.falls, .bool R.keeps, ve, .int .i64 R.blocked, .int .i64 R.quiet, .int .i64 R.rept] 26 hbR.symm).alloc _)
  have HbX : Hid (Box ((w.alloc (.cells #[.string R.name, .int .i64 R.width, .int .i64 R.height, vp, vs, .bool R.falls, .bool R.keeps, ve, .int .i64 R.blocked, .int .i64 R.quiet, .int .i64 R.rept] 26)).alloc (.cells #[.slice ta X.tags.length tc, .string X.comment, .slice na X.nodes.length nc, .int .i64 X.result] 30)) bX [.slice ta X.tags.length tc, .string X.comment, .slice na X.nodes.length nc, .int .i64 X.result] 30) := Lib.hid (Box.new' (w.alloc (.cells #[.string R.name, .int .i64 R.width, .int .i64 R.height, vp, vs, .bool R.falls, .bool R.keeps, ve, .int .i64 R.blocked, .int .i64 R.quiet, .int .i64 R.rept] 26)) bX [.slice ta X.tags.length tc, .string X.comment, .slice na X.nodes.length nc, .int .i64 X.result] 30 (by rw [World.size_alloc, hbX]))
  have HB : Hid (Below w.heap.size w ((w.alloc (.cells #[.string R.name, .int .i64 R.width, .int .i64 R.height, vp, vs, .bool R.falls, .bool R.keeps, ve, .int .i64 R.blocked, .int .i64 R.quiet, .int .i64 R.rept] 26)).alloc (.cells #[.slice ta X.tags.length tc, .string X.comment, .slice na X.nodes.length nc, .int .i64 X.result] 30))) := Lib.hid (((Below.refl w.heap.size w).alloc (Nat.le_refl _) _).alloc (by rw [World.size_alloc]; omega) _)
  rw [← hbR, show bR + 1 = bX by omega]
  clear hbX hbR
  generalize ((w.alloc (.cells #[.string R.name, .int .i64 R.width, .int .i64 R.height, vp, vs, .bool R.falls, .bool R.keeps, ve, .int .i64 R.blocked, .int .i64 R.quiet, .int .i64 R.rept] 26)).alloc (.cells #[.slice ta X.tags.length tc, .string X.comment, .slice na X.nodes.length nc, .int .i64 X.result] 30)) = w0 at *
  refine wp_region_lit ?_
  refine wpList_load_box (by rfl) 26 (.tmp 2) (by rfl) bR (by rfl) HbR.out Try.underlying26 (by rfl) (by kernel_rfl) ?_
  go_wp2_with fail
  refine (rulesCheck_any R vp vs ve _ (HR.out.below HB.out (Nat.le_refl _)) HN.out).mono ?_
  rintro e w1 ⟨rfl, hb1⟩
  have HB1 := Lib.hid (HB.out.trans (hb1.mono HB.out.size))
  have HbR1 := Lib.hid (HbR.out.stays hb1)
  have HbX1 := Lib.hid (HbX.out.stays hb1)
  clear HB HbR HbX hb1
  by_cases hre : rulesErr R = 0
  rotate_left
  · have HF : Hid (recErr R X = rulesErr R) := Lib.hid (by rw [HE.out, if_pos hre])
    generalize hrr : rulesErr R = re at *
    clear hrr
    go_wp2_with fail
    go_ret
    exact ⟨by rw [HF.out]; rfl, HB1.out⟩
  have HE1 : Hid (recErr R X = if 10 < X.tags.length ∨ 200 < X.nodes.length then 2 else if tagsE X.tags ≠ 0 then tagsE X.tags else
    if X.result < 0 ∨ 3 < X.result then 4 else if cmtErr X.comment ≠ 0 then cmtErr X.comment else nodesE R X.nodes X.nodes.length 0 (List.replicate X.nodes.length 0)) := Lib.hid (by rw [HE.out, if_neg (fun h => h hre)])
  rw [hre]
  clear hre HE
  have x0 := HbX1.out.cell 0 rfl
  have x2 := HbX1.out.cell 2 rfl
  have hxl := HbX1.out.lt
  by_cases ht10 : (10 : Int) < (X.tags.length : Int)
  · have HF : Hid (recErr R X = 2) := Lib.hid (by rw [HE1.out, if_pos (.inl (by omega))])
    go_wp2_with fail
    go_ret
    exact ⟨by rw [HF.out]; rfl, HB1.out⟩
  by_cases hn200 : (200 : Int) < (X.nodes.length : Int)
  · have HF : Hid (recErr R X = 2) := Lib.hid (by rw [HE1.out, if_pos (.inr (by omega))])
    go_wp2_with fail
    go_ret
    exact ⟨by rw [HF.out]; rfl, HB1.out⟩
  have HE2 : Hid (recErr R X = if tagsE X.tags ≠ 0 then tagsE X.tags else
    if X.result < 0 ∨ 3 < X.result then 4 else if cmtErr X.comment ≠ 0 then cmtErr X.comment else nodesE R X.nodes X.nodes.length 0 (List.replicate X.nodes.length 0)) := Lib.hid (by rw [HE1.out, if_neg (by omega)])
  clear HE1
  have HTg := fun w' hb => tags_any X (.slice ta X.tags.length tc) (.slice na X.nodes.length nc) w' (HX.out.below hb (Nat.le_refl _)) (by omega)
  have HTg := Lib.hid HTg
  go_upto_region 6 with (fail)
  refine wp_region_lit ?_
  refine wpList_load_box (by rfl) 30 (.tmp 3) (by rfl) bX (by rfl) HbX1.out Try.underlying30 (by rfl) (by kernel_rfl) ?_
  go_wp2_with fail
  refine (HTg.out _ HB1.out).mono ?_
  rintro e w2 ⟨rfl, hb2⟩
  have HB2 := Lib.hid (HB1.out.trans (hb2.mono HB1.out.size))
  have HbR2 := Lib.hid (HbR1.out.stays hb2)
  have HbX2 := Lib.hid (HbX1.out.stays hb2)
  clear HB1 HbR1 HbX1 hb2 x0 x2 HTg
  by_cases hte : tagsE X.tags = 0
  rotate_left
  · have HF : Hid (recErr R X = tagsE X.tags) := Lib.hid (by rw [HE2.out, if_pos hte])
    generalize hrr : tagsE X.tags = re at *
    clear hrr
    go_wp2_with fail
    go_ret
    exact ⟨by rw [HF.out]; rfl, HB2.out⟩
  have HE3 : Hid (recErr R X = if X.result < 0 ∨ 3 < X.result then 4 else if cmtErr X.comment ≠ 0 then cmtErr X.comment else nodesE R X.nodes X.nodes.length 0 (List.replicate X.nodes.length 0)) := Lib.hid (by rw [HE2.out, if_neg (fun h => h hte)])
  rw [hte]
  clear hte HE2
  have x1 := HbX2.out.cell 1 rfl
  have x2 := HbX2.out.cell 2 rfl
  have x3 := HbX2.out.cell 3 rfl
  have hxl := HbX2.out.lt
  by_cases hr0 : X.result < 0
  · have HF : Hid (recErr R X = 4) := Lib.hid (by rw [HE3.out, if_pos (.inl hr0)])
    go_wp2_with fail
    go_ret
    exact ⟨by rw [HF.out]; rfl, HB2.out⟩
  by_cases hr3 : 3 < X.result
  · have HF : Hid (recErr R X = 4) := Lib.hid (by rw [HE3.out, if_pos (.inr hr3)])
    go_wp2_with fail
    go_ret
    exact ⟨by rw [HF.out]; rfl, HB2.out⟩
  have HE4 : Hid (recErr R X = if cmtErr X.comment ≠ 0 then cmtErr X.comment else nodesE R X.nodes X.nodes.length 0 (List.replicate X.nodes.length 0)) := Lib.hid (by rw [HE3.out, if_neg (by omega)])
  have HCm := Lib.hid (comment_any X.comment w2 hcs)
  clear HE3
  by_cases hce : cmtErr X.comment = 0
  rotate_left
  · have HF : Hid (recErr R X = cmtErr X.comment) := Lib.hid (by rw [HE4.out, if_pos hce])
    generalize hrr : cmtErr X.comment = re at *
    clear hrr
    go_wp2_with (go_at_call 15; refine HCm.out.mono ?_; rintro e w5 ⟨rfl, rfl⟩)
    go_ret
    exact ⟨by rw [HF.out]; rfl, HB2.out⟩
  have HE5 : Hid (recErr R X = nodesE R X.nodes X.nodes.length 0 (List.replicate X.nodes.length 0)) := Lib.hid (by rw [HE4.out, if_neg (fun h => h hce)])
  rw [hce] at HCm
  clear hce HE4
  obtain ⟨bb, hbb⟩ : ∃ bb, bb = w2.heap.size := ⟨_, rfl⟩
  go_upto_region 15 with (first
    | (go_at_call 15; refine HCm.out.mono ?_; rintro e w5 ⟨rfl, rfl⟩)
    | (at_make; refine wpList_make_full _ rfl _ _ 23 rfl w2.heap.size 3 i0 (.int .i64 0) 1 Try.underlying23 hi hz0 hz1 .i64 .i64 X.nodes.length X.nodes.length X.nodes.length rfl rfl rfl rfl (by rw [hz2]; omega) (by unfold maxLen; omega) (Nat.le_refl _) ?_; intro w3 hown hgrow))
  rw [made_ints] at hown
  rw [← hbb] at hown ⊢
  have HO3 := Lib.hid hown
  have HB3 : Hid (Below bb w2 w3) := Lib.hid (by rw [hbb]; exact Below.grown (Below.refl _ w2) hgrow (Nat.le_refl _) (fun q hq => by cases hq))
  have hbRl : bR < bb := by rw [hbb]; exact HbR2.out.lt
  have hbXl : bX < bb := by rw [hbb]; exact HbX2.out.lt
  have hbb1 : w2.heap.size ≤ bb := by omega
  have hbb2 : bb ≤ w2.heap.size := by omega
  have hw2 := HB2.out.size
  have hb3l := (HO3.out.lt bb rfl).2
  have x23 := (HbX2.out.below HB3.out hbXl).cell 2 rfl
  clear hown hgrow hbb HCm x1 x2 x3
  have HD0 : Hid (∀ k, 0 ≤ (List.replicate X.nodes.length (0 : Int)).getD k 0 ∧ (List.replicate X.nodes.length (0 : Int)).getD k 0 ≤ 20) := Lib.hid (fun k => by
    have : (List.replicate X.nodes.length (0 : Int)).getD k 0 = 0 := by
      rw [List.getD_eq_getElem?_getD, List.getElem?_replicate]; split <;> rfl
    rw [this]; omega)
  go_wp2_with fail
  go_loopw [52, 9, 10] (fun v52 v9 v10 wr => ∃ (k : Nat) (o9 o10 : Value) (ds : List Int), o9 = v9 ∧ o10 = v10 ∧ k ≤ X.nodes.length ∧ v52 = .int .i64 k ∧ Hid (recErr R X = nodesE R X.nodes (X.nodes.length - k) k ds) ∧ Hid (NodesOK R X.nodes k) ∧ Hid (∀ j, 0 ≤ ds.getD j 0 ∧ ds.getD j 0 ≤ 20) ∧ Hid (wr.ownsRow bb 3 1 (.slice (some ⟨bb, 0, none⟩) X.nodes.length X.nodes.length) X.nodes.length (ints ds)) ∧ Hid (Below bb w2 wr)) (fun v _ _ _ => X.nodes.length - (intOf v).toNat)
  case atStart => exact ⟨0, _, _, List.replicate X.nodes.length 0, rfl, rfl, Nat.zero_le _, rfl, HE5, Lib.hid ⟨fun k hk => absurd hk (Nat.not_lt_zero _), fun k hk => absurd hk (Nat.not_lt_zero _), fun k _ _ hk => absurd hk (Nat.not_lt_zero _), fun k hk => absurd hk (Nat.not_lt_zero _)⟩, HD0, HO3, HB3⟩
  case round =>
    obtain ⟨k, o9, o10, ds, rfl, rfl, hk, rfl, HK, HNk, HDs, HO, HBr⟩ := hrel
    by_cases hlt : k < X.nodes.length
    · have HNd := Lib.hid (node_any HSh.out R vp vs ve X (.slice ta X.tags.length tc) (.slice na X.nodes.length nc) ds bb bb X.nodes.length k w2 wr (HR.out.below HB2.out (Nat.le_refl _)) HN.out (HX.out.below HB2.out (Nat.le_refl _)) hbb1 HBr.out HO.out hlt (by omega) HNk.out.back HDs.out)
      have HbRr := Lib.hid (HbR2.out.below HBr.out hbRl)
      have HbXr := Lib.hid (HbX2.out.below HBr.out hbXl)
      have HKs : Hid (recErr R X = if nodeE R X.nodes ds k ≠ 0 then nodeE R X.nodes ds k else nodesE R X.nodes (X.nodes.length - (k + 1)) (k + 1) (ds.set k (depE X.nodes ds k))) := Lib.hid (by
        rw [HK.out, show X.nodes.length - k = (X.nodes.length - (k + 1)) + 1 by omega, nodesE])
      unfold recV at HNd
      have hkl : (k : Int) < (X.nodes.length : Int) := by omega
      clear HK
      go_upto_region 18 with (fail)
      refine wp_region_lit ?_
      refine wpList_load_box (by rfl) 26 (.tmp 2) (by rfl) bR (by rfl) HbRr.out Try.underlying26 (by rfl) (by kernel_rfl) ?_
      refine wpList_load_box (by rfl) 30 (.tmp 3) (by rfl) bX (by rfl) HbXr.out Try.underlying30 (by rfl) (by kernel_rfl) ?_
      go_wp2_with fail
      refine HNd.out.mono ?_
      rintro e w6 ⟨rfl, hb6, ho6⟩
      have HB6 := Lib.hid hb6
      clear hb6 HNd
      by_cases hne : nodeE R X.nodes ds k = 0
      · have HO6 := Lib.hid (ho6 hne)
        have HK6 : Hid (recErr R X = nodesE R X.nodes (X.nodes.length - (k + 1)) (k + 1) (ds.set k (depE X.nodes ds k))) := Lib.hid (by rw [HKs.out, if_neg (fun h => h hne)])
        have HN6 := Lib.hid (nodeE_zero hlt HNk.out hne)
        have HD6 := Lib.hid (set_b HDs.out k _ (depE_b HDs.out hne))
        rw [hne]
        clear ho6 hne HKs
        go_wp2_with fail
        go_roundw
        case rel => exact ⟨k + 1, _, _, _, rfl, rfl, by omega, by go_num, HK6, HN6, HD6, HO6, HB6⟩
        case measure => simp [intOf]; omega
      · have HF : Hid (recErr R X = nodeE R X.nodes ds k) := Lib.hid (by rw [HKs.out, if_pos hne])
        generalize hrr : nodeE R X.nodes ds k = re at *
        clear hrr ho6 HKs
        go_wp2_with fail
        go_ret
        exact ⟨by rw [HF.out]; rfl, HB2.out.trans (HB6.out.mono (by omega))⟩
    · obtain rfl : k = X.nodes.length := by omega
      have HF : Hid (recErr R X = 0) := Lib.hid (by rw [HK.out, Nat.sub_self]; rfl)
      go_wp2_with fail
      go_ret
      exact ⟨by rw [HF.out]; rfl, HB2.out.trans (HBr.out.mono (by omega))⟩
end Go.Proofs.Ytnieifdogllbfaa

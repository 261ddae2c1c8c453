/- The contracts of ends.Result, ends.Moves (the sort's contract as a hypothesis). -/
import Derived.Test.YtnieifdogllbfaaEnd2
import Derived.Test.YtnieifdogllbfaaMvL
namespace Go.Proofs.Ytnieifdogllbfaa
open Go.ChangeShapes Go.WideShapes Go.ChangeAt Go.RowKit
set_option linter.unusedVariables false


theorem IndexFunc_en (v : Value) (xs : List EndZ) (p : EndZ → Bool) (f : FuncId) (caps : Array Value) (w : World) (h : RdL endEl w v xs) (hf : ∀ (args : Array Value) (w : World), (callFunc f args).run Try.prog w = .ok (.enter f args) w)
    (hc : ∀ (W : World) (x : EndZ) (cs : List Value), x ∈ xs → endEl.E W x cs → Below w.heap.size w W → Calls Try.prog f (#[.agg cs.toArray] ++ caps) W fun e w' => e = .returned (.bool (p x)) ∧ Below W.heap.size W w') :
    Calls Try.prog 65 #[v, .func (.func f) #[] caps] w fun e w' => e = .returned (.int .i64 (idxL p xs 0)) ∧ Below w.heap.size w w' := by
  obtain ⟨a, c, rfl, h1, h2⟩ := h.form
  unfold maxLen at h2
  have HR := Lib.hid h
  have HC := Lib.hid hc
  clear h hc
  go_enter Try.func65, Try.ntmps65
  go_wp2_with fail
  go_loopw [8] (fun i wr => ∃ k : Nat, k ≤ xs.length ∧ i = .int .i64 k ∧ Hid (idxL p xs 0 = idxL p (xs.drop k) k) ∧ Below w.heap.size w wr) (fun i _ => xs.length - (intOf i).toNat)
  case atStart => exact ⟨0, Nat.zero_le _, rfl, Lib.hid rfl, Below.refl _ _⟩
  case round =>
    obtain ⟨k, hk, rfl, HK, hbl⟩ := hrel
    by_cases hlt : k < xs.length
    · obtain ⟨g, o, rfl, hg, hcc⟩ := (HR.out.below hbl (Nat.le_refl _)).some (by omega)
      obtain ⟨cs, hE, hcell⟩ := hcc k hlt
      have hcl := endEl.len hE
      simp only [endEl] at hcl
      obtain ⟨c0, c1, c2, c3, rfl⟩ : ∃ c0 c1 c2 c3, cs = [c0, c1, c2, c3] := by
        match cs, hcl with
        | [c0, c1, c2, c3], _ => exact ⟨_, _, _, _, rfl⟩
      have q0 := hcell 0 (by decide)
      have q1 := hcell 1 (by decide)
      have q2 := hcell 2 (by decide)
      have q3 := hcell 3 (by decide)
      simp only [endEl, List.getElem?_cons_zero, List.getElem?_cons_succ, Nat.add_zero] at q0 q1 q2 q3
      have HS := Lib.hid (idxL_step p xs k hlt)
      have HCk := Lib.hid (HC.out wr xs[k] [c0, c1, c2, c3] (List.getElem_mem hlt) hE hbl)
      have HB := Lib.hid hbl
      clear hcell hcc hE hcl hbl
      generalize xs[k] = x at *
      go_wp2_with fail
      refine HCk.out.mono ?_
      rintro e w1 ⟨rfl, hb1⟩
      have HB1 := Lib.hid (below_trans HB.out hb1 HB.out.size)
      clear hb1
      cases hpx : p x
      · go_wp2_with fail
        go_roundw
        case rel => exact ⟨k + 1, by omega, by go_num, Lib.hid (by rw [HK.out, HS.out, if_neg (by simp [hpx])]), HB1.out⟩
        case measure => simp [intOf]; omega
      · go_wp2_with fail
        go_ret
        exact ⟨by rw [HK.out, HS.out, if_pos hpx]; rfl, HB1.out⟩
    · obtain rfl : k = xs.length := by omega
      go_wp2_with fail
      go_ret
      exact ⟨by rw [HK.out]; simp [idxL], hbl⟩

def resultZ (R : RulesZ) (p : PosZ) : Int :=
  if 0 ≤ idxL (fun x => holdsZ R p x (1 - p.turn)) R.ends 0 then
    (if (R.ends.getD (idxL (fun x => holdsZ R p x (1 - p.turn)) R.ends 0).toNat default).loses = true then 1 + p.turn else 1 + (1 - p.turn))
  else if R.quiet ≠ 0 ∧ R.quiet ≤ p.quiet then 3
  else if 0 < (listZ R p).length then 0
  else if R.blocked = 0 then 1 + (1 - p.turn)
  else if R.blocked = 1 then 1 + p.turn else 3
theorem idxL_range {α : Type} (f : α → Bool) : ∀ (l : List α) (k : Int), 0 ≤ k → idxL f l k = -1 ∨ (k ≤ idxL f l k ∧ idxL f l k < k + l.length)
  | [], k, _ => .inl rfl
  | x :: t, k, hk => by
    unfold idxL
    cases h : f x
    · have ih := idxL_range f t (k + 1) (by omega)
      simp only [Bool.false_eq_true, if_false, List.length_cons]
      omega
    · simp only [if_true, List.length_cons]
      omega
theorem wins_any (n : Int) (w : World) (h1 : 0 ≤ n) (h2 : n ≤ 1) : Calls Try.prog 68 #[.int .i64 n] w fun e w' => e = .returned (.int .i64 (1 + n)) ∧ w = w' := by
  go_enter Try.func68, Try.ntmps68
  go_wp2
  go_ret
  exact ⟨rfl, rfl⟩
set_option maxRecDepth 100000 in
theorem res1_any (R : RulesZ) (vp vs ve : Value) (p : PosZ) (ac : Option Addr) (cc : Nat) (v0 v1 : Value) (x : EndZ) (mv : Int) (b0 b1 b2 : Nat) (w : World) (B0 : Box w b0 [.string R.name, .int .i64 R.width, .int .i64 R.height, vp, vs, .bool R.falls, .bool R.keeps, ve, .int .i64 R.blocked, .int .i64 R.quiet, .int .i64 R.rept] 26) (B1 : Box w b1 [.slice ac p.cells.length cc, v0, v1, .int .i64 p.turn, .int .i64 p.quiet] 43) (B2 : Box w b2 [.int .i64 mv] 3)
    (hp : RdI w (.slice ac p.cells.length cc) p.cells) (K : POk R p) (hx : endErr R.pieces.length x = 0) (hm : mv = 0 ∨ mv = 1) :
    Calls Try.prog 66 (#[.agg #[.int .i64 x.kind, .int .i64 x.piece, .int .i64 x.count, .bool x.loses]] ++ #[.pointer (some ⟨b0, 0, none⟩), .pointer (some ⟨b1, 0, none⟩), .pointer (some ⟨b2, 0, none⟩)]) w fun e w' => e = .returned (.bool (holdsZ R p x mv)) ∧ Below w.heap.size w w' := by
  show Calls Try.prog 66 #[.agg #[.int .i64 x.kind, .int .i64 x.piece, .int .i64 x.count, .bool x.loses], .pointer (some ⟨b0, 0, none⟩), .pointer (some ⟨b1, 0, none⟩), .pointer (some ⟨b2, 0, none⟩)] w _
  have HHO := fun (w' : World) (h : Below w.heap.size w w') => Lib.hid (holds_any R vp vs ve p _ v0 v1 x mv w' (hp.below h (Nat.le_refl _)) K hx hm)
  have HHh := Lib.hid HHO
  have HX := Lib.hid B0
  have HY := Lib.hid B1
  have HZ := Lib.hid B2
  clear B0 B1 B2 hp HHO
  go_enter Try.func66, Try.ntmps66
  go_upto_region 1 with (fail)
  have hb0 := (Box.new' w w.heap.size [.int .i64 x.kind, .int .i64 x.piece, .int .i64 x.count, .bool x.loses] 68 rfl)
  have HB : Hid (Below w.heap.size w (w.alloc (.cells #[.int .i64 x.kind, .int .i64 x.piece, .int .i64 x.count, .bool x.loses] 68))) := Lib.hid ((Below.refl w.heap.size w).alloc (Nat.le_refl _) _)
  generalize (w.alloc (.cells #[.int .i64 x.kind, .int .i64 x.piece, .int .i64 x.count, .bool x.loses] 68)) = w0 at *
  have q0 := (HX.out.stays HB.out).cell 0 rfl
  have q1 := (HX.out.stays HB.out).cell 1 rfl
  have q2 := (HX.out.stays HB.out).cell 2 rfl
  have q3 := (HX.out.stays HB.out).cell 3 rfl
  have q4 := (HX.out.stays HB.out).cell 4 rfl
  have q5 := (HX.out.stays HB.out).cell 5 rfl
  have q6 := (HX.out.stays HB.out).cell 6 rfl
  have q7 := (HX.out.stays HB.out).cell 7 rfl
  have q8 := (HX.out.stays HB.out).cell 8 rfl
  have q9 := (HX.out.stays HB.out).cell 9 rfl
  have q10 := (HX.out.stays HB.out).cell 10 rfl
  have e0 := (HY.out.stays HB.out).cell 0 rfl
  have e1 := (HY.out.stays HB.out).cell 1 rfl
  have e2 := (HY.out.stays HB.out).cell 2 rfl
  have e3 := (HY.out.stays HB.out).cell 3 rfl
  have e4 := (HY.out.stays HB.out).cell 4 rfl
  have z0 := (HZ.out.stays HB.out).cell 0 rfl
  have x0 := hb0.cell 0 rfl
  have x1 := hb0.cell 1 rfl
  have x2 := hb0.cell 2 rfl
  have x3 := hb0.cell 3 rfl
  clear hb0
  go_wp2_with fail
  refine (HHh.out w0 HB.out).out.mono ?_
  rintro e w1 ⟨rfl, hb1⟩
  have HB1 := Lib.hid (below_trans HB.out hb1 HB.out.size)
  clear hb1
  clear q0 q1 q2 q3 q4 q5 q6 q7 q8 q9 q10 e0 e1 e2 e3 e4 z0 x0 x1 x2 x3
  go_wp2_with fail
  go_ret
  exact ⟨rfl, HB1.out⟩
theorem callRes1 (args : Array Value) (w : World) : (callFunc 66 args).run Try.prog w = .ok (.enter 66 args) w := by kernel_rfl

set_option maxRecDepth 100000 in
set_option maxHeartbeats 4000000 in
theorem Result_any (HS : SortMvSaid) (R : RulesZ) (vp vs ve : Value) (p : PosZ) (vc v0 v1 : Value) (w : World) (hr : RdR w R vp vs ve) (hp : RdP w p vc v0 v1) (K : POk R p) :
    Calls Try.prog 45 #[(.agg #[.string R.name, .int .i64 R.width, .int .i64 R.height, vp, vs, .bool R.falls, .bool R.keeps, ve, .int .i64 R.blocked, .int .i64 R.quiet, .int .i64 R.rept]), (.agg #[vc, v0, v1, .int .i64 p.turn, .int .i64 p.quiet])] w fun e w' => e = .returned (.int .i64 (resultZ R p)) ∧ Below w.heap.size w w' := by
  have HR := Lib.hid hr
  have HP := Lib.hid hp
  have HSh := Lib.hid HS
  obtain ⟨ac, cc, rfl, hc1, hc2⟩ := hp.1.form
  obtain ⟨ae, ce, rfl, he1, he2⟩ := hr.2.2.form
  unfold maxLen at hc2 he2
  have htu : (1 - p.turn = 0 ∨ 1 - p.turn = 1) := by have := K.tu; omega
  have ht0 : 0 ≤ p.turn ∧ p.turn ≤ 1 := by have := K.tu; omega
  obtain ⟨ht1, ht2⟩ := ht0
  obtain ⟨hqu1, hqu2⟩ := K.qu
  obtain ⟨hrq1, hrq2⟩ := K.r.qu
  obtain ⟨hbl1, hbl2⟩ := K.r.bl
  have HD : Hid (resultZ R p = if 0 ≤ idxL (fun x => holdsZ R p x (1 - p.turn)) R.ends 0 then (if (R.ends.getD (idxL (fun x => holdsZ R p x (1 - p.turn)) R.ends 0).toNat default).loses = true then 1 + p.turn else 1 + (1 - p.turn))
    else if R.quiet ≠ 0 ∧ R.quiet ≤ p.quiet then 3 else if 0 < (listZ R p).length then 0 else if R.blocked = 0 then 1 + (1 - p.turn) else if R.blocked = 1 then 1 + p.turn else 3) := Lib.hid rfl
  have HRG := Lib.hid (idxL_range (fun x => holdsZ R p x (1 - p.turn)) R.ends 0 (by omega))
  clear hr hp HS
  go_enter Try.func45, Try.ntmps45
  go_upto_region 1 with (fail)
  have B0 : Box ((w.alloc (.cells #[.string R.name, .int .i64 R.width, .int .i64 R.height, vp, vs, .bool R.falls, .bool R.keeps, (.slice ae R.ends.length ce), .int .i64 R.blocked, .int .i64 R.quiet, .int .i64 R.rept] 26)).alloc (.cells #[.slice ac p.cells.length cc, v0, v1, .int .i64 p.turn, .int .i64 p.quiet] 43)) (w.heap.size) [.string R.name, .int .i64 R.width, .int .i64 R.height, vp, vs, .bool R.falls, .bool R.keeps, (.slice ae R.ends.length ce), .int .i64 R.blocked, .int .i64 R.quiet, .int .i64 R.rept] 26 := ((Box.new' w (w.heap.size) [.string R.name, .int .i64 R.width, .int .i64 R.height, vp, vs, .bool R.falls, .bool R.keeps, (.slice ae R.ends.length ce), .int .i64 R.blocked, .int .i64 R.quiet, .int .i64 R.rept] 26 (by simp <;> omega)).alloc _)
  have B1 : Box ((w.alloc (.cells #[.string R.name, .int .i64 R.width, .int .i64 R.height, vp, vs, .bool R.falls, .bool R.keeps, (.slice ae R.ends.length ce), .int .i64 R.blocked, .int .i64 R.quiet, .int .i64 R.rept] 26)).alloc (.cells #[.slice ac p.cells.length cc, v0, v1, .int .i64 p.turn, .int .i64 p.quiet] 43)) (w.heap.size + 1) [.slice ac p.cells.length cc, v0, v1, .int .i64 p.turn, .int .i64 p.quiet] 43 := (Box.new' (w.alloc (.cells #[.string R.name, .int .i64 R.width, .int .i64 R.height, vp, vs, .bool R.falls, .bool R.keeps, (.slice ae R.ends.length ce), .int .i64 R.blocked, .int .i64 R.quiet, .int .i64 R.rept] 26)) (w.heap.size + 1) [.slice ac p.cells.length cc, v0, v1, .int .i64 p.turn, .int .i64 p.quiet] 43 (by simp <;> omega))
  have HB : Hid (Below w.heap.size w ((w.alloc (.cells #[.string R.name, .int .i64 R.width, .int .i64 R.height, vp, vs, .bool R.falls, .bool R.keeps, (.slice ae R.ends.length ce), .int .i64 R.blocked, .int .i64 R.quiet, .int .i64 R.rept] 26)).alloc (.cells #[.slice ac p.cells.length cc, v0, v1, .int .i64 p.turn, .int .i64 p.quiet] 43))) := Lib.hid (((Below.refl w.heap.size w).alloc (Nat.le_refl _) _).alloc (by simp <;> omega) _)
  have hz0 : w.heap.size + 1 < ((w.alloc (.cells #[.string R.name, .int .i64 R.width, .int .i64 R.height, vp, vs, .bool R.falls, .bool R.keeps, (.slice ae R.ends.length ce), .int .i64 R.blocked, .int .i64 R.quiet, .int .i64 R.rept] 26)).alloc (.cells #[.slice ac p.cells.length cc, v0, v1, .int .i64 p.turn, .int .i64 p.quiet] 43)).heap.size := by simp
  generalize ((w.alloc (.cells #[.string R.name, .int .i64 R.width, .int .i64 R.height, vp, vs, .bool R.falls, .bool R.keeps, (.slice ae R.ends.length ce), .int .i64 R.blocked, .int .i64 R.quiet, .int .i64 R.rept] 26)).alloc (.cells #[.slice ac p.cells.length cc, v0, v1, .int .i64 p.turn, .int .i64 p.quiet] 43)) = w0 at *
  have HRw := Lib.hid (HR.out.below HB.out (Nat.le_refl _))
  have HPw := Lib.hid (HP.out.below HB.out (Nat.le_refl _))
  have HBx := Lib.hid B0
  have HBy := Lib.hid B1
  have e2 := B1.cell 3 rfl
  clear B0 B1
  go_upto_region 2 with (fail)
  clear e2
  have hbm := (Box.new' w0 w0.heap.size [.int .i64 (1 - p.turn)] 3 rfl)
  have HBm : Hid (Below w0.heap.size w0 (w0.alloc (.cells #[.int .i64 (1 - p.turn)] 3))) := Lib.hid ((Below.refl w0.heap.size w0).alloc (Nat.le_refl _) _)
  generalize (w0.alloc (.cells #[.int .i64 (1 - p.turn)] 3)) = w1 at *
  have HBz := Lib.hid hbm
  have q7 := (HBx.out.below HBm.out (by omega)).cell 7 rfl
  have hz1 := hbm.lt
  clear hbm
  have HIX := Lib.hid (IndexFunc_en (.slice ae R.ends.length ce) R.ends (fun x => holdsZ R p x (1 - p.turn)) 66 #[.pointer (some ⟨w.heap.size, 0, none⟩), .pointer (some ⟨w.heap.size + 1, 0, none⟩), .pointer (some ⟨w0.heap.size, 0, none⟩)] w1 (HRw.out.2.2.below HBm.out (Nat.le_refl _)) callRes1
    (fun W x cs hx hE hW => by
      simp only [endEl] at hE
      subst hE
      obtain ⟨i, hi, rfl⟩ := List.mem_iff_getElem.1 hx
      have hee := K.r.ee i hi
      rw [List.getD_eq_getElem?_getD, List.getElem?_eq_getElem hi] at hee
      exact res1_any R vp vs _ p ac cc v0 v1 R.ends[i] (1 - p.turn) _ _ _ W ((HBx.out.below HBm.out (by omega)).below hW (by omega)) ((HBy.out.below HBm.out (by omega)).below hW (by omega)) (HBz.out.below hW hz1) ((HPw.out.1.below HBm.out (Nat.le_refl _)).below hW (Nat.le_refl _)) K hee htu))
  go_wp2_with fail
  refine HIX.out.mono ?_
  rintro e w2 ⟨rfl, hb2⟩
  have HB2 := Lib.hid (below_trans HBm.out hb2 HBm.out.size)
  have HZ2 := Lib.hid (HBz.out.below hb2 hz1)
  have hs2 := HB2.out.size
  have hz2 := HZ2.out.lt
  clear hb2 q7 HIX
  generalize idxL (fun x => holdsZ R p x (1 - p.turn)) R.ends 0 = i at *
  have q0 := (HBx.out.below HB2.out (by omega)).cell 0 rfl
  have q1 := (HBx.out.below HB2.out (by omega)).cell 1 rfl
  have q2 := (HBx.out.below HB2.out (by omega)).cell 2 rfl
  have q3 := (HBx.out.below HB2.out (by omega)).cell 3 rfl
  have q4 := (HBx.out.below HB2.out (by omega)).cell 4 rfl
  have q5 := (HBx.out.below HB2.out (by omega)).cell 5 rfl
  have q6 := (HBx.out.below HB2.out (by omega)).cell 6 rfl
  have q7 := (HBx.out.below HB2.out (by omega)).cell 7 rfl
  have q8 := (HBx.out.below HB2.out (by omega)).cell 8 rfl
  have q9 := (HBx.out.below HB2.out (by omega)).cell 9 rfl
  have q10 := (HBx.out.below HB2.out (by omega)).cell 10 rfl
  have e0 := (HBy.out.below HB2.out (by omega)).cell 0 rfl
  have e1 := (HBy.out.below HB2.out (by omega)).cell 1 rfl
  have e2 := (HBy.out.below HB2.out (by omega)).cell 2 rfl
  have e3 := (HBy.out.below HB2.out (by omega)).cell 3 rfl
  have e4 := (HBy.out.below HB2.out (by omega)).cell 4 rfl
  have z0 := HZ2.out.cell 0 rfl
  by_cases hi : 0 ≤ i
  · have hir : i < R.ends.length := by have := HRG.out; omega
    obtain ⟨ge, oe, eee, hge, hec⟩ := ends_some (HRw.out.2.2.below HB2.out (Nat.le_refl _)) (by omega)
    subst eee
    obtain ⟨-, -, -, hl⟩ := hec i.toNat (by omega)
    have HDi : Hid (resultZ R p = if (R.ends.getD i.toNat default).loses = true then 1 + p.turn else 1 + (1 - p.turn)) := Lib.hid (by rw [HD.out, if_pos hi])
    clear hec HD
    generalize (R.ends.getD i.toNat default).loses = lo at *
    cases lo
    · have HE : Hid (resultZ R p = 1 + (1 - p.turn)) := Lib.hid (by rw [HDi.out]; rfl)
      go_wp2_with fail
      refine (wins_any (1 - p.turn) _ (by omega) (by omega)).mono ?_
      rintro e w' ⟨rfl, rfl⟩
      go_wp2_with fail
      go_ret
      exact ⟨by rw [HE.out]; rfl, below_trans HB.out HB2.out HB.out.size⟩
    · have HE : Hid (resultZ R p = 1 + p.turn) := Lib.hid (by rw [HDi.out]; rfl)
      go_wp2_with fail
      refine (wins_any p.turn _ (by omega) (by omega)).mono ?_
      rintro e w' ⟨rfl, rfl⟩
      go_wp2_with fail
      go_ret
      exact ⟨by rw [HE.out]; rfl, below_trans HB.out HB2.out HB.out.size⟩
  have HD1 : Hid (resultZ R p = if R.quiet ≠ 0 ∧ R.quiet ≤ p.quiet then 3 else if 0 < (listZ R p).length then 0 else if R.blocked = 0 then 1 + (1 - p.turn) else if R.blocked = 1 then 1 + p.turn else 3) := Lib.hid (by rw [HD.out, if_neg hi])
  clear HD HRG
  have HLI := fun (h : ¬ (R.quiet ≠ 0 ∧ R.quiet ≤ p.quiet)) => Lib.hid (List_any HSh.out R vp vs _ p _ v0 v1 w2 (HRw.out.below HB2.out (Nat.le_refl _)) (HPw.out.below HB2.out (Nat.le_refl _)) K)
  have HLh := Lib.hid HLI
  clear HLI
  by_cases hq0 : R.quiet = 0
  · have HD2 : Hid (resultZ R p = if 0 < (listZ R p).length then 0 else if R.blocked = 0 then 1 + (1 - p.turn) else if R.blocked = 1 then 1 + p.turn else 3) := Lib.hid (by rw [HD1.out, if_neg (by simp [hq0])])
    have HLz := (HLh.out (by simp [hq0]))
    have hq0' : (R.quiet != 0) = false := by simpa using hq0
    clear hq0 HD1 HLh
    go_wp2_with fail
    refine HLz.out.mono ?_
    rintro e w3 ⟨vl, rfl, ho3, hb3⟩
    obtain ⟨al, cl, rfl⟩ := own_form2 ho3
    have HB3 := Lib.hid (below_trans HB2.out hb3 HB2.out.size)
    have f3 := (HBy.out.below HB3.out (by omega)).cell 3 rfl
    have f8 := (HBx.out.below HB3.out (by omega)).cell 8 rfl
    have g0 := (HZ2.out.stays hb3).cell 0 rfl
    clear ho3 hb3 z0 HLz
    clear q0 q1 q2 q3 q4 q5 q6 q7 q8 q9 q10 e0 e1 e2 e3 e4
    generalize (listZ R p).length = ln at *
    by_cases hln : 0 < ln
    · have HE : Hid (resultZ R p = 0) := Lib.hid (by rw [HD2.out, if_pos hln])
      have hlni : (0 : Int) < (ln : Int) := by omega
      go_wp2_with fail
      go_ret
      exact ⟨by rw [HE.out]; rfl, below_trans HB.out HB3.out HB.out.size⟩
    have hlni : ¬ (0 : Int) < (ln : Int) := by omega
    have HD3 : Hid (resultZ R p = if R.blocked = 0 then 1 + (1 - p.turn) else if R.blocked = 1 then 1 + p.turn else 3) := Lib.hid (by rw [HD2.out, if_neg hln])
    clear hln HD2
    by_cases hb0 : R.blocked = 0
    · have HE : Hid (resultZ R p = 1 + (1 - p.turn)) := Lib.hid (by rw [HD3.out, if_pos hb0])
      rw [hb0] at f8
      clear hb0
      go_wp2_with fail
      refine (wins_any (1 - p.turn) _ (by omega) (by omega)).mono ?_
      rintro e w' ⟨rfl, rfl⟩
      go_wp2_with fail
      go_ret
      exact ⟨by rw [HE.out]; rfl, below_trans HB.out HB3.out HB.out.size⟩
    by_cases hb1 : R.blocked = 1
    · have HE : Hid (resultZ R p = 1 + p.turn) := Lib.hid (by rw [HD3.out, if_neg hb0, if_pos hb1])
      rw [hb1] at f8
      clear hb0 hb1
      go_wp2_with fail
      refine (wins_any p.turn _ (by omega) (by omega)).mono ?_
      rintro e w' ⟨rfl, rfl⟩
      go_wp2_with fail
      go_ret
      exact ⟨by rw [HE.out]; rfl, below_trans HB.out HB3.out HB.out.size⟩
    · have HE : Hid (resultZ R p = 3) := Lib.hid (by rw [HD3.out, if_neg hb0, if_neg hb1])
      have hb0' : (R.blocked == 0) = false := by simpa using hb0
      have hb1' : (R.blocked == 1) = false := by simpa using hb1
      clear hb0 hb1
      go_wp2_with fail
      go_ret
      exact ⟨by rw [HE.out]; rfl, below_trans HB.out HB3.out HB.out.size⟩
  by_cases hql : R.quiet ≤ p.quiet
  · have HE : Hid (resultZ R p = 3) := Lib.hid (by rw [HD1.out, if_pos ⟨hq0, hql⟩])
    have hq0' : (R.quiet != 0) = true := by simpa using hq0
    clear hq0 HD1 HLh
    go_wp2_with fail
    go_ret
    exact ⟨by rw [HE.out]; rfl, below_trans HB.out HB2.out HB.out.size⟩
  · have HD2 : Hid (resultZ R p = if 0 < (listZ R p).length then 0 else if R.blocked = 0 then 1 + (1 - p.turn) else if R.blocked = 1 then 1 + p.turn else 3) := Lib.hid (by rw [HD1.out, if_neg (fun h => hql h.2)])
    have HLz := (HLh.out (fun h => hql h.2))
    have hq0' : (R.quiet != 0) = true := by simpa using hq0
    clear hq0 HD1 HLh
    go_wp2_with fail
    refine HLz.out.mono ?_
    rintro e w3 ⟨vl, rfl, ho3, hb3⟩
    obtain ⟨al, cl, rfl⟩ := own_form2 ho3
    have HB3 := Lib.hid (below_trans HB2.out hb3 HB2.out.size)
    have f3 := (HBy.out.below HB3.out (by omega)).cell 3 rfl
    have f8 := (HBx.out.below HB3.out (by omega)).cell 8 rfl
    have g0 := (HZ2.out.stays hb3).cell 0 rfl
    clear ho3 hb3 z0 HLz
    clear q0 q1 q2 q3 q4 q5 q6 q7 q8 q9 q10 e0 e1 e2 e3 e4
    generalize (listZ R p).length = ln at *
    by_cases hln : 0 < ln
    · have HE : Hid (resultZ R p = 0) := Lib.hid (by rw [HD2.out, if_pos hln])
      have hlni : (0 : Int) < (ln : Int) := by omega
      go_wp2_with fail
      go_ret
      exact ⟨by rw [HE.out]; rfl, below_trans HB.out HB3.out HB.out.size⟩
    have hlni : ¬ (0 : Int) < (ln : Int) := by omega
    have HD3 : Hid (resultZ R p = if R.blocked = 0 then 1 + (1 - p.turn) else if R.blocked = 1 then 1 + p.turn else 3) := Lib.hid (by rw [HD2.out, if_neg hln])
    clear hln HD2
    by_cases hb0 : R.blocked = 0
    · have HE : Hid (resultZ R p = 1 + (1 - p.turn)) := Lib.hid (by rw [HD3.out, if_pos hb0])
      rw [hb0] at f8
      clear hb0
      go_wp2_with fail
      refine (wins_any (1 - p.turn) _ (by omega) (by omega)).mono ?_
      rintro e w' ⟨rfl, rfl⟩
      go_wp2_with fail
      go_ret
      exact ⟨by rw [HE.out]; rfl, below_trans HB.out HB3.out HB.out.size⟩
    by_cases hb1 : R.blocked = 1
    · have HE : Hid (resultZ R p = 1 + p.turn) := Lib.hid (by rw [HD3.out, if_neg hb0, if_pos hb1])
      rw [hb1] at f8
      clear hb0 hb1
      go_wp2_with fail
      refine (wins_any p.turn _ (by omega) (by omega)).mono ?_
      rintro e w' ⟨rfl, rfl⟩
      go_wp2_with fail
      go_ret
      exact ⟨by rw [HE.out]; rfl, below_trans HB.out HB3.out HB.out.size⟩
    · have HE : Hid (resultZ R p = 3) := Lib.hid (by rw [HD3.out, if_neg hb0, if_neg hb1])
      have hb0' : (R.blocked == 0) = false := by simpa using hb0
      have hb1' : (R.blocked == 1) = false := by simpa using hb1
      clear hb0 hb1
      go_wp2_with fail
      go_ret
      exact ⟨by rw [HE.out]; rfl, below_trans HB.out HB3.out HB.out.size⟩

def movesZ (R : RulesZ) (p : PosZ) : List MoveZ := if resultZ R p = 0 then listZ R p else []
end Go.Proofs.Ytnieifdogllbfaa

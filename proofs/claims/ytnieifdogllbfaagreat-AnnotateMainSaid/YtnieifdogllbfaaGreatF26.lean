/- AnB, An3, An4, An5, An6. -/
import Derived.Test.YtnieifdogllbfaaGreatF25
import Derived.Test.YtnieifdogllbfaaGreatF08
import Derived.BigQuiet
import Derived.Deep.Cut
import Derived.Deep.QuietTactic
import Derived.Test.YtnieifdogllbfaaGreatF06
import Derived.Test.YtnieifdogllbfaaGreatF10
import Derived.LaidEqlPtr
import Derived.Deep.CutRange
import Derived.Test.YtnieifdogllbfaaGreatF19
namespace Go.Proofs.YtnieifdogllbfaaGreat
open Go.ChangeShapes Go.WideShapes Go.ChangeAt Go.RowKit
set_option linter.unusedVariables false
set_option maxHeartbeats 4000000
set_option maxRecDepth 100000
theorem drop_any' (n : Int) (w : World) : Calls Tryz.prog 39 #[.int .i64 n] w fun e w' => e = .returned (.agg #[.int .i64 (-1), .int .i64 n, .int .i64 0]) ∧ Below w.heap.size w w' := by
 go_enter Tryz.func39, Tryz.ntmps39
 go_wp2
 exact bodyPost_ret (v := .agg #[.int .i64 (-1), .int .i64 n, .int .i64 0]) (by simp [results, Tryz.results39, go_sem]) rfl ⟨rfl, by go_grown⟩
theorem great_anyG (R : RulesZ) (vp vs ve : Value) (w : World) (h : RdI w vs R.start) : Calls Tryz.prog 9 #[(.agg #[.string R.name, .int .i64 R.width, .int .i64 R.height, vp, vs, .bool R.falls, .bool R.keeps, ve, .int .i64 R.blocked, .int .i64 R.quiet, .int .i64 R.rept])] w fun e w' => e = .returned (.bool (decide (20 < (R.start.length : Int)))) ∧ Below w.heap.size w w' := by
 obtain ⟨a, c, rfl, h1, h2⟩ := h.form
 unfold maxLen at h2
 clear h
 go_enter Tryz.func9, Tryz.ntmps9
 go_wp2
 go_ret
 exact ⟨rfl, (Below.refl _ _).alloc (Nat.le_refl _) _⟩
theorem minR (L : Nat) : ∃ n : Nat, (if (30 : Int) < (L : Int) then (30 : Int) else (L : Int)) = (n : Int) ∧ n ≤ L ∧ n ≤ 30 := by
 by_cases h : (30 : Int) < (L : Int)
 ·exact ⟨30, by rw [if_pos h]; rfl, by omega, by omega⟩
 ·exact ⟨L, by rw [if_neg h], Nat.le_refl _, by omega⟩
def shortX (X : RecZ) : RecZ := { X with nodes := X.nodes.take 30 }
def ShortPost (X : RecZ) (vt vn : Value) (w : World) (e : Ending) (w' : World) : Prop := Below w.heap.size w w' ∧ ∃ a n c Y, Y = shortX X ∧ e = .returned (.agg #[vt, .string Y.comment, .slice a n c, .int .i64 Y.result]) ∧ n = Y.nodes.length ∧ ∀ W, RdX W X vt vn → RdX W Y vt (.slice a n c)
theorem short_any (X : RecZ) (vt vn : Value) (w : World) (h : RdX w X vt vn) : Calls Tryz.prog 8 #[recV X vt vn] w (ShortPost X vt vn w) := by
 obtain ⟨na, nc, rfl, h1, h2⟩ := h.2.1.form
 obtain ⟨ta, tc, rfl, ht1, ht2⟩ := h.1.form
 unfold maxLen at h2 ht2
 obtain ⟨n, hn, hn1, hn2⟩ := minR X.nodes.length
 have e30 : X.nodes.take 30 = X.nodes.take n := by
  by_cases q : (30 : Int) < (X.nodes.length : Int)
  ·rw [if_pos q] at hn
   rw [show n = 30 by omega]
  ·rw [if_neg q] at hn
   rw [List.take_of_length_le (by omega), List.take_of_length_le (by omega)]
 have HX : Hid (n = (shortX X).nodes.length ∧ ∀ W, RdX W X (.slice ta X.tags.length tc) (.slice na X.nodes.length nc) → RdX W (shortX X) (.slice ta X.tags.length tc) (.slice na n nc)) := Lib.hid (by
  refine ⟨?_, fun W h => ⟨h.1, ?_, h.2.2⟩⟩
  ·show n = (X.nodes.take 30).length
   rw [e30, List.length_take]; omega
  ·show RdL nodeEl W _ (X.nodes.take 30)
   rw [e30]; exact RdL.take h.2.1 n hn1)
 clear e30
 have hsl := fun w => run_take (P := Tryz.prog) (s := 5) Tryz.underlying28 (fun _ => by kernel_rfl) na X.nodes.length nc n (by omega) w
 clear h
 unfold recV
 go_enter Tryz.func8, Tryz.ntmps8
 go_upto_region 1 with (fail)
 obtain ⟨bX, hbX⟩ : ∃ bX, bX = w.heap.size := ⟨_, rfl⟩
 obtain ⟨bO, hbO⟩ : ∃ bO, bO = w.heap.size + 1 := ⟨_, rfl⟩
 have HbX : Hid (Box ((w.alloc (.cells #[.slice ta X.tags.length tc, .string X.comment, .slice na X.nodes.length nc, .int .i64 X.result] 30)).alloc (.cells #[.slice none 0 0, .string ⟨#[]⟩, .slice none 0 0, .int .i64 0] 30)) bX [.slice ta X.tags.length tc, .string X.comment, .slice na X.nodes.length nc, .int .i64 X.result] 30) := Lib.hid ((Box.new' w bX [.slice ta X.tags.length tc, .string X.comment, .slice na X.nodes.length nc, .int .i64 X.result] 30 hbX.symm).alloc _)
 have HbO : Hid (Box ((w.alloc (.cells #[.slice ta X.tags.length tc, .string X.comment, .slice na X.nodes.length nc, .int .i64 X.result] 30)).alloc (.cells #[.slice none 0 0, .string ⟨#[]⟩, .slice none 0 0, .int .i64 0] 30)) bO [.slice none 0 0, .string ⟨#[]⟩, .slice none 0 0, .int .i64 0] 30) := Lib.hid (Box.new' (w.alloc (.cells #[.slice ta X.tags.length tc, .string X.comment, .slice na X.nodes.length nc, .int .i64 X.result] 30)) bO [.slice none 0 0, .string ⟨#[]⟩, .slice none 0 0, .int .i64 0] 30 (by rw [World.size_alloc, hbO]))
 have HB : Hid (Below w.heap.size w ((w.alloc (.cells #[.slice ta X.tags.length tc, .string X.comment, .slice na X.nodes.length nc, .int .i64 X.result] 30)).alloc (.cells #[.slice none 0 0, .string ⟨#[]⟩, .slice none 0 0, .int .i64 0] 30))) := Lib.hid (((Below.refl w.heap.size w).alloc (Nat.le_refl _) _).alloc (by rw [World.size_alloc]; omega) _)
 rw [← hbX, show bX + 1 = bO by omega]
 have hbX1 : w.heap.size ≤ bX := by omega
 have hbO1 : w.heap.size ≤ bO := by omega
 have hne : bO ≠ bX := by omega
 clear hbX hbO
 generalize ((w.alloc (.cells #[.slice ta X.tags.length tc, .string X.comment, .slice na X.nodes.length nc, .int .i64 X.result] 30)).alloc (.cells #[.slice none 0 0, .string ⟨#[]⟩, .slice none 0 0, .int .i64 0] 30)) = w0 at *
 have x2 := HbX.out.cell 2 rfl
 have f2 := HbX.out.frozen 2
 have hxl := HbX.out.lt
 go_upto_region 2 with (fail)
 have HbX2 : Hid (Box (w0.setCell ⟨bX, 2, none⟩ (.slice na n nc)) bX [.slice ta X.tags.length tc, .string X.comment, .slice na n nc, .int .i64 X.result] 30) := Lib.hid (HbX.out.set 2 (.slice na n nc))
 have HbO2 := Lib.hid (HbO.out.far ⟨bX, 2, none⟩ (.slice na n nc) hne)
 have HB2 := Lib.hid (HB.out.setCell (p := ⟨bX, 2, none⟩) hbX1 (.slice na n nc))
 clear HbX HbO HB x2 f2 hxl
 generalize w0.setCell ⟨bX, 2, none⟩ (.slice na n nc) = w1 at *
 refine wp_region_lit ?_
 refine wpList_load_box (by rfl) 30 (.tmp 1) (by rfl) bX (by rfl) HbX2.out Tryz.underlying30 (by rfl) (by kernel_rfl) ?_
 refine wpList_store_box (vs := [.slice ta X.tags.length tc, .string X.comment, .slice na n nc, .int .i64 X.result]) (by rfl) 30 (.tmp 2) (.tmp 11) (by rfl) bO (by rfl) (by rfl) HbO2.out rfl (by kernel_rfl) (by rfl) ?_
 have HbO3 := Lib.hid (HbO2.out.store (vs := [.slice ta X.tags.length tc, .string X.comment, .slice na n nc, .int .i64 X.result]) rfl)
 have HB3 := Lib.hid (below_setCells HB2.out hbO1 0 [.slice ta X.tags.length tc, .string X.comment, .slice na n nc, .int .i64 X.result])
 generalize w1.setCells bO 0 [.slice ta X.tags.length tc, .string X.comment, .slice na n nc, .int .i64 X.result] = w2 at *
 go_wp2_with fail
 exact bodyPost_ret (results_one rfl (by rfl) HbO3.out Tryz.underlying30 (by rfl) (by kernel_rfl)) rfl ⟨HB3.out, _, _, _, shortX X, rfl, rfl, HX.out.1, HX.out.2⟩
def oneX : RecZ := ⟨[], ⟨#[]⟩, [⟨-1, ⟨-1, 0, 0⟩, ⟨#[]⟩⟩], 0⟩
def OnePost (w : World) (e : Ending) (w' : World) : Prop := Below w.heap.size w w' ∧ ∃ b, e = .returned (recV oneX (.slice none 0 0) (.slice (some ⟨b, 0, none⟩) 1 1)) ∧ RdX w' oneX (.slice none 0 0) (.slice (some ⟨b, 0, none⟩) 1 1)
theorem one_any (w : World) : Calls Tryz.prog 21 #[] w (OnePost w) := by
 go_enter Tryz.func21, Tryz.ntmps21
 go_upto_region 1 with (fail)
 refine opn1 fun w0 y0_ yb_ hs_ => ?_
 have HbO := Lib.hid y0_
 have HB := Lib.hid yb_
 clear hs_ y0_ yb_
 go_wp2_with fail
 refine (drop_any' 0 _).mono ?_
 rintro e w1 ⟨rfl, hb1⟩
 have HB1 := Lib.hid (HB.out.trans (hb1.mono HB.out.size))
 have HbO1 := Lib.hid (HbO.out.stays hb1)
 obtain ⟨bN, hbN⟩ : ∃ bN, bN = w1.heap.size := ⟨_, rfl⟩
 have HbN := Lib.hid (Box.new' w1 bN [.int .i64 (-1), .int .i64 (-1), .int .i64 0, .int .i64 0, .string ⟨#[]⟩] 70 hbN.symm)
 have HbO2 := Lib.hid (HbO1.out.alloc (.cells #[.int .i64 (-1), .int .i64 (-1), .int .i64 0, .int .i64 0, .string ⟨#[]⟩] 70))
 have HB2 := Lib.hid (HB1.out.alloc HB1.out.size (.cells #[.int .i64 (-1), .int .i64 (-1), .int .i64 0, .int .i64 0, .string ⟨#[]⟩] 70))
 have hwb : w.heap.size ≠ bN := by have := HbO1.out.lt; omega
 clear hb1 HB HbO
 go_wp2_with (refine wpList_store_box (vs := [.slice none 0 0, .string ⟨#[]⟩, .slice (some ⟨w1.heap.size, 0, none⟩) 1 1, .int .i64 0]) (by rfl) 30 (.tmp 0) (.tmp 4) (by rfl) w.heap.size (by rfl) (by rfl) HbO2.out rfl (by kernel_rfl) (by rfl) ?_)
 rw [← hbN]
 have HbN2 := Lib.hid (HbN.out.farAll (b' := w.heap.size) (Ne.symm hwb) 0 [.slice none 0 0, .string ⟨#[]⟩, .slice (some ⟨bN, 0, none⟩) 1 1, .int .i64 0])
 have HbO3 := Lib.hid (HbO2.out.store (vs := [.slice none 0 0, .string ⟨#[]⟩, .slice (some ⟨bN, 0, none⟩) 1 1, .int .i64 0]) rfl)
 have HB3 := Lib.hid (below_setCells HB2.out (Nat.le_refl _) 0 [.slice none 0 0, .string ⟨#[]⟩, .slice (some ⟨bN, 0, none⟩) 1 1, .int .i64 0])
 refine bodyPost_ret (results_one rfl (by rfl) HbO3.out Tryz.underlying30 (by rfl) (by kernel_rfl)) rfl ⟨HB3.out, bN, rfl, RdL.nil _ _, ?_, Nat.zero_le _⟩
 refine .inr ⟨bN, 0, 1, rfl, Nat.le_refl _, by unfold maxLen; decide, HbN2.out.lt, fun i h => ?_⟩
 obtain rfl : i = 0 := by simp [oneX] at h; exact h
 refine ⟨[.int .i64 (-1), .int .i64 (-1), .int .i64 0, .int .i64 0, .string ⟨#[]⟩], ⟨rfl, Nat.zero_le _⟩, fun j hj => ?_⟩
 simp only [nodeEl] at hj
 rcases j with _ | _ | _ | _ | _ | j
 all_goals first | exact HbN2.out.cell _ rfl | omega
theorem one_run : runErr ticZ [⟨-1, 0, 0⟩] = 0 := by
 have h0 : resRaw ticZ (nowZ ticZ []) = 0 := by decide +kernel
 have h1 : gameRes ticZ [] = 0 := by unfold gameRes; rw [res_raw, h0, if_neg (fun h => h.2.1 rfl)]
 have h2 : (⟨-1, 0, 0⟩ : MoveZ) ∈ listZ ticZ (nowZ ticZ []) := by rw [list_mem]; decide +kernel
 have h3 : rulesErr ticZ = 0 := by decide +kernel
 have hp : playErr ticZ [] ⟨-1, 0, 0⟩ = 0 := by unfold playErr; rw [if_neg (by simp [h1]), if_neg (by simpa using h2)]; rfl
 unfold runErr runFrom runFrom
 rw [if_neg (by simp [h3]), if_neg (by simp [hp])]
theorem one_ok : recErr ticZ oneX = 0 := by
 have h1 : rulesErr ticZ = 0 := by decide +kernel
 have h2 : tagsE oneX.tags = 0 := by decide +kernel
 have h3 : cmtErr oneX.comment = 0 := by decide +kernel
 have h4 : cmtErr (ndAt oneX.nodes 0).comment = 0 := by decide +kernel
 have h5 : onB oneX.nodes (-1) (-1) = true := by decide +kernel
 have h6 : twinB oneX.nodes 0 = false := by decide +kernel
 have h7 : wayI oneX.nodes (0 : Nat) = [⟨-1,0,0⟩] := by decide +kernel
 have h8 : depE oneX.nodes [0] 0 = 0 := by decide +kernel
 have hn : nodeE ticZ oneX.nodes [0] 0 = 0 := by
  unfold nodeE
  rw [if_neg (by simp [h4]), h7, one_run, if_neg (by decide), if_neg (by simp [h6]), if_neg (by decide), h8]; rfl
 unfold recErr
 rw [if_neg (by simp [h1]), if_neg (by decide), if_neg (by simp [h2]), if_neg (by decide), if_neg (by simp [h3])]
 show nodesE ticZ oneX.nodes 1 0 [0] = 0
 unfold nodesE
 rw [if_neg (by simp [hn])]; rfl
theorem annotates_any (HS : SortMvSaid) (w : World) : Calls Tryz.prog 7 #[] w fun e w' => e = .returned (.bool true) ∧ Below w.heap.size w w' := by
 have HSh := Lib.hid HS
 clear HS
 go_enter Tryz.func7, Tryz.ntmps7
 go_wp2_with fail
 refine (tic_any w).mono ?_
 rintro e w1 ⟨vp, vs, ve, rfl, hr1, hb1⟩
 have HB1 := Lib.hid hb1
 have HR1 := Lib.hid hr1
 clear hb1 hr1
 unfold rulesV
 go_wp2_with fail
 refine (one_any w1).mono ?_
 rintro e w2 ⟨hb2, b, rfl, hx2⟩
 have HB2 := Lib.hid (HB1.out.trans (hb2.mono HB1.out.size))
 have HC := Lib.hid (Path_ok HSh.out ticZ vp vs ve oneX (.slice none 0 0) (.slice (some ⟨b, 0, none⟩) 1 1) 0 w2 (HR1.out.below hb2 (Nat.le_refl _)) (by unfold maxLen; decide) hx2 one_ok (by decide))
 unfold recV at HC ⊢
 rw [show (wayI oneX.nodes (0 : Nat)).length = 1 by decide +kernel] at HC
 clear hb2 hx2
 go_wp2_with fail
 refine HC.out.mono ?_
 rintro e w3 ⟨⟨pa, pc, rfl, -⟩, hb3⟩
 have HB3 := Lib.hid (HB2.out.trans (hb3.mono HB2.out.size))
 clear hb3 HC
 go_wp2_with fail
 go_ret
 exact ⟨rfl, HB3.out⟩
end Go.Proofs.YtnieifdogllbfaaGreat
namespace Go.Proofs.YtnieifdogllbfaaGreat
open Go.ChangeShapes Go.WideShapes Go.ChangeAt Go.RowKit
set_option linter.unusedVariables false
theorem wp_append_fits {P : Program} (w : World) {o : Oper} {a : Act} {K : Act → World → Prop} {Q : Exit → Act → World → Prop} (s x : Operand) (t : TypeId)
  (ho : o.op = .call { callee := .builtin .append, args := #[s, x], argTypes := #[t, t] })
  (base : Nat) (e : TypeId) (i : TypeInfo) (size : Nat) (ht : P.underlying t = some (.slice e)) (hi : P.info? e = some i) (hsize : i.size = size)
  (g n cap : Nat) (xs : List Value) (hs : a.eval s = .slice (some ⟨g, 0, none⟩) n cap) (hown : w.ownsRow base e size (.slice (some ⟨g, 0, none⟩) n cap) n xs)
  (ad : Addr) (m c : Nat) (news : List Value) (hx : a.eval x = .slice (some ad) m c) (hl : news.length = m * size) (hnews : ∀ j u, news[j]? = some u → w.cell? (ad.add j) = some u) (h1 : ∀ u ∈ news, u.oneCell' = true)
  (hroom : n + m ≤ cap)
  (h : ∀ w', w'.ownsRow base e size (.slice (some ⟨g, 0, none⟩) (n + m) cap) (n + m) (xs ++ news) → w.grownBy w' (some g) → K (a.put o.dst (.slice (some ⟨g, 0, none⟩) (n + m) cap)) w') : o.wp P a w K Q := by
 obtain ⟨w', hr, h2, h3⟩ := run_append_fits (P := P) w base t o.type e i size ht hi hsize g n cap xs hown ad m c news hl hnews h1 hroom
 unfold Oper.wp execOp
 simp only [ho, resolve, invoke, builtin, Sem.run_bind, Sem.run_pure, Result.andThen_ok, List.map_toArray, List.map_cons, List.map_nil, hs, hx, hr]
 exact h w' h2 h3
theorem zeroP (n : Nat) : (Builtin.zeroCells (Value.cells (.pointer none)) n).toList = List.replicate n (.pointer none) := by
 apply List.ext_getElem
 ·simp [Builtin.zeroCells, Value.cells]
 ·intro i h1 h2
  simp only [Builtin.zeroCells, Value.cells, Array.toList_map, Array.toList_range, List.getElem_map, List.getElem_range, List.getElem_replicate]
  simp [Nat.mod_one]
theorem run_clearP (w : World) (ty : TypeId) (b o n c : Nat) (hn : 0 < n) (hc : ∀ j, j < n → (w.cell? ⟨b, o + j, none⟩).isSome = true) (hf : ∀ j, j < n → w.frozen? ⟨b, o + j, none⟩ = false) :
  (Builtin.clear_ #[59] ty #[.slice (some ⟨b, o, none⟩) n c]).run Tryz.prog w = .ok (.tuple #[]) (w.setCells b o (List.replicate n (.pointer none))) := by
 have hv : ∀ w, (zeroValue 75).run Tryz.prog w = .ok (.pointer none) w := fun w => by kernel_rfl
 have hst := run_storeCells_cells (P := Tryz.prog) b o (List.replicate n (.pointer none)) 0 w (by simpa using hc) (by simpa using hf) (by intro v hv'; rw [List.eq_of_mem_replicate hv']; rfl)
 simp only [Nat.add_zero] at hst
 obtain ⟨m, rfl⟩ : ∃ m, n = m + 1 := ⟨n - 1, by omega⟩
 simp [Builtin.clear_, run_underlying Tryz.underlying59, hv, zeroP, hst]
def idxN (t : Nat) : List Nat → Int → Int
 | [], _ => -1
 | g :: l, k => if t = g then k else idxN t l (k + 1)
theorem infoBranch : (Tryz.prog.info? 74).map (fun i => (i.zero, i.size, i.bytes)) = some (some (.agg #[.int .i64 0, .int .i64 0, .int .i64 0, .string ⟨#[]⟩, .slice none 0 0]), 5, 64) := by kernel_rfl
theorem idxN_step (t : Nat) (l : List Nat) (k : Nat) (h : k < l.length) : idxN t (l.drop k) k = if t = l[k] then (k : Int) else idxN t (l.drop (k + 1)) ((k + 1 : Nat) : Int) := by
 rw [List.drop_eq_getElem_cons h]; rfl
theorem ptrs_get {gs : List Nat} {i : Nat} (h : i < gs.length) : (gs.map ptrV)[i]? = some (.pointer (some ⟨gs[i], 0, none⟩)) := by
 rw [List.getElem?_map, List.getElem?_eq_getElem h]; rfl
set_option maxRecDepth 100000
set_option maxHeartbeats 8000000
theorem IndexP_any (v : Value) (b : Nat) (gs : List Nat) (t : Nat) (w : World) (h : w.ownsRow b tPt 1 v gs.length (gs.map ptrV)) (hl : gs.length ≤ 1000000) (hbx : ∀ x ∈ t :: gs, ∃ ca ta, w.heap[x]? = some (.cells ca ta (0, 0))) :
  Calls Tryz.prog 33 #[v, .pointer (some ⟨t, 0, none⟩)] w fun e w' => e = .returned (.int .i64 (idxN t gs 0)) ∧ w = w' := by
 have HR := Lib.hid h
 have HBX := Lib.hid hbx
 obtain ⟨j0, hj0, -, hj1, -⟩ := info_parts infoBranch
 have HJ0 := Lib.hid hj0
 have hj5 : j0.size ≠ 0 := by omega
 obtain ⟨va, vc, rfl⟩ := own_form2 h
 clear h hbx hj0 hj1
 go_enter Tryz.func33, Tryz.ntmps33
 go_wp2_with fail
 go_loopw [8, 5] (fun i v5 wr => ∃ (k : Nat) (o5 : Value), o5 = v5 ∧ k ≤ gs.length ∧ i = .int .i64 k ∧ Hid (idxN t gs 0 = idxN t (gs.drop k) k) ∧ w = wr) (fun i _ _ => gs.length - (intOf i).toNat)
 case atStart => exact ⟨0, _, rfl, Nat.zero_le _, rfl, Lib.hid rfl, rfl⟩
 case round =>
  obtain ⟨k, o5, rfl, hk, rfl, HK, rfl⟩ := hrel
  by_cases hlt : (k : Int) < (gs.length : Int)
  ·obtain ⟨G, vc', hG⟩ := own_some HR.out (by omega)
   obtain ⟨rfl, rfl⟩ : va = some ⟨G, 0, none⟩ ∧ vc = vc' := by simpa using hG
   clear hG
   have hGl := (HR.out.lt G rfl).2
   have HS := Lib.hid (idxN_step t gs k (by omega))
   have q0 := (HR.out.cellAt k (by omega)).trans (ptrs_get (by omega))
   have hxm : gs[k]'(by omega) ∈ gs := List.getElem_mem _
   generalize gs[k]'(by omega) = x at *
   by_cases hx : t = x
   ·subst hx
    have heq := run_eql_ptr_same (P := Tryz.prog) w (tp := 75) ⟨t, 0, none⟩ Tryz.underlying75 HJ0.out
    go_wp2_with fail
    go_ret
    exact ⟨by rw [HK.out, HS.out, if_pos trivial]; rfl, rfl⟩
   ·obtain ⟨ca, ta, ha⟩ := HBX.out t (List.mem_cons_self ..)
    obtain ⟨cb, tb, hb⟩ := HBX.out x (List.mem_cons_of_mem _ hxm)
    have heq := run_eql_ptr_other (P := Tryz.prog) w (tp := 75) (a := ⟨t, 0, none⟩) (b := ⟨x, 0, none⟩) Tryz.underlying75 HJ0.out hj5 (fun e => hx (by cases e; rfl)) ha hb
    have HK3 : Hid (idxN t gs 0 = idxN t (gs.drop (k + 1)) ((k + 1 : Nat) : Int)) := Lib.hid (by rw [HK.out, HS.out, if_neg hx])
    clear ha hb hx hxm
    go_wp2_with fail
    go_roundw
    case rel => exact ⟨k + 1, _, rfl, by omega, by go_num, HK3, by first | rfl | trivial⟩
    case measure => simp [intOf]; omega
  ·obtain rfl : k = gs.length := by omega
   have HK2 : Hid (idxN t gs 0 = -1) := Lib.hid (by rw [HK.out, List.drop_length]; rfl)
   go_wp2_with fail
   go_ret
   exact ⟨by rw [HK2.out]; rfl, rfl⟩
theorem box_of_row {w : World} {b g n c : Nat} {e : TypeId} {xs : List Value} (h : w.ownsRow b e 1 (.slice (some ⟨g, 0, none⟩) n c) n xs) : ∃ cur : List Value, Box w g cur e ∧ cur.length = c := by
 rcases h.2 with ⟨h0, -⟩ | ⟨g', c', cur, hv, hg, hb, h1, h2, h3, h4⟩
 ·cases h0
 ·simp only [Value.slice.injEq, Option.some.injEq, Addr.mk.injEq, and_true, true_and] at hv
  obtain ⟨rfl, rfl⟩ := hv
  exact ⟨cur.toList, by show w.heap[g]? = _; rw [hb], by simpa using h3⟩
theorem DeleteP_cap (v : Value) (m b i : Nat) (xs : List Value) (w : World) (h : w.ownsRow b tPt 1 v (m + 1) xs) (hi : i ≤ m) (hn : m ≤ 1000000) (h1 : ∀ u ∈ xs, u.oneCell' = true) :
  Calls Tryz.prog 34 #[v, .int .i64 i, .int .i64 ((i : Int) + 1)] w fun e w' => ∃ g c, v = .slice (some ⟨g, 0, none⟩) (m + 1) c ∧ m + 1 ≤ c ∧ e = .returned (.slice (some ⟨g, 0, none⟩) m c) ∧ w'.ownsRow b tPt 1 (.slice (some ⟨g, 0, none⟩) m c) m (xs.eraseIdx i) ∧ w.grownBy w' (some g) := by
 obtain ⟨g, c, rfl⟩ := own_some h (by omega)
 have hcap := own_cap' h
 have hcm : c ≤ 9223372036854775807 := by
  rcases h.2 with ⟨h0, -⟩ | ⟨g', c', cur, hv, -, -, -, h3, -⟩
  ·cases h0
  ·cases hv; unfold maxLen at h3; exact h3
 obtain ⟨i0, hi0, hz0, hz1, hz2⟩ := info_parts infoBr
 have HO := Lib.hid h
 have hxl : xs.length = m + 1 := by have := h.1; omega
 have HXL := Lib.hid hxl
 have Otk : Hid (w.drew.ownsRow b tPt 1 (.slice (some ⟨g, 0, none⟩) i c) i (xs.take i)) := Lib.hid (by have := (own_take h i (by omega)).drew; rwa [Nat.mul_one] at this)
 have HOD : Hid (∀ u ∈ xs.drop (i + 1), u.oneCell' = true) := Lib.hid (fun u hu => h1 u (List.mem_of_mem_drop hu))
 obtain ⟨ga, hga, hgc⟩ : ∃ ga, subAddr (some ⟨g, 0, none⟩) c (i + 1) 1 = some ga ∧ ∀ j, j < m - i → ga.add j = ⟨g, i + 1 + j, none⟩ := by
  unfold subAddr
  by_cases e : c = i + 1
  ·rw [if_pos e]; exact ⟨_, rfl, fun j hj => by omega⟩
  ·rw [if_neg e]; exact ⟨(⟨g, 0, none⟩ : Addr).add ((i + 1) * 1), rfl, fun j _ => by rw [add_off, add_off]; simp⟩
 have HNW : Hid (∀ j u, (xs.drop (i + 1))[j]? = some u → w.drew.cell? (ga.add j) = some u) := Lib.hid (fun j u hu => by
  have hj := (List.getElem?_eq_some_iff.1 hu).1
  rw [List.length_drop] at hj
  rw [hgc j (by omega)]
  rw [List.getElem?_drop] at hu
  exact (h.cellAt (i + 1 + j) (by omega)).trans hu)
 have Hnl : Hid ((xs.drop (i + 1)).length = (m - i) * 1) := Lib.hid (by rw [List.length_drop]; omega)
 have s1 := fun w => run_take (P := Tryz.prog) (s := 1) Tryz.underlying59 (fun _ => by kernel_rfl) (some ⟨g, 0, none⟩) (m + 1) c i (by omega) w
 have s2 := fun w => run_drop (P := Tryz.prog) (s := 1) Tryz.underlying59 (fun _ => by kernel_rfl) (some ⟨g, 0, none⟩) (m + 1) c (i + 1) (by omega) w
 rw [hga, show m + 1 - (i + 1) = m - i by omega] at s2
 have s2 : ∀ w : World, (Instr.slice 59 (.slice (some ⟨g, 0, none⟩) (m + 1) c) (some (.int .i64 ((i : Int) + 1))) none none).run Tryz.prog w = .ok (.slice (some ga) (m - i) (c - (i + 1))) w := s2
 clear h h1 hga hgc hxl
 go_enter Tryz.func34, Tryz.ntmps34
 go_upto_region 5 with (fail)
 refine wp_region_noPanic ?_
 refine beginL (S := (fun _ => True)) (L := []) (by kernel_rfl) True.intro (fun hHeld => ?_)
 refine tkW 0 ?_
 refine tkW 1 ?_
 refine tkW 3 ?_
 refine tkW 4 ?_
 refine tkW 2 ?_
 refine tkW 5 ?_
 refine cnL 6 fun K hK => ?_
 rw [if_pos (by rfl)]
 refine wp_append_fits (P := Tryz.prog) w.drew _ _ 59 rfl b 75 i0 1 Tryz.underlying59 hi0 hz1 g i c (xs.take i) rfl Otk.out ga (m - i) (c - (i + 1)) (xs.drop (i + 1)) rfl Hnl.out HNW.out HOD.out (by omega) ?_
 intro w6 ho6 hg6
 refine hK.out _ _ True.intro (fun hHeld => ?_)
 clear hK K
 refine tkW 7 ?_
 refine dnN ?_
 rw [show i + (m - i) = m by omega] at ho6 ⊢
 have HO6 := Lib.hid ho6
 have HG6 := Lib.hid hg6
 clear ho6 hg6 hHeld
 obtain ⟨cur, hcu, hcl⟩ := box_of_row HO6.out
 have hclr := fun ty => run_clearP w6 ty g m 1 (c - m) (by omega) (fun j hj => by rw [hcu.cell (m + j) (List.getElem?_eq_getElem (by omega))]; rfl) (fun j _ => hcu.frozen _)
 clear hcu hcl s1 s2
 go_wp2_with fail
 go_ret
 have hput := own_put [.pointer none] (xs.take i ++ xs.drop (i + 1)) m w6 HO6.out
 have hx : putAt (xs.take i ++ xs.drop (i + 1)) m [.pointer none] = xs.eraseIdx i := by
  rw [putAt, putAt, List.set_eq_of_length_le (by have := HO6.out.1; omega), List.eraseIdx_eq_take_drop_succ]
 rw [hx] at hput
 exact ⟨g, c, rfl, hcap, rfl, hput.1, grown_trans (grown_trans (grown_below (Below.refl w.heap.size w).drew) HG6.out) hput.2⟩
end Go.Proofs.YtnieifdogllbfaaGreat
namespace Go.Proofs.YtnieifdogllbfaaGreat
open Go.ChangeShapes Go.WideShapes Go.ChangeAt Go.RowKit
set_option linter.unusedVariables false
theorem und_all {ns : List NodeZ} (hb : Back ns ns.length) (hl : ∀ k, k < ns.length → -1 ≤ (ndAt ns k).parent) : ∀ (f k : Nat), k < f → k < ns.length → Und ns (-1) k
 | 0, k, h, _ => by omega
 | f + 1, k, h, hk => by
  refine ⟨hk, ?_⟩
  have h1 := hb k hk
  have h2 := hl k hk
  by_cases e : (ndAt ns k).parent = -1
  ·rw [e]; exact .here _
  ·obtain ⟨m, hm⟩ : ∃ m : Nat, (ndAt ns k).parent = (m : Int) := ⟨(ndAt ns k).parent.toNat, by omega⟩
   rw [hm]
   exact .step m _ (und_all hb hl f m (by omega) (by omega)).2
/-- blocks of two types are two blocks. -/
theorem row_box_ne {w : World} {b g g' n : Nat} {e t : TypeId} {v : Value} {xs cs : List Value} (h : w.ownsRow b e 1 v n xs) (hg : v.ownBlock = some g) (hb : Box w g' cs t) (hne : t ≠ e) : g ≠ g' := by
 rintro rfl
 rcases h.2 with ⟨rfl, -⟩ | ⟨g2, c, cur, rfl, -, hk, -⟩
 ·cases hg
 ·simp only [Value.ownBlock, Option.some.injEq] at hg
  subst hg
  have h1 : w.heap[g2]? = some (.cells cs.toArray t (0, 0)) := hb
  rw [hk] at h1
  simp only [Option.some.injEq, Obj.cells.injEq] at h1
  exact hne h1.2.1.symm
def updO (ord : Int → List Nat) (p : Int) (js : List Nat) (q : Int) : List Nat := if q = p then js else ord q
theorem Nd.congr {tb te : TypeId} {base : Nat} {w : World} {ns : List NodeZ} {ord ord' : Int → List Nat} {Ws : List Value} {k : Nat} (h : Nd tb te base w ns ord Ws k) (e : ord' (k : Int) = ord (k : Int)) : Nd tb te base w ns ord' Ws k := by
 refine ⟨h.here, ⟨h.nd.lo, h.nd.box, h.nd.sz, ?_, h.nd.nil⟩⟩
 rw [e]; exact h.nd.row
abbrev tSl : TypeId := 59
structure GS (base : Nat) (w : World) (ns : List NodeZ) (ord : Int → List Nat) (bw bl : Nat) (Ws : List Value) (v : Value) : Prop where
 wh : Box w bw Ws tPt
 hl : Box w bl [v] tSl
 lo : bw < base ∧ base ≤ bl
 nds : ∀ k, k < ns.length → Nd tBr tPt base w ns ord Ws k
 sep : ∀ k k', k < ns.length → k' < ns.length → k ≠ k' → Apart w Ws k k'
 out : w.ownsRow base tPt 1 v (ord (-1)).length ((ord (-1)).map fun j => ptrV (adr Ws j))
 osep : ∀ k, k < ns.length → v.ownBlock = none ∨ v.ownBlock ≠ (kv w (adr Ws k)).ownBlock
variable {base : Nat} {w w1 : World} {ns : List NodeZ} {ord : Int → List Nat} {bw bl : Nat} {Ws : List Value} {v v' : Value}
theorem GS.stays (h : GS base w ns ord bw bl Ws v) (hb : Below w.heap.size w w1) : GS base w1 ns ord bw bl Ws v := by
 have hk : ∀ k, k < ns.length → Nd tBr tPt base w1 ns ord Ws k ∧ kv w1 (adr Ws k) = kv w (adr Ws k) := fun k hk =>
  (h.nds k hk).step (Nat.le_refl _) (hb.block _ (h.nds k hk).hi) (fun g hg => hb.block g ((h.nds k hk).row g hg).2) rfl (fun _ _ => rfl)
 refine ⟨h.wh.stays hb, h.hl.stays hb, h.lo, fun k h1 => (hk k h1).1, fun k k' h1 h2 h3 => ?_, own_of_block h.out (fun g hg => hb.block g (h.out.lt g hg).2), fun k h1 => by rw [(hk k h1).2]; exact h.osep k h1⟩
 have := h.sep k k' h1 h2 h3
 unfold Apart at this ⊢
 rw [(hk k h1).2, (hk k' h2).2]
 exact this
/-- the row after node p. -/
theorem GS.put (h : GS base w ns ord bw bl Ws v) {p : Nat} (hp : p < ns.length) (js : List Nat) (hg : w.grownBy w1 (kv w (adr Ws p)).ownBlock) (hv : v'.ownBlock = (kv w (adr Ws p)).ownBlock)
  (ho : w1.ownsRow base tPt 1 v' js.length (js.map fun j => ptrV (adr Ws j))) : GS base (w1.setCell ⟨adr Ws p, 4, none⟩ v') ns (updO ord (p : Int) js) bw bl Ws v := by
 have hP := h.nds p hp
 have rne : ∀ g g' (cs : List Value) (t : TypeId), (kv w (adr Ws p)).ownBlock = some g → Box w g' cs t → t ≠ tPt → g' ≠ g := fun g g' cs t h1 h2 h3 e => row_box_ne hP.nd.row h1 h2 h3 e.symm
 have hbx : ∀ g' (cs : List Value) (t : TypeId), Box w g' cs t → t ≠ tPt → w1.heap[g']? = w.heap[g']? := fun g' cs t h1 h2 => hg.block g' h1.lt (fun e => rne g' g' cs t e.symm h1 h2 rfl)
 have bp := hP.nd.box
 have kvw : ∀ k, k < ns.length → k ≠ p → (w1.setCell ⟨adr Ws p, 4, none⟩ v').heap[adr Ws k]? = w.heap[adr Ws k]? := fun k hk hkp => by
  rw [Below.heap_setCell w1 _ _ _ (by exact (h.sep k p hk hp hkp).1)]
  exact hbx _ _ _ (h.nds k hk).nd.box (by decide)
 have ho' : ∀ g, v'.ownBlock = some g → g ≠ adr Ws p := fun g e1 => row_box_ne hP.nd.row (by rw [← hv]; exact e1) bp (by decide)
 have hrow : ∀ k, k < ns.length → k ≠ p → ∀ g, (kv w (adr Ws k)).ownBlock = some g → (w1.setCell ⟨adr Ws p, 4, none⟩ v').heap[g]? = w.heap[g]? := fun k hk hkp g e => by
  have hR := (h.nds k hk).nd.row
  rw [Below.heap_setCell w1 _ _ _ (by exact row_box_ne hR e bp (by decide))]
  refine hg.block g (hR.lt g e).2 (fun e2 => ?_)
  rcases (h.sep k p hk hp hkp).2 with h4 | h4
  ·rw [h4] at e; cases e
  ·exact h4 (by rw [e, e2])
 have bp1 : Box w1 (adr Ws p) _ tBr := (hbx _ _ _ bp (by decide)).trans bp
 have bp2 := bp1.set 4 v'
 have ekp : kv (w1.setCell ⟨adr Ws p, 4, none⟩ v') (adr Ws p) = v' := by
  unfold kv
  rw [bp2.cell 4 rfl]; rfl
 have hk : ∀ k, k < ns.length → Nd tBr tPt base (w1.setCell ⟨adr Ws p, 4, none⟩ v') ns (updO ord (p : Int) js) Ws k ∧ (kv (w1.setCell ⟨adr Ws p, 4, none⟩ v') (adr Ws k)).ownBlock = (kv w (adr Ws k)).ownBlock := fun k hk => by
  by_cases e : k = p
  ·subst e
   refine ⟨⟨hP.here, ⟨hP.nd.lo, ?_, hP.nd.sz, ?_, ⟨trivial, fun _ _ => trivial⟩⟩⟩, by rw [ekp]; exact hv⟩
   ·show Box _ (adr Ws k) _ tBr
    rw [ekp]; exact bp2
   ·show World.ownsRow _ base tPt 1 (kv _ (adr Ws k)) _ _
    rw [ekp, show updO ord (k : Int) js (k : Int) = js from if_pos rfl]
    exact own_of_block ho (fun g hg => Below.heap_setCell w1 _ _ _ (by exact ho' g hg))
  ·have h1 := (h.nds k hk).step (Nat.le_refl base) (kvw k hk e) (hrow k hk e) rfl (fun _ _ => rfl)
   exact ⟨h1.1.congr (if_neg (by omega)), by rw [h1.2]⟩
 have hsl : bl ≠ adr Ws p := fun e => by
  have h1 : w.heap[bl]? = _ := h.hl
  have h2 : w.heap[adr Ws p]? = _ := bp
  rw [← e, h1] at h2
  simp only [Option.some.injEq, Obj.cells.injEq] at h2
  exact absurd h2.2.1 (by decide)
 have hbw : bw ≠ adr Ws p := by have := hP.nd.lo; have := h.lo.1; omega
 refine ⟨?_, ?_, h.lo, fun k h1 => (hk k h1).1, fun k k' h1 h2 h3 => ⟨(h.sep k k' h1 h2 h3).1, ?_⟩, ?_, fun k h1 => by rw [(hk k h1).2]; exact h.osep k h1⟩
 ·refine Box.far ?_ _ _ hbw
  exact (hg.block bw h.wh.lt (fun e => by have := (hP.row bw e.symm).1; have := h.lo.1; omega)).trans h.wh
 ·refine Box.far ?_ _ _ hsl
  exact (hbx _ _ _ h.hl (by decide)).trans h.hl
 ·rw [(hk k h1).2, (hk k' h2).2]; exact (h.sep k k' h1 h2 h3).2
 ·have e1 : updO ord (p : Int) js (-1) = ord (-1) := if_neg (by omega)
  rw [e1]
  refine own_of_block h.out (fun g hg' => ?_)
  rw [Below.heap_setCell w1 _ _ _ (by exact row_box_ne h.out hg' bp (by decide))]
  refine hg.block g (h.out.lt g hg').2 (fun e2 => ?_)
  rcases h.osep p hp with h4 | h4
  ·rw [h4] at hg'; cases hg'
  ·exact h4 (by rw [hg', e2])
/-- the first row. -/
theorem GS.top (h : GS base w ns ord bw bl Ws v) (js : List Nat) (hg : w.grownBy w1 v.ownBlock) (hv : v'.ownBlock = v.ownBlock)
  (ho : w1.ownsRow base tPt 1 v' js.length (js.map fun j => ptrV (adr Ws j))) : GS base (w1.setCell ⟨bl, 0, none⟩ v') ns (updO ord (-1) js) bw bl Ws v' := by
 have hbx : ∀ g' (cs : List Value) (t : TypeId), Box w g' cs t → t ≠ tPt → w1.heap[g']? = w.heap[g']? := fun g' cs t h1 h2 => hg.block g' h1.lt (fun e => row_box_ne h.out e.symm h1 h2 rfl)
 have hne : ∀ k, k < ns.length → adr Ws k ≠ bl := fun k hk e => by
  have h1 : w.heap[bl]? = _ := h.hl
  have h2 : w.heap[adr Ws k]? = _ := (h.nds k hk).nd.box
  rw [e, h1] at h2
  simp only [Option.some.injEq, Obj.cells.injEq] at h2
  exact absurd h2.2.1 (by decide)
 have hk : ∀ k, k < ns.length → Nd tBr tPt base (w1.setCell ⟨bl, 0, none⟩ v') ns ord Ws k ∧ kv (w1.setCell ⟨bl, 0, none⟩ v') (adr Ws k) = kv w (adr Ws k) := fun k hk => by
  refine (h.nds k hk).step (Nat.le_refl base) ?_ (fun g e => ?_) rfl (fun _ _ => rfl)
  ·rw [Below.heap_setCell w1 _ _ _ (by exact hne k hk)]
   exact hbx _ _ _ (h.nds k hk).nd.box (by decide)
  ·have hR := (h.nds k hk).nd.row
   rw [Below.heap_setCell w1 _ _ _ (by exact row_box_ne hR e h.hl (by decide))]
   refine hg.block g (hR.lt g e).2 (fun e2 => ?_)
   rcases h.osep k hk with h4 | h4
   ·rw [h4] at e2; cases e2
   ·exact h4 (by rw [e, e2])
 have hb1 : Box w1 bl [v] tSl := (hbx _ _ _ h.hl (by decide)).trans h.hl
 refine ⟨?_, hb1.set 0 v', h.lo, fun k h1 => ((hk k h1).1).congr (if_neg (by omega)), fun k k' h1 h2 h3 => ?_, ?_, fun k h1 => by rw [(hk k h1).2, hv]; exact h.osep k h1⟩
 ·refine Box.far ?_ _ _ (by have := h.lo; show bw ≠ bl; omega)
  exact (hg.block bw h.wh.lt (fun e => by have := (h.out.lt bw e.symm).1; have := h.lo.1; omega)).trans h.wh
 ·have := h.sep k k' h1 h2 h3
  unfold Apart at this ⊢
  rw [(hk k h1).2, (hk k' h2).2]; exact this
 ·rw [show updO ord (-1) js (-1) = js from if_pos rfl]
  exact own_of_block ho (fun g hg' => Below.heap_setCell w1 _ _ _ (by exact row_box_ne h.out (by rw [← hv]; exact hg') h.hl (by decide)))
/-- tree has made it. -/
theorem GS.start {w0 : World} {Ws0 : List Value} (hb : Back ns ns.length) (hl : ∀ k, k < ns.length → -1 ≤ (ndAt ns k).parent) (h : TS tBr tPt base w0 w ns (kidsZ ns) bw Ws0 Ws (Und ns (-1)) v (kidsZ ns (-1))) (hbw : bw < base) (hw : base ≤ w.heap.size) (hB : Below w.heap.size w w1) (hbl : Box w1 bl [v] tSl) (hbl2 : base ≤ bl) : GS base w1 ns (kidsZ ns) bw bl Ws v := by
 have ha : ∀ k, k < ns.length → Und ns (-1) k := fun k hk => und_all hb hl (k + 1) k (by omega) hk
 have hk : ∀ k, k < ns.length → Nd tBr tPt base w1 ns (kidsZ ns) Ws k ∧ kv w1 (adr Ws k) = kv w (adr Ws k) := fun k hk =>
  (h.nds k (ha k hk)).step (Nat.le_refl _) (hB.block _ (h.nds k (ha k hk)).hi) (fun g hg => hB.block g ((h.nds k (ha k hk)).row g hg).2) rfl (fun _ _ => rfl)
 refine ⟨h.wh.stays hB, hbl, ⟨hbw, hbl2⟩, fun k h1 => (hk k h1).1, fun k k' h1 h2 h3 => ?_, own_of_block h.out (fun g hg => hB.block g (h.out.lt g hg).2), fun k h1 => by rw [(hk k h1).2]; exact h.osep k (ha k h1)⟩
 have := h.sep k k' (ha k h1) (ha k' h2) h3
 unfold Apart at this ⊢
 rw [(hk k h1).2, (hk k' h2).2]; exact this
theorem GS.brs (h : GS base w ns ord bw bl Ws v) (hd : ∀ p, ∀ j ∈ ord p, p < j ∧ j < ns.length) : BrsAt anyB tBr tPt base w (treeO ns ord (ns.length + 1) (-1)) ((ord (-1)).map fun j => ptrV (adr Ws j)) := by
 refine brs_of (A := adr Ws) (K := fun k => kv w (adr Ws k)) (fun k => k < ns.length) (fun k hk => (h.nds k hk).nd) (fun k hk j hj => ?_) _ _ (fun j hj => (hd _ j hj).2) (fun j hj => ⟨(hd _ j hj).2, by omega⟩)
 have := hd (k : Int) j hj
 exact ⟨this.2, by omega, this.2⟩
end Go.Proofs.YtnieifdogllbfaaGreat
namespace Go.Proofs.YtnieifdogllbfaaGreat
open Go.ChangeShapes Go.WideShapes Go.ChangeAt Go.RowKit
set_option linter.unusedVariables false
theorem idxN_at (t : Nat) : ∀ (l : List Nat) (k : Int), t ∈ l → ∃ i : Nat, l[i]? = some t ∧ idxN t l k = k + i
 | [], _, h => by cases h
 | g :: l, k, h => by
  rw [idxN]
  by_cases e : t = g
  ·rw [if_pos e, e]; exact ⟨0, rfl, by simp⟩
  ·rw [if_neg e]
   obtain ⟨i, h1, h2⟩ := idxN_at t l (k + 1) (by rcases List.mem_cons.1 h with h | h; exact absurd h e; exact h)
   exact ⟨i + 1, h1, by rw [h2]; omega⟩
theorem erase_filter : ∀ (l : List Nat) (i node : Nat), l.Nodup → l[i]? = some node → l.eraseIdx i = l.filter fun k => k != node
 | [], i, node, _, h => by cases h
 | a :: l, 0, node, hn, h => by
  simp only [List.getElem?_cons_zero, Option.some.injEq] at h
  subst h
  rw [List.eraseIdx_cons_zero, List.filter_cons_of_neg (by simp)]
  symm
  exact List.filter_eq_self.2 fun k hk => by
   have := (List.nodup_cons.1 hn).1
   simp only [bne_iff_ne, ne_eq]
   rintro rfl; exact this hk
 | a :: l, i + 1, node, hn, h => by
  rw [List.getElem?_cons_succ] at h
  have h1 : a ≠ node := by
   rintro rfl
   exact (List.nodup_cons.1 hn).1 (List.mem_of_getElem? h)
  rw [List.eraseIdx_cons_succ, List.filter_cons_of_pos (by simpa using h1), erase_filter l i node (List.nodup_cons.1 hn).2 h]
theorem map_erase {f : Nat → Value} (l : List Nat) (i : Nat) : (l.map f).eraseIdx i = (l.eraseIdx i).map f := by
 rw [List.eraseIdx_eq_take_drop_succ, List.eraseIdx_eq_take_drop_succ, List.map_append, List.map_take, List.map_drop]
/-- where the row after par is kept. -/
structure Slot (base : Nat) (w : World) (ns : List NodeZ) (ord : Int → List Nat) (bw bl : Nat) (Ws : List Value) (par : Int) (T o : Nat) (rv : Value) : Prop where
 cell : w.cell? ⟨T, o, none⟩ = some rv
 frz : w.frozen? ⟨T, o, none⟩ = false
 lt : T < w.heap.size
 low : base ≤ T
 row : w.ownsRow base tPt 1 rv (ord par).length ((ord par).map fun j => ptrV (adr Ws j))
 keep : ∀ w1 : World, w1.heap[T]? = w.heap[T]? → w1.cell? ⟨T, o, none⟩ = some rv ∧ w1.frozen? ⟨T, o, none⟩ = false ∧ T < w1.heap.size
 ne : ∀ g, rv.ownBlock = some g → g ≠ T
 put : ∀ (js : List Nat) (w1 : World) (v' : Value), w.grownBy w1 rv.ownBlock → v'.ownBlock = rv.ownBlock → w1.ownsRow base tPt 1 v' js.length (js.map fun j => ptrV (adr Ws j)) → ∃ v2, GS base (w1.setCell ⟨T, o, none⟩ v') ns (updO ord par js) bw bl Ws v2
variable {base : Nat} {w w1 : World} {ns : List NodeZ} {ord : Int → List Nat} {bw bl : Nat} {Ws : List Value} {v v' : Value}
theorem GS.slotTop (h : GS base w ns ord bw bl Ws v) : Slot base w ns ord bw bl Ws (-1) bl 0 v :=
 ⟨h.hl.cell 0 rfl, h.hl.frozen 0, h.hl.lt, h.lo.2, h.out, fun w1 hw => by have hb : Box w1 bl [v] tSl := hw.trans h.hl; exact ⟨hb.cell 0 rfl, hb.frozen 0, hb.lt⟩, fun g hg => row_box_ne h.out hg h.hl (by decide), fun js w1 v' h1 h2 h3 => ⟨_, h.top js h1 h2 h3⟩⟩
theorem GS.slotNode (h : GS base w ns ord bw bl Ws v) {p : Nat} (hp : p < ns.length) : Slot base w ns ord bw bl Ws (p : Int) (adr Ws p) 4 (kv w (adr Ws p)) :=
 ⟨(h.nds p hp).nd.box.cell 4 rfl, (h.nds p hp).nd.box.frozen 4, (h.nds p hp).nd.box.lt, (h.nds p hp).nd.lo, (h.nds p hp).nd.row, fun w1 hw => by have hb : Box w1 (adr Ws p) _ tBr := hw.trans (h.nds p hp).nd.box; exact ⟨hb.cell 4 rfl, hb.frozen 4, hb.lt⟩, fun g hg => row_box_ne (h.nds p hp).nd.row hg (h.nds p hp).nd.box (by decide), fun js w1 v' h1 h2 h3 => ⟨_, h.put hp js h1 h2 h3⟩⟩
/-- where a child stands in its row. -/
theorem GS.place (h : GS base w ns ord bw bl Ws v) {par : Int} {c : Nat} (hl : ∀ j ∈ ord par, j < ns.length) (hc : c ∈ ord par) : ∃ i : Nat, (ord par)[i]? = some c ∧ idxN (adr Ws c) ((ord par).map (adr Ws)) 0 = i := by
 obtain ⟨i, h1, h2⟩ := idxN_at (adr Ws c) ((ord par).map (adr Ws)) 0 (List.mem_map_of_mem hc)
 refine ⟨i, ?_, by rw [h2]; omega⟩
 rw [List.getElem?_map, Option.map_eq_some_iff] at h1
 obtain ⟨j, hj, e⟩ := h1
 rw [hj]
 have hjl := hl j (List.mem_of_getElem? hj)
 by_cases ej : j = c
 ·rw [ej]
 ·exact absurd e (h.sep j c hjl (hl c hc) ej).1
theorem GS.cellsB (h : GS base w ns ord bw bl Ws v) {c : Nat} {js : List Nat} (hc : c < ns.length) (hl : ∀ j ∈ js, j < ns.length) : ∀ x ∈ adr Ws c :: js.map (adr Ws), ∃ ca ta, w.heap[x]? = some (.cells ca ta (0, 0)) := fun x hx => by
 have hb : ∀ k, k < ns.length → ∃ ca ta, w.heap[adr Ws k]? = some (.cells ca ta (0, 0)) := fun k hk => ⟨_, _, (h.nds k hk).nd.box⟩
 rcases List.mem_cons.1 hx with rfl | hx
 ·exact hb c hc
 ·obtain ⟨j, hj, rfl⟩ := List.mem_map.1 hx
  exact hb j (hl j hj)
theorem GS.wcell (h : GS base w ns ord bw bl Ws v) {c : Nat} (hc : c < ns.length) : w.cell? ⟨bw, c, none⟩ = some (.pointer (some ⟨adr Ws c, 0, none⟩)) := h.wh.cell c (h.nds c hc).here
end Go.Proofs.YtnieifdogllbfaaGreat
namespace Go.Proofs.YtnieifdogllbfaaGreat
open Go.ChangeShapes Go.WideShapes Go.ChangeAt Go.RowKit
set_option linter.unusedVariables false
theorem kids_mem' {ns : List NodeZ} {k : Nat} (h : k < ns.length) : k ∈ kidsZ ns (ndAt ns k).parent := by
 unfold kidsZ
 rw [List.mem_filter]
 exact ⟨List.mem_range.2 h, by simp⟩
set_option maxRecDepth 100000
set_option maxHeartbeats 16000000
end Go.Proofs.YtnieifdogllbfaaGreat

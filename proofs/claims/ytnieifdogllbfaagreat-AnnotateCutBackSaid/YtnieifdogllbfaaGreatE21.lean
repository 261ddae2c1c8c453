/- AnI, AnJ, AnL. -/
import Derived.Test.YtnieifdogllbfaaGreatE20
import Derived.BigQuiet
import Derived.Deep.Cut
import Derived.Deep.QuietTactic
import Derived.Test.YtnieifdogllbfaaGreatC06
import Derived.Deep.AppendLies
import Derived.Test.YtnieifdogllbfaaGreatC05
namespace Go.Proofs.YtnieifdogllbfaaGreat
open Go.ChangeShapes Go.WideShapes Go.ChangeAt Go.RowKit
set_option linter.unusedVariables false
theorem infoBr : (Tryz.prog.info? 75).map (fun i => (i.zero, i.size, i.bytes)) = some (some (.pointer none), 1, 8) := by kernel_rfl
abbrev tBr : TypeId := 74
abbrev tPt : TypeId := 75
theorem nums_get {l : List Nat} {i : Nat} (h : i < l.length) : (ints (nums l))[i]? = some (.int .i64 (l.getD i 0 : Nat)) := by
 unfold ints nums
 rw [List.getElem?_map, List.getElem?_map, List.getElem?_eq_getElem h, List.getD_eq_getElem?_getD, List.getElem?_eq_getElem h]
 rfl
theorem app_at {ops : Array Oper} {rest : List Oper} {o : Oper} {a : Act} {Q : Exit → Act → World → Prop} (t e : TypeId) (z : Value) (k b : Nat)
  (hI : (Tryz.prog.info? e).map (fun i => (i.zero, i.size, i.bytes)) = some (some z, k, b)) (ht : Tryz.prog.underlying t = some (.slice e)) (hzs : z.cells.size = k) (hk : 0 < k) (hgd : o.guard = none) (s x : Operand)
  (ho : o.op = .call { callee := .builtin .append, args := #[s, x], argTypes := #[t, t] }) (base : Nat) (v : Value) (n : Nat) (xs news : List Value) (W : World) (hown : W.ownsRow base e k v n xs) (hb : base ≤ W.heap.size)
  (hl : news.length = k) (h1 : ∀ u ∈ news, u.oneCell' = true) (hn : n + 1 ≤ 100000000) (hbb : (n + 1) * b ≤ 140737488355328) (hs : a.eval s = v) (hx : a.eval x = .slice (some ⟨W.heap.size, 0, none⟩) 1 1)
  (h : ∀ g cap w', w'.ownsRow base e k (.slice (some ⟨g, 0, none⟩) (n + 1) cap) (n + 1) (xs ++ news) → (v.ownBlock = some g ∨ W.heap.size ≤ g) → (W.alloc (.cells news.toArray e)).grownBy w' v.ownBlock →
   wpList Tryz.prog ops Q rest (a.put o.dst (.slice (some ⟨g, 0, none⟩) (n + 1) cap)) w') : wpList Tryz.prog ops Q (o :: rest) a (W.alloc (.cells news.toArray e)) := by
 obtain ⟨i, hi, hz, hsz, hby⟩ : ∃ i, Tryz.prog.info? e = some i ∧ i.zero = some z ∧ i.size = k ∧ i.bytes = b := by
  cases hh : Tryz.prog.info? e with
  | none => rw [hh] at hI; cases hI
  | some i =>
   rw [hh] at hI
   simp only [Option.map_some, Option.some.injEq, Prod.mk.injEq] at hI
   exact ⟨i, rfl, hI.1, hI.2.1, hI.2.2⟩
 refine wpList_append_lies _ hgd s x t ho base e i z k b ht hi hz hsz hby hzs hk v n xs hs (hown.alloc _) ⟨W.heap.size, 0, none⟩ 1 1 news hx (by rw [hl, Nat.one_mul]) (new_cells W news e) h1 (by decide) (by unfold maxLen; omega) hbb (by simp; omega) _ rfl ?_
 intro g cap w' hown' hg hat hlt
 refine h g cap w' hown' ?_ hg
 rcases hat with hat | hat
 ·exact .inl hat
 ·exact .inr (by rw [hat]; simp)
theorem one_ptr {g : Nat} : ∀ u ∈ [ptrV g], u.oneCell' = true := by intro u hu; simp at hu; subst hu; rfl
theorem kids_nodup (ns : List NodeZ) (p : Int) : (kidsZ ns p).Nodup := by unfold kidsZ; exact List.Pairwise.filter _ List.nodup_range
theorem take_ne {ns : List NodeZ} {p : Int} {i c : Nat} (h : (kidsZ ns p)[i]? = some c) (hc : c ∈ (kidsZ ns p).take i) : False := by
 obtain ⟨j, hj, e⟩ := List.mem_iff_getElem.1 hc
 rw [List.length_take] at hj
 rw [List.getElem_take] at e
 obtain ⟨hi, e2⟩ := List.getElem?_eq_some_iff.1 h
 exact (List.pairwise_iff_getElem.1 (kids_nodup ns p)) j i (by omega) hi (by omega) (e.trans e2.symm)
def TreePost (ns : List NodeZ) (p : Int) (bw : Nat) (Ws : List Value) (w : World) (e : Ending) (w' : World) : Prop := ∃ v Ws', e = .returned v ∧ TS tBr tPt w.heap.size w w' ns (kidsZ ns) bw Ws Ws' (Und ns p) v (kidsZ ns p)
def treeS (ns : List NodeZ) (p : Int) (i : Nat) (k : Nat) : Prop := ∃ c ∈ (kidsZ ns p).take i, k = c ∨ Und ns (c : Int) k
set_option maxRecDepth 100000 in
set_option maxHeartbeats 8000000 in
theorem tree_any (X : RecZ) (vt vn : Value) (w00 : World) (hx : RdX w00 X vt vn) (hbk : Back X.nodes X.nodes.length) (hm : X.nodes.length ≤ 1000) : ∀ (f : Nat) (p : Int) (bw cw : Nat) (Ws : List Value) (w : World), Below w00.heap.size w00 w → w00.heap.size ≤ bw → Box w bw Ws tPt → Ws.length = X.nodes.length →
  (X.nodes.length : Int) - p ≤ f → -1 ≤ p → p < X.nodes.length →
  Calls Tryz.prog 26 #[recV X vt vn, .int .i64 p, .slice (some ⟨bw, 0, none⟩) X.nodes.length cw] w (TreePost X.nodes p bw Ws w) := by
 have HX00 := Lib.hid hx
 have HBK := Lib.hid hbk
 obtain ⟨na, nc, rfl, h1, h2⟩ := hx.2.1.form
 obtain ⟨ta, tc, rfl, ht1, ht2⟩ := hx.1.form
 unfold maxLen at h2 ht2
 clear hx hbk
 unfold recV
 intro f
 induction f with
 | zero => intros; omega
 | succ f ih =>
  intro p bw cw Ws w h00 hbw hbx hwl hf hp0 hp1
  have IH := Lib.hid ih
  have H00 := Lib.hid h00
  have HBX := Lib.hid hbx
  have hbwl := hbx.lt
  clear ih h00 hbx
  go_enter Tryz.func26, Tryz.ntmps26
  go_upto_region 2 with (fail)
  obtain ⟨bb, hbb⟩ : ∃ bb, bb = w.heap.size := ⟨_, rfl⟩
  have HXb : Hid (Box (w.alloc (.cells #[.slice ta X.tags.length tc, .string X.comment, .slice na X.nodes.length nc, .int .i64 X.result] 30)) bb [.slice ta X.tags.length tc, .string X.comment, .slice na X.nodes.length nc, .int .i64 X.result] 30) := Lib.hid (Box.new' w bb [.slice ta X.tags.length tc, .string X.comment, .slice na X.nodes.length nc, .int .i64 X.result] 30 hbb.symm)
  have HB : Hid (Below w.heap.size w (w.alloc (.cells #[.slice ta X.tags.length tc, .string X.comment, .slice na X.nodes.length nc, .int .i64 X.result] 30))) := Lib.hid ((Below.refl w.heap.size w).alloc (Nat.le_refl _) _)
  have hbb1 : w.heap.size ≤ bb := by omega
  rw [← hbb]
  clear hbb
  generalize (w.alloc (.cells #[.slice ta X.tags.length tc, .string X.comment, .slice na X.nodes.length nc, .int .i64 X.result] 30)) = w0 at *
  refine wp_region_lit ?_
  refine wpList_load_box (by rfl) 30 (.tmp 3) (by rfl) bb (by rfl) HXb.out Tryz.underlying30 (by rfl) (by kernel_rfl) ?_
  have H000 := Lib.hid (H00.out.trans (HB.out.mono H00.out.size))
  have HKi := Lib.hid (Kids_any X (.slice ta X.tags.length tc) (.slice na X.nodes.length nc) p w0 (HX00.out.below H000.out (Nat.le_refl _)) hm)
  unfold recV at HKi
  go_wp2_with fail
  refine HKi.out.mono ?_
  rintro e w1 ⟨v', rfl, how, hb1⟩
  obtain ⟨oa, oc, rfl⟩ := own_form2 how
  have HK1 := Lib.hid (own_base how HB.out.size)
  have hkl : (kidsZ X.nodes p).length ≤ X.nodes.length := kidsK_len X.nodes p X.nodes.length
  have HB1 := Lib.hid (HB.out.trans (hb1.mono HB.out.size))
  have HXb1 := Lib.hid (HXb.out.stays hb1)
  clear how hb1 HKi HB HXb H000
  have HT0 : Hid (TS tBr tPt w1.heap.size w1 w1 X.nodes (kidsZ X.nodes) bw Ws Ws (treeS X.nodes p 0) (.slice none 0 0) ((kidsZ X.nodes p).take 0)) := Lib.hid ((TS.start w1.heap.size (HBX.out.below HB1.out hbwl)).congr (fun k => ⟨fun h => h.elim, fun ⟨c, hc, _⟩ => (List.not_mem_nil hc).elim⟩))
  go_wp2_with fail
  go_loopw [15, 7] (fun v15 v7 wr => ∃ (i : Nat) (Wi : List Value) (o7 : Value), o7 = v7 ∧ v15 = .int .i64 i ∧ i ≤ (kidsZ X.nodes p).length ∧ Hid (TS tBr tPt w1.heap.size w1 wr X.nodes (kidsZ X.nodes) bw Ws Wi (treeS X.nodes p i) o7 ((kidsZ X.nodes p).take i))) (fun v _ _ => (kidsZ X.nodes p).length - (intOf v).toNat)
  case atStart => exact ⟨0, _, _, rfl, rfl, Nat.zero_le _, HT0⟩
  case round =>
   obtain ⟨i, Wi, o7, rfl, rfl, hi, HT⟩ := hrel
   by_cases hlt : (i : Int) < ((kidsZ X.nodes p).length : Int)
   ·have hil : i < (kidsZ X.nodes p).length := by omega
    obtain ⟨c, hc⟩ : ∃ c, c = (kidsZ X.nodes p).getD i 0 := ⟨_, rfl⟩
    have hcg : (kidsZ X.nodes p)[i]? = some c := by rw [hc, List.getD_eq_getElem?_getD, List.getElem?_eq_getElem hil]; rfl
    have hcK : c ∈ kidsZ X.nodes p := List.mem_of_getElem? hcg
    have hcn := (kid_par hcK).2
    obtain ⟨G, oc', hG⟩ := own_some HK1.out (by omega)
    obtain ⟨rfl, rfl⟩ : oa = some ⟨G, 0, none⟩ ∧ oc = oc' := by simpa using hG
    clear hG
    have hGl := HK1.out.lt G rfl
    have hwr := HT.out.grow.size
    have g0 : wr.cell? ⟨G, i, none⟩ = some (.int .i64 (c : Int)) := by
     rw [World.cell?_of_block (w := w1) (HT.out.grow.block G hGl.2 (by simp; omega)), HK1.out.cellAt i (by omega), nums_get hil, hc]
    have HXbr : Hid (Box wr bb [.slice ta X.tags.length tc, .string X.comment, .slice na X.nodes.length nc, .int .i64 X.result] 30) := Lib.hid ((HT.out.grow.block bb HXb1.out.lt (by simp; omega)).trans HXb1.out)
    have x2 := HXbr.out.cell 2 rfl
    have hxl := HXbr.out.lt
    obtain ⟨g, o, rfl, hg, hcs⟩ := nodes_some HX00.out.2.1 (by omega)
    obtain ⟨e0, e1, e2, e3, e4, hsz⟩ := hcs c hcn
    have e00 : ∀ b, b < w00.heap.size → wr.heap[b]? = w00.heap[b]? := fun b hb => by
     have s1 := H00.out.size
     have s2 := HB1.out.size
     rw [HT.out.grow.block b (by omega) (by simp; omega), HB1.out.block b (by omega), H00.out.block b hb]
    have c1 := (World.cell?_of_block (a := ⟨g, o + c * 5 + 1, none⟩) (e00 g hg)).trans e1
    have c2 := (World.cell?_of_block (a := ⟨g, o + c * 5 + 2, none⟩) (e00 g hg)).trans e2
    have c3 := (World.cell?_of_block (a := ⟨g, o + c * 5 + 3, none⟩) (e00 g hg)).trans e3
    have c4 := (World.cell?_of_block (a := ⟨g, o + c * 5 + 4, none⟩) (e00 g hg)).trans e4
    have hgr : g < wr.heap.size := by have := HB1.out.size; have := H00.out.size; omega
    have hGr : G < wr.heap.size := by omega
    have hcl : (c : Int) < (X.nodes.length : Int) := by omega
    have hc0 : (0 : Int) ≤ (c : Int) := by omega
    clear hcs e0 e1 e2 e3 e4 e00 hc
    go_upto_region 5 with (fail)
    go_region
    obtain ⟨B, hB⟩ : ∃ B, B = wr.heap.size := ⟨_, rfl⟩
    have hga : Hid (wr.grownBy (wr.alloc (.cells #[.int .i64 (ndAt X.nodes c).m.src, .int .i64 (ndAt X.nodes c).m.dst, .int .i64 (ndAt X.nodes c).m.piece, .string (ndAt X.nodes c).comment, .slice none 0 0] 74)).drew (some bw)) := Lib.hid (grown_below ((Below.refl _ _).alloc (Nat.le_refl _) _).drew)
    have hsa : (wr.alloc (.cells #[.int .i64 (ndAt X.nodes c).m.src, .int .i64 (ndAt X.nodes c).m.dst, .int .i64 (ndAt X.nodes c).m.piece, .string (ndAt X.nodes c).comment, .slice none 0 0] 74)).drew.heap.size = B + 1 := by simp [hB]
    have HBa : Hid (Box (wr.alloc (.cells #[.int .i64 (ndAt X.nodes c).m.src, .int .i64 (ndAt X.nodes c).m.dst, .int .i64 (ndAt X.nodes c).m.piece, .string (ndAt X.nodes c).comment, .slice none 0 0] 74)).drew B [.int .i64 (ndAt X.nodes c).m.src, .int .i64 (ndAt X.nodes c).m.dst, .int .i64 (ndAt X.nodes c).m.piece, .string (ndAt X.nodes c).comment, .slice none 0 0] 74) := Lib.hid (Box.new' wr B _ _ hB.symm)
    have HWa : Hid (Box (wr.alloc (.cells #[.int .i64 (ndAt X.nodes c).m.src, .int .i64 (ndAt X.nodes c).m.dst, .int .i64 (ndAt X.nodes c).m.piece, .string (ndAt X.nodes c).comment, .slice none 0 0] 74)).drew bw Wi tPt) := Lib.hid (HT.out.wh.alloc _)
    rw [← hB]
    generalize (wr.alloc (.cells #[.int .i64 (ndAt X.nodes c).m.src, .int .i64 (ndAt X.nodes c).m.dst, .int .i64 (ndAt X.nodes c).m.piece, .string (ndAt X.nodes c).comment, .slice none 0 0] 74)).drew = wa at *
    have HXa : Hid (Box wa bb [.slice ta X.tags.length tc, .string X.comment, .slice (some ⟨g, o, none⟩) X.nodes.length nc, .int .i64 X.result] 30) := Lib.hid ((hga.out.block bb hxl (by simp; omega)).trans HXbr.out)
    have hwi : Wi.length = X.nodes.length := by rw [HT.out.wlen, hwl]
    have w0c := HWa.out.cell c (List.getElem?_eq_getElem (by omega : c < Wi.length))
    have w0f := HWa.out.frozen c
    have hbwa := HWa.out.lt
    have hbwB : bw < B := by omega
    have hbbB : bb < B := by omega
    have hw1B : w1.heap.size ≤ B := by omega
    have HBe := Lib.hid hB
    clear g0 x2 c1 c2 c3 c4 HXbr hB
    go_upto_region 7 with (fail)
    have HG3 : Hid (wr.grownBy (wa.setCell ⟨bw, c, none⟩ (.pointer (some ⟨B, 0, none⟩))) (some bw)) := Lib.hid (grown_set hga.out _ _ (.inl rfl))
    have hs3 : (wa.setCell ⟨bw, c, none⟩ (.pointer (some ⟨B, 0, none⟩))).heap.size = B + 1 := by simp [hsa]
    have HB3 : Hid (Box (wa.setCell ⟨bw, c, none⟩ (.pointer (some ⟨B, 0, none⟩))) B [.int .i64 (ndAt X.nodes c).m.src, .int .i64 (ndAt X.nodes c).m.dst, .int .i64 (ndAt X.nodes c).m.piece, .string (ndAt X.nodes c).comment, .slice none 0 0] 74) := Lib.hid (HBa.out.far _ _ (by show B ≠ bw; omega))
    have HW3 : Hid (Box (wa.setCell ⟨bw, c, none⟩ (.pointer (some ⟨B, 0, none⟩))) bw (Wi.set c (ptrV B)) tPt) := Lib.hid (HWa.out.set c _)
    have HX3 : Hid (Box (wa.setCell ⟨bw, c, none⟩ (.pointer (some ⟨B, 0, none⟩))) bb [.slice ta X.tags.length tc, .string X.comment, .slice (some ⟨g, o, none⟩) X.nodes.length nc, .int .i64 X.result] 30) := Lib.hid (HXa.out.far _ _ (by show bb ≠ bw; omega))
    generalize (wa.setCell ⟨bw, c, none⟩ (.pointer (some ⟨B, 0, none⟩))) = w3 at *
    clear HBa HWa HXa hga hsa w0c w0f
    have hx3l := HX3.out.lt
    have H03 : Below w00.heap.size w00 w3 := by
     have s1 := H00.out.size
     have s2 := HB1.out.size
     refine ⟨HG3.out.os.trans (HT.out.grow.os.trans (HB1.out.os.trans H00.out.os)), HG3.out.tape.trans (HT.out.grow.tape.trans (HB1.out.tape.trans H00.out.tape)), HG3.out.output.trans (HT.out.grow.output.trans (HB1.out.output.trans H00.out.output)), by omega, fun b hb => ?_⟩
     rw [HG3.out.block b (by omega) (by simp; omega), HT.out.grow.block b (by omega) (by simp; omega), HB1.out.block b (by omega), H00.out.block b hb]
    have HRec := Lib.hid (IH.out (c : Int) bw cw (Wi.set c (ptrV B)) w3 H03 hbw HW3.out (by rw [List.length_set]; exact hwi) (by have := HBK.out c hcn; have := (kid_par hcK).1; omega) (by omega) (by omega))
    have x0 := HX3.out.cell 0 rfl
    have x1 := HX3.out.cell 1 rfl
    have x2 := HX3.out.cell 2 rfl
    have x3 := HX3.out.cell 3 rfl
    go_wp2_with fail
    refine HRec.out.mono ?_
    rintro e w4 ⟨v4, W2, rfl, hT4⟩
    obtain ⟨oa4, oc4, rfl⟩ := own_form2 hT4.out
    rw [hs3] at hT4
    have HT4 := Lib.hid hT4
    have HB4 : Hid (Box w4 B [.int .i64 (ndAt X.nodes c).m.src, .int .i64 (ndAt X.nodes c).m.dst, .int .i64 (ndAt X.nodes c).m.piece, .string (ndAt X.nodes c).comment, .slice none 0 0] 74) := Lib.hid ((hT4.grow.block B (by omega) (by simp; omega)).trans HB3.out)
    have b4 := HB4.out.cell 4 rfl
    have bf4 := HB4.out.frozen 4
    have hb4l := HB4.out.lt
    clear hT4 HRec H03 x0 x1 x2 x3
    go_upto_region 8 with (fail)
    have hSc : ¬ treeS X.nodes p i c := fun ⟨c', hc', h'⟩ => by
     have e := und_apart HBK.out (List.mem_of_mem_take hc') hcK h' (.inl rfl)
     subst e
     exact take_ne hcg hc'
    have HT5 := Lib.hid (HT.out.node (c := c) (B := B) (Nat.le_refl _) (by omega) HBe.out.symm rfl (by omega) HG3.out hs3 HB3.out hsz HT4.out (fun h => by have := h.lt HBK.out; omega) hSc (fun k hu ⟨c', hc', h'⟩ => by
     have e := und_apart HBK.out (List.mem_of_mem_take hc') hcK h' (.inr hu)
     subst e
     exact take_ne hcg hc'))
    have hac : adr W2 c = B := adr_ptr (by rw [HT4.out.wold c (fun h => by have := h.lt HBK.out; omega), List.getElem?_set, if_pos rfl, if_pos (by omega)])
    generalize (w4.setCell ⟨B, 4, none⟩ (.slice oa4 (kidsZ X.nodes (c : Int)).length oc4)) = w5 at *
    have hlt5 : w1.heap.size ≤ w5.heap.size := HT5.out.grow.size
    obtain ⟨js, hjs⟩ : ∃ js, (kidsZ X.nodes p).take i = js := ⟨_, rfl⟩
    rw [hjs] at HT5
    have hjl : js.length ≤ 1000 := by rw [← hjs, List.length_take]; omega
    have Hjs := Lib.hid hjs
    clear hjs
    clear HT HT4 HB4 HG3 HB3 HW3 HX3 b4 bf4 hSc
    obtain ⟨oa7, oc7, rfl⟩ := own_form2 HT5.out.out
    go_wp2_with (at_builtin; refine app_at 59 75 (.pointer none) 1 8 infoBr Tryz.underlying59 rfl (by decide) (by rfl) _ _ (by rfl) w1.heap.size _ js.length (js.map fun j => ptrV (adr W2 j)) [ptrV B] w5 HT5.out.out hlt5 rfl one_ptr (by omega) (by omega) (by rfl) (by rfl) ?_)
    intro g6 cap6 w6 hown6 hat6 hgr6
    have HT6 := Lib.hid (HT5.out.app (c := c) (by decide) (Nat.le_refl _) (by omega) (.inr (.inl rfl)) hgr6 hat6 (by rw [hac]; exact hown6))
    clear hown6 hat6 hgr6 HT5
    go_wp2_with fail
    go_roundw
    case rel =>
     refine ⟨i + 1, W2, _, rfl, by go_num, by omega, Lib.hid ?_⟩
     have e1 : (kidsZ X.nodes p).take (i + 1) = js ++ [c] := by rw [List.take_add_one, hcg, Hjs.out]; rfl
     rw [e1]
     refine HT6.out.congr fun k => ⟨?_, ?_⟩
     ·rintro (⟨c', h1, h2⟩ | h)
      ·exact ⟨c', by rw [e1, ← Hjs.out]; exact List.mem_append_left _ h1, h2⟩
      ·exact ⟨c, by rw [e1]; exact List.mem_append_right _ (List.mem_singleton.2 rfl), h⟩
     ·rintro ⟨c', h1, h2⟩
      rw [e1] at h1
      rcases List.mem_append.1 h1 with h1 | h1
      ·exact .inl ⟨c', by rw [Hjs.out]; exact h1, h2⟩
      ·rw [List.mem_singleton.1 h1] at h2; exact .inr h2
    case measure => simp [intOf]; omega
   ·obtain rfl : i = (kidsZ X.nodes p).length := by omega
    have HF := Lib.hid (HT.out.back HB1.out.size (grown_below HB1.out))
    rw [List.take_of_length_le (Nat.le_refl _)] at HF
    go_wp2_with fail
    go_ret
    refine ⟨_, Wi, rfl, HF.out.congr fun k => ⟨?_, ?_⟩⟩
    ·rintro ⟨c, hc, h⟩
     rw [List.take_of_length_le (Nat.le_refl _)] at hc
     rcases h with rfl | h
     ·exact und_kid hc
     ·exact und_down hc h
    ·intro h
     obtain ⟨c, hc, h2⟩ := und_cases (k + 1) (Nat.lt_succ_self _) HBK.out h
     exact ⟨c, by rw [List.take_of_length_le (Nat.le_refl _)]; exact hc, h2⟩
end Go.Proofs.YtnieifdogllbfaaGreat
namespace Go.Proofs.YtnieifdogllbfaaGreat
open Go.ChangeShapes Go.WideShapes Go.ChangeAt Go.RowKit
set_option linter.unusedVariables false
abbrev tNd : TypeId := 70
theorem infoNd : (Tryz.prog.info? 70).map (fun i => (i.zero, i.size, i.bytes)) = some (some (.agg #[.int .i64 0, .int .i64 0, .int .i64 0, .int .i64 0, .string ⟨#[]⟩]), 5, 48) := by kernel_rfl
def ndV (x : NodeZ) : List Value := [.int .i64 x.parent, .int .i64 x.m.src, .int .i64 x.m.dst, .int .i64 x.m.piece, .string x.comment]
def flatN (l : List NodeZ) : List Value := l.flatMap ndV
theorem flatN_snoc (l : List NodeZ) (x : NodeZ) : flatN l ++ ndV x = flatN (l ++ [x]) := by simp [flatN]
theorem flatN_at : ∀ (l : List NodeZ) (i : Nat) (h : i < l.length), ((flatN l).drop (i * 5)).take 5 = ndV l[i]
 | m :: t, 0, _ => rfl
 | m :: t, i + 1, h => by
  have e : flatN (m :: t) = ndV m ++ flatN t := rfl
  rw [e, show (i + 1) * 5 = i * 5 + 5 by omega, List.drop_append]
  rw [List.drop_of_length_le (by simp [ndV])]
  exact flatN_at t i (by simpa using h)
theorem rdN_of_own {w : World} {b : Nat} {v : Value} {xs : List NodeZ} (h : w.ownsRow b tNd 5 v xs.length (flatN xs)) (hs : ∀ x ∈ xs, x.comment.size ≤ maxLen) : RdL nodeEl w v xs := by
 refine RdL.of_own (el := nodeEl) h fun i hi => ?_
 show ((flatN xs).drop (i * 5)).take 5 = _ ∧ _
 exact ⟨flatN_at xs i hi, hs _ (List.getElem_mem hi)⟩
def cnt (ks : List BrZ) : Nat := (waysL [] ks).length
theorem cnt_pre (ks : List BrZ) (pre : List MoveZ) : (waysL pre ks).length = cnt ks := by
 have h1 := flatT_len ks pre (-1) []
 have h2 := flatT_len ks [] (-1) []
 unfold cnt; omega
theorem flat_cnt (ks : List BrZ) (p : Int) (out : List NodeZ) : (flatL ks p out).length = out.length + cnt ks := flatT_len ks [] p out
theorem cnt_app (a b : List BrZ) : cnt (a ++ b) = cnt a + cnt b := by unfold cnt; rw [waysL_app, List.length_append]
theorem cnt_one (m : MoveZ) (c : ByteArray) (kk : List BrZ) : cnt [.mk m c kk] = cnt kk + 1 := by
 unfold cnt
 rw [waysL, waysL, List.append_nil, waysB_eq, List.length_cons, cnt_pre]; rfl
theorem cnt_take {ks : List BrZ} {i : Nat} (h : i < ks.length) : cnt (ks.take (i + 1)) = cnt (ks.take i) + cnt [ks[i]] := by
 rw [List.take_add_one, List.getElem?_eq_getElem h, cnt_app]; rfl
theorem cnt_le (ks : List BrZ) (i : Nat) : cnt (ks.take i) ≤ cnt ks := by
 have h := cnt_app (ks.take i) (ks.drop i)
 rw [List.take_append_drop] at h
 omega
theorem cnt_len : ∀ ks : List BrZ, ks.length ≤ cnt ks
 | [] => Nat.zero_le _
 | .mk m c kk :: l => by
  have h := cnt_app [.mk m c kk] l
  rw [cnt_one] at h
  have := cnt_len l
  rw [List.singleton_append] at h
  rw [h, List.length_cons]; omega
theorem flatL_two : ∀ (a b : List BrZ) (p : Int) (out : List NodeZ), flatL (a ++ b) p out = flatL b p (flatL a p out)
 | [], b, p, out => by rw [List.nil_append]; conv => rhs; rw [show flatL [] p out = out by rw [flatL]]
 | x :: a, b, p, out => by rw [List.cons_append, flatL, flatL, flatL_two a b p _]
theorem flat_take {ks : List BrZ} {i : Nat} {m : MoveZ} {c : ByteArray} {kk : List BrZ} (h : ks[i]? = some (.mk m c kk)) (p : Int) (out : List NodeZ) :
  flatL (ks.take (i + 1)) p out = flatL kk ((flatL (ks.take i) p out).length : Int) (flatL (ks.take i) p out ++ [⟨p, m, c⟩]) := by
 rw [List.take_add_one, h, flatL_two]
 show flatL [.mk m c kk] p _ = _
 rw [flatL, flatL, flatB]
theorem brs_cells {q : Nat → Prop} {tb te : TypeId} {base : Nat} {w : World} {l : List BrZ} {vs : List Value} (h : BrsAt q tb te base w l vs) {i : Nat} {x : BrZ} (hi : l[i]? = some x) : ∃ v, vs[i]? = some v ∧ BrAt q tb te base w x v := by
 obtain ⟨h1, h2⟩ := List.getElem?_eq_some_iff.1 hi
 have hl := brs_len l vs h
 refine ⟨vs[i]'(by omega), List.getElem?_eq_getElem (by omega), ?_⟩
 have := brs_get l vs h i h1 (by omega)
 rw [h2] at this; exact this
def fvF (O F : Nat) : Value := .func (.func 70) #[] #[.pointer (some ⟨O, 0, none⟩), .pointer (some ⟨F, 0, none⟩)]
/-- between the rounds of flat: what is out so far. -/
structure FlS (w00 : World) (O F : Nat) (w : World) (ov : Value) (out : List NodeZ) : Prop where
 old : Below w00.heap.size w00 w
 hO : Box w O [ov] 28
 hF : Box w F [fvF O F] 109
 row : w.ownsRow (F + 1) tNd 5 ov out.length (flatN out)
set_option maxRecDepth 100000 in
set_option maxHeartbeats 8000000 in
theorem flat1_any {q : Nat → Prop} (w00 : World) (b O F : Nat) (h1 : w00.heap.size ≤ O) (h2 : O < F) : ∀ (f : Nat) (ks : List BrZ) (lv : Value) (vs : List Value) (p : Int) (out : List NodeZ) (ov : Value) (w : World), cnt ks < f → BrsAt q tBr tPt b w00 ks vs → w00.ownsRow b tPt 1 lv vs.length vs → out.length + cnt ks ≤ 1000 →
  FlS w00 O F w ov out → Calls Tryz.prog 70 #[lv, .int .i64 p, .pointer (some ⟨O, 0, none⟩), .pointer (some ⟨F, 0, none⟩)] w fun e w' => e = .returned (.tuple #[]) ∧ ∃ ov', FlS w00 O F w' ov' (flatL ks p out) := by
 intro f
 induction f with
 | zero => intros; omega
 | succ f ih =>
  intro ks lv vs p out ov w hf hks hlv hn hS
  have IH := Lib.hid ih
  have HKS := Lib.hid hks
  have HLV := Lib.hid hlv
  have hvl0 := brs_len ks vs hks
  have hvl1 : vs.length ≤ ks.length := by omega
  have hvl2 : ks.length ≤ vs.length := by omega
  clear hvl0
  obtain ⟨la, lc, rfl⟩ := own_form2 hlv
  have hkl : ks.length ≤ 1000 := by have := cnt_len ks; omega
  have HS0 : Hid (FlS w00 O F w ov (flatL (ks.take 0) p out)) := Lib.hid (by rw [List.take_zero, flatL]; exact hS)
  clear ih hks hlv hS
  go_enter Tryz.func70, Tryz.ntmps70
  go_wp2_with fail
  go_loopw [11] (fun v11 wr => ∃ (i : Nat) (ovi : Value), v11 = .int .i64 i ∧ i ≤ vs.length ∧ Hid (FlS w00 O F wr ovi (flatL (ks.take i) p out))) (fun v _ => vs.length - (intOf v).toNat)
  case atStart => exact ⟨0, ov, rfl, Nat.zero_le _, HS0⟩
  case round =>
   obtain ⟨i, ovi, rfl, hi, HS⟩ := hrel
   by_cases hlt : (i : Int) < (vs.length : Int)
   ·obtain ⟨x, hx⟩ : ∃ x, ks[i]? = some x := ⟨_, List.getElem?_eq_getElem (by omega)⟩
    obtain ⟨m, c, kk⟩ := x
    have HFT := Lib.hid (flat_take hx p out)
    have hcn : cnt (ks.take i) + (cnt kk + 1) ≤ cnt ks := by
     have h1 := cnt_take (ks := ks) (i := i) (by omega)
     have h2 := cnt_le ks (i + 1)
     have h3 : ks[i] = .mk m c kk := (List.getElem?_eq_some_iff.1 hx).2
     rw [h3, cnt_one] at h1
     omega
    have hol1 : (flatL (ks.take i) p out).length ≤ out.length + cnt (ks.take i) := Nat.le_of_eq (flat_cnt (ks.take i) p out)
    have hol : (flatL (ks.take i) p out).length ≤ 999 := by omega
    have HOT := Lib.hid (flat_cnt (ks.take i) p out)
    generalize flatL (ks.take i) p out = ot at *
    obtain ⟨pv, hpv, hbr⟩ := brs_cells HKS.out hx
    rw [BrAt] at hbr
    obtain ⟨g, kv', vs', rfl, hbg, hbx, hcs, hrow, -, hkk⟩ := hbr
    obtain ⟨L, lc', hL⟩ := own_some HLV.out (by omega)
    obtain ⟨rfl, rfl⟩ : la = some ⟨L, 0, none⟩ ∧ lc = lc' := by simpa using hL
    clear hL
    have hLl := (HLV.out.lt L rfl).2
    have s1 := HS.out.old.size
    have l0 : wr.cell? ⟨L, i, none⟩ = some (.pointer (some ⟨g, 0, none⟩)) := by
     rw [HS.out.old.cell (p := ⟨L, i, none⟩) hLl, HLV.out.cellAt i (by omega)]; exact hpv
    have hLr : L < wr.heap.size := by omega
    obtain ⟨oa, oc, rfl⟩ := own_form2 HS.out.row
    have o0 := HS.out.hO.cell 0 rfl
    have of0 := HS.out.hO.frozen 0
    have hOl := HS.out.hO.lt
    have hbr := HS.out.old
    have hgr : Box wr g _ tBr := hbx.below hbr hbx.lt
    have g0 := hgr.cell 0 rfl
    have g1 := hgr.cell 1 rfl
    have g2 := hgr.cell 2 rfl
    have g3 := hgr.cell 3 rfl
    have hgl := hgr.lt
    obtain ⟨i0, hi0, hz0, hz1, hz2⟩ := info_parts infoNd
    have S1 : Hid (∀ u ∈ ([.int .i64 p, .int .i64 m.src, .int .i64 m.dst, .int .i64 m.piece, .string c] : List Value), u.oneCell' = true) := Lib.hid (fun u hu => by simp at hu; rcases hu with rfl | rfl | rfl | rfl | rfl <;> rfl)
    have hgw : g < w00.heap.size := hbx.lt
    go_upto_region 4 with (fail)
    have BOz : Box wr.drew O [.slice oa ot.length oc] 28 := HS.out.hO
    have BFz : Box wr.drew F [fvF O F] 109 := HS.out.hF
    have BGz : Box wr.drew g [.int .i64 m.src, .int .i64 m.dst, .int .i64 m.piece, .string c, kv'] tBr := hgr
    have Lz : Below w00.heap.size w00 wr.drew := HS.out.old.drew
    have Rz : wr.drew.ownsRow (F + 1) 70 5 (.slice oa ot.length oc) ot.length (flatN ot) := HS.out.row
    clear o0 of0 hOl hbr hgr g0 g1 g2 g3 hgl l0 hLr
    refine wp_region_noPanic ?_
    refine beginL (S := (fun w' => w'.cell? ⟨O, 0, none⟩ = some (.slice oa ot.length oc) ∧ w'.cell? ⟨g, 0, none⟩ = some (.int .i64 m.src) ∧ w'.cell? ⟨g, 1, none⟩ = some (.int .i64 m.dst) ∧ w'.cell? ⟨g, 2, none⟩ = some (.int .i64 m.piece) ∧ w'.cell? ⟨g, 3, none⟩ = some (.string c))) (L := [13]) (by kernel_rfl) (by and_intros <;> first | exact BOz.cell _ rfl | exact BGz.cell _ rfl) (fun hHeld => ?_)
    refine tkL 0 ?_
    refine tkW 1 ?_
    refine tkW 2 ?_
    refine tkW 6 ?_
    refine tkW 3 ?_
    refine tkW 7 ?_
    refine tkW 4 ?_
    refine tkW 8 ?_
    refine tkL 5 ?_
    refine tkL 9 ?_
    refine tkW 10 ?_
    refine cnL 11 fun K hK => ?_
    go_simp
    refine K_world ?_
    intro w11 e11
    have BO11 : Box w11 O [.slice oa ot.length oc] 28 := by rw [e11]; exact BOz.alloc _
    have BG11 : Box w11 g [.int .i64 m.src, .int .i64 m.dst, .int .i64 m.piece, .string c, kv'] tBr := by rw [e11]; exact BGz.alloc _
    have BF11 : Box w11 F [fvF O F] 109 := by rw [e11]; exact BFz.alloc _
    have L11 : Below w00.heap.size w00 w11 := by rw [e11]; exact Lz.alloc Lz.size _
    have R11 : w11.ownsRow (F + 1) 70 5 (.slice oa ot.length oc) ot.length (flatN ot) := by rw [e11]; exact Rz.alloc _
    have N11 : ∀ j u, ([.int .i64 p, .int .i64 m.src, .int .i64 m.dst, .int .i64 m.piece, .string c] : List Value)[j]? = some u → w11.cell? ((⟨wr.drew.heap.size, 0, none⟩ : Addr).add j) = some u := by rw [e11]; exact fun j u hj => new_cells wr.drew [.int .i64 p, .int .i64 m.src, .int .i64 m.dst, .int .i64 m.piece, .string c] 70 j u hj
    have Z11 : F + 1 ≤ w11.heap.size := by have := BF11.lt; omega
    clear e11
    refine hK.out _ _ (by and_intros <;> first | exact BO11.cell _ rfl | exact BG11.cell _ rfl) (fun hHeld => ?_)
    clear hK K
    refine cnL 12 fun K hK => ?_
    rw [if_pos (by rfl)]
    refine wp_append_lies _ _ _ 28 rfl (F + 1) 70 i0 (.agg #[.int .i64 0, .int .i64 0, .int .i64 0, .int .i64 0, .string ⟨#[]⟩]) 5 48 Tryz.underlying28 hi0 hz0 hz1 hz2 rfl (by decide) (.slice oa ot.length oc) ot.length (flatN ot) rfl R11 ⟨wr.drew.heap.size, 0, none⟩ 1 1 [.int .i64 p, .int .i64 m.src, .int .i64 m.dst, .int .i64 m.piece, .string c] rfl rfl N11 S1.out (by decide) (by unfold maxLen; omega) (by omega) Z11 w11.heap.size rfl ?_
    intro g12 c12 w12 ho12 hg12 hq12 hl12
    have fr : ∀ k, k < F + 1 → some k ≠ (Value.slice oa ot.length oc).ownBlock := fun k hk e => by have := (R11.lt k e.symm).1; omega
    have BO12 := BO11.grown hg12 (fr O (by omega))
    have BG12 := BG11.grown hg12 (fr g (by omega))
    have BF12 := BF11.grown hg12 (fr F (by omega))
    have L12 := Below.grown L11 hg12 L11.size (fun q hq => by have := (R11.lt q hq).1; omega)
    clear hg12 hq12 hl12 fr
    refine hK.out _ _ (by and_intros <;> first | exact BO12.cell _ rfl | exact BG12.cell _ rfl) (fun hHeld => ?_)
    clear hK K
    refine ltL 13 fun K hK => ?_
    have d1 := BO12.cell 0 rfl
    have d1f := BO12.frozen 0
    go_simp
    refine K_world ?_
    intro w13 e13
    have BO13 : Box w13 O [.slice (some ⟨g12, 0, none⟩) (ot.length + 1) c12] 28 := by rw [e13]; exact BO12.set 0 _
    have BF13 : Box w13 F [fvF O F] 109 := by rw [e13]; exact BF12.far _ _ (by show F ≠ O; omega)
    have BG13 : Box w13 g [.int .i64 m.src, .int .i64 m.dst, .int .i64 m.piece, .string c, kv'] tBr := by rw [e13]; exact BG12.far _ _ (by show g ≠ O; omega)
    have L13 : Below w00.heap.size w00 w13 := by rw [e13]; exact L12.setCell h1 _
    have R13 : w13.ownsRow (F + 1) 70 5 (.slice (some ⟨g12, 0, none⟩) (ot.length + 1) c12) (ot.length + 1) (flatN ot ++ [.int .i64 p, .int .i64 m.src, .int .i64 m.dst, .int .i64 m.piece, .string c]) := by rw [e13]; exact ownsRow_setCell_below ho12 (by show O < F + 1; omega) _
    clear e13 d1 d1f
    refine hK.out _ _ ?_
    clear hK K
    refine dnN ?_
    have HS5 : Hid (FlS w00 O F w13 (.slice (some ⟨g12, 0, none⟩) (ot.length + 1) c12) (ot ++ [⟨p, m, c⟩])) := Lib.hid ⟨L13, BO13, BF13, by rw [List.length_append, ← flatN_snoc]; exact R13⟩
    have HG5 := Lib.hid BG13
    clear BOz BGz BFz Lz Rz BO11 BG11 BF11 L11 R11 N11 Z11 BO12 BG12 BF12 L12 ho12 BO13 BF13 BG13 L13 R13 hHeld S1 HS
    generalize (Value.slice (some ⟨g12, 0, none⟩) (ot.length + 1) c12) = ov13 at *
    go_upto_region 5 with (fail)
    have HSd : FlS w00 O F w13.drew ov13 (ot ++ [⟨p, m, c⟩]) := ⟨HS5.out.old.drew, HS5.out.hO, HS5.out.hF, HS5.out.row⟩
    have HFd : Box w13.drew F [fvF O F] 109 := HS5.out.hF
    have HGd := HG5.out.drew
    refine wp_region_noPanic ?_
    refine beginL (S := (fun w' => w'.cell? ⟨F, 0, none⟩ = some (fvF O F) ∧ w'.cell? ⟨g, 4, none⟩ = some kv')) (L := []) (by kernel_rfl) ⟨HFd.cell 0 rfl, HGd.cell 4 rfl⟩ (fun hHeld => ?_)
    refine tkL 0 ?_
    refine tkW 1 ?_
    refine tkW 5 ?_
    refine tkW 2 ?_
    refine tkW 3 ?_
    refine tkL 4 ?_
    refine cnL 6 fun K hK => ?_
    go_simp
    refine (IH.out kk kv' vs' (ot.length : Int) (ot ++ [⟨p, m, c⟩]) _ _ (by omega) hkk hrow (by rw [List.length_append]; simp only [List.length_cons, List.length_nil]; omega) HSd).mono ?_
    rintro e w6 ⟨rfl, ov6, hs6⟩
    have hF6 := hs6.hF
    have hG6 : Box w6 g [.int .i64 m.src, .int .i64 m.dst, .int .i64 m.piece, .string c, kv'] tBr := hbx.below hs6.old hgw
    refine hK.out _ _ ⟨hF6.cell 0 rfl, hG6.cell 4 rfl⟩ (fun hHeld => ?_)
    clear hK K
    refine dnN ?_
    have HS6 := Lib.hid hs6
    clear hs6 hF6 hG6 hHeld HSd HFd HGd
    go_wp2_with fail
    go_roundw
    case rel => exact ⟨i + 1, ov6, by go_num, by omega, Lib.hid (by rw [HFT.out]; exact HS6.out)⟩
    case measure => simp [intOf]; omega
   ·obtain rfl : i = vs.length := by omega
    have HS9 : Hid (FlS w00 O F wr ovi (flatL ks p out)) := Lib.hid (by have h := HS.out; rw [List.take_of_length_le (by omega)] at h; exact h)
    go_wp2_with fail
    refine bodyPost_end (v := .tuple #[]) (by simp [results, Tryz.results70, go_sem]) rfl ?_
    exact ⟨rfl, _, HS9.out⟩
end Go.Proofs.YtnieifdogllbfaaGreat
namespace Go.Proofs.YtnieifdogllbfaaGreat
open Go.ChangeShapes Go.WideShapes Go.ChangeAt Go.RowKit
set_option linter.unusedVariables false
theorem und_down' {ns : List NodeZ} {p : Int} {k j : Nat} (hk : Und ns p k) (hj : j ∈ kidsZ ns (k : Int)) : Und ns p j :=
 ⟨(kid_par hj).2, by rw [(kid_par hj).1]; exact .step k _ hk.2⟩
set_option maxRecDepth 100000 in
set_option maxHeartbeats 8000000 in
theorem flat_any {q : Nat → Prop} (ks : List BrZ) (lv : Value) (vs : List Value) (b : Nat) (w : World) (hks : BrsAt q tBr tPt b w ks vs) (hlv : w.ownsRow b tPt 1 lv vs.length vs) (hn : cnt ks ≤ 1000) :
  Calls Tryz.prog 53 #[lv] w fun e w' => ∃ v', e = .returned v' ∧ w'.ownsRow w.heap.size tNd 5 v' (flatL ks (-1) []).length (flatN (flatL ks (-1) [])) ∧ Below w.heap.size w w' := by
 have HKS := Lib.hid hks
 have HLV := Lib.hid hlv
 clear hks hlv
 go_enter Tryz.func53, Tryz.ntmps53
 go_upto_region 3 with (fail)
 obtain ⟨O, hO⟩ : ∃ O, O = w.heap.size := ⟨_, rfl⟩
 obtain ⟨F, hF⟩ : ∃ F, F = w.heap.size + 1 := ⟨_, rfl⟩
 have HOb : Hid (Box ((w.alloc (.cells #[.slice none 0 0] 28)).alloc (.cells #[.nilFunc] 109)) O [.slice none 0 0] 28) := Lib.hid ((Box.new' w O _ _ hO.symm).alloc _)
 have HFb : Hid (Box ((w.alloc (.cells #[.slice none 0 0] 28)).alloc (.cells #[.nilFunc] 109)) F [.nilFunc] 109) := Lib.hid (Box.new' _ F _ _ (by rw [World.size_alloc, hF]))
 have HB : Hid (Below w.heap.size w ((w.alloc (.cells #[.slice none 0 0] 28)).alloc (.cells #[.nilFunc] 109))) := Lib.hid (((Below.refl w.heap.size w).alloc (Nat.le_refl _) _).alloc (by rw [World.size_alloc]; omega) _)
 rw [← hO, show O + 1 = F by omega]
 have hO1 : w.heap.size ≤ O := by omega
 have hF1 : O < F := by omega
 clear hO hF
 generalize ((w.alloc (.cells #[.slice none 0 0] 28)).alloc (.cells #[.nilFunc] 109)) = w0 at *
 have f0 := HFb.out.cell 0 rfl
 have ff0 := HFb.out.frozen 0
 have hFl := HFb.out.lt
 have hst := fun (fn : Fn) (f c : Array Value) => run_store Tryz.prog w0 ⟨F, 0, none⟩ (.func fn f c) .plain rfl
 go_upto_region 4 with (fail)
 have HF4 : Hid (Box (w0.setCell ⟨F, 0, none⟩ (fvF O F)) F [fvF O F] 109) := Lib.hid (HFb.out.set 0 _)
 have HO4 : Hid (Box (w0.setCell ⟨F, 0, none⟩ (fvF O F)) O [.slice none 0 0] 28) := Lib.hid (HOb.out.far _ _ (by show O ≠ F; omega))
 have HB4 : Hid (Below w.heap.size w (w0.setCell ⟨F, 0, none⟩ (fvF O F))) := Lib.hid (HB.out.setCell (by show w.heap.size ≤ F; omega) _)
 unfold fvF at HF4 HO4 HB4
 generalize (w0.setCell ⟨F, 0, none⟩ (.func (.func 70) #[] #[.pointer (some ⟨O, 0, none⟩), .pointer (some ⟨F, 0, none⟩)])) = w1 at *
 clear HOb HFb HB f0 ff0 hst hFl
 have f1 := HF4.out.cell 0 rfl
 have HFl := Lib.hid (flat1_any w b O F hO1 hF1 (cnt ks + 1) ks lv vs (-1) [] (.slice none 0 0) w1 (by omega) HKS.out HLV.out (by simpa using hn) ⟨HB4.out, HO4.out, HF4.out, World.ownsRow_nil _ _ _ _⟩)
 go_wp2_with fail
 refine HFl.out.mono ?_
 rintro e w2 ⟨rfl, ov, hs⟩
 have HS := Lib.hid hs
 have o2 := hs.hO.cell 0 rfl
 clear hs HFl f1
 go_wp2_with fail
 go_ret
 exact ⟨_, rfl, own_base HS.out.row (by omega), HS.out.old⟩
/-- a record's nodes as branches in memory. -/
theorem TS.trees {base : Nat} {w0 w : World} {ns : List NodeZ} {bw : Nat} {Ws0 Ws : List Value} {v : Value} (hb : Back ns ns.length) (h : TS tBr tPt base w0 w ns (kidsZ ns) bw Ws0 Ws (Und ns (-1)) v (kidsZ ns (-1))) :
  ∃ vs, BrsAt anyB tBr tPt base w (treeF ns (ns.length + 1) (-1)) vs ∧ w.ownsRow base tPt 1 v vs.length vs := by
 refine ⟨(kidsZ ns (-1)).map fun j => ptrV (adr Ws j), ?_, by rw [List.length_map]; exact h.out⟩
 rw [← treeO_kids]
 refine brs_of (A := adr Ws) (K := fun k => kv w (adr Ws k)) (Und ns (-1)) (fun k hk => (h.nds k hk).nd) (fun k hk j hj => ?_) _ _ (fun j hj => und_kid hj) (fun j hj => ⟨(kid_par hj).2, by omega⟩)
 have h1 := kid_par hj
 have h2 := hb j h1.2
 exact ⟨und_down' hk hj, by omega, h1.2⟩
end Go.Proofs.YtnieifdogllbfaaGreat

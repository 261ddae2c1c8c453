/- GmB: RCopy, GameB, GameC, in one text. -/
import Derived.Test.YthklhndcdijneaaGreatDoorC15
import Derived.Test.YthklhndcdijneaaGreatDoorC09
import Derived.Test.YthklhndcdijneaaGreatDoorC05
import Derived.Test.YthklhndcdijneaaGreatDoorC07
import Derived.Test.YthklhndcdijneaaGreatDoorC16
/- The contract of rules.Copy. -/
namespace Go.Proofs.YthklhndcdijneaaGreatDoor
open Go.ChangeShapes Go.WideShapes Go.ChangeAt Go.RowKit
set_option linter.unusedVariables false
set_option maxHeartbeats 4000000
set_option maxRecDepth 100000
structure PWZ where
 x : PieceZ
 v : Value
deriving Inhabited
def flatW (l : List PWZ) : List Value := l.flatMap fun r => [.int .u8 r.x.letter, .int .i64 r.x.hand, .int .i64 r.x.promote, r.v]
theorem flatW_cons (r : PWZ) (t : List PWZ) : flatW (r :: t) = .int .u8 r.x.letter :: .int .i64 r.x.hand :: .int .i64 r.x.promote :: r.v :: flatW t := rfl
theorem flatW_append (l : List PWZ) (r : PWZ) : flatW l ++ [.int .u8 r.x.letter, .int .i64 r.x.hand, .int .i64 r.x.promote, r.v] = flatW (l ++ [r]) := by simp [flatW]
theorem flatW_chunk : ∀ (l : List PWZ) (i : Nat) (h : i < l.length), ((flatW l).drop (i * 4)).take 4 = [.int .u8 l[i].x.letter, .int .i64 l[i].x.hand, .int .i64 l[i].x.promote, l[i].v]
 | r :: t, 0, _ => by rw [flatW_cons]; simp
 | r :: t, i + 1, h => by
  have ih := flatW_chunk t i (by simpa using h)
  rw [flatW_cons, show (i + 1) * 4 = i * 4 + 1 + 1 + 1 + 1 by omega]
  simp only [List.drop_succ_cons, List.getElem_cons_succ]
  exact ih
theorem rdW_of_own {w : World} {b : Nat} {v : Value} {ps : List PieceZ} {rows : List PWZ} (h : w.ownsRow b 84 4 v ps.length (flatW rows)) (hm : rows.map (·.x) = ps) (hr : ∀ r ∈ rows, RdL wayEl w r.v r.x.ways) : RdL pieceEl w v ps := by
 subst hm
 refine RdL.of_own (el := pieceEl) (show w.ownsRow b 84 4 v (rows.map (·.x)).length (flatW rows) by simpa using h) fun i hi => ?_
 have hi' : i < rows.length := by simpa using hi
 show pieceEl.E w (rows.map (·.x))[i] (((flatW rows).drop (i * 4)).take 4)
 rw [flatW_chunk rows i hi', List.getElem_map]
 exact ⟨_, rfl, hr _ (List.getElem_mem hi')⟩
theorem way_one (w : World) (x : WayZ) (cs : List Value) (h : wayEl.E w x cs) : ∀ u ∈ cs, u.oneCell' = true := by
 simp only [wayEl] at h
 subst h
 intro u hu
 simp at hu
 rcases hu with rfl | rfl | rfl | rfl <;> rfl
theorem end_one (w : World) (x : EndZ) (cs : List Value) (h : endEl.E w x cs) : ∀ u ∈ cs, u.oneCell' = true := by
 simp only [endEl] at h
 subst h
 intro u hu
 simp at hu
 rcases hu with rfl | rfl | rfl | rfl <;> rfl
theorem info_pc : (Tryz.prog.info? 84).map (fun i => (i.zero, i.size, i.bytes)) = some (some (.agg #[.int .u8 0, .int .i64 0, .int .i64 0, .slice none 0 0]), 4, 48) := by kernel_rfl
theorem four_pw {x y z : Int} {a : Option Addr} {n c : Nat} : ∀ u ∈ [Value.int .u8 x, .int .i64 y, .int .i64 z, .slice a n c], u.oneCell' = true := by intro u hu; simp at hu; rcases hu with rfl | rfl | rfl | rfl <;> rfl
/-- append of one new element, with the block that it is in. -/
theorem app_newG {ops : Array Oper} {rest : List Oper} {o : Oper} {a : Act} {Q : Exit → Act → World → Prop} (t e : TypeId) (z : Value) (k b : Nat)
  (hI : (Tryz.prog.info? e).map (fun i => (i.zero, i.size, i.bytes)) = some (some z, k, b)) (ht : Tryz.prog.underlying t = some (.slice e)) (hzs : z.cells.size = k) (hk : 0 < k) (hgd : o.guard = none) (s x : Operand)
  (ho : o.op = .call { callee := .builtin .append, args := #[s, x], argTypes := #[t, t] }) (base : Nat) (v : Value) (n : Nat) (xs news : List Value) (W : World) (hown : W.ownsRow base e k v n xs) (hb : base ≤ W.heap.size)
  (hl : news.length = k) (h1 : ∀ u ∈ news, u.oneCell' = true) (hn : n + 1 ≤ 100000000) (hbb : (n + 1) * b ≤ 140737488355328) (hs : a.eval s = v) (hx : a.eval x = .slice (some ⟨W.heap.size, 0, none⟩) 1 1)
  (h : ∀ g cap w', w'.ownsRow base e k (.slice (some ⟨g, 0, none⟩) (n + 1) cap) (n + 1) (xs ++ news) → (W.alloc (.cells news.toArray e)).grownBy w' v.ownBlock → (v.ownBlock = some g ∨ W.heap.size ≤ g) →
   wpList Tryz.prog ops Q rest (a.put o.dst (.slice (some ⟨g, 0, none⟩) (n + 1) cap)) w') : wpList Tryz.prog ops Q (o :: rest) a (W.alloc (.cells news.toArray e)) := by
 obtain ⟨i, hi, hz, hsz, hby⟩ := info_of hI
 refine wpList_append_lies _ hgd s x t ho base e i z k b ht hi hz hsz hby hzs hk v n xs hs (hown.alloc _) ⟨W.heap.size, 0, none⟩ 1 1 news hx (by rw [hl, Nat.one_mul]) (new_cells W news e) h1 (by decide) (by unfold maxLen; omega) hbb (by simp; omega) _ rfl ?_
 intro g cap w' hown' hg hat hlt
 refine h g cap w' hown' hg ?_
 rcases hat with e | e
 ·exact .inl e
 ·right; rw [e]; simp
theorem row_farW {w : World} {base : Nat} {e : TypeId} {sz n : Nat} {v : Value} {xs : List Value} (h : w.ownsRow base e sz v n xs) {p : Addr} (hne : v.ownBlock ≠ some p.block) (u : Value) : (w.setCell p u).ownsRow base e sz v n xs := by
 refine ⟨h.1, ?_⟩
 rcases h.2 with h0 | ⟨g, cap, cur, rfl, hb, hg, r⟩
 ·exact .inl h0
 ·exact .inr ⟨g, cap, cur, rfl, hb, (Below.heap_setCell w p u g (fun e => hne (by rw [e]; rfl))).trans hg, r⟩
theorem Fr.newCell {S : Nat → Prop} {a w : World} (h : Fr S a w) {p : Addr} (hp : a.heap.size ≤ p.block) (u : Value) : Fr S a (w.setCell p u) :=
 ⟨h.os, h.tape, h.output, by simpa [World.setCell] using h.size, fun k hk hn => (Below.heap_setCell _ _ _ _ (by omega)).trans (h.block k hk hn)⟩
def CpS (b1 b2 : Nat) (vo : Value) : Nat → Prop := fun k => k = b1 ∨ k = b2 ∨ vo.ownBlock = some k
/-- what holds by the blocks from lo on alone. -/
def Seen (lo : Nat) (w : World) (D : World → Prop) : Prop := ∀ w', (∀ k, lo ≤ k → k < w.heap.size → w'.heap[k]? = w.heap[k]?) → D w'
theorem Seen.now {lo : Nat} {w : World} {D : World → Prop} (h : Seen lo w D) : D w := h w (fun _ _ _ => rfl)
theorem Seen.held {lo : Nat} {w w2 : World} {D : World → Prop} {S : Nat → Prop} (h : Seen lo w D) (hb : Below w.heap.size w w2) (hS : ∀ k, S k → k < lo ∨ w.heap.size ≤ k) : Held S w2 D := fun w' hw =>
 h w' fun k h1 h2 => (hw.block k (Nat.lt_of_lt_of_le h2 hb.size) (fun e => by rcases hS k e with e | e <;> omega)).trans (hb.block k h2)
theorem own_seen {lo : Nat} {w w' : World} {base : Nat} {e : TypeId} {sz n : Nat} {v : Value} {xs : List Value} (h : w.ownsRow base e sz v n xs) (hb : lo ≤ base) (hs : ∀ k, lo ≤ k → k < w.heap.size → w'.heap[k]? = w.heap[k]?) : w'.ownsRow base e sz v n xs := by
 refine ⟨h.1, ?_⟩
 rcases h.2 with h0 | ⟨g, cap, cur, rfl, hg, hx, r⟩
 ·exact .inl h0
 ·exact .inr ⟨g, cap, cur, rfl, hg, (hs g (by omega) (h.lt g rfl).2).trans hx, r⟩
def OwnW (B : Nat) (w : World) (r : PWZ) : Prop := ∃ ws, w.ownsRow B 120 4 r.v r.x.ways.length ws ∧ ∀ i (h : i < r.x.ways.length), wayEl.E w r.x.ways[i] ((ws.drop (i * 4)).take 4)
theorem OwnW.rd {B : Nat} {w : World} {r : PWZ} (h : OwnW B w r) : RdL wayEl w r.v r.x.ways := by
 obtain ⟨ws, h1, h2⟩ := h
 exact ClonedPost.rd (el := wayEl) h1 h2
theorem OwnW.seen {B lo : Nat} {w w' : World} {r : PWZ} (h : OwnW B w r) (hb : lo ≤ B) (hs : ∀ k, lo ≤ k → k < w.heap.size → w'.heap[k]? = w.heap[k]?) : OwnW B w' r := by
 obtain ⟨ws, h1, h2⟩ := h
 exact ⟨ws, own_seen h1 hb hs, h2⟩
def RCopyPost (R : RulesZ) (w : World) (e : Ending) (w' : World) : Prop := ∃ vp vs ve, e = .returned (.agg #[.string R.name, .int .i64 R.width, .int .i64 R.height, vp, vs, .bool R.falls, .bool R.keeps, ve, .int .i64 R.blocked, .int .i64 R.quiet, .int .i64 R.rept]) ∧ (Seen w.heap.size w' fun w'' => RdR w'' R vp vs ve) ∧ Below w.heap.size w w'
theorem RCopy_any (R : RulesZ) (vp vs ve : Value) (w : World) (hr : RdR w R vp vs ve) (hp : R.pieces.length ≤ 1000) (hs : R.start.length ≤ 1000) (hen : R.ends.length ≤ 1000) (hwl : ∀ i, i < R.pieces.length → (R.pieces.getD i default).ways.length ≤ 1000) :
  Calls Tryz.prog 83 #[.agg #[.string R.name, .int .i64 R.width, .int .i64 R.height, vp, vs, .bool R.falls, .bool R.keeps, ve, .int .i64 R.blocked, .int .i64 R.quiet, .int .i64 R.rept]] w (RCopyPost R w) := by
 have HR := Lib.hid hr
 have HW := Lib.hid hwl
 obtain ⟨pa, pn, rfl, hp1, hp2⟩ := hr.1.form
 obtain ⟨sa, sn, rfl, hs1, hs2⟩ := hr.2.1.form
 obtain ⟨ea, en, rfl, he1, he2⟩ := hr.2.2.form
 unfold maxLen at hp2 hs2 he2
 clear hr hwl
 go_enter Tryz.func83, Tryz.ntmps83
 go_upto_region 1 with (fail)
 refine opn2 fun w0 B0 B1 yb_ hs_ => ?_
 have HB := Lib.hid yb_
 have hz0 : w.heap.size + 1 < w0.heap.size := by omega
 have hsz0 : w0.heap.size = w.heap.size + 1 + 1 := by omega
 clear hs_ yb_
 have HRw := Lib.hid (HR.out.below HB.out (Nat.le_refl _))
 have HX0 := Lib.hid B0
 have HX1 := Lib.hid B1
 have HSZ := Lib.hid hsz0
 clear B0 B1 hsz0
 refine wp_region_lit ?_
 refine wpList_load_box (by rfl) 26 (.tmp 1) (by rfl) w.heap.size (by rfl) HX0.out Tryz.underlying26 (by rfl) (by kernel_rfl) ?_
 go_upto_region 2 with (fail)
 have HY0 := Lib.hid (HX0.out.alloc (.cells #[.string R.name, .int .i64 R.width, .int .i64 R.height, .slice pa R.pieces.length pn, .slice sa R.start.length sn, .bool R.falls, .bool R.keeps, .slice ea R.ends.length en, .int .i64 R.blocked, .int .i64 R.quiet, .int .i64 R.rept] 26))
 have HY1 := Lib.hid (HX1.out.alloc (.cells #[.string R.name, .int .i64 R.width, .int .i64 R.height, .slice pa R.pieces.length pn, .slice sa R.start.length sn, .bool R.falls, .bool R.keeps, .slice ea R.ends.length en, .int .i64 R.blocked, .int .i64 R.quiet, .int .i64 R.rept] 26))
 have HY2 := Lib.hid (Box.new' w0 (w.heap.size + 1 + 1) [.string R.name, .int .i64 R.width, .int .i64 R.height, .slice pa R.pieces.length pn, .slice sa R.start.length sn, .bool R.falls, .bool R.keeps, .slice ea R.ends.length en, .int .i64 R.blocked, .int .i64 R.quiet, .int .i64 R.rept] 26 HSZ.out)
 have HBY := Lib.hid (HB.out.alloc HB.out.size (.cells #[.string R.name, .int .i64 R.width, .int .i64 R.height, .slice pa R.pieces.length pn, .slice sa R.start.length sn, .bool R.falls, .bool R.keeps, .slice ea R.ends.length en, .int .i64 R.blocked, .int .i64 R.quiet, .int .i64 R.rept] 26))
 rw [HSZ.out]
 generalize (w0.alloc (.cells #[.string R.name, .int .i64 R.width, .int .i64 R.height, .slice pa R.pieces.length pn, .slice sa R.start.length sn, .bool R.falls, .bool R.keeps, .slice ea R.ends.length en, .int .i64 R.blocked, .int .i64 R.quiet, .int .i64 R.rept] 26)) = w1 at *
 have d3 := HY2.out.cell 3 rfl
 have d3f := HY2.out.frozen 3
 go_upto_region 3 with (fail)
 have HU0 := Lib.hid (HY0.out.far ⟨w.heap.size + 1 + 1, 3, none⟩ (.slice none 0 0) (by show ¬ w.heap.size = w.heap.size + 1 + 1; omega))
 have HU1 := Lib.hid (HY1.out.far ⟨w.heap.size + 1 + 1, 3, none⟩ (.slice none 0 0) (by show ¬ w.heap.size + 1 = w.heap.size + 1 + 1; omega))
 have HU2 : Hid (Box (w1.setCell ⟨w.heap.size + 1 + 1, 3, none⟩ (.slice none 0 0)) (w.heap.size + 1 + 1) ([.string R.name, .int .i64 R.width, .int .i64 R.height, .slice none 0 0, .slice sa R.start.length sn, .bool R.falls, .bool R.keeps, .slice ea R.ends.length en, .int .i64 R.blocked, .int .i64 R.quiet, .int .i64 R.rept]) 26) := Lib.hid (HY2.out.set 3 _)
 have HBU := Lib.hid (HBY.out.setCell (p := ⟨w.heap.size + 1 + 1, 3, none⟩) (by show w.heap.size ≤ w.heap.size + 1 + 1; omega) (.slice none 0 0))
 clear d3 d3f HX0 HX1 HY0 HY1 HY2 HBY HB HRw hz0
 generalize (w1.setCell ⟨w.heap.size + 1 + 1, 3, none⟩ (.slice none 0 0)) = w2 at *
 have e3 := HU0.out.cell 3 rfl
 go_wp2_with fail
 clear e3
 go_loopw [11, 5] (fun vi vb wr => ∃ (k : Nat) (rows : List PWZ) (vo : Value), k ≤ R.pieces.length ∧ vi = .int .i64 k ∧ Hid (rows.map (·.x) = R.pieces.take k) ∧ Hid (Box wr w.heap.size [.string R.name, .int .i64 R.width, .int .i64 R.height, .slice pa R.pieces.length pn, .slice sa R.start.length sn, .bool R.falls, .bool R.keeps, .slice ea R.ends.length en, .int .i64 R.blocked, .int .i64 R.quiet, .int .i64 R.rept] 26) ∧ Hid (Box wr (w.heap.size + 1) [.string ⟨#[]⟩, .int .i64 0, .int .i64 0, .slice none 0 0, .slice none 0 0, .bool false, .bool false, .slice none 0 0, .int .i64 0, .int .i64 0, .int .i64 0] 26) ∧ Hid (Box wr (w.heap.size + 1 + 1) ([.string R.name, .int .i64 R.width, .int .i64 R.height, vo, .slice sa R.start.length sn, .bool R.falls, .bool R.keeps, .slice ea R.ends.length en, .int .i64 R.blocked, .int .i64 R.quiet, .int .i64 R.rept]) 26) ∧
  Hid (wr.ownsRow (w.heap.size + 1 + 1 + 1) 84 4 vo k (flatW rows)) ∧ Hid (Below w.heap.size w wr) ∧ Hid (∀ r ∈ rows, Held (CpS (w.heap.size + 1) (w.heap.size + 1 + 1) vo) wr fun w' => OwnW (w.heap.size + 1 + 1 + 1) w' r)) (fun i _ _ => R.pieces.length - (intOf i).toNat)
 case atStart => exact ⟨0, [], .slice none 0 0, Nat.zero_le _, rfl, Lib.hid rfl, HU0, HU1, HU2, Lib.hid (World.ownsRow_nil _ _ _ _), HBU, Lib.hid (fun r hr => by cases hr)⟩
 case round =>
  obtain ⟨k, rows, vo, hk, rfl, HM, HV0, HV1, HV2, HO, HBr, HRow⟩ := hrel
  have hz2 := HV2.out.lt
  by_cases hlt : k < R.pieces.length
  ·obtain ⟨g, o, hpa, hg, hcc⟩ := pieces_some (HR.out.1.below HBr.out (Nat.le_refl _)) (by omega)
   subst hpa
   obtain ⟨vw, c0, c1, c2, c3, hrw⟩ := hcc k hlt
   have hwk := HW.out k hlt
   have HT : Hid (R.pieces.take (k + 1) = R.pieces.take k ++ [R.pieces.getD k default]) := Lib.hid (by rw [List.take_succ_eq_append_getElem hlt, List.getD_eq_getElem?_getD, List.getElem?_eq_getElem hlt]; rfl)
   obtain ⟨wa, wc, rfl, hw1, hw2⟩ := hrw.form
   unfold maxLen at hw2
   have HWr := Lib.hid hrw
   clear hcc hrw
   generalize R.pieces.getD k default = x at *
   go_upto_region 6 with (fail)
   have HPn := Lib.hid (Box.new wr [.int .u8 x.letter, .int .i64 x.hand, .int .i64 x.promote, .slice wa x.ways.length wc] 84)
   have HA0 := Lib.hid (HV0.out.alloc (.cells #[.int .u8 x.letter, .int .i64 x.hand, .int .i64 x.promote, .slice wa x.ways.length wc] 84))
   have HA1 := Lib.hid (HV1.out.alloc (.cells #[.int .u8 x.letter, .int .i64 x.hand, .int .i64 x.promote, .slice wa x.ways.length wc] 84))
   have HA2 := Lib.hid (HV2.out.alloc (.cells #[.int .u8 x.letter, .int .i64 x.hand, .int .i64 x.promote, .slice wa x.ways.length wc] 84))
   have HAO := Lib.hid (HO.out.alloc (.cells #[.int .u8 x.letter, .int .i64 x.hand, .int .i64 x.promote, .slice wa x.ways.length wc] 84))
   have HAB := Lib.hid (HBr.out.alloc HBr.out.size (.cells #[.int .u8 x.letter, .int .i64 x.hand, .int .i64 x.promote, .slice wa x.ways.length wc] 84))
   have HAW := Lib.hid (HWr.out.below ((Below.refl _ _).alloc (Nat.le_refl _) (.cells #[.int .u8 x.letter, .int .i64 x.hand, .int .i64 x.promote, .slice wa x.ways.length wc] 84)) (Nat.le_refl _))
   have HAF := Lib.hid ((Fr.refl (CpS (w.heap.size + 1) (w.heap.size + 1 + 1) vo) wr).alloc (.cells #[.int .u8 x.letter, .int .i64 x.hand, .int .i64 x.promote, .slice wa x.ways.length wc] 84))
   have hzA : wr.heap.size < (wr.alloc (.cells #[.int .u8 x.letter, .int .i64 x.hand, .int .i64 x.promote, .slice wa x.ways.length wc] 84)).heap.size := by simp
   clear c0 c1 c2 c3
   generalize (wr.alloc (.cells #[.int .u8 x.letter, .int .i64 x.hand, .int .i64 x.promote, .slice wa x.ways.length wc] 84)) = wa1 at *
   have p3 := HPn.out.cell 3 rfl
   go_wp2_with fail
   refine (Clone_way wayEl rfl way_one _ x.ways wa1 HAW.out (by omega)).mono ?_
   rintro e wb ⟨vx, ws, rfl, how, hEw, hbb⟩
   obtain ⟨xa, xn, rfl⟩ := own_form2 how
   have HB0 := Lib.hid (HA0.out.stays hbb)
   have HB1 := Lib.hid (HA1.out.stays hbb)
   have HB2 := Lib.hid (HA2.out.stays hbb)
   have HBO := Lib.hid (own_stays HAO.out hbb)
   have HBB := Lib.hid (below_trans HAB.out hbb HAB.out.size)
   have HBP := Lib.hid (HPn.out.stays hbb)
   have HBF := Lib.hid (HAF.out.trans (Fr.of_new (S := CpS (w.heap.size + 1) (w.heap.size + 1 + 1) vo) hbb) (Shr.refl _ _))
   have hzB := hbb.size
   have HOW := Lib.hid how
   have HEW := Lib.hid hEw
   have p3' := HBP.out.cell 3 rfl
   have p3f := HBP.out.frozen 3
   clear p3 how hEw hbb HA0 HA1 HA2 HAO HAB HAF HPn HAW
   go_upto_region 7 with (fail)
   have HC0 := Lib.hid (HB0.out.far ⟨wr.heap.size, 3, none⟩ (.slice xa x.ways.length xn) (by show ¬ w.heap.size = wr.heap.size; omega))
   have HC1 := Lib.hid (HB1.out.far ⟨wr.heap.size, 3, none⟩ (.slice xa x.ways.length xn) (by show ¬ w.heap.size + 1 = wr.heap.size; omega))
   have HC2 := Lib.hid (HB2.out.far ⟨wr.heap.size, 3, none⟩ (.slice xa x.ways.length xn) (by show ¬ w.heap.size + 1 + 1 = wr.heap.size; omega))
   have HCP : Hid (Box (wb.setCell ⟨wr.heap.size, 3, none⟩ (.slice xa x.ways.length xn)) wr.heap.size [.int .u8 x.letter, .int .i64 x.hand, .int .i64 x.promote, .slice xa x.ways.length xn] 84) := Lib.hid (HBP.out.set 3 _)
   have hfar : ∀ q, vo.ownBlock = some q → q ≠ wr.heap.size := fun q hq => by have := (HO.out.lt q hq).2; omega
   have HCO := Lib.hid (row_farW HBO.out (p := ⟨wr.heap.size, 3, none⟩) (fun e => hfar _ e rfl) (.slice xa x.ways.length xn))
   have HCW := Lib.hid (ownsRow_setCell_below HOW.out (a := ⟨wr.heap.size, 3, none⟩) (by simpa using hzA) (.slice xa x.ways.length xn))
   have HCB := Lib.hid (HBB.out.setCell (p := ⟨wr.heap.size, 3, none⟩) (by show w.heap.size ≤ wr.heap.size; omega) (.slice xa x.ways.length xn))
   have HCF : Hid (Fr (CpS (w.heap.size + 1) (w.heap.size + 1 + 1) vo) wr (wb.setCell ⟨wr.heap.size, 3, none⟩ (.slice xa x.ways.length xn))) := Lib.hid (HBF.out.newCell (p := ⟨wr.heap.size, 3, none⟩) (Nat.le_refl _) _)
   have hzC : wb.heap.size = (wb.setCell ⟨wr.heap.size, 3, none⟩ (.slice xa x.ways.length xn)).heap.size := by simp [World.setCell]
   clear p3' p3f HB0 HB1 HB2 HBO HBB HBP HBF HOW hfar
   generalize (wb.setCell ⟨wr.heap.size, 3, none⟩ (.slice xa x.ways.length xn)) = wc1 at *
   have q0 := HCP.out.cell 0 rfl
   have q1 := HCP.out.cell 1 rfl
   have q2 := HCP.out.cell 2 rfl
   have q3 := HCP.out.cell 3 rfl
   have o3 := HC2.out.cell 3 rfl
   have hzW := HCP.out.lt
   go_wp2_with (at_builtin; refine app_newG 22 84 (.agg #[.int .u8 0, .int .i64 0, .int .i64 0, .slice none 0 0]) 4 48 info_pc Tryz.underlying22 rfl (by decide) (by rfl) _ _ (by rfl) (w.heap.size + 1 + 1 + 1) _ k (flatW rows) [.int .u8 x.letter, .int .i64 x.hand, .int .i64 x.promote, .slice xa x.ways.length xn] wc1 HCO.out (by omega) rfl four_pw (by omega) (by omega) (by rfl) (by rfl) ?_)
   intro g3 cap3 wd hown3 hg3 hat3
   have hnb : ∀ b, b < w.heap.size + 1 + 1 + 1 → some b ≠ vo.ownBlock := fun b hb e => by have := (HCO.out.lt b e.symm).1; omega
   have HD0 := Lib.hid ((HC0.out.alloc _).grown hg3 (hnb _ (by omega)))
   have HD1 := Lib.hid ((HC1.out.alloc _).grown hg3 (hnb _ (by omega)))
   have HD2 := Lib.hid ((HC2.out.alloc _).grown hg3 (hnb _ (by omega)))
   have HDB := Lib.hid (Below.grown (HCB.out.alloc HCB.out.size _) hg3 (by have := HCB.out.size; simp; omega) (fun q hq => by have := (HCO.out.lt q hq).1; omega))
   have HDF : Hid (Fr (CpS (w.heap.size + 1) (w.heap.size + 1 + 1) vo) wr wd) := Lib.hid ((HCF.out.alloc _).grown hg3 (fun q hq _ => .inr (.inr hq)))
   have HDC : Hid (Fr (CpS (w.heap.size + 1) (w.heap.size + 1 + 1) vo) wc1 wd) := Lib.hid (((Fr.refl _ wc1).alloc _).grown hg3 (fun q hq _ => .inr (.inr hq)))
   have HDS : Hid (Shr wr (CpS (w.heap.size + 1) (w.heap.size + 1 + 1) vo) (CpS (w.heap.size + 1) (w.heap.size + 1 + 1) (.slice (some ⟨g3, 0, none⟩) (k + 1) cap3))) := Lib.hid (fun q hq h => by
    rcases h with h | h | h
    ·exact .inl h
    ·exact .inr (.inl h)
    ·obtain rfl : g3 = q := by simpa [Value.ownBlock] using h
     rcases hat3 with e | e
     ·exact .inr (.inr e)
     ·omega)
   have HDS2 : Hid (Shr wc1 (CpS (w.heap.size + 1) (w.heap.size + 1 + 1) vo) (CpS (w.heap.size + 1) (w.heap.size + 1 + 1) (.slice (some ⟨g3, 0, none⟩) (k + 1) cap3))) := Lib.hid (fun q hq h => by
    rcases h with h | h | h
    ·exact .inl h
    ·exact .inr (.inl h)
    ·obtain rfl : g3 = q := by simpa [Value.ownBlock] using h
     rcases hat3 with e | e
     ·exact .inr (.inr e)
     ·omega)
   have HWN : Hid (Held (CpS (w.heap.size + 1) (w.heap.size + 1 + 1) vo) wc1 fun w' => OwnW (w.heap.size + 1 + 1 + 1) w' ⟨x, .slice xa x.ways.length xn⟩) := Lib.hid (fun w' hw => ⟨ws, own_base (own_held HCW.out hw (fun q hq hS => by
    have h1 := (HCW.out.lt q hq).1
    rcases hS with h | h | h
    ·omega
    ·omega
    ·have := (HO.out.lt q h).2; omega)) (by omega), HEW.out⟩)
   have HO3 := Lib.hid hown3
   have o3' := HD2.out.cell 3 rfl
   have o3f := HD2.out.frozen 3
   have hzD : w.heap.size + 1 + 1 < wd.heap.size := HD2.out.lt
   clear q0 q1 q2 q3 o3 hown3 hg3 hat3 hnb HC0 HC1 HC2 HCP HCO HCB HCF HCW
   go_wp2_with fail
   try simp only [Act.put]
   have HE2 : Hid (Box (wd.setCell ⟨w.heap.size + 1 + 1, 3, none⟩ (.slice (some ⟨g3, 0, none⟩) (k + 1) cap3)) (w.heap.size + 1 + 1) ([.string R.name, .int .i64 R.width, .int .i64 R.height, .slice (some ⟨g3, 0, none⟩) (k + 1) cap3, .slice sa R.start.length sn, .bool R.falls, .bool R.keeps, .slice ea R.ends.length en, .int .i64 R.blocked, .int .i64 R.quiet, .int .i64 R.rept]) 26) := Lib.hid (HD2.out.set 3 _)
   have HEF : Hid (Fr (CpS (w.heap.size + 1) (w.heap.size + 1 + 1) (.slice (some ⟨g3, 0, none⟩) (k + 1) cap3)) wd (wd.setCell ⟨w.heap.size + 1 + 1, 3, none⟩ (.slice (some ⟨g3, 0, none⟩) (k + 1) cap3))) := Lib.hid ((Fr.refl _ _).setCell (.inr (.inl rfl)) _)
   go_roundw
   case rel => exact ⟨k + 1, rows ++ [⟨x, .slice xa x.ways.length xn⟩], .slice (some ⟨g3, 0, none⟩) (k + 1) cap3, by omega, by go_num, Lib.hid (by rw [HT.out, List.map_append, HM.out]; rfl), Lib.hid (HD0.out.far _ _ (by show ¬ w.heap.size = w.heap.size + 1 + 1; omega)), Lib.hid (HD1.out.far _ _ (by show ¬ w.heap.size + 1 = w.heap.size + 1 + 1; omega)), HE2,
    Lib.hid (by rw [← flatW_append]; exact ownsRow_setCell_below HO3.out (by simp) _), Lib.hid (HDB.out.setCell (by show w.heap.size ≤ w.heap.size + 1 + 1; omega) _), Lib.hid (fun r hr => by
     rcases List.mem_append.1 hr with h | h
     ·exact ((HRow.out r h).step HDF.out HDS.out).step HEF.out (Shr.refl _ _)
     ·obtain rfl : r = ⟨x, .slice xa x.ways.length xn⟩ := by simpa using h
      exact (HWN.out.step HDC.out HDS2.out).step HEF.out (Shr.refl _ _))⟩
   case measure => simp [intOf]; omega
  ·obtain rfl : R.pieces.length = k := by omega
   have HMap : Hid (rows.map (·.x) = R.pieces) := Lib.hid (by rw [HM.out, List.take_of_length_le (Nat.le_refl _)])
   obtain ⟨oa, on, rfl⟩ := own_form2 HO.out
   go_upto_region 9 with (fail)
   generalize wr = wq at *
   have B0z := HV0.out.drew
   have B1z := HV1.out.drew
   have B2z := HV2.out.drew
   have Oz : wq.drew.ownsRow (w.heap.size + 1 + 1 + 1) 84 4 (.slice oa R.pieces.length on) R.pieces.length (flatW rows) := HO.out
   have Lz : Below w.heap.size w wq.drew := below_drew' HBr.out
   have HRw : Hid (∀ r ∈ rows, Held (CpS (w.heap.size + 1) (w.heap.size + 1 + 1) (.slice oa R.pieces.length on)) wq.drew fun w' => OwnW (w.heap.size + 1 + 1 + 1) w' r) := Lib.hid (fun r hr => (HRow.out r hr).step ((Fr.refl _ _).drew) (Shr.refl _ _))
   have HRow := HRw
   clear HV0 HV1 HV2 HO HBr HRw
   refine wp_region_noPanic ?_
   refine beginL (S := (fun w' => w'.cell? ⟨w.heap.size, 4, none⟩ = some (.slice sa R.start.length sn) ∧ w'.cell? ⟨w.heap.size, 7, none⟩ = some (.slice ea R.ends.length en))) (L := [7, 9]) (by kernel_rfl) ⟨B0z.cell 4 rfl, B0z.cell 7 rfl⟩ (fun hHeld => ?_)
   refine tkW 0 ?_
   refine tkW 3 ?_
   refine tkL 1 ?_
   refine tkL 4 ?_
   refine cnL 2 fun K hK => ?_
   go_simp
   refine (Clone_any _ R.start _ (HR.out.2.1.below Lz (Nat.le_refl _)) (by omega)).mono ?_
   rintro e w2 ⟨vx, rfl, ho2, hb2⟩
   obtain ⟨sa2, sn2, rfl⟩ := own_form2 ho2
   have B02 := B0z.stays hb2
   have B12 := B1z.stays hb2
   have B22 := B2z.stays hb2
   have L2 := below_trans Lz hb2 Lz.size
   have O2 := own_stays Oz hb2
   have F2 := Fr.of_new (S := CpS (w.heap.size + 1) (w.heap.size + 1 + 1) (.slice oa R.pieces.length on)) hb2
   have I2 := ho2
   have G2 := B2z.lt
   clear hb2 ho2
   refine hK.out _ _ ⟨B02.cell 4 rfl, B02.cell 7 rfl⟩ (fun hHeld => ?_)
   clear hK K
   refine tkW 6 ?_
   refine cnL 5 fun K hK => ?_
   go_simp
   refine (Clone_end endEl rfl end_one _ R.ends _ (HR.out.2.2.below L2 (Nat.le_refl _)) (by omega)).mono ?_
   rintro e w5 ⟨vx, vs5, rfl, ho5, hE5, hb5⟩
   obtain ⟨ea5, en5, rfl⟩ := own_form2 ho5
   have B05 := B02.stays hb5
   have B15 := B12.stays hb5
   have B25 := B22.stays hb5
   have L5 := below_trans L2 hb5 L2.size
   have O5 := own_stays O2 hb5
   have F5 := F2.trans (Fr.of_new (S := CpS (w.heap.size + 1) (w.heap.size + 1 + 1) (.slice oa R.pieces.length on)) hb5) (Shr.refl _ _)
   have I5 := own_stays I2 hb5
   have J5 := ho5
   have G5 := B22.lt
   have HE5 := Lib.hid hE5
   clear hb5 ho5 hE5
   refine hK.out _ _ ⟨B05.cell 4 rfl, B05.cell 7 rfl⟩ (fun hHeld => ?_)
   clear hK K
   refine ltL 7 fun K hK => ?_
   have d := B25.cell 4 rfl
   have df := B25.frozen 4
   go_simp
   refine K_world ?_
   intro w7 e7
   have B27 : Box w7 (w.heap.size + 1 + 1) [.string R.name, .int .i64 R.width, .int .i64 R.height, .slice oa R.pieces.length on, .slice sa2 R.start.length sn2, .bool R.falls, .bool R.keeps, .slice ea R.ends.length en, .int .i64 R.blocked, .int .i64 R.quiet, .int .i64 R.rept] 26 := by rw [e7]; exact B25.set 4 _
   have E7 := Lib.hid e7
   clear e7 d df
   refine hK.out _ _ ?_
   clear hK K
   refine tkW 8 ?_
   refine ltL 9 fun K hK => ?_
   have d := B27.cell 7 rfl
   have df := B27.frozen 7
   go_simp
   refine K_world ?_
   intro w9 e9
   have B29 : Box w9 (w.heap.size + 1 + 1) [.string R.name, .int .i64 R.width, .int .i64 R.height, .slice oa R.pieces.length on, .slice sa2 R.start.length sn2, .bool R.falls, .bool R.keeps, .slice ea5 R.ends.length en5, .int .i64 R.blocked, .int .i64 R.quiet, .int .i64 R.rept] 26 := by rw [e9]; exact B27.set 7 _
   have E9 := Lib.hid e9
   clear e9 d df
   refine hK.out _ _ ?_
   clear hK K
   refine dnN ?_
   have B19 : Box w9 (w.heap.size + 1) [.string ⟨#[]⟩, .int .i64 0, .int .i64 0, .slice none 0 0, .slice none 0 0, .bool false, .bool false, .slice none 0 0, .int .i64 0, .int .i64 0, .int .i64 0] 26 := by rw [E9.out, E7.out]; exact (B15.far ⟨w.heap.size + 1 + 1, 4, none⟩ _ (by show ¬ w.heap.size + 1 = w.heap.size + 1 + 1; omega)).far ⟨w.heap.size + 1 + 1, 7, none⟩ _ (by show ¬ w.heap.size + 1 = w.heap.size + 1 + 1; omega)
   have L9 : Below w.heap.size w w9 := by rw [E9.out, E7.out]; exact (L5.setCell (by simp; omega) _).setCell (by simp; omega) _
   have F9 : Fr (CpS (w.heap.size + 1) (w.heap.size + 1 + 1) (.slice oa R.pieces.length on)) wq.drew w9 := by rw [E9.out, E7.out]; exact (F5.setCell (.inr (.inl rfl)) _).setCell (.inr (.inl rfl)) _
   have O9 : w9.ownsRow (w.heap.size + 1 + 1 + 1) 84 4 (.slice oa R.pieces.length on) R.pieces.length (flatW rows) := by rw [E9.out, E7.out]; exact ownsRow_setCell_below (ownsRow_setCell_below O5 (by simp) _) (by simp) _
   have I9 := ownsRow_setCell_below (ownsRow_setCell_below I5 (a := ⟨w.heap.size + 1 + 1, 4, none⟩) (by simpa using G2) (.slice sa2 R.start.length sn2)) (a := ⟨w.heap.size + 1 + 1, 7, none⟩) (by simpa using G2) (.slice ea5 R.ends.length en5)
   have J9 := ownsRow_setCell_below (ownsRow_setCell_below J5 (a := ⟨w.heap.size + 1 + 1, 4, none⟩) (by simpa using G5) (.slice sa2 R.start.length sn2)) (a := ⟨w.heap.size + 1 + 1, 7, none⟩) (by simpa using G5) (.slice ea5 R.ends.length en5)
   rw [← E7.out, ← E9.out] at I9 J9
   have HB19 := Lib.hid B19
   have HB29 := Lib.hid B29
   have HL9 := Lib.hid L9
   have HF9 := Lib.hid F9
   have HO9 := Lib.hid O9
   have HI9 := Lib.hid I9
   have HJ9 := Lib.hid J9
   have HG2 := Lib.hid G2
   have HG5 := Lib.hid G5
   clear B19 B29 L9 F9 O9 I9 J9 E9 E7 B27 B05 B15 B25 L5 O5 F5 I5 J5 B02 B12 B22 L2 O2 F2 I2 hHeld
   go_upto_region 10 with (fail)
   refine wp_region_lit ?_
   refine wpList_load_box (by rfl) 26 (.tmp 3) (by rfl) (w.heap.size + 1 + 1) (by rfl) HB29.out Tryz.underlying26 (by rfl) (by kernel_rfl) ?_
   refine wpList_store_box (vs := [.string R.name, .int .i64 R.width, .int .i64 R.height, .slice oa R.pieces.length on, .slice sa2 R.start.length sn2, .bool R.falls, .bool R.keeps, .slice ea5 R.ends.length en5, .int .i64 R.blocked, .int .i64 R.quiet, .int .i64 R.rept]) (by rfl) 26 (.tmp 2) (.tmp 34) (by rfl) (w.heap.size + 1) (by rfl) (by rfl) HB19.out rfl (by kernel_rfl) (by rfl) ?_
   have HS := Lib.hid (HB19.out.store (vs := [.string R.name, .int .i64 R.width, .int .i64 R.height, .slice oa R.pieces.length on, .slice sa2 R.start.length sn2, .bool R.falls, .bool R.keeps, .slice ea5 R.ends.length en5, .int .i64 R.blocked, .int .i64 R.quiet, .int .i64 R.rept]) rfl)
   have HX : Hid (Seen w.heap.size (w9.setCells (w.heap.size + 1) 0 [.string R.name, .int .i64 R.width, .int .i64 R.height, .slice oa R.pieces.length on, .slice sa2 R.start.length sn2, .bool R.falls, .bool R.keeps, .slice ea5 R.ends.length en5, .int .i64 R.blocked, .int .i64 R.quiet, .int .i64 R.rept]) fun w' => RdR w' R (.slice oa R.pieces.length on) (.slice sa2 R.start.length sn2) (.slice ea5 R.ends.length en5)) := Lib.hid (fun w' hs => ⟨rdW_of_own (own_seen (own_setCells HO9.out (by omega) 0 _) (by omega) hs) HMap.out (fun r hr => ((HRow.out r hr _ (HF9.out.setCells (.inl rfl) 0 _)).seen (by omega) hs).rd), RdI.of_own (own_seen (own_setCells HI9.out (by have := HG2.out; omega) 0 _) (by have := HG2.out; omega) hs), ClonedPost.rd (el := endEl) (own_seen (own_setCells HJ9.out (by have := HG5.out; omega) 0 _) (by have := HG5.out; omega) hs) HE5.out⟩)
   have HLf := Lib.hid (below_setCells HL9.out (show w.heap.size ≤ w.heap.size + 1 by omega) 0 [.string R.name, .int .i64 R.width, .int .i64 R.height, .slice oa R.pieces.length on, .slice sa2 R.start.length sn2, .bool R.falls, .bool R.keeps, .slice ea5 R.ends.length en5, .int .i64 R.blocked, .int .i64 R.quiet, .int .i64 R.rept])
   generalize (w9.setCells (w.heap.size + 1) 0 [.string R.name, .int .i64 R.width, .int .i64 R.height, .slice oa R.pieces.length on, .slice sa2 R.start.length sn2, .bool R.falls, .bool R.keeps, .slice ea5 R.ends.length en5, .int .i64 R.blocked, .int .i64 R.quiet, .int .i64 R.rept]) = wf at *
   go_wp2_with fail
   exact bodyPost_ret (results_one rfl (by rfl) HS.out Tryz.underlying26 (by rfl) (by kernel_rfl)) rfl ⟨_, _, _, rfl, HX.out, HLf.out⟩
end Go.Proofs.YthklhndcdijneaaGreatDoor
/- The contracts of plain.New and Back. -/
namespace Go.Proofs.YthklhndcdijneaaGreatDoor
open Go.ChangeShapes Go.WideShapes Go.ChangeAt Go.RowKit
set_option linter.unusedVariables false
set_option maxHeartbeats 4000000
set_option maxRecDepth 100000
theorem own_boxV {w : World} {b base : Nat} {r : PosV} (h : Box w b [r.vc, r.v0, r.v1, .int .i64 r.p.turn, .int .i64 r.p.quiet] 66) (hb : base ≤ b) : w.ownsRow base 66 5 (.slice (some ⟨b, 0, none⟩) 1 1) 1 (flatV [r]) :=
 ⟨by simp [flatV], .inr ⟨b, 1, _, rfl, hb, h, Nat.le_refl _, by unfold maxLen; decide, by simp, by simp [flatV]⟩⟩
def NewPost (R : RulesZ) (w : World) (e : Ending) (w' : World) : Prop :=
 (rulesErr R ≠ 0 ∧ e = .returned (.tuple #[.pointer none, .int .i64 (rulesErr R)]) ∧ Below w.heap.size w w') ∨
 (rulesErr R = 0 ∧ ∃ S b vp vs ve vl vm rows, e = .returned (.tuple #[.pointer (some ⟨b, 0, none⟩), .int .i64 0]) ∧ GameAt S w.heap.size w' b R [] vp vs ve vl vm rows ∧ Below w.heap.size w w')
theorem New_any (R : RulesZ) (vp vs ve : Value) (w : World) (hr : RdR w R vp vs ve) (hnm : R.name.size ≤ maxLen) :
  Calls Tryz.prog 64 #[(.agg #[.string R.name, .int .i64 R.width, .int .i64 R.height, vp, vs, .bool R.falls, .bool R.keeps, ve, .int .i64 R.blocked, .int .i64 R.quiet, .int .i64 R.rept])] w (NewPost R w) := by
 have HR := Lib.hid hr
 have HN := Lib.hid hnm
 clear hr hnm
 go_enter Tryz.func64, Tryz.ntmps64
 go_upto_region 1 with (fail)
 refine opn1 fun w0 B0 yb_ hs_ => ?_
 have HB := Lib.hid yb_
 have hz0 : w.heap.size < w0.heap.size := by omega
 clear hs_ yb_
 have HRw := Lib.hid (HR.out.below HB.out (Nat.le_refl _))
 have HX0 := Lib.hid B0
 clear B0
 refine wp_region_lit ?_
 refine wpList_load_box (by rfl) 26 (.tmp 1) (by rfl) w.heap.size (by rfl) HX0.out Tryz.underlying26 (by rfl) (by kernel_rfl) ?_
 go_wp2_with fail
 refine (Begin_any R vp vs ve w0 HRw.out HN.out).mono ?_
 rintro e w1 (⟨hbad, rfl, hb1⟩ | ⟨hre, c, c0, c1, rfl, hp1, hb1⟩)
 ·have HNE := Lib.hid hbad
  have he' : (rulesErr R != 0) = true := by simpa using hbad
  have HB1 := Lib.hid (below_trans HB.out hb1 HB.out.size)
  clear hbad hb1
  unfold zeroPos
  go_wp2_with fail
  go_ret2
  exact .inl ⟨HNE.out, rfl, HB1.out.alloc HB1.out.size _⟩
 obtain ⟨xa, xn, rfl, -, -⟩ := hp1.1.form
 obtain ⟨xa0, xn0, rfl, -, -⟩ := hp1.2.1.form
 obtain ⟨xa1, xn1, rfl, -, -⟩ := hp1.2.2.form
 have hrk := rok_of hre
 have HRe := Lib.hid hre
 have hl1 : R.pieces.length ≤ 1000 := by have := hrk.np; omega
 have hl2 : R.start.length ≤ 1000 := by have := startLen hre; omega
 have hl3 : R.ends.length ≤ 1000 := by have := hrk.en; omega
 have HWL : Hid (∀ i, i < R.pieces.length → (R.pieces.getD i default).ways.length ≤ 1000) := Lib.hid (fun i hi => by have := (hrk.pc i hi).2.2.1; omega)
 have hy0 := (HX0.out.stays hb1).alloc (.cells #[.slice xa (beginZ R).cells.length xn, .slice xa0 (beginZ R).h0.length xn0, .slice xa1 (beginZ R).h1.length xn1, .int .i64 (beginZ R).turn, .int .i64 (beginZ R).quiet] 66)
 have hyp := Box.new w1 [.slice xa (beginZ R).cells.length xn, .slice xa0 (beginZ R).h0.length xn0, .slice xa1 (beginZ R).h1.length xn1, .int .i64 (beginZ R).turn, .int .i64 (beginZ R).quiet] 66
 have hyl := (below_trans HB.out hb1 HB.out.size).alloc (below_trans HB.out hb1 HB.out.size).size (.cells #[.slice xa (beginZ R).cells.length xn, .slice xa0 (beginZ R).h0.length xn0, .slice xa1 (beginZ R).h1.length xn1, .int .i64 (beginZ R).turn, .int .i64 (beginZ R).quiet] 66)
 have hyr := hp1.below ((Below.refl _ w1).alloc (Nat.le_refl _) (.cells #[.slice xa (beginZ R).cells.length xn, .slice xa0 (beginZ R).h0.length xn0, .slice xa1 (beginZ R).h1.length xn1, .int .i64 (beginZ R).turn, .int .i64 (beginZ R).quiet] 66)) (Nat.le_refl _)
 have hyw : w.heap.size ≤ (w1.alloc (.cells #[.slice xa (beginZ R).cells.length xn, .slice xa0 (beginZ R).h0.length xn0, .slice xa1 (beginZ R).h1.length xn1, .int .i64 (beginZ R).turn, .int .i64 (beginZ R).quiet] 66)).heap.size := hyl.size
 have HY := Lib.hid (And.intro hy0 (And.intro hyp (And.intro hyl (And.intro hyr hyw))))
 clear hre hrk hp1 hb1 hy0 hyp hyl hyr hyw HX0 HB HRw hz0
 unfold posV
 go_upto_region 4 with (fail)
 generalize (w1.alloc (.cells #[.slice xa (beginZ R).cells.length xn, .slice xa0 (beginZ R).h0.length xn0, .slice xa1 (beginZ R).h1.length xn1, .int .i64 (beginZ R).turn, .int .i64 (beginZ R).quiet] 66)) = wq at *
 obtain ⟨hy0, hyp, hyl, hyr, hyw⟩ := HY.out
 have BRz : Box wq.drew w.heap.size [.string R.name, .int .i64 R.width, .int .i64 R.height, vp, vs, .bool R.falls, .bool R.keeps, ve, .int .i64 R.blocked, .int .i64 R.quiet, .int .i64 R.rept] 26 := hy0
 have BPz : Box wq.drew w1.heap.size [.slice xa (beginZ R).cells.length xn, .slice xa0 (beginZ R).h0.length xn0, .slice xa1 (beginZ R).h1.length xn1, .int .i64 (beginZ R).turn, .int .i64 (beginZ R).quiet] 66 := hyp
 have Lz : Below w.heap.size w wq.drew := below_drew' hyl
 have Zz : Below wq.heap.size wq wq.drew := below_drew' (Below.refl _ _)
 have HPq := Lib.hid hyr
 have HWQ := Lib.hid hyw
 clear hy0 hyp hyl hyr hyw HY
 refine wp_region_noPanic ?_
 refine beginL (S := (fun w' => w'.cell? ⟨w.heap.size, 0, none⟩ = some (.string R.name) ∧ w'.cell? ⟨w.heap.size, 1, none⟩ = some (.int .i64 R.width) ∧ w'.cell? ⟨w.heap.size, 2, none⟩ = some (.int .i64 R.height) ∧ w'.cell? ⟨w.heap.size, 3, none⟩ = some vp ∧ w'.cell? ⟨w.heap.size, 4, none⟩ = some vs ∧ w'.cell? ⟨w.heap.size, 5, none⟩ = some (.bool R.falls) ∧ w'.cell? ⟨w.heap.size, 6, none⟩ = some (.bool R.keeps) ∧ w'.cell? ⟨w.heap.size, 7, none⟩ = some ve ∧ w'.cell? ⟨w.heap.size, 8, none⟩ = some (.int .i64 R.blocked) ∧ w'.cell? ⟨w.heap.size, 9, none⟩ = some (.int .i64 R.quiet) ∧ w'.cell? ⟨w.heap.size, 10, none⟩ = some (.int .i64 R.rept) ∧ w'.cell? ⟨w1.heap.size, 0, none⟩ = some (.slice xa (beginZ R).cells.length xn) ∧ w'.cell? ⟨w1.heap.size, 1, none⟩ = some (.slice xa0 (beginZ R).h0.length xn0) ∧ w'.cell? ⟨w1.heap.size, 2, none⟩ = some (.slice xa1 (beginZ R).h1.length xn1) ∧ w'.cell? ⟨w1.heap.size, 3, none⟩ = some (.int .i64 (beginZ R).turn) ∧ w'.cell? ⟨w1.heap.size, 4, none⟩ = some (.int .i64 (beginZ R).quiet))) (L := []) (by kernel_rfl) (by and_intros <;> first | exact BRz.cell _ rfl | exact BPz.cell _ rfl) (fun hHeld => ?_)
 refine tkL 0 ?_
 refine tkL 2 ?_
 refine rdL (rs := [1, 3]) ?_
 refine (AllReadyL.cons (by first | (simp only [List.getElem?_toArray, List.getElem?_cons_zero, List.getElem?_cons_succ] <;> rfl) | rfl) (fun K hK => ?_) (AllReadyL.cons (by first | (simp only [List.getElem?_toArray, List.getElem?_cons_zero, List.getElem?_cons_succ] <;> rfl) | rfl) (fun K hK => ?_) AllReadyL.nil))
 ·skip
  go_simp
  refine (RCopy_any R vp vs ve wq.drew (HR.out.below Lz (Nat.le_refl _)) (by omega) (by omega) (by omega) HWL.out).mono ?_
  rintro e w21 ⟨up, us, ue, rfl, hx1, hb1⟩
  have hc1 := hb1
  have BR1 := BRz.stays hb1
  have BP1 := BPz.stays hb1
  have L1 := below_trans Lz hb1 Lz.size
  have Z1 := Below.trans Zz (hb1.mono Zz.size)
  have X1 := hx1
  have C1 := Below.refl w21.heap.size w21
  clear hb1 hx1 hc1
  refine hK.out _ _ (by and_intros <;> first | exact BR1.cell _ rfl | exact BP1.cell _ rfl) (fun hHeld => ?_)
  clear hK K
  refine cnL 3 fun K hK => ?_
  go_simp
  refine K_world ?_
  intro w3 e3
  have hb3 : Below w21.heap.size w21 w3 := by rw [e3]; exact (Below.refl _ _).alloc (Nat.le_refl _) _
  have N3 : Box w3 w21.heap.size [.slice xa (beginZ R).cells.length xn, .slice xa0 (beginZ R).h0.length xn0, .slice xa1 (beginZ R).h1.length xn1, .int .i64 (beginZ R).turn, .int .i64 (beginZ R).quiet] 66 := by rw [e3]; exact Box.new' _ _ _ _ rfl
  have BR3 := BR1.stays hb3
  have BP3 := BP1.stays hb3
  have L3 := below_trans L1 hb3 L1.size
  have Z3 := Below.trans Z1 (hb3.mono Z1.size)
  have X3 := X1
  have D3 := hb3
  clear hb3 e3
  refine hK.out _ _ (by and_intros <;> first | exact BR3.cell _ rfl | exact BP3.cell _ rfl) (fun hHeld => ?_)
  clear hK K
  refine tkW 4 ?_
  refine cnL 5 fun K hK => ?_
  go_simp
  refine K_world ?_
  intro w5 e5
  have hb5 : Below w3.heap.size w3 w5 := by rw [e5]; exact (Below.refl _ _).alloc (Nat.le_refl _) _
  have G5 : Box w5 w3.heap.size [.string R.name, .int .i64 R.width, .int .i64 R.height, up, us, .bool R.falls, .bool R.keeps, ue, .int .i64 R.blocked, .int .i64 R.quiet, .int .i64 R.rept, .slice (some ⟨w21.heap.size, 0, none⟩) 1 1, .slice none 0 0] 150 := by rw [e5]; exact Box.new' _ _ _ _ rfl
  have BR5 := BR3.stays hb5
  have BP5 := BP3.stays hb5
  have L5 := below_trans L3 hb5 L3.size
  have Z5 := Below.trans Z3 (hb5.mono Z3.size)
  have N5 := N3.stays hb5
  have D5 := hb5
  clear hb5 e5
  refine hK.out _ _ (by and_intros <;> first | exact BR5.cell _ rfl | exact BP5.cell _ rfl) (fun hHeld => ?_)
  clear hK K
  refine tkW 6 ?_
  refine tkW 7 ?_
  refine dnN ?_
  have hS : ∀ k, (fun k => k = w21.heap.size ∨ k = w3.heap.size) k → wq.heap.size ≤ k ∧ k < w5.heap.size := fun k hk => by
   rcases hk with rfl | rfl
   ·exact ⟨Z1.size, N5.lt⟩
   ·exact ⟨Z3.size, G5.lt⟩
  have hR : Held (fun k => k = w21.heap.size ∨ k = w3.heap.size) w5 fun w' => RdR w' R up us ue := X1.held (Below.trans D3 (D5.mono D3.size)) (fun k hk => by rcases hk with rfl | rfl; exact .inr (Nat.le_refl _); exact .inr D3.size)
  have hP : Held (fun k => k = w21.heap.size ∨ k = w3.heap.size) w5 fun w' => RdP w' (beginZ R) (.slice xa (beginZ R).cells.length xn) (.slice xa0 (beginZ R).h0.length xn0) (.slice xa1 (beginZ R).h1.length xn1) := Held.old (B := wq.heap.size) (fun w' hw => HPq.out.below (Z5.trans hw) (Nat.le_refl _)) (fun k hk => (hS k hk).1) Z5.size
  have hol : w5.ownsRow wq.heap.size 66 5 (.slice (some ⟨w21.heap.size, 0, none⟩) 1 1) 1 (flatV [⟨beginZ R, .slice xa (beginZ R).cells.length xn, .slice xa0 (beginZ R).h0.length xn0, .slice xa1 (beginZ R).h1.length xn1⟩]) := own_boxV N5 Z1.size
  have hGm : GameAt (fun k => k = w21.heap.size ∨ k = w3.heap.size) w.heap.size w5 w3.heap.size R [] up us ue (.slice (some ⟨w21.heap.size, 0, none⟩) 1 1) (.slice none 0 0) [⟨beginZ R, .slice xa (beginZ R).cells.length xn, .slice xa0 (beginZ R).h0.length xn0, .slice xa1 (beginZ R).h1.length xn1⟩] := ⟨G5, .inr rfl, fun k hk => ⟨Nat.le_trans HWQ.out (hS k hk).1, (hS k hk).2⟩, hR, own_base hol HWQ.out, rfl, fun r hr => by rw [List.mem_singleton.1 hr]; exact hP, World.ownsRow_nil _ _ _ _, fun k hk => ⟨.inl (by simpa [Value.ownBlock] using hk.symm), (fun e => by subst e; have h1 : w21.heap.size < _ := N3.lt; simp [Value.ownBlock] at hk; omega)⟩, (fun k hk => by cases hk), .inr (by simp [Value.ownBlock]), by simp, LegalAll.nil _ _, HRe.out⟩
  have HGm := Lib.hid hGm
  have HL5 := Lib.hid L5
  clear hGm hol hP hR hS hHeld
  go_wp2_with fail
  go_ret2
  exact .inr ⟨HRe.out, _, _, _, _, _, _, _, _, rfl, HGm.out, HL5.out⟩
 ·skip
  go_simp
  refine K_world ?_
  intro w3 e3
  have hb3 : Below wq.drew.heap.size wq.drew w3 := by rw [e3]; exact (Below.refl _ _).alloc (Nat.le_refl _) _
  have N3 : Box w3 wq.drew.heap.size [.slice xa (beginZ R).cells.length xn, .slice xa0 (beginZ R).h0.length xn0, .slice xa1 (beginZ R).h1.length xn1, .int .i64 (beginZ R).turn, .int .i64 (beginZ R).quiet] 66 := by rw [e3]; exact Box.new' _ _ _ _ rfl
  have BR3 := BRz.stays hb3
  have BP3 := BPz.stays hb3
  have L3 := below_trans Lz hb3 Lz.size
  have Z3 := Below.trans Zz (hb3.mono Zz.size)
  clear hb3 e3
  refine hK.out _ _ (by and_intros <;> first | exact BR3.cell _ rfl | exact BP3.cell _ rfl) (fun hHeld => ?_)
  clear hK K
  refine cnL 1 fun K hK => ?_
  go_simp
  refine (RCopy_any R vp vs ve w3 (HR.out.below L3 (Nat.le_refl _)) (by omega) (by omega) (by omega) HWL.out).mono ?_
  rintro e w21 ⟨up, us, ue, rfl, hx1, hb1⟩
  have hc1 := hb1
  have BR1 := BR3.stays hb1
  have BP1 := BP3.stays hb1
  have L1 := below_trans L3 hb1 L3.size
  have Z1 := Below.trans Z3 (hb1.mono Z3.size)
  have X1 := hx1
  have C1 := hc1
  have N1 := N3.stays hb1
  clear hb1 hx1 hc1
  refine hK.out _ _ (by and_intros <;> first | exact BR1.cell _ rfl | exact BP1.cell _ rfl) (fun hHeld => ?_)
  clear hK K
  refine tkW 4 ?_
  refine cnL 5 fun K hK => ?_
  go_simp
  refine K_world ?_
  intro w5 e5
  have hb5 : Below w21.heap.size w21 w5 := by rw [e5]; exact (Below.refl _ _).alloc (Nat.le_refl _) _
  have G5 : Box w5 w21.heap.size [.string R.name, .int .i64 R.width, .int .i64 R.height, up, us, .bool R.falls, .bool R.keeps, ue, .int .i64 R.blocked, .int .i64 R.quiet, .int .i64 R.rept, .slice (some ⟨wq.drew.heap.size, 0, none⟩) 1 1, .slice none 0 0] 150 := by rw [e5]; exact Box.new' _ _ _ _ rfl
  have BR5 := BR1.stays hb5
  have BP5 := BP1.stays hb5
  have L5 := below_trans L1 hb5 L1.size
  have Z5 := Below.trans Z1 (hb5.mono Z1.size)
  have N5 := N1.stays hb5
  have D5 := hb5
  clear hb5 e5
  refine hK.out _ _ (by and_intros <;> first | exact BR5.cell _ rfl | exact BP5.cell _ rfl) (fun hHeld => ?_)
  clear hK K
  refine tkW 6 ?_
  refine tkW 7 ?_
  refine dnN ?_
  have hS : ∀ k, (fun k => k = wq.drew.heap.size ∨ k = w21.heap.size) k → wq.heap.size ≤ k ∧ k < w5.heap.size := fun k hk => by
   rcases hk with rfl | rfl
   ·exact ⟨Nat.le_refl _, N5.lt⟩
   ·exact ⟨Z1.size, G5.lt⟩
  have hR : Held (fun k => k = wq.drew.heap.size ∨ k = w21.heap.size) w5 fun w' => RdR w' R up us ue := X1.held D5 (fun k hk => by rcases hk with rfl | rfl; exact .inl N3.lt; exact .inr (Nat.le_refl _))
  have hP : Held (fun k => k = wq.drew.heap.size ∨ k = w21.heap.size) w5 fun w' => RdP w' (beginZ R) (.slice xa (beginZ R).cells.length xn) (.slice xa0 (beginZ R).h0.length xn0) (.slice xa1 (beginZ R).h1.length xn1) := Held.old (B := wq.heap.size) (fun w' hw => HPq.out.below (Z5.trans hw) (Nat.le_refl _)) (fun k hk => (hS k hk).1) Z5.size
  have hol : w5.ownsRow wq.heap.size 66 5 (.slice (some ⟨wq.drew.heap.size, 0, none⟩) 1 1) 1 (flatV [⟨beginZ R, .slice xa (beginZ R).cells.length xn, .slice xa0 (beginZ R).h0.length xn0, .slice xa1 (beginZ R).h1.length xn1⟩]) := own_boxV N5 (Nat.le_refl _)
  have hGm : GameAt (fun k => k = wq.drew.heap.size ∨ k = w21.heap.size) w.heap.size w5 w21.heap.size R [] up us ue (.slice (some ⟨wq.drew.heap.size, 0, none⟩) 1 1) (.slice none 0 0) [⟨beginZ R, .slice xa (beginZ R).cells.length xn, .slice xa0 (beginZ R).h0.length xn0, .slice xa1 (beginZ R).h1.length xn1⟩] := ⟨G5, .inr rfl, fun k hk => ⟨Nat.le_trans HWQ.out (hS k hk).1, (hS k hk).2⟩, hR, own_base hol HWQ.out, rfl, fun r hr => by rw [List.mem_singleton.1 hr]; exact hP, World.ownsRow_nil _ _ _ _, fun k hk => ⟨.inl (by simpa [Value.ownBlock] using hk.symm), (fun e => by subst e; have h1 : wq.heap.size < _ := N1.lt; simp [Value.ownBlock] at hk; omega)⟩, (fun k hk => by cases hk), .inr (by simp [Value.ownBlock]), by simp, LegalAll.nil _ _, HRe.out⟩
  have HGm := Lib.hid hGm
  have HL5 := Lib.hid L5
  clear hGm hol hP hR hS hHeld
  go_wp2_with fail
  go_ret2
  exact .inr ⟨HRe.out, _, _, _, _, _, _, _, _, rfl, HGm.out, HL5.out⟩
end Go.Proofs.YthklhndcdijneaaGreatDoor
/- The contracts of plain's Back and Play. -/
namespace Go.Proofs.YthklhndcdijneaaGreatDoor
open Go.ChangeShapes Go.WideShapes Go.ChangeAt Go.RowKit
set_option linter.unusedVariables false
set_option maxHeartbeats 4000000
set_option maxRecDepth 100000
theorem LegalAll.take {R : RulesZ} {p : PosZ} {ms : List MoveZ} (h : LegalAll R p ms) (n : Nat) : LegalAll R p (ms.take n) := by
 intro k hk
 rw [List.length_take] at hk
 have := h k (by omega)
 rw [List.take_take, Nat.min_eq_left (by omega), show (ms.take n).getD k default = ms.getD k default by rw [List.getD_eq_getElem?_getD, List.getD_eq_getElem?_getD, List.getElem?_take, if_pos (by omega)]]
 exact this
end Go.Proofs.YthklhndcdijneaaGreatDoor

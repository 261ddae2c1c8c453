/- RecC, AnV, AnG, AnH, AnN. -/
import Derived.Test.YtnieifdogllbfaaGreatE18
import Derived.Test.YtnieifdogllbfaaGreatC01
import Derived.Test.YtnieifdogllbfaaGreatC03
import Derived.BigQuiet
import Derived.Deep.Cut
import Derived.Deep.QuietTactic
import Derived.Test.YtnieifdogllbfaaGreatE19
import Derived.Test.YtnieifdogllbfaaGreatC08
namespace Go.Proofs.YtnieifdogllbfaaGreat
open Go.ChangeShapes Go.WideShapes Go.ChangeAt Go.RowKit
set_option linter.unusedVariables false
theorem infoMoveR : (Tryz.prog.info? 68).map (fun i => (i.zero, i.size, i.bytes)) = some (some (.agg #[.int .i64 0, .int .i64 0, .int .i64 0]), 3, 24) := by kernel_rfl
def mvOf (ns : List NodeZ) (l : List Nat) : List MoveZ := l.map fun k => (ndAt ns k).m
theorem wayI_eq (ns : List NodeZ) (n : Int) : wayI ns n = (mvOf ns (upL ns n)).reverse := rfl
set_option maxRecDepth 100000 in
set_option maxHeartbeats 4000000 in
theorem Way_any (X : RecZ) (vt vn : Value) (nd i : Nat) (w : World) (h : RdX w X vt vn) (hb : Back X.nodes i) (hi : i ≤ X.nodes.length) (hl : nd < i) (hm : X.nodes.length ≤ 1000) :
  Calls Tryz.prog 35 #[recV X vt vn, .int .i64 nd] w fun e w' => ∃ v', e = .returned v' ∧ w'.ownsRow w.heap.size 68 3 v' (wayI X.nodes nd).length (flatM (wayI X.nodes nd)) ∧ Below w.heap.size w w' := by
 obtain ⟨na, nc, rfl, h1, h2⟩ := h.2.1.form
 unfold maxLen at h2
 have HR := Lib.hid h.2.1
 have HK := Lib.hid hb
 clear h hb
 unfold recV
 go_enter Tryz.func35, Tryz.ntmps35
 go_upto_region 1 with (fail)
 have hb0 := (Box.new' w w.heap.size [vt, .string X.comment, .slice na X.nodes.length nc, .int .i64 X.result] 30 rfl)
 have HB : Hid (Below w.heap.size w (w.alloc (.cells #[vt, .string X.comment, .slice na X.nodes.length nc, .int .i64 X.result] 30))) := Lib.hid ((Below.refl w.heap.size w).alloc (Nat.le_refl _) _)
 obtain ⟨bb, hbb⟩ : ∃ bb, bb = w.heap.size := ⟨_, rfl⟩
 rw [← hbb] at HB hb0 ⊢
 generalize (w.alloc (.cells #[vt, .string X.comment, .slice na X.nodes.length nc, .int .i64 X.result] 30)) = w0 at *
 have HX := Lib.hid hb0
 have hw0 := hb0.lt
 have hbb1 : w.heap.size ≤ bb := by omega
 have HNil : Hid (w0.ownsRow (bb + 1) 68 3 (.slice none 0 0) 0 (flatM [])) := Lib.hid (World.ownsRow_nil _ _ _ _)
 clear hb0 hbb
 go_wp2_with fail
 go_loopw [6, 5] (fun v6 v5 wr => ∃ (n : Int) (ms : List MoveZ) (o5 : Value), o5 = v5 ∧ v6 = .int .i64 n ∧ n < i ∧ Hid (mvOf X.nodes (upL X.nodes nd) = ms ++ mvOf X.nodes (upL X.nodes n)) ∧ ms.length + (n + 1).toNat ≤ nd + 1 ∧ Hid (wr.ownsRow (bb + 1) 68 3 o5 ms.length (flatM ms)) ∧ Hid (Below bb w wr) ∧ Hid (Box wr bb [vt, .string X.comment, .slice na X.nodes.length nc, .int .i64 X.result] 30)) (fun v _ _ => (intOf v + 1).toNat)
 case atStart => exact ⟨nd, [], _, rfl, rfl, by omega, Lib.hid rfl, by simp, HNil, HB, HX⟩
 case round =>
  obtain ⟨n, ms, o5, rfl, rfl, hn, HU, hlen, HO, HBr, HXr⟩ := hrel
  have hsr := HXr.out.lt
  by_cases h0 : 0 ≤ n
  ·obtain ⟨m, rfl⟩ : ∃ m : Nat, n = (m : Int) := ⟨n.toNat, by omega⟩
   obtain ⟨g, o, rfl, hg, hc⟩ := nodes_some HR.out (by omega)
   obtain ⟨e0, e1, e2, e3, -⟩ := hc m (by omega)
   have hgb : g < bb := by omega
   have c1 := (HBr.out.cell (p := ⟨g, o + m * 5 + 1, none⟩) hgb).trans e1
   have c2 := (HBr.out.cell (p := ⟨g, o + m * 5 + 2, none⟩) hgb).trans e2
   have c3 := (HBr.out.cell (p := ⟨g, o + m * 5 + 3, none⟩) hgb).trans e3
   have HE0 := Lib.hid e0
   have HC := Lib.hid (up_cons HK.out m (by omega))
   have hpm := HK.out m (by omega)
   have HU2 : Hid (mvOf X.nodes (upL X.nodes nd) = (ms ++ [(ndAt X.nodes m).m]) ++ mvOf X.nodes (upL X.nodes (ndAt X.nodes m).parent)) := Lib.hid (by rw [HU.out, HC.out, List.append_assoc]; rfl)
   clear hc HU HC e0 e1 e2 e3
   generalize (ndAt X.nodes m).parent = p at *
   generalize (ndAt X.nodes m).m = mv at *
   have hml : (m : Int) < (X.nodes.length : Int) := by omega
   have q2 := HXr.out.cell 2 rfl
   obtain ⟨oa, oc, rfl⟩ := own_form2 HO.out
   have hrs : bb + 1 ≤ wr.heap.size := by omega
   have hgw : g < wr.heap.size := by omega
   go_wp2_with (at_builtin; refine app_new 43 68 (.agg #[.int .i64 0, .int .i64 0, .int .i64 0]) 3 24 infoMoveR Tryz.underlying43 rfl (by decide) (by rfl) _ _ (by rfl) (bb + 1) _ ms.length (flatM ms) [.int .i64 mv.src, .int .i64 mv.dst, .int .i64 mv.piece] wr HO.out hrs rfl three_ints (by omega) (by omega) (by rfl) (by rfl) ?_)
   intro g3 cap3 w3 hown3 hkeep3 hgr3
   have HB3 := Lib.hid (hkeep3.below HBr.out (by omega))
   have HX3 := Lib.hid ((HXr.out.alloc (.cells #[.int .i64 mv.src, .int .i64 mv.dst, .int .i64 mv.piece] 68)).grown hgr3 (fun e => by have := (HO.out.lt bb e.symm).1; omega))
   have HO3 : Hid (w3.ownsRow (bb + 1) 68 3 (.slice (some ⟨g3, 0, none⟩) (ms.length + 1) cap3) (ms ++ [mv]).length (flatM (ms ++ [mv]))) := Lib.hid (by
    rw [← flatM_append, List.length_append]
    exact hown3)
   have c0 := (HB3.out.cell (p := ⟨g, o + m * 5, none⟩) hgb).trans HE0.out
   have q23 := HX3.out.cell 2 rfl
   have hg3 : g < w3.heap.size := by have := HX3.out.lt; omega
   have hb3 := HX3.out.lt
   clear hown3 hkeep3 hgr3 q2 c1 c2 c3 HE0
   go_wp2_with fail
   go_roundw
   case rel => exact ⟨p, ms ++ [mv], _, rfl, rfl, by omega, HU2, by rw [List.length_append]; simp; omega, HO3, HB3, HX3⟩
   case measure => simp [intOf]; omega
  ·have HU2 : Hid (mvOf X.nodes (upL X.nodes nd) = ms) := Lib.hid (by rw [HU.out, up_neg X.nodes n (by omega)]; exact List.append_nil _)
   have hne : 0 < ms.length := by
    rw [← HU2.out, up_cons HK.out nd hl]
    simp [mvOf]
   obtain ⟨G, cc, rfl⟩ := own_some HO.out hne
   have HRev := Lib.hid (ReverseM_any ms G ms.length cc bb w wr (own_base HO.out (Nat.le_succ bb)) HBr.out (by omega))
   go_upto_region 7 with (go_at_call 58; refine HRev.out.mono ?_; rintro e w5 ⟨rfl, ho5, hb5⟩; have HO5 := Lib.hid ho5; have HB5 := Lib.hid hb5; clear ho5 hb5)
   go_wp2_with fail
   go_ret
   refine ⟨_, rfl, ?_, HB5.out.mono hbb1⟩
   rw [wayI_eq, HU2.out, List.length_reverse]
   exact own_base HO5.out hbb1
end Go.Proofs.YtnieifdogllbfaaGreat
namespace Go.Proofs.YtnieifdogllbfaaGreat
open Go.ChangeShapes Go.WideShapes Go.ChangeAt Go.RowKit
set_option linter.unusedVariables false
end Go.Proofs.YtnieifdogllbfaaGreat
namespace Go.Proofs.YtnieifdogllbfaaGreat
open Go.ChangeShapes Go.WideShapes Go.ChangeAt Go.RowKit
set_option linter.unusedVariables false
/-- the trees, those after p in the order ord p. -/
def treeO (ns : List NodeZ) (ord : Int → List Nat) : Nat → Int → List BrZ
 | 0, _ => []
 | f + 1, p => (ord p).map fun k => .mk (ndAt ns k).m (ndAt ns k).comment (treeO ns ord f (k : Int))
theorem treeO_kids (ns : List NodeZ) : ∀ (f : Nat) (p : Int), treeO ns (kidsZ ns) f p = treeF ns f p
 | 0, _ => rfl
 | f + 1, p => by rw [treeO, treeF]; refine List.map_congr_left fun k _ => ?_; rw [treeO_kids ns f k]
theorem treeO_cut (ns : List NodeZ) (node : Nat) : ∀ (f : Nat) (p : Int), treeO ns (fun p => (kidsZ ns p).filter fun k => k != node) f p = treeC ns node f p
 | 0, _ => rfl
 | f + 1, p => by rw [treeO, treeC]; refine List.map_congr_left fun k _ => ?_; rw [treeO_cut ns node f k]
def ptrV (g : Nat) : Value := .pointer (some ⟨g, 0, none⟩)
variable {q : Nat → Prop} {tb te : TypeId}
/-- node k lies in block A k, with the slice K k of those after it. -/
structure NdAt (q : Nat → Prop) (tb te : TypeId) (base : Nat) (w : World) (ns : List NodeZ) (ord : Int → List Nat) (A : Nat → Nat) (K : Nat → Value) (k : Nat) : Prop where
 lo : base ≤ A k
 box : Box w (A k) [.int .i64 (ndAt ns k).m.src, .int .i64 (ndAt ns k).m.dst, .int .i64 (ndAt ns k).m.piece, .string (ndAt ns k).comment, K k] tb
 sz : (ndAt ns k).comment.size ≤ maxLen
 row : w.ownsRow base te 1 (K k) (ord (k : Int)).length ((ord (k : Int)).map fun j => ptrV (A j))
 nil : q (A k) ∧ ∀ g, (K k).ownBlock = some g → q g
theorem NdAt.keep {base : Nat} {w w' : World} {ns : List NodeZ} {ord : Int → List Nat} {A : Nat → Nat} {K : Nat → Value} {k : Nat} (h : NdAt q tb te base w ns ord A K k) (hk : Keep base w w') : NdAt q tb te base w' ns ord A K k :=
 ⟨h.lo, (hk.block _ h.lo h.box.lt).trans h.box, h.sz, own_keep h.row hk, h.nil⟩
theorem brs_map {base : Nat} {w : World} (g : Nat → BrZ) (A : Nat → Nat) : ∀ (l : List Nat), (∀ k ∈ l, BrAt q tb te base w (g k) (ptrV (A k))) → BrsAt q tb te base w (l.map g) (l.map fun k => ptrV (A k))
 | [], _ => by rw [List.map_nil, List.map_nil, BrsAt]
 | k :: l, h => by
  rw [List.map_cons, List.map_cons, BrsAt]
  exact ⟨_, _, rfl, h k (List.mem_cons_self ..), brs_map g A l (fun q hq => h q (List.mem_cons_of_mem _ hq))⟩
/-- the nodes are the trees. -/
theorem brs_of {base : Nat} {w : World} {ns : List NodeZ} {ord : Int → List Nat} {A : Nat → Nat} {K : Nat → Value} (ok : Nat → Prop) (hall : ∀ k, ok k → NdAt q tb te base w ns ord A K k) (hdown : ∀ k, ok k → ∀ j ∈ ord (k : Int), ok j ∧ k < j ∧ j < ns.length) : ∀ (f : Nat) (p : Int), (∀ j ∈ ord p, ok j) → (∀ j ∈ ord p, j < ns.length ∧ ns.length ≤ j + f) → BrsAt q tb te base w (treeO ns ord f p) ((ord p).map fun k => ptrV (A k))
 | 0, p, ho, hf => by
  have e : ord p = [] := by
   cases h : ord p with
   | nil => rfl
   | cons j l =>
    have hj : j ∈ ord p := by rw [h]; exact List.mem_cons_self ..
    have h1 := hf j hj
    omega
  rw [e, treeO, List.map_nil, BrsAt]
 | f + 1, p, ho, hf => by
  rw [treeO]
  refine brs_map _ A _ (fun k hk => ?_)
  have hn := hall k (ho k hk)
  rw [BrAt]
  refine ⟨A k, K k, (ord (k : Int)).map (fun j => ptrV (A j)), rfl, hn.lo, hn.box, hn.sz, by rw [List.length_map]; exact hn.row, hn.nil, ?_⟩
  exact brs_of ok hall hdown f (k : Int) (fun j hj => (hdown k (ho k hk) j hj).1) (fun j hj => by have h1 := (hdown k (ho k hk) j hj).2; have h2 := hf k hk; omega)
end Go.Proofs.YtnieifdogllbfaaGreat
namespace Go.Proofs.YtnieifdogllbfaaGreat
open Go.ChangeShapes Go.WideShapes Go.ChangeAt Go.RowKit
set_option linter.unusedVariables false
/-! ### who lies under whom -/
def Und (ns : List NodeZ) (p : Int) (k : Nat) : Prop := k < ns.length ∧ Up ns (ndAt ns k).parent p
theorem up_cases {ns : List NodeZ} {k q : Int} (h : Up ns k q) : k = q ∨ ∃ m : Nat, k = (m : Int) ∧ Up ns (ndAt ns m).parent q := by
 cases h with
 | here => exact .inl rfl
 | step m q h => exact .inr ⟨m, rfl, h⟩
theorem up_trans {ns : List NodeZ} {a b c : Int} (h : Up ns a b) (k : Up ns b c) : Up ns a c := by
 induction h with
 | here => exact k
 | step m q h ih => exact .step m _ (ih k)
theorem up_line {ns : List NodeZ} {k a b : Int} (h : Up ns k a) : Up ns k b → Up ns a b ∨ Up ns b a := by
 induction h with
 | here => exact .inl
 | step m q h ih =>
  intro hb
  rcases up_cases hb with e | ⟨m', e, h'⟩
  ·exact .inr (by rw [← e]; exact .step m _ h)
  ·have : m' = m := by omega
   subst this
   exact ih h'
theorem Und.lt {ns : List NodeZ} (hb : Back ns ns.length) {p : Int} {k : Nat} (h : Und ns p k) : p < k := by
 have h1 := hb k h.1
 have h2 := up_le hb h.2 (by have := h.1; omega)
 omega
theorem und_kid {ns : List NodeZ} {p : Int} {c : Nat} (h : c ∈ kidsZ ns p) : Und ns p c := by
 unfold kidsZ at h
 rw [List.mem_filter, List.mem_range] at h
 have h2 : (ndAt ns c).parent = p := by simpa using h.2
 exact ⟨h.1, by rw [h2]; exact .here _⟩
theorem kid_par {ns : List NodeZ} {p : Int} {c : Nat} (h : c ∈ kidsZ ns p) : (ndAt ns c).parent = p ∧ c < ns.length := by
 unfold kidsZ at h
 rw [List.mem_filter, List.mem_range] at h
 exact ⟨by simpa using h.2, h.1⟩
theorem und_down {ns : List NodeZ} {p : Int} {c k : Nat} (h : c ∈ kidsZ ns p) (hk : Und ns (c : Int) k) : Und ns p k :=
 ⟨hk.1, up_trans hk.2 (.step c _ (by rw [(kid_par h).1]; exact .here _))⟩
theorem und_cases {ns : List NodeZ} {p : Int} {k : Nat} : ∀ (f : Nat), k < f → Back ns ns.length → Und ns p k → ∃ c ∈ kidsZ ns p, k = c ∨ Und ns (c : Int) k := by
 intro f
 induction f generalizing k with
 | zero => omega
 | succ f ih =>
  intro hf hb h
  rcases up_cases h.2 with e | ⟨m, e, h2⟩
  ·refine ⟨k, ?_, .inl rfl⟩
   unfold kidsZ
   rw [List.mem_filter, List.mem_range]
   exact ⟨h.1, by simpa using e⟩
  ·have hm := hb k h.1
   obtain ⟨c, hc, h3⟩ := ih (k := m) (by omega) hb ⟨by have := h.1; omega, h2⟩
   refine ⟨c, hc, .inr ⟨h.1, ?_⟩⟩
   rw [e]
   rcases h3 with rfl | h3
   ·exact .here _
   ·exact .step m _ h3.2
theorem und_apart {ns : List NodeZ} (hb : Back ns ns.length) {p : Int} {c c' k : Nat} (h : c ∈ kidsZ ns p) (h' : c' ∈ kidsZ ns p) (hk : k = c ∨ Und ns (c : Int) k) (hk' : k = c' ∨ Und ns (c' : Int) k) : c = c' := by
 have u1 : Up ns (k : Int) (c : Int) := by
  rcases hk with rfl | hk
  ·exact .here _
  ·exact .step k _ hk.2
 have u2 : Up ns (k : Int) (c' : Int) := by
  rcases hk' with rfl | hk'
  ·exact .here _
  ·exact .step k _ hk'.2
 have hp := kid_par h
 have hp' := kid_par h'
 have g1 := hb c hp.2
 have g2 := hb c' hp'.2
 rcases up_line u1 u2 with u | u
 ·rcases up_cases u with e | ⟨m, e, u'⟩
  ·omega
  ·have : m = c := by omega
   subst this
   rw [hp.1] at u'
   have := up_le hb u' (by omega)
   omega
 ·rcases up_cases u with e | ⟨m, e, u'⟩
  ·omega
  ·have : m = c' := by omega
   subst this
   rw [hp'.1] at u'
   have := up_le hb u' (by omega)
   omega
/-! ### nodes in memory -/
def adr (Ws : List Value) (k : Nat) : Nat :=
 match Ws[k]? with
 | some (.pointer (some a)) => a.block
 | _ => 0
theorem adr_eq {Ws Ws' : List Value} {k : Nat} (h : Ws'[k]? = Ws[k]?) : adr Ws' k = adr Ws k := by unfold adr; rw [h]
theorem adr_ptr {Ws : List Value} {k g : Nat} (h : Ws[k]? = some (ptrV g)) : adr Ws k = g := by unfold adr; rw [h]; rfl
def kv (w : World) (g : Nat) : Value := (w.cell? ⟨g, 4, none⟩).getD (.slice none 0 0)
theorem kv_eq {w w' : World} {g : Nat} (h : w'.heap[g]? = w.heap[g]?) : kv w' g = kv w g := by
 unfold kv
 rw [World.cell?_of_block (a := ⟨g, 4, none⟩) h]
variable {tb te : TypeId}
def anyB : Nat → Prop := fun _ => True
structure Nd (tb te : TypeId) (base : Nat) (w : World) (ns : List NodeZ) (ord : Int → List Nat) (Ws : List Value) (k : Nat) : Prop where
 here : Ws[k]? = some (ptrV (adr Ws k))
 nd : NdAt anyB tb te base w ns ord (adr Ws) (fun k => kv w (adr Ws k)) k
theorem Nd.lo {base : Nat} {w : World} {ns : List NodeZ} {ord : Int → List Nat} {Ws : List Value} {k : Nat} (h : Nd tb te base w ns ord Ws k) : base ≤ adr Ws k := h.nd.lo
theorem Nd.hi {base : Nat} {w : World} {ns : List NodeZ} {ord : Int → List Nat} {Ws : List Value} {k : Nat} (h : Nd tb te base w ns ord Ws k) : adr Ws k < w.heap.size := h.nd.box.lt
theorem Nd.row {base : Nat} {w : World} {ns : List NodeZ} {ord : Int → List Nat} {Ws : List Value} {k : Nat} (h : Nd tb te base w ns ord Ws k) : ∀ g, (kv w (adr Ws k)).ownBlock = some g → base ≤ g ∧ g < w.heap.size := h.nd.row.lt
theorem Nd.step {base base' : Nat} {w w' : World} {ns : List NodeZ} {ord : Int → List Nat} {Ws Ws' : List Value} {k : Nat} (h : Nd tb te base w ns ord Ws k) (hb : base' ≤ base) (hA : w'.heap[adr Ws k]? = w.heap[adr Ws k]?)
  (hR : ∀ g, (kv w (adr Ws k)).ownBlock = some g → w'.heap[g]? = w.heap[g]?) (hW : Ws'[k]? = Ws[k]?) (hO : ∀ j ∈ ord (k : Int), Ws'[j]? = Ws[j]?) : Nd tb te base' w' ns ord Ws' k ∧ kv w' (adr Ws' k) = kv w (adr Ws k) := by
 have ea := adr_eq hW
 have ek := kv_eq hA
 have e2 : kv w' (adr Ws' k) = kv w (adr Ws k) := by rw [ea, ek]
 refine ⟨⟨by rw [hW, ea]; exact h.here, ?_⟩, e2⟩
 refine ⟨by rw [ea]; exact Nat.le_trans hb h.lo, ?_, h.nd.sz, ?_, ?_⟩
 ·show Box w' (adr Ws' k) _ tb
  rw [e2, ea]
  exact hA.trans h.nd.box
 ·show w'.ownsRow base' te 1 (kv w' (adr Ws' k)) _ _
  rw [e2]
  have em : ((ord (k : Int)).map fun j => ptrV (adr Ws' j)) = (ord (k : Int)).map fun j => ptrV (adr Ws j) := List.map_congr_left fun j hj => by rw [adr_eq (hO j hj)]
  rw [em]
  exact own_of_block (own_base h.nd.row hb) hR
 ·exact ⟨trivial, fun _ _ => trivial⟩
def Apart (w : World) (Ws : List Value) (k k' : Nat) : Prop := adr Ws k ≠ adr Ws k' ∧ ((kv w (adr Ws k)).ownBlock = none ∨ (kv w (adr Ws k)).ownBlock ≠ (kv w (adr Ws k')).ownBlock)
/-- the state of tree's loop: the nodes of S lie in memory, those of js in the row v. -/
structure TS (tb te : TypeId) (base : Nat) (w0 w : World) (ns : List NodeZ) (ord : Int → List Nat) (bw : Nat) (Ws0 Ws : List Value) (S : Nat → Prop) (v : Value) (js : List Nat) : Prop where
 grow : w0.grownBy w (some bw)
 wh : Box w bw Ws te
 wlen : Ws.length = Ws0.length
 wold : ∀ k, ¬ S k → Ws[k]? = Ws0[k]?
 nds : ∀ k, S k → Nd tb te base w ns ord Ws k
 sep : ∀ k k', S k → S k' → k ≠ k' → Apart w Ws k k'
 clo : ∀ k, S k → ∀ j ∈ ord (k : Int), S j
 sub : ∀ j ∈ js, S j
 out : w.ownsRow base te 1 v js.length (js.map fun j => ptrV (adr Ws j))
 osep : ∀ k, S k → v.ownBlock = none ∨ v.ownBlock ≠ (kv w (adr Ws k)).ownBlock
theorem grown_trans {a b c : World} {r : Option Nat} (h : a.grownBy b r) (k : b.grownBy c r) : a.grownBy c r :=
 ⟨k.os.trans h.os, k.tape.trans h.tape, k.output.trans h.output, Nat.le_trans h.size k.size, fun i h1 h2 => (k.block i (Nat.lt_of_lt_of_le h1 h.size) h2).trans (h.block i h1 h2)⟩
theorem grown_below {w w' : World} {r : Option Nat} (h : Below w.heap.size w w') : w.grownBy w' r := ⟨h.os, h.tape, h.output, h.size, fun k h1 _ => h.block k h1⟩
theorem grown_set {a w : World} {r : Option Nat} (h : a.grownBy w r) (p : Addr) (u : Value) (hp : some p.block = r ∨ a.heap.size ≤ p.block) : a.grownBy (w.setCell p u) r :=
 ⟨h.os, h.tape, h.output, by simpa using h.size, fun k h1 h2 => (Below.heap_setCell w p u k (by intro e; rcases hp with hp | hp; (· exact h2 (by rw [e]; exact hp)); omega)).trans (h.block k h1 h2)⟩
theorem TS.congr {base : Nat} {w0 w : World} {ns : List NodeZ} {ord : Int → List Nat} {bw : Nat} {Ws0 Ws : List Value} {S S' : Nat → Prop} {v : Value} {js : List Nat} (h : TS tb te base w0 w ns ord bw Ws0 Ws S v js) (e : ∀ k, S k ↔ S' k) : TS tb te base w0 w ns ord bw Ws0 Ws S' v js := by
 have : S = S' := funext fun k => propext (e k)
 rw [← this]; exact h
/-- nothing lies there yet. -/
theorem TS.start {w : World} {ns : List NodeZ} {ord : Int → List Nat} {bw : Nat} {Ws : List Value} (base : Nat) (hb : Box w bw Ws te) : TS tb te base w w ns ord bw Ws Ws (fun _ => False) (.slice none 0 0) [] :=
 ⟨⟨rfl, rfl, rfl, Nat.le_refl _, fun _ _ _ => rfl⟩, hb, rfl, fun _ _ => rfl, fun _ h => h.elim, fun _ _ h => h.elim, fun _ h => h.elim, fun _ h => (List.not_mem_nil h).elim, World.ownsRow_nil _ _ _ _, fun _ h => h.elim⟩
/-- a node more, with those under it. -/
theorem TS.node {base : Nat} {w1 wr w3 w4 : World} {ns : List NodeZ} {ord : Int → List Nat} {bw : Nat} {Ws0 Ws Ws1 Ws2 : List Value} {S U : Nat → Prop} {v v4 : Value} {js : List Nat} {c B : Nat}
  (h : TS tb te base w1 wr ns ord bw Ws0 Ws S v js) (hb1 : base ≤ w1.heap.size) (hbw : bw < base) (hB : wr.heap.size = B) (hw1 : Ws1 = Ws.set c (ptrV B)) (hc : c < Ws0.length)
  (hg3 : wr.grownBy w3 (some bw)) (hs3 : w3.heap.size = B + 1) (hx3 : Box w3 B [.int .i64 (ndAt ns c).m.src, .int .i64 (ndAt ns c).m.dst, .int .i64 (ndAt ns c).m.piece, .string (ndAt ns c).comment, .slice none 0 0] tb)
  (hsz : (ndAt ns c).comment.size ≤ maxLen) (h4 : TS tb te (B + 1) w3 w4 ns ord bw Ws1 Ws2 U v4 (ord (c : Int))) (hcU : ¬ U c) (hSc : ¬ S c) (hSU : ∀ k, U k → ¬ S k) :
  TS tb te base w1 (w4.setCell ⟨B, 4, none⟩ v4) ns ord bw Ws0 Ws2 (fun k => S k ∨ k = c ∨ U k) v js := by
 have hwr := h.grow.size
 have hbB : base ≤ B := by omega
 have h34 := h4.grow.size
 have e1 : ∀ k, k ≠ c → Ws1[k]? = Ws[k]? := fun k hk => by rw [hw1, List.getElem?_set, if_neg (Ne.symm hk)]
 have e1c : Ws1[c]? = some (ptrV B) := by rw [hw1, List.getElem?_set, if_pos rfl, if_pos (by rw [h.wlen]; exact hc)]
 have e2 : ∀ k, ¬ U k → Ws2[k]? = Ws1[k]? := h4.wold
 have e2c : Ws2[c]? = some (ptrV B) := by rw [e2 c hcU, e1c]
 have ac : adr Ws2 c = B := adr_ptr e2c
 have hbs : ∀ g, base ≤ g → g < B → (w4.setCell ⟨B, 4, none⟩ v4).heap[g]? = wr.heap[g]? := fun g h1 h2 => by
  rw [Below.heap_setCell w4 _ v4 g (by show g ≠ B; omega), h4.grow.block g (by omega) (by simp; omega), hg3.block g (by omega) (by simp; omega)]
 have hbu : ∀ g, B + 1 ≤ g → (w4.setCell ⟨B, 4, none⟩ v4).heap[g]? = w4.heap[g]? := fun g h1 => Below.heap_setCell w4 _ v4 g (by show g ≠ B; omega)
 have hx4 : Box (w4.setCell ⟨B, 4, none⟩ v4) B [.int .i64 (ndAt ns c).m.src, .int .i64 (ndAt ns c).m.dst, .int .i64 (ndAt ns c).m.piece, .string (ndAt ns c).comment, v4] tb := by
  have hx : Box w4 B [.int .i64 (ndAt ns c).m.src, .int .i64 (ndAt ns c).m.dst, .int .i64 (ndAt ns c).m.piece, .string (ndAt ns c).comment, .slice none 0 0] tb := (h4.grow.block B (by omega) (by simp; omega)).trans hx3
  exact hx.set 4 v4
 have kc : kv (w4.setCell ⟨B, 4, none⟩ v4) B = v4 := by unfold kv; rw [hx4.cell 4 rfl]; rfl
 have oldN : ∀ k, S k → Nd tb te base (w4.setCell ⟨B, 4, none⟩ v4) ns ord Ws2 k ∧ kv (w4.setCell ⟨B, 4, none⟩ v4) (adr Ws2 k) = kv wr (adr Ws k) := fun k hk => by
  have hn := h.nds k hk
  have hW : ∀ j, S j → Ws2[j]? = Ws[j]? := fun j hj => by rw [e2 j (fun hu => hSU j hu hj), e1 j (fun e => hSc (e ▸ hj))]
  exact hn.step (Nat.le_refl _) (hbs _ hn.lo (by rw [← hB]; exact hn.hi)) (fun g hg => hbs g (hn.row g hg).1 (by rw [← hB]; exact (hn.row g hg).2)) (hW k hk) (fun j hj => hW j (h.clo k hk j hj))
 have newN : ∀ k, U k → Nd tb te (B + 1) (w4.setCell ⟨B, 4, none⟩ v4) ns ord Ws2 k ∧ kv (w4.setCell ⟨B, 4, none⟩ v4) (adr Ws2 k) = kv w4 (adr Ws2 k) := fun k hk => by
  have hn := h4.nds k hk
  exact hn.step (Nat.le_refl _) (hbu _ hn.lo) (fun g hg => hbu g (hn.row g hg).1) rfl (fun _ _ => rfl)
 have adrO : ∀ k, S k → adr Ws2 k < B := fun k hk => by
  have hW : Ws2[k]? = Ws[k]? := by rw [e2 k (fun hu => hSU k hu hk), e1 k (fun e => hSc (e ▸ hk))]
  rw [adr_eq hW, ← hB]; exact (h.nds k hk).hi
 have rowO : ∀ k, S k → ∀ g, (kv (w4.setCell ⟨B, 4, none⟩ v4) (adr Ws2 k)).ownBlock = some g → g < B := fun k hk g hg => by
  rw [(oldN k hk).2] at hg
  rw [← hB]; exact ((h.nds k hk).row g hg).2
 have rowU : ∀ k, U k → ∀ g, (kv (w4.setCell ⟨B, 4, none⟩ v4) (adr Ws2 k)).ownBlock = some g → B + 1 ≤ g := fun k hk g hg => ((newN k hk).1.row g hg).1
 have rowC : ∀ g, v4.ownBlock = some g → B + 1 ≤ g := fun g hg => (h4.out.lt g hg).1
 have far : ∀ (x y : Option Nat) (m : Nat), (∀ g, x = some g → g < m) → (∀ g, y = some g → m ≤ g) → x = none ∨ x ≠ y := fun x y m hx hy => by
  cases x with
  | none => exact .inl rfl
  | some g => exact .inr fun e => by have h1 := hx g rfl; have h2 := hy g e.symm; omega
 have far' : ∀ (x y : Option Nat) (m : Nat), (∀ g, x = some g → m ≤ g) → (∀ g, y = some g → g < m) → x = none ∨ x ≠ y := fun x y m hx hy => by
  cases x with
  | none => exact .inl rfl
  | some g => exact .inr fun e => by have h1 := hx g rfl; have h2 := hy g e.symm; omega
 refine ⟨?_, ?_, ?_, ?_, ?_, ?_, ?_, ?_, ?_, ?_⟩
 ·exact grown_set (grown_trans (grown_trans h.grow hg3) h4.grow) _ _ (.inr (by show w1.heap.size ≤ B; omega))
 ·exact h4.wh.far _ _ (by show bw ≠ B; omega)
 ·rw [h4.wlen, hw1, List.length_set, h.wlen]
 ·intro k hk
  rw [e2 k (fun hu => hk (.inr (.inr hu))), e1 k (fun e => hk (.inr (.inl e))), h.wold k (fun hs => hk (.inl hs))]
 ·rintro k (hk | rfl | hk)
  ·exact (oldN k hk).1
  ·refine ⟨by rw [e2c, ac], ?_⟩
   refine ⟨by rw [ac]; exact hbB, ?_, hsz, ?_, ?_⟩
   ·show Box _ (adr Ws2 k) [_, _, _, _, kv _ (adr Ws2 k)] tb
    rw [ac, kc]; exact hx4
   ·show World.ownsRow _ base te 1 (kv _ (adr Ws2 k)) _ _
    rw [ac, kc]
    exact own_of_block (own_base h4.out (by omega)) (fun g hg => hbu g (rowC g hg))
   ·exact ⟨trivial, fun _ _ => trivial⟩
  ·exact ((newN k hk).1.step (by omega) rfl (fun _ _ => rfl) rfl (fun _ _ => rfl)).1
 ·rintro k k' hk hk' hne
  unfold Apart
  rcases hk with hk | rfl | hk <;> rcases hk' with hk' | rfl | hk'
  ·have hW : ∀ j, S j → Ws2[j]? = Ws[j]? := fun j hj => by rw [e2 j (fun hu => hSU j hu hj), e1 j (fun e => hSc (e ▸ hj))]
   rw [(oldN k hk).2, (oldN k' hk').2, adr_eq (hW k hk), adr_eq (hW k' hk')]
   exact h.sep k k' hk hk' hne
  ·exact ⟨by have := adrO k hk; rw [ac]; omega, by rw [ac, kc]; exact far _ _ B (rowO k hk) (fun g hg => by have := rowC g hg; omega)⟩
  ·exact ⟨by have := adrO k hk; have := (newN k' hk').1.lo; omega, far _ _ B (rowO k hk) (fun g hg => by have := rowU k' hk' g hg; omega)⟩
  ·exact ⟨by have := adrO k' hk'; rw [ac]; omega, by rw [ac, kc]; exact far' _ _ B (fun g hg => by have := rowC g hg; omega) (rowO k' hk')⟩
  ·exact absurd rfl hne
  ·refine ⟨by have := (newN k' hk').1.lo; rw [ac]; omega, ?_⟩
   rw [ac, kc, (newN k' hk').2]
   exact h4.osep k' hk'
  ·exact ⟨by have := adrO k' hk'; have := (newN k hk).1.lo; omega, far' _ _ B (fun g hg => by have := rowU k hk g hg; omega) (rowO k' hk')⟩
  ·refine ⟨by have := (newN k hk).1.lo; rw [ac]; omega, ?_⟩
   rw [ac, kc, (newN k hk).2]
   rcases h4.osep k hk with h0 | h0
   ·cases hx : (kv w4 (adr Ws2 k)).ownBlock with
    | none => exact .inl rfl
    | some g => rw [h0]; exact .inr (by simp)
   ·exact .inr (Ne.symm h0)
  ·rw [(newN k hk).2, (newN k' hk').2]
   exact h4.sep k k' hk hk' hne
 ·rintro k (hk | rfl | hk) j hj
  ·exact .inl (h.clo k hk j hj)
  ·exact .inr (.inr (h4.sub j hj))
  ·exact .inr (.inr (h4.clo k hk j hj))
 ·exact fun j hj => .inl (h.sub j hj)
 ·have em : (js.map fun j => ptrV (adr Ws2 j)) = js.map fun j => ptrV (adr Ws j) := List.map_congr_left fun j hj => by
   have hs := h.sub j hj
   rw [adr_eq (show Ws2[j]? = Ws[j]? by rw [e2 j (fun hu => hSU j hu hs), e1 j (fun e => hSc (e ▸ hs))])]
  rw [em]
  exact own_of_block h.out (fun g hg => hbs g (h.out.lt g hg).1 (by rw [← hB]; exact (h.out.lt g hg).2))
 ·have vo : ∀ g, v.ownBlock = some g → g < B := fun g hg => by rw [← hB]; exact (h.out.lt g hg).2
  rintro k (hk | rfl | hk)
  ·rw [(oldN k hk).2]; exact h.osep k hk
  ·rw [ac, kc]; exact far _ _ B vo (fun g hg => by have := rowC g hg; omega)
  ·exact far _ _ B vo (fun g hg => by have := rowU k hk g hg; omega)
/-- the node is appended. -/
theorem TS.app {base : Nat} {w1 w w' : World} {ns : List NodeZ} {ord : Int → List Nat} {bw : Nat} {Ws0 Ws : List Value} {S : Nat → Prop} {v : Value} {js : List Nat} {c g cap : Nat} {o : Obj}
  (h : TS tb te base w1 w ns ord bw Ws0 Ws S v js) (hne : te ≠ tb) (hb1 : w1.heap.size ≤ base) (hbw : bw < base) (hc : S c) (hg : (w.alloc o).grownBy w' v.ownBlock) (hat : v.ownBlock = some g ∨ w.heap.size ≤ g)
  (hown : w'.ownsRow base te 1 (.slice (some ⟨g, 0, none⟩) (js.length + 1) cap) (js.length + 1) ((js.map fun j => ptrV (adr Ws j)) ++ [ptrV (adr Ws c)])) :
  TS tb te base w1 w' ns ord bw Ws0 Ws S (.slice (some ⟨g, 0, none⟩) (js.length + 1) cap) (js ++ [c]) := by
 have hs := hg.size
 have hsa : (w.alloc o).heap.size = w.heap.size + 1 := by simp
 have hk : ∀ k, k < w.heap.size → some k ≠ v.ownBlock → w'.heap[k]? = w.heap[k]? := fun k h1 h2 => (hg.block k (by omega) h2).trans (Below.heap_alloc w o k h1)
 have hA : ∀ k, S k → some (adr Ws k) ≠ v.ownBlock := fun k hk e => by
  have hb := (h.nds k hk).nd.box
  rcases h.out.2 with ⟨h0, _⟩ | ⟨q, cc, cur, h0, _, hq, _⟩
  ·rw [h0] at e; cases e
  ·rw [h0] at e
   simp only [Value.ownBlock, Option.some.injEq] at e
   subst e
   have hb2 : w.heap[adr Ws k]? = some (.cells _ tb (0, 0)) := hb
   rw [hq] at hb2
   simp only [Option.some.injEq, Obj.cells.injEq] at hb2
   exact hne hb2.2.1
 have st : ∀ k, S k → Nd tb te base w' ns ord Ws k ∧ kv w' (adr Ws k) = kv w (adr Ws k) := fun k hks =>
  (h.nds k hks).step (Nat.le_refl _) (hk _ (h.nds k hks).hi (hA k hks)) (fun q hq => hk q ((h.nds k hks).row q hq).2 (fun e => by
   rcases h.osep k hks with h0 | h0
   ·rw [h0] at e; cases e
   ·exact h0 (by rw [← e, hq]))) rfl (fun _ _ => rfl)
 refine ⟨?_, ?_, h.wlen, h.wold, fun k hk => (st k hk).1, ?_, h.clo, ?_, ?_, ?_⟩
 ·refine ⟨hg.os.trans h.grow.os, hg.tape.trans h.grow.tape, hg.output.trans h.grow.output, by have := h.grow.size; omega, fun k h1 h2 => ?_⟩
  rw [hk k (by have := h.grow.size; omega) (fun e => by have := (h.out.lt k e.symm).1; omega)]
  exact h.grow.block k h1 h2
 ·exact (hk bw h.wh.lt (fun e => by have := (h.out.lt bw e.symm).1; omega)).trans h.wh
 ·intro k k' h1 h2 hn
  unfold Apart
  rw [(st k h1).2, (st k' h2).2]
  exact h.sep k k' h1 h2 hn
 ·intro j hj
  rcases List.mem_append.1 hj with hj | hj
  ·exact h.sub j hj
  ·rw [List.mem_singleton.1 hj]; exact hc
 ·rw [List.length_append, List.map_append]; exact hown
 ·intro k hks
  right
  rw [(st k hks).2]
  intro e
  have e' : (kv w (adr Ws k)).ownBlock = some g := e.symm
  have hr := (h.nds k hks).row g e'
  rcases hat with h0 | h0
  ·rcases h.osep k hks with h2 | h2
   ·rw [h2] at h0; cases h0
   ·exact h2 (by rw [h0, e'])
  ·omega
/-- seen from the world ahead. -/
theorem TS.back {base base' : Nat} {w0 w1 w : World} {ns : List NodeZ} {ord : Int → List Nat} {bw : Nat} {Ws0 Ws : List Value} {S : Nat → Prop} {v : Value} {js : List Nat} (h : TS tb te base w1 w ns ord bw Ws0 Ws S v js) (hb : base' ≤ base) (hg : w0.grownBy w1 (some bw)) : TS tb te base' w0 w ns ord bw Ws0 Ws S v js :=
 ⟨grown_trans hg h.grow, h.wh, h.wlen, h.wold, fun k hk => ((h.nds k hk).step hb rfl (fun _ _ => rfl) rfl (fun _ _ => rfl)).1, h.sep, h.clo, h.sub, own_base h.out hb, h.osep⟩
end Go.Proofs.YtnieifdogllbfaaGreat
namespace Go.Proofs.YtnieifdogllbfaaGreat
open Go.ChangeShapes Go.WideShapes Go.ChangeAt Go.RowKit
set_option linter.unusedVariables false
def kidsK (ns : List NodeZ) (p : Int) (k : Nat) : List Nat := (List.range k).filter fun j => (ndAt ns j).parent == p
theorem kidsK_step (ns : List NodeZ) (p : Int) (k : Nat) : kidsK ns p (k + 1) = if (ndAt ns k).parent = p then kidsK ns p k ++ [k] else kidsK ns p k := by
 unfold kidsK
 rw [List.range_succ, List.filter_append, List.filter_cons, List.filter_nil]
 by_cases h : (ndAt ns k).parent = p
 ·rw [if_pos (by simpa using h), if_pos h]
 ·rw [if_neg (by simpa using h), if_neg h, List.append_nil]
theorem kidsK_len (ns : List NodeZ) (p : Int) (k : Nat) : (kidsK ns p k).length ≤ k := by
 unfold kidsK
 exact Nat.le_trans (List.length_filter_le _ _) (by simp)
def nums (l : List Nat) : List Int := l.map fun (k : Nat) => (k : Int)
theorem nums_snoc (l : List Nat) (k : Nat) : ints (nums l) ++ [.int .i64 (k : Int)] = ints (nums (l ++ [k])) := by rw [nums, nums, List.map_append]; exact ints_append _ _
set_option maxRecDepth 100000 in
set_option maxHeartbeats 4000000 in
theorem Kids_any (X : RecZ) (vt vn : Value) (p : Int) (w : World) (h : RdX w X vt vn) (hm : X.nodes.length ≤ 1000) :
  Calls Tryz.prog 38 #[recV X vt vn, .int .i64 p] w fun e w' => ∃ v', e = .returned v' ∧ w'.ownsRow w.heap.size 3 1 v' (kidsZ X.nodes p).length (ints (nums (kidsZ X.nodes p))) ∧ Below w.heap.size w w' := by
 obtain ⟨na, nc, rfl, h1, h2⟩ := h.2.1.form
 unfold maxLen at h2
 have HR := Lib.hid h.2.1
 have HKZ : Hid (kidsZ X.nodes p = kidsK X.nodes p X.nodes.length) := Lib.hid rfl
 clear h
 unfold recV
 go_enter Tryz.func38, Tryz.ntmps38
 go_upto_region 1 with (fail)
 have hb0 := (Box.new' w w.heap.size [vt, .string X.comment, .slice na X.nodes.length nc, .int .i64 X.result] 30 rfl)
 have HB : Hid (Below w.heap.size w (w.alloc (.cells #[vt, .string X.comment, .slice na X.nodes.length nc, .int .i64 X.result] 30))) := Lib.hid ((Below.refl w.heap.size w).alloc (Nat.le_refl _) _)
 obtain ⟨bb, hbb⟩ : ∃ bb, bb = w.heap.size := ⟨_, rfl⟩
 rw [← hbb] at HB hb0 ⊢
 generalize (w.alloc (.cells #[vt, .string X.comment, .slice na X.nodes.length nc, .int .i64 X.result] 30)) = w0 at *
 have HX := Lib.hid hb0
 have q2 := hb0.cell 2 rfl
 have hw0 := hb0.lt
 have hbb1 : w.heap.size ≤ bb := by omega
 have HNil : Hid (w0.ownsRow (bb + 1) 3 1 (.slice none 0 0) (kidsK X.nodes p 0).length (ints (nums (kidsK X.nodes p 0)))) := Lib.hid (World.ownsRow_nil _ _ _ _)
 clear hb0 hbb
 go_wp2_with fail
 go_loopw [11, 5] (fun v11 v5 wr => ∃ (k : Nat) (o5 : Value), o5 = v5 ∧ v11 = .int .i64 k ∧ k ≤ X.nodes.length ∧ Hid (wr.ownsRow (bb + 1) 3 1 o5 (kidsK X.nodes p k).length (ints (nums (kidsK X.nodes p k)))) ∧ Hid (Below bb w wr) ∧ Hid (Box wr bb [vt, .string X.comment, .slice na X.nodes.length nc, .int .i64 X.result] 30)) (fun v _ _ => X.nodes.length - (intOf v).toNat)
 case atStart => exact ⟨0, _, rfl, rfl, Nat.zero_le _, HNil, HB, HX⟩
 case round =>
  obtain ⟨k, o5, rfl, rfl, hk, HO, HBr, HXr⟩ := hrel
  have hsr := HXr.out.lt
  by_cases hlt : (k : Int) < (X.nodes.length : Int)
  ·obtain ⟨g, o, rfl, hg, hc⟩ := nodes_some HR.out (by omega)
   obtain ⟨e0, e1, e2, e3, e4, -⟩ := hc k (by omega)
   have hgb : g < bb := by omega
   have c0 := (HBr.out.cell (p := ⟨g, o + k * 5, none⟩) hgb).trans e0
   have c1 := (HBr.out.cell (p := ⟨g, o + k * 5 + 1, none⟩) hgb).trans e1
   have c2 := (HBr.out.cell (p := ⟨g, o + k * 5 + 2, none⟩) hgb).trans e2
   have c3 := (HBr.out.cell (p := ⟨g, o + k * 5 + 3, none⟩) hgb).trans e3
   have c4 := (HBr.out.cell (p := ⟨g, o + k * 5 + 4, none⟩) hgb).trans e4
   have HS := Lib.hid (kidsK_step X.nodes p k)
   have hL := kidsK_len X.nodes p k
   clear hc e0 e1 e2 e3 e4
   generalize (ndAt X.nodes k).parent = q at *
   obtain ⟨oa, oc, rfl⟩ := own_form2 HO.out
   have hgw : g < wr.heap.size := by omega
   go_upto_region 5 with (fail)
   have HNd := Lib.hid (Box.new wr [.int .i64 q, .int .i64 (ndAt X.nodes k).m.src, .int .i64 (ndAt X.nodes k).m.dst, .int .i64 (ndAt X.nodes k).m.piece, .string (ndAt X.nodes k).comment] 70)
   have HBa := Lib.hid (HBr.out.alloc (by omega) (.cells #[.int .i64 q, .int .i64 (ndAt X.nodes k).m.src, .int .i64 (ndAt X.nodes k).m.dst, .int .i64 (ndAt X.nodes k).m.piece, .string (ndAt X.nodes k).comment] 70))
   have HXa := Lib.hid (HXr.out.alloc (.cells #[.int .i64 q, .int .i64 (ndAt X.nodes k).m.src, .int .i64 (ndAt X.nodes k).m.dst, .int .i64 (ndAt X.nodes k).m.piece, .string (ndAt X.nodes k).comment] 70))
   have HOa := Lib.hid (HO.out.alloc (.cells #[.int .i64 q, .int .i64 (ndAt X.nodes k).m.src, .int .i64 (ndAt X.nodes k).m.dst, .int .i64 (ndAt X.nodes k).m.piece, .string (ndAt X.nodes k).comment] 70))
   generalize (wr.alloc (.cells #[.int .i64 q, .int .i64 (ndAt X.nodes k).m.src, .int .i64 (ndAt X.nodes k).m.dst, .int .i64 (ndAt X.nodes k).m.piece, .string (ndAt X.nodes k).comment] 70)) = wa at *
   have n0 := HNd.out.cell 0 rfl
   have hnl := HNd.out.lt
   clear HBr HXr HO c0 c1 c2 c3 c4
   by_cases hq : q = p
   ·subst hq
    have HS2 : Hid (kidsK X.nodes q (k + 1) = kidsK X.nodes q k ++ [k]) := Lib.hid (HS.out.trans (if_pos rfl))
    clear HS
    have hrs : bb + 1 ≤ wa.heap.size := by omega
    go_wp2_with (at_builtin; refine app_new 23 3 (.int .i64 0) 1 8 info3 Tryz.underlying23 rfl (by decide) (by rfl) _ _ (by rfl) (bb + 1) _ (kidsK X.nodes q k).length (ints (nums (kidsK X.nodes q k))) [.int .i64 (k : Int)] wa HOa.out hrs rfl one_int (by omega) (by omega) (by rfl) (by rfl) ?_)
    intro g3 cap3 w3 hown3 hkeep3 hgr3
    have HB3 := Lib.hid (hkeep3.below HBa.out (by omega))
    have HX3 := Lib.hid ((HXa.out.alloc (.cells #[.int .i64 (k : Int)] 3)).grown hgr3 (fun e => by have := (HOa.out.lt bb e.symm).1; omega))
    have HO3 : Hid (w3.ownsRow (bb + 1) 3 1 (.slice (some ⟨g3, 0, none⟩) ((kidsK X.nodes q k).length + 1) cap3) (kidsK X.nodes q (k + 1)).length (ints (nums (kidsK X.nodes q (k + 1))))) := Lib.hid (by
     rw [HS2.out, ← nums_snoc, List.length_append]
     exact hown3)
    clear hown3 hkeep3 hgr3
    go_wp2_with fail
    go_roundw
    case rel => exact ⟨k + 1, _, rfl, by go_num, by omega, HO3, HB3, HX3⟩
    case measure => simp [intOf]; omega
   ·have HS2 : Hid (kidsK X.nodes p (k + 1) = kidsK X.nodes p k) := Lib.hid (HS.out.trans (if_neg hq))
    have HO3 : Hid (wa.ownsRow (bb + 1) 3 1 (.slice oa (kidsK X.nodes p k).length oc) (kidsK X.nodes p (k + 1)).length (ints (nums (kidsK X.nodes p (k + 1))))) := Lib.hid (by rw [HS2.out]; exact HOa.out)
    clear HS HOa HS2
    go_wp2_with fail
    go_roundw
    case rel => exact ⟨k + 1, _, rfl, by go_num, by omega, HO3, HBa, HXa⟩
    case measure => simp [intOf]; omega
  ·obtain rfl : k = X.nodes.length := by omega
   go_wp2_with fail
   go_ret
   exact ⟨_, rfl, by rw [HKZ.out]; exact own_base HO.out (by omega), HBr.out.mono hbb1⟩
end Go.Proofs.YtnieifdogllbfaaGreat

/- Maps that a call makes, of plain elements, read as functions of the key's value. -/
import Derived.Maps.Own
import Derived.Maps.OwnOps
import Derived.Maps.Views
import Derived.DeepKeys5
import Derived.Carry
import Derived.WideKeyEntry
namespace Go.Proofs.Ytkngpbnildhdpaa
open Go.Maps

open Classical in
/-- a function changed at one place. -/
noncomputable def upd {α : Type} (f : Value → α) (key : Value) (v : α) : Value → α := fun x => if x = key then v else f x
theorem upd_same {α : Type} (f : Value → α) (key : Value) (v : α) : upd f key v key = v := by simp [upd]
theorem upd_other {α : Type} (f : Value → α) {key x : Value} (v : α) (h : x ≠ key) : upd f key v x = f x := by simp [upd, h]

section
variable {P : Program} {k e t : TypeId} {w : World} {b n : Nat}

theorem own_isMap {H : Type} {R : Value → Option (DataW H × List MemPlace)} {D : DataW H} (h : w.ownsMap P k R b n D) : IsMap D := by
  obtain ⟨es, clock, _, _, _, rfl⟩ := h
  exact ⟨_, rfl⟩

/-- block b is a map whose elements are integers: what it reads as at a key. -/
def mapInts (w : World) (P : Program) (k e : TypeId) (b n : Nat) (f : Value → Int) : Prop :=
  ∃ D : DataW Unit, w.ownsMap P k (plainElem P e) b n D ∧ ∀ key kl, keyOf P k key = some kl → D.atKey kl (.lit (.int .i64 0)) = .lit (.int .i64 (f key))
/-- .. whose elements are bools. -/
def mapBools (w : World) (P : Program) (k e : TypeId) (b n : Nat) (f : Value → Bool) : Prop :=
  ∃ D : DataW Unit, w.ownsMap P k (plainElem P e) b n D ∧ ∀ key kl, keyOf P k key = some kl → D.atKey kl (.lit (.bool false)) = .lit (.bool (f key))

theorem mapInts_made (w : World) (P : Program) (k e : TypeId) : mapInts (w.alloc (.map #[] 0)) P k e w.heap.size 0 (fun _ => 0) :=
  ⟨.map [], World.ownsMap_made w P k _, fun _ _ _ => rfl⟩
theorem mapBools_made (w : World) (P : Program) (k e : TypeId) : mapBools (w.alloc (.map #[] 0)) P k e w.heap.size 0 (fun _ => false) :=
  ⟨.map [], World.ownsMap_made w P k _, fun _ _ _ => rfl⟩

theorem mapInts.lt {f : Value → Int} (h : mapInts w P k e b n f) : b < w.heap.size := by obtain ⟨D, h, _⟩ := h; exact h.lt
theorem mapBools.lt {f : Value → Bool} (h : mapBools w P k e b n f) : b < w.heap.size := by obtain ⟨D, h, _⟩ := h; exact h.lt
theorem mapInts.kept {f : Value → Int} {w' : World} {row : Option Nat} (h : mapInts w P k e b n f) (hg : w.grownBy w' row) (hne : some b ≠ row) : mapInts w' P k e b n f := by
  obtain ⟨D, h, ha⟩ := h; exact ⟨D, h.kept hg hne, ha⟩
theorem mapBools.kept {f : Value → Bool} {w' : World} {row : Option Nat} (h : mapBools w P k e b n f) (hg : w.grownBy w' row) (hne : some b ≠ row) : mapBools w' P k e b n f := by
  obtain ⟨D, h, ha⟩ := h; exact ⟨D, h.kept hg hne, ha⟩
theorem mapInts.alloc {f : Value → Int} (h : mapInts w P k e b n f) (o : Obj) : mapInts (w.alloc o) P k e b n f := by obtain ⟨D, h, ha⟩ := h; exact ⟨D, h.alloc o, ha⟩
theorem mapBools.alloc {f : Value → Bool} (h : mapBools w P k e b n f) (o : Obj) : mapBools (w.alloc o) P k e b n f := by obtain ⟨D, h, ha⟩ := h; exact ⟨D, h.alloc o, ha⟩
theorem mapInts.mono {f : Value → Int} (h : mapInts w P k e b n f) {m : Nat} (hm : n ≤ m) : mapInts w P k e b m f := by obtain ⟨D, h, ha⟩ := h; exact ⟨D, h.mono hm, ha⟩
theorem mapBools.mono {f : Value → Bool} (h : mapBools w P k e b n f) {m : Nat} (hm : n ≤ m) : mapBools w P k e b m f := by obtain ⟨D, h, ha⟩ := h; exact ⟨D, h.mono hm, ha⟩
theorem mapInts.congr {f g : Value → Int} (h : mapInts w P k e b n f) (hfg : ∀ x, f x = g x) : mapInts w P k e b n g := by obtain rfl : f = g := funext hfg; exact h
theorem mapBools.congr {f g : Value → Bool} (h : mapBools w P k e b n f) (hfg : ∀ x, f x = g x) : mapBools w P k e b n g := by obtain rfl : f = g := funext hfg; exact h

theorem plainElem_bool_inv {H : Type} (he : P.underlying e = some .bool) {v : Value} {z : DataW H × List MemPlace} (h : plainElem P e v = some z) : ∃ a, v = .bool a ∧ z = (.lit (.bool a), []) := by
  unfold plainElem at h
  rw [he] at h
  cases v <;> simp at h
  subst h
  exact ⟨_, rfl, rfl⟩

/-- 'm[k]' of an integer element. -/
theorem mapInts.look {f : Value → Int} (h : mapInts w P k e b n f) (K : Keyed P k) (ht : P.underlying t = some (.map k e)) (he : P.underlying e = some (.int .i64)) (hz : (zeroValue e).run P w = .ok (.int .i64 0) w)
    {key : Value} (hkey : ∃ kl, keyOf P k key = some kl) : (Instr.lookup t (.map (some b)) key false).run P w = .ok (.int .i64 (f key)) w ∧ (Lit.int .i64 (f key)).wf = true := by
  obtain ⟨D, h, ha⟩ := h
  obtain ⟨kl, hkey⟩ := hkey
  obtain ⟨c, hrun, hat, hwc⟩ := h.lookup_int K ht he hz hkey
  have := ha key kl hkey
  rw [hat] at this
  simp only [DataW.lit.injEq, Lit.int.injEq, true_and] at this
  subst this
  exact ⟨hrun, hwc⟩
theorem mapBools.look {f : Value → Bool} (h : mapBools w P k e b n f) (K : Keyed P k) (ht : P.underlying t = some (.map k e)) (he : P.underlying e = some .bool) (hz : (zeroValue e).run P w = .ok (.bool false) w)
    {key : Value} (hkey : ∃ kl, keyOf P k key = some kl) : (Instr.lookup t (.map (some b)) key false).run P w = .ok (.bool (f key)) w := by
  obtain ⟨D, h, ha⟩ := h
  obtain ⟨kl, hkey⟩ := hkey
  obtain ⟨v, ps, hrun, hv⟩ := h.lookup K ht hz (plainElem_bool he false) hkey
  obtain ⟨c, rfl, hc⟩ := plainElem_bool_inv he hv
  simp only [Prod.mk.injEq] at hc
  have := ha key kl hkey
  rw [hc.1] at this
  simp only [DataW.lit.injEq, Lit.bool.injEq] at this
  subst this
  exact hrun

/-- 'm[k] = v'. -/
theorem mapInts.store {f : Value → Int} (h : mapInts w P k e b n f) (K : Keyed P k) (ht : P.underlying t = some (.map k e)) (he : P.underlying e = some (.int .i64)) (hn : n < maxLen)
    {key : Value} (hkey : ∃ kl, keyOf P k key = some kl) {v : Int} (hv : (Lit.int .i64 v).wf = true) :
    ∃ w', (Instr.mapUpdate t (.map (some b)) key (.int .i64 v)).run P w = .ok () w' ∧ mapInts w' P k e b (n + 1) (upd f key v) ∧ w.grownBy w' (some b) := by
  obtain ⟨D, h, ha⟩ := h
  obtain ⟨kl, hkey⟩ := hkey
  obtain ⟨w', hrun, hown, hg⟩ := h.update K ht hn hkey (plainElem_int he hv)
  refine ⟨w', hrun, ⟨_, hown, fun key' kl' hk' => ?_⟩, hg⟩
  by_cases hx : key' = key
  · subst hx
    rw [hkey] at hk'
    cases hk'
    rw [upd_same, atKey_put_same (own_isMap h) (K.key hkey)]
  · have hl : kl' ≠ kl := fun hl => hx (K.inj (hl ▸ hk') hkey)
    rw [upd_other f _ hx, atKey_put_other hl]
    exact ha _ _ hk'
theorem mapBools.store {f : Value → Bool} (h : mapBools w P k e b n f) (K : Keyed P k) (ht : P.underlying t = some (.map k e)) (he : P.underlying e = some .bool) (hn : n < maxLen)
    {key : Value} (hkey : ∃ kl, keyOf P k key = some kl) (v : Bool) :
    ∃ w', (Instr.mapUpdate t (.map (some b)) key (.bool v)).run P w = .ok () w' ∧ mapBools w' P k e b (n + 1) (upd f key v) ∧ w.grownBy w' (some b) := by
  obtain ⟨D, h, ha⟩ := h
  obtain ⟨kl, hkey⟩ := hkey
  obtain ⟨w', hrun, hown, hg⟩ := h.update K ht hn hkey (plainElem_bool he v)
  refine ⟨w', hrun, ⟨_, hown, fun key' kl' hk' => ?_⟩, hg⟩
  by_cases hx : key' = key
  · subst hx
    rw [hkey] at hk'
    cases hk'
    rw [upd_same, atKey_put_same (own_isMap h) (K.key hkey)]
  · have hl : kl' ≠ kl := fun hl => hx (K.inj (hl ▸ hk') hkey)
    rw [upd_other f _ hx, atKey_put_other hl]
    exact ha _ _ hk'
open Go.MapKept Go.WideElems Go.ChangeMaps in
/-- 'm[k] op= v': the entry is found, or made; then it is stored into. -/
theorem mapInts.entry {f : Value → Int} (h : mapInts w P k e b n f) (K : Keyed P k) (ht : P.underlying t = some (.map k e)) (he : P.underlying e = some (.int .i64)) (hz : ∀ u : World, (zeroValue e).run P u = .ok (.int .i64 0) u) (hn : n < maxLen)
    {key : Value} (hkey : ∃ kl, keyOf P k key = some kl) :
    ∃ (st : Nat) (w1 : World), (Instr.mapEntry t (.map (some b)) key).run P w = .ok (.tuple #[.int .i64 (f key), goInt st]) w1 ∧ mapInts w1 P k e b (n + 1) f ∧ w.grownBy w1 (some b) ∧
      ∀ v : Int, (Lit.int .i64 v).wf = true → ∃ w2, (Instr.entryStore t (.map (some b)) (goInt st) (.int .i64 v)).run P w1 = .ok () w2 ∧ mapInts w2 P k e b (n + 1) (upd f key v) ∧ w.grownBy w2 (some b) := by
  have hlook := (h.look K ht he (hz w) hkey).1
  have hst := fun (v : Int) (hv : (Lit.int .i64 v).wf = true) => h.store K ht he hn hkey hv
  obtain ⟨D, ⟨es, clock, hb, F, hs, hD⟩, ha⟩ := id h
  obtain ⟨kl, hkl⟩ := hkey
  have hgr : ∀ o : Obj, w.grownBy { w with heap := w.heap.setIfInBounds b o } (some b) := fun o => ⟨rfl, rfl, rfl, by simp, fun i _ hi => by
    have hne : b ≠ i := fun hh => hi (by rw [hh])
    simp [hne]⟩
  have hbs : b < w.heap.size := (Array.getElem?_eq_some_iff.1 hb).1
  have hset : ∀ o : Obj, ({ w with heap := w.heap.setIfInBounds b o } : World).heap[b]? = some o := fun o => by simp [hbs]
  obtain ⟨s1, s2, _⟩ := F.stamped
  rcases K.find w hkl es.toList F.keys with ⟨h1, h2⟩ | ⟨j, e0, h1, h2, h3⟩
  · have hupd : ∀ v : Value, (Instr.mapUpdate t (.map (some b)) key v).run P w = .ok () { w with heap := w.heap.setIfInBounds b (.map (es.push ⟨key, v, clock⟩) (clock + 1)) } := fun v => by
      simp [Instr.mapUpdate, run_underlying ht, MapKept.run_getObj_map hb, K.check w false hkl, h1, MapKept.run_setObj_map _ hb, Result.andThen]
    have h0 : f key = 0 := by
      have : (Instr.lookup t (.map (some b)) key false).run P w = .ok (.int .i64 0) w := by
        simp [Instr.lookup, run_underlying ht, MapKept.run_getObj_map hb, K.check w _ hkl, h1, hz, Result.andThen]
      rw [hlook] at this
      simpa using this
    have hfin : ∀ v : Int, (Lit.int .i64 v).wf = true → mapInts { w with heap := w.heap.setIfInBounds b (.map (es.push ⟨key, .int .i64 v, clock⟩) (clock + 1)) } P k e b (n + 1) (upd f key v) := fun v hv => by
      obtain ⟨w', hr, hm, _⟩ := hst v hv
      rw [hupd] at hr
      cases hr
      exact hm
    refine ⟨clock, { w with heap := w.heap.setIfInBounds b (.map (es.push ⟨key, .int .i64 0, clock⟩) (clock + 1)) }, ?_, ?_, hgr _, fun v hv => ⟨_, ?_, hfin v hv, hgr _⟩⟩
    · rw [h0]
      simp [Instr.mapEntry, run_underlying ht, MapKept.run_getObj_map hb, K.check w false hkl, h1, hz, MapKept.run_setObj_map _ hb, Result.andThen]
    · refine (hfin 0 (by decide)).congr fun x => ?_
      by_cases hx : x = key
      · rw [hx, upd_same, h0]
      · rw [upd_other f _ hx]
    · have hidx : (es.push ⟨key, .int .i64 0, clock⟩).findIdx? (fun e => ((e.born : Nat) : Int) == ((clock : Nat) : Int)) = some es.size := by
        rw [findIdx_arr]
        have := findIdx_born (l := (es.push ⟨key, .int .i64 0, clock⟩).toList) (j := es.size) (e0 := ⟨key, .int .i64 0, clock⟩) (by
          simp only [Array.toList_push, List.map_append, List.map_cons, List.map_nil]
          refine List.nodup_append.2 ⟨s2, by simp, fun a ha c hc e1 => ?_⟩
          simp only [List.mem_singleton] at hc
          obtain ⟨x, hx, rfl⟩ := List.mem_map.1 ha
          have := s1 x hx
          omega) (by simp)
        exact this
      have hmod : (es.push ⟨key, .int .i64 0, clock⟩).modify es.size (fun e => { e with val := .int .i64 v }) = es.push ⟨key, .int .i64 v, clock⟩ := by
        apply Array.ext'
        rw [Array.toList_modify, Array.toList_push, Array.toList_push, ← Array.length_toList, modify_last]
      simp [Instr.entryStore, MapKept.run_getObj_map (hset _), asInt, asIntOf, goInt, hidx, hmod, MapKept.run_setObj_map _ (hset _), Result.andThen]
  · have hj : es[j]? = some e0 := by simpa using h2
    have hval : e0.val = .int .i64 (f key) := by
      have : (Instr.lookup t (.map (some b)) key false).run P w = .ok e0.val w := by
        simp [Instr.lookup, run_underlying ht, MapKept.run_getObj_map hb, K.check w _ hkl, h1, Result.andThen]
      rw [hlook] at this
      simpa using this.symm
    have hsame : es.modify j (fun e => { e with key := key }) = es := by
      apply Array.ext'
      rw [Array.toList_modify, modify_eq_set _ _ _ _ h2]
      have : ({ e0 with key := key } : MapEntry) = e0 := by rw [← h3]
      rw [this]
      exact set_self _ _ _ h2
    have hfin : ∀ v : Int, (Lit.int .i64 v).wf = true → mapInts { w with heap := w.heap.setIfInBounds b (.map (es.modify j (fun e' => { e' with key := key, val := .int .i64 v })) clock) } P k e b (n + 1) (upd f key v) := fun v hv => by
      obtain ⟨w', hr, hm, _⟩ := hst v hv
      have : (Instr.mapUpdate t (.map (some b)) key (.int .i64 v)).run P w = .ok () { w with heap := w.heap.setIfInBounds b (.map (es.modify j (fun e' => { e' with key := key, val := .int .i64 v })) clock) } := by
        simp [Instr.mapUpdate, run_underlying ht, MapKept.run_getObj_map hb, K.check w false hkl, h1, hj, h3, K.stays w hkl, MapKept.run_setObj_map _ hb, Result.andThen]
      rw [this] at hr
      cases hr
      exact hm
    refine ⟨e0.born, { w with heap := w.heap.setIfInBounds b (.map es clock) }, ?_, ⟨D, ⟨es, clock, hset _, F, by omega, hD⟩, ha⟩, hgr _, fun v hv => ⟨_, ?_, hfin v hv, hgr _⟩⟩
    · simp [Instr.mapEntry, run_underlying ht, MapKept.run_getObj_map hb, K.check w false hkl, h1, hj, h3, K.stays w hkl, hsame, MapKept.run_setObj_map _ hb, Result.andThen, hval]
    · have hidx : es.findIdx? (fun e => ((e.born : Nat) : Int) == ((e0.born : Nat) : Int)) = some j := by
        rw [findIdx_arr]
        exact findIdx_born s2 h2
      have hmod : es.modify j (fun e => { e with val := .int .i64 v }) = es.modify j (fun e' => { e' with key := key, val := .int .i64 v }) := by
        apply Array.ext'
        rw [Array.toList_modify, Array.toList_modify, modify_eq_set _ _ _ _ h2, modify_eq_set _ _ _ _ h2, ← h3]
      simp [Instr.entryStore, MapKept.run_getObj_map (hset _), asInt, asIntOf, goInt, hidx, hmod, MapKept.run_setObj_map _ (hset _), Result.andThen]
end

/-- .. at the operation. -/
theorem wpList_mapUpdate_ints {P : Program} (w : World) {ops : Array Oper} {rest : List Oper} {o : Oper} {a : Act} {Q : Exit → Act → World → Prop}
    (hg : o.guard = none) (m x v : Operand) (t : TypeId) (hop : o.op = Op.mapUpdate t m x v)
    (k e : TypeId) (K : Keyed P k) (ht : P.underlying t = some (.map k e)) (he : P.underlying e = some (.int .i64)) (b n : Nat) (f : Value → Int)
    (hm : a.eval m = .map (some b)) (hown : mapInts w P k e b n f) (hn : n < maxLen) (key : Value) (val : Int) (hx : a.eval x = key) (hv : a.eval v = .int .i64 val) (hkey : ∃ kl, keyOf P k key = some kl) (hwf : (Lit.int .i64 val).wf = true)
    (hK : ∀ w', mapInts w' P k e b (n + 1) (upd f key val) → w.grownBy w' (some b) → wpList P ops Q rest (a.put o.dst undef) w') :
    wpList P ops Q (o :: rest) a w := by
  refine wpList_plain hg fun K' hK' => ?_
  obtain ⟨w', hrun, r1, r2⟩ := hown.store K ht he hn hkey hwf
  unfold Oper.wp
  simp [execOp, hop, hm, hx, hv, hrun, Result.andThen]
  exact hK' _ _ (hK w' r1 r2)
theorem wpList_mapUpdate_bools {P : Program} (w : World) {ops : Array Oper} {rest : List Oper} {o : Oper} {a : Act} {Q : Exit → Act → World → Prop}
    (hg : o.guard = none) (m x v : Operand) (t : TypeId) (hop : o.op = Op.mapUpdate t m x v)
    (k e : TypeId) (K : Keyed P k) (ht : P.underlying t = some (.map k e)) (he : P.underlying e = some .bool) (b n : Nat) (f : Value → Bool)
    (hm : a.eval m = .map (some b)) (hown : mapBools w P k e b n f) (hn : n < maxLen) (key : Value) (val : Bool) (hx : a.eval x = key) (hv : a.eval v = .bool val) (hkey : ∃ kl, keyOf P k key = some kl)
    (hK : ∀ w', mapBools w' P k e b (n + 1) (upd f key val) → w.grownBy w' (some b) → wpList P ops Q rest (a.put o.dst undef) w') :
    wpList P ops Q (o :: rest) a w := by
  refine wpList_plain hg fun K' hK' => ?_
  obtain ⟨w', hrun, r1, r2⟩ := hown.store K ht he hn hkey val
  unfold Oper.wp
  simp [execOp, hop, hm, hx, hv, hrun, Result.andThen]
  exact hK' _ _ (hK w' r1 r2)
end Go.Proofs.Ytkngpbnildhdpaa

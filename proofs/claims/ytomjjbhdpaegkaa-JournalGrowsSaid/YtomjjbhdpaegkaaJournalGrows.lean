/- JournalGrows: a journal with a further entry begins with the journal, and with no other entry. For every input, no condition. -/
import Derived.Test.YtomjjbhdpaegkaaJouBase
namespace Go.Proofs.Ytomjjbhdpaegkaa.journalGrows
open Go.ChangeShapes Go.WideShapes Go.ChangeAt Go.RowKit
set_option linter.unusedVariables false

set_option maxHeartbeats 1000000 in
theorem walk (v : Value) (a b : ByteArray) (ss : List ByteArray) (w : World) (h : RdS w v ss) (hsz : ∀ s ∈ ss, s.size ≤ maxLen) (ha : a.size ≤ maxLen) (hb : b.size ≤ maxLen) :
    Calls Try.prog 3 #[v, .string a, .string b] w fun e w' => e = .returned (.bool true) ∧ Below w.heap.size w w' := by
  have HS := Lib.hid h
  have HZ := Lib.hid hsz
  unfold maxLen at ha hb
  clear h hsz
  go_enter Try.func3, Try.ntmps3
  go_wp2_with fail
  refine (journals_any _).mono ?_
  rintro e w0 ⟨rfl, hb0⟩
  go_wp2_with fail
  refine (written_any v ss _ (Rd.below HS.out hb0 (Nat.le_refl _)) HZ.out).mono ?_
  rintro e w1 ⟨vl, es, rfl, hok, hel, ho1, hb1⟩
  have hb01 := hb0.trans (hb1.mono hb0.size)
  have HO1 := Lib.hid ho1
  have HK := Lib.hid hok
  clear hb0 hb1 ho1 hok HS HZ
  go_wp2_with fail
  refine (Append_ok vl es a _ (RdJ.of_own HO1.out) HK.out (by omega) ha).mono ?_
  rintro e w2 ⟨vx, rfl, ho2, hb2⟩
  have HO12 := Lib.hid (own_staysJ HO1.out hb2)
  have HX2 := Lib.hid ho2
  have hb02 := hb01.trans (hb2.mono hb01.size)
  clear ho2 hb2 hb01 HO1
  go_wp2_with fail
  refine (Append_ok vl es b _ (RdJ.of_own HO12.out) HK.out (by omega) hb).mono ?_
  rintro e w3 ⟨vy, rfl, ho3, hb3⟩
  have HO13 := Lib.hid (own_staysJ HO12.out hb3)
  have HX3 := Lib.hid (own_staysJ HX2.out hb3)
  have HY3 := Lib.hid ho3
  have hb03 := hb02.trans (hb3.mono hb02.size)
  clear ho3 hb3 hb02 HO12 HX2
  have HA : ∀ s, Hid (appJ es s = if textE s ≠ 0 then ([], textE s) else (es ++ [⟨s, sumZ (lastZ es) s⟩], 0)) := fun s => Lib.hid rfl
  have HAa := HA a
  have HAb := HA b
  clear HA
  cases hta : (textE a != 0)
  · cases htb : (textE b != 0)
    · have hta' : textE a = 0 := by simpa using hta
      have htb' : textE b = 0 := by simpa using htb
      have Ea := HAa.out
      have Eb := HAb.out
      rw [if_neg (by simpa using hta')] at Ea
      rw [if_neg (by simpa using htb')] at Eb
      rw [Ea] at HX3
      rw [Eb] at HY3
      rw [Ea, Eb]
      have HOkx := Lib.hid (OkJ_snoc HK.out hta')
      have HE1 := Lib.hid (ext_self es ⟨a, sumZ (lastZ es) a⟩)
      have HE2 := Lib.hid (ext_self es ⟨b, sumZ (lastZ es) b⟩)
      have HE3 : Hid (extJ (es ++ [⟨a, sumZ (lastZ es) a⟩]) (es ++ [⟨b, sumZ (lastZ es) b⟩]) = (a.toList == b.toList)) := Lib.hid (by
        rw [ext_two]
        by_cases hab : a.toList = b.toList
        · have := bytes_eq hab
          subst this
          simp [eqE]
        · simp [eqE, hab])
      clear Ea Eb HAa HAb hta htb hta' htb'
      simp only at HX3 HY3
      simp only
      generalize hxs : es ++ [⟨a, sumZ (lastZ es) a⟩] = xs at *
      generalize hys : es ++ [⟨b, sumZ (lastZ es) b⟩] = ys at *
      have hxl : xs.length ≤ 21 := by rw [← hxs]; simp; omega
      clear hxs hys
      obtain ⟨xa, xc, hvx⟩ := own_form2 HX3.out
      subst hvx
      go_wp2_with fail
      refine (Extends_any _ _ xs es _ (RdJ.of_own HX3.out) (RdJ.of_own HO13.out)).mono ?_
      rintro e w4 ⟨rfl, hb4⟩
      rw [HE1.out]
      have HX4 := Lib.hid (own_staysJ HX3.out hb4)
      have HY4 := Lib.hid (own_staysJ HY3.out hb4)
      have HL4 := Lib.hid (own_staysJ HO13.out hb4)
      have hb04 := hb03.trans (hb4.mono hb03.size)
      clear hb4 HX3 HY3 HO13 hb03
      go_wp2_with fail
      refine (Extends_any _ _ ys es _ (RdJ.of_own HY4.out) (RdJ.of_own HL4.out)).mono ?_
      rintro e w5 ⟨rfl, hb5⟩
      rw [HE2.out]
      have HX5 := Lib.hid (own_staysJ HX4.out hb5)
      have HY5 := Lib.hid (own_staysJ HY4.out hb5)
      have hb05 := hb04.trans (hb5.mono hb04.size)
      clear hb5 HX4 HY4 HL4 hb04
      go_wp2_with fail
      refine (Extends_any _ _ xs ys _ (RdJ.of_own HX5.out) (RdJ.of_own HY5.out)).mono ?_
      rintro e w6 ⟨rfl, hb6⟩
      rw [HE3.out]
      have HX6 := Lib.hid (own_staysJ HX5.out hb6)
      have hb06 := hb05.trans (hb6.mono hb05.size)
      clear hb6 HX5 HY5 hb05
      cases hab : (a.toList == b.toList)
      all_goals
        go_wp2_with fail
        refine (Good_ok _ xs _ (RdJ.of_own HX6.out) HOkx.out (by omega)).mono ?_
        rintro e w7 ⟨rfl, hb7⟩
        go_wp2_with fail
        go_ret
        exact ⟨by simp, hb06.trans (hb7.mono hb06.size)⟩
    · have htb' : ¬ textE b = 0 := by simpa using htb
      have hta' : textE a = 0 := by simpa using hta
      have Ea := HAa.out
      have Eb := HAb.out
      rw [if_neg (by simpa using hta')] at Ea
      rw [if_pos htb'] at Eb
      rw [Eb] at HY3
      rw [Ea, Eb]
      simp only at HY3
      simp only
      obtain ⟨ya, yc, hvy⟩ := own_form2 HY3.out
      subst hvy
      clear Ea Eb HAa HAb htb' HX3 HY3 hta hta'
      simp only [List.length_nil]
      generalize textE b = tb at *
      go_wp2_with fail
      go_ret
      exact ⟨by simp, hb03⟩
  · have hta' : ¬ textE a = 0 := by simpa using hta
    have Ea := HAa.out
    rw [if_pos hta'] at Ea
    rw [Ea] at HX3
    rw [Ea]
    simp only at HX3
    simp only
    obtain ⟨xa, xc, hvx⟩ := own_form2 HX3.out
    subst hvx
    clear Ea HAa hta' HX3 HY3 HAb
    simp only [List.length_nil]
    generalize textE a = ta at *
    generalize (appJ es b).2 = tb at *
    cases htb : (tb != 0)
    all_goals
      go_wp2_with fail
      go_ret
      exact ⟨by simp, hb03⟩

section
theorem own : ownKnob Try.prog.godebug = none := by kernel_rfl
theorem laidOut : laidOutB Try.prog = true := by kernel_rfl

set_option maxRecDepth 100000 in
theorem lifted (os : Os) (started : os.Started) (H : Type) (enc : TypeId × Value → H) :
    ReturnsInHanded {} Try.checked os 3 .any (Rows.journalGrowsSpec.pre6 enc Try.prog Try.f3 Rows.journalGrowsRow.domain false) (Rows.journalGrowsSpec.post enc Try.prog Try.f3 false true false false) := by
  refine returnsInHanded_of_change (C := Try.checked) own started (by kernel_rfl) Try.func3
    (ChangeSpec.witness6 (enc := enc) (C := Try.checked) false ⟨#[], #[.slice none 0 0, .string ByteArray.empty, .string ByteArray.empty], []⟩ 8 (by kernel_rfl) (by kernel_rfl) (by kernel_rfl) (by kernel_rfl)) ?_
  intro W base args ds gs before hval0 hW hcnd _
  have hval : ∀ (j : Nat) t v, Try.f3.params[j]? = some t → args[j]? = some v → Value.okWide Try.prog W .any base t v := hval0
  have hW' := hW
  obtain ⟨p, q, hA0, hV, rfl, hfz, hnd⟩ := hW
  have hA : DataW.TrodAll enc Try.prog W 0 (fun _ => true) true Try.f3.params.toList args.toList ds p := hA0
  rw [Try.params3] at hA hval
  have hAll := hA
  obtain ⟨v0, vs0, d0, ds0, p0, q0, hargs, rfl, rfl, h0, r0⟩ := trodAll_cons hA
  obtain ⟨v1, vs1, d1, ds1, p1, q1, rfl, rfl, rfl, h1, r1⟩ := trodAll_cons r0
  obtain ⟨v2, vs2, d2, ds2, p2, q2, rfl, rfl, rfl, h2, r2⟩ := trodAll_cons r1
  obtain ⟨rfl, rfl, rfl⟩ := trodAll_nil r2
  obtain rfl : args = #[v0, v1, v2] := by cases args; simp_all
  obtain ⟨rfl, rfl⟩ := trodVars_none hV
  obtain ⟨ss, hss, hsz⟩ := open_RdS Try.underlying22 Try.underlying9 (by kernel_rfl) (hval 0 22 v0 rfl rfl) h0
  obtain ⟨a1, rfl, rfl, rfl, w1⟩ := Go.ChangeMaps.open_string Try.underlying9 (hval 1 9 v1 rfl rfl) h1
  obtain ⟨a2, rfl, rfl, rfl, w2⟩ := Go.ChangeMaps.open_string Try.underlying9 (hval 2 9 v2 rfl rfl) h2
  clear hA0 hval0
  refine (walk v0 a1 a2 ss W hss hsz w1 w2).mono fun e W' ⟨he, bel⟩ => ?_
  subst he
  exact ⟨_, rfl, _, _, _, [], _, [], hW', trodAll_mk1 (shut_bool Try.underlying4 _), trodAll_stays laidOut bel (by kernel_rfl) hAll, rfl, bel.frame _, fun h => by cases h⟩

theorem over : Rows.journalGrowsRow.holds Try.pinned (OpenSpec.ofChange Rows.journalGrowsSpec) :=
  OpenClaim.holds_of_wide 3 Try.f3 rfl rfl rfl rfl rfl rfl rfl ⟨rfl, rfl, rfl, rfl, rfl⟩ rfl rfl rfl rfl rfl (by kernel_rfl) Try.func3 (by kernel_rfl)
    (of_decide_eq_true (by kernel_rfl)) (by unfold Func.isWrapper; first | (rw [if_pos (by decide +kernel)]; kernel_rfl) | (rw [if_neg (by decide +kernel)]; exact ⟨rfl, rfl⟩))
    (fun os started H enc _ => lifted os started H enc)

theorem proved : Rows.JournalGrowsSaid := over
end
#print axioms proved
end Go.Proofs.Ytomjjbhdpaegkaa.journalGrows

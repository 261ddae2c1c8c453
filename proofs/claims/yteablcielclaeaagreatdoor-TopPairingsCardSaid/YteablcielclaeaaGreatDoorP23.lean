/- match's Do. -/
import Derived.Test.YteablcielclaeaaGreatDoorP22
namespace Go.Proofs.YteablcielclaeaaGreatDoor
open Go.ChangeShapes Go.WideShapes Go.ChangeAt Go.RowKit
set_option linter.unusedVariables false
variable {X S:Nat→Prop} {base b:Nat} {M:aP} {B:kM}
theorem GH (now:Int):∀ (f:Nat) (M:aP),(aP.runs now f M).jr=M.jr∧(aP.runs now f M).R=M.R∧(aP.runs now f M).CR=M.CR
 | 0,M=>⟨rfl,rfl,rfl⟩
 | f+1,M=>by
  rw [aP.runs]
  split
  ·split
   ·exact GH now f _
   ·exact ⟨rfl,rfl,rfl⟩
  ·exact ⟨rfl,rfl,rfl⟩
theorem lM (M:aP) (e:yA):(M.kind e).1.jr=M.jr∧(M.kind e).1.R=M.R∧(M.kind e).1.CR=M.CR:=by
 unfold aP.kind aP.jQ aP.yB aP.tC aP.yC aP.qE aP.backTo
 repeat' split
 all_goals first | exact ⟨rfl,rfl,rfl⟩ | exact GH e.now 400 (M.move e.m e.now)
theorem keyed {P F:World→Nat→Prop} {G:Prop} (main:(∀ w5 bx,F w5 bx→P w5 bx)→G) (rest:∀ w5 bx,F w5 bx→P w5 bx):G:=main rest
theorem Tab.mono {base base':Nat} {w w':World} (h:Tab base w) (hb:base≤base') (hw:Below base w w'):Tab base' w':=⟨(h.below hw).1,fun g hg=>Nat.lt_of_lt_of_le (h.2 g hg) hb⟩
theorem aY.base' {w w':World} (m:aY X S base w b M B) (h:iO S b w w') (hb:base≤w.heap.size):Below base w w':=iO.base m h hb
theorem I8 {w:World} {bb:Nat} {v:Value} {es:List jA} {e:jA} (h:w.ownsRow bb 205 2 v (es.length+1) (iD (es++[e]))):JX w v (es++[e]):=by
 have h2:w.ownsRow bb 205 2 v (es++[e]).length (iD (es++[e])):=by rw [List.length_append]; exact h
 exact Rd.dB h2
end Go.Proofs.YteablcielclaeaaGreatDoor

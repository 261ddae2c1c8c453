/-
  DERIVED: THE SHELF's CONTRACTS AT THIS DUMP, IN PLAIN WORDS (tools/lay-plain.mjs out of 'TryPick.lean', which tools/lay-shelf.mjs wrote): THE SAME DECLARATIONS UNDER THE SAME NAMES: 'import', 'namespace', 'open', 'def', 'theorem' AND NOTHING ELSE: no command of the shelf's: FOR A HAND-IN. Each laying: the table of numbers ('.._ren') and one theorem, a field a fact of the dump's own or the kernel's comparison; each contract: ONE APPLICATION.
-/
import Derived.Shelf.Strings.Builder1
import Derived.Shelf.Strings.Builder2
import Derived.Shelf.Strings.OnBuilder
import Derived.Shelf.Strings.BuilderF
import Derived.Shelf.Strings.BuilderK
import Derived.Shelf.Strings.Builder2Cap
import Derived.Shelf.Strconv.Itoa0
import Derived.Shelf.Strconv.Itoa1
import Derived.Shelf.LaysM
import Derived.Shelf.Strconv.Itoa2
import Derived.Shelf.Strconv.Itoa3
import Derived.Shelf.Strings.BuilderCap
import Derived.Test.YteablcielclaeaaGreatDoorProg
namespace Go.Proofs
open Go.Shelf
def Tryz.NR:Go.Shelf.Ren:=⟨fun | 170=>57 | n=>n,fun | 70=>145 | 3=>3 | 0=>0 | 72=>148 | 37=>146 | 5=>5 | n=>n,fun | n=>n⟩
theorem Tryz.lays170:Go.Proofs.Lays.n170 Tryz.prog Tryz.NR:={
  mixed:=by kernel_rfl
  f170:=Tryz.func57.trans (congrArg some (by kernel_rfl))
  t0:=Tryz.underlying0
  a0:=Tryz.isAgg0
  z0:=Tryz.sizeOf0
  v0:=Tryz.zeroValue0
  t3:=Tryz.underlying3
  a3:=Tryz.isAgg3
  z3:=Tryz.sizeOf3
  v3:=Tryz.zeroValue3
  t37:=Tryz.underlying146
  a37:=Tryz.isAgg146
  z37:=Tryz.sizeOf146
  v37:=Tryz.zeroValue146
  t70:=Tryz.underlying145
  a70:=Tryz.isAgg145
  z70:=Tryz.sizeOf145
  v70:=Tryz.zeroValue145
  t72:=Tryz.underlying148
  a72:=Tryz.isAgg148
  z72:=Tryz.sizeOf148
  v72:=Tryz.zeroValue148 }
open Go.RowKit in
theorem Tryz.Builder_Len (B b:Nat) (bs:List Value) (w:World) (h:Lib.IsBuilder 148 5 B b bs w) :
    Calls Tryz.prog 57 #[.pointer (some ⟨b,0,none⟩)] w fun e w'=>e=.returned (.int .i64 bs.length)∧w'=w:=Any.Builder_Len Tryz.lays170 B b bs w h
def Tryz.lays169_ren:Go.Shelf.Ren:=⟨fun | 169=>58 | n=>n,fun | 70=>145 | 9=>9 | 0=>0 | 72=>148 | 37=>146 | 127=>218 | 3=>3 | 5=>5 | n=>n,fun | n=>n⟩
theorem Tryz.lays169:Go.Proofs.Lays.n169 Tryz.prog Tryz.lays169_ren:={
  mixed:=by kernel_rfl
  f169:=Tryz.func58.trans (congrArg some (by kernel_rfl))
  t0:=Tryz.underlying0
  a0:=Tryz.isAgg0
  z0:=Tryz.sizeOf0
  v0:=Tryz.zeroValue0
  t3:=Tryz.underlying3
  a3:=Tryz.isAgg3
  z3:=Tryz.sizeOf3
  v3:=Tryz.zeroValue3
  t9:=Tryz.underlying9
  a9:=Tryz.isAgg9
  z9:=Tryz.sizeOf9
  v9:=Tryz.zeroValue9
  t37:=Tryz.underlying146
  a37:=Tryz.isAgg146
  z37:=Tryz.sizeOf146
  v37:=Tryz.zeroValue146
  t70:=Tryz.underlying145
  a70:=Tryz.isAgg145
  z70:=Tryz.sizeOf145
  v70:=Tryz.zeroValue145
  t72:=Tryz.underlying148
  a72:=Tryz.isAgg148
  z72:=Tryz.sizeOf148
  v72:=Tryz.zeroValue148
  t127:=Tryz.underlying218
  a127:=Tryz.isAgg218
  z127:=Tryz.sizeOf218
  v127:=Tryz.zeroValue218 }
theorem Tryz.Builder_Extra_169:Builder.Extra Tryz.prog Tryz.lays169_ren:={
  sizeBuilder:=by kernel_rfl
  liesBuilder:=by kernel_rfl
  t5:=Tryz.underlying5
  a5:=Tryz.isAgg5
  z5:=Tryz.sizeOf5
  v5:=Tryz.zeroValue5
  infoByte:=by kernel_rfl
  cellsByte:=by kernel_rfl
  sizeByte:=by kernel_rfl
  neB5:=by decide }
open Go.RowKit in
theorem Tryz.Builder_String (B b:Nat) (l:List UInt8) (w:World) (h:Lib.IsBuilder 148 5 B b (Lib.byteCells l) w) (h0:l≠[]) :
    Calls Tryz.prog 58 #[.pointer (some ⟨b,0,none⟩)] w fun e w'=>e=.returned (.string ⟨l.toArray⟩)∧Below B w w':=Any.Builder_String Tryz.lays169 Tryz.Builder_Extra_169 B b l w h h0
open Go.RowKit in
theorem Tryz.Builder_String_empty (B b:Nat) (w:World) (h:Lib.IsBuilder 148 5 B b [] w) (hBw:B≤w.heap.size) :
    Calls Tryz.prog 58 #[.pointer (some ⟨b,0,none⟩)] w fun e w'=>e=.returned (.string ⟨#[]⟩)∧Below B w w':=Any.Builder_String_empty Tryz.lays169 Tryz.Builder_Extra_169 B b w h hBw
open Go.RowKit in
theorem Tryz.Builder_String_any (B b:Nat) (l:List UInt8) (w:World) (h:Lib.IsBuilder 148 5 B b (Lib.byteCells l) w) (hBw:B≤w.heap.size) :
    Calls Tryz.prog 58 #[.pointer (some ⟨b,0,none⟩)] w fun e w'=>e=.returned (.string ⟨l.toArray⟩)∧Below B w w':=Any.Builder_String_any Tryz.lays169 Tryz.Builder_Extra_169 B b l w h hBw
def Tryz.lays156_ren:Go.Shelf.Ren:=⟨fun | 156=>55 | 165=>107 | 166=>52 | 169=>58 | 240=>102 | 241=>156 | 276=>152 | 277=>196 | n=>n,fun | 31=>155 | 9=>9 | 3=>3 | 4=>4 | 0=>0 | 20=>20 | 72=>148 | 76=>153 | 70=>145 | 37=>146 | 75=>152 | 127=>218 | 164=>257 | 5=>5 | 80=>169 | n=>n,fun | n=>n⟩
theorem Tryz.lays156:Go.Proofs.Lays.n156 Tryz.prog Tryz.lays156_ren:={
  mixed:=by kernel_rfl
  f156:=Tryz.func55.trans (congrArg some (by kernel_rfl))
  f165:=Tryz.func107.trans (congrArg some (by kernel_rfl))
  f166:=Tryz.func52.trans (congrArg some (by kernel_rfl))
  f169:=Tryz.func58.trans (congrArg some (by kernel_rfl))
  f240:=Tryz.func102.trans (congrArg some (by kernel_rfl))
  f241:=Tryz.func156.trans (congrArg some (by kernel_rfl))
  f276:=Tryz.func152.trans (congrArg some (by kernel_rfl))
  f277:=Tryz.func196.trans (congrArg some (by kernel_rfl))
  t0:=Tryz.underlying0
  a0:=Tryz.isAgg0
  z0:=Tryz.sizeOf0
  v0:=Tryz.zeroValue0
  t3:=Tryz.underlying3
  a3:=Tryz.isAgg3
  z3:=Tryz.sizeOf3
  v3:=Tryz.zeroValue3
  t4:=Tryz.underlying4
  a4:=Tryz.isAgg4
  z4:=Tryz.sizeOf4
  v4:=Tryz.zeroValue4
  t9:=Tryz.underlying9
  a9:=Tryz.isAgg9
  z9:=Tryz.sizeOf9
  v9:=Tryz.zeroValue9
  t20:=Tryz.underlying20
  a20:=Tryz.isAgg20
  z20:=Tryz.sizeOf20
  v20:=Tryz.zeroValue20
  t31:=Tryz.underlying155
  a31:=Tryz.isAgg155
  z31:=Tryz.sizeOf155
  v31:=Tryz.zeroValue155
  t37:=Tryz.underlying146
  a37:=Tryz.isAgg146
  z37:=Tryz.sizeOf146
  v37:=Tryz.zeroValue146
  t70:=Tryz.underlying145
  a70:=Tryz.isAgg145
  z70:=Tryz.sizeOf145
  v70:=Tryz.zeroValue145
  t72:=Tryz.underlying148
  a72:=Tryz.isAgg148
  z72:=Tryz.sizeOf148
  v72:=Tryz.zeroValue148
  t75:=Tryz.underlying152
  a75:=Tryz.isAgg152
  z75:=Tryz.sizeOf152
  v75:=Tryz.zeroValue152
  t76:=Tryz.underlying153
  a76:=Tryz.isAgg153
  z76:=Tryz.sizeOf153
  v76:=Tryz.zeroValue153
  t127:=Tryz.underlying218
  a127:=Tryz.isAgg218
  z127:=Tryz.sizeOf218
  v127:=Tryz.zeroValue218
  t164:=Tryz.underlying257
  a164:=Tryz.isAgg257
  z164:=Tryz.sizeOf257
  v164:=Tryz.zeroValue257 }
theorem Tryz.Builder_Extra_156:Builder.Extra Tryz.prog Tryz.lays156_ren:={
  sizeBuilder:=by kernel_rfl
  liesBuilder:=by kernel_rfl
  t5:=Tryz.underlying5
  a5:=Tryz.isAgg5
  z5:=Tryz.sizeOf5
  v5:=Tryz.zeroValue5
  infoByte:=by kernel_rfl
  cellsByte:=by kernel_rfl
  sizeByte:=by kernel_rfl
  neB5:=by decide }
open Go.RowKit in
theorem Tryz.strings_Join_none (a:Option Addr) (c:Nat) (sep:ByteArray) (w:World) :
    Calls Tryz.prog 55 #[.slice a 0 c,.string sep] w fun e w'=>e=.returned (.string ⟨#[]⟩)∧w'=w:=Any.strings_Join_none Tryz.lays156 Tryz.Builder_Extra_156 a c sep w
open Go.RowKit in
theorem Tryz.strings_Join (bk o c:Nat) (xs:List ByteArray) (sep:ByteArray) (w:World) (hcells:∀ (j:Nat) x,xs[j]?=some x→w.cell? ⟨bk,o+j,none⟩=some (.string x)) (hbk:bk<w.heap.size) (hN:xs.length≤140737488355328) (hcap:xs.length≤c) (hlen:(Lib.join (xs.map (·.data.toList)) sep.data.toList).length≤140737488355328) :
    Calls Tryz.prog 55 #[.slice (some ⟨bk,o,none⟩) xs.length c,.string sep] w fun e w'=>e=.returned (.string ⟨(Lib.join (xs.map (·.data.toList)) sep.data.toList).toArray⟩)∧Below w.heap.size w w':=Any.strings_Join Tryz.lays156 Tryz.Builder_Extra_156 bk o c xs sep w hcells hbk hN hcap hlen
def Tryz.JG:Go.Shelf.Ren:=⟨fun | 171=>46 | 243=>89 | 246=>120 | 283=>160 | 284=>161 | 285=>162 | 286=>163 | 129=>199 | 317=>198 | 318=>200 | 319=>201 | 320=>202 | 337=>227 | 338=>228 | n=>n,fun | 3=>3 | 9=>9 | 2=>2 | 4=>4 | 171=>262 | 0=>0 | 53=>203 | 37=>146 | 5=>5 | 173=>265 | 212=>295 | 51=>223 | 20=>20 | 213=>296 | 46=>184 | 232=>330 | 233=>331 | n=>n,fun | 17=>0 | 18=>2 | 19=>3 | n=>n⟩
theorem Tryz.laysM171:Go.Proofs.LaysM.n171 Tryz.prog Tryz.JG:={
  mixed:=by kernel_rfl
  f129:=Tryz.func199.trans (congrArg some (by kernel_rfl))
  f171:=Tryz.func46.trans (congrArg some (by kernel_rfl))
  f243:=Tryz.func89.trans (congrArg some (by kernel_rfl))
  f246:=Tryz.func120.trans (congrArg some (by kernel_rfl))
  f283:=Tryz.func160.trans (congrArg some (by kernel_rfl))
  f284:=Tryz.func161.trans (congrArg some (by kernel_rfl))
  f285:=Tryz.func162.trans (congrArg some (by kernel_rfl))
  f286:=Tryz.func163.trans (congrArg some (by kernel_rfl))
  f317:=Tryz.func198.trans (congrArg some (by kernel_rfl))
  f318:=Tryz.func200.trans (congrArg some (by kernel_rfl))
  f319:=Tryz.func201.trans (congrArg some (by kernel_rfl))
  f320:=Tryz.func202.trans (congrArg some (by kernel_rfl))
  f337:=Tryz.func227.trans (congrArg some (by kernel_rfl))
  f338:=Tryz.func228.trans (congrArg some (by kernel_rfl))
  t0:=Tryz.underlying0
  a0:=Tryz.isAgg0
  z0:=Tryz.sizeOf0
  v0:=Tryz.zeroValue0
  t2:=Tryz.underlying2
  a2:=Tryz.isAgg2
  z2:=Tryz.sizeOf2
  v2:=Tryz.zeroValue2
  t3:=Tryz.underlying3
  a3:=Tryz.isAgg3
  z3:=Tryz.sizeOf3
  v3:=Tryz.zeroValue3
  t4:=Tryz.underlying4
  a4:=Tryz.isAgg4
  z4:=Tryz.sizeOf4
  v4:=Tryz.zeroValue4
  t5:=Tryz.underlying5
  a5:=Tryz.isAgg5
  z5:=Tryz.sizeOf5
  v5:=Tryz.zeroValue5
  t9:=Tryz.underlying9
  a9:=Tryz.isAgg9
  z9:=Tryz.sizeOf9
  v9:=Tryz.zeroValue9
  t20:=Tryz.underlying20
  a20:=Tryz.isAgg20
  z20:=Tryz.sizeOf20
  v20:=Tryz.zeroValue20
  t37:=Tryz.underlying146
  a37:=Tryz.isAgg146
  z37:=Tryz.sizeOf146
  v37:=Tryz.zeroValue146
  t46:=Tryz.underlying184
  a46:=Tryz.isAgg184
  z46:=Tryz.sizeOf184
  v46:=Tryz.zeroValue184
  t51:=Tryz.underlying223
  a51:=Tryz.isAgg223
  z51:=Tryz.sizeOf223
  v51:=Tryz.zeroValue223
  t53:=Tryz.underlying203
  a53:=Tryz.isAgg203
  z53:=Tryz.sizeOf203
  v53:=Tryz.zeroValue203
  t171:=Tryz.underlying262
  a171:=Tryz.isAgg262
  z171:=Tryz.sizeOf262
  v171:=Tryz.zeroValue262
  t173:=Tryz.underlying265
  a173:=Tryz.isAgg265
  z173:=Tryz.sizeOf265
  v173:=Tryz.zeroValue265
  t212:=Tryz.underlying295
  a212:=Tryz.isAgg295
  z212:=Tryz.sizeOf295
  v212:=Tryz.zeroValue295
  t213:=Tryz.underlying296
  a213:=Tryz.isAgg296
  z213:=Tryz.sizeOf296
  t232:=Tryz.underlying330
  a232:=Tryz.isAgg330
  z232:=Tryz.sizeOf330
  v232:=Tryz.zeroValue330
  t233:=Tryz.underlying331
  a233:=Tryz.isAgg331
  z233:=Tryz.sizeOf331
  v233:=Tryz.zeroValue331
  g17:=by kernel_rfl
  g18:=by kernel_rfl
  g19:=by kernel_rfl
  i0:=by kernel_rfl
  i2:=by kernel_rfl
  i3:=by kernel_rfl
  i4:=by kernel_rfl
  i5:=by kernel_rfl
  i9:=by kernel_rfl
  i20:=by kernel_rfl
  i37:=by kernel_rfl
  i46:=by kernel_rfl
  i51:=by kernel_rfl
  i53:=by kernel_rfl
  i171:=by kernel_rfl
  i173:=by kernel_rfl
  i212:=by kernel_rfl
  i232:=by kernel_rfl
  i233:=by kernel_rfl
  m17:=by kernel_rfl
  m18:=by kernel_rfl
  m19:=by kernel_rfl }
open Go.RowKit Go.Sort Go.Lib in
theorem Tryz.strconv_Itoa (n:Int) (h0 : -9223372036854775808≤n) (h1:n≤9223372036854775807) (w:World) (htab:Lib.TabIs Tryz.prog w "internal/strconv.uint64pow10" .u64 Lib.pow10Tab) :
    Calls Tryz.prog 46 #[.int .i64 n] w fun e w'=>e=.returned (.string ⟨(Lib.itoa n).toArray⟩)∧∃ k os,w'=grow (w.drewN k) os:=Any.strconv_Itoa Tryz.laysM171 n h0 h1 w htab
end Go.Proofs

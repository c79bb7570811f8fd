import Derived.Shelf.Strings.Builder1
import Derived.Shelf.Strings.Builder2
import Derived.Shelf.Strings.OnBuilder
import Derived.Shelf.Strings.BuilderK
import Derived.Shelf.Small.Strs
import Derived.Shelf.LaysM
import Derived.Shelf.Strings.Split
import Derived.Shelf.Strings.SplitShaped
import Derived.Test.YtnigkecpiolgeaaDoorProg
import Derived.Test.YtnigkecpiolgeaaDoorRomGa
import Derived.Lib.SplitLaws
/- Laid by the shelf's own command in its plain mode, cut to what this chapter needs: the library's contracts at this program. -/
namespace Go.Proofs
open Go.Shelf
def Tryd.lays156_ren : Go.Shelf.Ren := ⟨fun | 156 => 41 | 165 => 49 | 166 => 24 | 169 => 26 | 240 => 38 | 241 => 53 | 276 => 48 | 277 => 58 | n => n, fun | 31 => 64 | 9 => 9 | 3 => 3 | 4 => 4 | 0 => 0 | 20 => 20 | 72 => 54 | 76 => 57 | 70 => 52 | 37 => 26 | 75 => 56 | 127 => 81 | 164 => 89 | 5 => 5 | 80 => 60 | n => n, fun | n => n⟩
theorem Tryd.lays156 : Go.Proofs.Lays.n156 Tryd.prog Tryd.lays156_ren := {
  mixed := by kernel_rfl
  f156 := Tryd.func41.trans (congrArg some (by kernel_rfl))
  f165 := Tryd.func49.trans (congrArg some (by kernel_rfl))
  f166 := Tryd.func24.trans (congrArg some (by kernel_rfl))
  f169 := Tryd.func26.trans (congrArg some (by kernel_rfl))
  f240 := Tryd.func38.trans (congrArg some (by kernel_rfl))
  f241 := Tryd.func53.trans (congrArg some (by kernel_rfl))
  f276 := Tryd.func48.trans (congrArg some (by kernel_rfl))
  f277 := Tryd.func58.trans (congrArg some (by kernel_rfl))
  t0 := Tryd.underlying0
  a0 := Tryd.isAgg0
  z0 := Tryd.sizeOf0
  v0 := Tryd.zeroValue0
  t3 := Tryd.underlying3
  a3 := Tryd.isAgg3
  z3 := Tryd.sizeOf3
  v3 := Tryd.zeroValue3
  t4 := Tryd.underlying4
  a4 := Tryd.isAgg4
  z4 := Tryd.sizeOf4
  v4 := Tryd.zeroValue4
  t9 := Tryd.underlying9
  a9 := Tryd.isAgg9
  z9 := Tryd.sizeOf9
  v9 := Tryd.zeroValue9
  t20 := Tryd.underlying20
  a20 := Tryd.isAgg20
  z20 := Tryd.sizeOf20
  v20 := Tryd.zeroValue20
  t31 := Tryd.underlying64
  a31 := Tryd.isAgg64
  z31 := Tryd.sizeOf64
  v31 := Tryd.zeroValue64
  t37 := Tryd.underlying26
  a37 := Tryd.isAgg26
  z37 := Tryd.sizeOf26
  v37 := Tryd.zeroValue26
  t70 := Tryd.underlying52
  a70 := Tryd.isAgg52
  z70 := Tryd.sizeOf52
  v70 := Tryd.zeroValue52
  t72 := Tryd.underlying54
  a72 := Tryd.isAgg54
  z72 := Tryd.sizeOf54
  v72 := Tryd.zeroValue54
  t75 := Tryd.underlying56
  a75 := Tryd.isAgg56
  z75 := Tryd.sizeOf56
  v75 := Tryd.zeroValue56
  t76 := Tryd.underlying57
  a76 := Tryd.isAgg57
  z76 := Tryd.sizeOf57
  v76 := Tryd.zeroValue57
  t127 := Tryd.underlying81
  a127 := Tryd.isAgg81
  z127 := Tryd.sizeOf81
  v127 := Tryd.zeroValue81
  t164 := Tryd.underlying89
  a164 := Tryd.isAgg89
  z164 := Tryd.sizeOf89
  v164 := Tryd.zeroValue89 }
theorem Tryd.Builder_Extra_156 : Builder.Extra Tryd.prog Tryd.lays156_ren := {
  sizeBuilder := by kernel_rfl
  liesBuilder := by kernel_rfl
  t5 := Tryd.underlying5
  a5 := Tryd.isAgg5
  z5 := Tryd.sizeOf5
  v5 := Tryd.zeroValue5
  infoByte := by kernel_rfl
  cellsByte := by kernel_rfl
  sizeByte := by kernel_rfl
  neB5 := by decide }
open Go.RowKit in
/-- No element: the empty string; the world is as it was. (Whatever the slice's address and capacity: a nil slice too.) (LAID: no walk: one application.) -/
theorem Tryd.strings_Join_none (a : Option Addr) (c : Nat) (sep : ByteArray) (w : World) :
    Calls Tryd.prog 41 #[.slice a 0 c, .string sep] w fun e w' => e = .returned (.string ⟨#[]⟩) ∧ w' = w := Any.strings_Join_none Tryd.lays156 Tryd.Builder_Extra_156 a c sep w
open Go.RowKit in
/-- strings.Join: "Join concatenates the elements of its first argument to create a single string. The separator string sep is placed between elements in the resulting string.": HOWEVER MANY ELEMENTS. Below the heap's end the world is as it was. (LAID: no walk: one application.) -/
theorem Tryd.strings_Join (bk o c : Nat) (xs : List ByteArray) (sep : ByteArray) (w : World) (hcells : ∀ (j : Nat) x, xs[j]? = some x → w.cell? ⟨bk, o + j, none⟩ = some (.string x)) (hbk : bk < w.heap.size) (hN : xs.length ≤ 140737488355328) (hcap : xs.length ≤ c) (hlen : (Lib.join (xs.map (·.data.toList)) sep.data.toList).length ≤ 140737488355328) :
    Calls Tryd.prog 41 #[.slice (some ⟨bk, o, none⟩) xs.length c, .string sep] w fun e w' => e = .returned (.string ⟨(Lib.join (xs.map (·.data.toList)) sep.data.toList).toArray⟩) ∧ Below w.heap.size w w' := Any.strings_Join Tryd.lays156 Tryd.Builder_Extra_156 bk o c xs sep w hcells hbk hN hcap hlen
def Tryd.lays137_ren : Go.Shelf.Ren := ⟨fun | 137 => 51 | 217 => 57 | 266 => 63 | n => n, fun | 9 => 9 | 5 => 5 | 3 => 3 | n => n, fun | n => n⟩
theorem Tryd.lays137 : Go.Proofs.Lays.n137 Tryd.prog Tryd.lays137_ren := {
  mixed := by kernel_rfl
  f137 := Tryd.func51.trans (congrArg some (by kernel_rfl))
  f217 := Tryd.func57.trans (congrArg some (by kernel_rfl))
  f266 := Tryd.func63.trans (congrArg some (by kernel_rfl))
  t3 := Tryd.underlying3
  a3 := Tryd.isAgg3
  z3 := Tryd.sizeOf3
  v3 := Tryd.zeroValue3
  t5 := Tryd.underlying5
  a5 := Tryd.isAgg5
  z5 := Tryd.sizeOf5
  v5 := Tryd.zeroValue5
  t9 := Tryd.underlying9
  a9 := Tryd.isAgg9
  z9 := Tryd.sizeOf9
  v9 := Tryd.zeroValue9 }
open Go.RowKit in
/-- strings.IndexByte: "IndexByte returns the index of the first instance of c in s, or -1 if c is not present in s.": IT RETURNS 'Lib.indexByte s c'; the world is as it was. (LAID: no walk: one application.) -/
theorem Tryd.strings_IndexByte (s : ByteArray) (c : Int) (w : World) :
    Calls Tryd.prog 51 #[.string s, .int .u8 c] w fun e w' => e = .returned (.int .i64 (Lib.indexByte s.data.toList c.toNat.toUInt8)) ∧ w' = w := Any.strings_IndexByte Tryd.lays137 s c w
def Tryd.lays146_ren : Go.Shelf.Ren := ⟨fun | 146 => 44 | 221 => 50 | 268 => 54 | 138 => 55 | 143 => 56 | 195 => 59 | 197 => 60 | 218 => 61 | 219 => 62 | 260 => 64 | 217 => 57 | 225 => 65 | 224 => 66 | 267 => 67 | 266 => 63 | 314 => 68 | n => n, fun | 9 => 9 | 31 => 64 | 3 => 3 | 4 => 4 | 0 => 0 | 105 => 100 | 21 => 21 | 5 => 5 | 46 => 86 | 119 => 103 | 139 => 106 | 138 => 105 | 146 => 107 | 51 => 22 | n => n, fun | 1 => 0 | 3 => 1 | 4 => 2 | n => n⟩
theorem Tryd.lays146 : Go.Proofs.Lays.n146 Tryd.prog Tryd.lays146_ren := {
  mixed := by kernel_rfl
  f138 := Tryd.func55.trans (congrArg some (by kernel_rfl))
  f143 := Tryd.func56.trans (congrArg some (by kernel_rfl))
  f146 := Tryd.func44.trans (congrArg some (by kernel_rfl))
  f195 := Tryd.func59.trans (congrArg some (by kernel_rfl))
  f197 := Tryd.func60.trans (congrArg some (by kernel_rfl))
  f217 := Tryd.func57.trans (congrArg some (by kernel_rfl))
  f218 := Tryd.func61.trans (congrArg some (by kernel_rfl))
  f219 := Tryd.func62.trans (congrArg some (by kernel_rfl))
  f221 := Tryd.func50.trans (congrArg some (by kernel_rfl))
  f224 := Tryd.func66.trans (congrArg some (by kernel_rfl))
  f225 := Tryd.func65.trans (congrArg some (by kernel_rfl))
  f260 := Tryd.func64.trans (congrArg some (by kernel_rfl))
  f266 := Tryd.func63.trans (congrArg some (by kernel_rfl))
  f267 := Tryd.func67.trans (congrArg some (by kernel_rfl))
  f268 := Tryd.func54.trans (congrArg some (by kernel_rfl))
  f314 := Tryd.func68.trans (congrArg some (by kernel_rfl))
  t0 := Tryd.underlying0
  a0 := Tryd.isAgg0
  z0 := Tryd.sizeOf0
  v0 := Tryd.zeroValue0
  t3 := Tryd.underlying3
  a3 := Tryd.isAgg3
  z3 := Tryd.sizeOf3
  v3 := Tryd.zeroValue3
  t4 := Tryd.underlying4
  a4 := Tryd.isAgg4
  z4 := Tryd.sizeOf4
  v4 := Tryd.zeroValue4
  t5 := Tryd.underlying5
  a5 := Tryd.isAgg5
  z5 := Tryd.sizeOf5
  v5 := Tryd.zeroValue5
  t9 := Tryd.underlying9
  a9 := Tryd.isAgg9
  z9 := Tryd.sizeOf9
  v9 := Tryd.zeroValue9
  t21 := Tryd.underlying21
  a21 := Tryd.isAgg21
  z21 := Tryd.sizeOf21
  v21 := Tryd.zeroValue21
  t31 := Tryd.underlying64
  a31 := Tryd.isAgg64
  z31 := Tryd.sizeOf64
  v31 := Tryd.zeroValue64
  t46 := Tryd.underlying86
  a46 := Tryd.isAgg86
  z46 := Tryd.sizeOf86
  v46 := Tryd.zeroValue86
  t51 := Tryd.underlying22
  a51 := Tryd.isAgg22
  z51 := Tryd.sizeOf22
  v51 := Tryd.zeroValue22
  t105 := Tryd.underlying100
  a105 := Tryd.isAgg100
  z105 := Tryd.sizeOf100
  v105 := Tryd.zeroValue100
  t119 := Tryd.underlying103
  a119 := Tryd.isAgg103
  z119 := Tryd.sizeOf103
  t138 := Tryd.underlying105
  a138 := Tryd.isAgg105
  z138 := Tryd.sizeOf105
  v138 := Tryd.zeroValue105
  t139 := Tryd.underlying106
  a139 := Tryd.isAgg106
  z139 := Tryd.sizeOf106
  v139 := Tryd.zeroValue106
  t146 := Tryd.underlying107
  a146 := Tryd.isAgg107
  z146 := Tryd.sizeOf107
  v146 := Tryd.zeroValue107
  g1 := by kernel_rfl
  g3 := by kernel_rfl
  g4 := by kernel_rfl }
open Go.RowKit Go.Lib in
/-- strings.Split. (LAID: no walk: one application.) -/
theorem Tryd.strings_Split (s sep : ByteArray) (m : Int) (w : World) (hs : s.size < 4294967281) (hm : w.cell? ⟨0, 0, none⟩ = some (.int .i64 m)) (h1 : 1 ≤ sep.size) :
    Calls Tryd.prog 44 #[.string s, .string sep] w fun e w' =>
      e = .returned (.slice (some ⟨w.heap.size, 0, none⟩) (Lib.countB s sep + 1) (Lib.countB s sep + 1)) ∧ w' = w.alloc (.cells ((Lib.splitB sep 0 (Lib.countB s sep) s).map Value.string).toArray 9) := Any.strings_Split Tryd.lays146 (by kernel_rfl) s sep m w hs hm h1
def Tryd.laysM146_ren : Go.Shelf.Ren := ⟨fun | 146 => 44 | 221 => 50 | 268 => 54 | 138 => 55 | 143 => 56 | 195 => 59 | 197 => 60 | 218 => 61 | 219 => 62 | 260 => 64 | 217 => 57 | 225 => 65 | 224 => 66 | 267 => 67 | 266 => 63 | 314 => 68 | n => n, fun | 9 => 9 | 31 => 64 | 3 => 3 | 4 => 4 | 0 => 0 | 105 => 100 | 21 => 21 | 5 => 5 | 46 => 86 | 119 => 103 | 139 => 106 | 138 => 105 | 146 => 107 | 51 => 22 | n => n, fun | 1 => 0 | 3 => 1 | 4 => 2 | n => n⟩
theorem Tryd.laysM146 : Go.Proofs.LaysM.n146 Tryd.prog Tryd.laysM146_ren := {
  mixed := by kernel_rfl
  f138 := Tryd.func55.trans (congrArg some (by kernel_rfl))
  f143 := Tryd.func56.trans (congrArg some (by kernel_rfl))
  f146 := Tryd.func44.trans (congrArg some (by kernel_rfl))
  f195 := Tryd.func59.trans (congrArg some (by kernel_rfl))
  f197 := Tryd.func60.trans (congrArg some (by kernel_rfl))
  f217 := Tryd.func57.trans (congrArg some (by kernel_rfl))
  f218 := Tryd.func61.trans (congrArg some (by kernel_rfl))
  f219 := Tryd.func62.trans (congrArg some (by kernel_rfl))
  f221 := Tryd.func50.trans (congrArg some (by kernel_rfl))
  f224 := Tryd.func66.trans (congrArg some (by kernel_rfl))
  f225 := Tryd.func65.trans (congrArg some (by kernel_rfl))
  f260 := Tryd.func64.trans (congrArg some (by kernel_rfl))
  f266 := Tryd.func63.trans (congrArg some (by kernel_rfl))
  f267 := Tryd.func67.trans (congrArg some (by kernel_rfl))
  f268 := Tryd.func54.trans (congrArg some (by kernel_rfl))
  f314 := Tryd.func68.trans (congrArg some (by kernel_rfl))
  t0 := Tryd.underlying0
  a0 := Tryd.isAgg0
  z0 := Tryd.sizeOf0
  v0 := Tryd.zeroValue0
  t3 := Tryd.underlying3
  a3 := Tryd.isAgg3
  z3 := Tryd.sizeOf3
  v3 := Tryd.zeroValue3
  t4 := Tryd.underlying4
  a4 := Tryd.isAgg4
  z4 := Tryd.sizeOf4
  v4 := Tryd.zeroValue4
  t5 := Tryd.underlying5
  a5 := Tryd.isAgg5
  z5 := Tryd.sizeOf5
  v5 := Tryd.zeroValue5
  t9 := Tryd.underlying9
  a9 := Tryd.isAgg9
  z9 := Tryd.sizeOf9
  v9 := Tryd.zeroValue9
  t21 := Tryd.underlying21
  a21 := Tryd.isAgg21
  z21 := Tryd.sizeOf21
  v21 := Tryd.zeroValue21
  t31 := Tryd.underlying64
  a31 := Tryd.isAgg64
  z31 := Tryd.sizeOf64
  v31 := Tryd.zeroValue64
  t46 := Tryd.underlying86
  a46 := Tryd.isAgg86
  z46 := Tryd.sizeOf86
  v46 := Tryd.zeroValue86
  t51 := Tryd.underlying22
  a51 := Tryd.isAgg22
  z51 := Tryd.sizeOf22
  v51 := Tryd.zeroValue22
  t105 := Tryd.underlying100
  a105 := Tryd.isAgg100
  z105 := Tryd.sizeOf100
  v105 := Tryd.zeroValue100
  t119 := Tryd.underlying103
  a119 := Tryd.isAgg103
  z119 := Tryd.sizeOf103
  t138 := Tryd.underlying105
  a138 := Tryd.isAgg105
  z138 := Tryd.sizeOf105
  v138 := Tryd.zeroValue105
  t139 := Tryd.underlying106
  a139 := Tryd.isAgg106
  z139 := Tryd.sizeOf106
  v139 := Tryd.zeroValue106
  t146 := Tryd.underlying107
  a146 := Tryd.isAgg107
  z146 := Tryd.sizeOf107
  v146 := Tryd.zeroValue107
  g1 := by kernel_rfl
  g3 := by kernel_rfl
  g4 := by kernel_rfl
  i0 := by kernel_rfl
  i3 := by kernel_rfl
  i4 := by kernel_rfl
  i5 := by kernel_rfl
  i9 := by kernel_rfl
  i21 := by kernel_rfl
  i31 := by kernel_rfl
  i46 := by kernel_rfl
  i51 := by kernel_rfl
  i105 := by kernel_rfl
  i138 := by kernel_rfl
  i139 := by kernel_rfl
  i146 := by kernel_rfl
  m1 := by kernel_rfl
  s1_3 := fun w h => Go.Proofs.cell_of_shapedOpen_int (zero := #[.int .i64 0]) (t := 3) h (of_decide_eq_true (by kernel_rfl)) (by kernel_rfl) rfl (by kernel_rfl) (by kernel_rfl) Tryd.underlying3
  m3 := by kernel_rfl
  m4 := by kernel_rfl }
open Go.RowKit in
theorem Tryd.Builder_WriteString (B b : Nat) (bs : List Value) (s : ByteArray) (w : World) (h : Lib.IsBuilder 54 5 B b bs w) (hlen : bs.length + s.size ≤ 140737488355328) (hBw : B ≤ w.heap.size) :
    Calls Tryd.prog 24 #[.pointer (some ⟨b, 0, none⟩), .string s] w fun e w' => e = .returned (.tuple #[.int .i64 s.size, .nilIface]) ∧ (Lib.BuilderAt 54 5 B b (.pointer (some ⟨b, 0, none⟩)) (bs ++ Lib.strCells s) w' ∧ Below B w w') :=
  Any.Builder_WriteString { Tryd.lays156 with } Tryd.Builder_Extra_156 B b bs s w h hlen hBw
open Go.RowKit in
theorem Tryd.Builder_String_any (B b : Nat) (l : List UInt8) (w : World) (h : Lib.IsBuilder 54 5 B b (Lib.byteCells l) w) (hBw : B ≤ w.heap.size) :
    Calls Tryd.prog 26 #[.pointer (some ⟨b, 0, none⟩)] w fun e w' => e = .returned (.string ⟨l.toArray⟩) ∧ Below B w w' :=
  Any.Builder_String_any { Tryd.lays156 with } Tryd.Builder_Extra_156 B b l w h hBw
open Go.RowKit in
theorem Tryd.Builder_WriteString_k (B b : Nat) (bs : List Value) (s : ByteArray) (w : World) (h : Lib.IsBuilderF 54 5 B b bs w) (hlen : bs.length + s.size ≤ 140737488355328) (hBw : B ≤ w.heap.size) :
    Calls Tryd.prog 24 #[.pointer (some ⟨b, 0, none⟩), .string s] w fun e w' => e = .returned (.tuple #[.int .i64 s.size, .nilIface]) ∧ (Lib.BuilderAtF 54 5 B b (.pointer (some ⟨b, 0, none⟩)) (bs ++ Lib.strCells s) w' ∧ Below B w w' ∧ Lib.OthersKept 5 (some b) w w') :=
  Any.Builder_WriteString_k { Tryd.lays156 with } Tryd.Builder_Extra_156 B b bs s w h hlen hBw
open Go.RowKit in
theorem Tryd.Builder_String_any_k (B b : Nat) (l : List UInt8) (w : World) (h : Lib.IsBuilderF 54 5 B b (Lib.byteCells l) w) (hBw : B ≤ w.heap.size) :
    Calls Tryd.prog 26 #[.pointer (some ⟨b, 0, none⟩)] w fun e w' => e = .returned (.string ⟨l.toArray⟩) ∧ (Lib.IsBuilderF 54 5 B b (Lib.byteCells l) w' ∧ Below B w w' ∧ Lib.OthersKept 5 (some b) w w') :=
  Any.Builder_String_any_k { Tryd.lays156 with } Tryd.Builder_Extra_156 B b l w h hBw
theorem Tryd.maxLen_cell (w : World) (h : w.ShapedOpen Tryd.prog) : ∃ m, w.cell? ⟨0, 0, none⟩ = some (.int .i64 m) := Tryd.laysM146.s1_3 w h
end Go.Proofs
/- Walks: a byte's two digits, a line of a word, an address and bytes: the program's. -/
set_option linter.unusedVariables false
set_option linter.unusedSimpArgs false
namespace Go.Proofs.YtnigkecpiolgeaaDoor.My
open Go.RowKit
section
variable {P : Program} {ops : Array Oper} {o : Oper} {a : Act} {w : World} {Q : Exit → Act → World → Prop} {K : Act → World → Prop} {E : Prop} {S : World → Prop}
theorem yieldsStr (hw : Region.wanted o (yielded ops a.tmps) = true) (t : TypeId) (x y : Operand) (ho : o.op = .index t x y) (ht : P.underlying t = some .string) (s : ByteArray) (hx : a.eval x = .string s) (k : IntKind) (i : Int) (hy : a.eval y = .int k i) (j c : Nat) (hi : i = (j : Int)) (hj : j < s.size) (hc : bAt s j = c) : YieldsIf P ops S o (.int .u8 c) a :=
  .inl ⟨hw, fun w _ => by
    subst hi hc
    unfold execOp
    have hr := run_index_string (P := P) (w := w) t s k (j : Int) ht
    rw [dif_pos (by omega)] at hr
    simp only [Int.toNat_natCast, bAt_eq hj] at hr
    simp only [ho, hx, hy, Sem.run_bind, Sem.run_pure, hr, Result.andThen_ok]⟩
theorem rgLit (hw : Region.wanted o (yielded ops a.tmps) = true) (t : TypeId) (m : Nat) (parts : Array (Nat × Operand)) (ho : o.op = .buildSlice t m parts) (cs : Array Value) (e : TypeId)
    (hrun : ∀ w, (execOp a.eval o).run P w = .ok (.value (.slice (some ⟨w.heap.size, 0, none⟩) m m)) (w.alloc (.cells cs e)))
    (h : ∀ (g : Nat) (w2 : World), w.heap.size ≤ g → g < w2.heap.size → w2.heap[g]? = some (.cells cs e (0, 0)) → Below w.heap.size w w2 → K (a.put o.dst (.slice (some ⟨g, 0, none⟩) m m)) w2) : if Region.wanted o (yielded ops a.tmps) = true then Oper.wp P o a w K Q else E := by
  rw [if_pos hw]
  unfold Oper.wp
  rw [hrun]
  exact h _ _ (Nat.le_refl _) (by simp) (heap_alloc_new _ _) ((Below.refl _ _).alloc (Nat.le_refl _) _)
theorem rgBack (hw : Region.wanted o (yielded ops a.tmps) = true) (src dst e : TypeId) (x : Operand) (ho : o.op = .convert src dst x) (hs : P.underlying src = some (.slice e)) (he : P.underlying e = some (.int .u8)) (hd : P.underlying dst = some .string)
    (g off n cap : Nat) (hx : a.eval x = .slice (some ⟨g, off, none⟩) n cap) (l : List UInt8) (hl : l.length = n) {t : TypeId} {cur : Array Value} {fr : Nat × Nat} (hg : w.heap[g]? = some (.cells cur t fr)) (hc : ∀ j (hj : j < l.length), cur[off + j]? = some (.int .u8 (l[j].toNat : Int)))
    (hk : K (a.put o.dst (.string ⟨l.toArray⟩)) w) : if Region.wanted o (yielded ops a.tmps) = true then Oper.wp P o a w K Q else E := by
  subst hl
  rw [if_pos hw]
  unfold Oper.wp execOp
  have hr := run_convert_bytes_back (P := P) w src dst e ⟨g, off, none⟩ cap l hs he hd (fun j hj => by
    rw [addr_add, cell_of_row w g (off + j) _ _ _ hg]
    exact hc j hj)
  simp only [ho, hx, Sem.run_bind, Sem.run_pure, hr, Result.andThen_ok]
  exact hk
end
/-- A byte's two digits. -/
def twoL (c : Nat) : List UInt8 := [hd (c / 16), hd (c % 16)]
theorem and_15b {n : Nat} (h : n < 256) : bits .and .u8 (n : Int) 15 = ((n % 16 : Nat) : Int) := by
  have := bits_mask .u8 8 (by decide) (fun n a b => by rw [IntKind.wrap_u8]; omega) 4 (by decide) (n : Int) (by omega) (by omega)
  have e : (2 : Int) ^ 4 - 1 = 15 := by decide
  rw [e] at this
  rw [this]
  rfl
set_option maxRecDepth 100000 in
theorem two_any (c : Nat) (w : World) (h : c < 256) : Calls Tryd.prog 40 #[.int .u8 c] w fun e w' => e = .returned (.string (bs (twoL c))) ∧ Below w.heap.size w w' := by
  have HB := keepBd (startB w) 1
  have e1 := and_15b h
  go_enter Tryd.func40, Tryd.ntmps40
  go_wp2
  refine rgStart (S := (fun _ => True)) (n := 9) #[false, false, false, false, false, false, false, false, false] (by kernel_rfl) rfl rfl trivial (fun hHeld => ?_)
  refine rgTake (i := 0) (N := some 3) (oi := { dst := some 3, op := Op.move (Operand.tmp 0), type := 5, pos := "rom.go:68", after := #[], guard := none }) (v := ?_) #[true, false, false, false, false, false, false, false, false] rfl rfl (by kernel_rfl) (fun _ _ _ h => h) (Or.inl ⟨by rfl, ?_⟩) hHeld ?_
  rotate_left
  · intro w' hSw; (try dsimp only at hSw); skip; go_simp; try with_reducible rfl
  simp only [Act.put, List.setIfInBounds_toArray, List.set_cons_zero, List.set_cons_succ]
  refine rgTake (i := 1) (N := some 4) (oi := { dst := some 4, op := Op.binOp BinOp.shr 5 (Operand.tmp 3) (Operand.const (Value.int IntKind.u64 4)) 86, type := 5, pos := "rom.go:68", after := #[{ on := 0, ground := Ground.data }], guard := none }) (v := ?_) #[true, true, false, false, false, false, false, false, false] rfl rfl (by kernel_rfl) (fun _ _ _ h => h) (Or.inl ⟨by rfl, ?_⟩) hHeld ?_
  rotate_left
  · intro w' hSw; (try dsimp only at hSw); skip; go_simp; try with_reducible rfl
  simp only [Act.put, List.setIfInBounds_toArray, List.set_cons_zero, List.set_cons_succ]
  refine rgTake (i := 2) (N := some 5) (oi := { dst := some 5, op := Op.index 9 (Operand.const (Value.string { data := #[48, 49, 50, 51, 52, 53, 54, 55, 56, 57, 97, 98, 99, 100, 101, 102] })) (Operand.tmp 4), type := 5, pos := "rom.go:68", after := #[{ on := 1, ground := Ground.data }], guard := none }) (v := _) #[true, true, true, false, false, false, false, false, false] rfl rfl (by kernel_rfl) (fun _ _ _ h => h) (yieldsStr (by rfl) _ _ _ rfl Tryd.underlying9 ⟨#[48, 49, 50, 51, 52, 53, 54, 55, 56, 57, 97, 98, 99, 100, 101, 102]⟩ rfl _ _ rfl (c / 16) _ (by omega) (show c / 16 < 16 by omega) (dig_at (by omega))) hHeld ?_
  simp only [Act.put, List.setIfInBounds_toArray, List.set_cons_zero, List.set_cons_succ]
  refine rgTake (i := 3) (N := some 6) (oi := { dst := some 6, op := Op.move (Operand.tmp 0), type := 5, pos := "rom.go:68", after := #[], guard := none }) (v := ?_) #[true, true, true, true, false, false, false, false, false] rfl rfl (by kernel_rfl) (fun _ _ _ h => h) (Or.inl ⟨by rfl, ?_⟩) hHeld ?_
  rotate_left
  · intro w' hSw; (try dsimp only at hSw); skip; go_simp; try with_reducible rfl
  simp only [Act.put, List.setIfInBounds_toArray, List.set_cons_zero, List.set_cons_succ]
  refine rgTake (i := 4) (N := some 7) (oi := { dst := some 7, op := Op.binOp BinOp.and 5 (Operand.tmp 6) (Operand.const (Value.int IntKind.u8 15)) 5, type := 5, pos := "rom.go:68", after := #[{ on := 3, ground := Ground.data }], guard := none }) (v := ?_) #[true, true, true, true, true, false, false, false, false] rfl rfl (by kernel_rfl) (fun _ _ _ h => h) (Or.inl ⟨by rfl, ?_⟩) hHeld ?_
  rotate_left
  · intro w' hSw; (try dsimp only at hSw); skip; go_simp; try with_reducible rfl
  simp only [Act.put, List.setIfInBounds_toArray, List.set_cons_zero, List.set_cons_succ]
  refine rgTake (i := 5) (N := some 8) (oi := { dst := some 8, op := Op.index 9 (Operand.const (Value.string { data := #[48, 49, 50, 51, 52, 53, 54, 55, 56, 57, 97, 98, 99, 100, 101, 102] })) (Operand.tmp 7), type := 5, pos := "rom.go:68", after := #[{ on := 4, ground := Ground.data }], guard := none }) (v := _) #[true, true, true, true, true, true, false, false, false] rfl rfl (by kernel_rfl) (fun _ _ _ h => h) (yieldsStr (by rfl) _ _ _ rfl Tryd.underlying9 ⟨#[48, 49, 50, 51, 52, 53, 54, 55, 56, 57, 97, 98, 99, 100, 101, 102]⟩ rfl _ _ rfl (c % 16) _ (by first | rfl | omega) (show c % 16 < 16 by omega) (dig_at (by omega))) hHeld ?_
  simp only [Act.put, List.setIfInBounds_toArray, List.set_cons_zero, List.set_cons_succ]
  refine rgCall (i := 6) (N := some 9) (oi := { dst := some 9, op := Op.buildSlice 26 2 #[(0, Operand.tmp 5), (1, Operand.tmp 8)], type := 26, pos := "rom.go:68", after := #[{ on := 2, ground := Ground.data }, { on := 5, ground := Ground.data }], guard := none }) #[true, true, true, true, true, true, true, false, false] rfl rfl (by kernel_rfl) (fun K hK => ?_)
  refine rgLit (by rfl) 26 2 _ rfl #[.int .u8 ((hd (c / 16)).toNat : Int), .int .u8 ((hd (c % 16)).toNat : Int)] 5 (fun _ => by kernel_rfl) ?_; intro g w2 hg1 hg2 ha hb; replace HB := keepB HB hb; have HA := Lib.hid ha; clear ha hb
  refine hK.out _ _ trivial (fun hHeld => ?_)
  (try simp only [Act.put, List.setIfInBounds_toArray, List.set_cons_zero, List.set_cons_succ])
  clear hK K
  refine rgCall (i := 7) (N := some 10) (oi := { dst := some 10, op := Op.convert 26 9 (Operand.tmp 9), type := 9, pos := "rom.go:68", after := #[{ on := 6, ground := Ground.data }], guard := none }) #[true, true, true, true, true, true, true, true, false] rfl rfl (by kernel_rfl) (fun K hK => ?_)
  refine rgBack (by rfl) _ _ 5 _ rfl Tryd.underlying26 Tryd.underlying5 Tryd.underlying9 g 0 2 2 rfl (twoL c) rfl HA.out (fun j hj => by have hj2 : j < 2 := hj; match j, hj2 with | 0, _ => rfl | 1, _ => rfl) ?_
  refine hK.out _ _ trivial (fun hHeld => ?_)
  (try simp only [Act.put, List.setIfInBounds_toArray, List.set_cons_zero, List.set_cons_succ])
  clear hK K
  refine rgTake (i := 8) (N := some 2) (oi := { dst := some 2, op := Op.assign (Operand.tmp 10), type := 9, pos := "rom.go:68", after := #[{ on := 7, ground := Ground.data }, { on := 0, ground := Ground.phase }, { on := 1, ground := Ground.phase }, { on := 2, ground := Ground.phase }, { on := 3, ground := Ground.phase }, { on := 4, ground := Ground.phase }, { on := 5, ground := Ground.phase }, { on := 6, ground := Ground.phase }, { on := 7, ground := Ground.phase }], guard := none }) (v := ?_) #[true, true, true, true, true, true, true, true, true] rfl rfl (by kernel_rfl) (fun _ _ _ h => h) (Or.inl ⟨by rfl, ?_⟩) hHeld ?_
  rotate_left
  · intro w' hSw; (try dsimp only at hSw); skip; go_simp; try with_reducible rfl
  simp only [Act.put, List.setIfInBounds_toArray, List.set_cons_zero, List.set_cons_succ]
  refine rgDone (by kernel_rfl) ?_ _
  go_wp2
  go_ret
  exact ⟨rfl, HB.out.1⟩
/-- A builder of the call's own that holds these bytes. -/
abbrev IsBd (w : World) (g : Nat) (l : List UInt8) : Prop := Lib.IsBuilder 54 5 g g (Lib.byteCells l) w
theorem bdAt_below {w w' : World} {T e : TypeId} {B b : Nat} {p : Value} {cs : List Value} (h : Lib.BuilderAt T e B b p cs w) (hb : Below w.heap.size w w') : Lib.BuilderAt T e B b p cs w' := by
  obtain ⟨h1, v, h2, h3, h4⟩ := h
  exact ⟨h1, v, (hb.block b (Array.getElem?_eq_some_iff.1 h2).1).trans h2, ownk_below h3 hb, h4⟩
theorem IsBd.below {w w' : World} {g : Nat} {l : List UInt8} (h : IsBd w g l) (hb : Below w.heap.size w w') : IsBd w' g l := by
  rcases h with h | h
  · exact .inl (bdAt_below h hb)
  · exact .inr (bdAt_below h hb)
theorem IsBd.lt {w : World} {g : Nat} {l : List UInt8} (h : IsBd w g l) : g < w.heap.size := by
  rcases h with h | h
  · exact h.lt
  · exact h.lt
theorem IsBd.fresh (w : World) : IsBd (w.alloc (.cells #[.pointer none, .slice none 0 0] 54)) w.heap.size [] := Lib.fresh_isBuilder _ _ _
theorem bd_write (g : Nat) (l m : List UInt8) (w : World) (h : IsBd w g l) (hm : l.length + m.length ≤ 100000000) : Calls Tryd.prog 24 #[.pointer (some ⟨g, 0, none⟩), .string (bs m)] w fun e w' => (∃ v, e = .returned v) ∧ IsBd w' g (l ++ m) ∧ Below g w w' := by
  refine (Tryd.Builder_WriteString g g _ (bs m) w h (by rw [Lib.byteCells_length, bs_size]; omega) (Nat.le_of_lt h.lt)).mono ?_
  rintro e w' ⟨rfl, h1, h2⟩
  refine ⟨⟨_, rfl⟩, ?_, h2⟩
  have e : Lib.byteCells l ++ Lib.strCells (bs m) = Lib.byteCells (l ++ m) := by rw [Lib.byteCells_append]; rfl
  rw [e] at h1
  exact .inr h1
theorem bd_string (g : Nat) (l : List UInt8) (w : World) (h : IsBd w g l) : Calls Tryd.prog 26 #[.pointer (some ⟨g, 0, none⟩)] w fun e w' => e = .returned (.string (bs l)) ∧ Below g w w' := Tryd.Builder_String_any g g l w h (Nat.le_of_lt h.lt)
theorem below_le {B B' : Nat} {w w' : World} (h : Below B' w w') (hB : B ≤ B') : Below B w w' := ⟨h.os, h.tape, h.output, h.size, fun i hi => h.block i (by omega)⟩
theorem RdA.belowG {k : IntKind} {w w' : World} {A : Option Addr} {n B : Nat} {xs : List Int} (h : RdA k w A n xs) (hb : Below B w w') (hB : ∀ a, A = some a → a.block < B) : RdA k w' A n xs :=
  ⟨h.1, fun hn => by
    obtain ⟨b, off, rfl, hc⟩ := h.2 hn
    refine ⟨b, off, rfl, fun j hj => ?_⟩
    have h1 := hc j hj
    unfold World.cell? at h1 ⊢
    simp only [hb.block b (hB _ rfl)]
    exact h1⟩
theorem own_belowG {w w' : World} {B B' e k n : Nat} {v : Value} {xs : List Value} (h : w.ownsRow B e k v n xs) (hb : Below B' w w') (hB : ∀ g, v.ownBlock = some g → g < B') : w'.ownsRow B e k v n xs := by
  refine ⟨h.1, ?_⟩
  rcases h.2 with h | ⟨g, cap, cur, rfl, h2, h3, h4⟩
  · exact .inl h
  · exact .inr ⟨g, cap, cur, rfl, h2, (hb.block g (hB g rfl)).trans h3, h4⟩
/-- The digits of bytes. -/
def hexsL (d : List UInt8) : List UInt8 := d.flatMap fun c => twoL c.toNat
theorem hexsL_len (d : List UInt8) : (hexsL d).length = 2 * d.length := by
  induction d with
  | nil => rfl
  | cons c d ih =>
    have : (hexsL (c :: d)).length = 2 + (hexsL d).length := by
      show (twoL c.toNat ++ hexsL d).length = _
      rw [List.length_append]; rfl
    rw [this, ih, List.length_cons]; omega
theorem hexsL_take {d : List UInt8} {k : Nat} {c : UInt8} (h : d[k]? = some c) : hexsL (d.take k) ++ twoL c.toNat = hexsL (d.take (k + 1)) := by
  obtain ⟨h1, h2⟩ := List.getElem?_eq_some_iff.1 h
  rw [List.take_succ_eq_append_getElem h1, h2]
  simp [hexsL]
/-- The words of a line. -/
def partsL (word : List UInt8) (u : Nat) (d : List UInt8) : List (List UInt8) := word :: hexL u :: ((if d.length = 0 then [] else [hexsL d]) ++ [twoL (ckV u d)])
/-- A line of a word, an address, and bytes. -/
def lineV (word : List UInt8) (u : Nat) (d : List UInt8) : List UInt8 := Lib.join (partsL word u d) [32] ++ [10]
theorem join_own (w : World) (B : Nat) (v : Value) (ls : List (List UInt8)) (h : Own w B v (ls.map bs)) (hn : 0 < ls.length) (hm : ls.length ≤ 1000000) (hj : (Lib.join ls [32]).length ≤ 100000000) : Calls Tryd.prog 41 #[v, .string ⟨#[32]⟩] w fun e w' => e = .returned (.string (bs (Lib.join ls [32]))) ∧ Below w.heap.size w w' := by
  have hl : (ls.map bs).length = ls.length := by simp
  have em : (ls.map bs).map (·.data.toList) = ls := by
    rw [List.map_map]
    conv => rhs; rw [← List.map_id ls]
    apply List.map_congr_left
    intro l _
    rfl
  rcases h.2 with ⟨_, h0⟩ | ⟨g, cap, cur, rfl, hB, hcur, hcap, _⟩
  · omega
  · have := Tryd.strings_Join g 0 cap (ls.map bs) ⟨#[32]⟩ w (fun j x hx => by
      have hc := h.cells (g := g) rfl j (.string x) (by rw [List.getElem?_map, hx]; rfl)
      rwa [addr_add] at hc) (Array.getElem?_eq_some_iff.1 hcur).1 (by omega) hcap (by rw [em]; exact Nat.le_trans hj (by decide))
    rw [em] at this
    exact this
end Go.Proofs.YtnigkecpiolgeaaDoor.My
/- Walk: a line of a word, an address, and bytes: the program's. -/
set_option linter.unusedVariables false
set_option linter.unusedSimpArgs false
namespace Go.Proofs.YtnigkecpiolgeaaDoor.My
open Go.RowKit
theorem hexL_len (u : Nat) : (hexL u).length = 8 := rfl
theorem partsL_len (word : List UInt8) (u : Nat) (d : List UInt8) : (partsL word u d).length ≤ 4 := by
  unfold partsL
  split <;> simp
theorem joinL_len (ls : List (List UInt8)) (m : Nat) (h : ∀ l ∈ ls, l.length ≤ m) : (Lib.join ls [32]).length ≤ ls.length * (m + 1) := by
  induction ls with
  | nil => exact Nat.zero_le _
  | cons a r ih =>
    have ha := h a (by simp)
    have hr := ih (fun l hl => h l (by simp [hl]))
    cases r with
    | nil => simp [Lib.join_one]; omega
    | cons b r =>
      have e : Lib.join (a :: b :: r) [32] = a ++ 32 :: Lib.join (b :: r) [32] := by simp [Lib.join, List.intercalate, List.intersperse]
      rw [e, List.length_append, List.length_cons, List.length_cons (a := a), Nat.add_mul]
      omega
theorem parts_join (word : List UInt8) (u : Nat) (d : List UInt8) (hw : word.length ≤ 1000000) (hd : d.length ≤ 1000000) : (Lib.join (partsL word u d) [32]).length ≤ 90000000 := by
  refine Nat.le_trans (joinL_len _ 2000000 ?_) ?_
  · intro l hl
    unfold partsL at hl
    simp only [List.mem_cons, List.mem_append, List.mem_nil_iff, or_false] at hl
    rcases hl with rfl | rfl | hl | rfl
    · omega
    · rw [hexL_len]; omega
    · split at hl
      · cases hl
      · simp only [List.mem_cons, List.mem_nil_iff, or_false] at hl
        subst hl
        rw [hexsL_len]; omega
    · show 2 ≤ _; omega
  · have := partsL_len word u d
    have : (partsL word u d).length * (2000000 + 1) ≤ 4 * 2000001 := Nat.mul_le_mul_right _ this
    omega
theorem own2 {w : World} {g : Nat} {a b : List UInt8} (h : w.heap[g]? = some (.cells #[.string (bs a), .string (bs b)] 9 (0, 0))) : Own w g (.slice (some ⟨g, 0, none⟩) 2 2) ([a, b].map bs) := ⟨rfl, .inr ⟨g, 2, _, rfl, Nat.le_refl _, h, Nat.le_refl _, by decide, rfl, rfl⟩⟩
theorem own_more {w : World} {B n : Nat} {v : Value} {ls ms : List (List UInt8)} {x : List UInt8} (h : w.ownsRow B 9 1 v (n + 1) ((ls.map bs).map Value.string ++ [.string (bs x)])) (hn : ls.length = n) (he : ls ++ [x] = ms) : Own w B v (ms.map bs) := by
  subst he; subst hn
  unfold Own
  rw [List.map_append, List.map_append, List.length_append, List.length_map]
  exact h
theorem nil_rd (w : World) : RdA .u8 w none ([] : List UInt8).length (ints []) := ⟨rfl, fun h => absurd h (by decide)⟩
theorem cks_nil (u : Nat) (w : World) (hu : u < 4294967296) : Calls Tryd.prog 42 #[.int .u32 u, .slice none 0 0] w fun e w' => e = .returned (.int .u8 ((ckV u [] : Nat) : Int)) ∧ Below w.heap.size w w' := cks_any u 0 none [] w hu (nil_rd w) (fun _ => ⟨rfl, rfl⟩) (by decide)
set_option maxRecDepth 100000 in
set_option maxHeartbeats 1000000 in
theorem line_nil (word : List UInt8) (u : Nat) (w : World) (hu : u < 4294967296) (hw : word.length ≤ 1000000) : Calls Tryd.prog 25 #[.string (bs word), .int .u32 u, .slice none 0 0] w fun e w' => e = .returned (.string (bs (lineV word u []))) ∧ Below w.heap.size w w' := by
  have hm : ([] : List UInt8).length ≤ 1000000 := by decide
  have HB := startB w
  have hj := parts_join word u [] hw hm
  obtain ⟨T, hT⟩ : ∃ T, twoL (ckV u []) = T := ⟨_, rfl⟩
  have hP : [word, hexL u] ++ [T] = partsL word u [] := by rw [← hT]; rfl
  obtain ⟨Z, hZ⟩ : ∃ Z, partsL word u [] = Z := ⟨_, rfl⟩
  have hn0 : 0 < Z.length := by rw [← hZ]; unfold partsL; simp
  have hn1 : Z.length ≤ 1000000 := by have := partsL_len word u []; rw [← hZ]; omega
  unfold lineV
  rw [hZ] at hP hj ⊢
  obtain ⟨J, hJ⟩ : ∃ J, Lib.join Z [32] = J := ⟨_, rfl⟩
  rw [hJ] at hj ⊢
  have HJ := Lib.hid hJ
  have HT := Lib.hid hT
  have HP := Lib.hid hP
  clear hP hJ hT hZ
  go_enter Tryd.func25, Tryd.ntmps25
  go_wp2_with (first | (go_at_call 39; refine (hex_any u _ hu).mono ?_; rintro e w1 ⟨rfl, hb⟩; skip; replace HB := keepB HB hb; clear hb) | (refine wlLit rfl 64 2 _ rfl #[.string (bs word), .string (bs (hexL u))] 9 (fun _ => by kernel_rfl) ?_; intro gP w2 hg1 hg2 ha hb; have HO : Hid (Own w2 gP (.slice (some ⟨gP, 0, none⟩) 2 2) ([word, hexL u].map bs)) := Lib.hid (own2 ha); have HGP : Hid (w.heap.size ≤ gP ∧ gP < w2.heap.size) := Lib.hid ⟨Nat.le_trans HB.out.2 hg1, hg2⟩; skip; replace HB := keepB HB hb; clear ha hb hg1 hg2) | (go_at_call 42; refine (cks_nil u _ hu).mono ?_; rintro e w3 ⟨rfl, hb⟩; skip; replace HB := keepB HB hb; replace HO := Lib.hid (ownk_below HO.out hb); clear hb) | (go_at_call 40; refine (two_any (ckV u []) _ (ckV_lt u [])).mono ?_; rw [HT.out]; rintro e w4 ⟨rfl, hb⟩; skip; replace HB := keepB HB hb; replace HO := Lib.hid (ownk_below HO.out hb); clear hb) | (refine appOne rfl _ _ 64 9 (.string ⟨#[]⟩) 16 rfl Tryd.underlying64 infoStr rfl gP _ 2 _ rfl HO.out (.string (bs T)) rfl _ rfl (by decide) (by decide) (Nat.le_of_lt (HO.out.lt gP rfl).2) ?_; intro v2 w5 ho2 hb2; have HO2 := Lib.hid (own_more ho2 rfl HP.out); replace HB := keepBg HB HGP.out.1 hb2; clear ho2 hb2) | (go_at_call 41; refine (join_own _ gP _ _ HO2.out hn0 hn1 (by rw [HJ.out]; omega)).mono ?_; rw [HJ.out]; rintro e w6 ⟨rfl, hb⟩; replace HB := keepB HB hb; clear hb) | (refine strAdd rfl _ _ _ _ rfl (bs J) (bs [10]) (bs (J ++ [10])) rfl rfl (by rw [bs_size, bs_size]; show J.length + 1 ≤ _; omega) (bs_add _ _) ?_))
  go_ret
  exact ⟨rfl, HB.out.1⟩
end Go.Proofs.YtnigkecpiolgeaaDoor.My
/- Walk: a line of a word, an address, and bytes: the program's; bytes there are. -/
set_option linter.unusedVariables false
set_option linter.unusedSimpArgs false
namespace Go.Proofs.YtnigkecpiolgeaaDoor.My
open Go.RowKit
set_option maxRecDepth 100000 in
set_option maxHeartbeats 2000000 in
theorem line_some (word : List UInt8) (u c : Nat) (A : Option Addr) (d : List UInt8) (w : World) (hu : u < 4294967296) (hx : RdA .u8 w A d.length (ints d)) (hm : d.length ≤ 1000000) (hw : word.length ≤ 1000000) (hd : ¬ d.length = 0) : Calls Tryd.prog 25 #[.string (bs word), .int .u32 u, .slice A d.length c] w fun e w' => e = .returned (.string (bs (lineV word u d))) ∧ Below w.heap.size w w' := by
  have HX := Lib.hid hx
  have HB := startB w
  have hj := parts_join word u d hw hm
  obtain ⟨T, hT⟩ : ∃ T, twoL (ckV u d) = T := ⟨_, rfl⟩
  obtain ⟨D, hD⟩ : ∃ D, hexsL d = D := ⟨_, rfl⟩
  obtain ⟨L3, hL3⟩ : ∃ L3, [word, hexL u] ++ [D] = L3 := ⟨_, rfl⟩
  have hl3 : L3.length = 3 := by rw [← hL3]; rfl
  have hP : L3 ++ [T] = partsL word u d := by rw [← hL3, ← hD, ← hT]; unfold partsL; rw [if_neg hd]; rfl
  obtain ⟨Z, hZ⟩ : ∃ Z, partsL word u d = Z := ⟨_, rfl⟩
  have hn0 : 0 < Z.length := by rw [← hZ]; unfold partsL; simp
  have hn1 : Z.length ≤ 1000000 := by have := partsL_len word u d; rw [← hZ]; omega
  unfold lineV
  rw [hZ] at hP hj ⊢
  obtain ⟨J, hJ⟩ : ∃ J, Lib.join Z [32] = J := ⟨_, rfl⟩
  rw [hJ] at hj ⊢
  obtain ⟨b, off, rfl, _⟩ := hx.2 (by omega)
  have HBW : Hid (b < w.heap.size) := Lib.hid (hx.lt _ rfl (by omega))
  have q0 : decide (0 < d.length) = true := decide_eq_true (by omega)
  have HJ := Lib.hid hJ
  have HT := Lib.hid hT
  have HDD0 := Lib.hid hD
  have HP := Lib.hid hP
  have HP3 := Lib.hid hL3
  have HL3 := Lib.hid hl3
  clear hx hP hJ hT hZ hD hL3 hl3
  go_enter Tryd.func25, Tryd.ntmps25
  go_wp2_with (first | (go_at_call 39; refine (hex_any u _ hu).mono ?_; rintro e w1 ⟨rfl, hb⟩; replace HX := Lib.hid (HX.out.below hb); replace HB := keepB HB hb; clear hb) | (refine wlLit rfl 64 2 _ rfl #[.string (bs word), .string (bs (hexL u))] 9 (fun _ => by kernel_rfl) ?_; intro gP w2 hg1 hg2 ha hb; have HO : Hid (Own w2 gP (.slice (some ⟨gP, 0, none⟩) 2 2) ([word, hexL u].map bs)) := Lib.hid (own2 ha); have HGP : Hid (w.heap.size ≤ gP ∧ gP < w2.heap.size) := Lib.hid ⟨Nat.le_trans HB.out.2 hg1, hg2⟩; replace HX := Lib.hid (HX.out.below hb); replace HB := keepB HB hb; clear ha hb hg1 hg2))
  have HD := Lib.hid (IsBd.fresh w2)
  have HGW : Hid (w.heap.size ≤ w2.heap.size) := Lib.hid HB.out.2
  have HBL : Hid (b < w2.heap.size) := Lib.hid (Nat.lt_of_lt_of_le HBW.out HB.out.2)
  replace HX := Lib.hid (HX.out.below ((Below.refl _ _).alloc (Nat.le_refl _) (.cells #[.pointer none, .slice none 0 0] 54)))
  replace HO := Lib.hid (HO.out.alloc (.cells #[.pointer none, .slice none 0 0] 54))
  replace HB := keepBa HB (.cells #[.pointer none, .slice none 0 0] 54)
  go_loopw [20] (fun i wr => ∃ k : Nat, k ≤ d.length ∧ i = .int .i64 k ∧ Hid (IsBd wr w2.heap.size (hexsL (d.take k))) ∧ Hid (Own wr gP (.slice (some ⟨gP, 0, none⟩) 2 2) ([word, hexL u].map bs)) ∧ Hid (RdA .u8 wr (some ⟨b, off, none⟩) d.length (ints d)) ∧ Hid (Below w.heap.size w wr ∧ w.heap.size ≤ wr.heap.size)) (fun i _ => d.length - (intOf i).toNat)
  case atStart => exact ⟨0, Nat.zero_le _, rfl, HD, HO, HX, HB⟩
  case round =>
    clear HX HB HO HD
    obtain ⟨k, hk, rfl, HD, HO, HX, HB⟩ := hrel
    by_cases hlt : k < d.length
    · obtain ⟨b', off', hbb, hc⟩ := HX.out.2 (by omega)
      injection hbb with hbb
      injection hbb with hb1 hb2 _
      subst hb1 hb2
      obtain ⟨x, hxk⟩ : ∃ x, d[k]? = some x := ⟨_, List.getElem?_eq_getElem hlt⟩
      have e1 := hc k hlt
      rw [el_ints hxk] at e1
      have hxk2 := Lib.hid hxk
      clear hc hxk
      have hxk := hxk2.out
      go_wp2_with (first | (go_at_call 40; refine (two_any x.toNat _ x.toNat_lt).mono ?_; rintro e w4 ⟨rfl, hb⟩; replace HD := Lib.hid (HD.out.below hb); replace HO := Lib.hid (ownk_below HO.out hb); replace HX := Lib.hid (HX.out.below hb); replace HB := keepB HB hb; clear hb) | (go_at_call 24; refine (bd_write w2.heap.size _ (twoL x.toNat) _ HD.out (by rw [hexsL_len, List.length_take]; show _ + 2 ≤ _; omega)).mono ?_; rintro e w5 ⟨⟨v, rfl⟩, hd, hb⟩; rw [hexsL_take hxk] at hd; replace HD := Lib.hid hd; replace HO := Lib.hid (own_belowG HO.out hb (by intro g hg; injection hg with hg; subst hg; exact HGP.out.2)); replace HX := Lib.hid (HX.out.belowG hb (by intro a ha; injection ha with ha; subst ha; exact HBL.out)); replace HB := keepBg HB HGW.out hb; clear hb hd))
      go_roundw
      case rel => exact ⟨k + 1, by omega, by go_num, HD, HO, HX, HB⟩
      case measure => simp [intOf]; omega
    · obtain rfl : k = d.length := by omega
      have HDD : Hid (hexsL (d.take d.length) = D) := Lib.hid (by rw [List.take_length]; exact HDD0.out)
      go_wp2_with (first | (go_at_call 26; refine (bd_string w2.heap.size _ _ HD.out).mono ?_; rw [HDD.out]; rintro e w6 ⟨rfl, hb⟩; replace HO := Lib.hid (own_belowG HO.out hb (by intro g hg; injection hg with hg; subst hg; exact HGP.out.2)); replace HX := Lib.hid (HX.out.belowG hb (by intro a ha; injection ha with ha; subst ha; exact HBL.out)); replace HB := keepBg HB HGW.out hb; clear hb) | (refine appOne rfl _ _ 64 9 (.string ⟨#[]⟩) 16 rfl Tryd.underlying64 infoStr rfl gP _ _ _ rfl HO3.out (.string (bs T)) rfl _ rfl (by rw [List.length_map, HL3.out]; decide) (by rw [List.length_map, HL3.out]; decide) HZ.out ?_; intro v3 w7 ho2 hb2; have HO4 := Lib.hid (own_more ho2 (by simp) HP.out); replace HB := keepBg HB HGP.out.1 hb2; clear ho2 hb2) | (refine appOne rfl _ _ 64 9 (.string ⟨#[]⟩) 16 rfl Tryd.underlying64 infoStr rfl gP _ 2 _ rfl HO.out (.string (bs D)) rfl _ rfl (by decide) (by decide) (Nat.le_of_lt (HO.out.lt gP rfl).2) ?_; intro v2 w5 ho2 hb2; have HO3 := Lib.hid (own_more ho2 rfl HP3.out); have HZ := Lib.hid (Nat.le_trans (Nat.le_of_lt (HO.out.lt gP rfl).2) hb2.size); replace HX := Lib.hid (HX.out.belowG hb2 (by intro a ha; injection ha with ha; subst ha; exact Nat.lt_of_lt_of_le HBW.out HGP.out.1)); replace HB := keepBg HB HGP.out.1 hb2; clear ho2 hb2) | (go_at_call 42; refine (cks_any u c _ d _ hu HX.out (fun q => absurd q hd) hm).mono ?_; rintro e w3 ⟨rfl, hb⟩; replace HO3 := Lib.hid (ownk_below HO3.out hb); replace HZ := Lib.hid (Nat.le_trans HZ.out hb.size); replace HX := Lib.hid (HX.out.below hb); replace HB := keepB HB hb; clear hb) | (go_at_call 40; refine (two_any (ckV u d) _ (ckV_lt u d)).mono ?_; rw [HT.out]; rintro e w4 ⟨rfl, hb⟩; replace HO3 := Lib.hid (ownk_below HO3.out hb); replace HZ := Lib.hid (Nat.le_trans HZ.out hb.size); replace HX := Lib.hid (HX.out.below hb); replace HB := keepB HB hb; clear hb) | (go_at_call 41; refine (join_own _ gP _ _ HO4.out hn0 hn1 (by rw [HJ.out]; omega)).mono ?_; rw [HJ.out]; rintro e w6 ⟨rfl, hb⟩; replace HB := keepB HB hb; clear hb) | (refine strAdd rfl _ _ _ _ rfl (bs J) (bs [10]) (bs (J ++ [10])) rfl rfl (by rw [bs_size, bs_size]; show J.length + 1 ≤ _; omega) (bs_add _ _) ?_))
      go_ret
      exact ⟨rfl, HB.out.1⟩
end Go.Proofs.YtnigkecpiolgeaaDoor.My
/- Walk: the bytes that digits are: the program's. -/
set_option linter.unusedVariables false
set_option linter.unusedSimpArgs false
namespace Go.Proofs.YtnigkecpiolgeaaDoor.My
open Go.RowKit
theorem idx_hv (c : UInt8) : Lib.indexByte [48, 49, 50, 51, 52, 53, 54, 55, 56, 57, 97, 98, 99, 100, 101, 102] c = hv (c.toNat : Int) := by
  have key : ∀ i : Fin 256, Lib.indexByte [48, 49, 50, 51, 52, 53, 54, 55, 56, 57, 97, 98, 99, 100, 101, 102] (UInt8.ofNat i.val) = hv ((i.val : Nat) : Int) := by decide +kernel
  have h := key ⟨c.toNat, c.toNat_lt⟩
  rw [UInt8.ofNat_toNat] at h
  exact h
theorem idx_any (c : UInt8) (w : World) : Calls Tryd.prog 51 #[.string ⟨#[48, 49, 50, 51, 52, 53, 54, 55, 56, 57, 97, 98, 99, 100, 101, 102]⟩, .int .u8 (c.toNat : Int)] w fun e w' => e = .returned (.int .i64 (hv (c.toNat : Int))) ∧ w = w' := by
  refine (Tryd.strings_IndexByte ⟨#[48, 49, 50, 51, 52, 53, 54, 55, 56, 57, 97, 98, 99, 100, 101, 102]⟩ (c.toNat : Int) w).mono ?_
  rintro e w' ⟨rfl, rfl⟩
  refine ⟨?_, rfl⟩
  rw [← idx_hv]
  have : ((c.toNat : Int).toNat).toUInt8 = c := by simp
  rw [this]
/-- Two digits' byte. -/
def pairV (a b : UInt8) : UInt8 := UInt8.ofNat (16 * (hv (a.toNat : Int)).toNat + (hv (b.toNat : Int)).toNat)
/-- The bytes that digits are. -/
def hexP : List UInt8 → Option (List UInt8)
  | [] => some []
  | [_] => none
  | a :: b :: r => if hv (a.toNat : Int) < 0 ∨ hv (b.toNat : Int) < 0 then none else (hexP r).map (pairV a b :: ·)
/-- .. and whether they are digits. -/
def optB : Option (List UInt8) → List UInt8 × Bool
  | none => ([], false)
  | some r => (r, true)
def hexV (l : List UInt8) : List UInt8 × Bool := optB (hexP l)
theorem hexP_odd : ∀ (l : List UInt8), l.length % 2 = 1 → hexP l = none
  | [], h => by simp at h
  | [_], _ => rfl
  | a :: b :: r, h => by
    rw [hexP, hexP_odd r (by simp at h; omega)]
    split <;> rfl
theorem hexP_len : ∀ (l r : List UInt8), hexP l = some r → l.length = 2 * r.length
  | [], r, h => by
    injection h with h
    subst h; rfl
  | [_], r, h => by cases h
  | a :: b :: l, r, h => by
    rw [hexP] at h
    split at h
    · cases h
    · cases hq : hexP l with
      | none => rw [hq] at h; cases h
      | some q =>
        rw [hq] at h
        injection h with h
        subst h
        have := hexP_len l q hq
        simp only [List.length_cons]
        omega
theorem or_16b {N d : Int} (n0 : 0 ≤ N) (n1 : N < 16) (d0 : 0 ≤ d) (d1 : d < 16) : bits .or .i64 (N * 16) d = N * 16 + d :=
  bits_join .i64 63 (by decide) (fun n h0 h1 => by rw [IntKind.wrap_i64]; omega) 4 (N * 16) d (by omega) (by omega) (by omega) d0 (by omega) (by omega)
theorem ownB_add {w : World} {B n : Nat} {v : Value} {l : List UInt8} {k : Int} {c : UInt8} (h : w.ownsRow B 5 1 v (n + 1) ((ints l).map (Value.int .u8) ++ [.int .u8 k])) (hn : l.length = n) (hk : k = (c.toNat : Int)) : OwnB w B v (l ++ [c]) := by
  subst hn hk
  unfold OwnB
  rw [List.length_append, show ints (l ++ [c]) = ints l ++ [(c.toNat : Int)] by simp [ints], List.map_append]
  exact h
set_option maxRecDepth 100000 in
set_option maxHeartbeats 2000000 in
theorem bytes_any (l : List UInt8) (w : World) (hm : l.length ≤ 1000000) : Calls Tryd.prog 45 #[.string (bs l)] w fun e w' => (∃ v, e = .returned (.tuple #[v, .bool (hexV l).2]) ∧ OwnB w' w.heap.size v (hexV l).1) ∧ Below w.heap.size w w' := by
  have HB := startB w
  have hz := bs_size l
  have et : ((l.length : Nat) : Int).tmod 2 = ((l.length % 2 : Nat) : Int) := by rw [Int.tmod_eq_emod_of_nonneg (by omega)]; rfl
  by_cases ho : l.length % 2 = 1
  · have hv0 : hexV l = ([], false) := by unfold hexV; rw [hexP_odd l ho]; rfl
    rw [hv0]
    rw [ho] at et
    go_enter Tryd.func45, Tryd.ntmps45
    go_wp2
    go_ret2
    exact ⟨⟨_, rfl, own_nil _ _ _⟩, HB.out.1⟩
  · have ho2 : l.length % 2 = 0 := by omega
    rw [ho2] at et
    obtain ⟨H, hH⟩ : ∃ H, hexP l = H := ⟨_, rfl⟩
    have hV : hexV l = optB H := by unfold hexV; rw [hH]
    rw [hV]
    have HH : Hid ((hexP (l.drop 0)).map (([] : List UInt8) ++ ·) = H) := Lib.hid (by rw [List.drop_zero, hH]; cases H <;> rfl)
    have HO : Hid (OwnB w w.heap.size (.slice none 0 0) []) := Lib.hid (own_nil _ _ _)
    clear hH hV ho
    go_enter Tryd.func45, Tryd.ntmps45
    go_wp2
    go_loopw [4, 5] (fun v i wr => ∃ (j : Nat) (acc : List UInt8), j ≤ l.length ∧ j % 2 = 0 ∧ acc.length ≤ j ∧ i = .int .i64 j ∧ Hid ((hexP (l.drop j)).map (acc ++ ·) = H) ∧ Hid (OwnB wr w.heap.size v acc) ∧ Hid (Below w.heap.size w wr ∧ w.heap.size ≤ wr.heap.size)) (fun _ i _ => l.length - (intOf i).toNat)
    case atStart => exact ⟨0, [], Nat.zero_le _, rfl, Nat.le_refl _, rfl, HH, HO, HB⟩
    case round =>
      clear HH HO HB
      obtain ⟨j, acc, hj, hj2, hal, rfl, HH, HO, HB⟩ := hrel
      by_cases hlt : j < l.length
      · obtain ⟨a, ha⟩ : ∃ a, l[j]? = some a := ⟨_, List.getElem?_eq_getElem hlt⟩
        obtain ⟨b, hb⟩ : ∃ b, l[j + 1]? = some b := ⟨_, List.getElem?_eq_getElem (by omega)⟩
        obtain ⟨ha1, ha2⟩ := List.getElem?_eq_some_iff.1 ha
        obtain ⟨hb1, hb2⟩ := List.getElem?_eq_some_iff.1 hb
        have HA : Hid (bAt (bs l) j = a.toNat) := Lib.hid (by rw [bs_at ha1, ha2])
        have HC : Hid (bAt (bs l) (j + 1) = b.toNat) := Lib.hid (by rw [bs_at hb1, hb2])
        have hd : l.drop j = a :: b :: l.drop (j + 2) := by rw [List.drop_eq_getElem_cons ha1, ha2, List.drop_eq_getElem_cons hb1, hb2]
        have hh := HH.out
        rw [hd, hexP] at hh
        have la := hv_lt (a.toNat : Int)
        have lb := hv_lt (b.toNat : Int)
        obtain ⟨X, hX⟩ : ∃ X, hv (a.toNat : Int) = X := ⟨_, rfl⟩
        obtain ⟨Y, hY⟩ : ∃ Y, hv (b.toNat : Int) = Y := ⟨_, rfl⟩
        have hpv : pairV a b = UInt8.ofNat (16 * X.toNat + Y.toNat) := by unfold pairV; rw [hX, hY]
        rw [hX, hY] at hh
        rw [hX] at la
        rw [hY] at lb
        have HXX := Lib.hid hX
        have HYY := Lib.hid hY
        have w1 : IntKind.i64.wrap ((j : Int) + 1) = (j : Int) + 1 := by rw [IntKind.wrap_i64]; omega
        clear hX hY ha hb hd ha1 ha2 hb1 hb2 HH
        by_cases q : X < 0 ∨ Y < 0
        · rw [if_pos q] at hh
          have hh2 : H = none := by rw [← hh]; rfl
          subst hh2
          go_wp2
          replace HO := Lib.hid (ownk_drew HO.out 1)
          replace HB := keepB1 HB
          refine rgStart (S := (fun _ => True)) (n := 11) #[false, false, false, false, false, false, false, false, false, false, false] (by kernel_rfl) rfl rfl trivial (fun hHeld => ?_)
          refine rgTake (i := 0) (N := some 18) (oi := { dst := some 18, op := Op.move (Operand.tmp 0), type := 9, pos := "rom.go:120", after := #[], guard := none }) (v := ?_) #[true, false, false, false, false, false, false, false, false, false, false] rfl rfl (by kernel_rfl) (fun _ _ _ h => h) (Or.inl ⟨by rfl, ?_⟩) hHeld ?_
          rotate_left
          · intro w' hSw; (try dsimp only at hSw); skip; go_simp; try with_reducible rfl
          simp only [Act.put, List.setIfInBounds_toArray, List.set_cons_zero, List.set_cons_succ]
          refine rgTake (i := 1) (N := some 19) (oi := { dst := some 19, op := Op.move (Operand.tmp 5), type := 3, pos := "rom.go:120", after := #[], guard := none }) (v := ?_) #[true, true, false, false, false, false, false, false, false, false, false] rfl rfl (by kernel_rfl) (fun _ _ _ h => h) (Or.inl ⟨by rfl, ?_⟩) hHeld ?_
          rotate_left
          · intro w' hSw; (try dsimp only at hSw); skip; go_simp; try with_reducible rfl
          simp only [Act.put, List.setIfInBounds_toArray, List.set_cons_zero, List.set_cons_succ]
          refine rgTake (i := 2) (N := some 20) (oi := { dst := some 20, op := Op.index 9 (Operand.tmp 18) (Operand.tmp 19), type := 5, pos := "rom.go:120", after := #[{ on := 0, ground := Ground.data }, { on := 1, ground := Ground.data }], guard := none }) (v := _) #[true, true, true, false, false, false, false, false, false, false, false] rfl rfl (by kernel_rfl) (fun _ _ _ h => h) (yieldsStr (by rfl) _ _ _ rfl Tryd.underlying9 (bs l) rfl _ _ rfl j a.toNat rfl (by rw [bs_size]; omega) HA.out) hHeld ?_
          simp only [Act.put, List.setIfInBounds_toArray, List.set_cons_zero, List.set_cons_succ]
          refine rgTake (i := 4) (N := some 22) (oi := { dst := some 22, op := Op.move (Operand.tmp 0), type := 9, pos := "rom.go:120", after := #[], guard := none }) (v := ?_) #[true, true, true, false, true, false, false, false, false, false, false] rfl rfl (by kernel_rfl) (fun _ _ _ h => h) (Or.inl ⟨by rfl, ?_⟩) hHeld ?_
          rotate_left
          · intro w' hSw; (try dsimp only at hSw); skip; go_simp; try with_reducible rfl
          simp only [Act.put, List.setIfInBounds_toArray, List.set_cons_zero, List.set_cons_succ]
          refine rgTake (i := 5) (N := some 23) (oi := { dst := some 23, op := Op.move (Operand.tmp 5), type := 3, pos := "rom.go:120", after := #[], guard := none }) (v := ?_) #[true, true, true, false, true, true, false, false, false, false, false] rfl rfl (by kernel_rfl) (fun _ _ _ h => h) (Or.inl ⟨by rfl, ?_⟩) hHeld ?_
          rotate_left
          · intro w' hSw; (try dsimp only at hSw); skip; go_simp; try with_reducible rfl
          simp only [Act.put, List.setIfInBounds_toArray, List.set_cons_zero, List.set_cons_succ]
          refine rgTake (i := 6) (N := some 24) (oi := { dst := some 24, op := Op.binOp BinOp.add 3 (Operand.tmp 23) (Operand.const (Value.int IntKind.i64 1)) 3, type := 3, pos := "rom.go:120", after := #[{ on := 5, ground := Ground.data }], guard := none }) (v := ?_) #[true, true, true, false, true, true, true, false, false, false, false] rfl rfl (by kernel_rfl) (fun _ _ _ h => h) (Or.inl ⟨by rfl, ?_⟩) hHeld ?_
          rotate_left
          · intro w' hSw; (try dsimp only at hSw); skip; go_simp; try with_reducible rfl
          simp only [Act.put, List.setIfInBounds_toArray, List.set_cons_zero, List.set_cons_succ]
          refine rgTake (i := 7) (N := some 25) (oi := { dst := some 25, op := Op.index 9 (Operand.tmp 22) (Operand.tmp 24), type := 5, pos := "rom.go:120", after := #[{ on := 4, ground := Ground.data }, { on := 6, ground := Ground.data }], guard := none }) (v := _) #[true, true, true, false, true, true, true, true, false, false, false] rfl rfl (by kernel_rfl) (fun _ _ _ h => h) (yieldsStr (by rfl) _ _ _ rfl Tryd.underlying9 (bs l) rfl _ _ rfl (j + 1) b.toNat (by first | rfl | omega) (by rw [bs_size]; omega) HC.out) hHeld ?_
          simp only [Act.put, List.setIfInBounds_toArray, List.set_cons_zero, List.set_cons_succ]
          refine rgCall (i := 3) (N := some 21) (oi := { dst := some 21, op := Op.call { callee := Callee.value (Operand.func 51), args := #[Operand.const (Value.string { data := #[48, 49, 50, 51, 52, 53, 54, 55, 56, 57, 97, 98, 99, 100, 101, 102] }), Operand.tmp 20], argTypes := #[9, 5] }, type := 3, pos := "rom.go:120", after := #[{ on := 2, ground := Ground.data }], guard := none }) #[true, true, true, true, true, true, true, true, false, false, false] rfl rfl (by kernel_rfl) (fun K hK => ?_)
          go_simp
          (go_at_call 51; refine (idx_any _ _).mono ?_; (first | rw [HXX.out] | rw [HYY.out]); rintro e w1 ⟨rfl, rfl⟩)
          refine hK.out _ _ trivial (fun hHeld => ?_)
          (try simp only [Act.put, List.setIfInBounds_toArray, List.set_cons_zero, List.set_cons_succ])
          clear hK K
          refine rgCall (i := 8) (N := some 26) (oi := { dst := some 26, op := Op.call { callee := Callee.value (Operand.func 51), args := #[Operand.const (Value.string { data := #[48, 49, 50, 51, 52, 53, 54, 55, 56, 57, 97, 98, 99, 100, 101, 102] }), Operand.tmp 25], argTypes := #[9, 5] }, type := 3, pos := "rom.go:120", after := #[{ on := 7, ground := Ground.data }, { on := 3, ground := Ground.chain }], guard := none }) #[true, true, true, true, true, true, true, true, true, false, false] rfl rfl (by kernel_rfl) (fun K hK => ?_)
          go_simp
          (go_at_call 51; refine (idx_any _ _).mono ?_; (first | rw [HXX.out] | rw [HYY.out]); rintro e w1 ⟨rfl, rfl⟩)
          refine hK.out _ _ trivial (fun hHeld => ?_)
          (try simp only [Act.put, List.setIfInBounds_toArray, List.set_cons_zero, List.set_cons_succ])
          clear hK K
          refine rgTake (i := 9) (N := some 6) (oi := { dst := some 6, op := Op.assign (Operand.tmp 21), type := 3, pos := "rom.go:120", after := #[{ on := 3, ground := Ground.data }, { on := 8, ground := Ground.chain }, { on := 0, ground := Ground.phase }, { on := 1, ground := Ground.phase }, { on := 2, ground := Ground.phase }, { on := 3, ground := Ground.phase }, { on := 4, ground := Ground.textOnly Departure.lateStores }, { on := 5, ground := Ground.textOnly Departure.lateStores }, { on := 6, ground := Ground.textOnly Departure.lateStores }, { on := 7, ground := Ground.textOnly Departure.lateStores }, { on := 8, ground := Ground.textOnly Departure.lateStoresUnsure }], guard := none }) (v := ?_) #[true, true, true, true, true, true, true, true, true, true, false] rfl rfl (by kernel_rfl) (fun _ _ _ h => h) (Or.inl ⟨by rfl, ?_⟩) hHeld ?_
          rotate_left
          · intro w' hSw; (try dsimp only at hSw); skip; go_simp; try with_reducible rfl
          simp only [Act.put, List.setIfInBounds_toArray, List.set_cons_zero, List.set_cons_succ]
          refine rgTake (i := 10) (N := some 7) (oi := { dst := some 7, op := Op.assign (Operand.tmp 26), type := 3, pos := "rom.go:120", after := #[{ on := 8, ground := Ground.data }, { on := 9, ground := Ground.chain }, { on := 0, ground := Ground.phase }, { on := 1, ground := Ground.phase }, { on := 2, ground := Ground.phase }, { on := 3, ground := Ground.phase }, { on := 4, ground := Ground.phase }, { on := 5, ground := Ground.phase }, { on := 6, ground := Ground.phase }, { on := 7, ground := Ground.phase }, { on := 8, ground := Ground.phase }, { on := 9, ground := Ground.phase }], guard := none }) (v := ?_) #[true, true, true, true, true, true, true, true, true, true, true] rfl rfl (by kernel_rfl) (fun _ _ _ h => h) (Or.inl ⟨by rfl, ?_⟩) hHeld ?_
          rotate_left
          · intro w' hSw; (try dsimp only at hSw); skip; go_simp; try with_reducible rfl
          simp only [Act.put, List.setIfInBounds_toArray, List.set_cons_zero, List.set_cons_succ]
          refine rgDone (by kernel_rfl) ?_ _
          by_cases qx : X < 0
          · go_wp2
            go_ret2
            exact ⟨⟨_, rfl, own_nil _ _ _⟩, HB.out.1⟩
          · have qy : Y < 0 := by omega
            clear q
            go_wp2
            go_ret2
            exact ⟨⟨_, rfl, own_nil _ _ _⟩, HB.out.1⟩
        · rw [if_neg q] at hh
          have qx : ¬ X < 0 := fun h => q (.inl h)
          have qy : ¬ Y < 0 := fun h => q (.inr h)
          have eor := or_16b (N := X) (d := Y) (by omega) (by omega) (by omega) (by omega)
          have HPV : Hid (X * 16 + Y = ((pairV a b).toNat : Int)) := Lib.hid (by rw [hpv, of_nat (by omega)]; omega)
          have HH : Hid ((hexP (l.drop (j + 2))).map ((acc ++ [pairV a b]) ++ ·) = H) := Lib.hid (by
            rw [← hh]
            cases hexP (l.drop (j + 2)) with
            | none => rfl
            | some r => simp)
          clear q hh hpv
          go_wp2
          replace HO := Lib.hid (ownk_drew HO.out 1)
          replace HB := keepB1 HB
          refine rgStart (S := (fun _ => True)) (n := 11) #[false, false, false, false, false, false, false, false, false, false, false] (by kernel_rfl) rfl rfl trivial (fun hHeld => ?_)
          refine rgTake (i := 0) (N := some 18) (oi := { dst := some 18, op := Op.move (Operand.tmp 0), type := 9, pos := "rom.go:120", after := #[], guard := none }) (v := ?_) #[true, false, false, false, false, false, false, false, false, false, false] rfl rfl (by kernel_rfl) (fun _ _ _ h => h) (Or.inl ⟨by rfl, ?_⟩) hHeld ?_
          rotate_left
          · intro w' hSw; (try dsimp only at hSw); skip; go_simp; try with_reducible rfl
          simp only [Act.put, List.setIfInBounds_toArray, List.set_cons_zero, List.set_cons_succ]
          refine rgTake (i := 1) (N := some 19) (oi := { dst := some 19, op := Op.move (Operand.tmp 5), type := 3, pos := "rom.go:120", after := #[], guard := none }) (v := ?_) #[true, true, false, false, false, false, false, false, false, false, false] rfl rfl (by kernel_rfl) (fun _ _ _ h => h) (Or.inl ⟨by rfl, ?_⟩) hHeld ?_
          rotate_left
          · intro w' hSw; (try dsimp only at hSw); skip; go_simp; try with_reducible rfl
          simp only [Act.put, List.setIfInBounds_toArray, List.set_cons_zero, List.set_cons_succ]
          refine rgTake (i := 2) (N := some 20) (oi := { dst := some 20, op := Op.index 9 (Operand.tmp 18) (Operand.tmp 19), type := 5, pos := "rom.go:120", after := #[{ on := 0, ground := Ground.data }, { on := 1, ground := Ground.data }], guard := none }) (v := _) #[true, true, true, false, false, false, false, false, false, false, false] rfl rfl (by kernel_rfl) (fun _ _ _ h => h) (yieldsStr (by rfl) _ _ _ rfl Tryd.underlying9 (bs l) rfl _ _ rfl j a.toNat rfl (by rw [bs_size]; omega) HA.out) hHeld ?_
          simp only [Act.put, List.setIfInBounds_toArray, List.set_cons_zero, List.set_cons_succ]
          refine rgTake (i := 4) (N := some 22) (oi := { dst := some 22, op := Op.move (Operand.tmp 0), type := 9, pos := "rom.go:120", after := #[], guard := none }) (v := ?_) #[true, true, true, false, true, false, false, false, false, false, false] rfl rfl (by kernel_rfl) (fun _ _ _ h => h) (Or.inl ⟨by rfl, ?_⟩) hHeld ?_
          rotate_left
          · intro w' hSw; (try dsimp only at hSw); skip; go_simp; try with_reducible rfl
          simp only [Act.put, List.setIfInBounds_toArray, List.set_cons_zero, List.set_cons_succ]
          refine rgTake (i := 5) (N := some 23) (oi := { dst := some 23, op := Op.move (Operand.tmp 5), type := 3, pos := "rom.go:120", after := #[], guard := none }) (v := ?_) #[true, true, true, false, true, true, false, false, false, false, false] rfl rfl (by kernel_rfl) (fun _ _ _ h => h) (Or.inl ⟨by rfl, ?_⟩) hHeld ?_
          rotate_left
          · intro w' hSw; (try dsimp only at hSw); skip; go_simp; try with_reducible rfl
          simp only [Act.put, List.setIfInBounds_toArray, List.set_cons_zero, List.set_cons_succ]
          refine rgTake (i := 6) (N := some 24) (oi := { dst := some 24, op := Op.binOp BinOp.add 3 (Operand.tmp 23) (Operand.const (Value.int IntKind.i64 1)) 3, type := 3, pos := "rom.go:120", after := #[{ on := 5, ground := Ground.data }], guard := none }) (v := ?_) #[true, true, true, false, true, true, true, false, false, false, false] rfl rfl (by kernel_rfl) (fun _ _ _ h => h) (Or.inl ⟨by rfl, ?_⟩) hHeld ?_
          rotate_left
          · intro w' hSw; (try dsimp only at hSw); skip; go_simp; try with_reducible rfl
          simp only [Act.put, List.setIfInBounds_toArray, List.set_cons_zero, List.set_cons_succ]
          refine rgTake (i := 7) (N := some 25) (oi := { dst := some 25, op := Op.index 9 (Operand.tmp 22) (Operand.tmp 24), type := 5, pos := "rom.go:120", after := #[{ on := 4, ground := Ground.data }, { on := 6, ground := Ground.data }], guard := none }) (v := _) #[true, true, true, false, true, true, true, true, false, false, false] rfl rfl (by kernel_rfl) (fun _ _ _ h => h) (yieldsStr (by rfl) _ _ _ rfl Tryd.underlying9 (bs l) rfl _ _ rfl (j + 1) b.toNat (by first | rfl | omega) (by rw [bs_size]; omega) HC.out) hHeld ?_
          simp only [Act.put, List.setIfInBounds_toArray, List.set_cons_zero, List.set_cons_succ]
          refine rgCall (i := 3) (N := some 21) (oi := { dst := some 21, op := Op.call { callee := Callee.value (Operand.func 51), args := #[Operand.const (Value.string { data := #[48, 49, 50, 51, 52, 53, 54, 55, 56, 57, 97, 98, 99, 100, 101, 102] }), Operand.tmp 20], argTypes := #[9, 5] }, type := 3, pos := "rom.go:120", after := #[{ on := 2, ground := Ground.data }], guard := none }) #[true, true, true, true, true, true, true, true, false, false, false] rfl rfl (by kernel_rfl) (fun K hK => ?_)
          go_simp
          (go_at_call 51; refine (idx_any _ _).mono ?_; (first | rw [HXX.out] | rw [HYY.out]); rintro e w1 ⟨rfl, rfl⟩)
          refine hK.out _ _ trivial (fun hHeld => ?_)
          (try simp only [Act.put, List.setIfInBounds_toArray, List.set_cons_zero, List.set_cons_succ])
          clear hK K
          refine rgCall (i := 8) (N := some 26) (oi := { dst := some 26, op := Op.call { callee := Callee.value (Operand.func 51), args := #[Operand.const (Value.string { data := #[48, 49, 50, 51, 52, 53, 54, 55, 56, 57, 97, 98, 99, 100, 101, 102] }), Operand.tmp 25], argTypes := #[9, 5] }, type := 3, pos := "rom.go:120", after := #[{ on := 7, ground := Ground.data }, { on := 3, ground := Ground.chain }], guard := none }) #[true, true, true, true, true, true, true, true, true, false, false] rfl rfl (by kernel_rfl) (fun K hK => ?_)
          go_simp
          (go_at_call 51; refine (idx_any _ _).mono ?_; (first | rw [HXX.out] | rw [HYY.out]); rintro e w1 ⟨rfl, rfl⟩)
          refine hK.out _ _ trivial (fun hHeld => ?_)
          (try simp only [Act.put, List.setIfInBounds_toArray, List.set_cons_zero, List.set_cons_succ])
          clear hK K
          refine rgTake (i := 9) (N := some 6) (oi := { dst := some 6, op := Op.assign (Operand.tmp 21), type := 3, pos := "rom.go:120", after := #[{ on := 3, ground := Ground.data }, { on := 8, ground := Ground.chain }, { on := 0, ground := Ground.phase }, { on := 1, ground := Ground.phase }, { on := 2, ground := Ground.phase }, { on := 3, ground := Ground.phase }, { on := 4, ground := Ground.textOnly Departure.lateStores }, { on := 5, ground := Ground.textOnly Departure.lateStores }, { on := 6, ground := Ground.textOnly Departure.lateStores }, { on := 7, ground := Ground.textOnly Departure.lateStores }, { on := 8, ground := Ground.textOnly Departure.lateStoresUnsure }], guard := none }) (v := ?_) #[true, true, true, true, true, true, true, true, true, true, false] rfl rfl (by kernel_rfl) (fun _ _ _ h => h) (Or.inl ⟨by rfl, ?_⟩) hHeld ?_
          rotate_left
          · intro w' hSw; (try dsimp only at hSw); skip; go_simp; try with_reducible rfl
          simp only [Act.put, List.setIfInBounds_toArray, List.set_cons_zero, List.set_cons_succ]
          refine rgTake (i := 10) (N := some 7) (oi := { dst := some 7, op := Op.assign (Operand.tmp 26), type := 3, pos := "rom.go:120", after := #[{ on := 8, ground := Ground.data }, { on := 9, ground := Ground.chain }, { on := 0, ground := Ground.phase }, { on := 1, ground := Ground.phase }, { on := 2, ground := Ground.phase }, { on := 3, ground := Ground.phase }, { on := 4, ground := Ground.phase }, { on := 5, ground := Ground.phase }, { on := 6, ground := Ground.phase }, { on := 7, ground := Ground.phase }, { on := 8, ground := Ground.phase }, { on := 9, ground := Ground.phase }], guard := none }) (v := ?_) #[true, true, true, true, true, true, true, true, true, true, true] rfl rfl (by kernel_rfl) (fun _ _ _ h => h) (Or.inl ⟨by rfl, ?_⟩) hHeld ?_
          rotate_left
          · intro w' hSw; (try dsimp only at hSw); skip; go_simp; try with_reducible rfl
          simp only [Act.put, List.setIfInBounds_toArray, List.set_cons_zero, List.set_cons_succ]
          refine rgDone (by kernel_rfl) ?_ _
          go_wp2_with (refine appOne rfl _ _ 26 5 (.int .u8 0) 1 rfl Tryd.underlying26 infoB rfl w.heap.size _ acc.length _ rfl HO.out _ rfl _ rfl (by unfold maxLen; omega) (by omega) HB.out.2 ?_; intro v2 w3 ho2 hb2; replace HO := Lib.hid (ownB_add (c := pairV a b) ho2 rfl HPV.out); replace HB := keepBg HB (Nat.le_refl _) hb2; clear ho2 hb2)
          go_roundw
          case rel => exact ⟨j + 2, acc ++ [pairV a b], by omega, by omega, by rw [List.length_append]; show _ + 1 ≤ _; omega, by go_num, HH, HO, HB⟩
          case measure => simp [intOf]; omega
      · obtain rfl : j = l.length := by omega
        have hh := HH.out
        rw [List.drop_eq_nil_of_le (Nat.le_refl _), hexP] at hh
        have hh2 : H = some acc := by rw [← hh]; simp
        subst hh2
        go_wp2
        go_ret2
        exact ⟨⟨_, rfl, HO.out⟩, HB.out.1⟩
end Go.Proofs.YtnigkecpiolgeaaDoor.My
/- Walk: the parts of a line, cut at blanks; what a line says. -/
set_option linter.unusedVariables false
set_option linter.unusedSimpArgs false
namespace Go.Proofs.YtnigkecpiolgeaaDoor.My
open Go.RowKit
/-- A line's parts. -/
def splitL (l : List UInt8) : List (List UInt8) := (Lib.splitB ⟨#[32]⟩ 0 (Lib.countB (bs l) ⟨#[32]⟩) (bs l)).map (·.data.toList)
theorem split_bs (l : List UInt8) : (splitL l).map bs = Lib.splitB ⟨#[32]⟩ 0 (Lib.countB (bs l) ⟨#[32]⟩) (bs l) := by
  unfold splitL
  rw [List.map_map]
  conv => rhs; rw [← List.map_id (Lib.splitB ⟨#[32]⟩ 0 (Lib.countB (bs l) ⟨#[32]⟩) (bs l))]
  apply List.map_congr_left
  intro s _
  rfl
theorem split_pos (l : List UInt8) : (splitL l).length = Lib.countB (bs l) ⟨#[32]⟩ + 1 := by
  unfold splitL
  rw [List.length_map]
  exact Lib.splitB_all _ (by decide) 0 _ _ rfl
theorem split_any (l : List UInt8) (m : Int) (w : World) (hm : w.cell? ⟨0, 0, none⟩ = some (.int .i64 m)) (hl : l.length ≤ 1000000) : Calls Tryd.prog 44 #[.string (bs l), .string ⟨#[32]⟩] w fun e w' => e = .returned (.slice (some ⟨w.heap.size, 0, none⟩) (splitL l).length (splitL l).length) ∧ w'.heap[w.heap.size]? = some (.cells (((splitL l).map bs).map Value.string).toArray 9 (0, 0)) ∧ Below w.heap.size w w' := by
  refine (Tryd.strings_Split (bs l) ⟨#[32]⟩ m w (by rw [bs_size]; omega) hm (by decide)).mono ?_
  rintro e w' ⟨rfl, rfl⟩
  rw [split_pos, split_bs]
  exact ⟨rfl, heap_alloc_new _ _, (Below.refl _ _).alloc (Nat.le_refl _) _⟩
/-- A line, read: 1 seg, 2 and, 3 start; 0: it is none. -/
structure RowV where
  kind : Nat
  at_ : Nat
  b : List UInt8
  sum : Nat
def segW : List UInt8 := [115, 101, 103]
def andW : List UInt8 := [97, 110, 100]
def startW : List UInt8 := [115, 116, 97, 114, 116]
def kindW : Nat → List UInt8
  | 1 => segW
  | 2 => andW
  | 3 => startW
  | _ => []
def rowZ : RowV := ⟨0, 0, [], 0⟩
def be4 (l : List UInt8) : Nat := 16777216 * (l.getD 0 0).toNat + 65536 * (l.getD 1 0).toNat + 256 * (l.getD 2 0).toNat + (l.getD 3 0).toNat
/-- The row of a kind whose parts are these. -/
def rowK (k : Nat) (a z : List UInt8 × Bool) (d : Option (List UInt8 × Bool)) : RowV :=
  if a.2 = true ∧ z.2 = true ∧ a.1.length = 4 ∧ z.1.length = 1 then
    match d with
    | none => ⟨k, be4 a.1, [], (z.1.getD 0 0).toNat⟩
    | some d => if d.2 = true ∧ 1 ≤ d.1.length ∧ d.1.length ≤ 16 then ⟨k, be4 a.1, d.1, (z.1.getD 0 0).toNat⟩ else rowZ
  else rowZ
/-- The row of these parts. -/
def rowP : List (List UInt8) → RowV
  | [p0, p1, p2] => if p0 = startW then rowK 3 (hexV p1) (hexV p2) none else rowZ
  | [p0, p1, p2, p3] => if p0 = segW then rowK 1 (hexV p1) (hexV p3) (some (hexV p2)) else if p0 = andW then rowK 2 (hexV p1) (hexV p3) (some (hexV p2)) else rowZ
  | _ => rowZ
/-- What a line says. -/
def rowV (l : List UInt8) : RowV := rowP (splitL l)
def rdA (W : ByteArray) (u : Nat) (v : Value) (s : Nat) : Array Value := #[.string W, .int .u32 u, v, .int .u8 s]
theorem infoRd : (Tryd.prog.info? 68).map (·.size) = some 4 := by kernel_rfl
theorem infoS1 : (Tryd.prog.info? 9).map (·.size) = some 1 := by kernel_rfl
theorem zeroRd (w : World) : (zeroValue 68).run Tryd.prog w = .ok (.agg (rdA ⟨#[]⟩ 0 (.slice none 0 0) 0)) w := by kernel_rfl
theorem rdA_one (W : ByteArray) (u : Nat) (A : Option Addr) (n c : Nat) (s : Nat) : (rdA W u (.slice A n c) s).all (·.oneCell') = true := by simp [rdA, Value.oneCell']
/-- What reading a line leaves. -/
def ParseIs (r : RowV) (w : World) (e : Ending) (w' : World) : Prop :=
  (r.kind = 0 ∧ ∃ W u A n c s, e = .returned (.tuple #[.agg (rdA W u (.slice A n c) s), .bool false])) ∨
  (r.kind ≠ 0 ∧ ∃ A c, e = .returned (.tuple #[.agg (rdA (bs (kindW r.kind)) r.at_ (.slice A r.b.length c) r.sum), .bool true]) ∧ OwnB w' w.heap.size (.slice A r.b.length c) r.b)
theorem part_at {w : World} {g : Nat} {ps : List (List UInt8)} (h : Hid (w.heap[g]? = some (.cells ((ps.map bs).map Value.string).toArray 9 (0, 0)))) {j : Nat} {p : List UInt8} (hp : ps[j]? = some p) : w.cell? ⟨g, j, none⟩ = some (.string (bs p)) := by
  rw [cellA h]
  simp [hp]
theorem keepM {w w' : World} {m : Int} (h : Hid (w.cell? ⟨0, 0, none⟩ = some (.int .i64 m))) (hb : Below w.heap.size w w') : Hid (w'.cell? ⟨0, 0, none⟩ = some (.int .i64 m)) := (hb.cell (World.block_lt_of_cell? w _ h.out)).trans h.out
theorem text_eq (p q : List UInt8) : ((bs p).toList == q) = (p == q) := by
  have : (bs p).toList = p := ByteArray.toList_eq _
  rw [this]
end Go.Proofs.YtnigkecpiolgeaaDoor.My
/- Walk: a line read: the program's. -/
set_option linter.unusedVariables false
set_option linter.unusedSimpArgs false
namespace Go.Proofs.YtnigkecpiolgeaaDoor.My
open Go.RowKit
theorem infoU32 : (Tryd.prog.info? 22).map (·.size) = some 1 := by kernel_rfl
theorem infoSB : (Tryd.prog.info? 26).map (·.size) = some 1 := by kernel_rfl
set_option maxRecDepth 100000 in
set_option maxHeartbeats 2000000 in
theorem parse_else (l p0 : List UInt8) (ps : List (List UInt8)) (m : Int) (w : World) (hM : w.cell? ⟨0, 0, none⟩ = some (.int .i64 m)) (hl : l.length ≤ 1000000) (hps : splitL l = ps) (h0 : ps[0]? = some p0) (hr : rowV l = rowZ) (k1 : p0 ≠ startW) (k2 : p0 ≠ segW) (k3 : p0 ≠ andW) : Calls Tryd.prog 32 #[.string (bs l)] w fun e w' => ParseIs (rowV l) w e w' ∧ Below w.heap.size w w' := by
  have HB := startB w
  have HM := Lib.hid hM
  have HPS := Lib.hid hps
  have H0 := Lib.hid h0
  have HR := Lib.hid hr
  have n0 : 0 < ps.length := (List.getElem?_eq_some_iff.1 h0).1
  have q1 : ((bs p0).toList == [115, 116, 97, 114, 116]) = false := by rw [text_eq]; exact beq_eq_false_iff_ne.2 k1
  have q2 : ((bs p0).toList == [115, 101, 103]) = false := by rw [text_eq]; exact beq_eq_false_iff_ne.2 k2
  have q3 : ((bs p0).toList == [97, 110, 100]) = false := by rw [text_eq]; exact beq_eq_false_iff_ne.2 k3
  clear hM hps h0 hr k1 k2 k3
  go_enter Tryd.func32, Tryd.ntmps32
  go_wp2_with (first | (refine wlAlloc rfl 68 rfl (rdA ⟨#[]⟩ 0 (.slice none 0 0) 0) zeroRd ?_; intro gR w1 hgR hgR2 ha hb; have HA := Lib.hid ha; have HG : Hid (w.heap.size ≤ gR) := Lib.hid (Nat.le_trans HB.out.2 hgR); have HGP : Hid (w1.heap.size ≠ gR) := Lib.hid (Nat.ne_of_gt hgR2); replace HM := keepM HM hb; replace HB := keepB HB hb; clear ha hb hgR hgR2) | (go_at_call 44; refine (split_any l m _ HM.out hl).mono ?_; rw [HPS.out]; rintro e w2 ⟨rfl, hp, hb⟩; replace HA := keepA HA hb; replace HB := keepB HB hb; have HP := Lib.hid hp; clear hp hb; have f0 := part_at HP H0.out) | (refine cellStore rfl 9 _ _ rfl gR 0 rfl (.string (bs p0)) rfl rfl rfl HA.out (by show 0 < 4; decide) infoS1 ?_; intro w3 ha ho; replace HA : Hid (w3.heap[gR]? = some (.cells (rdA (bs p0) 0 (.slice none 0 0) 0) 68 (0, 0))) := Lib.hid ha; replace HP := keepAo HP HGP.out ho; replace HB := keepBo HB HG.out ho; have f1 : w3.cell? ⟨gR, 0, none⟩ = some (.string (bs p0)) := cellA HA 0; clear ha ho) | (refine rowLoad rfl 68 _ rfl gR rfl HA.out Tryd.underlying68 rfl infoRd ?_) | (refine rowStore rfl 68 _ _ rfl gR rfl (rdA (bs p0) 0 (.slice none 0 0) 0) rfl HA.out infoRd rfl (rdA_one _ _ _ _ _ _) ?_; intro w9 ha ho; replace HA := Lib.hid ha; replace HB := keepBo HB HG.out ho; clear ha ho))
  exact bodyPost_ret (res1c rfl _ _ gR 68 (rdA (bs p0) 0 (.slice none 0 0) 0) (0, 0) _ rfl HA.out Tryd.underlying68 rfl infoRd) rfl ⟨.inl ⟨by rw [HR.out]; rfl, _, _, _, _, _, _, rfl⟩, HB.out.1⟩
set_option maxRecDepth 100000 in
set_option maxHeartbeats 2000000 in
theorem parse_len_start (l : List UInt8) (ps : List (List UInt8)) (m : Int) (w : World) (hM : w.cell? ⟨0, 0, none⟩ = some (.int .i64 m)) (hl : l.length ≤ 1000000) (hps : splitL l = ps) (h0 : ps[0]? = some startW) (hr : rowV l = rowZ) (hn : ps.length ≠ 3) : Calls Tryd.prog 32 #[.string (bs l)] w fun e w' => ParseIs (rowV l) w e w' ∧ Below w.heap.size w w' := by
  have HB := startB w
  have HM := Lib.hid hM
  have HPS := Lib.hid hps
  obtain ⟨p0, hp0⟩ : ∃ p, startW = p := ⟨_, rfl⟩
  rw [hp0] at h0
  have H0 := Lib.hid h0
  have HR := Lib.hid hr
  have n0 : 0 < ps.length := (List.getElem?_eq_some_iff.1 h0).1
  have n1 : ((ps.length : Int) != 3) = true := bne_iff_ne.2 (by omega)
  have q1 : ((bs p0).toList == [115, 116, 97, 114, 116]) = true := by rw [text_eq, ← hp0]; rfl
  clear hM hps h0 hr hp0
  go_enter Tryd.func32, Tryd.ntmps32
  go_wp2_with (first | (refine wlAlloc rfl 68 rfl (rdA ⟨#[]⟩ 0 (.slice none 0 0) 0) zeroRd ?_; intro gR w1 hgR hgR2 ha hb; have HA := Lib.hid ha; have HG : Hid (w.heap.size ≤ gR) := Lib.hid (Nat.le_trans HB.out.2 hgR); have HGP : Hid (w1.heap.size ≠ gR) := Lib.hid (Nat.ne_of_gt hgR2); replace HM := keepM HM hb; replace HB := keepB HB hb; clear ha hb hgR hgR2) | (go_at_call 44; refine (split_any l m _ HM.out hl).mono ?_; rw [HPS.out]; rintro e w2 ⟨rfl, hp, hb⟩; replace HA := keepA HA hb; replace HB := keepB HB hb; have HP := Lib.hid hp; clear hp hb; have f0 := part_at HP H0.out) | (refine cellStore rfl 9 _ _ rfl gR 0 rfl (.string (bs p0)) rfl rfl rfl HA.out (by show 0 < 4; decide) infoS1 ?_; intro w3 ha ho; replace HA : Hid (w3.heap[gR]? = some (.cells (rdA (bs p0) 0 (.slice none 0 0) 0) 68 (0, 0))) := Lib.hid ha; replace HP := keepAo HP HGP.out ho; replace HB := keepBo HB HG.out ho; have f1 : w3.cell? ⟨gR, 0, none⟩ = some (.string (bs p0)) := cellA HA 0; clear ha ho) | (refine rowLoad rfl 68 _ rfl gR rfl HA.out Tryd.underlying68 rfl infoRd ?_) | (refine rowStore rfl 68 _ _ rfl gR rfl (rdA (bs p0) 0 (.slice none 0 0) 0) rfl HA.out infoRd rfl (rdA_one _ _ _ _ _ _) ?_; intro w9 ha ho; replace HA := Lib.hid ha; replace HB := keepBo HB HG.out ho; clear ha ho))
  exact bodyPost_ret (res1c rfl _ _ gR 68 (rdA (bs p0) 0 (.slice none 0 0) 0) (0, 0) _ rfl HA.out Tryd.underlying68 rfl infoRd) rfl ⟨.inl ⟨by rw [HR.out]; rfl, _, _, _, _, _, _, rfl⟩, HB.out.1⟩
set_option maxRecDepth 100000 in
set_option maxHeartbeats 2000000 in
theorem parse_len_seg (l : List UInt8) (ps : List (List UInt8)) (m : Int) (w : World) (hM : w.cell? ⟨0, 0, none⟩ = some (.int .i64 m)) (hl : l.length ≤ 1000000) (hps : splitL l = ps) (h0 : ps[0]? = some segW) (hr : rowV l = rowZ) (hn : ps.length ≠ 4) : Calls Tryd.prog 32 #[.string (bs l)] w fun e w' => ParseIs (rowV l) w e w' ∧ Below w.heap.size w w' := by
  have HB := startB w
  have HM := Lib.hid hM
  have HPS := Lib.hid hps
  obtain ⟨p0, hp0⟩ : ∃ p, segW = p := ⟨_, rfl⟩
  rw [hp0] at h0
  have H0 := Lib.hid h0
  have HR := Lib.hid hr
  have n0 : 0 < ps.length := (List.getElem?_eq_some_iff.1 h0).1
  have n1 : ((ps.length : Int) != 4) = true := bne_iff_ne.2 (by omega)
  have q1 : ((bs p0).toList == [115, 116, 97, 114, 116]) = false := by rw [text_eq, ← hp0]; rfl
  have q2 : ((bs p0).toList == [115, 101, 103]) = true := by rw [text_eq, ← hp0]; rfl
  clear hM hps h0 hr hp0
  go_enter Tryd.func32, Tryd.ntmps32
  go_wp2_with (first | (refine wlAlloc rfl 68 rfl (rdA ⟨#[]⟩ 0 (.slice none 0 0) 0) zeroRd ?_; intro gR w1 hgR hgR2 ha hb; have HA := Lib.hid ha; have HG : Hid (w.heap.size ≤ gR) := Lib.hid (Nat.le_trans HB.out.2 hgR); have HGP : Hid (w1.heap.size ≠ gR) := Lib.hid (Nat.ne_of_gt hgR2); replace HM := keepM HM hb; replace HB := keepB HB hb; clear ha hb hgR hgR2) | (go_at_call 44; refine (split_any l m _ HM.out hl).mono ?_; rw [HPS.out]; rintro e w2 ⟨rfl, hp, hb⟩; replace HA := keepA HA hb; replace HB := keepB HB hb; have HP := Lib.hid hp; clear hp hb; have f0 := part_at HP H0.out) | (refine cellStore rfl 9 _ _ rfl gR 0 rfl (.string (bs p0)) rfl rfl rfl HA.out (by show 0 < 4; decide) infoS1 ?_; intro w3 ha ho; replace HA : Hid (w3.heap[gR]? = some (.cells (rdA (bs p0) 0 (.slice none 0 0) 0) 68 (0, 0))) := Lib.hid ha; replace HP := keepAo HP HGP.out ho; replace HB := keepBo HB HG.out ho; have f1 : w3.cell? ⟨gR, 0, none⟩ = some (.string (bs p0)) := cellA HA 0; clear ha ho) | (refine rowLoad rfl 68 _ rfl gR rfl HA.out Tryd.underlying68 rfl infoRd ?_) | (refine rowStore rfl 68 _ _ rfl gR rfl (rdA (bs p0) 0 (.slice none 0 0) 0) rfl HA.out infoRd rfl (rdA_one _ _ _ _ _ _) ?_; intro w9 ha ho; replace HA := Lib.hid ha; replace HB := keepBo HB HG.out ho; clear ha ho))
  exact bodyPost_ret (res1c rfl _ _ gR 68 (rdA (bs p0) 0 (.slice none 0 0) 0) (0, 0) _ rfl HA.out Tryd.underlying68 rfl infoRd) rfl ⟨.inl ⟨by rw [HR.out]; rfl, _, _, _, _, _, _, rfl⟩, HB.out.1⟩
set_option maxRecDepth 100000 in
set_option maxHeartbeats 2000000 in
theorem parse_len_and (l : List UInt8) (ps : List (List UInt8)) (m : Int) (w : World) (hM : w.cell? ⟨0, 0, none⟩ = some (.int .i64 m)) (hl : l.length ≤ 1000000) (hps : splitL l = ps) (h0 : ps[0]? = some andW) (hr : rowV l = rowZ) (hn : ps.length ≠ 4) : Calls Tryd.prog 32 #[.string (bs l)] w fun e w' => ParseIs (rowV l) w e w' ∧ Below w.heap.size w w' := by
  have HB := startB w
  have HM := Lib.hid hM
  have HPS := Lib.hid hps
  obtain ⟨p0, hp0⟩ : ∃ p, andW = p := ⟨_, rfl⟩
  rw [hp0] at h0
  have H0 := Lib.hid h0
  have HR := Lib.hid hr
  have n0 : 0 < ps.length := (List.getElem?_eq_some_iff.1 h0).1
  have n1 : ((ps.length : Int) != 4) = true := bne_iff_ne.2 (by omega)
  have q1 : ((bs p0).toList == [115, 116, 97, 114, 116]) = false := by rw [text_eq, ← hp0]; rfl
  have q2 : ((bs p0).toList == [115, 101, 103]) = false := by rw [text_eq, ← hp0]; rfl
  have q3 : ((bs p0).toList == [97, 110, 100]) = true := by rw [text_eq, ← hp0]; rfl
  clear hM hps h0 hr hp0
  go_enter Tryd.func32, Tryd.ntmps32
  go_wp2_with (first | (refine wlAlloc rfl 68 rfl (rdA ⟨#[]⟩ 0 (.slice none 0 0) 0) zeroRd ?_; intro gR w1 hgR hgR2 ha hb; have HA := Lib.hid ha; have HG : Hid (w.heap.size ≤ gR) := Lib.hid (Nat.le_trans HB.out.2 hgR); have HGP : Hid (w1.heap.size ≠ gR) := Lib.hid (Nat.ne_of_gt hgR2); replace HM := keepM HM hb; replace HB := keepB HB hb; clear ha hb hgR hgR2) | (go_at_call 44; refine (split_any l m _ HM.out hl).mono ?_; rw [HPS.out]; rintro e w2 ⟨rfl, hp, hb⟩; replace HA := keepA HA hb; replace HB := keepB HB hb; have HP := Lib.hid hp; clear hp hb; have f0 := part_at HP H0.out) | (refine cellStore rfl 9 _ _ rfl gR 0 rfl (.string (bs p0)) rfl rfl rfl HA.out (by show 0 < 4; decide) infoS1 ?_; intro w3 ha ho; replace HA : Hid (w3.heap[gR]? = some (.cells (rdA (bs p0) 0 (.slice none 0 0) 0) 68 (0, 0))) := Lib.hid ha; replace HP := keepAo HP HGP.out ho; replace HB := keepBo HB HG.out ho; have f1 : w3.cell? ⟨gR, 0, none⟩ = some (.string (bs p0)) := cellA HA 0; clear ha ho) | (refine rowLoad rfl 68 _ rfl gR rfl HA.out Tryd.underlying68 rfl infoRd ?_) | (refine rowStore rfl 68 _ _ rfl gR rfl (rdA (bs p0) 0 (.slice none 0 0) 0) rfl HA.out infoRd rfl (rdA_one _ _ _ _ _ _) ?_; intro w9 ha ho; replace HA := Lib.hid ha; replace HB := keepBo HB HG.out ho; clear ha ho))
  exact bodyPost_ret (res1c rfl _ _ gR 68 (rdA (bs p0) 0 (.slice none 0 0) 0) (0, 0) _ rfl HA.out Tryd.underlying68 rfl infoRd) rfl ⟨.inl ⟨by rw [HR.out]; rfl, _, _, _, _, _, _, rfl⟩, HB.out.1⟩
end Go.Proofs.YtnigkecpiolgeaaDoor.My
/- Walk: a line read: the program's; the parts are as many as they are to be. -/
set_option linter.unusedVariables false
set_option linter.unusedSimpArgs false
namespace Go.Proofs.YtnigkecpiolgeaaDoor.My
open Go.RowKit
theorem splitB_le (sep : ByteArray) (save : Nat) : ∀ (k : Nat) (s x : ByteArray), x ∈ Lib.splitB sep save k s → x.size ≤ s.size
  | 0, s, x, h => by
    rw [Lib.splitB, List.mem_singleton] at h
    rw [h]; exact Nat.le_refl _
  | k + 1, s, x, h => by
    rw [Lib.splitB] at h
    split at h
    · rw [List.mem_singleton] at h
      rw [h]; exact Nat.le_refl _
    · rcases List.mem_cons.1 h with rfl | h
      · rw [ByteArray.size_extract]; omega
      · have := splitB_le sep save k _ x h
        rw [ByteArray.size_extract] at this
        omega
theorem split_le (l : List UInt8) {j : Nat} {p : List UInt8} (h : (splitL l)[j]? = some p) : p.length ≤ l.length := by
  have h1 : bs p ∈ (splitL l).map bs := List.mem_map_of_mem (List.mem_of_getElem? h)
  rw [split_bs] at h1
  have := splitB_le _ _ _ _ _ h1
  rwa [bs_size, bs_size] at this
theorem byte_at {w : World} {b off : Nat} {l : List UInt8} {n j : Nat} {c : UInt8} (hc : ∀ j, j < n → w.cell? ⟨b, off + j, none⟩ = some (.int .u8 (el (ints l) j))) (hj : j < n) (h : l[j]? = some c) : w.cell? ⟨b, off + j, none⟩ = some (.int .u8 (c.toNat : Int)) := by
  rw [hc j hj, el_ints h]
theorem byte_rd {w : World} {b off : Nat} {l : List UInt8} {n j : Nat} {c : UInt8} (hr : RdA .u8 w (some ⟨b, off, none⟩) n (ints l)) (hj : j < n) (h : l[j]? = some c) : w.cell? ⟨b, off + j, none⟩ = some (.int .u8 (c.toNat : Int)) := by
  obtain ⟨b', off', hA, hc⟩ := hr.2 (by omega)
  injection hA with hA
  injection hA with h1 h2 _
  subst h1; subst h2
  exact byte_at hc hj h
theorem or_two {N d : Int} (k : Nat) (h : N % 2 ^ k = 0) (n0 : 0 ≤ N) (n1 : N < 4294967296) (d0 : 0 ≤ d) (d1 : d < 2 ^ k) (hk : N + d < 4294967296) : bits .or .u32 N d = N + d :=
  bits_join .u32 32 (by decide) (fun n h0 h1 => by rw [IntKind.wrap_u32]; omega) k N d n0 h (by omega) d0 d1 (by omega)
theorem bool_false {b : Bool} (h : ¬ b = true) : b = false := by cases b <;> simp_all
theorem own_ge {w : World} {B e k n : Nat} {v : Value} {xs : List Value} (h : w.ownsRow B e k v n xs) {j : Nat} (hj : v.ownBlock = some j) : B ≤ j := by
  rcases h.2 with ⟨rfl, _⟩ | ⟨g, cap, cur, rfl, h2, _⟩
  · cases hj
  · simp only [Value.ownBlock, Option.some.injEq] at hj
    omega
set_option maxRecDepth 100000 in
set_option maxHeartbeats 8000000 in
theorem parse_start (l p1 pz : List UInt8) (m : Int) (w : World) (hM : w.cell? ⟨0, 0, none⟩ = some (.int .i64 m)) (hl : l.length ≤ 1000000) (hps : splitL l = [startW, p1, pz]) : Calls Tryd.prog 32 #[.string (bs l)] w fun e w' => ParseIs (rowV l) w e w' ∧ Below w.heap.size w w' := by
  have HB := startB w
  have HM := Lib.hid hM
  have hrow : rowV l = rowK 3 (hexV p1) (hexV pz) none := by unfold rowV; rw [hps]; show (if startW = startW then rowK 3 (hexV p1) (hexV pz) none else rowZ) = _; rw [if_pos rfl]
  have HCA : Hid (∀ w, Calls Tryd.prog 45 #[.string (bs p1)] w fun e w' => (∃ v, e = .returned (.tuple #[v, .bool (hexV p1).2]) ∧ OwnB w' w.heap.size v (hexV p1).1) ∧ Below w.heap.size w w') := Lib.hid (fun w => bytes_any p1 w (Nat.le_trans (split_le l (j := 1) (by rw [hps]; rfl)) hl))
  have HCZ : Hid (∀ w, Calls Tryd.prog 45 #[.string (bs pz)] w fun e w' => (∃ v, e = .returned (.tuple #[v, .bool (hexV pz).2]) ∧ OwnB w' w.heap.size v (hexV pz).1) ∧ Below w.heap.size w w') := Lib.hid (fun w => bytes_any pz w (Nat.le_trans (split_le l (j := 2) (by rw [hps]; rfl)) hl))
  obtain ⟨ps, hps2⟩ : ∃ ps, [startW, p1, pz] = ps := ⟨_, rfl⟩
  rw [hps2] at hps
  have HPS := Lib.hid hps
  obtain ⟨p0, hp0⟩ : ∃ p, startW = p := ⟨_, rfl⟩
  rw [hp0] at hps2
  have HK : Hid (p0 = startW) := Lib.hid hp0.symm
  have H0 : Hid (ps[0]? = some p0) := Lib.hid (by rw [← hps2]; rfl)
  have H1 : Hid (ps[1]? = some p1) := Lib.hid (by rw [← hps2]; rfl)
  have HZ : Hid (ps[2]? = some pz) := Lib.hid (by rw [← hps2]; rfl)
  have n0 : ps.length = 3 := by rw [← hps2]; rfl
  have q1 : ((bs p0).toList == [115, 116, 97, 114, 116]) = true := by rw [text_eq, ← hp0]; rfl
  clear hM hps hps2 hp0
  obtain ⟨⟨la, ba⟩, hA⟩ : ∃ x, hexV p1 = x := ⟨_, rfl⟩
  obtain ⟨⟨lz, bz⟩, hZ⟩ : ∃ x, hexV pz = x := ⟨_, rfl⟩
  rw [hA] at hrow HCA
  rw [hZ] at hrow HCZ
  simp only at HCA HCZ
  clear hA hZ
  cases ba with
  | false =>
    have HR : Hid (rowV l = rowZ) := Lib.hid (by rw [hrow]; unfold rowK; rw [if_neg (fun q => by cases q.1)])
    clear hrow
    go_enter Tryd.func32, Tryd.ntmps32
    go_wp2_with (first | (refine wlAlloc rfl 68 rfl (rdA ⟨#[]⟩ 0 (.slice none 0 0) 0) zeroRd ?_; intro gR w1 hgR hgR2 ha hb; have HA := Lib.hid ha; have HG : Hid (w.heap.size ≤ gR) := Lib.hid (Nat.le_trans HB.out.2 hgR); have HGP : Hid (w1.heap.size ≠ gR) := Lib.hid (Nat.ne_of_gt hgR2); replace HM := keepM HM hb; replace HB := keepB HB hb; clear ha hb hgR hgR2) | (go_at_call 44; refine (split_any l m _ HM.out hl).mono ?_; rw [HPS.out]; rintro e w2 ⟨rfl, hp, hb⟩; replace HA := keepA HA hb; replace HB := keepB HB hb; have HP := Lib.hid hp; clear hp hb; have f0 := part_at HP H0.out; have HGQ : Hid (w.heap.size ≤ w2.heap.size) := Lib.hid HB.out.2) | (refine cellStore rfl 9 _ _ rfl gR 0 rfl (.string (bs p0)) rfl rfl rfl HA.out (by show 0 < 4; decide) infoS1 ?_; intro w3 ha ho; replace HA : Hid (w3.heap[gR]? = some (.cells (rdA (bs p0) 0 (.slice none 0 0) 0) 68 (0, 0))) := Lib.hid ha; replace HP := keepAo HP HGP.out ho; replace HB := keepBo HB HG.out ho; have f1 : w3.cell? ⟨gR, 0, none⟩ = some (.string (bs p0)) := cellA HA 0; have g1 := part_at HP H1.out; clear ha ho) | (refine rowLoad rfl 68 _ rfl gR rfl HA.out Tryd.underlying68 rfl infoRd ?_) | (refine rowStore rfl 68 _ _ rfl gR rfl (rdA (bs p0) 0 (.slice none 0 0) 0) rfl HA.out infoRd rfl (rdA_one _ _ _ _ _ _) ?_; intro w9 ha ho; replace HA := Lib.hid ha; replace HB := keepBo HB HG.out ho; clear ha ho) | (go_at_call 45; refine (HCA.out _).mono ?_; clear HCA; rintro e w4 ⟨⟨v, rfl, ho⟩, hb⟩; obtain ⟨Aa, Ac, rfl, hra, hfa⟩ := ho.rd; have HRA := Lib.hid hra; have HFA : Hid (Fresh (gR + 1) Aa) := Lib.hid (hfa.mono (Array.getElem?_eq_some_iff.1 HA.out).1); replace HA := keepA HA hb; replace HP := keepA HP hb; replace HB := keepB HB hb; have gz := part_at HP HZ.out; clear ho hra hfa hb) | (go_at_call 45; refine (HCZ.out _).mono ?_; clear HCZ; rintro e w5 ⟨⟨v, rfl, ho⟩, hb⟩; obtain ⟨Za, Zc, rfl, hra, hfa⟩ := ho.rd; have HRZ := Lib.hid hra; have HFZ : Hid (Fresh (gR + 1) Za) := Lib.hid (hfa.mono (Array.getElem?_eq_some_iff.1 HA.out).1); replace HA := keepA HA hb; replace HP := keepA HP hb; replace HRA := Lib.hid (HRA.out.below hb); replace HB := keepB HB hb; skip; clear ho hra hfa hb))
    exact bodyPost_ret (res1c rfl _ _ gR 68 (rdA (bs p0) 0 (.slice none 0 0) 0) (0, 0) _ rfl HA.out Tryd.underlying68 rfl infoRd) rfl ⟨.inl ⟨by rw [HR.out]; rfl, _, _, _, _, _, _, rfl⟩, HB.out.1⟩
  | true =>
  cases bz with
  | false =>
    have HR : Hid (rowV l = rowZ) := Lib.hid (by rw [hrow]; unfold rowK; rw [if_neg (fun q => by cases q.2.1)])
    clear hrow
    go_enter Tryd.func32, Tryd.ntmps32
    go_wp2_with (first | (refine wlAlloc rfl 68 rfl (rdA ⟨#[]⟩ 0 (.slice none 0 0) 0) zeroRd ?_; intro gR w1 hgR hgR2 ha hb; have HA := Lib.hid ha; have HG : Hid (w.heap.size ≤ gR) := Lib.hid (Nat.le_trans HB.out.2 hgR); have HGP : Hid (w1.heap.size ≠ gR) := Lib.hid (Nat.ne_of_gt hgR2); replace HM := keepM HM hb; replace HB := keepB HB hb; clear ha hb hgR hgR2) | (go_at_call 44; refine (split_any l m _ HM.out hl).mono ?_; rw [HPS.out]; rintro e w2 ⟨rfl, hp, hb⟩; replace HA := keepA HA hb; replace HB := keepB HB hb; have HP := Lib.hid hp; clear hp hb; have f0 := part_at HP H0.out; have HGQ : Hid (w.heap.size ≤ w2.heap.size) := Lib.hid HB.out.2) | (refine cellStore rfl 9 _ _ rfl gR 0 rfl (.string (bs p0)) rfl rfl rfl HA.out (by show 0 < 4; decide) infoS1 ?_; intro w3 ha ho; replace HA : Hid (w3.heap[gR]? = some (.cells (rdA (bs p0) 0 (.slice none 0 0) 0) 68 (0, 0))) := Lib.hid ha; replace HP := keepAo HP HGP.out ho; replace HB := keepBo HB HG.out ho; have f1 : w3.cell? ⟨gR, 0, none⟩ = some (.string (bs p0)) := cellA HA 0; have g1 := part_at HP H1.out; clear ha ho) | (refine rowLoad rfl 68 _ rfl gR rfl HA.out Tryd.underlying68 rfl infoRd ?_) | (refine rowStore rfl 68 _ _ rfl gR rfl (rdA (bs p0) 0 (.slice none 0 0) 0) rfl HA.out infoRd rfl (rdA_one _ _ _ _ _ _) ?_; intro w9 ha ho; replace HA := Lib.hid ha; replace HB := keepBo HB HG.out ho; clear ha ho) | (go_at_call 45; refine (HCA.out _).mono ?_; clear HCA; rintro e w4 ⟨⟨v, rfl, ho⟩, hb⟩; obtain ⟨Aa, Ac, rfl, hra, hfa⟩ := ho.rd; have HRA := Lib.hid hra; have HFA : Hid (Fresh (gR + 1) Aa) := Lib.hid (hfa.mono (Array.getElem?_eq_some_iff.1 HA.out).1); replace HA := keepA HA hb; replace HP := keepA HP hb; replace HB := keepB HB hb; have gz := part_at HP HZ.out; clear ho hra hfa hb) | (go_at_call 45; refine (HCZ.out _).mono ?_; clear HCZ; rintro e w5 ⟨⟨v, rfl, ho⟩, hb⟩; obtain ⟨Za, Zc, rfl, hra, hfa⟩ := ho.rd; have HRZ := Lib.hid hra; have HFZ : Hid (Fresh (gR + 1) Za) := Lib.hid (hfa.mono (Array.getElem?_eq_some_iff.1 HA.out).1); replace HA := keepA HA hb; replace HP := keepA HP hb; replace HRA := Lib.hid (HRA.out.below hb); replace HB := keepB HB hb; skip; clear ho hra hfa hb))
    exact bodyPost_ret (res1c rfl _ _ gR 68 (rdA (bs p0) 0 (.slice none 0 0) 0) (0, 0) _ rfl HA.out Tryd.underlying68 rfl infoRd) rfl ⟨.inl ⟨by rw [HR.out]; rfl, _, _, _, _, _, _, rfl⟩, HB.out.1⟩
  | true =>
  by_cases n4 : la.length = 4
  rotate_left
  · have q4 : ((la.length : Int) != 4) = true := bne_iff_ne.2 (by omega)
    have HR : Hid (rowV l = rowZ) := Lib.hid (by rw [hrow]; unfold rowK; rw [if_neg (fun q => n4 q.2.2.1)])
    clear hrow
    clear n4
    go_enter Tryd.func32, Tryd.ntmps32
    go_wp2_with (first | (refine wlAlloc rfl 68 rfl (rdA ⟨#[]⟩ 0 (.slice none 0 0) 0) zeroRd ?_; intro gR w1 hgR hgR2 ha hb; have HA := Lib.hid ha; have HG : Hid (w.heap.size ≤ gR) := Lib.hid (Nat.le_trans HB.out.2 hgR); have HGP : Hid (w1.heap.size ≠ gR) := Lib.hid (Nat.ne_of_gt hgR2); replace HM := keepM HM hb; replace HB := keepB HB hb; clear ha hb hgR hgR2) | (go_at_call 44; refine (split_any l m _ HM.out hl).mono ?_; rw [HPS.out]; rintro e w2 ⟨rfl, hp, hb⟩; replace HA := keepA HA hb; replace HB := keepB HB hb; have HP := Lib.hid hp; clear hp hb; have f0 := part_at HP H0.out; have HGQ : Hid (w.heap.size ≤ w2.heap.size) := Lib.hid HB.out.2) | (refine cellStore rfl 9 _ _ rfl gR 0 rfl (.string (bs p0)) rfl rfl rfl HA.out (by show 0 < 4; decide) infoS1 ?_; intro w3 ha ho; replace HA : Hid (w3.heap[gR]? = some (.cells (rdA (bs p0) 0 (.slice none 0 0) 0) 68 (0, 0))) := Lib.hid ha; replace HP := keepAo HP HGP.out ho; replace HB := keepBo HB HG.out ho; have f1 : w3.cell? ⟨gR, 0, none⟩ = some (.string (bs p0)) := cellA HA 0; have g1 := part_at HP H1.out; clear ha ho) | (refine rowLoad rfl 68 _ rfl gR rfl HA.out Tryd.underlying68 rfl infoRd ?_) | (refine rowStore rfl 68 _ _ rfl gR rfl (rdA (bs p0) 0 (.slice none 0 0) 0) rfl HA.out infoRd rfl (rdA_one _ _ _ _ _ _) ?_; intro w9 ha ho; replace HA := Lib.hid ha; replace HB := keepBo HB HG.out ho; clear ha ho) | (go_at_call 45; refine (HCA.out _).mono ?_; clear HCA; rintro e w4 ⟨⟨v, rfl, ho⟩, hb⟩; obtain ⟨Aa, Ac, rfl, hra, hfa⟩ := ho.rd; have HRA := Lib.hid hra; have HFA : Hid (Fresh (gR + 1) Aa) := Lib.hid (hfa.mono (Array.getElem?_eq_some_iff.1 HA.out).1); replace HA := keepA HA hb; replace HP := keepA HP hb; replace HB := keepB HB hb; have gz := part_at HP HZ.out; clear ho hra hfa hb) | (go_at_call 45; refine (HCZ.out _).mono ?_; clear HCZ; rintro e w5 ⟨⟨v, rfl, ho⟩, hb⟩; obtain ⟨Za, Zc, rfl, hra, hfa⟩ := ho.rd; have HRZ := Lib.hid hra; have HFZ : Hid (Fresh (gR + 1) Za) := Lib.hid (hfa.mono (Array.getElem?_eq_some_iff.1 HA.out).1); replace HA := keepA HA hb; replace HP := keepA HP hb; replace HRA := Lib.hid (HRA.out.below hb); replace HB := keepB HB hb; skip; clear ho hra hfa hb))
    exact bodyPost_ret (res1c rfl _ _ gR 68 (rdA (bs p0) 0 (.slice none 0 0) 0) (0, 0) _ rfl HA.out Tryd.underlying68 rfl infoRd) rfl ⟨.inl ⟨by rw [HR.out]; rfl, _, _, _, _, _, _, rfl⟩, HB.out.1⟩
  by_cases n1 : lz.length = 1
  rotate_left
  · have q1z : ((lz.length : Int) != 1) = true := bne_iff_ne.2 (by omega)
    have HR : Hid (rowV l = rowZ) := Lib.hid (by rw [hrow]; unfold rowK; rw [if_neg (fun q => n1 q.2.2.2)])
    clear hrow
    clear n1
    go_enter Tryd.func32, Tryd.ntmps32
    go_wp2_with (first | (refine wlAlloc rfl 68 rfl (rdA ⟨#[]⟩ 0 (.slice none 0 0) 0) zeroRd ?_; intro gR w1 hgR hgR2 ha hb; have HA := Lib.hid ha; have HG : Hid (w.heap.size ≤ gR) := Lib.hid (Nat.le_trans HB.out.2 hgR); have HGP : Hid (w1.heap.size ≠ gR) := Lib.hid (Nat.ne_of_gt hgR2); replace HM := keepM HM hb; replace HB := keepB HB hb; clear ha hb hgR hgR2) | (go_at_call 44; refine (split_any l m _ HM.out hl).mono ?_; rw [HPS.out]; rintro e w2 ⟨rfl, hp, hb⟩; replace HA := keepA HA hb; replace HB := keepB HB hb; have HP := Lib.hid hp; clear hp hb; have f0 := part_at HP H0.out; have HGQ : Hid (w.heap.size ≤ w2.heap.size) := Lib.hid HB.out.2) | (refine cellStore rfl 9 _ _ rfl gR 0 rfl (.string (bs p0)) rfl rfl rfl HA.out (by show 0 < 4; decide) infoS1 ?_; intro w3 ha ho; replace HA : Hid (w3.heap[gR]? = some (.cells (rdA (bs p0) 0 (.slice none 0 0) 0) 68 (0, 0))) := Lib.hid ha; replace HP := keepAo HP HGP.out ho; replace HB := keepBo HB HG.out ho; have f1 : w3.cell? ⟨gR, 0, none⟩ = some (.string (bs p0)) := cellA HA 0; have g1 := part_at HP H1.out; clear ha ho) | (refine rowLoad rfl 68 _ rfl gR rfl HA.out Tryd.underlying68 rfl infoRd ?_) | (refine rowStore rfl 68 _ _ rfl gR rfl (rdA (bs p0) 0 (.slice none 0 0) 0) rfl HA.out infoRd rfl (rdA_one _ _ _ _ _ _) ?_; intro w9 ha ho; replace HA := Lib.hid ha; replace HB := keepBo HB HG.out ho; clear ha ho) | (go_at_call 45; refine (HCA.out _).mono ?_; clear HCA; rintro e w4 ⟨⟨v, rfl, ho⟩, hb⟩; obtain ⟨Aa, Ac, rfl, hra, hfa⟩ := ho.rd; have HRA := Lib.hid hra; have HFA : Hid (Fresh (gR + 1) Aa) := Lib.hid (hfa.mono (Array.getElem?_eq_some_iff.1 HA.out).1); replace HA := keepA HA hb; replace HP := keepA HP hb; replace HB := keepB HB hb; have gz := part_at HP HZ.out; clear ho hra hfa hb) | (go_at_call 45; refine (HCZ.out _).mono ?_; clear HCZ; rintro e w5 ⟨⟨v, rfl, ho⟩, hb⟩; obtain ⟨Za, Zc, rfl, hra, hfa⟩ := ho.rd; have HRZ := Lib.hid hra; have HFZ : Hid (Fresh (gR + 1) Za) := Lib.hid (hfa.mono (Array.getElem?_eq_some_iff.1 HA.out).1); replace HA := keepA HA hb; replace HP := keepA HP hb; replace HRA := Lib.hid (HRA.out.below hb); replace HB := keepB HB hb; skip; clear ho hra hfa hb))
    exact bodyPost_ret (res1c rfl _ _ gR 68 (rdA (bs p0) 0 (.slice none 0 0) 0) (0, 0) _ rfl HA.out Tryd.underlying68 rfl infoRd) rfl ⟨.inl ⟨by rw [HR.out]; rfl, _, _, _, _, _, _, rfl⟩, HB.out.1⟩
  obtain ⟨a0, a1, a2, a3, hla⟩ : ∃ a0 a1 a2 a3, la = [a0, a1, a2, a3] := by match la, n4 with | [a0, a1, a2, a3], _ => exact ⟨a0, a1, a2, a3, rfl⟩
  obtain ⟨z0, hlz⟩ : ∃ z0, lz = [z0] := by match lz, n1 with | [z0], _ => exact ⟨z0, rfl⟩
  have c0 := a0.toNat_lt
  have c1 := a1.toNat_lt
  have c2 := a2.toNat_lt
  have c3 := a3.toNat_lt
  have cz := z0.toNat_lt
  have G0 : Hid (la[0]? = some a0) := Lib.hid (by rw [hla]; rfl)
  have G1 : Hid (la[1]? = some a1) := Lib.hid (by rw [hla]; rfl)
  have G2 : Hid (la[2]? = some a2) := Lib.hid (by rw [hla]; rfl)
  have G3 : Hid (la[3]? = some a3) := Lib.hid (by rw [hla]; rfl)
  have GZ : Hid (lz[0]? = some z0) := Lib.hid (by rw [hlz]; rfl)
  obtain ⟨u, hu⟩ : ∃ u, be4 la = u := ⟨_, rfl⟩
  have hu2 : (a0.toNat : Int) * 16777216 + (a1.toNat : Int) * 65536 + (a2.toNat : Int) * 256 + (a3.toNat : Int) = (u : Int) := by rw [← hu, hla]; unfold be4; simp; omega
  have hrow2 : rowV l = ⟨3, u, [], z0.toNat⟩ := by rw [hrow]; unfold rowK; rw [if_pos ⟨rfl, rfl, n4, n1⟩]; simp only [hu, hlz]; rfl
  have l4 : (la.length : Int) = 4 := by omega
  have l1 : (lz.length : Int) = 1 := by omega
  have o1 := or_two (N := (a0.toNat : Int) * 16777216) (d := (a1.toNat : Int) * 65536) 24 (by omega) (by omega) (by omega) (by omega) (by omega) (by omega)
  have o2 := or_two (N := (a0.toNat : Int) * 16777216 + (a1.toNat : Int) * 65536) (d := (a2.toNat : Int) * 256) 16 (by omega) (by omega) (by omega) (by omega) (by omega) (by omega)
  have o3 := or_two (N := (a0.toNat : Int) * 16777216 + (a1.toNat : Int) * 65536 + (a2.toNat : Int) * 256) (d := (a3.toNat : Int)) 8 (by omega) (by omega) (by omega) (by omega) (by omega) (by omega)
  rw [hu2] at o3
  have HU := Lib.hid hu2
  clear hrow hu hla hlz hu2
  have HR := Lib.hid hrow2
  clear hrow2
  go_enter Tryd.func32, Tryd.ntmps32
  go_wp2_with (first | (refine wlAlloc rfl 68 rfl (rdA ⟨#[]⟩ 0 (.slice none 0 0) 0) zeroRd ?_; intro gR w1 hgR hgR2 ha hb; have HA := Lib.hid ha; have HG : Hid (w.heap.size ≤ gR) := Lib.hid (Nat.le_trans HB.out.2 hgR); have HGP : Hid (w1.heap.size ≠ gR) := Lib.hid (Nat.ne_of_gt hgR2); replace HM := keepM HM hb; replace HB := keepB HB hb; clear ha hb hgR hgR2) | (go_at_call 44; refine (split_any l m _ HM.out hl).mono ?_; rw [HPS.out]; rintro e w2 ⟨rfl, hp, hb⟩; replace HA := keepA HA hb; replace HB := keepB HB hb; have HP := Lib.hid hp; clear hp hb; have f0 := part_at HP H0.out; have HGQ : Hid (w.heap.size ≤ w2.heap.size) := Lib.hid HB.out.2) | (refine cellStore rfl 9 _ _ rfl gR 0 rfl (.string (bs p0)) rfl rfl rfl HA.out (by show 0 < 4; decide) infoS1 ?_; intro w3 ha ho; replace HA : Hid (w3.heap[gR]? = some (.cells (rdA (bs p0) 0 (.slice none 0 0) 0) 68 (0, 0))) := Lib.hid ha; replace HP := keepAo HP HGP.out ho; replace HB := keepBo HB HG.out ho; have f1 : w3.cell? ⟨gR, 0, none⟩ = some (.string (bs p0)) := cellA HA 0; have g1 := part_at HP H1.out; clear ha ho) | (refine rowLoad rfl 68 _ rfl gR rfl HA.out Tryd.underlying68 rfl infoRd ?_) | (refine rowStore rfl 68 _ _ rfl gR rfl (rdA (bs p0) 0 (.slice none 0 0) 0) rfl HA.out infoRd rfl (rdA_one _ _ _ _ _ _) ?_; intro w9 ha ho; replace HA := Lib.hid ha; replace HB := keepBo HB HG.out ho; clear ha ho) | (go_at_call 45; refine (HCA.out _).mono ?_; clear HCA; rintro e w4 ⟨⟨v, rfl, ho⟩, hb⟩; obtain ⟨Aa, Ac, rfl, hra, hfa⟩ := ho.rd; have HRA := Lib.hid hra; have HFA : Hid (Fresh (gR + 1) Aa) := Lib.hid (hfa.mono (Array.getElem?_eq_some_iff.1 HA.out).1); replace HA := keepA HA hb; replace HP := keepA HP hb; replace HB := keepB HB hb; have gz := part_at HP HZ.out; clear ho hra hfa hb) | (go_at_call 45; refine (HCZ.out _).mono ?_; clear HCZ; rintro e w5 ⟨⟨v, rfl, ho⟩, hb⟩; obtain ⟨Za, Zc, rfl, hra, hfa⟩ := ho.rd; have HRZ := Lib.hid hra; have HFZ : Hid (Fresh (gR + 1) Za) := Lib.hid (hfa.mono (Array.getElem?_eq_some_iff.1 HA.out).1); replace HA := keepA HA hb; replace HP := keepA HP hb; replace HRA := Lib.hid (HRA.out.below hb); replace HB := keepB HB hb; obtain ⟨ab, ao, hab, _⟩ := HRA.out.2 (by omega); subst hab; replace HRA : Hid (RdA .u8 w5 (some ⟨ab, ao, none⟩) 4 (ints la)) := Lib.hid (by rw [← n4]; exact HRA.out); obtain ⟨zb, zo, hzb, _⟩ := HRZ.out.2 (by omega); subst hzb; replace HRZ : Hid (RdA .u8 w5 (some ⟨zb, zo, none⟩) 1 (ints lz)) := Lib.hid (by rw [← n1]; exact HRZ.out); clear ho hra hfa hb))
  replace HRA := Lib.hid (HRA.out.drew 1)
  replace HRZ := Lib.hid (HRZ.out.drew 1)
  replace HA := keepA1 HA
  replace HP := keepA1 HP
  replace HB := keepB1 HB
  have x0 : IntKind.u32.wrap (a0.toNat : Int) = (a0.toNat : Int) := by rw [IntKind.wrap_u32]; omega
  have x1 : IntKind.u32.wrap (a1.toNat : Int) = (a1.toNat : Int) := by rw [IntKind.wrap_u32]; omega
  have x2 : IntKind.u32.wrap (a2.toNat : Int) = (a2.toNat : Int) := by rw [IntKind.wrap_u32]; omega
  have x3 : IntKind.u32.wrap (a3.toNat : Int) = (a3.toNat : Int) := by rw [IntKind.wrap_u32]; omega
  have y0 : IntKind.u32.wrap ((a0.toNat : Int) * 16777216) = (a0.toNat : Int) * 16777216 := by rw [IntKind.wrap_u32]; omega
  have y1 : IntKind.u32.wrap ((a1.toNat : Int) * 65536) = (a1.toNat : Int) * 65536 := by rw [IntKind.wrap_u32]; omega
  have y2 : IntKind.u32.wrap ((a2.toNat : Int) * 256) = (a2.toNat : Int) * 256 := by rw [IntKind.wrap_u32]; omega
  refine rgStart (S := (fun w' => RdA .u8 w' (some ⟨ab, ao, none⟩) 4 (ints la) ∧ RdA .u8 w' (some ⟨zb, zo, none⟩) 1 (ints lz))) (n := 29) #[false, false, false, false, false, false, false, false, false, false, false, false, false, false, false, false, false, false, false, false, false, false, false, false, false, false, false, false, false] (by kernel_rfl) rfl rfl ⟨HRA.out, HRZ.out⟩ (fun hHeld => ?_)
  refine rgTake (i := 0) (N := some 62) (oi := { dst := some 62, op := Op.move (Operand.tmp 6), type := 26, pos := "rom.go:149", after := #[], guard := none }) (v := ?_) #[true, false, false, false, false, false, false, false, false, false, false, false, false, false, false, false, false, false, false, false, false, false, false, false, false, false, false, false, false] rfl rfl (by kernel_rfl) (fun _ _ _ h => h) (Or.inl ⟨by rfl, ?_⟩) hHeld ?_
  rotate_left
  · intro w' hSw; (try dsimp only at hSw); (have k0 := byte_rd hSw.1 (j := 0) (by decide) G0.out; have k1 := byte_rd hSw.1 (j := 1) (by decide) G1.out; have k2 := byte_rd hSw.1 (j := 2) (by decide) G2.out; have k3 := byte_rd hSw.1 (j := 3) (by decide) G3.out; have kz := byte_rd hSw.2 (j := 0) (by decide) GZ.out; rw [Nat.add_zero] at k0 kz; clear hSw); go_simp; try with_reducible rfl
  simp only [Act.put, List.setIfInBounds_toArray, List.set_cons_zero, List.set_cons_succ]
  refine rgTake (i := 1) (N := some 63) (oi := { dst := some 63, op := Op.indexAddr 26 (Operand.tmp 62) (Operand.const (Value.int IntKind.i64 0)), type := 0, pos := "rom.go:149", after := #[{ on := 0, ground := Ground.data }], guard := none }) (v := ?_) #[true, true, false, false, false, false, false, false, false, false, false, false, false, false, false, false, false, false, false, false, false, false, false, false, false, false, false, false, false] rfl rfl (by kernel_rfl) (fun _ _ _ h => h) (Or.inl ⟨by rfl, ?_⟩) hHeld ?_
  rotate_left
  · intro w' hSw; (try dsimp only at hSw); (have k0 := byte_rd hSw.1 (j := 0) (by decide) G0.out; have k1 := byte_rd hSw.1 (j := 1) (by decide) G1.out; have k2 := byte_rd hSw.1 (j := 2) (by decide) G2.out; have k3 := byte_rd hSw.1 (j := 3) (by decide) G3.out; have kz := byte_rd hSw.2 (j := 0) (by decide) GZ.out; rw [Nat.add_zero] at k0 kz; clear hSw); go_simp; try with_reducible rfl
  simp only [Act.put, List.setIfInBounds_toArray, List.set_cons_zero, List.set_cons_succ]
  refine rgTake (i := 2) (N := some 64) (oi := { dst := some 64, op := Op.load 5 (Operand.tmp 63), type := 5, pos := "rom.go:149", after := #[{ on := 1, ground := Ground.data }], guard := none }) (v := ?_) #[true, true, true, false, false, false, false, false, false, false, false, false, false, false, false, false, false, false, false, false, false, false, false, false, false, false, false, false, false] rfl rfl (by kernel_rfl) (fun _ _ _ h => h) (Or.inl ⟨by rfl, ?_⟩) hHeld ?_
  rotate_left
  · intro w' hSw; (try dsimp only at hSw); (have k0 := byte_rd hSw.1 (j := 0) (by decide) G0.out; have k1 := byte_rd hSw.1 (j := 1) (by decide) G1.out; have k2 := byte_rd hSw.1 (j := 2) (by decide) G2.out; have k3 := byte_rd hSw.1 (j := 3) (by decide) G3.out; have kz := byte_rd hSw.2 (j := 0) (by decide) GZ.out; rw [Nat.add_zero] at k0 kz; clear hSw); go_simp; try with_reducible rfl
  simp only [Act.put, List.setIfInBounds_toArray, List.set_cons_zero, List.set_cons_succ]
  refine rgTake (i := 3) (N := some 65) (oi := { dst := some 65, op := Op.convert 5 22 (Operand.tmp 64), type := 22, pos := "rom.go:149", after := #[{ on := 2, ground := Ground.data }], guard := none }) (v := ?_) #[true, true, true, true, false, false, false, false, false, false, false, false, false, false, false, false, false, false, false, false, false, false, false, false, false, false, false, false, false] rfl rfl (by kernel_rfl) (fun _ _ _ h => h) (Or.inl ⟨by rfl, ?_⟩) hHeld ?_
  rotate_left
  · intro w' hSw; (try dsimp only at hSw); (have k0 := byte_rd hSw.1 (j := 0) (by decide) G0.out; have k1 := byte_rd hSw.1 (j := 1) (by decide) G1.out; have k2 := byte_rd hSw.1 (j := 2) (by decide) G2.out; have k3 := byte_rd hSw.1 (j := 3) (by decide) G3.out; have kz := byte_rd hSw.2 (j := 0) (by decide) GZ.out; rw [Nat.add_zero] at k0 kz; clear hSw); go_simp; try with_reducible rfl
  simp only [Act.put, List.setIfInBounds_toArray, List.set_cons_zero, List.set_cons_succ]
  refine rgTake (i := 4) (N := some 66) (oi := { dst := some 66, op := Op.binOp BinOp.shl 22 (Operand.tmp 65) (Operand.const (Value.int IntKind.u64 24)) 86, type := 22, pos := "rom.go:149", after := #[{ on := 3, ground := Ground.data }], guard := none }) (v := ?_) #[true, true, true, true, true, false, false, false, false, false, false, false, false, false, false, false, false, false, false, false, false, false, false, false, false, false, false, false, false] rfl rfl (by kernel_rfl) (fun _ _ _ h => h) (Or.inl ⟨by rfl, ?_⟩) hHeld ?_
  rotate_left
  · intro w' hSw; (try dsimp only at hSw); (have k0 := byte_rd hSw.1 (j := 0) (by decide) G0.out; have k1 := byte_rd hSw.1 (j := 1) (by decide) G1.out; have k2 := byte_rd hSw.1 (j := 2) (by decide) G2.out; have k3 := byte_rd hSw.1 (j := 3) (by decide) G3.out; have kz := byte_rd hSw.2 (j := 0) (by decide) GZ.out; rw [Nat.add_zero] at k0 kz; clear hSw); go_simp; try with_reducible rfl
  simp only [Act.put, List.setIfInBounds_toArray, List.set_cons_zero, List.set_cons_succ]
  refine rgTake (i := 5) (N := some 67) (oi := { dst := some 67, op := Op.move (Operand.tmp 6), type := 26, pos := "rom.go:149", after := #[], guard := none }) (v := ?_) #[true, true, true, true, true, true, false, false, false, false, false, false, false, false, false, false, false, false, false, false, false, false, false, false, false, false, false, false, false] rfl rfl (by kernel_rfl) (fun _ _ _ h => h) (Or.inl ⟨by rfl, ?_⟩) hHeld ?_
  rotate_left
  · intro w' hSw; (try dsimp only at hSw); (have k0 := byte_rd hSw.1 (j := 0) (by decide) G0.out; have k1 := byte_rd hSw.1 (j := 1) (by decide) G1.out; have k2 := byte_rd hSw.1 (j := 2) (by decide) G2.out; have k3 := byte_rd hSw.1 (j := 3) (by decide) G3.out; have kz := byte_rd hSw.2 (j := 0) (by decide) GZ.out; rw [Nat.add_zero] at k0 kz; clear hSw); go_simp; try with_reducible rfl
  simp only [Act.put, List.setIfInBounds_toArray, List.set_cons_zero, List.set_cons_succ]
  refine rgTake (i := 6) (N := some 68) (oi := { dst := some 68, op := Op.indexAddr 26 (Operand.tmp 67) (Operand.const (Value.int IntKind.i64 1)), type := 0, pos := "rom.go:149", after := #[{ on := 5, ground := Ground.data }], guard := none }) (v := ?_) #[true, true, true, true, true, true, true, false, false, false, false, false, false, false, false, false, false, false, false, false, false, false, false, false, false, false, false, false, false] rfl rfl (by kernel_rfl) (fun _ _ _ h => h) (Or.inl ⟨by rfl, ?_⟩) hHeld ?_
  rotate_left
  · intro w' hSw; (try dsimp only at hSw); (have k0 := byte_rd hSw.1 (j := 0) (by decide) G0.out; have k1 := byte_rd hSw.1 (j := 1) (by decide) G1.out; have k2 := byte_rd hSw.1 (j := 2) (by decide) G2.out; have k3 := byte_rd hSw.1 (j := 3) (by decide) G3.out; have kz := byte_rd hSw.2 (j := 0) (by decide) GZ.out; rw [Nat.add_zero] at k0 kz; clear hSw); go_simp; try with_reducible rfl
  simp only [Act.put, List.setIfInBounds_toArray, List.set_cons_zero, List.set_cons_succ]
  refine rgTake (i := 7) (N := some 69) (oi := { dst := some 69, op := Op.load 5 (Operand.tmp 68), type := 5, pos := "rom.go:149", after := #[{ on := 6, ground := Ground.data }], guard := none }) (v := ?_) #[true, true, true, true, true, true, true, true, false, false, false, false, false, false, false, false, false, false, false, false, false, false, false, false, false, false, false, false, false] rfl rfl (by kernel_rfl) (fun _ _ _ h => h) (Or.inl ⟨by rfl, ?_⟩) hHeld ?_
  rotate_left
  · intro w' hSw; (try dsimp only at hSw); (have k0 := byte_rd hSw.1 (j := 0) (by decide) G0.out; have k1 := byte_rd hSw.1 (j := 1) (by decide) G1.out; have k2 := byte_rd hSw.1 (j := 2) (by decide) G2.out; have k3 := byte_rd hSw.1 (j := 3) (by decide) G3.out; have kz := byte_rd hSw.2 (j := 0) (by decide) GZ.out; rw [Nat.add_zero] at k0 kz; clear hSw); go_simp; try with_reducible rfl
  simp only [Act.put, List.setIfInBounds_toArray, List.set_cons_zero, List.set_cons_succ]
  refine rgTake (i := 8) (N := some 70) (oi := { dst := some 70, op := Op.convert 5 22 (Operand.tmp 69), type := 22, pos := "rom.go:149", after := #[{ on := 7, ground := Ground.data }], guard := none }) (v := ?_) #[true, true, true, true, true, true, true, true, true, false, false, false, false, false, false, false, false, false, false, false, false, false, false, false, false, false, false, false, false] rfl rfl (by kernel_rfl) (fun _ _ _ h => h) (Or.inl ⟨by rfl, ?_⟩) hHeld ?_
  rotate_left
  · intro w' hSw; (try dsimp only at hSw); (have k0 := byte_rd hSw.1 (j := 0) (by decide) G0.out; have k1 := byte_rd hSw.1 (j := 1) (by decide) G1.out; have k2 := byte_rd hSw.1 (j := 2) (by decide) G2.out; have k3 := byte_rd hSw.1 (j := 3) (by decide) G3.out; have kz := byte_rd hSw.2 (j := 0) (by decide) GZ.out; rw [Nat.add_zero] at k0 kz; clear hSw); go_simp; try with_reducible rfl
  simp only [Act.put, List.setIfInBounds_toArray, List.set_cons_zero, List.set_cons_succ]
  refine rgTake (i := 9) (N := some 71) (oi := { dst := some 71, op := Op.binOp BinOp.shl 22 (Operand.tmp 70) (Operand.const (Value.int IntKind.u64 16)) 86, type := 22, pos := "rom.go:149", after := #[{ on := 8, ground := Ground.data }], guard := none }) (v := ?_) #[true, true, true, true, true, true, true, true, true, true, false, false, false, false, false, false, false, false, false, false, false, false, false, false, false, false, false, false, false] rfl rfl (by kernel_rfl) (fun _ _ _ h => h) (Or.inl ⟨by rfl, ?_⟩) hHeld ?_
  rotate_left
  · intro w' hSw; (try dsimp only at hSw); (have k0 := byte_rd hSw.1 (j := 0) (by decide) G0.out; have k1 := byte_rd hSw.1 (j := 1) (by decide) G1.out; have k2 := byte_rd hSw.1 (j := 2) (by decide) G2.out; have k3 := byte_rd hSw.1 (j := 3) (by decide) G3.out; have kz := byte_rd hSw.2 (j := 0) (by decide) GZ.out; rw [Nat.add_zero] at k0 kz; clear hSw); go_simp; try with_reducible rfl
  simp only [Act.put, List.setIfInBounds_toArray, List.set_cons_zero, List.set_cons_succ]
  refine rgTake (i := 10) (N := some 72) (oi := { dst := some 72, op := Op.binOp BinOp.or 22 (Operand.tmp 66) (Operand.tmp 71) 22, type := 22, pos := "rom.go:149", after := #[{ on := 4, ground := Ground.data }, { on := 9, ground := Ground.data }], guard := none }) (v := ?_) #[true, true, true, true, true, true, true, true, true, true, true, false, false, false, false, false, false, false, false, false, false, false, false, false, false, false, false, false, false] rfl rfl (by kernel_rfl) (fun _ _ _ h => h) (Or.inl ⟨by rfl, ?_⟩) hHeld ?_
  rotate_left
  · intro w' hSw; (try dsimp only at hSw); (have k0 := byte_rd hSw.1 (j := 0) (by decide) G0.out; have k1 := byte_rd hSw.1 (j := 1) (by decide) G1.out; have k2 := byte_rd hSw.1 (j := 2) (by decide) G2.out; have k3 := byte_rd hSw.1 (j := 3) (by decide) G3.out; have kz := byte_rd hSw.2 (j := 0) (by decide) GZ.out; rw [Nat.add_zero] at k0 kz; clear hSw); go_simp; try with_reducible rfl
  simp only [Act.put, List.setIfInBounds_toArray, List.set_cons_zero, List.set_cons_succ]
  refine rgTake (i := 11) (N := some 73) (oi := { dst := some 73, op := Op.move (Operand.tmp 6), type := 26, pos := "rom.go:149", after := #[], guard := none }) (v := ?_) #[true, true, true, true, true, true, true, true, true, true, true, true, false, false, false, false, false, false, false, false, false, false, false, false, false, false, false, false, false] rfl rfl (by kernel_rfl) (fun _ _ _ h => h) (Or.inl ⟨by rfl, ?_⟩) hHeld ?_
  rotate_left
  · intro w' hSw; (try dsimp only at hSw); (have k0 := byte_rd hSw.1 (j := 0) (by decide) G0.out; have k1 := byte_rd hSw.1 (j := 1) (by decide) G1.out; have k2 := byte_rd hSw.1 (j := 2) (by decide) G2.out; have k3 := byte_rd hSw.1 (j := 3) (by decide) G3.out; have kz := byte_rd hSw.2 (j := 0) (by decide) GZ.out; rw [Nat.add_zero] at k0 kz; clear hSw); go_simp; try with_reducible rfl
  simp only [Act.put, List.setIfInBounds_toArray, List.set_cons_zero, List.set_cons_succ]
  refine rgTake (i := 12) (N := some 74) (oi := { dst := some 74, op := Op.indexAddr 26 (Operand.tmp 73) (Operand.const (Value.int IntKind.i64 2)), type := 0, pos := "rom.go:149", after := #[{ on := 11, ground := Ground.data }], guard := none }) (v := ?_) #[true, true, true, true, true, true, true, true, true, true, true, true, true, false, false, false, false, false, false, false, false, false, false, false, false, false, false, false, false] rfl rfl (by kernel_rfl) (fun _ _ _ h => h) (Or.inl ⟨by rfl, ?_⟩) hHeld ?_
  rotate_left
  · intro w' hSw; (try dsimp only at hSw); (have k0 := byte_rd hSw.1 (j := 0) (by decide) G0.out; have k1 := byte_rd hSw.1 (j := 1) (by decide) G1.out; have k2 := byte_rd hSw.1 (j := 2) (by decide) G2.out; have k3 := byte_rd hSw.1 (j := 3) (by decide) G3.out; have kz := byte_rd hSw.2 (j := 0) (by decide) GZ.out; rw [Nat.add_zero] at k0 kz; clear hSw); go_simp; try with_reducible rfl
  simp only [Act.put, List.setIfInBounds_toArray, List.set_cons_zero, List.set_cons_succ]
  refine rgTake (i := 13) (N := some 75) (oi := { dst := some 75, op := Op.load 5 (Operand.tmp 74), type := 5, pos := "rom.go:149", after := #[{ on := 12, ground := Ground.data }], guard := none }) (v := ?_) #[true, true, true, true, true, true, true, true, true, true, true, true, true, true, false, false, false, false, false, false, false, false, false, false, false, false, false, false, false] rfl rfl (by kernel_rfl) (fun _ _ _ h => h) (Or.inl ⟨by rfl, ?_⟩) hHeld ?_
  rotate_left
  · intro w' hSw; (try dsimp only at hSw); (have k0 := byte_rd hSw.1 (j := 0) (by decide) G0.out; have k1 := byte_rd hSw.1 (j := 1) (by decide) G1.out; have k2 := byte_rd hSw.1 (j := 2) (by decide) G2.out; have k3 := byte_rd hSw.1 (j := 3) (by decide) G3.out; have kz := byte_rd hSw.2 (j := 0) (by decide) GZ.out; rw [Nat.add_zero] at k0 kz; clear hSw); go_simp; try with_reducible rfl
  simp only [Act.put, List.setIfInBounds_toArray, List.set_cons_zero, List.set_cons_succ]
  refine rgTake (i := 14) (N := some 76) (oi := { dst := some 76, op := Op.convert 5 22 (Operand.tmp 75), type := 22, pos := "rom.go:149", after := #[{ on := 13, ground := Ground.data }], guard := none }) (v := ?_) #[true, true, true, true, true, true, true, true, true, true, true, true, true, true, true, false, false, false, false, false, false, false, false, false, false, false, false, false, false] rfl rfl (by kernel_rfl) (fun _ _ _ h => h) (Or.inl ⟨by rfl, ?_⟩) hHeld ?_
  rotate_left
  · intro w' hSw; (try dsimp only at hSw); (have k0 := byte_rd hSw.1 (j := 0) (by decide) G0.out; have k1 := byte_rd hSw.1 (j := 1) (by decide) G1.out; have k2 := byte_rd hSw.1 (j := 2) (by decide) G2.out; have k3 := byte_rd hSw.1 (j := 3) (by decide) G3.out; have kz := byte_rd hSw.2 (j := 0) (by decide) GZ.out; rw [Nat.add_zero] at k0 kz; clear hSw); go_simp; try with_reducible rfl
  simp only [Act.put, List.setIfInBounds_toArray, List.set_cons_zero, List.set_cons_succ]
  refine rgTake (i := 15) (N := some 77) (oi := { dst := some 77, op := Op.binOp BinOp.shl 22 (Operand.tmp 76) (Operand.const (Value.int IntKind.u64 8)) 86, type := 22, pos := "rom.go:149", after := #[{ on := 14, ground := Ground.data }], guard := none }) (v := ?_) #[true, true, true, true, true, true, true, true, true, true, true, true, true, true, true, true, false, false, false, false, false, false, false, false, false, false, false, false, false] rfl rfl (by kernel_rfl) (fun _ _ _ h => h) (Or.inl ⟨by rfl, ?_⟩) hHeld ?_
  rotate_left
  · intro w' hSw; (try dsimp only at hSw); (have k0 := byte_rd hSw.1 (j := 0) (by decide) G0.out; have k1 := byte_rd hSw.1 (j := 1) (by decide) G1.out; have k2 := byte_rd hSw.1 (j := 2) (by decide) G2.out; have k3 := byte_rd hSw.1 (j := 3) (by decide) G3.out; have kz := byte_rd hSw.2 (j := 0) (by decide) GZ.out; rw [Nat.add_zero] at k0 kz; clear hSw); go_simp; try with_reducible rfl
  simp only [Act.put, List.setIfInBounds_toArray, List.set_cons_zero, List.set_cons_succ]
  refine rgTake (i := 16) (N := some 78) (oi := { dst := some 78, op := Op.binOp BinOp.or 22 (Operand.tmp 72) (Operand.tmp 77) 22, type := 22, pos := "rom.go:149", after := #[{ on := 10, ground := Ground.data }, { on := 15, ground := Ground.data }], guard := none }) (v := ?_) #[true, true, true, true, true, true, true, true, true, true, true, true, true, true, true, true, true, false, false, false, false, false, false, false, false, false, false, false, false] rfl rfl (by kernel_rfl) (fun _ _ _ h => h) (Or.inl ⟨by rfl, ?_⟩) hHeld ?_
  rotate_left
  · intro w' hSw; (try dsimp only at hSw); (have k0 := byte_rd hSw.1 (j := 0) (by decide) G0.out; have k1 := byte_rd hSw.1 (j := 1) (by decide) G1.out; have k2 := byte_rd hSw.1 (j := 2) (by decide) G2.out; have k3 := byte_rd hSw.1 (j := 3) (by decide) G3.out; have kz := byte_rd hSw.2 (j := 0) (by decide) GZ.out; rw [Nat.add_zero] at k0 kz; clear hSw); go_simp; try with_reducible rfl
  simp only [Act.put, List.setIfInBounds_toArray, List.set_cons_zero, List.set_cons_succ]
  refine rgTake (i := 17) (N := some 79) (oi := { dst := some 79, op := Op.move (Operand.tmp 6), type := 26, pos := "rom.go:149", after := #[], guard := none }) (v := ?_) #[true, true, true, true, true, true, true, true, true, true, true, true, true, true, true, true, true, true, false, false, false, false, false, false, false, false, false, false, false] rfl rfl (by kernel_rfl) (fun _ _ _ h => h) (Or.inl ⟨by rfl, ?_⟩) hHeld ?_
  rotate_left
  · intro w' hSw; (try dsimp only at hSw); (have k0 := byte_rd hSw.1 (j := 0) (by decide) G0.out; have k1 := byte_rd hSw.1 (j := 1) (by decide) G1.out; have k2 := byte_rd hSw.1 (j := 2) (by decide) G2.out; have k3 := byte_rd hSw.1 (j := 3) (by decide) G3.out; have kz := byte_rd hSw.2 (j := 0) (by decide) GZ.out; rw [Nat.add_zero] at k0 kz; clear hSw); go_simp; try with_reducible rfl
  simp only [Act.put, List.setIfInBounds_toArray, List.set_cons_zero, List.set_cons_succ]
  refine rgTake (i := 18) (N := some 80) (oi := { dst := some 80, op := Op.indexAddr 26 (Operand.tmp 79) (Operand.const (Value.int IntKind.i64 3)), type := 0, pos := "rom.go:149", after := #[{ on := 17, ground := Ground.data }], guard := none }) (v := ?_) #[true, true, true, true, true, true, true, true, true, true, true, true, true, true, true, true, true, true, true, false, false, false, false, false, false, false, false, false, false] rfl rfl (by kernel_rfl) (fun _ _ _ h => h) (Or.inl ⟨by rfl, ?_⟩) hHeld ?_
  rotate_left
  · intro w' hSw; (try dsimp only at hSw); (have k0 := byte_rd hSw.1 (j := 0) (by decide) G0.out; have k1 := byte_rd hSw.1 (j := 1) (by decide) G1.out; have k2 := byte_rd hSw.1 (j := 2) (by decide) G2.out; have k3 := byte_rd hSw.1 (j := 3) (by decide) G3.out; have kz := byte_rd hSw.2 (j := 0) (by decide) GZ.out; rw [Nat.add_zero] at k0 kz; clear hSw); go_simp; try with_reducible rfl
  simp only [Act.put, List.setIfInBounds_toArray, List.set_cons_zero, List.set_cons_succ]
  refine rgTake (i := 19) (N := some 81) (oi := { dst := some 81, op := Op.load 5 (Operand.tmp 80), type := 5, pos := "rom.go:149", after := #[{ on := 18, ground := Ground.data }], guard := none }) (v := ?_) #[true, true, true, true, true, true, true, true, true, true, true, true, true, true, true, true, true, true, true, true, false, false, false, false, false, false, false, false, false] rfl rfl (by kernel_rfl) (fun _ _ _ h => h) (Or.inl ⟨by rfl, ?_⟩) hHeld ?_
  rotate_left
  · intro w' hSw; (try dsimp only at hSw); (have k0 := byte_rd hSw.1 (j := 0) (by decide) G0.out; have k1 := byte_rd hSw.1 (j := 1) (by decide) G1.out; have k2 := byte_rd hSw.1 (j := 2) (by decide) G2.out; have k3 := byte_rd hSw.1 (j := 3) (by decide) G3.out; have kz := byte_rd hSw.2 (j := 0) (by decide) GZ.out; rw [Nat.add_zero] at k0 kz; clear hSw); go_simp; try with_reducible rfl
  simp only [Act.put, List.setIfInBounds_toArray, List.set_cons_zero, List.set_cons_succ]
  refine rgTake (i := 20) (N := some 82) (oi := { dst := some 82, op := Op.convert 5 22 (Operand.tmp 81), type := 22, pos := "rom.go:149", after := #[{ on := 19, ground := Ground.data }], guard := none }) (v := ?_) #[true, true, true, true, true, true, true, true, true, true, true, true, true, true, true, true, true, true, true, true, true, false, false, false, false, false, false, false, false] rfl rfl (by kernel_rfl) (fun _ _ _ h => h) (Or.inl ⟨by rfl, ?_⟩) hHeld ?_
  rotate_left
  · intro w' hSw; (try dsimp only at hSw); (have k0 := byte_rd hSw.1 (j := 0) (by decide) G0.out; have k1 := byte_rd hSw.1 (j := 1) (by decide) G1.out; have k2 := byte_rd hSw.1 (j := 2) (by decide) G2.out; have k3 := byte_rd hSw.1 (j := 3) (by decide) G3.out; have kz := byte_rd hSw.2 (j := 0) (by decide) GZ.out; rw [Nat.add_zero] at k0 kz; clear hSw); go_simp; try with_reducible rfl
  simp only [Act.put, List.setIfInBounds_toArray, List.set_cons_zero, List.set_cons_succ]
  refine rgTake (i := 21) (N := some 83) (oi := { dst := some 83, op := Op.binOp BinOp.or 22 (Operand.tmp 78) (Operand.tmp 82) 22, type := 22, pos := "rom.go:149", after := #[{ on := 16, ground := Ground.data }, { on := 20, ground := Ground.data }], guard := none }) (v := ?_) #[true, true, true, true, true, true, true, true, true, true, true, true, true, true, true, true, true, true, true, true, true, true, false, false, false, false, false, false, false] rfl rfl (by kernel_rfl) (fun _ _ _ h => h) (Or.inl ⟨by rfl, ?_⟩) hHeld ?_
  rotate_left
  · intro w' hSw; (try dsimp only at hSw); (have k0 := byte_rd hSw.1 (j := 0) (by decide) G0.out; have k1 := byte_rd hSw.1 (j := 1) (by decide) G1.out; have k2 := byte_rd hSw.1 (j := 2) (by decide) G2.out; have k3 := byte_rd hSw.1 (j := 3) (by decide) G3.out; have kz := byte_rd hSw.2 (j := 0) (by decide) GZ.out; rw [Nat.add_zero] at k0 kz; clear hSw); go_simp; try with_reducible rfl
  simp only [Act.put, List.setIfInBounds_toArray, List.set_cons_zero, List.set_cons_succ]
  refine rgTake (i := 22) (N := some 84) (oi := { dst := some 84, op := Op.move (Operand.tmp 8), type := 26, pos := "rom.go:149", after := #[{ on := 26, ground := Ground.gcOnly Departure.lateStores }], guard := none }) (v := ?_) #[true, true, true, true, true, true, true, true, true, true, true, true, true, true, true, true, true, true, true, true, true, true, true, false, false, false, false, false, false] rfl rfl (by kernel_rfl) (fun _ _ _ h => h) (Or.inl ⟨by rfl, ?_⟩) hHeld ?_
  rotate_left
  · intro w' hSw; (try dsimp only at hSw); (have k0 := byte_rd hSw.1 (j := 0) (by decide) G0.out; have k1 := byte_rd hSw.1 (j := 1) (by decide) G1.out; have k2 := byte_rd hSw.1 (j := 2) (by decide) G2.out; have k3 := byte_rd hSw.1 (j := 3) (by decide) G3.out; have kz := byte_rd hSw.2 (j := 0) (by decide) GZ.out; rw [Nat.add_zero] at k0 kz; clear hSw); go_simp; try with_reducible rfl
  simp only [Act.put, List.setIfInBounds_toArray, List.set_cons_zero, List.set_cons_succ]
  refine rgTake (i := 23) (N := some 85) (oi := { dst := some 85, op := Op.indexAddr 26 (Operand.tmp 84) (Operand.const (Value.int IntKind.i64 0)), type := 0, pos := "rom.go:149", after := #[{ on := 22, ground := Ground.data }, { on := 26, ground := Ground.gcOnly Departure.lateStores }], guard := none }) (v := ?_) #[true, true, true, true, true, true, true, true, true, true, true, true, true, true, true, true, true, true, true, true, true, true, true, true, false, false, false, false, false] rfl rfl (by kernel_rfl) (fun _ _ _ h => h) (Or.inl ⟨by rfl, ?_⟩) hHeld ?_
  rotate_left
  · intro w' hSw; (try dsimp only at hSw); (have k0 := byte_rd hSw.1 (j := 0) (by decide) G0.out; have k1 := byte_rd hSw.1 (j := 1) (by decide) G1.out; have k2 := byte_rd hSw.1 (j := 2) (by decide) G2.out; have k3 := byte_rd hSw.1 (j := 3) (by decide) G3.out; have kz := byte_rd hSw.2 (j := 0) (by decide) GZ.out; rw [Nat.add_zero] at k0 kz; clear hSw); go_simp; try with_reducible rfl
  simp only [Act.put, List.setIfInBounds_toArray, List.set_cons_zero, List.set_cons_succ]
  refine rgTake (i := 24) (N := some 86) (oi := { dst := some 86, op := Op.load 5 (Operand.tmp 85), type := 5, pos := "rom.go:149", after := #[{ on := 23, ground := Ground.data }, { on := 26, ground := Ground.gcOnly Departure.lateStores }], guard := none }) (v := ?_) #[true, true, true, true, true, true, true, true, true, true, true, true, true, true, true, true, true, true, true, true, true, true, true, true, true, false, false, false, false] rfl rfl (by kernel_rfl) (fun _ _ _ h => h) (Or.inl ⟨by rfl, ?_⟩) hHeld ?_
  rotate_left
  · intro w' hSw; (try dsimp only at hSw); (have k0 := byte_rd hSw.1 (j := 0) (by decide) G0.out; have k1 := byte_rd hSw.1 (j := 1) (by decide) G1.out; have k2 := byte_rd hSw.1 (j := 2) (by decide) G2.out; have k3 := byte_rd hSw.1 (j := 3) (by decide) G3.out; have kz := byte_rd hSw.2 (j := 0) (by decide) GZ.out; rw [Nat.add_zero] at k0 kz; clear hSw); go_simp; try with_reducible rfl
  simp only [Act.put, List.setIfInBounds_toArray, List.set_cons_zero, List.set_cons_succ]
  refine rgTake (i := 25) (N := some 87) (oi := { dst := some 87, op := Op.fieldAddr 68 (Operand.tmp 2) 1, type := 0, pos := "rom.go:149", after := #[{ on := 0, ground := Ground.phase }, { on := 1, ground := Ground.phase }, { on := 2, ground := Ground.phase }, { on := 3, ground := Ground.phase }, { on := 4, ground := Ground.phase }, { on := 5, ground := Ground.phase }, { on := 6, ground := Ground.phase }, { on := 7, ground := Ground.phase }, { on := 8, ground := Ground.phase }, { on := 9, ground := Ground.phase }, { on := 10, ground := Ground.phase }, { on := 11, ground := Ground.phase }, { on := 12, ground := Ground.phase }, { on := 13, ground := Ground.phase }, { on := 14, ground := Ground.phase }, { on := 15, ground := Ground.phase }, { on := 16, ground := Ground.phase }, { on := 17, ground := Ground.phase }, { on := 18, ground := Ground.phase }, { on := 19, ground := Ground.phase }, { on := 20, ground := Ground.phase }, { on := 21, ground := Ground.phase }, { on := 22, ground := Ground.textOnly Departure.lateStores }, { on := 23, ground := Ground.textOnly Departure.lateStores }, { on := 24, ground := Ground.textOnly Departure.lateStores }], guard := none }) (v := ?_) #[true, true, true, true, true, true, true, true, true, true, true, true, true, true, true, true, true, true, true, true, true, true, true, true, true, true, false, false, false] rfl rfl (by kernel_rfl) (fun _ _ _ h => h) (Or.inl ⟨by rfl, ?_⟩) hHeld ?_
  rotate_left
  · intro w' hSw; (try dsimp only at hSw); (have k0 := byte_rd hSw.1 (j := 0) (by decide) G0.out; have k1 := byte_rd hSw.1 (j := 1) (by decide) G1.out; have k2 := byte_rd hSw.1 (j := 2) (by decide) G2.out; have k3 := byte_rd hSw.1 (j := 3) (by decide) G3.out; have kz := byte_rd hSw.2 (j := 0) (by decide) GZ.out; rw [Nat.add_zero] at k0 kz; clear hSw); go_simp; try with_reducible rfl
  simp only [Act.put, List.setIfInBounds_toArray, List.set_cons_zero, List.set_cons_succ]
  refine rgCall (i := 26) (N := none) (oi := { dst := none, op := Op.store 22 (Operand.tmp 87) (Operand.tmp 83), type := 0, pos := "rom.go:149", after := #[{ on := 25, ground := Ground.data }, { on := 21, ground := Ground.data }, { on := 0, ground := Ground.phase }, { on := 1, ground := Ground.phase }, { on := 2, ground := Ground.phase }, { on := 3, ground := Ground.phase }, { on := 4, ground := Ground.phase }, { on := 5, ground := Ground.phase }, { on := 6, ground := Ground.phase }, { on := 7, ground := Ground.phase }, { on := 8, ground := Ground.phase }, { on := 9, ground := Ground.phase }, { on := 10, ground := Ground.phase }, { on := 11, ground := Ground.phase }, { on := 12, ground := Ground.phase }, { on := 13, ground := Ground.phase }, { on := 14, ground := Ground.phase }, { on := 15, ground := Ground.phase }, { on := 16, ground := Ground.phase }, { on := 17, ground := Ground.phase }, { on := 18, ground := Ground.phase }, { on := 19, ground := Ground.phase }, { on := 20, ground := Ground.phase }, { on := 21, ground := Ground.phase }, { on := 22, ground := Ground.textOnly Departure.lateStores }, { on := 23, ground := Ground.textOnly Departure.lateStores }, { on := 24, ground := Ground.textOnly Departure.lateStores }], guard := none }) #[true, true, true, true, true, true, true, true, true, true, true, true, true, true, true, true, true, true, true, true, true, true, true, true, true, true, true, false, false] rfl rfl (by kernel_rfl) (fun K hK => ?_)
  refine rgCell (by rfl) 22 _ _ rfl gR 1 rfl (.int .u32 (u : Int)) rfl rfl rfl HA.out (by show 1 < 4; decide) infoU32 ?_; intro w6 ha ho; replace HA : Hid (w6.heap[gR]? = some (.cells (rdA (bs p0) u (.slice none 0 0) 0) 68 (0, 0))) := Lib.hid ha; replace HP := keepAo HP HGP.out ho; replace HB := keepBo HB HG.out ho; replace HRA := Lib.hid (HRA.out.only ho HFA.out); replace HRZ := Lib.hid (HRZ.out.only ho HFZ.out); clear ha ho
  refine hK.out _ _ ⟨HRA.out, HRZ.out⟩ (fun hHeld => ?_)
  clear hK K
  refine rgTake (i := 27) (N := some 88) (oi := { dst := some 88, op := Op.fieldAddr 68 (Operand.tmp 2) 3, type := 0, pos := "rom.go:149", after := #[{ on := 0, ground := Ground.phase }, { on := 1, ground := Ground.phase }, { on := 2, ground := Ground.phase }, { on := 3, ground := Ground.phase }, { on := 4, ground := Ground.phase }, { on := 5, ground := Ground.phase }, { on := 6, ground := Ground.phase }, { on := 7, ground := Ground.phase }, { on := 8, ground := Ground.phase }, { on := 9, ground := Ground.phase }, { on := 10, ground := Ground.phase }, { on := 11, ground := Ground.phase }, { on := 12, ground := Ground.phase }, { on := 13, ground := Ground.phase }, { on := 14, ground := Ground.phase }, { on := 15, ground := Ground.phase }, { on := 16, ground := Ground.phase }, { on := 17, ground := Ground.phase }, { on := 18, ground := Ground.phase }, { on := 19, ground := Ground.phase }, { on := 20, ground := Ground.phase }, { on := 21, ground := Ground.phase }, { on := 22, ground := Ground.phase }, { on := 23, ground := Ground.phase }, { on := 24, ground := Ground.phase }, { on := 25, ground := Ground.phase }, { on := 26, ground := Ground.phase }], guard := none }) (v := ?_) #[true, true, true, true, true, true, true, true, true, true, true, true, true, true, true, true, true, true, true, true, true, true, true, true, true, true, true, true, false] rfl rfl (by kernel_rfl) (fun _ _ _ h => h) (Or.inl ⟨by rfl, ?_⟩) hHeld ?_
  rotate_left
  · intro w' hSw; (try dsimp only at hSw); (have k0 := byte_rd hSw.1 (j := 0) (by decide) G0.out; have k1 := byte_rd hSw.1 (j := 1) (by decide) G1.out; have k2 := byte_rd hSw.1 (j := 2) (by decide) G2.out; have k3 := byte_rd hSw.1 (j := 3) (by decide) G3.out; have kz := byte_rd hSw.2 (j := 0) (by decide) GZ.out; rw [Nat.add_zero] at k0 kz; clear hSw); go_simp; try with_reducible rfl
  simp only [Act.put, List.setIfInBounds_toArray, List.set_cons_zero, List.set_cons_succ]
  refine rgCall (i := 28) (N := none) (oi := { dst := none, op := Op.store 5 (Operand.tmp 88) (Operand.tmp 86), type := 0, pos := "rom.go:149", after := #[{ on := 27, ground := Ground.data }, { on := 24, ground := Ground.data }, { on := 26, ground := Ground.chain }, { on := 0, ground := Ground.phase }, { on := 1, ground := Ground.phase }, { on := 2, ground := Ground.phase }, { on := 3, ground := Ground.phase }, { on := 4, ground := Ground.phase }, { on := 5, ground := Ground.phase }, { on := 6, ground := Ground.phase }, { on := 7, ground := Ground.phase }, { on := 8, ground := Ground.phase }, { on := 9, ground := Ground.phase }, { on := 10, ground := Ground.phase }, { on := 11, ground := Ground.phase }, { on := 12, ground := Ground.phase }, { on := 13, ground := Ground.phase }, { on := 14, ground := Ground.phase }, { on := 15, ground := Ground.phase }, { on := 16, ground := Ground.phase }, { on := 17, ground := Ground.phase }, { on := 18, ground := Ground.phase }, { on := 19, ground := Ground.phase }, { on := 20, ground := Ground.phase }, { on := 21, ground := Ground.phase }, { on := 22, ground := Ground.phase }, { on := 23, ground := Ground.phase }, { on := 24, ground := Ground.phase }, { on := 25, ground := Ground.phase }, { on := 26, ground := Ground.phase }], guard := none }) #[true, true, true, true, true, true, true, true, true, true, true, true, true, true, true, true, true, true, true, true, true, true, true, true, true, true, true, true, true] rfl rfl (by kernel_rfl) (fun K hK => ?_)
  refine rgCell (by rfl) 5 _ _ rfl gR 3 rfl (.int .u8 (z0.toNat : Int)) rfl rfl rfl HA.out (by show 3 < 4; decide) infoU8 ?_; intro w7 ha ho; replace HA : Hid (w7.heap[gR]? = some (.cells (rdA (bs p0) u (.slice none 0 0) z0.toNat) 68 (0, 0))) := Lib.hid ha; replace HP := keepAo HP HGP.out ho; replace HB := keepBo HB HG.out ho; replace HRA := Lib.hid (HRA.out.only ho HFA.out); replace HRZ := Lib.hid (HRZ.out.only ho HFZ.out); skip; clear ha ho
  refine hK.out _ _ ⟨HRA.out, HRZ.out⟩ (fun hHeld => ?_)
  clear hK K
  refine rgDone (by kernel_rfl) ?_ _
  clear x0 x1 x2 x3 y0 y1 y2 o1 o2 o3
  go_wp2_with (first | (refine rowLoad rfl 68 _ rfl gR rfl HA.out Tryd.underlying68 rfl infoRd ?_) | (refine rowStore rfl 68 _ _ rfl gR rfl (rdA (bs p0) 0 (.slice none 0 0) 0) rfl HA.out infoRd rfl (rdA_one _ _ _ _ _ _) ?_; intro w9 ha ho; replace HA := Lib.hid ha; replace HB := keepBo HB HG.out ho; clear ha ho) | (refine rowLoad rfl 68 _ rfl gR rfl HA.out Tryd.underlying68 rfl infoRd ?_) | (refine rowStore rfl 68 _ _ rfl gR rfl (rdA (bs p0) u (.slice none 0 0) z0.toNat) rfl HA.out infoRd rfl (rdA_one _ _ _ _ _ _) ?_; intro w9 ha ho; replace HA := Lib.hid ha; replace HB := keepBo HB HG.out ho; skip; clear ha ho))
  exact bodyPost_ret (res1c rfl _ _ gR 68 (rdA (bs p0) u (.slice none 0 0) z0.toNat) (0, 0) _ rfl HA.out Tryd.underlying68 rfl infoRd) rfl ⟨.inr ⟨by rw [HR.out]; show 3 ≠ 0; decide, none, 0, by rw [HR.out, HK.out]; rfl, by rw [HR.out]; exact own_nil _ _ _⟩, HB.out.1⟩
end Go.Proofs.YtnigkecpiolgeaaDoor.My
/- Words: a builder beside other blocks of the call's own; a slice cut at both ends, in a region that draws its order; the lines of an image. -/
set_option linter.unusedVariables false
set_option linter.unusedSimpArgs false
namespace Go.Proofs.YtnigkecpiolgeaaDoor.My
open Go.RowKit
abbrev IsBdF (w : World) (g : Nat) (l : List UInt8) : Prop := Lib.IsBuilderF 54 5 g g (Lib.byteCells l) w
theorem ownF_below {w w' : World} {B e k n : Nat} {v : Value} {xs : List Value} (h : w.ownsRowF B e k v n xs) (hb : Below w.heap.size w w') : w'.ownsRowF B e k v n xs := by
  refine ⟨h.1, ?_⟩
  rcases h.2 with h | ⟨g, cap, cur, fz, h1, h2, h3, h4⟩
  · exact .inl h
  · exact .inr ⟨g, cap, cur, fz, h1, h2, (hb.block g (Array.getElem?_eq_some_iff.1 h3).1).trans h3, h4⟩
theorem bdAtF_below {w w' : World} {T e : TypeId} {B b : Nat} {p : Value} {cs : List Value} (h : Lib.BuilderAtF T e B b p cs w) (hb : Below w.heap.size w w') : Lib.BuilderAtF T e B b p cs w' := by
  obtain ⟨h1, v, h2, h3, h4⟩ := h
  exact ⟨h1, v, (hb.block b (Array.getElem?_eq_some_iff.1 h2).1).trans h2, ownF_below h3 hb, h4⟩
theorem IsBdF.below {w w' : World} {g : Nat} {l : List UInt8} (h : IsBdF w g l) (hb : Below w.heap.size w w') : IsBdF w' g l := by
  rcases h with h | h
  · exact .inl (bdAtF_below h hb)
  · exact .inr (bdAtF_below h hb)
theorem IsBdF.lt {w : World} {g : Nat} {l : List UInt8} (h : IsBdF w g l) : g < w.heap.size := by
  rcases h with ⟨_, v, h, _⟩ | ⟨_, v, h, _⟩
  · exact (Array.getElem?_eq_some_iff.1 h).1
  · exact (Array.getElem?_eq_some_iff.1 h).1
theorem IsBdF.of {w : World} {g : Nat} {l : List UInt8} (h : IsBd w g l) : IsBdF w g l := Lib.IsBuilderF.of h
theorem IsBdF.drew {w : World} {g : Nat} {l : List UInt8} (h : IsBdF w g l) : IsBdF w.drew g l := h
theorem bdF_write (g : Nat) (l m : List UInt8) (w : World) (h : IsBdF w g l) (hm : l.length + m.length ≤ 1000000000) : Calls Tryd.prog 24 #[.pointer (some ⟨g, 0, none⟩), .string (bs m)] w fun e w' => (∃ v, e = .returned v) ∧ IsBdF w' g (l ++ m) ∧ Below g w w' ∧ Lib.OthersKept 5 (some g) w w' := by
  refine (Tryd.Builder_WriteString_k g g _ (bs m) w h (by rw [Lib.byteCells_length, bs_size]; omega) (Nat.le_of_lt h.lt)).mono ?_
  rintro e w' ⟨rfl, h1, h2, h3⟩
  refine ⟨⟨_, rfl⟩, ?_, h2, h3⟩
  have e : Lib.byteCells l ++ Lib.strCells (bs m) = Lib.byteCells (l ++ m) := by rw [Lib.byteCells_append]; rfl
  rw [e] at h1
  exact .inr h1
theorem bdF_string (g : Nat) (l : List UInt8) (w : World) (h : IsBdF w g l) : Calls Tryd.prog 26 #[.pointer (some ⟨g, 0, none⟩)] w fun e w' => e = .returned (.string (bs l)) ∧ Below g w w' := (Tryd.Builder_String_any_k g g l w h (Nat.le_of_lt h.lt)).mono fun e w' ⟨h1, _, h2, _⟩ => ⟨h1, h2⟩
theorem zeroBd (w : World) : (zeroValue 54).run Tryd.prog w = .ok (.agg #[.pointer none, .slice none 0 0]) w := by kernel_rfl
theorem bdNew {w : World} {g : Nat} (h : w.heap[g]? = some (.cells #[.pointer none, .slice none 0 0] 54 (0, 0))) : Hid (IsBdF w g []) := IsBdF.of (.inl ⟨Nat.le_refl _, _, h, World.ownsRow_nil _ _ _ _, by simp [Value.ownBlock]⟩)
theorem keepO {w w' : World} {g k : Nat} {cs : Array Value} {t : TypeId} {fr : Nat × Nat} (h : Hid (w.heap[k]? = some (.cells cs t fr))) (ho : Lib.OthersKept 5 (some g) w w') (hk : k ≠ g) (ht : t ≠ 5) : Hid (w'.heap[k]? = some (.cells cs t fr)) :=
  ho k _ h.out (fun e => hk (Option.some.inj e)) (fun c fz e => by injection e with _ e _; exact ht e)
section
variable {P : Program} {ops : Array Oper} {o : Oper} {a : Act} {S : World → Prop}
theorem yieldsSl (hw : Region.wanted o (yielded ops a.tmps) = true) (t e : TypeId) (x lo hi : Operand) (ho : o.op = .slice t x (some lo) (some hi) none) (ht : P.underlying t = some (.slice e)) (hs : (P.info? e).map (·.size) = some 1) (b off n c l q : Nat) (hx : a.eval x = .slice (some ⟨b, off, none⟩) n c) (k1 k2 : IntKind) (i1 i2 : Int) (hl : a.eval lo = .int k1 i1) (hh : a.eval hi = .int k2 i2) (e1 : i1 = (l : Int)) (e2 : i2 = ((l + q : Nat) : Int)) (h1 : l + q ≤ c) (h2 : l < c) : YieldsIf P ops S o (.slice (some ⟨b, off + l, none⟩) q (c - l)) a :=
  .inl ⟨hw, fun w _ => by
    subst e1 e2
    unfold execOp
    have e2 : P.elem t = e := by simp [Program.elem, ht]
    have ht2 : P.underlying t = some (.slice (P.elem t)) := by rw [e2]; exact ht
    have hr := run_slice_lh (P := P) (w := w) t (some ⟨b, off, none⟩) n c ht2 k1 k2 (l : Int) ((l + q : Nat) : Int) (by omega) (by omega) (by omega)
    have hr0 := run_sliceAt_slice (P := P) (w := w) t (.slice (some ⟨b, off, none⟩) n c) (some (.int k1 (l : Int))) (some (.int k2 ((l + q : Nat) : Int))) none ht2
    have hz : (sizeOf (P.elem t)).run P w = .ok 1 w := by
      rw [e2]
      cases hq : P.info? e with
      | none => simp [hq] at hs
      | some r =>
        have : r.size = 1 := by simpa [hq] using hs
        simp [sizeOf, typeInfo, hq, this]
    have hv : sliced (some ⟨b, off, none⟩) ((l : Int)).toNat (((l + q : Nat) : Int)).toNat c 1 = .slice (some ⟨b, off + l, none⟩) q (c - l) := by
      simp only [sliced, Int.toNat_natCast, Option.map_some, if_neg (show ¬ c = l by omega), addr_add, Nat.mul_one]
      congr 1
      omega
    rw [hr, hz, Result.andThen_ok, hv] at hr0
    simp only [ho, hx, hl, hh, Option.map_some, Option.map_none, Sem.run_bind, Sem.run_pure, hr0, Result.andThen_ok]⟩
theorem yieldsMin (hw : Region.wanted o (yielded ops a.tmps) = true) (x y : Operand) (ts : Array TypeId) (ho : o.op = .call { callee := .builtin .min, args := #[x, y], argTypes := ts }) (i1 i2 m : Int) (hx : a.eval x = .int .i64 i1) (hy : a.eval y = .int .i64 i2) (hm : (if i2 < i1 then i2 else i1) = m) : YieldsIf P ops S o (.int .i64 m) a :=
  .inl ⟨hw, fun w _ => by
    subst hm
    unfold execOp
    simp only [ho, resolve, invoke, builtin, Sem.run_bind, Sem.run_pure, Result.andThen_ok, List.map_toArray, List.map_cons, List.map_nil, hx, hy, run_min_int2]⟩
end
theorem RdA.part {k : IntKind} {w : World} {b off n l q : Nat} {xs : List Int} (h : RdA k w (some ⟨b, off, none⟩) n xs) (hq : l + q ≤ n) : RdA k w (some ⟨b, off + l, none⟩) q ((xs.drop l).take q) := by
  have hl := h.1
  refine ⟨by simp; omega, fun hn => ⟨b, off + l, rfl, fun j hj => ?_⟩⟩
  obtain ⟨b', off', hA, hc⟩ := h.2 (by omega)
  injection hA with hA
  injection hA with h1 h2 _
  subst h1 h2
  have := hc (l + j) (by omega)
  rw [Nat.add_assoc, this]
  congr 2
  unfold el
  rw [List.getElem?_take_of_lt hj, List.getElem?_drop]
/-- The lines of a segment's rest. -/
def segT : Nat → List UInt8 → Nat → List UInt8 → List UInt8
  | 0, _, _, _ => []
  | n + 1, w, u, d => if d.length = 0 then [] else lineV w u (d.take 16) ++ segT n andW (u + 16) (d.drop 16)
def segL (s : SegV) : List UInt8 := segT s.d.length segW s.at_ s.d
/-- The lines of an image. -/
def textV (st : Nat) (ss : List SegV) : List UInt8 := if rightV ss = 0 then ss.flatMap segL ++ lineV startW st [] else []
end Go.Proofs.YtnigkecpiolgeaaDoor.My
/- Walk: an image as lines: the program's. -/
set_option linter.unusedVariables false
set_option linter.unusedSimpArgs false
namespace Go.Proofs.YtnigkecpiolgeaaDoor.My
open Go.RowKit
theorem segT_some (n : Nat) (w : List UInt8) (u : Nat) (d : List UInt8) (p : Nat) (h : p < d.length) : segT (n + 1) w (u + p) (d.drop p) = lineV w (u + p) ((d.drop p).take 16) ++ segT n andW (u + (p + 16)) (d.drop (p + 16)) := by
  rw [segT, if_neg (by simp; omega), List.drop_drop, Nat.add_assoc]
theorem segT_end (n : Nat) (w : List UInt8) (u : Nat) (d : List UInt8) (p : Nat) (h : d.length ≤ p) : segT n w u (d.drop p) = [] := by
  cases n with
  | zero => rfl
  | succ n => rw [segT, if_pos (by simp; omega)]
theorem lineV_len (word : List UInt8) (u : Nat) (d : List UInt8) (hw : word.length ≤ 5) (hd : d.length ≤ 16) : (lineV word u d).length ≤ 200 := by
  unfold lineV
  rw [List.length_append]
  have : (Lib.join (partsL word u d) [32]).length ≤ (partsL word u d).length * (32 + 1) := joinL_len _ _ (by
    intro l hl
    unfold partsL at hl
    simp only [List.mem_cons, List.mem_append, List.mem_nil_iff, or_false] at hl
    rcases hl with rfl | rfl | hl | rfl
    · omega
    · rw [hexL_len]; omega
    · split at hl
      · cases hl
      · simp only [List.mem_cons, List.mem_nil_iff, or_false] at hl
        subst hl
        rw [hexsL_len]; omega
    · show 2 ≤ _; omega)
  have h2 := partsL_len word u d
  have : (partsL word u d).length * 33 ≤ 4 * 33 := Nat.mul_le_mul_right _ h2
  show _ + 1 ≤ _
  omega
theorem segT_len : ∀ (n : Nat) (w : List UInt8) (u : Nat) (d : List UInt8), w.length ≤ 5 → (segT n w u d).length ≤ 200 * d.length
  | 0, _, _, _, _ => Nat.zero_le _
  | n + 1, w, u, d, hw => by
    rw [segT]
    split
    · exact Nat.zero_le _
    · have h1 := lineV_len w u (d.take 16) hw (by simp; omega)
      have h2 := segT_len n andW (u + 16) (d.drop 16) (by decide)
      rw [List.length_append]
      rw [List.length_drop] at h2
      omega
theorem segs_len (ss : List SegV) (h : ∀ s ∈ ss, s.d.length ≤ 16384) : (ss.flatMap segL).length ≤ 3276800 * ss.length := by
  induction ss with
  | nil => exact Nat.zero_le _
  | cons s r ih =>
    have h1 := segT_len s.d.length segW s.at_ s.d (by decide)
    have h2 := h s (by simp)
    have h3 := ih (fun s hs => h s (by simp [hs]))
    rw [List.flatMap_cons, List.length_append, List.length_cons]
    show (segT _ _ _ _).length + _ ≤ _
    omega
theorem right_le : ∀ (ss : List SegV) (L : Nat), rightR ss L = 0 → ∀ s ∈ ss, s.d.length ≠ 0 ∧ s.at_ + s.d.length ≤ 16384
  | [], _, _, s, hs => by cases hs
  | t :: r, L, h, s, hs => by
    rw [rightR] at h
    split at h
    · cases h
    · split at h
      · cases h
      · split at h
        · cases h
        · rcases List.mem_cons.1 hs with rfl | hs
          · exact ⟨by assumption, by omega⟩
          · exact right_le r _ h s hs
set_option maxRecDepth 100000 in
set_option maxHeartbeats 4000000 in
theorem text_any (st c : Nat) (S : Option Addr) (ms : List SegM) (w : World) (hst : st < 4294967296) (hx : RdSg w S ms) (hmx : ms.length ≤ 9223372036854775807) : Calls Tryd.prog 11 #[.agg (imA st S ms.length c)] w fun e w' => e = .returned (.string (bs (textV st (ms.map SegM.v)))) ∧ Below w.heap.size w w' := by
  have HB := startB w
  have HX := Lib.hid hx
  clear hx
  obtain ⟨R, hR⟩ : ∃ R, rightV (ms.map SegM.v) = R := ⟨_, rfl⟩
  have HR := Lib.hid hR
  by_cases h0 : R = 0
  · subst h0
    have h64 : ms.length ≤ 64 := by unfold rightV at hR; split at hR; cases hR; rename_i q; simpa using q
    have hr0 : rightR (ms.map SegM.v) 0 = 0 := by unfold rightV at hR; split at hR; cases hR; exact hR
    have HLE : Hid (∀ s ∈ ms.map SegM.v, s.d.length ≠ 0 ∧ s.at_ + s.d.length ≤ 16384) := Lib.hid (right_le _ _ hr0)
    have ht : textV st (ms.map SegM.v) = (ms.map SegM.v).flatMap segL ++ lineV startW st [] := by unfold textV; rw [if_pos hR]
    rw [ht]
    obtain ⟨T, hT⟩ : ∃ T, (ms.map SegM.v).flatMap segL = T := ⟨_, rfl⟩
    have hTl : T.length ≤ 3276800 * ms.length := by rw [← hT]; have := segs_len (ms.map SegM.v) (fun s hs => by have := HLE.out s hs; omega); simpa using this
    have HT := Lib.hid hT
    rw [hT]
    clear hT ht hR hr0
    go_enter Tryd.func11, Tryd.ntmps11
    go_wp2_with (first | (refine wlBox rfl 25 _ rfl (imA st S ms.length c) rfl ?_; intro gI w2 hg hl ha hb; replace HB := keepB HB hb; have HI := Lib.hid ha; clear ha hb) | (refine rowLoad rfl 25 _ rfl gI rfl (cs := imA st S ms.length c) HI.out Tryd.underlying25 rfl infoIm ?_) | (go_at_call 18; refine (right_any st c S ms _ (HX.out.below HB.out.1) hmx).mono ?_; rw [HR.out]; rintro e w3 ⟨rfl, hb⟩; replace HI := keepA HI hb; replace HB := keepB HB hb; have f0 : w3.cell? ⟨gI, 0, none⟩ = some (.int .u32 st) := cellA HI 0; have f1 : w3.cell? ⟨gI, 1, none⟩ = some (.slice S ms.length c) := cellA HI 1; clear hb) | (refine wlAlloc rfl 54 rfl #[.pointer none, .slice none 0 0] zeroBd ?_; intro gB w4 hgB _ ha hb; have HD := bdNew ha; have HGW : Hid (w.heap.size ≤ gB) := Lib.hid (Nat.le_trans HB.out.2 hgB); have HGI : Hid (gI < gB) := Lib.hid (Nat.lt_of_lt_of_le (Array.getElem?_eq_some_iff.1 HI.out).1 hgB); replace HI := keepA HI hb; replace HB := keepB HB hb; have f4 : w4.cell? ⟨gI, 1, none⟩ = some (.slice S ms.length c) := cellA HI 1; clear ha hb hgB))
    go_loopw [14] (fun i wr => ∃ (k : Nat) (acc : List UInt8), k ≤ ms.length ∧ i = .int .i64 k ∧ Hid (acc ++ ((ms.map SegM.v).drop k).flatMap segL = T) ∧ Hid (IsBdF wr gB acc) ∧ Hid (wr.heap[gI]? = some (.cells (imA st S ms.length c) 25 (0, 0))) ∧ Hid (Below w.heap.size w wr ∧ w.heap.size ≤ wr.heap.size)) (fun i _ => ms.length - (intOf i).toNat)
    case atStart => exact ⟨0, [], Nat.zero_le _, rfl, HT, HD, HI, HB⟩
    case round =>
      clear HI HB HD HT f0 f1 f4
      obtain ⟨k, acc, hk, rfl, HT, HD, HI, HB⟩ := hrel
      obtain ⟨wo, rfl⟩ : ∃ wo, wo = wr := ⟨wr, rfl⟩
      by_cases hlt : k < ms.length
      · have hn0 : 0 < ms.length := by omega
        obtain ⟨m, hm⟩ : ∃ m, ms[k]? = some m := ⟨_, List.getElem?_eq_getElem hlt⟩
        obtain ⟨b, off, rfl, _, _⟩ := HX.out.1.2.2 hn0
        have HM := Lib.hid hm
        obtain ⟨m0, m1⟩ := HLE.out m.v (List.mem_map_of_mem (List.mem_of_getElem? hm))
        obtain ⟨m2, _, m3, m4⟩ := HX.out.get hm
        have hT2 := HT.out
        rw [drop_cons (x := m.v) (by simp [hm]), List.flatMap_cons, ← List.append_assoc] at hT2
        have HT2 := Lib.hid hT2
        have hA : (acc ++ segL m.v).length ≤ 300000000 := by
          have := congrArg List.length hT2
          rw [List.length_append] at this
          omega
        obtain ⟨A2, hA2⟩ : ∃ A2, acc ++ segL m.v = A2 := ⟨_, rfl⟩
        rw [hA2] at hA
        have HA2 := Lib.hid hA2
        replace HT2 : Hid (A2 ++ ((ms.map SegM.v).drop (k + 1)).flatMap segL = T) := Lib.hid (by rw [← hA2]; exact HT2.out)
        obtain ⟨ua, D, cD, d⟩ := m
        replace m0 : d.length ≠ 0 := m0
        replace m1 : ua + d.length ≤ 16384 := m1
        replace m3 : d.length ≤ cD := m3
        obtain ⟨bD, oD, hD0, _⟩ := m4.2 (by show 0 < d.length; omega)
        replace hD0 : D = some ⟨bD, oD, none⟩ := hD0
        subst hD0
        have HRD : Hid (RdA .u8 w (some ⟨bD, oD, none⟩) d.length (ints d)) := Lib.hid m4
        clear hT2 hA2 HT m4
        go_wp2_with (first | (refine wlIdx rfl 23 _ _ rfl 51 2 Tryd.underlying23 sizeSeg b off ms.length c k rfl rfl hlt ?_) | (refine partLoad rfl 51 _ rfl b (off + k * 2) rfl (cs := sA ⟨ua, some ⟨bD, oD, none⟩, cD, d⟩) ((HX.out.below HB.out.1).1.at_ hn0 (sA_get HM.out)) Tryd.underlying51 rfl infoSeg ?_) | (refine rowNew (old := _) rfl 51 _ _ rfl rfl (sA ⟨ua, some ⟨bD, oD, none⟩, cD, d⟩) rfl infoSeg rfl (sA_one _) ?_; intro w4 ha hb; replace HI := keepA HI hb; have HGS : Hid (gB < wo.heap.size) := Lib.hid HD.out.lt; replace HD := Lib.hid (HD.out.below hb); replace HB := keepB HB hb; have HS := Lib.hid ha; have f2 : w4.cell? ⟨wo.heap.size, 0, none⟩ = some (.int .u32 ua) := cellA HS 0; have f3 : w4.cell? ⟨wo.heap.size, 1, none⟩ = some (.slice (some ⟨bD, oD, none⟩) d.length cD) := cellA HS 1; clear ha hb))
        go_loopw [6, 7] (fun wd i wr => ∃ (n q : Nat) (W a2 : List UInt8), wd = .string (bs W) ∧ W.length ≤ 5 ∧ i = .int .i64 q ∧ q ≤ d.length + 16 ∧ d.length ≤ q + n ∧ Hid (a2 ++ segT n W (ua + q) (d.drop q) = A2) ∧ Hid (IsBdF wr gB a2) ∧ Hid (wr.heap[gI]? = some (.cells (imA st (some ⟨b, off, none⟩) ms.length c) 25 (0, 0))) ∧ Hid (wr.heap[wo.heap.size]? = some (.cells (sA ⟨ua, some ⟨bD, oD, none⟩, cD, d⟩) 51 (0, 0))) ∧ Hid (Below w.heap.size w wr ∧ w.heap.size ≤ wr.heap.size)) (fun _ i _ => d.length + 16 - (intOf i).toNat)
        case atStart => exact ⟨d.length, 0, segW, acc, rfl, by decide, rfl, by omega, by omega, HA2, HD, HI, HS, HB⟩
        case round =>
          clear HI HB HD HS HA2 f2 f3
          obtain ⟨n, q, W, a2, rfl, hW, rfl, hq1, hq2, HA2, HD, HI, HS, HB⟩ := hrel
          obtain ⟨wi, rfl⟩ : ∃ wi, wi = wr := ⟨wr, rfl⟩
          have f2 : wi.cell? ⟨wo.heap.size, 0, none⟩ = some (.int .u32 ua) := cellA HS 0
          have f3 : wi.cell? ⟨wo.heap.size, 1, none⟩ = some (.slice (some ⟨bD, oD, none⟩) d.length cD) := cellA HS 1
          by_cases hq : q < d.length
          · obtain ⟨n, rfl⟩ : ∃ n', n = n' + 1 := ⟨n - 1, by omega⟩
            have ha := HA2.out
            rw [segT_some n W ua d q hq, ← List.append_assoc] at ha
            obtain ⟨C, hC⟩ : ∃ C, (d.drop q).take 16 = C := ⟨_, rfl⟩
            obtain ⟨z, hz⟩ : ∃ z, min 16 (d.length - q) = z := ⟨_, rfl⟩
            have hz1 : 1 ≤ z ∧ z ≤ 16 ∧ q + z ≤ d.length := by omega
            have hCl : C.length = z := by rw [← hC, List.length_take, List.length_drop]; exact hz
            rw [hC] at ha
            have hCi : ((ints d).drop q).take z = ints C := by
              rw [← hC]
              simp only [ints, List.map_drop, List.map_take]
              rw [← hz]
              apply List.ext_getElem?
              intro j
              by_cases h1 : j < min 16 (d.length - q)
              · rw [List.getElem?_take_of_lt h1, List.getElem?_take_of_lt (by omega)]
              · rw [List.getElem?_eq_none (by simp; omega), List.getElem?_eq_none (by simp; omega)]
            obtain ⟨LN, hLN⟩ : ∃ LN, lineV W (ua + q) C = LN := ⟨_, rfl⟩
            have hLl : LN.length ≤ 200 := by rw [← hLN]; exact lineV_len W _ C hW (by omega)
            rw [hLN] at ha
            have hbd : a2.length + LN.length ≤ 300000200 := by
              have := congrArg List.length ha
              rw [List.length_append, List.length_append] at this
              omega
            have hbd2 : (a2 ++ LN).length ≤ 300000000 := by
              have := congrArg List.length ha
              rw [List.length_append] at this
              omega
            have HLN : Hid (∀ w', RdA .u8 w' (some ⟨bD, oD, none⟩) d.length (ints d) → Calls Tryd.prog 25 #[.string (bs W), .int .u32 ((ua : Int) + (q : Int)), .slice (some ⟨bD, oD + q, none⟩) z (cD - q)] w' fun e w'' => e = .returned (.string (bs LN)) ∧ Below w'.heap.size w' w'') := Lib.hid (by
              intro w' hr
              have hp := hr.part (l := q) (q := z) hz1.2.2
              rw [hCi] at hp
              have := line_some W (ua + q) (cD - q) (some ⟨bD, oD + q, none⟩) C w' (by omega) (by rw [hCl]; exact hp) (by omega) (by omega) (by omega)
              rw [hCl, hLN] at this
              exact this)
            have HZ : Hid ((if (d.length : Int) < (q : Int) + 16 then (d.length : Int) else (q : Int) + 16) = ((q + z : Nat) : Int)) := Lib.hid (by split <;> omega)
            have HA3 := Lib.hid ha
            clear HA2 ha hC hz hCl hCi hLN f2 f3
            have f2 : wi.cell? ⟨wo.heap.size, 0, none⟩ = some (.int .u32 ua) := cellA HS 0
            have f3 : wi.cell? ⟨wo.heap.size, 1, none⟩ = some (.slice (some ⟨bD, oD, none⟩) d.length cD) := cellA HS 1
            have w1 : IntKind.i64.wrap ((q : Int) + 16) = (q : Int) + 16 := by rw [IntKind.wrap_i64]; omega
            have w2 : IntKind.u32.wrap (q : Int) = (q : Int) := by rw [IntKind.wrap_u32]; omega
            have w3 : IntKind.u32.wrap ((ua : Int) + (q : Int)) = (ua : Int) + (q : Int) := by rw [IntKind.wrap_u32]; omega
            go_wp2
            replace HD := Lib.hid HD.out.drew
            replace HI := keepA1 HI
            replace HS := keepA1 HS
            replace HB := keepB1 HB
            refine rgStart (S := (fun w' => w'.heap[wo.heap.size]? = some (.cells (sA ⟨ua, some ⟨bD, oD, none⟩, cD, d⟩) 51 (0, 0)))) (n := 18) #[false, false, false, false, false, false, false, false, false, false, false, false, false, false, false, false, false, false] (by kernel_rfl) rfl rfl HS.out (fun hHeld => ?_)
            refine rgTake (i := 0) (N := some 25) (oi := { dst := some 25, op := Op.move (Operand.tmp 6), type := 9, pos := "rom.go:97", after := #[], guard := none }) (v := ?_) #[true, false, false, false, false, false, false, false, false, false, false, false, false, false, false, false, false, false] rfl rfl (by kernel_rfl) (fun _ _ _ h => h) (Or.inl ⟨by rfl, ?_⟩) hHeld ?_
            rotate_left
            · intro w' hSw; (try dsimp only at hSw); (have f5 : w'.cell? ⟨wo.heap.size, 0, none⟩ = some (.int .u32 ua) := cellA (Lib.hid hSw) 0; have f6 : w'.cell? ⟨wo.heap.size, 1, none⟩ = some (.slice (some ⟨bD, oD, none⟩) d.length cD) := cellA (Lib.hid hSw) 1; clear hSw); go_simp; try with_reducible rfl
            simp only [Act.put, List.setIfInBounds_toArray, List.set_cons_zero, List.set_cons_succ]
            refine rgTake (i := 1) (N := some 26) (oi := { dst := some 26, op := Op.fieldAddr 51 (Operand.tmp 5) 0, type := 0, pos := "rom.go:97", after := #[], guard := none }) (v := ?_) #[true, true, false, false, false, false, false, false, false, false, false, false, false, false, false, false, false, false] rfl rfl (by kernel_rfl) (fun _ _ _ h => h) (Or.inl ⟨by rfl, ?_⟩) hHeld ?_
            rotate_left
            · intro w' hSw; (try dsimp only at hSw); (have f5 : w'.cell? ⟨wo.heap.size, 0, none⟩ = some (.int .u32 ua) := cellA (Lib.hid hSw) 0; have f6 : w'.cell? ⟨wo.heap.size, 1, none⟩ = some (.slice (some ⟨bD, oD, none⟩) d.length cD) := cellA (Lib.hid hSw) 1; clear hSw); go_simp; try with_reducible rfl
            simp only [Act.put, List.setIfInBounds_toArray, List.set_cons_zero, List.set_cons_succ]
            refine rgTake (i := 2) (N := some 27) (oi := { dst := some 27, op := Op.load 22 (Operand.tmp 26), type := 22, pos := "rom.go:97", after := #[{ on := 1, ground := Ground.data }], guard := none }) (v := ?_) #[true, true, true, false, false, false, false, false, false, false, false, false, false, false, false, false, false, false] rfl rfl (by kernel_rfl) (fun _ _ _ h => h) (Or.inl ⟨by rfl, ?_⟩) hHeld ?_
            rotate_left
            · intro w' hSw; (try dsimp only at hSw); (have f5 : w'.cell? ⟨wo.heap.size, 0, none⟩ = some (.int .u32 ua) := cellA (Lib.hid hSw) 0; have f6 : w'.cell? ⟨wo.heap.size, 1, none⟩ = some (.slice (some ⟨bD, oD, none⟩) d.length cD) := cellA (Lib.hid hSw) 1; clear hSw); go_simp; try with_reducible rfl
            simp only [Act.put, List.setIfInBounds_toArray, List.set_cons_zero, List.set_cons_succ]
            refine rgTake (i := 3) (N := some 28) (oi := { dst := some 28, op := Op.move (Operand.tmp 7), type := 3, pos := "rom.go:97", after := #[], guard := none }) (v := ?_) #[true, true, true, true, false, false, false, false, false, false, false, false, false, false, false, false, false, false] rfl rfl (by kernel_rfl) (fun _ _ _ h => h) (Or.inl ⟨by rfl, ?_⟩) hHeld ?_
            rotate_left
            · intro w' hSw; (try dsimp only at hSw); (have f5 : w'.cell? ⟨wo.heap.size, 0, none⟩ = some (.int .u32 ua) := cellA (Lib.hid hSw) 0; have f6 : w'.cell? ⟨wo.heap.size, 1, none⟩ = some (.slice (some ⟨bD, oD, none⟩) d.length cD) := cellA (Lib.hid hSw) 1; clear hSw); go_simp; try with_reducible rfl
            simp only [Act.put, List.setIfInBounds_toArray, List.set_cons_zero, List.set_cons_succ]
            refine rgTake (i := 4) (N := some 29) (oi := { dst := some 29, op := Op.convert 3 22 (Operand.tmp 28), type := 22, pos := "rom.go:97", after := #[{ on := 3, ground := Ground.data }], guard := none }) (v := ?_) #[true, true, true, true, true, false, false, false, false, false, false, false, false, false, false, false, false, false] rfl rfl (by kernel_rfl) (fun _ _ _ h => h) (Or.inl ⟨by rfl, ?_⟩) hHeld ?_
            rotate_left
            · intro w' hSw; (try dsimp only at hSw); (have f5 : w'.cell? ⟨wo.heap.size, 0, none⟩ = some (.int .u32 ua) := cellA (Lib.hid hSw) 0; have f6 : w'.cell? ⟨wo.heap.size, 1, none⟩ = some (.slice (some ⟨bD, oD, none⟩) d.length cD) := cellA (Lib.hid hSw) 1; clear hSw); go_simp; try with_reducible rfl
            simp only [Act.put, List.setIfInBounds_toArray, List.set_cons_zero, List.set_cons_succ]
            refine rgTake (i := 5) (N := some 30) (oi := { dst := some 30, op := Op.binOp BinOp.add 22 (Operand.tmp 27) (Operand.tmp 29) 22, type := 22, pos := "rom.go:97", after := #[{ on := 2, ground := Ground.data }, { on := 4, ground := Ground.data }], guard := none }) (v := ?_) #[true, true, true, true, true, true, false, false, false, false, false, false, false, false, false, false, false, false] rfl rfl (by kernel_rfl) (fun _ _ _ h => h) (Or.inl ⟨by rfl, ?_⟩) hHeld ?_
            rotate_left
            · intro w' hSw; (try dsimp only at hSw); (have f5 : w'.cell? ⟨wo.heap.size, 0, none⟩ = some (.int .u32 ua) := cellA (Lib.hid hSw) 0; have f6 : w'.cell? ⟨wo.heap.size, 1, none⟩ = some (.slice (some ⟨bD, oD, none⟩) d.length cD) := cellA (Lib.hid hSw) 1; clear hSw); go_simp; try with_reducible rfl
            simp only [Act.put, List.setIfInBounds_toArray, List.set_cons_zero, List.set_cons_succ]
            refine rgTake (i := 6) (N := some 31) (oi := { dst := some 31, op := Op.fieldAddr 51 (Operand.tmp 5) 1, type := 0, pos := "rom.go:97", after := #[], guard := none }) (v := ?_) #[true, true, true, true, true, true, true, false, false, false, false, false, false, false, false, false, false, false] rfl rfl (by kernel_rfl) (fun _ _ _ h => h) (Or.inl ⟨by rfl, ?_⟩) hHeld ?_
            rotate_left
            · intro w' hSw; (try dsimp only at hSw); (have f5 : w'.cell? ⟨wo.heap.size, 0, none⟩ = some (.int .u32 ua) := cellA (Lib.hid hSw) 0; have f6 : w'.cell? ⟨wo.heap.size, 1, none⟩ = some (.slice (some ⟨bD, oD, none⟩) d.length cD) := cellA (Lib.hid hSw) 1; clear hSw); go_simp; try with_reducible rfl
            simp only [Act.put, List.setIfInBounds_toArray, List.set_cons_zero, List.set_cons_succ]
            refine rgTake (i := 7) (N := some 32) (oi := { dst := some 32, op := Op.load 26 (Operand.tmp 31), type := 26, pos := "rom.go:97", after := #[{ on := 6, ground := Ground.data }], guard := none }) (v := ?_) #[true, true, true, true, true, true, true, true, false, false, false, false, false, false, false, false, false, false] rfl rfl (by kernel_rfl) (fun _ _ _ h => h) (Or.inl ⟨by rfl, ?_⟩) hHeld ?_
            rotate_left
            · intro w' hSw; (try dsimp only at hSw); (have f5 : w'.cell? ⟨wo.heap.size, 0, none⟩ = some (.int .u32 ua) := cellA (Lib.hid hSw) 0; have f6 : w'.cell? ⟨wo.heap.size, 1, none⟩ = some (.slice (some ⟨bD, oD, none⟩) d.length cD) := cellA (Lib.hid hSw) 1; clear hSw); go_simp; try with_reducible rfl
            simp only [Act.put, List.setIfInBounds_toArray, List.set_cons_zero, List.set_cons_succ]
            refine rgTake (i := 8) (N := some 33) (oi := { dst := some 33, op := Op.move (Operand.tmp 7), type := 3, pos := "rom.go:97", after := #[], guard := none }) (v := ?_) #[true, true, true, true, true, true, true, true, true, false, false, false, false, false, false, false, false, false] rfl rfl (by kernel_rfl) (fun _ _ _ h => h) (Or.inl ⟨by rfl, ?_⟩) hHeld ?_
            rotate_left
            · intro w' hSw; (try dsimp only at hSw); (have f5 : w'.cell? ⟨wo.heap.size, 0, none⟩ = some (.int .u32 ua) := cellA (Lib.hid hSw) 0; have f6 : w'.cell? ⟨wo.heap.size, 1, none⟩ = some (.slice (some ⟨bD, oD, none⟩) d.length cD) := cellA (Lib.hid hSw) 1; clear hSw); go_simp; try with_reducible rfl
            simp only [Act.put, List.setIfInBounds_toArray, List.set_cons_zero, List.set_cons_succ]
            refine rgTake (i := 9) (N := some 34) (oi := { dst := some 34, op := Op.move (Operand.tmp 7), type := 3, pos := "rom.go:97", after := #[], guard := none }) (v := ?_) #[true, true, true, true, true, true, true, true, true, true, false, false, false, false, false, false, false, false] rfl rfl (by kernel_rfl) (fun _ _ _ h => h) (Or.inl ⟨by rfl, ?_⟩) hHeld ?_
            rotate_left
            · intro w' hSw; (try dsimp only at hSw); (have f5 : w'.cell? ⟨wo.heap.size, 0, none⟩ = some (.int .u32 ua) := cellA (Lib.hid hSw) 0; have f6 : w'.cell? ⟨wo.heap.size, 1, none⟩ = some (.slice (some ⟨bD, oD, none⟩) d.length cD) := cellA (Lib.hid hSw) 1; clear hSw); go_simp; try with_reducible rfl
            simp only [Act.put, List.setIfInBounds_toArray, List.set_cons_zero, List.set_cons_succ]
            refine rgTake (i := 10) (N := some 35) (oi := { dst := some 35, op := Op.binOp BinOp.add 3 (Operand.tmp 34) (Operand.const (Value.int IntKind.i64 16)) 3, type := 3, pos := "rom.go:97", after := #[{ on := 9, ground := Ground.data }], guard := none }) (v := ?_) #[true, true, true, true, true, true, true, true, true, true, true, false, false, false, false, false, false, false] rfl rfl (by kernel_rfl) (fun _ _ _ h => h) (Or.inl ⟨by rfl, ?_⟩) hHeld ?_
            rotate_left
            · intro w' hSw; (try dsimp only at hSw); (have f5 : w'.cell? ⟨wo.heap.size, 0, none⟩ = some (.int .u32 ua) := cellA (Lib.hid hSw) 0; have f6 : w'.cell? ⟨wo.heap.size, 1, none⟩ = some (.slice (some ⟨bD, oD, none⟩) d.length cD) := cellA (Lib.hid hSw) 1; clear hSw); go_simp; try with_reducible rfl
            simp only [Act.put, List.setIfInBounds_toArray, List.set_cons_zero, List.set_cons_succ]
            refine rgTake (i := 11) (N := some 36) (oi := { dst := some 36, op := Op.fieldAddr 51 (Operand.tmp 5) 1, type := 0, pos := "rom.go:97", after := #[], guard := none }) (v := ?_) #[true, true, true, true, true, true, true, true, true, true, true, true, false, false, false, false, false, false] rfl rfl (by kernel_rfl) (fun _ _ _ h => h) (Or.inl ⟨by rfl, ?_⟩) hHeld ?_
            rotate_left
            · intro w' hSw; (try dsimp only at hSw); (have f5 : w'.cell? ⟨wo.heap.size, 0, none⟩ = some (.int .u32 ua) := cellA (Lib.hid hSw) 0; have f6 : w'.cell? ⟨wo.heap.size, 1, none⟩ = some (.slice (some ⟨bD, oD, none⟩) d.length cD) := cellA (Lib.hid hSw) 1; clear hSw); go_simp; try with_reducible rfl
            simp only [Act.put, List.setIfInBounds_toArray, List.set_cons_zero, List.set_cons_succ]
            refine rgTake (i := 12) (N := some 37) (oi := { dst := some 37, op := Op.load 26 (Operand.tmp 36), type := 26, pos := "rom.go:97", after := #[{ on := 11, ground := Ground.data }], guard := none }) (v := ?_) #[true, true, true, true, true, true, true, true, true, true, true, true, true, false, false, false, false, false] rfl rfl (by kernel_rfl) (fun _ _ _ h => h) (Or.inl ⟨by rfl, ?_⟩) hHeld ?_
            rotate_left
            · intro w' hSw; (try dsimp only at hSw); (have f5 : w'.cell? ⟨wo.heap.size, 0, none⟩ = some (.int .u32 ua) := cellA (Lib.hid hSw) 0; have f6 : w'.cell? ⟨wo.heap.size, 1, none⟩ = some (.slice (some ⟨bD, oD, none⟩) d.length cD) := cellA (Lib.hid hSw) 1; clear hSw); go_simp; try with_reducible rfl
            simp only [Act.put, List.setIfInBounds_toArray, List.set_cons_zero, List.set_cons_succ]
            refine rgTake (i := 13) (N := some 38) (oi := { dst := some 38, op := Op.call { callee := Callee.builtin Builtin.len, args := #[Operand.tmp 37], argTypes := #[26] }, type := 3, pos := "rom.go:97", after := #[{ on := 12, ground := Ground.data }], guard := none }) (v := ?_) #[true, true, true, true, true, true, true, true, true, true, true, true, true, true, false, false, false, false] rfl rfl (by kernel_rfl) (fun _ _ _ h => h) (Or.inl ⟨by rfl, ?_⟩) hHeld ?_
            rotate_left
            · intro w' hSw; (try dsimp only at hSw); (have f5 : w'.cell? ⟨wo.heap.size, 0, none⟩ = some (.int .u32 ua) := cellA (Lib.hid hSw) 0; have f6 : w'.cell? ⟨wo.heap.size, 1, none⟩ = some (.slice (some ⟨bD, oD, none⟩) d.length cD) := cellA (Lib.hid hSw) 1; clear hSw); go_simp; try with_reducible rfl
            simp only [Act.put, List.setIfInBounds_toArray, List.set_cons_zero, List.set_cons_succ]
            refine rgTake (i := 14) (N := some 39) (oi := { dst := some 39, op := Op.call { callee := Callee.builtin Builtin.min, args := #[Operand.tmp 35, Operand.tmp 38], argTypes := #[3, 3] }, type := 3, pos := "rom.go:97", after := #[{ on := 10, ground := Ground.data }, { on := 13, ground := Ground.data }], guard := none }) (v := _) #[true, true, true, true, true, true, true, true, true, true, true, true, true, true, true, false, false, false] rfl rfl (by kernel_rfl) (fun _ _ _ h => h) (yieldsMin (by rfl) _ _ _ rfl _ _ ((q + z : Nat) : Int) rfl rfl HZ.out) hHeld ?_
            simp only [Act.put, List.setIfInBounds_toArray, List.set_cons_zero, List.set_cons_succ]
            refine rgTake (i := 15) (N := some 40) (oi := { dst := some 40, op := Op.slice 26 (Operand.tmp 32) (some (Operand.tmp 33)) (some (Operand.tmp 39)) none, type := 26, pos := "rom.go:97", after := #[{ on := 7, ground := Ground.data }, { on := 8, ground := Ground.data }, { on := 14, ground := Ground.data }], guard := none }) (v := _) #[true, true, true, true, true, true, true, true, true, true, true, true, true, true, true, true, false, false] rfl rfl (by kernel_rfl) (fun _ _ _ h => h) (yieldsSl (by rfl) 26 5 _ _ _ rfl Tryd.underlying26 infoU8 bD oD d.length cD q z rfl _ _ _ _ rfl rfl rfl rfl (by omega) (by omega)) hHeld ?_
            simp only [Act.put, List.setIfInBounds_toArray, List.set_cons_zero, List.set_cons_succ]
            refine rgCall (i := 16) (N := some 41) (oi := { dst := some 41, op := Op.call { callee := Callee.value (Operand.func 25), args := #[Operand.tmp 25, Operand.tmp 30, Operand.tmp 40], argTypes := #[9, 22, 26] }, type := 9, pos := "rom.go:97", after := #[{ on := 0, ground := Ground.data }, { on := 5, ground := Ground.data }, { on := 15, ground := Ground.data }], guard := none }) #[true, true, true, true, true, true, true, true, true, true, true, true, true, true, true, true, true, false] rfl rfl (by kernel_rfl) (fun K hK => ?_)
            go_simp
            (go_at_call 25; refine (HLN.out _ (HRD.out.below HB.out.1)).mono ?_; rintro e w5 ⟨rfl, hb⟩; replace HI := keepA HI hb; replace HS := keepA HS hb; replace HD := Lib.hid (HD.out.below hb); replace HB := keepB HB hb; clear hb)
            refine hK.out _ _ HS.out (fun hHeld => ?_)
            (try simp only [Act.put, List.setIfInBounds_toArray, List.set_cons_zero, List.set_cons_succ])
            clear hK K
            refine rgCall (i := 17) (N := some 42) (oi := { dst := some 42, op := Op.call { callee := Callee.value (Operand.func 24), args := #[Operand.tmp 3, Operand.tmp 41], argTypes := #[54, 9] }, type := 57, pos := "rom.go:97", after := #[{ on := 16, ground := Ground.data }, { on := 16, ground := Ground.chain }], guard := none }) #[true, true, true, true, true, true, true, true, true, true, true, true, true, true, true, true, true, true] rfl rfl (by kernel_rfl) (fun K hK => ?_)
            go_simp
            (go_at_call 24; refine (bdF_write gB a2 LN _ HD.out (by omega)).mono ?_; rintro e w6 ⟨⟨v, rfl⟩, hd, hb, hk⟩; replace HS := keepO HS hk (Nat.ne_of_gt HGS.out) (by decide); replace HI := keepAg HI HGI.out hb; replace HB := keepBg HB HGW.out hb; replace HD := Lib.hid hd; clear hd hb hk)
            refine hK.out _ _ HS.out (fun hHeld => ?_)
            (try simp only [Act.put, List.setIfInBounds_toArray, List.set_cons_zero, List.set_cons_succ])
            clear hK K
            refine rgDone (by kernel_rfl) ?_ _
            go_wp2
            go_roundw
            case rel => exact ⟨n, q + 16, andW, a2 ++ LN, rfl, by decide, by go_num, by omega, by omega, HA3, HD, HI, HS, HB⟩
            case measure => simp [intOf]; omega
          · have ha := HA2.out
            rw [segT_end n W _ d q (by omega), List.append_nil] at ha
            subst ha
            go_wp2
            go_roundw
            case rel => exact ⟨k + 1, a2, by omega, by go_num, HT2, HD, HI, HB⟩
            case measure => simp [intOf]; omega
      · obtain rfl : k = ms.length := by omega
        have hT2 := HT.out
        rw [List.drop_eq_nil_of_le (by simp), List.flatMap_nil, List.append_nil] at hT2
        subst hT2
        have f2 : wo.cell? ⟨gI, 0, none⟩ = some (.int .u32 st) := cellA HI 0
        have hl9 := lineV_len startW st [] (by decide) (by decide)
        obtain ⟨LN, hLN⟩ : ∃ LN, lineV startW st [] = LN := ⟨_, rfl⟩
        rw [hLN] at hl9
        have HLN := Lib.hid hLN
        clear hLN
        go_wp2_with (first | (go_at_call 25; refine (line_nil startW st _ hst (by decide)).mono ?_; rw [HLN.out]; rintro e w5 ⟨rfl, hb⟩; replace HD := Lib.hid (HD.out.below hb); replace HB := keepB HB hb; clear hb) | (go_at_call 24; refine (bdF_write gB _ LN _ HD.out (by omega)).mono ?_; rintro e w6 ⟨⟨v, rfl⟩, hd, hb, hk⟩; replace HB := keepBg HB HGW.out hb; replace HD := Lib.hid hd; clear hd hb hk) | (go_at_call 26; refine (bdF_string gB _ _ HD.out).mono ?_; rintro e w7 ⟨rfl, hb⟩; replace HB := keepBg HB HGW.out hb; clear hb))
        go_ret
        refine ⟨?_, HB.out.1⟩
        rw [HLN.out]
        rfl
  · have ht : textV st (ms.map SegM.v) = [] := by unfold textV; rw [if_neg (by rw [hR]; exact h0)]
    rw [ht]
    have q0 : ((R : Int) != 0) = true := bne_iff_ne.2 (by omega)
    clear hR ht h0
    go_enter Tryd.func11, Tryd.ntmps11
    go_wp2_with (first | (refine wlBox rfl 25 _ rfl (imA st S ms.length c) rfl ?_; intro gI w2 hg hl ha hb; replace HB := keepB HB hb; have HI := Lib.hid ha; clear ha hb) | (refine rowLoad rfl 25 _ rfl gI rfl (cs := imA st S ms.length c) HI.out Tryd.underlying25 rfl infoIm ?_) | (go_at_call 18; refine (right_any st c S ms _ (HX.out.below HB.out.1) hmx).mono ?_; rw [HR.out]; rintro e w3 ⟨rfl, hb⟩; replace HI := keepA HI hb; replace HB := keepB HB hb; have f0 : w3.cell? ⟨gI, 0, none⟩ = some (.int .u32 st) := cellA HI 0; have f1 : w3.cell? ⟨gI, 1, none⟩ = some (.slice S ms.length c) := cellA HI 1; clear hb))
    go_ret
    exact ⟨rfl, HB.out.1⟩
end Go.Proofs.YtnigkecpiolgeaaDoor.My

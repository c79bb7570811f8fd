/- What the reference's reading of a line leaves. -/
import Derived.Test.YtnigkecpiolgeaaDoorRomRead2
set_option linter.unusedVariables false
set_option linter.unusedSimpArgs false
namespace Go.Proofs.YtnigkecpiolgeaaDoor.My
open Go.RowKit
def rowA (k u : Nat) (v : Value) (s : Nat) : Array Value := #[.int .i64 k, .int .u32 u, v, .int .u8 s]
theorem infoRw : (Tryd.prog.info? 76).map (·.size) = some 4 := by kernel_rfl
theorem zeroRw (w : World) : (zeroValue 76).run Tryd.prog w = .ok (.agg (rowA 0 0 (.slice none 0 0) 0)) w := by kernel_rfl
theorem rowA_one (k u : Nat) (A : Option Addr) (n c : Nat) (s : Nat) : (rowA k u (.slice A n c) s).all (·.oneCell') = true := by simp [rowA, Value.oneCell']
/-- What the reference's reading of a line leaves. -/
def ReadIs (r : RowV) (w : World) (e : Ending) (w' : World) : Prop :=
  (∃ A c, e = .returned (.agg (rowA r.kind r.at_ (.slice A r.b.length c) r.sum)) ∧ OwnB w' w.heap.size (.slice A r.b.length c) r.b ∧ (r.kind = 3 → A = none ∧ c = 0)) ∧ Below w.heap.size w w'
theorem resA {P : Program} {fn : Func} {p : Tmp} {ty : TypeId} (h : fn.results = #[.cell p ty]) (tmps : Array Value) (w : World) (g : Nat) (t : TypeId) (cs : Array Value) (fr : Nat × Nat) (d : TypeDesc)
    (hp : tmps.getD p undef = .pointer (some ⟨g, 0, none⟩)) (hg : w.heap[g]? = some (.cells cs t fr)) (hu : P.underlying ty = some d) (hd : d.isRow = true) (hi : (P.info? ty).map (·.size) = some cs.size) :
    (results fn tmps).run P w = .ok (.agg cs) w := by
  have hp' : tmps[p]?.getD undef = .pointer (some ⟨g, 0, none⟩) := by simpa using hp
  have hl := run_loadVar_row (P := P) w g t ty cs fr d hg hu (by cases d <;> first | rfl | exact hd) hi
  simp [results, h, hp', asAddr, hl]
end Go.Proofs.YtnigkecpiolgeaaDoor.My

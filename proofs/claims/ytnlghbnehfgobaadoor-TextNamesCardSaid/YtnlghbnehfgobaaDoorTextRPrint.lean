/- Walk: an instruction's text: the reference's. -/
import Derived.Test.YtnlghbnehfgobaaDoorTextRField
import Derived.Test.YtnlghbnehfgobaaDoorTextRRight
import Derived.Test.YtnlghbnehfgobaaDoorTextPrintW
import Derived.Test.YtnlghbnehfgobaaDoorTextFields
set_option linter.unusedVariables false
set_option linter.unusedSimpArgs false
namespace Go.Proofs.YtnlghbnehfgobaaDoor.My
open Go.RowKit
section
variable {P : Program} {ops : Array Oper} {o : Oper} {a : Act} {w : World} {S : World → Prop}
theorem yieldsStrP (hw : Region.wanted o (yielded ops a.tmps) = true) (t : TypeId) (x y : Operand) (ho : o.op = .index t x y) (ht : P.underlying t = some .string) (s : ByteArray) (hx : a.eval x = .string s) (k : IntKind) (i : Int) (hy : a.eval y = .int k i) (j c : Nat) (hi : i = (j : Int)) (hj : j < s.size) (hc : bAt s j = c) : YieldsIf P ops S o (.int .u8 c) a :=
  .inl ⟨hw, fun w _ => by
    subst hi hc
    unfold execOp
    have hr := run_index_string (P := P) (w := w) t s k (j : Int) ht
    rw [dif_pos (by omega)] at hr
    simp only [Int.toNat_natCast, bAt_eq hj] at hr
    simp only [ho, hx, hy, Sem.run_bind, Sem.run_pure, hr, Result.andThen_ok]⟩
theorem yieldsCatP (hw : Region.wanted o (yielded ops a.tmps) = true) (t : TypeId) (x y : Operand) (u : TypeId) (ho : o.op = .binOp .add t x y u) (l r : List UInt8) (hx : a.eval x = .string (bs l)) (hy : a.eval y = .string (bs r)) (h : l.length + r.length ≤ 9223372036854775807) (q : List UInt8) (hq : l ++ r = q) : YieldsIf P ops S o (.string (bs q)) a :=
  .inl ⟨hw, fun w _ => by
    subst hq
    unfold execOp
    have hr := run_string_add_sum (P := P) w (bs l) (bs r) (by rw [bs_size, bs_size]; exact h)
    rw [bs_add] at hr
    simp only [ho, hx, hy, eqGuard, ite_self, Sem.run_bind, Sem.run_pure, Result.andThen_ok, binOp_string_add, hr]⟩
end
/-- What is written when k fields are. -/
def accV (NL : List UInt8) (PS : List (List UInt8)) (k : Nat) : List UInt8 := if k = 0 then NL else NL ++ [32] ++ Lib.join (PS.take k) [44, 32]
theorem accV_step {NL : List UInt8} {PS : List (List UInt8)} {k : Nat} {T : List UInt8} (h : PS[k]? = some T) (hl : PS.length ≤ 3) : accV NL PS k ++ (if k = 0 then [32] else [44, 32]) ++ T = accV NL PS (k + 1) := by
  unfold accV
  match PS, k, h with
  | [a], 0, h | [a, b], 0, h | [a, b, c], 0, h => injection h with h; subst h; simp [Lib.join, List.intercalate, List.intersperse]
  | [a, b], 1, h | [a, b, c], 1, h => injection h with h; subst h; simp [Lib.join, List.intercalate, List.intersperse]
  | [a, b, c], 2, h => injection h with h; subst h; simp [Lib.join, List.intercalate, List.intersperse]
  | [], _, h => cases h
  | [a], k + 1, h => cases h
  | [a, b], k + 2, h => cases h
  | [a, b, c], k + 3, h => cases h
  | _ :: _ :: _ :: _ :: _, _, _ => simp at hl
end Go.Proofs.YtnlghbnehfgobaaDoor.My

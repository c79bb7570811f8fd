/- A Uop is equal to itself; a renamed one, too. -/
import Derived.Test.YtpgighhnhidpcaaRenWords
import Derived.Laws.StructEq
set_option linter.unusedVariables false
set_option linter.unusedSimpArgs false
namespace Go.Proofs.Ytpgighhnhidpcaa.My
open Go.RowKit
theorem eqInst (x : Nat) (a b c d e : Int) (w : World) : (Op.equalIn (x + 2) 40 (.agg #[.int .i64 a, .int .i64 b, .int .i64 c, .int .i64 d, .int .i64 e]) (.agg #[.int .i64 a, .int .i64 b, .int .i64 c, .int .i64 d, .int .i64 e])).run Try.prog w = .ok true w := by
  go_simp
theorem eqSave (x : Nat) (a b c : Int) (w : World) : (Op.equalIn (x + 2) 43 (.agg #[.int .u32 a, .int .i64 b, .int .u32 c]) (.agg #[.int .u32 a, .int .i64 b, .int .u32 c])).run Try.prog w = .ok true w := by
  go_simp
theorem eqSrc (x : Nat) (a b c : Int) (w : World) : (Op.equalIn (x + 2) 48 (.agg #[.int .i64 a, .int .i64 b, .int .i64 c]) (.agg #[.int .i64 a, .int .i64 b, .int .i64 c])).run Try.prog w = .ok true w := by
  have := equalIn_ma (P := Try.prog) w x 48 3 3 .i64 Try.underlying48 Try.underlying3 (fun _ => by kernel_rfl) [a, b, c] [a, b, c] rfl rfl
  simpa [ma] using this
theorem eqGuess (x : Nat) (t : Bool) (g a b c : Int) (w : World) : (Op.equalIn (x + 3) 45 (.agg #[.bool t, .int .u32 g, .int .u32 a, .int .i64 b, .int .u32 c]) (.agg #[.bool t, .int .u32 g, .int .u32 a, .int .i64 b, .int .u32 c])).run Try.prog w = .ok true w := by
  have h := eqSave x a b c
  go_simp
theorem eqSlot (x : Nat) (p q r s : Int) (t : Bool) (g a b c : Int) (w : World) : (Op.equalIn (x + 4) 47 (.agg #[.int .u32 p, .int .u32 q, .int .i64 r, .int .u32 s, .bool t, .int .u32 g, .int .u32 a, .int .i64 b, .int .u32 c]) (.agg #[.int .u32 p, .int .u32 q, .int .i64 r, .int .u32 s, .bool t, .int .u32 g, .int .u32 a, .int .i64 b, .int .u32 c])).run Try.prog w = .ok true w := by
  have h := eqGuess x t g a b c
  go_simp
theorem eqUop (x : Nat) (u : UopV) (w : World) : (Op.equalIn (x + 5) 50 (.agg (uA u)) (.agg (uA u))).run Try.prog w = .ok true w := by
  have h1 := eqSlot x u.pc u.word u.cause u.tval u.taken u.target u.hist u.top u.val
  have h2 := eqInst (x + 2) u.i0 u.i1 u.i2 u.i3 u.i4
  have h3 := eqSrc (x + 2) u.s0 u.s1 u.s2
  unfold uA
  go_simp
theorem eqRen (x : Nat) (r : RenV) (w : World) : (Op.equalIn (x + 6) 52 (.agg (rA r)) (.agg (rA r))).run Try.prog w = .ok true w := by
  have h1 := eqUop x r.u
  have h3 := eqSrc (x + 3) r.n0 r.n1 r.n2
  unfold uA at h1
  unfold rA
  go_simp
end Go.Proofs.Ytpgighhnhidpcaa.My

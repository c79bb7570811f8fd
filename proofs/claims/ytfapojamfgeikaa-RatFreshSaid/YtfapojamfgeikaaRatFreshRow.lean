/- The row of RatFresh: for every input the law answers true, and its arguments read as before. No condition. -/
import Derived.Test.YtfapojamfgeikaaRows
import Derived.Test.YtfapojamfgeikaaRatFresh
import Derived.Test.YtfapojamfgeikaaOpenWords
namespace Go.Proofs.Ytfapojamfgeikaa.My
open Go.ChangeShapes Go.WideShapes Go.ChangeAt Go.RowKit
open Go.ChangeMaps (open_string shut_string)
set_option linter.unusedVariables false
theorem cellsMap : Try.prog.cellTypes Try.prog.depth 23 = some (List.replicate 16 3) := by kernel_rfl
theorem sizeMap : Try.prog.cellsOf 23 = 16 := by kernel_rfl
theorem cellsTwo : Try.prog.cellTypes Try.prog.depth 30 = some (List.replicate 2 3) := by kernel_rfl
theorem sizeTwo : Try.prog.cellsOf 30 = 2 := by kernel_rfl
theorem list_two {ys : List Int} (h : ys.length = 2) : ∃ a b, ys = [a, b] := by
  match ys, h with
  | [a, b], _ => exact ⟨a, b, rfl⟩
theorem own_RatFresh : ownKnob Try.prog.godebug = none := by kernel_rfl
theorem laidOut_RatFresh : laidOutB Try.prog = true := by kernel_rfl
set_option maxRecDepth 100000 in
theorem lifted_RatFresh (os : Os) (started : os.Started) (H : Type) (enc : TypeId × Value → H) :
    ReturnsInHanded {} Try.checked os 6 .any (Rows.ratFreshSpec.pre6 enc Try.prog Try.f6 Rows.ratFreshRow.domain false) (Rows.ratFreshSpec.post enc Try.prog Try.f6 false true false false) := by
  refine returnsInHanded_of_change_sized (C := Try.checked) own_RatFresh started (by kernel_rfl) Try.func6
    (ChangeSpec.witness6 (enc := enc) (C := Try.checked) false ⟨#[], #[.agg #[.int .i64 0, .int .i64 0, .int .i64 0, .int .i64 0, .int .i64 0, .int .i64 0, .int .i64 0, .int .i64 0, .int .i64 0, .int .i64 0, .int .i64 0, .int .i64 0, .int .i64 0, .int .i64 0, .int .i64 0, .int .i64 0], .int .i64 0, .agg #[.int .i64 0, .int .i64 0]], []⟩ 8 (by kernel_rfl) (by kernel_rfl) (by kernel_rfl) (by kernel_rfl)) ?_
  intro W base args ds gs before hval0 hW hcnd hsz0 _
  have hsz : (DataW.weightsEach Try.prog (Try.f6.params.toList ++ Rows.ratFreshSpec.plain.varTypes Try.prog) (ds ++ gs)).all (· ≤ reachBytes) = true := hsz0
  have hval : ∀ (j : Nat) t v, Try.f6.params[j]? = some t → args[j]? = some v → Value.okWide Try.prog W .any base t v := hval0
  have hW' := hW
  obtain ⟨p, q, hA0, hV, rfl, hfz, hnd⟩ := hW
  have hA : DataW.TrodAll enc Try.prog W 0 (fun _ => true) true Try.f6.params.toList args.toList ds p := hA0
  rw [Try.params6] at hA hval hsz
  obtain ⟨v0, vs0, d0, ds0, p0, q0, hargs, rfl, rfl, h0, r0⟩ := trodAll_cons hA
  obtain ⟨v1, vs1, d1, ds1, p1, q1, rfl, rfl, rfl, h1, r1⟩ := trodAll_cons r0
  obtain ⟨v2, vs2, d2, ds2, p2, q2, rfl, rfl, rfl, h2, r2⟩ := trodAll_cons r1
  obtain ⟨rfl, rfl, rfl⟩ := trodAll_nil r2
  obtain rfl : args = #[v0, v1, v2] := by cases args; simp_all
  obtain ⟨rfl, rfl⟩ := trodVars_none hV
  have ok0 := hval 0 23 v0 rfl rfl
  have ok1 := hval 1 3 v1 rfl rfl
  have ok2 := hval 2 30 v2 rfl rfl
  have lt0 : ∀ x ∈ p0, x.block < W.heap.size := fun x hx => by simpa using hW'.lt x (by simp [hx])
  have lt1 : ∀ x ∈ p1, x.block < W.heap.size := fun x hx => by simpa using hW'.lt x (by simp [hx])
  have lt2 : ∀ x ∈ p2, x.block < W.heap.size := fun x hx => by simpa using hW'.lt x (by simp [hx])
  clear hA0 hval0 hsz0
  obtain ⟨xs, hl, rfl, hb⟩ := open_nums (k := .i64) Try.underlying23 rfl cellsMap (by intro u hu; rw [List.mem_replicate] at hu; rw [hu.2]; exact Try.underlying3) sizeMap ok0; obtain ⟨a1, rfl, rfl, rfl, w1⟩ := open_int Try.underlying3 ok1 h1; obtain ⟨ys, hl2, rfl, hb2⟩ := open_nums (k := .i64) Try.underlying30 rfl cellsTwo (by intro u hu; rw [List.mem_replicate] at hu; rw [hu.2]; exact Try.underlying3) sizeTwo ok2; obtain ⟨r2_, p2_, rfl⟩ := list_two hl2
  refine (fresh_any xs a1 r2_ p2_ W hl).mono fun e W' ⟨he, bel⟩ => ?_
  subst he
  exact ⟨_, rfl, _, _, _, [], _, [], hW', trodAll_mk1 (shut_bool Try.underlying4 _), (trodAll_cons_mk (Below.trod laidOut_RatFresh (by kernel_rfl) (of_decide_eq_true (by kernel_rfl)) h0 bel lt0) (trodAll_cons_mk (Below.trod laidOut_RatFresh (by kernel_rfl) (of_decide_eq_true (by kernel_rfl)) h1 bel lt1) (trodAll_cons_mk (Below.trod laidOut_RatFresh (by kernel_rfl) (of_decide_eq_true (by kernel_rfl)) h2 bel lt2) trodAll_mk0))), rfl, bel.frame _, fun h => by cases h⟩
theorem ratFresh_holds : Rows.RatFreshSaid :=
  OpenClaim.holds_of_wide 6 Try.f6 rfl rfl rfl rfl rfl rfl rfl ⟨rfl, rfl, rfl, rfl, rfl⟩ rfl rfl rfl rfl rfl (by kernel_rfl) Try.func6 (by kernel_rfl)
    (of_decide_eq_true (by kernel_rfl)) (by unfold Func.isWrapper; first | (rw [if_pos (by decide +kernel)]; kernel_rfl) | (rw [if_neg (by decide +kernel)]; exact ⟨rfl, rfl⟩))
    (fun os started H enc _ => lifted_RatFresh os started H enc)
#print axioms ratFresh_holds
end Go.Proofs.Ytfapojamfgeikaa.My
namespace Go.Proofs.Ytfapojamfgeikaa
/-- The row, under a short name, for the claim. -/
theorem ratFresh_holds : Rows.RatFreshSaid := My.ratFresh_holds
end Go.Proofs.Ytfapojamfgeikaa

/- The row of DivRuns: for every input the law answers true, and its arguments read as before. No condition. -/
import Derived.Test.YtimcdkmbiggapaaRows
import Derived.Test.YtimcdkmbiggapaaDivRef
import Derived.Test.YtimcdkmbiggapaaOpenWords
namespace Go.Proofs.Ytimcdkmbiggapaa.My
open Go.ChangeShapes Go.WideShapes Go.ChangeAt Go.RowKit
open Go.ChangeMaps (open_string shut_string)
set_option linter.unusedVariables false
theorem cellsDv : Try.prog.cellTypes Try.prog.depth 24 = some [22, 22, 22, 22, 3] := by kernel_rfl
theorem sizeDv : Try.prog.cellsOf 24 = 5 := by kernel_rfl
theorem own_DivRuns : ownKnob Try.prog.godebug = none := by kernel_rfl
theorem laidOut_DivRuns : laidOutB Try.prog = true := by kernel_rfl
set_option maxRecDepth 100000 in
theorem lifted_DivRuns (os : Os) (started : os.Started) (H : Type) (enc : TypeId × Value → H) :
    ReturnsInHanded {} Try.checked os 4 .any (Rows.divRunsSpec.pre6 enc Try.prog Try.f4 Rows.divRunsRow.domain false) (Rows.divRunsSpec.post enc Try.prog Try.f4 false true false false) := by
  refine returnsInHanded_of_change_sized (C := Try.checked) own_DivRuns started (by kernel_rfl) Try.func4
    (ChangeSpec.witness6 (enc := enc) (C := Try.checked) false ⟨#[], #[.agg #[.int .u32 0, .int .u32 0, .int .u32 0, .int .u32 0, .int .i64 0]], []⟩ 8 (by kernel_rfl) (by kernel_rfl) (by kernel_rfl) (by kernel_rfl)) ?_
  intro W base args ds gs before hval0 hW hcnd hsz0 _
  have hsz : (DataW.weightsEach Try.prog (Try.f4.params.toList ++ Rows.divRunsSpec.plain.varTypes Try.prog) (ds ++ gs)).all (· ≤ reachBytes) = true := hsz0
  have hval : ∀ (j : Nat) t v, Try.f4.params[j]? = some t → args[j]? = some v → Value.okWide Try.prog W .any base t v := hval0
  have hW' := hW
  obtain ⟨p, q, hA0, hV, rfl, hfz, hnd⟩ := hW
  have hA : DataW.TrodAll enc Try.prog W 0 (fun _ => true) true Try.f4.params.toList args.toList ds p := hA0
  rw [Try.params4] at hA hval hsz
  obtain ⟨v0, vs0, d0, ds0, p0, q0, hargs, rfl, rfl, h0, r0⟩ := trodAll_cons hA
  obtain ⟨rfl, rfl, rfl⟩ := trodAll_nil r0
  obtain rfl : args = #[v0] := by cases args; simp_all
  obtain ⟨rfl, rfl⟩ := trodVars_none hV
  have ok0 := hval 0 24 v0 rfl rfl
  have lt0 : ∀ x ∈ p0, x.block < W.heap.size := fun x hx => by simpa using hW'.lt x (by simp [hx])
  clear hA0 hval0 hsz0
  obtain ⟨cs, rfl, hcs⟩ := open_row Try.underlying24 rfl cellsDv sizeDv ok0; obtain ⟨v0, _, rfl, q0, hcs⟩ := hcs.cons; obtain ⟨v1, _, rfl, q1, hcs⟩ := hcs.cons; obtain ⟨v2, _, rfl, q2, hcs⟩ := hcs.cons; obtain ⟨v3, _, rfl, q3, hcs⟩ := hcs.cons; obtain ⟨v4, _, rfl, q4, hcs⟩ := hcs.cons; obtain rfl := hcs.nil; obtain ⟨n, rfl, hn⟩ := cell_int Try.underlying22 q0; obtain ⟨d, rfl, hd⟩ := cell_int Try.underlying22 q1; obtain ⟨q, rfl, hq⟩ := cell_int Try.underlying22 q2; obtain ⟨r, rfl, hr⟩ := cell_int Try.underlying22 q3; obtain ⟨l, rfl, hl⟩ := cell_int Try.underlying3 q4; have hok : okD ⟨n, d, q, r, l⟩ := ⟨has_u32 hn, has_u32 hd, has_u32 hq, has_u32 hr⟩
  refine (runs_any ⟨n, d, q, r, l⟩ W hok).mono fun e W' ⟨he, bel⟩ => ?_
  subst he
  exact ⟨_, rfl, _, _, _, [], _, [], hW', trodAll_mk1 (shut_bool Try.underlying4 _), (trodAll_cons_mk (Below.trod laidOut_DivRuns (by kernel_rfl) (of_decide_eq_true (by kernel_rfl)) h0 bel lt0) trodAll_mk0), rfl, bel.frame _, fun h => by cases h⟩
theorem divRuns_holds : Rows.DivRunsSaid :=
  OpenClaim.holds_of_wide 4 Try.f4 rfl rfl rfl rfl rfl rfl rfl ⟨rfl, rfl, rfl, rfl, rfl⟩ rfl rfl rfl rfl rfl (by kernel_rfl) Try.func4 (by kernel_rfl)
    (of_decide_eq_true (by kernel_rfl)) (by unfold Func.isWrapper; first | (rw [if_pos (by decide +kernel)]; kernel_rfl) | (rw [if_neg (by decide +kernel)]; exact ⟨rfl, rfl⟩))
    (fun os started H enc _ => lifted_DivRuns os started H enc)
#print axioms divRuns_holds
end Go.Proofs.Ytimcdkmbiggapaa.My
namespace Go.Proofs.Ytimcdkmbiggapaa
/-- The row, under a short name, for the claim. -/
theorem divRuns_holds : Rows.DivRunsSaid := My.divRuns_holds
end Go.Proofs.Ytimcdkmbiggapaa

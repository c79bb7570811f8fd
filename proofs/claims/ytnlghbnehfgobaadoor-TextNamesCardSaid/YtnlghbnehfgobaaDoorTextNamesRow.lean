/- TextNames: any operation's name, and the operation of any name of at most 200 bytes (of longer ones the chapter's examples alone): for every input. -/
import Derived.Test.YtnlghbnehfgobaaDoorTextLaws2
import Derived.Test.YtnlghbnehfgobaaDoorTextStart
import Derived.Test.YtnlghbnehfgobaaDoorOpenWords
import Derived.ChangeMaps5
set_option linter.unusedVariables false
set_option linter.unusedSimpArgs false
namespace Go.Proofs.YtnlghbnehfgobaaDoor
open Go.ChangeShapes Go.WideShapes Go.ChangeAt Go.RowKit My
open Go.ChangeMaps (open_string shut_string)
theorem My.bs_of (s : ByteArray) : ∃ l, s = bs l := ⟨s.data.toList, by cases s; rfl⟩
theorem My.cellsInst : Tryd.prog.cellTypes Tryd.prog.depth 27 = some (List.replicate 5 3) := by kernel_rfl
theorem My.sizeInst : Tryd.prog.cellsOf 27 = 5 := by kernel_rfl
theorem My.open_inst {xs : List Int} (hl : xs.length = 5) (hb : ∀ x ∈ xs, IntKind.i64.has x) : ∃ op q, Value.agg (ma .i64 xs) = .agg (insQ op q) ∧ q.ok := by
  match xs, hl with
  | [a, b, c, d, e], _ =>
    refine ⟨a, ⟨b, c, d, e⟩, rfl, fun k => ?_⟩
    have key : ∀ x ∈ [a, b, c, d, e], -9223372036854775808 ≤ x ∧ x ≤ 9223372036854775807 := fun x hx => has_i64 (hb x hx)
    show -9223372036854775808 ≤ valV b c d e k ∧ valV b c d e k ≤ 9223372036854775807
    unfold valV
    repeat' split
    all_goals exact key _ (by simp)
theorem own_TextNames : ownKnob Tryd.prog.godebug = none := by kernel_rfl
theorem laidOut_TextNames : laidOutB Tryd.prog = true := by kernel_rfl
noncomputable def laid_TextNames : List (String × DataW Unit) := [("cotterel/inst.fields", Rows.laid_cotterel_inst_fields), ("unicode/utf8.acceptRanges", Rows.laid_unicode_utf8_acceptRanges), ("unicode.White_Space", Rows.laid_unicode_White_Space), ("strings.asciiSpace", Rows.laid_strings_asciiSpace), ("unicode/utf8.first", Rows.laid_unicode_utf8_first)]
set_option maxRecDepth 100000 in
theorem lifted_TextNames (os : Os) (started : os.Started) (H : Type) (enc : TypeId × Value → H) :
    ReturnsInHanded {} Tryd.checked os 3 .any (fun w args => (Rows.textNamesSpec.pre enc Tryd.prog Tryd.f3 [] false w args ∧ laidMetH Tryd.prog laid_TextNames w) ∧ sizedMet enc Tryd.prog Tryd.f3 (OpenSpec.ofChange Rows.textNamesSpec) false w args) (Rows.textNamesSpec.post enc Tryd.prog Tryd.f3 false true false false) := by
  refine handed_shaped (C := Tryd.checked) (X := fun w _ => laidMetH Tryd.prog laid_TextNames w) (fun _ _ _ hh h => h.of_heap hh) own_TextNames started (by kernel_rfl) Tryd.func3
    (ChangeSpec.witness_shaped (enc := enc) (C := Tryd.checked) (os := os) (X := fun w _ => laidMetH Tryd.prog laid_TextNames w) false (World.laidAll Tryd.prog os laid_TextNames) #[.int .i64 0, .string ⟨#[]⟩] 8 (World.laidAll_os _ _ _)
      (World.shaped_of_ZipB (by kernel_rfl) (by kernel_rfl)) (by kernel_rfl) (by kernel_rfl) (by kernel_rfl)
      (by rw [MakeChecks.laidMetH_plain _ _ _ (by kernel_rfl)]; exact laidMet_laidAll _ (by kernel_rfl) (by kernel_rfl))) ?_
  intro W base args ds gs before hval0 hW hcnd hsz0 hsh hlaid _
  obtain ⟨mx, hst⟩ := start_any W hsh hlaid
  have hsz : (DataW.weightsEach Tryd.prog (Tryd.f3.params.toList ++ Rows.textNamesSpec.plain.varTypes Tryd.prog) (ds ++ gs)).all (· ≤ reachBytes) = true := hsz0
  have hval : ∀ (j : Nat) t v, Tryd.f3.params[j]? = some t → args[j]? = some v → Value.okWide Tryd.prog W .any base t v := hval0
  have hW' := hW
  obtain ⟨p, q, hA0, hV, rfl, hfz, hnd⟩ := hW
  have hA : DataW.TrodAll enc Tryd.prog W 0 (fun _ => true) true Tryd.f3.params.toList args.toList ds p := hA0
  rw [Tryd.params3] at hA hval hsz
  obtain ⟨v0, vs0, d0, ds0, p0, q0, hargs, rfl, rfl, h0, r0⟩ := trodAll_cons hA
  obtain ⟨v1, vs1, d1, ds1, p1, q1, rfl, rfl, rfl, h1, r1⟩ := trodAll_cons r0
  obtain ⟨rfl, rfl, rfl⟩ := trodAll_nil r1
  obtain rfl : args = #[v0, v1] := by cases args; simp_all
  obtain ⟨rfl, rfl⟩ := trodVars_none hV
  have ok0 := hval 0 3 v0 rfl rfl
  have ok1 := hval 1 9 v1 rfl rfl
  have lt0 : ∀ x ∈ p0, x.block < W.heap.size := fun x hx => by simpa using hW'.lt x (by simp [hx])
  have lt1 : ∀ x ∈ p1, x.block < W.heap.size := fun x hx => by simpa using hW'.lt x (by simp [hx])
  clear hA0 hval0 hsz0
  obtain ⟨a0, rfl, rfl, rfl, w0⟩ := open_int Tryd.underlying3 ok0 h0; obtain ⟨s1, rfl, rfl, rfl, b1⟩ := open_string Tryd.underlying9 ok1 h1; obtain ⟨nm, rfl⟩ := bs_of s1
  refine (tnames_any a0 nm mx W hst (by rwa [bs_size] at b1)).mono fun e W' ⟨he, bel⟩ => ?_
  subst he
  exact ⟨_, rfl, _, _, _, [], _, [], hW', trodAll_mk1 (shut_bool Tryd.underlying4 _), (trodAll_cons_mk (Below.trod laidOut_TextNames (by kernel_rfl) (of_decide_eq_true (by kernel_rfl)) h0 bel lt0) (trodAll_cons_mk (Below.trod laidOut_TextNames (by kernel_rfl) (of_decide_eq_true (by kernel_rfl)) h1 bel lt1) trodAll_mk0)), rfl, bel.frame _, fun h => by cases h⟩
theorem textNames_holds : Rows.TextNamesSaid :=
  OpenClaim.holds_of_wide 3 Tryd.f3 rfl rfl rfl rfl rfl rfl rfl ⟨rfl, rfl, rfl, rfl, rfl⟩ rfl rfl rfl rfl rfl (by kernel_rfl) Tryd.func3 (by kernel_rfl)
    (of_decide_eq_true (by kernel_rfl)) (by unfold Func.isWrapper; first | (rw [if_pos (by decide +kernel)]; kernel_rfl) | (rw [if_neg (by decide +kernel)]; exact ⟨rfl, rfl⟩))
    (fun os started H enc _ => lifted_TextNames os started H enc)
#print axioms textNames_holds
theorem card_textNames : Rows.TextNamesCardSaid :=
  Claim7.holds_tied_plain_at .later [] [.data, .data, .listed, .data, .pinned] true (true, "53eef0fb0ff9d3e537a0f99bb9da0062f56fd91b69385bed8ca23c3ea5d7fb0e") false
    textNames_holds (fun _ h => by cases h) (by kernel_rfl) (fun _ h => by cases h) textNames_row_tie rfl ⟨rfl, rfl⟩ (by kernel_rfl) rfl
    (fun f fn hf hfn => by
      obtain rfl : f = 3 := Option.some.inj ((show Tryd.prog.funcNamed "cotterel/cotterellaw07.TextNames" = some 3 by kernel_rfl).symm.trans hf) |>.symm
      obtain rfl : fn = Tryd.f3 := (Option.some.inj (Tryd.func3.symm.trans hfn)).symm
      exact ⟨by kernel_rfl, fun j t ht => by
        rw [Tryd.params3] at ht
        have hm : t ∈ [3, 9] := by simpa using Array.mem_of_getElem? ht
        have hall : ([3, 9].all fun u => !Tryd.prog.wantsStandIn u) = true := by kernel_rfl
        exact (show Tryd.prog.wantsStandIn t = false by simpa using List.all_eq_true.1 hall t hm)⟩)
    (by kernel_rfl)
#print axioms card_textNames
end Go.Proofs.YtnlghbnehfgobaaDoor

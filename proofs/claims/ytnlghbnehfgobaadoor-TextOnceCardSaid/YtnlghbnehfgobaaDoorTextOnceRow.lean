/- TextOnce: two instructions that are told alike are one: for every input. -/
import Derived.Test.YtnlghbnehfgobaaDoorTextLaws2
import Derived.Test.YtnlghbnehfgobaaDoorTextStart
import Derived.Test.YtnlghbnehfgobaaDoorOpenWords
set_option linter.unusedVariables false
set_option linter.unusedSimpArgs false
namespace Go.Proofs.YtnlghbnehfgobaaDoor
open Go.ChangeShapes Go.WideShapes Go.ChangeAt Go.RowKit My
theorem My.bs_of (s : ByteArray) : ∃ l, s = bs l := ⟨s.data.toList, by cases s; rfl⟩
theorem My.cellsInst : Tryd.prog.cellTypes Tryd.prog.depth 27 = some (List.replicate 5 3) := by kernel_rfl
theorem My.sizeInst : Tryd.prog.cellsOf 27 = 5 := by kernel_rfl
theorem My.open_inst {xs : List Int} (hl : xs.length = 5) (hb : ∀ x ∈ xs, IntKind.i64.has x) : ∃ op q, Value.agg (ma .i64 xs) = .agg (insQ op q) ∧ q.ok := by
  match xs, hl with
  | [a, b, c, d, e], _ =>
    refine ⟨a, ⟨b, c, d, e⟩, rfl, fun k => ?_⟩
    have key : ∀ x ∈ [a, b, c, d, e], -9223372036854775808 ≤ x ∧ x ≤ 9223372036854775807 := fun x hx => has_i64 (hb x hx)
    show -9223372036854775808 ≤ valV b c d e k ∧ valV b c d e k ≤ 9223372036854775807
    unfold valV
    repeat' split
    all_goals exact key _ (by simp)
theorem own_TextOnce : ownKnob Tryd.prog.godebug = none := by kernel_rfl
theorem laidOut_TextOnce : laidOutB Tryd.prog = true := by kernel_rfl
noncomputable def laid_TextOnce : List (String × DataW Unit) := [("cotterel/inst.fields", Rows.laid_cotterel_inst_fields), ("unicode/utf8.acceptRanges", Rows.laid_unicode_utf8_acceptRanges), ("unicode.White_Space", Rows.laid_unicode_White_Space), ("strings.asciiSpace", Rows.laid_strings_asciiSpace), ("unicode/utf8.first", Rows.laid_unicode_utf8_first)]
set_option maxRecDepth 100000 in
theorem lifted_TextOnce (os : Os) (started : os.Started) (H : Type) (enc : TypeId × Value → H) :
    ReturnsInHanded {} Tryd.checked os 6 .any (fun w args => (Rows.textOnceSpec.pre enc Tryd.prog Tryd.f6 [] false w args ∧ laidMetH Tryd.prog laid_TextOnce w) ∧ sizedMet enc Tryd.prog Tryd.f6 (OpenSpec.ofChange Rows.textOnceSpec) false w args) (Rows.textOnceSpec.post enc Tryd.prog Tryd.f6 false true false false) := by
  refine handed_shaped (C := Tryd.checked) (X := fun w _ => laidMetH Tryd.prog laid_TextOnce w) (fun _ _ _ hh h => h.of_heap hh) own_TextOnce started (by kernel_rfl) Tryd.func6
    (ChangeSpec.witness_shaped (enc := enc) (C := Tryd.checked) (os := os) (X := fun w _ => laidMetH Tryd.prog laid_TextOnce w) false (World.laidAll Tryd.prog os laid_TextOnce) #[.agg (insA 0 0 0 0 0), .agg (insA 0 0 0 0 0)] 8 (World.laidAll_os _ _ _)
      (World.shaped_of_ZipB (by kernel_rfl) (by kernel_rfl)) (by kernel_rfl) (by kernel_rfl) (by kernel_rfl)
      (by rw [MakeChecks.laidMetH_plain _ _ _ (by kernel_rfl)]; exact laidMet_laidAll _ (by kernel_rfl) (by kernel_rfl))) ?_
  intro W base args ds gs before hval0 hW hcnd hsz0 hsh hlaid _
  obtain ⟨mx, hst⟩ := start_any W hsh hlaid
  have hsz : (DataW.weightsEach Tryd.prog (Tryd.f6.params.toList ++ Rows.textOnceSpec.plain.varTypes Tryd.prog) (ds ++ gs)).all (· ≤ reachBytes) = true := hsz0
  have hval : ∀ (j : Nat) t v, Tryd.f6.params[j]? = some t → args[j]? = some v → Value.okWide Tryd.prog W .any base t v := hval0
  have hW' := hW
  obtain ⟨p, q, hA0, hV, rfl, hfz, hnd⟩ := hW
  have hA : DataW.TrodAll enc Tryd.prog W 0 (fun _ => true) true Tryd.f6.params.toList args.toList ds p := hA0
  rw [Tryd.params6] at hA hval hsz
  obtain ⟨v0, vs0, d0, ds0, p0, q0, hargs, rfl, rfl, h0, r0⟩ := trodAll_cons hA
  obtain ⟨v1, vs1, d1, ds1, p1, q1, rfl, rfl, rfl, h1, r1⟩ := trodAll_cons r0
  obtain ⟨rfl, rfl, rfl⟩ := trodAll_nil r1
  obtain rfl : args = #[v0, v1] := by cases args; simp_all
  obtain ⟨rfl, rfl⟩ := trodVars_none hV
  have ok0 := hval 0 27 v0 rfl rfl
  have ok1 := hval 1 27 v1 rfl rfl
  have lt0 : ∀ x ∈ p0, x.block < W.heap.size := fun x hx => by simpa using hW'.lt x (by simp [hx])
  have lt1 : ∀ x ∈ p1, x.block < W.heap.size := fun x hx => by simpa using hW'.lt x (by simp [hx])
  clear hA0 hval0 hsz0
  obtain ⟨xs, hl, rfl, hb⟩ := open_nums (k := .i64) Tryd.underlying27 rfl cellsInst (by intro u hu; rw [List.mem_replicate] at hu; rw [hu.2]; exact Tryd.underlying3) sizeInst ok0; obtain ⟨ys, hl1, rfl, hb1⟩ := open_nums (k := .i64) Tryd.underlying27 rfl cellsInst (by intro u hu; rw [List.mem_replicate] at hu; rw [hu.2]; exact Tryd.underlying3) sizeInst ok1; obtain ⟨op0, q00, hx0, hok0⟩ := open_inst hl hb; obtain ⟨op1, q11, hx1, hok1⟩ := open_inst hl1 hb1; rw [hx0] at h0 hW' ⊢; rw [hx1] at h1 hW' ⊢
  refine (tonce_any op0 op1 q00 q11 hok0 hok1 mx W hst).mono fun e W' ⟨he, bel⟩ => ?_
  subst he
  exact ⟨_, rfl, _, _, _, [], _, [], hW', trodAll_mk1 (shut_bool Tryd.underlying4 _), (trodAll_cons_mk (Below.trod laidOut_TextOnce (by kernel_rfl) (of_decide_eq_true (by kernel_rfl)) h0 bel lt0) (trodAll_cons_mk (Below.trod laidOut_TextOnce (by kernel_rfl) (of_decide_eq_true (by kernel_rfl)) h1 bel lt1) trodAll_mk0)), rfl, bel.frame _, fun h => by cases h⟩
theorem textOnce_holds : Rows.TextOnceSaid :=
  OpenClaim.holds_of_wide 6 Tryd.f6 rfl rfl rfl rfl rfl rfl rfl ⟨rfl, rfl, rfl, rfl, rfl⟩ rfl rfl rfl rfl rfl (by kernel_rfl) Tryd.func6 (by kernel_rfl)
    (of_decide_eq_true (by kernel_rfl)) (by unfold Func.isWrapper; first | (rw [if_pos (by decide +kernel)]; kernel_rfl) | (rw [if_neg (by decide +kernel)]; exact ⟨rfl, rfl⟩))
    (fun os started H enc _ => lifted_TextOnce os started H enc)
#print axioms textOnce_holds
theorem card_textOnce : Rows.TextOnceCardSaid :=
  Claim7.holds_tied_plain_at .later [] [.data, .data, .listed, .data, .pinned] true (true, "53eef0fb0ff9d3e537a0f99bb9da0062f56fd91b69385bed8ca23c3ea5d7fb0e") false
    textOnce_holds (fun _ h => by cases h) (by kernel_rfl) (fun _ h => by cases h) textOnce_row_tie rfl ⟨rfl, rfl⟩ (by kernel_rfl) rfl
    (fun f fn hf hfn => by
      obtain rfl : f = 6 := Option.some.inj ((show Tryd.prog.funcNamed "cotterel/cotterellaw07.TextOnce" = some 6 by kernel_rfl).symm.trans hf) |>.symm
      obtain rfl : fn = Tryd.f6 := (Option.some.inj (Tryd.func6.symm.trans hfn)).symm
      exact ⟨by kernel_rfl, fun j t ht => by
        rw [Tryd.params6] at ht
        have hm : t ∈ [27, 27] := by simpa using Array.mem_of_getElem? ht
        have hall : ([27, 27].all fun u => !Tryd.prog.wantsStandIn u) = true := by kernel_rfl
        exact (show Tryd.prog.wantsStandIn t = false by simpa using List.all_eq_true.1 hall t hm)⟩)
    (by kernel_rfl)
#print axioms card_textOnce
end Go.Proofs.YtnlghbnehfgobaaDoor

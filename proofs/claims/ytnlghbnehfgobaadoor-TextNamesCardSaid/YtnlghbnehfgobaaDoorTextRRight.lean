/- Walk: may an instruction be: the reference's. -/
import Derived.Test.YtnlghbnehfgobaaDoorTextRHas
import Derived.Test.YtnlghbnehfgobaaDoorTextRight
import Derived.Test.YtnlghbnehfgobaaDoorStrWords
import Derived.Deep.Cut
set_option linter.unusedVariables false
set_option linter.unusedSimpArgs false
namespace Go.Proofs.YtnlghbnehfgobaaDoor.My
open Go.RowKit
theorem reg_bad (F b n : Int) : regV (hasV F b) n = !badR F b n := by
  unfold regV badR
  cases hasV F b <;> by_cases h1 : n = 0 <;> by_cases h2 : n < 0 <;> by_cases h3 : n < 16 <;> by_cases h4 : 15 < n <;> by_cases h5 : 0 < n <;> first | (exfalso; omega) | simp [h1, h2, h3, h4, h5]
set_option maxRecDepth 100000 in
set_option maxHeartbeats 4000000 in
theorem rright_any (op rd ra rb im : Int) (w : World) : Calls Tryd.prog 15 #[.agg (insA op rd ra rb im)] w fun e w' => e = .returned (.int .i64 (rightI op rd ra rb im : Nat)) ∧ Below w.heap.size w w' := by
  have HB := startB w
  obtain ⟨R, hR⟩ : ∃ R, rightI op rd ra rb im = R := ⟨_, rfl⟩
  rw [hR]
  unfold rightI at hR
  obtain ⟨F, hF⟩ : ∃ F, formV op = F := ⟨_, rfl⟩
  have hFr := form_range op
  rw [hF] at hR hFr
  have HF := Lib.hid hF
  clear hF
  by_cases q0 : F = 0
  · rw [if_pos q0] at hR
    subst hR
    have q1 : (F == 0) = true := beq_iff_eq.2 q0
    clear q0 hFr
    go_enter Tryd.func15, Tryd.ntmps15
    go_wp2_with (first | (refine wlBox (by rfl) 27 _ rfl (insA op rd ra rb im) rfl ?_; intro gI w1 hg hl ha hb; replace HB := keepB HB hb; have HI := Lib.hid ha; have i0 : w1.cell? ⟨gI, 0, none⟩ = some (.int .i64 op) := cellA HI 0; have i1 : w1.cell? ⟨gI, 1, none⟩ = some (.int .i64 rd) := cellA HI 1; have i2 : w1.cell? ⟨gI, 2, none⟩ = some (.int .i64 ra) := cellA HI 2; have i3 : w1.cell? ⟨gI, 3, none⟩ = some (.int .i64 rb) := cellA HI 3; have i4 : w1.cell? ⟨gI, 4, none⟩ = some (.int .i64 im) := cellA HI 4; clear ha hb hg hl) | (go_at_call 30; refine (rform_any op _).mono ?_; rw [HF.out]; rintro e w2 ⟨rfl, rfl⟩))
    go_ret
    exact ⟨rfl, HB.out.1⟩
  rw [if_neg q0] at hR
  have q1 : (F == 0) = false := beq_eq_false_iff_ne.2 q0
  obtain ⟨f, rfl⟩ : ∃ f : Nat, F = f := ⟨F.toNat, by omega⟩
  have hf : f ≤ 11 := by omega
  obtain ⟨hI, hI1, hI2, hI3, hI4, hIk⟩ : ∃ hI : Int → Bool, hI 1 = hasV f 1 ∧ hI 2 = hasV f 2 ∧ hI 3 = hasV f 4 ∧ hI 4 = hasV f 8 ∧ ∀ k : Nat, hI k = hasV f (bitV k) := ⟨fun k => hasV f (bitV k.toNat), rfl, rfl, rfl, rfl, fun k => rfl⟩
  have HH : Hid (∀ (k : Int) (wz : World), k = 1 ∨ k = 2 ∨ k = 3 ∨ k = 4 → Calls Tryd.prog 33 #[.int .i64 (f : Nat), .int .i64 k] wz fun e w' => e = .returned (.bool (hI k)) ∧ w' = wz) := Lib.hid (fun k wz hk => by
    obtain ⟨j, rfl⟩ : ∃ j : Nat, k = j := ⟨k.toNat, by omega⟩
    have := rhas_any f j wz hf (by omega) (by omega)
    rw [← hIk] at this
    exact this.mono fun _ _ ⟨a, b⟩ => ⟨a, b.symm⟩)
  have RR : Hid (∀ (h : Bool) (n : Int) (wz : World), Calls Tryd.prog 32 #[.bool h, .int .i64 n] wz fun e w' => e = .returned (.bool (regV h n)) ∧ w' = wz) := Lib.hid (fun h n wz => (reg_any h n wz).mono fun _ _ ⟨a, b⟩ => ⟨a, b.symm⟩)
  have WW : Hid (∀ (wz : World), Calls Tryd.prog 34 #[.int .i64 op, .int .i64 im] wz fun e w' => e = .returned (.bool (withinV op im)) ∧ wz = w') := Lib.hid (fun wz => imm_any op im wz)
  have e1 := reg_bad f 1 rd
  have e2 := reg_bad f 2 ra
  have e3 := reg_bad f 4 rb
  rw [← hI1] at e1
  rw [← hI2] at e2
  rw [← hI3] at e3
  rw [← hI4] at hR
  clear hI1 hI2 hI3 hI4 hIk hFr q0
  cases hb1 : badR f 1 rd with
  | true =>
    rw [hb1, if_pos rfl] at hR
    subst hR
    have g1 : regV (hI 1) rd = false := by rw [e1, hb1]; rfl
    clear e1 e2 e3 hb1
    go_enter Tryd.func15, Tryd.ntmps15
    go_upto_region 4 with (first | (refine wlBox (by rfl) 27 _ rfl (insA op rd ra rb im) rfl ?_; intro gI w1 hg hl ha hb; replace HB := keepB HB hb; have HI := Lib.hid ha; have i0 : w1.cell? ⟨gI, 0, none⟩ = some (.int .i64 op) := cellA HI 0; have i1 : w1.cell? ⟨gI, 1, none⟩ = some (.int .i64 rd) := cellA HI 1; have i2 : w1.cell? ⟨gI, 2, none⟩ = some (.int .i64 ra) := cellA HI 2; have i3 : w1.cell? ⟨gI, 3, none⟩ = some (.int .i64 rb) := cellA HI 3; have i4 : w1.cell? ⟨gI, 4, none⟩ = some (.int .i64 im) := cellA HI 4; clear ha hb hg hl) | (go_at_call 30; refine (rform_any op _).mono ?_; rw [HF.out]; rintro e w2 ⟨rfl, rfl⟩))
    go_quiet (first | (go_at_call 33; refine Calls.quiet_of_same (HH.out _ _ (by decide))) | (go_at_call 32; refine Calls.quiet_of_same (RR.out _ _ _)))
    go_wp2
    go_ret
    exact ⟨rfl, (keepBd HB _).out.1⟩
  | false =>
  rw [hb1, if_neg Bool.false_ne_true] at hR
  have g1 : regV (hI 1) rd = true := by rw [e1, hb1]; rfl
  clear e1 hb1
  cases hb2 : badR f 2 ra with
  | true =>
    rw [hb2, if_pos rfl] at hR
    subst hR
    have g2 : regV (hI 2) ra = false := by rw [e2, hb2]; rfl
    clear e2 e3 hb2
    go_enter Tryd.func15, Tryd.ntmps15
    go_upto_region 4 with (first | (refine wlBox (by rfl) 27 _ rfl (insA op rd ra rb im) rfl ?_; intro gI w1 hg hl ha hb; replace HB := keepB HB hb; have HI := Lib.hid ha; have i0 : w1.cell? ⟨gI, 0, none⟩ = some (.int .i64 op) := cellA HI 0; have i1 : w1.cell? ⟨gI, 1, none⟩ = some (.int .i64 rd) := cellA HI 1; have i2 : w1.cell? ⟨gI, 2, none⟩ = some (.int .i64 ra) := cellA HI 2; have i3 : w1.cell? ⟨gI, 3, none⟩ = some (.int .i64 rb) := cellA HI 3; have i4 : w1.cell? ⟨gI, 4, none⟩ = some (.int .i64 im) := cellA HI 4; clear ha hb hg hl) | (go_at_call 30; refine (rform_any op _).mono ?_; rw [HF.out]; rintro e w2 ⟨rfl, rfl⟩))
    go_quiet (first | (go_at_call 33; refine Calls.quiet_of_same (HH.out _ _ (by decide))) | (go_at_call 32; refine Calls.quiet_of_same (RR.out _ _ _)))
    go_wp2
    go_ret
    exact ⟨rfl, (keepBd HB _).out.1⟩
  | false =>
  rw [hb2, if_neg Bool.false_ne_true] at hR
  have g2 : regV (hI 2) ra = true := by rw [e2, hb2]; rfl
  clear e2 hb2
  cases hb3 : badR f 4 rb with
  | true =>
    rw [hb3, if_pos rfl] at hR
    subst hR
    have g3 : regV (hI 3) rb = false := by rw [e3, hb3]; rfl
    clear e3 hb3
    go_enter Tryd.func15, Tryd.ntmps15
    go_upto_region 4 with (first | (refine wlBox (by rfl) 27 _ rfl (insA op rd ra rb im) rfl ?_; intro gI w1 hg hl ha hb; replace HB := keepB HB hb; have HI := Lib.hid ha; have i0 : w1.cell? ⟨gI, 0, none⟩ = some (.int .i64 op) := cellA HI 0; have i1 : w1.cell? ⟨gI, 1, none⟩ = some (.int .i64 rd) := cellA HI 1; have i2 : w1.cell? ⟨gI, 2, none⟩ = some (.int .i64 ra) := cellA HI 2; have i3 : w1.cell? ⟨gI, 3, none⟩ = some (.int .i64 rb) := cellA HI 3; have i4 : w1.cell? ⟨gI, 4, none⟩ = some (.int .i64 im) := cellA HI 4; clear ha hb hg hl) | (go_at_call 30; refine (rform_any op _).mono ?_; rw [HF.out]; rintro e w2 ⟨rfl, rfl⟩))
    go_quiet (first | (go_at_call 33; refine Calls.quiet_of_same (HH.out _ _ (by decide))) | (go_at_call 32; refine Calls.quiet_of_same (RR.out _ _ _)))
    go_wp2
    go_ret
    exact ⟨rfl, (keepBd HB _).out.1⟩
  | false =>
  rw [hb3, if_neg Bool.false_ne_true] at hR
  have g3 : regV (hI 3) rb = true := by rw [e3, hb3]; rfl
  clear e3 hb3
  cases h4 : hI 4 with
  | false =>
    by_cases q4 : im = 0
    · have g4 : (im != 0) = false := by rw [q4]; rfl
      rw [if_neg (fun q => q.2 q4), if_neg (fun q => by rw [h4] at q; exact absurd q.1 (by decide))] at hR
      subst hR
      clear q4
      go_enter Tryd.func15, Tryd.ntmps15
      go_upto_region 4 with (first | (refine wlBox (by rfl) 27 _ rfl (insA op rd ra rb im) rfl ?_; intro gI w1 hg hl ha hb; replace HB := keepB HB hb; have HI := Lib.hid ha; have i0 : w1.cell? ⟨gI, 0, none⟩ = some (.int .i64 op) := cellA HI 0; have i1 : w1.cell? ⟨gI, 1, none⟩ = some (.int .i64 rd) := cellA HI 1; have i2 : w1.cell? ⟨gI, 2, none⟩ = some (.int .i64 ra) := cellA HI 2; have i3 : w1.cell? ⟨gI, 3, none⟩ = some (.int .i64 rb) := cellA HI 3; have i4 : w1.cell? ⟨gI, 4, none⟩ = some (.int .i64 im) := cellA HI 4; clear ha hb hg hl) | (go_at_call 30; refine (rform_any op _).mono ?_; rw [HF.out]; rintro e w2 ⟨rfl, rfl⟩))
      go_quiet (first | (go_at_call 33; refine Calls.quiet_of_same (HH.out _ _ (by decide))) | (go_at_call 32; refine Calls.quiet_of_same (RR.out _ _ _)))
      go_wp2_with (go_at_call 33; refine (HH.out _ _ (by decide)).mono ?_; rintro e w3 ⟨rfl, rfl⟩)
      go_ret
      exact ⟨rfl, (keepBd HB _).out.1⟩
    · have g4 : (im != 0) = true := bne_iff_ne.2 q4
      rw [if_pos ⟨h4, q4⟩] at hR
      subst hR
      clear q4
      go_enter Tryd.func15, Tryd.ntmps15
      go_upto_region 4 with (first | (refine wlBox (by rfl) 27 _ rfl (insA op rd ra rb im) rfl ?_; intro gI w1 hg hl ha hb; replace HB := keepB HB hb; have HI := Lib.hid ha; have i0 : w1.cell? ⟨gI, 0, none⟩ = some (.int .i64 op) := cellA HI 0; have i1 : w1.cell? ⟨gI, 1, none⟩ = some (.int .i64 rd) := cellA HI 1; have i2 : w1.cell? ⟨gI, 2, none⟩ = some (.int .i64 ra) := cellA HI 2; have i3 : w1.cell? ⟨gI, 3, none⟩ = some (.int .i64 rb) := cellA HI 3; have i4 : w1.cell? ⟨gI, 4, none⟩ = some (.int .i64 im) := cellA HI 4; clear ha hb hg hl) | (go_at_call 30; refine (rform_any op _).mono ?_; rw [HF.out]; rintro e w2 ⟨rfl, rfl⟩))
      go_quiet (first | (go_at_call 33; refine Calls.quiet_of_same (HH.out _ _ (by decide))) | (go_at_call 32; refine Calls.quiet_of_same (RR.out _ _ _)))
      go_wp2
      go_ret
      exact ⟨rfl, (keepBd HB _).out.1⟩
  | true =>
    rw [if_neg (fun q => by rw [h4] at q; exact absurd q.1 (by decide))] at hR
    cases h5 : withinV op im with
    | false =>
      rw [if_pos ⟨h4, h5⟩] at hR
      subst hR
      go_enter Tryd.func15, Tryd.ntmps15
      go_upto_region 4 with (first | (refine wlBox (by rfl) 27 _ rfl (insA op rd ra rb im) rfl ?_; intro gI w1 hg hl ha hb; replace HB := keepB HB hb; have HI := Lib.hid ha; have i0 : w1.cell? ⟨gI, 0, none⟩ = some (.int .i64 op) := cellA HI 0; have i1 : w1.cell? ⟨gI, 1, none⟩ = some (.int .i64 rd) := cellA HI 1; have i2 : w1.cell? ⟨gI, 2, none⟩ = some (.int .i64 ra) := cellA HI 2; have i3 : w1.cell? ⟨gI, 3, none⟩ = some (.int .i64 rb) := cellA HI 3; have i4 : w1.cell? ⟨gI, 4, none⟩ = some (.int .i64 im) := cellA HI 4; clear ha hb hg hl) | (go_at_call 30; refine (rform_any op _).mono ?_; rw [HF.out]; rintro e w2 ⟨rfl, rfl⟩))
      go_quiet (first | (go_at_call 33; refine Calls.quiet_of_same (HH.out _ _ (by decide))) | (go_at_call 32; refine Calls.quiet_of_same (RR.out _ _ _)))
      have j0 : (w1.drewN nq).cell? ⟨gI, 0, none⟩ = some (.int .i64 op) := i0
      have j4 : (w1.drewN nq).cell? ⟨gI, 4, none⟩ = some (.int .i64 im) := i4
      go_wp2_with (first | (go_at_call 33; refine (HH.out _ _ (by decide)).mono ?_; rintro e w3 ⟨rfl, rfl⟩) | (go_at_call 34; refine (WW.out _).mono ?_; rintro e w4 ⟨rfl, rfl⟩))
      go_ret
      exact ⟨rfl, (keepBd HB _).out.1⟩
    | true =>
      rw [if_neg (fun q => by rw [h5] at q; exact absurd q.2 (by decide))] at hR
      subst hR
      go_enter Tryd.func15, Tryd.ntmps15
      go_upto_region 4 with (first | (refine wlBox (by rfl) 27 _ rfl (insA op rd ra rb im) rfl ?_; intro gI w1 hg hl ha hb; replace HB := keepB HB hb; have HI := Lib.hid ha; have i0 : w1.cell? ⟨gI, 0, none⟩ = some (.int .i64 op) := cellA HI 0; have i1 : w1.cell? ⟨gI, 1, none⟩ = some (.int .i64 rd) := cellA HI 1; have i2 : w1.cell? ⟨gI, 2, none⟩ = some (.int .i64 ra) := cellA HI 2; have i3 : w1.cell? ⟨gI, 3, none⟩ = some (.int .i64 rb) := cellA HI 3; have i4 : w1.cell? ⟨gI, 4, none⟩ = some (.int .i64 im) := cellA HI 4; clear ha hb hg hl) | (go_at_call 30; refine (rform_any op _).mono ?_; rw [HF.out]; rintro e w2 ⟨rfl, rfl⟩))
      go_quiet (first | (go_at_call 33; refine Calls.quiet_of_same (HH.out _ _ (by decide))) | (go_at_call 32; refine Calls.quiet_of_same (RR.out _ _ _)))
      have j0 : (w1.drewN nq).cell? ⟨gI, 0, none⟩ = some (.int .i64 op) := i0
      have j4 : (w1.drewN nq).cell? ⟨gI, 4, none⟩ = some (.int .i64 im) := i4
      go_wp2_with (first | (go_at_call 33; refine (HH.out _ _ (by decide)).mono ?_; rintro e w3 ⟨rfl, rfl⟩) | (go_at_call 34; refine (WW.out _).mono ?_; rintro e w4 ⟨rfl, rfl⟩))
      go_ret
      exact ⟨rfl, (keepBd HB _).out.1⟩
end Go.Proofs.YtnlghbnehfgobaaDoor.My

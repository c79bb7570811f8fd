/- Walk: a field's text: the reference's. -/
import Derived.Test.YtnlghbnehfgobaaDoorTextPrint
import Derived.Test.YtnlghbnehfgobaaDoorTextRDec
set_option linter.unusedVariables false
set_option linter.unusedSimpArgs false
namespace Go.Proofs.YtnlghbnehfgobaaDoor.My
open Go.RowKit
set_option maxRecDepth 100000 in
set_option maxHeartbeats 4000000 in
theorem rfield_any (op rd ra rb im : Int) (x : UInt8) (w : World) (hx : x = 100 ∨ x = 97 ∨ x = 98 ∨ x = 105) (hv : ∀ c, -9223372036854775808 ≤ valV rd ra rb im c ∧ valV rd ra rb im c ≤ 9223372036854775807) (hdl : ∀ c, (partV rd ra rb im c).length ≤ 30) : Calls Tryd.prog 31 #[.agg (insA op rd ra rb im), .int .u8 (x.toNat : Int)] w fun e w' => e = .returned (.string (bs (partV rd ra rb im x))) ∧ Below w.heap.size w w' := by
  have HB := startB w
  have hl := hdl x
  obtain ⟨T, hT⟩ : ∃ T, partV rd ra rb im x = T := ⟨_, rfl⟩
  rw [hT] at hl ⊢
  unfold partV at hT
  rcases hx with rfl | rfl | rfl | rfl
  · obtain ⟨V, hV⟩ : ∃ V, rd = V := ⟨_, rfl⟩
    have hvv := hv 100
    have e : valV rd ra rb im (((100 : UInt8).toNat : Nat) : Int) = V := hV
    rw [if_neg (by decide), e] at hT
    have hv1 : -9223372036854775808 ≤ V := by rw [← hV]; exact hvv.1
    have hv2 : V ≤ 9223372036854775807 := by rw [← hV]; exact hvv.2
    obtain ⟨DL, hDL⟩ : ∃ DL, decL V = DL := ⟨_, rfl⟩
    have HDL := Lib.hid hDL
    rw [hDL] at hT
    have hTD : DL.length ≤ 29 := by rw [← hT] at hl; simp at hl; omega
    subst hT
    subst hV
    clear hDL e hv hdl hvv
    go_enter Tryd.func31, Tryd.ntmps31
    go_wp2_with (first | (refine wlBox (by rfl) 27 _ rfl (insA op rd ra rb im) rfl ?_; intro gI w1 hg hl ha hb; replace HB := keepB HB hb; have HI := Lib.hid ha; have i1 : w1.cell? ⟨gI, 1, none⟩ = some (.int .i64 rd) := cellA HI 1; have i2 : w1.cell? ⟨gI, 2, none⟩ = some (.int .i64 ra) := cellA HI 2; have i3 : w1.cell? ⟨gI, 3, none⟩ = some (.int .i64 rb) := cellA HI 3; have i4 : w1.cell? ⟨gI, 4, none⟩ = some (.int .i64 im) := cellA HI 4; clear ha hb hg hl) | (go_at_call 49; refine (rdec_any rd _ hv1 hv2).mono ?_; rw [HDL.out]; rintro e w6 ⟨rfl, hb⟩; replace HB := keepB HB hb; clear hb) | (refine strAdd (by rfl) _ _ _ _ rfl (bs [114]) (bs DL) (bs (114 :: DL)) rfl rfl (by rw [bs_size, bs_size]; show 1 + DL.length ≤ _; omega) (bs_add _ _) ?_))
    go_ret
    exact ⟨rfl, HB.out.1⟩
  · obtain ⟨V, hV⟩ : ∃ V, ra = V := ⟨_, rfl⟩
    have hvv := hv 97
    have e : valV rd ra rb im (((97 : UInt8).toNat : Nat) : Int) = V := hV
    rw [if_neg (by decide), e] at hT
    have hv1 : -9223372036854775808 ≤ V := by rw [← hV]; exact hvv.1
    have hv2 : V ≤ 9223372036854775807 := by rw [← hV]; exact hvv.2
    obtain ⟨DL, hDL⟩ : ∃ DL, decL V = DL := ⟨_, rfl⟩
    have HDL := Lib.hid hDL
    rw [hDL] at hT
    have hTD : DL.length ≤ 29 := by rw [← hT] at hl; simp at hl; omega
    subst hT
    subst hV
    clear hDL e hv hdl hvv
    go_enter Tryd.func31, Tryd.ntmps31
    go_wp2_with (first | (refine wlBox (by rfl) 27 _ rfl (insA op rd ra rb im) rfl ?_; intro gI w1 hg hl ha hb; replace HB := keepB HB hb; have HI := Lib.hid ha; have i1 : w1.cell? ⟨gI, 1, none⟩ = some (.int .i64 rd) := cellA HI 1; have i2 : w1.cell? ⟨gI, 2, none⟩ = some (.int .i64 ra) := cellA HI 2; have i3 : w1.cell? ⟨gI, 3, none⟩ = some (.int .i64 rb) := cellA HI 3; have i4 : w1.cell? ⟨gI, 4, none⟩ = some (.int .i64 im) := cellA HI 4; clear ha hb hg hl) | (go_at_call 49; refine (rdec_any ra _ hv1 hv2).mono ?_; rw [HDL.out]; rintro e w6 ⟨rfl, hb⟩; replace HB := keepB HB hb; clear hb) | (refine strAdd (by rfl) _ _ _ _ rfl (bs [114]) (bs DL) (bs (114 :: DL)) rfl rfl (by rw [bs_size, bs_size]; show 1 + DL.length ≤ _; omega) (bs_add _ _) ?_))
    go_ret
    exact ⟨rfl, HB.out.1⟩
  · obtain ⟨V, hV⟩ : ∃ V, rb = V := ⟨_, rfl⟩
    have hvv := hv 98
    have e : valV rd ra rb im (((98 : UInt8).toNat : Nat) : Int) = V := hV
    rw [if_neg (by decide), e] at hT
    have hv1 : -9223372036854775808 ≤ V := by rw [← hV]; exact hvv.1
    have hv2 : V ≤ 9223372036854775807 := by rw [← hV]; exact hvv.2
    obtain ⟨DL, hDL⟩ : ∃ DL, decL V = DL := ⟨_, rfl⟩
    have HDL := Lib.hid hDL
    rw [hDL] at hT
    have hTD : DL.length ≤ 29 := by rw [← hT] at hl; simp at hl; omega
    subst hT
    subst hV
    clear hDL e hv hdl hvv
    go_enter Tryd.func31, Tryd.ntmps31
    go_wp2_with (first | (refine wlBox (by rfl) 27 _ rfl (insA op rd ra rb im) rfl ?_; intro gI w1 hg hl ha hb; replace HB := keepB HB hb; have HI := Lib.hid ha; have i1 : w1.cell? ⟨gI, 1, none⟩ = some (.int .i64 rd) := cellA HI 1; have i2 : w1.cell? ⟨gI, 2, none⟩ = some (.int .i64 ra) := cellA HI 2; have i3 : w1.cell? ⟨gI, 3, none⟩ = some (.int .i64 rb) := cellA HI 3; have i4 : w1.cell? ⟨gI, 4, none⟩ = some (.int .i64 im) := cellA HI 4; clear ha hb hg hl) | (go_at_call 49; refine (rdec_any rb _ hv1 hv2).mono ?_; rw [HDL.out]; rintro e w6 ⟨rfl, hb⟩; replace HB := keepB HB hb; clear hb) | (refine strAdd (by rfl) _ _ _ _ rfl (bs [114]) (bs DL) (bs (114 :: DL)) rfl rfl (by rw [bs_size, bs_size]; show 1 + DL.length ≤ _; omega) (bs_add _ _) ?_))
    go_ret
    exact ⟨rfl, HB.out.1⟩
  · obtain ⟨V, hV⟩ : ∃ V, im = V := ⟨_, rfl⟩
    have hvv := hv 105
    have e : valV rd ra rb im (((105 : UInt8).toNat : Nat) : Int) = V := hV
    rw [if_pos rfl, e] at hT
    have hv1 : -9223372036854775808 ≤ V := by rw [← hV]; exact hvv.1
    have hv2 : V ≤ 9223372036854775807 := by rw [← hV]; exact hvv.2
    obtain ⟨DL, hDL⟩ : ∃ DL, decL V = DL := ⟨_, rfl⟩
    have HDL := Lib.hid hDL
    rw [hDL] at hT
    subst hT
    subst hV
    clear hDL e hv hdl hvv
    go_enter Tryd.func31, Tryd.ntmps31
    go_wp2_with (first | (refine wlBox (by rfl) 27 _ rfl (insA op rd ra rb im) rfl ?_; intro gI w1 hg hl ha hb; replace HB := keepB HB hb; have HI := Lib.hid ha; have i1 : w1.cell? ⟨gI, 1, none⟩ = some (.int .i64 rd) := cellA HI 1; have i2 : w1.cell? ⟨gI, 2, none⟩ = some (.int .i64 ra) := cellA HI 2; have i3 : w1.cell? ⟨gI, 3, none⟩ = some (.int .i64 rb) := cellA HI 3; have i4 : w1.cell? ⟨gI, 4, none⟩ = some (.int .i64 im) := cellA HI 4; clear ha hb hg hl) | (go_at_call 49; refine (rdec_any im _ hv1 hv2).mono ?_; rw [HDL.out]; rintro e w6 ⟨rfl, hb⟩; replace HB := keepB HB hb; clear hb) | (refine strAdd (by rfl) _ _ _ _ rfl (bs [114]) (bs DL) (bs (114 :: DL)) rfl rfl (by rw [bs_size, bs_size]; show 1 + DL.length ≤ _; omega) (bs_add _ _) ?_))
    go_ret
    exact ⟨rfl, HB.out.1⟩
end Go.Proofs.YtnlghbnehfgobaaDoor.My

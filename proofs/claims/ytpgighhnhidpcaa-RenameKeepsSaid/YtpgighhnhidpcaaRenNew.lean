/- New names, program and reference. -/
import Derived.Test.YtpgighhnhidpcaaRenWords
import Derived.Test.YtpgighhnhidpcaaFreelMake
set_option linter.unusedSimpArgs false
set_option linter.unusedVariables false
namespace Go.Proofs.Ytpgighhnhidpcaa.My
open Go.RowKit
theorem l16 : (Rat.newL 16).length = 16 := by decide
/-- New names, of M registers, the first U of them with the map. -/
def NewN (w w' : World) (M U : Nat) (e : Ending) : Prop :=
  ∃ A c, e = .returned (.agg (nm (Rat.newL 16) (Rat.newL 16) (.slice A M c) 0 ((M : Int) - (U : Int)) 1)) ∧ RdA .i64 w' A M (newL M U) ∧ Fresh w.heap.size A ∧ Below w.heap.size w w'
theorem new_names (n : Int) (M U : Nat) (w : World) (hM : cut n 96 = M) (hU : cut 16 M = U) : Calls Try.prog 14 #[.int .i64 n] w fun e w' => NewN w w' M U e := by
  have HB := startB w
  go_enter Try.func14, Try.ntmps14
  go_wp2_with (first | (refine wlAlloc rfl 29 rfl _ zeroNames ?_; intro gZ w3 hgZ hgZ' hz hb; have HZ := Lib.hid hz; replace HB := keepB HB hb; clear hz hb) | (go_at_call 28; refine (Rat.new_any _).mono ?_; rintro e w1 ⟨rfl, hb⟩; replace HZ := keepA HZ hb; replace HB := keepB HB hb; clear hb) | (go_at_call 29; refine (new_any n 16 M U _ hM hU).mono ?_; rintro e w1 ⟨A, c, rfl, hx, hf, hb⟩; have hlt : gZ + 1 ≤ _ := (Array.getElem?_eq_some_iff.1 HZ.out).1; have HF := Lib.hid (Fresh.mono hf hlt); clear hlt hf; replace HZ := keepA HZ hb; replace HB := keepB HB hb; have HX := Lib.hid hx; clear hb hx) | (refine rowStore rfl 29 _ _ rfl _ rfl _ rfl HZ.out (szN l16 l16) (szE rfl rfl l16 l16) (nm_one rfl) ?_; intro w5 hz ho; replace HX := Lib.hid (HX.out.only2 ho (fun a e1 e2 => by have := HF.out a e1; omega)); replace HB := keepBo HB (by omega) ho; clear HZ; have HZ := Lib.hid hz; clear hz ho) | (refine opVal rfl (.agg (nm (Rat.newL 16) (Rat.newL 16) (.slice A M c) 0 ((M : Int) - (U : Int)) 1)) (by kernel_rfl) ?_))
  exact bodyPost_ret (results_cell_row rfl _ _ gZ 29 (nm (Rat.newL 16) (Rat.newL 16) (.slice A M c) 0 ((M : Int) - (U : Int)) 1) (0, 0) _ rfl HZ.out Try.underlying29 rfl (szN l16 l16)) rfl ⟨A, c, rfl, HX.out, Fresh.mono HF.out (by omega), HB.out.1⟩
theorem rnew_names (n : Int) (M U : Nat) (w : World) (hM : cut n 96 = M) (hU : cut 16 M = U) : Calls Try.prog 15 #[.int .i64 n] w fun e w' => NewN w w' M U e := by
  have HB := startB w
  go_enter Try.func15, Try.ntmps15
  go_wp2_with (first | (refine wlAlloc rfl 29 rfl _ zeroNames ?_; intro gZ w3 hgZ hgZ' hz hb; have HZ := Lib.hid hz; replace HB := keepB HB hb; clear hz hb) | (go_at_call 30; refine (Rat.rnew_any _).mono ?_; rintro e w1 ⟨rfl, hb⟩; replace HZ := keepA HZ hb; replace HB := keepB HB hb; clear hb) | (go_at_call 31; refine (rnew_any n 16 M U _ hM hU).mono ?_; rintro e w1 ⟨A, c, rfl, hx, hf, hb⟩; have hlt : gZ + 1 ≤ _ := (Array.getElem?_eq_some_iff.1 HZ.out).1; have HF := Lib.hid (Fresh.mono hf hlt); clear hlt hf; replace HZ := keepA HZ hb; replace HB := keepB HB hb; have HX := Lib.hid hx; clear hb hx) | (refine rowStore rfl 29 _ _ rfl _ rfl _ rfl HZ.out (szN l16 l16) (szE rfl rfl l16 l16) (nm_one rfl) ?_; intro w5 hz ho; replace HX := Lib.hid (HX.out.only2 ho (fun a e1 e2 => by have := HF.out a e1; omega)); replace HB := keepBo HB (by omega) ho; clear HZ; have HZ := Lib.hid hz; clear hz ho) | (refine opVal rfl (.agg (nm (Rat.newL 16) (Rat.newL 16) (.slice A M c) 0 ((M : Int) - (U : Int)) 1)) (by kernel_rfl) ?_))
  exact bodyPost_ret (results_cell_row rfl _ _ gZ 29 (nm (Rat.newL 16) (Rat.newL 16) (.slice A M c) 0 ((M : Int) - (U : Int)) 1) (0, 0) _ rfl HZ.out Try.underlying29 rfl (szN l16 l16)) rfl ⟨A, c, rfl, HX.out, Fresh.mono HF.out (by omega), HB.out.1⟩
end Go.Proofs.Ytpgighhnhidpcaa.My

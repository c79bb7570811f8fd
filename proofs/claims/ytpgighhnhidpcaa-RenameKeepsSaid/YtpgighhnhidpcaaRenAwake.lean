/- Walk over the chapter's example. -/
import Derived.Test.YtpgighhnhidpcaaRenOne
import Derived.Test.YtpgighhnhidpcaaRenNew
import Derived.Test.YtpgighhnhidpcaaRenSame
import Derived.Test.YtpgighhnhidpcaaFreelRight
set_option linter.unusedSimpArgs false
set_option linter.unusedVariables false
namespace Go.Proofs.Ytpgighhnhidpcaa.My
open Go.RowKit
def av0 : NmV := ⟨Rat.newL 16, Rat.newL 16, 18, newL 18 16, 0, 2, 1⟩
def au1 : UopV := ⟨0, 0, 0, 0, 0, 0, 0, 0, 0, false, 0, 0, 0, 0, 0, 0, false, 2, -1, -1, 1, 0, 0⟩
def au2 : UopV := ⟨0, 0, 0, 0, 0, 0, 0, 0, 0, false, 0, 0, 0, 0, 0, 0, false, 1, -1, -1, 2, 0, 0⟩
def au3 : UopV := ⟨0, 0, 0, 0, 0, 0, 0, 0, 0, false, 0, 0, 0, 0, 0, 0, false, -1, -1, -1, 3, 0, 0⟩
def av1 : NmV := onV av0 au1
def ar1 : RenV := onR av0 au1
def av2 : NmV := onV av1 au2
def ar2 : RenV := onR av1 au2
def av3 : NmV := onV av2 au3
def ar3 : RenV := onR av2 au3
def av4 : NmV := rtV av2 ar1
theorem ok0 : av0.Ok := ⟨by decide, by decide, by decide⟩
theorem ok1 : av1.Ok := onV_ok ok0 _
theorem ok2 : av2.Ok := onV_ok ok1 _
theorem ok3 : av3.Ok := onV_ok ok2 _
theorem ok4 : av4.Ok := rtV_ok ok2 _
theorem ab1 : onB av0 au1 = true := by decide
theorem ab2 : onB av1 au2 = true := by decide
theorem ab3 : onB av2 au3 = false := by decide
theorem a24 : (rA ar1)[24]? = some (.int .i64 2) := (rA_24 ar1).trans (by rw [show ar1.n0 = 2 by decide])
theorem a27 : (rA ar1)[27]? = some (.int .i64 16) := (rA_27 ar1).trans (by rw [show ar1.out = 16 by decide])
theorem a28 : (rA ar1)[28]? = some (.int .i64 1) := (rA_28 ar1).trans (by rw [show ar1.old = 1 by decide])
theorem b24 : (rA ar2)[24]? = some (.int .i64 16) := (rA_24 ar2).trans (by rw [show ar2.n0 = 16 by decide])
theorem b27 : (rA ar2)[27]? = some (.int .i64 17) := (rA_27 ar2).trans (by rw [show ar2.out = 17 by decide])
theorem b23 : (rA ar2)[23]? = some (.int .u64 2) := (rA_23 ar2).trans (by rw [show ar2.seq = 2 by decide])
theorem aw_ring : ringL av4.xs 18 av4.h av4.N = [1] := by decide
theorem nm_szV {v : NmV} (hv : v.Ok) (A : Option Addr) (c : Nat) : (Try.prog.info? 29).map (·.size) = some (nmA v A c).size := szN hv.m hv.d
theorem nm_eqV {v v' : NmV} (hv : v.Ok) (hv' : v'.Ok) (A A' : Option Addr) (c c' : Nat) : (nmA v A c).size = (nmA v' A' c').size := szE hv.m hv.d hv'.m hv'.d
theorem zZ (v : NmV) (hv : v.Ok) (A : Option Addr) (c : Nat) : (nm zeros16 zeros16 (.slice none 0 0) 0 0 0).size = (nmA v A c).size := szE rfl rfl hv.m hv.d
theorem nm_oneV (v : NmV) (A : Option Addr) (c : Nat) : (nmA v A c).all (·.oneCell') = true := nm_one rfl
theorem aw_new (w : World) : Calls Try.prog 14 #[.int .i64 18] w fun e w' => ∃ A c, e = .returned (.agg (nmA av0 A c)) ∧ RdA .i64 w' A 18 av0.xs ∧ Below w.heap.size w w' := by
  refine (new_names 18 18 16 w (by decide) (by decide)).mono ?_
  rintro e w' ⟨A, c, rfl, hr, _, hb⟩
  exact ⟨A, c, rfl, hr, hb⟩
theorem wlField {P : Program} {ops : Array Oper} {Q : Exit → Act → World → Prop} {rest : List Oper} {o : Oper} {a : Act} {w : World} (hw : Region.wanted o (yielded ops a.tmps) = true) (ty : TypeId) (x : Operand) (i : Nat) (ho : o.op = .field ty x i) (v : Value) (hrun : (Instr.field ty (a.eval x) i).run P w = .ok v w) (h : wpList P ops Q rest (a.put o.dst v) w) : wpList P ops Q (o :: rest) a w :=
  opVal hw v (by unfold execOp; rw [ho]; simp only [Sem.run_bind, hrun, Result.andThen_ok]; rfl) h
def AW (w w' : World) (A : Option Addr) (v : NmV) (r : RenV) (b : Bool) (e : Ending) : Prop := ∃ A' c, e = .returned (.tuple #[.agg (nmA v A' c), .agg (rA r), .bool b]) ∧ RdA .i64 w' A' 18 av0.xs ∧ (A' = A ∨ Fresh w.heap.size A') ∧ Below w.heap.size w w'
theorem aw_one1 (A : Option Addr) (c : Nat) (w : World) (hx : RdA .i64 w A 18 av0.xs) : Calls Try.prog 16 #[.agg (nmA av0 A c), .agg (uA au1)] w fun e w' => AW w w' A av1 ar1 true e := by
  have h := one_any av0 A c au1 w hx ok0
  rw [ab1] at h
  refine h.mono ?_
  rintro e w' ⟨A', c', he, hr, hA, hb⟩
  rw [onV_n, onV_xs] at hr
  exact ⟨A', c', he, hr, hA, hb⟩
theorem aw_one2 (A : Option Addr) (c : Nat) (w : World) (hx : RdA .i64 w A 18 av0.xs) : Calls Try.prog 16 #[.agg (nmA av1 A c), .agg (uA au2)] w fun e w' => AW w w' A av2 ar2 true e := by
  have h := one_any av1 A c au2 w (by unfold av1; rw [onV_n, onV_xs]; exact hx) ok1
  rw [ab2] at h
  refine h.mono ?_
  rintro e w' ⟨A', c', he, hr, hA, hb⟩
  rw [onV_n, onV_xs] at hr
  unfold av1 at hr
  rw [onV_n, onV_xs] at hr
  exact ⟨A', c', he, hr, hA, hb⟩
theorem n2 : av2.n = 18 := by unfold av2 av1; rw [onV_n, onV_n]; rfl
theorem xs2 : av2.xs = av0.xs := by unfold av2 av1; rw [onV_xs, onV_xs]
theorem aw_one3 (A : Option Addr) (c : Nat) (w : World) (hx : RdA .i64 w A 18 av0.xs) : Calls Try.prog 16 #[.agg (nmA av2 A c), .agg (uA au3)] w fun e w' => AW w w' A av3 ar3 false e := by
  have h := one_any av2 A c au3 w (by rw [n2, xs2]; exact hx) ok2
  rw [ab3] at h
  refine h.mono ?_
  rintro e w' ⟨A', c', he, hr, hA, hb⟩
  rw [onV_n, onV_xs, n2, xs2] at hr
  exact ⟨A', c', he, hr, hA, hb⟩
theorem aw_retire (A : Option Addr) (c : Nat) (w : World) (hx : RdA .i64 w A 18 av0.xs) : Calls Try.prog 20 #[.agg (nmA av2 A c), .agg (rA ar1)] w fun e w' => ∃ A' c, e = .returned (.agg (nmA av4 A' c)) ∧ RdA .i64 w' A' 18 av4.xs ∧ Below w.heap.size w w' := by
  refine (retire_v av2 A c ar1 w (by rw [n2, xs2]; exact hx) ok2).mono ?_
  rintro e w' ⟨A', c', he, hr, _, hb⟩
  exact ⟨A', c', he, by rw [show (rtV av2 ar1).n = av2.n from rfl, n2] at hr; exact hr, hb⟩
theorem aw_list (A : Option Addr) (c : Nat) (w : World) (hx : RdA .i64 w A 18 av4.xs) : Calls Try.prog 23 #[.agg #[.slice A 18 c, .int .i64 av4.h, .int .i64 av4.N]] w fun e w' => (∃ A c, e = .returned (.slice A 1 c) ∧ RdA .i64 w' A 1 [1]) ∧ Below w.heap.size w w' := by
  have h := list_any A 18 c av4.h av4.N av4.xs w hx (by decide)
  rw [aw_ring] at h
  exact h
theorem aw_field (A : Option Addr) (c : Nat) (w : World) : (Instr.field 29 (.agg (nmA av4 A c)) 2).run Try.prog w = .ok (.agg #[.slice A 18 c, .int .i64 av4.h, .int .i64 av4.N]) w := by kernel_rfl
set_option maxRecDepth 100000 in
set_option maxHeartbeats 4000000 in
theorem awake_walk (V0 V1 V2 V3 V4 : NmV) (R1 R2 R3 : RenV) (k1 : V1.Ok) (k2 : V2.Ok) (k3 : V3.Ok)
    (hNW : ∀ w, Calls Try.prog 14 #[.int .i64 18] w fun e w' => ∃ A c, e = .returned (.agg (nmA V0 A c)) ∧ RdA .i64 w' A 18 av0.xs ∧ Below w.heap.size w w')
    (hO1 : ∀ A c w, RdA .i64 w A 18 av0.xs → Calls Try.prog 16 #[.agg (nmA V0 A c), .agg (uA au1)] w fun e w' => AW w w' A V1 R1 true e)
    (hO2 : ∀ A c w, RdA .i64 w A 18 av0.xs → Calls Try.prog 16 #[.agg (nmA V1 A c), .agg (uA au2)] w fun e w' => AW w w' A V2 R2 true e)
    (hO3 : ∀ A c w, RdA .i64 w A 18 av0.xs → Calls Try.prog 16 #[.agg (nmA V2 A c), .agg (uA au3)] w fun e w' => AW w w' A V3 R3 false e)
    (hRT : ∀ A c w, RdA .i64 w A 18 av0.xs → Calls Try.prog 20 #[.agg (nmA V2 A c), .agg (rA R1)] w fun e w' => ∃ A' c, e = .returned (.agg (nmA V4 A' c)) ∧ RdA .i64 w' A' 18 V4.xs ∧ Below w.heap.size w w')
    (hLI : ∀ A c w, RdA .i64 w A 18 V4.xs → Calls Try.prog 23 #[.agg #[.slice A 18 c, .int .i64 V4.h, .int .i64 V4.N]] w fun e w' => (∃ A c, e = .returned (.slice A 1 c) ∧ RdA .i64 w' A 1 [1]) ∧ Below w.heap.size w w')
    (hFD : ∀ A c w, (Instr.field 29 (.agg (nmA V4 A c)) 2).run Try.prog w = .ok (.agg #[.slice A 18 c, .int .i64 V4.h, .int .i64 V4.N]) w)
    (e24 : (rA R1)[24]? = some (.int .i64 2)) (e27 : (rA R1)[27]? = some (.int .i64 16)) (e28 : (rA R1)[28]? = some (.int .i64 1)) (g24 : (rA R2)[24]? = some (.int .i64 16)) (g27 : (rA R2)[27]? = some (.int .i64 17)) (g23 : (rA R2)[23]? = some (.int .u64 2))
    (w : World) : Calls Try.prog 9 #[] w fun e w' => e = .returned (.bool true) ∧ Below w.heap.size w w' := by
  have HB := startB w
  go_enter Try.func9, Try.ntmps9
  go_wp2_with (first | (go_at_call 14; refine (hNW _).mono ?_; rintro e w1 ⟨A0, c0, rfl, hr, hb⟩; replace HB := keepB HB hb; have HX := Lib.hid hr; clear hr hb) | (refine wlBuild rfl 48 #[(0, .const (.int .i64 2)), (1, _), (2, _)] rfl (.agg #[.int .i64 2, .int .i64 (-1), .int .i64 (-1)]) (by kernel_rfl) ?_) | (refine wlBuild rfl 48 #[(0, .const (.int .i64 1)), (1, _), (2, _)] rfl (.agg #[.int .i64 1, .int .i64 (-1), .int .i64 (-1)]) (by kernel_rfl) ?_) | (refine wlBuild rfl 48 #[(0, .const (.int .i64 (-1))), (1, _), (2, _)] rfl (.agg #[.int .i64 (-1), .int .i64 (-1), .int .i64 (-1)]) (by kernel_rfl) ?_) | (refine wlBuild rfl 50 #[(5, _), (6, .const (.int .i64 1))] rfl (.agg (uA au1)) (by kernel_rfl) ?_) | (refine wlBuild rfl 50 #[(5, _), (6, .const (.int .i64 2))] rfl (.agg (uA au2)) (by kernel_rfl) ?_) | (refine wlBuild rfl 50 #[(5, _), (6, .const (.int .i64 3))] rfl (.agg (uA au3)) (by kernel_rfl) ?_) | (have hq := HC; clear hq; go_at_call 16; refine (hO3 _ _ _ HX.out).mono ?_; rintro e w11 ⟨A3, c3, rfl, _, _, hb⟩; replace HS := keepA HS hb; replace HA := keepA HA hb; replace HC := keepA HC hb; replace HB := keepB HB hb; replace HX := Lib.hid (HX.out.below hb); clear hb) | (have hq := HA; clear hq; go_at_call 16; refine (hO2 _ _ _ HX.out).mono ?_; rintro e w7 ⟨A2, c2, rfl, hr, hA, hb⟩; have hlt : gA + 1 ≤ _ := (Array.getElem?_eq_some_iff.1 HA.out).1; have HL2 := Lib.hid (far HL1.out (hA.imp_right fun hf => Fresh.mono hf hlt)); clear hlt hA; replace HS := keepA HS hb; replace HA := keepA HA hb; replace HB := keepB HB hb; clear HX; have HX := Lib.hid hr; clear hr hb) | (go_at_call 16; refine (hO1 _ _ _ HX.out).mono ?_; rintro e w2 ⟨A1, c1, rfl, hr, _, hb⟩; replace HB := keepB HB hb; clear HX; have HX := Lib.hid hr; clear hr hb) | (have hq := HC; refine wlAlloc rfl 29 rfl _ zeroNames ?_; intro gN w12 hgN hgN' hz hb; clear hq; have HN := Lib.hid hz; have hBN : gB < gN := Nat.lt_of_lt_of_le (Array.getElem?_eq_some_iff.1 HC.out).1 hgN; replace HS := keepA HS hb; replace HA := keepA HA hb; replace HC := keepA HC hb; replace HX := Lib.hid (HX.out.below hb); replace HB := keepB HB hb; clear hz hb) | (refine wlAlloc rfl 29 rfl _ zeroNames ?_; intro gS w3 hgS hgS' hz hb; have hw0 : w.heap.size ≤ gS := Nat.le_trans HB.out.2 hgS; have HS := Lib.hid hz; have HL1 : Hid (∀ a, A1 = some a → 0 < 18 → a.block < gS) := Lib.hid (fun a e1 e2 => Nat.lt_of_lt_of_le (HX.out.lt a e1 e2) hgS); replace HX := Lib.hid (HX.out.below hb); replace HB := keepB HB hb; clear hz hb) | (have hq := HN; refine wlAlloc rfl 52 rfl _ zeroRen ?_; intro gC w13 hgC hgC' hz hb; clear hq; have HD := Lib.hid hz; have hNC : gN < gC := Nat.lt_of_lt_of_le (Array.getElem?_eq_some_iff.1 HN.out).1 hgC; replace HS := keepA HS hb; replace HA := keepA HA hb; replace HC := keepA HC hb; replace HN := keepA HN hb; replace HX := Lib.hid (HX.out.below hb); replace HB := keepB HB hb; clear hz hb) | (refine wlAlloc rfl 52 rfl _ zeroRen ?_; intro gB w8 hgB hgB' hz hb; have HC := Lib.hid hz; have hAB : gA < gB := Nat.lt_of_lt_of_le (Array.getElem?_eq_some_iff.1 HA.out).1 hgB; have HL3 : Hid (∀ a, A2 = some a → 0 < 18 → a.block < gB) := Lib.hid (fun a e1 e2 => Nat.lt_of_lt_of_le (HX.out.lt a e1 e2) hgB); replace HS := keepA HS hb; replace HA := keepA HA hb; replace HX := Lib.hid (HX.out.below hb); replace HB := keepB HB hb; clear hz hb) | (refine wlAlloc rfl 52 rfl _ zeroRen ?_; intro gA w4 hgA hgA' hz hb; have HA := Lib.hid hz; replace HS := keepA HS hb; replace HX := Lib.hid (HX.out.below hb); replace HB := keepB HB hb; clear hz hb) | (have hq := HN; clear hq; refine rowStore rfl 29 _ _ rfl gN rfl (nmA V3 A3 c3) rfl HN.out (nm_szV k3 _ _) (zZ V3 k3 _ _) (nm_oneV _ _ _) ?_; intro w14 hz ho; replace HS := keepAo HS (by omega) ho; replace HA := keepAo HA (by omega) ho; replace HC := keepAo HC (by omega) ho; replace HD := keepAo HD (by omega) ho; replace HX := Lib.hid (HX.out.only2 ho (fun a e1 e2 => by have := HL3.out a e1 e2; omega)); replace HB := keepBo HB (by omega) ho; clear HN; clear hz ho) | (have hq := HC; clear hq; refine rowStore rfl 29 _ _ rfl gS rfl (nmA V2 A2 c2) rfl HS.out (nm_szV k2 _ _) (nm_eqV k1 k2 _ _ _ _) (nm_oneV _ _ _) ?_; intro w9 hz ho; replace HA := keepAo HA (by omega) ho; replace HC := keepAo HC (by omega) ho; replace HX := Lib.hid (HX.out.only2 ho (fun a e1 e2 => by have := HL2.out a e1 e2; omega)); replace HB := keepBo HB (by omega) ho; clear HS; have HS := Lib.hid hz; clear hz ho) | (refine rowStore rfl 29 _ _ rfl gS rfl (nmA V1 A1 c1) rfl HS.out (nm_szV k1 _ _) (zZ V1 k1 _ _) (nm_oneV _ _ _) ?_; intro w5 hz ho; replace HA := keepAo HA (by omega) ho; replace HX := Lib.hid (HX.out.only2 ho (fun a e1 e2 => by have := HL1.out a e1 e2; omega)); replace HB := keepBo HB (by omega) ho; clear HS; have HS := Lib.hid hz; clear hz ho) | (refine rowStore rfl 52 _ _ rfl gA rfl (rA R1) rfl HA.out infoRen rfl (rA_one _) ?_; intro w6 hz ho; replace HS := keepAo HS (by omega) ho; replace HX := Lib.hid (HX.out.only2 ho (fun a e1 e2 => by have := HL1.out a e1 e2; omega)); replace HB := keepBo HB (by omega) ho; clear HA; have HA := Lib.hid hz; clear hz ho) | (refine rowStore rfl 52 _ _ rfl gB rfl (rA R2) rfl HC.out infoRen rfl (rA_one _) ?_; intro w10 hz ho; replace HS := keepAo HS (by omega) ho; replace HA := keepAo HA (by omega) ho; replace HX := Lib.hid (HX.out.only2 ho (fun a e1 e2 => by have := HL3.out a e1 e2; omega)); replace HB := keepBo HB (by omega) ho; clear HC; have HC := Lib.hid hz; clear hz ho) | (refine rowStore rfl 52 _ _ rfl gC rfl (rA R3) rfl HD.out infoRen rfl (rA_one _) ?_; intro w15 hz ho; replace HS := keepAo HS (by omega) ho; replace HA := keepAo HA (by omega) ho; replace HC := keepAo HC (by omega) ho; replace HX := Lib.hid (HX.out.only2 ho (fun a e1 e2 => by have := HL3.out a e1 e2; omega)); replace HB := keepBo HB (by omega) ho; clear HD; clear hz ho; (try clear f1 f2 f3 f4 f5 f6); have f1 := (cellA HA 24).trans e24; have f2 := (cellA HA 27).trans e27; have f3 := (cellA HA 28).trans e28; have f4 := (cellA HC 24).trans g24; have f5 := (cellA HC 27).trans g27; have f6 := (cellA HC 23).trans g23) | (refine rowLoad rfl 29 _ rfl gS rfl HS.out Try.underlying29 rfl (by first | exact nm_szV k2 _ _ | exact nm_szV k1 _ _) ?_) | (refine rowLoad rfl 52 _ rfl gA rfl HA.out Try.underlying52 rfl infoRen ?_) | (go_at_call 20; refine (hRT _ _ _ HX.out).mono ?_; rintro e w16 ⟨A4, c4, rfl, hr, hb⟩; replace HB := keepB HB hb; clear HX f1 f2 f3 f4 f5 f6; have HX := Lib.hid hr; clear hr hb) | (refine wlField rfl 29 _ 2 rfl (.agg #[.slice A4 18 c4, .int .i64 V4.h, .int .i64 V4.N]) (hFD _ _ _) ?_) | (go_at_call 23; refine (hLI _ _ _ HX.out).mono ?_; rintro e w17 ⟨⟨A5, c5, rfl, hr⟩, hb⟩; replace HB := keepB HB hb; clear HX; have HX := Lib.hid hr; clear hr hb) | (go_at_call 22; refine (ints_any _ _ 1 _ _ [1] _ (HX.out.below ((Below.refl _ _).alloc (Nat.le_refl _) _)) (RdA.of_row rfl (heap_alloc_new _ _)) (by decide)).mono ?_; rintro e w18 ⟨rfl, hb⟩; replace HB := keepB (keepBa HB (.cells #[.int .i64 1] 3)) hb; clear hb))
  go_ret
  exact ⟨rfl, HB.out.1⟩
theorem awake_any (w : World) : Calls Try.prog 9 #[] w fun e w' => e = .returned (.bool true) ∧ Below w.heap.size w w' :=
  awake_walk av0 av1 av2 av3 av4 ar1 ar2 ar3 ok1 ok2 ok3 aw_new aw_one1 aw_one2 aw_one3 aw_retire aw_list aw_field a24 a27 a28 b24 b27 b23 w
end Go.Proofs.Ytpgighhnhidpcaa.My

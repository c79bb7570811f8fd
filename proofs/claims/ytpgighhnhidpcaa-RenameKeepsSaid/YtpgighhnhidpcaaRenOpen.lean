/- Names and renamed Uops among the arguments: what they look like, and their numbers. -/
import Derived.Test.YtpgighhnhidpcaaOpenWords
import Derived.Test.YtpgighhnhidpcaaRenOne
import Derived.ChangeSlices
import Derived.OpenShut
import Derived.Deep.Strs
import Derived.ChangeArms
namespace Go.Proofs.Ytpgighhnhidpcaa.My
open Go.ChangeShapes Go.WideShapes Go.ChangeAt Go.RowKit
theorem cell_slice {P : Program} {w : World} {r : Reach} {base : Nat} {u e : TypeId} {v : Value} (hu : P.underlying u = some (.slice e)) (h : Cell.okWide P w r base u v) : ∃ a n c, v = .slice a n c := by
  unfold Cell.okWide at h
  rw [hu] at h
  cases v <;> simp_all [Cell.ok]
theorem cell_bool {P : Program} {w : World} {r : Reach} {base : Nat} {u : TypeId} {v : Value} (hu : P.underlying u = some .bool) (h : Cell.okWide P w r base u v) : ∃ b, v = .bool b := by
  unfold Cell.okWide at h
  rw [hu] at h
  cases v <;> simp_all [Cell.ok]
theorem cells_rd {P : Program} {w : World} {H : Type} {enc : TypeId × Value → H} {base : Nat} {spare : Nat → Bool} {held : Bool} {t e : TypeId} {fuel n c : Nat} {a : Option Addr} {x : DataW H × List MemPlace} (ht : P.underlying t = some (.slice e)) (he : P.underlying e = some (.int .i64)) (hc : P.cellsOf e = 1)
    (h : DataW.trod enc P w base spare held fuel t [.slice a n c] = some x) : ∃ xs, RdA .i64 w a n xs ∧ n ≤ maxLen ∧ ∀ x ∈ xs, (Lit.int .i64 x).wf = true := by
  rcases open_ints ht he hc h with ⟨hcs, _⟩ | ⟨ad, len, cap, zs, hcs, _, hl, hm, hz, _, hcell, hwf⟩
  · simp only [List.cons.injEq, Value.slice.injEq, and_true] at hcs
    obtain ⟨rfl, rfl, rfl⟩ := hcs
    exact ⟨[], ⟨rfl, fun h => absurd h (Nat.lt_irrefl 0)⟩, Nat.zero_le _, fun x hx => by cases hx⟩
  · simp only [List.cons.injEq, Value.slice.injEq, and_true] at hcs
    obtain ⟨rfl, rfl, rfl⟩ := hcs
    have hle : n ≤ zs.length := by rw [hz]; split <;> omega
    refine ⟨zs.take n, ⟨by rw [List.length_take]; omega, fun hn => ?_⟩, by omega, fun x hx => hwf x (List.mem_of_mem_take hx)⟩
    obtain ⟨b, off, rfl, hc2⟩ := ints_at hcell (by omega)
    refine ⟨b, off, rfl, fun j hj => ?_⟩
    rw [hc2 j (by omega)]
    simp only [el, List.getElem?_take_of_lt hj]
    rfl
theorem OkAll.ints {P : Program} {w : World} {r : Reach} {base : Nat} {u : TypeId} {k : IntKind} (hu : P.underlying u = some (.int k)) : ∀ (n : Nat) {ts : List TypeId} {cs : List Value}, OkAll P w r base (List.replicate n u ++ ts) cs → ∃ (xs : List Int) (cs' : List Value), cs = xs.map (Value.int k) ++ cs' ∧ xs.length = n ∧ (∀ x ∈ xs, k.has x) ∧ OkAll P w r base ts cs'
  | 0, _, cs, h => ⟨[], cs, rfl, rfl, by simp, h⟩
  | n + 1, _, _, h => by
    obtain ⟨v, cs1, rfl, k0, h1⟩ := OkAll.cons (by simpa [List.replicate_succ] using h)
    obtain ⟨x, rfl, hx⟩ := cell_int hu k0
    obtain ⟨xs, cs', rfl, hl, hxs, h2⟩ := OkAll.ints hu n h1
    exact ⟨x :: xs, cs', by simp, by simp [hl], fun y hy => by
      rcases List.mem_cons.1 hy with rfl | hy
      · exact hx
      · exact hxs y hy, h2⟩
theorem has_u64 {n : Int} (h : IntKind.u64.has n) : 0 ≤ n ∧ n < 18446744073709551616 := by
  have : 0 ≤ n ∧ n ≤ 18446744073709551615 := by simpa [IntKind.has, IntKind.min, IntKind.max, IntKind.signed, IntKind.bits] using h
  omega
/-- The numbers of names are what their types hold. -/
structure NmV.Fit (v : NmV) : Prop where
  m : ∀ x ∈ v.m, IntKind.i64.has x
  d : ∀ x ∈ v.d, IntKind.i64.has x
  xs : ∀ x ∈ v.xs, (Lit.int .i64 x).wf = true
  h : IntKind.i64.has v.h
  N : IntKind.i64.has v.N
  s : 0 ≤ v.s ∧ v.s < 18446744073709551616
theorem open_names {w : World} {H : Type} {enc : TypeId × Value → H} {r : Reach} {b0 base : Nat} {spare : Nat → Bool} {held : Bool} {v : Value} {d : DataW H} {ps : List MemPlace} (hval : Value.okWide Try.prog w r b0 29 v) (hd : DataW.Trod enc Try.prog w base spare held 29 v d ps) :
    ∃ V A c, v = .agg (nmA V A c) ∧ RdA .i64 w A V.n V.xs ∧ V.Ok ∧ V.Fit := by
  obtain ⟨cs, rfl, hcs⟩ := open_row (ts := List.replicate 16 3 ++ (List.replicate 16 3 ++ [24, 3, 3, 27])) Try.underlying29 rfl (by kernel_rfl) (by kernel_rfl) hval
  obtain ⟨m, r0, rfl, hm, hm2, q0⟩ := OkAll.ints Try.underlying3 16 hcs
  obtain ⟨dn, r1, rfl, hdn, hd2, q1⟩ := OkAll.ints Try.underlying3 16 q0
  obtain ⟨v0, r2, rfl, k0, q2⟩ := q1.cons
  obtain ⟨v1, r3, rfl, k1, q3⟩ := q2.cons
  obtain ⟨v2, r4, rfl, k2, q4⟩ := q3.cons
  obtain ⟨v3, r5, rfl, k3, q5⟩ := q4.cons
  obtain rfl := q5.nil
  obtain ⟨A, n, c, rfl⟩ := cell_slice Try.underlying24 k0
  obtain ⟨h, rfl, hh⟩ := cell_int Try.underlying3 k1
  obtain ⟨N, rfl, hN⟩ := cell_int Try.underlying3 k2
  obtain ⟨s, rfl, hs⟩ := cell_int Try.underlying27 k3
  obtain ⟨fuel, hf⟩ := hd
  obtain ⟨xs0, n0, _, _, _, hxl, hfi⟩ := DataW.trod_struct Try.underlying29 hf
  have h2 := hfi 2 _ rfl
  have e2 : (((m.map (Value.int .i64) ++ (dn.map (Value.int .i64) ++ [Value.slice A n c, Value.int .i64 h, Value.int .i64 N, Value.int .u64 s])).toArray.toList.drop 32).take 3) = [Value.slice A n c, Value.int .i64 h, Value.int .i64 N] := by
    rw [List.toList_toArray, ← List.append_assoc, List.drop_append_of_le_length (by simp [hm, hdn]), List.drop_eq_nil_of_le (by simp [hm, hdn])]
    rfl
  have c3 : Try.prog.cellsOf 26 = 3 := by kernel_rfl
  obtain ⟨y, hy⟩ : ∃ y, xs0[2]? = some y := ⟨xs0[2]'(by rw [hxl]; decide), List.getElem?_eq_getElem _⟩
  rw [hy] at h2
  have hy : DataW.trod enc Try.prog w base spare held n0 26 [.slice A n c, .int .i64 h, .int .i64 N] = some y := by
    rw [← e2, ← c3]
    exact h2
  obtain ⟨y0, y1, y2, m2, _, _, hy2, _⟩ := Go.Deep.trod_struct3 Try.underlying26 hy
  obtain ⟨xs, hr, hmx, hwf⟩ := cells_rd Try.underlying24 Try.underlying3 (by kernel_rfl) (show DataW.trod enc Try.prog w base spare held m2 24 [.slice A n c] = some y0 from hy2)
  exact ⟨⟨m, dn, n, xs, h, N, s⟩, A, c, rfl, hr, ⟨hm, hdn, by unfold maxLen at hmx; omega⟩, ⟨hm2, hd2, hwf, hh, hN, has_u64 hs⟩⟩
set_option maxRecDepth 100000 in
theorem open_ren {w : World} {r : Reach} {b0 : Nat} {v : Value} (hval : Value.okWide Try.prog w r b0 52 v) : ∃ R : RenV, v = .agg (rA R) := by
  obtain ⟨cs, rfl, hcs⟩ := open_row (ts := [3, 3, 3, 3, 3, 41, 41, 3, 41, 4, 41, 41, 3, 41, 3, 3, 4, 3, 3, 3, 3, 3, 41, 27, 3, 3, 3, 3, 3]) Try.underlying52 rfl (by kernel_rfl) (by kernel_rfl) hval
  obtain ⟨v0, r0, rfl, k0, q0⟩ := hcs.cons
  obtain ⟨v1, r1, rfl, k1, q1⟩ := q0.cons
  obtain ⟨v2, r2, rfl, k2, q2⟩ := q1.cons
  obtain ⟨v3, r3, rfl, k3, q3⟩ := q2.cons
  obtain ⟨v4, r4, rfl, k4, q4⟩ := q3.cons
  obtain ⟨v5, r5, rfl, k5, q5⟩ := q4.cons
  obtain ⟨v6, r6, rfl, k6, q6⟩ := q5.cons
  obtain ⟨v7, r7, rfl, k7, q7⟩ := q6.cons
  obtain ⟨v8, r8, rfl, k8, q8⟩ := q7.cons
  obtain ⟨v9, r9, rfl, k9, q9⟩ := q8.cons
  obtain ⟨v10, r10, rfl, k10, q10⟩ := q9.cons
  obtain ⟨v11, r11, rfl, k11, q11⟩ := q10.cons
  obtain ⟨v12, r12, rfl, k12, q12⟩ := q11.cons
  obtain ⟨v13, r13, rfl, k13, q13⟩ := q12.cons
  obtain ⟨v14, r14, rfl, k14, q14⟩ := q13.cons
  obtain ⟨v15, r15, rfl, k15, q15⟩ := q14.cons
  obtain ⟨v16, r16, rfl, k16, q16⟩ := q15.cons
  obtain ⟨v17, r17, rfl, k17, q17⟩ := q16.cons
  obtain ⟨v18, r18, rfl, k18, q18⟩ := q17.cons
  obtain ⟨v19, r19, rfl, k19, q19⟩ := q18.cons
  obtain ⟨v20, r20, rfl, k20, q20⟩ := q19.cons
  obtain ⟨v21, r21, rfl, k21, q21⟩ := q20.cons
  obtain ⟨v22, r22, rfl, k22, q22⟩ := q21.cons
  obtain ⟨v23, r23, rfl, k23, q23⟩ := q22.cons
  obtain ⟨v24, r24, rfl, k24, q24⟩ := q23.cons
  obtain ⟨v25, r25, rfl, k25, q25⟩ := q24.cons
  obtain ⟨v26, r26, rfl, k26, q26⟩ := q25.cons
  obtain ⟨v27, r27, rfl, k27, q27⟩ := q26.cons
  obtain ⟨v28, r28, rfl, k28, q28⟩ := q27.cons
  obtain rfl := q28.nil
  obtain ⟨i0, rfl, hi0⟩ := cell_int Try.underlying3 k0
  obtain ⟨i1, rfl, hi1⟩ := cell_int Try.underlying3 k1
  obtain ⟨i2, rfl, hi2⟩ := cell_int Try.underlying3 k2
  obtain ⟨i3, rfl, hi3⟩ := cell_int Try.underlying3 k3
  obtain ⟨i4, rfl, hi4⟩ := cell_int Try.underlying3 k4
  obtain ⟨pc, rfl, hpc⟩ := cell_int Try.underlying41 k5
  obtain ⟨word, rfl, hword⟩ := cell_int Try.underlying41 k6
  obtain ⟨cause, rfl, hcause⟩ := cell_int Try.underlying3 k7
  obtain ⟨tval, rfl, htval⟩ := cell_int Try.underlying41 k8
  obtain ⟨taken, rfl⟩ := cell_bool Try.underlying4 k9
  obtain ⟨target, rfl, htarget⟩ := cell_int Try.underlying41 k10
  obtain ⟨hist, rfl, hhist⟩ := cell_int Try.underlying41 k11
  obtain ⟨top, rfl, htop⟩ := cell_int Try.underlying3 k12
  obtain ⟨val, rfl, hval⟩ := cell_int Try.underlying41 k13
  obtain ⟨unit, rfl, hunit⟩ := cell_int Try.underlying3 k14
  obtain ⟨part, rfl, hpart⟩ := cell_int Try.underlying3 k15
  obtain ⟨last, rfl⟩ := cell_bool Try.underlying4 k16
  obtain ⟨s0, rfl, hs0⟩ := cell_int Try.underlying3 k17
  obtain ⟨s1, rfl, hs1⟩ := cell_int Try.underlying3 k18
  obtain ⟨s2, rfl, hs2⟩ := cell_int Try.underlying3 k19
  obtain ⟨dst, rfl, hdst⟩ := cell_int Try.underlying3 k20
  obtain ⟨cz, rfl, hcz⟩ := cell_int Try.underlying3 k21
  obtain ⟨tv, rfl, htv⟩ := cell_int Try.underlying41 k22
  obtain ⟨seq, rfl, hseq⟩ := cell_int Try.underlying27 k23
  obtain ⟨n0, rfl, hn0⟩ := cell_int Try.underlying3 k24
  obtain ⟨n1, rfl, hn1⟩ := cell_int Try.underlying3 k25
  obtain ⟨n2, rfl, hn2⟩ := cell_int Try.underlying3 k26
  obtain ⟨out, rfl, hout⟩ := cell_int Try.underlying3 k27
  obtain ⟨old, rfl, hold⟩ := cell_int Try.underlying3 k28
  exact ⟨⟨⟨i0, i1, i2, i3, i4, pc, word, cause, tval, taken, target, hist, top, val, unit, part, last, s0, s1, s2, dst, cz, tv⟩, seq, n0, n1, n2, out, old⟩, rfl⟩
end Go.Proofs.Ytpgighhnhidpcaa.My

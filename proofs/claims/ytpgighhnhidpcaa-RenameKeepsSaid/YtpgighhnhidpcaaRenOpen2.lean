/- Slices of Uops, of renamed Uops and of acts among the arguments. -/
import Derived.Test.YtpgighhnhidpcaaRenOpen
import Derived.Test.YtpgighhnhidpcaaRenGroup
import Derived.Deep.Slices
set_option linter.unusedSimpArgs false
set_option linter.unusedVariables false
namespace Go.Proofs.Ytpgighhnhidpcaa.My
open Go.ChangeShapes Go.WideShapes Go.ChangeAt Go.RowKit
section
variable {w : World} {H : Type} {enc : TypeId × Value → H} {base : Nat} {spare : Nat → Bool} {held : Bool}
theorem fld {t : TypeId} {fs : Array Field} {fuel : Nat} {cs : List Value} {x : DataW H × List MemPlace} {m : Nat} (ht : Try.prog.underlying t = some (.struct fs)) (h : DataW.trod enc Try.prog w base spare held fuel t cs = some x) (i : Nat) (f : Field) (hf : fs[i]? = some f) (hm : Try.prog.cellsOf f.type = m) :
    ∃ n y, DataW.trod enc Try.prog w base spare held n f.type ((cs.drop f.offset).take m) = some y := by
  obtain ⟨xs, n, _, _, _, hl, hfi⟩ := DataW.trod_struct ht h
  have h2 := hfi i f hf
  have hi : i < xs.length := by rw [hl]; exact (Array.getElem?_eq_some_iff.1 hf).1
  rw [List.getElem?_eq_getElem hi, hm] at h2
  exact ⟨n, _, h2⟩
theorem itm {t e : TypeId} {k : Nat} {fuel : Nat} {cs : List Value} {x : DataW H × List MemPlace} {m : Nat} (ht : Try.prog.underlying t = some (.array k e)) (hm : Try.prog.cellsOf e = m) (h : DataW.trod enc Try.prog w base spare held fuel t cs = some x) (i : Nat) (hi : i < k) :
    ∃ n y, DataW.trod enc Try.prog w base spare held n e ((cs.drop (i * m)).take m) = some y := by
  obtain ⟨xs, n, _, _, _, hl, hfi⟩ := DataW.trod_array ht h
  have h2 := hfi i hi
  rw [List.getElem?_eq_getElem (show i < xs.length by omega), hm] at h2
  exact ⟨n, _, h2⟩
theorem wf_u64 {n : Int} (h : (Lit.int .u64 n).wf = true) : 0 ≤ n ∧ n < 18446744073709551616 := by
  simp only [Lit.wf, IntKind.min, IntKind.max, IntKind.signed, IntKind.bits, Bool.and_eq_true] at h
  simp at h
  omega
theorem split_cons {α : Type} {n : Nat} {cs : List α} (h : cs.length = n + 1) : ∃ c cs', cs = c :: cs' ∧ cs'.length = n := by
  cases cs with
  | nil => simp at h
  | cons c cs => exact ⟨c, cs, rfl, by simpa using h⟩
set_option maxRecDepth 100000 in
set_option maxHeartbeats 2000000 in
theorem uop_of {fuel : Nat} {cs : List Value} {x : DataW H × List MemPlace} (h : DataW.trod enc Try.prog w base spare held fuel 50 cs = some x) : ∃ u : UopV, cs = (uA u).toList := by
  obtain ⟨_, _, _, _, hlen, _, _⟩ := DataW.trod_struct Try.underlying50 h
  have hlen : cs.length = 23 := hlen.trans (by kernel_rfl)
  obtain ⟨c0, r0, rfl, l0⟩ := split_cons hlen
  obtain ⟨c1, r1, rfl, l1⟩ := split_cons l0
  obtain ⟨c2, r2, rfl, l2⟩ := split_cons l1
  obtain ⟨c3, r3, rfl, l3⟩ := split_cons l2
  obtain ⟨c4, r4, rfl, l4⟩ := split_cons l3
  obtain ⟨c5, r5, rfl, l5⟩ := split_cons l4
  obtain ⟨c6, r6, rfl, l6⟩ := split_cons l5
  obtain ⟨c7, r7, rfl, l7⟩ := split_cons l6
  obtain ⟨c8, r8, rfl, l8⟩ := split_cons l7
  obtain ⟨c9, r9, rfl, l9⟩ := split_cons l8
  obtain ⟨c10, r10, rfl, l10⟩ := split_cons l9
  obtain ⟨c11, r11, rfl, l11⟩ := split_cons l10
  obtain ⟨c12, r12, rfl, l12⟩ := split_cons l11
  obtain ⟨c13, r13, rfl, l13⟩ := split_cons l12
  obtain ⟨c14, r14, rfl, l14⟩ := split_cons l13
  obtain ⟨c15, r15, rfl, l15⟩ := split_cons l14
  obtain ⟨c16, r16, rfl, l16⟩ := split_cons l15
  obtain ⟨c17, r17, rfl, l17⟩ := split_cons l16
  obtain ⟨c18, r18, rfl, l18⟩ := split_cons l17
  obtain ⟨c19, r19, rfl, l19⟩ := split_cons l18
  obtain ⟨c20, r20, rfl, l20⟩ := split_cons l19
  obtain ⟨c21, r21, rfl, l21⟩ := split_cons l20
  obtain ⟨c22, r22, rfl, l22⟩ := split_cons l21
  obtain rfl := List.eq_nil_of_length_eq_zero l22
  obtain ⟨n1, y1, h1⟩ := fld (m := 5) Try.underlying50 h 0 _ rfl (by kernel_rfl)
  replace h1 : DataW.trod enc Try.prog w base spare held n1 40 [c0, c1, c2, c3, c4] = some y1 := h1
  obtain ⟨n2, y2, h2⟩ := fld (m := 1) Try.underlying40 h1 0 _ rfl (by kernel_rfl)
  replace h2 : DataW.trod enc Try.prog w base spare held n2 3 [c0] = some y2 := h2
  obtain ⟨i0, ei0, _, wi0⟩ := DataW.trod_int Try.underlying3 h2
  obtain rfl := (List.cons.inj ei0).1
  clear ei0
  obtain ⟨n3, y3, h3⟩ := fld (m := 1) Try.underlying40 h1 1 _ rfl (by kernel_rfl)
  replace h3 : DataW.trod enc Try.prog w base spare held n3 3 [c1] = some y3 := h3
  obtain ⟨i1, ei1, _, wi1⟩ := DataW.trod_int Try.underlying3 h3
  obtain rfl := (List.cons.inj ei1).1
  clear ei1
  obtain ⟨n4, y4, h4⟩ := fld (m := 1) Try.underlying40 h1 2 _ rfl (by kernel_rfl)
  replace h4 : DataW.trod enc Try.prog w base spare held n4 3 [c2] = some y4 := h4
  obtain ⟨i2, ei2, _, wi2⟩ := DataW.trod_int Try.underlying3 h4
  obtain rfl := (List.cons.inj ei2).1
  clear ei2
  obtain ⟨n5, y5, h5⟩ := fld (m := 1) Try.underlying40 h1 3 _ rfl (by kernel_rfl)
  replace h5 : DataW.trod enc Try.prog w base spare held n5 3 [c3] = some y5 := h5
  obtain ⟨i3, ei3, _, wi3⟩ := DataW.trod_int Try.underlying3 h5
  obtain rfl := (List.cons.inj ei3).1
  clear ei3
  obtain ⟨n6, y6, h6⟩ := fld (m := 1) Try.underlying40 h1 4 _ rfl (by kernel_rfl)
  replace h6 : DataW.trod enc Try.prog w base spare held n6 3 [c4] = some y6 := h6
  obtain ⟨i4, ei4, _, wi4⟩ := DataW.trod_int Try.underlying3 h6
  obtain rfl := (List.cons.inj ei4).1
  clear ei4
  obtain ⟨n7, y7, h7⟩ := fld (m := 9) Try.underlying50 h 1 _ rfl (by kernel_rfl)
  replace h7 : DataW.trod enc Try.prog w base spare held n7 47 [c5, c6, c7, c8, c9, c10, c11, c12, c13] = some y7 := h7
  obtain ⟨n8, y8, h8⟩ := fld (m := 1) Try.underlying47 h7 0 _ rfl (by kernel_rfl)
  replace h8 : DataW.trod enc Try.prog w base spare held n8 41 [c5] = some y8 := h8
  obtain ⟨pc, epc, _, wpc⟩ := DataW.trod_int Try.underlying41 h8
  obtain rfl := (List.cons.inj epc).1
  clear epc
  obtain ⟨n9, y9, h9⟩ := fld (m := 1) Try.underlying47 h7 1 _ rfl (by kernel_rfl)
  replace h9 : DataW.trod enc Try.prog w base spare held n9 41 [c6] = some y9 := h9
  obtain ⟨word, eword, _, wword⟩ := DataW.trod_int Try.underlying41 h9
  obtain rfl := (List.cons.inj eword).1
  clear eword
  obtain ⟨n10, y10, h10⟩ := fld (m := 1) Try.underlying47 h7 2 _ rfl (by kernel_rfl)
  replace h10 : DataW.trod enc Try.prog w base spare held n10 3 [c7] = some y10 := h10
  obtain ⟨cause, ecause, _, wcause⟩ := DataW.trod_int Try.underlying3 h10
  obtain rfl := (List.cons.inj ecause).1
  clear ecause
  obtain ⟨n11, y11, h11⟩ := fld (m := 1) Try.underlying47 h7 3 _ rfl (by kernel_rfl)
  replace h11 : DataW.trod enc Try.prog w base spare held n11 41 [c8] = some y11 := h11
  obtain ⟨tval, etval, _, wtval⟩ := DataW.trod_int Try.underlying41 h11
  obtain rfl := (List.cons.inj etval).1
  clear etval
  obtain ⟨n12, y12, h12⟩ := fld (m := 5) Try.underlying47 h7 4 _ rfl (by kernel_rfl)
  replace h12 : DataW.trod enc Try.prog w base spare held n12 45 [c9, c10, c11, c12, c13] = some y12 := h12
  obtain ⟨n13, y13, h13⟩ := fld (m := 1) Try.underlying45 h12 0 _ rfl (by kernel_rfl)
  replace h13 : DataW.trod enc Try.prog w base spare held n13 4 [c9] = some y13 := h13
  obtain ⟨taken, etaken, _⟩ := DataW.trod_bool Try.underlying4 h13
  obtain rfl := (List.cons.inj etaken).1
  clear etaken
  obtain ⟨n14, y14, h14⟩ := fld (m := 1) Try.underlying45 h12 1 _ rfl (by kernel_rfl)
  replace h14 : DataW.trod enc Try.prog w base spare held n14 41 [c10] = some y14 := h14
  obtain ⟨target, etarget, _, wtarget⟩ := DataW.trod_int Try.underlying41 h14
  obtain rfl := (List.cons.inj etarget).1
  clear etarget
  obtain ⟨n15, y15, h15⟩ := fld (m := 3) Try.underlying45 h12 2 _ rfl (by kernel_rfl)
  replace h15 : DataW.trod enc Try.prog w base spare held n15 43 [c11, c12, c13] = some y15 := h15
  obtain ⟨n16, y16, h16⟩ := fld (m := 1) Try.underlying43 h15 0 _ rfl (by kernel_rfl)
  replace h16 : DataW.trod enc Try.prog w base spare held n16 41 [c11] = some y16 := h16
  obtain ⟨hist, ehist, _, whist⟩ := DataW.trod_int Try.underlying41 h16
  obtain rfl := (List.cons.inj ehist).1
  clear ehist
  obtain ⟨n17, y17, h17⟩ := fld (m := 1) Try.underlying43 h15 1 _ rfl (by kernel_rfl)
  replace h17 : DataW.trod enc Try.prog w base spare held n17 3 [c12] = some y17 := h17
  obtain ⟨top, etop, _, wtop⟩ := DataW.trod_int Try.underlying3 h17
  obtain rfl := (List.cons.inj etop).1
  clear etop
  obtain ⟨n18, y18, h18⟩ := fld (m := 1) Try.underlying43 h15 2 _ rfl (by kernel_rfl)
  replace h18 : DataW.trod enc Try.prog w base spare held n18 41 [c13] = some y18 := h18
  obtain ⟨val, eval, _, wval⟩ := DataW.trod_int Try.underlying41 h18
  obtain rfl := (List.cons.inj eval).1
  clear eval
  obtain ⟨n19, y19, h19⟩ := fld (m := 1) Try.underlying50 h 2 _ rfl (by kernel_rfl)
  replace h19 : DataW.trod enc Try.prog w base spare held n19 3 [c14] = some y19 := h19
  obtain ⟨unit, eunit, _, wunit⟩ := DataW.trod_int Try.underlying3 h19
  obtain rfl := (List.cons.inj eunit).1
  clear eunit
  obtain ⟨n20, y20, h20⟩ := fld (m := 1) Try.underlying50 h 3 _ rfl (by kernel_rfl)
  replace h20 : DataW.trod enc Try.prog w base spare held n20 3 [c15] = some y20 := h20
  obtain ⟨part, epart, _, wpart⟩ := DataW.trod_int Try.underlying3 h20
  obtain rfl := (List.cons.inj epart).1
  clear epart
  obtain ⟨n21, y21, h21⟩ := fld (m := 1) Try.underlying50 h 4 _ rfl (by kernel_rfl)
  replace h21 : DataW.trod enc Try.prog w base spare held n21 4 [c16] = some y21 := h21
  obtain ⟨last, elast, _⟩ := DataW.trod_bool Try.underlying4 h21
  obtain rfl := (List.cons.inj elast).1
  clear elast
  obtain ⟨n22, y22, h22⟩ := fld (m := 3) Try.underlying50 h 5 _ rfl (by kernel_rfl)
  replace h22 : DataW.trod enc Try.prog w base spare held n22 48 [c17, c18, c19] = some y22 := h22
  obtain ⟨n24, y24, h24⟩ := itm (m := 1) Try.underlying48 (by kernel_rfl) h22 0 (by decide)
  replace h24 : DataW.trod enc Try.prog w base spare held n24 3 [c17] = some y24 := h24
  obtain ⟨s0, es0, _, ws0⟩ := DataW.trod_int Try.underlying3 h24
  obtain rfl := (List.cons.inj es0).1
  clear es0
  obtain ⟨n25, y25, h25⟩ := itm (m := 1) Try.underlying48 (by kernel_rfl) h22 1 (by decide)
  replace h25 : DataW.trod enc Try.prog w base spare held n25 3 [c18] = some y25 := h25
  obtain ⟨s1, es1, _, ws1⟩ := DataW.trod_int Try.underlying3 h25
  obtain rfl := (List.cons.inj es1).1
  clear es1
  obtain ⟨n26, y26, h26⟩ := itm (m := 1) Try.underlying48 (by kernel_rfl) h22 2 (by decide)
  replace h26 : DataW.trod enc Try.prog w base spare held n26 3 [c19] = some y26 := h26
  obtain ⟨s2, es2, _, ws2⟩ := DataW.trod_int Try.underlying3 h26
  obtain rfl := (List.cons.inj es2).1
  clear es2
  obtain ⟨n27, y27, h27⟩ := fld (m := 1) Try.underlying50 h 6 _ rfl (by kernel_rfl)
  replace h27 : DataW.trod enc Try.prog w base spare held n27 3 [c20] = some y27 := h27
  obtain ⟨dst, edst, _, wdst⟩ := DataW.trod_int Try.underlying3 h27
  obtain rfl := (List.cons.inj edst).1
  clear edst
  obtain ⟨n28, y28, h28⟩ := fld (m := 1) Try.underlying50 h 7 _ rfl (by kernel_rfl)
  replace h28 : DataW.trod enc Try.prog w base spare held n28 3 [c21] = some y28 := h28
  obtain ⟨cz, ecz, _, wcz⟩ := DataW.trod_int Try.underlying3 h28
  obtain rfl := (List.cons.inj ecz).1
  clear ecz
  obtain ⟨n29, y29, h29⟩ := fld (m := 1) Try.underlying50 h 8 _ rfl (by kernel_rfl)
  replace h29 : DataW.trod enc Try.prog w base spare held n29 41 [c22] = some y29 := h29
  obtain ⟨tv, etv, _, wtv⟩ := DataW.trod_int Try.underlying41 h29
  obtain rfl := (List.cons.inj etv).1
  clear etv
  exact ⟨⟨i0, i1, i2, i3, i4, pc, word, cause, tval, taken, target, hist, top, val, unit, part, last, s0, s1, s2, dst, cz, tv⟩, rfl⟩
set_option maxRecDepth 100000 in
set_option maxHeartbeats 2000000 in
theorem ren_of {fuel : Nat} {cs : List Value} {x : DataW H × List MemPlace} (h : DataW.trod enc Try.prog w base spare held fuel 52 cs = some x) : ∃ r : RenV, cs = (rA r).toList ∧ 0 ≤ r.seq ∧ r.seq < 18446744073709551616 := by
  obtain ⟨_, _, _, _, hlen, _, _⟩ := DataW.trod_struct Try.underlying52 h
  have hlen : cs.length = 29 := hlen.trans (by kernel_rfl)
  obtain ⟨c0, r0, rfl, l0⟩ := split_cons hlen
  obtain ⟨c1, r1, rfl, l1⟩ := split_cons l0
  obtain ⟨c2, r2, rfl, l2⟩ := split_cons l1
  obtain ⟨c3, r3, rfl, l3⟩ := split_cons l2
  obtain ⟨c4, r4, rfl, l4⟩ := split_cons l3
  obtain ⟨c5, r5, rfl, l5⟩ := split_cons l4
  obtain ⟨c6, r6, rfl, l6⟩ := split_cons l5
  obtain ⟨c7, r7, rfl, l7⟩ := split_cons l6
  obtain ⟨c8, r8, rfl, l8⟩ := split_cons l7
  obtain ⟨c9, r9, rfl, l9⟩ := split_cons l8
  obtain ⟨c10, r10, rfl, l10⟩ := split_cons l9
  obtain ⟨c11, r11, rfl, l11⟩ := split_cons l10
  obtain ⟨c12, r12, rfl, l12⟩ := split_cons l11
  obtain ⟨c13, r13, rfl, l13⟩ := split_cons l12
  obtain ⟨c14, r14, rfl, l14⟩ := split_cons l13
  obtain ⟨c15, r15, rfl, l15⟩ := split_cons l14
  obtain ⟨c16, r16, rfl, l16⟩ := split_cons l15
  obtain ⟨c17, r17, rfl, l17⟩ := split_cons l16
  obtain ⟨c18, r18, rfl, l18⟩ := split_cons l17
  obtain ⟨c19, r19, rfl, l19⟩ := split_cons l18
  obtain ⟨c20, r20, rfl, l20⟩ := split_cons l19
  obtain ⟨c21, r21, rfl, l21⟩ := split_cons l20
  obtain ⟨c22, r22, rfl, l22⟩ := split_cons l21
  obtain ⟨c23, r23, rfl, l23⟩ := split_cons l22
  obtain ⟨c24, r24, rfl, l24⟩ := split_cons l23
  obtain ⟨c25, r25, rfl, l25⟩ := split_cons l24
  obtain ⟨c26, r26, rfl, l26⟩ := split_cons l25
  obtain ⟨c27, r27, rfl, l27⟩ := split_cons l26
  obtain ⟨c28, r28, rfl, l28⟩ := split_cons l27
  obtain rfl := List.eq_nil_of_length_eq_zero l28
  obtain ⟨n1, y1, h1⟩ := fld (m := 23) Try.underlying52 h 0 _ rfl (by kernel_rfl)
  replace h1 : DataW.trod enc Try.prog w base spare held n1 50 [c0, c1, c2, c3, c4, c5, c6, c7, c8, c9, c10, c11, c12, c13, c14, c15, c16, c17, c18, c19, c20, c21, c22] = some y1 := h1
  obtain ⟨n2, y2, h2⟩ := fld (m := 5) Try.underlying50 h1 0 _ rfl (by kernel_rfl)
  replace h2 : DataW.trod enc Try.prog w base spare held n2 40 [c0, c1, c2, c3, c4] = some y2 := h2
  obtain ⟨n3, y3, h3⟩ := fld (m := 1) Try.underlying40 h2 0 _ rfl (by kernel_rfl)
  replace h3 : DataW.trod enc Try.prog w base spare held n3 3 [c0] = some y3 := h3
  obtain ⟨i0, ei0, _, wi0⟩ := DataW.trod_int Try.underlying3 h3
  obtain rfl := (List.cons.inj ei0).1
  clear ei0
  obtain ⟨n4, y4, h4⟩ := fld (m := 1) Try.underlying40 h2 1 _ rfl (by kernel_rfl)
  replace h4 : DataW.trod enc Try.prog w base spare held n4 3 [c1] = some y4 := h4
  obtain ⟨i1, ei1, _, wi1⟩ := DataW.trod_int Try.underlying3 h4
  obtain rfl := (List.cons.inj ei1).1
  clear ei1
  obtain ⟨n5, y5, h5⟩ := fld (m := 1) Try.underlying40 h2 2 _ rfl (by kernel_rfl)
  replace h5 : DataW.trod enc Try.prog w base spare held n5 3 [c2] = some y5 := h5
  obtain ⟨i2, ei2, _, wi2⟩ := DataW.trod_int Try.underlying3 h5
  obtain rfl := (List.cons.inj ei2).1
  clear ei2
  obtain ⟨n6, y6, h6⟩ := fld (m := 1) Try.underlying40 h2 3 _ rfl (by kernel_rfl)
  replace h6 : DataW.trod enc Try.prog w base spare held n6 3 [c3] = some y6 := h6
  obtain ⟨i3, ei3, _, wi3⟩ := DataW.trod_int Try.underlying3 h6
  obtain rfl := (List.cons.inj ei3).1
  clear ei3
  obtain ⟨n7, y7, h7⟩ := fld (m := 1) Try.underlying40 h2 4 _ rfl (by kernel_rfl)
  replace h7 : DataW.trod enc Try.prog w base spare held n7 3 [c4] = some y7 := h7
  obtain ⟨i4, ei4, _, wi4⟩ := DataW.trod_int Try.underlying3 h7
  obtain rfl := (List.cons.inj ei4).1
  clear ei4
  obtain ⟨n8, y8, h8⟩ := fld (m := 9) Try.underlying50 h1 1 _ rfl (by kernel_rfl)
  replace h8 : DataW.trod enc Try.prog w base spare held n8 47 [c5, c6, c7, c8, c9, c10, c11, c12, c13] = some y8 := h8
  obtain ⟨n9, y9, h9⟩ := fld (m := 1) Try.underlying47 h8 0 _ rfl (by kernel_rfl)
  replace h9 : DataW.trod enc Try.prog w base spare held n9 41 [c5] = some y9 := h9
  obtain ⟨pc, epc, _, wpc⟩ := DataW.trod_int Try.underlying41 h9
  obtain rfl := (List.cons.inj epc).1
  clear epc
  obtain ⟨n10, y10, h10⟩ := fld (m := 1) Try.underlying47 h8 1 _ rfl (by kernel_rfl)
  replace h10 : DataW.trod enc Try.prog w base spare held n10 41 [c6] = some y10 := h10
  obtain ⟨word, eword, _, wword⟩ := DataW.trod_int Try.underlying41 h10
  obtain rfl := (List.cons.inj eword).1
  clear eword
  obtain ⟨n11, y11, h11⟩ := fld (m := 1) Try.underlying47 h8 2 _ rfl (by kernel_rfl)
  replace h11 : DataW.trod enc Try.prog w base spare held n11 3 [c7] = some y11 := h11
  obtain ⟨cause, ecause, _, wcause⟩ := DataW.trod_int Try.underlying3 h11
  obtain rfl := (List.cons.inj ecause).1
  clear ecause
  obtain ⟨n12, y12, h12⟩ := fld (m := 1) Try.underlying47 h8 3 _ rfl (by kernel_rfl)
  replace h12 : DataW.trod enc Try.prog w base spare held n12 41 [c8] = some y12 := h12
  obtain ⟨tval, etval, _, wtval⟩ := DataW.trod_int Try.underlying41 h12
  obtain rfl := (List.cons.inj etval).1
  clear etval
  obtain ⟨n13, y13, h13⟩ := fld (m := 5) Try.underlying47 h8 4 _ rfl (by kernel_rfl)
  replace h13 : DataW.trod enc Try.prog w base spare held n13 45 [c9, c10, c11, c12, c13] = some y13 := h13
  obtain ⟨n14, y14, h14⟩ := fld (m := 1) Try.underlying45 h13 0 _ rfl (by kernel_rfl)
  replace h14 : DataW.trod enc Try.prog w base spare held n14 4 [c9] = some y14 := h14
  obtain ⟨taken, etaken, _⟩ := DataW.trod_bool Try.underlying4 h14
  obtain rfl := (List.cons.inj etaken).1
  clear etaken
  obtain ⟨n15, y15, h15⟩ := fld (m := 1) Try.underlying45 h13 1 _ rfl (by kernel_rfl)
  replace h15 : DataW.trod enc Try.prog w base spare held n15 41 [c10] = some y15 := h15
  obtain ⟨target, etarget, _, wtarget⟩ := DataW.trod_int Try.underlying41 h15
  obtain rfl := (List.cons.inj etarget).1
  clear etarget
  obtain ⟨n16, y16, h16⟩ := fld (m := 3) Try.underlying45 h13 2 _ rfl (by kernel_rfl)
  replace h16 : DataW.trod enc Try.prog w base spare held n16 43 [c11, c12, c13] = some y16 := h16
  obtain ⟨n17, y17, h17⟩ := fld (m := 1) Try.underlying43 h16 0 _ rfl (by kernel_rfl)
  replace h17 : DataW.trod enc Try.prog w base spare held n17 41 [c11] = some y17 := h17
  obtain ⟨hist, ehist, _, whist⟩ := DataW.trod_int Try.underlying41 h17
  obtain rfl := (List.cons.inj ehist).1
  clear ehist
  obtain ⟨n18, y18, h18⟩ := fld (m := 1) Try.underlying43 h16 1 _ rfl (by kernel_rfl)
  replace h18 : DataW.trod enc Try.prog w base spare held n18 3 [c12] = some y18 := h18
  obtain ⟨top, etop, _, wtop⟩ := DataW.trod_int Try.underlying3 h18
  obtain rfl := (List.cons.inj etop).1
  clear etop
  obtain ⟨n19, y19, h19⟩ := fld (m := 1) Try.underlying43 h16 2 _ rfl (by kernel_rfl)
  replace h19 : DataW.trod enc Try.prog w base spare held n19 41 [c13] = some y19 := h19
  obtain ⟨val, eval, _, wval⟩ := DataW.trod_int Try.underlying41 h19
  obtain rfl := (List.cons.inj eval).1
  clear eval
  obtain ⟨n20, y20, h20⟩ := fld (m := 1) Try.underlying50 h1 2 _ rfl (by kernel_rfl)
  replace h20 : DataW.trod enc Try.prog w base spare held n20 3 [c14] = some y20 := h20
  obtain ⟨unit, eunit, _, wunit⟩ := DataW.trod_int Try.underlying3 h20
  obtain rfl := (List.cons.inj eunit).1
  clear eunit
  obtain ⟨n21, y21, h21⟩ := fld (m := 1) Try.underlying50 h1 3 _ rfl (by kernel_rfl)
  replace h21 : DataW.trod enc Try.prog w base spare held n21 3 [c15] = some y21 := h21
  obtain ⟨part, epart, _, wpart⟩ := DataW.trod_int Try.underlying3 h21
  obtain rfl := (List.cons.inj epart).1
  clear epart
  obtain ⟨n22, y22, h22⟩ := fld (m := 1) Try.underlying50 h1 4 _ rfl (by kernel_rfl)
  replace h22 : DataW.trod enc Try.prog w base spare held n22 4 [c16] = some y22 := h22
  obtain ⟨last, elast, _⟩ := DataW.trod_bool Try.underlying4 h22
  obtain rfl := (List.cons.inj elast).1
  clear elast
  obtain ⟨n23, y23, h23⟩ := fld (m := 3) Try.underlying50 h1 5 _ rfl (by kernel_rfl)
  replace h23 : DataW.trod enc Try.prog w base spare held n23 48 [c17, c18, c19] = some y23 := h23
  obtain ⟨n25, y25, h25⟩ := itm (m := 1) Try.underlying48 (by kernel_rfl) h23 0 (by decide)
  replace h25 : DataW.trod enc Try.prog w base spare held n25 3 [c17] = some y25 := h25
  obtain ⟨s0, es0, _, ws0⟩ := DataW.trod_int Try.underlying3 h25
  obtain rfl := (List.cons.inj es0).1
  clear es0
  obtain ⟨n26, y26, h26⟩ := itm (m := 1) Try.underlying48 (by kernel_rfl) h23 1 (by decide)
  replace h26 : DataW.trod enc Try.prog w base spare held n26 3 [c18] = some y26 := h26
  obtain ⟨s1, es1, _, ws1⟩ := DataW.trod_int Try.underlying3 h26
  obtain rfl := (List.cons.inj es1).1
  clear es1
  obtain ⟨n27, y27, h27⟩ := itm (m := 1) Try.underlying48 (by kernel_rfl) h23 2 (by decide)
  replace h27 : DataW.trod enc Try.prog w base spare held n27 3 [c19] = some y27 := h27
  obtain ⟨s2, es2, _, ws2⟩ := DataW.trod_int Try.underlying3 h27
  obtain rfl := (List.cons.inj es2).1
  clear es2
  obtain ⟨n28, y28, h28⟩ := fld (m := 1) Try.underlying50 h1 6 _ rfl (by kernel_rfl)
  replace h28 : DataW.trod enc Try.prog w base spare held n28 3 [c20] = some y28 := h28
  obtain ⟨dst, edst, _, wdst⟩ := DataW.trod_int Try.underlying3 h28
  obtain rfl := (List.cons.inj edst).1
  clear edst
  obtain ⟨n29, y29, h29⟩ := fld (m := 1) Try.underlying50 h1 7 _ rfl (by kernel_rfl)
  replace h29 : DataW.trod enc Try.prog w base spare held n29 3 [c21] = some y29 := h29
  obtain ⟨cz, ecz, _, wcz⟩ := DataW.trod_int Try.underlying3 h29
  obtain rfl := (List.cons.inj ecz).1
  clear ecz
  obtain ⟨n30, y30, h30⟩ := fld (m := 1) Try.underlying50 h1 8 _ rfl (by kernel_rfl)
  replace h30 : DataW.trod enc Try.prog w base spare held n30 41 [c22] = some y30 := h30
  obtain ⟨tv, etv, _, wtv⟩ := DataW.trod_int Try.underlying41 h30
  obtain rfl := (List.cons.inj etv).1
  clear etv
  obtain ⟨n31, y31, h31⟩ := fld (m := 1) Try.underlying52 h 1 _ rfl (by kernel_rfl)
  replace h31 : DataW.trod enc Try.prog w base spare held n31 27 [c23] = some y31 := h31
  obtain ⟨seq, eseq, _, wseq⟩ := DataW.trod_int Try.underlying27 h31
  obtain rfl := (List.cons.inj eseq).1
  clear eseq
  obtain ⟨n32, y32, h32⟩ := fld (m := 3) Try.underlying52 h 2 _ rfl (by kernel_rfl)
  replace h32 : DataW.trod enc Try.prog w base spare held n32 48 [c24, c25, c26] = some y32 := h32
  obtain ⟨n34, y34, h34⟩ := itm (m := 1) Try.underlying48 (by kernel_rfl) h32 0 (by decide)
  replace h34 : DataW.trod enc Try.prog w base spare held n34 3 [c24] = some y34 := h34
  obtain ⟨n0, en0, _, wn0⟩ := DataW.trod_int Try.underlying3 h34
  obtain rfl := (List.cons.inj en0).1
  clear en0
  obtain ⟨n35, y35, h35⟩ := itm (m := 1) Try.underlying48 (by kernel_rfl) h32 1 (by decide)
  replace h35 : DataW.trod enc Try.prog w base spare held n35 3 [c25] = some y35 := h35
  obtain ⟨n1, en1, _, wn1⟩ := DataW.trod_int Try.underlying3 h35
  obtain rfl := (List.cons.inj en1).1
  clear en1
  obtain ⟨n36, y36, h36⟩ := itm (m := 1) Try.underlying48 (by kernel_rfl) h32 2 (by decide)
  replace h36 : DataW.trod enc Try.prog w base spare held n36 3 [c26] = some y36 := h36
  obtain ⟨n2, en2, _, wn2⟩ := DataW.trod_int Try.underlying3 h36
  obtain rfl := (List.cons.inj en2).1
  clear en2
  obtain ⟨n37, y37, h37⟩ := fld (m := 1) Try.underlying52 h 3 _ rfl (by kernel_rfl)
  replace h37 : DataW.trod enc Try.prog w base spare held n37 3 [c27] = some y37 := h37
  obtain ⟨out, eout, _, wout⟩ := DataW.trod_int Try.underlying3 h37
  obtain rfl := (List.cons.inj eout).1
  clear eout
  obtain ⟨n38, y38, h38⟩ := fld (m := 1) Try.underlying52 h 4 _ rfl (by kernel_rfl)
  replace h38 : DataW.trod enc Try.prog w base spare held n38 3 [c28] = some y38 := h38
  obtain ⟨old, eold, _, wold⟩ := DataW.trod_int Try.underlying3 h38
  obtain rfl := (List.cons.inj eold).1
  clear eold
  exact ⟨⟨⟨i0, i1, i2, i3, i4, pc, word, cause, tval, taken, target, hist, top, val, unit, part, last, s0, s1, s2, dst, cz, tv⟩, seq, n0, n1, n2, out, old⟩, rfl, wf_u64 wseq⟩
end
theorem cells_range {w : World} {base : Nat} {b off n : Nat} {cs : List Value} (h : w.cells? base ⟨b, off, none⟩ n = some cs) : cs.length = n ∧ w.rangeAt b off cs := by
  unfold World.cells? at h
  split at h
  · refine ⟨by simpa using mapM_some_length h, fun j v hv => ?_⟩
    have hj : j < cs.length := (List.getElem?_eq_some_iff.1 hv).1
    have hl : cs.length = n := by simpa using mapM_some_length h
    have h2 := mapM_some_get h j j (by simp [List.getElem?_range (show j < n by omega)])
    rw [hv, addr_add] at h2
    exact h2
  · cases h
theorem cells_spot {w : World} {base : Nat} {a : Addr} {n : Nat} {cs : List Value} (h : w.cells? base a n = some cs) (hn : 0 < n) : a.spot = none := by
  unfold World.cells? at h
  split at h
  · have hl : cs.length = n := by simpa using mapM_some_length h
    have h2 := mapM_some_get h 0 0 (by simp [List.getElem?_range hn])
    rw [List.getElem?_eq_getElem (show 0 < cs.length by omega)] at h2
    simpa [Addr.add] using World.cell?_spot h2
  · cases h
/-- A slice of structs, each of a known shape. -/
theorem open_rows {α : Type} {w : World} {H : Type} {enc : TypeId × Value → H} {base : Nat} {spare : Nat → Bool} {held : Bool} {t e : TypeId} {v : Value} {d : DataW H} {ps : List MemPlace} (k : Nat) (f : α → Array Value) (z : α) (Pa : α → Prop) (ht : Try.prog.underlying t = some (.slice e)) (hk : Try.prog.cellsOf e = k) (hk0 : 0 < k)
    (hsh : ∀ n cs x, DataW.trod enc Try.prog w base spare held n e cs = some x → ∃ u, cs = (f u).toList ∧ Pa u) (hf : ∀ u, (f u).size = k) (hv : v.cells.toList = [v]) (hd : DataW.Trod enc Try.prog w base spare held t v d ps) :
    ∃ (A : Option Addr) (c : Nat) (us : List α), v = .slice A us.length c ∧ RwA w A k us.length (us.map f) ∧ us.length ≤ maxLen ∧ ∀ u ∈ us, Pa u := by
  obtain ⟨fuel, h⟩ := hd
  rw [hv] at h
  rcases Go.Deep.open_slice ht h with ⟨hcs, _⟩ | ⟨a, len, cap, m, n, D, Pl, hcs, hb, hl, hm, hmm, _, hel⟩
  · simp only [List.cons.injEq, and_true] at hcs
    subst hcs
    exact ⟨none, 0, [], rfl, ⟨rfl, (fun r hr => by cases hr), fun h => absurd h (Nat.lt_irrefl 0)⟩, Nat.zero_le _, fun u hu => by cases hu⟩
  · simp only [List.cons.injEq, and_true] at hcs
    subst hcs
    have hlm : len ≤ m := by rw [hmm]; split <;> omega
    have hx : ∀ i, i < len → ∃ u, w.cells? base (a.add (i * k)) k = some (f u).toList ∧ Pa u := fun i hi => by
      obtain ⟨cs', h1, h2⟩ := hel i (by omega)
      obtain ⟨u, rfl, hu⟩ := hsh _ _ _ h2
      rw [hk] at h1
      exact ⟨u, h1, hu⟩
    obtain ⟨U, hU⟩ : ∃ U : Nat → α, ∀ i, i < len → w.cells? base (a.add (i * k)) k = some (f (U i)).toList ∧ Pa (U i) := by
      refine ⟨fun i => if h : i < len then Classical.choose (hx i h) else z, fun i hi => ?_⟩
      simp only [dif_pos hi]
      exact Classical.choose_spec (hx i hi)
    have hlen : ((List.range len).map U).length = len := by simp
    refine ⟨some a, cap, (List.range len).map U, by rw [hlen], ⟨by simp, (fun r hr => ?_), fun hn => ?_⟩, by rw [hlen]; omega, (fun u hu => ?_)⟩
    · obtain ⟨u, _, rfl⟩ := List.mem_map.1 hr
      exact hf u
    · rw [hlen] at hn
      obtain ⟨b, off, spot⟩ := a
      have h0 := (hU 0 hn).1
      rw [Nat.zero_mul] at h0
      have hs : spot = none := by simpa [Addr.add] using cells_spot h0 hk0
      subst hs
      refine ⟨b, off, rfl, ?_, fun j r hr => ?_⟩
      · rw [addr_add] at h0
        have h1 := (cells_range h0).2
        have hp : 0 < (f (U 0)).toList.length := by simp [hf]; exact hk0
        exact World.block_lt_of_cell? w _ (h1 0 _ (List.getElem?_eq_getElem hp))
      · have hj : j < len := by
          have := (List.getElem?_eq_some_iff.1 hr).1
          simpa using this
        have h1 := (hU j hj).1
        rw [addr_add] at h1
        have hr' : f (U j) = r := by
          rw [List.getElem?_map, List.getElem?_map, List.getElem?_range hj] at hr
          simpa using hr
        rw [← hr']
        exact (cells_range h1).2
    · obtain ⟨i, hi, rfl⟩ := List.mem_map.1 hu
      exact (hU i (by simpa using hi)).2
theorem okWide_slice {P : Program} {w : World} {r : Reach} {base : Nat} {t e : TypeId} {v : Value} (ht : P.underlying t = some (.slice e)) (h : Value.okWide P w r base t v) : v.cells.toList = [v] := by
  unfold Value.okWide at h
  rw [ht] at h
  cases v <;> simp_all [Value.cells, Cell.okWide, Cell.ok]
theorem open_uops {w : World} {H : Type} {enc : TypeId × Value → H} {r : Reach} {b0 base : Nat} {spare : Nat → Bool} {held : Bool} {v : Value} {d : DataW H} {ps : List MemPlace} (hval : Value.okWide Try.prog w r b0 30 v) (hd : DataW.Trod enc Try.prog w base spare held 30 v d ps) :
    ∃ (A : Option Addr) (c : Nat) (us : List UopV), v = .slice A us.length c ∧ RwA w A 23 us.length (us.map uA) ∧ us.length ≤ maxLen := by
  obtain ⟨A, c, us, h1, h2, h3, _⟩ := open_rows 23 uA uZ (fun _ => True) Try.underlying30 (by kernel_rfl) (by omega) (fun n cs x h => by obtain ⟨u, hu⟩ := uop_of h; exact ⟨u, hu, trivial⟩) (fun u => rfl) (okWide_slice Try.underlying30 hval) hd
  exact ⟨A, c, us, h1, h2, h3⟩
theorem open_rens {w : World} {H : Type} {enc : TypeId × Value → H} {r : Reach} {b0 base : Nat} {spare : Nat → Bool} {held : Bool} {v : Value} {d : DataW H} {ps : List MemPlace} (hval : Value.okWide Try.prog w r b0 33 v) (hd : DataW.Trod enc Try.prog w base spare held 33 v d ps) :
    ∃ (A : Option Addr) (c : Nat) (rs : List RenV), v = .slice A rs.length c ∧ RwA w A 29 rs.length (rs.map rA) ∧ rs.length ≤ maxLen ∧ ∀ r ∈ rs, 0 ≤ r.seq ∧ r.seq < 18446744073709551616 := by
  exact open_rows 29 rA rZ (fun r => 0 ≤ r.seq ∧ r.seq < 18446744073709551616) Try.underlying33 (by kernel_rfl) (by omega) (fun n cs x h => by obtain ⟨u, hu, h2⟩ := ren_of h; exact ⟨u, hu, h2⟩) (fun u => rfl) (okWide_slice Try.underlying33 hval) hd
end Go.Proofs.Ytpgighhnhidpcaa.My

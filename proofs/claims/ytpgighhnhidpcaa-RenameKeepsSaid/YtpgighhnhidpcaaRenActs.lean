/- Acts: a kind and a Uop; slices of them among the arguments. -/
import Derived.Test.YtpgighhnhidpcaaRenOpen2
import Derived.Test.YtpgighhnhidpcaaRenTail
set_option linter.unusedSimpArgs false
set_option linter.unusedVariables false
namespace Go.Proofs.Ytpgighhnhidpcaa.My
open Go.ChangeShapes Go.WideShapes Go.ChangeAt Go.RowKit
structure ActV where
  kind : Int
  u : UopV
def aA (a : ActV) : Array Value := (Value.int .u8 a.kind :: (uA a.u).toList).toArray
theorem aA_size (a : ActV) : (aA a).size = 24 := rfl
theorem aA_list (a : ActV) : (aA a).toList = Value.int .u8 a.kind :: (uA a.u).toList := rfl
theorem act_kind {w : World} {b o : Nat} {a : ActV} (h : w.rangeAt b o (aA a).toList) : w.cell? ⟨b, o, none⟩ = some (.int .u8 a.kind) := h 0 _ rfl
theorem act_uop {w : World} {b o : Nat} {a : ActV} (h : w.rangeAt b o (aA a).toList) : w.rangeAt b (o + 1) (uA a.u).toList := fun j v hv => by
  have := h (j + 1) v (by rw [aA_list, List.getElem?_cons_succ]; exact hv)
  rwa [show o + 1 + j = o + (j + 1) by omega]
theorem sizeAct (w : World) : (sizeOf 64).run Try.prog w = .ok 24 w := by kernel_rfl
section
variable {w : World} {H : Type} {enc : TypeId × Value → H} {base : Nat} {spare : Nat → Bool} {held : Bool}
theorem wf_u8' {n : Int} (h : (Lit.int .u8 n).wf = true) : 0 ≤ n := by
  simp only [Lit.wf, IntKind.min, IntKind.max, IntKind.signed, IntKind.bits, Bool.and_eq_true] at h
  simp at h
  omega
set_option maxRecDepth 100000 in
set_option maxHeartbeats 2000000 in
theorem act_of {fuel : Nat} {cs : List Value} {x : DataW H × List MemPlace} (h : DataW.trod enc Try.prog w base spare held fuel 64 cs = some x) : ∃ a : ActV, cs = (aA a).toList ∧ 0 ≤ a.kind := by
  obtain ⟨_, _, _, _, hlen, _, _⟩ := DataW.trod_struct Try.underlying64 h
  have hlen : cs.length = 24 := hlen.trans (by kernel_rfl)
  obtain ⟨c0, r0, rfl, l0⟩ := split_cons hlen
  obtain ⟨c1, r1, rfl, l1⟩ := split_cons l0
  obtain ⟨c2, r2, rfl, l2⟩ := split_cons l1
  obtain ⟨c3, r3, rfl, l3⟩ := split_cons l2
  obtain ⟨c4, r4, rfl, l4⟩ := split_cons l3
  obtain ⟨c5, r5, rfl, l5⟩ := split_cons l4
  obtain ⟨c6, r6, rfl, l6⟩ := split_cons l5
  obtain ⟨c7, r7, rfl, l7⟩ := split_cons l6
  obtain ⟨c8, r8, rfl, l8⟩ := split_cons l7
  obtain ⟨c9, r9, rfl, l9⟩ := split_cons l8
  obtain ⟨c10, r10, rfl, l10⟩ := split_cons l9
  obtain ⟨c11, r11, rfl, l11⟩ := split_cons l10
  obtain ⟨c12, r12, rfl, l12⟩ := split_cons l11
  obtain ⟨c13, r13, rfl, l13⟩ := split_cons l12
  obtain ⟨c14, r14, rfl, l14⟩ := split_cons l13
  obtain ⟨c15, r15, rfl, l15⟩ := split_cons l14
  obtain ⟨c16, r16, rfl, l16⟩ := split_cons l15
  obtain ⟨c17, r17, rfl, l17⟩ := split_cons l16
  obtain ⟨c18, r18, rfl, l18⟩ := split_cons l17
  obtain ⟨c19, r19, rfl, l19⟩ := split_cons l18
  obtain ⟨c20, r20, rfl, l20⟩ := split_cons l19
  obtain ⟨c21, r21, rfl, l21⟩ := split_cons l20
  obtain ⟨c22, r22, rfl, l22⟩ := split_cons l21
  obtain ⟨c23, r23, rfl, l23⟩ := split_cons l22
  obtain rfl := List.eq_nil_of_length_eq_zero l23
  obtain ⟨n1, y1, h1⟩ := fld (m := 1) Try.underlying64 h 0 _ rfl (by kernel_rfl)
  replace h1 : DataW.trod enc Try.prog w base spare held n1 5 [c0] = some y1 := h1
  obtain ⟨kind, ekind, _, wkind⟩ := DataW.trod_int Try.underlying5 h1
  obtain rfl := (List.cons.inj ekind).1
  clear ekind
  obtain ⟨n2, y2, h2⟩ := fld (m := 23) Try.underlying64 h 1 _ rfl (by kernel_rfl)
  replace h2 : DataW.trod enc Try.prog w base spare held n2 50 [c1, c2, c3, c4, c5, c6, c7, c8, c9, c10, c11, c12, c13, c14, c15, c16, c17, c18, c19, c20, c21, c22, c23] = some y2 := h2
  obtain ⟨n3, y3, h3⟩ := fld (m := 5) Try.underlying50 h2 0 _ rfl (by kernel_rfl)
  replace h3 : DataW.trod enc Try.prog w base spare held n3 40 [c1, c2, c3, c4, c5] = some y3 := h3
  obtain ⟨n4, y4, h4⟩ := fld (m := 1) Try.underlying40 h3 0 _ rfl (by kernel_rfl)
  replace h4 : DataW.trod enc Try.prog w base spare held n4 3 [c1] = some y4 := h4
  obtain ⟨i0, ei0, _, wi0⟩ := DataW.trod_int Try.underlying3 h4
  obtain rfl := (List.cons.inj ei0).1
  clear ei0
  obtain ⟨n5, y5, h5⟩ := fld (m := 1) Try.underlying40 h3 1 _ rfl (by kernel_rfl)
  replace h5 : DataW.trod enc Try.prog w base spare held n5 3 [c2] = some y5 := h5
  obtain ⟨i1, ei1, _, wi1⟩ := DataW.trod_int Try.underlying3 h5
  obtain rfl := (List.cons.inj ei1).1
  clear ei1
  obtain ⟨n6, y6, h6⟩ := fld (m := 1) Try.underlying40 h3 2 _ rfl (by kernel_rfl)
  replace h6 : DataW.trod enc Try.prog w base spare held n6 3 [c3] = some y6 := h6
  obtain ⟨i2, ei2, _, wi2⟩ := DataW.trod_int Try.underlying3 h6
  obtain rfl := (List.cons.inj ei2).1
  clear ei2
  obtain ⟨n7, y7, h7⟩ := fld (m := 1) Try.underlying40 h3 3 _ rfl (by kernel_rfl)
  replace h7 : DataW.trod enc Try.prog w base spare held n7 3 [c4] = some y7 := h7
  obtain ⟨i3, ei3, _, wi3⟩ := DataW.trod_int Try.underlying3 h7
  obtain rfl := (List.cons.inj ei3).1
  clear ei3
  obtain ⟨n8, y8, h8⟩ := fld (m := 1) Try.underlying40 h3 4 _ rfl (by kernel_rfl)
  replace h8 : DataW.trod enc Try.prog w base spare held n8 3 [c5] = some y8 := h8
  obtain ⟨i4, ei4, _, wi4⟩ := DataW.trod_int Try.underlying3 h8
  obtain rfl := (List.cons.inj ei4).1
  clear ei4
  obtain ⟨n9, y9, h9⟩ := fld (m := 9) Try.underlying50 h2 1 _ rfl (by kernel_rfl)
  replace h9 : DataW.trod enc Try.prog w base spare held n9 47 [c6, c7, c8, c9, c10, c11, c12, c13, c14] = some y9 := h9
  obtain ⟨n10, y10, h10⟩ := fld (m := 1) Try.underlying47 h9 0 _ rfl (by kernel_rfl)
  replace h10 : DataW.trod enc Try.prog w base spare held n10 41 [c6] = some y10 := h10
  obtain ⟨pc, epc, _, wpc⟩ := DataW.trod_int Try.underlying41 h10
  obtain rfl := (List.cons.inj epc).1
  clear epc
  obtain ⟨n11, y11, h11⟩ := fld (m := 1) Try.underlying47 h9 1 _ rfl (by kernel_rfl)
  replace h11 : DataW.trod enc Try.prog w base spare held n11 41 [c7] = some y11 := h11
  obtain ⟨word, eword, _, wword⟩ := DataW.trod_int Try.underlying41 h11
  obtain rfl := (List.cons.inj eword).1
  clear eword
  obtain ⟨n12, y12, h12⟩ := fld (m := 1) Try.underlying47 h9 2 _ rfl (by kernel_rfl)
  replace h12 : DataW.trod enc Try.prog w base spare held n12 3 [c8] = some y12 := h12
  obtain ⟨cause, ecause, _, wcause⟩ := DataW.trod_int Try.underlying3 h12
  obtain rfl := (List.cons.inj ecause).1
  clear ecause
  obtain ⟨n13, y13, h13⟩ := fld (m := 1) Try.underlying47 h9 3 _ rfl (by kernel_rfl)
  replace h13 : DataW.trod enc Try.prog w base spare held n13 41 [c9] = some y13 := h13
  obtain ⟨tval, etval, _, wtval⟩ := DataW.trod_int Try.underlying41 h13
  obtain rfl := (List.cons.inj etval).1
  clear etval
  obtain ⟨n14, y14, h14⟩ := fld (m := 5) Try.underlying47 h9 4 _ rfl (by kernel_rfl)
  replace h14 : DataW.trod enc Try.prog w base spare held n14 45 [c10, c11, c12, c13, c14] = some y14 := h14
  obtain ⟨n15, y15, h15⟩ := fld (m := 1) Try.underlying45 h14 0 _ rfl (by kernel_rfl)
  replace h15 : DataW.trod enc Try.prog w base spare held n15 4 [c10] = some y15 := h15
  obtain ⟨taken, etaken, _⟩ := DataW.trod_bool Try.underlying4 h15
  obtain rfl := (List.cons.inj etaken).1
  clear etaken
  obtain ⟨n16, y16, h16⟩ := fld (m := 1) Try.underlying45 h14 1 _ rfl (by kernel_rfl)
  replace h16 : DataW.trod enc Try.prog w base spare held n16 41 [c11] = some y16 := h16
  obtain ⟨target, etarget, _, wtarget⟩ := DataW.trod_int Try.underlying41 h16
  obtain rfl := (List.cons.inj etarget).1
  clear etarget
  obtain ⟨n17, y17, h17⟩ := fld (m := 3) Try.underlying45 h14 2 _ rfl (by kernel_rfl)
  replace h17 : DataW.trod enc Try.prog w base spare held n17 43 [c12, c13, c14] = some y17 := h17
  obtain ⟨n18, y18, h18⟩ := fld (m := 1) Try.underlying43 h17 0 _ rfl (by kernel_rfl)
  replace h18 : DataW.trod enc Try.prog w base spare held n18 41 [c12] = some y18 := h18
  obtain ⟨hist, ehist, _, whist⟩ := DataW.trod_int Try.underlying41 h18
  obtain rfl := (List.cons.inj ehist).1
  clear ehist
  obtain ⟨n19, y19, h19⟩ := fld (m := 1) Try.underlying43 h17 1 _ rfl (by kernel_rfl)
  replace h19 : DataW.trod enc Try.prog w base spare held n19 3 [c13] = some y19 := h19
  obtain ⟨top, etop, _, wtop⟩ := DataW.trod_int Try.underlying3 h19
  obtain rfl := (List.cons.inj etop).1
  clear etop
  obtain ⟨n20, y20, h20⟩ := fld (m := 1) Try.underlying43 h17 2 _ rfl (by kernel_rfl)
  replace h20 : DataW.trod enc Try.prog w base spare held n20 41 [c14] = some y20 := h20
  obtain ⟨val, eval, _, wval⟩ := DataW.trod_int Try.underlying41 h20
  obtain rfl := (List.cons.inj eval).1
  clear eval
  obtain ⟨n21, y21, h21⟩ := fld (m := 1) Try.underlying50 h2 2 _ rfl (by kernel_rfl)
  replace h21 : DataW.trod enc Try.prog w base spare held n21 3 [c15] = some y21 := h21
  obtain ⟨unit, eunit, _, wunit⟩ := DataW.trod_int Try.underlying3 h21
  obtain rfl := (List.cons.inj eunit).1
  clear eunit
  obtain ⟨n22, y22, h22⟩ := fld (m := 1) Try.underlying50 h2 3 _ rfl (by kernel_rfl)
  replace h22 : DataW.trod enc Try.prog w base spare held n22 3 [c16] = some y22 := h22
  obtain ⟨part, epart, _, wpart⟩ := DataW.trod_int Try.underlying3 h22
  obtain rfl := (List.cons.inj epart).1
  clear epart
  obtain ⟨n23, y23, h23⟩ := fld (m := 1) Try.underlying50 h2 4 _ rfl (by kernel_rfl)
  replace h23 : DataW.trod enc Try.prog w base spare held n23 4 [c17] = some y23 := h23
  obtain ⟨last, elast, _⟩ := DataW.trod_bool Try.underlying4 h23
  obtain rfl := (List.cons.inj elast).1
  clear elast
  obtain ⟨n24, y24, h24⟩ := fld (m := 3) Try.underlying50 h2 5 _ rfl (by kernel_rfl)
  replace h24 : DataW.trod enc Try.prog w base spare held n24 48 [c18, c19, c20] = some y24 := h24
  obtain ⟨n26, y26, h26⟩ := itm (m := 1) Try.underlying48 (by kernel_rfl) h24 0 (by decide)
  replace h26 : DataW.trod enc Try.prog w base spare held n26 3 [c18] = some y26 := h26
  obtain ⟨s0, es0, _, ws0⟩ := DataW.trod_int Try.underlying3 h26
  obtain rfl := (List.cons.inj es0).1
  clear es0
  obtain ⟨n27, y27, h27⟩ := itm (m := 1) Try.underlying48 (by kernel_rfl) h24 1 (by decide)
  replace h27 : DataW.trod enc Try.prog w base spare held n27 3 [c19] = some y27 := h27
  obtain ⟨s1, es1, _, ws1⟩ := DataW.trod_int Try.underlying3 h27
  obtain rfl := (List.cons.inj es1).1
  clear es1
  obtain ⟨n28, y28, h28⟩ := itm (m := 1) Try.underlying48 (by kernel_rfl) h24 2 (by decide)
  replace h28 : DataW.trod enc Try.prog w base spare held n28 3 [c20] = some y28 := h28
  obtain ⟨s2, es2, _, ws2⟩ := DataW.trod_int Try.underlying3 h28
  obtain rfl := (List.cons.inj es2).1
  clear es2
  obtain ⟨n29, y29, h29⟩ := fld (m := 1) Try.underlying50 h2 6 _ rfl (by kernel_rfl)
  replace h29 : DataW.trod enc Try.prog w base spare held n29 3 [c21] = some y29 := h29
  obtain ⟨dst, edst, _, wdst⟩ := DataW.trod_int Try.underlying3 h29
  obtain rfl := (List.cons.inj edst).1
  clear edst
  obtain ⟨n30, y30, h30⟩ := fld (m := 1) Try.underlying50 h2 7 _ rfl (by kernel_rfl)
  replace h30 : DataW.trod enc Try.prog w base spare held n30 3 [c22] = some y30 := h30
  obtain ⟨cz, ecz, _, wcz⟩ := DataW.trod_int Try.underlying3 h30
  obtain rfl := (List.cons.inj ecz).1
  clear ecz
  obtain ⟨n31, y31, h31⟩ := fld (m := 1) Try.underlying50 h2 8 _ rfl (by kernel_rfl)
  replace h31 : DataW.trod enc Try.prog w base spare held n31 41 [c23] = some y31 := h31
  obtain ⟨tv, etv, _, wtv⟩ := DataW.trod_int Try.underlying41 h31
  obtain rfl := (List.cons.inj etv).1
  clear etv
  exact ⟨⟨kind, ⟨i0, i1, i2, i3, i4, pc, word, cause, tval, taken, target, hist, top, val, unit, part, last, s0, s1, s2, dst, cz, tv⟩⟩, rfl, wf_u8' wkind⟩
end
theorem open_acts {w : World} {H : Type} {enc : TypeId × Value → H} {r : Reach} {b0 base : Nat} {spare : Nat → Bool} {held : Bool} {v : Value} {d : DataW H} {ps : List MemPlace} (hval : Value.okWide Try.prog w r b0 62 v) (hd : DataW.Trod enc Try.prog w base spare held 62 v d ps) :
    ∃ (A : Option Addr) (c : Nat) (acs : List ActV), v = .slice A acs.length c ∧ RwA w A 24 acs.length (acs.map aA) ∧ acs.length ≤ maxLen ∧ ∀ a ∈ acs, 0 ≤ a.kind :=
  open_rows 24 aA ⟨0, uZ⟩ (fun a => 0 ≤ a.kind) Try.underlying62 (by kernel_rfl) (by omega) (fun n cs x h => by obtain ⟨u, hu, h2⟩ := act_of h; exact ⟨u, hu, h2⟩) (fun u => rfl) (okWide_slice Try.underlying62 hval) hd
end Go.Proofs.Ytpgighhnhidpcaa.My

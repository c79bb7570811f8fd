/- Walk: an image as lines: the reference's. -/
import Derived.Test.YtnigkecpiolgeaaDoorRomGb
set_option linter.unusedVariables false
set_option linter.unusedSimpArgs false
namespace Go.Proofs.YtnigkecpiolgeaaDoor.My
open Go.RowKit
section
variable {P : Program} {ops : Array Oper} {o : Oper} {a : Act} {w : World} {Q : Exit → Act → World → Prop} {S : World → Prop} {rest : List Oper}
theorem catL (hw : Region.wanted o (yielded ops a.tmps) = true) (t : TypeId) (x y : Operand) (u : TypeId) (ho : o.op = .binOp .add t x y u) (l r : List UInt8) (hx : a.eval x = .string (bs l)) (hy : a.eval y = .string (bs r)) (h : l.length + r.length ≤ 9223372036854775807) (q : List UInt8) (hq : l ++ r = q)
    (hk : wpList P ops Q rest (a.put o.dst (.string (bs q))) w) : wpList P ops Q (o :: rest) a w :=
  strAdd hw t x y u ho (bs l) (bs r) (bs q) hx hy (by rw [bs_size, bs_size]; exact h) (by rw [bs_add, hq]) hk
theorem yieldsCat (hw : Region.wanted o (yielded ops a.tmps) = true) (t : TypeId) (x y : Operand) (u : TypeId) (ho : o.op = .binOp .add t x y u) (l r : List UInt8) (hx : a.eval x = .string (bs l)) (hy : a.eval y = .string (bs r)) (h : l.length + r.length ≤ 9223372036854775807) (q : List UInt8) (hq : l ++ r = q) : YieldsIf P ops S o (.string (bs q)) a :=
  .inl ⟨hw, fun w _ => by
    subst hq
    unfold execOp
    have hr := run_string_add_sum (P := P) w (bs l) (bs r) (by rw [bs_size, bs_size]; exact h)
    rw [bs_add] at hr
    simp only [ho, hx, hy, eqGuard, ite_self, Sem.run_bind, Sem.run_pure, Result.andThen_ok, binOp_string_add, hr]⟩
theorem ext_bsT (l : List UInt8) (i j : Nat) : (bs l).extract i j = bs ((l.drop i).take (j - i)) := by
  apply ByteArray.ext
  rw [ByteArray.data_extract]
  show l.toArray.extract i j = ((l.drop i).take (j - i)).toArray
  simp [List.take_drop]
theorem cutLo (hw : Region.wanted o (yielded ops a.tmps) = true) (t : TypeId) (x lo : Operand) (ho : o.op = .slice t x (some lo) none none) (ht : P.underlying t = some .string) (l : List UInt8) (hx : a.eval x = .string (bs l)) (k : IntKind) (i : Int) (hy : a.eval lo = .int k i) (j : Nat) (hi' : i = (j : Int)) (hj : j ≤ l.length) (m : List UInt8) (hm : l.drop j = m)
    (hk : wpList P ops Q rest (a.put o.dst (.string (bs m))) w) : wpList P ops Q (o :: rest) a w :=
  wpList_step fun K hK => by
    subst hm
    subst hi'
    rw [if_pos hw]
    unfold Oper.wp execOp
    have hr := run_slice_string_l (P := P) (w := w) t (bs l) ht k (j : Int) (by omega) (by rw [bs_size]; omega)
    have e : (bs l).extract j (bs l).size = bs (l.drop j) := by rw [ext_bsT, bs_size, List.take_of_length_le (by rw [List.length_drop]; exact Nat.le_refl _)]
    rw [Int.toNat_natCast, e] at hr
    simp only [ho, hx, hy, Option.map_some, Option.map_none, Sem.run_bind, Sem.run_pure, run_sliceAt_string (P := P) (w := w) t _ _ _ _ ht, hr, Result.andThen_ok]
    exact hK _ _ hk
end
theorem twoL_len (c : Nat) : (twoL c).length = 2 := rfl
theorem hex_tail {c : Nat} (h : c < 256) : (hexL c).drop 6 = twoL c := by
  show [hexD c 6, hexD c 7] = _
  unfold hexD twoL
  rw [show 16 ^ (7 - 6) = 16 from rfl, show 16 ^ (7 - 7) = 1 from rfl, Nat.div_one, Nat.mod_eq_of_lt (show c / 16 < 16 by omega)]
set_option maxRecDepth 100000 in
set_option maxHeartbeats 1000000 in
theorem rtwo_any (c : Nat) (w : World) (h : c < 256) : Calls Tryd.prog 29 #[.int .u8 c] w fun e w' => e = .returned (.string (bs (twoL c))) ∧ Below w.heap.size w w' := by
  have HB := startB w
  have h2 : c < 4294967296 := by omega
  go_enter Tryd.func29, Tryd.ntmps29
  go_wp2_with (first | (go_at_call 28; refine (rhexs_any _ _ (by first | assumption | omega)).mono ?_; rintro e w1 ⟨rfl, hb⟩; replace HB := keepB HB hb; clear hb) | (refine cutLo (by rfl) _ _ _ rfl Tryd.underlying9 (hexL c) rfl _ _ rfl 6 rfl (by rw [hexL_len]; decide) (twoL c) (hex_tail h) ?_))
  go_ret
  exact ⟨rfl, HB.out.1⟩
theorem rline_fin (word : List UInt8) (u : Nat) (d : List UInt8) (hd : ¬ d.length = 0) : word ++ [32] ++ hexL u ++ [32] ++ hexsL d ++ [32] ++ twoL (ckV u d) ++ [10] = lineV word u d := by
  unfold lineV partsL
  rw [if_neg hd]
  simp [Lib.join, List.intercalate, List.intersperse]
theorem rline_start (T : List UInt8) (u : Nat) : T ++ [115, 116, 97, 114, 116, 32] ++ hexL u ++ [32] ++ twoL (ckV u []) ++ [10] = T ++ lineV startW u [] := by
  unfold lineV partsL
  simp [Lib.join, List.intercalate, List.intersperse, startW]
set_option maxRecDepth 100000 in
set_option maxHeartbeats 1000000 in
theorem rline_any (word : List UInt8) (u c : Nat) (A : Option Addr) (d : List UInt8) (w : World) (hu : u < 4294967296) (hx : RdA .u8 w A d.length (ints d)) (hm : d.length ≤ 1000000) (hw : word.length ≤ 1000000) (hd : ¬ d.length = 0) : Calls Tryd.prog 27 #[.string (bs word), .int .u32 u, .slice A d.length c] w fun e w' => e = .returned (.string (bs (lineV word u d))) ∧ Below w.heap.size w w' := by
  have HX := Lib.hid hx
  have HB := startB w
  obtain ⟨b, off, rfl, _⟩ := hx.2 (by omega)
  clear hx
  obtain ⟨H, hH⟩ : ∃ H, word ++ [32] ++ hexL u ++ [32] = H := ⟨_, rfl⟩
  have hHl : H.length ≤ 1000010 := by rw [← hH]; simp only [List.length_append, hexL_len, List.length_cons, List.length_nil]; omega
  have HF : Hid (H ++ hexsL d ++ [32] ++ twoL (ckV u d) ++ [10] = lineV word u d) := Lib.hid (by rw [← hH]; exact rline_fin word u d hd)
  have HH := Lib.hid hH
  clear hH
  go_enter Tryd.func27, Tryd.ntmps27
  go_wp2_with (first | (go_at_call 28; refine (rhexs_any u _ hu).mono ?_; rintro e w1 ⟨rfl, hb⟩; replace HX := Lib.hid (HX.out.below hb); replace HB := keepB HB hb; clear hb) | (refine catL (by rfl) _ _ _ _ rfl _ _ rfl rfl (by simp only [List.length_append, hexL_len, hexsL_len, twoL_len, List.length_take, List.length_cons, List.length_nil]; omega) _ rfl ?_))
  go_loopw [7, 8] (fun o i wr => ∃ k : Nat, k ≤ d.length ∧ i = .int .i64 k ∧ o = .string (bs (H ++ hexsL (d.take k))) ∧ Hid (RdA .u8 wr (some ⟨b, off, none⟩) d.length (ints d)) ∧ Hid (Below w.heap.size w wr ∧ w.heap.size ≤ wr.heap.size)) (fun _ i _ => d.length - (intOf i).toNat)
  case atStart => exact ⟨0, Nat.zero_le _, by first | trivial | rfl, congrArg (fun l => Value.string (bs l)) (by rw [← HH.out]; simp [hexsL]), HX, HB⟩
  case round =>
    clear HX HB
    obtain ⟨k, hk, rfl, rfl, HX, HB⟩ := hrel
    by_cases hlt : k < d.length
    · obtain ⟨b', off', hbb, hc⟩ := HX.out.2 (by omega)
      injection hbb with hbb
      injection hbb with hb1 hb2 _
      subst hb1 hb2
      obtain ⟨x, hxk⟩ : ∃ x, d[k]? = some x := ⟨_, List.getElem?_eq_getElem hlt⟩
      have e1 := hc k hlt
      rw [el_ints hxk] at e1
      have HXK := Lib.hid hxk
      clear hc hxk
      go_wp2_with (first | (go_at_call 29; refine (rtwo_any x.toNat _ x.toNat_lt).mono ?_; rintro e w4 ⟨rfl, hb⟩; replace HX := Lib.hid (HX.out.below hb); replace HB := keepB HB hb; clear hb) | (refine catL (by rfl) _ _ _ _ rfl _ _ rfl rfl (by simp only [List.length_append, hexL_len, hexsL_len, twoL_len, List.length_take, List.length_cons, List.length_nil]; omega) _ rfl ?_))
      go_roundw
      case rel => exact ⟨k + 1, by omega, by first | trivial | go_num, congrArg (fun l => Value.string (bs l)) (by rw [← hexsL_take HXK.out]; try simp), HX, HB⟩
      case measure => simp [intOf]; omega
    · obtain rfl : k = d.length := by omega
      rw [List.take_length]
      go_wp2_with (first | (go_at_call 30; refine (rcks_any u c _ d _ hu HX.out (fun q => absurd q hd) hm).mono ?_; rintro e w3 ⟨rfl, hb⟩; replace HB := keepB HB hb; clear hb) | (go_at_call 29; refine (rtwo_any (ckV u d) _ (ckV_lt u d)).mono ?_; rintro e w4 ⟨rfl, hb⟩; replace HB := keepB HB hb; clear hb) | (refine catL (by rfl) _ _ _ _ rfl _ _ rfl rfl (by simp only [List.length_append, hexL_len, hexsL_len, twoL_len, List.length_take, List.length_cons, List.length_nil]; omega) _ rfl ?_))
      go_ret
      exact ⟨congrArg (fun l => Ending.returned (Value.string (bs l))) (by rw [← HF.out]; try simp), HB.out.1⟩
theorem rcks_nil (u : Nat) (w : World) (hu : u < 4294967296) : Calls Tryd.prog 30 #[.int .u32 u, .slice none 0 0] w fun e w' => e = .returned (.int .u8 ((ckV u [] : Nat) : Int)) ∧ Below w.heap.size w w' := rcks_any u 0 none [] w hu (nil_rd w) (fun _ => ⟨rfl, rfl⟩) (by decide)
end Go.Proofs.YtnigkecpiolgeaaDoor.My

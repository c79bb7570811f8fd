/- RomBack: what may be is read as it was, and a text that is read is that image's: for every image of at most 70 segments and 3000 bytes, and every text of at most 5000 bytes (of others the chapter's examples alone). -/
import Derived.Test.YtnigkecpiolgeaaDoorRomGe
/- Plain: a text that is read is the text of the image that it is read as. -/
set_option linter.unusedVariables false
set_option linter.unusedSimpArgs false
namespace Go.Proofs.YtnigkecpiolgeaaDoor.My
open Go.RowKit
theorem rowT_nil (n k u : Nat) : rowT n k u [] = [] := by
  cases n with
  | zero => rfl
  | succ n => rw [rowT, if_pos (show ([] : List UInt8).length = 0 from rfl)]
theorem rowT_one {n k u : Nat} {b : List UInt8} (h1 : 1 ≤ b.length) (h2 : b.length ≤ 16) (hn : b.length ≤ n) : rowT n k u b = [⟨k, u, b, ckV u b⟩] := by
  obtain ⟨m, rfl⟩ : ∃ m, n = m + 1 := ⟨n - 1, by omega⟩
  rw [rowT, if_neg (by omega), List.take_of_length_le h2, List.drop_eq_nil_of_le h2, rowT_nil]
theorem rowT_app (b : List UInt8) (h1 : 1 ≤ b.length) (h2 : b.length ≤ 16) : ∀ (n n' k u : Nat) (d : List UInt8), d.length ≤ n → d.length + b.length ≤ n' → d.length ≠ 0 → d.length % 16 = 0 →
    rowT n' k u (d ++ b) = rowT n k u d ++ [⟨2, u + d.length, b, ckV (u + d.length) b⟩]
  | 0, n', k, u, d, hn, hn', h0, hm => absurd (by omega) h0
  | n + 1, 0, k, u, d, hn, hn', h0, hm => absurd hn' (by omega)
  | n + 1, n' + 1, k, u, d, hn, hn', h0, hm => by
    have h16 : 16 ≤ d.length := by omega
    rw [rowT, if_neg (by rw [List.length_append]; omega), rowT, if_neg h0, List.take_append_of_le_length h16, List.drop_append_of_le_length h16, List.cons_append]
    congr 1
    by_cases q : (d.drop 16).length = 0
    · have e : d.drop 16 = [] := List.eq_nil_of_length_eq_zero q
      rw [List.length_drop] at q
      have hd : d.length = 16 := by omega
      rw [e, List.nil_append, rowT_nil, List.nil_append, rowT_one h1 h2 (by omega), hd]
    · rw [rowT_app b h1 h2 n n' 2 (u + 16) (d.drop 16) (by rw [List.length_drop]; omega) (by rw [List.length_drop]; omega) q (by rw [List.length_drop]; omega), List.length_drop, show u + 16 + (d.length - 16) = u + d.length by omega]
theorem rowsS_app (u : Nat) (d b : List UInt8) (h1 : 1 ≤ b.length) (h2 : b.length ≤ 16) (h0 : d.length ≠ 0) (hm : d.length % 16 = 0) : rowsS ⟨u, d ++ b⟩ = rowsS ⟨u, d⟩ ++ [⟨2, u + d.length, b, ckV (u + d.length) b⟩] :=
  rowT_app b h1 h2 d.length (d ++ b).length 1 u d (Nat.le_refl _) (by rw [List.length_append]; exact Nat.le_refl _) h0 hm
theorem rowsS_one (u : Nat) (b : List UInt8) (h1 : 1 ≤ b.length) (h2 : b.length ≤ 16) : rowsS ⟨u, b⟩ = [⟨1, u, b, ckV u b⟩] := rowT_one h1 h2 (Nat.le_refl _)
theorem right_snoc : ∀ (a : List SegV) (L : Nat) (s : SegV), rightR (a ++ [s]) L = 0 ↔ rightR a L = 0 ∧ s.d.length ≠ 0 ∧ s.at_ + s.d.length ≤ 16384 ∧ (if a = [] then L else endV a) ≤ s.at_
  | [], L, s => by
    rw [List.nil_append, rightR, rightR, if_pos rfl]
    constructor
    · intro h
      split at h
      · cases h
      · split at h
        · cases h
        · split at h
          · cases h
          · exact ⟨rfl, by omega, by omega, by omega⟩
    · rintro ⟨_, h1, h2, h3⟩
      rw [if_neg h1, if_neg (by omega), if_neg (by omega), rightR]
  | x :: r, L, s => by
    have ih := right_snoc r (x.at_ + x.d.length) s
    have e : endV (x :: r) = (if r = [] then x.at_ + x.d.length else endV r) := by
      by_cases q : r = []
      · subst q; rw [if_pos rfl]; rfl
      · rw [if_neg q]
        unfold endV
        obtain ⟨y, hy⟩ : ∃ y, r.getLast? = some y := ⟨_, List.getLast?_eq_some_getLast q⟩
        cases r with
        | nil => exact absurd rfl q
        | cons a r => rw [List.getLast?_cons_cons]
    rw [List.cons_append, rightR, rightR, if_neg (show ¬ x :: r = [] by simp), e]
    constructor
    · intro h
      split at h
      · cases h
      · split at h
        · cases h
        · split at h
          · cases h
          · rename_i q1 q2 q3
            rw [if_neg q1, if_neg q2, if_neg q3]
            exact ih.1 h
    · rintro ⟨h, h1⟩
      split at h
      · cases h
      · split at h
        · cases h
        · split at h
          · cases h
          · rename_i q1 q2 q3
            rw [if_neg q1, if_neg q2, if_neg q3]
            exact ih.2 ⟨h, h1⟩
/-- What the rows ahead have come to. -/
def InvR (pre : List RowV) (ss : List SegV) (last : RowV) : Prop :=
  pre = ss.flatMap rowsS ∧ rightR ss 0 = 0 ∧ ss.length ≤ 64 ∧ last.kind ≠ 3 ∧
  (last.kind ≠ 0 → ∃ ss0 u d, ss = ss0 ++ [⟨u, d⟩] ∧ last.at_ + last.b.length = u + d.length ∧ (last.b.length = 16 → d.length % 16 = 0))
theorem more_facts {ss : List SegV} {last x : RowV} (h : moreV ss last x = 0) : x.kind ≠ 0 ∧ last.kind ≠ 3 ∧ (x.kind = 2 → last.kind ≠ 0 ∧ last.b.length = 16 ∧ last.at_ + 16 = x.at_) ∧ ckV x.at_ x.b = x.sum ∧
    (x.kind ≠ 3 → (x.kind = 1 → ss.length ≠ 64 ∧ endV ss ≤ x.at_) ∧ x.at_ + x.b.length ≤ 16384) := by
  unfold moreV at h
  split at h
  · cases h
  · rename_i q1
    split at h
    · cases h
    · rename_i q2
      split at h
      · cases h
      · rename_i q3
        refine ⟨fun e => q1 (.inl e), fun e => q1 (.inr e), fun e => Classical.byContradiction fun n => q2 ⟨e, n⟩, Classical.byContradiction q3, fun e3 => ?_⟩
        rw [if_neg e3] at h
        split at h
        · cases h
        · rename_i q4
          split at h
          · cases h
          · rename_i q5
            split at h
            · cases h
            · rename_i q6
              exact ⟨fun e => ⟨fun n => q4 ⟨e, n⟩, Nat.le_of_not_lt fun n => q6 ⟨e, n⟩⟩, by omega⟩
theorem go_back : ∀ (rows pre : List RowV) (st : Nat) (ss : List SegV) (last : RowV) (i : Nat) (a : Nat) (b : List SegV) (n : Nat), (∀ r ∈ rows, r.kind ≠ 0 → RowOk r) → InvR pre ss last → goV rows st ss last i = (a, b, n, 0) →
    pre ++ rows = rowsI a b ∧ rightR b 0 = 0 ∧ b.length ≤ 64 ∧ a < 4294967296
  | [], pre, st, ss, last, i, a, b, n, hr, hI, h => by
    rw [goV, if_neg hI.2.2.2.1] at h
    exact absurd (congrArg (fun t => t.2.2.2) h) (show ¬ (6 : Nat) = 0 by decide)
  | x :: r, pre, st, ss, last, i, a, b, n, hr, hI, h => by
    rw [goV] at h
    split at h
    · rename_i q
      obtain ⟨f1, f2, f3, f4, f5⟩ := more_facts q
      obtain ⟨i1, i2, i3, i4, i5⟩ := hI
      have hx := hr x (by simp) f1
      obtain ⟨k, u, d, s⟩ := x
      obtain ⟨x1, x2, x3⟩ := hx
      simp only at f1 f3 f4 f5 x1 x2 x3
      subst f4
      rcases x1 with ⟨xk, d1, d2⟩ | ⟨rfl, rfl⟩
      · obtain ⟨g1, g2⟩ := f5 (by omega)
        rw [if_neg (by show ¬ k = 3; omega)] at h
        rcases xk with rfl | rfl
        · obtain ⟨g3, g4⟩ := g1 rfl
          have hp : putV ss ⟨1, u, d, ckV u d⟩ = ss ++ [⟨u, d⟩] := by unfold putV; rw [if_pos rfl]
          rw [hp] at h
          have := go_back r (pre ++ [⟨1, u, d, ckV u d⟩]) st (ss ++ [⟨u, d⟩]) ⟨1, u, d, ckV u d⟩ (i + 1) a b n (fun r h => hr r (by simp [h])) ⟨?_, ?_, ?_, ?_, ?_⟩ h
          · rwa [List.append_assoc, List.singleton_append] at this
          · rw [List.flatMap_append, ← i1, List.flatMap_cons, List.flatMap_nil, List.append_nil, rowsS_one u d d1 d2]
          · refine (right_snoc ss 0 _).2 ⟨i2, ?_, g2, ?_⟩
            · show d.length ≠ 0; omega
            · split
              · exact Nat.zero_le _
              · exact g4
          · rw [List.length_append]; show ss.length + 1 ≤ 64; omega
          · show (1 : Nat) ≠ 3; decide
          · intro _
            exact ⟨ss, u, d, rfl, rfl, fun e => by have e' : d.length = 16 := e; omega⟩
        · obtain ⟨g5, g6, g7⟩ := f3 rfl
          obtain ⟨ss0, v, c, rfl, j2, j3⟩ := i5 g5
          have j4 := j3 g6
          obtain ⟨p1, p2, p3, p4⟩ := (right_snoc ss0 0 _).1 i2
          have p2' : c.length ≠ 0 := p2
          have hu : u = v + c.length := by omega
          have hp : putV (ss0 ++ [⟨v, c⟩]) ⟨2, u, d, ckV u d⟩ = ss0 ++ [⟨v, c ++ d⟩] := by
            unfold putV
            rw [if_neg (by show ¬ (2 : Nat) = 1; decide), if_pos rfl, List.getLast?_append]
            simp
          rw [hp] at h
          have := go_back r (pre ++ [⟨2, u, d, ckV u d⟩]) st (ss0 ++ [⟨v, c ++ d⟩]) ⟨2, u, d, ckV u d⟩ (i + 1) a b n (fun r h => hr r (by simp [h])) ⟨?_, ?_, ?_, ?_, ?_⟩ h
          · rwa [List.append_assoc, List.singleton_append] at this
          · rw [i1, List.flatMap_append, List.flatMap_append, List.flatMap_cons, List.flatMap_cons, List.flatMap_nil, List.append_nil, List.append_nil, rowsS_app v c d d1 d2 p2' j4, hu, List.append_assoc]
          · refine (right_snoc ss0 0 _).2 ⟨p1, ?_, ?_, p4⟩
            · show (c ++ d).length ≠ 0; rw [List.length_append]; omega
            · show v + (c ++ d).length ≤ 16384; rw [List.length_append]; omega
          · rw [List.length_append] at i3 ⊢; exact i3
          · show (2 : Nat) ≠ 3; decide
          · intro _
            refine ⟨ss0, v, c ++ d, rfl, ?_, fun e => ?_⟩
            · show u + d.length = v + (c ++ d).length; rw [List.length_append]; omega
            · have e' : d.length = 16 := e
              rw [List.length_append]; omega
      · rw [if_pos rfl] at h
        have hp : putV ss ⟨3, u, [], ckV u []⟩ = ss := by unfold putV; rw [if_neg (by show ¬ (3 : Nat) = 1; decide), if_neg (by show ¬ (3 : Nat) = 2; decide)]
        rw [hp] at h
        cases r with
        | nil =>
          rw [goV, if_pos rfl] at h
          injection h with h1 h2
          injection h2 with h2 _
          have h1' : u = a := h1
          subst h1'; subst h2
          refine ⟨?_, i2, i3, x2⟩
          rw [i1]; rfl
        | cons y r =>
          have hb : moreV ss ⟨3, u, [], ckV u []⟩ y ≠ 0 := by
            unfold moreV
            rw [if_pos (.inr rfl)]
            decide
          rw [goV, if_neg hb] at h
          exact absurd (congrArg (fun t => t.2.2.2) h) hb
    · rename_i q
      exact absurd (congrArg (fun t => t.2.2.2) h) q
/-- A text that is read is that image's. -/
theorem text_back {l : List UInt8} {st : Nat} {ss : List SegV} {n : Nat} (h : parseV (bs l) = (st, ss, n, 0)) : rightV ss = 0 ∧ textV st ss = l ∧ st < 4294967296 := by
  rw [parseV_bs] at h
  have hz : (linesP l).2 = 0 := by
    refine Classical.byContradiction fun hq => ?_
    rw [if_neg hq] at h
    have h4 := congrArg (fun t => t.2.2.2) h
    replace h4 : (linesP l).2.toNat = 0 := h4
    have : (linesP l).2 = 0 ∨ (linesP l).2 = 2 ∨ (linesP l).2 = 4 := by
      unfold linesP
      split
      · exact .inr (.inr rfl)
      · split
        · exact .inr (.inl rfl)
        · exact .inl rfl
    omega
  rw [if_pos hz] at h
  obtain ⟨ls, hls⟩ : ∃ ls, (linesP l).1 = ls := ⟨_, rfl⟩
  rw [hls] at h
  obtain ⟨b1, b2, _, _, _⟩ := linesP_back (l := l) (ls := ls) (by rw [← hls, ← hz])
  obtain ⟨h1, h2, h3, h4⟩ := go_back (ls.map rowV) [] 0 [] rowZ 0 st ss n (by
    intro r hr hk
    obtain ⟨t, _, rfl⟩ := List.mem_map.1 hr
    exact (fmt_row hk).1) ⟨rfl, rfl, by decide, by decide, fun e => absurd rfl e⟩ h
  rw [List.nil_append] at h1
  have hrv : rightV ss = 0 := by unfold rightV; rw [if_neg (by omega)]; exact h2
  refine ⟨hrv, ?_, h4⟩
  rw [text_rows hrv, b1, ← h1, List.map_map]
  congr 1
  conv => rhs; rw [← List.map_id ls]
  apply List.map_congr_left
  intro t ht
  have hok := rowsI_ok (st := st) h2 h4 (rowV t) (by rw [← h1]; exact List.mem_map_of_mem ht)
  have hk : (rowV t).kind ≠ 0 := by
    rcases hok.1 with ⟨q, _⟩ | ⟨q, _⟩ <;> omega
  exact (fmt_row hk).2.symm
end Go.Proofs.YtnigkecpiolgeaaDoor.My
/- Walk: are two slices of bytes one; are two images one. -/
set_option linter.unusedSimpArgs false
set_option linter.unusedVariables false
namespace Go.Proofs.YtnigkecpiolgeaaDoor.My
open Go.RowKit
theorem bytesS_any (A1 A2 : Option Addr) (c1 c2 : Nat) (l1 l2 : List UInt8) (w : World) (h1 : RdA .u8 w A1 l1.length (ints l1)) (h2 : RdA .u8 w A2 l2.length (ints l2)) (hm1 : l1.length ≤ 9223372036854775807) (hm2 : l2.length ≤ 9223372036854775807) : Calls Tryd.prog 22 #[.slice A1 l1.length c1, .slice A2 l2.length c2] w fun e w' => e = .returned (.bool (decide (l1 = l2))) ∧ Below w.heap.size w w' := by
  have HX := Lib.hid h1
  have HY := Lib.hid h2
  have HB := startB w
  clear h1 h2
  obtain ⟨R, hR⟩ : ∃ R, decide (l1 = l2) = R := ⟨_, rfl⟩
  rw [hR]
  by_cases q : l1.length = l2.length
  · have HR : Hid (decide (l1.drop 0 = l2.drop 0) = R) := Lib.hid hR
    clear hR
    obtain ⟨n2, hn2⟩ : ∃ n, l2.length = n := ⟨_, rfl⟩
    have HN := Lib.hid hn2
    rw [hn2] at HY q hm2 ⊢
    clear hn2
    go_enter Tryd.func22, Tryd.ntmps22
    go_wp2
    go_loopw [5] (fun i wr => ∃ (k : Nat), k ≤ l1.length ∧ i = .int .i64 k ∧ Hid (decide (l1.drop k = l2.drop k) = R) ∧ Hid (RdA .u8 wr A1 l1.length (ints l1)) ∧ Hid (RdA .u8 wr A2 n2 (ints l2)) ∧ Hid (Below w.heap.size w wr ∧ w.heap.size ≤ wr.heap.size)) (fun i _ => l1.length - (intOf i).toNat)
    case atStart => exact ⟨0, Nat.zero_le _, rfl, HR, HX, HY, HB⟩
    case round =>
      clear HX HY HB HR
      obtain ⟨k, hk, rfl, HR, HX, HY, HB⟩ := hrel
      by_cases hlt : k < l1.length
      · have hlt2 : k < n2 := by omega
        obtain ⟨b, off, rfl, hc⟩ := HX.out.2 (by omega)
        obtain ⟨b', off', rfl, hc'⟩ := HY.out.2 (by omega)
        obtain ⟨x, hx⟩ : ∃ x, l1[k]? = some x := ⟨_, List.getElem?_eq_getElem hlt⟩
        obtain ⟨y, hy⟩ : ∃ y, l2[k]? = some y := ⟨_, List.getElem?_eq_getElem (by rw [HN.out]; exact hlt2)⟩
        have e1 := hc k hlt
        have e2 := hc' k hlt2
        rw [el_ints hx] at e1
        rw [el_ints hy] at e2
        have hr := HR.out
        rw [drop_cons hx, drop_cons hy] at hr
        clear hc hc' HR hx hy
        by_cases e : x = y
        · subst e
          have HR : Hid (decide (l1.drop (k + 1) = l2.drop (k + 1)) = R) := Lib.hid (by rw [← hr]; exact decide_eq_decide.2 ⟨fun h => by rw [h], fun h => (List.cons.inj h).2⟩)
          clear hr
          go_wp2
          go_region
          replace HX := Lib.hid (HX.out.drew 1)
          replace HY := Lib.hid (HY.out.drew 1)
          replace HB := keepB1 HB
          go_wp2
          go_roundw
          case rel => exact ⟨k + 1, by omega, by first | trivial | go_num, HR, HX, HY, HB⟩
          case measure => simp [intOf]; omega
        · have hne : ((x.toNat : Int) != (y.toNat : Int)) = true := bne_iff_ne.2 (fun h => e (UInt8.toNat_inj.1 (by omega)))
          have hr' : R = false := by rw [← hr]; exact decide_eq_false (fun h => e (List.cons.inj h).1)
          subst hr'
          clear hr
          go_wp2
          go_region
          replace HB := keepB1 HB
          go_wp2
          go_ret
          exact ⟨rfl, HB.out.1⟩
      · obtain rfl : k = l1.length := by omega
        have hr := HR.out
        have hr' : R = true := by rw [← hr]; exact decide_eq_true (by rw [List.drop_eq_nil_of_le (Nat.le_refl _), List.drop_eq_nil_of_le (by rw [HN.out]; omega)])
        subst hr'
        clear hr
        go_wp2
        go_ret
        exact ⟨rfl, HB.out.1⟩
  · have hr' : R = false := by rw [← hR]; exact decide_eq_false (fun h => q (by rw [h]))
    subst hr'
    have hne : ((l1.length : Int) != (l2.length : Int)) = true := bne_iff_ne.2 (by omega)
    clear hR
    go_enter Tryd.func22, Tryd.ntmps22
    go_wp2
    go_ret
    exact ⟨rfl, HB.out.1⟩
theorem RdSgG.drew {w : World} {A : Option Addr} {ms : List SegM} (h : RdSgG w A ms) (m : Nat) : RdSgG (w.drewN m) A ms := h
theorem cell_below {w w' : World} {a : Addr} {v : Value} (h : w.cell? a = some v) (hb : Below w.heap.size w w') : w'.cell? a = some v := (hb.cell (World.block_lt_of_cell? w _ h)).trans h
set_option maxRecDepth 100000 in
set_option maxHeartbeats 4000000 in
theorem image_any (s1 c1 s2 c2 : Nat) (S1 S2 : Option Addr) (xs ys : List SegM) (w : World) (h1 : RdSgG w S1 xs) (h2 : RdSgG w S2 ys) (hmx : xs.length ≤ 9223372036854775806) (hmy : ys.length ≤ 9223372036854775806) :
    Calls Tryd.prog 17 #[.agg (imA s1 S1 xs.length c1), .agg (imA s2 S2 ys.length c2)] w fun e w' => e = .returned (.bool (decide (s1 = s2 ∧ xs.map SegM.v = ys.map SegM.v))) ∧ Below w.heap.size w w' := by
  have HX := Lib.hid h1
  have HY := Lib.hid h2
  have HB := startB w
  clear h1 h2
  obtain ⟨R, hR⟩ : ∃ R, decide (s1 = s2 ∧ xs.map SegM.v = ys.map SegM.v) = R := ⟨_, rfl⟩
  rw [hR]
  obtain ⟨n2, hn2⟩ : ∃ n, ys.length = n := ⟨_, rfl⟩
  have HN := Lib.hid hn2
  rw [hn2] at hmy ⊢
  clear hn2
  by_cases qs : s1 = s2
  rotate_left
  · have hr' : R = false := by rw [← hR]; exact decide_eq_false (fun h => qs h.1)
    subst hr'
    have hne : ((s1 : Int) != (s2 : Int)) = true := bne_iff_ne.2 (by omega)
    clear hR
    go_enter Tryd.func17, Tryd.ntmps17
    go_wp2_with (first | (refine wlBox ?_ 25 _ rfl (imA s1 S1 xs.length c1) rfl ?_; exact rfl; intro gI w1 hg hl ha hb; replace HX := Lib.hid (HX.out.below hb); replace HY := Lib.hid (HY.out.below hb); replace HB := keepB HB hb; have HI := Lib.hid ha; have i0 : w1.cell? ⟨gI, 0, none⟩ = some (.int .u32 s1) := cellA HI 0; have i1 : w1.cell? ⟨gI, 1, none⟩ = some (.slice S1 xs.length c1) := cellA HI 1; clear ha hb hg hl) | (refine wlBox ?_ 25 _ rfl (imA s2 S2 n2 c2) rfl ?_; exact rfl; intro gJ w2 hg hl ha hb; replace HX := Lib.hid (HX.out.below hb); replace HY := Lib.hid (HY.out.below hb); replace HB := keepB HB hb; replace HI := keepA HI hb; have HJ := Lib.hid ha; have i0 : w2.cell? ⟨gI, 0, none⟩ = some (.int .u32 s1) := cellA HI 0; have i1 : w2.cell? ⟨gI, 1, none⟩ = some (.slice S1 xs.length c1) := cellA HI 1; have j0 : w2.cell? ⟨gJ, 0, none⟩ = some (.int .u32 s2) := cellA HJ 0; have j1 : w2.cell? ⟨gJ, 1, none⟩ = some (.slice S2 n2 c2) := cellA HJ 1; clear ha hb hg hl))
    go_ret
    exact ⟨rfl, HB.out.1⟩
  subst qs
  by_cases q : xs.length = n2
  rotate_left
  · have hr' : R = false := by rw [← hR]; exact decide_eq_false (fun h => q (by have := congrArg List.length h.2; rw [List.length_map, List.length_map, HN.out] at this; exact this))
    subst hr'
    have hne : ((xs.length : Int) != (n2 : Int)) = true := bne_iff_ne.2 (by omega)
    clear hR
    go_enter Tryd.func17, Tryd.ntmps17
    go_wp2_with (first | (refine wlBox ?_ 25 _ rfl (imA s1 S1 xs.length c1) rfl ?_; exact rfl; intro gI w1 hg hl ha hb; replace HX := Lib.hid (HX.out.below hb); replace HY := Lib.hid (HY.out.below hb); replace HB := keepB HB hb; have HI := Lib.hid ha; have i0 : w1.cell? ⟨gI, 0, none⟩ = some (.int .u32 s1) := cellA HI 0; have i1 : w1.cell? ⟨gI, 1, none⟩ = some (.slice S1 xs.length c1) := cellA HI 1; clear ha hb hg hl) | (refine wlBox ?_ 25 _ rfl (imA s1 S2 n2 c2) rfl ?_; exact rfl; intro gJ w2 hg hl ha hb; replace HX := Lib.hid (HX.out.below hb); replace HY := Lib.hid (HY.out.below hb); replace HB := keepB HB hb; replace HI := keepA HI hb; have HJ := Lib.hid ha; have i0 : w2.cell? ⟨gI, 0, none⟩ = some (.int .u32 s1) := cellA HI 0; have i1 : w2.cell? ⟨gI, 1, none⟩ = some (.slice S1 xs.length c1) := cellA HI 1; have j0 : w2.cell? ⟨gJ, 0, none⟩ = some (.int .u32 s1) := cellA HJ 0; have j1 : w2.cell? ⟨gJ, 1, none⟩ = some (.slice S2 n2 c2) := cellA HJ 1; clear ha hb hg hl))
    go_ret
    exact ⟨rfl, HB.out.1⟩
  subst q
  have HR : Hid (decide ((xs.drop 0).map SegM.v = (ys.drop 0).map SegM.v) = R) := Lib.hid (by rw [← hR]; exact decide_eq_decide.2 ⟨fun h => ⟨rfl, h⟩, fun h => h.2⟩)
  clear hR
  go_enter Tryd.func17, Tryd.ntmps17
  go_wp2_with (first | (refine wlBox ?_ 25 _ rfl (imA s1 S1 xs.length c1) rfl ?_; exact rfl; intro gI w1 hg hl ha hb; replace HX := Lib.hid (HX.out.below hb); replace HY := Lib.hid (HY.out.below hb); replace HB := keepB HB hb; have HI := Lib.hid ha; have i0 : w1.cell? ⟨gI, 0, none⟩ = some (.int .u32 s1) := cellA HI 0; have i1 : w1.cell? ⟨gI, 1, none⟩ = some (.slice S1 xs.length c1) := cellA HI 1; clear ha hb hg hl) | (refine wlBox ?_ 25 _ rfl (imA s1 S2 xs.length c2) rfl ?_; exact rfl; intro gJ w2 hg hl ha hb; replace HX := Lib.hid (HX.out.below hb); replace HY := Lib.hid (HY.out.below hb); replace HB := keepB HB hb; replace HI := keepA HI hb; have HJ := Lib.hid ha; have i0 : w2.cell? ⟨gI, 0, none⟩ = some (.int .u32 s1) := cellA HI 0; have i1 : w2.cell? ⟨gI, 1, none⟩ = some (.slice S1 xs.length c1) := cellA HI 1; have j0 : w2.cell? ⟨gJ, 0, none⟩ = some (.int .u32 s1) := cellA HJ 0; have j1 : w2.cell? ⟨gJ, 1, none⟩ = some (.slice S2 xs.length c2) := cellA HJ 1; clear ha hb hg hl))
  clear i0 i1 j0 j1
  go_loopw [5] (fun i wr => ∃ (k : Nat), k ≤ xs.length ∧ i = .int .i64 k ∧ Hid (decide ((xs.drop k).map SegM.v = (ys.drop k).map SegM.v) = R) ∧ Hid (RdSgG wr S1 xs) ∧ Hid (RdSgG wr S2 ys) ∧ Hid (wr.heap[gI]? = some (.cells (imA s1 S1 xs.length c1) 25 (0, 0))) ∧ Hid (wr.heap[gJ]? = some (.cells (imA s1 S2 xs.length c2) 25 (0, 0))) ∧ Hid (Below w.heap.size w wr ∧ w.heap.size ≤ wr.heap.size)) (fun i _ => xs.length - (intOf i).toNat)
  case atStart => exact ⟨0, Nat.zero_le _, by first | trivial | rfl, HR, HX, HY, HI, HJ, HB⟩
  case round =>
    clear HX HY HB HR HI HJ
    obtain ⟨k, hk, rfl, HR, HX, HY, HI, HJ, HB⟩ := hrel
    have i1 : wr.cell? ⟨gI, 1, none⟩ = some (.slice S1 xs.length c1) := cellA HI 1
    have j1 : wr.cell? ⟨gJ, 1, none⟩ = some (.slice S2 xs.length c2) := cellA HJ 1
    by_cases hlt : k < xs.length
    · have hlt2 : k < xs.length := by omega
      obtain ⟨x, hx⟩ : ∃ m, xs[k]? = some m := ⟨_, List.getElem?_eq_getElem hlt⟩
      obtain ⟨y, hy⟩ : ∃ m, ys[k]? = some m := ⟨_, List.getElem?_eq_getElem (by rw [HN.out]; exact hlt2)⟩
      obtain ⟨b1, o1, rfl, _, hc1⟩ := HX.out.1.2.2 (by omega)
      obtain ⟨b2, o2, rfl, _, hc2⟩ := HY.out.1.2.2 (by rw [HN.out]; omega)
      obtain ⟨_, mx, _, hrx⟩ := HX.out.2 x (List.mem_of_getElem? hx)
      obtain ⟨_, my, _, hry⟩ := HY.out.2 y (List.mem_of_getElem? hy)
      have HS : Hid ((fun w' => w'.cell? ⟨gI, 1, none⟩ = some (.slice (some ⟨b1, o1, none⟩) xs.length c1) ∧ w'.cell? ⟨gJ, 1, none⟩ = some (.slice (some ⟨b2, o2, none⟩) xs.length c2) ∧ w'.cell? ⟨b1, o1 + k * 2, none⟩ = some (.int .u32 x.at_) ∧ w'.cell? ⟨b1, o1 + k * 2 + 1, none⟩ = some (.slice x.D x.d.length x.c) ∧ w'.cell? ⟨b2, o2 + k * 2, none⟩ = some (.int .u32 y.at_) ∧ w'.cell? ⟨b2, o2 + k * 2 + 1, none⟩ = some (.slice y.D y.d.length y.c)) wr) := Lib.hid ⟨i1, j1, hc1 k (sA x) (sA_get hx) 0 _ rfl, hc1 k (sA x) (sA_get hx) 1 _ rfl, hc2 k (sA y) (sA_get hy) 0 _ rfl, hc2 k (sA y) (sA_get hy) 1 _ rfl⟩
      have hr := HR.out
      rw [drop_cons hx, drop_cons hy, List.map_cons, List.map_cons] at hr
      have HRX := Lib.hid (hrx.drew 1)
      have HRY := Lib.hid (hry.drew 1)
      replace mx : x.d.length ≤ 9223372036854775807 := mx
      replace my : y.d.length ≤ 9223372036854775807 := my
      have ex : x.v = y.v ↔ x.at_ = y.at_ ∧ x.d = y.d := (segV_iff x.v y.v).symm
      clear hc1 hc2 hx hy hrx hry HR
      by_cases qa : x.at_ = y.at_
      · obtain ⟨bd, hbd⟩ : ∃ b, decide (x.d = y.d) = b := ⟨_, rfl⟩
        have HBD := Lib.hid hbd
        have HRR := Lib.hid hr
        have HEX := Lib.hid ex
        clear hbd hr ex
        have hne : ((x.at_ : Int) != (y.at_ : Int)) = false := by rw [qa]; simp
        have HQA := Lib.hid qa
        clear qa
        go_wp2
        clear i1 j1
        replace HX := Lib.hid (HX.out.drew 1)
        replace HY := Lib.hid (HY.out.drew 1)
        replace HB := keepB1 HB
        replace HI := keepA1 HI
        replace HJ := keepA1 HJ
        replace HS : Hid ((fun w' => w'.cell? ⟨gI, 1, none⟩ = some (.slice (some ⟨b1, o1, none⟩) xs.length c1) ∧ w'.cell? ⟨gJ, 1, none⟩ = some (.slice (some ⟨b2, o2, none⟩) xs.length c2) ∧ w'.cell? ⟨b1, o1 + k * 2, none⟩ = some (.int .u32 x.at_) ∧ w'.cell? ⟨b1, o1 + k * 2 + 1, none⟩ = some (.slice x.D x.d.length x.c) ∧ w'.cell? ⟨b2, o2 + k * 2, none⟩ = some (.int .u32 y.at_) ∧ w'.cell? ⟨b2, o2 + k * 2 + 1, none⟩ = some (.slice y.D y.d.length y.c)) (wr.drewN 1)) := Lib.hid HS.out
        refine rgStart (S := (fun w' => w'.cell? ⟨gI, 1, none⟩ = some (.slice (some ⟨b1, o1, none⟩) xs.length c1) ∧ w'.cell? ⟨gJ, 1, none⟩ = some (.slice (some ⟨b2, o2, none⟩) xs.length c2) ∧ w'.cell? ⟨b1, o1 + k * 2, none⟩ = some (.int .u32 x.at_) ∧ w'.cell? ⟨b1, o1 + k * 2 + 1, none⟩ = some (.slice x.D x.d.length x.c) ∧ w'.cell? ⟨b2, o2 + k * 2, none⟩ = some (.int .u32 y.at_) ∧ w'.cell? ⟨b2, o2 + k * 2 + 1, none⟩ = some (.slice y.D y.d.length y.c))) (n := 29) #[false, false, false, false, false, false, false, false, false, false, false, false, false, false, false, false, false, false, false, false, false, false, false, false, false, false, false, false, false] (by kernel_rfl) rfl rfl HS.out (fun hHeld => ?_)
        refine rgTake (i := 0) (N := some 34) (oi := { dst := some 34, op := Op.fieldAddr 25 (Operand.tmp 2) 1, type := 0, pos := "same.go:303", after := #[], guard := none }) (v := ?_) #[true, false, false, false, false, false, false, false, false, false, false, false, false, false, false, false, false, false, false, false, false, false, false, false, false, false, false, false, false] rfl rfl (by kernel_rfl) (fun _ _ _ h => h) (Or.inl ⟨by rfl, ?_⟩) hHeld ?_
        rotate_left
        · intro w' hSw; (try dsimp only at hSw); (obtain ⟨k1, k2, k3, k4, k5, k6⟩ := hSw); go_simp; try with_reducible rfl
        simp only [Act.put, List.setIfInBounds_toArray, List.set_cons_zero, List.set_cons_succ]
        refine rgTake (i := 1) (N := some 35) (oi := { dst := some 35, op := Op.load 23 (Operand.tmp 34), type := 23, pos := "same.go:303", after := #[{ on := 0, ground := Ground.data }], guard := none }) (v := ?_) #[true, true, false, false, false, false, false, false, false, false, false, false, false, false, false, false, false, false, false, false, false, false, false, false, false, false, false, false, false] rfl rfl (by kernel_rfl) (fun _ _ _ h => h) (Or.inl ⟨by rfl, ?_⟩) hHeld ?_
        rotate_left
        · intro w' hSw; (try dsimp only at hSw); (obtain ⟨k1, k2, k3, k4, k5, k6⟩ := hSw); go_simp; try with_reducible rfl
        simp only [Act.put, List.setIfInBounds_toArray, List.set_cons_zero, List.set_cons_succ]
        refine rgTake (i := 2) (N := some 36) (oi := { dst := some 36, op := Op.move (Operand.tmp 5), type := 3, pos := "same.go:303", after := #[], guard := none }) (v := ?_) #[true, true, true, false, false, false, false, false, false, false, false, false, false, false, false, false, false, false, false, false, false, false, false, false, false, false, false, false, false] rfl rfl (by kernel_rfl) (fun _ _ _ h => h) (Or.inl ⟨by rfl, ?_⟩) hHeld ?_
        rotate_left
        · intro w' hSw; (try dsimp only at hSw); (obtain ⟨k1, k2, k3, k4, k5, k6⟩ := hSw); go_simp; try with_reducible rfl
        simp only [Act.put, List.setIfInBounds_toArray, List.set_cons_zero, List.set_cons_succ]
        refine rgTake (i := 3) (N := some 37) (oi := { dst := some 37, op := Op.indexAddr 23 (Operand.tmp 35) (Operand.tmp 36), type := 0, pos := "same.go:303", after := #[{ on := 1, ground := Ground.data }, { on := 2, ground := Ground.data }], guard := none }) (v := _) #[true, true, true, true, false, false, false, false, false, false, false, false, false, false, false, false, false, false, false, false, false, false, false, false, false, false, false, false, false] rfl rfl (by kernel_rfl) (fun _ _ _ h => h) (yieldsIdx (by rfl) 23 _ _ rfl 51 2 Tryd.underlying23 sizeSeg b1 o1 xs.length c1 k rfl rfl hlt) hHeld ?_
        simp only [Act.put, List.setIfInBounds_toArray, List.set_cons_zero, List.set_cons_succ]
        refine rgTake (i := 4) (N := some 38) (oi := { dst := some 38, op := Op.fieldAddr 51 (Operand.tmp 37) 0, type := 0, pos := "same.go:303", after := #[{ on := 3, ground := Ground.data }], guard := none }) (v := ?_) #[true, true, true, true, true, false, false, false, false, false, false, false, false, false, false, false, false, false, false, false, false, false, false, false, false, false, false, false, false] rfl rfl (by kernel_rfl) (fun _ _ _ h => h) (Or.inl ⟨by rfl, ?_⟩) hHeld ?_
        rotate_left
        · intro w' hSw; (try dsimp only at hSw); (obtain ⟨k1, k2, k3, k4, k5, k6⟩ := hSw); go_simp; try with_reducible rfl
        simp only [Act.put, List.setIfInBounds_toArray, List.set_cons_zero, List.set_cons_succ]
        refine rgTake (i := 5) (N := some 39) (oi := { dst := some 39, op := Op.load 22 (Operand.tmp 38), type := 22, pos := "same.go:303", after := #[{ on := 4, ground := Ground.data }], guard := none }) (v := ?_) #[true, true, true, true, true, true, false, false, false, false, false, false, false, false, false, false, false, false, false, false, false, false, false, false, false, false, false, false, false] rfl rfl (by kernel_rfl) (fun _ _ _ h => h) (Or.inl ⟨by rfl, ?_⟩) hHeld ?_
        rotate_left
        · intro w' hSw; (try dsimp only at hSw); (obtain ⟨k1, k2, k3, k4, k5, k6⟩ := hSw); go_simp; try with_reducible rfl
        simp only [Act.put, List.setIfInBounds_toArray, List.set_cons_zero, List.set_cons_succ]
        refine rgTake (i := 6) (N := some 40) (oi := { dst := some 40, op := Op.fieldAddr 25 (Operand.tmp 3) 1, type := 0, pos := "same.go:303", after := #[], guard := none }) (v := ?_) #[true, true, true, true, true, true, true, false, false, false, false, false, false, false, false, false, false, false, false, false, false, false, false, false, false, false, false, false, false] rfl rfl (by kernel_rfl) (fun _ _ _ h => h) (Or.inl ⟨by rfl, ?_⟩) hHeld ?_
        rotate_left
        · intro w' hSw; (try dsimp only at hSw); (obtain ⟨k1, k2, k3, k4, k5, k6⟩ := hSw); go_simp; try with_reducible rfl
        simp only [Act.put, List.setIfInBounds_toArray, List.set_cons_zero, List.set_cons_succ]
        refine rgTake (i := 7) (N := some 41) (oi := { dst := some 41, op := Op.load 23 (Operand.tmp 40), type := 23, pos := "same.go:303", after := #[{ on := 6, ground := Ground.data }], guard := none }) (v := ?_) #[true, true, true, true, true, true, true, true, false, false, false, false, false, false, false, false, false, false, false, false, false, false, false, false, false, false, false, false, false] rfl rfl (by kernel_rfl) (fun _ _ _ h => h) (Or.inl ⟨by rfl, ?_⟩) hHeld ?_
        rotate_left
        · intro w' hSw; (try dsimp only at hSw); (obtain ⟨k1, k2, k3, k4, k5, k6⟩ := hSw); go_simp; try with_reducible rfl
        simp only [Act.put, List.setIfInBounds_toArray, List.set_cons_zero, List.set_cons_succ]
        refine rgTake (i := 8) (N := some 42) (oi := { dst := some 42, op := Op.move (Operand.tmp 5), type := 3, pos := "same.go:303", after := #[], guard := none }) (v := ?_) #[true, true, true, true, true, true, true, true, true, false, false, false, false, false, false, false, false, false, false, false, false, false, false, false, false, false, false, false, false] rfl rfl (by kernel_rfl) (fun _ _ _ h => h) (Or.inl ⟨by rfl, ?_⟩) hHeld ?_
        rotate_left
        · intro w' hSw; (try dsimp only at hSw); (obtain ⟨k1, k2, k3, k4, k5, k6⟩ := hSw); go_simp; try with_reducible rfl
        simp only [Act.put, List.setIfInBounds_toArray, List.set_cons_zero, List.set_cons_succ]
        refine rgTake (i := 9) (N := some 43) (oi := { dst := some 43, op := Op.indexAddr 23 (Operand.tmp 41) (Operand.tmp 42), type := 0, pos := "same.go:303", after := #[{ on := 7, ground := Ground.data }, { on := 8, ground := Ground.data }], guard := none }) (v := _) #[true, true, true, true, true, true, true, true, true, true, false, false, false, false, false, false, false, false, false, false, false, false, false, false, false, false, false, false, false] rfl rfl (by kernel_rfl) (fun _ _ _ h => h) (yieldsIdx (by rfl) 23 _ _ rfl 51 2 Tryd.underlying23 sizeSeg b2 o2 xs.length c2 k rfl rfl hlt2) hHeld ?_
        simp only [Act.put, List.setIfInBounds_toArray, List.set_cons_zero, List.set_cons_succ]
        refine rgTake (i := 10) (N := some 44) (oi := { dst := some 44, op := Op.fieldAddr 51 (Operand.tmp 43) 0, type := 0, pos := "same.go:303", after := #[{ on := 9, ground := Ground.data }], guard := none }) (v := ?_) #[true, true, true, true, true, true, true, true, true, true, true, false, false, false, false, false, false, false, false, false, false, false, false, false, false, false, false, false, false] rfl rfl (by kernel_rfl) (fun _ _ _ h => h) (Or.inl ⟨by rfl, ?_⟩) hHeld ?_
        rotate_left
        · intro w' hSw; (try dsimp only at hSw); (obtain ⟨k1, k2, k3, k4, k5, k6⟩ := hSw); go_simp; try with_reducible rfl
        simp only [Act.put, List.setIfInBounds_toArray, List.set_cons_zero, List.set_cons_succ]
        refine rgTake (i := 11) (N := some 45) (oi := { dst := some 45, op := Op.load 22 (Operand.tmp 44), type := 22, pos := "same.go:303", after := #[{ on := 10, ground := Ground.data }], guard := none }) (v := ?_) #[true, true, true, true, true, true, true, true, true, true, true, true, false, false, false, false, false, false, false, false, false, false, false, false, false, false, false, false, false] rfl rfl (by kernel_rfl) (fun _ _ _ h => h) (Or.inl ⟨by rfl, ?_⟩) hHeld ?_
        rotate_left
        · intro w' hSw; (try dsimp only at hSw); (obtain ⟨k1, k2, k3, k4, k5, k6⟩ := hSw); go_simp; try with_reducible rfl
        simp only [Act.put, List.setIfInBounds_toArray, List.set_cons_zero, List.set_cons_succ]
        refine rgTake (i := 12) (N := some 46) (oi := { dst := some 46, op := Op.binOp BinOp.neq 22 (Operand.tmp 39) (Operand.tmp 45) 22, type := 4, pos := "same.go:303", after := #[{ on := 5, ground := Ground.data }, { on := 11, ground := Ground.data }], guard := none }) (v := ?_) #[true, true, true, true, true, true, true, true, true, true, true, true, true, false, false, false, false, false, false, false, false, false, false, false, false, false, false, false, false] rfl rfl (by kernel_rfl) (fun _ _ _ h => h) (Or.inl ⟨by rfl, ?_⟩) hHeld ?_
        rotate_left
        · intro w' hSw; (try dsimp only at hSw); (obtain ⟨k1, k2, k3, k4, k5, k6⟩ := hSw); go_simp; try with_reducible rfl
        simp only [Act.put, List.setIfInBounds_toArray, List.set_cons_zero, List.set_cons_succ]
        refine rgTake (i := 13) (N := some 47) (oi := { dst := some 47, op := Op.move (Operand.tmp 46), type := 4, pos := "same.go:303", after := #[{ on := 12, ground := Ground.data }], guard := none }) (v := ?_) #[true, true, true, true, true, true, true, true, true, true, true, true, true, true, false, false, false, false, false, false, false, false, false, false, false, false, false, false, false] rfl rfl (by kernel_rfl) (fun _ _ _ h => h) (Or.inl ⟨by rfl, ?_⟩) hHeld ?_
        rotate_left
        · intro w' hSw; (try dsimp only at hSw); (obtain ⟨k1, k2, k3, k4, k5, k6⟩ := hSw); go_simp; try with_reducible rfl
        simp only [Act.put, List.setIfInBounds_toArray, List.set_cons_zero, List.set_cons_succ]
        refine rgTake (i := 14) (N := some 48) (oi := { dst := some 48, op := Op.fieldAddr 25 (Operand.tmp 2) 1, type := 0, pos := "same.go:303", after := #[{ on := 13, ground := Ground.guard }], guard := some (13, false) }) (v := ?_) #[true, true, true, true, true, true, true, true, true, true, true, true, true, true, true, false, false, false, false, false, false, false, false, false, false, false, false, false, false] rfl rfl (by kernel_rfl) (fun _ _ _ h => h) (Or.inl ⟨by rfl, ?_⟩) hHeld ?_
        rotate_left
        · intro w' hSw; (try dsimp only at hSw); (obtain ⟨k1, k2, k3, k4, k5, k6⟩ := hSw); go_simp; try with_reducible rfl
        simp only [Act.put, List.setIfInBounds_toArray, List.set_cons_zero, List.set_cons_succ]
        refine rgTake (i := 15) (N := some 49) (oi := { dst := some 49, op := Op.load 23 (Operand.tmp 48), type := 23, pos := "same.go:303", after := #[{ on := 14, ground := Ground.data }, { on := 13, ground := Ground.guard }], guard := some (13, false) }) (v := ?_) #[true, true, true, true, true, true, true, true, true, true, true, true, true, true, true, true, false, false, false, false, false, false, false, false, false, false, false, false, false] rfl rfl (by kernel_rfl) (fun _ _ _ h => h) (Or.inl ⟨by rfl, ?_⟩) hHeld ?_
        rotate_left
        · intro w' hSw; (try dsimp only at hSw); (obtain ⟨k1, k2, k3, k4, k5, k6⟩ := hSw); go_simp; try with_reducible rfl
        simp only [Act.put, List.setIfInBounds_toArray, List.set_cons_zero, List.set_cons_succ]
        refine rgTake (i := 16) (N := some 50) (oi := { dst := some 50, op := Op.move (Operand.tmp 5), type := 3, pos := "same.go:303", after := #[{ on := 13, ground := Ground.guard }], guard := some (13, false) }) (v := ?_) #[true, true, true, true, true, true, true, true, true, true, true, true, true, true, true, true, true, false, false, false, false, false, false, false, false, false, false, false, false] rfl rfl (by kernel_rfl) (fun _ _ _ h => h) (Or.inl ⟨by rfl, ?_⟩) hHeld ?_
        rotate_left
        · intro w' hSw; (try dsimp only at hSw); (obtain ⟨k1, k2, k3, k4, k5, k6⟩ := hSw); go_simp; try with_reducible rfl
        simp only [Act.put, List.setIfInBounds_toArray, List.set_cons_zero, List.set_cons_succ]
        refine rgTake (i := 17) (N := some 51) (oi := { dst := some 51, op := Op.indexAddr 23 (Operand.tmp 49) (Operand.tmp 50), type := 0, pos := "same.go:303", after := #[{ on := 15, ground := Ground.data }, { on := 16, ground := Ground.data }, { on := 13, ground := Ground.guard }], guard := some (13, false) }) (v := _) #[true, true, true, true, true, true, true, true, true, true, true, true, true, true, true, true, true, true, false, false, false, false, false, false, false, false, false, false, false] rfl rfl (by kernel_rfl) (fun _ _ _ h => h) (yieldsIdx (by rfl) 23 _ _ rfl 51 2 Tryd.underlying23 sizeSeg b1 o1 xs.length c1 k rfl rfl hlt) hHeld ?_
        simp only [Act.put, List.setIfInBounds_toArray, List.set_cons_zero, List.set_cons_succ]
        refine rgTake (i := 18) (N := some 52) (oi := { dst := some 52, op := Op.fieldAddr 51 (Operand.tmp 51) 1, type := 0, pos := "same.go:303", after := #[{ on := 17, ground := Ground.data }, { on := 13, ground := Ground.guard }], guard := some (13, false) }) (v := ?_) #[true, true, true, true, true, true, true, true, true, true, true, true, true, true, true, true, true, true, true, false, false, false, false, false, false, false, false, false, false] rfl rfl (by kernel_rfl) (fun _ _ _ h => h) (Or.inl ⟨by rfl, ?_⟩) hHeld ?_
        rotate_left
        · intro w' hSw; (try dsimp only at hSw); (obtain ⟨k1, k2, k3, k4, k5, k6⟩ := hSw); go_simp; try with_reducible rfl
        simp only [Act.put, List.setIfInBounds_toArray, List.set_cons_zero, List.set_cons_succ]
        refine rgTake (i := 19) (N := some 53) (oi := { dst := some 53, op := Op.load 26 (Operand.tmp 52), type := 26, pos := "same.go:303", after := #[{ on := 18, ground := Ground.data }, { on := 13, ground := Ground.guard }], guard := some (13, false) }) (v := ?_) #[true, true, true, true, true, true, true, true, true, true, true, true, true, true, true, true, true, true, true, true, false, false, false, false, false, false, false, false, false] rfl rfl (by kernel_rfl) (fun _ _ _ h => h) (Or.inl ⟨by rfl, ?_⟩) hHeld ?_
        rotate_left
        · intro w' hSw; (try dsimp only at hSw); (obtain ⟨k1, k2, k3, k4, k5, k6⟩ := hSw); go_simp; try with_reducible rfl
        simp only [Act.put, List.setIfInBounds_toArray, List.set_cons_zero, List.set_cons_succ]
        refine rgTake (i := 20) (N := some 54) (oi := { dst := some 54, op := Op.fieldAddr 25 (Operand.tmp 3) 1, type := 0, pos := "same.go:303", after := #[{ on := 13, ground := Ground.guard }], guard := some (13, false) }) (v := ?_) #[true, true, true, true, true, true, true, true, true, true, true, true, true, true, true, true, true, true, true, true, true, false, false, false, false, false, false, false, false] rfl rfl (by kernel_rfl) (fun _ _ _ h => h) (Or.inl ⟨by rfl, ?_⟩) hHeld ?_
        rotate_left
        · intro w' hSw; (try dsimp only at hSw); (obtain ⟨k1, k2, k3, k4, k5, k6⟩ := hSw); go_simp; try with_reducible rfl
        simp only [Act.put, List.setIfInBounds_toArray, List.set_cons_zero, List.set_cons_succ]
        refine rgTake (i := 21) (N := some 55) (oi := { dst := some 55, op := Op.load 23 (Operand.tmp 54), type := 23, pos := "same.go:303", after := #[{ on := 20, ground := Ground.data }, { on := 13, ground := Ground.guard }], guard := some (13, false) }) (v := ?_) #[true, true, true, true, true, true, true, true, true, true, true, true, true, true, true, true, true, true, true, true, true, true, false, false, false, false, false, false, false] rfl rfl (by kernel_rfl) (fun _ _ _ h => h) (Or.inl ⟨by rfl, ?_⟩) hHeld ?_
        rotate_left
        · intro w' hSw; (try dsimp only at hSw); (obtain ⟨k1, k2, k3, k4, k5, k6⟩ := hSw); go_simp; try with_reducible rfl
        simp only [Act.put, List.setIfInBounds_toArray, List.set_cons_zero, List.set_cons_succ]
        refine rgTake (i := 22) (N := some 56) (oi := { dst := some 56, op := Op.move (Operand.tmp 5), type := 3, pos := "same.go:303", after := #[{ on := 13, ground := Ground.guard }], guard := some (13, false) }) (v := ?_) #[true, true, true, true, true, true, true, true, true, true, true, true, true, true, true, true, true, true, true, true, true, true, true, false, false, false, false, false, false] rfl rfl (by kernel_rfl) (fun _ _ _ h => h) (Or.inl ⟨by rfl, ?_⟩) hHeld ?_
        rotate_left
        · intro w' hSw; (try dsimp only at hSw); (obtain ⟨k1, k2, k3, k4, k5, k6⟩ := hSw); go_simp; try with_reducible rfl
        simp only [Act.put, List.setIfInBounds_toArray, List.set_cons_zero, List.set_cons_succ]
        refine rgTake (i := 23) (N := some 57) (oi := { dst := some 57, op := Op.indexAddr 23 (Operand.tmp 55) (Operand.tmp 56), type := 0, pos := "same.go:303", after := #[{ on := 21, ground := Ground.data }, { on := 22, ground := Ground.data }, { on := 13, ground := Ground.guard }], guard := some (13, false) }) (v := _) #[true, true, true, true, true, true, true, true, true, true, true, true, true, true, true, true, true, true, true, true, true, true, true, true, false, false, false, false, false] rfl rfl (by kernel_rfl) (fun _ _ _ h => h) (yieldsIdx (by rfl) 23 _ _ rfl 51 2 Tryd.underlying23 sizeSeg b2 o2 xs.length c2 k rfl rfl hlt2) hHeld ?_
        simp only [Act.put, List.setIfInBounds_toArray, List.set_cons_zero, List.set_cons_succ]
        refine rgTake (i := 24) (N := some 58) (oi := { dst := some 58, op := Op.fieldAddr 51 (Operand.tmp 57) 1, type := 0, pos := "same.go:303", after := #[{ on := 23, ground := Ground.data }, { on := 13, ground := Ground.guard }], guard := some (13, false) }) (v := ?_) #[true, true, true, true, true, true, true, true, true, true, true, true, true, true, true, true, true, true, true, true, true, true, true, true, true, false, false, false, false] rfl rfl (by kernel_rfl) (fun _ _ _ h => h) (Or.inl ⟨by rfl, ?_⟩) hHeld ?_
        rotate_left
        · intro w' hSw; (try dsimp only at hSw); (obtain ⟨k1, k2, k3, k4, k5, k6⟩ := hSw); go_simp; try with_reducible rfl
        simp only [Act.put, List.setIfInBounds_toArray, List.set_cons_zero, List.set_cons_succ]
        refine rgTake (i := 25) (N := some 59) (oi := { dst := some 59, op := Op.load 26 (Operand.tmp 58), type := 26, pos := "same.go:303", after := #[{ on := 24, ground := Ground.data }, { on := 13, ground := Ground.guard }], guard := some (13, false) }) (v := ?_) #[true, true, true, true, true, true, true, true, true, true, true, true, true, true, true, true, true, true, true, true, true, true, true, true, true, true, false, false, false] rfl rfl (by kernel_rfl) (fun _ _ _ h => h) (Or.inl ⟨by rfl, ?_⟩) hHeld ?_
        rotate_left
        · intro w' hSw; (try dsimp only at hSw); (obtain ⟨k1, k2, k3, k4, k5, k6⟩ := hSw); go_simp; try with_reducible rfl
        simp only [Act.put, List.setIfInBounds_toArray, List.set_cons_zero, List.set_cons_succ]
        refine rgCall (i := 26) (N := some 60) (oi := { dst := some 60, op := Op.call { callee := Callee.value (Operand.func 22), args := #[Operand.tmp 53, Operand.tmp 59], argTypes := #[26, 26] }, type := 4, pos := "same.go:303", after := #[{ on := 19, ground := Ground.data }, { on := 25, ground := Ground.data }, { on := 13, ground := Ground.chain }, { on := 13, ground := Ground.guard }], guard := some (13, false) }) #[true, true, true, true, true, true, true, true, true, true, true, true, true, true, true, true, true, true, true, true, true, true, true, true, true, true, true, false, false] rfl rfl (by kernel_rfl) (fun K hK => ?_)
        go_simp
        (go_at_call 22; refine (bytesS_any x.D y.D x.c y.c x.d y.d _ HRX.out HRY.out mx my).mono ?_; rw [HBD.out]; rintro e w3 ⟨rfl, hb⟩; replace HX := Lib.hid (HX.out.below hb); replace HY := Lib.hid (HY.out.below hb); replace HB := keepB HB hb; replace HI := keepA HI hb; replace HJ := keepA HJ hb; replace HS : Hid ((fun w' => w'.cell? ⟨gI, 1, none⟩ = some (.slice (some ⟨b1, o1, none⟩) xs.length c1) ∧ w'.cell? ⟨gJ, 1, none⟩ = some (.slice (some ⟨b2, o2, none⟩) xs.length c2) ∧ w'.cell? ⟨b1, o1 + k * 2, none⟩ = some (.int .u32 x.at_) ∧ w'.cell? ⟨b1, o1 + k * 2 + 1, none⟩ = some (.slice x.D x.d.length x.c) ∧ w'.cell? ⟨b2, o2 + k * 2, none⟩ = some (.int .u32 y.at_) ∧ w'.cell? ⟨b2, o2 + k * 2 + 1, none⟩ = some (.slice y.D y.d.length y.c)) w3) := Lib.hid ⟨cell_below HS.out.1 hb, cell_below HS.out.2.1 hb, cell_below HS.out.2.2.1 hb, cell_below HS.out.2.2.2.1 hb, cell_below HS.out.2.2.2.2.1 hb, cell_below HS.out.2.2.2.2.2 hb⟩; clear hb HRX HRY)
        refine hK.out _ _ HS.out (fun hHeld => ?_)
        (try simp only [Act.put, List.setIfInBounds_toArray, List.set_cons_zero, List.set_cons_succ])
        clear hK K
        refine rgTake (i := 27) (N := some 61) (oi := { dst := some 61, op := Op.unOp UnOp.not 4 (Operand.tmp 60), type := 4, pos := "same.go:303", after := #[{ on := 26, ground := Ground.data }, { on := 13, ground := Ground.guard }], guard := some (13, false) }) (v := ?_) #[true, true, true, true, true, true, true, true, true, true, true, true, true, true, true, true, true, true, true, true, true, true, true, true, true, true, true, true, false] rfl rfl (by kernel_rfl) (fun _ _ _ h => h) (Or.inl ⟨by rfl, ?_⟩) hHeld ?_
        rotate_left
        · intro w' hSw; (try dsimp only at hSw); (obtain ⟨k1, k2, k3, k4, k5, k6⟩ := hSw); go_simp; try with_reducible rfl
        simp only [Act.put, List.setIfInBounds_toArray, List.set_cons_zero, List.set_cons_succ]
        refine rgTake (i := 28) (N := some 62) (oi := { dst := some 62, op := Op.pick (Operand.tmp 47) (Operand.const (Value.bool true)) (Operand.tmp 61), type := 4, pos := "same.go:303", after := #[{ on := 13, ground := Ground.data }, { on := 27, ground := Ground.data }], guard := none }) (v := ?_) #[true, true, true, true, true, true, true, true, true, true, true, true, true, true, true, true, true, true, true, true, true, true, true, true, true, true, true, true, true] rfl rfl (by kernel_rfl) (fun _ _ _ h => h) (Or.inl ⟨by rfl, ?_⟩) hHeld ?_
        rotate_left
        · intro w' hSw; (try dsimp only at hSw); (obtain ⟨k1, k2, k3, k4, k5, k6⟩ := hSw); go_simp; try with_reducible rfl
        simp only [Act.put, List.setIfInBounds_toArray, List.set_cons_zero, List.set_cons_succ]
        refine rgDone (by kernel_rfl) ?_ _
        cases bd with
        | true =>
          have HR : Hid (decide ((xs.drop (k + 1)).map SegM.v = (ys.drop (k + 1)).map SegM.v) = R) := Lib.hid (by rw [← HRR.out]; exact decide_eq_decide.2 ⟨fun h => by rw [HEX.out.2 ⟨HQA.out, of_decide_eq_true HBD.out⟩, h], fun h => (List.cons.inj h).2⟩)
          clear HRR HEX HQA HBD
          go_wp2
          go_roundw
          case rel => exact ⟨k + 1, by omega, by first | trivial | go_num, HR, HX, HY, HI, HJ, HB⟩
          case measure => simp [intOf]; omega
        | false =>
          have hr' : R = false := by rw [← HRR.out]; exact decide_eq_false (fun h => absurd ((HEX.out.1 (List.cons.inj h).1).2) (of_decide_eq_false HBD.out))
          subst hr'
          go_wp2
          go_ret
          exact ⟨rfl, HB.out.1⟩
      · have hr' : R = false := by rw [← hr]; exact decide_eq_false (fun h => qa (ex.1 (List.cons.inj h).1).1)
        subst hr'
        have hne : ((x.at_ : Int) != (y.at_ : Int)) = true := bne_iff_ne.2 (by omega)
        obtain ⟨_, _, k3, k4, k5, k6⟩ := HS.out
        clear hr ex HS
        go_wp2
        go_region
        replace HB := keepB1 HB
        go_wp2
        go_ret
        exact ⟨rfl, HB.out.1⟩
    · obtain rfl : k = xs.length := by omega
      have hr := HR.out
      have hr' : R = true := by rw [← hr]; exact decide_eq_true (by rw [List.drop_eq_nil_of_le (Nat.le_refl _), List.drop_eq_nil_of_le (by rw [HN.out]; omega)])
      subst hr'
      clear hr HR
      go_wp2
      go_ret
      exact ⟨rfl, HB.out.1⟩
end Go.Proofs.YtnigkecpiolgeaaDoor.My
/- The theorem of images, walked. -/
set_option linter.unusedVariables false
set_option linter.unusedSimpArgs false
namespace Go.Proofs.YtnigkecpiolgeaaDoor.My
open Go.RowKit
theorem light_small2 : ∀ (ss : List SegV) (n : Nat), lightR n ss = true → (∀ s ∈ ss, s.d.length ≤ 600) ∧ n + totD ss ≤ 3000
  | [], n, h => ⟨(fun s hs => by cases hs), by unfold lightR at h; have := of_decide_eq_true h; show n + 0 ≤ 3000; omega⟩
  | s :: r, n, h => by
    rw [lightR] at h
    split at h
    · cases h
    · obtain ⟨h1, h2⟩ := light_small2 r _ h
      refine ⟨fun t ht => ?_, ?_⟩
      · rcases List.mem_cons.1 ht with rfl | ht
        · omega
        · exact h1 t ht
      · unfold totD at h2 ⊢
        rw [List.map_cons, List.sum_cons]
        omega
theorem light_ok2 {ss : List SegV} (h : lightB ss = true) : ss.length ≤ 70 ∧ (∀ s ∈ ss, s.d.length ≤ 600) ∧ totD ss ≤ 3000 := by
  unfold lightB at h
  split at h
  · cases h
  · obtain ⟨h1, h2⟩ := light_small2 ss 0 h
    exact ⟨by omega, h1, by omega⟩
theorem SegsAt.rd2 {w : World} {B : Nat} {S : Option Addr} {c : Nat} {ms : List SegM} (h : SegsAt w B (.slice S ms.length c) ms) : RdSg w S ms := by
  obtain ⟨A, c', e, hr⟩ := h.rd
  injection e with e1 _ _
  subst e1
  exact hr
set_option maxRecDepth 100000 in
set_option maxHeartbeats 4000000 in
theorem back_out (st c : Nat) (S : Option Addr) (ms : List SegM) (l : List UInt8) (m : Int) (w : World) (hM : w.cell? ⟨0, 0, none⟩ = some (.int .i64 m)) (hx : RdSgG w S ms) (hmx : ms.length ≤ 9223372036854775807) (hmc : ms.length ≤ c)
    (h : lightB (ms.map SegM.v) = false ∨ 5000 < l.length) : Calls Tryd.prog 5 #[.agg (imA st S ms.length c), .string (bs l)] w fun e w' => e = .returned (.bool true) ∧ Below w.heap.size w w' := by
  have HB := startB w
  have HM := Lib.hid hM
  have HX := Lib.hid hx
  have hz : (bs l).size = l.length := bs_size l
  clear hM hx
  by_cases hL : lightB (ms.map SegM.v) = false
  · have HLT := Lib.hid hL
    clear hL h
    go_enter Tryd.func5, Tryd.ntmps5
    go_wp2_with (first | (refine wlBox ?_ 25 _ rfl (imA st S ms.length c) rfl ?_; exact rfl; intro gI w1 hg hl ha hb; replace HB := keepB HB hb; have HI := Lib.hid ha; clear ha hb hg hl) | (refine rowLoad ?_ 25 _ rfl gI rfl (cs := imA st S ms.length c) HI.out Tryd.underlying25 rfl infoIm ?_; exact rfl) | (go_at_call 9; refine (light_any st c S ms _ (HX.out.below HB.out.1) hmx hmc).mono ?_; rw [HLT.out]; rintro e w2 ⟨rfl, hb⟩; replace HB := keepB HB hb; replace HI := keepA HI hb; clear hb) | (go_at_call 10; refine (awake_any m _ ((HB.out.1.cell (World.block_lt_of_cell? w _ HM.out)).trans HM.out)).mono ?_; rintro e w9 ⟨rfl, hb⟩; replace HB := keepB HB hb; clear hb))
    go_ret
    exact ⟨rfl, HB.out.1⟩
  · have HLT : Hid (lightB (ms.map SegM.v) = true) := Lib.hid (by simpa using hL)
    have hlen : 5000 < l.length := (by rcases h with h | h; exact absurd h hL; exact h)
    clear hL h
    go_enter Tryd.func5, Tryd.ntmps5
    go_wp2_with (first | (refine wlBox ?_ 25 _ rfl (imA st S ms.length c) rfl ?_; exact rfl; intro gI w1 hg hl ha hb; replace HB := keepB HB hb; have HI := Lib.hid ha; clear ha hb hg hl) | (refine rowLoad ?_ 25 _ rfl gI rfl (cs := imA st S ms.length c) HI.out Tryd.underlying25 rfl infoIm ?_; exact rfl) | (go_at_call 9; refine (light_any st c S ms _ (HX.out.below HB.out.1) hmx hmc).mono ?_; rw [HLT.out]; rintro e w2 ⟨rfl, hb⟩; replace HB := keepB HB hb; replace HI := keepA HI hb; clear hb) | (go_at_call 10; refine (awake_any m _ ((HB.out.1.cell (World.block_lt_of_cell? w _ HM.out)).trans HM.out)).mono ?_; rintro e w9 ⟨rfl, hb⟩; replace HB := keepB HB hb; clear hb))
    go_ret
    exact ⟨rfl, HB.out.1⟩
set_option maxRecDepth 100000 in
set_option maxHeartbeats 4000000 in
theorem back_a (st c : Nat) (S : Option Addr) (ms : List SegM) (l : List UInt8) (m : Int) (w : World) (hM : w.cell? ⟨0, 0, none⟩ = some (.int .i64 m)) (hst : st < 4294967296) (hx : RdSgG w S ms) (hmx : ms.length ≤ 9223372036854775807) (hmc : ms.length ≤ c) (hL : lightB (ms.map SegM.v) = true) (hl : l.length ≤ 5000) (RV : Nat) (hRV : rightV (ms.map SegM.v) = RV) (T : List UInt8) (hT : textV st (ms.map SegM.v) = T) (r1 N F : Nat) (ss3 : List SegV) (hP : parseV (bs l) = (r1, ss3, N, F))
    (hq : RV = 0) (hF : F ≠ 0) : Calls Tryd.prog 5 #[.agg (imA st S ms.length c), .string (bs l)] w fun e w' => e = .returned (.bool true) ∧ Below w.heap.size w w' := by
  have HB := startB w
  have HM := Lib.hid hM
  have HX := Lib.hid hx
  have HLT := Lib.hid hL
  have hz : (bs l).size = l.length := bs_size l
  have hmx2 : ms.length ≤ 9223372036854775806 := by have := (light_ok2 hL).1; rw [List.length_map] at this; omega
  have HXS : Hid (RdSg w S ms) := Lib.hid (hx.small fun m hm => Nat.le_trans ((light_ok2 hL).2.1 m.v (List.mem_map_of_mem hm)) (by decide))
  have HR1 : Hid (∀ w2, Below w.heap.size w w2 → Calls Tryd.prog 18 #[.agg (imA st S ms.length c)] w2 fun e w' => e = .returned (.int .i64 (RV : Nat)) ∧ Below w2.heap.size w2 w') := Lib.hid (fun w2 hb => by have := right_any st c S ms w2 (HXS.out.below hb) hmx; rwa [hRV] at this)
  have HT1 : Hid (∀ w2, Below w.heap.size w w2 → Calls Tryd.prog 11 #[.agg (imA st S ms.length c)] w2 fun e w' => e = .returned (.string (bs T)) ∧ Below w2.heap.size w2 w') := Lib.hid (fun w2 hb => by have := text_any st c S ms w2 hst (HXS.out.below hb) hmx; rwa [hT] at this)
  subst hq
  have hTl : T.length ≤ 65536 := by rw [← hT]; have := text19 st (ms.map SegM.v); have := (light_ok2 hL).2.2; omega
  have hpt := parse_text hRV hst (by rw [hT]; exact hTl) (by have := rowsI_len st (ms.map SegM.v); have := (light_ok2 hL).2.2; omega)
  rw [hT] at hpt
  have HP1 : Hid (∀ w2, w2.cell? ⟨0, 0, none⟩ = some (.int .i64 m) → Calls Tryd.prog 15 #[.string (bs T)] w2 (ImgIs (st, ms.map SegM.v, 0, 0) w2)) := Lib.hid (fun w2 h2 => by have := parseW_any (bs T) m w2 h2 (by rw [bs_size]; omega); rwa [hpt] at this)
  clear hpt
  have HP2 : Hid (∀ w2, w2.cell? ⟨0, 0, none⟩ = some (.int .i64 m) → Calls Tryd.prog 15 #[.string (bs l)] w2 (ImgIs (r1, ss3, N, F) w2)) := Lib.hid (fun w2 h2 => by have := parseW_any (bs l) m w2 h2 (by rw [bs_size]; omega); rwa [hP] at this)
  have qF : ((F : Int) != 0) = true := bne_iff_ne.2 (by omega)
  clear hM hx hL hRV hT hP hF
  go_enter Tryd.func5, Tryd.ntmps5
  go_upto_region 9 with (first | (refine wlBox ?_ 25 _ rfl (imA st S ms.length c) rfl ?_; exact rfl; intro gI w1 hg hl ha hb; replace HB := keepB HB hb; have HI := Lib.hid ha; clear ha hb hg hl) | (refine rowLoad ?_ 25 _ rfl gI rfl (cs := imA st S ms.length c) HI.out Tryd.underlying25 rfl infoIm ?_; exact rfl) | (go_at_call 9; refine (light_any st c S ms _ (HX.out.below HB.out.1) hmx hmc).mono ?_; rw [HLT.out]; rintro e w2 ⟨rfl, hb⟩; replace HB := keepB HB hb; replace HI := keepA HI hb; clear hb) | (go_at_call 18; refine (HR1.out _ HB.out.1).mono ?_; clear HR1; rintro e w3 ⟨rfl, hb⟩; replace HB := keepB HB hb; replace HI := keepA HI hb; clear hb) | (go_at_call 11; refine (HT1.out _ HB.out.1).mono ?_; clear HT1; rintro e w4 ⟨rfl, hb⟩; replace HB := keepB HB hb; replace HI := keepA HI hb; clear hb) | (go_at_call 15; refine (HP1.out _ ((HB.out.1.cell (World.block_lt_of_cell? w _ HM.out)).trans HM.out)).mono ?_; clear HP1; rintro e w5 ⟨⟨S2, c2, ms2, rfl, h1, h2, h3⟩, hb⟩; have HV2 := Lib.hid h1; have HS2 := Lib.hid h2; have hm2 : ms2.length ≤ 64 := h3; replace HB := keepB HB hb; replace HI := keepA HI hb; clear h1 h2 h3 hb) | (refine wlAlloc ?_ 25 rfl (imA 0 none 0 0) zeroIm ?_; exact rfl; intro gJ w6 hg hl ha hb; have HJG : Hid (w.heap.size ≤ gJ) := Lib.hid (Nat.le_trans HB.out.2 hg); have HJI : Hid (gI ≠ gJ) := Lib.hid (Nat.ne_of_lt (Nat.lt_of_lt_of_le (Array.getElem?_eq_some_iff.1 HI.out).1 hg)); replace HS2 := Lib.hid (HS2.out.below hb); have HJ := Lib.hid ha; replace HI := keepA HI hb; replace HB := keepB HB hb; clear ha hb hg hl) | (refine rowStore ?_ 25 _ _ rfl gJ rfl (imA st S2 ms2.length c2) rfl HJ.out infoIm rfl (imA_one _ _ _ _) ?_; exact rfl; intro w7 ha ho; replace HS2 := Lib.hid (HS2.out.only ho HJ.out (by decide) (by decide)); replace HI := keepAo HI HJI.out ho; replace HJ := Lib.hid ha; replace HB := keepBo HB HJG.out ho; clear ha ho) | (refine rowLoad ?_ 25 _ rfl gJ rfl (cs := imA st S2 ms2.length c2) HJ.out Tryd.underlying25 rfl infoIm ?_; exact rfl) | (go_at_call 17; refine (image_any st c2 st c S2 S ms2 ms _ HS2.out.rd2.gen (HX.out.below HB.out.1) (Nat.le_trans hm2 (by decide)) hmx2).mono ?_; rw [show decide (st = st ∧ ms2.map SegM.v = ms.map SegM.v) = true from decide_eq_true ⟨rfl, HV2.out⟩]; rintro e w8 ⟨rfl, hb⟩; replace HB := keepB HB hb; clear hb HS2 HV2))
  go_upto_region 10 with (first | (go_at_call 15; refine (HP2.out _ ((HB.out.1.cell (World.block_lt_of_cell? w _ HM.out)).trans HM.out)).mono ?_; clear HP2; rintro e wa ⟨⟨S3, c3, ms3, rfl, h1, h2, h3⟩, hb⟩; have HV3 := Lib.hid h1; have HS3 := Lib.hid h2; have hm3 : ms3.length ≤ 64 := h3; replace HB := keepB HB hb; clear h1 h2 h3 hb) | (refine wlAlloc ?_ 25 rfl (imA 0 none 0 0) zeroIm ?_; exact rfl; intro gK wb hg hl ha hb; have HKG : Hid (w.heap.size ≤ gK) := Lib.hid (Nat.le_trans HB.out.2 hg); replace HS3 := Lib.hid (HS3.out.below hb); have HK := Lib.hid ha; replace HB := keepB HB hb; clear ha hb hg hl) | (refine rowStore ?_ 25 _ _ rfl gK rfl (imA r1 S3 ms3.length c3) rfl HK.out infoIm rfl (imA_one _ _ _ _) ?_; exact rfl; intro wc ha ho; replace HS3 := Lib.hid (HS3.out.only ho HK.out (by decide) (by decide)); replace HK := Lib.hid ha; replace HB := keepBo HB HKG.out ho; clear ha ho))
  go_wp2_with (go_at_call 10; refine (awake_any m _ ((HB.out.1.cell (World.block_lt_of_cell? w _ HM.out)).trans HM.out)).mono ?_; rintro e w9 ⟨rfl, hb⟩; replace HB := keepB HB hb; clear hb)
  go_ret
  exact ⟨rfl, HB.out.1⟩
set_option maxRecDepth 100000 in
set_option maxHeartbeats 4000000 in
theorem back_b (st c : Nat) (S : Option Addr) (ms : List SegM) (l : List UInt8) (m : Int) (w : World) (hM : w.cell? ⟨0, 0, none⟩ = some (.int .i64 m)) (hst : st < 4294967296) (hx : RdSgG w S ms) (hmx : ms.length ≤ 9223372036854775807) (hmc : ms.length ≤ c) (hL : lightB (ms.map SegM.v) = true) (hl : l.length ≤ 5000) (RV : Nat) (hRV : rightV (ms.map SegM.v) = RV) (T : List UInt8) (hT : textV st (ms.map SegM.v) = T) (r1 N F : Nat) (ss3 : List SegV) (hP : parseV (bs l) = (r1, ss3, N, F))
    (hq : RV = 0) (hF : F = 0) : Calls Tryd.prog 5 #[.agg (imA st S ms.length c), .string (bs l)] w fun e w' => e = .returned (.bool true) ∧ Below w.heap.size w w' := by
  have HB := startB w
  have HM := Lib.hid hM
  have HX := Lib.hid hx
  have HLT := Lib.hid hL
  have hz : (bs l).size = l.length := bs_size l
  have hmx2 : ms.length ≤ 9223372036854775806 := by have := (light_ok2 hL).1; rw [List.length_map] at this; omega
  have HXS : Hid (RdSg w S ms) := Lib.hid (hx.small fun m hm => Nat.le_trans ((light_ok2 hL).2.1 m.v (List.mem_map_of_mem hm)) (by decide))
  have HR1 : Hid (∀ w2, Below w.heap.size w w2 → Calls Tryd.prog 18 #[.agg (imA st S ms.length c)] w2 fun e w' => e = .returned (.int .i64 (RV : Nat)) ∧ Below w2.heap.size w2 w') := Lib.hid (fun w2 hb => by have := right_any st c S ms w2 (HXS.out.below hb) hmx; rwa [hRV] at this)
  have HT1 : Hid (∀ w2, Below w.heap.size w w2 → Calls Tryd.prog 11 #[.agg (imA st S ms.length c)] w2 fun e w' => e = .returned (.string (bs T)) ∧ Below w2.heap.size w2 w') := Lib.hid (fun w2 hb => by have := text_any st c S ms w2 hst (HXS.out.below hb) hmx; rwa [hT] at this)
  subst hq
  have hTl : T.length ≤ 65536 := by rw [← hT]; have := text19 st (ms.map SegM.v); have := (light_ok2 hL).2.2; omega
  have hpt := parse_text hRV hst (by rw [hT]; exact hTl) (by have := rowsI_len st (ms.map SegM.v); have := (light_ok2 hL).2.2; omega)
  rw [hT] at hpt
  have HP1 : Hid (∀ w2, w2.cell? ⟨0, 0, none⟩ = some (.int .i64 m) → Calls Tryd.prog 15 #[.string (bs T)] w2 (ImgIs (st, ms.map SegM.v, 0, 0) w2)) := Lib.hid (fun w2 h2 => by have := parseW_any (bs T) m w2 h2 (by rw [bs_size]; omega); rwa [hpt] at this)
  clear hpt
  have HP2 : Hid (∀ w2, w2.cell? ⟨0, 0, none⟩ = some (.int .i64 m) → Calls Tryd.prog 15 #[.string (bs l)] w2 (ImgIs (r1, ss3, N, F) w2)) := Lib.hid (fun w2 h2 => by have := parseW_any (bs l) m w2 h2 (by rw [bs_size]; omega); rwa [hP] at this)
  subst hF
  obtain ⟨hrz, htz, hr1⟩ := text_back hP
  have HRZ := Lib.hid hrz
  have HTZ := Lib.hid htz
  have HR1L := Lib.hid hr1
  have qL : ((bs l).toList == (bs l).toList) = true := beq_self_eq_true _
  clear hrz htz hr1
  clear hM hx hL hRV hT hP
  go_enter Tryd.func5, Tryd.ntmps5
  go_upto_region 9 with (first | (refine wlBox ?_ 25 _ rfl (imA st S ms.length c) rfl ?_; exact rfl; intro gI w1 hg hl ha hb; replace HB := keepB HB hb; have HI := Lib.hid ha; clear ha hb hg hl) | (refine rowLoad ?_ 25 _ rfl gI rfl (cs := imA st S ms.length c) HI.out Tryd.underlying25 rfl infoIm ?_; exact rfl) | (go_at_call 9; refine (light_any st c S ms _ (HX.out.below HB.out.1) hmx hmc).mono ?_; rw [HLT.out]; rintro e w2 ⟨rfl, hb⟩; replace HB := keepB HB hb; replace HI := keepA HI hb; clear hb) | (go_at_call 18; refine (HR1.out _ HB.out.1).mono ?_; clear HR1; rintro e w3 ⟨rfl, hb⟩; replace HB := keepB HB hb; replace HI := keepA HI hb; clear hb) | (go_at_call 11; refine (HT1.out _ HB.out.1).mono ?_; clear HT1; rintro e w4 ⟨rfl, hb⟩; replace HB := keepB HB hb; replace HI := keepA HI hb; clear hb) | (go_at_call 15; refine (HP1.out _ ((HB.out.1.cell (World.block_lt_of_cell? w _ HM.out)).trans HM.out)).mono ?_; clear HP1; rintro e w5 ⟨⟨S2, c2, ms2, rfl, h1, h2, h3⟩, hb⟩; have HV2 := Lib.hid h1; have HS2 := Lib.hid h2; have hm2 : ms2.length ≤ 64 := h3; replace HB := keepB HB hb; replace HI := keepA HI hb; clear h1 h2 h3 hb) | (refine wlAlloc ?_ 25 rfl (imA 0 none 0 0) zeroIm ?_; exact rfl; intro gJ w6 hg hl ha hb; have HJG : Hid (w.heap.size ≤ gJ) := Lib.hid (Nat.le_trans HB.out.2 hg); have HJI : Hid (gI ≠ gJ) := Lib.hid (Nat.ne_of_lt (Nat.lt_of_lt_of_le (Array.getElem?_eq_some_iff.1 HI.out).1 hg)); replace HS2 := Lib.hid (HS2.out.below hb); have HJ := Lib.hid ha; replace HI := keepA HI hb; replace HB := keepB HB hb; clear ha hb hg hl) | (refine rowStore ?_ 25 _ _ rfl gJ rfl (imA st S2 ms2.length c2) rfl HJ.out infoIm rfl (imA_one _ _ _ _) ?_; exact rfl; intro w7 ha ho; replace HS2 := Lib.hid (HS2.out.only ho HJ.out (by decide) (by decide)); replace HI := keepAo HI HJI.out ho; replace HJ := Lib.hid ha; replace HB := keepBo HB HJG.out ho; clear ha ho) | (refine rowLoad ?_ 25 _ rfl gJ rfl (cs := imA st S2 ms2.length c2) HJ.out Tryd.underlying25 rfl infoIm ?_; exact rfl) | (go_at_call 17; refine (image_any st c2 st c S2 S ms2 ms _ HS2.out.rd2.gen (HX.out.below HB.out.1) (Nat.le_trans hm2 (by decide)) hmx2).mono ?_; rw [show decide (st = st ∧ ms2.map SegM.v = ms.map SegM.v) = true from decide_eq_true ⟨rfl, HV2.out⟩]; rintro e w8 ⟨rfl, hb⟩; replace HB := keepB HB hb; clear hb HS2 HV2))
  go_upto_region 10 with (first | (go_at_call 15; refine (HP2.out _ ((HB.out.1.cell (World.block_lt_of_cell? w _ HM.out)).trans HM.out)).mono ?_; clear HP2; rintro e wa ⟨⟨S3, c3, ms3, rfl, h1, h2, h3⟩, hb⟩; have HV3 := Lib.hid h1; have HS3 := Lib.hid h2; have hm3 : ms3.length ≤ 64 := h3; replace HB := keepB HB hb; clear h1 h2 h3 hb) | (refine wlAlloc ?_ 25 rfl (imA 0 none 0 0) zeroIm ?_; exact rfl; intro gK wb hg hl ha hb; have HKG : Hid (w.heap.size ≤ gK) := Lib.hid (Nat.le_trans HB.out.2 hg); replace HS3 := Lib.hid (HS3.out.below hb); have HK := Lib.hid ha; replace HB := keepB HB hb; clear ha hb hg hl) | (refine rowStore ?_ 25 _ _ rfl gK rfl (imA r1 S3 ms3.length c3) rfl HK.out infoIm rfl (imA_one _ _ _ _) ?_; exact rfl; intro wc ha ho; replace HS3 := Lib.hid (HS3.out.only ho HK.out (by decide) (by decide)); replace HK := Lib.hid ha; replace HB := keepBo HB HKG.out ho; clear ha ho))
  go_wp2_with (first | (refine rowLoad ?_ 25 _ rfl gK rfl (cs := imA r1 S3 ms3.length c3) HK.out Tryd.underlying25 rfl infoIm ?_; exact rfl) | (go_at_call 18; refine (right_any r1 c3 S3 ms3 _ HS3.out.rd2 (Nat.le_trans hm3 (by decide))).mono ?_; rw [HV3.out, HRZ.out]; rintro e wd ⟨rfl, hb⟩; replace HB := keepB HB hb; replace HS3 := Lib.hid (HS3.out.below hb); replace HK := keepA HK hb; clear hb) | (go_at_call 11; refine (text_any r1 c3 S3 ms3 _ HR1L.out HS3.out.rd2 (Nat.le_trans hm3 (by decide))).mono ?_; rw [HV3.out, HTZ.out]; rintro e we ⟨rfl, hb⟩; replace HB := keepB HB hb; clear hb HS3) | (go_at_call 10; refine (awake_any m _ ((HB.out.1.cell (World.block_lt_of_cell? w _ HM.out)).trans HM.out)).mono ?_; rintro e w9 ⟨rfl, hb⟩; replace HB := keepB HB hb; clear hb))
  go_ret
  exact ⟨rfl, HB.out.1⟩
set_option maxRecDepth 100000 in
set_option maxHeartbeats 4000000 in
theorem back_c (st c : Nat) (S : Option Addr) (ms : List SegM) (l : List UInt8) (m : Int) (w : World) (hM : w.cell? ⟨0, 0, none⟩ = some (.int .i64 m)) (hst : st < 4294967296) (hx : RdSgG w S ms) (hmx : ms.length ≤ 9223372036854775807) (hmc : ms.length ≤ c) (hL : lightB (ms.map SegM.v) = true) (hl : l.length ≤ 5000) (RV : Nat) (hRV : rightV (ms.map SegM.v) = RV) (T : List UInt8) (hT : textV st (ms.map SegM.v) = T) (r1 N F : Nat) (ss3 : List SegV) (hP : parseV (bs l) = (r1, ss3, N, F))
    (hq : RV ≠ 0) (hF : F ≠ 0) : Calls Tryd.prog 5 #[.agg (imA st S ms.length c), .string (bs l)] w fun e w' => e = .returned (.bool true) ∧ Below w.heap.size w w' := by
  have HB := startB w
  have HM := Lib.hid hM
  have HX := Lib.hid hx
  have HLT := Lib.hid hL
  have hz : (bs l).size = l.length := bs_size l
  have hmx2 : ms.length ≤ 9223372036854775806 := by have := (light_ok2 hL).1; rw [List.length_map] at this; omega
  have HXS : Hid (RdSg w S ms) := Lib.hid (hx.small fun m hm => Nat.le_trans ((light_ok2 hL).2.1 m.v (List.mem_map_of_mem hm)) (by decide))
  have HR1 : Hid (∀ w2, Below w.heap.size w w2 → Calls Tryd.prog 18 #[.agg (imA st S ms.length c)] w2 fun e w' => e = .returned (.int .i64 (RV : Nat)) ∧ Below w2.heap.size w2 w') := Lib.hid (fun w2 hb => by have := right_any st c S ms w2 (HXS.out.below hb) hmx; rwa [hRV] at this)
  have HT1 : Hid (∀ w2, Below w.heap.size w w2 → Calls Tryd.prog 11 #[.agg (imA st S ms.length c)] w2 fun e w' => e = .returned (.string (bs T)) ∧ Below w2.heap.size w2 w') := Lib.hid (fun w2 hb => by have := text_any st c S ms w2 hst (HXS.out.below hb) hmx; rwa [hT] at this)
  have hTe : T = [] := by rw [← hT]; unfold textV; rw [if_neg (by rw [hRV]; exact hq)]
  have qT : ((bs T).toList == []) = true := by rw [text_eq, hTe]; rfl
  have qT2 : (bs T).toList.isEmpty = true := by rw [eq_of_beq qT]; rfl
  have qR : ((RV : Int) == 0) = false := beq_eq_false_iff_ne.2 (by omega)
  clear hTe
  have HP2 : Hid (∀ w2, w2.cell? ⟨0, 0, none⟩ = some (.int .i64 m) → Calls Tryd.prog 15 #[.string (bs l)] w2 (ImgIs (r1, ss3, N, F) w2)) := Lib.hid (fun w2 h2 => by have := parseW_any (bs l) m w2 h2 (by rw [bs_size]; omega); rwa [hP] at this)
  have qF : ((F : Int) != 0) = true := bne_iff_ne.2 (by omega)
  clear hM hx hL hRV hT hP hq hF
  go_enter Tryd.func5, Tryd.ntmps5
  go_upto_region 9 with (first | (refine wlBox ?_ 25 _ rfl (imA st S ms.length c) rfl ?_; exact rfl; intro gI w1 hg hl ha hb; replace HB := keepB HB hb; have HI := Lib.hid ha; clear ha hb hg hl) | (refine rowLoad ?_ 25 _ rfl gI rfl (cs := imA st S ms.length c) HI.out Tryd.underlying25 rfl infoIm ?_; exact rfl) | (go_at_call 9; refine (light_any st c S ms _ (HX.out.below HB.out.1) hmx hmc).mono ?_; rw [HLT.out]; rintro e w2 ⟨rfl, hb⟩; replace HB := keepB HB hb; replace HI := keepA HI hb; clear hb) | (go_at_call 18; refine (HR1.out _ HB.out.1).mono ?_; clear HR1; rintro e w3 ⟨rfl, hb⟩; replace HB := keepB HB hb; replace HI := keepA HI hb; clear hb) | (go_at_call 11; refine (HT1.out _ HB.out.1).mono ?_; clear HT1; rintro e w4 ⟨rfl, hb⟩; replace HB := keepB HB hb; replace HI := keepA HI hb; clear hb))
  go_upto_region 10 with (first | (go_at_call 15; refine (HP2.out _ ((HB.out.1.cell (World.block_lt_of_cell? w _ HM.out)).trans HM.out)).mono ?_; clear HP2; rintro e wa ⟨⟨S3, c3, ms3, rfl, h1, h2, h3⟩, hb⟩; have HV3 := Lib.hid h1; have HS3 := Lib.hid h2; have hm3 : ms3.length ≤ 64 := h3; replace HB := keepB HB hb; clear h1 h2 h3 hb) | (refine wlAlloc ?_ 25 rfl (imA 0 none 0 0) zeroIm ?_; exact rfl; intro gK wb hg hl ha hb; have HKG : Hid (w.heap.size ≤ gK) := Lib.hid (Nat.le_trans HB.out.2 hg); replace HS3 := Lib.hid (HS3.out.below hb); have HK := Lib.hid ha; replace HB := keepB HB hb; clear ha hb hg hl) | (refine rowStore ?_ 25 _ _ rfl gK rfl (imA r1 S3 ms3.length c3) rfl HK.out infoIm rfl (imA_one _ _ _ _) ?_; exact rfl; intro wc ha ho; replace HS3 := Lib.hid (HS3.out.only ho HK.out (by decide) (by decide)); replace HK := Lib.hid ha; replace HB := keepBo HB HKG.out ho; clear ha ho))
  go_wp2_with (go_at_call 10; refine (awake_any m _ ((HB.out.1.cell (World.block_lt_of_cell? w _ HM.out)).trans HM.out)).mono ?_; rintro e w9 ⟨rfl, hb⟩; replace HB := keepB HB hb; clear hb)
  go_ret
  exact ⟨rfl, HB.out.1⟩
set_option maxRecDepth 100000 in
set_option maxHeartbeats 4000000 in
theorem back_d (st c : Nat) (S : Option Addr) (ms : List SegM) (l : List UInt8) (m : Int) (w : World) (hM : w.cell? ⟨0, 0, none⟩ = some (.int .i64 m)) (hst : st < 4294967296) (hx : RdSgG w S ms) (hmx : ms.length ≤ 9223372036854775807) (hmc : ms.length ≤ c) (hL : lightB (ms.map SegM.v) = true) (hl : l.length ≤ 5000) (RV : Nat) (hRV : rightV (ms.map SegM.v) = RV) (T : List UInt8) (hT : textV st (ms.map SegM.v) = T) (r1 N F : Nat) (ss3 : List SegV) (hP : parseV (bs l) = (r1, ss3, N, F))
    (hq : RV ≠ 0) (hF : F = 0) : Calls Tryd.prog 5 #[.agg (imA st S ms.length c), .string (bs l)] w fun e w' => e = .returned (.bool true) ∧ Below w.heap.size w w' := by
  have HB := startB w
  have HM := Lib.hid hM
  have HX := Lib.hid hx
  have HLT := Lib.hid hL
  have hz : (bs l).size = l.length := bs_size l
  have hmx2 : ms.length ≤ 9223372036854775806 := by have := (light_ok2 hL).1; rw [List.length_map] at this; omega
  have HXS : Hid (RdSg w S ms) := Lib.hid (hx.small fun m hm => Nat.le_trans ((light_ok2 hL).2.1 m.v (List.mem_map_of_mem hm)) (by decide))
  have HR1 : Hid (∀ w2, Below w.heap.size w w2 → Calls Tryd.prog 18 #[.agg (imA st S ms.length c)] w2 fun e w' => e = .returned (.int .i64 (RV : Nat)) ∧ Below w2.heap.size w2 w') := Lib.hid (fun w2 hb => by have := right_any st c S ms w2 (HXS.out.below hb) hmx; rwa [hRV] at this)
  have HT1 : Hid (∀ w2, Below w.heap.size w w2 → Calls Tryd.prog 11 #[.agg (imA st S ms.length c)] w2 fun e w' => e = .returned (.string (bs T)) ∧ Below w2.heap.size w2 w') := Lib.hid (fun w2 hb => by have := text_any st c S ms w2 hst (HXS.out.below hb) hmx; rwa [hT] at this)
  have hTe : T = [] := by rw [← hT]; unfold textV; rw [if_neg (by rw [hRV]; exact hq)]
  have qT : ((bs T).toList == []) = true := by rw [text_eq, hTe]; rfl
  have qT2 : (bs T).toList.isEmpty = true := by rw [eq_of_beq qT]; rfl
  have qR : ((RV : Int) == 0) = false := beq_eq_false_iff_ne.2 (by omega)
  clear hTe
  have HP2 : Hid (∀ w2, w2.cell? ⟨0, 0, none⟩ = some (.int .i64 m) → Calls Tryd.prog 15 #[.string (bs l)] w2 (ImgIs (r1, ss3, N, F) w2)) := Lib.hid (fun w2 h2 => by have := parseW_any (bs l) m w2 h2 (by rw [bs_size]; omega); rwa [hP] at this)
  subst hF
  obtain ⟨hrz, htz, hr1⟩ := text_back hP
  have HRZ := Lib.hid hrz
  have HTZ := Lib.hid htz
  have HR1L := Lib.hid hr1
  have qL : ((bs l).toList == (bs l).toList) = true := beq_self_eq_true _
  clear hrz htz hr1
  clear hM hx hL hRV hT hP hq
  go_enter Tryd.func5, Tryd.ntmps5
  go_upto_region 9 with (first | (refine wlBox ?_ 25 _ rfl (imA st S ms.length c) rfl ?_; exact rfl; intro gI w1 hg hl ha hb; replace HB := keepB HB hb; have HI := Lib.hid ha; clear ha hb hg hl) | (refine rowLoad ?_ 25 _ rfl gI rfl (cs := imA st S ms.length c) HI.out Tryd.underlying25 rfl infoIm ?_; exact rfl) | (go_at_call 9; refine (light_any st c S ms _ (HX.out.below HB.out.1) hmx hmc).mono ?_; rw [HLT.out]; rintro e w2 ⟨rfl, hb⟩; replace HB := keepB HB hb; replace HI := keepA HI hb; clear hb) | (go_at_call 18; refine (HR1.out _ HB.out.1).mono ?_; clear HR1; rintro e w3 ⟨rfl, hb⟩; replace HB := keepB HB hb; replace HI := keepA HI hb; clear hb) | (go_at_call 11; refine (HT1.out _ HB.out.1).mono ?_; clear HT1; rintro e w4 ⟨rfl, hb⟩; replace HB := keepB HB hb; replace HI := keepA HI hb; clear hb))
  go_upto_region 10 with (first | (go_at_call 15; refine (HP2.out _ ((HB.out.1.cell (World.block_lt_of_cell? w _ HM.out)).trans HM.out)).mono ?_; clear HP2; rintro e wa ⟨⟨S3, c3, ms3, rfl, h1, h2, h3⟩, hb⟩; have HV3 := Lib.hid h1; have HS3 := Lib.hid h2; have hm3 : ms3.length ≤ 64 := h3; replace HB := keepB HB hb; clear h1 h2 h3 hb) | (refine wlAlloc ?_ 25 rfl (imA 0 none 0 0) zeroIm ?_; exact rfl; intro gK wb hg hl ha hb; have HKG : Hid (w.heap.size ≤ gK) := Lib.hid (Nat.le_trans HB.out.2 hg); replace HS3 := Lib.hid (HS3.out.below hb); have HK := Lib.hid ha; replace HB := keepB HB hb; clear ha hb hg hl) | (refine rowStore ?_ 25 _ _ rfl gK rfl (imA r1 S3 ms3.length c3) rfl HK.out infoIm rfl (imA_one _ _ _ _) ?_; exact rfl; intro wc ha ho; replace HS3 := Lib.hid (HS3.out.only ho HK.out (by decide) (by decide)); replace HK := Lib.hid ha; replace HB := keepBo HB HKG.out ho; clear ha ho))
  go_wp2_with (first | (refine rowLoad ?_ 25 _ rfl gK rfl (cs := imA r1 S3 ms3.length c3) HK.out Tryd.underlying25 rfl infoIm ?_; exact rfl) | (go_at_call 18; refine (right_any r1 c3 S3 ms3 _ HS3.out.rd2 (Nat.le_trans hm3 (by decide))).mono ?_; rw [HV3.out, HRZ.out]; rintro e wd ⟨rfl, hb⟩; replace HB := keepB HB hb; replace HS3 := Lib.hid (HS3.out.below hb); replace HK := keepA HK hb; clear hb) | (go_at_call 11; refine (text_any r1 c3 S3 ms3 _ HR1L.out HS3.out.rd2 (Nat.le_trans hm3 (by decide))).mono ?_; rw [HV3.out, HTZ.out]; rintro e we ⟨rfl, hb⟩; replace HB := keepB HB hb; clear hb HS3) | (go_at_call 10; refine (awake_any m _ ((HB.out.1.cell (World.block_lt_of_cell? w _ HM.out)).trans HM.out)).mono ?_; rintro e w9 ⟨rfl, hb⟩; replace HB := keepB HB hb; clear hb))
  go_ret
  exact ⟨rfl, HB.out.1⟩
end Go.Proofs.YtnigkecpiolgeaaDoor.My
set_option linter.unusedVariables false
set_option linter.unusedSimpArgs false
namespace Go.Proofs.YtnigkecpiolgeaaDoor.My
open Go.RowKit
theorem back_any (st c : Nat) (S : Option Addr) (ms : List SegM) (s : ByteArray) (m : Int) (w : World) (hM : w.cell? ⟨0, 0, none⟩ = some (.int .i64 m)) (hst : st < 4294967296) (hx : RdSgG w S ms) (hmx : ms.length ≤ 9223372036854775807) (hmc : ms.length ≤ c) :
    Calls Tryd.prog 5 #[.agg (imA st S ms.length c), .string s] w fun e w' => e = .returned (.bool true) ∧ Below w.heap.size w w' := by
  obtain ⟨l, rfl⟩ : ∃ l, s = bs l := ⟨s.data.toList, by simp [bs]⟩
  by_cases hL : lightB (ms.map SegM.v) = true
  rotate_left
  · exact back_out st c S ms l m w hM hx hmx hmc (.inl (by simpa using hL))
  by_cases hl : l.length ≤ 5000
  rotate_left
  · exact back_out st c S ms l m w hM hx hmx hmc (.inr (by omega))
  obtain ⟨RV, hRV⟩ : ∃ RV, rightV (ms.map SegM.v) = RV := ⟨_, rfl⟩
  obtain ⟨T, hT⟩ : ∃ T, textV st (ms.map SegM.v) = T := ⟨_, rfl⟩
  obtain ⟨⟨r1, ss3, N, F⟩, hP⟩ : ∃ R, parseV (bs l) = R := ⟨_, rfl⟩
  by_cases hq : RV = 0
  · by_cases hF : F = 0
    · exact back_b st c S ms l m w hM hst hx hmx hmc hL hl RV hRV T hT r1 N F ss3 hP hq hF
    · exact back_a st c S ms l m w hM hst hx hmx hmc hL hl RV hRV T hT r1 N F ss3 hP hq hF
  · by_cases hF : F = 0
    · exact back_d st c S ms l m w hM hst hx hmx hmc hL hl RV hRV T hT r1 N F ss3 hP hq hF
    · exact back_c st c S ms l m w hM hst hx hmx hmc hL hl RV hRV T hT r1 N F ss3 hP hq hF
end Go.Proofs.YtnigkecpiolgeaaDoor.My
namespace Go.Proofs.YtnigkecpiolgeaaDoor
open Go.ChangeShapes Go.WideShapes Go.ChangeAt Go.RowKit My
open Go.ChangeMaps (open_string shut_string)
theorem own_RomBack : ownKnob Tryd.prog.godebug = none := by kernel_rfl
theorem laidOut_RomBack : laidOutB Tryd.prog = true := by kernel_rfl
noncomputable def laid_RomBack : List (String × DataW Unit) := [("unicode/utf8.acceptRanges", Rows.laid_unicode_utf8_acceptRanges), ("unicode/utf8.first", Rows.laid_unicode_utf8_first)]
set_option maxRecDepth 100000 in
theorem lifted_RomBack (os : Os) (started : os.Started) (H : Type) (enc : TypeId × Value → H) :
    ReturnsInHanded {} Tryd.checked os 5 .any (fun w args => (Rows.romBackSpec.pre enc Tryd.prog Tryd.f5 [] false w args ∧ laidMetH Tryd.prog laid_RomBack w) ∧ sizedMet enc Tryd.prog Tryd.f5 (OpenSpec.ofChange Rows.romBackSpec) false w args) (Rows.romBackSpec.post enc Tryd.prog Tryd.f5 false true false false) := by
  refine handed_shaped (C := Tryd.checked) (X := fun w _ => laidMetH Tryd.prog laid_RomBack w) (fun _ _ _ hh h => h.of_heap hh) own_RomBack started (by kernel_rfl) Tryd.func5
    (ChangeSpec.witness_shaped (enc := enc) (C := Tryd.checked) (os := os) (X := fun w _ => laidMetH Tryd.prog laid_RomBack w) false (World.laidAll Tryd.prog os laid_RomBack) #[.agg #[.int .u32 0, .slice none 0 0], .string ⟨#[]⟩] 8 (World.laidAll_os _ _ _)
      (World.shaped_of_ZipB (by kernel_rfl) (by kernel_rfl)) (by kernel_rfl) (by kernel_rfl) (by kernel_rfl)
      (by rw [MakeChecks.laidMetH_plain _ _ _ (by kernel_rfl)]; exact laidMet_laidAll _ (by kernel_rfl) (by kernel_rfl))) ?_
  intro W base args ds gs before hval0 hW hcnd hsz0 hsh _ _
  obtain ⟨mx, hmx⟩ := Tryd.maxLen_cell W hsh
  have hsz : (DataW.weightsEach Tryd.prog (Tryd.f5.params.toList ++ Rows.romBackSpec.plain.varTypes Tryd.prog) (ds ++ gs)).all (· ≤ reachBytes) = true := hsz0
  have hval : ∀ (j : Nat) t v, Tryd.f5.params[j]? = some t → args[j]? = some v → Value.okWide Tryd.prog W .any base t v := hval0
  have hW' := hW
  obtain ⟨p, q, hA0, hV, rfl, hfz, hnd⟩ := hW
  have hA : DataW.TrodAll enc Tryd.prog W 0 (fun _ => true) true Tryd.f5.params.toList args.toList ds p := hA0
  rw [Tryd.params5] at hA hval hsz
  obtain ⟨v0, vs0, d0, ds0, p0, q0, hargs, rfl, rfl, h0, r0⟩ := trodAll_cons hA
  obtain ⟨v1, vs1, d1, ds1, p1, q1, rfl, rfl, rfl, h1, r1⟩ := trodAll_cons r0
  obtain ⟨rfl, rfl, rfl⟩ := trodAll_nil r1
  obtain rfl : args = #[v0, v1] := by cases args; simp_all
  obtain ⟨rfl, rfl⟩ := trodVars_none hV
  have ok0 := hval 0 25 v0 rfl rfl
  have ok1 := hval 1 9 v1 rfl rfl
  have lt0 : ∀ x ∈ p0, x.block < W.heap.size := fun x hx => by simpa using hW'.lt x (by simp [hx])
  have lt1 : ∀ x ∈ p1, x.block < W.heap.size := fun x hx => by simpa using hW'.lt x (by simp [hx])
  clear hA0 hval0 hsz0
  obtain ⟨st, S, ms, c, rfl, hst, hx, hm1, hm2⟩ := open_image ok0 h0; obtain ⟨a1, rfl, rfl, rfl, b0⟩ := open_string Tryd.underlying9 ok1 h1
  refine (back_any st c S ms a1 mx W hmx hst hx hm1 hm2).mono fun e W' ⟨he, bel⟩ => ?_
  subst he
  exact ⟨_, rfl, _, _, _, [], _, [], hW', trodAll_mk1 (shut_bool Tryd.underlying4 _), (trodAll_cons_mk (Below.trod laidOut_RomBack (by kernel_rfl) (of_decide_eq_true (by kernel_rfl)) h0 bel lt0) (trodAll_cons_mk (Below.trod laidOut_RomBack (by kernel_rfl) (of_decide_eq_true (by kernel_rfl)) h1 bel lt1) trodAll_mk0)), rfl, bel.frame _, fun h => by cases h⟩
theorem romBack_holds : Rows.RomBackSaid :=
  OpenClaim.holds_of_wide 5 Tryd.f5 rfl rfl rfl rfl rfl rfl rfl ⟨rfl, rfl, rfl, rfl, rfl⟩ rfl rfl rfl rfl rfl (by kernel_rfl) Tryd.func5 (by kernel_rfl)
    (of_decide_eq_true (by kernel_rfl)) (by unfold Func.isWrapper; first | (rw [if_pos (by decide +kernel)]; kernel_rfl) | (rw [if_neg (by decide +kernel)]; exact ⟨rfl, rfl⟩))
    (fun os started H enc _ => lifted_RomBack os started H enc)
#print axioms romBack_holds
theorem card_romBack : Rows.RomBackCardSaid :=
  Claim7.holds_tied_plain_at .later [] [.data, .pinned] true (true, "ef81543063f4ba5f1c774ca9fdd4416c8adb239c719eeecd79f77349a7be26b1") false
    romBack_holds (fun _ h => by cases h) (by kernel_rfl) (fun _ h => by cases h) romBack_row_tie rfl ⟨rfl, rfl⟩ (by kernel_rfl) rfl
    (fun f fn hf hfn => by
      obtain rfl : f = 5 := Option.some.inj ((show Tryd.prog.funcNamed "cotterel/cotterellaw09.RomBack" = some 5 by kernel_rfl).symm.trans hf) |>.symm
      obtain rfl : fn = Tryd.f5 := (Option.some.inj (Tryd.func5.symm.trans hfn)).symm
      exact ⟨by kernel_rfl, fun j t ht => by
        rw [Tryd.params5] at ht
        have hm : t ∈ [25, 9] := by simpa using Array.mem_of_getElem? ht
        have hall : ([25, 9].all fun u => !Tryd.prog.wantsStandIn u) = true := by kernel_rfl
        exact (show Tryd.prog.wantsStandIn t = false by simpa using List.all_eq_true.1 hall t hm)⟩)
    (by kernel_rfl)
#print axioms card_romBack
end Go.Proofs.YtnigkecpiolgeaaDoor

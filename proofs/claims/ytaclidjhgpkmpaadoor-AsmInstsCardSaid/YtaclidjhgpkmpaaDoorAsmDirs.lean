/- Walks: what directives do. -/
import Derived.Test.YtaclidjhgpkmpaaDoorAsmLay
import Derived.Test.YtaclidjhgpkmpaaDoorAsmNum
import Derived.Test.YtaclidjhgpkmpaaDoorHeldWords
set_option linter.unusedVariables false
set_option linter.unusedSimpArgs false
namespace Go.Proofs.YtaclidjhgpkmpaaDoor.My
open Go.RowKit
theorem parse_code (s : ByteArray) : (parseV s).2 = 0 ∨ (parseV s).2 = 2 ∨ (parseV s).2 = 3 := by
  have ht : ∀ m d, (tailV m d).2 = 0 ∨ (tailV m d).2 = 2 ∨ (tailV m d).2 = 3 := fun m d => by
    unfold tailV
    split
    · exact .inr (.inl rfl)
    split
    · exact .inr (.inr rfl)
    unfold valN
    repeat' split
    all_goals first | exact .inl rfl | exact .inr (.inr rfl)
  unfold parseV
  split
  · exact .inl rfl
  split
  · exact ht _ _
  · exact ht _ _
theorem number_code (s : List UInt8) (f t : Int) : ((numberV s f t).2 = 0 ∧ f ≤ (numberV s f t).1 ∧ (numberV s f t).1 ≤ t) ∨ (numberV s f t).2 = 2 ∨ (numberV s f t).2 = 3 := by
  unfold numberV
  split
  · exact .inr (.inr rfl)
  · rename_i h
    rcases parse_code (bs s) with q | q
    · left
      refine ⟨q, ?_, ?_⟩
      · exact Int.not_lt.1 fun r => h ⟨q, .inl r⟩
      · exact Int.not_lt.1 fun r => h ⟨q, .inr r⟩
    · exact .inr q
def orgV (p : Prg) (x : List UInt8) : Nat × Prg := if (numberV x 0 16384).2 = 0 then (0, { p with here := (numberV x 0 16384).1.toNat }) else ((numberV x 0 16384).2.toNat, p)
def spaceV (p : Prg) (x : List UInt8) : Nat × Prg := if (numberV x 0 16384).2 = 0 then layV p (numberV x 0 16384).1.toNat false else ((numberV x 0 16384).2.toNat, p)
def equV (p : Prg) (x y : List UInt8) : Nat × Prg :=
  if isNameV x = false then (2, p) else if (findV p.vals x).isSome = true then (7, p) else
    if (numberV y (-2147483648) 4294967295).2 = 0 then namedV p x ((numberV y (-2147483648) 4294967295).1 % 4294967296).toNat else ((numberV y (-2147483648) 4294967295).2.toNat, p)
/-- Words that a directive has. -/
structure ArgsAt (w : World) (s : PS) (gB : Nat) (b off : Nat) (ws : List (List UInt8)) : Prop where
  box : w.heap[gB]? = some (.cells #[.pointer (some ⟨s.gP, 0, none⟩)] 63 (0, 0))
  rd : RdW w (some ⟨b, off, none⟩) ws
  le : ∀ x ∈ ws, x.length ≤ 1000000
theorem ArgsAt.below {w w' : World} {s : PS} {gB b off : Nat} {ws : List (List UInt8)} (h : ArgsAt w s gB b off ws) (hb : Below w.heap.size w w') : ArgsAt w' s gB b off ws :=
  ⟨(hb.block gB (Array.getElem?_eq_some_iff.1 h.box).1).trans h.box, h.rd.below hb, h.le⟩
theorem ArgsAt.cell0 {w : World} {s : PS} {gB b off : Nat} {x : List UInt8} {ws : List (List UInt8)} (h : ArgsAt w s gB b off (x :: ws)) : w.cell? ⟨b, off, none⟩ = some (.string (bs x)) := by
  obtain ⟨b', off', hA, hc⟩ := h.rd (by simp)
  injection hA with hA
  injection hA with h1 h2 _
  subst h1; subst h2
  exact hc 0 x rfl
theorem ArgsAt.cell1 {w : World} {s : PS} {gB b off : Nat} {x y : List UInt8} {ws : List (List UInt8)} (h : ArgsAt w s gB b off (x :: y :: ws)) : w.cell? ⟨b, off + 1, none⟩ = some (.string (bs y)) := by
  obtain ⟨b', off', hA, hc⟩ := h.rd (by simp)
  injection hA with hA
  injection hA with h1 h2 _
  subst h1; subst h2
  exact hc 1 y rfl
theorem ArgsAt.boxc {w : World} {s : PS} {gB b off : Nat} {ws : List (List UInt8)} (h : ArgsAt w s gB b off ws) : w.cell? ⟨gB, 0, none⟩ = some (.pointer (some ⟨s.gP, 0, none⟩)) := cell_of_row w gB 0 _ _ _ h.box
theorem pp_wrong {w w' : World} {B : Nat} {s : PS} {R : Nat × Prg} {c : Int} (h : R.1 = c.toNat) (h0 : c = 2 ∨ c = 3) (ht : Turn s.ms w w') : PrgPost w B s R (.returned (.int .i64 c)) w' :=
  ⟨by rw [h]; rcases h0 with rfl | rfl <;> rfl, ht, fun q => by rw [h] at q; rcases h0 with rfl | rfl <;> cases q⟩
set_option maxRecDepth 100000 in
set_option maxHeartbeats 4000000 in
theorem org_any (B : Nat) (s : PS) (p : Prg) (rs : List RowM) (x : List UInt8) (gB b off n c : Nat) (w : World) (hp : PrgAt w B s p rs) (ha : ArgsAt w s gB b off [x]) :
    Calls Tryd.prog 57 #[.slice (some ⟨b, off, none⟩) 1 c, .pointer (some ⟨gB, 0, none⟩)] w fun e w' => PrgPost w B s (orgV p x) e w' := by
  have HP := Lib.hid hp
  have HA := Lib.hid ha
  have hx : x.length ≤ 1000000 := ha.le x (by simp)
  have c0 := ha.cell0
  obtain ⟨R, hR⟩ : ∃ R, orgV p x = R := ⟨_, rfl⟩
  rw [hR]
  unfold orgV at hR
  have hc := number_code x 0 16384
  obtain ⟨⟨v, E⟩, hN⟩ : ∃ r, numberV x 0 16384 = r := ⟨_, rfl⟩
  rw [hN] at hR hc
  have HN := Lib.hid hN
  by_cases hE : E = 0
  · subst hE
    obtain ⟨n, rfl⟩ : ∃ n : Nat, v = (n : Int) := ⟨v.toNat, by rcases hc with ⟨_, q, _⟩ | q | q; exact (Int.toNat_of_nonneg q).symm; cases q; cases q⟩
    have hn16 : n ≤ 16384 := by rcases hc with ⟨_, _, q⟩ | q | q; have : (n : Int) ≤ 16384 := q; omega; cases q; cases q
    rw [if_pos rfl] at hR
    have HR := Lib.hid hR
    clear hR hN hc hp ha
    go_enter Tryd.func57, Tryd.ntmps57
    go_wp2_with (first | (go_at_call 58; refine (number_any x 0 16384 _ hx).mono ?_; simp only [HN.out]; rintro e w1 ⟨rfl, hb⟩; replace HP := keepP HP hb; replace HA := Lib.hid (HA.out.below hb); have HT : Hid (Turn s.ms w w1) := Lib.hid (Turn.of_below hb); have cb : w1.cell? ⟨gB, 0, none⟩ = some (.pointer (some ⟨s.gP, 0, none⟩)) := HA.out.boxc; clear hb) | (refine cellStore rfl 2 _ _ rfl s.gP 3 rfl (.int .i64 (n : Nat)) rfl rfl rfl HP.out.cells (show 3 < 6 by decide) infoI64 ?_; intro w2 ha ho; replace HT := keepTo HT (.inl s.mem_P) ho; replace HP := Lib.hid (HP.out.setHere (n := n) ho hn16 ha); clear ha ho))
    go_ret
    exact ⟨by rw [← HR.out]; rfl, HT.out, fun _ => ⟨s, rs, PS.nxt_refl _ _, by rw [← HR.out]; exact HP.out⟩⟩
  · rw [if_neg hE] at hR
    have HR := Lib.hid hR
    have hE2 : E = 2 ∨ E = 3 := by rcases hc with ⟨q, _⟩ | q; exact absurd q hE; exact q
    have HE2 := Lib.hid hE2
    have q1 : (E == 0) = false := beq_eq_false_iff_ne.2 hE
    clear hR hN hc hp ha hE hE2
    go_enter Tryd.func57, Tryd.ntmps57
    go_wp2_with (first | (go_at_call 58; refine (number_any x 0 16384 _ hx).mono ?_; simp only [HN.out]; rintro e w1 ⟨rfl, hb⟩; replace HP := keepP HP hb; replace HA := Lib.hid (HA.out.below hb); have HT : Hid (Turn s.ms w w1) := Lib.hid (Turn.of_below hb); have cb : w1.cell? ⟨gB, 0, none⟩ = some (.pointer (some ⟨s.gP, 0, none⟩)) := HA.out.boxc; clear hb))
    go_ret
    exact pp_wrong (by rw [← HR.out]) HE2.out HT.out
set_option maxRecDepth 100000 in
set_option maxHeartbeats 4000000 in
theorem space_any (B : Nat) (s : PS) (p : Prg) (rs : List RowM) (x : List UInt8) (gB b off n c : Nat) (w : World) (hp : PrgAt w B s p rs) (ha : ArgsAt w s gB b off [x]) :
    Calls Tryd.prog 59 #[.slice (some ⟨b, off, none⟩) 1 c, .pointer (some ⟨gB, 0, none⟩)] w fun e w' => PrgPost w B s (spaceV p x) e w' := by
  have HP := Lib.hid hp
  have HA := Lib.hid ha
  have hx : x.length ≤ 1000000 := ha.le x (by simp)
  have c0 := ha.cell0
  obtain ⟨R, hR⟩ : ∃ R, spaceV p x = R := ⟨_, rfl⟩
  rw [hR]
  unfold spaceV at hR
  have hc := number_code x 0 16384
  obtain ⟨⟨v, E⟩, hN⟩ : ∃ r, numberV x 0 16384 = r := ⟨_, rfl⟩
  rw [hN] at hR hc
  have HN := Lib.hid hN
  by_cases hE : E = 0
  · subst hE
    obtain ⟨n, rfl⟩ : ∃ n : Nat, v = (n : Int) := ⟨v.toNat, by rcases hc with ⟨_, q, _⟩ | q | q; exact (Int.toNat_of_nonneg q).symm; cases q; cases q⟩
    have hn16 : n ≤ 16384 := by rcases hc with ⟨_, _, q⟩ | q | q; have : (n : Int) ≤ 16384 := q; omega; cases q; cases q
    have hn1 : n ≤ 1000000 := by omega
    rw [if_pos rfl] at hR
    have hR2 : layV p n false = R := hR
    obtain ⟨⟨C, p'⟩, rfl⟩ : ∃ r, R = r := ⟨R, rfl⟩
    have HL := Lib.hid hR2
    clear hR hR2 hN hc hp ha
    go_enter Tryd.func59, Tryd.ntmps59
    go_wp2_with (first | (go_at_call 58; refine (number_any x 0 16384 _ hx).mono ?_; simp only [HN.out]; rintro e w1 ⟨rfl, hb⟩; replace HP := keepP HP hb; replace HA := Lib.hid (HA.out.below hb); have HT : Hid (Turn s.ms w w1) := Lib.hid (Turn.of_below hb); have cb : w1.cell? ⟨gB, 0, none⟩ = some (.pointer (some ⟨s.gP, 0, none⟩)) := HA.out.boxc; clear hb) | (go_at_call 41; refine (lay_any B s p rs n false _ HP.out hn1).mono ?_; simp only [HL.out]; rintro e w2 ⟨rfl, ht, hq⟩; have HS := Lib.hid HT.out.size; replace HT := keepTt HT ht (fun k hk => .inl hk); have HQ := Lib.hid hq; clear ht hq))
    go_ret
    exact ⟨rfl, HT.out, fun h0 => by
      obtain ⟨s', rs', h1, h2⟩ := HQ.out h0
      exact ⟨s', rs', PS.nxt_trans (PS.nxt_refl w s) h1 HS.out, h2⟩⟩
  · rw [if_neg hE] at hR
    have HR := Lib.hid hR
    have hE2 : E = 2 ∨ E = 3 := by rcases hc with ⟨q, _⟩ | q; exact absurd q hE; exact q
    have HE2 := Lib.hid hE2
    have q1 : (E == 0) = false := beq_eq_false_iff_ne.2 hE
    clear hR hN hc hp ha hE hE2
    go_enter Tryd.func59, Tryd.ntmps59
    go_wp2_with (first | (go_at_call 58; refine (number_any x 0 16384 _ hx).mono ?_; simp only [HN.out]; rintro e w1 ⟨rfl, hb⟩; replace HP := keepP HP hb; replace HA := Lib.hid (HA.out.below hb); have HT : Hid (Turn s.ms w w1) := Lib.hid (Turn.of_below hb); have cb : w1.cell? ⟨gB, 0, none⟩ = some (.pointer (some ⟨s.gP, 0, none⟩)) := HA.out.boxc; clear hb))
    go_ret
    exact pp_wrong (by rw [← HR.out]) HE2.out HT.out
set_option maxRecDepth 100000 in
set_option maxHeartbeats 4000000 in
theorem word_any (B : Nat) (s : PS) (p : Prg) (rs : List RowM) (A : Option Addr) (gB n c : Nat) (w : World) (hp : PrgAt w B s p rs) (hb : w.heap[gB]? = some (.cells #[.pointer (some ⟨s.gP, 0, none⟩)] 63 (0, 0))) (hn : n ≤ 200000) :
    Calls Tryd.prog 61 #[.slice A n c, .pointer (some ⟨gB, 0, none⟩)] w fun e w' => PrgPost w B s (layV p (4 * n) true) e w' := by
  have HP := Lib.hid hp
  have cb : w.cell? ⟨gB, 0, none⟩ = some (.pointer (some ⟨s.gP, 0, none⟩)) := cell_of_row w gB 0 _ _ _ hb
  clear hp hb
  go_enter Tryd.func61, Tryd.ntmps61
  go_wp2_with (first | (go_at_call 41; refine (lay_any B s p rs (4 * n) true _ HP.out (by omega)).mono ?_; rintro e w2 ⟨rfl, ht, hq⟩; have HT := Lib.hid ht; have HQ := Lib.hid hq; clear ht hq))
  go_ret
  exact ⟨rfl, HT.out, HQ.out⟩
set_option maxRecDepth 100000 in
set_option maxHeartbeats 4000000 in
theorem byte_any (B : Nat) (s : PS) (p : Prg) (rs : List RowM) (A : Option Addr) (gB n c : Nat) (w : World) (hp : PrgAt w B s p rs) (hb : w.heap[gB]? = some (.cells #[.pointer (some ⟨s.gP, 0, none⟩)] 63 (0, 0))) (hn : n ≤ 200000) :
    Calls Tryd.prog 62 #[.slice A n c, .pointer (some ⟨gB, 0, none⟩)] w fun e w' => PrgPost w B s (layV p n false) e w' := by
  have HP := Lib.hid hp
  have cb : w.cell? ⟨gB, 0, none⟩ = some (.pointer (some ⟨s.gP, 0, none⟩)) := cell_of_row w gB 0 _ _ _ hb
  clear hp hb
  go_enter Tryd.func62, Tryd.ntmps62
  go_wp2_with (first | (go_at_call 41; refine (lay_any B s p rs n false _ HP.out (by omega)).mono ?_; rintro e w2 ⟨rfl, ht, hq⟩; have HT := Lib.hid ht; have HQ := Lib.hid hq; clear ht hq))
  go_ret
  exact ⟨rfl, HT.out, HQ.out⟩
end Go.Proofs.YtaclidjhgpkmpaaDoor.My

/- Walks: is a text a name; a name gets its value. -/
import Derived.Test.YtaclidjhgpkmpaaDoorAsmPrg
import Derived.Test.YtaclidjhgpkmpaaDoorTextParsePlain
set_option linter.unusedVariables false
set_option linter.unusedSimpArgs false
namespace Go.Proofs.YtaclidjhgpkmpaaDoor.My
open Go.RowKit
def isLet (c : Nat) : Bool := decide (97 ≤ c ∧ c ≤ 122) || (decide (65 ≤ c ∧ c ≤ 90) || c == 95)
def isDgt (c : Nat) : Bool := decide (48 ≤ c ∧ c ≤ 57)
def nameT : Nat → List UInt8 → Bool
  | _, [] => true
  | i, c :: r => (isLet c.toNat || (i != 0 && isDgt c.toNat)) && nameT (i + 1) r
/-- Is a text a name? -/
def isNameV (s : List UInt8) : Bool := decide (1 ≤ s.length ∧ s.length ≤ 16) && nameT 0 s
theorem name_le {s : List UInt8} (h : isNameV s = true) : s.length ≤ 16 := by
  unfold isNameV at h
  rw [Bool.and_eq_true, decide_eq_true_eq] at h
  exact h.1.2
theorem drop_at2 {s : List UInt8} {k : Nat} (h : k < s.length) : ∃ x : UInt8, s.drop k = x :: s.drop (k + 1) ∧ bAt (bs s) k = x.toNat :=
  ⟨s[k], List.drop_eq_getElem_cons h, bs_at h⟩
set_option maxRecDepth 100000 in
set_option maxHeartbeats 4000000 in
theorem isName_any (s : List UInt8) (w : World) (hs : s.length ≤ 1000000) : Calls Tryd.prog 55 #[.string (bs s)] w fun e w' => e = .returned (.bool (isNameV s)) ∧ w = w' := by
  obtain ⟨S, hS⟩ : ∃ S, bs s = S := ⟨_, rfl⟩
  have hz : S.size = s.length := by rw [← hS, bs_size]
  have eb : ∀ i (h : i < S.size), (S[i]'h).toNat = bAt S i := fun i h => bAt_eq h
  have hm : S.size ≤ 1000000 := by omega
  have HZ := Lib.hid hz
  have HS := Lib.hid hS
  unfold isNameV
  rw [hS, ← hz]
  by_cases h1 : S.size < 1
  · have e : (decide (1 ≤ S.size ∧ S.size ≤ 16) && nameT 0 s) = false := by rw [decide_eq_false (by omega)]; rfl
    rw [e]
    clear hz hS hs e
    go_enter Tryd.func55, Tryd.ntmps55
    go_wp2
    go_ret
    exact ⟨rfl, rfl⟩
  by_cases h2 : 16 < S.size
  · have e : (decide (1 ≤ S.size ∧ S.size ≤ 16) && nameT 0 s) = false := by rw [decide_eq_false (by omega)]; rfl
    rw [e]
    clear hz hS hs e
    go_enter Tryd.func55, Tryd.ntmps55
    go_wp2
    go_ret
    exact ⟨rfl, rfl⟩
  rw [decide_eq_true (show 1 ≤ S.size ∧ S.size ≤ 16 by omega), Bool.true_and]
  obtain ⟨R, hR⟩ : ∃ R, nameT 0 s = R := ⟨_, rfl⟩
  rw [hR]
  have HR0 : Hid (nameT 0 (s.drop 0) = R) := Lib.hid hR
  have h1' : 1 ≤ S.size := by omega
  have h2' : S.size ≤ 16 := by omega
  clear hz hS hs hR h1 h2
  go_enter Tryd.func55, Tryd.ntmps55
  go_wp2
  go_loop [16] (fun i => ∃ k : Nat, k ≤ S.size ∧ i = .int .i64 k ∧ Hid (nameT k (s.drop k) = R)) (fun i => S.size - (intOf i).toNat)
  case atStart => exact ⟨0, Nat.zero_le _, rfl, HR0⟩
  case round =>
    clear HR0
    obtain ⟨k, hk, rfl, HR⟩ := hrel
    by_cases hlt : k < S.size
    · obtain ⟨x, hd, hc⟩ := drop_at2 (s := s) (k := k) (by rw [← HZ.out]; exact hlt)
      rw [HS.out] at hc
      have hr := HR.out
      rw [hd, nameT] at hr
      obtain ⟨c, hc2⟩ : ∃ c, x.toNat = c := ⟨_, rfl⟩
      have hc3 := x.toNat_lt
      rw [hc2] at hc hr hc3
      have hcc : c < 256 := hc3
      clear hd hc2 HR hc3
      rcases (show c < 48 ∨ (48 ≤ c ∧ c ≤ 57) ∨ (57 < c ∧ c < 65) ∨ (65 ≤ c ∧ c ≤ 90) ∨ (90 < c ∧ c < 95) ∨ c = 95 ∨ (95 < c ∧ c < 97) ∨ (97 ≤ c ∧ c ≤ 122) ∨ 122 < c by omega) with q | ⟨q1, q2⟩ | ⟨q1, q2⟩ | ⟨q1, q2⟩ | ⟨q1, q2⟩ | q | ⟨q1, q2⟩ | ⟨q1, q2⟩ | q
      · have f95 : ((c : Int) == 95) = false := beq_eq_false_iff_ne.2 (by omega)
        have e : (isLet c || (k != 0 && isDgt c)) = false := (by simp [isLet, isDgt]; omega); rw [e] at hr; have hr2 : false = R := hr; subst hr2; clear e hr; by_cases k0 : k = 0
        · subst k0
          go_wp2
          go_ret
          exact ⟨rfl, rfl⟩
        · have k1 : ((k : Int) == 0) = false := beq_eq_false_iff_ne.2 (by omega)
          go_wp2
          go_ret
          exact ⟨rfl, rfl⟩
      · by_cases k0 : k = 0
        · subst k0
          have f95 : ((c : Int) == 95) = false := beq_eq_false_iff_ne.2 (by omega)
          have e : (isLet c || ((0 : Nat) != 0 && isDgt c)) = false := (by simp [isLet, isDgt]; omega); rw [e] at hr; have hr2 : false = R := hr; subst hr2; clear e hr
          go_wp2
          go_ret
          exact ⟨rfl, rfl⟩
        · have k1 : ((k : Int) == 0) = false := beq_eq_false_iff_ne.2 (by omega)
          have f95 : ((c : Int) == 95) = false := beq_eq_false_iff_ne.2 (by omega)
          have e : (isLet c || (k != 0 && isDgt c)) = true := (by simp [isLet, isDgt]; omega)
          rw [e, Bool.true_and] at hr
          have HR := Lib.hid hr
          clear e hr
          go_wp2
          go_round
          case rel => exact ⟨k + 1, by omega, by go_num, HR⟩
          case measure => simp [intOf]; omega
      · have f95 : ((c : Int) == 95) = false := beq_eq_false_iff_ne.2 (by omega)
        have e : (isLet c || (k != 0 && isDgt c)) = false := (by simp [isLet, isDgt]; omega); rw [e] at hr; have hr2 : false = R := hr; subst hr2; clear e hr; by_cases k0 : k = 0
        · subst k0
          go_wp2
          go_ret
          exact ⟨rfl, rfl⟩
        · have k1 : ((k : Int) == 0) = false := beq_eq_false_iff_ne.2 (by omega)
          go_wp2
          go_ret
          exact ⟨rfl, rfl⟩
      · have f95 : ((c : Int) == 95) = false := beq_eq_false_iff_ne.2 (by omega)
        have e : (isLet c || (k != 0 && isDgt c)) = true := (by simp [isLet, isDgt]; omega)
        rw [e, Bool.true_and] at hr
        have HR := Lib.hid hr
        clear e hr
        go_wp2
        go_round
        case rel => exact ⟨k + 1, by omega, by go_num, HR⟩
        case measure => simp [intOf]; omega
      · have f95 : ((c : Int) == 95) = false := beq_eq_false_iff_ne.2 (by omega)
        have f90 : decide ((c : Int) ≤ 90) = false := decide_eq_false (by omega)
        have e : (isLet c || (k != 0 && isDgt c)) = false := (by simp [isLet, isDgt]; omega); rw [e] at hr; have hr2 : false = R := hr; subst hr2; clear e hr; by_cases k0 : k = 0
        · subst k0
          go_wp2
          go_ret
          exact ⟨rfl, rfl⟩
        · have k1 : ((k : Int) == 0) = false := beq_eq_false_iff_ne.2 (by omega)
          go_wp2
          go_ret
          exact ⟨rfl, rfl⟩
      · subst q
        have e : (isLet 95 || (k != 0 && isDgt 95)) = true := rfl
        rw [e, Bool.true_and] at hr
        have HR := Lib.hid hr
        clear e hr
        go_wp2
        go_round
        case rel => exact ⟨k + 1, by omega, by go_num, HR⟩
        case measure => simp [intOf]; omega
      · have f95 : ((c : Int) == 95) = false := beq_eq_false_iff_ne.2 (by omega)
        have f90 : decide ((c : Int) ≤ 90) = false := decide_eq_false (by omega)
        have e : (isLet c || (k != 0 && isDgt c)) = false := (by simp [isLet, isDgt]; omega); rw [e] at hr; have hr2 : false = R := hr; subst hr2; clear e hr; by_cases k0 : k = 0
        · subst k0
          go_wp2
          go_ret
          exact ⟨rfl, rfl⟩
        · have k1 : ((k : Int) == 0) = false := beq_eq_false_iff_ne.2 (by omega)
          go_wp2
          go_ret
          exact ⟨rfl, rfl⟩
      · have f95 : ((c : Int) == 95) = false := beq_eq_false_iff_ne.2 (by omega)
        have e : (isLet c || (k != 0 && isDgt c)) = true := (by simp [isLet, isDgt]; omega)
        rw [e, Bool.true_and] at hr
        have HR := Lib.hid hr
        clear e hr
        go_wp2
        go_round
        case rel => exact ⟨k + 1, by omega, by go_num, HR⟩
        case measure => simp [intOf]; omega
      · have f95 : ((c : Int) == 95) = false := beq_eq_false_iff_ne.2 (by omega)
        have f90 : decide ((c : Int) ≤ 90) = false := decide_eq_false (by omega)
        have f122 : decide ((c : Int) ≤ 122) = false := decide_eq_false (by omega)
        have e : (isLet c || (k != 0 && isDgt c)) = false := (by simp [isLet, isDgt]; omega); rw [e] at hr; have hr2 : false = R := hr; subst hr2; clear e hr; by_cases k0 : k = 0
        · subst k0
          go_wp2
          go_ret
          exact ⟨rfl, rfl⟩
        · have k1 : ((k : Int) == 0) = false := beq_eq_false_iff_ne.2 (by omega)
          go_wp2
          go_ret
          exact ⟨rfl, rfl⟩
    · have e := HR.out
      rw [List.drop_eq_nil_of_le (by rw [← HZ.out]; omega), nameT] at e
      subst e
      go_wp2
      go_ret
      exact ⟨rfl, rfl⟩
/-- A name gets its value: a code, and the program then. -/
def namedV (p : Prg) (s : List UInt8) (v : Nat) : Nat × Prg := if isNameV s = false then (2, p) else if (findV p.vals s).isSome = true then (7, p) else (0, { p with vals := p.vals ++ [(s, v)], names := p.names ++ [(s, v)] })
/-- What a step over a program leaves. -/
def PrgPost (w : World) (B : Nat) (s : PS) (R : Nat × Prg) (e : Ending) (w' : World) : Prop :=
  e = .returned (.int .i64 (R.1 : Nat)) ∧ Turn s.ms w w' ∧ (R.1 = 0 → ∃ s' rs', s.nxt w s' ∧ PrgAt w' B s' R.2 rs')
theorem infoNm : (Tryd.prog.info? 50).map (fun i => (i.zero, i.size, i.bytes)) = some (some (.agg #[.string ⟨#[]⟩, .int .u32 0]), 2, 24) := by kernel_rfl
theorem infoSnm : (Tryd.prog.info? 35).map (·.size) = some 1 := by kernel_rfl
theorem own_valk {w : World} {B e k n : Nat} {v : Value} {xs : List Value} (h : w.ownsRow B e k v n xs) : ∃ A c, v = .slice A n c := by
  rcases h.2 with ⟨rfl, rfl⟩ | ⟨g, cap, cur, rfl, _⟩
  · exact ⟨none, 0, rfl⟩
  · exact ⟨_, cap, rfl⟩
theorem nmr_one (p : List UInt8 × Nat) : (nmrA p).all (·.oneCell') = true := by simp [nmrA, Value.oneCell']
theorem codeV {R : Nat × Prg} {c : Nat} {w w' : World} {B : Nat} {s : PS} (h : R.1 = c) (hc : c ≠ 0) (ht : Turn s.ms w w') : PrgPost w B s R (.returned (.int .i64 (c : Nat))) w' := ⟨by rw [h], ht, fun q => absurd (h.symm.trans q) hc⟩
set_option maxRecDepth 100000 in
set_option maxHeartbeats 4000000 in
theorem named_any (B : Nat) (s : PS) (p : Prg) (rs : List RowM) (x : List UInt8) (n : Nat) (w : World) (hp : PrgAt w B s p rs) (hx : x.length ≤ 1000000) (hn : n < 4294967296) (hvl : p.vals.length ≤ 1000000000) (hnl : p.names.length ≤ 1000000000) :
    Calls Tryd.prog 39 #[.pointer (some ⟨s.gP, 0, none⟩), .string (bs x), .int .u32 (n : Nat)] w fun e w' => PrgPost w B s (namedV p x n) e w' := by
  have HP := Lib.hid hp
  have i2 : w.cell? ⟨s.gP, 2, none⟩ = some (.map (some s.gM)) := cell_of_row w s.gP 2 _ _ _ hp.cells
  have i1 : w.cell? ⟨s.gP, 1, none⟩ = some s.nv := cell_of_row w s.gP 1 _ _ _ hp.cells
  obtain ⟨R, hR⟩ : ∃ R, namedV p x n = R := ⟨_, rfl⟩
  rw [hR]
  unfold namedV at hR
  by_cases h1 : isNameV x = false
  · rw [if_pos h1] at hR
    have HR := Lib.hid hR
    have HIN := Lib.hid h1
    clear hR h1 hp
    go_enter Tryd.func39, Tryd.ntmps39
    go_wp2_with (go_at_call 55; refine (isName_any x _ hx).mono ?_; rw [HIN.out]; rintro e w1 ⟨rfl, rfl⟩)
    go_ret
    exact codeV (by rw [← HR.out]) (by decide) (Turn.refl _ _)
  rw [if_neg h1] at hR
  have HIN : Hid (isNameV x = true) := Lib.hid (by simpa using h1)
  obtain ⟨r, hr⟩ : ∃ r, findV p.vals x = r := ⟨_, rfl⟩
  rw [hr] at hR
  have HF := Lib.hid hr
  cases r with
  | some q =>
    rw [if_pos (show (some q).isSome = true from rfl)] at hR
    have HR := Lib.hid hR
    clear hR h1 hp hr
    go_enter Tryd.func39, Tryd.ntmps39
    go_wp2_with (first | (go_at_call 55; refine (isName_any x _ hx).mono ?_; rw [HIN.out]; rintro e w1 ⟨rfl, rfl⟩) | (refine mapLook rfl _ _ rfl s.gM p.vals rfl HP.out.map x rfl hx (some q) HF.out ?_))
    go_ret
    exact codeV (by rw [← HR.out]) (by decide) (Turn.refl _ _)
  | none =>
    rw [if_neg (by simp)] at hR
    have HR := Lib.hid hR
    clear hR h1 hp hr
    go_enter Tryd.func39, Tryd.ntmps39
    go_upto_region 6 with (first | (go_at_call 55; refine (isName_any x _ hx).mono ?_; rw [HIN.out]; rintro e w1 ⟨rfl, rfl⟩) | (refine mapLook rfl _ _ rfl s.gM p.vals rfl HP.out.map x rfl hx none HF.out ?_))
    go_upto_region 7 with (refine mapPut rfl _ _ _ rfl s.gM p.vals rfl HP.out.map x rfl hx n rfl hn hvl HF.out ?_; intro w2 hm hgr; have HT : Hid (Turn s.ms w w2) := Lib.hid (Turn.of_grown hgr (fun k hk => by injection hk with hk; subst hk; exact s.mem_M)); replace HP := Lib.hid (HP.out.setMap hgr hm); replace i1 : w2.cell? ⟨s.gP, 1, none⟩ = some s.nv := cell_of_row w2 s.gP 1 _ _ _ HP.out.cells; clear hm hgr)
    go_wp2_with (first | (refine wlLit rfl 35 1 _ rfl (nmrA (x, n)) 50 (fun _ => by kernel_rfl) ?_; intro gN w3 hg1 hg2 ha hb; replace HP := keepP HP hb; replace HT := keepT HT hb; have HN := Lib.hid ha; clear ha hb hg1 hg2) | (refine appRow rfl _ _ 35 50 (.agg #[.string ⟨#[]⟩, .int .u32 0]) 2 24 rfl Tryd.underlying35 infoNm rfl (by decide) B s.nv p.names.length (nmsC p.names) rfl HP.out.names (nmrA (x, n)) rfl (nmr_one _) gN 1 rfl HN.out (by unfold maxLen; omega) (by omega) (Nat.le_trans (HP.out.ge _ s.mem_P) (Nat.le_of_lt (HP.out.lt _ s.mem_P))) ?_; intro v' w4 hown hgr hv; obtain ⟨A', c', rfl⟩ := own_valk hown; have HG : Hid (w4.heap[s.gP]? = some (.cells (prgA s _) 68 (0, 0))) := Lib.hid ((hgr.block _ (HP.out.lt _ s.mem_P) (fun q => (HP.out.PM.2.2.2.2.2.2.2.1 _ q.symm).1 rfl)).trans HP.out.cells); have HX := Lib.hid (And.intro hgr (And.intro hv hown)); clear hgr hv hown) | (refine cellStore rfl 35 _ _ rfl s.gP 1 rfl (.slice A' (p.names.length + 1) c') rfl rfl rfl HG.out (show 1 < 6 by decide) infoSnm ?_; intro w5 ha ho; have HZ := Lib.hid (HP.out.addName (Nat.le_trans (HP.out.ge _ s.mem_P) (Nat.le_of_lt (HP.out.lt _ s.mem_P))) HX.out.1 HX.out.2.1 HX.out.2.2 ho ha); clear ha ho HX HG HN))
    go_ret
    exact ⟨by rw [← HR.out]; rfl, HT.out.trans HZ.out.2.2 (fun k hk => .inl hk), fun _ => ⟨_, _, PS.nxt_trans (PS.nxt_refl w s) HZ.out.2.1 HT.out.size, by rw [← HR.out]; exact HZ.out.1⟩⟩
end Go.Proofs.YtaclidjhgpkmpaaDoor.My

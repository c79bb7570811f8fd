/- Walks: fields of a word are put (the pairs that an encoding wants). Plain: a field put into a word of which that field is empty. Walks: a field is put into a word; an instruction's word. What an instruction lays: plain; words for its walk. Walk: an instruction is laid. Words: images and their segments; an image that the call makes: its segments' row, and each segment's bytes apart from one another. -/
import Derived.Test.YtaclidjhgpkmpaaDoorAsmLast0
import Derived.Lib.EndianBits
import Derived.Test.YtaclidjhgpkmpaaDoorTextRight
import Derived.Test.YtaclidjhgpkmpaaDoorAsmValues
import Derived.Test.YtaclidjhgpkmpaaDoorAsmLastP
import Derived.Test.YtaclidjhgpkmpaaDoorTextParseW
import Derived.Deep.CutBlock
set_option linter.unusedVariables false
set_option linter.unusedSimpArgs false
namespace Go.Proofs.YtaclidjhgpkmpaaDoor.My
open Go.RowKit
def endL : List Int := [31, 26, 25, 22, 21, 18, 17, 14, 13, 0]
theorem clamp_in (n : Int) (w : World) (h : n ∈ endL) : Calls Tryd.prog 47 #[.int .i64 n, .int .i64 0, .int .i64 31] w fun e w' => e = .returned (.int .i64 n) ∧ w = w' := by
  unfold endL at h
  simp only [List.mem_cons, List.not_mem_nil, or_false] at h
  rcases h with rfl | rfl | rfl | rfl | rfl | rfl | rfl | rfl | rfl | rfl
  all_goals
    go_enter Tryd.func47, Tryd.ntmps47
    go_wp2
    go_ret
    exact ⟨rfl, rfl⟩
theorem ones_in (n : Int) (w : World) (h : n ∈ [(4 : Int), 6, 14, 18]) : Calls Tryd.prog 48 #[.int .i64 n] w fun e w' => e = .returned (.int .u32 (2 ^ n.toNat - 1)) ∧ w = w' := by
  simp only [List.mem_cons, List.not_mem_nil, or_false] at h
  rcases h with rfl | rfl | rfl | rfl
  all_goals
    go_enter Tryd.func48, Tryd.ntmps48
    go_wp2
    go_ret
    exact ⟨rfl, rfl⟩
/-- What a mask is: a field of the word, and where it begins. -/
def maskV (hi lo : Int) : Int × Int := ((2 ^ (hi - lo + 1).toNat - 1) * 2 ^ lo.toNat, lo)
theorem mask_in (hi lo : Int) (w : World) (h : (hi, lo) ∈ [((31 : Int), (26 : Int)), (25, 22), (21, 18), (17, 14), (17, 0), (13, 0)]) : Calls Tryd.prog 31 #[.int .i64 hi, .int .i64 lo] w fun e w' => e = .returned (.tuple #[.int .u32 (maskV hi lo).1, .int .i64 (maskV hi lo).2]) ∧ w = w' := by
  simp only [List.mem_cons, Prod.mk.injEq, List.not_mem_nil, or_false] at h
  rcases h with ⟨rfl, rfl⟩ | ⟨rfl, rfl⟩ | ⟨rfl, rfl⟩ | ⟨rfl, rfl⟩ | ⟨rfl, rfl⟩ | ⟨rfl, rfl⟩
  all_goals
    go_enter Tryd.func31, Tryd.ntmps31
    go_wp2_with (first | (go_at_call 47; refine (clamp_in _ _ (by decide)).mono ?_; rintro e w1 ⟨rfl, rfl⟩) | (go_at_call 48; refine (ones_in _ _ (by decide)).mono ?_; rintro e w1 ⟨rfl, rfl⟩))
    go_ret2
    exact ⟨rfl, rfl⟩
end Go.Proofs.YtaclidjhgpkmpaaDoor.My
set_option linter.unusedVariables false
set_option linter.unusedSimpArgs false
namespace Go.Proofs.YtaclidjhgpkmpaaDoor.My
open Go.RowKit
theorem bits_without (x M k : Nat) (hM : M < 2 ^ k) (hk : k ≤ 32) (hd : x % 2 ^ k = 0) (hx : x < 4294967296) : bits .andNot .u32 (x : Int) (M : Int) = (x : Int) := by
  have e : BitVec.ofNat 32 x &&& ~~~(BitVec.ofNat 32 M) = BitVec.ofNat 32 x := by
    apply BitVec.eq_of_getLsbD_eq
    intro i hi
    rw [BitVec.getLsbD_and, BitVec.getLsbD_not, BitVec.getLsbD_ofNat, BitVec.getLsbD_ofNat]
    by_cases h : i < k
    · have h1 : x.testBit i = false := by
        have h2 := Nat.testBit_mod_two_pow x k i
        rw [hd] at h2
        simpa [h] using h2.symm
      simp [h1]
    · have h1 : M.testBit i = false := Nat.testBit_lt_two_pow (Nat.lt_of_lt_of_le hM (Nat.pow_le_pow_right (by decide) (by omega)))
      simp [h1, hi]
  have e2 : bits .andNot .u32 (x : Int) (M : Int) = IntKind.u32.wrap ((BitVec.ofNat 32 x &&& ~~~(BitVec.ofNat 32 M)).toNat : Int) := by
    simp only [bits, BitVec.ofInt_natCast]
    rfl
  rw [e2, e, BitVec.toNat_ofNat, Nat.mod_eq_of_lt (show x < 2 ^ 32 from hx)]
  exact wraps_u32 _ (by omega) (by omega)
theorem nat_field (v n lo : Nat) (h : n + lo ≤ 32) : ((v * 2 ^ lo) % 2 ^ 32) &&& ((2 ^ n - 1) * 2 ^ lo) = (v % 2 ^ n) * 2 ^ lo := by
  apply Nat.eq_of_testBit_eq
  intro i
  rw [Nat.testBit_and, Nat.testBit_mod_two_pow, Nat.testBit_mul_two_pow, Nat.testBit_mul_two_pow, Nat.testBit_mul_two_pow, Nat.testBit_two_pow_sub_one, Nat.testBit_mod_two_pow]
  by_cases h1 : lo ≤ i
  · by_cases h2 : i - lo < n
    · simp [h1, h2, show i < 32 by omega]
    · simp [h1, h2]
  · simp [h1]
/-- A field, put. -/
def putE (x v n lo : Nat) : Nat := x + v % 2 ^ n * 2 ^ lo
theorem field_lt (v n lo : Nat) (h : n + lo ≤ 32) : v % 2 ^ n * 2 ^ lo < 2 ^ (n + lo) := by
  rw [Nat.pow_add]
  exact Nat.mul_lt_mul_of_pos_right (Nat.mod_lt _ (Nat.two_pow_pos n)) (Nat.two_pow_pos lo)
theorem bits_field (v n lo : Nat) (h : n + lo ≤ 32) (a b : Int) (ha : a = (((v * 2 ^ lo) % 2 ^ 32 : Nat) : Int)) (hb : b = (((2 ^ n - 1) * 2 ^ lo : Nat) : Int)) : bits .and .u32 a b = ((v % 2 ^ n * 2 ^ lo : Nat) : Int) := by
  subst ha hb
  have h1 : (2 ^ n - 1) * 2 ^ lo < 2 ^ 32 := by
    have h2 : (2 ^ n - 1) * 2 ^ lo < 2 ^ n * 2 ^ lo := Nat.mul_lt_mul_of_pos_right (Nat.sub_lt (Nat.two_pow_pos n) (by decide)) (Nat.two_pow_pos lo)
    rw [← Nat.pow_add] at h2
    exact Nat.lt_of_lt_of_le h2 (Nat.pow_le_pow_right (by decide) h)
  rw [(bits_nat .u32 32 (by decide) wraps_u32 _ _ (Nat.mod_lt _ (by decide)) h1).1, nat_field v n lo h]
theorem bits_fill (x v n lo : Nat) (h : n + lo ≤ 32) (hd : x % 2 ^ (n + lo) = 0) (hx : x < 4294967296) : bits .or .u32 (x : Int) ((v % 2 ^ n * 2 ^ lo : Nat) : Int) = (putE x v n lo : Nat) := by
  have h1 := field_lt v n lo h
  have h2 : v % 2 ^ n * 2 ^ lo < 2 ^ 32 := Nat.lt_of_lt_of_le h1 (Nat.pow_le_pow_right (by decide) h)
  have := bits_join .u32 32 (by decide) wraps_u32 (n + lo) (x : Int) ((v % 2 ^ n * 2 ^ lo : Nat) : Int) (by omega) (by exact_mod_cast hd) (by omega) (by omega) (by exact_mod_cast h1) (by exact_mod_cast h2)
  rw [this]
  unfold putE
  push_cast
  rfl
theorem putE_lt (x v n lo : Nat) (h : n + lo ≤ 32) (hd : x % 2 ^ (n + lo) = 0) (hx : x < 4294967296) : putE x v n lo < 4294967296 := by
  have h1 := field_lt v n lo h
  have h3 := Nat.div_add_mod x (2 ^ (n + lo))
  obtain ⟨d, hd2⟩ : ∃ d, n + lo + d = 32 := ⟨32 - (n + lo), by omega⟩
  have h4 : (2 : Nat) ^ 32 = 2 ^ (n + lo) * 2 ^ d := by rw [← Nat.pow_add, hd2]
  have h5 : x / 2 ^ (n + lo) < 2 ^ d := by
    rw [Nat.div_lt_iff_lt_mul (Nat.two_pow_pos _), Nat.mul_comm, ← h4]
    exact hx
  have h6 : 2 ^ (n + lo) * (x / 2 ^ (n + lo)) + 2 ^ (n + lo) ≤ 2 ^ 32 := by
    rw [h4, ← Nat.mul_succ]
    exact Nat.mul_le_mul_left _ h5
  unfold putE
  have h7 : (2 : Nat) ^ 32 = 4294967296 := by decide
  omega
end Go.Proofs.YtaclidjhgpkmpaaDoor.My
set_option linter.unusedVariables false
set_option linter.unusedSimpArgs false
namespace Go.Proofs.YtaclidjhgpkmpaaDoor.My
open Go.RowKit
theorem shlW (v l : Nat) (hl : l = 26 ∨ l = 22 ∨ l = 18 ∨ l = 14 ∨ l = 0) (w : World) : (Op.shift .shl .u32 (v : Int) .i64 (l : Int)).run Tryd.prog w = .ok (.int .u32 (((v * 2 ^ l) % 2 ^ 32 : Nat) : Int)) w := by
  rcases hl with rfl | rfl | rfl | rfl | rfl <;> simp [IntKind.wrap_u32]
theorem put_in (hi lo M : Int) (n l x v : Nat) (w : World) (h : (hi, lo) ∈ [((31 : Int), (26 : Int)), (25, 22), (21, 18), (17, 14), (17, 0), (13, 0)]) (hM : maskV hi lo = (M, lo)) (hMn : M = (((2 ^ n - 1) * 2 ^ l : Nat) : Int)) (hl : lo = (l : Int)) (hn : n + l ≤ 32) (hd : x % 2 ^ (n + l) = 0) (hx : x < 4294967296) (hv : v < 4294967296) :
    Calls Tryd.prog 16 #[.int .u32 (x : Nat), .int .i64 hi, .int .i64 lo, .int .u32 (v : Nat)] w fun e w' => e = .returned (.int .u32 (putE x v n l : Nat)) ∧ w = w' := by
  have HM : Hid (∀ w, Calls Tryd.prog 31 #[.int .i64 hi, .int .i64 lo] w fun e w' => e = .returned (.tuple #[.int .u32 M, .int .i64 lo]) ∧ w = w') := Lib.hid (fun w => by have := mask_in hi lo w h; rw [hM] at this; exact this)
  have hM1 : M.toNat < 2 ^ (n + l) := by
    rw [hMn, Int.toNat_natCast, Nat.pow_add]
    exact Nat.mul_lt_mul_of_pos_right (Nat.sub_lt (Nat.two_pow_pos n) (by decide)) (Nat.two_pow_pos l)
  have hMc : ((M.toNat : Nat) : Int) = M := by rw [hMn, Int.toNat_natCast]
  have e1 : bits .andNot .u32 (x : Int) M = (x : Int) := by have := bits_without x M.toNat (n + l) hM1 hn hd hx; rwa [hMc] at this
  obtain ⟨Y, hY⟩ : ∃ Y : Int, Y = (((v * 2 ^ l) % 2 ^ 32 : Nat) : Int) := ⟨_, rfl⟩
  have e2 : bits .and .u32 Y M = ((v % 2 ^ n * 2 ^ l : Nat) : Int) := bits_field v n l hn Y M hY hMn
  obtain ⟨Z, hZ⟩ : ∃ Z : Int, ((v % 2 ^ n * 2 ^ l : Nat) : Int) = Z := ⟨_, rfl⟩
  have e3 := bits_fill x v n l hn hd hx
  rw [hZ] at e2 e3
  obtain ⟨R, hR⟩ : ∃ R : Int, ((putE x v n l : Nat) : Int) = R := ⟨_, rfl⟩
  rw [hR] at e3 ⊢
  have hl5 : l = 26 ∨ l = 22 ∨ l = 18 ∨ l = 14 ∨ l = 0 := by
    simp only [List.mem_cons, Prod.mk.injEq, List.not_mem_nil, or_false] at h
    omega
  have hsh := shlW v l hl5 w
  rw [← hY, ← hl] at hsh
  clear hM hMn hM1 hMc hd hZ hR hY h hl hn hl5
  go_enter Tryd.func16, Tryd.ntmps16
  go_wp2_with (go_at_call 31; refine (HM.out _).mono ?_; rintro e w1 ⟨rfl, rfl⟩)
  go_ret
  exact ⟨rfl, rfl⟩
theorem put_first (v : Nat) (w : World) (hv : v < 4294967296) : Calls Tryd.prog 16 #[.int .u32 0, .int .i64 31, .int .i64 26, .int .u32 (v : Nat)] w fun e w' => e = .returned (.int .u32 (putE 0 v 6 26 : Nat)) ∧ w = w' :=
  put_in 31 26 4227858432 6 26 0 v w (by decide) (by decide) (by decide) rfl (by decide) (by decide) (by decide) hv
theorem width_any (op : Int) (w : World) : Calls Tryd.prog 18 #[.int .i64 op] w fun e w' => e = .returned (.int .i64 (if formV op = 5 then 18 else 14)) ∧ w = w' := by
  obtain ⟨F, hF⟩ : ∃ F, formV op = F := ⟨_, rfl⟩
  rw [hF]
  have HF := Lib.hid hF
  clear hF
  by_cases h : F = 5
  · rw [if_pos h]
    have h1 : (F == 5) = true := beq_iff_eq.2 h
    clear h
    go_enter Tryd.func18, Tryd.ntmps18
    go_wp2_with (go_at_call 20; refine (form_any op _).mono ?_; rw [HF.out]; rintro e w1 ⟨rfl, rfl⟩)
    go_ret
    exact ⟨rfl, rfl⟩
  · rw [if_neg h]
    have h1 : (F == 5) = false := beq_eq_false_iff_ne.2 h
    clear h
    go_enter Tryd.func18, Tryd.ntmps18
    go_wp2_with (go_at_call 20; refine (form_any op _).mono ?_; rw [HF.out]; rintro e w1 ⟨rfl, rfl⟩)
    go_ret
    exact ⟨rfl, rfl⟩
/-- An instruction's word. -/
def encW (op rd ra rb im : Int) : Nat :=
  if hasV (formV op) 8 = true then putE (putE (putE (putE (putE 0 op.toNat 6 26) rd.toNat 4 22) ra.toNat 4 18) rb.toNat 4 14) (im % 4294967296).toNat (if formV op = 5 then 18 else 14) 0
  else putE (putE (putE (putE 0 op.toNat 6 26) rd.toNat 4 22) ra.toNat 4 18) rb.toNat 4 14
theorem right_parts {op rd ra rb im : Int} (h : rightI op rd ra rb im = 0) : (1 ≤ op ∧ op ≤ 63) ∧ (0 ≤ rd ∧ rd ≤ 15) ∧ (0 ≤ ra ∧ ra ≤ 15) ∧ (0 ≤ rb ∧ rb ≤ 15) ∧ (hasV (formV op) 4 = false → rb = 0) := by
  have key : ∀ F b n : Int, ¬ badR F b n = true → (0 ≤ n ∧ n ≤ 15) ∧ (hasV F b = false → n = 0) := fun F b n hb => by
    unfold badR at hb
    simp only [Bool.or_eq_true, decide_eq_true_eq, Bool.and_eq_true, Bool.not_eq_true', bne_iff_ne, ne_eq, not_or, not_and, Decidable.not_not] at hb
    exact ⟨⟨by omega, by omega⟩, hb.2⟩
  unfold rightI at h
  split at h
  · cases h
  rename_i h0
  split at h
  · cases h
  rename_i h1
  split at h
  · cases h
  rename_i h2
  split at h
  · cases h
  rename_i h3
  refine ⟨?_, (key _ _ _ h1).1, (key _ _ _ h2).1, (key _ _ _ h3).1, (key _ _ _ h3).2⟩
  unfold formV at h0
  split at h0
  · exact absurd rfl h0
  · omega
theorem form5 {F : Int} (h : F = 5) : hasV F 4 = false := by subst h; decide
theorem enc_wrong (op rd ra rb im : Int) (w : World) (ht : FieldsAt w) (h : ¬ rightI op rd ra rb im = 0) : Calls Tryd.prog 7 #[.agg (insA op rd ra rb im)] w fun e w' => e = .returned (.tuple #[.int .u32 0, .int .i64 (rightI op rd ra rb im : Nat)]) ∧ Below w.heap.size w w' := by
  have HB := startB w
  have HFT := Lib.hid ht
  obtain ⟨R, hR⟩ : ∃ R, rightI op rd ra rb im = R := ⟨_, rfl⟩
  rw [hR] at h ⊢
  have HRI := Lib.hid hR
  have h1 : ¬ ((R : Int) = 0) := by omega
  have h2 : ((R : Int) != 0) = true := bne_iff_ne.2 h1
  clear hR ht h
  go_enter Tryd.func7, Tryd.ntmps7
  go_wp2_with (first | (refine wlBox (by rfl) 30 _ rfl (insA op rd ra rb im) rfl ?_; intro gI w1 hg hl ha hb; replace HFT := Lib.hid (HFT.out.below hb); replace HB := keepB HB hb; have HI := Lib.hid ha; clear ha hb hg hl) | (refine rowLoad (by rfl) 30 _ rfl gI rfl (cs := insA op rd ra rb im) HI.out Tryd.underlying30 rfl infoIn ?_) | (go_at_call 15; refine (right_any op rd ra rb im _ HFT.out).mono ?_; rw [HRI.out]; rintro e w2 ⟨rfl, hb⟩; replace HFT := Lib.hid (HFT.out.below hb); replace HB := keepB HB hb; replace HI := keepA HI hb; have i0 : w2.cell? ⟨gI, 0, none⟩ = some (.int .i64 op) := cellA HI 0; have i1 : w2.cell? ⟨gI, 1, none⟩ = some (.int .i64 rd) := cellA HI 1; have i2 : w2.cell? ⟨gI, 2, none⟩ = some (.int .i64 ra) := cellA HI 2; have i3 : w2.cell? ⟨gI, 3, none⟩ = some (.int .i64 rb) := cellA HI 3; have i4 : w2.cell? ⟨gI, 4, none⟩ = some (.int .i64 im) := cellA HI 4; clear hb))
  go_ret2
  exact ⟨rfl, HB.out.1⟩
set_option maxRecDepth 100000 in
set_option maxHeartbeats 4000000 in
theorem enc_right (op rd ra rb im : Int) (w : World) (ht : FieldsAt w) (h : rightI op rd ra rb im = 0) : Calls Tryd.prog 7 #[.agg (insA op rd ra rb im)] w fun e w' => e = .returned (.tuple #[.int .u32 (encW op rd ra rb im : Nat), .int .i64 0]) ∧ Below w.heap.size w w' := by
  have HB := startB w
  have HFT := Lib.hid ht
  have HRI := Lib.hid h
  obtain ⟨⟨o1, o2⟩, ⟨d1, d2⟩, ⟨a1, a2⟩, ⟨c1, c2⟩, hc0⟩ := right_parts h
  obtain ⟨Z, hZ⟩ : ∃ Z, encW op rd ra rb im = Z := ⟨_, rfl⟩
  rw [hZ]
  unfold encW at hZ
  have HC0 := Lib.hid hc0
  obtain ⟨O, rfl⟩ : ∃ O : Nat, op = O := ⟨op.toNat, by omega⟩
  obtain ⟨D, rfl⟩ : ∃ D : Nat, rd = D := ⟨rd.toNat, by omega⟩
  obtain ⟨A, rfl⟩ : ∃ A : Nat, ra = A := ⟨ra.toNat, by omega⟩
  obtain ⟨C, rfl⟩ : ∃ C : Nat, rb = C := ⟨rb.toNat, by omega⟩
  obtain ⟨M, hMe⟩ : ∃ M, (im % 4294967296).toNat = M := ⟨_, rfl⟩
  rw [Int.toNat_natCast, Int.toNat_natCast, Int.toNat_natCast, Int.toNat_natCast, hMe] at hZ
  have hO : O < 4294967296 := by omega
  have hD : D < 4294967296 := by omega
  have hA : A < 4294967296 := by omega
  have hC : C < 4294967296 := by omega
  have hM : M < 4294967296 := by omega
  have qM : IntKind.u32.wrap im = (M : Int) := by rw [IntKind.wrap_u32]; omega
  have q17 : IntKind.i64.wrap 17 = 17 := by decide
  have q13 : IntKind.i64.wrap 13 = 13 := by decide
  have hC0 : HC0.out = HC0.out := rfl
  have hCz : Hid (hasV (formV (O : Int)) 4 = false → C = 0) := Lib.hid (fun q => by have := HC0.out q; omega)
  obtain ⟨X1, hX1e⟩ : ∃ X, putE 0 O 6 26 = X := ⟨_, rfl⟩
  have hX1 := putE_lt 0 O 6 26 (by decide) (by decide) (by decide)
  have hm1 : putE 0 O 6 26 % 2 ^ (4 + 22) = 0 := by unfold putE; omega
  rw [hX1e] at hX1 hm1 hZ
  obtain ⟨X2, hX2e⟩ : ∃ X, putE X1 D 4 22 = X := ⟨_, rfl⟩
  have hX2 := putE_lt X1 D 4 22 (by decide) hm1 hX1
  have hm2 : putE X1 D 4 22 % 2 ^ (4 + 18) = 0 := by unfold putE; omega
  rw [hX2e] at hX2 hm2 hZ
  obtain ⟨X3, hX3e⟩ : ∃ X, putE X2 A 4 18 = X := ⟨_, rfl⟩
  have hX3 := putE_lt X2 A 4 18 (by decide) hm2 hX2
  have hm3 : putE X2 A 4 18 % 2 ^ (4 + 14) = 0 := by unfold putE; omega
  rw [hX3e] at hX3 hm3 hZ
  obtain ⟨X4, hX4e⟩ : ∃ X, putE X3 C 4 14 = X := ⟨_, rfl⟩
  have hX4 := putE_lt X3 C 4 14 (by decide) hm3 hX3
  have hm4 : putE X3 C 4 14 % 2 ^ (14 + 0) = 0 := by unfold putE; omega
  have hm5 : C = 0 → putE X3 C 4 14 % 2 ^ (18 + 0) = 0 := fun q => by subst q; unfold putE; omega
  rw [hX4e] at hX4 hm4 hm5 hZ
  have HX1 : Hid (putE 0 O 6 26 = X1) := Lib.hid hX1e
  have HX2 := Lib.hid hX2e
  have HX3 := Lib.hid hX3e
  have HX4 := Lib.hid hX4e
  have HM1 := Lib.hid hm1
  have HM2 := Lib.hid hm2
  have HM3 := Lib.hid hm3
  have HM4 := Lib.hid hm4
  have HM5 := Lib.hid hm5
  clear hX1e hX2e hX3e hX4e hm1 hm2 hm3 hm4 hm5 hc0 hC0 ht h hMe HC0 o1 o2 d1 d2 a1 a2 c1 c2
  obtain ⟨H, hH⟩ : ∃ H, hasV (formV (O : Int)) 8 = H := ⟨_, rfl⟩
  rw [hH] at hZ
  have HH := Lib.hid hH
  clear hH
  cases H with
  | false =>
    have e : X4 = Z := hZ
    subst e
    clear hZ
    go_enter Tryd.func7, Tryd.ntmps7
    go_upto_region 4 with (first | (refine wlBox (by rfl) 30 _ rfl (insA (O : Int) (D : Int) (A : Int) (C : Int) im) rfl ?_; intro gI w1 hg hl ha hb; replace HFT := Lib.hid (HFT.out.below hb); replace HB := keepB HB hb; have HI := Lib.hid ha; clear ha hb hg hl) | (refine rowLoad (by rfl) 30 _ rfl gI rfl (cs := (insA (O : Int) (D : Int) (A : Int) (C : Int) im)) HI.out Tryd.underlying30 rfl infoIn ?_) | (go_at_call 15; refine (right_any (O : Int) (D : Int) (A : Int) (C : Int) im _ HFT.out).mono ?_; rw [HRI.out]; rintro e w2 ⟨rfl, hb⟩; replace HFT := Lib.hid (HFT.out.below hb); replace HB := keepB HB hb; replace HI := keepA HI hb; have i0 : w2.cell? ⟨gI, 0, none⟩ = some (.int .i64 (O : Int)) := cellA HI 0; have i1 : w2.cell? ⟨gI, 1, none⟩ = some (.int .i64 (D : Int)) := cellA HI 1; have i2 : w2.cell? ⟨gI, 2, none⟩ = some (.int .i64 (A : Int)) := cellA HI 2; have i3 : w2.cell? ⟨gI, 3, none⟩ = some (.int .i64 (C : Int)) := cellA HI 3; have i4 : w2.cell? ⟨gI, 4, none⟩ = some (.int .i64 im) := cellA HI 4; clear hb))
    go_upto_region 5 with (go_at_call 16; refine (put_first O _ hO).mono ?_; rw [HX1.out]; rintro e w3 ⟨rfl, rfl⟩)
    go_upto_region 6 with (go_at_call 16; refine (put_in 25 22 62914560 4 22 X1 D _ (by decide) (by decide) (by decide) rfl (by decide) HM1.out hX1 hD).mono ?_; rw [HX2.out]; rintro e w3 ⟨rfl, rfl⟩)
    go_upto_region 7 with (go_at_call 16; refine (put_in 21 18 3932160 4 18 X2 A _ (by decide) (by decide) (by decide) rfl (by decide) HM2.out hX2 hA).mono ?_; rw [HX3.out]; rintro e w3 ⟨rfl, rfl⟩)
    go_upto_region 8 with (go_at_call 16; refine (put_in 17 14 245760 4 14 X3 C _ (by decide) (by decide) (by decide) rfl (by decide) HM3.out hX3 hC).mono ?_; rw [HX4.out]; rintro e w3 ⟨rfl, rfl⟩)
    go_wp2_with (go_at_call 17; refine (has_any (O : Int) 8 _ HFT.out).mono ?_; rw [HH.out]; rintro e w5 ⟨rfl, rfl⟩)
    go_ret2
    exact ⟨rfl, HB.out.1⟩
  | true =>
    rw [if_pos rfl] at hZ
    by_cases h5 : formV (O : Int) = 5
    · have HWD : Hid ((if formV (O : Int) = 5 then (18 : Int) else 14) = 18) := Lib.hid (if_pos h5)
      rw [if_pos h5] at hZ
      have hm := HM5.out (hCz.out (form5 h5))
      have HM6 := Lib.hid hm
      have HZ := Lib.hid hZ
      clear hm hZ h5
      go_enter Tryd.func7, Tryd.ntmps7
      go_upto_region 4 with (first | (refine wlBox (by rfl) 30 _ rfl (insA (O : Int) (D : Int) (A : Int) (C : Int) im) rfl ?_; intro gI w1 hg hl ha hb; replace HFT := Lib.hid (HFT.out.below hb); replace HB := keepB HB hb; have HI := Lib.hid ha; clear ha hb hg hl) | (refine rowLoad (by rfl) 30 _ rfl gI rfl (cs := (insA (O : Int) (D : Int) (A : Int) (C : Int) im)) HI.out Tryd.underlying30 rfl infoIn ?_) | (go_at_call 15; refine (right_any (O : Int) (D : Int) (A : Int) (C : Int) im _ HFT.out).mono ?_; rw [HRI.out]; rintro e w2 ⟨rfl, hb⟩; replace HFT := Lib.hid (HFT.out.below hb); replace HB := keepB HB hb; replace HI := keepA HI hb; have i0 : w2.cell? ⟨gI, 0, none⟩ = some (.int .i64 (O : Int)) := cellA HI 0; have i1 : w2.cell? ⟨gI, 1, none⟩ = some (.int .i64 (D : Int)) := cellA HI 1; have i2 : w2.cell? ⟨gI, 2, none⟩ = some (.int .i64 (A : Int)) := cellA HI 2; have i3 : w2.cell? ⟨gI, 3, none⟩ = some (.int .i64 (C : Int)) := cellA HI 3; have i4 : w2.cell? ⟨gI, 4, none⟩ = some (.int .i64 im) := cellA HI 4; clear hb))
      go_upto_region 5 with (go_at_call 16; refine (put_first O _ hO).mono ?_; rw [HX1.out]; rintro e w3 ⟨rfl, rfl⟩)
      go_upto_region 6 with (go_at_call 16; refine (put_in 25 22 62914560 4 22 X1 D _ (by decide) (by decide) (by decide) rfl (by decide) HM1.out hX1 hD).mono ?_; rw [HX2.out]; rintro e w3 ⟨rfl, rfl⟩)
      go_upto_region 7 with (go_at_call 16; refine (put_in 21 18 3932160 4 18 X2 A _ (by decide) (by decide) (by decide) rfl (by decide) HM2.out hX2 hA).mono ?_; rw [HX3.out]; rintro e w3 ⟨rfl, rfl⟩)
      go_upto_region 8 with (go_at_call 16; refine (put_in 17 14 245760 4 14 X3 C _ (by decide) (by decide) (by decide) rfl (by decide) HM3.out hX3 hC).mono ?_; rw [HX4.out]; rintro e w3 ⟨rfl, rfl⟩)
      go_upto_region 9 with (go_at_call 17; refine (has_any (O : Int) 8 _ HFT.out).mono ?_; rw [HH.out]; rintro e w5 ⟨rfl, rfl⟩)
      replace HB := keepB HB (belowD _)
      replace HI := keepA HI (belowD _)
      clear i0 i1 i2 i3 i4
      refine rgStart (S := (fun w' => w'.heap[gI]? = some (.cells (insA (O : Int) (D : Int) (A : Int) (C : Int) im) 30 (0, 0)))) (n := 10) #[false, false, false, false, false, false, false, false, false, false] (by kernel_rfl) rfl rfl HI.out (fun hHeld => ?_)
      refine rgTake (i := 0) (N := some 33) (oi := { dst := some 33, op := Op.move (Operand.tmp 5), type := 25, pos := "inst.go:104", after := #[], guard := none }) (v := ?_) #[true, false, false, false, false, false, false, false, false, false] rfl rfl (by kernel_rfl) (fun _ _ _ h => h) (Or.inl ⟨by rfl, ?_⟩) hHeld ?_
      rotate_left
      · intro w' hSw; (try dsimp only at hSw); (have i0 : w'.cell? ⟨gI, 0, none⟩ = some (.int .i64 (O : Int)) := cell_of_row _ gI 0 _ _ _ hSw); have i4 : w'.cell? ⟨gI, 4, none⟩ = some (.int .i64 im) := cell_of_row _ gI 4 _ _ _ hSw; go_simp; try with_reducible rfl
      simp only [Act.put, List.setIfInBounds_toArray, List.set_cons_zero, List.set_cons_succ]
      refine rgTake (i := 1) (N := some 34) (oi := { dst := some 34, op := Op.fieldAddr 30 (Operand.tmp 1) 0, type := 0, pos := "inst.go:104", after := #[], guard := none }) (v := ?_) #[true, true, false, false, false, false, false, false, false, false] rfl rfl (by kernel_rfl) (fun _ _ _ h => h) (Or.inl ⟨by rfl, ?_⟩) hHeld ?_
      rotate_left
      · intro w' hSw; (try dsimp only at hSw); (have i0 : w'.cell? ⟨gI, 0, none⟩ = some (.int .i64 (O : Int)) := cell_of_row _ gI 0 _ _ _ hSw); have i4 : w'.cell? ⟨gI, 4, none⟩ = some (.int .i64 im) := cell_of_row _ gI 4 _ _ _ hSw; go_simp; try with_reducible rfl
      simp only [Act.put, List.setIfInBounds_toArray, List.set_cons_zero, List.set_cons_succ]
      refine rgTake (i := 2) (N := some 35) (oi := { dst := some 35, op := Op.load 3 (Operand.tmp 34), type := 3, pos := "inst.go:104", after := #[{ on := 1, ground := Ground.data }], guard := none }) (v := ?_) #[true, true, true, false, false, false, false, false, false, false] rfl rfl (by kernel_rfl) (fun _ _ _ h => h) (Or.inl ⟨by rfl, ?_⟩) hHeld ?_
      rotate_left
      · intro w' hSw; (try dsimp only at hSw); (have i0 : w'.cell? ⟨gI, 0, none⟩ = some (.int .i64 (O : Int)) := cell_of_row _ gI 0 _ _ _ hSw); have i4 : w'.cell? ⟨gI, 4, none⟩ = some (.int .i64 im) := cell_of_row _ gI 4 _ _ _ hSw; go_simp; try with_reducible rfl
      simp only [Act.put, List.setIfInBounds_toArray, List.set_cons_zero, List.set_cons_succ]
      refine rgTake (i := 5) (N := some 38) (oi := { dst := some 38, op := Op.fieldAddr 30 (Operand.tmp 1) 4, type := 0, pos := "inst.go:104", after := #[], guard := none }) (v := ?_) #[true, true, true, false, false, true, false, false, false, false] rfl rfl (by kernel_rfl) (fun _ _ _ h => h) (Or.inl ⟨by rfl, ?_⟩) hHeld ?_
      rotate_left
      · intro w' hSw; (try dsimp only at hSw); (have i0 : w'.cell? ⟨gI, 0, none⟩ = some (.int .i64 (O : Int)) := cell_of_row _ gI 0 _ _ _ hSw); have i4 : w'.cell? ⟨gI, 4, none⟩ = some (.int .i64 im) := cell_of_row _ gI 4 _ _ _ hSw; go_simp; try with_reducible rfl
      simp only [Act.put, List.setIfInBounds_toArray, List.set_cons_zero, List.set_cons_succ]
      refine rgTake (i := 6) (N := some 39) (oi := { dst := some 39, op := Op.load 3 (Operand.tmp 38), type := 3, pos := "inst.go:104", after := #[{ on := 5, ground := Ground.data }], guard := none }) (v := ?_) #[true, true, true, false, false, true, true, false, false, false] rfl rfl (by kernel_rfl) (fun _ _ _ h => h) (Or.inl ⟨by rfl, ?_⟩) hHeld ?_
      rotate_left
      · intro w' hSw; (try dsimp only at hSw); (have i0 : w'.cell? ⟨gI, 0, none⟩ = some (.int .i64 (O : Int)) := cell_of_row _ gI 0 _ _ _ hSw); have i4 : w'.cell? ⟨gI, 4, none⟩ = some (.int .i64 im) := cell_of_row _ gI 4 _ _ _ hSw; go_simp; try with_reducible rfl
      simp only [Act.put, List.setIfInBounds_toArray, List.set_cons_zero, List.set_cons_succ]
      refine rgTake (i := 7) (N := some 40) (oi := { dst := some 40, op := Op.convert 3 25 (Operand.tmp 39), type := 25, pos := "inst.go:104", after := #[{ on := 6, ground := Ground.data }], guard := none }) (v := ?_) #[true, true, true, false, false, true, true, true, false, false] rfl rfl (by kernel_rfl) (fun _ _ _ h => h) (Or.inl ⟨by rfl, ?_⟩) hHeld ?_
      rotate_left
      · intro w' hSw; (try dsimp only at hSw); (have i0 : w'.cell? ⟨gI, 0, none⟩ = some (.int .i64 (O : Int)) := cell_of_row _ gI 0 _ _ _ hSw); have i4 : w'.cell? ⟨gI, 4, none⟩ = some (.int .i64 im) := cell_of_row _ gI 4 _ _ _ hSw; go_simp; try with_reducible rfl
      simp only [Act.put, List.setIfInBounds_toArray, List.set_cons_zero, List.set_cons_succ]
      refine rgCall (i := 3) (N := some 36) (oi := { dst := some 36, op := Op.call { callee := Callee.value (Operand.func 18), args := #[Operand.tmp 35], argTypes := #[3] }, type := 3, pos := "inst.go:104", after := #[{ on := 2, ground := Ground.data }], guard := none }) #[true, true, true, true, false, true, true, true, false, false] rfl rfl (by kernel_rfl) (fun K hK => ?_)
      go_simp
      (go_at_call 18; refine (width_any (O : Int) _).mono ?_; rw [HWD.out]; rintro e w5 ⟨rfl, rfl⟩)
      refine hK.out _ _ HI.out (fun hHeld => ?_)
      (try simp only [Act.put, List.setIfInBounds_toArray, List.set_cons_zero, List.set_cons_succ])
      clear hK K
      refine rgTake (i := 4) (N := some 37) (oi := { dst := some 37, op := Op.binOp BinOp.sub 3 (Operand.tmp 36) (Operand.const (Value.int IntKind.i64 1)) 3, type := 3, pos := "inst.go:104", after := #[{ on := 3, ground := Ground.data }], guard := none }) (v := ?_) #[true, true, true, true, true, true, true, true, false, false] rfl rfl (by kernel_rfl) (fun _ _ _ h => h) (Or.inl ⟨by rfl, ?_⟩) hHeld ?_
      rotate_left
      · intro w' hSw; (try dsimp only at hSw); (have i0 : w'.cell? ⟨gI, 0, none⟩ = some (.int .i64 (O : Int)) := cell_of_row _ gI 0 _ _ _ hSw); have i4 : w'.cell? ⟨gI, 4, none⟩ = some (.int .i64 im) := cell_of_row _ gI 4 _ _ _ hSw; go_simp; try with_reducible rfl
      simp only [Act.put, List.setIfInBounds_toArray, List.set_cons_zero, List.set_cons_succ]
      refine rgCall (i := 8) (N := some 41) (oi := { dst := some 41, op := Op.call { callee := Callee.value (Operand.func 16), args := #[Operand.tmp 33, Operand.tmp 37, Operand.const (Value.int IntKind.i64 0), Operand.tmp 40], argTypes := #[25, 3, 3, 25] }, type := 25, pos := "inst.go:104", after := #[{ on := 0, ground := Ground.data }, { on := 4, ground := Ground.data }, { on := 7, ground := Ground.data }, { on := 3, ground := Ground.chain }], guard := none }) #[true, true, true, true, true, true, true, true, true, false] rfl rfl (by kernel_rfl) (fun K hK => ?_)
      go_simp
      (go_at_call 16; refine (put_in 17 0 262143 18 0 X4 M _ (by decide) (by decide) (by decide) rfl (by decide) HM6.out hX4 hM).mono ?_; rw [HZ.out]; rintro e w3 ⟨rfl, rfl⟩)
      refine hK.out _ _ HI.out (fun hHeld => ?_)
      (try simp only [Act.put, List.setIfInBounds_toArray, List.set_cons_zero, List.set_cons_succ])
      clear hK K
      refine rgTake (i := 9) (N := some 5) (oi := { dst := some 5, op := Op.assign (Operand.tmp 41), type := 25, pos := "inst.go:104", after := #[{ on := 8, ground := Ground.data }, { on := 8, ground := Ground.chain }, { on := 0, ground := Ground.phase }, { on := 1, ground := Ground.phase }, { on := 2, ground := Ground.phase }, { on := 3, ground := Ground.phase }, { on := 4, ground := Ground.phase }, { on := 5, ground := Ground.phase }, { on := 6, ground := Ground.phase }, { on := 7, ground := Ground.phase }, { on := 8, ground := Ground.phase }], guard := none }) (v := ?_) #[true, true, true, true, true, true, true, true, true, true] rfl rfl (by kernel_rfl) (fun _ _ _ h => h) (Or.inl ⟨by rfl, ?_⟩) hHeld ?_
      rotate_left
      · intro w' hSw; (try dsimp only at hSw); (have i0 : w'.cell? ⟨gI, 0, none⟩ = some (.int .i64 (O : Int)) := cell_of_row _ gI 0 _ _ _ hSw); have i4 : w'.cell? ⟨gI, 4, none⟩ = some (.int .i64 im) := cell_of_row _ gI 4 _ _ _ hSw; go_simp; try with_reducible rfl
      simp only [Act.put, List.setIfInBounds_toArray, List.set_cons_zero, List.set_cons_succ]
      refine rgDone (by kernel_rfl) ?_ _
      go_wp2
      go_ret2
      exact ⟨rfl, HB.out.1⟩
    · have HWD : Hid ((if formV (O : Int) = 5 then (18 : Int) else 14) = 14) := Lib.hid (if_neg h5)
      rw [if_neg h5] at hZ
      have HZ := Lib.hid hZ
      clear hZ h5
      go_enter Tryd.func7, Tryd.ntmps7
      go_upto_region 4 with (first | (refine wlBox (by rfl) 30 _ rfl (insA (O : Int) (D : Int) (A : Int) (C : Int) im) rfl ?_; intro gI w1 hg hl ha hb; replace HFT := Lib.hid (HFT.out.below hb); replace HB := keepB HB hb; have HI := Lib.hid ha; clear ha hb hg hl) | (refine rowLoad (by rfl) 30 _ rfl gI rfl (cs := (insA (O : Int) (D : Int) (A : Int) (C : Int) im)) HI.out Tryd.underlying30 rfl infoIn ?_) | (go_at_call 15; refine (right_any (O : Int) (D : Int) (A : Int) (C : Int) im _ HFT.out).mono ?_; rw [HRI.out]; rintro e w2 ⟨rfl, hb⟩; replace HFT := Lib.hid (HFT.out.below hb); replace HB := keepB HB hb; replace HI := keepA HI hb; have i0 : w2.cell? ⟨gI, 0, none⟩ = some (.int .i64 (O : Int)) := cellA HI 0; have i1 : w2.cell? ⟨gI, 1, none⟩ = some (.int .i64 (D : Int)) := cellA HI 1; have i2 : w2.cell? ⟨gI, 2, none⟩ = some (.int .i64 (A : Int)) := cellA HI 2; have i3 : w2.cell? ⟨gI, 3, none⟩ = some (.int .i64 (C : Int)) := cellA HI 3; have i4 : w2.cell? ⟨gI, 4, none⟩ = some (.int .i64 im) := cellA HI 4; clear hb))
      go_upto_region 5 with (go_at_call 16; refine (put_first O _ hO).mono ?_; rw [HX1.out]; rintro e w3 ⟨rfl, rfl⟩)
      go_upto_region 6 with (go_at_call 16; refine (put_in 25 22 62914560 4 22 X1 D _ (by decide) (by decide) (by decide) rfl (by decide) HM1.out hX1 hD).mono ?_; rw [HX2.out]; rintro e w3 ⟨rfl, rfl⟩)
      go_upto_region 7 with (go_at_call 16; refine (put_in 21 18 3932160 4 18 X2 A _ (by decide) (by decide) (by decide) rfl (by decide) HM2.out hX2 hA).mono ?_; rw [HX3.out]; rintro e w3 ⟨rfl, rfl⟩)
      go_upto_region 8 with (go_at_call 16; refine (put_in 17 14 245760 4 14 X3 C _ (by decide) (by decide) (by decide) rfl (by decide) HM3.out hX3 hC).mono ?_; rw [HX4.out]; rintro e w3 ⟨rfl, rfl⟩)
      go_upto_region 9 with (go_at_call 17; refine (has_any (O : Int) 8 _ HFT.out).mono ?_; rw [HH.out]; rintro e w5 ⟨rfl, rfl⟩)
      replace HB := keepB HB (belowD _)
      replace HI := keepA HI (belowD _)
      clear i0 i1 i2 i3 i4
      refine rgStart (S := (fun w' => w'.heap[gI]? = some (.cells (insA (O : Int) (D : Int) (A : Int) (C : Int) im) 30 (0, 0)))) (n := 10) #[false, false, false, false, false, false, false, false, false, false] (by kernel_rfl) rfl rfl HI.out (fun hHeld => ?_)
      refine rgTake (i := 0) (N := some 33) (oi := { dst := some 33, op := Op.move (Operand.tmp 5), type := 25, pos := "inst.go:104", after := #[], guard := none }) (v := ?_) #[true, false, false, false, false, false, false, false, false, false] rfl rfl (by kernel_rfl) (fun _ _ _ h => h) (Or.inl ⟨by rfl, ?_⟩) hHeld ?_
      rotate_left
      · intro w' hSw; (try dsimp only at hSw); (have i0 : w'.cell? ⟨gI, 0, none⟩ = some (.int .i64 (O : Int)) := cell_of_row _ gI 0 _ _ _ hSw); have i4 : w'.cell? ⟨gI, 4, none⟩ = some (.int .i64 im) := cell_of_row _ gI 4 _ _ _ hSw; go_simp; try with_reducible rfl
      simp only [Act.put, List.setIfInBounds_toArray, List.set_cons_zero, List.set_cons_succ]
      refine rgTake (i := 1) (N := some 34) (oi := { dst := some 34, op := Op.fieldAddr 30 (Operand.tmp 1) 0, type := 0, pos := "inst.go:104", after := #[], guard := none }) (v := ?_) #[true, true, false, false, false, false, false, false, false, false] rfl rfl (by kernel_rfl) (fun _ _ _ h => h) (Or.inl ⟨by rfl, ?_⟩) hHeld ?_
      rotate_left
      · intro w' hSw; (try dsimp only at hSw); (have i0 : w'.cell? ⟨gI, 0, none⟩ = some (.int .i64 (O : Int)) := cell_of_row _ gI 0 _ _ _ hSw); have i4 : w'.cell? ⟨gI, 4, none⟩ = some (.int .i64 im) := cell_of_row _ gI 4 _ _ _ hSw; go_simp; try with_reducible rfl
      simp only [Act.put, List.setIfInBounds_toArray, List.set_cons_zero, List.set_cons_succ]
      refine rgTake (i := 2) (N := some 35) (oi := { dst := some 35, op := Op.load 3 (Operand.tmp 34), type := 3, pos := "inst.go:104", after := #[{ on := 1, ground := Ground.data }], guard := none }) (v := ?_) #[true, true, true, false, false, false, false, false, false, false] rfl rfl (by kernel_rfl) (fun _ _ _ h => h) (Or.inl ⟨by rfl, ?_⟩) hHeld ?_
      rotate_left
      · intro w' hSw; (try dsimp only at hSw); (have i0 : w'.cell? ⟨gI, 0, none⟩ = some (.int .i64 (O : Int)) := cell_of_row _ gI 0 _ _ _ hSw); have i4 : w'.cell? ⟨gI, 4, none⟩ = some (.int .i64 im) := cell_of_row _ gI 4 _ _ _ hSw; go_simp; try with_reducible rfl
      simp only [Act.put, List.setIfInBounds_toArray, List.set_cons_zero, List.set_cons_succ]
      refine rgTake (i := 5) (N := some 38) (oi := { dst := some 38, op := Op.fieldAddr 30 (Operand.tmp 1) 4, type := 0, pos := "inst.go:104", after := #[], guard := none }) (v := ?_) #[true, true, true, false, false, true, false, false, false, false] rfl rfl (by kernel_rfl) (fun _ _ _ h => h) (Or.inl ⟨by rfl, ?_⟩) hHeld ?_
      rotate_left
      · intro w' hSw; (try dsimp only at hSw); (have i0 : w'.cell? ⟨gI, 0, none⟩ = some (.int .i64 (O : Int)) := cell_of_row _ gI 0 _ _ _ hSw); have i4 : w'.cell? ⟨gI, 4, none⟩ = some (.int .i64 im) := cell_of_row _ gI 4 _ _ _ hSw; go_simp; try with_reducible rfl
      simp only [Act.put, List.setIfInBounds_toArray, List.set_cons_zero, List.set_cons_succ]
      refine rgTake (i := 6) (N := some 39) (oi := { dst := some 39, op := Op.load 3 (Operand.tmp 38), type := 3, pos := "inst.go:104", after := #[{ on := 5, ground := Ground.data }], guard := none }) (v := ?_) #[true, true, true, false, false, true, true, false, false, false] rfl rfl (by kernel_rfl) (fun _ _ _ h => h) (Or.inl ⟨by rfl, ?_⟩) hHeld ?_
      rotate_left
      · intro w' hSw; (try dsimp only at hSw); (have i0 : w'.cell? ⟨gI, 0, none⟩ = some (.int .i64 (O : Int)) := cell_of_row _ gI 0 _ _ _ hSw); have i4 : w'.cell? ⟨gI, 4, none⟩ = some (.int .i64 im) := cell_of_row _ gI 4 _ _ _ hSw; go_simp; try with_reducible rfl
      simp only [Act.put, List.setIfInBounds_toArray, List.set_cons_zero, List.set_cons_succ]
      refine rgTake (i := 7) (N := some 40) (oi := { dst := some 40, op := Op.convert 3 25 (Operand.tmp 39), type := 25, pos := "inst.go:104", after := #[{ on := 6, ground := Ground.data }], guard := none }) (v := ?_) #[true, true, true, false, false, true, true, true, false, false] rfl rfl (by kernel_rfl) (fun _ _ _ h => h) (Or.inl ⟨by rfl, ?_⟩) hHeld ?_
      rotate_left
      · intro w' hSw; (try dsimp only at hSw); (have i0 : w'.cell? ⟨gI, 0, none⟩ = some (.int .i64 (O : Int)) := cell_of_row _ gI 0 _ _ _ hSw); have i4 : w'.cell? ⟨gI, 4, none⟩ = some (.int .i64 im) := cell_of_row _ gI 4 _ _ _ hSw; go_simp; try with_reducible rfl
      simp only [Act.put, List.setIfInBounds_toArray, List.set_cons_zero, List.set_cons_succ]
      refine rgCall (i := 3) (N := some 36) (oi := { dst := some 36, op := Op.call { callee := Callee.value (Operand.func 18), args := #[Operand.tmp 35], argTypes := #[3] }, type := 3, pos := "inst.go:104", after := #[{ on := 2, ground := Ground.data }], guard := none }) #[true, true, true, true, false, true, true, true, false, false] rfl rfl (by kernel_rfl) (fun K hK => ?_)
      go_simp
      (go_at_call 18; refine (width_any (O : Int) _).mono ?_; rw [HWD.out]; rintro e w5 ⟨rfl, rfl⟩)
      refine hK.out _ _ HI.out (fun hHeld => ?_)
      (try simp only [Act.put, List.setIfInBounds_toArray, List.set_cons_zero, List.set_cons_succ])
      clear hK K
      refine rgTake (i := 4) (N := some 37) (oi := { dst := some 37, op := Op.binOp BinOp.sub 3 (Operand.tmp 36) (Operand.const (Value.int IntKind.i64 1)) 3, type := 3, pos := "inst.go:104", after := #[{ on := 3, ground := Ground.data }], guard := none }) (v := ?_) #[true, true, true, true, true, true, true, true, false, false] rfl rfl (by kernel_rfl) (fun _ _ _ h => h) (Or.inl ⟨by rfl, ?_⟩) hHeld ?_
      rotate_left
      · intro w' hSw; (try dsimp only at hSw); (have i0 : w'.cell? ⟨gI, 0, none⟩ = some (.int .i64 (O : Int)) := cell_of_row _ gI 0 _ _ _ hSw); have i4 : w'.cell? ⟨gI, 4, none⟩ = some (.int .i64 im) := cell_of_row _ gI 4 _ _ _ hSw; go_simp; try with_reducible rfl
      simp only [Act.put, List.setIfInBounds_toArray, List.set_cons_zero, List.set_cons_succ]
      refine rgCall (i := 8) (N := some 41) (oi := { dst := some 41, op := Op.call { callee := Callee.value (Operand.func 16), args := #[Operand.tmp 33, Operand.tmp 37, Operand.const (Value.int IntKind.i64 0), Operand.tmp 40], argTypes := #[25, 3, 3, 25] }, type := 25, pos := "inst.go:104", after := #[{ on := 0, ground := Ground.data }, { on := 4, ground := Ground.data }, { on := 7, ground := Ground.data }, { on := 3, ground := Ground.chain }], guard := none }) #[true, true, true, true, true, true, true, true, true, false] rfl rfl (by kernel_rfl) (fun K hK => ?_)
      go_simp
      (go_at_call 16; refine (put_in 13 0 16383 14 0 X4 M _ (by decide) (by decide) (by decide) rfl (by decide) HM4.out hX4 hM).mono ?_; rw [HZ.out]; rintro e w3 ⟨rfl, rfl⟩)
      refine hK.out _ _ HI.out (fun hHeld => ?_)
      (try simp only [Act.put, List.setIfInBounds_toArray, List.set_cons_zero, List.set_cons_succ])
      clear hK K
      refine rgTake (i := 9) (N := some 5) (oi := { dst := some 5, op := Op.assign (Operand.tmp 41), type := 25, pos := "inst.go:104", after := #[{ on := 8, ground := Ground.data }, { on := 8, ground := Ground.chain }, { on := 0, ground := Ground.phase }, { on := 1, ground := Ground.phase }, { on := 2, ground := Ground.phase }, { on := 3, ground := Ground.phase }, { on := 4, ground := Ground.phase }, { on := 5, ground := Ground.phase }, { on := 6, ground := Ground.phase }, { on := 7, ground := Ground.phase }, { on := 8, ground := Ground.phase }], guard := none }) (v := ?_) #[true, true, true, true, true, true, true, true, true, true] rfl rfl (by kernel_rfl) (fun _ _ _ h => h) (Or.inl ⟨by rfl, ?_⟩) hHeld ?_
      rotate_left
      · intro w' hSw; (try dsimp only at hSw); (have i0 : w'.cell? ⟨gI, 0, none⟩ = some (.int .i64 (O : Int)) := cell_of_row _ gI 0 _ _ _ hSw); have i4 : w'.cell? ⟨gI, 4, none⟩ = some (.int .i64 im) := cell_of_row _ gI 4 _ _ _ hSw; go_simp; try with_reducible rfl
      simp only [Act.put, List.setIfInBounds_toArray, List.set_cons_zero, List.set_cons_succ]
      refine rgDone (by kernel_rfl) ?_ _
      go_wp2
      go_ret2
      exact ⟨rfl, HB.out.1⟩
/-- A code, and a word. -/
def encV (op rd ra rb im : Int) : Nat × Nat := (rightI op rd ra rb im, if rightI op rd ra rb im = 0 then encW op rd ra rb im else 0)
theorem enc_any (op rd ra rb im : Int) (w : World) (ht : FieldsAt w) : Calls Tryd.prog 7 #[.agg (insA op rd ra rb im)] w fun e w' => e = .returned (.tuple #[.int .u32 ((encV op rd ra rb im).2 : Nat), .int .i64 ((encV op rd ra rb im).1 : Nat)]) ∧ Below w.heap.size w w' := by
  unfold encV
  by_cases h : rightI op rd ra rb im = 0
  · rw [if_pos h, h]
    exact enc_right op rd ra rb im w ht h
  · rw [if_neg h]
    exact enc_wrong op rd ra rb im w ht h
end Go.Proofs.YtaclidjhgpkmpaaDoor.My
set_option linter.unusedVariables false
set_option linter.unusedSimpArgs false
namespace Go.Proofs.YtaclidjhgpkmpaaDoor.My
open Go.RowKit
/-- What of the variables a call leans on. -/
def St (m : Int) (w : World) : Prop := w.cell? ⟨3, 0, none⟩ = some (.int .i64 m) ∧ FieldsAt w ∧ Lib.TabIs Tryd.prog w "strings.asciiSpace" .u8 Lib.asciiSpaceTab
theorem st_under {m : Int} {B : Nat} {w w' : World} (h : Hid (St m w)) (hB : w.heap.size ≤ B) (hb : Below B w w') : Hid (St m w') := by
  have hb2 : Below w.heap.size w w' := ⟨hb.os, hb.tape, hb.output, hb.size, fun k hk => hb.block k (Nat.lt_of_lt_of_le hk hB)⟩
  exact Lib.hid ⟨(hb2.cell (World.block_lt_of_cell? w _ h.out.1)).trans h.out.1, h.out.2.1.below hb2, tab_below h.out.2.2 hb2⟩
theorem keepS {m : Int} {w w' : World} (h : Hid (St m w)) (hb : Below w.heap.size w w') : Hid (St m w') := st_under h (Nat.le_refl _) hb
theorem St.below {m : Int} {w w' : World} (h : Hid (St m w)) (hb : Hid (Below w.heap.size w w' ∧ w.heap.size ≤ w'.heap.size)) : St m w' := (keepS h hb.out.1).out
/-- Is it a form with a number? -/
def immF (F : Int) : Bool := F == 2 || (F == 3 || (F == 4 || (F == 5 || (F == 7 || F == 8))))
def lastF (p : Prg) (op : Int) (f : List (List UInt8)) (i : Nat) : Nat × List (List UInt8) := if immF (formV op) = true ∧ f ≠ [] then lastV p op f.dropLast (f.getLastD []) i else (0, f)
/-- An instruction's text. -/
def lineT (x : List UInt8) (L : List (List UInt8)) : List UInt8 := if L.length = 0 then x else x ++ 32 :: Lib.join L [44, 32]
def parE (x : List UInt8) (L : List (List UInt8)) (i : Nat) (d : List UInt8) : Nat × List UInt8 :=
  if (parP (lineT x L)).e ≠ 0 then ((parP (lineT x L)).e.toNat, d)
  else if (encV (parP (lineT x L)).op (parP (lineT x L)).q.rd (parP (lineT x L)).q.ra (parP (lineT x L)).q.rb (parP (lineT x L)).q.im).1 ≠ 0 then ((encV (parP (lineT x L)).op (parP (lineT x L)).q.rd (parP (lineT x L)).q.ra (parP (lineT x L)).q.rb (parP (lineT x L)).q.im).1, d)
  else (0, putV d i (encV (parP (lineT x L)).op (parP (lineT x L)).q.rd (parP (lineT x L)).q.ra (parP (lineT x L)).q.rb (parP (lineT x L)).q.im).2 4)
/-- An instruction: a code, and the data then. -/
def instrV (p : Prg) (x : List UInt8) (f : List (List UInt8)) (i : Nat) (d : List UInt8) : Nat × List UInt8 :=
  if opV x = 0 then (9, d) else if (lastF p (opV x) f i).1 ≠ 0 then ((lastF p (opV x) f i).1, d) else parE x (lastF p (opV x) f i).2 i d
theorem joinW_any (b off c : Nat) (L : List (List UInt8)) (w : World) (h : RdW w (some ⟨b, off, none⟩) L) (hn : 0 < L.length) (hl : L.length ≤ 1000000) (hc : L.length ≤ c) (hj : (Lib.join L [44, 32]).length ≤ 1000000) :
    Calls Tryd.prog 23 #[.slice (some ⟨b, off, none⟩) L.length c, .string ⟨#[44, 32]⟩] w fun e w' => e = .returned (.string (bs (Lib.join L [44, 32]))) ∧ Below w.heap.size w w' := by
  have em : (L.map bs).map (·.data.toList) = L := by
    rw [List.map_map]
    conv => rhs; rw [← List.map_id L]
    apply List.map_congr_left
    intro l _
    rfl
  have hlt := h.lt _ rfl hn
  have := Tryd.strings_Join b off c (L.map bs) ⟨#[44, 32]⟩ w (fun j x hx => by
    rw [List.getElem?_map] at hx
    obtain ⟨y, hy, rfl⟩ := Option.map_eq_some_iff.1 hx
    exact rdw_at h hy) hlt (by rw [List.length_map]; omega) (by rw [List.length_map]; exact hc) (by rw [em]; exact Nat.le_trans hj (by decide))
  rw [em, List.length_map] at this
  exact this
theorem enc_code (op rd ra rb im : Int) : (encV op rd ra rb im).2 < 4294967296 := by
  unfold encV
  simp only
  split
  · rename_i h
    obtain ⟨⟨o1, o2⟩, ⟨d1, d2⟩, ⟨a1, a2⟩, ⟨c1, c2⟩, hc0⟩ := right_parts h
    have e : ∀ x v n lo : Nat, putE x v n lo = x + v % 2 ^ n * 2 ^ lo := fun _ _ _ _ => rfl
    unfold encW
    split
    · split
      · rename_i h5
        have := hc0 (form5 h5)
        simp only [e]
        omega
      · simp only [e]; omega
    · simp only [e]; omega
  · decide
end Go.Proofs.YtaclidjhgpkmpaaDoor.My
set_option linter.unusedVariables false
set_option linter.unusedSimpArgs false
namespace Go.Proofs.YtaclidjhgpkmpaaDoor.My
open Go.RowKit
theorem par_code (s : List UInt8) : (parP s).e = 0 ∨ (parP s).e = 2 ∨ (parP s).e = 9 := by
  unfold parP
  split
  · exact .inr (.inr rfl)
  · split
    · exact .inr (.inl rfl)
    · unfold doneV
      split
      · exact .inl rfl
      · exact .inr (.inl rfl)
theorem lastF_no (p : Prg) (op : Int) (f : List (List UInt8)) (i : Nat) (h : immF (formV op) = false) : lastF p op f i = (0, f) := by
  unfold lastF
  rw [if_neg (fun q => by rw [h] at q; cases q.1)]
theorem lastF_nil (p : Prg) (op : Int) (i : Nat) : lastF p op [] i = (0, []) := by
  unfold lastF
  rw [if_neg (fun q => q.2 rfl)]
theorem lastF_app (p : Prg) (op : Int) (ini : List (List UInt8)) (z : List UInt8) (i : Nat) (h : immF (formV op) = true) : lastF p op (ini ++ [z]) i = lastV p op ini z i := by
  unfold lastF
  rw [if_pos ⟨h, by simp⟩]
  simp
theorem imm_cases {F : Int} (h : immF F = true) : F = 2 ∨ F = 3 ∨ F = 4 ∨ F = 5 ∨ F = 7 ∨ F = 8 := by
  unfold immF at h
  simp only [Bool.or_eq_true, beq_iff_eq] at h
  omega
theorem imm_not {F : Int} (h : immF F = false) : (F == 2) = false ∧ (F == 3) = false ∧ (F == 4) = false ∧ (F == 5) = false ∧ (F == 7) = false ∧ (F == 8) = false := by
  unfold immF at h
  simpa only [Bool.or_eq_false_iff] using h
set_option maxRecDepth 100000 in
set_option maxHeartbeats 8000000 in
theorem instr_any {g : Nat} (B : Nat) (s : PS) (p : Prg) (rs : List RowM) (x : List UInt8) (f : List (List UInt8)) (A : Option Addr) (N c i : Nat) (m : Int) (w : World) (hg : s.gP = g) (hp : PrgAt w B s p rs) (hr : RdW w A (x :: f)) (hN : N = f.length + 1) (hc : N ≤ c) (hl : N ≤ 90000) (hwl : ∀ y ∈ f, y.length ≤ 1000000) (hi : i + 4 ≤ 16384) (hvs : ∀ q ∈ p.vals, q.2 < 4294967296) (hst : St m w) (htx : (lineT x (lastF p ((opV x : Nat) : Int) f i).2).length ≤ 100000) (htl : (lastF p ((opV x : Nat) : Int) f i).2.length ≤ 100000) :
    Calls Tryd.prog 44 #[.pointer (some ⟨g, 0, none⟩), .agg #[.slice A N c, .int .u32 (i : Nat)]] w fun e w' => e = .returned (.int .i64 ((instrV p x f i p.data).1 : Nat)) ∧ DataTo w w' B s p rs (instrV p x f i p.data).2 := by
  obtain ⟨R, hR⟩ : ∃ R, instrV p x f i p.data = R := ⟨_, rfl⟩
  rw [hR]
  unfold instrV at hR
  have HG := Lib.hid hg
  have HP := Lib.hid hp
  have HB := startB w
  have HS := Lib.hid hst
  obtain ⟨b, off, rfl, -⟩ := hr (by simp)
  have HRD := Lib.hid hr
  obtain ⟨OP, hOP⟩ : ∃ z : Int, ((opV x : Nat) : Int) = z := ⟨_, rfl⟩
  have HOP := Lib.hid hOP
  have HVS := Lib.hid hvs
  rw [hOP] at htx htl hR
  obtain ⟨off', cap', hsl, hcap2, hrd2⟩ := run_tailS (P := Tryd.prog) 55 Tryd.underlying55 infoS1 b off c N x f hN hc .i64
  have HTL := Lib.hid hrd2
  obtain ⟨n, hn⟩ : ∃ n, f.length = n := ⟨_, rfl⟩
  rw [hn] at hsl hcap2 hN
  have HNF := Lib.hid hn
  have HWL := Lib.hid hwl
  have hN0 : 0 < N := by omega
  have hn9 : n ≤ 90000 := by omega
  have hi16 : i ≤ 16384 := by omega
  have HNN := Lib.hid hN
  by_cases h0 : opV x = 0
  · rw [if_pos h0] at hR
    have HR := Lib.hid hR
    have q1 : (OP == 0) = true := beq_iff_eq.2 (by omega)
    clear hR hg hp hst hr hOP hvs htx htl hrd2 hn hwl hN h0
    go_enter Tryd.func44, Tryd.ntmps44
    go_wp2_with (first | (refine wlBox (by rfl) 71 _ rfl #[.slice (some ⟨b, off, none⟩) N c, .int .u32 (i : Nat)] rfl ?_; intro gB w1 hg hl ha hb; replace HP := keepP HP hb; replace HB := keepB HB hb; replace HS := keepS HS hb; replace HRD := Lib.hid (HRD.out.below hb); have HX := Lib.hid ha; have b0 : w1.cell? ⟨gB, 0, none⟩ = some (.slice (some ⟨b, off, none⟩) N c) := (cell_of_row _ gB 0 _ _ _ HX.out); have k0 : w1.cell? ⟨b, off, none⟩ = some (.string (bs x)) := rdw_at (k := 0) HRD.out rfl; clear ha hb hg hl) | (go_at_call 64; refine (op_any x _ HS.out.2.2).mono ?_; rw [HOP.out]; rintro e w2 ⟨rfl, hb⟩; (replace HP := keepP HP hb; replace HB := keepB HB hb; replace HS := keepS HS hb; replace HX := keepA HX hb; replace HRD := Lib.hid (HRD.out.below hb)); have b0 : w2.cell? ⟨gB, 0, none⟩ = some (.slice (some ⟨b, off, none⟩) N c) := (cell_of_row _ gB 0 _ _ _ HX.out); clear hb))
    go_ret
    rw [← HR.out]
    exact ⟨rfl, HP.out, Turn.of_below HB.out.1⟩
  rw [if_neg h0] at hR
  have q1 : (OP == 0) = false := beq_eq_false_iff_ne.2 (by omega)
  obtain ⟨F, hF⟩ : ∃ F, formV OP = F := ⟨_, rfl⟩
  have HF := Lib.hid hF
  obtain ⟨L, hL⟩ : ∃ L, (lastF p OP f i).2 = L := ⟨_, rfl⟩
  have HLL := Lib.hid hL
  rw [hL] at htx htl hR
  have HTX := Lib.hid htx
  have HTN := Lib.hid htl
  have HR := Lib.hid hR
  clear hR hg hp hst hr hOP hvs htx htl hrd2 hn hwl hN h0 hF hL
  go_enter Tryd.func44, Tryd.ntmps44
  go_upto_region 5 with (first | (refine wlBox (by rfl) 71 _ rfl #[.slice (some ⟨b, off, none⟩) N c, .int .u32 (i : Nat)] rfl ?_; intro gB w1 hg hl ha hb; replace HP := keepP HP hb; replace HB := keepB HB hb; replace HS := keepS HS hb; replace HRD := Lib.hid (HRD.out.below hb); have HX := Lib.hid ha; have b0 : w1.cell? ⟨gB, 0, none⟩ = some (.slice (some ⟨b, off, none⟩) N c) := (cell_of_row _ gB 0 _ _ _ HX.out); have k0 : w1.cell? ⟨b, off, none⟩ = some (.string (bs x)) := rdw_at (k := 0) HRD.out rfl; clear ha hb hg hl) | (go_at_call 64; refine (op_any x _ HS.out.2.2).mono ?_; rw [HOP.out]; rintro e w2 ⟨rfl, hb⟩; (replace HP := keepP HP hb; replace HB := keepB HB hb; replace HS := keepS HS hb; replace HX := keepA HX hb; replace HRD := Lib.hid (HRD.out.below hb)); have b0 : w2.cell? ⟨gB, 0, none⟩ = some (.slice (some ⟨b, off, none⟩) N c) := (cell_of_row _ gB 0 _ _ _ HX.out); clear hb) | (refine slRd (by rfl) _ _ _ rfl b off c N off' n cap' rfl .i64 rfl hsl ?_))
  go_upto_block 0 with (go_at_call 20; refine (form_any OP _).mono ?_; rw [HF.out]; rintro e w3 ⟨rfl, rfl⟩)
  go_cut [6] from 7 to 47 (fun v wx => ∃ (A2 : Option Addr) (c2 : Nat), v = .slice A2 L.length c2 ∧ (lastF p OP f i).1 = 0 ∧ (lastF p OP f i).2 = L ∧ L.length ≤ c2 ∧ Hid (RdW wx A2 L) ∧ Hid (PrgAt wx B s p rs) ∧ Hid (Below w.heap.size w wx ∧ w.heap.size ≤ wx.heap.size) ∧ Hid (St m wx) ∧ Hid (wx.heap[gB]? = some (.cells #[.slice (some ⟨b, off, none⟩) N c, .int .u32 (i : Nat)] 71 (0, 0))) ∧ Hid (RdW wx (some ⟨b, off, none⟩) (x :: f)))
  case first =>
    have HRT := Lib.hid (HTL.out _ HRD.out)
    have b1 := (show World.cell? _ ⟨gB, 1, none⟩ = some (.int .u32 (i : Nat)) from (cell_of_row _ gB 1 _ _ _ HX.out))
    by_cases him : immF F = true
    · have key : f.length = n := HNF.out
      rcases List.eq_nil_or_concat f with q | ⟨ini, z, q⟩
      · subst q
        subst key
        have e1 : lastF p OP [] i = (0, []) := lastF_nil p OP i
        have e2 : L = [] := by rw [← HLL.out, e1]
        subst e2
        have E1 := Lib.hid e1
        rcases imm_cases him with rfl | rfl | rfl | rfl | rfl | rfl
        all_goals
          clear him e1
          go_wp2
          go_meet
          exact ⟨_, _, rfl, by rw [E1.out], by rw [E1.out], Nat.zero_le _, Lib.hid (RdW.nil _ _), HP, HB, HS, HX, HRD⟩
      · (try rw [List.concat_eq_append] at q)
        subst q
        have e1 : lastF p OP (ini ++ [z]) i = lastV p OP ini z i := lastF_app p OP ini z i (by rw [HF.out]; exact him)
        have hz : z.length ≤ 1000000 := HWL.out z (by simp)
        have hn0 : 0 < n := by rw [← key, List.length_append]; simp
        have hn1 : n = ini.length + 1 := by rw [← key, List.length_append]; rfl
        obtain ⟨E, hE⟩ : ∃ E, (lastV p OP ini z i).1 = E := ⟨_, rfl⟩
        have HLV : Hid ((lastV p OP ini z i).1 = E ∧ (lastV p OP ini z i).2 = L) := Lib.hid ⟨hE, by rw [← HLL.out, e1]⟩
        have E1 := Lib.hid e1
        have HN1 := Lib.hid hn1
        have HZ := Lib.hid hz
        clear key e1 hn1 hE hz
        by_cases hE0 : E = 0
        · subst hE0
          rcases imm_cases him with rfl | rfl | rfl | rfl | rfl | rfl
          all_goals
            clear him
            go_wp2_with (go_at_call 65; refine (last_any B s p rs OP ini z b off' n cap' i _ HG.out HP.out HRT.out HN1.out hcap2 hn9 HZ.out hi16 HVS.out).mono ?_; rw [HLV.out.1, HLV.out.2]; rintro e w4 ⟨⟨A2, c2, rfl, hr2, hc2⟩, hb⟩; (replace HP := keepP HP hb; replace HB := keepB HB hb; replace HS := keepS HS hb; replace HX := keepA HX hb; replace HRD := Lib.hid (HRD.out.below hb)); have HRL := Lib.hid hr2; clear hb hr2)
            go_meet
            exact ⟨A2, c2, rfl, by rw [E1.out]; exact HLV.out.1, HLL.out, hc2, HRL, HP, HB, HS, HX, HRD⟩
        · have hEi : ¬ (E : Int) = 0 := by omega
          have q2 : ((E : Int) != 0) = true := bne_iff_ne.2 hEi
          rcases imm_cases him with rfl | rfl | rfl | rfl | rfl | rfl
          all_goals
            clear him
            go_wp2_with (go_at_call 65; refine (last_any B s p rs OP ini z b off' n cap' i _ HG.out HP.out HRT.out HN1.out hcap2 hn9 HZ.out hi16 HVS.out).mono ?_; rw [HLV.out.1, HLV.out.2]; rintro e w4 ⟨⟨A2, c2, rfl, hr2, hc2⟩, hb⟩; (replace HP := keepP HP hb; replace HB := keepB HB hb; replace HS := keepS HS hb; replace HX := keepA HX hb; replace HRD := Lib.hid (HRD.out.below hb)); have HRL := Lib.hid hr2; clear hb hr2)
            go_ret
            have h9 := HR.out
            rw [E1.out, HLV.out.1, if_pos hE0] at h9
            rw [← h9]
            exact ⟨rfl, HP.out, Turn.of_below HB.out.1⟩
    · have him2 : immF F = false := by simpa using him
      obtain ⟨q2, q3, q4, q5, q7, q8⟩ := imm_not him2
      have e1 : lastF p OP f i = (0, f) := lastF_no p OP f i (by rw [HF.out]; exact him2)
      have e2 : L = f := by rw [← HLL.out, e1]
      subst e2
      have E1 := Lib.hid e1
      have hn := HNF.out
      subst hn
      clear him him2 e1
      go_wp2
      go_meet
      exact ⟨_, _, rfl, by rw [E1.out], by rw [E1.out], hcap2, HRT, HP, HB, HS, HX, HRD⟩
  case rest =>
    clear HP HB HS HX HRD b0 k0
    obtain ⟨A2, c2, rfl, l1, l2, hc2, HRL, HP, HB, HS, HX, HRD⟩ := hcut
    obtain ⟨wr, rfl⟩ : ∃ z, z = wc := ⟨wc, rfl⟩
    have hR := HR.out
    rw [if_neg (show ¬ (lastF p OP f i).1 ≠ 0 from fun h => h l1)] at hR
    unfold parE at hR
    obtain ⟨T, hT⟩ : ∃ T, lineT x L = T := ⟨_, rfl⟩
    have HT := Lib.hid hT
    rw [hT] at hR
    have hpc := par_code T
    obtain ⟨⟨po, pq, pe⟩, hP⟩ : ∃ z, parP T = z := ⟨_, rfl⟩
    rw [hP] at hR hpc
    obtain ⟨⟨E, W⟩, hE⟩ : ∃ z, encV po pq.rd pq.ra pq.rb pq.im = z := ⟨_, rfl⟩
    have hW := enc_code po pq.rd pq.ra pq.rb pq.im
    rw [hE] at hW
    simp only [hE] at hR
    have HPA : Hid (∀ w', St m w' → Calls Tryd.prog 66 #[.string (bs T)] w' fun e w'' => e = .returned (.tuple #[.agg (insQ po pq), .int .i64 pe]) ∧ Below w'.heap.size w' w'') := Lib.hid (fun w' h => by
      have := tparse_any T m w' (by rw [← hT]; exact HTX.out) h.2.2 h.2.1 h.1
      rw [hP] at this
      exact this)
    have HEN : Hid (∀ w', St m w' → Calls Tryd.prog 7 #[.agg (insQ po pq)] w' fun e w'' => e = .returned (.tuple #[.int .u32 (W : Nat), .int .i64 (E : Nat)]) ∧ Below w'.heap.size w' w'') := Lib.hid (fun w' h => by
      have := enc_any po pq.rd pq.ra pq.rb pq.im w' h.2.1
      rw [hE] at this
      exact this)
    have HHR := Lib.hid hR
    have b0 : wr.cell? ⟨gB, 0, none⟩ = some (.slice (some ⟨b, off, none⟩) N c) := (cell_of_row _ gB 0 _ _ _ HX.out)
    have k0 : wr.cell? ⟨b, off, none⟩ = some (.string (bs x)) := rdw_at (k := 0) HRD.out rfl
    have htx := HTX.out
    have htn := HTN.out
    have hi32 : i + 4 ≤ 16384 := hi
    clear hR hT hP hE l1 l2 HR HLL hsl hcap2 HTL
    by_cases hL0 : L.length = 0
    · have e : L = [] := List.eq_nil_of_length_eq_zero hL0
      subst e
      have e2 : x = T := by rw [← HT.out]; rfl
      subst e2
      clear htn htx
      by_cases hp0 : pe = 0
      · subst hp0
        by_cases hE0 : E = 0
        · subst hE0
          have HR2 : Hid ((0, putV p.data i W 4) = R) := HHR
          clear HHR hpc
          go_wp2_with (first | (go_at_call 23; refine (joinW_any b2 o2 c2 L _ HRL.out hl0 (by omega) hc2 HJ1.out).mono ?_; rw [HJ.out]; rintro e w5 ⟨rfl, hb⟩; (replace HP := keepP HP hb; replace HB := keepB HB hb; replace HS := keepS HS hb; replace HX := keepA HX hb; replace HRD := Lib.hid (HRD.out.below hb)); clear hb) | (refine strAdd (by rfl) _ _ _ _ rfl ⟨#[32]⟩ (bs J) (bs (32 :: J)) rfl rfl (by rw [bs_size]; show 1 + J.length ≤ _; omega) (bs_add [32] J) ?_) | (refine strAdd (by rfl) _ _ _ _ rfl (bs x) (bs (32 :: J)) (bs T) rfl rfl (by rw [bs_size, bs_size, List.length_cons]; omega) (by rw [bs_add, HE2.out]) ?_) | (go_at_call 66; refine (HPA.out _ HS.out).mono ?_; rintro e w6 ⟨rfl, hb⟩; (replace HP := keepP HP hb; replace HB := keepB HB hb; replace HS := keepS HS hb; replace HX := keepA HX hb; replace HRD := Lib.hid (HRD.out.below hb)); clear hb) | (refine wlAlloc (by rfl) 30 rfl (insA 0 0 0 0 0) zeroIn ?_; intro gI w7 hg hl ha hb; have HN := Lib.hid (And.intro hb hb.size); have HGI := Lib.hid hg; have HI := Lib.hid ha; clear ha hb hg hl) | (refine rowStore (by rfl) 30 _ _ rfl gI rfl (insQ po pq) rfl HI.out infoIn rfl (insQ_one _ _) ?_; intro w8 ha ho; replace HI := Lib.hid ha; have hb := (keepBo HN HGI.out ho).out.1; (replace HP := keepP HP hb; replace HB := keepB HB hb; replace HS := keepS HS hb; replace HX := keepA HX hb; replace HRD := Lib.hid (HRD.out.below hb)); clear ha ho hb HN HGI) | (refine rowLoad (by rfl) 30 _ rfl gI rfl (cs := insQ po pq) HI.out Tryd.underlying30 rfl infoIn ?_) | (go_at_call 7; refine (HEN.out _ HS.out).mono ?_; rintro e w9 ⟨rfl, hb⟩; (replace HP := keepP HP hb; replace HB := keepB HB hb; replace HS := keepS HS hb; replace HX := keepA HX hb; replace HRD := Lib.hid (HRD.out.below hb)); have b1 : w9.cell? ⟨gB, 1, none⟩ = some (.int .u32 (i : Nat)) := (cell_of_row _ gB 1 _ _ _ HX.out); clear hb) | (go_at_call 63; refine (put_any B s p rs i W 4 _ HG.out HP.out (.inr rfl) hi32 hW).mono ?_; intro e wz hq; have HQ := Lib.hid hq; obtain ⟨rfl, -⟩ := hq))
          go_ret
          rw [← HR2.out]
          exact ⟨rfl, HQ.out.2.pa, (Turn.of_below HB.out.1).trans HQ.out.2.tu (fun k hk => .inl hk)⟩
        · have hR := HHR.out
          rw [if_neg (show ¬ (0 : Int) ≠ 0 from fun h => h rfl), if_pos hE0] at hR
          have HR2 := Lib.hid hR
          have hEi : ¬ (E : Int) = 0 := by omega
          have q2 : ((E : Int) != 0) = true := bne_iff_ne.2 hEi
          clear HHR hpc hR hE0
          go_wp2_with (first | (go_at_call 23; refine (joinW_any b2 o2 c2 L _ HRL.out hl0 (by omega) hc2 HJ1.out).mono ?_; rw [HJ.out]; rintro e w5 ⟨rfl, hb⟩; (replace HP := keepP HP hb; replace HB := keepB HB hb; replace HS := keepS HS hb; replace HX := keepA HX hb; replace HRD := Lib.hid (HRD.out.below hb)); clear hb) | (refine strAdd (by rfl) _ _ _ _ rfl ⟨#[32]⟩ (bs J) (bs (32 :: J)) rfl rfl (by rw [bs_size]; show 1 + J.length ≤ _; omega) (bs_add [32] J) ?_) | (refine strAdd (by rfl) _ _ _ _ rfl (bs x) (bs (32 :: J)) (bs T) rfl rfl (by rw [bs_size, bs_size, List.length_cons]; omega) (by rw [bs_add, HE2.out]) ?_) | (go_at_call 66; refine (HPA.out _ HS.out).mono ?_; rintro e w6 ⟨rfl, hb⟩; (replace HP := keepP HP hb; replace HB := keepB HB hb; replace HS := keepS HS hb; replace HX := keepA HX hb; replace HRD := Lib.hid (HRD.out.below hb)); clear hb) | (refine wlAlloc (by rfl) 30 rfl (insA 0 0 0 0 0) zeroIn ?_; intro gI w7 hg hl ha hb; have HN := Lib.hid (And.intro hb hb.size); have HGI := Lib.hid hg; have HI := Lib.hid ha; clear ha hb hg hl) | (refine rowStore (by rfl) 30 _ _ rfl gI rfl (insQ po pq) rfl HI.out infoIn rfl (insQ_one _ _) ?_; intro w8 ha ho; replace HI := Lib.hid ha; have hb := (keepBo HN HGI.out ho).out.1; (replace HP := keepP HP hb; replace HB := keepB HB hb; replace HS := keepS HS hb; replace HX := keepA HX hb; replace HRD := Lib.hid (HRD.out.below hb)); clear ha ho hb HN HGI) | (refine rowLoad (by rfl) 30 _ rfl gI rfl (cs := insQ po pq) HI.out Tryd.underlying30 rfl infoIn ?_) | (go_at_call 7; refine (HEN.out _ HS.out).mono ?_; rintro e w9 ⟨rfl, hb⟩; (replace HP := keepP HP hb; replace HB := keepB HB hb; replace HS := keepS HS hb; replace HX := keepA HX hb; replace HRD := Lib.hid (HRD.out.below hb)); have b1 : w9.cell? ⟨gB, 1, none⟩ = some (.int .u32 (i : Nat)) := (cell_of_row _ gB 1 _ _ _ HX.out); clear hb))
          go_ret
          rw [← HR2.out]
          exact ⟨rfl, HP.out, Turn.of_below HB.out.1⟩
      · have hR := HHR.out
        rw [if_pos hp0] at hR
        have HR2 := Lib.hid hR
        have q2 : (pe != 0) = true := bne_iff_ne.2 hp0
        have HPE : Hid (pe = ((pe.toNat : Nat) : Int)) := Lib.hid (by rcases hpc with h | h | h <;> simp only at h <;> omega)
        clear HHR hpc hR
        go_wp2_with (first | (go_at_call 23; refine (joinW_any b2 o2 c2 L _ HRL.out hl0 (by omega) hc2 HJ1.out).mono ?_; rw [HJ.out]; rintro e w5 ⟨rfl, hb⟩; (replace HP := keepP HP hb; replace HB := keepB HB hb; replace HS := keepS HS hb; replace HX := keepA HX hb; replace HRD := Lib.hid (HRD.out.below hb)); clear hb) | (refine strAdd (by rfl) _ _ _ _ rfl ⟨#[32]⟩ (bs J) (bs (32 :: J)) rfl rfl (by rw [bs_size]; show 1 + J.length ≤ _; omega) (bs_add [32] J) ?_) | (refine strAdd (by rfl) _ _ _ _ rfl (bs x) (bs (32 :: J)) (bs T) rfl rfl (by rw [bs_size, bs_size, List.length_cons]; omega) (by rw [bs_add, HE2.out]) ?_) | (go_at_call 66; refine (HPA.out _ HS.out).mono ?_; rintro e w6 ⟨rfl, hb⟩; (replace HP := keepP HP hb; replace HB := keepB HB hb; replace HS := keepS HS hb; replace HX := keepA HX hb; replace HRD := Lib.hid (HRD.out.below hb)); clear hb) | (refine wlAlloc (by rfl) 30 rfl (insA 0 0 0 0 0) zeroIn ?_; intro gI w7 hg hl ha hb; have HN := Lib.hid (And.intro hb hb.size); have HGI := Lib.hid hg; have HI := Lib.hid ha; clear ha hb hg hl) | (refine rowStore (by rfl) 30 _ _ rfl gI rfl (insQ po pq) rfl HI.out infoIn rfl (insQ_one _ _) ?_; intro w8 ha ho; replace HI := Lib.hid ha; have hb := (keepBo HN HGI.out ho).out.1; (replace HP := keepP HP hb; replace HB := keepB HB hb; replace HS := keepS HS hb; replace HX := keepA HX hb; replace HRD := Lib.hid (HRD.out.below hb)); clear ha ho hb HN HGI))
        go_ret
        rw [← HR2.out]
        exact ⟨ret_i64 HPE.out, HP.out, Turn.of_below HB.out.1⟩
    · obtain ⟨b2, o2, rfl, -⟩ := HRL.out (by omega)
      obtain ⟨J, hJ⟩ : ∃ J, Lib.join L [44, 32] = J := ⟨_, rfl⟩
      have HJ := Lib.hid hJ
      have e2 : x ++ 32 :: J = T := by rw [← HT.out, ← hJ]; unfold lineT; rw [if_neg hL0]
      have hxl : x.length + J.length ≤ 100000 := by
        unfold lineT at htx
        rw [if_neg hL0, List.length_append, List.length_cons, hJ] at htx
        omega
      have HE2 := Lib.hid e2
      have hl0 : 0 < L.length := by omega
      have hj1 : (Lib.join L [44, 32]).length ≤ 1000000 := by rw [hJ]; omega
      have hj2 : J.length + 1 ≤ 200000 := by omega
      have hxJ : x.length ≤ 100000 := by omega
      have HJ1 := Lib.hid hj1
      clear hJ e2 htx hj1
      by_cases hp0 : pe = 0
      · subst hp0
        by_cases hE0 : E = 0
        · subst hE0
          have HR2 : Hid ((0, putV p.data i W 4) = R) := HHR
          clear HHR hpc
          go_wp2_with (first | (go_at_call 23; refine (joinW_any b2 o2 c2 L _ HRL.out hl0 (by omega) hc2 HJ1.out).mono ?_; rw [HJ.out]; rintro e w5 ⟨rfl, hb⟩; (replace HP := keepP HP hb; replace HB := keepB HB hb; replace HS := keepS HS hb; replace HX := keepA HX hb; replace HRD := Lib.hid (HRD.out.below hb)); clear hb) | (refine strAdd (by rfl) _ _ _ _ rfl ⟨#[32]⟩ (bs J) (bs (32 :: J)) rfl rfl (by rw [bs_size]; show 1 + J.length ≤ _; omega) (bs_add [32] J) ?_) | (refine strAdd (by rfl) _ _ _ _ rfl (bs x) (bs (32 :: J)) (bs T) rfl rfl (by rw [bs_size, bs_size, List.length_cons]; omega) (by rw [bs_add, HE2.out]) ?_) | (go_at_call 66; refine (HPA.out _ HS.out).mono ?_; rintro e w6 ⟨rfl, hb⟩; (replace HP := keepP HP hb; replace HB := keepB HB hb; replace HS := keepS HS hb; replace HX := keepA HX hb; replace HRD := Lib.hid (HRD.out.below hb)); clear hb) | (refine wlAlloc (by rfl) 30 rfl (insA 0 0 0 0 0) zeroIn ?_; intro gI w7 hg hl ha hb; have HN := Lib.hid (And.intro hb hb.size); have HGI := Lib.hid hg; have HI := Lib.hid ha; clear ha hb hg hl) | (refine rowStore (by rfl) 30 _ _ rfl gI rfl (insQ po pq) rfl HI.out infoIn rfl (insQ_one _ _) ?_; intro w8 ha ho; replace HI := Lib.hid ha; have hb := (keepBo HN HGI.out ho).out.1; (replace HP := keepP HP hb; replace HB := keepB HB hb; replace HS := keepS HS hb; replace HX := keepA HX hb; replace HRD := Lib.hid (HRD.out.below hb)); clear ha ho hb HN HGI) | (refine rowLoad (by rfl) 30 _ rfl gI rfl (cs := insQ po pq) HI.out Tryd.underlying30 rfl infoIn ?_) | (go_at_call 7; refine (HEN.out _ HS.out).mono ?_; rintro e w9 ⟨rfl, hb⟩; (replace HP := keepP HP hb; replace HB := keepB HB hb; replace HS := keepS HS hb; replace HX := keepA HX hb; replace HRD := Lib.hid (HRD.out.below hb)); have b1 : w9.cell? ⟨gB, 1, none⟩ = some (.int .u32 (i : Nat)) := (cell_of_row _ gB 1 _ _ _ HX.out); clear hb) | (go_at_call 63; refine (put_any B s p rs i W 4 _ HG.out HP.out (.inr rfl) hi32 hW).mono ?_; intro e wz hq; have HQ := Lib.hid hq; obtain ⟨rfl, -⟩ := hq))
          go_ret
          rw [← HR2.out]
          exact ⟨rfl, HQ.out.2.pa, (Turn.of_below HB.out.1).trans HQ.out.2.tu (fun k hk => .inl hk)⟩
        · have hR := HHR.out
          rw [if_neg (show ¬ (0 : Int) ≠ 0 from fun h => h rfl), if_pos hE0] at hR
          have HR2 := Lib.hid hR
          have hEi : ¬ (E : Int) = 0 := by omega
          have q2 : ((E : Int) != 0) = true := bne_iff_ne.2 hEi
          clear HHR hpc hR hE0
          go_wp2_with (first | (go_at_call 23; refine (joinW_any b2 o2 c2 L _ HRL.out hl0 (by omega) hc2 HJ1.out).mono ?_; rw [HJ.out]; rintro e w5 ⟨rfl, hb⟩; (replace HP := keepP HP hb; replace HB := keepB HB hb; replace HS := keepS HS hb; replace HX := keepA HX hb; replace HRD := Lib.hid (HRD.out.below hb)); clear hb) | (refine strAdd (by rfl) _ _ _ _ rfl ⟨#[32]⟩ (bs J) (bs (32 :: J)) rfl rfl (by rw [bs_size]; show 1 + J.length ≤ _; omega) (bs_add [32] J) ?_) | (refine strAdd (by rfl) _ _ _ _ rfl (bs x) (bs (32 :: J)) (bs T) rfl rfl (by rw [bs_size, bs_size, List.length_cons]; omega) (by rw [bs_add, HE2.out]) ?_) | (go_at_call 66; refine (HPA.out _ HS.out).mono ?_; rintro e w6 ⟨rfl, hb⟩; (replace HP := keepP HP hb; replace HB := keepB HB hb; replace HS := keepS HS hb; replace HX := keepA HX hb; replace HRD := Lib.hid (HRD.out.below hb)); clear hb) | (refine wlAlloc (by rfl) 30 rfl (insA 0 0 0 0 0) zeroIn ?_; intro gI w7 hg hl ha hb; have HN := Lib.hid (And.intro hb hb.size); have HGI := Lib.hid hg; have HI := Lib.hid ha; clear ha hb hg hl) | (refine rowStore (by rfl) 30 _ _ rfl gI rfl (insQ po pq) rfl HI.out infoIn rfl (insQ_one _ _) ?_; intro w8 ha ho; replace HI := Lib.hid ha; have hb := (keepBo HN HGI.out ho).out.1; (replace HP := keepP HP hb; replace HB := keepB HB hb; replace HS := keepS HS hb; replace HX := keepA HX hb; replace HRD := Lib.hid (HRD.out.below hb)); clear ha ho hb HN HGI) | (refine rowLoad (by rfl) 30 _ rfl gI rfl (cs := insQ po pq) HI.out Tryd.underlying30 rfl infoIn ?_) | (go_at_call 7; refine (HEN.out _ HS.out).mono ?_; rintro e w9 ⟨rfl, hb⟩; (replace HP := keepP HP hb; replace HB := keepB HB hb; replace HS := keepS HS hb; replace HX := keepA HX hb; replace HRD := Lib.hid (HRD.out.below hb)); have b1 : w9.cell? ⟨gB, 1, none⟩ = some (.int .u32 (i : Nat)) := (cell_of_row _ gB 1 _ _ _ HX.out); clear hb))
          go_ret
          rw [← HR2.out]
          exact ⟨rfl, HP.out, Turn.of_below HB.out.1⟩
      · have hR := HHR.out
        rw [if_pos hp0] at hR
        have HR2 := Lib.hid hR
        have q2 : (pe != 0) = true := bne_iff_ne.2 hp0
        have HPE : Hid (pe = ((pe.toNat : Nat) : Int)) := Lib.hid (by rcases hpc with h | h | h <;> simp only at h <;> omega)
        clear HHR hpc hR
        go_wp2_with (first | (go_at_call 23; refine (joinW_any b2 o2 c2 L _ HRL.out hl0 (by omega) hc2 HJ1.out).mono ?_; rw [HJ.out]; rintro e w5 ⟨rfl, hb⟩; (replace HP := keepP HP hb; replace HB := keepB HB hb; replace HS := keepS HS hb; replace HX := keepA HX hb; replace HRD := Lib.hid (HRD.out.below hb)); clear hb) | (refine strAdd (by rfl) _ _ _ _ rfl ⟨#[32]⟩ (bs J) (bs (32 :: J)) rfl rfl (by rw [bs_size]; show 1 + J.length ≤ _; omega) (bs_add [32] J) ?_) | (refine strAdd (by rfl) _ _ _ _ rfl (bs x) (bs (32 :: J)) (bs T) rfl rfl (by rw [bs_size, bs_size, List.length_cons]; omega) (by rw [bs_add, HE2.out]) ?_) | (go_at_call 66; refine (HPA.out _ HS.out).mono ?_; rintro e w6 ⟨rfl, hb⟩; (replace HP := keepP HP hb; replace HB := keepB HB hb; replace HS := keepS HS hb; replace HX := keepA HX hb; replace HRD := Lib.hid (HRD.out.below hb)); clear hb) | (refine wlAlloc (by rfl) 30 rfl (insA 0 0 0 0 0) zeroIn ?_; intro gI w7 hg hl ha hb; have HN := Lib.hid (And.intro hb hb.size); have HGI := Lib.hid hg; have HI := Lib.hid ha; clear ha hb hg hl) | (refine rowStore (by rfl) 30 _ _ rfl gI rfl (insQ po pq) rfl HI.out infoIn rfl (insQ_one _ _) ?_; intro w8 ha ho; replace HI := Lib.hid ha; have hb := (keepBo HN HGI.out ho).out.1; (replace HP := keepP HP hb; replace HB := keepB HB hb; replace HS := keepS HS hb; replace HX := keepA HX hb; replace HRD := Lib.hid (HRD.out.below hb)); clear ha ho hb HN HGI))
        go_ret
        rw [← HR2.out]
        exact ⟨ret_i64 HPE.out, HP.out, Turn.of_below HB.out.1⟩
end Go.Proofs.YtaclidjhgpkmpaaDoor.My
set_option linter.unusedVariables false
set_option linter.unusedSimpArgs false
namespace Go.Proofs.YtaclidjhgpkmpaaDoor.My
open Go.RowKit
structure SegV where
  at_ : Nat
  d : List UInt8
structure SegM where
  at_ : Nat
  D : Option Addr
  c : Nat
  d : List UInt8
def SegM.v (m : SegM) : SegV := ⟨m.at_, m.d⟩
def sA (m : SegM) : Array Value := #[.int .u32 m.at_, .slice m.D m.d.length m.c]
def imA (st : Nat) (S : Option Addr) (n c : Nat) : Array Value := #[.int .u32 st, .slice S n c]
def SegOk (w : World) (m : SegM) : Prop := m.at_ < 4294967296 ∧ m.d.length ≤ 1000000 ∧ m.d.length ≤ m.c ∧ RdA .u8 w m.D m.d.length (ints m.d)
def RdSg (w : World) (A : Option Addr) (ms : List SegM) : Prop := RwA w A 2 ms.length (ms.map sA) ∧ ∀ m ∈ ms, SegOk w m
theorem RdSg.below {w w' : World} {A : Option Addr} {ms : List SegM} (h : RdSg w A ms) (hb : Below w.heap.size w w') : RdSg w' A ms :=
  ⟨h.1.below hb, fun m hm => ⟨(h.2 m hm).1, (h.2 m hm).2.1, (h.2 m hm).2.2.1, (h.2 m hm).2.2.2.below hb⟩⟩
theorem RdSg.get {w : World} {A : Option Addr} {ms : List SegM} (h : RdSg w A ms) {k : Nat} {m : SegM} (hm : ms[k]? = some m) : SegOk w m := h.2 m (List.mem_of_getElem? hm)
theorem sA_get {ms : List SegM} {k : Nat} {m : SegM} (h : ms[k]? = some m) : (ms.map sA)[k]? = some (sA m) := by simp [h]
theorem sA_one (m : SegM) : (sA m).all (·.oneCell') = true := by simp [sA, Value.oneCell']
theorem sizeSeg (w : World) : (sizeOf 40).run Tryd.prog w = .ok 2 w := by kernel_rfl
theorem infoSeg : (Tryd.prog.info? 40).map (·.size) = some 2 := by kernel_rfl
theorem infoIm : (Tryd.prog.info? 34).map (·.size) = some 2 := by kernel_rfl
theorem keepI {w w' : World} {A : Option Addr} {ms : List SegM} (h : Hid (RdSg w A ms)) (hb : Below w.heap.size w w') : Hid (RdSg w' A ms) := h.out.below hb
theorem drop_cons {α : Type} {l : List α} {k : Nat} {x : α} (h : l[k]? = some x) : l.drop k = x :: l.drop (k + 1) := by
  obtain ⟨h1, h2⟩ := List.getElem?_eq_some_iff.1 h
  rw [List.drop_eq_getElem_cons h1, h2]
abbrev OwnB (w : World) (B : Nat) (v : Value) (l : List UInt8) : Prop := w.ownsRow B 5 1 v l.length ((ints l).map (Value.int .u8))
theorem infoB : (Tryd.prog.info? 5).map (fun i => (i.zero, i.size, i.bytes)) = some (some (.int .u8 0), 1, 1) := by kernel_rfl
theorem OwnB.rd {w : World} {B : Nat} {v : Value} {l : List UInt8} (h : OwnB w B v l) : ∃ A c, v = .slice A l.length c ∧ RdA .u8 w A l.length (ints l) ∧ Fresh B A := RdA.of_own h
def dV (m : SegM) : Value := .slice m.D m.d.length m.c
theorem own_type {w : World} {B e k n : Nat} {v : Value} {xs : List Value} (h : w.ownsRow B e k v n xs) {j : Nat} (hj : v.ownBlock = some j) : B ≤ j ∧ ∃ cs, w.heap[j]? = some (.cells cs e (0, 0)) := by
  rcases h.2 with ⟨rfl, _⟩ | ⟨g, cap, cur, rfl, h2, h3, _⟩
  · cases hj
  · simp only [Value.ownBlock, Option.some.injEq] at hj
    subst hj
    exact ⟨h2, cur, h3⟩
theorem own_lt {w : World} {B e k n : Nat} {v : Value} {xs : List Value} (h : w.ownsRow B e k v n xs) {j : Nat} (hj : v.ownBlock = some j) : j < w.heap.size := by
  obtain ⟨_, cs, h2⟩ := own_type h hj
  exact (Array.getElem?_eq_some_iff.1 h2).1
theorem own_same {w w' : World} {B e k n : Nat} {v : Value} {xs : List Value} (h : w.ownsRow B e k v n xs) (hk : ∀ j, v.ownBlock = some j → w'.heap[j]? = w.heap[j]?) : w'.ownsRow B e k v n xs := by
  refine ⟨h.1, ?_⟩
  rcases h.2 with h | ⟨g, cap, cur, rfl, h2, h3, h4⟩
  · exact .inl h
  · exact .inr ⟨g, cap, cur, rfl, h2, (hk g rfl).trans h3, h4⟩
theorem own_cap {w : World} {B e k n m c : Nat} {A : Option Addr} {xs : List Value} (h : w.ownsRow B e k (.slice A m c) n xs) : m = n ∧ n ≤ c ∧ (A = none → n = 0 ∧ c = 0) := by
  rcases h.2 with ⟨he, h0⟩ | ⟨g, cap, cur, he, _, _, hc, _⟩
  · injection he with e1 e2 e3
    subst e1 e2 e3
    exact ⟨h0.symm, by omega, fun _ => ⟨h0, rfl⟩⟩
  · injection he with e1 e2 e3
    subst e1 e2 e3
    exact ⟨rfl, hc, fun h => by cases h⟩
structure SegsAt (w : World) (B : Nat) (v : Value) (ms : List SegM) : Prop where
  row : w.ownsRow B 40 2 v ms.length ((ms.map sA).flatMap Array.toList)
  inn : ∀ m ∈ ms, OwnB w B (dV m) m.d
  ap : ms.Pairwise fun a b => ∀ k, (dV a).ownBlock = some k → (dV b).ownBlock ≠ some k
  sm : ∀ m ∈ ms, m.at_ + m.d.length ≤ 16384
theorem sg_u8 : (40 : Nat) ≠ 5 := by decide
theorem SegsAt.nil (w : World) (B : Nat) : SegsAt w B (.slice none 0 0) [] := ⟨⟨rfl, .inl ⟨rfl, rfl⟩⟩, (fun m hm => by cases hm), List.Pairwise.nil, (fun m hm => by cases hm)⟩
theorem SegsAt.same {w w' : World} {B : Nat} {v : Value} {ms : List SegM} (h : SegsAt w B v ms) (hk : ∀ (j : Nat) (cs : Array Value) (t : TypeId), w.heap[j]? = some (.cells cs t (0, 0)) → (t = 40 ∨ t = 5) → w'.heap[j]? = w.heap[j]?) : SegsAt w' B v ms :=
  ⟨own_same h.row fun j hj => by obtain ⟨_, cs, h2⟩ := own_type h.row hj; exact hk j cs _ h2 (.inl rfl),
   fun m hm => own_same (h.inn m hm) fun j hj => by obtain ⟨_, cs, h2⟩ := own_type (h.inn m hm) hj; exact hk j cs _ h2 (.inr rfl), h.ap, h.sm⟩
theorem SegsAt.below {w w' : World} {B : Nat} {v : Value} {ms : List SegM} (h : SegsAt w B v ms) (hb : Below w.heap.size w w') : SegsAt w' B v ms :=
  h.same fun j cs t hj _ => hb.block j (Array.getElem?_eq_some_iff.1 hj).1
theorem SegsAt.only {w w' : World} {B g : Nat} {v : Value} {ms : List SegM} (h : SegsAt w B v ms) (ho : Only g w w') {cs : Array Value} {t : TypeId} {fr : Nat × Nat} (hg : w.heap[g]? = some (.cells cs t fr)) (h1 : t ≠ 40) (h2 : t ≠ 5) : SegsAt w' B v ms :=
  h.same fun j cs' t' hj ht => ho.block j fun e => by
    subst e
    rw [hg] at hj
    injection hj with hj
    injection hj with _ e _
    rcases ht with q | q
    · exact h1 (e.trans q)
    · exact h2 (e.trans q)
theorem SegsAt.drew {w : World} {B : Nat} {v : Value} {ms : List SegM} (h : SegsAt w B v ms) (n : Nat) : SegsAt (w.drewN n) B v ms := h.same fun _ _ _ _ _ => rfl
theorem SegsAt.rd {w : World} {B : Nat} {v : Value} {ms : List SegM} (h : SegsAt w B v ms) : ∃ A c, v = .slice A ms.length c ∧ RdSg w A ms := by
  obtain ⟨A, c, e, hr, _, _⟩ := RwA.of_own (by decide) (fun r hr => by obtain ⟨m, _, rfl⟩ := List.mem_map.1 hr; rfl) h.row
  refine ⟨A, c, e, hr, fun m hm => ?_⟩
  have h1 := h.inn m hm
  have h2 := h.sm m hm
  obtain ⟨A', c', e', hr', _⟩ := h1.rd
  injection e' with e1 e2 e3
  subst e1 e3
  exact ⟨by omega, by omega, (own_cap h1).2.1, hr'⟩
theorem SegsAt.last {w : World} {B : Nat} {v : Value} {ms : List SegM} {m : SegM} (h : SegsAt w B v (ms ++ [m])) : ∃ g cap cur, v = .slice (some ⟨g, 0, none⟩) (ms.length + 1) cap ∧ B ≤ g ∧ w.heap[g]? = some (.cells cur 40 (0, 0)) ∧ cur[2 * ms.length]? = some (.int .u32 m.at_) ∧ cur[2 * ms.length + 1]? = some (dV m) := by
  have hl : ∀ l : List SegM, ((l.map sA).flatMap Array.toList).length = 2 * l.length := by
    intro l
    induction l with
    | nil => rfl
    | cons a l ih => rw [List.map_cons, List.flatMap_cons, List.length_append, ih, List.length_cons]; show 2 + _ = _; omega
  rcases h.row.2 with ⟨_, h0⟩ | ⟨g, cap, cur, rfl, h2, h3, _, _, hsz, htk⟩
  · rw [List.length_append] at h0; simp at h0
  · have key : ∀ j, j < 2 → cur[2 * ms.length + j]? = (sA m)[j]? := by
      intro j hj
      have : (cur.toList.take ((ms ++ [m]).length * 2))[2 * ms.length + j]? = cur.toList[2 * ms.length + j]? := List.getElem?_take_of_lt (by rw [List.length_append]; simp; omega)
      rw [← Array.getElem?_toList, ← this, htk, List.map_append, List.flatMap_append, List.getElem?_append_right (by rw [hl]; omega), hl]
      simp only [List.map_cons, List.map_nil, List.flatMap_cons, List.flatMap_nil, List.append_nil]
      rw [show 2 * ms.length + j - 2 * ms.length = j by omega, Array.getElem?_toList]
    refine ⟨g, cap, cur, by rw [List.length_append]; rfl, h2, h3, ?_, ?_⟩
    · have := key 0 (by decide); rw [Nat.add_zero] at this; rw [this]; rfl
    · exact key 1 (by decide)
theorem SegsAt.push {w w2 : World} {B : Nat} {v v' : Value} {ms : List SegM} {m : SegM} (h : SegsAt w B v ms) (hm : OwnB w B (dV m) m.d) (hs : m.at_ + m.d.length ≤ 16384) (hap : ∀ a ∈ ms, ∀ k, (dV a).ownBlock = some k → (dV m).ownBlock ≠ some k)
    (hrow : w2.ownsRow B 40 2 v' (ms.length + 1) ((ms.map sA).flatMap Array.toList ++ (sA m).toList)) (hg : w.grownBy w2 v.ownBlock) : SegsAt w2 B v' (ms ++ [m]) := by
  have keep : ∀ a, OwnB w B (dV a) a.d → OwnB w2 B (dV a) a.d := fun a ha => own_same ha fun j hj => by
    obtain ⟨_, cs, h2⟩ := own_type ha hj
    refine hg.block j (own_lt ha hj) fun e => ?_
    obtain ⟨_, cs', h3⟩ := own_type h.row e.symm
    rw [h2] at h3
    injection h3 with h3
    injection h3 with _ e _
    exact sg_u8 e.symm
  refine ⟨?_, ?_, ?_, ?_⟩
  · rw [List.length_append, List.map_append, List.flatMap_append]
    simpa using hrow
  · intro a ha
    rcases List.mem_append.1 ha with ha | ha
    · exact keep a (h.inn a ha)
    · obtain rfl : a = m := by simpa using ha
      exact keep a hm
  · rw [List.pairwise_append]
    refine ⟨h.ap, List.pairwise_singleton _ _, fun a ha b hb => ?_⟩
    obtain rfl : b = m := by simpa using hb
    exact hap a ha
  · intro a ha
    rcases List.mem_append.1 ha with ha | ha
    · exact h.sm a ha
    · obtain rfl : a = m := by simpa using ha
      exact hs
theorem SegsAt.grow {w w1 w2 : World} {B g cap : Nat} {ms : List SegM} {m m' : SegM} {cur : Array Value} (h : SegsAt w B (.slice (some ⟨g, 0, none⟩) (ms.length + 1) cap) (ms ++ [m])) (hcur : w.heap[g]? = some (.cells cur 40 (0, 0)))
    (hgr : w.grownBy w1 (dV m).ownBlock) (hown : OwnB w1 B (dV m') m'.d) (hat : m'.at_ = m.at_) (hs : m'.at_ + m'.d.length ≤ 16384) (hblk : (dV m').ownBlock = (dV m).ownBlock ∨ (dV m').ownBlock = some w.heap.size)
    (h2 : w2.heap[g]? = some (.cells (cur.setIfInBounds (2 * ms.length + 1) (dV m')) 40 (0, 0))) (ho : Only g w1 w2) : SegsAt w2 B (.slice (some ⟨g, 0, none⟩) (ms.length + 1) cap) (ms ++ [m']) := by
  have hl : ∀ l : List SegM, ((l.map sA).flatMap Array.toList).length = 2 * l.length := by
    intro l
    induction l with
    | nil => rfl
    | cons a l ih => rw [List.map_cons, List.flatMap_cons, List.length_append, ih, List.length_cons]; show 2 + _ = _; omega
  have hmm := h.inn m (by simp)
  have hgm : ∀ a B', OwnB w B' (dV a) a.d → ∀ j, (dV a).ownBlock = some j → j ≠ g := fun a B' ha j hj e => by
    obtain ⟨_, cs, h3⟩ := own_type ha hj
    subst e
    rw [hcur] at h3
    injection h3 with h3
    injection h3 with _ e _
    exact sg_u8 e
  have hg1 : ∀ j, (dV m').ownBlock = some j → j ≠ g := fun j hj e => by
    rcases hblk with q | q
    · exact hgm m B hmm j (q ▸ hj) e
    · rw [hj] at q
      injection q with q
      have := (Array.getElem?_eq_some_iff.1 hcur).1
      omega
  refine ⟨?_, ?_, ?_, ?_⟩
  · obtain ⟨h1, h3⟩ := h.row
    rcases h3 with ⟨h3, _⟩ | ⟨g', cap', cur', he, hB, hh, hc, hx, hsz, htk⟩
    · injection h3 with h3; cases h3
    · injection he with e1 e2 e3
      injection e1 with e1
      injection e1 with e1
      subst e1 e3
      rw [hcur] at hh
      injection hh with hh
      injection hh with hh _ _
      subst hh
      refine ⟨by rw [flat_len (k := 2) (by intro r hr; obtain ⟨q, _, rfl⟩ := List.mem_map.1 hr; rfl)]; simp, .inr ⟨g, cap, _, by rw [List.length_append]; rfl, hB, h2, by rw [List.length_append] at hc ⊢; exact hc, hx, by rw [Array.size_setIfInBounds]; exact hsz, ?_⟩⟩
      rw [Array.toList_setIfInBounds, List.take_set]
      rw [List.length_append] at htk ⊢
      simp only [List.length_cons, List.length_nil] at htk ⊢
      rw [htk, List.map_append, List.flatMap_append, List.map_append, List.flatMap_append, List.set_append_right _ _ (by rw [hl]; omega), hl, show 2 * ms.length + 1 - 2 * ms.length = 1 by omega]
      congr 1
      simp only [List.map_cons, List.map_nil, List.flatMap_cons, List.flatMap_nil, List.append_nil, sA, hat]
      rfl
  · intro a ha
    rcases List.mem_append.1 ha with ha | ha
    · have haa := h.inn a (by simp [ha])
      refine own_same haa fun j hj => ?_
      have e1 := hgr.block j (own_lt haa hj) (fun e => by
        have := (List.pairwise_append.1 h.ap).2.2 a ha m (by simp) j hj
        exact this e.symm)
      rw [ho.block j (hgm a B haa j hj), e1]
    · obtain rfl : a = m' := by simpa using ha
      exact own_same hown fun j hj => ho.block j (hg1 j hj)
  · obtain ⟨p1, _, p3⟩ := List.pairwise_append.1 h.ap
    rw [List.pairwise_append]
    refine ⟨p1, List.pairwise_singleton _ _, fun a ha b hb k hk hk2 => ?_⟩
    obtain rfl : b = m' := by simpa using hb
    rcases hblk with q | q
    · exact p3 a ha m (by simp) k hk (q ▸ hk2)
    · rw [hk2] at q
      injection q with q
      have := own_lt (h.inn a (by simp [ha])) hk
      omega
  · intro a ha
    rcases List.mem_append.1 ha with ha | ha
    · exact h.sm a (by simp [ha])
    · obtain rfl : a = m' := by simpa using ha
      exact hs
theorem keepGrow {B e n k : Nat} {w w2 : World} {v : Value} {xs : List Value} {g : Nat} {cs : Array Value} {t : TypeId} {fr : Nat × Nat} (h : Hid (w.heap[g]? = some (.cells cs t fr))) (hv : w.ownsRow B e k v n xs) (hg : w.grownBy w2 v.ownBlock) (ht : t ≠ e) : Hid (w2.heap[g]? = some (.cells cs t fr)) := by
  refine (hg.block g (Array.getElem?_eq_some_iff.1 h.out).1 fun q => ?_).trans h.out
  obtain ⟨_, cs', h3⟩ := own_type hv q.symm
  rw [h.out] at h3
  injection h3 with h3
  injection h3 with _ e' _
  exact ht e'
theorem yieldsIdx0 {P : Program} {ops : Array Oper} {S : World → Prop} {oi : Oper} {a : Act} (hw : Region.wanted oi (yielded ops a.tmps) = true) (t : TypeId) (x y : Operand) (ho : oi.op = .indexAddr t x y) (e : TypeId) (k : Nat) (ht : P.underlying t = some (.slice e)) (hs : ∀ w, (sizeOf e).run P w = .ok k w) (b n c i : Nat) (hx : a.eval x = .slice (some ⟨b, 0, none⟩) n c) (hy : a.eval y = .int .i64 i) (hi : i < n) : YieldsIf P ops S oi (.pointer (some ⟨b, i * k, none⟩)) a := by
  have := yieldsIdx (P := P) (ops := ops) (S := S) hw t x y ho e k ht hs b 0 n c i hx hy hi
  rwa [Nat.zero_add] at this
theorem infoSS : (Tryd.prog.info? 32).map (·.size) = some 1 := by kernel_rfl
theorem infoSeg3 : (Tryd.prog.info? 40).map (fun i => (i.zero, i.size, i.bytes)) = some (some (.agg #[.int .u32 0, .slice none 0 0]), 2, 32) := by kernel_rfl
theorem zeroIm (w : World) : (zeroValue 34).run Tryd.prog w = .ok (.agg (imA 0 none 0 0)) w := by kernel_rfl
theorem imA_one (st : Nat) (S : Option Addr) (n c : Nat) : (imA st S n c).all (·.oneCell') = true := by simp [imA, Value.oneCell']
theorem keepNe {w w2 : World} {g k : Nat} {cs cs' : Array Value} {t t' : TypeId} {fr fr' : Nat × Nat} (h : Hid (w.heap[k]? = some (.cells cs t fr))) (hc : Hid (w.heap[g]? = some (.cells cs' t' fr'))) (ht : t ≠ t') (ho : Only g w w2) : Hid (w2.heap[k]? = some (.cells cs t fr)) :=
  (ho.block k (fun e => by
    subst e
    have h1 := h.out
    rw [hc.out] at h1
    injection h1 with h1
    injection h1 with _ e _
    exact ht e.symm)).trans h.out
theorem SegsAt.grow2 {w w1 w2 : World} {B g cap n k : Nat} {ms : List SegM} {m m' : SegM} {cur : Array Value} (hk : ms.length = k) (hn : n = k + 1) (h : SegsAt w B (.slice (some ⟨g, 0, none⟩) n cap) (ms ++ [m])) (hcur : w.heap[g]? = some (.cells cur 40 (0, 0)))
    (hgr : w.grownBy w1 (dV m).ownBlock) (hown : OwnB w1 B (dV m') m'.d) (hat : m'.at_ = m.at_) (hs : m'.at_ + m'.d.length ≤ 16384) (hblk : (dV m').ownBlock = (dV m).ownBlock ∨ (dV m').ownBlock = some w.heap.size)
    (h2 : w2.heap[g]? = some (.cells (cur.setIfInBounds (k * 2 + 1) (dV m')) 40 (0, 0))) (ho : Only g w1 w2) : SegsAt w2 B (.slice (some ⟨g, 0, none⟩) n cap) (ms ++ [m']) := by
  subst hk; subst hn
  rw [Nat.mul_comm] at h2
  exact SegsAt.grow h hcur hgr hown hat hs hblk h2 ho
end Go.Proofs.YtaclidjhgpkmpaaDoor.My

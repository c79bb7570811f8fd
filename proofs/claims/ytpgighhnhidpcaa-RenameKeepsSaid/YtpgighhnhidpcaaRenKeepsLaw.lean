/- The law of Keeps: whatever is renamed, retired in order, and undone from the youngest one on, names stay right. -/
import Derived.Test.YtpgighhnhidpcaaRenActs
import Derived.Test.YtpgighhnhidpcaaRenKeepsPlain
import Derived.Test.YtpgighhnhidpcaaRenRightLaw
import Derived.Test.YtpgighhnhidpcaaRenBackLaw
set_option linter.unusedSimpArgs false
set_option linter.unusedVariables false
namespace Go.Proofs.Ytpgighhnhidpcaa.My
open Go.RowKit
set_option maxRecDepth 100000 in
theorem keeps_off (n : Int) (L : Option Addr) (kL m : Nat) (w : World) (hm : m ≤ 9223372036854775807) (h : n < 17 ∨ 96 < n ∨ 80 < m) : Calls Try.prog 7 #[.int .i64 n, .slice L m kL] w fun e w' => e = .returned (.bool true) ∧ Below w.heap.size w w' := by
  have HB := startB w
  by_cases h1 : n < 17
  · clear h
    go_enter Try.func7, Try.ntmps7
    go_wp2_with (first | (go_at_call 9; refine (awake_any _).mono ?_; rintro e w4 ⟨rfl, hb⟩; replace HB := keepB HB hb))
    go_ret
    exact ⟨rfl, HB.out.1⟩
  · by_cases h2 : 96 < n
    · clear h
      go_enter Try.func7, Try.ntmps7
      go_wp2_with (first | (go_at_call 9; refine (awake_any _).mono ?_; rintro e w4 ⟨rfl, hb⟩; replace HB := keepB HB hb))
      go_ret
      exact ⟨rfl, HB.out.1⟩
    · have h3 : 80 < m := by omega
      clear h
      go_enter Try.func7, Try.ntmps7
      go_wp2_with (first | (go_at_call 9; refine (awake_any _).mono ?_; rintro e w4 ⟨rfl, hb⟩; replace HB := keepB HB hb))
      go_ret
      exact ⟨rfl, HB.out.1⟩
theorem acts_get {acs : List ActV} {k : Nat} {a : ActV} (h : acs[k]? = some a) : (acs.map aA)[k]? = some (aA a) := by simp [h]
theorem onV_s {V : NmV} {u : UopV} (h1 : 1 ≤ V.s) (h2 : V.s ≤ 1000) : (onV V u).s ≤ V.s + 1 := by
  have hq : sqS V.s = V.s + 1 := by unfold sqS; rw [IntKind.wrap_u64]; omega
  unfold onV
  split
  · split
    · show sqS V.s ≤ _; omega
    · omega
  · show sqS V.s ≤ _; omega
theorem onV_no {V : NmV} {u : UopV} (h : onB V u = false) : onV V u = V := by
  unfold onB at h
  rw [Bool.or_eq_false_iff] at h
  unfold onV
  rw [if_pos (by simpa using h.1), if_neg (by rw [h.2]; decide)]
theorem rgt_q {V : NmV} {M q : Nat} {fl : List RenV} (hi : Inv V M fl) (hq : fl.length = q) (hfl : q ≤ 100) (A B : Option Addr) (c d : Nat) (w : World) (hx : RdA .i64 w A V.n V.xs) (hl : RwA w B 29 fl.length (fl.map rA)) : Calls Try.prog 24 #[.agg (nmA V A c), .int .i64 (M : Int), .slice B q d] w fun e w' => e = .returned (.bool true) ∧ Below w.heap.size w w' := by
  subst hq
  have h := rgt_any V A B c d (M : Int) fl w hx ⟨hi.sd.m, hi.d16, by have := hi.vn; have := hi.hi; omega⟩ hl hfl
  rw [hi.right] at h
  exact h
theorem rrgt_q {V : NmV} {M q : Nat} {fl : List RenV} (hi : Inv V M fl) (hq : fl.length = q) (hfl : q ≤ 100) (A B : Option Addr) (c d : Nat) (w : World) (hx : RdA .i64 w A V.n V.xs) (hl : RwA w B 29 fl.length (fl.map rA)) : Calls Try.prog 25 #[.agg (nmA V A c), .int .i64 (M : Int), .slice B q d] w fun e w' => e = .returned (.bool true) ∧ Below w.heap.size w w' := by
  subst hq
  have h := rrgt_any V A B c d (M : Int) fl w hx ⟨hi.sd.m, hi.d16, by have := hi.vn; have := hi.hi; omega⟩ hl hfl
  rw [← rg_eq, hi.right] at h
  exact h
/-- The ring's memory and the list's lie apart. -/
def ApartL (A : Option Addr) (n : Nat) (L : Option Addr) (cap : Nat) : Prop := ∀ a b, A = some a → 0 < n → L = some b → 0 < cap → a.block ≠ b.block
theorem ApartL.next {w : World} {B : Nat} {A A2 L : Option Addr} {n n2 cap : Nat} {fl : List RenV} (h : ApartL A n L cap) (hT : TailR w B L cap fl) (hA : A2 = A ∨ Fresh w.heap.size A2) (hn : n2 = n) : ApartL A2 n2 L cap := fun a b ha h0 hb hc he => by
  rcases hA with rfl | hf
  · exact h a b ha (hn ▸ h0) hb hc he
  · have h1 := hf a ha
    have h2 := (hT.lt b hb hc).2
    omega
theorem apartL_app {A2 L1 L2 : Option Addr} {cap1 cap2 n : Nat} {w : World} {xs : List Int} (hx : RdA .i64 w A2 n xs) (h : ApartL A2 n L1 cap1) (hL : L2 = L1 ∧ 0 < cap1 ∨ Fresh w.heap.size L2) : ApartL A2 n L2 cap2 := fun a1 b1 e1 e2 e3 e4 he => by
  rcases hL with ⟨i1, i2⟩ | i1
  · exact h a1 b1 e1 e2 (i1 ▸ e3) i2 he
  · have h8 := i1 b1 e3
    have h9 := hx.lt a1 e1 e2
    omega
theorem rd_app {A2 L1 : Option Addr} {cap1 n : Nat} {w w2 : World} {xs : List Int} (hx : RdA .i64 w A2 n xs) (h : ApartL A2 n L1 cap1) (hk : ∀ k, k < w.heap.size → (∀ b, L1 = some b → 0 < cap1 → k ≠ b.block) → w2.heap[k]? = w.heap[k]?) : RdA .i64 w2 A2 n xs :=
  ⟨hx.1, fun hn => by
    obtain ⟨b, off, hAe, hc⟩ := hx.2 hn
    have hlt2 := hx.lt _ hAe hn
    refine ⟨b, off, hAe, fun j hj => ?_⟩
    have h8 := hc j hj
    unfold World.cell? at h8 ⊢
    simp only [hk b hlt2 (fun b1 e3 e4 => h _ b1 hAe hn e3 e4)]
    exact h8⟩
theorem Inv.kk {V : NmV} {n : Nat} {fl : List RenV} (h : Inv V n fl) : V.Ok := ⟨h.sd.m, h.d16, by have := h.vn; have := h.hi; omega⟩
theorem RwA.belowB {w w' : World} {A : Option Addr} {k n B : Nat} {rows : List (Array Value)} (h : RwA w A k n rows) (hb : Below B w w') (hlt : ∀ a, A = some a → 0 < n → a.block < B) : RwA w' A k n rows :=
  ⟨h.1, h.2.1, fun hn => by
    obtain ⟨b, off, hA, hlt0, hc⟩ := h.2.2 hn
    exact ⟨b, off, hA, Nat.lt_of_lt_of_le hlt0 hb.size, fun j r hr => range_block (hc j r hr) (hb.block b (hlt _ hA hn))⟩⟩
theorem keepBg' {B B' : Nat} {w0 w w' : World} (h : Hid (Below B w0 w ∧ B ≤ w.heap.size)) (hB : B ≤ B') (hb : Below B' w w') : Hid (Below B w0 w' ∧ B ≤ w'.heap.size) :=
  ⟨h.out.1.trans ⟨hb.os, hb.tape, hb.output, hb.size, fun i hi => hb.block i (by omega)⟩, Nat.le_trans h.out.2 hb.size⟩
theorem keepAg' {B g : Nat} {w w' : World} {o : Obj} (h : Hid (w.heap[g]? = some o)) (hg : g < B) (hb : Below B w w') : Hid (w'.heap[g]? = some o) := (hb.block g hg).trans h.out
set_option maxRecDepth 100000 in
set_option maxHeartbeats 8000000 in
theorem keeps_walk (M : Nat) (acs : List ActV) (h17 : 17 ≤ M) (h96 : M ≤ 96) (h80 : acs.length ≤ 80) (hpos : ∀ a ∈ acs, 0 ≤ a.kind) (L : Option Addr) (kL : Nat) (w : World) (hl : RwA w L 24 acs.length (acs.map aA)) : Calls Try.prog 7 #[.int .i64 (M : Int), .slice L acs.length kL] w fun e w' => e = .returned (.bool true) ∧ Below w.heap.size w w' := by
  have HB := startB w
  have HA := Lib.hid hl
  have HLA := Lib.hid hl.lt
  have HPOS := Lib.hid hpos
  have HI0 := Lib.hid (Inv.new h17 h96)
  clear hl hpos
  go_enter Try.func7, Try.ntmps7
  go_wp2_with (first | (go_at_call 14; refine (new_v (M : Int) _).mono ?_; rintro e w1 ⟨A0, c0, rfl, hr, hF, hb⟩; replace HA := Lib.hid (HA.out.below hb); replace HB := keepB HB hb; have HX := Lib.hid hr; clear hr hF hb) | (refine wlAlloc rfl 29 rfl _ zeroNames ?_; intro g5 w2 hg5 hg5' hz hb; have hw5 : w.heap.size ≤ g5 := Nat.le_trans HB.out.2 hg5; have HAS : Hid (∀ a, A0 = some a → 0 < (nwV (M : Int)).n → a.block ≠ g5) := Lib.hid (fun a e1 e2 => Nat.ne_of_lt (Nat.lt_of_lt_of_le (HX.out.lt a e1 e2) hg5)); replace HA := Lib.hid (HA.out.below hb); replace HB := keepB HB hb; replace HX := Lib.hid (HX.out.below hb); have HS := Lib.hid hz; clear hz hb) | (refine rowStore rfl 29 _ _ rfl g5 rfl (nmA (nwV (M : Int)) A0 c0) rfl HS.out (nm_szV (nwV_ok _) _ _) (zZ _ (nwV_ok _) _ _) (nm_oneV _ _ _) ?_; intro w3 hz ho; replace HA := Lib.hid (HA.out.only2 ho (fun a e1 e2 => by have := HLA.out a e1 e2; omega)); replace HX := Lib.hid (HX.out.only2 ho HAS.out); replace HB := keepBo HB (by omega) ho; clear HS; have HS := Lib.hid hz; clear hz ho) | (refine wlLit rfl 33 0 _ rfl #[] 52 (fun _ => by kernel_rfl) ?_; intro gM w4 hgM hgM' hz hb; replace HA := Lib.hid (HA.out.below hb); replace HB := keepB HB hb; replace HX := Lib.hid (HX.out.below hb); replace HS := keepA HS hb; clear hz hb))
  go_loopg [7, 6] acs.length (fun gk i o wr => ∃ (k : Nat) (V : NmV) (A1 : Option Addr) (c1 : Nat) (L1 : Option Addr) (cap1 q : Nat) (fl : List RenV), k + gk = acs.length ∧ i = .int .i64 k ∧ o = .slice L1 q cap1 ∧ q ≤ k ∧ V.s ≤ (k : Int) + 1 ∧ Hid (fl.length = q) ∧ Hid (Inv V M fl) ∧ Hid (wr.heap[g5]? = some (.cells (nmA V A1 c1) 29 (0, 0))) ∧ Hid (RdA .i64 wr A1 V.n V.xs) ∧ Hid (∀ a, A1 = some a → 0 < V.n → a.block ≠ g5) ∧ Hid (ApartL A1 V.n L1 cap1) ∧ Hid (TailR wr (g5 + 1) L1 cap1 fl) ∧ Hid (RwA wr L 24 acs.length (acs.map aA)) ∧ Hid (Below w.heap.size w wr ∧ w.heap.size ≤ wr.heap.size))
  case atStart => exact ⟨0, nwV (M : Int), A0, c0, some ⟨gM, 0, none⟩, 0, 0, [], by omega, rfl, rfl, Nat.le_refl _, Int.le_refl _, Lib.hid rfl, HI0, HS, HX, HAS, Lib.hid (fun a b _ _ _ h => absurd h (Nat.lt_irrefl 0)), Lib.hid (.inl ⟨rfl, rfl⟩), HA, HB⟩
  case round =>
    clear HS HX HA HB HAS HI0
    obtain ⟨k, V, A1, c1, L1, cap1, q, fl, hk, rfl, rfl, hqk, hVs, HQ, HI, HS, HX, HAS, HAP, HT, HA, HB⟩ := hrel
    by_cases hlt : k < acs.length
    · obtain ⟨a, hac⟩ : ∃ a, acs[k]? = some a := ⟨_, List.getElem?_eq_getElem hlt⟩
      have hn0 : 0 < acs.length := by omega
      obtain ⟨bA, oA, rfl, _, _⟩ := HA.out.2.2 hn0
      have hkind : 0 ≤ a.kind := HPOS.out a (List.mem_of_getElem? hac)
      have kV : V.Ok := HI.out.kk
      by_cases hk0 : a.kind = 0
      · have b0 : (a.kind == 0) = true := by simp [hk0]
        have b1 : (a.kind == 1) = false := by simp [hk0]
        have b2 : ¬ 1 < a.kind := by omega
        clear hk0 hkind
        cases fl with
        | nil =>
          obtain rfl : q = 0 := HQ.out.symm
          (try clear fK); have fK := act_kind (HA.out.at_ hn0 (acts_get hac))
          go_wp2_with (first | (refine wlIdx rfl 62 _ _ rfl 64 24 Try.underlying62 sizeAct bA oA acs.length kL k rfl rfl hlt ?_) | (refine rowLoad rfl 29 _ rfl g5 rfl HS.out Try.underlying29 rfl (nm_szV HI.out.kk _ _) ?_) | (go_at_call 24; refine (rgt_q HI.out HQ.out (by omega) A1 L1 c1 cap1 _ HX.out HT.out.rd).mono ?_; rintro e w5 ⟨rfl, hb⟩; replace HA := Lib.hid (HA.out.below hb); replace HB := keepB HB hb; replace HX := Lib.hid (HX.out.below hb); replace HT := Lib.hid (HT.out.below hb); replace HS := keepA HS hb; clear hb; have HRR := Lib.hid True.intro) | (have hq := HRR; clear hq; go_at_call 25; refine (rrgt_q HI.out HQ.out (by omega) A1 L1 c1 cap1 _ HX.out HT.out.rd).mono ?_; rintro e w6 ⟨rfl, hb⟩; replace HA := Lib.hid (HA.out.below hb); replace HB := keepB HB hb; replace HX := Lib.hid (HX.out.below hb); replace HT := Lib.hid (HT.out.below hb); replace HS := keepA HS hb; clear hb HRR))
          go_roundg (acs.length - (k + 1))
          case rel => exact ⟨k + 1, V, A1, c1, L1, cap1, 0, [], by omega, by go_num, rfl, by omega, by omega, HQ, HI, HS, HX, HAS, HAP, HT, HA, HB⟩
          case measure => omega
        | cons r f0 =>
          obtain ⟨q0, rfl⟩ : ∃ q0, q = q0 + 1 := ⟨f0.length, HQ.out.symm⟩
          have HQ0 : Hid (f0.length = q0) := Lib.hid (by have := HQ.out; simpa using this)
          have hf0 : 0 < (r :: f0).length := by simp
          have hfr : (r :: f0)[0]? = some r := rfl
          have HIN := Lib.hid HI.out.retire
          have hV's : (rtV V r).s = V.s := rfl
          obtain ⟨bL, oL, rfl, _, _⟩ := HT.out.rd.2.2 hf0
          clear HI
          (try clear fK); have fK := act_kind (HA.out.at_ hn0 (acts_get hac))
          go_wp2_with (first | (refine wlIdx rfl 62 _ _ rfl 64 24 Try.underlying62 sizeAct bA oA acs.length kL k rfl rfl hlt ?_))
          (replace HS := keepA1 HS; replace HX := Lib.hid (HX.out.drew 1); replace HA := Lib.hid (HA.out.drew 1); replace HT := Lib.hid (HT.out.drew 1); replace HB := keepB1 HB)
          refine rgStartC (S := (fun w' => w'.heap[g5]? = some (.cells (nmA V A1 c1) 29 (0, 0)) ∧ w'.rangeAt bL (oL + 0 * 29) (rA r).toList)) (n := 6) 4 #[false, false, false, false, false, false] (by kernel_rfl) rfl rfl ⟨HS.out, HT.out.rd.at_ hf0 (rens_get hfr)⟩ (fun hHeld => ?_)
          refine rgTakeS (i := 0) (N := some 44) (oi := { dst := some 44, op := Op.load 29 (Operand.tmp 5), type := 29, pos := "law.go:76", after := #[], guard := none }) (v := _) #[true, false, false, false, false, false] rfl rfl (by kernel_rfl) (by kernel_rfl) (fun _ _ _ h => h) (by first | exact yieldsRow (by rfl) _ _ rfl _ rfl (fun _ h => h.1) Try.underlying29 rfl (nm_szV kV _ _) | exact yieldsMid (by rfl) _ _ rfl bL (oL + 0 * 29) rfl (rA r) (fun _ h => h.2) Try.underlying52 rfl infoRen) hHeld ?_
          simp only [Act.put, List.setIfInBounds_toArray, List.set_cons_zero, List.set_cons_succ]
          refine rgTakeA (i := 1) (N := some 45) (oi := { dst := some 45, op := Op.move (Operand.tmp 6), type := 33, pos := "law.go:76", after := #[], guard := none }) (v := ?_) #[true, true, false, false, false, false] rfl rfl (by kernel_rfl) (by kernel_rfl) (fun _ _ _ h => h) (Or.inl ⟨by rfl, ?_⟩) (.inr hHeld.out) ?_
          rotate_left
          · intro w' hSw; clear hSw; go_simp; try with_reducible rfl
          simp only [Act.put, List.setIfInBounds_toArray, List.set_cons_zero, List.set_cons_succ]
          refine rgTakeA (i := 2) (N := some 46) (oi := { dst := some 46, op := Op.indexAddr 33 (Operand.tmp 45) (Operand.const (Value.int IntKind.i64 0)), type := 0, pos := "law.go:76", after := #[{ on := 1, ground := Ground.data }], guard := none }) (v := _) #[true, true, true, false, false, false] rfl rfl (by kernel_rfl) (by kernel_rfl) (fun _ _ _ h => h) (yieldsIdx (by rfl) 33 _ _ rfl 52 29 Try.underlying33 sizeRen bL oL _ cap1 0 rfl rfl (by omega)) (.inr hHeld.out) ?_
          simp only [Act.put, List.setIfInBounds_toArray, List.set_cons_zero, List.set_cons_succ]
          refine rgTakeS (i := 3) (N := some 47) (oi := { dst := some 47, op := Op.load 52 (Operand.tmp 46), type := 52, pos := "law.go:76", after := #[{ on := 2, ground := Ground.data }], guard := none }) (v := _) #[true, true, true, true, false, false] rfl rfl (by kernel_rfl) (by kernel_rfl) (fun _ _ _ h => h) (by first | exact yieldsRow (by rfl) _ _ rfl _ rfl (fun _ h => h.1) Try.underlying29 rfl (nm_szV kV _ _) | exact yieldsMid (by rfl) _ _ rfl bL (oL + 0 * 29) rfl (rA r) (fun _ h => h.2) Try.underlying52 rfl infoRen) hHeld ?_
          simp only [Act.put, List.setIfInBounds_toArray, List.set_cons_zero, List.set_cons_succ]
          refine rgCallC (i := 4) (N := some 48) (oi := { dst := some 48, op := Op.call { callee := Callee.value (Operand.func 20), args := #[Operand.tmp 44, Operand.tmp 47], argTypes := #[29, 52] }, type := 29, pos := "law.go:76", after := #[{ on := 0, ground := Ground.data }, { on := 3, ground := Ground.data }], guard := none }) #[true, true, true, true, true, false] rfl rfl (by kernel_rfl) (by rfl) (fun K hK => ?_)
          go_simp
          (go_at_call 20; refine (retire_v V A1 c1 r _ HX.out kV).mono ?_; rintro e w7 ⟨A2, c2, rfl, hr, hA, hb⟩; have HNS := Lib.hid (neKeep2 HAS.out hA (Array.getElem?_eq_some_iff.1 HS.out).1); have HAP2 := Lib.hid (HAP.out.next HT.out hA rfl); replace HA := Lib.hid (HA.out.below hb); replace HB := keepB HB hb; replace HS := keepA HS hb; replace HT := Lib.hid (HT.out.below hb); clear HX; have HX := Lib.hid hr; clear hr hA hb)
          refine hK.out _ _ ?_
          (try simp only [Act.put, List.setIfInBounds_toArray, List.set_cons_zero, List.set_cons_succ])
          clear hK K
          refine rgCallC (i := 5) (N := none) (oi := { dst := none, op := Op.store 29 (Operand.tmp 5) (Operand.tmp 48), type := 0, pos := "law.go:76", after := #[{ on := 4, ground := Ground.data }, { on := 4, ground := Ground.chain }, { on := 0, ground := Ground.phase }, { on := 1, ground := Ground.phase }, { on := 2, ground := Ground.phase }, { on := 3, ground := Ground.phase }, { on := 4, ground := Ground.phase }], guard := none }) #[true, true, true, true, true, true] rfl rfl (by kernel_rfl) (by rfl) (fun K hK => ?_)
          (refine rgStore (by rfl) 29 _ _ rfl g5 rfl (nmA (rtV V r) A2 c2) rfl HS.out (nm_szV (rtV_ok kV r) _ _) (nm_eqV kV (rtV_ok kV r) _ _ _ _) (nm_oneV _ _ _) ?_; intro w8 hz ho; replace HA := Lib.hid (HA.out.only2 ho (fun a e1 e2 => by have := HLA.out a e1 e2; omega)); replace HT := Lib.hid (HT.out.only ho (fun b e1 e2 => by have := (HT.out.lt b e1 e2).1; omega)); replace HX := Lib.hid (HX.out.only2 ho HNS.out); replace HB := keepBo HB (by omega) ho; clear HS; have HS := Lib.hid hz; clear hz ho)
          refine hK.out _ _ ?_
          clear hK K
          refine rgDoneC (by kernel_rfl) ?_ _
          have HI := HIN
          clear HQ
          have HQ := HQ0
          go_wp2_with (first | (refine slHead rfl 33 _ _ rfl Try.underlying33 infoRen (g5 + 1) (some ⟨bL, oL, none⟩) cap1 r f0 (by rw [HQ0.out]; rfl) .i64 rfl HT.out ?_; intro L1 cap2 hT2 hsub; rw [HQ0.out]; have HAP3 : Hid (ApartL A2 (rtV V r).n L1 cap2) := Lib.hid (fun a b e1 e2 e3 e4 => by obtain ⟨b0, i1, i2, i3⟩ := hsub b e3 e4; rw [i3]; exact HAP2.out a b0 e1 e2 i1 i2); clear HT; have HT := Lib.hid hT2; clear hT2 hsub) | (refine rowLoad rfl 29 _ rfl g5 rfl HS.out Try.underlying29 rfl (nm_szV (rtV_ok kV r) _ _) ?_) | (go_at_call 24; refine (rgt_q HIN.out HQ0.out (by omega) A2 L1 c2 cap2 _ HX.out HT.out.rd).mono ?_; rintro e w5 ⟨rfl, hb⟩; replace HA := Lib.hid (HA.out.below hb); replace HB := keepB HB hb; replace HS := keepA HS hb; replace HT := Lib.hid (HT.out.below hb); replace HX := Lib.hid (HX.out.below hb); clear hb; have HRR := Lib.hid True.intro) | (have hq := HRR; clear hq; go_at_call 25; refine (rrgt_q HIN.out HQ0.out (by omega) A2 L1 c2 cap2 _ HX.out HT.out.rd).mono ?_; rintro e w6 ⟨rfl, hb⟩; replace HA := Lib.hid (HA.out.below hb); replace HB := keepB HB hb; replace HS := keepA HS hb; replace HT := Lib.hid (HT.out.below hb); replace HX := Lib.hid (HX.out.below hb); clear hb HRR))
          go_roundg (acs.length - (k + 1))
          case rel => exact ⟨k + 1, rtV V r, A2, c2, L1, cap2, q0, f0, by omega, by go_num, rfl, by omega, by rw [hV's]; omega, HQ0, HIN, HS, HX, HNS, HAP3, HT, HA, HB⟩
          case measure => omega
      · by_cases hk1 : a.kind = 1
        · have b0 : (a.kind == 0) = false := by simpa using hk0
          have b1 : (a.kind == 1) = true := by simp [hk1]
          have b2 : ¬ 1 < a.kind := by omega
          clear hk0 hkind hk1
          by_cases hq0 : q = 0
          · subst hq0
            (try clear fK); have fK := act_kind (HA.out.at_ hn0 (acts_get hac))
            go_wp2_with (first | (refine wlIdx rfl 62 _ _ rfl 64 24 Try.underlying62 sizeAct bA oA acs.length kL k rfl rfl hlt ?_) | (refine rowLoad rfl 29 _ rfl g5 rfl HS.out Try.underlying29 rfl (nm_szV HI.out.kk _ _) ?_) | (go_at_call 24; refine (rgt_q HI.out HQ.out (by omega) A1 L1 c1 cap1 _ HX.out HT.out.rd).mono ?_; rintro e w5 ⟨rfl, hb⟩; replace HA := Lib.hid (HA.out.below hb); replace HB := keepB HB hb; replace HX := Lib.hid (HX.out.below hb); replace HT := Lib.hid (HT.out.below hb); replace HS := keepA HS hb; clear hb; have HRR := Lib.hid True.intro) | (have hq := HRR; clear hq; go_at_call 25; refine (rrgt_q HI.out HQ.out (by omega) A1 L1 c1 cap1 _ HX.out HT.out.rd).mono ?_; rintro e w6 ⟨rfl, hb⟩; replace HA := Lib.hid (HA.out.below hb); replace HB := keepB HB hb; replace HX := Lib.hid (HX.out.below hb); replace HT := Lib.hid (HT.out.below hb); replace HS := keepA HS hb; clear hb HRR))
            go_roundg (acs.length - (k + 1))
            case rel => exact ⟨k + 1, V, A1, c1, L1, cap1, 0, fl, by omega, by go_num, rfl, by omega, by omega, HQ, HI, HS, HX, HAS, HAP, HT, HA, HB⟩
            case measure => omega
          · obtain ⟨f0, r, rfl⟩ : ∃ f0 r, fl = f0 ++ [r] := ⟨fl.dropLast, fl.getLast (fun e => hq0 (by rw [← HQ.out, e]; rfl)), (List.dropLast_concat_getLast _).symm⟩
            obtain ⟨q0, rfl⟩ : ∃ q0, q = q0 + 1 := ⟨f0.length, by have := HQ.out; simpa using this.symm⟩
            have HQ0 : Hid (f0.length = q0) := Lib.hid (by have := HQ.out; simpa using this)
            have hf0 : 0 < (f0 ++ [r]).length := by simp
            have hfr : (f0 ++ [r])[q0]? = some r := by rw [← HQ0.out]; simp
            have HIN := Lib.hid HI.out.undo
            have hV's : (unV V r).s = V.s := rfl
            have hw1 : IntKind.i64.wrap (q0 : Int) = (q0 : Int) := by rw [IntKind.wrap_i64]; omega
            have hw2 : IntKind.i64.wrap ((q0 : Int) + 1 - 1) = (q0 : Int) := by rw [IntKind.wrap_i64]; omega
            have hw3 : IntKind.i64.wrap (((q0 + 1 : Nat) : Int) - 1) = (q0 : Int) := by rw [IntKind.wrap_i64]; omega
            obtain ⟨bL, oL, rfl, _, _⟩ := HT.out.rd.2.2 hf0
            clear HI hq0
            (try clear fK); have fK := act_kind (HA.out.at_ hn0 (acts_get hac))
            go_wp2_with (first | (refine wlIdx rfl 62 _ _ rfl 64 24 Try.underlying62 sizeAct bA oA acs.length kL k rfl rfl hlt ?_))
            (replace HS := keepA1 HS; replace HX := Lib.hid (HX.out.drew 1); replace HA := Lib.hid (HA.out.drew 1); replace HT := Lib.hid (HT.out.drew 1); replace HB := keepB1 HB)
            refine rgStartC (S := (fun w' => w'.heap[g5]? = some (.cells (nmA V A1 c1) 29 (0, 0)) ∧ w'.rangeAt bL (oL + q0 * 29) (rA r).toList)) (n := 9) 7 #[false, false, false, false, false, false, false, false, false] (by kernel_rfl) rfl rfl ⟨HS.out, HT.out.rd.at_ hf0 (rens_get hfr)⟩ (fun hHeld => ?_)
            refine rgTakeS (i := 0) (N := some 63) (oi := { dst := some 63, op := Op.load 29 (Operand.tmp 5), type := 29, pos := "law.go:79", after := #[], guard := none }) (v := _) #[true, false, false, false, false, false, false, false, false] rfl rfl (by kernel_rfl) (by kernel_rfl) (fun _ _ _ h => h) (by first | exact yieldsRow (by rfl) _ _ rfl _ rfl (fun _ h => h.1) Try.underlying29 rfl (nm_szV kV _ _) | exact yieldsMid (by rfl) _ _ rfl bL (oL + q0 * 29) rfl (rA r) (fun _ h => h.2) Try.underlying52 rfl infoRen) hHeld ?_
            simp only [Act.put, List.setIfInBounds_toArray, List.set_cons_zero, List.set_cons_succ]
            refine rgTakeA (i := 1) (N := some 64) (oi := { dst := some 64, op := Op.move (Operand.tmp 6), type := 33, pos := "law.go:79", after := #[], guard := none }) (v := ?_) #[true, true, false, false, false, false, false, false, false] rfl rfl (by kernel_rfl) (by kernel_rfl) (fun _ _ _ h => h) (Or.inl ⟨by rfl, ?_⟩) (.inr hHeld.out) ?_
            rotate_left
            · intro w' hSw; clear hSw; go_simp; try with_reducible rfl
            simp only [Act.put, List.setIfInBounds_toArray, List.set_cons_zero, List.set_cons_succ]
            refine rgTakeA (i := 2) (N := some 65) (oi := { dst := some 65, op := Op.move (Operand.tmp 6), type := 33, pos := "law.go:79", after := #[], guard := none }) (v := ?_) #[true, true, true, false, false, false, false, false, false] rfl rfl (by kernel_rfl) (by kernel_rfl) (fun _ _ _ h => h) (Or.inl ⟨by rfl, ?_⟩) (.inr hHeld.out) ?_
            rotate_left
            · intro w' hSw; clear hSw; go_simp; try with_reducible rfl
            simp only [Act.put, List.setIfInBounds_toArray, List.set_cons_zero, List.set_cons_succ]
            refine rgTakeA (i := 3) (N := some 66) (oi := { dst := some 66, op := Op.call { callee := Callee.builtin Builtin.len, args := #[Operand.tmp 65], argTypes := #[33] }, type := 3, pos := "law.go:79", after := #[{ on := 2, ground := Ground.data }], guard := none }) (v := ?_) #[true, true, true, true, false, false, false, false, false] rfl rfl (by kernel_rfl) (by kernel_rfl) (fun _ _ _ h => h) (Or.inl ⟨by rfl, ?_⟩) (.inr hHeld.out) ?_
            rotate_left
            · intro w' hSw; clear hSw; go_simp; try with_reducible rfl
            simp only [Act.put, List.setIfInBounds_toArray, List.set_cons_zero, List.set_cons_succ]
            refine rgTakeA (i := 4) (N := some 67) (oi := { dst := some 67, op := Op.binOp BinOp.sub 3 (Operand.tmp 66) (Operand.const (Value.int IntKind.i64 1)) 3, type := 3, pos := "law.go:79", after := #[{ on := 3, ground := Ground.data }], guard := none }) (v := ?_) #[true, true, true, true, true, false, false, false, false] rfl rfl (by kernel_rfl) (by kernel_rfl) (fun _ _ _ h => h) (Or.inl ⟨by rfl, ?_⟩) (.inr hHeld.out) ?_
            rotate_left
            · intro w' hSw; clear hSw; go_simp; try with_reducible rfl
            simp only [Act.put, List.setIfInBounds_toArray, List.set_cons_zero, List.set_cons_succ]
            refine rgTakeA (i := 5) (N := some 68) (oi := { dst := some 68, op := Op.indexAddr 33 (Operand.tmp 64) (Operand.tmp 67), type := 0, pos := "law.go:79", after := #[{ on := 1, ground := Ground.data }, { on := 4, ground := Ground.data }], guard := none }) (v := _) #[true, true, true, true, true, true, false, false, false] rfl rfl (by kernel_rfl) (by kernel_rfl) (fun _ _ _ h => h) (yieldsIdx (by rfl) 33 _ _ rfl 52 29 Try.underlying33 sizeRen bL oL _ cap1 q0 rfl rfl (by omega)) (.inr hHeld.out) ?_
            simp only [Act.put, List.setIfInBounds_toArray, List.set_cons_zero, List.set_cons_succ]
            refine rgTakeS (i := 6) (N := some 69) (oi := { dst := some 69, op := Op.load 52 (Operand.tmp 68), type := 52, pos := "law.go:79", after := #[{ on := 5, ground := Ground.data }], guard := none }) (v := _) #[true, true, true, true, true, true, true, false, false] rfl rfl (by kernel_rfl) (by kernel_rfl) (fun _ _ _ h => h) (by first | exact yieldsRow (by rfl) _ _ rfl _ rfl (fun _ h => h.1) Try.underlying29 rfl (nm_szV kV _ _) | exact yieldsMid (by rfl) _ _ rfl bL (oL + q0 * 29) rfl (rA r) (fun _ h => h.2) Try.underlying52 rfl infoRen) hHeld ?_
            simp only [Act.put, List.setIfInBounds_toArray, List.set_cons_zero, List.set_cons_succ]
            refine rgCallC (i := 7) (N := some 70) (oi := { dst := some 70, op := Op.call { callee := Callee.value (Operand.func 18), args := #[Operand.tmp 63, Operand.tmp 69], argTypes := #[29, 52] }, type := 29, pos := "law.go:79", after := #[{ on := 0, ground := Ground.data }, { on := 6, ground := Ground.data }], guard := none }) #[true, true, true, true, true, true, true, true, false] rfl rfl (by kernel_rfl) (by rfl) (fun K hK => ?_)
            go_simp
            (go_at_call 18; refine (undo_v V A1 c1 r _ HX.out kV).mono ?_; rintro e w7 ⟨A2, c2, rfl, hr, hA, hb⟩; have HNS := Lib.hid (neKeep2 HAS.out hA (Array.getElem?_eq_some_iff.1 HS.out).1); have HAP2 := Lib.hid (HAP.out.next HT.out hA rfl); replace HA := Lib.hid (HA.out.below hb); replace HB := keepB HB hb; replace HS := keepA HS hb; replace HT := Lib.hid (HT.out.below hb); clear HX; have HX := Lib.hid hr; clear hr hA hb)
            refine hK.out _ _ ?_
            (try simp only [Act.put, List.setIfInBounds_toArray, List.set_cons_zero, List.set_cons_succ])
            clear hK K
            refine rgCallC (i := 8) (N := none) (oi := { dst := none, op := Op.store 29 (Operand.tmp 5) (Operand.tmp 70), type := 0, pos := "law.go:79", after := #[{ on := 7, ground := Ground.data }, { on := 7, ground := Ground.chain }, { on := 0, ground := Ground.phase }, { on := 1, ground := Ground.phase }, { on := 2, ground := Ground.phase }, { on := 3, ground := Ground.phase }, { on := 4, ground := Ground.phase }, { on := 5, ground := Ground.phase }, { on := 6, ground := Ground.phase }, { on := 7, ground := Ground.phase }], guard := none }) #[true, true, true, true, true, true, true, true, true] rfl rfl (by kernel_rfl) (by rfl) (fun K hK => ?_)
            (refine rgStore (by rfl) 29 _ _ rfl g5 rfl (nmA (unV V r) A2 c2) rfl HS.out (nm_szV (unV_ok kV r) _ _) (nm_eqV kV (unV_ok kV r) _ _ _ _) (nm_oneV _ _ _) ?_; intro w8 hz ho; replace HA := Lib.hid (HA.out.only2 ho (fun a e1 e2 => by have := HLA.out a e1 e2; omega)); replace HT := Lib.hid (HT.out.only ho (fun b e1 e2 => by have := (HT.out.lt b e1 e2).1; omega)); replace HX := Lib.hid (HX.out.only2 ho HNS.out); replace HB := keepBo HB (by omega) ho; clear HS; have HS := Lib.hid hz; clear hz ho)
            refine hK.out _ _ ?_
            clear hK K
            refine rgDoneC (by kernel_rfl) ?_ _
            have HI := HIN
            clear HQ
            have HQ := HQ0
            go_wp2_with (first | (refine slLast rfl 33 _ _ rfl Try.underlying33 infoRen (g5 + 1) (some ⟨bL, oL, none⟩) cap1 r f0 (by rw [HQ0.out]; rfl) .i64 _ rfl (by rw [HQ0.out]) HT.out ?_; intro hT2; rw [HQ0.out]; clear HT; have HT := Lib.hid hT2; clear hT2) | (refine rowLoad rfl 29 _ rfl g5 rfl HS.out Try.underlying29 rfl (nm_szV (unV_ok kV r) _ _) ?_) | (go_at_call 24; refine (rgt_q HIN.out HQ0.out (by omega) A2 (some ⟨bL, oL, none⟩) c2 cap1 _ HX.out HT.out.rd).mono ?_; rintro e w5 ⟨rfl, hb⟩; replace HA := Lib.hid (HA.out.below hb); replace HB := keepB HB hb; replace HS := keepA HS hb; replace HT := Lib.hid (HT.out.below hb); replace HX := Lib.hid (HX.out.below hb); clear hb; have HRR := Lib.hid True.intro) | (have hq := HRR; clear hq; go_at_call 25; refine (rrgt_q HIN.out HQ0.out (by omega) A2 (some ⟨bL, oL, none⟩) c2 cap1 _ HX.out HT.out.rd).mono ?_; rintro e w6 ⟨rfl, hb⟩; replace HA := Lib.hid (HA.out.below hb); replace HB := keepB HB hb; replace HS := keepA HS hb; replace HT := Lib.hid (HT.out.below hb); replace HX := Lib.hid (HX.out.below hb); clear hb HRR))
            go_roundg (acs.length - (k + 1))
            case rel => exact ⟨k + 1, unV V r, A2, c2, some ⟨bL, oL, none⟩, cap1, q0, f0, by omega, by go_num, rfl, by omega, by rw [hV's]; omega, HQ0, HIN, HS, HX, HNS, HAP2, HT, HA, HB⟩
            case measure => omega
        · have b0 : (a.kind == 0) = false := by simpa using hk0
          have b1 : (a.kind == 1) = false := by simpa using hk1
          have b2 : 1 < a.kind := by omega
          clear hk0 hkind hk1
          obtain ⟨bb, hbb⟩ : ∃ b, onB V a.u = b := ⟨_, rfl⟩
          obtain ⟨T, hT⟩ : ∃ T, wr.heap.size = T := ⟨_, rfl⟩
          have hST : g5 < T := by rw [← hT]; exact (Array.getElem?_eq_some_iff.1 HS.out).1
          have HXT : Hid (∀ a, A1 = some a → 0 < V.n → a.block < T) := Lib.hid (by rw [← hT]; exact HX.out.lt)
          have HTT : Hid (∀ b, L1 = some b → 0 < cap1 → b.block < T) := Lib.hid (by rw [← hT]; exact fun b e1 e2 => (HT.out.lt b e1 e2).2)
          have HT0 := Lib.hid hT
          clear hT
          (try clear fK); have fK := act_kind (HA.out.at_ hn0 (acts_get hac))
          go_upto_region 15 with (first | (refine wlIdx rfl 62 _ _ rfl 64 24 Try.underlying62 sizeAct bA oA acs.length kL k rfl rfl hlt ?_))
          clear fK
          go_cut [8, 9, 10] from 26 to 134 (fun t8 t9 t10 wx => ∃ (gN gR : Nat) (A2 : Option Addr) (c2 : Nat), t8 = .pointer (some ⟨gN, 0, none⟩) ∧ t9 = .pointer (some ⟨gR, 0, none⟩) ∧ t10 = .bool bb ∧ T ≤ gN ∧ T ≤ gR ∧ gN ≠ gR ∧ Hid (wx.heap[gN]? = some (.cells (nmA (onV V a.u) A2 c2) 29 (0, 0))) ∧ Hid (wx.heap[gR]? = some (.cells (rA (onR V a.u)) 52 (0, 0))) ∧ Hid (RdA .i64 wx A2 V.n V.xs) ∧ Hid (∀ a, A2 = some a → 0 < V.n → a.block ≠ g5) ∧ Hid (ApartL A2 V.n L1 cap1) ∧ Hid (wx.heap[g5]? = some (.cells (nmA V A1 c1) 29 (0, 0))) ∧ Hid (RdA .i64 wx A1 V.n V.xs) ∧ Hid (RwA wx (some ⟨bA, oA, none⟩) 24 acs.length (acs.map aA)) ∧ Hid (TailR wx (g5 + 1) L1 cap1 fl) ∧ Hid (Below w.heap.size w wx ∧ w.heap.size ≤ wx.heap.size))
          case first =>
            have HBR : Hid (Below T wr.drew wr.drew ∧ T ≤ wr.drew.heap.size) := Lib.hid (by rw [← HT0.out]; exact startB wr.drew)
            (replace HS := keepA1 HS; replace HX := Lib.hid (HX.out.drew 1); replace HA := Lib.hid (HA.out.drew 1); replace HT := Lib.hid (HT.out.drew 1); replace HB := keepB1 HB)
            refine rgStart (S := (fun w' => w'.heap[g5]? = some (.cells (nmA V A1 c1) 29 (0, 0)) ∧ w'.rangeAt bA (oA + k * 24 + 1) (uA a.u).toList)) (n := 16) #[false, false, false, false, false, false, false, false, false, false, false, false, false, false, false, false] (by kernel_rfl) rfl rfl ⟨HS.out, act_uop (HA.out.at_ hn0 (acts_get hac))⟩ (fun hHeld => ?_)
            refine rgTake (i := 0) (N := some 84) (oi := { dst := some 84, op := Op.load 29 (Operand.tmp 5), type := 29, pos := "law.go:82", after := #[], guard := none }) (v := _) #[true, false, false, false, false, false, false, false, false, false, false, false, false, false, false, false] rfl rfl (by kernel_rfl) (fun _ _ _ h => h) (by first | exact yieldsRow (by rfl) _ _ rfl _ rfl (fun _ h => h.1) Try.underlying29 rfl (nm_szV kV _ _) | exact yieldsMid (by rfl) _ _ rfl bA (oA + k * 24 + 1) rfl (uA a.u) (fun _ h => h.2) Try.underlying50 rfl infoUop) hHeld ?_
            simp only [Act.put, List.setIfInBounds_toArray, List.set_cons_zero, List.set_cons_succ]
            refine rgTake (i := 1) (N := some 85) (oi := { dst := some 85, op := Op.move (Operand.tmp 1), type := 62, pos := "law.go:82", after := #[], guard := none }) (v := ?_) #[true, true, false, false, false, false, false, false, false, false, false, false, false, false, false, false] rfl rfl (by kernel_rfl) (fun _ _ _ h => h) (Or.inl ⟨by rfl, ?_⟩) hHeld ?_
            rotate_left
            · intro w' hSw; (try dsimp only at hSw); skip; go_simp; try with_reducible rfl
            simp only [Act.put, List.setIfInBounds_toArray, List.set_cons_zero, List.set_cons_succ]
            refine rgTake (i := 2) (N := some 86) (oi := { dst := some 86, op := Op.move (Operand.tmp 7), type := 3, pos := "law.go:82", after := #[], guard := none }) (v := ?_) #[true, true, true, false, false, false, false, false, false, false, false, false, false, false, false, false] rfl rfl (by kernel_rfl) (fun _ _ _ h => h) (Or.inl ⟨by rfl, ?_⟩) hHeld ?_
            rotate_left
            · intro w' hSw; (try dsimp only at hSw); skip; go_simp; try with_reducible rfl
            simp only [Act.put, List.setIfInBounds_toArray, List.set_cons_zero, List.set_cons_succ]
            refine rgTake (i := 3) (N := some 87) (oi := { dst := some 87, op := Op.indexAddr 62 (Operand.tmp 85) (Operand.tmp 86), type := 0, pos := "law.go:82", after := #[{ on := 1, ground := Ground.data }, { on := 2, ground := Ground.data }], guard := none }) (v := _) #[true, true, true, true, false, false, false, false, false, false, false, false, false, false, false, false] rfl rfl (by kernel_rfl) (fun _ _ _ h => h) (yieldsIdx (by rfl) 62 _ _ rfl 64 24 Try.underlying62 sizeAct bA oA acs.length kL k rfl rfl hlt) hHeld ?_
            simp only [Act.put, List.setIfInBounds_toArray, List.set_cons_zero, List.set_cons_succ]
            refine rgTake (i := 4) (N := some 88) (oi := { dst := some 88, op := Op.fieldAddr 64 (Operand.tmp 87) 1, type := 0, pos := "law.go:82", after := #[{ on := 3, ground := Ground.data }], guard := none }) (v := ?_) #[true, true, true, true, true, false, false, false, false, false, false, false, false, false, false, false] rfl rfl (by kernel_rfl) (fun _ _ _ h => h) (Or.inl ⟨by rfl, ?_⟩) hHeld ?_
            rotate_left
            · intro w' hSw; (try dsimp only at hSw); skip; go_simp; try with_reducible rfl
            simp only [Act.put, List.setIfInBounds_toArray, List.set_cons_zero, List.set_cons_succ]
            refine rgTake (i := 5) (N := some 89) (oi := { dst := some 89, op := Op.load 50 (Operand.tmp 88), type := 50, pos := "law.go:82", after := #[{ on := 4, ground := Ground.data }], guard := none }) (v := _) #[true, true, true, true, true, true, false, false, false, false, false, false, false, false, false, false] rfl rfl (by kernel_rfl) (fun _ _ _ h => h) (by first | exact yieldsRow (by rfl) _ _ rfl _ rfl (fun _ h => h.1) Try.underlying29 rfl (nm_szV kV _ _) | exact yieldsMid (by rfl) _ _ rfl bA (oA + k * 24 + 1) rfl (uA a.u) (fun _ h => h.2) Try.underlying50 rfl infoUop) hHeld ?_
            simp only [Act.put, List.setIfInBounds_toArray, List.set_cons_zero, List.set_cons_succ]
            refine rgThree (i := 6) (j := 11) (k := 12) (Ni := some 90) (Nj := some 8) (Nk := some 9) (oi := { dst := some 90, op := Op.call { callee := Callee.value (Operand.func 16), args := #[Operand.tmp 84, Operand.tmp 89], argTypes := #[29, 50] }, type := 53, pos := "law.go:82", after := #[{ on := 0, ground := Ground.data }, { on := 5, ground := Ground.data }], guard := none }) (oj := { dst := some 8, op := Op.alloc 29, type := 0, pos := "law.go:82", after := #[], guard := none }) (ok := { dst := some 9, op := Op.alloc 52, type := 0, pos := "law.go:82", after := #[], guard := none }) #[true, true, true, true, true, true, true, false, false, false, false, false, false, false, false, false] #[true, true, true, true, true, true, false, false, false, false, false, true, false, false, false, false] #[true, true, true, true, true, true, false, false, false, false, false, false, true, false, false, false] rfl rfl rfl rfl rfl rfl (by kernel_rfl) (fun K hK => ?_) (fun K hK => ?_) (fun K hK => ?_)
            · go_simp
              (go_at_call 16; refine (one_any V A1 c1 a.u _ HX.out kV).mono ?_; rintro e w6 ⟨A2, c2, rfl, hr, hA, hb⟩; rw [onV_n, onV_xs] at hr; rw [hbb]; have HNS := Lib.hid (neKeep HAS.out hA (Array.getElem?_eq_some_iff.1 HS.out).1); have HAP2 : Hid (ApartL A2 V.n L1 cap1) := Lib.hid (HAP.out.next HT.out hA rfl); (try have HXN := Lib.hid (neOf HXT.out hA hTN (Array.getElem?_eq_some_iff.1 HN.out).1)); (try have HXR := Lib.hid (neOf HXT.out hA hTR (Array.getElem?_eq_some_iff.1 HR.out).1)); replace HS := keepA HS hb; replace HX := Lib.hid (HX.out.below hb); replace HA := Lib.hid (HA.out.below hb); replace HT := Lib.hid (HT.out.below hb); replace HB := keepB HB hb; replace HBR := keepB HBR hb; (try replace HN := keepA HN hb); (try replace HR := keepA HR hb); (try replace HX2 := Lib.hid (HX2.out.below hb)); have HX2 := Lib.hid hr; clear hr hA)
              refine hK.out _ _ ⟨HS.out, act_uop (HA.out.at_ hn0 (acts_get hac))⟩ (fun hHeld => ?_)
              (try simp only [Act.put, List.setIfInBounds_toArray, List.set_cons_zero, List.set_cons_succ])
              clear hK K
              refine rgTake (i := 7) (N := some 83) (oi := { dst := some 83, op := Op.move (Operand.tmp 90), type := 53, pos := "law.go:82", after := #[{ on := 6, ground := Ground.data }], guard := none }) (v := ?_) #[true, true, true, true, true, true, true, true, false, false, false, false, false, false, false, false] rfl rfl (by kernel_rfl) (fun _ _ _ h => h) (Or.inl ⟨by rfl, ?_⟩) hHeld ?_
              rotate_left
              · intro w' hSw; (try dsimp only at hSw); skip; go_simp; try with_reducible rfl
              simp only [Act.put, List.setIfInBounds_toArray, List.set_cons_zero, List.set_cons_succ]
              refine rgTake (i := 8) (N := some 91) (oi := { dst := some 91, op := Op.extract (Operand.tmp 83) 0, type := 29, pos := "law.go:82", after := #[{ on := 7, ground := Ground.data }], guard := none }) (v := ?_) #[true, true, true, true, true, true, true, true, true, false, false, false, false, false, false, false] rfl rfl (by kernel_rfl) (fun _ _ _ h => h) (Or.inl ⟨by rfl, ?_⟩) hHeld ?_
              rotate_left
              · intro w' hSw; (try dsimp only at hSw); skip; go_simp; try with_reducible rfl
              simp only [Act.put, List.setIfInBounds_toArray, List.set_cons_zero, List.set_cons_succ]
              refine rgTake (i := 9) (N := some 92) (oi := { dst := some 92, op := Op.extract (Operand.tmp 83) 1, type := 52, pos := "law.go:82", after := #[{ on := 7, ground := Ground.data }, { on := 13, ground := Ground.gcOnly Departure.lateStores }], guard := none }) (v := ?_) #[true, true, true, true, true, true, true, true, true, true, false, false, false, false, false, false] rfl rfl (by kernel_rfl) (fun _ _ _ h => h) (Or.inl ⟨by rfl, ?_⟩) hHeld ?_
              rotate_left
              · intro w' hSw; (try dsimp only at hSw); skip; go_simp; try with_reducible rfl
              simp only [Act.put, List.setIfInBounds_toArray, List.set_cons_zero, List.set_cons_succ]
              refine rgTake (i := 10) (N := some 93) (oi := { dst := some 93, op := Op.extract (Operand.tmp 83) 2, type := 4, pos := "law.go:82", after := #[{ on := 7, ground := Ground.data }, { on := 14, ground := Ground.gcOnly Departure.lateStores }], guard := none }) (v := ?_) #[true, true, true, true, true, true, true, true, true, true, true, false, false, false, false, false] rfl rfl (by kernel_rfl) (fun _ _ _ h => h) (Or.inl ⟨by rfl, ?_⟩) hHeld ?_
              rotate_left
              · intro w' hSw; (try dsimp only at hSw); skip; go_simp; try with_reducible rfl
              simp only [Act.put, List.setIfInBounds_toArray, List.set_cons_zero, List.set_cons_succ]
              refine rgTwo (i := 11) (j := 12) (Ni := some 8) (Nj := some 9) (oi := { dst := some 8, op := Op.alloc 29, type := 0, pos := "law.go:82", after := #[], guard := none }) (oj := { dst := some 9, op := Op.alloc 52, type := 0, pos := "law.go:82", after := #[], guard := none }) #[true, true, true, true, true, true, true, true, true, true, true, true, false, false, false, false] #[true, true, true, true, true, true, true, true, true, true, true, false, true, false, false, false] rfl rfl rfl rfl (by kernel_rfl) (fun K hK => ?_) (fun K hK => ?_)
              · (refine rgAlloc (.cells (nm zeros16 zeros16 (.slice none 0 0) 0 0 0) 29) (by kernel_rfl) (by rfl) ?_; intro gN w7 hgN hgN' hz hb; have hTN : T ≤ gN := Nat.le_trans HBR.out.2 hgN; (try have HXN := Lib.hid (fun a (e1 : A2 = some a) (e2 : 0 < V.n) => Nat.ne_of_lt (Nat.lt_of_lt_of_le (HX2.out.lt a e1 e2) hgN))); (try have hNR : gN ≠ gR := Nat.ne_of_gt (Nat.lt_of_lt_of_le (Array.getElem?_eq_some_iff.1 HR.out).1 hgN)); replace HS := keepA HS hb; replace HX := Lib.hid (HX.out.below hb); replace HA := Lib.hid (HA.out.below hb); replace HT := Lib.hid (HT.out.below hb); replace HB := keepB HB hb; replace HBR := keepB HBR hb; (try replace HN := keepA HN hb); (try replace HR := keepA HR hb); (try replace HX2 := Lib.hid (HX2.out.below hb)); have HN := Lib.hid hz; clear hz)
                refine hK.out _ _ ⟨HS.out, act_uop (HA.out.at_ hn0 (acts_get hac))⟩ (fun hHeld => ?_)
                (try simp only [Act.put, List.setIfInBounds_toArray, List.set_cons_zero, List.set_cons_succ])
                clear hK K
                refine rgCall (i := 12) (N := some 9) (oi := { dst := some 9, op := Op.alloc 52, type := 0, pos := "law.go:82", after := #[], guard := none }) #[true, true, true, true, true, true, true, true, true, true, true, true, true, false, false, false] rfl rfl (by kernel_rfl) (fun K hK => ?_)
                (refine rgAlloc (.cells (rA rZ) 52) (by kernel_rfl) (by rfl) ?_; intro gR w8 hgR hgR' hz hb; have hTR : T ≤ gR := Nat.le_trans HBR.out.2 hgR; (try have HXR := Lib.hid (fun a (e1 : A2 = some a) (e2 : 0 < V.n) => Nat.ne_of_lt (Nat.lt_of_lt_of_le (HX2.out.lt a e1 e2) hgR))); (try have hNR : gN ≠ gR := Nat.ne_of_lt (Nat.lt_of_lt_of_le (Array.getElem?_eq_some_iff.1 HN.out).1 hgR)); replace HS := keepA HS hb; replace HX := Lib.hid (HX.out.below hb); replace HA := Lib.hid (HA.out.below hb); replace HT := Lib.hid (HT.out.below hb); replace HB := keepB HB hb; replace HBR := keepB HBR hb; (try replace HN := keepA HN hb); (try replace HR := keepA HR hb); (try replace HX2 := Lib.hid (HX2.out.below hb)); have HR := Lib.hid hz; clear hz)
                refine hK.out _ _ ⟨HS.out, act_uop (HA.out.at_ hn0 (acts_get hac))⟩ (fun hHeld => ?_)
                (try simp only [Act.put, List.setIfInBounds_toArray, List.set_cons_zero, List.set_cons_succ])
                clear hK K
                refine rgCall (i := 13) (N := none) (oi := { dst := none, op := Op.store 29 (Operand.tmp 8) (Operand.tmp 91), type := 0, pos := "law.go:82", after := #[{ on := 11, ground := Ground.data }, { on := 8, ground := Ground.data }, { on := 6, ground := Ground.chain }, { on := 0, ground := Ground.phase }, { on := 1, ground := Ground.phase }, { on := 2, ground := Ground.phase }, { on := 3, ground := Ground.phase }, { on := 4, ground := Ground.phase }, { on := 5, ground := Ground.phase }, { on := 6, ground := Ground.phase }, { on := 7, ground := Ground.phase }, { on := 8, ground := Ground.phase }, { on := 9, ground := Ground.textOnly Departure.lateStores }, { on := 10, ground := Ground.textOnly Departure.lateStores }, { on := 11, ground := Ground.phase }, { on := 12, ground := Ground.phase }], guard := none }) #[true, true, true, true, true, true, true, true, true, true, true, true, true, true, false, false] rfl rfl (by kernel_rfl) (fun K hK => ?_)
                (refine rgStore (by rfl) 29 _ _ rfl gN rfl (nmA (onV V a.u) A2 c2) rfl HN.out (nm_szV (onV_ok kV a.u) _ _) (zZ _ (onV_ok kV a.u) _ _) (nm_oneV _ _ _) ?_; intro w9 hz ho; replace HR := keepAo HR (by omega) ho; replace HS := keepAo HS (by omega) ho; replace HX := Lib.hid (HX.out.only2 ho (fun a e1 e2 => by have := HXT.out a e1 e2; omega)); replace HA := Lib.hid (HA.out.only2 ho (fun a e1 e2 => by have := HLA.out a e1 e2; omega)); replace HT := Lib.hid (HT.out.only ho (fun b e1 e2 => by have := HTT.out b e1 e2; omega)); replace HB := keepBo HB (by omega) ho; replace HBR := keepBo HBR (by omega) ho; replace HX2 := Lib.hid (HX2.out.only2 ho HXN.out); clear HN; have HN := Lib.hid hz; clear hz ho)
                refine hK.out _ _ ⟨HS.out, act_uop (HA.out.at_ hn0 (acts_get hac))⟩ (fun hHeld => ?_)
                clear hK K
                refine rgCall (i := 14) (N := none) (oi := { dst := none, op := Op.store 52 (Operand.tmp 9) (Operand.tmp 92), type := 0, pos := "law.go:82", after := #[{ on := 12, ground := Ground.data }, { on := 9, ground := Ground.data }, { on := 13, ground := Ground.chain }, { on := 0, ground := Ground.phase }, { on := 1, ground := Ground.phase }, { on := 2, ground := Ground.phase }, { on := 3, ground := Ground.phase }, { on := 4, ground := Ground.phase }, { on := 5, ground := Ground.phase }, { on := 6, ground := Ground.phase }, { on := 7, ground := Ground.phase }, { on := 8, ground := Ground.phase }, { on := 9, ground := Ground.phase }, { on := 10, ground := Ground.textOnly Departure.lateStores }, { on := 11, ground := Ground.phase }, { on := 12, ground := Ground.phase }, { on := 13, ground := Ground.phase }], guard := none }) #[true, true, true, true, true, true, true, true, true, true, true, true, true, true, true, false] rfl rfl (by kernel_rfl) (fun K hK => ?_)
                (refine rgStore (by rfl) 52 _ _ rfl gR rfl (rA (onR V a.u)) rfl HR.out infoRen rfl (rA_one _) ?_; intro w10 hz ho; replace HN := keepAo HN (by omega) ho; replace HS := keepAo HS (by omega) ho; replace HX := Lib.hid (HX.out.only2 ho (fun a e1 e2 => by have := HXT.out a e1 e2; omega)); replace HA := Lib.hid (HA.out.only2 ho (fun a e1 e2 => by have := HLA.out a e1 e2; omega)); replace HT := Lib.hid (HT.out.only ho (fun b e1 e2 => by have := HTT.out b e1 e2; omega)); replace HB := keepBo HB (by omega) ho; replace HBR := keepBo HBR (by omega) ho; replace HX2 := Lib.hid (HX2.out.only2 ho HXR.out); clear HR; have HR := Lib.hid hz; clear hz ho)
                refine hK.out _ _ ⟨HS.out, act_uop (HA.out.at_ hn0 (acts_get hac))⟩ (fun hHeld => ?_)
                clear hK K
                refine rgTake (i := 15) (N := some 10) (oi := { dst := some 10, op := Op.assign (Operand.tmp 93), type := 4, pos := "law.go:82", after := #[{ on := 10, ground := Ground.data }, { on := 14, ground := Ground.chain }, { on := 0, ground := Ground.phase }, { on := 1, ground := Ground.phase }, { on := 2, ground := Ground.phase }, { on := 3, ground := Ground.phase }, { on := 4, ground := Ground.phase }, { on := 5, ground := Ground.phase }, { on := 6, ground := Ground.phase }, { on := 7, ground := Ground.phase }, { on := 8, ground := Ground.phase }, { on := 9, ground := Ground.phase }, { on := 10, ground := Ground.phase }, { on := 11, ground := Ground.phase }, { on := 12, ground := Ground.phase }, { on := 13, ground := Ground.phase }, { on := 14, ground := Ground.phase }], guard := none }) (v := ?_) #[true, true, true, true, true, true, true, true, true, true, true, true, true, true, true, true] rfl rfl (by kernel_rfl) (fun _ _ _ h => h) (Or.inl ⟨by rfl, ?_⟩) hHeld ?_
                rotate_left
                · intro w' hSw; (try dsimp only at hSw); skip; go_simp; try with_reducible rfl
                simp only [Act.put, List.setIfInBounds_toArray, List.set_cons_zero, List.set_cons_succ]
                refine rgDone (by kernel_rfl) ?_ _
                (go_wp2_with fail; go_meet; exact ⟨gN, gR, A2, c2, rfl, rfl, rfl, hTN, hTR, hNR, HN, HR, HX2, HNS, HAP2, HS, HX, HA, HT, HB⟩)
              · (refine rgAlloc (.cells (rA rZ) 52) (by kernel_rfl) (by rfl) ?_; intro gR w8 hgR hgR' hz hb; have hTR : T ≤ gR := Nat.le_trans HBR.out.2 hgR; (try have HXR := Lib.hid (fun a (e1 : A2 = some a) (e2 : 0 < V.n) => Nat.ne_of_lt (Nat.lt_of_lt_of_le (HX2.out.lt a e1 e2) hgR))); (try have hNR : gN ≠ gR := Nat.ne_of_lt (Nat.lt_of_lt_of_le (Array.getElem?_eq_some_iff.1 HN.out).1 hgR)); replace HS := keepA HS hb; replace HX := Lib.hid (HX.out.below hb); replace HA := Lib.hid (HA.out.below hb); replace HT := Lib.hid (HT.out.below hb); replace HB := keepB HB hb; replace HBR := keepB HBR hb; (try replace HN := keepA HN hb); (try replace HR := keepA HR hb); (try replace HX2 := Lib.hid (HX2.out.below hb)); have HR := Lib.hid hz; clear hz)
                refine hK.out _ _ ⟨HS.out, act_uop (HA.out.at_ hn0 (acts_get hac))⟩ (fun hHeld => ?_)
                (try simp only [Act.put, List.setIfInBounds_toArray, List.set_cons_zero, List.set_cons_succ])
                clear hK K
                refine rgCall (i := 11) (N := some 8) (oi := { dst := some 8, op := Op.alloc 29, type := 0, pos := "law.go:82", after := #[], guard := none }) #[true, true, true, true, true, true, true, true, true, true, true, true, true, false, false, false] rfl rfl (by kernel_rfl) (fun K hK => ?_)
                (refine rgAlloc (.cells (nm zeros16 zeros16 (.slice none 0 0) 0 0 0) 29) (by kernel_rfl) (by rfl) ?_; intro gN w7 hgN hgN' hz hb; have hTN : T ≤ gN := Nat.le_trans HBR.out.2 hgN; (try have HXN := Lib.hid (fun a (e1 : A2 = some a) (e2 : 0 < V.n) => Nat.ne_of_lt (Nat.lt_of_lt_of_le (HX2.out.lt a e1 e2) hgN))); (try have hNR : gN ≠ gR := Nat.ne_of_gt (Nat.lt_of_lt_of_le (Array.getElem?_eq_some_iff.1 HR.out).1 hgN)); replace HS := keepA HS hb; replace HX := Lib.hid (HX.out.below hb); replace HA := Lib.hid (HA.out.below hb); replace HT := Lib.hid (HT.out.below hb); replace HB := keepB HB hb; replace HBR := keepB HBR hb; (try replace HN := keepA HN hb); (try replace HR := keepA HR hb); (try replace HX2 := Lib.hid (HX2.out.below hb)); have HN := Lib.hid hz; clear hz)
                refine hK.out _ _ ⟨HS.out, act_uop (HA.out.at_ hn0 (acts_get hac))⟩ (fun hHeld => ?_)
                (try simp only [Act.put, List.setIfInBounds_toArray, List.set_cons_zero, List.set_cons_succ])
                clear hK K
                refine rgCall (i := 13) (N := none) (oi := { dst := none, op := Op.store 29 (Operand.tmp 8) (Operand.tmp 91), type := 0, pos := "law.go:82", after := #[{ on := 11, ground := Ground.data }, { on := 8, ground := Ground.data }, { on := 6, ground := Ground.chain }, { on := 0, ground := Ground.phase }, { on := 1, ground := Ground.phase }, { on := 2, ground := Ground.phase }, { on := 3, ground := Ground.phase }, { on := 4, ground := Ground.phase }, { on := 5, ground := Ground.phase }, { on := 6, ground := Ground.phase }, { on := 7, ground := Ground.phase }, { on := 8, ground := Ground.phase }, { on := 9, ground := Ground.textOnly Departure.lateStores }, { on := 10, ground := Ground.textOnly Departure.lateStores }, { on := 11, ground := Ground.phase }, { on := 12, ground := Ground.phase }], guard := none }) #[true, true, true, true, true, true, true, true, true, true, true, true, true, true, false, false] rfl rfl (by kernel_rfl) (fun K hK => ?_)
                (refine rgStore (by rfl) 29 _ _ rfl gN rfl (nmA (onV V a.u) A2 c2) rfl HN.out (nm_szV (onV_ok kV a.u) _ _) (zZ _ (onV_ok kV a.u) _ _) (nm_oneV _ _ _) ?_; intro w9 hz ho; replace HR := keepAo HR (by omega) ho; replace HS := keepAo HS (by omega) ho; replace HX := Lib.hid (HX.out.only2 ho (fun a e1 e2 => by have := HXT.out a e1 e2; omega)); replace HA := Lib.hid (HA.out.only2 ho (fun a e1 e2 => by have := HLA.out a e1 e2; omega)); replace HT := Lib.hid (HT.out.only ho (fun b e1 e2 => by have := HTT.out b e1 e2; omega)); replace HB := keepBo HB (by omega) ho; replace HBR := keepBo HBR (by omega) ho; replace HX2 := Lib.hid (HX2.out.only2 ho HXN.out); clear HN; have HN := Lib.hid hz; clear hz ho)
                refine hK.out _ _ ⟨HS.out, act_uop (HA.out.at_ hn0 (acts_get hac))⟩ (fun hHeld => ?_)
                clear hK K
                refine rgCall (i := 14) (N := none) (oi := { dst := none, op := Op.store 52 (Operand.tmp 9) (Operand.tmp 92), type := 0, pos := "law.go:82", after := #[{ on := 12, ground := Ground.data }, { on := 9, ground := Ground.data }, { on := 13, ground := Ground.chain }, { on := 0, ground := Ground.phase }, { on := 1, ground := Ground.phase }, { on := 2, ground := Ground.phase }, { on := 3, ground := Ground.phase }, { on := 4, ground := Ground.phase }, { on := 5, ground := Ground.phase }, { on := 6, ground := Ground.phase }, { on := 7, ground := Ground.phase }, { on := 8, ground := Ground.phase }, { on := 9, ground := Ground.phase }, { on := 10, ground := Ground.textOnly Departure.lateStores }, { on := 11, ground := Ground.phase }, { on := 12, ground := Ground.phase }, { on := 13, ground := Ground.phase }], guard := none }) #[true, true, true, true, true, true, true, true, true, true, true, true, true, true, true, false] rfl rfl (by kernel_rfl) (fun K hK => ?_)
                (refine rgStore (by rfl) 52 _ _ rfl gR rfl (rA (onR V a.u)) rfl HR.out infoRen rfl (rA_one _) ?_; intro w10 hz ho; replace HN := keepAo HN (by omega) ho; replace HS := keepAo HS (by omega) ho; replace HX := Lib.hid (HX.out.only2 ho (fun a e1 e2 => by have := HXT.out a e1 e2; omega)); replace HA := Lib.hid (HA.out.only2 ho (fun a e1 e2 => by have := HLA.out a e1 e2; omega)); replace HT := Lib.hid (HT.out.only ho (fun b e1 e2 => by have := HTT.out b e1 e2; omega)); replace HB := keepBo HB (by omega) ho; replace HBR := keepBo HBR (by omega) ho; replace HX2 := Lib.hid (HX2.out.only2 ho HXR.out); clear HR; have HR := Lib.hid hz; clear hz ho)
                refine hK.out _ _ ⟨HS.out, act_uop (HA.out.at_ hn0 (acts_get hac))⟩ (fun hHeld => ?_)
                clear hK K
                refine rgTake (i := 15) (N := some 10) (oi := { dst := some 10, op := Op.assign (Operand.tmp 93), type := 4, pos := "law.go:82", after := #[{ on := 10, ground := Ground.data }, { on := 14, ground := Ground.chain }, { on := 0, ground := Ground.phase }, { on := 1, ground := Ground.phase }, { on := 2, ground := Ground.phase }, { on := 3, ground := Ground.phase }, { on := 4, ground := Ground.phase }, { on := 5, ground := Ground.phase }, { on := 6, ground := Ground.phase }, { on := 7, ground := Ground.phase }, { on := 8, ground := Ground.phase }, { on := 9, ground := Ground.phase }, { on := 10, ground := Ground.phase }, { on := 11, ground := Ground.phase }, { on := 12, ground := Ground.phase }, { on := 13, ground := Ground.phase }, { on := 14, ground := Ground.phase }], guard := none }) (v := ?_) #[true, true, true, true, true, true, true, true, true, true, true, true, true, true, true, true] rfl rfl (by kernel_rfl) (fun _ _ _ h => h) (Or.inl ⟨by rfl, ?_⟩) hHeld ?_
                rotate_left
                · intro w' hSw; (try dsimp only at hSw); skip; go_simp; try with_reducible rfl
                simp only [Act.put, List.setIfInBounds_toArray, List.set_cons_zero, List.set_cons_succ]
                refine rgDone (by kernel_rfl) ?_ _
                (go_wp2_with fail; go_meet; exact ⟨gN, gR, A2, c2, rfl, rfl, rfl, hTN, hTR, hNR, HN, HR, HX2, HNS, HAP2, HS, HX, HA, HT, HB⟩)
            · (refine rgAlloc (.cells (nm zeros16 zeros16 (.slice none 0 0) 0 0 0) 29) (by kernel_rfl) (by rfl) ?_; intro gN w7 hgN hgN' hz hb; have hTN : T ≤ gN := Nat.le_trans HBR.out.2 hgN; (try have HXN := Lib.hid (fun a (e1 : A2 = some a) (e2 : 0 < V.n) => Nat.ne_of_lt (Nat.lt_of_lt_of_le (HX2.out.lt a e1 e2) hgN))); (try have hNR : gN ≠ gR := Nat.ne_of_gt (Nat.lt_of_lt_of_le (Array.getElem?_eq_some_iff.1 HR.out).1 hgN)); replace HS := keepA HS hb; replace HX := Lib.hid (HX.out.below hb); replace HA := Lib.hid (HA.out.below hb); replace HT := Lib.hid (HT.out.below hb); replace HB := keepB HB hb; replace HBR := keepB HBR hb; (try replace HN := keepA HN hb); (try replace HR := keepA HR hb); (try replace HX2 := Lib.hid (HX2.out.below hb)); have HN := Lib.hid hz; clear hz)
              refine hK.out _ _ ⟨HS.out, act_uop (HA.out.at_ hn0 (acts_get hac))⟩ (fun hHeld => ?_)
              (try simp only [Act.put, List.setIfInBounds_toArray, List.set_cons_zero, List.set_cons_succ])
              clear hK K
              refine rgTwo (i := 6) (j := 12) (Ni := some 90) (Nj := some 9) (oi := { dst := some 90, op := Op.call { callee := Callee.value (Operand.func 16), args := #[Operand.tmp 84, Operand.tmp 89], argTypes := #[29, 50] }, type := 53, pos := "law.go:82", after := #[{ on := 0, ground := Ground.data }, { on := 5, ground := Ground.data }], guard := none }) (oj := { dst := some 9, op := Op.alloc 52, type := 0, pos := "law.go:82", after := #[], guard := none }) #[true, true, true, true, true, true, true, false, false, false, false, true, false, false, false, false] #[true, true, true, true, true, true, false, false, false, false, false, true, true, false, false, false] rfl rfl rfl rfl (by kernel_rfl) (fun K hK => ?_) (fun K hK => ?_)
              · go_simp
                (go_at_call 16; refine (one_any V A1 c1 a.u _ HX.out kV).mono ?_; rintro e w6 ⟨A2, c2, rfl, hr, hA, hb⟩; rw [onV_n, onV_xs] at hr; rw [hbb]; have HNS := Lib.hid (neKeep HAS.out hA (Array.getElem?_eq_some_iff.1 HS.out).1); have HAP2 : Hid (ApartL A2 V.n L1 cap1) := Lib.hid (HAP.out.next HT.out hA rfl); (try have HXN := Lib.hid (neOf HXT.out hA hTN (Array.getElem?_eq_some_iff.1 HN.out).1)); (try have HXR := Lib.hid (neOf HXT.out hA hTR (Array.getElem?_eq_some_iff.1 HR.out).1)); replace HS := keepA HS hb; replace HX := Lib.hid (HX.out.below hb); replace HA := Lib.hid (HA.out.below hb); replace HT := Lib.hid (HT.out.below hb); replace HB := keepB HB hb; replace HBR := keepB HBR hb; (try replace HN := keepA HN hb); (try replace HR := keepA HR hb); (try replace HX2 := Lib.hid (HX2.out.below hb)); have HX2 := Lib.hid hr; clear hr hA)
                refine hK.out _ _ ⟨HS.out, act_uop (HA.out.at_ hn0 (acts_get hac))⟩ (fun hHeld => ?_)
                (try simp only [Act.put, List.setIfInBounds_toArray, List.set_cons_zero, List.set_cons_succ])
                clear hK K
                refine rgTake (i := 7) (N := some 83) (oi := { dst := some 83, op := Op.move (Operand.tmp 90), type := 53, pos := "law.go:82", after := #[{ on := 6, ground := Ground.data }], guard := none }) (v := ?_) #[true, true, true, true, true, true, true, true, false, false, false, true, false, false, false, false] rfl rfl (by kernel_rfl) (fun _ _ _ h => h) (Or.inl ⟨by rfl, ?_⟩) hHeld ?_
                rotate_left
                · intro w' hSw; (try dsimp only at hSw); skip; go_simp; try with_reducible rfl
                simp only [Act.put, List.setIfInBounds_toArray, List.set_cons_zero, List.set_cons_succ]
                refine rgTake (i := 8) (N := some 91) (oi := { dst := some 91, op := Op.extract (Operand.tmp 83) 0, type := 29, pos := "law.go:82", after := #[{ on := 7, ground := Ground.data }], guard := none }) (v := ?_) #[true, true, true, true, true, true, true, true, true, false, false, true, false, false, false, false] rfl rfl (by kernel_rfl) (fun _ _ _ h => h) (Or.inl ⟨by rfl, ?_⟩) hHeld ?_
                rotate_left
                · intro w' hSw; (try dsimp only at hSw); skip; go_simp; try with_reducible rfl
                simp only [Act.put, List.setIfInBounds_toArray, List.set_cons_zero, List.set_cons_succ]
                refine rgTake (i := 9) (N := some 92) (oi := { dst := some 92, op := Op.extract (Operand.tmp 83) 1, type := 52, pos := "law.go:82", after := #[{ on := 7, ground := Ground.data }, { on := 13, ground := Ground.gcOnly Departure.lateStores }], guard := none }) (v := ?_) #[true, true, true, true, true, true, true, true, true, true, false, true, false, false, false, false] rfl rfl (by kernel_rfl) (fun _ _ _ h => h) (Or.inl ⟨by rfl, ?_⟩) hHeld ?_
                rotate_left
                · intro w' hSw; (try dsimp only at hSw); skip; go_simp; try with_reducible rfl
                simp only [Act.put, List.setIfInBounds_toArray, List.set_cons_zero, List.set_cons_succ]
                refine rgTake (i := 10) (N := some 93) (oi := { dst := some 93, op := Op.extract (Operand.tmp 83) 2, type := 4, pos := "law.go:82", after := #[{ on := 7, ground := Ground.data }, { on := 14, ground := Ground.gcOnly Departure.lateStores }], guard := none }) (v := ?_) #[true, true, true, true, true, true, true, true, true, true, true, true, false, false, false, false] rfl rfl (by kernel_rfl) (fun _ _ _ h => h) (Or.inl ⟨by rfl, ?_⟩) hHeld ?_
                rotate_left
                · intro w' hSw; (try dsimp only at hSw); skip; go_simp; try with_reducible rfl
                simp only [Act.put, List.setIfInBounds_toArray, List.set_cons_zero, List.set_cons_succ]
                refine rgCall (i := 12) (N := some 9) (oi := { dst := some 9, op := Op.alloc 52, type := 0, pos := "law.go:82", after := #[], guard := none }) #[true, true, true, true, true, true, true, true, true, true, true, true, true, false, false, false] rfl rfl (by kernel_rfl) (fun K hK => ?_)
                (refine rgAlloc (.cells (rA rZ) 52) (by kernel_rfl) (by rfl) ?_; intro gR w8 hgR hgR' hz hb; have hTR : T ≤ gR := Nat.le_trans HBR.out.2 hgR; (try have HXR := Lib.hid (fun a (e1 : A2 = some a) (e2 : 0 < V.n) => Nat.ne_of_lt (Nat.lt_of_lt_of_le (HX2.out.lt a e1 e2) hgR))); (try have hNR : gN ≠ gR := Nat.ne_of_lt (Nat.lt_of_lt_of_le (Array.getElem?_eq_some_iff.1 HN.out).1 hgR)); replace HS := keepA HS hb; replace HX := Lib.hid (HX.out.below hb); replace HA := Lib.hid (HA.out.below hb); replace HT := Lib.hid (HT.out.below hb); replace HB := keepB HB hb; replace HBR := keepB HBR hb; (try replace HN := keepA HN hb); (try replace HR := keepA HR hb); (try replace HX2 := Lib.hid (HX2.out.below hb)); have HR := Lib.hid hz; clear hz)
                refine hK.out _ _ ⟨HS.out, act_uop (HA.out.at_ hn0 (acts_get hac))⟩ (fun hHeld => ?_)
                (try simp only [Act.put, List.setIfInBounds_toArray, List.set_cons_zero, List.set_cons_succ])
                clear hK K
                refine rgCall (i := 13) (N := none) (oi := { dst := none, op := Op.store 29 (Operand.tmp 8) (Operand.tmp 91), type := 0, pos := "law.go:82", after := #[{ on := 11, ground := Ground.data }, { on := 8, ground := Ground.data }, { on := 6, ground := Ground.chain }, { on := 0, ground := Ground.phase }, { on := 1, ground := Ground.phase }, { on := 2, ground := Ground.phase }, { on := 3, ground := Ground.phase }, { on := 4, ground := Ground.phase }, { on := 5, ground := Ground.phase }, { on := 6, ground := Ground.phase }, { on := 7, ground := Ground.phase }, { on := 8, ground := Ground.phase }, { on := 9, ground := Ground.textOnly Departure.lateStores }, { on := 10, ground := Ground.textOnly Departure.lateStores }, { on := 11, ground := Ground.phase }, { on := 12, ground := Ground.phase }], guard := none }) #[true, true, true, true, true, true, true, true, true, true, true, true, true, true, false, false] rfl rfl (by kernel_rfl) (fun K hK => ?_)
                (refine rgStore (by rfl) 29 _ _ rfl gN rfl (nmA (onV V a.u) A2 c2) rfl HN.out (nm_szV (onV_ok kV a.u) _ _) (zZ _ (onV_ok kV a.u) _ _) (nm_oneV _ _ _) ?_; intro w9 hz ho; replace HR := keepAo HR (by omega) ho; replace HS := keepAo HS (by omega) ho; replace HX := Lib.hid (HX.out.only2 ho (fun a e1 e2 => by have := HXT.out a e1 e2; omega)); replace HA := Lib.hid (HA.out.only2 ho (fun a e1 e2 => by have := HLA.out a e1 e2; omega)); replace HT := Lib.hid (HT.out.only ho (fun b e1 e2 => by have := HTT.out b e1 e2; omega)); replace HB := keepBo HB (by omega) ho; replace HBR := keepBo HBR (by omega) ho; replace HX2 := Lib.hid (HX2.out.only2 ho HXN.out); clear HN; have HN := Lib.hid hz; clear hz ho)
                refine hK.out _ _ ⟨HS.out, act_uop (HA.out.at_ hn0 (acts_get hac))⟩ (fun hHeld => ?_)
                clear hK K
                refine rgCall (i := 14) (N := none) (oi := { dst := none, op := Op.store 52 (Operand.tmp 9) (Operand.tmp 92), type := 0, pos := "law.go:82", after := #[{ on := 12, ground := Ground.data }, { on := 9, ground := Ground.data }, { on := 13, ground := Ground.chain }, { on := 0, ground := Ground.phase }, { on := 1, ground := Ground.phase }, { on := 2, ground := Ground.phase }, { on := 3, ground := Ground.phase }, { on := 4, ground := Ground.phase }, { on := 5, ground := Ground.phase }, { on := 6, ground := Ground.phase }, { on := 7, ground := Ground.phase }, { on := 8, ground := Ground.phase }, { on := 9, ground := Ground.phase }, { on := 10, ground := Ground.textOnly Departure.lateStores }, { on := 11, ground := Ground.phase }, { on := 12, ground := Ground.phase }, { on := 13, ground := Ground.phase }], guard := none }) #[true, true, true, true, true, true, true, true, true, true, true, true, true, true, true, false] rfl rfl (by kernel_rfl) (fun K hK => ?_)
                (refine rgStore (by rfl) 52 _ _ rfl gR rfl (rA (onR V a.u)) rfl HR.out infoRen rfl (rA_one _) ?_; intro w10 hz ho; replace HN := keepAo HN (by omega) ho; replace HS := keepAo HS (by omega) ho; replace HX := Lib.hid (HX.out.only2 ho (fun a e1 e2 => by have := HXT.out a e1 e2; omega)); replace HA := Lib.hid (HA.out.only2 ho (fun a e1 e2 => by have := HLA.out a e1 e2; omega)); replace HT := Lib.hid (HT.out.only ho (fun b e1 e2 => by have := HTT.out b e1 e2; omega)); replace HB := keepBo HB (by omega) ho; replace HBR := keepBo HBR (by omega) ho; replace HX2 := Lib.hid (HX2.out.only2 ho HXR.out); clear HR; have HR := Lib.hid hz; clear hz ho)
                refine hK.out _ _ ⟨HS.out, act_uop (HA.out.at_ hn0 (acts_get hac))⟩ (fun hHeld => ?_)
                clear hK K
                refine rgTake (i := 15) (N := some 10) (oi := { dst := some 10, op := Op.assign (Operand.tmp 93), type := 4, pos := "law.go:82", after := #[{ on := 10, ground := Ground.data }, { on := 14, ground := Ground.chain }, { on := 0, ground := Ground.phase }, { on := 1, ground := Ground.phase }, { on := 2, ground := Ground.phase }, { on := 3, ground := Ground.phase }, { on := 4, ground := Ground.phase }, { on := 5, ground := Ground.phase }, { on := 6, ground := Ground.phase }, { on := 7, ground := Ground.phase }, { on := 8, ground := Ground.phase }, { on := 9, ground := Ground.phase }, { on := 10, ground := Ground.phase }, { on := 11, ground := Ground.phase }, { on := 12, ground := Ground.phase }, { on := 13, ground := Ground.phase }, { on := 14, ground := Ground.phase }], guard := none }) (v := ?_) #[true, true, true, true, true, true, true, true, true, true, true, true, true, true, true, true] rfl rfl (by kernel_rfl) (fun _ _ _ h => h) (Or.inl ⟨by rfl, ?_⟩) hHeld ?_
                rotate_left
                · intro w' hSw; (try dsimp only at hSw); skip; go_simp; try with_reducible rfl
                simp only [Act.put, List.setIfInBounds_toArray, List.set_cons_zero, List.set_cons_succ]
                refine rgDone (by kernel_rfl) ?_ _
                (go_wp2_with fail; go_meet; exact ⟨gN, gR, A2, c2, rfl, rfl, rfl, hTN, hTR, hNR, HN, HR, HX2, HNS, HAP2, HS, HX, HA, HT, HB⟩)
              · (refine rgAlloc (.cells (rA rZ) 52) (by kernel_rfl) (by rfl) ?_; intro gR w8 hgR hgR' hz hb; have hTR : T ≤ gR := Nat.le_trans HBR.out.2 hgR; (try have HXR := Lib.hid (fun a (e1 : A2 = some a) (e2 : 0 < V.n) => Nat.ne_of_lt (Nat.lt_of_lt_of_le (HX2.out.lt a e1 e2) hgR))); (try have hNR : gN ≠ gR := Nat.ne_of_lt (Nat.lt_of_lt_of_le (Array.getElem?_eq_some_iff.1 HN.out).1 hgR)); replace HS := keepA HS hb; replace HX := Lib.hid (HX.out.below hb); replace HA := Lib.hid (HA.out.below hb); replace HT := Lib.hid (HT.out.below hb); replace HB := keepB HB hb; replace HBR := keepB HBR hb; (try replace HN := keepA HN hb); (try replace HR := keepA HR hb); (try replace HX2 := Lib.hid (HX2.out.below hb)); have HR := Lib.hid hz; clear hz)
                refine hK.out _ _ ⟨HS.out, act_uop (HA.out.at_ hn0 (acts_get hac))⟩ (fun hHeld => ?_)
                (try simp only [Act.put, List.setIfInBounds_toArray, List.set_cons_zero, List.set_cons_succ])
                clear hK K
                refine rgCall (i := 6) (N := some 90) (oi := { dst := some 90, op := Op.call { callee := Callee.value (Operand.func 16), args := #[Operand.tmp 84, Operand.tmp 89], argTypes := #[29, 50] }, type := 53, pos := "law.go:82", after := #[{ on := 0, ground := Ground.data }, { on := 5, ground := Ground.data }], guard := none }) #[true, true, true, true, true, true, true, false, false, false, false, true, true, false, false, false] rfl rfl (by kernel_rfl) (fun K hK => ?_)
                go_simp
                (go_at_call 16; refine (one_any V A1 c1 a.u _ HX.out kV).mono ?_; rintro e w6 ⟨A2, c2, rfl, hr, hA, hb⟩; rw [onV_n, onV_xs] at hr; rw [hbb]; have HNS := Lib.hid (neKeep HAS.out hA (Array.getElem?_eq_some_iff.1 HS.out).1); have HAP2 : Hid (ApartL A2 V.n L1 cap1) := Lib.hid (HAP.out.next HT.out hA rfl); (try have HXN := Lib.hid (neOf HXT.out hA hTN (Array.getElem?_eq_some_iff.1 HN.out).1)); (try have HXR := Lib.hid (neOf HXT.out hA hTR (Array.getElem?_eq_some_iff.1 HR.out).1)); replace HS := keepA HS hb; replace HX := Lib.hid (HX.out.below hb); replace HA := Lib.hid (HA.out.below hb); replace HT := Lib.hid (HT.out.below hb); replace HB := keepB HB hb; replace HBR := keepB HBR hb; (try replace HN := keepA HN hb); (try replace HR := keepA HR hb); (try replace HX2 := Lib.hid (HX2.out.below hb)); have HX2 := Lib.hid hr; clear hr hA)
                refine hK.out _ _ ⟨HS.out, act_uop (HA.out.at_ hn0 (acts_get hac))⟩ (fun hHeld => ?_)
                (try simp only [Act.put, List.setIfInBounds_toArray, List.set_cons_zero, List.set_cons_succ])
                clear hK K
                refine rgTake (i := 7) (N := some 83) (oi := { dst := some 83, op := Op.move (Operand.tmp 90), type := 53, pos := "law.go:82", after := #[{ on := 6, ground := Ground.data }], guard := none }) (v := ?_) #[true, true, true, true, true, true, true, true, false, false, false, true, true, false, false, false] rfl rfl (by kernel_rfl) (fun _ _ _ h => h) (Or.inl ⟨by rfl, ?_⟩) hHeld ?_
                rotate_left
                · intro w' hSw; (try dsimp only at hSw); skip; go_simp; try with_reducible rfl
                simp only [Act.put, List.setIfInBounds_toArray, List.set_cons_zero, List.set_cons_succ]
                refine rgTake (i := 8) (N := some 91) (oi := { dst := some 91, op := Op.extract (Operand.tmp 83) 0, type := 29, pos := "law.go:82", after := #[{ on := 7, ground := Ground.data }], guard := none }) (v := ?_) #[true, true, true, true, true, true, true, true, true, false, false, true, true, false, false, false] rfl rfl (by kernel_rfl) (fun _ _ _ h => h) (Or.inl ⟨by rfl, ?_⟩) hHeld ?_
                rotate_left
                · intro w' hSw; (try dsimp only at hSw); skip; go_simp; try with_reducible rfl
                simp only [Act.put, List.setIfInBounds_toArray, List.set_cons_zero, List.set_cons_succ]
                refine rgTake (i := 9) (N := some 92) (oi := { dst := some 92, op := Op.extract (Operand.tmp 83) 1, type := 52, pos := "law.go:82", after := #[{ on := 7, ground := Ground.data }, { on := 13, ground := Ground.gcOnly Departure.lateStores }], guard := none }) (v := ?_) #[true, true, true, true, true, true, true, true, true, true, false, true, true, false, false, false] rfl rfl (by kernel_rfl) (fun _ _ _ h => h) (Or.inl ⟨by rfl, ?_⟩) hHeld ?_
                rotate_left
                · intro w' hSw; (try dsimp only at hSw); skip; go_simp; try with_reducible rfl
                simp only [Act.put, List.setIfInBounds_toArray, List.set_cons_zero, List.set_cons_succ]
                refine rgTake (i := 10) (N := some 93) (oi := { dst := some 93, op := Op.extract (Operand.tmp 83) 2, type := 4, pos := "law.go:82", after := #[{ on := 7, ground := Ground.data }, { on := 14, ground := Ground.gcOnly Departure.lateStores }], guard := none }) (v := ?_) #[true, true, true, true, true, true, true, true, true, true, true, true, true, false, false, false] rfl rfl (by kernel_rfl) (fun _ _ _ h => h) (Or.inl ⟨by rfl, ?_⟩) hHeld ?_
                rotate_left
                · intro w' hSw; (try dsimp only at hSw); skip; go_simp; try with_reducible rfl
                simp only [Act.put, List.setIfInBounds_toArray, List.set_cons_zero, List.set_cons_succ]
                refine rgCall (i := 13) (N := none) (oi := { dst := none, op := Op.store 29 (Operand.tmp 8) (Operand.tmp 91), type := 0, pos := "law.go:82", after := #[{ on := 11, ground := Ground.data }, { on := 8, ground := Ground.data }, { on := 6, ground := Ground.chain }, { on := 0, ground := Ground.phase }, { on := 1, ground := Ground.phase }, { on := 2, ground := Ground.phase }, { on := 3, ground := Ground.phase }, { on := 4, ground := Ground.phase }, { on := 5, ground := Ground.phase }, { on := 6, ground := Ground.phase }, { on := 7, ground := Ground.phase }, { on := 8, ground := Ground.phase }, { on := 9, ground := Ground.textOnly Departure.lateStores }, { on := 10, ground := Ground.textOnly Departure.lateStores }, { on := 11, ground := Ground.phase }, { on := 12, ground := Ground.phase }], guard := none }) #[true, true, true, true, true, true, true, true, true, true, true, true, true, true, false, false] rfl rfl (by kernel_rfl) (fun K hK => ?_)
                (refine rgStore (by rfl) 29 _ _ rfl gN rfl (nmA (onV V a.u) A2 c2) rfl HN.out (nm_szV (onV_ok kV a.u) _ _) (zZ _ (onV_ok kV a.u) _ _) (nm_oneV _ _ _) ?_; intro w9 hz ho; replace HR := keepAo HR (by omega) ho; replace HS := keepAo HS (by omega) ho; replace HX := Lib.hid (HX.out.only2 ho (fun a e1 e2 => by have := HXT.out a e1 e2; omega)); replace HA := Lib.hid (HA.out.only2 ho (fun a e1 e2 => by have := HLA.out a e1 e2; omega)); replace HT := Lib.hid (HT.out.only ho (fun b e1 e2 => by have := HTT.out b e1 e2; omega)); replace HB := keepBo HB (by omega) ho; replace HBR := keepBo HBR (by omega) ho; replace HX2 := Lib.hid (HX2.out.only2 ho HXN.out); clear HN; have HN := Lib.hid hz; clear hz ho)
                refine hK.out _ _ ⟨HS.out, act_uop (HA.out.at_ hn0 (acts_get hac))⟩ (fun hHeld => ?_)
                clear hK K
                refine rgCall (i := 14) (N := none) (oi := { dst := none, op := Op.store 52 (Operand.tmp 9) (Operand.tmp 92), type := 0, pos := "law.go:82", after := #[{ on := 12, ground := Ground.data }, { on := 9, ground := Ground.data }, { on := 13, ground := Ground.chain }, { on := 0, ground := Ground.phase }, { on := 1, ground := Ground.phase }, { on := 2, ground := Ground.phase }, { on := 3, ground := Ground.phase }, { on := 4, ground := Ground.phase }, { on := 5, ground := Ground.phase }, { on := 6, ground := Ground.phase }, { on := 7, ground := Ground.phase }, { on := 8, ground := Ground.phase }, { on := 9, ground := Ground.phase }, { on := 10, ground := Ground.textOnly Departure.lateStores }, { on := 11, ground := Ground.phase }, { on := 12, ground := Ground.phase }, { on := 13, ground := Ground.phase }], guard := none }) #[true, true, true, true, true, true, true, true, true, true, true, true, true, true, true, false] rfl rfl (by kernel_rfl) (fun K hK => ?_)
                (refine rgStore (by rfl) 52 _ _ rfl gR rfl (rA (onR V a.u)) rfl HR.out infoRen rfl (rA_one _) ?_; intro w10 hz ho; replace HN := keepAo HN (by omega) ho; replace HS := keepAo HS (by omega) ho; replace HX := Lib.hid (HX.out.only2 ho (fun a e1 e2 => by have := HXT.out a e1 e2; omega)); replace HA := Lib.hid (HA.out.only2 ho (fun a e1 e2 => by have := HLA.out a e1 e2; omega)); replace HT := Lib.hid (HT.out.only ho (fun b e1 e2 => by have := HTT.out b e1 e2; omega)); replace HB := keepBo HB (by omega) ho; replace HBR := keepBo HBR (by omega) ho; replace HX2 := Lib.hid (HX2.out.only2 ho HXR.out); clear HR; have HR := Lib.hid hz; clear hz ho)
                refine hK.out _ _ ⟨HS.out, act_uop (HA.out.at_ hn0 (acts_get hac))⟩ (fun hHeld => ?_)
                clear hK K
                refine rgTake (i := 15) (N := some 10) (oi := { dst := some 10, op := Op.assign (Operand.tmp 93), type := 4, pos := "law.go:82", after := #[{ on := 10, ground := Ground.data }, { on := 14, ground := Ground.chain }, { on := 0, ground := Ground.phase }, { on := 1, ground := Ground.phase }, { on := 2, ground := Ground.phase }, { on := 3, ground := Ground.phase }, { on := 4, ground := Ground.phase }, { on := 5, ground := Ground.phase }, { on := 6, ground := Ground.phase }, { on := 7, ground := Ground.phase }, { on := 8, ground := Ground.phase }, { on := 9, ground := Ground.phase }, { on := 10, ground := Ground.phase }, { on := 11, ground := Ground.phase }, { on := 12, ground := Ground.phase }, { on := 13, ground := Ground.phase }, { on := 14, ground := Ground.phase }], guard := none }) (v := ?_) #[true, true, true, true, true, true, true, true, true, true, true, true, true, true, true, true] rfl rfl (by kernel_rfl) (fun _ _ _ h => h) (Or.inl ⟨by rfl, ?_⟩) hHeld ?_
                rotate_left
                · intro w' hSw; (try dsimp only at hSw); skip; go_simp; try with_reducible rfl
                simp only [Act.put, List.setIfInBounds_toArray, List.set_cons_zero, List.set_cons_succ]
                refine rgDone (by kernel_rfl) ?_ _
                (go_wp2_with fail; go_meet; exact ⟨gN, gR, A2, c2, rfl, rfl, rfl, hTN, hTR, hNR, HN, HR, HX2, HNS, HAP2, HS, HX, HA, HT, HB⟩)
            · (refine rgAlloc (.cells (rA rZ) 52) (by kernel_rfl) (by rfl) ?_; intro gR w8 hgR hgR' hz hb; have hTR : T ≤ gR := Nat.le_trans HBR.out.2 hgR; (try have HXR := Lib.hid (fun a (e1 : A2 = some a) (e2 : 0 < V.n) => Nat.ne_of_lt (Nat.lt_of_lt_of_le (HX2.out.lt a e1 e2) hgR))); (try have hNR : gN ≠ gR := Nat.ne_of_lt (Nat.lt_of_lt_of_le (Array.getElem?_eq_some_iff.1 HN.out).1 hgR)); replace HS := keepA HS hb; replace HX := Lib.hid (HX.out.below hb); replace HA := Lib.hid (HA.out.below hb); replace HT := Lib.hid (HT.out.below hb); replace HB := keepB HB hb; replace HBR := keepB HBR hb; (try replace HN := keepA HN hb); (try replace HR := keepA HR hb); (try replace HX2 := Lib.hid (HX2.out.below hb)); have HR := Lib.hid hz; clear hz)
              refine hK.out _ _ ⟨HS.out, act_uop (HA.out.at_ hn0 (acts_get hac))⟩ (fun hHeld => ?_)
              (try simp only [Act.put, List.setIfInBounds_toArray, List.set_cons_zero, List.set_cons_succ])
              clear hK K
              refine rgTwo (i := 6) (j := 11) (Ni := some 90) (Nj := some 8) (oi := { dst := some 90, op := Op.call { callee := Callee.value (Operand.func 16), args := #[Operand.tmp 84, Operand.tmp 89], argTypes := #[29, 50] }, type := 53, pos := "law.go:82", after := #[{ on := 0, ground := Ground.data }, { on := 5, ground := Ground.data }], guard := none }) (oj := { dst := some 8, op := Op.alloc 29, type := 0, pos := "law.go:82", after := #[], guard := none }) #[true, true, true, true, true, true, true, false, false, false, false, false, true, false, false, false] #[true, true, true, true, true, true, false, false, false, false, false, true, true, false, false, false] rfl rfl rfl rfl (by kernel_rfl) (fun K hK => ?_) (fun K hK => ?_)
              · go_simp
                (go_at_call 16; refine (one_any V A1 c1 a.u _ HX.out kV).mono ?_; rintro e w6 ⟨A2, c2, rfl, hr, hA, hb⟩; rw [onV_n, onV_xs] at hr; rw [hbb]; have HNS := Lib.hid (neKeep HAS.out hA (Array.getElem?_eq_some_iff.1 HS.out).1); have HAP2 : Hid (ApartL A2 V.n L1 cap1) := Lib.hid (HAP.out.next HT.out hA rfl); (try have HXN := Lib.hid (neOf HXT.out hA hTN (Array.getElem?_eq_some_iff.1 HN.out).1)); (try have HXR := Lib.hid (neOf HXT.out hA hTR (Array.getElem?_eq_some_iff.1 HR.out).1)); replace HS := keepA HS hb; replace HX := Lib.hid (HX.out.below hb); replace HA := Lib.hid (HA.out.below hb); replace HT := Lib.hid (HT.out.below hb); replace HB := keepB HB hb; replace HBR := keepB HBR hb; (try replace HN := keepA HN hb); (try replace HR := keepA HR hb); (try replace HX2 := Lib.hid (HX2.out.below hb)); have HX2 := Lib.hid hr; clear hr hA)
                refine hK.out _ _ ⟨HS.out, act_uop (HA.out.at_ hn0 (acts_get hac))⟩ (fun hHeld => ?_)
                (try simp only [Act.put, List.setIfInBounds_toArray, List.set_cons_zero, List.set_cons_succ])
                clear hK K
                refine rgTake (i := 7) (N := some 83) (oi := { dst := some 83, op := Op.move (Operand.tmp 90), type := 53, pos := "law.go:82", after := #[{ on := 6, ground := Ground.data }], guard := none }) (v := ?_) #[true, true, true, true, true, true, true, true, false, false, false, false, true, false, false, false] rfl rfl (by kernel_rfl) (fun _ _ _ h => h) (Or.inl ⟨by rfl, ?_⟩) hHeld ?_
                rotate_left
                · intro w' hSw; (try dsimp only at hSw); skip; go_simp; try with_reducible rfl
                simp only [Act.put, List.setIfInBounds_toArray, List.set_cons_zero, List.set_cons_succ]
                refine rgTake (i := 8) (N := some 91) (oi := { dst := some 91, op := Op.extract (Operand.tmp 83) 0, type := 29, pos := "law.go:82", after := #[{ on := 7, ground := Ground.data }], guard := none }) (v := ?_) #[true, true, true, true, true, true, true, true, true, false, false, false, true, false, false, false] rfl rfl (by kernel_rfl) (fun _ _ _ h => h) (Or.inl ⟨by rfl, ?_⟩) hHeld ?_
                rotate_left
                · intro w' hSw; (try dsimp only at hSw); skip; go_simp; try with_reducible rfl
                simp only [Act.put, List.setIfInBounds_toArray, List.set_cons_zero, List.set_cons_succ]
                refine rgTake (i := 9) (N := some 92) (oi := { dst := some 92, op := Op.extract (Operand.tmp 83) 1, type := 52, pos := "law.go:82", after := #[{ on := 7, ground := Ground.data }, { on := 13, ground := Ground.gcOnly Departure.lateStores }], guard := none }) (v := ?_) #[true, true, true, true, true, true, true, true, true, true, false, false, true, false, false, false] rfl rfl (by kernel_rfl) (fun _ _ _ h => h) (Or.inl ⟨by rfl, ?_⟩) hHeld ?_
                rotate_left
                · intro w' hSw; (try dsimp only at hSw); skip; go_simp; try with_reducible rfl
                simp only [Act.put, List.setIfInBounds_toArray, List.set_cons_zero, List.set_cons_succ]
                refine rgTake (i := 10) (N := some 93) (oi := { dst := some 93, op := Op.extract (Operand.tmp 83) 2, type := 4, pos := "law.go:82", after := #[{ on := 7, ground := Ground.data }, { on := 14, ground := Ground.gcOnly Departure.lateStores }], guard := none }) (v := ?_) #[true, true, true, true, true, true, true, true, true, true, true, false, true, false, false, false] rfl rfl (by kernel_rfl) (fun _ _ _ h => h) (Or.inl ⟨by rfl, ?_⟩) hHeld ?_
                rotate_left
                · intro w' hSw; (try dsimp only at hSw); skip; go_simp; try with_reducible rfl
                simp only [Act.put, List.setIfInBounds_toArray, List.set_cons_zero, List.set_cons_succ]
                refine rgCall (i := 11) (N := some 8) (oi := { dst := some 8, op := Op.alloc 29, type := 0, pos := "law.go:82", after := #[], guard := none }) #[true, true, true, true, true, true, true, true, true, true, true, true, true, false, false, false] rfl rfl (by kernel_rfl) (fun K hK => ?_)
                (refine rgAlloc (.cells (nm zeros16 zeros16 (.slice none 0 0) 0 0 0) 29) (by kernel_rfl) (by rfl) ?_; intro gN w7 hgN hgN' hz hb; have hTN : T ≤ gN := Nat.le_trans HBR.out.2 hgN; (try have HXN := Lib.hid (fun a (e1 : A2 = some a) (e2 : 0 < V.n) => Nat.ne_of_lt (Nat.lt_of_lt_of_le (HX2.out.lt a e1 e2) hgN))); (try have hNR : gN ≠ gR := Nat.ne_of_gt (Nat.lt_of_lt_of_le (Array.getElem?_eq_some_iff.1 HR.out).1 hgN)); replace HS := keepA HS hb; replace HX := Lib.hid (HX.out.below hb); replace HA := Lib.hid (HA.out.below hb); replace HT := Lib.hid (HT.out.below hb); replace HB := keepB HB hb; replace HBR := keepB HBR hb; (try replace HN := keepA HN hb); (try replace HR := keepA HR hb); (try replace HX2 := Lib.hid (HX2.out.below hb)); have HN := Lib.hid hz; clear hz)
                refine hK.out _ _ ⟨HS.out, act_uop (HA.out.at_ hn0 (acts_get hac))⟩ (fun hHeld => ?_)
                (try simp only [Act.put, List.setIfInBounds_toArray, List.set_cons_zero, List.set_cons_succ])
                clear hK K
                refine rgCall (i := 13) (N := none) (oi := { dst := none, op := Op.store 29 (Operand.tmp 8) (Operand.tmp 91), type := 0, pos := "law.go:82", after := #[{ on := 11, ground := Ground.data }, { on := 8, ground := Ground.data }, { on := 6, ground := Ground.chain }, { on := 0, ground := Ground.phase }, { on := 1, ground := Ground.phase }, { on := 2, ground := Ground.phase }, { on := 3, ground := Ground.phase }, { on := 4, ground := Ground.phase }, { on := 5, ground := Ground.phase }, { on := 6, ground := Ground.phase }, { on := 7, ground := Ground.phase }, { on := 8, ground := Ground.phase }, { on := 9, ground := Ground.textOnly Departure.lateStores }, { on := 10, ground := Ground.textOnly Departure.lateStores }, { on := 11, ground := Ground.phase }, { on := 12, ground := Ground.phase }], guard := none }) #[true, true, true, true, true, true, true, true, true, true, true, true, true, true, false, false] rfl rfl (by kernel_rfl) (fun K hK => ?_)
                (refine rgStore (by rfl) 29 _ _ rfl gN rfl (nmA (onV V a.u) A2 c2) rfl HN.out (nm_szV (onV_ok kV a.u) _ _) (zZ _ (onV_ok kV a.u) _ _) (nm_oneV _ _ _) ?_; intro w9 hz ho; replace HR := keepAo HR (by omega) ho; replace HS := keepAo HS (by omega) ho; replace HX := Lib.hid (HX.out.only2 ho (fun a e1 e2 => by have := HXT.out a e1 e2; omega)); replace HA := Lib.hid (HA.out.only2 ho (fun a e1 e2 => by have := HLA.out a e1 e2; omega)); replace HT := Lib.hid (HT.out.only ho (fun b e1 e2 => by have := HTT.out b e1 e2; omega)); replace HB := keepBo HB (by omega) ho; replace HBR := keepBo HBR (by omega) ho; replace HX2 := Lib.hid (HX2.out.only2 ho HXN.out); clear HN; have HN := Lib.hid hz; clear hz ho)
                refine hK.out _ _ ⟨HS.out, act_uop (HA.out.at_ hn0 (acts_get hac))⟩ (fun hHeld => ?_)
                clear hK K
                refine rgCall (i := 14) (N := none) (oi := { dst := none, op := Op.store 52 (Operand.tmp 9) (Operand.tmp 92), type := 0, pos := "law.go:82", after := #[{ on := 12, ground := Ground.data }, { on := 9, ground := Ground.data }, { on := 13, ground := Ground.chain }, { on := 0, ground := Ground.phase }, { on := 1, ground := Ground.phase }, { on := 2, ground := Ground.phase }, { on := 3, ground := Ground.phase }, { on := 4, ground := Ground.phase }, { on := 5, ground := Ground.phase }, { on := 6, ground := Ground.phase }, { on := 7, ground := Ground.phase }, { on := 8, ground := Ground.phase }, { on := 9, ground := Ground.phase }, { on := 10, ground := Ground.textOnly Departure.lateStores }, { on := 11, ground := Ground.phase }, { on := 12, ground := Ground.phase }, { on := 13, ground := Ground.phase }], guard := none }) #[true, true, true, true, true, true, true, true, true, true, true, true, true, true, true, false] rfl rfl (by kernel_rfl) (fun K hK => ?_)
                (refine rgStore (by rfl) 52 _ _ rfl gR rfl (rA (onR V a.u)) rfl HR.out infoRen rfl (rA_one _) ?_; intro w10 hz ho; replace HN := keepAo HN (by omega) ho; replace HS := keepAo HS (by omega) ho; replace HX := Lib.hid (HX.out.only2 ho (fun a e1 e2 => by have := HXT.out a e1 e2; omega)); replace HA := Lib.hid (HA.out.only2 ho (fun a e1 e2 => by have := HLA.out a e1 e2; omega)); replace HT := Lib.hid (HT.out.only ho (fun b e1 e2 => by have := HTT.out b e1 e2; omega)); replace HB := keepBo HB (by omega) ho; replace HBR := keepBo HBR (by omega) ho; replace HX2 := Lib.hid (HX2.out.only2 ho HXR.out); clear HR; have HR := Lib.hid hz; clear hz ho)
                refine hK.out _ _ ⟨HS.out, act_uop (HA.out.at_ hn0 (acts_get hac))⟩ (fun hHeld => ?_)
                clear hK K
                refine rgTake (i := 15) (N := some 10) (oi := { dst := some 10, op := Op.assign (Operand.tmp 93), type := 4, pos := "law.go:82", after := #[{ on := 10, ground := Ground.data }, { on := 14, ground := Ground.chain }, { on := 0, ground := Ground.phase }, { on := 1, ground := Ground.phase }, { on := 2, ground := Ground.phase }, { on := 3, ground := Ground.phase }, { on := 4, ground := Ground.phase }, { on := 5, ground := Ground.phase }, { on := 6, ground := Ground.phase }, { on := 7, ground := Ground.phase }, { on := 8, ground := Ground.phase }, { on := 9, ground := Ground.phase }, { on := 10, ground := Ground.phase }, { on := 11, ground := Ground.phase }, { on := 12, ground := Ground.phase }, { on := 13, ground := Ground.phase }, { on := 14, ground := Ground.phase }], guard := none }) (v := ?_) #[true, true, true, true, true, true, true, true, true, true, true, true, true, true, true, true] rfl rfl (by kernel_rfl) (fun _ _ _ h => h) (Or.inl ⟨by rfl, ?_⟩) hHeld ?_
                rotate_left
                · intro w' hSw; (try dsimp only at hSw); skip; go_simp; try with_reducible rfl
                simp only [Act.put, List.setIfInBounds_toArray, List.set_cons_zero, List.set_cons_succ]
                refine rgDone (by kernel_rfl) ?_ _
                (go_wp2_with fail; go_meet; exact ⟨gN, gR, A2, c2, rfl, rfl, rfl, hTN, hTR, hNR, HN, HR, HX2, HNS, HAP2, HS, HX, HA, HT, HB⟩)
              · (refine rgAlloc (.cells (nm zeros16 zeros16 (.slice none 0 0) 0 0 0) 29) (by kernel_rfl) (by rfl) ?_; intro gN w7 hgN hgN' hz hb; have hTN : T ≤ gN := Nat.le_trans HBR.out.2 hgN; (try have HXN := Lib.hid (fun a (e1 : A2 = some a) (e2 : 0 < V.n) => Nat.ne_of_lt (Nat.lt_of_lt_of_le (HX2.out.lt a e1 e2) hgN))); (try have hNR : gN ≠ gR := Nat.ne_of_gt (Nat.lt_of_lt_of_le (Array.getElem?_eq_some_iff.1 HR.out).1 hgN)); replace HS := keepA HS hb; replace HX := Lib.hid (HX.out.below hb); replace HA := Lib.hid (HA.out.below hb); replace HT := Lib.hid (HT.out.below hb); replace HB := keepB HB hb; replace HBR := keepB HBR hb; (try replace HN := keepA HN hb); (try replace HR := keepA HR hb); (try replace HX2 := Lib.hid (HX2.out.below hb)); have HN := Lib.hid hz; clear hz)
                refine hK.out _ _ ⟨HS.out, act_uop (HA.out.at_ hn0 (acts_get hac))⟩ (fun hHeld => ?_)
                (try simp only [Act.put, List.setIfInBounds_toArray, List.set_cons_zero, List.set_cons_succ])
                clear hK K
                refine rgCall (i := 6) (N := some 90) (oi := { dst := some 90, op := Op.call { callee := Callee.value (Operand.func 16), args := #[Operand.tmp 84, Operand.tmp 89], argTypes := #[29, 50] }, type := 53, pos := "law.go:82", after := #[{ on := 0, ground := Ground.data }, { on := 5, ground := Ground.data }], guard := none }) #[true, true, true, true, true, true, true, false, false, false, false, true, true, false, false, false] rfl rfl (by kernel_rfl) (fun K hK => ?_)
                go_simp
                (go_at_call 16; refine (one_any V A1 c1 a.u _ HX.out kV).mono ?_; rintro e w6 ⟨A2, c2, rfl, hr, hA, hb⟩; rw [onV_n, onV_xs] at hr; rw [hbb]; have HNS := Lib.hid (neKeep HAS.out hA (Array.getElem?_eq_some_iff.1 HS.out).1); have HAP2 : Hid (ApartL A2 V.n L1 cap1) := Lib.hid (HAP.out.next HT.out hA rfl); (try have HXN := Lib.hid (neOf HXT.out hA hTN (Array.getElem?_eq_some_iff.1 HN.out).1)); (try have HXR := Lib.hid (neOf HXT.out hA hTR (Array.getElem?_eq_some_iff.1 HR.out).1)); replace HS := keepA HS hb; replace HX := Lib.hid (HX.out.below hb); replace HA := Lib.hid (HA.out.below hb); replace HT := Lib.hid (HT.out.below hb); replace HB := keepB HB hb; replace HBR := keepB HBR hb; (try replace HN := keepA HN hb); (try replace HR := keepA HR hb); (try replace HX2 := Lib.hid (HX2.out.below hb)); have HX2 := Lib.hid hr; clear hr hA)
                refine hK.out _ _ ⟨HS.out, act_uop (HA.out.at_ hn0 (acts_get hac))⟩ (fun hHeld => ?_)
                (try simp only [Act.put, List.setIfInBounds_toArray, List.set_cons_zero, List.set_cons_succ])
                clear hK K
                refine rgTake (i := 7) (N := some 83) (oi := { dst := some 83, op := Op.move (Operand.tmp 90), type := 53, pos := "law.go:82", after := #[{ on := 6, ground := Ground.data }], guard := none }) (v := ?_) #[true, true, true, true, true, true, true, true, false, false, false, true, true, false, false, false] rfl rfl (by kernel_rfl) (fun _ _ _ h => h) (Or.inl ⟨by rfl, ?_⟩) hHeld ?_
                rotate_left
                · intro w' hSw; (try dsimp only at hSw); skip; go_simp; try with_reducible rfl
                simp only [Act.put, List.setIfInBounds_toArray, List.set_cons_zero, List.set_cons_succ]
                refine rgTake (i := 8) (N := some 91) (oi := { dst := some 91, op := Op.extract (Operand.tmp 83) 0, type := 29, pos := "law.go:82", after := #[{ on := 7, ground := Ground.data }], guard := none }) (v := ?_) #[true, true, true, true, true, true, true, true, true, false, false, true, true, false, false, false] rfl rfl (by kernel_rfl) (fun _ _ _ h => h) (Or.inl ⟨by rfl, ?_⟩) hHeld ?_
                rotate_left
                · intro w' hSw; (try dsimp only at hSw); skip; go_simp; try with_reducible rfl
                simp only [Act.put, List.setIfInBounds_toArray, List.set_cons_zero, List.set_cons_succ]
                refine rgTake (i := 9) (N := some 92) (oi := { dst := some 92, op := Op.extract (Operand.tmp 83) 1, type := 52, pos := "law.go:82", after := #[{ on := 7, ground := Ground.data }, { on := 13, ground := Ground.gcOnly Departure.lateStores }], guard := none }) (v := ?_) #[true, true, true, true, true, true, true, true, true, true, false, true, true, false, false, false] rfl rfl (by kernel_rfl) (fun _ _ _ h => h) (Or.inl ⟨by rfl, ?_⟩) hHeld ?_
                rotate_left
                · intro w' hSw; (try dsimp only at hSw); skip; go_simp; try with_reducible rfl
                simp only [Act.put, List.setIfInBounds_toArray, List.set_cons_zero, List.set_cons_succ]
                refine rgTake (i := 10) (N := some 93) (oi := { dst := some 93, op := Op.extract (Operand.tmp 83) 2, type := 4, pos := "law.go:82", after := #[{ on := 7, ground := Ground.data }, { on := 14, ground := Ground.gcOnly Departure.lateStores }], guard := none }) (v := ?_) #[true, true, true, true, true, true, true, true, true, true, true, true, true, false, false, false] rfl rfl (by kernel_rfl) (fun _ _ _ h => h) (Or.inl ⟨by rfl, ?_⟩) hHeld ?_
                rotate_left
                · intro w' hSw; (try dsimp only at hSw); skip; go_simp; try with_reducible rfl
                simp only [Act.put, List.setIfInBounds_toArray, List.set_cons_zero, List.set_cons_succ]
                refine rgCall (i := 13) (N := none) (oi := { dst := none, op := Op.store 29 (Operand.tmp 8) (Operand.tmp 91), type := 0, pos := "law.go:82", after := #[{ on := 11, ground := Ground.data }, { on := 8, ground := Ground.data }, { on := 6, ground := Ground.chain }, { on := 0, ground := Ground.phase }, { on := 1, ground := Ground.phase }, { on := 2, ground := Ground.phase }, { on := 3, ground := Ground.phase }, { on := 4, ground := Ground.phase }, { on := 5, ground := Ground.phase }, { on := 6, ground := Ground.phase }, { on := 7, ground := Ground.phase }, { on := 8, ground := Ground.phase }, { on := 9, ground := Ground.textOnly Departure.lateStores }, { on := 10, ground := Ground.textOnly Departure.lateStores }, { on := 11, ground := Ground.phase }, { on := 12, ground := Ground.phase }], guard := none }) #[true, true, true, true, true, true, true, true, true, true, true, true, true, true, false, false] rfl rfl (by kernel_rfl) (fun K hK => ?_)
                (refine rgStore (by rfl) 29 _ _ rfl gN rfl (nmA (onV V a.u) A2 c2) rfl HN.out (nm_szV (onV_ok kV a.u) _ _) (zZ _ (onV_ok kV a.u) _ _) (nm_oneV _ _ _) ?_; intro w9 hz ho; replace HR := keepAo HR (by omega) ho; replace HS := keepAo HS (by omega) ho; replace HX := Lib.hid (HX.out.only2 ho (fun a e1 e2 => by have := HXT.out a e1 e2; omega)); replace HA := Lib.hid (HA.out.only2 ho (fun a e1 e2 => by have := HLA.out a e1 e2; omega)); replace HT := Lib.hid (HT.out.only ho (fun b e1 e2 => by have := HTT.out b e1 e2; omega)); replace HB := keepBo HB (by omega) ho; replace HBR := keepBo HBR (by omega) ho; replace HX2 := Lib.hid (HX2.out.only2 ho HXN.out); clear HN; have HN := Lib.hid hz; clear hz ho)
                refine hK.out _ _ ⟨HS.out, act_uop (HA.out.at_ hn0 (acts_get hac))⟩ (fun hHeld => ?_)
                clear hK K
                refine rgCall (i := 14) (N := none) (oi := { dst := none, op := Op.store 52 (Operand.tmp 9) (Operand.tmp 92), type := 0, pos := "law.go:82", after := #[{ on := 12, ground := Ground.data }, { on := 9, ground := Ground.data }, { on := 13, ground := Ground.chain }, { on := 0, ground := Ground.phase }, { on := 1, ground := Ground.phase }, { on := 2, ground := Ground.phase }, { on := 3, ground := Ground.phase }, { on := 4, ground := Ground.phase }, { on := 5, ground := Ground.phase }, { on := 6, ground := Ground.phase }, { on := 7, ground := Ground.phase }, { on := 8, ground := Ground.phase }, { on := 9, ground := Ground.phase }, { on := 10, ground := Ground.textOnly Departure.lateStores }, { on := 11, ground := Ground.phase }, { on := 12, ground := Ground.phase }, { on := 13, ground := Ground.phase }], guard := none }) #[true, true, true, true, true, true, true, true, true, true, true, true, true, true, true, false] rfl rfl (by kernel_rfl) (fun K hK => ?_)
                (refine rgStore (by rfl) 52 _ _ rfl gR rfl (rA (onR V a.u)) rfl HR.out infoRen rfl (rA_one _) ?_; intro w10 hz ho; replace HN := keepAo HN (by omega) ho; replace HS := keepAo HS (by omega) ho; replace HX := Lib.hid (HX.out.only2 ho (fun a e1 e2 => by have := HXT.out a e1 e2; omega)); replace HA := Lib.hid (HA.out.only2 ho (fun a e1 e2 => by have := HLA.out a e1 e2; omega)); replace HT := Lib.hid (HT.out.only ho (fun b e1 e2 => by have := HTT.out b e1 e2; omega)); replace HB := keepBo HB (by omega) ho; replace HBR := keepBo HBR (by omega) ho; replace HX2 := Lib.hid (HX2.out.only2 ho HXR.out); clear HR; have HR := Lib.hid hz; clear hz ho)
                refine hK.out _ _ ⟨HS.out, act_uop (HA.out.at_ hn0 (acts_get hac))⟩ (fun hHeld => ?_)
                clear hK K
                refine rgTake (i := 15) (N := some 10) (oi := { dst := some 10, op := Op.assign (Operand.tmp 93), type := 4, pos := "law.go:82", after := #[{ on := 10, ground := Ground.data }, { on := 14, ground := Ground.chain }, { on := 0, ground := Ground.phase }, { on := 1, ground := Ground.phase }, { on := 2, ground := Ground.phase }, { on := 3, ground := Ground.phase }, { on := 4, ground := Ground.phase }, { on := 5, ground := Ground.phase }, { on := 6, ground := Ground.phase }, { on := 7, ground := Ground.phase }, { on := 8, ground := Ground.phase }, { on := 9, ground := Ground.phase }, { on := 10, ground := Ground.phase }, { on := 11, ground := Ground.phase }, { on := 12, ground := Ground.phase }, { on := 13, ground := Ground.phase }, { on := 14, ground := Ground.phase }], guard := none }) (v := ?_) #[true, true, true, true, true, true, true, true, true, true, true, true, true, true, true, true] rfl rfl (by kernel_rfl) (fun _ _ _ h => h) (Or.inl ⟨by rfl, ?_⟩) hHeld ?_
                rotate_left
                · intro w' hSw; (try dsimp only at hSw); skip; go_simp; try with_reducible rfl
                simp only [Act.put, List.setIfInBounds_toArray, List.set_cons_zero, List.set_cons_succ]
                refine rgDone (by kernel_rfl) ?_ _
                (go_wp2_with fail; go_meet; exact ⟨gN, gR, A2, c2, rfl, rfl, rfl, hTN, hTR, hNR, HN, HR, HX2, HNS, HAP2, HS, HX, HA, HT, HB⟩)
          case rest =>
            clear HS HX HA HT HB
            obtain ⟨gN, gR, A2, c2, rfl, rfl, rfl, hTN, hTR, hNR, HN, HR, HX2, HNS, HAP2, HS, HX, HA, HT, HB⟩ := hcut
            cases bb with
            | true =>
              have HIN := Lib.hid (HI.out.one hbb (by omega))
              have hs1 := HI.out.s1
              have hV's : (onV V a.u).s ≤ V.s + 1 := onV_s hs1 (by omega)
              have hQN : (fl ++ [onR V a.u]).length = q + 1 := by rw [List.length_append, HQ.out]; rfl
              have HQN := Lib.hid hQN
              clear HI hQN
              go_wp2_with (first | (refine rowLoad rfl 29 _ rfl gN rfl HN.out Try.underlying29 rfl (nm_szV (onV_ok kV a.u) _ _) ?_) | (refine rowStore rfl 29 _ _ rfl g5 rfl (nmA (onV V a.u) A2 c2) rfl HS.out (nm_szV (onV_ok kV a.u) _ _) (nm_eqV kV (onV_ok kV a.u) _ _ _ _) (nm_oneV _ _ _) ?_; intro w11 hz ho; replace HR := keepAo HR (by omega) ho; replace HA := Lib.hid (HA.out.only2 ho (fun a e1 e2 => by have := HLA.out a e1 e2; omega)); replace HT := Lib.hid (HT.out.only ho (fun b e1 e2 => by have := (HT.out.lt b e1 e2).1; omega)); replace HX2 := Lib.hid (HX2.out.only2 ho HNS.out); replace HB := keepBo HB (by omega) ho; clear HS HX HN; have HS := Lib.hid hz; clear hz ho) | (refine rowLoad rfl 52 _ rfl gR rfl HR.out Try.underlying52 rfl infoRen ?_) | (refine wlLit rfl 33 1 _ rfl (rA (onR V a.u)) 52 (fun _ => by kernel_rfl) ?_; intro gL w12 hgL hgL' hz hb; have HLT := Lib.hid hz; replace HA := Lib.hid (HA.out.below hb); replace HB := keepB HB hb; replace HS := keepA HS hb; replace HT := Lib.hid (HT.out.below hb); replace HX2 := Lib.hid (HX2.out.below hb); clear hz hb HR) | (refine appTailR rfl _ _ 33 rfl Try.underlying33 (.agg (rA rZ)) infoRenZ rfl (g5 + 1) L1 cap1 fl (by rw [HQ.out]; rfl) HT.out (onR V a.u) gL 1 rfl HLT.out (by rw [HQ.out]; omega) (Array.getElem?_eq_some_iff.1 HS.out).1 ?_; intro L2 cap2 w13 hT2 hkeep hL2 hb; rw [HQ.out]; have HAP3 : Hid (ApartL A2 V.n L2 cap2) := Lib.hid (apartL_app HX2.out HAP2.out hL2); replace HX2 : Hid (RdA .i64 w13 A2 V.n V.xs) := Lib.hid (rd_app HX2.out HAP2.out hkeep); replace HA := Lib.hid (HA.out.belowB hb (fun a e1 e2 => by have := HLA.out a e1 e2; omega)); replace HS := keepAg' HS (Nat.lt_succ_self g5) hb; replace HB := keepBg' HB (by omega) hb; clear HT; have HT := Lib.hid hT2; clear hT2 hkeep hL2 hb HLT) | (refine rowLoad rfl 29 _ rfl g5 rfl HS.out Try.underlying29 rfl (nm_szV (onV_ok kV a.u) _ _) ?_) | (go_at_call 24; refine (rgt_q HIN.out HQN.out (by omega) A2 L2 c2 cap2 _ (by rw [onV_n, onV_xs]; exact HX2.out) HT.out.rd).mono ?_; rintro e w5 ⟨rfl, hb⟩; replace HA := Lib.hid (HA.out.below hb); replace HB := keepB HB hb; replace HS := keepA HS hb; replace HT := Lib.hid (HT.out.below hb); replace HX2 := Lib.hid (HX2.out.below hb); clear hb; have HRR := Lib.hid True.intro) | (have hq := HRR; clear hq; go_at_call 25; refine (rrgt_q HIN.out HQN.out (by omega) A2 L2 c2 cap2 _ (by rw [onV_n, onV_xs]; exact HX2.out) HT.out.rd).mono ?_; rintro e w6 ⟨rfl, hb⟩; replace HA := Lib.hid (HA.out.below hb); replace HB := keepB HB hb; replace HS := keepA HS hb; replace HT := Lib.hid (HT.out.below hb); replace HX2 := Lib.hid (HX2.out.below hb); clear hb HRR))
              go_roundg (acs.length - (k + 1))
              case rel => exact ⟨k + 1, onV V a.u, A2, c2, L2, cap2, q + 1, fl ++ [onR V a.u], by omega, by go_num, rfl, by omega, by omega, HQN, HIN, HS, by rw [onV_n, onV_xs]; exact HX2, by rw [onV_n]; exact HNS, by rw [onV_n]; exact HAP3, HT, HA, HB⟩
              case measure => omega
            | false =>
              obtain ⟨hne, hrb, hkl⟩ := HI.out.none hbb
              have hq0 : 0 < q := by
                rw [← HQ.out]
                exact List.length_pos_iff.2 hne
              have bq : (q == 0) = false := by simp; omega
              have bq2 : ((q : Int) == 0) = false := by simp; omega
              have HKL := Lib.hid hkl
              clear hne hkl
              go_wp2_with (first | (refine wlIdx rfl 62 _ _ rfl 64 24 Try.underlying62 sizeAct bA oA acs.length kL k rfl rfl hlt ?_) | (refine partLoad rfl 50 _ rfl bA (oA + k * 24 + 1) rfl (act_uop (HA.out.at_ hn0 (acts_get hac))) Try.underlying50 rfl infoUop ?_) | (go_at_call 26; refine (rwrites_any a.u _).mono ?_; rintro e w14 ⟨rfl, hb⟩; rw [hrb]; replace HA := Lib.hid (HA.out.below hb); replace HB := keepB HB hb; replace HS := keepA HS hb; replace HT := Lib.hid (HT.out.below hb); replace HX := Lib.hid (HX.out.below hb); clear hb) | (refine partLoad rfl 26 _ rfl g5 32 rfl (nm_free kV.m kV.d HS.out) Try.underlying26 rfl infoFr ?_) | (go_at_call 23; refine (list_any A1 V.n c1 V.h V.N V.xs _ HX.out kV.n).mono ?_; rintro e w15 ⟨⟨A6, c6, rfl, hr⟩, hb⟩; rw [HKL.out]; replace HA := Lib.hid (HA.out.below hb); replace HB := keepB HB hb; replace HS := keepA HS hb; replace HT := Lib.hid (HT.out.below hb); replace HX := Lib.hid (HX.out.below hb); clear hr hb) | (refine rowLoad rfl 29 _ rfl g5 rfl HS.out Try.underlying29 rfl (nm_szV HI.out.kk _ _) ?_) | (go_at_call 24; refine (rgt_q HI.out HQ.out (by omega) A1 L1 c1 cap1 _ HX.out HT.out.rd).mono ?_; rintro e w5 ⟨rfl, hb⟩; replace HA := Lib.hid (HA.out.below hb); replace HB := keepB HB hb; replace HX := Lib.hid (HX.out.below hb); replace HT := Lib.hid (HT.out.below hb); replace HS := keepA HS hb; clear hb; have HRR := Lib.hid True.intro) | (have hq := HRR; clear hq; go_at_call 25; refine (rrgt_q HI.out HQ.out (by omega) A1 L1 c1 cap1 _ HX.out HT.out.rd).mono ?_; rintro e w6 ⟨rfl, hb⟩; replace HA := Lib.hid (HA.out.below hb); replace HB := keepB HB hb; replace HX := Lib.hid (HX.out.below hb); replace HT := Lib.hid (HT.out.below hb); replace HS := keepA HS hb; clear hb HRR))
              go_roundg (acs.length - (k + 1))
              case rel => exact ⟨k + 1, V, A1, c1, L1, cap1, q, fl, by omega, by go_num, rfl, by omega, by omega, HQ, HI, HS, HX, HAS, HAP, HT, HA, HB⟩
              case measure => omega
    · obtain rfl : k = acs.length := by omega
      go_wp2_with (first | (go_at_call 9; refine (awake_any _).mono ?_; rintro e w4 ⟨rfl, hb⟩; replace HB := keepB HB hb))
      go_ret
      exact ⟨rfl, HB.out.1⟩
theorem renkeeps_any (n : Int) (acs : List ActV) (hpos : ∀ a ∈ acs, 0 ≤ a.kind) (L : Option Addr) (kL : Nat) (w : World) (hl : RwA w L 24 acs.length (acs.map aA)) (hm : acs.length ≤ 9223372036854775807) : Calls Try.prog 7 #[.int .i64 n, .slice L acs.length kL] w fun e w' => e = .returned (.bool true) ∧ Below w.heap.size w w' := by
  by_cases h1 : n < 17
  · exact keeps_off n L kL _ w hm (.inl h1)
  · by_cases h2 : 96 < n
    · exact keeps_off n L kL _ w hm (.inr (.inl h2))
    · by_cases h3 : 80 < acs.length
      · exact keeps_off n L kL _ w hm (.inr (.inr h3))
      · obtain ⟨M, rfl⟩ : ∃ M : Nat, n = (M : Int) := ⟨n.toNat, by omega⟩
        exact keeps_walk M acs (by omega) (by omega) (by omega) hpos L kL w hl
end Go.Proofs.Ytpgighhnhidpcaa.My

/- Walk: the instruction that a text is: the program's. -/
import Derived.Test.YtaclidjhgpkmpaaDoorTextParsePlain
import Derived.Test.YtaclidjhgpkmpaaDoorTextPrintW
set_option linter.unusedVariables false
set_option linter.unusedSimpArgs false
namespace Go.Proofs.YtaclidjhgpkmpaaDoor.My
open Go.RowKit
theorem zeroIn (w : World) : (zeroValue 30).run Tryd.prog w = .ok (.agg (insA 0 0 0 0 0)) w := by kernel_rfl
theorem infoIn1 : (Tryd.prog.info? 3).map (·.size) = some 1 := by kernel_rfl
theorem decR_nonneg (s : ByteArray) (hd : digs s) : ∀ (b i : Nat) (u : Int), i + b ≤ s.size → 0 ≤ u → 0 ≤ decR s b i u
  | 0, i, u, _, h => h
  | b + 1, i, u, hi, h => by
    rw [decR]
    have := hd i (by omega)
    exact decR_nonneg s hd b (i + 1) _ (by omega) (by omega)
theorem tail_range (m : Bool) (d : ByteArray) : -9223372036854775808 ≤ (tailV m d).1 ∧ (tailV m d).1 ≤ 9223372036854775807 := by
  unfold tailV
  split
  · decide
  rename_i hb
  split
  · decide
  have hd : digs d := by
    by_cases q : digs d
    · exact q
    · exact absurd (.inr (.inr q)) hb
  have h0 := decR_nonneg d hd d.size 0 0 (by omega) (by decide)
  unfold valN
  split
  · split
    · constructor
      · show _ ≤ -decR d d.size 0 0; omega
      · show -decR d d.size 0 0 ≤ _; omega
    · decide
  · split
    · constructor
      · show _ ≤ decR d d.size 0 0; omega
      · show decR d d.size 0 0 ≤ _; omega
    · decide
theorem parse_range (s : ByteArray) : -9223372036854775808 ≤ (parseV s).1 ∧ (parseV s).1 ≤ 9223372036854775807 := by
  unfold parseV
  split
  · have hx : 0 ≤ (hexV s).1 ∧ (hexV s).1 < 4294967296 := by
      unfold hexV
      split
      · rename_i h
        have hb := hexR_bounds s (s.size - 2) 2 0 0 (Int.le_refl _) (by decide)
        refine ⟨hb.1, Int.lt_of_lt_of_le hb.2 ?_⟩
        have h1 : 0 + (s.size - 2) ≤ 8 := by have := h.2.1; omega
        have h2 := Nat.pow_le_pow_right (n := 16) (by decide) h1
        have h3 : ((16 ^ (0 + (s.size - 2)) : Nat) : Int) ≤ ((16 ^ 8 : Nat) : Int) := Int.ofNat_le.2 h2
        have h4 : ((16 ^ (0 + (s.size - 2)) : Nat) : Int) = (16 : Int) ^ (0 + (s.size - 2)) := by rw [Int.natCast_pow]; rfl
        rw [h4] at h3
        exact h3
      · decide
    exact ⟨by show _ ≤ (hexV s).1; omega, by show (hexV s).1 ≤ _; omega⟩
  · split
    · exact tail_range true _
    · exact tail_range false _
theorem part_len (rd ra rb im : Int) (h : ∀ c, -9223372036854775808 ≤ valV rd ra rb im c ∧ valV rd ra rb im c ≤ 9223372036854775807) (c : UInt8) : (partV rd ra rb im c).length ≤ 30 := by
  have key : ∀ n : Int, -9223372036854775808 ≤ n → n ≤ 9223372036854775807 → (decL n).length ≤ 20 := fun n h0 h1 => by
    have h10 : (10 : Nat) ^ 19 = 10000000000000000000 := by decide
    have hd : (digP n.natAbs).length ≤ 19 := digP_len 19 _ (by decide) (by omega)
    unfold decL
    split
    · rw [List.length_cons]; omega
    · omega
  have := key _ (h (c.toNat : Int)).1 (h (c.toNat : Int)).2
  unfold partV
  split
  · omega
  · rw [List.length_cons]; omega
theorem put_at (q : Q4) (c n d : Int) : (q.put c n).at d = q.at d ∨ (q.put c n).at d = n := by
  unfold Q4.put Q4.at valV
  repeat' split
  all_goals first | (left; rfl) | (right; rfl)
def Q4.ok (q : Q4) : Prop := ∀ c, -9223372036854775808 ≤ q.at c ∧ q.at c ≤ 9223372036854775807
theorem put_ok {q : Q4} (h : q.ok) {n : Int} (h1 : -9223372036854775808 ≤ n) (h2 : n ≤ 9223372036854775807) (c : Int) : (q.put c n).ok := fun d => by
  rcases put_at q c n d with e | e
  · rw [e]; exact h d
  · rw [e]; exact ⟨h1, h2⟩
theorem zero_ok : q0.ok := fun c => by
  show -9223372036854775808 ≤ valV 0 0 0 0 c ∧ valV 0 0 0 0 c ≤ 9223372036854775807
  unfold valV
  repeat' split
  all_goals decide
theorem printq_any (op : Int) (q : Q4) (w : World) (hq : q.ok) (ht : Lib.TabIs Tryd.prog w "strings.asciiSpace" .u8 Lib.asciiSpaceTab) (hf : FieldsAt w) : Calls Tryd.prog 8 #[.agg (insQ op q)] w fun e w' => e = .returned (.string (bs (printQ op q))) ∧ Below w.heap.size w w' :=
  print_any op q.rd q.ra q.rb q.im w ht hf hq (part_len _ _ _ _ hq)
theorem cut_any (s : List UInt8) (m : Int) (w : World) (hs : s.length ≤ 1000000) (hm : w.cell? ⟨3, 0, none⟩ = some (.int .i64 m)) : Calls Tryd.prog 36 #[.string (bs s), .string ⟨#[32]⟩] w fun e w' => (∃ b, e = .returned (.tuple #[.string (bs (headV s)), .string (bs (restV s)), .bool b])) ∧ Below w.heap.size w w' := by
  refine (Tryd.strings_Cut (bs s) ⟨#[32]⟩ m w (by rw [bs_size]; omega) hm).mono ?_
  rintro e w' ⟨rfl, n, rfl⟩
  obtain ⟨c1, c2⟩ := cut_eq s
  refine ⟨⟨(Lib.cut s [32]).2.2, ?_⟩, below_dn (Below.refl _ _) n⟩
  · have e1 : (bs s).data.toList = s := rfl
    have e2 : (⟨#[32]⟩ : ByteArray).data.toList = [32] := rfl
    rw [e1, e2, c1, c2]
    rfl
theorem split_any (s : List UInt8) (m : Int) (w : World) (hs : s.length ≤ 1000000) (hm : w.cell? ⟨3, 0, none⟩ = some (.int .i64 m)) : Calls Tryd.prog 76 #[.string (bs s), .string ⟨#[44, 32]⟩] w fun e w' => ∃ g, e = .returned (.slice (some ⟨g, 0, none⟩) (splitV s).length (splitV s).length) ∧ w.heap.size ≤ g ∧ w'.heap[g]? = some (.cells ((splitV s).map fun l => Value.string (bs l)).toArray 9 (0, 0)) ∧ Below w.heap.size w w' := by
  refine (Tryd.strings_Split (bs s) ⟨#[44, 32]⟩ m w (by rw [bs_size]; omega) hm (by decide)).mono ?_
  rintro e w' ⟨rfl, rfl⟩
  refine ⟨w.heap.size, by rw [split_len], Nat.le_refl _, ?_, (Below.refl _ _).alloc (Nat.le_refl _) _⟩
  rw [split_bytes, List.map_map]
  exact heap_alloc_new _ _
theorem trim_any (d : List UInt8) (w : World) : Calls Tryd.prog 77 #[.string (bs d), .string ⟨#[114]⟩] w fun e w' => e = .returned (.string (bs (trimR d))) ∧ w = w' :=
  (Tryd.strings_TrimPrefix (bs d) ⟨#[114]⟩ w).mono fun _ _ h => ⟨h.1, h.2.symm⟩
theorem piece_le (s : List UInt8) : ∀ x ∈ splitV s, x.length ≤ s.length := by
  intro x hx
  have key : ∀ (k : Nat) (s : List UInt8), ∀ x ∈ Lib.splitK [44, 32] 0 k s, x.length ≤ s.length := by
    intro k
    induction k with
    | zero =>
      intro s x hx
      have : x = s := by simpa [Lib.splitK] using hx
      rw [this]
      exact Nat.le_refl _
    | succ k ih =>
      intro s x hx
      unfold Lib.splitK at hx
      split at hx
      · have : x = s := by simpa using hx
        rw [this]
        exact Nat.le_refl _
      · rcases List.mem_cons.1 hx with h | h
        · rw [h, List.length_take]; omega
        · have := ih _ _ h
          rw [List.length_drop] at this
          omega
  exact key _ _ x hx
theorem trim_le (d : List UInt8) : (trimR d).length ≤ d.length := by
  unfold trimR Lib.trimPrefix
  split
  · rw [List.length_drop]; omega
  · exact Nat.le_refl _
theorem rest_le (s : List UInt8) : (restV s).length ≤ s.length := by
  rcases head_rest s with ⟨_, _, h⟩ | h
  · rw [h]; exact Nat.zero_le _
  · have := congrArg List.length h
    rw [List.length_append, List.length_cons] at this
    omega
theorem str_cell {ls : List (List UInt8)} {t : TypeId} {fr : Nat × Nat} {w : World} {g : Nat} (h : Hid (w.heap[g]? = some (.cells (ls.map fun l => Value.string (bs l)).toArray t fr))) {k : Nat} {d : List UInt8} (hd : ls[k]? = some d) : w.cell? ⟨g, k, none⟩ = some (.string (bs d)) := by
  rw [cellA h k]
  simp [hd]
theorem maxM {m : Int} {w w' : World} (h : Hid (w.cell? ⟨3, 0, none⟩ = some (.int .i64 m))) (hb : Hid (Below w.heap.size w w' ∧ w.heap.size ≤ w'.heap.size)) : w'.cell? ⟨3, 0, none⟩ = some (.int .i64 m) := (hb.out.1.cell (World.block_lt_of_cell? w _ h.out)).trans h.out
set_option maxRecDepth 100000 in
set_option maxHeartbeats 4000000 in
theorem tparse_none (s : List UInt8) (m : Int) (w : World) (hs : s.length ≤ 100000) (ht : Lib.TabIs Tryd.prog w "strings.asciiSpace" .u8 Lib.asciiSpaceTab) (hm : w.cell? ⟨3, 0, none⟩ = some (.int .i64 m)) (h0 : opV (headV s) = 0) :
    Calls Tryd.prog 66 #[.string (bs s)] w fun e w' => e = .returned (.tuple #[.agg (insA 0 0 0 0 0), .int .i64 9]) ∧ Below w.heap.size w w' := by
  have HB := startB w
  have HTB := Lib.hid ht
  have HM := Lib.hid hm
  replace hs : s.length ≤ 1000000 := by omega
  obtain ⟨NM, hN⟩ : ∃ x, headV s = x := ⟨_, rfl⟩
  obtain ⟨RS, hRS⟩ : ∃ x, restV s = x := ⟨_, rfl⟩
  have HN := Lib.hid hN
  have HRS := Lib.hid hRS
  rw [hN] at h0
  have HOP : Hid (((opV NM : Nat) : Int) = 0) := Lib.hid (by omega)
  obtain ⟨OP, rfl⟩ : ∃ x : Int, x = 0 := ⟨_, rfl⟩
  clear ht hm hN hRS h0
  go_enter Tryd.func66, Tryd.ntmps66
  go_upto_region 1 with (refine wlAlloc (by rfl) 30 rfl (insA 0 0 0 0 0) zeroIn ?_; intro gR w1 hg hl ha hb; have HGR : Hid (w.heap.size ≤ gR) := Lib.hid hg; replace HB := keepB HB hb; have HR := Lib.hid ha; clear ha hb hg hl)
  go_upto_region 2 with (go_at_call 36; refine (cut_any s m _ hs (maxM HM HB)).mono ?_; rintro e w2 ⟨⟨b, rfl⟩, hb⟩; replace HB := keepB HB hb; replace HR := keepA HR hb; rw [HN.out, HRS.out]; clear hb)
  go_upto_region 3 with (first | (go_at_call 64; refine (op_any NM _ (tab_below HTB.out HB.out.1)).mono ?_; rw [HOP.out]; rintro e w3 ⟨rfl, hb⟩; replace HB := keepB HB hb; replace HR := keepA HR hb; clear hb) | (refine wlBuild rfl 30 #[(0, _)] rfl (.agg (insA 0 0 0 0 0)) (by kernel_rfl) ?_) | (refine wlAlloc (by rfl) 30 rfl (insA 0 0 0 0 0) zeroIn ?_; intro gI w4 hg hl ha hb; have HGI : Hid (w.heap.size ≤ gI) := Lib.hid (Nat.le_trans HB.out.2 hg); replace HB := keepB HB hb; have HRI : Hid (gR ≠ gI) := Lib.hid (Nat.ne_of_lt (Nat.lt_of_lt_of_le (Array.getElem?_eq_some_iff.1 HR.out).1 hg)); replace HR := keepA HR hb; have HI := Lib.hid ha; clear ha hb hg hl) | (refine rowStore (by rfl) 30 _ _ rfl gI rfl (insA 0 0 0 0 0) rfl HI.out infoIn rfl (insA_one _ _ _ _ _) ?_; intro w5 ha ho; replace HI := Lib.hid ha; replace HR := keepAo HR HRI.out ho; replace HB := keepBo HB HGI.out ho; have i0 : w5.cell? ⟨gI, 0, none⟩ = some (.int .i64 0) := cellA HI 0; clear ha ho))
  go_wp2_with (first | (refine wlBuild rfl 30 #[] rfl (.agg (insA 0 0 0 0 0)) (by kernel_rfl) ?_) | (refine rowStore (by rfl) 30 _ _ rfl gR rfl (insA 0 0 0 0 0) rfl HR.out infoIn rfl (insA_one _ _ _ _ _) ?_; intro w8 ha ho; replace HR := Lib.hid ha; replace HB := keepBo HB HGR.out ho; clear ha ho))
  exact bodyPost_ret (res1c rfl _ _ gR 30 (insA 0 0 0 0 0) (0, 0) _ rfl HR.out Tryd.underlying30 rfl infoIn) rfl ⟨rfl, HB.out.1⟩
theorem insQ_info (op : Int) (q : Q4) : (Tryd.prog.info? 30).map (·.size) = some (insQ op q).size := infoIn
theorem insQ_sz (a b c d e op : Int) (q : Q4) : (insA a b c d e).size = (insQ op q).size := rfl
theorem insQ_one (op : Int) (q : Q4) : (insQ op q).all (·.oneCell') = true := insA_one _ _ _ _ _
theorem slot_lt (op : Int) (q : Q4) (c : Int) : slotV c < (insQ op q).size := by
  show slotV c < 5
  unfold slotV
  repeat' split
  all_goals omega
theorem pr_none {R : Option Q4} {Z E : PR} {f : Q4 → PR} (h : (match R with | none => E | some q => f q) = Z) (hR : none = R) : E = Z := by subst hR; exact h
theorem pr_some {R : Option Q4} {Z E : PR} {f : Q4 → PR} (h : (match R with | none => E | some q => f q) = Z) {q : Q4} (hR : some q = R) : f q = Z := by subst hR; exact h
theorem goP_step {c : UInt8} {fl d : List UInt8} {l : List (List UInt8)} {q : Q4} {R : Option Q4} {n e : Int} (h : goP (c :: fl) (d :: l) q = R) (hp : parseV (bs (bareV c d)) = (n, e)) : (e = 0 → goP fl l (q.put (c.toNat : Int) n) = R) ∧ (¬ e = 0 → none = R) := by
  rw [goP, hp] at h
  refine ⟨fun h0 => ?_, fun h0 => ?_⟩
  · rwa [if_pos h0] at h
  · rwa [if_neg h0] at h
theorem goP_stop {c : UInt8} {fl : List UInt8} {q : Q4} {R : Option Q4} (h : goP (c :: fl) [] q = R) : none = R := h
theorem goP_end {l : List (List UInt8)} {q : Q4} {R : Option Q4} (h : goP [] l q = R) : some q = R := h
set_option maxRecDepth 100000 in
set_option maxHeartbeats 8000000 in
theorem tparse_some (s : List UInt8) (m : Int) (w : World) (hs : s.length ≤ 100000) (ht : Lib.TabIs Tryd.prog w "strings.asciiSpace" .u8 Lib.asciiSpaceTab) (hf : FieldsAt w) (hm : w.cell? ⟨3, 0, none⟩ = some (.int .i64 m)) (h0 : ¬ opV (headV s) = 0) :
    Calls Tryd.prog 66 #[.string (bs s)] w fun e w' => e = .returned (.tuple #[.agg (insQ (parP s).op (parP s).q), .int .i64 (parP s).e]) ∧ Below w.heap.size w w' := by
  have HB := startB w
  have HTB := Lib.hid ht
  have HFT := Lib.hid hf
  have HM := Lib.hid hm
  have hrl := rest_le s
  have hpl := piece_le (restV s)
  obtain ⟨Z, hZ⟩ : ∃ x, parP s = x := ⟨_, rfl⟩
  rw [hZ]
  unfold parP at hZ
  rw [if_neg h0] at hZ
  obtain ⟨NM, hN⟩ : ∃ x, headV s = x := ⟨_, rfl⟩
  obtain ⟨RS, hRS⟩ : ∃ x, restV s = x := ⟨_, rfl⟩
  have HN := Lib.hid hN
  have HRS := Lib.hid hRS
  rw [hN] at h0 hZ
  rw [hRS] at hrl hpl hZ
  have HRL : Hid (RS.length ≤ 1000000) := Lib.hid (by omega)
  obtain ⟨OP, hOP⟩ : ∃ x : Int, ((opV NM : Nat) : Int) = x := ⟨_, rfl⟩
  have q1 : (OP == 0) = false := beq_eq_false_iff_ne.2 (by omega)
  have HOP := Lib.hid hOP
  rw [hOP] at hZ
  obtain ⟨fl, hfl⟩ : ∃ fl, fieldsV (formV OP) = fl := ⟨_, rfl⟩
  have hok := fields_ok (formV OP)
  rw [hfl] at hok hZ
  obtain ⟨hok1, hok2⟩ := hok
  have HFL := Lib.hid hfl
  have HOK := Lib.hid hok1
  obtain ⟨L, hL⟩ : ∃ x, splitV RS = x := ⟨_, rfl⟩
  rw [hL] at hZ hpl
  have HLS := Lib.hid hL
  have HPL : Hid (∀ x ∈ L, x.length ≤ 100000) := Lib.hid (fun x hx => by have := hpl x hx; omega)
  have hLl : L.length ≤ 1000000 := by
    have h1 := split_len RS
    have h2 := Lib.countB_le ⟨#[44, 32]⟩ (by decide) _ (bs RS) (Nat.le_refl _)
    rw [bs_size] at h2
    rw [hL] at h1
    omega
  obtain ⟨R, hR⟩ : ∃ x, goP fl L q0 = x := ⟨_, rfl⟩
  rw [hR] at hZ
  have HRR : Hid (goP (fl.drop 0) (L.drop 0) q0 = R) := Lib.hid hR
  have HZ := Lib.hid hZ
  have hs2 : s.length ≤ 1000000 := by omega
  have hsB := hs
  replace hs := hs2
  clear ht hf hm hrl hpl hZ hN hRS hOP hfl hok1 hL hR hs2 h0
  go_enter Tryd.func66, Tryd.ntmps66
  go_upto_region 1 with (refine wlAlloc (by rfl) 30 rfl (insA 0 0 0 0 0) zeroIn ?_; intro gR w1 hg hl ha hb; have HGR : Hid (w.heap.size ≤ gR) := Lib.hid hg; replace HB := keepB HB hb; have HR := Lib.hid ha; clear ha hb hg hl)
  go_upto_region 2 with (go_at_call 36; refine (cut_any s m _ hs (maxM HM HB)).mono ?_; rintro e w2 ⟨⟨b, rfl⟩, hb⟩; replace HB := keepB HB hb; replace HR := keepA HR hb; rw [HN.out, HRS.out]; clear hb)
  go_upto_region 3 with (first | (go_at_call 64; refine (op_any NM _ (tab_below HTB.out HB.out.1)).mono ?_; rw [HOP.out]; rintro e w3 ⟨rfl, hb⟩; replace HB := keepB HB hb; replace HR := keepA HR hb; clear hb) | (refine wlBuild rfl 30 #[(0, _)] rfl (.agg (insA OP 0 0 0 0)) (by kernel_rfl) ?_) | (refine wlAlloc (by rfl) 30 rfl (insA 0 0 0 0 0) zeroIn ?_; intro gI w4 hg hl ha hb; have HGI : Hid (w.heap.size ≤ gI) := Lib.hid (Nat.le_trans HB.out.2 hg); replace HB := keepB HB hb; have HRI : Hid (gR ≠ gI) := Lib.hid (Nat.ne_of_lt (Nat.lt_of_lt_of_le (Array.getElem?_eq_some_iff.1 HR.out).1 hg)); replace HR := keepA HR hb; have HI := Lib.hid ha; clear ha hb hg hl) | (refine rowStore (by rfl) 30 _ _ rfl gI rfl (insA OP 0 0 0 0) rfl HI.out infoIn rfl (insA_one _ _ _ _ _) ?_; intro w5 ha ho; replace HI := Lib.hid ha; replace HR := keepAo HR HRI.out ho; replace HB := keepBo HB HGI.out ho; have i0 : w5.cell? ⟨gI, 0, none⟩ = some (.int .i64 OP) := cellA HI 0; clear ha ho))
  go_upto_region 5 with fail
  go_wp2_with (first | (go_at_call 76; refine (split_any RS m _ HRL.out (maxM HM HB)).mono ?_; rw [HLS.out]; rintro e w6 ⟨gL, rfl, hg, ha, hb⟩; have HL := Lib.hid ha; replace HB := keepB HB hb; replace HR := keepA HR hb; have HIL : Hid (gI ≠ gL) := Lib.hid (Nat.ne_of_lt (Nat.lt_of_lt_of_le (Array.getElem?_eq_some_iff.1 HI.out).1 hg)); replace HI := keepA HI hb; have i0 : w6.cell? ⟨gI, 0, none⟩ = some (.int .i64 OP) := cellA HI 0; clear ha hb hg) | (go_at_call 20; refine (form_any OP _).mono ?_; rintro e w7 ⟨rfl, rfl⟩) | (go_at_call 19; refine (fields_any (formV OP) _).mono ?_; rw [HFL.out]; rintro e w8 ⟨rfl, rfl⟩))
  have HIT0 : Hid ((w6.iter (bs fl) 0).heap[w6.heap.size]? = some (.stringIter (bs fl) 0)) := World.iter_heap w6 (bs fl) 0
  have HWB0 : Hid (w.heap.size ≤ w6.heap.size) := Lib.hid HB.out.2
  have HGB0 : Hid (gI < w6.heap.size) := Lib.hid (Array.getElem?_eq_some_iff.1 HI.out).1
  have HLB0 : Hid (gL < w6.heap.size) := Lib.hid (Array.getElem?_eq_some_iff.1 HL.out).1
  have HRB0 : Hid (gR < w6.heap.size) := Lib.hid (Array.getElem?_eq_some_iff.1 HR.out).1
  have hbI : Below w6.heap.size w6 (w6.iter (bs fl) 0) := (Below.refl _ _).alloc (Nat.le_refl _) _
  replace HI := keepA HI hbI
  replace HL := keepA HL hbI
  replace HR := keepA HR hbI
  replace HB := keepBa HB (.stringIter (bs fl) 0)
  obtain ⟨IB, hIB⟩ : ∃ IB, w6.heap.size = IB := ⟨_, rfl⟩
  rw [hIB] at HIT0 HWB0 HGB0 HLB0 HRB0
  have HWB : Hid (w.heap.size ≤ IB) := HWB0
  have HGB : Hid (gI ≠ IB) := Lib.hid (Nat.ne_of_lt HGB0.out)
  have HLB : Hid (gL ≠ IB) := Lib.hid (Nat.ne_of_lt HLB0.out)
  have HRB : Hid (gR ≠ IB) := Lib.hid (Nat.ne_of_lt HRB0.out)
  rw [hIB]
  clear hbI hIB i0
  go_loopg [] (fl.length) (fun g wr => ∃ (k : Nat) (q : Q4), g + k = fl.length ∧ q.ok ∧ Hid (goP (fl.drop k) (L.drop k) q = R) ∧ Hid (wr.heap[IB]? = some (.stringIter (bs fl) k)) ∧ Hid (wr.heap[gI]? = some (.cells (insQ OP q) 30 (0, 0))) ∧ Hid (wr.heap[gL]? = some (.cells (L.map fun l => Value.string (bs l)).toArray 9 (0, 0))) ∧ Hid (wr.heap[gR]? = some (.cells (insA 0 0 0 0 0) 30 (0, 0))) ∧ Hid (Below w.heap.size w wr ∧ w.heap.size ≤ wr.heap.size))
  case atStart => exact ⟨0, q0, by omega, zero_ok, HRR, HIT0, HI, HL, HR, HB⟩
  case round =>
    clear HRR HIT0 HI HL HR HB
    obtain ⟨k, q, hk, hq, HG, HIT, HI, HL, HR, HB⟩ := hrel
    by_cases hlt : k < fl.length
    · obtain ⟨x, hx⟩ : ∃ x, fl[k]? = some x := ⟨_, List.getElem?_eq_getElem hlt⟩
      have HX := Lib.hid hx
      have hx4 := HOK.out x (List.mem_of_getElem? hx)
      have hxl : x.toNat < 128 := by rcases hx4 with h | h | h | h <;> rw [h] <;> decide
      have hgo := HG.out
      rw [dropP hx] at hgo
      have HK := Lib.hid hk
      clear hx hx4 HG hk
      by_cases hkl : k < L.length
      · obtain ⟨d, hd⟩ : ∃ d, L[k]? = some d := ⟨_, List.getElem?_eq_getElem hkl⟩
        have HD := Lib.hid hd
        have hdl := HPL.out d (List.mem_of_getElem? hd)
        rw [dropP hd] at hgo
        obtain ⟨BV, hBV⟩ : ∃ b, bareV x d = b := ⟨_, rfl⟩
        have hBl : (bs BV).size ≤ 9223372036854775807 := by
          rw [bs_size, ← hBV]
          unfold bareV
          have := trim_le d
          split <;> omega
        obtain ⟨⟨n, e⟩, hP⟩ : ∃ p, parseV (bs BV) = p := ⟨_, rfl⟩
        have hst := goP_step (n := n) (e := e) hgo (by rw [hBV]; exact hP)
        have hn := parse_range (bs BV)
        rw [hP] at hn
        obtain ⟨hn1, hn2⟩ := hn
        have HPV := Lib.hid hP
        have t1 : decide (L.length ≤ k) = false := decide_eq_false (by omega)
        have hkl2 : (k : Int) < (L.length : Int) := by omega
        clear hgo hP hd hdl
        by_cases hc : x = 105
        · have q2 : ((x.toNat : Int) != 105) = false := by rw [hc]; rfl
          have hBV2 : d = BV := by rw [← hBV]; unfold bareV; rw [if_pos hc]
          subst hBV2
          clear hBV hc
          by_cases he : e = 0
          · have HG2 := Lib.hid (hst.1 he)
            subst he
            clear hst
            go_wp2_with (first | (refine iterLow (by rfl) _ rfl IB rfl HIT.out (by rw [bs_size]; exact hlt) (bAt_getP HX.out) (by omega) ?_; intro w3 hi ho; replace HIT := Lib.hid hi; replace HI := keepAo HI HGB.out ho; replace HL := keepAo HL HLB.out ho; replace HR := keepAo HR HRB.out ho; replace HB := keepBo HB HWB.out ho; have c0 : w3.cell? ⟨gL, k, none⟩ = some (.string (bs d)) := str_cell HL HD.out; clear hi ho) | (go_at_call 73; refine (parse_any (bs d) _ hBl).mono ?_; simp only [HPV.out]; rintro e w6 ⟨rfl, hb⟩; replace HB := keepB HB hb; replace HR := keepA HR hb; replace HI := keepA HI hb; replace HL := keepA HL hb; replace HIT := keepA HIT hb; clear hb) | (go_at_call 21; refine (field_any gI _ _).mono ?_; rintro e w7 ⟨rfl, rfl⟩) | (refine cellStore rfl 3 _ _ rfl gI (slotV (x.toNat : Int)) rfl (.int .i64 n) rfl rfl rfl HI.out (slot_lt _ _ _) infoIn1 ?_; intro w8 ha ho; rw [ins_put] at ha; replace HI := Lib.hid ha; replace HR := keepAo HR HRI.out ho; replace HL := keepAo HL (Ne.symm HIL.out) ho; replace HIT := keepAo HIT (Ne.symm HGB.out) ho; replace HB := keepBo HB HGI.out ho; clear ha ho))
            have hk := HK.out
            go_roundg (gk - 1)
            case measure => omega
            case rel => exact ⟨k + 1, q.put (x.toNat : Int) n, by omega, put_ok hq hn1 hn2 _, HG2, HIT, HI, HL, HR, HB⟩
          · have q3 : (e != 0) = true := bne_iff_ne.2 he
            have hz := pr_none HZ.out (hst.2 he)
            clear hst he HZ
            subst hz
            go_wp2_with (first | (refine iterLow (by rfl) _ rfl IB rfl HIT.out (by rw [bs_size]; exact hlt) (bAt_getP HX.out) (by omega) ?_; intro w3 hi ho; replace HIT := Lib.hid hi; replace HI := keepAo HI HGB.out ho; replace HL := keepAo HL HLB.out ho; replace HR := keepAo HR HRB.out ho; replace HB := keepBo HB HWB.out ho; have c0 : w3.cell? ⟨gL, k, none⟩ = some (.string (bs d)) := str_cell HL HD.out; clear hi ho) | (go_at_call 73; refine (parse_any (bs d) _ hBl).mono ?_; simp only [HPV.out]; rintro e w6 ⟨rfl, hb⟩; replace HB := keepB HB hb; replace HR := keepA HR hb; replace HI := keepA HI hb; replace HL := keepA HL hb; replace HIT := keepA HIT hb; clear hb) | (refine wlBuild rfl 30 #[] rfl (.agg (insA 0 0 0 0 0)) (by kernel_rfl) ?_) | (refine rowStore (by rfl) 30 _ _ rfl gR rfl (insA 0 0 0 0 0) rfl HR.out infoIn rfl (insA_one _ _ _ _ _) ?_; intro w8 ha ho; replace HR := Lib.hid ha; replace HB := keepBo HB HGR.out ho; clear ha ho))
            exact bodyPost_ret (res1c rfl _ _ gR 30 (insQ 0 q0) (0, 0) _ rfl HR.out Tryd.underlying30 rfl infoIn) rfl ⟨rfl, HB.out.1⟩
        · have q2 : ((x.toNat : Int) != 105) = true := bne_iff_ne.2 (fun r => hc (UInt8.toNat_inj.1 (show x.toNat = 105 by omega)))
          have HBV : Hid (trimR d = BV) := Lib.hid (by rw [← hBV]; unfold bareV; rw [if_neg hc])
          clear hBV hc
          by_cases he : e = 0
          · have HG2 := Lib.hid (hst.1 he)
            subst he
            clear hst
            go_wp2_with (first | (refine iterLow (by rfl) _ rfl IB rfl HIT.out (by rw [bs_size]; exact hlt) (bAt_getP HX.out) (by omega) ?_; intro w3 hi ho; replace HIT := Lib.hid hi; replace HI := keepAo HI HGB.out ho; replace HL := keepAo HL HLB.out ho; replace HR := keepAo HR HRB.out ho; replace HB := keepBo HB HWB.out ho; have c0 : w3.cell? ⟨gL, k, none⟩ = some (.string (bs d)) := str_cell HL HD.out; clear hi ho) | (go_at_call 77; refine (trim_any d _).mono ?_; rw [HBV.out]; rintro e w5 ⟨rfl, rfl⟩) | (go_at_call 73; refine (parse_any (bs BV) _ hBl).mono ?_; simp only [HPV.out]; rintro e w6 ⟨rfl, hb⟩; replace HB := keepB HB hb; replace HR := keepA HR hb; replace HI := keepA HI hb; replace HL := keepA HL hb; replace HIT := keepA HIT hb; clear hb) | (go_at_call 21; refine (field_any gI _ _).mono ?_; rintro e w7 ⟨rfl, rfl⟩) | (refine cellStore rfl 3 _ _ rfl gI (slotV (x.toNat : Int)) rfl (.int .i64 n) rfl rfl rfl HI.out (slot_lt _ _ _) infoIn1 ?_; intro w8 ha ho; rw [ins_put] at ha; replace HI := Lib.hid ha; replace HR := keepAo HR HRI.out ho; replace HL := keepAo HL (Ne.symm HIL.out) ho; replace HIT := keepAo HIT (Ne.symm HGB.out) ho; replace HB := keepBo HB HGI.out ho; clear ha ho))
            have hk := HK.out
            go_roundg (gk - 1)
            case measure => omega
            case rel => exact ⟨k + 1, q.put (x.toNat : Int) n, by omega, put_ok hq hn1 hn2 _, HG2, HIT, HI, HL, HR, HB⟩
          · have q3 : (e != 0) = true := bne_iff_ne.2 he
            have hz := pr_none HZ.out (hst.2 he)
            clear hst he HZ
            subst hz
            go_wp2_with (first | (refine iterLow (by rfl) _ rfl IB rfl HIT.out (by rw [bs_size]; exact hlt) (bAt_getP HX.out) (by omega) ?_; intro w3 hi ho; replace HIT := Lib.hid hi; replace HI := keepAo HI HGB.out ho; replace HL := keepAo HL HLB.out ho; replace HR := keepAo HR HRB.out ho; replace HB := keepBo HB HWB.out ho; have c0 : w3.cell? ⟨gL, k, none⟩ = some (.string (bs d)) := str_cell HL HD.out; clear hi ho) | (go_at_call 77; refine (trim_any d _).mono ?_; rw [HBV.out]; rintro e w5 ⟨rfl, rfl⟩) | (go_at_call 73; refine (parse_any (bs BV) _ hBl).mono ?_; simp only [HPV.out]; rintro e w6 ⟨rfl, hb⟩; replace HB := keepB HB hb; replace HR := keepA HR hb; replace HI := keepA HI hb; replace HL := keepA HL hb; replace HIT := keepA HIT hb; clear hb) | (refine wlBuild rfl 30 #[] rfl (.agg (insA 0 0 0 0 0)) (by kernel_rfl) ?_) | (refine rowStore (by rfl) 30 _ _ rfl gR rfl (insA 0 0 0 0 0) rfl HR.out infoIn rfl (insA_one _ _ _ _ _) ?_; intro w8 ha ho; replace HR := Lib.hid ha; replace HB := keepBo HB HGR.out ho; clear ha ho))
            exact bodyPost_ret (res1c rfl _ _ gR 30 (insQ 0 q0) (0, 0) _ rfl HR.out Tryd.underlying30 rfl infoIn) rfl ⟨rfl, HB.out.1⟩
      · rw [List.drop_eq_nil_of_le (show L.length ≤ k by omega)] at hgo
        have hz := pr_none HZ.out (goP_stop hgo)
        have t1 : decide (L.length ≤ k) = true := decide_eq_true (by omega)
        clear hgo HZ hkl
        subst hz
        go_wp2_with (first | (refine iterLow (by rfl) _ rfl IB rfl HIT.out (by rw [bs_size]; exact hlt) (bAt_getP HX.out) (by omega) ?_; intro w3 hi ho; replace HIT := Lib.hid hi; replace HI := keepAo HI HGB.out ho; replace HL := keepAo HL HLB.out ho; replace HR := keepAo HR HRB.out ho; replace HB := keepBo HB HWB.out ho; clear hi ho) | (refine wlBuild rfl 30 #[] rfl (.agg (insA 0 0 0 0 0)) (by kernel_rfl) ?_) | (refine rowStore (by rfl) 30 _ _ rfl gR rfl (insA 0 0 0 0 0) rfl HR.out infoIn rfl (insA_one _ _ _ _ _) ?_; intro w8 ha ho; replace HR := Lib.hid ha; replace HB := keepBo HB HGR.out ho; clear ha ho))
        exact bodyPost_ret (res1c rfl _ _ gR 30 (insQ 0 q0) (0, 0) _ rfl HR.out Tryd.underlying30 rfl infoIn) rfl ⟨rfl, HB.out.1⟩
    · obtain rfl : k = fl.length := by omega
      have hgo := HG.out
      rw [List.drop_eq_nil_of_le (Nat.le_refl _)] at hgo
      have hz := pr_some HZ.out (goP_end hgo)
      have HGN : Hid (gI < wr.heap.size) := Lib.hid (Array.getElem?_eq_some_iff.1 HI.out).1
      obtain ⟨PQ, hPQ⟩ : ∃ x, printQ OP q = x := ⟨_, rfl⟩
      have HPQ := Lib.hid hPQ
      unfold doneV at hz
      rw [hPQ] at hz
      clear hgo HG HZ hk hPQ
      by_cases hps : PQ = s
      · rw [if_pos hps] at hz
        subst hz
        have q3 : ((bs PQ).toList == (bs s).toList) = true := by rw [hps]; simp
        clear hps
        go_wp2_with (first | (refine iterEnd (by rfl) _ rfl IB rfl HIT.out (by rw [bs_size]; omega) ?_) | (refine rowLoad (by rfl) 30 _ rfl gI rfl (cs := insQ OP q) HI.out Tryd.underlying30 rfl infoIn ?_) | (go_at_call 8; refine (printq_any OP q _ hq (tab_below HTB.out HB.out.1) (HFT.out.below HB.out.1)).mono ?_; rw [HPQ.out]; rintro e w9 ⟨rfl, hb⟩; replace HB := keepB HB hb; replace HR := keepA HR hb; replace HI := keepA HI hb; clear hb) | (refine rowStore (by rfl) 30 _ _ rfl gR rfl (insQ OP q) rfl HR.out (insQ_info OP q) (insQ_sz 0 0 0 0 0 OP q) (insQ_one OP q) ?_; intro w8 ha ho; replace HR := Lib.hid ha; replace HB := keepBo HB HGR.out ho; clear ha ho))
        exact bodyPost_ret (res1c rfl _ _ gR 30 (insQ OP q) (0, 0) _ rfl HR.out Tryd.underlying30 rfl infoIn) rfl ⟨rfl, HB.out.1⟩
      · rw [if_neg hps] at hz
        subst hz
        have q3 : ((bs PQ).toList == (bs s).toList) = false := toL_ne hps
        clear hps
        go_wp2_with (first | (refine iterEnd (by rfl) _ rfl IB rfl HIT.out (by rw [bs_size]; omega) ?_) | (refine rowLoad (by rfl) 30 _ rfl gI rfl (cs := insQ OP q) HI.out Tryd.underlying30 rfl infoIn ?_) | (go_at_call 8; refine (printq_any OP q _ hq (tab_below HTB.out HB.out.1) (HFT.out.below HB.out.1)).mono ?_; rw [HPQ.out]; rintro e w9 ⟨rfl, hb⟩; replace HB := keepB HB hb; replace HR := keepA HR hb; replace HI := keepA HI hb; clear hb) | (refine wlBuild rfl 30 #[] rfl (.agg (insA 0 0 0 0 0)) (by kernel_rfl) ?_) | (refine rowStore (by rfl) 30 _ _ rfl gR rfl (insA 0 0 0 0 0) rfl HR.out infoIn rfl (insA_one _ _ _ _ _) ?_; intro w8 ha ho; replace HR := Lib.hid ha; replace HB := keepBo HB HGR.out ho; clear ha ho))
        exact bodyPost_ret (res1c rfl _ _ gR 30 (insQ 0 q0) (0, 0) _ rfl HR.out Tryd.underlying30 rfl infoIn) rfl ⟨rfl, HB.out.1⟩
theorem tparse_any (s : List UInt8) (m : Int) (w : World) (hs : s.length ≤ 100000) (ht : Lib.TabIs Tryd.prog w "strings.asciiSpace" .u8 Lib.asciiSpaceTab) (hf : FieldsAt w) (hm : w.cell? ⟨3, 0, none⟩ = some (.int .i64 m)) :
    Calls Tryd.prog 66 #[.string (bs s)] w fun e w' => e = .returned (.tuple #[.agg (insQ (parP s).op (parP s).q), .int .i64 (parP s).e]) ∧ Below w.heap.size w w' := by
  by_cases h0 : opV (headV s) = 0
  · have e : parP s = ⟨0, q0, 9⟩ := by unfold parP; rw [if_pos h0]
    rw [e]
    exact tparse_none s m w hs ht hm h0
  · exact tparse_some s m w hs ht hf hm h0
end Go.Proofs.YtaclidjhgpkmpaaDoor.My

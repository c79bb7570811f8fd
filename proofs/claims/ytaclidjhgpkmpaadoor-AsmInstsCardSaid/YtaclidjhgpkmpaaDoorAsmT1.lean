/- Walk: a line is gone through again. A whole program: plain; what its first going keeps. Words: what is made in a region that draws its order; a new program; what a program's making gives. Walk: a program. Plain: the segments of what was laid. Plain: the lines of a text made of lines; the words of a line made of words. Plain: the chapter's examples. Walk: the chapter's examples. The facts with which every law of the chapter begins: out of what the row lists. -/
import Derived.Test.YtaclidjhgpkmpaaDoorAsmT0
import Derived.Test.YtaclidjhgpkmpaaDoorAsmImageG
import Derived.Test.YtaclidjhgpkmpaaDoorAsmFirst
import Derived.Test.YtaclidjhgpkmpaaDoorAsmLns2
import Derived.Test.YtaclidjhgpkmpaaDoorDoorWords
import Derived.LaidSub
import Derived.Lib.LaidTab
set_option linter.unusedVariables false
set_option linter.unusedSimpArgs false
namespace Go.Proofs.YtaclidjhgpkmpaaDoor.My
open Go.RowKit
def wWord : List UInt8 := [46, 119, 111, 114, 100]
def wByte : List UInt8 := [46, 98, 121, 116, 101]
/-- A line again: a code, and the data then. -/
def secondV (p : Prg) (ws : List (List UInt8)) (i : Nat) (d : List UInt8) : Nat × List UInt8 :=
  match ws with
  | [] => (0, d)
  | x :: f => if x = wWord then valuesR p 4 i f 0 d else if x = wByte then valuesR p 1 i f 0 d else if x.head? = some 46 then (0, d) else instrV p x f i d
/-- A row's place and its length are kept. -/
def RowOk (p : Prg) (ws : List (List UInt8)) (i : Nat) : Prop :=
  match ws with
  | [] => True
  | x :: f => x ≠ [] ∧ (x = wWord → i + f.length * 4 ≤ 16384) ∧ (x = wByte → i + f.length * 1 ≤ 16384) ∧ (x.head? ≠ some 46 → i + 4 ≤ 16384) ∧ f.length + 1 ≤ 90000 ∧ (∀ y ∈ f, y.length ≤ 1000000) ∧
    (lineT x (lastF p ((opV x : Nat) : Int) f i).2).length ≤ 100000 ∧ (lastF p ((opV x : Nat) : Int) f i).2.length ≤ 100000
theorem infoRoS : (Tryd.prog.info? 71).map (·.size) = some 2 := by kernel_rfl
theorem DataTo.after {w w1 w' : World} {B : Nat} {s : PS} {p : Prg} {rs : List RowM} {d : List UInt8} (h : DataTo w1 w' B s p rs d) (hb : Below w.heap.size w w1) : DataTo w w' B s p rs d :=
  ⟨h.pa, (Turn.of_below (ms := [s.gD]) hb).trans h.tu (fun k hk => .inl hk)⟩
set_option maxRecDepth 100000 in
set_option maxHeartbeats 8000000 in
theorem second_any {g : Nat} (B : Nat) (s : PS) (p : Prg) (rs : List RowM) (ws : List (List UInt8)) (A : Option Addr) (c i : Nat) (m : Int) (w : World) (hg : s.gP = g) (hp : PrgAt w B s p rs) (hr : RdW w A ws) (ho : Out A ws.length s.ms) (hc : ws.length ≤ c) (hok : RowOk p ws i) (hvs : ∀ q ∈ p.vals, q.2 < 4294967296) (hst : St m w) :
    Calls Tryd.prog 26 #[.pointer (some ⟨g, 0, none⟩), .agg #[.slice A ws.length c, .int .u32 (i : Nat)]] w fun e w' => e = .returned (.int .i64 ((secondV p ws i p.data).1 : Nat)) ∧ DataTo w w' B s p rs (secondV p ws i p.data).2 := by
  obtain ⟨R, hR⟩ : ∃ R, secondV p ws i p.data = R := ⟨_, rfl⟩
  rw [hR]
  unfold secondV at hR
  have HG := Lib.hid hg
  have HP := Lib.hid hp
  have HB := startB w
  have HS := Lib.hid hst
  have HRD := Lib.hid hr
  have HO := Lib.hid ho
  have HVS := Lib.hid hvs
  cases ws with
  | nil =>
    have HR := Lib.hid hR
    clear hR hg hp hst hr hvs ho hok
    rw [show ([] : List (List UInt8)).length = 0 from rfl] at hc ⊢
    go_enter Tryd.func26, Tryd.ntmps26
    go_upto_region 1 with (refine wlBox (by rfl) 71 _ rfl #[.slice A 0 c, .int .u32 (i : Nat)] rfl ?_; intro gB w1 hg hl ha hb; replace HP := keepP HP hb; replace HB := keepB HB hb; replace HS := keepS HS hb; replace HRD := Lib.hid (HRD.out.below hb); have HX := Lib.hid ha; clear ha hb hg hl)
    have b0 := (show World.cell? _ ⟨gB, 0, none⟩ = some (.slice A 0 c) from cell_of_row _ gB 0 _ _ _ HX.out)
    go_wp2
    go_ret
    rw [← HR.out]
    exact ⟨rfl, HP.out, Turn.of_below HB.out.1⟩
  | cons x f =>
    obtain ⟨hx, hwd, hby, hin, hl, hwl, htx, htl⟩ := hok
    obtain ⟨b, off, rfl, -⟩ := hr (by simp)
    obtain ⟨n, hn⟩ : ∃ n, (x :: f).length = n := ⟨_, rfl⟩
    rw [hn] at hc ho ⊢
    have hn1 : n = f.length + 1 := by rw [← hn]; rfl
    have hn0 : 0 < n := by omega
    have hnz : ¬ n = 0 := by omega
    have hnb : ((n : Int) == 0) = false := beq_eq_false_iff_ne.2 (by omega)
    obtain ⟨x0, xt, hxe⟩ : ∃ a l, x = a :: l := by
      cases x with
      | nil => exact absurd rfl hx
      | cons a l => exact ⟨a, l, rfl⟩
    have hh : x.head? = some x0 := by rw [hxe]; rfl
    have hc0 : bAt (bs x) 0 = x0.toNat := by rw [hxe]; rfl
    have hsz : 0 < (bs x).size := by rw [bs_size, hxe]; simp
    have HN1 := Lib.hid hn1
    have HO2 := Lib.hid ho
    have HL1 := Lib.hid (And.intro hl (And.intro hwl (And.intro htx htl)))
    simp only at hR
    rw [hh] at hR hin
    have HWD := Lib.hid hwd
    have HBY := Lib.hid hby
    have HIN := Lib.hid hin
    clear hg hp hst hr hvs ho hx hwd hby hin hl hwl htx htl hn hxe HO hn1 hh
    by_cases h1 : x = wWord
    · rw [if_pos h1] at hR
      have q1 : ((bs x).toList == [46, 119, 111, 114, 100]) = true := by rw [toL, h1]; rfl
      have HR := Lib.hid hR
      have HW := Lib.hid (HWD.out h1)
      clear hR h1
      go_enter Tryd.func26, Tryd.ntmps26
      go_upto_region 1 with (refine wlBox (by rfl) 71 _ rfl #[.slice (some ⟨b, off, none⟩) n c, .int .u32 (i : Nat)] rfl ?_; intro gB w1 hg hl ha hb; replace HP := keepP HP hb; replace HB := keepB HB hb; replace HS := keepS HS hb; replace HRD := Lib.hid (HRD.out.below hb); have HX := Lib.hid ha; clear ha hb hg hl)
      have b0 := (show World.cell? _ ⟨gB, 0, none⟩ = some (.slice (some ⟨b, off, none⟩) n c) from cell_of_row _ gB 0 _ _ _ HX.out)
      have k0 := (show World.cell? _ ⟨b, off, none⟩ = some (.string (bs x)) from rdw_at (k := 0) HRD.out rfl)
      go_wp2_with (first | (refine rowLoad (by rfl) 71 _ rfl gB rfl (cs := #[.slice (some ⟨b, off, none⟩) n c, .int .u32 (i : Nat)]) HX.out Tryd.underlying71 rfl infoRoS ?_) | (go_at_call 43; refine (values_any B s p rs x f (some ⟨b, off, none⟩) n c i 4 _ HG.out HP.out HRD.out HO2.out HN1.out hc (by have := HL1.out.1; have := HN1.out; omega) HL1.out.2.1 (.inr rfl) HW.out HVS.out).mono ?_; rw [HR.out]; intro e wz hq; have HQ := Lib.hid hq; obtain ⟨rfl, -⟩ := hq))
      go_ret
      exact ⟨rfl, HQ.out.2.after HB.out.1⟩
    rw [if_neg h1] at hR
    have q1 : ((bs x).toList == [46, 119, 111, 114, 100]) = false := by rw [toL]; exact beq_eq_false_iff_ne.2 h1
    by_cases h2 : x = wByte
    · rw [if_pos h2] at hR
      have q2 : ((bs x).toList == [46, 98, 121, 116, 101]) = true := by rw [toL, h2]; rfl
      have HR := Lib.hid hR
      have HW := Lib.hid (HBY.out h2)
      clear hR h1 h2
      go_enter Tryd.func26, Tryd.ntmps26
      go_upto_region 1 with (refine wlBox (by rfl) 71 _ rfl #[.slice (some ⟨b, off, none⟩) n c, .int .u32 (i : Nat)] rfl ?_; intro gB w1 hg hl ha hb; replace HP := keepP HP hb; replace HB := keepB HB hb; replace HS := keepS HS hb; replace HRD := Lib.hid (HRD.out.below hb); have HX := Lib.hid ha; clear ha hb hg hl)
      have b0 := (show World.cell? _ ⟨gB, 0, none⟩ = some (.slice (some ⟨b, off, none⟩) n c) from cell_of_row _ gB 0 _ _ _ HX.out)
      have k0 := (show World.cell? _ ⟨b, off, none⟩ = some (.string (bs x)) from rdw_at (k := 0) HRD.out rfl)
      go_wp2_with (first | (refine rowLoad (by rfl) 71 _ rfl gB rfl (cs := #[.slice (some ⟨b, off, none⟩) n c, .int .u32 (i : Nat)]) HX.out Tryd.underlying71 rfl infoRoS ?_) | (go_at_call 43; refine (values_any B s p rs x f (some ⟨b, off, none⟩) n c i 1 _ HG.out HP.out HRD.out HO2.out HN1.out hc (by have := HL1.out.1; have := HN1.out; omega) HL1.out.2.1 (.inl rfl) HW.out HVS.out).mono ?_; rw [HR.out]; intro e wz hq; have HQ := Lib.hid hq; obtain ⟨rfl, -⟩ := hq))
      go_ret
      exact ⟨rfl, HQ.out.2.after HB.out.1⟩
    rw [if_neg h2] at hR
    have q2 : ((bs x).toList == [46, 98, 121, 116, 101]) = false := by rw [toL]; exact beq_eq_false_iff_ne.2 h2
    by_cases h3 : x0 = 46
    · rw [if_pos (by rw [h3])] at hR
      have q3 : ((x0.toNat : Int) == 46) = true := by rw [h3]; rfl
      have HR := Lib.hid hR
      clear hR h1 h2 h3
      go_enter Tryd.func26, Tryd.ntmps26
      go_upto_region 1 with (refine wlBox (by rfl) 71 _ rfl #[.slice (some ⟨b, off, none⟩) n c, .int .u32 (i : Nat)] rfl ?_; intro gB w1 hg hl ha hb; replace HP := keepP HP hb; replace HB := keepB HB hb; replace HS := keepS HS hb; replace HRD := Lib.hid (HRD.out.below hb); have HX := Lib.hid ha; clear ha hb hg hl)
      have b0 := (show World.cell? _ ⟨gB, 0, none⟩ = some (.slice (some ⟨b, off, none⟩) n c) from cell_of_row _ gB 0 _ _ _ HX.out)
      have k0 := (show World.cell? _ ⟨b, off, none⟩ = some (.string (bs x)) from rdw_at (k := 0) HRD.out rfl)
      go_wp2_with (refine strIndex (by rfl) _ _ _ rfl Tryd.underlying9 (bs x) rfl _ _ rfl 0 _ rfl hsz hc0 ?_)
      go_ret
      rw [← HR.out]
      exact ⟨rfl, HP.out, Turn.of_below HB.out.1⟩
    · rw [if_neg (fun q => h3 (by injection q))] at hR
      have q3 : ((x0.toNat : Int) == 46) = false := beq_eq_false_iff_ne.2 (fun r => h3 (UInt8.toNat_inj.1 (show x0.toNat = 46 by omega)))
      have HR := Lib.hid hR
      have HW := Lib.hid (HIN.out (fun q => h3 (by injection q)))
      clear hR h1 h2 h3
      go_enter Tryd.func26, Tryd.ntmps26
      go_upto_region 1 with (refine wlBox (by rfl) 71 _ rfl #[.slice (some ⟨b, off, none⟩) n c, .int .u32 (i : Nat)] rfl ?_; intro gB w1 hg hl ha hb; replace HP := keepP HP hb; replace HB := keepB HB hb; replace HS := keepS HS hb; replace HRD := Lib.hid (HRD.out.below hb); have HX := Lib.hid ha; clear ha hb hg hl)
      have b0 := (show World.cell? _ ⟨gB, 0, none⟩ = some (.slice (some ⟨b, off, none⟩) n c) from cell_of_row _ gB 0 _ _ _ HX.out)
      have k0 := (show World.cell? _ ⟨b, off, none⟩ = some (.string (bs x)) from rdw_at (k := 0) HRD.out rfl)
      go_wp2_with (first | (refine strIndex (by rfl) _ _ _ rfl Tryd.underlying9 (bs x) rfl _ _ rfl 0 _ rfl hsz hc0 ?_) | (refine rowLoad (by rfl) 71 _ rfl gB rfl (cs := #[.slice (some ⟨b, off, none⟩) n c, .int .u32 (i : Nat)]) HX.out Tryd.underlying71 rfl infoRoS ?_) | (go_at_call 44; refine (instr_any B s p rs x f (some ⟨b, off, none⟩) n c i m _ HG.out HP.out HRD.out HN1.out hc (by have := HL1.out.1; have := HN1.out; omega) HL1.out.2.1 HW.out HVS.out HS.out HL1.out.2.2.1 HL1.out.2.2.2).mono ?_; rw [HR.out]; intro e wz hq; have HQ := Lib.hid hq; obtain ⟨rfl, -⟩ := hq))
      go_ret
      exact ⟨rfl, HQ.out.2.after HB.out.1⟩
end Go.Proofs.YtaclidjhgpkmpaaDoor.My
set_option linter.unusedVariables false
set_option linter.unusedSimpArgs false
namespace Go.Proofs.YtaclidjhgpkmpaaDoor.My
open Go.RowKit
/-- What a program comes to. -/
structure AsmV where
  line : Nat
  code : Nat
  im : Nat × List SegV
  names : List (List UInt8 × Nat)
def p00 : Prg := ⟨[], [], [], 0, List.replicate 16384 0, List.replicate 16384 false⟩
def firstA : Prg → List (List UInt8) → Nat → (Nat × Nat) × Prg
  | p, [], _ => ((0, 0), p)
  | p, l :: r, i => if (firstV p l).1 = 0 then firstA (firstV p l).2 r (i + 1) else ((i + 1, (firstV p l).1), p)
def secondA (p : Prg) : List (List (List UInt8) × Nat) → Nat → List UInt8 → (Nat × Nat) × List UInt8
  | [], _, d => ((0, 0), d)
  | r :: t, i, d => if (secondV p r.1 r.2 d).1 = 0 then secondA p t (i + 1) (secondV p r.1 r.2 d).2 else ((i + 1, (secondV p r.1 r.2 d).1), d)
def doneA (p : Prg) (q : (Nat × Nat) × List UInt8) : AsmV := if q.1.2 = 0 then ⟨0, 0, imageV { p with data := q.2 }, p.names⟩ else ⟨q.1.1, q.1.2, (0, []), []⟩
def asmP (q : (Nat × Nat) × Prg) : AsmV := if q.1.2 = 0 then doneA q.2 (secondA q.2 q.2.rows 0 q.2.data) else ⟨q.1.1, q.1.2, (0, []), []⟩
def asmL (ls : List (List UInt8)) : AsmV := asmP (firstA p00 ls 0)
def linesP (s : List UInt8) : List (List UInt8) := (linesV (bs s)).1.map (·.data.toList)
def assembleV (s : List UInt8) : AsmV := if (linesV (bs s)).2 = 0 then asmL (linesP s) else ⟨0, (linesV (bs s)).2.toNat, (0, []), []⟩
/-- How much words' text may be, joined. -/
def tot (ws : List (List UInt8)) : Nat := (ws.map fun x => x.length + 2).sum
theorem tot_cons (x : List UInt8) (r : List (List UInt8)) : tot (x :: r) = x.length + 2 + tot r := by simp [tot]
theorem tot_app (a b : List (List UInt8)) : tot (a ++ b) = tot a + tot b := by simp [tot]
theorem tot_len (ws : List (List UInt8)) : 2 * ws.length ≤ tot ws := by
  induction ws with
  | nil => exact Nat.zero_le _
  | cons x r ih => rw [tot_cons, List.length_cons]; omega
theorem tot_mem {ws : List (List UInt8)} {x : List UInt8} (h : x ∈ ws) : x.length ≤ tot ws := by
  induction ws with
  | nil => cases h
  | cons y r ih =>
    rw [tot_cons]
    rcases List.mem_cons.1 h with h | h
    · rw [h]; omega
    · have := ih h; omega
theorem join_tot : ∀ ws : List (List UInt8), (Lib.join ws [44, 32]).length ≤ tot ws
  | [] => Nat.zero_le _
  | [x] => by rw [tot_cons]; simp [Lib.join]; omega
  | x :: y :: r => by
    rw [joinP_cons, List.length_append, List.length_cons, List.length_cons, tot_cons]
    have := join_tot (y :: r)
    omega
theorem lineT_tot (x : List UInt8) (L : List (List UInt8)) : (lineT x L).length ≤ x.length + 1 + tot L := by
  unfold lineT
  split
  · omega
  · rw [List.length_append, List.length_cons]
    have := join_tot L
    omega
theorem decL_len (n : Int) (h0 : -9223372036854775808 ≤ n) (h1 : n ≤ 9223372036854775807) : (decL n).length ≤ 20 := by
  have h10 : (10 : Nat) ^ 19 = 10000000000000000000 := by decide
  have hd : (digP n.natAbs).length ≤ 19 := digP_len 19 _ (by decide) (by omega)
  unfold decL
  split
  · rw [List.length_cons]; omega
  · omega
theorem last_tot (p : Prg) (op : Int) (ini : List (List UInt8)) (z : List UInt8) (i : Nat) (hvs : ∀ q ∈ p.vals, q.2 < 4294967296) : tot (lastV p op ini z i).2 ≤ tot ini + z.length + 22 := by
  have hdl : ∀ l : List (List UInt8), tot l.dropLast ≤ tot l := fun l => by
    rcases List.eq_nil_or_concat l with q | ⟨a, b, q⟩
    · rw [q]; exact Nat.le_refl _
    · (try rw [List.concat_eq_append] at q)
      rw [q, List.dropLast_concat, tot_app]; omega
  have h1 : ∀ n : Int, -9223372036854775808 ≤ n → n ≤ 9223372036854775807 → tot (ini ++ [decL n]) ≤ tot ini + z.length + 22 := fun n a b => by
    have := decL_len n a b
    rw [tot_app, tot_cons]
    show _ + (_ + 2 + 0) ≤ _
    omega
  have h2 : tot [] ≤ tot ini + z.length + 22 := Nat.zero_le _
  unfold lastV
  split
  · split
    · exact h2
    · split
      · exact h2
      · rename_i v hv
        have hb := pieceV_le (y := ini.getLastD []) (find_lt hv hvs)
        have := decL_len _ hb.1 hb.2
        have := hdl ini
        rw [tot_app, tot_cons]
        show _ + (_ + 2 + 0) ≤ _
        omega
  · split
    · exact h2
    · split
      · split
        · rw [tot_app, tot_cons]; show _ + (_ + 2 + 0) ≤ _; omega
        · split
          · exact h2
          · rename_i v hv
            split
            · exact h2
            · rename_i k hk
              have hs : ∀ x, -2147483648 ≤ sgn32 x ∧ sgn32 x ≤ 2147483647 := sgn_le
              have hk2 : -2147483648 ≤ k ∧ k ≤ 2147483647 := by
                unfold refV at hk
                split at hk
                · split at hk
                  · cases hk
                  · injection hk with hk
                    have := hs (v + 4294967296 - i)
                    omega
                · injection hk with hk
                  rw [← hk]
                  exact hs v
              exact h1 k (by omega) (by omega)
      · have := parse_range (bs z)
        exact h1 _ this.1 this.2
theorem lastF_tot (p : Prg) (op : Int) (f : List (List UInt8)) (i : Nat) (hvs : ∀ q ∈ p.vals, q.2 < 4294967296) : tot (lastF p op f i).2 ≤ tot f + 22 := by
  by_cases hi : immF (formV op) = true
  · rcases List.eq_nil_or_concat f with q | ⟨ini, z, q⟩
    · rw [q, lastF_nil]; exact Nat.zero_le _
    · (try rw [List.concat_eq_append] at q)
      rw [q, lastF_app p op ini z i hi, tot_app, tot_cons]
      have := last_tot p op ini z i hvs
      omega
  · rw [lastF_no p op f i (by simpa using hi)]
    show tot f ≤ _
    omega
/-- A row fits, whatever names are. -/
def RowFit (r : List (List UInt8) × Nat) : Prop :=
  r.2 ≤ 16384 ∧ tot r.1 ≤ 60003 ∧ match r.1 with
  | [] => True
  | x :: f => x ≠ [] ∧ (x = wWord → r.2 + f.length * 4 ≤ 16384) ∧ (x = wByte → r.2 + f.length * 1 ≤ 16384) ∧ (x.head? ≠ some 46 → r.2 + 4 ≤ 16384)
theorem RowFit.ok {r : List (List UInt8) × Nat} (h : RowFit r) (p : Prg) (hvs : ∀ q ∈ p.vals, q.2 < 4294967296) : RowOk p r.1 r.2 := by
  obtain ⟨ws, i⟩ := r
  obtain ⟨h1, h2, h3⟩ := h
  cases ws with
  | nil => trivial
  | cons x f =>
    obtain ⟨a, b, c, d⟩ := h3
    simp only at h2
    rw [tot_cons] at h2
    have hl := lastF_tot p ((opV x : Nat) : Int) f i hvs
    have h4 := tot_len f
    have h5 := lineT_tot x (lastF p ((opV x : Nat) : Int) f i).2
    have h6 := tot_len (lastF p ((opV x : Nat) : Int) f i).2
    show RowOk p (x :: f) i
    exact ⟨a, b, c, d, by omega, fun y hy => by have := tot_mem hy; omega, by omega, by omega⟩
/-- What the first going keeps. -/
structure GoodW (p : Prg) : Prop where
  here : p.here ≤ 16384
  vals : ∀ q ∈ p.vals, q.2 < 4294967296
  names : p.names = p.vals
structure GoodP (p : Prg) : Prop where
  w : GoodW p
  rows : ∀ r ∈ p.rows, RowFit r
theorem good00 : GoodP p00 := ⟨⟨by decide, (fun q h => by cases h), rfl⟩, (fun q h => by cases h)⟩
theorem good_named {p : Prg} {s : List UInt8} {v : Nat} (h : GoodW p) (hv : v < 4294967296) : GoodW (namedV p s v).2 := by
  unfold namedV
  split
  · exact h
  split
  · exact h
  · refine ⟨h.here, fun q hq => ?_, by rw [h.names]⟩
    rcases List.mem_append.1 hq with hq | hq
    · exact h.vals q hq
    · rw [List.mem_singleton.1 hq]; exact hv
theorem good_lay {p : Prg} {n : Nat} {whole : Bool} (h : GoodW p) : GoodW (layV p n whole).2 ∧ ((layV p n whole).1 = 0 → p.here + n ≤ 16384) := by
  unfold layV
  split
  · exact ⟨h, fun q => by cases q⟩
  · rename_i h1
    split
    · exact ⟨h, fun q => by cases q⟩
    · have h2 : p.here + n ≤ 16384 := by
        by_cases q : 16384 < p.here + n
        · exact absurd (.inr q) h1
        · omega
      exact ⟨⟨h2, h.vals, h.names⟩, fun _ => h2⟩
theorem lay_rows (p : Prg) (n : Nat) (whole : Bool) : (layV p n whole).2.rows = p.rows := by
  unfold layV
  split
  · rfl
  · split <;> rfl
theorem good_dir {p : Prg} (k : Nat) (r : List (List UInt8)) (h : GoodW p) : GoodW (dirV p k r).2 ∧ ((dirV p k r).1 = 0 → (k = 4 → p.here + r.length * 4 ≤ 16384) ∧ (k = 5 → p.here + r.length * 1 ≤ 16384)) := by
  unfold dirV
  split
  · rename_i x
    refine ⟨?_, fun _ => ⟨(fun q => by cases q), (fun q => by cases q)⟩⟩
    unfold orgV
    split
    · rename_i h0
      have := number_code x 0 16384
      refine ⟨?_, h.vals, h.names⟩
      show (numberV x 0 16384).1.toNat ≤ 16384
      rcases this with ⟨_, a, b⟩ | q | q <;> omega
    · exact h
  · rename_i x
    refine ⟨?_, fun _ => ⟨(fun q => by cases q), (fun q => by cases q)⟩⟩
    unfold spaceV
    split
    · exact (good_lay h).1
    · exact h
  · rename_i x y
    refine ⟨?_, fun _ => ⟨(fun q => by cases q), (fun q => by cases q)⟩⟩
    unfold equV
    split
    · exact h
    split
    · exact h
    split
    · exact good_named h (by omega)
    · exact h
  · rename_i x r
    have := good_lay (n := 4 * (x :: r).length) (whole := true) h
    exact ⟨this.1, fun q => ⟨fun _ => by have := this.2 q; omega, (fun q => by cases q)⟩⟩
  · rename_i x r
    have := good_lay (n := (x :: r).length) (whole := false) h
    exact ⟨this.1, fun q => ⟨(fun q => by cases q), fun _ => by have := this.2 q; omega⟩⟩
  · refine ⟨h, fun q => by cases q⟩
theorem dirK_word {x : List UInt8} (h : x = wWord) : dirK x = 4 := by subst h; decide
theorem dirK_byte {x : List UInt8} (h : x = wByte) : dirK x = 5 := by subst h; decide
theorem dir_rows (p : Prg) (k : Nat) (r : List (List UInt8)) : (dirV p k r).2.rows = p.rows := by
  unfold dirV
  split
  · unfold orgV; split <;> rfl
  · unfold spaceV
    split
    · exact lay_rows _ _ _
    · rfl
  · unfold equV
    split
    · rfl
    split
    · rfl
    split
    · exact (named_len _ _ _).2.2.2
    · rfl
  · exact lay_rows _ _ _
  · exact lay_rows _ _ _
  · rfl
/-- Words gone through, labels ahead done. -/
theorem good_do {p : Prg} {ws : List (List UInt8)} (h : GoodW p) (hw : ∀ x ∈ ws, x ≠ []) (ht : tot ws ≤ 60003) (h0 : (doV p ws).1 = 0) : GoodW (doV p ws).2 ∧ (doV p ws).2.rows = p.rows ++ [(ws, p.here)] ∧ RowFit (ws, p.here) := by
  cases ws with
  | nil => exact ⟨⟨h.here, h.vals, h.names⟩, rfl, h.here, ht, trivial⟩
  | cons x r =>
    have hx : x ≠ [] := hw x (by simp)
    have hr : GoodW (rowV p (x :: r)) := ⟨h.here, h.vals, h.names⟩
    by_cases hd : x.head? = some 46
    · have e : doV p (x :: r) = dirV (rowV p (x :: r)) (dirK x) r := if_pos hd
      rw [e] at h0 ⊢
      obtain ⟨q1, q2⟩ := good_dir (dirK x) r hr
      obtain ⟨q3, q4⟩ := q2 h0
      exact ⟨q1, dir_rows _ _ _, h.here, ht, hx, (fun q => q3 (dirK_word q)), (fun q => q4 (dirK_byte q)), (fun q => absurd hd q)⟩
    · have e : doV p (x :: r) = layV (rowV p (x :: r)) 4 true := if_neg hd
      rw [e] at h0 ⊢
      obtain ⟨q1, q2⟩ := good_lay (n := 4) (whole := true) hr
      exact ⟨q1, lay_rows _ _ _, h.here, ht, hx, (fun q => absurd (by rw [q]; rfl) hd), (fun q => absurd (by rw [q]; rfl) hd), fun _ => q2 h0⟩
theorem do_len (p : Prg) (ws : List (List UInt8)) : (doV p ws).2.vals.length ≤ p.vals.length + 1 := by
  have hl : ∀ (p : Prg) n w, (layV p n w).2.vals = p.vals := fun p n w => by
    unfold layV
    split
    · rfl
    · split <;> rfl
  cases ws with
  | nil => exact Nat.le_succ _
  | cons x r =>
    by_cases hd : x.head? = some 46
    · have e : doV p (x :: r) = dirV (rowV p (x :: r)) (dirK x) r := if_pos hd
      rw [e]
      unfold dirV
      split
      · unfold orgV; split <;> exact Nat.le_succ _
      · unfold spaceV
        split
        · rw [hl]; exact Nat.le_succ _
        · exact Nat.le_succ _
      · unfold equV
        split
        · exact Nat.le_succ _
        split
        · exact Nat.le_succ _
        split
        · exact (named_len _ _ _).1
        · exact Nat.le_succ _
      · rw [hl]; exact Nat.le_succ _
      · rw [hl]; exact Nat.le_succ _
      · exact Nat.le_succ _
    · have e : doV p (x :: r) = layV (rowV p (x :: r)) 4 true := if_neg hd
      rw [e, hl]
      exact Nat.le_succ _
/-- A line gone through: what is kept; its row is made of the line's last words. -/
theorem good_firstW : ∀ (ws : List (List UInt8)) (p : Prg), GoodW p → (∀ x ∈ ws, x ≠ []) → tot ws ≤ 60003 → (firstW p ws).1 = 0 → GoodW (firstW p ws).2 ∧ (∃ r, (firstW p ws).2.rows = p.rows ++ [r] ∧ RowFit r) ∧ (firstW p ws).2.vals.length ≤ p.vals.length + ws.length + 1
  | [], p, h, hw, ht, h0 => by
    have := good_do h hw ht h0
    exact ⟨this.1, ⟨_, this.2.1, this.2.2⟩, do_len p []⟩
  | x :: r, p, h, hw, ht, h0 => by
    have htr : tot r ≤ 60003 := by rw [tot_cons] at ht; omega
    by_cases hc : hasC x = true
    · have e : firstW p (x :: r) = if (namedV p (trimC x) p.here).1 = 0 then firstW (namedV p (trimC x) p.here).2 r else namedV p (trimC x) p.here := if_pos hc
      rw [e] at h0 ⊢
      by_cases hn : (namedV p (trimC x) p.here).1 = 0
      · rw [if_pos hn] at h0 ⊢
        have hl := named_len p (trimC x) p.here
        obtain ⟨a, ⟨q, b, c⟩, d⟩ := good_firstW r _ (good_named (s := trimC x) (v := p.here) h (by have := h.here; omega)) (fun y hy => hw y (List.mem_cons_of_mem _ hy)) htr h0
        refine ⟨a, ⟨q, by rw [b, hl.2.2.2], c⟩, ?_⟩
        rw [List.length_cons]
        have := hl.1
        omega
      · rw [if_neg hn] at h0
        exact absurd h0 hn
    · have e : firstW p (x :: r) = doV p (x :: r) := if_neg hc
      rw [e] at h0 ⊢
      have := good_do h hw ht h0
      refine ⟨this.1, ⟨_, this.2.1, this.2.2⟩, ?_⟩
      have := do_len p (x :: r)
      omega
theorem words_sum (s : ByteArray) : ∀ (b i : Nat) (f : Option Nat), i + b = s.size → (∀ F, f = some F → F ≤ i) → ((wordsR s b i f).map (fun x => x.size)).sum ≤ s.size - f.getD i
  | 0, i, none, _, _ => Nat.zero_le _
  | 0, i, some F, _, _ => by
    show ((s.extract F s.size).size + 0) ≤ _
    rw [ByteArray.size_extract]
    show _ ≤ s.size - F
    omega
  | b + 1, i, none, h, _ => by
    rw [wordsR]
    split
    · have := words_sum s b (i + 1) none (by omega) (fun F hF => by cases hF)
      show _ ≤ s.size - i
      have e : s.size - (none : Option Nat).getD (i + 1) = s.size - (i + 1) := rfl
      omega
    · have := words_sum s b (i + 1) (some i) (by omega) (fun F hF => by injection hF with hF; omega)
      exact this
  | b + 1, i, some F, h, hF => by
    have hFi := hF F rfl
    rw [wordsR]
    split
    · have := words_sum s b (i + 1) none (by omega) (fun F hF => by cases hF)
      have e : s.size - (none : Option Nat).getD (i + 1) = s.size - (i + 1) := rfl
      rw [List.map_cons, List.sum_cons, ByteArray.size_extract]
      show _ ≤ s.size - F
      omega
    · have := words_sum s b (i + 1) (some F) (by omega) (fun G hG => by injection hG with hG; omega)
      exact this
theorem tot_sum (ws : List (List UInt8)) : tot ws = (ws.map List.length).sum + 2 * ws.length := by
  induction ws with
  | nil => rfl
  | cons x r ih => rw [tot_cons, ih, List.map_cons, List.sum_cons, List.length_cons]; omega
theorem wordsP_tot (l : List UInt8) : tot (wordsP l) ≤ 3 * l.length := by
  have h1 := words_sum (bs l) (bs l).size 0 none (by omega) (fun F hF => by cases hF)
  have h2 := (wordsP_ok l).2
  have h3 : ((wordsP l).map List.length) = (wordsL (bs l)).map (fun x => x.size) := by
    unfold wordsP
    rw [List.map_map]
    apply List.map_congr_left
    intro x _
    rfl
  rw [tot_sum, h3]
  have h4 : ((wordsL (bs l)).map (fun x => x.size)).sum ≤ l.length := by
    have := h1
    rw [bs_size] at this
    exact Nat.le_trans this (Nat.sub_le _ _)
  omega
/-- A line gone through. -/
theorem good_first {p : Prg} {l : List UInt8} (h : GoodP p) (hl : l.length ≤ 10000) (h0 : (firstV p l).1 = 0) : GoodP (firstV p l).2 ∧ (firstV p l).2.rows.length = p.rows.length + 1 ∧ (firstV p l).2.vals.length ≤ p.vals.length + 10001 := by
  have hc := codeL_le l
  have hw := wordsP_ok (codeL l)
  have ht := wordsP_tot (codeL l)
  obtain ⟨a, ⟨r, b, c⟩, d⟩ := good_firstW (wordsP (codeL l)) p h.w (fun x hx q => by have := (hw.1 x hx).1; rw [q] at this; cases this) (by omega) h0
  refine ⟨⟨a, fun q hq => ?_⟩, by rw [show (firstV p l).2.rows = p.rows ++ [r] from b, List.length_append]; rfl, ?_⟩
  · rw [show (firstV p l).2.rows = p.rows ++ [r] from b] at hq
    rcases List.mem_append.1 hq with k | k
    · exact h.rows q k
    · rw [List.mem_singleton.1 k]; exact c
  · have := hw.2
    show (firstW p (wordsP (codeL l))).2.vals.length ≤ _
    omega
theorem values_data (p : Prg) (D : List UInt8) (sz i : Nat) : ∀ (t : List (List UInt8)) (k : Nat) (d : List UInt8), valuesR { p with data := D } sz i t k d = valuesR p sz i t k d
  | [], _, _ => rfl
  | x :: r, k, d => by
    rw [valuesR, valuesR]
    simp only [values_data p D sz i r]
/-- What the data are, a line does not ask. -/
theorem second_data (p : Prg) (D : List UInt8) (ws : List (List UInt8)) (i : Nat) (d : List UInt8) : secondV { p with data := D } ws i d = secondV p ws i d := by
  unfold secondV
  cases ws with
  | nil => rfl
  | cons x f =>
    simp only [values_data]
    try rfl
end Go.Proofs.YtaclidjhgpkmpaaDoor.My
set_option linter.unusedVariables false
set_option linter.unusedSimpArgs false
namespace Go.Proofs.YtaclidjhgpkmpaaDoor.My
open Go.RowKit
section
variable {P : Program} {ops : Array Oper} {Q : Exit → Act → World → Prop} {K : Act → World → Prop} {E : Prop}
/-- Something is made; which block it is, is left open. -/
theorem rgMade {oi : Oper} {a : Act} {w : World} (o : Obj) (f : Nat → Value) (hrun : (execOp a.eval oi).run P w = .ok (.value (f w.heap.size)) (w.alloc o)) (hw : Region.wanted oi (yielded ops a.tmps) = true)
    (h : ∀ (g : Nat) (w2 : World), w.heap.size ≤ g → g < w2.heap.size → w2.heap[g]? = some o → Below w.heap.size w w2 → K (a.put oi.dst (f g)) w2) : if Region.wanted oi (yielded ops a.tmps) = true then Oper.wp P oi a w K Q else E := by
  rw [if_pos hw]
  unfold Oper.wp
  rw [hrun]
  exact h _ _ (Nat.le_refl _) (by simp) (heap_alloc_new w o) ((Below.refl _ _).alloc (Nat.le_refl _) o)
theorem run_mk {o : Oper} {a : Act} (t e : TypeId) (x y : Operand) (ho : o.op = .makeSlice t x y) (ht : P.underlying t = some (.slice e)) (z : Value) (hz : z.cells = #[z]) (hi : (P.info? e).map (fun i => (i.zero, i.size, i.bytes)) = some (some z, 1, 1)) (n : Nat) (hx : a.eval x = .int .i64 (n : Int)) (hy : a.eval y = .int .i64 (n : Int)) (hn : n ≤ 1000000) (w : World) :
    (execOp a.eval o).run P w = .ok (.value (.slice (some ⟨w.heap.size, 0, none⟩) n n)) (w.alloc (.cells (List.replicate n z).toArray e)) := by
  obtain ⟨i, h1, h2⟩ := Option.map_eq_some_iff.1 hi
  simp only [Prod.mk.injEq] at h2
  obtain ⟨h2, h3, h4⟩ := h2
  have hr := run_make (P := P) w t e i z ht h1 h2 .i64 .i64 (n : Int) (n : Int) (by omega) (by omega) (by rw [h4]; omega) (by omega)
  have e0 : madeCells z.cells (n * 1) = (List.replicate n z).toArray := by rw [Nat.mul_one, hz, made_rep]
  rw [Int.toNat_natCast, h3, e0] at hr
  unfold execOp
  simp only [ho, hx, hy, Sem.run_bind, hr, Result.andThen_ok]
  rfl
end
theorem map_new {w : World} {g : Nat} (h : w.heap[g]? = some (.map #[] 0)) : MapIs w g [] := by
  obtain ⟨n, D, ⟨es, clock, h1, h2⟩, h3⟩ := MapIs.new w
  rw [heap_alloc_new] at h1
  injection h1 with h1
  injection h1 with e1 e2
  subst e1 e2
  exact ⟨n, D, ⟨#[], 0, h, h2⟩, h3⟩
theorem infoBl3 : (Tryd.prog.info? 4).map (fun i => (i.zero, i.size, i.bytes)) = some (some (.bool false), 1, 1) := by kernel_rfl
/-- A program of which nothing is read yet. -/
theorem prg_new {w : World} {B gP gM gD gL : Nat} (hP : w.heap[gP]? = some (.cells #[.slice none 0 0, .slice none 0 0, .map (some gM), .int .i64 0, slF gD, slF gL] 68 (0, 0))) (hM : w.heap[gM]? = some (.map #[] 0))
    (hD : w.heap[gD]? = some (.cells (List.replicate 16384 (Value.int .u8 0)).toArray 5 (0, 0))) (hL : w.heap[gL]? = some (.cells (List.replicate 16384 (Value.bool false)).toArray 4 (0, 0)))
    (h1 : gP ≠ gM) (h2 : gP ≠ gD) (h3 : gP ≠ gL) (h4 : gM ≠ gD) (h5 : gM ≠ gL) (h6 : gD ≠ gL) (bP : B ≤ gP) (bM : B ≤ gM) (bD : B ≤ gD) (bL : B ≤ gL) : PrgAt w B ⟨.slice none 0 0, .slice none 0 0, gP, gM, gD, gL⟩ p00 [] where
  cells := hP
  rows := ⟨rfl, .inl ⟨rfl, rfl⟩⟩
  rok := fun r h => by cases h
  prow := rfl
  names := ⟨rfl, .inl ⟨rfl, rfl⟩⟩
  map := map_new hM
  data := by
    rw [hD]
    have : ma .u8 (ints p00.data) = (List.replicate 16384 (Value.int .u8 0)).toArray := by
      unfold p00 ma ints
      rw [List.map_replicate, List.map_replicate]
      rfl
    rw [this]
  laid := by
    rw [hL]
    have : mb p00.laid = (List.replicate 16384 (Value.bool false)).toArray := by
      unfold p00 mb
      rw [List.map_replicate]
    rw [this]
  ld := List.length_replicate
  ll := List.length_replicate
  here := Nat.zero_le _
  nd := by
    show [gP, gM, gD, gL].Nodup
    simp [h1, h2, h3, h4, h5, h6]
  ge := fun k hk => by
    have hk : k ∈ [gP, gM, gD, gL] := hk
    simp only [List.mem_cons, List.not_mem_nil, or_false] at hk
    rcases hk with rfl | rfl | rfl | rfl <;> assumption
  lt := fun k hk => by
    have hk : k ∈ [gP, gM, gD, gL] := hk
    simp only [List.mem_cons, List.not_mem_nil, or_false] at hk
    rcases hk with rfl | rfl | rfl | rfl
    · exact (Array.getElem?_eq_some_iff.1 hP).1
    · exact (Array.getElem?_eq_some_iff.1 hM).1
    · exact (Array.getElem?_eq_some_iff.1 hD).1
    · exact (Array.getElem?_eq_some_iff.1 hL).1
/-- What a program's making gives. -/
def AsmTo (w w' : World) (R : AsmV) (e : Ending) : Prop :=
  (∃ (S : Option Addr) (c : Nat) (ms : List SegM) (nv : Value), e = .returned (.tuple #[.agg (imA R.im.1 S ms.length c), nv, .int .i64 (R.line : Nat), .int .i64 (R.code : Nat)]) ∧ ms.map SegM.v = R.im.2 ∧ SegsAt w' w.heap.size (.slice S ms.length c) ms ∧ w'.ownsRow w.heap.size 50 2 nv R.names.length (nmsC R.names)) ∧ Below w.heap.size w w'
theorem asmTo_bad {w w' : World} {l c : Nat} (hb : Below w.heap.size w w') : AsmTo w w' ⟨l, c, (0, []), []⟩ (.returned (.tuple #[.agg (imA 0 none 0 0), .slice none 0 0, .int .i64 (l : Nat), .int .i64 (c : Nat)])) :=
  ⟨⟨none, 0, [], .slice none 0 0, rfl, rfl, SegsAt.nil _ _, rfl, .inl ⟨rfl, rfl⟩⟩, hb⟩
theorem SegsAt.weak {w : World} {B B' : Nat} {v : Value} {ms : List SegM} (h : SegsAt w B v ms) (hB : B' ≤ B) : SegsAt w B' v ms :=
  ⟨ownk_weak h.row hB, fun m hm => ownk_weak (h.inn m hm) hB, h.ap, h.sm⟩
theorem res4 {P : Program} {fn : Func} {p u v x : Tmp} {ty : TypeId} (h : fn.results = #[.cell p ty, .tmp u, .tmp v, .tmp x]) (tmps : Array Value) (w : World) (g : Nat) (t : TypeId) (cs : Array Value) (fr : Nat × Nat) (d : TypeDesc)
    (hp : tmps.getD p undef = .pointer (some ⟨g, 0, none⟩)) (hg : w.heap[g]? = some (.cells cs t fr)) (hu : P.underlying ty = some d) (hd : d.isRow = true) (hi : (P.info? ty).map (·.size) = some cs.size) :
    (results fn tmps).run P w = .ok (.tuple #[.agg cs, tmps.getD u undef, tmps.getD v undef, tmps.getD x undef]) w := by
  have hp' : tmps[p]?.getD undef = .pointer (some ⟨g, 0, none⟩) := by simpa using hp
  have hl := run_loadVar_row (P := P) w g t ty cs fr d hg hu (by cases d <;> first | rfl | exact hd) hi
  simp [results, h, hp', asAddr, hl]
theorem first_at {g : Nat} (B : Nat) (s : PS) (p : Prg) (rs : List RowM) (l : List UInt8) (m : Int) (w : World) (hg : s.gP = g) (hp : PrgAt w B s p rs) (hl : l.length ≤ 90000) (hm : w.cell? ⟨3, 0, none⟩ = some (.int .i64 m)) (hv : p.vals.length ≤ 900000000) (hn : p.names.length ≤ 900000000) (hr : p.rows.length ≤ 1000000) :
    Calls Tryd.prog 25 #[.pointer (some ⟨g, 0, none⟩), .string (bs l)] w fun e w' => PrgPost w B s (firstV p l) e w' := by
  subst hg
  exact first_any B s p rs l m w hp hl hm hv hn hr
theorem firstA_cons (p : Prg) (l : List UInt8) (r : List (List UInt8)) (i : Nat) : firstA p (l :: r) i = if (firstV p l).1 = 0 then firstA (firstV p l).2 r (i + 1) else ((i + 1, (firstV p l).1), p) := rfl
theorem secondA_cons (p : Prg) (r : List (List UInt8) × Nat) (t : List (List (List UInt8) × Nat)) (i : Nat) (d : List UInt8) : secondA p (r :: t) i d = if (secondV p r.1 r.2 d).1 = 0 then secondA p t (i + 1) (secondV p r.1 r.2 d).2 else ((i + 1, (secondV p r.1 r.2 d).1), d) := rfl
theorem lines_own {w : World} {B : Nat} {v : Value} {s : List UInt8} (h : Own w B v (linesV (bs s)).1) : ∃ A c, v = .slice A (linesP s).length c ∧ (linesP s).length ≤ c ∧ RdW w A (linesP s) := by
  have e : (linesV (bs s)).1.map Value.string = (linesP s).map (fun x => Value.string (bs x)) := by
    unfold linesP
    rw [List.map_map]
    apply List.map_congr_left
    intro x _
    rfl
  have el : (linesV (bs s)).1.length = (linesP s).length := by unfold linesP; rw [List.length_map]
  unfold Own at h
  rw [e, el] at h
  obtain ⟨A, c, h1, h2, h3, _⟩ := own_rdw h
  exact ⟨A, c, h1, h2, h3⟩
theorem linesR_len (s : ByteArray) : ∀ (b i f : Nat), (linesR s b i f).length ≤ b
  | 0, _, _ => by unfold linesR; exact Nat.zero_le _
  | b + 1, i, f => by
    unfold linesR
    have h1 := linesR_len s b
    first
    | (split
       · rw [List.length_cons]; exact Nat.succ_le_succ (h1 _ _)
       · exact Nat.le_succ_of_le (h1 _ _))
    | skip
theorem linesP_len (s : List UInt8) : (linesP s).length ≤ s.length := by
  unfold linesP linesV
  rw [List.length_map]
  split
  · exact Nat.zero_le _
  · split
    · exact Nat.zero_le _
    · have := linesR_len (bs s) (bs s).size 0 0
      rw [bs_size] at this
      rw [bs_size]
      exact this
theorem lines_code (s : ByteArray) : (linesV s).2 = 0 ∨ (linesV s).2 = 2 ∨ (linesV s).2 = 4 := by
  unfold linesV
  split
  · exact .inr (.inr rfl)
  · split
    · exact .inr (.inl rfl)
    · exact .inl rfl
end Go.Proofs.YtaclidjhgpkmpaaDoor.My
set_option linter.unusedVariables false
set_option linter.unusedSimpArgs false
namespace Go.Proofs.YtaclidjhgpkmpaaDoor.My
open Go.RowKit
theorem sizeRo (w : World) : (sizeOf 71).run Tryd.prog w = .ok 2 w := by kernel_rfl
theorem zeroRo (w : World) : (zeroValue 71).run Tryd.prog w = .ok (.agg #[.slice none 0 0, .int .u32 0]) w := by kernel_rfl
set_option maxRecDepth 100000 in
set_option maxHeartbeats 8000000 in
theorem assemble_any (src : List UInt8) (m : Int) (w : World) (hst : St m w) (hs : src.length ≤ 60000) (hl : ∀ l ∈ linesP src, l.length ≤ 10000) :
    Calls Tryd.prog 9 #[.string (bs src)] w fun e w' => AsmTo w w' (assembleV src) e := by
  obtain ⟨Z, hZ⟩ : ∃ Z, assembleV src = Z := ⟨_, rfl⟩
  rw [hZ]
  unfold assembleV at hZ
  have HB := startB w
  have HS := Lib.hid hst
  have hsz : (bs src).size ≤ 1000000 := by rw [bs_size]; omega
  have hlen := linesP_len src
  obtain ⟨c, hc⟩ : ∃ c, (linesV (bs src)).2 = c := ⟨_, rfl⟩
  have hcc := lines_code (bs src)
  rw [hc] at hZ hcc
  have HLC := Lib.hid hc
  have HLN := Lib.hid (And.intro hl (Nat.le_trans hlen hs))
  clear hc hst hl hlen
  by_cases h0 : c = 0
  rotate_left
  · rw [if_neg h0] at hZ
    have q1 : (c != 0) = true := bne_iff_ne.2 h0
    have HCC : Hid (c = ((c.toNat : Nat) : Int)) := Lib.hid (by omega)
    have HZ := Lib.hid hZ
    clear hZ hcc h0
    go_enter Tryd.func9, Tryd.ntmps9
    go_upto_region 1 with (refine wlAlloc (by rfl) 34 rfl (imA 0 none 0 0) zeroIm ?_; intro gR w1 hg hl ha hb; have HGR := Lib.hid hg; replace HB := keepB HB hb; replace HS := keepS HS hb; have HR := Lib.hid ha; clear ha hb hg hl)
    go_wp2_with (first | (go_at_call 24; refine (lines_any (bs src) _ hsz).mono ?_; rw [HLC.out]; rintro e w2 ⟨⟨v, rfl, hown⟩, hb⟩; replace HB := keepB HB hb; replace HS := keepS HS hb; replace HR := keepA HR hb; have HO := Lib.hid hown; clear hb hown) | (refine wlBuild rfl 34 #[] rfl (.agg (imA 0 none 0 0)) (by kernel_rfl) ?_) | (refine rowStore (by rfl) 34 _ _ rfl gR rfl (imA 0 none 0 0) rfl HR.out infoIm rfl (imA_one _ _ _ _) ?_; intro w9 ha ho; replace HR := Lib.hid ha; replace HB := keepBo HB HGR.out ho; clear ha ho))
    refine bodyPost_ret (res4 rfl _ _ gR 34 (imA 0 none 0 0) (0, 0) _ rfl HR.out Tryd.underlying34 rfl infoIm) rfl ?_
    rw [← HZ.out]
    have h9 := asmTo_bad (l := 0) (c := c.toNat) HB.out.1
    rw [← HCC.out] at h9
    exact h9
  · subst h0
    rw [if_pos rfl] at hZ
    unfold asmL at hZ
    obtain ⟨LS, hLS⟩ : ∃ LS, linesP src = LS := ⟨_, rfl⟩
    rw [hLS] at hZ
    have HLS := Lib.hid hLS
    obtain ⟨R1, hR1⟩ : ∃ R1, firstA p00 LS 0 = R1 := ⟨_, rfl⟩
    rw [hR1] at hZ
    have HR1 := Lib.hid hR1
    have HZ := Lib.hid hZ
    clear hZ hcc hLS hR1
    go_enter Tryd.func9, Tryd.ntmps9
    go_upto_region 1 with (refine wlAlloc (by rfl) 34 rfl (imA 0 none 0 0) zeroIm ?_; intro gR w1 hg hl ha hb; have HGR := Lib.hid hg; replace HB := keepB HB hb; replace HS := keepS HS hb; have HR := Lib.hid ha; clear ha hb hg hl)
    go_upto_region 2 with (go_at_call 24; refine (lines_any (bs src) _ hsz).mono ?_; rw [HLC.out]; rintro e w2 ⟨⟨v, rfl, hown⟩, hb⟩; replace HB := keepB HB hb; replace HS := keepS HS hb; replace HR := keepA HR hb; have HO := Lib.hid hown; clear hb hown)
    obtain ⟨A, c, rfl, hcap, hrd⟩ := lines_own HO.out
    have HRD := Lib.hid hrd
    clear hrd HO
    rw [HLS.out] at HRD hcap HLN
    rw [HLS.out]
    go_upto_region 4 with fail
    have HC : Hid (Below w2.heap.size w2 w2 ∧ w2.heap.size ≤ w2.heap.size) := startB w2
    go_cut [8] from 24 to 28 (fun v wx => ∃ gP gM gD gL : Nat, v = .pointer (some ⟨gP, 0, none⟩) ∧ Hid (PrgAt wx w2.heap.size ⟨.slice none 0 0, .slice none 0 0, gP, gM, gD, gL⟩ p00 []) ∧ Hid (Below w2.heap.size w2 wx ∧ w2.heap.size ≤ wx.heap.size))
    case first =>
      replace HC := keepB HC (belowD _)
      refine rgStart (S := (fun _ => True)) (n := 6) #[false, false, false, false, false, false] (by kernel_rfl) rfl rfl trivial (fun hHeld => ?_)
      refine rgThree (i := 0) (j := 1) (k := 2) (Ni := some 24) (Nj := some 25) (Nk := some 26) (oi := { dst := some 24, op := Op.makeMap 64 none, type := 64, pos := "asm.go:310", after := #[], guard := none }) (oj := { dst := some 25, op := Op.makeSlice 38 (Operand.const (Value.int IntKind.i64 16384)) (Operand.const (Value.int IntKind.i64 16384)), type := 38, pos := "asm.go:310", after := #[], guard := none }) (ok := { dst := some 26, op := Op.makeSlice 65 (Operand.const (Value.int IntKind.i64 16384)) (Operand.const (Value.int IntKind.i64 16384)), type := 65, pos := "asm.go:310", after := #[], guard := none }) #[true, false, false, false, false, false] #[false, true, false, false, false, false] #[false, false, true, false, false, false] rfl rfl rfl rfl rfl rfl (by kernel_rfl) (fun K hK => ?_) (fun K hK => ?_) (fun K hK => ?_)
      · (refine rgMade (.map #[] 0) (fun g => .map (some g)) (by kernel_rfl) (by rfl) ?_; intro gM wx hg hl ha hb; (try replace HD := keepA HD hb); (try replace HL := keepA HL hb); (try have HMD : Hid (gM ≠ gD) := Lib.hid (Nat.ne_of_gt (Nat.lt_of_lt_of_le HLD.out hg))); (try have HML : Hid (gM ≠ gL) := Lib.hid (Nat.ne_of_gt (Nat.lt_of_lt_of_le HLL.out hg))); (try replace HLD := Lib.hid (Nat.lt_of_lt_of_le HLD.out hb.size)); (try replace HLL := Lib.hid (Nat.lt_of_lt_of_le HLL.out hb.size)); have HGM := Lib.hid (Nat.le_trans HC.out.2 hg); have HLM := Lib.hid hl; have HM := Lib.hid ha; replace HC := keepB HC hb; clear hg hl ha hb)
        refine hK.out _ _ trivial (fun hHeld => ?_)
        (try simp only [Act.put, List.setIfInBounds_toArray, List.set_cons_zero, List.set_cons_succ])
        clear hK K
        refine rgTwo (i := 1) (j := 2) (Ni := some 25) (Nj := some 26) (oi := { dst := some 25, op := Op.makeSlice 38 (Operand.const (Value.int IntKind.i64 16384)) (Operand.const (Value.int IntKind.i64 16384)), type := 38, pos := "asm.go:310", after := #[], guard := none }) (oj := { dst := some 26, op := Op.makeSlice 65 (Operand.const (Value.int IntKind.i64 16384)) (Operand.const (Value.int IntKind.i64 16384)), type := 65, pos := "asm.go:310", after := #[], guard := none }) #[true, true, false, false, false, false] #[true, false, true, false, false, false] rfl rfl rfl rfl (by kernel_rfl) (fun K hK => ?_) (fun K hK => ?_)
        · (refine rgMade (.cells (List.replicate 16384 (Value.int .u8 0)).toArray 5) (fun g => .slice (some ⟨g, 0, none⟩) 16384 16384) (run_mk 38 5 _ _ rfl Tryd.underlying38 (.int .u8 0) rfl infoB 16384 rfl rfl (by decide) _) (by rfl) ?_; intro gD wx hg hl ha hb; (try replace HM := keepA HM hb); (try replace HL := keepA HL hb); (try have HMD : Hid (gM ≠ gD) := Lib.hid (Nat.ne_of_lt (Nat.lt_of_lt_of_le HLM.out hg))); (try have HDL : Hid (gD ≠ gL) := Lib.hid (Nat.ne_of_gt (Nat.lt_of_lt_of_le HLL.out hg))); (try replace HLM := Lib.hid (Nat.lt_of_lt_of_le HLM.out hb.size)); (try replace HLL := Lib.hid (Nat.lt_of_lt_of_le HLL.out hb.size)); have HGD := Lib.hid (Nat.le_trans HC.out.2 hg); have HLD := Lib.hid hl; have HD := Lib.hid ha; replace HC := keepB HC hb; clear hg hl ha hb)
          refine hK.out _ _ trivial (fun hHeld => ?_)
          (try simp only [Act.put, List.setIfInBounds_toArray, List.set_cons_zero, List.set_cons_succ])
          clear hK K
          refine rgCall (i := 2) (N := some 26) (oi := { dst := some 26, op := Op.makeSlice 65 (Operand.const (Value.int IntKind.i64 16384)) (Operand.const (Value.int IntKind.i64 16384)), type := 65, pos := "asm.go:310", after := #[], guard := none }) #[true, true, true, false, false, false] rfl rfl (by kernel_rfl) (fun K hK => ?_)
          (refine rgMade (.cells (List.replicate 16384 (Value.bool false)).toArray 4) (fun g => .slice (some ⟨g, 0, none⟩) 16384 16384) (run_mk 65 4 _ _ rfl Tryd.underlying65 (.bool false) rfl infoBl3 16384 rfl rfl (by decide) _) (by rfl) ?_; intro gL wx hg hl ha hb; (try replace HM := keepA HM hb); (try replace HD := keepA HD hb); (try have HML : Hid (gM ≠ gL) := Lib.hid (Nat.ne_of_lt (Nat.lt_of_lt_of_le HLM.out hg))); (try have HDL : Hid (gD ≠ gL) := Lib.hid (Nat.ne_of_lt (Nat.lt_of_lt_of_le HLD.out hg))); (try replace HLM := Lib.hid (Nat.lt_of_lt_of_le HLM.out hb.size)); (try replace HLD := Lib.hid (Nat.lt_of_lt_of_le HLD.out hb.size)); have HGL := Lib.hid (Nat.le_trans HC.out.2 hg); have HLL := Lib.hid hl; have HL := Lib.hid ha; replace HC := keepB HC hb; clear hg hl ha hb)
          refine hK.out _ _ trivial (fun hHeld => ?_)
          (try simp only [Act.put, List.setIfInBounds_toArray, List.set_cons_zero, List.set_cons_succ])
          clear hK K
          refine rgTake (i := 3) (N := some 27) (oi := { dst := some 27, op := Op.build 68 #[(2, Operand.tmp 24), (4, Operand.tmp 25), (5, Operand.tmp 26)], type := 68, pos := "asm.go:310", after := #[{ on := 0, ground := Ground.data }, { on := 1, ground := Ground.data }, { on := 2, ground := Ground.data }], guard := none }) (v := _) #[true, true, true, true, false, false] rfl rfl (by kernel_rfl) (fun _ _ _ h => h) (show YieldsIf Tryd.prog _ _ _ (.agg #[.slice none 0 0, .slice none 0 0, .map (some gM), .int .i64 0, slF gD, slF gL]) _ from .inl ⟨by rfl, fun _ _ => by kernel_rfl⟩) hHeld ?_
          simp only [Act.put, List.setIfInBounds_toArray, List.set_cons_zero, List.set_cons_succ]
          refine rgCall (i := 4) (N := some 28) (oi := { dst := some 28, op := Op.box 68 (Operand.tmp 27), type := 63, pos := "asm.go:310", after := #[{ on := 3, ground := Ground.data }], guard := none }) #[true, true, true, true, true, false] rfl rfl (by kernel_rfl) (fun K hK => ?_)
          (refine rgAlloc (.cells #[.slice none 0 0, .slice none 0 0, .map (some gM), .int .i64 0, slF gD, slF gL] 68) (by kernel_rfl) (by rfl) ?_; intro gP wx hg hl ha hb; have HPM : Hid (gP ≠ gM) := Lib.hid (Nat.ne_of_gt (Nat.lt_of_lt_of_le HLM.out hg)); have HPD : Hid (gP ≠ gD) := Lib.hid (Nat.ne_of_gt (Nat.lt_of_lt_of_le HLD.out hg)); have HPL : Hid (gP ≠ gL) := Lib.hid (Nat.ne_of_gt (Nat.lt_of_lt_of_le HLL.out hg)); have HGP := Lib.hid (Nat.le_trans HC.out.2 hg); replace HM := keepA HM hb; replace HD := keepA HD hb; replace HL := keepA HL hb; have HP := Lib.hid ha; replace HC := keepB HC hb; clear hg hl ha hb)
          refine hK.out _ _ trivial (fun hHeld => ?_)
          (try simp only [Act.put, List.setIfInBounds_toArray, List.set_cons_zero, List.set_cons_succ])
          clear hK K
          refine rgTake (i := 5) (N := some 8) (oi := { dst := some 8, op := Op.assign (Operand.tmp 28), type := 63, pos := "asm.go:310", after := #[{ on := 4, ground := Ground.data }, { on := 0, ground := Ground.phase }, { on := 1, ground := Ground.phase }, { on := 2, ground := Ground.phase }, { on := 3, ground := Ground.phase }, { on := 4, ground := Ground.phase }], guard := none }) (v := ?_) #[true, true, true, true, true, true] rfl rfl (by kernel_rfl) (fun _ _ _ h => h) (Or.inl ⟨by rfl, ?_⟩) hHeld ?_
          rotate_left
          · intro w' hSw; (try dsimp only at hSw); skip; go_simp; try with_reducible rfl
          simp only [Act.put, List.setIfInBounds_toArray, List.set_cons_zero, List.set_cons_succ]
          refine rgDone (by kernel_rfl) ?_ _
          (go_wp2; go_meet; exact ⟨gP, gM, gD, gL, rfl, Lib.hid (prg_new HP.out HM.out HD.out HL.out HPM.out HPD.out HPL.out HMD.out HML.out HDL.out HGP.out HGM.out HGD.out HGL.out), HC⟩)
        · (refine rgMade (.cells (List.replicate 16384 (Value.bool false)).toArray 4) (fun g => .slice (some ⟨g, 0, none⟩) 16384 16384) (run_mk 65 4 _ _ rfl Tryd.underlying65 (.bool false) rfl infoBl3 16384 rfl rfl (by decide) _) (by rfl) ?_; intro gL wx hg hl ha hb; (try replace HM := keepA HM hb); (try replace HD := keepA HD hb); (try have HML : Hid (gM ≠ gL) := Lib.hid (Nat.ne_of_lt (Nat.lt_of_lt_of_le HLM.out hg))); (try have HDL : Hid (gD ≠ gL) := Lib.hid (Nat.ne_of_lt (Nat.lt_of_lt_of_le HLD.out hg))); (try replace HLM := Lib.hid (Nat.lt_of_lt_of_le HLM.out hb.size)); (try replace HLD := Lib.hid (Nat.lt_of_lt_of_le HLD.out hb.size)); have HGL := Lib.hid (Nat.le_trans HC.out.2 hg); have HLL := Lib.hid hl; have HL := Lib.hid ha; replace HC := keepB HC hb; clear hg hl ha hb)
          refine hK.out _ _ trivial (fun hHeld => ?_)
          (try simp only [Act.put, List.setIfInBounds_toArray, List.set_cons_zero, List.set_cons_succ])
          clear hK K
          refine rgCall (i := 1) (N := some 25) (oi := { dst := some 25, op := Op.makeSlice 38 (Operand.const (Value.int IntKind.i64 16384)) (Operand.const (Value.int IntKind.i64 16384)), type := 38, pos := "asm.go:310", after := #[], guard := none }) #[true, true, true, false, false, false] rfl rfl (by kernel_rfl) (fun K hK => ?_)
          (refine rgMade (.cells (List.replicate 16384 (Value.int .u8 0)).toArray 5) (fun g => .slice (some ⟨g, 0, none⟩) 16384 16384) (run_mk 38 5 _ _ rfl Tryd.underlying38 (.int .u8 0) rfl infoB 16384 rfl rfl (by decide) _) (by rfl) ?_; intro gD wx hg hl ha hb; (try replace HM := keepA HM hb); (try replace HL := keepA HL hb); (try have HMD : Hid (gM ≠ gD) := Lib.hid (Nat.ne_of_lt (Nat.lt_of_lt_of_le HLM.out hg))); (try have HDL : Hid (gD ≠ gL) := Lib.hid (Nat.ne_of_gt (Nat.lt_of_lt_of_le HLL.out hg))); (try replace HLM := Lib.hid (Nat.lt_of_lt_of_le HLM.out hb.size)); (try replace HLL := Lib.hid (Nat.lt_of_lt_of_le HLL.out hb.size)); have HGD := Lib.hid (Nat.le_trans HC.out.2 hg); have HLD := Lib.hid hl; have HD := Lib.hid ha; replace HC := keepB HC hb; clear hg hl ha hb)
          refine hK.out _ _ trivial (fun hHeld => ?_)
          (try simp only [Act.put, List.setIfInBounds_toArray, List.set_cons_zero, List.set_cons_succ])
          clear hK K
          refine rgTake (i := 3) (N := some 27) (oi := { dst := some 27, op := Op.build 68 #[(2, Operand.tmp 24), (4, Operand.tmp 25), (5, Operand.tmp 26)], type := 68, pos := "asm.go:310", after := #[{ on := 0, ground := Ground.data }, { on := 1, ground := Ground.data }, { on := 2, ground := Ground.data }], guard := none }) (v := _) #[true, true, true, true, false, false] rfl rfl (by kernel_rfl) (fun _ _ _ h => h) (show YieldsIf Tryd.prog _ _ _ (.agg #[.slice none 0 0, .slice none 0 0, .map (some gM), .int .i64 0, slF gD, slF gL]) _ from .inl ⟨by rfl, fun _ _ => by kernel_rfl⟩) hHeld ?_
          simp only [Act.put, List.setIfInBounds_toArray, List.set_cons_zero, List.set_cons_succ]
          refine rgCall (i := 4) (N := some 28) (oi := { dst := some 28, op := Op.box 68 (Operand.tmp 27), type := 63, pos := "asm.go:310", after := #[{ on := 3, ground := Ground.data }], guard := none }) #[true, true, true, true, true, false] rfl rfl (by kernel_rfl) (fun K hK => ?_)
          (refine rgAlloc (.cells #[.slice none 0 0, .slice none 0 0, .map (some gM), .int .i64 0, slF gD, slF gL] 68) (by kernel_rfl) (by rfl) ?_; intro gP wx hg hl ha hb; have HPM : Hid (gP ≠ gM) := Lib.hid (Nat.ne_of_gt (Nat.lt_of_lt_of_le HLM.out hg)); have HPD : Hid (gP ≠ gD) := Lib.hid (Nat.ne_of_gt (Nat.lt_of_lt_of_le HLD.out hg)); have HPL : Hid (gP ≠ gL) := Lib.hid (Nat.ne_of_gt (Nat.lt_of_lt_of_le HLL.out hg)); have HGP := Lib.hid (Nat.le_trans HC.out.2 hg); replace HM := keepA HM hb; replace HD := keepA HD hb; replace HL := keepA HL hb; have HP := Lib.hid ha; replace HC := keepB HC hb; clear hg hl ha hb)
          refine hK.out _ _ trivial (fun hHeld => ?_)
          (try simp only [Act.put, List.setIfInBounds_toArray, List.set_cons_zero, List.set_cons_succ])
          clear hK K
          refine rgTake (i := 5) (N := some 8) (oi := { dst := some 8, op := Op.assign (Operand.tmp 28), type := 63, pos := "asm.go:310", after := #[{ on := 4, ground := Ground.data }, { on := 0, ground := Ground.phase }, { on := 1, ground := Ground.phase }, { on := 2, ground := Ground.phase }, { on := 3, ground := Ground.phase }, { on := 4, ground := Ground.phase }], guard := none }) (v := ?_) #[true, true, true, true, true, true] rfl rfl (by kernel_rfl) (fun _ _ _ h => h) (Or.inl ⟨by rfl, ?_⟩) hHeld ?_
          rotate_left
          · intro w' hSw; (try dsimp only at hSw); skip; go_simp; try with_reducible rfl
          simp only [Act.put, List.setIfInBounds_toArray, List.set_cons_zero, List.set_cons_succ]
          refine rgDone (by kernel_rfl) ?_ _
          (go_wp2; go_meet; exact ⟨gP, gM, gD, gL, rfl, Lib.hid (prg_new HP.out HM.out HD.out HL.out HPM.out HPD.out HPL.out HMD.out HML.out HDL.out HGP.out HGM.out HGD.out HGL.out), HC⟩)
      · (refine rgMade (.cells (List.replicate 16384 (Value.int .u8 0)).toArray 5) (fun g => .slice (some ⟨g, 0, none⟩) 16384 16384) (run_mk 38 5 _ _ rfl Tryd.underlying38 (.int .u8 0) rfl infoB 16384 rfl rfl (by decide) _) (by rfl) ?_; intro gD wx hg hl ha hb; (try replace HM := keepA HM hb); (try replace HL := keepA HL hb); (try have HMD : Hid (gM ≠ gD) := Lib.hid (Nat.ne_of_lt (Nat.lt_of_lt_of_le HLM.out hg))); (try have HDL : Hid (gD ≠ gL) := Lib.hid (Nat.ne_of_gt (Nat.lt_of_lt_of_le HLL.out hg))); (try replace HLM := Lib.hid (Nat.lt_of_lt_of_le HLM.out hb.size)); (try replace HLL := Lib.hid (Nat.lt_of_lt_of_le HLL.out hb.size)); have HGD := Lib.hid (Nat.le_trans HC.out.2 hg); have HLD := Lib.hid hl; have HD := Lib.hid ha; replace HC := keepB HC hb; clear hg hl ha hb)
        refine hK.out _ _ trivial (fun hHeld => ?_)
        (try simp only [Act.put, List.setIfInBounds_toArray, List.set_cons_zero, List.set_cons_succ])
        clear hK K
        refine rgTwo (i := 0) (j := 2) (Ni := some 24) (Nj := some 26) (oi := { dst := some 24, op := Op.makeMap 64 none, type := 64, pos := "asm.go:310", after := #[], guard := none }) (oj := { dst := some 26, op := Op.makeSlice 65 (Operand.const (Value.int IntKind.i64 16384)) (Operand.const (Value.int IntKind.i64 16384)), type := 65, pos := "asm.go:310", after := #[], guard := none }) #[true, true, false, false, false, false] #[false, true, true, false, false, false] rfl rfl rfl rfl (by kernel_rfl) (fun K hK => ?_) (fun K hK => ?_)
        · (refine rgMade (.map #[] 0) (fun g => .map (some g)) (by kernel_rfl) (by rfl) ?_; intro gM wx hg hl ha hb; (try replace HD := keepA HD hb); (try replace HL := keepA HL hb); (try have HMD : Hid (gM ≠ gD) := Lib.hid (Nat.ne_of_gt (Nat.lt_of_lt_of_le HLD.out hg))); (try have HML : Hid (gM ≠ gL) := Lib.hid (Nat.ne_of_gt (Nat.lt_of_lt_of_le HLL.out hg))); (try replace HLD := Lib.hid (Nat.lt_of_lt_of_le HLD.out hb.size)); (try replace HLL := Lib.hid (Nat.lt_of_lt_of_le HLL.out hb.size)); have HGM := Lib.hid (Nat.le_trans HC.out.2 hg); have HLM := Lib.hid hl; have HM := Lib.hid ha; replace HC := keepB HC hb; clear hg hl ha hb)
          refine hK.out _ _ trivial (fun hHeld => ?_)
          (try simp only [Act.put, List.setIfInBounds_toArray, List.set_cons_zero, List.set_cons_succ])
          clear hK K
          refine rgCall (i := 2) (N := some 26) (oi := { dst := some 26, op := Op.makeSlice 65 (Operand.const (Value.int IntKind.i64 16384)) (Operand.const (Value.int IntKind.i64 16384)), type := 65, pos := "asm.go:310", after := #[], guard := none }) #[true, true, true, false, false, false] rfl rfl (by kernel_rfl) (fun K hK => ?_)
          (refine rgMade (.cells (List.replicate 16384 (Value.bool false)).toArray 4) (fun g => .slice (some ⟨g, 0, none⟩) 16384 16384) (run_mk 65 4 _ _ rfl Tryd.underlying65 (.bool false) rfl infoBl3 16384 rfl rfl (by decide) _) (by rfl) ?_; intro gL wx hg hl ha hb; (try replace HM := keepA HM hb); (try replace HD := keepA HD hb); (try have HML : Hid (gM ≠ gL) := Lib.hid (Nat.ne_of_lt (Nat.lt_of_lt_of_le HLM.out hg))); (try have HDL : Hid (gD ≠ gL) := Lib.hid (Nat.ne_of_lt (Nat.lt_of_lt_of_le HLD.out hg))); (try replace HLM := Lib.hid (Nat.lt_of_lt_of_le HLM.out hb.size)); (try replace HLD := Lib.hid (Nat.lt_of_lt_of_le HLD.out hb.size)); have HGL := Lib.hid (Nat.le_trans HC.out.2 hg); have HLL := Lib.hid hl; have HL := Lib.hid ha; replace HC := keepB HC hb; clear hg hl ha hb)
          refine hK.out _ _ trivial (fun hHeld => ?_)
          (try simp only [Act.put, List.setIfInBounds_toArray, List.set_cons_zero, List.set_cons_succ])
          clear hK K
          refine rgTake (i := 3) (N := some 27) (oi := { dst := some 27, op := Op.build 68 #[(2, Operand.tmp 24), (4, Operand.tmp 25), (5, Operand.tmp 26)], type := 68, pos := "asm.go:310", after := #[{ on := 0, ground := Ground.data }, { on := 1, ground := Ground.data }, { on := 2, ground := Ground.data }], guard := none }) (v := _) #[true, true, true, true, false, false] rfl rfl (by kernel_rfl) (fun _ _ _ h => h) (show YieldsIf Tryd.prog _ _ _ (.agg #[.slice none 0 0, .slice none 0 0, .map (some gM), .int .i64 0, slF gD, slF gL]) _ from .inl ⟨by rfl, fun _ _ => by kernel_rfl⟩) hHeld ?_
          simp only [Act.put, List.setIfInBounds_toArray, List.set_cons_zero, List.set_cons_succ]
          refine rgCall (i := 4) (N := some 28) (oi := { dst := some 28, op := Op.box 68 (Operand.tmp 27), type := 63, pos := "asm.go:310", after := #[{ on := 3, ground := Ground.data }], guard := none }) #[true, true, true, true, true, false] rfl rfl (by kernel_rfl) (fun K hK => ?_)
          (refine rgAlloc (.cells #[.slice none 0 0, .slice none 0 0, .map (some gM), .int .i64 0, slF gD, slF gL] 68) (by kernel_rfl) (by rfl) ?_; intro gP wx hg hl ha hb; have HPM : Hid (gP ≠ gM) := Lib.hid (Nat.ne_of_gt (Nat.lt_of_lt_of_le HLM.out hg)); have HPD : Hid (gP ≠ gD) := Lib.hid (Nat.ne_of_gt (Nat.lt_of_lt_of_le HLD.out hg)); have HPL : Hid (gP ≠ gL) := Lib.hid (Nat.ne_of_gt (Nat.lt_of_lt_of_le HLL.out hg)); have HGP := Lib.hid (Nat.le_trans HC.out.2 hg); replace HM := keepA HM hb; replace HD := keepA HD hb; replace HL := keepA HL hb; have HP := Lib.hid ha; replace HC := keepB HC hb; clear hg hl ha hb)
          refine hK.out _ _ trivial (fun hHeld => ?_)
          (try simp only [Act.put, List.setIfInBounds_toArray, List.set_cons_zero, List.set_cons_succ])
          clear hK K
          refine rgTake (i := 5) (N := some 8) (oi := { dst := some 8, op := Op.assign (Operand.tmp 28), type := 63, pos := "asm.go:310", after := #[{ on := 4, ground := Ground.data }, { on := 0, ground := Ground.phase }, { on := 1, ground := Ground.phase }, { on := 2, ground := Ground.phase }, { on := 3, ground := Ground.phase }, { on := 4, ground := Ground.phase }], guard := none }) (v := ?_) #[true, true, true, true, true, true] rfl rfl (by kernel_rfl) (fun _ _ _ h => h) (Or.inl ⟨by rfl, ?_⟩) hHeld ?_
          rotate_left
          · intro w' hSw; (try dsimp only at hSw); skip; go_simp; try with_reducible rfl
          simp only [Act.put, List.setIfInBounds_toArray, List.set_cons_zero, List.set_cons_succ]
          refine rgDone (by kernel_rfl) ?_ _
          (go_wp2; go_meet; exact ⟨gP, gM, gD, gL, rfl, Lib.hid (prg_new HP.out HM.out HD.out HL.out HPM.out HPD.out HPL.out HMD.out HML.out HDL.out HGP.out HGM.out HGD.out HGL.out), HC⟩)
        · (refine rgMade (.cells (List.replicate 16384 (Value.bool false)).toArray 4) (fun g => .slice (some ⟨g, 0, none⟩) 16384 16384) (run_mk 65 4 _ _ rfl Tryd.underlying65 (.bool false) rfl infoBl3 16384 rfl rfl (by decide) _) (by rfl) ?_; intro gL wx hg hl ha hb; (try replace HM := keepA HM hb); (try replace HD := keepA HD hb); (try have HML : Hid (gM ≠ gL) := Lib.hid (Nat.ne_of_lt (Nat.lt_of_lt_of_le HLM.out hg))); (try have HDL : Hid (gD ≠ gL) := Lib.hid (Nat.ne_of_lt (Nat.lt_of_lt_of_le HLD.out hg))); (try replace HLM := Lib.hid (Nat.lt_of_lt_of_le HLM.out hb.size)); (try replace HLD := Lib.hid (Nat.lt_of_lt_of_le HLD.out hb.size)); have HGL := Lib.hid (Nat.le_trans HC.out.2 hg); have HLL := Lib.hid hl; have HL := Lib.hid ha; replace HC := keepB HC hb; clear hg hl ha hb)
          refine hK.out _ _ trivial (fun hHeld => ?_)
          (try simp only [Act.put, List.setIfInBounds_toArray, List.set_cons_zero, List.set_cons_succ])
          clear hK K
          refine rgCall (i := 0) (N := some 24) (oi := { dst := some 24, op := Op.makeMap 64 none, type := 64, pos := "asm.go:310", after := #[], guard := none }) #[true, true, true, false, false, false] rfl rfl (by kernel_rfl) (fun K hK => ?_)
          (refine rgMade (.map #[] 0) (fun g => .map (some g)) (by kernel_rfl) (by rfl) ?_; intro gM wx hg hl ha hb; (try replace HD := keepA HD hb); (try replace HL := keepA HL hb); (try have HMD : Hid (gM ≠ gD) := Lib.hid (Nat.ne_of_gt (Nat.lt_of_lt_of_le HLD.out hg))); (try have HML : Hid (gM ≠ gL) := Lib.hid (Nat.ne_of_gt (Nat.lt_of_lt_of_le HLL.out hg))); (try replace HLD := Lib.hid (Nat.lt_of_lt_of_le HLD.out hb.size)); (try replace HLL := Lib.hid (Nat.lt_of_lt_of_le HLL.out hb.size)); have HGM := Lib.hid (Nat.le_trans HC.out.2 hg); have HLM := Lib.hid hl; have HM := Lib.hid ha; replace HC := keepB HC hb; clear hg hl ha hb)
          refine hK.out _ _ trivial (fun hHeld => ?_)
          (try simp only [Act.put, List.setIfInBounds_toArray, List.set_cons_zero, List.set_cons_succ])
          clear hK K
          refine rgTake (i := 3) (N := some 27) (oi := { dst := some 27, op := Op.build 68 #[(2, Operand.tmp 24), (4, Operand.tmp 25), (5, Operand.tmp 26)], type := 68, pos := "asm.go:310", after := #[{ on := 0, ground := Ground.data }, { on := 1, ground := Ground.data }, { on := 2, ground := Ground.data }], guard := none }) (v := _) #[true, true, true, true, false, false] rfl rfl (by kernel_rfl) (fun _ _ _ h => h) (show YieldsIf Tryd.prog _ _ _ (.agg #[.slice none 0 0, .slice none 0 0, .map (some gM), .int .i64 0, slF gD, slF gL]) _ from .inl ⟨by rfl, fun _ _ => by kernel_rfl⟩) hHeld ?_
          simp only [Act.put, List.setIfInBounds_toArray, List.set_cons_zero, List.set_cons_succ]
          refine rgCall (i := 4) (N := some 28) (oi := { dst := some 28, op := Op.box 68 (Operand.tmp 27), type := 63, pos := "asm.go:310", after := #[{ on := 3, ground := Ground.data }], guard := none }) #[true, true, true, true, true, false] rfl rfl (by kernel_rfl) (fun K hK => ?_)
          (refine rgAlloc (.cells #[.slice none 0 0, .slice none 0 0, .map (some gM), .int .i64 0, slF gD, slF gL] 68) (by kernel_rfl) (by rfl) ?_; intro gP wx hg hl ha hb; have HPM : Hid (gP ≠ gM) := Lib.hid (Nat.ne_of_gt (Nat.lt_of_lt_of_le HLM.out hg)); have HPD : Hid (gP ≠ gD) := Lib.hid (Nat.ne_of_gt (Nat.lt_of_lt_of_le HLD.out hg)); have HPL : Hid (gP ≠ gL) := Lib.hid (Nat.ne_of_gt (Nat.lt_of_lt_of_le HLL.out hg)); have HGP := Lib.hid (Nat.le_trans HC.out.2 hg); replace HM := keepA HM hb; replace HD := keepA HD hb; replace HL := keepA HL hb; have HP := Lib.hid ha; replace HC := keepB HC hb; clear hg hl ha hb)
          refine hK.out _ _ trivial (fun hHeld => ?_)
          (try simp only [Act.put, List.setIfInBounds_toArray, List.set_cons_zero, List.set_cons_succ])
          clear hK K
          refine rgTake (i := 5) (N := some 8) (oi := { dst := some 8, op := Op.assign (Operand.tmp 28), type := 63, pos := "asm.go:310", after := #[{ on := 4, ground := Ground.data }, { on := 0, ground := Ground.phase }, { on := 1, ground := Ground.phase }, { on := 2, ground := Ground.phase }, { on := 3, ground := Ground.phase }, { on := 4, ground := Ground.phase }], guard := none }) (v := ?_) #[true, true, true, true, true, true] rfl rfl (by kernel_rfl) (fun _ _ _ h => h) (Or.inl ⟨by rfl, ?_⟩) hHeld ?_
          rotate_left
          · intro w' hSw; (try dsimp only at hSw); skip; go_simp; try with_reducible rfl
          simp only [Act.put, List.setIfInBounds_toArray, List.set_cons_zero, List.set_cons_succ]
          refine rgDone (by kernel_rfl) ?_ _
          (go_wp2; go_meet; exact ⟨gP, gM, gD, gL, rfl, Lib.hid (prg_new HP.out HM.out HD.out HL.out HPM.out HPD.out HPL.out HMD.out HML.out HDL.out HGP.out HGM.out HGD.out HGL.out), HC⟩)
      · (refine rgMade (.cells (List.replicate 16384 (Value.bool false)).toArray 4) (fun g => .slice (some ⟨g, 0, none⟩) 16384 16384) (run_mk 65 4 _ _ rfl Tryd.underlying65 (.bool false) rfl infoBl3 16384 rfl rfl (by decide) _) (by rfl) ?_; intro gL wx hg hl ha hb; (try replace HM := keepA HM hb); (try replace HD := keepA HD hb); (try have HML : Hid (gM ≠ gL) := Lib.hid (Nat.ne_of_lt (Nat.lt_of_lt_of_le HLM.out hg))); (try have HDL : Hid (gD ≠ gL) := Lib.hid (Nat.ne_of_lt (Nat.lt_of_lt_of_le HLD.out hg))); (try replace HLM := Lib.hid (Nat.lt_of_lt_of_le HLM.out hb.size)); (try replace HLD := Lib.hid (Nat.lt_of_lt_of_le HLD.out hb.size)); have HGL := Lib.hid (Nat.le_trans HC.out.2 hg); have HLL := Lib.hid hl; have HL := Lib.hid ha; replace HC := keepB HC hb; clear hg hl ha hb)
        refine hK.out _ _ trivial (fun hHeld => ?_)
        (try simp only [Act.put, List.setIfInBounds_toArray, List.set_cons_zero, List.set_cons_succ])
        clear hK K
        refine rgTwo (i := 0) (j := 1) (Ni := some 24) (Nj := some 25) (oi := { dst := some 24, op := Op.makeMap 64 none, type := 64, pos := "asm.go:310", after := #[], guard := none }) (oj := { dst := some 25, op := Op.makeSlice 38 (Operand.const (Value.int IntKind.i64 16384)) (Operand.const (Value.int IntKind.i64 16384)), type := 38, pos := "asm.go:310", after := #[], guard := none }) #[true, false, true, false, false, false] #[false, true, true, false, false, false] rfl rfl rfl rfl (by kernel_rfl) (fun K hK => ?_) (fun K hK => ?_)
        · (refine rgMade (.map #[] 0) (fun g => .map (some g)) (by kernel_rfl) (by rfl) ?_; intro gM wx hg hl ha hb; (try replace HD := keepA HD hb); (try replace HL := keepA HL hb); (try have HMD : Hid (gM ≠ gD) := Lib.hid (Nat.ne_of_gt (Nat.lt_of_lt_of_le HLD.out hg))); (try have HML : Hid (gM ≠ gL) := Lib.hid (Nat.ne_of_gt (Nat.lt_of_lt_of_le HLL.out hg))); (try replace HLD := Lib.hid (Nat.lt_of_lt_of_le HLD.out hb.size)); (try replace HLL := Lib.hid (Nat.lt_of_lt_of_le HLL.out hb.size)); have HGM := Lib.hid (Nat.le_trans HC.out.2 hg); have HLM := Lib.hid hl; have HM := Lib.hid ha; replace HC := keepB HC hb; clear hg hl ha hb)
          refine hK.out _ _ trivial (fun hHeld => ?_)
          (try simp only [Act.put, List.setIfInBounds_toArray, List.set_cons_zero, List.set_cons_succ])
          clear hK K
          refine rgCall (i := 1) (N := some 25) (oi := { dst := some 25, op := Op.makeSlice 38 (Operand.const (Value.int IntKind.i64 16384)) (Operand.const (Value.int IntKind.i64 16384)), type := 38, pos := "asm.go:310", after := #[], guard := none }) #[true, true, true, false, false, false] rfl rfl (by kernel_rfl) (fun K hK => ?_)
          (refine rgMade (.cells (List.replicate 16384 (Value.int .u8 0)).toArray 5) (fun g => .slice (some ⟨g, 0, none⟩) 16384 16384) (run_mk 38 5 _ _ rfl Tryd.underlying38 (.int .u8 0) rfl infoB 16384 rfl rfl (by decide) _) (by rfl) ?_; intro gD wx hg hl ha hb; (try replace HM := keepA HM hb); (try replace HL := keepA HL hb); (try have HMD : Hid (gM ≠ gD) := Lib.hid (Nat.ne_of_lt (Nat.lt_of_lt_of_le HLM.out hg))); (try have HDL : Hid (gD ≠ gL) := Lib.hid (Nat.ne_of_gt (Nat.lt_of_lt_of_le HLL.out hg))); (try replace HLM := Lib.hid (Nat.lt_of_lt_of_le HLM.out hb.size)); (try replace HLL := Lib.hid (Nat.lt_of_lt_of_le HLL.out hb.size)); have HGD := Lib.hid (Nat.le_trans HC.out.2 hg); have HLD := Lib.hid hl; have HD := Lib.hid ha; replace HC := keepB HC hb; clear hg hl ha hb)
          refine hK.out _ _ trivial (fun hHeld => ?_)
          (try simp only [Act.put, List.setIfInBounds_toArray, List.set_cons_zero, List.set_cons_succ])
          clear hK K
          refine rgTake (i := 3) (N := some 27) (oi := { dst := some 27, op := Op.build 68 #[(2, Operand.tmp 24), (4, Operand.tmp 25), (5, Operand.tmp 26)], type := 68, pos := "asm.go:310", after := #[{ on := 0, ground := Ground.data }, { on := 1, ground := Ground.data }, { on := 2, ground := Ground.data }], guard := none }) (v := _) #[true, true, true, true, false, false] rfl rfl (by kernel_rfl) (fun _ _ _ h => h) (show YieldsIf Tryd.prog _ _ _ (.agg #[.slice none 0 0, .slice none 0 0, .map (some gM), .int .i64 0, slF gD, slF gL]) _ from .inl ⟨by rfl, fun _ _ => by kernel_rfl⟩) hHeld ?_
          simp only [Act.put, List.setIfInBounds_toArray, List.set_cons_zero, List.set_cons_succ]
          refine rgCall (i := 4) (N := some 28) (oi := { dst := some 28, op := Op.box 68 (Operand.tmp 27), type := 63, pos := "asm.go:310", after := #[{ on := 3, ground := Ground.data }], guard := none }) #[true, true, true, true, true, false] rfl rfl (by kernel_rfl) (fun K hK => ?_)
          (refine rgAlloc (.cells #[.slice none 0 0, .slice none 0 0, .map (some gM), .int .i64 0, slF gD, slF gL] 68) (by kernel_rfl) (by rfl) ?_; intro gP wx hg hl ha hb; have HPM : Hid (gP ≠ gM) := Lib.hid (Nat.ne_of_gt (Nat.lt_of_lt_of_le HLM.out hg)); have HPD : Hid (gP ≠ gD) := Lib.hid (Nat.ne_of_gt (Nat.lt_of_lt_of_le HLD.out hg)); have HPL : Hid (gP ≠ gL) := Lib.hid (Nat.ne_of_gt (Nat.lt_of_lt_of_le HLL.out hg)); have HGP := Lib.hid (Nat.le_trans HC.out.2 hg); replace HM := keepA HM hb; replace HD := keepA HD hb; replace HL := keepA HL hb; have HP := Lib.hid ha; replace HC := keepB HC hb; clear hg hl ha hb)
          refine hK.out _ _ trivial (fun hHeld => ?_)
          (try simp only [Act.put, List.setIfInBounds_toArray, List.set_cons_zero, List.set_cons_succ])
          clear hK K
          refine rgTake (i := 5) (N := some 8) (oi := { dst := some 8, op := Op.assign (Operand.tmp 28), type := 63, pos := "asm.go:310", after := #[{ on := 4, ground := Ground.data }, { on := 0, ground := Ground.phase }, { on := 1, ground := Ground.phase }, { on := 2, ground := Ground.phase }, { on := 3, ground := Ground.phase }, { on := 4, ground := Ground.phase }], guard := none }) (v := ?_) #[true, true, true, true, true, true] rfl rfl (by kernel_rfl) (fun _ _ _ h => h) (Or.inl ⟨by rfl, ?_⟩) hHeld ?_
          rotate_left
          · intro w' hSw; (try dsimp only at hSw); skip; go_simp; try with_reducible rfl
          simp only [Act.put, List.setIfInBounds_toArray, List.set_cons_zero, List.set_cons_succ]
          refine rgDone (by kernel_rfl) ?_ _
          (go_wp2; go_meet; exact ⟨gP, gM, gD, gL, rfl, Lib.hid (prg_new HP.out HM.out HD.out HL.out HPM.out HPD.out HPL.out HMD.out HML.out HDL.out HGP.out HGM.out HGD.out HGL.out), HC⟩)
        · (refine rgMade (.cells (List.replicate 16384 (Value.int .u8 0)).toArray 5) (fun g => .slice (some ⟨g, 0, none⟩) 16384 16384) (run_mk 38 5 _ _ rfl Tryd.underlying38 (.int .u8 0) rfl infoB 16384 rfl rfl (by decide) _) (by rfl) ?_; intro gD wx hg hl ha hb; (try replace HM := keepA HM hb); (try replace HL := keepA HL hb); (try have HMD : Hid (gM ≠ gD) := Lib.hid (Nat.ne_of_lt (Nat.lt_of_lt_of_le HLM.out hg))); (try have HDL : Hid (gD ≠ gL) := Lib.hid (Nat.ne_of_gt (Nat.lt_of_lt_of_le HLL.out hg))); (try replace HLM := Lib.hid (Nat.lt_of_lt_of_le HLM.out hb.size)); (try replace HLL := Lib.hid (Nat.lt_of_lt_of_le HLL.out hb.size)); have HGD := Lib.hid (Nat.le_trans HC.out.2 hg); have HLD := Lib.hid hl; have HD := Lib.hid ha; replace HC := keepB HC hb; clear hg hl ha hb)
          refine hK.out _ _ trivial (fun hHeld => ?_)
          (try simp only [Act.put, List.setIfInBounds_toArray, List.set_cons_zero, List.set_cons_succ])
          clear hK K
          refine rgCall (i := 0) (N := some 24) (oi := { dst := some 24, op := Op.makeMap 64 none, type := 64, pos := "asm.go:310", after := #[], guard := none }) #[true, true, true, false, false, false] rfl rfl (by kernel_rfl) (fun K hK => ?_)
          (refine rgMade (.map #[] 0) (fun g => .map (some g)) (by kernel_rfl) (by rfl) ?_; intro gM wx hg hl ha hb; (try replace HD := keepA HD hb); (try replace HL := keepA HL hb); (try have HMD : Hid (gM ≠ gD) := Lib.hid (Nat.ne_of_gt (Nat.lt_of_lt_of_le HLD.out hg))); (try have HML : Hid (gM ≠ gL) := Lib.hid (Nat.ne_of_gt (Nat.lt_of_lt_of_le HLL.out hg))); (try replace HLD := Lib.hid (Nat.lt_of_lt_of_le HLD.out hb.size)); (try replace HLL := Lib.hid (Nat.lt_of_lt_of_le HLL.out hb.size)); have HGM := Lib.hid (Nat.le_trans HC.out.2 hg); have HLM := Lib.hid hl; have HM := Lib.hid ha; replace HC := keepB HC hb; clear hg hl ha hb)
          refine hK.out _ _ trivial (fun hHeld => ?_)
          (try simp only [Act.put, List.setIfInBounds_toArray, List.set_cons_zero, List.set_cons_succ])
          clear hK K
          refine rgTake (i := 3) (N := some 27) (oi := { dst := some 27, op := Op.build 68 #[(2, Operand.tmp 24), (4, Operand.tmp 25), (5, Operand.tmp 26)], type := 68, pos := "asm.go:310", after := #[{ on := 0, ground := Ground.data }, { on := 1, ground := Ground.data }, { on := 2, ground := Ground.data }], guard := none }) (v := _) #[true, true, true, true, false, false] rfl rfl (by kernel_rfl) (fun _ _ _ h => h) (show YieldsIf Tryd.prog _ _ _ (.agg #[.slice none 0 0, .slice none 0 0, .map (some gM), .int .i64 0, slF gD, slF gL]) _ from .inl ⟨by rfl, fun _ _ => by kernel_rfl⟩) hHeld ?_
          simp only [Act.put, List.setIfInBounds_toArray, List.set_cons_zero, List.set_cons_succ]
          refine rgCall (i := 4) (N := some 28) (oi := { dst := some 28, op := Op.box 68 (Operand.tmp 27), type := 63, pos := "asm.go:310", after := #[{ on := 3, ground := Ground.data }], guard := none }) #[true, true, true, true, true, false] rfl rfl (by kernel_rfl) (fun K hK => ?_)
          (refine rgAlloc (.cells #[.slice none 0 0, .slice none 0 0, .map (some gM), .int .i64 0, slF gD, slF gL] 68) (by kernel_rfl) (by rfl) ?_; intro gP wx hg hl ha hb; have HPM : Hid (gP ≠ gM) := Lib.hid (Nat.ne_of_gt (Nat.lt_of_lt_of_le HLM.out hg)); have HPD : Hid (gP ≠ gD) := Lib.hid (Nat.ne_of_gt (Nat.lt_of_lt_of_le HLD.out hg)); have HPL : Hid (gP ≠ gL) := Lib.hid (Nat.ne_of_gt (Nat.lt_of_lt_of_le HLL.out hg)); have HGP := Lib.hid (Nat.le_trans HC.out.2 hg); replace HM := keepA HM hb; replace HD := keepA HD hb; replace HL := keepA HL hb; have HP := Lib.hid ha; replace HC := keepB HC hb; clear hg hl ha hb)
          refine hK.out _ _ trivial (fun hHeld => ?_)
          (try simp only [Act.put, List.setIfInBounds_toArray, List.set_cons_zero, List.set_cons_succ])
          clear hK K
          refine rgTake (i := 5) (N := some 8) (oi := { dst := some 8, op := Op.assign (Operand.tmp 28), type := 63, pos := "asm.go:310", after := #[{ on := 4, ground := Ground.data }, { on := 0, ground := Ground.phase }, { on := 1, ground := Ground.phase }, { on := 2, ground := Ground.phase }, { on := 3, ground := Ground.phase }, { on := 4, ground := Ground.phase }], guard := none }) (v := ?_) #[true, true, true, true, true, true] rfl rfl (by kernel_rfl) (fun _ _ _ h => h) (Or.inl ⟨by rfl, ?_⟩) hHeld ?_
          rotate_left
          · intro w' hSw; (try dsimp only at hSw); skip; go_simp; try with_reducible rfl
          simp only [Act.put, List.setIfInBounds_toArray, List.set_cons_zero, List.set_cons_succ]
          refine rgDone (by kernel_rfl) ?_ _
          (go_wp2; go_meet; exact ⟨gP, gM, gD, gL, rfl, Lib.hid (prg_new HP.out HM.out HD.out HL.out HPM.out HPD.out HPL.out HMD.out HML.out HDL.out HGP.out HGM.out HGD.out HGL.out), HC⟩)
    case rest =>
      clear HC
      obtain ⟨gP, gM, gD, gL, rfl, HP, HC⟩ := hcut
      obtain ⟨B, hBe⟩ : ∃ B, w2.heap.size = B := ⟨_, rfl⟩
      have HBW : Hid (w.heap.size ≤ w2.heap.size) := Lib.hid HB.out.2
      have HRB : Hid (gR < B) := Lib.hid (hBe ▸ (Array.getElem?_eq_some_iff.1 HR.out).1)
      rw [hBe] at HP
      have HBE := Lib.hid hBe
      have HG0 : Hid ((⟨.slice none 0 0, .slice none 0 0, gP, gM, gD, gL⟩ : PS).gP = gP) := Lib.hid rfl
      obtain ⟨s0, hs0⟩ : ∃ s0 : PS, s0 = ⟨.slice none 0 0, .slice none 0 0, gP, gM, gD, gL⟩ := ⟨_, rfl⟩
      rw [← hs0] at HP HG0
      obtain ⟨n, hn⟩ : ∃ n, LS.length = n := ⟨_, rfl⟩
      have HN := Lib.hid hn
      have HLL := Lib.hid HLN.out.1
      have hn6 : n ≤ 60000 := by rw [← hn]; exact HLN.out.2
      rw [hn] at hcap
      rw [hn]
      clear hs0 hn hBe HLN gM gD gL
      go_wp2
      go_loopg [31] n (fun gk j wr => ∃ (k : Nat) (s1 : PS) (p1 : Prg) (rs1 : List RowM), j = .int .i64 (k : Nat) ∧ k + gk = n ∧ Hid (s1.gP = gP) ∧ Hid (firstA p1 (LS.drop k) k = R1) ∧ Hid (PrgAt wr B s1 p1 rs1) ∧ Hid (Below w2.heap.size w2 wr ∧ w2.heap.size ≤ wr.heap.size) ∧ Hid (GoodP p1 ∧ p1.vals.length ≤ 10001 * k ∧ p1.rows.length = k))
      case atStart => exact ⟨0, s0, p00, [], rfl, by omega, HG0, HR1, HP, HC, Lib.hid ⟨good00, Nat.le_refl _, rfl⟩⟩
      case round =>
        clear HP HC HR1 HG0
        obtain ⟨k, s1, p1, rs1, rfl, hk, HG1, HR1, HP, HC, HGD⟩ := hrel
        have HK := Lib.hid hk
        clear hk
        by_cases hlt : k < n
        · obtain ⟨l, hx0⟩ : ∃ x, LS[k]? = some x := ⟨_, List.getElem?_eq_getElem (by rw [HN.out]; exact hlt)⟩
          have hl1 : l.length ≤ 10000 := HLL.out l (List.mem_of_getElem? hx0)
          have HRW : Hid (RdW wr A LS) := Lib.hid (HRD.out.below HC.out.1)
          obtain ⟨b, off, rfl, -⟩ := HRD.out (by rw [HN.out]; omega)
          have x0 : wr.cell? ⟨b, off + k, none⟩ = some (.string (bs l)) := rdw_at HRW.out hx0
          have hr := HR1.out
          rw [drop_cons hx0, firstA_cons] at hr
          have hSw := keepS HS HC.out.1
          have hgd := HGD.out
          have hgf := fun h0 => good_first (p := p1) (l := l) hgd.1 hl1 h0
          have hl9 : l.length ≤ 90000 := by omega
          have hv9 : p1.vals.length ≤ 900000000 := by omega
          have hm9 : p1.names.length ≤ 900000000 := by rw [hgd.1.w.names]; exact hv9
          have hr9 : p1.rows.length ≤ 1000000 := by omega
          obtain ⟨⟨E, p2⟩, hE⟩ : ∃ q, firstV p1 l = q := ⟨_, rfl⟩
          rw [hE] at hr hgf
          simp only at hr hgf
          have HFV : Hid (∀ w', PrgAt w' B s1 p1 rs1 → St m w' → Calls Tryd.prog 25 #[.pointer (some ⟨gP, 0, none⟩), .string (bs l)] w' fun e w'' => PrgPost w' B s1 (E, p2) e w'') := Lib.hid (fun w' h1 h2 => by
            have := first_at B s1 p1 rs1 l m w' HG1.out h1 hl9 h2.1 hv9 hm9 hr9
            rw [hE] at this
            exact this)
          have HGF := Lib.hid hgf
          have HGV := Lib.hid hgd
          clear hE hx0 hgd hgf hl9 hv9 hm9 hr9 HR1 hl1 HRW
          by_cases h0 : E = 0
          · subst h0
            rw [if_pos rfl] at hr
            have HR1 := Lib.hid hr
            clear hr
            go_wp2_with (go_at_call 25; refine (HFV.out _ HP.out hSw.out).mono ?_; intro e wz hq; have HQ := Lib.hid hq; obtain ⟨rfl, -, -⟩ := hq)
            obtain ⟨s2, rs2, hnx, hp2⟩ := HQ.out.2.2 rfl
            have hb : Below B wr wz := HQ.out.2.1.toBelow (by rw [← HBE.out]; exact HC.out.2) (fun k hk => HP.out.ge k hk)
            rw [← HBE.out] at hb
            have hgf := HGF.out (by first | rfl | trivial)
            have hgv := HGV.out
            go_roundg (gk - 1)
            case measure => have := HK.out; omega
            case rel =>
              refine ⟨k + 1, s2, p2, rs2, rfl, by have := HK.out; omega, Lib.hid (hnx.1.trans HG1.out), HR1, Lib.hid hp2, Lib.hid ⟨HC.out.1.trans hb, Nat.le_trans HC.out.2 hb.size⟩, Lib.hid ⟨hgf.1, by omega, by omega⟩⟩
          · rw [if_neg h0] at hr
            have HR1 := Lib.hid hr
            have hEi : ¬ (E : Int) = 0 := by omega
            have q2 : ((E : Int) != 0) = true := bne_iff_ne.2 hEi
            clear hr
            go_wp2_with (first | (go_at_call 25; refine (HFV.out _ HP.out hSw.out).mono ?_; intro e wz hq; have HQ := Lib.hid hq; obtain ⟨rfl, -, -⟩ := hq; have hb : Below B wr wz := HQ.out.2.1.toBelow (by rw [← HBE.out]; exact HC.out.2) (fun k hk => HP.out.ge k hk); rw [← HBE.out] at hb; replace hb := HC.out.1.trans hb; replace HR := keepA HR hb; replace HB := keepB HB hb; clear hb) | (refine wlBuild rfl 34 #[] rfl (.agg (imA 0 none 0 0)) (by kernel_rfl) ?_) | (refine rowStore (by rfl) 34 _ _ rfl gR rfl (imA 0 none 0 0) rfl HR.out infoIm rfl (imA_one _ _ _ _) ?_; intro w9 ha ho; replace HR := Lib.hid ha; replace HB := keepBo HB HGR.out ho; clear ha ho))
            refine bodyPost_ret (res4 rfl _ _ gR 34 (imA 0 none 0 0) (0, 0) _ rfl HR.out Tryd.underlying34 rfl infoIm) rfl ?_
            have hz := HZ.out
            rw [← HR1.out] at hz
            unfold asmP at hz
            rw [if_neg h0] at hz
            rw [← hz]
            exact asmTo_bad HB.out.1
        · obtain rfl : k = n := by have := HK.out; omega
          have hr := HR1.out
          rw [List.drop_eq_nil_of_le (by rw [HN.out]; exact Nat.le_refl _)] at hr
          have hr2 : ((0, 0), p1) = R1 := hr
          have hz := HZ.out
          rw [← hr2] at hz
          unfold asmP at hz
          rw [if_pos rfl] at hz
          simp only at hz
          obtain ⟨R2, hR2⟩ : ∃ R2, secondA p1 p1.rows 0 p1.data = R2 := ⟨_, rfl⟩
          rw [hR2] at hz
          have HZ2 := Lib.hid hz
          have HR2 := Lib.hid hR2
          obtain ⟨A1, c1, hrv⟩ := own_valk HP.out.rows
          obtain ⟨nr, hnr⟩ : ∃ nr, rs1.length = nr := ⟨_, rfl⟩
          have HNR := Lib.hid hnr
          have hnr6 : nr ≤ 60000 := by
            have h1 := HGD.out.2.2
            rw [HP.out.prow, List.length_map, hnr] at h1
            omega
          rw [hnr] at hrv
          have i0 : wr.cell? ⟨gP, 0, none⟩ = some (.slice A1 nr c1) := by rw [← HG1.out, ← hrv]; exact cell_of_row _ s1.gP 0 _ _ _ HP.out.cells
          have HRV := Lib.hid hrv
          have HPD : Hid (PrgAt wr B s1 { p1 with data := p1.data } rs1) := HP
          clear hz hr hr2 hR2 hrv hnr hlt HZ HR1 HP
          go_wp2
          go_loopg [51] nr (fun gk j wr => ∃ (k : Nat) (D : List UInt8), j = .int .i64 (k : Nat) ∧ k + gk = nr ∧ Hid (secondA p1 (p1.rows.drop k) k D = R2) ∧ Hid (PrgAt wr B s1 { p1 with data := D } rs1) ∧ Hid (Below w2.heap.size w2 wr ∧ w2.heap.size ≤ wr.heap.size))
          case atStart => exact ⟨0, p1.data, rfl, by omega, HR2, HPD, HC⟩
          case round =>
            clear HPD HC HR2 i0
            obtain ⟨j, D, rfl, hk, HR2, HP, HC⟩ := hrel
            have HK := Lib.hid hk
            clear hk
            by_cases hlt : j < nr
            · obtain ⟨⟨rA, rc, rws, ra⟩, hr0⟩ : ∃ r, rs1[j]? = some r := ⟨_, List.getElem?_eq_getElem (by rw [HNR.out]; exact hlt)⟩
              have hrow : p1.rows[j]? = some (rws, ra) := by
                have h1 := HP.out.prow
                simp only at h1
                rw [h1, List.getElem?_map, hr0]
                rfl
              have hr := HR2.out
              rw [drop_cons hrow, secondA_cons] at hr
              simp only at hr
              obtain ⟨k1, k2, k3, k4, k5⟩ := HP.out.rok _ (List.mem_of_getElem? hr0)
              simp only at k1 k2 k3 k4 k5
              obtain ⟨rl, hrl⟩ : ∃ rl, rws.length = rl := ⟨_, rfl⟩
              have hok := (HGD.out.1.rows _ (List.mem_of_getElem? hrow)).ok { p1 with data := D } HGD.out.1.w.vals
              have hrows : wr.ownsRow B 71 2 s1.rv rs1.length ((rs1.map rowA).flatMap Array.toList) := by
                have h1 := HP.out.rows
                unfold rowsC at h1
                rwa [List.flatMap_map]
              obtain ⟨A9, c9, he9, hrw, -, -⟩ := RwA.of_own (by decide) (fun r hr => by obtain ⟨q, _, rfl⟩ := List.mem_map.1 hr; rfl) hrows
              rw [HRV.out] at he9
              injection he9 with e1 e2 e3
              subst e1 e3
              rw [HNR.out] at hrw
              obtain ⟨b9, off9, rfl, -, -⟩ := hrw.2.2 (by omega)
              have hrg := RwA.at_ hrw (by omega) (j := j) (r := rowA ⟨rA, rc, rws, ra⟩) (by rw [List.getElem?_map, hr0]; rfl)
              have hrg2 : wr.rangeAt b9 (off9 + j * 2) (#[.slice rA rl rc, .int .u32 (ra : Nat)] : Array Value).toList := by rw [← hrl]; exact hrg
              obtain ⟨⟨E, D2⟩, hE⟩ : ∃ q, secondV p1 rws ra D = q := ⟨_, rfl⟩
              rw [hE] at hr
              have HSE : Hid (∀ w', PrgAt w' B s1 { p1 with data := D } rs1 → RdW w' rA rws → St m w' → Calls Tryd.prog 26 #[.pointer (some ⟨gP, 0, none⟩), .agg #[.slice rA rl rc, .int .u32 (ra : Nat)]] w' fun e w'' => e = .returned (.int .i64 (E : Nat)) ∧ DataTo w' w'' B s1 { p1 with data := D } rs1 D2) := Lib.hid (fun w' h1 h2 h3 => by
                have := second_any B s1 { p1 with data := D } rs1 rws rA rc ra m w' HG1.out h1 h2 k2 k4 hok HGD.out.1.w.vals h3
                rw [second_data, hE, hrl] at this
                exact this)
              have HK1 := Lib.hid k1
              have hSw := keepS HS HC.out.1
              have HRG := Lib.hid hrg2
              have hone : (#[.slice rA rl rc, .int .u32 (ra : Nat)] : Array Value).all (·.oneCell') = true := by simp [Value.oneCell']
              have HON := Lib.hid hone
              simp only at hr
              clear hr0 hrow k1 k2 k3 k4 k5 hrl hok hrows hrw hrg hrg2 hE HR2 e2 hone
              by_cases h0 : E = 0
              · subst h0
                rw [if_pos rfl] at hr
                have HR2 := Lib.hid hr
                clear hr
                go_wp2_with (first | (refine wlIdx (by rfl) 66 _ _ rfl 71 2 Tryd.underlying66 sizeRo b9 off9 nr c1 j rfl rfl hlt ?_) | (refine partLoad (by rfl) 71 _ rfl b9 (off9 + j * 2) rfl (cs := #[.slice rA rl rc, .int .u32 (ra : Nat)]) HRG.out Tryd.underlying71 rfl infoRoS ?_) | (refine wlAlloc (by rfl) 71 rfl #[.slice none 0 0, .int .u32 0] zeroRo ?_; intro gX w5 hg hl ha hb; have HNX := Lib.hid (And.intro hb hb.size); have HGX := Lib.hid hg; have HX := Lib.hid ha; clear ha hb hg hl) | (refine rowStore (by rfl) 71 _ _ rfl gX rfl #[.slice rA rl rc, .int .u32 (ra : Nat)] rfl HX.out infoRoS rfl HON.out ?_; intro w6 ha ho; replace HX := Lib.hid ha; have hb := (keepBo HNX HGX.out ho).out.1; replace HP := keepP HP hb; replace HC := keepB HC hb; replace HK1 := Lib.hid (HK1.out.below hb); replace hSw := keepS hSw hb; clear ha ho hb HNX HGX) | (refine rowLoad (by rfl) 71 _ rfl gX rfl (cs := #[.slice rA rl rc, .int .u32 (ra : Nat)]) HX.out Tryd.underlying71 rfl infoRoS ?_) | (go_at_call 26; refine (HSE.out _ HP.out HK1.out hSw.out).mono ?_; intro e wz hq; have HQ := Lib.hid hq; obtain ⟨rfl, -⟩ := hq))
                have hb : Below B w6 wz := HQ.out.2.tu.toBelow (by rw [← HBE.out]; exact HC.out.2) (fun k hk => by rw [List.mem_singleton.1 hk]; exact HP.out.ge _ s1.mem_D)
                rw [← HBE.out] at hb
                go_roundg (gk - 1)
                case measure => have := HK.out; omega
                case rel => exact ⟨j + 1, D2, rfl, by have := HK.out; omega, HR2, Lib.hid HQ.out.2.pa, Lib.hid ⟨HC.out.1.trans hb, Nat.le_trans HC.out.2 hb.size⟩⟩
              · rw [if_neg h0] at hr
                have HR2 := Lib.hid hr
                have hEi : ¬ (E : Int) = 0 := by omega
                have q2 : ((E : Int) != 0) = true := bne_iff_ne.2 hEi
                clear hr
                go_wp2_with (first | (refine wlIdx (by rfl) 66 _ _ rfl 71 2 Tryd.underlying66 sizeRo b9 off9 nr c1 j rfl rfl hlt ?_) | (refine partLoad (by rfl) 71 _ rfl b9 (off9 + j * 2) rfl (cs := #[.slice rA rl rc, .int .u32 (ra : Nat)]) HRG.out Tryd.underlying71 rfl infoRoS ?_) | (refine wlAlloc (by rfl) 71 rfl #[.slice none 0 0, .int .u32 0] zeroRo ?_; intro gX w5 hg hl ha hb; have HNX := Lib.hid (And.intro hb hb.size); have HGX := Lib.hid hg; have HX := Lib.hid ha; clear ha hb hg hl) | (refine rowStore (by rfl) 71 _ _ rfl gX rfl #[.slice rA rl rc, .int .u32 (ra : Nat)] rfl HX.out infoRoS rfl HON.out ?_; intro w6 ha ho; replace HX := Lib.hid ha; have hb := (keepBo HNX HGX.out ho).out.1; replace HP := keepP HP hb; replace HC := keepB HC hb; replace HK1 := Lib.hid (HK1.out.below hb); replace hSw := keepS hSw hb; clear ha ho hb HNX HGX) | (refine rowLoad (by rfl) 71 _ rfl gX rfl (cs := #[.slice rA rl rc, .int .u32 (ra : Nat)]) HX.out Tryd.underlying71 rfl infoRoS ?_) | ((go_at_call 26; refine (HSE.out _ HP.out HK1.out hSw.out).mono ?_; intro e wz hq; have HQ := Lib.hid hq; obtain ⟨rfl, -⟩ := hq); have hb : Below B w6 wz := HQ.out.2.tu.toBelow (by rw [← HBE.out]; exact HC.out.2) (fun k hk => by rw [List.mem_singleton.1 hk]; exact HP.out.ge _ s1.mem_D); rw [← HBE.out] at hb; replace hb := HC.out.1.trans hb; replace HR := keepA HR hb; replace HB := keepB HB hb; clear hb) | (refine wlBuild rfl 34 #[] rfl (.agg (imA 0 none 0 0)) (by kernel_rfl) ?_) | (refine rowStore (by rfl) 34 _ _ rfl gR rfl (imA 0 none 0 0) rfl HR.out infoIm rfl (imA_one _ _ _ _) ?_; intro w9 ha ho; replace HR := Lib.hid ha; replace HB := keepBo HB HGR.out ho; clear ha ho))
                refine bodyPost_ret (res4 rfl _ _ gR 34 (imA 0 none 0 0) (0, 0) _ rfl HR.out Tryd.underlying34 rfl infoIm) rfl ?_
                have hz := HZ2.out
                rw [← HR2.out] at hz
                unfold doneA at hz
                rw [if_neg h0] at hz
                rw [← hz]
                exact asmTo_bad HB.out.1
            · obtain rfl : j = nr := by have := HK.out; omega
              have hr := HR2.out
              rw [List.drop_eq_nil_of_le (by rw [HGD.out.2.2]; have h1 := HGD.out.2.2; rw [HP.out.prow, List.length_map, HNR.out] at h1; omega)] at hr
              have hr2 : ((0, 0), D) = R2 := hr
              have hz := HZ2.out
              rw [← hr2] at hz
              unfold doneA at hz
              rw [if_pos rfl] at hz
              simp only at hz
              obtain ⟨I, hI⟩ : ∃ I, imageV { p1 with data := D } = I := ⟨_, rfl⟩
              rw [hI] at hz
              have HI := Lib.hid hI
              have HZ3 := Lib.hid hz
              have HGP : Hid (gR ≠ gP) := Lib.hid (by have h1 := HP.out.ge _ s1.mem_P; rw [HG1.out] at h1; have := HRB.out; omega)
              have hVS : ∀ q ∈ ({ p1 with data := D } : Prg).vals, q.2 < 4294967296 := HGD.out.1.w.vals
              have HVS := Lib.hid hVS
              clear hr hr2 hz hI hlt HR2 HZ2 hVS
              go_upto_region 19 with fail
              replace HR := keepA HR HC.out.1
              replace HB := keepB HB HC.out.1
              replace HP := keepP HP (belowD _)
              replace HR := keepA1 HR
              replace HB := keepB1 HB
              refine rgStart (S := (fun w' => w'.heap[gP]? = some (.cells (prgA s1 { p1 with data := D }) 68 (0, 0)))) (n := 10) #[false, false, false, false, false, false, false, false, false, false] (by kernel_rfl) rfl rfl (by rw [← HG1.out]; exact HP.out.cells) (fun hHeld => ?_)
              refine rgTake (i := 0) (N := some 66) (oi := { dst := some 66, op := Op.move (Operand.tmp 8), type := 63, pos := "asm.go:321", after := #[], guard := none }) (v := ?_) #[true, false, false, false, false, false, false, false, false, false] rfl rfl (by kernel_rfl) (fun _ _ _ h => h) (Or.inl ⟨by rfl, ?_⟩) hHeld ?_
              rotate_left
              · intro w' hSw; (try dsimp only at hSw); (have n1 : w'.cell? ⟨gP, 1, none⟩ = some s1.nv := cell_of_row _ gP 1 _ _ _ hSw; clear hSw); go_simp; try with_reducible rfl
              simp only [Act.put, List.setIfInBounds_toArray, List.set_cons_zero, List.set_cons_succ]
              refine rgTake (i := 2) (N := some 68) (oi := { dst := some 68, op := Op.move (Operand.tmp 8), type := 63, pos := "asm.go:321", after := #[{ on := 6, ground := Ground.gcOnly Departure.lateStores }], guard := none }) (v := ?_) #[true, false, true, false, false, false, false, false, false, false] rfl rfl (by kernel_rfl) (fun _ _ _ h => h) (Or.inl ⟨by rfl, ?_⟩) hHeld ?_
              rotate_left
              · intro w' hSw; (try dsimp only at hSw); (have n1 : w'.cell? ⟨gP, 1, none⟩ = some s1.nv := cell_of_row _ gP 1 _ _ _ hSw; clear hSw); go_simp; try with_reducible rfl
              simp only [Act.put, List.setIfInBounds_toArray, List.set_cons_zero, List.set_cons_succ]
              refine rgTake (i := 3) (N := some 69) (oi := { dst := some 69, op := Op.nilCheck (Operand.tmp 68), type := 0, pos := "asm.go:321", after := #[{ on := 2, ground := Ground.data }, { on := 6, ground := Ground.gcOnly Departure.lateStores }], guard := none }) (v := ?_) #[true, false, true, true, false, false, false, false, false, false] rfl rfl (by kernel_rfl) (fun _ _ _ h => h) (Or.inl ⟨by rfl, ?_⟩) hHeld ?_
              rotate_left
              · intro w' hSw; (try dsimp only at hSw); (have n1 : w'.cell? ⟨gP, 1, none⟩ = some s1.nv := cell_of_row _ gP 1 _ _ _ hSw; clear hSw); go_simp; try with_reducible rfl
              simp only [Act.put, List.setIfInBounds_toArray, List.set_cons_zero, List.set_cons_succ]
              refine rgTake (i := 4) (N := some 70) (oi := { dst := some 70, op := Op.fieldAddr 68 (Operand.tmp 69) 1, type := 0, pos := "asm.go:321", after := #[{ on := 3, ground := Ground.data }, { on := 6, ground := Ground.gcOnly Departure.lateStores }], guard := none }) (v := ?_) #[true, false, true, true, true, false, false, false, false, false] rfl rfl (by kernel_rfl) (fun _ _ _ h => h) (Or.inl ⟨by rfl, ?_⟩) hHeld ?_
              rotate_left
              · intro w' hSw; (try dsimp only at hSw); (have n1 : w'.cell? ⟨gP, 1, none⟩ = some s1.nv := cell_of_row _ gP 1 _ _ _ hSw; clear hSw); go_simp; try with_reducible rfl
              simp only [Act.put, List.setIfInBounds_toArray, List.set_cons_zero, List.set_cons_succ]
              refine rgTake (i := 5) (N := some 71) (oi := { dst := some 71, op := Op.load 35 (Operand.tmp 70), type := 35, pos := "asm.go:321", after := #[{ on := 4, ground := Ground.data }, { on := 6, ground := Ground.gcOnly Departure.lateStores }], guard := none }) (v := ?_) #[true, false, true, true, true, true, false, false, false, false] rfl rfl (by kernel_rfl) (fun _ _ _ h => h) (Or.inl ⟨by rfl, ?_⟩) hHeld ?_
              rotate_left
              · intro w' hSw; (try dsimp only at hSw); (have n1 : w'.cell? ⟨gP, 1, none⟩ = some s1.nv := cell_of_row _ gP 1 _ _ _ hSw; clear hSw); go_simp; try with_reducible rfl
              simp only [Act.put, List.setIfInBounds_toArray, List.set_cons_zero, List.set_cons_succ]
              refine rgCall (i := 1) (N := some 67) (oi := { dst := some 67, op := Op.call { callee := Callee.value (Operand.func 27), args := #[Operand.tmp 66], argTypes := #[63] }, type := 34, pos := "asm.go:321", after := #[{ on := 0, ground := Ground.data }], guard := none }) #[true, true, true, true, true, true, false, false, false, false] rfl rfl (by kernel_rfl) (fun K hK => ?_)
              go_simp
              (go_at_call 27; refine (image_any B s1 { p1 with data := D } rs1 _ HG1.out HP.out HVS.out).mono ?_; rw [HI.out]; rintro e w7 ⟨⟨S, c7, ms, rfl, hms, hsg⟩, hb⟩; have HSG := Lib.hid (hsg.weak HB.out.2); have HMS := Lib.hid hms; replace HP := keepP HP hb; replace HR := keepA HR hb; replace HB := keepB HB hb; have HQ : Hid (w7.heap[gP]? = some (.cells (prgA s1 { p1 with data := D }) 68 (0, 0))) := Lib.hid (by rw [← HG1.out]; exact HP.out.cells); have HNM := Lib.hid HP.out.names; clear hb hms hsg)
              refine hK.out _ _ HQ.out (fun hHeld => ?_)
              (try simp only [Act.put, List.setIfInBounds_toArray, List.set_cons_zero, List.set_cons_succ])
              clear hK K
              refine rgCall (i := 6) (N := none) (oi := { dst := none, op := Op.store 34 (Operand.tmp 2) (Operand.tmp 67), type := 0, pos := "asm.go:321", after := #[{ on := 1, ground := Ground.data }, { on := 1, ground := Ground.chain }, { on := 0, ground := Ground.phase }, { on := 1, ground := Ground.phase }, { on := 2, ground := Ground.textOnly Departure.lateStores }, { on := 3, ground := Ground.textOnly Departure.lateStores }, { on := 4, ground := Ground.textOnly Departure.lateStores }, { on := 5, ground := Ground.textOnly Departure.lateStores }], guard := none }) #[true, true, true, true, true, true, true, false, false, false] rfl rfl (by kernel_rfl) (fun K hK => ?_)
              (refine rgStore (by rfl) 34 _ _ rfl gR rfl (imA I.1 S ms.length c7) rfl HR.out infoIm rfl (imA_one _ _ _ _) ?_; intro w8 ha ho; replace HSG := Lib.hid (HSG.out.only ho HR.out (by decide) (by decide)); replace HNM := Lib.hid (ownk_only HNM.out (fun j hj => by have h1 := (own_block HNM.out j hj).1; have := HRB.out; omega) ho); replace HQ := keepAo HQ (Ne.symm HGP.out) ho; replace HB := keepBo HB HGR.out ho; replace HR := Lib.hid ha; clear ha ho)
              refine hK.out _ _ HQ.out (fun hHeld => ?_)
              clear hK K
              refine rgTake (i := 7) (N := some 3) (oi := { dst := some 3, op := Op.assign (Operand.tmp 71), type := 35, pos := "asm.go:321", after := #[{ on := 5, ground := Ground.data }, { on := 6, ground := Ground.chain }, { on := 0, ground := Ground.phase }, { on := 1, ground := Ground.phase }, { on := 2, ground := Ground.phase }, { on := 3, ground := Ground.phase }, { on := 4, ground := Ground.phase }, { on := 5, ground := Ground.phase }, { on := 6, ground := Ground.phase }], guard := none }) (v := ?_) #[true, true, true, true, true, true, true, true, false, false] rfl rfl (by kernel_rfl) (fun _ _ _ h => h) (Or.inl ⟨by rfl, ?_⟩) hHeld ?_
              rotate_left
              · intro w' hSw; (try dsimp only at hSw); (have n1 : w'.cell? ⟨gP, 1, none⟩ = some s1.nv := cell_of_row _ gP 1 _ _ _ hSw; clear hSw); go_simp; try with_reducible rfl
              simp only [Act.put, List.setIfInBounds_toArray, List.set_cons_zero, List.set_cons_succ]
              refine rgTake (i := 8) (N := some 4) (oi := { dst := some 4, op := Op.assign (Operand.const (Value.int IntKind.i64 0)), type := 3, pos := "asm.go:321", after := #[{ on := 7, ground := Ground.chain }, { on := 0, ground := Ground.phase }, { on := 1, ground := Ground.phase }, { on := 2, ground := Ground.phase }, { on := 3, ground := Ground.phase }, { on := 4, ground := Ground.phase }, { on := 5, ground := Ground.phase }, { on := 6, ground := Ground.phase }, { on := 7, ground := Ground.phase }], guard := none }) (v := ?_) #[true, true, true, true, true, true, true, true, true, false] rfl rfl (by kernel_rfl) (fun _ _ _ h => h) (Or.inl ⟨by rfl, ?_⟩) hHeld ?_
              rotate_left
              · intro w' hSw; (try dsimp only at hSw); (have n1 : w'.cell? ⟨gP, 1, none⟩ = some s1.nv := cell_of_row _ gP 1 _ _ _ hSw; clear hSw); go_simp; try with_reducible rfl
              simp only [Act.put, List.setIfInBounds_toArray, List.set_cons_zero, List.set_cons_succ]
              refine rgTake (i := 9) (N := some 5) (oi := { dst := some 5, op := Op.assign (Operand.const (Value.int IntKind.i64 0)), type := 26, pos := "asm.go:321", after := #[{ on := 8, ground := Ground.chain }, { on := 0, ground := Ground.phase }, { on := 1, ground := Ground.phase }, { on := 2, ground := Ground.phase }, { on := 3, ground := Ground.phase }, { on := 4, ground := Ground.phase }, { on := 5, ground := Ground.phase }, { on := 6, ground := Ground.phase }, { on := 7, ground := Ground.phase }, { on := 8, ground := Ground.phase }], guard := none }) (v := ?_) #[true, true, true, true, true, true, true, true, true, true] rfl rfl (by kernel_rfl) (fun _ _ _ h => h) (Or.inl ⟨by rfl, ?_⟩) hHeld ?_
              rotate_left
              · intro w' hSw; (try dsimp only at hSw); (have n1 : w'.cell? ⟨gP, 1, none⟩ = some s1.nv := cell_of_row _ gP 1 _ _ _ hSw; clear hSw); go_simp; try with_reducible rfl
              simp only [Act.put, List.setIfInBounds_toArray, List.set_cons_zero, List.set_cons_succ]
              refine rgDone (by kernel_rfl) ?_ _
              go_wp2
              refine bodyPost_ret (res4 rfl _ _ gR 34 (imA I.1 S ms.length c7) (0, 0) _ rfl HR.out Tryd.underlying34 rfl infoIm) rfl ?_
              rw [← HZ3.out]
              exact ⟨⟨S, c7, ms, s1.nv, rfl, HMS.out, HSG.out, ownk_weak HNM.out (by rw [← HBE.out]; exact HBW.out)⟩, HB.out.1⟩
end Go.Proofs.YtaclidjhgpkmpaaDoor.My
set_option linter.unusedVariables false
set_option linter.unusedSimpArgs false
namespace Go.Proofs.YtaclidjhgpkmpaaDoor.My
open Go.RowKit
theorem segsTo_succ (l : List Bool) (d : List UInt8) (k : Nat) : segsTo l d (k + 1) = if l.getD k false = true then stepS (segsTo l d k) k (d.getD k 0) else segsTo l d k := rfl
theorem segs_gap {l : List Bool} (d : List UInt8) {a : Nat} : ∀ n, (∀ k, a ≤ k → k < a + n → l.getD k false = false) → segsTo l d (a + n) = segsTo l d a
  | 0, _ => rfl
  | n + 1, h => by
    rw [← Nat.add_assoc, segsTo_succ, h (a + n) (by omega) (by omega), if_neg (by decide)]
    exact segs_gap d n (fun k h1 h2 => h k h1 (by omega))
theorem step_app (P : List SegV) (a : Nat) (b : UInt8) (h : ∀ s, P.getLast? = some s → s.at_ + s.d.length ≠ a) : stepS P a b = P ++ [⟨a, [b]⟩] := by
  rcases List.eq_nil_or_concat P with q | ⟨S, s, q⟩
  · rw [q]; rfl
  · (try rw [List.concat_eq_append] at q)
    rw [q]
    exact step_new S s a b (h s (by rw [q]; simp))
theorem segs_run {l : List Bool} {d : List UInt8} {a : Nat} {P : List SegV} (hP : segsTo l d a = P) (hne : ∀ s, P.getLast? = some s → s.at_ + s.d.length ≠ a) (x : List UInt8) (h : ∀ j, j < x.length → l.getD (a + j) false = true ∧ d.getD (a + j) 0 = x.getD j 0) :
    ∀ n, n + 1 ≤ x.length → segsTo l d (a + (n + 1)) = P ++ [⟨a, x.take (n + 1)⟩]
  | 0, hn => by
    obtain ⟨h1, h2⟩ := h 0 (by omega)
    rw [Nat.add_zero] at h1 h2
    rw [show a + (0 + 1) = a + 1 from rfl, segsTo_succ, h1, if_pos rfl, hP, h2, step_app P a _ hne]
    cases x with
    | nil => simp at hn
    | cons b t => rfl
  | n + 1, hn => by
    obtain ⟨h1, h2⟩ := h (n + 1) (by omega)
    rw [show a + (n + 1 + 1) = (a + (n + 1)) + 1 from rfl, segsTo_succ, h1, if_pos rfl, segs_run hP hne x h n (by omega), h2, step_on P ⟨a, x.take (n + 1)⟩ _ _ (by show a + (x.take (n + 1)).length = _; rw [List.length_take]; omega)]
    have e : x.take (n + 1) ++ [x.getD (n + 1) 0] = x.take (n + 1 + 1) := by
      rw [List.take_add_one (i := n + 1), List.getD_eq_getElem?_getD, List.getElem?_eq_getElem (show n + 1 < x.length by omega)]
      rfl
    show P ++ [⟨a, x.take (n + 1) ++ [x.getD (n + 1) 0]⟩] = _
    rw [e]
/-- Segments lie in memory from a place on, apart, and nothing else. -/
def Lies (l : List Bool) (d : List UInt8) : Nat → List SegV → Prop
  | e, [] => ∀ k, e ≤ k → k < 16384 → l.getD k false = false
  | e, s :: r => e ≤ s.at_ ∧ s.d ≠ [] ∧ (∀ k, e ≤ k → k < s.at_ → l.getD k false = false) ∧ (∀ j, j < s.d.length → l.getD (s.at_ + j) false = true ∧ d.getD (s.at_ + j) 0 = s.d.getD j 0) ∧ s.at_ + s.d.length ≤ 16384 ∧ (∀ t, r.head? = some t → s.at_ + s.d.length < t.at_) ∧ Lies l d (s.at_ + s.d.length) r
theorem segs_lies {l : List Bool} {d : List UInt8} : ∀ (S P : List SegV) (e : Nat), e ≤ 16384 → segsTo l d e = P → (∀ s t, P.getLast? = some s → S.head? = some t → s.at_ + s.d.length ≠ t.at_) → Lies l d e S → segsTo l d 16384 = P ++ S
  | [], P, e, he, hP, _, h => by
    have h1 := segs_gap d (l := l) (a := e) (16384 - e) (fun k h1 h2 => h k h1 (by omega))
    rw [show e + (16384 - e) = 16384 by omega] at h1
    rw [h1, hP, List.append_nil]
  | s :: r, P, e, he, hP, hne, h => by
    obtain ⟨h1, h2, h3, h4, h5, h6, h7⟩ := h
    have hg := segs_gap d (l := l) (a := e) (s.at_ - e) (fun k h1 h2 => h3 k h1 (by omega))
    rw [show e + (s.at_ - e) = s.at_ by omega, hP] at hg
    have hl : 0 < s.d.length := List.length_pos_iff.2 h2
    have hr := segs_run hg (fun t ht => hne t s ht rfl) s.d h4 (s.d.length - 1) (by omega)
    rw [show s.d.length - 1 + 1 = s.d.length by omega, List.take_length] at hr
    have := segs_lies r (P ++ [⟨s.at_, s.d⟩]) (s.at_ + s.d.length) h5 hr (fun a t ha ht => by
      rw [List.getLast?_concat] at ha
      injection ha with ha
      subst ha
      have := h6 t ht
      show s.at_ + s.d.length ≠ t.at_
      omega) h7
    rw [this, List.append_assoc]
    rfl
theorem segs_all {l : List Bool} {d : List UInt8} {S : List SegV} (h : Lies l d 0 S) : segsTo l d 16384 = S := by
  have := segs_lies S [] 0 (by decide) rfl (fun s t hs => by cases hs) h
  simpa using this
theorem getD_set {α : Type} (l : List α) (i k : Nat) (v z : α) : (l.set i v).getD k z = if i = k ∧ k < l.length then v else l.getD k z := by
  rw [List.getD_eq_getElem?_getD, List.getD_eq_getElem?_getD, List.getElem?_set]
  by_cases h : i = k
  · subst h
    by_cases h2 : i < l.length
    · rw [if_pos rfl, if_pos h2, if_pos ⟨rfl, h2⟩]; rfl
    · rw [if_pos rfl, if_neg h2, if_neg (fun q => h2 q.2), List.getElem?_eq_none (by omega)]
  · rw [if_neg h, if_neg (fun q => h q.1)]
theorem setR_get (l : List Bool) (h : Nat) : ∀ (n k : Nat), (setR l h n).getD k false = if h ≤ k ∧ k < h + n ∧ k < l.length then true else l.getD k false
  | 0, k => by rw [setR, if_neg (by omega)]
  | n + 1, k => by
    rw [setR, getD_set, setR_len, setR_get l h n k]
    by_cases h1 : h + n = k ∧ k < l.length
    · rw [if_pos h1, if_pos (by omega)]
    · rw [if_neg h1]
      by_cases h2 : h ≤ k ∧ k < h + n ∧ k < l.length
      · rw [if_pos h2, if_pos (by omega)]
      · rw [if_neg h2, if_neg (by omega)]
theorem putV_get (l : List UInt8) (i v : Nat) : ∀ (n k : Nat), (putV l i v n).getD k 0 = if i ≤ k ∧ k < i + n ∧ k < l.length then UInt8.ofNat (v / 256 ^ (k - i)) else l.getD k 0
  | 0, k => by rw [putV, if_neg (by omega)]
  | n + 1, k => by
    rw [putV, getD_set, putV_len, putV_get l i v n k]
    by_cases h1 : i + n = k ∧ k < l.length
    · rw [if_pos h1, if_pos (by omega), show k - i = n by omega]
    · rw [if_neg h1]
      by_cases h2 : i ≤ k ∧ k < i + n ∧ k < l.length
      · rw [if_pos h2, if_pos (by omega)]
      · rw [if_neg h2, if_neg (by omega)]
theorem anyR_no {l : List Bool} {h n : Nat} (hl : ∀ k, h ≤ k → k < h + n → l.getD k false = false) : anyR l h n = false := by
  unfold anyR
  rw [List.any_eq_false]
  intro b hb
  obtain ⟨j, hj⟩ := List.getElem?_of_mem hb
  have hj2 : j < n := by
    rcases Nat.lt_or_ge j n with q | q
    · exact q
    · rw [List.getElem?_take, if_neg (by omega)] at hj; cases hj
  rw [List.getElem?_take_of_lt hj2, List.getElem?_drop] at hj
  have := hl (h + j) (by omega) (by omega)
  rw [List.getD_eq_getElem?_getD, hj] at this
  simp at this
  simp [this]
theorem lay_ok {p : Prg} {n : Nat} {whole : Bool} (h1 : whole = true → p.here % 4 = 0) (h2 : p.here + n ≤ 16384) (h3 : ∀ k, p.here ≤ k → k < p.here + n → p.laid.getD k false = false) : layV p n whole = (0, { p with laid := setR p.laid p.here n, here := p.here + n }) := by
  unfold layV
  rw [if_neg (by rintro (q | q); exact q.2 (h1 q.1); omega), anyR_no h3, if_neg (by decide)]
theorem rep_getD {α : Type} (n k : Nat) (z : α) : (List.replicate n z).getD k z = z := by
  rw [List.getD_eq_getElem?_getD, List.getElem?_replicate]
  split <;> rfl
end Go.Proofs.YtaclidjhgpkmpaaDoor.My
set_option linter.unusedVariables false
set_option linter.unusedSimpArgs false
namespace Go.Proofs.YtaclidjhgpkmpaaDoor.My
open Go.RowKit
theorem bs_ext (l : List UInt8) (a b : Nat) : (bs l).extract a b = bs ((l.drop a).take (b - a)) := ByteArray.extract_mk l a b
theorem mid_step {l : List UInt8} {F i : Nat} (hF : F ≤ i) (hi : i < l.length) : (l.drop F).take (i + 1 - F) = (l.drop F).take (i - F) ++ [l[i]] := by
  have h : i - F < (l.drop F).length := by rw [List.length_drop]; omega
  rw [show i + 1 - F = i - F + 1 by omega, List.take_succ_eq_append_getElem h, List.getElem_drop]
  congr 2
  simp only [show F + (i - F) = i by omega]
def wordsT : List UInt8 → Option (List UInt8) → List (List UInt8)
  | [], none => []
  | [], some p => [p]
  | c :: r, none => if btw c.toNat = true then wordsT r none else wordsT r (some [c])
  | c :: r, some p => if btw c.toNat = true then p :: wordsT r none else wordsT r (some (p ++ [c]))
theorem wordsR_list (l : List UInt8) : ∀ (b i : Nat) (f : Option Nat), i + b = l.length → (∀ F, f = some F → F ≤ i) → wordsR (bs l) b i f = (wordsT (l.drop i) (f.map fun F => (l.drop F).take (i - F))).map bs
  | 0, i, none, h, _ => by rw [List.drop_eq_nil_of_le (by omega)]; rfl
  | 0, i, some F, h, _ => by
    rw [List.drop_eq_nil_of_le (by omega), wordsR, bs_ext, bs_size, show l.length = i by omega]
    rfl
  | b + 1, i, none, h, _ => by
    have hi : i < l.length := by omega
    rw [List.drop_eq_getElem_cons hi, wordsR, bs_at hi]
    show _ = (if btw l[i].toNat = true then _ else _ : List (List UInt8)).map bs
    have e : (l.drop i).take (i + 1 - i) = [l[i]] := by rw [mid_step (Nat.le_refl i) hi, Nat.sub_self]; rfl
    rw [wordsR_list l b (i + 1) none (by omega) (fun F hF => by cases hF), wordsR_list l b (i + 1) (some i) (by omega) (fun F hF => by cases hF; omega)]
    show _ = _
    simp only [Option.map_some, Option.map_none, e]
    split <;> rfl
  | b + 1, i, some F, h, hF => by
    have hi : i < l.length := by omega
    have hF' := hF F rfl
    rw [List.drop_eq_getElem_cons hi, wordsR, bs_at hi]
    show _ = (if btw l[i].toNat = true then _ else _ : List (List UInt8)).map bs
    have e := mid_step hF' hi
    rw [wordsR_list l b (i + 1) none (by omega) (fun F hF => by cases hF), wordsR_list l b (i + 1) (some F) (by omega) (fun F hF => by cases hF; omega), bs_ext]
    simp only [Option.map_some, Option.map_none, e]
    split <;> rfl
theorem wordsT_gap : ∀ (g r : List UInt8), (∀ c ∈ g, btw c.toNat = true) → wordsT (g ++ r) none = wordsT r none
  | [], r, _ => rfl
  | c :: g, r, h => by
    rw [List.cons_append, wordsT, if_pos (h c (by simp)), wordsT_gap g r (fun c hc => h c (by simp [hc]))]
theorem wordsT_in : ∀ (x : List UInt8) (p g r : List UInt8), (∀ c ∈ x, btw c.toNat = false) → g ≠ [] → (∀ c ∈ g, btw c.toNat = true) → wordsT (x ++ g ++ r) (some p) = (p ++ x) :: wordsT r none
  | [], p, g, r, _, hg, hb => by
    cases g with
    | nil => exact absurd rfl hg
    | cons c g =>
      rw [List.nil_append, List.cons_append, wordsT, if_pos (hb c (by simp)), wordsT_gap g r (fun c hc => hb c (by simp [hc])), List.append_nil]
  | c :: x, p, g, r, h, hg, hb => by
    rw [List.cons_append, List.cons_append, wordsT, if_neg (by rw [h c (by simp)]; decide), wordsT_in x (p ++ [c]) g r (fun c hc => h c (by simp [hc])) hg hb, List.append_assoc]
    rfl
theorem wordsT_one (x g r : List UInt8) (hx : x ≠ []) (h : ∀ c ∈ x, btw c.toNat = false) (hg : g ≠ []) (hb : ∀ c ∈ g, btw c.toNat = true) : wordsT (x ++ g ++ r) none = x :: wordsT r none := by
  cases x with
  | nil => exact absurd rfl hx
  | cons c x =>
    rw [List.cons_append, List.cons_append, wordsT, if_neg (by rw [h c (by simp)]; decide), wordsT_in x [c] g r (fun c hc => h c (by simp [hc])) hg hb]
    rfl
def linesT : List UInt8 → List UInt8 → List (List UInt8)
  | [], _ => []
  | c :: r, p => if c.toNat = 10 then p :: linesT r [] else linesT r (p ++ [c])
theorem linesR_list (l : List UInt8) : ∀ (b i F : Nat), i + b = l.length → F ≤ i → linesR (bs l) b i F = (linesT (l.drop i) ((l.drop F).take (i - F))).map bs
  | 0, i, F, h, _ => by rw [List.drop_eq_nil_of_le (by omega)]; rfl
  | b + 1, i, F, h, hF => by
    have hi : i < l.length := by omega
    rw [List.drop_eq_getElem_cons hi, linesR, bs_at hi, linesR_list l b (i + 1) (i + 1) (by omega) (Nat.le_refl _), linesR_list l b (i + 1) F (by omega) (by omega), bs_ext, mid_step hF hi, Nat.sub_self]
    show _ = (if l[i].toNat = 10 then _ else _ : List (List UInt8)).map bs
    simp only [List.take_zero]
    split <;> rfl
theorem linesT_one : ∀ (x p r : List UInt8), (∀ c ∈ x, c.toNat ≠ 10) → linesT (x ++ [10] ++ r) p = (p ++ x) :: linesT r []
  | [], p, r, _ => by
    show (if (10 : UInt8).toNat = 10 then _ else _ : List (List UInt8)) = _
    rw [if_pos (show UInt8.toNat 10 = 10 from rfl), List.append_nil]
    rfl
  | c :: x, p, r, h => by
    rw [List.cons_append, List.cons_append, linesT, if_neg (h c (by simp)), linesT_one x (p ++ [c]) r (fun c hc => h c (by simp [hc])), List.append_assoc]
    rfl
theorem plain_all {s : ByteArray} (h : ∀ i, i < s.size → okc (bAt s i) = true) : plainR s s.size 0 = true := by
  have key : ∀ b i, i + b ≤ s.size → plainR s b i = true := by
    intro b
    induction b with
    | zero => intro i _; rfl
    | succ b ih =>
      intro i hi
      rw [plainR, h i (by omega), ih (i + 1) (by omega)]; rfl
  exact key s.size 0 (by omega)
/-- A text of lines. -/
def joinN (ls : List (List UInt8)) : List UInt8 := (ls.map fun x => x ++ [10]).flatten
theorem joinN_cons (x : List UInt8) (r : List (List UInt8)) : joinN (x :: r) = x ++ [10] ++ joinN r := by simp [joinN]
theorem joinN_app (a b : List (List UInt8)) : joinN (a ++ b) = joinN a ++ joinN b := by simp [joinN]
theorem linesT_join : ∀ ls : List (List UInt8), (∀ x ∈ ls, ∀ c ∈ x, c.toNat ≠ 10) → linesT (joinN ls) [] = ls
  | [], _ => rfl
  | x :: r, h => by
    rw [joinN_cons, linesT_one x [] _ (h x (by simp)), linesT_join r (fun y hy => h y (by simp [hy]))]
    rfl
def ten (l : List UInt8) : Nat := (l.map fun c => if c.toNat = 10 then 1 else 0).sum
theorem ten_app (a b : List UInt8) : ten (a ++ b) = ten a + ten b := by simp [ten]
theorem ten_no : ∀ (x : List UInt8), (∀ c ∈ x, c.toNat ≠ 10) → ten x = 0
  | [], _ => rfl
  | c :: r, h => by
    have := ten_no r (fun c hc => h c (by simp [hc]))
    unfold ten at this ⊢
    rw [List.map_cons, List.sum_cons, if_neg (h c (by simp)), this]
theorem ten_join : ∀ ls : List (List UInt8), (∀ x ∈ ls, ∀ c ∈ x, c.toNat ≠ 10) → ten (joinN ls) = ls.length
  | [], _ => rfl
  | x :: r, h => by
    rw [joinN_cons, ten_app, ten_app, ten_no x (h x (by simp)), ten_join r (fun y hy => h y (by simp [hy])), List.length_cons]
    show 0 + 1 + _ = _
    omega
theorem feedsR_list (l : List UInt8) : ∀ (b i : Nat), i + b = l.length → feedsR (bs l) b i = ten (l.drop i)
  | 0, i, h => by rw [List.drop_eq_nil_of_le (by omega)]; rfl
  | b + 1, i, h => by
    have hi : i < l.length := by omega
    rw [List.drop_eq_getElem_cons hi, feedsR, bs_at hi, feedsR_list l b (i + 1) (by omega)]
    rfl
/-- The lines of a text made of lines. -/
theorem lines_join (ls : List (List UInt8)) (h : ∀ x ∈ ls, ∀ c ∈ x, (32 ≤ c.toNat ∧ c.toNat ≤ 126) ∨ c.toNat = 9) (hl : ls.length ≤ 4096) (hs : (joinN ls).length ≤ 65536) : (linesV (bs (joinN ls))).2 = 0 ∧ linesP (joinN ls) = ls := by
  have h10 : ∀ x ∈ ls, ∀ c ∈ x, c.toNat ≠ 10 := fun x hx c hc => by have := h x hx c hc; omega
  have nl : ¬ longL (bs (joinN ls)) := by
    rintro (q | q)
    · rw [bs_size] at q; omega
    · rw [bs_size, feedsR_list _ _ 0 (by omega), List.drop_zero, ten_join ls h10] at q; omega
  have mem : ∀ c ∈ joinN ls, okc c.toNat = true := by
    intro c hc
    obtain ⟨l, hl1, hl2⟩ := List.mem_flatten.1 hc
    obtain ⟨x, hx, rfl⟩ := List.mem_map.1 hl1
    rcases List.mem_append.1 hl2 with q | q
    · rcases h x hx c q with r | r
      · exact okc_mid r.1 r.2
      · rw [r]; rfl
    · rw [show c = 10 by simpa using q]; rfl
  have nf : ¬ formL (bs (joinN ls)) := by
    rintro (⟨q, r⟩ | q)
    · apply r
      rcases List.eq_nil_or_concat ls with e | ⟨ls', x, e⟩
      · rw [e] at q; cases q
      · (try rw [List.concat_eq_append] at e)
        have e2 : joinN ls = (joinN ls' ++ x) ++ [10] := by rw [e, joinN_app, joinN_cons]; simp [joinN]
        rw [e2, bs_size, bs_at (by simp)]
        simp
    · have : plainR (bs (joinN ls)) (bs (joinN ls)).size 0 = true := plain_all fun i hi => by
        rw [bs_size] at hi
        rw [bs_at hi]
        exact mem _ (List.getElem_mem hi)
      rw [this] at q; cases q
  have e : linesV (bs (joinN ls)) = (ls.map bs, 0) := by
    unfold linesV
    rw [if_neg nl, if_neg nf]
    congr 1
    rw [bs_size, linesR_list _ _ 0 0 (by omega) (Nat.le_refl _), List.drop_zero]
    show (linesT _ []).map bs = ls.map bs
    rw [linesT_join ls h10]
  refine ⟨by rw [e], ?_⟩
  unfold linesP
  rw [e, List.map_map]
  show ls.map (fun x => x) = ls
  simp
theorem wordsP_eq (l : List UInt8) : wordsP l = wordsT l none := by
  unfold wordsP wordsL
  rw [wordsR_list l _ 0 none (by rw [bs_size]; omega) (fun F hF => by cases hF), List.map_map, List.drop_zero]
  show (wordsT l none).map (fun x => x) = _
  simp
theorem wordsT_last : ∀ (x p : List UInt8), (∀ c ∈ x, btw c.toNat = false) → wordsT x (some p) = [p ++ x]
  | [], p, _ => by rw [List.append_nil]; rfl
  | c :: x, p, h => by
    rw [wordsT, if_neg (by rw [h c (by simp)]; decide), wordsT_last x (p ++ [c]) (fun c hc => h c (by simp [hc])), List.append_assoc]
    rfl
theorem wordsT_end {x : List UInt8} (hx : x ≠ []) (h : ∀ c ∈ x, btw c.toNat = false) : wordsT x none = [x] := by
  cases x with
  | nil => exact absurd rfl hx
  | cons c x =>
    rw [wordsT, if_neg (by rw [h c (by simp)]; decide), wordsT_last x [c] (fun c hc => h c (by simp [hc]))]
    rfl
/-- A word may stand among words. -/
def wordly (x : List UInt8) : Prop := x ≠ [] ∧ ∀ c ∈ x, btw c.toNat = false
/-- Words joined by a gap are split again. -/
theorem wordsT_join (g : List UInt8) (hg : g ≠ []) (hb : ∀ c ∈ g, btw c.toNat = true) : ∀ (x : List UInt8) (r : List (List UInt8)), (∀ y ∈ x :: r, wordly y) → wordsT (Lib.join (x :: r) g) none = x :: r
  | x, [], h => by
    have hx := h x (by simp)
    have e : Lib.join [x] g = x := by simp [Lib.join]
    rw [e]
    exact wordsT_end hx.1 hx.2
  | x, y :: r, h => by
    have hx := h x (by simp)
    have e : Lib.join (x :: y :: r) g = x ++ g ++ Lib.join (y :: r) g := by simp [Lib.join]
    rw [e, wordsT_one x g _ hx.1 hx.2 hg hb, wordsT_join g hg hb y r (fun z hz => h z (by simp [hz]))]
theorem code_no {l : List UInt8} (h : (59 : UInt8) ∉ l) : codeL l = l := by
  unfold codeL Lib.cut
  rw [index_one_miss 59 l h, if_neg (by decide)]
theorem code_cut {l r : List UInt8} (h : (59 : UInt8) ∉ l) : codeL (l ++ 59 :: r) = l := by
  unfold codeL Lib.cut
  rw [index_one_hit 59 r l h, if_pos (by omega)]
  have e : ((l.length : Nat) : Int).toNat = l.length := by omega
  rw [e]
  simp
end Go.Proofs.YtaclidjhgpkmpaaDoor.My
set_option linter.unusedVariables false
set_option linter.unusedSimpArgs false
namespace Go.Proofs.YtaclidjhgpkmpaaDoor.My
open Go.RowKit
def eg1a : List UInt8 := [115, 116, 97, 114, 116, 58, 32, 46, 119, 111, 114, 100, 32, 55, 44, 32, 115, 116, 97, 114, 116, 32, 59, 32, 115, 101, 118, 101, 110]
def eg1b : List UInt8 := [46, 101, 113, 117, 32, 107, 32, 57]
def eg2a : List UInt8 := [46, 119, 111, 114, 100, 32, 55]
def eg2b : List UInt8 := [46, 111, 114, 103, 32, 50]
def eg2c : List UInt8 := [46, 98, 121, 116, 101, 32, 49]
def wEqu : List UInt8 := [46, 101, 113, 117]
def wOrg : List UInt8 := [46, 111, 114, 103]
theorem eg1_lines : (linesV (bs (joinN [eg1a, eg1b]))).2 = 0 ∧ linesP (joinN [eg1a, eg1b]) = [eg1a, eg1b] := lines_join _ (by decide) (by decide) (by decide)
theorem eg2_lines : (linesV (bs (joinN [eg2a, eg2b, eg2c]))).2 = 0 ∧ linesP (joinN [eg2a, eg2b, eg2c]) = [eg2a, eg2b, eg2c] := lines_join _ (by decide) (by decide) (by decide)
theorem w1a : wordsP (codeL eg1a) = [startN ++ [58], wWord, [55], startN] := by
  rw [show eg1a = [115, 116, 97, 114, 116, 58, 32, 46, 119, 111, 114, 100, 32, 55, 44, 32, 115, 116, 97, 114, 116, 32] ++ 59 :: [32, 115, 101, 118, 101, 110] from rfl, code_cut (by decide), wordsP_eq]
  decide
theorem w1b : wordsP (codeL eg1b) = [wEqu, [107], [57]] := by
  rw [code_no (by decide), wordsP_eq]
  decide
theorem w2a : wordsP (codeL eg2a) = [wWord, [55]] := by
  rw [code_no (by decide), wordsP_eq]
  decide
theorem w2b : wordsP (codeL eg2b) = [wOrg, [50]] := by
  rw [code_no (by decide), wordsP_eq]
  decide
theorem w2c : wordsP (codeL eg2c) = [wByte, [49]] := by
  rw [code_no (by decide), wordsP_eq]
  decide
theorem dec_one {d : Nat} (h : d < 10) : decL (d : Int) = [hd d] := by
  unfold decL
  rw [if_neg (by omega), show ((d : Int)).natAbs = d by omega]
  exact digP_one h
theorem num_one {d : Nat} {f t : Int} (h : d < 10) (hf : f ≤ 0) (ht : 9 ≤ t) : numberV [hd d] f t = ((d : Int), 0) := by
  unfold numberV
  rw [← dec_one h, parse_decL _ (by omega) (by omega), if_neg (by simp only; omega)]
theorem num_start (f t : Int) : (numberV startN f t).2 = 2 := by
  have h : parseV (bs startN) = (0, 2) := by decide +kernel
  unfold numberV
  rw [h, if_neg (fun q => absurd q.1 (by decide))]
theorem secondV_cons (p : Prg) (x : List UInt8) (f : List (List UInt8)) (i : Nat) (d : List UInt8) : secondV p (x :: f) i d = if x = wWord then valuesR p 4 i f 0 d else if x = wByte then valuesR p 1 i f 0 d else if x.head? = some 46 then (0, d) else instrV p x f i d := rfl
theorem secondA_two (p : Prg) (ws : List (List UInt8)) (a : Nat) (t : List (List (List UInt8) × Nat)) (i : Nat) (d : List UInt8) : secondA p ((ws, a) :: t) i d = if (secondV p ws a d).1 = 0 then secondA p t (i + 1) (secondV p ws a d).2 else ((i + 1, (secondV p ws a d).1), d) := rfl
theorem firstW_do (p : Prg) {x : List UInt8} (r : List (List UInt8)) (h : hasC x = false) : firstW p (x :: r) = doV p (x :: r) := if_neg (by rw [h]; decide)
theorem firstW_label (p : Prg) {x : List UInt8} (r : List (List UInt8)) (h : hasC x = true) (hn : isNameV (trimC x) = true) (hf : findV p.vals (trimC x) = none) : firstW p (x :: r) = firstW { p with vals := p.vals ++ [(trimC x, p.here)], names := p.names ++ [(trimC x, p.here)] } r := by
  have e : namedV p (trimC x) p.here = (0, { p with vals := p.vals ++ [(trimC x, p.here)], names := p.names ++ [(trimC x, p.here)] }) := by
    unfold namedV
    rw [if_neg (by rw [hn]; decide), if_neg (by rw [hf]; decide)]
  have e2 : firstW p (x :: r) = if (namedV p (trimC x) p.here).1 = 0 then firstW (namedV p (trimC x) p.here).2 r else namedV p (trimC x) p.here := if_pos h
  rw [e2, e, if_pos rfl]
theorem doV_dir (p : Prg) {x : List UInt8} (r : List (List UInt8)) (h : x.head? = some 46) : doV p (x :: r) = dirV (rowV p (x :: r)) (dirK x) r := if_pos h
theorem doV_ins (p : Prg) {x : List UInt8} (r : List (List UInt8)) (h : x.head? ≠ some 46) : doV p (x :: r) = layV (rowV p (x :: r)) 4 true := if_neg h
def egP1 : Prg := ⟨[([wWord, [55], startN], 0)], [(startN, 0)], [(startN, 0)], 8, p00.data, setR p00.laid 0 8⟩
def egP2 : Prg := ⟨[([wWord, [55], startN], 0), ([wEqu, [107], [57]], 8)], [(startN, 0), ([107], 9)], [(startN, 0), ([107], 9)], 8, p00.data, setR p00.laid 0 8⟩
theorem laid00 (k : Nat) : p00.laid.getD k false = false := rep_getD _ _ _
theorem data00 (k : Nat) : p00.data.getD k 0 = 0 := rep_getD _ _ _
theorem laid00_len : p00.laid.length = 16384 := List.length_replicate
theorem data00_len : p00.data.length = 16384 := List.length_replicate
theorem eg1_first : firstA p00 [eg1a, eg1b] 0 = ((0, 0), egP2) := by
  have h1 : firstV p00 eg1a = (0, egP1) := by
    unfold firstV
    rw [w1a, firstW_label _ _ (by decide) (by decide) rfl, firstW_do _ _ (by decide), doV_dir _ _ (by decide)]
    show layV _ (4 * 2) true = _
    refine (lay_ok ?_ ?_ ?_).trans ?_
    · exact fun _ => rfl
    · decide
    · exact fun k _ _ => laid00 k
    · rfl
  have h2 : firstV egP1 eg1b = (0, egP2) := by
    unfold firstV
    rw [w1b, firstW_do _ _ (by decide), doV_dir _ _ (by decide)]
    show equV _ [107] [57] = _
    unfold equV
    have hn : numberV [57] (-2147483648) 4294967295 = (9, 0) := num_one (d := 9) (by decide) (by decide) (by decide)
    rw [hn, if_neg (by decide), if_neg (by decide), if_pos rfl]
    unfold namedV
    rw [if_neg (by decide), if_neg (by decide)]
    rfl
  rw [firstA_cons, h1, if_pos rfl, firstA_cons, h2, if_pos rfl]
  rfl
def egD : List UInt8 := putV (putV p00.data 0 7 4) 4 0 4
theorem eg1_second : secondA egP2 egP2.rows 0 egP2.data = ((0, 0), egD) := by
  have h1 : secondV egP2 [wWord, [55], startN] 0 p00.data = (0, egD) := by
    have n7 : numberV [55] (frV 4) (toV 4) = (7, 0) := num_one (d := 7) (by decide) (by decide) (by decide)
    rw [secondV_cons, if_pos rfl, valuesR, n7, if_neg (by decide), if_pos rfl, valuesR, num_start, if_pos ⟨rfl, by decide⟩]
    have hf : findV egP2.vals startN = some 0 := by decide
    rw [hf]
    rfl
  have h2 : secondV egP2 [wEqu, [107], [57]] 8 egD = (0, egD) := by
    rw [secondV_cons, if_neg (by decide), if_neg (by decide), if_pos (by decide)]
  show secondA egP2 [([wWord, [55], startN], 0), ([wEqu, [107], [57]], 8)] 0 p00.data = _
  rw [secondA_two, h1, if_pos rfl, secondA_two, h2, if_pos rfl]
  rfl
theorem eg1_image : imageV { egP2 with data := egD } = (0, [⟨0, [7, 0, 0, 0, 0, 0, 0, 0]⟩]) := by
  have hs : segsTo egP2.laid egD 16384 = [⟨0, [7, 0, 0, 0, 0, 0, 0, 0]⟩] := segs_all (by
    have hl : ∀ k, egP2.laid.getD k false = if k < 8 then true else false := fun k => by
      show (setR p00.laid 0 8).getD k false = _
      rw [setR_get, laid00, laid00_len]
      by_cases h : k < 8
      · rw [if_pos (by omega), if_pos h]
      · rw [if_neg (by omega), if_neg h]
    refine ⟨Nat.le_refl _, by decide, (fun k _ h => by cases h), (fun j hj => ?_), by decide, (fun t ht => by cases ht), (fun k hk _ => ?_)⟩
    · have hj8 : j < 8 := hj
      refine ⟨?_, ?_⟩
      · show egP2.laid.getD (0 + j) false = true
        rw [hl, if_pos (by omega)]
      · show egD.getD (0 + j) 0 = _
        unfold egD
        rw [putV_get, putV_get, putV_len, data00, data00_len]
        have h9 : j = 0 ∨ j = 1 ∨ j = 2 ∨ j = 3 ∨ j = 4 ∨ j = 5 ∨ j = 6 ∨ j = 7 := by omega
        rcases h9 with rfl | rfl | rfl | rfl | rfl | rfl | rfl | rfl <;> rfl
    · rw [hl, if_neg (by have h8 : 0 + 8 ≤ k := hk; omega)])
  unfold imageV
  show (startV (findV egP2.vals startN) (segsTo egP2.laid egD 16384), segsTo egP2.laid egD 16384) = _
  rw [hs]
  rfl
theorem eg1_all : assembleV (joinN [eg1a, eg1b]) = ⟨0, 0, (0, [⟨0, [7, 0, 0, 0, 0, 0, 0, 0]⟩]), [(startN, 0), ([107], 9)]⟩ := by
  unfold assembleV
  rw [if_pos eg1_lines.1, eg1_lines.2]
  unfold asmL
  rw [eg1_first]
  unfold asmP
  rw [if_pos rfl]
  show doneA egP2 (secondA egP2 egP2.rows 0 egP2.data) = _
  rw [eg1_second]
  unfold doneA
  rw [if_pos rfl]
  show AsmV.mk 0 0 (imageV { egP2 with data := egD }) egP2.names = _
  rw [eg1_image]
  rfl
def egQ1 : Prg := ⟨[([wWord, [55]], 0)], [], [], 4, p00.data, setR p00.laid 0 4⟩
def egQ2 : Prg := ⟨[([wWord, [55]], 0), ([wOrg, [50]], 4)], [], [], 2, p00.data, setR p00.laid 0 4⟩
theorem eg2_first : ∃ p, firstA p00 [eg2a, eg2b, eg2c] 0 = ((3, 7), p) := by
  have h1 : firstV p00 eg2a = (0, egQ1) := by
    unfold firstV
    rw [w2a, firstW_do _ _ (by decide), doV_dir _ _ (by decide)]
    show layV _ (4 * 1) true = _
    refine (lay_ok ?_ ?_ ?_).trans ?_
    · exact fun _ => rfl
    · decide
    · exact fun k _ _ => laid00 k
    · rfl
  have h2 : firstV egQ1 eg2b = (0, egQ2) := by
    unfold firstV
    rw [w2b, firstW_do _ _ (by decide), doV_dir _ _ (by decide)]
    show orgV _ [50] = _
    unfold orgV
    have hn : numberV [50] 0 16384 = (2, 0) := num_one (d := 2) (by decide) (by decide) (by decide)
    rw [hn, if_pos rfl]
    rfl
  have h3 : (firstV egQ2 eg2c).1 = 7 := by
    unfold firstV
    rw [w2c, firstW_do _ _ (by decide), doV_dir _ _ (by decide)]
    show (layV (rowV egQ2 [wByte, [49]]) 1 false).1 = _
    unfold layV
    have ha : anyR (rowV egQ2 [wByte, [49]]).laid (rowV egQ2 [wByte, [49]]).here 1 = true := by
      show anyR (setR p00.laid 0 4) 2 1 = true
      unfold anyR
      have hx : (setR p00.laid 0 4)[2]? = some true := by
        have h5 := setR_get p00.laid 0 4 2
        rw [if_pos (by rw [laid00_len]; decide), List.getD_eq_getElem?_getD] at h5
        cases hq : (setR p00.laid 0 4)[2]? with
        | none => rw [hq] at h5; cases h5
        | some b => rw [hq] at h5; exact congrArg some h5
      obtain ⟨h6, h7⟩ := List.getElem?_eq_some_iff.1 hx
      rw [List.drop_eq_getElem_cons h6, h7]
      rfl
    rw [if_neg (by decide), ha, if_pos rfl]
  refine ⟨egQ2, ?_⟩
  rw [firstA_cons, h1, if_pos rfl, firstA_cons, h2, if_pos rfl, firstA_cons, if_neg (by rw [h3]; decide), h3]
theorem eg2_all : assembleV (joinN [eg2a, eg2b, eg2c]) = ⟨3, 7, (0, []), []⟩ := by
  obtain ⟨p, hp⟩ := eg2_first
  unfold assembleV
  rw [if_pos eg2_lines.1, eg2_lines.2]
  unfold asmL
  rw [hp]
  rfl
end Go.Proofs.YtaclidjhgpkmpaaDoor.My
set_option linter.unusedVariables false
set_option linter.unusedSimpArgs false
namespace Go.Proofs.YtaclidjhgpkmpaaDoor.My
open Go.RowKit
/-- What the first example gives. -/
def Eg1 (w w' : World) (e : Ending) : Prop :=
  (∃ gs c gd cd gn cn : Nat, e = .returned (.tuple #[.agg (imA 0 (some ⟨gs, 0, none⟩) 1 c), .slice (some ⟨gn, 0, none⟩) 2 cn, .int .i64 0, .int .i64 0]) ∧ w'.cell? ⟨gs, 1, none⟩ = some (.slice (some ⟨gd, 0, none⟩) 8 cd) ∧ w'.cell? ⟨gd, 0, none⟩ = some (.int .u8 7) ∧ w'.cell? ⟨gn, 3, none⟩ = some (.int .u32 9)) ∧ Below w.heap.size w w'
theorem eg1_call (m : Int) (w : World) (h : St m w) : Calls Tryd.prog 9 #[.string ⟨#[115, 116, 97, 114, 116, 58, 32, 46, 119, 111, 114, 100, 32, 55, 44, 32, 115, 116, 97, 114, 116, 32, 59, 32, 115, 101, 118, 101, 110, 10, 46, 101, 113, 117, 32, 107, 32, 57, 10]⟩] w fun e w' => Eg1 w w' e := by
  have h1 := assemble_any (joinN [eg1a, eg1b]) m w h (by decide) (by rw [eg1_lines.2]; decide)
  rw [eg1_all] at h1
  refine h1.mono ?_
  rintro e w' ⟨⟨S, c, ms, nv, rfl, hms, hsg, hnm⟩, hb⟩
  refine ⟨?_, hb⟩
  simp only at hms
  obtain ⟨mm, rfl⟩ : ∃ mm, ms = [mm] := by
    cases ms with
    | nil => cases hms
    | cons a t =>
      cases t with
      | nil => exact ⟨a, rfl⟩
      | cons b t => simp at hms
  obtain ⟨a, D, cd, d⟩ := mm
  have hd : d = [7, 0, 0, 0, 0, 0, 0, 0] := by
    simp only [List.map_cons, List.map_nil, SegM.v, List.cons.injEq, SegV.mk.injEq, and_true] at hms
    exact hms.2
  subst hd
  obtain ⟨gs, cap, cur, hv, hB, hcur, hc0, hc1⟩ := SegsAt.last (ms := []) hsg
  injection hv with e1 e2 e3
  subst e1
  have hin := hsg.inn ⟨a, D, cd, _⟩ (List.mem_singleton.2 rfl)
  rcases hin.2 with ⟨_, h0⟩ | ⟨gd, cap2, cur2, he, hB2, hh2, _, _, _, ht2⟩
  · cases h0
  · rcases hnm.2 with ⟨_, h0⟩ | ⟨gn, cap3, cur3, he3, hB3, hh3, _, _, _, ht3⟩
    · cases h0
    · subst he3
      have he2 : (Value.slice D 8 cd) = .slice (some ⟨gd, 0, none⟩) 8 cap2 := he
      injection he2 with f1 f2 f3
      subst f1
      refine ⟨gs, c, gd, cd, gn, cap3, rfl, ?_, ?_, ?_⟩
      · rw [cell_of_row _ gs 1 _ _ _ hcur]
        exact hc1
      · rw [cell_of_row _ gd 0 _ _ _ hh2, ← Array.getElem?_toList]
        have : (cur2.toList.take (8 * 1))[0]? = cur2.toList[0]? := List.getElem?_take_of_lt (by decide)
        rw [← this]
        have ht4 : cur2.toList.take (8 * 1) = (ints [7, 0, 0, 0, 0, 0, 0, 0]).map (Value.int .u8) := ht2
        rw [ht4]
        rfl
      · rw [cell_of_row _ gn 3 _ _ _ hh3, ← Array.getElem?_toList]
        have : (cur3.toList.take (2 * 2))[3]? = cur3.toList[3]? := List.getElem?_take_of_lt (by decide)
        rw [← this]
        have ht4 : cur3.toList.take (2 * 2) = nmsC [(startN, 0), ([107], 9)] := ht3
        rw [ht4]
        rfl
theorem eg2_call (m : Int) (w : World) (h : St m w) : Calls Tryd.prog 9 #[.string ⟨#[46, 119, 111, 114, 100, 32, 55, 10, 46, 111, 114, 103, 32, 50, 10, 46, 98, 121, 116, 101, 32, 49, 10]⟩] w fun e w' => (∃ S c nv, e = .returned (.tuple #[.agg (imA 0 S 0 c), nv, .int .i64 3, .int .i64 7])) ∧ Below w.heap.size w w' := by
  have h1 := assemble_any (joinN [eg2a, eg2b, eg2c]) m w h (by decide) (by rw [eg2_lines.2]; decide)
  rw [eg2_all] at h1
  refine h1.mono ?_
  rintro e w' ⟨⟨S, c, ms, nv, rfl, hms, hsg, hnm⟩, hb⟩
  have e0 : ms = [] := by simpa using hms
  subst e0
  exact ⟨⟨S, c, nv, rfl⟩, hb⟩
theorem keepC {w w' : World} {a : Addr} {v : Value} (h : Hid (w.cell? a = some v)) (hb : Below w.heap.size w w') : Hid (w'.cell? a = some v) := (hb.cell (World.block_lt_of_cell? w _ h.out)).trans h.out
theorem sizeNm (w : World) : (sizeOf 50).run Tryd.prog w = .ok 2 w := by kernel_rfl
set_option maxRecDepth 100000 in
set_option maxHeartbeats 8000000 in
theorem awake_any (m : Int) (w : World) (hS : St m w) : Calls Tryd.prog 6 #[] w fun e w' => e = .returned (.bool true) ∧ Below w.heap.size w w' := by
  have HB := startB w
  have HS := Lib.hid hS
  have H1 : Hid (∀ w', St m w' → Calls Tryd.prog 9 #[.string ⟨#[115, 116, 97, 114, 116, 58, 32, 46, 119, 111, 114, 100, 32, 55, 44, 32, 115, 116, 97, 114, 116, 32, 59, 32, 115, 101, 118, 101, 110, 10, 46, 101, 113, 117, 32, 107, 32, 57, 10]⟩] w' fun e w'' => Eg1 w' w'' e) := Lib.hid (eg1_call m)
  have H2 : Hid (∀ w', St m w' → Calls Tryd.prog 9 #[.string ⟨#[46, 119, 111, 114, 100, 32, 55, 10, 46, 111, 114, 103, 32, 50, 10, 46, 98, 121, 116, 101, 32, 49, 10]⟩] w' fun e w'' => (∃ S c nv, e = .returned (.tuple #[.agg (imA 0 S 0 c), nv, .int .i64 3, .int .i64 7])) ∧ Below w'.heap.size w' w'') := Lib.hid (eg2_call m)
  clear hS
  go_enter Tryd.func6, Tryd.ntmps6
  go_upto_region 2 with (first | (go_at_call 9; refine (H1.out _ (St.below HS HB)).mono ?_; rintro e w1 ⟨⟨gs, c, gd, cd, gn, cn, rfl, hc1, hc2, hc3⟩, hb⟩; replace HB := keepB HB hb; have K1 := Lib.hid hc1; have K2 := Lib.hid hc2; have K3 := Lib.hid hc3; clear hb hc1 hc2 hc3) | (refine wlAlloc (by rfl) 34 rfl (imA 0 none 0 0) zeroIm ?_; intro gA w2 hg hl ha hb; have HGA : Hid (w.heap.size ≤ gA) := Lib.hid (Nat.le_trans HB.out.2 hg); have N1 : Hid (gA ≠ gs) := Lib.hid (Nat.ne_of_gt (Nat.lt_of_lt_of_le (World.block_lt_of_cell? _ _ K1.out) hg)); have N2 : Hid (gA ≠ gd) := Lib.hid (Nat.ne_of_gt (Nat.lt_of_lt_of_le (World.block_lt_of_cell? _ _ K2.out) hg)); have N3 : Hid (gA ≠ gn) := Lib.hid (Nat.ne_of_gt (Nat.lt_of_lt_of_le (World.block_lt_of_cell? _ _ K3.out) hg)); replace HB := keepB HB hb; replace K1 := keepC K1 hb; replace K2 := keepC K2 hb; replace K3 := keepC K3 hb; have HA := Lib.hid ha; clear ha hb hg hl) | (refine rowStore (by rfl) 34 _ _ rfl gA rfl (imA 0 (some ⟨gs, 0, none⟩) 1 c) rfl HA.out infoIm rfl (imA_one _ _ _ _) ?_; intro w3 ha ho; replace K1 := Lib.hid ((cell_only2 N1.out ho 1).trans K1.out); replace K2 := Lib.hid ((cell_only2 N2.out ho 0).trans K2.out); replace K3 := Lib.hid ((cell_only2 N3.out ho 3).trans K3.out); replace HA := Lib.hid ha; replace HB := keepBo HB HGA.out ho; clear ha ho N1 N2 N3))
  go_upto_region 3 with (first | (go_at_call 9; refine (H2.out _ (St.below HS HB)).mono ?_; rintro e w4 ⟨⟨S5, c5, nv5, rfl⟩, hb⟩; replace HB := keepB HB hb; replace K1 := keepC K1 hb; replace K2 := keepC K2 hb; replace K3 := keepC K3 hb; replace HA := keepA HA hb; clear hb) | (refine wlAlloc (by rfl) 34 rfl (imA 0 none 0 0) zeroIm ?_; intro gB w5 hg hl ha hb; have HN := Lib.hid (And.intro hb hb.size); have HGI := Lib.hid hg; have HI := Lib.hid ha; clear ha hb hg hl) | (refine rowStore (by rfl) 34 _ _ rfl gB rfl (imA 0 S5 0 c5) rfl HI.out infoIm rfl (imA_one _ _ _ _) ?_; intro w6 ha ho; have hb := (keepBo HN HGI.out ho).out.1; replace HB := keepB HB hb; replace K1 := keepC K1 hb; replace K2 := keepC K2 hb; replace K3 := keepC K3 hb; replace HA := keepA HA hb; have i1 : w6.cell? ⟨gA, 1, none⟩ = some (.slice (some ⟨gs, 0, none⟩) 1 c) := cellA HA 1; have k1 : w6.cell? ⟨gs, 1, none⟩ = _ := K1.out; have k2 : w6.cell? ⟨gd, 0, none⟩ = _ := K2.out; have k3 : w6.cell? ⟨gn, 3, none⟩ = _ := K3.out; clear ha ho hb HN HGI HI))
  go_wp2_with (first | (refine wlIdx (by rfl) 32 _ _ rfl 40 2 Tryd.underlying32 sizeSeg gs 0 1 c 0 rfl rfl (by decide) ?_) | (refine wlIdx (by rfl) 35 _ _ rfl 50 2 Tryd.underlying35 sizeNm gn 0 2 cn 1 rfl rfl (by decide) ?_))
  go_ret
  exact ⟨rfl, HB.out.1⟩
end Go.Proofs.YtaclidjhgpkmpaaDoor.My
set_option linter.unusedVariables false
namespace Go.Proofs.YtaclidjhgpkmpaaDoor.My
open Go.RowKit Go.ChangeShapes Go.WideShapes Go.ChangeAt
noncomputable def laidL : List (String × DataW Unit) := [("cotterel/inst.fields", Rows.laid_cotterel_inst_fields), ("unicode/utf8.acceptRanges", Rows.laid_unicode_utf8_acceptRanges), ("unicode.White_Space", Rows.laid_unicode_White_Space), ("strings.asciiSpace", Rows.laid_strings_asciiSpace), ("unicode/utf8.first", Rows.laid_unicode_utf8_first)]
theorem maxLen_cell (w : World) (h : w.ShapedOpen Tryd.prog) : ∃ m, w.cell? ⟨3, 0, none⟩ = some (.int .i64 m) :=
  Go.Proofs.cell_of_shapedOpen_int (zero := #[.int .i64 0]) (t := 3) h (of_decide_eq_true (by kernel_rfl)) (by kernel_rfl) rfl (by kernel_rfl) (by kernel_rfl) Tryd.underlying3
set_option maxRecDepth 100000 in
theorem space_of (w : World) (h : laidMetH Tryd.prog laidL w) : Lib.TabIs Tryd.prog w "strings.asciiSpace" .u8 Lib.asciiSpaceTab := by
  have h1 := laidMetH.filter (fun x => x.1 == "strings.asciiSpace") h
  have e : laidL.filter (fun x => x.1 == "strings.asciiSpace") = [("strings.asciiSpace", Lib.tabData .u8 Lib.asciiSpaceTab)] := rfl
  rw [e, MakeChecks.laidMetH_plain _ _ _ rfl] at h1
  exact Lib.tabIs_of_head (g := 1) (t := 112) (e := 5) (n := 256) (by kernel_rfl) (by kernel_rfl) Tryd.underlying112 Tryd.underlying5 (by kernel_rfl) (by kernel_rfl) h1
set_option maxRecDepth 100000 in
theorem fields_of (w : World) (h : laidMetH Tryd.prog laidL w) : FieldsAt w := by
  have h1 := laidMetH.filter (fun x => x.1 == "cotterel/inst.fields") h
  have e : laidL.filter (fun x => x.1 == "cotterel/inst.fields") = [("cotterel/inst.fields", Lib.tabData .i64 bitsL)] := rfl
  rw [e, MakeChecks.laidMetH_plain _ _ _ rfl] at h1
  have hg : Tryd.prog.globalNamed "cotterel/inst.fields" = some 0 := by kernel_rfl
  have ht := Lib.tabIs_of_head (g := 0) (t := 84) (e := 3) (n := 12) hg (by kernel_rfl) Tryd.underlying84 Tryd.underlying3 (by kernel_rfl) (by kernel_rfl) h1
  exact fun i hi => ht.cell hg i hi
theorem start_any (w : World) (hs : w.ShapedOpen Tryd.prog) (h : laidMetH Tryd.prog laidL w) : ∃ m, St m w := by
  obtain ⟨m, hm⟩ := maxLen_cell w hs
  exact ⟨m, hm, fields_of w h, space_of w h⟩
end Go.Proofs.YtaclidjhgpkmpaaDoor.My

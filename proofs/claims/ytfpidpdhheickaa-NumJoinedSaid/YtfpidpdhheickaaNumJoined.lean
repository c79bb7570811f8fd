/- The law of joined words and lines: the walk. -/
import Derived.Test.YtfpidpdhheickaaNumJoinPlain
import Derived.Test.YtfpidpdhheickaaNumLaws2
import Derived.ArgAppend
import Derived.OwnWalk
import Derived.BigQuiet
set_option linter.unusedVariables false
namespace Go.Proofs.Ytfpidpdhheickaa.My
open Go.RowKit
section
variable {P : Program} {ops : Array Oper} {o : Oper} {a : Act} {w : World} {Q : Exit → Act → World → Prop} {rest : List Oper}
/-- One element appended to a slice that the call makes, where the call makes another such slice besides. -/
theorem appTwo (hgd : o.guard = none) (s x : Operand) (t e : TypeId) (z : Value) (bytes : Nat) (ho : o.op = .call { callee := .builtin .append, args := #[s, x], argTypes := #[t, t] })
    (ht : P.underlying t = some (.slice e)) (hinfo : (P.info? e).map (fun i => (i.zero, i.size, i.bytes)) = some (some z, 1, bytes)) (hzc : z.cells.size = 1)
    (B : Nat) (v : Value) (n : Nat) (xs : List Value) (hs : a.eval s = v) (hown : w.ownsRow B e 1 v n xs) (u : Value) (hu : u.oneCell' = true) {tt : TypeId} (c : Nat)
    (hx : a.eval x = .slice (some ⟨w.heap.size, 0, none⟩) 1 c) (h63 : n + 1 ≤ maxLen) (hb : (n + 1) * bytes ≤ 140737488355328) (hB : B ≤ w.heap.size)
    (v0 : Value) (n0 : Nat) (xs0 : List Value) (hown0 : w.ownsRow B e 1 v0 n0 xs0) (hd : v0.ownBlock = none ∨ v0.ownBlock ≠ v.ownBlock)
    (h : ∀ (v' : Value) (w2 : World), w2.ownsRow B e 1 v' (n + 1) (xs ++ [u]) → w2.ownsRow B e 1 v0 n0 xs0 → (v0.ownBlock = none ∨ v0.ownBlock ≠ v'.ownBlock) → Below B w w2 → wpList P ops Q rest (a.put o.dst v') w2) :
    wpList P ops Q (o :: rest) a (w.alloc (.cells #[u] tt)) := by
  obtain ⟨i0, hi, hzz⟩ := Option.map_eq_some_iff.1 hinfo
  simp only [Prod.mk.injEq] at hzz
  obtain ⟨hz0, hz1, hz2⟩ := hzz
  have hB2 : B ≤ (w.alloc (.cells #[u] tt)).heap.size := by simp; omega
  have c1 : ∀ j q, [u][j]? = some q → (w.alloc (.cells #[u] tt)).cell? ((⟨w.heap.size, 0, none⟩ : Addr).add j) = some q := by
    intro j q hj
    match j, hj with
    | 0, hj =>
      have : u = q := by simpa using hj
      subst this
      have ha : (⟨w.heap.size, 0, none⟩ : Addr).add 0 = ⟨w.heap.size, 0, none⟩ := by simp [Addr.add]
      rw [ha, cell_of_row _ w.heap.size 0 _ _ _ (heap_alloc_new w _)]
      rfl
  have c2 : ∀ q ∈ [u], q.oneCell' = true := by
    intro q hq
    have : q = u := by simpa using hq
    rw [this]; exact hu
  have fin : ∀ (v' : Value) (w2 : World), w2.ownsRow B e 1 v' (n + 1) (xs ++ [u]) → (w.alloc (.cells #[u] tt)).grownBy w2 v.ownBlock → (v'.ownBlock = v.ownBlock ∨ ∀ g, v'.ownBlock = some g → w.heap.size ≤ g) → wpList P ops Q rest (a.put o.dst v') w2 := by
    intro v' w2 h1 h2 h3
    refine h v' w2 h1 ((hown0.alloc _).kept h2 hd) ?_ (((Below.refl B w).alloc hB _).grown h2 hB2 ?_)
    · cases hv : v0.ownBlock with
      | none => exact .inl rfl
      | some g0 =>
        refine .inr fun q => ?_
        rcases h3 with h3 | h3
        · rcases hd with hd | hd
          · rw [hv] at hd; cases hd
          · exact hd (by rw [hv, q, h3])
        · have := h3 g0 q.symm
          have := (hown0.lt g0 hv).2
          omega
    · intro k hk
      exact (hown.lt k hk).1
  rcases hown.2 with ⟨rfl, rfl⟩ | ⟨g, cap, cur, rfl, hg, hh, hnc, hcm, hsz, htk⟩
  · have hxs : xs = [] := List.length_eq_zero_iff.1 (by simpa using hown.1)
    subst hxs
    refine wpList_append_grows _ hgd s x t ho e i0 z 1 bytes ht hi hz0 hz1 hz2 hzc (by omega) none 0 0 [] hs (fun _ => ⟨rfl, rfl⟩) rfl (fun b hb => by cases hb) ⟨w.heap.size, 0, none⟩ 1 c [u] hx rfl c1 c2 (by omega) h63 hb ?_
    intro v' w2 h1 h2
    exact fin v' w2 (own_weak (by rw [Nat.zero_add] at h1 ⊢; exact h1) hB2) h2 (.inr fun g hg => by
      have := (h1.lt g hg).1
      simp at this
      omega)
  · by_cases hcap : n + 1 ≤ cap
    · refine wpList_append_fits _ hgd s x t ho B e i0 1 ht hi hz1 g n cap xs hs (hown.alloc _) ⟨w.heap.size, 0, none⟩ 1 c [u] hx rfl c1 c2 hcap ?_
      intro w2 h1 h2
      exact fin _ w2 h1 h2 (.inl rfl)
    · refine wpList_append_grows _ hgd s x t ho e i0 z 1 bytes ht hi hz0 hz1 hz2 hzc (by omega) (some ⟨g, 0, none⟩) n cap xs hs (fun h => by cases h) (by have := hown.1; simpa using this) (fun b hb => by
        injection hb with hb
        subst hb
        exact (hown.alloc _).cells rfl) ⟨w.heap.size, 0, none⟩ 1 c [u] hx rfl c1 c2 (by omega) h63 hb ?_
      intro v' w2 h1 h2
      exact fin v' w2 (own_weak h1 hB2) ⟨h2.os, h2.tape, h2.output, h2.size, fun k hk _ => h2.block k hk (by simp)⟩ (.inr fun g hg => by
        have := (h1.lt g hg).1
        simp at this
        omega)
end
def okP (b : Bool) (c : Nat) : Prop := 32 ≤ c ∧ c ≤ 126 ∧ (b = true ∨ (c ≠ 32 ∧ c ≠ 44))
instance (b : Bool) (c : Nat) : Decidable (okP b c) := by unfold okP; infer_instance
/-- Is a text a word, or a part of a line? -/
def plainB (x : ByteArray) (b : Bool) : Bool := decide (∀ i, i < x.size → okP b (bAt x i))
theorem plain_any (s : ByteArray) (b t : Bool) (w : World) (ht : plainB s b = t) (hm : s.size ≤ 9223372036854775807) : Calls Try.prog 21 #[.string s, .bool b] w fun e w' => e = .returned (.bool t) ∧ w = w' := by
  have HT := Lib.hid ht
  clear ht
  have eb : ∀ i (h : i < s.size), (s[i]'h).toNat = bAt s i := fun i h => bAt_eq h
  go_enter Try.func21, Try.ntmps21
  go_wp2
  go_loop [5] (fun i => ∃ k : Nat, k ≤ s.size ∧ i = .int .i64 k ∧ Hid (∀ i, i < k → okP b (bAt s i))) (fun i => s.size - (intOf i).toNat)
  case atStart => exact ⟨0, Nat.zero_le _, rfl, Lib.hid fun i hi => by omega⟩
  case round =>
    obtain ⟨k, hks, rfl, HK⟩ := hrel
    by_cases hk : k < s.size
    · obtain ⟨c, hc⟩ : ∃ c, bAt s k = c := ⟨_, rfl⟩
      have hno : ¬ (okP b c) → t = false := fun h => by
        rw [← HT.out]; unfold plainB
        exact decide_eq_false fun q => h (by have := q k hk; rw [hc] at this; exact this)
      have hyes : (okP b c) → Hid (∀ i, i < k + 1 → okP b (bAt s i)) := fun h => Lib.hid fun i hi => by
        by_cases q : i < k
        · exact HK.out i q
        · rw [show i = k by omega, hc]; exact h
      by_cases h1 : c < 32
      · obtain rfl := hno (by unfold okP; omega)
        clear hno hyes
        go_wp2
        go_ret
        exact ⟨rfl, rfl⟩
      by_cases h2 : 126 < c
      · obtain rfl := hno (by unfold okP; omega)
        clear hno hyes
        go_wp2
        go_ret
        exact ⟨rfl, rfl⟩
      cases b with
      | true =>
        have HY := hyes ⟨by omega, by omega, .inl rfl⟩
        clear hno hyes
        go_wp2
        go_round
        case rel => exact ⟨k + 1, by omega, by go_num, HY⟩
        case measure => simp [intOf]; omega
      | false =>
        by_cases h3 : c = 32
        · obtain rfl := hno (fun q => by rcases q.2.2 with r | r; cases r; exact r.1 h3)
          clear hno hyes
          subst h3
          go_wp2
          go_ret
          exact ⟨rfl, rfl⟩
        by_cases h4 : c = 44
        · obtain rfl := hno (fun q => by rcases q.2.2 with r | r; cases r; exact r.2 h4)
          clear hno hyes
          subst h4
          go_wp2
          go_ret
          exact ⟨rfl, rfl⟩
        have HY := hyes ⟨by omega, by omega, .inr ⟨h3, h4⟩⟩
        have q3 : ((c : Int) == 32) = false := beq_eq_false_iff_ne.2 (by omega)
        have q4 : ((c : Int) == 44) = false := beq_eq_false_iff_ne.2 (by omega)
        clear hno hyes h3 h4
        go_wp2
        go_round
        case rel => exact ⟨k + 1, by omega, by go_num, HY⟩
        case measure => simp [intOf]; omega
    · obtain rfl : t = true := by
        rw [← HT.out]; unfold plainB
        exact decide_eq_true fun i hi => HK.out i (by omega)
      go_wp2
      go_ret
      exact ⟨rfl, rfl⟩
end Go.Proofs.Ytfpidpdhheickaa.My

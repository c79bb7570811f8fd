/- The plain law of Back: what is renamed and undone, the youngest first, leaves names as they were, but for the next number. -/
import Derived.Test.YtpgighhnhidpcaaRenOneLaw
set_option linter.unusedVariables false
set_option linter.unusedSimpArgs false
namespace Go.Proofs.Ytpgighhnhidpcaa.My
/-- All but the next number is one. -/
structure NmV.Same (a b : NmV) : Prop where
  m : a.m = b.m
  d : a.d = b.d
  n : a.n = b.n
  xs : a.xs = b.xs
  h : a.h = b.h
  N : a.N = b.N
theorem NmV.Same.refl (a : NmV) : a.Same a := ⟨rfl, rfl, rfl, rfl, rfl, rfl⟩
theorem NmV.Same.trans {a b c : NmV} (h : a.Same b) (k : b.Same c) : a.Same c := ⟨h.m.trans k.m, h.d.trans k.d, h.n.trans k.n, h.xs.trans k.xs, h.h.trans k.h, h.N.trans k.N⟩
theorem same_un {a b : NmV} (h : a.Same b) (r : RenV) : (unV a r).Same (unV b r) := by
  obtain ⟨h1, h2, h3, h4, h5, h6⟩ := h
  unfold unV
  refine ⟨?_, ?_, ?_, ?_, ?_, ?_⟩ <;> simp only [h1, h2, h3, h4, h5, h6]
theorem same_fold : ∀ (l : List RenV) {a b : NmV}, a.Same b → (l.foldl unV a).Same (l.foldl unV b)
  | [], _, _, h => h
  | r :: l, _, _, h => same_fold l (same_un h r)
/-- Names whose ring is sound, and holds no number below 0. -/
structure NmV.Sd (v : NmV) : Prop where
  m : v.m.length = 16
  xs : v.xs.length = v.n
  snd : Snd v.n v.h v.N
  pos : ∀ x ∈ v.xs, 0 ≤ x
theorem at_up {n : Nat} {h : Int} (h0 : 0 ≤ h) (h1 : h < n) : atZ n (atZ n h 1) (-1) = h := by
  unfold atZ
  by_cases hh : h + 1 < n
  · rw [Int.emod_eq_of_lt (a := h + 1) (by omega) hh, Int.emod_eq_of_lt (by omega) (by omega)]
    omega
  · have e : h + 1 = n := by omega
    have e2 : (0 + -1 : Int) = -1 := by omega
    rw [e, Int.emod_self, e2]
    rw [show (-1 : Int) = (n - 1) + n * (-1) by omega, Int.add_mul_emod_self_left, Int.emod_eq_of_lt (by omega) (by omega)]
    omega
theorem take_sd {n : Nat} {h N : Int} (ht : takeB n h N = true) : Snd n (atZ n h 1) (N - 1) := by
  obtain ⟨hn0, hn9, h0, h1, N0, N1, _, _⟩ := take_bounds ht
  obtain ⟨b0, b1⟩ := atZ_bounds h 1 hn0
  exact ⟨hn9, b0, .inl b1, by omega, by omega⟩
theorem take_give {n : Nat} {h N : Int} (ht : takeB n h N = true) : giveB n (atZ n h 1) (N - 1) = true := by
  obtain ⟨hn0, hn9, h0, h1, N0, N1, _, _⟩ := take_bounds ht
  unfold giveB
  rw [Bool.and_eq_true, sound_iff, decide_eq_true_eq]
  exact ⟨take_sd ht, by omega⟩
theorem setM_back {m : List Int} {r : Int} (p : Int) (hm : m.length = 16) : Rat.setM (Rat.setM m r p) r (Rat.getM m r) = m := by
  unfold Rat.setM Rat.getM
  cases hb : Rat.regB r with
  | false => simp
  | true =>
    have h2 : 0 < r ∧ r < 16 := by simpa [Rat.regB] using hb
    simp only [if_true, List.set_set]
    rw [List.getElem?_eq_getElem (show r.toNat < m.length by omega)]
    simp
theorem el_mem {xs : List Int} {i : Nat} (h : i < xs.length) : el xs i ∈ xs := by
  rw [show el xs i = xs[i] by simp [el, List.getElem?_eq_getElem h]]
  exact List.getElem_mem h
theorem on_sd {v : NmV} (hv : v.Sd) (u : UopV) : (onV v u).Sd := by
  refine ⟨?_, by rw [onV_xs, onV_n]; exact hv.xs, ?_, by rw [onV_xs]; exact hv.pos⟩
  · unfold onV
    split
    · split
      · show (Rat.setM _ _ _).length = 16
        rw [setM_len]; exact hv.m
      · exact hv.m
    · exact hv.m
  · unfold onV
    split
    · split
      · rename_i ht
        show Snd v.n (tkH v.n v.h v.N) (tkN v.n v.h v.N)
        unfold tkH tkN
        rw [if_pos ht, if_pos ht]
        exact take_sd ht
      · exact hv.snd
    · exact hv.snd
theorem un_on {v : NmV} (hv : v.Sd) {u : UopV} (hb : onB v u = true) : (unV (onV v u) (onR v u)).Same v := by
  cases hr : Rat.regB u.dst with
  | false =>
    have e1 : onV v u = ⟨v.m, v.d, v.n, v.xs, v.h, v.N, sqS v.s⟩ := by simp [onV, hr]
    have e2 : onR v u = rU v.m u v.s (-1) (-1) := by simp [onR, hr]
    have e3 : actB (rU v.m u v.s (-1) (-1)) = false := by simp [actB, rU, hr]
    rw [e1, e2]
    refine ⟨?_, rfl, rfl, ?_, ?_, ?_⟩ <;> simp [unV, unM, unX, unH, unN, e3]
  | true =>
    have ht : takeB v.n v.h v.N = true := by simpa [onB, hr] using hb
    obtain ⟨hn0, hn9, h0, h1, N0, N1, _, _⟩ := take_bounds ht
    have hg := take_give ht
    have eh : tkH v.n v.h v.N = atZ v.n v.h 1 := by simp [tkH, ht]
    have eN : tkN v.n v.h v.N = v.N - 1 := by simp [tkN, ht]
    have ep : tkP v.xs v.n v.h v.N = el v.xs v.h.toNat := by simp [tkP, ht]
    have hlt : v.h.toNat < v.xs.length := by rw [hv.xs]; omega
    have e1 : onV v u = ⟨Rat.setM v.m u.dst (el v.xs v.h.toNat), v.d, v.n, v.xs, atZ v.n v.h 1, v.N - 1, sqS v.s⟩ := by simp [onV, hr, ht, eh, eN, ep]
    have e2 : onR v u = rU v.m u v.s (el v.xs v.h.toNat) (Rat.getM v.m u.dst) := by simp [onR, hr, ht, ep]
    have e3 : actB (rU v.m u v.s (el v.xs v.h.toNat) (Rat.getM v.m u.dst)) = true := by
      simp only [actB, rU, hr, Bool.true_and]
      exact decide_eq_true (hv.pos _ (el_mem hlt))
    rw [e1, e2]
    refine ⟨?_, rfl, rfl, ?_, ?_, ?_⟩
    · show unM _ _ = _
      unfold unM
      rw [if_pos e3]
      exact setM_back _ hv.m
    · show unX v.xs v.n (atZ v.n v.h 1) (v.N - 1) _ = _
      unfold unX bkR
      rw [if_pos e3, if_pos hg, at_up h0 h1]
      show v.xs.set v.h.toNat (el v.xs v.h.toNat) = v.xs
      rw [show el v.xs v.h.toNat = v.xs[v.h.toNat] by simp [el, List.getElem?_eq_getElem hlt]]
      exact List.set_getElem_self hlt
    · show unH v.n (atZ v.n v.h 1) (v.N - 1) _ = _
      unfold unH bkH
      rw [if_pos e3, if_pos hg, at_up h0 h1]
    · show unN v.n (atZ v.n v.h 1) (v.N - 1) _ = _
      unfold unN gvN
      rw [if_pos e3, if_pos hg]
      omega
theorem grp_sd : ∀ (us : List UopV) {v : NmV}, v.Sd → (grp v us).1.Sd
  | [], v, h => h
  | u :: us, v, h => by
    unfold grp
    split
    · exact grp_sd us (on_sd h u)
    · exact h
theorem grp_back : ∀ (us : List UopV) {v : NmV}, v.Sd → ((grp v us).2.reverse.foldl unV (grp v us).1).Same v
  | [], v, h => NmV.Same.refl v
  | u :: us, v, h => by
    unfold grp
    split
    · rename_i hb
      show ((onR v u :: (grp (onV v u) us).2).reverse.foldl unV (grp (onV v u) us).1).Same v
      rw [List.reverse_cons, List.foldl_append]
      exact (same_un (grp_back us (on_sd h u)) _).trans (un_on h hb)
    · exact NmV.Same.refl v
theorem nwV_sd (n : Int) : (nwV n).Sd := by
  have h1 := cut_le n 96
  have h2 := cut_le 16 (cut n 96)
  refine ⟨l16, by unfold nwV newL; simp [fillN_len], ⟨h1, Int.le_refl 0, .inr rfl, ?_, ?_⟩, ?_⟩
  · show 0 ≤ ((cut n 96 : Int) - (cut 16 (cut n 96) : Int)); omega
  · show ((cut n 96 : Int) - (cut 16 (cut n 96) : Int)) ≤ (cut n 96 : Int); omega
  · intro x hx
    unfold nwV newL fillN at hx
    obtain ⟨i, _, rfl⟩ := List.mem_map.1 hx
    split
    · show (0 : Int) ≤ (cut 16 (cut n 96) : Int) + (i : Int)
      omega
    · omega
/-- A step of the undoing, from the youngest one on. -/
theorem undo_step {fl : List RenV} {V V1 : NmV} {q : Nat} {r : RenV} (hr : fl[q]? = some r) (h : ((fl.take (q + 1)).reverse.foldl unV V).Same V1) : ((fl.take q).reverse.foldl unV (unV V r)).Same V1 := by
  obtain ⟨hlt, he⟩ := List.getElem?_eq_some_iff.1 hr
  have e : fl.take (q + 1) = fl.take q ++ [r] := by rw [List.take_add_one, hr]; rfl
  rw [e, List.reverse_append] at h
  simpa using h
end Go.Proofs.Ytpgighhnhidpcaa.My

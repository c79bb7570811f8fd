/- Walk: the last field of an instruction as a number. -/
import Derived.Test.YtaclidjhgpkmpaaDoorAsmLast0
set_option linter.unusedVariables false
set_option linter.unusedSimpArgs false
namespace Go.Proofs.YtaclidjhgpkmpaaDoor.My
open Go.RowKit
theorem part_any (y : List UInt8) (v : Nat) (w : World) (hv : v < 4294967296) : Calls Tryd.prog 75 #[.string (bs y), .int .u32 (v : Nat)] w fun e w' => e = .returned (.int .i64 (pieceV y v)) ∧ w = w' := by
  by_cases h : y = [104, 105]
  · subst h
    unfold pieceV
    rw [if_pos rfl]
    exact part_hi v w hv
  · unfold pieceV
    rw [if_neg h]
    exact part_lo y v w h hv
theorem pieceV_le {y : List UInt8} {v : Nat} (hv : v < 4294967296) : -9223372036854775808 ≤ pieceV y v ∧ pieceV y v ≤ 9223372036854775807 := by
  unfold pieceV partH partL
  split
  · omega
  · split <;> omega
theorem sgn_le (v : Nat) : -2147483648 ≤ sgn32 v ∧ sgn32 v ≤ 2147483647 := by
  unfold sgn32
  split <;> omega
theorem rdw_init {w : World} {b off : Nat} {init : List (List UInt8)} {x : List UInt8} (h : RdW w (some ⟨b, off, none⟩) (init ++ [x])) : RdW w (some ⟨b, off, none⟩) init := by
  have h1 := rdw_take h init.length
  rwa [List.take_left'] at h1
  rfl
set_option maxRecDepth 100000 in
set_option maxHeartbeats 8000000 in
theorem last_plain {g : Nat} (B : Nat) (s : PS) (p : Prg) (rs : List RowM) (op : Int) (init : List (List UInt8)) (x : List UInt8) (b off N c i : Nat) (w : World) (hg : s.gP = g) (hp : PrgAt w B s p rs) (hr : RdW w (some ⟨b, off, none⟩) (init ++ [x])) (hN : N = init.length + 1) (hc : N ≤ c) (hl : N ≤ 90000) (hx : x.length ≤ 1000000) (hi : i ≤ 16384) (hvs : ∀ q ∈ p.vals, q.2 < 4294967296) (hpart : ¬ (init ≠ [] ∧ isPart (init.getLastD []) = true)) :
    Calls Tryd.prog 65 #[.pointer (some ⟨g, 0, none⟩), .int .i64 op, .slice (some ⟨b, off, none⟩) N c, .int .u32 (i : Nat)] w fun e w' => ListTo w w' (lastV p op init x i).2 (lastV p op init x i).1 e := by
  obtain ⟨R, hR⟩ : ∃ R, lastV p op init x i = R := ⟨_, rfl⟩
  rw [hR]
  unfold lastV at hR
  rw [if_neg hpart] at hR
  have HG := Lib.hid hg
  have HP := Lib.hid hp
  have HRD := Lib.hid hr
  have HB := startB w
  obtain ⟨n, hn⟩ : ∃ n, init.length = n := ⟨_, rfl⟩
  have HNL := Lib.hid hn
  rw [hn] at hN
  have hnN : n ≤ N := by omega
  have hnN2 : n < N := by omega
  have hn9 : n ≤ 100000 := by omega
  have hn1 : (N : Int) - 1 = (n : Int) := by omega
  have HXS : Hid ((bs x).size ≤ 9223372036854775807) := Lib.hid (by rw [bs_size]; omega)
  have cS : w.cell? ⟨b, off + n, none⟩ = some (.string (bs x)) := rdw_at hr (by rw [← hn]; simp)
  have hpc := parse_code (bs x)
  have hpl := parse_range (bs x)
  obtain ⟨⟨k, E⟩, hE⟩ : ∃ q, parseV (bs x) = q := ⟨_, rfl⟩
  rw [hE] at hR hpc hpl
  have HPV := Lib.hid hE
  have HVS := Lib.hid hvs
  obtain ⟨hk0, hk1⟩ := hpl
  -- what stands ahead of the last one is no 'hi' and no 'lo'
  have hcase : n = 0 ∨ ∃ (n2 : Nat) (y : List UInt8), n = n2 + 1 ∧ w.cell? ⟨b, off + n2, none⟩ = some (.string (bs y)) ∧ ((bs y).toList == [104, 105]) = false ∧ ((bs y).toList == [108, 111]) = false := by
    rcases List.eq_nil_or_concat init with h | ⟨ini, y, h⟩
    · left; rw [h] at hn; exact hn.symm
    · right
      subst h
      refine ⟨ini.length, y, by rw [← hn]; simp, rdw_at hr (by simp), ?_⟩
      have h1 : isPart y = false := by
        cases q : isPart y with
        | false => rfl
        | true => exact absurd ⟨by simp, by simpa using q⟩ hpart
      unfold isPart at h1
      rw [Bool.or_eq_false_iff] at h1
      rw [toL]
      exact h1
  have HNN : Hid ((init ++ [x]).length = N) := Lib.hid (by rw [List.length_append, hn, hN]; rfl)
  clear hp hr hn hE hvs hpart hg
  rcases hcase with rfl | ⟨n2, y, hn2, cY, y1, y2⟩
  all_goals
    first
    | (have hN1 : N = 1 := by omega
       subst hN1
       replace cS : w.cell? ⟨b, off, none⟩ = some (.string (bs x)) := cS
       clear hN hn1 hnN2)
    | (have hn0 : 0 < n := by omega
       have hn3 : (n : Int) - 1 = (n2 : Int) := by omega
       have hn4 : n2 < N := by omega
       clear hn2 hN)
    by_cases h3 : E = 3
    · rw [if_pos h3] at hR
      have HR := Lib.hid hR
      subst h3
      clear hR
      go_enter Tryd.func65, Tryd.ntmps65
      go_upto_region 10 with fail
      go_wp2_with (go_at_call 73; refine (parse_any (bs x) _ HXS.out).mono ?_; simp only [HPV.out]; rintro e w2 ⟨rfl, hb⟩; replace HP := keepP HP hb; replace HB := keepB HB hb; replace HRD := Lib.hid (HRD.out.below hb); have i2 : w2.cell? ⟨g, 2, none⟩ = some (.map (some s.gM)) := (by rw [← HG.out]; exact cell_of_row _ s.gP 2 _ _ _ HP.out.cells); clear hb)
      go_ret2
      rw [← HR.out]
      exact listTo_nil HB.out.1
    rw [if_neg h3] at hR
    by_cases h0 : E = 0
    · subst h0
      rw [if_neg (fun q => q rfl)] at hR
      obtain ⟨kd, rfl⟩ : ∃ z, z = k := ⟨_, rfl⟩
      have HR : Hid ((0, init ++ [decL kd]) = R) := Lib.hid hR
      have hd0 := hk0
      have hd1 := hk1
      obtain ⟨db, hdb⟩ : ∃ z, decL kd = z := ⟨_, rfl⟩
      rw [hdb] at HR
      have HDB := Lib.hid hdb
      have HDK := Lib.hid (And.intro hd0 hd1)
      clear hR h3 hpc hk0 hk1 hdb hd0 hd1
      go_enter Tryd.func65, Tryd.ntmps65
      go_upto_region 10 with fail
      (go_wp2_with (first | (go_at_call 73; refine (parse_any (bs x) _ HXS.out).mono ?_; simp only [HPV.out]; rintro e w2 ⟨rfl, hb⟩; replace HP := keepP HP hb; replace HB := keepB HB hb; replace HRD := Lib.hid (HRD.out.below hb); have i2 : w2.cell? ⟨g, 2, none⟩ = some (.map (some s.gM)) := (by rw [← HG.out]; exact cell_of_row _ s.gP 2 _ _ _ HP.out.cells); clear hb) | (refine slHd (by rfl) 55 _ _ rfl b off c _ _ rfl .i64 _ rfl rfl (run_headS (P := Tryd.prog) 55 Tryd.underlying55 infoS1 b off c _ _ hnN hc .i64) ?_) | (refine wlAppL (by rfl) _ _ 55 rfl Tryd.underlying55 infoStr3 rfl b off _ c init HNL.out rfl (rdw_init HRD.out) hn9 ?_; intro v2 w4 hown hb2; have HO := Lib.hid (own_weak hown HB.out.2); replace HB := keepB HB hb2; replace HRD := Lib.hid (HRD.out.below hb2); clear hown hb2) | (go_at_call 11; refine (dec_any2 kd _ HDK.out.1 HDK.out.2).mono ?_; rw [HDB.out]; rintro e w5 ⟨rfl, hb⟩; replace HO := Lib.hid (own_below HO.out hb); replace HB := keepB HB hb; clear hb) | (refine wlLit (by rfl) 55 1 _ rfl #[.string (bs db)] 9 (fun _ => by kernel_rfl) ?_; intro gN w6 hg1 hg2 ha hb; replace HO := Lib.hid (own_below HO.out hb); replace HB := keepB HB hb; have HN := Lib.hid ha; clear ha hb hg1 hg2) | (refine appRow rfl _ _ 55 9 (.string ⟨#[]⟩) 1 16 rfl Tryd.underlying55 infoStr3 rfl (by decide) w.heap.size v2 _ (init.map fun x => Value.string (bs x)) rfl HO.out #[.string (bs db)] rfl (by simp [Value.oneCell']) gN 1 rfl HN.out (by unfold maxLen; omega) (by omega) HB.out.2 ?_; intro v3 w7 hown hgr hv; replace HB := keepBw HB hgr (fun k hk => (HO.out.lt k hk).1); replace HO := Lib.hid hown; clear hown hgr hv)))
      go_ret2
      exact (by rw [← HR.out]; exact listTo_own HO.out (by rw [List.length_append, HNL.out]; rfl) (by rw [List.map_append]; rfl) HB.out.1)
    have h2 : E = 2 := by rcases hpc with q | q | q; exact absurd q h0; exact q; exact absurd q h3
    subst h2
    clear hk0 hk1
    rw [if_pos (show (2 : Int) ≠ 0 by decide)] at hR
    clear h3 h0 hpc
    by_cases hin : isNameV x = false
    · rw [if_pos hin] at hR
      have HR := Lib.hid hR
      have HIN := Lib.hid hin
      clear hR hin
      go_enter Tryd.func65, Tryd.ntmps65
      go_upto_region 10 with fail
      go_wp2_with (first | (go_at_call 73; refine (parse_any (bs x) _ HXS.out).mono ?_; simp only [HPV.out]; rintro e w2 ⟨rfl, hb⟩; replace HP := keepP HP hb; replace HB := keepB HB hb; replace HRD := Lib.hid (HRD.out.below hb); have i2 : w2.cell? ⟨g, 2, none⟩ = some (.map (some s.gM)) := (by rw [← HG.out]; exact cell_of_row _ s.gP 2 _ _ _ HP.out.cells); clear hb) | (go_at_call 55; refine (isName_any x _ hx).mono ?_; rw [HIN.out]; rintro e w3 ⟨rfl, rfl⟩))
      go_ret2
      rw [← HR.out]
      exact ⟨⟨_, c, by rw [HNN.out]; rfl, HRD.out, by rw [HNN.out]; exact hc⟩, HB.out.1⟩
    rw [if_neg hin] at hR
    have HIN : Hid (isNameV x = true) := Lib.hid (by simpa using hin)
    obtain ⟨r, hf⟩ : ∃ r, findV p.vals x = r := ⟨_, rfl⟩
    rw [hf] at hR
    have HF := Lib.hid hf
    clear hin
    cases r with
    | none =>
      have HR := Lib.hid hR
      clear hR hf
      go_enter Tryd.func65, Tryd.ntmps65
      go_upto_region 10 with fail
      go_wp2_with (first | (go_at_call 73; refine (parse_any (bs x) _ HXS.out).mono ?_; simp only [HPV.out]; rintro e w2 ⟨rfl, hb⟩; replace HP := keepP HP hb; replace HB := keepB HB hb; replace HRD := Lib.hid (HRD.out.below hb); have i2 : w2.cell? ⟨g, 2, none⟩ = some (.map (some s.gM)) := (by rw [← HG.out]; exact cell_of_row _ s.gP 2 _ _ _ HP.out.cells); clear hb) | (go_at_call 55; refine (isName_any x _ hx).mono ?_; rw [HIN.out]; rintro e w3 ⟨rfl, rfl⟩) | (refine mapLook (by rfl) _ _ rfl s.gM p.vals rfl HP.out.map x rfl hx _ HF.out ?_))
      go_ret2
      rw [← HR.out]
      exact listTo_nil HB.out.1
    | some v =>
      have hv : v < 4294967296 := find_lt hf HVS.out
      replace hR : (match refV op v i with | none => (3, []) | some k => (0, init ++ [decL k])) = R := hR
      obtain ⟨fo, hfo⟩ : ∃ fo, formV op = fo := ⟨_, rfl⟩
      have HFO := Lib.hid hfo
      unfold refV at hR
      rw [hfo] at hR
      clear hfo hf
      by_cases hrel : fo = 4 ∨ op = 49
      · rw [if_pos hrel] at hR
        obtain ⟨d, hd⟩ : ∃ d : Nat, (v + 4294967296 - i) % 4294967296 = d := ⟨_, rfl⟩
        have hdi := rel_sub hv hi hd
        have hw2 := rel_wrap hd
        have hs := sgn_le (v + 4294967296 - i)
        obtain ⟨J, hJ⟩ : ∃ z, sgn32 (v + 4294967296 - i) = z := ⟨_, rfl⟩
        rw [hJ] at hR hw2 hs
        have hj64 := rel_64 hs.1 hs.2
        have hs0 := sgn_le v
        have hw := abs_wrap v
        obtain ⟨J0, hJ0⟩ : ∃ z, sgn32 v = z := ⟨_, rfl⟩
        rw [hJ0] at hs0 hw
        have hw64 := rel_64 hs0.1 hs0.2
        clear hJ hJ0 hs0 hd
        have hop : (fo == 4) = true ∨ ((fo == 4) = false ∧ (op == 49) = true) := by
          by_cases q : fo = 4
          · exact .inl (beq_iff_eq.2 q)
          · exact .inr ⟨beq_eq_false_iff_ne.2 q, beq_iff_eq.2 (by rcases hrel with r | r; exact absurd r q; exact r)⟩
        by_cases hm : J % 4 ≠ 0
        · have HR : Hid ((3, []) = R) := Lib.hid (by rw [← hR, if_pos hm])
          have hm2 := rel_mod hm
          have HX := Lib.hid (And.intro hdi (And.intro hw2 (And.intro hj64 hm2)))
          clear hR hrel hs hm hdi hw2 hj64 hm2
          rcases hop with f1 | ⟨f1, f2⟩
          all_goals
            go_enter Tryd.func65, Tryd.ntmps65
            go_upto_region 10 with fail
            go_upto_region 20 with (first | (go_at_call 73; refine (parse_any (bs x) _ HXS.out).mono ?_; simp only [HPV.out]; rintro e w2 ⟨rfl, hb⟩; replace HP := keepP HP hb; replace HB := keepB HB hb; replace HRD := Lib.hid (HRD.out.below hb); have i2 : w2.cell? ⟨g, 2, none⟩ = some (.map (some s.gM)) := (by rw [← HG.out]; exact cell_of_row _ s.gP 2 _ _ _ HP.out.cells); clear hb) | (go_at_call 55; refine (isName_any x _ hx).mono ?_; rw [HIN.out]; rintro e w3 ⟨rfl, rfl⟩) | (refine mapLook (by rfl) _ _ rfl s.gM p.vals rfl HP.out.map x rfl hx _ HF.out ?_))
            clear hw hw64
            obtain ⟨hdi, hw2, hj64, hm2⟩ := HX.out
            go_upto_region 21 with (go_at_call 20; refine (form_any op _).mono ?_; rw [HFO.out]; rintro e w3 ⟨rfl, rfl⟩)
            go_wp2
            go_ret2
            rw [← HR.out]
            exact listTo_nil HB.out.1
        · have hm0 : J % 4 = 0 := Decidable.not_not.1 hm
          obtain ⟨kd, hkd⟩ : ∃ z, J / 4 = z := ⟨_, rfl⟩
          have HR : Hid ((0, init ++ [decL kd]) = R) := Lib.hid (by rw [← hR, if_neg hm, ← hkd])
          have hm2 := rel_mod0 hm0
          have hq := rel_div hm0
          have hk64 := rel_64q hs.1 hs.2
          have hk9 := rel_le hs.1 hs.2
          rw [hkd] at hq hk64 hk9
          have HDK := Lib.hid hk9
          clear hk9
          obtain ⟨db, hdb⟩ : ∃ z, decL kd = z := ⟨_, rfl⟩
          rw [hdb] at HR
          have HDB := Lib.hid hdb
          have HX := Lib.hid (And.intro hdi (And.intro hw2 (And.intro hj64 (And.intro hm2 (And.intro hq hk64)))))
          clear hR hrel hs hm hm0 hkd hdb hdi hw2 hj64 hm2 hq hk64
          rcases hop with f1 | ⟨f1, f2⟩
          all_goals
            go_enter Tryd.func65, Tryd.ntmps65
            go_upto_region 10 with fail
            go_upto_region 20 with (first | (go_at_call 73; refine (parse_any (bs x) _ HXS.out).mono ?_; simp only [HPV.out]; rintro e w2 ⟨rfl, hb⟩; replace HP := keepP HP hb; replace HB := keepB HB hb; replace HRD := Lib.hid (HRD.out.below hb); have i2 : w2.cell? ⟨g, 2, none⟩ = some (.map (some s.gM)) := (by rw [← HG.out]; exact cell_of_row _ s.gP 2 _ _ _ HP.out.cells); clear hb) | (go_at_call 55; refine (isName_any x _ hx).mono ?_; rw [HIN.out]; rintro e w3 ⟨rfl, rfl⟩) | (refine mapLook (by rfl) _ _ rfl s.gM p.vals rfl HP.out.map x rfl hx _ HF.out ?_))
            clear hw hw64
            obtain ⟨hdi, hw2, hj64, hm2, hq, hk64⟩ := HX.out
            go_upto_region 21 with (go_at_call 20; refine (form_any op _).mono ?_; rw [HFO.out]; rintro e w3 ⟨rfl, rfl⟩)
            go_upto_region 25 with fail
            go_wp2_with (first | (refine slHd (by rfl) 55 _ _ rfl b off c _ _ rfl .i64 _ rfl rfl (run_headS (P := Tryd.prog) 55 Tryd.underlying55 infoS1 b off c _ _ hnN hc .i64) ?_) | (refine wlAppL (by rfl) _ _ 55 rfl Tryd.underlying55 infoStr3 rfl b off _ c init HNL.out rfl (rdw_init HRD.out) hn9 ?_; intro v2 w4 hown hb2; have HO := Lib.hid (own_weak hown HB.out.2); replace HB := keepB HB hb2; replace HRD := Lib.hid (HRD.out.below hb2); clear hown hb2) | (go_at_call 11; refine (dec_any2 kd _ HDK.out.1 HDK.out.2).mono ?_; rw [HDB.out]; rintro e w5 ⟨rfl, hb⟩; replace HO := Lib.hid (own_below HO.out hb); replace HB := keepB HB hb; clear hb) | (refine wlLit (by rfl) 55 1 _ rfl #[.string (bs db)] 9 (fun _ => by kernel_rfl) ?_; intro gN w6 hg1 hg2 ha hb; replace HO := Lib.hid (own_below HO.out hb); replace HB := keepB HB hb; have HN := Lib.hid ha; clear ha hb hg1 hg2) | (refine appRow rfl _ _ 55 9 (.string ⟨#[]⟩) 1 16 rfl Tryd.underlying55 infoStr3 rfl (by decide) w.heap.size v2 _ (init.map fun x => Value.string (bs x)) rfl HO.out #[.string (bs db)] rfl (by simp [Value.oneCell']) gN 1 rfl HN.out (by unfold maxLen; omega) (by omega) HB.out.2 ?_; intro v3 w7 hown hgr hv; replace HB := keepBw HB hgr (fun k hk => (HO.out.lt k hk).1); replace HO := Lib.hid hown; clear hown hgr hv))
            go_ret2
            exact (by rw [← HR.out]; exact listTo_own HO.out (by rw [List.length_append, HNL.out]; rfl) (by rw [List.map_append]; rfl) HB.out.1)
      · rw [if_neg hrel] at hR
        have HR : Hid ((0, init ++ [decL (sgn32 v)]) = R) := Lib.hid hR
        obtain ⟨kd, hkd⟩ : ∃ z, sgn32 v = z := ⟨_, rfl⟩
        have hs := sgn_le v
        rw [hkd] at HR hs
        have hd0 : -9223372036854775808 ≤ kd := by omega
        have hd1 : kd ≤ 9223372036854775807 := by omega
        have hw : wrap32 (v : Int) = kd := by rw [← hkd]; unfold wrap32 sgn32; split <;> omega
        have hw64 : wrap64 kd = kd := by unfold wrap64; omega
        have f1 : (fo == 4) = false := beq_eq_false_iff_ne.2 (fun q => hrel (.inl q))
        have f2 : (op == 49) = false := beq_eq_false_iff_ne.2 (fun q => hrel (.inr q))
        obtain ⟨db, hdb⟩ : ∃ z, decL kd = z := ⟨_, rfl⟩
        rw [hdb] at HR
        have HDB := Lib.hid hdb
        have HDK := Lib.hid (And.intro hd0 hd1)
        clear hR hrel hs hkd hdb hd0 hd1
        go_enter Tryd.func65, Tryd.ntmps65
        go_upto_region 10 with fail
        go_upto_region 20 with (first | (go_at_call 73; refine (parse_any (bs x) _ HXS.out).mono ?_; simp only [HPV.out]; rintro e w2 ⟨rfl, hb⟩; replace HP := keepP HP hb; replace HB := keepB HB hb; replace HRD := Lib.hid (HRD.out.below hb); have i2 : w2.cell? ⟨g, 2, none⟩ = some (.map (some s.gM)) := (by rw [← HG.out]; exact cell_of_row _ s.gP 2 _ _ _ HP.out.cells); clear hb) | (go_at_call 55; refine (isName_any x _ hx).mono ?_; rw [HIN.out]; rintro e w3 ⟨rfl, rfl⟩) | (refine mapLook (by rfl) _ _ rfl s.gM p.vals rfl HP.out.map x rfl hx _ HF.out ?_))
        go_upto_region 25 with (go_at_call 20; refine (form_any op _).mono ?_; rw [HFO.out]; rintro e w3 ⟨rfl, rfl⟩)
        go_wp2_with (first | (refine slHd (by rfl) 55 _ _ rfl b off c _ _ rfl .i64 _ rfl rfl (run_headS (P := Tryd.prog) 55 Tryd.underlying55 infoS1 b off c _ _ hnN hc .i64) ?_) | (refine wlAppL (by rfl) _ _ 55 rfl Tryd.underlying55 infoStr3 rfl b off _ c init HNL.out rfl (rdw_init HRD.out) hn9 ?_; intro v2 w4 hown hb2; have HO := Lib.hid (own_weak hown HB.out.2); replace HB := keepB HB hb2; replace HRD := Lib.hid (HRD.out.below hb2); clear hown hb2) | (go_at_call 11; refine (dec_any2 kd _ HDK.out.1 HDK.out.2).mono ?_; rw [HDB.out]; rintro e w5 ⟨rfl, hb⟩; replace HO := Lib.hid (own_below HO.out hb); replace HB := keepB HB hb; clear hb) | (refine wlLit (by rfl) 55 1 _ rfl #[.string (bs db)] 9 (fun _ => by kernel_rfl) ?_; intro gN w6 hg1 hg2 ha hb; replace HO := Lib.hid (own_below HO.out hb); replace HB := keepB HB hb; have HN := Lib.hid ha; clear ha hb hg1 hg2) | (refine appRow rfl _ _ 55 9 (.string ⟨#[]⟩) 1 16 rfl Tryd.underlying55 infoStr3 rfl (by decide) w.heap.size v2 _ (init.map fun x => Value.string (bs x)) rfl HO.out #[.string (bs db)] rfl (by simp [Value.oneCell']) gN 1 rfl HN.out (by unfold maxLen; omega) (by omega) HB.out.2 ?_; intro v3 w7 hown hgr hv; replace HB := keepBw HB hgr (fun k hk => (HO.out.lt k hk).1); replace HO := Lib.hid hown; clear hown hgr hv))
        go_ret2
        exact (by rw [← HR.out]; exact listTo_own HO.out (by rw [List.length_append, HNL.out]; rfl) (by rw [List.map_append]; rfl) HB.out.1)
end Go.Proofs.YtaclidjhgpkmpaaDoor.My

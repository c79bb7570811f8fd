/- Walk: the values of .word and .byte are laid. -/
import Derived.Test.YtaclidjhgpkmpaaDoorAsmPut
set_option linter.unusedVariables false
set_option linter.unusedSimpArgs false
namespace Go.Proofs.YtaclidjhgpkmpaaDoor.My
open Go.RowKit
def frV (sz : Nat) : Int := if sz = 1 then -128 else -2147483648
def toV (sz : Nat) : Int := if sz = 1 then 255 else 4294967295
/-- Values from a word on: a code, and the data then. -/
def valuesR (p : Prg) (sz i : Nat) : List (List UInt8) → Nat → List UInt8 → Nat × List UInt8
  | [], _, d => (0, d)
  | x :: r, k, d =>
    if (numberV x (frV sz) (toV sz)).2 = 2 ∧ isNameV x = true then
      match findV p.vals x with
      | none => (10, d)
      | some v => if sz = 1 ∧ 255 < v then (3, d) else valuesR p sz i r (k + 1) (putV d (i + k * sz) v sz)
    else if (numberV x (frV sz) (toV sz)).2 = 0 then valuesR p sz i r (k + 1) (putV d (i + k * sz) ((numberV x (frV sz) (toV sz)).1 % 4294967296).toNat sz)
    else ((numberV x (frV sz) (toV sz)).2.toNat, d)
theorem find_lt {ns : List (List UInt8 × Nat)} {x : List UInt8} {v : Nat} (h : findV ns x = some v) (hs : ∀ q ∈ ns, q.2 < 4294967296) : v < 4294967296 := by
  unfold findV at h
  obtain ⟨q, hq, rfl⟩ := Option.map_eq_some_iff.1 h
  exact hs q (List.mem_of_find?_eq_some hq)
theorem rdw_at {w : World} {b off k : Nat} {x : List UInt8} {t : List (List UInt8)} (h : RdW w (some ⟨b, off, none⟩) t) (hx : t[k]? = some x) : w.cell? ⟨b, off + k, none⟩ = some (.string (bs x)) := by
  obtain ⟨b', off', hA, hc⟩ := h (by have := (List.getElem?_eq_some_iff.1 hx).1; omega)
  injection hA with hA
  injection hA with h1 h2 _
  subst h1; subst h2
  exact hc k x hx
set_option maxRecDepth 100000 in
set_option maxHeartbeats 8000000 in
theorem values_any {g : Nat} (B : Nat) (s : PS) (p : Prg) (rs : List RowM) (x0 : List UInt8) (t : List (List UInt8)) (A : Option Addr) (N c i sz : Nat) (w : World) (hg : s.gP = g) (hp : PrgAt w B s p rs) (hr : RdW w A (x0 :: t)) (ho : Out A N s.ms) (hN : N = t.length + 1) (hc : N ≤ c) (hl : N ≤ 100000) (hwl : ∀ x ∈ t, x.length ≤ 1000000) (hsz : sz = 1 ∨ sz = 4) (hi : i + t.length * sz ≤ 16384) (hvs : ∀ q ∈ p.vals, q.2 < 4294967296) :
    Calls Tryd.prog 43 #[.pointer (some ⟨g, 0, none⟩), .agg #[.slice A N c, .int .u32 (i : Nat)], .int .i64 (sz : Nat)] w fun e w' => e = .returned (.int .i64 ((valuesR p sz i t 0 p.data).1 : Nat)) ∧ DataTo w w' B s p rs (valuesR p sz i t 0 p.data).2 := by
  obtain ⟨R, hR⟩ : ∃ R, valuesR p sz i t 0 p.data = R := ⟨_, rfl⟩
  rw [hR]
  have HR := Lib.hid hR
  have HG := Lib.hid hg
  have HP0 := Lib.hid hp
  have HP := Lib.hid hp
  have HT : Hid (Turn [s.gD] w w) := Lib.hid (Turn.refl _ _)
  obtain ⟨b, off, rfl, -⟩ := hr (by simp)
  have HRD0 := Lib.hid hr
  obtain ⟨off', cap', hsl, hcap2, hrd2⟩ := run_tailS (P := Tryd.prog) 55 Tryd.underlying55 infoS1 b off c N x0 t hN hc .i64
  have HRD := Lib.hid (hrd2 _ hr)
  obtain ⟨n, hn⟩ : ∃ n, t.length = n := ⟨_, rfl⟩
  have HOD : Hid (Out (some ⟨b, off', none⟩) t.length [s.gD]) := Lib.hid (fun a ha _ q => by
    injection ha with ha
    subst ha
    have q2 : b = s.gD := List.mem_singleton.1 q
    exact ho ⟨b, off, none⟩ rfl (by omega) (q2 ▸ s.mem_D))
  rw [hn] at hsl hcap2 hi hN
  have hn9 : n ≤ 100000 := by omega
  have hN0 : 0 < N := by omega
  have HNT := Lib.hid hn
  have HVS := Lib.hid hvs
  have HWL := Lib.hid hwl
  have HNN := Lib.hid hN
  obtain ⟨sb, hsb⟩ : ∃ sb, ((sz : Int) == 1) = sb := ⟨_, rfl⟩
  obtain ⟨F, hF⟩ : ∃ F, frV sz = F := ⟨_, rfl⟩
  obtain ⟨T, hT⟩ : ∃ T, toV sz = T := ⟨_, rfl⟩
  have HFT : Hid (frV sz = F ∧ toV sz = T) := Lib.hid ⟨hF, hT⟩
  clear hR hg hp hr ho hn hvs hrd2 hwl hN
  have hF2 : ((sb = true ∧ F = -128 ∧ T = 255) ∨ (sb = false ∧ F = -2147483648 ∧ T = 4294967295)) := by
    rcases hsz with rfl | rfl
    · exact .inl ⟨hsb.symm, hF.symm, hT.symm⟩
    · exact .inr ⟨hsb.symm, hF.symm, hT.symm⟩
  clear hF hT
  rcases hF2 with ⟨rfl, rfl, rfl⟩ | ⟨rfl, rfl, rfl⟩
  all_goals
    go_enter Tryd.func43, Tryd.ntmps43
    go_wp2_with (first | (refine wlBox (by rfl) 71 _ rfl #[.slice (some ⟨b, off, none⟩) N c, .int .u32 (i : Nat)] rfl ?_; intro gB w1 hg hl ha hb; replace HP := keepP HP hb; replace HT := keepT HT hb; have HGB : Hid (∀ k ∈ s.ms, k < gB) := Lib.hid (fun k hk => Nat.lt_of_lt_of_le (HP0.out.lt k hk) hg); have HX := Lib.hid ha; have b0 : w1.cell? ⟨gB, 0, none⟩ = some (.slice (some ⟨b, off, none⟩) N c) := cell_of_row _ gB 0 _ _ _ ha; replace HRD := Lib.hid (HRD.out.below hb); clear ha hb hg hl) | (refine slRd (by rfl) _ _ _ rfl b off c N off' n cap' rfl .i64 rfl hsl ?_))
    have HGD : Hid (gB ∉ [s.gD]) := Lib.hid (fun q => by have := HGB.out _ s.mem_D; rw [List.mem_singleton.1 q] at this; omega)
    go_loopg [21] n (fun gk j wr => ∃ (k : Nat) (D : List UInt8), j = .int .i64 (k : Nat) ∧ k + gk = n ∧ Hid (valuesR p sz i (t.drop k) k D = R) ∧ Hid (PrgAt wr B s { p with data := D } rs) ∧ Hid (Turn [s.gD] w wr) ∧ Hid (RdW wr (some ⟨b, off', none⟩) t) ∧ Hid (wr.heap[gB]? = some (.cells #[.slice (some ⟨b, off, none⟩) N c, .int .u32 (i : Nat)] 71 (0, 0))))
    case atStart => exact ⟨0, p.data, rfl, by omega, HR, HP, HT, HRD, HX⟩
    case round =>
      clear HP HT HRD HX HR b0
      obtain ⟨k, D, rfl, hk, HR, HP, HT, HRD, HX⟩ := hrel
      have HK := Lib.hid hk
      clear hk
      by_cases hlt : k < n
      · obtain ⟨x, hx0⟩ : ∃ x, t[k]? = some x := ⟨_, List.getElem?_eq_getElem (by rw [HNT.out]; exact hlt)⟩
        have hx : x.length ≤ 1000000 := HWL.out x (List.mem_of_getElem? hx0)
        have x0 : wr.cell? ⟨b, off' + k, none⟩ = some (.string (bs x)) := rdw_at HRD.out hx0
        have hd : t.drop k = x :: t.drop (k + 1) := by
          obtain ⟨h1, rfl⟩ := List.getElem?_eq_some_iff.1 hx0
          exact List.drop_eq_getElem_cons h1
        have hr := HR.out
        rw [hd, valuesR] at hr
        have hc := number_code x (frV sz) (toV sz)
        obtain ⟨⟨nv, E⟩, hE⟩ : ∃ q, numberV x (frV sz) (toV sz) = q := ⟨_, rfl⟩
        rw [hE] at hr hc
        rw [HFT.out.1, HFT.out.2] at hE
        have HN := Lib.hid hE
        obtain ⟨m, hm⟩ : ∃ m, k * sz = m := ⟨_, rfl⟩
        have hmul : (k : Int) * (sz : Int) = (m : Int) := by rw [← hm]; push_cast; rfl
        have hm16 : m + sz ≤ n * sz := by rw [← hm]; calc k * sz + sz = (k + 1) * sz := by rw [Nat.succ_mul]
                                                      _ ≤ n * sz := Nat.mul_le_mul_right _ hlt
        obtain ⟨q, hq⟩ : ∃ q, i + m = q := ⟨_, rfl⟩
        have hadd : (i : Int) + (m : Int) = (q : Int) := by omega
        have hqs : q + sz ≤ 16384 := by omega
        have hm17 : m ≤ 16384 := by omega
        rw [hm, hq] at hr
        clear hE hd hx0 HR hq hm
        by_cases h2 : E = 2
        · subst h2
          by_cases hin : isNameV x = true
          · rw [if_pos ⟨rfl, hin⟩] at hr
            have HIN := Lib.hid hin
            obtain ⟨r, hf⟩ : ∃ r, findV p.vals x = r := ⟨_, rfl⟩
            rw [hf] at hr
            have HF := Lib.hid hf
            clear hin hc
            cases r with
            | none =>
              have HR := Lib.hid hr
              clear hr hf
              go_wp2_with (first | (go_at_call 58; refine (number_any x _ _ _ hx).mono ?_; simp only [HN.out]; rintro e w2 ⟨rfl, hb⟩; replace HP := keepP HP hb; replace HT := keepT HT hb; replace HRD := Lib.hid (HRD.out.below hb); replace HX := keepA HX hb; have b1 : w2.cell? ⟨gB, 1, none⟩ = some (.int .u32 (i : Nat)) := cell_of_row _ gB 1 _ _ _ HX.out; have i2 : w2.cell? ⟨g, 2, none⟩ = some (.map (some s.gM)) := (by rw [← HG.out]; exact cell_of_row _ s.gP 2 _ _ _ HP.out.cells); clear hb) | (go_at_call 55; refine (isName_any x _ hx).mono ?_; rw [HIN.out]; rintro e w3 ⟨rfl, rfl⟩) | (refine mapLook (by rfl) _ _ rfl s.gM p.vals rfl HP.out.map x rfl hx _ HF.out ?_))
              go_ret
              exact ⟨by rw [← HR.out]; rfl, by rw [← HR.out]; exact ⟨HP.out, HT.out⟩⟩
            | some V =>
              have hV : V < 4294967296 := find_lt hf HVS.out
              replace hr : (if sz = 1 ∧ 255 < V then (3, D) else valuesR p sz i (t.drop (k + 1)) (k + 1) (putV D q V sz)) = R := hr
              have hv0 : (V : Int) % 4294967296 = (V : Int) := by omega
              have hv1 : V % 4294967296 = V := by omega
              clear hf
              by_cases h3 : sz = 1 ∧ 255 < V
              · first
                | (exfalso; have h9 := beq_eq_false_iff_ne.1 hsb; have := h3.1; omega)
                | (rw [if_pos h3] at hr
                   have HR := Lib.hid hr
                   have h4 := h3.2
                   clear hr h3
                   go_wp2_with (first | (go_at_call 58; refine (number_any x _ _ _ hx).mono ?_; simp only [HN.out]; rintro e w2 ⟨rfl, hb⟩; replace HP := keepP HP hb; replace HT := keepT HT hb; replace HRD := Lib.hid (HRD.out.below hb); replace HX := keepA HX hb; have b1 : w2.cell? ⟨gB, 1, none⟩ = some (.int .u32 (i : Nat)) := cell_of_row _ gB 1 _ _ _ HX.out; have i2 : w2.cell? ⟨g, 2, none⟩ = some (.map (some s.gM)) := (by rw [← HG.out]; exact cell_of_row _ s.gP 2 _ _ _ HP.out.cells); clear hb) | (go_at_call 55; refine (isName_any x _ hx).mono ?_; rw [HIN.out]; rintro e w3 ⟨rfl, rfl⟩) | (refine mapLook (by rfl) _ _ rfl s.gM p.vals rfl HP.out.map x rfl hx _ HF.out ?_))
                   go_ret
                   exact ⟨by rw [← HR.out]; rfl, by rw [← HR.out]; exact ⟨HP.out, HT.out⟩⟩)
              · rw [if_neg h3] at hr
                have HR := Lib.hid hr
                first
                | have h4 : ¬ 255 < V := fun q => h3 ⟨by have := beq_iff_eq.1 hsb; omega, q⟩
                | skip
                clear hr h3
                go_wp2_with (first | (go_at_call 58; refine (number_any x _ _ _ hx).mono ?_; simp only [HN.out]; rintro e w2 ⟨rfl, hb⟩; replace HP := keepP HP hb; replace HT := keepT HT hb; replace HRD := Lib.hid (HRD.out.below hb); replace HX := keepA HX hb; have b1 : w2.cell? ⟨gB, 1, none⟩ = some (.int .u32 (i : Nat)) := cell_of_row _ gB 1 _ _ _ HX.out; have i2 : w2.cell? ⟨g, 2, none⟩ = some (.map (some s.gM)) := (by rw [← HG.out]; exact cell_of_row _ s.gP 2 _ _ _ HP.out.cells); clear hb) | (go_at_call 55; refine (isName_any x _ hx).mono ?_; rw [HIN.out]; rintro e w3 ⟨rfl, rfl⟩) | (refine mapLook (by rfl) _ _ rfl s.gM p.vals rfl HP.out.map x rfl hx _ HF.out ?_) | (go_at_call 63; refine (put_any B s { p with data := D } rs q V sz _ HG.out HP.out hsz hqs hV).mono ?_; rintro e w5 ⟨rfl, hd⟩; have HP5 := Lib.hid hd.pa; replace HT := keepTt HT hd.tu (fun k hk => .inl hk); replace HRD := Lib.hid (HRD.out.turn hd.tu HOD.out); replace HX := Lib.hid ((hd.tu.block gB (Array.getElem?_eq_some_iff.1 HX.out).1 HGD.out).trans HX.out); clear hd))
                go_roundg (gk - 1)
                case rel =>
                  refine ⟨k + 1, putV D q V sz, rfl, ?_, HR, HP5, HT, HRD, HX⟩
                  have := HK.out; omega
                case measure => have := HK.out; omega
          · rw [if_neg (fun h => hin h.2), if_neg (show ¬ ((2 : Int) = 0) by decide)] at hr
            have HIN : Hid (isNameV x = false) := Lib.hid (by simpa using hin)
            have HR := Lib.hid hr
            clear hr hin hc
            go_wp2_with (first | (go_at_call 58; refine (number_any x _ _ _ hx).mono ?_; simp only [HN.out]; rintro e w2 ⟨rfl, hb⟩; replace HP := keepP HP hb; replace HT := keepT HT hb; replace HRD := Lib.hid (HRD.out.below hb); replace HX := keepA HX hb; have b1 : w2.cell? ⟨gB, 1, none⟩ = some (.int .u32 (i : Nat)) := cell_of_row _ gB 1 _ _ _ HX.out; have i2 : w2.cell? ⟨g, 2, none⟩ = some (.map (some s.gM)) := (by rw [← HG.out]; exact cell_of_row _ s.gP 2 _ _ _ HP.out.cells); clear hb) | (go_at_call 55; refine (isName_any x _ hx).mono ?_; rw [HIN.out]; rintro e w3 ⟨rfl, rfl⟩))
            go_ret
            exact ⟨by rw [← HR.out]; rfl, by rw [← HR.out]; exact ⟨HP.out, HT.out⟩⟩
        · rw [if_neg (fun h => h2 h.1)] at hr
          by_cases h0 : E = 0
          · subst h0
            rw [if_pos rfl] at hr
            obtain ⟨V, hV0⟩ : ∃ V, (nv % 4294967296).toNat = V := ⟨_, rfl⟩
            have hV : V < 4294967296 := by omega
            have hv0 : nv % 4294967296 = (V : Int) := by omega
            simp only [hV0] at hr
            have HR := Lib.hid hr
            have hcc := hc
            have hnr : -2147483648 ≤ nv ∧ nv ≤ 4294967295 := by
              rcases hc with ⟨_, q1, q2⟩ | q | q
              · have q3 : -2147483648 ≤ frV sz ∧ toV sz ≤ 4294967295 := by unfold frV toV; rcases hsz with rfl | rfl <;> decide
                exact ⟨Int.le_trans q3.1 q1, Int.le_trans q2 q3.2⟩
              · cases q
              · cases q
            obtain ⟨hn1, hn2⟩ := hnr
            clear hr h2 hc hcc hV0
            go_wp2_with (first | (go_at_call 58; refine (number_any x _ _ _ hx).mono ?_; simp only [HN.out]; rintro e w2 ⟨rfl, hb⟩; replace HP := keepP HP hb; replace HT := keepT HT hb; replace HRD := Lib.hid (HRD.out.below hb); replace HX := keepA HX hb; have b1 : w2.cell? ⟨gB, 1, none⟩ = some (.int .u32 (i : Nat)) := cell_of_row _ gB 1 _ _ _ HX.out; have i2 : w2.cell? ⟨g, 2, none⟩ = some (.map (some s.gM)) := (by rw [← HG.out]; exact cell_of_row _ s.gP 2 _ _ _ HP.out.cells); clear hb) | (go_at_call 63; refine (put_any B s { p with data := D } rs q V sz _ HG.out HP.out hsz hqs hV).mono ?_; rintro e w5 ⟨rfl, hd⟩; have HP5 := Lib.hid hd.pa; replace HT := keepTt HT hd.tu (fun k hk => .inl hk); replace HRD := Lib.hid (HRD.out.turn hd.tu HOD.out); replace HX := Lib.hid ((hd.tu.block gB (Array.getElem?_eq_some_iff.1 HX.out).1 HGD.out).trans HX.out); clear hd))
            go_roundg (gk - 1)
            case rel =>
              refine ⟨k + 1, putV D q V sz, rfl, ?_, HR, HP5, HT, HRD, HX⟩
              have := HK.out; omega
            case measure => have := HK.out; omega
          · have h3 : E = 3 := by rcases hc with ⟨q, _⟩ | q | q; exact absurd q h0; exact absurd q h2; exact q
            subst h3
            rw [if_neg h0] at hr
            have HR := Lib.hid hr
            clear hr h0 hc h2
            go_wp2_with (first | (go_at_call 58; refine (number_any x _ _ _ hx).mono ?_; simp only [HN.out]; rintro e w2 ⟨rfl, hb⟩; replace HP := keepP HP hb; replace HT := keepT HT hb; replace HRD := Lib.hid (HRD.out.below hb); replace HX := keepA HX hb; have b1 : w2.cell? ⟨gB, 1, none⟩ = some (.int .u32 (i : Nat)) := cell_of_row _ gB 1 _ _ _ HX.out; have i2 : w2.cell? ⟨g, 2, none⟩ = some (.map (some s.gM)) := (by rw [← HG.out]; exact cell_of_row _ s.gP 2 _ _ _ HP.out.cells); clear hb))
            go_ret
            exact ⟨by rw [← HR.out]; rfl, by rw [← HR.out]; exact ⟨HP.out, HT.out⟩⟩
      · go_wp2
        go_ret
        have e : k = n := by have := HK.out; omega
        have h9 := HR.out
        rw [List.drop_of_length_le (by rw [HNT.out]; omega), valuesR] at h9
        exact ⟨by rw [← h9]; rfl, by rw [← h9]; exact ⟨HP.out, HT.out⟩⟩
end Go.Proofs.YtaclidjhgpkmpaaDoor.My

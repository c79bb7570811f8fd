/- Walk: an image read: the reference's. -/
import Derived.Test.YtnigkecpiolgeaaDoorRomMore
import Derived.Test.YtnigkecpiolgeaaDoorRomRead3
import Derived.Test.YtnigkecpiolgeaaDoorRomGa
set_option linter.unusedVariables false
set_option linter.unusedSimpArgs false
namespace Go.Proofs.YtnigkecpiolgeaaDoor.My
open Go.RowKit
set_option maxRecDepth 100000 in
set_option maxHeartbeats 1000000 in
theorem more_zero (st n c : Nat) (S : Option Addr) (lk ul dl cl sl : Nat) (Al Ax : Option Addr) (cx : Nat) (w : World) : Calls Tryd.prog 36 #[.agg (imA st S n c), .agg (rowA lk ul (.slice Al dl cl) sl), .agg (rowA 0 0 (.slice Ax 0 cx) 0)] w fun e w' => e = .returned (.int .i64 ((2 : Nat) : Int)) ∧ Below w.heap.size w w' := by
  have HB := startB w
  go_enter Tryd.func36, Tryd.ntmps36
  go_upto_region 1 with (first | (refine wlBox (by rfl) 25 _ rfl (imA st S n c) rfl ?_; intro gI w1 hg hl ha hb; replace HB := keepB HB hb; clear ha hb hg hl) | (refine wlBox (by rfl) 76 _ rfl (rowA lk ul (.slice Al dl cl) sl) rfl ?_; intro gL w2 hg hl ha hb; replace HB := keepB HB hb; clear ha hb hg hl) | (refine wlBox (by rfl) 76 _ rfl (rowA 0 0 (.slice Ax 0 cx) 0) rfl ?_; intro gX w3 hg hl ha hb; replace HB := keepB HB hb; have HX := Lib.hid ha; have x0 : w3.cell? ⟨gX, 0, none⟩ = some (.int .i64 0) := cellA HX 0; clear ha hb hg hl))
  go_wp2
  go_ret
  exact ⟨rfl, HB.out.1⟩
theorem infoU32p : (Tryd.prog.info? 22).map (·.size) = some 1 := by kernel_rfl
theorem more_put {ss : List SegV} {last x : RowV} (h : moreV ss last x = 0) : x.kind ≠ 0 ∧ last.kind ≠ 3 ∧ (x.kind = 2 → last.kind ≠ 0 ∧ last.b.length = 16 ∧ last.at_ + 16 = x.at_) ∧ (x.kind ≠ 3 → x.at_ + x.b.length ≤ 16384) := by
  unfold moreV at h
  split at h
  · cases h
  rename_i a
  split at h
  · cases h
  rename_i b
  split at h
  · cases h
  split at h
  · rename_i c
    exact ⟨fun q => a (.inl q), fun q => a (.inr q), fun q => absurd (c.symm.trans q) (by decide), fun q => absurd c q⟩
  split at h
  · cases h
  split at h
  · cases h
  rename_i e
  refine ⟨fun q => a (.inl q), fun q => a (.inr q), fun q => ?_, fun _ => by omega⟩
  exact Classical.byContradiction fun g => b ⟨q, g⟩
set_option maxRecDepth 100000 in
set_option maxHeartbeats 8000000 in
theorem rparse_any (s : ByteArray) (w : World) (hm : s.size ≤ 1000000) : Calls Tryd.prog 16 #[.string s] w (ImgIs (parseV s) w) := by
  obtain ⟨R, hR⟩ : ∃ R, parseV s = R := ⟨_, rfl⟩
  rw [hR]
  obtain ⟨⟨ls, ec⟩, hLV⟩ : ∃ V, linesV s = V := ⟨_, rfl⟩
  have HLV := Lib.hid hLV
  have HB := startB w
  by_cases hec : ec = 0
  · subst hec
    have HGO : Hid (goV (ls.map fun t => rowV t.data.toList) 0 [] rowZ 0 = R) := Lib.hid (by rw [← hR]; unfold parseV rowsV; rw [hLV, if_pos rfl])
    have HLS : Hid (∀ t ∈ ls, t.size ≤ 1000000) := Lib.hid (fun t ht => Nat.le_trans (lines_small s t (by rw [hLV]; exact ht)) hm)
    have hln : ls.length ≤ 1000000 := (Nat.le_trans (by have := lines_few s; rw [hLV] at this; exact this) hm)
    clear hR hLV
    go_enter Tryd.func16, Tryd.ntmps16
    go_wp2_with (first | (refine wlAlloc (by rfl) 25 rfl (imA 0 none 0 0) zeroIm ?_; intro gT w1 hg hl ha hb; have HGT : Hid (w.heap.size ≤ gT) := Lib.hid hg; have HT := Lib.hid ha; replace HB := keepB HB hb; clear ha hb hg hl) | (go_at_call 34; refine (rlines_any s _ hm).mono ?_; rw [HLV.out]; rintro e w2 ⟨⟨v, rfl, ho⟩, hb⟩; obtain ⟨W0, cW, rfl⟩ := own_val ho; have HW := Lib.hid (own_weak ho HB.out.2); replace HT := keepA HT hb; replace HB := keepB HB hb; clear ho hb) | (refine wlAlloc (by rfl) 25 rfl (imA 0 none 0 0) zeroIm ?_; intro gI w3 hg hl ha hb; have HGI : Hid (w.heap.size ≤ gI) := Lib.hid (Nat.le_trans HB.out.2 hg); have HTI : Hid (gT ≠ gI) := Lib.hid (Nat.ne_of_lt (Nat.lt_of_lt_of_le (Array.getElem?_eq_some_iff.1 HT.out).1 hg)); replace HT := keepA HT hb; replace HW := Lib.hid (ownk_below HW.out hb); have HI := Lib.hid ha; replace HB := keepB HB hb; clear ha hb hg hl) | (refine rowStore (by rfl) 25 _ _ rfl gI rfl (imA 0 none 0 0) rfl HI.out infoIm rfl (imA_one _ _ _ _) ?_; intro w9 ha ho; replace HT := keepAo HT HTI.out ho; replace HW := Lib.hid (ownT HW.out HI.out (by decide) ho); replace HI := Lib.hid ha; replace HB := keepBo HB HGI.out ho; clear ha ho) | (refine wlAlloc (by rfl) 76 rfl (rowA 0 0 (.slice none 0 0) 0) zeroRw ?_; intro gL w4 hg hl ha hb; have HGL : Hid (w.heap.size ≤ gL) := Lib.hid (Nat.le_trans HB.out.2 hg); replace HT := keepA HT hb; replace HI := keepA HI hb; replace HW := Lib.hid (ownk_below HW.out hb); have HL := Lib.hid ha; replace HB := keepB HB hb; clear ha hb hg hl) | (refine rowStore (by rfl) 76 _ _ rfl gL rfl (rowA 0 0 (.slice none 0 0) 0) rfl HL.out infoRw rfl (rowA_one _ _ _ _ _ _) ?_; intro w10 ha ho; replace HW := Lib.hid (ownT HW.out HL.out (by decide) ho); replace HT := keepNe HT HL (by decide) ho; replace HI := keepNe HI HL (by decide) ho; replace HL := Lib.hid ha; replace HB := keepBo HB HGL.out ho; clear ha ho))
    have HSG := Lib.hid (SegsAt.nil w10 w.heap.size)
    go_loopw [9] (fun i wr => ∃ (k st sc : Nat) (S : Option Addr) (ms : List SegM) (last : RowV) (Al : Option Addr) (cl : Nat), k ≤ ls.length ∧ i = .int .i64 k ∧ ms.length ≤ 64 ∧ last.kind ≤ 3 ∧ last.at_ < 4294967296 ∧ last.b.length ≤ 16 ∧ Hid (last.kind = 1 ∨ last.kind = 2 → last.at_ ≤ 16384) ∧ Hid (last.kind = 1 ∨ last.kind = 2 → endV (ms.map SegM.v) = last.at_ + last.b.length ∧ ms ≠ []) ∧ Hid (goV ((ls.drop k).map fun t => rowV t.data.toList) st (ms.map SegM.v) last k = R) ∧ Hid (wr.heap[gI]? = some (.cells (imA st S ms.length sc) 25 (0, 0))) ∧ Hid (wr.heap[gL]? = some (.cells (rowA last.kind last.at_ (.slice Al last.b.length cl) last.sum) 76 (0, 0))) ∧ Hid (wr.heap[gT]? = some (.cells (imA 0 none 0 0) 25 (0, 0))) ∧ Hid (SegsAt wr w.heap.size (.slice S ms.length sc) ms) ∧ Hid (Own wr w.heap.size (.slice W0 ls.length cW) ls) ∧ Hid (Below w.heap.size w wr ∧ w.heap.size ≤ wr.heap.size)) (fun i _ => ls.length - (intOf i).toNat)
    case atStart => exact ⟨0, 0, 0, none, [], rowZ, none, 0, Nat.zero_le _, by first | trivial | rfl, by decide, by decide, by decide, by decide, Lib.hid (fun h => by rcases h with h | h <;> cases h), Lib.hid (fun h => by rcases h with h | h <;> cases h), HGO, HI, HL, HT, HSG, HW, HB⟩
    case round =>
      clear HI HL HT HSG HW HB HGO
      obtain ⟨k, st, sc, S, ms, last, Al, cl, hk, rfl, hms, hl3, hla, hlb, HLL, HEN, HGO, HI, HL, HT, HSG, HW, HB⟩ := hrel
      by_cases hlt : k < ls.length
      · obtain ⟨t, ht⟩ : ∃ t, ls[k]? = some t := ⟨_, List.getElem?_eq_getElem hlt⟩
        have hts := HLS.out t (List.mem_of_getElem? ht)
        obtain ⟨W1, cW1, hW1, hrs⟩ := RdS.of_own HW.out
        obtain ⟨b, off, hb0, hcell⟩ := hrs (by omega)
        injection hW1 with hW2 hW3 hW4
        subst hW2 hb0
        clear hW3
        subst hW4
        have f0 := hcell k t ht
        obtain ⟨xl, hxl⟩ : ∃ xl, t.data.toList = xl := ⟨_, rfl⟩
        have htb : t = bs xl := by rw [← hxl]; rfl
        have hxs : xl.length ≤ 1000000 := by rw [htb, bs_size] at hts; exact hts
        rw [htb] at f0
        have hgo := HGO.out
        rw [drop_cons ht, List.map_cons, hxl, goV] at hgo
        clear hcell hrs hxl htb hts ht HGO
        obtain ⟨x, hx⟩ : ∃ x, rowV xl = x := ⟨_, rfl⟩
        rw [hx] at hgo
        have HRD : Hid (∀ wz, Calls Tryd.prog 35 #[.string (bs xl)] wz (ReadIs x wz)) := Lib.hid (fun wz => read_any xl wz hxs x ((read_row xl).trans hx))
        have HX := Lib.hid hx
        obtain ⟨M, hM⟩ : ∃ M, moreV (ms.map SegM.v) last x = M := ⟨_, rfl⟩
        have HMR : Hid (∀ (wz : World) (Bx : Nat) (A : Option Addr) (c : Nat), SegsAt wz w.heap.size (.slice S ms.length sc) ms → OwnB wz Bx (.slice A x.b.length c) x.b → (x.kind = 3 → A = none ∧ c = 0) → Calls Tryd.prog 36 #[.agg (imA st S ms.length sc), .agg (rowA last.kind last.at_ (.slice Al last.b.length cl) last.sum), .agg (rowA x.kind x.at_ (.slice A x.b.length c) x.sum)] wz fun e w' => e = .returned (.int .i64 (M : Nat)) ∧ Below wz.heap.size wz w') := Lib.hid (fun wz Bx A c h1 h2 h3 => by
          by_cases k0 : x.kind = 0
          · have hz : x = rowZ := by rw [← hx]; exact rowZ_of (by rw [hx]; exact k0)
            have h2M : M = 2 := by rw [← hM]; unfold moreV; exact if_pos (.inl k0)
            subst hz
            rw [h2M]
            exact more_zero st ms.length sc S last.kind last.at_ last.b.length cl last.sum Al A c wz
          · have hok := (fmt_row (l := xl) (by rw [hx]; exact k0)).1
            rw [hx] at hok
            obtain ⟨A1, c1, e1, hrd⟩ := h1.rd
            injection e1 with e1 _ e3
            subst e1; subst e3
            obtain ⟨A2, c2, e1, hrb, _⟩ := h2.rd
            injection e1 with e1 _ e3
            subst e1; subst e3
            exact more_any st sc S ms last x Al A cl c wz hrd hms hrb (fun q => h3 (by rcases hok.1 with ⟨_, g, _⟩ | ⟨g, _⟩; omega; exact g)) hok hl3 hla hlb HLL.out M hM)
        have HOK : Hid (x.kind ≠ 0 → RowOk x) := Lib.hid (fun k0 => by have hok := (fmt_row (l := xl) (by rw [hx]; exact k0)).1; rwa [hx] at hok)
        rw [hM] at hgo
        have HMO := Lib.hid hM
        have HRX := Lib.hid hx
        obtain ⟨n, hn⟩ : ∃ n, ms.length = n := ⟨_, rfl⟩
        have HN := Lib.hid hn
        rw [hn] at HI HSG HMR hms
        obtain ⟨xk, u, d, s⟩ := x
        clear hM hx hn HX
        by_cases k1 : M = 0
        rotate_left
        · rw [if_neg k1] at hgo
          subst hgo
          have q9 : ((M : Int) != 0) = true := bne_iff_ne.2 (by omega)
          clear k1
          go_upto_if 39 with (first | (go_at_call 35; refine (HRD.out _).mono ?_; clear HRD; rintro e w5 ⟨⟨A, c, rfl, ho, h3⟩, hb⟩; have HFR := Lib.hid (fun (a : SegM) (ha : a ∈ ms) (j : Nat) (hj : (dV a).ownBlock = some j) => own_lt (HSG.out.inn a ha) hj); have HBX := Lib.hid HB.out.2; replace HI := keepA HI hb; replace HL := keepA HL hb; replace HT := keepA HT hb; replace HSG := Lib.hid (HSG.out.below hb); replace HW := Lib.hid (ownk_below HW.out hb); replace HB := keepB HB hb; have HO := Lib.hid ho; have HZ3 := Lib.hid h3; clear hb ho h3) | (refine wlAlloc (by rfl) 76 rfl (rowA 0 0 (.slice none 0 0) 0) zeroRw ?_; intro gX w6 hg hl ha hb; have HGX : Hid (w.heap.size ≤ gX) := Lib.hid (Nat.le_trans HB.out.2 hg); have HLX : Hid (gL ≠ gX) := Lib.hid (Nat.ne_of_lt (Nat.lt_of_lt_of_le (Array.getElem?_eq_some_iff.1 HL.out).1 hg)); replace HI := keepA HI hb; replace HL := keepA HL hb; replace HT := keepA HT hb; replace HSG := Lib.hid (HSG.out.below hb); replace HW := Lib.hid (ownk_below HW.out hb); replace HB := keepB HB hb; replace HO := Lib.hid (ownk_below HO.out hb); have HX := Lib.hid ha; clear ha hb hg hl) | (refine rowStore (by rfl) 76 _ _ rfl gX rfl (rowA xk u (.slice A d.length c) s) rfl HX.out infoRw rfl (rowA_one _ _ _ _ _ _) ?_; intro w7 ha ho; replace HSG := Lib.hid (HSG.out.only ho HX.out (by decide) (by decide)); replace HW := Lib.hid (ownT HW.out HX.out (by decide) ho); replace HO := Lib.hid (ownT HO.out HX.out (by decide) ho); replace HT := keepNe HT HX (by decide) ho; replace HI := keepNe HI HX (by decide) ho; replace HL := keepAo HL HLX.out ho; replace HX := Lib.hid ha; replace HB := keepBo HB HGX.out ho; clear ha ho) | (refine rowLoad (by rfl) 25 _ rfl gI rfl (cs := imA st S n sc) HI.out Tryd.underlying25 rfl infoIm ?_) | (refine rowLoad (by rfl) 76 _ rfl gL rfl (cs := rowA last.kind last.at_ (.slice Al last.b.length cl) last.sum) HL.out Tryd.underlying76 rfl infoRw ?_) | (refine rowLoad (by rfl) 76 _ rfl gX rfl (cs := rowA xk u (.slice A d.length c) s) HX.out Tryd.underlying76 rfl infoRw ?_) | (go_at_call 36; refine (HMR.out _ _ A c HSG.out HO.out HZ3.out).mono ?_; clear HMR; rintro e w8 ⟨rfl, hb⟩; replace HI := keepA HI hb; replace HL := keepA HL hb; replace HT := keepA HT hb; replace HSG := Lib.hid (HSG.out.below hb); replace HW := Lib.hid (ownk_below HW.out hb); replace HB := keepB HB hb; replace HO := Lib.hid (ownk_below HO.out hb); replace HX := keepA HX hb; clear hb))
          go_wp2_with (refine rowStore (by rfl) 25 _ _ rfl gT rfl (imA 0 none 0 0) rfl HT.out infoIm rfl (imA_one _ _ _ _) ?_; intro w9 ha ho; replace HT := Lib.hid ha; replace HB := keepBo HB HGT.out ho; clear ha ho)
          exact bodyPost_ret (res3 rfl _ _ gT 25 (imA 0 none 0 0) (0, 0) _ rfl HT.out Tryd.underlying25 rfl infoIm) rfl (img_none (B := 0) HB.out.1)
        subst k1
        rw [if_pos rfl] at hgo
        obtain ⟨p0, p1, p2, p3⟩ := more_put HMO.out
        have hok := HOK.out p0
        have HPE := Lib.hid (put_end HMO.out hl3 (fun h => ⟨(HEN.out h).1, fun q => (HEN.out h).2 (List.map_eq_nil_iff.1 q)⟩))
        have HPL : Hid ((putV (ms.map SegM.v) ⟨xk, u, d, s⟩).length ≤ 64) := Lib.hid (put_len HMO.out (by rw [List.length_map, HN.out]; exact hms))
        have hu : u < 4294967296 := hok.2.1
        have hd16 : d.length ≤ 16 := by rcases hok.1 with ⟨_, _, h⟩ | ⟨_, h⟩; exact h; rw [show d = [] from h]; decide
        have HU : Hid (u < 4294967296 ∧ d.length ≤ 16) := Lib.hid ⟨hu, hd16⟩
        have HGO := Lib.hid hgo
        have hk3 : xk = 1 ∨ xk = 2 ∨ xk = 3 := by have := hok.1; simp only at this; omega
        clear hgo
        simp only at p0 p1 p2 p3
        rcases hk3 with hk1 | hk1 | hk1
        · have hrg : u + d.length ≤ 16384 := p3 (by omega)
          have a1 : ((xk : Int) == 1) = true := beq_iff_eq.2 (by omega)
          have a2 : ((xk : Int) == 2) = false := beq_eq_false_iff_ne.2 (by omega)
          have a3 : ((xk : Int) == 3) = false := beq_eq_false_iff_ne.2 (by omega)
          have HK1 := Lib.hid hk1
          clear p0 p1 p2 p3 hok hk1
          go_upto_if 39 with (first | (go_at_call 35; refine (HRD.out _).mono ?_; clear HRD; rintro e w5 ⟨⟨A, c, rfl, ho, h3⟩, hb⟩; have HFR := Lib.hid (fun (a : SegM) (ha : a ∈ ms) (j : Nat) (hj : (dV a).ownBlock = some j) => own_lt (HSG.out.inn a ha) hj); have HBX := Lib.hid HB.out.2; replace HI := keepA HI hb; replace HL := keepA HL hb; replace HT := keepA HT hb; replace HSG := Lib.hid (HSG.out.below hb); replace HW := Lib.hid (ownk_below HW.out hb); replace HB := keepB HB hb; have HO := Lib.hid ho; have HZ3 := Lib.hid h3; clear hb ho h3) | (refine wlAlloc (by rfl) 76 rfl (rowA 0 0 (.slice none 0 0) 0) zeroRw ?_; intro gX w6 hg hl ha hb; have HGX : Hid (w.heap.size ≤ gX) := Lib.hid (Nat.le_trans HB.out.2 hg); have HLX : Hid (gL ≠ gX) := Lib.hid (Nat.ne_of_lt (Nat.lt_of_lt_of_le (Array.getElem?_eq_some_iff.1 HL.out).1 hg)); replace HI := keepA HI hb; replace HL := keepA HL hb; replace HT := keepA HT hb; replace HSG := Lib.hid (HSG.out.below hb); replace HW := Lib.hid (ownk_below HW.out hb); replace HB := keepB HB hb; replace HO := Lib.hid (ownk_below HO.out hb); have HX := Lib.hid ha; clear ha hb hg hl) | (refine rowStore (by rfl) 76 _ _ rfl gX rfl (rowA xk u (.slice A d.length c) s) rfl HX.out infoRw rfl (rowA_one _ _ _ _ _ _) ?_; intro w7 ha ho; replace HSG := Lib.hid (HSG.out.only ho HX.out (by decide) (by decide)); replace HW := Lib.hid (ownT HW.out HX.out (by decide) ho); replace HO := Lib.hid (ownT HO.out HX.out (by decide) ho); replace HT := keepNe HT HX (by decide) ho; replace HI := keepNe HI HX (by decide) ho; replace HL := keepAo HL HLX.out ho; replace HX := Lib.hid ha; replace HB := keepBo HB HGX.out ho; clear ha ho) | (refine rowLoad (by rfl) 25 _ rfl gI rfl (cs := imA st S n sc) HI.out Tryd.underlying25 rfl infoIm ?_) | (refine rowLoad (by rfl) 76 _ rfl gL rfl (cs := rowA last.kind last.at_ (.slice Al last.b.length cl) last.sum) HL.out Tryd.underlying76 rfl infoRw ?_) | (refine rowLoad (by rfl) 76 _ rfl gX rfl (cs := rowA xk u (.slice A d.length c) s) HX.out Tryd.underlying76 rfl infoRw ?_) | (go_at_call 36; refine (HMR.out _ _ A c HSG.out HO.out HZ3.out).mono ?_; clear HMR; rintro e w8 ⟨rfl, hb⟩; replace HI := keepA HI hb; replace HL := keepA HL hb; replace HT := keepA HT hb; replace HSG := Lib.hid (HSG.out.below hb); replace HW := Lib.hid (ownk_below HW.out hb); replace HB := keepB HB hb; replace HO := Lib.hid (ownk_below HO.out hb); replace HX := keepA HX hb; clear hb))
          have HAP : Hid (∀ a ∈ ms, ∀ j, (dV a).ownBlock = some j → (dV ⟨u, A, c, d⟩).ownBlock ≠ some j) := Lib.hid (fun a ha j hj hj2 => absurd (own_type HO.out hj2).1 (Nat.not_le.2 (HFR.out a ha j hj)))
          have x0 : w8.cell? ⟨gX, 0, none⟩ = some (.int .i64 xk) := cellA HX 0; have x1 : w8.cell? ⟨gX, 1, none⟩ = some (.int .u32 u) := cellA HX 1; have x2 : w8.cell? ⟨gX, 2, none⟩ = some (.slice A d.length c) := cellA HX 2; have i1 : w8.cell? ⟨gI, 1, none⟩ = some (.slice S n sc) := cellA HI 1
          go_wp2_with (first | (refine wlLit (by rfl) 23 1 _ rfl #[.int .u32 u, .slice A d.length c] 51 (fun _ => by kernel_rfl) ?_; intro gS w9 hg1 hg2 ha hb; replace HI := keepA HI hb; replace HL := keepA HL hb; replace HT := keepA HT hb; replace HSG := Lib.hid (HSG.out.below hb); replace HW := Lib.hid (ownk_below HW.out hb); replace HB := keepB HB hb; replace HO := Lib.hid (ownk_below HO.out hb); replace HX := keepA HX hb; have HLT := Lib.hid ha; have HO2 : Hid (OwnB w9 w.heap.size (dV ⟨u, A, c, d⟩) d) := Lib.hid (own_weak HO.out HBX.out); clear ha hb hg1 hg2) | (refine appRow rfl _ _ 23 51 _ 2 32 rfl Tryd.underlying23 infoSeg3 rfl (by decide) w.heap.size _ n _ rfl (by have := HSG.out.row; rw [HN.out] at this; exact this) #[.int .u32 u, .slice A d.length c] rfl (sA_one ⟨u, A, c, d⟩) gS 1 rfl HLT.out (by unfold maxLen; omega) (by omega) HB.out.2 ?_; intro v2 w10 ho2 hg2 _; rw [← HN.out] at ho2; have HS2 := Lib.hid (HSG.out.push (m := ⟨u, A, c, d⟩) HO2.out hrg HAP.out ho2 hg2); have hk := (Kp.of (Below.refl _ _) HB.out.2).grown HSG.out.row (.inr rfl) hg2; replace HI := Lib.hid (hk.kept _ _ _ _ HI.out (by decide) (by decide)); replace HL := Lib.hid (hk.kept _ _ _ _ HL.out (by decide) (by decide)); replace HX := Lib.hid (hk.kept _ _ _ _ HX.out (by decide) (by decide)); replace HT := Lib.hid (hk.kept _ _ _ _ HT.out (by decide) (by decide)); replace HW := Lib.hid (own_kept HW.out hk (by decide) (by decide)); replace HB := Lib.hid (And.intro (HB.out.1.trans hk.below) hk.size); obtain ⟨S2, c2, hv2, _⟩ := HS2.out.rd; have hn2 : (ms ++ [(⟨u, A, c, d⟩ : SegM)]).length = n + 1 := (by rw [List.length_append, HN.out]; try rfl); rw [hn2] at hv2; subst hv2; clear ho2 hg2 hn2 hk) | (refine cellStore (by rfl) 23 _ _ rfl gI 1 ?_ (.slice S2 (n + 1) c2) rfl rfl rfl HI.out (by show 1 < 2; decide) infoSS ?_; exact rfl; intro w12 ha ho; replace HSG := Lib.hid (HS2.out.only ho HI.out (by decide) (by decide)); replace HW := Lib.hid (ownT HW.out HI.out (by decide) ho); replace HL := keepNe HL HI (by decide) ho; replace HX := keepNe HX HI (by decide) ho; replace HT := keepAo HT HTI.out ho; replace HI : Hid (w12.heap[gI]? = some (.cells (imA st S2 (n + 1) c2) 25 (0, 0))) := Lib.hid ha; replace HB := keepBo HB HGI.out ho; have x0 : w12.cell? ⟨gX, 0, none⟩ = some (.int .i64 xk) := cellA HX 0; clear ha ho) | (refine rowLoad (by rfl) 76 _ rfl gX rfl (cs := rowA xk u (.slice A d.length c) s) HX.out Tryd.underlying76 rfl infoRw ?_) | (refine rowStore (by rfl) 76 _ _ rfl gL rfl (rowA xk u (.slice A d.length c) s) rfl HL.out infoRw rfl (rowA_one _ _ _ _ _ _) ?_; intro w11 ha ho; replace HSG := Lib.hid (HSG.out.only ho HL.out (by decide) (by decide)); replace HW := Lib.hid (ownT HW.out HL.out (by decide) ho); replace HT := keepNe HT HL (by decide) ho; replace HI := keepNe HI HL (by decide) ho; replace HL := Lib.hid ha; replace HB := keepBo HB HGL.out ho; clear ha ho))
          go_roundw
          case rel =>
            have e : (ms ++ [(⟨u, A, c, d⟩ : SegM)]).length = n + 1 := by rw [List.length_append, HN.out]; rfl
            have hp : putV (ms.map SegM.v) ⟨xk, u, d, s⟩ = (ms ++ [(⟨u, A, c, d⟩ : SegM)]).map SegM.v := by
              unfold putV; rw [if_pos HK1.out, List.map_append]; rfl
            have hk1 := HK1.out
            refine ⟨k + 1, st, c2, S2, ms ++ [⟨u, A, c, d⟩], ⟨xk, u, d, s⟩, A, c, by omega, by first | trivial | go_num, ?_, by show xk ≤ 3; omega, HU.out.1, HU.out.2, Lib.hid (fun _ => by show u ≤ 16384; omega), ?_, ?_, by rw [e]; exact HI, HL, HT, by rw [e]; exact HSG, HW, HB⟩
            · have := HPL.out; rw [hp, List.length_map] at this; exact this
            · refine Lib.hid fun h => ?_
              obtain ⟨e1, e2⟩ := HPE.out h
              rw [hp] at e1 e2
              exact ⟨e1, fun q => e2 (by rw [q]; rfl)⟩
            · have := HGO.out
              rw [hp, if_neg (show ¬ xk = 3 by omega)] at this
              exact Lib.hid this
          case measure => simp [intOf]; omega
        · have hrg : u + d.length ≤ 16384 := p3 (by omega)
          have a1 : ((xk : Int) == 1) = false := beq_eq_false_iff_ne.2 (by omega)
          have a2 : ((xk : Int) == 2) = true := beq_iff_eq.2 (by omega)
          have a3 : ((xk : Int) == 3) = false := beq_eq_false_iff_ne.2 (by omega)
          obtain ⟨g1, g2, g3⟩ := p2 hk1
          obtain ⟨he, hne⟩ := HEN.out (by omega)
          obtain ⟨ms0, m0, hmm⟩ : ∃ a b, ms = a ++ [b] := ⟨ms.dropLast, ms.getLast hne, (List.dropLast_concat_getLast hne).symm⟩
          obtain ⟨u0, D0, c0, d0⟩ := m0
          have hd1 : 1 ≤ d.length := by rcases hok.1 with ⟨_, h, _⟩ | ⟨h, _⟩; exact h; exact absurd (hk1.symm.trans h) (by decide)
          have hen : endV ((ms0 ++ [(⟨u0, D0, c0, d0⟩ : SegM)]).map SegM.v) = u0 + d0.length := by rw [List.map_append]; exact end_app _ _
          have hrg3 : u0 + (d0.length + d.length) ≤ 16384 := by rw [hmm, hen] at he; omega
          have HRG : Hid (u0 + (d0 ++ d).length ≤ 16384) := Lib.hid (by rw [List.length_append]; exact hrg3)
          obtain ⟨kk, hkk⟩ : ∃ kk, ms0.length = kk := ⟨_, rfl⟩
          have hn1 : n = kk + 1 := by rw [← HN.out, hmm, List.length_append, hkk]; rfl
          have HMS := Lib.hid hmm
          have HML := Lib.hid hkk
          have HN1 := Lib.hid hn1
          have hkn : kk < n := by omega
          have e8 : (n : Int) - 1 = (kk : Int) := by omega
          have HK1 := Lib.hid hk1
          have HD1 := Lib.hid hd1
          clear p0 p1 p2 p3 hok hk1 hd1 hen hkk hn1 he hne g1 g2 g3 hmm
          go_upto_if 39 with (first | (go_at_call 35; refine (HRD.out _).mono ?_; clear HRD; rintro e w5 ⟨⟨A, c, rfl, ho, h3⟩, hb⟩; have HFR := Lib.hid (fun (a : SegM) (ha : a ∈ ms) (j : Nat) (hj : (dV a).ownBlock = some j) => own_lt (HSG.out.inn a ha) hj); have HBX := Lib.hid HB.out.2; replace HI := keepA HI hb; replace HL := keepA HL hb; replace HT := keepA HT hb; replace HSG := Lib.hid (HSG.out.below hb); replace HW := Lib.hid (ownk_below HW.out hb); replace HB := keepB HB hb; have HO := Lib.hid ho; have HZ3 := Lib.hid h3; clear hb ho h3) | (refine wlAlloc (by rfl) 76 rfl (rowA 0 0 (.slice none 0 0) 0) zeroRw ?_; intro gX w6 hg hl ha hb; have HGX : Hid (w.heap.size ≤ gX) := Lib.hid (Nat.le_trans HB.out.2 hg); have HLX : Hid (gL ≠ gX) := Lib.hid (Nat.ne_of_lt (Nat.lt_of_lt_of_le (Array.getElem?_eq_some_iff.1 HL.out).1 hg)); replace HI := keepA HI hb; replace HL := keepA HL hb; replace HT := keepA HT hb; replace HSG := Lib.hid (HSG.out.below hb); replace HW := Lib.hid (ownk_below HW.out hb); replace HB := keepB HB hb; replace HO := Lib.hid (ownk_below HO.out hb); have HX := Lib.hid ha; clear ha hb hg hl) | (refine rowStore (by rfl) 76 _ _ rfl gX rfl (rowA xk u (.slice A d.length c) s) rfl HX.out infoRw rfl (rowA_one _ _ _ _ _ _) ?_; intro w7 ha ho; replace HSG := Lib.hid (HSG.out.only ho HX.out (by decide) (by decide)); replace HW := Lib.hid (ownT HW.out HX.out (by decide) ho); replace HO := Lib.hid (ownT HO.out HX.out (by decide) ho); replace HT := keepNe HT HX (by decide) ho; replace HI := keepNe HI HX (by decide) ho; replace HL := keepAo HL HLX.out ho; replace HX := Lib.hid ha; replace HB := keepBo HB HGX.out ho; clear ha ho) | (refine rowLoad (by rfl) 25 _ rfl gI rfl (cs := imA st S n sc) HI.out Tryd.underlying25 rfl infoIm ?_) | (refine rowLoad (by rfl) 76 _ rfl gL rfl (cs := rowA last.kind last.at_ (.slice Al last.b.length cl) last.sum) HL.out Tryd.underlying76 rfl infoRw ?_) | (refine rowLoad (by rfl) 76 _ rfl gX rfl (cs := rowA xk u (.slice A d.length c) s) HX.out Tryd.underlying76 rfl infoRw ?_) | (go_at_call 36; refine (HMR.out _ _ A c HSG.out HO.out HZ3.out).mono ?_; clear HMR; rintro e w8 ⟨rfl, hb⟩; replace HI := keepA HI hb; replace HL := keepA HL hb; replace HT := keepA HT hb; replace HSG := Lib.hid (HSG.out.below hb); replace HW := Lib.hid (ownk_below HW.out hb); replace HB := keepB HB hb; replace HO := Lib.hid (ownk_below HO.out hb); replace HX := keepA HX hb; clear hb))
          have hmm := HMS.out
          subst hmm
          have HNA : Hid (A ≠ none) := Lib.hid (fun q => by have h9 := (own_cap HO.out).2.2 q; have h8 := HD1.out; omega)
          obtain ⟨g, cap, cur, hv, hbg, hcur, _, hc1⟩ := HSG.out.last
          injection hv with hv1 hv2 hv3
          subst hv1
          have HBG := Lib.hid hbg
          have HC := Lib.hid hcur
          have HC1 : Hid (cur[kk * 2 + 1]? = some (.slice D0 d0.length c0)) := Lib.hid (by rw [← HML.out, Nat.mul_comm]; exact hc1)
          have HCZ : Hid (kk * 2 + 1 < cur.size) := Lib.hid (Array.getElem?_eq_some_iff.1 HC1.out).1
          clear hv2 hv3 hbg hcur hc1
          have x0 : w8.cell? ⟨gX, 0, none⟩ = some (.int .i64 xk) := cellA HX 0
          have i1 : w8.cell? ⟨gI, 1, none⟩ = some (.slice (some ⟨g, 0, none⟩) n sc) := cellA HI 1
          go_upto_region 17 with fail
          clear x0 i1
          replace HB := keepB1 HB
          replace HI := keepA1 HI
          replace HL := keepA1 HL
          replace HX := keepA1 HX
          replace HT := keepA1 HT
          replace HC := keepA1 HC
          replace HSG := Lib.hid (HSG.out.drew 1)
          replace HO := Lib.hid (ownk_drew HO.out 1)
          replace HW := Lib.hid (ownk_drew HW.out 1)
          refine rgStartC (S := (fun w' => w'.heap[gX]? = some (.cells (rowA xk u (.slice A d.length c) s) 76 (0, 0)) ∧ w'.heap[gI]? = some (.cells (imA st (some ⟨g, 0, none⟩) n sc) 25 (0, 0)) ∧ w'.heap[g]? = some (.cells cur 51 (0, 0)))) (n := 15) 14 #[false, false, false, false, false, false, false, false, false, false, false, false, false, false, false] (by kernel_rfl) rfl rfl ⟨HX.out, HI.out, HC.out⟩ (fun hHeld => ?_)
          refine rgTakeA (i := 0) (N := some 64) (oi := { dst := some 64, op := Op.fieldAddr 25 (Operand.tmp 7) 1, type := 0, pos := "ref.go:214", after := #[], guard := none }) (v := ?_) #[true, false, false, false, false, false, false, false, false, false, false, false, false, false, false] rfl rfl (by kernel_rfl) (by kernel_rfl) (fun _ _ _ h => h) (Or.inl ⟨by rfl, ?_⟩) (.inr hHeld.out) ?_
          rotate_left
          · intro w' hSw; clear hSw; go_simp; try with_reducible rfl
          simp only [Act.put, List.setIfInBounds_toArray, List.set_cons_zero, List.set_cons_succ]
          refine rgTakeS (i := 1) (N := some 65) (oi := { dst := some 65, op := Op.load 23 (Operand.tmp 64), type := 23, pos := "ref.go:214", after := #[{ on := 0, ground := Ground.data }], guard := none }) (v := ?_) #[true, true, false, false, false, false, false, false, false, false, false, false, false, false, false] rfl rfl (by kernel_rfl) (by kernel_rfl) (fun _ _ _ h => h) (Or.inl ⟨by rfl, ?_⟩) hHeld ?_
          rotate_left
          · intro w' hSw; (try dsimp only at hSw); (have x2 : w'.cell? ⟨gX, 2, none⟩ = some (.slice A d.length c) := cellA (Lib.hid hSw.1) 2; have i1 : w'.cell? ⟨gI, 1, none⟩ = some (.slice (some ⟨g, 0, none⟩) n sc) := cellA (Lib.hid hSw.2.1) 1; have d1 : w'.cell? ⟨g, kk * 2 + 1, none⟩ = some (.slice D0 d0.length c0) := (cellA (Lib.hid hSw.2.2) (kk * 2 + 1)).trans HC1.out; clear hSw); go_simp; try with_reducible rfl
          simp only [Act.put, List.setIfInBounds_toArray, List.set_cons_zero, List.set_cons_succ]
          refine rgTakeA (i := 2) (N := some 66) (oi := { dst := some 66, op := Op.move (Operand.tmp 11), type := 3, pos := "ref.go:214", after := #[], guard := none }) (v := ?_) #[true, true, true, false, false, false, false, false, false, false, false, false, false, false, false] rfl rfl (by kernel_rfl) (by kernel_rfl) (fun _ _ _ h => h) (Or.inl ⟨by rfl, ?_⟩) (.inr hHeld.out) ?_
          rotate_left
          · intro w' hSw; clear hSw; go_simp; try with_reducible rfl
          simp only [Act.put, List.setIfInBounds_toArray, List.set_cons_zero, List.set_cons_succ]
          refine rgTakeA (i := 3) (N := some 67) (oi := { dst := some 67, op := Op.fieldAddr 25 (Operand.tmp 7) 1, type := 0, pos := "ref.go:214", after := #[], guard := none }) (v := ?_) #[true, true, true, true, false, false, false, false, false, false, false, false, false, false, false] rfl rfl (by kernel_rfl) (by kernel_rfl) (fun _ _ _ h => h) (Or.inl ⟨by rfl, ?_⟩) (.inr hHeld.out) ?_
          rotate_left
          · intro w' hSw; clear hSw; go_simp; try with_reducible rfl
          simp only [Act.put, List.setIfInBounds_toArray, List.set_cons_zero, List.set_cons_succ]
          refine rgTakeS (i := 4) (N := some 68) (oi := { dst := some 68, op := Op.load 23 (Operand.tmp 67), type := 23, pos := "ref.go:214", after := #[{ on := 3, ground := Ground.data }], guard := none }) (v := ?_) #[true, true, true, true, true, false, false, false, false, false, false, false, false, false, false] rfl rfl (by kernel_rfl) (by kernel_rfl) (fun _ _ _ h => h) (Or.inl ⟨by rfl, ?_⟩) hHeld ?_
          rotate_left
          · intro w' hSw; (try dsimp only at hSw); (have x2 : w'.cell? ⟨gX, 2, none⟩ = some (.slice A d.length c) := cellA (Lib.hid hSw.1) 2; have i1 : w'.cell? ⟨gI, 1, none⟩ = some (.slice (some ⟨g, 0, none⟩) n sc) := cellA (Lib.hid hSw.2.1) 1; have d1 : w'.cell? ⟨g, kk * 2 + 1, none⟩ = some (.slice D0 d0.length c0) := (cellA (Lib.hid hSw.2.2) (kk * 2 + 1)).trans HC1.out; clear hSw); go_simp; try with_reducible rfl
          simp only [Act.put, List.setIfInBounds_toArray, List.set_cons_zero, List.set_cons_succ]
          refine rgTakeA (i := 5) (N := some 69) (oi := { dst := some 69, op := Op.move (Operand.tmp 11), type := 3, pos := "ref.go:214", after := #[], guard := none }) (v := ?_) #[true, true, true, true, true, true, false, false, false, false, false, false, false, false, false] rfl rfl (by kernel_rfl) (by kernel_rfl) (fun _ _ _ h => h) (Or.inl ⟨by rfl, ?_⟩) (.inr hHeld.out) ?_
          rotate_left
          · intro w' hSw; clear hSw; go_simp; try with_reducible rfl
          simp only [Act.put, List.setIfInBounds_toArray, List.set_cons_zero, List.set_cons_succ]
          refine rgTakeA (i := 6) (N := some 70) (oi := { dst := some 70, op := Op.indexAddr 23 (Operand.tmp 68) (Operand.tmp 69), type := 0, pos := "ref.go:214", after := #[{ on := 4, ground := Ground.data }, { on := 5, ground := Ground.data }], guard := none }) (v := _) #[true, true, true, true, true, true, true, false, false, false, false, false, false, false, false] rfl rfl (by kernel_rfl) (by kernel_rfl) (fun _ _ _ h => h) (yieldsIdx0 (by rfl) 23 _ _ rfl 51 2 Tryd.underlying23 sizeSeg g n sc kk rfl rfl hkn) (.inr hHeld.out) ?_
          simp only [Act.put, List.setIfInBounds_toArray, List.set_cons_zero, List.set_cons_succ]
          refine rgTakeA (i := 7) (N := some 71) (oi := { dst := some 71, op := Op.fieldAddr 51 (Operand.tmp 70) 1, type := 0, pos := "ref.go:214", after := #[{ on := 6, ground := Ground.data }], guard := none }) (v := ?_) #[true, true, true, true, true, true, true, true, false, false, false, false, false, false, false] rfl rfl (by kernel_rfl) (by kernel_rfl) (fun _ _ _ h => h) (Or.inl ⟨by rfl, ?_⟩) (.inr hHeld.out) ?_
          rotate_left
          · intro w' hSw; clear hSw; go_simp; try with_reducible rfl
          simp only [Act.put, List.setIfInBounds_toArray, List.set_cons_zero, List.set_cons_succ]
          refine rgTakeS (i := 8) (N := some 72) (oi := { dst := some 72, op := Op.load 26 (Operand.tmp 71), type := 26, pos := "ref.go:214", after := #[{ on := 7, ground := Ground.data }], guard := none }) (v := ?_) #[true, true, true, true, true, true, true, true, true, false, false, false, false, false, false] rfl rfl (by kernel_rfl) (by kernel_rfl) (fun _ _ _ h => h) (Or.inl ⟨by rfl, ?_⟩) hHeld ?_
          rotate_left
          · intro w' hSw; (try dsimp only at hSw); (have x2 : w'.cell? ⟨gX, 2, none⟩ = some (.slice A d.length c) := cellA (Lib.hid hSw.1) 2; have i1 : w'.cell? ⟨gI, 1, none⟩ = some (.slice (some ⟨g, 0, none⟩) n sc) := cellA (Lib.hid hSw.2.1) 1; have d1 : w'.cell? ⟨g, kk * 2 + 1, none⟩ = some (.slice D0 d0.length c0) := (cellA (Lib.hid hSw.2.2) (kk * 2 + 1)).trans HC1.out; clear hSw); go_simp; try with_reducible rfl
          simp only [Act.put, List.setIfInBounds_toArray, List.set_cons_zero, List.set_cons_succ]
          refine rgTakeA (i := 9) (N := some 73) (oi := { dst := some 73, op := Op.fieldAddr 76 (Operand.tmp 10) 2, type := 0, pos := "ref.go:214", after := #[], guard := none }) (v := ?_) #[true, true, true, true, true, true, true, true, true, true, false, false, false, false, false] rfl rfl (by kernel_rfl) (by kernel_rfl) (fun _ _ _ h => h) (Or.inl ⟨by rfl, ?_⟩) (.inr hHeld.out) ?_
          rotate_left
          · intro w' hSw; clear hSw; go_simp; try with_reducible rfl
          simp only [Act.put, List.setIfInBounds_toArray, List.set_cons_zero, List.set_cons_succ]
          refine rgTakeS (i := 10) (N := some 74) (oi := { dst := some 74, op := Op.load 26 (Operand.tmp 73), type := 26, pos := "ref.go:214", after := #[{ on := 9, ground := Ground.data }], guard := none }) (v := ?_) #[true, true, true, true, true, true, true, true, true, true, true, false, false, false, false] rfl rfl (by kernel_rfl) (by kernel_rfl) (fun _ _ _ h => h) (Or.inl ⟨by rfl, ?_⟩) hHeld ?_
          rotate_left
          · intro w' hSw; (try dsimp only at hSw); (have x2 : w'.cell? ⟨gX, 2, none⟩ = some (.slice A d.length c) := cellA (Lib.hid hSw.1) 2; have i1 : w'.cell? ⟨gI, 1, none⟩ = some (.slice (some ⟨g, 0, none⟩) n sc) := cellA (Lib.hid hSw.2.1) 1; have d1 : w'.cell? ⟨g, kk * 2 + 1, none⟩ = some (.slice D0 d0.length c0) := (cellA (Lib.hid hSw.2.2) (kk * 2 + 1)).trans HC1.out; clear hSw); go_simp; try with_reducible rfl
          simp only [Act.put, List.setIfInBounds_toArray, List.set_cons_zero, List.set_cons_succ]
          refine rgCallD (i := 11) (N := some 75) (oi := { dst := some 75, op := Op.call { callee := Callee.builtin Builtin.append, args := #[Operand.tmp 72, Operand.tmp 74], argTypes := #[26, 26] }, type := 26, pos := "ref.go:214", after := #[{ on := 8, ground := Ground.data }, { on := 10, ground := Ground.data }], guard := none }) #[true, true, true, true, true, true, true, true, true, true, true, true, false, false, false] rfl rfl (by kernel_rfl) (fun K hK => ?_)
          refine rgAppB (by rfl) _ _ rfl w.heap.size _ d0 rfl (HSG.out.inn ⟨u0, D0, c0, d0⟩ (by simp)) A c d rfl HO.out HNA.out (by omega) HB.out.2 ?_; intro v2 w7 h1 h2 h3; have HINN := Lib.hid (HSG.out.inn ⟨u0, D0, c0, d0⟩ (by simp)); have HC0 := HC; have HGR := Lib.hid h2; have HK := Lib.hid ((Kp.of (Below.refl _ _) HB.out.2).grown HINN.out (.inl rfl) h2); replace HI := keepGrow HI HINN.out h2 (by decide); replace HX := keepGrow HX HINN.out h2 (by decide); replace HC := keepGrow HC HINN.out h2 (by decide); obtain ⟨A2, c2, rfl⟩ := own_val h1; have HOWN : Hid (OwnB w7 w.heap.size (dV ⟨u0, A2, c2, d0 ++ d⟩) (d0 ++ d)) := Lib.hid (by have := own_cap h1; rw [this.1] at h1; have h4 : OwnB w7 w.heap.size (.slice A2 (d0 ++ d).length c2) (d0 ++ d) := h1; exact h4); have HBLK : Hid ((dV ⟨u0, A2, c2, d0 ++ d⟩).ownBlock = (dV ⟨u0, D0, c0, d0⟩).ownBlock ∨ (dV ⟨u0, A2, c2, d0 ++ d⟩).ownBlock = some _) := Lib.hid h3; clear h1 h2 h3
          refine hK.out _ _ ⟨HX.out, HI.out, HC.out⟩ (fun hHeld => ?_)
          (try simp only [Act.put, List.setIfInBounds_toArray, List.set_cons_zero, List.set_cons_succ])
          clear hK K
          refine rgTakeA (i := 12) (N := some 76) (oi := { dst := some 76, op := Op.indexAddr 23 (Operand.tmp 65) (Operand.tmp 66), type := 0, pos := "ref.go:214", after := #[{ on := 1, ground := Ground.data }, { on := 2, ground := Ground.data }, { on := 0, ground := Ground.phase }, { on := 1, ground := Ground.phase }, { on := 2, ground := Ground.phase }, { on := 3, ground := Ground.phase }, { on := 4, ground := Ground.phase }, { on := 5, ground := Ground.phase }, { on := 6, ground := Ground.phase }, { on := 7, ground := Ground.phase }, { on := 8, ground := Ground.phase }, { on := 9, ground := Ground.phase }, { on := 10, ground := Ground.phase }, { on := 11, ground := Ground.phase }], guard := none }) (v := _) #[true, true, true, true, true, true, true, true, true, true, true, true, true, false, false] rfl rfl (by kernel_rfl) (by kernel_rfl) (fun _ _ _ h => h) (yieldsIdx0 (by rfl) 23 _ _ rfl 51 2 Tryd.underlying23 sizeSeg g n sc kk rfl rfl hkn) (.inr hHeld.out) ?_
          simp only [Act.put, List.setIfInBounds_toArray, List.set_cons_zero, List.set_cons_succ]
          refine rgTakeA (i := 13) (N := some 77) (oi := { dst := some 77, op := Op.fieldAddr 51 (Operand.tmp 76) 1, type := 0, pos := "ref.go:214", after := #[{ on := 12, ground := Ground.data }, { on := 0, ground := Ground.phase }, { on := 1, ground := Ground.phase }, { on := 2, ground := Ground.phase }, { on := 3, ground := Ground.phase }, { on := 4, ground := Ground.phase }, { on := 5, ground := Ground.phase }, { on := 6, ground := Ground.phase }, { on := 7, ground := Ground.phase }, { on := 8, ground := Ground.phase }, { on := 9, ground := Ground.phase }, { on := 10, ground := Ground.phase }, { on := 11, ground := Ground.phase }], guard := none }) (v := ?_) #[true, true, true, true, true, true, true, true, true, true, true, true, true, true, false] rfl rfl (by kernel_rfl) (by kernel_rfl) (fun _ _ _ h => h) (Or.inl ⟨by rfl, ?_⟩) (.inr hHeld.out) ?_
          rotate_left
          · intro w' hSw; clear hSw; go_simp; try with_reducible rfl
          simp only [Act.put, List.setIfInBounds_toArray, List.set_cons_zero, List.set_cons_succ]
          refine rgCallC (i := 14) (N := none) (oi := { dst := none, op := Op.store 26 (Operand.tmp 77) (Operand.tmp 75), type := 0, pos := "ref.go:214", after := #[{ on := 13, ground := Ground.data }, { on := 11, ground := Ground.data }, { on := 11, ground := Ground.chain }, { on := 0, ground := Ground.phase }, { on := 1, ground := Ground.phase }, { on := 2, ground := Ground.phase }, { on := 3, ground := Ground.phase }, { on := 4, ground := Ground.phase }, { on := 5, ground := Ground.phase }, { on := 6, ground := Ground.phase }, { on := 7, ground := Ground.phase }, { on := 8, ground := Ground.phase }, { on := 9, ground := Ground.phase }, { on := 10, ground := Ground.phase }, { on := 11, ground := Ground.phase }], guard := none }) #[true, true, true, true, true, true, true, true, true, true, true, true, true, true, true] rfl rfl (by kernel_rfl) (by rfl) (fun K hK => ?_)
          refine rgCell (by rfl) 26 _ _ rfl g (kk * 2 + 1) rfl (.slice A2 (d0 ++ d).length c2) rfl rfl rfl HC.out HCZ.out infoSB ?_; intro w9 ha ho; replace HSG : Hid (SegsAt w9 w.heap.size (.slice (some ⟨g, 0, none⟩) n sc) (ms0 ++ [⟨u0, A2, c2, d0 ++ d⟩])) := Lib.hid (SegsAt.grow2 HML.out HN1.out HSG.out HC0.out HGR.out HOWN.out rfl HRG.out HBLK.out ha ho); have hk := HK.out.typed HBG.out HC.out (.inr rfl) ho; replace HX := keepNe HX HC (by decide) ho; replace HI := keepNe HI HC (by decide) ho; replace HL := Lib.hid (hk.kept _ _ _ _ HL.out (by decide) (by decide)); replace HT := Lib.hid (hk.kept _ _ _ _ HT.out (by decide) (by decide)); replace HW := Lib.hid (own_kept HW.out hk (by decide) (by decide)); replace HB := Lib.hid (And.intro (HB.out.1.trans hk.below) hk.size); clear ha ho hk
          refine hK.out _ _ ?_
          clear hK K
          refine rgDoneC (by kernel_rfl) ?_ _
          have x0 : w9.cell? ⟨gX, 0, none⟩ = some (.int .i64 xk) := cellA HX 0
          go_wp2_with (first | (refine rowLoad (by rfl) 76 _ rfl gX rfl (cs := rowA xk u (.slice A d.length c) s) HX.out Tryd.underlying76 rfl infoRw ?_) | (refine rowStore (by rfl) 76 _ _ rfl gL rfl (rowA xk u (.slice A d.length c) s) rfl HL.out infoRw rfl (rowA_one _ _ _ _ _ _) ?_; intro w11 ha ho; replace HSG := Lib.hid (HSG.out.only ho HL.out (by decide) (by decide)); replace HW := Lib.hid (ownT HW.out HL.out (by decide) ho); replace HT := keepNe HT HL (by decide) ho; replace HI := keepNe HI HL (by decide) ho; replace HL := Lib.hid ha; replace HB := keepBo HB HGL.out ho; clear ha ho))
          go_roundw
          case rel =>
            have e : (ms0 ++ [(⟨u0, A2, c2, d0 ++ d⟩ : SegM)]).length = n := by rw [List.length_append, HML.out, HN1.out]; rfl
            have hp : putV ((ms0 ++ [(⟨u0, D0, c0, d0⟩ : SegM)]).map SegM.v) ⟨xk, u, d, s⟩ = (ms0 ++ [(⟨u0, A2, c2, d0 ++ d⟩ : SegM)]).map SegM.v := by
              have hk1 := HK1.out
              unfold putV
              rw [if_neg (show ¬ xk = 1 by omega), if_pos hk1, List.map_append]
              simp [SegM.v]
            have hk1 := HK1.out
            refine ⟨k + 1, st, sc, some ⟨g, 0, none⟩, ms0 ++ [⟨u0, A2, c2, d0 ++ d⟩], ⟨xk, u, d, s⟩, A, c, by omega, by first | trivial | go_num, ?_, by show xk ≤ 3; omega, HU.out.1, HU.out.2, Lib.hid (fun _ => by show u ≤ 16384; omega), ?_, ?_, by rw [e]; exact HI, HL, HT, by rw [e]; exact HSG, HW, HB⟩
            · have := HPL.out; rw [hp, List.length_map] at this; exact this
            · refine Lib.hid fun h => ?_
              obtain ⟨e1, e2⟩ := HPE.out h
              rw [hp] at e1 e2
              exact ⟨e1, fun q => e2 (by rw [q]; rfl)⟩
            · have := HGO.out
              rw [hp, if_neg (show ¬ xk = 3 by omega)] at this
              exact Lib.hid this
          case measure => simp [intOf]; omega
        · have a1 : ((xk : Int) == 1) = false := beq_eq_false_iff_ne.2 (by omega)
          have a2 : ((xk : Int) == 2) = false := beq_eq_false_iff_ne.2 (by omega)
          have a3 : ((xk : Int) == 3) = true := beq_iff_eq.2 (by omega)
          have HK1 := Lib.hid hk1
          clear p0 p1 p2 p3 hok hk1
          go_upto_if 39 with (first | (go_at_call 35; refine (HRD.out _).mono ?_; clear HRD; rintro e w5 ⟨⟨A, c, rfl, ho, h3⟩, hb⟩; have HFR := Lib.hid (fun (a : SegM) (ha : a ∈ ms) (j : Nat) (hj : (dV a).ownBlock = some j) => own_lt (HSG.out.inn a ha) hj); have HBX := Lib.hid HB.out.2; replace HI := keepA HI hb; replace HL := keepA HL hb; replace HT := keepA HT hb; replace HSG := Lib.hid (HSG.out.below hb); replace HW := Lib.hid (ownk_below HW.out hb); replace HB := keepB HB hb; have HO := Lib.hid ho; have HZ3 := Lib.hid h3; clear hb ho h3) | (refine wlAlloc (by rfl) 76 rfl (rowA 0 0 (.slice none 0 0) 0) zeroRw ?_; intro gX w6 hg hl ha hb; have HGX : Hid (w.heap.size ≤ gX) := Lib.hid (Nat.le_trans HB.out.2 hg); have HLX : Hid (gL ≠ gX) := Lib.hid (Nat.ne_of_lt (Nat.lt_of_lt_of_le (Array.getElem?_eq_some_iff.1 HL.out).1 hg)); replace HI := keepA HI hb; replace HL := keepA HL hb; replace HT := keepA HT hb; replace HSG := Lib.hid (HSG.out.below hb); replace HW := Lib.hid (ownk_below HW.out hb); replace HB := keepB HB hb; replace HO := Lib.hid (ownk_below HO.out hb); have HX := Lib.hid ha; clear ha hb hg hl) | (refine rowStore (by rfl) 76 _ _ rfl gX rfl (rowA xk u (.slice A d.length c) s) rfl HX.out infoRw rfl (rowA_one _ _ _ _ _ _) ?_; intro w7 ha ho; replace HSG := Lib.hid (HSG.out.only ho HX.out (by decide) (by decide)); replace HW := Lib.hid (ownT HW.out HX.out (by decide) ho); replace HO := Lib.hid (ownT HO.out HX.out (by decide) ho); replace HT := keepNe HT HX (by decide) ho; replace HI := keepNe HI HX (by decide) ho; replace HL := keepAo HL HLX.out ho; replace HX := Lib.hid ha; replace HB := keepBo HB HGX.out ho; clear ha ho) | (refine rowLoad (by rfl) 25 _ rfl gI rfl (cs := imA st S n sc) HI.out Tryd.underlying25 rfl infoIm ?_) | (refine rowLoad (by rfl) 76 _ rfl gL rfl (cs := rowA last.kind last.at_ (.slice Al last.b.length cl) last.sum) HL.out Tryd.underlying76 rfl infoRw ?_) | (refine rowLoad (by rfl) 76 _ rfl gX rfl (cs := rowA xk u (.slice A d.length c) s) HX.out Tryd.underlying76 rfl infoRw ?_) | (go_at_call 36; refine (HMR.out _ _ A c HSG.out HO.out HZ3.out).mono ?_; clear HMR; rintro e w8 ⟨rfl, hb⟩; replace HI := keepA HI hb; replace HL := keepA HL hb; replace HT := keepA HT hb; replace HSG := Lib.hid (HSG.out.below hb); replace HW := Lib.hid (ownk_below HW.out hb); replace HB := keepB HB hb; replace HO := Lib.hid (ownk_below HO.out hb); replace HX := keepA HX hb; clear hb))
          have x0 : w8.cell? ⟨gX, 0, none⟩ = some (.int .i64 xk) := cellA HX 0; have x1 : w8.cell? ⟨gX, 1, none⟩ = some (.int .u32 u) := cellA HX 1; have x2 : w8.cell? ⟨gX, 2, none⟩ = some (.slice A d.length c) := cellA HX 2; have i1 : w8.cell? ⟨gI, 1, none⟩ = some (.slice S n sc) := cellA HI 1
          go_wp2_with (first | (refine cellStore (by rfl) 22 _ _ rfl gI 0 ?_ (.int .u32 u) rfl rfl rfl HI.out (by show 0 < 2; decide) infoU32p ?_; exact rfl; intro w12 ha ho; replace HSG := Lib.hid (HSG.out.only ho HI.out (by decide) (by decide)); replace HW := Lib.hid (ownT HW.out HI.out (by decide) ho); replace HL := keepNe HL HI (by decide) ho; replace HX := keepNe HX HI (by decide) ho; replace HT := keepAo HT HTI.out ho; replace HI : Hid (w12.heap[gI]? = some (.cells (imA u S n sc) 25 (0, 0))) := Lib.hid ha; replace HB := keepBo HB HGI.out ho; clear ha ho) | (refine rowLoad (by rfl) 76 _ rfl gX rfl (cs := rowA xk u (.slice A d.length c) s) HX.out Tryd.underlying76 rfl infoRw ?_) | (refine rowStore (by rfl) 76 _ _ rfl gL rfl (rowA xk u (.slice A d.length c) s) rfl HL.out infoRw rfl (rowA_one _ _ _ _ _ _) ?_; intro w11 ha ho; replace HSG := Lib.hid (HSG.out.only ho HL.out (by decide) (by decide)); replace HW := Lib.hid (ownT HW.out HL.out (by decide) ho); replace HT := keepNe HT HL (by decide) ho; replace HI := keepNe HI HL (by decide) ho; replace HL := Lib.hid ha; replace HB := keepBo HB HGL.out ho; clear ha ho))
          go_roundw
          case rel =>
            have hk1 := HK1.out
            have hp : putV (ms.map SegM.v) ⟨xk, u, d, s⟩ = ms.map SegM.v := by
              unfold putV; rw [if_neg (show ¬ xk = 1 by omega), if_neg (show ¬ xk = 2 by omega)]
            refine ⟨k + 1, u, sc, S, ms, ⟨xk, u, d, s⟩, A, c, by omega, by first | trivial | go_num, by rw [HN.out]; exact hms, by show xk ≤ 3; omega, HU.out.1, HU.out.2, Lib.hid (fun h => by have : xk = 1 ∨ xk = 2 := h; omega), Lib.hid (fun h => by have : xk = 1 ∨ xk = 2 := h; omega), ?_, by rw [HN.out]; exact HI, HL, HT, by rw [HN.out]; exact HSG, HW, HB⟩
            have := HGO.out
            rw [hp, if_pos (show xk = 3 from hk1)] at this
            exact Lib.hid this
          case measure => simp [intOf]; omega
      · obtain rfl : k = ls.length := by omega
        have hgo := HGO.out
        rw [List.drop_eq_nil_of_le (Nat.le_refl _), List.map_nil, goV] at hgo
        have l0 : wr.cell? ⟨gL, 0, none⟩ = some (.int .i64 last.kind) := cellA HL 0
        by_cases k3 : last.kind = 3
        · rw [if_pos k3] at hgo
          have q1 : ((last.kind : Int) != 3) = false := by rw [k3]; rfl
          subst hgo
          clear k3 HGO
          go_wp2_with (first | (refine rowLoad (by rfl) 25 _ rfl gI rfl (cs := imA st S ms.length sc) HI.out Tryd.underlying25 rfl infoIm ?_) | (refine rowStore (by rfl) 25 _ _ rfl gT rfl (imA st S ms.length sc) rfl HT.out infoIm rfl (imA_one _ _ _ _) ?_; intro w9 ha ho; replace HSG := Lib.hid (HSG.out.only ho HT.out (by decide) (by decide)); replace HT := Lib.hid ha; replace HB := keepBo HB HGT.out ho; clear ha ho))
          exact bodyPost_ret (res3 rfl _ _ gT 25 (imA st S ms.length sc) (0, 0) _ rfl HT.out Tryd.underlying25 rfl infoIm) rfl ⟨⟨S, sc, ms, rfl, rfl, HSG.out, hms⟩, HB.out.1⟩
        · rw [if_neg k3] at hgo
          have q1 : ((last.kind : Int) != 3) = true := bne_iff_ne.2 (by omega)
          subst hgo
          clear k3 HGO
          go_wp2_with (refine rowStore (by rfl) 25 _ _ rfl gT rfl (imA 0 none 0 0) rfl HT.out infoIm rfl (imA_one _ _ _ _) ?_; intro w9 ha ho; replace HT := Lib.hid ha; replace HB := keepBo HB HGT.out ho; clear ha ho)
          exact bodyPost_ret (res3 rfl _ _ gT 25 (imA 0 none 0 0) (0, 0) _ rfl HT.out Tryd.underlying25 rfl infoIm) rfl (img_none (B := 0) HB.out.1)
  · have hr2 : R = (0, [], 0, ec.toNat) := by rw [← hR]; unfold parseV; rw [hLV, if_neg hec]
    subst hr2
    have hpos : ec = ((ec.toNat : Nat) : Int) := by
      have : (linesV s).2 = 4 ∨ (linesV s).2 = 2 ∨ (linesV s).2 = 0 := by unfold linesV; split; exact .inl rfl; split; exact .inr (.inl rfl); exact .inr (.inr rfl)
      rw [hLV] at this
      simp only at this
      omega
    obtain ⟨E, hE⟩ : ∃ E : Nat, ec.toNat = E := ⟨_, rfl⟩
    rw [hE] at hpos ⊢
    subst hpos
    have q9 : ((E : Int) != 0) = true := bne_iff_ne.2 hec
    clear hR hLV hE hec
    go_enter Tryd.func16, Tryd.ntmps16
    go_wp2_with (first | (refine wlAlloc (by rfl) 25 rfl (imA 0 none 0 0) zeroIm ?_; intro gT w1 hg hl ha hb; have HGT : Hid (w.heap.size ≤ gT) := Lib.hid hg; have HT := Lib.hid ha; replace HB := keepB HB hb; clear ha hb hg hl) | (go_at_call 34; refine (rlines_any s _ hm).mono ?_; rw [HLV.out]; rintro e w2 ⟨⟨v, rfl, ho⟩, hb⟩; obtain ⟨W0, cW, rfl⟩ := own_val ho; have HW := Lib.hid (own_weak ho HB.out.2); replace HT := keepA HT hb; replace HB := keepB HB hb; clear ho hb) | (refine rowStore (by rfl) 25 _ _ rfl gT rfl (imA 0 none 0 0) rfl HT.out infoIm rfl (imA_one _ _ _ _) ?_; intro w9 ha ho; replace HT := Lib.hid ha; replace HB := keepBo HB HGT.out ho; clear ha ho))
    exact bodyPost_ret (res3 rfl _ _ gT 25 (imA 0 none 0 0) (0, 0) _ rfl HT.out Tryd.underlying25 rfl infoIm) rfl (img_none (B := 0) HB.out.1)
end Go.Proofs.YtnigkecpiolgeaaDoor.My

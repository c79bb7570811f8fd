/- The law of texts that are read, against the reference: walked. -/
import Derived.Test.YtnigkecpiolgeaaDoorRomRParse
import Derived.Test.YtnigkecpiolgeaaDoorRomSame
import Derived.Test.YtnigkecpiolgeaaDoorRomGe
set_option linter.unusedVariables false
set_option linter.unusedSimpArgs false
namespace Go.Proofs.YtnigkecpiolgeaaDoor.My
open Go.RowKit
theorem SegsAt.rdG {w : World} {B n c : Nat} {S : Option Addr} {ms : List SegM} (h : SegsAt w B (.slice S n c) ms) : RdSgG w S ms := by
  obtain ⟨A, c', e, h1⟩ := h.rd
  injection e with e1 _ _
  subst e1
  exact ⟨h1.1, fun m hm => ⟨(h1.2 m hm).1, Nat.le_trans (h1.2 m hm).2.1 (by decide), (h1.2 m hm).2.2.1, (h1.2 m hm).2.2.2⟩⟩
set_option maxRecDepth 100000 in
set_option maxHeartbeats 4000000 in
theorem parses_any (s : ByteArray) (m : Int) (w : World) (hM : w.cell? ⟨0, 0, none⟩ = some (.int .i64 m)) : Calls Tryd.prog 4 #[.string s] w fun e w' => e = .returned (.bool true) ∧ Below w.heap.size w w' := by
  have HB := startB w
  have HM := Lib.hid hM
  clear hM
  by_cases hl : 5000 < s.size
  · have q1 : decide ((5000 : Int) < (s.size : Int)) = true := decide_eq_true (by omega)
    have q2 : decide (5000 < s.size) = true := decide_eq_true hl
    go_enter Tryd.func4, Tryd.ntmps4
    go_wp2_with (go_at_call 10; refine (awake_any m _ ((HB.out.1.cell (World.block_lt_of_cell? w _ HM.out)).trans HM.out)).mono ?_; rintro e w9 ⟨rfl, hb⟩; replace HB := keepB HB hb; clear hb)
    go_ret
    exact ⟨rfl, HB.out.1⟩
  · have q1 : decide ((5000 : Int) < (s.size : Int)) = false := decide_eq_false (by omega)
    have q2 : decide (5000 < s.size) = false := decide_eq_false hl
    obtain ⟨⟨r1, ss, N, F⟩, hP⟩ : ∃ R, parseV s = R := ⟨_, rfl⟩
    have HP1 : Hid (∀ wz, wz.cell? ⟨0, 0, none⟩ = some (.int .i64 m) → Calls Tryd.prog 15 #[.string s] wz (ImgIs (r1, ss, N, F) wz)) := Lib.hid (fun wz h => by have := parseW_any s m wz h (by omega); rwa [hP] at this)
    have HP2 : Hid (∀ wz, Calls Tryd.prog 16 #[.string s] wz (ImgIs (r1, ss, N, F) wz)) := Lib.hid (fun wz => by have := rparse_any s wz (by omega); rwa [hP] at this)
    clear hP hl
    go_enter Tryd.func4, Tryd.ntmps4
    go_upto_region 4 with (first | (go_at_call 15; refine (HP1.out _ ((HB.out.1.cell (World.block_lt_of_cell? w _ HM.out)).trans HM.out)).mono ?_; clear HP1; rintro e w5 ⟨⟨S2, c2, ms2, rfl, h1, h2, h3⟩, hb⟩; have HV2 := Lib.hid h1; have HS2 := Lib.hid h2; have hm2 : ms2.length ≤ 64 := h3; replace HB := keepB HB hb; clear h1 h2 h3 hb) | (refine wlAlloc ?_ 25 rfl (imA 0 none 0 0) zeroIm ?_; exact rfl; intro gJ w6 hg hl ha hb; have HJG : Hid (w.heap.size ≤ gJ) := Lib.hid (Nat.le_trans HB.out.2 hg); replace HS2 := Lib.hid (HS2.out.below hb); have HJ := Lib.hid ha; replace HB := keepB HB hb; clear ha hb hg hl) | (refine rowStore ?_ 25 _ _ rfl gJ rfl (imA r1 S2 ms2.length c2) rfl HJ.out infoIm rfl (imA_one _ _ _ _) ?_; exact rfl; intro w7 ha ho; replace HS2 := Lib.hid (HS2.out.only ho HJ.out (by decide) (by decide)); replace HJ := Lib.hid ha; replace HB := keepBo HB HJG.out ho; clear ha ho))
    go_upto_region 5 with (first | (go_at_call 16; refine (HP2.out _).mono ?_; clear HP2; rintro e wa ⟨⟨S3, c3, ms3, rfl, h1, h2, h3⟩, hb⟩; have HV3 := Lib.hid h1; have HS3 := Lib.hid h2; have hm3 : ms3.length ≤ 64 := h3; replace HS2 := Lib.hid (HS2.out.below hb); replace HJ := keepA HJ hb; replace HB := keepB HB hb; clear h1 h2 h3 hb) | (refine wlAlloc ?_ 25 rfl (imA 0 none 0 0) zeroIm ?_; exact rfl; intro gK wb hg hl ha hb; have HKG : Hid (w.heap.size ≤ gK) := Lib.hid (Nat.le_trans HB.out.2 hg); have HJK : Hid (gJ ≠ gK) := Lib.hid (Nat.ne_of_lt (Nat.lt_of_lt_of_le (Array.getElem?_eq_some_iff.1 HJ.out).1 hg)); replace HS2 := Lib.hid (HS2.out.below hb); replace HS3 := Lib.hid (HS3.out.below hb); replace HJ := keepA HJ hb; have HK := Lib.hid ha; replace HB := keepB HB hb; clear ha hb hg hl) | (refine rowStore ?_ 25 _ _ rfl gK rfl (imA r1 S3 ms3.length c3) rfl HK.out infoIm rfl (imA_one _ _ _ _) ?_; exact rfl; intro wc ha ho; replace HS2 := Lib.hid (HS2.out.only ho HK.out (by decide) (by decide)); replace HS3 := Lib.hid (HS3.out.only ho HK.out (by decide) (by decide)); replace HJ := keepAo HJ HJK.out ho; replace HK := Lib.hid ha; replace HB := keepBo HB HKG.out ho; clear ha ho))
    go_wp2_with (first | (refine rowLoad ?_ 25 _ rfl gJ rfl (cs := imA r1 S2 ms2.length c2) HJ.out Tryd.underlying25 rfl infoIm ?_; exact rfl) | (refine rowLoad ?_ 25 _ rfl gK rfl (cs := imA r1 S3 ms3.length c3) HK.out Tryd.underlying25 rfl infoIm ?_; exact rfl) | (go_at_call 17; refine (image_any r1 c2 r1 c3 S2 S3 ms2 ms3 _ HS2.out.rdG HS3.out.rdG (Nat.le_trans hm2 (by decide)) (Nat.le_trans hm3 (by decide))).mono ?_; rw [show decide (r1 = r1 ∧ ms2.map SegM.v = ms3.map SegM.v) = true from decide_eq_true ⟨rfl, HV2.out.trans HV3.out.symm⟩]; rintro e w8 ⟨rfl, hb⟩; replace HB := keepB HB hb; clear hb HS2 HS3 HV2 HV3) | (go_at_call 10; refine (awake_any m _ ((HB.out.1.cell (World.block_lt_of_cell? w _ HM.out)).trans HM.out)).mono ?_; rintro e w9 ⟨rfl, hb⟩; replace HB := keepB HB hb; clear hb))
    go_ret
    exact ⟨rfl, HB.out.1⟩
end Go.Proofs.YtnigkecpiolgeaaDoor.My

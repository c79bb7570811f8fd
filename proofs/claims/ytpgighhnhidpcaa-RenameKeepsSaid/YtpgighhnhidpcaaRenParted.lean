/- Walks over the reference: how often a number is in a list; is each in just one place? -/
import Derived.Test.YtpgighhnhidpcaaRenRightPlain
import Derived.Test.YtpgighhnhidpcaaRenListOwn
import Derived.Deep.LoopGhost
set_option linter.unusedSimpArgs false
set_option linter.unusedVariables false
namespace Go.Proofs.Ytpgighhnhidpcaa.My
open Go.RowKit
theorem take_nxt {K : List Int} {k : Nat} (h : k < K.length) : K.take (k + 1) = K.take k ++ [el K k] := by
  rw [List.take_add_one, List.getElem?_eq_getElem h]
  simp [el, List.getElem?_eq_getElem h]
theorem times_any (A : Option Addr) (c : Nat) (xs : List Int) (p : Int) (w : World) (hx : RdA .i64 w A xs.length xs) (hm : xs.length ≤ 1000000) : Calls Try.prog 59 #[.slice A xs.length c, .int .i64 p] w fun e w' => e = .returned (.int .i64 (xs.count p : Int)) ∧ w' = w := by
  have HX := Lib.hid hx
  obtain ⟨n, hn⟩ : ∃ n, xs.length = n := ⟨_, rfl⟩
  have HN := Lib.hid hn
  rw [hn] at HX hm
  rw [hn]
  clear hx hn
  go_enter Try.func59, Try.ntmps59
  go_wp2
  go_loopw [6, 5] (fun i j wr => ∃ k C : Nat, k ≤ n ∧ i = .int .i64 k ∧ j = .int .i64 C ∧ C ≤ k ∧ Hid ((xs.take k).count p = C) ∧ wr = w) (fun i _ _ => n - (intOf i).toNat)
  case atStart => exact ⟨0, 0, Nat.zero_le _, rfl, rfl, Nat.le_refl _, Lib.hid (by simp), rfl⟩
  case round =>
    obtain ⟨k, C, hk, rfl, rfl, hCk, HC, rfl⟩ := hrel
    by_cases hlt : k < n
    · obtain ⟨b, off, rfl, hc1⟩ := HX.out.2 (by omega)
      have e1 := hc1 k hlt
      have hnx := take_nxt (K := xs) (k := k) (by rw [HN.out]; exact hlt)
      obtain ⟨y, hy⟩ : ∃ y, el xs k = y := ⟨_, rfl⟩
      rw [hy] at e1 hnx
      clear hc1 hy
      by_cases h : y = p
      · have b1 : (y == p) = true := by simp [h]
        have HCN : Hid ((xs.take (k + 1)).count p = C + 1) := Lib.hid (by rw [hnx, List.count_append, HC.out]; simp [h])
        clear hnx h
        go_wp2
        go_roundw
        case rel => exact ⟨k + 1, C + 1, by omega, by go_num, by go_num, by omega, HCN, by first | rfl | trivial⟩
        case measure => simp [intOf]; omega
      · have b1 : (y == p) = false := by simpa using h
        have HCN : Hid ((xs.take (k + 1)).count p = C) := Lib.hid (by rw [hnx, List.count_append, HC.out]; simp [List.count_cons, h])
        clear hnx h
        go_wp2
        go_roundw
        case rel => exact ⟨k + 1, C, by omega, by go_num, rfl, by omega, HCN, by first | rfl | trivial⟩
        case measure => simp [intOf]; omega
    · obtain rfl : k = n := by omega
      have hC := HC.out
      rw [← HN.out, List.take_length] at hC
      have HCC := Lib.hid hC
      clear hC
      go_wp2
      go_ret
      exact ⟨ret_int (by rw [HCC.out]), rfl⟩
theorem infoIntZ : (Try.prog.info? 3).map (fun i => (i.zero, i.size, i.bytes)) = some (some (.int .i64 0), 1, 8) := by kernel_rfl
theorem onesB_no {M p : Nat} {L : List Int} (h1 : 1 ≤ p) (h2 : p < M) (hc : L.count (p : Int) ≠ 1) : onesB M L = false := by
  cases h : onesB M L with
  | false => rfl
  | true => exact absurd (onesB_iff.1 h p h1 h2) hc
theorem onesB_up {p : Nat} {L : List Int} (h : onesB p L = true) (hc : p = 0 ∨ L.count (p : Int) = 1) : onesB (p + 1) L = true := by
  rw [onesB_iff] at h ⊢
  intro q h1 h2
  by_cases hq : q = p
  · subst hq
    rcases hc with rfl | hc
    · omega
    · exact hc
  · exact h q h1 (by omega)
theorem outs_take {fl : List RenV} {k : Nat} {r : RenV} (hr : fl[k]? = some r) : outs (fl.take (k + 1)) = outs (fl.take k) ++ (if r.out = -1 then [] else [r.out]) := by
  unfold outs
  rw [List.take_add_one, hr, List.map_append, List.filter_append]
  congr 1
  by_cases h : r.out = -1
  · simp [h]
  · simp [h]
theorem drop_nxt {d : List Int} {r : Nat} (h1 : 1 ≤ r) (h : r < d.length) : (d.drop 1).take r = (d.drop 1).take (r - 1) ++ [el d r] := by
  obtain ⟨q, rfl⟩ : ∃ q, r = q + 1 := ⟨r - 1, by omega⟩
  rw [Nat.add_sub_cancel, List.take_add_one, List.getElem?_drop, Nat.add_comm 1 q, List.getElem?_eq_getElem h]
  simp [el, List.getElem?_eq_getElem h]
theorem ma_at2 {k : IntKind} {d : List Int} {r : Nat} (h : r < d.length) : (ma k d).toList[r]? = some (.int k (el d r)) := by
  rw [ma_toList, List.getElem?_map, List.getElem?_eq_getElem h]
  simp [el, List.getElem?_eq_getElem h]
theorem ints_add (X : List Int) (x : Int) : X.map (Value.int .i64) ++ (#[Value.int .i64 x] : Array Value).toList = (X ++ [x]).map (Value.int .i64) := by simp
theorem outs_le (fl : List RenV) : (outs fl).length ≤ fl.length := by
  unfold outs
  exact Nat.le_trans (List.length_filter_le _ _) (by simp)
set_option maxRecDepth 100000 in
set_option maxHeartbeats 8000000 in
theorem parted_any (v : NmV) (A B : Option Addr) (c d M : Nat) (fl : List RenV) (w : World) (hx : RdA .i64 w A v.n v.xs) (kv : v.Ok) (hl : RwA w B 29 fl.length (fl.map rA)) (hfl : fl.length ≤ 100) (h17 : 17 ≤ M) (h96 : M ≤ 96) : Calls Try.prog 52 #[.agg (nmA v A c), .int .i64 (M : Int), .slice B fl.length d] w fun e w' => e = .returned (.bool (onesB M (baseL v ++ outs fl) && decide (((baseL v ++ outs fl).length : Int) = (M : Int) - 1))) ∧ Below w.heap.size w w' := by
  obtain ⟨KL, hK⟩ : ∃ K, ringL v.xs v.n v.h v.N = K := ⟨_, rfl⟩
  have hKl : KL.length ≤ 96 := by rw [← hK]; exact ring_le2 _ _ _ _
  have hbase : baseL v = KL ++ v.d.drop 1 := by unfold baseL; rw [hK]
  rw [hbase]
  have HK := Lib.hid hK
  have HB := startB w
  have HX := Lib.hid hx
  have HL := Lib.hid hl
  have HLL := Lib.hid hl.lt
  have hd16 : v.d.length = 16 := kv.d
  have HD16 := Lib.hid hd16
  clear hx hl hK hbase hd16
  go_enter Try.func52, Try.ntmps52
  go_wp2_with (first | (refine wlBox rfl 29 _ rfl (nmA v A c) rfl ?_; intro gS w1 hgS hgS' hz hb; have HS := Lib.hid hz; replace HX := Lib.hid (HX.out.below hb); replace HL := Lib.hid (HL.out.below hb); replace HB := keepB HB hb; clear hz hb) | (refine partLoad rfl 26 _ rfl gS 32 rfl (nm_free kv.m kv.d HS.out) Try.underlying26 rfl infoFr ?_) | (go_at_call 58; refine (rlist_own A v.n c v.h v.N v.xs _ HX.out kv.n).mono ?_; rintro e w2 ⟨⟨O, rfl, ho⟩, hb⟩; rw [HK.out] at ho; have hlt : gS + 1 ≤ _ := (Array.getElem?_eq_some_iff.1 HS.out).1; have HO := Lib.hid (ownk_weak ho hlt); clear hlt; replace HS := keepA HS hb; replace HX := Lib.hid (HX.out.below hb); replace HL := Lib.hid (HL.out.below hb); replace HB := keepB HB hb; clear ho hb))
  obtain ⟨XL, hXL⟩ : ∃ XL : List Int, XL = KL ++ (v.d.drop 1).take (1 - 1) := ⟨_, rfl⟩
  go_loopg [8, 7] 15 (fun gk i o wr => ∃ (r : Nat) (XL : List Int), r + gk = 16 ∧ 1 ≤ r ∧ i = .int .i64 r ∧ XL = KL ++ (v.d.drop 1).take (r - 1) ∧ Hid (wr.ownsRow (gS + 1) 3 1 o XL.length (XL.map (Value.int .i64))) ∧ Hid (wr.heap[gS]? = some (.cells (nmA v A c) 29 (0, 0))) ∧ Hid (RwA wr B 29 fl.length (fl.map rA)) ∧ Hid (Below w.heap.size w wr ∧ w.heap.size ≤ wr.heap.size))
  case atStart => exact ⟨1, KL, by omega, by omega, rfl, by simp, HO, HS, HL, HB⟩
  case round =>
    clear HS HL HB HO HX hXL XL
    obtain ⟨r, XL, hr, hr1, rfl, hXL, HO, HS, HL, HB⟩ := hrel
    have hXl : XL.length ≤ 200 := by rw [hXL, List.length_append, List.length_take, List.length_drop]; omega
    by_cases hlt : r < 16
    · have hr16 : r < v.d.length := by rw [HD16.out]; exact hlt
      have HTN : Hid (XL ++ [el v.d r] = KL ++ (v.d.drop 1).take (r + 1 - 1)) := Lib.hid (by rw [hXL, Nat.add_sub_cancel, drop_nxt hr1 hr16, List.append_assoc])
      have fD := nm_done kv.m HS.out r _ (ma_at2 hr16)
      clear hXL
      go_wp2_with (first | (refine wlLit rfl 24 1 _ rfl #[.int .i64 (el v.d r)] 3 (fun _ => by kernel_rfl) ?_; intro gL w3 hgL hgL' hz hb; have HT := Lib.hid hz; replace HS := keepA HS hb; replace HL := Lib.hid (HL.out.below hb); replace HO := Lib.hid (ownk_below HO.out hb); replace HB := keepB HB hb; clear hz hb) | (refine appRow rfl _ _ 24 3 (.int .i64 0) 1 8 rfl Try.underlying24 infoIntZ rfl (by omega) (gS + 1) u7 XL.length (XL.map (Value.int .i64)) rfl HO.out #[.int .i64 (el v.d r)] rfl (by simp [Value.oneCell']) gL 1 rfl HT.out (by unfold maxLen; omega) (by omega) (Array.getElem?_eq_some_iff.1 HS.out).1 ?_; intro O2 w4 ho2 hg hat; have HOB : Hid (∀ j, u7.ownBlock = some j → gS + 1 ≤ j) := Lib.hid (fun j e => (HO.out.lt j e).1); replace HS := keepAw HS hg (fun e => by have := HOB.out gS e.symm; omega); replace HL := Lib.hid (HL.out.grown hg (fun a e1 e2 e3 => by have h1 := HLL.out a e1 e2; have h2 := HOB.out a.block e3.symm; omega)); replace HB := keepBw HB hg (fun j e => by have := HOB.out j e; omega); rw [ints_add] at ho2; clear HO; have HO := Lib.hid ho2; clear ho2 hg hat HT))
      go_roundg (16 - (r + 1))
      case rel => exact ⟨r + 1, XL ++ [el v.d r], by omega, by omega, by go_num, HTN.out, by rw [List.length_append]; exact HO, HS, HL, HB⟩
      case measure => omega
    · obtain rfl : r = 16 := by omega
      have hdt : (v.d.drop 1).take (16 - 1) = v.d.drop 1 := List.take_of_length_le (by rw [List.length_drop, HD16.out]; exact Nat.le_refl _)
      rw [hdt] at hXL
      clear hdt
      go_wp2
      go_loopg [9, 7] fl.length (fun gk i o wr => ∃ (k : Nat) (XL : List Int), k + gk = fl.length ∧ i = .int .i64 k ∧ XL = KL ++ v.d.drop 1 ++ outs (fl.take k) ∧ Hid (wr.ownsRow (gS + 1) 3 1 o XL.length (XL.map (Value.int .i64))) ∧ Hid (wr.heap[gS]? = some (.cells (nmA v A c) 29 (0, 0))) ∧ Hid (RwA wr B 29 fl.length (fl.map rA)) ∧ Hid (Below w.heap.size w wr ∧ w.heap.size ≤ wr.heap.size))
      case atStart => exact ⟨0, XL, by omega, rfl, by rw [hXL]; simp [outs], HO, HS, HL, HB⟩
      case round =>
        clear HS HL HB HO hXL hXl XL
        obtain ⟨k, XL, hk, rfl, hXL, HO, HS, HL, HB⟩ := hrel
        have hXl : XL.length ≤ 300 := by
          rw [hXL, List.length_append, List.length_append, List.length_drop, HD16.out]
          have := outs_le (fl.take k)
          rw [List.length_take] at this
          omega
        by_cases hlt : k < fl.length
        · have hn0 : 0 < fl.length := by omega
          obtain ⟨r, hr⟩ : ∃ r, fl[k]? = some r := ⟨_, List.getElem?_eq_getElem hlt⟩
          obtain ⟨bL, oL, rfl, _, _⟩ := HL.out.2.2 hn0
          have hot := outs_take hr
          by_cases h3 : r.out = -1
          · have b3 : (r.out != -1) = false := by simp [h3]
            have HTN : Hid (XL = KL ++ v.d.drop 1 ++ outs (fl.take (k + 1))) := Lib.hid (by rw [hot, if_pos h3, List.append_nil]; exact hXL)
            clear hXL hot h3
            (try clear fO); have fO := (HL.out.at_ hn0 (rens_get hr)) 27 (.int .i64 r.out) rfl
            go_wp2_with (first | (refine wlIdx rfl 33 _ _ rfl 52 29 Try.underlying33 sizeRen bL oL fl.length d k rfl rfl hlt ?_))
            go_roundg (fl.length - (k + 1))
            case rel => exact ⟨k + 1, XL, by omega, by go_num, HTN.out, HO, HS, HL, HB⟩
            case measure => omega
          · have b3 : (r.out != -1) = true := by simpa using h3
            have HTN : Hid (XL ++ [r.out] = KL ++ v.d.drop 1 ++ outs (fl.take (k + 1))) := Lib.hid (by rw [hot, if_neg h3, hXL, List.append_assoc (KL ++ v.d.drop 1)])
            clear hXL hot h3
            (try clear fO); have fO := (HL.out.at_ hn0 (rens_get hr)) 27 (.int .i64 r.out) rfl
            go_wp2_with (first | (refine wlIdx rfl 33 _ _ rfl 52 29 Try.underlying33 sizeRen bL oL fl.length d k rfl rfl hlt ?_) | (refine wlLit rfl 24 1 _ rfl #[.int .i64 r.out] 3 (fun _ => by kernel_rfl) ?_; intro gL w3 hgL hgL' hz hb; have HT := Lib.hid hz; replace HS := keepA HS hb; replace HL := Lib.hid (HL.out.below hb); replace HO := Lib.hid (ownk_below HO.out hb); replace HB := keepB HB hb; clear hz hb) | (refine appRow rfl _ _ 24 3 (.int .i64 0) 1 8 rfl Try.underlying24 infoIntZ rfl (by omega) (gS + 1) u7 XL.length (XL.map (Value.int .i64)) rfl HO.out #[.int .i64 r.out] rfl (by simp [Value.oneCell']) gL 1 rfl HT.out (by unfold maxLen; omega) (by omega) (Array.getElem?_eq_some_iff.1 HS.out).1 ?_; intro O2 w4 ho2 hg hat; have HOB : Hid (∀ j, u7.ownBlock = some j → gS + 1 ≤ j) := Lib.hid (fun j e => (HO.out.lt j e).1); replace HS := keepAw HS hg (fun e => by have := HOB.out gS e.symm; omega); replace HL := Lib.hid (HL.out.grown hg (fun a e1 e2 e3 => by have h1 := HLL.out a e1 e2; have h2 := HOB.out a.block e3.symm; omega)); replace HB := keepBw HB hg (fun j e => by have := HOB.out j e; omega); rw [ints_add] at ho2; clear HO; have HO := Lib.hid ho2; clear ho2 hg hat HT))
            go_roundg (fl.length - (k + 1))
            case rel => exact ⟨k + 1, XL ++ [r.out], by omega, by go_num, HTN.out, by rw [List.length_append]; exact HO, HS, HL, HB⟩
            case measure => omega
        · obtain rfl : k = fl.length := by omega
          rw [List.take_length] at hXL
          have HXE := Lib.hid hXL
          obtain ⟨A7, c7, rfl, hrd, _⟩ := RdA.of_own HO.out
          have HRD := Lib.hid hrd
          clear hrd HO hXL
          go_wp2
          go_loopg [10] (M - 1) (fun gk i wr => ∃ p : Nat, p + gk = M ∧ 1 ≤ p ∧ i = .int .i64 p ∧ Hid (onesB p XL = true) ∧ Hid (RdA .i64 wr A7 XL.length XL) ∧ Hid (Below w.heap.size w wr ∧ w.heap.size ≤ wr.heap.size))
          case atStart => exact ⟨1, by omega, by omega, rfl, Lib.hid (by simp [onesB]), HRD, HB⟩
          case round =>
            clear HRD HB HS HL
            obtain ⟨p, hp, hp1, rfl, HP, HRD, HB⟩ := hrel
            by_cases hlt : p < M
            · obtain ⟨C, hC⟩ : ∃ C : Nat, XL.count (p : Int) = C := ⟨_, rfl⟩
              have HC := Lib.hid hC
              by_cases h1 : C = 1
              · have b1 : ((C : Int) != 1) = false := by simp [h1]
                have HPN : Hid (onesB (p + 1) XL = true) := Lib.hid (onesB_up HP.out (.inr (hC.trans h1)))
                clear hC h1
                go_wp2_with (go_at_call 59; refine (times_any A7 c7 XL p _ HRD.out (by omega)).mono ?_; rintro e w5 ⟨rfl, rfl⟩; rw [HC.out])
                go_roundg (M - (p + 1))
                case rel => exact ⟨p + 1, by omega, by omega, by go_num, HPN, HRD, HB⟩
                case measure => omega
              · have b1 : ((C : Int) != 1) = true := by simp; omega
                have HPN : Hid (onesB M XL = false) := Lib.hid (onesB_no hp1 hlt (by rw [hC]; exact h1))
                clear hC h1
                go_wp2_with (go_at_call 59; refine (times_any A7 c7 XL p _ HRD.out (by omega)).mono ?_; rintro e w5 ⟨rfl, rfl⟩; rw [HC.out])
                go_ret
                exact ⟨ret_bool (by rw [← HXE.out, HPN.out]; rfl), HB.out.1⟩
            · obtain rfl : p = M := by omega
              go_wp2
              go_ret
              exact ⟨ret_bool (by rw [← HXE.out, HP.out, Bool.true_and]; exact Bool.beq_eq_decide_eq _ _), HB.out.1⟩
end Go.Proofs.Ytpgighhnhidpcaa.My

/- Renaming groups, program and reference. -/
import Derived.Test.YtpgighhnhidpcaaRenRows
import Derived.Test.YtpgighhnhidpcaaRenAwake
import Derived.Deep.CutRange
import Derived.Deep.LoopGhost
set_option linter.unusedSimpArgs false
set_option linter.unusedVariables false
namespace Go.Proofs.Ytpgighhnhidpcaa.My
open Go.RowKit
/-- Names behind a list of Uops, and these renamed. -/
def grp : NmV → List UopV → NmV × List RenV
  | v, [] => (v, [])
  | v, u :: us => if onB v u = true then ((grp (onV v u) us).1, onR v u :: (grp (onV v u) us).2) else (v, [])
theorem grp_ok : ∀ {us : List UopV} {v : NmV}, v.Ok → (grp v us).1.Ok
  | [], v, h => h
  | u :: us, v, h => by
    unfold grp
    split
    · exact grp_ok (onV_ok h u)
    · exact h
theorem grp_n : ∀ (us : List UopV) (v : NmV), (grp v us).1.n = v.n
  | [], v => rfl
  | u :: us, v => by
    unfold grp
    split
    · show (grp (onV v u) us).1.n = _
      rw [grp_n us, onV_n]
    · rfl
theorem grp_xs : ∀ (us : List UopV) (v : NmV), (grp v us).1.xs = v.xs
  | [], v => rfl
  | u :: us, v => by
    unfold grp
    split
    · show (grp (onV v u) us).1.xs = _
      rw [grp_xs us, onV_xs]
    · rfl
theorem grp_len : ∀ (us : List UopV) (v : NmV), (grp v us).2.length ≤ us.length
  | [], v => Nat.le_refl _
  | u :: us, v => by
    unfold grp
    split
    · have := grp_len us (onV v u)
      simp only [List.length_cons]
      omega
    · simp
theorem grp_nil {v : NmV} {us : List UopV} {k : Nat} (h : us.length ≤ k) : grp v (us.drop k) = (v, []) := by rw [List.drop_eq_nil_of_le h]; rfl
theorem grp_no {v : NmV} {us : List UopV} {k : Nat} {u : UopV} (hu : us[k]? = some u) (hb : onB v u = false) : grp v (us.drop k) = (v, []) := by
  have hk := (List.getElem?_eq_some_iff.1 hu)
  obtain ⟨hlt, he⟩ := hk
  rw [List.drop_eq_getElem_cons hlt, he]
  simp [grp, hb]
theorem grp_yes {v : NmV} {us : List UopV} {k : Nat} {u : UopV} (hu : us[k]? = some u) (hb : onB v u = true) : grp v (us.drop k) = ((grp (onV v u) (us.drop (k + 1))).1, onR v u :: (grp (onV v u) (us.drop (k + 1))).2) := by
  have hk := (List.getElem?_eq_some_iff.1 hu)
  obtain ⟨hlt, he⟩ := hk
  rw [List.drop_eq_getElem_cons hlt, he]
  simp [grp, hb]
/-- The cells of renamed ones. -/
def rows (R : List RenV) : List Value := (R.map rA).flatMap Array.toList
theorem rows_add (R : List RenV) (r : RenV) : rows R ++ (rA r).toList = rows (R ++ [r]) := by simp [rows]
theorem rows_size (R : List RenV) : ∀ r ∈ R.map rA, r.size = 29 := fun r hr => by
  obtain ⟨x, _, rfl⟩ := List.mem_map.1 hr
  rfl
theorem uops_get {us : List UopV} {k : Nat} {u : UopV} (h : us[k]? = some u) : (us.map uA)[k]? = some (uA u) := by simp [h]
theorem sizeUop (w : World) : (sizeOf 50).run Try.prog w = .ok 23 w := by kernel_rfl
theorem sizeRen (w : World) : (sizeOf 52).run Try.prog w = .ok 29 w := by kernel_rfl
theorem infoRenZ : (Try.prog.info? 52).map (fun i => (i.zero, i.size, i.bytes)) = some (some (.agg (rA rZ)), 29, 216) := by kernel_rfl
/-- What a group leaves. -/
def GrP (w w' : World) (A : Option Addr) (v : NmV) (R : List RenV) (e : Ending) : Prop :=
  ∃ A' c B d, e = .returned (.tuple #[.agg (nmA v A' c), .slice B R.length d]) ∧ RdA .i64 w' A' v.n v.xs ∧ (A' = A ∨ Fresh w.heap.size A') ∧ RwA w' B 29 R.length (R.map rA) ∧ Fresh w.heap.size B ∧ Below w.heap.size w w'
theorem nm_szV2 {v : NmV} (hv : v.Ok) (A : Option Addr) (c : Nat) : (Try.prog.info? 29).map (·.size) = some (nmA v A c).size := nm_szV hv A c
theorem res1c {P : Program} {fn : Func} {p v : Tmp} {ty : TypeId} (h : fn.results = #[.cell p ty, .tmp v]) (tmps : Array Value) (w : World) (g : Nat) (t : TypeId) (cs : Array Value) (fr : Nat × Nat) (d : TypeDesc)
    (hp : tmps.getD p undef = .pointer (some ⟨g, 0, none⟩)) (hg : w.heap[g]? = some (.cells cs t fr)) (hu : P.underlying ty = some d) (hd : d.isRow = true) (hi : (P.info? ty).map (·.size) = some cs.size) :
    (results fn tmps).run P w = .ok (.tuple #[.agg cs, tmps.getD v undef]) w := by
  have hp' : tmps[p]?.getD undef = .pointer (some ⟨g, 0, none⟩) := by simpa using hp
  have hl := run_loadVar_row (P := P) w g t ty cs fr d hg hu (by cases d <;> first | rfl | exact hd) hi
  simp [results, h, hp', asAddr, hl]
theorem RwA.at_ {w : World} {b off k n : Nat} {rs : List (Array Value)} (h : RwA w (some ⟨b, off, none⟩) k n rs) (hn : 0 < n) {j : Nat} {r : Array Value} (hr : rs[j]? = some r) : w.rangeAt b (off + j * k) r.toList := by
  obtain ⟨b', off', hA, _, hc⟩ := h.2.2 hn
  injection hA with hA
  injection hA with h1 h2 _
  subst h1; subst h2
  exact hc j r hr
theorem farStep {A A1 A2 : Option Addr} {G S : Nat} (h : A1 = A ∨ Fresh G A1) (hA : A2 = A1 ∨ Fresh S A2) (hG : G ≤ S) : A2 = A ∨ Fresh G A2 := by
  rcases hA with rfl | hf
  · exact h
  · exact .inr (hf.mono hG)
theorem own_slice {w : World} {B e k n : Nat} {v : Value} {xs : List Value} (h : w.ownsRow B e k v n xs) : ∃ A c, v = .slice A n c := by
  rcases h.2 with ⟨h, h2⟩ | ⟨k, cap, cur, h1, h2⟩
  · exact ⟨none, 0, by rw [h, h2]⟩
  · exact ⟨_, _, h1⟩
theorem neOf {A1 A2 : Option Addr} {n T S g : Nat} (hl : ∀ a, A1 = some a → 0 < n → a.block < T) (hA : A2 = A1 ∨ Fresh S A2) (hT : T ≤ g) (hg : g < S) : ∀ a, A2 = some a → 0 < n → a.block ≠ g := fun a ha hn he => by
  rcases hA with rfl | hf
  · have := hl a ha hn; omega
  · have := hf a ha; omega
/-- The slice's memory is apart from what the call has made. -/
def Apart (A : Option Addr) (n : Nat) (v : Value) : Prop := ∀ a, A = some a → 0 < n → some a.block ≠ v.ownBlock
theorem Apart.next {w : World} {A A1 : Option Addr} {n B e k m : Nat} {v : Value} {xs : List Value} (h : Apart A n v) (hA : A1 = A ∨ Fresh w.heap.size A1) (ho : w.ownsRow B e k v m xs) : Apart A1 n v := fun a ha hn hv => by
  rcases hA with rfl | hf
  · exact h a ha hn hv
  · have h1 := hf a ha
    have h2 := (ho.lt _ hv.symm).2
    omega
theorem Apart.app {w : World} {A : Option Addr} {n : Nat} {xs : List Int} {v v' : Value} (h : Apart A n v) (hx : RdA .i64 w A n xs) (hv : v'.ownBlock = v.ownBlock ∨ v'.ownBlock = some w.heap.size) : Apart A n v' := fun a ha hn he => by
  rcases hv with hv | hv
  · exact h a ha hn (he.trans hv)
  · rw [hv] at he
    injection he with he
    have := hx.lt a ha hn
    omega

theorem done_grp {v V F : NmV} {A A1 B : Option Addr} {c1 dd k gZ : Nat} {R G : List RenV} {O : Value} {w w' : World} (hO : O = .slice B k dd) (hRw : RwA w' B 29 k (R.map rA)) (hFr : Fresh (gZ + 1) B) (hR : R.length = k) (hx : RdA .i64 w' A1 v.n v.xs) (hA : A1 = A ∨ Fresh (gZ + 1) A1) (hz : w.heap.size ≤ gZ) (hV : V = F) (hG : R = G) (hn : V.n = v.n) (hxs : V.xs = v.xs) (hb : Below w.heap.size w w') : GrP w w' A F G (.returned (.tuple #[.agg (nmA V A1 c1), O])) := by
  subst hV; subst hG; subst hR
  refine ⟨A1, c1, B, dd, by rw [hO], by rw [hn, hxs]; exact hx, hA.imp_right fun hf => hf.mono (by omega), hRw, hFr.mono (by omega), hb⟩
set_option maxRecDepth 100000 in
set_option maxHeartbeats 4000000 in
theorem group_any (v : NmV) (A L : Option Addr) (c kL : Nat) (us : List UopV) (w : World) (hx : RdA .i64 w A v.n v.xs) (hv : v.Ok) (hl : RwA w L 23 us.length (us.map uA)) (hm : us.length ≤ 1000000) : Calls Try.prog 10 #[.agg (nmA v A c), .slice L us.length kL] w fun e w' => GrP w w' A (grp v us).1 (grp v us).2 e := by
  have HB := startB w
  have HX := Lib.hid hx
  have HL := Lib.hid hl
  have HLA := Lib.hid hx.lt
  have HLL := Lib.hid hl.lt
  clear hx hl
  obtain ⟨F, hF⟩ : ∃ F, (grp v us).1 = F := ⟨_, rfl⟩
  obtain ⟨G, hG⟩ : ∃ G, (grp v us).2 = G := ⟨_, rfl⟩
  rw [hF, hG]
  have HFG : Hid ((grp v (us.drop 0)).1 = F ∧ [] ++ (grp v (us.drop 0)).2 = G) := Lib.hid ⟨hF, hG⟩
  clear hF hG
  go_enter Try.func10, Try.ntmps10
  go_wp2_with (first | (refine wlBox rfl 29 _ rfl (nmA v A c) rfl ?_; intro gS w1 hgS hgS' hs hb; have HS := Lib.hid hs; replace HX := Lib.hid (HX.out.below hb); replace HL := Lib.hid (HL.out.below hb); replace HB := keepB HB hb; clear hs hb) | (refine wlAlloc rfl 29 rfl _ zeroNames ?_; intro gZ w3 hgZ hgZ' hz hb; have HZ := Lib.hid hz; replace HS := keepA HS hb; replace HX := Lib.hid (HX.out.below hb); replace HL := Lib.hid (HL.out.below hb); replace HB := keepB HB hb; clear hz hb))
  have hgZ0 : w.heap.size ≤ gZ := by omega
  go_loopw [14, 6] (fun i o wr => ∃ (k : Nat) (V : NmV) (A1 : Option Addr) (c1 : Nat) (R : List RenV), k ≤ us.length ∧ i = .int .i64 k ∧ R.length = k ∧ Hid (wr.heap[gS]? = some (.cells (nmA V A1 c1) 29 (0, 0))) ∧ Hid (wr.heap[gZ]? = some (.cells (nm zeros16 zeros16 (.slice none 0 0) 0 0 0) 29 (0, 0))) ∧ Hid (RdA .i64 wr A1 v.n v.xs) ∧ Hid (RwA wr L 23 us.length (us.map uA)) ∧ Hid (wr.ownsRow (gZ + 1) 52 29 o k (rows R)) ∧ Hid (Apart A1 v.n o) ∧ Hid (A1 = A ∨ Fresh (gZ + 1) A1) ∧ V.Ok ∧ V.n = v.n ∧ V.xs = v.xs ∧ Hid ((grp V (us.drop k)).1 = F ∧ R ++ (grp V (us.drop k)).2 = G) ∧ Hid (Below w.heap.size w wr ∧ w.heap.size ≤ wr.heap.size)) (fun i _ _ => us.length - (intOf i).toNat)
  case atStart => exact ⟨0, v, A, c, [], by omega, rfl, rfl, HS, HZ, HX, HL, Lib.hid (World.ownsRow_nil _ (gZ + 1) 52 29), Lib.hid (fun a _ _ e => by cases e), Lib.hid (.inl rfl), hv, rfl, rfl, HFG, HB⟩
  case round =>
    clear HS HZ HX HL HB HFG
    obtain ⟨k, V, A1, c1, R, hk, rfl, hRk, HS, HZ, HX, HL, HO, HAP, HA1, kV, hVn, hVx, HF, HB⟩ := hrel
    have HF1 := Lib.hid (far HLA.out HA1.out)
    by_cases hlt : k < us.length
    · obtain ⟨u, hu⟩ : ∃ u, us[k]? = some u := ⟨_, List.getElem?_eq_getElem hlt⟩
      have hn0 : 0 < us.length := by omega
      obtain ⟨bL, oL, rfl, _, _⟩ := HL.out.2.2 hn0
      cases hbb : onB V u with
      | false =>
        have hF1 := HF.out.1
        have hF2 := HF.out.2
        rw [grp_no hu hbb] at hF1 hF2
        rw [List.append_nil] at hF2
        have HG1 := Lib.hid hF1
        have HG2 := Lib.hid hF2
        clear hF1 hF2
        go_wp2_with (first | (refine wlIdx rfl 30 _ _ rfl 50 23 Try.underlying30 sizeUop bL oL us.length kL k rfl rfl hlt ?_) | (refine partLoad rfl 50 _ rfl bL (oL + k * 23) rfl (HL.out.at_ hn0 (uops_get hu)) Try.underlying50 rfl infoUop ?_) | (refine wlAlloc rfl 50 rfl _ zeroUop ?_; intro gU w4 hgU hgU' hz hb; have HU := Lib.hid hz; have hZU : gZ < gU := Nat.lt_of_lt_of_le (Array.getElem?_eq_some_iff.1 HZ.out).1 hgU; have HXU : Hid (∀ a, A1 = some a → 0 < v.n → a.block < gU) := Lib.hid (fun a e1 e2 => Nat.lt_of_lt_of_le (HX.out.lt a e1 e2) hgU); have HOU : Hid (∀ j, u6.ownBlock = some j → j < gU) := Lib.hid (fun j e => Nat.lt_of_lt_of_le (HO.out.lt j e).2 hgU); replace HS := keepA HS hb; replace HZ := keepA HZ hb; replace HX := Lib.hid (HX.out.below hb); replace HL := Lib.hid (HL.out.below hb); replace HO := Lib.hid (ownk_below HO.out hb); replace HB := keepB HB hb; clear hz hb) | (refine rowStore rfl 50 _ _ rfl gU rfl (uA u) rfl HU.out infoUop rfl (uA_one _) ?_; intro w5 hz ho; replace HS := keepAo HS (by omega) ho; replace HZ := keepAo HZ (by omega) ho; replace HX := Lib.hid (HX.out.only2 ho (fun a e1 e2 => by have := HXU.out a e1 e2; omega)); replace HL := Lib.hid (HL.out.only2 ho (fun a e1 e2 => by have := HLL.out a e1 e2; omega)); replace HO := Lib.hid (ownk_only HO.out (fun j e => by have := HOU.out j e; omega) ho); replace HB := keepBo HB (by omega) ho; clear HU; have HU := Lib.hid hz; clear hz ho) | (refine rowLoad rfl 50 _ rfl gU rfl HU.out Try.underlying50 rfl infoUop ?_) | (refine rowLoad rfl 29 _ rfl gS rfl HS.out Try.underlying29 rfl (nm_szV kV _ _) ?_) | (go_at_call 16; refine (one_any V A1 c1 u _ (by rw [hVn, hVx]; exact HX.out) kV).mono ?_; (rintro e w6 ⟨A2, c2, rfl, hr, hA, hb⟩; rw [onV_n, onV_xs, hVn, hVx] at hr; rw [hbb]; have HAP2 := Lib.hid (HAP.out.next hA HO.out); have HA2 := Lib.hid (farStep HA1.out hA (show gZ + 1 ≤ _ from (Array.getElem?_eq_some_iff.1 HZ.out).1)); have HF2 := Lib.hid (far HLA.out HA2.out); replace HS := keepA HS hb; replace HZ := keepA HZ hb; replace HX := Lib.hid (HX.out.below hb); replace HL := Lib.hid (HL.out.below hb); replace HO := Lib.hid (ownk_below HO.out hb); replace HB := keepB HB hb; have HX2 := Lib.hid hr); replace HU := keepA HU hb; clear hr hA hb) | (refine wlAlloc rfl 29 rfl _ zeroNames ?_; intro gN w7 hgN hgN' hz hb; have HN := Lib.hid hz; have hUN : gU < gN := Nat.lt_of_lt_of_le (Array.getElem?_eq_some_iff.1 HU.out).1 hgN; have HXN : Hid (∀ a, A2 = some a → 0 < v.n → a.block < gN) := Lib.hid (fun a e1 e2 => Nat.lt_of_lt_of_le (HX2.out.lt a e1 e2) hgN); replace HS := keepA HS hb; replace HZ := keepA HZ hb; replace HX := Lib.hid (HX.out.below hb); replace HL := Lib.hid (HL.out.below hb); replace HO := Lib.hid (ownk_below HO.out hb); replace HB := keepB HB hb; replace HX2 := Lib.hid (HX2.out.below hb); clear hz hb) | (refine wlAlloc rfl 52 rfl _ zeroRen ?_; intro gR w8 hgR hgR' hz hb; have HR := Lib.hid hz; replace HN := keepA HN hb; replace HS := keepA HS hb; replace HZ := keepA HZ hb; replace HX := Lib.hid (HX.out.below hb); replace HL := Lib.hid (HL.out.below hb); replace HO := Lib.hid (ownk_below HO.out hb); replace HB := keepB HB hb; replace HX2 := Lib.hid (HX2.out.below hb); clear hz hb) | (refine rowStore rfl 29 _ _ rfl gN rfl (nmA (onV V u) A2 c2) rfl HN.out (nm_szV (onV_ok kV u) _ _) (zZ _ (onV_ok kV u) _ _) (nm_oneV _ _ _) ?_; intro w9 hz ho; replace HR := keepAo HR (by omega) ho; replace HS := keepAo HS (by omega) ho; replace HZ := keepAo HZ (by omega) ho; replace HX := Lib.hid (HX.out.only2 ho (fun a e1 e2 => by have := HXU.out a e1 e2; omega)); replace HL := Lib.hid (HL.out.only2 ho (fun a e1 e2 => by have := HLL.out a e1 e2; omega)); replace HO := Lib.hid (ownk_only HO.out (fun j e => by have := HOU.out j e; omega) ho); replace HB := keepBo HB (by omega) ho; replace HX2 := Lib.hid (HX2.out.only2 ho (fun a e1 e2 => by have := HXN.out a e1 e2; omega)); clear HN; have HN := Lib.hid hz; clear hz ho) | (refine rowStore rfl 52 _ _ rfl gR rfl (rA (onR V u)) rfl HR.out infoRen rfl (rA_one _) ?_; intro w10 hz ho; replace HN := keepAo HN (by omega) ho; replace HS := keepAo HS (by omega) ho; replace HZ := keepAo HZ (by omega) ho; replace HX := Lib.hid (HX.out.only2 ho (fun a e1 e2 => by have := HXU.out a e1 e2; omega)); replace HL := Lib.hid (HL.out.only2 ho (fun a e1 e2 => by have := HLL.out a e1 e2; omega)); replace HO := Lib.hid (ownk_only HO.out (fun j e => by have := HOU.out j e; omega) ho); replace HB := keepBo HB (by omega) ho; replace HX2 := Lib.hid (HX2.out.only2 ho (fun a e1 e2 => by have := HXN.out a e1 e2; omega)); clear HR; have HR := Lib.hid hz; clear hz ho) | (refine rowStore rfl 29 _ _ rfl gZ rfl (nmA V A1 c1) rfl HZ.out (nm_szV kV _ _) (zZ _ kV _ _) (nm_oneV _ _ _) ?_; intro w14 hz ho; replace HX := Lib.hid (HX.out.only2 ho (fun a e1 e2 => by have := HF1.out a e1 e2; omega)); replace HO := Lib.hid (ownk_only HO.out (fun j e => by have := (HO.out.lt j e).1; omega) ho); replace HB := keepBo HB (by omega) ho; clear HZ; have HZ := Lib.hid hz; clear hz ho))
        exact bodyPost_ret (res1c rfl _ _ gZ 29 (nmA V A1 c1) (0, 0) _ rfl HZ.out Try.underlying29 rfl (nm_szV kV _ _)) rfl (by obtain ⟨B, dd, hO, hRw, hFr, hlen⟩ := RwA.of_own (by omega) (rows_size R) HO.out; exact done_grp hO hRw hFr (by simpa using hlen) HX.out HA1.out hgZ0 HG1.out HG2.out hVn hVx HB.out.1)
      | true =>
        have HFN : Hid ((grp (onV V u) (us.drop (k + 1))).1 = F ∧ (R ++ [onR V u]) ++ (grp (onV V u) (us.drop (k + 1))).2 = G) := by
          have hF1 := HF.out.1
          have hF2 := HF.out.2
          rw [grp_yes hu hbb] at hF1 hF2
          exact Lib.hid ⟨hF1, by simpa using hF2⟩
        go_wp2_with (first | (refine wlIdx rfl 30 _ _ rfl 50 23 Try.underlying30 sizeUop bL oL us.length kL k rfl rfl hlt ?_) | (refine partLoad rfl 50 _ rfl bL (oL + k * 23) rfl (HL.out.at_ hn0 (uops_get hu)) Try.underlying50 rfl infoUop ?_) | (refine wlAlloc rfl 50 rfl _ zeroUop ?_; intro gU w4 hgU hgU' hz hb; have HU := Lib.hid hz; have hZU : gZ < gU := Nat.lt_of_lt_of_le (Array.getElem?_eq_some_iff.1 HZ.out).1 hgU; have HXU : Hid (∀ a, A1 = some a → 0 < v.n → a.block < gU) := Lib.hid (fun a e1 e2 => Nat.lt_of_lt_of_le (HX.out.lt a e1 e2) hgU); have HOU : Hid (∀ j, u6.ownBlock = some j → j < gU) := Lib.hid (fun j e => Nat.lt_of_lt_of_le (HO.out.lt j e).2 hgU); replace HS := keepA HS hb; replace HZ := keepA HZ hb; replace HX := Lib.hid (HX.out.below hb); replace HL := Lib.hid (HL.out.below hb); replace HO := Lib.hid (ownk_below HO.out hb); replace HB := keepB HB hb; clear hz hb) | (refine rowStore rfl 50 _ _ rfl gU rfl (uA u) rfl HU.out infoUop rfl (uA_one _) ?_; intro w5 hz ho; replace HS := keepAo HS (by omega) ho; replace HZ := keepAo HZ (by omega) ho; replace HX := Lib.hid (HX.out.only2 ho (fun a e1 e2 => by have := HXU.out a e1 e2; omega)); replace HL := Lib.hid (HL.out.only2 ho (fun a e1 e2 => by have := HLL.out a e1 e2; omega)); replace HO := Lib.hid (ownk_only HO.out (fun j e => by have := HOU.out j e; omega) ho); replace HB := keepBo HB (by omega) ho; clear HU; have HU := Lib.hid hz; clear hz ho) | (refine rowLoad rfl 50 _ rfl gU rfl HU.out Try.underlying50 rfl infoUop ?_) | (refine rowLoad rfl 29 _ rfl gS rfl HS.out Try.underlying29 rfl (nm_szV kV _ _) ?_) | (go_at_call 16; refine (one_any V A1 c1 u _ (by rw [hVn, hVx]; exact HX.out) kV).mono ?_; (rintro e w6 ⟨A2, c2, rfl, hr, hA, hb⟩; rw [onV_n, onV_xs, hVn, hVx] at hr; rw [hbb]; have HAP2 := Lib.hid (HAP.out.next hA HO.out); have HA2 := Lib.hid (farStep HA1.out hA (show gZ + 1 ≤ _ from (Array.getElem?_eq_some_iff.1 HZ.out).1)); have HF2 := Lib.hid (far HLA.out HA2.out); replace HS := keepA HS hb; replace HZ := keepA HZ hb; replace HX := Lib.hid (HX.out.below hb); replace HL := Lib.hid (HL.out.below hb); replace HO := Lib.hid (ownk_below HO.out hb); replace HB := keepB HB hb; have HX2 := Lib.hid hr); replace HU := keepA HU hb; clear hr hA hb) | (refine wlAlloc rfl 29 rfl _ zeroNames ?_; intro gN w7 hgN hgN' hz hb; have HN := Lib.hid hz; have hUN : gU < gN := Nat.lt_of_lt_of_le (Array.getElem?_eq_some_iff.1 HU.out).1 hgN; have HXN : Hid (∀ a, A2 = some a → 0 < v.n → a.block < gN) := Lib.hid (fun a e1 e2 => Nat.lt_of_lt_of_le (HX2.out.lt a e1 e2) hgN); replace HS := keepA HS hb; replace HZ := keepA HZ hb; replace HX := Lib.hid (HX.out.below hb); replace HL := Lib.hid (HL.out.below hb); replace HO := Lib.hid (ownk_below HO.out hb); replace HB := keepB HB hb; replace HX2 := Lib.hid (HX2.out.below hb); clear hz hb) | (refine wlAlloc rfl 52 rfl _ zeroRen ?_; intro gR w8 hgR hgR' hz hb; have HR := Lib.hid hz; replace HN := keepA HN hb; replace HS := keepA HS hb; replace HZ := keepA HZ hb; replace HX := Lib.hid (HX.out.below hb); replace HL := Lib.hid (HL.out.below hb); replace HO := Lib.hid (ownk_below HO.out hb); replace HB := keepB HB hb; replace HX2 := Lib.hid (HX2.out.below hb); clear hz hb) | (refine rowStore rfl 29 _ _ rfl gN rfl (nmA (onV V u) A2 c2) rfl HN.out (nm_szV (onV_ok kV u) _ _) (zZ _ (onV_ok kV u) _ _) (nm_oneV _ _ _) ?_; intro w9 hz ho; replace HR := keepAo HR (by omega) ho; replace HS := keepAo HS (by omega) ho; replace HZ := keepAo HZ (by omega) ho; replace HX := Lib.hid (HX.out.only2 ho (fun a e1 e2 => by have := HXU.out a e1 e2; omega)); replace HL := Lib.hid (HL.out.only2 ho (fun a e1 e2 => by have := HLL.out a e1 e2; omega)); replace HO := Lib.hid (ownk_only HO.out (fun j e => by have := HOU.out j e; omega) ho); replace HB := keepBo HB (by omega) ho; replace HX2 := Lib.hid (HX2.out.only2 ho (fun a e1 e2 => by have := HXN.out a e1 e2; omega)); clear HN; have HN := Lib.hid hz; clear hz ho) | (refine rowStore rfl 52 _ _ rfl gR rfl (rA (onR V u)) rfl HR.out infoRen rfl (rA_one _) ?_; intro w10 hz ho; replace HN := keepAo HN (by omega) ho; replace HS := keepAo HS (by omega) ho; replace HZ := keepAo HZ (by omega) ho; replace HX := Lib.hid (HX.out.only2 ho (fun a e1 e2 => by have := HXU.out a e1 e2; omega)); replace HL := Lib.hid (HL.out.only2 ho (fun a e1 e2 => by have := HLL.out a e1 e2; omega)); replace HO := Lib.hid (ownk_only HO.out (fun j e => by have := HOU.out j e; omega) ho); replace HB := keepBo HB (by omega) ho; replace HX2 := Lib.hid (HX2.out.only2 ho (fun a e1 e2 => by have := HXN.out a e1 e2; omega)); clear HR; have HR := Lib.hid hz; clear hz ho) | (refine rowLoad rfl 29 _ rfl gN rfl HN.out Try.underlying29 rfl (nm_szV (onV_ok kV u) _ _) ?_) | (refine rowStore rfl 29 _ _ rfl gS rfl (nmA (onV V u) A2 c2) rfl HS.out (nm_szV (onV_ok kV u) _ _) (nm_eqV kV (onV_ok kV u) _ _ _ _) (nm_oneV _ _ _) ?_; intro w11 hs ho; replace HR := keepAo HR (by omega) ho; replace HZ := keepAo HZ (by omega) ho; clear HX HN; replace HX2 := Lib.hid (HX2.out.only2 ho (fun a e1 e2 => by have := HF2.out a e1 e2; omega)); replace HL := Lib.hid (HL.out.only2 ho (fun a e1 e2 => by have := HLL.out a e1 e2; omega)); replace HO := Lib.hid (ownk_only HO.out (fun j e => by have := (HO.out.lt j e).1; omega) ho); replace HB := keepBo HB (by omega) ho; clear HS; have HS := Lib.hid hs; clear hs ho) | (refine rowLoad rfl 52 _ rfl gR rfl HR.out Try.underlying52 rfl infoRen ?_) | (refine wlLit rfl 33 1 _ rfl (rA (onR V u)) 52 (fun _ => by kernel_rfl) ?_; intro gL w12 hgL hgL' hz hb; have HT := Lib.hid hz; replace HS := keepA HS hb; replace HZ := keepA HZ hb; replace HX2 := Lib.hid (HX2.out.below hb); replace HL := Lib.hid (HL.out.below hb); replace HO := Lib.hid (ownk_below HO.out hb); replace HB := keepB HB hb; clear hz hb HR) | (refine appRow rfl _ _ 33 52 (.agg (rA rZ)) 29 216 rfl Try.underlying33 infoRenZ rfl (by omega) (gZ + 1) u6 k (rows R) rfl HO.out (rA (onR V u)) rfl (rA_one _) gL 1 rfl HT.out (by unfold maxLen; omega) (by omega) (Array.getElem?_eq_some_iff.1 HZ.out).1 ?_; intro O2 w13 ho2 hg hat; have HOB : Hid (∀ j, u6.ownBlock = some j → gZ + 1 ≤ j) := Lib.hid (fun j e => (HO.out.lt j e).1); have HAP3 := Lib.hid (HAP2.out.app HX2.out hat); replace HS := keepAw HS hg (fun e => by have := HOB.out gS e.symm; omega); replace HZ := keepAw HZ hg (fun e => by have := HOB.out gZ e.symm; omega); replace HX2 := Lib.hid (HX2.out.grown hg HAP2.out); replace HL := Lib.hid (HL.out.grown hg (fun a e1 e2 e3 => by have h1 := HLL.out a e1 e2; have h2 := HOB.out a.block e3.symm; omega)); replace HB := keepBw HB hg (fun j e => by have := HOB.out j e; omega); rw [rows_add] at ho2; clear HO; have HO := Lib.hid ho2; clear ho2 hg hat HT))
        go_roundw
        case rel => exact ⟨k + 1, onV V u, A2, c2, R ++ [onR V u], by omega, by go_num, by simp [hRk], HS, HZ, HX2, HL, HO, HAP3, HA2, onV_ok kV u, by rw [onV_n]; exact hVn, by rw [onV_xs]; exact hVx, HFN, HB⟩
        case measure => simp [intOf]; omega
    · obtain rfl : k = us.length := by omega
      have hF1 := HF.out.1
      have hF2 := HF.out.2
      rw [grp_nil (Nat.le_refl _)] at hF1 hF2
      rw [List.append_nil] at hF2
      have HG1 := Lib.hid hF1
      have HG2 := Lib.hid hF2
      clear hF1 hF2
      go_wp2_with (first | (refine rowLoad rfl 29 _ rfl gS rfl HS.out Try.underlying29 rfl (nm_szV kV _ _) ?_) | (refine rowStore rfl 29 _ _ rfl gZ rfl (nmA V A1 c1) rfl HZ.out (nm_szV kV _ _) (zZ _ kV _ _) (nm_oneV _ _ _) ?_; intro w14 hz ho; replace HX := Lib.hid (HX.out.only2 ho (fun a e1 e2 => by have := HF1.out a e1 e2; omega)); replace HO := Lib.hid (ownk_only HO.out (fun j e => by have := (HO.out.lt j e).1; omega) ho); replace HB := keepBo HB (by omega) ho; clear HZ; have HZ := Lib.hid hz; clear hz ho))
      exact bodyPost_ret (res1c rfl _ _ gZ 29 (nmA V A1 c1) (0, 0) _ rfl HZ.out Try.underlying29 rfl (nm_szV kV _ _)) rfl (by obtain ⟨B, dd, hO, hRw, hFr, hlen⟩ := RwA.of_own (by omega) (rows_size R) HO.out; exact done_grp hO hRw hFr (by simpa using hlen) HX.out HA1.out hgZ0 HG1.out HG2.out hVn hVx HB.out.1)
set_option maxRecDepth 100000 in
set_option maxHeartbeats 4000000 in
theorem rgroup_any (v : NmV) (A L : Option Addr) (c kL : Nat) (us : List UopV) (w : World) (hx : RdA .i64 w A v.n v.xs) (hv : v.Ok) (hl : RwA w L 23 us.length (us.map uA)) (hm : us.length ≤ 1000000) : Calls Try.prog 11 #[.agg (nmA v A c), .slice L us.length kL] w fun e w' => GrP w w' A (grp v us).1 (grp v us).2 e := by
  have HB := startB w
  have HX := Lib.hid hx
  have HL := Lib.hid hl
  have HLA := Lib.hid hx.lt
  have HLL := Lib.hid hl.lt
  clear hx hl
  obtain ⟨F, hF⟩ : ∃ F, (grp v us).1 = F := ⟨_, rfl⟩
  obtain ⟨G, hG⟩ : ∃ G, (grp v us).2 = G := ⟨_, rfl⟩
  rw [hF, hG]
  have HFG : Hid ((grp v (us.drop 0)).1 = F ∧ [] ++ (grp v (us.drop 0)).2 = G) := Lib.hid ⟨hF, hG⟩
  clear hF hG
  go_enter Try.func11, Try.ntmps11
  go_wp2_with (first | (refine wlBox rfl 29 _ rfl (nmA v A c) rfl ?_; intro gS w1 hgS hgS' hs hb; have HS := Lib.hid hs; replace HX := Lib.hid (HX.out.below hb); replace HL := Lib.hid (HL.out.below hb); replace HB := keepB HB hb; clear hs hb) | (refine wlAlloc rfl 29 rfl _ zeroNames ?_; intro gZ w3 hgZ hgZ' hz hb; have HZ := Lib.hid hz; replace HS := keepA HS hb; replace HX := Lib.hid (HX.out.below hb); replace HL := Lib.hid (HL.out.below hb); replace HB := keepB HB hb; clear hz hb) | (refine wlLit rfl 33 0 _ rfl #[] 52 (fun _ => by kernel_rfl) ?_; intro gM w4 hgM hgM' hz hb; have HM := Lib.hid hz; replace HS := keepA HS hb; replace HZ := keepA HZ hb; replace HX := Lib.hid (HX.out.below hb); replace HL := Lib.hid (HL.out.below hb); replace HB := keepB HB hb; clear hz hb))
  have hgZ0 : w.heap.size ≤ gZ := by omega
  have hgM0 : gZ + 1 ≤ gM := by omega
  have HO : Hid (World.ownsRow _ (gZ + 1) 52 29 (.slice (some ⟨gM, 0, none⟩) 0 0) 0 (rows [])) := Lib.hid ⟨rfl, .inr ⟨gM, 0, #[], rfl, hgM0, HM.out, Nat.le_refl _, Nat.zero_le _, rfl, rfl⟩⟩
  have HAP : Hid (Apart A v.n (.slice (some ⟨gM, 0, none⟩) 0 0)) := Lib.hid (fun a e1 e2 e3 => by have := HLA.out a e1 e2; injection e3 with e3; simp only at e3; omega)
  clear HM
  go_loopg [7, 6] us.length (fun gk i o wr => ∃ (k : Nat) (V : NmV) (A1 : Option Addr) (c1 : Nat) (R : List RenV), k + gk = us.length ∧ i = .int .i64 k ∧ R.length = k ∧ Hid (wr.heap[gS]? = some (.cells (nmA V A1 c1) 29 (0, 0))) ∧ Hid (wr.heap[gZ]? = some (.cells (nm zeros16 zeros16 (.slice none 0 0) 0 0 0) 29 (0, 0))) ∧ Hid (RdA .i64 wr A1 v.n v.xs) ∧ Hid (RwA wr L 23 us.length (us.map uA)) ∧ Hid (wr.ownsRow (gZ + 1) 52 29 o k (rows R)) ∧ Hid (Apart A1 v.n o) ∧ Hid (A1 = A ∨ Fresh (gZ + 1) A1) ∧ V.Ok ∧ V.n = v.n ∧ V.xs = v.xs ∧ Hid ((grp V (us.drop k)).1 = F ∧ R ++ (grp V (us.drop k)).2 = G) ∧ Hid (Below w.heap.size w wr ∧ w.heap.size ≤ wr.heap.size))
  case atStart => exact ⟨0, v, A, c, [], by omega, rfl, rfl, HS, HZ, HX, HL, HO, HAP, Lib.hid (.inl rfl), hv, rfl, rfl, HFG, HB⟩
  case round =>
    clear HS HZ HX HL HB HO HAP HFG
    obtain ⟨k, V, A1, c1, R, hk, rfl, hRk, HS, HZ, HX, HL, HO, HAP, HA1, kV, hVn, hVx, HF, HB⟩ := hrel
    have HF1 := Lib.hid (far HLA.out HA1.out)
    by_cases hlt : k < us.length
    · obtain ⟨u, hu⟩ : ∃ u, us[k]? = some u := ⟨_, List.getElem?_eq_getElem hlt⟩
      have hn0 : 0 < us.length := by omega
      obtain ⟨bL, oL, rfl, _, _⟩ := HL.out.2.2 hn0
      obtain ⟨T, hT⟩ : ∃ T, wr.heap.size = T := ⟨_, rfl⟩
      have hZT : gZ < T := by rw [← hT]; exact (Array.getElem?_eq_some_iff.1 HZ.out).1
      have HXT : Hid (∀ a, A1 = some a → 0 < v.n → a.block < T) := Lib.hid (by rw [← hT]; exact HX.out.lt)
      have HOT : Hid (∀ j, u6.ownBlock = some j → j < T) := Lib.hid (by rw [← hT]; exact fun j e => (HO.out.lt j e).2)
      have HT0 := Lib.hid hT
      clear hT
      obtain ⟨bb, hbb⟩ : ∃ b, onB V u = b := ⟨_, rfl⟩
      go_upto_region 5 with fail
      go_cut [8, 9, 10] from 12 to 36 (fun t8 t9 t10 wx => ∃ (gN gR : Nat) (A2 : Option Addr) (c2 : Nat), t8 = .pointer (some ⟨gN, 0, none⟩) ∧ t9 = .pointer (some ⟨gR, 0, none⟩) ∧ t10 = .bool bb ∧ T ≤ gN ∧ T ≤ gR ∧ gN ≠ gR ∧ Hid (wx.heap[gN]? = some (.cells (nmA (onV V u) A2 c2) 29 (0, 0))) ∧ Hid (wx.heap[gR]? = some (.cells (rA (onR V u)) 52 (0, 0))) ∧ Hid (wx.heap[gS]? = some (.cells (nmA V A1 c1) 29 (0, 0))) ∧ Hid (wx.heap[gZ]? = some (.cells (nm zeros16 zeros16 (.slice none 0 0) 0 0 0) 29 (0, 0))) ∧ Hid (RdA .i64 wx A1 v.n v.xs) ∧ Hid (RdA .i64 wx A2 v.n v.xs) ∧ Hid (RwA wx (some ⟨bL, oL, none⟩) 23 us.length (us.map uA)) ∧ Hid (wx.ownsRow (gZ + 1) 52 29 u6 k (rows R)) ∧ Hid (Apart A2 v.n u6) ∧ Hid (A2 = A ∨ Fresh (gZ + 1) A2) ∧ Hid (Below w.heap.size w wx ∧ w.heap.size ≤ wx.heap.size))
      case first =>
        have HBR : Hid (Below T wr.drew wr.drew ∧ T ≤ wr.drew.heap.size) := Lib.hid (by rw [← HT0.out]; exact startB wr.drew)
        replace HS := keepA1 HS
        replace HZ := keepA1 HZ
        replace HX := Lib.hid (HX.out.drew 1)
        replace HL := Lib.hid (HL.out.drew 1)
        replace HO := Lib.hid (ownk_drew HO.out 1)
        replace HB := keepB1 HB
        refine rgStart (S := (fun w' => w'.heap[gS]? = some (.cells (nmA V A1 c1) 29 (0, 0)) ∧ w'.rangeAt bL (oL + k * 23) (uA u).toList)) (n := 15) #[false, false, false, false, false, false, false, false, false, false, false, false, false, false, false] (by kernel_rfl) rfl rfl ⟨HS.out, HL.out.at_ hn0 (uops_get hu)⟩ (fun hHeld => ?_)
        refine rgTake (i := 0) (N := some 19) (oi := { dst := some 19, op := Op.load 29 (Operand.tmp 2), type := 29, pos := "ref.go:42", after := #[], guard := none }) (v := _) #[true, false, false, false, false, false, false, false, false, false, false, false, false, false, false] rfl rfl (by kernel_rfl) (fun _ _ _ h => h) (by first | exact yieldsRow (by rfl) _ _ rfl _ rfl (fun _ h => h.1) Try.underlying29 rfl (nm_szV kV _ _) | exact yieldsMid (by rfl) _ _ rfl bL (oL + k * 23) rfl (uA u) (fun _ h => h.2) Try.underlying50 rfl infoUop) hHeld ?_
        simp only [Act.put, List.setIfInBounds_toArray, List.set_cons_zero, List.set_cons_succ]
        refine rgTake (i := 1) (N := some 20) (oi := { dst := some 20, op := Op.move (Operand.tmp 1), type := 30, pos := "ref.go:42", after := #[], guard := none }) (v := ?_) #[true, true, false, false, false, false, false, false, false, false, false, false, false, false, false] rfl rfl (by kernel_rfl) (fun _ _ _ h => h) (Or.inl ⟨by rfl, ?_⟩) hHeld ?_
        rotate_left
        · intro w' hSw; (try dsimp only at hSw); skip; go_simp; try with_reducible rfl
        simp only [Act.put, List.setIfInBounds_toArray, List.set_cons_zero, List.set_cons_succ]
        refine rgTake (i := 2) (N := some 21) (oi := { dst := some 21, op := Op.move (Operand.tmp 7), type := 3, pos := "ref.go:42", after := #[], guard := none }) (v := ?_) #[true, true, true, false, false, false, false, false, false, false, false, false, false, false, false] rfl rfl (by kernel_rfl) (fun _ _ _ h => h) (Or.inl ⟨by rfl, ?_⟩) hHeld ?_
        rotate_left
        · intro w' hSw; (try dsimp only at hSw); skip; go_simp; try with_reducible rfl
        simp only [Act.put, List.setIfInBounds_toArray, List.set_cons_zero, List.set_cons_succ]
        refine rgTake (i := 3) (N := some 22) (oi := { dst := some 22, op := Op.indexAddr 30 (Operand.tmp 20) (Operand.tmp 21), type := 0, pos := "ref.go:42", after := #[{ on := 1, ground := Ground.data }, { on := 2, ground := Ground.data }], guard := none }) (v := _) #[true, true, true, true, false, false, false, false, false, false, false, false, false, false, false] rfl rfl (by kernel_rfl) (fun _ _ _ h => h) (yieldsIdx (by rfl) 30 _ _ rfl 50 23 Try.underlying30 sizeUop bL oL us.length kL k rfl rfl hlt) hHeld ?_
        simp only [Act.put, List.setIfInBounds_toArray, List.set_cons_zero, List.set_cons_succ]
        refine rgTake (i := 4) (N := some 23) (oi := { dst := some 23, op := Op.load 50 (Operand.tmp 22), type := 50, pos := "ref.go:42", after := #[{ on := 3, ground := Ground.data }], guard := none }) (v := _) #[true, true, true, true, true, false, false, false, false, false, false, false, false, false, false] rfl rfl (by kernel_rfl) (fun _ _ _ h => h) (by first | exact yieldsRow (by rfl) _ _ rfl _ rfl (fun _ h => h.1) Try.underlying29 rfl (nm_szV kV _ _) | exact yieldsMid (by rfl) _ _ rfl bL (oL + k * 23) rfl (uA u) (fun _ h => h.2) Try.underlying50 rfl infoUop) hHeld ?_
        simp only [Act.put, List.setIfInBounds_toArray, List.set_cons_zero, List.set_cons_succ]
        refine rgThree (i := 5) (j := 10) (k := 11) (Ni := some 24) (Nj := some 8) (Nk := some 9) (oi := { dst := some 24, op := Op.call { callee := Callee.value (Operand.func 17), args := #[Operand.tmp 19, Operand.tmp 23], argTypes := #[29, 50] }, type := 53, pos := "ref.go:42", after := #[{ on := 0, ground := Ground.data }, { on := 4, ground := Ground.data }], guard := none }) (oj := { dst := some 8, op := Op.alloc 29, type := 0, pos := "ref.go:42", after := #[], guard := none }) (ok := { dst := some 9, op := Op.alloc 52, type := 0, pos := "ref.go:42", after := #[], guard := none }) #[true, true, true, true, true, true, false, false, false, false, false, false, false, false, false] #[true, true, true, true, true, false, false, false, false, false, true, false, false, false, false] #[true, true, true, true, true, false, false, false, false, false, false, true, false, false, false] rfl rfl rfl rfl rfl rfl (by kernel_rfl) (fun K hK => ?_) (fun K hK => ?_) (fun K hK => ?_)
        · go_simp
          (go_at_call 17; refine (rone_any V A1 c1 u _ (by rw [hVn, hVx]; exact HX.out) kV).mono ?_; rintro e w6 ⟨A2, c2, rfl, hr, hA, hb⟩; rw [onV_n, onV_xs, hVn, hVx] at hr; rw [hbb]; have HAP2 := Lib.hid (HAP.out.next hA HO.out); have HA2 := Lib.hid (farStep HA1.out hA (show gZ + 1 ≤ _ from (Array.getElem?_eq_some_iff.1 HZ.out).1)); (try have HXN := Lib.hid (neOf HXT.out hA hTN (Array.getElem?_eq_some_iff.1 HN.out).1)); (try have HXR := Lib.hid (neOf HXT.out hA hTR (Array.getElem?_eq_some_iff.1 HR.out).1)); replace HS := keepA HS hb; replace HZ := keepA HZ hb; replace HX := Lib.hid (HX.out.below hb); replace HL := Lib.hid (HL.out.below hb); replace HO := Lib.hid (ownk_below HO.out hb); replace HB := keepB HB hb; replace HBR := keepB HBR hb; (try replace HN := keepA HN hb); (try replace HR := keepA HR hb); (try replace HX2 := Lib.hid (HX2.out.below hb)); have HX2 := Lib.hid hr; clear hr hA)
          refine hK.out _ _ ⟨HS.out, HL.out.at_ hn0 (uops_get hu)⟩ (fun hHeld => ?_)
          (try simp only [Act.put, List.setIfInBounds_toArray, List.set_cons_zero, List.set_cons_succ])
          clear hK K
          refine rgTake (i := 6) (N := some 18) (oi := { dst := some 18, op := Op.move (Operand.tmp 24), type := 53, pos := "ref.go:42", after := #[{ on := 5, ground := Ground.data }], guard := none }) (v := ?_) #[true, true, true, true, true, true, true, false, false, false, false, false, false, false, false] rfl rfl (by kernel_rfl) (fun _ _ _ h => h) (Or.inl ⟨by rfl, ?_⟩) hHeld ?_
          rotate_left
          · intro w' hSw; (try dsimp only at hSw); skip; go_simp; try with_reducible rfl
          simp only [Act.put, List.setIfInBounds_toArray, List.set_cons_zero, List.set_cons_succ]
          refine rgTake (i := 7) (N := some 25) (oi := { dst := some 25, op := Op.extract (Operand.tmp 18) 0, type := 29, pos := "ref.go:42", after := #[{ on := 6, ground := Ground.data }], guard := none }) (v := ?_) #[true, true, true, true, true, true, true, true, false, false, false, false, false, false, false] rfl rfl (by kernel_rfl) (fun _ _ _ h => h) (Or.inl ⟨by rfl, ?_⟩) hHeld ?_
          rotate_left
          · intro w' hSw; (try dsimp only at hSw); skip; go_simp; try with_reducible rfl
          simp only [Act.put, List.setIfInBounds_toArray, List.set_cons_zero, List.set_cons_succ]
          refine rgTake (i := 8) (N := some 26) (oi := { dst := some 26, op := Op.extract (Operand.tmp 18) 1, type := 52, pos := "ref.go:42", after := #[{ on := 6, ground := Ground.data }, { on := 12, ground := Ground.gcOnly Departure.lateStores }], guard := none }) (v := ?_) #[true, true, true, true, true, true, true, true, true, false, false, false, false, false, false] rfl rfl (by kernel_rfl) (fun _ _ _ h => h) (Or.inl ⟨by rfl, ?_⟩) hHeld ?_
          rotate_left
          · intro w' hSw; (try dsimp only at hSw); skip; go_simp; try with_reducible rfl
          simp only [Act.put, List.setIfInBounds_toArray, List.set_cons_zero, List.set_cons_succ]
          refine rgTake (i := 9) (N := some 27) (oi := { dst := some 27, op := Op.extract (Operand.tmp 18) 2, type := 4, pos := "ref.go:42", after := #[{ on := 6, ground := Ground.data }, { on := 13, ground := Ground.gcOnly Departure.lateStores }], guard := none }) (v := ?_) #[true, true, true, true, true, true, true, true, true, true, false, false, false, false, false] rfl rfl (by kernel_rfl) (fun _ _ _ h => h) (Or.inl ⟨by rfl, ?_⟩) hHeld ?_
          rotate_left
          · intro w' hSw; (try dsimp only at hSw); skip; go_simp; try with_reducible rfl
          simp only [Act.put, List.setIfInBounds_toArray, List.set_cons_zero, List.set_cons_succ]
          refine rgTwo (i := 10) (j := 11) (Ni := some 8) (Nj := some 9) (oi := { dst := some 8, op := Op.alloc 29, type := 0, pos := "ref.go:42", after := #[], guard := none }) (oj := { dst := some 9, op := Op.alloc 52, type := 0, pos := "ref.go:42", after := #[], guard := none }) #[true, true, true, true, true, true, true, true, true, true, true, false, false, false, false] #[true, true, true, true, true, true, true, true, true, true, false, true, false, false, false] rfl rfl rfl rfl (by kernel_rfl) (fun K hK => ?_) (fun K hK => ?_)
          · (refine rgAlloc (.cells (nm zeros16 zeros16 (.slice none 0 0) 0 0 0) 29) (by kernel_rfl) (by rfl) ?_; intro gN w7 hgN hgN' hz hb; have hTN : T ≤ gN := Nat.le_trans HBR.out.2 hgN; (try have HXN := Lib.hid (fun a (e1 : A2 = some a) (e2 : 0 < v.n) => Nat.ne_of_lt (Nat.lt_of_lt_of_le (HX2.out.lt a e1 e2) hgN))); (try have hNR : gN ≠ gR := Nat.ne_of_gt (Nat.lt_of_lt_of_le (Array.getElem?_eq_some_iff.1 HR.out).1 hgN)); replace HS := keepA HS hb; replace HZ := keepA HZ hb; replace HX := Lib.hid (HX.out.below hb); replace HL := Lib.hid (HL.out.below hb); replace HO := Lib.hid (ownk_below HO.out hb); replace HB := keepB HB hb; replace HBR := keepB HBR hb; (try replace HN := keepA HN hb); (try replace HR := keepA HR hb); (try replace HX2 := Lib.hid (HX2.out.below hb)); have HN := Lib.hid hz; clear hz)
            refine hK.out _ _ ⟨HS.out, HL.out.at_ hn0 (uops_get hu)⟩ (fun hHeld => ?_)
            (try simp only [Act.put, List.setIfInBounds_toArray, List.set_cons_zero, List.set_cons_succ])
            clear hK K
            refine rgCall (i := 11) (N := some 9) (oi := { dst := some 9, op := Op.alloc 52, type := 0, pos := "ref.go:42", after := #[], guard := none }) #[true, true, true, true, true, true, true, true, true, true, true, true, false, false, false] rfl rfl (by kernel_rfl) (fun K hK => ?_)
            (refine rgAlloc (.cells (rA rZ) 52) (by kernel_rfl) (by rfl) ?_; intro gR w8 hgR hgR' hz hb; have hTR : T ≤ gR := Nat.le_trans HBR.out.2 hgR; (try have HXR := Lib.hid (fun a (e1 : A2 = some a) (e2 : 0 < v.n) => Nat.ne_of_lt (Nat.lt_of_lt_of_le (HX2.out.lt a e1 e2) hgR))); (try have hNR : gN ≠ gR := Nat.ne_of_lt (Nat.lt_of_lt_of_le (Array.getElem?_eq_some_iff.1 HN.out).1 hgR)); replace HS := keepA HS hb; replace HZ := keepA HZ hb; replace HX := Lib.hid (HX.out.below hb); replace HL := Lib.hid (HL.out.below hb); replace HO := Lib.hid (ownk_below HO.out hb); replace HB := keepB HB hb; replace HBR := keepB HBR hb; (try replace HN := keepA HN hb); (try replace HR := keepA HR hb); (try replace HX2 := Lib.hid (HX2.out.below hb)); have HR := Lib.hid hz; clear hz)
            refine hK.out _ _ ⟨HS.out, HL.out.at_ hn0 (uops_get hu)⟩ (fun hHeld => ?_)
            (try simp only [Act.put, List.setIfInBounds_toArray, List.set_cons_zero, List.set_cons_succ])
            clear hK K
            refine rgCall (i := 12) (N := none) (oi := { dst := none, op := Op.store 29 (Operand.tmp 8) (Operand.tmp 25), type := 0, pos := "ref.go:42", after := #[{ on := 10, ground := Ground.data }, { on := 7, ground := Ground.data }, { on := 5, ground := Ground.chain }, { on := 0, ground := Ground.phase }, { on := 1, ground := Ground.phase }, { on := 2, ground := Ground.phase }, { on := 3, ground := Ground.phase }, { on := 4, ground := Ground.phase }, { on := 5, ground := Ground.phase }, { on := 6, ground := Ground.phase }, { on := 7, ground := Ground.phase }, { on := 8, ground := Ground.textOnly Departure.lateStores }, { on := 9, ground := Ground.textOnly Departure.lateStores }, { on := 10, ground := Ground.phase }, { on := 11, ground := Ground.phase }], guard := none }) #[true, true, true, true, true, true, true, true, true, true, true, true, true, false, false] rfl rfl (by kernel_rfl) (fun K hK => ?_)
            (refine rgStore (by rfl) 29 _ _ rfl gN rfl (nmA (onV V u) A2 c2) rfl HN.out (nm_szV (onV_ok kV u) _ _) (zZ _ (onV_ok kV u) _ _) (nm_oneV _ _ _) ?_; intro w9 hz ho; replace HR := keepAo HR (by omega) ho; replace HS := keepAo HS (by omega) ho; replace HZ := keepAo HZ (by omega) ho; replace HX := Lib.hid (HX.out.only2 ho (fun a e1 e2 => by have := HXT.out a e1 e2; omega)); replace HL := Lib.hid (HL.out.only2 ho (fun a e1 e2 => by have := HLL.out a e1 e2; omega)); replace HO := Lib.hid (ownk_only HO.out (fun j e => by have := HOT.out j e; omega) ho); replace HB := keepBo HB (by omega) ho; replace HBR := keepBo HBR (by omega) ho; replace HX2 := Lib.hid (HX2.out.only2 ho HXN.out); clear HN; have HN := Lib.hid hz; clear hz ho)
            refine hK.out _ _ ⟨HS.out, HL.out.at_ hn0 (uops_get hu)⟩ (fun hHeld => ?_)
            clear hK K
            refine rgCall (i := 13) (N := none) (oi := { dst := none, op := Op.store 52 (Operand.tmp 9) (Operand.tmp 26), type := 0, pos := "ref.go:42", after := #[{ on := 11, ground := Ground.data }, { on := 8, ground := Ground.data }, { on := 12, ground := Ground.chain }, { on := 0, ground := Ground.phase }, { on := 1, ground := Ground.phase }, { on := 2, ground := Ground.phase }, { on := 3, ground := Ground.phase }, { on := 4, ground := Ground.phase }, { on := 5, ground := Ground.phase }, { on := 6, ground := Ground.phase }, { on := 7, ground := Ground.phase }, { on := 8, ground := Ground.phase }, { on := 9, ground := Ground.textOnly Departure.lateStores }, { on := 10, ground := Ground.phase }, { on := 11, ground := Ground.phase }, { on := 12, ground := Ground.phase }], guard := none }) #[true, true, true, true, true, true, true, true, true, true, true, true, true, true, false] rfl rfl (by kernel_rfl) (fun K hK => ?_)
            (refine rgStore (by rfl) 52 _ _ rfl gR rfl (rA (onR V u)) rfl HR.out infoRen rfl (rA_one _) ?_; intro w10 hz ho; replace HN := keepAo HN (by omega) ho; replace HS := keepAo HS (by omega) ho; replace HZ := keepAo HZ (by omega) ho; replace HX := Lib.hid (HX.out.only2 ho (fun a e1 e2 => by have := HXT.out a e1 e2; omega)); replace HL := Lib.hid (HL.out.only2 ho (fun a e1 e2 => by have := HLL.out a e1 e2; omega)); replace HO := Lib.hid (ownk_only HO.out (fun j e => by have := HOT.out j e; omega) ho); replace HB := keepBo HB (by omega) ho; replace HBR := keepBo HBR (by omega) ho; replace HX2 := Lib.hid (HX2.out.only2 ho HXR.out); clear HR; have HR := Lib.hid hz; clear hz ho)
            refine hK.out _ _ ⟨HS.out, HL.out.at_ hn0 (uops_get hu)⟩ (fun hHeld => ?_)
            clear hK K
            refine rgTake (i := 14) (N := some 10) (oi := { dst := some 10, op := Op.assign (Operand.tmp 27), type := 4, pos := "ref.go:42", after := #[{ on := 9, ground := Ground.data }, { on := 13, ground := Ground.chain }, { on := 0, ground := Ground.phase }, { on := 1, ground := Ground.phase }, { on := 2, ground := Ground.phase }, { on := 3, ground := Ground.phase }, { on := 4, ground := Ground.phase }, { on := 5, ground := Ground.phase }, { on := 6, ground := Ground.phase }, { on := 7, ground := Ground.phase }, { on := 8, ground := Ground.phase }, { on := 9, ground := Ground.phase }, { on := 10, ground := Ground.phase }, { on := 11, ground := Ground.phase }, { on := 12, ground := Ground.phase }, { on := 13, ground := Ground.phase }], guard := none }) (v := ?_) #[true, true, true, true, true, true, true, true, true, true, true, true, true, true, true] rfl rfl (by kernel_rfl) (fun _ _ _ h => h) (Or.inl ⟨by rfl, ?_⟩) hHeld ?_
            rotate_left
            · intro w' hSw; (try dsimp only at hSw); skip; go_simp; try with_reducible rfl
            simp only [Act.put, List.setIfInBounds_toArray, List.set_cons_zero, List.set_cons_succ]
            refine rgDone (by kernel_rfl) ?_ _
            (go_wp2_with fail; go_meet; exact ⟨gN, gR, A2, c2, rfl, rfl, rfl, hTN, hTR, hNR, HN, HR, HS, HZ, HX, HX2, HL, HO, HAP2, HA2, HB⟩)
          · (refine rgAlloc (.cells (rA rZ) 52) (by kernel_rfl) (by rfl) ?_; intro gR w8 hgR hgR' hz hb; have hTR : T ≤ gR := Nat.le_trans HBR.out.2 hgR; (try have HXR := Lib.hid (fun a (e1 : A2 = some a) (e2 : 0 < v.n) => Nat.ne_of_lt (Nat.lt_of_lt_of_le (HX2.out.lt a e1 e2) hgR))); (try have hNR : gN ≠ gR := Nat.ne_of_lt (Nat.lt_of_lt_of_le (Array.getElem?_eq_some_iff.1 HN.out).1 hgR)); replace HS := keepA HS hb; replace HZ := keepA HZ hb; replace HX := Lib.hid (HX.out.below hb); replace HL := Lib.hid (HL.out.below hb); replace HO := Lib.hid (ownk_below HO.out hb); replace HB := keepB HB hb; replace HBR := keepB HBR hb; (try replace HN := keepA HN hb); (try replace HR := keepA HR hb); (try replace HX2 := Lib.hid (HX2.out.below hb)); have HR := Lib.hid hz; clear hz)
            refine hK.out _ _ ⟨HS.out, HL.out.at_ hn0 (uops_get hu)⟩ (fun hHeld => ?_)
            (try simp only [Act.put, List.setIfInBounds_toArray, List.set_cons_zero, List.set_cons_succ])
            clear hK K
            refine rgCall (i := 10) (N := some 8) (oi := { dst := some 8, op := Op.alloc 29, type := 0, pos := "ref.go:42", after := #[], guard := none }) #[true, true, true, true, true, true, true, true, true, true, true, true, false, false, false] rfl rfl (by kernel_rfl) (fun K hK => ?_)
            (refine rgAlloc (.cells (nm zeros16 zeros16 (.slice none 0 0) 0 0 0) 29) (by kernel_rfl) (by rfl) ?_; intro gN w7 hgN hgN' hz hb; have hTN : T ≤ gN := Nat.le_trans HBR.out.2 hgN; (try have HXN := Lib.hid (fun a (e1 : A2 = some a) (e2 : 0 < v.n) => Nat.ne_of_lt (Nat.lt_of_lt_of_le (HX2.out.lt a e1 e2) hgN))); (try have hNR : gN ≠ gR := Nat.ne_of_gt (Nat.lt_of_lt_of_le (Array.getElem?_eq_some_iff.1 HR.out).1 hgN)); replace HS := keepA HS hb; replace HZ := keepA HZ hb; replace HX := Lib.hid (HX.out.below hb); replace HL := Lib.hid (HL.out.below hb); replace HO := Lib.hid (ownk_below HO.out hb); replace HB := keepB HB hb; replace HBR := keepB HBR hb; (try replace HN := keepA HN hb); (try replace HR := keepA HR hb); (try replace HX2 := Lib.hid (HX2.out.below hb)); have HN := Lib.hid hz; clear hz)
            refine hK.out _ _ ⟨HS.out, HL.out.at_ hn0 (uops_get hu)⟩ (fun hHeld => ?_)
            (try simp only [Act.put, List.setIfInBounds_toArray, List.set_cons_zero, List.set_cons_succ])
            clear hK K
            refine rgCall (i := 12) (N := none) (oi := { dst := none, op := Op.store 29 (Operand.tmp 8) (Operand.tmp 25), type := 0, pos := "ref.go:42", after := #[{ on := 10, ground := Ground.data }, { on := 7, ground := Ground.data }, { on := 5, ground := Ground.chain }, { on := 0, ground := Ground.phase }, { on := 1, ground := Ground.phase }, { on := 2, ground := Ground.phase }, { on := 3, ground := Ground.phase }, { on := 4, ground := Ground.phase }, { on := 5, ground := Ground.phase }, { on := 6, ground := Ground.phase }, { on := 7, ground := Ground.phase }, { on := 8, ground := Ground.textOnly Departure.lateStores }, { on := 9, ground := Ground.textOnly Departure.lateStores }, { on := 10, ground := Ground.phase }, { on := 11, ground := Ground.phase }], guard := none }) #[true, true, true, true, true, true, true, true, true, true, true, true, true, false, false] rfl rfl (by kernel_rfl) (fun K hK => ?_)
            (refine rgStore (by rfl) 29 _ _ rfl gN rfl (nmA (onV V u) A2 c2) rfl HN.out (nm_szV (onV_ok kV u) _ _) (zZ _ (onV_ok kV u) _ _) (nm_oneV _ _ _) ?_; intro w9 hz ho; replace HR := keepAo HR (by omega) ho; replace HS := keepAo HS (by omega) ho; replace HZ := keepAo HZ (by omega) ho; replace HX := Lib.hid (HX.out.only2 ho (fun a e1 e2 => by have := HXT.out a e1 e2; omega)); replace HL := Lib.hid (HL.out.only2 ho (fun a e1 e2 => by have := HLL.out a e1 e2; omega)); replace HO := Lib.hid (ownk_only HO.out (fun j e => by have := HOT.out j e; omega) ho); replace HB := keepBo HB (by omega) ho; replace HBR := keepBo HBR (by omega) ho; replace HX2 := Lib.hid (HX2.out.only2 ho HXN.out); clear HN; have HN := Lib.hid hz; clear hz ho)
            refine hK.out _ _ ⟨HS.out, HL.out.at_ hn0 (uops_get hu)⟩ (fun hHeld => ?_)
            clear hK K
            refine rgCall (i := 13) (N := none) (oi := { dst := none, op := Op.store 52 (Operand.tmp 9) (Operand.tmp 26), type := 0, pos := "ref.go:42", after := #[{ on := 11, ground := Ground.data }, { on := 8, ground := Ground.data }, { on := 12, ground := Ground.chain }, { on := 0, ground := Ground.phase }, { on := 1, ground := Ground.phase }, { on := 2, ground := Ground.phase }, { on := 3, ground := Ground.phase }, { on := 4, ground := Ground.phase }, { on := 5, ground := Ground.phase }, { on := 6, ground := Ground.phase }, { on := 7, ground := Ground.phase }, { on := 8, ground := Ground.phase }, { on := 9, ground := Ground.textOnly Departure.lateStores }, { on := 10, ground := Ground.phase }, { on := 11, ground := Ground.phase }, { on := 12, ground := Ground.phase }], guard := none }) #[true, true, true, true, true, true, true, true, true, true, true, true, true, true, false] rfl rfl (by kernel_rfl) (fun K hK => ?_)
            (refine rgStore (by rfl) 52 _ _ rfl gR rfl (rA (onR V u)) rfl HR.out infoRen rfl (rA_one _) ?_; intro w10 hz ho; replace HN := keepAo HN (by omega) ho; replace HS := keepAo HS (by omega) ho; replace HZ := keepAo HZ (by omega) ho; replace HX := Lib.hid (HX.out.only2 ho (fun a e1 e2 => by have := HXT.out a e1 e2; omega)); replace HL := Lib.hid (HL.out.only2 ho (fun a e1 e2 => by have := HLL.out a e1 e2; omega)); replace HO := Lib.hid (ownk_only HO.out (fun j e => by have := HOT.out j e; omega) ho); replace HB := keepBo HB (by omega) ho; replace HBR := keepBo HBR (by omega) ho; replace HX2 := Lib.hid (HX2.out.only2 ho HXR.out); clear HR; have HR := Lib.hid hz; clear hz ho)
            refine hK.out _ _ ⟨HS.out, HL.out.at_ hn0 (uops_get hu)⟩ (fun hHeld => ?_)
            clear hK K
            refine rgTake (i := 14) (N := some 10) (oi := { dst := some 10, op := Op.assign (Operand.tmp 27), type := 4, pos := "ref.go:42", after := #[{ on := 9, ground := Ground.data }, { on := 13, ground := Ground.chain }, { on := 0, ground := Ground.phase }, { on := 1, ground := Ground.phase }, { on := 2, ground := Ground.phase }, { on := 3, ground := Ground.phase }, { on := 4, ground := Ground.phase }, { on := 5, ground := Ground.phase }, { on := 6, ground := Ground.phase }, { on := 7, ground := Ground.phase }, { on := 8, ground := Ground.phase }, { on := 9, ground := Ground.phase }, { on := 10, ground := Ground.phase }, { on := 11, ground := Ground.phase }, { on := 12, ground := Ground.phase }, { on := 13, ground := Ground.phase }], guard := none }) (v := ?_) #[true, true, true, true, true, true, true, true, true, true, true, true, true, true, true] rfl rfl (by kernel_rfl) (fun _ _ _ h => h) (Or.inl ⟨by rfl, ?_⟩) hHeld ?_
            rotate_left
            · intro w' hSw; (try dsimp only at hSw); skip; go_simp; try with_reducible rfl
            simp only [Act.put, List.setIfInBounds_toArray, List.set_cons_zero, List.set_cons_succ]
            refine rgDone (by kernel_rfl) ?_ _
            (go_wp2_with fail; go_meet; exact ⟨gN, gR, A2, c2, rfl, rfl, rfl, hTN, hTR, hNR, HN, HR, HS, HZ, HX, HX2, HL, HO, HAP2, HA2, HB⟩)
        · (refine rgAlloc (.cells (nm zeros16 zeros16 (.slice none 0 0) 0 0 0) 29) (by kernel_rfl) (by rfl) ?_; intro gN w7 hgN hgN' hz hb; have hTN : T ≤ gN := Nat.le_trans HBR.out.2 hgN; (try have HXN := Lib.hid (fun a (e1 : A2 = some a) (e2 : 0 < v.n) => Nat.ne_of_lt (Nat.lt_of_lt_of_le (HX2.out.lt a e1 e2) hgN))); (try have hNR : gN ≠ gR := Nat.ne_of_gt (Nat.lt_of_lt_of_le (Array.getElem?_eq_some_iff.1 HR.out).1 hgN)); replace HS := keepA HS hb; replace HZ := keepA HZ hb; replace HX := Lib.hid (HX.out.below hb); replace HL := Lib.hid (HL.out.below hb); replace HO := Lib.hid (ownk_below HO.out hb); replace HB := keepB HB hb; replace HBR := keepB HBR hb; (try replace HN := keepA HN hb); (try replace HR := keepA HR hb); (try replace HX2 := Lib.hid (HX2.out.below hb)); have HN := Lib.hid hz; clear hz)
          refine hK.out _ _ ⟨HS.out, HL.out.at_ hn0 (uops_get hu)⟩ (fun hHeld => ?_)
          (try simp only [Act.put, List.setIfInBounds_toArray, List.set_cons_zero, List.set_cons_succ])
          clear hK K
          refine rgTwo (i := 5) (j := 11) (Ni := some 24) (Nj := some 9) (oi := { dst := some 24, op := Op.call { callee := Callee.value (Operand.func 17), args := #[Operand.tmp 19, Operand.tmp 23], argTypes := #[29, 50] }, type := 53, pos := "ref.go:42", after := #[{ on := 0, ground := Ground.data }, { on := 4, ground := Ground.data }], guard := none }) (oj := { dst := some 9, op := Op.alloc 52, type := 0, pos := "ref.go:42", after := #[], guard := none }) #[true, true, true, true, true, true, false, false, false, false, true, false, false, false, false] #[true, true, true, true, true, false, false, false, false, false, true, true, false, false, false] rfl rfl rfl rfl (by kernel_rfl) (fun K hK => ?_) (fun K hK => ?_)
          · go_simp
            (go_at_call 17; refine (rone_any V A1 c1 u _ (by rw [hVn, hVx]; exact HX.out) kV).mono ?_; rintro e w6 ⟨A2, c2, rfl, hr, hA, hb⟩; rw [onV_n, onV_xs, hVn, hVx] at hr; rw [hbb]; have HAP2 := Lib.hid (HAP.out.next hA HO.out); have HA2 := Lib.hid (farStep HA1.out hA (show gZ + 1 ≤ _ from (Array.getElem?_eq_some_iff.1 HZ.out).1)); (try have HXN := Lib.hid (neOf HXT.out hA hTN (Array.getElem?_eq_some_iff.1 HN.out).1)); (try have HXR := Lib.hid (neOf HXT.out hA hTR (Array.getElem?_eq_some_iff.1 HR.out).1)); replace HS := keepA HS hb; replace HZ := keepA HZ hb; replace HX := Lib.hid (HX.out.below hb); replace HL := Lib.hid (HL.out.below hb); replace HO := Lib.hid (ownk_below HO.out hb); replace HB := keepB HB hb; replace HBR := keepB HBR hb; (try replace HN := keepA HN hb); (try replace HR := keepA HR hb); (try replace HX2 := Lib.hid (HX2.out.below hb)); have HX2 := Lib.hid hr; clear hr hA)
            refine hK.out _ _ ⟨HS.out, HL.out.at_ hn0 (uops_get hu)⟩ (fun hHeld => ?_)
            (try simp only [Act.put, List.setIfInBounds_toArray, List.set_cons_zero, List.set_cons_succ])
            clear hK K
            refine rgTake (i := 6) (N := some 18) (oi := { dst := some 18, op := Op.move (Operand.tmp 24), type := 53, pos := "ref.go:42", after := #[{ on := 5, ground := Ground.data }], guard := none }) (v := ?_) #[true, true, true, true, true, true, true, false, false, false, true, false, false, false, false] rfl rfl (by kernel_rfl) (fun _ _ _ h => h) (Or.inl ⟨by rfl, ?_⟩) hHeld ?_
            rotate_left
            · intro w' hSw; (try dsimp only at hSw); skip; go_simp; try with_reducible rfl
            simp only [Act.put, List.setIfInBounds_toArray, List.set_cons_zero, List.set_cons_succ]
            refine rgTake (i := 7) (N := some 25) (oi := { dst := some 25, op := Op.extract (Operand.tmp 18) 0, type := 29, pos := "ref.go:42", after := #[{ on := 6, ground := Ground.data }], guard := none }) (v := ?_) #[true, true, true, true, true, true, true, true, false, false, true, false, false, false, false] rfl rfl (by kernel_rfl) (fun _ _ _ h => h) (Or.inl ⟨by rfl, ?_⟩) hHeld ?_
            rotate_left
            · intro w' hSw; (try dsimp only at hSw); skip; go_simp; try with_reducible rfl
            simp only [Act.put, List.setIfInBounds_toArray, List.set_cons_zero, List.set_cons_succ]
            refine rgTake (i := 8) (N := some 26) (oi := { dst := some 26, op := Op.extract (Operand.tmp 18) 1, type := 52, pos := "ref.go:42", after := #[{ on := 6, ground := Ground.data }, { on := 12, ground := Ground.gcOnly Departure.lateStores }], guard := none }) (v := ?_) #[true, true, true, true, true, true, true, true, true, false, true, false, false, false, false] rfl rfl (by kernel_rfl) (fun _ _ _ h => h) (Or.inl ⟨by rfl, ?_⟩) hHeld ?_
            rotate_left
            · intro w' hSw; (try dsimp only at hSw); skip; go_simp; try with_reducible rfl
            simp only [Act.put, List.setIfInBounds_toArray, List.set_cons_zero, List.set_cons_succ]
            refine rgTake (i := 9) (N := some 27) (oi := { dst := some 27, op := Op.extract (Operand.tmp 18) 2, type := 4, pos := "ref.go:42", after := #[{ on := 6, ground := Ground.data }, { on := 13, ground := Ground.gcOnly Departure.lateStores }], guard := none }) (v := ?_) #[true, true, true, true, true, true, true, true, true, true, true, false, false, false, false] rfl rfl (by kernel_rfl) (fun _ _ _ h => h) (Or.inl ⟨by rfl, ?_⟩) hHeld ?_
            rotate_left
            · intro w' hSw; (try dsimp only at hSw); skip; go_simp; try with_reducible rfl
            simp only [Act.put, List.setIfInBounds_toArray, List.set_cons_zero, List.set_cons_succ]
            refine rgCall (i := 11) (N := some 9) (oi := { dst := some 9, op := Op.alloc 52, type := 0, pos := "ref.go:42", after := #[], guard := none }) #[true, true, true, true, true, true, true, true, true, true, true, true, false, false, false] rfl rfl (by kernel_rfl) (fun K hK => ?_)
            (refine rgAlloc (.cells (rA rZ) 52) (by kernel_rfl) (by rfl) ?_; intro gR w8 hgR hgR' hz hb; have hTR : T ≤ gR := Nat.le_trans HBR.out.2 hgR; (try have HXR := Lib.hid (fun a (e1 : A2 = some a) (e2 : 0 < v.n) => Nat.ne_of_lt (Nat.lt_of_lt_of_le (HX2.out.lt a e1 e2) hgR))); (try have hNR : gN ≠ gR := Nat.ne_of_lt (Nat.lt_of_lt_of_le (Array.getElem?_eq_some_iff.1 HN.out).1 hgR)); replace HS := keepA HS hb; replace HZ := keepA HZ hb; replace HX := Lib.hid (HX.out.below hb); replace HL := Lib.hid (HL.out.below hb); replace HO := Lib.hid (ownk_below HO.out hb); replace HB := keepB HB hb; replace HBR := keepB HBR hb; (try replace HN := keepA HN hb); (try replace HR := keepA HR hb); (try replace HX2 := Lib.hid (HX2.out.below hb)); have HR := Lib.hid hz; clear hz)
            refine hK.out _ _ ⟨HS.out, HL.out.at_ hn0 (uops_get hu)⟩ (fun hHeld => ?_)
            (try simp only [Act.put, List.setIfInBounds_toArray, List.set_cons_zero, List.set_cons_succ])
            clear hK K
            refine rgCall (i := 12) (N := none) (oi := { dst := none, op := Op.store 29 (Operand.tmp 8) (Operand.tmp 25), type := 0, pos := "ref.go:42", after := #[{ on := 10, ground := Ground.data }, { on := 7, ground := Ground.data }, { on := 5, ground := Ground.chain }, { on := 0, ground := Ground.phase }, { on := 1, ground := Ground.phase }, { on := 2, ground := Ground.phase }, { on := 3, ground := Ground.phase }, { on := 4, ground := Ground.phase }, { on := 5, ground := Ground.phase }, { on := 6, ground := Ground.phase }, { on := 7, ground := Ground.phase }, { on := 8, ground := Ground.textOnly Departure.lateStores }, { on := 9, ground := Ground.textOnly Departure.lateStores }, { on := 10, ground := Ground.phase }, { on := 11, ground := Ground.phase }], guard := none }) #[true, true, true, true, true, true, true, true, true, true, true, true, true, false, false] rfl rfl (by kernel_rfl) (fun K hK => ?_)
            (refine rgStore (by rfl) 29 _ _ rfl gN rfl (nmA (onV V u) A2 c2) rfl HN.out (nm_szV (onV_ok kV u) _ _) (zZ _ (onV_ok kV u) _ _) (nm_oneV _ _ _) ?_; intro w9 hz ho; replace HR := keepAo HR (by omega) ho; replace HS := keepAo HS (by omega) ho; replace HZ := keepAo HZ (by omega) ho; replace HX := Lib.hid (HX.out.only2 ho (fun a e1 e2 => by have := HXT.out a e1 e2; omega)); replace HL := Lib.hid (HL.out.only2 ho (fun a e1 e2 => by have := HLL.out a e1 e2; omega)); replace HO := Lib.hid (ownk_only HO.out (fun j e => by have := HOT.out j e; omega) ho); replace HB := keepBo HB (by omega) ho; replace HBR := keepBo HBR (by omega) ho; replace HX2 := Lib.hid (HX2.out.only2 ho HXN.out); clear HN; have HN := Lib.hid hz; clear hz ho)
            refine hK.out _ _ ⟨HS.out, HL.out.at_ hn0 (uops_get hu)⟩ (fun hHeld => ?_)
            clear hK K
            refine rgCall (i := 13) (N := none) (oi := { dst := none, op := Op.store 52 (Operand.tmp 9) (Operand.tmp 26), type := 0, pos := "ref.go:42", after := #[{ on := 11, ground := Ground.data }, { on := 8, ground := Ground.data }, { on := 12, ground := Ground.chain }, { on := 0, ground := Ground.phase }, { on := 1, ground := Ground.phase }, { on := 2, ground := Ground.phase }, { on := 3, ground := Ground.phase }, { on := 4, ground := Ground.phase }, { on := 5, ground := Ground.phase }, { on := 6, ground := Ground.phase }, { on := 7, ground := Ground.phase }, { on := 8, ground := Ground.phase }, { on := 9, ground := Ground.textOnly Departure.lateStores }, { on := 10, ground := Ground.phase }, { on := 11, ground := Ground.phase }, { on := 12, ground := Ground.phase }], guard := none }) #[true, true, true, true, true, true, true, true, true, true, true, true, true, true, false] rfl rfl (by kernel_rfl) (fun K hK => ?_)
            (refine rgStore (by rfl) 52 _ _ rfl gR rfl (rA (onR V u)) rfl HR.out infoRen rfl (rA_one _) ?_; intro w10 hz ho; replace HN := keepAo HN (by omega) ho; replace HS := keepAo HS (by omega) ho; replace HZ := keepAo HZ (by omega) ho; replace HX := Lib.hid (HX.out.only2 ho (fun a e1 e2 => by have := HXT.out a e1 e2; omega)); replace HL := Lib.hid (HL.out.only2 ho (fun a e1 e2 => by have := HLL.out a e1 e2; omega)); replace HO := Lib.hid (ownk_only HO.out (fun j e => by have := HOT.out j e; omega) ho); replace HB := keepBo HB (by omega) ho; replace HBR := keepBo HBR (by omega) ho; replace HX2 := Lib.hid (HX2.out.only2 ho HXR.out); clear HR; have HR := Lib.hid hz; clear hz ho)
            refine hK.out _ _ ⟨HS.out, HL.out.at_ hn0 (uops_get hu)⟩ (fun hHeld => ?_)
            clear hK K
            refine rgTake (i := 14) (N := some 10) (oi := { dst := some 10, op := Op.assign (Operand.tmp 27), type := 4, pos := "ref.go:42", after := #[{ on := 9, ground := Ground.data }, { on := 13, ground := Ground.chain }, { on := 0, ground := Ground.phase }, { on := 1, ground := Ground.phase }, { on := 2, ground := Ground.phase }, { on := 3, ground := Ground.phase }, { on := 4, ground := Ground.phase }, { on := 5, ground := Ground.phase }, { on := 6, ground := Ground.phase }, { on := 7, ground := Ground.phase }, { on := 8, ground := Ground.phase }, { on := 9, ground := Ground.phase }, { on := 10, ground := Ground.phase }, { on := 11, ground := Ground.phase }, { on := 12, ground := Ground.phase }, { on := 13, ground := Ground.phase }], guard := none }) (v := ?_) #[true, true, true, true, true, true, true, true, true, true, true, true, true, true, true] rfl rfl (by kernel_rfl) (fun _ _ _ h => h) (Or.inl ⟨by rfl, ?_⟩) hHeld ?_
            rotate_left
            · intro w' hSw; (try dsimp only at hSw); skip; go_simp; try with_reducible rfl
            simp only [Act.put, List.setIfInBounds_toArray, List.set_cons_zero, List.set_cons_succ]
            refine rgDone (by kernel_rfl) ?_ _
            (go_wp2_with fail; go_meet; exact ⟨gN, gR, A2, c2, rfl, rfl, rfl, hTN, hTR, hNR, HN, HR, HS, HZ, HX, HX2, HL, HO, HAP2, HA2, HB⟩)
          · (refine rgAlloc (.cells (rA rZ) 52) (by kernel_rfl) (by rfl) ?_; intro gR w8 hgR hgR' hz hb; have hTR : T ≤ gR := Nat.le_trans HBR.out.2 hgR; (try have HXR := Lib.hid (fun a (e1 : A2 = some a) (e2 : 0 < v.n) => Nat.ne_of_lt (Nat.lt_of_lt_of_le (HX2.out.lt a e1 e2) hgR))); (try have hNR : gN ≠ gR := Nat.ne_of_lt (Nat.lt_of_lt_of_le (Array.getElem?_eq_some_iff.1 HN.out).1 hgR)); replace HS := keepA HS hb; replace HZ := keepA HZ hb; replace HX := Lib.hid (HX.out.below hb); replace HL := Lib.hid (HL.out.below hb); replace HO := Lib.hid (ownk_below HO.out hb); replace HB := keepB HB hb; replace HBR := keepB HBR hb; (try replace HN := keepA HN hb); (try replace HR := keepA HR hb); (try replace HX2 := Lib.hid (HX2.out.below hb)); have HR := Lib.hid hz; clear hz)
            refine hK.out _ _ ⟨HS.out, HL.out.at_ hn0 (uops_get hu)⟩ (fun hHeld => ?_)
            (try simp only [Act.put, List.setIfInBounds_toArray, List.set_cons_zero, List.set_cons_succ])
            clear hK K
            refine rgCall (i := 5) (N := some 24) (oi := { dst := some 24, op := Op.call { callee := Callee.value (Operand.func 17), args := #[Operand.tmp 19, Operand.tmp 23], argTypes := #[29, 50] }, type := 53, pos := "ref.go:42", after := #[{ on := 0, ground := Ground.data }, { on := 4, ground := Ground.data }], guard := none }) #[true, true, true, true, true, true, false, false, false, false, true, true, false, false, false] rfl rfl (by kernel_rfl) (fun K hK => ?_)
            go_simp
            (go_at_call 17; refine (rone_any V A1 c1 u _ (by rw [hVn, hVx]; exact HX.out) kV).mono ?_; rintro e w6 ⟨A2, c2, rfl, hr, hA, hb⟩; rw [onV_n, onV_xs, hVn, hVx] at hr; rw [hbb]; have HAP2 := Lib.hid (HAP.out.next hA HO.out); have HA2 := Lib.hid (farStep HA1.out hA (show gZ + 1 ≤ _ from (Array.getElem?_eq_some_iff.1 HZ.out).1)); (try have HXN := Lib.hid (neOf HXT.out hA hTN (Array.getElem?_eq_some_iff.1 HN.out).1)); (try have HXR := Lib.hid (neOf HXT.out hA hTR (Array.getElem?_eq_some_iff.1 HR.out).1)); replace HS := keepA HS hb; replace HZ := keepA HZ hb; replace HX := Lib.hid (HX.out.below hb); replace HL := Lib.hid (HL.out.below hb); replace HO := Lib.hid (ownk_below HO.out hb); replace HB := keepB HB hb; replace HBR := keepB HBR hb; (try replace HN := keepA HN hb); (try replace HR := keepA HR hb); (try replace HX2 := Lib.hid (HX2.out.below hb)); have HX2 := Lib.hid hr; clear hr hA)
            refine hK.out _ _ ⟨HS.out, HL.out.at_ hn0 (uops_get hu)⟩ (fun hHeld => ?_)
            (try simp only [Act.put, List.setIfInBounds_toArray, List.set_cons_zero, List.set_cons_succ])
            clear hK K
            refine rgTake (i := 6) (N := some 18) (oi := { dst := some 18, op := Op.move (Operand.tmp 24), type := 53, pos := "ref.go:42", after := #[{ on := 5, ground := Ground.data }], guard := none }) (v := ?_) #[true, true, true, true, true, true, true, false, false, false, true, true, false, false, false] rfl rfl (by kernel_rfl) (fun _ _ _ h => h) (Or.inl ⟨by rfl, ?_⟩) hHeld ?_
            rotate_left
            · intro w' hSw; (try dsimp only at hSw); skip; go_simp; try with_reducible rfl
            simp only [Act.put, List.setIfInBounds_toArray, List.set_cons_zero, List.set_cons_succ]
            refine rgTake (i := 7) (N := some 25) (oi := { dst := some 25, op := Op.extract (Operand.tmp 18) 0, type := 29, pos := "ref.go:42", after := #[{ on := 6, ground := Ground.data }], guard := none }) (v := ?_) #[true, true, true, true, true, true, true, true, false, false, true, true, false, false, false] rfl rfl (by kernel_rfl) (fun _ _ _ h => h) (Or.inl ⟨by rfl, ?_⟩) hHeld ?_
            rotate_left
            · intro w' hSw; (try dsimp only at hSw); skip; go_simp; try with_reducible rfl
            simp only [Act.put, List.setIfInBounds_toArray, List.set_cons_zero, List.set_cons_succ]
            refine rgTake (i := 8) (N := some 26) (oi := { dst := some 26, op := Op.extract (Operand.tmp 18) 1, type := 52, pos := "ref.go:42", after := #[{ on := 6, ground := Ground.data }, { on := 12, ground := Ground.gcOnly Departure.lateStores }], guard := none }) (v := ?_) #[true, true, true, true, true, true, true, true, true, false, true, true, false, false, false] rfl rfl (by kernel_rfl) (fun _ _ _ h => h) (Or.inl ⟨by rfl, ?_⟩) hHeld ?_
            rotate_left
            · intro w' hSw; (try dsimp only at hSw); skip; go_simp; try with_reducible rfl
            simp only [Act.put, List.setIfInBounds_toArray, List.set_cons_zero, List.set_cons_succ]
            refine rgTake (i := 9) (N := some 27) (oi := { dst := some 27, op := Op.extract (Operand.tmp 18) 2, type := 4, pos := "ref.go:42", after := #[{ on := 6, ground := Ground.data }, { on := 13, ground := Ground.gcOnly Departure.lateStores }], guard := none }) (v := ?_) #[true, true, true, true, true, true, true, true, true, true, true, true, false, false, false] rfl rfl (by kernel_rfl) (fun _ _ _ h => h) (Or.inl ⟨by rfl, ?_⟩) hHeld ?_
            rotate_left
            · intro w' hSw; (try dsimp only at hSw); skip; go_simp; try with_reducible rfl
            simp only [Act.put, List.setIfInBounds_toArray, List.set_cons_zero, List.set_cons_succ]
            refine rgCall (i := 12) (N := none) (oi := { dst := none, op := Op.store 29 (Operand.tmp 8) (Operand.tmp 25), type := 0, pos := "ref.go:42", after := #[{ on := 10, ground := Ground.data }, { on := 7, ground := Ground.data }, { on := 5, ground := Ground.chain }, { on := 0, ground := Ground.phase }, { on := 1, ground := Ground.phase }, { on := 2, ground := Ground.phase }, { on := 3, ground := Ground.phase }, { on := 4, ground := Ground.phase }, { on := 5, ground := Ground.phase }, { on := 6, ground := Ground.phase }, { on := 7, ground := Ground.phase }, { on := 8, ground := Ground.textOnly Departure.lateStores }, { on := 9, ground := Ground.textOnly Departure.lateStores }, { on := 10, ground := Ground.phase }, { on := 11, ground := Ground.phase }], guard := none }) #[true, true, true, true, true, true, true, true, true, true, true, true, true, false, false] rfl rfl (by kernel_rfl) (fun K hK => ?_)
            (refine rgStore (by rfl) 29 _ _ rfl gN rfl (nmA (onV V u) A2 c2) rfl HN.out (nm_szV (onV_ok kV u) _ _) (zZ _ (onV_ok kV u) _ _) (nm_oneV _ _ _) ?_; intro w9 hz ho; replace HR := keepAo HR (by omega) ho; replace HS := keepAo HS (by omega) ho; replace HZ := keepAo HZ (by omega) ho; replace HX := Lib.hid (HX.out.only2 ho (fun a e1 e2 => by have := HXT.out a e1 e2; omega)); replace HL := Lib.hid (HL.out.only2 ho (fun a e1 e2 => by have := HLL.out a e1 e2; omega)); replace HO := Lib.hid (ownk_only HO.out (fun j e => by have := HOT.out j e; omega) ho); replace HB := keepBo HB (by omega) ho; replace HBR := keepBo HBR (by omega) ho; replace HX2 := Lib.hid (HX2.out.only2 ho HXN.out); clear HN; have HN := Lib.hid hz; clear hz ho)
            refine hK.out _ _ ⟨HS.out, HL.out.at_ hn0 (uops_get hu)⟩ (fun hHeld => ?_)
            clear hK K
            refine rgCall (i := 13) (N := none) (oi := { dst := none, op := Op.store 52 (Operand.tmp 9) (Operand.tmp 26), type := 0, pos := "ref.go:42", after := #[{ on := 11, ground := Ground.data }, { on := 8, ground := Ground.data }, { on := 12, ground := Ground.chain }, { on := 0, ground := Ground.phase }, { on := 1, ground := Ground.phase }, { on := 2, ground := Ground.phase }, { on := 3, ground := Ground.phase }, { on := 4, ground := Ground.phase }, { on := 5, ground := Ground.phase }, { on := 6, ground := Ground.phase }, { on := 7, ground := Ground.phase }, { on := 8, ground := Ground.phase }, { on := 9, ground := Ground.textOnly Departure.lateStores }, { on := 10, ground := Ground.phase }, { on := 11, ground := Ground.phase }, { on := 12, ground := Ground.phase }], guard := none }) #[true, true, true, true, true, true, true, true, true, true, true, true, true, true, false] rfl rfl (by kernel_rfl) (fun K hK => ?_)
            (refine rgStore (by rfl) 52 _ _ rfl gR rfl (rA (onR V u)) rfl HR.out infoRen rfl (rA_one _) ?_; intro w10 hz ho; replace HN := keepAo HN (by omega) ho; replace HS := keepAo HS (by omega) ho; replace HZ := keepAo HZ (by omega) ho; replace HX := Lib.hid (HX.out.only2 ho (fun a e1 e2 => by have := HXT.out a e1 e2; omega)); replace HL := Lib.hid (HL.out.only2 ho (fun a e1 e2 => by have := HLL.out a e1 e2; omega)); replace HO := Lib.hid (ownk_only HO.out (fun j e => by have := HOT.out j e; omega) ho); replace HB := keepBo HB (by omega) ho; replace HBR := keepBo HBR (by omega) ho; replace HX2 := Lib.hid (HX2.out.only2 ho HXR.out); clear HR; have HR := Lib.hid hz; clear hz ho)
            refine hK.out _ _ ⟨HS.out, HL.out.at_ hn0 (uops_get hu)⟩ (fun hHeld => ?_)
            clear hK K
            refine rgTake (i := 14) (N := some 10) (oi := { dst := some 10, op := Op.assign (Operand.tmp 27), type := 4, pos := "ref.go:42", after := #[{ on := 9, ground := Ground.data }, { on := 13, ground := Ground.chain }, { on := 0, ground := Ground.phase }, { on := 1, ground := Ground.phase }, { on := 2, ground := Ground.phase }, { on := 3, ground := Ground.phase }, { on := 4, ground := Ground.phase }, { on := 5, ground := Ground.phase }, { on := 6, ground := Ground.phase }, { on := 7, ground := Ground.phase }, { on := 8, ground := Ground.phase }, { on := 9, ground := Ground.phase }, { on := 10, ground := Ground.phase }, { on := 11, ground := Ground.phase }, { on := 12, ground := Ground.phase }, { on := 13, ground := Ground.phase }], guard := none }) (v := ?_) #[true, true, true, true, true, true, true, true, true, true, true, true, true, true, true] rfl rfl (by kernel_rfl) (fun _ _ _ h => h) (Or.inl ⟨by rfl, ?_⟩) hHeld ?_
            rotate_left
            · intro w' hSw; (try dsimp only at hSw); skip; go_simp; try with_reducible rfl
            simp only [Act.put, List.setIfInBounds_toArray, List.set_cons_zero, List.set_cons_succ]
            refine rgDone (by kernel_rfl) ?_ _
            (go_wp2_with fail; go_meet; exact ⟨gN, gR, A2, c2, rfl, rfl, rfl, hTN, hTR, hNR, HN, HR, HS, HZ, HX, HX2, HL, HO, HAP2, HA2, HB⟩)
        · (refine rgAlloc (.cells (rA rZ) 52) (by kernel_rfl) (by rfl) ?_; intro gR w8 hgR hgR' hz hb; have hTR : T ≤ gR := Nat.le_trans HBR.out.2 hgR; (try have HXR := Lib.hid (fun a (e1 : A2 = some a) (e2 : 0 < v.n) => Nat.ne_of_lt (Nat.lt_of_lt_of_le (HX2.out.lt a e1 e2) hgR))); (try have hNR : gN ≠ gR := Nat.ne_of_lt (Nat.lt_of_lt_of_le (Array.getElem?_eq_some_iff.1 HN.out).1 hgR)); replace HS := keepA HS hb; replace HZ := keepA HZ hb; replace HX := Lib.hid (HX.out.below hb); replace HL := Lib.hid (HL.out.below hb); replace HO := Lib.hid (ownk_below HO.out hb); replace HB := keepB HB hb; replace HBR := keepB HBR hb; (try replace HN := keepA HN hb); (try replace HR := keepA HR hb); (try replace HX2 := Lib.hid (HX2.out.below hb)); have HR := Lib.hid hz; clear hz)
          refine hK.out _ _ ⟨HS.out, HL.out.at_ hn0 (uops_get hu)⟩ (fun hHeld => ?_)
          (try simp only [Act.put, List.setIfInBounds_toArray, List.set_cons_zero, List.set_cons_succ])
          clear hK K
          refine rgTwo (i := 5) (j := 10) (Ni := some 24) (Nj := some 8) (oi := { dst := some 24, op := Op.call { callee := Callee.value (Operand.func 17), args := #[Operand.tmp 19, Operand.tmp 23], argTypes := #[29, 50] }, type := 53, pos := "ref.go:42", after := #[{ on := 0, ground := Ground.data }, { on := 4, ground := Ground.data }], guard := none }) (oj := { dst := some 8, op := Op.alloc 29, type := 0, pos := "ref.go:42", after := #[], guard := none }) #[true, true, true, true, true, true, false, false, false, false, false, true, false, false, false] #[true, true, true, true, true, false, false, false, false, false, true, true, false, false, false] rfl rfl rfl rfl (by kernel_rfl) (fun K hK => ?_) (fun K hK => ?_)
          · go_simp
            (go_at_call 17; refine (rone_any V A1 c1 u _ (by rw [hVn, hVx]; exact HX.out) kV).mono ?_; rintro e w6 ⟨A2, c2, rfl, hr, hA, hb⟩; rw [onV_n, onV_xs, hVn, hVx] at hr; rw [hbb]; have HAP2 := Lib.hid (HAP.out.next hA HO.out); have HA2 := Lib.hid (farStep HA1.out hA (show gZ + 1 ≤ _ from (Array.getElem?_eq_some_iff.1 HZ.out).1)); (try have HXN := Lib.hid (neOf HXT.out hA hTN (Array.getElem?_eq_some_iff.1 HN.out).1)); (try have HXR := Lib.hid (neOf HXT.out hA hTR (Array.getElem?_eq_some_iff.1 HR.out).1)); replace HS := keepA HS hb; replace HZ := keepA HZ hb; replace HX := Lib.hid (HX.out.below hb); replace HL := Lib.hid (HL.out.below hb); replace HO := Lib.hid (ownk_below HO.out hb); replace HB := keepB HB hb; replace HBR := keepB HBR hb; (try replace HN := keepA HN hb); (try replace HR := keepA HR hb); (try replace HX2 := Lib.hid (HX2.out.below hb)); have HX2 := Lib.hid hr; clear hr hA)
            refine hK.out _ _ ⟨HS.out, HL.out.at_ hn0 (uops_get hu)⟩ (fun hHeld => ?_)
            (try simp only [Act.put, List.setIfInBounds_toArray, List.set_cons_zero, List.set_cons_succ])
            clear hK K
            refine rgTake (i := 6) (N := some 18) (oi := { dst := some 18, op := Op.move (Operand.tmp 24), type := 53, pos := "ref.go:42", after := #[{ on := 5, ground := Ground.data }], guard := none }) (v := ?_) #[true, true, true, true, true, true, true, false, false, false, false, true, false, false, false] rfl rfl (by kernel_rfl) (fun _ _ _ h => h) (Or.inl ⟨by rfl, ?_⟩) hHeld ?_
            rotate_left
            · intro w' hSw; (try dsimp only at hSw); skip; go_simp; try with_reducible rfl
            simp only [Act.put, List.setIfInBounds_toArray, List.set_cons_zero, List.set_cons_succ]
            refine rgTake (i := 7) (N := some 25) (oi := { dst := some 25, op := Op.extract (Operand.tmp 18) 0, type := 29, pos := "ref.go:42", after := #[{ on := 6, ground := Ground.data }], guard := none }) (v := ?_) #[true, true, true, true, true, true, true, true, false, false, false, true, false, false, false] rfl rfl (by kernel_rfl) (fun _ _ _ h => h) (Or.inl ⟨by rfl, ?_⟩) hHeld ?_
            rotate_left
            · intro w' hSw; (try dsimp only at hSw); skip; go_simp; try with_reducible rfl
            simp only [Act.put, List.setIfInBounds_toArray, List.set_cons_zero, List.set_cons_succ]
            refine rgTake (i := 8) (N := some 26) (oi := { dst := some 26, op := Op.extract (Operand.tmp 18) 1, type := 52, pos := "ref.go:42", after := #[{ on := 6, ground := Ground.data }, { on := 12, ground := Ground.gcOnly Departure.lateStores }], guard := none }) (v := ?_) #[true, true, true, true, true, true, true, true, true, false, false, true, false, false, false] rfl rfl (by kernel_rfl) (fun _ _ _ h => h) (Or.inl ⟨by rfl, ?_⟩) hHeld ?_
            rotate_left
            · intro w' hSw; (try dsimp only at hSw); skip; go_simp; try with_reducible rfl
            simp only [Act.put, List.setIfInBounds_toArray, List.set_cons_zero, List.set_cons_succ]
            refine rgTake (i := 9) (N := some 27) (oi := { dst := some 27, op := Op.extract (Operand.tmp 18) 2, type := 4, pos := "ref.go:42", after := #[{ on := 6, ground := Ground.data }, { on := 13, ground := Ground.gcOnly Departure.lateStores }], guard := none }) (v := ?_) #[true, true, true, true, true, true, true, true, true, true, false, true, false, false, false] rfl rfl (by kernel_rfl) (fun _ _ _ h => h) (Or.inl ⟨by rfl, ?_⟩) hHeld ?_
            rotate_left
            · intro w' hSw; (try dsimp only at hSw); skip; go_simp; try with_reducible rfl
            simp only [Act.put, List.setIfInBounds_toArray, List.set_cons_zero, List.set_cons_succ]
            refine rgCall (i := 10) (N := some 8) (oi := { dst := some 8, op := Op.alloc 29, type := 0, pos := "ref.go:42", after := #[], guard := none }) #[true, true, true, true, true, true, true, true, true, true, true, true, false, false, false] rfl rfl (by kernel_rfl) (fun K hK => ?_)
            (refine rgAlloc (.cells (nm zeros16 zeros16 (.slice none 0 0) 0 0 0) 29) (by kernel_rfl) (by rfl) ?_; intro gN w7 hgN hgN' hz hb; have hTN : T ≤ gN := Nat.le_trans HBR.out.2 hgN; (try have HXN := Lib.hid (fun a (e1 : A2 = some a) (e2 : 0 < v.n) => Nat.ne_of_lt (Nat.lt_of_lt_of_le (HX2.out.lt a e1 e2) hgN))); (try have hNR : gN ≠ gR := Nat.ne_of_gt (Nat.lt_of_lt_of_le (Array.getElem?_eq_some_iff.1 HR.out).1 hgN)); replace HS := keepA HS hb; replace HZ := keepA HZ hb; replace HX := Lib.hid (HX.out.below hb); replace HL := Lib.hid (HL.out.below hb); replace HO := Lib.hid (ownk_below HO.out hb); replace HB := keepB HB hb; replace HBR := keepB HBR hb; (try replace HN := keepA HN hb); (try replace HR := keepA HR hb); (try replace HX2 := Lib.hid (HX2.out.below hb)); have HN := Lib.hid hz; clear hz)
            refine hK.out _ _ ⟨HS.out, HL.out.at_ hn0 (uops_get hu)⟩ (fun hHeld => ?_)
            (try simp only [Act.put, List.setIfInBounds_toArray, List.set_cons_zero, List.set_cons_succ])
            clear hK K
            refine rgCall (i := 12) (N := none) (oi := { dst := none, op := Op.store 29 (Operand.tmp 8) (Operand.tmp 25), type := 0, pos := "ref.go:42", after := #[{ on := 10, ground := Ground.data }, { on := 7, ground := Ground.data }, { on := 5, ground := Ground.chain }, { on := 0, ground := Ground.phase }, { on := 1, ground := Ground.phase }, { on := 2, ground := Ground.phase }, { on := 3, ground := Ground.phase }, { on := 4, ground := Ground.phase }, { on := 5, ground := Ground.phase }, { on := 6, ground := Ground.phase }, { on := 7, ground := Ground.phase }, { on := 8, ground := Ground.textOnly Departure.lateStores }, { on := 9, ground := Ground.textOnly Departure.lateStores }, { on := 10, ground := Ground.phase }, { on := 11, ground := Ground.phase }], guard := none }) #[true, true, true, true, true, true, true, true, true, true, true, true, true, false, false] rfl rfl (by kernel_rfl) (fun K hK => ?_)
            (refine rgStore (by rfl) 29 _ _ rfl gN rfl (nmA (onV V u) A2 c2) rfl HN.out (nm_szV (onV_ok kV u) _ _) (zZ _ (onV_ok kV u) _ _) (nm_oneV _ _ _) ?_; intro w9 hz ho; replace HR := keepAo HR (by omega) ho; replace HS := keepAo HS (by omega) ho; replace HZ := keepAo HZ (by omega) ho; replace HX := Lib.hid (HX.out.only2 ho (fun a e1 e2 => by have := HXT.out a e1 e2; omega)); replace HL := Lib.hid (HL.out.only2 ho (fun a e1 e2 => by have := HLL.out a e1 e2; omega)); replace HO := Lib.hid (ownk_only HO.out (fun j e => by have := HOT.out j e; omega) ho); replace HB := keepBo HB (by omega) ho; replace HBR := keepBo HBR (by omega) ho; replace HX2 := Lib.hid (HX2.out.only2 ho HXN.out); clear HN; have HN := Lib.hid hz; clear hz ho)
            refine hK.out _ _ ⟨HS.out, HL.out.at_ hn0 (uops_get hu)⟩ (fun hHeld => ?_)
            clear hK K
            refine rgCall (i := 13) (N := none) (oi := { dst := none, op := Op.store 52 (Operand.tmp 9) (Operand.tmp 26), type := 0, pos := "ref.go:42", after := #[{ on := 11, ground := Ground.data }, { on := 8, ground := Ground.data }, { on := 12, ground := Ground.chain }, { on := 0, ground := Ground.phase }, { on := 1, ground := Ground.phase }, { on := 2, ground := Ground.phase }, { on := 3, ground := Ground.phase }, { on := 4, ground := Ground.phase }, { on := 5, ground := Ground.phase }, { on := 6, ground := Ground.phase }, { on := 7, ground := Ground.phase }, { on := 8, ground := Ground.phase }, { on := 9, ground := Ground.textOnly Departure.lateStores }, { on := 10, ground := Ground.phase }, { on := 11, ground := Ground.phase }, { on := 12, ground := Ground.phase }], guard := none }) #[true, true, true, true, true, true, true, true, true, true, true, true, true, true, false] rfl rfl (by kernel_rfl) (fun K hK => ?_)
            (refine rgStore (by rfl) 52 _ _ rfl gR rfl (rA (onR V u)) rfl HR.out infoRen rfl (rA_one _) ?_; intro w10 hz ho; replace HN := keepAo HN (by omega) ho; replace HS := keepAo HS (by omega) ho; replace HZ := keepAo HZ (by omega) ho; replace HX := Lib.hid (HX.out.only2 ho (fun a e1 e2 => by have := HXT.out a e1 e2; omega)); replace HL := Lib.hid (HL.out.only2 ho (fun a e1 e2 => by have := HLL.out a e1 e2; omega)); replace HO := Lib.hid (ownk_only HO.out (fun j e => by have := HOT.out j e; omega) ho); replace HB := keepBo HB (by omega) ho; replace HBR := keepBo HBR (by omega) ho; replace HX2 := Lib.hid (HX2.out.only2 ho HXR.out); clear HR; have HR := Lib.hid hz; clear hz ho)
            refine hK.out _ _ ⟨HS.out, HL.out.at_ hn0 (uops_get hu)⟩ (fun hHeld => ?_)
            clear hK K
            refine rgTake (i := 14) (N := some 10) (oi := { dst := some 10, op := Op.assign (Operand.tmp 27), type := 4, pos := "ref.go:42", after := #[{ on := 9, ground := Ground.data }, { on := 13, ground := Ground.chain }, { on := 0, ground := Ground.phase }, { on := 1, ground := Ground.phase }, { on := 2, ground := Ground.phase }, { on := 3, ground := Ground.phase }, { on := 4, ground := Ground.phase }, { on := 5, ground := Ground.phase }, { on := 6, ground := Ground.phase }, { on := 7, ground := Ground.phase }, { on := 8, ground := Ground.phase }, { on := 9, ground := Ground.phase }, { on := 10, ground := Ground.phase }, { on := 11, ground := Ground.phase }, { on := 12, ground := Ground.phase }, { on := 13, ground := Ground.phase }], guard := none }) (v := ?_) #[true, true, true, true, true, true, true, true, true, true, true, true, true, true, true] rfl rfl (by kernel_rfl) (fun _ _ _ h => h) (Or.inl ⟨by rfl, ?_⟩) hHeld ?_
            rotate_left
            · intro w' hSw; (try dsimp only at hSw); skip; go_simp; try with_reducible rfl
            simp only [Act.put, List.setIfInBounds_toArray, List.set_cons_zero, List.set_cons_succ]
            refine rgDone (by kernel_rfl) ?_ _
            (go_wp2_with fail; go_meet; exact ⟨gN, gR, A2, c2, rfl, rfl, rfl, hTN, hTR, hNR, HN, HR, HS, HZ, HX, HX2, HL, HO, HAP2, HA2, HB⟩)
          · (refine rgAlloc (.cells (nm zeros16 zeros16 (.slice none 0 0) 0 0 0) 29) (by kernel_rfl) (by rfl) ?_; intro gN w7 hgN hgN' hz hb; have hTN : T ≤ gN := Nat.le_trans HBR.out.2 hgN; (try have HXN := Lib.hid (fun a (e1 : A2 = some a) (e2 : 0 < v.n) => Nat.ne_of_lt (Nat.lt_of_lt_of_le (HX2.out.lt a e1 e2) hgN))); (try have hNR : gN ≠ gR := Nat.ne_of_gt (Nat.lt_of_lt_of_le (Array.getElem?_eq_some_iff.1 HR.out).1 hgN)); replace HS := keepA HS hb; replace HZ := keepA HZ hb; replace HX := Lib.hid (HX.out.below hb); replace HL := Lib.hid (HL.out.below hb); replace HO := Lib.hid (ownk_below HO.out hb); replace HB := keepB HB hb; replace HBR := keepB HBR hb; (try replace HN := keepA HN hb); (try replace HR := keepA HR hb); (try replace HX2 := Lib.hid (HX2.out.below hb)); have HN := Lib.hid hz; clear hz)
            refine hK.out _ _ ⟨HS.out, HL.out.at_ hn0 (uops_get hu)⟩ (fun hHeld => ?_)
            (try simp only [Act.put, List.setIfInBounds_toArray, List.set_cons_zero, List.set_cons_succ])
            clear hK K
            refine rgCall (i := 5) (N := some 24) (oi := { dst := some 24, op := Op.call { callee := Callee.value (Operand.func 17), args := #[Operand.tmp 19, Operand.tmp 23], argTypes := #[29, 50] }, type := 53, pos := "ref.go:42", after := #[{ on := 0, ground := Ground.data }, { on := 4, ground := Ground.data }], guard := none }) #[true, true, true, true, true, true, false, false, false, false, true, true, false, false, false] rfl rfl (by kernel_rfl) (fun K hK => ?_)
            go_simp
            (go_at_call 17; refine (rone_any V A1 c1 u _ (by rw [hVn, hVx]; exact HX.out) kV).mono ?_; rintro e w6 ⟨A2, c2, rfl, hr, hA, hb⟩; rw [onV_n, onV_xs, hVn, hVx] at hr; rw [hbb]; have HAP2 := Lib.hid (HAP.out.next hA HO.out); have HA2 := Lib.hid (farStep HA1.out hA (show gZ + 1 ≤ _ from (Array.getElem?_eq_some_iff.1 HZ.out).1)); (try have HXN := Lib.hid (neOf HXT.out hA hTN (Array.getElem?_eq_some_iff.1 HN.out).1)); (try have HXR := Lib.hid (neOf HXT.out hA hTR (Array.getElem?_eq_some_iff.1 HR.out).1)); replace HS := keepA HS hb; replace HZ := keepA HZ hb; replace HX := Lib.hid (HX.out.below hb); replace HL := Lib.hid (HL.out.below hb); replace HO := Lib.hid (ownk_below HO.out hb); replace HB := keepB HB hb; replace HBR := keepB HBR hb; (try replace HN := keepA HN hb); (try replace HR := keepA HR hb); (try replace HX2 := Lib.hid (HX2.out.below hb)); have HX2 := Lib.hid hr; clear hr hA)
            refine hK.out _ _ ⟨HS.out, HL.out.at_ hn0 (uops_get hu)⟩ (fun hHeld => ?_)
            (try simp only [Act.put, List.setIfInBounds_toArray, List.set_cons_zero, List.set_cons_succ])
            clear hK K
            refine rgTake (i := 6) (N := some 18) (oi := { dst := some 18, op := Op.move (Operand.tmp 24), type := 53, pos := "ref.go:42", after := #[{ on := 5, ground := Ground.data }], guard := none }) (v := ?_) #[true, true, true, true, true, true, true, false, false, false, true, true, false, false, false] rfl rfl (by kernel_rfl) (fun _ _ _ h => h) (Or.inl ⟨by rfl, ?_⟩) hHeld ?_
            rotate_left
            · intro w' hSw; (try dsimp only at hSw); skip; go_simp; try with_reducible rfl
            simp only [Act.put, List.setIfInBounds_toArray, List.set_cons_zero, List.set_cons_succ]
            refine rgTake (i := 7) (N := some 25) (oi := { dst := some 25, op := Op.extract (Operand.tmp 18) 0, type := 29, pos := "ref.go:42", after := #[{ on := 6, ground := Ground.data }], guard := none }) (v := ?_) #[true, true, true, true, true, true, true, true, false, false, true, true, false, false, false] rfl rfl (by kernel_rfl) (fun _ _ _ h => h) (Or.inl ⟨by rfl, ?_⟩) hHeld ?_
            rotate_left
            · intro w' hSw; (try dsimp only at hSw); skip; go_simp; try with_reducible rfl
            simp only [Act.put, List.setIfInBounds_toArray, List.set_cons_zero, List.set_cons_succ]
            refine rgTake (i := 8) (N := some 26) (oi := { dst := some 26, op := Op.extract (Operand.tmp 18) 1, type := 52, pos := "ref.go:42", after := #[{ on := 6, ground := Ground.data }, { on := 12, ground := Ground.gcOnly Departure.lateStores }], guard := none }) (v := ?_) #[true, true, true, true, true, true, true, true, true, false, true, true, false, false, false] rfl rfl (by kernel_rfl) (fun _ _ _ h => h) (Or.inl ⟨by rfl, ?_⟩) hHeld ?_
            rotate_left
            · intro w' hSw; (try dsimp only at hSw); skip; go_simp; try with_reducible rfl
            simp only [Act.put, List.setIfInBounds_toArray, List.set_cons_zero, List.set_cons_succ]
            refine rgTake (i := 9) (N := some 27) (oi := { dst := some 27, op := Op.extract (Operand.tmp 18) 2, type := 4, pos := "ref.go:42", after := #[{ on := 6, ground := Ground.data }, { on := 13, ground := Ground.gcOnly Departure.lateStores }], guard := none }) (v := ?_) #[true, true, true, true, true, true, true, true, true, true, true, true, false, false, false] rfl rfl (by kernel_rfl) (fun _ _ _ h => h) (Or.inl ⟨by rfl, ?_⟩) hHeld ?_
            rotate_left
            · intro w' hSw; (try dsimp only at hSw); skip; go_simp; try with_reducible rfl
            simp only [Act.put, List.setIfInBounds_toArray, List.set_cons_zero, List.set_cons_succ]
            refine rgCall (i := 12) (N := none) (oi := { dst := none, op := Op.store 29 (Operand.tmp 8) (Operand.tmp 25), type := 0, pos := "ref.go:42", after := #[{ on := 10, ground := Ground.data }, { on := 7, ground := Ground.data }, { on := 5, ground := Ground.chain }, { on := 0, ground := Ground.phase }, { on := 1, ground := Ground.phase }, { on := 2, ground := Ground.phase }, { on := 3, ground := Ground.phase }, { on := 4, ground := Ground.phase }, { on := 5, ground := Ground.phase }, { on := 6, ground := Ground.phase }, { on := 7, ground := Ground.phase }, { on := 8, ground := Ground.textOnly Departure.lateStores }, { on := 9, ground := Ground.textOnly Departure.lateStores }, { on := 10, ground := Ground.phase }, { on := 11, ground := Ground.phase }], guard := none }) #[true, true, true, true, true, true, true, true, true, true, true, true, true, false, false] rfl rfl (by kernel_rfl) (fun K hK => ?_)
            (refine rgStore (by rfl) 29 _ _ rfl gN rfl (nmA (onV V u) A2 c2) rfl HN.out (nm_szV (onV_ok kV u) _ _) (zZ _ (onV_ok kV u) _ _) (nm_oneV _ _ _) ?_; intro w9 hz ho; replace HR := keepAo HR (by omega) ho; replace HS := keepAo HS (by omega) ho; replace HZ := keepAo HZ (by omega) ho; replace HX := Lib.hid (HX.out.only2 ho (fun a e1 e2 => by have := HXT.out a e1 e2; omega)); replace HL := Lib.hid (HL.out.only2 ho (fun a e1 e2 => by have := HLL.out a e1 e2; omega)); replace HO := Lib.hid (ownk_only HO.out (fun j e => by have := HOT.out j e; omega) ho); replace HB := keepBo HB (by omega) ho; replace HBR := keepBo HBR (by omega) ho; replace HX2 := Lib.hid (HX2.out.only2 ho HXN.out); clear HN; have HN := Lib.hid hz; clear hz ho)
            refine hK.out _ _ ⟨HS.out, HL.out.at_ hn0 (uops_get hu)⟩ (fun hHeld => ?_)
            clear hK K
            refine rgCall (i := 13) (N := none) (oi := { dst := none, op := Op.store 52 (Operand.tmp 9) (Operand.tmp 26), type := 0, pos := "ref.go:42", after := #[{ on := 11, ground := Ground.data }, { on := 8, ground := Ground.data }, { on := 12, ground := Ground.chain }, { on := 0, ground := Ground.phase }, { on := 1, ground := Ground.phase }, { on := 2, ground := Ground.phase }, { on := 3, ground := Ground.phase }, { on := 4, ground := Ground.phase }, { on := 5, ground := Ground.phase }, { on := 6, ground := Ground.phase }, { on := 7, ground := Ground.phase }, { on := 8, ground := Ground.phase }, { on := 9, ground := Ground.textOnly Departure.lateStores }, { on := 10, ground := Ground.phase }, { on := 11, ground := Ground.phase }, { on := 12, ground := Ground.phase }], guard := none }) #[true, true, true, true, true, true, true, true, true, true, true, true, true, true, false] rfl rfl (by kernel_rfl) (fun K hK => ?_)
            (refine rgStore (by rfl) 52 _ _ rfl gR rfl (rA (onR V u)) rfl HR.out infoRen rfl (rA_one _) ?_; intro w10 hz ho; replace HN := keepAo HN (by omega) ho; replace HS := keepAo HS (by omega) ho; replace HZ := keepAo HZ (by omega) ho; replace HX := Lib.hid (HX.out.only2 ho (fun a e1 e2 => by have := HXT.out a e1 e2; omega)); replace HL := Lib.hid (HL.out.only2 ho (fun a e1 e2 => by have := HLL.out a e1 e2; omega)); replace HO := Lib.hid (ownk_only HO.out (fun j e => by have := HOT.out j e; omega) ho); replace HB := keepBo HB (by omega) ho; replace HBR := keepBo HBR (by omega) ho; replace HX2 := Lib.hid (HX2.out.only2 ho HXR.out); clear HR; have HR := Lib.hid hz; clear hz ho)
            refine hK.out _ _ ⟨HS.out, HL.out.at_ hn0 (uops_get hu)⟩ (fun hHeld => ?_)
            clear hK K
            refine rgTake (i := 14) (N := some 10) (oi := { dst := some 10, op := Op.assign (Operand.tmp 27), type := 4, pos := "ref.go:42", after := #[{ on := 9, ground := Ground.data }, { on := 13, ground := Ground.chain }, { on := 0, ground := Ground.phase }, { on := 1, ground := Ground.phase }, { on := 2, ground := Ground.phase }, { on := 3, ground := Ground.phase }, { on := 4, ground := Ground.phase }, { on := 5, ground := Ground.phase }, { on := 6, ground := Ground.phase }, { on := 7, ground := Ground.phase }, { on := 8, ground := Ground.phase }, { on := 9, ground := Ground.phase }, { on := 10, ground := Ground.phase }, { on := 11, ground := Ground.phase }, { on := 12, ground := Ground.phase }, { on := 13, ground := Ground.phase }], guard := none }) (v := ?_) #[true, true, true, true, true, true, true, true, true, true, true, true, true, true, true] rfl rfl (by kernel_rfl) (fun _ _ _ h => h) (Or.inl ⟨by rfl, ?_⟩) hHeld ?_
            rotate_left
            · intro w' hSw; (try dsimp only at hSw); skip; go_simp; try with_reducible rfl
            simp only [Act.put, List.setIfInBounds_toArray, List.set_cons_zero, List.set_cons_succ]
            refine rgDone (by kernel_rfl) ?_ _
            (go_wp2_with fail; go_meet; exact ⟨gN, gR, A2, c2, rfl, rfl, rfl, hTN, hTR, hNR, HN, HR, HS, HZ, HX, HX2, HL, HO, HAP2, HA2, HB⟩)
      case rest =>
        clear HS HZ HX HL HO HAP HB
        obtain ⟨gN, gR, A2, c2, rfl, rfl, rfl, hTN, hTR, hNR, HN, HR, HS, HZ, HX, HX2, HL, HO, HAP2, HA2, HB⟩ := hcut
        have HF2 := Lib.hid (far HLA.out HA2.out)
        cases bb with
        | false =>
          have hF1 := HF.out.1
          have hF2 := HF.out.2
          rw [grp_no hu hbb] at hF1 hF2
          rw [List.append_nil] at hF2
          have HG1 := Lib.hid hF1
          have HG2 := Lib.hid hF2
          clear hF1 hF2
          go_wp2_with (first | (refine rowLoad rfl 29 _ rfl gS rfl HS.out Try.underlying29 rfl (nm_szV kV _ _) ?_) | (refine rowStore rfl 29 _ _ rfl gZ rfl (nmA V A1 c1) rfl HZ.out (nm_szV kV _ _) (zZ _ kV _ _) (nm_oneV _ _ _) ?_; intro w14 hz ho; replace HX := Lib.hid (HX.out.only2 ho (fun a e1 e2 => by have := HF1.out a e1 e2; omega)); replace HO := Lib.hid (ownk_only HO.out (fun j e => by have := (HO.out.lt j e).1; omega) ho); replace HB := keepBo HB (by omega) ho; clear HZ; have HZ := Lib.hid hz; clear hz ho))
          exact bodyPost_ret (res1c rfl _ _ gZ 29 (nmA V A1 c1) (0, 0) _ rfl HZ.out Try.underlying29 rfl (nm_szV kV _ _)) rfl (by obtain ⟨B, dd, hO, hRw, hFr, hlen⟩ := RwA.of_own (by omega) (rows_size R) HO.out; exact done_grp hO hRw hFr (by simpa using hlen) HX.out HA1.out hgZ0 HG1.out HG2.out hVn hVx HB.out.1)
        | true =>
          have HFN : Hid ((grp (onV V u) (us.drop (k + 1))).1 = F ∧ (R ++ [onR V u]) ++ (grp (onV V u) (us.drop (k + 1))).2 = G) := by
            have hF1 := HF.out.1
            have hF2 := HF.out.2
            rw [grp_yes hu hbb] at hF1 hF2
            exact Lib.hid ⟨hF1, by simpa using hF2⟩
          go_wp2_with (first | (refine rowLoad rfl 29 _ rfl gN rfl HN.out Try.underlying29 rfl (nm_szV (onV_ok kV u) _ _) ?_) | (refine rowStore rfl 29 _ _ rfl gS rfl (nmA (onV V u) A2 c2) rfl HS.out (nm_szV (onV_ok kV u) _ _) (nm_eqV kV (onV_ok kV u) _ _ _ _) (nm_oneV _ _ _) ?_; intro w11 hs ho; replace HR := keepAo HR (by omega) ho; replace HZ := keepAo HZ (by omega) ho; clear HX HN; replace HX2 := Lib.hid (HX2.out.only2 ho (fun a e1 e2 => by have := HF2.out a e1 e2; omega)); replace HL := Lib.hid (HL.out.only2 ho (fun a e1 e2 => by have := HLL.out a e1 e2; omega)); replace HO := Lib.hid (ownk_only HO.out (fun j e => by have := (HO.out.lt j e).1; omega) ho); replace HB := keepBo HB (by omega) ho; clear HS; have HS := Lib.hid hs; clear hs ho) | (refine rowLoad rfl 52 _ rfl gR rfl HR.out Try.underlying52 rfl infoRen ?_) | (refine wlLit rfl 33 1 _ rfl (rA (onR V u)) 52 (fun _ => by kernel_rfl) ?_; intro gL w12 hgL hgL' hz hb; have HT := Lib.hid hz; replace HS := keepA HS hb; replace HZ := keepA HZ hb; replace HX2 := Lib.hid (HX2.out.below hb); replace HL := Lib.hid (HL.out.below hb); replace HO := Lib.hid (ownk_below HO.out hb); replace HB := keepB HB hb; clear hz hb HR) | (refine appRow rfl _ _ 33 52 (.agg (rA rZ)) 29 216 rfl Try.underlying33 infoRenZ rfl (by omega) (gZ + 1) u6 k (rows R) rfl HO.out (rA (onR V u)) rfl (rA_one _) gL 1 rfl HT.out (by unfold maxLen; omega) (by omega) (Array.getElem?_eq_some_iff.1 HZ.out).1 ?_; intro O2 w13 ho2 hg hat; have HOB : Hid (∀ j, u6.ownBlock = some j → gZ + 1 ≤ j) := Lib.hid (fun j e => (HO.out.lt j e).1); have HAP3 := Lib.hid (HAP2.out.app HX2.out hat); replace HS := keepAw HS hg (fun e => by have := HOB.out gS e.symm; omega); replace HZ := keepAw HZ hg (fun e => by have := HOB.out gZ e.symm; omega); replace HX2 := Lib.hid (HX2.out.grown hg HAP2.out); replace HL := Lib.hid (HL.out.grown hg (fun a e1 e2 e3 => by have h1 := HLL.out a e1 e2; have h2 := HOB.out a.block e3.symm; omega)); replace HB := keepBw HB hg (fun j e => by have := HOB.out j e; omega); rw [rows_add] at ho2; clear HO; have HO := Lib.hid ho2; clear ho2 hg hat HT))
          go_roundg (us.length - (k + 1))
          case rel => exact ⟨k + 1, onV V u, A2, c2, R ++ [onR V u], by omega, by go_num, by simp [hRk], HS, HZ, HX2, HL, HO, HAP3, HA2, onV_ok kV u, by rw [onV_n]; exact hVn, by rw [onV_xs]; exact hVx, HFN, HB⟩
          case measure => omega
    · obtain rfl : k = us.length := by omega
      have hF1 := HF.out.1
      have hF2 := HF.out.2
      rw [grp_nil (Nat.le_refl _)] at hF1 hF2
      rw [List.append_nil] at hF2
      have HG1 := Lib.hid hF1
      have HG2 := Lib.hid hF2
      clear hF1 hF2
      go_wp2_with (first | (refine rowLoad rfl 29 _ rfl gS rfl HS.out Try.underlying29 rfl (nm_szV kV _ _) ?_) | (refine rowStore rfl 29 _ _ rfl gZ rfl (nmA V A1 c1) rfl HZ.out (nm_szV kV _ _) (zZ _ kV _ _) (nm_oneV _ _ _) ?_; intro w14 hz ho; replace HX := Lib.hid (HX.out.only2 ho (fun a e1 e2 => by have := HF1.out a e1 e2; omega)); replace HO := Lib.hid (ownk_only HO.out (fun j e => by have := (HO.out.lt j e).1; omega) ho); replace HB := keepBo HB (by omega) ho; clear HZ; have HZ := Lib.hid hz; clear hz ho))
      exact bodyPost_ret (res1c rfl _ _ gZ 29 (nmA V A1 c1) (0, 0) _ rfl HZ.out Try.underlying29 rfl (nm_szV kV _ _)) rfl (by obtain ⟨B, dd, hO, hRw, hFr, hlen⟩ := RwA.of_own (by omega) (rows_size R) HO.out; exact done_grp hO hRw hFr (by simpa using hlen) HX.out HA1.out hgZ0 HG1.out HG2.out hVn hVx HB.out.1)
end Go.Proofs.Ytpgighhnhidpcaa.My

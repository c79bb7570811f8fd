/- The last field of an instruction: as plain data; words for its walk. -/
import Derived.Test.YtaclidjhgpkmpaaDoorAsmValues
import Derived.Test.YtaclidjhgpkmpaaDoorTextForm
import Derived.Test.YtaclidjhgpkmpaaDoorTextParseW
set_option linter.unusedVariables false
set_option linter.unusedSimpArgs false
namespace Go.Proofs.YtaclidjhgpkmpaaDoor.My
open Go.RowKit
/-- A number of 32 bits with its sign. -/
def sgn32 (v : Nat) : Int := if v % 4294967296 < 2147483648 then ((v % 4294967296 : Nat) : Int) else ((v % 4294967296 : Nat) : Int) - 4294967296
def pieceV (x : List UInt8) (v : Nat) : Int := if x = [104, 105] then ((partH v : Nat) : Int) else partL v
def isPart (x : List UInt8) : Bool := x == [104, 105] || x == [108, 111]
/-- The number that a name stands for in an instruction at a place; none: it is out of range. -/
def refV (op : Int) (v i : Nat) : Option Int :=
  if formV op = 4 ∨ op = 49 then (if sgn32 (v + 4294967296 - i) % 4 ≠ 0 then none else some (sgn32 (v + 4294967296 - i) / 4)) else some (sgn32 v)
/-- Fields with their last one as a number: 'init' stands ahead of 's'. -/
def lastV (p : Prg) (op : Int) (init : List (List UInt8)) (s : List UInt8) (i : Nat) : Nat × List (List UInt8) :=
  if init ≠ [] ∧ isPart (init.getLastD []) = true then
    if isNameV s = false then (2, []) else
      match findV p.vals s with
      | none => (10, [])
      | some v => (0, init.dropLast ++ [decL (pieceV (init.getLastD []) v)])
  else if (parseV (bs s)).2 = 3 then (3, [])
  else if (parseV (bs s)).2 ≠ 0 then
    if isNameV s = false then (0, init ++ [s]) else
      match findV p.vals s with
      | none => (10, [])
      | some v => match refV op v i with
        | none => (3, [])
        | some k => (0, init ++ [decL k])
  else (0, init ++ [decL (parseV (bs s)).1])
theorem rel_sub {v i d : Nat} (hv : v < 4294967296) (hi : i ≤ 16384) (hd : (v + 4294967296 - i) % 4294967296 = d) : ((v : Int) - (i : Int)) % 4294967296 = (d : Int) := by omega
theorem rel_wrap {v i d : Nat} (hd : (v + 4294967296 - i) % 4294967296 = d) : wrap32 (d : Int) = sgn32 (v + 4294967296 - i) := by
  have h9 : d < 4294967296 := by omega
  unfold wrap32 sgn32
  rw [hd]
  split <;> omega
theorem rel_64 {J : Int} (h1 : -2147483648 ≤ J) (h2 : J ≤ 2147483647) : wrap64 J = J := by unfold wrap64; omega
theorem rel_mod {J : Int} (h : J % 4 ≠ 0) : (J.tmod 4 != 0) = true := bne_iff_ne.2 (fun q => h (Int.emod_eq_zero_of_dvd (Int.dvd_of_tmod_eq_zero q)))
theorem rel_mod0 {J : Int} (h : J % 4 = 0) : (J.tmod 4 != 0) = false := bne_eq_false_iff_eq.2 (Int.tmod_eq_zero_of_dvd (Int.dvd_of_emod_eq_zero h))
theorem rel_div {J : Int} (h : J % 4 = 0) : J.tdiv 4 = J / 4 := Int.tdiv_eq_ediv_of_dvd (Int.dvd_of_emod_eq_zero h)
theorem abs_wrap (v : Nat) : wrap32 (v : Int) = sgn32 v := by unfold wrap32 sgn32; split <;> omega
theorem rel_le {J : Int} (h1 : -2147483648 ≤ J) (h2 : J ≤ 2147483647) : -9223372036854775808 ≤ J / 4 ∧ J / 4 ≤ 9223372036854775807 := by omega
theorem rel_64q {J : Int} (h1 : -2147483648 ≤ J) (h2 : J ≤ 2147483647) : wrap64 (J / 4) = J / 4 := by unfold wrap64; omega
theorem infoStr3 : (Tryd.prog.info? 9).map (fun i => (i.zero, i.size, i.bytes)) = some (some (.string ⟨#[]⟩), 1, 16) := by kernel_rfl
theorem rdw_take {w : World} {b off : Nat} {ws : List (List UInt8)} (h : RdW w (some ⟨b, off, none⟩) ws) (k : Nat) : RdW w (some ⟨b, off, none⟩) (ws.take k) := fun hn => by
  have hl : 0 < ws.length := by rw [List.length_take] at hn; omega
  obtain ⟨b', off', hA, hc⟩ := h hl
  refine ⟨b', off', hA, fun j s hj => hc j s ?_⟩
  rw [List.getElem?_take] at hj
  split at hj
  · exact hj
  · cases hj
theorem below_grown {w w' : World} {B : Nat} {r : Option Nat} (h : w.grownBy w' r) (hr : ∀ k, r = some k → B ≤ k) (hB : B ≤ w.heap.size) : Below B w w' := (Below.refl B w).grown h hB hr
section
variable {P : Program} {ops : Array Oper} {o : Oper} {a : Act} {w : World} {Q : Exit → Act → World → Prop} {rest : List Oper} {K : Act → World → Prop} {E : Prop} {S : World → Prop}
theorem run_headS (t : TypeId) (ht : P.underlying t = some (.slice 9)) (hs : (P.info? 9).map (·.size) = some 1) (b off cap N n : Nat) (hn : n ≤ N) (hc : N ≤ cap) (k : IntKind) (w : World) :
    (Instr.sliceAt t (.slice (some ⟨b, off, none⟩) N cap) none (some (.int k (n : Int))) none).run P w = .ok (.slice (some ⟨b, off, none⟩) n cap) w := by
  have e2 : P.elem t = 9 := by simp [Program.elem, ht]
  have ht2 : P.underlying t = some (.slice (P.elem t)) := by rw [e2]; exact ht
  have hr := run_slice_h (P := P) (w := w) t (some ⟨b, off, none⟩) N cap ht2 k (n : Int) (by omega) (by omega)
  have hr0 := run_sliceAt_slice (P := P) (w := w) t (.slice (some ⟨b, off, none⟩) N cap) none (some (.int k (n : Int))) none ht2
  have hz : (sizeOf (P.elem t)).run P w = .ok 1 w := by
    rw [e2]
    cases hq : P.info? 9 with
    | none => simp [hq] at hs
    | some q =>
      have : q.size = 1 := by simpa [hq] using hs
      simp [sizeOf, typeInfo, hq, this]
  have hv : sliced (some ⟨b, off, none⟩) 0 (n : Int).toNat cap 1 = .slice (some ⟨b, off, none⟩) n cap := by
    simp [sliced, Addr.add]
  rw [hr, hz, Result.andThen_ok, hv] at hr0
  exact hr0
theorem slHd (hw : Region.wanted o (yielded ops a.tmps) = true) (t : TypeId) (x hi : Operand) (ho : o.op = .slice t x none (some hi) none) (b off cap N n : Nat) (hx : a.eval x = .slice (some ⟨b, off, none⟩) N cap) (k : IntKind) (z : Int) (hy : a.eval hi = .int k z) (hz : z = (n : Int))
    (hr : ∀ w, (Instr.sliceAt t (.slice (some ⟨b, off, none⟩) N cap) none (some (.int k (n : Int))) none).run P w = .ok (.slice (some ⟨b, off, none⟩) n cap) w)
    (hk : wpList P ops Q rest (a.put o.dst (.slice (some ⟨b, off, none⟩) n cap)) w) : wpList P ops Q (o :: rest) a w := by
  subst hz
  refine wpList_step fun K hK => ?_
  rw [if_pos hw]
  unfold Oper.wp execOp
  simp only [ho, hx, hy, Option.map_some, Option.map_none, Sem.run_bind, Sem.run_pure, hr, Result.andThen_ok]
  exact hK _ _ hk
theorem yieldsHd (hw : Region.wanted o (yielded ops a.tmps) = true) (t : TypeId) (x hi : Operand) (ho : o.op = .slice t x none (some hi) none) (b off cap N n : Nat) (hx : a.eval x = .slice (some ⟨b, off, none⟩) N cap) (k : IntKind) (z : Int) (hy : a.eval hi = .int k z) (hz : z = (n : Int))
    (hr : ∀ w, (Instr.sliceAt t (.slice (some ⟨b, off, none⟩) N cap) none (some (.int k (n : Int))) none).run P w = .ok (.slice (some ⟨b, off, none⟩) n cap) w) : YieldsIf P ops S o (.slice (some ⟨b, off, none⟩) n cap) a :=
  .inl ⟨hw, fun w _ => by
    subst hz
    unfold execOp
    simp only [ho, hx, hy, Option.map_some, Option.map_none, Sem.run_bind, Sem.run_pure, hr, Result.andThen_ok]⟩
theorem app_words (t ty : TypeId) (ht : P.underlying t = some (.slice 9)) (hinfo : (P.info? 9).map (fun i => (i.zero, i.size, i.bytes)) = some (some (.string ⟨#[]⟩), 1, 16)) (b off c : Nat) (ws : List (List UInt8)) (hr : RdW w (some ⟨b, off, none⟩) ws) (hl : ws.length ≤ 100000) :
    ∃ v' w', (Builtin.append_ #[t, t] ty #[.slice none 0 0, .slice (some ⟨b, off, none⟩) ws.length c]).run P w = .ok v' w' ∧ w'.ownsRow w.heap.size 9 1 v' ws.length (ws.map fun x => Value.string (bs x)) ∧ Below w.heap.size w w' := by
  obtain ⟨i0, hi, hzz⟩ := Option.map_eq_some_iff.1 hinfo
  simp only [Prod.mk.injEq] at hzz
  obtain ⟨hz0, hz1, hz2⟩ := hzz
  obtain ⟨v', w', hrun, h2, h3, h4, h5⟩ := run_append_own_at (P := P) w w.heap.size t ty 9 i0 (.string ⟨#[]⟩) 1 16 ht hi hz0 hz1 hz2 rfl (by decide) (.slice none 0 0) 0 [] (own_nil _ _ _) ⟨b, off, none⟩ ws.length c (ws.map fun x => Value.string (bs x)) (by simp) (fun j u hj => by
      rw [List.getElem?_map] at hj
      obtain ⟨x, hx, rfl⟩ := Option.map_eq_some_iff.1 hj
      rw [addr_add]
      exact rdw_at hr hx) (fun u hu => by
      obtain ⟨x, _, rfl⟩ := List.mem_map.1 hu
      rfl) (by unfold maxLen; omega) (by omega) (Nat.le_refl _)
  rw [Nat.zero_add, List.nil_append] at h2
  exact ⟨v', w', hrun, h2, below_grown h3 (fun k hk => by cases hk) (Nat.le_refl _)⟩
/-- Words appended to an empty list. -/
theorem wlAppL (hw : Region.wanted o (yielded ops a.tmps) = true) (s x : Operand) (t : TypeId) (ho : o.op = .call { callee := .builtin .append, args := #[s, x], argTypes := #[t, t] })
    (ht : P.underlying t = some (.slice 9)) (hinfo : (P.info? 9).map (fun i => (i.zero, i.size, i.bytes)) = some (some (.string ⟨#[]⟩), 1, 16)) (hs : a.eval s = .slice none 0 0) (b off n c : Nat) (ws : List (List UInt8)) (hn : ws.length = n) (hx : a.eval x = .slice (some ⟨b, off, none⟩) n c) (hr : RdW w (some ⟨b, off, none⟩) ws) (hl : n ≤ 100000)
    (h : ∀ (v' : Value) (w2 : World), w2.ownsRow w.heap.size 9 1 v' n (ws.map fun x => Value.string (bs x)) → Below w.heap.size w w2 → wpList P ops Q rest (a.put o.dst v') w2) : wpList P ops Q (o :: rest) a w := by
  subst hn
  obtain ⟨v', w', hrun, h2, h3⟩ := app_words (P := P) (w := w) t o.type ht hinfo b off c ws hr hl
  refine wpList_step fun K hK => ?_
  rw [if_pos hw]
  unfold Oper.wp execOp
  simp only [ho, resolve, invoke, builtin, Sem.run_bind, Sem.run_pure, Result.andThen_ok, List.map_toArray, List.map_cons, List.map_nil, hs, hx, hrun]
  exact hK _ _ (h v' w' h2 h3)
theorem rgAppL (hw : Region.wanted o (yielded ops a.tmps) = true) (s x : Operand) (t : TypeId) (ho : o.op = .call { callee := .builtin .append, args := #[s, x], argTypes := #[t, t] })
    (ht : P.underlying t = some (.slice 9)) (hinfo : (P.info? 9).map (fun i => (i.zero, i.size, i.bytes)) = some (some (.string ⟨#[]⟩), 1, 16)) (hs : a.eval s = .slice none 0 0) (b off n c : Nat) (ws : List (List UInt8)) (hn : ws.length = n) (hx : a.eval x = .slice (some ⟨b, off, none⟩) n c) (hr : RdW w (some ⟨b, off, none⟩) ws) (hl : n ≤ 100000)
    (h : ∀ (v' : Value) (w2 : World), w2.ownsRow w.heap.size 9 1 v' n (ws.map fun x => Value.string (bs x)) → Below w.heap.size w w2 → K (a.put o.dst v') w2) : if Region.wanted o (yielded ops a.tmps) = true then Oper.wp P o a w K Q else E := by
  subst hn
  obtain ⟨v', w', hrun, h2, h3⟩ := app_words (P := P) (w := w) t o.type ht hinfo b off c ws hr hl
  rw [if_pos hw]
  unfold Oper.wp execOp
  simp only [ho, resolve, invoke, builtin, Sem.run_bind, Sem.run_pure, Result.andThen_ok, List.map_toArray, List.map_cons, List.map_nil, hs, hx, hrun]
  exact h v' w' h2 h3
end
/-- What a call that makes a list of words leaves. -/
def ListTo (w w' : World) (L : List (List UInt8)) (code : Nat) (e : Ending) : Prop :=
  (∃ A c, e = .returned (.tuple #[.slice A L.length c, .int .i64 (code : Nat)]) ∧ RdW w' A L ∧ L.length ≤ c) ∧ Below w.heap.size w w'
theorem listTo_own {w w' : World} {B n : Nat} {v : Value} {L : List (List UInt8)} {xs : List Value} (h : w'.ownsRow B 9 1 v n xs) (hn : n = L.length) (hx : xs = L.map fun x => Value.string (bs x)) (hb : Below w.heap.size w w') : ListTo w w' L 0 (.returned (.tuple #[v, .int .i64 0])) := by
  subst hn hx
  obtain ⟨A, c, rfl, h1, h2, _⟩ := own_rdw h
  exact ⟨⟨A, c, rfl, h2, h1⟩, hb⟩
theorem listTo_nil {w w' : World} {code : Nat} (hb : Below w.heap.size w w') : ListTo w w' [] code (.returned (.tuple #[.slice none 0 0, .int .i64 (code : Nat)])) := ⟨⟨none, 0, rfl, RdW.nil _ _, Nat.le_refl _⟩, hb⟩
end Go.Proofs.YtaclidjhgpkmpaaDoor.My

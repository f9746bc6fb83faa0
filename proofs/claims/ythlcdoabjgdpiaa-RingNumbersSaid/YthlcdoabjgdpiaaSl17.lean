/- The own logic, seventeenth part: append of zeros ('append(s, make(..)...)'). -/
import Derived.Test.YthlcdoabjgdpiaaSl16
import Derived.Lib.AppendZerosOnto
namespace Go.Sl
open Go.RowKit

theorem zeroCells_rows (z : Array Value) (n : Nat) (h : 0 < z.size) : Builtin.zeroCells z n = (rows n z.toList).toArray := zeros_rows n z h
theorem rows_plain {z : List Value} (h : ∀ v ∈ z, Plain v = true) (n : Nat) : ∀ v ∈ rows n z, Plain v = true := by
  intro v hv
  unfold rows at hv
  obtain ⟨l, hl, hv⟩ := List.mem_flatten.1 hv
  rw [(List.mem_replicate.1 hl).2] at hv
  exact h v hv
section
variable {P : Program} {T : Tab} {o : Oper} {ρ : Env} {I : Imm} {S : St} {K : Value → Imm → St → Prop}
theorem appendZD (hT : TabOk P T) {c : Call} {s x : Operand} {t tx e : TypeId} {s1 b1 size bytes s2 b2 : Nat} {z1 z z2 : Value} {d : TypeDesc} {kn : IntKind} (ho : o.op = .call c) (hc : c.callee = .builtin .append) (hargs : c.args = #[s, x]) (hts : c.argTypes = #[t, tx])
    (ht : T.get t = some ⟨.slice e, s1, z1, b1⟩) (htx : T.get tx = some ⟨.int kn, s2, z2, b2⟩) (he : T.get e = some ⟨d, size, z, bytes⟩) {a : Option Addr} {len cap : Nat} (hs : ρ.ev s = .slice a len cap) (k : Nat) {ch : List Blk} (hk : S[k]? = some ch) {vs : List Value} (hown : OwnC ch size a len cap vs)
    (n : Nat) {kq : IntKind} (hx : ρ.ev x = .int kq (n : Int)) (hz : z.cells.size = size) (hsz : 0 < size) (hpl : ∀ v ∈ z.cells.toList, Plain v = true) (hbytes : (len + n) * bytes ≤ 140737488355328) (hmax : len + n ≤ 9223372036854775807)
    (h : ∀ a' cap' ch', OwnC ch' size a' (len + n) cap' (vs ++ rows n z.cells.toList) → K (.slice a' (len + n) cap') I (S.set k ch')) : AnyD P o ρ I S K := by
  refine .mk ⟨fun w F hww => ?_⟩
  obtain ⟨i, hi, hu, hsize, hzero, hby⟩ := rowOf_info (hT _ _ he)
  have hti : P.underlying t = some (.slice e) := by obtain ⟨_, _, hu, _⟩ := rowOf_info (hT _ _ ht); exact hu
  have htn : P.underlying tx = some (.int kn) := by obtain ⟨_, _, hu, _⟩ := rowOf_info (hT _ _ htx); exact hu
  simp only at hsize hzero hby
  subst hsize; subst hby
  have hzc : 0 < z.cells.size := by omega
  have hexec : ∀ v w', (Builtin.append_ #[t, tx] o.type #[.slice a len cap, .int kq n]).run P w = .ok v w' → (execOp ρ.ev o).run P w = .ok (.value v) w' := by
    intro v w' hr
    simp [execOp, ho, resolve, hc, hargs, hts, hs, hx, invoke, builtin, hr]
  have hlt : k < S.length := by
    rcases Nat.lt_or_ge k S.length with g | g
    · exact g
    · rw [List.getElem?_eq_none g] at hk; cases hk
  have hrl : (rows n z.cells.toList).length = n * i.size := by rw [rows_length, Array.length_toList, hz]
  have hlen : (vs ++ rows n z.cells.toList).length = (len + n) * i.size := by rw [List.length_append, hown.n, hrl, Nat.add_mul]
  have hle := hown.le
  have hnb : n * i.bytes ≤ 281474976710656 := by
    have := Nat.mul_le_mul_right i.bytes (show n ≤ len + n by omega)
    omega
  have hw : IntKind.i64.wrap (n : Int) = n := by rw [IntKind.wrap_i64]; omega
  have hneg : ¬ ((n : Int) < 0) := by omega
  have h48i : ¬ (281474976710656 < (n : Int) * (i.bytes : Int)) := by
    rw [← Int.natCast_mul]
    omega
  rcases Nat.lt_or_ge cap (len + n) with hg | hroom
  · have hold : (Builtin.firstCells i.size len (.slice a len cap)).run P w.drew = .ok vs.toArray w.drew := (hown.slC (I := I) k hk).run (P := P) (c := cap) hww.drew
    have hn0 : 0 < n := by omega
    have hr := Lib.run_append_grow_zeros w t tx o.type e i z kq kn hti htn hi hzero a len cap vs hold n hn0 hsz hg (by omega) hnb (growslice_fits hg hbytes)
    rw [hexec _ _ hr]
    have hge := grownCap_ge w (len + n) cap e
    have e1 : Obj.cells (vs.toArray ++ Builtin.zeroCells z.cells n ++ Builtin.zeroCells z.cells (grownCap w (len + n) cap e - (len + n))) e = row ((vs ++ rows n z.cells.toList) ++ rows (grownCap w (len + n) cap e - (len + n)) z.cells.toList) e := by
      unfold row
      congr 1
      rw [zeroCells_rows _ _ hzc, zeroCells_rows _ _ hzc]
      apply Array.ext'
      simp
    rw [e1]
    refine ⟨I, _, I.le_refl, h (some ⟨w.heap.size, 0, none⟩) (grownCap w (len + n) cap e) [(w.heap.size, row ((vs ++ rows n z.cells.toList) ++ rows (grownCap w (len + n) cap e - (len + n)) z.cells.toList) e)]
      ⟨hlen, hge, .inr ⟨w.heap.size, [], rows (grownCap w (len + n) cap e - (len + n)) z.cells.toList, e, rfl, by simp, by rw [rows_length, Array.length_toList, hz]⟩⟩, ?_, (Ext.drew w).trans (Ext.alloc _ _)⟩
    exact Has.fresh k hlt _ hww.drew
  · rcases Nat.eq_zero_or_pos n with h0 | hn
    · subst h0
      have hr : (Builtin.append_ #[t, tx] o.type #[.slice a len cap, .int kq (0 : Nat)]).run P w = .ok (.slice a len cap) w := by
        cases a <;> simp [Builtin.append_, run_underlying hti, run_underlying htn, sizeOf, typeInfo, hi, asInt, asIntOf, IntKind.wrap_i64, hle, storeCells]
      rw [hexec _ _ hr]
      have hK := h a cap ch (by simpa [rows] using hown)
      rw [show S.set k ch = S from by
        apply List.ext_getElem?
        intro j
        by_cases hj : k = j
        · subst hj; rw [List.getElem?_set_self hlt, hk]
        · rw [List.getElem?_set_ne hj]] at hK
      exact ⟨I, S, I.le_refl, by simpa using hK, hww, Ext.refl w⟩
    · rcases hown.at' with h0 | ⟨b, pre, post, Ty, rfl, rfl, hp⟩
      · exfalso; omega
      · have hb : w.heap[b]? = some (row (pre ++ vs ++ post) Ty) := by
          refine In.heap (S := S) (I := I) (.own k ?_) hww
          rw [List.getD_eq_getElem?_getD, hk]; simp
        have hpp : (rows n z.cells.toList).length ≤ post.length := by
          rw [hp, hrl]; exact Nat.mul_le_mul_right _ (by omega)
        have hvl := hown.n
        obtain ⟨w', hrun, hb', hk', hx'⟩ := run_storeCells (P := P) (rows n z.cells.toList) 0 (pre ++ vs ++ post) w b (pre.length + len * i.size) Ty (0, 0) hb (by simp only [List.length_append]; omega) (rows_plain hpl n) (by right; right; exact Nat.le_refl _)
        have hns : ¬ (n * i.size = 0) := Nat.mul_ne_zero (by omega) (by omega)
        have hr : (Builtin.append_ #[t, tx] o.type #[.slice (some ⟨b, pre.length, none⟩) len cap, .int kq (n : Int)]).run P w = .ok (.slice (some ⟨b, pre.length, none⟩) (len + n) cap) w' := by
          simp [Builtin.append_, run_underlying hti, run_underlying htn, sizeOf, typeInfo, zeroValue, hi, hzero, asInt, asIntOf, hw, hneg, h48i, hns, hroom, zeroCells_rows _ _ hzc, add_none, hrun]
        rw [hexec _ _ hr]
        have hsp : splice (pre ++ vs ++ post) (pre.length + len * i.size + 0) (rows n z.cells.toList) = pre ++ (vs ++ rows n z.cells.toList) ++ post.drop (rows n z.cells.toList).length := by
          unfold splice
          rw [Nat.add_zero, ← hvl, ← List.length_append, List.take_left, ← List.drop_drop, List.drop_left]
          simp
        rw [hsp] at hb'
        refine ⟨I, _, I.le_refl, h (some ⟨b, pre.length, none⟩) cap [(b, row (pre ++ (vs ++ rows n z.cells.toList) ++ post.drop (rows n z.cells.toList).length) Ty)] ⟨hlen, hroom, .inr ⟨b, pre, _, Ty, rfl, rfl, ?_⟩⟩, Has.turnAt (A := []) (B := []) hww hk hb' hk', hx'⟩
        rw [List.length_drop, hp, hrl, ← Nat.sub_mul]; congr 1; omega
end
/-- what is owned may be laid out otherwise before a call -/
theorem Tri.lay {P : Program} {f : FuncId} {args : Array Value} {I : Imm} {S S2 : St} {K : Value → Imm → St → Prop} (hS : S.flatten = S2.flatten) (h : Tri P f args I S2 K) : Tri P f args I S K :=
  ⟨fun w F hw => h.ent w F (by rw [← hS]; exact hw), fun w F hw => h.run w F (by rw [← hS]; exact hw)⟩
end Go.Sl

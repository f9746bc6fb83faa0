/- The own logic, fifteenth part: make, copy. -/
import Derived.Test.YthlcdoabjgdpiaaSl14
import Derived.Laws.MakeOwn
namespace Go.Sl
open Go.RowKit

section
variable {P : Program} {T : Tab} {o : Oper} {ρ : Env} {I : Imm} {S : St} {K : Value → Imm → St → Prop}
theorem makeD (hT : TabOk P T) {x y : Operand} {t e : TypeId} {s1 b1 size bytes : Nat} {z1 z : Value} {d : TypeDesc} (ho : o.op = .makeSlice t x y) (ht : T.get t = some ⟨.slice e, s1, z1, b1⟩) (he : T.get e = some ⟨d, size, z, bytes⟩)
    {k1 k2 : IntKind} (l c : Nat) (hx : ρ.ev x = .int k1 (l : Int)) (hy : ρ.ev y = .int k2 (c : Int)) (hlc : l ≤ c) (hb : bytes * c ≤ 281474976710656) (h63 : c ≤ 9223372036854775807) (hsm : c * size ≤ 16777216) (hz : z.cells.size = size) (hs : 0 < size)
    (h : ∀ b, K (.slice (some ⟨b, 0, none⟩) l c) I (S ++ [[(b, row (rows c z.cells.toList) e)]])) : AnyD P o ρ I S K := by
  obtain ⟨i, hi, hu, hsize, hzero, hby⟩ := rowOf_info (hT _ _ he)
  have hti : P.underlying t = some (.slice e) := by obtain ⟨_, _, hu, _⟩ := rowOf_info (hT _ _ ht); exact hu
  simp only at hsize hzero hby
  subst hsize; subst hby
  refine .mk (OpS.makes (fun b => .slice (some ⟨b, 0, none⟩) l c) (row (rows c z.cells.toList) e) (fun w => ?_) h)
  have hr := run_makeSlice (P := P) w t e i z hti hi hzero k1 k2 (l : Int) (c : Int) (by omega) (by omega) (by rw [Int.toNat_natCast]; exact hsm) (by have := Int.ofNat_le.2 hb; rwa [Int.natCast_mul] at this) (by omega)
  have hm : madeCells z.cells ((c : Int).toNat * i.size) = (rows c z.cells.toList).toArray := by
    rw [Int.toNat_natCast, ← hz]
    exact zeros_rows c z.cells (by omega)
  rw [hm] at hr
  simp [execOp, ho, hx, hy, hr, row]
theorem OwnC.made {b l c size : Nat} {z : List Value} {T : TypeId} (hz : z.length = size) (hlc : l ≤ c) : OwnC [(b, row (rows c z) T)] size (some ⟨b, 0, none⟩) l c (rows l z) := by
  refine ⟨by rw [rows_length, hz], hlc, .inr ⟨b, [], rows (c - l) z, T, rfl, ?_, by rw [rows_length, hz]⟩⟩
  have : rows l z ++ rows (c - l) z = rows c z := by
    unfold rows
    rw [← List.flatten_append, List.replicate_append_replicate]
    congr 2; omega
  rw [List.nil_append, this]
/-- COPY, into cells that one chunk holds -/
theorem copyD (hT : TabOk P T) {c : Call} {s x : Operand} {t tx e : TypeId} {s1 b1 size bytes : Nat} {z1 z : Value} {d : TypeDesc} (ho : o.op = .call c) (hc : c.callee = .builtin .copy) (hargs : c.args = #[s, x]) (hts : c.argTypes = #[t, tx])
    (ht : T.get t = some ⟨.slice e, s1, z1, b1⟩) (he : T.get e = some ⟨d, size, z, bytes⟩) {b off len cap : Nat} (hs : ρ.ev s = .slice (some ⟨b, off, none⟩) len cap) (k : Nat) {cs : List Value} {Ty : TypeId} {fr : Nat × Nat} (hk : S[k]? = some [(b, row cs Ty fr)])
    {n : Nat} {news : List Value} (hsrc : SrcOk P I S size tx (ρ.ev x) n news) (hn : n ≤ len) (hl : off + n * size ≤ cs.length) (hf : fr.2 ≤ fr.1)
    (h : K (.int .i64 n) I (S.set k [(b, row (splice cs off news) Ty fr)])) : AnyD P o ρ I S K := by
  refine .mk ⟨fun w F hw => ?_⟩
  obtain ⟨i, hi, hu, hsize, hzero, hby⟩ := rowOf_info (hT _ _ he)
  have hti : P.underlying t = some (.slice e) := by obtain ⟨_, _, hu, _⟩ := rowOf_info (hT _ _ ht); exact hu
  simp only at hsize
  subst hsize
  have hS := hsrc w F hw
  have hb : w.heap[b]? = some (row cs Ty fr) := by
    refine In.heap (S := S) (I := I) (.own k ?_) hw
    rw [List.getD_eq_getElem?_getD, hk]; simp
  obtain ⟨w', hrun, hb', hk', hx'⟩ := run_storeCells (P := P) news 0 cs w b off Ty fr hb (by rw [hS.newsLen]; omega) hS.one (by right; right; exact hf)
  have hmin : Nat.min n len = n := Nat.min_eq_left hn
  have hexec : (execOp ρ.ev o).run P w = .ok (.value (.int .i64 n)) w' := by
    simp [execOp, ho, resolve, hc, hargs, hts, hs, invoke, builtin, Builtin.copy_, run_underlying hti, hS.len, hmin, sizeOf, typeInfo, hi, hS.cells, hrun, goInt]
  rw [hexec]
  exact ⟨I, _, I.le_refl, h, Has.turnAt (A := []) (B := []) hw hk (by simpa using hb') hk', hx'⟩
end
theorem two_get (S : St) (x y : List Blk) : (S ++ [x] ++ [y])[S.length]? = some x := by simp
theorem two_get1 (S : St) (x y : List Blk) : (S ++ [x] ++ [y])[S.length + 1]? = some y := by simp
theorem two_set (S : St) (x y z : List Blk) : (S ++ [x] ++ [y]).set S.length z = S ++ [z] ++ [y] := by simp
theorem Drop.init (S : St) (x : List Blk) : Drop (S ++ [x]) S := ⟨x, by simp⟩
theorem splice_rows (a b : Nat) (z vs : List Value) (h : vs.length = a * z.length) : splice (rows (a + b) z) 0 vs = vs ++ rows b z := by
  have e : rows (a + b) z = rows a z ++ rows b z := by
    unfold rows
    rw [← List.flatten_append, List.replicate_append_replicate]
  unfold splice
  rw [List.take_zero, List.nil_append, Nat.zero_add, e, h, ← rows_length a z, List.drop_left]
theorem OwnC.of {b len cap size : Nat} {vs post : List Value} {T : TypeId} (hn : vs.length = len * size) (hle : len ≤ cap) (hp : post.length = (cap - len) * size) : OwnC [(b, row (vs ++ post) T)] size (some ⟨b, 0, none⟩) len cap vs :=
  ⟨hn, hle, .inr ⟨b, [], post, T, rfl, by rw [List.nil_append], hp⟩⟩
theorem Cells.at {I : Imm} {S : St} {b off n : Nat} {vs : List Value} (h : Cells I S b off n vs) {i : Nat} {v : Value} (hv : vs[i]? = some v) : Cells I S b (off + i) 1 [v] := by
  obtain ⟨c, T, fr, hin, h1, h2⟩ := h.ex
  exact ⟨c, T, fr, hin, take_get h1 hv, rfl⟩
/-- so many cells from the i-th on -/
theorem Cells.part {I : Imm} {S : St} {b off n : Nat} {vs : List Value} (h : Cells I S b off n vs) {i m : Nat} (hi : i + m ≤ n) : Cells I S b (off + i) m ((vs.drop i).take m) := by
  obtain ⟨c, T, fr, hin, h1, h2⟩ := h.ex
  exact ⟨c, T, fr, hin, take_part h1 hi, by rw [List.length_take, List.length_drop, h2]; omega⟩
/-- a call that owns one chunk -/
theorem Tri.frame1 {P : Program} {f : FuncId} {args : Array Value} {I : Imm} {S : St} {Q K : Value → Imm → St → Prop} (k : Nat) {ch : List Blk} (hk : S[k]? = some ch) (h : Tri P f args I [ch] Q)
    (hK : ∀ v J S', I.le J → Q v J S' → ∃ c', S' = [c'] ∧ K v J (S.set k c')) : Tri P f args I S K := by
  refine ⟨fun w F hw => h.ent w ((S.set k []).flatten ++ F) (by simpa using hw.to_chunk hk), fun w F hw => ?_⟩
  refine (h.run w ((S.set k []).flatten ++ F) (by simpa using hw.to_chunk hk)).mono ?_
  rintro e w' ⟨v, J, S', he, hl, q, hh, hx⟩
  obtain ⟨c', rfl, hk'⟩ := hK v J S' hl q
  exact ⟨v, J, _, he, hl, hk', Has.of_chunk hk (by simpa using hh), hx⟩
end Go.Sl

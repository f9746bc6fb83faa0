/- Texts of this claim laid together: Sl24, Sl25, Sl26, Sl27, Sl28. -/
import Derived.Test.YtbpdbgcndfcilaaBReplaySpares1
import Derived.Deep.Strs
namespace Go.Sl
open Go.RowKit
section
variable {P : Program} {T : Tab} {o : Oper} {ρ : Env} {I : Imm} {S : St} {K : Value → Imm → St → Prop}
end
theorem OwnC.cellsP {ch : List Blk} {size : Nat} {a : Option Addr} {len cap : Nat} {vs : List Value} (h : OwnC ch size a len cap vs) {I : Imm} {S : St} (k : Nat) (hk : S[k]? = some ch) (hp : 0 < len * size) : ∃ b off, a = some ⟨b, off, none⟩ ∧ Cells I [S.getD k []] b off (len * size) vs := by
  have e : S.getD k [] = ch := by rw [List.getD_eq_getElem?_getD, hk]; rfl
  rcases (h.slC (I := I) (S := [S.getD k []]) 0 (by rw [e]; rfl)).mem with h0 | h
  · omega
  · exact h
end Go.Sl
namespace Go.Sl
open Go.RowKit Go.ChangeShapes Go.WideShapes

end Go.Sl
namespace Go.Sl
open Go.RowKit
theorem SlC.cells {I : Imm} {S : St} {a : Option Addr} {n : Nat} {vs : List Value} (h : SlC I S a n vs) (hn : n ≠ 0) : ∃ b off, a = some ⟨b, off, none⟩ ∧ Cells I S b off n vs := by
  rcases h.mem with h0 | h
  · exact absurd h0 hn
  · exact h
end Go.Sl
namespace Go.Sl
open Go.RowKit
end Go.Sl
namespace Go.Sl
open Go.RowKit
section
variable {P : Program} {T : Tab} {o : Oper} {ρ : Env} {I : Imm} {S : St} {K : Value → Imm → St → Prop}
/-- APPEND, onto an owned slice: in place where there is room, else into a new chunk behind all, the old one kept -/
theorem appendK (hT : TabOk P T) {c : Call} {s x : Operand} {t tx e : TypeId} {s1 b1 size bytes : Nat} {z1 z : Value} {d : TypeDesc} (ho : o.op = .call c) (hc : c.callee = .builtin .append) (hargs : c.args = #[s, x]) (hts : c.argTypes = #[t, tx])
    (ht : T.get t = some ⟨.slice e, s1, z1, b1⟩) (he : T.get e = some ⟨d, size, z, bytes⟩) {a : Option Addr} {len cap : Nat} (hs : ρ.ev s = .slice a len cap) (k : Nat) {ch : List Blk} (hk : S[k]? = some ch) {vs : List Value} (hown : OwnC ch size a len cap vs)
    {n : Nat} {news : List Value} (hsrc : SrcOk P I S size tx (ρ.ev x) n news) (hz : z.cells.size = size) (hbytes : (len + n) * bytes ≤ 140737488355328) (hmax : len + n ≤ 9223372036854775807) (hn0 : 0 < n)
    (hroom : len + n ≤ cap → ∀ ch', OwnC ch' size a (len + n) cap (vs ++ news) → K (.slice a (len + n) cap) I (S.set k ch'))
    (hgrow : cap < len + n → ∀ a' cap' ch', OwnC ch' size a' (len + n) cap' (vs ++ news) → K (.slice a' (len + n) cap') I (S ++ [ch'])) : AnyD P o ρ I S K := by
  refine .mk ⟨fun w F hw => ?_⟩
  obtain ⟨i, hi, hu, hsize, hzero, hby⟩ := rowOf_info (hT _ _ he)
  have hti : P.underlying t = some (.slice e) := by obtain ⟨_, _, hu, _⟩ := rowOf_info (hT _ _ ht); exact hu
  have hS := hsrc w F hw
  simp only at hsize hzero hby
  subst hsize; subst hby
  have hexec : ∀ v w', (Builtin.append_ #[t, tx] o.type #[.slice a len cap, ρ.ev x]).run P w = .ok v w' → (execOp ρ.ev o).run P w = .ok (.value v) w' := by
    intro v w' hr
    simp [execOp, ho, resolve, hc, hargs, hts, hs, invoke, builtin, hr]
  have hlen : (vs ++ news).length = (len + n) * i.size := by rw [List.length_append, hown.n, hS.newsLen, Nat.add_mul]
  rcases Nat.lt_or_ge cap (len + n) with hg | hroom'
  · have hold : (Builtin.firstCells i.size len (.slice a len cap)).run P w.drew = .ok vs.toArray w.drew := by
      have := (hown.slC (I := I) k hk).run (P := P) (c := cap) hw.drew
      exact this
    have hr := run_append_grow_src w t tx o.type e i z hti hi hzero a len cap vs hold (ρ.ev x) n news hS hg (by omega) (growslice_fits hg hbytes)
    rw [hexec _ _ hr]
    have hge := grownCap_ge w (len + n) cap e
    refine ⟨I, _, I.le_refl, hgrow hg (some ⟨w.heap.size, 0, none⟩) (grownCap w (len + n) cap e) [(w.heap.size, row ((vs ++ news) ++ (Builtin.zeroCells z.cells (grownCap w (len + n) cap e - (len + n))).toList) e)] ⟨hlen, hge, .inr ⟨w.heap.size, [], (Builtin.zeroCells z.cells (grownCap w (len + n) cap e - (len + n))).toList, e, rfl, by simp, ?_⟩⟩, ?_, ?_⟩
    · rw [Array.length_toList, size_zeroCells, hz]
    · have h1 := hw.drew.alloc (row ((vs ++ news) ++ (Builtin.zeroCells z.cells (grownCap w (len + n) cap e - (len + n))).toList) e)
      have e1 : (row ((vs ++ news) ++ (Builtin.zeroCells z.cells (grownCap w (len + n) cap e - (len + n))).toList) e) = Obj.cells ((vs ++ news).toArray ++ Builtin.zeroCells z.cells (grownCap w (len + n) cap e - (len + n))) e := by
        unfold row
        congr 1
        apply Array.ext'
        simp
      rw [← e1]
      refine h1.perm ?_
      simp only [List.flatten_append, List.flatten_cons, List.flatten_nil, List.append_nil, List.append_assoc, List.singleton_append]
      exact List.perm_middle.symm
    · exact (Ext.drew w).trans (Ext.alloc _ _)
  · rcases hown.at' with h0 | ⟨b, pre, post, Ty, rfl, rfl, hp⟩
    · exfalso; omega
    · have hb : w.heap[b]? = some (row (pre ++ vs ++ post) Ty) := by
        refine In.heap (S := S) (I := I) (.own k ?_) hw
        rw [List.getD_eq_getElem?_getD, hk]; simp
      have hnl := hS.newsLen
      have hpl : news.length ≤ post.length := by
        rw [hp, hnl]; exact Nat.mul_le_mul_right _ (by omega)
      have hvl := hown.n
      obtain ⟨w', hrun, hb', hk', hx'⟩ := run_storeCells (P := P) news 0 (pre ++ vs ++ post) w b (pre.length + len * i.size) Ty (0, 0) hb (by simp; omega) hS.one (by right; right; exact Nat.le_refl _)
      have hcell : ∀ j, j < news.length → (w.cell? ⟨b, pre.length + len * i.size + j, none⟩).isSome = true := by
        intro j hj
        rw [cell_of_row hb, List.getElem?_eq_getElem (by simp; omega)]; rfl
      have hfr : ∀ j, j < news.length → w.frozen? ⟨b, pre.length + len * i.size + j, none⟩ = false := by
        intro j hj
        rw [frozen_of_row hb]; simp
      have hst := run_storeCells_cells (P := P) b (pre.length + len * i.size) news 0 w (by simpa using hcell) (by simpa using hfr) hS.one
      rw [hrun] at hst
      simp only [Nat.add_zero, Result.ok.injEq, true_and] at hst
      have hr := run_append_room_src w t tx o.type e i hti hi b pre.length len cap (ρ.ev x) n news hS hroom' hcell hfr
      rw [← hst] at hr
      rw [hexec _ _ hr]
      have hsp : splice (pre ++ vs ++ post) (pre.length + len * i.size + 0) news = pre ++ (vs ++ news) ++ post.drop news.length := by
        unfold splice
        rw [Nat.add_zero, ← hvl, ← List.length_append, List.take_left, ← List.drop_drop, List.drop_left]
        simp
      rw [hsp] at hb'
      refine ⟨I, _, I.le_refl, hroom hroom' [(b, row (pre ++ (vs ++ news) ++ post.drop news.length) Ty)] ⟨hlen, hroom', .inr ⟨b, pre, _, Ty, rfl, rfl, ?_⟩⟩, Has.turnAt (A := []) (B := []) hw hk hb' hk', hx'⟩
      rw [List.length_drop, hp, hnl, ← Nat.sub_mul]; congr 1; omega
end
end Go.Sl

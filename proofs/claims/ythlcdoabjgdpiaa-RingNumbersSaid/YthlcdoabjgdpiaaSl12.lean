/- The own logic, twelfth part: slices: owned ones, append, slice expressions, what is read by an index. -/
import Derived.Test.YthlcdoabjgdpiaaSl11
import Derived.Deep.AppendSrc
import Derived.Deep.Upon
namespace Go.Sl
open Go.RowKit

/-- a slice whose cells one chunk holds -/
structure OwnC (ch : List Blk) (size : Nat) (a : Option Addr) (len cap : Nat) (vs : List Value) : Prop where
  n : vs.length = len * size
  le : len ≤ cap
  at' : cap = 0 ∨ ∃ b pre post T, a = some ⟨b, pre.length, none⟩ ∧ ch = [(b, row (pre ++ vs ++ post) T)] ∧ post.length = (cap - len) * size
theorem OwnC.nil (size : Nat) (a : Option Addr) : OwnC [] size a 0 0 [] := ⟨by simp, Nat.le_refl _, .inl rfl⟩
theorem OwnC.whole {b len size : Nat} {vs : List Value} {T : TypeId} (h : vs.length = len * size) : OwnC [(b, row vs T)] size (some ⟨b, 0, none⟩) len len vs :=
  ⟨h, Nat.le_refl _, .inr ⟨b, [], [], T, rfl, by simp, by simp⟩⟩

theorem take_get {c vs : List Value} {off n i : Nat} {v : Value} (h : (c.drop off).take n = vs) (hv : vs[i]? = some v) : (c.drop (off + i)).take 1 = [v] := by
  subst h
  rw [List.getElem?_take] at hv
  split at hv
  · rw [List.getElem?_drop] at hv
    apply List.ext_getElem?
    intro j
    cases j with
    | zero => simp [hv]
    | succ j => simp; omega
  · cases hv
/-- so many cells from the i-th on -/
theorem take_part {c vs : List Value} {off n i m : Nat} (h : (c.drop off).take n = vs) (hi : i + m ≤ n) : (c.drop (off + i)).take m = (vs.drop i).take m := by
  subst h
  rw [List.drop_take, List.take_take, List.drop_drop, Nat.min_eq_left (by omega)]

/-- cells of a slice, read -/
structure SlC (I : Imm) (S : St) (a : Option Addr) (n : Nat) (vs : List Value) : Prop where
  len : vs.length = n
  mem : n = 0 ∨ ∃ b off, a = some ⟨b, off, none⟩ ∧ Cells I S b off n vs
theorem Rds.slC {I : Imm} {S : St} {a : Option Addr} {n : Nat} {vs : List Value} (h : Rds I a n vs) : SlC I S a n vs :=
  ⟨h.len, h.mem.imp id fun ⟨b, off, c, T, fr, h1, h2, h3⟩ => ⟨b, off, h1, ⟨c, T, fr, .imm h2, h3, h.len⟩⟩⟩
theorem OwnC.slC {ch : List Blk} {size : Nat} {a : Option Addr} {len cap : Nat} {vs : List Value} (h : OwnC ch size a len cap vs) {I : Imm} {S : St} (k : Nat) (hk : S[k]? = some ch) : SlC I S a (len * size) vs := by
  refine ⟨h.n, ?_⟩
  rcases h.at' with h0 | ⟨b, pre, post, T, ha, hc, hp⟩
  · left; have := h.le; rw [show len = 0 by omega]; simp
  · right
    refine ⟨b, _, ha, ⟨pre ++ vs ++ post, T, (0, 0), .own k ?_, ?_, h.n⟩⟩
    · rw [List.getD_eq_getElem?_getD, hk, hc]; simp
    · rw [List.append_assoc, List.drop_left, ← h.n, List.take_left]
theorem SlC.run {P : Program} {I : Imm} {S : St} {a : Option Addr} {size n c : Nat} {vs : List Value} (h : SlC I S a (n * size) vs) {w : World} {F : List Blk} (hw : Has w I (S.flatten ++ F)) :
    (Builtin.firstCells size n (.slice a n c)).run P w = .ok vs.toArray w := by
  rcases h.mem with h0 | ⟨b, off, rfl, hc⟩
  · have hl := h.len
    rw [h0] at hl
    have : vs = [] := List.length_eq_zero_iff.1 hl
    subst this
    cases a with
    | none => simp [Builtin.firstCells]
    | some x => simp [Builtin.firstCells, h0, loadCells, loadCellsFrom]
  · simp [Builtin.firstCells, hc.run hw]

/-- what is appended, or copied -/
def SrcOk (P : Program) (I : Imm) (S : St) (size : Nat) (tx : TypeId) (x : Value) (n : Nat) (news : List Value) : Prop := ∀ w F, Has w I (S.flatten ++ F) → Src P size tx x n news w
theorem SrcOk.slice {P : Program} {T : Tab} (hT : TabOk P T) {I : Imm} {S : St} {size s1 b1 : Nat} {z1 : Value} {tx e' : TypeId} (ht : T.get tx = some ⟨.slice e', s1, z1, b1⟩) {a : Option Addr} {n c : Nat} {news : List Value} (h : SlC I S a (n * size) news) (h1 : ∀ u ∈ news, Plain u = true) : SrcOk P I S size tx (.slice a n c) n news := by
  intro w F hw
  have hk : P.underlying tx = some (.slice e') := by obtain ⟨_, _, hu, _⟩ := rowOf_info (hT _ _ ht); exact hu
  exact ⟨.inl ⟨e', hk⟩, fun _ => rfl, h.run hw, h.run hw.drew, h.len, h1⟩
theorem SrcOk.string {P : Program} {T : Tab} (hT : TabOk P T) {I : Imm} {S : St} {s1 b1 : Nat} {z1 : Value} {tx : TypeId} (ht : T.get tx = some ⟨.string, s1, z1, b1⟩) (s : ByteArray) : SrcOk P I S 1 tx (.string s) s.size (byteCells s) := by
  intro w F hw
  have hk : P.underlying tx = some .string := by obtain ⟨_, _, hu, _⟩ := rowOf_info (hT _ _ ht); exact hu
  exact Src.ofString w hk s

/-- a chunk is laid anew, with a new block -/
theorem Has.fresh {w : World} {I : Imm} {S : St} {F : List Blk} (k : Nat) (hlt : k < S.length) (ob : Obj) (h : Has w I (S.flatten ++ F)) : Has (w.alloc ob) I ((S.set k [(w.heap.size, ob)]).flatten ++ F) := by
  have h1 := h.alloc ob
  have e1 := set_flatten_perm S k hlt
  have e2 := set_flatten_perm (S.set k [(w.heap.size, ob)]) k (by simpa using hlt)
  rw [List.set_set] at e2
  have e3 : (S.set k [(w.heap.size, ob)]).getD k [] = [(w.heap.size, ob)] := by simp [List.getD, hlt]
  rw [e3] at e2
  have h2 : Has (w.alloc ob) I ((w.heap.size, ob) :: ((S.set k []).flatten ++ F)) := by
    refine (h1.perm ((List.Perm.append_right F e1).cons _)).sub ?_
    refine List.Sublist.cons_cons _ ?_
    rw [List.append_assoc]
    exact List.sublist_append_right _ _
  refine h2.perm ?_
  have := (List.Perm.append_right F e2).symm
  simpa using this

section
variable {P : Program} {T : Tab} {o : Oper} {ρ : Env} {I : Imm} {S : St} {K : Value → Imm → St → Prop}
/-- APPEND, onto an owned slice -/
theorem appendD (hT : TabOk P T) {c : Call} {s x : Operand} {t tx e : TypeId} {s1 b1 size bytes : Nat} {z1 z : Value} {d : TypeDesc} (ho : o.op = .call c) (hc : c.callee = .builtin .append) (hargs : c.args = #[s, x]) (hts : c.argTypes = #[t, tx])
    (ht : T.get t = some ⟨.slice e, s1, z1, b1⟩) (he : T.get e = some ⟨d, size, z, bytes⟩) {a : Option Addr} {len cap : Nat} (hs : ρ.ev s = .slice a len cap) (k : Nat) {ch : List Blk} (hk : S[k]? = some ch) {vs : List Value} (hown : OwnC ch size a len cap vs)
    {n : Nat} {news : List Value} (hsrc : SrcOk P I S size tx (ρ.ev x) n news) (hz : z.cells.size = size) (hbytes : (len + n) * bytes ≤ 140737488355328) (hmax : len + n ≤ 9223372036854775807)
    (h : ∀ a' cap' ch', OwnC ch' size a' (len + n) cap' (vs ++ news) → K (.slice a' (len + n) cap') I (S.set k ch')) : AnyD P o ρ I S K := by
  refine .mk ⟨fun w F hw => ?_⟩
  obtain ⟨i, hi, hu, hsize, hzero, hby⟩ := rowOf_info (hT _ _ he)
  have hti : P.underlying t = some (.slice e) := by obtain ⟨_, _, hu, _⟩ := rowOf_info (hT _ _ ht); exact hu
  have hS := hsrc w F hw
  simp only at hsize hzero hby
  subst hsize; subst hby
  have hexec : ∀ v w', (Builtin.append_ #[t, tx] o.type #[.slice a len cap, ρ.ev x]).run P w = .ok v w' → (execOp ρ.ev o).run P w = .ok (.value v) w' := by
    intro v w' hr
    simp [execOp, ho, resolve, hc, hargs, hts, hs, invoke, builtin, hr]
  have hlt : k < S.length := by
    rcases Nat.lt_or_ge k S.length with g | g
    · exact g
    · rw [List.getElem?_eq_none g] at hk; cases hk
  have hlen : (vs ++ news).length = (len + n) * i.size := by rw [List.length_append, hown.n, hS.newsLen, Nat.add_mul]
  rcases Nat.lt_or_ge cap (len + n) with hg | hroom
  · -- it grows
    have hold : (Builtin.firstCells i.size len (.slice a len cap)).run P w.drew = .ok vs.toArray w.drew := by
      have := (hown.slC (I := I) k hk).run (P := P) (c := cap) hw.drew
      exact this
    have hr := run_append_grow_src w t tx o.type e i z hti hi hzero a len cap vs hold (ρ.ev x) n news hS hg (by omega) (growslice_fits hg hbytes)
    rw [hexec _ _ hr]
    have hge := grownCap_ge w (len + n) cap e
    refine ⟨I, _, I.le_refl, h (some ⟨w.heap.size, 0, none⟩) (grownCap w (len + n) cap e) [(w.heap.size, row ((vs ++ news) ++ (Builtin.zeroCells z.cells (grownCap w (len + n) cap e - (len + n))).toList) e)] ⟨hlen, hge, .inr ⟨w.heap.size, [], (Builtin.zeroCells z.cells (grownCap w (len + n) cap e - (len + n))).toList, e, rfl, by simp, ?_⟩⟩, ?_, ?_⟩
    · rw [Array.length_toList, size_zeroCells, hz]
    · have := Has.fresh k hlt (row ((vs ++ news) ++ (Builtin.zeroCells z.cells (grownCap w (len + n) cap e - (len + n))).toList) e) hw.drew
      have e1 : (row ((vs ++ news) ++ (Builtin.zeroCells z.cells (grownCap w (len + n) cap e - (len + n))).toList) e) = Obj.cells ((vs ++ news).toArray ++ Builtin.zeroCells z.cells (grownCap w (len + n) cap e - (len + n))) e := by
        unfold row
        congr 1
        apply Array.ext'
        simp
      rw [← e1]
      exact this
    · exact (Ext.drew w).trans (Ext.alloc _ _)
  · rcases Nat.eq_zero_or_pos n with h0 | hn
    · subst h0
      have hnil : news = [] := List.length_eq_zero_iff.1 (by simpa using hS.newsLen)
      subst hnil
      have hr := run_append_nothing w t tx o.type e i hti hi a len cap hown.le (ρ.ev x) hS
      rw [hexec _ _ hr]
      have hK := h a cap ch (by simpa using hown)
      rw [show S.set k ch = S from by
        apply List.ext_getElem?
        intro j
        by_cases hj : k = j
        · subst hj; rw [List.getElem?_set_self hlt, hk]
        · rw [List.getElem?_set_ne hj]] at hK
      exact ⟨I, S, I.le_refl, by simpa using hK, hw, Ext.refl w⟩
    · rcases hown.at' with h0 | ⟨b, pre, post, Ty, rfl, rfl, hp⟩
      · exfalso; omega
      · have hb : w.heap[b]? = some (row (pre ++ vs ++ post) Ty) := by
          refine In.heap (S := S) (I := I) (.own k ?_) hw
          rw [List.getD_eq_getElem?_getD, hk]; simp
        have hnl := hS.newsLen
        have hpl : news.length ≤ post.length := by
          rw [hp, hnl]; exact Nat.mul_le_mul_right _ (by omega)
        have hvl := hown.n
        obtain ⟨w', hrun, hb', hk', hx'⟩ := run_storeCells (P := P) news 0 (pre ++ vs ++ post) w b (pre.length + len * i.size) Ty (0, 0) hb (by simp; omega) hS.one (by right; right; exact Nat.le_refl _)
        have hcell : ∀ j, j < news.length → (w.cell? ⟨b, pre.length + len * i.size + j, none⟩).isSome = true := by
          intro j hj
          rw [cell_of_row hb, List.getElem?_eq_getElem (by simp; omega)]; rfl
        have hfr : ∀ j, j < news.length → w.frozen? ⟨b, pre.length + len * i.size + j, none⟩ = false := by
          intro j hj
          rw [frozen_of_row hb]; simp
        have hst := run_storeCells_cells (P := P) b (pre.length + len * i.size) news 0 w (by simpa using hcell) (by simpa using hfr) hS.one
        rw [hrun] at hst
        simp only [Nat.add_zero, Result.ok.injEq, true_and] at hst
        have hr := run_append_room_src w t tx o.type e i hti hi b pre.length len cap (ρ.ev x) n news hS hroom hcell hfr
        rw [← hst] at hr
        rw [hexec _ _ hr]
        have hsp : splice (pre ++ vs ++ post) (pre.length + len * i.size + 0) news = pre ++ (vs ++ news) ++ post.drop news.length := by
          unfold splice
          rw [Nat.add_zero, ← hvl, ← List.length_append, List.take_left, ← List.drop_drop, List.drop_left]
          simp
        rw [hsp] at hb'
        refine ⟨I, _, I.le_refl, h (some ⟨b, pre.length, none⟩) cap [(b, row (pre ++ (vs ++ news) ++ post.drop news.length) Ty)] ⟨hlen, hroom, .inr ⟨b, pre, _, Ty, rfl, rfl, ?_⟩⟩, Has.turnAt (A := []) (B := []) hw hk hb' hk', hx'⟩
        rw [List.length_drop, hp, hnl, ← Nat.sub_mul]; congr 1; omega

def slAddr (a : Option Addr) (l m size : Nat) : Option Addr := if m = l then a else a.map (·.add (l * size))
/-- a bound of a slice expression -/
def Bd (ρ : Env) (x : Option Operand) (dflt n : Nat) : Prop := match x with
  | none => n = dflt
  | some y => ∃ k, ρ.ev y = .int k (n : Int)
theorem run_bound {P : Program} (w : World) (k : IntKind) (n y : Nat) (code : BoundsCode) (h : n ≤ y) : (Instr.sliceBound (.int k (n : Int)) y code).run P w = .ok n w := by
  simp [Instr.sliceBound, asIntOf, h]
/-- a slice of a slice -/
theorem sliceD (hT : TabOk P T) {x : Operand} {lo hi mx : Option Operand} {t e : TypeId} {s1 b1 size bytes : Nat} {z1 z : Value} {d : TypeDesc} (ho : o.op = .slice t x lo hi mx) (ht : T.get t = some ⟨.slice e, s1, z1, b1⟩) (he : T.get e = some ⟨d, size, z, bytes⟩)
    {a : Option Addr} {len cap : Nat} (hx : ρ.ev x = .slice a len cap) (l h m : Nat) (hl : Bd ρ lo 0 l) (hh : Bd ρ hi len h) (hm : Bd ρ mx cap m) (hmh : mx = none ∨ hi ≠ none) (hle : l ≤ h ∧ h ≤ m ∧ m ≤ cap)
    (hK : K (.slice (slAddr a l m size) (h - l) (m - l)) I S) : AnyD P o ρ I S K := by
  refine .mk (OpS.value _ (fun w F hw => ?_) hK)
  obtain ⟨i, hi', hu, hsize, hzero, hby⟩ := rowOf_info (hT _ _ he)
  have hti : P.underlying t = some (.slice e) := by obtain ⟨_, _, hu, _⟩ := rowOf_info (hT _ _ ht); exact hu
  simp only at hsize
  subst hsize
  have hb : ∀ (lo' : Option Value) (hi' : Option Value) (mx' : Option Value), (∀ v, lo' = some v → ∃ k, v = .int k (l : Int)) → (lo' = none → l = 0) → (∀ v, hi' = some v → ∃ k, v = .int k (h : Int)) → (hi' = none → h = len) → (∀ v, mx' = some v → ∃ k, v = .int k (m : Int)) → (mx' = none → m = cap) → (mx' = none ∨ hi' ≠ none) →
      (Instr.sliceBounds true len cap lo' hi' mx').run P w = .ok (l, h, m) w := by
    intro lo' hi' mx' h1 h2 h3 h4 h5 h6 h7
    cases mx' with
    | none =>
      obtain rfl := h6 rfl
      cases hi' with
      | none =>
        obtain rfl := h4 rfl
        cases lo' with
        | none => obtain rfl := h2 rfl; simp [Instr.sliceBounds]
        | some v => obtain ⟨k, rfl⟩ := h1 _ rfl; simp [Instr.sliceBounds, run_bound w k l h _ hle.1]
      | some u =>
        obtain ⟨k2, rfl⟩ := h3 _ rfl
        cases lo' with
        | none => obtain rfl := h2 rfl; simp [Instr.sliceBounds, run_bound w k2 h m _ hle.2.1]
        | some v => obtain ⟨k, rfl⟩ := h1 _ rfl; simp [Instr.sliceBounds, run_bound w k2 h m _ hle.2.1, run_bound w k l h _ hle.1]
    | some q =>
      obtain ⟨k3, rfl⟩ := h5 _ rfl
      cases hi' with
      | none => rcases h7 with h7 | h7 <;> simp at h7
      | some u =>
        obtain ⟨k2, rfl⟩ := h3 _ rfl
        cases lo' with
        | none => obtain rfl := h2 rfl; simp [Instr.sliceBounds, run_bound w k3 m cap _ hle.2.2, run_bound w k2 h m _ hle.2.1]
        | some v => obtain ⟨k, rfl⟩ := h1 _ rfl; simp [Instr.sliceBounds, run_bound w k3 m cap _ hle.2.2, run_bound w k2 h m _ hle.2.1, run_bound w k l h _ hle.1]
  have hbd : ∀ (q : Option Operand) (df n : Nat), Bd ρ q df n → (∀ v, q.map ρ.ev = some v → ∃ k, v = .int k (n : Int)) ∧ (q.map ρ.ev = none → n = df) := by
    intro q df n hq
    cases q with
    | none => exact ⟨by simp, fun _ => hq⟩
    | some y => obtain ⟨k, hk⟩ := hq; exact ⟨fun v hv => ⟨k, by simp at hv; rw [← hv, hk]⟩, by simp⟩
  have hB := hb (lo.map ρ.ev) (hi.map ρ.ev) (mx.map ρ.ev) (hbd _ _ _ hl).1 (hbd _ _ _ hl).2 (hbd _ _ _ hh).1 (hbd _ _ _ hh).2 (hbd _ _ _ hm).1 (hbd _ _ _ hm).2 (hmh.imp (fun r => by simp [r]) (fun r => by simpa using r))
  simp [execOp, ho, Instr.sliceAt, Instr.slice, run_underlying hti, hx, hB, sizeOf, typeInfo, hi', slAddr]
/-- a slice of a string -/
theorem sliceStr (hT : TabOk P T) {x : Operand} {lo hi : Option Operand} {t : TypeId} {s1 b1 : Nat} {z1 : Value} (ho : o.op = .slice t x lo hi none) (ht : T.get t = some ⟨.string, s1, z1, b1⟩)
    {s : ByteArray} (hx : ρ.ev x = .string s) (l h : Nat) (hl : Bd ρ lo 0 l) (hh : Bd ρ hi s.size h) (hle : l ≤ h ∧ h ≤ s.size) (hK : K (.string (s.extract l h)) I S) : AnyD P o ρ I S K := by
  refine .mk (OpS.value _ (fun w F hw => ?_) hK)
  have hti : P.underlying t = some .string := by obtain ⟨_, _, hu, _⟩ := rowOf_info (hT _ _ ht); exact hu
  cases lo with
  | none =>
    obtain rfl : l = 0 := hl
    cases hi with
    | none => obtain rfl : h = s.size := hh; simp [execOp, ho, Instr.sliceAt, Instr.slice, run_underlying hti, hx, Instr.sliceBounds]
    | some y => obtain ⟨k, hk⟩ := hh; simp [execOp, ho, Instr.sliceAt, Instr.slice, run_underlying hti, hx, Instr.sliceBounds, hk, run_bound w k h _ _ hle.2]
  | some q =>
    obtain ⟨k2, hk2⟩ := hl
    cases hi with
    | none => obtain rfl : h = s.size := hh; simp [execOp, ho, Instr.sliceAt, Instr.slice, run_underlying hti, hx, Instr.sliceBounds, hk2, run_bound w k2 l _ _ hle.1]
    | some y => obtain ⟨k, hk⟩ := hh; simp [execOp, ho, Instr.sliceAt, Instr.slice, run_underlying hti, hx, Instr.sliceBounds, hk, hk2, run_bound w k h _ _ hle.2, run_bound w k2 l _ _ hle.1]
end

/-- a part of an owned slice -/
theorem OwnC.part {ch : List Blk} {size : Nat} {a : Option Addr} {len cap : Nat} {vs : List Value} (h : OwnC ch size a len cap vs) (l u : Nat) (hl : l ≤ u) (hu : u ≤ len) : OwnC ch size (slAddr a l cap size) (u - l) (cap - l) ((vs.drop (l * size)).take ((u - l) * size)) := by
  have hle := h.le
  have hm1 : l * size ≤ u * size := Nat.mul_le_mul_right _ hl
  have hm2 : u * size ≤ len * size := Nat.mul_le_mul_right _ hu
  have hn := h.n
  have e1 : (u - l) * size = u * size - l * size := Nat.sub_mul ..
  refine ⟨?_, by omega, ?_⟩
  · rw [List.length_take, List.length_drop, hn]; omega
  · rcases Nat.eq_zero_or_pos (cap - l) with h0 | hp
    · exact .inl h0
    rcases h.at' with h0 | ⟨b, pre, post, T, rfl, rfl, hpl⟩
    · omega
    right
    refine ⟨b, pre ++ vs.take (l * size), vs.drop (u * size) ++ post, T, ?_, ?_, ?_⟩
    · unfold slAddr
      rw [if_neg (by omega)]
      simp only [Option.map_some, List.length_append, List.length_take]
      rw [add_none, Nat.min_eq_left (by omega)]
    · have : vs.take (l * size) ++ ((vs.drop (l * size)).take ((u - l) * size) ++ vs.drop (u * size)) = vs := by
        have e : vs.drop (u * size) = (vs.drop (l * size)).drop ((u - l) * size) := by rw [List.drop_drop]; congr 1; omega
        rw [e, List.take_append_drop, List.take_append_drop]
      congr 2
      unfold row
      congr 2
      conv => lhs; rw [← this]
      simp only [List.append_assoc]
    · rw [List.length_append, List.length_drop, hn, hpl]
      have e2 : (cap - len) * size = cap * size - len * size := Nat.sub_mul ..
      have e3 : (cap - l - (u - l)) * size = cap * size - u * size := by rw [show cap - l - (u - l) = cap - u by omega, Nat.sub_mul]
      have hm3 : len * size ≤ cap * size := Nat.mul_le_mul_right _ hle
      omega
theorem Drop.and {S S0 : St} (h : Drop S S0) : Drop S (S0 ++ [[]]) := by
  obtain ⟨R, hR⟩ := h
  exact ⟨R, by simpa using hR⟩
end Go.Sl

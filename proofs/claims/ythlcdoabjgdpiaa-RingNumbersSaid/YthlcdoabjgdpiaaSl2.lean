/- The own logic, second part: one operation at a time. -/
import Derived.Test.YthlcdoabjgdpiaaSl1
namespace Go.Sl
open Go.RowKit

/-! ### types -/
structure TyRow where
  desc : TypeDesc
  size : Nat
  zero : Value
  bytes : Nat
def rowOf (P : Program) (t : TypeId) : Option TyRow :=
  match P.info? t, P.underlying t with
  | some i, some d => match i.zero with
    | some z => some ⟨d, i.size, z, i.bytes⟩
    | none => none
  | _, _ => none
abbrev Tab := List (Nat × TyRow)
def Tab.get : Tab → TypeId → Option TyRow
  | [], _ => none
  | (k, r) :: T, t => match Nat.beq k t with
    | true => some r
    | false => Tab.get T t
def TabOk (P : Program) (T : Tab) : Prop := ∀ t r, T.get t = some r → rowOf P t = some r
theorem TabOk.of {P : Program} {T : Tab} (h : T.map (fun x => rowOf P x.1) = T.map (fun x => some x.2)) : TabOk P T := by
  intro t r hr
  induction T with
  | nil => cases hr
  | cons x T ih =>
    obtain ⟨k, y⟩ := x
    simp only [List.map_cons, List.cons.injEq] at h
    unfold Tab.get at hr
    split at hr
    · rename_i he
      have : k = t := Nat.eq_of_beq_eq_true he
      cases hr; rw [← this]; exact h.1
    · exact ih h.2 hr
theorem rowOf_info {P : Program} {t : TypeId} {r : TyRow} (h : rowOf P t = some r) : ∃ i, P.info? t = some i ∧ P.underlying t = some r.desc ∧ i.size = r.size ∧ i.zero = some r.zero ∧ i.bytes = r.bytes := by
  unfold rowOf at h
  split at h
  · rename_i i d hi hd
    split at h
    · rename_i z hz
      cases h; exact ⟨i, hi, hd, rfl, hz, rfl⟩
    · cases h
  · cases h
def TyRow.agg (r : TyRow) : Bool := match r.desc with
  | .struct _ => true
  | .array _ _ => true
  | _ => false

section
variable {P : Program} {t : TypeId} {r : TyRow} (w : World)
theorem run_underlying_row (h : rowOf P t = some r) : (underlying t).run P w = .ok r.desc w := by
  obtain ⟨i, _, hu, _⟩ := rowOf_info h; exact run_underlying hu w
theorem run_typeInfo_row (h : rowOf P t = some r) : ∃ i, P.info? t = some i ∧ (typeInfo t).run P w = .ok i w ∧ i.size = r.size ∧ i.zero = some r.zero ∧ i.bytes = r.bytes := by
  obtain ⟨i, hi, _, hs, hz, hb⟩ := rowOf_info h
  exact ⟨i, hi, by simp [typeInfo, hi], hs, hz, hb⟩
theorem run_sizeOf_row (h : rowOf P t = some r) : (sizeOf t).run P w = .ok r.size w := by
  obtain ⟨i, _, hr, hs, _⟩ := run_typeInfo_row w h
  simp [sizeOf, hr, hs]
theorem run_zeroValue_row (h : rowOf P t = some r) : (zeroValue t).run P w = .ok r.zero w := by
  obtain ⟨i, _, hr, _, hz, _⟩ := run_typeInfo_row w h
  simp [zeroValue, hr, hz]
theorem run_isAgg_row (h : rowOf P t = some r) : (isAgg t).run P w = .ok r.agg w := by
  simp only [isAgg, Sem.run_bind, run_underlying_row w h, Result.andThen_ok]
  unfold TyRow.agg
  cases r.desc <;> rfl
end

/-! ### cells -/
theorem cell_of_row {w : World} {b : Nat} {c : List Value} {T : TypeId} {fr : Nat × Nat} (h : w.heap[b]? = some (row c T fr)) (o : Nat) : w.cell? ⟨b, o, none⟩ = c[o]? := by
  unfold World.cell?
  simp only [h, row]
  simp
theorem frozen_of_row {w : World} {b : Nat} {c : List Value} {T : TypeId} {fr : Nat × Nat} (h : w.heap[b]? = some (row c T fr)) (o : Nat) : w.frozen? ⟨b, o, none⟩ = (decide (fr.1 ≤ o) && decide (o < fr.2)) := by
  unfold World.frozen?
  simp only [h, row]
theorem add_none (b o n : Nat) : Addr.add ⟨b, o, none⟩ n = ⟨b, o + n, none⟩ := Addr.add_lit b o n

/-- some cells that lie in what is fixed, or owned -/
inductive In (I : Imm) (S : St) (b : Nat) (o : Obj) : Prop
  | imm (h : I b = some o)
  | own (k : Nat) (h : (b, o) ∈ S.getD k [])
theorem In.heap {I : Imm} {S : St} {b : Nat} {o : Obj} (h : In I S b o) {w : World} {F : List Blk} (hw : Has w I (S.flatten ++ F)) : w.heap[b]? = some o := by
  cases h with
  | imm h => exact hw.imm _ _ h
  | own k h =>
    refine hw.mem (b, o) (List.mem_append_left _ ?_)
    rw [List.mem_flatten]
    refine ⟨S.getD k [], ?_, h⟩
    rcases Nat.lt_or_ge k S.length with g | g
    · rw [List.getD_eq_getElem?_getD, List.getElem?_eq_getElem g]; simp
    · rw [List.getD_eq_getElem?_getD, List.getElem?_eq_none g] at h; cases h
/-- n cells from a place on -/
structure Cells (I : Imm) (S : St) (b off n : Nat) (vs : List Value) : Prop where
  ex : ∃ c T fr, In I S b (row c T fr) ∧ (c.drop off).take n = vs ∧ vs.length = n
theorem Cells.cell {I : Imm} {S : St} {b off n : Nat} {vs : List Value} (h : Cells I S b off n vs) {w : World} {F : List Blk} (hw : Has w I (S.flatten ++ F))
    (j : Nat) (v : Value) (hv : vs[j]? = some v) : w.cell? ⟨b, off + j, none⟩ = some v := by
  obtain ⟨c, T, fr, hin, rfl, hl⟩ := h.ex
  rw [cell_of_row (hin.heap hw)]
  rw [List.getElem?_take] at hv
  split at hv
  · rw [List.getElem?_drop] at hv; exact hv
  · cases hv
theorem Cells.run {P : Program} {I : Imm} {S : St} {b off n : Nat} {vs : List Value} (h : Cells I S b off n vs) {w : World} {F : List Blk} (hw : Has w I (S.flatten ++ F)) :
    (loadCells ⟨b, off, none⟩ n).run P w = .ok vs.toArray w := by
  have := run_loadCells_list (P := P) w ⟨b, off, none⟩ vs (fun j v hv => by rw [add_none]; exact h.cell hw j v hv)
  obtain ⟨c, T, fr, hin, _, hl⟩ := h.ex
  rw [hl] at this; exact this

/-- values written into a row from a place on -/
def splice (c : List Value) (off : Nat) (vs : List Value) : List Value := c.take off ++ vs ++ c.drop (off + vs.length)
def Plain (v : Value) : Bool := v.oneCell'
theorem setCell_heap_row {w : World} {b : Nat} {c : List Value} {T : TypeId} {fr : Nat × Nat} (h : w.heap[b]? = some (row c T fr)) (o : Nat) (v : Value) :
    (w.setCell ⟨b, o, none⟩ v).heap[b]? = some (row (c.set o v) T fr) := by
  simp only [World.setCell, Array.getElem?_modify, h, row]
  simp [List.setIfInBounds_toArray]
theorem splice_cons (c : List Value) (o : Nat) (v : Value) (vs : List Value) (h : o + (vs.length + 1) ≤ c.length) :
    splice (c.set o v) (o + 1) vs = splice c o (v :: vs) := by
  unfold splice
  have e : (c.set o v).take (o + 1) = c.take o ++ [v] := by
    rw [List.take_set, List.take_succ_eq_append_getElem (by omega)]
    rw [List.set_append]
    simp [List.length_take, Nat.min_eq_left (show o ≤ c.length by omega)]
  rw [e, List.drop_set_of_lt (by omega)]
  simp only [List.length_cons, List.append_assoc, List.singleton_append]
  rw [show o + 1 + vs.length = o + (vs.length + 1) from by omega]
theorem run_storeCells {P : Program} : ∀ (vs : List Value) (i : Nat) (c : List Value) (w : World) (b off : Nat) (T : TypeId) (fr : Nat × Nat), w.heap[b]? = some (row c T fr) →
    off + i + vs.length ≤ c.length → (∀ v ∈ vs, Plain v = true) → (fr.2 ≤ off ∨ off + i + vs.length ≤ fr.1 ∨ fr.2 ≤ fr.1) →
    ∃ w', (storeCells ⟨b, off, none⟩ vs i).run P w = .ok () w' ∧ w'.heap[b]? = some (row (splice c (off + i) vs) T fr) ∧ (∀ k, k ≠ b → w'.heap[k]? = w.heap[k]?) ∧ Ext w w'
  | [], i, c, w, b, off, T, fr, h, _, _, _ => ⟨w, by simp [storeCells], by simpa [splice] using h, fun _ _ => rfl, Ext.refl w⟩
  | v :: vs, i, c, w, b, off, T, fr, h, hl, hp, hf => by
    simp only [List.length_cons] at hl hf
    have hc : w.cell? ⟨b, off + i, none⟩ = some (c[off + i]'(by omega)) := by rw [cell_of_row h]; exact List.getElem?_eq_getElem _
    have hfr : w.frozen? ⟨b, off + i, none⟩ = false := by
      rw [frozen_of_row h, Bool.and_eq_false_iff, decide_eq_false_iff_not, decide_eq_false_iff_not]
      omega
    have hs : (store ⟨b, off + i, none⟩ v .plain).run P w = .ok () (w.setCell ⟨b, off + i, none⟩ v) := by
      rw [run_store P w _ v .plain (hp v (by simp))]; simp [hc, hfr]
    obtain ⟨w', hr, hb, hk, hx⟩ := run_storeCells (P := P) vs (i + 1) (c.set (off + i) v) (w.setCell ⟨b, off + i, none⟩ v) b off T fr (setCell_heap_row h _ v)
      (by simp; omega) (fun u hu => hp u (by simp [hu])) (by omega)
    refine ⟨w', ?_, ?_, ?_, ?_⟩
    · simp only [storeCells, Sem.run_bind, add_none, hs, Result.andThen_ok]; exact hr
    · rw [hb, ← splice_cons c (off + i) v vs (by omega)]; rfl
    · intro k hk'
      rw [hk k hk', Below.heap_setCell _ _ _ _ (by simpa using hk')]
    · exact (Ext.trans (b := w.setCell ⟨b, off + i, none⟩ v) ⟨rfl, rfl, rfl, by simp⟩ hx)

/-! ### the judgement on one operation -/
def Env.ev (ρ : Env) : Operand → Value
  | .tmp t => ρ t
  | .const v => v
  | .global g => .pointer (some ⟨g, 0, none⟩)
  | .func f => .func (.func f) #[] #[]
def Env.upd (ρ : Env) (d : Nat) (v : Value) : Env := fun t => match Nat.beq t d with
  | true => v
  | false => ρ t
def Env.put (ρ : Env) (d : Option Nat) (v : Value) : Env := match d with
  | some d => ρ.upd d v
  | none => ρ
/-- the fence that lets all in, of a round or of none -/
def wR (rd : Option Nat) : Fence := { Fence.wide with round := rd }
theorem callsIn_wR {rd : Option Nat} {n : Nat} {P : Program} {f : FuncId} {args : Array Value} {w : World} {R : Ending → World → Prop} (h : Calls P f args w R) : CallsIn (wR rd) n P f args w R :=
  (callsIn_wide (n := n) (P := P)).2 h
theorem roundIn_wR {rd : Option Nat} {n m : Nat} {P : Program} {l : Nat} {f : FuncId} {tmps : Array Value} {x y : Code} {w : World} {R : Ending → World → Prop} (h : RoundIn Fence.wide m P l f tmps x y w R) : RoundIn (wR rd) n P l f tmps x y w R :=
  ⟨trivial, fun c cs _ => h.2 c cs (room_wide _)⟩
/-- what a function that ranges over functions leaves among its deferred calls -/
def marks (ds : List Nat) : List Deferred := ds.map fun d => { target := .collected d, args := #[] }
def markB (ds : List Nat) : List Blk := ds.map fun d => (d, .deferred (some []))
structure Rel (n : Nat) (D : List Deferred) (a : Act) (ρ : Env) : Prop where
  defers : a.defers = D
  size : a.tmps.size = n
  get : ∀ t, a.tmps.getD t undef = ρ t
theorem Rel.eval {n : Nat} {D : List Deferred} {a : Act} {ρ : Env} (h : Rel n D a ρ) : a.eval = ρ.ev := by
  funext x; cases x with
  | tmp t => exact h.get t
  | const v => rfl
  | global g => rfl
  | func f => rfl
theorem Rel.put {n : Nat} {D : List Deferred} {a : Act} {ρ : Env} (h : Rel n D a ρ) (d : Option Nat) (hd : ∀ k, d = some k → k < n) (v : Value) : Rel n D (a.put d v) (ρ.put d v) := by
  cases d with
  | none => exact h
  | some d =>
    refine ⟨h.defers, by simp [Act.put, h.size], ?_⟩
    intro t
    show (a.tmps.setIfInBounds d v).getD t undef = (match Nat.beq t d with | true => v | false => ρ t)
    have hdn := hd d rfl
    by_cases e : t = d
    · subst e
      have : Nat.beq t t = true := Nat.beq_refl t
      rw [this]
      simp [Array.getD_eq_getD_getElem?, h.size, hdn]
    · have : Nat.beq t d = false := by
        cases hb : Nat.beq t d with
        | false => rfl
        | true => exact absurd (Nat.eq_of_beq_eq_true hb) e
      rw [this]
      have := h.get t
      simpa [Array.getD_eq_getD_getElem?, Array.getElem?_setIfInBounds_ne (Ne.symm e)] using this

/-- what an operation comes to -/
def Upto (I : Imm) (F : List Blk) (w : World) (K : Value → Imm → St → Prop) (v : Value) (w' : World) : Prop :=
  ∃ J S', I.le J ∧ K v J S' ∧ Has w' J (S'.flatten ++ F) ∧ Ext w w'
def UponS (P : Program) (r : Result Next) (R : Value → World → Prop) : Prop := match r with
  | .ok (.value v) w' => R v w'
  | .ok .skip w' => R undef w'
  | .ok (.enter f args) w' => Calls P f args w' fun e w'' => ∃ v, e = .returned v ∧ R v w''
  | .ok (.round l f tmps x y) w' => RoundIn Fence.wide 0 P l f tmps x y w' fun e w'' => ∃ v, e = .returned v ∧ R v w''
  | _ => False
structure OpS (P : Program) (o : Oper) (ρ : Env) (I : Imm) (S : St) (K : Value → Imm → St → Prop) : Prop where
  run : ∀ w F, Has w I (S.flatten ++ F) → UponS P ((execOp ρ.ev o).run P w) (Upto I F w K)
theorem OpS.wp {P : Program} {o : Oper} {ρ : Env} {I : Imm} {S : St} {K : Value → Imm → St → Prop} (h : OpS P o ρ I S K) {a : Act} {n : Nat} {D : List Deferred} (hr : Rel n D a ρ) {w : World} {F : List Blk} (hw : Has w I (S.flatten ++ F))
    (rd : Option Nat) (Q : Exit → Act → World → Prop) : o.wpIn (wR rd) 0 P a w (fun a' w' => ∃ v, a' = a.put o.dst v ∧ Upto I F w K v w') Q := by
  have := h.run w F hw
  refine ⟨fun _ _ => trivial, ?_⟩
  have hsem : o.semAt (wR rd).round a.eval = execOp ρ.ev o := by
    rw [hr.eval]
    refine Oper.semAt_eq _ _ _ fun c hc => ?_
    simp only [execOp, hc, Sem.run_bind] at this
    cases hres : (resolve ρ.ev c o.type).run P w <;> simp [hres, UponS] at this
  rw [hsem]
  generalize (execOp ρ.ev o).run P w = r at this
  unfold UponS at this
  split at this
  · exact ⟨_, rfl, this⟩
  · exact ⟨_, rfl, this⟩
  · rw [Oper.uponIn_enter]
    refine ⟨(by intro h; cases h), callsIn_wR (this.mono ?_)⟩
    rintro e w'' ⟨v, rfl, hv⟩
    exact ⟨v, rfl, hv⟩
  · refine ⟨(by intro h; cases h), roundIn_wR (this.mono ?_)⟩
    rintro e w'' ⟨v, rfl, hv⟩
    exact ⟨v, rfl, hv⟩
  · exact this.elim
theorem OpS.mono {P : Program} {o : Oper} {ρ : Env} {I : Imm} {S : St} {K K' : Value → Imm → St → Prop} (h : OpS P o ρ I S K) (hk : ∀ v J S', I.le J → K v J S' → K' v J S') : OpS P o ρ I S K' := by
  refine ⟨fun w F hw => ?_⟩
  have := h.run w F hw
  have up : ∀ v w', Upto I F w K v w' → Upto I F w K' v w' := fun v w' ⟨J, S', h1, h2, h3, h4⟩ => ⟨J, S', h1, hk v J S' h1 h2, h3, h4⟩
  generalize (execOp ρ.ev o).run P w = r at this
  unfold UponS at this ⊢
  split at this
  · exact up _ _ this
  · exact up _ _ this
  · exact this.mono fun e w'' ⟨v, he, hv⟩ => ⟨v, he, up _ _ hv⟩
  · exact this.mono fun e w'' ⟨v, he, hv⟩ => ⟨v, he, up _ _ hv⟩
  · exact this.elim

theorem OpS.value {P : Program} {o : Oper} {ρ : Env} {I : Imm} {S : St} {K : Value → Imm → St → Prop} (v : Value)
    (h : ∀ w F, Has w I (S.flatten ++ F) → (execOp ρ.ev o).run P w = .ok (.value v) w) (hK : K v I S) : OpS P o ρ I S K := by
  refine ⟨fun w F hw => ?_⟩
  rw [h w F hw]
  exact ⟨I, S, I.le_refl, hK, hw, Ext.refl w⟩
/-- an operation that makes one block -/
theorem OpS.makes {P : Program} {o : Oper} {ρ : Env} {I : Imm} {S : St} {K : Value → Imm → St → Prop} (f : Nat → Value) (ob : Obj)
    (h : ∀ w, (execOp ρ.ev o).run P w = .ok (.value (f w.heap.size)) (w.alloc ob)) (hK : ∀ b, K (f b) I (S ++ [[(b, ob)]])) : OpS P o ρ I S K := by
  refine ⟨fun w F hw => ?_⟩
  rw [h w]
  refine ⟨I, _, I.le_refl, hK _, ?_, Ext.alloc w ob⟩
  refine (hw.alloc ob).perm ?_
  simp only [List.flatten_append, List.flatten_cons, List.flatten_nil, List.append_nil, List.append_assoc, List.singleton_append]
  exact List.perm_middle.symm

/-- a chunk's block is another one -/
theorem Has.turnAt {w w' : World} {I : Imm} {S : St} {F : List Blk} {k : Nat} {A B : List Blk} {b : Nat} {o o' : Obj} (h : Has w I (S.flatten ++ F))
    (hk : S[k]? = some (A ++ (b, o) :: B)) (hb : w'.heap[b]? = some o') (he : ∀ j, j ≠ b → w'.heap[j]? = w.heap[j]?) : Has w' I ((S.set k (A ++ (b, o') :: B)).flatten ++ F) := by
  have hlt : k < S.length := by
    rcases Nat.lt_or_ge k S.length with g | g
    · exact g
    · rw [List.getElem?_eq_none g] at hk; cases hk
  have hS : S = S.take k ++ (A ++ (b, o) :: B) :: S.drop (k + 1) := by
    have e : S[k] = A ++ (b, o) :: B := by rw [List.getElem?_eq_getElem hlt] at hk; exact Option.some.inj hk
    rw [← e, ← List.drop_eq_getElem_cons hlt, List.take_append_drop]
  have hS' : S.set k (A ++ (b, o') :: B) = S.take k ++ (A ++ (b, o') :: B) :: S.drop (k + 1) := by
    rw [List.set_eq_take_append_cons_drop, if_pos hlt]
  rw [hS']
  rw [hS] at h
  simp only [List.flatten_append, List.flatten_cons, List.append_assoc, List.cons_append] at h ⊢
  rw [← List.append_assoc] at h ⊢
  exact Has.turn h hb he

/-! ### what stands at the head of a goal where something is to be shown -/
/-- a load -/
inductive LoadD (I : Imm) (S : St) (b off n : Nat) (K : List Value → Prop) : Prop
  | mk (vs : List Value) (h : Cells I S b off n vs) (k : K vs)
/-- a store -/
inductive StoreD (S : St) (b off : Nat) (vs : List Value) (K : St → Prop) : Prop
  | mk (k : Nat) (A B : List Blk) (c : List Value) (T : TypeId) (fr : Nat × Nat) (hk : S[k]? = some (A ++ (b, row c T fr) :: B)) (hl : off + vs.length ≤ c.length)
    (hf : fr.2 ≤ off ∨ off + vs.length ≤ fr.1 ∨ fr.2 ≤ fr.1) (h : K (S.set k (A ++ (b, row (splice c off vs) T fr) :: B)))
/-- something that must hold for the operation to go through -/
inductive Chk (p : Prop) (A : Prop) : Prop
  | mk (h : p) (a : A)
/-- an operation that only computes, its value given by hand -/
inductive PureD (P : Program) (o : Oper) (ρ : Env) (K : Value → Prop) : Prop
  | mk (v : Value) (h : ∀ w, (execOp ρ.ev o).run P w = .ok (.value v) w) (k : K v)
/-- an operation given by hand -/
inductive AnyD (P : Program) (o : Oper) (ρ : Env) (I : Imm) (S : St) (K : Value → Imm → St → Prop) : Prop
  | mk (h : OpS P o ρ I S K)
/-- the end -/
inductive Done (p : Prop) : Prop
  | mk (h : p)

/-- a list's spine made plain -/
def spine : List Value → (List Value → Prop) → Prop
  | [], K => K []
  | x :: xs, K => spine xs fun ys => K (x :: ys)
theorem spine_eq : ∀ (l : List Value) (K : List Value → Prop), spine l K = K l
  | [], _ => rfl
  | x :: xs, K => by rw [spine, spine_eq xs]

def addOff (off n size : Nat) : Nat := match size with
  | 1 => off + n
  | s => off + n * s
theorem addOff_eq (off n size : Nat) : addOff off n size = off + n * size := by
  unfold addOff; split
  · rw [Nat.mul_one]
  · rfl
end Go.Sl

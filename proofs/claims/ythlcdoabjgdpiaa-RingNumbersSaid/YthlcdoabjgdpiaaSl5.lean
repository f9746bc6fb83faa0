/- The own logic, fifth part: what opD says is right. -/
import Derived.Test.YthlcdoabjgdpiaaSl4
namespace Go.Sl
open Go.RowKit

theorem foldl_set_splice : ∀ (vs : List Value) (off j : Nat) (c : List Value), off + j + vs.length ≤ c.length →
    ((vs.zipIdx j).foldl (fun (cs : Array Value) (x : Value × Nat) => cs.setIfInBounds (off + x.2) x.1) c.toArray) = (splice c (off + j) vs).toArray
  | [], off, j, c, _ => by simp [splice]
  | v :: vs, off, j, c, h => by
    simp only [List.length_cons] at h
    rw [List.zipIdx_cons, List.foldl_cons]
    simp only [List.setIfInBounds_toArray]
    rw [foldl_set_splice vs off (j + 1) (c.set (off + j) v) (by simp; omega)]
    rw [show off + (j + 1) = off + j + 1 from rfl, splice_cons c (off + j) v vs (by omega)]
theorem splice_length (c : List Value) (off : Nat) (vs : List Value) (h : off + vs.length ≤ c.length) : (splice c off vs).length = c.length := by
  unfold splice; simp [List.length_take, List.length_drop]; omega
theorem fill_eq (place : Nat → Option (Nat × Nat)) : ∀ (parts : List (Nat × Value)) (cells : List Value) (r : List Value), fillL place cells parts = some r → Instr.fill place cells.toArray parts = some r.toArray
  | [], cells, r, h => by simp [fillL] at h; subst h; simp [Instr.fill]
  | (i, v) :: rest, cells, r, h => by
    rw [fillL] at h
    rw [Instr.fill]
    split at h
    · cases h
    · rename_i off size hp
      simp only [] at h
      split at h
      · rename_i hb
        simp only [Bool.and_eq_true] at hb
        have h1 := Nat.eq_of_beq_eq_true hb.1
        have h2 := Nat.le_of_ble_eq_true hb.2
        rw [Array.length_toList] at h1 h2
        simp only [hp]
        rw [if_neg (by simp; omega)]
        have e : (v.cells.zipIdx.foldl (fun (cs : Array Value) (x : Value × Nat) => cs.setIfInBounds (off + x.2) x.1) cells.toArray) = (splice cells off v.cells.toList).toArray := by
          have := foldl_set_splice v.cells.toList off 0 cells (by simp; omega)
          rw [← Array.foldl_toList, Array.toList_zipIdx]
          exact this
        rw [show (fun (cs : Array Value) (x : Value × Nat) => match x with | (c, j) => cs.setIfInBounds (off + j) c) = (fun (cs : Array Value) (x : Value × Nat) => cs.setIfInBounds (off + x.2) x.1) from rfl, e]
        exact fill_eq place rest _ r h
      · cases h
theorem rows_get : ∀ (n : Nat) (z : List Value) (i : Nat), 0 < z.length → i < n * z.length → (rows n z)[i]? = z[i % z.length]?
  | 0, z, i, _, h => by simp at h
  | n + 1, z, i, hz, h => by
    rw [rows, List.replicate_succ, List.flatten_cons]
    rw [Nat.succ_mul] at h
    by_cases hi : i < z.length
    · rw [List.getElem?_append_left hi, Nat.mod_eq_of_lt hi]
    · rw [List.getElem?_append_right (by omega)]
      have := rows_get n z (i - z.length) hz (by omega)
      rw [rows] at this
      rw [this]
      congr 1
      conv => rhs; rw [show i = (i - z.length) + z.length from by omega]
      rw [Nat.add_mod_right]
theorem rows_length (n : Nat) (z : List Value) : (rows n z).length = n * z.length := by
  simp [rows]
theorem zeros_rows (n : Nat) (z : Array Value) (h : 0 < z.size) : (Array.range (n * z.size)).map (fun i => z[i % z.size]!) = (rows n z.toList).toArray := by
  apply Array.ext'
  simp only [Array.toList_map, Array.toList_range]
  apply List.ext_getElem?
  intro i
  by_cases hi : i < n * z.size
  · rw [rows_get n z.toList i (by simpa using h) (by simpa using hi)]
    have hm : i % z.size < z.size := Nat.mod_lt _ h
    simp [hi, hm]
  · rw [List.getElem?_eq_none (by simpa using hi), List.getElem?_eq_none (by rw [rows_length]; simpa using hi)]

section
variable {P : Program} {T : Tab} {ρ : Env} {I : Imm} {S : St} {K : Value → Imm → St → Prop}
theorem LoadD.run {b off n : Nat} {G : List Value → Prop} (h : LoadD I S b off n G) : ∃ vs, Cells I S b off n vs ∧ G vs := by
  obtain ⟨vs, hc, k⟩ := h; exact ⟨vs, hc, k⟩
/-- a store, as an operation -/
theorem StoreD.ops {o : Oper} {t : TypeId} {r : TyRow} {x y : Operand} {b off : Nat} (ho : o.op = .store t x y) (hr : rowOf P t = some r) (hx : ρ.ev x = .pointer (some ⟨b, off, none⟩))
    (hlen : (ρ.ev y).cells.toList.length = r.size) (hp : ∀ v ∈ (ρ.ev y).cells.toList, Plain v = true) (h : StoreD S b off (ρ.ev y).cells.toList fun S' => K undef I S') : OpS P o ρ I S K := by
  obtain ⟨k, A, B, c, Ty, fr, hk, hl, hf, hK⟩ := h
  refine ⟨fun w F hw => ?_⟩
  have hb : w.heap[b]? = some (row c Ty fr) := by
    refine In.heap (.own k ?_) hw
    rw [List.getD_eq_getElem?_getD, hk]; simp
  obtain ⟨w', hrun, hb', hk', hx'⟩ := run_storeCells (P := P) (ρ.ev y).cells.toList 0 c w b off Ty fr hb (by omega) hp (by omega)
  have hexec : (execOp ρ.ev o).run P w = .ok .skip w' := by
    simp only [execOp, ho, Instr.storeAt, hx, Instr.sureAddr, storeVar, Sem.run_bind, Sem.run_pure, Result.andThen_ok, run_sizeOf_row w hr]
    rw [if_neg (by rw [← hlen]; simp)]
    simp only [Result.andThen_ok, hrun]
  rw [hexec]
  exact ⟨I, _, I.le_refl, hK, Has.turnAt hw hk (by simpa using hb') hk', hx'⟩
/-- a call, as an operation -/
theorem Tri.ops {o : Oper} {c : Call} {f : Operand} {g : FuncId} {first captured : Array Value} (ho : o.op = .call c) (hc : c.callee = .value f) (hf : ρ.ev f = .func (.func g) first captured)
    {args : Array Value} (ha : args = first ++ c.args.map ρ.ev ++ captured) (h : Tri P g args I S K) : OpS P o ρ I S K := by
  subst ha
  refine ⟨fun w F hw => ?_⟩
  have hexec : (execOp ρ.ev o).run P w = .ok (.enter g (first ++ c.args.map ρ.ev ++ captured)) w := by
    simp only [execOp, ho, resolve, hc, hf, Deferred.ofValue, Sem.run_bind, Sem.run_pure, Result.andThen_ok, invoke]
    exact h.ent w F hw
  rw [hexec]
  show Calls P g _ w _
  refine (h.run w F hw).mono ?_
  rintro e w' ⟨v, J, S', rfl, hl, hk, hh, hx⟩
  exact ⟨v, rfl, J, S', hl, hk, hh, hx⟩
end

theorem AnyD.out {P : Program} {o : Oper} {ρ : Env} {I : Imm} {S : St} {K : Value → Imm → St → Prop} (h : AnyD P o ρ I S K) : OpS P o ρ I S K := by
  obtain ⟨h⟩ := h; exact h

theorem PureD.out {P : Program} {o : Oper} {ρ : Env} {I : Imm} {S : St} {K : Value → Imm → St → Prop} (h : PureD P o ρ fun v => K v I S) : OpS P o ρ I S K := by
  obtain ⟨v, h, k⟩ := h; exact .value v (fun w _ _ => h w) k

theorem run_places {P : Program} {T : Tab} (hT : TabOk P T) (w : World) : ∀ (fs : List Field) (pl : List (Nat × Nat)), (fs.mapM fun f => (T.get f.type).map fun r => (f.offset, r.size)) = some pl →
    (fs.mapM (m := Sem) fun f => do pure (f.offset, ← sizeOf f.type)).run P w = .ok pl w
  | [], pl, h => by simp at h; subst h; simp
  | f :: fs, pl, h => by
    rw [List.mapM_cons] at h
    cases hr : T.get f.type with
    | none => rw [hr] at h; simp at h
    | some r =>
      rw [hr] at h
      cases hm : (fs.mapM fun f => (T.get f.type).map fun r => (f.offset, r.size)) with
      | none => rw [hm] at h; simp at h
      | some pl' =>
        rw [hm] at h
        simp at h
        subst h
        rw [List.mapM_cons]
        have ih := run_places hT w fs pl' hm
        simp only [Sem.run_bind, run_sizeOf_row w (hT _ _ hr), Result.andThen_ok, Sem.run_pure, ih]

theorem yv {P : Program} {o : Oper} {ρ : Env} {K : Value → Prop} (v : Value) (h : ∀ w, (execOp ρ.ev o).run P w = .ok (.value v) w) (k : K v) : ∃ v, (∀ w, (execOp ρ.ev o).run P w = .ok (.value v) w) ∧ K v := ⟨v, h, k⟩
theorem PureD.yields {P : Program} {o : Oper} {ρ : Env} {K : Value → Prop} (h : PureD P o ρ K) : ∃ v, (∀ w, (execOp ρ.ev o).run P w = .ok (.value v) w) ∧ K v := by
  obtain ⟨v, h, k⟩ := h; exact ⟨v, h, k⟩
theorem opD_pure {P : Program} {T : Tab} (hT : TabOk P T) {o : Oper} {ρ : Env} {I : Imm} {S : St} {K : Value → Imm → St → Prop} (hp : pureOp T o.op = true) (h : opD P T o ρ I S K) :
    ∃ v, (∀ w, (execOp ρ.ev o).run P w = .ok (.value v) w) ∧ K v I S := by
  obtain ⟨dst, op, type, pos, after, guard⟩ := o
  show ∃ v, _ ∧ (fun v => K v I S) v
  unfold opD at h
  cases op <;> simp only at h <;> (try (exact absurd hp (by simp only [pureOp]; exact Bool.false_ne_true)))
  case move x => rw [force_eq] at h; exact yv _ (fun w => by simp only [execOp]; rfl) h
  case assign x => rw [force_eq] at h; exact yv _ (fun w => by simp only [execOp]; rfl) h
  case pick c a b =>
    split at h
    · rename_i t ht
      split at h
      · rw [force_eq] at h; exact yv _ (fun w => by simp only [execOp, ht, asBool]; rfl) h
      · rw [force_eq] at h; exact yv _ (fun w => by simp only [execOp, ht, asBool]; rfl) h
    · exact PureD.yields h
  case nilCheck x =>
    split at h
    · rename_i a ha
      exact yv _ (fun w => by simp only [execOp, ha]; rfl) h
    · exact PureD.yields h
  case binOp op t x y yt =>
    rcases binK_ok hT x y h with ⟨z, hz, hk⟩ | h
    · refine yv _ (fun w => ?_) hk
      have := hz w
      simp only [execOp, Sem.run_bind] at this ⊢
      rw [this]; rfl
    · exact PureD.yields h
  case unOp op t x =>
    split at h
    · rename_i b hb
      rw [notF_eq] at h
      exact yv _ (fun w => by simp [execOp, hb, Op.unary]) h
    · rename_i k n hb
      exact yv _ (fun w => by simp [execOp, hb, Op.unary, Op.intArith]) h.out
    · rename_i k n hb
      exact yv _ (fun w => by simp [execOp, hb, Op.unary, intBits_xor]) h.out
    · exact PureD.yields h
  case convert src dst x =>
    split at h
    · rename_i rs k s z b hs hd
      split at h
      · rename_i k' n hx
        have hu : P.underlying dst = some (.int k) := by obtain ⟨_, _, hu, _⟩ := rowOf_info (hT _ _ hd); exact hu
        have hus : (P.underlying src).isSome = true := by obtain ⟨_, _, hu, _⟩ := rowOf_info (hT _ _ hs); simp [hu]
        obtain ⟨d, hd⟩ := Option.isSome_iff_exists.1 hus
        refine yv _ (fun w => ?_) h.out
        simp [execOp, hx, convert, run_underlying hd, run_underlying hu, Conv.intToInt]
      · exact PureD.yields h
    · rename_i hne
      exfalso
      have hp' : (match T.get src, T.get dst with | some _, some ⟨.int _, _, _, _⟩ => true | _, _ => false) = true := hp
      split at hp'
      · rename_i h1 h2; exact hne _ _ _ _ _ h1 h2
      · cases hp'
  case makeFunc fn first captured =>
    rw [forceL_eq, forceL_eq] at h
    refine yv _ (fun w => ?_) h
    simp only [execOp, Instr.makeFunc, Sem.run_bind, Sem.run_pure, Result.andThen_ok]
    congr 3 <;> (apply Array.ext'; simp)
  case extract x i =>
    split at h
    · rename_i vs hv
      split at h
      · rename_i v hi
        rw [force_eq] at h
        exact yv _ (fun w => by simp [execOp, hv, Instr.extract, hi]) h
      · exact h.elim
    · exact PureD.yields h
  case fieldAddr s x f =>
    split at h
    · rename_i fs sz z by_ b off hs hx
      split at h
      · rename_i fd hf
        split at h
        · rename_i r hr
          split at h
          · rename_i hne
            refine yv _ (fun w => ?_) h
            have hu : P.underlying s = some (.struct fs) := by obtain ⟨_, _, hu, _⟩ := rowOf_info (hT _ _ hs); exact hu
            have h0 : r.size ≠ 0 := fun e => by rw [e] at hne; cases hne
            simp [execOp, hx, Instr.fieldAt, run_underlying hu, hf, Instr.sureAddr, fieldPlace, run_sizeOf_row w (hT _ _ hr), h0, add_none]
          · exact PureD.yields h
        · exact PureD.yields h
      · exact PureD.yields h
    · exact PureD.yields h
  case indexAddr t x ix =>
    split at h
    · rename_i e sz z by_ a len cap k i ht hx hix
      split at h
      · rename_i r hr
        split at h
        · rename_i b off
          obtain ⟨⟨h0, h1⟩, hk⟩ := h
          refine yv _ (fun w => ?_) hk
          have hu : P.underlying t = some (.slice e) := by obtain ⟨_, _, hu, _⟩ := rowOf_info (hT _ _ ht); exact hu
          simp [execOp, hx, hix, Instr.indexAt, asIntOf, run_underlying hu, h0, h1, run_sizeOf_row w (hT _ _ hr), add_none, addOff_eq]
        · exact PureD.yields h
      · exact PureD.yields h
    · rename_i m e sz z by_ b off k i ht hx hix
      split at h
      · rename_i r hr
        obtain ⟨⟨h0, h1⟩, hk⟩ := h
        refine yv _ (fun w => ?_) hk
        have hu : P.underlying t = some (.array m e) := by obtain ⟨_, _, hu, _⟩ := rowOf_info (hT _ _ ht); exact hu
        simp [execOp, hx, hix, Instr.indexAt, asIntOf, run_underlying hu, h0, h1, run_sizeOf_row w (hT _ _ hr), add_none, addOff_eq, Instr.sureAddr]
      · exact PureD.yields h
    · exact PureD.yields h
  case makeInterface t x =>
    split at h
    · exact PureD.yields h
    · rename_i r hne hr
      rw [force_eq] at h
      refine yv _ (fun w => ?_) h
      obtain ⟨i, hi, hu, _⟩ := rowOf_info (hT _ _ hr)
      simp only [execOp, Instr.makeInterface, Sem.run_bind, run_underlying hu, Result.andThen_ok]
      obtain ⟨d, s, z, b⟩ := r
      cases d <;> first
        | rfl
        | (exfalso; exact (hne _ _ _ _ rfl))
    · exact PureD.yields h
  case build t parts =>
    split at h
    · rename_i fs sz z by_ ht
      split at h
      · rename_i pl hpl
        rw [spine_eq] at h
        rcases fillK_ok _ _ _ h with ⟨cs, hcs, h⟩ | h
        · refine yv _ (fun w => ?_) h
          have hu : P.underlying t = some (.struct fs) := by obtain ⟨_, _, hu, _⟩ := rowOf_info (hT _ _ ht); exact hu
          have hpl' := run_places (P := P) hT w fs.toList pl hpl
          have hfill := fill_eq (pl[·]?) _ _ _ hcs
          have e1 : (fs.mapM (m := Sem) fun f => do pure (f.offset, ← sizeOf f.type)).run P w = .ok pl.toArray w := by
            have : fs = fs.toList.toArray := by simp
            rw [this, List.mapM_toArray]
            rw [Sem.run_map, hpl', Result.andThen_ok]
          have e2 : (parts.map fun (x : Nat × Operand) => (x.1, ρ.ev x.2)).toList = parts.toList.map fun (x : Nat × Operand) => (x.1, ρ.ev x.2) := by simp
          simp only [execOp, Instr.build, Sem.run_bind, run_zeroValue_row w (hT _ _ ht), Result.andThen_ok, run_underlying hu, e1]
          have e3 : Instr.fill (fun x => pl.toArray[x]?) z.cells (parts.map fun (x : Nat × Operand) => (x.1, ρ.ev x.2)).toList = some cs.toArray := by
            rw [e2]; simpa using hfill
          rw [show (parts.map fun (x : Nat × Operand) => match x with | (i, x) => (i, ρ.ev x)) = (parts.map fun (x : Nat × Operand) => (x.1, ρ.ev x.2)) from rfl, e3]
          rfl
        · exact PureD.yields h
      · exact PureD.yields h
    · exact PureD.yields h
  case call c =>
    simp only [pureOp] at hp
    split at hp
    · rename_i hc
      rw [hc] at h
      simp only at h
      split at hp
      · rename_i t x ht hx
        rw [ht, hx] at h
        simp only at h
        split at hp
        · rename_i e s z b hr
          rw [hr] at h
          simp only at h
          have hu : P.underlying t = some (.slice e) := by obtain ⟨_, _, hu, _⟩ := rowOf_info (hT _ _ hr); exact hu
          split at h
          · rename_i a n c' hv
            refine yv _ (fun w => ?_) h
            simp [execOp, resolve, hc, invoke, builtin, Builtin.len_, ht, hx, hv, run_underlying hu, goInt]
          · exact PureD.yields h
        · rename_i s z b hr
          rw [hr] at h
          simp only at h
          have hu : P.underlying t = some .string := by obtain ⟨_, _, hu, _⟩ := rowOf_info (hT _ _ hr); exact hu
          split at h
          · rename_i s hv
            refine yv _ (fun w => ?_) h
            simp [execOp, resolve, hc, invoke, builtin, Builtin.len_, ht, hx, hv, run_underlying hu, goInt]
          · exact PureD.yields h
        · cases hp
      · cases hp
    · rename_i hc
      rw [hc] at h
      simp only at h
      split at h
      · rename_i k a k' b ha
        refine yv _ (fun w => ?_) h.out
        simp [execOp, resolve, hc, invoke, builtin, Builtin.min_, ha, Builtin.min2]
      · exact PureD.yields h
    · rename_i hc
      rw [hc] at h
      simp only at h
      split at h
      · rename_i k a k' b ha
        refine yv _ (fun w => ?_) h.out
        simp [execOp, resolve, hc, invoke, builtin, Builtin.max_, ha, Builtin.max2]
      · exact PureD.yields h
    · cases hp

theorem opD_ok {P : Program} {T : Tab} (hT : TabOk P T) {o : Oper} {ρ : Env} {I : Imm} {S : St} {K : Value → Imm → St → Prop} (h : opD P T o ρ I S K) : OpS P o ρ I S K := by
  cases hp : pureOp T o.op with
  | true =>
    obtain ⟨v, hv, hk⟩ := opD_pure hT hp h
    exact .value v (fun w _ _ => hv w) hk
  | false =>
    obtain ⟨dst, op, type, pos, after, guard⟩ := o
    unfold opD at h
    cases op <;> simp only at h <;> (try (simp only [pureOp] at hp; cases hp; done)) <;> try exact h.out
    case alloc t =>
      split at h
      · rename_i r hr
        rw [spine_eq] at h
        refine .makes (fun b => .pointer (some ⟨b, 0, none⟩)) _ (fun w => ?_) h
        simp [execOp, Instr.alloc, run_zeroValue_row w (hT _ _ hr), newVar, newRow, row]
      · exact h.out
    case box t x =>
      rw [forceL_eq] at h
      refine .makes (fun b => .pointer (some ⟨b, 0, none⟩)) _ (fun w => ?_) h
      simp [execOp, Instr.box, newVar, newRow, row]
    case load t x =>
      split at h
      · rename_i r b off hr hx
        split at h
        · rename_i hag
          obtain ⟨vs, hc, hk⟩ := h
          refine .value _ (fun w F hw => ?_) hk
          simp [execOp, Instr.loadAt, hx, Instr.sureAddr, loadVar, run_isAgg_row w (hT _ _ hr), hag, run_sizeOf_row w (hT _ _ hr), hc.run hw]
        · rename_i hag
          obtain ⟨vs, hc, hk⟩ := h
          obtain ⟨c, Ty, fr, hin, he, hl⟩ := hc.ex
          match vs, hl with
          | [v], _ =>
            rw [force_eq] at hk
            refine .value _ (fun w F hw => ?_) hk
            have := hc.cell hw 0 v rfl
            simp [execOp, Instr.loadAt, hx, Instr.sureAddr, loadVar, run_isAgg_row w (hT _ _ hr), hag]
            simp at this
            simp [this]
      · exact h.out
    case store t x y =>
      split at h
      · rename_i r b off hr hx
        rw [forceL_eq] at h
        split at h
        · rename_i hc
          simp only [Bool.and_eq_true] at hc
          exact h.ops (o := ⟨dst, .store t x y, type, pos, after, guard⟩) rfl (hT _ _ hr) hx (Nat.eq_of_beq_eq_true hc.1) (fun v hv => List.all_eq_true.1 hc.2 v hv)
        · exact h.out
      · exact h.out
    case buildSlice t len parts =>
      split at h
      · rename_i e sz z by_ ht
        split at h
        · rename_i r hr
          split at h
          · rename_i hb
            rw [spine_eq] at h
            rcases fillK_ok _ _ _ h with ⟨cs, hcs, h⟩ | h
            · simp only [Bool.and_eq_true] at hb
              obtain ⟨⟨h0, h1⟩, h2⟩ := hb
              have h0 : 0 < r.size := by simpa [Nat.blt_eq] using h0
              have h1 := Nat.eq_of_beq_eq_true h1
              have h2 := Nat.le_of_ble_eq_true h2
              rw [Array.length_toList] at h1
              have hu : P.underlying t = some (.slice e) := by obtain ⟨_, _, hu, _⟩ := rowOf_info (hT _ _ ht); exact hu
              refine .makes (fun b => .slice (some ⟨b, 0, none⟩) len len) (row cs e) (fun w => ?_) h
              have hfill := fill_eq _ _ _ _ hcs
              have hz : ∀ (zz : Array Value), zz = (if len * r.size = 0 then #[] else r.zero.cells) → (Array.range (len * r.size)).map (fun i => zz[i % zz.size]!) = (rows len r.zero.cells.toList).toArray := by
                intro zz hzz
                by_cases hl : len = 0
                · subst hl; simp [rows]
                · rw [if_neg (Nat.ne_of_gt (Nat.mul_pos (by omega) h0))] at hzz
                  subst hzz
                  rw [← h1]; exact zeros_rows len _ (by omega)
              have e2 : (parts.map fun (x : Nat × Operand) => (x.1, ρ.ev x.2)).toList = parts.toList.map fun (x : Nat × Operand) => (x.1, ρ.ev x.2) := by simp
              have e3 : ∀ (zz : Array Value), zz = (if len * r.size = 0 then #[] else r.zero.cells) → Instr.fill (fun i => some (i * r.size, r.size)) ((Array.range (len * r.size)).map (fun i => zz[i % zz.size]!)) (parts.map fun (x : Nat × Operand) => (x.1, ρ.ev x.2)).toList = some cs.toArray := by
                intro zz hzz
                rw [hz zz hzz, e2]; exact hfill
              simp only [execOp, Instr.buildSlice, Sem.run_bind, run_underlying hu, Result.andThen_ok, run_sizeOf_row w (hT _ _ hr)]
              rw [if_neg (by omega)]
              rw [show (parts.map fun (x : Nat × Operand) => match x with | (i, x) => (i, ρ.ev x)) = (parts.map fun (x : Nat × Operand) => (x.1, ρ.ev x.2)) from rfl]
              by_cases hl : len * r.size = 0
              · rw [if_pos hl]
                have := e3 #[] (by rw [if_pos hl])
                simp only [Sem.run_bind, Sem.run_pure, Result.andThen_ok]
                rw [this]; rfl
              · rw [if_neg hl]
                have := e3 r.zero.cells (by rw [if_neg hl])
                simp only [Sem.run_bind, Sem.run_pure, Result.andThen_ok, run_zeroValue_row w (hT _ _ hr)]
                rw [this]; rfl
            · exact h.out
          · exact h.out
        · exact h.out
      · exact h.out
    case convert src dst x =>
      split at h
      · rename_i hs hd
        simp only [pureOp, hs, hd] at hp
        cases hp
      · exact h.out
    case call c =>
      simp only [pureOp] at hp
      split at h
      · rename_i f hc
        split at h
        · rename_i g first captured hf
          rw [forceL_eq] at h
          refine Tri.ops (o := ⟨dst, .call c, type, pos, after, guard⟩) rfl hc hf ?_ h
          simp
        · exact h.out
      · rename_i hc
        rw [hc] at hp
        simp only at hp
        split at h
        · rename_i t x ht hx
          rw [ht, hx] at hp
          simp only at hp
          split at h
          · rename_i hr; rw [hr] at hp; cases hp
          · rename_i hr; rw [hr] at hp; cases hp
          · exact h.out
        · exact h.out
      · rename_i hc; rw [hc] at hp; cases hp
      · rename_i hc; rw [hc] at hp; cases hp
      · exact h.out
end Go.Sl

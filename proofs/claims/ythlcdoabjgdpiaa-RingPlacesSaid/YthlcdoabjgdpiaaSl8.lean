/- The own logic, eighth part: structs of integers compared; from a triple to what a row asks. -/
import Derived.Test.YthlcdoabjgdpiaaSl7
import Derived.ProofKit
import Derived.SizedLaws
namespace Go.Sl
open Go.RowKit

/-! ### '==' between structs of integers -/
def intField (T : Tab) (f : Field) (i : Nat) : Bool := match T.get f.type with
  | some ⟨.int _, _, _, _⟩ => (f.name != "_") && Nat.beq f.offset i
  | _ => false
def intFields (T : Tab) : List Field → Nat → Bool
  | [], _ => true
  | f :: fs, i => intField T f i && intFields T fs (i + 1)
theorem eqFields_ints {P : Program} {T : Tab} (hT : TabOk P T) (d : Nat) (k : IntKind) (w : World) : ∀ (fs : List Field) (i : Nat) (as bs : List Int) (xs ys : Array Value),
    intFields T fs i = true → as.length = fs.length → bs.length = fs.length → (∀ j a, as[j]? = some a → xs[i + j]? = some (.int k a)) → (∀ j b, bs[j]? = some b → ys[i + j]? = some (.int k b)) →
    (Op.eqFields (d + 1) xs ys fs).run P w = .ok (decide (as = bs)) w
  | [], i, [], [], xs, ys, _, _, _, _, _ => by simp [Op.eqFields]
  | f :: fs, i, a :: as, b :: bs, xs, ys, hf, ha, hb, hx, hy => by
    simp only [intFields, Bool.and_eq_true] at hf
    obtain ⟨hf1, hf2⟩ := hf
    unfold intField at hf1
    split at hf1
    · rename_i k' s z by_ hr
      simp only [Bool.and_eq_true] at hf1
      have hoff := Nat.eq_of_beq_eq_true hf1.2
      have hne : f.name ≠ "_" := by simpa using hf1.1
      have hu : P.underlying f.type = some (.int k') := by obtain ⟨_, _, hu, _⟩ := rowOf_info (hT _ _ hr); exact hu
      have ih := eqFields_ints hT d k w fs (i + 1) as bs xs ys hf2 (by simpa using ha) (by simpa using hb)
        (fun j a' h => by have := hx (j + 1) a' (by simpa using h); rwa [show i + (j + 1) = i + 1 + j by omega] at this)
        (fun j b' h => by have := hy (j + 1) b' (by simpa using h); rwa [show i + (j + 1) = i + 1 + j by omega] at this)
      have h0 := hx 0 a rfl
      have h1 := hy 0 b rfl
      simp only [Nat.add_zero] at h0 h1
      have hpart : ∀ (zs : Array Value) (c : Int), zs[i]? = some (.int k c) → (part f.type zs f.offset).run P w = .ok (.int k c) w := by
        intro zs c hc
        have hag := run_isAgg_row w (hT _ _ hr)
        simp only [TyRow.agg] at hag
        simp [part, hag, hoff, hc]
      rw [Op.eqFields, if_pos hne]
      simp only [Sem.run_bind, hpart xs a h0, hpart ys b h1, Result.andThen_ok, run_equalIn_int w d f.type k k' a b hu]
      by_cases hab : a = b
      · subst hab
        simp [ih]
      · simp [hab]
    · cases hf1
theorem eq_ints {P : Program} {T : Tab} (hT : TabOk P T) {o : Oper} {ρ : Env} {op : BinOp} {t yt : TypeId} {x y : Operand} {K : Value → Prop} {fs : Array Field} {s b : Nat} {z : Value} {k : IntKind} (as bs : List Int)
    (ho : o.op = .binOp op t x y yt) (hop : op = .eql ∨ op = .neq) (hr : T.get t = some ⟨.struct fs, s, z, b⟩) (hx : ρ.ev x = .agg (as.map (Value.int k)).toArray) (hy : ρ.ev y = .agg (bs.map (Value.int k)).toArray)
    (hg : P.eqGuardType P.depth t = false) (hs : P.stoodInHeld t = false) (hf : intFields T fs.toList 0 = true) (ha : as.length = fs.toList.length) (hb : bs.length = fs.toList.length)
    (h : CmpD (as = bs) fun t => boolF (xor (op == .neq) t) fun t => K (.bool t)) : PureD P o ρ K := by
  have hu : P.underlying t = some (.struct fs) := by obtain ⟨_, _, hu, _⟩ := rowOf_info (hT _ _ hr); exact hu
  have h := h.out
  rw [boolF_eq] at h
  refine .mk _ (fun w => ?_) h
  have he : (Op.equalIn (9999 + 1) t (.agg (as.map (Value.int k)).toArray) (.agg (bs.map (Value.int k)).toArray)).run P w = .ok (decide (as = bs)) w := by
    rw [run_equalIn_struct w 9999 t _ _ (by rw [hu, Program.fieldsOf, hu]) hs]
    rw [show P.fieldsOf t = fs from by rw [Program.fieldsOf, hu]]
    refine eqFields_ints hT 9998 k w fs.toList 0 as bs _ _ hf ha hb ?_ ?_
    · intro j a hj; simp [hj]
    · intro j a hj; simp [hj]
  have hguard : ∀ op, (eqGuard op t x y (.agg (as.map (Value.int k)).toArray) (.agg (bs.map (Value.int k)).toArray)).run P w = .ok () w := by
    intro op
    unfold eqGuard
    cases op <;> first
      | rfl
      | simp [hg]
  have hb1 : ∀ u v : Array Value, binOp .eql t (.agg u) (.agg v) = (do pure (.bool (← Op.equal t (.agg u) (.agg v)))) := fun u v => by simp [binOp]
  have hb2 : ∀ u v : Array Value, binOp .neq t (.agg u) (.agg v) = (do pure (.bool (!(← Op.equal t (.agg u) (.agg v))))) := fun u v => by simp [binOp]
  simp only [execOp, ho, hx, hy, Sem.run_bind, hguard, Result.andThen_ok]
  rcases hop with rfl | rfl
  · rw [hb1, show Op.equal t = Op.equalIn (9999 + 1) t from rfl]
    simp only [Sem.run_bind, he, Result.andThen_ok, Sem.run_pure]
    congr 3
    cases decide (as = bs) <;> rfl
  · rw [hb2, show Op.equal t = Op.equalIn (9999 + 1) t from rfl]
    simp only [Sem.run_bind, he, Result.andThen_ok, Sem.run_pure]
    congr 3
    cases decide (as = bs) <;> rfl

/-! ### rows -/
/-- all that is there when a call begins is fixed -/
def base (W : World) : Imm := fun b => W.heap[b]?
theorem Has.base (W : World) : Has W (base W) [] := ⟨fun _ _ h => h, by simp, by simp, by simp⟩
theorem Tri.below {P : Program} {f : FuncId} {args : Array Value} {W : World} (h : Tri P f args (base W) [] fun v _ _ => v = .bool true) :
    Calls P f args W fun e W' => e = .returned (.bool true) ∧ Below W.heap.size W W' := by
  refine (h.run W [] (Has.base W)).mono ?_
  rintro e W' ⟨v, J, S', rfl, hl, rfl, hh, hx⟩
  refine ⟨rfl, hx.os, hx.tape, hx.output, hx.size, ?_⟩
  intro k hk
  have : W.heap[k]? = some W.heap[k] := Array.getElem?_eq_getElem hk
  rw [hh.imm k _ (hl k _ this), this]
end Go.Sl

/- The own logic, third part: what each operation asks, as a function that computes; and that it is right. -/
import Derived.Test.YthlcdoabjgdpiaaSl2
namespace Go.Sl
open Go.RowKit

def sameK (k k' : IntKind) : Bool := decide (k = k')
theorem sameK_eq {k k' : IntKind} (h : sameK k k' = true) : k = k' := of_decide_eq_true h

/-- a comparison: its outcome is known, or both are looked at, or it is kept as it stands -/
inductive CmpD (p : Prop) [Decidable p] (K : Bool → Prop) : Prop
  | yes (h : p) (k : K true)
  | no (h : ¬ p) (k : K false)
  | split (t : p → K true) (f : ¬ p → K false)
  | keep (k : K (decide p))
theorem CmpD.out {p : Prop} [Decidable p] {K : Bool → Prop} (h : CmpD p K) : K (decide p) := by
  cases h with
  | yes h k => rw [decide_eq_true h]; exact k
  | no h k => rw [decide_eq_false h]; exact k
  | split t f =>
    by_cases h : p
    · rw [decide_eq_true h]; exact t h
    · rw [decide_eq_false h]; exact f h
  | keep k => exact k
def boolF (b : Bool) (K : Bool → Prop) : Prop := match b with
  | true => K true
  | false => K false
theorem boolF_eq (b : Bool) (K : Bool → Prop) : boolF b K = K b := by cases b <;> rfl
/-- a number, told otherwise -/
inductive ToD (n : Int) (K : Int → Prop) : Prop
  | to (m : Int) (h : n = m) (g : K m)
theorem ToD.out {n : Int} {K : Int → Prop} (h : ToD n K) : K n := by obtain ⟨m, rfl, g⟩ := h; exact g
theorem ToD.keep {n : Int} {K : Int → Prop} (g : K n) : ToD n K := .to n rfl g
theorem wrap_i64 {n : Int} (h : -9223372036854775808 ≤ n) (h' : n ≤ 9223372036854775807) : IntKind.i64.wrap n = n := IntWalk.i64_in n ⟨h, h'⟩
theorem wrap_u {k : IntKind} (hk : k.signed = false) {n : Int} (h : 0 ≤ n) (h' : n < 2 ^ k.bits) : k.wrap n = n := by
  simp only [IntKind.wrap, hk, Bool.false_and, Bool.false_eq_true, if_false]
  exact Int.emod_eq_of_lt h h'
theorem ToD.i64 {n : Int} {K : Int → Prop} (h : -9223372036854775808 ≤ n) (h' : n ≤ 9223372036854775807) (g : K n) : ToD (IntKind.i64.wrap n) K := .to n (wrap_i64 h h') g
theorem ToD.u8 {n : Int} {K : Int → Prop} (h : 0 ≤ n) (h' : n < 256) (g : K n) : ToD (IntKind.u8.wrap n) K := .to n (wrap_u rfl h h') g
theorem ToD.u16 {n : Int} {K : Int → Prop} (h : 0 ≤ n) (h' : n < 65536) (g : K n) : ToD (IntKind.u16.wrap n) K := .to n (wrap_u rfl h h') g
theorem ToD.u32 {n : Int} {K : Int → Prop} (h : 0 ≤ n) (h' : n < 4294967296) (g : K n) : ToD (IntKind.u32.wrap n) K := .to n (wrap_u rfl h h') g
theorem ToD.u64 {n : Int} {K : Int → Prop} (h : 0 ≤ n) (h' : n < 18446744073709551616) (g : K n) : ToD (IntKind.u64.wrap n) K := .to n (wrap_u rfl h h') g
theorem ToD.rem {a b : Int} {K : Int → Prop} (h : 0 ≤ a) (g : K (a % b)) : ToD (a.tmod b) K := .to _ (Int.tmod_eq_emod_of_nonneg h) g
theorem ToD.quo {a b : Int} {K : Int → Prop} (h : 0 ≤ a) (h' : 0 ≤ b) (ha : a ≤ 9223372036854775807) (g : K (a / b)) : ToD (IntKind.i64.wrap (a.tdiv b)) K := by
  refine .to _ ?_ g
  rw [Int.tdiv_eq_ediv_of_nonneg h]
  have h1 : 0 ≤ a / b := Int.ediv_nonneg h h'
  have h2 : a / b ≤ a := Int.ediv_le_self _ h
  exact wrap_i64 (by omega) (by omega)
def notF (b : Bool) (K : Bool → Prop) : Prop := match b with
  | true => K false
  | false => K true
theorem notF_eq (b : Bool) (K : Bool → Prop) : notF b K = K (!b) := by cases b <;> rfl
/-- a binary operation on integers -/
def intK (op : BinOp) (k : IntKind) (a b : Int) (K : Value → Prop) : Prop :=
  match op with
  | .add => ToD (k.wrap (a + b)) fun m => K (.int k m)
  | .sub => ToD (k.wrap (a - b)) fun m => K (.int k m)
  | .mul => ToD (k.wrap (a * b)) fun m => K (.int k m)
  | .quo => Chk (b ≠ 0) (ToD (k.wrap (a.tdiv b)) fun m => K (.int k m))
  | .rem => Chk (b ≠ 0) (ToD (a.tmod b) fun m => K (.int k m))
  | .eql => CmpD (a = b) fun t => K (.bool t)
  | .neq => CmpD (a = b) fun t => notF t fun t => K (.bool t)
  | .lss => CmpD (a < b) fun t => K (.bool t)
  | .leq => CmpD (a ≤ b) fun t => K (.bool t)
  | .gtr => CmpD (b < a) fun t => K (.bool t)
  | .geq => CmpD (b ≤ a) fun t => K (.bool t)
  | .and => ToD (bits .and k a b) fun m => K (.int k m)
  | .or => ToD (bits .or k a b) fun m => K (.int k m)
  | .xor => ToD (bits .xor k a b) fun m => K (.int k m)
  | .andNot => ToD (bits .andNot k a b) fun m => K (.int k m)
  | _ => False
theorem intK_ok {P : Program} {op : BinOp} {k : IntKind} {a b : Int} {K : Value → Prop} (t : TypeId) (x y : Operand) (h : intK op k a b K) :
    ∃ v, (∀ w, (do eqGuard op t x y (.int k a) (.int k b); binOp op t (.int k a) (.int k b) : Sem Value).run P w = .ok v w) ∧ K v := by
  cases op <;> simp only [intK] at h
  case quo => obtain ⟨hb, h⟩ := h; exact ⟨_, fun w => by simp [eqGuard_quo, binOp_quo, Op.intDiv, hb], h.out⟩
  case rem => obtain ⟨hb, h⟩ := h; exact ⟨_, fun w => by simp [eqGuard_rem, binOp_rem, Op.intDiv, hb], h.out⟩
  case eql => exact ⟨_, fun w => by simp [eqGuard_at_int, binOp_eql]; rfl, h.out⟩
  case neq => have h := h.out; rw [notF_eq] at h; exact ⟨_, fun w => by simp [eqGuard_at_int, binOp_neq]; rfl, h⟩
  case lss => exact ⟨_, fun w => by simp [eqGuard_lss, binOp_lss], h.out⟩
  case leq => exact ⟨_, fun w => by simp [eqGuard_leq, binOp_leq], h.out⟩
  case gtr => exact ⟨_, fun w => by simp [eqGuard_gtr, binOp_gtr], h.out⟩
  case geq => exact ⟨_, fun w => by simp [eqGuard_geq, binOp_geq], h.out⟩
  all_goals refine ⟨_, fun w => ?_, h.out⟩
  all_goals first
    | (simp [eqGuard_add, binOp_add, Op.intArith]; done)
    | (simp [eqGuard_sub, binOp_sub, Op.intArith]; done)
    | (simp [eqGuard_mul, binOp_mul, Op.intArith]; done)
    | (simp [eqGuard_and, binOp_and, intBits_and]; done)
    | (simp [eqGuard_or, binOp_or, intBits_or]; done)
    | (simp [eqGuard_xor, binOp_xor, intBits_xor]; done)
    | (simp [eqGuard_andNot, binOp_andNot, intBits_andNot]; done)
/-- shifts -/
def shiftK (op : BinOp) (k : IntKind) (a b : Int) (K : Value → Prop) : Prop :=
  match op with
  | .shl => Chk (0 ≤ b) (ToD (k.wrap (a * 2 ^ (min b.toNat k.bits))) fun m => K (.int k m))
  | .shr => Chk (0 ≤ b) (ToD (a.fdiv (2 ^ (min b.toNat k.bits))) fun m => K (.int k m))
  | _ => False
theorem shiftK_ok {P : Program} {op : BinOp} {k k' : IntKind} {a b : Int} {K : Value → Prop} (t : TypeId) (x y : Operand) (h : shiftK op k a b K) :
    ∃ v, (∀ w, (do eqGuard op t x y (.int k a) (.int k' b); binOp op t (.int k a) (.int k' b) : Sem Value).run P w = .ok v w) ∧ K v := by
  cases op <;> simp only [shiftK] at h
  case shl => obtain ⟨hb, h⟩ := h; exact ⟨_, fun w => by simp [eqGuard_shl, binOp_shl, Op.shift, show ¬ b < 0 by omega], h.out⟩
  case shr => obtain ⟨hb, h⟩ := h; exact ⟨_, fun w => by simp [eqGuard_shr, binOp_shr, Op.shift, show ¬ b < 0 by omega], h.out⟩
  all_goals exact h.elim

def isShift : BinOp → Bool
  | .shl => true
  | .shr => true
  | _ => false
def strK (op : BinOp) (a b : ByteArray) (K : Value → Prop) : Prop :=
  match op with
  | .add => Chk (a.size + b.size ≤ 9223372036854775807) (K (.string (a ++ b)))
  | .eql => CmpD (a.toList = b.toList) fun t => K (.bool t)
  | .neq => CmpD (a.toList = b.toList) fun t => notF t fun t => K (.bool t)
  | .lss => K (.bool (Op.bytesLess a.toList b.toList))
  | .geq => K (.bool (!Op.bytesLess a.toList b.toList))
  | _ => False
theorem strK_ok {P : Program} {op : BinOp} {a b : ByteArray} {K : Value → Prop} (t : TypeId) (x y : Operand) (h : strK op a b K) :
    ∃ v, (∀ w, (do eqGuard op t x y (.string a) (.string b); binOp op t (.string a) (.string b) : Sem Value).run P w = .ok v w) ∧ K v := by
  cases op <;> simp only [strK] at h
  case add =>
    obtain ⟨hb, h⟩ := h
    refine ⟨_, fun w => ?_, h⟩
    have hn : ¬ ((a.size + b.size : Nat) : Int) > IntKind.i64.max := by rw [IntKind.max_i64]; omega
    simp [eqGuard_add, binOp, Op.stringOp]
    omega
  case eql => exact ⟨_, fun w => by simp [eqGuard_at_string, binOp, Op.stringOp]; rw [Bool.eq_iff_iff]; simp, h.out⟩
  case neq => have h := h.out; rw [notF_eq] at h; exact ⟨_, fun w => by simp [eqGuard_at_string, binOp, Op.stringOp]; rw [Bool.eq_iff_iff]; simp, h⟩
  all_goals first
    | exact h.elim
    | skip
  all_goals refine ⟨_, fun w => ?_, h⟩
  all_goals first
    | (simp [eqGuard_at_string, binOp, Op.stringOp]; done)
    | (simp [eqGuard_at_string, binOp, Op.stringOp]; rw [Bool.eq_iff_iff]; simp)
/-- equality beside nil, of bools -/
def nilK (T : Tab) (neg : Bool) (t : TypeId) (x y : Value) (K : Value → Prop) (E : Prop) : Prop :=
  match T.get t with
  | some ⟨.pointer _, _, _, _⟩ => (match x, y with
    | .pointer p, .pointer none => boolF (xor neg p.isNone) fun t => K (.bool t)
    | .pointer none, .pointer p => boolF (xor neg p.isNone) fun t => K (.bool t)
    | _, _ => E)
  | some ⟨.slice _, _, _, _⟩ => (match x, y with
    | .slice p _ _, .slice none _ _ => boolF (xor neg p.isNone) fun t => K (.bool t)
    | _, _ => E)
  | some ⟨.bool, _, _, _⟩ => (match x, y with
    | .bool a, .bool b => boolF (xor neg (a == b)) fun t => K (.bool t)
    | _, _ => E)
  | some ⟨.interface _, _, _, _⟩ => (match x, y with
    | .iface _ _, .nilIface => K (.bool neg)
    | _, _ => E)
  | _ => E
theorem eqIn_pn {P : Program} (w : World) (d : Nat) (t e : TypeId) (p : Option Addr) (h : P.underlying t = some (.pointer e)) : (Op.equalIn (d + 1) t (.pointer p) (.pointer none)).run P w = .ok p.isNone w := by
  cases p <;> simp [Op.equalIn, run_underlying h]
theorem eqIn_np {P : Program} (w : World) (d : Nat) (t e : TypeId) (p : Option Addr) (h : P.underlying t = some (.pointer e)) : (Op.equalIn (d + 1) t (.pointer none) (.pointer p)).run P w = .ok p.isNone w := by
  simp [Op.equalIn, run_underlying h]
theorem eqIn_sn {P : Program} (w : World) (d : Nat) (t e : TypeId) (p : Option Addr) (l c l' c' : Nat) (h : P.underlying t = some (.slice e)) : (Op.equalIn (d + 1) t (.slice p l c) (.slice none l' c')).run P w = .ok p.isNone w := by
  cases p <;> simp [Op.equalIn, run_underlying h]
theorem eqIn_in {P : Program} (w : World) (d : Nat) (t : TypeId) (ms : Array (String × TypeId)) (u : TypeId) (x : Value) (h : P.underlying t = some (.interface ms)) : (Op.equalIn (d + 1) t (.iface u x) .nilIface).run P w = .ok false w := by
  simp [Op.equalIn, run_underlying h]
theorem nilK_ok {P : Program} {T : Tab} (hT : TabOk P T) {t : TypeId} {u v : Value} {K : Value → Prop} {E : Prop} (op : BinOp) (hop : op = .eql ∨ op = .neq) (x y : Operand)
    (h : nilK T (op == .neq) t u v K E) :
    (∃ z, (∀ w, (do eqGuard op t x y u v; binOp op t u v : Sem Value).run P w = .ok z w) ∧ K z) ∨ E := by
  unfold nilK at h
  have key : ∀ (d : Bool), (∀ w, (Op.equal t u v).run P w = .ok d w) → eqGuard op t x y u v = pure () → (binOp .eql t u v = (do pure (.bool (← Op.equal t u v))) ∧ binOp .neq t u v = (do pure (.bool (!(← Op.equal t u v))))) →
      (∀ w, (do eqGuard op t x y u v; binOp op t u v : Sem Value).run P w = .ok (.bool (xor (op == .neq) d)) w) := by
    intro d hd hg hb w
    rw [hg]
    rcases hop with rfl | rfl
    · rw [hb.1]; simp [hd w, show (BinOp.eql == BinOp.neq) = false from rfl]
    · rw [hb.2]; simp [hd w]
  split at h
  · rename_i e s z b hr
    have hu : P.underlying t = some (.pointer e) := by obtain ⟨_, _, hu, _⟩ := rowOf_info (hT _ _ hr); exact hu
    split at h
    · rename_i p
      exact .inl ⟨_, key p.isNone (fun w => eqIn_pn w 9999 t e p hu) (eqGuard_at_pointer ..) ⟨by simp [binOp], by simp [binOp]⟩, by rw [boolF_eq] at h; exact h⟩
    · rename_i p _
      exact .inl ⟨_, key p.isNone (fun w => eqIn_np w 9999 t e p hu) (eqGuard_at_pointer ..) ⟨by simp [binOp], by simp [binOp]⟩, by rw [boolF_eq] at h; exact h⟩
    · exact .inr h
  · rename_i e s z b hr
    have hu : P.underlying t = some (.slice e) := by obtain ⟨_, _, hu, _⟩ := rowOf_info (hT _ _ hr); exact hu
    split at h
    · rename_i p l c l' c'
      exact .inl ⟨_, key p.isNone (fun w => eqIn_sn w 9999 t e p l c l' c' hu) (eqGuard_at_slice ..) ⟨by simp [binOp], by simp [binOp]⟩, by rw [boolF_eq] at h; exact h⟩
    · exact .inr h
  · rename_i s z b hr
    have hu : P.underlying t = some .bool := by obtain ⟨_, _, hu, _⟩ := rowOf_info (hT _ _ hr); exact hu
    split at h
    · rename_i p q
      exact .inl ⟨_, key (p == q) (fun w => run_equal_bool w t p q hu) (eqGuard_at_bool ..) ⟨by simp [binOp], by simp [binOp]⟩, by rw [boolF_eq] at h; exact h⟩
    · exact .inr h
  · rename_i ms s z b hr
    have hu : P.underlying t = some (.interface ms) := by obtain ⟨_, _, hu, _⟩ := rowOf_info (hT _ _ hr); exact hu
    split at h
    · rename_i d q
      exact .inl ⟨_, key false (fun w => eqIn_in w 9999 t ms d q hu) (eqGuard_at_iface ..) ⟨by simp [binOp], by simp [binOp]⟩, by simpa using h⟩
    · exact .inr h
  · exact .inr h

/-- a binary operation -/
def binK (T : Tab) (op : BinOp) (t : TypeId) (x y : Value) (K : Value → Prop) (E : Prop) : Prop :=
  match x, y with
  | .int k a, .int k' b => (match isShift op with
    | true => shiftK op k a b K
    | false => (match sameK k k' with
      | true => intK op k a b K
      | false => E))
  | .string a, .string b => strK op a b K
  | x, y => (match op with
    | .eql => nilK T false t x y K E
    | .neq => nilK T true t x y K E
    | _ => E)
theorem binK_ok {P : Program} {T : Tab} (hT : TabOk P T) {op : BinOp} {t : TypeId} {u v : Value} {K : Value → Prop} {E : Prop} (x y : Operand) (h : binK T op t u v K E) :
    (∃ z, (∀ w, (do eqGuard op t x y u v; binOp op t u v : Sem Value).run P w = .ok z w) ∧ K z) ∨ E := by
  unfold binK at h
  split at h
  · rename_i k a k' b
    split at h
    · left; exact shiftK_ok t x y h
    · split at h
      · rename_i hk; have := sameK_eq hk; subst this; left; exact intK_ok t x y h
      · right; exact h
  · left; exact strK_ok t x y h
  · split at h
    · exact nilK_ok hT .eql (.inl rfl) x y h
    · exact nilK_ok hT .neq (.inr rfl) x y h
    · right; exact h
end Go.Sl

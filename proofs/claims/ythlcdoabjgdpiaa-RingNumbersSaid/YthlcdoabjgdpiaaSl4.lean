/- The own logic, fourth part: operations, regions, code: a function that computes what is to be shown; and that it is right. -/
import Derived.Test.YthlcdoabjgdpiaaSl3
namespace Go.Sl
open Go.RowKit

def force (v : Value) (K : Value → Prop) : Prop :=
  match v with
  | .bool b => K (.bool b)
  | .int k n => K (.int k n)
  | .string s => K (.string s)
  | .pointer a => K (.pointer a)
  | .slice a l c => K (.slice a l c)
  | .map r => K (.map r)
  | .func f a c => K (.func f a c)
  | .iface t v => K (.iface t v)
  | .agg c => K (.agg c)
  | .tuple c => K (.tuple c)
  | v => K v
theorem force_eq (v : Value) (K : Value → Prop) : force v K = K v := by cases v <;> rfl
def forceL : List Value → (List Value → Prop) → Prop
  | [], K => K []
  | x :: xs, K => force x fun y => forceL xs fun ys => K (y :: ys)
theorem forceL_eq : ∀ (l : List Value) (K : List Value → Prop), forceL l K = K l
  | [], _ => rfl
  | x :: xs, K => by rw [forceL, force_eq, forceL_eq xs]

/-- an array of values out of a literal -/
def rows (n : Nat) (z : List Value) : List Value := (List.replicate n z).flatten

def fillL (place : Nat → Option (Nat × Nat)) (cells : List Value) : List (Nat × Value) → Option (List Value)
  | [] => some cells
  | (i, v) :: rest => match place i with
    | none => none
    | some (off, size) => match v.cells.toList with
      | vs => match Nat.beq vs.length size && Nat.ble (off + vs.length) cells.length with
        | true => fillL place (splice cells off vs) rest
        | false => none

/-- the same, its lists laid out as it goes -/
def fillK (place : Nat → Option (Nat × Nat)) (E : Prop) : List (Nat × Value) → List Value → (List Value → Prop) → Prop
  | [], cells, K => K cells
  | (i, v) :: rest, cells, K => match place i with
    | none => E
    | some (off, size) => forceL v.cells.toList fun vs => match Nat.beq vs.length size && Nat.ble (off + vs.length) cells.length with
      | true => spine (splice cells off vs) fun cells' => fillK place E rest cells' K
      | false => E
theorem fillK_ok {place : Nat → Option (Nat × Nat)} {E : Prop} : ∀ (parts : List (Nat × Value)) (cells : List Value) (K : List Value → Prop), fillK place E parts cells K → (∃ r, fillL place cells parts = some r ∧ K r) ∨ E
  | [], cells, K, h => .inl ⟨cells, rfl, h⟩
  | (i, v) :: rest, cells, K, h => by
    rw [fillK] at h
    rw [fillL]
    cases hp : place i with
    | none => rw [hp] at h; exact .inr h
    | some x =>
      obtain ⟨off, size⟩ := x
      rw [hp] at h
      simp only [] at h ⊢
      rw [forceL_eq] at h
      cases hb : (Nat.beq v.cells.toList.length size && Nat.ble (off + v.cells.toList.length) cells.length) with
      | false => rw [hb] at h; exact .inr h
      | true =>
        rw [hb] at h
        rw [spine_eq] at h
        exact fillK_ok rest _ K h

def opD (P : Program) (T : Tab) (o : Oper) (ρ : Env) (I : Imm) (S : St) (K : Value → Imm → St → Prop) : Prop :=
  match o.op with
  | .move x => force (ρ.ev x) fun v => K v I S
  | .assign x => force (ρ.ev x) fun v => K v I S
  | .pick c a b => (match ρ.ev c with
    | .bool t => (match t with
      | true => force (ρ.ev a) fun v => K v I S
      | false => force (ρ.ev b) fun v => K v I S)
    | _ => PureD P o ρ fun v => K v I S)
  | .alloc t => (match T.get t with
    | some r => spine r.zero.cells.toList fun c => ∀ b, K (.pointer (some ⟨b, 0, none⟩)) I (S ++ [[(b, row c t)]])
    | none => AnyD P o ρ I S K)
  | .box t x => forceL (ρ.ev x).cells.toList fun c => ∀ b, K (.pointer (some ⟨b, 0, none⟩)) I (S ++ [[(b, row c t)]])
  | .load t x => (match T.get t, ρ.ev x with
    | some r, .pointer (some ⟨b, off, none⟩) => (match r.agg with
      | true => LoadD I S b off r.size fun vs => K (.agg vs.toArray) I S
      | false => LoadD I S b off 1 fun vs => force (vs.headD undef) fun v => K v I S)
    | _, _ => AnyD P o ρ I S K)
  | .store t x y => (match T.get t, ρ.ev x with
    | some r, .pointer (some ⟨b, off, none⟩) => forceL (ρ.ev y).cells.toList fun vs => (match Nat.beq vs.length r.size && vs.all Plain with
      | true => StoreD S b off vs fun S' => K undef I S'
      | false => AnyD P o ρ I S K)
    | _, _ => AnyD P o ρ I S K)
  | .nilCheck x => (match ρ.ev x with
    | .pointer (some a) => K (.pointer (some a)) I S
    | _ => PureD P o ρ fun v => K v I S)
  | .binOp op t x y _ => binK T op t (ρ.ev x) (ρ.ev y) (fun v => K v I S) (PureD P o ρ fun v => K v I S)
  | .unOp op _ x => (match op, ρ.ev x with
    | .not, .bool b => notF b fun t => K (.bool t) I S
    | .neg, .int k n => ToD (k.wrap (0 - n)) fun m => K (.int k m) I S
    | .xor, .int k n => ToD (bits .xor k (if k.signed then -1 else k.max) n) fun m => K (.int k m) I S
    | _, _ => PureD P o ρ fun v => K v I S)
  | .convert src dst x => (match T.get src, T.get dst with
    | some _, some ⟨.int k, _, _, _⟩ => (match ρ.ev x with
      | .int _ n => ToD (k.wrap n) fun m => K (.int k m) I S
      | _ => PureD P o ρ fun v => K v I S)
    | _, _ => AnyD P o ρ I S K)
  | .makeFunc fn first captured => forceL (first.toList.map ρ.ev) fun a => forceL (captured.toList.map ρ.ev) fun c => K (.func fn a.toArray c.toArray) I S
  | .extract x i => (match ρ.ev x with
    | .tuple vs => (match vs[i]? with
      | some v => force v fun v => K v I S
      | none => False)
    | _ => PureD P o ρ fun v => K v I S)
  | .fieldAddr s x f => (match T.get s, ρ.ev x with
    | some ⟨.struct fs, _, _, _⟩, .pointer (some ⟨b, off, none⟩) => (match fs[f]? with
      | some fd => (match T.get fd.type with
        | some r => (match Nat.beq r.size 0 with
          | false => K (.pointer (some ⟨b, off + fd.offset, none⟩)) I S
          | true => PureD P o ρ fun v => K v I S)
        | none => PureD P o ρ fun v => K v I S)
      | none => PureD P o ρ fun v => K v I S)
    | _, _ => PureD P o ρ fun v => K v I S)
  | .indexAddr t x ix => (match T.get t, ρ.ev x, ρ.ev ix with
    | some ⟨.slice e, _, _, _⟩, .slice a len _, .int _ i => (match T.get e with
      | some r => (match a with
        | some ⟨b, off, none⟩ => Chk (0 ≤ i ∧ i < len) (K (.pointer (some ⟨b, addOff off i.toNat r.size, none⟩)) I S)
        | _ => PureD P o ρ fun v => K v I S)
      | none => PureD P o ρ fun v => K v I S)
    | some ⟨.array n e, _, _, _⟩, .pointer (some ⟨b, off, none⟩), .int _ i => (match T.get e with
      | some r => Chk (0 ≤ i ∧ i < n) (K (.pointer (some ⟨b, addOff off i.toNat r.size, none⟩)) I S)
      | none => PureD P o ρ fun v => K v I S)
    | _, _, _ => PureD P o ρ fun v => K v I S)
  | .makeInterface t x => (match T.get t with
    | some ⟨.interface _, _, _, _⟩ => PureD P o ρ fun v => K v I S
    | some _ => force (ρ.ev x) fun v => K (.iface t v) I S
    | none => PureD P o ρ fun v => K v I S)
  | .build t parts => (match T.get t with
    | some ⟨.struct fs, _, z, _⟩ => (match (fs.toList.mapM fun f => (T.get f.type).map fun r => (f.offset, r.size)) with
      | some pl => spine z.cells.toList fun z => fillK (pl[·]?) (PureD P o ρ fun v => K v I S) (parts.toList.map fun (i, x) => (i, ρ.ev x)) z fun cs => K (.agg cs.toArray) I S
      | none => PureD P o ρ fun v => K v I S)
    | _ => PureD P o ρ fun v => K v I S)
  | .buildSlice t len parts => (match T.get t with
    | some ⟨.slice e, _, _, _⟩ => (match T.get e with
      | some r => (match Nat.blt 0 r.size && Nat.beq r.zero.cells.toList.length r.size && Nat.ble (len * r.size) 16777216 with
        | true => spine (rows len r.zero.cells.toList) fun z => fillK (fun i => some (i * r.size, r.size)) (AnyD P o ρ I S K) (parts.toList.map fun (i, x) => (i, ρ.ev x)) z fun cs => ∀ b, K (.slice (some ⟨b, 0, none⟩) len len) I (S ++ [[(b, row cs e)]])
        | false => AnyD P o ρ I S K)
      | none => AnyD P o ρ I S K)
    | _ => AnyD P o ρ I S K)
  | .call c => (match c.callee with
    | .value f => (match ρ.ev f with
      | .func (.func g) first captured => forceL (first.toList ++ c.args.toList.map ρ.ev ++ captured.toList) fun l => Tri P g l.toArray I S K
      | _ => AnyD P o ρ I S K)
    | .builtin .len => (match c.argTypes[0]?, c.args[0]? with
      | some t, some x => (match T.get t with
        | some ⟨.slice _, _, _, _⟩ => (match ρ.ev x with
          | .slice _ n _ => K (.int .i64 n) I S
          | _ => PureD P o ρ fun v => K v I S)
        | some ⟨.string, _, _, _⟩ => (match ρ.ev x with
          | .string s => K (.int .i64 s.size) I S
          | _ => PureD P o ρ fun v => K v I S)
        | _ => AnyD P o ρ I S K)
      | _, _ => AnyD P o ρ I S K)
    | .builtin .min => (match c.args.toList.map ρ.ev with
      | [.int k a, .int _ b] => ToD (if b < a then b else a) fun m => K (.int k m) I S
      | _ => PureD P o ρ fun v => K v I S)
    | .builtin .max => (match c.args.toList.map ρ.ev with
      | [.int k a, .int _ b] => ToD (if a < b then b else a) fun m => K (.int k m) I S
      | _ => PureD P o ρ fun v => K v I S)
    | _ => AnyD P o ρ I S K)
  | _ => AnyD P o ρ I S K
/-- an operation that only computes: whatever the world is, it yields the same -/
def pureOp (T : Tab) : Op → Bool
  | .move _ => true
  | .assign _ => true
  | .pick .. => true
  | .nilCheck _ => true
  | .binOp .. => true
  | .unOp .. => true
  | .convert src dst _ => (match T.get src, T.get dst with
    | some _, some ⟨.int _, _, _, _⟩ => true
    | _, _ => false)
  | .makeFunc .. => true
  | .extract .. => true
  | .fieldAddr .. => true
  | .indexAddr .. => true
  | .makeInterface .. => true
  | .build .. => true
  | .call c => (match c.callee with
    | .builtin .len => (match c.argTypes[0]?, c.args[0]? with
      | some t, some _ => (match T.get t with
        | some ⟨.slice _, _, _, _⟩ => true
        | some ⟨.string, _, _, _⟩ => true
        | _ => false)
      | _, _ => false)
    | .builtin .min => true
    | .builtin .max => true
    | _ => false)
  | _ => false
end Go.Sl

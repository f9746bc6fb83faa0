/- The own logic, sixth part: lists of operations, code, loops, functions. -/
import Derived.Test.YthlcdoabjgdpiaaSl5
namespace Go.Sl
open Go.RowKit

def ifD (b : Bool) (A B : Prop) : Prop := match b with
  | true => A
  | false => B
theorem ifD.split {b : Bool} {A B : Prop} (h : b = true → A) (k : b = false → B) : ifD b A B := by
  cases b
  · exact k rfl
  · exact h rfl
theorem ifD.yes {b : Bool} {A B : Prop} (h : b = true) (k : A) : ifD b A B := by subst h; exact k
theorem ifD.no {b : Bool} {A B : Prop} (h : b = false) (k : B) : ifD b A B := by subst h; exact k

def dstAt (ops : List Oper) (j : Nat) : Option Nat := match ops[j]? with
  | some o => o.dst
  | none => none
def guardD (d : Option Nat) (want : Bool) (ρ : Env) (A B : Prop) : Prop := match d with
  | some d => (match ρ d with
    | .bool b => (match want with
      | true => ifD b A B
      | false => ifD b B A)
    | _ => B)
  | none => B
def putK (ρ : Env) (d : Option Nat) (v : Value) (K : Env → Prop) : Prop := match d with
  | some d => K (ρ.upd d v)
  | none => K ρ
theorem putK_eq (ρ : Env) (d : Option Nat) (v : Value) (K : Env → Prop) : putK ρ d v K = K (ρ.put d v) := by cases d <;> rfl
def opStep (P : Program) (T : Tab) (ops : List Oper) (o : Oper) (next : Env → Imm → St → (Env → Imm → St → Prop) → Prop) (ρ : Env) (I : Imm) (S : St) (K : Env → Imm → St → Prop) : Prop :=
  match o with
  | ⟨dst, op, type, pos, after, guard⟩ => match guard with
    | none => opD P T ⟨dst, op, type, pos, after, guard⟩ ρ I S fun v J S' => putK ρ dst v fun ρ' => next ρ' J S' K
    | some (j, want) => guardD (dstAt ops j) want ρ (opD P T ⟨dst, op, type, pos, after, guard⟩ ρ I S fun v J S' => putK ρ dst v fun ρ' => next ρ' J S' K) (putK ρ dst undef fun ρ' => next ρ' I S K)
noncomputable def denOps (P : Program) (T : Tab) (ops : List Oper) (l : List Oper) : Env → Imm → St → (Env → Imm → St → Prop) → Prop :=
  List.rec (motive := fun _ => Env → Imm → St → (Env → Imm → St → Prop) → Prop) (fun ρ I S K => K ρ I S) (fun o _ ih ρ I S K => opStep P T ops o ih ρ I S K) l
theorem denOps_nil (P : Program) (T : Tab) (ops : List Oper) (ρ : Env) (I : Imm) (S : St) (K : Env → Imm → St → Prop) : denOps P T ops [] ρ I S K = K ρ I S := rfl
theorem denOps_cons (P : Program) (T : Tab) (ops : List Oper) (o : Oper) (l : List Oper) (ρ : Env) (I : Imm) (S : St) (K : Env → Imm → St → Prop) : denOps P T ops (o :: l) ρ I S K = opStep P T ops o (denOps P T ops l) ρ I S K := rfl

def fitsO (n : Nat) (o : Oper) : Bool := match o.dst with
  | some d => Nat.blt d n
  | none => true
theorem fitsO_lt {n : Nat} {o : Oper} (h : fitsO n o = true) : ∀ k, o.dst = some k → k < n := by
  intro k hk
  unfold fitsO at h
  rw [hk] at h
  simpa [Nat.blt_eq] using h

theorem yielded_rel {ops : List Oper} {n : Nat} {D : List Deferred} {a : Act} {ρ : Env} (hr : Rel n D a ρ) (hf : ∀ o ∈ ops, fitsO n o = true) (j : Nat) :
    yielded ops.toArray a.tmps j = (match dstAt ops j with
      | some d => (match ρ d with | .bool b => some b | _ => none)
      | none => none) := by
  unfold yielded dstAt
  simp only [List.getElem?_toArray]
  cases ho : ops[j]? with
  | none => rfl
  | some o =>
    simp only [Option.bind_some]
    cases hd : o.dst with
    | none => rfl
    | some d =>
      have hlt := fitsO_lt (hf o (List.mem_of_getElem? ho)) d hd
      simp only [Option.bind_some]
      have hg := hr.get d
      rw [Array.getD_eq_getD_getElem?, Array.getElem?_eq_getElem (by rw [hr.size]; exact hlt)] at hg
      rw [Array.getElem?_eq_getElem (by rw [hr.size]; exact hlt)]
      simp only [Option.getD_some] at hg
      rw [hg]
      cases ρ d <;> rfl
theorem wanted_rel {ops : List Oper} {n : Nat} {D : List Deferred} {a : Act} {ρ : Env} (hr : Rel n D a ρ) (hf : ∀ o ∈ ops, fitsO n o = true) {o : Oper} {j : Nat} {want : Bool} (hg : o.guard = some (j, want)) {A B : Prop}
    (h : guardD (dstAt ops j) want ρ A B) : (Region.wanted o (yielded ops.toArray a.tmps) = true ∧ A) ∨ (Region.wanted o (yielded ops.toArray a.tmps) = false ∧ B) := by
  unfold Region.wanted
  rw [hg]
  simp only []
  rw [yielded_rel hr hf j]
  unfold guardD at h
  cases hd : dstAt ops j with
  | none => rw [hd] at h; right; exact ⟨by cases want <;> rfl, h⟩
  | some d =>
    rw [hd] at h
    simp only [] at h ⊢
    cases hv : ρ d <;> rw [hv] at h <;> simp only [] at h ⊢
    case bool b =>
      cases want <;> cases b <;> simp only [ifD] at h
      · left; exact ⟨rfl, h⟩
      · right; exact ⟨rfl, h⟩
      · right; exact ⟨rfl, h⟩
      · left; exact ⟨rfl, h⟩
    all_goals (right; exact ⟨by cases want <;> rfl, h⟩)

theorem denOps_ok {P : Program} {T : Tab} (hT : TabOk P T) {ops : List Oper} {n : Nat} (hf : ∀ o ∈ ops, fitsO n o = true) {K : Env → Imm → St → Prop} {Q : Exit → Act → World → Prop} {F : List Blk} {D : List Deferred} (rd : Option Nat) :
    ∀ (l : List Oper) (ρ : Env) (I : Imm) (S : St) (a : Act) (w : World), (∀ o ∈ l, fitsO n o = true) → denOps P T ops l ρ I S K → Rel n D a ρ → Has w I (S.flatten ++ F) →
    (∀ a' w' ρ' J S', Rel n D a' ρ' → I.le J → K ρ' J S' → Has w' J (S'.flatten ++ F) → Ext w w' → Q .normal a' w') → wpListIn (wR rd) 0 P ops.toArray Q l a w
  | [], ρ, I, S, a, w, _, h, hr, hw, hQ => wpListIn_nil (hQ a w ρ I S hr I.le_refl (by rw [denOps_nil] at h; exact h) hw (Ext.refl w))
  | ⟨dst, op, type, pos, after, guard⟩ :: l, ρ, I, S, a, w, hl, h, hr, hw, hQ => by
    obtain ⟨o, hoe⟩ : ∃ o : Oper, o = ⟨dst, op, type, pos, after, guard⟩ := ⟨_, rfl⟩
    have hod : o.dst = dst := by rw [hoe]
    have ho : fitsO n o = true := by rw [hoe]; exact hl _ (by simp)
    have hl' : ∀ o ∈ l, fitsO n o = true := fun x hx => hl x (by simp [hx])
    have go : ∀ (G : opD P T o ρ I S fun v J S' => putK ρ dst v fun ρ' => denOps P T ops l ρ' J S' K), o.wpIn (wR rd) 0 P a w (wpListIn (wR rd) 0 P ops.toArray Q l) Q := by
      intro G
      have := (opD_ok hT G).wp hr hw rd Q
      refine Oper.wpIn_mono (P := P) ?_ this
      rintro a' w' ⟨v, rfl, J, S', hle, hk, hh, hx⟩
      rw [putK_eq, ← hod] at hk
      refine denOps_ok hT hf rd l _ J S' _ w' hl' hk (hr.put o.dst (fitsO_lt ho) v) hh ?_
      intro a'' w'' ρ'' J' S'' r1 r2 r3 r4 r5
      exact hQ a'' w'' ρ'' J' S'' r1 (Imm.le_trans hle r2) r3 r4 (hx.trans r5)
    unfold wpListIn
    rw [denOps_cons] at h
    unfold opStep at h
    rw [← hoe]
    have hog : o.guard = guard := by rw [hoe]
    cases hg : guard with
    | none =>
      subst hg
      simp only [← hoe] at h
      rw [if_pos (by simp [Region.wanted, hog])]
      exact go h
    | some jw =>
      obtain ⟨j, want⟩ := jw
      subst hg
      simp only [← hoe] at h
      rcases wanted_rel hr hf hog h with ⟨hw1, h⟩ | ⟨hw1, h⟩
      · rw [if_pos hw1]; exact go h
      · rw [if_neg (by simp [hw1])]
        rw [putK_eq, ← hod] at h
        refine ⟨fun _ _ => trivial, ?_⟩
        exact denOps_ok hT hf rd l _ I S _ w hl' h (hr.put o.dst (fitsO_lt ho) undef) hw hQ

/-! ### code -/
def fitsC (n : Nat) : Code → Bool
  | .region _ ops _ => ops.toList.all (fitsO n)
  | .seq a b => fitsC n a && fitsC n b
  | .cond _ a b => fitsC n a && fitsC n b
  | .block _ c => fitsC n c
  | .loop c => fitsC n c
  | .rangeFunc _ ps a c => ps.toList.all (fun d => Nat.blt d n) && fitsC n a && fitsC n c
  | .scope c => fitsC n c
  | _ => true
/-- the judgement on code -/
structure CodeS (P : Program) (n : Nat) (c : Code) (ρ : Env) (I : Imm) (S : St) (Q : Exit → Env → Imm → St → Prop) : Prop where
  run : ∀ (rd : Option Nat) (ds : List Nat) a w F R, Rel n (marks ds) a ρ → Has w I (S.flatten ++ (markB ds ++ F)) → (∀ l, rd = some l → ∃ r, (l, Obj.loop r) ∈ F) →
    (∀ e a' w' ρ' J S' ds', (rd ≠ none → ds' = ds) → Rel n (marks ds') a' ρ' → I.le J → Q e ρ' J S' → Has w' J (S'.flatten ++ (markB ds' ++ F)) → Ext w w' → R e a' w') → c.wpIn (wR rd) 0 P R a w
/-- the judgement on code that names no slot beyond its frame -/
structure CodeF (P : Program) (T : Tab) (n : Nat) (c : Code) (ρ : Env) (I : Imm) (S : St) (Q : Exit → Env → Imm → St → Prop) : Prop where
  out : TabOk P T → fitsC n c = true → CodeS P n c ρ I S Q
def seqQ (Q : Exit → Env → Imm → St → Prop) (K : Env → Imm → St → Prop) : Exit → Env → Imm → St → Prop := fun e ρ I S => match e with
  | .normal => K ρ I S
  | e => Q e ρ I S
def blockQ (id : Nat) (Q : Exit → Env → Imm → St → Prop) : Exit → Env → Imm → St → Prop := fun e ρ I S => match e with
  | .exit i => (match Nat.beq i id with
    | true => Q .normal ρ I S
    | false => Q (.exit i) ρ I S)
  | e => Q e ρ I S
abbrev QT := Exit → Env → Imm → St → Prop
def condS (c : Operand) (a b : Env → Imm → St → QT → Prop) (ρ : Env) (I : Imm) (S : St) (Q : QT) : Prop := match ρ.ev c with
  | .bool t => (match t with
    | true => a ρ I S Q
    | false => b ρ I S Q)
  | _ => False
def regionS (P : Program) (T : Tab) (n id : Nat) (ops : Array Oper) (draw : Bool) (ρ : Env) (I : Imm) (S : St) (Q : QT) : Prop := match draw with
  | false => denOps P T ops.toList ops.toList ρ I S fun ρ I S => Q .normal ρ I S
  | true => CodeF P T n (.region id ops true) ρ I S Q
noncomputable def denC (P : Program) (T : Tab) (n : Nat) (c : Code) : Env → Imm → St → QT → Prop :=
  Code.rec (motive := fun _ => Env → Imm → St → QT → Prop)
    (fun ρ I S Q => Q .normal ρ I S)
    (fun id ops draw ρ I S Q => regionS P T n id ops draw ρ I S Q)
    (fun _ _ a b ρ I S Q => a ρ I S (seqQ Q fun ρ I S => b ρ I S Q))
    (fun c _ _ a b ρ I S Q => condS c a b ρ I S Q)
    (fun id _ a ρ I S Q => a ρ I S (blockQ id Q))
    (fun c _ ρ I S Q => CodeF P T n (.loop c) ρ I S Q)
    (fun f ps x y _ _ ρ I S Q => CodeF P T n (.rangeFunc f ps x y) ρ I S Q)
    (fun id ρ I S Q => Q (.exit id) ρ I S)
    (fun c _ ρ I S Q => CodeF P T n (.scope c) ρ I S Q)
    (fun _ ρ I S Q => Q .normal ρ I S)
    (fun l ρ I S Q => Q (.goto l) ρ I S)
    (fun ρ I S Q => Q .ret ρ I S)
    (fun _ _ _ _ _ => False) c

theorem CodeS.mono {P : Program} {n : Nat} {c : Code} {ρ : Env} {I : Imm} {S : St} {Q Q' : Exit → Env → Imm → St → Prop} (h : CodeS P n c ρ I S Q)
    (hq : ∀ e ρ' J S', I.le J → Q e ρ' J S' → Q' e ρ' J S') : CodeS P n c ρ I S Q' :=
  ⟨fun rd ds a w F R hr hw hl hR => h.run rd ds a w F R hr hw hl fun e a' w' ρ' J S' ds' r0 r1 r2 r3 r4 r5 => hR e a' w' ρ' J S' ds' r0 r1 r2 (hq e ρ' J S' r2 r3) r4 r5⟩
theorem denC_ok {P : Program} {T : Tab} (hT : TabOk P T) {n : Nat} : ∀ (c : Code) (ρ : Env) (I : Imm) (S : St) (Q : Exit → Env → Imm → St → Prop), fitsC n c = true → denC P T n c ρ I S Q → CodeS P n c ρ I S Q
  | .skip, ρ, I, S, Q, _, h => ⟨fun rd ds a w F R hr hw hl hR => wpIn_skip (hR _ _ _ _ _ _ ds (fun _ => rfl) hr I.le_refl h hw (Ext.refl w))⟩
  | .label _, ρ, I, S, Q, _, h => ⟨fun rd ds a w F R hr hw hl hR => wpIn_label (hR _ _ _ _ _ _ ds (fun _ => rfl) hr I.le_refl h hw (Ext.refl w))⟩
  | .region id ops draw, ρ, I, S, Q, hf, h => by
    have h : regionS P T n id ops draw ρ I S Q := h
    cases draw with
    | true => exact CodeF.out h hT hf
    | false =>
      have h : denOps P T ops.toList ops.toList ρ I S (fun ρ I S => Q .normal ρ I S) := h
      refine ⟨fun rd ds a w F R hr hw hl hR => ?_⟩
      have hf' : ∀ o ∈ ops.toList, fitsO n o = true := List.all_eq_true.1 hf
      have : ops = ops.toList.toArray := by simp
      rw [this]
      refine wpIn_region_lit (denOps_ok hT hf' rd ops.toList ρ I S a w hf' h hr hw ?_)
      intro a' w' ρ' J S' r1 r2 r3 r4 r5
      exact hR _ _ _ _ _ _ ds (fun _ => rfl) r1 r2 r3 r4 r5
  | .seq x y, ρ, I, S, Q, hf, h => by
    simp only [fitsC, Bool.and_eq_true] at hf
    have hx := denC_ok hT x ρ I S _ hf.1 h
    refine ⟨fun rd ds a w F R hr hw hl hR => wpIn_seq ?_⟩
    refine hx.run rd ds a w F _ hr hw hl ?_
    intro e a' w' ρ' J S' ds' r0 r1 r2 r3 r4 r5
    cases e with
    | normal =>
      have hy := denC_ok hT y ρ' J S' Q hf.2 r3
      exact hy.run rd ds' a' w' F R r1 r4 hl fun e a'' w'' ρ'' J' S'' ds'' s0 s1 s2 s3 s4 s5 => hR e a'' w'' ρ'' J' S'' ds'' (fun h => (s0 h).trans (r0 h)) s1 (Imm.le_trans r2 s2) s3 s4 (r5.trans s5)
    | exit i => exact hR _ _ _ _ _ _ ds' r0 r1 r2 r3 r4 r5
    | goto l => exact hR _ _ _ _ _ _ ds' r0 r1 r2 r3 r4 r5
    | ret => exact hR _ _ _ _ _ _ ds' r0 r1 r2 r3 r4 r5
    | panic c => exact hR _ _ _ _ _ _ ds' r0 r1 r2 r3 r4 r5
    | outgrown => exact hR _ _ _ _ _ _ ds' r0 r1 r2 r3 r4 r5
  | .cond c x y, ρ, I, S, Q, hf, h => by
    simp only [fitsC, Bool.and_eq_true] at hf
    have h : condS c (denC P T n x) (denC P T n y) ρ I S Q := h
    unfold condS at h
    refine ⟨fun rd ds a w F R hr hw hl hR => ?_⟩
    split at h
    · rename_i t ht
      have ht' : a.eval c = .bool t := by rw [hr.eval]; exact ht
      refine wpIn_cond ht' ?_
      cases t with
      | true => exact (denC_ok hT x ρ I S Q hf.1 h).run rd ds a w F R hr hw hl hR
      | false => exact (denC_ok hT y ρ I S Q hf.2 h).run rd ds a w F R hr hw hl hR
    · exact h.elim
  | .block id c, ρ, I, S, Q, hf, h => by
    have hc := denC_ok hT c ρ I S _ hf h
    refine ⟨fun rd ds a w F R hr hw hl hR => wpIn_block ?_⟩
    refine hc.run rd ds a w F _ hr hw hl ?_
    intro e a' w' ρ' J S' ds' r0 r1 r2 r3 r4 r5
    cases e with
    | exit i =>
      simp only [blockQ] at r3
      simp only [Exit.inBlock]
      by_cases hi : i = id
      · subst hi
        rw [if_pos rfl]
        rw [show Nat.beq i i = true from Nat.beq_refl i] at r3
        exact hR _ _ _ _ _ _ ds' r0 r1 r2 r3 r4 r5
      · rw [if_neg hi]
        have : Nat.beq i id = false := by
          cases hb : Nat.beq i id with
          | false => rfl
          | true => exact absurd (Nat.eq_of_beq_eq_true hb) hi
        rw [this] at r3
        exact hR _ _ _ _ _ _ ds' r0 r1 r2 r3 r4 r5
    | normal => exact hR _ _ _ _ _ _ ds' r0 r1 r2 r3 r4 r5
    | goto l => exact hR _ _ _ _ _ _ ds' r0 r1 r2 r3 r4 r5
    | ret => exact hR _ _ _ _ _ _ ds' r0 r1 r2 r3 r4 r5
    | panic c => exact hR _ _ _ _ _ _ ds' r0 r1 r2 r3 r4 r5
    | outgrown => exact hR _ _ _ _ _ _ ds' r0 r1 r2 r3 r4 r5
  | .exit id, ρ, I, S, Q, _, h => ⟨fun rd ds a w F R hr hw hl hR => wpIn_exit (hR _ _ _ _ _ _ ds (fun _ => rfl) hr I.le_refl h hw (Ext.refl w))⟩
  | .goto l, ρ, I, S, Q, _, h => ⟨fun rd ds a w F R hr hw hl hR => wpIn_goto (hR _ _ _ _ _ _ ds (fun _ => rfl) hr I.le_refl h hw (Ext.refl w))⟩
  | .ret, ρ, I, S, Q, _, h => ⟨fun rd ds a w F R hr hw hl hR => wpIn_ret (hR _ _ _ _ _ _ ds (fun _ => rfl) hr I.le_refl h hw (Ext.refl w))⟩
  | .refuse _, _, _, _, _, _, h => False.elim h
  | .loop c, ρ, I, S, Q, hf, h => CodeF.out (c := .loop c) h hT hf
  | .rangeFunc f ps x c, ρ, I, S, Q, hf, h => CodeF.out (c := .rangeFunc f ps x c) h hT hf
  | .scope c, ρ, I, S, Q, hf, h => CodeF.out (c := .scope c) h hT hf

/-! ### loops -/
/-- a frame in which some slots are known -/
def Env.of (l : List (Nat × Value)) (g : Env) : Env := fun t => match l with
  | [] => g t
  | (k, v) :: l => match Nat.beq t k with
    | true => v
    | false => Env.of l g t
theorem Env.of_self : ∀ (l : List Nat) (ρ : Env), Env.of (l.map fun k => (k, ρ k)) ρ = ρ
  | [], ρ => rfl
  | k :: l, ρ => by
    funext t
    show (match Nat.beq t k with | true => ρ k | false => Env.of (l.map fun k => (k, ρ k)) ρ t) = ρ t
    cases h : Nat.beq t k with
    | true => have := Nat.eq_of_beq_eq_true h; subst this; rfl
    | false => exact congrFun (Env.of_self l ρ) t
theorem zip_map_self (l : List Nat) (ρ : Env) : l.zip (l.map ρ) = l.map fun k => (k, ρ k) := by
  induction l with
  | nil => rfl
  | cons k l ih => simp [ih]
/-- some of what is owned is let go -/
def Drop (S S0 : St) : Prop := ∃ R, S.flatten.Perm (S0.flatten ++ R)
theorem Drop.refl (S : St) : Drop S S := ⟨[], by simp⟩
theorem Drop.take (k : Nat) (S : St) : Drop S (S.take k) := ⟨(S.drop k).flatten, by rw [← List.flatten_append, List.take_append_drop]⟩
theorem Drop.pick (is : List Nat) (S : St) (h : okAt S.length is = true) : Drop S (St.at S is) := ⟨(St.out S is).flatten, out_perm is S h⟩
theorem Drop.has {S S0 : St} (h : Drop S S0) {w : World} {I : Imm} {F : List Blk} (hw : Has w I (S.flatten ++ F)) : Has w I (S0.flatten ++ F) := by
  obtain ⟨R, hp⟩ := h
  refine (hw.perm (L' := R ++ (S0.flatten ++ F)) ?_).sub (List.sublist_append_right _ _)
  rw [← List.append_assoc]
  exact List.Perm.append_right _ (hp.trans List.perm_append_comm)
/-- A LOOP: of the slots 'sl' the relation G is kept; a measure falls. What a round leaves over may be let go. -/
theorem CodeF.loopD {P : Program} {T : Tab} {n : Nat} {c : Code} {ρ : Env} {I : Imm} {S : St} {Q : Exit → Env → Imm → St → Prop}
    (sl : List Nat) (G : List Value → Imm → St → Prop) (μ : List Value → Imm → St → Nat) (h0 : ∃ S0, Drop S S0 ∧ G (sl.map ρ) I S0)
    (round : ∀ vs g J S', I.le J → G vs J S' → denC P T n c (Env.of (sl.zip vs) g) J S' (fun e ρ' J' S'' => match e with
      | .normal => ∃ S0, Drop S'' S0 ∧ G (sl.map ρ') J' S0 ∧ μ (sl.map ρ') J' S0 < μ vs J S'
      | e => Q e ρ' J' S'')) : CodeF P T n (.loop c) ρ I S Q := by
  refine ⟨fun hT hf => ⟨fun rd ds a w F R hr hw hl hR => ?_⟩⟩
  have hround : ∀ m, ∀ (ρ : Env) (J : Imm) (S' : St) (ds' : List Nat) (a : Act) (w' : World), μ (sl.map ρ) J S' = m → G (sl.map ρ) J S' → I.le J → (rd ≠ none → ds' = ds) → Rel n (marks ds') a ρ → Has w' J (S'.flatten ++ (markB ds' ++ F)) → Ext w w' →
      ∀ (b : Frame) (k : List Item) (cs : List Frame), b.roundOf = (wR rd).round → (wR rd).fn b.fn → (wR rd).room (cs.length + 1 + 0) → ∃ e a₁ w₁, R e a₁ w₁ ∧ ArrivesIn (Machine.fenced P (wR rd)) P (lone (b.atR a (.code c :: .inLoop c :: k)) cs w') b k cs e a₁ w₁ := by
    intro m
    induction m using Nat.strongRecOn with
    | _ m ih =>
      intro ρ J S' ds' a w' hm hG hle hds hr hw hx b k cs hro hb hroom
      have hd := round (sl.map ρ) ρ J S' hle hG
      rw [zip_map_self, Env.of_self] at hd
      have hc := denC_ok hT c ρ J S' _ hf hd
      have hwp := hc.run rd ds' a w' F (fun e a' w'' => match e with
        | .normal => ∃ ρ' J' S'' ds'', (rd ≠ none → ds'' = ds) ∧ Rel n (marks ds'') a' ρ' ∧ I.le J' ∧ G (sl.map ρ') J' S'' ∧ μ (sl.map ρ') J' S'' < m ∧ Has w'' J' (S''.flatten ++ (markB ds'' ++ F)) ∧ Ext w w''
        | e => R e a' w'') hr hw hl (by
          intro e a' w'' ρ' J' S'' ds'' r0 r1 r2 r3 r4 r5
          have r0 : rd ≠ none → ds'' = ds := fun h => (r0 h).trans (hds h)
          cases e with
          | normal =>
            obtain ⟨S0, hd0, hg0, hm0⟩ := r3
            exact ⟨ρ', J', S0, ds'', r0, r1, Imm.le_trans hle r2, hg0, hm ▸ hm0, hd0.has r4, hx.trans r5⟩
          | exit i => exact hR _ _ _ _ _ _ ds'' r0 r1 (Imm.le_trans hle r2) r3 r4 (hx.trans r5)
          | goto l => exact hR _ _ _ _ _ _ ds'' r0 r1 (Imm.le_trans hle r2) r3 r4 (hx.trans r5)
          | ret => exact hR _ _ _ _ _ _ ds'' r0 r1 (Imm.le_trans hle r2) r3 r4 (hx.trans r5)
          | panic c => exact hR _ _ _ _ _ _ ds'' r0 r1 (Imm.le_trans hle r2) r3 r4 (hx.trans r5)
          | outgrown => exact hR _ _ _ _ _ _ ds'' r0 r1 (Imm.le_trans hle r2) r3 r4 (hx.trans r5))
      obtain ⟨e, a₁, w₁, hq, harr⟩ := hwp b (.inLoop c :: k) cs hro hb hroom
      cases e with
      | normal =>
        obtain ⟨ρ', J', S'', ds'', r0, r1, r2, r3, r4, r5, r6⟩ := hq
        obtain ⟨e₂, a₂, w₂, hq₂, harr₂⟩ := ih _ r4 ρ' J' S'' ds'' a₁ w₁ rfl r3 r2 r0 r1 r5 r6 b k cs hro hb hroom
        exact ⟨e₂, a₂, w₂, hq₂, .of_steps (StepsIn.trans harr (.one (fenced_calm hb hroom rfl) stepR_inLoop)) harr₂⟩
      | exit id => exact ⟨_, a₁, w₁, hq, .pass (x := .inLoop c) rfl (fun _ _ => .inl (by simp)) harr⟩
      | goto l => exact ⟨_, a₁, w₁, hq, .pass (x := .inLoop c) rfl (fun _ _ => .inl (by simp)) harr⟩
      | ret => exact ⟨_, a₁, w₁, hq, .pass (x := .inLoop c) rfl (fun _ _ => .inl (by simp)) harr⟩
      | panic ch => exact ⟨_, a₁, w₁, hq, .pass (x := .inLoop c) rfl (fun _ _ => .inl (by simp)) harr⟩
      | outgrown => exact ⟨_, a₁, w₁, hq, .pass (x := .inLoop c) rfl (fun _ _ => .inl (by simp)) harr⟩
  intro b k cs hro hb hroom
  obtain ⟨S0, hd0, h0⟩ := h0
  obtain ⟨e, a', w', hq, harr⟩ := hround _ ρ I S0 ds a w rfl h0 I.le_refl (fun _ => rfl) hr (hd0.has hw) (Ext.refl w) b k cs hro hb hroom
  exact ⟨e, a', w', hq, .of_steps (.one (fenced_calm hb hroom rfl) stepR_loop) harr⟩

/-! ### functions -/
def Env.init (l : List Value) : Env := fun t => match l[t]? with
  | some v => v
  | none => undef
def resL (T : Tab) : List ResultVar → Env → Imm → St → (List Value → Prop) → Prop
  | [], _, _, _, K => K []
  | .tmp t :: rs, ρ, I, S, K => force (ρ t) fun v => resL T rs ρ I S fun vs => K (v :: vs)
  | .cell x t :: rs, ρ, I, S, K => match T.get t, ρ x with
    | some r, .pointer (some ⟨b, off, none⟩) => (match r.agg with
      | true => LoadD I S b off r.size fun ws => resL T rs ρ I S fun vs => K (.agg ws.toArray :: vs)
      | false => LoadD I S b off 1 fun ws => resL T rs ρ I S fun vs => K (ws.headD undef :: vs))
    | _, _ => False
def resV : List Value → Value
  | [v] => v
  | vs => .tuple vs.toArray
def retQ (T : Tab) (rs : List ResultVar) (Q : Value → Imm → St → Prop) : Exit → Env → Imm → St → Prop := fun e ρ I S => match e with
  | .normal => resL T rs ρ I S fun vs => Done (Q (resV vs) I S)
  | .ret => resL T rs ρ I S fun vs => Done (Q (resV vs) I S)
  | _ => False
def resS (tmps : Array Value) : ResultVar → Sem Value
  | .tmp t => pure (tmps.getD t undef)
  | .cell a t => do loadVar t (← asAddr (tmps.getD a undef))
theorem run_resL {P : Program} {T : Tab} (hT : TabOk P T) {n : Nat} {D : List Deferred} {a : Act} {ρ : Env} (hr : Rel n D a ρ) {w : World} {I : Imm} {S : St} {F : List Blk} (hw : Has w I (S.flatten ++ F)) :
    ∀ (rs : List ResultVar) (K : List Value → Prop), resL T rs ρ I S K → ∃ vs, (rs.mapM (resS a.tmps)).run P w = .ok vs w ∧ K vs
  | [], K, h => ⟨[], by simp, h⟩
  | .tmp t :: rs, K, h => by
    rw [resL, force_eq] at h
    obtain ⟨vs, hv, hk⟩ := run_resL hT hr hw rs _ h
    refine ⟨ρ t :: vs, ?_, hk⟩
    rw [List.mapM_cons]
    simp only [resS, Sem.run_bind, Sem.run_pure, Result.andThen_ok, hv, hr.get t]
  | .cell x t :: rs, K, h => by
    rw [resL] at h
    split at h
    · rename_i r b off ht hx
      have hx' : a.tmps.getD x undef = .pointer (some ⟨b, off, none⟩) := by rw [hr.get]; exact hx
      split at h
      · rename_i hag
        obtain ⟨ws, hc, h⟩ := h
        obtain ⟨vs, hv, hk⟩ := run_resL hT hr hw rs _ h
        refine ⟨.agg ws.toArray :: vs, ?_, hk⟩
        rw [List.mapM_cons]
        simp [resS, hx', asAddr, loadVar, run_isAgg_row w (hT _ _ ht), hag, run_sizeOf_row w (hT _ _ ht), hc.run hw, hv]
      · rename_i hag
        obtain ⟨ws, hc, h⟩ := h
        obtain ⟨vs, hv, hk⟩ := run_resL hT hr hw rs _ h
        refine ⟨ws.headD undef :: vs, ?_, hk⟩
        obtain ⟨c, Ty, fr, hin, he, hl⟩ := hc.ex
        match ws, hl with
        | [v], _ =>
          have hcell := hc.cell hw 0 v rfl
          rw [List.mapM_cons]
          simp at hcell
          simp [resS, hx', asAddr, loadVar, run_isAgg_row w (hT _ _ ht), hag, hcell, hv]
    · exact h.elim
theorem run_results {P : Program} {fn : Func} {a : Act} {w : World} {vs : List Value} (h : (fn.results.toList.mapM (resS a.tmps)).run P w = .ok vs w) : (results fn a.tmps).run P w = .ok (resV vs) w := by
  unfold results
  have e : fn.results = fn.results.toList.toArray := by simp
  have e1 : (fn.results.mapM (m := Sem) (resS a.tmps)).run P w = .ok vs.toArray w := by
    rw [e, List.mapM_toArray, Sem.run_map, h, Result.andThen_ok]
  have key : ∀ g : ResultVar → Sem Value, (∀ r, g r = resS a.tmps r) → (fn.results.mapM g).run P w = .ok vs.toArray w := fun g hg => by rw [funext hg]; exact e1
  simp only [Sem.run_bind]
  rw [key _ (by intro r; cases r <;> rfl)]
  simp only [Result.andThen_ok, Sem.run_pure]
  congr 1
  match vs with
  | [] => rfl
  | [v] => rfl
  | v :: u :: vs => simp [resV]
/-- A FUNCTION: its contract out of what its code asks. -/
theorem Tri.of {P : Program} {T : Tab} {f : FuncId} {fn : Func} {c : Code} {args : List Value} {I : Imm} {S : St} {Q : Value → Imm → St → Prop} (hT : TabOk P T)
    (hf : P.funcs[f]? = some fn) (hb : fn.body = some c) (hn : (fn.name == "runtime.NumGoroutine") = false) (hfit : (fitsC fn.ntmps c && Nat.ble args.length fn.ntmps) = true)
    (h : denC P T fn.ntmps c (Env.init args) I S (retQ T fn.results.toList Q)) : Tri P f args.toArray I S Q := by
  simp only [Bool.and_eq_true] at hfit
  obtain ⟨hfit, hsz⟩ := hfit
  have hsz := Nat.le_of_ble_eq_true hsz
  refine ⟨fun w _ _ => ?_, fun w F hw => ?_⟩
  · have hn' : ¬ fn.name = "runtime.NumGoroutine" := by simpa using hn
    simp [callFunc, hf, hb, hn']
  · refine (callsIn_wide (n := 0)).1 (callsIn_of_wp_marks (F := Fence.wide) hf hb trivial ?_)
    have hr : Rel fn.ntmps (marks []) { tmps := args.toArray ++ Array.replicate (fn.ntmps - args.toArray.size) undef, defers := [] } (Env.init args) := by
      refine ⟨rfl, by simp; omega, ?_⟩
      intro t
      unfold Env.init
      rw [Array.getD_eq_getD_getElem?, Array.getElem?_append]
      simp only [List.size_toArray]
      split
      · rename_i hlt
        simp [List.getElem?_eq_getElem hlt]
      · rename_i hge
        rw [List.getElem?_eq_none (by omega)]
        simp only [Array.getElem?_replicate]
        split <;> rfl
    refine (denC_ok hT c _ I S _ hfit h).run none [] _ w F _ hr (by simpa [markB] using hw) (fun _ h => by cases h) ?_
    intro e a' w' ρ' J S' ds' _ r1 r2 r3 r4 r5
    have fin : (resL T fn.results.toList ρ' J S' fun vs => Done (Q (resV vs) J S')) → LeavesInM Fence.wide 0 P fn a'.tmps (fun e w' => ∃ v J S', e = .returned v ∧ I.le J ∧ Q v J S' ∧ Has w' J (S'.flatten ++ F) ∧ Ext w w') a'.defers .returning w' := by
      intro hres
      rw [r1.defers]
      have key : ∀ (ds : List Nat) (w1 : World), Has w1 J (S'.flatten ++ (markB ds ++ F)) → Ext w w1 → LeavesInM Fence.wide 0 P fn a'.tmps (fun e w' => ∃ v J S', e = .returned v ∧ I.le J ∧ Q v J S' ∧ Has w' J (S'.flatten ++ F) ∧ Ext w w') (marks ds) .returning w1 := by
        intro ds
        induction ds with
        | nil =>
          intro w1 hw1 hx1
          obtain ⟨vs, hv, ⟨hk⟩⟩ := run_resL hT r1 (by simpa [markB] using hw1) _ _ hres
          exact ⟨_, run_results hv, _, J, S', rfl, r2, hk, by simpa [markB] using hw1, hx1⟩
        | cons d ds ih =>
          intro w1 hw1 hx1
          have hb : w1.heap[d]? = some (.deferred (some [])) := hw1.mem (d, .deferred (some [])) (by simp [markB])
          refine ⟨by simp, .inl ⟨d, w1.putObj d (.deferred none), rfl, ?_, ?_⟩⟩
          · exact run_takeDeferred hb
          · refine ih _ ?_ (hx1.trans ⟨rfl, rfl, rfl, by simp⟩)
            have hw2 : Has w1 J ((S'.flatten) ++ (d, Obj.deferred (some [])) :: (markB ds ++ F)) := by simpa [markB] using hw1
            have := hw2.turn (w' := w1.putObj d (.deferred none)) (o' := .deferred none) (World.putObj_heap_same (lt_of_some hb)) (fun k hk => World.putObj_heap_other hk)
            refine this.sub ?_
            exact List.Sublist.append_left (List.sublist_cons_self _ _) _
      exact key ds' w' r4 r5
    cases e with
    | normal => exact fin r3
    | ret => exact fin r3
    | exit i => exact r3.elim
    | goto l => exact r3.elim
    | panic c => exact r3.elim
    | outgrown => exact r3.elim
end Go.Sl

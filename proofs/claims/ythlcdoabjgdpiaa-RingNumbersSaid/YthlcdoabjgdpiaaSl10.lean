/- The own logic, tenth part: regions whose order is drawn. A schedule is given; what only reads may be done ahead of all that may come before it, if that keeps what was read. -/
import Derived.Test.YthlcdoabjgdpiaaSl9
namespace Go.Sl
open Go.RowKit

def dpred (o : Oper) (i : Nat) : Bool := o.after.toList.any fun e => Region.binds .any e && Nat.beq e.on i
def readyB (ops : List Oper) (lst : Nat → Bool) (o : Oper) (i : Nat) : Bool := !lst i && o.after.toList.all fun e => !Region.binds .any e || (lst e.on && Nat.blt e.on ops.length)
def wantE (ops : List Oper) (ρ : Env) (o : Oper) : Bool := match o.guard with
  | none => true
  | some (j, want) => match dstAt ops j with
    | some d => (match ρ d with
      | .bool b => b == want
      | _ => false)
    | none => false
/-- one step of an operation, its guard looked at -/
def stepQ (P : Program) (ops : List Oper) (o : Oper) (ρ : Env) (I : Imm) (S : St) (K : Value → Imm → St → Prop) : Prop :=
  match wantE ops ρ o with
  | true => OpS P o ρ I S K
  | false => K undef I S
theorem stepQ.mono {P : Program} {ops : List Oper} {o : Oper} {ρ : Env} {I : Imm} {S : St} {K K' : Value → Imm → St → Prop} (h : stepQ P ops o ρ I S K) (hk : ∀ v J S', I.le J → K v J S' → K' v J S') : stepQ P ops o ρ I S K' := by
  unfold stepQ at *
  split at h
  · exact OpS.mono h hk
  · exact hk _ _ _ I.le_refl h
abbrev Prot := List (Nat × Nat)
def pres (bef : Nat → Nat → Bool) (pr : Prot) (j : Nat) (S S' : St) : Prop := ∀ p ∈ pr, bef j p.1 = false → S'[p.2]? = S[p.2]?
def put1 (lst : Nat → Bool) (i : Nat) : Nat → Bool := fun k => Nat.beq k i || lst k
theorem put1_comm (lst : Nat → Bool) (i j : Nat) : put1 (put1 lst i) j = put1 (put1 lst j) i := by
  funext k; simp only [put1]; cases Nat.beq k i <;> cases Nat.beq k j <;> rfl
theorem put1_self (lst : Nat → Bool) (i : Nat) : put1 lst i i = true := by simp [put1]
theorem put1_ne (lst : Nat → Bool) {i j : Nat} (h : j ≠ i) : put1 lst i j = lst j := by
  have : Nat.beq j i = false := by
    cases hb : Nat.beq j i with
    | false => rfl
    | true => exact absurd (Nat.eq_of_beq_eq_true hb) h
  simp [put1, this]
/-- every order that the edges allow -/
def anyQ (P : Program) (ops : List Oper) (bef : Nat → Nat → Bool) (K : Env → Imm → St → Prop) : Nat → (Nat → Bool) → Prot → Env → Imm → St → Prop
  | 0, lst, _, ρ, I, S => (∀ i o, ops[i]? = some o → readyB ops lst o i = false) → K ρ I S
  | f + 1, lst, pr, ρ, I, S => ((∀ i o, ops[i]? = some o → readyB ops lst o i = false) → K ρ I S) ∧
    ∀ j o, ops[j]? = some o → readyB ops lst o j = true → stepQ P ops o ρ I S fun v J S' => pres bef pr j S S' ∧ anyQ P ops bef K f (put1 lst j) pr (ρ.put o.dst v) J S'

theorem anyQ.less {P : Program} {ops : List Oper} {bef : Nat → Nat → Bool} {K : Env → Imm → St → Prop} {p1 p2 : Prot} (hs : ∀ p ∈ p2, p ∈ p1) : ∀ (f : Nat) (lst : Nat → Bool) (ρ : Env) (I : Imm) (S : St),
    anyQ P ops bef K f lst p1 ρ I S → anyQ P ops bef K f lst p2 ρ I S
  | 0, _, _, _, _, h => h
  | f + 1, _, _, _, _, h => ⟨h.1, fun j o ho hr => (h.2 j o ho hr).mono fun _ _ _ _ ⟨h1, h2⟩ => ⟨fun p hp => h1 p (hs p hp), anyQ.less hs f _ _ _ _ h2⟩⟩

/-- what comes before what, as told by lists, is right -/
def okAnc (ops : List Oper) (anc : List (List Nat)) : Bool :=
  (List.range ops.length).all fun j => match ops[j]? with
    | some o => (anc.getD j []).all fun i => dpred o i || o.after.toList.any fun e => Region.binds .any e && Nat.blt e.on j && (anc.getD e.on []).contains i
    | none => true
def befOf (anc : List (List Nat)) (j i : Nat) : Bool := (anc.getD j []).contains i
def DC (ops : List Oper) (lst : Nat → Bool) : Prop := ∀ j o, ops[j]? = some o → lst j = true → ∀ e ∈ o.after.toList, Region.binds .any e = true → lst e.on = true ∧ e.on < ops.length
theorem anc_listed {ops : List Oper} {anc : List (List Nat)} (hk : okAnc ops anc = true) {lst : Nat → Bool} (hd : DC ops lst) : ∀ (j : Nat) (o : Oper), ops[j]? = some o →
    (∀ e ∈ o.after.toList, Region.binds .any e = true → lst e.on = true ∧ e.on < ops.length) → ∀ i, befOf anc j i = true → lst i = true := by
  intro j
  induction j using Nat.strongRecOn with
  | _ j ih =>
    intro o ho hp i hi
    have hlt : j < ops.length := by
      rcases Nat.lt_or_ge j ops.length with g | g
      · exact g
      · rw [List.getElem?_eq_none g] at ho; cases ho
    have := List.all_eq_true.1 hk j (List.mem_range.2 hlt)
    rw [ho] at this
    simp only [] at this
    have hm : i ∈ anc.getD j [] := by simpa [befOf] using hi
    have := List.all_eq_true.1 this i hm
    simp only [Bool.or_eq_true, dpred, List.any_eq_true, Bool.and_eq_true] at this
    rcases this with ⟨e, he, hb, hon⟩ | ⟨e, he, ⟨hb, hlt2⟩, hc⟩
    · have := Nat.eq_of_beq_eq_true hon
      rw [← this]; exact (hp e he hb).1
    · obtain ⟨hl, hln⟩ := hp e he hb
      have hj2 : e.on < j := by simpa [Nat.blt_eq] using hlt2
      obtain ⟨o2, ho2⟩ : ∃ o2, ops[e.on]? = some o2 := ⟨_, List.getElem?_eq_getElem hln⟩
      exact ih e.on hj2 o2 ho2 (fun e' he' hb' => hd e.on o2 ho2 hl e' he' hb') i hc
theorem ready_preds {ops : List Oper} {lst : Nat → Bool} {o : Oper} {j : Nat} (h : readyB ops lst o j = true) : lst j = false ∧ ∀ e ∈ o.after.toList, Region.binds .any e = true → lst e.on = true ∧ e.on < ops.length := by
  unfold readyB at h
  simp only [Bool.and_eq_true, Bool.not_eq_true', List.all_eq_true, Bool.or_eq_true] at h
  refine ⟨h.1, fun e he hb => ?_⟩
  rcases h.2 e he with g | g
  · rw [hb] at g; cases g
  · exact ⟨g.1, by simpa [Nat.blt_eq] using g.2⟩
theorem DC.put {ops : List Oper} {lst : Nat → Bool} (hd : DC ops lst) {j : Nat} {o : Oper} (ho : ops[j]? = some o) (hr : readyB ops lst o j = true) : DC ops (put1 lst j) := by
  intro k ok hok hk e he hb
  have up : ∀ i, lst i = true → put1 lst j i = true := fun i h => by simp [put1, h]
  by_cases hkj : k = j
  · subst hkj
    rw [ho] at hok; cases hok
    have := (ready_preds hr).2 e he hb
    exact ⟨up _ this.1, this.2⟩
  · rw [put1_ne _ hkj] at hk
    have := hd k ok hok hk e he hb
    exact ⟨up _ this.1, this.2⟩
/-- being ready lasts -/
theorem ready_put {ops : List Oper} {lst : Nat → Bool} {o : Oper} {i j : Nat} (h : readyB ops lst o i = true) (hij : i ≠ j) : readyB ops (put1 lst j) o i = true := by
  unfold readyB at h ⊢
  simp only [Bool.and_eq_true, Bool.not_eq_true', List.all_eq_true, Bool.or_eq_true] at h ⊢
  refine ⟨by rw [put1_ne _ hij]; exact h.1, fun e he => (h.2 e he).imp id fun g => ⟨by simp [put1, g.1], g.2⟩⟩

/-- an operation's operands and guard read the same -/
def Agree (ops : List Oper) (o : Oper) (ρ ρ' : Env) : Prop := execOp ρ'.ev o = execOp ρ.ev o ∧ wantE ops ρ' o = wantE ops ρ o
theorem stepQ.congr {P : Program} {ops : List Oper} {o : Oper} {ρ ρ' : Env} {I : Imm} {S : St} {K : Value → Imm → St → Prop} (ha : Agree ops o ρ ρ') (h : stepQ P ops o ρ I S K) : stepQ P ops o ρ' I S K := by
  unfold stepQ at *
  rw [ha.2]
  split at h
  · rename_i hw; exact ⟨fun w F hw => by rw [ha.1]; exact OpS.run h w F hw⟩
  · exact h
theorem upd_ne (ρ : Env) {d t : Nat} (v : Value) (h : t ≠ d) : ρ.upd d v t = ρ t := by
  have : Nat.beq t d = false := by
    cases hb : Nat.beq t d with
    | false => rfl
    | true => exact absurd (Nat.eq_of_beq_eq_true hb) h
  simp [Env.upd, this]
theorem agree_put {ops : List Oper} {o : Oper} {ρ : Env} {d : Option Nat} {v : Value} (hs : ∀ cs b, o.op ≠ .select cs b) (h : ∀ k, d = some k → k ∉ o.looksAt ops.toArray) : Agree ops o ρ (ρ.put d v) := by
  cases d with
  | none => exact ⟨rfl, rfl⟩
  | some k =>
    have hk := h k rfl
    refine ⟨execOp_congr o hs fun x hx => ?_, ?_⟩
    · cases x with
      | tmp t =>
        refine upd_ne ρ v fun e => hk ?_
        subst e
        exact List.mem_append_left _ (List.mem_filterMap.2 ⟨.tmp t, by simpa using hx, rfl⟩)
      | const c => rfl
      | global g => rfl
      | func f => rfl
    · unfold wantE
      cases hg : o.guard with
      | none => rfl
      | some jw =>
        obtain ⟨j, want⟩ := jw
        simp only []
        unfold dstAt
        cases hj : ops[j]? with
        | none => rfl
        | some oj =>
          simp only []
          cases hd : oj.dst with
          | none => rfl
          | some t =>
            have hne : t ≠ k := fun e => hk (by
              subst e
              exact List.mem_append_right _ (by simp [hg, hj, hd]))
            show (match ρ.upd k v t with | .bool b => b == want | _ => false) = _
            rw [upd_ne ρ v hne]
theorem put_comm' (ρ : Env) {x y : Option Nat} (u v : Value) (h : ∀ d, x = some d → y ≠ some d) : (ρ.put x u).put y v = (ρ.put y v).put x u := by
  cases x with
  | none => rfl
  | some a => cases y with
    | none => rfl
    | some b =>
      have hab : a ≠ b := fun e => h a rfl (by rw [e])
      funext t
      show (match Nat.beq t b with | true => v | false => (match Nat.beq t a with | true => u | false => ρ t)) = (match Nat.beq t a with | true => u | false => (match Nat.beq t b with | true => v | false => ρ t))
      cases h1 : Nat.beq t b <;> cases h2 : Nat.beq t a <;> simp only []
      exact absurd ((Nat.eq_of_beq_eq_true h2).symm.trans (Nat.eq_of_beq_eq_true h1)) hab

def noSelect : Op → Bool
  | .select .. => false
  | _ => true
theorem noSelect_ne {o : Oper} (h : noSelect o.op = true) : ∀ cs b, o.op ≠ .select cs b := fun cs b e => by rw [e] at h; cases h
/-- what an operation yields in whatever world fits -/
def Yld (P : Program) (ops : List Oper) (o : Oper) (ρ : Env) (J : Imm) (S : St) (v : Value) : Prop := match wantE ops ρ o with
  | true => ∀ w F, Has w J (S.flatten ++ F) → (execOp ρ.ev o).run P w = .ok (.value v) w
  | false => v = undef
theorem Yld.congr {P : Program} {ops : List Oper} {o : Oper} {ρ ρ' : Env} {J : Imm} {S : St} {v : Value} (ha : Agree ops o ρ ρ') (h : Yld P ops o ρ J S v) : Yld P ops o ρ' J S v := by
  unfold Yld at *
  rw [ha.2, ha.1]; exact h
theorem Yld.step {P : Program} {ops : List Oper} {o : Oper} {ρ : Env} {I : Imm} {S : St} {v : Value} {K : Value → Imm → St → Prop} (h : Yld P ops o ρ I S v) (k : K v I S) : stepQ P ops o ρ I S K := by
  unfold Yld at h; unfold stepQ
  split at h
  · exact .value v h k
  · rw [h] at k; exact k

/-- how many are still to be done -/
def cnt (ops : List Oper) (lst : Nat → Bool) : Nat := ((List.range ops.length).filter fun k => !lst k).length
theorem filter_put_le (lst : Nat → Bool) (j : Nat) : ∀ l : List Nat, (l.filter fun k => !put1 lst j k).length ≤ (l.filter fun k => !lst k).length
  | [] => Nat.le_refl _
  | a :: l => by
    have ih := filter_put_le lst j l
    rw [List.filter_cons, List.filter_cons]
    by_cases ha : lst a = true
    · have : put1 lst j a = true := by simp [put1, ha]
      simp [ha, this, ih]
    · have ha : lst a = false := by simpa using ha
      cases hp : put1 lst j a
      · simp [ha, ih]
      · simp [ha]; omega
theorem filter_put_lt (lst : Nat → Bool) (j : Nat) (hu : lst j = false) : ∀ l : List Nat, j ∈ l → (l.filter fun k => !put1 lst j k).length + 1 ≤ (l.filter fun k => !lst k).length
  | a :: l, h => by
    rw [List.filter_cons, List.filter_cons]
    by_cases ha : a = j
    · subst ha
      have := filter_put_le lst a l
      simp [put1_self, hu, this]
    · have hl : j ∈ l := by
        rcases List.mem_cons.1 h with h | h
        · exact absurd h.symm ha
        · exact h
      have ih := filter_put_lt lst j hu l hl
      rw [put1_ne _ ha]
      cases lst a <;> simp <;> omega
theorem cnt_put (ops : List Oper) (lst : Nat → Bool) {j : Nat} {o : Oper} (ho : ops[j]? = some o) (hu : lst j = false) : cnt ops (put1 lst j) + 1 ≤ cnt ops lst := by
  refine filter_put_lt lst j hu _ (List.mem_range.2 ?_)
  rcases Nat.lt_or_ge j ops.length with g | g
  · exact g
  · rw [List.getElem?_eq_none g] at ho; cases ho
/-- AHEAD: an operation that is ready and only reads may be done now -/
theorem anyQ.ahead {P : Program} {ops : List Oper} {anc : List (List Nat)} (hk : okAnc ops anc = true) {K : Env → Imm → St → Prop} {i : Nat} {o : Oper} (ho : ops[i]? = some o) (hs : ∀ (j : Nat) (oj : Oper), ops[j]? = some oj → noSelect oj.op = true) {v : Value} {ks : List Nat} {pr : Prot} :
    ∀ (f : Nat) (lst : Nat → Bool) (ρ : Env) (I : Imm) (S : St), DC ops lst → readyB ops lst o i = true →
    (∀ (j : Nat) (oj : Oper), ops[j]? = some oj → j ≠ i → lst j = false → befOf anc j i = false → o.apart ops.toArray oj = true) → cnt ops lst ≤ f + 1 →
    (∀ J S', I.le J → (∀ k ∈ ks, S'[k]? = S[k]?) → Yld P ops o ρ J S' v) →
    anyQ P ops (befOf anc) K f (put1 lst i) (ks.map (fun k => (i, k)) ++ pr) (ρ.put o.dst v) I S → anyQ P ops (befOf anc) K (f + 1) lst pr ρ I S
  | f, lst, ρ, I, S, hd, hr, hap, hcnt, hy, h => by
    refine ⟨fun hno => absurd (hno i o ho) (by simp [hr]), ?_⟩
    intro j oj hoj hrj
    by_cases hij : j = i
    · subst hij
      rw [ho] at hoj; cases hoj
      refine (hy I S I.le_refl (fun _ _ => rfl)).step ⟨fun _ _ _ => rfl, ?_⟩
      exact anyQ.less (fun p hp => List.mem_append_right _ hp) f _ _ _ _ h
    · have hpj := ready_preds hrj
      have hbef : befOf anc j i = false := by
        cases hb : befOf anc j i with
        | false => rfl
        | true => have := anc_listed hk hd j oj hoj hpj.2 i hb; rw [(ready_preds hr).1] at this; cases this
      have hapj := hap j oj hoj hij hpj.1 hbef
      obtain ⟨ap1, ap2, ap3⟩ := Oper.apart_spec hapj
      have hrj' : readyB ops (put1 lst i) oj j = true := ready_put hrj hij
      cases f with
      | zero =>
        exfalso
        have h1 := cnt_put ops lst hoj hpj.1
        have h2 := cnt_put ops (put1 lst j) ho (by rw [put1_ne _ (Ne.symm hij)]; exact (ready_preds hr).1)
        omega
      | succ f =>
        have hst := h.2 j oj hoj hrj'
        have ag : Agree ops oj (ρ.put o.dst v) ρ := by
          have := agree_put (ops := ops) (o := oj) (ρ := ρ) (d := o.dst) (v := v) (noSelect_ne (hs j oj hoj)) (fun k hk => ap1 k hk)
          exact ⟨this.1.symm, this.2.symm⟩
        refine (hst.congr ag).mono ?_
        rintro u J S' hle ⟨hp, hn⟩
        refine ⟨fun p hpp => hp p (List.mem_append_right _ hpp), ?_⟩
        have keep : ∀ k ∈ ks, S'[k]? = S[k]? := fun k hkk => hp (i, k) (List.mem_append_left _ (List.mem_map.2 ⟨k, hkk, rfl⟩)) hbef
        have agi : Agree ops o ρ (ρ.put oj.dst u) := agree_put (noSelect_ne (hs i o ho)) (fun k hk => ap3 k hk)
        refine anyQ.ahead (v := v) (ks := ks) hk ho hs f (put1 lst j) (ρ.put oj.dst u) J S' (hd.put hoj hrj) (ready_put hr (Ne.symm hij)) ?_ (by have := cnt_put ops lst hoj hpj.1; omega) ?_ ?_
        · intro m om hom hmi hml hmb
          refine hap m om hom hmi ?_ hmb
          by_cases hmj : m = j
          · subst hmj; rw [put1_self] at hml; cases hml
          · rwa [put1_ne _ hmj] at hml
        · intro J' S'' hle' hk'
          exact (hy J' S'' (Imm.le_trans hle hle') (fun k hkk => (hk' k hkk).trans (keep k hkk))).congr agi
        · rw [put1_comm, put_comm' ρ (x := oj.dst) (y := o.dst) u v (fun d hd e => ap2 d e hd)]
          exact hn

/-! ### from every order to the kit's -/
theorem ready_arr {ops : List Oper} {lst : Nat → Bool} {arr : Array Bool} (hsz : arr.size = ops.length) (ha : ∀ i, i < ops.length → arr.getD i true = lst i) (j : Nat) (o : Oper) (ho : ops[j]? = some o) :
    j ∈ Region.ready .any ops.toArray arr → readyB ops lst o j = true := by
  intro h
  have hlt : j < ops.length := by
    rcases Nat.lt_or_ge j ops.length with g | g
    · exact g
    · rw [List.getElem?_eq_none g] at ho; cases ho
  unfold Region.ready at h
  rw [List.mem_filter] at h
  obtain ⟨_, h⟩ := h
  simp only [List.getElem?_toArray, ho, Option.map_some, Option.getD_some, Bool.and_eq_true, Bool.not_eq_true'] at h
  obtain ⟨h1, h2⟩ := h
  unfold readyB
  rw [ha j hlt] at h1
  simp only [h1, Bool.not_false, Bool.true_and, List.all_eq_true]
  rw [← Array.all_toList, List.all_eq_true] at h2
  intro e he
  have := h2 e he
  simp only [Bool.or_eq_true, Bool.and_eq_true] at this ⊢
  refine this.imp id fun g => ?_
  have hlt2 : e.on < ops.length := by
    rcases Nat.lt_or_ge e.on ops.length with g' | g'
    · exact g'
    · rw [Array.getD_eq_getD_getElem?, Array.getElem?_eq_none (by omega)] at g; cases g
  refine ⟨?_, by simpa [Nat.blt_eq] using hlt2⟩
  rw [← ha _ hlt2, Array.getD_eq_getD_getElem?, Array.getElem?_eq_getElem (by omega)]
  rw [Array.getD_eq_getD_getElem?, Array.getElem?_eq_getElem (by omega)] at g
  exact g
theorem anyQ_ok {P : Program} {ops : List Oper} {bef : Nat → Nat → Bool} {K : Env → Imm → St → Prop} {n : Nat} (hf : ∀ o ∈ ops, fitsO n o = true) {Q : Exit → Act → World → Prop} {F : List Blk} {D : List Deferred} (rd : Option Nat) :
    ∀ (f : Nat) (lst : Nat → Bool) (pr : Prot) (ρ : Env) (I : Imm) (S : St) (a : Act) (w : World) (arr : Array Bool), anyQ P ops bef K f lst pr ρ I S → cnt ops lst ≤ f → Rel n D a ρ → Has w I (S.flatten ++ F) →
    arr.size = ops.length → (∀ i, i < ops.length → arr.getD i true = lst i) →
    (∀ a' w' ρ' J S', Rel n D a' ρ' → I.le J → K ρ' J S' → Has w' J (S'.flatten ++ F) → Ext w w' → Q .normal a' w') → wpAnyIn (wR rd) 0 P .any ops.toArray Q f arr a w := by
  have none_ready : ∀ (lst : Nat → Bool) (arr : Array Bool), arr.size = ops.length → (∀ i, i < ops.length → arr.getD i true = lst i) → Region.ready .any ops.toArray arr = [] → ∀ i o, ops[i]? = some o → readyB ops lst o i = true → i ∉ Region.ready .any ops.toArray arr := by
    intro lst arr _ _ h i o _ _; rw [h]; simp
  have conv : ∀ (lst : Nat → Bool) (arr : Array Bool), arr.size = ops.length → (∀ i, i < ops.length → arr.getD i true = lst i) → Region.ready .any ops.toArray arr = [] → ∀ i o, ops[i]? = some o → readyB ops lst o i = false := by
    intro lst arr hsz ha hnil i o ho
    cases hr : readyB ops lst o i with
    | false => rfl
    | true =>
      exfalso
      have hlt : i < ops.length := by
        rcases Nat.lt_or_ge i ops.length with g | g
        · exact g
        · rw [List.getElem?_eq_none g] at ho; cases ho
      have hp := ready_preds hr
      have : i ∈ Region.ready .any ops.toArray arr := by
        unfold Region.ready
        rw [List.mem_filter]
        refine ⟨List.mem_range.2 (by simpa using hlt), ?_⟩
        simp only [List.getElem?_toArray, ho, Option.map_some, Option.getD_some, Bool.and_eq_true, Bool.not_eq_true']
        refine ⟨by rw [ha i hlt]; exact hp.1, ?_⟩
        rw [← Array.all_toList, List.all_eq_true]
        intro e he
        cases hb : Region.binds .any e with
        | false => rfl
        | true =>
          obtain ⟨h1, h2⟩ := hp.2 e he hb
          have := ha e.on h2
          rw [h1, Array.getD_eq_getD_getElem?, Array.getElem?_eq_getElem (by omega)] at this
          simp only [Bool.not_true, Bool.false_or]
          rw [Array.getD_eq_getD_getElem?, Array.getElem?_eq_getElem (by omega)]; exact this
      rw [hnil] at this; simp at this
  intro f
  induction f with
  | zero =>
    intro lst pr ρ I S a w arr h hc hr hw hsz ha hQ
    have hnil : Region.ready .any ops.toArray arr = [] := by
      cases hrd : Region.ready .any ops.toArray arr with
      | nil => rfl
      | cons j l =>
        exfalso
        have hm : j ∈ Region.ready .any ops.toArray arr := by rw [hrd]; simp
        have hj : j < ops.length := by
          unfold Region.ready at hm; rw [List.mem_filter] at hm; simpa using hm.1
        have hrj := ready_arr hsz ha j _ (List.getElem?_eq_getElem hj) hm
        have := cnt_put ops lst (List.getElem?_eq_getElem hj) (ready_preds hrj).1
        omega
    exact ⟨hnil, hQ a w ρ I S hr I.le_refl (h (conv lst arr hsz ha hnil)) hw (Ext.refl w)⟩
  | succ f ih =>
    intro lst pr ρ I S a w arr h hc hr hw hsz ha hQ
    refine ⟨fun hnil => hQ a w ρ I S hr I.le_refl (h.1 (conv lst arr hsz ha hnil)) hw (Ext.refl w), ?_⟩
    intro j hm
    have hj : j < ops.length := by
      unfold Region.ready at hm; rw [List.mem_filter] at hm; simpa using hm.1
    have ho : ops[j]? = some ops[j] := List.getElem?_eq_getElem hj
    generalize ops[j] = o at ho
    have hrj := ready_arr hsz ha j o ho hm
    have hst := h.2 j o ho hrj
    have hfo := hf o (List.mem_of_getElem? ho)
    have hcnt := cnt_put ops lst ho (ready_preds hrj).1
    have next : ∀ (v : Value) (J : Imm) (S' : St) (w' : World), I.le J → anyQ P ops bef K f (put1 lst j) pr (ρ.put o.dst v) J S' → Has w' J (S'.flatten ++ F) → Ext w w' →
        wpAnyIn (wR rd) 0 P .any ops.toArray Q f (arr.setIfInBounds j true) (a.put o.dst v) w' := by
      intro v J S' w' hle hn hh hx
      refine ih (put1 lst j) pr _ J S' _ w' _ hn (by omega) (hr.put o.dst (fitsO_lt hfo) v) hh (by simpa using hsz) ?_ ?_
      · intro i hi
        by_cases hij : i = j
        · subst hij
          rw [put1_self, Array.getD_eq_getD_getElem?]
          simp [hsz, hi]
        · rw [put1_ne _ hij, ← ha i hi, Array.getD_eq_getD_getElem?, Array.getD_eq_getD_getElem?, Array.getElem?_setIfInBounds_ne (Ne.symm hij)]
      · intro a' w'' ρ' J' S'' r1 r2 r3 r4 r5
        exact hQ a' w'' ρ' J' S'' r1 (Imm.le_trans hle r2) r3 r4 (hx.trans r5)
    unfold wpOpIn
    simp only [List.getElem?_toArray, ho]
    have hwant : Region.wanted o (yielded ops.toArray a.tmps) = wantE ops ρ o := by
      unfold Region.wanted wantE
      cases hg : o.guard with
      | none => rfl
      | some jw =>
        obtain ⟨k, want⟩ := jw
        simp only []
        rw [yielded_rel hr hf k]
        cases dstAt ops k with
        | none => rfl
        | some d =>
          simp only []
          cases ρ d <;> first | rfl | (rename_i b; cases b <;> cases want <;> rfl)
    rw [hwant]
    unfold stepQ at hst
    split at hst
    · rename_i hwt
      rw [hwt, if_pos rfl]
      refine Oper.wpIn_mono ?_ (OpS.wp hst hr hw rd Q)
      rintro a' w' ⟨v, rfl, J, S', hle, ⟨_, hn⟩, hh, hx⟩
      exact next v J S' w' hle hn hh hx
    · rename_i hwt
      rw [hwt, if_neg (by simp)]
      exact ⟨fun _ _ => trivial, next undef I S w I.le_refl hst.2 hw (Ext.refl w)⟩

/-! ### a schedule -/
/-- a load, at a place that is fixed or owned -/
inductive LoadP (I : Imm) (S : St) (b off n : Nat) (K : List Value → List Nat → Prop) : Prop
  | imm (vs : List Value) (h : Cells I [] b off n vs) (k : K vs [])
  | own (c : Nat) (vs : List Value) (h : Cells I [S.getD c []] b off n vs) (k : K vs [c])
def isLoad : Op → Bool
  | .load .. => true
  | _ => false
def loadP (_P : Program) (T : Tab) (o : Oper) (ρ : Env) (I : Imm) (S : St) (K : Value → List Nat → Prop) : Prop := match o.op with
  | .load t x => (match T.get t, ρ.ev x with
    | some r, .pointer (some ⟨b, off, none⟩) => (match r.agg with
      | true => LoadP I S b off r.size fun vs ks => K (.agg vs.toArray) ks
      | false => LoadP I S b off 1 fun vs ks => force (vs.headD undef) fun v => K v ks)
    | _, _ => False)
  | _ => False
def presL (ks : List Nat) (S S' : St) : Prop := match ks with
  | [] => True
  | k :: ks => S'[k]? = S[k]? ∧ presL ks S S'
def presK (ks : List Nat) (S S' : St) (K : Prop) : Prop := match ks with
  | [] => K
  | k :: ks => Chk (presL (k :: ks) S S') K
def schedS (P : Program) (T : Tab) (ops : List Oper) (anc : List (List Nat)) (i : Nat) (next : Prot → Env → Imm → St → Prop) (pr : Prot) (ρ : Env) (I : Imm) (S : St) : Prop :=
  match ops[i]? with
  | none => False
  | some o => match o with
    | ⟨dst, op, type, pos, after, guard⟩ =>
      let act : Prop := (match isLoad op with
        | true => loadP P T ⟨dst, op, type, pos, after, guard⟩ ρ I S fun v ks => putK ρ dst v fun ρ' => next (ks.map (fun k => (i, k)) ++ pr) ρ' I S
        | false => (match pureOp T op with
          | true => opD P T ⟨dst, op, type, pos, after, guard⟩ ρ I S fun v _ _ => putK ρ dst v fun ρ' => next pr ρ' I S
          | false => opD P T ⟨dst, op, type, pos, after, guard⟩ ρ I S fun v J S' => presK ((pr.filter fun p => !befOf anc i p.1).map Prod.snd) S S' (putK ρ dst v fun ρ' => next pr ρ' J S')))
      match guard with
      | none => act
      | some (j, want) => guardD (dstAt ops j) want ρ act (putK ρ dst undef fun ρ' => next pr ρ' I S)
noncomputable def denS (P : Program) (T : Tab) (ops : List Oper) (anc : List (List Nat)) (K : Env → Imm → St → Prop) (s : List Nat) : Prot → Env → Imm → St → Prop :=
  List.rec (motive := fun _ => Prot → Env → Imm → St → Prop) (fun _ ρ I S => K ρ I S) (fun i _ ih pr ρ I S => schedS P T ops anc i ih pr ρ I S) s
theorem denS_cons (P : Program) (T : Tab) (ops : List Oper) (anc : List (List Nat)) (K : Env → Imm → St → Prop) (i : Nat) (s : List Nat) (pr : Prot) (ρ : Env) (I : Imm) (S : St) :
    denS P T ops anc K (i :: s) pr ρ I S = schedS P T ops anc i (denS P T ops anc K s) pr ρ I S := rfl
def nowRead (T : Tab) (op : Op) : Bool := isLoad op || pureOp T op
/-- the schedule does at each point what may be done, and where it is no mere reading nothing else may be -/
def okS (T : Tab) (ops : List Oper) (anc : List (List Nat)) : List Nat → List Nat → Bool
  | done, [] => (List.range ops.length).all fun k => done.contains k
  | done, i :: s => (match ops[i]? with
    | none => false
    | some o => readyB ops (fun k => done.contains k) o i && (match nowRead T o.op with
      | true => (List.range ops.length).all fun j => Nat.beq j i || done.contains j || befOf anc j i || (match ops[j]? with | some oj => o.apart ops.toArray oj | none => true)
      | false => (List.range ops.length).all fun j => Nat.beq j i || (match ops[j]? with | some oj => !readyB ops (fun k => done.contains k) oj j | none => true))
      && okS T ops anc (i :: done) s)
end Go.Sl

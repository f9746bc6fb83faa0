/- The own logic, eleventh part: a schedule is enough. -/
import Derived.Test.YthlcdoabjgdpiaaSl10
namespace Go.Sl
open Go.RowKit

theorem guard_want {ops : List Oper} {o : Oper} {ρ : Env} {j : Nat} {want : Bool} (hg : o.guard = some (j, want)) {A B : Prop} (h : guardD (dstAt ops j) want ρ A B) :
    (wantE ops ρ o = true ∧ A) ∨ (wantE ops ρ o = false ∧ B) := by
  unfold wantE
  rw [hg]
  simp only []
  unfold guardD at h
  cases hd : dstAt ops j with
  | none => rw [hd] at h; right; exact ⟨rfl, h⟩
  | some d =>
    rw [hd] at h
    simp only [] at h ⊢
    cases hv : ρ d <;> rw [hv] at h <;> simp only [] at h ⊢
    case bool b =>
      cases want <;> cases b <;> simp only [ifD] at h
      · left; exact ⟨rfl, h⟩
      · right; exact ⟨rfl, h⟩
      · right; exact ⟨rfl, h⟩
      · left; exact ⟨rfl, h⟩
    all_goals (right; exact ⟨trivial, h⟩)
theorem contains_put (done : List Nat) (i : Nat) : (fun k => (i :: done).contains k) = put1 (fun k => done.contains k) i := by
  funext k
  unfold put1
  rw [List.contains_cons]
  have : (k == i) = Nat.beq k i := by
    rw [Bool.eq_iff_iff, Nat.beq_eq]; simp
  rw [this]
theorem Cells.imm_mono {I J : Imm} {S : St} {b off n : Nat} {vs : List Value} (h : Cells I [] b off n vs) (hJ : I.le J) : Cells J S b off n vs := by
  obtain ⟨c, T, fr, hin, h1, h2⟩ := h.ex
  cases hin with
  | imm h => exact ⟨c, T, fr, .imm (hJ _ _ h), h1, h2⟩
  | own k h => simp at h
theorem Cells.own_mono {I J : Imm} {S S' : St} {k : Nat} {b off n : Nat} {vs : List Value} (h : Cells I [S.getD k []] b off n vs) (hJ : I.le J) (hk : S'[k]? = S[k]?) : Cells J S' b off n vs := by
  obtain ⟨c, T, fr, hin, h1, h2⟩ := h.ex
  cases hin with
  | imm h => exact ⟨c, T, fr, .imm (hJ _ _ h), h1, h2⟩
  | own k' h =>
    refine ⟨c, T, fr, .own k ?_, h1, h2⟩
    have : k' = 0 := by
      cases k' with
      | zero => rfl
      | succ m => simp at h
    subst this
    rw [List.getD_eq_getElem?_getD, hk, ← List.getD_eq_getElem?_getD]
    simpa using h
theorem run_load {P : Program} {T : Tab} (hT : TabOk P T) {o : Oper} {ρ : Env} {J : Imm} {S : St} {F : List Blk} {w : World} {t : TypeId} {x : Operand} {r : TyRow} {b off : Nat} (ho : o.op = .load t x) (hr : T.get t = some r) (hx : ρ.ev x = .pointer (some ⟨b, off, none⟩)) (hw : Has w J (S.flatten ++ F))
    {vs : List Value} (hc : Cells J S b off (if r.agg then r.size else 1) vs) : (execOp ρ.ev o).run P w = .ok (.value (if r.agg then .agg vs.toArray else vs.headD undef)) w := by
  cases hag : r.agg with
  | true =>
    rw [hag] at hc
    simp only [if_true] at hc ⊢
    simp [execOp, ho, Instr.loadAt, hx, Instr.sureAddr, loadVar, run_isAgg_row w (hT _ _ hr), hag, run_sizeOf_row w (hT _ _ hr), hc.run hw]
  | false =>
    rw [hag] at hc
    simp only [Bool.false_eq_true, if_false] at hc ⊢
    obtain ⟨c, Ty, fr, hin, he, hl⟩ := hc.ex
    match vs, hl with
    | [v], _ =>
      have := hc.cell hw 0 v rfl
      simp at this
      simp [execOp, ho, Instr.loadAt, hx, Instr.sureAddr, loadVar, run_isAgg_row w (hT _ _ hr), hag, this]
theorem loadP_ok {P : Program} {T : Tab} (hT : TabOk P T) {o : Oper} {ρ : Env} {I : Imm} {S : St} {K : Value → List Nat → Prop} (h : loadP P T o ρ I S K) :
    ∃ v ks, K v ks ∧ ∀ (J : Imm) (S' : St), I.le J → (∀ k ∈ ks, S'[k]? = S[k]?) → ∀ w F, Has w J (S'.flatten ++ F) → (execOp ρ.ev o).run P w = .ok (.value v) w := by
  unfold loadP at h
  split at h
  · rename_i t x ho
    split at h
    · rename_i r b off hr hx
      have go : ∀ n (G : List Value → List Nat → Prop), LoadP I S b off n G → ∃ vs ks, G vs ks ∧ ∀ (J : Imm) (S' : St), I.le J → (∀ k ∈ ks, S'[k]? = S[k]?) → Cells J S' b off n vs := by
        intro n G hg
        cases hg with
        | imm vs hc k => exact ⟨vs, [], k, fun J S' hJ _ => hc.imm_mono hJ⟩
        | own c vs hc k => exact ⟨vs, [c], k, fun J S' hJ hk => hc.own_mono hJ (hk c (by simp))⟩
      split at h
      · rename_i hag
        obtain ⟨vs, ks, hg, hc⟩ := go _ _ h
        refine ⟨_, ks, hg, fun J S' hJ hk w F hw => ?_⟩
        have := run_load hT ho hr hx hw (by rw [hag]; exact hc J S' hJ hk)
        rw [hag] at this; exact this
      · rename_i hag
        obtain ⟨vs, ks, hg, hc⟩ := go _ _ h
        rw [force_eq] at hg
        refine ⟨_, ks, hg, fun J S' hJ hk w F hw => ?_⟩
        have := run_load hT ho hr hx hw (by rw [hag]; exact hc J S' hJ hk)
        rw [hag] at this; exact this
    · exact h.elim
  · exact h.elim
theorem presL_ok {S S' : St} : ∀ (ks : List Nat), presL ks S S' → ∀ k ∈ ks, S'[k]? = S[k]?
  | [], _, k, hk => by simp at hk
  | a :: ks, h, k, hk => by
    rcases List.mem_cons.1 hk with rfl | hk
    · exact h.1
    · exact presL_ok ks h.2 k hk
theorem presK_ok {ks : List Nat} {S S' : St} {K : Prop} (h : presK ks S S' K) : (∀ k ∈ ks, S'[k]? = S[k]?) ∧ K := by
  cases ks with
  | nil => exact ⟨by simp, h⟩
  | cons k ks => obtain ⟨h1, h2⟩ := h; exact ⟨presL_ok _ h1, h2⟩

theorem denS_ok {P : Program} {T : Tab} (hT : TabOk P T) {ops : List Oper} {anc : List (List Nat)} (hk : okAnc ops anc = true) (hs : ∀ (j : Nat) (oj : Oper), ops[j]? = some oj → noSelect oj.op = true) {K : Env → Imm → St → Prop} :
    ∀ (s done : List Nat) (pr : Prot) (ρ : Env) (I : Imm) (S : St) (f : Nat), okS T ops anc done s = true → denS P T ops anc K s pr ρ I S → DC ops (fun k => done.contains k) → cnt ops (fun k => done.contains k) ≤ f →
    anyQ P ops (befOf anc) K f (fun k => done.contains k) pr ρ I S
  | [], done, pr, ρ, I, S, f, ho, h, hd, hc => by
    have hall : ∀ i o, ops[i]? = some o → readyB ops (fun k => done.contains k) o i = false := by
      intro i o hio
      have hlt : i < ops.length := by
        rcases Nat.lt_or_ge i ops.length with g | g
        · exact g
        · rw [List.getElem?_eq_none g] at hio; cases hio
      have := List.all_eq_true.1 ho i (List.mem_range.2 hlt)
      unfold readyB
      show (!(done.contains i) && _) = false
      rw [this]; rfl
    cases f with
    | zero => exact fun _ => h
    | succ f => exact ⟨fun _ => h, fun j o hj hr => by rw [hall j o hj] at hr; cases hr⟩
  | i :: s, done, pr, ρ, I, S, f, ho, h, hd, hc => by
    rw [okS] at ho
    split at ho
    · cases ho
    · rename_i o hi
      simp only [Bool.and_eq_true] at ho
      obtain ⟨⟨hr, hmode⟩, hnext⟩ := ho
      have hcnt := cnt_put ops (fun k => done.contains k) hi (ready_preds hr).1
      obtain ⟨f, rfl⟩ : ∃ m, f = m + 1 := ⟨f - 1, by omega⟩
      have hd' := hd.put hi hr
      rw [← contains_put] at hd' hcnt
      rw [denS_cons] at h
      unfold schedS at h
      rw [hi] at h
      obtain ⟨dst, op, type, pos, after, guard⟩ := o
      simp only [] at h
      generalize hoe : (⟨dst, op, type, pos, after, guard⟩ : Oper) = o at *
      have hod : o.dst = dst := by rw [← hoe]
      have hop : o.op = op := by rw [← hoe]
      have hog : o.guard = guard := by rw [← hoe]
      -- the guard
      have hsplit : (wantE ops ρ o = true ∧ (match isLoad op with
          | true => loadP P T o ρ I S fun v ks => putK ρ dst v fun ρ' => denS P T ops anc K s (ks.map (fun k => (i, k)) ++ pr) ρ' I S
          | false => (match pureOp T op with
            | true => opD P T o ρ I S fun v _ _ => putK ρ dst v fun ρ' => denS P T ops anc K s pr ρ' I S
            | false => opD P T o ρ I S fun v J S' => presK ((pr.filter fun p => !befOf anc i p.1).map Prod.snd) S S' (putK ρ dst v fun ρ' => denS P T ops anc K s pr ρ' J S')))) ∨
          (wantE ops ρ o = false ∧ denS P T ops anc K s pr (ρ.put dst undef) I S) := by
        cases hgd : guard with
        | none =>
          left
          subst hgd
          refine ⟨by unfold wantE; rw [hog], h⟩
        | some jw =>
          obtain ⟨j, want⟩ := jw
          subst hgd
          simp only [putK_eq ρ dst undef] at h
          exact guard_want hog h
      -- ahead, or in turn
      have fwd : ∀ (v : Value) (ks : List Nat), nowRead T o.op = true → (∀ (J : Imm) (S' : St), I.le J → (∀ k ∈ ks, S'[k]? = S[k]?) → Yld P ops o ρ J S' v) → denS P T ops anc K s (ks.map (fun k => (i, k)) ++ pr) (ρ.put dst v) I S →
          anyQ P ops (befOf anc) K (f + 1) (fun k => done.contains k) pr ρ I S := by
        intro v ks hnow hy hn
        rw [hnow] at hmode
        have hmode := List.all_eq_true.1 hmode
        refine anyQ.ahead (v := v) (ks := ks) hk hi hs f _ ρ I S hd hr ?_ hc hy ?_
        · intro j oj hoj hji hjl hjb
          have hlt : j < ops.length := by
            rcases Nat.lt_or_ge j ops.length with g | g
            · exact g
            · rw [List.getElem?_eq_none g] at hoj; cases hoj
          have := hmode j (List.mem_range.2 hlt)
          rw [hoj] at this
          have hne : Nat.beq j i = false := by
            cases hb : Nat.beq j i with
            | false => rfl
            | true => exact absurd (Nat.eq_of_beq_eq_true hb) hji
          have hjl' : done.contains j = false := hjl
          simp only [hne, hjl', hjb, Bool.false_or] at this
          exact this
        · rw [← contains_put, hod]
          exact denS_ok hT hk hs s (i :: done) _ _ I S f hnext hn hd' (by omega)
      cases hnow : nowRead T o.op with
      | true =>
        rcases hsplit with ⟨hw, h⟩ | ⟨hw, h⟩
        · rw [hop] at hnow
          split at h
          · obtain ⟨v, ks, hg, hrun⟩ := loadP_ok hT h
            rw [putK_eq] at hg
            refine fwd v ks (by rw [hop]; exact hnow) ?_ hg
            intro J S' hJ hkk
            unfold Yld; rw [hw]
            exact fun w F hww => hrun J S' hJ hkk w F hww
          · rename_i hl
            have hp : pureOp T op = true := by simpa [nowRead, hl] using hnow
            rw [hp] at h
            obtain ⟨v, hrun, hg⟩ := opD_pure hT (by rw [hop]; exact hp) h
            rw [putK_eq] at hg
            refine fwd v [] (by rw [hop]; exact hnow) ?_ (by simpa using hg)
            intro J S' hJ _
            unfold Yld; rw [hw]
            exact fun w F _ => hrun w
        · refine fwd undef [] hnow ?_ (by simpa using h)
          intro J S' hJ _
          unfold Yld; rw [hw]
      | false =>
        rw [hnow] at hmode
        have hmode := List.all_eq_true.1 hmode
        refine ⟨fun hno => absurd (hno i o hi) (by rw [hr]; simp), ?_⟩
        intro j oj hoj hrj
        have hlt : j < ops.length := by
          rcases Nat.lt_or_ge j ops.length with g | g
          · exact g
          · rw [List.getElem?_eq_none g] at hoj; cases hoj
        have := hmode j (List.mem_range.2 hlt)
        rw [hoj] at this
        simp only [] at this
        rw [hrj] at this
        simp only [Bool.not_true, Bool.or_false] at this
        have := Nat.eq_of_beq_eq_true this
        subst this
        rw [hi] at hoj; cases hoj
        rw [← contains_put, hod]
        rcases hsplit with ⟨hw, h⟩ | ⟨hw, h⟩
        · rw [hop] at hnow
          have hl : isLoad op = false := by
            cases hl : isLoad op with
            | false => rfl
            | true => simp [nowRead, hl] at hnow
          have hp : pureOp T op = false := by
            cases hp : pureOp T op with
            | false => rfl
            | true => simp [nowRead, hp] at hnow
          rw [hl, hp] at h
          unfold stepQ; rw [hw]
          refine OpS.mono (opD_ok hT h) ?_
          intro v J S' hle hv
          obtain ⟨hpres, hn⟩ := presK_ok hv
          rw [putK_eq] at hn
          refine ⟨?_, denS_ok hT hk hs s _ pr _ J S' f hnext hn hd' (by omega)⟩
          intro p hp2 hb
          refine hpres p.2 (List.mem_map.2 ⟨p, List.mem_filter.2 ⟨hp2, by rw [hb]; rfl⟩, rfl⟩)
        · unfold stepQ; rw [hw]
          exact ⟨fun _ _ _ => rfl, denS_ok hT hk hs s _ pr _ I S f hnext h hd' (by omega)⟩

/-- all that is asked of a schedule, by computing -/
def okAll (P : Program) (T : Tab) (ops : List Oper) (anc : List (List Nat)) (s : List Nat) : Bool :=
  P.follows .mixedOrders && okAnc ops anc && ops.all (fun o => noSelect o.op) && okS T ops anc [] s
/-- A REGION THAT DRAWS ITS ORDER, by a schedule -/
theorem CodeF.sched {P : Program} {T : Tab} {n id : Nat} {ops : Array Oper} {ρ : Env} {I : Imm} {S : St} {Q : Exit → Env → Imm → St → Prop} (anc : List (List Nat)) (s : List Nat) (hok : okAll P T ops.toList anc s = true)
    (h : denS P T ops.toList anc (fun ρ I S => Q .normal ρ I S) s [] ρ I S) : CodeF P T n (.region id ops true) ρ I S Q := by
  simp only [okAll, Bool.and_eq_true] at hok
  obtain ⟨⟨⟨hm, hk⟩, hsel⟩, hs⟩ := hok
  refine ⟨fun hT hf => ⟨fun rd ds a w F R hr hw _ hR => ?_⟩⟩
  have hf' : ∀ o ∈ ops.toList, fitsO n o = true := List.all_eq_true.1 hf
  have hsel' : ∀ (j : Nat) (oj : Oper), ops.toList[j]? = some oj → noSelect oj.op = true := fun j oj h => List.all_eq_true.1 hsel oj (List.mem_of_getElem? h)
  have hcnt : cnt ops.toList (fun k => ([] : List Nat).contains k) ≤ ops.size := by
    unfold cnt
    refine Nat.le_trans (List.length_filter_le _ _) ?_
    simp
  have hany := denS_ok hT hk hsel' s [] [] ρ I S ops.size hs h (fun j o _ hl => by simp at hl) hcnt
  refine wpIn_region_any hm ?_
  have e : ops = ops.toList.toArray := by simp
  have := anyQ_ok hf' (Q := R) (F := markB ds ++ F) rd ops.size _ [] ρ I S a w.drew (Array.replicate ops.size false) hany hcnt hr hw.drew (by simp) (by
    intro i hi
    rw [Array.getD_eq_getD_getElem?]
    simp at hi
    simp [hi]) (by
    intro a' w' ρ' J S' r1 r2 r3 r4 r5
    exact hR _ _ _ _ _ _ ds (fun _ => rfl) r1 r2 r3 r4 ((Ext.drew w).trans r5))
  rw [← e] at this
  exact this
theorem LoadP.at {I : Imm} {S : St} {b off n : Nat} {K : List Value → List Nat → Prop} (k : Nat) {c : List Value} {T : TypeId} {fr : Nat × Nat} (hk : S[k]? = some [(b, row c T fr)]) (vs : List Value) (h : (c.drop off).take n = vs) (hl : vs.length = n) (g : K vs [k]) : LoadP I S b off n K := by
  refine .own k vs ⟨c, T, fr, .own 0 ?_, h, hl⟩ g
  show (b, row c T fr) ∈ S.getD k []
  exact mem_getD hk (by simp)
end Go.Sl

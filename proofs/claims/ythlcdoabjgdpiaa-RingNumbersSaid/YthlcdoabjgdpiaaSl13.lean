/- The own logic, thirteenth part: ranging over a function: what a yield promises, what an iterator promises, and the statement. -/
import Derived.Test.YthlcdoabjgdpiaaSl12
namespace Go.Sl
open Go.RowKit

/-- A CALL OF YIELD: over the caller's one chunk -/
structure YieldT (P : Program) (l : Nat) (args : Array Value) (I : Imm) (ch : List Blk) (Q : Bool → Imm → List Blk → Prop) : Prop where
  run : ∀ w F, Has w I (ch ++ F) → UponS P ((Instr.yield l args).run P w) fun v w' => ∃ b J c', v = .bool b ∧ I.le J ∧ Q b J c' ∧ Has w' J (c' ++ F) ∧ Ext w w'
theorem Has.to_chunk {w : World} {I : Imm} {S : St} {F : List Blk} {k : Nat} {ch : List Blk} (hk : S[k]? = some ch) (h : Has w I (S.flatten ++ F)) : Has w I (ch ++ ((S.set k []).flatten ++ F)) := by
  have hlt : k < S.length := by
    rcases Nat.lt_or_ge k S.length with g | g
    · exact g
    · rw [List.getElem?_eq_none g] at hk; cases hk
  have hp := set_flatten_perm S k hlt
  rw [List.getD_eq_getElem?_getD, hk] at hp
  refine h.perm ?_
  rw [← List.append_assoc]
  exact List.Perm.append_right _ hp
theorem Has.of_chunk {w : World} {I : Imm} {S : St} {F : List Blk} {k : Nat} {ch c' : List Blk} (hk : S[k]? = some ch) (h : Has w I (c' ++ ((S.set k []).flatten ++ F))) : Has w I ((S.set k c').flatten ++ F) := by
  have hlt : k < S.length := by
    rcases Nat.lt_or_ge k S.length with g | g
    · exact g
    · rw [List.getElem?_eq_none g] at hk; cases hk
  have hp := set_flatten_perm (S.set k c') k (by simpa using hlt)
  rw [List.set_set] at hp
  have e : (S.set k c').getD k [] = c' := by simp [List.getD, hlt]
  rw [e] at hp
  refine h.perm ?_
  rw [← List.append_assoc]
  exact List.Perm.append_right _ hp.symm
theorem UponS.mono {P : Program} {r : Result Next} {R R' : Value → World → Prop} (h : UponS P r R) (hr : ∀ v w, R v w → R' v w) : UponS P r R' := by
  unfold UponS at *
  split at h
  · exact hr _ _ h
  · exact hr _ _ h
  · exact h.mono fun e w'' ⟨v, he, hv⟩ => ⟨v, he, hr _ _ hv⟩
  · exact h.mono fun e w'' ⟨v, he, hv⟩ => ⟨v, he, hr _ _ hv⟩
  · exact h.elim
/-- yield, called -/
theorem yieldD {P : Program} {o : Oper} {ρ : Env} {I : Imm} {S : St} {K : Value → Imm → St → Prop} {c : Call} {f : Operand} {l : Nat} {args : Array Value} (ho : o.op = .call c) (hc : c.callee = .value f) (hf : ρ.ev f = .func (.yield l) #[] #[]) (ha : c.args.toList.map ρ.ev = args.toList)
    (k : Nat) {ch : List Blk} (hk : S[k]? = some ch) {Q : Bool → Imm → List Blk → Prop} (h : YieldT P l args I ch Q) (hK : ∀ b J c', I.le J → Q b J c' → K (.bool b) J (S.set k c')) : AnyD P o ρ I S K := by
  refine .mk ⟨fun w F hw => ?_⟩
  have hexec : (execOp ρ.ev o).run P w = (Instr.yield l args).run P w := by
    have ha' : c.args.map ρ.ev = args := by apply Array.ext'; rw [Array.toList_map]; exact ha
    simp [execOp, ho, resolve, hc, hf, Deferred.ofValue, invoke, ha']
  rw [hexec]
  refine (h.run w _ (hw.to_chunk hk)).mono ?_
  rintro v w' ⟨b, J, c', rfl, hle, hq, hh, hx⟩
  exact ⟨J, _, hle, hK b J c' hle hq, hh.of_chunk hk, hx⟩

/-- AN ITERATOR: it hands yield the elements that E tells, one by one; when it has handed 'i' of them with 'fin i' it may end; when yield says no it ends. -/
def SeqC (P : Program) (gf : FuncId) (lb : Array Value) (I : Imm) (Sit : St) (E : Nat → Value → Prop) (fin : Nat → Prop) : Prop :=
  ∀ (l : Nat) (inv : Nat → Imm → List Blk → Prop) (stp : Imm → List Blk → Prop) (J : Imm) (c : List Blk), I.le J →
    (∀ i x J' c', J.le J' → E i x → inv i J' c' → YieldT P l #[x] J' c' fun b J'' c'' => (b = true ∧ inv (i + 1) J'' c'') ∨ (b = false ∧ stp J'' c'')) →
    inv 0 J c → Tri P gf (#[.func (.yield l) #[] #[]] ++ lb) J (c :: Sit) fun _ J' S' => ∃ c' R, S' = c' :: R ∧ ((∃ i, fin i ∧ inv i J' c') ∨ stp J' c')

/-- how a round is left -/
def jumpC : Exit → Option Code
  | .ret => some .ret
  | .exit i => some (.exit i)
  | .goto l => some (.goto l)
  | _ => none
def roundQ (G : Imm → St → Prop) (X : Exit → Imm → St → Prop) : QT := fun e _ J S => match e with
  | .normal => ∃ S0, Drop S S0 ∧ G J S0
  | .ret => ∃ S0, Drop S S0 ∧ X .ret J S0
  | .exit i => ∃ S0, Drop S S0 ∧ X (.exit i) J S0
  | .goto l => ∃ S0, Drop S S0 ∧ X (.goto l) J S0
  | _ => False
def assignQ (K : Env → Imm → St → Prop) : QT := fun e ρ J S => match e with
  | .normal => K ρ J S
  | _ => False
theorem Ext.putObj (w : World) (l : Nat) (o : Obj) : Ext w (w.putObj l o) := ⟨rfl, rfl, rfl, by simp⟩
/-- an object in the list is another one -/
theorem Has.putAt {w : World} {I : Imm} {A B : List Blk} {l : Nat} {o : Obj} (h : Has w I (A ++ (l, o) :: B)) (o' : Obj) : Has (w.putObj l o') I (A ++ (l, o') :: B) :=
  h.turn (World.putObj_heap_same (lt_of_some (h.mem (l, o) (by simp)))) (fun _ hk => World.putObj_heap_other hk)

/-- THE STATEMENT 'for x := range g' -/
theorem CodeF.rangeF {P : Program} {T : Tab} {n : Nat} {g : Operand} {p : Tmp} {assign body : Code} {ρ : Env} {I : Imm} {S : St} {Q : QT} {gf : FuncId} {lb : Array Value} (hg : ρ.ev g = .func (.func gf) #[] lb)
    (S1 Sit : St) (hS : Drop S (S1 ++ Sit)) (E : Nat → Value → Prop) (fin : Nat → Prop) (hseq : SeqC P gf lb I Sit E fin) (G : Nat → Imm → St → Prop) (X : Exit → Imm → St → Prop) (h0 : G 0 I S1)
    (round : ∀ i x J S', I.le J → E i x → G i J S' → denC P T n assign (ρ.upd p x) J S' (assignQ fun ρ1 J1 S2 => denC P T n body ρ1 J1 S2 (roundQ (G (i + 1)) X)))
    (done : ∀ i J S', I.le J → fin i → G i J S' → Q .normal ρ J S') (stop : ∀ e J S', I.le J → X e J S' → Q e ρ J S') : CodeF P T n (.rangeFunc g #[p] assign body) ρ I S Q := by
  refine ⟨fun hT hf => ⟨fun rd ds a w F R hr hw hl hR => ?_⟩⟩
  simp only [fitsC, Bool.and_eq_true] at hf
  obtain ⟨⟨hps, hfa⟩, hfb⟩ := hf
  have hp : p < n := by simpa [Nat.blt_eq] using hps
  refine wpIn_rangeFunc ?_
  intro fn _
  -- the record, and where the deferred calls go
  obtain ⟨l, mark, w1, dfb, ds1, henter, hmark, hds, hb1, hx1⟩ : ∃ (l : Nat) (mark : List Deferred) (w1 : World) (dfb : Nat) (ds1 : List Nat), (Instr.enterLoop fn a.tmps #[p] assign body (wR rd).round).run P w = .ok (l, mark) w1 ∧ mark ++ marks ds = marks ds1 ∧ (rd ≠ none → ds1 = ds) ∧
      Has w1 I ((l, .loop { state := .ready, pending := none, fn, tmps := a.tmps, params := #[p], assign, body, defers := dfb }) :: (S.flatten ++ (markB ds1 ++ F))) ∧ Ext w w1 := by
    cases hrd : rd with
    | none =>
      refine ⟨_, _, _, w.heap.size, w.heap.size :: ds, run_enterLoop_outer _ _ _ _ _, rfl, fun h => absurd rfl h, ?_, (Ext.alloc w _).trans (Ext.alloc _ _)⟩
      have h1 := (hw.alloc (.deferred (some []))).alloc (.loop { state := .ready, pending := none, fn, tmps := a.tmps, params := #[p], assign, body, defers := w.heap.size })
      rw [World.size_alloc] at h1
      refine h1.perm (List.Perm.cons _ ?_)
      simp only [markB, List.map_cons, List.cons_append]
      exact List.perm_middle.symm
    | some l0 =>
      obtain ⟨r0, hr0⟩ := hl l0 hrd
      have hb0 : w.heap[l0]? = some (.loop r0) := hw.mem (l0, .loop r0) (by simp [hr0])
      refine ⟨w.heap.size, [], w.alloc (.loop { state := .ready, pending := none, fn, tmps := a.tmps, params := #[p], assign, body, defers := r0.defers }), r0.defers, ds, ?_, rfl, fun _ => rfl, hw.alloc _, Ext.alloc w _⟩
      show (Instr.enterLoop fn a.tmps #[p] assign body (some l0)).run P w = _
      unfold Instr.enterLoop
      simp only [Sem.run_bind, run_getLoop hb0, run_newObj_alloc, Result.andThen, Sem.run_pure]
  obtain ⟨rec, hrec⟩ : ∃ rec : LoopState → Option Code → Loop, rec = fun st pe => { state := st, pending := pe, fn, tmps := a.tmps, params := #[p], assign, body, defers := dfb } := ⟨_, rfl⟩
  have hb1 : Has w1 I ((l, .loop (rec .ready none)) :: (S.flatten ++ (markB ds1 ++ F))) := by rw [hrec]; exact hb1
  have fP : ∀ st pe, (rec st pe).params = #[p] := by subst hrec; intros; rfl
  have fT : ∀ st pe, (rec st pe).tmps = a.tmps := by subst hrec; intros; rfl
  have fF : ∀ st pe, (rec st pe).fn = fn := by subst hrec; intros; rfl
  have fA : ∀ st pe, (rec st pe).assign = assign := by subst hrec; intros; rfl
  have fB : ∀ st pe, (rec st pe).body = body := by subst hrec; intros; rfl
  have fS : ∀ st pe, (rec st pe).state = st := by subst hrec; intros; rfl
  have fE : ∀ st pe, (rec st pe).pending = pe := by subst hrec; intros; rfl
  have fU : ∀ st pe st', ({ rec st pe with state := st' } : Loop) = rec st' pe := by subst hrec; intros; rfl
  have fV : ∀ st pe st' pe', ({ rec st pe with state := st', pending := pe' } : Loop) = rec st' pe' := by subst hrec; intros; rfl
  clear hrec
  have hag : a.eval g = .func (.func gf) #[] lb := by rw [hr.eval]; exact hg
  -- what the chunk holds
  let inv : Nat → Imm → List Blk → Prop := fun i J c => ∃ S', c = S'.flatten ++ [(l, .loop (rec .ready none))] ∧ G i J S'
  let stp : Imm → List Blk → Prop := fun J c => ∃ S' e cd, c = S'.flatten ++ [(l, .loop (rec .done (some cd)))] ∧ jumpC e = some cd ∧ X e J S'
  have hseq' := hseq l inv stp I (S1.flatten ++ [(l, .loop (rec .ready none))]) I.le_refl ?yield ⟨S1, rfl, h0⟩
  case yield =>
    rintro i x J c hJ hE ⟨S', rfl, hG⟩
    refine ⟨fun w F0 hw => ?_⟩
    have hw : Has w J (S'.flatten ++ (l, .loop (rec .ready none)) :: F0) := by simpa using hw
    have hlb : w.heap[l]? = some (.loop (rec .ready none)) := hw.mem (l, _) (by simp)
    rw [run_yield hlb (by rw [fP]; rfl)]
    rw [fP, fT, fF, fA, fB]
    have htm : ((#[p].zip #[x]).foldl (fun (tmps : Array Value) (y : Tmp × Value) => match y with | (t, a) => tmps.setIfInBounds t a) a.tmps) = a.tmps.setIfInBounds p x := by simp
    rw [htm]
    show RoundIn Fence.wide 0 P l fn (a.tmps.setIfInBounds p x) assign body w _
    refine roundIn_of_wpIn (F := Fence.wide) trivial ?_
    have hden := round i x J S' hJ hE hG
    have hA := denC_ok hT assign (ρ.upd p x) J S' _ hfa hden
    have hrel : Rel n (marks []) { tmps := a.tmps.setIfInBounds p x, defers := [] } (ρ.upd p x) := by
      have := hr.put (some p) (fun k hk => by cases hk; exact hp) x
      exact ⟨rfl, this.size, this.get⟩
    refine hA.run (some l) [] _ w ((l, .loop (rec .ready none)) :: F0) _ hrel (by simpa [markB] using hw) (fun l' hl' => by cases hl'; exact ⟨_, List.mem_cons_self⟩) ?_
    intro e a1 w2 ρ1 J1 S2 ds2 r0 r1 r2 r3 r4 r5
    obtain rfl := r0 (by simp)
    cases e with
    | normal =>
      have r3 : denC P T n body ρ1 J1 S2 (roundQ (G (i + 1)) X) := r3
      have r4 : Has w2 J1 (S2.flatten ++ (l, .loop (rec .ready none)) :: F0) := by simpa [markB] using r4
      have hlb2 : w2.heap[l]? = some (.loop (rec .ready none)) := r4.mem (l, _) (by simp)
      refine ⟨_, run_beginRound hlb2 (fS _ _), ?_⟩
      rw [fU]
      have r6 := r4.putAt (.loop (rec .busy none))
      have hB := denC_ok hT body ρ1 J1 S2 _ hfb r3
      refine hB.run (some l) [] _ _ ((l, .loop (rec .busy none)) :: F0) _ r1 (by simpa [markB] using r6) (fun l' hl' => by cases hl'; exact ⟨_, List.mem_cons_self⟩) ?_
      intro e a2 w3 ρ2 J2 S3 ds3 q0 q1 q2 q3 q4 q5
      obtain rfl := q0 (by simp)
      have hext : Ext w w3 := r5.trans ((Ext.putObj _ _ _).trans q5)
      have hle : J.le J2 := Imm.le_trans r2 q2
      have fin' : ∀ (jump : Option Code) (S0 : St), Drop S3 S0 → ∃ v w', (Instr.endRound l jump).run P w3 = .ok v w' ∧ v = .bool jump.isNone ∧ Has w' J2 ((S0.flatten ++ [(l, .loop (rec (if jump.isNone then .ready else .done) jump))]) ++ F0) ∧ Ext w w' := by
        intro jump S0 hd
        have q4 : Has w3 J2 (S3.flatten ++ ((l, .loop (rec .busy none)) :: F0)) := by simpa [markB] using q4
        have q6 := hd.has q4
        have hlb3 : w3.heap[l]? = some (.loop (rec .busy none)) := q6.mem (l, _) (by simp)
        have hrun := run_endRound (P := P) jump hlb3
        rw [fV] at hrun
        refine ⟨_, _, hrun, rfl, ?_, hext.trans (Ext.putObj _ _ _)⟩
        have := q6.putAt (.loop (rec (if jump.isNone then .ready else .done) jump))
        simpa using this
      cases e with
      | normal =>
        obtain ⟨S0, hd, hg⟩ := q3
        obtain ⟨v, w', hrun, rfl, hh, hx⟩ := fin' none S0 hd
        exact ⟨_, w', hrun, _, rfl, true, J2, _, rfl, hle, .inl ⟨rfl, S0, rfl, hg⟩, hh, hx⟩
      | ret =>
        obtain ⟨S0, hd, hg⟩ := q3
        obtain ⟨v, w', hrun, rfl, hh, hx⟩ := fin' (some .ret) S0 hd
        exact ⟨_, w', hrun, _, rfl, false, J2, _, rfl, hle, .inr ⟨rfl, S0, .ret, _, rfl, rfl, hg⟩, hh, hx⟩
      | exit id =>
        obtain ⟨S0, hd, hg⟩ := q3
        obtain ⟨v, w', hrun, rfl, hh, hx⟩ := fin' (some (.exit id)) S0 hd
        exact ⟨_, w', hrun, _, rfl, false, J2, _, rfl, hle, .inr ⟨rfl, S0, .exit id, _, rfl, rfl, hg⟩, hh, hx⟩
      | goto t =>
        obtain ⟨S0, hd, hg⟩ := q3
        obtain ⟨v, w', hrun, rfl, hh, hx⟩ := fin' (some (.goto t)) S0 hd
        exact ⟨_, w', hrun, _, rfl, false, J2, _, rfl, hle, .inr ⟨rfl, S0, .goto t, _, rfl, rfl, hg⟩, hh, hx⟩
      | panic c => exact q3.elim
      | outgrown => exact q3.elim
    | ret => exact r3.elim
    | exit id => exact r3.elim
    | goto t => exact r3.elim
    | panic c => exact r3.elim
    | outgrown => exact r3.elim
  have hw1 : Has w1 I ((((S1.flatten ++ [(l, .loop (rec .ready none))]) :: Sit).flatten) ++ (markB ds1 ++ F)) := by
    obtain ⟨R0, hp0⟩ := hS
    refine (hb1.perm (L' := R0 ++ ((((S1.flatten ++ [(l, .loop (rec .ready none))]) :: Sit).flatten) ++ (markB ds1 ++ F))) ?_).sub (List.sublist_append_right _ _)
    classical
    refine List.perm_iff_count.2 fun x => ?_
    have := List.perm_iff_count.1 hp0 x
    simp only [List.flatten_append, List.count_append, List.count_cons, List.flatten_cons, List.count_nil] at this ⊢
    omega
  refine ⟨l, mark, w1, { target := .fn (.func gf) lb, args := #[.func (.yield l) #[] #[]] }, w1, gf, #[.func (.yield l) #[] #[]] ++ lb, w1, henter, ?_, fun _ _ => trivial, ?_, (by intro h; cases h), ?_⟩
  · simp only [resolve, hag]
    simp [go_sem]
  · exact hseq'.ent w1 _ hw1
  · refine callsIn_wR ?_
    refine (hseq'.run w1 _ hw1).mono ?_
    rintro e w2 ⟨v, J, S', rfl, hle, ⟨c', R', rfl, hc⟩, hh, hx⟩
    have hh : Has w2 J (c' ++ (markB ds1 ++ F)) := by
      refine hh.sub ?_
      rw [List.flatten_cons, List.append_assoc]
      exact List.Sublist.append_left (List.sublist_append_right _ _) _
    have hrel : Rel n (marks ds1) { a with defers := mark ++ a.defers } ρ := ⟨by rw [← hmark, ← hr.defers], hr.size, hr.get⟩
    rcases hc with ⟨i, hfin, S', rfl, hG⟩ | ⟨S', e, cd, rfl, hj, hX⟩
    · have hh : Has w2 J (S'.flatten ++ (l, .loop (rec .ready none)) :: (markB ds1 ++ F)) := by simpa using hh
      have hlb : w2.heap[l]? = some (.loop (rec .ready none)) := hh.mem (l, _) (by simp)
      have hend := run_endLoop (P := P) hlb (by rw [fS]; simp)
      rw [fU, fE] at hend
      refine ⟨none, _, hend, ?_⟩
      have h3 := hh.putAt (.loop (rec .exhausted none))
      exact hR .normal _ _ ρ J S' ds1 hds hrel hle (done i J S' hle hfin hG) (h3.sub (List.Sublist.append_left (List.sublist_cons_self _ _) _)) (hx1.trans (hx.trans (Ext.putObj _ _ _)))
    · have hh : Has w2 J (S'.flatten ++ (l, .loop (rec .done (some cd))) :: (markB ds1 ++ F)) := by simpa using hh
      have hlb : w2.heap[l]? = some (.loop (rec .done (some cd))) := hh.mem (l, _) (by simp)
      have hend := run_endLoop (P := P) hlb (by rw [fS]; simp)
      rw [fU, fE] at hend
      refine ⟨some cd, _, hend, ?_⟩
      have h3 := hh.putAt (.loop (rec .exhausted (some cd)))
      have fin' : R e { a with defers := mark ++ a.defers } _ := hR e _ _ ρ J S' ds1 hds hrel hle (stop e J S' hle hX) (h3.sub (List.Sublist.append_left (List.sublist_cons_self _ _) _)) (hx1.trans (hx.trans (Ext.putObj _ _ _)))
      cases e with
      | ret => cases hj; exact wpIn_ret fin'
      | exit id => cases hj; exact wpIn_exit fin'
      | goto t => cases hj; exact wpIn_goto fin'
      | normal => cases hj
      | panic c => cases hj
      | outgrown => cases hj
end Go.Sl

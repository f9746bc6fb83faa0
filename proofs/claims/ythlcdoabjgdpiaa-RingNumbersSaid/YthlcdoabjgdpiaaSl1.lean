/- An own logic over the kit's calls: what a call owns, what is fixed for good, triples, and the judgement on a list of operations. -/
import Derived.WalkKit
import Derived.WalkSpells
import Derived.WalkLawsBesides
import Derived.RangeFuncRecord
import Derived.OrdersIn
import Derived.TacticsIn
namespace Go.Sl
open Go.RowKit

abbrev Blk := Nat × Obj
abbrev Imm := Nat → Option Obj
abbrev St := List (List Blk)
abbrev Env := Nat → Value

/-- a row of cells -/
def row (c : List Value) (T : TypeId) (fr : Nat × Nat := (0, 0)) : Obj := .cells c.toArray T fr

def Imm.le (I J : Imm) : Prop := ∀ b o, I b = some o → J b = some o
theorem Imm.le_refl (I : Imm) : I.le I := fun _ _ h => h
theorem Imm.le_trans {I J K : Imm} (h : I.le J) (k : J.le K) : I.le K := fun b o x => k b o (h b o x)

/-- the world has these blocks: those of I for good, those of L owned -/
structure Has (w : World) (I : Imm) (L : List Blk) : Prop where
  imm : ∀ b o, I b = some o → w.heap[b]? = some o
  mem : ∀ x, x ∈ L → w.heap[x.1]? = some x.2
  nodup : (L.map Prod.fst).Nodup
  disj : ∀ x, x ∈ L → I x.1 = none

structure Ext (w w' : World) : Prop where
  os : w'.os = w.os
  tape : w'.tape = w.tape
  output : w'.output = w.output
  size : w.heap.size ≤ w'.heap.size
theorem Ext.refl (w : World) : Ext w w := ⟨rfl, rfl, rfl, Nat.le_refl _⟩
theorem Ext.trans {a b c : World} (h : Ext a b) (k : Ext b c) : Ext a c :=
  ⟨k.os.trans h.os, k.tape.trans h.tape, k.output.trans h.output, Nat.le_trans h.size k.size⟩

theorem Has.sub {w : World} {I : Imm} {L L' : List Blk} (h : Has w I L) (hs : L'.Sublist L) : Has w I L' :=
  ⟨h.imm, fun x hx => h.mem x (hs.subset hx), (hs.map _).nodup h.nodup, fun x hx => h.disj x (hs.subset hx)⟩
theorem Has.perm {w : World} {I : Imm} {L L' : List Blk} (h : Has w I L) (hp : L.Perm L') : Has w I L' :=
  ⟨h.imm, fun x hx => h.mem x (hp.mem_iff.2 hx), (hp.map _).nodup_iff.1 h.nodup, fun x hx => h.disj x (hp.mem_iff.2 hx)⟩
theorem lt_of_some {α : Type} {a : Array α} {i : Nat} {x : α} (h : a[i]? = some x) : i < a.size := by
  rcases Nat.lt_or_ge i a.size with g | g
  · exact g
  · rw [Array.getElem?_eq_none g] at h; cases h
theorem Has.alloc {w : World} {I : Imm} {L : List Blk} (h : Has w I L) (o : Obj) : Has (w.alloc o) I ((w.heap.size, o) :: L) := by
  have old : ∀ b x, w.heap[b]? = some x → (w.alloc o).heap[b]? = some x := fun b x hb => by
    rw [Below.heap_alloc _ _ _ (lt_of_some hb)]; exact hb
  refine ⟨fun b x hb => old _ _ (h.imm b x hb), ?_, ?_, ?_⟩
  · intro x hx
    rcases List.mem_cons.1 hx with rfl | hx
    · show (w.heap.push o)[w.heap.size]? = _; simp
    · exact old _ _ (h.mem x hx)
  · rw [List.map_cons, List.nodup_cons]
    refine ⟨?_, h.nodup⟩
    intro hm
    obtain ⟨x, hx, hxe⟩ := List.mem_map.1 hm
    have := lt_of_some (h.mem x hx)
    rw [hxe] at this; exact Nat.lt_irrefl _ this
  · intro x hx
    rcases List.mem_cons.1 hx with rfl | hx
    · cases hi : I w.heap.size with
      | none => rfl
      | some y => exact absurd (lt_of_some (h.imm _ _ hi)) (Nat.lt_irrefl _)
    · exact h.disj x hx
theorem Ext.alloc (w : World) (o : Obj) : Ext w (w.alloc o) := ⟨rfl, rfl, rfl, by simp⟩
theorem Has.drew {w : World} {I : Imm} {L : List Blk} (h : Has w I L) : Has w.drew I L := ⟨h.imm, h.mem, h.nodup, h.disj⟩
theorem Ext.drew (w : World) : Ext w w.drew := ⟨rfl, rfl, rfl, Nat.le_refl _⟩
/-- a world that differs in one owned block alone -/
theorem Has.turn {w w' : World} {I : Imm} {A B : List Blk} {b : Nat} {o o' : Obj} (h : Has w I (A ++ (b, o) :: B))
    (hb : w'.heap[b]? = some o') (hk : ∀ k, k ≠ b → w'.heap[k]? = w.heap[k]?) : Has w' I (A ++ (b, o') :: B) := by
  have hI : I b = none := h.disj (b, o) (by simp)
  have hn := h.nodup
  simp only [List.map_append, List.map_cons] at hn
  have hnA : b ∉ A.map Prod.fst := by
    intro hx; have := (List.nodup_append.1 hn).2.2 b hx b (by simp); exact this rfl
  have hnB : b ∉ B.map Prod.fst := by
    have := (List.nodup_append.1 hn).2.1; rw [List.nodup_cons] at this; exact this.1
  refine ⟨?_, ?_, ?_, ?_⟩
  · intro k x hx
    have : k ≠ b := by rintro rfl; rw [hI] at hx; cases hx
    rw [hk k this]; exact h.imm k x hx
  · intro x hx
    rcases List.mem_append.1 hx with hx | hx
    · have : x.1 ≠ b := fun e => hnA (e ▸ List.mem_map_of_mem hx)
      rw [hk _ this]; exact h.mem x (by simp [hx])
    · rcases List.mem_cons.1 hx with rfl | hx
      · exact hb
      · have : x.1 ≠ b := fun e => hnB (e ▸ List.mem_map_of_mem hx)
        rw [hk _ this]; exact h.mem x (by simp [hx])
  · simpa using hn
  · intro x hx
    rcases List.mem_append.1 hx with hx | hx
    · exact h.disj x (by simp [hx])
    · rcases List.mem_cons.1 hx with rfl | hx
      · exact hI
      · exact h.disj x (by simp [hx])
/-- an owned chunk becomes fixed for good -/
def Imm.plus (I : Imm) (A : List Blk) : Imm := fun b => match A.lookup b with | some o => some o | none => I b
theorem lookup_mem {A : List Blk} {b : Nat} {o : Obj} (h : A.lookup b = some o) : (b, o) ∈ A := by
  induction A with
  | nil => simp at h
  | cons x A ih =>
    obtain ⟨k, y⟩ := x
    rw [List.lookup_cons] at h
    split at h
    · rename_i he; simp at he h; subst he; subst h; simp
    · exact List.mem_cons_of_mem _ (ih h)
theorem lookup_none {A : List Blk} {b : Nat} (h : b ∉ A.map Prod.fst) : A.lookup b = none := by
  induction A with
  | nil => rfl
  | cons x A ih =>
    obtain ⟨k, y⟩ := x
    simp only [List.map_cons, List.mem_cons, not_or] at h
    rw [List.lookup_cons]
    have : (b == k) = false := by simpa using h.1
    rw [this]; exact ih h.2
theorem lookup_of_mem {A : List Blk} (hn : (A.map Prod.fst).Nodup) {b : Nat} {o : Obj} (h : (b, o) ∈ A) : A.lookup b = some o := by
  induction A with
  | nil => cases h
  | cons x A ih =>
    obtain ⟨k, y⟩ := x
    rw [List.map_cons, List.nodup_cons] at hn
    rw [List.lookup_cons]
    rcases List.mem_cons.1 h with h | h
    · cases h; simp
    · have hk : b ∈ A.map Prod.fst := List.mem_map.2 ⟨(b, o), h, rfl⟩
      have : (b == k) = false := by
        simp; intro e; exact hn.1 (e ▸ hk)
      rw [this]; exact ih hn.2 h
theorem Has.fixed {w : World} {I : Imm} {A B : List Blk} (h : Has w I (A ++ B)) : Has w (I.plus A) B := by
  have hn := h.nodup
  rw [List.map_append] at hn
  refine ⟨?_, fun x hx => h.mem x (by simp [hx]), (List.nodup_append.1 hn).2.1, ?_⟩
  · intro b o hb
    unfold Imm.plus at hb
    split at hb
    · rename_i o' ho'; cases hb; exact h.mem (b, o) (by simp [lookup_mem ho'])
    · exact h.imm b o hb
  · intro x hx
    have hxA : x.1 ∉ A.map Prod.fst := fun hm => (List.nodup_append.1 hn).2.2 x.1 hm x.1 (List.mem_map_of_mem hx) rfl
    unfold Imm.plus
    rw [lookup_none hxA]; exact h.disj x (by simp [hx])
theorem Has.plus_le {w : World} {I : Imm} {A B : List Blk} (h : Has w I (A ++ B)) : I.le (I.plus A) := by
  intro b o hb
  unfold Imm.plus
  split
  · rename_i o' ho'
    have := h.disj (b, o') (by simp [lookup_mem ho'])
    simp at this; rw [this] at hb; cases hb
  · exact hb
theorem Has.plus_mem {w : World} {I : Imm} {A B : List Blk} (h : Has w I (A ++ B)) {b : Nat} {o : Obj} (hm : (b, o) ∈ A) : I.plus A b = some o := by
  have hn := h.nodup
  rw [List.map_append] at hn
  unfold Imm.plus
  rw [lookup_of_mem (List.nodup_append.1 hn).1 hm]

/-- A CALL, from what it owns (S) over what is fixed (I): it returns, and Q holds. -/
structure Tri (P : Program) (f : FuncId) (args : Array Value) (I : Imm) (S : St) (Q : Value → Imm → St → Prop) : Prop where
  ent : ∀ w F, Has w I (S.flatten ++ F) → (callFunc f args).run P w = .ok (.enter f args) w
  run : ∀ w F, Has w I (S.flatten ++ F) → Calls P f args w fun e w' =>
    ∃ v J S', e = .returned v ∧ I.le J ∧ Q v J S' ∧ Has w' J (S'.flatten ++ F) ∧ Ext w w'
theorem Tri.mono {P : Program} {f : FuncId} {args : Array Value} {I : Imm} {S : St} {Q Q' : Value → Imm → St → Prop}
    (h : Tri P f args I S Q) (hq : ∀ v J S', I.le J → Q v J S' → Q' v J S') : Tri P f args I S Q' :=
  ⟨h.ent, fun w F hw => (h.run w F hw).mono fun _ _ ⟨v, J, S', he, hl, q, r⟩ => ⟨v, J, S', he, hl, hq v J S' hl q, r⟩⟩

/-- the chunks at some places, and what is left where they are taken out -/
def St.at (S : St) (is : List Nat) : St := is.map fun i => S.getD i []
def St.out (S : St) : List Nat → St
  | [] => S
  | i :: is => St.out (S.set i []) is
/-- chunks laid back at these places; more of them: behind all -/
def St.put (S : St) : List Nat → St → St
  | [], C => S ++ C
  | _ :: _, [] => S
  | i :: is, c :: C => St.put (S.set i c) is C
theorem set_flatten_perm : ∀ (S : St) (i : Nat), i < S.length → (S.flatten).Perm (S.getD i [] ++ (S.set i []).flatten)
  | [], _, h => absurd h (by simp)
  | c :: S, 0, _ => by simp
  | c :: S, i + 1, h => by
    have ih := set_flatten_perm S i (by simpa using h)
    simp only [List.flatten_cons, List.getD_cons_succ, List.set_cons_succ]
    exact (List.Perm.append_left c ih).trans (by
      rw [← List.append_assoc, ← List.append_assoc]; exact List.Perm.append_right _ List.perm_append_comm)
theorem getD_set_ne (S : St) (i j : Nat) (c : List Blk) (h : i ≠ j) : (S.set i c).getD j [] = S.getD j [] := by
  simp [List.getD, List.getElem?_set_ne h]
theorem at_set (S : St) (i : Nat) (c : List Blk) (is : List Nat) (h : i ∉ is) : St.at (S.set i c) is = St.at S is := by
  unfold St.at
  apply List.map_congr_left
  intro j hj
  exact getD_set_ne S i j c (fun e => h (e ▸ hj))
/-- the places are distinct and there are such -/
def okAt (n : Nat) : List Nat → Bool
  | [] => true
  | i :: is => Nat.blt i n && !is.contains i && okAt n is
theorem out_perm : ∀ (is : List Nat) (S : St), okAt S.length is = true → S.flatten.Perm ((St.at S is).flatten ++ (St.out S is).flatten)
  | [], S, _ => by simp [St.at, St.out]
  | i :: is, S, h => by
    simp only [okAt, Bool.and_eq_true, Bool.not_eq_true', Nat.blt_eq] at h
    obtain ⟨⟨hi, hc⟩, hr⟩ := h
    have hni : i ∉ is := by simpa using hc
    have h1 := set_flatten_perm S i hi
    have h2 := out_perm is (S.set i []) (by simpa using hr)
    rw [at_set S i [] is hni] at h2
    refine h1.trans ?_
    simp only [St.at, List.map_cons, List.flatten_cons, St.out, List.append_assoc]
    exact List.Perm.append_left _ h2
theorem out_length : ∀ (is : List Nat) (S : St), (St.out S is).length = S.length
  | [], _ => rfl
  | i :: is, S => by simp [St.out, out_length is]
theorem out_set : ∀ (is : List Nat) (S : St) (i : Nat) (c : List Blk), i ∉ is → St.out (S.set i c) is = (St.out S is).set i c
  | [], _, _, _, _ => rfl
  | j :: is, S, i, c, h => by
    simp only [List.mem_cons, not_or] at h
    simp only [St.out]
    rw [List.set_comm _ _ (h.1), out_set is _ i c h.2]
theorem put_out : ∀ (is : List Nat) (S : St) (C : St), okAt S.length is = true → (C.flatten ++ (St.out S is).flatten).Perm (St.put (St.out S is) is C).flatten ∨ C.length < is.length
  | [], S, C, _ => by left; simp only [St.out, St.put, List.flatten_append]; exact List.perm_append_comm
  | i :: is, S, [], _ => by right; simp
  | i :: is, S, c :: C, h => by
    simp only [okAt, Bool.and_eq_true, Bool.not_eq_true', Nat.blt_eq] at h
    obtain ⟨⟨hi, hc⟩, hr⟩ := h
    have hni : i ∉ is := by simpa using hc
    rcases put_out is (S.set i c) C (by simpa using hr) with hp | hp
    · left
      simp only [St.out, St.put, List.flatten_cons]
      have e1 : (St.out (S.set i []) is).set i c = St.out (S.set i c) is := by
        rw [out_set is S i [] hni, out_set is S i c hni, List.set_set]
      rw [e1]
      refine List.Perm.trans ?_ hp
      have hq := set_flatten_perm (St.out (S.set i c) is) i (by rw [out_length]; simpa using hi)
      have e2 : (St.out (S.set i c) is).getD i [] = c := by
        rw [out_set is S i c hni]; simp [List.getD, out_length, hi]
      have e3 : (St.out (S.set i c) is).set i [] = St.out (S.set i []) is := by
        rw [out_set is S i c hni, out_set is S i [] hni, List.set_set]
      rw [e2, e3] at hq
      rw [List.append_assoc]
      refine List.Perm.trans ?_ (List.Perm.append_left _ hq.symm)
      rw [← List.append_assoc, ← List.append_assoc]
      exact List.Perm.append_right _ List.perm_append_comm
    · right; simpa using hp

/-- THE FRAME: a call that owns the chunks at 'is' alone. What it leaves lies at these places, more of it behind all. -/
theorem Tri.frame {P : Program} {f : FuncId} {args : Array Value} {I : Imm} {S A : St} {Q : Value → Imm → St → Prop} {K : Value → Imm → St → Prop}
    (h : Tri P f args I A Q) (is : List Nat) (hok : okAt S.length is = true) (hA : St.at S is = A)
    (hK : ∀ v J A', I.le J → Q v J A' → is.length ≤ A'.length ∧ K v J (St.put (St.out S is) is A')) : Tri P f args I S K := by
  subst hA
  have hp := out_perm is S hok
  have mv : ∀ w F, Has w I (S.flatten ++ F) → Has w I ((St.at S is).flatten ++ ((St.out S is).flatten ++ F)) := by
    intro w F hw
    refine hw.perm ?_
    rw [← List.append_assoc]; exact List.Perm.append_right _ hp
  refine ⟨fun w F hw => h.ent w _ (mv w F hw), fun w F hw => ?_⟩
  have hw' := mv w F hw
  refine (h.run w _ hw').mono ?_
  rintro e w' ⟨v, J, A', he, hl, q, hh, hx⟩
  obtain ⟨hlen, hk⟩ := hK v J A' hl q
  refine ⟨v, J, _, he, hl, hk, ?_, hx⟩
  refine hh.perm ?_
  rw [← List.append_assoc]
  refine List.Perm.append_right _ ?_
  rcases put_out is S A' hok with hq | hq
  · exact hq
  · omega
/-- a chunk is fixed for good before a call -/
theorem Has.fix1 {w : World} {I : Imm} {S : St} {F : List Blk} {k : Nat} {ch : List Blk} (hk : S[k]? = some ch) (h : Has w I (S.flatten ++ F)) :
    I.le (I.plus ch) ∧ (∀ x ∈ ch, I.plus ch x.1 = some x.2) ∧ Has w (I.plus ch) ((S.set k []).flatten ++ F) := by
  have hlt : k < S.length := by
    rcases Nat.lt_or_ge k S.length with g | g
    · exact g
    · rw [List.getElem?_eq_none g] at hk; cases hk
  have hp := set_flatten_perm S k hlt
  rw [List.getD_eq_getElem?_getD, hk] at hp
  have h1 : Has w I (ch ++ ((S.set k []).flatten ++ F)) := by
    refine h.perm ?_
    rw [← List.append_assoc]
    exact List.Perm.append_right _ hp
  exact ⟨h1.plus_le, fun x hx => h1.plus_mem hx, h1.fixed⟩
theorem Tri.fix {P : Program} {f : FuncId} {args : Array Value} {I : Imm} {S : St} {K : Value → Imm → St → Prop} (k : Nat) {ch : List Blk} (hk : S[k]? = some ch)
    (h : ∀ I', I.le I' → (∀ x ∈ ch, I' x.1 = some x.2) → Tri P f args I' (S.set k []) K) : Tri P f args I S K := by
  refine ⟨fun w F hw => ?_, fun w F hw => ?_⟩
  · obtain ⟨h1, h2, h3⟩ := hw.fix1 hk
    exact (h _ h1 h2).ent w F h3
  · obtain ⟨h1, h2, h3⟩ := hw.fix1 hk
    refine ((h _ h1 h2).run w F h3).mono ?_
    rintro e w' ⟨v, J, S', he, hl, q, r⟩
    exact ⟨v, J, S', he, Imm.le_trans h1 hl, q, r⟩
/-- what a call hands back is fixed for good -/
theorem Tri.fixed {P : Program} {f : FuncId} {args : Array Value} {I : Imm} {S : St} {Q : Value → Imm → St → Prop} {K : Value → Imm → St → Prop} (h : Tri P f args I S Q)
    (hK : ∀ v J S', I.le J → Q v J S' → ∃ k ch, S'[k]? = some ch ∧ ∀ J', J.le J' → (∀ x ∈ ch, J' x.1 = some x.2) → K v J' (S'.set k [])) : Tri P f args I S K := by
  refine ⟨h.ent, fun w F hw => (h.run w F hw).mono ?_⟩
  rintro e w' ⟨v, J, S', he, hl, q, hh, hx⟩
  obtain ⟨k, ch, hk, hK⟩ := hK v J S' hl q
  obtain ⟨h1, h2, h3⟩ := hh.fix1 hk
  exact ⟨v, _, _, he, Imm.le_trans hl h1, hK _ h1 h2, h3, hx⟩
end Go.Sl

/- The own logic, sixteenth part: what is read, packed into one chunk. -/
import Derived.Test.YthlcdoabjgdpiaaSl15
namespace Go.Sl
open Go.RowKit

theorem Tri.pack {P : Program} {f : FuncId} {args : Array Value} {I : Imm} {S : St} {K : Value → Imm → St → Prop} (h : Tri P f args I [S.flatten] fun v J S' => ∃ L, S' = S.flatten :: L ∧ K v J (S ++ L)) : Tri P f args I S K := by
  refine ⟨fun w F hw => h.ent w F (by simpa using hw), fun w F hw => (h.run w F (by simpa using hw)).mono ?_⟩
  rintro e w' ⟨v, J, S', he, hl, ⟨L, rfl, hk⟩, hh, hx⟩
  exact ⟨v, J, _, he, hl, hk, by simpa using hh, hx⟩
theorem mem_flatten_getD {S : St} {k : Nat} {x : Blk} (h : x ∈ S.getD k []) : x ∈ S.flatten := by
  rw [List.getD_eq_getElem?_getD] at h
  cases hk : S[k]? with
  | none => rw [hk] at h; simp at h
  | some c => rw [hk] at h; exact List.mem_flatten.2 ⟨c, List.mem_of_getElem? hk, h⟩
theorem SlC.pack {I : Imm} {S : St} {a : Option Addr} {n : Nat} {vs : List Value} (h : SlC I S a n vs) : SlC I [S.flatten] a n vs := by
  refine ⟨h.len, h.mem.imp id ?_⟩
  rintro ⟨b, off, ha, hc⟩
  obtain ⟨c, T, fr, hin, h1, h2⟩ := hc.ex
  refine ⟨b, off, ha, ⟨c, T, fr, ?_, h1, h2⟩⟩
  cases hin with
  | imm h => exact .imm h
  | own k h => exact .own 0 (mem_flatten_getD h)
theorem SlC.mores {I : Imm} {S : St} {a : Option Addr} {n : Nat} {vs : List Value} (h : SlC I S a n vs) (L : St) : SlC I (S ++ L) a n vs := by
  refine ⟨h.len, h.mem.imp id ?_⟩
  rintro ⟨b, off, ha, hc⟩
  obtain ⟨c, T, fr, hin, h1, h2⟩ := hc.ex
  refine ⟨b, off, ha, ⟨c, T, fr, ?_, h1, h2⟩⟩
  cases hin with
  | imm h => exact .imm h
  | own k h =>
    refine .own k ?_
    rw [List.getD_eq_getElem?_getD] at h ⊢
    rcases Nat.lt_or_ge k S.length with g | g
    · rwa [List.getElem?_append_left g]
    · rw [List.getElem?_eq_none g] at h; simp at h
theorem SlC.imm {I J : Imm} {S : St} {a : Option Addr} {n : Nat} {vs : List Value} (h : SlC I S a n vs) (hJ : I.le J) : SlC J S a n vs := by
  refine ⟨h.len, h.mem.imp id ?_⟩
  rintro ⟨b, off, ha, hc⟩
  obtain ⟨c, T, fr, hin, h1, h2⟩ := hc.ex
  refine ⟨b, off, ha, ⟨c, T, fr, ?_, h1, h2⟩⟩
  cases hin with
  | imm h => exact .imm (hJ _ _ h)
  | own k h => exact .own k h
theorem own_take (pre vs post : List Value) : ((pre ++ vs ++ post).drop pre.length).take vs.length = vs := by
  rw [List.append_assoc, List.drop_left, List.take_left]
theorem splice_mid (pre vs post news : List Value) (i : Nat) (h : i + news.length ≤ vs.length) : splice (pre ++ vs ++ post) (pre.length + i) news = pre ++ (vs.take i ++ news ++ vs.drop (i + news.length)) ++ post := by
  unfold splice
  have e1 : (pre ++ vs ++ post).take (pre.length + i) = pre ++ vs.take i := by
    rw [List.append_assoc, List.take_append, List.take_of_length_le (by omega), List.take_append_of_le_length (by omega)]
    congr 2; omega
  have e2 : (pre ++ vs ++ post).drop (pre.length + i + news.length) = vs.drop (i + news.length) ++ post := by
    rw [List.append_assoc, Nat.add_assoc, ← List.drop_drop, List.drop_left, List.drop_append_of_le_length (by omega)]
  rw [e1, e2]
  simp [List.append_assoc]
end Go.Sl

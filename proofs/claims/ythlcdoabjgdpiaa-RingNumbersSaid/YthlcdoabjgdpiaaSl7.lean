/- The own logic, seventh part: short words for what is done by hand. -/
import Derived.Test.YthlcdoabjgdpiaaSl6
namespace Go.Sl
open Go.RowKit
section
variable {I : Imm} {S : St} {b off n : Nat} {G : List Value → Prop}
theorem mem_getD {S : St} {k : Nat} {ch : List Blk} {x : Blk} (hk : S[k]? = some ch) (hx : x ∈ ch) : x ∈ S.getD k [] := by
  rw [List.getD_eq_getElem?_getD, hk]; exact hx
/-- the block at a place of its own -/
theorem In.one {c : Obj} (k : Nat) (hk : S[k]? = some [(b, c)]) : In I S b c := .own k (mem_getD hk (by simp))
theorem LoadD.own (k : Nat) {c : List Value} {T : TypeId} {fr : Nat × Nat} (hk : S[k]? = some [(b, row c T fr)]) (vs : List Value) (h : (c.drop off).take n = vs) (hl : vs.length = n) (g : G vs) : LoadD I S b off n G :=
  .mk vs ⟨c, T, fr, .one k hk, h, hl⟩ g
theorem LoadD.imm {c : List Value} {T : TypeId} {fr : Nat × Nat} (hk : I b = some (row c T fr)) (vs : List Value) (h : (c.drop off).take n = vs) (hl : vs.length = n) (g : G vs) : LoadD I S b off n G :=
  .mk vs ⟨c, T, fr, .imm hk, h, hl⟩ g
theorem StoreD.one {vs : List Value} {K : St → Prop} (k : Nat) {c : List Value} {T : TypeId} {fr : Nat × Nat} (hk : S[k]? = some [(b, row c T fr)]) (hl : off + vs.length ≤ c.length)
    (hf : fr.2 ≤ off ∨ off + vs.length ≤ fr.1 ∨ fr.2 ≤ fr.1) (h : K (S.set k [(b, row (splice c off vs) T fr)])) : StoreD S b off vs K :=
  .mk k [] [] c T fr hk hl hf h
/-- a store into a block at a place of its own, its bounds by computing -/
theorem StoreD.st {vs : List Value} {K : St → Prop} (k : Nat) {c : List Value} {T : TypeId} {fr : Nat × Nat} (hk : S[k]? = some [(b, row c T fr)]) (hl : Nat.ble (off + vs.length) c.length = true)
    (hf : Nat.ble fr.2 fr.1 = true) (h : K (S.set k [(b, row (splice c off vs) T fr)])) : StoreD S b off vs K :=
  .one k hk (Nat.le_of_ble_eq_true hl) (.inr (.inr (Nat.le_of_ble_eq_true hf))) h
/-- a store whose block then reads as told -/
theorem StoreD.to {vs : List Value} {K : St → Prop} (k : Nat) {c : List Value} {T : TypeId} {fr : Nat × Nat} (hk : S[k]? = some [(b, row c T fr)]) (c' : List Value) (hc : splice c off vs = c') (hl : off + vs.length ≤ c.length)
    (hf : fr.2 ≤ off ∨ off + vs.length ≤ fr.1 ∨ fr.2 ≤ fr.1) (S' : St) (hS : S.set k [(b, row c' T fr)] = S') (h : K S') : StoreD S b off vs K := by
  subst hc; subst hS; exact .one k hk hl hf h
end
section
variable {P : Program} {f : FuncId} {args : Array Value} {I : Imm} {S A : St} {Q K : Value → Imm → St → Prop}
/-- a call that owns nothing: what it made is let go -/
theorem Tri.free (h : Tri P f args I [] Q) (hK : ∀ v J A', I.le J → Q v J A' → K v J S) : Tri P f args I S K := by
  refine ⟨fun w F hw => h.ent w (S.flatten ++ F) (by simpa using hw), fun w F hw => ?_⟩
  refine (h.run w (S.flatten ++ F) (by simpa using hw)).mono ?_
  rintro e w' ⟨v, J, A', he, hl, q, hh, hx⟩
  exact ⟨v, J, S, he, hl, hK v J A' hl q, hh.sub (List.sublist_append_right _ _), hx⟩
end
end Go.Sl

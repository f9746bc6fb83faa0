/- The own logic, fourteenth part: what reads only may own what it will; more short words. -/
import Derived.Test.YthlcdoabjgdpiaaSl13
namespace Go.Sl
open Go.RowKit

theorem last_get (S : St) (x : List Blk) : (S ++ [x])[S.length]? = some x := by simp
theorem last_set (S : St) (x y : List Blk) : (S ++ [x]).set S.length y = S ++ [y] := by simp
theorem SlC.nil_len {I : Imm} {S : St} {n : Nat} {vs : List Value} (h : SlC I S none n vs) : n = 0 := by
  rcases h.mem with h | ⟨b, off, h, _⟩
  · exact h
  · cases h
theorem SlC.more {I : Imm} {S : St} {a : Option Addr} {n : Nat} {vs : List Value} (h : SlC I S a n vs) (x : List Blk) : SlC I (S ++ [x]) a n vs := by
  refine ⟨h.len, h.mem.imp id ?_⟩
  rintro ⟨b, off, ha, hc⟩
  obtain ⟨c, T, fr, hin, h1, h2⟩ := hc.ex
  refine ⟨b, off, ha, ⟨c, T, fr, ?_, h1, h2⟩⟩
  cases hin with
  | imm h => exact .imm h
  | own k h =>
    refine .own k ?_
    rw [List.getD_eq_getElem?_getD] at h ⊢
    rcases Nat.lt_or_ge k S.length with g | g
    · rwa [List.getElem?_append_left g]
    · rw [List.getElem?_eq_none g] at h; simp at h
/-- what a call leaves may be laid out otherwise, and some of it let go -/
theorem Tri.drop {P : Program} {f : FuncId} {args : Array Value} {I : Imm} {S : St} {Q K : Value → Imm → St → Prop} (h : Tri P f args I S Q) (hK : ∀ v J S', I.le J → Q v J S' → ∃ S'', Drop S' S'' ∧ K v J S'') : Tri P f args I S K := by
  refine ⟨h.ent, fun w F hw => (h.run w F hw).mono ?_⟩
  rintro e w' ⟨v, J, S', he, hl, q, hh, hx⟩
  obtain ⟨S'', hd, hk⟩ := hK v J S' hl q
  exact ⟨v, J, S'', he, hl, hk, hd.has hh, hx⟩
end Go.Sl

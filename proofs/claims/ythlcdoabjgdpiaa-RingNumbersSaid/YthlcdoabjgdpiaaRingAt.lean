/- Layer 7: the contract of 'ring.At'. -/
import Derived.Test.YthlcdoabjgdpiaaRing
namespace Go.Proofs.Ythlcdoabjgdpiaa
open Go.RowKit Go.Sl

section
variable (s t u h n : Int) (I : Imm) (hs : In64 s) (ht : In64 t) (hu : In64 u) (hh : In64 h) (hn : In64 n)
include hs ht hu hh hn
theorem ring_At : Tri Try.prog 8 #[rg s t u h, .int .i64 n] I [] fun v J _ => ∃ a e, v = .tuple #[.int .i64 a, .int .i64 e] ∧ (a, e) = atS s t u h n ∧ I = J := by
  have hR := ring_Right s t u h I hs ht hu hh
  unfold In64 at *
  refine Tri.of (args := [rg s t u h, .int .i64 n]) tabOk Try.func8 rfl (by kernel_rfl) (by kernel_rfl) ?_
  conv => whnf
  intro b
  refine LoadD.own 0 rfl _ rfl rfl ?_
  refine Tri.free hR ?_
  rintro v J _ hJ ⟨b1, rfl, h1, rfl⟩
  cases b1
  · refine Done.mk ⟨_, _, rfl, ?_, rfl⟩
    rw [atS, if_pos (.inl (by simpa using h1))]
  replace h1 := h1.1 rfl
  have h1' := h1
  unfold Ok at h1'
  refine CmpD.split (fun c => ?_) (fun c => ?_)
  · refine Done.mk ⟨_, _, rfl, ?_, rfl⟩
    rw [atS, if_pos (.inr (.inl c))]
  refine LoadD.own 0 rfl _ rfl rfl ?_
  refine CmpD.split (fun c2 => ?_) (fun c2 => ?_)
  · refine Done.mk ⟨_, _, rfl, ?_, rfl⟩
    rw [atS, if_pos (.inr (.inr c2))]
  refine LoadD.own 0 rfl _ rfl rfl ?_
  refine ToD.i64 (by omega) (by omega) ?_
  refine LoadD.own 0 rfl _ rfl rfl ?_
  refine Chk.mk (by omega) ?_
  refine ToD.rem (by omega) ?_
  refine Done.mk ⟨_, _, rfl, ?_, rfl⟩
  rw [atS, if_neg (by unfold Ok; omega)]
end
end Go.Proofs.Ythlcdoabjgdpiaa

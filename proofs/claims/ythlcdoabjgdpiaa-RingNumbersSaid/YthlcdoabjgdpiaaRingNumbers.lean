/- 'RingNumbers' returns true: the fixed examples of layer 7 come out as written. No condition. -/
import Derived.Test.YthlcdoabjgdpiaaRingAwake
namespace Go.Proofs.Ythlcdoabjgdpiaa
open Go.RowKit Go.Sl

/-- the rings that may not be, one after the other -/
def wrongRings : List (Int × Int × Int × Int) := [(0, 0, 0, 0), (513, 0, 0, 0), (5, 5, 0, 0), (5, 0, 6, 0), (5, 0, 3, 3), (5, 0, -1, 0), (5, -1, 0, 0), (5, 0, 0, -1), (5, 0, 9223372036854775807, 9223372036854775807)]
def wrongCells : List Value := wrongRings.flatMap fun (a, b, c, d) => [.int .i64 a, .int .i64 b, .int .i64 c, .int .i64 d]
theorem wrong_at (k : Nat) (h : k < 9) : ∃ a b c d, (wrongCells.drop (0 + k * 4)).take 4 = [.int .i64 a, .int .i64 b, .int .i64 c, .int .i64 d] ∧ ¬ Ok a b c d ∧ In64 a ∧ In64 b ∧ In64 c ∧ In64 d := by
  unfold In64
  match k, h with
  | 0, _ => exact ⟨_, _, _, _, rfl, by decide, by omega, by omega, by omega, by omega⟩
  | 1, _ => exact ⟨_, _, _, _, rfl, by decide, by omega, by omega, by omega, by omega⟩
  | 2, _ => exact ⟨_, _, _, _, rfl, by decide, by omega, by omega, by omega, by omega⟩
  | 3, _ => exact ⟨_, _, _, _, rfl, by decide, by omega, by omega, by omega, by omega⟩
  | 4, _ => exact ⟨_, _, _, _, rfl, by decide, by omega, by omega, by omega, by omega⟩
  | 5, _ => exact ⟨_, _, _, _, rfl, by decide, by omega, by omega, by omega, by omega⟩
  | 6, _ => exact ⟨_, _, _, _, rfl, by decide, by omega, by omega, by omega, by omega⟩
  | 7, _ => exact ⟨_, _, _, _, rfl, by decide, by omega, by omega, by omega, by omega⟩
  | 8, _ => exact ⟨_, _, _, _, rfl, by decide, by omega, by omega, by omega, by omega⟩

set_option maxHeartbeats 1000000 in
set_option maxRecDepth 20000 in
theorem ringNumbers_walk (I : Imm) : Tri Try.prog 4 #[] I [] fun v _ _ => v = .bool true := by
  have i64 : ∀ n : Int, -1000 ≤ n ∧ n ≤ 1000 → In64 n := fun n h => by unfold In64; omega
  refine Tri.of (args := []) tabOk Try.func4 rfl (by kernel_rfl) (by kernel_rfl) ?_
  conv => whnf
  intro b1
  refine StoreD.st 0 rfl rfl rfl ?_
  refine LoadD.own 0 rfl _ rfl rfl ?_
  refine Tri.free (ring_Reserve 5 3 3 0 (-1) I (i64 _ (by decide)) (i64 _ (by decide)) (i64 _ (by decide)) (i64 _ (by decide)) (i64 _ (by decide))) ?_
  rintro v J _ hJ ⟨⟨a, b, c, d, e, rfl, h1⟩, rfl⟩
  rw [show reserveS 5 3 3 0 (-1) = (0, 0, 0, 0, 2) from by decide] at h1
  simp only [Prod.mk.injEq] at h1
  obtain ⟨rfl, rfl, rfl, rfl, rfl⟩ := h1
  conv => whnf
  intro b2
  refine StoreD.st 1 rfl rfl rfl ?_
  refine LoadD.own 0 rfl _ rfl rfl ?_
  refine Tri.free (ring_Drop 5 3 3 0 6 I (i64 _ (by decide)) (i64 _ (by decide)) (i64 _ (by decide)) (i64 _ (by decide)) (i64 _ (by decide))) ?_
  rintro v J _ hJ ⟨⟨a, b, c, d, e, rfl, h1⟩, rfl⟩
  rw [show dropS 5 3 3 0 6 = (0, 0, 0, 0, 2) from by decide] at h1
  simp only [Prod.mk.injEq] at h1
  obtain ⟨rfl, rfl, rfl, rfl, rfl⟩ := h1
  conv => whnf
  intro b3
  refine StoreD.st 2 rfl rfl rfl ?_
  refine LoadD.own 0 rfl _ rfl rfl ?_
  refine Tri.free (ring_Release 5 3 3 0 1 I (i64 _ (by decide)) (i64 _ (by decide)) (i64 _ (by decide)) (i64 _ (by decide)) (i64 _ (by decide))) ?_
  rintro v J _ hJ ⟨⟨a, b, c, d, e, rfl, h1⟩, rfl⟩
  rw [show releaseS 5 3 3 0 1 = (0, 0, 0, 0, 2) from by decide] at h1
  simp only [Prod.mk.injEq] at h1
  obtain ⟨rfl, rfl, rfl, rfl, rfl⟩ := h1
  conv => whnf
  intro b4
  refine StoreD.st 3 rfl rfl rfl ?_
  refine LoadD.own 0 rfl _ rfl rfl ?_
  refine Tri.free (ring_Put 5 3 3 0 1 I (i64 _ (by decide)) (i64 _ (by decide)) (i64 _ (by decide)) (i64 _ (by decide)) (i64 _ (by decide)) 1 (i64 _ (by decide))) ?_
  rintro v J _ hJ ⟨⟨a, b, c, d, x, e, rfl, h1⟩, rfl⟩
  rw [show putS 5 3 3 0 1 1 = ((0, 0, 0, 0, 2), 0) from by decide] at h1
  simp only [Prod.mk.injEq] at h1
  obtain ⟨⟨rfl, rfl, rfl, rfl, rfl⟩, rfl⟩ := h1
  conv => whnf
  intro b5
  refine StoreD.st 4 rfl rfl rfl ?_
  refine LoadD.own 0 rfl _ rfl rfl ?_
  refine Tri.free (ring_Put 5 3 3 0 1 I (i64 _ (by decide)) (i64 _ (by decide)) (i64 _ (by decide)) (i64 _ (by decide)) (i64 _ (by decide)) (-1) (i64 _ (by decide))) ?_
  rintro v J _ hJ ⟨⟨a, b, c, d, x, e, rfl, h1⟩, rfl⟩
  rw [show putS 5 3 3 0 1 (-1) = ((0, 0, 0, 0, 2), 0) from by decide] at h1
  simp only [Prod.mk.injEq] at h1
  obtain ⟨⟨rfl, rfl, rfl, rfl, rfl⟩, rfl⟩ := h1
  conv => whnf
  intro b6
  refine StoreD.st 5 rfl rfl rfl ?_
  refine LoadD.own 0 rfl _ rfl rfl ?_
  refine Tri.free (ring_At 5 3 3 0 5 I (i64 _ (by decide)) (i64 _ (by decide)) (i64 _ (by decide)) (i64 _ (by decide)) (i64 _ (by decide))) ?_
  rintro v J _ hJ ⟨a2, e2, rfl, h2, rfl⟩
  rw [show atS 5 3 3 0 5 = (0, 2) from by decide] at h2
  simp only [Prod.mk.injEq] at h2
  obtain ⟨rfl, rfl⟩ := h2
  conv => whnf
  intro b7
  refine CodeF.loopD [1, 3, 5, 7, 10, 13, 15, 62, 63, 64] (fun vs J S' => ∃ k : Nat, k ≤ 9 ∧ vs = [.pointer (some ⟨b1, 0, none⟩), .int .i64 2, .int .i64 2, .int .i64 2, .int .i64 2, .int .i64 2, .int .i64 2, .slice (some ⟨b7, 0, none⟩) 9 9, .int .i64 9, .int .i64 k] ∧ I = J ∧
      S' = [[(b1, row [.int .i64 5, .int .i64 3, .int .i64 3, .int .i64 0] 25)], [(b7, row wrongCells 25)]])
    (fun vs _ _ => match vs with | [_, _, _, _, _, _, _, _, _, .int _ k] => (9 - k).toNat | _ => 0) ?_ ?_
  · exact ⟨_, Drop.pick [0, 6] _ rfl, 0, by omega, rfl, rfl, rfl⟩
  · rintro vs g J S' hJ ⟨k, hk, rfl, rfl, rfl⟩
    refine CmpD.split (fun c => ?_) (fun c => ?_)
    · obtain ⟨s, t, u, h, hc, hn, hs, ht, hu, hh⟩ := wrong_at k (by omega)
      refine Chk.mk (by omega) ?_
      refine LoadD.own 1 rfl _ hc rfl ?_
      conv => whnf
      intro b8
      refine StoreD.st 2 rfl rfl rfl ?_
      refine LoadD.own 2 rfl _ rfl rfl ?_
      refine Tri.free (ring_Reserve s t u h 0 _ hs ht hu hh (i64 _ (by decide))) ?_
      rintro v J _ hJ ⟨⟨a, b, c, d, e, rfl, h1⟩, rfl⟩
      rw [reserveS, if_pos (.inl hn)] at h1
      simp only [Prod.mk.injEq] at h1
      obtain ⟨rfl, rfl, rfl, rfl, rfl⟩ := h1
      conv => whnf
      intro b9
      refine StoreD.st 3 rfl rfl rfl ?_
      refine CmpD.yes (by omega) ?_
      refine LoadD.own 2 rfl _ rfl rfl ?_
      refine Tri.free (ring_Right s t u h _ hs ht hu hh) ?_
      rintro v J _ hJ ⟨b, rfl, h2, rfl⟩
      cases b
      case true => exact absurd (h2.1 rfl) hn
      refine LoadD.own 2 rfl _ rfl rfl ?_
      refine Tri.free (ring_Free s t u h _ hs ht hu hh) ?_
      rintro v J _ hJ ⟨rfl, rfl⟩
      rw [if_neg hn]
      refine CmpD.yes (by omega) ?_
      refine ToD.i64 (by omega) (by omega) ?_
      refine ⟨_, Drop.pick [0, 1] _ rfl, ⟨k + 1, by omega, rfl, rfl, rfl⟩, ?_⟩
      show (9 - ((k : Int) + 1)).toNat < (9 - (k : Int)).toNat
      omega
    · refine CmpD.yes (by omega) ?_
      refine CmpD.yes (by omega) ?_
      refine CmpD.yes (by omega) ?_
      refine CmpD.yes (by omega) ?_
      refine CmpD.yes (by omega) ?_
      refine CmpD.yes (by omega) ?_
      refine LoadD.own 0 rfl _ rfl rfl ?_
      refine Tri.free (ring_Free 5 3 3 0 _ (i64 _ (by decide)) (i64 _ (by decide)) (i64 _ (by decide)) (i64 _ (by decide))) ?_
      rintro v J _ hJ ⟨rfl, rfl⟩
      rw [if_pos (by decide)]
      refine CmpD.yes (by omega) ?_
      refine Tri.free (ring_Right 512 511 500 12 _ (i64 _ (by decide)) (i64 _ (by decide)) (i64 _ (by decide)) (i64 _ (by decide))) ?_
      rintro v J _ hJ ⟨b, rfl, h2, rfl⟩
      cases b
      case false => exact absurd (h2.2 (by decide)) (by simp)
      refine Tri.free (ring_awake _) ?_
      rintro v J _ hJ ⟨rfl, rfl⟩
      exact Done.mk rfl
end Go.Proofs.Ythlcdoabjgdpiaa

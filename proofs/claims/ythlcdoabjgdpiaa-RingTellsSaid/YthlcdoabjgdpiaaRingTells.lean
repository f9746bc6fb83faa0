/- 'RingTells' returns true: all calls answer as the document says. No condition. -/
import Derived.Test.YthlcdoabjgdpiaaRingAwake
import Derived.Test.YthlcdoabjgdpiaaRingRef
namespace Go.Proofs.Ythlcdoabjgdpiaa
open Go.RowKit Go.Sl

set_option maxHeartbeats 1000000 in
set_option maxRecDepth 20000 in
theorem ringTells_walk (s t u h : Int) (hs : In64 s) (ht : In64 t) (hu : In64 u) (hh : In64 h) (n : Int) (hn : In64 n) (k : Int) (hk : In64 k) (I : Imm) :
    Tri Try.prog 5 #[rg s t u h, .int .i64 n, .int .i64 k] I [] fun v _ _ => v = .bool true := by
  refine Tri.of (args := [rg s t u h, .int .i64 n, .int .i64 k]) tabOk Try.func5 rfl (by kernel_rfl) (by kernel_rfl) ?_
  conv => whnf
  intro b0
  refine LoadD.own 0 rfl _ rfl rfl ?_
  refine Tri.free (ring_At s t u h n I hs ht hu hh hn) ?_
  rintro v J _ hJ ⟨a1, e1, rfl, h1, rfl⟩
  refine LoadD.own 0 rfl _ rfl rfl ?_
  refine Tri.free (ref_At s t u h n I hs ht hu hh hn) ?_
  rintro v J _ hJ ⟨a2, e2, rfl, h2, rfl⟩
  rw [← h1] at h2
  simp only [Prod.mk.injEq] at h2
  obtain ⟨rfl, rfl⟩ := h2
  refine LoadD.own 0 rfl _ rfl rfl ?_
  refine Tri.free (ring_Reserve s t u h n I hs ht hu hh hn) ?_
  rintro v J _ hJ ⟨⟨ra, rb, rc, rd, re, rfl, h3⟩, rfl⟩
  conv => whnf
  intro b1
  refine StoreD.st 1 rfl rfl rfl ?_
  refine LoadD.own 0 rfl _ rfl rfl ?_
  refine Tri.free (ref_Reserve s t u h n I hs ht hu hh hn) ?_
  rintro v J _ hJ ⟨⟨qa, qb, qc, qd, qe, rfl, h4⟩, rfl⟩
  rw [h3] at h4
  simp only [Prod.mk.injEq] at h4
  obtain ⟨rfl, rfl, rfl, rfl, rfl⟩ := h4
  conv => whnf
  intro b2
  refine StoreD.st 2 rfl rfl rfl ?_
  refine CmpD.yes rfl ?_
  refine CmpD.yes rfl ?_
  refine LoadD.own 1 rfl _ rfl rfl ?_
  refine LoadD.own 2 rfl _ rfl rfl ?_
  refine ring_cmp _ _ _ _ _ _ _ _ rfl (.inr rfl) rfl rfl ?_
  refine CmpD.yes rfl ?_
  refine CmpD.yes rfl ?_
  refine LoadD.own 0 rfl _ rfl rfl ?_
  refine Tri.free (ring_Release s t u h n I hs ht hu hh hn) ?_
  rintro v J _ hJ ⟨⟨ra, rb, rc, rd, re, rfl, h5⟩, rfl⟩
  refine StoreD.st 1 rfl rfl rfl ?_
  refine LoadD.own 0 rfl _ rfl rfl ?_
  refine Tri.free (ref_Release s t u h n I hs ht hu hh hn) ?_
  rintro v J _ hJ ⟨⟨qa, qb, qc, qd, qe, rfl, h6⟩, rfl⟩
  rw [h5] at h6
  simp only [Prod.mk.injEq] at h6
  obtain ⟨rfl, rfl, rfl, rfl, rfl⟩ := h6
  refine StoreD.st 2 rfl rfl rfl ?_
  refine LoadD.own 0 rfl _ rfl rfl ?_
  refine Tri.free (ring_Put s t u h n I hs ht hu hh hn k hk) ?_
  rintro v J _ hJ ⟨⟨pa, pb, pc, pd, px, pe, rfl, h7⟩, rfl⟩
  conv => whnf
  intro b3
  refine StoreD.st 3 rfl rfl rfl ?_
  refine LoadD.own 0 rfl _ rfl rfl ?_
  refine Tri.free (ref_Put s t u h n I hs ht hu hh hn k hk) ?_
  rintro v J _ hJ ⟨⟨qa, qb, qc, qd, qx, qe, rfl, h8⟩, rfl⟩
  rw [h7] at h8
  simp only [Prod.mk.injEq] at h8
  obtain ⟨⟨rfl, rfl, rfl, rfl, rfl⟩, rfl⟩ := h8
  conv => whnf
  intro b4
  refine StoreD.st 4 rfl rfl rfl ?_
  refine LoadD.own 1 rfl _ rfl rfl ?_
  refine LoadD.own 2 rfl _ rfl rfl ?_
  refine ring_cmp _ _ _ _ _ _ _ _ rfl (.inr rfl) rfl rfl ?_
  refine CmpD.yes rfl ?_
  refine CmpD.yes rfl ?_
  refine LoadD.own 3 rfl _ rfl rfl ?_
  refine LoadD.own 4 rfl _ rfl rfl ?_
  refine ring_cmp _ _ _ _ _ _ _ _ rfl (.inr rfl) rfl rfl ?_
  refine CmpD.yes rfl ?_
  refine CmpD.yes rfl ?_
  refine CmpD.yes rfl ?_
  refine LoadD.own 0 rfl _ rfl rfl ?_
  refine Tri.free (ring_Drop s t u h n I hs ht hu hh hn) ?_
  rintro v J _ hJ ⟨⟨ra, rb, rc, rd, re, rfl, h5⟩, rfl⟩
  refine StoreD.st 1 rfl rfl rfl ?_
  refine LoadD.own 0 rfl _ rfl rfl ?_
  refine Tri.free (ref_Drop s t u h n I hs ht hu hh hn) ?_
  rintro v J _ hJ ⟨⟨qa, qb, qc, qd, qe, rfl, h6⟩, rfl⟩
  rw [h5] at h6
  simp only [Prod.mk.injEq] at h6
  obtain ⟨rfl, rfl, rfl, rfl, rfl⟩ := h6
  refine StoreD.st 2 rfl rfl rfl ?_
  refine CodeF.sched [[], [], [0, 1], [0, 1, 2], [0, 1, 2, 3], [0, 1, 2, 3], [0, 1, 2, 3, 4, 5], [0, 1, 2, 3, 4, 5, 6], [0, 1, 2, 3, 4, 5, 6, 7], [0, 1, 2, 3, 4, 5, 6, 7, 8], [0, 1, 2, 3, 4, 5, 6, 7, 8, 9], [0, 1, 2, 3, 4, 5, 6, 7, 8], [0, 1, 2, 3, 4, 5, 6, 7, 8, 9, 10, 11], [0, 1, 2, 3, 4, 5, 6, 7, 8, 9, 10, 11, 12], [0, 1, 2, 3, 4, 5, 6, 7, 8, 9, 10, 11, 12, 13], [0, 1, 2, 3, 4, 5, 6, 7, 8, 9, 10, 11, 12, 13, 14], [0, 1, 2, 3, 4, 5, 6, 7, 8, 9, 10, 11, 12, 13, 14, 15], [0, 1, 2, 3, 4, 5, 6, 7, 8, 9, 10, 11, 12, 13, 14, 15, 16], [0, 1, 2, 3, 4, 5, 6, 7, 8, 9, 10, 11, 12, 13, 14, 15], [0, 1, 2, 3, 4, 5, 6, 7, 8, 9, 10, 11, 12, 13, 14, 15, 16, 17, 18], [0, 1, 2, 3, 4, 5, 6, 7, 8, 9, 10, 11, 12, 13, 14, 15, 16, 17, 18, 19], [0, 1, 2, 3, 4, 5, 6, 7, 8, 9, 10, 11, 12, 13, 14, 15, 16, 17, 18, 19, 20], [0, 1, 2, 3, 4, 5, 6, 7, 8, 9, 10, 11, 12, 13, 14, 15, 16, 17, 18, 19, 20, 21], [0, 1, 2, 3, 4, 5, 6, 7, 8, 9, 10, 11, 12, 13, 14, 15, 16, 17, 18, 19, 20, 21, 22], [0, 1, 2, 3, 4, 5, 6, 7, 8, 9, 10, 11, 12, 13, 14, 15, 16, 17, 18, 19, 20, 21, 22, 23], [0, 1, 2, 3, 4, 5, 6, 7, 8, 9, 10, 11, 12, 13, 14, 15, 16, 17, 18, 19, 20, 21, 22, 23, 24]] [0, 1, 2, 3, 4, 5, 6, 7, 8, 9, 11, 10, 12, 13, 14, 15, 16, 18, 17, 19, 20, 21, 22, 23, 24, 25] (by kernel_rfl) ?_
  refine LoadP.at 1 rfl _ rfl rfl ?_
  refine LoadP.at 2 rfl _ rfl rfl ?_
  refine ring_cmp _ _ _ _ _ _ _ _ rfl (.inl rfl) rfl rfl ?_
  refine CmpD.yes rfl ?_
  refine CmpD.yes rfl ?_
  refine LoadP.at 0 rfl _ rfl rfl ?_
  refine LoadP.at 0 rfl _ rfl rfl ?_
  refine Tri.free (ring_Right s t u h I hs ht hu hh) ?_
  rintro v J _ hJ ⟨r1, rfl, k1, rfl⟩
  refine Chk.mk ⟨rfl, trivial⟩ ?_
  refine Tri.free (ref_Right s t u h I hs ht hu hh) ?_
  rintro v J _ hJ ⟨r2, rfl, k2, rfl⟩
  obtain rfl : r1 = r2 := by rw [Bool.eq_iff_iff, k1, k2]
  cases r1
  · refine LoadP.at 0 rfl _ rfl rfl ?_
    refine LoadP.at 0 rfl _ rfl rfl ?_
    refine Tri.free (ring_Free s t u h I hs ht hu hh) ?_
    rintro v J _ hJ ⟨rfl, rfl⟩
    refine Chk.mk ⟨rfl, trivial⟩ ?_
    refine Tri.free (ref_Free s t u h I hs ht hu hh) ?_
    rintro v J _ hJ ⟨rfl, rfl⟩
    refine CmpD.yes rfl ?_
    refine Tri.free (ring_awake I) ?_
    rintro v J _ hJ ⟨rfl, rfl⟩
    exact Done.mk rfl
  · refine LoadP.at 0 rfl _ rfl rfl ?_
    refine LoadP.at 0 rfl _ rfl rfl ?_
    refine Tri.free (ring_Free s t u h I hs ht hu hh) ?_
    rintro v J _ hJ ⟨rfl, rfl⟩
    refine Chk.mk ⟨rfl, trivial⟩ ?_
    refine Tri.free (ref_Free s t u h I hs ht hu hh) ?_
    rintro v J _ hJ ⟨rfl, rfl⟩
    refine CmpD.yes rfl ?_
    refine Tri.free (ring_awake I) ?_
    rintro v J _ hJ ⟨rfl, rfl⟩
    exact Done.mk rfl
end Go.Proofs.Ythlcdoabjgdpiaa

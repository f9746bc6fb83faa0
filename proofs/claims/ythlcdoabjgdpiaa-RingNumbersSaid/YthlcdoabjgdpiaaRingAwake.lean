/- Layer 7: the chapter's examples come out as written. -/
import Derived.Test.YthlcdoabjgdpiaaRingAt
import Derived.Test.YthlcdoabjgdpiaaSl9
namespace Go.Proofs.Ythlcdoabjgdpiaa
open Go.RowKit Go.Sl

theorem ring_cmp {o : Oper} {ρ : Env} {op : BinOp} {yt : TypeId} {x y : Operand} {K : Value → Prop} (a b c d a' b' c' d' : Int) (ho : o.op = .binOp op 25 x y yt) (hop : op = .eql ∨ op = .neq)
    (hx : ρ.ev x = rg a b c d) (hy : ρ.ev y = rg a' b' c' d') (h : CmpD ([a, b, c, d] = [a', b', c', d']) fun t => boolF (xor (op == .neq) t) fun t => K (.bool t)) : PureD Try.prog o ρ K :=
  eq_ints (k := .i64) tabOk [a, b, c, d] [a', b', c', d'] ho hop rfl hx hy (by kernel_rfl) (by kernel_rfl) (by kernel_rfl) rfl rfl h

theorem ring_awake (I : Imm) : Tri Try.prog 13 #[] I [] fun v J _ => v = .bool true ∧ I = J := by
  have i64 : ∀ n : Int, -100 ≤ n ∧ n ≤ 1000 → In64 n := fun n h => by unfold In64; omega
  refine Tri.of (args := []) tabOk Try.func13 rfl (by kernel_rfl) (by kernel_rfl) ?_
  refine Tri.free (ring_Put 5 3 0 0 3 I (i64 _ (by decide)) (i64 _ (by decide)) (i64 _ (by decide)) (i64 _ (by decide)) (i64 _ (by decide)) 0 (i64 _ (by decide))) ?_
  rintro v J _ hJ ⟨⟨a, b, c, d, x, e, rfl, h1⟩, rfl⟩
  rw [show putS 5 3 0 0 3 0 = ((5, 3, 3, 0, 0), 3) from by decide] at h1
  simp only [Prod.mk.injEq] at h1
  obtain ⟨⟨rfl, rfl, rfl, rfl, rfl⟩, rfl⟩ := h1
  conv => whnf
  intro b1
  refine StoreD.st 0 rfl rfl rfl ?_
  refine LoadD.own 0 rfl _ rfl rfl ?_
  refine Tri.free (ring_At 5 3 3 0 2 I (i64 _ (by decide)) (i64 _ (by decide)) (i64 _ (by decide)) (i64 _ (by decide)) (i64 _ (by decide))) ?_
  rintro v J _ hJ ⟨a2, e2, rfl, h2, rfl⟩
  rw [show atS 5 3 3 0 2 = (0, 0) from by decide] at h2
  simp only [Prod.mk.injEq] at h2
  obtain ⟨rfl, rfl⟩ := h2
  refine LoadD.own 0 rfl _ rfl rfl ?_
  refine Tri.free (ring_Reserve 5 3 3 0 2 I (i64 _ (by decide)) (i64 _ (by decide)) (i64 _ (by decide)) (i64 _ (by decide)) (i64 _ (by decide))) ?_
  rintro v J _ hJ ⟨⟨a, b, c, d, e, rfl, h3⟩, rfl⟩
  rw [show reserveS 5 3 3 0 2 = (5, 3, 3, 2, 0) from by decide] at h3
  simp only [Prod.mk.injEq] at h3
  obtain ⟨rfl, rfl, rfl, rfl, rfl⟩ := h3
  conv => whnf
  intro b2
  refine StoreD.st 1 rfl rfl rfl ?_
  refine LoadD.own 1 rfl _ rfl rfl ?_
  refine Tri.free (ring_Put 5 3 3 2 1 I (i64 _ (by decide)) (i64 _ (by decide)) (i64 _ (by decide)) (i64 _ (by decide)) (i64 _ (by decide)) 0 (i64 _ (by decide))) ?_
  rintro v J _ hJ ⟨⟨a, b, c, d, x, e, rfl, h4⟩, rfl⟩
  rw [show putS 5 3 3 2 1 0 = ((0, 0, 0, 0, 5), 0) from by decide] at h4
  simp only [Prod.mk.injEq] at h4
  obtain ⟨⟨rfl, rfl, rfl, rfl, rfl⟩, rfl⟩ := h4
  conv => whnf
  intro b3
  refine StoreD.st 2 rfl rfl rfl ?_
  refine LoadD.own 1 rfl _ rfl rfl ?_
  refine Tri.free (ring_Put 5 3 3 2 2 I (i64 _ (by decide)) (i64 _ (by decide)) (i64 _ (by decide)) (i64 _ (by decide)) (i64 _ (by decide)) 1 (i64 _ (by decide))) ?_
  rintro v J _ hJ ⟨⟨a, b, c, d, x, e, rfl, h5⟩, rfl⟩
  rw [show putS 5 3 3 2 2 1 = ((0, 0, 0, 0, 5), 0) from by decide] at h5
  simp only [Prod.mk.injEq] at h5
  obtain ⟨⟨rfl, rfl, rfl, rfl, rfl⟩, rfl⟩ := h5
  conv => whnf
  intro b4
  refine StoreD.st 3 rfl rfl rfl ?_
  refine LoadD.own 1 rfl _ rfl rfl ?_
  refine Tri.free (ring_Put 5 3 3 2 2 I (i64 _ (by decide)) (i64 _ (by decide)) (i64 _ (by decide)) (i64 _ (by decide)) (i64 _ (by decide)) 2 (i64 _ (by decide))) ?_
  rintro v J _ hJ ⟨⟨a, b, c, d, x, e, rfl, h6⟩, rfl⟩
  rw [show putS 5 3 3 2 2 2 = ((5, 3, 5, 0, 0), 1) from by decide] at h6
  simp only [Prod.mk.injEq] at h6
  obtain ⟨⟨rfl, rfl, rfl, rfl, rfl⟩, rfl⟩ := h6
  conv => whnf
  intro b5
  refine StoreD.st 4 rfl rfl rfl ?_
  refine LoadD.own 4 rfl _ rfl rfl ?_
  refine Tri.free (ring_Drop 5 3 5 0 4 I (i64 _ (by decide)) (i64 _ (by decide)) (i64 _ (by decide)) (i64 _ (by decide)) (i64 _ (by decide))) ?_
  rintro v J _ hJ ⟨⟨a, b, c, d, e, rfl, h7⟩, rfl⟩
  rw [show dropS 5 3 5 0 4 = (5, 2, 1, 0, 0) from by decide] at h7
  simp only [Prod.mk.injEq] at h7
  obtain ⟨rfl, rfl, rfl, rfl, rfl⟩ := h7
  conv => whnf
  intro b6
  refine StoreD.st 5 rfl rfl rfl ?_
  refine ToD.i64 (by omega) (by omega) ?_
  refine ToD.i64 (by omega) (by omega) ?_
  refine ToD.i64 (by omega) (by omega) ?_
  refine ToD.i64 (by omega) (by omega) ?_
  refine CmpD.yes (by omega) ?_
  refine CmpD.yes (by omega) ?_
  refine LoadD.own 0 rfl _ rfl rfl ?_
  refine ring_cmp _ _ _ _ _ _ _ _ rfl (.inl rfl) rfl rfl ?_
  refine CmpD.yes (by decide) ?_
  refine CmpD.yes (by omega) ?_
  refine CmpD.yes (by omega) ?_
  refine CmpD.yes (by omega) ?_
  refine CmpD.yes (by omega) ?_
  refine LoadD.own 4 rfl _ rfl rfl ?_
  refine ring_cmp _ _ _ _ _ _ _ _ rfl (.inl rfl) rfl rfl ?_
  refine CmpD.yes (by decide) ?_
  refine LoadD.own 5 rfl _ rfl rfl ?_
  refine ring_cmp _ _ _ _ _ _ _ _ rfl (.inl rfl) rfl rfl ?_
  refine CmpD.yes (by decide) ?_
  exact Done.mk ⟨rfl, rfl⟩
end Go.Proofs.Ythlcdoabjgdpiaa
